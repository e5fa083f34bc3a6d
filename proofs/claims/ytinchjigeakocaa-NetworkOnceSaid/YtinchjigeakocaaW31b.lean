/- A part of this claim's proof: models of functions, walks, plain laws. No conditions. -/
import Derived.Test.YtinchjigeakocaaW31a
namespace Go.Proofs.Ytinchjigeakocaa
open Go Go.RowKit Sep
set_option linter.all false
set_option maxRecDepth 30000
set_option maxHeartbeats 4000000
def y1J (za : List zSt) (zH : Sapi_Config) (z78 : Option Bool) : Nat → Int → Option Bool
 | 0,_=>none
 | zhr + 1,zf=>if decide (zf < ((za.length : Nat) : Int)) then chk ((0 : Int) ≤ zf ∧ zf < ((za.length : Nat) : Int)) (chk (((((((decide (((nth za zf).fTime) < 0)) || (decide (((nth za zf).fTime) > 536870912))) || (decide (((nth za zf).fVL) < 0))) || (decide (((nth za zf).fVL) ≥ ((zH.fVLs.length : Nat) : Int)))) || (decide (((nth za zf).fSize) < 1))) || (decide (((nth za zf).fSize) > 72))) = false → ((decide (zf > 0)) = true → ((0 : Int) ≤ (i64 (zf - 1)) ∧ (i64 (zf - 1)) < ((za.length : Nat) : Int)))) (if ((((((decide (((nth za zf).fTime) < 0)) || (decide (((nth za zf).fTime) > 536870912))) || (decide (((nth za zf).fVL) < 0))) || (decide (((nth za zf).fVL) ≥ ((zH.fVLs.length : Nat) : Int)))) || (decide (((nth za zf).fSize) < 1))) || (decide (((nth za zf).fSize) > 72))) || ((decide (zf > 0)) && (decide (((nth za (i64 (zf - 1))).fTime) > ((nth za zf).fTime)))) then some false else y1J za zH z78 zhr (i64 (zf + 1)))) else z78
theorem y5p {n : Nat} {za : List zSt} {zH : Sapi_Config} {z78 : Option Bool} {zf : Int} {r : Bool} (h : y1J za zH z78 n zf = some r) : ∃ m,n = m + 1:=by
 cases n with
 | zero=>cases h
 | succ m=>exact ⟨m,rfl⟩
def y3e (zH : Sapi_Config) (za : List zSt) : Option Bool :=
 jp0 (some (decide (((za.length : Nat) : Int) ≤ 4000))) fun z78=>y1J za zH z78 yt 0
set_option maxRecDepth 20000 in
theorem y7k (Z : Zp) (zaV : Option Addr) (zaW : Nat) (zaX : Option Addr) (zaY : Nat) (zaZ : Option Addr) (zb0 : Nat) (zb1 : Option Addr) (zb2 : Nat) (zb3 : Option Addr) (zb4 : Nat) (zb5 : Option Addr) (zb6 : Nat) (zb7 : Option Addr) (zb8 : Nat) (zb9 : Option Addr) (zba : Nat) (z25 : Option Addr) (z26 : Nat) (zH : Sapi_Config) (za : List zSt) (r : Bool)
  (h : y3e zH za = some r) (w₀ : World) (hz : PZ [] w₀ Z)
  (zwV : ZS Z 4 (y2w Z) zaV zaW zH.fModules)
  (zwW : ZS Z 4 (y2S Z) zaX zaY zH.fChannels)
  (zwX : ZS Z 4 (fun r x=>r = e64 x) zaZ zb0 zH.fSwitches)
  (zwY : ZS Z 4 (fun r x=>r = e62 x) zb1 zb2 zH.fLinks)
  (zwZ : ZS Z 7 (y2F Z) zb3 zb4 zH.fVLs)
  (zx0 : ZS Z 5 (fun r x=>r = y2Y x) zb5 zb6 zH.fHealth)
  (zx1 : ZS Z 3 (y2T Z) zb7 zb8 zH.fCauses)
  (zx2 : ZS Z 4 (fun r x=>r = y2Z x) zb9 zba zH.fVersions)
  (zm6 : ZS Z 3 (fun r x=>r = e53 x) z25 z26 za) :
  Calls Try.prog 24 #[(.agg #[(.slice zaV zH.fModules.length zaW),(.slice zaX zH.fChannels.length zaY),(.slice zaZ zH.fSwitches.length zb0),(.slice zb1 zH.fLinks.length zb2),(.slice zb3 zH.fVLs.length zb4),(.slice zb5 zH.fHealth.length zb6),(.slice zb7 zH.fCauses.length zb8),(.slice zb9 zH.fVersions.length zba)]),(.slice z25 za.length z26)] w₀ fun e w'=>e = .returned (.bool r) ∧ Hp [] w₀ w' []:=by
 unfold y3e at h
 refine Calls.yo (vs:=[(.agg #[(.slice zaV zH.fModules.length zaW),(.slice zaX zH.fChannels.length zaY),(.slice zaZ zH.fSwitches.length zb0),(.slice zb1 zH.fLinks.length zb2),(.slice zb3 zH.fVLs.length zb4),(.slice zb5 zH.fHealth.length zb6),(.slice zb7 zH.fCauses.length zb8),(.slice zb9 zH.fVersions.length zba)]),(.slice z25 za.length z26)]) (pre:=[]) (env:=[(0,(.agg #[(.slice zaV zH.fModules.length zaW),(.slice zaX zH.fChannels.length zaY),(.slice zaZ zH.fSwitches.length zb0),(.slice zb1 zH.fLinks.length zb2),(.slice zb3 zH.fVLs.length zb4),(.slice zb5 zH.fHealth.length zb6),(.slice zb7 zH.fCauses.length zb8),(.slice zb9 zH.fVersions.length zba)])),(1,(.slice z25 za.length z26))]) Try.func24 rfl Try.ntmps24 rfl (Hp.nil w₀ _) rfl ?_
 refine WC.b (WC.a ?_)
 refine WL.new (dd:=2) rfl rfl rfl (y2h (cs:=[(.slice zaV zH.fModules.length zaW),(.slice zaX zH.fChannels.length zaY),(.slice zaZ zH.fSwitches.length zb0),(.slice zb1 zH.fLinks.length zb2),(.slice zb3 zH.fVLs.length zb4),(.slice zb5 zH.fHealth.length zb6),(.slice zb7 zH.fCauses.length zb8),(.slice zb9 zH.fVersions.length zba)]) rfl rfl) ?_
 intro z79 _
 refine WL.pu rfl (WL.nil (WX.a ?_))
 obtain ⟨z78,zr1,h⟩:=y2E h
 refine WC.y2u ((z78 = some r)) ([(1,(.slice z25 za.length z26))]) ([]) ?_ ?_
 ·skip
  refine WC.b (WC.a (WL.pu rfl ?_))
  refine WL.a (d:=8) rfl rfl rfl (yW Try.underlying33 rfl) ?_
  refine WL.pu rfl (WL.nil (WX.a (WC.block ?_)))
  refine WC.y4a (fun (zbb : Nat) (zf : Int)=>(y1J za zH z78 zbb zf = some r)) (fun (zbb : Nat) (zf : Int)=>[(1,(.slice z25 za.length z26)),(2,(.pointer (some ⟨z79,0,none⟩))),(7,(.slice z25 za.length z26)),(8,(.int .i64 ((za.length : Nat) : Int))),(9,(.int .i64 zf))]) (fun (zbb : Nat) (zf : Int)=>[stb z79 31 [(.slice zaV zH.fModules.length zaW),(.slice zaX zH.fChannels.length zaY),(.slice zaZ zH.fSwitches.length zb0),(.slice zb1 zH.fLinks.length zb2),(.slice zb3 zH.fVLs.length zb4),(.slice zb5 zH.fHealth.length zb6),(.slice zb7 zH.fCauses.length zb8),(.slice zb9 zH.fVersions.length zba)]]) (fun (zbb : Nat) (zf : Int)=>zbb) ⟨yt,0⟩ h (.cons rfl (.cons rfl (.cons rfl (.cons rfl (.cons rfl .nil))))) (.cons .here .nil) ?_
  rintro zbb zf h
  obtain ⟨zhr,rfl⟩:=y5p h
  rw [y1J] at h
  refine WC.b (WC.a (WL.pu rfl (WL.nil (WX.a (WC.b ?_)))))
  refine WC.cond rfl (fun zhs=>?_) (fun zhs=>?_)
  ·replace h:=yl h zhs
   refine WC.skip (WX.a (WC.b (WC.block (WC.b ?_))))
   obtain ⟨zr2,h⟩:=yj h
   refine WC.a (WL.pu rfl ?_)
   refine WL.znth (dd:=12) rfl rfl (Z:=Z) (Pr:=(fun r x=>r = e53 x)) y4p rfl rfl zm6 zr2 ?_
   rintro zx3 zx4 zr3 zx5 rfl
   refine WL.a (d:=13) rfl rfl rfl (yN y73 rfl (y3u hz.pv zr3) rfl) ?_
   refine WL.new (dd:=6) rfl rfl rfl (y2d (cs:=[(.int .i64 0),(.int .i64 0),(.int .i64 0)]) y6j rfl) ?_
   intro zdS _
   refine WL.pu rfl ?_
   refine WL.y1u rfl rfl (y1K y74 rfl rfl rfl .here rfl rfl rfl) ?_
   refine WL.nil (WX.a (WC.b ?_))
   obtain ⟨zr4,h⟩:=yj h
   refine WC.yY (fun i=>[].contains i) [] rfl ?_
   refine WD.a (i:=0) (d:=14) (by kernel_rfl) rfl (z2 (by kernel_rfl)) (z3 (by kernel_rfl)) rfl rfl rfl (fun _=>ya y40 rfl rfl) ?_
   refine WD.e (i:=1) (d:=15) (by kernel_rfl) rfl (z2 (by kernel_rfl)) (z3 (by kernel_rfl)) rfl rfl rfl (yb yg rfl (yc .here rfl)) ?_
   refine WD.a (i:=2) (d:=16) (by kernel_rfl) rfl (z2 (by kernel_rfl)) (z3 (by kernel_rfl)) rfl rfl rfl (fun _=>y3i rfl rfl) ?_
   refine WD.a (i:=3) (d:=17) (by kernel_rfl) rfl (z2 (by kernel_rfl)) (z3 (by kernel_rfl)) rfl rfl rfl (fun _=>q_m rfl) ?_
   refine WD.mid (fuel':=38) [(1,(.slice z25 za.length z26)),(2,(.pointer (some ⟨z79,0,none⟩))),(7,(.slice z25 za.length z26)),(8,(.int .i64 ((za.length : Nat) : Int))),(9,(.int .i64 zf)),(6,(.pointer (some ⟨zdS,0,none⟩))),(5,(.int .i64 zf)),(17,(.bool (decide (((nth za zf).fTime) < 0)))),(21,(.bool ((decide (((nth za zf).fTime) < 0)) || (decide (((nth za zf).fTime) > 536870912)))))] (y1C 46 [7,6,5,4,3,2,1,0]) ?_ (fun zm7=>?_)
   rotate_left
   ·rcases Bool.eq_false_or_eq_true (decide (((nth za zf).fTime) < 0)) with hb' | hb'
    ·have zht:=hb'; clear hb'
     refine WD.pin (i:=17) rfl zht ?_
     refine WD.b (i:=4) (d:=18) (by kernel_rfl) rfl (z2 (by kernel_rfl)) (z3 (by kernel_rfl)) rfl rfl rfl ?_
     refine WD.b (i:=5) (d:=19) (by kernel_rfl) rfl (z2 (by kernel_rfl)) (z3 (by kernel_rfl)) rfl rfl rfl ?_
     refine WD.b (i:=6) (d:=20) (by kernel_rfl) rfl (z2 (by kernel_rfl)) (z3 (by kernel_rfl)) rfl rfl rfl ?_
     refine WD.a (i:=7) (d:=21) (by kernel_rfl) rfl (z2 (by kernel_rfl)) (z3 (by kernel_rfl)) rfl rfl rfl (fun _=>y1o rfl rfl) ?_
     refine WD.yO (.cons .here (.cons .here .nil)) ?_ zm7
     exact (.cons rfl (.cons rfl (.cons rfl (.cons rfl (.cons rfl (.cons rfl (.cons rfl (.cons (zm (Eq.symm zht)) (.cons (zm (y24 zht)) .nil)))))))))
    ·have zhu:=hb'; clear hb'
     refine WD.pin (i:=17) rfl zhu ?_
     refine WD.a (i:=4) (d:=18) (by kernel_rfl) rfl (z2 (by kernel_rfl)) (z3 (by kernel_rfl)) rfl rfl rfl (fun _=>ya y40 rfl rfl) ?_
     refine WD.e (i:=5) (d:=19) (by kernel_rfl) rfl (z2 (by kernel_rfl)) (z3 (by kernel_rfl)) rfl rfl rfl (yb yg rfl (yc .here rfl)) ?_
     refine WD.a (i:=6) (d:=20) (by kernel_rfl) rfl (z2 (by kernel_rfl)) (z3 (by kernel_rfl)) rfl rfl rfl (fun _=>y3M rfl rfl) ?_
     refine WD.a (i:=7) (d:=21) (by kernel_rfl) rfl (z2 (by kernel_rfl)) (z3 (by kernel_rfl)) rfl rfl rfl (fun _=>y1p rfl rfl) ?_
     refine WD.yO (.cons .here (.cons .here .nil)) ?_ zm7
     exact (.cons rfl (.cons rfl (.cons rfl (.cons rfl (.cons rfl (.cons rfl (.cons rfl (.cons (zm (Eq.symm zhu)) (.cons (zm (y25 zhu)) .nil)))))))))
   refine WD.d #[true,true,true,true,true,true,true,true,false,false,false,false,false,false,false,false,false,false,false,false,false,false,false,false,false,false,false,false,false,false,false,false,false,false,false,false,false,false,false,false,false,false,false,false,false,false] (by kernel_rfl) ?_
   refine WD.a (i:=8) (d:=22) (by kernel_rfl) rfl (z2 (by kernel_rfl)) (z3 (by kernel_rfl)) rfl rfl rfl (fun _=>q_m rfl) ?_
   refine WD.mid (fuel':=33) [(1,(.slice z25 za.length z26)),(2,(.pointer (some ⟨z79,0,none⟩))),(7,(.slice z25 za.length z26)),(8,(.int .i64 ((za.length : Nat) : Int))),(9,(.int .i64 zf)),(6,(.pointer (some ⟨zdS,0,none⟩))),(5,(.int .i64 zf)),(22,(.bool ((decide (((nth za zf).fTime) < 0)) || (decide (((nth za zf).fTime) > 536870912))))),(26,(.bool (((decide (((nth za zf).fTime) < 0)) || (decide (((nth za zf).fTime) > 536870912))) || (decide (((nth za zf).fVL) < 0)))))] (y1C 46 [12,11,10,9,8,7,6,5,4,3,2,1,0]) ?_ (fun zm8=>?_)
   rotate_left
   ·rcases Bool.eq_false_or_eq_true ((decide (((nth za zf).fTime) < 0)) || (decide (((nth za zf).fTime) > 536870912))) with hb' | hb'
    ·have zhv:=hb'; clear hb'
     refine WD.pin (i:=22) rfl zhv ?_
     refine WD.b (i:=9) (d:=23) (by kernel_rfl) rfl (z2 (by kernel_rfl)) (z3 (by kernel_rfl)) rfl rfl rfl ?_
     refine WD.b (i:=10) (d:=24) (by kernel_rfl) rfl (z2 (by kernel_rfl)) (z3 (by kernel_rfl)) rfl rfl rfl ?_
     refine WD.b (i:=11) (d:=25) (by kernel_rfl) rfl (z2 (by kernel_rfl)) (z3 (by kernel_rfl)) rfl rfl rfl ?_
     refine WD.a (i:=12) (d:=26) (by kernel_rfl) rfl (z2 (by kernel_rfl)) (z3 (by kernel_rfl)) rfl rfl rfl (fun _=>y1o rfl rfl) ?_
     refine WD.yO (.cons .here (.cons .here .nil)) ?_ zm8
     exact (.cons rfl (.cons rfl (.cons rfl (.cons rfl (.cons rfl (.cons rfl (.cons rfl (.cons (zm (Eq.symm zhv)) (.cons (zm (y24 zhv)) .nil)))))))))
    ·have zhw:=hb'; clear hb'
     refine WD.pin (i:=22) rfl zhw ?_
     refine WD.a (i:=9) (d:=23) (by kernel_rfl) rfl (z2 (by kernel_rfl)) (z3 (by kernel_rfl)) rfl rfl rfl (fun _=>ya y4L rfl rfl) ?_
     refine WD.e (i:=10) (d:=24) (by kernel_rfl) rfl (z2 (by kernel_rfl)) (z3 (by kernel_rfl)) rfl rfl rfl (yb yg rfl (yc .here rfl)) ?_
     refine WD.a (i:=11) (d:=25) (by kernel_rfl) rfl (z2 (by kernel_rfl)) (z3 (by kernel_rfl)) rfl rfl rfl (fun _=>y3i rfl rfl) ?_
     refine WD.a (i:=12) (d:=26) (by kernel_rfl) rfl (z2 (by kernel_rfl)) (z3 (by kernel_rfl)) rfl rfl rfl (fun _=>y1p rfl rfl) ?_
     refine WD.yO (.cons .here (.cons .here .nil)) ?_ zm8
     exact (.cons rfl (.cons rfl (.cons rfl (.cons rfl (.cons rfl (.cons rfl (.cons rfl (.cons (zm (Eq.symm zhw)) (.cons (zm (y25 zhw)) .nil)))))))))
   refine WD.d #[true,true,true,true,true,true,true,true,true,true,true,true,true,false,false,false,false,false,false,false,false,false,false,false,false,false,false,false,false,false,false,false,false,false,false,false,false,false,false,false,false,false,false,false,false,false] (by kernel_rfl) ?_
   refine WD.a (i:=13) (d:=27) (by kernel_rfl) rfl (z2 (by kernel_rfl)) (z3 (by kernel_rfl)) rfl rfl rfl (fun _=>q_m rfl) ?_
   refine WD.mid (fuel':=25) [(1,(.slice z25 za.length z26)),(2,(.pointer (some ⟨z79,0,none⟩))),(7,(.slice z25 za.length z26)),(8,(.int .i64 ((za.length : Nat) : Int))),(9,(.int .i64 zf)),(6,(.pointer (some ⟨zdS,0,none⟩))),(5,(.int .i64 zf)),(27,(.bool (((decide (((nth za zf).fTime) < 0)) || (decide (((nth za zf).fTime) > 536870912))) || (decide (((nth za zf).fVL) < 0))))),(34,(.bool ((((decide (((nth za zf).fTime) < 0)) || (decide (((nth za zf).fTime) > 536870912))) || (decide (((nth za zf).fVL) < 0))) || (decide (((nth za zf).fVL) ≥ ((zH.fVLs.length : Nat) : Int))))))] (y1C 46 [20,19,18,17,16,15,14,13,12,11,10,9,8,7,6,5,4,3,2,1,0]) ?_ (fun zm9=>?_)
   rotate_left
   ·rcases Bool.eq_false_or_eq_true (((decide (((nth za zf).fTime) < 0)) || (decide (((nth za zf).fTime) > 536870912))) || (decide (((nth za zf).fVL) < 0))) with hb' | hb'
    ·have zhx:=hb'; clear hb'
     refine WD.pin (i:=27) rfl zhx ?_
     refine WD.b (i:=14) (d:=28) (by kernel_rfl) rfl (z2 (by kernel_rfl)) (z3 (by kernel_rfl)) rfl rfl rfl ?_
     refine WD.b (i:=15) (d:=29) (by kernel_rfl) rfl (z2 (by kernel_rfl)) (z3 (by kernel_rfl)) rfl rfl rfl ?_
     refine WD.b (i:=16) (d:=30) (by kernel_rfl) rfl (z2 (by kernel_rfl)) (z3 (by kernel_rfl)) rfl rfl rfl ?_
     refine WD.b (i:=17) (d:=31) (by kernel_rfl) rfl (z2 (by kernel_rfl)) (z3 (by kernel_rfl)) rfl rfl rfl ?_
     refine WD.b (i:=18) (d:=32) (by kernel_rfl) rfl (z2 (by kernel_rfl)) (z3 (by kernel_rfl)) rfl rfl rfl ?_
     refine WD.b (i:=19) (d:=33) (by kernel_rfl) rfl (z2 (by kernel_rfl)) (z3 (by kernel_rfl)) rfl rfl rfl ?_
     refine WD.a (i:=20) (d:=34) (by kernel_rfl) rfl (z2 (by kernel_rfl)) (z3 (by kernel_rfl)) rfl rfl rfl (fun _=>y1o rfl rfl) ?_
     refine WD.yO (.cons .here (.cons .here .nil)) ?_ zm9
     exact (.cons rfl (.cons rfl (.cons rfl (.cons rfl (.cons rfl (.cons rfl (.cons rfl (.cons (zm (Eq.symm zhx)) (.cons (zm (y24 zhx)) .nil)))))))))
    ·have zhy:=hb'; clear hb'
     refine WD.pin (i:=27) rfl zhy ?_
     refine WD.a (i:=14) (d:=28) (by kernel_rfl) rfl (z2 (by kernel_rfl)) (z3 (by kernel_rfl)) rfl rfl rfl (fun _=>ya y4L rfl rfl) ?_
     refine WD.e (i:=15) (d:=29) (by kernel_rfl) rfl (z2 (by kernel_rfl)) (z3 (by kernel_rfl)) rfl rfl rfl (yb yg rfl (yc .here rfl)) ?_
     refine WD.a (i:=16) (d:=30) (by kernel_rfl) rfl (z2 (by kernel_rfl)) (z3 (by kernel_rfl)) rfl rfl rfl (fun _=>ya y70 rfl rfl) ?_
     refine WD.e (i:=17) (d:=31) (by kernel_rfl) rfl (z2 (by kernel_rfl)) (z3 (by kernel_rfl)) rfl rfl rfl (yb y71 rfl (yc .h1 rfl)) ?_
     refine WD.a (i:=18) (d:=32) (by kernel_rfl) rfl (z2 (by kernel_rfl)) (z3 (by kernel_rfl)) rfl rfl rfl (fun _=>yW Try.underlying26 rfl) ?_
     refine WD.a (i:=19) (d:=33) (by kernel_rfl) rfl (z2 (by kernel_rfl)) (z3 (by kernel_rfl)) rfl rfl rfl (fun _=>q_geq rfl rfl) ?_
     refine WD.a (i:=20) (d:=34) (by kernel_rfl) rfl (z2 (by kernel_rfl)) (z3 (by kernel_rfl)) rfl rfl rfl (fun _=>y1p rfl rfl) ?_
     refine WD.yO (.cons .here (.cons .here .nil)) ?_ zm9
     exact (.cons rfl (.cons rfl (.cons rfl (.cons rfl (.cons rfl (.cons rfl (.cons rfl (.cons (zm (Eq.symm zhy)) (.cons (zm (y25 zhy)) .nil)))))))))
   refine WD.d #[true,true,true,true,true,true,true,true,true,true,true,true,true,true,true,true,true,true,true,true,true,false,false,false,false,false,false,false,false,false,false,false,false,false,false,false,false,false,false,false,false,false,false,false,false,false] (by kernel_rfl) ?_
   refine WD.a (i:=21) (d:=35) (by kernel_rfl) rfl (z2 (by kernel_rfl)) (z3 (by kernel_rfl)) rfl rfl rfl (fun _=>q_m rfl) ?_
   refine WD.mid (fuel':=20) [(1,(.slice z25 za.length z26)),(2,(.pointer (some ⟨z79,0,none⟩))),(7,(.slice z25 za.length z26)),(8,(.int .i64 ((za.length : Nat) : Int))),(9,(.int .i64 zf)),(6,(.pointer (some ⟨zdS,0,none⟩))),(5,(.int .i64 zf)),(35,(.bool ((((decide (((nth za zf).fTime) < 0)) || (decide (((nth za zf).fTime) > 536870912))) || (decide (((nth za zf).fVL) < 0))) || (decide (((nth za zf).fVL) ≥ ((zH.fVLs.length : Nat) : Int)))))),(39,(.bool (((((decide (((nth za zf).fTime) < 0)) || (decide (((nth za zf).fTime) > 536870912))) || (decide (((nth za zf).fVL) < 0))) || (decide (((nth za zf).fVL) ≥ ((zH.fVLs.length : Nat) : Int)))) || (decide (((nth za zf).fSize) < 1)))))] (y1C 46 [25,24,23,22,21,20,19,18,17,16,15,14,13,12,11,10,9,8,7,6,5,4,3,2,1,0]) ?_ (fun zma=>?_)
   rotate_left
   ·rcases Bool.eq_false_or_eq_true ((((decide (((nth za zf).fTime) < 0)) || (decide (((nth za zf).fTime) > 536870912))) || (decide (((nth za zf).fVL) < 0))) || (decide (((nth za zf).fVL) ≥ ((zH.fVLs.length : Nat) : Int)))) with hb' | hb'
    ·have zhz:=hb'; clear hb'
     refine WD.pin (i:=35) rfl zhz ?_
     refine WD.b (i:=22) (d:=36) (by kernel_rfl) rfl (z2 (by kernel_rfl)) (z3 (by kernel_rfl)) rfl rfl rfl ?_
     refine WD.b (i:=23) (d:=37) (by kernel_rfl) rfl (z2 (by kernel_rfl)) (z3 (by kernel_rfl)) rfl rfl rfl ?_
     refine WD.b (i:=24) (d:=38) (by kernel_rfl) rfl (z2 (by kernel_rfl)) (z3 (by kernel_rfl)) rfl rfl rfl ?_
     refine WD.a (i:=25) (d:=39) (by kernel_rfl) rfl (z2 (by kernel_rfl)) (z3 (by kernel_rfl)) rfl rfl rfl (fun _=>y1o rfl rfl) ?_
     refine WD.yO (.cons .here (.cons .here .nil)) ?_ zma
     exact (.cons rfl (.cons rfl (.cons rfl (.cons rfl (.cons rfl (.cons rfl (.cons rfl (.cons (zm (Eq.symm zhz)) (.cons (zm (y24 zhz)) .nil)))))))))
    ·have zhA:=hb'; clear hb'
     refine WD.pin (i:=35) rfl zhA ?_
     refine WD.a (i:=22) (d:=36) (by kernel_rfl) rfl (z2 (by kernel_rfl)) (z3 (by kernel_rfl)) rfl rfl rfl (fun _=>ya y5Z rfl rfl) ?_
     refine WD.e (i:=23) (d:=37) (by kernel_rfl) rfl (z2 (by kernel_rfl)) (z3 (by kernel_rfl)) rfl rfl rfl (yb yg rfl (yc .here rfl)) ?_
     refine WD.a (i:=24) (d:=38) (by kernel_rfl) rfl (z2 (by kernel_rfl)) (z3 (by kernel_rfl)) rfl rfl rfl (fun _=>y3i rfl rfl) ?_
     refine WD.a (i:=25) (d:=39) (by kernel_rfl) rfl (z2 (by kernel_rfl)) (z3 (by kernel_rfl)) rfl rfl rfl (fun _=>y1p rfl rfl) ?_
     refine WD.yO (.cons .here (.cons .here .nil)) ?_ zma
     exact (.cons rfl (.cons rfl (.cons rfl (.cons rfl (.cons rfl (.cons rfl (.cons rfl (.cons (zm (Eq.symm zhA)) (.cons (zm (y25 zhA)) .nil)))))))))
   refine WD.d #[true,true,true,true,true,true,true,true,true,true,true,true,true,true,true,true,true,true,true,true,true,true,true,true,true,true,false,false,false,false,false,false,false,false,false,false,false,false,false,false,false,false,false,false,false,false] (by kernel_rfl) ?_
   refine WD.a (i:=26) (d:=40) (by kernel_rfl) rfl (z2 (by kernel_rfl)) (z3 (by kernel_rfl)) rfl rfl rfl (fun _=>q_m rfl) ?_
   refine WD.mid (fuel':=15) [(1,(.slice z25 za.length z26)),(2,(.pointer (some ⟨z79,0,none⟩))),(7,(.slice z25 za.length z26)),(8,(.int .i64 ((za.length : Nat) : Int))),(9,(.int .i64 zf)),(6,(.pointer (some ⟨zdS,0,none⟩))),(5,(.int .i64 zf)),(40,(.bool (((((decide (((nth za zf).fTime) < 0)) || (decide (((nth za zf).fTime) > 536870912))) || (decide (((nth za zf).fVL) < 0))) || (decide (((nth za zf).fVL) ≥ ((zH.fVLs.length : Nat) : Int)))) || (decide (((nth za zf).fSize) < 1))))),(44,(.bool ((((((decide (((nth za zf).fTime) < 0)) || (decide (((nth za zf).fTime) > 536870912))) || (decide (((nth za zf).fVL) < 0))) || (decide (((nth za zf).fVL) ≥ ((zH.fVLs.length : Nat) : Int)))) || (decide (((nth za zf).fSize) < 1))) || (decide (((nth za zf).fSize) > 72)))))] (y1C 46 [30,29,28,27,26,25,24,23,22,21,20,19,18,17,16,15,14,13,12,11,10,9,8,7,6,5,4,3,2,1,0]) ?_ (fun zmb=>?_)
   rotate_left
   ·rcases Bool.eq_false_or_eq_true (((((decide (((nth za zf).fTime) < 0)) || (decide (((nth za zf).fTime) > 536870912))) || (decide (((nth za zf).fVL) < 0))) || (decide (((nth za zf).fVL) ≥ ((zH.fVLs.length : Nat) : Int)))) || (decide (((nth za zf).fSize) < 1))) with hb' | hb'
    ·have zhB:=hb'; clear hb'
     refine WD.pin (i:=40) rfl zhB ?_
     refine WD.b (i:=27) (d:=41) (by kernel_rfl) rfl (z2 (by kernel_rfl)) (z3 (by kernel_rfl)) rfl rfl rfl ?_
     refine WD.b (i:=28) (d:=42) (by kernel_rfl) rfl (z2 (by kernel_rfl)) (z3 (by kernel_rfl)) rfl rfl rfl ?_
     refine WD.b (i:=29) (d:=43) (by kernel_rfl) rfl (z2 (by kernel_rfl)) (z3 (by kernel_rfl)) rfl rfl rfl ?_
     refine WD.a (i:=30) (d:=44) (by kernel_rfl) rfl (z2 (by kernel_rfl)) (z3 (by kernel_rfl)) rfl rfl rfl (fun _=>y1o rfl rfl) ?_
     refine WD.yO (.cons .here (.cons .here .nil)) ?_ zmb
     exact (.cons rfl (.cons rfl (.cons rfl (.cons rfl (.cons rfl (.cons rfl (.cons rfl (.cons (zm (Eq.symm zhB)) (.cons (zm (y24 zhB)) .nil)))))))))
    ·have zhC:=hb'; clear hb'
     refine WD.pin (i:=40) rfl zhC ?_
     refine WD.a (i:=27) (d:=41) (by kernel_rfl) rfl (z2 (by kernel_rfl)) (z3 (by kernel_rfl)) rfl rfl rfl (fun _=>ya y5Z rfl rfl) ?_
     refine WD.e (i:=28) (d:=42) (by kernel_rfl) rfl (z2 (by kernel_rfl)) (z3 (by kernel_rfl)) rfl rfl rfl (yb yg rfl (yc .here rfl)) ?_
     refine WD.a (i:=29) (d:=43) (by kernel_rfl) rfl (z2 (by kernel_rfl)) (z3 (by kernel_rfl)) rfl rfl rfl (fun _=>y3M rfl rfl) ?_
     refine WD.a (i:=30) (d:=44) (by kernel_rfl) rfl (z2 (by kernel_rfl)) (z3 (by kernel_rfl)) rfl rfl rfl (fun _=>y1p rfl rfl) ?_
     refine WD.yO (.cons .here (.cons .here .nil)) ?_ zmb
     exact (.cons rfl (.cons rfl (.cons rfl (.cons rfl (.cons rfl (.cons rfl (.cons rfl (.cons (zm (Eq.symm zhC)) (.cons (zm (y25 zhC)) .nil)))))))))
   refine WD.d #[true,true,true,true,true,true,true,true,true,true,true,true,true,true,true,true,true,true,true,true,true,true,true,true,true,true,true,true,true,true,true,false,false,false,false,false,false,false,false,false,false,false,false,false,false,false] (by kernel_rfl) ?_
   refine WD.a (i:=31) (d:=45) (by kernel_rfl) rfl (z2 (by kernel_rfl)) (z3 (by kernel_rfl)) rfl rfl rfl (fun _=>q_m rfl) ?_
   refine WD.mid (fuel':=0) [(1,(.slice z25 za.length z26)),(2,(.pointer (some ⟨z79,0,none⟩))),(7,(.slice z25 za.length z26)),(8,(.int .i64 ((za.length : Nat) : Int))),(9,(.int .i64 zf)),(45,(.bool ((((((decide (((nth za zf).fTime) < 0)) || (decide (((nth za zf).fTime) > 536870912))) || (decide (((nth za zf).fVL) < 0))) || (decide (((nth za zf).fVL) ≥ ((zH.fVLs.length : Nat) : Int)))) || (decide (((nth za zf).fSize) < 1))) || (decide (((nth za zf).fSize) > 72))))),(59,(.bool (((((((decide (((nth za zf).fTime) < 0)) || (decide (((nth za zf).fTime) > 536870912))) || (decide (((nth za zf).fVL) < 0))) || (decide (((nth za zf).fVL) ≥ ((zH.fVLs.length : Nat) : Int)))) || (decide (((nth za zf).fSize) < 1))) || (decide (((nth za zf).fSize) > 72))) || ((decide (zf > 0)) && (decide (((nth za (i64 (zf - 1))).fTime) > ((nth za zf).fTime)))))))] (y1C 46 [45,44,43,42,41,40,39,38,37,36,35,34,33,32,31,30,29,28,27,26,25,24,23,22,21,20,19,18,17,16,15,14,13,12,11,10,9,8,7,6,5,4,3,2,1,0]) ?_ (fun zmc=>?_)
   rotate_left
   ·rcases Bool.eq_false_or_eq_true ((((((decide (((nth za zf).fTime) < 0)) || (decide (((nth za zf).fTime) > 536870912))) || (decide (((nth za zf).fVL) < 0))) || (decide (((nth za zf).fVL) ≥ ((zH.fVLs.length : Nat) : Int)))) || (decide (((nth za zf).fSize) < 1))) || (decide (((nth za zf).fSize) > 72))) with hb' | hb'
    ·have zhD:=hb'; clear hb'
     refine WD.pin (i:=45) rfl zhD ?_
     refine WD.b (i:=32) (d:=46) (by kernel_rfl) rfl (z2 (by kernel_rfl)) (z3 (by kernel_rfl)) rfl rfl rfl ?_
     refine WD.b (i:=33) (d:=47) (by kernel_rfl) rfl (z2 (by kernel_rfl)) (z3 (by kernel_rfl)) rfl rfl rfl ?_
     refine WD.b (i:=34) (d:=48) (by kernel_rfl) rfl (z2 (by kernel_rfl)) (z3 (by kernel_rfl)) rfl rfl rfl ?_
     refine WD.b (i:=35) (d:=49) (by kernel_rfl) rfl (z2 (by kernel_rfl)) (z3 (by kernel_rfl)) rfl rfl rfl ?_
     refine WD.b (i:=36) (d:=50) (by kernel_rfl) rfl (z2 (by kernel_rfl)) (z3 (by kernel_rfl)) rfl rfl rfl ?_
     refine WD.b (i:=37) (d:=51) (by kernel_rfl) rfl (z2 (by kernel_rfl)) (z3 (by kernel_rfl)) rfl rfl rfl ?_
     refine WD.b (i:=38) (d:=52) (by kernel_rfl) rfl (z2 (by kernel_rfl)) (z3 (by kernel_rfl)) rfl rfl rfl ?_
     refine WD.b (i:=39) (d:=53) (by kernel_rfl) rfl (z2 (by kernel_rfl)) (z3 (by kernel_rfl)) rfl rfl rfl ?_
     refine WD.b (i:=40) (d:=54) (by kernel_rfl) rfl (z2 (by kernel_rfl)) (z3 (by kernel_rfl)) rfl rfl rfl ?_
     refine WD.b (i:=41) (d:=55) (by kernel_rfl) rfl (z2 (by kernel_rfl)) (z3 (by kernel_rfl)) rfl rfl rfl ?_
     refine WD.b (i:=42) (d:=56) (by kernel_rfl) rfl (z2 (by kernel_rfl)) (z3 (by kernel_rfl)) rfl rfl rfl ?_
     refine WD.b (i:=43) (d:=57) (by kernel_rfl) rfl (z2 (by kernel_rfl)) (z3 (by kernel_rfl)) rfl rfl rfl ?_
     refine WD.b (i:=44) (d:=58) (by kernel_rfl) rfl (z2 (by kernel_rfl)) (z3 (by kernel_rfl)) rfl rfl rfl ?_
     refine WD.a (i:=45) (d:=59) (by kernel_rfl) rfl (z2 (by kernel_rfl)) (z3 (by kernel_rfl)) rfl rfl rfl (fun _=>y1o rfl rfl) ?_
     refine WD.yO (.cons .here (.cons .here .nil)) ?_ zmc
     exact (.cons rfl (.cons rfl (.cons rfl (.cons rfl (.cons rfl (.cons (zm (Eq.symm zhD)) (.cons (zm (y24 zhD)) .nil)))))))
    ·have zfa:=hb'; clear hb'
     have zr5:=zr4 zfa
     refine WD.pin (i:=45) rfl zfa ?_
     refine WD.a (i:=32) (d:=46) (by kernel_rfl) rfl (z2 (by kernel_rfl)) (z3 (by kernel_rfl)) rfl rfl rfl (fun _=>q_m rfl) ?_
     refine WD.a (i:=33) (d:=47) (by kernel_rfl) rfl (z2 (by kernel_rfl)) (z3 (by kernel_rfl)) rfl rfl rfl (fun _=>y3M rfl rfl) ?_
     refine WD.a (i:=34) (d:=48) (by kernel_rfl) rfl (z2 (by kernel_rfl)) (z3 (by kernel_rfl)) rfl rfl rfl (fun _=>q_m rfl) ?_
     refine WD.mid (fuel':=1) [(1,(.slice z25 za.length z26)),(2,(.pointer (some ⟨z79,0,none⟩))),(7,(.slice z25 za.length z26)),(8,(.int .i64 ((za.length : Nat) : Int))),(9,(.int .i64 zf)),(45,(.bool false)),(48,(.bool (decide (zf > 0)))),(58,(.bool ((decide (zf > 0)) && (decide (((nth za (i64 (zf - 1))).fTime) > ((nth za zf).fTime))))))] (y1C 46 [44,43,42,41,40,39,38,37,36,35,34,33,32,31,30,29,28,27,26,25,24,23,22,21,20,19,18,17,16,15,14,13,12,11,10,9,8,7,6,5,4,3,2,1,0]) ?_ (fun zmd=>?_)
     rotate_left
     ·rcases Bool.eq_false_or_eq_true (decide (zf > 0)) with hb' | hb'
      ·have zfb:=hb'; clear hb'
       have zr6:=zr5 zfb
       refine WD.pin (i:=48) rfl zfb ?_
       refine WD.a (i:=35) (d:=49) (by kernel_rfl) rfl (z2 (by kernel_rfl)) (z3 (by kernel_rfl)) rfl rfl rfl (fun _=>q_m rfl) ?_
       refine WD.a (i:=36) (d:=50) (by kernel_rfl) rfl (z2 (by kernel_rfl)) (z3 (by kernel_rfl)) rfl rfl rfl (fun _=>q_m rfl) ?_
       refine WD.a (i:=37) (d:=51) (by kernel_rfl) rfl (z2 (by kernel_rfl)) (z3 (by kernel_rfl)) rfl rfl rfl (fun _=>y4S rfl rfl rfl) ?_
       refine WD.znth (j:=38) (dd:=52) (by kernel_rfl) rfl (z2 (by kernel_rfl)) (z3 (by kernel_rfl)) rfl rfl (Z:=Z) (Pr:=(fun r x=>r = e53 x)) y4p rfl rfl zm6 zr6 ?_
       rintro zx6 zx7 zr7 zx8 rfl
       refine WD.a (i:=39) (d:=53) (by kernel_rfl) rfl (z2 (by kernel_rfl)) (z3 (by kernel_rfl)) rfl rfl rfl (fun _=>ya y40 rfl rfl) ?_
       refine WD.e (i:=40) (d:=54) (by kernel_rfl) rfl (z2 (by kernel_rfl)) (z3 (by kernel_rfl)) rfl rfl rfl (yb yg rfl (y21 hz.pv zr7 rfl)) ?_
       refine WD.a (i:=41) (d:=55) (by kernel_rfl) rfl (z2 (by kernel_rfl)) (z3 (by kernel_rfl)) rfl rfl rfl (fun _=>ya y40 rfl rfl) ?_
       refine WD.e (i:=42) (d:=56) (by kernel_rfl) rfl (z2 (by kernel_rfl)) (z3 (by kernel_rfl)) rfl rfl rfl (yb yg rfl (yc .here rfl)) ?_
       refine WD.a (i:=43) (d:=57) (by kernel_rfl) rfl (z2 (by kernel_rfl)) (z3 (by kernel_rfl)) rfl rfl rfl (fun _=>y3M rfl rfl) ?_
       refine WD.a (i:=44) (d:=58) (by kernel_rfl) rfl (z2 (by kernel_rfl)) (z3 (by kernel_rfl)) rfl rfl rfl (fun _=>y1o rfl rfl) ?_
       refine WD.yO (.cons .here (.cons .here .nil)) ?_ zmd
       exact (.cons rfl (.cons rfl (.cons rfl (.cons rfl (.cons rfl (.cons rfl (.cons (zm (Eq.symm zfb)) (.cons (zm (y2K zfb)) .nil))))))))
      ·have zhE:=hb'; clear hb'
       refine WD.pin (i:=48) rfl zhE ?_
       refine WD.b (i:=35) (d:=49) (by kernel_rfl) rfl (z2 (by kernel_rfl)) (z3 (by kernel_rfl)) rfl rfl rfl ?_
       refine WD.b (i:=36) (d:=50) (by kernel_rfl) rfl (z2 (by kernel_rfl)) (z3 (by kernel_rfl)) rfl rfl rfl ?_
       refine WD.b (i:=37) (d:=51) (by kernel_rfl) rfl (z2 (by kernel_rfl)) (z3 (by kernel_rfl)) rfl rfl rfl ?_
       refine WD.b (i:=38) (d:=52) (by kernel_rfl) rfl (z2 (by kernel_rfl)) (z3 (by kernel_rfl)) rfl rfl rfl ?_
       refine WD.b (i:=39) (d:=53) (by kernel_rfl) rfl (z2 (by kernel_rfl)) (z3 (by kernel_rfl)) rfl rfl rfl ?_
       refine WD.b (i:=40) (d:=54) (by kernel_rfl) rfl (z2 (by kernel_rfl)) (z3 (by kernel_rfl)) rfl rfl rfl ?_
       refine WD.b (i:=41) (d:=55) (by kernel_rfl) rfl (z2 (by kernel_rfl)) (z3 (by kernel_rfl)) rfl rfl rfl ?_
       refine WD.b (i:=42) (d:=56) (by kernel_rfl) rfl (z2 (by kernel_rfl)) (z3 (by kernel_rfl)) rfl rfl rfl ?_
       refine WD.b (i:=43) (d:=57) (by kernel_rfl) rfl (z2 (by kernel_rfl)) (z3 (by kernel_rfl)) rfl rfl rfl ?_
       refine WD.a (i:=44) (d:=58) (by kernel_rfl) rfl (z2 (by kernel_rfl)) (z3 (by kernel_rfl)) rfl rfl rfl (fun _=>y1p rfl rfl) ?_
       refine WD.yO (.cons .here (.cons .here .nil)) ?_ zmd
       exact (.cons rfl (.cons rfl (.cons rfl (.cons rfl (.cons rfl (.cons rfl (.cons (zm (Eq.symm zhE)) (.cons (zm (y2J zhE)) .nil))))))))
     refine WD.d #[true,true,true,true,true,true,true,true,true,true,true,true,true,true,true,true,true,true,true,true,true,true,true,true,true,true,true,true,true,true,true,true,true,true,true,true,true,true,true,true,true,true,true,true,true,false] (by kernel_rfl) ?_
     refine WD.a (i:=45) (d:=59) (by kernel_rfl) rfl (z2 (by kernel_rfl)) (z3 (by kernel_rfl)) rfl rfl rfl (fun _=>y1p rfl rfl) ?_
     refine WD.yO (.cons .here (.cons .here .nil)) ?_ zmc
     exact (.cons rfl (.cons rfl (.cons rfl (.cons rfl (.cons rfl (.cons (zm (Eq.symm zfa)) (.cons (zm (y25 zfa)) .nil)))))))
   refine WD.d #[true,true,true,true,true,true,true,true,true,true,true,true,true,true,true,true,true,true,true,true,true,true,true,true,true,true,true,true,true,true,true,true,true,true,true,true,true,true,true,true,true,true,true,true,true,true] (by kernel_rfl) ?_
   refine WD.done (by kernel_rfl) ?_
   refine WX.a ?_
   refine WC.cond rfl (fun zhF=>?_) (fun zhF=>?_)
   ·replace h:=yl h zhF
    refine WC.b (WC.a (WL.pu rfl (WL.nil (WX.a (WC.ret (WX.yz (WX.yf (WX.yf (WX.yz (WX.yf ?_))))))))))
    obtain rfl:=Option.some.inj h
    refine WX.yi Try.results24 (.tmp rfl .nil) (fun w hw=>?_)
    exact ⟨y12 rfl,hw.sub .nil⟩
   ·replace h:=ym h zhF
    refine WC.skip (WX.yh (WX.a (WC.a (WL.pu rfl (WL.pu rfl (WL.nil ?_))))))
    exact WX.round (G:=Nat × Int) ⟨zhr,(i64 (zf + 1))⟩ h (Nat.lt_succ_self _) (.cons rfl (.cons rfl (.cons rfl (.cons rfl (.cons rfl .nil))))) (.cons .h1 .nil)
  ·replace h:=ym h zhs
   refine WC.exit (WX.yd (WX.yd (WX.yy ?_)))
   exact WX.mid (G:=Unit) () h (.cons rfl .nil) .nil
 ·rintro  h
  replace h:=zr1.symm.trans h
  refine WC.b (WC.a (WL.pu rfl ?_))
  refine WL.a (d:=62) rfl rfl rfl (yW Try.underlying33 rfl) ?_
  refine WL.pu rfl (WL.pu rfl (WL.nil (WX.a (WC.ret ?_))))
  obtain rfl:=Option.some.inj h
  refine WX.yi Try.results24 (.tmp rfl .nil) (fun w hw=>?_)
  exact ⟨y12 rfl,hw.sub .nil⟩
def y2e (z91 : List Snetwork_event) : Option Int :=
 some ((z91.length : Nat) : Int)
set_option maxRecDepth 20000 in
theorem y4D (Z : Zp) (zfc : Option Addr) (zfd : Nat) (z91 : List Snetwork_event) (r : Int)
  (h : y2e z91 = some r) (w₀ : World) (hz : PZ [] w₀ Z)
  (zx9 : ZS Z 7 (fun r x=>r = yA x) zfc zfd z91) :
  Calls Try.prog 86 #[(.slice zfc z91.length zfd)] w₀ fun e w'=>e = .returned (.int .i64 r) ∧ Hp [] w₀ w' []:=by
 unfold y2e at h
 refine Calls.yo (vs:=[(.slice zfc z91.length zfd)]) (pre:=[]) (env:=[(0,(.slice zfc z91.length zfd))]) Try.func86 rfl Try.ntmps86 rfl (Hp.nil w₀ _) rfl ?_
 refine WC.b (WC.a (WL.pu rfl (WL.nil (WX.a (WC.b (WC.a (WL.pu rfl ?_)))))))
 refine WL.a (d:=4) rfl rfl rfl (yW Try.underlying79 rfl) ?_
 refine WL.pu rfl (WL.nil (WX.a (WC.ret ?_)))
 obtain rfl:=Option.some.inj h
 refine WX.yi Try.results86 (.tmp rfl .nil) (fun w hw=>?_)
 exact ⟨y12 rfl,hw.sub .nil⟩
def y3r (z92 : Int) : Option Bool :=
 some (decide (z92 ≠ z92))
set_option maxRecDepth 20000 in
theorem y5F (Z : Zp)  (z92 : Int) (r : Bool)
  (h : y3r z92 = some r) (w₀ : World) (hz : PZ [] w₀ Z) :
  Calls Try.prog 58 #[(.int .i64 z92)] w₀ fun e w'=>e = .returned (.bool r) ∧ Hp [] w₀ w' []:=by
 unfold y3r at h
 refine Calls.yo (vs:=[(.int .i64 z92)]) (pre:=[]) (env:=[(0,(.int .i64 z92))]) Try.func58 rfl Try.ntmps58 rfl (Hp.nil w₀ _) rfl ?_
 refine WC.b (WC.a (WL.pu rfl (WL.nil (WX.a (WC.b (WC.a (WL.pu rfl (WL.pu rfl (WL.pu rfl (WL.pu rfl (WL.nil (WX.a (WC.ret ?_)))))))))))))
 obtain rfl:=Option.some.inj h
 refine WX.yi Try.results58 (.tmp rfl .nil) (fun w hw=>?_)
 exact ⟨y12 rfl,hw.sub .nil⟩
def y1h (z88 : Int) (z89 : Int) : Option Int :=
 (y3r z88).bind fun zme=>(y3r z89).bind fun zhG=>if zme then if zhG then some 0 else some (-1) else if zhG then some 1 else if decide (z88 < z89) then some (-1) else if decide (z88 > z89) then some 1 else some 0
set_option maxRecDepth 20000 in
theorem y2f (Z : Zp)  (z88 : Int) (z89 : Int) (r : Int)
  (h : y1h z88 z89 = some r) (w₀ : World) (hz : PZ [] w₀ Z) :
  Calls Try.prog 45 #[(.int .i64 z88),(.int .i64 z89)] w₀ fun e w'=>e = .returned (.int .i64 r) ∧ Hp [] w₀ w' []:=by
 unfold y1h at h
 refine Calls.yo (vs:=[(.int .i64 z88),(.int .i64 z89)]) (pre:=[]) (env:=[(0,(.int .i64 z88)),(1,(.int .i64 z89))]) Try.func45 rfl Try.ntmps45 rfl (Hp.nil w₀ _) rfl ?_
 refine WC.b (WC.a (WL.pu rfl (WL.nil (WX.a (WC.b ?_)))))
 obtain ⟨zme,zr8,h⟩:=zn h
 refine WC.a (WL.pu rfl ?_)
 refine WL.b (dd:=8) rfl rfl rfl (zF (l:=[.tmp 7]) Try.call58 (.cons rfl .nil)) .nil (cc hz .nil fun w pz ho=>y5F _ _ _ zr8 w pz ) ?_
 refine WL.pu rfl (WL.nil (WX.a (WC.b ?_)))
 obtain ⟨zhG,zr9,h⟩:=zn h
 refine WC.a (WL.pu rfl ?_)
 refine WL.b (dd:=10) rfl rfl rfl (zF (l:=[.tmp 9]) Try.call58 (.cons rfl .nil)) .nil (cc hz .nil fun w pz ho=>y5F _ _ _ zr9 w pz ) ?_
 refine WL.pu rfl (WL.nil (WX.a (WC.b (WC.b (WC.a (WL.pu rfl (WL.nil (WX.a ?_))))))))
 refine WC.cond rfl (fun zhH=>?_) (fun zhH=>?_)
 ·replace h:=yl h zhH
  refine WC.b (WC.b (WC.a (WL.pu rfl (WL.nil (WX.a ?_)))))
  refine WC.cond rfl (fun zhI=>?_) (fun zhI=>?_)
  ·replace h:=yl h zhI
   refine WC.b (WC.a (WL.pu rfl (WL.nil (WX.a (WC.ret (WX.yf (WX.yf ?_)))))))
   obtain rfl:=Option.some.inj h
   refine WX.yi Try.results45 (.tmp rfl .nil) (fun w hw=>?_)
   exact ⟨y12 rfl,hw.sub .nil⟩
  ·replace h:=ym h zhI
   refine WC.skip (WX.a (WC.b (WC.a (WL.pu rfl (WL.nil (WX.a (WC.ret (WX.yf ?_))))))))
   obtain rfl:=Option.some.inj h
   refine WX.yi Try.results45 (.tmp rfl .nil) (fun w hw=>?_)
   exact ⟨y12 rfl,hw.sub .nil⟩
 ·replace h:=ym h zhH
  refine WC.skip (WX.a (WC.b (WC.b (WC.a (WL.pu rfl (WL.nil (WX.a ?_)))))))
  refine WC.cond rfl (fun zhJ=>?_) (fun zhJ=>?_)
  ·replace h:=yl h zhJ
   refine WC.b (WC.a (WL.pu rfl (WL.nil (WX.a (WC.ret (WX.yf ?_))))))
   obtain rfl:=Option.some.inj h
   refine WX.yi Try.results45 (.tmp rfl .nil) (fun w hw=>?_)
   exact ⟨y12 rfl,hw.sub .nil⟩
  ·replace h:=ym h zhJ
   refine WC.skip (WX.a (WC.b (WC.b (WC.a (WL.pu rfl (WL.pu rfl (WL.pu rfl (WL.nil (WX.a ?_)))))))))
   refine WC.cond rfl (fun zhK=>?_) (fun zhK=>?_)
   ·replace h:=yl h zhK
    refine WC.b (WC.a (WL.pu rfl (WL.nil (WX.a (WC.ret (WX.yf ?_))))))
    obtain rfl:=Option.some.inj h
    refine WX.yi Try.results45 (.tmp rfl .nil) (fun w hw=>?_)
    exact ⟨y12 rfl,hw.sub .nil⟩
   ·replace h:=ym h zhK
    refine WC.skip (WX.a (WC.b (WC.b (WC.a (WL.pu rfl (WL.pu rfl (WL.pu rfl (WL.nil (WX.a ?_)))))))))
    refine WC.cond rfl (fun zhL=>?_) (fun zhL=>?_)
    ·replace h:=yl h zhL
     refine WC.b (WC.a (WL.pu rfl (WL.nil (WX.a (WC.ret (WX.yf ?_))))))
     obtain rfl:=Option.some.inj h
     refine WX.yi Try.results45 (.tmp rfl .nil) (fun w hw=>?_)
     exact ⟨y12 rfl,hw.sub .nil⟩
    ·replace h:=ym h zhL
     refine WC.skip (WX.a (WC.b (WC.a (WL.pu rfl (WL.nil (WX.a (WC.ret ?_)))))))
     obtain rfl:=Option.some.inj h
     refine WX.yi Try.results45 (.tmp rfl .nil) (fun w hw=>?_)
     exact ⟨y12 rfl,hw.sub .nil⟩
def y2y (z2E : List Int) (z7a : Option Int) : Nat → Int → Option Int
 | 0,_=>none
 | zhM + 1,z3o=>if decide (z3o < ((z2E.length : Nat) : Int)) then chk ((0 : Int) ≤ z3o ∧ z3o < ((z2E.length : Nat) : Int)) (if decide ((nth z2E z3o) ≠ 0) then some (nth z2E z3o) else y2y z2E z7a zhM (i64 (z3o + 1))) else z7a
theorem y6n {n : Nat} {z2E : List Int} {z7a : Option Int} {z3o : Int} {r : Int} (h : y2y z2E z7a n z3o = some r) : ∃ m,n = m + 1:=by
 cases n with
 | zero=>cases h
 | succ m=>exact ⟨m,rfl⟩
def y3z (z2E : List Int) : Option Int :=
 jp0 (some 0) fun z7a=>y2y z2E z7a yt 0
set_option maxRecDepth 20000 in
theorem y6Q (Z : Zp) (zdT : Option Addr) (zdU : Nat) (z2E : List Int) (r : Int)
  (h : y3z z2E = some r) (w₀ : World) (hz : PZ [] w₀ Z)
  (zra : ZS Z 1 (fun r x=>r = e3 x) zdT zdU z2E) :
  Calls Try.prog 44 #[(.slice zdT z2E.length zdU)] w₀ fun e w'=>e = .returned (.int .i64 r) ∧ Hp [] w₀ w' []:=by
 unfold y3z at h
 refine Calls.yo (vs:=[(.slice zdT z2E.length zdU)]) (pre:=[]) (env:=[(0,(.slice zdT z2E.length zdU))]) Try.func44 rfl Try.ntmps44 rfl (Hp.nil w₀ _) rfl ?_
 refine WC.b (WC.a (WL.pu rfl (WL.nil (WX.a (WC.b (WC.a (WL.pu rfl (WL.nil (WX.a ?_)))))))))
 obtain ⟨z7a,zrb,h⟩:=y2E h
 refine WC.y2u ((z7a = some r)) ([(3,(.int .i64 0))]) ([]) ?_ ?_
 ·skip
  refine WC.b (WC.a (WL.pu rfl ?_))
  refine WL.a (d:=7) rfl rfl rfl (yW Try.underlying56 rfl) ?_
  refine WL.pu rfl (WL.nil (WX.a (WC.block ?_)))
  refine WC.y4a (fun (zbc : Nat) (z3o : Int)=>(y2y z2E z7a zbc z3o = some r)) (fun (zbc : Nat) (z3o : Int)=>[(3,(.int .i64 0)),(6,(.slice zdT z2E.length zdU)),(7,(.int .i64 ((z2E.length : Nat) : Int))),(8,(.int .i64 z3o))]) (fun (zbc : Nat) (z3o : Int)=>[]) (fun (zbc : Nat) (z3o : Int)=>zbc) ⟨yt,0⟩ h (.cons rfl (.cons rfl (.cons rfl (.cons rfl .nil)))) .nil ?_
  rintro zbc z3o h
  obtain ⟨zhM,rfl⟩:=y6n h
  rw [y2y] at h
  refine WC.b (WC.a (WL.pu rfl (WL.nil (WX.a (WC.b ?_)))))
  refine WC.cond rfl (fun zhN=>?_) (fun zhN=>?_)
  ·replace h:=yl h zhN
   refine WC.skip (WX.a (WC.b (WC.block (WC.b ?_))))
   obtain ⟨zrc,h⟩:=yj h
   refine WC.a ?_
   refine WL.znth (dd:=10) rfl rfl (Z:=Z) (Pr:=(fun r x=>r = e3 x)) y4Y rfl rfl zra zrc ?_
   rintro zxa zxb zrd zxc rfl
   refine WL.a (d:=11) rfl rfl rfl (yb yg rfl (rd_z hz.pv zrd rfl)) ?_
   refine WL.pu rfl (WL.nil (WX.a (WC.b (WC.a (WL.pu rfl (WL.pu rfl (WL.pu rfl (WL.nil (WX.a ?_)))))))))
   refine WC.cond rfl (fun zhO=>?_) (fun zhO=>?_)
   ·replace h:=yl h zhO
    refine WC.b (WC.a (WL.pu rfl (WL.pu rfl (WL.nil (WX.a (WC.ret (WX.yz (WX.yf (WX.yf (WX.yz (WX.yf ?_)))))))))))
    obtain rfl:=Option.some.inj h
    refine WX.yi Try.results44 (.tmp rfl .nil) (fun w hw=>?_)
    exact ⟨y12 rfl,hw.sub .nil⟩
   ·replace h:=ym h zhO
    refine WC.skip (WX.yh (WX.a (WC.a (WL.pu rfl (WL.pu rfl (WL.nil ?_))))))
    exact WX.round (G:=Nat × Int) ⟨zhM,(i64 (z3o + 1))⟩ h (Nat.lt_succ_self _) (.cons rfl (.cons rfl (.cons rfl (.cons rfl .nil)))) .nil
  ·replace h:=ym h zhN
   refine WC.exit (WX.yd (WX.yd (WX.yy ?_)))
   exact WX.mid (G:=Unit) () h (.cons rfl .nil) .nil
 ·rintro  h
  replace h:=zrb.symm.trans h
  refine WC.b (WC.a (WL.pu rfl (WL.pu rfl (WL.nil (WX.a (WC.ret ?_))))))
  obtain rfl:=Option.some.inj h
  refine WX.yi Try.results44 (.tmp rfl .nil) (fun w hw=>?_)
  exact ⟨y12 rfl,hw.sub .nil⟩
def y1W (z1e : Snetwork_event) (z1f : Snetwork_event) : Option Int :=
 (y1h z1e.fTime z1f.fTime).bind fun zhP=>(y1h z1e.fIn_ z1f.fIn_).bind fun zhQ=>(y1h z1e.fVl z1f.fVl).bind fun zhR=>(y1h z1e.fSent z1f.fSent).bind fun zhS=>(y3z ([zhP,zhQ,zhR,zhS] : List Int)).bind fun zmf=>some zmf
set_option maxRecDepth 20000 in
theorem y5M (Z : Zp)  (z1e : Snetwork_event) (z1f : Snetwork_event) (r : Int)
  (h : y1W z1e z1f = some r) (w₀ : World) (hz : PZ [] w₀ Z) :
  Calls Try.prog 89 #[(.agg #[(.int .i64 z1e.fTime),(.int .i64 z1e.fIn_),(.int .i64 z1e.fVl),(.int .i64 z1e.fSent),(.int .i64 z1e.fHop.fNode),(.int .i64 z1e.fHop.fNext),(.int .i64 z1e.fHop.fLink)]),(.agg #[(.int .i64 z1f.fTime),(.int .i64 z1f.fIn_),(.int .i64 z1f.fVl),(.int .i64 z1f.fSent),(.int .i64 z1f.fHop.fNode),(.int .i64 z1f.fHop.fNext),(.int .i64 z1f.fHop.fLink)])] w₀ fun e w'=>e = .returned (.int .i64 r) ∧ Hp [] w₀ w' []:=by
 unfold y1W at h
 refine Calls.yo (vs:=[(.agg #[(.int .i64 z1e.fTime),(.int .i64 z1e.fIn_),(.int .i64 z1e.fVl),(.int .i64 z1e.fSent),(.int .i64 z1e.fHop.fNode),(.int .i64 z1e.fHop.fNext),(.int .i64 z1e.fHop.fLink)]),(.agg #[(.int .i64 z1f.fTime),(.int .i64 z1f.fIn_),(.int .i64 z1f.fVl),(.int .i64 z1f.fSent),(.int .i64 z1f.fHop.fNode),(.int .i64 z1f.fHop.fNext),(.int .i64 z1f.fHop.fLink)])]) (pre:=[]) (env:=[(0,(.agg #[(.int .i64 z1e.fTime),(.int .i64 z1e.fIn_),(.int .i64 z1e.fVl),(.int .i64 z1e.fSent),(.int .i64 z1e.fHop.fNode),(.int .i64 z1e.fHop.fNext),(.int .i64 z1e.fHop.fLink)])),(1,(.agg #[(.int .i64 z1f.fTime),(.int .i64 z1f.fIn_),(.int .i64 z1f.fVl),(.int .i64 z1f.fSent),(.int .i64 z1f.fHop.fNode),(.int .i64 z1f.fHop.fNext),(.int .i64 z1f.fHop.fLink)]))]) Try.func89 rfl Try.ntmps89 rfl (Hp.nil w₀ _) rfl ?_
 refine WC.b (WC.a ?_)
 refine WL.new (dd:=2) rfl rfl rfl (y2h (cs:=[(.int .i64 z1e.fTime),(.int .i64 z1e.fIn_),(.int .i64 z1e.fVl),(.int .i64 z1e.fSent),(.int .i64 z1e.fHop.fNode),(.int .i64 z1e.fHop.fNext),(.int .i64 z1e.fHop.fLink)]) rfl rfl) ?_
 intro zxd _
 refine WL.new (dd:=3) rfl rfl rfl (y2h (cs:=[(.int .i64 z1f.fTime),(.int .i64 z1f.fIn_),(.int .i64 z1f.fVl),(.int .i64 z1f.fSent),(.int .i64 z1f.fHop.fNode),(.int .i64 z1f.fHop.fNext),(.int .i64 z1f.fHop.fLink)]) rfl rfl) ?_
 intro zxe _
 refine WL.pu rfl (WL.nil (WX.a (WC.b ?_)))
 obtain ⟨zhP,zre,h⟩:=zn h
 obtain ⟨zhQ,zrf,h⟩:=zn h
 obtain ⟨zhR,zrg,h⟩:=zn h
 obtain ⟨zhS,zrh,h⟩:=zn h
 obtain ⟨zmf,zri,h⟩:=zn h
 refine WC.yY (fun i=>[].contains i) [] rfl ?_
 refine WD.a (i:=0) (d:=5) (by kernel_rfl) rfl (z2 (by kernel_rfl)) (z3 (by kernel_rfl)) rfl rfl rfl (fun _=>ya y6k rfl rfl) ?_
 refine WD.e (i:=1) (d:=6) (by kernel_rfl) rfl (z2 (by kernel_rfl)) (z3 (by kernel_rfl)) rfl rfl rfl (yb yg rfl (yc .h1 rfl)) ?_
 refine WD.a (i:=2) (d:=7) (by kernel_rfl) rfl (z2 (by kernel_rfl)) (z3 (by kernel_rfl)) rfl rfl rfl (fun _=>ya y6k rfl rfl) ?_
 refine WD.e (i:=3) (d:=8) (by kernel_rfl) rfl (z2 (by kernel_rfl)) (z3 (by kernel_rfl)) rfl rfl rfl (yb yg rfl (yc .here rfl)) ?_
 refine WD.c (i:=4) (d:=9) (by kernel_rfl) rfl (z2 (by kernel_rfl)) (z3 (by kernel_rfl)) rfl rfl rfl (zF (l:=[.tmp 6,.tmp 8]) Try.call45 (.cons rfl (.cons rfl .nil))) (cc hz .nil fun w pz ho=>y2f _ _ _ _ zre w pz ) ?_
 refine WD.a (i:=5) (d:=10) (by kernel_rfl) rfl (z2 (by kernel_rfl)) (z3 (by kernel_rfl)) rfl rfl rfl (fun _=>ya y8R rfl rfl) ?_
 refine WD.e (i:=6) (d:=11) (by kernel_rfl) rfl (z2 (by kernel_rfl)) (z3 (by kernel_rfl)) rfl rfl rfl (yb yg rfl (yc .h1 rfl)) ?_
 refine WD.a (i:=7) (d:=12) (by kernel_rfl) rfl (z2 (by kernel_rfl)) (z3 (by kernel_rfl)) rfl rfl rfl (fun _=>ya y8R rfl rfl) ?_
 refine WD.e (i:=8) (d:=13) (by kernel_rfl) rfl (z2 (by kernel_rfl)) (z3 (by kernel_rfl)) rfl rfl rfl (yb yg rfl (yc .here rfl)) ?_
 refine WD.c (i:=9) (d:=14) (by kernel_rfl) rfl (z2 (by kernel_rfl)) (z3 (by kernel_rfl)) rfl rfl rfl (zF (l:=[.tmp 11,.tmp 13]) Try.call45 (.cons rfl (.cons rfl .nil))) (cc hz .nil fun w pz ho=>y2f _ _ _ _ zrf w pz ) ?_
 refine WD.a (i:=10) (d:=15) (by kernel_rfl) rfl (z2 (by kernel_rfl)) (z3 (by kernel_rfl)) rfl rfl rfl (fun _=>ya y8S rfl rfl) ?_
 refine WD.e (i:=11) (d:=16) (by kernel_rfl) rfl (z2 (by kernel_rfl)) (z3 (by kernel_rfl)) rfl rfl rfl (yb yg rfl (yc .h1 rfl)) ?_
 refine WD.a (i:=12) (d:=17) (by kernel_rfl) rfl (z2 (by kernel_rfl)) (z3 (by kernel_rfl)) rfl rfl rfl (fun _=>ya y8S rfl rfl) ?_
 refine WD.e (i:=13) (d:=18) (by kernel_rfl) rfl (z2 (by kernel_rfl)) (z3 (by kernel_rfl)) rfl rfl rfl (yb yg rfl (yc .here rfl)) ?_
 refine WD.c (i:=14) (d:=19) (by kernel_rfl) rfl (z2 (by kernel_rfl)) (z3 (by kernel_rfl)) rfl rfl rfl (zF (l:=[.tmp 16,.tmp 18]) Try.call45 (.cons rfl (.cons rfl .nil))) (cc hz .nil fun w pz ho=>y2f _ _ _ _ zrg w pz ) ?_
 refine WD.a (i:=15) (d:=20) (by kernel_rfl) rfl (z2 (by kernel_rfl)) (z3 (by kernel_rfl)) rfl rfl rfl (fun _=>ya y4M rfl rfl) ?_
 refine WD.e (i:=16) (d:=21) (by kernel_rfl) rfl (z2 (by kernel_rfl)) (z3 (by kernel_rfl)) rfl rfl rfl (yb yg rfl (yc .h1 rfl)) ?_
 refine WD.a (i:=17) (d:=22) (by kernel_rfl) rfl (z2 (by kernel_rfl)) (z3 (by kernel_rfl)) rfl rfl rfl (fun _=>ya y4M rfl rfl) ?_
 refine WD.e (i:=18) (d:=23) (by kernel_rfl) rfl (z2 (by kernel_rfl)) (z3 (by kernel_rfl)) rfl rfl rfl (yb yg rfl (yc .here rfl)) ?_
 refine WD.c (i:=19) (d:=24) (by kernel_rfl) rfl (z2 (by kernel_rfl)) (z3 (by kernel_rfl)) rfl rfl rfl (zF (l:=[.tmp 21,.tmp 23]) Try.call45 (.cons rfl (.cons rfl .nil))) (cc hz .nil fun w pz ho=>y2f _ _ _ _ zrh w pz ) ?_
 refine WD.new (i:=20) (dd:=25) rfl (by kernel_rfl) rfl rfl rfl (y18 (cs:=([zhP,zhQ,zhR,zhS] : List Int).flatMap e3) y4Y (Eos.parts (l:=[.tmp 9,.tmp 14,.tmp 19,.tmp 24]) (.cons rfl (.cons rfl (.cons rfl (.cons rfl .nil)))) [0,1,2,3]) (fun _=>by kernel_rfl) rfl (by unfold maxLen; omega)) (fun h'=>absurd h' (by decide)) ?_
 intro zxf _
 refine WD.c (i:=21) (d:=26) (by kernel_rfl) rfl (z2 (by kernel_rfl)) (z3 (by kernel_rfl)) rfl rfl rfl (zF (l:=[.tmp 25]) Try.call44 (.cons rfl .nil)) (ccl hz .nil (.cons .here .nil) fun w pz ho la=>y6Q _ _ _ _ _ zri w pz (ZA.row (la _ (.head _) _) (RR.y1q (enc:=e3) (fun _=>rfl) _) ⟨w,pz.1⟩)) ?_
 refine WD.a (i:=22) (d:=4) (by kernel_rfl) rfl (z2 (by kernel_rfl)) (z3 (by kernel_rfl)) rfl rfl rfl (fun _=>q_z rfl) ?_
 refine WD.done (by kernel_rfl) ?_
 refine WX.a (WC.ret ?_)
 obtain rfl:=Option.some.inj h
 refine WX.yi Try.results89 (.tmp rfl .nil) (fun w hw=>?_)
 exact ⟨y12 rfl,hw.sub .nil⟩
def y1v (z1T : List Snetwork_event) (z3Q : Int) (z3R : Int) : Option Bool :=
 chk ((0 : Int) ≤ z3Q ∧ z3Q < ((z1T.length : Nat) : Int)) (chk ((0 : Int) ≤ z3R ∧ z3R < ((z1T.length : Nat) : Int)) ((y1W (⟨((nth z1T z3Q).fTime),((nth z1T z3Q).fIn_),((nth z1T z3Q).fVl),((nth z1T z3Q).fSent),(⟨(((nth z1T z3Q).fHop).fNode),(((nth z1T z3Q).fHop).fNext),(((nth z1T z3Q).fHop).fLink)⟩ : Sapi_Hop)⟩ : Snetwork_event) (⟨((nth z1T z3R).fTime),((nth z1T z3R).fIn_),((nth z1T z3R).fVl),((nth z1T z3R).fSent),(⟨(((nth z1T z3R).fHop).fNode),(((nth z1T z3R).fHop).fNext),(((nth z1T z3R).fHop).fLink)⟩ : Sapi_Hop)⟩ : Snetwork_event)).bind fun zmg=>some (decide (zmg < 0))))
set_option maxRecDepth 20000 in
theorem y3A (Z : Zp) (zfe : Option Addr) (zff : Nat) (z1T : List Snetwork_event) (z3Q : Int) (z3R : Int) (r : Bool)
  (h : y1v z1T z3Q z3R = some r) (w₀ : World) (hz : PZ [] w₀ Z)
  (zmh : ZS Z 7 (fun r x=>r = yA x) zfe zff z1T) :
  Calls Try.prog 87 #[(.slice zfe z1T.length zff),(.int .i64 z3Q),(.int .i64 z3R)] w₀ fun e w'=>e = .returned (.bool r) ∧ Hp [] w₀ w' []:=by
 unfold y1v at h
 refine Calls.yo (vs:=[(.slice zfe z1T.length zff),(.int .i64 z3Q),(.int .i64 z3R)]) (pre:=[]) (env:=[(0,(.slice zfe z1T.length zff)),(1,(.int .i64 z3Q)),(2,(.int .i64 z3R))]) Try.func87 rfl Try.ntmps87 rfl (Hp.nil w₀ _) rfl ?_
 refine WC.b (WC.a (WL.pu rfl (WL.nil (WX.a (WC.b ?_)))))
 obtain ⟨zrj,h⟩:=yj h
 obtain ⟨zrk,h⟩:=yj h
 obtain ⟨zmg,zrl,h⟩:=zn h
 refine WC.yY (fun i=>[].contains i) [] rfl ?_
 refine WD.a (i:=0) (d:=7) (by kernel_rfl) rfl (z2 (by kernel_rfl)) (z3 (by kernel_rfl)) rfl rfl rfl (fun _=>q_m rfl) ?_
 refine WD.a (i:=1) (d:=8) (by kernel_rfl) rfl (z2 (by kernel_rfl)) (z3 (by kernel_rfl)) rfl rfl rfl (fun _=>q_m rfl) ?_
 refine WD.znth (j:=2) (dd:=9) (by kernel_rfl) rfl (z2 (by kernel_rfl)) (z3 (by kernel_rfl)) rfl rfl (Z:=Z) (Pr:=(fun r x=>r = yA x)) y4q rfl rfl zmh zrj ?_
 rintro zxg zxh zrm zxi rfl
 refine WD.e (i:=3) (d:=10) (by kernel_rfl) rfl (z2 (by kernel_rfl)) (z3 (by kernel_rfl)) rfl rfl rfl (yN zag rfl (y3u hz.pv zrm) rfl) ?_
 refine WD.a (i:=4) (d:=11) (by kernel_rfl) rfl (z2 (by kernel_rfl)) (z3 (by kernel_rfl)) rfl rfl rfl (fun _=>q_m rfl) ?_
 refine WD.a (i:=5) (d:=12) (by kernel_rfl) rfl (z2 (by kernel_rfl)) (z3 (by kernel_rfl)) rfl rfl rfl (fun _=>q_m rfl) ?_
 refine WD.znth (j:=6) (dd:=13) (by kernel_rfl) rfl (z2 (by kernel_rfl)) (z3 (by kernel_rfl)) rfl rfl (Z:=Z) (Pr:=(fun r x=>r = yA x)) y4q rfl rfl zmh zrk ?_
 rintro zxj zxk zrn zxl rfl
 refine WD.e (i:=7) (d:=14) (by kernel_rfl) rfl (z2 (by kernel_rfl)) (z3 (by kernel_rfl)) rfl rfl rfl (yN zag rfl (y3u hz.pv zrn) rfl) ?_
 refine WD.c (i:=8) (d:=15) (by kernel_rfl) rfl (z2 (by kernel_rfl)) (z3 (by kernel_rfl)) rfl rfl rfl (zF (l:=[.tmp 10,.tmp 14]) Try.call89 (.cons rfl (.cons rfl .nil))) (cc hz .nil fun w pz ho=>y5M _ _ _ _ zrl w pz ) ?_
 refine WD.a (i:=9) (d:=16) (by kernel_rfl) rfl (z2 (by kernel_rfl)) (z3 (by kernel_rfl)) rfl rfl rfl (fun _=>y3i rfl rfl) ?_
 refine WD.a (i:=10) (d:=6) (by kernel_rfl) rfl (z2 (by kernel_rfl)) (z3 (by kernel_rfl)) rfl rfl rfl (fun _=>q_z rfl) ?_
 refine WD.done (by kernel_rfl) ?_
 refine WX.a (WC.ret ?_)
 obtain rfl:=Option.some.inj h
 refine WX.yi Try.results87 (.tmp rfl .nil) (fun w hw=>?_)
 exact ⟨y12 rfl,hw.sub .nil⟩
def y1w (z6 : List Snetwork_event) (zO : Int) (zw : Int) : Option (List Snetwork_event) :=
 chk ((0 : Int) ≤ zw ∧ zw < ((z6.length : Nat) : Int)) (chk ((0 : Int) ≤ zO ∧ zO < ((z6.length : Nat) : Int)) (chk ((0 : Int) ≤ zw ∧ zw < (((z6.set (zO : Int).toNat (⟨((nth z6 zw).fTime),((nth z6 zw).fIn_),((nth z6 zw).fVl),((nth z6 zw).fSent),(⟨(((nth z6 zw).fHop).fNode),(((nth z6 zw).fHop).fNext),(((nth z6 zw).fHop).fLink)⟩ : Sapi_Hop)⟩ : Snetwork_event)).length : Nat) : Int)) (some ((z6.set (zO : Int).toNat (⟨((nth z6 zw).fTime),((nth z6 zw).fIn_),((nth z6 zw).fVl),((nth z6 zw).fSent),(⟨(((nth z6 zw).fHop).fNode),(((nth z6 zw).fHop).fNext),(((nth z6 zw).fHop).fLink)⟩ : Sapi_Hop)⟩ : Snetwork_event)).set (zw : Int).toNat (⟨((nth z6 zO).fTime),((nth z6 zO).fIn_),((nth z6 zO).fVl),((nth z6 zO).fSent),(⟨(((nth z6 zO).fHop).fNode),(((nth z6 zO).fHop).fNext),(((nth z6 zO).fHop).fLink)⟩ : Sapi_Hop)⟩ : Snetwork_event)))))
set_option maxRecDepth 20000 in
theorem y3B (Z : Zp) (z7b : Option Addr) (z4F : Nat) (z6 : List Snetwork_event) (zO : Int) (zw : Int) (r : List Snetwork_event)
  (h : y1w z6 zO zw = some r) (w₀ : World) (hz : PZ (fps [row (.slice z7b z6.length z4F) 113 7 (z6.flatMap yA)]) w₀ Z)
  (hown : Hp (fps [row (.slice z7b z6.length z4F) 113 7 (z6.flatMap yA)]) w₀ w₀ [row (.slice z7b z6.length z4F) 113 7 (z6.flatMap yA)]) :
  Calls Try.prog 88 #[(.slice z7b z6.length z4F),(.int .i64 zO),(.int .i64 zw)] w₀ fun e w'=>e = .returned (.tuple #[]) ∧ (r.length = z6.length) ∧ Hp (fps [row (.slice z7b z6.length z4F) 113 7 (z6.flatMap yA)]) w₀ w' [row (.slice z7b r.length z4F) 113 7 (r.flatMap yA)]:=by
 unfold y1w at h
 refine Calls.yo (vs:=[(.slice z7b z6.length z4F),(.int .i64 zO),(.int .i64 zw)]) (pre:=[row (.slice z7b z6.length z4F) 113 7 (z6.flatMap yA)]) (env:=[(0,(.slice z7b z6.length z4F)),(1,(.int .i64 zO)),(2,(.int .i64 zw))]) Try.func88 rfl Try.ntmps88 rfl (hown) rfl ?_
 obtain ⟨zdV,h⟩:=yj h
 obtain ⟨z5L,h⟩:=yj h
 obtain ⟨zbd,h⟩:=yj h
 refine WC.yY (fun i=>[13,15].contains i) [] rfl ?_
 refine WD.a (i:=0) (d:=6) (by kernel_rfl) rfl (z2 (by kernel_rfl)) (z3 (by kernel_rfl)) rfl rfl rfl (fun _=>q_m rfl) ?_
 refine WD.a (i:=1) (d:=7) (by kernel_rfl) rfl (z2 (by kernel_rfl)) (z3 (by kernel_rfl)) rfl rfl rfl (fun _=>q_m rfl) ?_
 refine WD.a (i:=2) (d:=8) (by kernel_rfl) rfl (z2 (by kernel_rfl)) (z3 (by kernel_rfl)) rfl rfl rfl (fun _=>q_m rfl) ?_
 refine WD.a (i:=3) (d:=9) (by kernel_rfl) rfl (z2 (by kernel_rfl)) (z3 (by kernel_rfl)) rfl rfl rfl (fun _=>q_m rfl) ?_
 refine WD.a (i:=4) (d:=10) (by kernel_rfl) rfl (z2 (by kernel_rfl)) (z3 (by kernel_rfl)) rfl rfl rfl (fun _=>q_m rfl) ?_
 refine WD.a (i:=5) (d:=11) (by kernel_rfl) rfl (z2 (by kernel_rfl)) (z3 (by kernel_rfl)) rfl rfl rfl (fun _=>q_m rfl) ?_
 refine WD.know (fun w hw=>Hp.y2i .here hw (by intro hz'; have:=zdV; rw [hz'] at this; omega)) ?_
 rintro ⟨zhT,rfl⟩
 refine WD.a (i:=6) (d:=12) (by kernel_rfl) rfl (z2 (by kernel_rfl)) (z3 (by kernel_rfl)) rfl rfl rfl (fun _=>yr y4q rfl rfl zdV.1 zdV.2 y1b) ?_
 refine WD.e (i:=7) (d:=13) (by kernel_rfl) rfl (z2 (by kernel_rfl)) (z3 (by kernel_rfl)) rfl rfl rfl (y1H (cs:=(yA (nth z6 zw))) zag rfl rfl (y1P .here (y1I (enc:=yA) (l:=z6) (i:=zw) (sz:=7) (fun _=>rfl) zdV.1 zdV.2))) ?_
 refine WD.a (i:=8) (d:=14) (by kernel_rfl) rfl (z2 (by kernel_rfl)) (z3 (by kernel_rfl)) rfl rfl rfl (fun _=>q_m rfl) ?_
 refine WD.a (i:=9) (d:=15) (by kernel_rfl) rfl (z2 (by kernel_rfl)) (z3 (by kernel_rfl)) rfl rfl rfl (fun _=>q_m rfl) ?_
 refine WD.a (i:=10) (d:=16) (by kernel_rfl) rfl (z2 (by kernel_rfl)) (z3 (by kernel_rfl)) rfl rfl rfl (fun _=>yr y4q rfl rfl z5L.1 z5L.2 y1b) ?_
 refine WD.e (i:=11) (d:=17) (by kernel_rfl) rfl (z2 (by kernel_rfl)) (z3 (by kernel_rfl)) rfl rfl rfl (y1H (cs:=(yA (nth z6 zO))) zag rfl rfl (y1P .here (y1I (enc:=yA) (l:=z6) (i:=zO) (sz:=7) (fun _=>rfl) z5L.1 z5L.2))) ?_
 refine WD.a (i:=12) (d:=18) (by kernel_rfl) rfl (z2 (by kernel_rfl)) (z3 (by kernel_rfl)) rfl rfl rfl (fun _=>yr y4q rfl rfl z5L.1 z5L.2 y1b) ?_
 refine WD.forced0 (i:=13) rfl (by kernel_rfl) rfl rfl rfl (Sin.of .nil) (y2t (vs:=[(.int .i64 ((nth z6 zw).fTime)),(.int .i64 ((nth z6 zw).fIn_)),(.int .i64 ((nth z6 zw).fVl)),(.int .i64 ((nth z6 zw).fSent)),(.int .i64 (((nth z6 zw).fHop).fNode)),(.int .i64 (((nth z6 zw).fHop).fNext)),(.int .i64 (((nth z6 zw).fHop).fLink))]) (ds:=(z6.set (zO : Int).toNat (⟨((nth z6 zw).fTime),((nth z6 zw).fIn_),((nth z6 zw).fVl),((nth z6 zw).fSent),(⟨(((nth z6 zw).fHop).fNode),(((nth z6 zw).fHop).fNext),(((nth z6 zw).fHop).fLink)⟩ : Sapi_Hop)⟩ : Snetwork_event)).flatMap yA) zeK rfl rfl rfl rfl (ocB rfl) .here (y3d (enc:=yA) (sz:=7) (k:=0) (fun _=>rfl) z5L.1 z5L.2 (by decide)) (y3b (enc:=yA) (l:=z6) (sz:=7) (vs:=[(.int .i64 ((nth z6 zw).fTime)),(.int .i64 ((nth z6 zw).fIn_)),(.int .i64 ((nth z6 zw).fVl)),(.int .i64 ((nth z6 zw).fSent)),(.int .i64 (((nth z6 zw).fHop).fNode)),(.int .i64 (((nth z6 zw).fHop).fNext)),(.int .i64 (((nth z6 zw).fHop).fLink))]) (y:=(⟨((nth z6 zw).fTime),((nth z6 zw).fIn_),((nth z6 zw).fVl),((nth z6 zw).fSent),(⟨(((nth z6 zw).fHop).fNode),(((nth z6 zw).fHop).fNext),(((nth z6 zw).fHop).fLink)⟩ : Sapi_Hop)⟩ : Snetwork_event)) (k:=0) (fun _=>rfl) z5L.1 z5L.2 rfl (Nat.le_of_ble_eq_true rfl))) ?_
 refine WD.relen .here (u:=(.slice (some ⟨zhT,0,none⟩) ((z6.set (zO : Int).toNat (⟨((nth z6 zw).fTime),((nth z6 zw).fIn_),((nth z6 zw).fVl),((nth z6 zw).fSent),(⟨(((nth z6 zw).fHop).fNode),(((nth z6 zw).fHop).fNext),(((nth z6 zw).fHop).fLink)⟩ : Sapi_Hop)⟩ : Snetwork_event)).length) z4F)) (y1M (List.length_set).symm) ?_
 refine WD.repin (i:=8) rfl (u:=(.slice (some ⟨zhT,0,none⟩) ((z6.set (zO : Int).toNat (⟨((nth z6 zw).fTime),((nth z6 zw).fIn_),((nth z6 zw).fVl),((nth z6 zw).fSent),(⟨(((nth z6 zw).fHop).fNode),(((nth z6 zw).fHop).fNext),(((nth z6 zw).fHop).fLink)⟩ : Sapi_Hop)⟩ : Snetwork_event)).length) z4F)) (y1M (List.length_set).symm) ?_
 refine WD.a (i:=14) (d:=19) (by kernel_rfl) rfl (z2 (by kernel_rfl)) (z3 (by kernel_rfl)) rfl rfl rfl (fun _=>yr y4q rfl rfl zbd.1 zbd.2 y1b) ?_
 refine WD.y2D (i:=15) rfl (by kernel_rfl) rfl rfl rfl (by kernel_rfl) (y2t (vs:=[(.int .i64 ((nth z6 zO).fTime)),(.int .i64 ((nth z6 zO).fIn_)),(.int .i64 ((nth z6 zO).fVl)),(.int .i64 ((nth z6 zO).fSent)),(.int .i64 (((nth z6 zO).fHop).fNode)),(.int .i64 (((nth z6 zO).fHop).fNext)),(.int .i64 (((nth z6 zO).fHop).fLink))]) (ds:=((z6.set (zO : Int).toNat (⟨((nth z6 zw).fTime),((nth z6 zw).fIn_),((nth z6 zw).fVl),((nth z6 zw).fSent),(⟨(((nth z6 zw).fHop).fNode),(((nth z6 zw).fHop).fNext),(((nth z6 zw).fHop).fLink)⟩ : Sapi_Hop)⟩ : Snetwork_event)).set (zw : Int).toNat (⟨((nth z6 zO).fTime),((nth z6 zO).fIn_),((nth z6 zO).fVl),((nth z6 zO).fSent),(⟨(((nth z6 zO).fHop).fNode),(((nth z6 zO).fHop).fNext),(((nth z6 zO).fHop).fLink)⟩ : Sapi_Hop)⟩ : Snetwork_event)).flatMap yA) zeK rfl rfl rfl rfl (ocB rfl) .here (y3d (enc:=yA) (sz:=7) (k:=0) (fun _=>rfl) zbd.1 zbd.2 (by decide)) (y3b (enc:=yA) (l:=z6.set (zO : Int).toNat (⟨((nth z6 zw).fTime),((nth z6 zw).fIn_),((nth z6 zw).fVl),((nth z6 zw).fSent),(⟨(((nth z6 zw).fHop).fNode),(((nth z6 zw).fHop).fNext),(((nth z6 zw).fHop).fLink)⟩ : Sapi_Hop)⟩ : Snetwork_event)) (sz:=7) (vs:=[(.int .i64 ((nth z6 zO).fTime)),(.int .i64 ((nth z6 zO).fIn_)),(.int .i64 ((nth z6 zO).fVl)),(.int .i64 ((nth z6 zO).fSent)),(.int .i64 (((nth z6 zO).fHop).fNode)),(.int .i64 (((nth z6 zO).fHop).fNext)),(.int .i64 (((nth z6 zO).fHop).fLink))]) (y:=(⟨((nth z6 zO).fTime),((nth z6 zO).fIn_),((nth z6 zO).fVl),((nth z6 zO).fSent),(⟨(((nth z6 zO).fHop).fNode),(((nth z6 zO).fHop).fNext),(((nth z6 zO).fHop).fLink)⟩ : Sapi_Hop)⟩ : Snetwork_event)) (k:=0) (fun _=>rfl) zbd.1 zbd.2 rfl (Nat.le_of_ble_eq_true rfl))) ?_
 refine WD.relen .here (u:=(.slice (some ⟨zhT,0,none⟩) (((z6.set (zO : Int).toNat (⟨((nth z6 zw).fTime),((nth z6 zw).fIn_),((nth z6 zw).fVl),((nth z6 zw).fSent),(⟨(((nth z6 zw).fHop).fNode),(((nth z6 zw).fHop).fNext),(((nth z6 zw).fHop).fLink)⟩ : Sapi_Hop)⟩ : Snetwork_event)).set (zw : Int).toNat (⟨((nth z6 zO).fTime),((nth z6 zO).fIn_),((nth z6 zO).fVl),((nth z6 zO).fSent),(⟨(((nth z6 zO).fHop).fNode),(((nth z6 zO).fHop).fNext),(((nth z6 zO).fHop).fLink)⟩ : Sapi_Hop)⟩ : Snetwork_event)).length) z4F)) (y1M (List.length_set).symm) ?_
 refine WD.done (by kernel_rfl) ?_
 obtain rfl:=Option.some.inj h
 refine WX.y1U Try.results88 .nil (fun w hw=>?_)
 exact ⟨y4n,((List.length_set).trans ((List.length_set).trans rfl)),hw.sub (.cons .here .nil)⟩
def y2L (z1M : List Snetwork_event) (z1m : Snetwork_event) : Option Unit :=
 chk ((((z1M ++ ([z1m] : List Snetwork_event)).length : Nat) : Int) * 56 ≤ 140737488355328 ∧ (((z1M ++ ([z1m] : List Snetwork_event)).length : Nat) : Int) ≤ 4611686018427387904) (some ())
set_option maxRecDepth 20000 in
theorem y5N (Z : Zp) (z7c : Nat) (z5M : Option Addr) (z5N : Nat) (z93 : Value) (z94 : Value) (z95 : Value) (z96 : Value) (z97 : Value) (z98 : Value) (z99 : Value) (z9a : Value) (z9b : Value) (z9c : Value) (z9d : Value) (z9e : Value) (z9f : Value) (z1M : List Snetwork_event) (z1m : Snetwork_event) (r : Unit)
  (h : y2L z1M z1m = some r) (w₀ : World) (hz : PZ (fps [stb z7c 81 [z93,z94,z95,z96,z97,z98,z99,z9a,z9b,z9c,z9d,(.slice z5M z1M.length z5N),z9e,z9f],row (.slice z5M z1M.length z5N) 113 7 (z1M.flatMap yA)]) w₀ Z)
  (hown : Hp (fps [stb z7c 81 [z93,z94,z95,z96,z97,z98,z99,z9a,z9b,z9c,z9d,(.slice z5M z1M.length z5N),z9e,z9f],row (.slice z5M z1M.length z5N) 113 7 (z1M.flatMap yA)]) w₀ w₀ [stb z7c 81 [z93,z94,z95,z96,z97,z98,z99,z9a,z9b,z9c,z9d,(.slice z5M z1M.length z5N),z9e,z9f],row (.slice z5M z1M.length z5N) 113 7 (z1M.flatMap yA)]) :
  Calls Try.prog 92 #[(.pointer (some ⟨z7c,11,none⟩)),(.iface 113 (.agg #[(.int .i64 z1m.fTime),(.int .i64 z1m.fIn_),(.int .i64 z1m.fVl),(.int .i64 z1m.fSent),(.int .i64 z1m.fHop.fNode),(.int .i64 z1m.fHop.fNext),(.int .i64 z1m.fHop.fLink)]))] w₀ fun e w'=>∃ zmi : Option Addr,∃ zmj : Nat,e = .returned (.tuple #[]) ∧ True ∧ Hp (fps [stb z7c 81 [z93,z94,z95,z96,z97,z98,z99,z9a,z9b,z9c,z9d,(.slice z5M z1M.length z5N),z9e,z9f],row (.slice z5M z1M.length z5N) 113 7 (z1M.flatMap yA)]) w₀ w' [stb z7c 81 [z93,z94,z95,z96,z97,z98,z99,z9a,z9b,z9c,z9d,(.slice zmi ((z1M ++ ([z1m] : List Snetwork_event)).length) zmj),z9e,z9f],row (.slice zmi ((z1M ++ ([z1m] : List Snetwork_event)).length) zmj) 113 7 ((z1M ++ ([z1m] : List Snetwork_event)).flatMap yA)]:=by
 unfold y2L at h
 refine Calls.yo (vs:=[(.pointer (some ⟨z7c,11,none⟩)),(.iface 113 (.agg #[(.int .i64 z1m.fTime),(.int .i64 z1m.fIn_),(.int .i64 z1m.fVl),(.int .i64 z1m.fSent),(.int .i64 z1m.fHop.fNode),(.int .i64 z1m.fHop.fNext),(.int .i64 z1m.fHop.fLink)]))]) (pre:=[stb z7c 81 [z93,z94,z95,z96,z97,z98,z99,z9a,z9b,z9c,z9d,(.slice z5M z1M.length z5N),z9e,z9f],row (.slice z5M z1M.length z5N) 113 7 (z1M.flatMap yA)]) (env:=[(0,(.pointer (some ⟨z7c,11,none⟩))),(1,(.iface 113 (.agg #[(.int .i64 z1m.fTime),(.int .i64 z1m.fIn_),(.int .i64 z1m.fVl),(.int .i64 z1m.fSent),(.int .i64 z1m.fHop.fNode),(.int .i64 z1m.fHop.fNext),(.int .i64 z1m.fHop.fLink)])))]) Try.func92 rfl Try.ntmps92 rfl (hown) rfl ?_
 obtain ⟨zro,h⟩:=yj h
 refine WC.yY (fun i=>[7,9].contains i) [] rfl ?_
 refine WD.a (i:=0) (d:=4) (by kernel_rfl) rfl (z2 (by kernel_rfl)) (z3 (by kernel_rfl)) rfl rfl rfl (fun _=>q_m rfl) ?_
 refine WD.a (i:=1) (d:=5) (by kernel_rfl) rfl (z2 (by kernel_rfl)) (z3 (by kernel_rfl)) rfl rfl rfl (fun _=>q_m rfl) ?_
 refine WD.a (i:=2) (d:=6) (by kernel_rfl) rfl (z2 (by kernel_rfl)) (z3 (by kernel_rfl)) rfl rfl rfl (fun _=>yv rfl) ?_
 refine WD.e (i:=3) (d:=7) (by kernel_rfl) rfl (z2 (by kernel_rfl)) (z3 (by kernel_rfl)) rfl rfl rfl (yb y5b rfl (yc .here rfl)) ?_
 refine WD.a (i:=4) (d:=8) (by kernel_rfl) rfl (z2 (by kernel_rfl)) (z3 (by kernel_rfl)) rfl rfl rfl (fun _=>q_m rfl) ?_
 refine WD.e (i:=5) (d:=9) (by kernel_rfl) rfl (z2 (by kernel_rfl)) (z3 (by kernel_rfl)) rfl rfl rfl (y8M Try.underlying113 rfl rfl) ?_
 refine WD.new (i:=6) (dd:=10) rfl (by kernel_rfl) rfl rfl rfl (y18 (cs:=([z1m] : List Snetwork_event).flatMap yA) y4q (Eos.parts (l:=[.tmp 9]) (.cons rfl .nil) [0]) (fun _=>by kernel_rfl) rfl (by unfold maxLen; omega)) (fun h'=>absurd h' (by decide)) ?_
 intro zxm _
 refine WD.old (i:=7) (dd:=11) rfl (by kernel_rfl) rfl rfl rfl rfl (fun _=>(Sin.of .nil)) (y4V (enc:=yA) (l1:=z1M) (l2:=([z1m] : List Snetwork_event)) y4q rfl rfl .h2 (fun _=>rfl) rfl rfl (y5k .here) (y58 e113_oc _) zro) ?_
 rintro ⟨zmk,zml⟩ _
 refine WD.a (i:=8) (d:=12) (by kernel_rfl) rfl (z2 (by kernel_rfl)) (z3 (by kernel_rfl)) rfl rfl rfl (fun _=>yv rfl) ?_
 refine WD.y2D (i:=9) rfl (by kernel_rfl) rfl rfl rfl (by kernel_rfl) (y4b (ds:=[z93,z94,z95,z96,z97,z98,z99,z9a,z9b,z9c,z9d,(.slice zmk ((z1M ++ ([z1m] : List Snetwork_event)).length) zml),z9e,z9f]) y9v rfl rfl rfl rfl rfl .h2 rfl rfl) ?_
 refine WD.done (by kernel_rfl) ?_
 skip
 refine WX.y1U Try.results92 .nil (fun w hw=>?_)
 exact ⟨zmk,zml,y4n,trivial,hw.sub (.cons .here (.cons .here .nil))⟩
def y1z (z7d : (List Snetwork_event) → Option (List Snetwork_event)) : Nat → Int → (List Snetwork_event) → Option (List Snetwork_event)
 | 0,_,_=>none
 | zhU + 1,z36,z3p=>(if decide ((i64 (Int.tdiv (i64 (z36 - 1)) 2)) = z36) then some true else (y1v z3p z36 (i64 (Int.tdiv (i64 (z36 - 1)) 2))).bind fun zmm=>some (!zmm)).bind fun zhV=>if zhV then z7d z3p else (y1w z3p (i64 (Int.tdiv (i64 (z36 - 1)) 2)) z36).bind fun zfg=>y1z z7d zhU (i64 (Int.tdiv (i64 (z36 - 1)) 2)) zfg
theorem y4O {n : Nat} {z7d : (List Snetwork_event) → Option (List Snetwork_event)} {z36 : Int} {z3p : List Snetwork_event} {r : List Snetwork_event} (h : y1z z7d n z36 z3p = some r) : ∃ m,n = m + 1:=by
 cases n with
 | zero=>cases h
 | succ m=>exact ⟨m,rfl⟩
def y30 (z1U : List Snetwork_event) (z9g : Int) : Option (List Snetwork_event) :=
 jp1 (fun (z5i : List Snetwork_event)=>some z5i) fun z7d=>y1z z7d yt z9g z1U
set_option maxRecDepth 20000 in
theorem y6o (Z : Zp) (z4G : Nat) (z37 : Option Addr) (z38 : Nat) (z7e : Value) (z7f : Value) (z7g : Value) (z7h : Value) (z7i : Value) (z7j : Value) (z7k : Value) (z7l : Value) (z7m : Value) (z7n : Value) (z7o : Value) (z7p : Value) (z7q : Value) (z1U : List Snetwork_event) (z9g : Int) (r : List Snetwork_event)
  (h : y30 z1U z9g = some r) (w₀ : World) (hz : PZ (fps [stb z4G 81 [z7e,z7f,z7g,z7h,z7i,z7j,z7k,z7l,z7m,z7n,z7o,(.slice z37 z1U.length z38),z7p,z7q],row (.slice z37 z1U.length z38) 113 7 (z1U.flatMap yA)]) w₀ Z)
  (hown : Hp (fps [stb z4G 81 [z7e,z7f,z7g,z7h,z7i,z7j,z7k,z7l,z7m,z7n,z7o,(.slice z37 z1U.length z38),z7p,z7q],row (.slice z37 z1U.length z38) 113 7 (z1U.flatMap yA)]) w₀ w₀ [stb z4G 81 [z7e,z7f,z7g,z7h,z7i,z7j,z7k,z7l,z7m,z7n,z7o,(.slice z37 z1U.length z38),z7p,z7q],row (.slice z37 z1U.length z38) 113 7 (z1U.flatMap yA)]) :
  Calls Try.prog 50 #[(.iface 111 (.pointer (some ⟨z4G,11,none⟩))),(.int .i64 z9g)] w₀ fun e w'=>e = .returned (.tuple #[]) ∧ (r.length = z1U.length) ∧ Hp (fps [stb z4G 81 [z7e,z7f,z7g,z7h,z7i,z7j,z7k,z7l,z7m,z7n,z7o,(.slice z37 z1U.length z38),z7p,z7q],row (.slice z37 z1U.length z38) 113 7 (z1U.flatMap yA)]) w₀ w' [stb z4G 81 [z7e,z7f,z7g,z7h,z7i,z7j,z7k,z7l,z7m,z7n,z7o,(.slice z37 r.length z38),z7p,z7q],row (.slice z37 r.length z38) 113 7 (r.flatMap yA)]:=by
 unfold y30 at h
 refine Calls.yo (vs:=[(.iface 111 (.pointer (some ⟨z4G,11,none⟩))),(.int .i64 z9g)]) (pre:=[stb z4G 81 [z7e,z7f,z7g,z7h,z7i,z7j,z7k,z7l,z7m,z7n,z7o,(.slice z37 z1U.length z38),z7p,z7q],row (.slice z37 z1U.length z38) 113 7 (z1U.flatMap yA)]) (env:=[(0,(.iface 111 (.pointer (some ⟨z4G,11,none⟩)))),(1,(.int .i64 z9g))]) Try.func50 rfl Try.ntmps50 rfl (hown) rfl ?_
 obtain ⟨z7d,zrp,h⟩:=yZ h
 refine WC.y4K (fun (z5i : List Snetwork_event)=>(z7d z5i = some r) ∧ (z5i.length = z1U.length)) (fun (z5i : List Snetwork_event)=>[]) (fun (z5i : List Snetwork_event)=>[row (.slice z37 z5i.length z38) 113 7 (z5i.flatMap yA),stb z4G 81 [z7e,z7f,z7g,z7h,z7i,z7j,z7k,z7l,z7m,z7n,z7o,(.slice z37 z5i.length z38),z7p,z7q]]) ?_ ?_
 ·skip
  refine WC.block ?_
  refine WC.y26 (fun (zbe : Nat) (z36 : Int) (z3p : List Snetwork_event)=>(y1z z7d zbe z36 z3p = some r) ∧ (z3p.length = z1U.length)) (fun (zbe : Nat) (z36 : Int) (z3p : List Snetwork_event)=>[(0,(.iface 111 (.pointer (some ⟨z4G,11,none⟩)))),(1,(.int .i64 z36))]) (fun (zbe : Nat) (z36 : Int) (z3p : List Snetwork_event)=>[row (.slice z37 z3p.length z38) 113 7 (z3p.flatMap yA),stb z4G 81 [z7e,z7f,z7g,z7h,z7i,z7j,z7k,z7l,z7m,z7n,z7o,(.slice z37 z3p.length z38),z7p,z7q]]) (fun (zbe : Nat) (z36 : Int) (z3p : List Snetwork_event)=>zbe) ⟨yt,z9g,z1U⟩ ⟨h,rfl⟩ (.cons rfl (.cons rfl .nil)) (.cons .h1 (.cons .here .nil)) ?_
  rintro zbe z36 z3p ⟨h,zmn⟩
  obtain ⟨zhU,rfl⟩:=y4O h
  rw [y1z] at h
  refine WC.block (WC.b (WC.a (WL.pu rfl (WL.pu rfl ?_))))
  refine WL.a (d:=7) rfl rfl rfl (q_quo rfl rfl (by decide) rfl) ?_
  refine WL.pu rfl (WL.nil (WX.a (WC.b (WC.b ?_))))
  obtain ⟨zhV,zmo,h⟩:=zn h
  refine WC.a (WL.pu rfl (WL.pu rfl (WL.pu rfl (WL.pu rfl ?_))))
  refine WL.seg false 5 11 (B:=zhV) rfl rfl rfl rfl rfl rfl (fun h=>(Option.some.inj (yl zmo h)).symm) (fun _ zrq=>?_) ?_
  ·skip
   have zdW:=ym zmo zrq
   obtain ⟨zmm,zrr,zdW⟩:=zn zdW
   replace zdW:=Option.some.inj zdW
   refine WL.pu rfl (WL.pu rfl (WL.pu rfl ?_))
   refine WL.b (dd:=15) rfl rfl rfl (y32 (l:=[.tmp 13,.tmp 14]) (y5m) Try.call87 rfl (yc .h1 rfl) (.cons rfl (.cons rfl .nil))) .nil (ccl hz .nil (.cons .here .nil) fun w pz ho la=>y3A _ _ _ _ _ _ _ zrr w pz (ZA.row (la _ (.head _) _) (RR.y1q (enc:=yA) (fun _=>rfl) _) ⟨w,pz.1⟩)) ?_
   refine WL.pu rfl (WL.pu rfl ?_)
   exact WL.yu zdW rfl rfl .all
  refine WL.nil (WX.a ?_)
  refine WC.cond rfl (fun zhW=>?_) (fun zhW=>?_)
  ·replace h:=yl h zhW
   refine WC.exit (WX.yd (WX.y5g rfl (WX.yd (WX.yy ?_))))
   exact WX.mid (G:=List Snetwork_event) z3p ⟨h,zmn⟩ .nil (.cons .here (.cons .here .nil))
  ·replace h:=ym h zhW
   refine WC.skip (WX.a (WC.b ?_))
   obtain ⟨zfg,zrs,h⟩:=zn h
   refine WC.a (WL.pu rfl (WL.pu rfl (WL.pu rfl ?_)))
   refine WL.y1N (dd:=21) rfl rfl rfl (y32 (l:=[.tmp 19,.tmp 20]) (y5n) Try.call88 rfl (yc .h1 rfl) (.cons rfl (.cons rfl .nil))) (.cons .here .nil) (cc hz (.cons .here .nil) fun w pz ho=>y3B _ _ _ _ _ _ _ zrs w pz  ho) ?_
   rintro  zmp
   refine WL.restb (cs':=[z7e,z7f,z7g,z7h,z7i,z7j,z7k,z7l,z7m,z7n,z7o,(.slice z37 zfg.length z38),z7p,z7q]) .h1 (by rw [zmp]) ?_
   refine WL.nil (WX.a (WC.a (WL.pu rfl (WL.pu rfl (WL.nil (WX.yh ?_))))))
   exact WX.round (G:=Nat × Int × List Snetwork_event) ⟨zhU,(i64 (Int.tdiv (i64 (z36 - 1)) 2)),zfg⟩ ⟨h,(zmp.trans zmn)⟩ (Nat.lt_succ_self _) (.cons rfl (.cons rfl .nil)) (.cons .h1 (.cons .here .nil))
 ·rintro z5i ⟨h,zrt⟩
  replace h:=(zrp z5i).symm.trans h
  obtain rfl:=Option.some.inj h
  refine WX.y1U Try.results50 .nil (fun w hw=>?_)
  exact ⟨y4n,zrt,hw.sub (.cons .h1 (.cons .here .nil))⟩
def y1X (z2e : List Snetwork_event) (z1F : Snetwork_event) : Option (List Snetwork_event) :=
 (y2L z2e z1F).bind fun zru=>(y2e (z2e ++ ([z1F] : List Snetwork_event))).bind fun zmq=>(y30 (z2e ++ ([z1F] : List Snetwork_event)) (i64 (zmq - 1))).bind fun zhX=>some zhX
set_option maxRecDepth 20000 in
theorem y5O (Z : Zp) (z7r : Nat) (z5O : Option Addr) (z5P : Nat) (z9h : Value) (z9i : Value) (z9j : Value) (z9k : Value) (z9l : Value) (z9m : Value) (z9n : Value) (z9o : Value) (z9p : Value) (z9q : Value) (z9r : Value) (z9s : Value) (z9t : Value) (z2e : List Snetwork_event) (z1F : Snetwork_event) (r : List Snetwork_event)
  (h : y1X z2e z1F = some r) (w₀ : World) (hz : PZ (fps [stb z7r 81 [z9h,z9i,z9j,z9k,z9l,z9m,z9n,z9o,z9p,z9q,z9r,(.slice z5O z2e.length z5P),z9s,z9t],row (.slice z5O z2e.length z5P) 113 7 (z2e.flatMap yA)]) w₀ Z)
  (hown : Hp (fps [stb z7r 81 [z9h,z9i,z9j,z9k,z9l,z9m,z9n,z9o,z9p,z9q,z9r,(.slice z5O z2e.length z5P),z9s,z9t],row (.slice z5O z2e.length z5P) 113 7 (z2e.flatMap yA)]) w₀ w₀ [stb z7r 81 [z9h,z9i,z9j,z9k,z9l,z9m,z9n,z9o,z9p,z9q,z9r,(.slice z5O z2e.length z5P),z9s,z9t],row (.slice z5O z2e.length z5P) 113 7 (z2e.flatMap yA)]) :
  Calls Try.prog 38 #[(.iface 111 (.pointer (some ⟨z7r,11,none⟩))),(.iface 113 (.agg #[(.int .i64 z1F.fTime),(.int .i64 z1F.fIn_),(.int .i64 z1F.fVl),(.int .i64 z1F.fSent),(.int .i64 z1F.fHop.fNode),(.int .i64 z1F.fHop.fNext),(.int .i64 z1F.fHop.fLink)]))] w₀ fun e w'=>∃ zmr : Option Addr,∃ zms : Nat,e = .returned (.tuple #[]) ∧ True ∧ Hp (fps [stb z7r 81 [z9h,z9i,z9j,z9k,z9l,z9m,z9n,z9o,z9p,z9q,z9r,(.slice z5O z2e.length z5P),z9s,z9t],row (.slice z5O z2e.length z5P) 113 7 (z2e.flatMap yA)]) w₀ w' [stb z7r 81 [z9h,z9i,z9j,z9k,z9l,z9m,z9n,z9o,z9p,z9q,z9r,(.slice zmr r.length zms),z9s,z9t],row (.slice zmr r.length zms) 113 7 (r.flatMap yA)]:=by
 unfold y1X at h
 refine Calls.yo (vs:=[(.iface 111 (.pointer (some ⟨z7r,11,none⟩))),(.iface 113 (.agg #[(.int .i64 z1F.fTime),(.int .i64 z1F.fIn_),(.int .i64 z1F.fVl),(.int .i64 z1F.fSent),(.int .i64 z1F.fHop.fNode),(.int .i64 z1F.fHop.fNext),(.int .i64 z1F.fHop.fLink)]))]) (pre:=[stb z7r 81 [z9h,z9i,z9j,z9k,z9l,z9m,z9n,z9o,z9p,z9q,z9r,(.slice z5O z2e.length z5P),z9s,z9t],row (.slice z5O z2e.length z5P) 113 7 (z2e.flatMap yA)]) (env:=[(0,(.iface 111 (.pointer (some ⟨z7r,11,none⟩)))),(1,(.iface 113 (.agg #[(.int .i64 z1F.fTime),(.int .i64 z1F.fIn_),(.int .i64 z1F.fVl),(.int .i64 z1F.fSent),(.int .i64 z1F.fHop.fNode),(.int .i64 z1F.fHop.fNext),(.int .i64 z1F.fHop.fLink)])))]) Try.func38 rfl Try.ntmps38 rfl (hown) rfl ?_
 refine WC.b ?_
 obtain ⟨zru,zrv,h⟩:=zn h
 refine WC.a (WL.pu rfl (WL.pu rfl ?_))
 refine WL.y4w (dd:=6) rfl rfl rfl (y7y (l:=[.tmp 5]) (y8Q _) Try.call92 rfl (.cons rfl .nil)) (.cons .here (.cons .here .nil)) (cc hz (.cons .here (.cons .here .nil)) fun w pz ho=>y5N _ _ _ _ _ _ _ _ _ _ _ _ _ _ _ _ _ _ _ _ zrv w pz  ho) ?_
 rintro zmt zmu _
 refine WL.nil (WX.a ?_)
 obtain ⟨zmq,zrw,h⟩:=zn h
 obtain ⟨zhX,zrx,h⟩:=zn h
 refine WC.a (WL.pu rfl (WL.pu rfl ?_))
 refine WL.b (dd:=9) rfl rfl rfl (y32 (l:=[]) (y7c) Try.call86 rfl (yc .here rfl) .nil) .nil (ccl hz .nil (.cons .h1 .nil) fun w pz ho la=>y4D _ _ _ _ _ zrw w pz (ZA.row (la _ (.head _) _) (RR.y1q (enc:=yA) (fun _=>rfl) _) ⟨w,pz.1⟩)) ?_
 refine WL.pu rfl ?_
 refine WL.y1N (dd:=11) rfl rfl rfl (zF (l:=[.tmp 7,.tmp 10]) Try.call50 (.cons rfl (.cons rfl .nil))) (.cons .here (.cons .here .nil)) (cc hz (.cons .here (.cons .here .nil)) fun w pz ho=>y6o _ _ _ _ _ _ _ _ _ _ _ _ _ _ _ _ _ _ _ _ zrx w pz  ho) ?_
 rintro  zry
 refine WL.restb (cs':=[z9h,z9i,z9j,z9k,z9l,z9m,z9n,z9o,z9p,z9q,z9r,(.slice zmt zhX.length zmu),z9s,z9t]) .here (by rw [zry]) ?_
 refine WL.nil ?_
 obtain rfl:=Option.some.inj h
 refine WX.y1U Try.results38 .nil (fun w hw=>?_)
 exact ⟨zmt,zmu,y4n,trivial,hw.sub (.cons .here (.cons .here .nil))⟩
def y1D (z1k : List (List Sapi_Hop)) (z13 : List zSt) (z1a : Int) (z3S : Int) (z3D : Int) (z3E : Int) (z7s : (List Snetwork_event) → Option (List Snetwork_event)) : Nat → Int → (List Snetwork_event) → Option (List Snetwork_event)
 | 0,_,_=>none
 | zhY + 1,z1V,z3q=>if decide (z1V < (((nth z1k ((nth z13 z1a).fVL)).length : Nat) : Int)) then jp1 (fun (z5j : List Snetwork_event)=>y1D z1k z13 z1a z3S z3D z3E z7s zhY (i64 (z1V + 1)) z5j) fun zfh=>chk ((0 : Int) ≤ z1V ∧ z1V < (((nth z1k ((nth z13 z1a).fVL)).length : Nat) : Int)) (if decide (((nth (nth z1k ((nth z13 z1a).fVL)) z1V).fNode) = z3S) then (y1X z3q (⟨z3D,z3E,((nth z13 z1a).fVL),z1a,(⟨((nth (nth z1k ((nth z13 z1a).fVL)) z1V).fNode),((nth (nth z1k ((nth z13 z1a).fVL)) z1V).fNext),((nth (nth z1k ((nth z13 z1a).fVL)) z1V).fLink)⟩ : Sapi_Hop)⟩ : Snetwork_event)).bind fun zhZ=>zfh zhZ else zfh z3q) else z7s z3q
theorem y4Z {n : Nat} {z1k : List (List Sapi_Hop)} {z13 : List zSt} {z1a : Int} {z3S : Int} {z3D : Int} {z3E : Int} {z7s : (List Snetwork_event) → Option (List Snetwork_event)} {z1V : Int} {z3q : List Snetwork_event} {r : List Snetwork_event} (h : y1D z1k z13 z1a z3S z3D z3E z7s n z1V z3q = some r) : ∃ m,n = m + 1:=by
 cases n with
 | zero=>cases h
 | succ m=>exact ⟨m,rfl⟩
def y2l (zB : Sapi_Config) (z1k : List (List Sapi_Hop)) (z13 : List zSt) (zi0 : List (Snetwork_exit × Sport_Port)) (z2o : List Snetwork_event) (z4H : List Sapi_Come) (z4I : List Sapi_Come) (z3S : Int) (z3D : Int) (z3E : Int) (z1a : Int) : Option (List Snetwork_event) :=
 chk ((0 : Int) ≤ z1a ∧ z1a < ((z13.length : Nat) : Int)) (chk ((0 : Int) ≤ ((nth z13 z1a).fVL) ∧ ((nth z13 z1a).fVL) < ((z1k.length : Nat) : Int)) (jp1 (fun (z5Q : List Snetwork_event)=>some z5Q) fun z7s=>y1D z1k z13 z1a z3S z3D z3E z7s yt 0 z2o))
set_option maxRecDepth 20000 in
theorem y4I (Z : Zp) (z3T : Nat) (z5R : Option Addr) (z5S : Nat) (z5T : Option Addr) (z5U : Nat) (z5V : Option Addr) (z5W : Nat) (z5X : Option Addr) (z5Y : Nat) (z5Z : Option Addr) (z60 : Nat) (z61 : Option Addr) (z62 : Nat) (z63 : Option Addr) (z64 : Nat) (z65 : Option Addr) (z66 : Nat) (z67 : Option Addr) (z68 : Nat) (z69 : Option Addr) (z6a : Nat) (z2F : Nat) (z2p : List (Snetwork_exit × ((Nat × (Option Addr × Nat)) × Sport_Port))) (z5k : Option Addr) (z5l : Nat) (z6b : Option Addr) (z6c : Nat) (z6d : Option Addr) (z6e : Nat) (zB : Sapi_Config) (z1k : List (List Sapi_Hop)) (z13 : List zSt) (zi0 : List (Snetwork_exit × Sport_Port)) (z2o : List Snetwork_event) (z4H : List Sapi_Come) (z4I : List Sapi_Come) (z3S : Int) (z3D : Int) (z3E : Int) (z1a : Int) (r : List Snetwork_event)
  (h : y2l zB z1k z13 zi0 z2o z4H z4I z3S z3D z3E z1a = some r) (w₀ : World) (hz : PZ (fps [stb z3T 81 [(.slice z5R zB.fModules.length z5S),(.slice z5T zB.fChannels.length z5U),(.slice z5V zB.fSwitches.length z5W),(.slice z5X zB.fLinks.length z5Y),(.slice z5Z zB.fVLs.length z60),(.slice z61 zB.fHealth.length z62),(.slice z63 zB.fCauses.length z64),(.slice z65 zB.fVersions.length z66),(.slice z67 z1k.length z68),(.slice z69 z13.length z6a),(.map (some z2F)),(.slice z5k z2o.length z5l),(.slice z6b z4H.length z6c),(.slice z6d z4I.length z6e)],yF z2F (fun x=>Value.agg (y1S x).toArray) Value.pointer (y1s z2p),y1r z19 z2p,row (.slice z5k z2o.length z5l) 113 7 (z2o.flatMap yA)]) w₀ Z)
  (zxn : ZS Z 4 (y2w Z) z5R z5S zB.fModules)
  (zxo : ZS Z 4 (y2S Z) z5T z5U zB.fChannels)
  (zxp : ZS Z 4 (fun r x=>r = e64 x) z5V z5W zB.fSwitches)
  (zxq : ZS Z 4 (fun r x=>r = e62 x) z5X z5Y zB.fLinks)
  (zxr : ZS Z 7 (y2F Z) z5Z z60 zB.fVLs)
  (zxs : ZS Z 5 (fun r x=>r = y2Y x) z61 z62 zB.fHealth)
  (zxt : ZS Z 3 (y2T Z) z63 z64 zB.fCauses)
  (zxu : ZS Z 4 (fun r x=>r = y2Z x) z65 z66 zB.fVersions)
  (zrz : ZS Z 1 (p55 Z) z67 z68 z1k)
  (zrA : ZS Z 3 (fun r x=>r = e53 x) z69 z6a z13)
  (zxv : dat z2p = zi0)
  (zxw : ZS Z 3 (fun r x=>r = e50 x) z6b z6c z4H)
  (zxx : ZS Z 3 (fun r x=>r = e50 x) z6d z6e z4I)
  (hown : Hp (fps [stb z3T 81 [(.slice z5R zB.fModules.length z5S),(.slice z5T zB.fChannels.length z5U),(.slice z5V zB.fSwitches.length z5W),(.slice z5X zB.fLinks.length z5Y),(.slice z5Z zB.fVLs.length z60),(.slice z61 zB.fHealth.length z62),(.slice z63 zB.fCauses.length z64),(.slice z65 zB.fVersions.length z66),(.slice z67 z1k.length z68),(.slice z69 z13.length z6a),(.map (some z2F)),(.slice z5k z2o.length z5l),(.slice z6b z4H.length z6c),(.slice z6d z4I.length z6e)],yF z2F (fun x=>Value.agg (y1S x).toArray) Value.pointer (y1s z2p),y1r z19 z2p,row (.slice z5k z2o.length z5l) 113 7 (z2o.flatMap yA)]) w₀ w₀ [stb z3T 81 [(.slice z5R zB.fModules.length z5S),(.slice z5T zB.fChannels.length z5U),(.slice z5V zB.fSwitches.length z5W),(.slice z5X zB.fLinks.length z5Y),(.slice z5Z zB.fVLs.length z60),(.slice z61 zB.fHealth.length z62),(.slice z63 zB.fCauses.length z64),(.slice z65 zB.fVersions.length z66),(.slice z67 z1k.length z68),(.slice z69 z13.length z6a),(.map (some z2F)),(.slice z5k z2o.length z5l),(.slice z6b z4H.length z6c),(.slice z6d z4I.length z6e)],yF z2F (fun x=>Value.agg (y1S x).toArray) Value.pointer (y1s z2p),y1r z19 z2p,row (.slice z5k z2o.length z5l) 113 7 (z2o.flatMap yA)]) :
  Calls Try.prog 25 #[(.pointer (some ⟨z3T,0,none⟩)),(.int .i64 z3S),(.int .i64 z3D),(.int .i64 z3E),(.int .i64 z1a)] w₀ fun e w'=>∃ zmv : Option Addr,∃ zmw : Nat,e = .returned (.tuple #[]) ∧ True ∧ Hp (fps [stb z3T 81 [(.slice z5R zB.fModules.length z5S),(.slice z5T zB.fChannels.length z5U),(.slice z5V zB.fSwitches.length z5W),(.slice z5X zB.fLinks.length z5Y),(.slice z5Z zB.fVLs.length z60),(.slice z61 zB.fHealth.length z62),(.slice z63 zB.fCauses.length z64),(.slice z65 zB.fVersions.length z66),(.slice z67 z1k.length z68),(.slice z69 z13.length z6a),(.map (some z2F)),(.slice z5k z2o.length z5l),(.slice z6b z4H.length z6c),(.slice z6d z4I.length z6e)],yF z2F (fun x=>Value.agg (y1S x).toArray) Value.pointer (y1s z2p),y1r z19 z2p,row (.slice z5k z2o.length z5l) 113 7 (z2o.flatMap yA)]) w₀ w' [stb z3T 81 [(.slice z5R zB.fModules.length z5S),(.slice z5T zB.fChannels.length z5U),(.slice z5V zB.fSwitches.length z5W),(.slice z5X zB.fLinks.length z5Y),(.slice z5Z zB.fVLs.length z60),(.slice z61 zB.fHealth.length z62),(.slice z63 zB.fCauses.length z64),(.slice z65 zB.fVersions.length z66),(.slice z67 z1k.length z68),(.slice z69 z13.length z6a),(.map (some z2F)),(.slice zmv r.length zmw),(.slice z6b z4H.length z6c),(.slice z6d z4I.length z6e)],row (.slice zmv r.length zmw) 113 7 (r.flatMap yA),yF z2F (fun x=>Value.agg (y1S x).toArray) Value.pointer (y1s z2p),y1r z19 z2p]:=by
 unfold y2l at h
 refine Calls.yo (vs:=[(.pointer (some ⟨z3T,0,none⟩)),(.int .i64 z3S),(.int .i64 z3D),(.int .i64 z3E),(.int .i64 z1a)]) (pre:=[stb z3T 81 [(.slice z5R zB.fModules.length z5S),(.slice z5T zB.fChannels.length z5U),(.slice z5V zB.fSwitches.length z5W),(.slice z5X zB.fLinks.length z5Y),(.slice z5Z zB.fVLs.length z60),(.slice z61 zB.fHealth.length z62),(.slice z63 zB.fCauses.length z64),(.slice z65 zB.fVersions.length z66),(.slice z67 z1k.length z68),(.slice z69 z13.length z6a),(.map (some z2F)),(.slice z5k z2o.length z5l),(.slice z6b z4H.length z6c),(.slice z6d z4I.length z6e)],yF z2F (fun x=>Value.agg (y1S x).toArray) Value.pointer (y1s z2p),y1r z19 z2p,row (.slice z5k z2o.length z5l) 113 7 (z2o.flatMap yA)]) (env:=[(0,(.pointer (some ⟨z3T,0,none⟩))),(1,(.int .i64 z3S)),(2,(.int .i64 z3D)),(3,(.int .i64 z3E)),(4,(.int .i64 z1a))]) Try.func25 rfl Try.ntmps25 rfl (hown) rfl ?_
 refine WC.b ?_
 obtain ⟨zrB,h⟩:=yj h
 refine WC.a (WL.pu rfl ?_)
 refine WL.a (d:=14) rfl rfl rfl (yv rfl) ?_
 refine WL.a (d:=15) rfl rfl rfl (ya y9t rfl rfl) ?_
 refine WL.a (d:=16) rfl rfl rfl (yb y9u rfl (yc .here rfl)) ?_
 refine WL.pu rfl ?_
 refine WL.znth (dd:=18) rfl rfl (Z:=Z) (Pr:=(fun r x=>r = e53 x)) y4p rfl rfl zrA zrB ?_
 rintro zxy zxz zrC zxA rfl
 refine WL.a (d:=19) rfl rfl rfl (ya y4L rfl rfl) ?_
 refine WL.a (d:=20) rfl rfl rfl (yb yg rfl (y21 hz.pv zrC rfl)) ?_
 refine WL.pu rfl (WL.nil (WX.a (WC.b ?_)))
 obtain ⟨zrD,h⟩:=yj h
 refine WC.a (WL.pu rfl ?_)
 refine WL.a (d:=22) rfl rfl rfl (yv rfl) ?_
 refine WL.a (d:=23) rfl rfl rfl (ya fo_81_1 rfl rfl) ?_
 refine WL.a (d:=24) rfl rfl rfl (yb oneT_32 rfl (yc .here rfl)) ?_
 refine WL.pu rfl ?_
 refine WL.znth (dd:=26) rfl rfl (Z:=Z) (Pr:=(p55 Z)) y5V rfl rfl zrz zrD ?_
 rintro zxB zxC zrE zxD ⟨zmx,zmy,rfl,zrF⟩
 refine WL.a (d:=27) rfl rfl rfl (yb y5W rfl (rd_z hz.pv zrE rfl)) ?_
 refine WL.a (d:=28) rfl rfl rfl (yW Try.underlying55 rfl) ?_
 refine WL.pu rfl (WL.nil (WX.a ?_))
 obtain ⟨z7s,zrG,h⟩:=yZ h
 refine WC.mid3 (fun (z5Q : List Snetwork_event) (zbf : Option Addr) (zbg : Nat)=>(z7s z5Q = some r)) (fun (z5Q : List Snetwork_event) (zbf : Option Addr) (zbg : Nat)=>[]) (fun (z5Q : List Snetwork_event) (zbf : Option Addr) (zbg : Nat)=>[row (.slice zbf z5Q.length zbg) 113 7 (z5Q.flatMap yA),stb z3T 81 [(.slice z5R zB.fModules.length z5S),(.slice z5T zB.fChannels.length z5U),(.slice z5V zB.fSwitches.length z5W),(.slice z5X zB.fLinks.length z5Y),(.slice z5Z zB.fVLs.length z60),(.slice z61 zB.fHealth.length z62),(.slice z63 zB.fCauses.length z64),(.slice z65 zB.fVersions.length z66),(.slice z67 z1k.length z68),(.slice z69 z13.length z6a),(.map (some z2F)),(.slice zbf z5Q.length zbg),(.slice z6b z4H.length z6c),(.slice z6d z4I.length z6e)],yF z2F (fun x=>Value.agg (y1S x).toArray) Value.pointer (y1s z2p),y1r z19 z2p]) ?_ ?_
 ·skip
  refine WC.block ?_
  refine WC.y6d (fun (zbh : Nat) (z1V : Int) (z3q : List Snetwork_event) (z8a : Option Addr) (z8b : Nat)=>(y1D z1k z13 z1a z3S z3D z3E z7s zbh z1V z3q = some r)) (fun (zbh : Nat) (z1V : Int) (z3q : List Snetwork_event) (z8a : Option Addr) (z8b : Nat)=>[(0,(.pointer (some ⟨z3T,0,none⟩))),(1,(.int .i64 z3S)),(2,(.int .i64 z3D)),(3,(.int .i64 z3E)),(4,(.int .i64 z1a)),(10,(.int .i64 ((nth z13 z1a).fVL))),(27,(.slice zmx ((nth z1k ((nth z13 z1a).fVL)).length) zmy)),(28,(.int .i64 (((nth z1k ((nth z13 z1a).fVL)).length : Nat) : Int))),(29,(.int .i64 z1V))]) (fun (zbh : Nat) (z1V : Int) (z3q : List Snetwork_event) (z8a : Option Addr) (z8b : Nat)=>[row (.slice z8a z3q.length z8b) 113 7 (z3q.flatMap yA),stb z3T 81 [(.slice z5R zB.fModules.length z5S),(.slice z5T zB.fChannels.length z5U),(.slice z5V zB.fSwitches.length z5W),(.slice z5X zB.fLinks.length z5Y),(.slice z5Z zB.fVLs.length z60),(.slice z61 zB.fHealth.length z62),(.slice z63 zB.fCauses.length z64),(.slice z65 zB.fVersions.length z66),(.slice z67 z1k.length z68),(.slice z69 z13.length z6a),(.map (some z2F)),(.slice z8a z3q.length z8b),(.slice z6b z4H.length z6c),(.slice z6d z4I.length z6e)],yF z2F (fun x=>Value.agg (y1S x).toArray) Value.pointer (y1s z2p),y1r z19 z2p]) (fun (zbh : Nat) (z1V : Int) (z3q : List Snetwork_event) (z8a : Option Addr) (z8b : Nat)=>zbh) ⟨yt,0,z2o,z5k,z5l⟩ h (.cons rfl (.cons rfl (.cons rfl (.cons rfl (.cons rfl (.cons rfl (.cons rfl (.cons rfl (.cons rfl .nil))))))))) (.cons .h3 (.cons .here (.cons .here (.cons .here .nil)))) ?_
  rintro zbh z1V z3q z8a z8b h
  obtain ⟨zhY,rfl⟩:=y4Z h
  rw [y1D] at h
  refine WC.b (WC.a (WL.pu rfl (WL.nil (WX.a (WC.b ?_)))))
  refine WC.cond rfl (fun zi1=>?_) (fun zi1=>?_)
  ·replace h:=yl h zi1
   refine WC.skip (WX.a ?_)
   obtain ⟨zfh,zrH,h⟩:=yZ h
   refine WC.y4j (fun (z5j : List Snetwork_event) (zbi : Option Addr) (zbj : Nat)=>(zfh z5j = some r)) (fun (z5j : List Snetwork_event) (zbi : Option Addr) (zbj : Nat)=>[(0,(.pointer (some ⟨z3T,0,none⟩))),(1,(.int .i64 z3S)),(2,(.int .i64 z3D)),(3,(.int .i64 z3E)),(4,(.int .i64 z1a)),(10,(.int .i64 ((nth z13 z1a).fVL))),(27,(.slice zmx ((nth z1k ((nth z13 z1a).fVL)).length) zmy)),(28,(.int .i64 (((nth z1k ((nth z13 z1a).fVL)).length : Nat) : Int))),(29,(.int .i64 z1V))]) (fun (z5j : List Snetwork_event) (zbi : Option Addr) (zbj : Nat)=>[row (.slice zbi z5j.length zbj) 113 7 (z5j.flatMap yA),stb z3T 81 [(.slice z5R zB.fModules.length z5S),(.slice z5T zB.fChannels.length z5U),(.slice z5V zB.fSwitches.length z5W),(.slice z5X zB.fLinks.length z5Y),(.slice z5Z zB.fVLs.length z60),(.slice z61 zB.fHealth.length z62),(.slice z63 zB.fCauses.length z64),(.slice z65 zB.fVersions.length z66),(.slice z67 z1k.length z68),(.slice z69 z13.length z6a),(.map (some z2F)),(.slice zbi z5j.length zbj),(.slice z6b z4H.length z6c),(.slice z6d z4I.length z6e)],yF z2F (fun x=>Value.agg (y1S x).toArray) Value.pointer (y1s z2p),y1r z19 z2p]) ?_ ?_
   ·skip
    refine WC.block (WC.b ?_)
    obtain ⟨zrI,h⟩:=yj h
    refine WC.a ?_
    refine WL.znth (dd:=31) rfl rfl (Z:=Z) (Pr:=(fun r x=>r = e59 x)) y4X rfl rfl zrF zrI ?_
    rintro zxE zxF zrJ zxG rfl
    refine WL.a (d:=32) rfl rfl rfl (yN y5X rfl (y3u hz.pv zrJ) rfl) ?_
    refine WL.new (dd:=12) rfl rfl rfl (y2d (cs:=[(.int .i64 0),(.int .i64 0),(.int .i64 0)]) y7h rfl) ?_
    intro zxH _
    refine WL.y1u rfl rfl (y1K y7T rfl rfl rfl .here rfl rfl rfl) ?_
    refine WL.nil (WX.a (WC.b (WC.a ?_)))
    refine WL.a (d:=33) rfl rfl rfl (ya y3n rfl rfl) ?_
    refine WL.a (d:=34) rfl rfl rfl (yb yg rfl (yc .here rfl)) ?_
    refine WL.pu rfl (WL.pu rfl (WL.nil (WX.a ?_)))
    refine WC.cond rfl (fun zi2=>?_) (fun zi2=>?_)
    ·replace h:=yl h zi2
     obtain ⟨zhZ,zrK,h⟩:=zn h
     refine WC.yY (fun i=>[11].contains i) [] rfl ?_
     refine WD.a (i:=0) (d:=37) (by kernel_rfl) rfl (z2 (by kernel_rfl)) (z3 (by kernel_rfl)) rfl rfl rfl (fun _=>q_m rfl) ?_
     refine WD.a (i:=1) (d:=38) (by kernel_rfl) rfl (z2 (by kernel_rfl)) (z3 (by kernel_rfl)) rfl rfl rfl (fun _=>yv rfl) ?_
     refine WD.a (i:=2) (d:=39) (by kernel_rfl) rfl (z2 (by kernel_rfl)) (z3 (by kernel_rfl)) rfl rfl rfl (fun _=>ya y7Y rfl rfl) ?_
     refine WD.e (i:=3) (d:=40) (by kernel_rfl) rfl (z2 (by kernel_rfl)) (z3 (by kernel_rfl)) rfl rfl rfl (y5D Try.underlying111 rfl rfl) ?_
     refine WD.a (i:=4) (d:=41) (by kernel_rfl) rfl (z2 (by kernel_rfl)) (z3 (by kernel_rfl)) rfl rfl rfl (fun _=>q_m rfl) ?_
     refine WD.a (i:=5) (d:=42) (by kernel_rfl) rfl (z2 (by kernel_rfl)) (z3 (by kernel_rfl)) rfl rfl rfl (fun _=>q_m rfl) ?_
     refine WD.a (i:=6) (d:=43) (by kernel_rfl) rfl (z2 (by kernel_rfl)) (z3 (by kernel_rfl)) rfl rfl rfl (fun _=>q_m rfl) ?_
     refine WD.a (i:=7) (d:=44) (by kernel_rfl) rfl (z2 (by kernel_rfl)) (z3 (by kernel_rfl)) rfl rfl rfl (fun _=>q_m rfl) ?_
     refine WD.e (i:=8) (d:=45) (by kernel_rfl) rfl (z2 (by kernel_rfl)) (z3 (by kernel_rfl)) rfl rfl rfl (yN y5X rfl (y1x .here) rfl) ?_
     refine WD.a (i:=9) (d:=46) (by kernel_rfl) rfl (z2 (by kernel_rfl)) (z3 (by kernel_rfl)) rfl rfl rfl (fun _=>y1j (v:=(.agg #[(.int .i64 z3D),(.int .i64 z3E),(.int .i64 ((nth z13 z1a).fVL)),(.int .i64 z1a),(.int .i64 ((nth (nth z1k ((nth z13 z1a).fVL)) z1V).fNode)),(.int .i64 ((nth (nth z1k ((nth z13 z1a).fVL)) z1V).fNext)),(.int .i64 ((nth (nth z1k ((nth z13 z1a).fVL)) z1V).fLink))])) (Eos.parts (l:=[.tmp 41,.tmp 42,.tmp 43,.tmp 44,.tmp 45]) (.cons rfl (.cons rfl (.cons rfl (.cons rfl (.cons rfl .nil))))) [0,1,2,3,4]) (fun _=>by kernel_rfl)) ?_
     refine WD.e (i:=10) (d:=47) (by kernel_rfl) rfl (z2 (by kernel_rfl)) (z3 (by kernel_rfl)) rfl rfl rfl (y5D Try.underlying113 rfl rfl) ?_
     refine WD.call2 (i:=11) (dd:=48) rfl (by kernel_rfl) rfl rfl rfl (.inl ⟨rfl,fun _ _=>(Sin.of .nil)⟩) (zF (l:=[.tmp 40,.tmp 47]) Try.call38 (.cons rfl (.cons rfl .nil))) (.cons .h2 (.cons .h1 .nil)) (cc hz (.cons .h2 (.cons .h1 .nil)) fun w pz ho=>y5O _ _ _ _ _ _ _ _ _ _ _ _ _ _ _ _ _ _ _ _ zrK w pz  ho) ?_
     rintro zrL zrM _
     refine WD.done (by kernel_rfl) ?_
     refine WX.yh ?_
     exact WX.mid (G:=List Snetwork_event × Option Addr × Nat) ⟨zhZ,zrL,zrM⟩ h (.cons rfl (.cons rfl (.cons rfl (.cons rfl (.cons rfl (.cons rfl (.cons rfl (.cons rfl (.cons rfl .nil))))))))) (.cons .h1 (.cons .here (.cons .h1 (.cons .h1 .nil))))
    ·replace h:=ym h zi2
     refine WC.skip (WX.yh ?_)
     exact WX.mid (G:=List Snetwork_event × Option Addr × Nat) ⟨z3q,z8a,z8b⟩ h (.cons rfl (.cons rfl (.cons rfl (.cons rfl (.cons rfl (.cons rfl (.cons rfl (.cons rfl (.cons rfl .nil))))))))) (.cons .h1 (.cons .h1 (.cons .h1 (.cons .h1 .nil))))
   ·rintro z5j zbi zbj h
    replace h:=(zrH z5j).symm.trans h
    refine WC.a (WL.pu rfl (WL.pu rfl (WL.nil ?_)))
    exact WX.round (G:=Nat × Int × List Snetwork_event × Option Addr × Nat) ⟨zhY,(i64 (z1V + 1)),z5j,zbi,zbj⟩ h (Nat.lt_succ_self _) (.cons rfl (.cons rfl (.cons rfl (.cons rfl (.cons rfl (.cons rfl (.cons rfl (.cons rfl (.cons rfl .nil))))))))) (.cons .here (.cons .here (.cons .here (.cons .here .nil))))
  ·replace h:=ym h zi1
   refine WC.exit (WX.yd (WX.yd (WX.yy ?_)))
   exact WX.mid (G:=List Snetwork_event × Option Addr × Nat) ⟨z3q,z8a,z8b⟩ h .nil (.cons .here (.cons .here (.cons .here (.cons .here .nil))))
 ·rintro z5Q zbf zbg h
  replace h:=(zrG z5Q).symm.trans h
  obtain rfl:=Option.some.inj h
  refine WX.y1U Try.results25 .nil (fun w hw=>?_)
  exact ⟨zbf,zbg,y4n,trivial,hw.sub (.cons .h1 (.cons .here (.cons .here (.cons .here .nil))))⟩
def y1a (z3r : Int) (z6f : Int → (List Snetwork_event) → Option (Bool × List Snetwork_event)) : Nat → Int → (List Snetwork_event) → Option (Bool × List Snetwork_event)
 | 0,_,_=>none
 | zi3 + 1,z1B,z1W=>if (decide ((i64 ((i64 (2 * z1B)) + 1)) ≥ z3r)) || (decide ((i64 ((i64 (2 * z1B)) + 1)) < 0)) then z6f z1B z1W else jp1 (fun (z5m : Int)=>(y1v z1W z5m z1B).bind fun zmz=>if !zmz then z6f z1B z1W else (y1w z1W z1B z5m).bind fun zfi=>y1a z3r z6f zi3 z5m zfi) fun zfj=>(if decide ((i64 ((i64 ((i64 (2 * z1B)) + 1)) + 1)) < z3r) then (y1v z1W (i64 ((i64 ((i64 (2 * z1B)) + 1)) + 1)) (i64 ((i64 (2 * z1B)) + 1))).bind fun zmA=>some zmA else some false).bind fun zi4=>if zi4 then zfj (i64 ((i64 ((i64 (2 * z1B)) + 1)) + 1)) else zfj (i64 ((i64 (2 * z1B)) + 1))
theorem y4E {n : Nat} {z3r : Int} {z6f : Int → (List Snetwork_event) → Option (Bool × List Snetwork_event)} {z1B : Int} {z1W : List Snetwork_event} {r : Bool × List Snetwork_event} (h : y1a z3r z6f n z1B z1W = some r) : ∃ m,n = m + 1:=by
 cases n with
 | zero=>cases h
 | succ m=>exact ⟨m,rfl⟩
def y2m (z1X : List Snetwork_event) (i0_9332 : Int) (z3r : Int) : Option (Bool × List Snetwork_event) :=
 jp2 (fun (z8c : Int) (z5n : List Snetwork_event)=>some ((decide (z8c > i0_9332)),z5n)) fun z6f=>y1a z3r z6f yt i0_9332 z1X
set_option maxRecDepth 20000 in
theorem y5P (Z : Zp) (z3U : Nat) (z2q : Option Addr) (z2r : Nat) (z6g : Value) (z6h : Value) (z6i : Value) (z6j : Value) (z6k : Value) (z6l : Value) (z6m : Value) (z6n : Value) (z6o : Value) (z6p : Value) (z6q : Value) (z6r : Value) (z6s : Value) (z1X : List Snetwork_event) (i0_9332 : Int) (z3r : Int) (r : Bool × List Snetwork_event)
  (h : y2m z1X i0_9332 z3r = some r) (w₀ : World) (hz : PZ (fps [stb z3U 81 [z6g,z6h,z6i,z6j,z6k,z6l,z6m,z6n,z6o,z6p,z6q,(.slice z2q z1X.length z2r),z6r,z6s],row (.slice z2q z1X.length z2r) 113 7 (z1X.flatMap yA)]) w₀ Z)
  (hown : Hp (fps [stb z3U 81 [z6g,z6h,z6i,z6j,z6k,z6l,z6m,z6n,z6o,z6p,z6q,(.slice z2q z1X.length z2r),z6r,z6s],row (.slice z2q z1X.length z2r) 113 7 (z1X.flatMap yA)]) w₀ w₀ [stb z3U 81 [z6g,z6h,z6i,z6j,z6k,z6l,z6m,z6n,z6o,z6p,z6q,(.slice z2q z1X.length z2r),z6r,z6s],row (.slice z2q z1X.length z2r) 113 7 (z1X.flatMap yA)]) :
  Calls Try.prog 51 #[(.iface 111 (.pointer (some ⟨z3U,11,none⟩))),(.int .i64 i0_9332),(.int .i64 z3r)] w₀ fun e w'=>e = .returned (.bool r.1) ∧ (r.2.length = z1X.length) ∧ Hp (fps [stb z3U 81 [z6g,z6h,z6i,z6j,z6k,z6l,z6m,z6n,z6o,z6p,z6q,(.slice z2q z1X.length z2r),z6r,z6s],row (.slice z2q z1X.length z2r) 113 7 (z1X.flatMap yA)]) w₀ w' [stb z3U 81 [z6g,z6h,z6i,z6j,z6k,z6l,z6m,z6n,z6o,z6p,z6q,(.slice z2q r.2.length z2r),z6r,z6s],row (.slice z2q r.2.length z2r) 113 7 (r.2.flatMap yA)]:=by
 unfold y2m at h
 refine Calls.yo (vs:=[(.iface 111 (.pointer (some ⟨z3U,11,none⟩))),(.int .i64 i0_9332),(.int .i64 z3r)]) (pre:=[stb z3U 81 [z6g,z6h,z6i,z6j,z6k,z6l,z6m,z6n,z6o,z6p,z6q,(.slice z2q z1X.length z2r),z6r,z6s],row (.slice z2q z1X.length z2r) 113 7 (z1X.flatMap yA)]) (env:=[(0,(.iface 111 (.pointer (some ⟨z3U,11,none⟩)))),(1,(.int .i64 i0_9332)),(2,(.int .i64 z3r))]) Try.func51 rfl Try.ntmps51 rfl (hown) rfl ?_
 refine WC.b (WC.a (WL.pu rfl (WL.nil (WX.a (WC.b (WC.a (WL.pu rfl (WL.pu rfl (WL.nil (WX.a ?_))))))))))
 obtain ⟨z6f,zrN,h⟩:=y3c h
 refine WC.y2v (fun (z8c : Int) (z5n : List Snetwork_event)=>(z6f z8c z5n = some r) ∧ (z5n.length = z1X.length)) (fun (z8c : Int) (z5n : List Snetwork_event)=>[(1,(.int .i64 i0_9332)),(7,(.int .i64 z8c))]) (fun (z8c : Int) (z5n : List Snetwork_event)=>[row (.slice z2q z5n.length z2r) 113 7 (z5n.flatMap yA),stb z3U 81 [z6g,z6h,z6i,z6j,z6k,z6l,z6m,z6n,z6o,z6p,z6q,(.slice z2q z5n.length z2r),z6r,z6s]]) ?_ ?_
 ·skip
  refine WC.block ?_
  refine WC.y26 (fun (zbk : Nat) (z1B : Int) (z1W : List Snetwork_event)=>(y1a z3r z6f zbk z1B z1W = some r) ∧ (z1W.length = z1X.length)) (fun (zbk : Nat) (z1B : Int) (z1W : List Snetwork_event)=>[(0,(.iface 111 (.pointer (some ⟨z3U,11,none⟩)))),(1,(.int .i64 i0_9332)),(2,(.int .i64 z3r)),(7,(.int .i64 z1B))]) (fun (zbk : Nat) (z1B : Int) (z1W : List Snetwork_event)=>[row (.slice z2q z1W.length z2r) 113 7 (z1W.flatMap yA),stb z3U 81 [z6g,z6h,z6i,z6j,z6k,z6l,z6m,z6n,z6o,z6p,z6q,(.slice z2q z1W.length z2r),z6r,z6s]]) (fun (zbk : Nat) (z1B : Int) (z1W : List Snetwork_event)=>zbk) ⟨yt,i0_9332,z1X⟩ ⟨h,rfl⟩ (.cons rfl (.cons rfl (.cons rfl (.cons rfl .nil)))) (.cons .h1 (.cons .here .nil)) ?_
  rintro zbk z1B z1W ⟨h,zi5⟩
  obtain ⟨zi3,rfl⟩:=y4E h
  rw [y1a] at h
  refine WC.block (WC.b (WC.a (WL.pu rfl (WL.pu rfl (WL.pu rfl (WL.pu rfl (WL.nil (WX.a (WC.b (WC.b (WC.a (WL.pu rfl (WL.pu rfl (WL.pu rfl (WL.pu rfl ?_)))))))))))))))
  refine WL.seg false 2 18 (B:=(decide ((i64 ((i64 (2 * z1B)) + 1)) ≥ z3r)) || (decide ((i64 ((i64 (2 * z1B)) + 1)) < 0))) rfl rfl rfl rfl rfl rfl (fun h=>(y24 h).symm) (fun _ zrO=>?_) ?_
  ·skip
   refine WL.pu rfl (WL.pu rfl (WL.pu rfl ?_))
   exact WL.yu (y25 zrO) rfl rfl .all
  refine WL.nil (WX.a ?_)
  refine WC.cond rfl (fun zi6=>?_) (fun zi6=>?_)
  ·replace h:=yl h zi6
   refine WC.exit (WX.yd (WX.y5g rfl (WX.yd (WX.yy ?_))))
   exact WX.mid (G:=Int × List Snetwork_event) ⟨z1B,z1W⟩ ⟨h,zi5⟩ (.cons rfl (.cons rfl .nil)) (.cons .here (.cons .here .nil))
  ·replace h:=ym h zi6
   refine WC.skip (WX.a (WC.b (WC.a (WL.pu rfl (WL.pu rfl (WL.nil (WX.a ?_)))))))
   obtain ⟨zfj,zrP,h⟩:=yZ h
   refine WC.y1l (fun (z5m : Int)=>(zfj z5m = some r)) (fun (z5m : Int)=>[(0,(.iface 111 (.pointer (some ⟨z3U,11,none⟩)))),(1,(.int .i64 i0_9332)),(2,(.int .i64 z3r)),(7,(.int .i64 z1B)),(9,(.int .i64 z5m))]) (fun (z5m : Int)=>[row (.slice z2q z1W.length z2r) 113 7 (z1W.flatMap yA),stb z3U 81 [z6g,z6h,z6i,z6j,z6k,z6l,z6m,z6n,z6o,z6p,z6q,(.slice z2q z1W.length z2r),z6r,z6s]]) ?_ ?_
   ·skip
    refine WC.b (WC.a (WL.pu rfl (WL.pu rfl (WL.pu rfl (WL.nil (WX.a (WC.b ?_)))))))
    obtain ⟨zi4,zmB,h⟩:=zn h
    refine WC.a (WL.pu rfl (WL.pu rfl (WL.pu rfl (WL.pu rfl ?_))))
    refine WL.seg true 4 28 (B:=zi4) rfl rfl rfl rfl rfl rfl (fun h=>(Option.some.inj (ym zmB h)).symm) (fun _ zrQ=>?_) ?_
    ·skip
     have zdX:=yl zmB zrQ
     obtain ⟨zmA,zrR,zdX⟩:=zn zdX
     replace zdX:=Option.some.inj zdX
     refine WL.pu rfl (WL.pu rfl (WL.pu rfl ?_))
     refine WL.b (dd:=32) rfl rfl rfl (y32 (l:=[.tmp 30,.tmp 31]) (y5m) Try.call87 rfl (yc .h1 rfl) (.cons rfl (.cons rfl .nil))) .nil (ccl hz .nil (.cons .here .nil) fun w pz ho la=>y3A _ _ _ _ _ _ _ zrR w pz (ZA.row (la _ (.head _) _) (RR.y1q (enc:=yA) (fun _=>rfl) _) ⟨w,pz.1⟩)) ?_
     refine WL.pu rfl ?_
     exact WL.yu zdX rfl rfl .all
    refine WL.nil (WX.a ?_)
    refine WC.cond rfl (fun zi7=>?_) (fun zi7=>?_)
    ·replace h:=yl h zi7
     refine WC.a (WL.pu rfl (WL.pu rfl (WL.nil ?_)))
     exact WX.mid (G:=Int) (i64 ((i64 ((i64 (2 * z1B)) + 1)) + 1)) h (.cons rfl (.cons rfl (.cons rfl (.cons rfl (.cons rfl .nil))))) (.cons .here (.cons .here .nil))
    ·replace h:=ym h zi7
     refine WC.skip ?_
     exact WX.mid (G:=Int) (i64 ((i64 (2 * z1B)) + 1)) h (.cons rfl (.cons rfl (.cons rfl (.cons rfl (.cons rfl .nil))))) (.cons .here (.cons .here .nil))
   ·rintro z5m h
    replace h:=(zrP z5m).symm.trans h
    refine WC.b (WC.b ?_)
    obtain ⟨zmz,zrS,h⟩:=zn h
    refine WC.a (WL.pu rfl (WL.pu rfl (WL.pu rfl ?_)))
    refine WL.b (dd:=38) rfl rfl rfl (y32 (l:=[.tmp 36,.tmp 37]) (y5m) Try.call87 rfl (yc .h1 rfl) (.cons rfl (.cons rfl .nil))) .nil (ccl hz .nil (.cons .here .nil) fun w pz ho la=>y3A _ _ _ _ _ _ _ zrS w pz (ZA.row (la _ (.head _) _) (RR.y1q (enc:=yA) (fun _=>rfl) _) ⟨w,pz.1⟩)) ?_
    refine WL.pu rfl (WL.nil (WX.a ?_))
    refine WC.cond rfl (fun zi8=>?_) (fun zi8=>?_)
    ·replace h:=yl h zi8
     refine WC.exit (WX.yd (WX.y5g rfl (WX.yd (WX.yy ?_))))
     exact WX.mid (G:=Int × List Snetwork_event) ⟨z1B,z1W⟩ ⟨h,zi5⟩ (.cons rfl (.cons rfl .nil)) (.cons .here (.cons .here .nil))
    ·replace h:=ym h zi8
     refine WC.skip (WX.a (WC.b ?_))
     obtain ⟨zfi,zrT,h⟩:=zn h
     refine WC.a (WL.pu rfl (WL.pu rfl (WL.pu rfl ?_)))
     refine WL.y1N (dd:=43) rfl rfl rfl (y32 (l:=[.tmp 41,.tmp 42]) (y5n) Try.call88 rfl (yc .h1 rfl) (.cons rfl (.cons rfl .nil))) (.cons .here .nil) (cc hz (.cons .here .nil) fun w pz ho=>y3B _ _ _ _ _ _ _ zrT w pz  ho) ?_
     rintro  zmC
     refine WL.restb (cs':=[z6g,z6h,z6i,z6j,z6k,z6l,z6m,z6n,z6o,z6p,z6q,(.slice z2q zfi.length z2r),z6r,z6s]) .h1 (by rw [zmC]) ?_
     refine WL.nil (WX.a (WC.a (WL.pu rfl (WL.pu rfl (WL.nil (WX.yh ?_))))))
     exact WX.round (G:=Nat × Int × List Snetwork_event) ⟨zi3,z5m,zfi⟩ ⟨h,(zmC.trans zi5)⟩ (Nat.lt_succ_self _) (.cons rfl (.cons rfl (.cons rfl (.cons rfl .nil)))) (.cons .h1 (.cons .here .nil))
 ·rintro z8c z5n ⟨h,zrU⟩
  replace h:=(zrN z8c z5n).symm.trans h
  refine WC.b (WC.a (WL.pu rfl (WL.pu rfl (WL.pu rfl (WL.pu rfl (WL.nil (WX.a (WC.ret ?_))))))))
  obtain rfl:=Option.some.inj h
  refine WX.yi Try.results51 (.tmp rfl .nil) (fun w hw=>?_)
  exact ⟨y12 rfl,zrU,hw.sub (.cons .h1 (.cons .here .nil))⟩
def y2Q (zU : List Snetwork_event) : Option Snetwork_event :=
 chk ((0 : Int) ≤ (i64 (((zU.length : Nat) : Int) - 1)) ∧ (i64 (((zU.length : Nat) : Int) - 1)) < ((zU.length : Nat) : Int)) (chk ((0 : Int) ≤ (i64 (((zU.length : Nat) : Int) - 1)) ∧ (i64 (((zU.length : Nat) : Int) - 1)) ≤ ((zU.length : Nat) : Int)) (some (⟨((nth zU (i64 (((zU.length : Nat) : Int) - 1))).fTime),((nth zU (i64 (((zU.length : Nat) : Int) - 1))).fIn_),((nth zU (i64 (((zU.length : Nat) : Int) - 1))).fVl),((nth zU (i64 (((zU.length : Nat) : Int) - 1))).fSent),(⟨(((nth zU (i64 (((zU.length : Nat) : Int) - 1))).fHop).fNode),(((nth zU (i64 (((zU.length : Nat) : Int) - 1))).fHop).fNext),(((nth zU (i64 (((zU.length : Nat) : Int) - 1))).fHop).fLink)⟩ : Sapi_Hop)⟩ : Snetwork_event)))
set_option maxRecDepth 20000 in
theorem y64 (Z : Zp) (z7t : Nat) (z6t : Option Addr) (z6u : Nat) (z9u : Value) (z9v : Value) (z9w : Value) (z9x : Value) (z9y : Value) (z9z : Value) (z9A : Value) (z9B : Value) (z9C : Value) (z9D : Value) (z9E : Value) (z9F : Value) (z9G : Value) (zU : List Snetwork_event) (r : Snetwork_event)
  (h : y2Q zU = some r) (w₀ : World) (hz : PZ (fps [stb z7t 81 [z9u,z9v,z9w,z9x,z9y,z9z,z9A,z9B,z9C,z9D,z9E,(.slice z6t zU.length z6u),z9F,z9G],row (.slice z6t zU.length z6u) 113 7 (zU.flatMap yA)]) w₀ Z)
  (hown : Hp (fps [stb z7t 81 [z9u,z9v,z9w,z9x,z9y,z9z,z9A,z9B,z9C,z9D,z9E,(.slice z6t zU.length z6u),z9F,z9G],row (.slice z6t zU.length z6u) 113 7 (zU.flatMap yA)]) w₀ w₀ [stb z7t 81 [z9u,z9v,z9w,z9x,z9y,z9z,z9A,z9B,z9C,z9D,z9E,(.slice z6t zU.length z6u),z9F,z9G],row (.slice z6t zU.length z6u) 113 7 (zU.flatMap yA)]) :
  Calls Try.prog 91 #[(.pointer (some ⟨z7t,11,none⟩))] w₀ fun e w'=>∃ zmD : Option Addr,∃ zmE : Nat,e = .returned (.iface 113 (.agg #[(.int .i64 r.fTime),(.int .i64 r.fIn_),(.int .i64 r.fVl),(.int .i64 r.fSent),(.int .i64 r.fHop.fNode),(.int .i64 r.fHop.fNext),(.int .i64 r.fHop.fLink)])) ∧ True ∧ Hp (fps [stb z7t 81 [z9u,z9v,z9w,z9x,z9y,z9z,z9A,z9B,z9C,z9D,z9E,(.slice z6t zU.length z6u),z9F,z9G],row (.slice z6t zU.length z6u) 113 7 (zU.flatMap yA)]) w₀ w' [stb z7t 81 [z9u,z9v,z9w,z9x,z9y,z9z,z9A,z9B,z9C,z9D,z9E,(.slice zmD ((zU.take ((i64 (((zU.length : Nat) : Int) - 1)) : Int).toNat).length) zmE),z9F,z9G],row (.slice zmD ((zU.take ((i64 (((zU.length : Nat) : Int) - 1)) : Int).toNat).length) zmE) 113 7 ((zU.take ((i64 (((zU.length : Nat) : Int) - 1)) : Int).toNat).flatMap yA)]:=by
 unfold y2Q at h
 refine Calls.yo (vs:=[(.pointer (some ⟨z7t,11,none⟩))]) (pre:=[stb z7t 81 [z9u,z9v,z9w,z9x,z9y,z9z,z9A,z9B,z9C,z9D,z9E,(.slice z6t zU.length z6u),z9F,z9G],row (.slice z6t zU.length z6u) 113 7 (zU.flatMap yA)]) (env:=[(0,(.pointer (some ⟨z7t,11,none⟩)))]) Try.func91 rfl Try.ntmps91 rfl (hown) rfl ?_
 refine WC.b (WC.a (WL.pu rfl (WL.nil (WX.a (WC.b (WC.a (WL.pu rfl ?_)))))))
 refine WL.a (d:=6) rfl rfl rfl (yv rfl) ?_
 refine WL.a (d:=7) rfl rfl rfl (yb y5b rfl (yc .here rfl)) ?_
 refine WL.pu rfl (WL.nil (WX.a (WC.b ?_)))
 obtain ⟨zdY,h⟩:=yj h
 refine WC.a (WL.pu rfl (WL.pu rfl ?_))
 refine WL.a (d:=10) rfl rfl rfl (yW Try.underlying79 rfl) ?_
 refine WL.pu rfl ?_
 refine WL.know (fun w hw=>Hp.y2i .h1 hw (by intro hz'; have:=zdY; rw [hz'] at this; omega)) ?_
 rintro ⟨zxI,rfl⟩
 refine WL.a (d:=12) rfl rfl rfl (yr y4q rfl rfl zdY.1 zdY.2 y1b) ?_
 refine WL.a (d:=13) rfl rfl rfl (y1H (cs:=(yA (nth zU (i64 (((zU.length : Nat) : Int) - 1))))) zag rfl rfl (y1P .h1 (y1I (enc:=yA) (l:=zU) (i:=i64 (((zU.length : Nat) : Int) - 1)) (sz:=7) (fun _=>rfl) zdY.1 zdY.2))) ?_
 refine WL.new (dd:=4) rfl rfl rfl (y2d (cs:=[(.int .i64 0),(.int .i64 0),(.int .i64 0),(.int .i64 0),(.int .i64 0),(.int .i64 0),(.int .i64 0)]) zkF rfl) ?_
 intro zxJ _
 refine WL.y1u rfl rfl (y1K zeK rfl rfl rfl .here rfl rfl rfl) ?_
 refine WL.nil (WX.a (WC.b ?_))
 obtain ⟨zrV,h⟩:=yj h
 refine WC.a (WL.pu rfl (WL.pu rfl (WL.pu rfl ?_)))
 refine WL.a (d:=17) rfl rfl rfl (yW Try.underlying79 rfl) ?_
 refine WL.pu rfl ?_
 refine WL.y6J (dd:=19) (enc:=yA) (ls:=zU) rfl rfl y4q rfl rfl .h2 (fun _=>rfl) zrV ?_
 intro zmF zmG
 refine WL.a (d:=20) rfl rfl rfl (yv rfl) ?_
 refine WL.y1u rfl rfl (y4b (ds:=[z9u,z9v,z9w,z9x,z9y,z9z,z9A,z9B,z9C,z9D,z9E,(.slice zmF ((zU.take ((i64 (((zU.length : Nat) : Int) - 1)) : Int).toNat).length) zmG),z9F,z9G]) y9v rfl rfl rfl rfl rfl .h2 rfl rfl) ?_
 refine WL.nil (WX.a (WC.b (WC.a ?_)))
 refine WL.a (d:=21) rfl rfl rfl (yN zag rfl (y1x .h2) rfl) ?_
 refine WL.a (d:=22) rfl rfl rfl (y5D Try.underlying113 rfl rfl) ?_
 refine WL.pu rfl (WL.nil (WX.a (WC.ret ?_)))
 obtain rfl:=Option.some.inj h
 refine WX.yi Try.results91 (.tmp rfl .nil) (fun w hw=>?_)
 exact ⟨zmF,zmG,y12 rfl,trivial,hw.sub (.cons .here (.cons .here .nil))⟩
def y2p (z2s : List Snetwork_event) : Option (Snetwork_event × List Snetwork_event) :=
 (y2e z2s).bind fun zi9=>(y1w z2s 0 (i64 (zi9 - 1))).bind fun zia=>(y2m zia 0 (i64 (zi9 - 1))).bind fun zdZ=>(y2Q zdZ.2).bind fun zmH=>some (zmH,(zdZ.2.take ((i64 (((zdZ.2.length : Nat) : Int) - 1)) : Int).toNat))
set_option maxRecDepth 20000 in
theorem y65 (Z : Zp) (z7u : Nat) (z4J : Option Addr) (z4K : Nat) (z8d : Value) (z8e : Value) (z8f : Value) (z8g : Value) (z8h : Value) (z8i : Value) (z8j : Value) (z8k : Value) (z8l : Value) (z8m : Value) (z8n : Value) (z8o : Value) (z8p : Value) (z2s : List Snetwork_event) (r : Snetwork_event × List Snetwork_event)
  (h : y2p z2s = some r) (w₀ : World) (hz : PZ (fps [stb z7u 81 [z8d,z8e,z8f,z8g,z8h,z8i,z8j,z8k,z8l,z8m,z8n,(.slice z4J z2s.length z4K),z8o,z8p],row (.slice z4J z2s.length z4K) 113 7 (z2s.flatMap yA)]) w₀ Z)
  (hown : Hp (fps [stb z7u 81 [z8d,z8e,z8f,z8g,z8h,z8i,z8j,z8k,z8l,z8m,z8n,(.slice z4J z2s.length z4K),z8o,z8p],row (.slice z4J z2s.length z4K) 113 7 (z2s.flatMap yA)]) w₀ w₀ [stb z7u 81 [z8d,z8e,z8f,z8g,z8h,z8i,z8j,z8k,z8l,z8m,z8n,(.slice z4J z2s.length z4K),z8o,z8p],row (.slice z4J z2s.length z4K) 113 7 (z2s.flatMap yA)]) :
  Calls Try.prog 39 #[(.iface 111 (.pointer (some ⟨z7u,11,none⟩)))] w₀ fun e w'=>∃ zmI : Option Addr,∃ zmJ : Nat,e = .returned (.iface 113 (.agg #[(.int .i64 r.1.fTime),(.int .i64 r.1.fIn_),(.int .i64 r.1.fVl),(.int .i64 r.1.fSent),(.int .i64 r.1.fHop.fNode),(.int .i64 r.1.fHop.fNext),(.int .i64 r.1.fHop.fLink)])) ∧ True ∧ Hp (fps [stb z7u 81 [z8d,z8e,z8f,z8g,z8h,z8i,z8j,z8k,z8l,z8m,z8n,(.slice z4J z2s.length z4K),z8o,z8p],row (.slice z4J z2s.length z4K) 113 7 (z2s.flatMap yA)]) w₀ w' [stb z7u 81 [z8d,z8e,z8f,z8g,z8h,z8i,z8j,z8k,z8l,z8m,z8n,(.slice zmI r.2.length zmJ),z8o,z8p],row (.slice zmI r.2.length zmJ) 113 7 (r.2.flatMap yA)]:=by
 unfold y2p at h
 refine Calls.yo (vs:=[(.iface 111 (.pointer (some ⟨z7u,11,none⟩)))]) (pre:=[stb z7u 81 [z8d,z8e,z8f,z8g,z8h,z8i,z8j,z8k,z8l,z8m,z8n,(.slice z4J z2s.length z4K),z8o,z8p],row (.slice z4J z2s.length z4K) 113 7 (z2s.flatMap yA)]) (env:=[(0,(.iface 111 (.pointer (some ⟨z7u,11,none⟩))))]) Try.func39 rfl Try.ntmps39 rfl (hown) rfl ?_
 refine WC.b (WC.a (WL.pu rfl (WL.nil (WX.a (WC.b ?_)))))
 obtain ⟨zi9,zrW,h⟩:=zn h
 refine WC.a (WL.pu rfl ?_)
 refine WL.b (dd:=5) rfl rfl rfl (y32 (l:=[]) (y7c) Try.call86 rfl (yc .here rfl) .nil) .nil (ccl hz .nil (.cons .h1 .nil) fun w pz ho la=>y4D _ _ _ _ _ zrW w pz (ZA.row (la _ (.head _) _) (RR.y1q (enc:=yA) (fun _=>rfl) _) ⟨w,pz.1⟩)) ?_
 refine WL.pu rfl (WL.pu rfl (WL.nil (WX.a (WC.b ?_))))
 obtain ⟨zia,zrX,h⟩:=zn h
 refine WC.a (WL.pu rfl (WL.pu rfl ?_))
 refine WL.y1N (dd:=9) rfl rfl rfl (y32 (l:=[.const (.int .i64 0),.tmp 8]) (y5n) Try.call88 rfl (yc .here rfl) (.cons rfl (.cons rfl .nil))) (.cons .h1 .nil) (cc hz (.cons .h1 .nil) fun w pz ho=>y3B _ _ _ _ _ _ _ zrX w pz  ho) ?_
 rintro  zrY
 refine WL.restb (cs':=[z8d,z8e,z8f,z8g,z8h,z8i,z8j,z8k,z8l,z8m,z8n,(.slice z4J zia.length z4K),z8o,z8p]) .h1 (by rw [zrY]) ?_
 refine WL.nil (WX.a (WC.b ?_))
 obtain ⟨zdZ,zrZ,h⟩:=zn h
 refine WC.a (WL.pu rfl (WL.pu rfl ?_))
 refine WL.y1N (dd:=12) rfl rfl rfl (zF (l:=[.tmp 10,.const (.int .i64 0),.tmp 11]) Try.call51 (.cons rfl (.cons rfl (.cons rfl .nil)))) (.cons .here (.cons .here .nil)) (cc hz (.cons .here (.cons .here .nil)) fun w pz ho=>y5P _ _ _ _ _ _ _ _ _ _ _ _ _ _ _ _ _ _ _ _ _ zrZ w pz  ho) ?_
 rintro  zs0
 refine WL.restb (cs':=[z8d,z8e,z8f,z8g,z8h,z8i,z8j,z8k,z8l,z8m,z8n,(.slice z4J zdZ.2.length z4K),z8o,z8p]) .here (by rw [zs0]) ?_
 refine WL.nil (WX.a (WC.b ?_))
 obtain ⟨zmH,zs1,h⟩:=zn h
 refine WC.a (WL.pu rfl ?_)
 refine WL.y4w (dd:=14) rfl rfl rfl (y7y (l:=[]) (y9h _) Try.call91 rfl .nil) (.cons .here (.cons .here .nil)) (cc hz (.cons .here (.cons .here .nil)) fun w pz ho=>y64 _ _ _ _ _ _ _ _ _ _ _ _ _ _ _ _ _ _ _ zs1 w pz  ho) ?_
 rintro zs2 zs3 _
 refine WL.pu rfl (WL.nil (WX.a (WC.ret ?_)))
 obtain rfl:=Option.some.inj h
 refine WX.yi Try.results39 (.tmp rfl .nil) (fun w hw=>?_)
 exact ⟨zs2,zs3,y12 rfl,trivial,hw.sub (.cons .here (.cons .here .nil))⟩
def y56 (z27 : Int) (z2G : Int) (z3V : Int) : Option Sport_Port :=
 if (((((decide (z27 < 1)) || (decide (z27 > 16))) || (decide (z2G < 0))) || (decide (z2G > 1000))) || (decide (z3V < 0))) || (decide (z3V > 1073741824)) then none else some (⟨(⟨z27,z2G,z3V⟩ : Sport_numbers),0,0,([] : List Sport_frame)⟩ : Sport_Port)
set_option maxRecDepth 20000 in
theorem y9M (Z : Zp)  (z27 : Int) (z2G : Int) (z3V : Int) (r : Sport_Port)
  (h : y56 z27 z2G z3V = some r) (w₀ : World) (hz : PZ [] w₀ Z) :
  Calls Try.prog 52 #[(.int .i64 z27),(.int .i64 z2G),(.int .i64 z3V)] w₀ fun e w'=>∃ zmK : Nat,∃ zmL : Option Addr,∃ zmM : Nat,e = .returned (.tuple #[(.pointer (some ⟨zmK,0,none⟩)),(.int .i64 0)]) ∧ True ∧ Hp [] w₀ w' [stb zmK 143 [(.int .i64 r.fNumbers.fSlow),(.int .i64 r.fNumbers.fDelay),(.int .i64 r.fNumbers.fStore),(.int .i64 r.fNow),(.int .i64 r.fLast),(.slice zmL r.fFrames.length zmM)],row (.slice zmL r.fFrames.length zmM) 146 2 (r.fFrames.flatMap y20)]:=by
 unfold y56 at h
 refine Calls.yo (vs:=[(.int .i64 z27),(.int .i64 z2G),(.int .i64 z3V)]) (pre:=[]) (env:=[(0,(.int .i64 z27)),(1,(.int .i64 z2G)),(2,(.int .i64 z3V))]) Try.func52 rfl Try.ntmps52 rfl (Hp.nil w₀ _) rfl ?_
 refine WC.b (WC.a (WL.pu rfl (WL.pu rfl (WL.nil (WX.a (WC.b (WC.b (WC.a (WL.pu rfl (WL.pu rfl (WL.pu rfl ?_)))))))))))
 refine WL.seg false 2 10 (B:=(decide (z27 < 1)) || (decide (z27 > 16))) rfl rfl rfl rfl rfl rfl (fun h=>(y24 h).symm) (fun _ zs4=>?_) ?_
 ·skip
  refine WL.pu rfl (WL.pu rfl (WL.pu rfl ?_))
  exact WL.yu (y25 zs4) rfl rfl .all
 refine WL.pu rfl ?_
 refine WL.seg false 2 14 (B:=((decide (z27 < 1)) || (decide (z27 > 16))) || (decide (z2G < 0))) rfl rfl rfl rfl rfl rfl (fun h=>(y24 h).symm) (fun _ zs5=>?_) ?_
 ·skip
  refine WL.pu rfl (WL.pu rfl (WL.pu rfl ?_))
  exact WL.yu (y25 zs5) rfl rfl .all
 refine WL.pu rfl ?_
 refine WL.seg false 2 18 (B:=(((decide (z27 < 1)) || (decide (z27 > 16))) || (decide (z2G < 0))) || (decide (z2G > 1000))) rfl rfl rfl rfl rfl rfl (fun h=>(y24 h).symm) (fun _ zs6=>?_) ?_
 ·skip
  refine WL.pu rfl (WL.pu rfl (WL.pu rfl ?_))
  exact WL.yu (y25 zs6) rfl rfl .all
 refine WL.pu rfl ?_
 refine WL.seg false 2 22 (B:=((((decide (z27 < 1)) || (decide (z27 > 16))) || (decide (z2G < 0))) || (decide (z2G > 1000))) || (decide (z3V < 0))) rfl rfl rfl rfl rfl rfl (fun h=>(y24 h).symm) (fun _ zs7=>?_) ?_
 ·skip
  refine WL.pu rfl (WL.pu rfl (WL.pu rfl ?_))
  exact WL.yu (y25 zs7) rfl rfl .all
 refine WL.pu rfl ?_
 refine WL.seg false 2 26 (B:=(((((decide (z27 < 1)) || (decide (z27 > 16))) || (decide (z2G < 0))) || (decide (z2G > 1000))) || (decide (z3V < 0))) || (decide (z3V > 1073741824))) rfl rfl rfl rfl rfl rfl (fun h=>(y24 h).symm) (fun _ zs8=>?_) ?_
 ·skip
  refine WL.pu rfl (WL.pu rfl (WL.pu rfl ?_))
  exact WL.yu (y25 zs8) rfl rfl .all
 refine WL.nil (WX.a ?_)
 refine WC.cond rfl (fun zib=>?_) (fun zib=>?_)
 ·replace h:=yl h zib
  refine WC.b (WC.a (WL.pu rfl (WL.pu rfl (WL.nil (WX.a (WC.ret (WX.yf ?_)))))))
  cases h
 ·replace h:=ym h zib
  refine WC.skip (WX.a (WC.b (WC.a (WL.pu rfl (WL.pu rfl (WL.pu rfl ?_))))))
  refine WL.a (d:=33) rfl rfl rfl (y1j (v:=(.agg #[(.int .i64 z27),(.int .i64 z2G),(.int .i64 z3V)])) (Eos.parts (l:=[.tmp 30,.tmp 31,.tmp 32]) (.cons rfl (.cons rfl (.cons rfl .nil))) [0,1,2]) (fun _=>by kernel_rfl)) ?_
  refine WL.a (d:=34) rfl rfl rfl (y1j (v:=(.agg #[(.int .i64 z27),(.int .i64 z2G),(.int .i64 z3V),(.int .i64 0),(.int .i64 0),(.slice none 0 0)])) (Eos.parts (l:=[.tmp 33]) (.cons rfl .nil) [0]) (fun _=>by kernel_rfl)) ?_
  refine WL.new (dd:=35) rfl rfl rfl (y2h (cs:=[(.int .i64 z27),(.int .i64 z2G),(.int .i64 z3V),(.int .i64 0),(.int .i64 0),(.slice none 0 0)]) rfl rfl) ?_
  intro zs9 _
  refine WL.pu rfl (WL.pu rfl (WL.nil (WX.a (WC.ret ?_))))
  refine WX.nilRow 146 2 ?_
  obtain rfl:=Option.some.inj h
  refine WX.yi Try.results52 (.tmp rfl (.tmp rfl .nil)) (fun w hw=>?_)
  exact ⟨zs9,none,0,ret2 rfl rfl,trivial,hw.sub (.cons .h1 (.cons .here .nil))⟩
def y3f (z1l : Sapi_Config) (zfk : List (List Sapi_Hop)) (zfl : List zSt) (z8q : List (Snetwork_exit × Sport_Port)) (zfm : List Snetwork_event) (zfn : List Sapi_Come) (zfo : List Sapi_Come) (zN : Sapi_Hop) : Option (List (Snetwork_exit × Sport_Port)) :=
 jp1 (fun (z8r : List (Snetwork_exit × Sport_Port))=>some z8r) fun zfp=>if !y28 z8q (⟨zN.fNode,zN.fLink⟩ : Snetwork_exit) then jp2 (fun (z8s : Int) (z8t : Int)=>chk ((0 : Int) ≤ zN.fLink ∧ zN.fLink < ((z1l.fLinks.length : Nat) : Int)) ((y56 ((nth z1l.fLinks zN.fLink).fSlow) z8s z8t).bind fun z9H=>zfp (yI z8q (⟨zN.fNode,zN.fLink⟩ : Snetwork_exit) z9H))) fun zfq=>if decide ((i64 (zN.fNode - ((z1l.fModules.length : Nat) : Int))) ≥ 0) then chk ((0 : Int) ≤ (i64 (zN.fNode - ((z1l.fModules.length : Nat) : Int))) ∧ (i64 (zN.fNode - ((z1l.fModules.length : Nat) : Int))) < ((z1l.fSwitches.length : Nat) : Int)) (zfq ((nth z1l.fSwitches (i64 (zN.fNode - ((z1l.fModules.length : Nat) : Int)))).fDelay) ((nth z1l.fSwitches (i64 (zN.fNode - ((z1l.fModules.length : Nat) : Int)))).fStore)) else zfq 0 1073741824 else zfp z8q
set_option maxRecDepth 20000 in
theorem y7l (Z : Zp) (zbl : Addr) (zmN : Option Addr) (zmO : Nat) (zmP : Option Addr) (zmQ : Nat) (zmR : Option Addr) (zmS : Nat) (zmT : Option Addr) (zmU : Nat) (zmV : Option Addr) (zmW : Nat) (zmX : Option Addr) (zmY : Nat) (zmZ : Option Addr) (zn0 : Nat) (zn1 : Option Addr) (zn2 : Nat) (zn3 : Option Addr) (zn4 : Nat) (zn5 : Option Addr) (zn6 : Nat) (z6v : Nat) (z39 : List (Snetwork_exit × ((Nat × (Option Addr × Nat)) × Sport_Port))) (zn7 : Option Addr) (zn8 : Nat) (zn9 : Option Addr) (zna : Nat) (znb : Option Addr) (znc : Nat) (z1l : Sapi_Config) (zfk : List (List Sapi_Hop)) (zfl : List zSt) (z8q : List (Snetwork_exit × Sport_Port)) (zfm : List Snetwork_event) (zfn : List Sapi_Come) (zfo : List Sapi_Come) (zN : Sapi_Hop) (r : (List (Snetwork_exit × Sport_Port)))
  (h : y3f z1l zfk zfl z8q zfm zfn zfo zN = some r) (w₀ : World) (hz : PZ (fps [yF z6v (fun x=>Value.agg (y1S x).toArray) Value.pointer (y1s z39),y1r z19 z39]) w₀ Z)
  (zxK : ZS Z 4 (y2w Z) zmN zmO z1l.fModules)
  (zxL : ZS Z 4 (y2S Z) zmP zmQ z1l.fChannels)
  (znd : ZS Z 4 (fun r x=>r = e64 x) zmR zmS z1l.fSwitches)
  (zsa : ZS Z 4 (fun r x=>r = e62 x) zmT zmU z1l.fLinks)
  (zxM : ZS Z 7 (y2F Z) zmV zmW z1l.fVLs)
  (zxN : ZS Z 5 (fun r x=>r = y2Y x) zmX zmY z1l.fHealth)
  (zxO : ZS Z 3 (y2T Z) zmZ zn0 z1l.fCauses)
  (zxP : ZS Z 4 (fun r x=>r = y2Z x) zn1 zn2 z1l.fVersions)
  (zxQ : ZS Z 1 (p55 Z) zn3 zn4 zfk)
  (zxR : ZS Z 3 (fun r x=>r = e53 x) zn5 zn6 zfl)
  (zic : dat z39 = z8q)
  (zxS : ZS Z 7 (fun r x=>r = yA x) zn7 zn8 zfm)
  (zxT : ZS Z 3 (fun r x=>r = e50 x) zn9 zna zfn)
  (zxU : ZS Z 3 (fun r x=>r = e50 x) znb znc zfo)
  (z9I : ZC Z zbl [(.slice zmN z1l.fModules.length zmO),(.slice zmP z1l.fChannels.length zmQ),(.slice zmR z1l.fSwitches.length zmS),(.slice zmT z1l.fLinks.length zmU),(.slice zmV z1l.fVLs.length zmW),(.slice zmX z1l.fHealth.length zmY),(.slice zmZ z1l.fCauses.length zn0),(.slice zn1 z1l.fVersions.length zn2),(.slice zn3 zfk.length zn4),(.slice zn5 zfl.length zn6),(.map (some z6v)),(.slice zn7 zfm.length zn8),(.slice zn9 zfn.length zna),(.slice znb zfo.length znc)])
  (hown : Hp (fps [yF z6v (fun x=>Value.agg (y1S x).toArray) Value.pointer (y1s z39),y1r z19 z39]) w₀ w₀ [yF z6v (fun x=>Value.agg (y1S x).toArray) Value.pointer (y1s z39),y1r z19 z39]) :
  Calls Try.prog 40 #[(.pointer (some zbl)),(.agg #[(.int .i64 zN.fNode),(.int .i64 zN.fNext),(.int .i64 zN.fLink)])] w₀ fun e w'=>∃ zfr : List (Snetwork_exit × ((Nat × (Option Addr × Nat)) × Sport_Port)),e = .returned (.pointer (yk (y1s zfr) (⟨zN.fNode,zN.fLink⟩ : Snetwork_exit) (none : Option Addr))) ∧ (dat zfr = r) ∧ Hp (fps [yF z6v (fun x=>Value.agg (y1S x).toArray) Value.pointer (y1s z39),y1r z19 z39]) w₀ w' [yF z6v (fun x=>Value.agg (y1S x).toArray) Value.pointer (y1s zfr),y1r z19 zfr]:=by
 unfold y3f at h
 refine Calls.yo (vs:=[(.pointer (some zbl)),(.agg #[(.int .i64 zN.fNode),(.int .i64 zN.fNext),(.int .i64 zN.fLink)])]) (pre:=[yF z6v (fun x=>Value.agg (y1S x).toArray) Value.pointer (y1s z39),y1r z19 z39]) (env:=[(0,(.pointer (some zbl))),(1,(.agg #[(.int .i64 zN.fNode),(.int .i64 zN.fNext),(.int .i64 zN.fLink)]))]) Try.func40 rfl Try.ntmps40 rfl (hown) rfl ?_
 refine WC.b (WC.a ?_)
 refine WL.new (dd:=3) rfl rfl rfl (y2h (cs:=[(.int .i64 zN.fNode),(.int .i64 zN.fNext),(.int .i64 zN.fLink)]) rfl rfl) ?_
 intro zid _
 refine WL.pu rfl (WL.nil (WX.a (WC.b (WC.a ?_))))
 refine WL.a (d:=9) rfl rfl rfl (ya y3n rfl rfl) ?_
 refine WL.a (d:=10) rfl rfl rfl (yb yg rfl (yc .here rfl)) ?_
 refine WL.a (d:=11) rfl rfl rfl (ya y72 rfl rfl) ?_
 refine WL.a (d:=12) rfl rfl rfl (yb yg rfl (yc .here rfl)) ?_
 refine WL.a (d:=13) rfl rfl rfl (y1j (v:=(.agg #[(.int .i64 zN.fNode),(.int .i64 zN.fLink)])) (Eos.parts (l:=[.tmp 10,.tmp 12]) (.cons rfl (.cons rfl .nil)) [0,1]) (fun _=>by kernel_rfl)) ?_
 refine WL.new (dd:=5) rfl rfl rfl (y2d (cs:=[(.int .i64 0),(.int .i64 0)]) zoY rfl) ?_
 intro ze0 _
 refine WL.y1u rfl rfl (y1K zoZ rfl rfl rfl .here rfl rfl rfl) ?_
 refine WL.nil (WX.a ?_)
 obtain ⟨zfp,zsb,h⟩:=yZ h
 refine WC.y2v (fun (z8r : List (Snetwork_exit × Sport_Port)) (z9J : List (Snetwork_exit × ((Nat × (Option Addr × Nat)) × Sport_Port)))=>(zfp z8r = some r) ∧ (dat z9J = z8r)) (fun (z8r : List (Snetwork_exit × Sport_Port)) (z9J : List (Snetwork_exit × ((Nat × (Option Addr × Nat)) × Sport_Port)))=>[(0,(.pointer (some zbl))),(5,(.pointer (some ⟨ze0,0,none⟩)))]) (fun (z8r : List (Snetwork_exit × Sport_Port)) (z9J : List (Snetwork_exit × ((Nat × (Option Addr × Nat)) × Sport_Port)))=>[stb ze0 136 [(.int .i64 zN.fNode),(.int .i64 zN.fLink)],yF z6v (fun x=>Value.agg (y1S x).toArray) Value.pointer (y1s z9J),y1r z19 z9J]) ?_ ?_
 ·skip
  refine WC.b ?_
  refine WC.yY (fun i=>[].contains i) [] rfl ?_
  refine WD.a (i:=0) (d:=14) (by kernel_rfl) rfl (z2 (by kernel_rfl)) (z3 (by kernel_rfl)) rfl rfl rfl (fun _=>q_m rfl) ?_
  refine WD.a (i:=1) (d:=15) (by kernel_rfl) rfl (z2 (by kernel_rfl)) (z3 (by kernel_rfl)) rfl rfl rfl (fun _=>yv rfl) ?_
  refine WD.a (i:=2) (d:=16) (by kernel_rfl) rfl (z2 (by kernel_rfl)) (z3 (by kernel_rfl)) rfl rfl rfl (fun _=>ya y7Z rfl rfl) ?_
  refine WD.e (i:=3) (d:=17) (by kernel_rfl) rfl (z2 (by kernel_rfl)) (z3 (by kernel_rfl)) rfl rfl rfl (yb y80 rfl (y21 hz.pv z9I rfl)) ?_
  refine WD.e (i:=4) (d:=18) (by kernel_rfl) rfl (z2 (by kernel_rfl)) (z3 (by kernel_rfl)) rfl rfl rfl (yN zgy rfl (y1x .here) rfl) ?_
  refine WD.e (i:=5) (d:=19) (by kernel_rfl) rfl (z2 (by kernel_rfl)) (z3 (by kernel_rfl)) rfl rfl rfl (y3N (k:=(⟨zN.fNode,zN.fLink⟩ : Snetwork_exit)) (dflt:=(none : Option Addr)) zgz Try.underlying77 zkG rfl rfl rfl .h2) ?_
  refine WD.a (i:=6) (d:=20) (by kernel_rfl) rfl (z2 (by kernel_rfl)) (z3 (by kernel_rfl)) rfl rfl rfl (fun _=>q_eqlPN zic Try.underlying116 rfl rfl) ?_
  refine WD.done (by kernel_rfl) ?_
  refine WX.a ?_
  refine WC.cond rfl (fun zie=>?_) (fun zie=>?_)
  ·replace h:=yl h zie
   refine WC.b (WC.a (WL.pu rfl (WL.pu rfl (WL.nil (WX.a ?_)))))
   obtain ⟨zfq,zsc,h⟩:=y3c h
   refine WC.y2v (fun (z8s : Int) (z8t : Int)=>(zfq z8s z8t = some r)) (fun (z8s : Int) (z8t : Int)=>[(0,(.pointer (some zbl))),(3,(.pointer (some ⟨zid,0,none⟩))),(5,(.pointer (some ⟨ze0,0,none⟩))),(6,(.int .i64 z8s)),(7,(.int .i64 z8t))]) (fun (z8s : Int) (z8t : Int)=>[stb zid 59 [(.int .i64 zN.fNode),(.int .i64 zN.fNext),(.int .i64 zN.fLink)],stb ze0 136 [(.int .i64 zN.fNode),(.int .i64 zN.fLink)],yF z6v (fun x=>Value.agg (y1S x).toArray) Value.pointer (y1s z39),y1r z19 z39]) ?_ ?_
   ·skip
    refine WC.b ?_
    refine WC.yY (fun i=>[].contains i) [] rfl ?_
    refine WD.a (i:=0) (d:=21) (by kernel_rfl) rfl (z2 (by kernel_rfl)) (z3 (by kernel_rfl)) rfl rfl rfl (fun _=>ya y3n rfl rfl) ?_
    refine WD.e (i:=1) (d:=22) (by kernel_rfl) rfl (z2 (by kernel_rfl)) (z3 (by kernel_rfl)) rfl rfl rfl (yb yg rfl (yc .h1 rfl)) ?_
    refine WD.a (i:=2) (d:=23) (by kernel_rfl) rfl (z2 (by kernel_rfl)) (z3 (by kernel_rfl)) rfl rfl rfl (fun _=>q_m rfl) ?_
    refine WD.a (i:=3) (d:=24) (by kernel_rfl) rfl (z2 (by kernel_rfl)) (z3 (by kernel_rfl)) rfl rfl rfl (fun _=>yv rfl) ?_
    refine WD.a (i:=4) (d:=25) (by kernel_rfl) rfl (z2 (by kernel_rfl)) (z3 (by kernel_rfl)) rfl rfl rfl (fun _=>ya y60 rfl rfl) ?_
    refine WD.a (i:=5) (d:=26) (by kernel_rfl) rfl (z2 (by kernel_rfl)) (z3 (by kernel_rfl)) rfl rfl rfl (fun _=>ya y3X rfl rfl) ?_
    refine WD.e (i:=6) (d:=27) (by kernel_rfl) rfl (z2 (by kernel_rfl)) (z3 (by kernel_rfl)) rfl rfl rfl (yb y3Y rfl (y21 hz.pv z9I rfl)) ?_
    refine WD.a (i:=7) (d:=28) (by kernel_rfl) rfl (z2 (by kernel_rfl)) (z3 (by kernel_rfl)) rfl rfl rfl (fun _=>yW Try.underlying22 rfl) ?_
    refine WD.a (i:=8) (d:=29) (by kernel_rfl) rfl (z2 (by kernel_rfl)) (z3 (by kernel_rfl)) rfl rfl rfl (fun _=>y4S rfl rfl rfl) ?_
    refine WD.a (i:=9) (d:=8) (by kernel_rfl) rfl (z2 (by kernel_rfl)) (z3 (by kernel_rfl)) rfl rfl rfl (fun _=>q_z rfl) ?_
    refine WD.done (by kernel_rfl) ?_
    refine WX.a (WC.b (WC.a (WL.pu rfl (WL.pu rfl (WL.nil (WX.a ?_))))))
    refine WC.cond rfl (fun zif=>?_) (fun zif=>?_)
    ·replace h:=yl h zif
     obtain ⟨zne,h⟩:=yj h
     refine WC.yY (fun i=>[].contains i) [] rfl ?_
     refine WD.a (i:=0) (d:=32) (by kernel_rfl) rfl (z2 (by kernel_rfl)) (z3 (by kernel_rfl)) rfl rfl rfl (fun _=>q_m rfl) ?_
     refine WD.a (i:=1) (d:=33) (by kernel_rfl) rfl (z2 (by kernel_rfl)) (z3 (by kernel_rfl)) rfl rfl rfl (fun _=>yv rfl) ?_
     refine WD.a (i:=2) (d:=34) (by kernel_rfl) rfl (z2 (by kernel_rfl)) (z3 (by kernel_rfl)) rfl rfl rfl (fun _=>ya y60 rfl rfl) ?_
     refine WD.a (i:=3) (d:=35) (by kernel_rfl) rfl (z2 (by kernel_rfl)) (z3 (by kernel_rfl)) rfl rfl rfl (fun _=>ya y59 rfl rfl) ?_
     refine WD.e (i:=4) (d:=36) (by kernel_rfl) rfl (z2 (by kernel_rfl)) (z3 (by kernel_rfl)) rfl rfl rfl (yb y5a rfl (y21 hz.pv z9I rfl)) ?_
     refine WD.a (i:=5) (d:=37) (by kernel_rfl) rfl (z2 (by kernel_rfl)) (z3 (by kernel_rfl)) rfl rfl rfl (fun _=>q_m rfl) ?_
     refine WD.znth (j:=6) (dd:=38) (by kernel_rfl) rfl (z2 (by kernel_rfl)) (z3 (by kernel_rfl)) rfl rfl (Z:=Z) (Pr:=(fun r x=>r = e64 x)) y6P rfl rfl znd zne ?_
     rintro zxV zxW zsd zxX rfl
     refine WD.a (i:=7) (d:=39) (by kernel_rfl) rfl (z2 (by kernel_rfl)) (z3 (by kernel_rfl)) rfl rfl rfl (fun _=>ya y7V rfl rfl) ?_
     refine WD.e (i:=8) (d:=40) (by kernel_rfl) rfl (z2 (by kernel_rfl)) (z3 (by kernel_rfl)) rfl rfl rfl (yb yg rfl (y21 hz.pv zsd rfl)) ?_
     refine WD.a (i:=9) (d:=41) (by kernel_rfl) rfl (z2 (by kernel_rfl)) (z3 (by kernel_rfl)) rfl rfl rfl (fun _=>q_m rfl) ?_
     refine WD.a (i:=10) (d:=42) (by kernel_rfl) rfl (z2 (by kernel_rfl)) (z3 (by kernel_rfl)) rfl rfl rfl (fun _=>yv rfl) ?_
     refine WD.a (i:=11) (d:=43) (by kernel_rfl) rfl (z2 (by kernel_rfl)) (z3 (by kernel_rfl)) rfl rfl rfl (fun _=>ya y60 rfl rfl) ?_
     refine WD.a (i:=12) (d:=44) (by kernel_rfl) rfl (z2 (by kernel_rfl)) (z3 (by kernel_rfl)) rfl rfl rfl (fun _=>ya y59 rfl rfl) ?_
     refine WD.e (i:=13) (d:=45) (by kernel_rfl) rfl (z2 (by kernel_rfl)) (z3 (by kernel_rfl)) rfl rfl rfl (yb y5a rfl (y21 hz.pv z9I rfl)) ?_
     refine WD.a (i:=14) (d:=46) (by kernel_rfl) rfl (z2 (by kernel_rfl)) (z3 (by kernel_rfl)) rfl rfl rfl (fun _=>q_m rfl) ?_
     refine WD.znth (j:=15) (dd:=47) (by kernel_rfl) rfl (z2 (by kernel_rfl)) (z3 (by kernel_rfl)) rfl rfl (Z:=Z) (Pr:=(fun r x=>r = e64 x)) y6P rfl rfl znd zne ?_
     rintro zxY zxZ zse zy0 rfl
     refine WD.a (i:=16) (d:=48) (by kernel_rfl) rfl (z2 (by kernel_rfl)) (z3 (by kernel_rfl)) rfl rfl rfl (fun _=>ya y7W rfl rfl) ?_
     refine WD.e (i:=17) (d:=49) (by kernel_rfl) rfl (z2 (by kernel_rfl)) (z3 (by kernel_rfl)) rfl rfl rfl (yb yg rfl (y21 hz.pv zse rfl)) ?_
     refine WD.a (i:=18) (d:=6) (by kernel_rfl) rfl (z2 (by kernel_rfl)) (z3 (by kernel_rfl)) rfl rfl rfl (fun _=>q_z rfl) ?_
     refine WD.a (i:=19) (d:=7) (by kernel_rfl) rfl (z2 (by kernel_rfl)) (z3 (by kernel_rfl)) rfl rfl rfl (fun _=>q_z rfl) ?_
     refine WD.done (by kernel_rfl) ?_
     exact WX.mid (G:=Int × Int) ⟨((nth z1l.fSwitches (i64 (zN.fNode - ((z1l.fModules.length : Nat) : Int)))).fDelay),((nth z1l.fSwitches (i64 (zN.fNode - ((z1l.fModules.length : Nat) : Int)))).fStore)⟩ h (.cons rfl (.cons rfl (.cons rfl (.cons rfl (.cons rfl .nil))))) (.cons .h1 (.cons .here (.cons .here (.cons .here .nil))))
    ·replace h:=ym h zif
     refine WC.skip ?_
     exact WX.mid (G:=Int × Int) ⟨0,1073741824⟩ h (.cons rfl (.cons rfl (.cons rfl (.cons rfl (.cons rfl .nil))))) (.cons .h1 (.cons .here (.cons .here (.cons .here .nil))))
   ·rintro z8s z8t h
    replace h:=(zsc z8s z8t).symm.trans h
    obtain ⟨zsf,h⟩:=yj h
    obtain ⟨z9H,zsg,h⟩:=zn h
    refine WC.yY (fun i=>[21].contains i) [] rfl ?_
    refine WD.a (i:=0) (d:=51) (by kernel_rfl) rfl (z2 (by kernel_rfl)) (z3 (by kernel_rfl)) rfl rfl rfl (fun _=>q_m rfl) ?_
    refine WD.a (i:=1) (d:=52) (by kernel_rfl) rfl (z2 (by kernel_rfl)) (z3 (by kernel_rfl)) rfl rfl rfl (fun _=>yv rfl) ?_
    refine WD.a (i:=2) (d:=53) (by kernel_rfl) rfl (z2 (by kernel_rfl)) (z3 (by kernel_rfl)) rfl rfl rfl (fun _=>ya y7Z rfl rfl) ?_
    refine WD.e (i:=3) (d:=54) (by kernel_rfl) rfl (z2 (by kernel_rfl)) (z3 (by kernel_rfl)) rfl rfl rfl (yb y80 rfl (y21 hz.pv z9I rfl)) ?_
    refine WD.e (i:=4) (d:=55) (by kernel_rfl) rfl (z2 (by kernel_rfl)) (z3 (by kernel_rfl)) rfl rfl rfl (yN zgy rfl (y1x .h1) rfl) ?_
    refine WD.a (i:=5) (d:=56) (by kernel_rfl) rfl (z2 (by kernel_rfl)) (z3 (by kernel_rfl)) rfl rfl rfl (fun _=>q_m rfl) ?_
    refine WD.a (i:=6) (d:=57) (by kernel_rfl) rfl (z2 (by kernel_rfl)) (z3 (by kernel_rfl)) rfl rfl rfl (fun _=>yv rfl) ?_
    refine WD.a (i:=7) (d:=58) (by kernel_rfl) rfl (z2 (by kernel_rfl)) (z3 (by kernel_rfl)) rfl rfl rfl (fun _=>ya y60 rfl rfl) ?_
    refine WD.a (i:=8) (d:=59) (by kernel_rfl) rfl (z2 (by kernel_rfl)) (z3 (by kernel_rfl)) rfl rfl rfl (fun _=>ya y6Y rfl rfl) ?_
    refine WD.e (i:=9) (d:=60) (by kernel_rfl) rfl (z2 (by kernel_rfl)) (z3 (by kernel_rfl)) rfl rfl rfl (yb y6Z rfl (y21 hz.pv z9I rfl)) ?_
    refine WD.a (i:=10) (d:=61) (by kernel_rfl) rfl (z2 (by kernel_rfl)) (z3 (by kernel_rfl)) rfl rfl rfl (fun _=>ya y72 rfl rfl) ?_
    refine WD.e (i:=11) (d:=62) (by kernel_rfl) rfl (z2 (by kernel_rfl)) (z3 (by kernel_rfl)) rfl rfl rfl (yb yg rfl (yc .here rfl)) ?_
    refine WD.znth (j:=12) (dd:=63) (by kernel_rfl) rfl (z2 (by kernel_rfl)) (z3 (by kernel_rfl)) rfl rfl (Z:=Z) (Pr:=(fun r x=>r = e62 x)) y8P rfl rfl zsa zsf ?_
    rintro zy1 zy2 zsh zy3 rfl
    refine WD.a (i:=13) (d:=64) (by kernel_rfl) rfl (z2 (by kernel_rfl)) (z3 (by kernel_rfl)) rfl rfl rfl (fun _=>ya y7U rfl rfl) ?_
    refine WD.e (i:=14) (d:=65) (by kernel_rfl) rfl (z2 (by kernel_rfl)) (z3 (by kernel_rfl)) rfl rfl rfl (yb yg rfl (y21 hz.pv zsh rfl)) ?_
    refine WD.a (i:=15) (d:=66) (by kernel_rfl) rfl (z2 (by kernel_rfl)) (z3 (by kernel_rfl)) rfl rfl rfl (fun _=>q_m rfl) ?_
    refine WD.a (i:=16) (d:=67) (by kernel_rfl) rfl (z2 (by kernel_rfl)) (z3 (by kernel_rfl)) rfl rfl rfl (fun _=>q_m rfl) ?_
    refine WD.call3 (i:=17) (dd:=68) rfl (by kernel_rfl) rfl rfl rfl (.inr rfl) (zF (l:=[.tmp 65,.tmp 66,.tmp 67]) Try.call52 (.cons rfl (.cons rfl (.cons rfl .nil)))) .nil (cc hz .nil fun w pz ho=>y9M _ _ _ _ _ zsg w pz ) ?_
    rintro ze1 zfs zft _
    refine WD.a (i:=18) (d:=50) (by kernel_rfl) rfl (z2 (by kernel_rfl)) (z3 (by kernel_rfl)) rfl rfl rfl (fun _=>q_m rfl) ?_
    refine WD.a (i:=19) (d:=69) (by kernel_rfl) rfl (z2 (by kernel_rfl)) (z3 (by kernel_rfl)) rfl rfl rfl (fun _=>y47 rfl rfl) ?_
    refine WD.a (i:=20) (d:=70) (by kernel_rfl) rfl (z2 (by kernel_rfl)) (z3 (by kernel_rfl)) rfl rfl rfl (fun _=>y47 rfl rfl) ?_
    refine WD.forced0 (i:=21) rfl (by kernel_rfl) rfl rfl rfl (Sin.of .nil) (y5J (k:=(⟨zN.fNode,zN.fLink⟩ : Snetwork_exit)) (v:=(some ⟨ze1,0,none⟩ : Option Addr)) zgz Try.underlying77 rfl rfl rfl rfl .h4) ?_
    refine WD.ghL (fun _ h=>Hp.y9K (els:=z19) (k:=(⟨zN.fNode,zN.fLink⟩ : Snetwork_exit)) (b:=ze1) (g:=(zfs,zft)) (x:=z9H) .h5 (.cons .h1 (.cons .h1 .nil)) h) ?_
    refine WD.ghL (M:=[yF z6v (fun x=>Value.agg (y1S x).toArray) Value.pointer (y1s (yI z39 (⟨zN.fNode,zN.fLink⟩ : Snetwork_exit) ((ze1,(zfs,zft)),z9H))),y1r z19 (yI z39 (⟨zN.fNode,zN.fLink⟩ : Snetwork_exit) ((ze1,(zfs,zft)),z9H)),stb zid 59 [(.int .i64 zN.fNode),(.int .i64 zN.fNext),(.int .i64 zN.fLink)],stb ze0 136 [(.int .i64 zN.fNode),(.int .i64 zN.fLink)]]) (fun _ h=>Hp.y8L .h1 (y8k _ _ _ _ _).symm h) ?_
    refine WD.done (by kernel_rfl) ?_
    exact WX.mid (G:=(List (Snetwork_exit × Sport_Port)) × (List (Snetwork_exit × ((Nat × (Option Addr × Nat)) × Sport_Port)))) ⟨(yI z8q (⟨zN.fNode,zN.fLink⟩ : Snetwork_exit) z9H),(yI z39 (⟨zN.fNode,zN.fLink⟩ : Snetwork_exit) ((ze1,(zfs,zft)),z9H))⟩ ⟨h,(y6h zic _ _ _)⟩ (.cons rfl (.cons rfl .nil)) (.cons .h3 (.cons .here (.cons .here .nil)))
  ·replace h:=ym h zie
   refine WC.skip ?_
   exact WX.mid (G:=(List (Snetwork_exit × Sport_Port)) × (List (Snetwork_exit × ((Nat × (Option Addr × Nat)) × Sport_Port)))) ⟨z8q,z39⟩ ⟨h,zic⟩ (.cons rfl (.cons rfl .nil)) (.cons .here (.cons .h1 (.cons .h1 .nil)))
 ·rintro z8r z9J ⟨h,zsi⟩
  replace h:=(zsb z8r).symm.trans h
  refine WC.b ?_
  refine WC.yY (fun i=>[].contains i) [] rfl ?_
  refine WD.a (i:=0) (d:=71) (by kernel_rfl) rfl (z2 (by kernel_rfl)) (z3 (by kernel_rfl)) rfl rfl rfl (fun _=>q_m rfl) ?_
  refine WD.a (i:=1) (d:=72) (by kernel_rfl) rfl (z2 (by kernel_rfl)) (z3 (by kernel_rfl)) rfl rfl rfl (fun _=>yv rfl) ?_
  refine WD.a (i:=2) (d:=73) (by kernel_rfl) rfl (z2 (by kernel_rfl)) (z3 (by kernel_rfl)) rfl rfl rfl (fun _=>ya y7Z rfl rfl) ?_
  refine WD.e (i:=3) (d:=74) (by kernel_rfl) rfl (z2 (by kernel_rfl)) (z3 (by kernel_rfl)) rfl rfl rfl (yb y80 rfl (y21 hz.pv z9I rfl)) ?_
  refine WD.e (i:=4) (d:=75) (by kernel_rfl) rfl (z2 (by kernel_rfl)) (z3 (by kernel_rfl)) rfl rfl rfl (yN zgy rfl (y1x .here) rfl) ?_
  refine WD.e (i:=5) (d:=76) (by kernel_rfl) rfl (z2 (by kernel_rfl)) (z3 (by kernel_rfl)) rfl rfl rfl (y3N (k:=(⟨zN.fNode,zN.fLink⟩ : Snetwork_exit)) (dflt:=(none : Option Addr)) zgz Try.underlying77 zkG rfl rfl rfl .h1) ?_
  refine WD.a (i:=6) (d:=4) (by kernel_rfl) rfl (z2 (by kernel_rfl)) (z3 (by kernel_rfl)) rfl rfl rfl (fun _=>q_z rfl) ?_
  refine WD.done (by kernel_rfl) ?_
  refine WX.a (WC.ret ?_)
  obtain rfl:=Option.some.inj h
  refine WX.yi Try.results40 (.tmp rfl .nil) (fun w hw=>?_)
  exact ⟨z9J,y12 rfl,zsi,hw.sub (.cons .h1 (.cons .h1 .nil))⟩
def y2H (z6w : Sport_Port) : Option Bool :=
 some (decide (z6w.fNumbers.fSlow = 0))
set_option maxRecDepth 20000 in
theorem y5q (Z : Zp) (zfu : Addr) (znf : Option Addr) (zng : Nat) (z6w : Sport_Port) (r : Bool)
  (h : y2H z6w = some r) (w₀ : World) (hz : PZ [] w₀ Z)
  (zy4 : ZS Z 2 (fun r x=>r = y20 x) znf zng z6w.fFrames)
  (zsj : ZC Z zfu [(.int .i64 z6w.fNumbers.fSlow),(.int .i64 z6w.fNumbers.fDelay),(.int .i64 z6w.fNumbers.fStore),(.int .i64 z6w.fNow),(.int .i64 z6w.fLast),(.slice znf z6w.fFrames.length zng)]) :
  Calls Try.prog 53 #[(.pointer (some zfu))] w₀ fun e w'=>e = .returned (.bool r) ∧ Hp [] w₀ w' []:=by
 unfold y2H at h
 refine Calls.yo (vs:=[(.pointer (some zfu))]) (pre:=[]) (env:=[(0,(.pointer (some zfu)))]) Try.func53 rfl Try.ntmps53 rfl (Hp.nil w₀ _) rfl ?_
 refine WC.b (WC.a (WL.pu rfl (WL.nil (WX.a (WC.b (WC.a (WL.pu rfl ?_)))))))
 refine WL.a (d:=4) rfl rfl rfl (y8D Try.underlying116 rfl rfl) ?_
 refine WL.pu rfl (WL.pu rfl ?_)
 refine WL.a (d:=7) rfl rfl rfl (yv rfl) ?_
 refine WL.a (d:=8) rfl rfl rfl (ya y6l rfl rfl) ?_
 refine WL.a (d:=9) rfl rfl rfl (ya y8T rfl rfl) ?_
 refine WL.a (d:=10) rfl rfl rfl (yb yg rfl (y21 hz.pv zsj rfl)) ?_
 refine WL.pu rfl (WL.pu rfl (WL.pu rfl (WL.nil (WX.a (WC.ret ?_)))))
 obtain rfl:=Option.some.inj h
 refine WX.yi Try.results53 (.tmp rfl .nil) (fun w hw=>?_)
 exact ⟨y12 rfl,hw.sub .nil⟩
def y2A (z5o : Sport_frame) (zfv : Int) : Option Bool :=
 some (decide (z5o.fFin ≤ zfv))
set_option maxRecDepth 20000 in
theorem y78 (Z : Zp) (zfw : Addr) (z5o : Sport_frame) (zfv : Int) (r : Bool)
  (h : y2A z5o zfv = some r) (w₀ : World) (hz : PZ [] w₀ Z)
  (zsk : ZC Z zfw [(.int .i64 zfv)]) :
  Calls Try.prog 55 #[(.agg #[(.int .i64 z5o.fSize),(.int .i64 z5o.fFin)]),(.pointer (some zfw))] w₀ fun e w'=>e = .returned (.bool r) ∧ Hp [] w₀ w' []:=by
 unfold y2A at h
 refine Calls.yo (vs:=[(.agg #[(.int .i64 z5o.fSize),(.int .i64 z5o.fFin)]),(.pointer (some zfw))]) (pre:=[]) (env:=[(0,(.agg #[(.int .i64 z5o.fSize),(.int .i64 z5o.fFin)])),(1,(.pointer (some zfw)))]) Try.func55 rfl Try.ntmps55 rfl (Hp.nil w₀ _) rfl ?_
 refine WC.b (WC.a ?_)
 refine WL.new (dd:=2) rfl rfl rfl (y2h (cs:=[(.int .i64 z5o.fSize),(.int .i64 z5o.fFin)]) rfl rfl) ?_
 intro zy5 _
 refine WL.pu rfl (WL.nil (WX.a (WC.b (WC.a ?_))))
 refine WL.a (d:=4) rfl rfl rfl (ya y8V rfl rfl) ?_
 refine WL.a (d:=5) rfl rfl rfl (yb yg rfl (yc .here rfl)) ?_
 refine WL.a (d:=6) rfl rfl rfl (yb yg rfl (rd_z hz.pv zsk rfl)) ?_
 refine WL.pu rfl (WL.pu rfl (WL.nil (WX.a (WC.ret ?_))))
 obtain rfl:=Option.some.inj h
 refine WX.yi Try.results55 (.tmp rfl .nil) (fun w hw=>?_)
 exact ⟨y12 rfl,hw.sub .nil⟩
def yB (z2f : List Sport_frame) (z5p : Sport_frame → Option Bool) (z7v : Option Int) : Nat → Int → Option Int
 | 0,_=>none
 | zig + 1,z2t=>if decide (z2t < ((z2f.length : Nat) : Int)) then chk ((0 : Int) ≤ z2t ∧ z2t < ((z2f.length : Nat) : Int)) ((z5p (⟨((nth z2f z2t).fSize),((nth z2f z2t).fFin)⟩ : Sport_frame)).bind fun zih=>if zih then some z2t else yB z2f z5p z7v zig (i64 (z2t + 1))) else z7v
theorem y3g {n : Nat} {z2f : List Sport_frame} {z5p : Sport_frame → Option Bool} {z7v : Option Int} {z2t : Int} {r : Int} (h : yB z2f z5p z7v n z2t = some r) : ∃ m,n = m + 1:=by
 cases n with
 | zero=>cases h
 | succ m=>exact ⟨m,rfl⟩
def yX (z2f : List Sport_frame) (z5p : Sport_frame → Option Bool) : Option Int :=
 jp0 (some (-1)) fun z7v=>yB z2f z5p z7v yt 0
set_option maxRecDepth 20000 in
theorem y3O (Z : Zp) (ze2 : Option Addr) (ze3 : Nat) (z7w : FuncId) (z9K : List Value) (z2f : List Sport_frame) (z5p : Sport_frame → Option Bool) (r : Int)
  (h : yX z2f z5p = some r) (w₀ : World) (hz : PZ [] w₀ Z)
  (zsl : ZS Z 2 (fun r x=>r = y20 x) ze2 ze3 z2f)
  (zsm : ∀ args w,(callFunc z7w args).run Try.prog w = .ok (.enter z7w args) w)
  (zsn : ∀ w : World,PZ [] w Z → ∀ (x0 : Sport_frame) (r : Bool),z5p x0 = some r → Calls Try.prog z7w (([(.agg #[(.int .i64 x0.fSize),(.int .i64 x0.fFin)])] : List Value) ++ z9K).toArray w fun e w'=>e = .returned (.bool r) ∧ Hp [] w w' []) :
  Calls Try.prog 63 #[(.slice ze2 z2f.length ze3),(.func (.func z7w) #[] (z9K).toArray)] w₀ fun e w'=>e = .returned (.int .i64 r) ∧ Hp [] w₀ w' []:=by
 unfold yX at h
 refine Calls.yo (vs:=[(.slice ze2 z2f.length ze3),(.func (.func z7w) #[] (z9K).toArray)]) (pre:=[]) (env:=[(0,(.slice ze2 z2f.length ze3)),(1,(.func (.func z7w) #[] (z9K).toArray))]) Try.func63 rfl Try.ntmps63 rfl (Hp.nil w₀ _) rfl ?_
 refine WC.b (WC.a (WL.pu rfl (WL.nil (WX.a ?_))))
 obtain ⟨z7v,zso,h⟩:=y2E h
 refine WC.y2u ((z7v = some r)) ([]) ([]) ?_ ?_
 ·skip
  refine WC.b (WC.a (WL.pu rfl ?_))
  refine WL.a (d:=7) rfl rfl rfl (yW Try.underlying141 rfl) ?_
  refine WL.pu rfl (WL.nil (WX.a (WC.block ?_)))
  refine WC.y4a (fun (zbm : Nat) (z2t : Int)=>(yB z2f z5p z7v zbm z2t = some r)) (fun (zbm : Nat) (z2t : Int)=>[(0,(.slice ze2 z2f.length ze3)),(1,(.func (.func z7w) #[] (z9K).toArray)),(7,(.int .i64 ((z2f.length : Nat) : Int))),(8,(.int .i64 z2t))]) (fun (zbm : Nat) (z2t : Int)=>[]) (fun (zbm : Nat) (z2t : Int)=>zbm) ⟨yt,0⟩ h (.cons rfl (.cons rfl (.cons rfl (.cons rfl .nil)))) .nil ?_
  rintro zbm z2t h
  obtain ⟨zig,rfl⟩:=y3g h
  rw [yB] at h
  refine WC.b (WC.a (WL.pu rfl (WL.nil (WX.a (WC.b ?_)))))
  refine WC.cond rfl (fun zii=>?_) (fun zii=>?_)
  ·replace h:=yl h zii
   refine WC.skip (WX.a (WC.b (WC.block (WC.b (WC.a (WL.pu rfl (WL.pu rfl (WL.nil (WX.a (WC.b ?_))))))))))
   obtain ⟨zsp,h⟩:=yj h
   obtain ⟨zih,zsq,h⟩:=zn h
   refine WC.a (WL.pu rfl (WL.pu rfl (WL.pu rfl ?_)))
   refine WL.znth (dd:=14) rfl rfl (Z:=Z) (Pr:=(fun r x=>r = y20 x)) z6W rfl rfl zsl zsp ?_
   rintro zy6 zy7 zsr zy8 rfl
   refine WL.a (d:=15) rfl rfl rfl (yN zah rfl (y3u hz.pv zsr) rfl) ?_
   refine WL.b (dd:=16) rfl rfl rfl (y3L (l:=[.tmp 15]) (f:=z7w) (caps:=z9K) zsm rfl (.cons rfl .nil)) .nil (fun w hw=>zsn w (hz.now hw) (⟨((nth z2f z2t).fSize),((nth z2f z2t).fFin)⟩ : Sport_frame) zih  zsq) ?_
   refine WL.nil (WX.a ?_)
   refine WC.cond rfl (fun zij=>?_) (fun zij=>?_)
   ·replace h:=yl h zij
    refine WC.b (WC.a (WL.pu rfl (WL.pu rfl (WL.nil (WX.a (WC.ret (WX.yz (WX.yf (WX.yf (WX.yz (WX.yf ?_)))))))))))
    obtain rfl:=Option.some.inj h
    refine WX.yi Try.results63 (.tmp rfl .nil) (fun w hw=>?_)
    exact ⟨y12 rfl,hw.sub .nil⟩
   ·replace h:=ym h zij
    refine WC.skip (WX.yh (WX.a (WC.a (WL.pu rfl (WL.pu rfl (WL.nil ?_))))))
    exact WX.round (G:=Nat × Int) ⟨zig,(i64 (z2t + 1))⟩ h (Nat.lt_succ_self _) (.cons rfl (.cons rfl (.cons rfl (.cons rfl .nil)))) .nil
  ·replace h:=ym h zii
   refine WC.exit (WX.yd (WX.yd (WX.yy ?_)))
   exact WX.mid (G:=Unit) () h .nil .nil
 ·rintro  h
  replace h:=zso.symm.trans h
  refine WC.b (WC.a (WL.pu rfl (WL.nil (WX.a (WC.ret ?_)))))
  obtain rfl:=Option.some.inj h
  refine WX.yi Try.results63 (.tmp rfl .nil) (fun w hw=>?_)
  exact ⟨y12 rfl,hw.sub .nil⟩
end Go.Proofs.Ytinchjigeakocaa
