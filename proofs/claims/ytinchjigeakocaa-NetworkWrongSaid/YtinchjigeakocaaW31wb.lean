/- A part of this claim's proof: models of functions, walks, plain laws. No conditions. -/
import Derived.Test.YtinchjigeakocaaW31wa
namespace Go.Proofs.Ytinchjigeakocaa
open Go Go.RowKit Sep
set_option linter.all false
set_option maxRecDepth 30000
set_option maxHeartbeats 4000000
def y1v (zb : List zSt) (zE : Sapi_Config) (z7l : Option Bool) : Nat → Int → Option Bool
 | 0,_=>none
 | zic + 1,zg=>if decide (zg < ((zb.length : Nat) : Int)) then chk ((0 : Int) ≤ zg ∧ zg < ((zb.length : Nat) : Int)) (chk (((((((decide (((nth zb zg).fTime) < 0)) || (decide (((nth zb zg).fTime) > 536870912))) || (decide (((nth zb zg).fVL) < 0))) || (decide (((nth zb zg).fVL) ≥ ((zE.fVLs.length : Nat) : Int)))) || (decide (((nth zb zg).fSize) < 1))) || (decide (((nth zb zg).fSize) > 72))) = false → ((decide (zg > 0)) = true → ((0 : Int) ≤ (i64 (zg - 1)) ∧ (i64 (zg - 1)) < ((zb.length : Nat) : Int)))) (if ((((((decide (((nth zb zg).fTime) < 0)) || (decide (((nth zb zg).fTime) > 536870912))) || (decide (((nth zb zg).fVL) < 0))) || (decide (((nth zb zg).fVL) ≥ ((zE.fVLs.length : Nat) : Int)))) || (decide (((nth zb zg).fSize) < 1))) || (decide (((nth zb zg).fSize) > 72))) || ((decide (zg > 0)) && (decide (((nth zb (i64 (zg - 1))).fTime) > ((nth zb zg).fTime)))) then some false else y1v zb zE z7l zic (i64 (zg + 1)))) else z7l
theorem y4V {n : Nat} {zb : List zSt} {zE : Sapi_Config} {z7l : Option Bool} {zg : Int} {r : Bool} (h : y1v zb zE z7l n zg = some r) : ∃ m,n = m + 1:=by
 cases n with
 | zero=>cases h
 | succ m=>exact ⟨m,rfl⟩
def y2M (zE : Sapi_Config) (zb : List zSt) : Option Bool :=
 jp0 (some (decide (((zb.length : Nat) : Int) ≤ 4000))) fun z7l=>y1v zb zE z7l yP 0
set_option maxRecDepth 20000 in
theorem y6x (Z : Zp) (zb1 : Option Addr) (zb2 : Nat) (zb3 : Option Addr) (zb4 : Nat) (zb5 : Option Addr) (zb6 : Nat) (zb7 : Option Addr) (zb8 : Nat) (zb9 : Option Addr) (zba : Nat) (zbb : Option Addr) (zbc : Nat) (zbd : Option Addr) (zbe : Nat) (zbf : Option Addr) (zbg : Nat) (z2l : Option Addr) (z2m : Nat) (zE : Sapi_Config) (zb : List zSt) (r : Bool)
  (h : y2M zE zb = some r) (w₀ : World) (hz : PZ [] w₀ Z)
  (zBz : ZS Z 4 (y2h Z) zb1 zb2 zE.fModules)
  (zBA : ZS Z 4 (y2x Z) zb3 zb4 zE.fChannels)
  (zBB : ZS Z 4 (fun r x=>r = e64 x) zb5 zb6 zE.fSwitches)
  (zBC : ZS Z 4 (fun r x=>r = e62 x) zb7 zb8 zE.fLinks)
  (zBD : ZS Z 7 (y2p Z) zb9 zba zE.fVLs)
  (zBE : ZS Z 5 (fun r x=>r = y2K x) zbb zbc zE.fHealth)
  (zBF : ZS Z 3 (y2y Z) zbd zbe zE.fCauses)
  (zBG : ZS Z 4 (fun r x=>r = y2L x) zbf zbg zE.fVersions)
  (zn5 : ZS Z 3 (fun r x=>r = e53 x) z2l z2m zb) :
  Calls Try.prog 24 #[(.agg #[(.slice zb1 zE.fModules.length zb2),(.slice zb3 zE.fChannels.length zb4),(.slice zb5 zE.fSwitches.length zb6),(.slice zb7 zE.fLinks.length zb8),(.slice zb9 zE.fVLs.length zba),(.slice zbb zE.fHealth.length zbc),(.slice zbd zE.fCauses.length zbe),(.slice zbf zE.fVersions.length zbg)]),(.slice z2l zb.length z2m)] w₀ fun e w'=>e = .returned (.bool r) ∧ Hp [] w₀ w' []:=by
 unfold y2M at h
 refine Calls.yo (vs:=[(.agg #[(.slice zb1 zE.fModules.length zb2),(.slice zb3 zE.fChannels.length zb4),(.slice zb5 zE.fSwitches.length zb6),(.slice zb7 zE.fLinks.length zb8),(.slice zb9 zE.fVLs.length zba),(.slice zbb zE.fHealth.length zbc),(.slice zbd zE.fCauses.length zbe),(.slice zbf zE.fVersions.length zbg)]),(.slice z2l zb.length z2m)]) (pre:=[]) (env:=[(0,(.agg #[(.slice zb1 zE.fModules.length zb2),(.slice zb3 zE.fChannels.length zb4),(.slice zb5 zE.fSwitches.length zb6),(.slice zb7 zE.fLinks.length zb8),(.slice zb9 zE.fVLs.length zba),(.slice zbb zE.fHealth.length zbc),(.slice zbd zE.fCauses.length zbe),(.slice zbf zE.fVersions.length zbg)])),(1,(.slice z2l zb.length z2m))]) Try.func24 rfl Try.ntmps24 rfl (Hp.nil w₀ _) rfl ?_
 refine WC.b (WC.a ?_)
 refine WL.new (dd:=2) rfl rfl rfl (y25 (cs:=[(.slice zb1 zE.fModules.length zb2),(.slice zb3 zE.fChannels.length zb4),(.slice zb5 zE.fSwitches.length zb6),(.slice zb7 zE.fLinks.length zb8),(.slice zb9 zE.fVLs.length zba),(.slice zbb zE.fHealth.length zbc),(.slice zbd zE.fCauses.length zbe),(.slice zbf zE.fVersions.length zbg)]) rfl rfl) ?_
 intro z7m _
 refine WL.pu rfl (WL.nil (WX.a ?_))
 obtain ⟨z7l,ztq,h⟩:=y2r h
 refine WC.y2b ((z7l = some r)) ([(1,(.slice z2l zb.length z2m))]) ([]) ?_ ?_
 ·skip
  refine WC.b (WC.a (WL.pu rfl ?_))
  refine WL.a (d:=8) rfl rfl rfl (yz Try.underlying33 rfl) ?_
  refine WL.pu rfl (WL.nil (WX.a (WC.block ?_)))
  refine WC.y3N (fun (zbh : Nat) (zg : Int)=>(y1v zb zE z7l zbh zg = some r)) (fun (zbh : Nat) (zg : Int)=>[(1,(.slice z2l zb.length z2m)),(2,(.pointer (some ⟨z7m,0,none⟩))),(7,(.slice z2l zb.length z2m)),(8,(.int .i64 ((zb.length : Nat) : Int))),(9,(.int .i64 zg))]) (fun (zbh : Nat) (zg : Int)=>[stb z7m 31 [(.slice zb1 zE.fModules.length zb2),(.slice zb3 zE.fChannels.length zb4),(.slice zb5 zE.fSwitches.length zb6),(.slice zb7 zE.fLinks.length zb8),(.slice zb9 zE.fVLs.length zba),(.slice zbb zE.fHealth.length zbc),(.slice zbd zE.fCauses.length zbe),(.slice zbf zE.fVersions.length zbg)]]) (fun (zbh : Nat) (zg : Int)=>zbh) ⟨yP,0⟩ h (.cons rfl (.cons rfl (.cons rfl (.cons rfl (.cons rfl .nil))))) (.cons .here .nil) ?_
  rintro zbh zg h
  obtain ⟨zic,rfl⟩:=y4V h
  rw [y1v] at h
  refine WC.b (WC.a (WL.pu rfl (WL.nil (WX.a (WC.b ?_)))))
  refine WC.cond rfl (fun zid=>?_) (fun zid=>?_)
  ·replace h:=yg h zid
   refine WC.skip (WX.a (WC.b (WC.block (WC.b ?_))))
   obtain ⟨ztr,h⟩:=ye h
   refine WC.a (WL.pu rfl ?_)
   refine WL.znth (dd:=12) rfl rfl (Z:=Z) (Pr:=(fun r x=>r = e53 x)) y2u rfl rfl zn5 ztr ?_
   rintro zBH zBI zts zBJ rfl
   refine WL.a (d:=13) rfl rfl rfl (yu y6X rfl (y3H hz.pv zts) rfl) ?_
   refine WL.new (dd:=6) rfl rfl rfl (y2m (cs:=[(.int .i64 0),(.int .i64 0),(.int .i64 0)]) y6u rfl) ?_
   intro ze5 _
   refine WL.pu rfl ?_
   refine WL.y10 rfl rfl (y1W y6Y rfl rfl rfl .here rfl rfl rfl) ?_
   refine WL.nil (WX.a (WC.b ?_))
   obtain ⟨ztt,h⟩:=ye h
   refine WC.yV (fun i=>[].contains i) [] rfl ?_
   refine WD.a (i:=0) (d:=14) (by kernel_rfl) rfl z2 z3 rfl rfl rfl (fun _=>ya y3X rfl rfl) ?_
   refine WD.e (i:=1) (d:=15) (by kernel_rfl) rfl z2 z3 rfl rfl rfl (yb yl rfl (yd .here rfl)) ?_
   refine WD.a (i:=2) (d:=16) (by kernel_rfl) rfl z2 z3 rfl rfl rfl (fun _=>y39 rfl rfl) ?_
   refine WD.a (i:=3) (d:=17) (by kernel_rfl) rfl z2 z3 rfl rfl rfl (fun _=>q_m rfl) ?_
   refine WD.mid (fuel':=38) [(1,(.slice z2l zb.length z2m)),(2,(.pointer (some ⟨z7m,0,none⟩))),(7,(.slice z2l zb.length z2m)),(8,(.int .i64 ((zb.length : Nat) : Int))),(9,(.int .i64 zg)),(6,(.pointer (some ⟨ze5,0,none⟩))),(5,(.int .i64 zg)),(17,(.bool (decide (((nth zb zg).fTime) < 0)))),(21,(.bool ((decide (((nth zb zg).fTime) < 0)) || (decide (((nth zb zg).fTime) > 536870912)))))] (y1z 46 [7,6,5,4,3,2,1,0]) ?_ (fun zn6=>?_)
   rotate_left
   ·rcases Bool.eq_false_or_eq_true (decide (((nth zb zg).fTime) < 0)) with hb' | hb'
    ·have zie:=hb'; clear hb'
     refine WD.pin (i:=17) rfl zie ?_
     refine WD.b (i:=4) (d:=18) (by kernel_rfl) rfl z2 z3 rfl rfl rfl ?_
     refine WD.b (i:=5) (d:=19) (by kernel_rfl) rfl z2 z3 rfl rfl rfl ?_
     refine WD.b (i:=6) (d:=20) (by kernel_rfl) rfl z2 z3 rfl rfl rfl ?_
     refine WD.a (i:=7) (d:=21) (by kernel_rfl) rfl z2 z3 rfl rfl rfl (fun _=>y1s rfl rfl) ?_
     refine WD.yN (.cons .here (.cons .here .nil)) ?_ zn6
     exact (.cons rfl (.cons rfl (.cons rfl (.cons rfl (.cons rfl (.cons rfl (.cons rfl (.cons (zi (Eq.symm zie)) (.cons (zi (y20 zie)) .nil)))))))))
    ·have zif:=hb'; clear hb'
     refine WD.pin (i:=17) rfl zif ?_
     refine WD.a (i:=4) (d:=18) (by kernel_rfl) rfl z2 z3 rfl rfl rfl (fun _=>ya y3X rfl rfl) ?_
     refine WD.e (i:=5) (d:=19) (by kernel_rfl) rfl z2 z3 rfl rfl rfl (yb yl rfl (yd .here rfl)) ?_
     refine WD.a (i:=6) (d:=20) (by kernel_rfl) rfl z2 z3 rfl rfl rfl (fun _=>y3t rfl rfl) ?_
     refine WD.a (i:=7) (d:=21) (by kernel_rfl) rfl z2 z3 rfl rfl rfl (fun _=>y1t rfl rfl) ?_
     refine WD.yN (.cons .here (.cons .here .nil)) ?_ zn6
     exact (.cons rfl (.cons rfl (.cons rfl (.cons rfl (.cons rfl (.cons rfl (.cons rfl (.cons (zi (Eq.symm zif)) (.cons (zi (y21 zif)) .nil)))))))))
   refine WD.d #[true,true,true,true,true,true,true,true,false,false,false,false,false,false,false,false,false,false,false,false,false,false,false,false,false,false,false,false,false,false,false,false,false,false,false,false,false,false,false,false,false,false,false,false,false,false] (by kernel_rfl) ?_
   refine WD.a (i:=8) (d:=22) (by kernel_rfl) rfl z2 z3 rfl rfl rfl (fun _=>q_m rfl) ?_
   refine WD.mid (fuel':=33) [(1,(.slice z2l zb.length z2m)),(2,(.pointer (some ⟨z7m,0,none⟩))),(7,(.slice z2l zb.length z2m)),(8,(.int .i64 ((zb.length : Nat) : Int))),(9,(.int .i64 zg)),(6,(.pointer (some ⟨ze5,0,none⟩))),(5,(.int .i64 zg)),(22,(.bool ((decide (((nth zb zg).fTime) < 0)) || (decide (((nth zb zg).fTime) > 536870912))))),(26,(.bool (((decide (((nth zb zg).fTime) < 0)) || (decide (((nth zb zg).fTime) > 536870912))) || (decide (((nth zb zg).fVL) < 0)))))] (y1z 46 [12,11,10,9,8,7,6,5,4,3,2,1,0]) ?_ (fun zn7=>?_)
   rotate_left
   ·rcases Bool.eq_false_or_eq_true ((decide (((nth zb zg).fTime) < 0)) || (decide (((nth zb zg).fTime) > 536870912))) with hb' | hb'
    ·have zig:=hb'; clear hb'
     refine WD.pin (i:=22) rfl zig ?_
     refine WD.b (i:=9) (d:=23) (by kernel_rfl) rfl z2 z3 rfl rfl rfl ?_
     refine WD.b (i:=10) (d:=24) (by kernel_rfl) rfl z2 z3 rfl rfl rfl ?_
     refine WD.b (i:=11) (d:=25) (by kernel_rfl) rfl z2 z3 rfl rfl rfl ?_
     refine WD.a (i:=12) (d:=26) (by kernel_rfl) rfl z2 z3 rfl rfl rfl (fun _=>y1s rfl rfl) ?_
     refine WD.yN (.cons .here (.cons .here .nil)) ?_ zn7
     exact (.cons rfl (.cons rfl (.cons rfl (.cons rfl (.cons rfl (.cons rfl (.cons rfl (.cons (zi (Eq.symm zig)) (.cons (zi (y20 zig)) .nil)))))))))
    ·have zih:=hb'; clear hb'
     refine WD.pin (i:=22) rfl zih ?_
     refine WD.a (i:=9) (d:=23) (by kernel_rfl) rfl z2 z3 rfl rfl rfl (fun _=>ya y4M rfl rfl) ?_
     refine WD.e (i:=10) (d:=24) (by kernel_rfl) rfl z2 z3 rfl rfl rfl (yb yl rfl (yd .here rfl)) ?_
     refine WD.a (i:=11) (d:=25) (by kernel_rfl) rfl z2 z3 rfl rfl rfl (fun _=>y39 rfl rfl) ?_
     refine WD.a (i:=12) (d:=26) (by kernel_rfl) rfl z2 z3 rfl rfl rfl (fun _=>y1t rfl rfl) ?_
     refine WD.yN (.cons .here (.cons .here .nil)) ?_ zn7
     exact (.cons rfl (.cons rfl (.cons rfl (.cons rfl (.cons rfl (.cons rfl (.cons rfl (.cons (zi (Eq.symm zih)) (.cons (zi (y21 zih)) .nil)))))))))
   refine WD.d #[true,true,true,true,true,true,true,true,true,true,true,true,true,false,false,false,false,false,false,false,false,false,false,false,false,false,false,false,false,false,false,false,false,false,false,false,false,false,false,false,false,false,false,false,false,false] (by kernel_rfl) ?_
   refine WD.a (i:=13) (d:=27) (by kernel_rfl) rfl z2 z3 rfl rfl rfl (fun _=>q_m rfl) ?_
   refine WD.mid (fuel':=25) [(1,(.slice z2l zb.length z2m)),(2,(.pointer (some ⟨z7m,0,none⟩))),(7,(.slice z2l zb.length z2m)),(8,(.int .i64 ((zb.length : Nat) : Int))),(9,(.int .i64 zg)),(6,(.pointer (some ⟨ze5,0,none⟩))),(5,(.int .i64 zg)),(27,(.bool (((decide (((nth zb zg).fTime) < 0)) || (decide (((nth zb zg).fTime) > 536870912))) || (decide (((nth zb zg).fVL) < 0))))),(34,(.bool ((((decide (((nth zb zg).fTime) < 0)) || (decide (((nth zb zg).fTime) > 536870912))) || (decide (((nth zb zg).fVL) < 0))) || (decide (((nth zb zg).fVL) ≥ ((zE.fVLs.length : Nat) : Int))))))] (y1z 46 [20,19,18,17,16,15,14,13,12,11,10,9,8,7,6,5,4,3,2,1,0]) ?_ (fun zn8=>?_)
   rotate_left
   ·rcases Bool.eq_false_or_eq_true (((decide (((nth zb zg).fTime) < 0)) || (decide (((nth zb zg).fTime) > 536870912))) || (decide (((nth zb zg).fVL) < 0))) with hb' | hb'
    ·have zii:=hb'; clear hb'
     refine WD.pin (i:=27) rfl zii ?_
     refine WD.b (i:=14) (d:=28) (by kernel_rfl) rfl z2 z3 rfl rfl rfl ?_
     refine WD.b (i:=15) (d:=29) (by kernel_rfl) rfl z2 z3 rfl rfl rfl ?_
     refine WD.b (i:=16) (d:=30) (by kernel_rfl) rfl z2 z3 rfl rfl rfl ?_
     refine WD.b (i:=17) (d:=31) (by kernel_rfl) rfl z2 z3 rfl rfl rfl ?_
     refine WD.b (i:=18) (d:=32) (by kernel_rfl) rfl z2 z3 rfl rfl rfl ?_
     refine WD.b (i:=19) (d:=33) (by kernel_rfl) rfl z2 z3 rfl rfl rfl ?_
     refine WD.a (i:=20) (d:=34) (by kernel_rfl) rfl z2 z3 rfl rfl rfl (fun _=>y1s rfl rfl) ?_
     refine WD.yN (.cons .here (.cons .here .nil)) ?_ zn8
     exact (.cons rfl (.cons rfl (.cons rfl (.cons rfl (.cons rfl (.cons rfl (.cons rfl (.cons (zi (Eq.symm zii)) (.cons (zi (y20 zii)) .nil)))))))))
    ·have zij:=hb'; clear hb'
     refine WD.pin (i:=27) rfl zij ?_
     refine WD.a (i:=14) (d:=28) (by kernel_rfl) rfl z2 z3 rfl rfl rfl (fun _=>ya y4M rfl rfl) ?_
     refine WD.e (i:=15) (d:=29) (by kernel_rfl) rfl z2 z3 rfl rfl rfl (yb yl rfl (yd .here rfl)) ?_
     refine WD.a (i:=16) (d:=30) (by kernel_rfl) rfl z2 z3 rfl rfl rfl (fun _=>ya y5i rfl rfl) ?_
     refine WD.e (i:=17) (d:=31) (by kernel_rfl) rfl z2 z3 rfl rfl rfl (yb y5j rfl (yd .h1 rfl)) ?_
     refine WD.a (i:=18) (d:=32) (by kernel_rfl) rfl z2 z3 rfl rfl rfl (fun _=>yz Try.underlying26 rfl) ?_
     refine WD.a (i:=19) (d:=33) (by kernel_rfl) rfl z2 z3 rfl rfl rfl (fun _=>q_geq rfl rfl) ?_
     refine WD.a (i:=20) (d:=34) (by kernel_rfl) rfl z2 z3 rfl rfl rfl (fun _=>y1t rfl rfl) ?_
     refine WD.yN (.cons .here (.cons .here .nil)) ?_ zn8
     exact (.cons rfl (.cons rfl (.cons rfl (.cons rfl (.cons rfl (.cons rfl (.cons rfl (.cons (zi (Eq.symm zij)) (.cons (zi (y21 zij)) .nil)))))))))
   refine WD.d #[true,true,true,true,true,true,true,true,true,true,true,true,true,true,true,true,true,true,true,true,true,false,false,false,false,false,false,false,false,false,false,false,false,false,false,false,false,false,false,false,false,false,false,false,false,false] (by kernel_rfl) ?_
   refine WD.a (i:=21) (d:=35) (by kernel_rfl) rfl z2 z3 rfl rfl rfl (fun _=>q_m rfl) ?_
   refine WD.mid (fuel':=20) [(1,(.slice z2l zb.length z2m)),(2,(.pointer (some ⟨z7m,0,none⟩))),(7,(.slice z2l zb.length z2m)),(8,(.int .i64 ((zb.length : Nat) : Int))),(9,(.int .i64 zg)),(6,(.pointer (some ⟨ze5,0,none⟩))),(5,(.int .i64 zg)),(35,(.bool ((((decide (((nth zb zg).fTime) < 0)) || (decide (((nth zb zg).fTime) > 536870912))) || (decide (((nth zb zg).fVL) < 0))) || (decide (((nth zb zg).fVL) ≥ ((zE.fVLs.length : Nat) : Int)))))),(39,(.bool (((((decide (((nth zb zg).fTime) < 0)) || (decide (((nth zb zg).fTime) > 536870912))) || (decide (((nth zb zg).fVL) < 0))) || (decide (((nth zb zg).fVL) ≥ ((zE.fVLs.length : Nat) : Int)))) || (decide (((nth zb zg).fSize) < 1)))))] (y1z 46 [25,24,23,22,21,20,19,18,17,16,15,14,13,12,11,10,9,8,7,6,5,4,3,2,1,0]) ?_ (fun zn9=>?_)
   rotate_left
   ·rcases Bool.eq_false_or_eq_true ((((decide (((nth zb zg).fTime) < 0)) || (decide (((nth zb zg).fTime) > 536870912))) || (decide (((nth zb zg).fVL) < 0))) || (decide (((nth zb zg).fVL) ≥ ((zE.fVLs.length : Nat) : Int)))) with hb' | hb'
    ·have zik:=hb'; clear hb'
     refine WD.pin (i:=35) rfl zik ?_
     refine WD.b (i:=22) (d:=36) (by kernel_rfl) rfl z2 z3 rfl rfl rfl ?_
     refine WD.b (i:=23) (d:=37) (by kernel_rfl) rfl z2 z3 rfl rfl rfl ?_
     refine WD.b (i:=24) (d:=38) (by kernel_rfl) rfl z2 z3 rfl rfl rfl ?_
     refine WD.a (i:=25) (d:=39) (by kernel_rfl) rfl z2 z3 rfl rfl rfl (fun _=>y1s rfl rfl) ?_
     refine WD.yN (.cons .here (.cons .here .nil)) ?_ zn9
     exact (.cons rfl (.cons rfl (.cons rfl (.cons rfl (.cons rfl (.cons rfl (.cons rfl (.cons (zi (Eq.symm zik)) (.cons (zi (y20 zik)) .nil)))))))))
    ·have zil:=hb'; clear hb'
     refine WD.pin (i:=35) rfl zil ?_
     refine WD.a (i:=22) (d:=36) (by kernel_rfl) rfl z2 z3 rfl rfl rfl (fun _=>ya y5o rfl rfl) ?_
     refine WD.e (i:=23) (d:=37) (by kernel_rfl) rfl z2 z3 rfl rfl rfl (yb yl rfl (yd .here rfl)) ?_
     refine WD.a (i:=24) (d:=38) (by kernel_rfl) rfl z2 z3 rfl rfl rfl (fun _=>y39 rfl rfl) ?_
     refine WD.a (i:=25) (d:=39) (by kernel_rfl) rfl z2 z3 rfl rfl rfl (fun _=>y1t rfl rfl) ?_
     refine WD.yN (.cons .here (.cons .here .nil)) ?_ zn9
     exact (.cons rfl (.cons rfl (.cons rfl (.cons rfl (.cons rfl (.cons rfl (.cons rfl (.cons (zi (Eq.symm zil)) (.cons (zi (y21 zil)) .nil)))))))))
   refine WD.d #[true,true,true,true,true,true,true,true,true,true,true,true,true,true,true,true,true,true,true,true,true,true,true,true,true,true,false,false,false,false,false,false,false,false,false,false,false,false,false,false,false,false,false,false,false,false] (by kernel_rfl) ?_
   refine WD.a (i:=26) (d:=40) (by kernel_rfl) rfl z2 z3 rfl rfl rfl (fun _=>q_m rfl) ?_
   refine WD.mid (fuel':=15) [(1,(.slice z2l zb.length z2m)),(2,(.pointer (some ⟨z7m,0,none⟩))),(7,(.slice z2l zb.length z2m)),(8,(.int .i64 ((zb.length : Nat) : Int))),(9,(.int .i64 zg)),(6,(.pointer (some ⟨ze5,0,none⟩))),(5,(.int .i64 zg)),(40,(.bool (((((decide (((nth zb zg).fTime) < 0)) || (decide (((nth zb zg).fTime) > 536870912))) || (decide (((nth zb zg).fVL) < 0))) || (decide (((nth zb zg).fVL) ≥ ((zE.fVLs.length : Nat) : Int)))) || (decide (((nth zb zg).fSize) < 1))))),(44,(.bool ((((((decide (((nth zb zg).fTime) < 0)) || (decide (((nth zb zg).fTime) > 536870912))) || (decide (((nth zb zg).fVL) < 0))) || (decide (((nth zb zg).fVL) ≥ ((zE.fVLs.length : Nat) : Int)))) || (decide (((nth zb zg).fSize) < 1))) || (decide (((nth zb zg).fSize) > 72)))))] (y1z 46 [30,29,28,27,26,25,24,23,22,21,20,19,18,17,16,15,14,13,12,11,10,9,8,7,6,5,4,3,2,1,0]) ?_ (fun zna=>?_)
   rotate_left
   ·rcases Bool.eq_false_or_eq_true (((((decide (((nth zb zg).fTime) < 0)) || (decide (((nth zb zg).fTime) > 536870912))) || (decide (((nth zb zg).fVL) < 0))) || (decide (((nth zb zg).fVL) ≥ ((zE.fVLs.length : Nat) : Int)))) || (decide (((nth zb zg).fSize) < 1))) with hb' | hb'
    ·have zim:=hb'; clear hb'
     refine WD.pin (i:=40) rfl zim ?_
     refine WD.b (i:=27) (d:=41) (by kernel_rfl) rfl z2 z3 rfl rfl rfl ?_
     refine WD.b (i:=28) (d:=42) (by kernel_rfl) rfl z2 z3 rfl rfl rfl ?_
     refine WD.b (i:=29) (d:=43) (by kernel_rfl) rfl z2 z3 rfl rfl rfl ?_
     refine WD.a (i:=30) (d:=44) (by kernel_rfl) rfl z2 z3 rfl rfl rfl (fun _=>y1s rfl rfl) ?_
     refine WD.yN (.cons .here (.cons .here .nil)) ?_ zna
     exact (.cons rfl (.cons rfl (.cons rfl (.cons rfl (.cons rfl (.cons rfl (.cons rfl (.cons (zi (Eq.symm zim)) (.cons (zi (y20 zim)) .nil)))))))))
    ·have zin:=hb'; clear hb'
     refine WD.pin (i:=40) rfl zin ?_
     refine WD.a (i:=27) (d:=41) (by kernel_rfl) rfl z2 z3 rfl rfl rfl (fun _=>ya y5o rfl rfl) ?_
     refine WD.e (i:=28) (d:=42) (by kernel_rfl) rfl z2 z3 rfl rfl rfl (yb yl rfl (yd .here rfl)) ?_
     refine WD.a (i:=29) (d:=43) (by kernel_rfl) rfl z2 z3 rfl rfl rfl (fun _=>y3t rfl rfl) ?_
     refine WD.a (i:=30) (d:=44) (by kernel_rfl) rfl z2 z3 rfl rfl rfl (fun _=>y1t rfl rfl) ?_
     refine WD.yN (.cons .here (.cons .here .nil)) ?_ zna
     exact (.cons rfl (.cons rfl (.cons rfl (.cons rfl (.cons rfl (.cons rfl (.cons rfl (.cons (zi (Eq.symm zin)) (.cons (zi (y21 zin)) .nil)))))))))
   refine WD.d #[true,true,true,true,true,true,true,true,true,true,true,true,true,true,true,true,true,true,true,true,true,true,true,true,true,true,true,true,true,true,true,false,false,false,false,false,false,false,false,false,false,false,false,false,false,false] (by kernel_rfl) ?_
   refine WD.a (i:=31) (d:=45) (by kernel_rfl) rfl z2 z3 rfl rfl rfl (fun _=>q_m rfl) ?_
   refine WD.mid (fuel':=0) [(1,(.slice z2l zb.length z2m)),(2,(.pointer (some ⟨z7m,0,none⟩))),(7,(.slice z2l zb.length z2m)),(8,(.int .i64 ((zb.length : Nat) : Int))),(9,(.int .i64 zg)),(45,(.bool ((((((decide (((nth zb zg).fTime) < 0)) || (decide (((nth zb zg).fTime) > 536870912))) || (decide (((nth zb zg).fVL) < 0))) || (decide (((nth zb zg).fVL) ≥ ((zE.fVLs.length : Nat) : Int)))) || (decide (((nth zb zg).fSize) < 1))) || (decide (((nth zb zg).fSize) > 72))))),(59,(.bool (((((((decide (((nth zb zg).fTime) < 0)) || (decide (((nth zb zg).fTime) > 536870912))) || (decide (((nth zb zg).fVL) < 0))) || (decide (((nth zb zg).fVL) ≥ ((zE.fVLs.length : Nat) : Int)))) || (decide (((nth zb zg).fSize) < 1))) || (decide (((nth zb zg).fSize) > 72))) || ((decide (zg > 0)) && (decide (((nth zb (i64 (zg - 1))).fTime) > ((nth zb zg).fTime)))))))] (y1z 46 [45,44,43,42,41,40,39,38,37,36,35,34,33,32,31,30,29,28,27,26,25,24,23,22,21,20,19,18,17,16,15,14,13,12,11,10,9,8,7,6,5,4,3,2,1,0]) ?_ (fun znb=>?_)
   rotate_left
   ·rcases Bool.eq_false_or_eq_true ((((((decide (((nth zb zg).fTime) < 0)) || (decide (((nth zb zg).fTime) > 536870912))) || (decide (((nth zb zg).fVL) < 0))) || (decide (((nth zb zg).fVL) ≥ ((zE.fVLs.length : Nat) : Int)))) || (decide (((nth zb zg).fSize) < 1))) || (decide (((nth zb zg).fSize) > 72))) with hb' | hb'
    ·have zio:=hb'; clear hb'
     refine WD.pin (i:=45) rfl zio ?_
     refine WD.b (i:=32) (d:=46) (by kernel_rfl) rfl z2 z3 rfl rfl rfl ?_
     refine WD.b (i:=33) (d:=47) (by kernel_rfl) rfl z2 z3 rfl rfl rfl ?_
     refine WD.b (i:=34) (d:=48) (by kernel_rfl) rfl z2 z3 rfl rfl rfl ?_
     refine WD.b (i:=35) (d:=49) (by kernel_rfl) rfl z2 z3 rfl rfl rfl ?_
     refine WD.b (i:=36) (d:=50) (by kernel_rfl) rfl z2 z3 rfl rfl rfl ?_
     refine WD.b (i:=37) (d:=51) (by kernel_rfl) rfl z2 z3 rfl rfl rfl ?_
     refine WD.b (i:=38) (d:=52) (by kernel_rfl) rfl z2 z3 rfl rfl rfl ?_
     refine WD.b (i:=39) (d:=53) (by kernel_rfl) rfl z2 z3 rfl rfl rfl ?_
     refine WD.b (i:=40) (d:=54) (by kernel_rfl) rfl z2 z3 rfl rfl rfl ?_
     refine WD.b (i:=41) (d:=55) (by kernel_rfl) rfl z2 z3 rfl rfl rfl ?_
     refine WD.b (i:=42) (d:=56) (by kernel_rfl) rfl z2 z3 rfl rfl rfl ?_
     refine WD.b (i:=43) (d:=57) (by kernel_rfl) rfl z2 z3 rfl rfl rfl ?_
     refine WD.b (i:=44) (d:=58) (by kernel_rfl) rfl z2 z3 rfl rfl rfl ?_
     refine WD.a (i:=45) (d:=59) (by kernel_rfl) rfl z2 z3 rfl rfl rfl (fun _=>y1s rfl rfl) ?_
     refine WD.yN (.cons .here (.cons .here .nil)) ?_ znb
     exact (.cons rfl (.cons rfl (.cons rfl (.cons rfl (.cons rfl (.cons (zi (Eq.symm zio)) (.cons (zi (y20 zio)) .nil)))))))
    ·have zfH:=hb'; clear hb'
     have ztu:=ztt zfH
     refine WD.pin (i:=45) rfl zfH ?_
     refine WD.a (i:=32) (d:=46) (by kernel_rfl) rfl z2 z3 rfl rfl rfl (fun _=>q_m rfl) ?_
     refine WD.a (i:=33) (d:=47) (by kernel_rfl) rfl z2 z3 rfl rfl rfl (fun _=>y3t rfl rfl) ?_
     refine WD.a (i:=34) (d:=48) (by kernel_rfl) rfl z2 z3 rfl rfl rfl (fun _=>q_m rfl) ?_
     refine WD.mid (fuel':=1) [(1,(.slice z2l zb.length z2m)),(2,(.pointer (some ⟨z7m,0,none⟩))),(7,(.slice z2l zb.length z2m)),(8,(.int .i64 ((zb.length : Nat) : Int))),(9,(.int .i64 zg)),(45,(.bool false)),(48,(.bool (decide (zg > 0)))),(58,(.bool ((decide (zg > 0)) && (decide (((nth zb (i64 (zg - 1))).fTime) > ((nth zb zg).fTime))))))] (y1z 46 [44,43,42,41,40,39,38,37,36,35,34,33,32,31,30,29,28,27,26,25,24,23,22,21,20,19,18,17,16,15,14,13,12,11,10,9,8,7,6,5,4,3,2,1,0]) ?_ (fun znc=>?_)
     rotate_left
     ·rcases Bool.eq_false_or_eq_true (decide (zg > 0)) with hb' | hb'
      ·have zfI:=hb'; clear hb'
       have ztv:=ztu zfI
       refine WD.pin (i:=48) rfl zfI ?_
       refine WD.a (i:=35) (d:=49) (by kernel_rfl) rfl z2 z3 rfl rfl rfl (fun _=>q_m rfl) ?_
       refine WD.a (i:=36) (d:=50) (by kernel_rfl) rfl z2 z3 rfl rfl rfl (fun _=>q_m rfl) ?_
       refine WD.a (i:=37) (d:=51) (by kernel_rfl) rfl z2 z3 rfl rfl rfl (fun _=>y4y rfl rfl rfl) ?_
       refine WD.znth (j:=38) (dd:=52) (by kernel_rfl) rfl z2 z3 rfl rfl (Z:=Z) (Pr:=(fun r x=>r = e53 x)) y2u rfl rfl zn5 ztv ?_
       rintro zBK zBL ztw zBM rfl
       refine WD.a (i:=39) (d:=53) (by kernel_rfl) rfl z2 z3 rfl rfl rfl (fun _=>ya y3X rfl rfl) ?_
       refine WD.e (i:=40) (d:=54) (by kernel_rfl) rfl z2 z3 rfl rfl rfl (yb yl rfl (y22 hz.pv ztw rfl)) ?_
       refine WD.a (i:=41) (d:=55) (by kernel_rfl) rfl z2 z3 rfl rfl rfl (fun _=>ya y3X rfl rfl) ?_
       refine WD.e (i:=42) (d:=56) (by kernel_rfl) rfl z2 z3 rfl rfl rfl (yb yl rfl (yd .here rfl)) ?_
       refine WD.a (i:=43) (d:=57) (by kernel_rfl) rfl z2 z3 rfl rfl rfl (fun _=>y3t rfl rfl) ?_
       refine WD.a (i:=44) (d:=58) (by kernel_rfl) rfl z2 z3 rfl rfl rfl (fun _=>y1s rfl rfl) ?_
       refine WD.yN (.cons .here (.cons .here .nil)) ?_ znc
       exact (.cons rfl (.cons rfl (.cons rfl (.cons rfl (.cons rfl (.cons rfl (.cons (zi (Eq.symm zfI)) (.cons (zi (y1d zfI)) .nil))))))))
      ·have ziq:=hb'; clear hb'
       refine WD.pin (i:=48) rfl ziq ?_
       refine WD.b (i:=35) (d:=49) (by kernel_rfl) rfl z2 z3 rfl rfl rfl ?_
       refine WD.b (i:=36) (d:=50) (by kernel_rfl) rfl z2 z3 rfl rfl rfl ?_
       refine WD.b (i:=37) (d:=51) (by kernel_rfl) rfl z2 z3 rfl rfl rfl ?_
       refine WD.b (i:=38) (d:=52) (by kernel_rfl) rfl z2 z3 rfl rfl rfl ?_
       refine WD.b (i:=39) (d:=53) (by kernel_rfl) rfl z2 z3 rfl rfl rfl ?_
       refine WD.b (i:=40) (d:=54) (by kernel_rfl) rfl z2 z3 rfl rfl rfl ?_
       refine WD.b (i:=41) (d:=55) (by kernel_rfl) rfl z2 z3 rfl rfl rfl ?_
       refine WD.b (i:=42) (d:=56) (by kernel_rfl) rfl z2 z3 rfl rfl rfl ?_
       refine WD.b (i:=43) (d:=57) (by kernel_rfl) rfl z2 z3 rfl rfl rfl ?_
       refine WD.a (i:=44) (d:=58) (by kernel_rfl) rfl z2 z3 rfl rfl rfl (fun _=>y1t rfl rfl) ?_
       refine WD.yN (.cons .here (.cons .here .nil)) ?_ znc
       exact (.cons rfl (.cons rfl (.cons rfl (.cons rfl (.cons rfl (.cons rfl (.cons (zi (Eq.symm ziq)) (.cons (zi (y1c ziq)) .nil))))))))
     refine WD.d #[true,true,true,true,true,true,true,true,true,true,true,true,true,true,true,true,true,true,true,true,true,true,true,true,true,true,true,true,true,true,true,true,true,true,true,true,true,true,true,true,true,true,true,true,true,false] (by kernel_rfl) ?_
     refine WD.a (i:=45) (d:=59) (by kernel_rfl) rfl z2 z3 rfl rfl rfl (fun _=>y1t rfl rfl) ?_
     refine WD.yN (.cons .here (.cons .here .nil)) ?_ znb
     exact (.cons rfl (.cons rfl (.cons rfl (.cons rfl (.cons rfl (.cons (zi (Eq.symm zfH)) (.cons (zi (y21 zfH)) .nil)))))))
   refine WD.d #[true,true,true,true,true,true,true,true,true,true,true,true,true,true,true,true,true,true,true,true,true,true,true,true,true,true,true,true,true,true,true,true,true,true,true,true,true,true,true,true,true,true,true,true,true,true] (by kernel_rfl) ?_
   refine WD.done (by kernel_rfl) ?_
   refine WX.a ?_
   refine WC.cond rfl (fun zir=>?_) (fun zir=>?_)
   ·replace h:=yg h zir
    refine WC.b (WC.a (WL.pu rfl (WL.nil (WX.a (WC.ret (WX.yG (WX.yn (WX.yn (WX.yG (WX.yn ?_))))))))))
    obtain rfl:=Option.some.inj h
    refine WX.yj Try.results24 (.tmp rfl .nil) (fun w hw=>?_)
    exact ⟨yL rfl,hw.sub .nil⟩
   ·replace h:=yh h zir
    refine WC.skip (WX.yf (WX.a (WC.a (WL.pu rfl (WL.pu rfl (WL.nil ?_))))))
    exact WX.round (G:=Nat × Int) ⟨zic,(i64 (zg + 1))⟩ h (Nat.lt_succ_self _) (.cons rfl (.cons rfl (.cons rfl (.cons rfl (.cons rfl .nil))))) (.cons .h1 .nil)
  ·replace h:=yh h zid
   refine WC.exit (WX.yk (WX.yk (WX.yC ?_)))
   exact WX.mid (G:=Unit) () h (.cons rfl .nil) .nil
 ·rintro  h
  replace h:=ztq.symm.trans h
  refine WC.b (WC.a (WL.pu rfl ?_))
  refine WL.a (d:=62) rfl rfl rfl (yz Try.underlying33 rfl) ?_
  refine WL.pu rfl (WL.pu rfl (WL.nil (WX.a (WC.ret ?_))))
  obtain rfl:=Option.some.inj h
  refine WX.yj Try.results24 (.tmp rfl .nil) (fun w hw=>?_)
  exact ⟨yL rfl,hw.sub .nil⟩
def y2z (z9c : List Snetwork_event) : Option Int :=
 some ((z9c.length : Nat) : Int)
set_option maxRecDepth 20000 in
theorem y4i (Z : Zp) (zfJ : Option Addr) (zfK : Nat) (z9c : List Snetwork_event) (r : Int)
  (h : y2z z9c = some r) (w₀ : World) (hz : PZ [] w₀ Z)
  (zBN : ZS Z 7 (fun r x=>r = yx x) zfJ zfK z9c) :
  Calls Try.prog 86 #[(.slice zfJ z9c.length zfK)] w₀ fun e w'=>e = .returned (.int .i64 r) ∧ Hp [] w₀ w' []:=by
 unfold y2z at h
 refine Calls.yo (vs:=[(.slice zfJ z9c.length zfK)]) (pre:=[]) (env:=[(0,(.slice zfJ z9c.length zfK))]) Try.func86 rfl Try.ntmps86 rfl (Hp.nil w₀ _) rfl ?_
 refine WC.b (WC.a (WL.pu rfl (WL.nil (WX.a (WC.b (WC.a (WL.pu rfl ?_)))))))
 refine WL.a (d:=4) rfl rfl rfl (yz Try.underlying79 rfl) ?_
 refine WL.pu rfl (WL.nil (WX.a (WC.ret ?_)))
 obtain rfl:=Option.some.inj h
 refine WX.yj Try.results86 (.tmp rfl .nil) (fun w hw=>?_)
 exact ⟨yL rfl,hw.sub .nil⟩
def y3J (z9d : Int) : Option Bool :=
 some (decide (z9d ≠ z9d))
set_option maxRecDepth 20000 in
theorem y53 (Z : Zp)  (z9d : Int) (r : Bool)
  (h : y3J z9d = some r) (w₀ : World) (hz : PZ [] w₀ Z) :
  Calls Try.prog 58 #[(.int .i64 z9d)] w₀ fun e w'=>e = .returned (.bool r) ∧ Hp [] w₀ w' []:=by
 unfold y3J at h
 refine Calls.yo (vs:=[(.int .i64 z9d)]) (pre:=[]) (env:=[(0,(.int .i64 z9d))]) Try.func58 rfl Try.ntmps58 rfl (Hp.nil w₀ _) rfl ?_
 refine WC.b (WC.a (WL.pu rfl (WL.nil (WX.a (WC.b (WC.a (WL.pu rfl (WL.pu rfl (WL.pu rfl (WL.pu rfl (WL.nil (WX.a (WC.ret ?_)))))))))))))
 obtain rfl:=Option.some.inj h
 refine WX.yj Try.results58 (.tmp rfl .nil) (fun w hw=>?_)
 exact ⟨yL rfl,hw.sub .nil⟩
def y1w (z8l : Int) (z8m : Int) : Option Int :=
 (y3J z8l).bind fun znd=>(y3J z8m).bind fun zis=>if znd then if zis then some 0 else some (-1) else if zis then some 1 else if decide (z8l < z8m) then some (-1) else if decide (z8l > z8m) then some 1 else some 0
set_option maxRecDepth 20000 in
theorem y1X (Z : Zp)  (z8l : Int) (z8m : Int) (r : Int)
  (h : y1w z8l z8m = some r) (w₀ : World) (hz : PZ [] w₀ Z) :
  Calls Try.prog 45 #[(.int .i64 z8l),(.int .i64 z8m)] w₀ fun e w'=>e = .returned (.int .i64 r) ∧ Hp [] w₀ w' []:=by
 unfold y1w at h
 refine Calls.yo (vs:=[(.int .i64 z8l),(.int .i64 z8m)]) (pre:=[]) (env:=[(0,(.int .i64 z8l)),(1,(.int .i64 z8m))]) Try.func45 rfl Try.ntmps45 rfl (Hp.nil w₀ _) rfl ?_
 refine WC.b (WC.a (WL.pu rfl (WL.nil (WX.a (WC.b ?_)))))
 obtain ⟨znd,ztx,h⟩:=z8 h
 refine WC.a (WL.pu rfl ?_)
 refine WL.b (dd:=8) rfl rfl rfl (zt (l:=[.tmp 7]) Try.call58 (.cons rfl .nil)) .nil (cc hz .nil fun w pz ho=>y53 _ _ _ ztx w pz ) ?_
 refine WL.pu rfl (WL.nil (WX.a (WC.b ?_)))
 obtain ⟨zis,zty,h⟩:=z8 h
 refine WC.a (WL.pu rfl ?_)
 refine WL.b (dd:=10) rfl rfl rfl (zt (l:=[.tmp 9]) Try.call58 (.cons rfl .nil)) .nil (cc hz .nil fun w pz ho=>y53 _ _ _ zty w pz ) ?_
 refine WL.pu rfl (WL.nil (WX.a (WC.b (WC.b (WC.a (WL.pu rfl (WL.nil (WX.a ?_))))))))
 refine WC.cond rfl (fun zit=>?_) (fun zit=>?_)
 ·replace h:=yg h zit
  refine WC.b (WC.b (WC.a (WL.pu rfl (WL.nil (WX.a ?_)))))
  refine WC.cond rfl (fun ziu=>?_) (fun ziu=>?_)
  ·replace h:=yg h ziu
   refine WC.b (WC.a (WL.pu rfl (WL.nil (WX.a (WC.ret (WX.yn (WX.yn ?_)))))))
   obtain rfl:=Option.some.inj h
   refine WX.yj Try.results45 (.tmp rfl .nil) (fun w hw=>?_)
   exact ⟨yL rfl,hw.sub .nil⟩
  ·replace h:=yh h ziu
   refine WC.skip (WX.a (WC.b (WC.a (WL.pu rfl (WL.nil (WX.a (WC.ret (WX.yn ?_))))))))
   obtain rfl:=Option.some.inj h
   refine WX.yj Try.results45 (.tmp rfl .nil) (fun w hw=>?_)
   exact ⟨yL rfl,hw.sub .nil⟩
 ·replace h:=yh h zit
  refine WC.skip (WX.a (WC.b (WC.b (WC.a (WL.pu rfl (WL.nil (WX.a ?_)))))))
  refine WC.cond rfl (fun ziv=>?_) (fun ziv=>?_)
  ·replace h:=yg h ziv
   refine WC.b (WC.a (WL.pu rfl (WL.nil (WX.a (WC.ret (WX.yn ?_))))))
   obtain rfl:=Option.some.inj h
   refine WX.yj Try.results45 (.tmp rfl .nil) (fun w hw=>?_)
   exact ⟨yL rfl,hw.sub .nil⟩
  ·replace h:=yh h ziv
   refine WC.skip (WX.a (WC.b (WC.b (WC.a (WL.pu rfl (WL.pu rfl (WL.pu rfl (WL.nil (WX.a ?_)))))))))
   refine WC.cond rfl (fun ziw=>?_) (fun ziw=>?_)
   ·replace h:=yg h ziw
    refine WC.b (WC.a (WL.pu rfl (WL.nil (WX.a (WC.ret (WX.yn ?_))))))
    obtain rfl:=Option.some.inj h
    refine WX.yj Try.results45 (.tmp rfl .nil) (fun w hw=>?_)
    exact ⟨yL rfl,hw.sub .nil⟩
   ·replace h:=yh h ziw
    refine WC.skip (WX.a (WC.b (WC.b (WC.a (WL.pu rfl (WL.pu rfl (WL.pu rfl (WL.nil (WX.a ?_)))))))))
    refine WC.cond rfl (fun zix=>?_) (fun zix=>?_)
    ·replace h:=yg h zix
     refine WC.b (WC.a (WL.pu rfl (WL.nil (WX.a (WC.ret (WX.yn ?_))))))
     obtain rfl:=Option.some.inj h
     refine WX.yj Try.results45 (.tmp rfl .nil) (fun w hw=>?_)
     exact ⟨yL rfl,hw.sub .nil⟩
    ·replace h:=yh h zix
     refine WC.skip (WX.a (WC.b (WC.a (WL.pu rfl (WL.nil (WX.a (WC.ret ?_)))))))
     obtain rfl:=Option.some.inj h
     refine WX.yj Try.results45 (.tmp rfl .nil) (fun w hw=>?_)
     exact ⟨yL rfl,hw.sub .nil⟩
def y2Z (z31 : List Int) (z7n : Option Int) : Nat → Int → Option Int
 | 0,_=>none
 | ziy + 1,z3s=>if decide (z3s < ((z31.length : Nat) : Int)) then chk ((0 : Int) ≤ z3s ∧ z3s < ((z31.length : Nat) : Int)) (if decide ((nth z31 z3s) ≠ 0) then some (nth z31 z3s) else y2Z z31 z7n ziy (i64 (z3s + 1))) else z7n
theorem y5M {n : Nat} {z31 : List Int} {z7n : Option Int} {z3s : Int} {r : Int} (h : y2Z z31 z7n n z3s = some r) : ∃ m,n = m + 1:=by
 cases n with
 | zero=>cases h
 | succ m=>exact ⟨m,rfl⟩
def y4j (z31 : List Int) : Option Int :=
 jp0 (some 0) fun z7n=>y2Z z31 z7n yP 0
set_option maxRecDepth 20000 in
theorem y69 (Z : Zp) (ze6 : Option Addr) (ze7 : Nat) (z31 : List Int) (r : Int)
  (h : y4j z31 = some r) (w₀ : World) (hz : PZ [] w₀ Z)
  (ztz : ZS Z 1 (fun r x=>r = e3 x) ze6 ze7 z31) :
  Calls Try.prog 44 #[(.slice ze6 z31.length ze7)] w₀ fun e w'=>e = .returned (.int .i64 r) ∧ Hp [] w₀ w' []:=by
 unfold y4j at h
 refine Calls.yo (vs:=[(.slice ze6 z31.length ze7)]) (pre:=[]) (env:=[(0,(.slice ze6 z31.length ze7))]) Try.func44 rfl Try.ntmps44 rfl (Hp.nil w₀ _) rfl ?_
 refine WC.b (WC.a (WL.pu rfl (WL.nil (WX.a (WC.b (WC.a (WL.pu rfl (WL.nil (WX.a ?_)))))))))
 obtain ⟨z7n,ztA,h⟩:=y2r h
 refine WC.y2b ((z7n = some r)) ([(3,(.int .i64 0))]) ([]) ?_ ?_
 ·skip
  refine WC.b (WC.a (WL.pu rfl ?_))
  refine WL.a (d:=7) rfl rfl rfl (yz Try.underlying56 rfl) ?_
  refine WL.pu rfl (WL.nil (WX.a (WC.block ?_)))
  refine WC.y3N (fun (zbi : Nat) (z3s : Int)=>(y2Z z31 z7n zbi z3s = some r)) (fun (zbi : Nat) (z3s : Int)=>[(3,(.int .i64 0)),(6,(.slice ze6 z31.length ze7)),(7,(.int .i64 ((z31.length : Nat) : Int))),(8,(.int .i64 z3s))]) (fun (zbi : Nat) (z3s : Int)=>[]) (fun (zbi : Nat) (z3s : Int)=>zbi) ⟨yP,0⟩ h (.cons rfl (.cons rfl (.cons rfl (.cons rfl .nil)))) .nil ?_
  rintro zbi z3s h
  obtain ⟨ziy,rfl⟩:=y5M h
  rw [y2Z] at h
  refine WC.b (WC.a (WL.pu rfl (WL.nil (WX.a (WC.b ?_)))))
  refine WC.cond rfl (fun ziz=>?_) (fun ziz=>?_)
  ·replace h:=yg h ziz
   refine WC.skip (WX.a (WC.b (WC.block (WC.b ?_))))
   obtain ⟨ztB,h⟩:=ye h
   refine WC.a ?_
   refine WL.znth (dd:=10) rfl rfl (Z:=Z) (Pr:=(fun r x=>r = e3 x)) y68 rfl rfl ztz ztB ?_
   rintro zBO zBP ztC zBQ rfl
   refine WL.a (d:=11) rfl rfl rfl (yb yl rfl (rd_z hz.pv ztC rfl)) ?_
   refine WL.pu rfl (WL.nil (WX.a (WC.b (WC.a (WL.pu rfl (WL.pu rfl (WL.pu rfl (WL.nil (WX.a ?_)))))))))
   refine WC.cond rfl (fun ziA=>?_) (fun ziA=>?_)
   ·replace h:=yg h ziA
    refine WC.b (WC.a (WL.pu rfl (WL.pu rfl (WL.nil (WX.a (WC.ret (WX.yG (WX.yn (WX.yn (WX.yG (WX.yn ?_)))))))))))
    obtain rfl:=Option.some.inj h
    refine WX.yj Try.results44 (.tmp rfl .nil) (fun w hw=>?_)
    exact ⟨yL rfl,hw.sub .nil⟩
   ·replace h:=yh h ziA
    refine WC.skip (WX.yf (WX.a (WC.a (WL.pu rfl (WL.pu rfl (WL.nil ?_))))))
    exact WX.round (G:=Nat × Int) ⟨ziy,(i64 (z3s + 1))⟩ h (Nat.lt_succ_self _) (.cons rfl (.cons rfl (.cons rfl (.cons rfl .nil)))) .nil
  ·replace h:=yh h ziz
   refine WC.exit (WX.yk (WX.yk (WX.yC ?_)))
   exact WX.mid (G:=Unit) () h (.cons rfl .nil) .nil
 ·rintro  h
  replace h:=ztA.symm.trans h
  refine WC.b (WC.a (WL.pu rfl (WL.pu rfl (WL.nil (WX.a (WC.ret ?_))))))
  obtain rfl:=Option.some.inj h
  refine WX.yj Try.results44 (.tmp rfl .nil) (fun w hw=>?_)
  exact ⟨yL rfl,hw.sub .nil⟩
def y35 (z17 : Snetwork_event) (z18 : Snetwork_event) : Option Int :=
 (y1w z17.fTime z18.fTime).bind fun ziB=>(y1w z17.fIn_ z18.fIn_).bind fun ziC=>(y1w z17.fVl z18.fVl).bind fun ziD=>(y1w z17.fSent z18.fSent).bind fun ziE=>(y4j ([ziB,ziC,ziD,ziE] : List Int)).bind fun zne=>some zne
set_option maxRecDepth 20000 in
theorem y57 (Z : Zp)  (z17 : Snetwork_event) (z18 : Snetwork_event) (r : Int)
  (h : y35 z17 z18 = some r) (w₀ : World) (hz : PZ [] w₀ Z) :
  Calls Try.prog 89 #[(.agg #[(.int .i64 z17.fTime),(.int .i64 z17.fIn_),(.int .i64 z17.fVl),(.int .i64 z17.fSent),(.int .i64 z17.fHop.fNode),(.int .i64 z17.fHop.fNext),(.int .i64 z17.fHop.fLink)]),(.agg #[(.int .i64 z18.fTime),(.int .i64 z18.fIn_),(.int .i64 z18.fVl),(.int .i64 z18.fSent),(.int .i64 z18.fHop.fNode),(.int .i64 z18.fHop.fNext),(.int .i64 z18.fHop.fLink)])] w₀ fun e w'=>e = .returned (.int .i64 r) ∧ Hp [] w₀ w' []:=by
 unfold y35 at h
 refine Calls.yo (vs:=[(.agg #[(.int .i64 z17.fTime),(.int .i64 z17.fIn_),(.int .i64 z17.fVl),(.int .i64 z17.fSent),(.int .i64 z17.fHop.fNode),(.int .i64 z17.fHop.fNext),(.int .i64 z17.fHop.fLink)]),(.agg #[(.int .i64 z18.fTime),(.int .i64 z18.fIn_),(.int .i64 z18.fVl),(.int .i64 z18.fSent),(.int .i64 z18.fHop.fNode),(.int .i64 z18.fHop.fNext),(.int .i64 z18.fHop.fLink)])]) (pre:=[]) (env:=[(0,(.agg #[(.int .i64 z17.fTime),(.int .i64 z17.fIn_),(.int .i64 z17.fVl),(.int .i64 z17.fSent),(.int .i64 z17.fHop.fNode),(.int .i64 z17.fHop.fNext),(.int .i64 z17.fHop.fLink)])),(1,(.agg #[(.int .i64 z18.fTime),(.int .i64 z18.fIn_),(.int .i64 z18.fVl),(.int .i64 z18.fSent),(.int .i64 z18.fHop.fNode),(.int .i64 z18.fHop.fNext),(.int .i64 z18.fHop.fLink)]))]) Try.func89 rfl Try.ntmps89 rfl (Hp.nil w₀ _) rfl ?_
 refine WC.b (WC.a ?_)
 refine WL.new (dd:=2) rfl rfl rfl (y25 (cs:=[(.int .i64 z17.fTime),(.int .i64 z17.fIn_),(.int .i64 z17.fVl),(.int .i64 z17.fSent),(.int .i64 z17.fHop.fNode),(.int .i64 z17.fHop.fNext),(.int .i64 z17.fHop.fLink)]) rfl rfl) ?_
 intro zBR _
 refine WL.new (dd:=3) rfl rfl rfl (y25 (cs:=[(.int .i64 z18.fTime),(.int .i64 z18.fIn_),(.int .i64 z18.fVl),(.int .i64 z18.fSent),(.int .i64 z18.fHop.fNode),(.int .i64 z18.fHop.fNext),(.int .i64 z18.fHop.fLink)]) rfl rfl) ?_
 intro zBS _
 refine WL.pu rfl (WL.nil (WX.a (WC.b ?_)))
 obtain ⟨ziB,ztD,h⟩:=z8 h
 obtain ⟨ziC,ztE,h⟩:=z8 h
 obtain ⟨ziD,ztF,h⟩:=z8 h
 obtain ⟨ziE,ztG,h⟩:=z8 h
 obtain ⟨zne,ztH,h⟩:=z8 h
 refine WC.yV (fun i=>[].contains i) [] rfl ?_
 refine WD.a (i:=0) (d:=5) (by kernel_rfl) rfl z2 z3 rfl rfl rfl (fun _=>ya y5J rfl rfl) ?_
 refine WD.e (i:=1) (d:=6) (by kernel_rfl) rfl z2 z3 rfl rfl rfl (yb yl rfl (yd .h1 rfl)) ?_
 refine WD.a (i:=2) (d:=7) (by kernel_rfl) rfl z2 z3 rfl rfl rfl (fun _=>ya y5J rfl rfl) ?_
 refine WD.e (i:=3) (d:=8) (by kernel_rfl) rfl z2 z3 rfl rfl rfl (yb yl rfl (yd .here rfl)) ?_
 refine WD.c (i:=4) (d:=9) (by kernel_rfl) rfl z2 z3 rfl rfl rfl (zt (l:=[.tmp 6,.tmp 8]) Try.call45 (.cons rfl (.cons rfl .nil))) (cc hz .nil fun w pz ho=>y1X _ _ _ _ ztD w pz ) ?_
 refine WD.a (i:=5) (d:=10) (by kernel_rfl) rfl z2 z3 rfl rfl rfl (fun _=>ya y7E rfl rfl) ?_
 refine WD.e (i:=6) (d:=11) (by kernel_rfl) rfl z2 z3 rfl rfl rfl (yb yl rfl (yd .h1 rfl)) ?_
 refine WD.a (i:=7) (d:=12) (by kernel_rfl) rfl z2 z3 rfl rfl rfl (fun _=>ya y7E rfl rfl) ?_
 refine WD.e (i:=8) (d:=13) (by kernel_rfl) rfl z2 z3 rfl rfl rfl (yb yl rfl (yd .here rfl)) ?_
 refine WD.c (i:=9) (d:=14) (by kernel_rfl) rfl z2 z3 rfl rfl rfl (zt (l:=[.tmp 11,.tmp 13]) Try.call45 (.cons rfl (.cons rfl .nil))) (cc hz .nil fun w pz ho=>y1X _ _ _ _ ztE w pz ) ?_
 refine WD.a (i:=10) (d:=15) (by kernel_rfl) rfl z2 z3 rfl rfl rfl (fun _=>ya y7F rfl rfl) ?_
 refine WD.e (i:=11) (d:=16) (by kernel_rfl) rfl z2 z3 rfl rfl rfl (yb yl rfl (yd .h1 rfl)) ?_
 refine WD.a (i:=12) (d:=17) (by kernel_rfl) rfl z2 z3 rfl rfl rfl (fun _=>ya y7F rfl rfl) ?_
 refine WD.e (i:=13) (d:=18) (by kernel_rfl) rfl z2 z3 rfl rfl rfl (yb yl rfl (yd .here rfl)) ?_
 refine WD.c (i:=14) (d:=19) (by kernel_rfl) rfl z2 z3 rfl rfl rfl (zt (l:=[.tmp 16,.tmp 18]) Try.call45 (.cons rfl (.cons rfl .nil))) (cc hz .nil fun w pz ho=>y1X _ _ _ _ ztF w pz ) ?_
 refine WD.a (i:=15) (d:=20) (by kernel_rfl) rfl z2 z3 rfl rfl rfl (fun _=>ya y4u rfl rfl) ?_
 refine WD.e (i:=16) (d:=21) (by kernel_rfl) rfl z2 z3 rfl rfl rfl (yb yl rfl (yd .h1 rfl)) ?_
 refine WD.a (i:=17) (d:=22) (by kernel_rfl) rfl z2 z3 rfl rfl rfl (fun _=>ya y4u rfl rfl) ?_
 refine WD.e (i:=18) (d:=23) (by kernel_rfl) rfl z2 z3 rfl rfl rfl (yb yl rfl (yd .here rfl)) ?_
 refine WD.c (i:=19) (d:=24) (by kernel_rfl) rfl z2 z3 rfl rfl rfl (zt (l:=[.tmp 21,.tmp 23]) Try.call45 (.cons rfl (.cons rfl .nil))) (cc hz .nil fun w pz ho=>y1X _ _ _ _ ztG w pz ) ?_
 refine WD.new (i:=20) (dd:=25) rfl (by kernel_rfl) rfl rfl rfl (yF (cs:=([ziB,ziC,ziD,ziE] : List Int).flatMap e3) y68 (Eos.parts (l:=[.tmp 9,.tmp 14,.tmp 19,.tmp 24]) (.cons rfl (.cons rfl (.cons rfl (.cons rfl .nil)))) [0,1,2,3]) (fun _=>by kernel_rfl) rfl (by unfold maxLen; omega)) (fun h'=>absurd h' (by decide)) ?_
 intro zBT _
 refine WD.c (i:=21) (d:=26) (by kernel_rfl) rfl z2 z3 rfl rfl rfl (zt (l:=[.tmp 25]) Try.call44 (.cons rfl .nil)) (ccl hz .nil (.cons .here .nil) fun w pz ho la=>y69 _ _ _ _ _ ztH w pz (ZA.row (la _ (.head _) _) (RR.yE (enc:=e3) (fun _=>rfl) _) ⟨w,pz.1⟩)) ?_
 refine WD.a (i:=22) (d:=4) (by kernel_rfl) rfl z2 z3 rfl rfl rfl (fun _=>q_z rfl) ?_
 refine WD.done (by kernel_rfl) ?_
 refine WX.a (WC.ret ?_)
 obtain rfl:=Option.some.inj h
 refine WX.yj Try.results89 (.tmp rfl .nil) (fun w hw=>?_)
 exact ⟨yL rfl,hw.sub .nil⟩
def y26 (z2a : List Snetwork_event) (z3T : Int) (z3U : Int) : Option Bool :=
 chk ((0 : Int) ≤ z3T ∧ z3T < ((z2a.length : Nat) : Int)) (chk ((0 : Int) ≤ z3U ∧ z3U < ((z2a.length : Nat) : Int)) ((y35 (⟨((nth z2a z3T).fTime),((nth z2a z3T).fIn_),((nth z2a z3T).fVl),((nth z2a z3T).fSent),(⟨(((nth z2a z3T).fHop).fNode),(((nth z2a z3T).fHop).fNext),(((nth z2a z3T).fHop).fLink)⟩ : Sapi_Hop)⟩ : Snetwork_event) (⟨((nth z2a z3U).fTime),((nth z2a z3U).fIn_),((nth z2a z3U).fVl),((nth z2a z3U).fSent),(⟨(((nth z2a z3U).fHop).fNode),(((nth z2a z3U).fHop).fNext),(((nth z2a z3U).fHop).fLink)⟩ : Sapi_Hop)⟩ : Snetwork_event)).bind fun znf=>some (decide (znf < 0))))
set_option maxRecDepth 20000 in
theorem y3f (Z : Zp) (zfL : Option Addr) (zfM : Nat) (z2a : List Snetwork_event) (z3T : Int) (z3U : Int) (r : Bool)
  (h : y26 z2a z3T z3U = some r) (w₀ : World) (hz : PZ [] w₀ Z)
  (zng : ZS Z 7 (fun r x=>r = yx x) zfL zfM z2a) :
  Calls Try.prog 87 #[(.slice zfL z2a.length zfM),(.int .i64 z3T),(.int .i64 z3U)] w₀ fun e w'=>e = .returned (.bool r) ∧ Hp [] w₀ w' []:=by
 unfold y26 at h
 refine Calls.yo (vs:=[(.slice zfL z2a.length zfM),(.int .i64 z3T),(.int .i64 z3U)]) (pre:=[]) (env:=[(0,(.slice zfL z2a.length zfM)),(1,(.int .i64 z3T)),(2,(.int .i64 z3U))]) Try.func87 rfl Try.ntmps87 rfl (Hp.nil w₀ _) rfl ?_
 refine WC.b (WC.a (WL.pu rfl (WL.nil (WX.a (WC.b ?_)))))
 obtain ⟨ztI,h⟩:=ye h
 obtain ⟨ztJ,h⟩:=ye h
 obtain ⟨znf,ztK,h⟩:=z8 h
 refine WC.yV (fun i=>[].contains i) [] rfl ?_
 refine WD.a (i:=0) (d:=7) (by kernel_rfl) rfl z2 z3 rfl rfl rfl (fun _=>q_m rfl) ?_
 refine WD.a (i:=1) (d:=8) (by kernel_rfl) rfl z2 z3 rfl rfl rfl (fun _=>q_m rfl) ?_
 refine WD.znth (j:=2) (dd:=9) (by kernel_rfl) rfl z2 z3 rfl rfl (Z:=Z) (Pr:=(fun r x=>r = yx x)) y42 rfl rfl zng ztI ?_
 rintro zBU zBV ztL zBW rfl
 refine WD.e (i:=3) (d:=10) (by kernel_rfl) rfl z2 z3 rfl rfl rfl (yu zam rfl (y3H hz.pv ztL) rfl) ?_
 refine WD.a (i:=4) (d:=11) (by kernel_rfl) rfl z2 z3 rfl rfl rfl (fun _=>q_m rfl) ?_
 refine WD.a (i:=5) (d:=12) (by kernel_rfl) rfl z2 z3 rfl rfl rfl (fun _=>q_m rfl) ?_
 refine WD.znth (j:=6) (dd:=13) (by kernel_rfl) rfl z2 z3 rfl rfl (Z:=Z) (Pr:=(fun r x=>r = yx x)) y42 rfl rfl zng ztJ ?_
 rintro zBX zBY ztM zBZ rfl
 refine WD.e (i:=7) (d:=14) (by kernel_rfl) rfl z2 z3 rfl rfl rfl (yu zam rfl (y3H hz.pv ztM) rfl) ?_
 refine WD.c (i:=8) (d:=15) (by kernel_rfl) rfl z2 z3 rfl rfl rfl (zt (l:=[.tmp 10,.tmp 14]) Try.call89 (.cons rfl (.cons rfl .nil))) (cc hz .nil fun w pz ho=>y57 _ _ _ _ ztK w pz ) ?_
 refine WD.a (i:=9) (d:=16) (by kernel_rfl) rfl z2 z3 rfl rfl rfl (fun _=>y39 rfl rfl) ?_
 refine WD.a (i:=10) (d:=6) (by kernel_rfl) rfl z2 z3 rfl rfl rfl (fun _=>q_z rfl) ?_
 refine WD.done (by kernel_rfl) ?_
 refine WX.a (WC.ret ?_)
 obtain rfl:=Option.some.inj h
 refine WX.yj Try.results87 (.tmp rfl .nil) (fun w hw=>?_)
 exact ⟨yL rfl,hw.sub .nil⟩
def y27 (z7 : List Snetwork_event) (zL : Int) (zu : Int) : Option (List Snetwork_event) :=
 chk ((0 : Int) ≤ zu ∧ zu < ((z7.length : Nat) : Int)) (chk ((0 : Int) ≤ zL ∧ zL < ((z7.length : Nat) : Int)) (chk ((0 : Int) ≤ zu ∧ zu < (((z7.set (zL : Int).toNat (⟨((nth z7 zu).fTime),((nth z7 zu).fIn_),((nth z7 zu).fVl),((nth z7 zu).fSent),(⟨(((nth z7 zu).fHop).fNode),(((nth z7 zu).fHop).fNext),(((nth z7 zu).fHop).fLink)⟩ : Sapi_Hop)⟩ : Snetwork_event)).length : Nat) : Int)) (some ((z7.set (zL : Int).toNat (⟨((nth z7 zu).fTime),((nth z7 zu).fIn_),((nth z7 zu).fVl),((nth z7 zu).fSent),(⟨(((nth z7 zu).fHop).fNode),(((nth z7 zu).fHop).fNext),(((nth z7 zu).fHop).fLink)⟩ : Sapi_Hop)⟩ : Snetwork_event)).set (zu : Int).toNat (⟨((nth z7 zL).fTime),((nth z7 zL).fIn_),((nth z7 zL).fVl),((nth z7 zL).fSent),(⟨(((nth z7 zL).fHop).fNode),(((nth z7 zL).fHop).fNext),(((nth z7 zL).fHop).fLink)⟩ : Sapi_Hop)⟩ : Snetwork_event)))))
set_option maxRecDepth 20000 in
theorem y3g (Z : Zp) (z7o : Option Addr) (z4F : Nat) (z7 : List Snetwork_event) (zL : Int) (zu : Int) (r : List Snetwork_event)
  (h : y27 z7 zL zu = some r) (w₀ : World) (hz : PZ (fps [row (.slice z7o z7.length z4F) 113 7 (z7.flatMap yx)]) w₀ Z)
  (hown : Hp (fps [row (.slice z7o z7.length z4F) 113 7 (z7.flatMap yx)]) w₀ w₀ [row (.slice z7o z7.length z4F) 113 7 (z7.flatMap yx)]) :
  Calls Try.prog 88 #[(.slice z7o z7.length z4F),(.int .i64 zL),(.int .i64 zu)] w₀ fun e w'=>e = .returned (.tuple #[]) ∧ (r.length = z7.length) ∧ Hp (fps [row (.slice z7o z7.length z4F) 113 7 (z7.flatMap yx)]) w₀ w' [row (.slice z7o r.length z4F) 113 7 (r.flatMap yx)]:=by
 unfold y27 at h
 refine Calls.yo (vs:=[(.slice z7o z7.length z4F),(.int .i64 zL),(.int .i64 zu)]) (pre:=[row (.slice z7o z7.length z4F) 113 7 (z7.flatMap yx)]) (env:=[(0,(.slice z7o z7.length z4F)),(1,(.int .i64 zL)),(2,(.int .i64 zu))]) Try.func88 rfl Try.ntmps88 rfl (hown) rfl ?_
 obtain ⟨ze8,h⟩:=ye h
 obtain ⟨z60,h⟩:=ye h
 obtain ⟨zbj,h⟩:=ye h
 refine WC.yV (fun i=>[13,15].contains i) [] rfl ?_
 refine WD.a (i:=0) (d:=6) (by kernel_rfl) rfl z2 z3 rfl rfl rfl (fun _=>q_m rfl) ?_
 refine WD.a (i:=1) (d:=7) (by kernel_rfl) rfl z2 z3 rfl rfl rfl (fun _=>q_m rfl) ?_
 refine WD.a (i:=2) (d:=8) (by kernel_rfl) rfl z2 z3 rfl rfl rfl (fun _=>q_m rfl) ?_
 refine WD.a (i:=3) (d:=9) (by kernel_rfl) rfl z2 z3 rfl rfl rfl (fun _=>q_m rfl) ?_
 refine WD.a (i:=4) (d:=10) (by kernel_rfl) rfl z2 z3 rfl rfl rfl (fun _=>q_m rfl) ?_
 refine WD.a (i:=5) (d:=11) (by kernel_rfl) rfl z2 z3 rfl rfl rfl (fun _=>q_m rfl) ?_
 refine WD.know (fun w hw=>Hp.y15 .here hw (by intro hz'; have:=ze8; rw [hz'] at this; omega)) ?_
 rintro ⟨ziF,rfl⟩
 refine WD.a (i:=6) (d:=12) (by kernel_rfl) rfl z2 z3 rfl rfl rfl (fun _=>ym y42 rfl rfl ze8.1 ze8.2 yM) ?_
 refine WD.e (i:=7) (d:=13) (by kernel_rfl) rfl z2 z3 rfl rfl rfl (y1y (cs:=(yx (nth z7 zu))) zam rfl rfl (y1K .here (y1A (enc:=yx) (l:=z7) (i:=zu) (sz:=7) (fun _=>rfl) ze8.1 ze8.2))) ?_
 refine WD.a (i:=8) (d:=14) (by kernel_rfl) rfl z2 z3 rfl rfl rfl (fun _=>q_m rfl) ?_
 refine WD.a (i:=9) (d:=15) (by kernel_rfl) rfl z2 z3 rfl rfl rfl (fun _=>q_m rfl) ?_
 refine WD.a (i:=10) (d:=16) (by kernel_rfl) rfl z2 z3 rfl rfl rfl (fun _=>ym y42 rfl rfl z60.1 z60.2 yM) ?_
 refine WD.e (i:=11) (d:=17) (by kernel_rfl) rfl z2 z3 rfl rfl rfl (y1y (cs:=(yx (nth z7 zL))) zam rfl rfl (y1K .here (y1A (enc:=yx) (l:=z7) (i:=zL) (sz:=7) (fun _=>rfl) z60.1 z60.2))) ?_
 refine WD.a (i:=12) (d:=18) (by kernel_rfl) rfl z2 z3 rfl rfl rfl (fun _=>ym y42 rfl rfl z60.1 z60.2 yM) ?_
 refine WD.forced0 (i:=13) rfl (by kernel_rfl) rfl rfl rfl (Sin.of .nil) (y12 (vs:=[(.int .i64 ((nth z7 zu).fTime)),(.int .i64 ((nth z7 zu).fIn_)),(.int .i64 ((nth z7 zu).fVl)),(.int .i64 ((nth z7 zu).fSent)),(.int .i64 (((nth z7 zu).fHop).fNode)),(.int .i64 (((nth z7 zu).fHop).fNext)),(.int .i64 (((nth z7 zu).fHop).fLink))]) (ds:=(z7.set (zL : Int).toNat (⟨((nth z7 zu).fTime),((nth z7 zu).fIn_),((nth z7 zu).fVl),((nth z7 zu).fSent),(⟨(((nth z7 zu).fHop).fNode),(((nth z7 zu).fHop).fNext),(((nth z7 zu).fHop).fLink)⟩ : Sapi_Hop)⟩ : Snetwork_event)).flatMap yx) zfh rfl rfl rfl rfl (ocB rfl) .here (y2e (enc:=yx) (sz:=7) (k:=0) (fun _=>rfl) z60.1 z60.2 (by decide)) (y2d (enc:=yx) (l:=z7) (sz:=7) (vs:=[(.int .i64 ((nth z7 zu).fTime)),(.int .i64 ((nth z7 zu).fIn_)),(.int .i64 ((nth z7 zu).fVl)),(.int .i64 ((nth z7 zu).fSent)),(.int .i64 (((nth z7 zu).fHop).fNode)),(.int .i64 (((nth z7 zu).fHop).fNext)),(.int .i64 (((nth z7 zu).fHop).fLink))]) (y:=(⟨((nth z7 zu).fTime),((nth z7 zu).fIn_),((nth z7 zu).fVl),((nth z7 zu).fSent),(⟨(((nth z7 zu).fHop).fNode),(((nth z7 zu).fHop).fNext),(((nth z7 zu).fHop).fLink)⟩ : Sapi_Hop)⟩ : Snetwork_event)) (k:=0) (fun _=>rfl) z60.1 z60.2 rfl (Nat.le_of_ble_eq_true rfl))) ?_
 refine WD.relen .here (u:=(.slice (some ⟨ziF,0,none⟩) ((z7.set (zL : Int).toNat (⟨((nth z7 zu).fTime),((nth z7 zu).fIn_),((nth z7 zu).fVl),((nth z7 zu).fSent),(⟨(((nth z7 zu).fHop).fNode),(((nth z7 zu).fHop).fNext),(((nth z7 zu).fHop).fLink)⟩ : Sapi_Hop)⟩ : Snetwork_event)).length) z4F)) (yR (List.length_set).symm) ?_
 refine WD.repin (i:=8) rfl (u:=(.slice (some ⟨ziF,0,none⟩) ((z7.set (zL : Int).toNat (⟨((nth z7 zu).fTime),((nth z7 zu).fIn_),((nth z7 zu).fVl),((nth z7 zu).fSent),(⟨(((nth z7 zu).fHop).fNode),(((nth z7 zu).fHop).fNext),(((nth z7 zu).fHop).fLink)⟩ : Sapi_Hop)⟩ : Snetwork_event)).length) z4F)) (yR (List.length_set).symm) ?_
 refine WD.a (i:=14) (d:=19) (by kernel_rfl) rfl z2 z3 rfl rfl rfl (fun _=>ym y42 rfl rfl zbj.1 zbj.2 yM) ?_
 refine WD.y2J (i:=15) rfl (by kernel_rfl) rfl rfl rfl (by kernel_rfl) (y12 (vs:=[(.int .i64 ((nth z7 zL).fTime)),(.int .i64 ((nth z7 zL).fIn_)),(.int .i64 ((nth z7 zL).fVl)),(.int .i64 ((nth z7 zL).fSent)),(.int .i64 (((nth z7 zL).fHop).fNode)),(.int .i64 (((nth z7 zL).fHop).fNext)),(.int .i64 (((nth z7 zL).fHop).fLink))]) (ds:=((z7.set (zL : Int).toNat (⟨((nth z7 zu).fTime),((nth z7 zu).fIn_),((nth z7 zu).fVl),((nth z7 zu).fSent),(⟨(((nth z7 zu).fHop).fNode),(((nth z7 zu).fHop).fNext),(((nth z7 zu).fHop).fLink)⟩ : Sapi_Hop)⟩ : Snetwork_event)).set (zu : Int).toNat (⟨((nth z7 zL).fTime),((nth z7 zL).fIn_),((nth z7 zL).fVl),((nth z7 zL).fSent),(⟨(((nth z7 zL).fHop).fNode),(((nth z7 zL).fHop).fNext),(((nth z7 zL).fHop).fLink)⟩ : Sapi_Hop)⟩ : Snetwork_event)).flatMap yx) zfh rfl rfl rfl rfl (ocB rfl) .here (y2e (enc:=yx) (sz:=7) (k:=0) (fun _=>rfl) zbj.1 zbj.2 (by decide)) (y2d (enc:=yx) (l:=z7.set (zL : Int).toNat (⟨((nth z7 zu).fTime),((nth z7 zu).fIn_),((nth z7 zu).fVl),((nth z7 zu).fSent),(⟨(((nth z7 zu).fHop).fNode),(((nth z7 zu).fHop).fNext),(((nth z7 zu).fHop).fLink)⟩ : Sapi_Hop)⟩ : Snetwork_event)) (sz:=7) (vs:=[(.int .i64 ((nth z7 zL).fTime)),(.int .i64 ((nth z7 zL).fIn_)),(.int .i64 ((nth z7 zL).fVl)),(.int .i64 ((nth z7 zL).fSent)),(.int .i64 (((nth z7 zL).fHop).fNode)),(.int .i64 (((nth z7 zL).fHop).fNext)),(.int .i64 (((nth z7 zL).fHop).fLink))]) (y:=(⟨((nth z7 zL).fTime),((nth z7 zL).fIn_),((nth z7 zL).fVl),((nth z7 zL).fSent),(⟨(((nth z7 zL).fHop).fNode),(((nth z7 zL).fHop).fNext),(((nth z7 zL).fHop).fLink)⟩ : Sapi_Hop)⟩ : Snetwork_event)) (k:=0) (fun _=>rfl) zbj.1 zbj.2 rfl (Nat.le_of_ble_eq_true rfl))) ?_
 refine WD.relen .here (u:=(.slice (some ⟨ziF,0,none⟩) (((z7.set (zL : Int).toNat (⟨((nth z7 zu).fTime),((nth z7 zu).fIn_),((nth z7 zu).fVl),((nth z7 zu).fSent),(⟨(((nth z7 zu).fHop).fNode),(((nth z7 zu).fHop).fNext),(((nth z7 zu).fHop).fLink)⟩ : Sapi_Hop)⟩ : Snetwork_event)).set (zu : Int).toNat (⟨((nth z7 zL).fTime),((nth z7 zL).fIn_),((nth z7 zL).fVl),((nth z7 zL).fSent),(⟨(((nth z7 zL).fHop).fNode),(((nth z7 zL).fHop).fNext),(((nth z7 zL).fHop).fLink)⟩ : Sapi_Hop)⟩ : Snetwork_event)).length) z4F)) (yR (List.length_set).symm) ?_
 refine WD.done (by kernel_rfl) ?_
 obtain rfl:=Option.some.inj h
 refine WX.y1L Try.results88 .nil (fun w hw=>?_)
 exact ⟨y3Z,((List.length_set).trans ((List.length_set).trans rfl)),hw.sub (.cons .here .nil)⟩
def y36 (z1V : List Snetwork_event) (z1g : Snetwork_event) : Option Unit :=
 chk ((((z1V ++ ([z1g] : List Snetwork_event)).length : Nat) : Int) * 56 ≤ 140737488355328 ∧ (((z1V ++ ([z1g] : List Snetwork_event)).length : Nat) : Int) ≤ 4611686018427387904) (some ())
set_option maxRecDepth 20000 in
theorem y58 (Z : Zp) (z7p : Nat) (z61 : Option Addr) (z62 : Nat) (z9e : Value) (z9f : Value) (z9g : Value) (z9h : Value) (z9i : Value) (z9j : Value) (z9k : Value) (z9l : Value) (z9m : Value) (z9n : Value) (z9o : Value) (z9p : Value) (z9q : Value) (z1V : List Snetwork_event) (z1g : Snetwork_event) (r : Unit)
  (h : y36 z1V z1g = some r) (w₀ : World) (hz : PZ (fps [stb z7p 81 [z9e,z9f,z9g,z9h,z9i,z9j,z9k,z9l,z9m,z9n,z9o,(.slice z61 z1V.length z62),z9p,z9q],row (.slice z61 z1V.length z62) 113 7 (z1V.flatMap yx)]) w₀ Z)
  (hown : Hp (fps [stb z7p 81 [z9e,z9f,z9g,z9h,z9i,z9j,z9k,z9l,z9m,z9n,z9o,(.slice z61 z1V.length z62),z9p,z9q],row (.slice z61 z1V.length z62) 113 7 (z1V.flatMap yx)]) w₀ w₀ [stb z7p 81 [z9e,z9f,z9g,z9h,z9i,z9j,z9k,z9l,z9m,z9n,z9o,(.slice z61 z1V.length z62),z9p,z9q],row (.slice z61 z1V.length z62) 113 7 (z1V.flatMap yx)]) :
  Calls Try.prog 92 #[(.pointer (some ⟨z7p,11,none⟩)),(.iface 113 (.agg #[(.int .i64 z1g.fTime),(.int .i64 z1g.fIn_),(.int .i64 z1g.fVl),(.int .i64 z1g.fSent),(.int .i64 z1g.fHop.fNode),(.int .i64 z1g.fHop.fNext),(.int .i64 z1g.fHop.fLink)]))] w₀ fun e w'=>∃ znh : Option Addr,∃ zni : Nat,e = .returned (.tuple #[]) ∧ True ∧ Hp (fps [stb z7p 81 [z9e,z9f,z9g,z9h,z9i,z9j,z9k,z9l,z9m,z9n,z9o,(.slice z61 z1V.length z62),z9p,z9q],row (.slice z61 z1V.length z62) 113 7 (z1V.flatMap yx)]) w₀ w' [stb z7p 81 [z9e,z9f,z9g,z9h,z9i,z9j,z9k,z9l,z9m,z9n,z9o,(.slice znh ((z1V ++ ([z1g] : List Snetwork_event)).length) zni),z9p,z9q],row (.slice znh ((z1V ++ ([z1g] : List Snetwork_event)).length) zni) 113 7 ((z1V ++ ([z1g] : List Snetwork_event)).flatMap yx)]:=by
 unfold y36 at h
 refine Calls.yo (vs:=[(.pointer (some ⟨z7p,11,none⟩)),(.iface 113 (.agg #[(.int .i64 z1g.fTime),(.int .i64 z1g.fIn_),(.int .i64 z1g.fVl),(.int .i64 z1g.fSent),(.int .i64 z1g.fHop.fNode),(.int .i64 z1g.fHop.fNext),(.int .i64 z1g.fHop.fLink)]))]) (pre:=[stb z7p 81 [z9e,z9f,z9g,z9h,z9i,z9j,z9k,z9l,z9m,z9n,z9o,(.slice z61 z1V.length z62),z9p,z9q],row (.slice z61 z1V.length z62) 113 7 (z1V.flatMap yx)]) (env:=[(0,(.pointer (some ⟨z7p,11,none⟩))),(1,(.iface 113 (.agg #[(.int .i64 z1g.fTime),(.int .i64 z1g.fIn_),(.int .i64 z1g.fVl),(.int .i64 z1g.fSent),(.int .i64 z1g.fHop.fNode),(.int .i64 z1g.fHop.fNext),(.int .i64 z1g.fHop.fLink)])))]) Try.func92 rfl Try.ntmps92 rfl (hown) rfl ?_
 obtain ⟨ztN,h⟩:=ye h
 refine WC.yV (fun i=>[7,9].contains i) [] rfl ?_
 refine WD.a (i:=0) (d:=4) (by kernel_rfl) rfl z2 z3 rfl rfl rfl (fun _=>q_m rfl) ?_
 refine WD.a (i:=1) (d:=5) (by kernel_rfl) rfl z2 z3 rfl rfl rfl (fun _=>q_m rfl) ?_
 refine WD.a (i:=2) (d:=6) (by kernel_rfl) rfl z2 z3 rfl rfl rfl (fun _=>yv rfl) ?_
 refine WD.e (i:=3) (d:=7) (by kernel_rfl) rfl z2 z3 rfl rfl rfl (yb y4N rfl (yd .here rfl)) ?_
 refine WD.a (i:=4) (d:=8) (by kernel_rfl) rfl z2 z3 rfl rfl rfl (fun _=>q_m rfl) ?_
 refine WD.e (i:=5) (d:=9) (by kernel_rfl) rfl z2 z3 rfl rfl rfl (y7A Try.underlying113 rfl rfl) ?_
 refine WD.new (i:=6) (dd:=10) rfl (by kernel_rfl) rfl rfl rfl (yF (cs:=([z1g] : List Snetwork_event).flatMap yx) y42 (Eos.parts (l:=[.tmp 9]) (.cons rfl .nil) [0]) (fun _=>by kernel_rfl) rfl (by unfold maxLen; omega)) (fun h'=>absurd h' (by decide)) ?_
 intro zC0 _
 refine WD.old (i:=7) (dd:=11) rfl (by kernel_rfl) rfl rfl rfl rfl (fun _=>(Sin.of .nil)) (y2B (enc:=yx) (l1:=z1V) (l2:=([z1g] : List Snetwork_event)) y42 rfl rfl .h2 (fun _=>rfl) rfl rfl (y3O .here) (y3c e113_oc _) ztN) ?_
 rintro ⟨znj,znk⟩ _
 refine WD.a (i:=8) (d:=12) (by kernel_rfl) rfl z2 z3 rfl rfl rfl (fun _=>yv rfl) ?_
 refine WD.y2J (i:=9) rfl (by kernel_rfl) rfl rfl rfl (by kernel_rfl) (y3Q (ds:=[z9e,z9f,z9g,z9h,z9i,z9j,z9k,z9l,z9m,z9n,z9o,(.slice znj ((z1V ++ ([z1g] : List Snetwork_event)).length) znk),z9p,z9q]) y82 rfl rfl rfl rfl rfl .h2 rfl rfl) ?_
 refine WD.done (by kernel_rfl) ?_
 skip
 refine WX.y1L Try.results92 .nil (fun w hw=>?_)
 exact ⟨znj,znk,y3Z,trivial,hw.sub (.cons .here (.cons .here .nil))⟩
def y1V (z7q : (List Snetwork_event) → Option (List Snetwork_event)) : Nat → Int → (List Snetwork_event) → Option (List Snetwork_event)
 | 0,_,_=>none
 | ziG + 1,z3d,z3t=>(if decide ((i64 (Int.tdiv (i64 (z3d - 1)) 2)) = z3d) then some true else (y26 z3t z3d (i64 (Int.tdiv (i64 (z3d - 1)) 2))).bind fun znl=>some (!znl)).bind fun ziH=>if ziH then z7q z3t else (y27 z3t (i64 (Int.tdiv (i64 (z3d - 1)) 2)) z3d).bind fun zfN=>y1V z7q ziG (i64 (Int.tdiv (i64 (z3d - 1)) 2)) zfN
theorem y4w {n : Nat} {z7q : (List Snetwork_event) → Option (List Snetwork_event)} {z3d : Int} {z3t : List Snetwork_event} {r : List Snetwork_event} (h : y1V z7q n z3d z3t = some r) : ∃ m,n = m + 1:=by
 cases n with
 | zero=>cases h
 | succ m=>exact ⟨m,rfl⟩
def y3v (z2b : List Snetwork_event) (z9r : Int) : Option (List Snetwork_event) :=
 jp1 (fun (z5p : List Snetwork_event)=>some z5p) fun z7q=>y1V z7q yP z9r z2b
set_option maxRecDepth 20000 in
theorem y5N (Z : Zp) (z4G : Nat) (z3e : Option Addr) (z3f : Nat) (z7r : Value) (z7s : Value) (z7t : Value) (z7u : Value) (z7v : Value) (z7w : Value) (z7x : Value) (z7y : Value) (z7z : Value) (z7A : Value) (z7B : Value) (z7C : Value) (z7D : Value) (z2b : List Snetwork_event) (z9r : Int) (r : List Snetwork_event)
  (h : y3v z2b z9r = some r) (w₀ : World) (hz : PZ (fps [stb z4G 81 [z7r,z7s,z7t,z7u,z7v,z7w,z7x,z7y,z7z,z7A,z7B,(.slice z3e z2b.length z3f),z7C,z7D],row (.slice z3e z2b.length z3f) 113 7 (z2b.flatMap yx)]) w₀ Z)
  (hown : Hp (fps [stb z4G 81 [z7r,z7s,z7t,z7u,z7v,z7w,z7x,z7y,z7z,z7A,z7B,(.slice z3e z2b.length z3f),z7C,z7D],row (.slice z3e z2b.length z3f) 113 7 (z2b.flatMap yx)]) w₀ w₀ [stb z4G 81 [z7r,z7s,z7t,z7u,z7v,z7w,z7x,z7y,z7z,z7A,z7B,(.slice z3e z2b.length z3f),z7C,z7D],row (.slice z3e z2b.length z3f) 113 7 (z2b.flatMap yx)]) :
  Calls Try.prog 50 #[(.iface 111 (.pointer (some ⟨z4G,11,none⟩))),(.int .i64 z9r)] w₀ fun e w'=>e = .returned (.tuple #[]) ∧ (r.length = z2b.length) ∧ Hp (fps [stb z4G 81 [z7r,z7s,z7t,z7u,z7v,z7w,z7x,z7y,z7z,z7A,z7B,(.slice z3e z2b.length z3f),z7C,z7D],row (.slice z3e z2b.length z3f) 113 7 (z2b.flatMap yx)]) w₀ w' [stb z4G 81 [z7r,z7s,z7t,z7u,z7v,z7w,z7x,z7y,z7z,z7A,z7B,(.slice z3e r.length z3f),z7C,z7D],row (.slice z3e r.length z3f) 113 7 (r.flatMap yx)]:=by
 unfold y3v at h
 refine Calls.yo (vs:=[(.iface 111 (.pointer (some ⟨z4G,11,none⟩))),(.int .i64 z9r)]) (pre:=[stb z4G 81 [z7r,z7s,z7t,z7u,z7v,z7w,z7x,z7y,z7z,z7A,z7B,(.slice z3e z2b.length z3f),z7C,z7D],row (.slice z3e z2b.length z3f) 113 7 (z2b.flatMap yx)]) (env:=[(0,(.iface 111 (.pointer (some ⟨z4G,11,none⟩)))),(1,(.int .i64 z9r))]) Try.func50 rfl Try.ntmps50 rfl (hown) rfl ?_
 obtain ⟨z7q,ztO,h⟩:=yO h
 refine WC.y4J (fun (z5p : List Snetwork_event)=>(z7q z5p = some r) ∧ (z5p.length = z2b.length)) (fun (z5p : List Snetwork_event)=>[]) (fun (z5p : List Snetwork_event)=>[row (.slice z3e z5p.length z3f) 113 7 (z5p.flatMap yx),stb z4G 81 [z7r,z7s,z7t,z7u,z7v,z7w,z7x,z7y,z7z,z7A,z7B,(.slice z3e z5p.length z3f),z7C,z7D]]) ?_ ?_
 ·skip
  refine WC.block ?_
  refine WC.y2c (fun (zbk : Nat) (z3d : Int) (z3t : List Snetwork_event)=>(y1V z7q zbk z3d z3t = some r) ∧ (z3t.length = z2b.length)) (fun (zbk : Nat) (z3d : Int) (z3t : List Snetwork_event)=>[(0,(.iface 111 (.pointer (some ⟨z4G,11,none⟩)))),(1,(.int .i64 z3d))]) (fun (zbk : Nat) (z3d : Int) (z3t : List Snetwork_event)=>[row (.slice z3e z3t.length z3f) 113 7 (z3t.flatMap yx),stb z4G 81 [z7r,z7s,z7t,z7u,z7v,z7w,z7x,z7y,z7z,z7A,z7B,(.slice z3e z3t.length z3f),z7C,z7D]]) (fun (zbk : Nat) (z3d : Int) (z3t : List Snetwork_event)=>zbk) ⟨yP,z9r,z2b⟩ ⟨h,rfl⟩ (.cons rfl (.cons rfl .nil)) (.cons .h1 (.cons .here .nil)) ?_
  rintro zbk z3d z3t ⟨h,znm⟩
  obtain ⟨ziG,rfl⟩:=y4w h
  rw [y1V] at h
  refine WC.block (WC.b (WC.a (WL.pu rfl (WL.pu rfl ?_))))
  refine WL.a (d:=7) rfl rfl rfl (q_quo rfl rfl (by decide) rfl) ?_
  refine WL.pu rfl (WL.nil (WX.a (WC.b (WC.b ?_))))
  obtain ⟨ziH,znn,h⟩:=z8 h
  refine WC.a (WL.pu rfl (WL.pu rfl (WL.pu rfl (WL.pu rfl ?_))))
  refine WL.seg false 5 11 (B:=ziH) rfl rfl rfl rfl rfl rfl (fun h=>(Option.some.inj (yg znn h)).symm) (fun _ ztP=>?_) ?_
  ·skip
   have ze9:=yh znn ztP
   obtain ⟨znl,ztQ,ze9⟩:=z8 ze9
   replace ze9:=Option.some.inj ze9
   refine WL.pu rfl (WL.pu rfl (WL.pu rfl ?_))
   refine WL.b (dd:=15) rfl rfl rfl (y2C (l:=[.tmp 13,.tmp 14]) (y4S) Try.call87 rfl (yd .h1 rfl) (.cons rfl (.cons rfl .nil))) .nil (ccl hz .nil (.cons .here .nil) fun w pz ho la=>y3f _ _ _ _ _ _ _ ztQ w pz (ZA.row (la _ (.head _) _) (RR.yE (enc:=yx) (fun _=>rfl) _) ⟨w,pz.1⟩)) ?_
   refine WL.pu rfl (WL.pu rfl ?_)
   exact WL.yi ze9 rfl rfl .all
  refine WL.nil (WX.a ?_)
  refine WC.cond rfl (fun ziI=>?_) (fun ziI=>?_)
  ·replace h:=yg h ziI
   refine WC.exit (WX.yk (WX.y4O rfl (WX.yk (WX.yC ?_))))
   exact WX.mid (G:=List Snetwork_event) z3t ⟨h,znm⟩ .nil (.cons .here (.cons .here .nil))
  ·replace h:=yh h ziI
   refine WC.skip (WX.a (WC.b ?_))
   obtain ⟨zfN,ztR,h⟩:=z8 h
   refine WC.a (WL.pu rfl (WL.pu rfl (WL.pu rfl ?_)))
   refine WL.y1D (dd:=21) rfl rfl rfl (y2C (l:=[.tmp 19,.tmp 20]) (y4T) Try.call88 rfl (yd .h1 rfl) (.cons rfl (.cons rfl .nil))) (.cons .here .nil) (cc hz (.cons .here .nil) fun w pz ho=>y3g _ _ _ _ _ _ _ ztR w pz  ho) ?_
   rintro  zno
   refine WL.restb (cs':=[z7r,z7s,z7t,z7u,z7v,z7w,z7x,z7y,z7z,z7A,z7B,(.slice z3e zfN.length z3f),z7C,z7D]) .h1 (by rw [zno]) ?_
   refine WL.nil (WX.a (WC.a (WL.pu rfl (WL.pu rfl (WL.nil (WX.yf ?_))))))
   exact WX.round (G:=Nat × Int × List Snetwork_event) ⟨ziG,(i64 (Int.tdiv (i64 (z3d - 1)) 2)),zfN⟩ ⟨h,(zno.trans znm)⟩ (Nat.lt_succ_self _) (.cons rfl (.cons rfl .nil)) (.cons .h1 (.cons .here .nil))
 ·rintro z5p ⟨h,ztS⟩
  replace h:=(ztO z5p).symm.trans h
  obtain rfl:=Option.some.inj h
  refine WX.y1L Try.results50 .nil (fun w hw=>?_)
  exact ⟨y3Z,ztS,hw.sub (.cons .h1 (.cons .here .nil))⟩
def y37 (z2D : List Snetwork_event) (z1z : Snetwork_event) : Option (List Snetwork_event) :=
 (y36 z2D z1z).bind fun ztT=>(y2z (z2D ++ ([z1z] : List Snetwork_event))).bind fun znp=>(y3v (z2D ++ ([z1z] : List Snetwork_event)) (i64 (znp - 1))).bind fun ziJ=>some ziJ
set_option maxRecDepth 20000 in
theorem y59 (Z : Zp) (z7E : Nat) (z63 : Option Addr) (z64 : Nat) (z9s : Value) (z9t : Value) (z9u : Value) (z9v : Value) (z9w : Value) (z9x : Value) (z9y : Value) (z9z : Value) (z9A : Value) (z9B : Value) (z9C : Value) (z9D : Value) (z9E : Value) (z2D : List Snetwork_event) (z1z : Snetwork_event) (r : List Snetwork_event)
  (h : y37 z2D z1z = some r) (w₀ : World) (hz : PZ (fps [stb z7E 81 [z9s,z9t,z9u,z9v,z9w,z9x,z9y,z9z,z9A,z9B,z9C,(.slice z63 z2D.length z64),z9D,z9E],row (.slice z63 z2D.length z64) 113 7 (z2D.flatMap yx)]) w₀ Z)
  (hown : Hp (fps [stb z7E 81 [z9s,z9t,z9u,z9v,z9w,z9x,z9y,z9z,z9A,z9B,z9C,(.slice z63 z2D.length z64),z9D,z9E],row (.slice z63 z2D.length z64) 113 7 (z2D.flatMap yx)]) w₀ w₀ [stb z7E 81 [z9s,z9t,z9u,z9v,z9w,z9x,z9y,z9z,z9A,z9B,z9C,(.slice z63 z2D.length z64),z9D,z9E],row (.slice z63 z2D.length z64) 113 7 (z2D.flatMap yx)]) :
  Calls Try.prog 38 #[(.iface 111 (.pointer (some ⟨z7E,11,none⟩))),(.iface 113 (.agg #[(.int .i64 z1z.fTime),(.int .i64 z1z.fIn_),(.int .i64 z1z.fVl),(.int .i64 z1z.fSent),(.int .i64 z1z.fHop.fNode),(.int .i64 z1z.fHop.fNext),(.int .i64 z1z.fHop.fLink)]))] w₀ fun e w'=>∃ znq : Option Addr,∃ znr : Nat,e = .returned (.tuple #[]) ∧ True ∧ Hp (fps [stb z7E 81 [z9s,z9t,z9u,z9v,z9w,z9x,z9y,z9z,z9A,z9B,z9C,(.slice z63 z2D.length z64),z9D,z9E],row (.slice z63 z2D.length z64) 113 7 (z2D.flatMap yx)]) w₀ w' [stb z7E 81 [z9s,z9t,z9u,z9v,z9w,z9x,z9y,z9z,z9A,z9B,z9C,(.slice znq r.length znr),z9D,z9E],row (.slice znq r.length znr) 113 7 (r.flatMap yx)]:=by
 unfold y37 at h
 refine Calls.yo (vs:=[(.iface 111 (.pointer (some ⟨z7E,11,none⟩))),(.iface 113 (.agg #[(.int .i64 z1z.fTime),(.int .i64 z1z.fIn_),(.int .i64 z1z.fVl),(.int .i64 z1z.fSent),(.int .i64 z1z.fHop.fNode),(.int .i64 z1z.fHop.fNext),(.int .i64 z1z.fHop.fLink)]))]) (pre:=[stb z7E 81 [z9s,z9t,z9u,z9v,z9w,z9x,z9y,z9z,z9A,z9B,z9C,(.slice z63 z2D.length z64),z9D,z9E],row (.slice z63 z2D.length z64) 113 7 (z2D.flatMap yx)]) (env:=[(0,(.iface 111 (.pointer (some ⟨z7E,11,none⟩)))),(1,(.iface 113 (.agg #[(.int .i64 z1z.fTime),(.int .i64 z1z.fIn_),(.int .i64 z1z.fVl),(.int .i64 z1z.fSent),(.int .i64 z1z.fHop.fNode),(.int .i64 z1z.fHop.fNext),(.int .i64 z1z.fHop.fLink)])))]) Try.func38 rfl Try.ntmps38 rfl (hown) rfl ?_
 refine WC.b ?_
 obtain ⟨ztT,ztU,h⟩:=z8 h
 refine WC.a (WL.pu rfl (WL.pu rfl ?_))
 refine WL.y4C (dd:=6) rfl rfl rfl (y6H (l:=[.tmp 5]) (y7D _) Try.call92 rfl (.cons rfl .nil)) (.cons .here (.cons .here .nil)) (cc hz (.cons .here (.cons .here .nil)) fun w pz ho=>y58 _ _ _ _ _ _ _ _ _ _ _ _ _ _ _ _ _ _ _ _ ztU w pz  ho) ?_
 rintro zns znt _
 refine WL.nil (WX.a ?_)
 obtain ⟨znp,ztV,h⟩:=z8 h
 obtain ⟨ziJ,ztW,h⟩:=z8 h
 refine WC.a (WL.pu rfl (WL.pu rfl ?_))
 refine WL.b (dd:=9) rfl rfl rfl (y2C (l:=[]) (y6o) Try.call86 rfl (yd .here rfl) .nil) .nil (ccl hz .nil (.cons .h1 .nil) fun w pz ho la=>y4i _ _ _ _ _ ztV w pz (ZA.row (la _ (.head _) _) (RR.yE (enc:=yx) (fun _=>rfl) _) ⟨w,pz.1⟩)) ?_
 refine WL.pu rfl ?_
 refine WL.y1D (dd:=11) rfl rfl rfl (zt (l:=[.tmp 7,.tmp 10]) Try.call50 (.cons rfl (.cons rfl .nil))) (.cons .here (.cons .here .nil)) (cc hz (.cons .here (.cons .here .nil)) fun w pz ho=>y5N _ _ _ _ _ _ _ _ _ _ _ _ _ _ _ _ _ _ _ _ ztW w pz  ho) ?_
 rintro  ztX
 refine WL.restb (cs':=[z9s,z9t,z9u,z9v,z9w,z9x,z9y,z9z,z9A,z9B,z9C,(.slice zns ziJ.length znt),z9D,z9E]) .here (by rw [ztX]) ?_
 refine WL.nil ?_
 obtain rfl:=Option.some.inj h
 refine WX.y1L Try.results38 .nil (fun w hw=>?_)
 exact ⟨zns,znt,y3Z,trivial,hw.sub (.cons .here (.cons .here .nil))⟩
def y23 (z1e : List (List Sapi_Hop)) (zY : List zSt) (z14 : Int) (z3V : Int) (z3H : Int) (z3I : Int) (z7F : (List Snetwork_event) → Option (List Snetwork_event)) : Nat → Int → (List Snetwork_event) → Option (List Snetwork_event)
 | 0,_,_=>none
 | ziK + 1,z2c,z3u=>if decide (z2c < (((nth z1e ((nth zY z14).fVL)).length : Nat) : Int)) then jp1 (fun (z5q : List Snetwork_event)=>y23 z1e zY z14 z3V z3H z3I z7F ziK (i64 (z2c + 1)) z5q) fun zfO=>chk ((0 : Int) ≤ z2c ∧ z2c < (((nth z1e ((nth zY z14).fVL)).length : Nat) : Int)) (if decide (((nth (nth z1e ((nth zY z14).fVL)) z2c).fNode) = z3V) then (y37 z3u (⟨z3H,z3I,((nth zY z14).fVL),z14,(⟨((nth (nth z1e ((nth zY z14).fVL)) z2c).fNode),((nth (nth z1e ((nth zY z14).fVL)) z2c).fNext),((nth (nth z1e ((nth zY z14).fVL)) z2c).fLink)⟩ : Sapi_Hop)⟩ : Snetwork_event)).bind fun ziL=>zfO ziL else zfO z3u) else z7F z3u
theorem y4E {n : Nat} {z1e : List (List Sapi_Hop)} {zY : List zSt} {z14 : Int} {z3V : Int} {z3H : Int} {z3I : Int} {z7F : (List Snetwork_event) → Option (List Snetwork_event)} {z2c : Int} {z3u : List Snetwork_event} {r : List Snetwork_event} (h : y23 z1e zY z14 z3V z3H z3I z7F n z2c z3u = some r) : ∃ m,n = m + 1:=by
 cases n with
 | zero=>cases h
 | succ m=>exact ⟨m,rfl⟩
def y2R (zA : Sapi_Config) (z1e : List (List Sapi_Hop)) (zY : List zSt) (ziM : List (Snetwork_exit × Sport_Port)) (z2M : List Snetwork_event) (z4H : List Sapi_Come) (z4I : List Sapi_Come) (z3V : Int) (z3H : Int) (z3I : Int) (z14 : Int) : Option (List Snetwork_event) :=
 chk ((0 : Int) ≤ z14 ∧ z14 < ((zY.length : Nat) : Int)) (chk ((0 : Int) ≤ ((nth zY z14).fVL) ∧ ((nth zY z14).fVL) < ((z1e.length : Nat) : Int)) (jp1 (fun (z65 : List Snetwork_event)=>some z65) fun z7F=>y23 z1e zY z14 z3V z3H z3I z7F yP 0 z2M))
set_option maxRecDepth 20000 in
theorem y4q (Z : Zp) (z3W : Nat) (z66 : Option Addr) (z67 : Nat) (z68 : Option Addr) (z69 : Nat) (z6a : Option Addr) (z6b : Nat) (z6c : Option Addr) (z6d : Nat) (z6e : Option Addr) (z6f : Nat) (z6g : Option Addr) (z6h : Nat) (z6i : Option Addr) (z6j : Nat) (z6k : Option Addr) (z6l : Nat) (z6m : Option Addr) (z6n : Nat) (z6o : Option Addr) (z6p : Nat) (z32 : Nat) (z2N : List (Snetwork_exit × ((Nat × (Option Addr × Nat)) × Sport_Port))) (z5r : Option Addr) (z5s : Nat) (z6q : Option Addr) (z6r : Nat) (z6s : Option Addr) (z6t : Nat) (zA : Sapi_Config) (z1e : List (List Sapi_Hop)) (zY : List zSt) (ziM : List (Snetwork_exit × Sport_Port)) (z2M : List Snetwork_event) (z4H : List Sapi_Come) (z4I : List Sapi_Come) (z3V : Int) (z3H : Int) (z3I : Int) (z14 : Int) (r : List Snetwork_event)
  (h : y2R zA z1e zY ziM z2M z4H z4I z3V z3H z3I z14 = some r) (w₀ : World) (hz : PZ (fps [stb z3W 81 [(.slice z66 zA.fModules.length z67),(.slice z68 zA.fChannels.length z69),(.slice z6a zA.fSwitches.length z6b),(.slice z6c zA.fLinks.length z6d),(.slice z6e zA.fVLs.length z6f),(.slice z6g zA.fHealth.length z6h),(.slice z6i zA.fCauses.length z6j),(.slice z6k zA.fVersions.length z6l),(.slice z6m z1e.length z6n),(.slice z6o zY.length z6p),(.map (some z32)),(.slice z5r z2M.length z5s),(.slice z6q z4H.length z6r),(.slice z6s z4I.length z6t)],y1e z32 (fun x=>Value.agg (y1I x).toArray) Value.pointer (y1o z2N),y1m z13 z2N,row (.slice z5r z2M.length z5s) 113 7 (z2M.flatMap yx)]) w₀ Z)
  (zC1 : ZS Z 4 (y2h Z) z66 z67 zA.fModules)
  (zC2 : ZS Z 4 (y2x Z) z68 z69 zA.fChannels)
  (zC3 : ZS Z 4 (fun r x=>r = e64 x) z6a z6b zA.fSwitches)
  (zC4 : ZS Z 4 (fun r x=>r = e62 x) z6c z6d zA.fLinks)
  (zC5 : ZS Z 7 (y2p Z) z6e z6f zA.fVLs)
  (zC6 : ZS Z 5 (fun r x=>r = y2K x) z6g z6h zA.fHealth)
  (zC7 : ZS Z 3 (y2y Z) z6i z6j zA.fCauses)
  (zC8 : ZS Z 4 (fun r x=>r = y2L x) z6k z6l zA.fVersions)
  (ztY : ZS Z 1 (p55 Z) z6m z6n z1e)
  (ztZ : ZS Z 3 (fun r x=>r = e53 x) z6o z6p zY)
  (zC9 : dat z2N = ziM)
  (zCa : ZS Z 3 (fun r x=>r = e50 x) z6q z6r z4H)
  (zCb : ZS Z 3 (fun r x=>r = e50 x) z6s z6t z4I)
  (hown : Hp (fps [stb z3W 81 [(.slice z66 zA.fModules.length z67),(.slice z68 zA.fChannels.length z69),(.slice z6a zA.fSwitches.length z6b),(.slice z6c zA.fLinks.length z6d),(.slice z6e zA.fVLs.length z6f),(.slice z6g zA.fHealth.length z6h),(.slice z6i zA.fCauses.length z6j),(.slice z6k zA.fVersions.length z6l),(.slice z6m z1e.length z6n),(.slice z6o zY.length z6p),(.map (some z32)),(.slice z5r z2M.length z5s),(.slice z6q z4H.length z6r),(.slice z6s z4I.length z6t)],y1e z32 (fun x=>Value.agg (y1I x).toArray) Value.pointer (y1o z2N),y1m z13 z2N,row (.slice z5r z2M.length z5s) 113 7 (z2M.flatMap yx)]) w₀ w₀ [stb z3W 81 [(.slice z66 zA.fModules.length z67),(.slice z68 zA.fChannels.length z69),(.slice z6a zA.fSwitches.length z6b),(.slice z6c zA.fLinks.length z6d),(.slice z6e zA.fVLs.length z6f),(.slice z6g zA.fHealth.length z6h),(.slice z6i zA.fCauses.length z6j),(.slice z6k zA.fVersions.length z6l),(.slice z6m z1e.length z6n),(.slice z6o zY.length z6p),(.map (some z32)),(.slice z5r z2M.length z5s),(.slice z6q z4H.length z6r),(.slice z6s z4I.length z6t)],y1e z32 (fun x=>Value.agg (y1I x).toArray) Value.pointer (y1o z2N),y1m z13 z2N,row (.slice z5r z2M.length z5s) 113 7 (z2M.flatMap yx)]) :
  Calls Try.prog 25 #[(.pointer (some ⟨z3W,0,none⟩)),(.int .i64 z3V),(.int .i64 z3H),(.int .i64 z3I),(.int .i64 z14)] w₀ fun e w'=>∃ znu : Option Addr,∃ znv : Nat,e = .returned (.tuple #[]) ∧ True ∧ Hp (fps [stb z3W 81 [(.slice z66 zA.fModules.length z67),(.slice z68 zA.fChannels.length z69),(.slice z6a zA.fSwitches.length z6b),(.slice z6c zA.fLinks.length z6d),(.slice z6e zA.fVLs.length z6f),(.slice z6g zA.fHealth.length z6h),(.slice z6i zA.fCauses.length z6j),(.slice z6k zA.fVersions.length z6l),(.slice z6m z1e.length z6n),(.slice z6o zY.length z6p),(.map (some z32)),(.slice z5r z2M.length z5s),(.slice z6q z4H.length z6r),(.slice z6s z4I.length z6t)],y1e z32 (fun x=>Value.agg (y1I x).toArray) Value.pointer (y1o z2N),y1m z13 z2N,row (.slice z5r z2M.length z5s) 113 7 (z2M.flatMap yx)]) w₀ w' [stb z3W 81 [(.slice z66 zA.fModules.length z67),(.slice z68 zA.fChannels.length z69),(.slice z6a zA.fSwitches.length z6b),(.slice z6c zA.fLinks.length z6d),(.slice z6e zA.fVLs.length z6f),(.slice z6g zA.fHealth.length z6h),(.slice z6i zA.fCauses.length z6j),(.slice z6k zA.fVersions.length z6l),(.slice z6m z1e.length z6n),(.slice z6o zY.length z6p),(.map (some z32)),(.slice znu r.length znv),(.slice z6q z4H.length z6r),(.slice z6s z4I.length z6t)],row (.slice znu r.length znv) 113 7 (r.flatMap yx),y1e z32 (fun x=>Value.agg (y1I x).toArray) Value.pointer (y1o z2N),y1m z13 z2N]:=by
 unfold y2R at h
 refine Calls.yo (vs:=[(.pointer (some ⟨z3W,0,none⟩)),(.int .i64 z3V),(.int .i64 z3H),(.int .i64 z3I),(.int .i64 z14)]) (pre:=[stb z3W 81 [(.slice z66 zA.fModules.length z67),(.slice z68 zA.fChannels.length z69),(.slice z6a zA.fSwitches.length z6b),(.slice z6c zA.fLinks.length z6d),(.slice z6e zA.fVLs.length z6f),(.slice z6g zA.fHealth.length z6h),(.slice z6i zA.fCauses.length z6j),(.slice z6k zA.fVersions.length z6l),(.slice z6m z1e.length z6n),(.slice z6o zY.length z6p),(.map (some z32)),(.slice z5r z2M.length z5s),(.slice z6q z4H.length z6r),(.slice z6s z4I.length z6t)],y1e z32 (fun x=>Value.agg (y1I x).toArray) Value.pointer (y1o z2N),y1m z13 z2N,row (.slice z5r z2M.length z5s) 113 7 (z2M.flatMap yx)]) (env:=[(0,(.pointer (some ⟨z3W,0,none⟩))),(1,(.int .i64 z3V)),(2,(.int .i64 z3H)),(3,(.int .i64 z3I)),(4,(.int .i64 z14))]) Try.func25 rfl Try.ntmps25 rfl (hown) rfl ?_
 refine WC.b ?_
 obtain ⟨zu0,h⟩:=ye h
 refine WC.a (WL.pu rfl ?_)
 refine WL.a (d:=14) rfl rfl rfl (yv rfl) ?_
 refine WL.a (d:=15) rfl rfl rfl (ya y80 rfl rfl) ?_
 refine WL.a (d:=16) rfl rfl rfl (yb y81 rfl (yd .here rfl)) ?_
 refine WL.pu rfl ?_
 refine WL.znth (dd:=18) rfl rfl (Z:=Z) (Pr:=(fun r x=>r = e53 x)) y2u rfl rfl ztZ zu0 ?_
 rintro zCc zCd zu1 zCe rfl
 refine WL.a (d:=19) rfl rfl rfl (ya y4M rfl rfl) ?_
 refine WL.a (d:=20) rfl rfl rfl (yb yl rfl (y22 hz.pv zu1 rfl)) ?_
 refine WL.pu rfl (WL.nil (WX.a (WC.b ?_)))
 obtain ⟨zu2,h⟩:=ye h
 refine WC.a (WL.pu rfl ?_)
 refine WL.a (d:=22) rfl rfl rfl (yv rfl) ?_
 refine WL.a (d:=23) rfl rfl rfl (ya fo_81_1 rfl rfl) ?_
 refine WL.a (d:=24) rfl rfl rfl (yb oneT_32 rfl (yd .here rfl)) ?_
 refine WL.pu rfl ?_
 refine WL.znth (dd:=26) rfl rfl (Z:=Z) (Pr:=(p55 Z)) y2i rfl rfl ztY zu2 ?_
 rintro zCf zCg zu3 zCh ⟨znw,znx,rfl,zu4⟩
 refine WL.a (d:=27) rfl rfl rfl (yb y5k rfl (rd_z hz.pv zu3 rfl)) ?_
 refine WL.a (d:=28) rfl rfl rfl (yz Try.underlying55 rfl) ?_
 refine WL.pu rfl (WL.nil (WX.a ?_))
 obtain ⟨z7F,zu5,h⟩:=yO h
 refine WC.mid3 (fun (z65 : List Snetwork_event) (zbl : Option Addr) (zbm : Nat)=>(z7F z65 = some r)) (fun (z65 : List Snetwork_event) (zbl : Option Addr) (zbm : Nat)=>[]) (fun (z65 : List Snetwork_event) (zbl : Option Addr) (zbm : Nat)=>[row (.slice zbl z65.length zbm) 113 7 (z65.flatMap yx),stb z3W 81 [(.slice z66 zA.fModules.length z67),(.slice z68 zA.fChannels.length z69),(.slice z6a zA.fSwitches.length z6b),(.slice z6c zA.fLinks.length z6d),(.slice z6e zA.fVLs.length z6f),(.slice z6g zA.fHealth.length z6h),(.slice z6i zA.fCauses.length z6j),(.slice z6k zA.fVersions.length z6l),(.slice z6m z1e.length z6n),(.slice z6o zY.length z6p),(.map (some z32)),(.slice zbl z65.length zbm),(.slice z6q z4H.length z6r),(.slice z6s z4I.length z6t)],y1e z32 (fun x=>Value.agg (y1I x).toArray) Value.pointer (y1o z2N),y1m z13 z2N]) ?_ ?_
 ·skip
  refine WC.block ?_
  refine WC.y7t (fun (zbn : Nat) (z2c : Int) (z3u : List Snetwork_event) (z8n : Option Addr) (z8o : Nat)=>(y23 z1e zY z14 z3V z3H z3I z7F zbn z2c z3u = some r)) (fun (zbn : Nat) (z2c : Int) (z3u : List Snetwork_event) (z8n : Option Addr) (z8o : Nat)=>[(0,(.pointer (some ⟨z3W,0,none⟩))),(1,(.int .i64 z3V)),(2,(.int .i64 z3H)),(3,(.int .i64 z3I)),(4,(.int .i64 z14)),(10,(.int .i64 ((nth zY z14).fVL))),(27,(.slice znw ((nth z1e ((nth zY z14).fVL)).length) znx)),(28,(.int .i64 (((nth z1e ((nth zY z14).fVL)).length : Nat) : Int))),(29,(.int .i64 z2c))]) (fun (zbn : Nat) (z2c : Int) (z3u : List Snetwork_event) (z8n : Option Addr) (z8o : Nat)=>[row (.slice z8n z3u.length z8o) 113 7 (z3u.flatMap yx),stb z3W 81 [(.slice z66 zA.fModules.length z67),(.slice z68 zA.fChannels.length z69),(.slice z6a zA.fSwitches.length z6b),(.slice z6c zA.fLinks.length z6d),(.slice z6e zA.fVLs.length z6f),(.slice z6g zA.fHealth.length z6h),(.slice z6i zA.fCauses.length z6j),(.slice z6k zA.fVersions.length z6l),(.slice z6m z1e.length z6n),(.slice z6o zY.length z6p),(.map (some z32)),(.slice z8n z3u.length z8o),(.slice z6q z4H.length z6r),(.slice z6s z4I.length z6t)],y1e z32 (fun x=>Value.agg (y1I x).toArray) Value.pointer (y1o z2N),y1m z13 z2N]) (fun (zbn : Nat) (z2c : Int) (z3u : List Snetwork_event) (z8n : Option Addr) (z8o : Nat)=>zbn) ⟨yP,0,z2M,z5r,z5s⟩ h (.cons rfl (.cons rfl (.cons rfl (.cons rfl (.cons rfl (.cons rfl (.cons rfl (.cons rfl (.cons rfl .nil))))))))) (.cons .h3 (.cons .here (.cons .here (.cons .here .nil)))) ?_
  rintro zbn z2c z3u z8n z8o h
  obtain ⟨ziK,rfl⟩:=y4E h
  rw [y23] at h
  refine WC.b (WC.a (WL.pu rfl (WL.nil (WX.a (WC.b ?_)))))
  refine WC.cond rfl (fun ziN=>?_) (fun ziN=>?_)
  ·replace h:=yg h ziN
   refine WC.skip (WX.a ?_)
   obtain ⟨zfO,zu6,h⟩:=yO h
   refine WC.y1U (fun (z5q : List Snetwork_event) (zbo : Option Addr) (zbp : Nat)=>(zfO z5q = some r)) (fun (z5q : List Snetwork_event) (zbo : Option Addr) (zbp : Nat)=>[(0,(.pointer (some ⟨z3W,0,none⟩))),(1,(.int .i64 z3V)),(2,(.int .i64 z3H)),(3,(.int .i64 z3I)),(4,(.int .i64 z14)),(10,(.int .i64 ((nth zY z14).fVL))),(27,(.slice znw ((nth z1e ((nth zY z14).fVL)).length) znx)),(28,(.int .i64 (((nth z1e ((nth zY z14).fVL)).length : Nat) : Int))),(29,(.int .i64 z2c))]) (fun (z5q : List Snetwork_event) (zbo : Option Addr) (zbp : Nat)=>[row (.slice zbo z5q.length zbp) 113 7 (z5q.flatMap yx),stb z3W 81 [(.slice z66 zA.fModules.length z67),(.slice z68 zA.fChannels.length z69),(.slice z6a zA.fSwitches.length z6b),(.slice z6c zA.fLinks.length z6d),(.slice z6e zA.fVLs.length z6f),(.slice z6g zA.fHealth.length z6h),(.slice z6i zA.fCauses.length z6j),(.slice z6k zA.fVersions.length z6l),(.slice z6m z1e.length z6n),(.slice z6o zY.length z6p),(.map (some z32)),(.slice zbo z5q.length zbp),(.slice z6q z4H.length z6r),(.slice z6s z4I.length z6t)],y1e z32 (fun x=>Value.agg (y1I x).toArray) Value.pointer (y1o z2N),y1m z13 z2N]) ?_ ?_
   ·skip
    refine WC.block (WC.b ?_)
    obtain ⟨zu7,h⟩:=ye h
    refine WC.a ?_
    refine WL.znth (dd:=31) rfl rfl (Z:=Z) (Pr:=(fun r x=>r = e59 x)) y2W rfl rfl zu4 zu7 ?_
    rintro zCi zCj zu8 zCk rfl
    refine WL.a (d:=32) rfl rfl rfl (yu y5l rfl (y3H hz.pv zu8) rfl) ?_
    refine WL.new (dd:=12) rfl rfl rfl (y2m (cs:=[(.int .i64 0),(.int .i64 0),(.int .i64 0)]) y7B rfl) ?_
    intro zCl _
    refine WL.y10 rfl rfl (y1W y7Z rfl rfl rfl .here rfl rfl rfl) ?_
    refine WL.nil (WX.a (WC.b (WC.a ?_)))
    refine WL.a (d:=33) rfl rfl rfl (ya y2F rfl rfl) ?_
    refine WL.a (d:=34) rfl rfl rfl (yb yl rfl (yd .here rfl)) ?_
    refine WL.pu rfl (WL.pu rfl (WL.nil (WX.a ?_)))
    refine WC.cond rfl (fun ziO=>?_) (fun ziO=>?_)
    ·replace h:=yg h ziO
     obtain ⟨ziL,zu9,h⟩:=z8 h
     refine WC.yV (fun i=>[11].contains i) [] rfl ?_
     refine WD.a (i:=0) (d:=37) (by kernel_rfl) rfl z2 z3 rfl rfl rfl (fun _=>q_m rfl) ?_
     refine WD.a (i:=1) (d:=38) (by kernel_rfl) rfl z2 z3 rfl rfl rfl (fun _=>yv rfl) ?_
     refine WD.a (i:=2) (d:=39) (by kernel_rfl) rfl z2 z3 rfl rfl rfl (fun _=>ya y70 rfl rfl) ?_
     refine WD.e (i:=3) (d:=40) (by kernel_rfl) rfl z2 z3 rfl rfl rfl (y52 Try.underlying111 rfl rfl) ?_
     refine WD.a (i:=4) (d:=41) (by kernel_rfl) rfl z2 z3 rfl rfl rfl (fun _=>q_m rfl) ?_
     refine WD.a (i:=5) (d:=42) (by kernel_rfl) rfl z2 z3 rfl rfl rfl (fun _=>q_m rfl) ?_
     refine WD.a (i:=6) (d:=43) (by kernel_rfl) rfl z2 z3 rfl rfl rfl (fun _=>q_m rfl) ?_
     refine WD.a (i:=7) (d:=44) (by kernel_rfl) rfl z2 z3 rfl rfl rfl (fun _=>q_m rfl) ?_
     refine WD.e (i:=8) (d:=45) (by kernel_rfl) rfl z2 z3 rfl rfl rfl (yu y5l rfl (yJ .here) rfl) ?_
     refine WD.a (i:=9) (d:=46) (by kernel_rfl) rfl z2 z3 rfl rfl rfl (fun _=>y1l (v:=(.agg #[(.int .i64 z3H),(.int .i64 z3I),(.int .i64 ((nth zY z14).fVL)),(.int .i64 z14),(.int .i64 ((nth (nth z1e ((nth zY z14).fVL)) z2c).fNode)),(.int .i64 ((nth (nth z1e ((nth zY z14).fVL)) z2c).fNext)),(.int .i64 ((nth (nth z1e ((nth zY z14).fVL)) z2c).fLink))])) (Eos.parts (l:=[.tmp 41,.tmp 42,.tmp 43,.tmp 44,.tmp 45]) (.cons rfl (.cons rfl (.cons rfl (.cons rfl (.cons rfl .nil))))) [0,1,2,3,4]) (fun _=>by kernel_rfl)) ?_
     refine WD.e (i:=10) (d:=47) (by kernel_rfl) rfl z2 z3 rfl rfl rfl (y52 Try.underlying113 rfl rfl) ?_
     refine WD.call2 (i:=11) (dd:=48) rfl (by kernel_rfl) rfl rfl rfl (.inl ⟨rfl,fun _ _=>(Sin.of .nil)⟩) (zt (l:=[.tmp 40,.tmp 47]) Try.call38 (.cons rfl (.cons rfl .nil))) (.cons .h2 (.cons .h1 .nil)) (cc hz (.cons .h2 (.cons .h1 .nil)) fun w pz ho=>y59 _ _ _ _ _ _ _ _ _ _ _ _ _ _ _ _ _ _ _ _ zu9 w pz  ho) ?_
     rintro zua zub _
     refine WD.done (by kernel_rfl) ?_
     refine WX.yf ?_
     exact WX.mid (G:=List Snetwork_event × Option Addr × Nat) ⟨ziL,zua,zub⟩ h (.cons rfl (.cons rfl (.cons rfl (.cons rfl (.cons rfl (.cons rfl (.cons rfl (.cons rfl (.cons rfl .nil))))))))) (.cons .h1 (.cons .here (.cons .h1 (.cons .h1 .nil))))
    ·replace h:=yh h ziO
     refine WC.skip (WX.yf ?_)
     exact WX.mid (G:=List Snetwork_event × Option Addr × Nat) ⟨z3u,z8n,z8o⟩ h (.cons rfl (.cons rfl (.cons rfl (.cons rfl (.cons rfl (.cons rfl (.cons rfl (.cons rfl (.cons rfl .nil))))))))) (.cons .h1 (.cons .h1 (.cons .h1 (.cons .h1 .nil))))
   ·rintro z5q zbo zbp h
    replace h:=(zu6 z5q).symm.trans h
    refine WC.a (WL.pu rfl (WL.pu rfl (WL.nil ?_)))
    exact WX.round (G:=Nat × Int × List Snetwork_event × Option Addr × Nat) ⟨ziK,(i64 (z2c + 1)),z5q,zbo,zbp⟩ h (Nat.lt_succ_self _) (.cons rfl (.cons rfl (.cons rfl (.cons rfl (.cons rfl (.cons rfl (.cons rfl (.cons rfl (.cons rfl .nil))))))))) (.cons .here (.cons .here (.cons .here (.cons .here .nil))))
  ·replace h:=yh h ziN
   refine WC.exit (WX.yk (WX.yk (WX.yC ?_)))
   exact WX.mid (G:=List Snetwork_event × Option Addr × Nat) ⟨z3u,z8n,z8o⟩ h .nil (.cons .here (.cons .here (.cons .here (.cons .here .nil))))
 ·rintro z65 zbl zbm h
  replace h:=(zu5 z65).symm.trans h
  obtain rfl:=Option.some.inj h
  refine WX.y1L Try.results25 .nil (fun w hw=>?_)
  exact ⟨zbl,zbm,y3Z,trivial,hw.sub (.cons .h1 (.cons .here (.cons .here (.cons .here .nil))))⟩
def y1R (z3v : Int) (z6u : Int → (List Snetwork_event) → Option (Bool × List Snetwork_event)) : Nat → Int → (List Snetwork_event) → Option (Bool × List Snetwork_event)
 | 0,_,_=>none
 | ziP + 1,z1w,z2d=>if (decide ((i64 ((i64 (2 * z1w)) + 1)) ≥ z3v)) || (decide ((i64 ((i64 (2 * z1w)) + 1)) < 0)) then z6u z1w z2d else jp1 (fun (z5t : Int)=>(y26 z2d z5t z1w).bind fun zny=>if !zny then z6u z1w z2d else (y27 z2d z1w z5t).bind fun zfP=>y1R z3v z6u ziP z5t zfP) fun zfQ=>(if decide ((i64 ((i64 ((i64 (2 * z1w)) + 1)) + 1)) < z3v) then (y26 z2d (i64 ((i64 ((i64 (2 * z1w)) + 1)) + 1)) (i64 ((i64 (2 * z1w)) + 1))).bind fun znz=>some znz else some false).bind fun ziQ=>if ziQ then zfQ (i64 ((i64 ((i64 (2 * z1w)) + 1)) + 1)) else zfQ (i64 ((i64 (2 * z1w)) + 1))
theorem y4k {n : Nat} {z3v : Int} {z6u : Int → (List Snetwork_event) → Option (Bool × List Snetwork_event)} {z1w : Int} {z2d : List Snetwork_event} {r : Bool × List Snetwork_event} (h : y1R z3v z6u n z1w z2d = some r) : ∃ m,n = m + 1:=by
 cases n with
 | zero=>cases h
 | succ m=>exact ⟨m,rfl⟩
def y38 (z2e : List Snetwork_event) (i0_9332 : Int) (z3v : Int) : Option (Bool × List Snetwork_event) :=
 jp2 (fun (z8p : Int) (z5u : List Snetwork_event)=>some ((decide (z8p > i0_9332)),z5u)) fun z6u=>y1R z3v z6u yP i0_9332 z2e
set_option maxRecDepth 20000 in
theorem y5a (Z : Zp) (z3X : Nat) (z2O : Option Addr) (z2P : Nat) (z6v : Value) (z6w : Value) (z6x : Value) (z6y : Value) (z6z : Value) (z6A : Value) (z6B : Value) (z6C : Value) (z6D : Value) (z6E : Value) (z6F : Value) (z6G : Value) (z6H : Value) (z2e : List Snetwork_event) (i0_9332 : Int) (z3v : Int) (r : Bool × List Snetwork_event)
  (h : y38 z2e i0_9332 z3v = some r) (w₀ : World) (hz : PZ (fps [stb z3X 81 [z6v,z6w,z6x,z6y,z6z,z6A,z6B,z6C,z6D,z6E,z6F,(.slice z2O z2e.length z2P),z6G,z6H],row (.slice z2O z2e.length z2P) 113 7 (z2e.flatMap yx)]) w₀ Z)
  (hown : Hp (fps [stb z3X 81 [z6v,z6w,z6x,z6y,z6z,z6A,z6B,z6C,z6D,z6E,z6F,(.slice z2O z2e.length z2P),z6G,z6H],row (.slice z2O z2e.length z2P) 113 7 (z2e.flatMap yx)]) w₀ w₀ [stb z3X 81 [z6v,z6w,z6x,z6y,z6z,z6A,z6B,z6C,z6D,z6E,z6F,(.slice z2O z2e.length z2P),z6G,z6H],row (.slice z2O z2e.length z2P) 113 7 (z2e.flatMap yx)]) :
  Calls Try.prog 51 #[(.iface 111 (.pointer (some ⟨z3X,11,none⟩))),(.int .i64 i0_9332),(.int .i64 z3v)] w₀ fun e w'=>e = .returned (.bool r.1) ∧ (r.2.length = z2e.length) ∧ Hp (fps [stb z3X 81 [z6v,z6w,z6x,z6y,z6z,z6A,z6B,z6C,z6D,z6E,z6F,(.slice z2O z2e.length z2P),z6G,z6H],row (.slice z2O z2e.length z2P) 113 7 (z2e.flatMap yx)]) w₀ w' [stb z3X 81 [z6v,z6w,z6x,z6y,z6z,z6A,z6B,z6C,z6D,z6E,z6F,(.slice z2O r.2.length z2P),z6G,z6H],row (.slice z2O r.2.length z2P) 113 7 (r.2.flatMap yx)]:=by
 unfold y38 at h
 refine Calls.yo (vs:=[(.iface 111 (.pointer (some ⟨z3X,11,none⟩))),(.int .i64 i0_9332),(.int .i64 z3v)]) (pre:=[stb z3X 81 [z6v,z6w,z6x,z6y,z6z,z6A,z6B,z6C,z6D,z6E,z6F,(.slice z2O z2e.length z2P),z6G,z6H],row (.slice z2O z2e.length z2P) 113 7 (z2e.flatMap yx)]) (env:=[(0,(.iface 111 (.pointer (some ⟨z3X,11,none⟩)))),(1,(.int .i64 i0_9332)),(2,(.int .i64 z3v))]) Try.func51 rfl Try.ntmps51 rfl (hown) rfl ?_
 refine WC.b (WC.a (WL.pu rfl (WL.nil (WX.a (WC.b (WC.a (WL.pu rfl (WL.pu rfl (WL.nil (WX.a ?_))))))))))
 obtain ⟨z6u,zuc,h⟩:=y34 h
 refine WC.y2v (fun (z8p : Int) (z5u : List Snetwork_event)=>(z6u z8p z5u = some r) ∧ (z5u.length = z2e.length)) (fun (z8p : Int) (z5u : List Snetwork_event)=>[(1,(.int .i64 i0_9332)),(7,(.int .i64 z8p))]) (fun (z8p : Int) (z5u : List Snetwork_event)=>[row (.slice z2O z5u.length z2P) 113 7 (z5u.flatMap yx),stb z3X 81 [z6v,z6w,z6x,z6y,z6z,z6A,z6B,z6C,z6D,z6E,z6F,(.slice z2O z5u.length z2P),z6G,z6H]]) ?_ ?_
 ·skip
  refine WC.block ?_
  refine WC.y2c (fun (zbq : Nat) (z1w : Int) (z2d : List Snetwork_event)=>(y1R z3v z6u zbq z1w z2d = some r) ∧ (z2d.length = z2e.length)) (fun (zbq : Nat) (z1w : Int) (z2d : List Snetwork_event)=>[(0,(.iface 111 (.pointer (some ⟨z3X,11,none⟩)))),(1,(.int .i64 i0_9332)),(2,(.int .i64 z3v)),(7,(.int .i64 z1w))]) (fun (zbq : Nat) (z1w : Int) (z2d : List Snetwork_event)=>[row (.slice z2O z2d.length z2P) 113 7 (z2d.flatMap yx),stb z3X 81 [z6v,z6w,z6x,z6y,z6z,z6A,z6B,z6C,z6D,z6E,z6F,(.slice z2O z2d.length z2P),z6G,z6H]]) (fun (zbq : Nat) (z1w : Int) (z2d : List Snetwork_event)=>zbq) ⟨yP,i0_9332,z2e⟩ ⟨h,rfl⟩ (.cons rfl (.cons rfl (.cons rfl (.cons rfl .nil)))) (.cons .h1 (.cons .here .nil)) ?_
  rintro zbq z1w z2d ⟨h,ziR⟩
  obtain ⟨ziP,rfl⟩:=y4k h
  rw [y1R] at h
  refine WC.block (WC.b (WC.a (WL.pu rfl (WL.pu rfl (WL.pu rfl (WL.pu rfl (WL.nil (WX.a (WC.b (WC.b (WC.a (WL.pu rfl (WL.pu rfl (WL.pu rfl (WL.pu rfl ?_)))))))))))))))
  refine WL.seg false 2 18 (B:=(decide ((i64 ((i64 (2 * z1w)) + 1)) ≥ z3v)) || (decide ((i64 ((i64 (2 * z1w)) + 1)) < 0))) rfl rfl rfl rfl rfl rfl (fun h=>(y20 h).symm) (fun _ zud=>?_) ?_
  ·skip
   refine WL.pu rfl (WL.pu rfl (WL.pu rfl ?_))
   exact WL.yi (y21 zud) rfl rfl .all
  refine WL.nil (WX.a ?_)
  refine WC.cond rfl (fun ziS=>?_) (fun ziS=>?_)
  ·replace h:=yg h ziS
   refine WC.exit (WX.yk (WX.y4O rfl (WX.yk (WX.yC ?_))))
   exact WX.mid (G:=Int × List Snetwork_event) ⟨z1w,z2d⟩ ⟨h,ziR⟩ (.cons rfl (.cons rfl .nil)) (.cons .here (.cons .here .nil))
  ·replace h:=yh h ziS
   refine WC.skip (WX.a (WC.b (WC.a (WL.pu rfl (WL.pu rfl (WL.nil (WX.a ?_)))))))
   obtain ⟨zfQ,zue,h⟩:=yO h
   refine WC.y1Q (fun (z5t : Int)=>(zfQ z5t = some r)) (fun (z5t : Int)=>[(0,(.iface 111 (.pointer (some ⟨z3X,11,none⟩)))),(1,(.int .i64 i0_9332)),(2,(.int .i64 z3v)),(7,(.int .i64 z1w)),(9,(.int .i64 z5t))]) (fun (z5t : Int)=>[row (.slice z2O z2d.length z2P) 113 7 (z2d.flatMap yx),stb z3X 81 [z6v,z6w,z6x,z6y,z6z,z6A,z6B,z6C,z6D,z6E,z6F,(.slice z2O z2d.length z2P),z6G,z6H]]) ?_ ?_
   ·skip
    refine WC.b (WC.a (WL.pu rfl (WL.pu rfl (WL.pu rfl (WL.nil (WX.a (WC.b ?_)))))))
    obtain ⟨ziQ,znA,h⟩:=z8 h
    refine WC.a (WL.pu rfl (WL.pu rfl (WL.pu rfl (WL.pu rfl ?_))))
    refine WL.seg true 4 28 (B:=ziQ) rfl rfl rfl rfl rfl rfl (fun h=>(Option.some.inj (yh znA h)).symm) (fun _ zuf=>?_) ?_
    ·skip
     have zea:=yg znA zuf
     obtain ⟨znz,zug,zea⟩:=z8 zea
     replace zea:=Option.some.inj zea
     refine WL.pu rfl (WL.pu rfl (WL.pu rfl ?_))
     refine WL.b (dd:=32) rfl rfl rfl (y2C (l:=[.tmp 30,.tmp 31]) (y4S) Try.call87 rfl (yd .h1 rfl) (.cons rfl (.cons rfl .nil))) .nil (ccl hz .nil (.cons .here .nil) fun w pz ho la=>y3f _ _ _ _ _ _ _ zug w pz (ZA.row (la _ (.head _) _) (RR.yE (enc:=yx) (fun _=>rfl) _) ⟨w,pz.1⟩)) ?_
     refine WL.pu rfl ?_
     exact WL.yi zea rfl rfl .all
    refine WL.nil (WX.a ?_)
    refine WC.cond rfl (fun ziT=>?_) (fun ziT=>?_)
    ·replace h:=yg h ziT
     refine WC.a (WL.pu rfl (WL.pu rfl (WL.nil ?_)))
     exact WX.mid (G:=Int) (i64 ((i64 ((i64 (2 * z1w)) + 1)) + 1)) h (.cons rfl (.cons rfl (.cons rfl (.cons rfl (.cons rfl .nil))))) (.cons .here (.cons .here .nil))
    ·replace h:=yh h ziT
     refine WC.skip ?_
     exact WX.mid (G:=Int) (i64 ((i64 (2 * z1w)) + 1)) h (.cons rfl (.cons rfl (.cons rfl (.cons rfl (.cons rfl .nil))))) (.cons .here (.cons .here .nil))
   ·rintro z5t h
    replace h:=(zue z5t).symm.trans h
    refine WC.b (WC.b ?_)
    obtain ⟨zny,zuh,h⟩:=z8 h
    refine WC.a (WL.pu rfl (WL.pu rfl (WL.pu rfl ?_)))
    refine WL.b (dd:=38) rfl rfl rfl (y2C (l:=[.tmp 36,.tmp 37]) (y4S) Try.call87 rfl (yd .h1 rfl) (.cons rfl (.cons rfl .nil))) .nil (ccl hz .nil (.cons .here .nil) fun w pz ho la=>y3f _ _ _ _ _ _ _ zuh w pz (ZA.row (la _ (.head _) _) (RR.yE (enc:=yx) (fun _=>rfl) _) ⟨w,pz.1⟩)) ?_
    refine WL.pu rfl (WL.nil (WX.a ?_))
    refine WC.cond rfl (fun ziU=>?_) (fun ziU=>?_)
    ·replace h:=yg h ziU
     refine WC.exit (WX.yk (WX.y4O rfl (WX.yk (WX.yC ?_))))
     exact WX.mid (G:=Int × List Snetwork_event) ⟨z1w,z2d⟩ ⟨h,ziR⟩ (.cons rfl (.cons rfl .nil)) (.cons .here (.cons .here .nil))
    ·replace h:=yh h ziU
     refine WC.skip (WX.a (WC.b ?_))
     obtain ⟨zfP,zui,h⟩:=z8 h
     refine WC.a (WL.pu rfl (WL.pu rfl (WL.pu rfl ?_)))
     refine WL.y1D (dd:=43) rfl rfl rfl (y2C (l:=[.tmp 41,.tmp 42]) (y4T) Try.call88 rfl (yd .h1 rfl) (.cons rfl (.cons rfl .nil))) (.cons .here .nil) (cc hz (.cons .here .nil) fun w pz ho=>y3g _ _ _ _ _ _ _ zui w pz  ho) ?_
     rintro  znB
     refine WL.restb (cs':=[z6v,z6w,z6x,z6y,z6z,z6A,z6B,z6C,z6D,z6E,z6F,(.slice z2O zfP.length z2P),z6G,z6H]) .h1 (by rw [znB]) ?_
     refine WL.nil (WX.a (WC.a (WL.pu rfl (WL.pu rfl (WL.nil (WX.yf ?_))))))
     exact WX.round (G:=Nat × Int × List Snetwork_event) ⟨ziP,z5t,zfP⟩ ⟨h,(znB.trans ziR)⟩ (Nat.lt_succ_self _) (.cons rfl (.cons rfl (.cons rfl (.cons rfl .nil)))) (.cons .h1 (.cons .here .nil))
 ·rintro z8p z5u ⟨h,zuj⟩
  replace h:=(zuc z8p z5u).symm.trans h
  refine WC.b (WC.a (WL.pu rfl (WL.pu rfl (WL.pu rfl (WL.pu rfl (WL.nil (WX.a (WC.ret ?_))))))))
  obtain rfl:=Option.some.inj h
  refine WX.yj Try.results51 (.tmp rfl .nil) (fun w hw=>?_)
  exact ⟨yL rfl,zuj,hw.sub (.cons .h1 (.cons .here .nil))⟩
def y3h (zQ : List Snetwork_event) : Option Snetwork_event :=
 chk ((0 : Int) ≤ (i64 (((zQ.length : Nat) : Int) - 1)) ∧ (i64 (((zQ.length : Nat) : Int) - 1)) < ((zQ.length : Nat) : Int)) (chk ((0 : Int) ≤ (i64 (((zQ.length : Nat) : Int) - 1)) ∧ (i64 (((zQ.length : Nat) : Int) - 1)) ≤ ((zQ.length : Nat) : Int)) (some (⟨((nth zQ (i64 (((zQ.length : Nat) : Int) - 1))).fTime),((nth zQ (i64 (((zQ.length : Nat) : Int) - 1))).fIn_),((nth zQ (i64 (((zQ.length : Nat) : Int) - 1))).fVl),((nth zQ (i64 (((zQ.length : Nat) : Int) - 1))).fSent),(⟨(((nth zQ (i64 (((zQ.length : Nat) : Int) - 1))).fHop).fNode),(((nth zQ (i64 (((zQ.length : Nat) : Int) - 1))).fHop).fNext),(((nth zQ (i64 (((zQ.length : Nat) : Int) - 1))).fHop).fLink)⟩ : Sapi_Hop)⟩ : Snetwork_event)))
set_option maxRecDepth 20000 in
theorem y5u (Z : Zp) (z7G : Nat) (z6I : Option Addr) (z6J : Nat) (z9F : Value) (z9G : Value) (z9H : Value) (z9I : Value) (z9J : Value) (z9K : Value) (z9L : Value) (z9M : Value) (z9N : Value) (z9O : Value) (z9P : Value) (z9Q : Value) (z9R : Value) (zQ : List Snetwork_event) (r : Snetwork_event)
  (h : y3h zQ = some r) (w₀ : World) (hz : PZ (fps [stb z7G 81 [z9F,z9G,z9H,z9I,z9J,z9K,z9L,z9M,z9N,z9O,z9P,(.slice z6I zQ.length z6J),z9Q,z9R],row (.slice z6I zQ.length z6J) 113 7 (zQ.flatMap yx)]) w₀ Z)
  (hown : Hp (fps [stb z7G 81 [z9F,z9G,z9H,z9I,z9J,z9K,z9L,z9M,z9N,z9O,z9P,(.slice z6I zQ.length z6J),z9Q,z9R],row (.slice z6I zQ.length z6J) 113 7 (zQ.flatMap yx)]) w₀ w₀ [stb z7G 81 [z9F,z9G,z9H,z9I,z9J,z9K,z9L,z9M,z9N,z9O,z9P,(.slice z6I zQ.length z6J),z9Q,z9R],row (.slice z6I zQ.length z6J) 113 7 (zQ.flatMap yx)]) :
  Calls Try.prog 91 #[(.pointer (some ⟨z7G,11,none⟩))] w₀ fun e w'=>∃ znC : Option Addr,∃ znD : Nat,e = .returned (.iface 113 (.agg #[(.int .i64 r.fTime),(.int .i64 r.fIn_),(.int .i64 r.fVl),(.int .i64 r.fSent),(.int .i64 r.fHop.fNode),(.int .i64 r.fHop.fNext),(.int .i64 r.fHop.fLink)])) ∧ True ∧ Hp (fps [stb z7G 81 [z9F,z9G,z9H,z9I,z9J,z9K,z9L,z9M,z9N,z9O,z9P,(.slice z6I zQ.length z6J),z9Q,z9R],row (.slice z6I zQ.length z6J) 113 7 (zQ.flatMap yx)]) w₀ w' [stb z7G 81 [z9F,z9G,z9H,z9I,z9J,z9K,z9L,z9M,z9N,z9O,z9P,(.slice znC ((zQ.take ((i64 (((zQ.length : Nat) : Int) - 1)) : Int).toNat).length) znD),z9Q,z9R],row (.slice znC ((zQ.take ((i64 (((zQ.length : Nat) : Int) - 1)) : Int).toNat).length) znD) 113 7 ((zQ.take ((i64 (((zQ.length : Nat) : Int) - 1)) : Int).toNat).flatMap yx)]:=by
 unfold y3h at h
 refine Calls.yo (vs:=[(.pointer (some ⟨z7G,11,none⟩))]) (pre:=[stb z7G 81 [z9F,z9G,z9H,z9I,z9J,z9K,z9L,z9M,z9N,z9O,z9P,(.slice z6I zQ.length z6J),z9Q,z9R],row (.slice z6I zQ.length z6J) 113 7 (zQ.flatMap yx)]) (env:=[(0,(.pointer (some ⟨z7G,11,none⟩)))]) Try.func91 rfl Try.ntmps91 rfl (hown) rfl ?_
 refine WC.b (WC.a (WL.pu rfl (WL.nil (WX.a (WC.b (WC.a (WL.pu rfl ?_)))))))
 refine WL.a (d:=6) rfl rfl rfl (yv rfl) ?_
 refine WL.a (d:=7) rfl rfl rfl (yb y4N rfl (yd .here rfl)) ?_
 refine WL.pu rfl (WL.nil (WX.a (WC.b ?_)))
 obtain ⟨zeb,h⟩:=ye h
 refine WC.a (WL.pu rfl (WL.pu rfl ?_))
 refine WL.a (d:=10) rfl rfl rfl (yz Try.underlying79 rfl) ?_
 refine WL.pu rfl ?_
 refine WL.know (fun w hw=>Hp.y15 .h1 hw (by intro hz'; have:=zeb; rw [hz'] at this; omega)) ?_
 rintro ⟨zCm,rfl⟩
 refine WL.a (d:=12) rfl rfl rfl (ym y42 rfl rfl zeb.1 zeb.2 yM) ?_
 refine WL.a (d:=13) rfl rfl rfl (y1y (cs:=(yx (nth zQ (i64 (((zQ.length : Nat) : Int) - 1))))) zam rfl rfl (y1K .h1 (y1A (enc:=yx) (l:=zQ) (i:=i64 (((zQ.length : Nat) : Int) - 1)) (sz:=7) (fun _=>rfl) zeb.1 zeb.2))) ?_
 refine WL.new (dd:=4) rfl rfl rfl (y2m (cs:=[(.int .i64 0),(.int .i64 0),(.int .i64 0),(.int .i64 0),(.int .i64 0),(.int .i64 0),(.int .i64 0)]) zlE rfl) ?_
 intro zCn _
 refine WL.y10 rfl rfl (y1W zfh rfl rfl rfl .here rfl rfl rfl) ?_
 refine WL.nil (WX.a (WC.b ?_))
 obtain ⟨zuk,h⟩:=ye h
 refine WC.a (WL.pu rfl (WL.pu rfl (WL.pu rfl ?_)))
 refine WL.a (d:=17) rfl rfl rfl (yz Try.underlying79 rfl) ?_
 refine WL.pu rfl ?_
 refine WL.y64 (dd:=19) (enc:=yx) (ls:=zQ) rfl rfl y42 rfl rfl .h2 (fun _=>rfl) zuk ?_
 intro znE znF
 refine WL.a (d:=20) rfl rfl rfl (yv rfl) ?_
 refine WL.y10 rfl rfl (y3Q (ds:=[z9F,z9G,z9H,z9I,z9J,z9K,z9L,z9M,z9N,z9O,z9P,(.slice znE ((zQ.take ((i64 (((zQ.length : Nat) : Int) - 1)) : Int).toNat).length) znF),z9Q,z9R]) y82 rfl rfl rfl rfl rfl .h2 rfl rfl) ?_
 refine WL.nil (WX.a (WC.b (WC.a ?_)))
 refine WL.a (d:=21) rfl rfl rfl (yu zam rfl (yJ .h2) rfl) ?_
 refine WL.a (d:=22) rfl rfl rfl (y52 Try.underlying113 rfl rfl) ?_
 refine WL.pu rfl (WL.nil (WX.a (WC.ret ?_)))
 obtain rfl:=Option.some.inj h
 refine WX.yj Try.results91 (.tmp rfl .nil) (fun w hw=>?_)
 exact ⟨znE,znF,yL rfl,trivial,hw.sub (.cons .here (.cons .here .nil))⟩
def y3i (z2Q : List Snetwork_event) : Option (Snetwork_event × List Snetwork_event) :=
 (y2z z2Q).bind fun ziV=>(y27 z2Q 0 (i64 (ziV - 1))).bind fun ziW=>(y38 ziW 0 (i64 (ziV - 1))).bind fun zec=>(y3h zec.2).bind fun znG=>some (znG,(zec.2.take ((i64 (((zec.2.length : Nat) : Int) - 1)) : Int).toNat))
set_option maxRecDepth 20000 in
theorem y5v (Z : Zp) (z7H : Nat) (z4J : Option Addr) (z4K : Nat) (z8q : Value) (z8r : Value) (z8s : Value) (z8t : Value) (z8u : Value) (z8v : Value) (z8w : Value) (z8x : Value) (z8y : Value) (z8z : Value) (z8A : Value) (z8B : Value) (z8C : Value) (z2Q : List Snetwork_event) (r : Snetwork_event × List Snetwork_event)
  (h : y3i z2Q = some r) (w₀ : World) (hz : PZ (fps [stb z7H 81 [z8q,z8r,z8s,z8t,z8u,z8v,z8w,z8x,z8y,z8z,z8A,(.slice z4J z2Q.length z4K),z8B,z8C],row (.slice z4J z2Q.length z4K) 113 7 (z2Q.flatMap yx)]) w₀ Z)
  (hown : Hp (fps [stb z7H 81 [z8q,z8r,z8s,z8t,z8u,z8v,z8w,z8x,z8y,z8z,z8A,(.slice z4J z2Q.length z4K),z8B,z8C],row (.slice z4J z2Q.length z4K) 113 7 (z2Q.flatMap yx)]) w₀ w₀ [stb z7H 81 [z8q,z8r,z8s,z8t,z8u,z8v,z8w,z8x,z8y,z8z,z8A,(.slice z4J z2Q.length z4K),z8B,z8C],row (.slice z4J z2Q.length z4K) 113 7 (z2Q.flatMap yx)]) :
  Calls Try.prog 39 #[(.iface 111 (.pointer (some ⟨z7H,11,none⟩)))] w₀ fun e w'=>∃ znH : Option Addr,∃ znI : Nat,e = .returned (.iface 113 (.agg #[(.int .i64 r.1.fTime),(.int .i64 r.1.fIn_),(.int .i64 r.1.fVl),(.int .i64 r.1.fSent),(.int .i64 r.1.fHop.fNode),(.int .i64 r.1.fHop.fNext),(.int .i64 r.1.fHop.fLink)])) ∧ True ∧ Hp (fps [stb z7H 81 [z8q,z8r,z8s,z8t,z8u,z8v,z8w,z8x,z8y,z8z,z8A,(.slice z4J z2Q.length z4K),z8B,z8C],row (.slice z4J z2Q.length z4K) 113 7 (z2Q.flatMap yx)]) w₀ w' [stb z7H 81 [z8q,z8r,z8s,z8t,z8u,z8v,z8w,z8x,z8y,z8z,z8A,(.slice znH r.2.length znI),z8B,z8C],row (.slice znH r.2.length znI) 113 7 (r.2.flatMap yx)]:=by
 unfold y3i at h
 refine Calls.yo (vs:=[(.iface 111 (.pointer (some ⟨z7H,11,none⟩)))]) (pre:=[stb z7H 81 [z8q,z8r,z8s,z8t,z8u,z8v,z8w,z8x,z8y,z8z,z8A,(.slice z4J z2Q.length z4K),z8B,z8C],row (.slice z4J z2Q.length z4K) 113 7 (z2Q.flatMap yx)]) (env:=[(0,(.iface 111 (.pointer (some ⟨z7H,11,none⟩))))]) Try.func39 rfl Try.ntmps39 rfl (hown) rfl ?_
 refine WC.b (WC.a (WL.pu rfl (WL.nil (WX.a (WC.b ?_)))))
 obtain ⟨ziV,zul,h⟩:=z8 h
 refine WC.a (WL.pu rfl ?_)
 refine WL.b (dd:=5) rfl rfl rfl (y2C (l:=[]) (y6o) Try.call86 rfl (yd .here rfl) .nil) .nil (ccl hz .nil (.cons .h1 .nil) fun w pz ho la=>y4i _ _ _ _ _ zul w pz (ZA.row (la _ (.head _) _) (RR.yE (enc:=yx) (fun _=>rfl) _) ⟨w,pz.1⟩)) ?_
 refine WL.pu rfl (WL.pu rfl (WL.nil (WX.a (WC.b ?_))))
 obtain ⟨ziW,zum,h⟩:=z8 h
 refine WC.a (WL.pu rfl (WL.pu rfl ?_))
 refine WL.y1D (dd:=9) rfl rfl rfl (y2C (l:=[.const (.int .i64 0),.tmp 8]) (y4T) Try.call88 rfl (yd .here rfl) (.cons rfl (.cons rfl .nil))) (.cons .h1 .nil) (cc hz (.cons .h1 .nil) fun w pz ho=>y3g _ _ _ _ _ _ _ zum w pz  ho) ?_
 rintro  zun
 refine WL.restb (cs':=[z8q,z8r,z8s,z8t,z8u,z8v,z8w,z8x,z8y,z8z,z8A,(.slice z4J ziW.length z4K),z8B,z8C]) .h1 (by rw [zun]) ?_
 refine WL.nil (WX.a (WC.b ?_))
 obtain ⟨zec,zuo,h⟩:=z8 h
 refine WC.a (WL.pu rfl (WL.pu rfl ?_))
 refine WL.y1D (dd:=12) rfl rfl rfl (zt (l:=[.tmp 10,.const (.int .i64 0),.tmp 11]) Try.call51 (.cons rfl (.cons rfl (.cons rfl .nil)))) (.cons .here (.cons .here .nil)) (cc hz (.cons .here (.cons .here .nil)) fun w pz ho=>y5a _ _ _ _ _ _ _ _ _ _ _ _ _ _ _ _ _ _ _ _ _ zuo w pz  ho) ?_
 rintro  zup
 refine WL.restb (cs':=[z8q,z8r,z8s,z8t,z8u,z8v,z8w,z8x,z8y,z8z,z8A,(.slice z4J zec.2.length z4K),z8B,z8C]) .here (by rw [zup]) ?_
 refine WL.nil (WX.a (WC.b ?_))
 obtain ⟨znG,zuq,h⟩:=z8 h
 refine WC.a (WL.pu rfl ?_)
 refine WL.y4C (dd:=14) rfl rfl rfl (y6H (l:=[]) (y7Q _) Try.call91 rfl .nil) (.cons .here (.cons .here .nil)) (cc hz (.cons .here (.cons .here .nil)) fun w pz ho=>y5u _ _ _ _ _ _ _ _ _ _ _ _ _ _ _ _ _ _ _ zuq w pz  ho) ?_
 rintro zur zus _
 refine WL.pu rfl (WL.nil (WX.a (WC.ret ?_)))
 obtain rfl:=Option.some.inj h
 refine WX.yj Try.results39 (.tmp rfl .nil) (fun w hw=>?_)
 exact ⟨zur,zus,yL rfl,trivial,hw.sub (.cons .here (.cons .here .nil))⟩
def y5O (z2n : Int) (z33 : Int) (z3Y : Int) : Option Sport_Port :=
 if (((((decide (z2n < 1)) || (decide (z2n > 16))) || (decide (z33 < 0))) || (decide (z33 > 1000))) || (decide (z3Y < 0))) || (decide (z3Y > 1073741824)) then none else some (⟨(⟨z2n,z33,z3Y⟩ : Sport_numbers),0,0,([] : List Sport_frame)⟩ : Sport_Port)
set_option maxRecDepth 20000 in
theorem y8f (Z : Zp)  (z2n : Int) (z33 : Int) (z3Y : Int) (r : Sport_Port)
  (h : y5O z2n z33 z3Y = some r) (w₀ : World) (hz : PZ [] w₀ Z) :
  Calls Try.prog 52 #[(.int .i64 z2n),(.int .i64 z33),(.int .i64 z3Y)] w₀ fun e w'=>∃ znJ : Nat,∃ znK : Option Addr,∃ znL : Nat,e = .returned (.tuple #[(.pointer (some ⟨znJ,0,none⟩)),(.int .i64 0)]) ∧ True ∧ Hp [] w₀ w' [stb znJ 143 [(.int .i64 r.fNumbers.fSlow),(.int .i64 r.fNumbers.fDelay),(.int .i64 r.fNumbers.fStore),(.int .i64 r.fNow),(.int .i64 r.fLast),(.slice znK r.fFrames.length znL)],row (.slice znK r.fFrames.length znL) 146 2 (r.fFrames.flatMap y1P)]:=by
 unfold y5O at h
 refine Calls.yo (vs:=[(.int .i64 z2n),(.int .i64 z33),(.int .i64 z3Y)]) (pre:=[]) (env:=[(0,(.int .i64 z2n)),(1,(.int .i64 z33)),(2,(.int .i64 z3Y))]) Try.func52 rfl Try.ntmps52 rfl (Hp.nil w₀ _) rfl ?_
 refine WC.b (WC.a (WL.pu rfl (WL.pu rfl (WL.nil (WX.a (WC.b (WC.b (WC.a (WL.pu rfl (WL.pu rfl (WL.pu rfl ?_)))))))))))
 refine WL.seg false 2 10 (B:=(decide (z2n < 1)) || (decide (z2n > 16))) rfl rfl rfl rfl rfl rfl (fun h=>(y20 h).symm) (fun _ zut=>?_) ?_
 ·skip
  refine WL.pu rfl (WL.pu rfl (WL.pu rfl ?_))
  exact WL.yi (y21 zut) rfl rfl .all
 refine WL.pu rfl ?_
 refine WL.seg false 2 14 (B:=((decide (z2n < 1)) || (decide (z2n > 16))) || (decide (z33 < 0))) rfl rfl rfl rfl rfl rfl (fun h=>(y20 h).symm) (fun _ zuu=>?_) ?_
 ·skip
  refine WL.pu rfl (WL.pu rfl (WL.pu rfl ?_))
  exact WL.yi (y21 zuu) rfl rfl .all
 refine WL.pu rfl ?_
 refine WL.seg false 2 18 (B:=(((decide (z2n < 1)) || (decide (z2n > 16))) || (decide (z33 < 0))) || (decide (z33 > 1000))) rfl rfl rfl rfl rfl rfl (fun h=>(y20 h).symm) (fun _ zuv=>?_) ?_
 ·skip
  refine WL.pu rfl (WL.pu rfl (WL.pu rfl ?_))
  exact WL.yi (y21 zuv) rfl rfl .all
 refine WL.pu rfl ?_
 refine WL.seg false 2 22 (B:=((((decide (z2n < 1)) || (decide (z2n > 16))) || (decide (z33 < 0))) || (decide (z33 > 1000))) || (decide (z3Y < 0))) rfl rfl rfl rfl rfl rfl (fun h=>(y20 h).symm) (fun _ zuw=>?_) ?_
 ·skip
  refine WL.pu rfl (WL.pu rfl (WL.pu rfl ?_))
  exact WL.yi (y21 zuw) rfl rfl .all
 refine WL.pu rfl ?_
 refine WL.seg false 2 26 (B:=(((((decide (z2n < 1)) || (decide (z2n > 16))) || (decide (z33 < 0))) || (decide (z33 > 1000))) || (decide (z3Y < 0))) || (decide (z3Y > 1073741824))) rfl rfl rfl rfl rfl rfl (fun h=>(y20 h).symm) (fun _ zux=>?_) ?_
 ·skip
  refine WL.pu rfl (WL.pu rfl (WL.pu rfl ?_))
  exact WL.yi (y21 zux) rfl rfl .all
 refine WL.nil (WX.a ?_)
 refine WC.cond rfl (fun ziX=>?_) (fun ziX=>?_)
 ·replace h:=yg h ziX
  refine WC.b (WC.a (WL.pu rfl (WL.pu rfl (WL.nil (WX.a (WC.ret (WX.yn ?_)))))))
  cases h
 ·replace h:=yh h ziX
  refine WC.skip (WX.a (WC.b (WC.a (WL.pu rfl (WL.pu rfl (WL.pu rfl ?_))))))
  refine WL.a (d:=33) rfl rfl rfl (y1l (v:=(.agg #[(.int .i64 z2n),(.int .i64 z33),(.int .i64 z3Y)])) (Eos.parts (l:=[.tmp 30,.tmp 31,.tmp 32]) (.cons rfl (.cons rfl (.cons rfl .nil))) [0,1,2]) (fun _=>by kernel_rfl)) ?_
  refine WL.a (d:=34) rfl rfl rfl (y1l (v:=(.agg #[(.int .i64 z2n),(.int .i64 z33),(.int .i64 z3Y),(.int .i64 0),(.int .i64 0),(.slice none 0 0)])) (Eos.parts (l:=[.tmp 33]) (.cons rfl .nil) [0]) (fun _=>by kernel_rfl)) ?_
  refine WL.new (dd:=35) rfl rfl rfl (y25 (cs:=[(.int .i64 z2n),(.int .i64 z33),(.int .i64 z3Y),(.int .i64 0),(.int .i64 0),(.slice none 0 0)]) rfl rfl) ?_
  intro zuy _
  refine WL.pu rfl (WL.pu rfl (WL.nil (WX.a (WC.ret ?_))))
  refine WX.nilRow 146 2 ?_
  obtain rfl:=Option.some.inj h
  refine WX.yj Try.results52 (.tmp rfl (.tmp rfl .nil)) (fun w hw=>?_)
  exact ⟨zuy,none,0,ret2 rfl rfl,trivial,hw.sub (.cons .h1 (.cons .here .nil))⟩
def y45 (z1f : Sapi_Config) (zfR : List (List Sapi_Hop)) (zfS : List zSt) (z8D : List (Snetwork_exit × Sport_Port)) (zfT : List Snetwork_event) (zfU : List Sapi_Come) (zfV : List Sapi_Come) (zJ : Sapi_Hop) : Option (List (Snetwork_exit × Sport_Port)) :=
 jp1 (fun (z8E : List (Snetwork_exit × Sport_Port))=>some z8E) fun zfW=>if !y3d z8D (⟨zJ.fNode,zJ.fLink⟩ : Snetwork_exit) then jp2 (fun (z8F : Int) (z8G : Int)=>chk ((0 : Int) ≤ zJ.fLink ∧ zJ.fLink < ((z1f.fLinks.length : Nat) : Int)) ((y5O ((nth z1f.fLinks zJ.fLink).fSlow) z8F z8G).bind fun z9S=>zfW (y1g z8D (⟨zJ.fNode,zJ.fLink⟩ : Snetwork_exit) z9S))) fun zfX=>if decide ((i64 (zJ.fNode - ((z1f.fModules.length : Nat) : Int))) ≥ 0) then chk ((0 : Int) ≤ (i64 (zJ.fNode - ((z1f.fModules.length : Nat) : Int))) ∧ (i64 (zJ.fNode - ((z1f.fModules.length : Nat) : Int))) < ((z1f.fSwitches.length : Nat) : Int)) (zfX ((nth z1f.fSwitches (i64 (zJ.fNode - ((z1f.fModules.length : Nat) : Int)))).fDelay) ((nth z1f.fSwitches (i64 (zJ.fNode - ((z1f.fModules.length : Nat) : Int)))).fStore)) else zfX 0 1073741824 else zfW z8D
set_option maxRecDepth 20000 in
theorem y6y (Z : Zp) (zbr : Addr) (znM : Option Addr) (znN : Nat) (znO : Option Addr) (znP : Nat) (znQ : Option Addr) (znR : Nat) (znS : Option Addr) (znT : Nat) (znU : Option Addr) (znV : Nat) (znW : Option Addr) (znX : Nat) (znY : Option Addr) (znZ : Nat) (zo0 : Option Addr) (zo1 : Nat) (zo2 : Option Addr) (zo3 : Nat) (zo4 : Option Addr) (zo5 : Nat) (z6K : Nat) (z3g : List (Snetwork_exit × ((Nat × (Option Addr × Nat)) × Sport_Port))) (zo6 : Option Addr) (zo7 : Nat) (zo8 : Option Addr) (zo9 : Nat) (zoa : Option Addr) (zob : Nat) (z1f : Sapi_Config) (zfR : List (List Sapi_Hop)) (zfS : List zSt) (z8D : List (Snetwork_exit × Sport_Port)) (zfT : List Snetwork_event) (zfU : List Sapi_Come) (zfV : List Sapi_Come) (zJ : Sapi_Hop) (r : (List (Snetwork_exit × Sport_Port)))
  (h : y45 z1f zfR zfS z8D zfT zfU zfV zJ = some r) (w₀ : World) (hz : PZ (fps [y1e z6K (fun x=>Value.agg (y1I x).toArray) Value.pointer (y1o z3g),y1m z13 z3g]) w₀ Z)
  (zCo : ZS Z 4 (y2h Z) znM znN z1f.fModules)
  (zCp : ZS Z 4 (y2x Z) znO znP z1f.fChannels)
  (zoc : ZS Z 4 (fun r x=>r = e64 x) znQ znR z1f.fSwitches)
  (zuz : ZS Z 4 (fun r x=>r = e62 x) znS znT z1f.fLinks)
  (zCq : ZS Z 7 (y2p Z) znU znV z1f.fVLs)
  (zCr : ZS Z 5 (fun r x=>r = y2K x) znW znX z1f.fHealth)
  (zCs : ZS Z 3 (y2y Z) znY znZ z1f.fCauses)
  (zCt : ZS Z 4 (fun r x=>r = y2L x) zo0 zo1 z1f.fVersions)
  (zCu : ZS Z 1 (p55 Z) zo2 zo3 zfR)
  (zCv : ZS Z 3 (fun r x=>r = e53 x) zo4 zo5 zfS)
  (ziY : dat z3g = z8D)
  (zCw : ZS Z 7 (fun r x=>r = yx x) zo6 zo7 zfT)
  (zCx : ZS Z 3 (fun r x=>r = e50 x) zo8 zo9 zfU)
  (zCy : ZS Z 3 (fun r x=>r = e50 x) zoa zob zfV)
  (z9T : ZC Z zbr [(.slice znM z1f.fModules.length znN),(.slice znO z1f.fChannels.length znP),(.slice znQ z1f.fSwitches.length znR),(.slice znS z1f.fLinks.length znT),(.slice znU z1f.fVLs.length znV),(.slice znW z1f.fHealth.length znX),(.slice znY z1f.fCauses.length znZ),(.slice zo0 z1f.fVersions.length zo1),(.slice zo2 zfR.length zo3),(.slice zo4 zfS.length zo5),(.map (some z6K)),(.slice zo6 zfT.length zo7),(.slice zo8 zfU.length zo9),(.slice zoa zfV.length zob)])
  (hown : Hp (fps [y1e z6K (fun x=>Value.agg (y1I x).toArray) Value.pointer (y1o z3g),y1m z13 z3g]) w₀ w₀ [y1e z6K (fun x=>Value.agg (y1I x).toArray) Value.pointer (y1o z3g),y1m z13 z3g]) :
  Calls Try.prog 40 #[(.pointer (some zbr)),(.agg #[(.int .i64 zJ.fNode),(.int .i64 zJ.fNext),(.int .i64 zJ.fLink)])] w₀ fun e w'=>∃ zfY : List (Snetwork_exit × ((Nat × (Option Addr × Nat)) × Sport_Port)),e = .returned (.pointer (yB (y1o zfY) (⟨zJ.fNode,zJ.fLink⟩ : Snetwork_exit) (none : Option Addr))) ∧ (dat zfY = r) ∧ Hp (fps [y1e z6K (fun x=>Value.agg (y1I x).toArray) Value.pointer (y1o z3g),y1m z13 z3g]) w₀ w' [y1e z6K (fun x=>Value.agg (y1I x).toArray) Value.pointer (y1o zfY),y1m z13 zfY]:=by
 unfold y45 at h
 refine Calls.yo (vs:=[(.pointer (some zbr)),(.agg #[(.int .i64 zJ.fNode),(.int .i64 zJ.fNext),(.int .i64 zJ.fLink)])]) (pre:=[y1e z6K (fun x=>Value.agg (y1I x).toArray) Value.pointer (y1o z3g),y1m z13 z3g]) (env:=[(0,(.pointer (some zbr))),(1,(.agg #[(.int .i64 zJ.fNode),(.int .i64 zJ.fNext),(.int .i64 zJ.fLink)]))]) Try.func40 rfl Try.ntmps40 rfl (hown) rfl ?_
 refine WC.b (WC.a ?_)
 refine WL.new (dd:=3) rfl rfl rfl (y25 (cs:=[(.int .i64 zJ.fNode),(.int .i64 zJ.fNext),(.int .i64 zJ.fLink)]) rfl rfl) ?_
 intro ziZ _
 refine WL.pu rfl (WL.nil (WX.a (WC.b (WC.a ?_))))
 refine WL.a (d:=9) rfl rfl rfl (ya y2F rfl rfl) ?_
 refine WL.a (d:=10) rfl rfl rfl (yb yl rfl (yd .here rfl)) ?_
 refine WL.a (d:=11) rfl rfl rfl (ya y5n rfl rfl) ?_
 refine WL.a (d:=12) rfl rfl rfl (yb yl rfl (yd .here rfl)) ?_
 refine WL.a (d:=13) rfl rfl rfl (y1l (v:=(.agg #[(.int .i64 zJ.fNode),(.int .i64 zJ.fLink)])) (Eos.parts (l:=[.tmp 10,.tmp 12]) (.cons rfl (.cons rfl .nil)) [0,1]) (fun _=>by kernel_rfl)) ?_
 refine WL.new (dd:=5) rfl rfl rfl (y2m (cs:=[(.int .i64 0),(.int .i64 0)]) zrn rfl) ?_
 intro zed _
 refine WL.y10 rfl rfl (y1W zro rfl rfl rfl .here rfl rfl rfl) ?_
 refine WL.nil (WX.a ?_)
 obtain ⟨zfW,zuA,h⟩:=yO h
 refine WC.y2v (fun (z8E : List (Snetwork_exit × Sport_Port)) (z9U : List (Snetwork_exit × ((Nat × (Option Addr × Nat)) × Sport_Port)))=>(zfW z8E = some r) ∧ (dat z9U = z8E)) (fun (z8E : List (Snetwork_exit × Sport_Port)) (z9U : List (Snetwork_exit × ((Nat × (Option Addr × Nat)) × Sport_Port)))=>[(0,(.pointer (some zbr))),(5,(.pointer (some ⟨zed,0,none⟩)))]) (fun (z8E : List (Snetwork_exit × Sport_Port)) (z9U : List (Snetwork_exit × ((Nat × (Option Addr × Nat)) × Sport_Port)))=>[stb zed 136 [(.int .i64 zJ.fNode),(.int .i64 zJ.fLink)],y1e z6K (fun x=>Value.agg (y1I x).toArray) Value.pointer (y1o z9U),y1m z13 z9U]) ?_ ?_
 ·skip
  refine WC.b ?_
  refine WC.yV (fun i=>[].contains i) [] rfl ?_
  refine WD.a (i:=0) (d:=14) (by kernel_rfl) rfl z2 z3 rfl rfl rfl (fun _=>q_m rfl) ?_
  refine WD.a (i:=1) (d:=15) (by kernel_rfl) rfl z2 z3 rfl rfl rfl (fun _=>yv rfl) ?_
  refine WD.a (i:=2) (d:=16) (by kernel_rfl) rfl z2 z3 rfl rfl rfl (fun _=>ya y71 rfl rfl) ?_
  refine WD.e (i:=3) (d:=17) (by kernel_rfl) rfl z2 z3 rfl rfl rfl (yb y72 rfl (y22 hz.pv z9T rfl)) ?_
  refine WD.e (i:=4) (d:=18) (by kernel_rfl) rfl z2 z3 rfl rfl rfl (yu zhj rfl (yJ .here) rfl) ?_
  refine WD.e (i:=5) (d:=19) (by kernel_rfl) rfl z2 z3 rfl rfl rfl (y4s (k:=(⟨zJ.fNode,zJ.fLink⟩ : Snetwork_exit)) (dflt:=(none : Option Addr)) zhk Try.underlying77 zlF rfl rfl rfl .h2) ?_
  refine WD.a (i:=6) (d:=20) (by kernel_rfl) rfl z2 z3 rfl rfl rfl (fun _=>q_eqlPN ziY Try.underlying116 rfl rfl) ?_
  refine WD.done (by kernel_rfl) ?_
  refine WX.a ?_
  refine WC.cond rfl (fun zj0=>?_) (fun zj0=>?_)
  ·replace h:=yg h zj0
   refine WC.b (WC.a (WL.pu rfl (WL.pu rfl (WL.nil (WX.a ?_)))))
   obtain ⟨zfX,zuB,h⟩:=y34 h
   refine WC.y2v (fun (z8F : Int) (z8G : Int)=>(zfX z8F z8G = some r)) (fun (z8F : Int) (z8G : Int)=>[(0,(.pointer (some zbr))),(3,(.pointer (some ⟨ziZ,0,none⟩))),(5,(.pointer (some ⟨zed,0,none⟩))),(6,(.int .i64 z8F)),(7,(.int .i64 z8G))]) (fun (z8F : Int) (z8G : Int)=>[stb ziZ 59 [(.int .i64 zJ.fNode),(.int .i64 zJ.fNext),(.int .i64 zJ.fLink)],stb zed 136 [(.int .i64 zJ.fNode),(.int .i64 zJ.fLink)],y1e z6K (fun x=>Value.agg (y1I x).toArray) Value.pointer (y1o z3g),y1m z13 z3g]) ?_ ?_
   ·skip
    refine WC.b ?_
    refine WC.yV (fun i=>[].contains i) [] rfl ?_
    refine WD.a (i:=0) (d:=21) (by kernel_rfl) rfl z2 z3 rfl rfl rfl (fun _=>ya y2F rfl rfl) ?_
    refine WD.e (i:=1) (d:=22) (by kernel_rfl) rfl z2 z3 rfl rfl rfl (yb yl rfl (yd .h1 rfl)) ?_
    refine WD.a (i:=2) (d:=23) (by kernel_rfl) rfl z2 z3 rfl rfl rfl (fun _=>q_m rfl) ?_
    refine WD.a (i:=3) (d:=24) (by kernel_rfl) rfl z2 z3 rfl rfl rfl (fun _=>yv rfl) ?_
    refine WD.a (i:=4) (d:=25) (by kernel_rfl) rfl z2 z3 rfl rfl rfl (fun _=>ya y5p rfl rfl) ?_
    refine WD.a (i:=5) (d:=26) (by kernel_rfl) rfl z2 z3 rfl rfl rfl (fun _=>ya y3V rfl rfl) ?_
    refine WD.e (i:=6) (d:=27) (by kernel_rfl) rfl z2 z3 rfl rfl rfl (yb y3W rfl (y22 hz.pv z9T rfl)) ?_
    refine WD.a (i:=7) (d:=28) (by kernel_rfl) rfl z2 z3 rfl rfl rfl (fun _=>yz Try.underlying22 rfl) ?_
    refine WD.a (i:=8) (d:=29) (by kernel_rfl) rfl z2 z3 rfl rfl rfl (fun _=>y4y rfl rfl rfl) ?_
    refine WD.a (i:=9) (d:=8) (by kernel_rfl) rfl z2 z3 rfl rfl rfl (fun _=>q_z rfl) ?_
    refine WD.done (by kernel_rfl) ?_
    refine WX.a (WC.b (WC.a (WL.pu rfl (WL.pu rfl (WL.nil (WX.a ?_))))))
    refine WC.cond rfl (fun zj1=>?_) (fun zj1=>?_)
    ·replace h:=yg h zj1
     obtain ⟨zod,h⟩:=ye h
     refine WC.yV (fun i=>[].contains i) [] rfl ?_
     refine WD.a (i:=0) (d:=32) (by kernel_rfl) rfl z2 z3 rfl rfl rfl (fun _=>q_m rfl) ?_
     refine WD.a (i:=1) (d:=33) (by kernel_rfl) rfl z2 z3 rfl rfl rfl (fun _=>yv rfl) ?_
     refine WD.a (i:=2) (d:=34) (by kernel_rfl) rfl z2 z3 rfl rfl rfl (fun _=>ya y5p rfl rfl) ?_
     refine WD.a (i:=3) (d:=35) (by kernel_rfl) rfl z2 z3 rfl rfl rfl (fun _=>ya y4K rfl rfl) ?_
     refine WD.e (i:=4) (d:=36) (by kernel_rfl) rfl z2 z3 rfl rfl rfl (yb y4L rfl (y22 hz.pv z9T rfl)) ?_
     refine WD.a (i:=5) (d:=37) (by kernel_rfl) rfl z2 z3 rfl rfl rfl (fun _=>q_m rfl) ?_
     refine WD.znth (j:=6) (dd:=38) (by kernel_rfl) rfl z2 z3 rfl rfl (Z:=Z) (Pr:=(fun r x=>r = e64 x)) y67 rfl rfl zoc zod ?_
     rintro zCz zCA zuC zCB rfl
     refine WD.a (i:=7) (d:=39) (by kernel_rfl) rfl z2 z3 rfl rfl rfl (fun _=>ya y6V rfl rfl) ?_
     refine WD.e (i:=8) (d:=40) (by kernel_rfl) rfl z2 z3 rfl rfl rfl (yb yl rfl (y22 hz.pv zuC rfl)) ?_
     refine WD.a (i:=9) (d:=41) (by kernel_rfl) rfl z2 z3 rfl rfl rfl (fun _=>q_m rfl) ?_
     refine WD.a (i:=10) (d:=42) (by kernel_rfl) rfl z2 z3 rfl rfl rfl (fun _=>yv rfl) ?_
     refine WD.a (i:=11) (d:=43) (by kernel_rfl) rfl z2 z3 rfl rfl rfl (fun _=>ya y5p rfl rfl) ?_
     refine WD.a (i:=12) (d:=44) (by kernel_rfl) rfl z2 z3 rfl rfl rfl (fun _=>ya y4K rfl rfl) ?_
     refine WD.e (i:=13) (d:=45) (by kernel_rfl) rfl z2 z3 rfl rfl rfl (yb y4L rfl (y22 hz.pv z9T rfl)) ?_
     refine WD.a (i:=14) (d:=46) (by kernel_rfl) rfl z2 z3 rfl rfl rfl (fun _=>q_m rfl) ?_
     refine WD.znth (j:=15) (dd:=47) (by kernel_rfl) rfl z2 z3 rfl rfl (Z:=Z) (Pr:=(fun r x=>r = e64 x)) y67 rfl rfl zoc zod ?_
     rintro zCC zCD zuD zCE rfl
     refine WD.a (i:=16) (d:=48) (by kernel_rfl) rfl z2 z3 rfl rfl rfl (fun _=>ya y6W rfl rfl) ?_
     refine WD.e (i:=17) (d:=49) (by kernel_rfl) rfl z2 z3 rfl rfl rfl (yb yl rfl (y22 hz.pv zuD rfl)) ?_
     refine WD.a (i:=18) (d:=6) (by kernel_rfl) rfl z2 z3 rfl rfl rfl (fun _=>q_z rfl) ?_
     refine WD.a (i:=19) (d:=7) (by kernel_rfl) rfl z2 z3 rfl rfl rfl (fun _=>q_z rfl) ?_
     refine WD.done (by kernel_rfl) ?_
     exact WX.mid (G:=Int × Int) ⟨((nth z1f.fSwitches (i64 (zJ.fNode - ((z1f.fModules.length : Nat) : Int)))).fDelay),((nth z1f.fSwitches (i64 (zJ.fNode - ((z1f.fModules.length : Nat) : Int)))).fStore)⟩ h (.cons rfl (.cons rfl (.cons rfl (.cons rfl (.cons rfl .nil))))) (.cons .h1 (.cons .here (.cons .here (.cons .here .nil))))
    ·replace h:=yh h zj1
     refine WC.skip ?_
     exact WX.mid (G:=Int × Int) ⟨0,1073741824⟩ h (.cons rfl (.cons rfl (.cons rfl (.cons rfl (.cons rfl .nil))))) (.cons .h1 (.cons .here (.cons .here (.cons .here .nil))))
   ·rintro z8F z8G h
    replace h:=(zuB z8F z8G).symm.trans h
    obtain ⟨zuE,h⟩:=ye h
    obtain ⟨z9S,zuF,h⟩:=z8 h
    refine WC.yV (fun i=>[21].contains i) [] rfl ?_
    refine WD.a (i:=0) (d:=51) (by kernel_rfl) rfl z2 z3 rfl rfl rfl (fun _=>q_m rfl) ?_
    refine WD.a (i:=1) (d:=52) (by kernel_rfl) rfl z2 z3 rfl rfl rfl (fun _=>yv rfl) ?_
    refine WD.a (i:=2) (d:=53) (by kernel_rfl) rfl z2 z3 rfl rfl rfl (fun _=>ya y71 rfl rfl) ?_
    refine WD.e (i:=3) (d:=54) (by kernel_rfl) rfl z2 z3 rfl rfl rfl (yb y72 rfl (y22 hz.pv z9T rfl)) ?_
    refine WD.e (i:=4) (d:=55) (by kernel_rfl) rfl z2 z3 rfl rfl rfl (yu zhj rfl (yJ .h1) rfl) ?_
    refine WD.a (i:=5) (d:=56) (by kernel_rfl) rfl z2 z3 rfl rfl rfl (fun _=>q_m rfl) ?_
    refine WD.a (i:=6) (d:=57) (by kernel_rfl) rfl z2 z3 rfl rfl rfl (fun _=>yv rfl) ?_
    refine WD.a (i:=7) (d:=58) (by kernel_rfl) rfl z2 z3 rfl rfl rfl (fun _=>ya y5p rfl rfl) ?_
    refine WD.a (i:=8) (d:=59) (by kernel_rfl) rfl z2 z3 rfl rfl rfl (fun _=>ya y5g rfl rfl) ?_
    refine WD.e (i:=9) (d:=60) (by kernel_rfl) rfl z2 z3 rfl rfl rfl (yb y5h rfl (y22 hz.pv z9T rfl)) ?_
    refine WD.a (i:=10) (d:=61) (by kernel_rfl) rfl z2 z3 rfl rfl rfl (fun _=>ya y5n rfl rfl) ?_
    refine WD.e (i:=11) (d:=62) (by kernel_rfl) rfl z2 z3 rfl rfl rfl (yb yl rfl (yd .here rfl)) ?_
    refine WD.znth (j:=12) (dd:=63) (by kernel_rfl) rfl z2 z3 rfl rfl (Z:=Z) (Pr:=(fun r x=>r = e62 x)) y7C rfl rfl zuz zuE ?_
    rintro zCF zCG zuG zCH rfl
    refine WD.a (i:=13) (d:=64) (by kernel_rfl) rfl z2 z3 rfl rfl rfl (fun _=>ya y6U rfl rfl) ?_
    refine WD.e (i:=14) (d:=65) (by kernel_rfl) rfl z2 z3 rfl rfl rfl (yb yl rfl (y22 hz.pv zuG rfl)) ?_
    refine WD.a (i:=15) (d:=66) (by kernel_rfl) rfl z2 z3 rfl rfl rfl (fun _=>q_m rfl) ?_
    refine WD.a (i:=16) (d:=67) (by kernel_rfl) rfl z2 z3 rfl rfl rfl (fun _=>q_m rfl) ?_
    refine WD.call3 (i:=17) (dd:=68) rfl (by kernel_rfl) rfl rfl rfl (.inr rfl) (zt (l:=[.tmp 65,.tmp 66,.tmp 67]) Try.call52 (.cons rfl (.cons rfl (.cons rfl .nil)))) .nil (cc hz .nil fun w pz ho=>y8f _ _ _ _ _ zuF w pz ) ?_
    rintro zee zfZ zg0 _
    refine WD.a (i:=18) (d:=50) (by kernel_rfl) rfl z2 z3 rfl rfl rfl (fun _=>q_m rfl) ?_
    refine WD.a (i:=19) (d:=69) (by kernel_rfl) rfl z2 z3 rfl rfl rfl (fun _=>y4A rfl rfl) ?_
    refine WD.a (i:=20) (d:=70) (by kernel_rfl) rfl z2 z3 rfl rfl rfl (fun _=>y4A rfl rfl) ?_
    refine WD.forced0 (i:=21) rfl (by kernel_rfl) rfl rfl rfl (Sin.of .nil) (y54 (k:=(⟨zJ.fNode,zJ.fLink⟩ : Snetwork_exit)) (v:=(some ⟨zee,0,none⟩ : Option Addr)) zhk Try.underlying77 rfl rfl rfl rfl .h4) ?_
    refine WD.ghL (fun _ h=>Hp.y8d (els:=z13) (k:=(⟨zJ.fNode,zJ.fLink⟩ : Snetwork_exit)) (b:=zee) (g:=(zfZ,zg0)) (x:=z9S) .h5 (.cons .h1 (.cons .h1 .nil)) h) ?_
    refine WD.ghL (M:=[y1e z6K (fun x=>Value.agg (y1I x).toArray) Value.pointer (y1o (y1g z3g (⟨zJ.fNode,zJ.fLink⟩ : Snetwork_exit) ((zee,(zfZ,zg0)),z9S))),y1m z13 (y1g z3g (⟨zJ.fNode,zJ.fLink⟩ : Snetwork_exit) ((zee,(zfZ,zg0)),z9S)),stb ziZ 59 [(.int .i64 zJ.fNode),(.int .i64 zJ.fNext),(.int .i64 zJ.fLink)],stb zed 136 [(.int .i64 zJ.fNode),(.int .i64 zJ.fLink)]]) (fun _ h=>Hp.y7z .h1 (y7g _ _ _ _ _).symm h) ?_
    refine WD.done (by kernel_rfl) ?_
    exact WX.mid (G:=(List (Snetwork_exit × Sport_Port)) × (List (Snetwork_exit × ((Nat × (Option Addr × Nat)) × Sport_Port)))) ⟨(y1g z8D (⟨zJ.fNode,zJ.fLink⟩ : Snetwork_exit) z9S),(y1g z3g (⟨zJ.fNode,zJ.fLink⟩ : Snetwork_exit) ((zee,(zfZ,zg0)),z9S))⟩ ⟨h,(y5H ziY _ _ _)⟩ (.cons rfl (.cons rfl .nil)) (.cons .h3 (.cons .here (.cons .here .nil)))
  ·replace h:=yh h zj0
   refine WC.skip ?_
   exact WX.mid (G:=(List (Snetwork_exit × Sport_Port)) × (List (Snetwork_exit × ((Nat × (Option Addr × Nat)) × Sport_Port)))) ⟨z8D,z3g⟩ ⟨h,ziY⟩ (.cons rfl (.cons rfl .nil)) (.cons .here (.cons .h1 (.cons .h1 .nil)))
 ·rintro z8E z9U ⟨h,zuH⟩
  replace h:=(zuA z8E).symm.trans h
  refine WC.b ?_
  refine WC.yV (fun i=>[].contains i) [] rfl ?_
  refine WD.a (i:=0) (d:=71) (by kernel_rfl) rfl z2 z3 rfl rfl rfl (fun _=>q_m rfl) ?_
  refine WD.a (i:=1) (d:=72) (by kernel_rfl) rfl z2 z3 rfl rfl rfl (fun _=>yv rfl) ?_
  refine WD.a (i:=2) (d:=73) (by kernel_rfl) rfl z2 z3 rfl rfl rfl (fun _=>ya y71 rfl rfl) ?_
  refine WD.e (i:=3) (d:=74) (by kernel_rfl) rfl z2 z3 rfl rfl rfl (yb y72 rfl (y22 hz.pv z9T rfl)) ?_
  refine WD.e (i:=4) (d:=75) (by kernel_rfl) rfl z2 z3 rfl rfl rfl (yu zhj rfl (yJ .here) rfl) ?_
  refine WD.e (i:=5) (d:=76) (by kernel_rfl) rfl z2 z3 rfl rfl rfl (y4s (k:=(⟨zJ.fNode,zJ.fLink⟩ : Snetwork_exit)) (dflt:=(none : Option Addr)) zhk Try.underlying77 zlF rfl rfl rfl .h1) ?_
  refine WD.a (i:=6) (d:=4) (by kernel_rfl) rfl z2 z3 rfl rfl rfl (fun _=>q_z rfl) ?_
  refine WD.done (by kernel_rfl) ?_
  refine WX.a (WC.ret ?_)
  obtain rfl:=Option.some.inj h
  refine WX.yj Try.results40 (.tmp rfl .nil) (fun w hw=>?_)
  exact ⟨z9U,yL rfl,zuH,hw.sub (.cons .h1 (.cons .h1 .nil))⟩
def y3w (z6L : Sport_Port) : Option Bool :=
 some (decide (z6L.fNumbers.fSlow = 0))
set_option maxRecDepth 20000 in
theorem y4W (Z : Zp) (zg1 : Addr) (zoe : Option Addr) (zof : Nat) (z6L : Sport_Port) (r : Bool)
  (h : y3w z6L = some r) (w₀ : World) (hz : PZ [] w₀ Z)
  (zCI : ZS Z 2 (fun r x=>r = y1P x) zoe zof z6L.fFrames)
  (zuI : ZC Z zg1 [(.int .i64 z6L.fNumbers.fSlow),(.int .i64 z6L.fNumbers.fDelay),(.int .i64 z6L.fNumbers.fStore),(.int .i64 z6L.fNow),(.int .i64 z6L.fLast),(.slice zoe z6L.fFrames.length zof)]) :
  Calls Try.prog 53 #[(.pointer (some zg1))] w₀ fun e w'=>e = .returned (.bool r) ∧ Hp [] w₀ w' []:=by
 unfold y3w at h
 refine Calls.yo (vs:=[(.pointer (some zg1))]) (pre:=[]) (env:=[(0,(.pointer (some zg1)))]) Try.func53 rfl Try.ntmps53 rfl (Hp.nil w₀ _) rfl ?_
 refine WC.b (WC.a (WL.pu rfl (WL.nil (WX.a (WC.b (WC.a (WL.pu rfl ?_)))))))
 refine WL.a (d:=4) rfl rfl rfl (y7q Try.underlying116 rfl rfl) ?_
 refine WL.pu rfl (WL.pu rfl ?_)
 refine WL.a (d:=7) rfl rfl rfl (yv rfl) ?_
 refine WL.a (d:=8) rfl rfl rfl (ya y5K rfl rfl) ?_
 refine WL.a (d:=9) rfl rfl rfl (ya y7G rfl rfl) ?_
 refine WL.a (d:=10) rfl rfl rfl (yb yl rfl (y22 hz.pv zuI rfl)) ?_
 refine WL.pu rfl (WL.pu rfl (WL.pu rfl (WL.nil (WX.a (WC.ret ?_)))))
 obtain rfl:=Option.some.inj h
 refine WX.yj Try.results53 (.tmp rfl .nil) (fun w hw=>?_)
 exact ⟨yL rfl,hw.sub .nil⟩
def y3b (z5v : Sport_frame) (zg2 : Int) : Option Bool :=
 some (decide (z5v.fFin ≤ zg2))
set_option maxRecDepth 20000 in
theorem y6l (Z : Zp) (zg3 : Addr) (z5v : Sport_frame) (zg2 : Int) (r : Bool)
  (h : y3b z5v zg2 = some r) (w₀ : World) (hz : PZ [] w₀ Z)
  (zuJ : ZC Z zg3 [(.int .i64 zg2)]) :
  Calls Try.prog 55 #[(.agg #[(.int .i64 z5v.fSize),(.int .i64 z5v.fFin)]),(.pointer (some zg3))] w₀ fun e w'=>e = .returned (.bool r) ∧ Hp [] w₀ w' []:=by
 unfold y3b at h
 refine Calls.yo (vs:=[(.agg #[(.int .i64 z5v.fSize),(.int .i64 z5v.fFin)]),(.pointer (some zg3))]) (pre:=[]) (env:=[(0,(.agg #[(.int .i64 z5v.fSize),(.int .i64 z5v.fFin)])),(1,(.pointer (some zg3)))]) Try.func55 rfl Try.ntmps55 rfl (Hp.nil w₀ _) rfl ?_
 refine WC.b (WC.a ?_)
 refine WL.new (dd:=2) rfl rfl rfl (y25 (cs:=[(.int .i64 z5v.fSize),(.int .i64 z5v.fFin)]) rfl rfl) ?_
 intro zCJ _
 refine WL.pu rfl (WL.nil (WX.a (WC.b (WC.a ?_))))
 refine WL.a (d:=4) rfl rfl rfl (ya y7H rfl rfl) ?_
 refine WL.a (d:=5) rfl rfl rfl (yb yl rfl (yd .here rfl)) ?_
 refine WL.a (d:=6) rfl rfl rfl (yb yl rfl (rd_z hz.pv zuJ rfl)) ?_
 refine WL.pu rfl (WL.pu rfl (WL.nil (WX.a (WC.ret ?_))))
 obtain rfl:=Option.some.inj h
 refine WX.yj Try.results55 (.tmp rfl .nil) (fun w hw=>?_)
 exact ⟨yL rfl,hw.sub .nil⟩
def yT (z2E : List Sport_frame) (z5w : Sport_frame → Option Bool) (z7I : Option Int) : Nat → Int → Option Int
 | 0,_=>none
 | zj2 + 1,z2R=>if decide (z2R < ((z2E.length : Nat) : Int)) then chk ((0 : Int) ≤ z2R ∧ z2R < ((z2E.length : Nat) : Int)) ((z5w (⟨((nth z2E z2R).fSize),((nth z2E z2R).fFin)⟩ : Sport_frame)).bind fun zj3=>if zj3 then some z2R else yT z2E z5w z7I zj2 (i64 (z2R + 1))) else z7I
theorem y2N {n : Nat} {z2E : List Sport_frame} {z5w : Sport_frame → Option Bool} {z7I : Option Int} {z2R : Int} {r : Int} (h : yT z2E z5w z7I n z2R = some r) : ∃ m,n = m + 1:=by
 cases n with
 | zero=>cases h
 | succ m=>exact ⟨m,rfl⟩
def y1G (z2E : List Sport_frame) (z5w : Sport_frame → Option Bool) : Option Int :=
 jp0 (some (-1)) fun z7I=>yT z2E z5w z7I yP 0
set_option maxRecDepth 20000 in
theorem y3x (Z : Zp) (zef : Option Addr) (zeg : Nat) (z7J : FuncId) (z9V : List Value) (z2E : List Sport_frame) (z5w : Sport_frame → Option Bool) (r : Int)
  (h : y1G z2E z5w = some r) (w₀ : World) (hz : PZ [] w₀ Z)
  (zuK : ZS Z 2 (fun r x=>r = y1P x) zef zeg z2E)
  (zuL : ∀ args w,(callFunc z7J args).run Try.prog w = .ok (.enter z7J args) w)
  (zuM : ∀ w : World,PZ [] w Z → ∀ (x0 : Sport_frame) (r : Bool),z5w x0 = some r → Calls Try.prog z7J (([(.agg #[(.int .i64 x0.fSize),(.int .i64 x0.fFin)])] : List Value) ++ z9V).toArray w fun e w'=>e = .returned (.bool r) ∧ Hp [] w w' []) :
  Calls Try.prog 63 #[(.slice zef z2E.length zeg),(.func (.func z7J) #[] (z9V).toArray)] w₀ fun e w'=>e = .returned (.int .i64 r) ∧ Hp [] w₀ w' []:=by
 unfold y1G at h
 refine Calls.yo (vs:=[(.slice zef z2E.length zeg),(.func (.func z7J) #[] (z9V).toArray)]) (pre:=[]) (env:=[(0,(.slice zef z2E.length zeg)),(1,(.func (.func z7J) #[] (z9V).toArray))]) Try.func63 rfl Try.ntmps63 rfl (Hp.nil w₀ _) rfl ?_
 refine WC.b (WC.a (WL.pu rfl (WL.nil (WX.a ?_))))
 obtain ⟨z7I,zuN,h⟩:=y2r h
 refine WC.y2b ((z7I = some r)) ([]) ([]) ?_ ?_
 ·skip
  refine WC.b (WC.a (WL.pu rfl ?_))
  refine WL.a (d:=7) rfl rfl rfl (yz Try.underlying141 rfl) ?_
  refine WL.pu rfl (WL.nil (WX.a (WC.block ?_)))
  refine WC.y3N (fun (zbs : Nat) (z2R : Int)=>(yT z2E z5w z7I zbs z2R = some r)) (fun (zbs : Nat) (z2R : Int)=>[(0,(.slice zef z2E.length zeg)),(1,(.func (.func z7J) #[] (z9V).toArray)),(7,(.int .i64 ((z2E.length : Nat) : Int))),(8,(.int .i64 z2R))]) (fun (zbs : Nat) (z2R : Int)=>[]) (fun (zbs : Nat) (z2R : Int)=>zbs) ⟨yP,0⟩ h (.cons rfl (.cons rfl (.cons rfl (.cons rfl .nil)))) .nil ?_
  rintro zbs z2R h
  obtain ⟨zj2,rfl⟩:=y2N h
  rw [yT] at h
  refine WC.b (WC.a (WL.pu rfl (WL.nil (WX.a (WC.b ?_)))))
  refine WC.cond rfl (fun zj4=>?_) (fun zj4=>?_)
  ·replace h:=yg h zj4
   refine WC.skip (WX.a (WC.b (WC.block (WC.b (WC.a (WL.pu rfl (WL.pu rfl (WL.nil (WX.a (WC.b ?_))))))))))
   obtain ⟨zuO,h⟩:=ye h
   obtain ⟨zj3,zuP,h⟩:=z8 h
   refine WC.a (WL.pu rfl (WL.pu rfl (WL.pu rfl ?_)))
   refine WL.znth (dd:=14) rfl rfl (Z:=Z) (Pr:=(fun r x=>r = y1P x)) z79 rfl rfl zuK zuO ?_
   rintro zCK zCL zuQ zCM rfl
   refine WL.a (d:=15) rfl rfl rfl (yu zan rfl (y3H hz.pv zuQ) rfl) ?_
   refine WL.b (dd:=16) rfl rfl rfl (y3s (l:=[.tmp 15]) (f:=z7J) (caps:=z9V) zuL rfl (.cons rfl .nil)) .nil (fun w hw=>zuM w (hz.now hw) (⟨((nth z2E z2R).fSize),((nth z2E z2R).fFin)⟩ : Sport_frame) zj3  zuP) ?_
   refine WL.nil (WX.a ?_)
   refine WC.cond rfl (fun zj5=>?_) (fun zj5=>?_)
   ·replace h:=yg h zj5
    refine WC.b (WC.a (WL.pu rfl (WL.pu rfl (WL.nil (WX.a (WC.ret (WX.yG (WX.yn (WX.yn (WX.yG (WX.yn ?_)))))))))))
    obtain rfl:=Option.some.inj h
    refine WX.yj Try.results63 (.tmp rfl .nil) (fun w hw=>?_)
    exact ⟨yL rfl,hw.sub .nil⟩
   ·replace h:=yh h zj5
    refine WC.skip (WX.yf (WX.a (WC.a (WL.pu rfl (WL.pu rfl (WL.nil ?_))))))
    exact WX.round (G:=Nat × Int) ⟨zj2,(i64 (z2R + 1))⟩ h (Nat.lt_succ_self _) (.cons rfl (.cons rfl (.cons rfl (.cons rfl .nil)))) .nil
  ·replace h:=yh h zj4
   refine WC.exit (WX.yk (WX.yk (WX.yC ?_)))
   exact WX.mid (G:=Unit) () h .nil .nil
 ·rintro  h
  replace h:=zuN.symm.trans h
  refine WC.b (WC.a (WL.pu rfl (WL.nil (WX.a (WC.ret ?_)))))
  obtain rfl:=Option.some.inj h
  refine WX.yj Try.results63 (.tmp rfl .nil) (fun w hw=>?_)
  exact ⟨yL rfl,hw.sub .nil⟩
end Go.Proofs.Ytinchjigeakocaa
