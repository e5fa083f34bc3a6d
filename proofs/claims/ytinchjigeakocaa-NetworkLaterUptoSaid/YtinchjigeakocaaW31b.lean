/- A part of this claim's proof: models of functions, walks, plain laws. No conditions. -/
import Derived.Test.YtinchjigeakocaaW31a
namespace Go.Proofs.Ytinchjigeakocaa
open Go Go.RowKit Sep
set_option linter.all false
set_option maxRecDepth 30000
set_option maxHeartbeats 4000000
def y1G (z8 : List zSt) (zB : Sapi_Config) (z6C : Option Bool) : Nat → Int → Option Bool
  | 0,_=>none
  | zgJ + 1,zd=>if decide (zd < ((z8.length : Nat) : Int)) then chk ((0 : Int) ≤ zd ∧ zd < ((z8.length : Nat) : Int)) (chk (((((((decide (((nth z8 zd).fTime) < 0)) || (decide (((nth z8 zd).fTime) > 536870912))) || (decide (((nth z8 zd).fVL) < 0))) || (decide (((nth z8 zd).fVL) ≥ ((zB.fVLs.length : Nat) : Int)))) || (decide (((nth z8 zd).fSize) < 1))) || (decide (((nth z8 zd).fSize) > 72))) = false → ((decide (zd > 0)) = true → ((0 : Int) ≤ (i64 (zd - 1)) ∧ (i64 (zd - 1)) < ((z8.length : Nat) : Int)))) (if ((((((decide (((nth z8 zd).fTime) < 0)) || (decide (((nth z8 zd).fTime) > 536870912))) || (decide (((nth z8 zd).fVL) < 0))) || (decide (((nth z8 zd).fVL) ≥ ((zB.fVLs.length : Nat) : Int)))) || (decide (((nth z8 zd).fSize) < 1))) || (decide (((nth z8 zd).fSize) > 72))) || ((decide (zd > 0)) && (decide (((nth z8 (i64 (zd - 1))).fTime) > ((nth z8 zd).fTime)))) then some false else y1G z8 zB z6C zgJ (i64 (zd + 1)))) else z6C
theorem y5c {n : Nat} {z8 : List zSt} {zB : Sapi_Config} {z6C : Option Bool} {zd : Int} {r : Bool} (h : y1G z8 zB z6C n zd = some r) : ∃ m,n = m + 1:=by
  cases n with
  | zero=>cases h
  | succ m=>exact ⟨m,rfl⟩
def y39 (zB : Sapi_Config) (z8 : List zSt) : Option Bool :=
  jp0 (some (decide (((z8.length : Nat) : Int) ≤ 4000))) fun z6C=>y1G z8 zB z6C yz 0
set_option maxRecDepth 20000 in
theorem y77 (Z : Zp) (zao : Option Addr) (zap : Nat) (zaq : Option Addr) (zar : Nat) (zas : Option Addr) (zat : Nat) (zau : Option Addr) (zav : Nat) (zaw : Option Addr) (zax : Nat) (zay : Option Addr) (zaz : Nat) (zaA : Option Addr) (zaB : Nat) (zaC : Option Addr) (zaD : Nat) (z1U : Option Addr) (z1V : Nat) (zB : Sapi_Config) (z8 : List zSt) (r : Bool)
     (h : y39 zB z8 = some r) (w₀ : World) (hz : PZ [] w₀ Z)
     (zvD : ZS Z 4 (y2x Z) zao zap zB.fModules)
     (zvE : ZS Z 4 (y2S Z) zaq zar zB.fChannels)
     (zvF : ZS Z 4 (fun r x=>r = e64 x) zas zat zB.fSwitches)
     (zvG : ZS Z 4 (fun r x=>r = e62 x) zau zav zB.fLinks)
     (zvH : ZS Z 7 (y2G Z) zaw zax zB.fVLs)
     (zvI : ZS Z 5 (fun r x=>r = y37 x) zay zaz zB.fHealth)
     (zvJ : ZS Z 3 (y2T Z) zaA zaB zB.fCauses)
     (zvK : ZS Z 4 (fun r x=>r = y38 x) zaC zaD zB.fVersions)
     (zl1 : ZS Z 3 (fun r x=>r = e53 x) z1U z1V z8) :
    Calls Try.prog 24 #[(.agg #[(.slice zao zB.fModules.length zap),(.slice zaq zB.fChannels.length zar),(.slice zas zB.fSwitches.length zat),(.slice zau zB.fLinks.length zav),(.slice zaw zB.fVLs.length zax),(.slice zay zB.fHealth.length zaz),(.slice zaA zB.fCauses.length zaB),(.slice zaC zB.fVersions.length zaD)]),(.slice z1U z8.length z1V)] w₀ fun e w'=>e = .returned (.bool r) ∧ Hp [] w₀ w' []:=by
  unfold y39 at h
  refine Calls.yl (vs:=[(.agg #[(.slice zao zB.fModules.length zap),(.slice zaq zB.fChannels.length zar),(.slice zas zB.fSwitches.length zat),(.slice zau zB.fLinks.length zav),(.slice zaw zB.fVLs.length zax),(.slice zay zB.fHealth.length zaz),(.slice zaA zB.fCauses.length zaB),(.slice zaC zB.fVersions.length zaD)]),(.slice z1U z8.length z1V)]) (pre:=[]) (env:=[(0,(.agg #[(.slice zao zB.fModules.length zap),(.slice zaq zB.fChannels.length zar),(.slice zas zB.fSwitches.length zat),(.slice zau zB.fLinks.length zav),(.slice zaw zB.fVLs.length zax),(.slice zay zB.fHealth.length zaz),(.slice zaA zB.fCauses.length zaB),(.slice zaC zB.fVersions.length zaD)])),(1,(.slice z1U z8.length z1V))]) Try.func24 rfl Try.ntmps24 rfl (Hp.nil w₀ _) rfl ?_
  refine WC.b (WC.a ?_)
  refine WL.new (dd:=2) rfl rfl rfl (y2g (cs:=[(.slice zao zB.fModules.length zap),(.slice zaq zB.fChannels.length zar),(.slice zas zB.fSwitches.length zat),(.slice zau zB.fLinks.length zav),(.slice zaw zB.fVLs.length zax),(.slice zay zB.fHealth.length zaz),(.slice zaA zB.fCauses.length zaB),(.slice zaC zB.fVersions.length zaD)]) rfl rfl) ?_
  intro z6D _
  refine WL.pu rfl (WL.nil (WX.a ?_))
  obtain ⟨z6C,zpZ,h⟩:=y2P h
  refine WC.y2p ((z6C = some r)) ([(1,(.slice z1U z8.length z1V))]) ([]) ?_ ?_
  · skip
    refine WC.b (WC.a (WL.pu rfl ?_))
    refine WL.a (d:=8) rfl rfl rfl (yW Try.underlying33 rfl) ?_
    refine WL.pu rfl (WL.nil (WX.a (WC.block ?_)))
    refine WC.y3Z (fun (zaE : Nat) (zd : Int)=>(y1G z8 zB z6C zaE zd = some r)) (fun (zaE : Nat) (zd : Int)=>[(1,(.slice z1U z8.length z1V)),(2,(.pointer (some ⟨z6D,0,none⟩))),(7,(.slice z1U z8.length z1V)),(8,(.int .i64 ((z8.length : Nat) : Int))),(9,(.int .i64 zd))]) (fun (zaE : Nat) (zd : Int)=>[stb z6D 31 [(.slice zao zB.fModules.length zap),(.slice zaq zB.fChannels.length zar),(.slice zas zB.fSwitches.length zat),(.slice zau zB.fLinks.length zav),(.slice zaw zB.fVLs.length zax),(.slice zay zB.fHealth.length zaz),(.slice zaA zB.fCauses.length zaB),(.slice zaC zB.fVersions.length zaD)]]) (fun (zaE : Nat) (zd : Int)=>zaE) ⟨yz,0⟩ h (.cons rfl (.cons rfl (.cons rfl (.cons rfl (.cons rfl .nil))))) (.cons .here .nil) ?_
    rintro zaE zd h
    obtain ⟨zgJ,rfl⟩:=y5c h
    rw [y1G] at h
    refine WC.b (WC.a (WL.pu rfl (WL.nil (WX.a (WC.b ?_)))))
    refine WC.cond rfl (fun zgK=>?_) (fun zgK=>?_)
    · replace h:=ym h zgK
      refine WC.skip (WX.a (WC.b (WC.block (WC.b ?_))))
      obtain ⟨zq0,h⟩:=yj h
      refine WC.a (WL.pu rfl ?_)
      refine WL.znth (dd:=12) rfl rfl (Z:=Z) (Pr:=(fun r x=>r = e53 x)) y41 rfl rfl zl1 zq0 ?_
      rintro zvL zvM zq1 zvN rfl
      refine WL.a (d:=13) rfl rfl rfl (yF y5F rfl (y3G hz.pv zq1) rfl) ?_
      refine WL.new (dd:=6) rfl rfl rfl (y2u (cs:=[(.int .i64 0),(.int .i64 0),(.int .i64 0)]) y63 rfl) ?_
      intro zd8 _
      refine WL.pu rfl ?_
      refine WL.y1o rfl rfl (y22 y6S rfl rfl rfl .here rfl rfl rfl) ?_
      refine WL.nil (WX.a (WC.b ?_))
      obtain ⟨zq2,h⟩:=yj h
      refine WC.yZ (fun i=>[].contains i) [] rfl ?_
      refine WD.a (i:=0) (d:=14) (by kernel_rfl) rfl (z2 (by kernel_rfl)) (z3 (by kernel_rfl)) rfl rfl rfl (fun _=>ya y3r rfl rfl) ?_
      refine WD.e (i:=1) (d:=15) (by kernel_rfl) rfl (z2 (by kernel_rfl)) (z3 (by kernel_rfl)) rfl rfl rfl (yb yf rfl (ye .here rfl)) ?_
      refine WD.a (i:=2) (d:=16) (by kernel_rfl) rfl (z2 (by kernel_rfl)) (z3 (by kernel_rfl)) rfl rfl rfl (fun _=>y3n rfl rfl) ?_
      refine WD.a (i:=3) (d:=17) (by kernel_rfl) rfl (z2 (by kernel_rfl)) (z3 (by kernel_rfl)) rfl rfl rfl (fun _=>q_m rfl) ?_
      refine WD.mid (fuel':=38) [(1,(.slice z1U z8.length z1V)),(2,(.pointer (some ⟨z6D,0,none⟩))),(7,(.slice z1U z8.length z1V)),(8,(.int .i64 ((z8.length : Nat) : Int))),(9,(.int .i64 zd)),(6,(.pointer (some ⟨zd8,0,none⟩))),(5,(.int .i64 zd)),(17,(.bool (decide (((nth z8 zd).fTime) < 0)))),(21,(.bool ((decide (((nth z8 zd).fTime) < 0)) || (decide (((nth z8 zd).fTime) > 536870912)))))] (y1I 46 [7,6,5,4,3,2,1,0]) ?_ (fun zl2=>?_)
      rotate_left
      · rcases Bool.eq_false_or_eq_true (decide (((nth z8 zd).fTime) < 0)) with hb' | hb'
        · have zgL:=hb'; clear hb'
          refine WD.pin (i:=17) rfl zgL ?_
          refine WD.b (i:=4) (d:=18) (by kernel_rfl) rfl (z2 (by kernel_rfl)) (z3 (by kernel_rfl)) rfl rfl rfl ?_
          refine WD.b (i:=5) (d:=19) (by kernel_rfl) rfl (z2 (by kernel_rfl)) (z3 (by kernel_rfl)) rfl rfl rfl ?_
          refine WD.b (i:=6) (d:=20) (by kernel_rfl) rfl (z2 (by kernel_rfl)) (z3 (by kernel_rfl)) rfl rfl rfl ?_
          refine WD.a (i:=7) (d:=21) (by kernel_rfl) rfl (z2 (by kernel_rfl)) (z3 (by kernel_rfl)) rfl rfl rfl (fun _=>y1w rfl rfl) ?_
          refine WD.yS (.cons .here (.cons .here .nil)) ?_ zl2
          exact (.cons rfl (.cons rfl (.cons rfl (.cons rfl (.cons rfl (.cons rfl (.cons rfl (.cons (zq (Eq.symm zgL)) (.cons (zq (y25 zgL)) .nil)))))))))
        · have zgM:=hb'; clear hb'
          refine WD.pin (i:=17) rfl zgM ?_
          refine WD.a (i:=4) (d:=18) (by kernel_rfl) rfl (z2 (by kernel_rfl)) (z3 (by kernel_rfl)) rfl rfl rfl (fun _=>ya y3r rfl rfl) ?_
          refine WD.e (i:=5) (d:=19) (by kernel_rfl) rfl (z2 (by kernel_rfl)) (z3 (by kernel_rfl)) rfl rfl rfl (yb yf rfl (ye .here rfl)) ?_
          refine WD.a (i:=6) (d:=20) (by kernel_rfl) rfl (z2 (by kernel_rfl)) (z3 (by kernel_rfl)) rfl rfl rfl (fun _=>y3F rfl rfl) ?_
          refine WD.a (i:=7) (d:=21) (by kernel_rfl) rfl (z2 (by kernel_rfl)) (z3 (by kernel_rfl)) rfl rfl rfl (fun _=>y1x rfl rfl) ?_
          refine WD.yS (.cons .here (.cons .here .nil)) ?_ zl2
          exact (.cons rfl (.cons rfl (.cons rfl (.cons rfl (.cons rfl (.cons rfl (.cons rfl (.cons (zq (Eq.symm zgM)) (.cons (zq (y26 zgM)) .nil)))))))))
      refine WD.d #[true,true,true,true,true,true,true,true,false,false,false,false,false,false,false,false,false,false,false,false,false,false,false,false,false,false,false,false,false,false,false,false,false,false,false,false,false,false,false,false,false,false,false,false,false,false] (by kernel_rfl) ?_
      refine WD.a (i:=8) (d:=22) (by kernel_rfl) rfl (z2 (by kernel_rfl)) (z3 (by kernel_rfl)) rfl rfl rfl (fun _=>q_m rfl) ?_
      refine WD.mid (fuel':=33) [(1,(.slice z1U z8.length z1V)),(2,(.pointer (some ⟨z6D,0,none⟩))),(7,(.slice z1U z8.length z1V)),(8,(.int .i64 ((z8.length : Nat) : Int))),(9,(.int .i64 zd)),(6,(.pointer (some ⟨zd8,0,none⟩))),(5,(.int .i64 zd)),(22,(.bool ((decide (((nth z8 zd).fTime) < 0)) || (decide (((nth z8 zd).fTime) > 536870912))))),(26,(.bool (((decide (((nth z8 zd).fTime) < 0)) || (decide (((nth z8 zd).fTime) > 536870912))) || (decide (((nth z8 zd).fVL) < 0)))))] (y1I 46 [12,11,10,9,8,7,6,5,4,3,2,1,0]) ?_ (fun zl3=>?_)
      rotate_left
      · rcases Bool.eq_false_or_eq_true ((decide (((nth z8 zd).fTime) < 0)) || (decide (((nth z8 zd).fTime) > 536870912))) with hb' | hb'
        · have zgN:=hb'; clear hb'
          refine WD.pin (i:=22) rfl zgN ?_
          refine WD.b (i:=9) (d:=23) (by kernel_rfl) rfl (z2 (by kernel_rfl)) (z3 (by kernel_rfl)) rfl rfl rfl ?_
          refine WD.b (i:=10) (d:=24) (by kernel_rfl) rfl (z2 (by kernel_rfl)) (z3 (by kernel_rfl)) rfl rfl rfl ?_
          refine WD.b (i:=11) (d:=25) (by kernel_rfl) rfl (z2 (by kernel_rfl)) (z3 (by kernel_rfl)) rfl rfl rfl ?_
          refine WD.a (i:=12) (d:=26) (by kernel_rfl) rfl (z2 (by kernel_rfl)) (z3 (by kernel_rfl)) rfl rfl rfl (fun _=>y1w rfl rfl) ?_
          refine WD.yS (.cons .here (.cons .here .nil)) ?_ zl3
          exact (.cons rfl (.cons rfl (.cons rfl (.cons rfl (.cons rfl (.cons rfl (.cons rfl (.cons (zq (Eq.symm zgN)) (.cons (zq (y25 zgN)) .nil)))))))))
        · have zgO:=hb'; clear hb'
          refine WD.pin (i:=22) rfl zgO ?_
          refine WD.a (i:=9) (d:=23) (by kernel_rfl) rfl (z2 (by kernel_rfl)) (z3 (by kernel_rfl)) rfl rfl rfl (fun _=>ya y4Z rfl rfl) ?_
          refine WD.e (i:=10) (d:=24) (by kernel_rfl) rfl (z2 (by kernel_rfl)) (z3 (by kernel_rfl)) rfl rfl rfl (yb yf rfl (ye .here rfl)) ?_
          refine WD.a (i:=11) (d:=25) (by kernel_rfl) rfl (z2 (by kernel_rfl)) (z3 (by kernel_rfl)) rfl rfl rfl (fun _=>y3n rfl rfl) ?_
          refine WD.a (i:=12) (d:=26) (by kernel_rfl) rfl (z2 (by kernel_rfl)) (z3 (by kernel_rfl)) rfl rfl rfl (fun _=>y1x rfl rfl) ?_
          refine WD.yS (.cons .here (.cons .here .nil)) ?_ zl3
          exact (.cons rfl (.cons rfl (.cons rfl (.cons rfl (.cons rfl (.cons rfl (.cons rfl (.cons (zq (Eq.symm zgO)) (.cons (zq (y26 zgO)) .nil)))))))))
      refine WD.d #[true,true,true,true,true,true,true,true,true,true,true,true,true,false,false,false,false,false,false,false,false,false,false,false,false,false,false,false,false,false,false,false,false,false,false,false,false,false,false,false,false,false,false,false,false,false] (by kernel_rfl) ?_
      refine WD.a (i:=13) (d:=27) (by kernel_rfl) rfl (z2 (by kernel_rfl)) (z3 (by kernel_rfl)) rfl rfl rfl (fun _=>q_m rfl) ?_
      refine WD.mid (fuel':=25) [(1,(.slice z1U z8.length z1V)),(2,(.pointer (some ⟨z6D,0,none⟩))),(7,(.slice z1U z8.length z1V)),(8,(.int .i64 ((z8.length : Nat) : Int))),(9,(.int .i64 zd)),(6,(.pointer (some ⟨zd8,0,none⟩))),(5,(.int .i64 zd)),(27,(.bool (((decide (((nth z8 zd).fTime) < 0)) || (decide (((nth z8 zd).fTime) > 536870912))) || (decide (((nth z8 zd).fVL) < 0))))),(34,(.bool ((((decide (((nth z8 zd).fTime) < 0)) || (decide (((nth z8 zd).fTime) > 536870912))) || (decide (((nth z8 zd).fVL) < 0))) || (decide (((nth z8 zd).fVL) ≥ ((zB.fVLs.length : Nat) : Int))))))] (y1I 46 [20,19,18,17,16,15,14,13,12,11,10,9,8,7,6,5,4,3,2,1,0]) ?_ (fun zl4=>?_)
      rotate_left
      · rcases Bool.eq_false_or_eq_true (((decide (((nth z8 zd).fTime) < 0)) || (decide (((nth z8 zd).fTime) > 536870912))) || (decide (((nth z8 zd).fVL) < 0))) with hb' | hb'
        · have zgP:=hb'; clear hb'
          refine WD.pin (i:=27) rfl zgP ?_
          refine WD.b (i:=14) (d:=28) (by kernel_rfl) rfl (z2 (by kernel_rfl)) (z3 (by kernel_rfl)) rfl rfl rfl ?_
          refine WD.b (i:=15) (d:=29) (by kernel_rfl) rfl (z2 (by kernel_rfl)) (z3 (by kernel_rfl)) rfl rfl rfl ?_
          refine WD.b (i:=16) (d:=30) (by kernel_rfl) rfl (z2 (by kernel_rfl)) (z3 (by kernel_rfl)) rfl rfl rfl ?_
          refine WD.b (i:=17) (d:=31) (by kernel_rfl) rfl (z2 (by kernel_rfl)) (z3 (by kernel_rfl)) rfl rfl rfl ?_
          refine WD.b (i:=18) (d:=32) (by kernel_rfl) rfl (z2 (by kernel_rfl)) (z3 (by kernel_rfl)) rfl rfl rfl ?_
          refine WD.b (i:=19) (d:=33) (by kernel_rfl) rfl (z2 (by kernel_rfl)) (z3 (by kernel_rfl)) rfl rfl rfl ?_
          refine WD.a (i:=20) (d:=34) (by kernel_rfl) rfl (z2 (by kernel_rfl)) (z3 (by kernel_rfl)) rfl rfl rfl (fun _=>y1w rfl rfl) ?_
          refine WD.yS (.cons .here (.cons .here .nil)) ?_ zl4
          exact (.cons rfl (.cons rfl (.cons rfl (.cons rfl (.cons rfl (.cons rfl (.cons rfl (.cons (zq (Eq.symm zgP)) (.cons (zq (y25 zgP)) .nil)))))))))
        · have zgQ:=hb'; clear hb'
          refine WD.pin (i:=27) rfl zgQ ?_
          refine WD.a (i:=14) (d:=28) (by kernel_rfl) rfl (z2 (by kernel_rfl)) (z3 (by kernel_rfl)) rfl rfl rfl (fun _=>ya y4Z rfl rfl) ?_
          refine WD.e (i:=15) (d:=29) (by kernel_rfl) rfl (z2 (by kernel_rfl)) (z3 (by kernel_rfl)) rfl rfl rfl (yb yf rfl (ye .here rfl)) ?_
          refine WD.a (i:=16) (d:=30) (by kernel_rfl) rfl (z2 (by kernel_rfl)) (z3 (by kernel_rfl)) rfl rfl rfl (fun _=>ya y6M rfl rfl) ?_
          refine WD.e (i:=17) (d:=31) (by kernel_rfl) rfl (z2 (by kernel_rfl)) (z3 (by kernel_rfl)) rfl rfl rfl (yb y6N rfl (ye .h1 rfl)) ?_
          refine WD.a (i:=18) (d:=32) (by kernel_rfl) rfl (z2 (by kernel_rfl)) (z3 (by kernel_rfl)) rfl rfl rfl (fun _=>yW Try.underlying26 rfl) ?_
          refine WD.a (i:=19) (d:=33) (by kernel_rfl) rfl (z2 (by kernel_rfl)) (z3 (by kernel_rfl)) rfl rfl rfl (fun _=>q_geq rfl rfl) ?_
          refine WD.a (i:=20) (d:=34) (by kernel_rfl) rfl (z2 (by kernel_rfl)) (z3 (by kernel_rfl)) rfl rfl rfl (fun _=>y1x rfl rfl) ?_
          refine WD.yS (.cons .here (.cons .here .nil)) ?_ zl4
          exact (.cons rfl (.cons rfl (.cons rfl (.cons rfl (.cons rfl (.cons rfl (.cons rfl (.cons (zq (Eq.symm zgQ)) (.cons (zq (y26 zgQ)) .nil)))))))))
      refine WD.d #[true,true,true,true,true,true,true,true,true,true,true,true,true,true,true,true,true,true,true,true,true,false,false,false,false,false,false,false,false,false,false,false,false,false,false,false,false,false,false,false,false,false,false,false,false,false] (by kernel_rfl) ?_
      refine WD.a (i:=21) (d:=35) (by kernel_rfl) rfl (z2 (by kernel_rfl)) (z3 (by kernel_rfl)) rfl rfl rfl (fun _=>q_m rfl) ?_
      refine WD.mid (fuel':=20) [(1,(.slice z1U z8.length z1V)),(2,(.pointer (some ⟨z6D,0,none⟩))),(7,(.slice z1U z8.length z1V)),(8,(.int .i64 ((z8.length : Nat) : Int))),(9,(.int .i64 zd)),(6,(.pointer (some ⟨zd8,0,none⟩))),(5,(.int .i64 zd)),(35,(.bool ((((decide (((nth z8 zd).fTime) < 0)) || (decide (((nth z8 zd).fTime) > 536870912))) || (decide (((nth z8 zd).fVL) < 0))) || (decide (((nth z8 zd).fVL) ≥ ((zB.fVLs.length : Nat) : Int)))))),(39,(.bool (((((decide (((nth z8 zd).fTime) < 0)) || (decide (((nth z8 zd).fTime) > 536870912))) || (decide (((nth z8 zd).fVL) < 0))) || (decide (((nth z8 zd).fVL) ≥ ((zB.fVLs.length : Nat) : Int)))) || (decide (((nth z8 zd).fSize) < 1)))))] (y1I 46 [25,24,23,22,21,20,19,18,17,16,15,14,13,12,11,10,9,8,7,6,5,4,3,2,1,0]) ?_ (fun zl5=>?_)
      rotate_left
      · rcases Bool.eq_false_or_eq_true ((((decide (((nth z8 zd).fTime) < 0)) || (decide (((nth z8 zd).fTime) > 536870912))) || (decide (((nth z8 zd).fVL) < 0))) || (decide (((nth z8 zd).fVL) ≥ ((zB.fVLs.length : Nat) : Int)))) with hb' | hb'
        · have zgR:=hb'; clear hb'
          refine WD.pin (i:=35) rfl zgR ?_
          refine WD.b (i:=22) (d:=36) (by kernel_rfl) rfl (z2 (by kernel_rfl)) (z3 (by kernel_rfl)) rfl rfl rfl ?_
          refine WD.b (i:=23) (d:=37) (by kernel_rfl) rfl (z2 (by kernel_rfl)) (z3 (by kernel_rfl)) rfl rfl rfl ?_
          refine WD.b (i:=24) (d:=38) (by kernel_rfl) rfl (z2 (by kernel_rfl)) (z3 (by kernel_rfl)) rfl rfl rfl ?_
          refine WD.a (i:=25) (d:=39) (by kernel_rfl) rfl (z2 (by kernel_rfl)) (z3 (by kernel_rfl)) rfl rfl rfl (fun _=>y1w rfl rfl) ?_
          refine WD.yS (.cons .here (.cons .here .nil)) ?_ zl5
          exact (.cons rfl (.cons rfl (.cons rfl (.cons rfl (.cons rfl (.cons rfl (.cons rfl (.cons (zq (Eq.symm zgR)) (.cons (zq (y25 zgR)) .nil)))))))))
        · have zgS:=hb'; clear hb'
          refine WD.pin (i:=35) rfl zgS ?_
          refine WD.a (i:=22) (d:=36) (by kernel_rfl) rfl (z2 (by kernel_rfl)) (z3 (by kernel_rfl)) rfl rfl rfl (fun _=>ya y5G rfl rfl) ?_
          refine WD.e (i:=23) (d:=37) (by kernel_rfl) rfl (z2 (by kernel_rfl)) (z3 (by kernel_rfl)) rfl rfl rfl (yb yf rfl (ye .here rfl)) ?_
          refine WD.a (i:=24) (d:=38) (by kernel_rfl) rfl (z2 (by kernel_rfl)) (z3 (by kernel_rfl)) rfl rfl rfl (fun _=>y3n rfl rfl) ?_
          refine WD.a (i:=25) (d:=39) (by kernel_rfl) rfl (z2 (by kernel_rfl)) (z3 (by kernel_rfl)) rfl rfl rfl (fun _=>y1x rfl rfl) ?_
          refine WD.yS (.cons .here (.cons .here .nil)) ?_ zl5
          exact (.cons rfl (.cons rfl (.cons rfl (.cons rfl (.cons rfl (.cons rfl (.cons rfl (.cons (zq (Eq.symm zgS)) (.cons (zq (y26 zgS)) .nil)))))))))
      refine WD.d #[true,true,true,true,true,true,true,true,true,true,true,true,true,true,true,true,true,true,true,true,true,true,true,true,true,true,false,false,false,false,false,false,false,false,false,false,false,false,false,false,false,false,false,false,false,false] (by kernel_rfl) ?_
      refine WD.a (i:=26) (d:=40) (by kernel_rfl) rfl (z2 (by kernel_rfl)) (z3 (by kernel_rfl)) rfl rfl rfl (fun _=>q_m rfl) ?_
      refine WD.mid (fuel':=15) [(1,(.slice z1U z8.length z1V)),(2,(.pointer (some ⟨z6D,0,none⟩))),(7,(.slice z1U z8.length z1V)),(8,(.int .i64 ((z8.length : Nat) : Int))),(9,(.int .i64 zd)),(6,(.pointer (some ⟨zd8,0,none⟩))),(5,(.int .i64 zd)),(40,(.bool (((((decide (((nth z8 zd).fTime) < 0)) || (decide (((nth z8 zd).fTime) > 536870912))) || (decide (((nth z8 zd).fVL) < 0))) || (decide (((nth z8 zd).fVL) ≥ ((zB.fVLs.length : Nat) : Int)))) || (decide (((nth z8 zd).fSize) < 1))))),(44,(.bool ((((((decide (((nth z8 zd).fTime) < 0)) || (decide (((nth z8 zd).fTime) > 536870912))) || (decide (((nth z8 zd).fVL) < 0))) || (decide (((nth z8 zd).fVL) ≥ ((zB.fVLs.length : Nat) : Int)))) || (decide (((nth z8 zd).fSize) < 1))) || (decide (((nth z8 zd).fSize) > 72)))))] (y1I 46 [30,29,28,27,26,25,24,23,22,21,20,19,18,17,16,15,14,13,12,11,10,9,8,7,6,5,4,3,2,1,0]) ?_ (fun zl6=>?_)
      rotate_left
      · rcases Bool.eq_false_or_eq_true (((((decide (((nth z8 zd).fTime) < 0)) || (decide (((nth z8 zd).fTime) > 536870912))) || (decide (((nth z8 zd).fVL) < 0))) || (decide (((nth z8 zd).fVL) ≥ ((zB.fVLs.length : Nat) : Int)))) || (decide (((nth z8 zd).fSize) < 1))) with hb' | hb'
        · have zgT:=hb'; clear hb'
          refine WD.pin (i:=40) rfl zgT ?_
          refine WD.b (i:=27) (d:=41) (by kernel_rfl) rfl (z2 (by kernel_rfl)) (z3 (by kernel_rfl)) rfl rfl rfl ?_
          refine WD.b (i:=28) (d:=42) (by kernel_rfl) rfl (z2 (by kernel_rfl)) (z3 (by kernel_rfl)) rfl rfl rfl ?_
          refine WD.b (i:=29) (d:=43) (by kernel_rfl) rfl (z2 (by kernel_rfl)) (z3 (by kernel_rfl)) rfl rfl rfl ?_
          refine WD.a (i:=30) (d:=44) (by kernel_rfl) rfl (z2 (by kernel_rfl)) (z3 (by kernel_rfl)) rfl rfl rfl (fun _=>y1w rfl rfl) ?_
          refine WD.yS (.cons .here (.cons .here .nil)) ?_ zl6
          exact (.cons rfl (.cons rfl (.cons rfl (.cons rfl (.cons rfl (.cons rfl (.cons rfl (.cons (zq (Eq.symm zgT)) (.cons (zq (y25 zgT)) .nil)))))))))
        · have zgU:=hb'; clear hb'
          refine WD.pin (i:=40) rfl zgU ?_
          refine WD.a (i:=27) (d:=41) (by kernel_rfl) rfl (z2 (by kernel_rfl)) (z3 (by kernel_rfl)) rfl rfl rfl (fun _=>ya y5G rfl rfl) ?_
          refine WD.e (i:=28) (d:=42) (by kernel_rfl) rfl (z2 (by kernel_rfl)) (z3 (by kernel_rfl)) rfl rfl rfl (yb yf rfl (ye .here rfl)) ?_
          refine WD.a (i:=29) (d:=43) (by kernel_rfl) rfl (z2 (by kernel_rfl)) (z3 (by kernel_rfl)) rfl rfl rfl (fun _=>y3F rfl rfl) ?_
          refine WD.a (i:=30) (d:=44) (by kernel_rfl) rfl (z2 (by kernel_rfl)) (z3 (by kernel_rfl)) rfl rfl rfl (fun _=>y1x rfl rfl) ?_
          refine WD.yS (.cons .here (.cons .here .nil)) ?_ zl6
          exact (.cons rfl (.cons rfl (.cons rfl (.cons rfl (.cons rfl (.cons rfl (.cons rfl (.cons (zq (Eq.symm zgU)) (.cons (zq (y26 zgU)) .nil)))))))))
      refine WD.d #[true,true,true,true,true,true,true,true,true,true,true,true,true,true,true,true,true,true,true,true,true,true,true,true,true,true,true,true,true,true,true,false,false,false,false,false,false,false,false,false,false,false,false,false,false,false] (by kernel_rfl) ?_
      refine WD.a (i:=31) (d:=45) (by kernel_rfl) rfl (z2 (by kernel_rfl)) (z3 (by kernel_rfl)) rfl rfl rfl (fun _=>q_m rfl) ?_
      refine WD.mid (fuel':=0) [(1,(.slice z1U z8.length z1V)),(2,(.pointer (some ⟨z6D,0,none⟩))),(7,(.slice z1U z8.length z1V)),(8,(.int .i64 ((z8.length : Nat) : Int))),(9,(.int .i64 zd)),(45,(.bool ((((((decide (((nth z8 zd).fTime) < 0)) || (decide (((nth z8 zd).fTime) > 536870912))) || (decide (((nth z8 zd).fVL) < 0))) || (decide (((nth z8 zd).fVL) ≥ ((zB.fVLs.length : Nat) : Int)))) || (decide (((nth z8 zd).fSize) < 1))) || (decide (((nth z8 zd).fSize) > 72))))),(59,(.bool (((((((decide (((nth z8 zd).fTime) < 0)) || (decide (((nth z8 zd).fTime) > 536870912))) || (decide (((nth z8 zd).fVL) < 0))) || (decide (((nth z8 zd).fVL) ≥ ((zB.fVLs.length : Nat) : Int)))) || (decide (((nth z8 zd).fSize) < 1))) || (decide (((nth z8 zd).fSize) > 72))) || ((decide (zd > 0)) && (decide (((nth z8 (i64 (zd - 1))).fTime) > ((nth z8 zd).fTime)))))))] (y1I 46 [45,44,43,42,41,40,39,38,37,36,35,34,33,32,31,30,29,28,27,26,25,24,23,22,21,20,19,18,17,16,15,14,13,12,11,10,9,8,7,6,5,4,3,2,1,0]) ?_ (fun zl7=>?_)
      rotate_left
      · rcases Bool.eq_false_or_eq_true ((((((decide (((nth z8 zd).fTime) < 0)) || (decide (((nth z8 zd).fTime) > 536870912))) || (decide (((nth z8 zd).fVL) < 0))) || (decide (((nth z8 zd).fVL) ≥ ((zB.fVLs.length : Nat) : Int)))) || (decide (((nth z8 zd).fSize) < 1))) || (decide (((nth z8 zd).fSize) > 72))) with hb' | hb'
        · have zgV:=hb'; clear hb'
          refine WD.pin (i:=45) rfl zgV ?_
          refine WD.b (i:=32) (d:=46) (by kernel_rfl) rfl (z2 (by kernel_rfl)) (z3 (by kernel_rfl)) rfl rfl rfl ?_
          refine WD.b (i:=33) (d:=47) (by kernel_rfl) rfl (z2 (by kernel_rfl)) (z3 (by kernel_rfl)) rfl rfl rfl ?_
          refine WD.b (i:=34) (d:=48) (by kernel_rfl) rfl (z2 (by kernel_rfl)) (z3 (by kernel_rfl)) rfl rfl rfl ?_
          refine WD.b (i:=35) (d:=49) (by kernel_rfl) rfl (z2 (by kernel_rfl)) (z3 (by kernel_rfl)) rfl rfl rfl ?_
          refine WD.b (i:=36) (d:=50) (by kernel_rfl) rfl (z2 (by kernel_rfl)) (z3 (by kernel_rfl)) rfl rfl rfl ?_
          refine WD.b (i:=37) (d:=51) (by kernel_rfl) rfl (z2 (by kernel_rfl)) (z3 (by kernel_rfl)) rfl rfl rfl ?_
          refine WD.b (i:=38) (d:=52) (by kernel_rfl) rfl (z2 (by kernel_rfl)) (z3 (by kernel_rfl)) rfl rfl rfl ?_
          refine WD.b (i:=39) (d:=53) (by kernel_rfl) rfl (z2 (by kernel_rfl)) (z3 (by kernel_rfl)) rfl rfl rfl ?_
          refine WD.b (i:=40) (d:=54) (by kernel_rfl) rfl (z2 (by kernel_rfl)) (z3 (by kernel_rfl)) rfl rfl rfl ?_
          refine WD.b (i:=41) (d:=55) (by kernel_rfl) rfl (z2 (by kernel_rfl)) (z3 (by kernel_rfl)) rfl rfl rfl ?_
          refine WD.b (i:=42) (d:=56) (by kernel_rfl) rfl (z2 (by kernel_rfl)) (z3 (by kernel_rfl)) rfl rfl rfl ?_
          refine WD.b (i:=43) (d:=57) (by kernel_rfl) rfl (z2 (by kernel_rfl)) (z3 (by kernel_rfl)) rfl rfl rfl ?_
          refine WD.b (i:=44) (d:=58) (by kernel_rfl) rfl (z2 (by kernel_rfl)) (z3 (by kernel_rfl)) rfl rfl rfl ?_
          refine WD.a (i:=45) (d:=59) (by kernel_rfl) rfl (z2 (by kernel_rfl)) (z3 (by kernel_rfl)) rfl rfl rfl (fun _=>y1w rfl rfl) ?_
          refine WD.yS (.cons .here (.cons .here .nil)) ?_ zl7
          exact (.cons rfl (.cons rfl (.cons rfl (.cons rfl (.cons rfl (.cons (zq (Eq.symm zgV)) (.cons (zq (y25 zgV)) .nil)))))))
        · have zep:=hb'; clear hb'
          have zq3:=zq2 zep
          refine WD.pin (i:=45) rfl zep ?_
          refine WD.a (i:=32) (d:=46) (by kernel_rfl) rfl (z2 (by kernel_rfl)) (z3 (by kernel_rfl)) rfl rfl rfl (fun _=>q_m rfl) ?_
          refine WD.a (i:=33) (d:=47) (by kernel_rfl) rfl (z2 (by kernel_rfl)) (z3 (by kernel_rfl)) rfl rfl rfl (fun _=>y3F rfl rfl) ?_
          refine WD.a (i:=34) (d:=48) (by kernel_rfl) rfl (z2 (by kernel_rfl)) (z3 (by kernel_rfl)) rfl rfl rfl (fun _=>q_m rfl) ?_
          refine WD.mid (fuel':=1) [(1,(.slice z1U z8.length z1V)),(2,(.pointer (some ⟨z6D,0,none⟩))),(7,(.slice z1U z8.length z1V)),(8,(.int .i64 ((z8.length : Nat) : Int))),(9,(.int .i64 zd)),(45,(.bool false)),(48,(.bool (decide (zd > 0)))),(58,(.bool ((decide (zd > 0)) && (decide (((nth z8 (i64 (zd - 1))).fTime) > ((nth z8 zd).fTime))))))] (y1I 46 [44,43,42,41,40,39,38,37,36,35,34,33,32,31,30,29,28,27,26,25,24,23,22,21,20,19,18,17,16,15,14,13,12,11,10,9,8,7,6,5,4,3,2,1,0]) ?_ (fun zl8=>?_)
          rotate_left
          · rcases Bool.eq_false_or_eq_true (decide (zd > 0)) with hb' | hb'
            · have zeq:=hb'; clear hb'
              have zq4:=zq3 zeq
              refine WD.pin (i:=48) rfl zeq ?_
              refine WD.a (i:=35) (d:=49) (by kernel_rfl) rfl (z2 (by kernel_rfl)) (z3 (by kernel_rfl)) rfl rfl rfl (fun _=>q_m rfl) ?_
              refine WD.a (i:=36) (d:=50) (by kernel_rfl) rfl (z2 (by kernel_rfl)) (z3 (by kernel_rfl)) rfl rfl rfl (fun _=>q_m rfl) ?_
              refine WD.a (i:=37) (d:=51) (by kernel_rfl) rfl (z2 (by kernel_rfl)) (z3 (by kernel_rfl)) rfl rfl rfl (fun _=>y4E rfl rfl rfl) ?_
              refine WD.znth (j:=38) (dd:=52) (by kernel_rfl) rfl (z2 (by kernel_rfl)) (z3 (by kernel_rfl)) rfl rfl (Z:=Z) (Pr:=(fun r x=>r = e53 x)) y41 rfl rfl zl1 zq4 ?_
              rintro zvO zvP zq5 zvQ rfl
              refine WD.a (i:=39) (d:=53) (by kernel_rfl) rfl (z2 (by kernel_rfl)) (z3 (by kernel_rfl)) rfl rfl rfl (fun _=>ya y3r rfl rfl) ?_
              refine WD.e (i:=40) (d:=54) (by kernel_rfl) rfl (z2 (by kernel_rfl)) (z3 (by kernel_rfl)) rfl rfl rfl (yb yf rfl (y2e hz.pv zq5 rfl)) ?_
              refine WD.a (i:=41) (d:=55) (by kernel_rfl) rfl (z2 (by kernel_rfl)) (z3 (by kernel_rfl)) rfl rfl rfl (fun _=>ya y3r rfl rfl) ?_
              refine WD.e (i:=42) (d:=56) (by kernel_rfl) rfl (z2 (by kernel_rfl)) (z3 (by kernel_rfl)) rfl rfl rfl (yb yf rfl (ye .here rfl)) ?_
              refine WD.a (i:=43) (d:=57) (by kernel_rfl) rfl (z2 (by kernel_rfl)) (z3 (by kernel_rfl)) rfl rfl rfl (fun _=>y3F rfl rfl) ?_
              refine WD.a (i:=44) (d:=58) (by kernel_rfl) rfl (z2 (by kernel_rfl)) (z3 (by kernel_rfl)) rfl rfl rfl (fun _=>y1w rfl rfl) ?_
              refine WD.yS (.cons .here (.cons .here .nil)) ?_ zl8
              exact (.cons rfl (.cons rfl (.cons rfl (.cons rfl (.cons rfl (.cons rfl (.cons (zq (Eq.symm zeq)) (.cons (zq (y2L zeq)) .nil))))))))
            · have zgW:=hb'; clear hb'
              refine WD.pin (i:=48) rfl zgW ?_
              refine WD.b (i:=35) (d:=49) (by kernel_rfl) rfl (z2 (by kernel_rfl)) (z3 (by kernel_rfl)) rfl rfl rfl ?_
              refine WD.b (i:=36) (d:=50) (by kernel_rfl) rfl (z2 (by kernel_rfl)) (z3 (by kernel_rfl)) rfl rfl rfl ?_
              refine WD.b (i:=37) (d:=51) (by kernel_rfl) rfl (z2 (by kernel_rfl)) (z3 (by kernel_rfl)) rfl rfl rfl ?_
              refine WD.b (i:=38) (d:=52) (by kernel_rfl) rfl (z2 (by kernel_rfl)) (z3 (by kernel_rfl)) rfl rfl rfl ?_
              refine WD.b (i:=39) (d:=53) (by kernel_rfl) rfl (z2 (by kernel_rfl)) (z3 (by kernel_rfl)) rfl rfl rfl ?_
              refine WD.b (i:=40) (d:=54) (by kernel_rfl) rfl (z2 (by kernel_rfl)) (z3 (by kernel_rfl)) rfl rfl rfl ?_
              refine WD.b (i:=41) (d:=55) (by kernel_rfl) rfl (z2 (by kernel_rfl)) (z3 (by kernel_rfl)) rfl rfl rfl ?_
              refine WD.b (i:=42) (d:=56) (by kernel_rfl) rfl (z2 (by kernel_rfl)) (z3 (by kernel_rfl)) rfl rfl rfl ?_
              refine WD.b (i:=43) (d:=57) (by kernel_rfl) rfl (z2 (by kernel_rfl)) (z3 (by kernel_rfl)) rfl rfl rfl ?_
              refine WD.a (i:=44) (d:=58) (by kernel_rfl) rfl (z2 (by kernel_rfl)) (z3 (by kernel_rfl)) rfl rfl rfl (fun _=>y1x rfl rfl) ?_
              refine WD.yS (.cons .here (.cons .here .nil)) ?_ zl8
              exact (.cons rfl (.cons rfl (.cons rfl (.cons rfl (.cons rfl (.cons rfl (.cons (zq (Eq.symm zgW)) (.cons (zq (y2K zgW)) .nil))))))))
          refine WD.d #[true,true,true,true,true,true,true,true,true,true,true,true,true,true,true,true,true,true,true,true,true,true,true,true,true,true,true,true,true,true,true,true,true,true,true,true,true,true,true,true,true,true,true,true,true,false] (by kernel_rfl) ?_
          refine WD.a (i:=45) (d:=59) (by kernel_rfl) rfl (z2 (by kernel_rfl)) (z3 (by kernel_rfl)) rfl rfl rfl (fun _=>y1x rfl rfl) ?_
          refine WD.yS (.cons .here (.cons .here .nil)) ?_ zl7
          exact (.cons rfl (.cons rfl (.cons rfl (.cons rfl (.cons rfl (.cons (zq (Eq.symm zep)) (.cons (zq (y26 zep)) .nil)))))))
      refine WD.d #[true,true,true,true,true,true,true,true,true,true,true,true,true,true,true,true,true,true,true,true,true,true,true,true,true,true,true,true,true,true,true,true,true,true,true,true,true,true,true,true,true,true,true,true,true,true] (by kernel_rfl) ?_
      refine WD.done (by kernel_rfl) ?_
      refine WX.a ?_
      refine WC.cond rfl (fun zgX=>?_) (fun zgX=>?_)
      · replace h:=ym h zgX
        refine WC.b (WC.a (WL.pu rfl (WL.nil (WX.a (WC.ret (WX.yK (WX.yi (WX.yi (WX.yK (WX.yi ?_))))))))))
        obtain rfl:=Option.some.inj h
        refine WX.yh Try.results24 (.tmp rfl .nil) (fun w hw=>?_)
        exact ⟨y10 rfl,hw.sub .nil⟩
      · replace h:=yn h zgX
        refine WC.skip (WX.yg (WX.a (WC.a (WL.pu rfl (WL.pu rfl (WL.nil ?_))))))
        exact WX.round (G:=Nat × Int) ⟨zgJ,(i64 (zd + 1))⟩ h (Nat.lt_succ_self _) (.cons rfl (.cons rfl (.cons rfl (.cons rfl (.cons rfl .nil))))) (.cons .h1 .nil)
    · replace h:=yn h zgK
      refine WC.exit (WX.yd (WX.yd (WX.yA ?_)))
      exact WX.mid (G:=Unit) () h (.cons rfl .nil) .nil
  · rintro  h
    replace h:=zpZ.symm.trans h
    refine WC.b (WC.a (WL.pu rfl ?_))
    refine WL.a (d:=62) rfl rfl rfl (yW Try.underlying33 rfl) ?_
    refine WL.pu rfl (WL.pu rfl (WL.nil (WX.a (WC.ret ?_))))
    obtain rfl:=Option.some.inj h
    refine WX.yh Try.results24 (.tmp rfl .nil) (fun w hw=>?_)
    exact ⟨y10 rfl,hw.sub .nil⟩
def y27 (z8H : List Snetwork_event) : Option Int :=
  some ((z8H.length : Nat) : Int)
set_option maxRecDepth 20000 in
theorem y4o (Z : Zp) (zer : Option Addr) (zes : Nat) (z8H : List Snetwork_event) (r : Int)
     (h : y27 z8H = some r) (w₀ : World) (hz : PZ [] w₀ Z)
     (zvR : ZS Z 7 (fun r x=>r = yx x) zer zes z8H) :
    Calls Try.prog 86 #[(.slice zer z8H.length zes)] w₀ fun e w'=>e = .returned (.int .i64 r) ∧ Hp [] w₀ w' []:=by
  unfold y27 at h
  refine Calls.yl (vs:=[(.slice zer z8H.length zes)]) (pre:=[]) (env:=[(0,(.slice zer z8H.length zes))]) Try.func86 rfl Try.ntmps86 rfl (Hp.nil w₀ _) rfl ?_
  refine WC.b (WC.a (WL.pu rfl (WL.nil (WX.a (WC.b (WC.a (WL.pu rfl ?_)))))))
  refine WL.a (d:=4) rfl rfl rfl (yW Try.underlying79 rfl) ?_
  refine WL.pu rfl (WL.nil (WX.a (WC.ret ?_)))
  obtain rfl:=Option.some.inj h
  refine WX.yh Try.results86 (.tmp rfl .nil) (fun w hw=>?_)
  exact ⟨y10 rfl,hw.sub .nil⟩
def y3k (z8I : Int) : Option Bool :=
  some (decide (z8I ≠ z8I))
set_option maxRecDepth 20000 in
theorem y5o (Z : Zp)  (z8I : Int) (r : Bool)
     (h : y3k z8I = some r) (w₀ : World) (hz : PZ [] w₀ Z) :
    Calls Try.prog 58 #[(.int .i64 z8I)] w₀ fun e w'=>e = .returned (.bool r) ∧ Hp [] w₀ w' []:=by
  unfold y3k at h
  refine Calls.yl (vs:=[(.int .i64 z8I)]) (pre:=[]) (env:=[(0,(.int .i64 z8I))]) Try.func58 rfl Try.ntmps58 rfl (Hp.nil w₀ _) rfl ?_
  refine WC.b (WC.a (WL.pu rfl (WL.nil (WX.a (WC.b (WC.a (WL.pu rfl (WL.pu rfl (WL.pu rfl (WL.pu rfl (WL.nil (WX.a (WC.ret ?_)))))))))))))
  obtain rfl:=Option.some.inj h
  refine WX.yh Try.results58 (.tmp rfl .nil) (fun w hw=>?_)
  exact ⟨y10 rfl,hw.sub .nil⟩
def y1h (z7A : Int) (z7B : Int) : Option Int :=
  (y3k z7A).bind fun zl9=>(y3k z7B).bind fun zgY=>if zl9 then if zgY then some 0 else some (-1) else if zgY then some 1 else if decide (z7A < z7B) then some (-1) else if decide (z7A > z7B) then some 1 else some 0
set_option maxRecDepth 20000 in
theorem y2a (Z : Zp)  (z7A : Int) (z7B : Int) (r : Int)
     (h : y1h z7A z7B = some r) (w₀ : World) (hz : PZ [] w₀ Z) :
    Calls Try.prog 45 #[(.int .i64 z7A),(.int .i64 z7B)] w₀ fun e w'=>e = .returned (.int .i64 r) ∧ Hp [] w₀ w' []:=by
  unfold y1h at h
  refine Calls.yl (vs:=[(.int .i64 z7A),(.int .i64 z7B)]) (pre:=[]) (env:=[(0,(.int .i64 z7A)),(1,(.int .i64 z7B))]) Try.func45 rfl Try.ntmps45 rfl (Hp.nil w₀ _) rfl ?_
  refine WC.b (WC.a (WL.pu rfl (WL.nil (WX.a (WC.b ?_)))))
  obtain ⟨zl9,zq6,h⟩:=zf h
  refine WC.a (WL.pu rfl ?_)
  refine WL.b (dd:=8) rfl rfl rfl (zy (l:=[.tmp 7]) Try.call58 (.cons rfl .nil)) .nil (cc hz .nil fun w pz ho=>y5o _ _ _ zq6 w pz ) ?_
  refine WL.pu rfl (WL.nil (WX.a (WC.b ?_)))
  obtain ⟨zgY,zq7,h⟩:=zf h
  refine WC.a (WL.pu rfl ?_)
  refine WL.b (dd:=10) rfl rfl rfl (zy (l:=[.tmp 9]) Try.call58 (.cons rfl .nil)) .nil (cc hz .nil fun w pz ho=>y5o _ _ _ zq7 w pz ) ?_
  refine WL.pu rfl (WL.nil (WX.a (WC.b (WC.b (WC.a (WL.pu rfl (WL.nil (WX.a ?_))))))))
  refine WC.cond rfl (fun zgZ=>?_) (fun zgZ=>?_)
  · replace h:=ym h zgZ
    refine WC.b (WC.b (WC.a (WL.pu rfl (WL.nil (WX.a ?_)))))
    refine WC.cond rfl (fun zh0=>?_) (fun zh0=>?_)
    · replace h:=ym h zh0
      refine WC.b (WC.a (WL.pu rfl (WL.nil (WX.a (WC.ret (WX.yi (WX.yi ?_)))))))
      obtain rfl:=Option.some.inj h
      refine WX.yh Try.results45 (.tmp rfl .nil) (fun w hw=>?_)
      exact ⟨y10 rfl,hw.sub .nil⟩
    · replace h:=yn h zh0
      refine WC.skip (WX.a (WC.b (WC.a (WL.pu rfl (WL.nil (WX.a (WC.ret (WX.yi ?_))))))))
      obtain rfl:=Option.some.inj h
      refine WX.yh Try.results45 (.tmp rfl .nil) (fun w hw=>?_)
      exact ⟨y10 rfl,hw.sub .nil⟩
  · replace h:=yn h zgZ
    refine WC.skip (WX.a (WC.b (WC.b (WC.a (WL.pu rfl (WL.nil (WX.a ?_)))))))
    refine WC.cond rfl (fun zh1=>?_) (fun zh1=>?_)
    · replace h:=ym h zh1
      refine WC.b (WC.a (WL.pu rfl (WL.nil (WX.a (WC.ret (WX.yi ?_))))))
      obtain rfl:=Option.some.inj h
      refine WX.yh Try.results45 (.tmp rfl .nil) (fun w hw=>?_)
      exact ⟨y10 rfl,hw.sub .nil⟩
    · replace h:=yn h zh1
      refine WC.skip (WX.a (WC.b (WC.b (WC.a (WL.pu rfl (WL.pu rfl (WL.pu rfl (WL.nil (WX.a ?_)))))))))
      refine WC.cond rfl (fun zh2=>?_) (fun zh2=>?_)
      · replace h:=ym h zh2
        refine WC.b (WC.a (WL.pu rfl (WL.nil (WX.a (WC.ret (WX.yi ?_))))))
        obtain rfl:=Option.some.inj h
        refine WX.yh Try.results45 (.tmp rfl .nil) (fun w hw=>?_)
        exact ⟨y10 rfl,hw.sub .nil⟩
      · replace h:=yn h zh2
        refine WC.skip (WX.a (WC.b (WC.b (WC.a (WL.pu rfl (WL.pu rfl (WL.pu rfl (WL.nil (WX.a ?_)))))))))
        refine WC.cond rfl (fun zh3=>?_) (fun zh3=>?_)
        · replace h:=ym h zh3
          refine WC.b (WC.a (WL.pu rfl (WL.nil (WX.a (WC.ret (WX.yi ?_))))))
          obtain rfl:=Option.some.inj h
          refine WX.yh Try.results45 (.tmp rfl .nil) (fun w hw=>?_)
          exact ⟨y10 rfl,hw.sub .nil⟩
        · replace h:=yn h zh3
          refine WC.skip (WX.a (WC.b (WC.a (WL.pu rfl (WL.nil (WX.a (WC.ret ?_)))))))
          obtain rfl:=Option.some.inj h
          refine WX.yh Try.results45 (.tmp rfl .nil) (fun w hw=>?_)
          exact ⟨y10 rfl,hw.sub .nil⟩
def y2r (z2o : List Int) (z6E : Option Int) : Nat → Int → Option Int
  | 0,_=>none
  | zh4 + 1,z2R=>if decide (z2R < ((z2o.length : Nat) : Int)) then chk ((0 : Int) ≤ z2R ∧ z2R < ((z2o.length : Nat) : Int)) (if decide ((nth z2o z2R) ≠ 0) then some (nth z2o z2R) else y2r z2o z6E zh4 (i64 (z2R + 1))) else z6E
theorem y67 {n : Nat} {z2o : List Int} {z6E : Option Int} {z2R : Int} {r : Int} (h : y2r z2o z6E n z2R = some r) : ∃ m,n = m + 1:=by
  cases n with
  | zero=>cases h
  | succ m=>exact ⟨m,rfl⟩
def y3s (z2o : List Int) : Option Int :=
  jp0 (some 0) fun z6E=>y2r z2o z6E yz 0
set_option maxRecDepth 20000 in
theorem y6C (Z : Zp) (zd9 : Option Addr) (zda : Nat) (z2o : List Int) (r : Int)
     (h : y3s z2o = some r) (w₀ : World) (hz : PZ [] w₀ Z)
     (zq8 : ZS Z 1 (fun r x=>r = e3 x) zd9 zda z2o) :
    Calls Try.prog 44 #[(.slice zd9 z2o.length zda)] w₀ fun e w'=>e = .returned (.int .i64 r) ∧ Hp [] w₀ w' []:=by
  unfold y3s at h
  refine Calls.yl (vs:=[(.slice zd9 z2o.length zda)]) (pre:=[]) (env:=[(0,(.slice zd9 z2o.length zda))]) Try.func44 rfl Try.ntmps44 rfl (Hp.nil w₀ _) rfl ?_
  refine WC.b (WC.a (WL.pu rfl (WL.nil (WX.a (WC.b (WC.a (WL.pu rfl (WL.nil (WX.a ?_)))))))))
  obtain ⟨z6E,zq9,h⟩:=y2P h
  refine WC.y2p ((z6E = some r)) ([(3,(.int .i64 0))]) ([]) ?_ ?_
  · skip
    refine WC.b (WC.a (WL.pu rfl ?_))
    refine WL.a (d:=7) rfl rfl rfl (yW Try.underlying56 rfl) ?_
    refine WL.pu rfl (WL.nil (WX.a (WC.block ?_)))
    refine WC.y3Z (fun (zaF : Nat) (z2R : Int)=>(y2r z2o z6E zaF z2R = some r)) (fun (zaF : Nat) (z2R : Int)=>[(3,(.int .i64 0)),(6,(.slice zd9 z2o.length zda)),(7,(.int .i64 ((z2o.length : Nat) : Int))),(8,(.int .i64 z2R))]) (fun (zaF : Nat) (z2R : Int)=>[]) (fun (zaF : Nat) (z2R : Int)=>zaF) ⟨yz,0⟩ h (.cons rfl (.cons rfl (.cons rfl (.cons rfl .nil)))) .nil ?_
    rintro zaF z2R h
    obtain ⟨zh4,rfl⟩:=y67 h
    rw [y2r] at h
    refine WC.b (WC.a (WL.pu rfl (WL.nil (WX.a (WC.b ?_)))))
    refine WC.cond rfl (fun zh5=>?_) (fun zh5=>?_)
    · replace h:=ym h zh5
      refine WC.skip (WX.a (WC.b (WC.block (WC.b ?_))))
      obtain ⟨zqa,h⟩:=yj h
      refine WC.a ?_
      refine WL.znth (dd:=10) rfl rfl (Z:=Z) (Pr:=(fun r x=>r = e3 x)) y6B rfl rfl zq8 zqa ?_
      rintro zvS zvT zqb zvU rfl
      refine WL.a (d:=11) rfl rfl rfl (yb yf rfl (rd_z hz.pv zqb rfl)) ?_
      refine WL.pu rfl (WL.nil (WX.a (WC.b (WC.a (WL.pu rfl (WL.pu rfl (WL.pu rfl (WL.nil (WX.a ?_)))))))))
      refine WC.cond rfl (fun zh6=>?_) (fun zh6=>?_)
      · replace h:=ym h zh6
        refine WC.b (WC.a (WL.pu rfl (WL.pu rfl (WL.nil (WX.a (WC.ret (WX.yK (WX.yi (WX.yi (WX.yK (WX.yi ?_)))))))))))
        obtain rfl:=Option.some.inj h
        refine WX.yh Try.results44 (.tmp rfl .nil) (fun w hw=>?_)
        exact ⟨y10 rfl,hw.sub .nil⟩
      · replace h:=yn h zh6
        refine WC.skip (WX.yg (WX.a (WC.a (WL.pu rfl (WL.pu rfl (WL.nil ?_))))))
        exact WX.round (G:=Nat × Int) ⟨zh4,(i64 (z2R + 1))⟩ h (Nat.lt_succ_self _) (.cons rfl (.cons rfl (.cons rfl (.cons rfl .nil)))) .nil
    · replace h:=yn h zh5
      refine WC.exit (WX.yd (WX.yd (WX.yA ?_)))
      exact WX.mid (G:=Unit) () h (.cons rfl .nil) .nil
  · rintro  h
    replace h:=zq9.symm.trans h
    refine WC.b (WC.a (WL.pu rfl (WL.pu rfl (WL.nil (WX.a (WC.ret ?_))))))
    obtain rfl:=Option.some.inj h
    refine WX.yh Try.results44 (.tmp rfl .nil) (fun w hw=>?_)
    exact ⟨y10 rfl,hw.sub .nil⟩
def y1U (z1b : Snetwork_event) (z1c : Snetwork_event) : Option Int :=
  (y1h z1b.fTime z1c.fTime).bind fun zh7=>(y1h z1b.fIn_ z1c.fIn_).bind fun zh8=>(y1h z1b.fVl z1c.fVl).bind fun zh9=>(y1h z1b.fSent z1c.fSent).bind fun zha=>(y3s ([zh7,zh8,zh9,zha] : List Int)).bind fun zla=>some zla
set_option maxRecDepth 20000 in
theorem y5u (Z : Zp)  (z1b : Snetwork_event) (z1c : Snetwork_event) (r : Int)
     (h : y1U z1b z1c = some r) (w₀ : World) (hz : PZ [] w₀ Z) :
    Calls Try.prog 89 #[(.agg #[(.int .i64 z1b.fTime),(.int .i64 z1b.fIn_),(.int .i64 z1b.fVl),(.int .i64 z1b.fSent),(.int .i64 z1b.fHop.fNode),(.int .i64 z1b.fHop.fNext),(.int .i64 z1b.fHop.fLink)]),(.agg #[(.int .i64 z1c.fTime),(.int .i64 z1c.fIn_),(.int .i64 z1c.fVl),(.int .i64 z1c.fSent),(.int .i64 z1c.fHop.fNode),(.int .i64 z1c.fHop.fNext),(.int .i64 z1c.fHop.fLink)])] w₀ fun e w'=>e = .returned (.int .i64 r) ∧ Hp [] w₀ w' []:=by
  unfold y1U at h
  refine Calls.yl (vs:=[(.agg #[(.int .i64 z1b.fTime),(.int .i64 z1b.fIn_),(.int .i64 z1b.fVl),(.int .i64 z1b.fSent),(.int .i64 z1b.fHop.fNode),(.int .i64 z1b.fHop.fNext),(.int .i64 z1b.fHop.fLink)]),(.agg #[(.int .i64 z1c.fTime),(.int .i64 z1c.fIn_),(.int .i64 z1c.fVl),(.int .i64 z1c.fSent),(.int .i64 z1c.fHop.fNode),(.int .i64 z1c.fHop.fNext),(.int .i64 z1c.fHop.fLink)])]) (pre:=[]) (env:=[(0,(.agg #[(.int .i64 z1b.fTime),(.int .i64 z1b.fIn_),(.int .i64 z1b.fVl),(.int .i64 z1b.fSent),(.int .i64 z1b.fHop.fNode),(.int .i64 z1b.fHop.fNext),(.int .i64 z1b.fHop.fLink)])),(1,(.agg #[(.int .i64 z1c.fTime),(.int .i64 z1c.fIn_),(.int .i64 z1c.fVl),(.int .i64 z1c.fSent),(.int .i64 z1c.fHop.fNode),(.int .i64 z1c.fHop.fNext),(.int .i64 z1c.fHop.fLink)]))]) Try.func89 rfl Try.ntmps89 rfl (Hp.nil w₀ _) rfl ?_
  refine WC.b (WC.a ?_)
  refine WL.new (dd:=2) rfl rfl rfl (y2g (cs:=[(.int .i64 z1b.fTime),(.int .i64 z1b.fIn_),(.int .i64 z1b.fVl),(.int .i64 z1b.fSent),(.int .i64 z1b.fHop.fNode),(.int .i64 z1b.fHop.fNext),(.int .i64 z1b.fHop.fLink)]) rfl rfl) ?_
  intro zvV _
  refine WL.new (dd:=3) rfl rfl rfl (y2g (cs:=[(.int .i64 z1c.fTime),(.int .i64 z1c.fIn_),(.int .i64 z1c.fVl),(.int .i64 z1c.fSent),(.int .i64 z1c.fHop.fNode),(.int .i64 z1c.fHop.fNext),(.int .i64 z1c.fHop.fLink)]) rfl rfl) ?_
  intro zvW _
  refine WL.pu rfl (WL.nil (WX.a (WC.b ?_)))
  obtain ⟨zh7,zqc,h⟩:=zf h
  obtain ⟨zh8,zqd,h⟩:=zf h
  obtain ⟨zh9,zqe,h⟩:=zf h
  obtain ⟨zha,zqf,h⟩:=zf h
  obtain ⟨zla,zqg,h⟩:=zf h
  refine WC.yZ (fun i=>[].contains i) [] rfl ?_
  refine WD.a (i:=0) (d:=5) (by kernel_rfl) rfl (z2 (by kernel_rfl)) (z3 (by kernel_rfl)) rfl rfl rfl (fun _=>ya y64 rfl rfl) ?_
  refine WD.e (i:=1) (d:=6) (by kernel_rfl) rfl (z2 (by kernel_rfl)) (z3 (by kernel_rfl)) rfl rfl rfl (yb yf rfl (ye .h1 rfl)) ?_
  refine WD.a (i:=2) (d:=7) (by kernel_rfl) rfl (z2 (by kernel_rfl)) (z3 (by kernel_rfl)) rfl rfl rfl (fun _=>ya y64 rfl rfl) ?_
  refine WD.e (i:=3) (d:=8) (by kernel_rfl) rfl (z2 (by kernel_rfl)) (z3 (by kernel_rfl)) rfl rfl rfl (yb yf rfl (ye .here rfl)) ?_
  refine WD.c (i:=4) (d:=9) (by kernel_rfl) rfl (z2 (by kernel_rfl)) (z3 (by kernel_rfl)) rfl rfl rfl (zy (l:=[.tmp 6,.tmp 8]) Try.call45 (.cons rfl (.cons rfl .nil))) (cc hz .nil fun w pz ho=>y2a _ _ _ _ zqc w pz ) ?_
  refine WD.a (i:=5) (d:=10) (by kernel_rfl) rfl (z2 (by kernel_rfl)) (z3 (by kernel_rfl)) rfl rfl rfl (fun _=>ya y8t rfl rfl) ?_
  refine WD.e (i:=6) (d:=11) (by kernel_rfl) rfl (z2 (by kernel_rfl)) (z3 (by kernel_rfl)) rfl rfl rfl (yb yf rfl (ye .h1 rfl)) ?_
  refine WD.a (i:=7) (d:=12) (by kernel_rfl) rfl (z2 (by kernel_rfl)) (z3 (by kernel_rfl)) rfl rfl rfl (fun _=>ya y8t rfl rfl) ?_
  refine WD.e (i:=8) (d:=13) (by kernel_rfl) rfl (z2 (by kernel_rfl)) (z3 (by kernel_rfl)) rfl rfl rfl (yb yf rfl (ye .here rfl)) ?_
  refine WD.c (i:=9) (d:=14) (by kernel_rfl) rfl (z2 (by kernel_rfl)) (z3 (by kernel_rfl)) rfl rfl rfl (zy (l:=[.tmp 11,.tmp 13]) Try.call45 (.cons rfl (.cons rfl .nil))) (cc hz .nil fun w pz ho=>y2a _ _ _ _ zqd w pz ) ?_
  refine WD.a (i:=10) (d:=15) (by kernel_rfl) rfl (z2 (by kernel_rfl)) (z3 (by kernel_rfl)) rfl rfl rfl (fun _=>ya y8u rfl rfl) ?_
  refine WD.e (i:=11) (d:=16) (by kernel_rfl) rfl (z2 (by kernel_rfl)) (z3 (by kernel_rfl)) rfl rfl rfl (yb yf rfl (ye .h1 rfl)) ?_
  refine WD.a (i:=12) (d:=17) (by kernel_rfl) rfl (z2 (by kernel_rfl)) (z3 (by kernel_rfl)) rfl rfl rfl (fun _=>ya y8u rfl rfl) ?_
  refine WD.e (i:=13) (d:=18) (by kernel_rfl) rfl (z2 (by kernel_rfl)) (z3 (by kernel_rfl)) rfl rfl rfl (yb yf rfl (ye .here rfl)) ?_
  refine WD.c (i:=14) (d:=19) (by kernel_rfl) rfl (z2 (by kernel_rfl)) (z3 (by kernel_rfl)) rfl rfl rfl (zy (l:=[.tmp 16,.tmp 18]) Try.call45 (.cons rfl (.cons rfl .nil))) (cc hz .nil fun w pz ho=>y2a _ _ _ _ zqe w pz ) ?_
  refine WD.a (i:=15) (d:=20) (by kernel_rfl) rfl (z2 (by kernel_rfl)) (z3 (by kernel_rfl)) rfl rfl rfl (fun _=>ya y4u rfl rfl) ?_
  refine WD.e (i:=16) (d:=21) (by kernel_rfl) rfl (z2 (by kernel_rfl)) (z3 (by kernel_rfl)) rfl rfl rfl (yb yf rfl (ye .h1 rfl)) ?_
  refine WD.a (i:=17) (d:=22) (by kernel_rfl) rfl (z2 (by kernel_rfl)) (z3 (by kernel_rfl)) rfl rfl rfl (fun _=>ya y4u rfl rfl) ?_
  refine WD.e (i:=18) (d:=23) (by kernel_rfl) rfl (z2 (by kernel_rfl)) (z3 (by kernel_rfl)) rfl rfl rfl (yb yf rfl (ye .here rfl)) ?_
  refine WD.c (i:=19) (d:=24) (by kernel_rfl) rfl (z2 (by kernel_rfl)) (z3 (by kernel_rfl)) rfl rfl rfl (zy (l:=[.tmp 21,.tmp 23]) Try.call45 (.cons rfl (.cons rfl .nil))) (cc hz .nil fun w pz ho=>y2a _ _ _ _ zqf w pz ) ?_
  refine WD.new (i:=20) (dd:=25) rfl (by kernel_rfl) rfl rfl rfl (y15 (cs:=([zh7,zh8,zh9,zha] : List Int).flatMap e3) y6B (Eos.parts (l:=[.tmp 9,.tmp 14,.tmp 19,.tmp 24]) (.cons rfl (.cons rfl (.cons rfl (.cons rfl .nil)))) [0,1,2,3]) (fun _=>by kernel_rfl) rfl (by unfold maxLen; omega)) (fun h'=>absurd h' (by decide)) ?_
  intro zvX _
  refine WD.c (i:=21) (d:=26) (by kernel_rfl) rfl (z2 (by kernel_rfl)) (z3 (by kernel_rfl)) rfl rfl rfl (zy (l:=[.tmp 25]) Try.call44 (.cons rfl .nil)) (ccl hz .nil (.cons .here .nil) fun w pz ho la=>y6C _ _ _ _ _ zqg w pz (ZA.row (la _ (.head _) _) (RR.y17 (enc:=e3) (fun _=>rfl) _) ⟨w,pz.1⟩)) ?_
  refine WD.a (i:=22) (d:=4) (by kernel_rfl) rfl (z2 (by kernel_rfl)) (z3 (by kernel_rfl)) rfl rfl rfl (fun _=>q_z rfl) ?_
  refine WD.done (by kernel_rfl) ?_
  refine WX.a (WC.ret ?_)
  obtain rfl:=Option.some.inj h
  refine WX.yh Try.results89 (.tmp rfl .nil) (fun w hw=>?_)
  exact ⟨y10 rfl,hw.sub .nil⟩
def y1p (z1J : List Snetwork_event) (z3i : Int) (z3j : Int) : Option Bool :=
  chk ((0 : Int) ≤ z3i ∧ z3i < ((z1J.length : Nat) : Int)) (chk ((0 : Int) ≤ z3j ∧ z3j < ((z1J.length : Nat) : Int)) ((y1U (⟨((nth z1J z3i).fTime),((nth z1J z3i).fIn_),((nth z1J z3i).fVl),((nth z1J z3i).fSent),(⟨(((nth z1J z3i).fHop).fNode),(((nth z1J z3i).fHop).fNext),(((nth z1J z3i).fHop).fLink)⟩ : Sapi_Hop)⟩ : Snetwork_event) (⟨((nth z1J z3j).fTime),((nth z1J z3j).fIn_),((nth z1J z3j).fVl),((nth z1J z3j).fSent),(⟨(((nth z1J z3j).fHop).fNode),(((nth z1J z3j).fHop).fNext),(((nth z1J z3j).fHop).fLink)⟩ : Sapi_Hop)⟩ : Snetwork_event)).bind fun zlb=>some (decide (zlb < 0))))
set_option maxRecDepth 20000 in
theorem y3t (Z : Zp) (zet : Option Addr) (zeu : Nat) (z1J : List Snetwork_event) (z3i : Int) (z3j : Int) (r : Bool)
     (h : y1p z1J z3i z3j = some r) (w₀ : World) (hz : PZ [] w₀ Z)
     (zlc : ZS Z 7 (fun r x=>r = yx x) zet zeu z1J) :
    Calls Try.prog 87 #[(.slice zet z1J.length zeu),(.int .i64 z3i),(.int .i64 z3j)] w₀ fun e w'=>e = .returned (.bool r) ∧ Hp [] w₀ w' []:=by
  unfold y1p at h
  refine Calls.yl (vs:=[(.slice zet z1J.length zeu),(.int .i64 z3i),(.int .i64 z3j)]) (pre:=[]) (env:=[(0,(.slice zet z1J.length zeu)),(1,(.int .i64 z3i)),(2,(.int .i64 z3j))]) Try.func87 rfl Try.ntmps87 rfl (Hp.nil w₀ _) rfl ?_
  refine WC.b (WC.a (WL.pu rfl (WL.nil (WX.a (WC.b ?_)))))
  obtain ⟨zqh,h⟩:=yj h
  obtain ⟨zqi,h⟩:=yj h
  obtain ⟨zlb,zqj,h⟩:=zf h
  refine WC.yZ (fun i=>[].contains i) [] rfl ?_
  refine WD.a (i:=0) (d:=7) (by kernel_rfl) rfl (z2 (by kernel_rfl)) (z3 (by kernel_rfl)) rfl rfl rfl (fun _=>q_m rfl) ?_
  refine WD.a (i:=1) (d:=8) (by kernel_rfl) rfl (z2 (by kernel_rfl)) (z3 (by kernel_rfl)) rfl rfl rfl (fun _=>q_m rfl) ?_
  refine WD.znth (j:=2) (dd:=9) (by kernel_rfl) rfl (z2 (by kernel_rfl)) (z3 (by kernel_rfl)) rfl rfl (Z:=Z) (Pr:=(fun r x=>r = yx x)) y4b rfl rfl zlc zqh ?_
  rintro zvY zvZ zqk zw0 rfl
  refine WD.e (i:=3) (d:=10) (by kernel_rfl) rfl (z2 (by kernel_rfl)) (z3 (by kernel_rfl)) rfl rfl rfl (yF z9J rfl (y3G hz.pv zqk) rfl) ?_
  refine WD.a (i:=4) (d:=11) (by kernel_rfl) rfl (z2 (by kernel_rfl)) (z3 (by kernel_rfl)) rfl rfl rfl (fun _=>q_m rfl) ?_
  refine WD.a (i:=5) (d:=12) (by kernel_rfl) rfl (z2 (by kernel_rfl)) (z3 (by kernel_rfl)) rfl rfl rfl (fun _=>q_m rfl) ?_
  refine WD.znth (j:=6) (dd:=13) (by kernel_rfl) rfl (z2 (by kernel_rfl)) (z3 (by kernel_rfl)) rfl rfl (Z:=Z) (Pr:=(fun r x=>r = yx x)) y4b rfl rfl zlc zqi ?_
  rintro zw1 zw2 zql zw3 rfl
  refine WD.e (i:=7) (d:=14) (by kernel_rfl) rfl (z2 (by kernel_rfl)) (z3 (by kernel_rfl)) rfl rfl rfl (yF z9J rfl (y3G hz.pv zql) rfl) ?_
  refine WD.c (i:=8) (d:=15) (by kernel_rfl) rfl (z2 (by kernel_rfl)) (z3 (by kernel_rfl)) rfl rfl rfl (zy (l:=[.tmp 10,.tmp 14]) Try.call89 (.cons rfl (.cons rfl .nil))) (cc hz .nil fun w pz ho=>y5u _ _ _ _ zqj w pz ) ?_
  refine WD.a (i:=9) (d:=16) (by kernel_rfl) rfl (z2 (by kernel_rfl)) (z3 (by kernel_rfl)) rfl rfl rfl (fun _=>y3n rfl rfl) ?_
  refine WD.a (i:=10) (d:=6) (by kernel_rfl) rfl (z2 (by kernel_rfl)) (z3 (by kernel_rfl)) rfl rfl rfl (fun _=>q_z rfl) ?_
  refine WD.done (by kernel_rfl) ?_
  refine WX.a (WC.ret ?_)
  obtain rfl:=Option.some.inj h
  refine WX.yh Try.results87 (.tmp rfl .nil) (fun w hw=>?_)
  exact ⟨y10 rfl,hw.sub .nil⟩
def y1q (z5 : List Snetwork_event) (zI : Int) (zr : Int) : Option (List Snetwork_event) :=
  chk ((0 : Int) ≤ zr ∧ zr < ((z5.length : Nat) : Int)) (chk ((0 : Int) ≤ zI ∧ zI < ((z5.length : Nat) : Int)) (chk ((0 : Int) ≤ zr ∧ zr < (((z5.set (zI : Int).toNat (⟨((nth z5 zr).fTime),((nth z5 zr).fIn_),((nth z5 zr).fVl),((nth z5 zr).fSent),(⟨(((nth z5 zr).fHop).fNode),(((nth z5 zr).fHop).fNext),(((nth z5 zr).fHop).fLink)⟩ : Sapi_Hop)⟩ : Snetwork_event)).length : Nat) : Int)) (some ((z5.set (zI : Int).toNat (⟨((nth z5 zr).fTime),((nth z5 zr).fIn_),((nth z5 zr).fVl),((nth z5 zr).fSent),(⟨(((nth z5 zr).fHop).fNode),(((nth z5 zr).fHop).fNext),(((nth z5 zr).fHop).fLink)⟩ : Sapi_Hop)⟩ : Snetwork_event)).set (zr : Int).toNat (⟨((nth z5 zI).fTime),((nth z5 zI).fIn_),((nth z5 zI).fVl),((nth z5 zI).fSent),(⟨(((nth z5 zI).fHop).fNode),(((nth z5 zI).fHop).fNext),(((nth z5 zI).fHop).fLink)⟩ : Sapi_Hop)⟩ : Snetwork_event)))))
set_option maxRecDepth 20000 in
theorem y3u (Z : Zp) (z6F : Option Addr) (z45 : Nat) (z5 : List Snetwork_event) (zI : Int) (zr : Int) (r : List Snetwork_event)
     (h : y1q z5 zI zr = some r) (w₀ : World) (hz : PZ (fps [row (.slice z6F z5.length z45) 113 7 (z5.flatMap yx)]) w₀ Z)
    (hown : Hp (fps [row (.slice z6F z5.length z45) 113 7 (z5.flatMap yx)]) w₀ w₀ [row (.slice z6F z5.length z45) 113 7 (z5.flatMap yx)]) :
    Calls Try.prog 88 #[(.slice z6F z5.length z45),(.int .i64 zI),(.int .i64 zr)] w₀ fun e w'=>e = .returned (.tuple #[]) ∧ (r.length = z5.length) ∧ Hp (fps [row (.slice z6F z5.length z45) 113 7 (z5.flatMap yx)]) w₀ w' [row (.slice z6F r.length z45) 113 7 (r.flatMap yx)]:=by
  unfold y1q at h
  refine Calls.yl (vs:=[(.slice z6F z5.length z45),(.int .i64 zI),(.int .i64 zr)]) (pre:=[row (.slice z6F z5.length z45) 113 7 (z5.flatMap yx)]) (env:=[(0,(.slice z6F z5.length z45)),(1,(.int .i64 zI)),(2,(.int .i64 zr))]) Try.func88 rfl Try.ntmps88 rfl (hown) rfl ?_
  obtain ⟨zdb,h⟩:=yj h
  obtain ⟨z5h,h⟩:=yj h
  obtain ⟨zaG,h⟩:=yj h
  refine WC.yZ (fun i=>[13,15].contains i) [] rfl ?_
  refine WD.a (i:=0) (d:=6) (by kernel_rfl) rfl (z2 (by kernel_rfl)) (z3 (by kernel_rfl)) rfl rfl rfl (fun _=>q_m rfl) ?_
  refine WD.a (i:=1) (d:=7) (by kernel_rfl) rfl (z2 (by kernel_rfl)) (z3 (by kernel_rfl)) rfl rfl rfl (fun _=>q_m rfl) ?_
  refine WD.a (i:=2) (d:=8) (by kernel_rfl) rfl (z2 (by kernel_rfl)) (z3 (by kernel_rfl)) rfl rfl rfl (fun _=>q_m rfl) ?_
  refine WD.a (i:=3) (d:=9) (by kernel_rfl) rfl (z2 (by kernel_rfl)) (z3 (by kernel_rfl)) rfl rfl rfl (fun _=>q_m rfl) ?_
  refine WD.a (i:=4) (d:=10) (by kernel_rfl) rfl (z2 (by kernel_rfl)) (z3 (by kernel_rfl)) rfl rfl rfl (fun _=>q_m rfl) ?_
  refine WD.a (i:=5) (d:=11) (by kernel_rfl) rfl (z2 (by kernel_rfl)) (z3 (by kernel_rfl)) rfl rfl rfl (fun _=>q_m rfl) ?_
  refine WD.know (fun w hw=>Hp.y2j .here hw (by intro hz'; have:=zdb; rw [hz'] at this; omega)) ?_
  rintro ⟨zhb,rfl⟩
  refine WD.a (i:=6) (d:=12) (by kernel_rfl) rfl (z2 (by kernel_rfl)) (z3 (by kernel_rfl)) rfl rfl rfl (fun _=>yr y4b rfl rfl zdb.1 zdb.2 y1b) ?_
  refine WD.e (i:=7) (d:=13) (by kernel_rfl) rfl (z2 (by kernel_rfl)) (z3 (by kernel_rfl)) rfl rfl rfl (y1O (cs:=(yx (nth z5 zr))) z9J rfl rfl (y20 .here (y1J (enc:=yx) (l:=z5) (i:=zr) (sz:=7) (fun _=>rfl) zdb.1 zdb.2))) ?_
  refine WD.a (i:=8) (d:=14) (by kernel_rfl) rfl (z2 (by kernel_rfl)) (z3 (by kernel_rfl)) rfl rfl rfl (fun _=>q_m rfl) ?_
  refine WD.a (i:=9) (d:=15) (by kernel_rfl) rfl (z2 (by kernel_rfl)) (z3 (by kernel_rfl)) rfl rfl rfl (fun _=>q_m rfl) ?_
  refine WD.a (i:=10) (d:=16) (by kernel_rfl) rfl (z2 (by kernel_rfl)) (z3 (by kernel_rfl)) rfl rfl rfl (fun _=>yr y4b rfl rfl z5h.1 z5h.2 y1b) ?_
  refine WD.e (i:=11) (d:=17) (by kernel_rfl) rfl (z2 (by kernel_rfl)) (z3 (by kernel_rfl)) rfl rfl rfl (y1O (cs:=(yx (nth z5 zI))) z9J rfl rfl (y20 .here (y1J (enc:=yx) (l:=z5) (i:=zI) (sz:=7) (fun _=>rfl) z5h.1 z5h.2))) ?_
  refine WD.a (i:=12) (d:=18) (by kernel_rfl) rfl (z2 (by kernel_rfl)) (z3 (by kernel_rfl)) rfl rfl rfl (fun _=>yr y4b rfl rfl z5h.1 z5h.2 y1b) ?_
  refine WD.forced0 (i:=13) rfl (by kernel_rfl) rfl rfl rfl (Sin.of .nil) (y24 (vs:=[(.int .i64 ((nth z5 zr).fTime)),(.int .i64 ((nth z5 zr).fIn_)),(.int .i64 ((nth z5 zr).fVl)),(.int .i64 ((nth z5 zr).fSent)),(.int .i64 (((nth z5 zr).fHop).fNode)),(.int .i64 (((nth z5 zr).fHop).fNext)),(.int .i64 (((nth z5 zr).fHop).fLink))]) (ds:=(z5.set (zI : Int).toNat (⟨((nth z5 zr).fTime),((nth z5 zr).fIn_),((nth z5 zr).fVl),((nth z5 zr).fSent),(⟨(((nth z5 zr).fHop).fNode),(((nth z5 zr).fHop).fNext),(((nth z5 zr).fHop).fLink)⟩ : Sapi_Hop)⟩ : Snetwork_event)).flatMap yx) zdZ rfl rfl rfl rfl (ocB rfl) .here (y2B (enc:=yx) (sz:=7) (k:=0) (fun _=>rfl) z5h.1 z5h.2 (by decide)) (y2A (enc:=yx) (l:=z5) (sz:=7) (vs:=[(.int .i64 ((nth z5 zr).fTime)),(.int .i64 ((nth z5 zr).fIn_)),(.int .i64 ((nth z5 zr).fVl)),(.int .i64 ((nth z5 zr).fSent)),(.int .i64 (((nth z5 zr).fHop).fNode)),(.int .i64 (((nth z5 zr).fHop).fNext)),(.int .i64 (((nth z5 zr).fHop).fLink))]) (y:=(⟨((nth z5 zr).fTime),((nth z5 zr).fIn_),((nth z5 zr).fVl),((nth z5 zr).fSent),(⟨(((nth z5 zr).fHop).fNode),(((nth z5 zr).fHop).fNext),(((nth z5 zr).fHop).fLink)⟩ : Sapi_Hop)⟩ : Snetwork_event)) (k:=0) (fun _=>rfl) z5h.1 z5h.2 rfl (Nat.le_of_ble_eq_true rfl))) ?_
  refine WD.relen .here (u:=(.slice (some ⟨zhb,0,none⟩) ((z5.set (zI : Int).toNat (⟨((nth z5 zr).fTime),((nth z5 zr).fIn_),((nth z5 zr).fVl),((nth z5 zr).fSent),(⟨(((nth z5 zr).fHop).fNode),(((nth z5 zr).fHop).fNext),(((nth z5 zr).fHop).fLink)⟩ : Sapi_Hop)⟩ : Snetwork_event)).length) z45)) (y1z (List.length_set).symm) ?_
  refine WD.repin (i:=8) rfl (u:=(.slice (some ⟨zhb,0,none⟩) ((z5.set (zI : Int).toNat (⟨((nth z5 zr).fTime),((nth z5 zr).fIn_),((nth z5 zr).fVl),((nth z5 zr).fSent),(⟨(((nth z5 zr).fHop).fNode),(((nth z5 zr).fHop).fNext),(((nth z5 zr).fHop).fLink)⟩ : Sapi_Hop)⟩ : Snetwork_event)).length) z45)) (y1z (List.length_set).symm) ?_
  refine WD.a (i:=14) (d:=19) (by kernel_rfl) rfl (z2 (by kernel_rfl)) (z3 (by kernel_rfl)) rfl rfl rfl (fun _=>yr y4b rfl rfl zaG.1 zaG.2 y1b) ?_
  refine WD.y36 (i:=15) rfl (by kernel_rfl) rfl rfl rfl (by kernel_rfl) (y24 (vs:=[(.int .i64 ((nth z5 zI).fTime)),(.int .i64 ((nth z5 zI).fIn_)),(.int .i64 ((nth z5 zI).fVl)),(.int .i64 ((nth z5 zI).fSent)),(.int .i64 (((nth z5 zI).fHop).fNode)),(.int .i64 (((nth z5 zI).fHop).fNext)),(.int .i64 (((nth z5 zI).fHop).fLink))]) (ds:=((z5.set (zI : Int).toNat (⟨((nth z5 zr).fTime),((nth z5 zr).fIn_),((nth z5 zr).fVl),((nth z5 zr).fSent),(⟨(((nth z5 zr).fHop).fNode),(((nth z5 zr).fHop).fNext),(((nth z5 zr).fHop).fLink)⟩ : Sapi_Hop)⟩ : Snetwork_event)).set (zr : Int).toNat (⟨((nth z5 zI).fTime),((nth z5 zI).fIn_),((nth z5 zI).fVl),((nth z5 zI).fSent),(⟨(((nth z5 zI).fHop).fNode),(((nth z5 zI).fHop).fNext),(((nth z5 zI).fHop).fLink)⟩ : Sapi_Hop)⟩ : Snetwork_event)).flatMap yx) zdZ rfl rfl rfl rfl (ocB rfl) .here (y2B (enc:=yx) (sz:=7) (k:=0) (fun _=>rfl) zaG.1 zaG.2 (by decide)) (y2A (enc:=yx) (l:=z5.set (zI : Int).toNat (⟨((nth z5 zr).fTime),((nth z5 zr).fIn_),((nth z5 zr).fVl),((nth z5 zr).fSent),(⟨(((nth z5 zr).fHop).fNode),(((nth z5 zr).fHop).fNext),(((nth z5 zr).fHop).fLink)⟩ : Sapi_Hop)⟩ : Snetwork_event)) (sz:=7) (vs:=[(.int .i64 ((nth z5 zI).fTime)),(.int .i64 ((nth z5 zI).fIn_)),(.int .i64 ((nth z5 zI).fVl)),(.int .i64 ((nth z5 zI).fSent)),(.int .i64 (((nth z5 zI).fHop).fNode)),(.int .i64 (((nth z5 zI).fHop).fNext)),(.int .i64 (((nth z5 zI).fHop).fLink))]) (y:=(⟨((nth z5 zI).fTime),((nth z5 zI).fIn_),((nth z5 zI).fVl),((nth z5 zI).fSent),(⟨(((nth z5 zI).fHop).fNode),(((nth z5 zI).fHop).fNext),(((nth z5 zI).fHop).fLink)⟩ : Sapi_Hop)⟩ : Snetwork_event)) (k:=0) (fun _=>rfl) zaG.1 zaG.2 rfl (Nat.le_of_ble_eq_true rfl))) ?_
  refine WD.relen .here (u:=(.slice (some ⟨zhb,0,none⟩) (((z5.set (zI : Int).toNat (⟨((nth z5 zr).fTime),((nth z5 zr).fIn_),((nth z5 zr).fVl),((nth z5 zr).fSent),(⟨(((nth z5 zr).fHop).fNode),(((nth z5 zr).fHop).fNext),(((nth z5 zr).fHop).fLink)⟩ : Sapi_Hop)⟩ : Snetwork_event)).set (zr : Int).toNat (⟨((nth z5 zI).fTime),((nth z5 zI).fIn_),((nth z5 zI).fVl),((nth z5 zI).fSent),(⟨(((nth z5 zI).fHop).fNode),(((nth z5 zI).fHop).fNext),(((nth z5 zI).fHop).fLink)⟩ : Sapi_Hop)⟩ : Snetwork_event)).length) z45)) (y1z (List.length_set).symm) ?_
  refine WD.done (by kernel_rfl) ?_
  obtain rfl:=Option.some.inj h
  refine WX.y1S Try.results88 .nil (fun w hw=>?_)
  exact ⟨y49,((List.length_set).trans ((List.length_set).trans rfl)),hw.sub (.cons .here .nil)⟩
def y2E (z1D : List Snetwork_event) (z1j : Snetwork_event) : Option Unit :=
  chk ((((z1D ++ ([z1j] : List Snetwork_event)).length : Nat) : Int) * 56 ≤ 140737488355328 ∧ (((z1D ++ ([z1j] : List Snetwork_event)).length : Nat) : Int) ≤ 4611686018427387904) (some ())
set_option maxRecDepth 20000 in
theorem y5v (Z : Zp) (z6G : Nat) (z5i : Option Addr) (z5j : Nat) (z8J : Value) (z8K : Value) (z8L : Value) (z8M : Value) (z8N : Value) (z8O : Value) (z8P : Value) (z8Q : Value) (z8R : Value) (z8S : Value) (z8T : Value) (z8U : Value) (z8V : Value) (z1D : List Snetwork_event) (z1j : Snetwork_event) (r : Unit)
     (h : y2E z1D z1j = some r) (w₀ : World) (hz : PZ (fps [stb z6G 81 [z8J,z8K,z8L,z8M,z8N,z8O,z8P,z8Q,z8R,z8S,z8T,(.slice z5i z1D.length z5j),z8U,z8V],row (.slice z5i z1D.length z5j) 113 7 (z1D.flatMap yx)]) w₀ Z)
    (hown : Hp (fps [stb z6G 81 [z8J,z8K,z8L,z8M,z8N,z8O,z8P,z8Q,z8R,z8S,z8T,(.slice z5i z1D.length z5j),z8U,z8V],row (.slice z5i z1D.length z5j) 113 7 (z1D.flatMap yx)]) w₀ w₀ [stb z6G 81 [z8J,z8K,z8L,z8M,z8N,z8O,z8P,z8Q,z8R,z8S,z8T,(.slice z5i z1D.length z5j),z8U,z8V],row (.slice z5i z1D.length z5j) 113 7 (z1D.flatMap yx)]) :
    Calls Try.prog 92 #[(.pointer (some ⟨z6G,11,none⟩)),(.iface 113 (.agg #[(.int .i64 z1j.fTime),(.int .i64 z1j.fIn_),(.int .i64 z1j.fVl),(.int .i64 z1j.fSent),(.int .i64 z1j.fHop.fNode),(.int .i64 z1j.fHop.fNext),(.int .i64 z1j.fHop.fLink)]))] w₀ fun e w'=>∃ zld : Option Addr,∃ zle : Nat,e = .returned (.tuple #[]) ∧ True ∧ Hp (fps [stb z6G 81 [z8J,z8K,z8L,z8M,z8N,z8O,z8P,z8Q,z8R,z8S,z8T,(.slice z5i z1D.length z5j),z8U,z8V],row (.slice z5i z1D.length z5j) 113 7 (z1D.flatMap yx)]) w₀ w' [stb z6G 81 [z8J,z8K,z8L,z8M,z8N,z8O,z8P,z8Q,z8R,z8S,z8T,(.slice zld ((z1D ++ ([z1j] : List Snetwork_event)).length) zle),z8U,z8V],row (.slice zld ((z1D ++ ([z1j] : List Snetwork_event)).length) zle) 113 7 ((z1D ++ ([z1j] : List Snetwork_event)).flatMap yx)]:=by
  unfold y2E at h
  refine Calls.yl (vs:=[(.pointer (some ⟨z6G,11,none⟩)),(.iface 113 (.agg #[(.int .i64 z1j.fTime),(.int .i64 z1j.fIn_),(.int .i64 z1j.fVl),(.int .i64 z1j.fSent),(.int .i64 z1j.fHop.fNode),(.int .i64 z1j.fHop.fNext),(.int .i64 z1j.fHop.fLink)]))]) (pre:=[stb z6G 81 [z8J,z8K,z8L,z8M,z8N,z8O,z8P,z8Q,z8R,z8S,z8T,(.slice z5i z1D.length z5j),z8U,z8V],row (.slice z5i z1D.length z5j) 113 7 (z1D.flatMap yx)]) (env:=[(0,(.pointer (some ⟨z6G,11,none⟩))),(1,(.iface 113 (.agg #[(.int .i64 z1j.fTime),(.int .i64 z1j.fIn_),(.int .i64 z1j.fVl),(.int .i64 z1j.fSent),(.int .i64 z1j.fHop.fNode),(.int .i64 z1j.fHop.fNext),(.int .i64 z1j.fHop.fLink)])))]) Try.func92 rfl Try.ntmps92 rfl (hown) rfl ?_
  obtain ⟨zqm,h⟩:=yj h
  refine WC.yZ (fun i=>[7,9].contains i) [] rfl ?_
  refine WD.a (i:=0) (d:=4) (by kernel_rfl) rfl (z2 (by kernel_rfl)) (z3 (by kernel_rfl)) rfl rfl rfl (fun _=>q_m rfl) ?_
  refine WD.a (i:=1) (d:=5) (by kernel_rfl) rfl (z2 (by kernel_rfl)) (z3 (by kernel_rfl)) rfl rfl rfl (fun _=>q_m rfl) ?_
  refine WD.a (i:=2) (d:=6) (by kernel_rfl) rfl (z2 (by kernel_rfl)) (z3 (by kernel_rfl)) rfl rfl rfl (fun _=>yt rfl) ?_
  refine WD.e (i:=3) (d:=7) (by kernel_rfl) rfl (z2 (by kernel_rfl)) (z3 (by kernel_rfl)) rfl rfl rfl (yb y50 rfl (ye .here rfl)) ?_
  refine WD.a (i:=4) (d:=8) (by kernel_rfl) rfl (z2 (by kernel_rfl)) (z3 (by kernel_rfl)) rfl rfl rfl (fun _=>q_m rfl) ?_
  refine WD.e (i:=5) (d:=9) (by kernel_rfl) rfl (z2 (by kernel_rfl)) (z3 (by kernel_rfl)) rfl rfl rfl (y8p Try.underlying113 rfl rfl) ?_
  refine WD.new (i:=6) (dd:=10) rfl (by kernel_rfl) rfl rfl rfl (y15 (cs:=([z1j] : List Snetwork_event).flatMap yx) y4b (Eos.parts (l:=[.tmp 9]) (.cons rfl .nil) [0]) (fun _=>by kernel_rfl) rfl (by unfold maxLen; omega)) (fun h'=>absurd h' (by decide)) ?_
  intro zw4 _
  refine WD.old (i:=7) (dd:=11) rfl (by kernel_rfl) rfl rfl rfl rfl (fun _=>(Sin.of .nil)) (y4I (enc:=yx) (l1:=z1D) (l2:=([z1j] : List Snetwork_event)) y4b rfl rfl .h2 (fun _=>rfl) rfl rfl (y57 .here) (y4T e113_oc _) zqm) ?_
  rintro ⟨zlf,zlg⟩ _
  refine WD.a (i:=8) (d:=12) (by kernel_rfl) rfl (z2 (by kernel_rfl)) (z3 (by kernel_rfl)) rfl rfl rfl (fun _=>yt rfl) ?_
  refine WD.y36 (i:=9) rfl (by kernel_rfl) rfl rfl rfl (by kernel_rfl) (y3H (ds:=[z8J,z8K,z8L,z8M,z8N,z8O,z8P,z8Q,z8R,z8S,z8T,(.slice zlf ((z1D ++ ([z1j] : List Snetwork_event)).length) zlg),z8U,z8V]) y93 rfl rfl rfl rfl rfl .h2 rfl rfl) ?_
  refine WD.done (by kernel_rfl) ?_
  skip
  refine WX.y1S Try.results92 .nil (fun w hw=>?_)
  exact ⟨zlf,zlg,y49,trivial,hw.sub (.cons .here (.cons .here .nil))⟩
def y1s (z6H : (List Snetwork_event) → Option (List Snetwork_event)) : Nat → Int → (List Snetwork_event) → Option (List Snetwork_event)
  | 0,_,_=>none
  | zhc + 1,z2C,z2S=>(if decide ((i64 (Int.tdiv (i64 (z2C - 1)) 2)) = z2C) then some true else (y1p z2S z2C (i64 (Int.tdiv (i64 (z2C - 1)) 2))).bind fun zlh=>some (!zlh)).bind fun zhd=>if zhd then z6H z2S else (y1q z2S (i64 (Int.tdiv (i64 (z2C - 1)) 2)) z2C).bind fun zev=>y1s z6H zhc (i64 (Int.tdiv (i64 (z2C - 1)) 2)) zev
theorem y4w {n : Nat} {z6H : (List Snetwork_event) → Option (List Snetwork_event)} {z2C : Int} {z2S : List Snetwork_event} {r : List Snetwork_event} (h : y1s z6H n z2C z2S = some r) : ∃ m,n = m + 1:=by
  cases n with
  | zero=>cases h
  | succ m=>exact ⟨m,rfl⟩
def y2U (z1K : List Snetwork_event) (z8W : Int) : Option (List Snetwork_event) :=
  jp1 (fun (z4J : List Snetwork_event)=>some z4J) fun z6H=>y1s z6H yz z8W z1K
set_option maxRecDepth 20000 in
theorem y68 (Z : Zp) (z46 : Nat) (z2D : Option Addr) (z2E : Nat) (z6I : Value) (z6J : Value) (z6K : Value) (z6L : Value) (z6M : Value) (z6N : Value) (z6O : Value) (z6P : Value) (z6Q : Value) (z6R : Value) (z6S : Value) (z6T : Value) (z6U : Value) (z1K : List Snetwork_event) (z8W : Int) (r : List Snetwork_event)
     (h : y2U z1K z8W = some r) (w₀ : World) (hz : PZ (fps [stb z46 81 [z6I,z6J,z6K,z6L,z6M,z6N,z6O,z6P,z6Q,z6R,z6S,(.slice z2D z1K.length z2E),z6T,z6U],row (.slice z2D z1K.length z2E) 113 7 (z1K.flatMap yx)]) w₀ Z)
    (hown : Hp (fps [stb z46 81 [z6I,z6J,z6K,z6L,z6M,z6N,z6O,z6P,z6Q,z6R,z6S,(.slice z2D z1K.length z2E),z6T,z6U],row (.slice z2D z1K.length z2E) 113 7 (z1K.flatMap yx)]) w₀ w₀ [stb z46 81 [z6I,z6J,z6K,z6L,z6M,z6N,z6O,z6P,z6Q,z6R,z6S,(.slice z2D z1K.length z2E),z6T,z6U],row (.slice z2D z1K.length z2E) 113 7 (z1K.flatMap yx)]) :
    Calls Try.prog 50 #[(.iface 111 (.pointer (some ⟨z46,11,none⟩))),(.int .i64 z8W)] w₀ fun e w'=>e = .returned (.tuple #[]) ∧ (r.length = z1K.length) ∧ Hp (fps [stb z46 81 [z6I,z6J,z6K,z6L,z6M,z6N,z6O,z6P,z6Q,z6R,z6S,(.slice z2D z1K.length z2E),z6T,z6U],row (.slice z2D z1K.length z2E) 113 7 (z1K.flatMap yx)]) w₀ w' [stb z46 81 [z6I,z6J,z6K,z6L,z6M,z6N,z6O,z6P,z6Q,z6R,z6S,(.slice z2D r.length z2E),z6T,z6U],row (.slice z2D r.length z2E) 113 7 (r.flatMap yx)]:=by
  unfold y2U at h
  refine Calls.yl (vs:=[(.iface 111 (.pointer (some ⟨z46,11,none⟩))),(.int .i64 z8W)]) (pre:=[stb z46 81 [z6I,z6J,z6K,z6L,z6M,z6N,z6O,z6P,z6Q,z6R,z6S,(.slice z2D z1K.length z2E),z6T,z6U],row (.slice z2D z1K.length z2E) 113 7 (z1K.flatMap yx)]) (env:=[(0,(.iface 111 (.pointer (some ⟨z46,11,none⟩)))),(1,(.int .i64 z8W))]) Try.func50 rfl Try.ntmps50 rfl (hown) rfl ?_
  obtain ⟨z6H,zqn,h⟩:=y19 h
  refine WC.y4U (fun (z4J : List Snetwork_event)=>(z6H z4J = some r) ∧ (z4J.length = z1K.length)) (fun (z4J : List Snetwork_event)=>[]) (fun (z4J : List Snetwork_event)=>[row (.slice z2D z4J.length z2E) 113 7 (z4J.flatMap yx),stb z46 81 [z6I,z6J,z6K,z6L,z6M,z6N,z6O,z6P,z6Q,z6R,z6S,(.slice z2D z4J.length z2E),z6T,z6U]]) ?_ ?_
  · skip
    refine WC.block ?_
    refine WC.y28 (fun (zaH : Nat) (z2C : Int) (z2S : List Snetwork_event)=>(y1s z6H zaH z2C z2S = some r) ∧ (z2S.length = z1K.length)) (fun (zaH : Nat) (z2C : Int) (z2S : List Snetwork_event)=>[(0,(.iface 111 (.pointer (some ⟨z46,11,none⟩)))),(1,(.int .i64 z2C))]) (fun (zaH : Nat) (z2C : Int) (z2S : List Snetwork_event)=>[row (.slice z2D z2S.length z2E) 113 7 (z2S.flatMap yx),stb z46 81 [z6I,z6J,z6K,z6L,z6M,z6N,z6O,z6P,z6Q,z6R,z6S,(.slice z2D z2S.length z2E),z6T,z6U]]) (fun (zaH : Nat) (z2C : Int) (z2S : List Snetwork_event)=>zaH) ⟨yz,z8W,z1K⟩ ⟨h,rfl⟩ (.cons rfl (.cons rfl .nil)) (.cons .h1 (.cons .here .nil)) ?_
    rintro zaH z2C z2S ⟨h,zli⟩
    obtain ⟨zhc,rfl⟩:=y4w h
    rw [y1s] at h
    refine WC.block (WC.b (WC.a (WL.pu rfl (WL.pu rfl ?_))))
    refine WL.a (d:=7) rfl rfl rfl (q_quo rfl rfl (by decide) rfl) ?_
    refine WL.pu rfl (WL.nil (WX.a (WC.b (WC.b ?_))))
    obtain ⟨zhd,zlj,h⟩:=zf h
    refine WC.a (WL.pu rfl (WL.pu rfl (WL.pu rfl (WL.pu rfl ?_))))
    refine WL.seg false 5 11 (B:=zhd) rfl rfl rfl rfl rfl rfl (fun h=>(Option.some.inj (ym zlj h)).symm) (fun _ zqo=>?_) ?_
    · skip
      have zdc:=yn zlj zqo
      obtain ⟨zlh,zqp,zdc⟩:=zf zdc
      replace zdc:=Option.some.inj zdc
      refine WL.pu rfl (WL.pu rfl (WL.pu rfl ?_))
      refine WL.b (dd:=15) rfl rfl rfl (y2Y (l:=[.tmp 13,.tmp 14]) (y59) Try.call87 rfl (ye .h1 rfl) (.cons rfl (.cons rfl .nil))) .nil (ccl hz .nil (.cons .here .nil) fun w pz ho la=>y3t _ _ _ _ _ _ _ zqp w pz (ZA.row (la _ (.head _) _) (RR.y17 (enc:=yx) (fun _=>rfl) _) ⟨w,pz.1⟩)) ?_
      refine WL.pu rfl (WL.pu rfl ?_)
      exact WL.ys zdc rfl rfl .all
    refine WL.nil (WX.a ?_)
    refine WC.cond rfl (fun zhe=>?_) (fun zhe=>?_)
    · replace h:=ym h zhe
      refine WC.exit (WX.yd (WX.y54 rfl (WX.yd (WX.yA ?_))))
      exact WX.mid (G:=List Snetwork_event) z2S ⟨h,zli⟩ .nil (.cons .here (.cons .here .nil))
    · replace h:=yn h zhe
      refine WC.skip (WX.a (WC.b ?_))
      obtain ⟨zev,zqq,h⟩:=zf h
      refine WC.a (WL.pu rfl (WL.pu rfl (WL.pu rfl ?_)))
      refine WL.y1K (dd:=21) rfl rfl rfl (y2Y (l:=[.tmp 19,.tmp 20]) (y5a) Try.call88 rfl (ye .h1 rfl) (.cons rfl (.cons rfl .nil))) (.cons .here .nil) (cc hz (.cons .here .nil) fun w pz ho=>y3u _ _ _ _ _ _ _ zqq w pz  ho) ?_
      rintro  zlk
      refine WL.restb (cs':=[z6I,z6J,z6K,z6L,z6M,z6N,z6O,z6P,z6Q,z6R,z6S,(.slice z2D zev.length z2E),z6T,z6U]) .h1 (by rw [zlk]) ?_
      refine WL.nil (WX.a (WC.a (WL.pu rfl (WL.pu rfl (WL.nil (WX.yg ?_))))))
      exact WX.round (G:=Nat × Int × List Snetwork_event) ⟨zhc,(i64 (Int.tdiv (i64 (z2C - 1)) 2)),zev⟩ ⟨h,(zlk.trans zli)⟩ (Nat.lt_succ_self _) (.cons rfl (.cons rfl .nil)) (.cons .h1 (.cons .here .nil))
  · rintro z4J ⟨h,zqr⟩
    replace h:=(zqn z4J).symm.trans h
    obtain rfl:=Option.some.inj h
    refine WX.y1S Try.results50 .nil (fun w hw=>?_)
    exact ⟨y49,zqr,hw.sub (.cons .h1 (.cons .here .nil))⟩
def y1V (z23 : List Snetwork_event) (z1y : Snetwork_event) : Option (List Snetwork_event) :=
  (y2E z23 z1y).bind fun zqs=>(y27 (z23 ++ ([z1y] : List Snetwork_event))).bind fun zll=>(y2U (z23 ++ ([z1y] : List Snetwork_event)) (i64 (zll - 1))).bind fun zhf=>some zhf
set_option maxRecDepth 20000 in
theorem y5w (Z : Zp) (z6V : Nat) (z5k : Option Addr) (z5l : Nat) (z8X : Value) (z8Y : Value) (z8Z : Value) (z90 : Value) (z91 : Value) (z92 : Value) (z93 : Value) (z94 : Value) (z95 : Value) (z96 : Value) (z97 : Value) (z98 : Value) (z99 : Value) (z23 : List Snetwork_event) (z1y : Snetwork_event) (r : List Snetwork_event)
     (h : y1V z23 z1y = some r) (w₀ : World) (hz : PZ (fps [stb z6V 81 [z8X,z8Y,z8Z,z90,z91,z92,z93,z94,z95,z96,z97,(.slice z5k z23.length z5l),z98,z99],row (.slice z5k z23.length z5l) 113 7 (z23.flatMap yx)]) w₀ Z)
    (hown : Hp (fps [stb z6V 81 [z8X,z8Y,z8Z,z90,z91,z92,z93,z94,z95,z96,z97,(.slice z5k z23.length z5l),z98,z99],row (.slice z5k z23.length z5l) 113 7 (z23.flatMap yx)]) w₀ w₀ [stb z6V 81 [z8X,z8Y,z8Z,z90,z91,z92,z93,z94,z95,z96,z97,(.slice z5k z23.length z5l),z98,z99],row (.slice z5k z23.length z5l) 113 7 (z23.flatMap yx)]) :
    Calls Try.prog 38 #[(.iface 111 (.pointer (some ⟨z6V,11,none⟩))),(.iface 113 (.agg #[(.int .i64 z1y.fTime),(.int .i64 z1y.fIn_),(.int .i64 z1y.fVl),(.int .i64 z1y.fSent),(.int .i64 z1y.fHop.fNode),(.int .i64 z1y.fHop.fNext),(.int .i64 z1y.fHop.fLink)]))] w₀ fun e w'=>∃ zlm : Option Addr,∃ zln : Nat,e = .returned (.tuple #[]) ∧ True ∧ Hp (fps [stb z6V 81 [z8X,z8Y,z8Z,z90,z91,z92,z93,z94,z95,z96,z97,(.slice z5k z23.length z5l),z98,z99],row (.slice z5k z23.length z5l) 113 7 (z23.flatMap yx)]) w₀ w' [stb z6V 81 [z8X,z8Y,z8Z,z90,z91,z92,z93,z94,z95,z96,z97,(.slice zlm r.length zln),z98,z99],row (.slice zlm r.length zln) 113 7 (r.flatMap yx)]:=by
  unfold y1V at h
  refine Calls.yl (vs:=[(.iface 111 (.pointer (some ⟨z6V,11,none⟩))),(.iface 113 (.agg #[(.int .i64 z1y.fTime),(.int .i64 z1y.fIn_),(.int .i64 z1y.fVl),(.int .i64 z1y.fSent),(.int .i64 z1y.fHop.fNode),(.int .i64 z1y.fHop.fNext),(.int .i64 z1y.fHop.fLink)]))]) (pre:=[stb z6V 81 [z8X,z8Y,z8Z,z90,z91,z92,z93,z94,z95,z96,z97,(.slice z5k z23.length z5l),z98,z99],row (.slice z5k z23.length z5l) 113 7 (z23.flatMap yx)]) (env:=[(0,(.iface 111 (.pointer (some ⟨z6V,11,none⟩)))),(1,(.iface 113 (.agg #[(.int .i64 z1y.fTime),(.int .i64 z1y.fIn_),(.int .i64 z1y.fVl),(.int .i64 z1y.fSent),(.int .i64 z1y.fHop.fNode),(.int .i64 z1y.fHop.fNext),(.int .i64 z1y.fHop.fLink)])))]) Try.func38 rfl Try.ntmps38 rfl (hown) rfl ?_
  refine WC.b ?_
  obtain ⟨zqs,zqt,h⟩:=zf h
  refine WC.a (WL.pu rfl (WL.pu rfl ?_))
  refine WL.y4H (dd:=6) rfl rfl rfl (y7n (l:=[.tmp 5]) (y8s _) Try.call92 rfl (.cons rfl .nil)) (.cons .here (.cons .here .nil)) (cc hz (.cons .here (.cons .here .nil)) fun w pz ho=>y5v _ _ _ _ _ _ _ _ _ _ _ _ _ _ _ _ _ _ _ _ zqt w pz  ho) ?_
  rintro zlo zlp _
  refine WL.nil (WX.a ?_)
  obtain ⟨zll,zqu,h⟩:=zf h
  obtain ⟨zhf,zqv,h⟩:=zf h
  refine WC.a (WL.pu rfl (WL.pu rfl ?_))
  refine WL.b (dd:=9) rfl rfl rfl (y2Y (l:=[]) (y6Z) Try.call86 rfl (ye .here rfl) .nil) .nil (ccl hz .nil (.cons .h1 .nil) fun w pz ho la=>y4o _ _ _ _ _ zqu w pz (ZA.row (la _ (.head _) _) (RR.y17 (enc:=yx) (fun _=>rfl) _) ⟨w,pz.1⟩)) ?_
  refine WL.pu rfl ?_
  refine WL.y1K (dd:=11) rfl rfl rfl (zy (l:=[.tmp 7,.tmp 10]) Try.call50 (.cons rfl (.cons rfl .nil))) (.cons .here (.cons .here .nil)) (cc hz (.cons .here (.cons .here .nil)) fun w pz ho=>y68 _ _ _ _ _ _ _ _ _ _ _ _ _ _ _ _ _ _ _ _ zqv w pz  ho) ?_
  rintro  zqw
  refine WL.restb (cs':=[z8X,z8Y,z8Z,z90,z91,z92,z93,z94,z95,z96,z97,(.slice zlo zhf.length zlp),z98,z99]) .here (by rw [zqw]) ?_
  refine WL.nil ?_
  obtain rfl:=Option.some.inj h
  refine WX.y1S Try.results38 .nil (fun w hw=>?_)
  exact ⟨zlo,zlp,y49,trivial,hw.sub (.cons .here (.cons .here .nil))⟩
def y1A (z1h : List (List Sapi_Hop)) (z10 : List zSt) (z16 : Int) (z3k : Int) (z36 : Int) (z37 : Int) (z6W : (List Snetwork_event) → Option (List Snetwork_event)) : Nat → Int → (List Snetwork_event) → Option (List Snetwork_event)
  | 0,_,_=>none
  | zhg + 1,z1L,z2T=>if decide (z1L < (((nth z1h ((nth z10 z16).fVL)).length : Nat) : Int)) then jp1 (fun (z4K : List Snetwork_event)=>y1A z1h z10 z16 z3k z36 z37 z6W zhg (i64 (z1L + 1)) z4K) fun zew=>chk ((0 : Int) ≤ z1L ∧ z1L < (((nth z1h ((nth z10 z16).fVL)).length : Nat) : Int)) (if decide (((nth (nth z1h ((nth z10 z16).fVL)) z1L).fNode) = z3k) then (y1V z2T (⟨z36,z37,((nth z10 z16).fVL),z16,(⟨((nth (nth z1h ((nth z10 z16).fVL)) z1L).fNode),((nth (nth z1h ((nth z10 z16).fVL)) z1L).fNext),((nth (nth z1h ((nth z10 z16).fVL)) z1L).fLink)⟩ : Sapi_Hop)⟩ : Snetwork_event)).bind fun zhh=>zew zhh else zew z2T) else z6W z2T
theorem y4K {n : Nat} {z1h : List (List Sapi_Hop)} {z10 : List zSt} {z16 : Int} {z3k : Int} {z36 : Int} {z37 : Int} {z6W : (List Snetwork_event) → Option (List Snetwork_event)} {z1L : Int} {z2T : List Snetwork_event} {r : List Snetwork_event} (h : y1A z1h z10 z16 z3k z36 z37 z6W n z1L z2T = some r) : ∃ m,n = m + 1:=by
  cases n with
  | zero=>cases h
  | succ m=>exact ⟨m,rfl⟩
def y2d (zx : Sapi_Config) (z1h : List (List Sapi_Hop)) (z10 : List zSt) (zhi : List (Snetwork_exit × Sport_Port)) (z2c : List Snetwork_event) (z47 : List Sapi_Come) (z48 : List Sapi_Come) (z3k : Int) (z36 : Int) (z37 : Int) (z16 : Int) : Option (List Snetwork_event) :=
  chk ((0 : Int) ≤ z16 ∧ z16 < ((z10.length : Nat) : Int)) (chk ((0 : Int) ≤ ((nth z10 z16).fVL) ∧ ((nth z10 z16).fVL) < ((z1h.length : Nat) : Int)) (jp1 (fun (z5m : List Snetwork_event)=>some z5m) fun z6W=>y1A z1h z10 z16 z3k z36 z37 z6W yz 0 z2c))
set_option maxRecDepth 20000 in
theorem y4r (Z : Zp) (z3l : Nat) (z5n : Option Addr) (z5o : Nat) (z5p : Option Addr) (z5q : Nat) (z5r : Option Addr) (z5s : Nat) (z5t : Option Addr) (z5u : Nat) (z5v : Option Addr) (z5w : Nat) (z5x : Option Addr) (z5y : Nat) (z5z : Option Addr) (z5A : Nat) (z5B : Option Addr) (z5C : Nat) (z5D : Option Addr) (z5E : Nat) (z5F : Option Addr) (z5G : Nat) (z2p : Nat) (z2d : List (Snetwork_exit × ((Nat × (Option Addr × Nat)) × Sport_Port))) (z4L : Option Addr) (z4M : Nat) (z5H : Option Addr) (z5I : Nat) (z5J : Option Addr) (z5K : Nat) (zx : Sapi_Config) (z1h : List (List Sapi_Hop)) (z10 : List zSt) (zhi : List (Snetwork_exit × Sport_Port)) (z2c : List Snetwork_event) (z47 : List Sapi_Come) (z48 : List Sapi_Come) (z3k : Int) (z36 : Int) (z37 : Int) (z16 : Int) (r : List Snetwork_event)
     (h : y2d zx z1h z10 zhi z2c z47 z48 z3k z36 z37 z16 = some r) (w₀ : World) (hz : PZ (fps [stb z3l 81 [(.slice z5n zx.fModules.length z5o),(.slice z5p zx.fChannels.length z5q),(.slice z5r zx.fSwitches.length z5s),(.slice z5t zx.fLinks.length z5u),(.slice z5v zx.fVLs.length z5w),(.slice z5x zx.fHealth.length z5y),(.slice z5z zx.fCauses.length z5A),(.slice z5B zx.fVersions.length z5C),(.slice z5D z1h.length z5E),(.slice z5F z10.length z5G),(.map (some z2p)),(.slice z4L z2c.length z4M),(.slice z5H z47.length z5I),(.slice z5J z48.length z5K)],y1e z2p (fun x=>Value.agg (y1Q x).toArray) Value.pointer (y1m z2d),y1l z15 z2d,row (.slice z4L z2c.length z4M) 113 7 (z2c.flatMap yx)]) w₀ Z)
     (zw5 : ZS Z 4 (y2x Z) z5n z5o zx.fModules)
     (zw6 : ZS Z 4 (y2S Z) z5p z5q zx.fChannels)
     (zw7 : ZS Z 4 (fun r x=>r = e64 x) z5r z5s zx.fSwitches)
     (zw8 : ZS Z 4 (fun r x=>r = e62 x) z5t z5u zx.fLinks)
     (zw9 : ZS Z 7 (y2G Z) z5v z5w zx.fVLs)
     (zwa : ZS Z 5 (fun r x=>r = y37 x) z5x z5y zx.fHealth)
     (zwb : ZS Z 3 (y2T Z) z5z z5A zx.fCauses)
     (zwc : ZS Z 4 (fun r x=>r = y38 x) z5B z5C zx.fVersions)
     (zqx : ZS Z 1 (p55 Z) z5D z5E z1h)
     (zqy : ZS Z 3 (fun r x=>r = e53 x) z5F z5G z10)
     (zwd : dat z2d = zhi)
     (zwe : ZS Z 3 (fun r x=>r = e50 x) z5H z5I z47)
     (zwf : ZS Z 3 (fun r x=>r = e50 x) z5J z5K z48)
    (hown : Hp (fps [stb z3l 81 [(.slice z5n zx.fModules.length z5o),(.slice z5p zx.fChannels.length z5q),(.slice z5r zx.fSwitches.length z5s),(.slice z5t zx.fLinks.length z5u),(.slice z5v zx.fVLs.length z5w),(.slice z5x zx.fHealth.length z5y),(.slice z5z zx.fCauses.length z5A),(.slice z5B zx.fVersions.length z5C),(.slice z5D z1h.length z5E),(.slice z5F z10.length z5G),(.map (some z2p)),(.slice z4L z2c.length z4M),(.slice z5H z47.length z5I),(.slice z5J z48.length z5K)],y1e z2p (fun x=>Value.agg (y1Q x).toArray) Value.pointer (y1m z2d),y1l z15 z2d,row (.slice z4L z2c.length z4M) 113 7 (z2c.flatMap yx)]) w₀ w₀ [stb z3l 81 [(.slice z5n zx.fModules.length z5o),(.slice z5p zx.fChannels.length z5q),(.slice z5r zx.fSwitches.length z5s),(.slice z5t zx.fLinks.length z5u),(.slice z5v zx.fVLs.length z5w),(.slice z5x zx.fHealth.length z5y),(.slice z5z zx.fCauses.length z5A),(.slice z5B zx.fVersions.length z5C),(.slice z5D z1h.length z5E),(.slice z5F z10.length z5G),(.map (some z2p)),(.slice z4L z2c.length z4M),(.slice z5H z47.length z5I),(.slice z5J z48.length z5K)],y1e z2p (fun x=>Value.agg (y1Q x).toArray) Value.pointer (y1m z2d),y1l z15 z2d,row (.slice z4L z2c.length z4M) 113 7 (z2c.flatMap yx)]) :
    Calls Try.prog 25 #[(.pointer (some ⟨z3l,0,none⟩)),(.int .i64 z3k),(.int .i64 z36),(.int .i64 z37),(.int .i64 z16)] w₀ fun e w'=>∃ zlq : Option Addr,∃ zlr : Nat,e = .returned (.tuple #[]) ∧ True ∧ Hp (fps [stb z3l 81 [(.slice z5n zx.fModules.length z5o),(.slice z5p zx.fChannels.length z5q),(.slice z5r zx.fSwitches.length z5s),(.slice z5t zx.fLinks.length z5u),(.slice z5v zx.fVLs.length z5w),(.slice z5x zx.fHealth.length z5y),(.slice z5z zx.fCauses.length z5A),(.slice z5B zx.fVersions.length z5C),(.slice z5D z1h.length z5E),(.slice z5F z10.length z5G),(.map (some z2p)),(.slice z4L z2c.length z4M),(.slice z5H z47.length z5I),(.slice z5J z48.length z5K)],y1e z2p (fun x=>Value.agg (y1Q x).toArray) Value.pointer (y1m z2d),y1l z15 z2d,row (.slice z4L z2c.length z4M) 113 7 (z2c.flatMap yx)]) w₀ w' [stb z3l 81 [(.slice z5n zx.fModules.length z5o),(.slice z5p zx.fChannels.length z5q),(.slice z5r zx.fSwitches.length z5s),(.slice z5t zx.fLinks.length z5u),(.slice z5v zx.fVLs.length z5w),(.slice z5x zx.fHealth.length z5y),(.slice z5z zx.fCauses.length z5A),(.slice z5B zx.fVersions.length z5C),(.slice z5D z1h.length z5E),(.slice z5F z10.length z5G),(.map (some z2p)),(.slice zlq r.length zlr),(.slice z5H z47.length z5I),(.slice z5J z48.length z5K)],row (.slice zlq r.length zlr) 113 7 (r.flatMap yx),y1e z2p (fun x=>Value.agg (y1Q x).toArray) Value.pointer (y1m z2d),y1l z15 z2d]:=by
  unfold y2d at h
  refine Calls.yl (vs:=[(.pointer (some ⟨z3l,0,none⟩)),(.int .i64 z3k),(.int .i64 z36),(.int .i64 z37),(.int .i64 z16)]) (pre:=[stb z3l 81 [(.slice z5n zx.fModules.length z5o),(.slice z5p zx.fChannels.length z5q),(.slice z5r zx.fSwitches.length z5s),(.slice z5t zx.fLinks.length z5u),(.slice z5v zx.fVLs.length z5w),(.slice z5x zx.fHealth.length z5y),(.slice z5z zx.fCauses.length z5A),(.slice z5B zx.fVersions.length z5C),(.slice z5D z1h.length z5E),(.slice z5F z10.length z5G),(.map (some z2p)),(.slice z4L z2c.length z4M),(.slice z5H z47.length z5I),(.slice z5J z48.length z5K)],y1e z2p (fun x=>Value.agg (y1Q x).toArray) Value.pointer (y1m z2d),y1l z15 z2d,row (.slice z4L z2c.length z4M) 113 7 (z2c.flatMap yx)]) (env:=[(0,(.pointer (some ⟨z3l,0,none⟩))),(1,(.int .i64 z3k)),(2,(.int .i64 z36)),(3,(.int .i64 z37)),(4,(.int .i64 z16))]) Try.func25 rfl Try.ntmps25 rfl (hown) rfl ?_
  refine WC.b ?_
  obtain ⟨zqz,h⟩:=yj h
  refine WC.a (WL.pu rfl ?_)
  refine WL.a (d:=14) rfl rfl rfl (yt rfl) ?_
  refine WL.a (d:=15) rfl rfl rfl (ya y91 rfl rfl) ?_
  refine WL.a (d:=16) rfl rfl rfl (yb y92 rfl (ye .here rfl)) ?_
  refine WL.pu rfl ?_
  refine WL.znth (dd:=18) rfl rfl (Z:=Z) (Pr:=(fun r x=>r = e53 x)) y41 rfl rfl zqy zqz ?_
  rintro zwg zwh zqA zwi rfl
  refine WL.a (d:=19) rfl rfl rfl (ya y4Z rfl rfl) ?_
  refine WL.a (d:=20) rfl rfl rfl (yb yf rfl (y2e hz.pv zqA rfl)) ?_
  refine WL.pu rfl (WL.nil (WX.a (WC.b ?_)))
  obtain ⟨zqB,h⟩:=yj h
  refine WC.a (WL.pu rfl ?_)
  refine WL.a (d:=22) rfl rfl rfl (yt rfl) ?_
  refine WL.a (d:=23) rfl rfl rfl (ya fo_81_1 rfl rfl) ?_
  refine WL.a (d:=24) rfl rfl rfl (yb oneT_32 rfl (ye .here rfl)) ?_
  refine WL.pu rfl ?_
  refine WL.znth (dd:=26) rfl rfl (Z:=Z) (Pr:=(p55 Z)) y6y rfl rfl zqx zqB ?_
  rintro zwj zwk zqC zwl ⟨zls,zlt,rfl,zqD⟩
  refine WL.a (d:=27) rfl rfl rfl (yb y6O rfl (rd_z hz.pv zqC rfl)) ?_
  refine WL.a (d:=28) rfl rfl rfl (yW Try.underlying55 rfl) ?_
  refine WL.pu rfl (WL.nil (WX.a ?_))
  obtain ⟨z6W,zqE,h⟩:=y19 h
  refine WC.mid3 (fun (z5m : List Snetwork_event) (zaI : Option Addr) (zaJ : Nat)=>(z6W z5m = some r)) (fun (z5m : List Snetwork_event) (zaI : Option Addr) (zaJ : Nat)=>[]) (fun (z5m : List Snetwork_event) (zaI : Option Addr) (zaJ : Nat)=>[row (.slice zaI z5m.length zaJ) 113 7 (z5m.flatMap yx),stb z3l 81 [(.slice z5n zx.fModules.length z5o),(.slice z5p zx.fChannels.length z5q),(.slice z5r zx.fSwitches.length z5s),(.slice z5t zx.fLinks.length z5u),(.slice z5v zx.fVLs.length z5w),(.slice z5x zx.fHealth.length z5y),(.slice z5z zx.fCauses.length z5A),(.slice z5B zx.fVersions.length z5C),(.slice z5D z1h.length z5E),(.slice z5F z10.length z5G),(.map (some z2p)),(.slice zaI z5m.length zaJ),(.slice z5H z47.length z5I),(.slice z5J z48.length z5K)],y1e z2p (fun x=>Value.agg (y1Q x).toArray) Value.pointer (y1m z2d),y1l z15 z2d]) ?_ ?_
  · skip
    refine WC.block ?_
    refine WC.y72 (fun (zaK : Nat) (z1L : Int) (z2T : List Snetwork_event) (z7C : Option Addr) (z7D : Nat)=>(y1A z1h z10 z16 z3k z36 z37 z6W zaK z1L z2T = some r)) (fun (zaK : Nat) (z1L : Int) (z2T : List Snetwork_event) (z7C : Option Addr) (z7D : Nat)=>[(0,(.pointer (some ⟨z3l,0,none⟩))),(1,(.int .i64 z3k)),(2,(.int .i64 z36)),(3,(.int .i64 z37)),(4,(.int .i64 z16)),(10,(.int .i64 ((nth z10 z16).fVL))),(27,(.slice zls ((nth z1h ((nth z10 z16).fVL)).length) zlt)),(28,(.int .i64 (((nth z1h ((nth z10 z16).fVL)).length : Nat) : Int))),(29,(.int .i64 z1L))]) (fun (zaK : Nat) (z1L : Int) (z2T : List Snetwork_event) (z7C : Option Addr) (z7D : Nat)=>[row (.slice z7C z2T.length z7D) 113 7 (z2T.flatMap yx),stb z3l 81 [(.slice z5n zx.fModules.length z5o),(.slice z5p zx.fChannels.length z5q),(.slice z5r zx.fSwitches.length z5s),(.slice z5t zx.fLinks.length z5u),(.slice z5v zx.fVLs.length z5w),(.slice z5x zx.fHealth.length z5y),(.slice z5z zx.fCauses.length z5A),(.slice z5B zx.fVersions.length z5C),(.slice z5D z1h.length z5E),(.slice z5F z10.length z5G),(.map (some z2p)),(.slice z7C z2T.length z7D),(.slice z5H z47.length z5I),(.slice z5J z48.length z5K)],y1e z2p (fun x=>Value.agg (y1Q x).toArray) Value.pointer (y1m z2d),y1l z15 z2d]) (fun (zaK : Nat) (z1L : Int) (z2T : List Snetwork_event) (z7C : Option Addr) (z7D : Nat)=>zaK) ⟨yz,0,z2c,z4L,z4M⟩ h (.cons rfl (.cons rfl (.cons rfl (.cons rfl (.cons rfl (.cons rfl (.cons rfl (.cons rfl (.cons rfl .nil))))))))) (.cons .h3 (.cons .here (.cons .here (.cons .here .nil)))) ?_
    rintro zaK z1L z2T z7C z7D h
    obtain ⟨zhg,rfl⟩:=y4K h
    rw [y1A] at h
    refine WC.b (WC.a (WL.pu rfl (WL.nil (WX.a (WC.b ?_)))))
    refine WC.cond rfl (fun zhj=>?_) (fun zhj=>?_)
    · replace h:=ym h zhj
      refine WC.skip (WX.a ?_)
      obtain ⟨zew,zqF,h⟩:=y19 h
      refine WC.y4k (fun (z4K : List Snetwork_event) (zaL : Option Addr) (zaM : Nat)=>(zew z4K = some r)) (fun (z4K : List Snetwork_event) (zaL : Option Addr) (zaM : Nat)=>[(0,(.pointer (some ⟨z3l,0,none⟩))),(1,(.int .i64 z3k)),(2,(.int .i64 z36)),(3,(.int .i64 z37)),(4,(.int .i64 z16)),(10,(.int .i64 ((nth z10 z16).fVL))),(27,(.slice zls ((nth z1h ((nth z10 z16).fVL)).length) zlt)),(28,(.int .i64 (((nth z1h ((nth z10 z16).fVL)).length : Nat) : Int))),(29,(.int .i64 z1L))]) (fun (z4K : List Snetwork_event) (zaL : Option Addr) (zaM : Nat)=>[row (.slice zaL z4K.length zaM) 113 7 (z4K.flatMap yx),stb z3l 81 [(.slice z5n zx.fModules.length z5o),(.slice z5p zx.fChannels.length z5q),(.slice z5r zx.fSwitches.length z5s),(.slice z5t zx.fLinks.length z5u),(.slice z5v zx.fVLs.length z5w),(.slice z5x zx.fHealth.length z5y),(.slice z5z zx.fCauses.length z5A),(.slice z5B zx.fVersions.length z5C),(.slice z5D z1h.length z5E),(.slice z5F z10.length z5G),(.map (some z2p)),(.slice zaL z4K.length zaM),(.slice z5H z47.length z5I),(.slice z5J z48.length z5K)],y1e z2p (fun x=>Value.agg (y1Q x).toArray) Value.pointer (y1m z2d),y1l z15 z2d]) ?_ ?_
      · skip
        refine WC.block (WC.b ?_)
        obtain ⟨zqG,h⟩:=yj h
        refine WC.a ?_
        refine WL.znth (dd:=31) rfl rfl (Z:=Z) (Pr:=(fun r x=>r = e59 x)) y6z rfl rfl zqD zqG ?_
        rintro zwm zwn zqH zwo rfl
        refine WL.a (d:=32) rfl rfl rfl (yF y6P rfl (y3G hz.pv zqH) rfl) ?_
        refine WL.new (dd:=12) rfl rfl rfl (y2u (cs:=[(.int .i64 0),(.int .i64 0),(.int .i64 0)]) y8q rfl) ?_
        intro zwp _
        refine WL.y1o rfl rfl (y22 y90 rfl rfl rfl .here rfl rfl rfl) ?_
        refine WL.nil (WX.a (WC.b (WC.a ?_)))
        refine WL.a (d:=33) rfl rfl rfl (ya y3q rfl rfl) ?_
        refine WL.a (d:=34) rfl rfl rfl (yb yf rfl (ye .here rfl)) ?_
        refine WL.pu rfl (WL.pu rfl (WL.nil (WX.a ?_)))
        refine WC.cond rfl (fun zhk=>?_) (fun zhk=>?_)
        · replace h:=ym h zhk
          obtain ⟨zhh,zqI,h⟩:=zf h
          refine WC.yZ (fun i=>[11].contains i) [] rfl ?_
          refine WD.a (i:=0) (d:=37) (by kernel_rfl) rfl (z2 (by kernel_rfl)) (z3 (by kernel_rfl)) rfl rfl rfl (fun _=>q_m rfl) ?_
          refine WD.a (i:=1) (d:=38) (by kernel_rfl) rfl (z2 (by kernel_rfl)) (z3 (by kernel_rfl)) rfl rfl rfl (fun _=>yt rfl) ?_
          refine WD.a (i:=2) (d:=39) (by kernel_rfl) rfl (z2 (by kernel_rfl)) (z3 (by kernel_rfl)) rfl rfl rfl (fun _=>ya y7H rfl rfl) ?_
          refine WD.e (i:=3) (d:=40) (by kernel_rfl) rfl (z2 (by kernel_rfl)) (z3 (by kernel_rfl)) rfl rfl rfl (y5m Try.underlying111 rfl rfl) ?_
          refine WD.a (i:=4) (d:=41) (by kernel_rfl) rfl (z2 (by kernel_rfl)) (z3 (by kernel_rfl)) rfl rfl rfl (fun _=>q_m rfl) ?_
          refine WD.a (i:=5) (d:=42) (by kernel_rfl) rfl (z2 (by kernel_rfl)) (z3 (by kernel_rfl)) rfl rfl rfl (fun _=>q_m rfl) ?_
          refine WD.a (i:=6) (d:=43) (by kernel_rfl) rfl (z2 (by kernel_rfl)) (z3 (by kernel_rfl)) rfl rfl rfl (fun _=>q_m rfl) ?_
          refine WD.a (i:=7) (d:=44) (by kernel_rfl) rfl (z2 (by kernel_rfl)) (z3 (by kernel_rfl)) rfl rfl rfl (fun _=>q_m rfl) ?_
          refine WD.e (i:=8) (d:=45) (by kernel_rfl) rfl (z2 (by kernel_rfl)) (z3 (by kernel_rfl)) rfl rfl rfl (yF y6P rfl (y1i .here) rfl) ?_
          refine WD.a (i:=9) (d:=46) (by kernel_rfl) rfl (z2 (by kernel_rfl)) (z3 (by kernel_rfl)) rfl rfl rfl (fun _=>y1B (v:=(.agg #[(.int .i64 z36),(.int .i64 z37),(.int .i64 ((nth z10 z16).fVL)),(.int .i64 z16),(.int .i64 ((nth (nth z1h ((nth z10 z16).fVL)) z1L).fNode)),(.int .i64 ((nth (nth z1h ((nth z10 z16).fVL)) z1L).fNext)),(.int .i64 ((nth (nth z1h ((nth z10 z16).fVL)) z1L).fLink))])) (Eos.parts (l:=[.tmp 41,.tmp 42,.tmp 43,.tmp 44,.tmp 45]) (.cons rfl (.cons rfl (.cons rfl (.cons rfl (.cons rfl .nil))))) [0,1,2,3,4]) (fun _=>by kernel_rfl)) ?_
          refine WD.e (i:=10) (d:=47) (by kernel_rfl) rfl (z2 (by kernel_rfl)) (z3 (by kernel_rfl)) rfl rfl rfl (y5m Try.underlying113 rfl rfl) ?_
          refine WD.call2 (i:=11) (dd:=48) rfl (by kernel_rfl) rfl rfl rfl (.inl ⟨rfl,fun _ _=>(Sin.of .nil)⟩) (zy (l:=[.tmp 40,.tmp 47]) Try.call38 (.cons rfl (.cons rfl .nil))) (.cons .h2 (.cons .h1 .nil)) (cc hz (.cons .h2 (.cons .h1 .nil)) fun w pz ho=>y5w _ _ _ _ _ _ _ _ _ _ _ _ _ _ _ _ _ _ _ _ zqI w pz  ho) ?_
          rintro zqJ zqK _
          refine WD.done (by kernel_rfl) ?_
          refine WX.yg ?_
          exact WX.mid (G:=List Snetwork_event × Option Addr × Nat) ⟨zhh,zqJ,zqK⟩ h (.cons rfl (.cons rfl (.cons rfl (.cons rfl (.cons rfl (.cons rfl (.cons rfl (.cons rfl (.cons rfl .nil))))))))) (.cons .h1 (.cons .here (.cons .h1 (.cons .h1 .nil))))
        · replace h:=yn h zhk
          refine WC.skip (WX.yg ?_)
          exact WX.mid (G:=List Snetwork_event × Option Addr × Nat) ⟨z2T,z7C,z7D⟩ h (.cons rfl (.cons rfl (.cons rfl (.cons rfl (.cons rfl (.cons rfl (.cons rfl (.cons rfl (.cons rfl .nil))))))))) (.cons .h1 (.cons .h1 (.cons .h1 (.cons .h1 .nil))))
      · rintro z4K zaL zaM h
        replace h:=(zqF z4K).symm.trans h
        refine WC.a (WL.pu rfl (WL.pu rfl (WL.nil ?_)))
        exact WX.round (G:=Nat × Int × List Snetwork_event × Option Addr × Nat) ⟨zhg,(i64 (z1L + 1)),z4K,zaL,zaM⟩ h (Nat.lt_succ_self _) (.cons rfl (.cons rfl (.cons rfl (.cons rfl (.cons rfl (.cons rfl (.cons rfl (.cons rfl (.cons rfl .nil))))))))) (.cons .here (.cons .here (.cons .here (.cons .here .nil))))
    · replace h:=yn h zhj
      refine WC.exit (WX.yd (WX.yd (WX.yA ?_)))
      exact WX.mid (G:=List Snetwork_event × Option Addr × Nat) ⟨z2T,z7C,z7D⟩ h .nil (.cons .here (.cons .here (.cons .here (.cons .here .nil))))
  · rintro z5m zaI zaJ h
    replace h:=(zqE z5m).symm.trans h
    obtain rfl:=Option.some.inj h
    refine WX.y1S Try.results25 .nil (fun w hw=>?_)
    exact ⟨zaI,zaJ,y49,trivial,hw.sub (.cons .h1 (.cons .here (.cons .here (.cons .here .nil))))⟩
def y1c (z2U : Int) (z5L : Int → (List Snetwork_event) → Option (Bool × List Snetwork_event)) : Nat → Int → (List Snetwork_event) → Option (Bool × List Snetwork_event)
  | 0,_,_=>none
  | zhl + 1,z1w,z1M=>if (decide ((i64 ((i64 (2 * z1w)) + 1)) ≥ z2U)) || (decide ((i64 ((i64 (2 * z1w)) + 1)) < 0)) then z5L z1w z1M else jp1 (fun (z4N : Int)=>(y1p z1M z4N z1w).bind fun zlu=>if !zlu then z5L z1w z1M else (y1q z1M z1w z4N).bind fun zex=>y1c z2U z5L zhl z4N zex) fun zey=>(if decide ((i64 ((i64 ((i64 (2 * z1w)) + 1)) + 1)) < z2U) then (y1p z1M (i64 ((i64 ((i64 (2 * z1w)) + 1)) + 1)) (i64 ((i64 (2 * z1w)) + 1))).bind fun zlv=>some zlv else some false).bind fun zhm=>if zhm then zey (i64 ((i64 ((i64 (2 * z1w)) + 1)) + 1)) else zey (i64 ((i64 (2 * z1w)) + 1))
theorem y4p {n : Nat} {z2U : Int} {z5L : Int → (List Snetwork_event) → Option (Bool × List Snetwork_event)} {z1w : Int} {z1M : List Snetwork_event} {r : Bool × List Snetwork_event} (h : y1c z2U z5L n z1w z1M = some r) : ∃ m,n = m + 1:=by
  cases n with
  | zero=>cases h
  | succ m=>exact ⟨m,rfl⟩
def y2f (z1N : List Snetwork_event) (i0_9332 : Int) (z2U : Int) : Option (Bool × List Snetwork_event) :=
  jp2 (fun (z7E : Int) (z4O : List Snetwork_event)=>some ((decide (z7E > i0_9332)),z4O)) fun z5L=>y1c z2U z5L yz i0_9332 z1N
set_option maxRecDepth 20000 in
theorem y5x (Z : Zp) (z3m : Nat) (z2e : Option Addr) (z2f : Nat) (z5M : Value) (z5N : Value) (z5O : Value) (z5P : Value) (z5Q : Value) (z5R : Value) (z5S : Value) (z5T : Value) (z5U : Value) (z5V : Value) (z5W : Value) (z5X : Value) (z5Y : Value) (z1N : List Snetwork_event) (i0_9332 : Int) (z2U : Int) (r : Bool × List Snetwork_event)
     (h : y2f z1N i0_9332 z2U = some r) (w₀ : World) (hz : PZ (fps [stb z3m 81 [z5M,z5N,z5O,z5P,z5Q,z5R,z5S,z5T,z5U,z5V,z5W,(.slice z2e z1N.length z2f),z5X,z5Y],row (.slice z2e z1N.length z2f) 113 7 (z1N.flatMap yx)]) w₀ Z)
    (hown : Hp (fps [stb z3m 81 [z5M,z5N,z5O,z5P,z5Q,z5R,z5S,z5T,z5U,z5V,z5W,(.slice z2e z1N.length z2f),z5X,z5Y],row (.slice z2e z1N.length z2f) 113 7 (z1N.flatMap yx)]) w₀ w₀ [stb z3m 81 [z5M,z5N,z5O,z5P,z5Q,z5R,z5S,z5T,z5U,z5V,z5W,(.slice z2e z1N.length z2f),z5X,z5Y],row (.slice z2e z1N.length z2f) 113 7 (z1N.flatMap yx)]) :
    Calls Try.prog 51 #[(.iface 111 (.pointer (some ⟨z3m,11,none⟩))),(.int .i64 i0_9332),(.int .i64 z2U)] w₀ fun e w'=>e = .returned (.bool r.1) ∧ (r.2.length = z1N.length) ∧ Hp (fps [stb z3m 81 [z5M,z5N,z5O,z5P,z5Q,z5R,z5S,z5T,z5U,z5V,z5W,(.slice z2e z1N.length z2f),z5X,z5Y],row (.slice z2e z1N.length z2f) 113 7 (z1N.flatMap yx)]) w₀ w' [stb z3m 81 [z5M,z5N,z5O,z5P,z5Q,z5R,z5S,z5T,z5U,z5V,z5W,(.slice z2e r.2.length z2f),z5X,z5Y],row (.slice z2e r.2.length z2f) 113 7 (r.2.flatMap yx)]:=by
  unfold y2f at h
  refine Calls.yl (vs:=[(.iface 111 (.pointer (some ⟨z3m,11,none⟩))),(.int .i64 i0_9332),(.int .i64 z2U)]) (pre:=[stb z3m 81 [z5M,z5N,z5O,z5P,z5Q,z5R,z5S,z5T,z5U,z5V,z5W,(.slice z2e z1N.length z2f),z5X,z5Y],row (.slice z2e z1N.length z2f) 113 7 (z1N.flatMap yx)]) (env:=[(0,(.iface 111 (.pointer (some ⟨z3m,11,none⟩)))),(1,(.int .i64 i0_9332)),(2,(.int .i64 z2U))]) Try.func51 rfl Try.ntmps51 rfl (hown) rfl ?_
  refine WC.b (WC.a (WL.pu rfl (WL.nil (WX.a (WC.b (WC.a (WL.pu rfl (WL.pu rfl (WL.nil (WX.a ?_))))))))))
  obtain ⟨z5L,zqL,h⟩:=y3m h
  refine WC.y2R (fun (z7E : Int) (z4O : List Snetwork_event)=>(z5L z7E z4O = some r) ∧ (z4O.length = z1N.length)) (fun (z7E : Int) (z4O : List Snetwork_event)=>[(1,(.int .i64 i0_9332)),(7,(.int .i64 z7E))]) (fun (z7E : Int) (z4O : List Snetwork_event)=>[row (.slice z2e z4O.length z2f) 113 7 (z4O.flatMap yx),stb z3m 81 [z5M,z5N,z5O,z5P,z5Q,z5R,z5S,z5T,z5U,z5V,z5W,(.slice z2e z4O.length z2f),z5X,z5Y]]) ?_ ?_
  · skip
    refine WC.block ?_
    refine WC.y28 (fun (zaN : Nat) (z1w : Int) (z1M : List Snetwork_event)=>(y1c z2U z5L zaN z1w z1M = some r) ∧ (z1M.length = z1N.length)) (fun (zaN : Nat) (z1w : Int) (z1M : List Snetwork_event)=>[(0,(.iface 111 (.pointer (some ⟨z3m,11,none⟩)))),(1,(.int .i64 i0_9332)),(2,(.int .i64 z2U)),(7,(.int .i64 z1w))]) (fun (zaN : Nat) (z1w : Int) (z1M : List Snetwork_event)=>[row (.slice z2e z1M.length z2f) 113 7 (z1M.flatMap yx),stb z3m 81 [z5M,z5N,z5O,z5P,z5Q,z5R,z5S,z5T,z5U,z5V,z5W,(.slice z2e z1M.length z2f),z5X,z5Y]]) (fun (zaN : Nat) (z1w : Int) (z1M : List Snetwork_event)=>zaN) ⟨yz,i0_9332,z1N⟩ ⟨h,rfl⟩ (.cons rfl (.cons rfl (.cons rfl (.cons rfl .nil)))) (.cons .h1 (.cons .here .nil)) ?_
    rintro zaN z1w z1M ⟨h,zhn⟩
    obtain ⟨zhl,rfl⟩:=y4p h
    rw [y1c] at h
    refine WC.block (WC.b (WC.a (WL.pu rfl (WL.pu rfl (WL.pu rfl (WL.pu rfl (WL.nil (WX.a (WC.b (WC.b (WC.a (WL.pu rfl (WL.pu rfl (WL.pu rfl (WL.pu rfl ?_)))))))))))))))
    refine WL.seg false 2 18 (B:=(decide ((i64 ((i64 (2 * z1w)) + 1)) ≥ z2U)) || (decide ((i64 ((i64 (2 * z1w)) + 1)) < 0))) rfl rfl rfl rfl rfl rfl (fun h=>(y25 h).symm) (fun _ zqM=>?_) ?_
    · skip
      refine WL.pu rfl (WL.pu rfl (WL.pu rfl ?_))
      exact WL.ys (y26 zqM) rfl rfl .all
    refine WL.nil (WX.a ?_)
    refine WC.cond rfl (fun zho=>?_) (fun zho=>?_)
    · replace h:=ym h zho
      refine WC.exit (WX.yd (WX.y54 rfl (WX.yd (WX.yA ?_))))
      exact WX.mid (G:=Int × List Snetwork_event) ⟨z1w,z1M⟩ ⟨h,zhn⟩ (.cons rfl (.cons rfl .nil)) (.cons .here (.cons .here .nil))
    · replace h:=yn h zho
      refine WC.skip (WX.a (WC.b (WC.a (WL.pu rfl (WL.pu rfl (WL.nil (WX.a ?_)))))))
      obtain ⟨zey,zqN,h⟩:=y19 h
      refine WC.y1H (fun (z4N : Int)=>(zey z4N = some r)) (fun (z4N : Int)=>[(0,(.iface 111 (.pointer (some ⟨z3m,11,none⟩)))),(1,(.int .i64 i0_9332)),(2,(.int .i64 z2U)),(7,(.int .i64 z1w)),(9,(.int .i64 z4N))]) (fun (z4N : Int)=>[row (.slice z2e z1M.length z2f) 113 7 (z1M.flatMap yx),stb z3m 81 [z5M,z5N,z5O,z5P,z5Q,z5R,z5S,z5T,z5U,z5V,z5W,(.slice z2e z1M.length z2f),z5X,z5Y]]) ?_ ?_
      · skip
        refine WC.b (WC.a (WL.pu rfl (WL.pu rfl (WL.pu rfl (WL.nil (WX.a (WC.b ?_)))))))
        obtain ⟨zhm,zlw,h⟩:=zf h
        refine WC.a (WL.pu rfl (WL.pu rfl (WL.pu rfl (WL.pu rfl ?_))))
        refine WL.seg true 4 28 (B:=zhm) rfl rfl rfl rfl rfl rfl (fun h=>(Option.some.inj (yn zlw h)).symm) (fun _ zqO=>?_) ?_
        · skip
          have zdd:=ym zlw zqO
          obtain ⟨zlv,zqP,zdd⟩:=zf zdd
          replace zdd:=Option.some.inj zdd
          refine WL.pu rfl (WL.pu rfl (WL.pu rfl ?_))
          refine WL.b (dd:=32) rfl rfl rfl (y2Y (l:=[.tmp 30,.tmp 31]) (y59) Try.call87 rfl (ye .h1 rfl) (.cons rfl (.cons rfl .nil))) .nil (ccl hz .nil (.cons .here .nil) fun w pz ho la=>y3t _ _ _ _ _ _ _ zqP w pz (ZA.row (la _ (.head _) _) (RR.y17 (enc:=yx) (fun _=>rfl) _) ⟨w,pz.1⟩)) ?_
          refine WL.pu rfl ?_
          exact WL.ys zdd rfl rfl .all
        refine WL.nil (WX.a ?_)
        refine WC.cond rfl (fun zhp=>?_) (fun zhp=>?_)
        · replace h:=ym h zhp
          refine WC.a (WL.pu rfl (WL.pu rfl (WL.nil ?_)))
          exact WX.mid (G:=Int) (i64 ((i64 ((i64 (2 * z1w)) + 1)) + 1)) h (.cons rfl (.cons rfl (.cons rfl (.cons rfl (.cons rfl .nil))))) (.cons .here (.cons .here .nil))
        · replace h:=yn h zhp
          refine WC.skip ?_
          exact WX.mid (G:=Int) (i64 ((i64 (2 * z1w)) + 1)) h (.cons rfl (.cons rfl (.cons rfl (.cons rfl (.cons rfl .nil))))) (.cons .here (.cons .here .nil))
      · rintro z4N h
        replace h:=(zqN z4N).symm.trans h
        refine WC.b (WC.b ?_)
        obtain ⟨zlu,zqQ,h⟩:=zf h
        refine WC.a (WL.pu rfl (WL.pu rfl (WL.pu rfl ?_)))
        refine WL.b (dd:=38) rfl rfl rfl (y2Y (l:=[.tmp 36,.tmp 37]) (y59) Try.call87 rfl (ye .h1 rfl) (.cons rfl (.cons rfl .nil))) .nil (ccl hz .nil (.cons .here .nil) fun w pz ho la=>y3t _ _ _ _ _ _ _ zqQ w pz (ZA.row (la _ (.head _) _) (RR.y17 (enc:=yx) (fun _=>rfl) _) ⟨w,pz.1⟩)) ?_
        refine WL.pu rfl (WL.nil (WX.a ?_))
        refine WC.cond rfl (fun zhq=>?_) (fun zhq=>?_)
        · replace h:=ym h zhq
          refine WC.exit (WX.yd (WX.y54 rfl (WX.yd (WX.yA ?_))))
          exact WX.mid (G:=Int × List Snetwork_event) ⟨z1w,z1M⟩ ⟨h,zhn⟩ (.cons rfl (.cons rfl .nil)) (.cons .here (.cons .here .nil))
        · replace h:=yn h zhq
          refine WC.skip (WX.a (WC.b ?_))
          obtain ⟨zex,zqR,h⟩:=zf h
          refine WC.a (WL.pu rfl (WL.pu rfl (WL.pu rfl ?_)))
          refine WL.y1K (dd:=43) rfl rfl rfl (y2Y (l:=[.tmp 41,.tmp 42]) (y5a) Try.call88 rfl (ye .h1 rfl) (.cons rfl (.cons rfl .nil))) (.cons .here .nil) (cc hz (.cons .here .nil) fun w pz ho=>y3u _ _ _ _ _ _ _ zqR w pz  ho) ?_
          rintro  zlx
          refine WL.restb (cs':=[z5M,z5N,z5O,z5P,z5Q,z5R,z5S,z5T,z5U,z5V,z5W,(.slice z2e zex.length z2f),z5X,z5Y]) .h1 (by rw [zlx]) ?_
          refine WL.nil (WX.a (WC.a (WL.pu rfl (WL.pu rfl (WL.nil (WX.yg ?_))))))
          exact WX.round (G:=Nat × Int × List Snetwork_event) ⟨zhl,z4N,zex⟩ ⟨h,(zlx.trans zhn)⟩ (Nat.lt_succ_self _) (.cons rfl (.cons rfl (.cons rfl (.cons rfl .nil)))) (.cons .h1 (.cons .here .nil))
  · rintro z7E z4O ⟨h,zqS⟩
    replace h:=(zqL z7E z4O).symm.trans h
    refine WC.b (WC.a (WL.pu rfl (WL.pu rfl (WL.pu rfl (WL.pu rfl (WL.nil (WX.a (WC.ret ?_))))))))
    obtain rfl:=Option.some.inj h
    refine WX.yh Try.results51 (.tmp rfl .nil) (fun w hw=>?_)
    exact ⟨y10 rfl,zqS,hw.sub (.cons .h1 (.cons .here .nil))⟩
def y2N (zO : List Snetwork_event) : Option Snetwork_event :=
  chk ((0 : Int) ≤ (i64 (((zO.length : Nat) : Int) - 1)) ∧ (i64 (((zO.length : Nat) : Int) - 1)) < ((zO.length : Nat) : Int)) (chk ((0 : Int) ≤ (i64 (((zO.length : Nat) : Int) - 1)) ∧ (i64 (((zO.length : Nat) : Int) - 1)) ≤ ((zO.length : Nat) : Int)) (some (⟨((nth zO (i64 (((zO.length : Nat) : Int) - 1))).fTime),((nth zO (i64 (((zO.length : Nat) : Int) - 1))).fIn_),((nth zO (i64 (((zO.length : Nat) : Int) - 1))).fVl),((nth zO (i64 (((zO.length : Nat) : Int) - 1))).fSent),(⟨(((nth zO (i64 (((zO.length : Nat) : Int) - 1))).fHop).fNode),(((nth zO (i64 (((zO.length : Nat) : Int) - 1))).fHop).fNext),(((nth zO (i64 (((zO.length : Nat) : Int) - 1))).fHop).fLink)⟩ : Sapi_Hop)⟩ : Snetwork_event)))
set_option maxRecDepth 20000 in
theorem y5N (Z : Zp) (z6X : Nat) (z5Z : Option Addr) (z60 : Nat) (z9a : Value) (z9b : Value) (z9c : Value) (z9d : Value) (z9e : Value) (z9f : Value) (z9g : Value) (z9h : Value) (z9i : Value) (z9j : Value) (z9k : Value) (z9l : Value) (z9m : Value) (zO : List Snetwork_event) (r : Snetwork_event)
     (h : y2N zO = some r) (w₀ : World) (hz : PZ (fps [stb z6X 81 [z9a,z9b,z9c,z9d,z9e,z9f,z9g,z9h,z9i,z9j,z9k,(.slice z5Z zO.length z60),z9l,z9m],row (.slice z5Z zO.length z60) 113 7 (zO.flatMap yx)]) w₀ Z)
    (hown : Hp (fps [stb z6X 81 [z9a,z9b,z9c,z9d,z9e,z9f,z9g,z9h,z9i,z9j,z9k,(.slice z5Z zO.length z60),z9l,z9m],row (.slice z5Z zO.length z60) 113 7 (zO.flatMap yx)]) w₀ w₀ [stb z6X 81 [z9a,z9b,z9c,z9d,z9e,z9f,z9g,z9h,z9i,z9j,z9k,(.slice z5Z zO.length z60),z9l,z9m],row (.slice z5Z zO.length z60) 113 7 (zO.flatMap yx)]) :
    Calls Try.prog 91 #[(.pointer (some ⟨z6X,11,none⟩))] w₀ fun e w'=>∃ zly : Option Addr,∃ zlz : Nat,e = .returned (.iface 113 (.agg #[(.int .i64 r.fTime),(.int .i64 r.fIn_),(.int .i64 r.fVl),(.int .i64 r.fSent),(.int .i64 r.fHop.fNode),(.int .i64 r.fHop.fNext),(.int .i64 r.fHop.fLink)])) ∧ True ∧ Hp (fps [stb z6X 81 [z9a,z9b,z9c,z9d,z9e,z9f,z9g,z9h,z9i,z9j,z9k,(.slice z5Z zO.length z60),z9l,z9m],row (.slice z5Z zO.length z60) 113 7 (zO.flatMap yx)]) w₀ w' [stb z6X 81 [z9a,z9b,z9c,z9d,z9e,z9f,z9g,z9h,z9i,z9j,z9k,(.slice zly ((zO.take ((i64 (((zO.length : Nat) : Int) - 1)) : Int).toNat).length) zlz),z9l,z9m],row (.slice zly ((zO.take ((i64 (((zO.length : Nat) : Int) - 1)) : Int).toNat).length) zlz) 113 7 ((zO.take ((i64 (((zO.length : Nat) : Int) - 1)) : Int).toNat).flatMap yx)]:=by
  unfold y2N at h
  refine Calls.yl (vs:=[(.pointer (some ⟨z6X,11,none⟩))]) (pre:=[stb z6X 81 [z9a,z9b,z9c,z9d,z9e,z9f,z9g,z9h,z9i,z9j,z9k,(.slice z5Z zO.length z60),z9l,z9m],row (.slice z5Z zO.length z60) 113 7 (zO.flatMap yx)]) (env:=[(0,(.pointer (some ⟨z6X,11,none⟩)))]) Try.func91 rfl Try.ntmps91 rfl (hown) rfl ?_
  refine WC.b (WC.a (WL.pu rfl (WL.nil (WX.a (WC.b (WC.a (WL.pu rfl ?_)))))))
  refine WL.a (d:=6) rfl rfl rfl (yt rfl) ?_
  refine WL.a (d:=7) rfl rfl rfl (yb y50 rfl (ye .here rfl)) ?_
  refine WL.pu rfl (WL.nil (WX.a (WC.b ?_)))
  obtain ⟨zde,h⟩:=yj h
  refine WC.a (WL.pu rfl (WL.pu rfl ?_))
  refine WL.a (d:=10) rfl rfl rfl (yW Try.underlying79 rfl) ?_
  refine WL.pu rfl ?_
  refine WL.know (fun w hw=>Hp.y2j .h1 hw (by intro hz'; have:=zde; rw [hz'] at this; omega)) ?_
  rintro ⟨zwq,rfl⟩
  refine WL.a (d:=12) rfl rfl rfl (yr y4b rfl rfl zde.1 zde.2 y1b) ?_
  refine WL.a (d:=13) rfl rfl rfl (y1O (cs:=(yx (nth zO (i64 (((zO.length : Nat) : Int) - 1))))) z9J rfl rfl (y20 .h1 (y1J (enc:=yx) (l:=zO) (i:=i64 (((zO.length : Nat) : Int) - 1)) (sz:=7) (fun _=>rfl) zde.1 zde.2))) ?_
  refine WL.new (dd:=4) rfl rfl rfl (y2u (cs:=[(.int .i64 0),(.int .i64 0),(.int .i64 0),(.int .i64 0),(.int .i64 0),(.int .i64 0),(.int .i64 0)]) zjA rfl) ?_
  intro zwr _
  refine WL.y1o rfl rfl (y22 zdZ rfl rfl rfl .here rfl rfl rfl) ?_
  refine WL.nil (WX.a (WC.b ?_))
  obtain ⟨zqT,h⟩:=yj h
  refine WC.a (WL.pu rfl (WL.pu rfl (WL.pu rfl ?_)))
  refine WL.a (d:=17) rfl rfl rfl (yW Try.underlying79 rfl) ?_
  refine WL.pu rfl ?_
  refine WL.y6u (dd:=19) (enc:=yx) (ls:=zO) rfl rfl y4b rfl rfl .h2 (fun _=>rfl) zqT ?_
  intro zlA zlB
  refine WL.a (d:=20) rfl rfl rfl (yt rfl) ?_
  refine WL.y1o rfl rfl (y3H (ds:=[z9a,z9b,z9c,z9d,z9e,z9f,z9g,z9h,z9i,z9j,z9k,(.slice zlA ((zO.take ((i64 (((zO.length : Nat) : Int) - 1)) : Int).toNat).length) zlB),z9l,z9m]) y93 rfl rfl rfl rfl rfl .h2 rfl rfl) ?_
  refine WL.nil (WX.a (WC.b (WC.a ?_)))
  refine WL.a (d:=21) rfl rfl rfl (yF z9J rfl (y1i .h2) rfl) ?_
  refine WL.a (d:=22) rfl rfl rfl (y5m Try.underlying113 rfl rfl) ?_
  refine WL.pu rfl (WL.nil (WX.a (WC.ret ?_)))
  obtain rfl:=Option.some.inj h
  refine WX.yh Try.results91 (.tmp rfl .nil) (fun w hw=>?_)
  exact ⟨zlA,zlB,y10 rfl,trivial,hw.sub (.cons .here (.cons .here .nil))⟩
def y2k (z2g : List Snetwork_event) : Option (Snetwork_event × List Snetwork_event) :=
  (y27 z2g).bind fun zhr=>(y1q z2g 0 (i64 (zhr - 1))).bind fun zhs=>(y2f zhs 0 (i64 (zhr - 1))).bind fun zdf=>(y2N zdf.2).bind fun zlC=>some (zlC,(zdf.2.take ((i64 (((zdf.2.length : Nat) : Int) - 1)) : Int).toNat))
set_option maxRecDepth 20000 in
theorem y5O (Z : Zp) (z6Y : Nat) (z49 : Option Addr) (z4a : Nat) (z7F : Value) (z7G : Value) (z7H : Value) (z7I : Value) (z7J : Value) (z7K : Value) (z7L : Value) (z7M : Value) (z7N : Value) (z7O : Value) (z7P : Value) (z7Q : Value) (z7R : Value) (z2g : List Snetwork_event) (r : Snetwork_event × List Snetwork_event)
     (h : y2k z2g = some r) (w₀ : World) (hz : PZ (fps [stb z6Y 81 [z7F,z7G,z7H,z7I,z7J,z7K,z7L,z7M,z7N,z7O,z7P,(.slice z49 z2g.length z4a),z7Q,z7R],row (.slice z49 z2g.length z4a) 113 7 (z2g.flatMap yx)]) w₀ Z)
    (hown : Hp (fps [stb z6Y 81 [z7F,z7G,z7H,z7I,z7J,z7K,z7L,z7M,z7N,z7O,z7P,(.slice z49 z2g.length z4a),z7Q,z7R],row (.slice z49 z2g.length z4a) 113 7 (z2g.flatMap yx)]) w₀ w₀ [stb z6Y 81 [z7F,z7G,z7H,z7I,z7J,z7K,z7L,z7M,z7N,z7O,z7P,(.slice z49 z2g.length z4a),z7Q,z7R],row (.slice z49 z2g.length z4a) 113 7 (z2g.flatMap yx)]) :
    Calls Try.prog 39 #[(.iface 111 (.pointer (some ⟨z6Y,11,none⟩)))] w₀ fun e w'=>∃ zlD : Option Addr,∃ zlE : Nat,e = .returned (.iface 113 (.agg #[(.int .i64 r.1.fTime),(.int .i64 r.1.fIn_),(.int .i64 r.1.fVl),(.int .i64 r.1.fSent),(.int .i64 r.1.fHop.fNode),(.int .i64 r.1.fHop.fNext),(.int .i64 r.1.fHop.fLink)])) ∧ True ∧ Hp (fps [stb z6Y 81 [z7F,z7G,z7H,z7I,z7J,z7K,z7L,z7M,z7N,z7O,z7P,(.slice z49 z2g.length z4a),z7Q,z7R],row (.slice z49 z2g.length z4a) 113 7 (z2g.flatMap yx)]) w₀ w' [stb z6Y 81 [z7F,z7G,z7H,z7I,z7J,z7K,z7L,z7M,z7N,z7O,z7P,(.slice zlD r.2.length zlE),z7Q,z7R],row (.slice zlD r.2.length zlE) 113 7 (r.2.flatMap yx)]:=by
  unfold y2k at h
  refine Calls.yl (vs:=[(.iface 111 (.pointer (some ⟨z6Y,11,none⟩)))]) (pre:=[stb z6Y 81 [z7F,z7G,z7H,z7I,z7J,z7K,z7L,z7M,z7N,z7O,z7P,(.slice z49 z2g.length z4a),z7Q,z7R],row (.slice z49 z2g.length z4a) 113 7 (z2g.flatMap yx)]) (env:=[(0,(.iface 111 (.pointer (some ⟨z6Y,11,none⟩))))]) Try.func39 rfl Try.ntmps39 rfl (hown) rfl ?_
  refine WC.b (WC.a (WL.pu rfl (WL.nil (WX.a (WC.b ?_)))))
  obtain ⟨zhr,zqU,h⟩:=zf h
  refine WC.a (WL.pu rfl ?_)
  refine WL.b (dd:=5) rfl rfl rfl (y2Y (l:=[]) (y6Z) Try.call86 rfl (ye .here rfl) .nil) .nil (ccl hz .nil (.cons .h1 .nil) fun w pz ho la=>y4o _ _ _ _ _ zqU w pz (ZA.row (la _ (.head _) _) (RR.y17 (enc:=yx) (fun _=>rfl) _) ⟨w,pz.1⟩)) ?_
  refine WL.pu rfl (WL.pu rfl (WL.nil (WX.a (WC.b ?_))))
  obtain ⟨zhs,zqV,h⟩:=zf h
  refine WC.a (WL.pu rfl (WL.pu rfl ?_))
  refine WL.y1K (dd:=9) rfl rfl rfl (y2Y (l:=[.const (.int .i64 0),.tmp 8]) (y5a) Try.call88 rfl (ye .here rfl) (.cons rfl (.cons rfl .nil))) (.cons .h1 .nil) (cc hz (.cons .h1 .nil) fun w pz ho=>y3u _ _ _ _ _ _ _ zqV w pz  ho) ?_
  rintro  zqW
  refine WL.restb (cs':=[z7F,z7G,z7H,z7I,z7J,z7K,z7L,z7M,z7N,z7O,z7P,(.slice z49 zhs.length z4a),z7Q,z7R]) .h1 (by rw [zqW]) ?_
  refine WL.nil (WX.a (WC.b ?_))
  obtain ⟨zdf,zqX,h⟩:=zf h
  refine WC.a (WL.pu rfl (WL.pu rfl ?_))
  refine WL.y1K (dd:=12) rfl rfl rfl (zy (l:=[.tmp 10,.const (.int .i64 0),.tmp 11]) Try.call51 (.cons rfl (.cons rfl (.cons rfl .nil)))) (.cons .here (.cons .here .nil)) (cc hz (.cons .here (.cons .here .nil)) fun w pz ho=>y5x _ _ _ _ _ _ _ _ _ _ _ _ _ _ _ _ _ _ _ _ _ zqX w pz  ho) ?_
  rintro  zqY
  refine WL.restb (cs':=[z7F,z7G,z7H,z7I,z7J,z7K,z7L,z7M,z7N,z7O,z7P,(.slice z49 zdf.2.length z4a),z7Q,z7R]) .here (by rw [zqY]) ?_
  refine WL.nil (WX.a (WC.b ?_))
  obtain ⟨zlC,zqZ,h⟩:=zf h
  refine WC.a (WL.pu rfl ?_)
  refine WL.y4H (dd:=14) rfl rfl rfl (y7n (l:=[]) (y8O _) Try.call91 rfl .nil) (.cons .here (.cons .here .nil)) (cc hz (.cons .here (.cons .here .nil)) fun w pz ho=>y5N _ _ _ _ _ _ _ _ _ _ _ _ _ _ _ _ _ _ _ zqZ w pz  ho) ?_
  rintro zr0 zr1 _
  refine WL.pu rfl (WL.nil (WX.a (WC.ret ?_)))
  obtain rfl:=Option.some.inj h
  refine WX.yh Try.results39 (.tmp rfl .nil) (fun w hw=>?_)
  exact ⟨zr0,zr1,y10 rfl,trivial,hw.sub (.cons .here (.cons .here .nil))⟩
def y4R (z1W : Int) (z2q : Int) (z3n : Int) : Option Sport_Port :=
  if (((((decide (z1W < 1)) || (decide (z1W > 16))) || (decide (z2q < 0))) || (decide (z2q > 1000))) || (decide (z3n < 0))) || (decide (z3n > 1073741824)) then none else some (⟨(⟨z1W,z2q,z3n⟩ : Sport_numbers),0,0,([] : List Sport_frame)⟩ : Sport_Port)
set_option maxRecDepth 20000 in
theorem y9o (Z : Zp)  (z1W : Int) (z2q : Int) (z3n : Int) (r : Sport_Port)
     (h : y4R z1W z2q z3n = some r) (w₀ : World) (hz : PZ [] w₀ Z) :
    Calls Try.prog 52 #[(.int .i64 z1W),(.int .i64 z2q),(.int .i64 z3n)] w₀ fun e w'=>∃ zlF : Nat,∃ zlG : Option Addr,∃ zlH : Nat,e = .returned (.tuple #[(.pointer (some ⟨zlF,0,none⟩)),(.int .i64 0)]) ∧ True ∧ Hp [] w₀ w' [stb zlF 143 [(.int .i64 r.fNumbers.fSlow),(.int .i64 r.fNumbers.fDelay),(.int .i64 r.fNumbers.fStore),(.int .i64 r.fNow),(.int .i64 r.fLast),(.slice zlG r.fFrames.length zlH)],row (.slice zlG r.fFrames.length zlH) 146 2 (r.fFrames.flatMap y1Y)]:=by
  unfold y4R at h
  refine Calls.yl (vs:=[(.int .i64 z1W),(.int .i64 z2q),(.int .i64 z3n)]) (pre:=[]) (env:=[(0,(.int .i64 z1W)),(1,(.int .i64 z2q)),(2,(.int .i64 z3n))]) Try.func52 rfl Try.ntmps52 rfl (Hp.nil w₀ _) rfl ?_
  refine WC.b (WC.a (WL.pu rfl (WL.pu rfl (WL.nil (WX.a (WC.b (WC.b (WC.a (WL.pu rfl (WL.pu rfl (WL.pu rfl ?_)))))))))))
  refine WL.seg false 2 10 (B:=(decide (z1W < 1)) || (decide (z1W > 16))) rfl rfl rfl rfl rfl rfl (fun h=>(y25 h).symm) (fun _ zr2=>?_) ?_
  · skip
    refine WL.pu rfl (WL.pu rfl (WL.pu rfl ?_))
    exact WL.ys (y26 zr2) rfl rfl .all
  refine WL.pu rfl ?_
  refine WL.seg false 2 14 (B:=((decide (z1W < 1)) || (decide (z1W > 16))) || (decide (z2q < 0))) rfl rfl rfl rfl rfl rfl (fun h=>(y25 h).symm) (fun _ zr3=>?_) ?_
  · skip
    refine WL.pu rfl (WL.pu rfl (WL.pu rfl ?_))
    exact WL.ys (y26 zr3) rfl rfl .all
  refine WL.pu rfl ?_
  refine WL.seg false 2 18 (B:=(((decide (z1W < 1)) || (decide (z1W > 16))) || (decide (z2q < 0))) || (decide (z2q > 1000))) rfl rfl rfl rfl rfl rfl (fun h=>(y25 h).symm) (fun _ zr4=>?_) ?_
  · skip
    refine WL.pu rfl (WL.pu rfl (WL.pu rfl ?_))
    exact WL.ys (y26 zr4) rfl rfl .all
  refine WL.pu rfl ?_
  refine WL.seg false 2 22 (B:=((((decide (z1W < 1)) || (decide (z1W > 16))) || (decide (z2q < 0))) || (decide (z2q > 1000))) || (decide (z3n < 0))) rfl rfl rfl rfl rfl rfl (fun h=>(y25 h).symm) (fun _ zr5=>?_) ?_
  · skip
    refine WL.pu rfl (WL.pu rfl (WL.pu rfl ?_))
    exact WL.ys (y26 zr5) rfl rfl .all
  refine WL.pu rfl ?_
  refine WL.seg false 2 26 (B:=(((((decide (z1W < 1)) || (decide (z1W > 16))) || (decide (z2q < 0))) || (decide (z2q > 1000))) || (decide (z3n < 0))) || (decide (z3n > 1073741824))) rfl rfl rfl rfl rfl rfl (fun h=>(y25 h).symm) (fun _ zr6=>?_) ?_
  · skip
    refine WL.pu rfl (WL.pu rfl (WL.pu rfl ?_))
    exact WL.ys (y26 zr6) rfl rfl .all
  refine WL.nil (WX.a ?_)
  refine WC.cond rfl (fun zht=>?_) (fun zht=>?_)
  · replace h:=ym h zht
    refine WC.b (WC.a (WL.pu rfl (WL.pu rfl (WL.nil (WX.a (WC.ret (WX.yi ?_)))))))
    cases h
  · replace h:=yn h zht
    refine WC.skip (WX.a (WC.b (WC.a (WL.pu rfl (WL.pu rfl (WL.pu rfl ?_))))))
    refine WL.a (d:=33) rfl rfl rfl (y1B (v:=(.agg #[(.int .i64 z1W),(.int .i64 z2q),(.int .i64 z3n)])) (Eos.parts (l:=[.tmp 30,.tmp 31,.tmp 32]) (.cons rfl (.cons rfl (.cons rfl .nil))) [0,1,2]) (fun _=>by kernel_rfl)) ?_
    refine WL.a (d:=34) rfl rfl rfl (y1B (v:=(.agg #[(.int .i64 z1W),(.int .i64 z2q),(.int .i64 z3n),(.int .i64 0),(.int .i64 0),(.slice none 0 0)])) (Eos.parts (l:=[.tmp 33]) (.cons rfl .nil) [0]) (fun _=>by kernel_rfl)) ?_
    refine WL.new (dd:=35) rfl rfl rfl (y2g (cs:=[(.int .i64 z1W),(.int .i64 z2q),(.int .i64 z3n),(.int .i64 0),(.int .i64 0),(.slice none 0 0)]) rfl rfl) ?_
    intro zr7 _
    refine WL.pu rfl (WL.pu rfl (WL.nil (WX.a (WC.ret ?_))))
    refine WX.nilRow 146 2 ?_
    obtain rfl:=Option.some.inj h
    refine WX.yh Try.results52 (.tmp rfl (.tmp rfl .nil)) (fun w hw=>?_)
    exact ⟨zr7,none,0,ret2 rfl rfl,trivial,hw.sub (.cons .h1 (.cons .here .nil))⟩
def y3a (z1i : Sapi_Config) (zez : List (List Sapi_Hop)) (zeA : List zSt) (z7S : List (Snetwork_exit × Sport_Port)) (zeB : List Snetwork_event) (zeC : List Sapi_Come) (zeD : List Sapi_Come) (zH : Sapi_Hop) : Option (List (Snetwork_exit × Sport_Port)) :=
  jp1 (fun (z7T : List (Snetwork_exit × Sport_Port))=>some z7T) fun zeE=>if !y29 z7S (⟨zH.fNode,zH.fLink⟩ : Snetwork_exit) then jp2 (fun (z7U : Int) (z7V : Int)=>chk ((0 : Int) ≤ zH.fLink ∧ zH.fLink < ((z1i.fLinks.length : Nat) : Int)) ((y4R ((nth z1i.fLinks zH.fLink).fSlow) z7U z7V).bind fun z9n=>zeE (y12 z7S (⟨zH.fNode,zH.fLink⟩ : Snetwork_exit) z9n))) fun zeF=>if decide ((i64 (zH.fNode - ((z1i.fModules.length : Nat) : Int))) ≥ 0) then chk ((0 : Int) ≤ (i64 (zH.fNode - ((z1i.fModules.length : Nat) : Int))) ∧ (i64 (zH.fNode - ((z1i.fModules.length : Nat) : Int))) < ((z1i.fSwitches.length : Nat) : Int)) (zeF ((nth z1i.fSwitches (i64 (zH.fNode - ((z1i.fModules.length : Nat) : Int)))).fDelay) ((nth z1i.fSwitches (i64 (zH.fNode - ((z1i.fModules.length : Nat) : Int)))).fStore)) else zeF 0 1073741824 else zeE z7S
set_option maxRecDepth 20000 in
theorem y78 (Z : Zp) (zaO : Addr) (zlI : Option Addr) (zlJ : Nat) (zlK : Option Addr) (zlL : Nat) (zlM : Option Addr) (zlN : Nat) (zlO : Option Addr) (zlP : Nat) (zlQ : Option Addr) (zlR : Nat) (zlS : Option Addr) (zlT : Nat) (zlU : Option Addr) (zlV : Nat) (zlW : Option Addr) (zlX : Nat) (zlY : Option Addr) (zlZ : Nat) (zm0 : Option Addr) (zm1 : Nat) (z61 : Nat) (z2F : List (Snetwork_exit × ((Nat × (Option Addr × Nat)) × Sport_Port))) (zm2 : Option Addr) (zm3 : Nat) (zm4 : Option Addr) (zm5 : Nat) (zm6 : Option Addr) (zm7 : Nat) (z1i : Sapi_Config) (zez : List (List Sapi_Hop)) (zeA : List zSt) (z7S : List (Snetwork_exit × Sport_Port)) (zeB : List Snetwork_event) (zeC : List Sapi_Come) (zeD : List Sapi_Come) (zH : Sapi_Hop) (r : (List (Snetwork_exit × Sport_Port)))
     (h : y3a z1i zez zeA z7S zeB zeC zeD zH = some r) (w₀ : World) (hz : PZ (fps [y1e z61 (fun x=>Value.agg (y1Q x).toArray) Value.pointer (y1m z2F),y1l z15 z2F]) w₀ Z)
     (zws : ZS Z 4 (y2x Z) zlI zlJ z1i.fModules)
     (zwt : ZS Z 4 (y2S Z) zlK zlL z1i.fChannels)
     (zm8 : ZS Z 4 (fun r x=>r = e64 x) zlM zlN z1i.fSwitches)
     (zr8 : ZS Z 4 (fun r x=>r = e62 x) zlO zlP z1i.fLinks)
     (zwu : ZS Z 7 (y2G Z) zlQ zlR z1i.fVLs)
     (zwv : ZS Z 5 (fun r x=>r = y37 x) zlS zlT z1i.fHealth)
     (zww : ZS Z 3 (y2T Z) zlU zlV z1i.fCauses)
     (zwx : ZS Z 4 (fun r x=>r = y38 x) zlW zlX z1i.fVersions)
     (zwy : ZS Z 1 (p55 Z) zlY zlZ zez)
     (zwz : ZS Z 3 (fun r x=>r = e53 x) zm0 zm1 zeA)
     (zhu : dat z2F = z7S)
     (zwA : ZS Z 7 (fun r x=>r = yx x) zm2 zm3 zeB)
     (zwB : ZS Z 3 (fun r x=>r = e50 x) zm4 zm5 zeC)
     (zwC : ZS Z 3 (fun r x=>r = e50 x) zm6 zm7 zeD)
     (z9o : ZC Z zaO [(.slice zlI z1i.fModules.length zlJ),(.slice zlK z1i.fChannels.length zlL),(.slice zlM z1i.fSwitches.length zlN),(.slice zlO z1i.fLinks.length zlP),(.slice zlQ z1i.fVLs.length zlR),(.slice zlS z1i.fHealth.length zlT),(.slice zlU z1i.fCauses.length zlV),(.slice zlW z1i.fVersions.length zlX),(.slice zlY zez.length zlZ),(.slice zm0 zeA.length zm1),(.map (some z61)),(.slice zm2 zeB.length zm3),(.slice zm4 zeC.length zm5),(.slice zm6 zeD.length zm7)])
    (hown : Hp (fps [y1e z61 (fun x=>Value.agg (y1Q x).toArray) Value.pointer (y1m z2F),y1l z15 z2F]) w₀ w₀ [y1e z61 (fun x=>Value.agg (y1Q x).toArray) Value.pointer (y1m z2F),y1l z15 z2F]) :
    Calls Try.prog 40 #[(.pointer (some zaO)),(.agg #[(.int .i64 zH.fNode),(.int .i64 zH.fNext),(.int .i64 zH.fLink)])] w₀ fun e w'=>∃ zeG : List (Snetwork_exit × ((Nat × (Option Addr × Nat)) × Sport_Port)),e = .returned (.pointer (yw (y1m zeG) (⟨zH.fNode,zH.fLink⟩ : Snetwork_exit) (none : Option Addr))) ∧ (dat zeG = r) ∧ Hp (fps [y1e z61 (fun x=>Value.agg (y1Q x).toArray) Value.pointer (y1m z2F),y1l z15 z2F]) w₀ w' [y1e z61 (fun x=>Value.agg (y1Q x).toArray) Value.pointer (y1m zeG),y1l z15 zeG]:=by
  unfold y3a at h
  refine Calls.yl (vs:=[(.pointer (some zaO)),(.agg #[(.int .i64 zH.fNode),(.int .i64 zH.fNext),(.int .i64 zH.fLink)])]) (pre:=[y1e z61 (fun x=>Value.agg (y1Q x).toArray) Value.pointer (y1m z2F),y1l z15 z2F]) (env:=[(0,(.pointer (some zaO))),(1,(.agg #[(.int .i64 zH.fNode),(.int .i64 zH.fNext),(.int .i64 zH.fLink)]))]) Try.func40 rfl Try.ntmps40 rfl (hown) rfl ?_
  refine WC.b (WC.a ?_)
  refine WL.new (dd:=3) rfl rfl rfl (y2g (cs:=[(.int .i64 zH.fNode),(.int .i64 zH.fNext),(.int .i64 zH.fLink)]) rfl rfl) ?_
  intro zhv _
  refine WL.pu rfl (WL.nil (WX.a (WC.b (WC.a ?_))))
  refine WL.a (d:=9) rfl rfl rfl (ya y3q rfl rfl) ?_
  refine WL.a (d:=10) rfl rfl rfl (yb yf rfl (ye .here rfl)) ?_
  refine WL.a (d:=11) rfl rfl rfl (ya y6R rfl rfl) ?_
  refine WL.a (d:=12) rfl rfl rfl (yb yf rfl (ye .here rfl)) ?_
  refine WL.a (d:=13) rfl rfl rfl (y1B (v:=(.agg #[(.int .i64 zH.fNode),(.int .i64 zH.fLink)])) (Eos.parts (l:=[.tmp 10,.tmp 12]) (.cons rfl (.cons rfl .nil)) [0,1]) (fun _=>by kernel_rfl)) ?_
  refine WL.new (dd:=5) rfl rfl rfl (y2u (cs:=[(.int .i64 0),(.int .i64 0)]) znV rfl) ?_
  intro zdg _
  refine WL.y1o rfl rfl (y22 znW rfl rfl rfl .here rfl rfl rfl) ?_
  refine WL.nil (WX.a ?_)
  obtain ⟨zeE,zr9,h⟩:=y19 h
  refine WC.y2R (fun (z7T : List (Snetwork_exit × Sport_Port)) (z9p : List (Snetwork_exit × ((Nat × (Option Addr × Nat)) × Sport_Port)))=>(zeE z7T = some r) ∧ (dat z9p = z7T)) (fun (z7T : List (Snetwork_exit × Sport_Port)) (z9p : List (Snetwork_exit × ((Nat × (Option Addr × Nat)) × Sport_Port)))=>[(0,(.pointer (some zaO))),(5,(.pointer (some ⟨zdg,0,none⟩)))]) (fun (z7T : List (Snetwork_exit × Sport_Port)) (z9p : List (Snetwork_exit × ((Nat × (Option Addr × Nat)) × Sport_Port)))=>[stb zdg 136 [(.int .i64 zH.fNode),(.int .i64 zH.fLink)],y1e z61 (fun x=>Value.agg (y1Q x).toArray) Value.pointer (y1m z9p),y1l z15 z9p]) ?_ ?_
  · skip
    refine WC.b ?_
    refine WC.yZ (fun i=>[].contains i) [] rfl ?_
    refine WD.a (i:=0) (d:=14) (by kernel_rfl) rfl (z2 (by kernel_rfl)) (z3 (by kernel_rfl)) rfl rfl rfl (fun _=>q_m rfl) ?_
    refine WD.a (i:=1) (d:=15) (by kernel_rfl) rfl (z2 (by kernel_rfl)) (z3 (by kernel_rfl)) rfl rfl rfl (fun _=>yt rfl) ?_
    refine WD.a (i:=2) (d:=16) (by kernel_rfl) rfl (z2 (by kernel_rfl)) (z3 (by kernel_rfl)) rfl rfl rfl (fun _=>ya y7I rfl rfl) ?_
    refine WD.e (i:=3) (d:=17) (by kernel_rfl) rfl (z2 (by kernel_rfl)) (z3 (by kernel_rfl)) rfl rfl rfl (yb y7J rfl (y2e hz.pv z9o rfl)) ?_
    refine WD.e (i:=4) (d:=18) (by kernel_rfl) rfl (z2 (by kernel_rfl)) (z3 (by kernel_rfl)) rfl rfl rfl (yF zfQ rfl (y1i .here) rfl) ?_
    refine WD.e (i:=5) (d:=19) (by kernel_rfl) rfl (z2 (by kernel_rfl)) (z3 (by kernel_rfl)) rfl rfl rfl (y4t (k:=(⟨zH.fNode,zH.fLink⟩ : Snetwork_exit)) (dflt:=(none : Option Addr)) zfR Try.underlying77 zjB rfl rfl rfl .h2) ?_
    refine WD.a (i:=6) (d:=20) (by kernel_rfl) rfl (z2 (by kernel_rfl)) (z3 (by kernel_rfl)) rfl rfl rfl (fun _=>q_eqlPN zhu Try.underlying116 rfl rfl) ?_
    refine WD.done (by kernel_rfl) ?_
    refine WX.a ?_
    refine WC.cond rfl (fun zhw=>?_) (fun zhw=>?_)
    · replace h:=ym h zhw
      refine WC.b (WC.a (WL.pu rfl (WL.pu rfl (WL.nil (WX.a ?_)))))
      obtain ⟨zeF,zra,h⟩:=y3m h
      refine WC.y2R (fun (z7U : Int) (z7V : Int)=>(zeF z7U z7V = some r)) (fun (z7U : Int) (z7V : Int)=>[(0,(.pointer (some zaO))),(3,(.pointer (some ⟨zhv,0,none⟩))),(5,(.pointer (some ⟨zdg,0,none⟩))),(6,(.int .i64 z7U)),(7,(.int .i64 z7V))]) (fun (z7U : Int) (z7V : Int)=>[stb zhv 59 [(.int .i64 zH.fNode),(.int .i64 zH.fNext),(.int .i64 zH.fLink)],stb zdg 136 [(.int .i64 zH.fNode),(.int .i64 zH.fLink)],y1e z61 (fun x=>Value.agg (y1Q x).toArray) Value.pointer (y1m z2F),y1l z15 z2F]) ?_ ?_
      · skip
        refine WC.b ?_
        refine WC.yZ (fun i=>[].contains i) [] rfl ?_
        refine WD.a (i:=0) (d:=21) (by kernel_rfl) rfl (z2 (by kernel_rfl)) (z3 (by kernel_rfl)) rfl rfl rfl (fun _=>ya y3q rfl rfl) ?_
        refine WD.e (i:=1) (d:=22) (by kernel_rfl) rfl (z2 (by kernel_rfl)) (z3 (by kernel_rfl)) rfl rfl rfl (yb yf rfl (ye .h1 rfl)) ?_
        refine WD.a (i:=2) (d:=23) (by kernel_rfl) rfl (z2 (by kernel_rfl)) (z3 (by kernel_rfl)) rfl rfl rfl (fun _=>q_m rfl) ?_
        refine WD.a (i:=3) (d:=24) (by kernel_rfl) rfl (z2 (by kernel_rfl)) (z3 (by kernel_rfl)) rfl rfl rfl (fun _=>yt rfl) ?_
        refine WD.a (i:=4) (d:=25) (by kernel_rfl) rfl (z2 (by kernel_rfl)) (z3 (by kernel_rfl)) rfl rfl rfl (fun _=>ya y5H rfl rfl) ?_
        refine WD.a (i:=5) (d:=26) (by kernel_rfl) rfl (z2 (by kernel_rfl)) (z3 (by kernel_rfl)) rfl rfl rfl (fun _=>ya y47 rfl rfl) ?_
        refine WD.e (i:=6) (d:=27) (by kernel_rfl) rfl (z2 (by kernel_rfl)) (z3 (by kernel_rfl)) rfl rfl rfl (yb y48 rfl (y2e hz.pv z9o rfl)) ?_
        refine WD.a (i:=7) (d:=28) (by kernel_rfl) rfl (z2 (by kernel_rfl)) (z3 (by kernel_rfl)) rfl rfl rfl (fun _=>yW Try.underlying22 rfl) ?_
        refine WD.a (i:=8) (d:=29) (by kernel_rfl) rfl (z2 (by kernel_rfl)) (z3 (by kernel_rfl)) rfl rfl rfl (fun _=>y4E rfl rfl rfl) ?_
        refine WD.a (i:=9) (d:=8) (by kernel_rfl) rfl (z2 (by kernel_rfl)) (z3 (by kernel_rfl)) rfl rfl rfl (fun _=>q_z rfl) ?_
        refine WD.done (by kernel_rfl) ?_
        refine WX.a (WC.b (WC.a (WL.pu rfl (WL.pu rfl (WL.nil (WX.a ?_))))))
        refine WC.cond rfl (fun zhx=>?_) (fun zhx=>?_)
        · replace h:=ym h zhx
          obtain ⟨zm9,h⟩:=yj h
          refine WC.yZ (fun i=>[].contains i) [] rfl ?_
          refine WD.a (i:=0) (d:=32) (by kernel_rfl) rfl (z2 (by kernel_rfl)) (z3 (by kernel_rfl)) rfl rfl rfl (fun _=>q_m rfl) ?_
          refine WD.a (i:=1) (d:=33) (by kernel_rfl) rfl (z2 (by kernel_rfl)) (z3 (by kernel_rfl)) rfl rfl rfl (fun _=>yt rfl) ?_
          refine WD.a (i:=2) (d:=34) (by kernel_rfl) rfl (z2 (by kernel_rfl)) (z3 (by kernel_rfl)) rfl rfl rfl (fun _=>ya y5H rfl rfl) ?_
          refine WD.a (i:=3) (d:=35) (by kernel_rfl) rfl (z2 (by kernel_rfl)) (z3 (by kernel_rfl)) rfl rfl rfl (fun _=>ya y4W rfl rfl) ?_
          refine WD.e (i:=4) (d:=36) (by kernel_rfl) rfl (z2 (by kernel_rfl)) (z3 (by kernel_rfl)) rfl rfl rfl (yb y4X rfl (y2e hz.pv z9o rfl)) ?_
          refine WD.a (i:=5) (d:=37) (by kernel_rfl) rfl (z2 (by kernel_rfl)) (z3 (by kernel_rfl)) rfl rfl rfl (fun _=>q_m rfl) ?_
          refine WD.znth (j:=6) (dd:=38) (by kernel_rfl) rfl (z2 (by kernel_rfl)) (z3 (by kernel_rfl)) rfl rfl (Z:=Z) (Pr:=(fun r x=>r = e64 x)) y6A rfl rfl zm8 zm9 ?_
          rintro zwD zwE zrb zwF rfl
          refine WD.a (i:=7) (d:=39) (by kernel_rfl) rfl (z2 (by kernel_rfl)) (z3 (by kernel_rfl)) rfl rfl rfl (fun _=>ya y7E rfl rfl) ?_
          refine WD.e (i:=8) (d:=40) (by kernel_rfl) rfl (z2 (by kernel_rfl)) (z3 (by kernel_rfl)) rfl rfl rfl (yb yf rfl (y2e hz.pv zrb rfl)) ?_
          refine WD.a (i:=9) (d:=41) (by kernel_rfl) rfl (z2 (by kernel_rfl)) (z3 (by kernel_rfl)) rfl rfl rfl (fun _=>q_m rfl) ?_
          refine WD.a (i:=10) (d:=42) (by kernel_rfl) rfl (z2 (by kernel_rfl)) (z3 (by kernel_rfl)) rfl rfl rfl (fun _=>yt rfl) ?_
          refine WD.a (i:=11) (d:=43) (by kernel_rfl) rfl (z2 (by kernel_rfl)) (z3 (by kernel_rfl)) rfl rfl rfl (fun _=>ya y5H rfl rfl) ?_
          refine WD.a (i:=12) (d:=44) (by kernel_rfl) rfl (z2 (by kernel_rfl)) (z3 (by kernel_rfl)) rfl rfl rfl (fun _=>ya y4W rfl rfl) ?_
          refine WD.e (i:=13) (d:=45) (by kernel_rfl) rfl (z2 (by kernel_rfl)) (z3 (by kernel_rfl)) rfl rfl rfl (yb y4X rfl (y2e hz.pv z9o rfl)) ?_
          refine WD.a (i:=14) (d:=46) (by kernel_rfl) rfl (z2 (by kernel_rfl)) (z3 (by kernel_rfl)) rfl rfl rfl (fun _=>q_m rfl) ?_
          refine WD.znth (j:=15) (dd:=47) (by kernel_rfl) rfl (z2 (by kernel_rfl)) (z3 (by kernel_rfl)) rfl rfl (Z:=Z) (Pr:=(fun r x=>r = e64 x)) y6A rfl rfl zm8 zm9 ?_
          rintro zwG zwH zrc zwI rfl
          refine WD.a (i:=16) (d:=48) (by kernel_rfl) rfl (z2 (by kernel_rfl)) (z3 (by kernel_rfl)) rfl rfl rfl (fun _=>ya y7F rfl rfl) ?_
          refine WD.e (i:=17) (d:=49) (by kernel_rfl) rfl (z2 (by kernel_rfl)) (z3 (by kernel_rfl)) rfl rfl rfl (yb yf rfl (y2e hz.pv zrc rfl)) ?_
          refine WD.a (i:=18) (d:=6) (by kernel_rfl) rfl (z2 (by kernel_rfl)) (z3 (by kernel_rfl)) rfl rfl rfl (fun _=>q_z rfl) ?_
          refine WD.a (i:=19) (d:=7) (by kernel_rfl) rfl (z2 (by kernel_rfl)) (z3 (by kernel_rfl)) rfl rfl rfl (fun _=>q_z rfl) ?_
          refine WD.done (by kernel_rfl) ?_
          exact WX.mid (G:=Int × Int) ⟨((nth z1i.fSwitches (i64 (zH.fNode - ((z1i.fModules.length : Nat) : Int)))).fDelay),((nth z1i.fSwitches (i64 (zH.fNode - ((z1i.fModules.length : Nat) : Int)))).fStore)⟩ h (.cons rfl (.cons rfl (.cons rfl (.cons rfl (.cons rfl .nil))))) (.cons .h1 (.cons .here (.cons .here (.cons .here .nil))))
        · replace h:=yn h zhx
          refine WC.skip ?_
          exact WX.mid (G:=Int × Int) ⟨0,1073741824⟩ h (.cons rfl (.cons rfl (.cons rfl (.cons rfl (.cons rfl .nil))))) (.cons .h1 (.cons .here (.cons .here (.cons .here .nil))))
      · rintro z7U z7V h
        replace h:=(zra z7U z7V).symm.trans h
        obtain ⟨zrd,h⟩:=yj h
        obtain ⟨z9n,zre,h⟩:=zf h
        refine WC.yZ (fun i=>[21].contains i) [] rfl ?_
        refine WD.a (i:=0) (d:=51) (by kernel_rfl) rfl (z2 (by kernel_rfl)) (z3 (by kernel_rfl)) rfl rfl rfl (fun _=>q_m rfl) ?_
        refine WD.a (i:=1) (d:=52) (by kernel_rfl) rfl (z2 (by kernel_rfl)) (z3 (by kernel_rfl)) rfl rfl rfl (fun _=>yt rfl) ?_
        refine WD.a (i:=2) (d:=53) (by kernel_rfl) rfl (z2 (by kernel_rfl)) (z3 (by kernel_rfl)) rfl rfl rfl (fun _=>ya y7I rfl rfl) ?_
        refine WD.e (i:=3) (d:=54) (by kernel_rfl) rfl (z2 (by kernel_rfl)) (z3 (by kernel_rfl)) rfl rfl rfl (yb y7J rfl (y2e hz.pv z9o rfl)) ?_
        refine WD.e (i:=4) (d:=55) (by kernel_rfl) rfl (z2 (by kernel_rfl)) (z3 (by kernel_rfl)) rfl rfl rfl (yF zfQ rfl (y1i .h1) rfl) ?_
        refine WD.a (i:=5) (d:=56) (by kernel_rfl) rfl (z2 (by kernel_rfl)) (z3 (by kernel_rfl)) rfl rfl rfl (fun _=>q_m rfl) ?_
        refine WD.a (i:=6) (d:=57) (by kernel_rfl) rfl (z2 (by kernel_rfl)) (z3 (by kernel_rfl)) rfl rfl rfl (fun _=>yt rfl) ?_
        refine WD.a (i:=7) (d:=58) (by kernel_rfl) rfl (z2 (by kernel_rfl)) (z3 (by kernel_rfl)) rfl rfl rfl (fun _=>ya y5H rfl rfl) ?_
        refine WD.a (i:=8) (d:=59) (by kernel_rfl) rfl (z2 (by kernel_rfl)) (z3 (by kernel_rfl)) rfl rfl rfl (fun _=>ya y6K rfl rfl) ?_
        refine WD.e (i:=9) (d:=60) (by kernel_rfl) rfl (z2 (by kernel_rfl)) (z3 (by kernel_rfl)) rfl rfl rfl (yb y6L rfl (y2e hz.pv z9o rfl)) ?_
        refine WD.a (i:=10) (d:=61) (by kernel_rfl) rfl (z2 (by kernel_rfl)) (z3 (by kernel_rfl)) rfl rfl rfl (fun _=>ya y6R rfl rfl) ?_
        refine WD.e (i:=11) (d:=62) (by kernel_rfl) rfl (z2 (by kernel_rfl)) (z3 (by kernel_rfl)) rfl rfl rfl (yb yf rfl (ye .here rfl)) ?_
        refine WD.znth (j:=12) (dd:=63) (by kernel_rfl) rfl (z2 (by kernel_rfl)) (z3 (by kernel_rfl)) rfl rfl (Z:=Z) (Pr:=(fun r x=>r = e62 x)) y8r rfl rfl zr8 zrd ?_
        rintro zwJ zwK zrf zwL rfl
        refine WD.a (i:=13) (d:=64) (by kernel_rfl) rfl (z2 (by kernel_rfl)) (z3 (by kernel_rfl)) rfl rfl rfl (fun _=>ya y7D rfl rfl) ?_
        refine WD.e (i:=14) (d:=65) (by kernel_rfl) rfl (z2 (by kernel_rfl)) (z3 (by kernel_rfl)) rfl rfl rfl (yb yf rfl (y2e hz.pv zrf rfl)) ?_
        refine WD.a (i:=15) (d:=66) (by kernel_rfl) rfl (z2 (by kernel_rfl)) (z3 (by kernel_rfl)) rfl rfl rfl (fun _=>q_m rfl) ?_
        refine WD.a (i:=16) (d:=67) (by kernel_rfl) rfl (z2 (by kernel_rfl)) (z3 (by kernel_rfl)) rfl rfl rfl (fun _=>q_m rfl) ?_
        refine WD.call3 (i:=17) (dd:=68) rfl (by kernel_rfl) rfl rfl rfl (.inr rfl) (zy (l:=[.tmp 65,.tmp 66,.tmp 67]) Try.call52 (.cons rfl (.cons rfl (.cons rfl .nil)))) .nil (cc hz .nil fun w pz ho=>y9o _ _ _ _ _ zre w pz ) ?_
        rintro zdh zeH zeI _
        refine WD.a (i:=18) (d:=50) (by kernel_rfl) rfl (z2 (by kernel_rfl)) (z3 (by kernel_rfl)) rfl rfl rfl (fun _=>q_m rfl) ?_
        refine WD.a (i:=19) (d:=69) (by kernel_rfl) rfl (z2 (by kernel_rfl)) (z3 (by kernel_rfl)) rfl rfl rfl (fun _=>y4G rfl rfl) ?_
        refine WD.a (i:=20) (d:=70) (by kernel_rfl) rfl (z2 (by kernel_rfl)) (z3 (by kernel_rfl)) rfl rfl rfl (fun _=>y4G rfl rfl) ?_
        refine WD.forced0 (i:=21) rfl (by kernel_rfl) rfl rfl rfl (Sin.of .nil) (y5r (k:=(⟨zH.fNode,zH.fLink⟩ : Snetwork_exit)) (v:=(some ⟨zdh,0,none⟩ : Option Addr)) zfR Try.underlying77 rfl rfl rfl rfl .h4) ?_
        refine WD.ghL (fun _ h=>Hp.y9m (els:=z15) (k:=(⟨zH.fNode,zH.fLink⟩ : Snetwork_exit)) (b:=zdh) (g:=(zeH,zeI)) (x:=z9n) .h5 (.cons .h1 (.cons .h1 .nil)) h) ?_
        refine WD.ghL (M:=[y1e z61 (fun x=>Value.agg (y1Q x).toArray) Value.pointer (y1m (y12 z2F (⟨zH.fNode,zH.fLink⟩ : Snetwork_exit) ((zdh,(zeH,zeI)),z9n))),y1l z15 (y12 z2F (⟨zH.fNode,zH.fLink⟩ : Snetwork_exit) ((zdh,(zeH,zeI)),z9n)),stb zhv 59 [(.int .i64 zH.fNode),(.int .i64 zH.fNext),(.int .i64 zH.fLink)],stb zdg 136 [(.int .i64 zH.fNode),(.int .i64 zH.fLink)]]) (fun _ h=>Hp.y8o .h1 (y81 _ _ _ _ _).symm h) ?_
        refine WD.done (by kernel_rfl) ?_
        exact WX.mid (G:=(List (Snetwork_exit × Sport_Port)) × (List (Snetwork_exit × ((Nat × (Option Addr × Nat)) × Sport_Port)))) ⟨(y12 z7S (⟨zH.fNode,zH.fLink⟩ : Snetwork_exit) z9n),(y12 z2F (⟨zH.fNode,zH.fLink⟩ : Snetwork_exit) ((zdh,(zeH,zeI)),z9n))⟩ ⟨h,(y61 zhu _ _ _)⟩ (.cons rfl (.cons rfl .nil)) (.cons .h3 (.cons .here (.cons .here .nil)))
    · replace h:=yn h zhw
      refine WC.skip ?_
      exact WX.mid (G:=(List (Snetwork_exit × Sport_Port)) × (List (Snetwork_exit × ((Nat × (Option Addr × Nat)) × Sport_Port)))) ⟨z7S,z2F⟩ ⟨h,zhu⟩ (.cons rfl (.cons rfl .nil)) (.cons .here (.cons .h1 (.cons .h1 .nil)))
  · rintro z7T z9p ⟨h,zrg⟩
    replace h:=(zr9 z7T).symm.trans h
    refine WC.b ?_
    refine WC.yZ (fun i=>[].contains i) [] rfl ?_
    refine WD.a (i:=0) (d:=71) (by kernel_rfl) rfl (z2 (by kernel_rfl)) (z3 (by kernel_rfl)) rfl rfl rfl (fun _=>q_m rfl) ?_
    refine WD.a (i:=1) (d:=72) (by kernel_rfl) rfl (z2 (by kernel_rfl)) (z3 (by kernel_rfl)) rfl rfl rfl (fun _=>yt rfl) ?_
    refine WD.a (i:=2) (d:=73) (by kernel_rfl) rfl (z2 (by kernel_rfl)) (z3 (by kernel_rfl)) rfl rfl rfl (fun _=>ya y7I rfl rfl) ?_
    refine WD.e (i:=3) (d:=74) (by kernel_rfl) rfl (z2 (by kernel_rfl)) (z3 (by kernel_rfl)) rfl rfl rfl (yb y7J rfl (y2e hz.pv z9o rfl)) ?_
    refine WD.e (i:=4) (d:=75) (by kernel_rfl) rfl (z2 (by kernel_rfl)) (z3 (by kernel_rfl)) rfl rfl rfl (yF zfQ rfl (y1i .here) rfl) ?_
    refine WD.e (i:=5) (d:=76) (by kernel_rfl) rfl (z2 (by kernel_rfl)) (z3 (by kernel_rfl)) rfl rfl rfl (y4t (k:=(⟨zH.fNode,zH.fLink⟩ : Snetwork_exit)) (dflt:=(none : Option Addr)) zfR Try.underlying77 zjB rfl rfl rfl .h1) ?_
    refine WD.a (i:=6) (d:=4) (by kernel_rfl) rfl (z2 (by kernel_rfl)) (z3 (by kernel_rfl)) rfl rfl rfl (fun _=>q_z rfl) ?_
    refine WD.done (by kernel_rfl) ?_
    refine WX.a (WC.ret ?_)
    obtain rfl:=Option.some.inj h
    refine WX.yh Try.results40 (.tmp rfl .nil) (fun w hw=>?_)
    exact ⟨z9p,y10 rfl,zrg,hw.sub (.cons .h1 (.cons .h1 .nil))⟩
def y2D (z62 : Sport_Port) : Option Bool :=
  some (decide (z62.fNumbers.fSlow = 0))
set_option maxRecDepth 20000 in
theorem y5d (Z : Zp) (zeJ : Addr) (zma : Option Addr) (zmb : Nat) (z62 : Sport_Port) (r : Bool)
     (h : y2D z62 = some r) (w₀ : World) (hz : PZ [] w₀ Z)
     (zwM : ZS Z 2 (fun r x=>r = y1Y x) zma zmb z62.fFrames)
     (zrh : ZC Z zeJ [(.int .i64 z62.fNumbers.fSlow),(.int .i64 z62.fNumbers.fDelay),(.int .i64 z62.fNumbers.fStore),(.int .i64 z62.fNow),(.int .i64 z62.fLast),(.slice zma z62.fFrames.length zmb)]) :
    Calls Try.prog 53 #[(.pointer (some zeJ))] w₀ fun e w'=>e = .returned (.bool r) ∧ Hp [] w₀ w' []:=by
  unfold y2D at h
  refine Calls.yl (vs:=[(.pointer (some zeJ))]) (pre:=[]) (env:=[(0,(.pointer (some zeJ)))]) Try.func53 rfl Try.ntmps53 rfl (Hp.nil w₀ _) rfl ?_
  refine WC.b (WC.a (WL.pu rfl (WL.nil (WX.a (WC.b (WC.a (WL.pu rfl ?_)))))))
  refine WL.a (d:=4) rfl rfl rfl (y8i Try.underlying116 rfl rfl) ?_
  refine WL.pu rfl (WL.pu rfl ?_)
  refine WL.a (d:=7) rfl rfl rfl (yt rfl) ?_
  refine WL.a (d:=8) rfl rfl rfl (ya y65 rfl rfl) ?_
  refine WL.a (d:=9) rfl rfl rfl (ya y8v rfl rfl) ?_
  refine WL.a (d:=10) rfl rfl rfl (yb yf rfl (y2e hz.pv zrh rfl)) ?_
  refine WL.pu rfl (WL.pu rfl (WL.pu rfl (WL.nil (WX.a (WC.ret ?_)))))
  obtain rfl:=Option.some.inj h
  refine WX.yh Try.results53 (.tmp rfl .nil) (fun w hw=>?_)
  exact ⟨y10 rfl,hw.sub .nil⟩
def y2v (z4P : Sport_frame) (zeK : Int) : Option Bool :=
  some (decide (z4P.fFin ≤ zeK))
set_option maxRecDepth 20000 in
theorem y6W (Z : Zp) (zeL : Addr) (z4P : Sport_frame) (zeK : Int) (r : Bool)
     (h : y2v z4P zeK = some r) (w₀ : World) (hz : PZ [] w₀ Z)
     (zri : ZC Z zeL [(.int .i64 zeK)]) :
    Calls Try.prog 55 #[(.agg #[(.int .i64 z4P.fSize),(.int .i64 z4P.fFin)]),(.pointer (some zeL))] w₀ fun e w'=>e = .returned (.bool r) ∧ Hp [] w₀ w' []:=by
  unfold y2v at h
  refine Calls.yl (vs:=[(.agg #[(.int .i64 z4P.fSize),(.int .i64 z4P.fFin)]),(.pointer (some zeL))]) (pre:=[]) (env:=[(0,(.agg #[(.int .i64 z4P.fSize),(.int .i64 z4P.fFin)])),(1,(.pointer (some zeL)))]) Try.func55 rfl Try.ntmps55 rfl (Hp.nil w₀ _) rfl ?_
  refine WC.b (WC.a ?_)
  refine WL.new (dd:=2) rfl rfl rfl (y2g (cs:=[(.int .i64 z4P.fSize),(.int .i64 z4P.fFin)]) rfl rfl) ?_
  intro zwN _
  refine WL.pu rfl (WL.nil (WX.a (WC.b (WC.a ?_))))
  refine WL.a (d:=4) rfl rfl rfl (ya y8w rfl rfl) ?_
  refine WL.a (d:=5) rfl rfl rfl (yb yf rfl (ye .here rfl)) ?_
  refine WL.a (d:=6) rfl rfl rfl (yb yf rfl (rd_z hz.pv zri rfl)) ?_
  refine WL.pu rfl (WL.pu rfl (WL.nil (WX.a (WC.ret ?_))))
  obtain rfl:=Option.some.inj h
  refine WX.yh Try.results55 (.tmp rfl .nil) (fun w hw=>?_)
  exact ⟨y10 rfl,hw.sub .nil⟩
def yy (z24 : List Sport_frame) (z4Q : Sport_frame → Option Bool) (z6Z : Option Int) : Nat → Int → Option Int
  | 0,_=>none
  | zhy + 1,z2h=>if decide (z2h < ((z24.length : Nat) : Int)) then chk ((0 : Int) ≤ z2h ∧ z2h < ((z24.length : Nat) : Int)) ((z4Q (⟨((nth z24 z2h).fSize),((nth z24 z2h).fFin)⟩ : Sport_frame)).bind fun zhz=>if zhz then some z2h else yy z24 z4Q z6Z zhy (i64 (z2h + 1))) else z6Z
theorem y3b {n : Nat} {z24 : List Sport_frame} {z4Q : Sport_frame → Option Bool} {z6Z : Option Int} {z2h : Int} {r : Int} (h : yy z24 z4Q z6Z n z2h = some r) : ∃ m,n = m + 1:=by
  cases n with
  | zero=>cases h
  | succ m=>exact ⟨m,rfl⟩
def yT (z24 : List Sport_frame) (z4Q : Sport_frame → Option Bool) : Option Int :=
  jp0 (some (-1)) fun z6Z=>yy z24 z4Q z6Z yz 0
set_option maxRecDepth 20000 in
theorem y3J (Z : Zp) (zdi : Option Addr) (zdj : Nat) (z70 : FuncId) (z9q : List Value) (z24 : List Sport_frame) (z4Q : Sport_frame → Option Bool) (r : Int)
     (h : yT z24 z4Q = some r) (w₀ : World) (hz : PZ [] w₀ Z)
     (zrj : ZS Z 2 (fun r x=>r = y1Y x) zdi zdj z24)
     (zrk : ∀ args w,(callFunc z70 args).run Try.prog w = .ok (.enter z70 args) w)
     (zrl : ∀ w : World,PZ [] w Z → ∀ (x0 : Sport_frame) (r : Bool),z4Q x0 = some r → Calls Try.prog z70 (([(.agg #[(.int .i64 x0.fSize),(.int .i64 x0.fFin)])] : List Value) ++ z9q).toArray w fun e w'=>e = .returned (.bool r) ∧ Hp [] w w' []) :
    Calls Try.prog 63 #[(.slice zdi z24.length zdj),(.func (.func z70) #[] (z9q).toArray)] w₀ fun e w'=>e = .returned (.int .i64 r) ∧ Hp [] w₀ w' []:=by
  unfold yT at h
  refine Calls.yl (vs:=[(.slice zdi z24.length zdj),(.func (.func z70) #[] (z9q).toArray)]) (pre:=[]) (env:=[(0,(.slice zdi z24.length zdj)),(1,(.func (.func z70) #[] (z9q).toArray))]) Try.func63 rfl Try.ntmps63 rfl (Hp.nil w₀ _) rfl ?_
  refine WC.b (WC.a (WL.pu rfl (WL.nil (WX.a ?_))))
  obtain ⟨z6Z,zrm,h⟩:=y2P h
  refine WC.y2p ((z6Z = some r)) ([]) ([]) ?_ ?_
  · skip
    refine WC.b (WC.a (WL.pu rfl ?_))
    refine WL.a (d:=7) rfl rfl rfl (yW Try.underlying141 rfl) ?_
    refine WL.pu rfl (WL.nil (WX.a (WC.block ?_)))
    refine WC.y3Z (fun (zaP : Nat) (z2h : Int)=>(yy z24 z4Q z6Z zaP z2h = some r)) (fun (zaP : Nat) (z2h : Int)=>[(0,(.slice zdi z24.length zdj)),(1,(.func (.func z70) #[] (z9q).toArray)),(7,(.int .i64 ((z24.length : Nat) : Int))),(8,(.int .i64 z2h))]) (fun (zaP : Nat) (z2h : Int)=>[]) (fun (zaP : Nat) (z2h : Int)=>zaP) ⟨yz,0⟩ h (.cons rfl (.cons rfl (.cons rfl (.cons rfl .nil)))) .nil ?_
    rintro zaP z2h h
    obtain ⟨zhy,rfl⟩:=y3b h
    rw [yy] at h
    refine WC.b (WC.a (WL.pu rfl (WL.nil (WX.a (WC.b ?_)))))
    refine WC.cond rfl (fun zhA=>?_) (fun zhA=>?_)
    · replace h:=ym h zhA
      refine WC.skip (WX.a (WC.b (WC.block (WC.b (WC.a (WL.pu rfl (WL.pu rfl (WL.nil (WX.a (WC.b ?_))))))))))
      obtain ⟨zrn,h⟩:=yj h
      obtain ⟨zhz,zro,h⟩:=zf h
      refine WC.a (WL.pu rfl (WL.pu rfl (WL.pu rfl ?_)))
      refine WL.znth (dd:=14) rfl rfl (Z:=Z) (Pr:=(fun r x=>r = y1Y x)) z6q rfl rfl zrj zrn ?_
      rintro zwO zwP zrp zwQ rfl
      refine WL.a (d:=15) rfl rfl rfl (yF z9K rfl (y3G hz.pv zrp) rfl) ?_
      refine WL.b (dd:=16) rfl rfl rfl (y3E (l:=[.tmp 15]) (f:=z70) (caps:=z9q) zrk rfl (.cons rfl .nil)) .nil (fun w hw=>zrl w (hz.now hw) (⟨((nth z24 z2h).fSize),((nth z24 z2h).fFin)⟩ : Sport_frame) zhz  zro) ?_
      refine WL.nil (WX.a ?_)
      refine WC.cond rfl (fun zhB=>?_) (fun zhB=>?_)
      · replace h:=ym h zhB
        refine WC.b (WC.a (WL.pu rfl (WL.pu rfl (WL.nil (WX.a (WC.ret (WX.yK (WX.yi (WX.yi (WX.yK (WX.yi ?_)))))))))))
        obtain rfl:=Option.some.inj h
        refine WX.yh Try.results63 (.tmp rfl .nil) (fun w hw=>?_)
        exact ⟨y10 rfl,hw.sub .nil⟩
      · replace h:=yn h zhB
        refine WC.skip (WX.yg (WX.a (WC.a (WL.pu rfl (WL.pu rfl (WL.nil ?_))))))
        exact WX.round (G:=Nat × Int) ⟨zhy,(i64 (z2h + 1))⟩ h (Nat.lt_succ_self _) (.cons rfl (.cons rfl (.cons rfl (.cons rfl .nil)))) .nil
    · replace h:=yn h zhA
      refine WC.exit (WX.yd (WX.yd (WX.yA ?_)))
      exact WX.mid (G:=Unit) () h .nil .nil
  · rintro  h
    replace h:=zrm.symm.trans h
    refine WC.b (WC.a (WL.pu rfl (WL.nil (WX.a (WC.ret ?_)))))
    obtain rfl:=Option.some.inj h
    refine WX.yh Try.results63 (.tmp rfl .nil) (fun w hw=>?_)
    exact ⟨y10 rfl,hw.sub .nil⟩
end Go.Proofs.Ytinchjigeakocaa
