/- A part of this claim's proof: models of functions, walks, plain laws. No conditions. -/
import Derived.Test.YtinchjigeakocaaW31a
namespace Go.Proofs.Ytinchjigeakocaa
open Go Go.RowKit Sep
set_option linter.all false
set_option maxRecDepth 30000
set_option maxHeartbeats 4000000
def y1B (za : List zSt) (zE : Sapi_Config) (z6Q : Option Bool) : Nat → Int → Option Bool
  | 0,_=>none
  | zgt + 1,zf=>if decide (zf < ((za.length : Nat) : Int)) then chk ((0 : Int) ≤ zf ∧ zf < ((za.length : Nat) : Int)) (chk (((((((decide (((nth za zf).fTime) < 0)) || (decide (((nth za zf).fTime) > 536870912))) || (decide (((nth za zf).fVL) < 0))) || (decide (((nth za zf).fVL) ≥ ((zE.fVLs.length : Nat) : Int)))) || (decide (((nth za zf).fSize) < 1))) || (decide (((nth za zf).fSize) > 72))) = false → ((decide (zf > 0)) = true → ((0 : Int) ≤ (i64 (zf - 1)) ∧ (i64 (zf - 1)) < ((za.length : Nat) : Int)))) (if ((((((decide (((nth za zf).fTime) < 0)) || (decide (((nth za zf).fTime) > 536870912))) || (decide (((nth za zf).fVL) < 0))) || (decide (((nth za zf).fVL) ≥ ((zE.fVLs.length : Nat) : Int)))) || (decide (((nth za zf).fSize) < 1))) || (decide (((nth za zf).fSize) > 72))) || ((decide (zf > 0)) && (decide (((nth za (i64 (zf - 1))).fTime) > ((nth za zf).fTime)))) then some false else y1B za zE z6Q zgt (i64 (zf + 1)))) else z6Q
theorem y59 {n : Nat} {za : List zSt} {zE : Sapi_Config} {z6Q : Option Bool} {zf : Int} {r : Bool} (h : y1B za zE z6Q n zf = some r) : ∃ m,n = m + 1:=by
  cases n with
  | zero=>cases h
  | succ m=>exact ⟨m,rfl⟩
def y36 (zE : Sapi_Config) (za : List zSt) : Option Bool :=
  jp0 (some (decide (((za.length : Nat) : Int) ≤ 4000))) fun z6Q=>y1B za zE z6Q yA 0
set_option maxRecDepth 20000 in
theorem y74 (Z : Zp) (zag : Option Addr) (zah : Nat) (zai : Option Addr) (zaj : Nat) (zak : Option Addr) (zal : Nat) (zam : Option Addr) (zan : Nat) (zao : Option Addr) (zap : Nat) (zaq : Option Addr) (zar : Nat) (zas : Option Addr) (zat : Nat) (zau : Option Addr) (zav : Nat) (z1S : Option Addr) (z1T : Nat) (zE : Sapi_Config) (za : List zSt) (r : Bool)
     (h : y36 zE za = some r) (w₀ : World) (hz : PZ [] w₀ Z)
     (zvM : ZS Z 4 (y2x Z) zag zah zE.fModules)
     (zvN : ZS Z 4 (y2O Z) zai zaj zE.fChannels)
     (zvO : ZS Z 4 (fun r x=>r = e64 x) zak zal zE.fSwitches)
     (zvP : ZS Z 4 (fun r x=>r = e62 x) zam zan zE.fLinks)
     (zvQ : ZS Z 7 (y2F Z) zao zap zE.fVLs)
     (zvR : ZS Z 5 (fun r x=>r = y34 x) zaq zar zE.fHealth)
     (zvS : ZS Z 3 (y2P Z) zas zat zE.fCauses)
     (zvT : ZS Z 4 (fun r x=>r = y35 x) zau zav zE.fVersions)
     (zkV : ZS Z 3 (fun r x=>r = e53 x) z1S z1T za) :
    Calls Try.prog 24 #[(.agg #[(.slice zag zE.fModules.length zah),(.slice zai zE.fChannels.length zaj),(.slice zak zE.fSwitches.length zal),(.slice zam zE.fLinks.length zan),(.slice zao zE.fVLs.length zap),(.slice zaq zE.fHealth.length zar),(.slice zas zE.fCauses.length zat),(.slice zau zE.fVersions.length zav)]),(.slice z1S za.length z1T)] w₀ fun e w'=>e = .returned (.bool r) ∧ Hp [] w₀ w' []:=by
  unfold y36 at h
  refine Calls.yl (vs:=[(.agg #[(.slice zag zE.fModules.length zah),(.slice zai zE.fChannels.length zaj),(.slice zak zE.fSwitches.length zal),(.slice zam zE.fLinks.length zan),(.slice zao zE.fVLs.length zap),(.slice zaq zE.fHealth.length zar),(.slice zas zE.fCauses.length zat),(.slice zau zE.fVersions.length zav)]),(.slice z1S za.length z1T)]) (pre:=[]) (env:=[(0,(.agg #[(.slice zag zE.fModules.length zah),(.slice zai zE.fChannels.length zaj),(.slice zak zE.fSwitches.length zal),(.slice zam zE.fLinks.length zan),(.slice zao zE.fVLs.length zap),(.slice zaq zE.fHealth.length zar),(.slice zas zE.fCauses.length zat),(.slice zau zE.fVersions.length zav)])),(1,(.slice z1S za.length z1T))]) Try.func24 rfl Try.ntmps24 rfl (Hp.nil w₀ _) rfl ?_
  refine WC.b (WC.a ?_)
  refine WL.new (dd:=2) rfl rfl rfl (y2c (cs:=[(.slice zag zE.fModules.length zah),(.slice zai zE.fChannels.length zaj),(.slice zak zE.fSwitches.length zal),(.slice zam zE.fLinks.length zan),(.slice zao zE.fVLs.length zap),(.slice zaq zE.fHealth.length zar),(.slice zas zE.fCauses.length zat),(.slice zau zE.fVersions.length zav)]) rfl rfl) ?_
  intro z6R _
  refine WL.pu rfl (WL.nil (WX.a ?_))
  obtain ⟨z6Q,zpW,h⟩:=y2r h
  refine WC.y2d ((z6Q = some r)) ([(1,(.slice z1S za.length z1T))]) ([]) ?_ ?_
  · skip
    refine WC.b (WC.a (WL.pu rfl ?_))
    refine WL.a (d:=8) rfl rfl rfl (yZ Try.underlying33 rfl) ?_
    refine WL.pu rfl (WL.nil (WX.a (WC.block ?_)))
    refine WC.y3Z (fun (zaw : Nat) (zf : Int)=>(y1B za zE z6Q zaw zf = some r)) (fun (zaw : Nat) (zf : Int)=>[(1,(.slice z1S za.length z1T)),(2,(.pointer (some ⟨z6R,0,none⟩))),(7,(.slice z1S za.length z1T)),(8,(.int .i64 ((za.length : Nat) : Int))),(9,(.int .i64 zf))]) (fun (zaw : Nat) (zf : Int)=>[stb z6R 31 [(.slice zag zE.fModules.length zah),(.slice zai zE.fChannels.length zaj),(.slice zak zE.fSwitches.length zal),(.slice zam zE.fLinks.length zan),(.slice zao zE.fVLs.length zap),(.slice zaq zE.fHealth.length zar),(.slice zas zE.fCauses.length zat),(.slice zau zE.fVersions.length zav)]]) (fun (zaw : Nat) (zf : Int)=>zaw) ⟨yA,0⟩ h (.cons rfl (.cons rfl (.cons rfl (.cons rfl (.cons rfl .nil))))) (.cons .here .nil) ?_
    rintro zaw zf h
    obtain ⟨zgt,rfl⟩:=y59 h
    rw [y1B] at h
    refine WC.b (WC.a (WL.pu rfl (WL.nil (WX.a (WC.b ?_)))))
    refine WC.cond rfl (fun zgu=>?_) (fun zgu=>?_)
    · replace h:=ym h zgu
      refine WC.skip (WX.a (WC.b (WC.block (WC.b ?_))))
      obtain ⟨zpX,h⟩:=yj h
      refine WC.a (WL.pu rfl ?_)
      refine WL.znth (dd:=12) rfl rfl (Z:=Z) (Pr:=(fun r x=>r = e53 x)) y4o rfl rfl zkV zpX ?_
      rintro zvU zvV zpY zvW rfl
      refine WL.a (d:=13) rfl rfl rfl (yH y6L rfl (y3F hz.pv zpY) rfl) ?_
      refine WL.new (dd:=6) rfl rfl rfl (y23 (cs:=[(.int .i64 0),(.int .i64 0),(.int .i64 0)]) y61 rfl) ?_
      intro zd0 _
      refine WL.pu rfl ?_
      refine WL.y1l rfl rfl (y1D y6M rfl rfl rfl .here rfl rfl rfl) ?_
      refine WL.nil (WX.a (WC.b ?_))
      obtain ⟨zpZ,h⟩:=yj h
      refine WC.yV (fun i=>[].contains i) [] rfl ?_
      refine WD.a (i:=0) (d:=14) (by kernel_rfl) rfl (z2 (by kernel_rfl)) (z3 (by kernel_rfl)) rfl rfl rfl (fun _=>ya y3Q rfl rfl) ?_
      refine WD.e (i:=1) (d:=15) (by kernel_rfl) rfl (z2 (by kernel_rfl)) (z3 (by kernel_rfl)) rfl rfl rfl (yb ye rfl (yc .here rfl)) ?_
      refine WD.a (i:=2) (d:=16) (by kernel_rfl) rfl (z2 (by kernel_rfl)) (z3 (by kernel_rfl)) rfl rfl rfl (fun _=>y3h rfl rfl) ?_
      refine WD.a (i:=3) (d:=17) (by kernel_rfl) rfl (z2 (by kernel_rfl)) (z3 (by kernel_rfl)) rfl rfl rfl (fun _=>q_m rfl) ?_
      refine WD.mid (fuel':=38) [(1,(.slice z1S za.length z1T)),(2,(.pointer (some ⟨z6R,0,none⟩))),(7,(.slice z1S za.length z1T)),(8,(.int .i64 ((za.length : Nat) : Int))),(9,(.int .i64 zf)),(6,(.pointer (some ⟨zd0,0,none⟩))),(5,(.int .i64 zf)),(17,(.bool (decide (((nth za zf).fTime) < 0)))),(21,(.bool ((decide (((nth za zf).fTime) < 0)) || (decide (((nth za zf).fTime) > 536870912)))))] (y1i 46 [7,6,5,4,3,2,1,0]) ?_ (fun zkW=>?_)
      rotate_left
      · rcases Bool.eq_false_or_eq_true (decide (((nth za zf).fTime) < 0)) with hb' | hb'
        · have zgv:=hb'; clear hb'
          refine WD.pin (i:=17) rfl zgv ?_
          refine WD.b (i:=4) (d:=18) (by kernel_rfl) rfl (z2 (by kernel_rfl)) (z3 (by kernel_rfl)) rfl rfl rfl ?_
          refine WD.b (i:=5) (d:=19) (by kernel_rfl) rfl (z2 (by kernel_rfl)) (z3 (by kernel_rfl)) rfl rfl rfl ?_
          refine WD.b (i:=6) (d:=20) (by kernel_rfl) rfl (z2 (by kernel_rfl)) (z3 (by kernel_rfl)) rfl rfl rfl ?_
          refine WD.a (i:=7) (d:=21) (by kernel_rfl) rfl (z2 (by kernel_rfl)) (z3 (by kernel_rfl)) rfl rfl rfl (fun _=>y1b rfl rfl) ?_
          refine WD.yE (.cons .here (.cons .here .nil)) ?_ zkW
          exact (.cons rfl (.cons rfl (.cons rfl (.cons rfl (.cons rfl (.cons rfl (.cons rfl (.cons (zh (Eq.symm zgv)) (.cons (zh (y1X zgv)) .nil)))))))))
        · have zgw:=hb'; clear hb'
          refine WD.pin (i:=17) rfl zgw ?_
          refine WD.a (i:=4) (d:=18) (by kernel_rfl) rfl (z2 (by kernel_rfl)) (z3 (by kernel_rfl)) rfl rfl rfl (fun _=>ya y3Q rfl rfl) ?_
          refine WD.e (i:=5) (d:=19) (by kernel_rfl) rfl (z2 (by kernel_rfl)) (z3 (by kernel_rfl)) rfl rfl rfl (yb ye rfl (yc .here rfl)) ?_
          refine WD.a (i:=6) (d:=20) (by kernel_rfl) rfl (z2 (by kernel_rfl)) (z3 (by kernel_rfl)) rfl rfl rfl (fun _=>y3a rfl rfl) ?_
          refine WD.a (i:=7) (d:=21) (by kernel_rfl) rfl (z2 (by kernel_rfl)) (z3 (by kernel_rfl)) rfl rfl rfl (fun _=>y1c rfl rfl) ?_
          refine WD.yE (.cons .here (.cons .here .nil)) ?_ zkW
          exact (.cons rfl (.cons rfl (.cons rfl (.cons rfl (.cons rfl (.cons rfl (.cons rfl (.cons (zh (Eq.symm zgw)) (.cons (zh (y1Y zgw)) .nil)))))))))
      refine WD.d #[true,true,true,true,true,true,true,true,false,false,false,false,false,false,false,false,false,false,false,false,false,false,false,false,false,false,false,false,false,false,false,false,false,false,false,false,false,false,false,false,false,false,false,false,false,false] (by kernel_rfl) ?_
      refine WD.a (i:=8) (d:=22) (by kernel_rfl) rfl (z2 (by kernel_rfl)) (z3 (by kernel_rfl)) rfl rfl rfl (fun _=>q_m rfl) ?_
      refine WD.mid (fuel':=33) [(1,(.slice z1S za.length z1T)),(2,(.pointer (some ⟨z6R,0,none⟩))),(7,(.slice z1S za.length z1T)),(8,(.int .i64 ((za.length : Nat) : Int))),(9,(.int .i64 zf)),(6,(.pointer (some ⟨zd0,0,none⟩))),(5,(.int .i64 zf)),(22,(.bool ((decide (((nth za zf).fTime) < 0)) || (decide (((nth za zf).fTime) > 536870912))))),(26,(.bool (((decide (((nth za zf).fTime) < 0)) || (decide (((nth za zf).fTime) > 536870912))) || (decide (((nth za zf).fVL) < 0)))))] (y1i 46 [12,11,10,9,8,7,6,5,4,3,2,1,0]) ?_ (fun zkX=>?_)
      rotate_left
      · rcases Bool.eq_false_or_eq_true ((decide (((nth za zf).fTime) < 0)) || (decide (((nth za zf).fTime) > 536870912))) with hb' | hb'
        · have zgx:=hb'; clear hb'
          refine WD.pin (i:=22) rfl zgx ?_
          refine WD.b (i:=9) (d:=23) (by kernel_rfl) rfl (z2 (by kernel_rfl)) (z3 (by kernel_rfl)) rfl rfl rfl ?_
          refine WD.b (i:=10) (d:=24) (by kernel_rfl) rfl (z2 (by kernel_rfl)) (z3 (by kernel_rfl)) rfl rfl rfl ?_
          refine WD.b (i:=11) (d:=25) (by kernel_rfl) rfl (z2 (by kernel_rfl)) (z3 (by kernel_rfl)) rfl rfl rfl ?_
          refine WD.a (i:=12) (d:=26) (by kernel_rfl) rfl (z2 (by kernel_rfl)) (z3 (by kernel_rfl)) rfl rfl rfl (fun _=>y1b rfl rfl) ?_
          refine WD.yE (.cons .here (.cons .here .nil)) ?_ zkX
          exact (.cons rfl (.cons rfl (.cons rfl (.cons rfl (.cons rfl (.cons rfl (.cons rfl (.cons (zh (Eq.symm zgx)) (.cons (zh (y1X zgx)) .nil)))))))))
        · have zgy:=hb'; clear hb'
          refine WD.pin (i:=22) rfl zgy ?_
          refine WD.a (i:=9) (d:=23) (by kernel_rfl) rfl (z2 (by kernel_rfl)) (z3 (by kernel_rfl)) rfl rfl rfl (fun _=>ya y4g rfl rfl) ?_
          refine WD.e (i:=10) (d:=24) (by kernel_rfl) rfl (z2 (by kernel_rfl)) (z3 (by kernel_rfl)) rfl rfl rfl (yb ye rfl (yc .here rfl)) ?_
          refine WD.a (i:=11) (d:=25) (by kernel_rfl) rfl (z2 (by kernel_rfl)) (z3 (by kernel_rfl)) rfl rfl rfl (fun _=>y3h rfl rfl) ?_
          refine WD.a (i:=12) (d:=26) (by kernel_rfl) rfl (z2 (by kernel_rfl)) (z3 (by kernel_rfl)) rfl rfl rfl (fun _=>y1c rfl rfl) ?_
          refine WD.yE (.cons .here (.cons .here .nil)) ?_ zkX
          exact (.cons rfl (.cons rfl (.cons rfl (.cons rfl (.cons rfl (.cons rfl (.cons rfl (.cons (zh (Eq.symm zgy)) (.cons (zh (y1Y zgy)) .nil)))))))))
      refine WD.d #[true,true,true,true,true,true,true,true,true,true,true,true,true,false,false,false,false,false,false,false,false,false,false,false,false,false,false,false,false,false,false,false,false,false,false,false,false,false,false,false,false,false,false,false,false,false] (by kernel_rfl) ?_
      refine WD.a (i:=13) (d:=27) (by kernel_rfl) rfl (z2 (by kernel_rfl)) (z3 (by kernel_rfl)) rfl rfl rfl (fun _=>q_m rfl) ?_
      refine WD.mid (fuel':=25) [(1,(.slice z1S za.length z1T)),(2,(.pointer (some ⟨z6R,0,none⟩))),(7,(.slice z1S za.length z1T)),(8,(.int .i64 ((za.length : Nat) : Int))),(9,(.int .i64 zf)),(6,(.pointer (some ⟨zd0,0,none⟩))),(5,(.int .i64 zf)),(27,(.bool (((decide (((nth za zf).fTime) < 0)) || (decide (((nth za zf).fTime) > 536870912))) || (decide (((nth za zf).fVL) < 0))))),(34,(.bool ((((decide (((nth za zf).fTime) < 0)) || (decide (((nth za zf).fTime) > 536870912))) || (decide (((nth za zf).fVL) < 0))) || (decide (((nth za zf).fVL) ≥ ((zE.fVLs.length : Nat) : Int))))))] (y1i 46 [20,19,18,17,16,15,14,13,12,11,10,9,8,7,6,5,4,3,2,1,0]) ?_ (fun zkY=>?_)
      rotate_left
      · rcases Bool.eq_false_or_eq_true (((decide (((nth za zf).fTime) < 0)) || (decide (((nth za zf).fTime) > 536870912))) || (decide (((nth za zf).fVL) < 0))) with hb' | hb'
        · have zgz:=hb'; clear hb'
          refine WD.pin (i:=27) rfl zgz ?_
          refine WD.b (i:=14) (d:=28) (by kernel_rfl) rfl (z2 (by kernel_rfl)) (z3 (by kernel_rfl)) rfl rfl rfl ?_
          refine WD.b (i:=15) (d:=29) (by kernel_rfl) rfl (z2 (by kernel_rfl)) (z3 (by kernel_rfl)) rfl rfl rfl ?_
          refine WD.b (i:=16) (d:=30) (by kernel_rfl) rfl (z2 (by kernel_rfl)) (z3 (by kernel_rfl)) rfl rfl rfl ?_
          refine WD.b (i:=17) (d:=31) (by kernel_rfl) rfl (z2 (by kernel_rfl)) (z3 (by kernel_rfl)) rfl rfl rfl ?_
          refine WD.b (i:=18) (d:=32) (by kernel_rfl) rfl (z2 (by kernel_rfl)) (z3 (by kernel_rfl)) rfl rfl rfl ?_
          refine WD.b (i:=19) (d:=33) (by kernel_rfl) rfl (z2 (by kernel_rfl)) (z3 (by kernel_rfl)) rfl rfl rfl ?_
          refine WD.a (i:=20) (d:=34) (by kernel_rfl) rfl (z2 (by kernel_rfl)) (z3 (by kernel_rfl)) rfl rfl rfl (fun _=>y1b rfl rfl) ?_
          refine WD.yE (.cons .here (.cons .here .nil)) ?_ zkY
          exact (.cons rfl (.cons rfl (.cons rfl (.cons rfl (.cons rfl (.cons rfl (.cons rfl (.cons (zh (Eq.symm zgz)) (.cons (zh (y1X zgz)) .nil)))))))))
        · have zgA:=hb'; clear hb'
          refine WD.pin (i:=27) rfl zgA ?_
          refine WD.a (i:=14) (d:=28) (by kernel_rfl) rfl (z2 (by kernel_rfl)) (z3 (by kernel_rfl)) rfl rfl rfl (fun _=>ya y4g rfl rfl) ?_
          refine WD.e (i:=15) (d:=29) (by kernel_rfl) rfl (z2 (by kernel_rfl)) (z3 (by kernel_rfl)) rfl rfl rfl (yb ye rfl (yc .here rfl)) ?_
          refine WD.a (i:=16) (d:=30) (by kernel_rfl) rfl (z2 (by kernel_rfl)) (z3 (by kernel_rfl)) rfl rfl rfl (fun _=>ya y6F rfl rfl) ?_
          refine WD.e (i:=17) (d:=31) (by kernel_rfl) rfl (z2 (by kernel_rfl)) (z3 (by kernel_rfl)) rfl rfl rfl (yb y6G rfl (yc .h1 rfl)) ?_
          refine WD.a (i:=18) (d:=32) (by kernel_rfl) rfl (z2 (by kernel_rfl)) (z3 (by kernel_rfl)) rfl rfl rfl (fun _=>yZ Try.underlying26 rfl) ?_
          refine WD.a (i:=19) (d:=33) (by kernel_rfl) rfl (z2 (by kernel_rfl)) (z3 (by kernel_rfl)) rfl rfl rfl (fun _=>q_geq rfl rfl) ?_
          refine WD.a (i:=20) (d:=34) (by kernel_rfl) rfl (z2 (by kernel_rfl)) (z3 (by kernel_rfl)) rfl rfl rfl (fun _=>y1c rfl rfl) ?_
          refine WD.yE (.cons .here (.cons .here .nil)) ?_ zkY
          exact (.cons rfl (.cons rfl (.cons rfl (.cons rfl (.cons rfl (.cons rfl (.cons rfl (.cons (zh (Eq.symm zgA)) (.cons (zh (y1Y zgA)) .nil)))))))))
      refine WD.d #[true,true,true,true,true,true,true,true,true,true,true,true,true,true,true,true,true,true,true,true,true,false,false,false,false,false,false,false,false,false,false,false,false,false,false,false,false,false,false,false,false,false,false,false,false,false] (by kernel_rfl) ?_
      refine WD.a (i:=21) (d:=35) (by kernel_rfl) rfl (z2 (by kernel_rfl)) (z3 (by kernel_rfl)) rfl rfl rfl (fun _=>q_m rfl) ?_
      refine WD.mid (fuel':=20) [(1,(.slice z1S za.length z1T)),(2,(.pointer (some ⟨z6R,0,none⟩))),(7,(.slice z1S za.length z1T)),(8,(.int .i64 ((za.length : Nat) : Int))),(9,(.int .i64 zf)),(6,(.pointer (some ⟨zd0,0,none⟩))),(5,(.int .i64 zf)),(35,(.bool ((((decide (((nth za zf).fTime) < 0)) || (decide (((nth za zf).fTime) > 536870912))) || (decide (((nth za zf).fVL) < 0))) || (decide (((nth za zf).fVL) ≥ ((zE.fVLs.length : Nat) : Int)))))),(39,(.bool (((((decide (((nth za zf).fTime) < 0)) || (decide (((nth za zf).fTime) > 536870912))) || (decide (((nth za zf).fVL) < 0))) || (decide (((nth za zf).fVL) ≥ ((zE.fVLs.length : Nat) : Int)))) || (decide (((nth za zf).fSize) < 1)))))] (y1i 46 [25,24,23,22,21,20,19,18,17,16,15,14,13,12,11,10,9,8,7,6,5,4,3,2,1,0]) ?_ (fun zkZ=>?_)
      rotate_left
      · rcases Bool.eq_false_or_eq_true ((((decide (((nth za zf).fTime) < 0)) || (decide (((nth za zf).fTime) > 536870912))) || (decide (((nth za zf).fVL) < 0))) || (decide (((nth za zf).fVL) ≥ ((zE.fVLs.length : Nat) : Int)))) with hb' | hb'
        · have zgB:=hb'; clear hb'
          refine WD.pin (i:=35) rfl zgB ?_
          refine WD.b (i:=22) (d:=36) (by kernel_rfl) rfl (z2 (by kernel_rfl)) (z3 (by kernel_rfl)) rfl rfl rfl ?_
          refine WD.b (i:=23) (d:=37) (by kernel_rfl) rfl (z2 (by kernel_rfl)) (z3 (by kernel_rfl)) rfl rfl rfl ?_
          refine WD.b (i:=24) (d:=38) (by kernel_rfl) rfl (z2 (by kernel_rfl)) (z3 (by kernel_rfl)) rfl rfl rfl ?_
          refine WD.a (i:=25) (d:=39) (by kernel_rfl) rfl (z2 (by kernel_rfl)) (z3 (by kernel_rfl)) rfl rfl rfl (fun _=>y1b rfl rfl) ?_
          refine WD.yE (.cons .here (.cons .here .nil)) ?_ zkZ
          exact (.cons rfl (.cons rfl (.cons rfl (.cons rfl (.cons rfl (.cons rfl (.cons rfl (.cons (zh (Eq.symm zgB)) (.cons (zh (y1X zgB)) .nil)))))))))
        · have zgC:=hb'; clear hb'
          refine WD.pin (i:=35) rfl zgC ?_
          refine WD.a (i:=22) (d:=36) (by kernel_rfl) rfl (z2 (by kernel_rfl)) (z3 (by kernel_rfl)) rfl rfl rfl (fun _=>ya y4W rfl rfl) ?_
          refine WD.e (i:=23) (d:=37) (by kernel_rfl) rfl (z2 (by kernel_rfl)) (z3 (by kernel_rfl)) rfl rfl rfl (yb ye rfl (yc .here rfl)) ?_
          refine WD.a (i:=24) (d:=38) (by kernel_rfl) rfl (z2 (by kernel_rfl)) (z3 (by kernel_rfl)) rfl rfl rfl (fun _=>y3h rfl rfl) ?_
          refine WD.a (i:=25) (d:=39) (by kernel_rfl) rfl (z2 (by kernel_rfl)) (z3 (by kernel_rfl)) rfl rfl rfl (fun _=>y1c rfl rfl) ?_
          refine WD.yE (.cons .here (.cons .here .nil)) ?_ zkZ
          exact (.cons rfl (.cons rfl (.cons rfl (.cons rfl (.cons rfl (.cons rfl (.cons rfl (.cons (zh (Eq.symm zgC)) (.cons (zh (y1Y zgC)) .nil)))))))))
      refine WD.d #[true,true,true,true,true,true,true,true,true,true,true,true,true,true,true,true,true,true,true,true,true,true,true,true,true,true,false,false,false,false,false,false,false,false,false,false,false,false,false,false,false,false,false,false,false,false] (by kernel_rfl) ?_
      refine WD.a (i:=26) (d:=40) (by kernel_rfl) rfl (z2 (by kernel_rfl)) (z3 (by kernel_rfl)) rfl rfl rfl (fun _=>q_m rfl) ?_
      refine WD.mid (fuel':=15) [(1,(.slice z1S za.length z1T)),(2,(.pointer (some ⟨z6R,0,none⟩))),(7,(.slice z1S za.length z1T)),(8,(.int .i64 ((za.length : Nat) : Int))),(9,(.int .i64 zf)),(6,(.pointer (some ⟨zd0,0,none⟩))),(5,(.int .i64 zf)),(40,(.bool (((((decide (((nth za zf).fTime) < 0)) || (decide (((nth za zf).fTime) > 536870912))) || (decide (((nth za zf).fVL) < 0))) || (decide (((nth za zf).fVL) ≥ ((zE.fVLs.length : Nat) : Int)))) || (decide (((nth za zf).fSize) < 1))))),(44,(.bool ((((((decide (((nth za zf).fTime) < 0)) || (decide (((nth za zf).fTime) > 536870912))) || (decide (((nth za zf).fVL) < 0))) || (decide (((nth za zf).fVL) ≥ ((zE.fVLs.length : Nat) : Int)))) || (decide (((nth za zf).fSize) < 1))) || (decide (((nth za zf).fSize) > 72)))))] (y1i 46 [30,29,28,27,26,25,24,23,22,21,20,19,18,17,16,15,14,13,12,11,10,9,8,7,6,5,4,3,2,1,0]) ?_ (fun zl0=>?_)
      rotate_left
      · rcases Bool.eq_false_or_eq_true (((((decide (((nth za zf).fTime) < 0)) || (decide (((nth za zf).fTime) > 536870912))) || (decide (((nth za zf).fVL) < 0))) || (decide (((nth za zf).fVL) ≥ ((zE.fVLs.length : Nat) : Int)))) || (decide (((nth za zf).fSize) < 1))) with hb' | hb'
        · have zgD:=hb'; clear hb'
          refine WD.pin (i:=40) rfl zgD ?_
          refine WD.b (i:=27) (d:=41) (by kernel_rfl) rfl (z2 (by kernel_rfl)) (z3 (by kernel_rfl)) rfl rfl rfl ?_
          refine WD.b (i:=28) (d:=42) (by kernel_rfl) rfl (z2 (by kernel_rfl)) (z3 (by kernel_rfl)) rfl rfl rfl ?_
          refine WD.b (i:=29) (d:=43) (by kernel_rfl) rfl (z2 (by kernel_rfl)) (z3 (by kernel_rfl)) rfl rfl rfl ?_
          refine WD.a (i:=30) (d:=44) (by kernel_rfl) rfl (z2 (by kernel_rfl)) (z3 (by kernel_rfl)) rfl rfl rfl (fun _=>y1b rfl rfl) ?_
          refine WD.yE (.cons .here (.cons .here .nil)) ?_ zl0
          exact (.cons rfl (.cons rfl (.cons rfl (.cons rfl (.cons rfl (.cons rfl (.cons rfl (.cons (zh (Eq.symm zgD)) (.cons (zh (y1X zgD)) .nil)))))))))
        · have zgE:=hb'; clear hb'
          refine WD.pin (i:=40) rfl zgE ?_
          refine WD.a (i:=27) (d:=41) (by kernel_rfl) rfl (z2 (by kernel_rfl)) (z3 (by kernel_rfl)) rfl rfl rfl (fun _=>ya y4W rfl rfl) ?_
          refine WD.e (i:=28) (d:=42) (by kernel_rfl) rfl (z2 (by kernel_rfl)) (z3 (by kernel_rfl)) rfl rfl rfl (yb ye rfl (yc .here rfl)) ?_
          refine WD.a (i:=29) (d:=43) (by kernel_rfl) rfl (z2 (by kernel_rfl)) (z3 (by kernel_rfl)) rfl rfl rfl (fun _=>y3a rfl rfl) ?_
          refine WD.a (i:=30) (d:=44) (by kernel_rfl) rfl (z2 (by kernel_rfl)) (z3 (by kernel_rfl)) rfl rfl rfl (fun _=>y1c rfl rfl) ?_
          refine WD.yE (.cons .here (.cons .here .nil)) ?_ zl0
          exact (.cons rfl (.cons rfl (.cons rfl (.cons rfl (.cons rfl (.cons rfl (.cons rfl (.cons (zh (Eq.symm zgE)) (.cons (zh (y1Y zgE)) .nil)))))))))
      refine WD.d #[true,true,true,true,true,true,true,true,true,true,true,true,true,true,true,true,true,true,true,true,true,true,true,true,true,true,true,true,true,true,true,false,false,false,false,false,false,false,false,false,false,false,false,false,false,false] (by kernel_rfl) ?_
      refine WD.a (i:=31) (d:=45) (by kernel_rfl) rfl (z2 (by kernel_rfl)) (z3 (by kernel_rfl)) rfl rfl rfl (fun _=>q_m rfl) ?_
      refine WD.mid (fuel':=0) [(1,(.slice z1S za.length z1T)),(2,(.pointer (some ⟨z6R,0,none⟩))),(7,(.slice z1S za.length z1T)),(8,(.int .i64 ((za.length : Nat) : Int))),(9,(.int .i64 zf)),(45,(.bool ((((((decide (((nth za zf).fTime) < 0)) || (decide (((nth za zf).fTime) > 536870912))) || (decide (((nth za zf).fVL) < 0))) || (decide (((nth za zf).fVL) ≥ ((zE.fVLs.length : Nat) : Int)))) || (decide (((nth za zf).fSize) < 1))) || (decide (((nth za zf).fSize) > 72))))),(59,(.bool (((((((decide (((nth za zf).fTime) < 0)) || (decide (((nth za zf).fTime) > 536870912))) || (decide (((nth za zf).fVL) < 0))) || (decide (((nth za zf).fVL) ≥ ((zE.fVLs.length : Nat) : Int)))) || (decide (((nth za zf).fSize) < 1))) || (decide (((nth za zf).fSize) > 72))) || ((decide (zf > 0)) && (decide (((nth za (i64 (zf - 1))).fTime) > ((nth za zf).fTime)))))))] (y1i 46 [45,44,43,42,41,40,39,38,37,36,35,34,33,32,31,30,29,28,27,26,25,24,23,22,21,20,19,18,17,16,15,14,13,12,11,10,9,8,7,6,5,4,3,2,1,0]) ?_ (fun zl1=>?_)
      rotate_left
      · rcases Bool.eq_false_or_eq_true ((((((decide (((nth za zf).fTime) < 0)) || (decide (((nth za zf).fTime) > 536870912))) || (decide (((nth za zf).fVL) < 0))) || (decide (((nth za zf).fVL) ≥ ((zE.fVLs.length : Nat) : Int)))) || (decide (((nth za zf).fSize) < 1))) || (decide (((nth za zf).fSize) > 72))) with hb' | hb'
        · have zgF:=hb'; clear hb'
          refine WD.pin (i:=45) rfl zgF ?_
          refine WD.b (i:=32) (d:=46) (by kernel_rfl) rfl (z2 (by kernel_rfl)) (z3 (by kernel_rfl)) rfl rfl rfl ?_
          refine WD.b (i:=33) (d:=47) (by kernel_rfl) rfl (z2 (by kernel_rfl)) (z3 (by kernel_rfl)) rfl rfl rfl ?_
          refine WD.b (i:=34) (d:=48) (by kernel_rfl) rfl (z2 (by kernel_rfl)) (z3 (by kernel_rfl)) rfl rfl rfl ?_
          refine WD.b (i:=35) (d:=49) (by kernel_rfl) rfl (z2 (by kernel_rfl)) (z3 (by kernel_rfl)) rfl rfl rfl ?_
          refine WD.b (i:=36) (d:=50) (by kernel_rfl) rfl (z2 (by kernel_rfl)) (z3 (by kernel_rfl)) rfl rfl rfl ?_
          refine WD.b (i:=37) (d:=51) (by kernel_rfl) rfl (z2 (by kernel_rfl)) (z3 (by kernel_rfl)) rfl rfl rfl ?_
          refine WD.b (i:=38) (d:=52) (by kernel_rfl) rfl (z2 (by kernel_rfl)) (z3 (by kernel_rfl)) rfl rfl rfl ?_
          refine WD.b (i:=39) (d:=53) (by kernel_rfl) rfl (z2 (by kernel_rfl)) (z3 (by kernel_rfl)) rfl rfl rfl ?_
          refine WD.b (i:=40) (d:=54) (by kernel_rfl) rfl (z2 (by kernel_rfl)) (z3 (by kernel_rfl)) rfl rfl rfl ?_
          refine WD.b (i:=41) (d:=55) (by kernel_rfl) rfl (z2 (by kernel_rfl)) (z3 (by kernel_rfl)) rfl rfl rfl ?_
          refine WD.b (i:=42) (d:=56) (by kernel_rfl) rfl (z2 (by kernel_rfl)) (z3 (by kernel_rfl)) rfl rfl rfl ?_
          refine WD.b (i:=43) (d:=57) (by kernel_rfl) rfl (z2 (by kernel_rfl)) (z3 (by kernel_rfl)) rfl rfl rfl ?_
          refine WD.b (i:=44) (d:=58) (by kernel_rfl) rfl (z2 (by kernel_rfl)) (z3 (by kernel_rfl)) rfl rfl rfl ?_
          refine WD.a (i:=45) (d:=59) (by kernel_rfl) rfl (z2 (by kernel_rfl)) (z3 (by kernel_rfl)) rfl rfl rfl (fun _=>y1b rfl rfl) ?_
          refine WD.yE (.cons .here (.cons .here .nil)) ?_ zl1
          exact (.cons rfl (.cons rfl (.cons rfl (.cons rfl (.cons rfl (.cons (zh (Eq.symm zgF)) (.cons (zh (y1X zgF)) .nil)))))))
        · have zef:=hb'; clear hb'
          have zq0:=zpZ zef
          refine WD.pin (i:=45) rfl zef ?_
          refine WD.a (i:=32) (d:=46) (by kernel_rfl) rfl (z2 (by kernel_rfl)) (z3 (by kernel_rfl)) rfl rfl rfl (fun _=>q_m rfl) ?_
          refine WD.a (i:=33) (d:=47) (by kernel_rfl) rfl (z2 (by kernel_rfl)) (z3 (by kernel_rfl)) rfl rfl rfl (fun _=>y3a rfl rfl) ?_
          refine WD.a (i:=34) (d:=48) (by kernel_rfl) rfl (z2 (by kernel_rfl)) (z3 (by kernel_rfl)) rfl rfl rfl (fun _=>q_m rfl) ?_
          refine WD.mid (fuel':=1) [(1,(.slice z1S za.length z1T)),(2,(.pointer (some ⟨z6R,0,none⟩))),(7,(.slice z1S za.length z1T)),(8,(.int .i64 ((za.length : Nat) : Int))),(9,(.int .i64 zf)),(45,(.bool false)),(48,(.bool (decide (zf > 0)))),(58,(.bool ((decide (zf > 0)) && (decide (((nth za (i64 (zf - 1))).fTime) > ((nth za zf).fTime))))))] (y1i 46 [44,43,42,41,40,39,38,37,36,35,34,33,32,31,30,29,28,27,26,25,24,23,22,21,20,19,18,17,16,15,14,13,12,11,10,9,8,7,6,5,4,3,2,1,0]) ?_ (fun zl2=>?_)
          rotate_left
          · rcases Bool.eq_false_or_eq_true (decide (zf > 0)) with hb' | hb'
            · have zeg:=hb'; clear hb'
              have zq1:=zq0 zeg
              refine WD.pin (i:=48) rfl zeg ?_
              refine WD.a (i:=35) (d:=49) (by kernel_rfl) rfl (z2 (by kernel_rfl)) (z3 (by kernel_rfl)) rfl rfl rfl (fun _=>q_m rfl) ?_
              refine WD.a (i:=36) (d:=50) (by kernel_rfl) rfl (z2 (by kernel_rfl)) (z3 (by kernel_rfl)) rfl rfl rfl (fun _=>q_m rfl) ?_
              refine WD.a (i:=37) (d:=51) (by kernel_rfl) rfl (z2 (by kernel_rfl)) (z3 (by kernel_rfl)) rfl rfl rfl (fun _=>y45 rfl rfl rfl) ?_
              refine WD.znth (j:=38) (dd:=52) (by kernel_rfl) rfl (z2 (by kernel_rfl)) (z3 (by kernel_rfl)) rfl rfl (Z:=Z) (Pr:=(fun r x=>r = e53 x)) y4o rfl rfl zkV zq1 ?_
              rintro zvX zvY zq2 zvZ rfl
              refine WD.a (i:=39) (d:=53) (by kernel_rfl) rfl (z2 (by kernel_rfl)) (z3 (by kernel_rfl)) rfl rfl rfl (fun _=>ya y3Q rfl rfl) ?_
              refine WD.e (i:=40) (d:=54) (by kernel_rfl) rfl (z2 (by kernel_rfl)) (z3 (by kernel_rfl)) rfl rfl rfl (yb ye rfl (y1G hz.pv zq2 rfl)) ?_
              refine WD.a (i:=41) (d:=55) (by kernel_rfl) rfl (z2 (by kernel_rfl)) (z3 (by kernel_rfl)) rfl rfl rfl (fun _=>ya y3Q rfl rfl) ?_
              refine WD.e (i:=42) (d:=56) (by kernel_rfl) rfl (z2 (by kernel_rfl)) (z3 (by kernel_rfl)) rfl rfl rfl (yb ye rfl (yc .here rfl)) ?_
              refine WD.a (i:=43) (d:=57) (by kernel_rfl) rfl (z2 (by kernel_rfl)) (z3 (by kernel_rfl)) rfl rfl rfl (fun _=>y3a rfl rfl) ?_
              refine WD.a (i:=44) (d:=58) (by kernel_rfl) rfl (z2 (by kernel_rfl)) (z3 (by kernel_rfl)) rfl rfl rfl (fun _=>y1b rfl rfl) ?_
              refine WD.yE (.cons .here (.cons .here .nil)) ?_ zl2
              exact (.cons rfl (.cons rfl (.cons rfl (.cons rfl (.cons rfl (.cons rfl (.cons (zh (Eq.symm zeg)) (.cons (zh (y2o zeg)) .nil))))))))
            · have zgG:=hb'; clear hb'
              refine WD.pin (i:=48) rfl zgG ?_
              refine WD.b (i:=35) (d:=49) (by kernel_rfl) rfl (z2 (by kernel_rfl)) (z3 (by kernel_rfl)) rfl rfl rfl ?_
              refine WD.b (i:=36) (d:=50) (by kernel_rfl) rfl (z2 (by kernel_rfl)) (z3 (by kernel_rfl)) rfl rfl rfl ?_
              refine WD.b (i:=37) (d:=51) (by kernel_rfl) rfl (z2 (by kernel_rfl)) (z3 (by kernel_rfl)) rfl rfl rfl ?_
              refine WD.b (i:=38) (d:=52) (by kernel_rfl) rfl (z2 (by kernel_rfl)) (z3 (by kernel_rfl)) rfl rfl rfl ?_
              refine WD.b (i:=39) (d:=53) (by kernel_rfl) rfl (z2 (by kernel_rfl)) (z3 (by kernel_rfl)) rfl rfl rfl ?_
              refine WD.b (i:=40) (d:=54) (by kernel_rfl) rfl (z2 (by kernel_rfl)) (z3 (by kernel_rfl)) rfl rfl rfl ?_
              refine WD.b (i:=41) (d:=55) (by kernel_rfl) rfl (z2 (by kernel_rfl)) (z3 (by kernel_rfl)) rfl rfl rfl ?_
              refine WD.b (i:=42) (d:=56) (by kernel_rfl) rfl (z2 (by kernel_rfl)) (z3 (by kernel_rfl)) rfl rfl rfl ?_
              refine WD.b (i:=43) (d:=57) (by kernel_rfl) rfl (z2 (by kernel_rfl)) (z3 (by kernel_rfl)) rfl rfl rfl ?_
              refine WD.a (i:=44) (d:=58) (by kernel_rfl) rfl (z2 (by kernel_rfl)) (z3 (by kernel_rfl)) rfl rfl rfl (fun _=>y1c rfl rfl) ?_
              refine WD.yE (.cons .here (.cons .here .nil)) ?_ zl2
              exact (.cons rfl (.cons rfl (.cons rfl (.cons rfl (.cons rfl (.cons rfl (.cons (zh (Eq.symm zgG)) (.cons (zh (y2n zgG)) .nil))))))))
          refine WD.d #[true,true,true,true,true,true,true,true,true,true,true,true,true,true,true,true,true,true,true,true,true,true,true,true,true,true,true,true,true,true,true,true,true,true,true,true,true,true,true,true,true,true,true,true,true,false] (by kernel_rfl) ?_
          refine WD.a (i:=45) (d:=59) (by kernel_rfl) rfl (z2 (by kernel_rfl)) (z3 (by kernel_rfl)) rfl rfl rfl (fun _=>y1c rfl rfl) ?_
          refine WD.yE (.cons .here (.cons .here .nil)) ?_ zl1
          exact (.cons rfl (.cons rfl (.cons rfl (.cons rfl (.cons rfl (.cons (zh (Eq.symm zef)) (.cons (zh (y1Y zef)) .nil)))))))
      refine WD.d #[true,true,true,true,true,true,true,true,true,true,true,true,true,true,true,true,true,true,true,true,true,true,true,true,true,true,true,true,true,true,true,true,true,true,true,true,true,true,true,true,true,true,true,true,true,true] (by kernel_rfl) ?_
      refine WD.done (by kernel_rfl) ?_
      refine WX.a ?_
      refine WC.cond rfl (fun zgH=>?_) (fun zgH=>?_)
      · replace h:=ym h zgH
        refine WC.b (WC.a (WL.pu rfl (WL.nil (WX.a (WC.ret (WX.yC (WX.yg (WX.yg (WX.yC (WX.yg ?_))))))))))
        obtain rfl:=Option.some.inj h
        refine WX.yi Try.results24 (.tmp rfl .nil) (fun w hw=>?_)
        exact ⟨y10 rfl,hw.sub .nil⟩
      · replace h:=yn h zgH
        refine WC.skip (WX.yh (WX.a (WC.a (WL.pu rfl (WL.pu rfl (WL.nil ?_))))))
        exact WX.round (G:=Nat × Int) ⟨zgt,(i64 (zf + 1))⟩ h (Nat.lt_succ_self _) (.cons rfl (.cons rfl (.cons rfl (.cons rfl (.cons rfl .nil))))) (.cons .h1 .nil)
    · replace h:=yn h zgu
      refine WC.exit (WX.yf (WX.yf (WX.yB ?_)))
      exact WX.mid (G:=Unit) () h (.cons rfl .nil) .nil
  · rintro  h
    replace h:=zpW.symm.trans h
    refine WC.b (WC.a (WL.pu rfl ?_))
    refine WL.a (d:=62) rfl rfl rfl (yZ Try.underlying33 rfl) ?_
    refine WL.pu rfl (WL.pu rfl (WL.nil (WX.a (WC.ret ?_))))
    obtain rfl:=Option.some.inj h
    refine WX.yi Try.results24 (.tmp rfl .nil) (fun w hw=>?_)
    exact ⟨y10 rfl,hw.sub .nil⟩
def y24 (z8A : List Snetwork_event) : Option Int :=
  some ((z8A.length : Nat) : Int)
set_option maxRecDepth 20000 in
theorem y4r (Z : Zp) (zeh : Option Addr) (zei : Nat) (z8A : List Snetwork_event) (r : Int)
     (h : y24 z8A = some r) (w₀ : World) (hz : PZ [] w₀ Z)
     (zw0 : ZS Z 7 (fun r x=>r = yw x) zeh zei z8A) :
    Calls Try.prog 86 #[(.slice zeh z8A.length zei)] w₀ fun e w'=>e = .returned (.int .i64 r) ∧ Hp [] w₀ w' []:=by
  unfold y24 at h
  refine Calls.yl (vs:=[(.slice zeh z8A.length zei)]) (pre:=[]) (env:=[(0,(.slice zeh z8A.length zei))]) Try.func86 rfl Try.ntmps86 rfl (Hp.nil w₀ _) rfl ?_
  refine WC.b (WC.a (WL.pu rfl (WL.nil (WX.a (WC.b (WC.a (WL.pu rfl ?_)))))))
  refine WL.a (d:=4) rfl rfl rfl (yZ Try.underlying79 rfl) ?_
  refine WL.pu rfl (WL.nil (WX.a (WC.ret ?_)))
  obtain rfl:=Option.some.inj h
  refine WX.yi Try.results86 (.tmp rfl .nil) (fun w hw=>?_)
  exact ⟨y10 rfl,hw.sub .nil⟩
def y3k (z8B : Int) : Option Bool :=
  some (decide (z8B ≠ z8B))
set_option maxRecDepth 20000 in
theorem y5n (Z : Zp)  (z8B : Int) (r : Bool)
     (h : y3k z8B = some r) (w₀ : World) (hz : PZ [] w₀ Z) :
    Calls Try.prog 58 #[(.int .i64 z8B)] w₀ fun e w'=>e = .returned (.bool r) ∧ Hp [] w₀ w' []:=by
  unfold y3k at h
  refine Calls.yl (vs:=[(.int .i64 z8B)]) (pre:=[]) (env:=[(0,(.int .i64 z8B))]) Try.func58 rfl Try.ntmps58 rfl (Hp.nil w₀ _) rfl ?_
  refine WC.b (WC.a (WL.pu rfl (WL.nil (WX.a (WC.b (WC.a (WL.pu rfl (WL.pu rfl (WL.pu rfl (WL.pu rfl (WL.nil (WX.a (WC.ret ?_)))))))))))))
  obtain rfl:=Option.some.inj h
  refine WX.yi Try.results58 (.tmp rfl .nil) (fun w hw=>?_)
  exact ⟨y10 rfl,hw.sub .nil⟩
def y1h (z7K : Int) (z7L : Int) : Option Int :=
  (y3k z7K).bind fun zl3=>(y3k z7L).bind fun zgI=>if zl3 then if zgI then some 0 else some (-1) else if zgI then some 1 else if decide (z7K < z7L) then some (-1) else if decide (z7K > z7L) then some 1 else some 0
set_option maxRecDepth 20000 in
theorem y26 (Z : Zp)  (z7K : Int) (z7L : Int) (r : Int)
     (h : y1h z7K z7L = some r) (w₀ : World) (hz : PZ [] w₀ Z) :
    Calls Try.prog 45 #[(.int .i64 z7K),(.int .i64 z7L)] w₀ fun e w'=>e = .returned (.int .i64 r) ∧ Hp [] w₀ w' []:=by
  unfold y1h at h
  refine Calls.yl (vs:=[(.int .i64 z7K),(.int .i64 z7L)]) (pre:=[]) (env:=[(0,(.int .i64 z7K)),(1,(.int .i64 z7L))]) Try.func45 rfl Try.ntmps45 rfl (Hp.nil w₀ _) rfl ?_
  refine WC.b (WC.a (WL.pu rfl (WL.nil (WX.a (WC.b ?_)))))
  obtain ⟨zl3,zq3,h⟩:=zp h
  refine WC.a (WL.pu rfl ?_)
  refine WL.b (dd:=8) rfl rfl rfl (zF (l:=[.tmp 7]) Try.call58 (.cons rfl .nil)) .nil (cc hz .nil fun w pz ho=>y5n _ _ _ zq3 w pz ) ?_
  refine WL.pu rfl (WL.nil (WX.a (WC.b ?_)))
  obtain ⟨zgI,zq4,h⟩:=zp h
  refine WC.a (WL.pu rfl ?_)
  refine WL.b (dd:=10) rfl rfl rfl (zF (l:=[.tmp 9]) Try.call58 (.cons rfl .nil)) .nil (cc hz .nil fun w pz ho=>y5n _ _ _ zq4 w pz ) ?_
  refine WL.pu rfl (WL.nil (WX.a (WC.b (WC.b (WC.a (WL.pu rfl (WL.nil (WX.a ?_))))))))
  refine WC.cond rfl (fun zgJ=>?_) (fun zgJ=>?_)
  · replace h:=ym h zgJ
    refine WC.b (WC.b (WC.a (WL.pu rfl (WL.nil (WX.a ?_)))))
    refine WC.cond rfl (fun zgK=>?_) (fun zgK=>?_)
    · replace h:=ym h zgK
      refine WC.b (WC.a (WL.pu rfl (WL.nil (WX.a (WC.ret (WX.yg (WX.yg ?_)))))))
      obtain rfl:=Option.some.inj h
      refine WX.yi Try.results45 (.tmp rfl .nil) (fun w hw=>?_)
      exact ⟨y10 rfl,hw.sub .nil⟩
    · replace h:=yn h zgK
      refine WC.skip (WX.a (WC.b (WC.a (WL.pu rfl (WL.nil (WX.a (WC.ret (WX.yg ?_))))))))
      obtain rfl:=Option.some.inj h
      refine WX.yi Try.results45 (.tmp rfl .nil) (fun w hw=>?_)
      exact ⟨y10 rfl,hw.sub .nil⟩
  · replace h:=yn h zgJ
    refine WC.skip (WX.a (WC.b (WC.b (WC.a (WL.pu rfl (WL.nil (WX.a ?_)))))))
    refine WC.cond rfl (fun zgL=>?_) (fun zgL=>?_)
    · replace h:=ym h zgL
      refine WC.b (WC.a (WL.pu rfl (WL.nil (WX.a (WC.ret (WX.yg ?_))))))
      obtain rfl:=Option.some.inj h
      refine WX.yi Try.results45 (.tmp rfl .nil) (fun w hw=>?_)
      exact ⟨y10 rfl,hw.sub .nil⟩
    · replace h:=yn h zgL
      refine WC.skip (WX.a (WC.b (WC.b (WC.a (WL.pu rfl (WL.pu rfl (WL.pu rfl (WL.nil (WX.a ?_)))))))))
      refine WC.cond rfl (fun zgM=>?_) (fun zgM=>?_)
      · replace h:=ym h zgM
        refine WC.b (WC.a (WL.pu rfl (WL.nil (WX.a (WC.ret (WX.yg ?_))))))
        obtain rfl:=Option.some.inj h
        refine WX.yi Try.results45 (.tmp rfl .nil) (fun w hw=>?_)
        exact ⟨y10 rfl,hw.sub .nil⟩
      · replace h:=yn h zgM
        refine WC.skip (WX.a (WC.b (WC.b (WC.a (WL.pu rfl (WL.pu rfl (WL.pu rfl (WL.nil (WX.a ?_)))))))))
        refine WC.cond rfl (fun zgN=>?_) (fun zgN=>?_)
        · replace h:=ym h zgN
          refine WC.b (WC.a (WL.pu rfl (WL.nil (WX.a (WC.ret (WX.yg ?_))))))
          obtain rfl:=Option.some.inj h
          refine WX.yi Try.results45 (.tmp rfl .nil) (fun w hw=>?_)
          exact ⟨y10 rfl,hw.sub .nil⟩
        · replace h:=yn h zgN
          refine WC.skip (WX.a (WC.b (WC.a (WL.pu rfl (WL.nil (WX.a (WC.ret ?_)))))))
          obtain rfl:=Option.some.inj h
          refine WX.yi Try.results45 (.tmp rfl .nil) (fun w hw=>?_)
          exact ⟨y10 rfl,hw.sub .nil⟩
def y2t (z2n : List Int) (z6S : Option Int) : Nat → Int → Option Int
  | 0,_=>none
  | zgO + 1,z2P=>if decide (z2P < ((z2n.length : Nat) : Int)) then chk ((0 : Int) ≤ z2P ∧ z2P < ((z2n.length : Nat) : Int)) (if decide ((nth z2n z2P) ≠ 0) then some (nth z2n z2P) else y2t z2n z6S zgO (i64 (z2P + 1))) else z6S
theorem y65 {n : Nat} {z2n : List Int} {z6S : Option Int} {z2P : Int} {r : Int} (h : y2t z2n z6S n z2P = some r) : ∃ m,n = m + 1:=by
  cases n with
  | zero=>cases h
  | succ m=>exact ⟨m,rfl⟩
def y3r (z2n : List Int) : Option Int :=
  jp0 (some 0) fun z6S=>y2t z2n z6S yA 0
set_option maxRecDepth 20000 in
theorem y6y (Z : Zp) (zd1 : Option Addr) (zd2 : Nat) (z2n : List Int) (r : Int)
     (h : y3r z2n = some r) (w₀ : World) (hz : PZ [] w₀ Z)
     (zq5 : ZS Z 1 (fun r x=>r = e3 x) zd1 zd2 z2n) :
    Calls Try.prog 44 #[(.slice zd1 z2n.length zd2)] w₀ fun e w'=>e = .returned (.int .i64 r) ∧ Hp [] w₀ w' []:=by
  unfold y3r at h
  refine Calls.yl (vs:=[(.slice zd1 z2n.length zd2)]) (pre:=[]) (env:=[(0,(.slice zd1 z2n.length zd2))]) Try.func44 rfl Try.ntmps44 rfl (Hp.nil w₀ _) rfl ?_
  refine WC.b (WC.a (WL.pu rfl (WL.nil (WX.a (WC.b (WC.a (WL.pu rfl (WL.nil (WX.a ?_)))))))))
  obtain ⟨z6S,zq6,h⟩:=y2r h
  refine WC.y2d ((z6S = some r)) ([(3,(.int .i64 0))]) ([]) ?_ ?_
  · skip
    refine WC.b (WC.a (WL.pu rfl ?_))
    refine WL.a (d:=7) rfl rfl rfl (yZ Try.underlying56 rfl) ?_
    refine WL.pu rfl (WL.nil (WX.a (WC.block ?_)))
    refine WC.y3Z (fun (zax : Nat) (z2P : Int)=>(y2t z2n z6S zax z2P = some r)) (fun (zax : Nat) (z2P : Int)=>[(3,(.int .i64 0)),(6,(.slice zd1 z2n.length zd2)),(7,(.int .i64 ((z2n.length : Nat) : Int))),(8,(.int .i64 z2P))]) (fun (zax : Nat) (z2P : Int)=>[]) (fun (zax : Nat) (z2P : Int)=>zax) ⟨yA,0⟩ h (.cons rfl (.cons rfl (.cons rfl (.cons rfl .nil)))) .nil ?_
    rintro zax z2P h
    obtain ⟨zgO,rfl⟩:=y65 h
    rw [y2t] at h
    refine WC.b (WC.a (WL.pu rfl (WL.nil (WX.a (WC.b ?_)))))
    refine WC.cond rfl (fun zgP=>?_) (fun zgP=>?_)
    · replace h:=ym h zgP
      refine WC.skip (WX.a (WC.b (WC.block (WC.b ?_))))
      obtain ⟨zq7,h⟩:=yj h
      refine WC.a ?_
      refine WL.znth (dd:=10) rfl rfl (Z:=Z) (Pr:=(fun r x=>r = e3 x)) y6x rfl rfl zq5 zq7 ?_
      rintro zw1 zw2 zq8 zw3 rfl
      refine WL.a (d:=11) rfl rfl rfl (yb ye rfl (rd_z hz.pv zq8 rfl)) ?_
      refine WL.pu rfl (WL.nil (WX.a (WC.b (WC.a (WL.pu rfl (WL.pu rfl (WL.pu rfl (WL.nil (WX.a ?_)))))))))
      refine WC.cond rfl (fun zgQ=>?_) (fun zgQ=>?_)
      · replace h:=ym h zgQ
        refine WC.b (WC.a (WL.pu rfl (WL.pu rfl (WL.nil (WX.a (WC.ret (WX.yC (WX.yg (WX.yg (WX.yC (WX.yg ?_)))))))))))
        obtain rfl:=Option.some.inj h
        refine WX.yi Try.results44 (.tmp rfl .nil) (fun w hw=>?_)
        exact ⟨y10 rfl,hw.sub .nil⟩
      · replace h:=yn h zgQ
        refine WC.skip (WX.yh (WX.a (WC.a (WL.pu rfl (WL.pu rfl (WL.nil ?_))))))
        exact WX.round (G:=Nat × Int) ⟨zgO,(i64 (z2P + 1))⟩ h (Nat.lt_succ_self _) (.cons rfl (.cons rfl (.cons rfl (.cons rfl .nil)))) .nil
    · replace h:=yn h zgP
      refine WC.exit (WX.yf (WX.yf (WX.yB ?_)))
      exact WX.mid (G:=Unit) () h (.cons rfl .nil) .nil
  · rintro  h
    replace h:=zq6.symm.trans h
    refine WC.b (WC.a (WL.pu rfl (WL.pu rfl (WL.nil (WX.a (WC.ret ?_))))))
    obtain rfl:=Option.some.inj h
    refine WX.yi Try.results44 (.tmp rfl .nil) (fun w hw=>?_)
    exact ⟨y10 rfl,hw.sub .nil⟩
def y1S (z17 : Snetwork_event) (z18 : Snetwork_event) : Option Int :=
  (y1h z17.fTime z18.fTime).bind fun zgR=>(y1h z17.fIn_ z18.fIn_).bind fun zgS=>(y1h z17.fVl z18.fVl).bind fun zgT=>(y1h z17.fSent z18.fSent).bind fun zgU=>(y3r ([zgR,zgS,zgT,zgU] : List Int)).bind fun zl4=>some zl4
set_option maxRecDepth 20000 in
theorem y5s (Z : Zp)  (z17 : Snetwork_event) (z18 : Snetwork_event) (r : Int)
     (h : y1S z17 z18 = some r) (w₀ : World) (hz : PZ [] w₀ Z) :
    Calls Try.prog 89 #[(.agg #[(.int .i64 z17.fTime),(.int .i64 z17.fIn_),(.int .i64 z17.fVl),(.int .i64 z17.fSent),(.int .i64 z17.fHop.fNode),(.int .i64 z17.fHop.fNext),(.int .i64 z17.fHop.fLink)]),(.agg #[(.int .i64 z18.fTime),(.int .i64 z18.fIn_),(.int .i64 z18.fVl),(.int .i64 z18.fSent),(.int .i64 z18.fHop.fNode),(.int .i64 z18.fHop.fNext),(.int .i64 z18.fHop.fLink)])] w₀ fun e w'=>e = .returned (.int .i64 r) ∧ Hp [] w₀ w' []:=by
  unfold y1S at h
  refine Calls.yl (vs:=[(.agg #[(.int .i64 z17.fTime),(.int .i64 z17.fIn_),(.int .i64 z17.fVl),(.int .i64 z17.fSent),(.int .i64 z17.fHop.fNode),(.int .i64 z17.fHop.fNext),(.int .i64 z17.fHop.fLink)]),(.agg #[(.int .i64 z18.fTime),(.int .i64 z18.fIn_),(.int .i64 z18.fVl),(.int .i64 z18.fSent),(.int .i64 z18.fHop.fNode),(.int .i64 z18.fHop.fNext),(.int .i64 z18.fHop.fLink)])]) (pre:=[]) (env:=[(0,(.agg #[(.int .i64 z17.fTime),(.int .i64 z17.fIn_),(.int .i64 z17.fVl),(.int .i64 z17.fSent),(.int .i64 z17.fHop.fNode),(.int .i64 z17.fHop.fNext),(.int .i64 z17.fHop.fLink)])),(1,(.agg #[(.int .i64 z18.fTime),(.int .i64 z18.fIn_),(.int .i64 z18.fVl),(.int .i64 z18.fSent),(.int .i64 z18.fHop.fNode),(.int .i64 z18.fHop.fNext),(.int .i64 z18.fHop.fLink)]))]) Try.func89 rfl Try.ntmps89 rfl (Hp.nil w₀ _) rfl ?_
  refine WC.b (WC.a ?_)
  refine WL.new (dd:=2) rfl rfl rfl (y2c (cs:=[(.int .i64 z17.fTime),(.int .i64 z17.fIn_),(.int .i64 z17.fVl),(.int .i64 z17.fSent),(.int .i64 z17.fHop.fNode),(.int .i64 z17.fHop.fNext),(.int .i64 z17.fHop.fLink)]) rfl rfl) ?_
  intro zw4 _
  refine WL.new (dd:=3) rfl rfl rfl (y2c (cs:=[(.int .i64 z18.fTime),(.int .i64 z18.fIn_),(.int .i64 z18.fVl),(.int .i64 z18.fSent),(.int .i64 z18.fHop.fNode),(.int .i64 z18.fHop.fNext),(.int .i64 z18.fHop.fLink)]) rfl rfl) ?_
  intro zw5 _
  refine WL.pu rfl (WL.nil (WX.a (WC.b ?_)))
  obtain ⟨zgR,zq9,h⟩:=zp h
  obtain ⟨zgS,zqa,h⟩:=zp h
  obtain ⟨zgT,zqb,h⟩:=zp h
  obtain ⟨zgU,zqc,h⟩:=zp h
  obtain ⟨zl4,zqd,h⟩:=zp h
  refine WC.yV (fun i=>[].contains i) [] rfl ?_
  refine WD.a (i:=0) (d:=5) (by kernel_rfl) rfl (z2 (by kernel_rfl)) (z3 (by kernel_rfl)) rfl rfl rfl (fun _=>ya y62 rfl rfl) ?_
  refine WD.e (i:=1) (d:=6) (by kernel_rfl) rfl (z2 (by kernel_rfl)) (z3 (by kernel_rfl)) rfl rfl rfl (yb ye rfl (yc .h1 rfl)) ?_
  refine WD.a (i:=2) (d:=7) (by kernel_rfl) rfl (z2 (by kernel_rfl)) (z3 (by kernel_rfl)) rfl rfl rfl (fun _=>ya y62 rfl rfl) ?_
  refine WD.e (i:=3) (d:=8) (by kernel_rfl) rfl (z2 (by kernel_rfl)) (z3 (by kernel_rfl)) rfl rfl rfl (yb ye rfl (yc .here rfl)) ?_
  refine WD.c (i:=4) (d:=9) (by kernel_rfl) rfl (z2 (by kernel_rfl)) (z3 (by kernel_rfl)) rfl rfl rfl (zF (l:=[.tmp 6,.tmp 8]) Try.call45 (.cons rfl (.cons rfl .nil))) (cc hz .nil fun w pz ho=>y26 _ _ _ _ zq9 w pz ) ?_
  refine WD.a (i:=5) (d:=10) (by kernel_rfl) rfl (z2 (by kernel_rfl)) (z3 (by kernel_rfl)) rfl rfl rfl (fun _=>ya y8p rfl rfl) ?_
  refine WD.e (i:=6) (d:=11) (by kernel_rfl) rfl (z2 (by kernel_rfl)) (z3 (by kernel_rfl)) rfl rfl rfl (yb ye rfl (yc .h1 rfl)) ?_
  refine WD.a (i:=7) (d:=12) (by kernel_rfl) rfl (z2 (by kernel_rfl)) (z3 (by kernel_rfl)) rfl rfl rfl (fun _=>ya y8p rfl rfl) ?_
  refine WD.e (i:=8) (d:=13) (by kernel_rfl) rfl (z2 (by kernel_rfl)) (z3 (by kernel_rfl)) rfl rfl rfl (yb ye rfl (yc .here rfl)) ?_
  refine WD.c (i:=9) (d:=14) (by kernel_rfl) rfl (z2 (by kernel_rfl)) (z3 (by kernel_rfl)) rfl rfl rfl (zF (l:=[.tmp 11,.tmp 13]) Try.call45 (.cons rfl (.cons rfl .nil))) (cc hz .nil fun w pz ho=>y26 _ _ _ _ zqa w pz ) ?_
  refine WD.a (i:=10) (d:=15) (by kernel_rfl) rfl (z2 (by kernel_rfl)) (z3 (by kernel_rfl)) rfl rfl rfl (fun _=>ya y8q rfl rfl) ?_
  refine WD.e (i:=11) (d:=16) (by kernel_rfl) rfl (z2 (by kernel_rfl)) (z3 (by kernel_rfl)) rfl rfl rfl (yb ye rfl (yc .h1 rfl)) ?_
  refine WD.a (i:=12) (d:=17) (by kernel_rfl) rfl (z2 (by kernel_rfl)) (z3 (by kernel_rfl)) rfl rfl rfl (fun _=>ya y8q rfl rfl) ?_
  refine WD.e (i:=13) (d:=18) (by kernel_rfl) rfl (z2 (by kernel_rfl)) (z3 (by kernel_rfl)) rfl rfl rfl (yb ye rfl (yc .here rfl)) ?_
  refine WD.c (i:=14) (d:=19) (by kernel_rfl) rfl (z2 (by kernel_rfl)) (z3 (by kernel_rfl)) rfl rfl rfl (zF (l:=[.tmp 16,.tmp 18]) Try.call45 (.cons rfl (.cons rfl .nil))) (cc hz .nil fun w pz ho=>y26 _ _ _ _ zqb w pz ) ?_
  refine WD.a (i:=15) (d:=20) (by kernel_rfl) rfl (z2 (by kernel_rfl)) (z3 (by kernel_rfl)) rfl rfl rfl (fun _=>ya y4A rfl rfl) ?_
  refine WD.e (i:=16) (d:=21) (by kernel_rfl) rfl (z2 (by kernel_rfl)) (z3 (by kernel_rfl)) rfl rfl rfl (yb ye rfl (yc .h1 rfl)) ?_
  refine WD.a (i:=17) (d:=22) (by kernel_rfl) rfl (z2 (by kernel_rfl)) (z3 (by kernel_rfl)) rfl rfl rfl (fun _=>ya y4A rfl rfl) ?_
  refine WD.e (i:=18) (d:=23) (by kernel_rfl) rfl (z2 (by kernel_rfl)) (z3 (by kernel_rfl)) rfl rfl rfl (yb ye rfl (yc .here rfl)) ?_
  refine WD.c (i:=19) (d:=24) (by kernel_rfl) rfl (z2 (by kernel_rfl)) (z3 (by kernel_rfl)) rfl rfl rfl (zF (l:=[.tmp 21,.tmp 23]) Try.call45 (.cons rfl (.cons rfl .nil))) (cc hz .nil fun w pz ho=>y26 _ _ _ _ zqc w pz ) ?_
  refine WD.new (i:=20) (dd:=25) rfl (by kernel_rfl) rfl rfl rfl (y17 (cs:=([zgR,zgS,zgT,zgU] : List Int).flatMap e3) y6x (Eos.parts (l:=[.tmp 9,.tmp 14,.tmp 19,.tmp 24]) (.cons rfl (.cons rfl (.cons rfl (.cons rfl .nil)))) [0,1,2,3]) (fun _=>by kernel_rfl) rfl (by unfold maxLen; omega)) (fun h'=>absurd h' (by decide)) ?_
  intro zw6 _
  refine WD.c (i:=21) (d:=26) (by kernel_rfl) rfl (z2 (by kernel_rfl)) (z3 (by kernel_rfl)) rfl rfl rfl (zF (l:=[.tmp 25]) Try.call44 (.cons rfl .nil)) (ccl hz .nil (.cons .here .nil) fun w pz ho la=>y6y _ _ _ _ _ zqd w pz (ZA.row (la _ (.head _) _) (RR.y1m (enc:=e3) (fun _=>rfl) _) ⟨w,pz.1⟩)) ?_
  refine WD.a (i:=22) (d:=4) (by kernel_rfl) rfl (z2 (by kernel_rfl)) (z3 (by kernel_rfl)) rfl rfl rfl (fun _=>q_z rfl) ?_
  refine WD.done (by kernel_rfl) ?_
  refine WX.a (WC.ret ?_)
  obtain rfl:=Option.some.inj h
  refine WX.yi Try.results89 (.tmp rfl .nil) (fun w hw=>?_)
  exact ⟨y10 rfl,hw.sub .nil⟩
def y1r (z1H : List Snetwork_event) (z3m : Int) (z3n : Int) : Option Bool :=
  chk ((0 : Int) ≤ z3m ∧ z3m < ((z1H.length : Nat) : Int)) (chk ((0 : Int) ≤ z3n ∧ z3n < ((z1H.length : Nat) : Int)) ((y1S (⟨((nth z1H z3m).fTime),((nth z1H z3m).fIn_),((nth z1H z3m).fVl),((nth z1H z3m).fSent),(⟨(((nth z1H z3m).fHop).fNode),(((nth z1H z3m).fHop).fNext),(((nth z1H z3m).fHop).fLink)⟩ : Sapi_Hop)⟩ : Snetwork_event) (⟨((nth z1H z3n).fTime),((nth z1H z3n).fIn_),((nth z1H z3n).fVl),((nth z1H z3n).fSent),(⟨(((nth z1H z3n).fHop).fNode),(((nth z1H z3n).fHop).fNext),(((nth z1H z3n).fHop).fLink)⟩ : Sapi_Hop)⟩ : Snetwork_event)).bind fun zl5=>some (decide (zl5 < 0))))
set_option maxRecDepth 20000 in
theorem y3s (Z : Zp) (zej : Option Addr) (zek : Nat) (z1H : List Snetwork_event) (z3m : Int) (z3n : Int) (r : Bool)
     (h : y1r z1H z3m z3n = some r) (w₀ : World) (hz : PZ [] w₀ Z)
     (zl6 : ZS Z 7 (fun r x=>r = yw x) zej zek z1H) :
    Calls Try.prog 87 #[(.slice zej z1H.length zek),(.int .i64 z3m),(.int .i64 z3n)] w₀ fun e w'=>e = .returned (.bool r) ∧ Hp [] w₀ w' []:=by
  unfold y1r at h
  refine Calls.yl (vs:=[(.slice zej z1H.length zek),(.int .i64 z3m),(.int .i64 z3n)]) (pre:=[]) (env:=[(0,(.slice zej z1H.length zek)),(1,(.int .i64 z3m)),(2,(.int .i64 z3n))]) Try.func87 rfl Try.ntmps87 rfl (Hp.nil w₀ _) rfl ?_
  refine WC.b (WC.a (WL.pu rfl (WL.nil (WX.a (WC.b ?_)))))
  obtain ⟨zqe,h⟩:=yj h
  obtain ⟨zqf,h⟩:=yj h
  obtain ⟨zl5,zqg,h⟩:=zp h
  refine WC.yV (fun i=>[].contains i) [] rfl ?_
  refine WD.a (i:=0) (d:=7) (by kernel_rfl) rfl (z2 (by kernel_rfl)) (z3 (by kernel_rfl)) rfl rfl rfl (fun _=>q_m rfl) ?_
  refine WD.a (i:=1) (d:=8) (by kernel_rfl) rfl (z2 (by kernel_rfl)) (z3 (by kernel_rfl)) rfl rfl rfl (fun _=>q_m rfl) ?_
  refine WD.znth (j:=2) (dd:=9) (by kernel_rfl) rfl (z2 (by kernel_rfl)) (z3 (by kernel_rfl)) rfl rfl (Z:=Z) (Pr:=(fun r x=>r = yw x)) y4b rfl rfl zl6 zqe ?_
  rintro zw7 zw8 zqh zw9 rfl
  refine WD.e (i:=3) (d:=10) (by kernel_rfl) rfl (z2 (by kernel_rfl)) (z3 (by kernel_rfl)) rfl rfl rfl (yH z9B rfl (y3F hz.pv zqh) rfl) ?_
  refine WD.a (i:=4) (d:=11) (by kernel_rfl) rfl (z2 (by kernel_rfl)) (z3 (by kernel_rfl)) rfl rfl rfl (fun _=>q_m rfl) ?_
  refine WD.a (i:=5) (d:=12) (by kernel_rfl) rfl (z2 (by kernel_rfl)) (z3 (by kernel_rfl)) rfl rfl rfl (fun _=>q_m rfl) ?_
  refine WD.znth (j:=6) (dd:=13) (by kernel_rfl) rfl (z2 (by kernel_rfl)) (z3 (by kernel_rfl)) rfl rfl (Z:=Z) (Pr:=(fun r x=>r = yw x)) y4b rfl rfl zl6 zqf ?_
  rintro zwa zwb zqi zwc rfl
  refine WD.e (i:=7) (d:=14) (by kernel_rfl) rfl (z2 (by kernel_rfl)) (z3 (by kernel_rfl)) rfl rfl rfl (yH z9B rfl (y3F hz.pv zqi) rfl) ?_
  refine WD.c (i:=8) (d:=15) (by kernel_rfl) rfl (z2 (by kernel_rfl)) (z3 (by kernel_rfl)) rfl rfl rfl (zF (l:=[.tmp 10,.tmp 14]) Try.call89 (.cons rfl (.cons rfl .nil))) (cc hz .nil fun w pz ho=>y5s _ _ _ _ zqg w pz ) ?_
  refine WD.a (i:=9) (d:=16) (by kernel_rfl) rfl (z2 (by kernel_rfl)) (z3 (by kernel_rfl)) rfl rfl rfl (fun _=>y3h rfl rfl) ?_
  refine WD.a (i:=10) (d:=6) (by kernel_rfl) rfl (z2 (by kernel_rfl)) (z3 (by kernel_rfl)) rfl rfl rfl (fun _=>q_z rfl) ?_
  refine WD.done (by kernel_rfl) ?_
  refine WX.a (WC.ret ?_)
  obtain rfl:=Option.some.inj h
  refine WX.yi Try.results87 (.tmp rfl .nil) (fun w hw=>?_)
  exact ⟨y10 rfl,hw.sub .nil⟩
def y1s (z7 : List Snetwork_event) (zL : Int) (zu : Int) : Option (List Snetwork_event) :=
  chk ((0 : Int) ≤ zu ∧ zu < ((z7.length : Nat) : Int)) (chk ((0 : Int) ≤ zL ∧ zL < ((z7.length : Nat) : Int)) (chk ((0 : Int) ≤ zu ∧ zu < (((z7.set (zL : Int).toNat (⟨((nth z7 zu).fTime),((nth z7 zu).fIn_),((nth z7 zu).fVl),((nth z7 zu).fSent),(⟨(((nth z7 zu).fHop).fNode),(((nth z7 zu).fHop).fNext),(((nth z7 zu).fHop).fLink)⟩ : Sapi_Hop)⟩ : Snetwork_event)).length : Nat) : Int)) (some ((z7.set (zL : Int).toNat (⟨((nth z7 zu).fTime),((nth z7 zu).fIn_),((nth z7 zu).fVl),((nth z7 zu).fSent),(⟨(((nth z7 zu).fHop).fNode),(((nth z7 zu).fHop).fNext),(((nth z7 zu).fHop).fLink)⟩ : Sapi_Hop)⟩ : Snetwork_event)).set (zu : Int).toNat (⟨((nth z7 zL).fTime),((nth z7 zL).fIn_),((nth z7 zL).fVl),((nth z7 zL).fSent),(⟨(((nth z7 zL).fHop).fNode),(((nth z7 zL).fHop).fNext),(((nth z7 zL).fHop).fLink)⟩ : Sapi_Hop)⟩ : Snetwork_event)))))
set_option maxRecDepth 20000 in
theorem y3t (Z : Zp) (z6T : Option Addr) (z49 : Nat) (z7 : List Snetwork_event) (zL : Int) (zu : Int) (r : List Snetwork_event)
     (h : y1s z7 zL zu = some r) (w₀ : World) (hz : PZ (fps [row (.slice z6T z7.length z49) 113 7 (z7.flatMap yw)]) w₀ Z)
    (hown : Hp (fps [row (.slice z6T z7.length z49) 113 7 (z7.flatMap yw)]) w₀ w₀ [row (.slice z6T z7.length z49) 113 7 (z7.flatMap yw)]) :
    Calls Try.prog 88 #[(.slice z6T z7.length z49),(.int .i64 zL),(.int .i64 zu)] w₀ fun e w'=>e = .returned (.tuple #[]) ∧ (r.length = z7.length) ∧ Hp (fps [row (.slice z6T z7.length z49) 113 7 (z7.flatMap yw)]) w₀ w' [row (.slice z6T r.length z49) 113 7 (r.flatMap yw)]:=by
  unfold y1s at h
  refine Calls.yl (vs:=[(.slice z6T z7.length z49),(.int .i64 zL),(.int .i64 zu)]) (pre:=[row (.slice z6T z7.length z49) 113 7 (z7.flatMap yw)]) (env:=[(0,(.slice z6T z7.length z49)),(1,(.int .i64 zL)),(2,(.int .i64 zu))]) Try.func88 rfl Try.ntmps88 rfl (hown) rfl ?_
  obtain ⟨zd3,h⟩:=yj h
  obtain ⟨z5v,h⟩:=yj h
  obtain ⟨zay,h⟩:=yj h
  refine WC.yV (fun i=>[13,15].contains i) [] rfl ?_
  refine WD.a (i:=0) (d:=6) (by kernel_rfl) rfl (z2 (by kernel_rfl)) (z3 (by kernel_rfl)) rfl rfl rfl (fun _=>q_m rfl) ?_
  refine WD.a (i:=1) (d:=7) (by kernel_rfl) rfl (z2 (by kernel_rfl)) (z3 (by kernel_rfl)) rfl rfl rfl (fun _=>q_m rfl) ?_
  refine WD.a (i:=2) (d:=8) (by kernel_rfl) rfl (z2 (by kernel_rfl)) (z3 (by kernel_rfl)) rfl rfl rfl (fun _=>q_m rfl) ?_
  refine WD.a (i:=3) (d:=9) (by kernel_rfl) rfl (z2 (by kernel_rfl)) (z3 (by kernel_rfl)) rfl rfl rfl (fun _=>q_m rfl) ?_
  refine WD.a (i:=4) (d:=10) (by kernel_rfl) rfl (z2 (by kernel_rfl)) (z3 (by kernel_rfl)) rfl rfl rfl (fun _=>q_m rfl) ?_
  refine WD.a (i:=5) (d:=11) (by kernel_rfl) rfl (z2 (by kernel_rfl)) (z3 (by kernel_rfl)) rfl rfl rfl (fun _=>q_m rfl) ?_
  refine WD.know (fun w hw=>Hp.y2w .here hw (by intro hz'; have:=zd3; rw [hz'] at this; omega)) ?_
  rintro ⟨zgV,rfl⟩
  refine WD.a (i:=6) (d:=12) (by kernel_rfl) rfl (z2 (by kernel_rfl)) (z3 (by kernel_rfl)) rfl rfl rfl (fun _=>yq y4b rfl rfl zd3.1 zd3.2 y18) ?_
  refine WD.e (i:=7) (d:=13) (by kernel_rfl) rfl (z2 (by kernel_rfl)) (z3 (by kernel_rfl)) rfl rfl rfl (y1C (cs:=(yw (nth z7 zu))) z9B rfl rfl (y1P .here (y1y (enc:=yw) (l:=z7) (i:=zu) (sz:=7) (fun _=>rfl) zd3.1 zd3.2))) ?_
  refine WD.a (i:=8) (d:=14) (by kernel_rfl) rfl (z2 (by kernel_rfl)) (z3 (by kernel_rfl)) rfl rfl rfl (fun _=>q_m rfl) ?_
  refine WD.a (i:=9) (d:=15) (by kernel_rfl) rfl (z2 (by kernel_rfl)) (z3 (by kernel_rfl)) rfl rfl rfl (fun _=>q_m rfl) ?_
  refine WD.a (i:=10) (d:=16) (by kernel_rfl) rfl (z2 (by kernel_rfl)) (z3 (by kernel_rfl)) rfl rfl rfl (fun _=>yq y4b rfl rfl z5v.1 z5v.2 y18) ?_
  refine WD.e (i:=11) (d:=17) (by kernel_rfl) rfl (z2 (by kernel_rfl)) (z3 (by kernel_rfl)) rfl rfl rfl (y1C (cs:=(yw (nth z7 zL))) z9B rfl rfl (y1P .here (y1y (enc:=yw) (l:=z7) (i:=zL) (sz:=7) (fun _=>rfl) z5v.1 z5v.2))) ?_
  refine WD.a (i:=12) (d:=18) (by kernel_rfl) rfl (z2 (by kernel_rfl)) (z3 (by kernel_rfl)) rfl rfl rfl (fun _=>yq y4b rfl rfl z5v.1 z5v.2 y18) ?_
  refine WD.forced0 (i:=13) rfl (by kernel_rfl) rfl rfl rfl (Sin.of .nil) (y2m (vs:=[(.int .i64 ((nth z7 zu).fTime)),(.int .i64 ((nth z7 zu).fIn_)),(.int .i64 ((nth z7 zu).fVl)),(.int .i64 ((nth z7 zu).fSent)),(.int .i64 (((nth z7 zu).fHop).fNode)),(.int .i64 (((nth z7 zu).fHop).fNext)),(.int .i64 (((nth z7 zu).fHop).fLink))]) (ds:=(z7.set (zL : Int).toNat (⟨((nth z7 zu).fTime),((nth z7 zu).fIn_),((nth z7 zu).fVl),((nth z7 zu).fSent),(⟨(((nth z7 zu).fHop).fNode),(((nth z7 zu).fHop).fNext),(((nth z7 zu).fHop).fLink)⟩ : Sapi_Hop)⟩ : Snetwork_event)).flatMap yw) zdP rfl rfl rfl rfl (ocB rfl) .here (y33 (enc:=yw) (sz:=7) (k:=0) (fun _=>rfl) z5v.1 z5v.2 (by decide)) (y31 (enc:=yw) (l:=z7) (sz:=7) (vs:=[(.int .i64 ((nth z7 zu).fTime)),(.int .i64 ((nth z7 zu).fIn_)),(.int .i64 ((nth z7 zu).fVl)),(.int .i64 ((nth z7 zu).fSent)),(.int .i64 (((nth z7 zu).fHop).fNode)),(.int .i64 (((nth z7 zu).fHop).fNext)),(.int .i64 (((nth z7 zu).fHop).fLink))]) (y:=(⟨((nth z7 zu).fTime),((nth z7 zu).fIn_),((nth z7 zu).fVl),((nth z7 zu).fSent),(⟨(((nth z7 zu).fHop).fNode),(((nth z7 zu).fHop).fNext),(((nth z7 zu).fHop).fLink)⟩ : Sapi_Hop)⟩ : Snetwork_event)) (k:=0) (fun _=>rfl) z5v.1 z5v.2 rfl (Nat.le_of_ble_eq_true rfl))) ?_
  refine WD.relen .here (u:=(.slice (some ⟨zgV,0,none⟩) ((z7.set (zL : Int).toNat (⟨((nth z7 zu).fTime),((nth z7 zu).fIn_),((nth z7 zu).fVl),((nth z7 zu).fSent),(⟨(((nth z7 zu).fHop).fNode),(((nth z7 zu).fHop).fNext),(((nth z7 zu).fHop).fLink)⟩ : Sapi_Hop)⟩ : Snetwork_event)).length) z49)) (y1E (List.length_set).symm) ?_
  refine WD.repin (i:=8) rfl (u:=(.slice (some ⟨zgV,0,none⟩) ((z7.set (zL : Int).toNat (⟨((nth z7 zu).fTime),((nth z7 zu).fIn_),((nth z7 zu).fVl),((nth z7 zu).fSent),(⟨(((nth z7 zu).fHop).fNode),(((nth z7 zu).fHop).fNext),(((nth z7 zu).fHop).fLink)⟩ : Sapi_Hop)⟩ : Snetwork_event)).length) z49)) (y1E (List.length_set).symm) ?_
  refine WD.a (i:=14) (d:=19) (by kernel_rfl) rfl (z2 (by kernel_rfl)) (z3 (by kernel_rfl)) rfl rfl rfl (fun _=>yq y4b rfl rfl zay.1 zay.2 y18) ?_
  refine WD.y30 (i:=15) rfl (by kernel_rfl) rfl rfl rfl (by kernel_rfl) (y2m (vs:=[(.int .i64 ((nth z7 zL).fTime)),(.int .i64 ((nth z7 zL).fIn_)),(.int .i64 ((nth z7 zL).fVl)),(.int .i64 ((nth z7 zL).fSent)),(.int .i64 (((nth z7 zL).fHop).fNode)),(.int .i64 (((nth z7 zL).fHop).fNext)),(.int .i64 (((nth z7 zL).fHop).fLink))]) (ds:=((z7.set (zL : Int).toNat (⟨((nth z7 zu).fTime),((nth z7 zu).fIn_),((nth z7 zu).fVl),((nth z7 zu).fSent),(⟨(((nth z7 zu).fHop).fNode),(((nth z7 zu).fHop).fNext),(((nth z7 zu).fHop).fLink)⟩ : Sapi_Hop)⟩ : Snetwork_event)).set (zu : Int).toNat (⟨((nth z7 zL).fTime),((nth z7 zL).fIn_),((nth z7 zL).fVl),((nth z7 zL).fSent),(⟨(((nth z7 zL).fHop).fNode),(((nth z7 zL).fHop).fNext),(((nth z7 zL).fHop).fLink)⟩ : Sapi_Hop)⟩ : Snetwork_event)).flatMap yw) zdP rfl rfl rfl rfl (ocB rfl) .here (y33 (enc:=yw) (sz:=7) (k:=0) (fun _=>rfl) zay.1 zay.2 (by decide)) (y31 (enc:=yw) (l:=z7.set (zL : Int).toNat (⟨((nth z7 zu).fTime),((nth z7 zu).fIn_),((nth z7 zu).fVl),((nth z7 zu).fSent),(⟨(((nth z7 zu).fHop).fNode),(((nth z7 zu).fHop).fNext),(((nth z7 zu).fHop).fLink)⟩ : Sapi_Hop)⟩ : Snetwork_event)) (sz:=7) (vs:=[(.int .i64 ((nth z7 zL).fTime)),(.int .i64 ((nth z7 zL).fIn_)),(.int .i64 ((nth z7 zL).fVl)),(.int .i64 ((nth z7 zL).fSent)),(.int .i64 (((nth z7 zL).fHop).fNode)),(.int .i64 (((nth z7 zL).fHop).fNext)),(.int .i64 (((nth z7 zL).fHop).fLink))]) (y:=(⟨((nth z7 zL).fTime),((nth z7 zL).fIn_),((nth z7 zL).fVl),((nth z7 zL).fSent),(⟨(((nth z7 zL).fHop).fNode),(((nth z7 zL).fHop).fNext),(((nth z7 zL).fHop).fLink)⟩ : Sapi_Hop)⟩ : Snetwork_event)) (k:=0) (fun _=>rfl) zay.1 zay.2 rfl (Nat.le_of_ble_eq_true rfl))) ?_
  refine WD.relen .here (u:=(.slice (some ⟨zgV,0,none⟩) (((z7.set (zL : Int).toNat (⟨((nth z7 zu).fTime),((nth z7 zu).fIn_),((nth z7 zu).fVl),((nth z7 zu).fSent),(⟨(((nth z7 zu).fHop).fNode),(((nth z7 zu).fHop).fNext),(((nth z7 zu).fHop).fLink)⟩ : Sapi_Hop)⟩ : Snetwork_event)).set (zu : Int).toNat (⟨((nth z7 zL).fTime),((nth z7 zL).fIn_),((nth z7 zL).fVl),((nth z7 zL).fSent),(⟨(((nth z7 zL).fHop).fNode),(((nth z7 zL).fHop).fNext),(((nth z7 zL).fHop).fLink)⟩ : Sapi_Hop)⟩ : Snetwork_event)).length) z49)) (y1E (List.length_set).symm) ?_
  refine WD.done (by kernel_rfl) ?_
  obtain rfl:=Option.some.inj h
  refine WX.y1Q Try.results88 .nil (fun w hw=>?_)
  exact ⟨y49,((List.length_set).trans ((List.length_set).trans rfl)),hw.sub (.cons .here .nil)⟩
def y2E (z1B : List Snetwork_event) (z1f : Snetwork_event) : Option Unit :=
  chk ((((z1B ++ ([z1f] : List Snetwork_event)).length : Nat) : Int) * 56 ≤ 140737488355328 ∧ (((z1B ++ ([z1f] : List Snetwork_event)).length : Nat) : Int) ≤ 4611686018427387904) (some ())
set_option maxRecDepth 20000 in
theorem y5t (Z : Zp) (z6U : Nat) (z5w : Option Addr) (z5x : Nat) (z8C : Value) (z8D : Value) (z8E : Value) (z8F : Value) (z8G : Value) (z8H : Value) (z8I : Value) (z8J : Value) (z8K : Value) (z8L : Value) (z8M : Value) (z8N : Value) (z8O : Value) (z1B : List Snetwork_event) (z1f : Snetwork_event) (r : Unit)
     (h : y2E z1B z1f = some r) (w₀ : World) (hz : PZ (fps [stb z6U 81 [z8C,z8D,z8E,z8F,z8G,z8H,z8I,z8J,z8K,z8L,z8M,(.slice z5w z1B.length z5x),z8N,z8O],row (.slice z5w z1B.length z5x) 113 7 (z1B.flatMap yw)]) w₀ Z)
    (hown : Hp (fps [stb z6U 81 [z8C,z8D,z8E,z8F,z8G,z8H,z8I,z8J,z8K,z8L,z8M,(.slice z5w z1B.length z5x),z8N,z8O],row (.slice z5w z1B.length z5x) 113 7 (z1B.flatMap yw)]) w₀ w₀ [stb z6U 81 [z8C,z8D,z8E,z8F,z8G,z8H,z8I,z8J,z8K,z8L,z8M,(.slice z5w z1B.length z5x),z8N,z8O],row (.slice z5w z1B.length z5x) 113 7 (z1B.flatMap yw)]) :
    Calls Try.prog 92 #[(.pointer (some ⟨z6U,11,none⟩)),(.iface 113 (.agg #[(.int .i64 z1f.fTime),(.int .i64 z1f.fIn_),(.int .i64 z1f.fVl),(.int .i64 z1f.fSent),(.int .i64 z1f.fHop.fNode),(.int .i64 z1f.fHop.fNext),(.int .i64 z1f.fHop.fLink)]))] w₀ fun e w'=>∃ zl7 : Option Addr,∃ zl8 : Nat,e = .returned (.tuple #[]) ∧ True ∧ Hp (fps [stb z6U 81 [z8C,z8D,z8E,z8F,z8G,z8H,z8I,z8J,z8K,z8L,z8M,(.slice z5w z1B.length z5x),z8N,z8O],row (.slice z5w z1B.length z5x) 113 7 (z1B.flatMap yw)]) w₀ w' [stb z6U 81 [z8C,z8D,z8E,z8F,z8G,z8H,z8I,z8J,z8K,z8L,z8M,(.slice zl7 ((z1B ++ ([z1f] : List Snetwork_event)).length) zl8),z8N,z8O],row (.slice zl7 ((z1B ++ ([z1f] : List Snetwork_event)).length) zl8) 113 7 ((z1B ++ ([z1f] : List Snetwork_event)).flatMap yw)]:=by
  unfold y2E at h
  refine Calls.yl (vs:=[(.pointer (some ⟨z6U,11,none⟩)),(.iface 113 (.agg #[(.int .i64 z1f.fTime),(.int .i64 z1f.fIn_),(.int .i64 z1f.fVl),(.int .i64 z1f.fSent),(.int .i64 z1f.fHop.fNode),(.int .i64 z1f.fHop.fNext),(.int .i64 z1f.fHop.fLink)]))]) (pre:=[stb z6U 81 [z8C,z8D,z8E,z8F,z8G,z8H,z8I,z8J,z8K,z8L,z8M,(.slice z5w z1B.length z5x),z8N,z8O],row (.slice z5w z1B.length z5x) 113 7 (z1B.flatMap yw)]) (env:=[(0,(.pointer (some ⟨z6U,11,none⟩))),(1,(.iface 113 (.agg #[(.int .i64 z1f.fTime),(.int .i64 z1f.fIn_),(.int .i64 z1f.fVl),(.int .i64 z1f.fSent),(.int .i64 z1f.fHop.fNode),(.int .i64 z1f.fHop.fNext),(.int .i64 z1f.fHop.fLink)])))]) Try.func92 rfl Try.ntmps92 rfl (hown) rfl ?_
  obtain ⟨zqj,h⟩:=yj h
  refine WC.yV (fun i=>[7,9].contains i) [] rfl ?_
  refine WD.a (i:=0) (d:=4) (by kernel_rfl) rfl (z2 (by kernel_rfl)) (z3 (by kernel_rfl)) rfl rfl rfl (fun _=>q_m rfl) ?_
  refine WD.a (i:=1) (d:=5) (by kernel_rfl) rfl (z2 (by kernel_rfl)) (z3 (by kernel_rfl)) rfl rfl rfl (fun _=>q_m rfl) ?_
  refine WD.a (i:=2) (d:=6) (by kernel_rfl) rfl (z2 (by kernel_rfl)) (z3 (by kernel_rfl)) rfl rfl rfl (fun _=>yt rfl) ?_
  refine WD.e (i:=3) (d:=7) (by kernel_rfl) rfl (z2 (by kernel_rfl)) (z3 (by kernel_rfl)) rfl rfl rfl (yb y4X rfl (yc .here rfl)) ?_
  refine WD.a (i:=4) (d:=8) (by kernel_rfl) rfl (z2 (by kernel_rfl)) (z3 (by kernel_rfl)) rfl rfl rfl (fun _=>q_m rfl) ?_
  refine WD.e (i:=5) (d:=9) (by kernel_rfl) rfl (z2 (by kernel_rfl)) (z3 (by kernel_rfl)) rfl rfl rfl (y8m Try.underlying113 rfl rfl) ?_
  refine WD.new (i:=6) (dd:=10) rfl (by kernel_rfl) rfl rfl rfl (y17 (cs:=([z1f] : List Snetwork_event).flatMap yw) y4b (Eos.parts (l:=[.tmp 9]) (.cons rfl .nil) [0]) (fun _=>by kernel_rfl) rfl (by unfold maxLen; omega)) (fun h'=>absurd h' (by decide)) ?_
  intro zwd _
  refine WD.old (i:=7) (dd:=11) rfl (by kernel_rfl) rfl rfl rfl rfl (fun _=>(Sin.of .nil)) (y5k (enc:=yw) (l1:=z1B) (l2:=([z1f] : List Snetwork_event)) y4b rfl rfl .h2 (fun _=>rfl) rfl rfl (y5V .here) (y5A e113_oc _) zqj) ?_
  rintro ⟨zl9,zla⟩ _
  refine WD.a (i:=8) (d:=12) (by kernel_rfl) rfl (z2 (by kernel_rfl)) (z3 (by kernel_rfl)) rfl rfl rfl (fun _=>yt rfl) ?_
  refine WD.y30 (i:=9) rfl (by kernel_rfl) rfl rfl rfl (by kernel_rfl) (y41 (ds:=[z8C,z8D,z8E,z8F,z8G,z8H,z8I,z8J,z8K,z8L,z8M,(.slice zl9 ((z1B ++ ([z1f] : List Snetwork_event)).length) zla),z8N,z8O]) y8X rfl rfl rfl rfl rfl .h2 rfl rfl) ?_
  refine WD.done (by kernel_rfl) ?_
  skip
  refine WX.y1Q Try.results92 .nil (fun w hw=>?_)
  exact ⟨zl9,zla,y49,trivial,hw.sub (.cons .here (.cons .here .nil))⟩
def y1u (z6V : (List Snetwork_event) → Option (List Snetwork_event)) : Nat → Int → (List Snetwork_event) → Option (List Snetwork_event)
  | 0,_,_=>none
  | zgW + 1,z2z,z2Q=>(if decide ((i64 (Int.tdiv (i64 (z2z - 1)) 2)) = z2z) then some true else (y1r z2Q z2z (i64 (Int.tdiv (i64 (z2z - 1)) 2))).bind fun zlb=>some (!zlb)).bind fun zgX=>if zgX then z6V z2Q else (y1s z2Q (i64 (Int.tdiv (i64 (z2z - 1)) 2)) z2z).bind fun zel=>y1u z6V zgW (i64 (Int.tdiv (i64 (z2z - 1)) 2)) zel
theorem y4C {n : Nat} {z6V : (List Snetwork_event) → Option (List Snetwork_event)} {z2z : Int} {z2Q : List Snetwork_event} {r : List Snetwork_event} (h : y1u z6V n z2z z2Q = some r) : ∃ m,n = m + 1:=by
  cases n with
  | zero=>cases h
  | succ m=>exact ⟨m,rfl⟩
def y2Q (z1I : List Snetwork_event) (z8P : Int) : Option (List Snetwork_event) :=
  jp1 (fun (z4M : List Snetwork_event)=>some z4M) fun z6V=>y1u z6V yA z8P z1I
set_option maxRecDepth 20000 in
theorem y66 (Z : Zp) (z4a : Nat) (z2A : Option Addr) (z2B : Nat) (z6W : Value) (z6X : Value) (z6Y : Value) (z6Z : Value) (z70 : Value) (z71 : Value) (z72 : Value) (z73 : Value) (z74 : Value) (z75 : Value) (z76 : Value) (z77 : Value) (z78 : Value) (z1I : List Snetwork_event) (z8P : Int) (r : List Snetwork_event)
     (h : y2Q z1I z8P = some r) (w₀ : World) (hz : PZ (fps [stb z4a 81 [z6W,z6X,z6Y,z6Z,z70,z71,z72,z73,z74,z75,z76,(.slice z2A z1I.length z2B),z77,z78],row (.slice z2A z1I.length z2B) 113 7 (z1I.flatMap yw)]) w₀ Z)
    (hown : Hp (fps [stb z4a 81 [z6W,z6X,z6Y,z6Z,z70,z71,z72,z73,z74,z75,z76,(.slice z2A z1I.length z2B),z77,z78],row (.slice z2A z1I.length z2B) 113 7 (z1I.flatMap yw)]) w₀ w₀ [stb z4a 81 [z6W,z6X,z6Y,z6Z,z70,z71,z72,z73,z74,z75,z76,(.slice z2A z1I.length z2B),z77,z78],row (.slice z2A z1I.length z2B) 113 7 (z1I.flatMap yw)]) :
    Calls Try.prog 50 #[(.iface 111 (.pointer (some ⟨z4a,11,none⟩))),(.int .i64 z8P)] w₀ fun e w'=>e = .returned (.tuple #[]) ∧ (r.length = z1I.length) ∧ Hp (fps [stb z4a 81 [z6W,z6X,z6Y,z6Z,z70,z71,z72,z73,z74,z75,z76,(.slice z2A z1I.length z2B),z77,z78],row (.slice z2A z1I.length z2B) 113 7 (z1I.flatMap yw)]) w₀ w' [stb z4a 81 [z6W,z6X,z6Y,z6Z,z70,z71,z72,z73,z74,z75,z76,(.slice z2A r.length z2B),z77,z78],row (.slice z2A r.length z2B) 113 7 (r.flatMap yw)]:=by
  unfold y2Q at h
  refine Calls.yl (vs:=[(.iface 111 (.pointer (some ⟨z4a,11,none⟩))),(.int .i64 z8P)]) (pre:=[stb z4a 81 [z6W,z6X,z6Y,z6Z,z70,z71,z72,z73,z74,z75,z76,(.slice z2A z1I.length z2B),z77,z78],row (.slice z2A z1I.length z2B) 113 7 (z1I.flatMap yw)]) (env:=[(0,(.iface 111 (.pointer (some ⟨z4a,11,none⟩)))),(1,(.int .i64 z8P))]) Try.func50 rfl Try.ntmps50 rfl (hown) rfl ?_
  obtain ⟨z6V,zqk,h⟩:=y1d h
  refine WC.y4V (fun (z4M : List Snetwork_event)=>(z6V z4M = some r) ∧ (z4M.length = z1I.length)) (fun (z4M : List Snetwork_event)=>[]) (fun (z4M : List Snetwork_event)=>[row (.slice z2A z4M.length z2B) 113 7 (z4M.flatMap yw),stb z4a 81 [z6W,z6X,z6Y,z6Z,z70,z71,z72,z73,z74,z75,z76,(.slice z2A z4M.length z2B),z77,z78]]) ?_ ?_
  · skip
    refine WC.block ?_
    refine WC.y2q (fun (zaz : Nat) (z2z : Int) (z2Q : List Snetwork_event)=>(y1u z6V zaz z2z z2Q = some r) ∧ (z2Q.length = z1I.length)) (fun (zaz : Nat) (z2z : Int) (z2Q : List Snetwork_event)=>[(0,(.iface 111 (.pointer (some ⟨z4a,11,none⟩)))),(1,(.int .i64 z2z))]) (fun (zaz : Nat) (z2z : Int) (z2Q : List Snetwork_event)=>[row (.slice z2A z2Q.length z2B) 113 7 (z2Q.flatMap yw),stb z4a 81 [z6W,z6X,z6Y,z6Z,z70,z71,z72,z73,z74,z75,z76,(.slice z2A z2Q.length z2B),z77,z78]]) (fun (zaz : Nat) (z2z : Int) (z2Q : List Snetwork_event)=>zaz) ⟨yA,z8P,z1I⟩ ⟨h,rfl⟩ (.cons rfl (.cons rfl .nil)) (.cons .h1 (.cons .here .nil)) ?_
    rintro zaz z2z z2Q ⟨h,zlc⟩
    obtain ⟨zgW,rfl⟩:=y4C h
    rw [y1u] at h
    refine WC.block (WC.b (WC.a (WL.pu rfl (WL.pu rfl ?_))))
    refine WL.a (d:=7) rfl rfl rfl (q_quo rfl rfl (by decide) rfl) ?_
    refine WL.pu rfl (WL.nil (WX.a (WC.b (WC.b ?_))))
    obtain ⟨zgX,zld,h⟩:=zp h
    refine WC.a (WL.pu rfl (WL.pu rfl (WL.pu rfl (WL.pu rfl ?_))))
    refine WL.seg false 5 11 (B:=zgX) rfl rfl rfl rfl rfl rfl (fun h=>(Option.some.inj (ym zld h)).symm) (fun _ zql=>?_) ?_
    · skip
      have zd4:=yn zld zql
      obtain ⟨zlb,zqm,zd4⟩:=zp zd4
      replace zd4:=Option.some.inj zd4
      refine WL.pu rfl (WL.pu rfl (WL.pu rfl ?_))
      refine WL.b (dd:=15) rfl rfl rfl (y2T (l:=[.tmp 13,.tmp 14]) (y56) Try.call87 rfl (yc .h1 rfl) (.cons rfl (.cons rfl .nil))) .nil (ccl hz .nil (.cons .here .nil) fun w pz ho la=>y3s _ _ _ _ _ _ _ zqm w pz (ZA.row (la _ (.head _) _) (RR.y1m (enc:=yw) (fun _=>rfl) _) ⟨w,pz.1⟩)) ?_
      refine WL.pu rfl (WL.pu rfl ?_)
      exact WL.ys zd4 rfl rfl .all
    refine WL.nil (WX.a ?_)
    refine WC.cond rfl (fun zgY=>?_) (fun zgY=>?_)
    · replace h:=ym h zgY
      refine WC.exit (WX.yf (WX.y51 rfl (WX.yf (WX.yB ?_))))
      exact WX.mid (G:=List Snetwork_event) z2Q ⟨h,zlc⟩ .nil (.cons .here (.cons .here .nil))
    · replace h:=yn h zgY
      refine WC.skip (WX.a (WC.b ?_))
      obtain ⟨zel,zqn,h⟩:=zp h
      refine WC.a (WL.pu rfl (WL.pu rfl (WL.pu rfl ?_)))
      refine WL.y1F (dd:=21) rfl rfl rfl (y2T (l:=[.tmp 19,.tmp 20]) (y57) Try.call88 rfl (yc .h1 rfl) (.cons rfl (.cons rfl .nil))) (.cons .here .nil) (cc hz (.cons .here .nil) fun w pz ho=>y3t _ _ _ _ _ _ _ zqn w pz  ho) ?_
      rintro  zle
      refine WL.restb (cs':=[z6W,z6X,z6Y,z6Z,z70,z71,z72,z73,z74,z75,z76,(.slice z2A zel.length z2B),z77,z78]) .h1 (by rw [zle]) ?_
      refine WL.nil (WX.a (WC.a (WL.pu rfl (WL.pu rfl (WL.nil (WX.yh ?_))))))
      exact WX.round (G:=Nat × Int × List Snetwork_event) ⟨zgW,(i64 (Int.tdiv (i64 (z2z - 1)) 2)),zel⟩ ⟨h,(zle.trans zlc)⟩ (Nat.lt_succ_self _) (.cons rfl (.cons rfl .nil)) (.cons .h1 (.cons .here .nil))
  · rintro z4M ⟨h,zqo⟩
    replace h:=(zqk z4M).symm.trans h
    obtain rfl:=Option.some.inj h
    refine WX.y1Q Try.results50 .nil (fun w hw=>?_)
    exact ⟨y49,zqo,hw.sub (.cons .h1 (.cons .here .nil))⟩
def y1T (z21 : List Snetwork_event) (z1v : Snetwork_event) : Option (List Snetwork_event) :=
  (y2E z21 z1v).bind fun zqp=>(y24 (z21 ++ ([z1v] : List Snetwork_event))).bind fun zlf=>(y2Q (z21 ++ ([z1v] : List Snetwork_event)) (i64 (zlf - 1))).bind fun zgZ=>some zgZ
set_option maxRecDepth 20000 in
theorem y5u (Z : Zp) (z79 : Nat) (z5y : Option Addr) (z5z : Nat) (z8Q : Value) (z8R : Value) (z8S : Value) (z8T : Value) (z8U : Value) (z8V : Value) (z8W : Value) (z8X : Value) (z8Y : Value) (z8Z : Value) (z90 : Value) (z91 : Value) (z92 : Value) (z21 : List Snetwork_event) (z1v : Snetwork_event) (r : List Snetwork_event)
     (h : y1T z21 z1v = some r) (w₀ : World) (hz : PZ (fps [stb z79 81 [z8Q,z8R,z8S,z8T,z8U,z8V,z8W,z8X,z8Y,z8Z,z90,(.slice z5y z21.length z5z),z91,z92],row (.slice z5y z21.length z5z) 113 7 (z21.flatMap yw)]) w₀ Z)
    (hown : Hp (fps [stb z79 81 [z8Q,z8R,z8S,z8T,z8U,z8V,z8W,z8X,z8Y,z8Z,z90,(.slice z5y z21.length z5z),z91,z92],row (.slice z5y z21.length z5z) 113 7 (z21.flatMap yw)]) w₀ w₀ [stb z79 81 [z8Q,z8R,z8S,z8T,z8U,z8V,z8W,z8X,z8Y,z8Z,z90,(.slice z5y z21.length z5z),z91,z92],row (.slice z5y z21.length z5z) 113 7 (z21.flatMap yw)]) :
    Calls Try.prog 38 #[(.iface 111 (.pointer (some ⟨z79,11,none⟩))),(.iface 113 (.agg #[(.int .i64 z1v.fTime),(.int .i64 z1v.fIn_),(.int .i64 z1v.fVl),(.int .i64 z1v.fSent),(.int .i64 z1v.fHop.fNode),(.int .i64 z1v.fHop.fNext),(.int .i64 z1v.fHop.fLink)]))] w₀ fun e w'=>∃ zlg : Option Addr,∃ zlh : Nat,e = .returned (.tuple #[]) ∧ True ∧ Hp (fps [stb z79 81 [z8Q,z8R,z8S,z8T,z8U,z8V,z8W,z8X,z8Y,z8Z,z90,(.slice z5y z21.length z5z),z91,z92],row (.slice z5y z21.length z5z) 113 7 (z21.flatMap yw)]) w₀ w' [stb z79 81 [z8Q,z8R,z8S,z8T,z8U,z8V,z8W,z8X,z8Y,z8Z,z90,(.slice zlg r.length zlh),z91,z92],row (.slice zlg r.length zlh) 113 7 (r.flatMap yw)]:=by
  unfold y1T at h
  refine Calls.yl (vs:=[(.iface 111 (.pointer (some ⟨z79,11,none⟩))),(.iface 113 (.agg #[(.int .i64 z1v.fTime),(.int .i64 z1v.fIn_),(.int .i64 z1v.fVl),(.int .i64 z1v.fSent),(.int .i64 z1v.fHop.fNode),(.int .i64 z1v.fHop.fNext),(.int .i64 z1v.fHop.fLink)]))]) (pre:=[stb z79 81 [z8Q,z8R,z8S,z8T,z8U,z8V,z8W,z8X,z8Y,z8Z,z90,(.slice z5y z21.length z5z),z91,z92],row (.slice z5y z21.length z5z) 113 7 (z21.flatMap yw)]) (env:=[(0,(.iface 111 (.pointer (some ⟨z79,11,none⟩)))),(1,(.iface 113 (.agg #[(.int .i64 z1v.fTime),(.int .i64 z1v.fIn_),(.int .i64 z1v.fVl),(.int .i64 z1v.fSent),(.int .i64 z1v.fHop.fNode),(.int .i64 z1v.fHop.fNext),(.int .i64 z1v.fHop.fLink)])))]) Try.func38 rfl Try.ntmps38 rfl (hown) rfl ?_
  refine WC.b ?_
  obtain ⟨zqp,zqq,h⟩:=zp h
  refine WC.a (WL.pu rfl (WL.pu rfl ?_))
  refine WL.y4L (dd:=6) rfl rfl rfl (y7j (l:=[.tmp 5]) (y8o _) Try.call92 rfl (.cons rfl .nil)) (.cons .here (.cons .here .nil)) (cc hz (.cons .here (.cons .here .nil)) fun w pz ho=>y5t _ _ _ _ _ _ _ _ _ _ _ _ _ _ _ _ _ _ _ _ zqq w pz  ho) ?_
  rintro zli zlj _
  refine WL.nil (WX.a ?_)
  obtain ⟨zlf,zqr,h⟩:=zp h
  obtain ⟨zgZ,zqs,h⟩:=zp h
  refine WC.a (WL.pu rfl (WL.pu rfl ?_))
  refine WL.b (dd:=9) rfl rfl rfl (y2T (l:=[]) (y6U) Try.call86 rfl (yc .here rfl) .nil) .nil (ccl hz .nil (.cons .h1 .nil) fun w pz ho la=>y4r _ _ _ _ _ zqr w pz (ZA.row (la _ (.head _) _) (RR.y1m (enc:=yw) (fun _=>rfl) _) ⟨w,pz.1⟩)) ?_
  refine WL.pu rfl ?_
  refine WL.y1F (dd:=11) rfl rfl rfl (zF (l:=[.tmp 7,.tmp 10]) Try.call50 (.cons rfl (.cons rfl .nil))) (.cons .here (.cons .here .nil)) (cc hz (.cons .here (.cons .here .nil)) fun w pz ho=>y66 _ _ _ _ _ _ _ _ _ _ _ _ _ _ _ _ _ _ _ _ zqs w pz  ho) ?_
  rintro  zqt
  refine WL.restb (cs':=[z8Q,z8R,z8S,z8T,z8U,z8V,z8W,z8X,z8Y,z8Z,z90,(.slice zli zgZ.length zlj),z91,z92]) .here (by rw [zqt]) ?_
  refine WL.nil ?_
  obtain rfl:=Option.some.inj h
  refine WX.y1Q Try.results38 .nil (fun w hw=>?_)
  exact ⟨zli,zlj,y49,trivial,hw.sub (.cons .here (.cons .here .nil))⟩
def y1z (z1d : List (List Sapi_Hop)) (zX : List zSt) (z13 : Int) (z3o : Int) (z34 : Int) (z35 : Int) (z7a : (List Snetwork_event) → Option (List Snetwork_event)) : Nat → Int → (List Snetwork_event) → Option (List Snetwork_event)
  | 0,_,_=>none
  | zh0 + 1,z1J,z2R=>if decide (z1J < (((nth z1d ((nth zX z13).fVL)).length : Nat) : Int)) then jp1 (fun (z4N : List Snetwork_event)=>y1z z1d zX z13 z3o z34 z35 z7a zh0 (i64 (z1J + 1)) z4N) fun zem=>chk ((0 : Int) ≤ z1J ∧ z1J < (((nth z1d ((nth zX z13).fVL)).length : Nat) : Int)) (if decide (((nth (nth z1d ((nth zX z13).fVL)) z1J).fNode) = z3o) then (y1T z2R (⟨z34,z35,((nth zX z13).fVL),z13,(⟨((nth (nth z1d ((nth zX z13).fVL)) z1J).fNode),((nth (nth z1d ((nth zX z13).fVL)) z1J).fNext),((nth (nth z1d ((nth zX z13).fVL)) z1J).fLink)⟩ : Sapi_Hop)⟩ : Snetwork_event)).bind fun zh1=>zem zh1 else zem z2R) else z7a z2R
theorem y4O {n : Nat} {z1d : List (List Sapi_Hop)} {zX : List zSt} {z13 : Int} {z3o : Int} {z34 : Int} {z35 : Int} {z7a : (List Snetwork_event) → Option (List Snetwork_event)} {z1J : Int} {z2R : List Snetwork_event} {r : List Snetwork_event} (h : y1z z1d zX z13 z3o z34 z35 z7a n z1J z2R = some r) : ∃ m,n = m + 1:=by
  cases n with
  | zero=>cases h
  | succ m=>exact ⟨m,rfl⟩
def y2a (zB : Sapi_Config) (z1d : List (List Sapi_Hop)) (zX : List zSt) (zh2 : List (Snetwork_exit × Sport_Port)) (z2b : List Snetwork_event) (z4b : List Sapi_Come) (z4c : List Sapi_Come) (z3o : Int) (z34 : Int) (z35 : Int) (z13 : Int) : Option (List Snetwork_event) :=
  chk ((0 : Int) ≤ z13 ∧ z13 < ((zX.length : Nat) : Int)) (chk ((0 : Int) ≤ ((nth zX z13).fVL) ∧ ((nth zX z13).fVL) < ((z1d.length : Nat) : Int)) (jp1 (fun (z5A : List Snetwork_event)=>some z5A) fun z7a=>y1z z1d zX z13 z3o z34 z35 z7a yA 0 z2b))
set_option maxRecDepth 20000 in
theorem y4v (Z : Zp) (z3p : Nat) (z5B : Option Addr) (z5C : Nat) (z5D : Option Addr) (z5E : Nat) (z5F : Option Addr) (z5G : Nat) (z5H : Option Addr) (z5I : Nat) (z5J : Option Addr) (z5K : Nat) (z5L : Option Addr) (z5M : Nat) (z5N : Option Addr) (z5O : Nat) (z5P : Option Addr) (z5Q : Nat) (z5R : Option Addr) (z5S : Nat) (z5T : Option Addr) (z5U : Nat) (z2o : Nat) (z2c : List (Snetwork_exit × ((Nat × (Option Addr × Nat)) × Sport_Port))) (z4O : Option Addr) (z4P : Nat) (z5V : Option Addr) (z5W : Nat) (z5X : Option Addr) (z5Y : Nat) (zB : Sapi_Config) (z1d : List (List Sapi_Hop)) (zX : List zSt) (zh2 : List (Snetwork_exit × Sport_Port)) (z2b : List Snetwork_event) (z4b : List Sapi_Come) (z4c : List Sapi_Come) (z3o : Int) (z34 : Int) (z35 : Int) (z13 : Int) (r : List Snetwork_event)
     (h : y2a zB z1d zX zh2 z2b z4b z4c z3o z34 z35 z13 = some r) (w₀ : World) (hz : PZ (fps [stb z3p 81 [(.slice z5B zB.fModules.length z5C),(.slice z5D zB.fChannels.length z5E),(.slice z5F zB.fSwitches.length z5G),(.slice z5H zB.fLinks.length z5I),(.slice z5J zB.fVLs.length z5K),(.slice z5L zB.fHealth.length z5M),(.slice z5N zB.fCauses.length z5O),(.slice z5P zB.fVersions.length z5Q),(.slice z5R z1d.length z5S),(.slice z5T zX.length z5U),(.map (some z2o)),(.slice z4O z2b.length z4P),(.slice z5V z4b.length z5W),(.slice z5X z4c.length z5Y)],y16 z2o (fun x=>Value.agg (y1N x).toArray) Value.pointer (y1p z2c),y1n z12 z2c,row (.slice z4O z2b.length z4P) 113 7 (z2b.flatMap yw)]) w₀ Z)
     (zwe : ZS Z 4 (y2x Z) z5B z5C zB.fModules)
     (zwf : ZS Z 4 (y2O Z) z5D z5E zB.fChannels)
     (zwg : ZS Z 4 (fun r x=>r = e64 x) z5F z5G zB.fSwitches)
     (zwh : ZS Z 4 (fun r x=>r = e62 x) z5H z5I zB.fLinks)
     (zwi : ZS Z 7 (y2F Z) z5J z5K zB.fVLs)
     (zwj : ZS Z 5 (fun r x=>r = y34 x) z5L z5M zB.fHealth)
     (zwk : ZS Z 3 (y2P Z) z5N z5O zB.fCauses)
     (zwl : ZS Z 4 (fun r x=>r = y35 x) z5P z5Q zB.fVersions)
     (zqu : ZS Z 1 (p55 Z) z5R z5S z1d)
     (zqv : ZS Z 3 (fun r x=>r = e53 x) z5T z5U zX)
     (zwm : dat z2c = zh2)
     (zwn : ZS Z 3 (fun r x=>r = e50 x) z5V z5W z4b)
     (zwo : ZS Z 3 (fun r x=>r = e50 x) z5X z5Y z4c)
    (hown : Hp (fps [stb z3p 81 [(.slice z5B zB.fModules.length z5C),(.slice z5D zB.fChannels.length z5E),(.slice z5F zB.fSwitches.length z5G),(.slice z5H zB.fLinks.length z5I),(.slice z5J zB.fVLs.length z5K),(.slice z5L zB.fHealth.length z5M),(.slice z5N zB.fCauses.length z5O),(.slice z5P zB.fVersions.length z5Q),(.slice z5R z1d.length z5S),(.slice z5T zX.length z5U),(.map (some z2o)),(.slice z4O z2b.length z4P),(.slice z5V z4b.length z5W),(.slice z5X z4c.length z5Y)],y16 z2o (fun x=>Value.agg (y1N x).toArray) Value.pointer (y1p z2c),y1n z12 z2c,row (.slice z4O z2b.length z4P) 113 7 (z2b.flatMap yw)]) w₀ w₀ [stb z3p 81 [(.slice z5B zB.fModules.length z5C),(.slice z5D zB.fChannels.length z5E),(.slice z5F zB.fSwitches.length z5G),(.slice z5H zB.fLinks.length z5I),(.slice z5J zB.fVLs.length z5K),(.slice z5L zB.fHealth.length z5M),(.slice z5N zB.fCauses.length z5O),(.slice z5P zB.fVersions.length z5Q),(.slice z5R z1d.length z5S),(.slice z5T zX.length z5U),(.map (some z2o)),(.slice z4O z2b.length z4P),(.slice z5V z4b.length z5W),(.slice z5X z4c.length z5Y)],y16 z2o (fun x=>Value.agg (y1N x).toArray) Value.pointer (y1p z2c),y1n z12 z2c,row (.slice z4O z2b.length z4P) 113 7 (z2b.flatMap yw)]) :
    Calls Try.prog 25 #[(.pointer (some ⟨z3p,0,none⟩)),(.int .i64 z3o),(.int .i64 z34),(.int .i64 z35),(.int .i64 z13)] w₀ fun e w'=>∃ zlk : Option Addr,∃ zll : Nat,e = .returned (.tuple #[]) ∧ True ∧ Hp (fps [stb z3p 81 [(.slice z5B zB.fModules.length z5C),(.slice z5D zB.fChannels.length z5E),(.slice z5F zB.fSwitches.length z5G),(.slice z5H zB.fLinks.length z5I),(.slice z5J zB.fVLs.length z5K),(.slice z5L zB.fHealth.length z5M),(.slice z5N zB.fCauses.length z5O),(.slice z5P zB.fVersions.length z5Q),(.slice z5R z1d.length z5S),(.slice z5T zX.length z5U),(.map (some z2o)),(.slice z4O z2b.length z4P),(.slice z5V z4b.length z5W),(.slice z5X z4c.length z5Y)],y16 z2o (fun x=>Value.agg (y1N x).toArray) Value.pointer (y1p z2c),y1n z12 z2c,row (.slice z4O z2b.length z4P) 113 7 (z2b.flatMap yw)]) w₀ w' [stb z3p 81 [(.slice z5B zB.fModules.length z5C),(.slice z5D zB.fChannels.length z5E),(.slice z5F zB.fSwitches.length z5G),(.slice z5H zB.fLinks.length z5I),(.slice z5J zB.fVLs.length z5K),(.slice z5L zB.fHealth.length z5M),(.slice z5N zB.fCauses.length z5O),(.slice z5P zB.fVersions.length z5Q),(.slice z5R z1d.length z5S),(.slice z5T zX.length z5U),(.map (some z2o)),(.slice zlk r.length zll),(.slice z5V z4b.length z5W),(.slice z5X z4c.length z5Y)],row (.slice zlk r.length zll) 113 7 (r.flatMap yw),y16 z2o (fun x=>Value.agg (y1N x).toArray) Value.pointer (y1p z2c),y1n z12 z2c]:=by
  unfold y2a at h
  refine Calls.yl (vs:=[(.pointer (some ⟨z3p,0,none⟩)),(.int .i64 z3o),(.int .i64 z34),(.int .i64 z35),(.int .i64 z13)]) (pre:=[stb z3p 81 [(.slice z5B zB.fModules.length z5C),(.slice z5D zB.fChannels.length z5E),(.slice z5F zB.fSwitches.length z5G),(.slice z5H zB.fLinks.length z5I),(.slice z5J zB.fVLs.length z5K),(.slice z5L zB.fHealth.length z5M),(.slice z5N zB.fCauses.length z5O),(.slice z5P zB.fVersions.length z5Q),(.slice z5R z1d.length z5S),(.slice z5T zX.length z5U),(.map (some z2o)),(.slice z4O z2b.length z4P),(.slice z5V z4b.length z5W),(.slice z5X z4c.length z5Y)],y16 z2o (fun x=>Value.agg (y1N x).toArray) Value.pointer (y1p z2c),y1n z12 z2c,row (.slice z4O z2b.length z4P) 113 7 (z2b.flatMap yw)]) (env:=[(0,(.pointer (some ⟨z3p,0,none⟩))),(1,(.int .i64 z3o)),(2,(.int .i64 z34)),(3,(.int .i64 z35)),(4,(.int .i64 z13))]) Try.func25 rfl Try.ntmps25 rfl (hown) rfl ?_
  refine WC.b ?_
  obtain ⟨zqw,h⟩:=yj h
  refine WC.a (WL.pu rfl ?_)
  refine WL.a (d:=14) rfl rfl rfl (yt rfl) ?_
  refine WL.a (d:=15) rfl rfl rfl (ya y8V rfl rfl) ?_
  refine WL.a (d:=16) rfl rfl rfl (yb y8W rfl (yc .here rfl)) ?_
  refine WL.pu rfl ?_
  refine WL.znth (dd:=18) rfl rfl (Z:=Z) (Pr:=(fun r x=>r = e53 x)) y4o rfl rfl zqv zqw ?_
  rintro zwp zwq zqx zwr rfl
  refine WL.a (d:=19) rfl rfl rfl (ya y4g rfl rfl) ?_
  refine WL.a (d:=20) rfl rfl rfl (yb ye rfl (y1G hz.pv zqx rfl)) ?_
  refine WL.pu rfl (WL.nil (WX.a (WC.b ?_)))
  obtain ⟨zqy,h⟩:=yj h
  refine WC.a (WL.pu rfl ?_)
  refine WL.a (d:=22) rfl rfl rfl (yt rfl) ?_
  refine WL.a (d:=23) rfl rfl rfl (ya fo_81_1 rfl rfl) ?_
  refine WL.a (d:=24) rfl rfl rfl (yb oneT_32 rfl (yc .here rfl)) ?_
  refine WL.pu rfl ?_
  refine WL.znth (dd:=26) rfl rfl (Z:=Z) (Pr:=(p55 Z)) y5E rfl rfl zqu zqy ?_
  rintro zws zwt zqz zwu ⟨zlm,zln,rfl,zqA⟩
  refine WL.a (d:=27) rfl rfl rfl (yb y5F rfl (rd_z hz.pv zqz rfl)) ?_
  refine WL.a (d:=28) rfl rfl rfl (yZ Try.underlying55 rfl) ?_
  refine WL.pu rfl (WL.nil (WX.a ?_))
  obtain ⟨z7a,zqB,h⟩:=y1d h
  refine WC.mid3 (fun (z5A : List Snetwork_event) (zaA : Option Addr) (zaB : Nat)=>(z7a z5A = some r)) (fun (z5A : List Snetwork_event) (zaA : Option Addr) (zaB : Nat)=>[]) (fun (z5A : List Snetwork_event) (zaA : Option Addr) (zaB : Nat)=>[row (.slice zaA z5A.length zaB) 113 7 (z5A.flatMap yw),stb z3p 81 [(.slice z5B zB.fModules.length z5C),(.slice z5D zB.fChannels.length z5E),(.slice z5F zB.fSwitches.length z5G),(.slice z5H zB.fLinks.length z5I),(.slice z5J zB.fVLs.length z5K),(.slice z5L zB.fHealth.length z5M),(.slice z5N zB.fCauses.length z5O),(.slice z5P zB.fVersions.length z5Q),(.slice z5R z1d.length z5S),(.slice z5T zX.length z5U),(.map (some z2o)),(.slice zaA z5A.length zaB),(.slice z5V z4b.length z5W),(.slice z5X z4c.length z5Y)],y16 z2o (fun x=>Value.agg (y1N x).toArray) Value.pointer (y1p z2c),y1n z12 z2c]) ?_ ?_
  · skip
    refine WC.block ?_
    refine WC.y6Y (fun (zaC : Nat) (z1J : Int) (z2R : List Snetwork_event) (z7M : Option Addr) (z7N : Nat)=>(y1z z1d zX z13 z3o z34 z35 z7a zaC z1J z2R = some r)) (fun (zaC : Nat) (z1J : Int) (z2R : List Snetwork_event) (z7M : Option Addr) (z7N : Nat)=>[(0,(.pointer (some ⟨z3p,0,none⟩))),(1,(.int .i64 z3o)),(2,(.int .i64 z34)),(3,(.int .i64 z35)),(4,(.int .i64 z13)),(10,(.int .i64 ((nth zX z13).fVL))),(27,(.slice zlm ((nth z1d ((nth zX z13).fVL)).length) zln)),(28,(.int .i64 (((nth z1d ((nth zX z13).fVL)).length : Nat) : Int))),(29,(.int .i64 z1J))]) (fun (zaC : Nat) (z1J : Int) (z2R : List Snetwork_event) (z7M : Option Addr) (z7N : Nat)=>[row (.slice z7M z2R.length z7N) 113 7 (z2R.flatMap yw),stb z3p 81 [(.slice z5B zB.fModules.length z5C),(.slice z5D zB.fChannels.length z5E),(.slice z5F zB.fSwitches.length z5G),(.slice z5H zB.fLinks.length z5I),(.slice z5J zB.fVLs.length z5K),(.slice z5L zB.fHealth.length z5M),(.slice z5N zB.fCauses.length z5O),(.slice z5P zB.fVersions.length z5Q),(.slice z5R z1d.length z5S),(.slice z5T zX.length z5U),(.map (some z2o)),(.slice z7M z2R.length z7N),(.slice z5V z4b.length z5W),(.slice z5X z4c.length z5Y)],y16 z2o (fun x=>Value.agg (y1N x).toArray) Value.pointer (y1p z2c),y1n z12 z2c]) (fun (zaC : Nat) (z1J : Int) (z2R : List Snetwork_event) (z7M : Option Addr) (z7N : Nat)=>zaC) ⟨yA,0,z2b,z4O,z4P⟩ h (.cons rfl (.cons rfl (.cons rfl (.cons rfl (.cons rfl (.cons rfl (.cons rfl (.cons rfl (.cons rfl .nil))))))))) (.cons .h3 (.cons .here (.cons .here (.cons .here .nil)))) ?_
    rintro zaC z1J z2R z7M z7N h
    obtain ⟨zh0,rfl⟩:=y4O h
    rw [y1z] at h
    refine WC.b (WC.a (WL.pu rfl (WL.nil (WX.a (WC.b ?_)))))
    refine WC.cond rfl (fun zh3=>?_) (fun zh3=>?_)
    · replace h:=ym h zh3
      refine WC.skip (WX.a ?_)
      obtain ⟨zem,zqC,h⟩:=y1d h
      refine WC.y4R (fun (z4N : List Snetwork_event) (zaD : Option Addr) (zaE : Nat)=>(zem z4N = some r)) (fun (z4N : List Snetwork_event) (zaD : Option Addr) (zaE : Nat)=>[(0,(.pointer (some ⟨z3p,0,none⟩))),(1,(.int .i64 z3o)),(2,(.int .i64 z34)),(3,(.int .i64 z35)),(4,(.int .i64 z13)),(10,(.int .i64 ((nth zX z13).fVL))),(27,(.slice zlm ((nth z1d ((nth zX z13).fVL)).length) zln)),(28,(.int .i64 (((nth z1d ((nth zX z13).fVL)).length : Nat) : Int))),(29,(.int .i64 z1J))]) (fun (z4N : List Snetwork_event) (zaD : Option Addr) (zaE : Nat)=>[row (.slice zaD z4N.length zaE) 113 7 (z4N.flatMap yw),stb z3p 81 [(.slice z5B zB.fModules.length z5C),(.slice z5D zB.fChannels.length z5E),(.slice z5F zB.fSwitches.length z5G),(.slice z5H zB.fLinks.length z5I),(.slice z5J zB.fVLs.length z5K),(.slice z5L zB.fHealth.length z5M),(.slice z5N zB.fCauses.length z5O),(.slice z5P zB.fVersions.length z5Q),(.slice z5R z1d.length z5S),(.slice z5T zX.length z5U),(.map (some z2o)),(.slice zaD z4N.length zaE),(.slice z5V z4b.length z5W),(.slice z5X z4c.length z5Y)],y16 z2o (fun x=>Value.agg (y1N x).toArray) Value.pointer (y1p z2c),y1n z12 z2c]) ?_ ?_
      · skip
        refine WC.block (WC.b ?_)
        obtain ⟨zqD,h⟩:=yj h
        refine WC.a ?_
        refine WL.znth (dd:=31) rfl rfl (Z:=Z) (Pr:=(fun r x=>r = e59 x)) y4N rfl rfl zqA zqD ?_
        rintro zwv zww zqE zwx rfl
        refine WL.a (d:=32) rfl rfl rfl (yH y6H rfl (y3F hz.pv zqE) rfl) ?_
        refine WL.new (dd:=12) rfl rfl rfl (y23 (cs:=[(.int .i64 0),(.int .i64 0),(.int .i64 0)]) y8n rfl) ?_
        intro zwy _
        refine WL.y1l rfl rfl (y1D y8U rfl rfl rfl .here rfl rfl rfl) ?_
        refine WL.nil (WX.a (WC.b (WC.a ?_)))
        refine WL.a (d:=33) rfl rfl rfl (ya y3f rfl rfl) ?_
        refine WL.a (d:=34) rfl rfl rfl (yb ye rfl (yc .here rfl)) ?_
        refine WL.pu rfl (WL.pu rfl (WL.nil (WX.a ?_)))
        refine WC.cond rfl (fun zh4=>?_) (fun zh4=>?_)
        · replace h:=ym h zh4
          obtain ⟨zh1,zqF,h⟩:=zp h
          refine WC.yV (fun i=>[11].contains i) [] rfl ?_
          refine WD.a (i:=0) (d:=37) (by kernel_rfl) rfl (z2 (by kernel_rfl)) (z3 (by kernel_rfl)) rfl rfl rfl (fun _=>q_m rfl) ?_
          refine WD.a (i:=1) (d:=38) (by kernel_rfl) rfl (z2 (by kernel_rfl)) (z3 (by kernel_rfl)) rfl rfl rfl (fun _=>yt rfl) ?_
          refine WD.a (i:=2) (d:=39) (by kernel_rfl) rfl (z2 (by kernel_rfl)) (z3 (by kernel_rfl)) rfl rfl rfl (fun _=>ya y7C rfl rfl) ?_
          refine WD.e (i:=3) (d:=40) (by kernel_rfl) rfl (z2 (by kernel_rfl)) (z3 (by kernel_rfl)) rfl rfl rfl (y5l Try.underlying111 rfl rfl) ?_
          refine WD.a (i:=4) (d:=41) (by kernel_rfl) rfl (z2 (by kernel_rfl)) (z3 (by kernel_rfl)) rfl rfl rfl (fun _=>q_m rfl) ?_
          refine WD.a (i:=5) (d:=42) (by kernel_rfl) rfl (z2 (by kernel_rfl)) (z3 (by kernel_rfl)) rfl rfl rfl (fun _=>q_m rfl) ?_
          refine WD.a (i:=6) (d:=43) (by kernel_rfl) rfl (z2 (by kernel_rfl)) (z3 (by kernel_rfl)) rfl rfl rfl (fun _=>q_m rfl) ?_
          refine WD.a (i:=7) (d:=44) (by kernel_rfl) rfl (z2 (by kernel_rfl)) (z3 (by kernel_rfl)) rfl rfl rfl (fun _=>q_m rfl) ?_
          refine WD.e (i:=8) (d:=45) (by kernel_rfl) rfl (z2 (by kernel_rfl)) (z3 (by kernel_rfl)) rfl rfl rfl (yH y6H rfl (y1j .here) rfl) ?_
          refine WD.a (i:=9) (d:=46) (by kernel_rfl) rfl (z2 (by kernel_rfl)) (z3 (by kernel_rfl)) rfl rfl rfl (fun _=>y1x (v:=(.agg #[(.int .i64 z34),(.int .i64 z35),(.int .i64 ((nth zX z13).fVL)),(.int .i64 z13),(.int .i64 ((nth (nth z1d ((nth zX z13).fVL)) z1J).fNode)),(.int .i64 ((nth (nth z1d ((nth zX z13).fVL)) z1J).fNext)),(.int .i64 ((nth (nth z1d ((nth zX z13).fVL)) z1J).fLink))])) (Eos.parts (l:=[.tmp 41,.tmp 42,.tmp 43,.tmp 44,.tmp 45]) (.cons rfl (.cons rfl (.cons rfl (.cons rfl (.cons rfl .nil))))) [0,1,2,3,4]) (fun _=>by kernel_rfl)) ?_
          refine WD.e (i:=10) (d:=47) (by kernel_rfl) rfl (z2 (by kernel_rfl)) (z3 (by kernel_rfl)) rfl rfl rfl (y5l Try.underlying113 rfl rfl) ?_
          refine WD.call2 (i:=11) (dd:=48) rfl (by kernel_rfl) rfl rfl rfl (.inl ⟨rfl,fun _ _=>(Sin.of .nil)⟩) (zF (l:=[.tmp 40,.tmp 47]) Try.call38 (.cons rfl (.cons rfl .nil))) (.cons .h2 (.cons .h1 .nil)) (cc hz (.cons .h2 (.cons .h1 .nil)) fun w pz ho=>y5u _ _ _ _ _ _ _ _ _ _ _ _ _ _ _ _ _ _ _ _ zqF w pz  ho) ?_
          rintro zqG zqH _
          refine WD.done (by kernel_rfl) ?_
          refine WX.yh ?_
          exact WX.mid (G:=List Snetwork_event × Option Addr × Nat) ⟨zh1,zqG,zqH⟩ h (.cons rfl (.cons rfl (.cons rfl (.cons rfl (.cons rfl (.cons rfl (.cons rfl (.cons rfl (.cons rfl .nil))))))))) (.cons .h1 (.cons .here (.cons .h1 (.cons .h1 .nil))))
        · replace h:=yn h zh4
          refine WC.skip (WX.yh ?_)
          exact WX.mid (G:=List Snetwork_event × Option Addr × Nat) ⟨z2R,z7M,z7N⟩ h (.cons rfl (.cons rfl (.cons rfl (.cons rfl (.cons rfl (.cons rfl (.cons rfl (.cons rfl (.cons rfl .nil))))))))) (.cons .h1 (.cons .h1 (.cons .h1 (.cons .h1 .nil))))
      · rintro z4N zaD zaE h
        replace h:=(zqC z4N).symm.trans h
        refine WC.a (WL.pu rfl (WL.pu rfl (WL.nil ?_)))
        exact WX.round (G:=Nat × Int × List Snetwork_event × Option Addr × Nat) ⟨zh0,(i64 (z1J + 1)),z4N,zaD,zaE⟩ h (Nat.lt_succ_self _) (.cons rfl (.cons rfl (.cons rfl (.cons rfl (.cons rfl (.cons rfl (.cons rfl (.cons rfl (.cons rfl .nil))))))))) (.cons .here (.cons .here (.cons .here (.cons .here .nil))))
    · replace h:=yn h zh3
      refine WC.exit (WX.yf (WX.yf (WX.yB ?_)))
      exact WX.mid (G:=List Snetwork_event × Option Addr × Nat) ⟨z2R,z7M,z7N⟩ h .nil (.cons .here (.cons .here (.cons .here (.cons .here .nil))))
  · rintro z5A zaA zaB h
    replace h:=(zqB z5A).symm.trans h
    obtain rfl:=Option.some.inj h
    refine WX.y1Q Try.results25 .nil (fun w hw=>?_)
    exact ⟨zaA,zaB,y49,trivial,hw.sub (.cons .h1 (.cons .here (.cons .here (.cons .here .nil))))⟩
def y19 (z2S : Int) (z5Z : Int → (List Snetwork_event) → Option (Bool × List Snetwork_event)) : Nat → Int → (List Snetwork_event) → Option (Bool × List Snetwork_event)
  | 0,_,_=>none
  | zh5 + 1,z1s,z1K=>if (decide ((i64 ((i64 (2 * z1s)) + 1)) ≥ z2S)) || (decide ((i64 ((i64 (2 * z1s)) + 1)) < 0)) then z5Z z1s z1K else jp1 (fun (z4Q : Int)=>(y1r z1K z4Q z1s).bind fun zlo=>if !zlo then z5Z z1s z1K else (y1s z1K z1s z4Q).bind fun zen=>y19 z2S z5Z zh5 z4Q zen) fun zeo=>(if decide ((i64 ((i64 ((i64 (2 * z1s)) + 1)) + 1)) < z2S) then (y1r z1K (i64 ((i64 ((i64 (2 * z1s)) + 1)) + 1)) (i64 ((i64 (2 * z1s)) + 1))).bind fun zlp=>some zlp else some false).bind fun zh6=>if zh6 then zeo (i64 ((i64 ((i64 (2 * z1s)) + 1)) + 1)) else zeo (i64 ((i64 (2 * z1s)) + 1))
theorem y4s {n : Nat} {z2S : Int} {z5Z : Int → (List Snetwork_event) → Option (Bool × List Snetwork_event)} {z1s : Int} {z1K : List Snetwork_event} {r : Bool × List Snetwork_event} (h : y19 z2S z5Z n z1s z1K = some r) : ∃ m,n = m + 1:=by
  cases n with
  | zero=>cases h
  | succ m=>exact ⟨m,rfl⟩
def y2b (z1L : List Snetwork_event) (i0_9332 : Int) (z2S : Int) : Option (Bool × List Snetwork_event) :=
  jp2 (fun (z7O : Int) (z4R : List Snetwork_event)=>some ((decide (z7O > i0_9332)),z4R)) fun z5Z=>y19 z2S z5Z yA i0_9332 z1L
set_option maxRecDepth 20000 in
theorem y5v (Z : Zp) (z3q : Nat) (z2d : Option Addr) (z2e : Nat) (z60 : Value) (z61 : Value) (z62 : Value) (z63 : Value) (z64 : Value) (z65 : Value) (z66 : Value) (z67 : Value) (z68 : Value) (z69 : Value) (z6a : Value) (z6b : Value) (z6c : Value) (z1L : List Snetwork_event) (i0_9332 : Int) (z2S : Int) (r : Bool × List Snetwork_event)
     (h : y2b z1L i0_9332 z2S = some r) (w₀ : World) (hz : PZ (fps [stb z3q 81 [z60,z61,z62,z63,z64,z65,z66,z67,z68,z69,z6a,(.slice z2d z1L.length z2e),z6b,z6c],row (.slice z2d z1L.length z2e) 113 7 (z1L.flatMap yw)]) w₀ Z)
    (hown : Hp (fps [stb z3q 81 [z60,z61,z62,z63,z64,z65,z66,z67,z68,z69,z6a,(.slice z2d z1L.length z2e),z6b,z6c],row (.slice z2d z1L.length z2e) 113 7 (z1L.flatMap yw)]) w₀ w₀ [stb z3q 81 [z60,z61,z62,z63,z64,z65,z66,z67,z68,z69,z6a,(.slice z2d z1L.length z2e),z6b,z6c],row (.slice z2d z1L.length z2e) 113 7 (z1L.flatMap yw)]) :
    Calls Try.prog 51 #[(.iface 111 (.pointer (some ⟨z3q,11,none⟩))),(.int .i64 i0_9332),(.int .i64 z2S)] w₀ fun e w'=>e = .returned (.bool r.1) ∧ (r.2.length = z1L.length) ∧ Hp (fps [stb z3q 81 [z60,z61,z62,z63,z64,z65,z66,z67,z68,z69,z6a,(.slice z2d z1L.length z2e),z6b,z6c],row (.slice z2d z1L.length z2e) 113 7 (z1L.flatMap yw)]) w₀ w' [stb z3q 81 [z60,z61,z62,z63,z64,z65,z66,z67,z68,z69,z6a,(.slice z2d r.2.length z2e),z6b,z6c],row (.slice z2d r.2.length z2e) 113 7 (r.2.flatMap yw)]:=by
  unfold y2b at h
  refine Calls.yl (vs:=[(.iface 111 (.pointer (some ⟨z3q,11,none⟩))),(.int .i64 i0_9332),(.int .i64 z2S)]) (pre:=[stb z3q 81 [z60,z61,z62,z63,z64,z65,z66,z67,z68,z69,z6a,(.slice z2d z1L.length z2e),z6b,z6c],row (.slice z2d z1L.length z2e) 113 7 (z1L.flatMap yw)]) (env:=[(0,(.iface 111 (.pointer (some ⟨z3q,11,none⟩)))),(1,(.int .i64 i0_9332)),(2,(.int .i64 z2S))]) Try.func51 rfl Try.ntmps51 rfl (hown) rfl ?_
  refine WC.b (WC.a (WL.pu rfl (WL.nil (WX.a (WC.b (WC.a (WL.pu rfl (WL.pu rfl (WL.nil (WX.a ?_))))))))))
  obtain ⟨z5Z,zqI,h⟩:=y32 h
  refine WC.y2p (fun (z7O : Int) (z4R : List Snetwork_event)=>(z5Z z7O z4R = some r) ∧ (z4R.length = z1L.length)) (fun (z7O : Int) (z4R : List Snetwork_event)=>[(1,(.int .i64 i0_9332)),(7,(.int .i64 z7O))]) (fun (z7O : Int) (z4R : List Snetwork_event)=>[row (.slice z2d z4R.length z2e) 113 7 (z4R.flatMap yw),stb z3q 81 [z60,z61,z62,z63,z64,z65,z66,z67,z68,z69,z6a,(.slice z2d z4R.length z2e),z6b,z6c]]) ?_ ?_
  · skip
    refine WC.block ?_
    refine WC.y2q (fun (zaF : Nat) (z1s : Int) (z1K : List Snetwork_event)=>(y19 z2S z5Z zaF z1s z1K = some r) ∧ (z1K.length = z1L.length)) (fun (zaF : Nat) (z1s : Int) (z1K : List Snetwork_event)=>[(0,(.iface 111 (.pointer (some ⟨z3q,11,none⟩)))),(1,(.int .i64 i0_9332)),(2,(.int .i64 z2S)),(7,(.int .i64 z1s))]) (fun (zaF : Nat) (z1s : Int) (z1K : List Snetwork_event)=>[row (.slice z2d z1K.length z2e) 113 7 (z1K.flatMap yw),stb z3q 81 [z60,z61,z62,z63,z64,z65,z66,z67,z68,z69,z6a,(.slice z2d z1K.length z2e),z6b,z6c]]) (fun (zaF : Nat) (z1s : Int) (z1K : List Snetwork_event)=>zaF) ⟨yA,i0_9332,z1L⟩ ⟨h,rfl⟩ (.cons rfl (.cons rfl (.cons rfl (.cons rfl .nil)))) (.cons .h1 (.cons .here .nil)) ?_
    rintro zaF z1s z1K ⟨h,zh7⟩
    obtain ⟨zh5,rfl⟩:=y4s h
    rw [y19] at h
    refine WC.block (WC.b (WC.a (WL.pu rfl (WL.pu rfl (WL.pu rfl (WL.pu rfl (WL.nil (WX.a (WC.b (WC.b (WC.a (WL.pu rfl (WL.pu rfl (WL.pu rfl (WL.pu rfl ?_)))))))))))))))
    refine WL.seg false 2 18 (B:=(decide ((i64 ((i64 (2 * z1s)) + 1)) ≥ z2S)) || (decide ((i64 ((i64 (2 * z1s)) + 1)) < 0))) rfl rfl rfl rfl rfl rfl (fun h=>(y1X h).symm) (fun _ zqJ=>?_) ?_
    · skip
      refine WL.pu rfl (WL.pu rfl (WL.pu rfl ?_))
      exact WL.ys (y1Y zqJ) rfl rfl .all
    refine WL.nil (WX.a ?_)
    refine WC.cond rfl (fun zh8=>?_) (fun zh8=>?_)
    · replace h:=ym h zh8
      refine WC.exit (WX.yf (WX.y51 rfl (WX.yf (WX.yB ?_))))
      exact WX.mid (G:=Int × List Snetwork_event) ⟨z1s,z1K⟩ ⟨h,zh7⟩ (.cons rfl (.cons rfl .nil)) (.cons .here (.cons .here .nil))
    · replace h:=yn h zh8
      refine WC.skip (WX.a (WC.b (WC.a (WL.pu rfl (WL.pu rfl (WL.nil (WX.a ?_)))))))
      obtain ⟨zeo,zqK,h⟩:=y1d h
      refine WC.y1L (fun (z4Q : Int)=>(zeo z4Q = some r)) (fun (z4Q : Int)=>[(0,(.iface 111 (.pointer (some ⟨z3q,11,none⟩)))),(1,(.int .i64 i0_9332)),(2,(.int .i64 z2S)),(7,(.int .i64 z1s)),(9,(.int .i64 z4Q))]) (fun (z4Q : Int)=>[row (.slice z2d z1K.length z2e) 113 7 (z1K.flatMap yw),stb z3q 81 [z60,z61,z62,z63,z64,z65,z66,z67,z68,z69,z6a,(.slice z2d z1K.length z2e),z6b,z6c]]) ?_ ?_
      · skip
        refine WC.b (WC.a (WL.pu rfl (WL.pu rfl (WL.pu rfl (WL.nil (WX.a (WC.b ?_)))))))
        obtain ⟨zh6,zlq,h⟩:=zp h
        refine WC.a (WL.pu rfl (WL.pu rfl (WL.pu rfl (WL.pu rfl ?_))))
        refine WL.seg true 4 28 (B:=zh6) rfl rfl rfl rfl rfl rfl (fun h=>(Option.some.inj (yn zlq h)).symm) (fun _ zqL=>?_) ?_
        · skip
          have zd5:=ym zlq zqL
          obtain ⟨zlp,zqM,zd5⟩:=zp zd5
          replace zd5:=Option.some.inj zd5
          refine WL.pu rfl (WL.pu rfl (WL.pu rfl ?_))
          refine WL.b (dd:=32) rfl rfl rfl (y2T (l:=[.tmp 30,.tmp 31]) (y56) Try.call87 rfl (yc .h1 rfl) (.cons rfl (.cons rfl .nil))) .nil (ccl hz .nil (.cons .here .nil) fun w pz ho la=>y3s _ _ _ _ _ _ _ zqM w pz (ZA.row (la _ (.head _) _) (RR.y1m (enc:=yw) (fun _=>rfl) _) ⟨w,pz.1⟩)) ?_
          refine WL.pu rfl ?_
          exact WL.ys zd5 rfl rfl .all
        refine WL.nil (WX.a ?_)
        refine WC.cond rfl (fun zh9=>?_) (fun zh9=>?_)
        · replace h:=ym h zh9
          refine WC.a (WL.pu rfl (WL.pu rfl (WL.nil ?_)))
          exact WX.mid (G:=Int) (i64 ((i64 ((i64 (2 * z1s)) + 1)) + 1)) h (.cons rfl (.cons rfl (.cons rfl (.cons rfl (.cons rfl .nil))))) (.cons .here (.cons .here .nil))
        · replace h:=yn h zh9
          refine WC.skip ?_
          exact WX.mid (G:=Int) (i64 ((i64 (2 * z1s)) + 1)) h (.cons rfl (.cons rfl (.cons rfl (.cons rfl (.cons rfl .nil))))) (.cons .here (.cons .here .nil))
      · rintro z4Q h
        replace h:=(zqK z4Q).symm.trans h
        refine WC.b (WC.b ?_)
        obtain ⟨zlo,zqN,h⟩:=zp h
        refine WC.a (WL.pu rfl (WL.pu rfl (WL.pu rfl ?_)))
        refine WL.b (dd:=38) rfl rfl rfl (y2T (l:=[.tmp 36,.tmp 37]) (y56) Try.call87 rfl (yc .h1 rfl) (.cons rfl (.cons rfl .nil))) .nil (ccl hz .nil (.cons .here .nil) fun w pz ho la=>y3s _ _ _ _ _ _ _ zqN w pz (ZA.row (la _ (.head _) _) (RR.y1m (enc:=yw) (fun _=>rfl) _) ⟨w,pz.1⟩)) ?_
        refine WL.pu rfl (WL.nil (WX.a ?_))
        refine WC.cond rfl (fun zha=>?_) (fun zha=>?_)
        · replace h:=ym h zha
          refine WC.exit (WX.yf (WX.y51 rfl (WX.yf (WX.yB ?_))))
          exact WX.mid (G:=Int × List Snetwork_event) ⟨z1s,z1K⟩ ⟨h,zh7⟩ (.cons rfl (.cons rfl .nil)) (.cons .here (.cons .here .nil))
        · replace h:=yn h zha
          refine WC.skip (WX.a (WC.b ?_))
          obtain ⟨zen,zqO,h⟩:=zp h
          refine WC.a (WL.pu rfl (WL.pu rfl (WL.pu rfl ?_)))
          refine WL.y1F (dd:=43) rfl rfl rfl (y2T (l:=[.tmp 41,.tmp 42]) (y57) Try.call88 rfl (yc .h1 rfl) (.cons rfl (.cons rfl .nil))) (.cons .here .nil) (cc hz (.cons .here .nil) fun w pz ho=>y3t _ _ _ _ _ _ _ zqO w pz  ho) ?_
          rintro  zlr
          refine WL.restb (cs':=[z60,z61,z62,z63,z64,z65,z66,z67,z68,z69,z6a,(.slice z2d zen.length z2e),z6b,z6c]) .h1 (by rw [zlr]) ?_
          refine WL.nil (WX.a (WC.a (WL.pu rfl (WL.pu rfl (WL.nil (WX.yh ?_))))))
          exact WX.round (G:=Nat × Int × List Snetwork_event) ⟨zh5,z4Q,zen⟩ ⟨h,(zlr.trans zh7)⟩ (Nat.lt_succ_self _) (.cons rfl (.cons rfl (.cons rfl (.cons rfl .nil)))) (.cons .h1 (.cons .here .nil))
  · rintro z7O z4R ⟨h,zqP⟩
    replace h:=(zqI z7O z4R).symm.trans h
    refine WC.b (WC.a (WL.pu rfl (WL.pu rfl (WL.pu rfl (WL.pu rfl (WL.nil (WX.a (WC.ret ?_))))))))
    obtain rfl:=Option.some.inj h
    refine WX.yi Try.results51 (.tmp rfl .nil) (fun w hw=>?_)
    exact ⟨y10 rfl,zqP,hw.sub (.cons .h1 (.cons .here .nil))⟩
def y2J (zR : List Snetwork_event) : Option Snetwork_event :=
  chk ((0 : Int) ≤ (i64 (((zR.length : Nat) : Int) - 1)) ∧ (i64 (((zR.length : Nat) : Int) - 1)) < ((zR.length : Nat) : Int)) (chk ((0 : Int) ≤ (i64 (((zR.length : Nat) : Int) - 1)) ∧ (i64 (((zR.length : Nat) : Int) - 1)) ≤ ((zR.length : Nat) : Int)) (some (⟨((nth zR (i64 (((zR.length : Nat) : Int) - 1))).fTime),((nth zR (i64 (((zR.length : Nat) : Int) - 1))).fIn_),((nth zR (i64 (((zR.length : Nat) : Int) - 1))).fVl),((nth zR (i64 (((zR.length : Nat) : Int) - 1))).fSent),(⟨(((nth zR (i64 (((zR.length : Nat) : Int) - 1))).fHop).fNode),(((nth zR (i64 (((zR.length : Nat) : Int) - 1))).fHop).fNext),(((nth zR (i64 (((zR.length : Nat) : Int) - 1))).fHop).fLink)⟩ : Sapi_Hop)⟩ : Snetwork_event)))
set_option maxRecDepth 20000 in
theorem y5N (Z : Zp) (z7b : Nat) (z6d : Option Addr) (z6e : Nat) (z93 : Value) (z94 : Value) (z95 : Value) (z96 : Value) (z97 : Value) (z98 : Value) (z99 : Value) (z9a : Value) (z9b : Value) (z9c : Value) (z9d : Value) (z9e : Value) (z9f : Value) (zR : List Snetwork_event) (r : Snetwork_event)
     (h : y2J zR = some r) (w₀ : World) (hz : PZ (fps [stb z7b 81 [z93,z94,z95,z96,z97,z98,z99,z9a,z9b,z9c,z9d,(.slice z6d zR.length z6e),z9e,z9f],row (.slice z6d zR.length z6e) 113 7 (zR.flatMap yw)]) w₀ Z)
    (hown : Hp (fps [stb z7b 81 [z93,z94,z95,z96,z97,z98,z99,z9a,z9b,z9c,z9d,(.slice z6d zR.length z6e),z9e,z9f],row (.slice z6d zR.length z6e) 113 7 (zR.flatMap yw)]) w₀ w₀ [stb z7b 81 [z93,z94,z95,z96,z97,z98,z99,z9a,z9b,z9c,z9d,(.slice z6d zR.length z6e),z9e,z9f],row (.slice z6d zR.length z6e) 113 7 (zR.flatMap yw)]) :
    Calls Try.prog 91 #[(.pointer (some ⟨z7b,11,none⟩))] w₀ fun e w'=>∃ zls : Option Addr,∃ zlt : Nat,e = .returned (.iface 113 (.agg #[(.int .i64 r.fTime),(.int .i64 r.fIn_),(.int .i64 r.fVl),(.int .i64 r.fSent),(.int .i64 r.fHop.fNode),(.int .i64 r.fHop.fNext),(.int .i64 r.fHop.fLink)])) ∧ True ∧ Hp (fps [stb z7b 81 [z93,z94,z95,z96,z97,z98,z99,z9a,z9b,z9c,z9d,(.slice z6d zR.length z6e),z9e,z9f],row (.slice z6d zR.length z6e) 113 7 (zR.flatMap yw)]) w₀ w' [stb z7b 81 [z93,z94,z95,z96,z97,z98,z99,z9a,z9b,z9c,z9d,(.slice zls ((zR.take ((i64 (((zR.length : Nat) : Int) - 1)) : Int).toNat).length) zlt),z9e,z9f],row (.slice zls ((zR.take ((i64 (((zR.length : Nat) : Int) - 1)) : Int).toNat).length) zlt) 113 7 ((zR.take ((i64 (((zR.length : Nat) : Int) - 1)) : Int).toNat).flatMap yw)]:=by
  unfold y2J at h
  refine Calls.yl (vs:=[(.pointer (some ⟨z7b,11,none⟩))]) (pre:=[stb z7b 81 [z93,z94,z95,z96,z97,z98,z99,z9a,z9b,z9c,z9d,(.slice z6d zR.length z6e),z9e,z9f],row (.slice z6d zR.length z6e) 113 7 (zR.flatMap yw)]) (env:=[(0,(.pointer (some ⟨z7b,11,none⟩)))]) Try.func91 rfl Try.ntmps91 rfl (hown) rfl ?_
  refine WC.b (WC.a (WL.pu rfl (WL.nil (WX.a (WC.b (WC.a (WL.pu rfl ?_)))))))
  refine WL.a (d:=6) rfl rfl rfl (yt rfl) ?_
  refine WL.a (d:=7) rfl rfl rfl (yb y4X rfl (yc .here rfl)) ?_
  refine WL.pu rfl (WL.nil (WX.a (WC.b ?_)))
  obtain ⟨zd6,h⟩:=yj h
  refine WC.a (WL.pu rfl (WL.pu rfl ?_))
  refine WL.a (d:=10) rfl rfl rfl (yZ Try.underlying79 rfl) ?_
  refine WL.pu rfl ?_
  refine WL.know (fun w hw=>Hp.y2w .h1 hw (by intro hz'; have:=zd6; rw [hz'] at this; omega)) ?_
  rintro ⟨zwz,rfl⟩
  refine WL.a (d:=12) rfl rfl rfl (yq y4b rfl rfl zd6.1 zd6.2 y18) ?_
  refine WL.a (d:=13) rfl rfl rfl (y1C (cs:=(yw (nth zR (i64 (((zR.length : Nat) : Int) - 1))))) z9B rfl rfl (y1P .h1 (y1y (enc:=yw) (l:=zR) (i:=i64 (((zR.length : Nat) : Int) - 1)) (sz:=7) (fun _=>rfl) zd6.1 zd6.2))) ?_
  refine WL.new (dd:=4) rfl rfl rfl (y23 (cs:=[(.int .i64 0),(.int .i64 0),(.int .i64 0),(.int .i64 0),(.int .i64 0),(.int .i64 0),(.int .i64 0)]) zju rfl) ?_
  intro zwA _
  refine WL.y1l rfl rfl (y1D zdP rfl rfl rfl .here rfl rfl rfl) ?_
  refine WL.nil (WX.a (WC.b ?_))
  obtain ⟨zqQ,h⟩:=yj h
  refine WC.a (WL.pu rfl (WL.pu rfl (WL.pu rfl ?_)))
  refine WL.a (d:=17) rfl rfl rfl (yZ Try.underlying79 rfl) ?_
  refine WL.pu rfl ?_
  refine WL.y6s (dd:=19) (enc:=yw) (ls:=zR) rfl rfl y4b rfl rfl .h2 (fun _=>rfl) zqQ ?_
  intro zlu zlv
  refine WL.a (d:=20) rfl rfl rfl (yt rfl) ?_
  refine WL.y1l rfl rfl (y41 (ds:=[z93,z94,z95,z96,z97,z98,z99,z9a,z9b,z9c,z9d,(.slice zlu ((zR.take ((i64 (((zR.length : Nat) : Int) - 1)) : Int).toNat).length) zlv),z9e,z9f]) y8X rfl rfl rfl rfl rfl .h2 rfl rfl) ?_
  refine WL.nil (WX.a (WC.b (WC.a ?_)))
  refine WL.a (d:=21) rfl rfl rfl (yH z9B rfl (y1j .h2) rfl) ?_
  refine WL.a (d:=22) rfl rfl rfl (y5l Try.underlying113 rfl rfl) ?_
  refine WL.pu rfl (WL.nil (WX.a (WC.ret ?_)))
  obtain rfl:=Option.some.inj h
  refine WX.yi Try.results91 (.tmp rfl .nil) (fun w hw=>?_)
  exact ⟨zlu,zlv,y10 rfl,trivial,hw.sub (.cons .here (.cons .here .nil))⟩
def y2j (z2f : List Snetwork_event) : Option (Snetwork_event × List Snetwork_event) :=
  (y24 z2f).bind fun zhb=>(y1s z2f 0 (i64 (zhb - 1))).bind fun zhc=>(y2b zhc 0 (i64 (zhb - 1))).bind fun zd7=>(y2J zd7.2).bind fun zlw=>some (zlw,(zd7.2.take ((i64 (((zd7.2.length : Nat) : Int) - 1)) : Int).toNat))
set_option maxRecDepth 20000 in
theorem y5O (Z : Zp) (z7c : Nat) (z4d : Option Addr) (z4e : Nat) (z7P : Value) (z7Q : Value) (z7R : Value) (z7S : Value) (z7T : Value) (z7U : Value) (z7V : Value) (z7W : Value) (z7X : Value) (z7Y : Value) (z7Z : Value) (z80 : Value) (z81 : Value) (z2f : List Snetwork_event) (r : Snetwork_event × List Snetwork_event)
     (h : y2j z2f = some r) (w₀ : World) (hz : PZ (fps [stb z7c 81 [z7P,z7Q,z7R,z7S,z7T,z7U,z7V,z7W,z7X,z7Y,z7Z,(.slice z4d z2f.length z4e),z80,z81],row (.slice z4d z2f.length z4e) 113 7 (z2f.flatMap yw)]) w₀ Z)
    (hown : Hp (fps [stb z7c 81 [z7P,z7Q,z7R,z7S,z7T,z7U,z7V,z7W,z7X,z7Y,z7Z,(.slice z4d z2f.length z4e),z80,z81],row (.slice z4d z2f.length z4e) 113 7 (z2f.flatMap yw)]) w₀ w₀ [stb z7c 81 [z7P,z7Q,z7R,z7S,z7T,z7U,z7V,z7W,z7X,z7Y,z7Z,(.slice z4d z2f.length z4e),z80,z81],row (.slice z4d z2f.length z4e) 113 7 (z2f.flatMap yw)]) :
    Calls Try.prog 39 #[(.iface 111 (.pointer (some ⟨z7c,11,none⟩)))] w₀ fun e w'=>∃ zlx : Option Addr,∃ zly : Nat,e = .returned (.iface 113 (.agg #[(.int .i64 r.1.fTime),(.int .i64 r.1.fIn_),(.int .i64 r.1.fVl),(.int .i64 r.1.fSent),(.int .i64 r.1.fHop.fNode),(.int .i64 r.1.fHop.fNext),(.int .i64 r.1.fHop.fLink)])) ∧ True ∧ Hp (fps [stb z7c 81 [z7P,z7Q,z7R,z7S,z7T,z7U,z7V,z7W,z7X,z7Y,z7Z,(.slice z4d z2f.length z4e),z80,z81],row (.slice z4d z2f.length z4e) 113 7 (z2f.flatMap yw)]) w₀ w' [stb z7c 81 [z7P,z7Q,z7R,z7S,z7T,z7U,z7V,z7W,z7X,z7Y,z7Z,(.slice zlx r.2.length zly),z80,z81],row (.slice zlx r.2.length zly) 113 7 (r.2.flatMap yw)]:=by
  unfold y2j at h
  refine Calls.yl (vs:=[(.iface 111 (.pointer (some ⟨z7c,11,none⟩)))]) (pre:=[stb z7c 81 [z7P,z7Q,z7R,z7S,z7T,z7U,z7V,z7W,z7X,z7Y,z7Z,(.slice z4d z2f.length z4e),z80,z81],row (.slice z4d z2f.length z4e) 113 7 (z2f.flatMap yw)]) (env:=[(0,(.iface 111 (.pointer (some ⟨z7c,11,none⟩))))]) Try.func39 rfl Try.ntmps39 rfl (hown) rfl ?_
  refine WC.b (WC.a (WL.pu rfl (WL.nil (WX.a (WC.b ?_)))))
  obtain ⟨zhb,zqR,h⟩:=zp h
  refine WC.a (WL.pu rfl ?_)
  refine WL.b (dd:=5) rfl rfl rfl (y2T (l:=[]) (y6U) Try.call86 rfl (yc .here rfl) .nil) .nil (ccl hz .nil (.cons .h1 .nil) fun w pz ho la=>y4r _ _ _ _ _ zqR w pz (ZA.row (la _ (.head _) _) (RR.y1m (enc:=yw) (fun _=>rfl) _) ⟨w,pz.1⟩)) ?_
  refine WL.pu rfl (WL.pu rfl (WL.nil (WX.a (WC.b ?_))))
  obtain ⟨zhc,zqS,h⟩:=zp h
  refine WC.a (WL.pu rfl (WL.pu rfl ?_))
  refine WL.y1F (dd:=9) rfl rfl rfl (y2T (l:=[.const (.int .i64 0),.tmp 8]) (y57) Try.call88 rfl (yc .here rfl) (.cons rfl (.cons rfl .nil))) (.cons .h1 .nil) (cc hz (.cons .h1 .nil) fun w pz ho=>y3t _ _ _ _ _ _ _ zqS w pz  ho) ?_
  rintro  zqT
  refine WL.restb (cs':=[z7P,z7Q,z7R,z7S,z7T,z7U,z7V,z7W,z7X,z7Y,z7Z,(.slice z4d zhc.length z4e),z80,z81]) .h1 (by rw [zqT]) ?_
  refine WL.nil (WX.a (WC.b ?_))
  obtain ⟨zd7,zqU,h⟩:=zp h
  refine WC.a (WL.pu rfl (WL.pu rfl ?_))
  refine WL.y1F (dd:=12) rfl rfl rfl (zF (l:=[.tmp 10,.const (.int .i64 0),.tmp 11]) Try.call51 (.cons rfl (.cons rfl (.cons rfl .nil)))) (.cons .here (.cons .here .nil)) (cc hz (.cons .here (.cons .here .nil)) fun w pz ho=>y5v _ _ _ _ _ _ _ _ _ _ _ _ _ _ _ _ _ _ _ _ _ zqU w pz  ho) ?_
  rintro  zqV
  refine WL.restb (cs':=[z7P,z7Q,z7R,z7S,z7T,z7U,z7V,z7W,z7X,z7Y,z7Z,(.slice z4d zd7.2.length z4e),z80,z81]) .here (by rw [zqV]) ?_
  refine WL.nil (WX.a (WC.b ?_))
  obtain ⟨zlw,zqW,h⟩:=zp h
  refine WC.a (WL.pu rfl ?_)
  refine WL.y4L (dd:=14) rfl rfl rfl (y7j (l:=[]) (y8K _) Try.call91 rfl .nil) (.cons .here (.cons .here .nil)) (cc hz (.cons .here (.cons .here .nil)) fun w pz ho=>y5N _ _ _ _ _ _ _ _ _ _ _ _ _ _ _ _ _ _ _ zqW w pz  ho) ?_
  rintro zqX zqY _
  refine WL.pu rfl (WL.nil (WX.a (WC.ret ?_)))
  obtain rfl:=Option.some.inj h
  refine WX.yi Try.results39 (.tmp rfl .nil) (fun w hw=>?_)
  exact ⟨zqX,zqY,y10 rfl,trivial,hw.sub (.cons .here (.cons .here .nil))⟩
def y4S (z1U : Int) (z2p : Int) (z3r : Int) : Option Sport_Port :=
  if (((((decide (z1U < 1)) || (decide (z1U > 16))) || (decide (z2p < 0))) || (decide (z2p > 1000))) || (decide (z3r < 0))) || (decide (z3r > 1073741824)) then none else some (⟨(⟨z1U,z2p,z3r⟩ : Sport_numbers),0,0,([] : List Sport_frame)⟩ : Sport_Port)
set_option maxRecDepth 20000 in
theorem y9h (Z : Zp)  (z1U : Int) (z2p : Int) (z3r : Int) (r : Sport_Port)
     (h : y4S z1U z2p z3r = some r) (w₀ : World) (hz : PZ [] w₀ Z) :
    Calls Try.prog 52 #[(.int .i64 z1U),(.int .i64 z2p),(.int .i64 z3r)] w₀ fun e w'=>∃ zlz : Nat,∃ zlA : Option Addr,∃ zlB : Nat,e = .returned (.tuple #[(.pointer (some ⟨zlz,0,none⟩)),(.int .i64 0)]) ∧ True ∧ Hp [] w₀ w' [stb zlz 143 [(.int .i64 r.fNumbers.fSlow),(.int .i64 r.fNumbers.fDelay),(.int .i64 r.fNumbers.fStore),(.int .i64 r.fNow),(.int .i64 r.fLast),(.slice zlA r.fFrames.length zlB)],row (.slice zlA r.fFrames.length zlB) 146 2 (r.fFrames.flatMap y1W)]:=by
  unfold y4S at h
  refine Calls.yl (vs:=[(.int .i64 z1U),(.int .i64 z2p),(.int .i64 z3r)]) (pre:=[]) (env:=[(0,(.int .i64 z1U)),(1,(.int .i64 z2p)),(2,(.int .i64 z3r))]) Try.func52 rfl Try.ntmps52 rfl (Hp.nil w₀ _) rfl ?_
  refine WC.b (WC.a (WL.pu rfl (WL.pu rfl (WL.nil (WX.a (WC.b (WC.b (WC.a (WL.pu rfl (WL.pu rfl (WL.pu rfl ?_)))))))))))
  refine WL.seg false 2 10 (B:=(decide (z1U < 1)) || (decide (z1U > 16))) rfl rfl rfl rfl rfl rfl (fun h=>(y1X h).symm) (fun _ zqZ=>?_) ?_
  · skip
    refine WL.pu rfl (WL.pu rfl (WL.pu rfl ?_))
    exact WL.ys (y1Y zqZ) rfl rfl .all
  refine WL.pu rfl ?_
  refine WL.seg false 2 14 (B:=((decide (z1U < 1)) || (decide (z1U > 16))) || (decide (z2p < 0))) rfl rfl rfl rfl rfl rfl (fun h=>(y1X h).symm) (fun _ zr0=>?_) ?_
  · skip
    refine WL.pu rfl (WL.pu rfl (WL.pu rfl ?_))
    exact WL.ys (y1Y zr0) rfl rfl .all
  refine WL.pu rfl ?_
  refine WL.seg false 2 18 (B:=(((decide (z1U < 1)) || (decide (z1U > 16))) || (decide (z2p < 0))) || (decide (z2p > 1000))) rfl rfl rfl rfl rfl rfl (fun h=>(y1X h).symm) (fun _ zr1=>?_) ?_
  · skip
    refine WL.pu rfl (WL.pu rfl (WL.pu rfl ?_))
    exact WL.ys (y1Y zr1) rfl rfl .all
  refine WL.pu rfl ?_
  refine WL.seg false 2 22 (B:=((((decide (z1U < 1)) || (decide (z1U > 16))) || (decide (z2p < 0))) || (decide (z2p > 1000))) || (decide (z3r < 0))) rfl rfl rfl rfl rfl rfl (fun h=>(y1X h).symm) (fun _ zr2=>?_) ?_
  · skip
    refine WL.pu rfl (WL.pu rfl (WL.pu rfl ?_))
    exact WL.ys (y1Y zr2) rfl rfl .all
  refine WL.pu rfl ?_
  refine WL.seg false 2 26 (B:=(((((decide (z1U < 1)) || (decide (z1U > 16))) || (decide (z2p < 0))) || (decide (z2p > 1000))) || (decide (z3r < 0))) || (decide (z3r > 1073741824))) rfl rfl rfl rfl rfl rfl (fun h=>(y1X h).symm) (fun _ zr3=>?_) ?_
  · skip
    refine WL.pu rfl (WL.pu rfl (WL.pu rfl ?_))
    exact WL.ys (y1Y zr3) rfl rfl .all
  refine WL.nil (WX.a ?_)
  refine WC.cond rfl (fun zhd=>?_) (fun zhd=>?_)
  · replace h:=ym h zhd
    refine WC.b (WC.a (WL.pu rfl (WL.pu rfl (WL.nil (WX.a (WC.ret (WX.yg ?_)))))))
    cases h
  · replace h:=yn h zhd
    refine WC.skip (WX.a (WC.b (WC.a (WL.pu rfl (WL.pu rfl (WL.pu rfl ?_))))))
    refine WL.a (d:=33) rfl rfl rfl (y1x (v:=(.agg #[(.int .i64 z1U),(.int .i64 z2p),(.int .i64 z3r)])) (Eos.parts (l:=[.tmp 30,.tmp 31,.tmp 32]) (.cons rfl (.cons rfl (.cons rfl .nil))) [0,1,2]) (fun _=>by kernel_rfl)) ?_
    refine WL.a (d:=34) rfl rfl rfl (y1x (v:=(.agg #[(.int .i64 z1U),(.int .i64 z2p),(.int .i64 z3r),(.int .i64 0),(.int .i64 0),(.slice none 0 0)])) (Eos.parts (l:=[.tmp 33]) (.cons rfl .nil) [0]) (fun _=>by kernel_rfl)) ?_
    refine WL.new (dd:=35) rfl rfl rfl (y2c (cs:=[(.int .i64 z1U),(.int .i64 z2p),(.int .i64 z3r),(.int .i64 0),(.int .i64 0),(.slice none 0 0)]) rfl rfl) ?_
    intro zr4 _
    refine WL.pu rfl (WL.pu rfl (WL.nil (WX.a (WC.ret ?_))))
    refine WX.nilRow 146 2 ?_
    obtain rfl:=Option.some.inj h
    refine WX.yi Try.results52 (.tmp rfl (.tmp rfl .nil)) (fun w hw=>?_)
    exact ⟨zr4,none,0,ret2 rfl rfl,trivial,hw.sub (.cons .h1 (.cons .here .nil))⟩
def y37 (z1e : Sapi_Config) (zep : List (List Sapi_Hop)) (zeq : List zSt) (z82 : List (Snetwork_exit × Sport_Port)) (zer : List Snetwork_event) (zes : List Sapi_Come) (zet : List Sapi_Come) (zK : Sapi_Hop) : Option (List (Snetwork_exit × Sport_Port)) :=
  jp1 (fun (z83 : List (Snetwork_exit × Sport_Port))=>some z83) fun zeu=>if !y1o z82 (⟨zK.fNode,zK.fLink⟩ : Snetwork_exit) then jp2 (fun (z84 : Int) (z85 : Int)=>chk ((0 : Int) ≤ zK.fLink ∧ zK.fLink < ((z1e.fLinks.length : Nat) : Int)) ((y4S ((nth z1e.fLinks zK.fLink).fSlow) z84 z85).bind fun z9g=>zeu (yU z82 (⟨zK.fNode,zK.fLink⟩ : Snetwork_exit) z9g))) fun zev=>if decide ((i64 (zK.fNode - ((z1e.fModules.length : Nat) : Int))) ≥ 0) then chk ((0 : Int) ≤ (i64 (zK.fNode - ((z1e.fModules.length : Nat) : Int))) ∧ (i64 (zK.fNode - ((z1e.fModules.length : Nat) : Int))) < ((z1e.fSwitches.length : Nat) : Int)) (zev ((nth z1e.fSwitches (i64 (zK.fNode - ((z1e.fModules.length : Nat) : Int)))).fDelay) ((nth z1e.fSwitches (i64 (zK.fNode - ((z1e.fModules.length : Nat) : Int)))).fStore)) else zev 0 1073741824 else zeu z82
set_option maxRecDepth 20000 in
theorem y75 (Z : Zp) (zaG : Addr) (zlC : Option Addr) (zlD : Nat) (zlE : Option Addr) (zlF : Nat) (zlG : Option Addr) (zlH : Nat) (zlI : Option Addr) (zlJ : Nat) (zlK : Option Addr) (zlL : Nat) (zlM : Option Addr) (zlN : Nat) (zlO : Option Addr) (zlP : Nat) (zlQ : Option Addr) (zlR : Nat) (zlS : Option Addr) (zlT : Nat) (zlU : Option Addr) (zlV : Nat) (z6f : Nat) (z2C : List (Snetwork_exit × ((Nat × (Option Addr × Nat)) × Sport_Port))) (zlW : Option Addr) (zlX : Nat) (zlY : Option Addr) (zlZ : Nat) (zm0 : Option Addr) (zm1 : Nat) (z1e : Sapi_Config) (zep : List (List Sapi_Hop)) (zeq : List zSt) (z82 : List (Snetwork_exit × Sport_Port)) (zer : List Snetwork_event) (zes : List Sapi_Come) (zet : List Sapi_Come) (zK : Sapi_Hop) (r : (List (Snetwork_exit × Sport_Port)))
     (h : y37 z1e zep zeq z82 zer zes zet zK = some r) (w₀ : World) (hz : PZ (fps [y16 z6f (fun x=>Value.agg (y1N x).toArray) Value.pointer (y1p z2C),y1n z12 z2C]) w₀ Z)
     (zwB : ZS Z 4 (y2x Z) zlC zlD z1e.fModules)
     (zwC : ZS Z 4 (y2O Z) zlE zlF z1e.fChannels)
     (zm2 : ZS Z 4 (fun r x=>r = e64 x) zlG zlH z1e.fSwitches)
     (zr5 : ZS Z 4 (fun r x=>r = e62 x) zlI zlJ z1e.fLinks)
     (zwD : ZS Z 7 (y2F Z) zlK zlL z1e.fVLs)
     (zwE : ZS Z 5 (fun r x=>r = y34 x) zlM zlN z1e.fHealth)
     (zwF : ZS Z 3 (y2P Z) zlO zlP z1e.fCauses)
     (zwG : ZS Z 4 (fun r x=>r = y35 x) zlQ zlR z1e.fVersions)
     (zwH : ZS Z 1 (p55 Z) zlS zlT zep)
     (zwI : ZS Z 3 (fun r x=>r = e53 x) zlU zlV zeq)
     (zhe : dat z2C = z82)
     (zwJ : ZS Z 7 (fun r x=>r = yw x) zlW zlX zer)
     (zwK : ZS Z 3 (fun r x=>r = e50 x) zlY zlZ zes)
     (zwL : ZS Z 3 (fun r x=>r = e50 x) zm0 zm1 zet)
     (z9h : ZC Z zaG [(.slice zlC z1e.fModules.length zlD),(.slice zlE z1e.fChannels.length zlF),(.slice zlG z1e.fSwitches.length zlH),(.slice zlI z1e.fLinks.length zlJ),(.slice zlK z1e.fVLs.length zlL),(.slice zlM z1e.fHealth.length zlN),(.slice zlO z1e.fCauses.length zlP),(.slice zlQ z1e.fVersions.length zlR),(.slice zlS zep.length zlT),(.slice zlU zeq.length zlV),(.map (some z6f)),(.slice zlW zer.length zlX),(.slice zlY zes.length zlZ),(.slice zm0 zet.length zm1)])
    (hown : Hp (fps [y16 z6f (fun x=>Value.agg (y1N x).toArray) Value.pointer (y1p z2C),y1n z12 z2C]) w₀ w₀ [y16 z6f (fun x=>Value.agg (y1N x).toArray) Value.pointer (y1p z2C),y1n z12 z2C]) :
    Calls Try.prog 40 #[(.pointer (some zaG)),(.agg #[(.int .i64 zK.fNode),(.int .i64 zK.fNext),(.int .i64 zK.fLink)])] w₀ fun e w'=>∃ zew : List (Snetwork_exit × ((Nat × (Option Addr × Nat)) × Sport_Port)),e = .returned (.pointer (yr (y1p zew) (⟨zK.fNode,zK.fLink⟩ : Snetwork_exit) (none : Option Addr))) ∧ (dat zew = r) ∧ Hp (fps [y16 z6f (fun x=>Value.agg (y1N x).toArray) Value.pointer (y1p z2C),y1n z12 z2C]) w₀ w' [y16 z6f (fun x=>Value.agg (y1N x).toArray) Value.pointer (y1p zew),y1n z12 zew]:=by
  unfold y37 at h
  refine Calls.yl (vs:=[(.pointer (some zaG)),(.agg #[(.int .i64 zK.fNode),(.int .i64 zK.fNext),(.int .i64 zK.fLink)])]) (pre:=[y16 z6f (fun x=>Value.agg (y1N x).toArray) Value.pointer (y1p z2C),y1n z12 z2C]) (env:=[(0,(.pointer (some zaG))),(1,(.agg #[(.int .i64 zK.fNode),(.int .i64 zK.fNext),(.int .i64 zK.fLink)]))]) Try.func40 rfl Try.ntmps40 rfl (hown) rfl ?_
  refine WC.b (WC.a ?_)
  refine WL.new (dd:=3) rfl rfl rfl (y2c (cs:=[(.int .i64 zK.fNode),(.int .i64 zK.fNext),(.int .i64 zK.fLink)]) rfl rfl) ?_
  intro zhf _
  refine WL.pu rfl (WL.nil (WX.a (WC.b (WC.a ?_))))
  refine WL.a (d:=9) rfl rfl rfl (ya y3f rfl rfl) ?_
  refine WL.a (d:=10) rfl rfl rfl (yb ye rfl (yc .here rfl)) ?_
  refine WL.a (d:=11) rfl rfl rfl (ya y5H rfl rfl) ?_
  refine WL.a (d:=12) rfl rfl rfl (yb ye rfl (yc .here rfl)) ?_
  refine WL.a (d:=13) rfl rfl rfl (y1x (v:=(.agg #[(.int .i64 zK.fNode),(.int .i64 zK.fLink)])) (Eos.parts (l:=[.tmp 10,.tmp 12]) (.cons rfl (.cons rfl .nil)) [0,1]) (fun _=>by kernel_rfl)) ?_
  refine WL.new (dd:=5) rfl rfl rfl (y23 (cs:=[(.int .i64 0),(.int .i64 0)]) znS rfl) ?_
  intro zd8 _
  refine WL.y1l rfl rfl (y1D znT rfl rfl rfl .here rfl rfl rfl) ?_
  refine WL.nil (WX.a ?_)
  obtain ⟨zeu,zr6,h⟩:=y1d h
  refine WC.y2p (fun (z83 : List (Snetwork_exit × Sport_Port)) (z9i : List (Snetwork_exit × ((Nat × (Option Addr × Nat)) × Sport_Port)))=>(zeu z83 = some r) ∧ (dat z9i = z83)) (fun (z83 : List (Snetwork_exit × Sport_Port)) (z9i : List (Snetwork_exit × ((Nat × (Option Addr × Nat)) × Sport_Port)))=>[(0,(.pointer (some zaG))),(5,(.pointer (some ⟨zd8,0,none⟩)))]) (fun (z83 : List (Snetwork_exit × Sport_Port)) (z9i : List (Snetwork_exit × ((Nat × (Option Addr × Nat)) × Sport_Port)))=>[stb zd8 136 [(.int .i64 zK.fNode),(.int .i64 zK.fLink)],y16 z6f (fun x=>Value.agg (y1N x).toArray) Value.pointer (y1p z9i),y1n z12 z9i]) ?_ ?_
  · skip
    refine WC.b ?_
    refine WC.yV (fun i=>[].contains i) [] rfl ?_
    refine WD.a (i:=0) (d:=14) (by kernel_rfl) rfl (z2 (by kernel_rfl)) (z3 (by kernel_rfl)) rfl rfl rfl (fun _=>q_m rfl) ?_
    refine WD.a (i:=1) (d:=15) (by kernel_rfl) rfl (z2 (by kernel_rfl)) (z3 (by kernel_rfl)) rfl rfl rfl (fun _=>yt rfl) ?_
    refine WD.a (i:=2) (d:=16) (by kernel_rfl) rfl (z2 (by kernel_rfl)) (z3 (by kernel_rfl)) rfl rfl rfl (fun _=>ya y7D rfl rfl) ?_
    refine WD.e (i:=3) (d:=17) (by kernel_rfl) rfl (z2 (by kernel_rfl)) (z3 (by kernel_rfl)) rfl rfl rfl (yb y7E rfl (y1G hz.pv z9h rfl)) ?_
    refine WD.e (i:=4) (d:=18) (by kernel_rfl) rfl (z2 (by kernel_rfl)) (z3 (by kernel_rfl)) rfl rfl rfl (yH zfA rfl (y1j .here) rfl) ?_
    refine WD.e (i:=5) (d:=19) (by kernel_rfl) rfl (z2 (by kernel_rfl)) (z3 (by kernel_rfl)) rfl rfl rfl (y4w (k:=(⟨zK.fNode,zK.fLink⟩ : Snetwork_exit)) (dflt:=(none : Option Addr)) zfB Try.underlying77 zjv rfl rfl rfl .h2) ?_
    refine WD.a (i:=6) (d:=20) (by kernel_rfl) rfl (z2 (by kernel_rfl)) (z3 (by kernel_rfl)) rfl rfl rfl (fun _=>q_eqlPN zhe Try.underlying116 rfl rfl) ?_
    refine WD.done (by kernel_rfl) ?_
    refine WX.a ?_
    refine WC.cond rfl (fun zhg=>?_) (fun zhg=>?_)
    · replace h:=ym h zhg
      refine WC.b (WC.a (WL.pu rfl (WL.pu rfl (WL.nil (WX.a ?_)))))
      obtain ⟨zev,zr7,h⟩:=y32 h
      refine WC.y2p (fun (z84 : Int) (z85 : Int)=>(zev z84 z85 = some r)) (fun (z84 : Int) (z85 : Int)=>[(0,(.pointer (some zaG))),(3,(.pointer (some ⟨zhf,0,none⟩))),(5,(.pointer (some ⟨zd8,0,none⟩))),(6,(.int .i64 z84)),(7,(.int .i64 z85))]) (fun (z84 : Int) (z85 : Int)=>[stb zhf 59 [(.int .i64 zK.fNode),(.int .i64 zK.fNext),(.int .i64 zK.fLink)],stb zd8 136 [(.int .i64 zK.fNode),(.int .i64 zK.fLink)],y16 z6f (fun x=>Value.agg (y1N x).toArray) Value.pointer (y1p z2C),y1n z12 z2C]) ?_ ?_
      · skip
        refine WC.b ?_
        refine WC.yV (fun i=>[].contains i) [] rfl ?_
        refine WD.a (i:=0) (d:=21) (by kernel_rfl) rfl (z2 (by kernel_rfl)) (z3 (by kernel_rfl)) rfl rfl rfl (fun _=>ya y3f rfl rfl) ?_
        refine WD.e (i:=1) (d:=22) (by kernel_rfl) rfl (z2 (by kernel_rfl)) (z3 (by kernel_rfl)) rfl rfl rfl (yb ye rfl (yc .h1 rfl)) ?_
        refine WD.a (i:=2) (d:=23) (by kernel_rfl) rfl (z2 (by kernel_rfl)) (z3 (by kernel_rfl)) rfl rfl rfl (fun _=>q_m rfl) ?_
        refine WD.a (i:=3) (d:=24) (by kernel_rfl) rfl (z2 (by kernel_rfl)) (z3 (by kernel_rfl)) rfl rfl rfl (fun _=>yt rfl) ?_
        refine WD.a (i:=4) (d:=25) (by kernel_rfl) rfl (z2 (by kernel_rfl)) (z3 (by kernel_rfl)) rfl rfl rfl (fun _=>ya y5J rfl rfl) ?_
        refine WD.a (i:=5) (d:=26) (by kernel_rfl) rfl (z2 (by kernel_rfl)) (z3 (by kernel_rfl)) rfl rfl rfl (fun _=>ya y3o rfl rfl) ?_
        refine WD.e (i:=6) (d:=27) (by kernel_rfl) rfl (z2 (by kernel_rfl)) (z3 (by kernel_rfl)) rfl rfl rfl (yb y3p rfl (y1G hz.pv z9h rfl)) ?_
        refine WD.a (i:=7) (d:=28) (by kernel_rfl) rfl (z2 (by kernel_rfl)) (z3 (by kernel_rfl)) rfl rfl rfl (fun _=>yZ Try.underlying22 rfl) ?_
        refine WD.a (i:=8) (d:=29) (by kernel_rfl) rfl (z2 (by kernel_rfl)) (z3 (by kernel_rfl)) rfl rfl rfl (fun _=>y45 rfl rfl rfl) ?_
        refine WD.a (i:=9) (d:=8) (by kernel_rfl) rfl (z2 (by kernel_rfl)) (z3 (by kernel_rfl)) rfl rfl rfl (fun _=>q_z rfl) ?_
        refine WD.done (by kernel_rfl) ?_
        refine WX.a (WC.b (WC.a (WL.pu rfl (WL.pu rfl (WL.nil (WX.a ?_))))))
        refine WC.cond rfl (fun zhh=>?_) (fun zhh=>?_)
        · replace h:=ym h zhh
          obtain ⟨zm3,h⟩:=yj h
          refine WC.yV (fun i=>[].contains i) [] rfl ?_
          refine WD.a (i:=0) (d:=32) (by kernel_rfl) rfl (z2 (by kernel_rfl)) (z3 (by kernel_rfl)) rfl rfl rfl (fun _=>q_m rfl) ?_
          refine WD.a (i:=1) (d:=33) (by kernel_rfl) rfl (z2 (by kernel_rfl)) (z3 (by kernel_rfl)) rfl rfl rfl (fun _=>yt rfl) ?_
          refine WD.a (i:=2) (d:=34) (by kernel_rfl) rfl (z2 (by kernel_rfl)) (z3 (by kernel_rfl)) rfl rfl rfl (fun _=>ya y5J rfl rfl) ?_
          refine WD.a (i:=3) (d:=35) (by kernel_rfl) rfl (z2 (by kernel_rfl)) (z3 (by kernel_rfl)) rfl rfl rfl (fun _=>ya y4x rfl rfl) ?_
          refine WD.e (i:=4) (d:=36) (by kernel_rfl) rfl (z2 (by kernel_rfl)) (z3 (by kernel_rfl)) rfl rfl rfl (yb y4y rfl (y1G hz.pv z9h rfl)) ?_
          refine WD.a (i:=5) (d:=37) (by kernel_rfl) rfl (z2 (by kernel_rfl)) (z3 (by kernel_rfl)) rfl rfl rfl (fun _=>q_m rfl) ?_
          refine WD.znth (j:=6) (dd:=38) (by kernel_rfl) rfl (z2 (by kernel_rfl)) (z3 (by kernel_rfl)) rfl rfl (Z:=Z) (Pr:=(fun r x=>r = e64 x)) y5I rfl rfl zm2 zm3 ?_
          rintro zwM zwN zr8 zwO rfl
          refine WD.a (i:=7) (d:=39) (by kernel_rfl) rfl (z2 (by kernel_rfl)) (z3 (by kernel_rfl)) rfl rfl rfl (fun _=>ya y6K rfl rfl) ?_
          refine WD.e (i:=8) (d:=40) (by kernel_rfl) rfl (z2 (by kernel_rfl)) (z3 (by kernel_rfl)) rfl rfl rfl (yb ye rfl (y1G hz.pv zr8 rfl)) ?_
          refine WD.a (i:=9) (d:=41) (by kernel_rfl) rfl (z2 (by kernel_rfl)) (z3 (by kernel_rfl)) rfl rfl rfl (fun _=>q_m rfl) ?_
          refine WD.a (i:=10) (d:=42) (by kernel_rfl) rfl (z2 (by kernel_rfl)) (z3 (by kernel_rfl)) rfl rfl rfl (fun _=>yt rfl) ?_
          refine WD.a (i:=11) (d:=43) (by kernel_rfl) rfl (z2 (by kernel_rfl)) (z3 (by kernel_rfl)) rfl rfl rfl (fun _=>ya y5J rfl rfl) ?_
          refine WD.a (i:=12) (d:=44) (by kernel_rfl) rfl (z2 (by kernel_rfl)) (z3 (by kernel_rfl)) rfl rfl rfl (fun _=>ya y4x rfl rfl) ?_
          refine WD.e (i:=13) (d:=45) (by kernel_rfl) rfl (z2 (by kernel_rfl)) (z3 (by kernel_rfl)) rfl rfl rfl (yb y4y rfl (y1G hz.pv z9h rfl)) ?_
          refine WD.a (i:=14) (d:=46) (by kernel_rfl) rfl (z2 (by kernel_rfl)) (z3 (by kernel_rfl)) rfl rfl rfl (fun _=>q_m rfl) ?_
          refine WD.znth (j:=15) (dd:=47) (by kernel_rfl) rfl (z2 (by kernel_rfl)) (z3 (by kernel_rfl)) rfl rfl (Z:=Z) (Pr:=(fun r x=>r = e64 x)) y5I rfl rfl zm2 zm3 ?_
          rintro zwP zwQ zr9 zwR rfl
          refine WD.a (i:=16) (d:=48) (by kernel_rfl) rfl (z2 (by kernel_rfl)) (z3 (by kernel_rfl)) rfl rfl rfl (fun _=>ya y7A rfl rfl) ?_
          refine WD.e (i:=17) (d:=49) (by kernel_rfl) rfl (z2 (by kernel_rfl)) (z3 (by kernel_rfl)) rfl rfl rfl (yb ye rfl (y1G hz.pv zr9 rfl)) ?_
          refine WD.a (i:=18) (d:=6) (by kernel_rfl) rfl (z2 (by kernel_rfl)) (z3 (by kernel_rfl)) rfl rfl rfl (fun _=>q_z rfl) ?_
          refine WD.a (i:=19) (d:=7) (by kernel_rfl) rfl (z2 (by kernel_rfl)) (z3 (by kernel_rfl)) rfl rfl rfl (fun _=>q_z rfl) ?_
          refine WD.done (by kernel_rfl) ?_
          exact WX.mid (G:=Int × Int) ⟨((nth z1e.fSwitches (i64 (zK.fNode - ((z1e.fModules.length : Nat) : Int)))).fDelay),((nth z1e.fSwitches (i64 (zK.fNode - ((z1e.fModules.length : Nat) : Int)))).fStore)⟩ h (.cons rfl (.cons rfl (.cons rfl (.cons rfl (.cons rfl .nil))))) (.cons .h1 (.cons .here (.cons .here (.cons .here .nil))))
        · replace h:=yn h zhh
          refine WC.skip ?_
          exact WX.mid (G:=Int × Int) ⟨0,1073741824⟩ h (.cons rfl (.cons rfl (.cons rfl (.cons rfl (.cons rfl .nil))))) (.cons .h1 (.cons .here (.cons .here (.cons .here .nil))))
      · rintro z84 z85 h
        replace h:=(zr7 z84 z85).symm.trans h
        obtain ⟨zra,h⟩:=yj h
        obtain ⟨z9g,zrb,h⟩:=zp h
        refine WC.yV (fun i=>[21].contains i) [] rfl ?_
        refine WD.a (i:=0) (d:=51) (by kernel_rfl) rfl (z2 (by kernel_rfl)) (z3 (by kernel_rfl)) rfl rfl rfl (fun _=>q_m rfl) ?_
        refine WD.a (i:=1) (d:=52) (by kernel_rfl) rfl (z2 (by kernel_rfl)) (z3 (by kernel_rfl)) rfl rfl rfl (fun _=>yt rfl) ?_
        refine WD.a (i:=2) (d:=53) (by kernel_rfl) rfl (z2 (by kernel_rfl)) (z3 (by kernel_rfl)) rfl rfl rfl (fun _=>ya y7D rfl rfl) ?_
        refine WD.e (i:=3) (d:=54) (by kernel_rfl) rfl (z2 (by kernel_rfl)) (z3 (by kernel_rfl)) rfl rfl rfl (yb y7E rfl (y1G hz.pv z9h rfl)) ?_
        refine WD.e (i:=4) (d:=55) (by kernel_rfl) rfl (z2 (by kernel_rfl)) (z3 (by kernel_rfl)) rfl rfl rfl (yH zfA rfl (y1j .h1) rfl) ?_
        refine WD.a (i:=5) (d:=56) (by kernel_rfl) rfl (z2 (by kernel_rfl)) (z3 (by kernel_rfl)) rfl rfl rfl (fun _=>q_m rfl) ?_
        refine WD.a (i:=6) (d:=57) (by kernel_rfl) rfl (z2 (by kernel_rfl)) (z3 (by kernel_rfl)) rfl rfl rfl (fun _=>yt rfl) ?_
        refine WD.a (i:=7) (d:=58) (by kernel_rfl) rfl (z2 (by kernel_rfl)) (z3 (by kernel_rfl)) rfl rfl rfl (fun _=>ya y5J rfl rfl) ?_
        refine WD.a (i:=8) (d:=59) (by kernel_rfl) rfl (z2 (by kernel_rfl)) (z3 (by kernel_rfl)) rfl rfl rfl (fun _=>ya y5C rfl rfl) ?_
        refine WD.e (i:=9) (d:=60) (by kernel_rfl) rfl (z2 (by kernel_rfl)) (z3 (by kernel_rfl)) rfl rfl rfl (yb y5D rfl (y1G hz.pv z9h rfl)) ?_
        refine WD.a (i:=10) (d:=61) (by kernel_rfl) rfl (z2 (by kernel_rfl)) (z3 (by kernel_rfl)) rfl rfl rfl (fun _=>ya y5H rfl rfl) ?_
        refine WD.e (i:=11) (d:=62) (by kernel_rfl) rfl (z2 (by kernel_rfl)) (z3 (by kernel_rfl)) rfl rfl rfl (yb ye rfl (yc .here rfl)) ?_
        refine WD.znth (j:=12) (dd:=63) (by kernel_rfl) rfl (z2 (by kernel_rfl)) (z3 (by kernel_rfl)) rfl rfl (Z:=Z) (Pr:=(fun r x=>r = e62 x)) y7k rfl rfl zr5 zra ?_
        rintro zwS zwT zrc zwU rfl
        refine WD.a (i:=13) (d:=64) (by kernel_rfl) rfl (z2 (by kernel_rfl)) (z3 (by kernel_rfl)) rfl rfl rfl (fun _=>ya y6J rfl rfl) ?_
        refine WD.e (i:=14) (d:=65) (by kernel_rfl) rfl (z2 (by kernel_rfl)) (z3 (by kernel_rfl)) rfl rfl rfl (yb ye rfl (y1G hz.pv zrc rfl)) ?_
        refine WD.a (i:=15) (d:=66) (by kernel_rfl) rfl (z2 (by kernel_rfl)) (z3 (by kernel_rfl)) rfl rfl rfl (fun _=>q_m rfl) ?_
        refine WD.a (i:=16) (d:=67) (by kernel_rfl) rfl (z2 (by kernel_rfl)) (z3 (by kernel_rfl)) rfl rfl rfl (fun _=>q_m rfl) ?_
        refine WD.call3 (i:=17) (dd:=68) rfl (by kernel_rfl) rfl rfl rfl (.inr rfl) (zF (l:=[.tmp 65,.tmp 66,.tmp 67]) Try.call52 (.cons rfl (.cons rfl (.cons rfl .nil)))) .nil (cc hz .nil fun w pz ho=>y9h _ _ _ _ _ zrb w pz ) ?_
        rintro zd9 zex zey _
        refine WD.a (i:=18) (d:=50) (by kernel_rfl) rfl (z2 (by kernel_rfl)) (z3 (by kernel_rfl)) rfl rfl rfl (fun _=>q_m rfl) ?_
        refine WD.a (i:=19) (d:=69) (by kernel_rfl) rfl (z2 (by kernel_rfl)) (z3 (by kernel_rfl)) rfl rfl rfl (fun _=>y4J rfl rfl) ?_
        refine WD.a (i:=20) (d:=70) (by kernel_rfl) rfl (z2 (by kernel_rfl)) (z3 (by kernel_rfl)) rfl rfl rfl (fun _=>y4J rfl rfl) ?_
        refine WD.forced0 (i:=21) rfl (by kernel_rfl) rfl rfl rfl (Sin.of .nil) (y4H (k:=(⟨zK.fNode,zK.fLink⟩ : Snetwork_exit)) (v:=(some ⟨zd9,0,none⟩ : Option Addr)) zfB Try.underlying77 rfl rfl rfl rfl .h4) ?_
        refine WD.ghL (fun _ h=>Hp.y9f (els:=z12) (k:=(⟨zK.fNode,zK.fLink⟩ : Snetwork_exit)) (b:=zd9) (g:=(zex,zey)) (x:=z9g) .h5 (.cons .h1 (.cons .h1 .nil)) h) ?_
        refine WD.ghL (M:=[y16 z6f (fun x=>Value.agg (y1N x).toArray) Value.pointer (y1p (yU z2C (⟨zK.fNode,zK.fLink⟩ : Snetwork_exit) ((zd9,(zex,zey)),z9g))),y1n z12 (yU z2C (⟨zK.fNode,zK.fLink⟩ : Snetwork_exit) ((zd9,(zex,zey)),z9g)),stb zhf 59 [(.int .i64 zK.fNode),(.int .i64 zK.fNext),(.int .i64 zK.fLink)],stb zd8 136 [(.int .i64 zK.fNode),(.int .i64 zK.fLink)]]) (fun _ h=>Hp.y8l .h1 (y7Y _ _ _ _ _).symm h) ?_
        refine WD.done (by kernel_rfl) ?_
        exact WX.mid (G:=(List (Snetwork_exit × Sport_Port)) × (List (Snetwork_exit × ((Nat × (Option Addr × Nat)) × Sport_Port)))) ⟨(yU z82 (⟨zK.fNode,zK.fLink⟩ : Snetwork_exit) z9g),(yU z2C (⟨zK.fNode,zK.fLink⟩ : Snetwork_exit) ((zd9,(zex,zey)),z9g))⟩ ⟨h,(y5Z zhe _ _ _)⟩ (.cons rfl (.cons rfl .nil)) (.cons .h3 (.cons .here (.cons .here .nil)))
    · replace h:=yn h zhg
      refine WC.skip ?_
      exact WX.mid (G:=(List (Snetwork_exit × Sport_Port)) × (List (Snetwork_exit × ((Nat × (Option Addr × Nat)) × Sport_Port)))) ⟨z82,z2C⟩ ⟨h,zhe⟩ (.cons rfl (.cons rfl .nil)) (.cons .here (.cons .h1 (.cons .h1 .nil)))
  · rintro z83 z9i ⟨h,zrd⟩
    replace h:=(zr6 z83).symm.trans h
    refine WC.b ?_
    refine WC.yV (fun i=>[].contains i) [] rfl ?_
    refine WD.a (i:=0) (d:=71) (by kernel_rfl) rfl (z2 (by kernel_rfl)) (z3 (by kernel_rfl)) rfl rfl rfl (fun _=>q_m rfl) ?_
    refine WD.a (i:=1) (d:=72) (by kernel_rfl) rfl (z2 (by kernel_rfl)) (z3 (by kernel_rfl)) rfl rfl rfl (fun _=>yt rfl) ?_
    refine WD.a (i:=2) (d:=73) (by kernel_rfl) rfl (z2 (by kernel_rfl)) (z3 (by kernel_rfl)) rfl rfl rfl (fun _=>ya y7D rfl rfl) ?_
    refine WD.e (i:=3) (d:=74) (by kernel_rfl) rfl (z2 (by kernel_rfl)) (z3 (by kernel_rfl)) rfl rfl rfl (yb y7E rfl (y1G hz.pv z9h rfl)) ?_
    refine WD.e (i:=4) (d:=75) (by kernel_rfl) rfl (z2 (by kernel_rfl)) (z3 (by kernel_rfl)) rfl rfl rfl (yH zfA rfl (y1j .here) rfl) ?_
    refine WD.e (i:=5) (d:=76) (by kernel_rfl) rfl (z2 (by kernel_rfl)) (z3 (by kernel_rfl)) rfl rfl rfl (y4w (k:=(⟨zK.fNode,zK.fLink⟩ : Snetwork_exit)) (dflt:=(none : Option Addr)) zfB Try.underlying77 zjv rfl rfl rfl .h1) ?_
    refine WD.a (i:=6) (d:=4) (by kernel_rfl) rfl (z2 (by kernel_rfl)) (z3 (by kernel_rfl)) rfl rfl rfl (fun _=>q_z rfl) ?_
    refine WD.done (by kernel_rfl) ?_
    refine WX.a (WC.ret ?_)
    obtain rfl:=Option.some.inj h
    refine WX.yi Try.results40 (.tmp rfl .nil) (fun w hw=>?_)
    exact ⟨z9i,y10 rfl,zrd,hw.sub (.cons .h1 (.cons .h1 .nil))⟩
def y2C (z6g : Sport_Port) : Option Bool :=
  some (decide (z6g.fNumbers.fSlow = 0))
set_option maxRecDepth 20000 in
theorem y5a (Z : Zp) (zez : Addr) (zm4 : Option Addr) (zm5 : Nat) (z6g : Sport_Port) (r : Bool)
     (h : y2C z6g = some r) (w₀ : World) (hz : PZ [] w₀ Z)
     (zwV : ZS Z 2 (fun r x=>r = y1W x) zm4 zm5 z6g.fFrames)
     (zre : ZC Z zez [(.int .i64 z6g.fNumbers.fSlow),(.int .i64 z6g.fNumbers.fDelay),(.int .i64 z6g.fNumbers.fStore),(.int .i64 z6g.fNow),(.int .i64 z6g.fLast),(.slice zm4 z6g.fFrames.length zm5)]) :
    Calls Try.prog 53 #[(.pointer (some zez))] w₀ fun e w'=>e = .returned (.bool r) ∧ Hp [] w₀ w' []:=by
  unfold y2C at h
  refine Calls.yl (vs:=[(.pointer (some zez))]) (pre:=[]) (env:=[(0,(.pointer (some zez)))]) Try.func53 rfl Try.ntmps53 rfl (Hp.nil w₀ _) rfl ?_
  refine WC.b (WC.a (WL.pu rfl (WL.nil (WX.a (WC.b (WC.a (WL.pu rfl ?_)))))))
  refine WL.a (d:=4) rfl rfl rfl (y8e Try.underlying116 rfl rfl) ?_
  refine WL.pu rfl (WL.pu rfl ?_)
  refine WL.a (d:=7) rfl rfl rfl (yt rfl) ?_
  refine WL.a (d:=8) rfl rfl rfl (ya y63 rfl rfl) ?_
  refine WL.a (d:=9) rfl rfl rfl (ya y8r rfl rfl) ?_
  refine WL.a (d:=10) rfl rfl rfl (yb ye rfl (y1G hz.pv zre rfl)) ?_
  refine WL.pu rfl (WL.pu rfl (WL.pu rfl (WL.nil (WX.a (WC.ret ?_)))))
  obtain rfl:=Option.some.inj h
  refine WX.yi Try.results53 (.tmp rfl .nil) (fun w hw=>?_)
  exact ⟨y10 rfl,hw.sub .nil⟩
def y2v (z4S : Sport_frame) (zeA : Int) : Option Bool :=
  some (decide (z4S.fFin ≤ zeA))
set_option maxRecDepth 20000 in
theorem y6R (Z : Zp) (zeB : Addr) (z4S : Sport_frame) (zeA : Int) (r : Bool)
     (h : y2v z4S zeA = some r) (w₀ : World) (hz : PZ [] w₀ Z)
     (zrf : ZC Z zeB [(.int .i64 zeA)]) :
    Calls Try.prog 55 #[(.agg #[(.int .i64 z4S.fSize),(.int .i64 z4S.fFin)]),(.pointer (some zeB))] w₀ fun e w'=>e = .returned (.bool r) ∧ Hp [] w₀ w' []:=by
  unfold y2v at h
  refine Calls.yl (vs:=[(.agg #[(.int .i64 z4S.fSize),(.int .i64 z4S.fFin)]),(.pointer (some zeB))]) (pre:=[]) (env:=[(0,(.agg #[(.int .i64 z4S.fSize),(.int .i64 z4S.fFin)])),(1,(.pointer (some zeB)))]) Try.func55 rfl Try.ntmps55 rfl (Hp.nil w₀ _) rfl ?_
  refine WC.b (WC.a ?_)
  refine WL.new (dd:=2) rfl rfl rfl (y2c (cs:=[(.int .i64 z4S.fSize),(.int .i64 z4S.fFin)]) rfl rfl) ?_
  intro zwW _
  refine WL.pu rfl (WL.nil (WX.a (WC.b (WC.a ?_))))
  refine WL.a (d:=4) rfl rfl rfl (ya y8t rfl rfl) ?_
  refine WL.a (d:=5) rfl rfl rfl (yb ye rfl (yc .here rfl)) ?_
  refine WL.a (d:=6) rfl rfl rfl (yb ye rfl (rd_z hz.pv zrf rfl)) ?_
  refine WL.pu rfl (WL.pu rfl (WL.nil (WX.a (WC.ret ?_))))
  obtain rfl:=Option.some.inj h
  refine WX.yi Try.results55 (.tmp rfl .nil) (fun w hw=>?_)
  exact ⟨y10 rfl,hw.sub .nil⟩
def yx (z22 : List Sport_frame) (z4T : Sport_frame → Option Bool) (z7d : Option Int) : Nat → Int → Option Int
  | 0,_=>none
  | zhi + 1,z2g=>if decide (z2g < ((z22.length : Nat) : Int)) then chk ((0 : Int) ≤ z2g ∧ z2g < ((z22.length : Nat) : Int)) ((z4T (⟨((nth z22 z2g).fSize),((nth z22 z2g).fFin)⟩ : Sport_frame)).bind fun zhj=>if zhj then some z2g else yx z22 z4T z7d zhi (i64 (z2g + 1))) else z7d
theorem y38 {n : Nat} {z22 : List Sport_frame} {z4T : Sport_frame → Option Bool} {z7d : Option Int} {z2g : Int} {r : Int} (h : yx z22 z4T z7d n z2g = some r) : ∃ m,n = m + 1:=by
  cases n with
  | zero=>cases h
  | succ m=>exact ⟨m,rfl⟩
def yT (z22 : List Sport_frame) (z4T : Sport_frame → Option Bool) : Option Int :=
  jp0 (some (-1)) fun z7d=>yx z22 z4T z7d yA 0
set_option maxRecDepth 20000 in
theorem y3G (Z : Zp) (zda : Option Addr) (zdb : Nat) (z7e : FuncId) (z9j : List Value) (z22 : List Sport_frame) (z4T : Sport_frame → Option Bool) (r : Int)
     (h : yT z22 z4T = some r) (w₀ : World) (hz : PZ [] w₀ Z)
     (zrg : ZS Z 2 (fun r x=>r = y1W x) zda zdb z22)
     (zrh : ∀ args w,(callFunc z7e args).run Try.prog w = .ok (.enter z7e args) w)
     (zri : ∀ w : World,PZ [] w Z → ∀ (x0 : Sport_frame) (r : Bool),z4T x0 = some r → Calls Try.prog z7e (([(.agg #[(.int .i64 x0.fSize),(.int .i64 x0.fFin)])] : List Value) ++ z9j).toArray w fun e w'=>e = .returned (.bool r) ∧ Hp [] w w' []) :
    Calls Try.prog 63 #[(.slice zda z22.length zdb),(.func (.func z7e) #[] (z9j).toArray)] w₀ fun e w'=>e = .returned (.int .i64 r) ∧ Hp [] w₀ w' []:=by
  unfold yT at h
  refine Calls.yl (vs:=[(.slice zda z22.length zdb),(.func (.func z7e) #[] (z9j).toArray)]) (pre:=[]) (env:=[(0,(.slice zda z22.length zdb)),(1,(.func (.func z7e) #[] (z9j).toArray))]) Try.func63 rfl Try.ntmps63 rfl (Hp.nil w₀ _) rfl ?_
  refine WC.b (WC.a (WL.pu rfl (WL.nil (WX.a ?_))))
  obtain ⟨z7d,zrj,h⟩:=y2r h
  refine WC.y2d ((z7d = some r)) ([]) ([]) ?_ ?_
  · skip
    refine WC.b (WC.a (WL.pu rfl ?_))
    refine WL.a (d:=7) rfl rfl rfl (yZ Try.underlying141 rfl) ?_
    refine WL.pu rfl (WL.nil (WX.a (WC.block ?_)))
    refine WC.y3Z (fun (zaH : Nat) (z2g : Int)=>(yx z22 z4T z7d zaH z2g = some r)) (fun (zaH : Nat) (z2g : Int)=>[(0,(.slice zda z22.length zdb)),(1,(.func (.func z7e) #[] (z9j).toArray)),(7,(.int .i64 ((z22.length : Nat) : Int))),(8,(.int .i64 z2g))]) (fun (zaH : Nat) (z2g : Int)=>[]) (fun (zaH : Nat) (z2g : Int)=>zaH) ⟨yA,0⟩ h (.cons rfl (.cons rfl (.cons rfl (.cons rfl .nil)))) .nil ?_
    rintro zaH z2g h
    obtain ⟨zhi,rfl⟩:=y38 h
    rw [yx] at h
    refine WC.b (WC.a (WL.pu rfl (WL.nil (WX.a (WC.b ?_)))))
    refine WC.cond rfl (fun zhk=>?_) (fun zhk=>?_)
    · replace h:=ym h zhk
      refine WC.skip (WX.a (WC.b (WC.block (WC.b (WC.a (WL.pu rfl (WL.pu rfl (WL.nil (WX.a (WC.b ?_))))))))))
      obtain ⟨zrk,h⟩:=yj h
      obtain ⟨zhj,zrl,h⟩:=zp h
      refine WC.a (WL.pu rfl (WL.pu rfl (WL.pu rfl ?_)))
      refine WL.znth (dd:=14) rfl rfl (Z:=Z) (Pr:=(fun r x=>r = y1W x)) z6E rfl rfl zrg zrk ?_
      rintro zwX zwY zrm zwZ rfl
      refine WL.a (d:=15) rfl rfl rfl (yH z9C rfl (y3F hz.pv zrm) rfl) ?_
      refine WL.b (dd:=16) rfl rfl rfl (y3D (l:=[.tmp 15]) (f:=z7e) (caps:=z9j) zrh rfl (.cons rfl .nil)) .nil (fun w hw=>zri w (hz.now hw) (⟨((nth z22 z2g).fSize),((nth z22 z2g).fFin)⟩ : Sport_frame) zhj  zrl) ?_
      refine WL.nil (WX.a ?_)
      refine WC.cond rfl (fun zhl=>?_) (fun zhl=>?_)
      · replace h:=ym h zhl
        refine WC.b (WC.a (WL.pu rfl (WL.pu rfl (WL.nil (WX.a (WC.ret (WX.yC (WX.yg (WX.yg (WX.yC (WX.yg ?_)))))))))))
        obtain rfl:=Option.some.inj h
        refine WX.yi Try.results63 (.tmp rfl .nil) (fun w hw=>?_)
        exact ⟨y10 rfl,hw.sub .nil⟩
      · replace h:=yn h zhl
        refine WC.skip (WX.yh (WX.a (WC.a (WL.pu rfl (WL.pu rfl (WL.nil ?_))))))
        exact WX.round (G:=Nat × Int) ⟨zhi,(i64 (z2g + 1))⟩ h (Nat.lt_succ_self _) (.cons rfl (.cons rfl (.cons rfl (.cons rfl .nil)))) .nil
    · replace h:=yn h zhk
      refine WC.exit (WX.yf (WX.yf (WX.yB ?_)))
      exact WX.mid (G:=Unit) () h .nil .nil
  · rintro  h
    replace h:=zrj.symm.trans h
    refine WC.b (WC.a (WL.pu rfl (WL.nil (WX.a (WC.ret ?_)))))
    obtain rfl:=Option.some.inj h
    refine WX.yi Try.results63 (.tmp rfl .nil) (fun w hw=>?_)
    exact ⟨y10 rfl,hw.sub .nil⟩
end Go.Proofs.Ytinchjigeakocaa
