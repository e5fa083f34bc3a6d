/- A part of this claim's proof: models of functions, walks, plain laws. No conditions. -/
import Derived.Test.YtinchjigeakocaaW31d
namespace Go.Proofs.Ytinchjigeakocaa
open Go Go.RowKit Sep
set_option linter.all false
set_option maxRecDepth 30000
set_option maxHeartbeats 4000000
def y2J (zK : Int) (zH : List Sapi_Hop) (z9E : Bool → Bool → Option Bool) : Nat → Bool → Bool → Int → Option Bool
 | 0,_,_,_=>none
 | zoW + 1,z5u,z4P,z38=>if decide (z38 < zK) then jp2 (fun (z9F : Bool) (z9G : Bool)=>y2J zK zH z9E zoW z9F z9G (i64 (z38 + 1))) fun zl2=>jp1 (fun (z6Q : Bool)=>chk ((0 : Int) ≤ z38 ∧ z38 < ((zH.length : Nat) : Int)) (chk ((0 : Int) ≤ zK ∧ zK < ((zH.length : Nat) : Int)) (if decide (((nth zH z38).fNext) = ((nth zH zK).fNext)) then zl2 z6Q true else zl2 z6Q z4P))) fun zl3=>chk ((0 : Int) ≤ z38 ∧ z38 < ((zH.length : Nat) : Int)) (chk ((0 : Int) ≤ zK ∧ zK < ((zH.length : Nat) : Int)) (if decide (((nth zH z38).fNext) = ((nth zH zK).fNode)) then zl3 true else zl3 z5u)) else z9E z5u z4P
theorem y6M {n : Nat} {zK : Int} {zH : List Sapi_Hop} {z9E : Bool → Bool → Option Bool} {z5u : Bool} {z4P : Bool} {z38 : Int} {r : Bool} (h : y2J zK zH z9E n z5u z4P z38 = some r) : ∃ m,n = m + 1:=by
 cases n with
 | zero=>cases h
 | succ m=>exact ⟨m,rfl⟩
def y2k (zH : List Sapi_Hop) (zt : Sapi_Config) (z2l : Int) (z9H : Option Bool) : Nat → Int → Option Bool
 | 0,_=>none
 | zoX + 1,zK=>if decide (zK < ((zH.length : Nat) : Int)) then jp0 (y2k zH zt z2l z9H zoX (i64 (zK + 1))) fun zoY=>chk ((decide (zK = 0)) = false → ((0 : Int) ≤ zK ∧ zK < ((zH.length : Nat) : Int))) (chk ((decide (zK = 0)) = false → ((0 : Int) ≤ 0 ∧ 0 < ((zH.length : Nat) : Int))) (chk ((0 : Int) ≤ zK ∧ zK < ((zH.length : Nat) : Int)) (chk ((0 : Int) ≤ 0 ∧ 0 < ((zH.length : Nat) : Int)) (jp2 (fun (z3w : Bool) (z3Z : Bool)=>chk (((!z3w) || z3Z) = false → ((0 : Int) ≤ zK ∧ zK < ((zH.length : Nat) : Int))) (chk (((!z3w) || z3Z) = false → ((0 : Int) ≤ 0 ∧ 0 < ((zH.length : Nat) : Int))) (chk (((!z3w) || z3Z) = false → ((decide (((nth zH zK).fNode) ≠ ((nth zH 0).fNode))) = true → ((0 : Int) ≤ zK ∧ zK < ((zH.length : Nat) : Int)))) ((if ((!z3w) || z3Z) || ((decide (((nth zH zK).fNode) ≠ ((nth zH 0).fNode))) && (decide (((nth zH zK).fNode) < ((zt.fModules.length : Nat) : Int)))) then some true else chk ((0 : Int) ≤ zK ∧ zK < ((zH.length : Nat) : Int)) ((y4D zt z2l ((nth zH zK).fLink) ((nth zH zK).fNode) ((nth zH zK).fNext)).bind fun zuG=>some (!zuG))).bind fun zoZ=>if zoZ then some false else zoY)))) fun z9E=>y2J zK zH z9E yw ((decide (zK = 0)) || (decide (((nth zH zK).fNode) = ((nth zH 0).fNode)))) (decide (((nth zH zK).fNext) = ((nth zH 0).fNode))) 0)))) else z9H
theorem y6N {n : Nat} {zH : List Sapi_Hop} {zt : Sapi_Config} {z2l : Int} {z9H : Option Bool} {zK : Int} {r : Bool} (h : y2k zH zt z2l z9H n zK = some r) : ∃ m,n = m + 1:=by
 cases n with
 | zero=>cases h
 | succ m=>exact ⟨m,rfl⟩
def y4E (zt : Sapi_Config) (z2l : Int) (zH : List Sapi_Hop) : Option Bool :=
 if decide (((zH.length : Nat) : Int) > 32) then some false else jp0 (some true) fun z9H=>y2k zH zt z2l z9H yw 0
set_option maxRecDepth 20000 in
theorem y9t (Z : Zp) (z6R : Option Addr) (z6S : Nat) (z6T : Option Addr) (z6U : Nat) (z6V : Option Addr) (z6W : Nat) (z6X : Option Addr) (z6Y : Nat) (z6Z : Option Addr) (z70 : Nat) (z71 : Option Addr) (z72 : Nat) (z73 : Option Addr) (z74 : Nat) (z75 : Option Addr) (z76 : Nat) (z4v : Option Addr) (z4w : Nat) (zt : Sapi_Config) (z2l : Int) (zH : List Sapi_Hop) (r : Bool)
  (h : y4E zt z2l zH = some r) (w₀ : World) (hz : PZ [] w₀ Z)
  (zCN : ZS Z 4 (y2i Z) z6R z6S zt.fModules)
  (zCO : ZS Z 4 (y2R Z) z6T z6U zt.fChannels)
  (zCP : ZS Z 4 (fun r x=>r = e64 x) z6V z6W zt.fSwitches)
  (zCQ : ZS Z 4 (fun r x=>r = e62 x) z6X z6Y zt.fLinks)
  (zCR : ZS Z 7 (y2A Z) z6Z z70 zt.fVLs)
  (zCS : ZS Z 5 (fun r x=>r = y2T x) z71 z72 zt.fHealth)
  (zCT : ZS Z 3 (y2S Z) z73 z74 zt.fCauses)
  (zCU : ZS Z 4 (fun r x=>r = y2U x) z75 z76 zt.fVersions)
  (z4Q : ZS Z 3 (fun r x=>r = e59 x) z4v z4w zH) :
  Calls Try.prog 37 #[(.agg #[(.slice z6R zt.fModules.length z6S),(.slice z6T zt.fChannels.length z6U),(.slice z6V zt.fSwitches.length z6W),(.slice z6X zt.fLinks.length z6Y),(.slice z6Z zt.fVLs.length z70),(.slice z71 zt.fHealth.length z72),(.slice z73 zt.fCauses.length z74),(.slice z75 zt.fVersions.length z76)]),(.int .i64 z2l),(.slice z4v zH.length z4w)] w₀ fun e w'=>e = .returned (.bool r) ∧ Hp [] w₀ w' []:=by
 unfold y4E at h
 refine Calls.yp (vs:=[(.agg #[(.slice z6R zt.fModules.length z6S),(.slice z6T zt.fChannels.length z6U),(.slice z6V zt.fSwitches.length z6W),(.slice z6X zt.fLinks.length z6Y),(.slice z6Z zt.fVLs.length z70),(.slice z71 zt.fHealth.length z72),(.slice z73 zt.fCauses.length z74),(.slice z75 zt.fVersions.length z76)]),(.int .i64 z2l),(.slice z4v zH.length z4w)]) (pre:=[]) (env:=[(0,(.agg #[(.slice z6R zt.fModules.length z6S),(.slice z6T zt.fChannels.length z6U),(.slice z6V zt.fSwitches.length z6W),(.slice z6X zt.fLinks.length z6Y),(.slice z6Z zt.fVLs.length z70),(.slice z71 zt.fHealth.length z72),(.slice z73 zt.fCauses.length z74),(.slice z75 zt.fVersions.length z76)])),(1,(.int .i64 z2l)),(2,(.slice z4v zH.length z4w))]) Try.func37 rfl Try.ntmps37 rfl (Hp.nil w₀ _) rfl ?_
 refine WC.b (WC.a ?_)
 refine WL.new (dd:=3) rfl rfl rfl (y1N (cs:=[(.slice z6R zt.fModules.length z6S),(.slice z6T zt.fChannels.length z6U),(.slice z6V zt.fSwitches.length z6W),(.slice z6X zt.fLinks.length z6Y),(.slice z6Z zt.fVLs.length z70),(.slice z71 zt.fHealth.length z72),(.slice z73 zt.fCauses.length z74),(.slice z75 zt.fVersions.length z76)]) rfl rfl) ?_
 intro z40 _
 refine WL.pu rfl (WL.nil (WX.a (WC.b (WC.b (WC.a (WL.pu rfl ?_))))))
 refine WL.a (d:=12) rfl rfl rfl (yz Try.underlying55 rfl) ?_
 refine WL.pu rfl (WL.nil (WX.a ?_))
 refine WC.cond rfl (fun zp0=>?_) (fun zp0=>?_)
 ·replace h:=ym h zp0
  refine WC.b (WC.a (WL.pu rfl (WL.nil (WX.a (WC.ret (WX.yj ?_))))))
  obtain rfl:=Option.some.inj h
  refine WX.yi Try.results37 (.tmp rfl .nil) (fun w hw=>?_)
  exact ⟨yM rfl,hw.sub .nil⟩
 ·replace h:=yn h zp0
  refine WC.skip (WX.a ?_)
  obtain ⟨z9H,zCV,h⟩:=y2r h
  refine WC.y24 ((z9H = some r)) ([]) ([]) ?_ ?_
  ·skip
   refine WC.b (WC.a (WL.pu rfl (WL.nil (WX.a (WC.block ?_)))))
   refine WC.y33 (fun (zex : Nat) (zK : Int)=>(y2k zH zt z2l z9H zex zK = some r)) (fun (zex : Nat) (zK : Int)=>[(1,(.int .i64 z2l)),(2,(.slice z4v zH.length z4w)),(3,(.pointer (some ⟨z40,0,none⟩))),(7,(.int .i64 zK))]) (fun (zex : Nat) (zK : Int)=>[stb z40 31 [(.slice z6R zt.fModules.length z6S),(.slice z6T zt.fChannels.length z6U),(.slice z6V zt.fSwitches.length z6W),(.slice z6X zt.fLinks.length z6Y),(.slice z6Z zt.fVLs.length z70),(.slice z71 zt.fHealth.length z72),(.slice z73 zt.fCauses.length z74),(.slice z75 zt.fVersions.length z76)]]) (fun (zex : Nat) (zK : Int)=>zex) ⟨yw,0⟩ h (.cons rfl (.cons rfl (.cons rfl (.cons rfl .nil)))) (.cons .here .nil) ?_
   rintro zex zK h
   obtain ⟨zoX,rfl⟩:=y6N h
   rw [y2k] at h
   refine WC.b (WC.b (WC.a (WL.pu rfl (WL.pu rfl ?_))))
   refine WL.a (d:=16) rfl rfl rfl (yz Try.underlying55 rfl) ?_
   refine WL.pu rfl (WL.nil (WX.a ?_))
   refine WC.cond rfl (fun zp1=>?_) (fun zp1=>?_)
   ·replace h:=ym h zp1
    refine WC.skip (WX.a ?_)
    obtain ⟨zoY,zCW,h⟩:=y2r h
    refine WC.y24 ((zoY = some r)) ([(1,(.int .i64 z2l)),(2,(.slice z4v zH.length z4w)),(3,(.pointer (some ⟨z40,0,none⟩))),(7,(.int .i64 zK))]) ([stb z40 31 [(.slice z6R zt.fModules.length z6S),(.slice z6T zt.fChannels.length z6U),(.slice z6V zt.fSwitches.length z6W),(.slice z6X zt.fLinks.length z6Y),(.slice z6Z zt.fVLs.length z70),(.slice z71 zt.fHealth.length z72),(.slice z73 zt.fCauses.length z74),(.slice z75 zt.fVersions.length z76)]]) ?_ ?_
    ·skip
     refine WC.block (WC.b ?_)
     obtain ⟨zCX,h⟩:=ye h
     obtain ⟨zCY,h⟩:=ye h
     obtain ⟨zCZ,h⟩:=ye h
     obtain ⟨zD0,h⟩:=ye h
     refine WC.yI (fun i=>[].contains i) [] rfl ?_
     refine WD.a (i:=0) (d:=20) (by kernel_rfl) rfl z2 z3 rfl rfl rfl (fun _=>q_m rfl) ?_
     refine WD.a (i:=1) (d:=21) (by kernel_rfl) rfl z2 z3 rfl rfl rfl (fun _=>y5d rfl rfl) ?_
     refine WD.a (i:=2) (d:=22) (by kernel_rfl) rfl z2 z3 rfl rfl rfl (fun _=>q_m rfl) ?_
     refine WD.a (i:=14) (d:=34) (by kernel_rfl) rfl z2 z3 rfl rfl rfl (fun _=>q_m rfl) ?_
     refine WD.a (i:=15) (d:=35) (by kernel_rfl) rfl z2 z3 rfl rfl rfl (fun _=>q_m rfl) ?_
     refine WD.znth (j:=16) (dd:=36) (by kernel_rfl) rfl z2 z3 rfl rfl (Z:=Z) (Pr:=(fun r x=>r = e59 x)) y2p rfl rfl z4Q zCZ ?_
     rintro zL1 zL2 zD1 zL3 rfl
     refine WD.a (i:=17) (d:=37) (by kernel_rfl) rfl z2 z3 rfl rfl rfl (fun _=>ya y3h rfl rfl) ?_
     refine WD.e (i:=18) (d:=38) (by kernel_rfl) rfl z2 z3 rfl rfl rfl (yb yd rfl (yD hz.pv zD1 rfl)) ?_
     refine WD.a (i:=19) (d:=39) (by kernel_rfl) rfl z2 z3 rfl rfl rfl (fun _=>q_m rfl) ?_
     refine WD.znth (j:=20) (dd:=40) (by kernel_rfl) rfl z2 z3 rfl rfl (Z:=Z) (Pr:=(fun r x=>r = e59 x)) y2p rfl rfl z4Q zD0 ?_
     rintro zL4 zL5 zD2 zL6 rfl
     refine WD.a (i:=21) (d:=41) (by kernel_rfl) rfl z2 z3 rfl rfl rfl (fun _=>ya y1E rfl rfl) ?_
     refine WD.e (i:=22) (d:=42) (by kernel_rfl) rfl z2 z3 rfl rfl rfl (yb yd rfl (yD hz.pv zD2 rfl)) ?_
     refine WD.a (i:=23) (d:=43) (by kernel_rfl) rfl z2 z3 rfl rfl rfl (fun _=>y5d rfl rfl) ?_
     refine WD.mid (fuel':=2) [(1,(.int .i64 z2l)),(2,(.slice z4v zH.length z4w)),(3,(.pointer (some ⟨z40,0,none⟩))),(7,(.int .i64 zK)),(22,(.bool (decide (zK = 0)))),(43,(.bool (decide (((nth zH zK).fNext) = ((nth zH 0).fNode))))),(33,(.bool ((decide (zK = 0)) || (decide (((nth zH zK).fNode) = ((nth zH 0).fNode))))))] (yJ 26 [13,12,11,10,9,8,7,6,5,4,3,23,22,21,20,19,18,17,16,15,14,2,1,0]) ?_ (fun zuH=>?_)
     rotate_left
     ·rcases Bool.eq_false_or_eq_true (decide (zK = 0)) with hb' | hb'
      ·have zp2:=hb'; clear hb'
       refine WD.pin (i:=22) rfl zp2 ?_
       refine WD.b (i:=3) (d:=23) (by kernel_rfl) rfl z2 z3 rfl rfl rfl ?_
       refine WD.b (i:=4) (d:=24) (by kernel_rfl) rfl z2 z3 rfl rfl rfl ?_
       refine WD.b (i:=5) (d:=25) (by kernel_rfl) rfl z2 z3 rfl rfl rfl ?_
       refine WD.b (i:=6) (d:=26) (by kernel_rfl) rfl z2 z3 rfl rfl rfl ?_
       refine WD.b (i:=7) (d:=27) (by kernel_rfl) rfl z2 z3 rfl rfl rfl ?_
       refine WD.b (i:=8) (d:=28) (by kernel_rfl) rfl z2 z3 rfl rfl rfl ?_
       refine WD.b (i:=9) (d:=29) (by kernel_rfl) rfl z2 z3 rfl rfl rfl ?_
       refine WD.b (i:=10) (d:=30) (by kernel_rfl) rfl z2 z3 rfl rfl rfl ?_
       refine WD.b (i:=11) (d:=31) (by kernel_rfl) rfl z2 z3 rfl rfl rfl ?_
       refine WD.b (i:=12) (d:=32) (by kernel_rfl) rfl z2 z3 rfl rfl rfl ?_
       refine WD.a (i:=13) (d:=33) (by kernel_rfl) rfl z2 z3 rfl rfl rfl (fun _=>yW rfl rfl) ?_
       refine WD.ys (.cons .here .nil) ?_ zuH
       exact (.cons rfl (.cons rfl (.cons rfl (.cons rfl (.cons (z7 (Eq.symm zp2)) (.cons rfl (.cons (z7 (y1p zp2)) .nil)))))))
      ·have ziT:=hb'; clear hb'
       have zD3:=zCX ziT
       have zD4:=zCY ziT
       refine WD.pin (i:=22) rfl ziT ?_
       refine WD.a (i:=3) (d:=23) (by kernel_rfl) rfl z2 z3 rfl rfl rfl (fun _=>q_m rfl) ?_
       refine WD.a (i:=4) (d:=24) (by kernel_rfl) rfl z2 z3 rfl rfl rfl (fun _=>q_m rfl) ?_
       refine WD.znth (j:=5) (dd:=25) (by kernel_rfl) rfl z2 z3 rfl rfl (Z:=Z) (Pr:=(fun r x=>r = e59 x)) y2p rfl rfl z4Q zD3 ?_
       rintro zL7 zL8 zD5 zL9 rfl
       refine WD.a (i:=6) (d:=26) (by kernel_rfl) rfl z2 z3 rfl rfl rfl (fun _=>ya y1E rfl rfl) ?_
       refine WD.e (i:=7) (d:=27) (by kernel_rfl) rfl z2 z3 rfl rfl rfl (yb yd rfl (yD hz.pv zD5 rfl)) ?_
       refine WD.a (i:=8) (d:=28) (by kernel_rfl) rfl z2 z3 rfl rfl rfl (fun _=>q_m rfl) ?_
       refine WD.znth (j:=9) (dd:=29) (by kernel_rfl) rfl z2 z3 rfl rfl (Z:=Z) (Pr:=(fun r x=>r = e59 x)) y2p rfl rfl z4Q zD4 ?_
       rintro zLa zLb zD6 zLc rfl
       refine WD.a (i:=10) (d:=30) (by kernel_rfl) rfl z2 z3 rfl rfl rfl (fun _=>ya y1E rfl rfl) ?_
       refine WD.e (i:=11) (d:=31) (by kernel_rfl) rfl z2 z3 rfl rfl rfl (yb yd rfl (yD hz.pv zD6 rfl)) ?_
       refine WD.a (i:=12) (d:=32) (by kernel_rfl) rfl z2 z3 rfl rfl rfl (fun _=>y5d rfl rfl) ?_
       refine WD.a (i:=13) (d:=33) (by kernel_rfl) rfl z2 z3 rfl rfl rfl (fun _=>yX rfl rfl) ?_
       refine WD.ys (.cons .here .nil) ?_ zuH
       exact (.cons rfl (.cons rfl (.cons rfl (.cons rfl (.cons (z7 (Eq.symm ziT)) (.cons rfl (.cons (z7 (y1q ziT)) .nil)))))))
     refine WD.d #[true,true,true,true,true,true,true,true,true,true,true,true,true,true,true,true,true,true,true,true,true,true,true,true,false,false] (by kernel_rfl) ?_
     refine WD.a (i:=24) (d:=8) (by kernel_rfl) rfl z2 z3 rfl rfl rfl (fun _=>q_z rfl) ?_
     refine WD.a (i:=25) (d:=9) (by kernel_rfl) rfl z2 z3 rfl rfl rfl (fun _=>q_z rfl) ?_
     refine WD.done (by kernel_rfl) ?_
     refine WX.a ?_
     obtain ⟨z9E,zD7,h⟩:=y2s h
     refine WC.y2D (fun (z3w : Bool) (z3Z : Bool)=>(z9E z3w z3Z = some r)) (fun (z3w : Bool) (z3Z : Bool)=>[(1,(.int .i64 z2l)),(2,(.slice z4v zH.length z4w)),(3,(.pointer (some ⟨z40,0,none⟩))),(7,(.int .i64 zK)),(8,(.bool z3w)),(9,(.bool z3Z))]) (fun (z3w : Bool) (z3Z : Bool)=>[stb z40 31 [(.slice z6R zt.fModules.length z6S),(.slice z6T zt.fChannels.length z6U),(.slice z6V zt.fSwitches.length z6W),(.slice z6X zt.fLinks.length z6Y),(.slice z6Z zt.fVLs.length z70),(.slice z71 zt.fHealth.length z72),(.slice z73 zt.fCauses.length z74),(.slice z75 zt.fVersions.length z76)]]) ?_ ?_
     ·skip
      refine WC.b (WC.a (WL.pu rfl (WL.nil (WX.a (WC.block ?_)))))
      refine WC.y5X (fun (zey : Nat) (z5u : Bool) (z4P : Bool) (z38 : Int)=>(y2J zK zH z9E zey z5u z4P z38 = some r)) (fun (zey : Nat) (z5u : Bool) (z4P : Bool) (z38 : Int)=>[(1,(.int .i64 z2l)),(2,(.slice z4v zH.length z4w)),(3,(.pointer (some ⟨z40,0,none⟩))),(7,(.int .i64 zK)),(8,(.bool z5u)),(9,(.bool z4P)),(10,(.int .i64 z38))]) (fun (zey : Nat) (z5u : Bool) (z4P : Bool) (z38 : Int)=>[stb z40 31 [(.slice z6R zt.fModules.length z6S),(.slice z6T zt.fChannels.length z6U),(.slice z6V zt.fSwitches.length z6W),(.slice z6X zt.fLinks.length z6Y),(.slice z6Z zt.fVLs.length z70),(.slice z71 zt.fHealth.length z72),(.slice z73 zt.fCauses.length z74),(.slice z75 zt.fVersions.length z76)]]) (fun (zey : Nat) (z5u : Bool) (z4P : Bool) (z38 : Int)=>zey) ⟨yw,((decide (zK = 0)) || (decide (((nth zH zK).fNode) = ((nth zH 0).fNode)))),(decide (((nth zH zK).fNext) = ((nth zH 0).fNode))),0⟩ h (.cons rfl (.cons rfl (.cons rfl (.cons rfl (.cons rfl (.cons rfl (.cons rfl .nil))))))) (.cons .here .nil) ?_
      rintro zey z5u z4P z38 h
      obtain ⟨zoW,rfl⟩:=y6M h
      rw [y2J] at h
      refine WC.b (WC.b (WC.a (WL.pu rfl (WL.pu rfl (WL.pu rfl (WL.nil (WX.a ?_)))))))
      refine WC.cond rfl (fun zp3=>?_) (fun zp3=>?_)
      ·replace h:=ym h zp3
       refine WC.skip (WX.a ?_)
       obtain ⟨zl2,zD8,h⟩:=y2s h
       refine WC.y2D (fun (z9F : Bool) (z9G : Bool)=>(zl2 z9F z9G = some r)) (fun (z9F : Bool) (z9G : Bool)=>[(1,(.int .i64 z2l)),(2,(.slice z4v zH.length z4w)),(3,(.pointer (some ⟨z40,0,none⟩))),(7,(.int .i64 zK)),(8,(.bool z9F)),(9,(.bool z9G)),(10,(.int .i64 z38))]) (fun (z9F : Bool) (z9G : Bool)=>[stb z40 31 [(.slice z6R zt.fModules.length z6S),(.slice z6T zt.fChannels.length z6U),(.slice z6V zt.fSwitches.length z6W),(.slice z6X zt.fLinks.length z6Y),(.slice z6Z zt.fVLs.length z70),(.slice z71 zt.fHealth.length z72),(.slice z73 zt.fCauses.length z74),(.slice z75 zt.fVersions.length z76)]]) ?_ ?_
       ·skip
        refine WC.block ?_
        obtain ⟨zl3,zD9,h⟩:=yU h
        refine WC.y1i (fun (z6Q : Bool)=>(zl3 z6Q = some r)) (fun (z6Q : Bool)=>[(1,(.int .i64 z2l)),(2,(.slice z4v zH.length z4w)),(3,(.pointer (some ⟨z40,0,none⟩))),(7,(.int .i64 zK)),(8,(.bool z6Q)),(9,(.bool z4P)),(10,(.int .i64 z38))]) (fun (z6Q : Bool)=>[stb z40 31 [(.slice z6R zt.fModules.length z6S),(.slice z6T zt.fChannels.length z6U),(.slice z6V zt.fSwitches.length z6W),(.slice z6X zt.fLinks.length z6Y),(.slice z6Z zt.fVLs.length z70),(.slice z71 zt.fHealth.length z72),(.slice z73 zt.fCauses.length z74),(.slice z75 zt.fVersions.length z76)]]) ?_ ?_
        ·skip
         refine WC.b ?_
         obtain ⟨zDa,h⟩:=ye h
         obtain ⟨zDb,h⟩:=ye h
         refine WC.yI (fun i=>[].contains i) [] rfl ?_
         refine WD.a (i:=0) (d:=49) (by kernel_rfl) rfl z2 z3 rfl rfl rfl (fun _=>q_m rfl) ?_
         refine WD.a (i:=1) (d:=50) (by kernel_rfl) rfl z2 z3 rfl rfl rfl (fun _=>q_m rfl) ?_
         refine WD.znth (j:=2) (dd:=51) (by kernel_rfl) rfl z2 z3 rfl rfl (Z:=Z) (Pr:=(fun r x=>r = e59 x)) y2p rfl rfl z4Q zDa ?_
         rintro zLd zLe zDc zLf rfl
         refine WD.a (i:=3) (d:=52) (by kernel_rfl) rfl z2 z3 rfl rfl rfl (fun _=>ya y3h rfl rfl) ?_
         refine WD.e (i:=4) (d:=53) (by kernel_rfl) rfl z2 z3 rfl rfl rfl (yb yd rfl (yD hz.pv zDc rfl)) ?_
         refine WD.a (i:=5) (d:=54) (by kernel_rfl) rfl z2 z3 rfl rfl rfl (fun _=>q_m rfl) ?_
         refine WD.a (i:=6) (d:=55) (by kernel_rfl) rfl z2 z3 rfl rfl rfl (fun _=>q_m rfl) ?_
         refine WD.znth (j:=7) (dd:=56) (by kernel_rfl) rfl z2 z3 rfl rfl (Z:=Z) (Pr:=(fun r x=>r = e59 x)) y2p rfl rfl z4Q zDb ?_
         rintro zLg zLh zDd zLi rfl
         refine WD.a (i:=8) (d:=57) (by kernel_rfl) rfl z2 z3 rfl rfl rfl (fun _=>ya y1E rfl rfl) ?_
         refine WD.e (i:=9) (d:=58) (by kernel_rfl) rfl z2 z3 rfl rfl rfl (yb yd rfl (yD hz.pv zDd rfl)) ?_
         refine WD.a (i:=10) (d:=59) (by kernel_rfl) rfl z2 z3 rfl rfl rfl (fun _=>y5d rfl rfl) ?_
         refine WD.done (by kernel_rfl) ?_
         refine WX.a ?_
         refine WC.cond rfl (fun zp4=>?_) (fun zp4=>?_)
         ·replace h:=ym h zp4
          refine WC.a (WL.pu rfl (WL.nil ?_))
          exact WX.mid (G:=Bool) true h (.cons rfl (.cons rfl (.cons rfl (.cons rfl (.cons rfl (.cons rfl (.cons rfl .nil))))))) (.cons .here .nil)
         ·replace h:=yn h zp4
          refine WC.skip ?_
          exact WX.mid (G:=Bool) z5u h (.cons rfl (.cons rfl (.cons rfl (.cons rfl (.cons rfl (.cons rfl (.cons rfl .nil))))))) (.cons .here .nil)
        ·rintro z6Q h
         replace h:=(zD9 z6Q).symm.trans h
         refine WC.b ?_
         obtain ⟨zDe,h⟩:=ye h
         obtain ⟨zDf,h⟩:=ye h
         refine WC.yI (fun i=>[].contains i) [] rfl ?_
         refine WD.a (i:=0) (d:=60) (by kernel_rfl) rfl z2 z3 rfl rfl rfl (fun _=>q_m rfl) ?_
         refine WD.a (i:=1) (d:=61) (by kernel_rfl) rfl z2 z3 rfl rfl rfl (fun _=>q_m rfl) ?_
         refine WD.znth (j:=2) (dd:=62) (by kernel_rfl) rfl z2 z3 rfl rfl (Z:=Z) (Pr:=(fun r x=>r = e59 x)) y2p rfl rfl z4Q zDe ?_
         rintro zLj zLk zDg zLl rfl
         refine WD.a (i:=3) (d:=63) (by kernel_rfl) rfl z2 z3 rfl rfl rfl (fun _=>ya y3h rfl rfl) ?_
         refine WD.e (i:=4) (d:=64) (by kernel_rfl) rfl z2 z3 rfl rfl rfl (yb yd rfl (yD hz.pv zDg rfl)) ?_
         refine WD.a (i:=5) (d:=65) (by kernel_rfl) rfl z2 z3 rfl rfl rfl (fun _=>q_m rfl) ?_
         refine WD.a (i:=6) (d:=66) (by kernel_rfl) rfl z2 z3 rfl rfl rfl (fun _=>q_m rfl) ?_
         refine WD.znth (j:=7) (dd:=67) (by kernel_rfl) rfl z2 z3 rfl rfl (Z:=Z) (Pr:=(fun r x=>r = e59 x)) y2p rfl rfl z4Q zDf ?_
         rintro zLm zLn zDh zLo rfl
         refine WD.a (i:=8) (d:=68) (by kernel_rfl) rfl z2 z3 rfl rfl rfl (fun _=>ya y3h rfl rfl) ?_
         refine WD.e (i:=9) (d:=69) (by kernel_rfl) rfl z2 z3 rfl rfl rfl (yb yd rfl (yD hz.pv zDh rfl)) ?_
         refine WD.a (i:=10) (d:=70) (by kernel_rfl) rfl z2 z3 rfl rfl rfl (fun _=>y5d rfl rfl) ?_
         refine WD.done (by kernel_rfl) ?_
         refine WX.a ?_
         refine WC.cond rfl (fun zp5=>?_) (fun zp5=>?_)
         ·replace h:=ym h zp5
          refine WC.a (WL.pu rfl (WL.nil (WX.yk ?_)))
          exact WX.mid (G:=Bool × Bool) ⟨z6Q,true⟩ h (.cons rfl (.cons rfl (.cons rfl (.cons rfl (.cons rfl (.cons rfl (.cons rfl .nil))))))) (.cons .here .nil)
         ·replace h:=yn h zp5
          refine WC.skip (WX.yk ?_)
          exact WX.mid (G:=Bool × Bool) ⟨z6Q,z4P⟩ h (.cons rfl (.cons rfl (.cons rfl (.cons rfl (.cons rfl (.cons rfl (.cons rfl .nil))))))) (.cons .here .nil)
       ·rintro z9F z9G h
        replace h:=(zD8 z9F z9G).symm.trans h
        refine WC.a (WL.pu rfl (WL.pu rfl (WL.pu rfl (WL.nil ?_))))
        exact WX.round (G:=Nat × Bool × Bool × Int) ⟨zoW,z9F,z9G,(i64 (z38 + 1))⟩ h (Nat.lt_succ_self _) (.cons rfl (.cons rfl (.cons rfl (.cons rfl (.cons rfl (.cons rfl (.cons rfl .nil))))))) (.cons .here .nil)
      ·replace h:=yn h zp3
       refine WC.exit (WX.yg (WX.yg (WX.yv ?_)))
       exact WX.mid (G:=Bool × Bool) ⟨z5u,z4P⟩ h (.cons rfl (.cons rfl (.cons rfl (.cons rfl (.cons rfl (.cons rfl .nil)))))) (.cons .here .nil)
     ·rintro z3w z3Z h
      replace h:=(zD7 z3w z3Z).symm.trans h
      refine WC.b ?_
      obtain ⟨zDi,h⟩:=ye h
      obtain ⟨zDj,h⟩:=ye h
      obtain ⟨zDk,h⟩:=ye h
      obtain ⟨zoZ,zuI,h⟩:=zg h
      refine WC.yI (fun i=>[].contains i) [] rfl ?_
      refine WD.a (i:=0) (d:=71) (by kernel_rfl) rfl z2 z3 rfl rfl rfl (fun _=>q_m rfl) ?_
      refine WD.a (i:=1) (d:=72) (by kernel_rfl) rfl z2 z3 rfl rfl rfl (fun _=>y6X rfl) ?_
      refine WD.a (i:=2) (d:=73) (by kernel_rfl) rfl z2 z3 rfl rfl rfl (fun _=>q_m rfl) ?_
      refine WD.mid (fuel':=44) [(1,(.int .i64 z2l)),(2,(.slice z4v zH.length z4w)),(3,(.pointer (some ⟨z40,0,none⟩))),(7,(.int .i64 zK)),(73,(.bool (!z3w))),(75,(.bool ((!z3w) || z3Z)))] (yJ 49 [4,3,2,1,0]) ?_ (fun zuJ=>?_)
      rotate_left
      ·rcases Bool.eq_false_or_eq_true (!z3w) with hb' | hb'
       ·have zp6:=hb'; clear hb'
        refine WD.pin (i:=73) rfl zp6 ?_
        refine WD.b (i:=3) (d:=74) (by kernel_rfl) rfl z2 z3 rfl rfl rfl ?_
        refine WD.a (i:=4) (d:=75) (by kernel_rfl) rfl z2 z3 rfl rfl rfl (fun _=>yW rfl rfl) ?_
        refine WD.ys (.cons .here .nil) ?_ zuJ
        exact (.cons rfl (.cons rfl (.cons rfl (.cons rfl (.cons (z7 (Eq.symm zp6)) (.cons (z7 (y1p zp6)) .nil))))))
       ·have zp7:=hb'; clear hb'
        refine WD.pin (i:=73) rfl zp7 ?_
        refine WD.a (i:=3) (d:=74) (by kernel_rfl) rfl z2 z3 rfl rfl rfl (fun _=>q_m rfl) ?_
        refine WD.a (i:=4) (d:=75) (by kernel_rfl) rfl z2 z3 rfl rfl rfl (fun _=>yX rfl rfl) ?_
        refine WD.ys (.cons .here .nil) ?_ zuJ
        exact (.cons rfl (.cons rfl (.cons rfl (.cons rfl (.cons (z7 (Eq.symm zp7)) (.cons (z7 (y1q zp7)) .nil))))))
      refine WD.d #[true,true,true,true,true,false,false,false,false,false,false,false,false,false,false,false,false,false,false,false,false,false,false,false,false,false,false,false,false,false,false,false,false,false,false,false,false,false,false,false,false,false,false,false,false,false,false,false,false] (by kernel_rfl) ?_
      refine WD.a (i:=5) (d:=76) (by kernel_rfl) rfl z2 z3 rfl rfl rfl (fun _=>q_m rfl) ?_
      refine WD.mid (fuel':=21) [(1,(.int .i64 z2l)),(2,(.slice z4v zH.length z4w)),(3,(.pointer (some ⟨z40,0,none⟩))),(7,(.int .i64 zK)),(76,(.bool ((!z3w) || z3Z))),(98,(.bool (((!z3w) || z3Z) || ((decide (((nth zH zK).fNode) ≠ ((nth zH 0).fNode))) && (decide (((nth zH zK).fNode) < ((zt.fModules.length : Nat) : Int)))))))] (yJ 49 [27,26,25,24,23,22,21,20,19,18,17,16,15,14,13,12,11,10,9,8,7,6,5,4,3,2,1,0]) ?_ (fun zuK=>?_)
      rotate_left
      ·rcases Bool.eq_false_or_eq_true ((!z3w) || z3Z) with hb' | hb'
       ·have zp8:=hb'; clear hb'
        refine WD.pin (i:=76) rfl zp8 ?_
        refine WD.b (i:=6) (d:=77) (by kernel_rfl) rfl z2 z3 rfl rfl rfl ?_
        refine WD.b (i:=7) (d:=78) (by kernel_rfl) rfl z2 z3 rfl rfl rfl ?_
        refine WD.b (i:=8) (d:=79) (by kernel_rfl) rfl z2 z3 rfl rfl rfl ?_
        refine WD.b (i:=9) (d:=80) (by kernel_rfl) rfl z2 z3 rfl rfl rfl ?_
        refine WD.b (i:=10) (d:=81) (by kernel_rfl) rfl z2 z3 rfl rfl rfl ?_
        refine WD.b (i:=11) (d:=82) (by kernel_rfl) rfl z2 z3 rfl rfl rfl ?_
        refine WD.b (i:=12) (d:=83) (by kernel_rfl) rfl z2 z3 rfl rfl rfl ?_
        refine WD.b (i:=13) (d:=84) (by kernel_rfl) rfl z2 z3 rfl rfl rfl ?_
        refine WD.b (i:=14) (d:=85) (by kernel_rfl) rfl z2 z3 rfl rfl rfl ?_
        refine WD.b (i:=15) (d:=86) (by kernel_rfl) rfl z2 z3 rfl rfl rfl ?_
        refine WD.b (i:=16) (d:=87) (by kernel_rfl) rfl z2 z3 rfl rfl rfl ?_
        refine WD.b (i:=17) (d:=88) (by kernel_rfl) rfl z2 z3 rfl rfl rfl ?_
        refine WD.b (i:=18) (d:=89) (by kernel_rfl) rfl z2 z3 rfl rfl rfl ?_
        refine WD.b (i:=19) (d:=90) (by kernel_rfl) rfl z2 z3 rfl rfl rfl ?_
        refine WD.b (i:=20) (d:=91) (by kernel_rfl) rfl z2 z3 rfl rfl rfl ?_
        refine WD.b (i:=21) (d:=92) (by kernel_rfl) rfl z2 z3 rfl rfl rfl ?_
        refine WD.b (i:=22) (d:=93) (by kernel_rfl) rfl z2 z3 rfl rfl rfl ?_
        refine WD.b (i:=23) (d:=94) (by kernel_rfl) rfl z2 z3 rfl rfl rfl ?_
        refine WD.b (i:=24) (d:=95) (by kernel_rfl) rfl z2 z3 rfl rfl rfl ?_
        refine WD.b (i:=25) (d:=96) (by kernel_rfl) rfl z2 z3 rfl rfl rfl ?_
        refine WD.b (i:=26) (d:=97) (by kernel_rfl) rfl z2 z3 rfl rfl rfl ?_
        refine WD.a (i:=27) (d:=98) (by kernel_rfl) rfl z2 z3 rfl rfl rfl (fun _=>yW rfl rfl) ?_
        refine WD.ys (.cons .here .nil) ?_ zuK
        exact (.cons rfl (.cons rfl (.cons rfl (.cons rfl (.cons (z7 (Eq.symm zp8)) (.cons (z7 (y1p zp8)) .nil))))))
       ·have zez:=hb'; clear hb'
        have zDl:=zDi zez
        have zDm:=zDj zez
        have zDn:=zDk zez
        refine WD.pin (i:=76) rfl zez ?_
        refine WD.a (i:=6) (d:=77) (by kernel_rfl) rfl z2 z3 rfl rfl rfl (fun _=>q_m rfl) ?_
        refine WD.a (i:=7) (d:=78) (by kernel_rfl) rfl z2 z3 rfl rfl rfl (fun _=>q_m rfl) ?_
        refine WD.znth (j:=8) (dd:=79) (by kernel_rfl) rfl z2 z3 rfl rfl (Z:=Z) (Pr:=(fun r x=>r = e59 x)) y2p rfl rfl z4Q zDl ?_
        rintro zLp zLq zDo zLr rfl
        refine WD.a (i:=9) (d:=80) (by kernel_rfl) rfl z2 z3 rfl rfl rfl (fun _=>ya y1E rfl rfl) ?_
        refine WD.e (i:=10) (d:=81) (by kernel_rfl) rfl z2 z3 rfl rfl rfl (yb yd rfl (yD hz.pv zDo rfl)) ?_
        refine WD.a (i:=11) (d:=82) (by kernel_rfl) rfl z2 z3 rfl rfl rfl (fun _=>q_m rfl) ?_
        refine WD.znth (j:=12) (dd:=83) (by kernel_rfl) rfl z2 z3 rfl rfl (Z:=Z) (Pr:=(fun r x=>r = e59 x)) y2p rfl rfl z4Q zDm ?_
        rintro zLs zLt zDp zLu rfl
        refine WD.a (i:=13) (d:=84) (by kernel_rfl) rfl z2 z3 rfl rfl rfl (fun _=>ya y1E rfl rfl) ?_
        refine WD.e (i:=14) (d:=85) (by kernel_rfl) rfl z2 z3 rfl rfl rfl (yb yd rfl (yD hz.pv zDp rfl)) ?_
        refine WD.a (i:=15) (d:=86) (by kernel_rfl) rfl z2 z3 rfl rfl rfl (fun _=>y8n rfl rfl) ?_
        refine WD.a (i:=16) (d:=87) (by kernel_rfl) rfl z2 z3 rfl rfl rfl (fun _=>q_m rfl) ?_
        refine WD.mid (fuel':=22) [(1,(.int .i64 z2l)),(2,(.slice z4v zH.length z4w)),(3,(.pointer (some ⟨z40,0,none⟩))),(7,(.int .i64 zK)),(76,(.bool false)),(87,(.bool (decide (((nth zH zK).fNode) ≠ ((nth zH 0).fNode))))),(97,(.bool ((decide (((nth zH zK).fNode) ≠ ((nth zH 0).fNode))) && (decide (((nth zH zK).fNode) < ((zt.fModules.length : Nat) : Int))))))] (yJ 49 [26,25,24,23,22,21,20,19,18,17,16,15,14,13,12,11,10,9,8,7,6,5,4,3,2,1,0]) ?_ (fun zuL=>?_)
        rotate_left
        ·rcases Bool.eq_false_or_eq_true (decide (((nth zH zK).fNode) ≠ ((nth zH 0).fNode))) with hb' | hb'
         ·have zl4:=hb'; clear hb'
          have zDq:=zDn zl4
          refine WD.pin (i:=87) rfl zl4 ?_
          refine WD.a (i:=17) (d:=88) (by kernel_rfl) rfl z2 z3 rfl rfl rfl (fun _=>q_m rfl) ?_
          refine WD.a (i:=18) (d:=89) (by kernel_rfl) rfl z2 z3 rfl rfl rfl (fun _=>q_m rfl) ?_
          refine WD.znth (j:=19) (dd:=90) (by kernel_rfl) rfl z2 z3 rfl rfl (Z:=Z) (Pr:=(fun r x=>r = e59 x)) y2p rfl rfl z4Q zDq ?_
          rintro zLv zLw zDr zLx rfl
          refine WD.a (i:=20) (d:=91) (by kernel_rfl) rfl z2 z3 rfl rfl rfl (fun _=>ya y1E rfl rfl) ?_
          refine WD.e (i:=21) (d:=92) (by kernel_rfl) rfl z2 z3 rfl rfl rfl (yb yd rfl (yD hz.pv zDr rfl)) ?_
          refine WD.a (i:=22) (d:=93) (by kernel_rfl) rfl z2 z3 rfl rfl rfl (fun _=>ya y1Y rfl rfl) ?_
          refine WD.e (i:=23) (d:=94) (by kernel_rfl) rfl z2 z3 rfl rfl rfl (yb y1Z rfl (yc .here rfl)) ?_
          refine WD.a (i:=24) (d:=95) (by kernel_rfl) rfl z2 z3 rfl rfl rfl (fun _=>yz Try.underlying22 rfl) ?_
          refine WD.a (i:=25) (d:=96) (by kernel_rfl) rfl z2 z3 rfl rfl rfl (fun _=>y3O rfl rfl) ?_
          refine WD.a (i:=26) (d:=97) (by kernel_rfl) rfl z2 z3 rfl rfl rfl (fun _=>yW rfl rfl) ?_
          refine WD.ys (.cons .here .nil) ?_ zuL
          exact (.cons rfl (.cons rfl (.cons rfl (.cons rfl (.cons rfl (.cons (z7 (Eq.symm zl4)) (.cons (z7 (y1H zl4)) .nil)))))))
         ·have zp9:=hb'; clear hb'
          refine WD.pin (i:=87) rfl zp9 ?_
          refine WD.b (i:=17) (d:=88) (by kernel_rfl) rfl z2 z3 rfl rfl rfl ?_
          refine WD.b (i:=18) (d:=89) (by kernel_rfl) rfl z2 z3 rfl rfl rfl ?_
          refine WD.b (i:=19) (d:=90) (by kernel_rfl) rfl z2 z3 rfl rfl rfl ?_
          refine WD.b (i:=20) (d:=91) (by kernel_rfl) rfl z2 z3 rfl rfl rfl ?_
          refine WD.b (i:=21) (d:=92) (by kernel_rfl) rfl z2 z3 rfl rfl rfl ?_
          refine WD.b (i:=22) (d:=93) (by kernel_rfl) rfl z2 z3 rfl rfl rfl ?_
          refine WD.b (i:=23) (d:=94) (by kernel_rfl) rfl z2 z3 rfl rfl rfl ?_
          refine WD.b (i:=24) (d:=95) (by kernel_rfl) rfl z2 z3 rfl rfl rfl ?_
          refine WD.b (i:=25) (d:=96) (by kernel_rfl) rfl z2 z3 rfl rfl rfl ?_
          refine WD.a (i:=26) (d:=97) (by kernel_rfl) rfl z2 z3 rfl rfl rfl (fun _=>yX rfl rfl) ?_
          refine WD.ys (.cons .here .nil) ?_ zuL
          exact (.cons rfl (.cons rfl (.cons rfl (.cons rfl (.cons rfl (.cons (z7 (Eq.symm zp9)) (.cons (z7 (y1G zp9)) .nil)))))))
        refine WD.d #[true,true,true,true,true,true,true,true,true,true,true,true,true,true,true,true,true,true,true,true,true,true,true,true,true,true,true,false,false,false,false,false,false,false,false,false,false,false,false,false,false,false,false,false,false,false,false,false,false] (by kernel_rfl) ?_
        refine WD.a (i:=27) (d:=98) (by kernel_rfl) rfl z2 z3 rfl rfl rfl (fun _=>yX rfl rfl) ?_
        refine WD.ys (.cons .here .nil) ?_ zuK
        exact (.cons rfl (.cons rfl (.cons rfl (.cons rfl (.cons (z7 (Eq.symm zez)) (.cons (z7 (y1q zez)) .nil))))))
      refine WD.d #[true,true,true,true,true,true,true,true,true,true,true,true,true,true,true,true,true,true,true,true,true,true,true,true,true,true,true,true,false,false,false,false,false,false,false,false,false,false,false,false,false,false,false,false,false,false,false,false,false] (by kernel_rfl) ?_
      refine WD.a (i:=28) (d:=99) (by kernel_rfl) rfl z2 z3 rfl rfl rfl (fun _=>q_m rfl) ?_
      refine WD.mid (fuel':=0) [(1,(.int .i64 z2l)),(2,(.slice z4v zH.length z4w)),(3,(.pointer (some ⟨z40,0,none⟩))),(7,(.int .i64 zK)),(99,(.bool (((!z3w) || z3Z) || ((decide (((nth zH zK).fNode) ≠ ((nth zH 0).fNode))) && (decide (((nth zH zK).fNode) < ((zt.fModules.length : Nat) : Int))))))),(119,(.bool zoZ))] (yJ 49 [48,47,46,45,44,43,42,41,40,39,38,37,36,35,34,33,32,31,30,29,28,27,26,25,24,23,22,21,20,19,18,17,16,15,14,13,12,11,10,9,8,7,6,5,4,3,2,1,0]) ?_ (fun zuM=>?_)
      rotate_left
      ·rcases Bool.eq_false_or_eq_true (((!z3w) || z3Z) || ((decide (((nth zH zK).fNode) ≠ ((nth zH 0).fNode))) && (decide (((nth zH zK).fNode) < ((zt.fModules.length : Nat) : Int))))) with hb' | hb'
       ·have zpa:=hb'; clear hb'
        have zpb:=ym zuI zpa
        replace zpb:=Option.some.inj zpb
        refine WD.pin (i:=99) rfl zpa ?_
        refine WD.b (i:=29) (d:=100) (by kernel_rfl) rfl z2 z3 rfl rfl rfl ?_
        refine WD.b (i:=30) (d:=101) (by kernel_rfl) rfl z2 z3 rfl rfl rfl ?_
        refine WD.b (i:=31) (d:=102) (by kernel_rfl) rfl z2 z3 rfl rfl rfl ?_
        refine WD.b (i:=32) (d:=103) (by kernel_rfl) rfl z2 z3 rfl rfl rfl ?_
        refine WD.b (i:=33) (d:=104) (by kernel_rfl) rfl z2 z3 rfl rfl rfl ?_
        refine WD.b (i:=34) (d:=105) (by kernel_rfl) rfl z2 z3 rfl rfl rfl ?_
        refine WD.b (i:=35) (d:=106) (by kernel_rfl) rfl z2 z3 rfl rfl rfl ?_
        refine WD.b (i:=36) (d:=107) (by kernel_rfl) rfl z2 z3 rfl rfl rfl ?_
        refine WD.b (i:=37) (d:=108) (by kernel_rfl) rfl z2 z3 rfl rfl rfl ?_
        refine WD.b (i:=38) (d:=109) (by kernel_rfl) rfl z2 z3 rfl rfl rfl ?_
        refine WD.b (i:=39) (d:=110) (by kernel_rfl) rfl z2 z3 rfl rfl rfl ?_
        refine WD.b (i:=40) (d:=111) (by kernel_rfl) rfl z2 z3 rfl rfl rfl ?_
        refine WD.b (i:=41) (d:=112) (by kernel_rfl) rfl z2 z3 rfl rfl rfl ?_
        refine WD.b (i:=42) (d:=113) (by kernel_rfl) rfl z2 z3 rfl rfl rfl ?_
        refine WD.b (i:=43) (d:=114) (by kernel_rfl) rfl z2 z3 rfl rfl rfl ?_
        refine WD.b (i:=44) (d:=115) (by kernel_rfl) rfl z2 z3 rfl rfl rfl ?_
        refine WD.b (i:=45) (d:=116) (by kernel_rfl) rfl z2 z3 rfl rfl rfl ?_
        refine WD.b (i:=46) (d:=117) (by kernel_rfl) rfl z2 z3 rfl rfl rfl ?_
        refine WD.b (i:=47) (d:=118) (by kernel_rfl) rfl z2 z3 rfl rfl rfl ?_
        refine WD.a (i:=48) (d:=119) (by kernel_rfl) rfl z2 z3 rfl rfl rfl (fun _=>yW rfl rfl) ?_
        refine WD.ys (.cons .here .nil) ?_ zuM
        exact (.cons rfl (.cons rfl (.cons rfl (.cons rfl (.cons (z7 (Eq.symm zpa)) (.cons (z7 zpb) .nil))))))
       ·have zpc:=hb'; clear hb'
        have zcb:=yn zuI zpc
        obtain ⟨zpd,zcb⟩:=ye zcb
        obtain ⟨zuG,zDs,zcb⟩:=zg zcb
        replace zcb:=Option.some.inj zcb
        refine WD.pin (i:=99) rfl zpc ?_
        refine WD.e (i:=29) (d:=100) (by kernel_rfl) rfl z2 z3 rfl rfl rfl (yx y1f rfl (yQ .here) rfl) ?_
        refine WD.a (i:=30) (d:=101) (by kernel_rfl) rfl z2 z3 rfl rfl rfl (fun _=>q_m rfl) ?_
        refine WD.a (i:=31) (d:=102) (by kernel_rfl) rfl z2 z3 rfl rfl rfl (fun _=>q_m rfl) ?_
        refine WD.a (i:=32) (d:=103) (by kernel_rfl) rfl z2 z3 rfl rfl rfl (fun _=>q_m rfl) ?_
        refine WD.znth (j:=33) (dd:=104) (by kernel_rfl) rfl z2 z3 rfl rfl (Z:=Z) (Pr:=(fun r x=>r = e59 x)) y2p rfl rfl z4Q zpd ?_
        rintro zLy zLz zDt zLA rfl
        refine WD.a (i:=34) (d:=105) (by kernel_rfl) rfl z2 z3 rfl rfl rfl (fun _=>ya y4W rfl rfl) ?_
        refine WD.e (i:=35) (d:=106) (by kernel_rfl) rfl z2 z3 rfl rfl rfl (yb yd rfl (yD hz.pv zDt rfl)) ?_
        refine WD.a (i:=36) (d:=107) (by kernel_rfl) rfl z2 z3 rfl rfl rfl (fun _=>q_m rfl) ?_
        refine WD.a (i:=37) (d:=108) (by kernel_rfl) rfl z2 z3 rfl rfl rfl (fun _=>q_m rfl) ?_
        refine WD.znth (j:=38) (dd:=109) (by kernel_rfl) rfl z2 z3 rfl rfl (Z:=Z) (Pr:=(fun r x=>r = e59 x)) y2p rfl rfl z4Q zpd ?_
        rintro zLB zLC zDu zLD rfl
        refine WD.a (i:=39) (d:=110) (by kernel_rfl) rfl z2 z3 rfl rfl rfl (fun _=>ya y1E rfl rfl) ?_
        refine WD.e (i:=40) (d:=111) (by kernel_rfl) rfl z2 z3 rfl rfl rfl (yb yd rfl (yD hz.pv zDu rfl)) ?_
        refine WD.a (i:=41) (d:=112) (by kernel_rfl) rfl z2 z3 rfl rfl rfl (fun _=>q_m rfl) ?_
        refine WD.a (i:=42) (d:=113) (by kernel_rfl) rfl z2 z3 rfl rfl rfl (fun _=>q_m rfl) ?_
        refine WD.znth (j:=43) (dd:=114) (by kernel_rfl) rfl z2 z3 rfl rfl (Z:=Z) (Pr:=(fun r x=>r = e59 x)) y2p rfl rfl z4Q zpd ?_
        rintro zLE zLF zDv zLG rfl
        refine WD.a (i:=44) (d:=115) (by kernel_rfl) rfl z2 z3 rfl rfl rfl (fun _=>ya y3h rfl rfl) ?_
        refine WD.e (i:=45) (d:=116) (by kernel_rfl) rfl z2 z3 rfl rfl rfl (yb yd rfl (yD hz.pv zDv rfl)) ?_
        refine WD.c (i:=46) (d:=117) (by kernel_rfl) rfl z2 z3 rfl rfl rfl (zC (l:=[.tmp 100,.tmp 101,.tmp 106,.tmp 111,.tmp 116]) Try.call49 (.cons rfl (.cons rfl (.cons rfl (.cons rfl (.cons rfl .nil)))))) (cc hz .nil fun w pz ho=>y9s _ _ _ _ _ _ _ _ _ _ _ _ _ _ _ _ _ _ _ _ _ _ _ zDs w pz zCN zCO zCP zCQ zCR zCS zCT zCU) ?_
        refine WD.a (i:=47) (d:=118) (by kernel_rfl) rfl z2 z3 rfl rfl rfl (fun _=>y6X rfl) ?_
        refine WD.a (i:=48) (d:=119) (by kernel_rfl) rfl z2 z3 rfl rfl rfl (fun _=>yX rfl rfl) ?_
        refine WD.ys (.cons .here .nil) ?_ zuM
        exact (.cons rfl (.cons rfl (.cons rfl (.cons rfl (.cons (z7 (Eq.symm zpc)) (.cons (z7 zcb) .nil))))))
      refine WD.d #[true,true,true,true,true,true,true,true,true,true,true,true,true,true,true,true,true,true,true,true,true,true,true,true,true,true,true,true,true,true,true,true,true,true,true,true,true,true,true,true,true,true,true,true,true,true,true,true,true] (by kernel_rfl) ?_
      refine WD.done (by kernel_rfl) ?_
      refine WX.a ?_
      refine WC.cond rfl (fun zpe=>?_) (fun zpe=>?_)
      ·replace h:=ym h zpe
       refine WC.b (WC.a (WL.pu rfl (WL.nil (WX.a (WC.ret (WX.yH (WX.yj (WX.yj (WX.yH (WX.yj ?_))))))))))
       obtain rfl:=Option.some.inj h
       refine WX.yi Try.results37 (.tmp rfl .nil) (fun w hw=>?_)
       exact ⟨yM rfl,hw.sub .nil⟩
      ·replace h:=yn h zpe
       refine WC.skip (WX.yk ?_)
       exact WX.mid (G:=Unit) () h (.cons rfl (.cons rfl (.cons rfl (.cons rfl .nil)))) (.cons .here .nil)
    ·rintro  h
     replace h:=zCW.symm.trans h
     refine WC.a (WL.pu rfl (WL.pu rfl (WL.pu rfl (WL.nil ?_))))
     exact WX.round (G:=Nat × Int) ⟨zoX,(i64 (zK + 1))⟩ h (Nat.lt_succ_self _) (.cons rfl (.cons rfl (.cons rfl (.cons rfl .nil)))) (.cons .here .nil)
   ·replace h:=yn h zp1
    refine WC.exit (WX.yg (WX.yg (WX.yv ?_)))
    exact WX.mid (G:=Unit) () h .nil .nil
  ·rintro  h
   replace h:=zCV.symm.trans h
   refine WC.b (WC.a (WL.pu rfl (WL.nil (WX.a (WC.ret ?_)))))
   obtain rfl:=Option.some.inj h
   refine WX.yi Try.results37 (.tmp rfl .nil) (fun w hw=>?_)
   exact ⟨yM rfl,hw.sub .nil⟩
def y2l (z2X : List (List Sapi_Hop)) (zY : Sapi_Config) (z2Y : Int) (z9I : Option Bool) : Nat → Int → Option Bool
 | 0,_=>none
 | zpf + 1,z4x=>if decide (z4x < ((z2X.length : Nat) : Int)) then chk ((0 : Int) ≤ z4x ∧ z4x < ((z2X.length : Nat) : Int)) ((y4E zY z2Y (nth z2X z4x)).bind fun zuN=>if !zuN then some false else y2l z2X zY z2Y z9I zpf (i64 (z4x + 1))) else z9I
theorem y6O {n : Nat} {z2X : List (List Sapi_Hop)} {zY : Sapi_Config} {z2Y : Int} {z9I : Option Bool} {z4x : Int} {r : Bool} (h : y2l z2X zY z2Y z9I n z4x = some r) : ∃ m,n = m + 1:=by
 cases n with
 | zero=>cases h
 | succ m=>exact ⟨m,rfl⟩
def y3V (zY : Sapi_Config) (z2Y : Int) (z2X : List (List Sapi_Hop)) : Option Bool :=
 if (((decide (z2Y ≠ 0)) && (decide (z2Y ≠ 1))) || (decide (((z2X.length : Nat) : Int) ≠ ((zY.fVLs.length : Nat) : Int)))) || (decide (((z2X.length : Nat) : Int) > 16)) then some false else jp0 (some true) fun z9I=>y2l z2X zY z2Y z9I yw 0
set_option maxRecDepth 20000 in
theorem y7l (Z : Zp) (zeA : Option Addr) (zeB : Nat) (zeC : Option Addr) (zeD : Nat) (zeE : Option Addr) (zeF : Nat) (zeG : Option Addr) (zeH : Nat) (zeI : Option Addr) (zeJ : Nat) (zeK : Option Addr) (zeL : Nat) (zeM : Option Addr) (zeN : Nat) (zeO : Option Addr) (zeP : Nat) (ziU : Option Addr) (ziV : Nat) (zY : Sapi_Config) (z2Y : Int) (z2X : List (List Sapi_Hop)) (r : Bool)
  (h : y3V zY z2Y z2X = some r) (w₀ : World) (hz : PZ [] w₀ Z)
  (zDw : ZS Z 4 (y2i Z) zeA zeB zY.fModules)
  (zDx : ZS Z 4 (y2R Z) zeC zeD zY.fChannels)
  (zDy : ZS Z 4 (fun r x=>r = e64 x) zeE zeF zY.fSwitches)
  (zDz : ZS Z 4 (fun r x=>r = e62 x) zeG zeH zY.fLinks)
  (zDA : ZS Z 7 (y2A Z) zeI zeJ zY.fVLs)
  (zDB : ZS Z 5 (fun r x=>r = y2T x) zeK zeL zY.fHealth)
  (zDC : ZS Z 3 (y2S Z) zeM zeN zY.fCauses)
  (zDD : ZS Z 4 (fun r x=>r = y2U x) zeO zeP zY.fVersions)
  (zDE : ZS Z 1 (p55 Z) ziU ziV z2X) :
  Calls Try.prog 16 #[(.agg #[(.slice zeA zY.fModules.length zeB),(.slice zeC zY.fChannels.length zeD),(.slice zeE zY.fSwitches.length zeF),(.slice zeG zY.fLinks.length zeH),(.slice zeI zY.fVLs.length zeJ),(.slice zeK zY.fHealth.length zeL),(.slice zeM zY.fCauses.length zeN),(.slice zeO zY.fVersions.length zeP)]),(.int .i64 z2Y),(.slice ziU z2X.length ziV)] w₀ fun e w'=>e = .returned (.bool r) ∧ Hp [] w₀ w' []:=by
 unfold y3V at h
 refine Calls.yp (vs:=[(.agg #[(.slice zeA zY.fModules.length zeB),(.slice zeC zY.fChannels.length zeD),(.slice zeE zY.fSwitches.length zeF),(.slice zeG zY.fLinks.length zeH),(.slice zeI zY.fVLs.length zeJ),(.slice zeK zY.fHealth.length zeL),(.slice zeM zY.fCauses.length zeN),(.slice zeO zY.fVersions.length zeP)]),(.int .i64 z2Y),(.slice ziU z2X.length ziV)]) (pre:=[]) (env:=[(0,(.agg #[(.slice zeA zY.fModules.length zeB),(.slice zeC zY.fChannels.length zeD),(.slice zeE zY.fSwitches.length zeF),(.slice zeG zY.fLinks.length zeH),(.slice zeI zY.fVLs.length zeJ),(.slice zeK zY.fHealth.length zeL),(.slice zeM zY.fCauses.length zeN),(.slice zeO zY.fVersions.length zeP)])),(1,(.int .i64 z2Y)),(2,(.slice ziU z2X.length ziV))]) Try.func16 rfl Try.ntmps16 rfl (Hp.nil w₀ _) rfl ?_
 refine WC.b (WC.a ?_)
 refine WL.new (dd:=3) rfl rfl rfl (y1N (cs:=[(.slice zeA zY.fModules.length zeB),(.slice zeC zY.fChannels.length zeD),(.slice zeE zY.fSwitches.length zeF),(.slice zeG zY.fLinks.length zeH),(.slice zeI zY.fVLs.length zeJ),(.slice zeK zY.fHealth.length zeL),(.slice zeM zY.fCauses.length zeN),(.slice zeO zY.fVersions.length zeP)]) rfl rfl) ?_
 intro zuO _
 refine WL.pu rfl (WL.nil (WX.a (WC.b (WC.b (WC.a (WL.pu rfl (WL.pu rfl (WL.pu rfl ?_))))))))
 refine WL.seg true 2 10 (B:=(decide (z2Y ≠ 0)) && (decide (z2Y ≠ 1))) rfl rfl rfl rfl rfl rfl (fun h=>(y1G h).symm) (fun _ zDF=>?_) ?_
 ·skip
  refine WL.pu rfl (WL.pu rfl (WL.pu rfl ?_))
  exact WL.yr (y1H zDF) rfl rfl .all
 refine WL.pu rfl ?_
 refine WL.seg false 6 14 (B:=((decide (z2Y ≠ 0)) && (decide (z2Y ≠ 1))) || (decide (((z2X.length : Nat) : Int) ≠ ((zY.fVLs.length : Nat) : Int)))) rfl rfl rfl rfl rfl rfl (fun h=>(y1p h).symm) (fun _ zDG=>?_) ?_
 ·skip
  refine WL.pu rfl ?_
  refine WL.a (d:=16) rfl rfl rfl (yz Try.underlying32 rfl) ?_
  refine WL.a (d:=17) rfl rfl rfl (ya y6z rfl rfl) ?_
  refine WL.a (d:=18) rfl rfl rfl (yb y6A rfl (yc .here rfl)) ?_
  refine WL.a (d:=19) rfl rfl rfl (yz Try.underlying26 rfl) ?_
  refine WL.pu rfl (WL.pu rfl ?_)
  exact WL.yr (y1q zDG) rfl rfl .all
 refine WL.pu rfl ?_
 refine WL.seg false 3 22 (B:=(((decide (z2Y ≠ 0)) && (decide (z2Y ≠ 1))) || (decide (((z2X.length : Nat) : Int) ≠ ((zY.fVLs.length : Nat) : Int)))) || (decide (((z2X.length : Nat) : Int) > 16))) rfl rfl rfl rfl rfl rfl (fun h=>(y1p h).symm) (fun _ zDH=>?_) ?_
 ·skip
  refine WL.pu rfl ?_
  refine WL.a (d:=24) rfl rfl rfl (yz Try.underlying32 rfl) ?_
  refine WL.pu rfl (WL.pu rfl ?_)
  exact WL.yr (y1q zDH) rfl rfl .all
 refine WL.nil (WX.a ?_)
 refine WC.cond rfl (fun zpg=>?_) (fun zpg=>?_)
 ·replace h:=ym h zpg
  refine WC.b (WC.a (WL.pu rfl (WL.nil (WX.a (WC.ret (WX.yj ?_))))))
  obtain rfl:=Option.some.inj h
  refine WX.yi Try.results16 (.tmp rfl .nil) (fun w hw=>?_)
  exact ⟨yM rfl,hw.sub .nil⟩
 ·replace h:=yn h zpg
  refine WC.skip (WX.a ?_)
  obtain ⟨z9I,zDI,h⟩:=y2r h
  refine WC.y24 ((z9I = some r)) ([]) ([]) ?_ ?_
  ·skip
   refine WC.b (WC.a (WL.pu rfl (WL.nil (WX.a (WC.block ?_)))))
   refine WC.y33 (fun (zeQ : Nat) (z4x : Int)=>(y2l z2X zY z2Y z9I zeQ z4x = some r)) (fun (zeQ : Nat) (z4x : Int)=>[(1,(.int .i64 z2Y)),(2,(.slice ziU z2X.length ziV)),(3,(.pointer (some ⟨zuO,0,none⟩))),(7,(.int .i64 z4x))]) (fun (zeQ : Nat) (z4x : Int)=>[stb zuO 31 [(.slice zeA zY.fModules.length zeB),(.slice zeC zY.fChannels.length zeD),(.slice zeE zY.fSwitches.length zeF),(.slice zeG zY.fLinks.length zeH),(.slice zeI zY.fVLs.length zeJ),(.slice zeK zY.fHealth.length zeL),(.slice zeM zY.fCauses.length zeN),(.slice zeO zY.fVersions.length zeP)]]) (fun (zeQ : Nat) (z4x : Int)=>zeQ) ⟨yw,0⟩ h (.cons rfl (.cons rfl (.cons rfl (.cons rfl .nil)))) (.cons .here .nil) ?_
   rintro zeQ z4x h
   obtain ⟨zpf,rfl⟩:=y6O h
   rw [y2l] at h
   refine WC.b (WC.b (WC.a (WL.pu rfl (WL.pu rfl ?_))))
   refine WL.a (d:=29) rfl rfl rfl (yz Try.underlying32 rfl) ?_
   refine WL.pu rfl (WL.nil (WX.a ?_))
   refine WC.cond rfl (fun zph=>?_) (fun zph=>?_)
   ·replace h:=ym h zph
    refine WC.skip (WX.a (WC.b (WC.block (WC.b ?_))))
    obtain ⟨zDJ,h⟩:=ye h
    obtain ⟨zuN,zDK,h⟩:=zg h
    refine WC.yI (fun i=>[].contains i) [] rfl ?_
    refine WD.e (i:=0) (d:=33) (by kernel_rfl) rfl z2 z3 rfl rfl rfl (yx y1f rfl (yQ .here) rfl) ?_
    refine WD.a (i:=1) (d:=34) (by kernel_rfl) rfl z2 z3 rfl rfl rfl (fun _=>q_m rfl) ?_
    refine WD.a (i:=2) (d:=35) (by kernel_rfl) rfl z2 z3 rfl rfl rfl (fun _=>q_m rfl) ?_
    refine WD.a (i:=3) (d:=36) (by kernel_rfl) rfl z2 z3 rfl rfl rfl (fun _=>q_m rfl) ?_
    refine WD.znth (j:=4) (dd:=37) (by kernel_rfl) rfl z2 z3 rfl rfl (Z:=Z) (Pr:=(p55 Z)) y5f rfl rfl zDE zDJ ?_
    rintro zLH zLI zDL zLJ ⟨zLK,zLL,rfl,zDM⟩
    refine WD.e (i:=5) (d:=38) (by kernel_rfl) rfl z2 z3 rfl rfl rfl (yb y53 rfl (y4R hz.pv zDL rfl)) ?_
    refine WD.c (i:=6) (d:=39) (by kernel_rfl) rfl z2 z3 rfl rfl rfl (zC (l:=[.tmp 33,.tmp 34,.tmp 38]) Try.call37 (.cons rfl (.cons rfl (.cons rfl .nil)))) (cc hz .nil fun w pz ho=>y9t _ _ _ _ _ _ _ _ _ _ _ _ _ _ _ _ _ _ _ _ _ _ _ zDK w pz zDw zDx zDy zDz zDA zDB zDC zDD zDM) ?_
    refine WD.a (i:=7) (d:=40) (by kernel_rfl) rfl z2 z3 rfl rfl rfl (fun _=>y6X rfl) ?_
    refine WD.done (by kernel_rfl) ?_
    refine WX.a ?_
    refine WC.cond rfl (fun zpi=>?_) (fun zpi=>?_)
    ·replace h:=ym h zpi
     refine WC.b (WC.a (WL.pu rfl (WL.nil (WX.a (WC.ret (WX.yH (WX.yj (WX.yj (WX.yH (WX.yj ?_))))))))))
     obtain rfl:=Option.some.inj h
     refine WX.yi Try.results16 (.tmp rfl .nil) (fun w hw=>?_)
     exact ⟨yM rfl,hw.sub .nil⟩
    ·replace h:=yn h zpi
     refine WC.skip (WX.yk (WX.a (WC.a (WL.pu rfl (WL.pu rfl (WL.pu rfl (WL.nil ?_)))))))
     exact WX.round (G:=Nat × Int) ⟨zpf,(i64 (z4x + 1))⟩ h (Nat.lt_succ_self _) (.cons rfl (.cons rfl (.cons rfl (.cons rfl .nil)))) (.cons .here .nil)
   ·replace h:=yn h zph
    refine WC.exit (WX.yg (WX.yg (WX.yv ?_)))
    exact WX.mid (G:=Unit) () h .nil .nil
  ·rintro  h
   replace h:=zDI.symm.trans h
   refine WC.b (WC.a (WL.pu rfl (WL.nil (WX.a (WC.ret ?_)))))
   obtain rfl:=Option.some.inj h
   refine WX.yi Try.results16 (.tmp rfl .nil) (fun w hw=>?_)
   exact ⟨yM rfl,hw.sub .nil⟩
def y2c (zd : List zSt) (zN : Sapi_Config) (z9J : Option Bool) : Nat → Int → Option Bool
 | 0,_=>none
 | zpj + 1,za=>if decide (za < ((zd.length : Nat) : Int)) then chk ((0 : Int) ≤ za ∧ za < ((zd.length : Nat) : Int)) (chk ((decide (((nth zd za).fTime) < 0)) = false → ((0 : Int) ≤ za ∧ za < ((zd.length : Nat) : Int))) (chk (((decide (((nth zd za).fTime) < 0)) || (decide (((nth zd za).fTime) > 536870912))) = false → ((0 : Int) ≤ za ∧ za < ((zd.length : Nat) : Int))) (chk ((((decide (((nth zd za).fTime) < 0)) || (decide (((nth zd za).fTime) > 536870912))) || (decide (((nth zd za).fVL) < 0))) = false → ((0 : Int) ≤ za ∧ za < ((zd.length : Nat) : Int))) (chk (((((decide (((nth zd za).fTime) < 0)) || (decide (((nth zd za).fTime) > 536870912))) || (decide (((nth zd za).fVL) < 0))) || (decide (((nth zd za).fVL) ≥ ((zN.fVLs.length : Nat) : Int)))) = false → ((0 : Int) ≤ za ∧ za < ((zd.length : Nat) : Int))) (chk ((((((decide (((nth zd za).fTime) < 0)) || (decide (((nth zd za).fTime) > 536870912))) || (decide (((nth zd za).fVL) < 0))) || (decide (((nth zd za).fVL) ≥ ((zN.fVLs.length : Nat) : Int)))) || (decide (((nth zd za).fSize) < 1))) = false → ((0 : Int) ≤ za ∧ za < ((zd.length : Nat) : Int))) (chk (((((((decide (((nth zd za).fTime) < 0)) || (decide (((nth zd za).fTime) > 536870912))) || (decide (((nth zd za).fVL) < 0))) || (decide (((nth zd za).fVL) ≥ ((zN.fVLs.length : Nat) : Int)))) || (decide (((nth zd za).fSize) < 1))) || (decide (((nth zd za).fSize) > 72))) = false → ((decide (za > 0)) = true → ((0 : Int) ≤ (i64 (za - 1)) ∧ (i64 (za - 1)) < ((zd.length : Nat) : Int)))) (chk (((((((decide (((nth zd za).fTime) < 0)) || (decide (((nth zd za).fTime) > 536870912))) || (decide (((nth zd za).fVL) < 0))) || (decide (((nth zd za).fVL) ≥ ((zN.fVLs.length : Nat) : Int)))) || (decide (((nth zd za).fSize) < 1))) || (decide (((nth zd za).fSize) > 72))) = false → ((decide (za > 0)) = true → ((0 : Int) ≤ za ∧ za < ((zd.length : Nat) : Int)))) (if ((((((decide (((nth zd za).fTime) < 0)) || (decide (((nth zd za).fTime) > 536870912))) || (decide (((nth zd za).fVL) < 0))) || (decide (((nth zd za).fVL) ≥ ((zN.fVLs.length : Nat) : Int)))) || (decide (((nth zd za).fSize) < 1))) || (decide (((nth zd za).fSize) > 72))) || ((decide (za > 0)) && (decide (((nth zd (i64 (za - 1))).fTime) > ((nth zd za).fTime)))) then some false else y2c zd zN z9J zpj (i64 (za + 1)))))))))) else z9J
theorem y6r {n : Nat} {zd : List zSt} {zN : Sapi_Config} {z9J : Option Bool} {za : Int} {r : Bool} (h : y2c zd zN z9J n za = some r) : ∃ m,n = m + 1:=by
 cases n with
 | zero=>cases h
 | succ m=>exact ⟨m,rfl⟩
def y4i (zN : Sapi_Config) (zd : List zSt) : Option Bool :=
 if decide (((zd.length : Nat) : Int) > 4000) then some false else jp0 (some true) fun z9J=>y2c zd zN z9J yw 0
set_option maxRecDepth 20000 in
theorem y8V (Z : Zp) (zeR : Option Addr) (zeS : Nat) (zeT : Option Addr) (zeU : Nat) (zeV : Option Addr) (zeW : Nat) (zeX : Option Addr) (zeY : Nat) (zeZ : Option Addr) (zf0 : Nat) (zf1 : Option Addr) (zf2 : Nat) (zf3 : Option Addr) (zf4 : Nat) (zf5 : Option Addr) (zf6 : Nat) (z6c : Option Addr) (z6d : Nat) (zN : Sapi_Config) (zd : List zSt) (r : Bool)
  (h : y4i zN zd = some r) (w₀ : World) (hz : PZ [] w₀ Z)
  (zLM : ZS Z 4 (y2i Z) zeR zeS zN.fModules)
  (zLN : ZS Z 4 (y2R Z) zeT zeU zN.fChannels)
  (zLO : ZS Z 4 (fun r x=>r = e64 x) zeV zeW zN.fSwitches)
  (zLP : ZS Z 4 (fun r x=>r = e62 x) zeX zeY zN.fLinks)
  (zLQ : ZS Z 7 (y2A Z) zeZ zf0 zN.fVLs)
  (zLR : ZS Z 5 (fun r x=>r = y2T x) zf1 zf2 zN.fHealth)
  (zLS : ZS Z 3 (y2S Z) zf3 zf4 zN.fCauses)
  (zLT : ZS Z 4 (fun r x=>r = y2U x) zf5 zf6 zN.fVersions)
  (zau : ZS Z 3 (fun r x=>r = e53 x) z6c z6d zd) :
  Calls Try.prog 28 #[(.agg #[(.slice zeR zN.fModules.length zeS),(.slice zeT zN.fChannels.length zeU),(.slice zeV zN.fSwitches.length zeW),(.slice zeX zN.fLinks.length zeY),(.slice zeZ zN.fVLs.length zf0),(.slice zf1 zN.fHealth.length zf2),(.slice zf3 zN.fCauses.length zf4),(.slice zf5 zN.fVersions.length zf6)]),(.slice z6c zd.length z6d)] w₀ fun e w'=>e = .returned (.bool r) ∧ Hp [] w₀ w' []:=by
 unfold y4i at h
 refine Calls.yp (vs:=[(.agg #[(.slice zeR zN.fModules.length zeS),(.slice zeT zN.fChannels.length zeU),(.slice zeV zN.fSwitches.length zeW),(.slice zeX zN.fLinks.length zeY),(.slice zeZ zN.fVLs.length zf0),(.slice zf1 zN.fHealth.length zf2),(.slice zf3 zN.fCauses.length zf4),(.slice zf5 zN.fVersions.length zf6)]),(.slice z6c zd.length z6d)]) (pre:=[]) (env:=[(0,(.agg #[(.slice zeR zN.fModules.length zeS),(.slice zeT zN.fChannels.length zeU),(.slice zeV zN.fSwitches.length zeW),(.slice zeX zN.fLinks.length zeY),(.slice zeZ zN.fVLs.length zf0),(.slice zf1 zN.fHealth.length zf2),(.slice zf3 zN.fCauses.length zf4),(.slice zf5 zN.fVersions.length zf6)])),(1,(.slice z6c zd.length z6d))]) Try.func28 rfl Try.ntmps28 rfl (Hp.nil w₀ _) rfl ?_
 refine WC.b (WC.a ?_)
 refine WL.new (dd:=2) rfl rfl rfl (y1N (cs:=[(.slice zeR zN.fModules.length zeS),(.slice zeT zN.fChannels.length zeU),(.slice zeV zN.fSwitches.length zeW),(.slice zeX zN.fLinks.length zeY),(.slice zeZ zN.fVLs.length zf0),(.slice zf1 zN.fHealth.length zf2),(.slice zf3 zN.fCauses.length zf4),(.slice zf5 zN.fVersions.length zf6)]) rfl rfl) ?_
 intro z9K _
 refine WL.pu rfl (WL.nil (WX.a (WC.b (WC.b (WC.a (WL.pu rfl ?_))))))
 refine WL.a (d:=7) rfl rfl rfl (yz Try.underlying33 rfl) ?_
 refine WL.pu rfl (WL.nil (WX.a ?_))
 refine WC.cond rfl (fun zpk=>?_) (fun zpk=>?_)
 ·replace h:=ym h zpk
  refine WC.b (WC.a (WL.pu rfl (WL.nil (WX.a (WC.ret (WX.yj ?_))))))
  obtain rfl:=Option.some.inj h
  refine WX.yi Try.results28 (.tmp rfl .nil) (fun w hw=>?_)
  exact ⟨yM rfl,hw.sub .nil⟩
 ·replace h:=yn h zpk
  refine WC.skip (WX.a ?_)
  obtain ⟨z9J,zDN,h⟩:=y2r h
  refine WC.y24 ((z9J = some r)) ([]) ([]) ?_ ?_
  ·skip
   refine WC.b (WC.a (WL.pu rfl (WL.nil (WX.a (WC.block ?_)))))
   refine WC.y33 (fun (zf7 : Nat) (za : Int)=>(y2c zd zN z9J zf7 za = some r)) (fun (zf7 : Nat) (za : Int)=>[(1,(.slice z6c zd.length z6d)),(2,(.pointer (some ⟨z9K,0,none⟩))),(5,(.int .i64 za))]) (fun (zf7 : Nat) (za : Int)=>[stb z9K 31 [(.slice zeR zN.fModules.length zeS),(.slice zeT zN.fChannels.length zeU),(.slice zeV zN.fSwitches.length zeW),(.slice zeX zN.fLinks.length zeY),(.slice zeZ zN.fVLs.length zf0),(.slice zf1 zN.fHealth.length zf2),(.slice zf3 zN.fCauses.length zf4),(.slice zf5 zN.fVersions.length zf6)]]) (fun (zf7 : Nat) (za : Int)=>zf7) ⟨yw,0⟩ h (.cons rfl (.cons rfl (.cons rfl .nil))) (.cons .here .nil) ?_
   rintro zf7 za h
   obtain ⟨zpj,rfl⟩:=y6r h
   rw [y2c] at h
   refine WC.b (WC.b (WC.a (WL.pu rfl (WL.pu rfl ?_))))
   refine WL.a (d:=11) rfl rfl rfl (yz Try.underlying33 rfl) ?_
   refine WL.pu rfl (WL.nil (WX.a ?_))
   refine WC.cond rfl (fun zpl=>?_) (fun zpl=>?_)
   ·replace h:=ym h zpl
    refine WC.skip (WX.a (WC.b (WC.block (WC.b ?_))))
    obtain ⟨zDO,h⟩:=ye h
    obtain ⟨zDP,h⟩:=ye h
    obtain ⟨zDQ,h⟩:=ye h
    obtain ⟨zDR,h⟩:=ye h
    obtain ⟨zDS,h⟩:=ye h
    obtain ⟨zDT,h⟩:=ye h
    obtain ⟨zDU,h⟩:=ye h
    obtain ⟨zDV,h⟩:=ye h
    refine WC.yI (fun i=>[].contains i) [] rfl ?_
    refine WD.a (i:=0) (d:=15) (by kernel_rfl) rfl z2 z3 rfl rfl rfl (fun _=>q_m rfl) ?_
    refine WD.a (i:=1) (d:=16) (by kernel_rfl) rfl z2 z3 rfl rfl rfl (fun _=>q_m rfl) ?_
    refine WD.znth (j:=2) (dd:=17) (by kernel_rfl) rfl z2 z3 rfl rfl (Z:=Z) (Pr:=(fun r x=>r = e53 x)) y2M rfl rfl zau zDO ?_
    rintro zLU zLV zDW zLW rfl
    refine WD.a (i:=3) (d:=18) (by kernel_rfl) rfl z2 z3 rfl rfl rfl (fun _=>ya y4F rfl rfl) ?_
    refine WD.e (i:=4) (d:=19) (by kernel_rfl) rfl z2 z3 rfl rfl rfl (yb yd rfl (yD hz.pv zDW rfl)) ?_
    refine WD.a (i:=5) (d:=20) (by kernel_rfl) rfl z2 z3 rfl rfl rfl (fun _=>y3O rfl rfl) ?_
    refine WD.a (i:=6) (d:=21) (by kernel_rfl) rfl z2 z3 rfl rfl rfl (fun _=>q_m rfl) ?_
    refine WD.mid (fuel':=53) [(1,(.slice z6c zd.length z6d)),(2,(.pointer (some ⟨z9K,0,none⟩))),(5,(.int .i64 za)),(21,(.bool (decide (((nth zd za).fTime) < 0)))),(28,(.bool ((decide (((nth zd za).fTime) < 0)) || (decide (((nth zd za).fTime) > 536870912)))))] (yJ 67 [13,12,11,10,9,8,7,6,5,4,3,2,1,0]) ?_ (fun zuP=>?_)
    rotate_left
    ·rcases Bool.eq_false_or_eq_true (decide (((nth zd za).fTime) < 0)) with hb' | hb'
     ·have zpm:=hb'; clear hb'
      refine WD.pin (i:=21) rfl zpm ?_
      refine WD.b (i:=7) (d:=22) (by kernel_rfl) rfl z2 z3 rfl rfl rfl ?_
      refine WD.b (i:=8) (d:=23) (by kernel_rfl) rfl z2 z3 rfl rfl rfl ?_
      refine WD.b (i:=9) (d:=24) (by kernel_rfl) rfl z2 z3 rfl rfl rfl ?_
      refine WD.b (i:=10) (d:=25) (by kernel_rfl) rfl z2 z3 rfl rfl rfl ?_
      refine WD.b (i:=11) (d:=26) (by kernel_rfl) rfl z2 z3 rfl rfl rfl ?_
      refine WD.b (i:=12) (d:=27) (by kernel_rfl) rfl z2 z3 rfl rfl rfl ?_
      refine WD.a (i:=13) (d:=28) (by kernel_rfl) rfl z2 z3 rfl rfl rfl (fun _=>yW rfl rfl) ?_
      refine WD.ys (.cons .here .nil) ?_ zuP
      exact (.cons rfl (.cons rfl (.cons rfl (.cons (z7 (Eq.symm zpm)) (.cons (z7 (y1p zpm)) .nil)))))
     ·have zl5:=hb'; clear hb'
      have zDX:=zDP zl5
      refine WD.pin (i:=21) rfl zl5 ?_
      refine WD.a (i:=7) (d:=22) (by kernel_rfl) rfl z2 z3 rfl rfl rfl (fun _=>q_m rfl) ?_
      refine WD.a (i:=8) (d:=23) (by kernel_rfl) rfl z2 z3 rfl rfl rfl (fun _=>q_m rfl) ?_
      refine WD.znth (j:=9) (dd:=24) (by kernel_rfl) rfl z2 z3 rfl rfl (Z:=Z) (Pr:=(fun r x=>r = e53 x)) y2M rfl rfl zau zDX ?_
      rintro zLX zLY zDY zLZ rfl
      refine WD.a (i:=10) (d:=25) (by kernel_rfl) rfl z2 z3 rfl rfl rfl (fun _=>ya y4F rfl rfl) ?_
      refine WD.e (i:=11) (d:=26) (by kernel_rfl) rfl z2 z3 rfl rfl rfl (yb yd rfl (yD hz.pv zDY rfl)) ?_
      refine WD.a (i:=12) (d:=27) (by kernel_rfl) rfl z2 z3 rfl rfl rfl (fun _=>y3f rfl rfl) ?_
      refine WD.a (i:=13) (d:=28) (by kernel_rfl) rfl z2 z3 rfl rfl rfl (fun _=>yX rfl rfl) ?_
      refine WD.ys (.cons .here .nil) ?_ zuP
      exact (.cons rfl (.cons rfl (.cons rfl (.cons (z7 (Eq.symm zl5)) (.cons (z7 (y1q zl5)) .nil)))))
    refine WD.d #[true,true,true,true,true,true,true,true,true,true,true,true,true,true,false,false,false,false,false,false,false,false,false,false,false,false,false,false,false,false,false,false,false,false,false,false,false,false,false,false,false,false,false,false,false,false,false,false,false,false,false,false,false,false,false,false,false,false,false,false,false,false,false,false,false,false,false] (by kernel_rfl) ?_
    refine WD.a (i:=14) (d:=29) (by kernel_rfl) rfl z2 z3 rfl rfl rfl (fun _=>q_m rfl) ?_
    refine WD.mid (fuel':=45) [(1,(.slice z6c zd.length z6d)),(2,(.pointer (some ⟨z9K,0,none⟩))),(5,(.int .i64 za)),(29,(.bool ((decide (((nth zd za).fTime) < 0)) || (decide (((nth zd za).fTime) > 536870912))))),(36,(.bool (((decide (((nth zd za).fTime) < 0)) || (decide (((nth zd za).fTime) > 536870912))) || (decide (((nth zd za).fVL) < 0)))))] (yJ 67 [21,20,19,18,17,16,15,14,13,12,11,10,9,8,7,6,5,4,3,2,1,0]) ?_ (fun zuQ=>?_)
    rotate_left
    ·rcases Bool.eq_false_or_eq_true ((decide (((nth zd za).fTime) < 0)) || (decide (((nth zd za).fTime) > 536870912))) with hb' | hb'
     ·have zpn:=hb'; clear hb'
      refine WD.pin (i:=29) rfl zpn ?_
      refine WD.b (i:=15) (d:=30) (by kernel_rfl) rfl z2 z3 rfl rfl rfl ?_
      refine WD.b (i:=16) (d:=31) (by kernel_rfl) rfl z2 z3 rfl rfl rfl ?_
      refine WD.b (i:=17) (d:=32) (by kernel_rfl) rfl z2 z3 rfl rfl rfl ?_
      refine WD.b (i:=18) (d:=33) (by kernel_rfl) rfl z2 z3 rfl rfl rfl ?_
      refine WD.b (i:=19) (d:=34) (by kernel_rfl) rfl z2 z3 rfl rfl rfl ?_
      refine WD.b (i:=20) (d:=35) (by kernel_rfl) rfl z2 z3 rfl rfl rfl ?_
      refine WD.a (i:=21) (d:=36) (by kernel_rfl) rfl z2 z3 rfl rfl rfl (fun _=>yW rfl rfl) ?_
      refine WD.ys (.cons .here .nil) ?_ zuQ
      exact (.cons rfl (.cons rfl (.cons rfl (.cons (z7 (Eq.symm zpn)) (.cons (z7 (y1p zpn)) .nil)))))
     ·have zl6:=hb'; clear hb'
      have zDZ:=zDQ zl6
      refine WD.pin (i:=29) rfl zl6 ?_
      refine WD.a (i:=15) (d:=30) (by kernel_rfl) rfl z2 z3 rfl rfl rfl (fun _=>q_m rfl) ?_
      refine WD.a (i:=16) (d:=31) (by kernel_rfl) rfl z2 z3 rfl rfl rfl (fun _=>q_m rfl) ?_
      refine WD.znth (j:=17) (dd:=32) (by kernel_rfl) rfl z2 z3 rfl rfl (Z:=Z) (Pr:=(fun r x=>r = e53 x)) y2M rfl rfl zau zDZ ?_
      rintro zM0 zM1 zE0 zM2 rfl
      refine WD.a (i:=18) (d:=33) (by kernel_rfl) rfl z2 z3 rfl rfl rfl (fun _=>ya y4G rfl rfl) ?_
      refine WD.e (i:=19) (d:=34) (by kernel_rfl) rfl z2 z3 rfl rfl rfl (yb yd rfl (yD hz.pv zE0 rfl)) ?_
      refine WD.a (i:=20) (d:=35) (by kernel_rfl) rfl z2 z3 rfl rfl rfl (fun _=>y3O rfl rfl) ?_
      refine WD.a (i:=21) (d:=36) (by kernel_rfl) rfl z2 z3 rfl rfl rfl (fun _=>yX rfl rfl) ?_
      refine WD.ys (.cons .here .nil) ?_ zuQ
      exact (.cons rfl (.cons rfl (.cons rfl (.cons (z7 (Eq.symm zl6)) (.cons (z7 (y1q zl6)) .nil)))))
    refine WD.d #[true,true,true,true,true,true,true,true,true,true,true,true,true,true,true,true,true,true,true,true,true,true,false,false,false,false,false,false,false,false,false,false,false,false,false,false,false,false,false,false,false,false,false,false,false,false,false,false,false,false,false,false,false,false,false,false,false,false,false,false,false,false,false,false,false,false,false] (by kernel_rfl) ?_
    refine WD.a (i:=22) (d:=37) (by kernel_rfl) rfl z2 z3 rfl rfl rfl (fun _=>q_m rfl) ?_
    refine WD.mid (fuel':=34) [(1,(.slice z6c zd.length z6d)),(2,(.pointer (some ⟨z9K,0,none⟩))),(5,(.int .i64 za)),(37,(.bool (((decide (((nth zd za).fTime) < 0)) || (decide (((nth zd za).fTime) > 536870912))) || (decide (((nth zd za).fVL) < 0))))),(47,(.bool ((((decide (((nth zd za).fTime) < 0)) || (decide (((nth zd za).fTime) > 536870912))) || (decide (((nth zd za).fVL) < 0))) || (decide (((nth zd za).fVL) ≥ ((zN.fVLs.length : Nat) : Int))))))] (yJ 67 [32,31,30,29,28,27,26,25,24,23,22,21,20,19,18,17,16,15,14,13,12,11,10,9,8,7,6,5,4,3,2,1,0]) ?_ (fun zuR=>?_)
    rotate_left
    ·rcases Bool.eq_false_or_eq_true (((decide (((nth zd za).fTime) < 0)) || (decide (((nth zd za).fTime) > 536870912))) || (decide (((nth zd za).fVL) < 0))) with hb' | hb'
     ·have zpo:=hb'; clear hb'
      refine WD.pin (i:=37) rfl zpo ?_
      refine WD.b (i:=23) (d:=38) (by kernel_rfl) rfl z2 z3 rfl rfl rfl ?_
      refine WD.b (i:=24) (d:=39) (by kernel_rfl) rfl z2 z3 rfl rfl rfl ?_
      refine WD.b (i:=25) (d:=40) (by kernel_rfl) rfl z2 z3 rfl rfl rfl ?_
      refine WD.b (i:=26) (d:=41) (by kernel_rfl) rfl z2 z3 rfl rfl rfl ?_
      refine WD.b (i:=27) (d:=42) (by kernel_rfl) rfl z2 z3 rfl rfl rfl ?_
      refine WD.b (i:=28) (d:=43) (by kernel_rfl) rfl z2 z3 rfl rfl rfl ?_
      refine WD.b (i:=29) (d:=44) (by kernel_rfl) rfl z2 z3 rfl rfl rfl ?_
      refine WD.b (i:=30) (d:=45) (by kernel_rfl) rfl z2 z3 rfl rfl rfl ?_
      refine WD.b (i:=31) (d:=46) (by kernel_rfl) rfl z2 z3 rfl rfl rfl ?_
      refine WD.a (i:=32) (d:=47) (by kernel_rfl) rfl z2 z3 rfl rfl rfl (fun _=>yW rfl rfl) ?_
      refine WD.ys (.cons .here .nil) ?_ zuR
      exact (.cons rfl (.cons rfl (.cons rfl (.cons (z7 (Eq.symm zpo)) (.cons (z7 (y1p zpo)) .nil)))))
     ·have zl7:=hb'; clear hb'
      have zE1:=zDR zl7
      refine WD.pin (i:=37) rfl zl7 ?_
      refine WD.a (i:=23) (d:=38) (by kernel_rfl) rfl z2 z3 rfl rfl rfl (fun _=>q_m rfl) ?_
      refine WD.a (i:=24) (d:=39) (by kernel_rfl) rfl z2 z3 rfl rfl rfl (fun _=>q_m rfl) ?_
      refine WD.znth (j:=25) (dd:=40) (by kernel_rfl) rfl z2 z3 rfl rfl (Z:=Z) (Pr:=(fun r x=>r = e53 x)) y2M rfl rfl zau zE1 ?_
      rintro zM3 zM4 zE2 zM5 rfl
      refine WD.a (i:=26) (d:=41) (by kernel_rfl) rfl z2 z3 rfl rfl rfl (fun _=>ya y4G rfl rfl) ?_
      refine WD.e (i:=27) (d:=42) (by kernel_rfl) rfl z2 z3 rfl rfl rfl (yb yd rfl (yD hz.pv zE2 rfl)) ?_
      refine WD.a (i:=28) (d:=43) (by kernel_rfl) rfl z2 z3 rfl rfl rfl (fun _=>ya y6z rfl rfl) ?_
      refine WD.e (i:=29) (d:=44) (by kernel_rfl) rfl z2 z3 rfl rfl rfl (yb y6A rfl (yc .here rfl)) ?_
      refine WD.a (i:=30) (d:=45) (by kernel_rfl) rfl z2 z3 rfl rfl rfl (fun _=>yz Try.underlying26 rfl) ?_
      refine WD.a (i:=31) (d:=46) (by kernel_rfl) rfl z2 z3 rfl rfl rfl (fun _=>q_geq rfl rfl) ?_
      refine WD.a (i:=32) (d:=47) (by kernel_rfl) rfl z2 z3 rfl rfl rfl (fun _=>yX rfl rfl) ?_
      refine WD.ys (.cons .here .nil) ?_ zuR
      exact (.cons rfl (.cons rfl (.cons rfl (.cons (z7 (Eq.symm zl7)) (.cons (z7 (y1q zl7)) .nil)))))
    refine WD.d #[true,true,true,true,true,true,true,true,true,true,true,true,true,true,true,true,true,true,true,true,true,true,true,true,true,true,true,true,true,true,true,true,true,false,false,false,false,false,false,false,false,false,false,false,false,false,false,false,false,false,false,false,false,false,false,false,false,false,false,false,false,false,false,false,false,false,false] (by kernel_rfl) ?_
    refine WD.a (i:=33) (d:=48) (by kernel_rfl) rfl z2 z3 rfl rfl rfl (fun _=>q_m rfl) ?_
    refine WD.mid (fuel':=26) [(1,(.slice z6c zd.length z6d)),(2,(.pointer (some ⟨z9K,0,none⟩))),(5,(.int .i64 za)),(48,(.bool ((((decide (((nth zd za).fTime) < 0)) || (decide (((nth zd za).fTime) > 536870912))) || (decide (((nth zd za).fVL) < 0))) || (decide (((nth zd za).fVL) ≥ ((zN.fVLs.length : Nat) : Int)))))),(55,(.bool (((((decide (((nth zd za).fTime) < 0)) || (decide (((nth zd za).fTime) > 536870912))) || (decide (((nth zd za).fVL) < 0))) || (decide (((nth zd za).fVL) ≥ ((zN.fVLs.length : Nat) : Int)))) || (decide (((nth zd za).fSize) < 1)))))] (yJ 67 [40,39,38,37,36,35,34,33,32,31,30,29,28,27,26,25,24,23,22,21,20,19,18,17,16,15,14,13,12,11,10,9,8,7,6,5,4,3,2,1,0]) ?_ (fun zuS=>?_)
    rotate_left
    ·rcases Bool.eq_false_or_eq_true ((((decide (((nth zd za).fTime) < 0)) || (decide (((nth zd za).fTime) > 536870912))) || (decide (((nth zd za).fVL) < 0))) || (decide (((nth zd za).fVL) ≥ ((zN.fVLs.length : Nat) : Int)))) with hb' | hb'
     ·have zpp:=hb'; clear hb'
      refine WD.pin (i:=48) rfl zpp ?_
      refine WD.b (i:=34) (d:=49) (by kernel_rfl) rfl z2 z3 rfl rfl rfl ?_
      refine WD.b (i:=35) (d:=50) (by kernel_rfl) rfl z2 z3 rfl rfl rfl ?_
      refine WD.b (i:=36) (d:=51) (by kernel_rfl) rfl z2 z3 rfl rfl rfl ?_
      refine WD.b (i:=37) (d:=52) (by kernel_rfl) rfl z2 z3 rfl rfl rfl ?_
      refine WD.b (i:=38) (d:=53) (by kernel_rfl) rfl z2 z3 rfl rfl rfl ?_
      refine WD.b (i:=39) (d:=54) (by kernel_rfl) rfl z2 z3 rfl rfl rfl ?_
      refine WD.a (i:=40) (d:=55) (by kernel_rfl) rfl z2 z3 rfl rfl rfl (fun _=>yW rfl rfl) ?_
      refine WD.ys (.cons .here .nil) ?_ zuS
      exact (.cons rfl (.cons rfl (.cons rfl (.cons (z7 (Eq.symm zpp)) (.cons (z7 (y1p zpp)) .nil)))))
     ·have zl8:=hb'; clear hb'
      have zE3:=zDS zl8
      refine WD.pin (i:=48) rfl zl8 ?_
      refine WD.a (i:=34) (d:=49) (by kernel_rfl) rfl z2 z3 rfl rfl rfl (fun _=>q_m rfl) ?_
      refine WD.a (i:=35) (d:=50) (by kernel_rfl) rfl z2 z3 rfl rfl rfl (fun _=>q_m rfl) ?_
      refine WD.znth (j:=36) (dd:=51) (by kernel_rfl) rfl z2 z3 rfl rfl (Z:=Z) (Pr:=(fun r x=>r = e53 x)) y2M rfl rfl zau zE3 ?_
      rintro zM6 zM7 zE4 zM8 rfl
      refine WD.a (i:=37) (d:=52) (by kernel_rfl) rfl z2 z3 rfl rfl rfl (fun _=>ya y5N rfl rfl) ?_
      refine WD.e (i:=38) (d:=53) (by kernel_rfl) rfl z2 z3 rfl rfl rfl (yb yd rfl (yD hz.pv zE4 rfl)) ?_
      refine WD.a (i:=39) (d:=54) (by kernel_rfl) rfl z2 z3 rfl rfl rfl (fun _=>y3O rfl rfl) ?_
      refine WD.a (i:=40) (d:=55) (by kernel_rfl) rfl z2 z3 rfl rfl rfl (fun _=>yX rfl rfl) ?_
      refine WD.ys (.cons .here .nil) ?_ zuS
      exact (.cons rfl (.cons rfl (.cons rfl (.cons (z7 (Eq.symm zl8)) (.cons (z7 (y1q zl8)) .nil)))))
    refine WD.d #[true,true,true,true,true,true,true,true,true,true,true,true,true,true,true,true,true,true,true,true,true,true,true,true,true,true,true,true,true,true,true,true,true,true,true,true,true,true,true,true,true,false,false,false,false,false,false,false,false,false,false,false,false,false,false,false,false,false,false,false,false,false,false,false,false,false,false] (by kernel_rfl) ?_
    refine WD.a (i:=41) (d:=56) (by kernel_rfl) rfl z2 z3 rfl rfl rfl (fun _=>q_m rfl) ?_
    refine WD.mid (fuel':=18) [(1,(.slice z6c zd.length z6d)),(2,(.pointer (some ⟨z9K,0,none⟩))),(5,(.int .i64 za)),(56,(.bool (((((decide (((nth zd za).fTime) < 0)) || (decide (((nth zd za).fTime) > 536870912))) || (decide (((nth zd za).fVL) < 0))) || (decide (((nth zd za).fVL) ≥ ((zN.fVLs.length : Nat) : Int)))) || (decide (((nth zd za).fSize) < 1))))),(63,(.bool ((((((decide (((nth zd za).fTime) < 0)) || (decide (((nth zd za).fTime) > 536870912))) || (decide (((nth zd za).fVL) < 0))) || (decide (((nth zd za).fVL) ≥ ((zN.fVLs.length : Nat) : Int)))) || (decide (((nth zd za).fSize) < 1))) || (decide (((nth zd za).fSize) > 72)))))] (yJ 67 [48,47,46,45,44,43,42,41,40,39,38,37,36,35,34,33,32,31,30,29,28,27,26,25,24,23,22,21,20,19,18,17,16,15,14,13,12,11,10,9,8,7,6,5,4,3,2,1,0]) ?_ (fun zuT=>?_)
    rotate_left
    ·rcases Bool.eq_false_or_eq_true (((((decide (((nth zd za).fTime) < 0)) || (decide (((nth zd za).fTime) > 536870912))) || (decide (((nth zd za).fVL) < 0))) || (decide (((nth zd za).fVL) ≥ ((zN.fVLs.length : Nat) : Int)))) || (decide (((nth zd za).fSize) < 1))) with hb' | hb'
     ·have zpq:=hb'; clear hb'
      refine WD.pin (i:=56) rfl zpq ?_
      refine WD.b (i:=42) (d:=57) (by kernel_rfl) rfl z2 z3 rfl rfl rfl ?_
      refine WD.b (i:=43) (d:=58) (by kernel_rfl) rfl z2 z3 rfl rfl rfl ?_
      refine WD.b (i:=44) (d:=59) (by kernel_rfl) rfl z2 z3 rfl rfl rfl ?_
      refine WD.b (i:=45) (d:=60) (by kernel_rfl) rfl z2 z3 rfl rfl rfl ?_
      refine WD.b (i:=46) (d:=61) (by kernel_rfl) rfl z2 z3 rfl rfl rfl ?_
      refine WD.b (i:=47) (d:=62) (by kernel_rfl) rfl z2 z3 rfl rfl rfl ?_
      refine WD.a (i:=48) (d:=63) (by kernel_rfl) rfl z2 z3 rfl rfl rfl (fun _=>yW rfl rfl) ?_
      refine WD.ys (.cons .here .nil) ?_ zuT
      exact (.cons rfl (.cons rfl (.cons rfl (.cons (z7 (Eq.symm zpq)) (.cons (z7 (y1p zpq)) .nil)))))
     ·have zl9:=hb'; clear hb'
      have zE5:=zDT zl9
      refine WD.pin (i:=56) rfl zl9 ?_
      refine WD.a (i:=42) (d:=57) (by kernel_rfl) rfl z2 z3 rfl rfl rfl (fun _=>q_m rfl) ?_
      refine WD.a (i:=43) (d:=58) (by kernel_rfl) rfl z2 z3 rfl rfl rfl (fun _=>q_m rfl) ?_
      refine WD.znth (j:=44) (dd:=59) (by kernel_rfl) rfl z2 z3 rfl rfl (Z:=Z) (Pr:=(fun r x=>r = e53 x)) y2M rfl rfl zau zE5 ?_
      rintro zM9 zMa zE6 zMb rfl
      refine WD.a (i:=45) (d:=60) (by kernel_rfl) rfl z2 z3 rfl rfl rfl (fun _=>ya y5N rfl rfl) ?_
      refine WD.e (i:=46) (d:=61) (by kernel_rfl) rfl z2 z3 rfl rfl rfl (yb yd rfl (yD hz.pv zE6 rfl)) ?_
      refine WD.a (i:=47) (d:=62) (by kernel_rfl) rfl z2 z3 rfl rfl rfl (fun _=>y3f rfl rfl) ?_
      refine WD.a (i:=48) (d:=63) (by kernel_rfl) rfl z2 z3 rfl rfl rfl (fun _=>yX rfl rfl) ?_
      refine WD.ys (.cons .here .nil) ?_ zuT
      exact (.cons rfl (.cons rfl (.cons rfl (.cons (z7 (Eq.symm zl9)) (.cons (z7 (y1q zl9)) .nil)))))
    refine WD.d #[true,true,true,true,true,true,true,true,true,true,true,true,true,true,true,true,true,true,true,true,true,true,true,true,true,true,true,true,true,true,true,true,true,true,true,true,true,true,true,true,true,true,true,true,true,true,true,true,true,false,false,false,false,false,false,false,false,false,false,false,false,false,false,false,false,false,false] (by kernel_rfl) ?_
    refine WD.a (i:=49) (d:=64) (by kernel_rfl) rfl z2 z3 rfl rfl rfl (fun _=>q_m rfl) ?_
    refine WD.mid (fuel':=0) [(1,(.slice z6c zd.length z6d)),(2,(.pointer (some ⟨z9K,0,none⟩))),(5,(.int .i64 za)),(64,(.bool ((((((decide (((nth zd za).fTime) < 0)) || (decide (((nth zd za).fTime) > 536870912))) || (decide (((nth zd za).fVL) < 0))) || (decide (((nth zd za).fVL) ≥ ((zN.fVLs.length : Nat) : Int)))) || (decide (((nth zd za).fSize) < 1))) || (decide (((nth zd za).fSize) > 72))))),(81,(.bool (((((((decide (((nth zd za).fTime) < 0)) || (decide (((nth zd za).fTime) > 536870912))) || (decide (((nth zd za).fVL) < 0))) || (decide (((nth zd za).fVL) ≥ ((zN.fVLs.length : Nat) : Int)))) || (decide (((nth zd za).fSize) < 1))) || (decide (((nth zd za).fSize) > 72))) || ((decide (za > 0)) && (decide (((nth zd (i64 (za - 1))).fTime) > ((nth zd za).fTime)))))))] (yJ 67 [66,65,64,63,62,61,60,59,58,57,56,55,54,53,52,51,50,49,48,47,46,45,44,43,42,41,40,39,38,37,36,35,34,33,32,31,30,29,28,27,26,25,24,23,22,21,20,19,18,17,16,15,14,13,12,11,10,9,8,7,6,5,4,3,2,1,0]) ?_ (fun zuU=>?_)
    rotate_left
    ·rcases Bool.eq_false_or_eq_true ((((((decide (((nth zd za).fTime) < 0)) || (decide (((nth zd za).fTime) > 536870912))) || (decide (((nth zd za).fVL) < 0))) || (decide (((nth zd za).fVL) ≥ ((zN.fVLs.length : Nat) : Int)))) || (decide (((nth zd za).fSize) < 1))) || (decide (((nth zd za).fSize) > 72))) with hb' | hb'
     ·have zpr:=hb'; clear hb'
      refine WD.pin (i:=64) rfl zpr ?_
      refine WD.b (i:=50) (d:=65) (by kernel_rfl) rfl z2 z3 rfl rfl rfl ?_
      refine WD.b (i:=51) (d:=66) (by kernel_rfl) rfl z2 z3 rfl rfl rfl ?_
      refine WD.b (i:=52) (d:=67) (by kernel_rfl) rfl z2 z3 rfl rfl rfl ?_
      refine WD.b (i:=53) (d:=68) (by kernel_rfl) rfl z2 z3 rfl rfl rfl ?_
      refine WD.b (i:=54) (d:=69) (by kernel_rfl) rfl z2 z3 rfl rfl rfl ?_
      refine WD.b (i:=55) (d:=70) (by kernel_rfl) rfl z2 z3 rfl rfl rfl ?_
      refine WD.b (i:=56) (d:=71) (by kernel_rfl) rfl z2 z3 rfl rfl rfl ?_
      refine WD.b (i:=57) (d:=72) (by kernel_rfl) rfl z2 z3 rfl rfl rfl ?_
      refine WD.b (i:=58) (d:=73) (by kernel_rfl) rfl z2 z3 rfl rfl rfl ?_
      refine WD.b (i:=59) (d:=74) (by kernel_rfl) rfl z2 z3 rfl rfl rfl ?_
      refine WD.b (i:=60) (d:=75) (by kernel_rfl) rfl z2 z3 rfl rfl rfl ?_
      refine WD.b (i:=61) (d:=76) (by kernel_rfl) rfl z2 z3 rfl rfl rfl ?_
      refine WD.b (i:=62) (d:=77) (by kernel_rfl) rfl z2 z3 rfl rfl rfl ?_
      refine WD.b (i:=63) (d:=78) (by kernel_rfl) rfl z2 z3 rfl rfl rfl ?_
      refine WD.b (i:=64) (d:=79) (by kernel_rfl) rfl z2 z3 rfl rfl rfl ?_
      refine WD.b (i:=65) (d:=80) (by kernel_rfl) rfl z2 z3 rfl rfl rfl ?_
      refine WD.a (i:=66) (d:=81) (by kernel_rfl) rfl z2 z3 rfl rfl rfl (fun _=>yW rfl rfl) ?_
      refine WD.ys (.cons .here .nil) ?_ zuU
      exact (.cons rfl (.cons rfl (.cons rfl (.cons (z7 (Eq.symm zpr)) (.cons (z7 (y1p zpr)) .nil)))))
     ·have ziW:=hb'; clear hb'
      have zE7:=zDU ziW
      have zE8:=zDV ziW
      refine WD.pin (i:=64) rfl ziW ?_
      refine WD.a (i:=50) (d:=65) (by kernel_rfl) rfl z2 z3 rfl rfl rfl (fun _=>q_m rfl) ?_
      refine WD.a (i:=51) (d:=66) (by kernel_rfl) rfl z2 z3 rfl rfl rfl (fun _=>y3f rfl rfl) ?_
      refine WD.a (i:=52) (d:=67) (by kernel_rfl) rfl z2 z3 rfl rfl rfl (fun _=>q_m rfl) ?_
      refine WD.mid (fuel':=1) [(1,(.slice z6c zd.length z6d)),(2,(.pointer (some ⟨z9K,0,none⟩))),(5,(.int .i64 za)),(64,(.bool false)),(67,(.bool (decide (za > 0)))),(80,(.bool ((decide (za > 0)) && (decide (((nth zd (i64 (za - 1))).fTime) > ((nth zd za).fTime))))))] (yJ 67 [65,64,63,62,61,60,59,58,57,56,55,54,53,52,51,50,49,48,47,46,45,44,43,42,41,40,39,38,37,36,35,34,33,32,31,30,29,28,27,26,25,24,23,22,21,20,19,18,17,16,15,14,13,12,11,10,9,8,7,6,5,4,3,2,1,0]) ?_ (fun zuV=>?_)
      rotate_left
      ·rcases Bool.eq_false_or_eq_true (decide (za > 0)) with hb' | hb'
       ·have ziX:=hb'; clear hb'
        have zE9:=zE7 ziX
        have zEa:=zE8 ziX
        refine WD.pin (i:=67) rfl ziX ?_
        refine WD.a (i:=53) (d:=68) (by kernel_rfl) rfl z2 z3 rfl rfl rfl (fun _=>q_m rfl) ?_
        refine WD.a (i:=54) (d:=69) (by kernel_rfl) rfl z2 z3 rfl rfl rfl (fun _=>q_m rfl) ?_
        refine WD.a (i:=55) (d:=70) (by kernel_rfl) rfl z2 z3 rfl rfl rfl (fun _=>y3Z rfl rfl rfl) ?_
        refine WD.znth (j:=56) (dd:=71) (by kernel_rfl) rfl z2 z3 rfl rfl (Z:=Z) (Pr:=(fun r x=>r = e53 x)) y2M rfl rfl zau zE9 ?_
        rintro zMc zMd zEb zMe rfl
        refine WD.a (i:=57) (d:=72) (by kernel_rfl) rfl z2 z3 rfl rfl rfl (fun _=>ya y4F rfl rfl) ?_
        refine WD.e (i:=58) (d:=73) (by kernel_rfl) rfl z2 z3 rfl rfl rfl (yb yd rfl (yD hz.pv zEb rfl)) ?_
        refine WD.a (i:=59) (d:=74) (by kernel_rfl) rfl z2 z3 rfl rfl rfl (fun _=>q_m rfl) ?_
        refine WD.a (i:=60) (d:=75) (by kernel_rfl) rfl z2 z3 rfl rfl rfl (fun _=>q_m rfl) ?_
        refine WD.znth (j:=61) (dd:=76) (by kernel_rfl) rfl z2 z3 rfl rfl (Z:=Z) (Pr:=(fun r x=>r = e53 x)) y2M rfl rfl zau zEa ?_
        rintro zMf zMg zEc zMh rfl
        refine WD.a (i:=62) (d:=77) (by kernel_rfl) rfl z2 z3 rfl rfl rfl (fun _=>ya y4F rfl rfl) ?_
        refine WD.e (i:=63) (d:=78) (by kernel_rfl) rfl z2 z3 rfl rfl rfl (yb yd rfl (yD hz.pv zEc rfl)) ?_
        refine WD.a (i:=64) (d:=79) (by kernel_rfl) rfl z2 z3 rfl rfl rfl (fun _=>y3f rfl rfl) ?_
        refine WD.a (i:=65) (d:=80) (by kernel_rfl) rfl z2 z3 rfl rfl rfl (fun _=>yW rfl rfl) ?_
        refine WD.ys (.cons .here .nil) ?_ zuV
        exact (.cons rfl (.cons rfl (.cons rfl (.cons rfl (.cons (z7 (Eq.symm ziX)) (.cons (z7 (y1H ziX)) .nil))))))
       ·have zps:=hb'; clear hb'
        refine WD.pin (i:=67) rfl zps ?_
        refine WD.b (i:=53) (d:=68) (by kernel_rfl) rfl z2 z3 rfl rfl rfl ?_
        refine WD.b (i:=54) (d:=69) (by kernel_rfl) rfl z2 z3 rfl rfl rfl ?_
        refine WD.b (i:=55) (d:=70) (by kernel_rfl) rfl z2 z3 rfl rfl rfl ?_
        refine WD.b (i:=56) (d:=71) (by kernel_rfl) rfl z2 z3 rfl rfl rfl ?_
        refine WD.b (i:=57) (d:=72) (by kernel_rfl) rfl z2 z3 rfl rfl rfl ?_
        refine WD.b (i:=58) (d:=73) (by kernel_rfl) rfl z2 z3 rfl rfl rfl ?_
        refine WD.b (i:=59) (d:=74) (by kernel_rfl) rfl z2 z3 rfl rfl rfl ?_
        refine WD.b (i:=60) (d:=75) (by kernel_rfl) rfl z2 z3 rfl rfl rfl ?_
        refine WD.b (i:=61) (d:=76) (by kernel_rfl) rfl z2 z3 rfl rfl rfl ?_
        refine WD.b (i:=62) (d:=77) (by kernel_rfl) rfl z2 z3 rfl rfl rfl ?_
        refine WD.b (i:=63) (d:=78) (by kernel_rfl) rfl z2 z3 rfl rfl rfl ?_
        refine WD.b (i:=64) (d:=79) (by kernel_rfl) rfl z2 z3 rfl rfl rfl ?_
        refine WD.a (i:=65) (d:=80) (by kernel_rfl) rfl z2 z3 rfl rfl rfl (fun _=>yX rfl rfl) ?_
        refine WD.ys (.cons .here .nil) ?_ zuV
        exact (.cons rfl (.cons rfl (.cons rfl (.cons rfl (.cons (z7 (Eq.symm zps)) (.cons (z7 (y1G zps)) .nil))))))
      refine WD.d #[true,true,true,true,true,true,true,true,true,true,true,true,true,true,true,true,true,true,true,true,true,true,true,true,true,true,true,true,true,true,true,true,true,true,true,true,true,true,true,true,true,true,true,true,true,true,true,true,true,true,true,true,true,true,true,true,true,true,true,true,true,true,true,true,true,true,false] (by kernel_rfl) ?_
      refine WD.a (i:=66) (d:=81) (by kernel_rfl) rfl z2 z3 rfl rfl rfl (fun _=>yX rfl rfl) ?_
      refine WD.ys (.cons .here .nil) ?_ zuU
      exact (.cons rfl (.cons rfl (.cons rfl (.cons (z7 (Eq.symm ziW)) (.cons (z7 (y1q ziW)) .nil)))))
    refine WD.d #[true,true,true,true,true,true,true,true,true,true,true,true,true,true,true,true,true,true,true,true,true,true,true,true,true,true,true,true,true,true,true,true,true,true,true,true,true,true,true,true,true,true,true,true,true,true,true,true,true,true,true,true,true,true,true,true,true,true,true,true,true,true,true,true,true,true,true] (by kernel_rfl) ?_
    refine WD.done (by kernel_rfl) ?_
    refine WX.a ?_
    refine WC.cond rfl (fun zpt=>?_) (fun zpt=>?_)
    ·replace h:=ym h zpt
     refine WC.b (WC.a (WL.pu rfl (WL.nil (WX.a (WC.ret (WX.yH (WX.yj (WX.yj (WX.yH (WX.yj ?_))))))))))
     obtain rfl:=Option.some.inj h
     refine WX.yi Try.results28 (.tmp rfl .nil) (fun w hw=>?_)
     exact ⟨yM rfl,hw.sub .nil⟩
    ·replace h:=yn h zpt
     refine WC.skip (WX.yk (WX.a (WC.a (WL.pu rfl (WL.pu rfl (WL.pu rfl (WL.nil ?_)))))))
     exact WX.round (G:=Nat × Int) ⟨zpj,(i64 (za + 1))⟩ h (Nat.lt_succ_self _) (.cons rfl (.cons rfl (.cons rfl .nil))) (.cons .here .nil)
   ·replace h:=yn h zpl
    refine WC.exit (WX.yg (WX.yg (WX.yv ?_)))
    exact WX.mid (G:=Unit) () h .nil .nil
  ·rintro  h
   replace h:=zDN.symm.trans h
   refine WC.b (WC.a (WL.pu rfl (WL.nil (WX.a (WC.ret ?_)))))
   obtain rfl:=Option.some.inj h
   refine WX.yi Try.results28 (.tmp rfl .nil) (fun w hw=>?_)
   exact ⟨yM rfl,hw.sub .nil⟩
def y2K (z1m : List (List Sapi_Hop)) (z19 : List zSt) (zZ : Int) (z4R : Int) (z39 : Int) (z3a : Int) (z9L : (List Snetwork_event) → Option (List Snetwork_event)) : Nat → (List Snetwork_event) → Int → Option (List Snetwork_event)
 | 0,_,_=>none
 | zpu + 1,z3b,z1n=>if decide (z1n < (((nth z1m ((nth z19 zZ).fVL)).length : Nat) : Int)) then jp1 (fun (z77 : List Snetwork_event)=>y2K z1m z19 zZ z4R z39 z3a z9L zpu z77 (i64 (z1n + 1))) fun zla=>chk ((0 : Int) ≤ z1n ∧ z1n < (((nth z1m ((nth z19 zZ).fVL)).length : Nat) : Int)) (if decide (((nth (nth z1m ((nth z19 zZ).fVL)) z1n).fNode) = z4R) then chk ((0 : Int) ≤ zZ ∧ zZ < ((z19.length : Nat) : Int)) (chk ((0 : Int) ≤ z1n ∧ z1n < (((nth z1m ((nth z19 zZ).fVL)).length : Nat) : Int)) (chk ((((z3b ++ ([(⟨z39,z3a,((nth z19 zZ).fVL),zZ,(⟨((nth (nth z1m ((nth z19 zZ).fVL)) z1n).fNode),((nth (nth z1m ((nth z19 zZ).fVL)) z1n).fNext),((nth (nth z1m ((nth z19 zZ).fVL)) z1n).fLink)⟩ : Sapi_Hop)⟩ : Snetwork_event)] : List Snetwork_event)).length : Nat) : Int) * 56 ≤ 140737488355328 ∧ (((z3b ++ ([(⟨z39,z3a,((nth z19 zZ).fVL),zZ,(⟨((nth (nth z1m ((nth z19 zZ).fVL)) z1n).fNode),((nth (nth z1m ((nth z19 zZ).fVL)) z1n).fNext),((nth (nth z1m ((nth z19 zZ).fVL)) z1n).fLink)⟩ : Sapi_Hop)⟩ : Snetwork_event)] : List Snetwork_event)).length : Nat) : Int) ≤ 4611686018427387904) (zla (z3b ++ ([(⟨z39,z3a,((nth z19 zZ).fVL),zZ,(⟨((nth (nth z1m ((nth z19 zZ).fVL)) z1n).fNode),((nth (nth z1m ((nth z19 zZ).fVL)) z1n).fNext),((nth (nth z1m ((nth z19 zZ).fVL)) z1n).fLink)⟩ : Sapi_Hop)⟩ : Snetwork_event)] : List Snetwork_event))))) else zla z3b) else z9L z3b
theorem y6P {n : Nat} {z1m : List (List Sapi_Hop)} {z19 : List zSt} {zZ : Int} {z4R : Int} {z39 : Int} {z3a : Int} {z9L : (List Snetwork_event) → Option (List Snetwork_event)} {z3b : List Snetwork_event} {z1n : Int} {r : List Snetwork_event} (h : y2K z1m z19 zZ z4R z39 z3a z9L n z3b z1n = some r) : ∃ m,n = m + 1:=by
 cases n with
 | zero=>cases h
 | succ m=>exact ⟨m,rfl⟩
def y3W (z1m : List (List Sapi_Hop)) (z19 : List zSt) (z4R : Int) (z39 : Int) (z3a : Int) (zZ : Int) : Option (List Snetwork_event) :=
 chk ((0 : Int) ≤ zZ ∧ zZ < ((z19.length : Nat) : Int)) (chk ((0 : Int) ≤ ((nth z19 zZ).fVL) ∧ ((nth z19 zZ).fVL) < ((z1m.length : Nat) : Int)) (jp1 (fun (z8w : List Snetwork_event)=>some z8w) fun z9L=>y2K z1m z19 zZ z4R z39 z3a z9L yw ([] : List Snetwork_event) 0))
set_option maxRecDepth 20000 in
theorem y7m (Z : Zp) (zlb : Option Addr) (zlc : Nat) (zf8 : Option Addr) (zf9 : Nat) (z1m : List (List Sapi_Hop)) (z19 : List zSt) (z4R : Int) (z39 : Int) (z3a : Int) (zZ : Int) (r : List Snetwork_event)
  (h : y3W z1m z19 z4R z39 z3a zZ = some r) (w₀ : World) (hz : PZ [] w₀ Z)
  (zEd : ZS Z 1 (p55 Z) zlb zlc z1m)
  (zuW : ZS Z 3 (fun r x=>r = e53 x) zf8 zf9 z19) :
  Calls Try.prog 29 #[(.slice zlb z1m.length zlc),(.slice zf8 z19.length zf9),(.int .i64 z4R),(.int .i64 z39),(.int .i64 z3a),(.int .i64 zZ)] w₀ fun e w'=>∃ zuX : Option Addr,∃ zuY : Nat,e = .returned (.slice zuX r.length zuY) ∧ True ∧ Hp [] w₀ w' [row (.slice zuX r.length zuY) 89 7 (r.flatMap e89)]:=by
 unfold y3W at h
 refine Calls.yp (vs:=[(.slice zlb z1m.length zlc),(.slice zf8 z19.length zf9),(.int .i64 z4R),(.int .i64 z39),(.int .i64 z3a),(.int .i64 zZ)]) (pre:=[]) (env:=[(0,(.slice zlb z1m.length zlc)),(1,(.slice zf8 z19.length zf9)),(2,(.int .i64 z4R)),(3,(.int .i64 z39)),(4,(.int .i64 z3a)),(5,(.int .i64 zZ))]) Try.func29 rfl Try.ntmps29 rfl (Hp.nil w₀ _) rfl ?_
 refine WC.b (WC.a (WL.pu rfl (WL.nil (WX.a (WC.b (WC.a (WL.pu rfl (WL.nil (WX.a (WC.b ?_))))))))))
 obtain ⟨zEe,h⟩:=ye h
 obtain ⟨zEf,h⟩:=ye h
 refine WC.a (WL.pu rfl (WL.pu rfl (WL.pu rfl ?_)))
 refine WL.znth (dd:=19) rfl rfl (Z:=Z) (Pr:=(fun r x=>r = e53 x)) y2M rfl rfl zuW zEe ?_
 rintro zMi zMj zEg zMk rfl
 refine WL.a (d:=20) rfl rfl rfl (ya y4G rfl rfl) ?_
 refine WL.a (d:=21) rfl rfl rfl (yb yd rfl (yD hz.pv zEg rfl)) ?_
 refine WL.znth (dd:=22) rfl rfl (Z:=Z) (Pr:=(p55 Z)) y5f rfl rfl zEd zEf ?_
 rintro zMl zMm zEh zMn ⟨zuZ,zv0,rfl,zv1⟩
 refine WL.a (d:=23) rfl rfl rfl (yb y53 rfl (y4R hz.pv zEh rfl)) ?_
 refine WL.pu rfl (WL.nil (WX.a ?_))
 obtain ⟨z9L,zEi,h⟩:=yU h
 refine WC.y3r (fun (z8w : List Snetwork_event) (zfa : Option Addr) (zfb : Nat)=>(z9L z8w = some r)) (fun (z8w : List Snetwork_event) (zfa : Option Addr) (zfb : Nat)=>[(13,(.slice zfa z8w.length zfb))]) (fun (z8w : List Snetwork_event) (zfa : Option Addr) (zfb : Nat)=>[row (.slice zfa z8w.length zfb) 89 7 (z8w.flatMap e89)]) ?_ ?_
 ·skip
  refine WC.b (WC.a (WL.pu rfl (WL.nil (WX.a (WC.block ?_)))))
  refine WC.nilRow 89 7 ?_
  refine WC.y5Y (fun (zfc : Nat) (z3b : List Snetwork_event) (z1n : Int) (zav : Option Addr) (zaw : Nat)=>(y2K z1m z19 zZ z4R z39 z3a z9L zfc z3b z1n = some r)) (fun (zfc : Nat) (z3b : List Snetwork_event) (z1n : Int) (zav : Option Addr) (zaw : Nat)=>[(1,(.slice zf8 z19.length zf9)),(2,(.int .i64 z4R)),(3,(.int .i64 z39)),(4,(.int .i64 z3a)),(5,(.int .i64 zZ)),(13,(.slice zav z3b.length zaw)),(14,(.slice zuZ ((nth z1m ((nth z19 zZ).fVL)).length) zv0)),(15,(.int .i64 z1n))]) (fun (zfc : Nat) (z3b : List Snetwork_event) (z1n : Int) (zav : Option Addr) (zaw : Nat)=>[row (.slice zav z3b.length zaw) 89 7 (z3b.flatMap e89)]) (fun (zfc : Nat) (z3b : List Snetwork_event) (z1n : Int) (zav : Option Addr) (zaw : Nat)=>zfc) ⟨yw,([] : List Snetwork_event),0,none,0⟩ h (.cons rfl (.cons rfl (.cons rfl (.cons rfl (.cons rfl (.cons rfl (.cons rfl (.cons rfl .nil)))))))) (.cons .here .nil) ?_
  rintro zfc z3b z1n zav zaw h
  obtain ⟨zpu,rfl⟩:=y6P h
  rw [y2K] at h
  refine WC.b (WC.b (WC.a (WL.pu rfl (WL.pu rfl ?_))))
  refine WL.a (d:=26) rfl rfl rfl (yz Try.underlying55 rfl) ?_
  refine WL.pu rfl (WL.nil (WX.a ?_))
  refine WC.cond rfl (fun zpv=>?_) (fun zpv=>?_)
  ·replace h:=ym h zpv
   refine WC.skip (WX.a ?_)
   obtain ⟨zla,zEj,h⟩:=yU h
   refine WC.y3r (fun (z77 : List Snetwork_event) (zfd : Option Addr) (zfe : Nat)=>(zla z77 = some r)) (fun (z77 : List Snetwork_event) (zfd : Option Addr) (zfe : Nat)=>[(1,(.slice zf8 z19.length zf9)),(2,(.int .i64 z4R)),(3,(.int .i64 z39)),(4,(.int .i64 z3a)),(5,(.int .i64 zZ)),(13,(.slice zfd z77.length zfe)),(14,(.slice zuZ ((nth z1m ((nth z19 zZ).fVL)).length) zv0)),(15,(.int .i64 z1n))]) (fun (z77 : List Snetwork_event) (zfd : Option Addr) (zfe : Nat)=>[row (.slice zfd z77.length zfe) 89 7 (z77.flatMap e89)]) ?_ ?_
   ·skip
    refine WC.block (WC.b ?_)
    obtain ⟨zEk,h⟩:=ye h
    refine WC.a (WL.pu rfl (WL.pu rfl ?_))
    refine WL.znth (dd:=32) rfl rfl (Z:=Z) (Pr:=(fun r x=>r = e59 x)) y2p rfl rfl zv1 zEk ?_
    rintro zMo zMp zEl zMq rfl
    refine WL.a (d:=33) rfl rfl rfl (ya y1E rfl rfl) ?_
    refine WL.a (d:=34) rfl rfl rfl (yb yd rfl (yD hz.pv zEl rfl)) ?_
    refine WL.pu rfl (WL.pu rfl (WL.nil (WX.a ?_)))
    refine WC.cond rfl (fun zpw=>?_) (fun zpw=>?_)
    ·replace h:=ym h zpw
     obtain ⟨zEm,h⟩:=ye h
     obtain ⟨zEn,h⟩:=ye h
     obtain ⟨zEo,h⟩:=ye h
     refine WC.yI (fun i=>[15].contains i) [] rfl ?_
     refine WD.a (i:=0) (d:=37) (by kernel_rfl) rfl z2 z3 rfl rfl rfl (fun _=>q_m rfl) ?_
     refine WD.a (i:=1) (d:=38) (by kernel_rfl) rfl z2 z3 rfl rfl rfl (fun _=>q_m rfl) ?_
     refine WD.a (i:=2) (d:=39) (by kernel_rfl) rfl z2 z3 rfl rfl rfl (fun _=>q_m rfl) ?_
     refine WD.a (i:=3) (d:=40) (by kernel_rfl) rfl z2 z3 rfl rfl rfl (fun _=>q_m rfl) ?_
     refine WD.a (i:=4) (d:=41) (by kernel_rfl) rfl z2 z3 rfl rfl rfl (fun _=>q_m rfl) ?_
     refine WD.znth (j:=5) (dd:=42) (by kernel_rfl) rfl z2 z3 rfl rfl (Z:=Z) (Pr:=(fun r x=>r = e53 x)) y2M rfl rfl zuW zEm ?_
     rintro zMr zMs zEp zMt rfl
     refine WD.a (i:=6) (d:=43) (by kernel_rfl) rfl z2 z3 rfl rfl rfl (fun _=>ya y4G rfl rfl) ?_
     refine WD.e (i:=7) (d:=44) (by kernel_rfl) rfl z2 z3 rfl rfl rfl (yb yd rfl (yD hz.pv zEp rfl)) ?_
     refine WD.a (i:=8) (d:=45) (by kernel_rfl) rfl z2 z3 rfl rfl rfl (fun _=>q_m rfl) ?_
     refine WD.a (i:=9) (d:=46) (by kernel_rfl) rfl z2 z3 rfl rfl rfl (fun _=>q_m rfl) ?_
     refine WD.a (i:=10) (d:=47) (by kernel_rfl) rfl z2 z3 rfl rfl rfl (fun _=>q_m rfl) ?_
     refine WD.znth (j:=11) (dd:=48) (by kernel_rfl) rfl z2 z3 rfl rfl (Z:=Z) (Pr:=(fun r x=>r = e59 x)) y2p rfl rfl zv1 zEn ?_
     rintro zMu zMv zEq zMw rfl
     refine WD.e (i:=12) (d:=49) (by kernel_rfl) rfl z2 z3 rfl rfl rfl (yx y6B rfl (y4t hz.pv zEq) rfl) ?_
     refine WD.a (i:=13) (d:=50) (by kernel_rfl) rfl z2 z3 rfl rfl rfl (fun _=>y1n (v:=(.agg #[(.int .i64 z39),(.int .i64 z3a),(.int .i64 ((nth z19 zZ).fVL)),(.int .i64 zZ),(.int .i64 ((nth (nth z1m ((nth z19 zZ).fVL)) z1n).fNode)),(.int .i64 ((nth (nth z1m ((nth z19 zZ).fVL)) z1n).fNext)),(.int .i64 ((nth (nth z1m ((nth z19 zZ).fVL)) z1n).fLink))])) (Eos.parts (l:=[.tmp 38,.tmp 39,.tmp 44,.tmp 45,.tmp 49]) (.cons rfl (.cons rfl (.cons rfl (.cons rfl (.cons rfl .nil))))) [0,1,2,3,4]) (fun _=>by kernel_rfl)) ?_
     refine WD.new (i:=14) (dd:=51) rfl (by kernel_rfl) rfl rfl rfl (yC (cs:=([(⟨z39,z3a,((nth z19 zZ).fVL),zZ,(⟨((nth (nth z1m ((nth z19 zZ).fVL)) z1n).fNode),((nth (nth z1m ((nth z19 zZ).fVL)) z1n).fNext),((nth (nth z1m ((nth z19 zZ).fVL)) z1n).fLink)⟩ : Sapi_Hop)⟩ : Snetwork_event)] : List Snetwork_event).flatMap e89) y4x (Eos.parts (l:=[.tmp 50]) (.cons rfl .nil) [0]) (fun _=>by kernel_rfl) rfl (by unfold maxLen; omega)) (fun h'=>absurd h' (by decide)) ?_
     intro zMx _
     refine WD.old (i:=15) (dd:=52) rfl (by kernel_rfl) rfl rfl rfl rfl (fun _=>(Sin.of .nil)) (y1R (enc:=e89) (l1:=z3b) (l2:=([(⟨z39,z3a,((nth z19 zZ).fVL),zZ,(⟨((nth (nth z1m ((nth z19 zZ).fVL)) z1n).fNode),((nth (nth z1m ((nth z19 zZ).fVL)) z1n).fNext),((nth (nth z1m ((nth z19 zZ).fVL)) z1n).fLink)⟩ : Sapi_Hop)⟩ : Snetwork_event)] : List Snetwork_event)) y4x rfl rfl .h1 (fun _=>rfl) rfl rfl (y3m .here) (y2f y7C _) zEo) ?_
     rintro ⟨zEr,zEs⟩ _
     refine WD.a (i:=16) (d:=13) (by kernel_rfl) rfl z2 z3 rfl rfl rfl (fun _=>q_z rfl) ?_
     refine WD.done (by kernel_rfl) ?_
     refine WX.yk ?_
     exact WX.mid (G:=List Snetwork_event × Option Addr × Nat) ⟨(z3b ++ ([(⟨z39,z3a,((nth z19 zZ).fVL),zZ,(⟨((nth (nth z1m ((nth z19 zZ).fVL)) z1n).fNode),((nth (nth z1m ((nth z19 zZ).fVL)) z1n).fNext),((nth (nth z1m ((nth z19 zZ).fVL)) z1n).fLink)⟩ : Sapi_Hop)⟩ : Snetwork_event)] : List Snetwork_event)),zEr,zEs⟩ h (.cons rfl (.cons rfl (.cons rfl (.cons rfl (.cons rfl (.cons rfl (.cons rfl (.cons rfl .nil)))))))) (.cons .here .nil)
    ·replace h:=yn h zpw
     refine WC.skip (WX.yk ?_)
     exact WX.mid (G:=List Snetwork_event × Option Addr × Nat) ⟨z3b,zav,zaw⟩ h (.cons rfl (.cons rfl (.cons rfl (.cons rfl (.cons rfl (.cons rfl (.cons rfl (.cons rfl .nil)))))))) (.cons .here .nil)
   ·rintro z77 zfd zfe h
    replace h:=(zEj z77).symm.trans h
    refine WC.a (WL.pu rfl (WL.pu rfl (WL.pu rfl (WL.nil ?_))))
    exact WX.round (G:=Nat × List Snetwork_event × Int × Option Addr × Nat) ⟨zpu,z77,(i64 (z1n + 1)),zfd,zfe⟩ h (Nat.lt_succ_self _) (.cons rfl (.cons rfl (.cons rfl (.cons rfl (.cons rfl (.cons rfl (.cons rfl (.cons rfl .nil)))))))) (.cons .here .nil)
  ·replace h:=yn h zpv
   refine WC.exit (WX.yg (WX.yg (WX.yv ?_)))
   exact WX.mid (G:=List Snetwork_event × Option Addr × Nat) ⟨z3b,zav,zaw⟩ h (.cons rfl .nil) (.cons .here .nil)
 ·rintro z8w zfa zfb h
  replace h:=(zEi z8w).symm.trans h
  refine WC.b (WC.a (WL.pu rfl (WL.pu rfl (WL.nil (WX.a (WC.ret ?_))))))
  obtain rfl:=Option.some.inj h
  refine WX.yi Try.results29 (.tmp rfl .nil) (fun w hw=>?_)
  exact ⟨zfa,zfb,yM rfl,trivial,hw.sub (.cons .here .nil)⟩
def y3D (z1t : Snetwork_event) (z1u : Snetwork_event) : Option Bool :=
 if decide (z1t.fTime ≠ z1u.fTime) then some (decide (z1t.fTime < z1u.fTime)) else if decide (z1t.fIn_ ≠ z1u.fIn_) then some (decide (z1t.fIn_ < z1u.fIn_)) else if decide (z1t.fVl ≠ z1u.fVl) then some (decide (z1t.fVl < z1u.fVl)) else some (decide (z1t.fSent < z1u.fSent))
set_option maxRecDepth 20000 in
theorem y8W (Z : Zp)  (z1t : Snetwork_event) (z1u : Snetwork_event) (r : Bool)
  (h : y3D z1t z1u = some r) (w₀ : World) (hz : PZ [] w₀ Z) :
  Calls Try.prog 30 #[(.agg #[(.int .i64 z1t.fTime),(.int .i64 z1t.fIn_),(.int .i64 z1t.fVl),(.int .i64 z1t.fSent),(.int .i64 z1t.fHop.fNode),(.int .i64 z1t.fHop.fNext),(.int .i64 z1t.fHop.fLink)]),(.agg #[(.int .i64 z1u.fTime),(.int .i64 z1u.fIn_),(.int .i64 z1u.fVl),(.int .i64 z1u.fSent),(.int .i64 z1u.fHop.fNode),(.int .i64 z1u.fHop.fNext),(.int .i64 z1u.fHop.fLink)])] w₀ fun e w'=>e = .returned (.bool r) ∧ Hp [] w₀ w' []:=by
 unfold y3D at h
 refine Calls.yp (vs:=[(.agg #[(.int .i64 z1t.fTime),(.int .i64 z1t.fIn_),(.int .i64 z1t.fVl),(.int .i64 z1t.fSent),(.int .i64 z1t.fHop.fNode),(.int .i64 z1t.fHop.fNext),(.int .i64 z1t.fHop.fLink)]),(.agg #[(.int .i64 z1u.fTime),(.int .i64 z1u.fIn_),(.int .i64 z1u.fVl),(.int .i64 z1u.fSent),(.int .i64 z1u.fHop.fNode),(.int .i64 z1u.fHop.fNext),(.int .i64 z1u.fHop.fLink)])]) (pre:=[]) (env:=[(0,(.agg #[(.int .i64 z1t.fTime),(.int .i64 z1t.fIn_),(.int .i64 z1t.fVl),(.int .i64 z1t.fSent),(.int .i64 z1t.fHop.fNode),(.int .i64 z1t.fHop.fNext),(.int .i64 z1t.fHop.fLink)])),(1,(.agg #[(.int .i64 z1u.fTime),(.int .i64 z1u.fIn_),(.int .i64 z1u.fVl),(.int .i64 z1u.fSent),(.int .i64 z1u.fHop.fNode),(.int .i64 z1u.fHop.fNext),(.int .i64 z1u.fHop.fLink)]))]) Try.func30 rfl Try.ntmps30 rfl (Hp.nil w₀ _) rfl ?_
 refine WC.b (WC.a ?_)
 refine WL.new (dd:=2) rfl rfl rfl (y1N (cs:=[(.int .i64 z1t.fTime),(.int .i64 z1t.fIn_),(.int .i64 z1t.fVl),(.int .i64 z1t.fSent),(.int .i64 z1t.fHop.fNode),(.int .i64 z1t.fHop.fNext),(.int .i64 z1t.fHop.fLink)]) rfl rfl) ?_
 intro zMy _
 refine WL.new (dd:=3) rfl rfl rfl (y1N (cs:=[(.int .i64 z1u.fTime),(.int .i64 z1u.fIn_),(.int .i64 z1u.fVl),(.int .i64 z1u.fSent),(.int .i64 z1u.fHop.fNode),(.int .i64 z1u.fHop.fNext),(.int .i64 z1u.fHop.fLink)]) rfl rfl) ?_
 intro zMz _
 refine WL.pu rfl (WL.nil (WX.a (WC.b (WC.b (WC.a ?_)))))
 refine WL.a (d:=5) rfl rfl rfl (ya y5R rfl rfl) ?_
 refine WL.a (d:=6) rfl rfl rfl (yb yd rfl (yc .h1 rfl)) ?_
 refine WL.a (d:=7) rfl rfl rfl (ya y5R rfl rfl) ?_
 refine WL.a (d:=8) rfl rfl rfl (yb yd rfl (yc .here rfl)) ?_
 refine WL.pu rfl (WL.nil (WX.a ?_))
 refine WC.cond rfl (fun zpx=>?_) (fun zpx=>?_)
 ·replace h:=ym h zpx
  refine WC.b (WC.a ?_)
  refine WL.a (d:=10) rfl rfl rfl (ya y5R rfl rfl) ?_
  refine WL.a (d:=11) rfl rfl rfl (yb yd rfl (yc .h1 rfl)) ?_
  refine WL.a (d:=12) rfl rfl rfl (ya y5R rfl rfl) ?_
  refine WL.a (d:=13) rfl rfl rfl (yb yd rfl (yc .here rfl)) ?_
  refine WL.pu rfl (WL.pu rfl (WL.nil (WX.a (WC.ret (WX.yj ?_)))))
  obtain rfl:=Option.some.inj h
  refine WX.yi Try.results30 (.tmp rfl .nil) (fun w hw=>?_)
  exact ⟨yM rfl,hw.sub .nil⟩
 ·replace h:=yn h zpx
  refine WC.skip (WX.a (WC.b (WC.b (WC.a ?_))))
  refine WL.a (d:=15) rfl rfl rfl (ya y7P rfl rfl) ?_
  refine WL.a (d:=16) rfl rfl rfl (yb yd rfl (yc .h1 rfl)) ?_
  refine WL.a (d:=17) rfl rfl rfl (ya y7P rfl rfl) ?_
  refine WL.a (d:=18) rfl rfl rfl (yb yd rfl (yc .here rfl)) ?_
  refine WL.pu rfl (WL.nil (WX.a ?_))
  refine WC.cond rfl (fun zpy=>?_) (fun zpy=>?_)
  ·replace h:=ym h zpy
   refine WC.b (WC.a ?_)
   refine WL.a (d:=20) rfl rfl rfl (ya y7P rfl rfl) ?_
   refine WL.a (d:=21) rfl rfl rfl (yb yd rfl (yc .h1 rfl)) ?_
   refine WL.a (d:=22) rfl rfl rfl (ya y7P rfl rfl) ?_
   refine WL.a (d:=23) rfl rfl rfl (yb yd rfl (yc .here rfl)) ?_
   refine WL.pu rfl (WL.pu rfl (WL.nil (WX.a (WC.ret (WX.yj ?_)))))
   obtain rfl:=Option.some.inj h
   refine WX.yi Try.results30 (.tmp rfl .nil) (fun w hw=>?_)
   exact ⟨yM rfl,hw.sub .nil⟩
  ·replace h:=yn h zpy
   refine WC.skip (WX.a (WC.b (WC.b (WC.a ?_))))
   refine WL.a (d:=25) rfl rfl rfl (ya y7Q rfl rfl) ?_
   refine WL.a (d:=26) rfl rfl rfl (yb yd rfl (yc .h1 rfl)) ?_
   refine WL.a (d:=27) rfl rfl rfl (ya y7Q rfl rfl) ?_
   refine WL.a (d:=28) rfl rfl rfl (yb yd rfl (yc .here rfl)) ?_
   refine WL.pu rfl (WL.nil (WX.a ?_))
   refine WC.cond rfl (fun zpz=>?_) (fun zpz=>?_)
   ·replace h:=ym h zpz
    refine WC.b (WC.a ?_)
    refine WL.a (d:=30) rfl rfl rfl (ya y7Q rfl rfl) ?_
    refine WL.a (d:=31) rfl rfl rfl (yb yd rfl (yc .h1 rfl)) ?_
    refine WL.a (d:=32) rfl rfl rfl (ya y7Q rfl rfl) ?_
    refine WL.a (d:=33) rfl rfl rfl (yb yd rfl (yc .here rfl)) ?_
    refine WL.pu rfl (WL.pu rfl (WL.nil (WX.a (WC.ret (WX.yj ?_)))))
    obtain rfl:=Option.some.inj h
    refine WX.yi Try.results30 (.tmp rfl .nil) (fun w hw=>?_)
    exact ⟨yM rfl,hw.sub .nil⟩
   ·replace h:=yn h zpz
    refine WC.skip (WX.a (WC.b (WC.a ?_)))
    refine WL.a (d:=35) rfl rfl rfl (ya y5S rfl rfl) ?_
    refine WL.a (d:=36) rfl rfl rfl (yb yd rfl (yc .h1 rfl)) ?_
    refine WL.a (d:=37) rfl rfl rfl (ya y5S rfl rfl) ?_
    refine WL.a (d:=38) rfl rfl rfl (yb yd rfl (yc .here rfl)) ?_
    refine WL.pu rfl (WL.pu rfl (WL.nil (WX.a (WC.ret ?_))))
    obtain rfl:=Option.some.inj h
    refine WX.yi Try.results30 (.tmp rfl .nil) (fun w hw=>?_)
    exact ⟨yM rfl,hw.sub .nil⟩
def y51 (z3x : Int) (z4j : Int) (z6e : Int) : Option (S90 × Int) :=
 if (((((decide (z3x < 1)) || (decide (z3x > 16))) || (decide (z4j < 0))) || (decide (z4j > 1000))) || (decide (z6e < 0))) || (decide (z6e > 1073741824)) then some ((⟨0,0,0,0,[],[],[]⟩ : S90),2) else some ((⟨z3x,z4j,z6e,0,[],[],[]⟩ : S90),0)
set_option maxRecDepth 20000 in
theorem yab (Z : Zp)  (z3x : Int) (z4j : Int) (z6e : Int) (r : S90 × Int)
  (h : y51 z3x z4j z6e = some r) (w₀ : World) (hz : PZ [] w₀ Z) :
  Calls Try.prog 31 #[(.int .i64 z3x),(.int .i64 z4j),(.int .i64 z6e)] w₀ fun e w'=>∃ zv2 : Option Addr,∃ zv3 : Nat,∃ zv4 : Option Addr,∃ zv5 : Nat,∃ zv6 : Option Addr,∃ zv7 : Nat,e = .returned (.tuple #[(.agg #[(.int .i64 r.1.fSlow),(.int .i64 r.1.fDelay),(.int .i64 r.1.fStore),(.int .i64 r.1.fNow),(.slice zv2 r.1.fAt.length zv3),(.slice zv4 r.1.fSize.length zv5),(.slice zv6 r.1.fEnd.length zv7)]),(.int .i64 r.2)]) ∧ ((ZS Z 1 (fun r x=>r = e3 x) zv2 zv3 r.1.fAt) ∧ (ZS Z 1 (fun r x=>r = e3 x) zv4 zv5 r.1.fSize) ∧ (ZS Z 1 (fun r x=>r = e3 x) zv6 zv7 r.1.fEnd)) ∧ Hp [] w₀ w' []:=by
 unfold y51 at h
 refine Calls.yp (vs:=[(.int .i64 z3x),(.int .i64 z4j),(.int .i64 z6e)]) (pre:=[]) (env:=[(0,(.int .i64 z3x)),(1,(.int .i64 z4j)),(2,(.int .i64 z6e))]) Try.func31 rfl Try.ntmps31 rfl (Hp.nil w₀ _) rfl ?_
 refine WC.b (WC.a ?_)
 refine WL.new (dd:=6) rfl rfl rfl (y28 (cs:=[(.int .i64 0),(.int .i64 0),(.int .i64 0),(.int .i64 0),(.slice none 0 0),(.slice none 0 0),(.slice none 0 0)]) y63 rfl) ?_
 intro zMA _
 refine WL.pu rfl (WL.nil (WX.a (WC.b (WC.b (WC.a (WL.pu rfl (WL.pu rfl (WL.pu rfl ?_))))))))
 refine WL.seg false 2 10 (B:=(decide (z3x < 1)) || (decide (z3x > 16))) rfl rfl rfl rfl rfl rfl (fun h=>(y1p h).symm) (fun _ zEt=>?_) ?_
 ·skip
  refine WL.pu rfl (WL.pu rfl (WL.pu rfl ?_))
  exact WL.yr (y1q zEt) rfl rfl .all
 refine WL.pu rfl ?_
 refine WL.seg false 2 14 (B:=((decide (z3x < 1)) || (decide (z3x > 16))) || (decide (z4j < 0))) rfl rfl rfl rfl rfl rfl (fun h=>(y1p h).symm) (fun _ zEu=>?_) ?_
 ·skip
  refine WL.pu rfl (WL.pu rfl (WL.pu rfl ?_))
  exact WL.yr (y1q zEu) rfl rfl .all
 refine WL.pu rfl ?_
 refine WL.seg false 2 18 (B:=(((decide (z3x < 1)) || (decide (z3x > 16))) || (decide (z4j < 0))) || (decide (z4j > 1000))) rfl rfl rfl rfl rfl rfl (fun h=>(y1p h).symm) (fun _ zEv=>?_) ?_
 ·skip
  refine WL.pu rfl (WL.pu rfl (WL.pu rfl ?_))
  exact WL.yr (y1q zEv) rfl rfl .all
 refine WL.pu rfl ?_
 refine WL.seg false 2 22 (B:=((((decide (z3x < 1)) || (decide (z3x > 16))) || (decide (z4j < 0))) || (decide (z4j > 1000))) || (decide (z6e < 0))) rfl rfl rfl rfl rfl rfl (fun h=>(y1p h).symm) (fun _ zEw=>?_) ?_
 ·skip
  refine WL.pu rfl (WL.pu rfl (WL.pu rfl ?_))
  exact WL.yr (y1q zEw) rfl rfl .all
 refine WL.pu rfl ?_
 refine WL.seg false 2 26 (B:=(((((decide (z3x < 1)) || (decide (z3x > 16))) || (decide (z4j < 0))) || (decide (z4j > 1000))) || (decide (z6e < 0))) || (decide (z6e > 1073741824))) rfl rfl rfl rfl rfl rfl (fun h=>(y1p h).symm) (fun _ zEx=>?_) ?_
 ·skip
  refine WL.pu rfl (WL.pu rfl (WL.pu rfl ?_))
  exact WL.yr (y1q zEx) rfl rfl .all
 refine WL.nil (WX.a ?_)
 refine WC.cond rfl (fun zpA=>?_) (fun zpA=>?_)
 ·replace h:=ym h zpA
  refine WC.b (WC.a ?_)
  refine WL.a (d:=30) rfl rfl rfl (y1n (v:=(.agg #[(.int .i64 0),(.int .i64 0),(.int .i64 0),(.int .i64 0),(.slice none 0 0),(.slice none 0 0),(.slice none 0 0)])) (Eos.parts (l:=[]) .nil []) (fun _=>by kernel_rfl)) ?_
  refine WL.y1e rfl rfl (y1z y55 rfl rfl rfl .here rfl rfl rfl) ?_
  refine WL.pu rfl (WL.nil (WX.a (WC.ret (WX.yj ?_))))
  obtain rfl:=Option.some.inj h
  refine WX.yi Try.results31 (.agg rfl y3T rfl (yQ .here) (.tmp rfl .nil)) (fun w hw=>?_)
  exact ⟨none,0,none,0,none,0,ret2 rfl rfl,⟨(ZS.nil _ _ _),(ZS.nil _ _ _),(ZS.nil _ _ _)⟩,hw.sub .nil⟩
 ·replace h:=yn h zpA
  refine WC.skip (WX.a (WC.b (WC.a (WL.pu rfl (WL.pu rfl (WL.pu rfl ?_))))))
  refine WL.a (d:=34) rfl rfl rfl (y1n (v:=(.agg #[(.int .i64 z3x),(.int .i64 z4j),(.int .i64 z6e),(.int .i64 0),(.slice none 0 0),(.slice none 0 0),(.slice none 0 0)])) (Eos.parts (l:=[.tmp 31,.tmp 32,.tmp 33]) (.cons rfl (.cons rfl (.cons rfl .nil))) [0,1,2]) (fun _=>by kernel_rfl)) ?_
  refine WL.y1e rfl rfl (y1z y55 rfl rfl rfl .here rfl rfl rfl) ?_
  refine WL.pu rfl (WL.nil (WX.a (WC.ret ?_)))
  obtain rfl:=Option.some.inj h
  refine WX.yi Try.results31 (.agg rfl y3T rfl (yQ .here) (.tmp rfl .nil)) (fun w hw=>?_)
  exact ⟨none,0,none,0,none,0,ret2 rfl rfl,⟨(ZS.nil _ _ _),(ZS.nil _ _ _),(ZS.nil _ _ _)⟩,hw.sub .nil⟩
def y25 (zL : S90) (z3c : Int) (z9M : Int → Option Int) : Nat → Int → Int → Option Int
 | 0,_,_=>none
 | zpB + 1,z4y,z2a=>if decide (z2a < ((zL.fAt.length : Nat) : Int)) then jp1 (fun (z9N : Int)=>y25 zL z3c z9M zpB z9N (i64 (z2a + 1))) fun zld=>chk ((0 : Int) ≤ z2a ∧ z2a < ((zL.fAt.length : Nat) : Int)) (chk ((decide ((nth zL.fAt z2a) ≤ z3c)) = true → ((0 : Int) ≤ z2a ∧ z2a < ((zL.fEnd.length : Nat) : Int))) (if (decide ((nth zL.fAt z2a) ≤ z3c)) && (decide ((nth zL.fEnd z2a) > z3c)) then chk ((0 : Int) ≤ z2a ∧ z2a < ((zL.fSize.length : Nat) : Int)) (zld (i64 (z4y + (nth zL.fSize z2a)))) else zld z4y)) else z9M z4y
theorem y5I {n : Nat} {zL : S90} {z3c : Int} {z9M : Int → Option Int} {z4y : Int} {z2a : Int} {r : Int} (h : y25 zL z3c z9M n z4y z2a = some r) : ∃ m,n = m + 1:=by
 cases n with
 | zero=>cases h
 | succ m=>exact ⟨m,rfl⟩
def y3p (zL : S90) (zax : Int) : Option Int :=
 jp1 (fun (z3c : Int)=>jp1 (fun (zay : Int)=>some zay) fun z9M=>y25 zL z3c z9M yw 0 0) fun zle=>if decide (zax < zL.fNow) then zle zL.fNow else zle zax
set_option maxRecDepth 20000 in
theorem y7V (Z : Zp) (zaz : Option Addr) (zaA : Nat) (zaB : Option Addr) (zaC : Nat) (zaD : Option Addr) (zaE : Nat) (zL : S90) (zax : Int) (r : Int)
  (h : y3p zL zax = some r) (w₀ : World) (hz : PZ [] w₀ Z)
  (zEy : ZS Z 1 (fun r x=>r = e3 x) zaz zaA zL.fAt)
  (zEz : ZS Z 1 (fun r x=>r = e3 x) zaB zaC zL.fSize)
  (zEA : ZS Z 1 (fun r x=>r = e3 x) zaD zaE zL.fEnd) :
  Calls Try.prog 46 #[(.agg #[(.int .i64 zL.fSlow),(.int .i64 zL.fDelay),(.int .i64 zL.fStore),(.int .i64 zL.fNow),(.slice zaz zL.fAt.length zaA),(.slice zaB zL.fSize.length zaC),(.slice zaD zL.fEnd.length zaE)]),(.int .i64 zax)] w₀ fun e w'=>e = .returned (.int .i64 r) ∧ Hp [] w₀ w' []:=by
 unfold y3p at h
 refine Calls.yp (vs:=[(.agg #[(.int .i64 zL.fSlow),(.int .i64 zL.fDelay),(.int .i64 zL.fStore),(.int .i64 zL.fNow),(.slice zaz zL.fAt.length zaA),(.slice zaB zL.fSize.length zaC),(.slice zaD zL.fEnd.length zaE)]),(.int .i64 zax)]) (pre:=[]) (env:=[(0,(.agg #[(.int .i64 zL.fSlow),(.int .i64 zL.fDelay),(.int .i64 zL.fStore),(.int .i64 zL.fNow),(.slice zaz zL.fAt.length zaA),(.slice zaB zL.fSize.length zaC),(.slice zaD zL.fEnd.length zaE)])),(1,(.int .i64 zax))]) Try.func46 rfl Try.ntmps46 rfl (Hp.nil w₀ _) rfl ?_
 refine WC.b (WC.a ?_)
 refine WL.new (dd:=2) rfl rfl rfl (y1N (cs:=[(.int .i64 zL.fSlow),(.int .i64 zL.fDelay),(.int .i64 zL.fStore),(.int .i64 zL.fNow),(.slice zaz zL.fAt.length zaA),(.slice zaB zL.fSize.length zaC),(.slice zaD zL.fEnd.length zaE)]) rfl rfl) ?_
 intro zff _
 refine WL.pu rfl (WL.nil (WX.a ?_))
 obtain ⟨zle,zEB,h⟩:=yU h
 refine WC.y1i (fun (z3c : Int)=>(zle z3c = some r)) (fun (z3c : Int)=>[(1,(.int .i64 z3c)),(2,(.pointer (some ⟨zff,0,none⟩)))]) (fun (z3c : Int)=>[stb zff 91 [(.int .i64 zL.fSlow),(.int .i64 zL.fDelay),(.int .i64 zL.fStore),(.int .i64 zL.fNow),(.slice zaz zL.fAt.length zaA),(.slice zaB zL.fSize.length zaC),(.slice zaD zL.fEnd.length zaE)]]) ?_ ?_
 ·skip
  refine WC.b (WC.a (WL.pu rfl ?_))
  refine WL.a (d:=8) rfl rfl rfl (ya y7R rfl rfl) ?_
  refine WL.a (d:=9) rfl rfl rfl (yb yd rfl (yc .here rfl)) ?_
  refine WL.pu rfl (WL.nil (WX.a ?_))
  refine WC.cond rfl (fun zpC=>?_) (fun zpC=>?_)
  ·replace h:=ym h zpC
   refine WC.a ?_
   refine WL.a (d:=11) rfl rfl rfl (ya y7R rfl rfl) ?_
   refine WL.a (d:=12) rfl rfl rfl (yb yd rfl (yc .here rfl)) ?_
   refine WL.pu rfl (WL.nil ?_)
   exact WX.mid (G:=Int) zL.fNow h (.cons rfl (.cons rfl .nil)) (.cons .here .nil)
  ·replace h:=yn h zpC
   refine WC.skip ?_
   exact WX.mid (G:=Int) zax h (.cons rfl (.cons rfl .nil)) (.cons .here .nil)
 ·rintro z3c h
  replace h:=(zEB z3c).symm.trans h
  refine WC.b (WC.a (WL.pu rfl (WL.nil (WX.a ?_))))
  obtain ⟨z9M,zEC,h⟩:=yU h
  refine WC.y1i (fun (zay : Int)=>(z9M zay = some r)) (fun (zay : Int)=>[(5,(.int .i64 zay))]) (fun (zay : Int)=>[]) ?_ ?_
  ·skip
   refine WC.b (WC.a (WL.pu rfl (WL.nil (WX.a (WC.block ?_)))))
   refine WC.y2F (fun (zfg : Nat) (z4y : Int) (z2a : Int)=>(y25 zL z3c z9M zfg z4y z2a = some r)) (fun (zfg : Nat) (z4y : Int) (z2a : Int)=>[(1,(.int .i64 z3c)),(2,(.pointer (some ⟨zff,0,none⟩))),(5,(.int .i64 z4y)),(6,(.int .i64 z2a))]) (fun (zfg : Nat) (z4y : Int) (z2a : Int)=>[stb zff 91 [(.int .i64 zL.fSlow),(.int .i64 zL.fDelay),(.int .i64 zL.fStore),(.int .i64 zL.fNow),(.slice zaz zL.fAt.length zaA),(.slice zaB zL.fSize.length zaC),(.slice zaD zL.fEnd.length zaE)]]) (fun (zfg : Nat) (z4y : Int) (z2a : Int)=>zfg) ⟨yw,0,0⟩ h (.cons rfl (.cons rfl (.cons rfl (.cons rfl .nil)))) (.cons .here .nil) ?_
   rintro zfg z4y z2a h
   obtain ⟨zpB,rfl⟩:=y5I h
   rw [y25] at h
   refine WC.b (WC.b (WC.a (WL.pu rfl ?_)))
   refine WL.a (d:=14) rfl rfl rfl (ya y7S rfl rfl) ?_
   refine WL.a (d:=15) rfl rfl rfl (yb y3U rfl (yc .here rfl)) ?_
   refine WL.a (d:=16) rfl rfl rfl (yz Try.underlying56 rfl) ?_
   refine WL.pu rfl (WL.nil (WX.a ?_))
   refine WC.cond rfl (fun zpD=>?_) (fun zpD=>?_)
   ·replace h:=ym h zpD
    refine WC.skip (WX.a ?_)
    obtain ⟨zld,zED,h⟩:=yU h
    refine WC.y1i (fun (z9N : Int)=>(zld z9N = some r)) (fun (z9N : Int)=>[(1,(.int .i64 z3c)),(2,(.pointer (some ⟨zff,0,none⟩))),(5,(.int .i64 z9N)),(6,(.int .i64 z2a))]) (fun (z9N : Int)=>[stb zff 91 [(.int .i64 zL.fSlow),(.int .i64 zL.fDelay),(.int .i64 zL.fStore),(.int .i64 zL.fNow),(.slice zaz zL.fAt.length zaA),(.slice zaB zL.fSize.length zaC),(.slice zaD zL.fEnd.length zaE)]]) ?_ ?_
    ·skip
     refine WC.block (WC.b ?_)
     obtain ⟨zEE,h⟩:=ye h
     obtain ⟨zEF,h⟩:=ye h
     refine WC.a ?_
     refine WL.a (d:=20) rfl rfl rfl (ya y7S rfl rfl) ?_
     refine WL.a (d:=21) rfl rfl rfl (yb y3U rfl (yc .here rfl)) ?_
     refine WL.pu rfl ?_
     refine WL.znth (dd:=23) rfl rfl (Z:=Z) (Pr:=(fun r x=>r = e3 x)) y2q rfl rfl zEy zEE ?_
     rintro zMB zMC zEG zMD rfl
     refine WL.a (d:=24) rfl rfl rfl (yb yd rfl (y4R hz.pv zEG rfl)) ?_
     refine WL.pu rfl (WL.pu rfl (WL.pu rfl ?_))
     refine WL.seg true 7 27 (B:=(decide ((nth zL.fAt z2a) ≤ z3c)) && (decide ((nth zL.fEnd z2a) > z3c))) rfl rfl rfl rfl rfl rfl (fun h=>(y1G h).symm) (fun _ zv8=>?_) ?_
     ·skip
      have zEH:=zEF zv8
      refine WL.a (d:=28) rfl rfl rfl (ya y56 rfl rfl) ?_
      refine WL.a (d:=29) rfl rfl rfl (yb y3U rfl (yc .here rfl)) ?_
      refine WL.pu rfl ?_
      refine WL.znth (dd:=31) rfl rfl (Z:=Z) (Pr:=(fun r x=>r = e3 x)) y2q rfl rfl zEA zEH ?_
      rintro zME zMF zEI zMG rfl
      refine WL.a (d:=32) rfl rfl rfl (yb yd rfl (y4R hz.pv zEI rfl)) ?_
      refine WL.pu rfl (WL.pu rfl (WL.pu rfl ?_))
      exact WL.yr (y1H zv8) rfl rfl .all
     refine WL.nil (WX.a ?_)
     refine WC.cond rfl (fun zpE=>?_) (fun zpE=>?_)
     ·replace h:=ym h zpE
      obtain ⟨zEJ,h⟩:=ye h
      refine WC.a (WL.pu rfl ?_)
      refine WL.a (d:=37) rfl rfl rfl (ya y8T rfl rfl) ?_
      refine WL.a (d:=38) rfl rfl rfl (yb y3U rfl (yc .here rfl)) ?_
      refine WL.pu rfl ?_
      refine WL.znth (dd:=40) rfl rfl (Z:=Z) (Pr:=(fun r x=>r = e3 x)) y2q rfl rfl zEz zEJ ?_
      rintro zMH zMI zEK zMJ rfl
      refine WL.a (d:=41) rfl rfl rfl (yb yd rfl (y4R hz.pv zEK rfl)) ?_
      refine WL.pu rfl (WL.pu rfl (WL.nil (WX.yk ?_)))
      exact WX.mid (G:=Int) (i64 (z4y + (nth zL.fSize z2a))) h (.cons rfl (.cons rfl (.cons rfl (.cons rfl .nil)))) (.cons .here .nil)
     ·replace h:=yn h zpE
      refine WC.skip (WX.yk ?_)
      exact WX.mid (G:=Int) z4y h (.cons rfl (.cons rfl (.cons rfl (.cons rfl .nil)))) (.cons .here .nil)
    ·rintro z9N h
     replace h:=(zED z9N).symm.trans h
     refine WC.a (WL.pu rfl (WL.pu rfl (WL.pu rfl (WL.nil ?_))))
     exact WX.round (G:=Nat × Int × Int) ⟨zpB,z9N,(i64 (z2a + 1))⟩ h (Nat.lt_succ_self _) (.cons rfl (.cons rfl (.cons rfl (.cons rfl .nil)))) (.cons .here .nil)
   ·replace h:=yn h zpD
    refine WC.exit (WX.yg (WX.yg (WX.yv ?_)))
    exact WX.mid (G:=Int) z4y h (.cons rfl .nil) .nil
  ·rintro zay h
   replace h:=(zEC zay).symm.trans h
   refine WC.b (WC.a (WL.pu rfl (WL.pu rfl (WL.nil (WX.a (WC.ret ?_))))))
   obtain rfl:=Option.some.inj h
   refine WX.yi Try.results46 (.tmp rfl .nil) (fun w hw=>?_)
   exact ⟨yM rfl,hw.sub .nil⟩
def y3N (ze : S90) (z1K : Int) (z1R : Int) : Option (S90 × Int × Int) :=
 if (((decide (z1R < 1)) || (decide (z1R > 72))) || (decide (z1K < ze.fNow))) || (decide (z1K > 1073741824)) then some (ze,0,2) else (y3p (⟨ze.fSlow,ze.fDelay,ze.fStore,z1K,ze.fAt,ze.fSize,ze.fEnd⟩ : S90) z1K).bind fun zv9=>if decide ((i64 (zv9 + z1R)) > ze.fStore) then some ((⟨ze.fSlow,ze.fDelay,ze.fStore,z1K,ze.fAt,ze.fSize,ze.fEnd⟩ : S90),0,4) else jp1 (fun (z4z : Int)=>chk ((((([] : List Int) ++ ze.fAt).length : Nat) : Int) * 8 ≤ 140737488355328 ∧ (((([] : List Int) ++ ze.fAt).length : Nat) : Int) ≤ 4611686018427387904) (chk (((((([] : List Int) ++ ze.fAt) ++ ([z1K] : List Int)).length : Nat) : Int) * 8 ≤ 140737488355328 ∧ ((((([] : List Int) ++ ze.fAt) ++ ([z1K] : List Int)).length : Nat) : Int) ≤ 4611686018427387904) (chk ((((([] : List Int) ++ ze.fSize).length : Nat) : Int) * 8 ≤ 140737488355328 ∧ (((([] : List Int) ++ ze.fSize).length : Nat) : Int) ≤ 4611686018427387904) (chk (((((([] : List Int) ++ ze.fSize) ++ ([z1R] : List Int)).length : Nat) : Int) * 8 ≤ 140737488355328 ∧ ((((([] : List Int) ++ ze.fSize) ++ ([z1R] : List Int)).length : Nat) : Int) ≤ 4611686018427387904) (chk ((((([] : List Int) ++ ze.fEnd).length : Nat) : Int) * 8 ≤ 140737488355328 ∧ (((([] : List Int) ++ ze.fEnd).length : Nat) : Int) ≤ 4611686018427387904) (chk (((((([] : List Int) ++ ze.fEnd) ++ ([i64 (z4z + (i64 (z1R * ze.fSlow)))] : List Int)).length : Nat) : Int) * 8 ≤ 140737488355328 ∧ ((((([] : List Int) ++ ze.fEnd) ++ ([i64 (z4z + (i64 (z1R * ze.fSlow)))] : List Int)).length : Nat) : Int) ≤ 4611686018427387904) (some ((⟨ze.fSlow,ze.fDelay,ze.fStore,z1K,(([] : List Int) ++ ze.fAt) ++ ([z1K] : List Int),(([] : List Int) ++ ze.fSize) ++ ([z1R] : List Int),(([] : List Int) ++ ze.fEnd) ++ ([i64 (z4z + (i64 (z1R * ze.fSlow)))] : List Int)⟩ : S90),(i64 (z4z + (i64 (z1R * ze.fSlow)))),0)))))))) fun zlf=>chk ((decide (((ze.fEnd.length : Nat) : Int) > 0)) = true → ((0 : Int) ≤ (i64 (((ze.fEnd.length : Nat) : Int) - 1)) ∧ (i64 (((ze.fEnd.length : Nat) : Int) - 1)) < ((ze.fEnd.length : Nat) : Int))) (if (decide (((ze.fEnd.length : Nat) : Int) > 0)) && (decide ((nth ze.fEnd (i64 (((ze.fEnd.length : Nat) : Int) - 1))) > (i64 (z1K + ze.fDelay)))) then chk ((0 : Int) ≤ (i64 (((ze.fEnd.length : Nat) : Int) - 1)) ∧ (i64 (((ze.fEnd.length : Nat) : Int) - 1)) < ((ze.fEnd.length : Nat) : Int)) (zlf (nth ze.fEnd (i64 (((ze.fEnd.length : Nat) : Int) - 1)))) else zlf (i64 (z1K + ze.fDelay)))
set_option maxRecDepth 20000 in
theorem y67 (Z : Zp) (z9O : Option Addr) (z9P : Nat) (z8x : Option Addr) (z8y : Nat) (z78 : Option Addr) (z79 : Nat) (ze : S90) (z1K : Int) (z1R : Int) (r : S90 × Int × Int)
  (h : y3N ze z1K z1R = some r) (w₀ : World) (hz : PZ [] w₀ Z)
  (zlg : ZS Z 1 (fun r x=>r = e3 x) z9O z9P ze.fAt)
  (zlh : ZS Z 1 (fun r x=>r = e3 x) z8x z8y ze.fSize)
  (zfh : ZS Z 1 (fun r x=>r = e3 x) z78 z79 ze.fEnd) :
  Calls Try.prog 32 #[(.agg #[(.int .i64 ze.fSlow),(.int .i64 ze.fDelay),(.int .i64 ze.fStore),(.int .i64 ze.fNow),(.slice z9O ze.fAt.length z9P),(.slice z8x ze.fSize.length z8y),(.slice z78 ze.fEnd.length z79)]),(.int .i64 z1K),(.int .i64 z1R)] w₀ fun e w'=>∃ Zn : Zp,∃ zva : Option Addr,∃ zvb : Nat,∃ zvc : Option Addr,∃ zvd : Nat,∃ zve : Option Addr,∃ zvf : Nat,e = .returned (.tuple #[(.agg #[(.int .i64 r.1.fSlow),(.int .i64 r.1.fDelay),(.int .i64 r.1.fStore),(.int .i64 r.1.fNow),(.slice zva r.1.fAt.length zvb),(.slice zvc r.1.fSize.length zvd),(.slice zve r.1.fEnd.length zvf)]),(.int .i64 r.2.1),(.int .i64 r.2.2)]) ∧ ((ZS (Z ++ Zn) 1 (fun r x=>r = e3 x) zva zvb r.1.fAt) ∧ (ZS (Z ++ Zn) 1 (fun r x=>r = e3 x) zvc zvd r.1.fSize) ∧ (ZS (Z ++ Zn) 1 (fun r x=>r = e3 x) zve zvf r.1.fEnd)) ∧ Hp [] w₀ w' [fz Zn]:=by
 unfold y3N at h
 refine Calls.yp (vs:=[(.agg #[(.int .i64 ze.fSlow),(.int .i64 ze.fDelay),(.int .i64 ze.fStore),(.int .i64 ze.fNow),(.slice z9O ze.fAt.length z9P),(.slice z8x ze.fSize.length z8y),(.slice z78 ze.fEnd.length z79)]),(.int .i64 z1K),(.int .i64 z1R)]) (pre:=[]) (env:=[(0,(.agg #[(.int .i64 ze.fSlow),(.int .i64 ze.fDelay),(.int .i64 ze.fStore),(.int .i64 ze.fNow),(.slice z9O ze.fAt.length z9P),(.slice z8x ze.fSize.length z8y),(.slice z78 ze.fEnd.length z79)])),(1,(.int .i64 z1K)),(2,(.int .i64 z1R))]) Try.func32 rfl Try.ntmps32 rfl (Hp.nil w₀ _) rfl ?_
 refine WC.pool (WC.b (WC.a ?_))
 refine WL.new (dd:=3) rfl rfl rfl (y1N (cs:=[(.int .i64 ze.fSlow),(.int .i64 ze.fDelay),(.int .i64 ze.fStore),(.int .i64 ze.fNow),(.slice z9O ze.fAt.length z9P),(.slice z8x ze.fSize.length z8y),(.slice z78 ze.fEnd.length z79)]) rfl rfl) ?_
 intro zvg _
 refine WL.new (dd:=6) rfl rfl rfl (y28 (cs:=[(.int .i64 0),(.int .i64 0),(.int .i64 0),(.int .i64 0),(.slice none 0 0),(.slice none 0 0),(.slice none 0 0)]) y63 rfl) ?_
 intro zvh _
 refine WL.pu rfl (WL.pu rfl (WL.nil (WX.a (WC.b (WC.b (WC.a (WL.pu rfl (WL.pu rfl (WL.pu rfl ?_)))))))))
 refine WL.seg false 2 13 (B:=(decide (z1R < 1)) || (decide (z1R > 72))) rfl rfl rfl rfl rfl rfl (fun h=>(y1p h).symm) (fun _ zEL=>?_) ?_
 ·skip
  refine WL.pu rfl (WL.pu rfl (WL.pu rfl ?_))
  exact WL.yr (y1q zEL) rfl rfl .all
 refine WL.pu rfl ?_
 refine WL.seg false 4 17 (B:=((decide (z1R < 1)) || (decide (z1R > 72))) || (decide (z1K < ze.fNow))) rfl rfl rfl rfl rfl rfl (fun h=>(y1p h).symm) (fun _ zEM=>?_) ?_
 ·skip
  refine WL.pu rfl ?_
  refine WL.a (d:=19) rfl rfl rfl (ya y7R rfl rfl) ?_
  refine WL.a (d:=20) rfl rfl rfl (yb yd rfl (yc .h1 rfl)) ?_
  refine WL.pu rfl (WL.pu rfl ?_)
  exact WL.yr (y1q zEM) rfl rfl .all
 refine WL.pu rfl ?_
 refine WL.seg false 2 23 (B:=(((decide (z1R < 1)) || (decide (z1R > 72))) || (decide (z1K < ze.fNow))) || (decide (z1K > 1073741824))) rfl rfl rfl rfl rfl rfl (fun h=>(y1p h).symm) (fun _ zEN=>?_) ?_
 ·skip
  refine WL.pu rfl (WL.pu rfl (WL.pu rfl ?_))
  exact WL.yr (y1q zEN) rfl rfl .all
 refine WL.nil (WX.a ?_)
 refine WC.cond rfl (fun zpF=>?_) (fun zpF=>?_)
 ·replace h:=ym h zpF
  refine WC.b (WC.a ?_)
  refine WL.a (d:=27) rfl rfl rfl (yx y3T rfl (yQ .h1) rfl) ?_
  refine WL.y1e rfl rfl (y1z y55 rfl rfl rfl .here rfl rfl rfl) ?_
  refine WL.pu rfl (WL.pu rfl (WL.nil (WX.a (WC.ret (WX.yj ?_)))))
  obtain rfl:=Option.some.inj h
  refine WX.yi Try.results32 (.agg rfl y3T rfl (yQ .here) (.tmp rfl (.tmp rfl .nil))) (fun w hw=>?_)
  exact ⟨[],z9O,z9P,z8x,z8y,z78,z79,ret3 rfl rfl rfl,⟨(zlg.mono (Zle.left _ _)),(zlh.mono (Zle.left _ _)),(zfh.mono (Zle.left _ _))⟩,hw.sub (.cons .h2 .nil)⟩
 ·replace h:=yn h zpF
  refine WC.skip (WX.a (WC.b (WC.a (WL.pu rfl ?_))))
  refine WL.a (d:=29) rfl rfl rfl (ya y7R rfl rfl) ?_
  refine WL.y1e rfl rfl (y3n (ds:=[(.int .i64 ze.fSlow),(.int .i64 ze.fDelay),(.int .i64 ze.fStore),(.int .i64 z1K),(.slice z9O ze.fAt.length z9P),(.slice z8x ze.fSize.length z8y),(.slice z78 ze.fEnd.length z79)]) y8t rfl rfl rfl rfl rfl .h1 rfl rfl) ?_
  refine WL.nil (WX.a (WC.b (WC.b ?_)))
  obtain ⟨zv9,zEO,h⟩:=zg h
  refine WC.yI (fun i=>[].contains i) [] rfl ?_
  refine WD.e (i:=0) (d:=30) (by kernel_rfl) rfl z2 z3 rfl rfl rfl (yx y3T rfl (yQ .here) rfl) ?_
  refine WD.a (i:=1) (d:=31) (by kernel_rfl) rfl z2 z3 rfl rfl rfl (fun _=>q_m rfl) ?_
  refine WD.c (i:=2) (d:=32) (by kernel_rfl) rfl z2 z3 rfl rfl rfl (zC (l:=[.tmp 30,.tmp 31]) Try.call46 (.cons rfl (.cons rfl .nil))) (ccz hz .nil .h2 fun w pz ho=>y7V _ _ _ _ _ _ _ _ _ _ zEO w pz (zlg.mono (Zle.left _ _)) (zlh.mono (Zle.left _ _)) (zfh.mono (Zle.left _ _))) ?_
  refine WD.a (i:=3) (d:=33) (by kernel_rfl) rfl z2 z3 rfl rfl rfl (fun _=>q_m rfl) ?_
  refine WD.a (i:=4) (d:=34) (by kernel_rfl) rfl z2 z3 rfl rfl rfl (fun _=>y4T rfl rfl rfl) ?_
  refine WD.a (i:=5) (d:=35) (by kernel_rfl) rfl z2 z3 rfl rfl rfl (fun _=>ya fo_91_2 rfl rfl) ?_
  refine WD.e (i:=6) (d:=36) (by kernel_rfl) rfl z2 z3 rfl rfl rfl (yb yd rfl (yc .here rfl)) ?_
  refine WD.a (i:=7) (d:=37) (by kernel_rfl) rfl z2 z3 rfl rfl rfl (fun _=>y3f rfl rfl) ?_
  refine WD.done (by kernel_rfl) ?_
  refine WX.a ?_
  refine WC.cond rfl (fun zpG=>?_) (fun zpG=>?_)
  ·replace h:=ym h zpG
   refine WC.b (WC.a ?_)
   refine WL.a (d:=38) rfl rfl rfl (yx y3T rfl (yQ .here) rfl) ?_
   refine WL.y1e rfl rfl (y1z y55 rfl rfl rfl .h1 rfl rfl rfl) ?_
   refine WL.pu rfl (WL.pu rfl (WL.nil (WX.a (WC.ret (WX.yj ?_)))))
   obtain rfl:=Option.some.inj h
   refine WX.yi Try.results32 (.agg rfl y3T rfl (yQ .here) (.tmp rfl (.tmp rfl .nil))) (fun w hw=>?_)
   exact ⟨[],z9O,z9P,z8x,z8y,z78,z79,ret3 rfl rfl rfl,⟨(zlg.mono (Zle.left _ _)),(zlh.mono (Zle.left _ _)),(zfh.mono (Zle.left _ _))⟩,hw.sub (.cons .h2 .nil)⟩
  ·replace h:=yn h zpG
   refine WC.skip (WX.a (WC.b (WC.a (WL.pu rfl ?_))))
   refine WL.a (d:=40) rfl rfl rfl (ya fo_91_1 rfl rfl) ?_
   refine WL.a (d:=41) rfl rfl rfl (yb yd rfl (yc .here rfl)) ?_
   refine WL.pu rfl (WL.pu rfl (WL.nil (WX.a ?_)))
   obtain ⟨zlf,zEP,h⟩:=yU h
   refine WC.y1i (fun (z4z : Int)=>(zlf z4z = some r)) (fun (z4z : Int)=>[(1,(.int .i64 z1K)),(2,(.int .i64 z1R)),(3,(.pointer (some ⟨zvg,0,none⟩))),(6,(.pointer (some ⟨zvh,0,none⟩))),(9,(.int .i64 z4z))]) (fun (z4z : Int)=>[fz [],stb zvg 91 [(.int .i64 ze.fSlow),(.int .i64 ze.fDelay),(.int .i64 ze.fStore),(.int .i64 z1K),(.slice z9O ze.fAt.length z9P),(.slice z8x ze.fSize.length z8y),(.slice z78 ze.fEnd.length z79)],stb zvh 91 [(.int .i64 0),(.int .i64 0),(.int .i64 0),(.int .i64 0),(.slice none 0 0),(.slice none 0 0),(.slice none 0 0)]]) ?_ ?_
   ·skip
    refine WC.b ?_
    obtain ⟨zEQ,h⟩:=ye h
    refine WC.a ?_
    refine WL.a (d:=43) rfl rfl rfl (ya y56 rfl rfl) ?_
    refine WL.a (d:=44) rfl rfl rfl (yb y3U rfl (yc .here rfl)) ?_
    refine WL.a (d:=45) rfl rfl rfl (yz Try.underlying56 rfl) ?_
    refine WL.pu rfl (WL.pu rfl ?_)
    refine WL.seg true 10 47 (B:=(decide (((ze.fEnd.length : Nat) : Int) > 0)) && (decide ((nth ze.fEnd (i64 (((ze.fEnd.length : Nat) : Int) - 1))) > (i64 (z1K + ze.fDelay))))) rfl rfl rfl rfl rfl rfl (fun h=>(y1G h).symm) (fun _ zvi=>?_) ?_
    ·skip
     have zER:=zEQ zvi
     refine WL.a (d:=48) rfl rfl rfl (ya y56 rfl rfl) ?_
     refine WL.a (d:=49) rfl rfl rfl (yb y3U rfl (yc .here rfl)) ?_
     refine WL.a (d:=50) rfl rfl rfl (ya y56 rfl rfl) ?_
     refine WL.a (d:=51) rfl rfl rfl (yb y3U rfl (yc .here rfl)) ?_
     refine WL.a (d:=52) rfl rfl rfl (yz Try.underlying56 rfl) ?_
     refine WL.pu rfl ?_
     refine WL.znth (dd:=54) rfl rfl (Z:=(Z ++ [])) (Pr:=(fun r x=>r = e3 x)) y2q rfl rfl (zfh.mono (Zle.left _ _)) zER ?_
     rintro zMK zML zES zMM rfl
     refine WL.a (d:=55) rfl rfl rfl (yb yd rfl (y4R (hz.pv2 .h2) zES rfl)) ?_
     refine WL.pu rfl (WL.pu rfl (WL.pu rfl ?_))
     exact WL.yr (y1H zvi) rfl rfl .all
    refine WL.nil (WX.a ?_)
    refine WC.cond rfl (fun zpH=>?_) (fun zpH=>?_)
    ·replace h:=ym h zpH
     obtain ⟨zET,h⟩:=ye h
     refine WC.a ?_
     refine WL.a (d:=59) rfl rfl rfl (ya y56 rfl rfl) ?_
     refine WL.a (d:=60) rfl rfl rfl (yb y3U rfl (yc .here rfl)) ?_
     refine WL.a (d:=61) rfl rfl rfl (ya y56 rfl rfl) ?_
     refine WL.a (d:=62) rfl rfl rfl (yb y3U rfl (yc .here rfl)) ?_
     refine WL.a (d:=63) rfl rfl rfl (yz Try.underlying56 rfl) ?_
     refine WL.pu rfl ?_
     refine WL.znth (dd:=65) rfl rfl (Z:=(Z ++ [])) (Pr:=(fun r x=>r = e3 x)) y2q rfl rfl (zfh.mono (Zle.left _ _)) zET ?_
     rintro zMN zMO zEU zMP rfl
     refine WL.a (d:=66) rfl rfl rfl (yb yd rfl (y4R (hz.pv2 .h2) zEU rfl)) ?_
     refine WL.pu rfl (WL.nil ?_)
     exact WX.mid (G:=Int) (nth ze.fEnd (i64 (((ze.fEnd.length : Nat) : Int) - 1))) h (.cons rfl (.cons rfl (.cons rfl (.cons rfl (.cons rfl .nil))))) (.cons .h2 (.cons .here (.cons .here .nil)))
    ·replace h:=yn h zpH
     refine WC.skip ?_
     exact WX.mid (G:=Int) (i64 (z1K + ze.fDelay)) h (.cons rfl (.cons rfl (.cons rfl (.cons rfl (.cons rfl .nil))))) (.cons .h2 (.cons .here (.cons .here .nil)))
   ·rintro z4z h
    replace h:=(zEP z4z).symm.trans h
    refine WC.b (WC.a (WL.pu rfl (WL.pu rfl ?_)))
    refine WL.a (d:=69) rfl rfl rfl (ya fo_91_0 rfl rfl) ?_
    refine WL.a (d:=70) rfl rfl rfl (yb yd rfl (yc .h1 rfl)) ?_
    refine WL.pu rfl (WL.pu rfl (WL.pu rfl (WL.nil (WX.a (WC.b ?_)))))
    obtain ⟨zEV,h⟩:=ye h
    obtain ⟨zEW,h⟩:=ye h
    refine WC.a ?_
    refine WL.new (dd:=73) rfl rfl rfl (yC (cs:=([] : List Int).flatMap e3) y2q (Eos.parts (l:=[]) .nil []) (fun _=>by kernel_rfl) rfl (by unfold maxLen; omega)) ?_
    intro zMQ _
    refine WL.a (d:=74) rfl rfl rfl (ya y7S rfl rfl) ?_
    refine WL.a (d:=75) rfl rfl rfl (yb y3U rfl (yc .h2 rfl)) ?_
    refine WL.eff (d:=76) rfl rfl rfl (y1R (enc:=e3) (l1:=([] : List Int)) (l2:=ze.fAt) y2q rfl rfl .here (fun _=>rfl) rfl rfl (y5A (hz.pv2 .h1) (zlg.mono (Zle.left _ _))) (y2f y7L _) zEV) ?_
    rintro ⟨zMR,zMS⟩ _
    refine WL.pu rfl ?_
    refine WL.new (dd:=78) rfl rfl rfl (yC (cs:=([z1K] : List Int).flatMap e3) y2q (Eos.parts (l:=[.tmp 77]) (.cons rfl .nil) [0]) (fun _=>by kernel_rfl) rfl (by unfold maxLen; omega)) ?_
    intro zMT _
    refine WL.eff (d:=79) rfl rfl rfl (y1R (enc:=e3) (l1:=([] : List Int) ++ ze.fAt) (l2:=([z1K] : List Int)) y2q rfl rfl .h1 (fun _=>rfl) rfl rfl (y3m .here) (y2f y7L _) zEW) ?_
    rintro ⟨zli,zlj⟩ _
    refine WL.a (d:=80) rfl rfl rfl (ya y7S rfl rfl) ?_
    refine WL.y1e rfl rfl (y3n (ds:=[(.int .i64 ze.fSlow),(.int .i64 ze.fDelay),(.int .i64 ze.fStore),(.int .i64 z1K),(.slice zli (((([] : List Int) ++ ze.fAt) ++ ([z1K] : List Int)).length) zlj),(.slice z8x ze.fSize.length z8y),(.slice z78 ze.fEnd.length z79)]) y8U rfl rfl rfl rfl rfl .h3 rfl rfl) ?_
    refine WL.nil (WX.a (WC.b ?_))
    obtain ⟨zEX,h⟩:=ye h
    obtain ⟨zEY,h⟩:=ye h
    refine WC.a ?_
    refine WL.new (dd:=81) rfl rfl rfl (yC (cs:=([] : List Int).flatMap e3) y2q (Eos.parts (l:=[]) .nil []) (fun _=>by kernel_rfl) rfl (by unfold maxLen; omega)) ?_
    intro zMU _
    refine WL.a (d:=82) rfl rfl rfl (ya y8T rfl rfl) ?_
    refine WL.a (d:=83) rfl rfl rfl (yb y3U rfl (yc .h1 rfl)) ?_
    refine WL.eff (d:=84) rfl rfl rfl (y1R (enc:=e3) (l1:=([] : List Int)) (l2:=ze.fSize) y2q rfl rfl .here (fun _=>rfl) rfl rfl (y5A (hz.pv2 .h4) (zlh.mono (Zle.left _ _))) (y2f y7L _) zEX) ?_
    rintro ⟨zMV,zMW⟩ _
    refine WL.pu rfl ?_
    refine WL.new (dd:=86) rfl rfl rfl (yC (cs:=([z1R] : List Int).flatMap e3) y2q (Eos.parts (l:=[.tmp 85]) (.cons rfl .nil) [0]) (fun _=>by kernel_rfl) rfl (by unfold maxLen; omega)) ?_
    intro zMX _
    refine WL.eff (d:=87) rfl rfl rfl (y1R (enc:=e3) (l1:=([] : List Int) ++ ze.fSize) (l2:=([z1R] : List Int)) y2q rfl rfl .h1 (fun _=>rfl) rfl rfl (y3m .here) (y2f y7L _) zEY) ?_
    rintro ⟨zpI,zpJ⟩ _
    refine WL.a (d:=88) rfl rfl rfl (ya y8T rfl rfl) ?_
    refine WL.y1e rfl rfl (y3n (ds:=[(.int .i64 ze.fSlow),(.int .i64 ze.fDelay),(.int .i64 ze.fStore),(.int .i64 z1K),(.slice zli (((([] : List Int) ++ ze.fAt) ++ ([z1K] : List Int)).length) zlj),(.slice zpI (((([] : List Int) ++ ze.fSize) ++ ([z1R] : List Int)).length) zpJ),(.slice z78 ze.fEnd.length z79)]) y8U rfl rfl rfl rfl rfl .h2 rfl rfl) ?_
    refine WL.nil (WX.a (WC.b ?_))
    obtain ⟨zEZ,h⟩:=ye h
    obtain ⟨zF0,h⟩:=ye h
    refine WC.a ?_
    refine WL.new (dd:=89) rfl rfl rfl (yC (cs:=([] : List Int).flatMap e3) y2q (Eos.parts (l:=[]) .nil []) (fun _=>by kernel_rfl) rfl (by unfold maxLen; omega)) ?_
    intro zMY _
    refine WL.a (d:=90) rfl rfl rfl (ya y56 rfl rfl) ?_
    refine WL.a (d:=91) rfl rfl rfl (yb y3U rfl (yc .h1 rfl)) ?_
    refine WL.eff (d:=92) rfl rfl rfl (y1R (enc:=e3) (l1:=([] : List Int)) (l2:=ze.fEnd) y2q rfl rfl .here (fun _=>rfl) rfl rfl (y5A (hz.pv2 .h6) (zfh.mono (Zle.left _ _))) (y2f y7L _) zEZ) ?_
    rintro ⟨zMZ,zN0⟩ _
    refine WL.pu rfl ?_
    refine WL.new (dd:=94) rfl rfl rfl (yC (cs:=([i64 (z4z + (i64 (z1R * ze.fSlow)))] : List Int).flatMap e3) y2q (Eos.parts (l:=[.tmp 93]) (.cons rfl .nil) [0]) (fun _=>by kernel_rfl) rfl (by unfold maxLen; omega)) ?_
    intro zN1 _
    refine WL.eff (d:=95) rfl rfl rfl (y1R (enc:=e3) (l1:=([] : List Int) ++ ze.fEnd) (l2:=([i64 (z4z + (i64 (z1R * ze.fSlow)))] : List Int)) y2q rfl rfl .h1 (fun _=>rfl) rfl rfl (y3m .here) (y2f y7L _) zF0) ?_
    rintro ⟨zvj,zvk⟩ _
    refine WL.a (d:=96) rfl rfl rfl (ya y56 rfl rfl) ?_
    refine WL.y1e rfl rfl (y3n (ds:=[(.int .i64 ze.fSlow),(.int .i64 ze.fDelay),(.int .i64 ze.fStore),(.int .i64 z1K),(.slice zli (((([] : List Int) ++ ze.fAt) ++ ([z1K] : List Int)).length) zlj),(.slice zpI (((([] : List Int) ++ ze.fSize) ++ ([z1R] : List Int)).length) zpJ),(.slice zvj (((([] : List Int) ++ ze.fEnd) ++ ([i64 (z4z + (i64 (z1R * ze.fSlow)))] : List Int)).length) zvk)]) y8U rfl rfl rfl rfl rfl .h2 rfl rfl) ?_
    refine WL.nil (WX.a (WC.b (WC.a ?_)))
    refine WL.a (d:=97) rfl rfl rfl (yx y3T rfl (yQ .here) rfl) ?_
    refine WL.pu rfl ?_
    refine WL.y1e rfl rfl (y1z y55 rfl rfl rfl (.there .h7) rfl rfl rfl) ?_
    refine WL.pu rfl (WL.pu rfl (WL.nil (WX.a (WC.ret ?_))))
    refine WX.freezeS (ls:=(([] : List Int) ++ ze.fAt) ++ ([z1K] : List Int)) .h6 .h7 hz (RR.y19 (enc:=e3) (fun _=>rfl) _) ?_
    intro zN2 zN3 zF1
    refine WX.freezeS (ls:=(([] : List Int) ++ ze.fSize) ++ ([z1R] : List Int)) .h5 .here hz (RR.y19 (enc:=e3) (fun _=>rfl) _) ?_
    intro zN4 zF2 zF3
    refine WX.freezeS (ls:=(([] : List Int) ++ ze.fEnd) ++ ([i64 (z4z + (i64 (z1R * ze.fSlow)))] : List Int)) .h3 .here hz (RR.y19 (enc:=e3) (fun _=>rfl) _) ?_
    intro zF4 zvl zF5
    obtain rfl:=Option.some.inj h
    refine WX.yi Try.results32 (.agg rfl y3T rfl (yQ .h1) (.tmp rfl (.tmp rfl .nil))) (fun w hw=>?_)
    exact ⟨zF4,zli,zlj,zpI,zpJ,zvj,zvk,ret3 rfl rfl rfl,⟨(zF1.mono (zF2.trans zvl)),(zF3.mono zvl),zF5⟩,hw.sub (.cons .here .nil)⟩
end Go.Proofs.Ytinchjigeakocaa
