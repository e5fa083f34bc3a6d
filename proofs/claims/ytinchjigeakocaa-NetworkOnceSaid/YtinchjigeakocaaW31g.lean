/- A part of this claim's proof: models of functions, walks, plain laws. No conditions. -/
import Derived.Test.YtinchjigeakocaaW31f
namespace Go.Proofs.Ytinchjigeakocaa
open Go Go.RowKit Sep
set_option linter.all false
set_option maxRecDepth 30000
set_option maxHeartbeats 4000000
def y2c (z1K : List Sapi_Hop) (zK : Sapi_Config) (z7W : (List Int) → Option (List Int)) : Nat → (List Int) → Int → Option (List Int)
 | 0,_,_=>none
 | zk4 + 1,z2j,z24=>if decide (z24 < ((z1K.length : Nat) : Int)) then jp1 (fun (z5J : List Int)=>y2c z1K zK z7W zk4 z5J (i64 (z24 + 1))) fun zgr=>chk ((0 : Int) ≤ z24 ∧ z24 < ((z1K.length : Nat) : Int)) (if decide (((nth z1K z24).fNext) < ((zK.fModules.length : Nat) : Int)) then chk ((((z2j ++ ([((nth z1K z24).fNext)] : List Int)).length : Nat) : Int) * 8 ≤ 140737488355328 ∧ (((z2j ++ ([((nth z1K z24).fNext)] : List Int)).length : Nat) : Int) ≤ 4611686018427387904) (zgr (z2j ++ ([((nth z1K z24).fNext)] : List Int))) else zgr z2j) else z7W z2j
theorem y5y {n : Nat} {z1K : List Sapi_Hop} {zK : Sapi_Config} {z7W : (List Int) → Option (List Int)} {z2j : List Int} {z24 : Int} {r : List Int} (h : y2c z1K zK z7W n z2j z24 = some r) : ∃ m,n = m + 1:=by
 cases n with
 | zero=>cases h
 | succ m=>exact ⟨m,rfl⟩
def y3t (zK : Sapi_Config) (z1K : List Sapi_Hop) : Option (List Int) :=
 jp1 (fun (z6U : List Int)=>some z6U) fun z7W=>y2c z1K zK z7W yt ([] : List Int) 0
set_option maxRecDepth 20000 in
theorem y7H (Z : Zp) (z9Z : Option Addr) (za0 : Nat) (za1 : Option Addr) (za2 : Nat) (za3 : Option Addr) (za4 : Nat) (za5 : Option Addr) (za6 : Nat) (za7 : Option Addr) (za8 : Nat) (za9 : Option Addr) (zaa : Nat) (zab : Option Addr) (zac : Nat) (zad : Option Addr) (zae : Nat) (zc6 : Option Addr) (zc7 : Nat) (zK : Sapi_Config) (z1K : List Sapi_Hop) (r : List Int)
  (h : y3t zK z1K = some r) (w₀ : World) (hz : PZ [] w₀ Z)
  (zyY : ZS Z 4 (y2w Z) z9Z za0 zK.fModules)
  (zyZ : ZS Z 4 (y2S Z) za1 za2 zK.fChannels)
  (zz0 : ZS Z 4 (fun r x=>r = e64 x) za3 za4 zK.fSwitches)
  (zz1 : ZS Z 4 (fun r x=>r = e62 x) za5 za6 zK.fLinks)
  (zz2 : ZS Z 7 (y2F Z) za7 za8 zK.fVLs)
  (zz3 : ZS Z 5 (fun r x=>r = y2Y x) za9 zaa zK.fHealth)
  (zz4 : ZS Z 3 (y2T Z) zab zac zK.fCauses)
  (zz5 : ZS Z 4 (fun r x=>r = y2Z x) zad zae zK.fVersions)
  (zuT : ZS Z 3 (fun r x=>r = e59 x) zc6 zc7 z1K) :
  Calls Try.prog 21 #[(.agg #[(.slice z9Z zK.fModules.length za0),(.slice za1 zK.fChannels.length za2),(.slice za3 zK.fSwitches.length za4),(.slice za5 zK.fLinks.length za6),(.slice za7 zK.fVLs.length za8),(.slice za9 zK.fHealth.length zaa),(.slice zab zK.fCauses.length zac),(.slice zad zK.fVersions.length zae)]),(.slice zc6 z1K.length zc7)] w₀ fun e w'=>∃ zoN : Option Addr,∃ zoO : Nat,e = .returned (.slice zoN r.length zoO) ∧ True ∧ Hp [] w₀ w' [row (.slice zoN r.length zoO) 3 1 (r.flatMap e3)]:=by
 unfold y3t at h
 refine Calls.yo (vs:=[(.agg #[(.slice z9Z zK.fModules.length za0),(.slice za1 zK.fChannels.length za2),(.slice za3 zK.fSwitches.length za4),(.slice za5 zK.fLinks.length za6),(.slice za7 zK.fVLs.length za8),(.slice za9 zK.fHealth.length zaa),(.slice zab zK.fCauses.length zac),(.slice zad zK.fVersions.length zae)]),(.slice zc6 z1K.length zc7)]) (pre:=[]) (env:=[(0,(.agg #[(.slice z9Z zK.fModules.length za0),(.slice za1 zK.fChannels.length za2),(.slice za3 zK.fSwitches.length za4),(.slice za5 zK.fLinks.length za6),(.slice za7 zK.fVLs.length za8),(.slice za9 zK.fHealth.length zaa),(.slice zab zK.fCauses.length zac),(.slice zad zK.fVersions.length zae)])),(1,(.slice zc6 z1K.length zc7))]) Try.func21 rfl Try.ntmps21 rfl (Hp.nil w₀ _) rfl ?_
 refine WC.b (WC.a ?_)
 refine WL.new (dd:=2) rfl rfl rfl (y2h (cs:=[(.slice z9Z zK.fModules.length za0),(.slice za1 zK.fChannels.length za2),(.slice za3 zK.fSwitches.length za4),(.slice za5 zK.fLinks.length za6),(.slice za7 zK.fVLs.length za8),(.slice za9 zK.fHealth.length zaa),(.slice zab zK.fCauses.length zac),(.slice zad zK.fVersions.length zae)]) rfl rfl) ?_
 intro zgs _
 refine WL.pu rfl (WL.nil (WX.a (WC.b (WC.a (WL.pu rfl (WL.nil (WX.a ?_)))))))
 obtain ⟨z7W,zuU,h⟩:=yZ h
 refine WC.y4j (fun (z6U : List Int) (zc8 : Option Addr) (zc9 : Nat)=>(z7W z6U = some r)) (fun (z6U : List Int) (zc8 : Option Addr) (zc9 : Nat)=>[(5,(.slice zc8 z6U.length zc9))]) (fun (z6U : List Int) (zc8 : Option Addr) (zc9 : Nat)=>[row (.slice zc8 z6U.length zc9) 3 1 (z6U.flatMap e3)]) ?_ ?_
 ·skip
  refine WC.b (WC.a (WL.pu rfl ?_))
  refine WL.a (d:=9) rfl rfl rfl (yW Try.underlying55 rfl) ?_
  refine WL.pu rfl (WL.nil (WX.a (WC.block ?_)))
  refine WC.nilRow 3 1 ?_
  refine WC.y6d (fun (zca : Nat) (z2j : List Int) (z24 : Int) (z8D : Option Addr) (z8E : Nat)=>(y2c z1K zK z7W zca z2j z24 = some r)) (fun (zca : Nat) (z2j : List Int) (z24 : Int) (z8D : Option Addr) (z8E : Nat)=>[(2,(.pointer (some ⟨zgs,0,none⟩))),(5,(.slice z8D z2j.length z8E)),(8,(.slice zc6 z1K.length zc7)),(9,(.int .i64 ((z1K.length : Nat) : Int))),(10,(.int .i64 z24))]) (fun (zca : Nat) (z2j : List Int) (z24 : Int) (z8D : Option Addr) (z8E : Nat)=>[row (.slice z8D z2j.length z8E) 3 1 (z2j.flatMap e3),stb zgs 31 [(.slice z9Z zK.fModules.length za0),(.slice za1 zK.fChannels.length za2),(.slice za3 zK.fSwitches.length za4),(.slice za5 zK.fLinks.length za6),(.slice za7 zK.fVLs.length za8),(.slice za9 zK.fHealth.length zaa),(.slice zab zK.fCauses.length zac),(.slice zad zK.fVersions.length zae)]]) (fun (zca : Nat) (z2j : List Int) (z24 : Int) (z8D : Option Addr) (z8E : Nat)=>zca) ⟨yt,([] : List Int),0,none,0⟩ h (.cons rfl (.cons rfl (.cons rfl (.cons rfl (.cons rfl .nil))))) (.cons .here (.cons .here .nil)) ?_
  rintro zca z2j z24 z8D z8E h
  obtain ⟨zk4,rfl⟩:=y5y h
  rw [y2c] at h
  refine WC.b (WC.a (WL.pu rfl (WL.nil (WX.a (WC.b ?_)))))
  refine WC.cond rfl (fun zk5=>?_) (fun zk5=>?_)
  ·replace h:=yl h zk5
   refine WC.skip (WX.a ?_)
   obtain ⟨zgr,zuV,h⟩:=yZ h
   refine WC.y4j (fun (z5J : List Int) (zcb : Option Addr) (zcc : Nat)=>(zgr z5J = some r)) (fun (z5J : List Int) (zcb : Option Addr) (zcc : Nat)=>[(2,(.pointer (some ⟨zgs,0,none⟩))),(5,(.slice zcb z5J.length zcc)),(8,(.slice zc6 z1K.length zc7)),(9,(.int .i64 ((z1K.length : Nat) : Int))),(10,(.int .i64 z24))]) (fun (z5J : List Int) (zcb : Option Addr) (zcc : Nat)=>[row (.slice zcb z5J.length zcc) 3 1 (z5J.flatMap e3),stb zgs 31 [(.slice z9Z zK.fModules.length za0),(.slice za1 zK.fChannels.length za2),(.slice za3 zK.fSwitches.length za4),(.slice za5 zK.fLinks.length za6),(.slice za7 zK.fVLs.length za8),(.slice za9 zK.fHealth.length zaa),(.slice zab zK.fCauses.length zac),(.slice zad zK.fVersions.length zae)]]) ?_ ?_
   ·skip
    refine WC.block (WC.b ?_)
    obtain ⟨zuW,h⟩:=yj h
    refine WC.a ?_
    refine WL.znth (dd:=12) rfl rfl (Z:=Z) (Pr:=(fun r x=>r = e59 x)) y4X rfl rfl zuT zuW ?_
    rintro zz6 zz7 zuX zz8 rfl
    refine WL.a (d:=13) rfl rfl rfl (yN y5X rfl (y3u hz.pv zuX) rfl) ?_
    refine WL.new (dd:=7) rfl rfl rfl (y2d (cs:=[(.int .i64 0),(.int .i64 0),(.int .i64 0)]) y7h rfl) ?_
    intro zz9 _
    refine WL.y1u rfl rfl (y1K y7T rfl rfl rfl .here rfl rfl rfl) ?_
    refine WL.nil (WX.a (WC.b (WC.a ?_)))
    refine WL.a (d:=14) rfl rfl rfl (ya y4k rfl rfl) ?_
    refine WL.a (d:=15) rfl rfl rfl (yb yg rfl (yc .here rfl)) ?_
    refine WL.a (d:=16) rfl rfl rfl (ya y3X rfl rfl) ?_
    refine WL.a (d:=17) rfl rfl rfl (yb y3Y rfl (yc .h2 rfl)) ?_
    refine WL.a (d:=18) rfl rfl rfl (yW Try.underlying22 rfl) ?_
    refine WL.pu rfl (WL.nil (WX.a ?_))
    refine WC.cond rfl (fun zk6=>?_) (fun zk6=>?_)
    ·replace h:=yl h zk6
     obtain ⟨zuY,h⟩:=yj h
     refine WC.a (WL.pu rfl ?_)
     refine WL.a (d:=21) rfl rfl rfl (ya y4k rfl rfl) ?_
     refine WL.a (d:=22) rfl rfl rfl (yb yg rfl (yc .here rfl)) ?_
     refine WL.new (dd:=23) rfl rfl rfl (y18 (cs:=([((nth z1K z24).fNext)] : List Int).flatMap e3) y4Y (Eos.parts (l:=[.tmp 22]) (.cons rfl .nil) [0]) (fun _=>by kernel_rfl) rfl (by unfold maxLen; omega)) ?_
     intro zza _
     refine WL.eff (d:=24) rfl rfl rfl (y4V (enc:=e3) (l1:=z2j) (l2:=([((nth z1K z24).fNext)] : List Int)) y4Y rfl rfl .h2 (fun _=>rfl) rfl rfl (y5k .here) (y58 e3_oc _) zuY) ?_
     rintro ⟨zuZ,zv0⟩ _
     refine WL.pu rfl (WL.nil (WX.yh ?_))
     exact WX.mid (G:=List Int × Option Addr × Nat) ⟨(z2j ++ ([((nth z1K z24).fNext)] : List Int)),zuZ,zv0⟩ h (.cons rfl (.cons rfl (.cons rfl (.cons rfl (.cons rfl .nil))))) (.cons .here (.cons .h2 .nil))
    ·replace h:=ym h zk6
     refine WC.skip (WX.yh ?_)
     exact WX.mid (G:=List Int × Option Addr × Nat) ⟨z2j,z8D,z8E⟩ h (.cons rfl (.cons rfl (.cons rfl (.cons rfl (.cons rfl .nil))))) (.cons .h1 (.cons .h1 .nil))
   ·rintro z5J zcb zcc h
    replace h:=(zuV z5J).symm.trans h
    refine WC.a (WL.pu rfl (WL.pu rfl (WL.nil ?_)))
    exact WX.round (G:=Nat × List Int × Int × Option Addr × Nat) ⟨zk4,z5J,(i64 (z24 + 1)),zcb,zcc⟩ h (Nat.lt_succ_self _) (.cons rfl (.cons rfl (.cons rfl (.cons rfl (.cons rfl .nil))))) (.cons .here (.cons .here .nil))
  ·replace h:=ym h zk5
   refine WC.exit (WX.yd (WX.yd (WX.yy ?_)))
   exact WX.mid (G:=List Int × Option Addr × Nat) ⟨z2j,z8D,z8E⟩ h (.cons rfl .nil) (.cons .here .nil)
 ·rintro z6U zc8 zc9 h
  replace h:=(zuU z6U).symm.trans h
  refine WC.b (WC.a (WL.pu rfl (WL.pu rfl (WL.nil (WX.a (WC.ret ?_))))))
  obtain rfl:=Option.some.inj h
  refine WX.yi Try.results21 (.tmp rfl .nil) (fun w hw=>?_)
  exact ⟨zc8,zc9,y12 rfl,trivial,hw.sub (.cons .here .nil)⟩
end Go.Proofs.Ytinchjigeakocaa
