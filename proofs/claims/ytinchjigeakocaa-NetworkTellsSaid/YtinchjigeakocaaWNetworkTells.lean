/- A part of this claim's proof: models of functions, walks, plain laws. No conditions. -/
import Derived.Test.YtinchjigeakocaaW31g
namespace Go.Proofs.Ytinchjigeakocaa
open Go Go.RowKit Sep
set_option linter.all false
set_option maxRecDepth 30000
set_option maxHeartbeats 4000000
def y3u (zW : Sapi_Config) (z6h : Int) (z4U : List (List Sapi_Hop)) (z8B : List zSt) (z6i : Int) : Option Bool :=
 (y50 zW z4U z8B).bind fun zvZ=>if !zvZ then (y4C).bind fun zw0=>some zw0 else (y2m zW z6h z4U z8B).bind fun z6j=>(y3x zW z6h z4U z8B).bind fun z6k=>(y3e z6j.1 z6k.1).bind fun zlw=>(if zlw then (y3e z6j.2.1 z6k.2.1).bind fun zw1=>some zw1 else some false).bind fun zaK=>(if zaK && (decide (z6j.2.2 = z6k.2.2)) then (y3i zW z6h z4U).bind fun zw2=>(y3V zW z6h z4U).bind fun zw3=>some (zw2 == zw3) else some false).bind fun zj6=>(if zj6 then (y2x zW).bind fun zw4=>some (decide (zw4 = (i64 (((zW.fModules.length : Nat) : Int) + ((zW.fSwitches.length : Nat) : Int))))) else some false).bind fun zj7=>(if zj7 then (y20 zW z6i).bind fun zw5=>(y4g zW z6i).bind fun zw6=>some (decide (zw5 = zw6)) else some false).bind fun zj8=>(if zj8 then (y4C).bind fun zw7=>some zw7 else some false).bind fun zqg=>some zqg
set_option maxRecDepth 20000 in
theorem y7e (Z : Zp) (zcn : Option Addr) (zco : Nat) (zcp : Option Addr) (zcq : Nat) (zcr : Option Addr) (zcs : Nat) (zct : Option Addr) (zcu : Nat) (zcv : Option Addr) (zcw : Nat) (zcx : Option Addr) (zcy : Nat) (zcz : Option Addr) (zcA : Nat) (zcB : Option Addr) (zcC : Nat) (zcD : Option Addr) (zcE : Nat) (zj9 : Option Addr) (zja : Nat) (zW : Sapi_Config) (z6h : Int) (z4U : List (List Sapi_Hop)) (z8B : List zSt) (z6i : Int) (r : Bool)
  (h : y3u zW z6h z4U z8B z6i = some r) (w₀ : World) (hz : PZ [] w₀ Z)
  (zaL : ZS Z 4 (y2i Z) zcn zco zW.fModules)
  (zaM : ZS Z 4 (y2R Z) zcp zcq zW.fChannels)
  (zaN : ZS Z 4 (fun r x=>r = e64 x) zcr zcs zW.fSwitches)
  (zaO : ZS Z 4 (fun r x=>r = e62 x) zct zcu zW.fLinks)
  (zaP : ZS Z 7 (y2A Z) zcv zcw zW.fVLs)
  (zaQ : ZS Z 5 (fun r x=>r = y2T x) zcx zcy zW.fHealth)
  (zaR : ZS Z 3 (y2S Z) zcz zcA zW.fCauses)
  (zaS : ZS Z 4 (fun r x=>r = y2U x) zcB zcC zW.fVersions)
  (zjb : ZS Z 1 (p55 Z) zcD zcE z4U)
  (zqh : ZS Z 3 (fun r x=>r = e53 x) zj9 zja z8B) :
  Calls Try.prog 3 #[(.agg #[(.slice zcn zW.fModules.length zco),(.slice zcp zW.fChannels.length zcq),(.slice zcr zW.fSwitches.length zcs),(.slice zct zW.fLinks.length zcu),(.slice zcv zW.fVLs.length zcw),(.slice zcx zW.fHealth.length zcy),(.slice zcz zW.fCauses.length zcA),(.slice zcB zW.fVersions.length zcC)]),(.int .i64 z6h),(.slice zcD z4U.length zcE),(.slice zj9 z8B.length zja),(.int .i64 z6i)] w₀ fun e w'=>∃ Zn : Zp,e = .returned (.bool r) ∧ True ∧ Hp [] w₀ w' [fz Zn]:=by
 unfold y3u at h
 refine Calls.yp (vs:=[(.agg #[(.slice zcn zW.fModules.length zco),(.slice zcp zW.fChannels.length zcq),(.slice zcr zW.fSwitches.length zcs),(.slice zct zW.fLinks.length zcu),(.slice zcv zW.fVLs.length zcw),(.slice zcx zW.fHealth.length zcy),(.slice zcz zW.fCauses.length zcA),(.slice zcB zW.fVersions.length zcC)]),(.int .i64 z6h),(.slice zcD z4U.length zcE),(.slice zj9 z8B.length zja),(.int .i64 z6i)]) (pre:=[]) (env:=[(0,(.agg #[(.slice zcn zW.fModules.length zco),(.slice zcp zW.fChannels.length zcq),(.slice zcr zW.fSwitches.length zcs),(.slice zct zW.fLinks.length zcu),(.slice zcv zW.fVLs.length zcw),(.slice zcx zW.fHealth.length zcy),(.slice zcz zW.fCauses.length zcA),(.slice zcB zW.fVersions.length zcC)])),(1,(.int .i64 z6h)),(2,(.slice zcD z4U.length zcE)),(3,(.slice zj9 z8B.length zja)),(4,(.int .i64 z6i))]) Try.func3 rfl Try.ntmps3 rfl (Hp.nil w₀ _) rfl ?_
 refine WC.pool (WC.b (WC.a ?_))
 refine WL.new (dd:=5) rfl rfl rfl (y1N (cs:=[(.slice zcn zW.fModules.length zco),(.slice zcp zW.fChannels.length zcq),(.slice zcr zW.fSwitches.length zcs),(.slice zct zW.fLinks.length zcu),(.slice zcv zW.fVLs.length zcw),(.slice zcx zW.fHealth.length zcy),(.slice zcz zW.fCauses.length zcA),(.slice zcB zW.fVersions.length zcC)]) rfl rfl) ?_
 intro zjc _
 refine WL.pu rfl (WL.nil (WX.a (WC.b (WC.b ?_))))
 obtain ⟨zvZ,zGK,h⟩:=zg h
 refine WC.a ?_
 refine WL.a (d:=17) rfl rfl rfl (yx y1f rfl (yQ .here) rfl) ?_
 refine WL.pu rfl (WL.pu rfl ?_)
 refine WL.b (dd:=20) rfl rfl rfl (zC (l:=[.tmp 17,.tmp 18,.tmp 19]) Try.call10 (.cons rfl (.cons rfl (.cons rfl .nil)))) .nil (ccz hz .nil .h1 fun w pz ho=>yaa _ _ _ _ _ _ _ _ _ _ _ _ _ _ _ _ _ _ _ _ _ _ _ _ _ zGK w pz ((zaL.mono (Zle.left _ _)).weak (fun _ _ h=>y1u (Zle.left _ _) h)) ((zaM.mono (Zle.left _ _)).weak (fun _ _ h=>y1A (Zle.left _ _) h)) (zaN.mono (Zle.left _ _)) (zaO.mono (Zle.left _ _)) ((zaP.mono (Zle.left _ _)).weak (fun _ _ h=>y1v (Zle.left _ _) h)) (zaQ.mono (Zle.left _ _)) ((zaR.mono (Zle.left _ _)).weak (fun _ _ h=>y1B (Zle.left _ _) h)) (zaS.mono (Zle.left _ _)) ((zjb.mono (Zle.left _ _)).weak (fun _ _ h=>y2G (Zle.left _ _) h)) (zqh.mono (Zle.left _ _))) ?_
 refine WL.pu rfl (WL.nil (WX.a ?_))
 refine WC.cond rfl (fun zqi=>?_) (fun zqi=>?_)
 ·replace h:=ym h zqi
  refine WC.b ?_
  obtain ⟨zw0,zGL,h⟩:=zg h
  refine WC.a ?_
  refine WL.yaY (dd:=22) rfl rfl rfl (zC (l:=[]) Try.call11 .nil) .nil (ccz hz .nil .h1 fun w pz ho=>y7k _ _ zGL w pz ) ?_
  rintro zGM _
  refine WL.merge .here .h1 ?_
  refine WL.pu rfl (WL.nil (WX.a (WC.ret (WX.yj ?_))))
  obtain rfl:=Option.some.inj h
  refine WX.yi Try.results3 (.tmp rfl .nil) (fun w hw=>?_)
  exact ⟨([] ++ zGM),yM rfl,trivial,hw.sub (.cons .here .nil)⟩
 ·replace h:=yn h zqi
  refine WC.skip (WX.a (WC.b ?_))
  obtain ⟨z6j,zGN,h⟩:=zg h
  refine WC.a ?_
  refine WL.a (d:=24) rfl rfl rfl (yx y1f rfl (yQ .here) rfl) ?_
  refine WL.pu rfl (WL.pu rfl (WL.pu rfl ?_))
  refine WL.y91 (dd:=28) rfl rfl rfl (zC (l:=[.tmp 24,.tmp 25,.tmp 26,.tmp 27]) Try.call12 (.cons rfl (.cons rfl (.cons rfl (.cons rfl .nil))))) .nil (ccz hz .nil .h1 fun w pz ho=>y7j _ _ _ _ _ _ _ _ _ _ _ _ _ _ _ _ _ _ _ _ _ _ _ _ _ _ zGN w pz ((zaL.mono (Zle.left _ _)).weak (fun _ _ h=>y1u (Zle.left _ _) h)) ((zaM.mono (Zle.left _ _)).weak (fun _ _ h=>y1A (Zle.left _ _) h)) (zaN.mono (Zle.left _ _)) (zaO.mono (Zle.left _ _)) ((zaP.mono (Zle.left _ _)).weak (fun _ _ h=>y1v (Zle.left _ _) h)) (zaQ.mono (Zle.left _ _)) ((zaR.mono (Zle.left _ _)).weak (fun _ _ h=>y1B (Zle.left _ _) h)) (zaS.mono (Zle.left _ _)) ((zjb.mono (Zle.left _ _)).weak (fun _ _ h=>y2G (Zle.left _ _) h)) (zqh.mono (Zle.left _ _))) ?_
  rintro zGO zGP zGQ zGR _
  refine WL.pu rfl (WL.pu rfl (WL.pu rfl (WL.pu rfl (WL.pu rfl (WL.pu rfl (WL.pu rfl (WL.nil (WX.a (WC.b ?_)))))))))
  obtain ⟨z6k,zGS,h⟩:=zg h
  refine WC.a ?_
  refine WL.a (d:=33) rfl rfl rfl (yx y1f rfl (yQ .h2) rfl) ?_
  refine WL.pu rfl (WL.pu rfl (WL.pu rfl ?_))
  refine WL.yaZ (dd:=37) rfl rfl rfl (zC (l:=[.tmp 33,.tmp 34,.tmp 35,.tmp 36]) Try.call13 (.cons rfl (.cons rfl (.cons rfl (.cons rfl .nil))))) .nil (ccz hz .nil .h3 fun w pz ho=>yac _ _ _ _ _ _ _ _ _ _ _ _ _ _ _ _ _ _ _ _ _ _ _ _ _ _ zGS w pz ((zaL.mono (Zle.left _ _)).weak (fun _ _ h=>y1u (Zle.left _ _) h)) ((zaM.mono (Zle.left _ _)).weak (fun _ _ h=>y1A (Zle.left _ _) h)) (zaN.mono (Zle.left _ _)) (zaO.mono (Zle.left _ _)) ((zaP.mono (Zle.left _ _)).weak (fun _ _ h=>y1v (Zle.left _ _) h)) (zaQ.mono (Zle.left _ _)) ((zaR.mono (Zle.left _ _)).weak (fun _ _ h=>y1B (Zle.left _ _) h)) (zaS.mono (Zle.left _ _)) ((zjb.mono (Zle.left _ _)).weak (fun _ _ h=>y2G (Zle.left _ _) h)) (zqh.mono (Zle.left _ _))) ?_
  rintro zqj zGT zGU zGV zGW _
  refine WL.merge .here .h5 ?_
  refine WL.pu rfl (WL.pu rfl (WL.pu rfl (WL.pu rfl (WL.pu rfl (WL.pu rfl (WL.pu rfl (WL.nil (WX.a (WC.b ?_)))))))))
  obtain ⟨zlw,zGX,h⟩:=zg h
  obtain ⟨zaK,zw8,h⟩:=zg h
  obtain ⟨zj6,zw9,h⟩:=zg h
  obtain ⟨zj7,zwa,h⟩:=zg h
  obtain ⟨zj8,zwb,h⟩:=zg h
  obtain ⟨zqg,zwc,h⟩:=zg h
  refine WC.yI (fun i=>[].contains i) [] rfl ?_
  refine WD.a (i:=0) (d:=41) (by kernel_rfl) rfl z2 z3 rfl rfl rfl (fun _=>q_m rfl) ?_
  refine WD.a (i:=1) (d:=42) (by kernel_rfl) rfl z2 z3 rfl rfl rfl (fun _=>q_m rfl) ?_
  refine WD.c (i:=2) (d:=43) (by kernel_rfl) rfl z2 z3 rfl rfl rfl (zC (l:=[.tmp 41,.tmp 42]) Try.call14 (.cons rfl (.cons rfl .nil))) (cclz hz .nil .here (.cons .h3 (.cons .h1 .nil)) fun w pz ho la=>y5l _ _ _ _ _ _ _ _ zGX w pz (ZA.row (la _ (.head _) _) (RR.y19 (enc:=e50) (fun _=>rfl) _) ⟨w,pz.1⟩) (ZA.row (la _ (.tail _ (.head _)) _) (RR.y19 (enc:=e50) (fun _=>rfl) _) ⟨w,pz.1⟩)) ?_
  refine WD.a (i:=3) (d:=44) (by kernel_rfl) rfl z2 z3 rfl rfl rfl (fun _=>q_m rfl) ?_
  refine WD.mid (fuel':=41) [(1,(.int .i64 z6h)),(2,(.slice zcD z4U.length zcE)),(4,(.int .i64 z6i)),(5,(.pointer (some ⟨zjc,0,none⟩))),(10,(.bool false)),(13,(.int .i64 z6j.2.2)),(16,(.int .i64 z6k.2.2)),(44,(.bool zlw)),(48,(.bool zaK))] (yJ 49 [7,6,5,4,3,2,1,0]) ?_ (fun zwd=>?_)
  rotate_left
  ·rcases Bool.eq_false_or_eq_true zlw with hb' | hb'
   ·have zqk:=hb'; clear hb'
    have zjd:=ym zw8 zqk
    obtain ⟨zw1,zGY,zjd⟩:=zg zjd
    replace zjd:=Option.some.inj zjd
    refine WD.pin (i:=44) rfl zqk ?_
    refine WD.a (i:=4) (d:=45) (by kernel_rfl) rfl z2 z3 rfl rfl rfl (fun _=>q_m rfl) ?_
    refine WD.a (i:=5) (d:=46) (by kernel_rfl) rfl z2 z3 rfl rfl rfl (fun _=>q_m rfl) ?_
    refine WD.c (i:=6) (d:=47) (by kernel_rfl) rfl z2 z3 rfl rfl rfl (zC (l:=[.tmp 45,.tmp 46]) Try.call14 (.cons rfl (.cons rfl .nil))) (cclz hz .nil .here (.cons .h4 (.cons .h2 .nil)) fun w pz ho la=>y5l _ _ _ _ _ _ _ _ zGY w pz (ZA.row (la _ (.head _) _) (RR.y19 (enc:=e50) (fun _=>rfl) _) ⟨w,pz.1⟩) (ZA.row (la _ (.tail _ (.head _)) _) (RR.y19 (enc:=e50) (fun _=>rfl) _) ⟨w,pz.1⟩)) ?_
    refine WD.a (i:=7) (d:=48) (by kernel_rfl) rfl z2 z3 rfl rfl rfl (fun _=>yW rfl rfl) ?_
    refine WD.ys (.cons .here (.cons .here (.cons .here (.cons .here (.cons .here (.cons .here .nil)))))) ?_ zwd
    exact (.cons rfl (.cons rfl (.cons rfl (.cons rfl (.cons rfl (.cons rfl (.cons rfl (.cons (z7 (Eq.symm zqk)) (.cons (z7 zjd) .nil)))))))))
   ·have zql:=hb'; clear hb'
    have zqm:=yn zw8 zql
    replace zqm:=Option.some.inj zqm
    refine WD.pin (i:=44) rfl zql ?_
    refine WD.b (i:=4) (d:=45) (by kernel_rfl) rfl z2 z3 rfl rfl rfl ?_
    refine WD.b (i:=5) (d:=46) (by kernel_rfl) rfl z2 z3 rfl rfl rfl ?_
    refine WD.b (i:=6) (d:=47) (by kernel_rfl) rfl z2 z3 rfl rfl rfl ?_
    refine WD.a (i:=7) (d:=48) (by kernel_rfl) rfl z2 z3 rfl rfl rfl (fun _=>yX rfl rfl) ?_
    refine WD.ys (.cons .here (.cons .here (.cons .here (.cons .here (.cons .here (.cons .here .nil)))))) ?_ zwd
    exact (.cons rfl (.cons rfl (.cons rfl (.cons rfl (.cons rfl (.cons rfl (.cons rfl (.cons (z7 (Eq.symm zql)) (.cons (z7 zqm) .nil)))))))))
  refine WD.d #[true,true,true,true,true,true,true,true,false,false,false,false,false,false,false,false,false,false,false,false,false,false,false,false,false,false,false,false,false,false,false,false,false,false,false,false,false,false,false,false,false,false,false,false,false,false,false,false,false] (by kernel_rfl) ?_
  refine WD.a (i:=8) (d:=49) (by kernel_rfl) rfl z2 z3 rfl rfl rfl (fun _=>q_m rfl) ?_
  refine WD.mid (fuel':=36) [(1,(.int .i64 z6h)),(2,(.slice zcD z4U.length zcE)),(4,(.int .i64 z6i)),(5,(.pointer (some ⟨zjc,0,none⟩))),(10,(.bool false)),(49,(.bool zaK)),(53,(.bool (zaK && (decide (z6j.2.2 = z6k.2.2)))))] (yJ 49 [12,11,10,9,8,7,6,5,4,3,2,1,0]) ?_ (fun zwe=>?_)
  rotate_left
  ·rcases Bool.eq_false_or_eq_true zaK with hb' | hb'
   ·have zqn:=hb'; clear hb'
    refine WD.pin (i:=49) rfl zqn ?_
    refine WD.a (i:=9) (d:=50) (by kernel_rfl) rfl z2 z3 rfl rfl rfl (fun _=>q_m rfl) ?_
    refine WD.a (i:=10) (d:=51) (by kernel_rfl) rfl z2 z3 rfl rfl rfl (fun _=>q_m rfl) ?_
    refine WD.a (i:=11) (d:=52) (by kernel_rfl) rfl z2 z3 rfl rfl rfl (fun _=>y5d rfl rfl) ?_
    refine WD.a (i:=12) (d:=53) (by kernel_rfl) rfl z2 z3 rfl rfl rfl (fun _=>yW rfl rfl) ?_
    refine WD.ys (.cons .here (.cons .here (.cons .here (.cons .here (.cons .here (.cons .here .nil)))))) ?_ zwe
    exact (.cons rfl (.cons rfl (.cons rfl (.cons rfl (.cons rfl (.cons (z7 (Eq.symm zqn)) (.cons (z7 (y1H zqn)) .nil)))))))
   ·have zqo:=hb'; clear hb'
    refine WD.pin (i:=49) rfl zqo ?_
    refine WD.b (i:=9) (d:=50) (by kernel_rfl) rfl z2 z3 rfl rfl rfl ?_
    refine WD.b (i:=10) (d:=51) (by kernel_rfl) rfl z2 z3 rfl rfl rfl ?_
    refine WD.b (i:=11) (d:=52) (by kernel_rfl) rfl z2 z3 rfl rfl rfl ?_
    refine WD.a (i:=12) (d:=53) (by kernel_rfl) rfl z2 z3 rfl rfl rfl (fun _=>yX rfl rfl) ?_
    refine WD.ys (.cons .here (.cons .here (.cons .here (.cons .here (.cons .here (.cons .here .nil)))))) ?_ zwe
    exact (.cons rfl (.cons rfl (.cons rfl (.cons rfl (.cons rfl (.cons (z7 (Eq.symm zqo)) (.cons (z7 (y1G zqo)) .nil)))))))
  refine WD.d #[true,true,true,true,true,true,true,true,true,true,true,true,true,false,false,false,false,false,false,false,false,false,false,false,false,false,false,false,false,false,false,false,false,false,false,false,false,false,false,false,false,false,false,false,false,false,false,false,false] (by kernel_rfl) ?_
  refine WD.a (i:=13) (d:=54) (by kernel_rfl) rfl z2 z3 rfl rfl rfl (fun _=>q_m rfl) ?_
  refine WD.mid (fuel':=25) [(4,(.int .i64 z6i)),(5,(.pointer (some ⟨zjc,0,none⟩))),(10,(.bool false)),(54,(.bool (zaK && (decide (z6j.2.2 = z6k.2.2))))),(64,(.bool zj6))] (yJ 49 [23,22,21,20,19,18,17,16,15,14,13,12,11,10,9,8,7,6,5,4,3,2,1,0]) ?_ (fun zwf=>?_)
  rotate_left
  ·rcases Bool.eq_false_or_eq_true (zaK && (decide (z6j.2.2 = z6k.2.2))) with hb' | hb'
   ·have zqp:=hb'; clear hb'
    have zcF:=ym zw9 zqp
    obtain ⟨zw2,zGZ,zcF⟩:=zg zcF
    obtain ⟨zw3,zH0,zcF⟩:=zg zcF
    replace zcF:=Option.some.inj zcF
    refine WD.pin (i:=54) rfl zqp ?_
    refine WD.e (i:=14) (d:=55) (by kernel_rfl) rfl z2 z3 rfl rfl rfl (yx y1f rfl (yQ .h5) rfl) ?_
    refine WD.a (i:=15) (d:=56) (by kernel_rfl) rfl z2 z3 rfl rfl rfl (fun _=>q_m rfl) ?_
    refine WD.a (i:=16) (d:=57) (by kernel_rfl) rfl z2 z3 rfl rfl rfl (fun _=>q_m rfl) ?_
    refine WD.c (i:=17) (d:=58) (by kernel_rfl) rfl z2 z3 rfl rfl rfl (zC (l:=[.tmp 55,.tmp 56,.tmp 57]) Try.call15 (.cons rfl (.cons rfl (.cons rfl .nil)))) (ccz hz .nil .here fun w pz ho=>y6g _ _ _ _ _ _ _ _ _ _ _ _ _ _ _ _ _ _ _ _ _ _ _ zGZ w pz ((zaL.mono ((Zle.left _ _).trans ((Zle.left _ _).trans (Zle.yh _ _ _)))).weak (fun _ _ h=>y1u ((Zle.left _ _).trans ((Zle.left _ _).trans (Zle.yh _ _ _))) h)) ((zaM.mono ((Zle.left _ _).trans ((Zle.left _ _).trans (Zle.yh _ _ _)))).weak (fun _ _ h=>y1A ((Zle.left _ _).trans ((Zle.left _ _).trans (Zle.yh _ _ _))) h)) (zaN.mono ((Zle.left _ _).trans ((Zle.left _ _).trans (Zle.yh _ _ _)))) (zaO.mono ((Zle.left _ _).trans ((Zle.left _ _).trans (Zle.yh _ _ _)))) ((zaP.mono ((Zle.left _ _).trans ((Zle.left _ _).trans (Zle.yh _ _ _)))).weak (fun _ _ h=>y1v ((Zle.left _ _).trans ((Zle.left _ _).trans (Zle.yh _ _ _))) h)) (zaQ.mono ((Zle.left _ _).trans ((Zle.left _ _).trans (Zle.yh _ _ _)))) ((zaR.mono ((Zle.left _ _).trans ((Zle.left _ _).trans (Zle.yh _ _ _)))).weak (fun _ _ h=>y1B ((Zle.left _ _).trans ((Zle.left _ _).trans (Zle.yh _ _ _))) h)) (zaS.mono ((Zle.left _ _).trans ((Zle.left _ _).trans (Zle.yh _ _ _)))) ((zjb.mono ((Zle.left _ _).trans ((Zle.left _ _).trans (Zle.yh _ _ _)))).weak (fun _ _ h=>y2G ((Zle.left _ _).trans ((Zle.left _ _).trans (Zle.yh _ _ _))) h))) ?_
    refine WD.e (i:=18) (d:=59) (by kernel_rfl) rfl z2 z3 rfl rfl rfl (yx y1f rfl (yQ .h5) rfl) ?_
    refine WD.a (i:=19) (d:=60) (by kernel_rfl) rfl z2 z3 rfl rfl rfl (fun _=>q_m rfl) ?_
    refine WD.a (i:=20) (d:=61) (by kernel_rfl) rfl z2 z3 rfl rfl rfl (fun _=>q_m rfl) ?_
    refine WD.c (i:=21) (d:=62) (by kernel_rfl) rfl z2 z3 rfl rfl rfl (zC (l:=[.tmp 59,.tmp 60,.tmp 61]) Try.call16 (.cons rfl (.cons rfl (.cons rfl .nil)))) (ccz hz .nil .here fun w pz ho=>y7l _ _ _ _ _ _ _ _ _ _ _ _ _ _ _ _ _ _ _ _ _ _ _ zH0 w pz ((zaL.mono ((Zle.left _ _).trans ((Zle.left _ _).trans (Zle.yh _ _ _)))).weak (fun _ _ h=>y1u ((Zle.left _ _).trans ((Zle.left _ _).trans (Zle.yh _ _ _))) h)) ((zaM.mono ((Zle.left _ _).trans ((Zle.left _ _).trans (Zle.yh _ _ _)))).weak (fun _ _ h=>y1A ((Zle.left _ _).trans ((Zle.left _ _).trans (Zle.yh _ _ _))) h)) (zaN.mono ((Zle.left _ _).trans ((Zle.left _ _).trans (Zle.yh _ _ _)))) (zaO.mono ((Zle.left _ _).trans ((Zle.left _ _).trans (Zle.yh _ _ _)))) ((zaP.mono ((Zle.left _ _).trans ((Zle.left _ _).trans (Zle.yh _ _ _)))).weak (fun _ _ h=>y1v ((Zle.left _ _).trans ((Zle.left _ _).trans (Zle.yh _ _ _))) h)) (zaQ.mono ((Zle.left _ _).trans ((Zle.left _ _).trans (Zle.yh _ _ _)))) ((zaR.mono ((Zle.left _ _).trans ((Zle.left _ _).trans (Zle.yh _ _ _)))).weak (fun _ _ h=>y1B ((Zle.left _ _).trans ((Zle.left _ _).trans (Zle.yh _ _ _))) h)) (zaS.mono ((Zle.left _ _).trans ((Zle.left _ _).trans (Zle.yh _ _ _)))) ((zjb.mono ((Zle.left _ _).trans ((Zle.left _ _).trans (Zle.yh _ _ _)))).weak (fun _ _ h=>y2G ((Zle.left _ _).trans ((Zle.left _ _).trans (Zle.yh _ _ _))) h))) ?_
    refine WD.a (i:=22) (d:=63) (by kernel_rfl) rfl z2 z3 rfl rfl rfl (fun _=>q_beql Try.underlying4 rfl rfl) ?_
    refine WD.a (i:=23) (d:=64) (by kernel_rfl) rfl z2 z3 rfl rfl rfl (fun _=>yW rfl rfl) ?_
    refine WD.ys (.cons .here (.cons .here (.cons .here (.cons .here (.cons .here (.cons .here .nil)))))) ?_ zwf
    exact (.cons rfl (.cons rfl (.cons rfl (.cons (z7 (Eq.symm zqp)) (.cons (z7 zcF) .nil)))))
   ·have zqq:=hb'; clear hb'
    have zqr:=yn zw9 zqq
    replace zqr:=Option.some.inj zqr
    refine WD.pin (i:=54) rfl zqq ?_
    refine WD.b (i:=14) (d:=55) (by kernel_rfl) rfl z2 z3 rfl rfl rfl ?_
    refine WD.b (i:=15) (d:=56) (by kernel_rfl) rfl z2 z3 rfl rfl rfl ?_
    refine WD.b (i:=16) (d:=57) (by kernel_rfl) rfl z2 z3 rfl rfl rfl ?_
    refine WD.b (i:=17) (d:=58) (by kernel_rfl) rfl z2 z3 rfl rfl rfl ?_
    refine WD.b (i:=18) (d:=59) (by kernel_rfl) rfl z2 z3 rfl rfl rfl ?_
    refine WD.b (i:=19) (d:=60) (by kernel_rfl) rfl z2 z3 rfl rfl rfl ?_
    refine WD.b (i:=20) (d:=61) (by kernel_rfl) rfl z2 z3 rfl rfl rfl ?_
    refine WD.b (i:=21) (d:=62) (by kernel_rfl) rfl z2 z3 rfl rfl rfl ?_
    refine WD.b (i:=22) (d:=63) (by kernel_rfl) rfl z2 z3 rfl rfl rfl ?_
    refine WD.a (i:=23) (d:=64) (by kernel_rfl) rfl z2 z3 rfl rfl rfl (fun _=>yX rfl rfl) ?_
    refine WD.ys (.cons .here (.cons .here (.cons .here (.cons .here (.cons .here (.cons .here .nil)))))) ?_ zwf
    exact (.cons rfl (.cons rfl (.cons rfl (.cons (z7 (Eq.symm zqq)) (.cons (z7 zqr) .nil)))))
  refine WD.d #[true,true,true,true,true,true,true,true,true,true,true,true,true,true,true,true,true,true,true,true,true,true,true,true,false,false,false,false,false,false,false,false,false,false,false,false,false,false,false,false,false,false,false,false,false,false,false,false,false] (by kernel_rfl) ?_
  refine WD.a (i:=24) (d:=65) (by kernel_rfl) rfl z2 z3 rfl rfl rfl (fun _=>q_m rfl) ?_
  refine WD.mid (fuel':=13) [(4,(.int .i64 z6i)),(5,(.pointer (some ⟨zjc,0,none⟩))),(10,(.bool false)),(65,(.bool zj6)),(76,(.bool zj7))] (yJ 49 [35,34,33,32,31,30,29,28,27,26,25,24,23,22,21,20,19,18,17,16,15,14,13,12,11,10,9,8,7,6,5,4,3,2,1,0]) ?_ (fun zwg=>?_)
  rotate_left
  ·rcases Bool.eq_false_or_eq_true zj6 with hb' | hb'
   ·have zqs:=hb'; clear hb'
    have zje:=ym zwa zqs
    obtain ⟨zw4,zH1,zje⟩:=zg zje
    replace zje:=Option.some.inj zje
    refine WD.pin (i:=65) rfl zqs ?_
    refine WD.e (i:=25) (d:=66) (by kernel_rfl) rfl z2 z3 rfl rfl rfl (yx y1f rfl (yQ .h5) rfl) ?_
    refine WD.c (i:=26) (d:=67) (by kernel_rfl) rfl z2 z3 rfl rfl rfl (zC (l:=[.tmp 66]) Try.call17 (.cons rfl .nil)) (ccz hz .nil .here fun w pz ho=>y4M _ _ _ _ _ _ _ _ _ _ _ _ _ _ _ _ _ _ _ zH1 w pz ((zaL.mono ((Zle.left _ _).trans ((Zle.left _ _).trans (Zle.yh _ _ _)))).weak (fun _ _ h=>y1u ((Zle.left _ _).trans ((Zle.left _ _).trans (Zle.yh _ _ _))) h)) ((zaM.mono ((Zle.left _ _).trans ((Zle.left _ _).trans (Zle.yh _ _ _)))).weak (fun _ _ h=>y1A ((Zle.left _ _).trans ((Zle.left _ _).trans (Zle.yh _ _ _))) h)) (zaN.mono ((Zle.left _ _).trans ((Zle.left _ _).trans (Zle.yh _ _ _)))) (zaO.mono ((Zle.left _ _).trans ((Zle.left _ _).trans (Zle.yh _ _ _)))) ((zaP.mono ((Zle.left _ _).trans ((Zle.left _ _).trans (Zle.yh _ _ _)))).weak (fun _ _ h=>y1v ((Zle.left _ _).trans ((Zle.left _ _).trans (Zle.yh _ _ _))) h)) (zaQ.mono ((Zle.left _ _).trans ((Zle.left _ _).trans (Zle.yh _ _ _)))) ((zaR.mono ((Zle.left _ _).trans ((Zle.left _ _).trans (Zle.yh _ _ _)))).weak (fun _ _ h=>y1B ((Zle.left _ _).trans ((Zle.left _ _).trans (Zle.yh _ _ _))) h)) (zaS.mono ((Zle.left _ _).trans ((Zle.left _ _).trans (Zle.yh _ _ _))))) ?_
    refine WD.a (i:=27) (d:=68) (by kernel_rfl) rfl z2 z3 rfl rfl rfl (fun _=>ya y1Y rfl rfl) ?_
    refine WD.e (i:=28) (d:=69) (by kernel_rfl) rfl z2 z3 rfl rfl rfl (yb y1Z rfl (yc .h5 rfl)) ?_
    refine WD.a (i:=29) (d:=70) (by kernel_rfl) rfl z2 z3 rfl rfl rfl (fun _=>yz Try.underlying22 rfl) ?_
    refine WD.a (i:=30) (d:=71) (by kernel_rfl) rfl z2 z3 rfl rfl rfl (fun _=>ya y3y rfl rfl) ?_
    refine WD.e (i:=31) (d:=72) (by kernel_rfl) rfl z2 z3 rfl rfl rfl (yb y3z rfl (yc .h5 rfl)) ?_
    refine WD.a (i:=32) (d:=73) (by kernel_rfl) rfl z2 z3 rfl rfl rfl (fun _=>yz Try.underlying24 rfl) ?_
    refine WD.a (i:=33) (d:=74) (by kernel_rfl) rfl z2 z3 rfl rfl rfl (fun _=>y4T rfl rfl rfl) ?_
    refine WD.a (i:=34) (d:=75) (by kernel_rfl) rfl z2 z3 rfl rfl rfl (fun _=>y5d rfl rfl) ?_
    refine WD.a (i:=35) (d:=76) (by kernel_rfl) rfl z2 z3 rfl rfl rfl (fun _=>yW rfl rfl) ?_
    refine WD.ys (.cons .here (.cons .here (.cons .here (.cons .here (.cons .here (.cons .here .nil)))))) ?_ zwg
    exact (.cons rfl (.cons rfl (.cons rfl (.cons (z7 (Eq.symm zqs)) (.cons (z7 zje) .nil)))))
   ·have zqt:=hb'; clear hb'
    have zqu:=yn zwa zqt
    replace zqu:=Option.some.inj zqu
    refine WD.pin (i:=65) rfl zqt ?_
    refine WD.b (i:=25) (d:=66) (by kernel_rfl) rfl z2 z3 rfl rfl rfl ?_
    refine WD.b (i:=26) (d:=67) (by kernel_rfl) rfl z2 z3 rfl rfl rfl ?_
    refine WD.b (i:=27) (d:=68) (by kernel_rfl) rfl z2 z3 rfl rfl rfl ?_
    refine WD.b (i:=28) (d:=69) (by kernel_rfl) rfl z2 z3 rfl rfl rfl ?_
    refine WD.b (i:=29) (d:=70) (by kernel_rfl) rfl z2 z3 rfl rfl rfl ?_
    refine WD.b (i:=30) (d:=71) (by kernel_rfl) rfl z2 z3 rfl rfl rfl ?_
    refine WD.b (i:=31) (d:=72) (by kernel_rfl) rfl z2 z3 rfl rfl rfl ?_
    refine WD.b (i:=32) (d:=73) (by kernel_rfl) rfl z2 z3 rfl rfl rfl ?_
    refine WD.b (i:=33) (d:=74) (by kernel_rfl) rfl z2 z3 rfl rfl rfl ?_
    refine WD.b (i:=34) (d:=75) (by kernel_rfl) rfl z2 z3 rfl rfl rfl ?_
    refine WD.a (i:=35) (d:=76) (by kernel_rfl) rfl z2 z3 rfl rfl rfl (fun _=>yX rfl rfl) ?_
    refine WD.ys (.cons .here (.cons .here (.cons .here (.cons .here (.cons .here (.cons .here .nil)))))) ?_ zwg
    exact (.cons rfl (.cons rfl (.cons rfl (.cons (z7 (Eq.symm zqt)) (.cons (z7 zqu) .nil)))))
  refine WD.d #[true,true,true,true,true,true,true,true,true,true,true,true,true,true,true,true,true,true,true,true,true,true,true,true,true,true,true,true,true,true,true,true,true,true,true,true,false,false,false,false,false,false,false,false,false,false,false,false,false] (by kernel_rfl) ?_
  refine WD.a (i:=36) (d:=77) (by kernel_rfl) rfl z2 z3 rfl rfl rfl (fun _=>q_m rfl) ?_
  refine WD.mid (fuel':=4) [(10,(.bool false)),(77,(.bool zj7)),(85,(.bool zj8))] (yJ 49 [44,43,42,41,40,39,38,37,36,35,34,33,32,31,30,29,28,27,26,25,24,23,22,21,20,19,18,17,16,15,14,13,12,11,10,9,8,7,6,5,4,3,2,1,0]) ?_ (fun zwh=>?_)
  rotate_left
  ·rcases Bool.eq_false_or_eq_true zj7 with hb' | hb'
   ·have zqv:=hb'; clear hb'
    have zcG:=ym zwb zqv
    obtain ⟨zw5,zH2,zcG⟩:=zg zcG
    obtain ⟨zw6,zH3,zcG⟩:=zg zcG
    replace zcG:=Option.some.inj zcG
    refine WD.pin (i:=77) rfl zqv ?_
    refine WD.e (i:=37) (d:=78) (by kernel_rfl) rfl z2 z3 rfl rfl rfl (yx y1f rfl (yQ .h5) rfl) ?_
    refine WD.a (i:=38) (d:=79) (by kernel_rfl) rfl z2 z3 rfl rfl rfl (fun _=>q_m rfl) ?_
    refine WD.c (i:=39) (d:=80) (by kernel_rfl) rfl z2 z3 rfl rfl rfl (zC (l:=[.tmp 78,.tmp 79]) Try.call18 (.cons rfl (.cons rfl .nil))) (ccz hz .nil .here fun w pz ho=>y5s _ _ _ _ _ _ _ _ _ _ _ _ _ _ _ _ _ _ _ _ zH2 w pz ((zaL.mono ((Zle.left _ _).trans ((Zle.left _ _).trans (Zle.yh _ _ _)))).weak (fun _ _ h=>y1u ((Zle.left _ _).trans ((Zle.left _ _).trans (Zle.yh _ _ _))) h)) ((zaM.mono ((Zle.left _ _).trans ((Zle.left _ _).trans (Zle.yh _ _ _)))).weak (fun _ _ h=>y1A ((Zle.left _ _).trans ((Zle.left _ _).trans (Zle.yh _ _ _))) h)) (zaN.mono ((Zle.left _ _).trans ((Zle.left _ _).trans (Zle.yh _ _ _)))) (zaO.mono ((Zle.left _ _).trans ((Zle.left _ _).trans (Zle.yh _ _ _)))) ((zaP.mono ((Zle.left _ _).trans ((Zle.left _ _).trans (Zle.yh _ _ _)))).weak (fun _ _ h=>y1v ((Zle.left _ _).trans ((Zle.left _ _).trans (Zle.yh _ _ _))) h)) (zaQ.mono ((Zle.left _ _).trans ((Zle.left _ _).trans (Zle.yh _ _ _)))) ((zaR.mono ((Zle.left _ _).trans ((Zle.left _ _).trans (Zle.yh _ _ _)))).weak (fun _ _ h=>y1B ((Zle.left _ _).trans ((Zle.left _ _).trans (Zle.yh _ _ _))) h)) (zaS.mono ((Zle.left _ _).trans ((Zle.left _ _).trans (Zle.yh _ _ _))))) ?_
    refine WD.e (i:=40) (d:=81) (by kernel_rfl) rfl z2 z3 rfl rfl rfl (yx y1f rfl (yQ .h5) rfl) ?_
    refine WD.a (i:=41) (d:=82) (by kernel_rfl) rfl z2 z3 rfl rfl rfl (fun _=>q_m rfl) ?_
    refine WD.c (i:=42) (d:=83) (by kernel_rfl) rfl z2 z3 rfl rfl rfl (zC (l:=[.tmp 81,.tmp 82]) Try.call19 (.cons rfl (.cons rfl .nil))) (ccz hz .nil .here fun w pz ho=>y7H _ _ _ _ _ _ _ _ _ _ _ _ _ _ _ _ _ _ _ _ zH3 w pz ((zaL.mono ((Zle.left _ _).trans ((Zle.left _ _).trans (Zle.yh _ _ _)))).weak (fun _ _ h=>y1u ((Zle.left _ _).trans ((Zle.left _ _).trans (Zle.yh _ _ _))) h)) ((zaM.mono ((Zle.left _ _).trans ((Zle.left _ _).trans (Zle.yh _ _ _)))).weak (fun _ _ h=>y1A ((Zle.left _ _).trans ((Zle.left _ _).trans (Zle.yh _ _ _))) h)) (zaN.mono ((Zle.left _ _).trans ((Zle.left _ _).trans (Zle.yh _ _ _)))) (zaO.mono ((Zle.left _ _).trans ((Zle.left _ _).trans (Zle.yh _ _ _)))) ((zaP.mono ((Zle.left _ _).trans ((Zle.left _ _).trans (Zle.yh _ _ _)))).weak (fun _ _ h=>y1v ((Zle.left _ _).trans ((Zle.left _ _).trans (Zle.yh _ _ _))) h)) (zaQ.mono ((Zle.left _ _).trans ((Zle.left _ _).trans (Zle.yh _ _ _)))) ((zaR.mono ((Zle.left _ _).trans ((Zle.left _ _).trans (Zle.yh _ _ _)))).weak (fun _ _ h=>y1B ((Zle.left _ _).trans ((Zle.left _ _).trans (Zle.yh _ _ _))) h)) (zaS.mono ((Zle.left _ _).trans ((Zle.left _ _).trans (Zle.yh _ _ _))))) ?_
    refine WD.a (i:=43) (d:=84) (by kernel_rfl) rfl z2 z3 rfl rfl rfl (fun _=>y9C rfl rfl) ?_
    refine WD.a (i:=44) (d:=85) (by kernel_rfl) rfl z2 z3 rfl rfl rfl (fun _=>yW rfl rfl) ?_
    refine WD.ys (.cons .here (.cons .here (.cons .here (.cons .here (.cons .here (.cons .here .nil)))))) ?_ zwh
    exact (.cons rfl (.cons (z7 (Eq.symm zqv)) (.cons (z7 zcG) .nil)))
   ·have zqw:=hb'; clear hb'
    have zqx:=yn zwb zqw
    replace zqx:=Option.some.inj zqx
    refine WD.pin (i:=77) rfl zqw ?_
    refine WD.b (i:=37) (d:=78) (by kernel_rfl) rfl z2 z3 rfl rfl rfl ?_
    refine WD.b (i:=38) (d:=79) (by kernel_rfl) rfl z2 z3 rfl rfl rfl ?_
    refine WD.b (i:=39) (d:=80) (by kernel_rfl) rfl z2 z3 rfl rfl rfl ?_
    refine WD.b (i:=40) (d:=81) (by kernel_rfl) rfl z2 z3 rfl rfl rfl ?_
    refine WD.b (i:=41) (d:=82) (by kernel_rfl) rfl z2 z3 rfl rfl rfl ?_
    refine WD.b (i:=42) (d:=83) (by kernel_rfl) rfl z2 z3 rfl rfl rfl ?_
    refine WD.b (i:=43) (d:=84) (by kernel_rfl) rfl z2 z3 rfl rfl rfl ?_
    refine WD.a (i:=44) (d:=85) (by kernel_rfl) rfl z2 z3 rfl rfl rfl (fun _=>yX rfl rfl) ?_
    refine WD.ys (.cons .here (.cons .here (.cons .here (.cons .here (.cons .here (.cons .here .nil)))))) ?_ zwh
    exact (.cons rfl (.cons (z7 (Eq.symm zqw)) (.cons (z7 zqx) .nil)))
  refine WD.d #[true,true,true,true,true,true,true,true,true,true,true,true,true,true,true,true,true,true,true,true,true,true,true,true,true,true,true,true,true,true,true,true,true,true,true,true,true,true,true,true,true,true,true,true,true,false,false,false,false] (by kernel_rfl) ?_
  refine WD.a (i:=45) (d:=86) (by kernel_rfl) rfl z2 z3 rfl rfl rfl (fun _=>q_m rfl) ?_
  refine WD.y6Z (fuel':=1) (fun (zfP : Zp)=>[(10,(.bool false)),(86,(.bool zj8)),(88,(.bool zqg))]) (fun (zfP : Zp)=>[fz zfP,row (.slice zGT z6k.1.length zGU) 50 3 (z6k.1.flatMap e50),row (.slice zGV z6k.2.1.length zGW) 50 3 (z6k.2.1.flatMap e50),row (.slice zGO z6j.1.length zGP) 50 3 (z6j.1.flatMap e50),row (.slice zGQ z6j.2.1.length zGR) 50 3 (z6j.2.1.flatMap e50),stb zjc 31 [(.slice zcn zW.fModules.length zco),(.slice zcp zW.fChannels.length zcq),(.slice zcr zW.fSwitches.length zcs),(.slice zct zW.fLinks.length zcu),(.slice zcv zW.fVLs.length zcw),(.slice zcx zW.fHealth.length zcy),(.slice zcz zW.fCauses.length zcA),(.slice zcB zW.fVersions.length zcC)]]) (fun (zfP : Zp)=>Zle (Z ++ ([] ++ zqj)) (Z ++ zfP)) (yJ 49 [47,46,45,44,43,42,41,40,39,38,37,36,35,34,33,32,31,30,29,28,27,26,25,24,23,22,21,20,19,18,17,16,15,14,13,12,11,10,9,8,7,6,5,4,3,2,1,0]) ?_ (fun zwi=>?_)
  rotate_left
  ·rcases Bool.eq_false_or_eq_true zj8 with hb' | hb'
   ·have zqy:=hb'; clear hb'
    have zjf:=ym zwc zqy
    obtain ⟨zw7,zH4,zjf⟩:=zg zjf
    replace zjf:=Option.some.inj zjf
    refine WD.pin (i:=86) rfl zqy ?_
    refine WD.call1 (i:=46) (dd:=87) rfl (by kernel_rfl) rfl rfl rfl (.inr rfl) (zC (l:=[]) Try.call11 .nil) .nil (ccz hz .nil .here fun w pz ho=>y7k _ _ zH4 w pz ) ?_
    rintro zH5 _
    refine WD.merge .here .here ?_
    refine WD.a (i:=47) (d:=88) (by kernel_rfl) rfl z2 z3 rfl rfl rfl (fun _=>yW rfl rfl) ?_
    refine WD.ys (.cons .here (.cons .here (.cons .here (.cons .here (.cons .here (.cons .here .nil)))))) ?_ (zwi (([] ++ zqj) ++ zH5) ((Zle.left _ _).trans (Zle.yh _ _ _)))
    exact (.cons rfl (.cons (z7 (Eq.symm zqy)) (.cons (z7 zjf) .nil)))
   ·have zqz:=hb'; clear hb'
    have zqA:=yn zwc zqz
    replace zqA:=Option.some.inj zqA
    refine WD.pin (i:=86) rfl zqz ?_
    refine WD.b (i:=46) (d:=87) (by kernel_rfl) rfl z2 z3 rfl rfl rfl ?_
    refine WD.a (i:=47) (d:=88) (by kernel_rfl) rfl z2 z3 rfl rfl rfl (fun _=>yX rfl rfl) ?_
    refine WD.ys (.cons .here (.cons .here (.cons .here (.cons .here (.cons .here (.cons .here .nil)))))) ?_ (zwi ([] ++ zqj) (Zle.refl _))
    exact (.cons rfl (.cons (z7 (Eq.symm zqz)) (.cons (z7 zqA) .nil)))
  intro zfP zOM
  refine WD.d #[true,true,true,true,true,true,true,true,true,true,true,true,true,true,true,true,true,true,true,true,true,true,true,true,true,true,true,true,true,true,true,true,true,true,true,true,true,true,true,true,true,true,true,true,true,true,true,true,false] (by kernel_rfl) ?_
  refine WD.a (i:=48) (d:=10) (by kernel_rfl) rfl z2 z3 rfl rfl rfl (fun _=>q_z rfl) ?_
  refine WD.done (by kernel_rfl) ?_
  refine WX.a (WC.ret ?_)
  obtain rfl:=Option.some.inj h
  refine WX.yi Try.results3 (.tmp rfl .nil) (fun w hw=>?_)
  exact ⟨zfP,yM rfl,trivial,hw.sub (.cons .here .nil)⟩
end Go.Proofs.Ytinchjigeakocaa
