/- A part of this claim's proof: models of functions, walks, plain laws. No conditions. -/
import Derived.Test.YtakfmdiiehcbdaaGreatW03Zi
namespace Go.Proofs.YtakfmdiiehcbdaaGreat
open Go Go.RowKit Sep
set_option linter.all false
set_option maxRecDepth 30000
set_option maxHeartbeats 4000000
def m_law03_CalculusServes (z7a : List z1) (z4Q : List Sapi_Sent) (z8O : Int) (z8P : Int) : Option Bool :=
 if (decide (((z7a.length : Nat) : Int) > 40)) || ((decide (((z4Q.length : Nat) : Int) > 60)) && (decide (((z4Q.length : Nat) : Int) ≤ 4000))) then (m_law03_awake).bind fun zoQ=>some zoQ else (m_calculus_Conforms z7a z4Q).bind fun zbe=>(m_ref03_Conforms z7a z4Q).bind fun zbf=>(m_calculus_Serve z4Q z8O z8P).bind fun z1y=>(m_ref03_Serve z4Q z8O z8P).bind fun z1W=>(if (zbe.1 == zbf.1) && (decide (zbe.2 = zbf.2)) then (m_law03_Ints z1y.1 z1W.1).bind fun zoR=>some zoR else some false).bind fun zf5=>(if zf5 && (decide (z1y.2 = z1W.2)) then (m_law03_awake).bind fun zoS=>some zoS else some false).bind fun zoT=>some zoT
set_option maxRecDepth 20000 in
theorem w_law03_CalculusServes (Z : Zp)  (zbg : Option Addr) (zbh : Nat) (z9j : Option Addr) (z9k : Nat) (z7a : List z1) (z4Q : List Sapi_Sent) (z8O : Int) (z8P : Int) (r : Bool) (w₀ : World) (hz : PZ [] w₀ Z)
  (zti : ZS Z 4 (fun r x=>r = e54 x) zbg zbh z7a)
  (zja : ZS Z 3 (fun r x=>r = e58 x) z9j z9k z4Q)
  (h : m_law03_CalculusServes z7a z4Q z8O z8P = some r) :
  Calls Tryz.prog 3 #[(.slice zbg z7a.length zbh),(.slice z9j z4Q.length z9k),(.int .i64 z8O),(.int .i64 z8P)] w₀ fun e w'=>∃ Zn : Zp,e = .returned (.bool r) ∧ True ∧ Hp [] w₀ w' [fz Zn]:=by
 unfold m_law03_CalculusServes at h
 refine Calls.ofWC (vs:=[(.slice zbg z7a.length zbh),(.slice z9j z4Q.length z9k),(.int .i64 z8O),(.int .i64 z8P)]) (pre:=[]) (env:=[(0,(.slice zbg z7a.length zbh)),(1,(.slice z9j z4Q.length z9k)),(2,(.int .i64 z8O)),(3,(.int .i64 z8P))]) Tryz.func3 rfl Tryz.ntmps3 rfl (Hp.nil w₀ _) rfl ?_
 refine WC.pool ?_
 refine WC.b ?_
 refine WC.a ?_
 refine WL.a (d:=8) rfl rfl rfl (q_z rfl) ?_
 refine WL.nil ?_
 refine WX.a ?_
 refine WC.b ?_
 refine WC.b ?_
 refine WC.a ?_
 refine WL.a (d:=17) rfl rfl rfl (q_m rfl) ?_
 refine WL.a (d:=18) rfl rfl rfl (q_len Tryz.underlying23 rfl) ?_
 refine WL.a (d:=19) rfl rfl rfl (q_gtr rfl rfl) ?_
 refine WL.a (d:=20) rfl rfl rfl (q_m rfl) ?_
 refine WL.cut0 True [(0,(.slice zbg z7a.length zbh)),(1,(.slice z9j z4Q.length z9k)),(2,(.int .i64 z8O)),(3,(.int .i64 z8P)),(29,(.bool ((decide (((z7a.length : Nat) : Int) > 40)) || ((decide (((z4Q.length : Nat) : Int) > 60)) && (decide (((z4Q.length : Nat) : Int) ≤ 4000))))))] [fz []] 9 ?_ (fun _=>?_)
 ·rcases Bool.eq_false_or_eq_true (decide (((z7a.length : Nat) : Int) > 40)) with hb' | hb'
  ·have ztj:=hb'; clear hb'
   refine WL.pin (i:=20) rfl ztj ?_
   refine WL.e rfl rfl rfl ?_
   refine WL.e rfl rfl rfl ?_
   refine WL.e rfl rfl rfl ?_
   refine WL.e rfl rfl rfl ?_
   refine WL.e rfl rfl rfl ?_
   refine WL.e rfl rfl rfl ?_
   refine WL.e rfl rfl rfl ?_
   refine WL.e rfl rfl rfl ?_
   refine WL.a (d:=29) rfl rfl rfl (q_pickT rfl rfl) ?_
   exact WL.cutEnd () trivial (.cons rfl (.cons rfl (.cons rfl (.cons rfl (.cons (zf (or_l ztj)) .nil))))) (.cons .here .nil)
  ·have ztk:=hb'; clear hb'
   refine WL.pin (i:=20) rfl ztk ?_
   refine WL.a (d:=21) rfl rfl rfl (q_m rfl) ?_
   refine WL.a (d:=22) rfl rfl rfl (q_len Tryz.underlying24 rfl) ?_
   refine WL.a (d:=23) rfl rfl rfl (q_gtr rfl rfl) ?_
   refine WL.a (d:=24) rfl rfl rfl (q_m rfl) ?_
   refine WL.cut0 True [(0,(.slice zbg z7a.length zbh)),(1,(.slice z9j z4Q.length z9k)),(2,(.int .i64 z8O)),(3,(.int .i64 z8P)),(20,(.bool false)),(28,(.bool ((decide (((z4Q.length : Nat) : Int) > 60)) && (decide (((z4Q.length : Nat) : Int) ≤ 4000)))))] [fz []] 4 ?_ (fun _=>?_)
   ·rcases Bool.eq_false_or_eq_true (decide (((z4Q.length : Nat) : Int) > 60)) with hb' | hb'
    ·have ztl:=hb'; clear hb'
     refine WL.pin (i:=24) rfl ztl ?_
     refine WL.a (d:=25) rfl rfl rfl (q_m rfl) ?_
     refine WL.a (d:=26) rfl rfl rfl (q_len Tryz.underlying24 rfl) ?_
     refine WL.a (d:=27) rfl rfl rfl (q_leq rfl rfl) ?_
     refine WL.a (d:=28) rfl rfl rfl (q_pickT rfl rfl) ?_
     exact WL.cutEnd () trivial (.cons rfl (.cons rfl (.cons rfl (.cons rfl (.cons rfl (.cons (zf (and_r ztl)) .nil)))))) (.cons .here .nil)
    ·have ztm:=hb'; clear hb'
     refine WL.pin (i:=24) rfl ztm ?_
     refine WL.e rfl rfl rfl ?_
     refine WL.e rfl rfl rfl ?_
     refine WL.e rfl rfl rfl ?_
     refine WL.a (d:=28) rfl rfl rfl (q_pickF rfl rfl) ?_
     exact WL.cutEnd () trivial (.cons rfl (.cons rfl (.cons rfl (.cons rfl (.cons rfl (.cons (zf (and_l ztm)) .nil)))))) (.cons .here .nil)
   ·skip
    refine WL.a (d:=29) rfl rfl rfl (q_pickF rfl rfl) ?_
    exact WL.cutEnd () trivial (.cons rfl (.cons rfl (.cons rfl (.cons rfl (.cons (zf (or_r ztk)) .nil))))) (.cons .here .nil)
 ·skip
  refine WL.nil ?_
  refine WX.a ?_
  refine WC.cond rfl (fun zoU=>?_) (fun zoU=>?_)
  ·replace h:=ite_t h zoU
   refine WC.b ?_
   obtain ⟨zoQ,zBP,h⟩:=z8 h
   refine WC.a ?_
   refine WL.enter1 (dd:=30) rfl rfl rfl (zi (l:=[]) Tryz.call5 .nil) (.nil : Sel [fz []] [] [fz []]) (fun w hw=>by have pz:=(hz.call2 hw (.nil : Sel [fz []] [] [fz []]) .here); exact w_law03_awake (Z:=_)   (r:=zoQ) w pz  zBP) ?_
   rintro zBQ _
   refine WL.merge .here .here ?_
   refine WL.a (d:=8) rfl rfl rfl (q_z rfl) ?_
   refine WL.nil ?_
   refine WX.a ?_
   refine WC.ret ?_
   refine WX.thenRet ?_
   obtain rfl:=Option.some.inj h
   refine WX.bpRet Tryz.results3 (.tmp rfl .nil) (fun w hw=>?_)
   exact ⟨([] ++ zBQ),ret1 rfl,trivial,hw.sub (.cons .here .nil)⟩
  ·replace h:=ite_f h zoU
   refine WC.skip ?_
   refine WX.a ?_
   refine WC.b ?_
   obtain ⟨zbe,zBR,h⟩:=z8 h
   refine WC.a ?_
   refine WL.a (d:=32) rfl rfl rfl (q_m rfl) ?_
   refine WL.a (d:=33) rfl rfl rfl (q_m rfl) ?_
   refine WL.b (dd:=34) rfl rfl rfl (zi (l:=[.tmp 32,.tmp 33]) Tryz.call6 (.cons rfl (.cons rfl .nil))) (.nil : Sel [fz []] [] [fz []]) (fun w hw=>by have pz:=(hz.call2 hw (.nil : Sel [fz []] [] [fz []]) .here); exact w_calculus_Conforms (Z:=_) (z7n:=zbg) (z7o:=zbh) (z7K:=z9j) (z7L:=z9k) (z3t:=z7a) (zN:=z4Q) (r:=zbe) w pz (zti.mono (Zle.left _ _)) (zja.mono (Zle.left _ _)) zBR) ?_
   refine WL.a (d:=31) rfl rfl rfl (q_m rfl) ?_
   refine WL.a (d:=35) rfl rfl rfl (q_extract rfl rfl) ?_
   refine WL.a (d:=36) rfl rfl rfl (q_extract rfl rfl) ?_
   refine WL.a (d:=9) rfl rfl rfl (q_z rfl) ?_
   refine WL.a (d:=10) rfl rfl rfl (q_z rfl) ?_
   refine WL.nil ?_
   refine WX.a ?_
   refine WC.b ?_
   obtain ⟨zbf,zBS,h⟩:=z8 h
   refine WC.a ?_
   refine WL.a (d:=38) rfl rfl rfl (q_m rfl) ?_
   refine WL.a (d:=39) rfl rfl rfl (q_m rfl) ?_
   refine WL.b (dd:=40) rfl rfl rfl (zi (l:=[.tmp 38,.tmp 39]) Tryz.call7 (.cons rfl (.cons rfl .nil))) (.nil : Sel [fz []] [] [fz []]) (fun w hw=>by have pz:=(hz.call2 hw (.nil : Sel [fz []] [] [fz []]) .here); exact w_ref03_Conforms (Z:=_) (z87:=zbg) (z88:=zbh) (z8M:=z9j) (z8N:=z9k) (z3P:=z7a) (z2i:=z4Q) (r:=zbf) w pz (zti.mono (Zle.left _ _)) (zja.mono (Zle.left _ _)) zBS) ?_
   refine WL.a (d:=37) rfl rfl rfl (q_m rfl) ?_
   refine WL.a (d:=41) rfl rfl rfl (q_extract rfl rfl) ?_
   refine WL.a (d:=42) rfl rfl rfl (q_extract rfl rfl) ?_
   refine WL.a (d:=11) rfl rfl rfl (q_z rfl) ?_
   refine WL.a (d:=12) rfl rfl rfl (q_z rfl) ?_
   refine WL.nil ?_
   refine WX.a ?_
   refine WC.b ?_
   obtain ⟨z1y,zBT,h⟩:=z8 h
   refine WC.a ?_
   refine WL.a (d:=44) rfl rfl rfl (q_m rfl) ?_
   refine WL.a (d:=45) rfl rfl rfl (q_m rfl) ?_
   refine WL.a (d:=46) rfl rfl rfl (q_m rfl) ?_
   refine WL.enter2 (dd:=47) rfl rfl rfl (zi (l:=[.tmp 44,.tmp 45,.tmp 46]) Tryz.call8 (.cons rfl (.cons rfl (.cons rfl .nil)))) (.nil : Sel [fz []] [] [fz []]) (fun w hw=>by have pz:=(hz.call2 hw (.nil : Sel [fz []] [] [fz []]) .here); exact w_calculus_Serve (Z:=_) (z8F:=z9j) (z8G:=z9k) (z2b:=z4Q) (z2K:=z8O) (z3k:=z8P) (r:=z1y) w pz (zja.mono (Zle.left _ _)) zBT) ?_
   rintro z3E z3F _
   refine WL.a (d:=43) rfl rfl rfl (q_m rfl) ?_
   refine WL.a (d:=48) rfl rfl rfl (q_extract rfl rfl) ?_
   refine WL.a (d:=49) rfl rfl rfl (q_extract rfl rfl) ?_
   refine WL.a (d:=13) rfl rfl rfl (q_z rfl) ?_
   refine WL.a (d:=14) rfl rfl rfl (q_z rfl) ?_
   refine WL.nil ?_
   refine WX.a ?_
   refine WC.b ?_
   obtain ⟨z1W,zBU,h⟩:=z8 h
   refine WC.a ?_
   refine WL.a (d:=51) rfl rfl rfl (q_m rfl) ?_
   refine WL.a (d:=52) rfl rfl rfl (q_m rfl) ?_
   refine WL.a (d:=53) rfl rfl rfl (q_m rfl) ?_
   refine WL.enter2 (dd:=54) rfl rfl rfl (zi (l:=[.tmp 51,.tmp 52,.tmp 53]) Tryz.call9 (.cons rfl (.cons rfl (.cons rfl .nil)))) (.nil : Sel [row (.slice z3E z1y.1.length z3F) 3 1 (z1y.1.flatMap e3),fz []] [] [row (.slice z3E z1y.1.length z3F) 3 1 (z1y.1.flatMap e3),fz []]) (fun w hw=>by have pz:=(hz.call2 hw (.nil : Sel [row (.slice z3E z1y.1.length z3F) 3 1 (z1y.1.flatMap e3),fz []] [] [row (.slice z3E z1y.1.length z3F) 3 1 (z1y.1.flatMap e3),fz []]) .h1); exact w_ref03_Serve (Z:=_) (z8a:=z9j) (z8b:=z9k) (z36:=z4Q) (z2W:=z8O) (z3D:=z8P) (r:=z1W) w pz (zja.mono (Zle.left _ _)) zBU) ?_
   rintro z4n z4o _
   refine WL.a (d:=50) rfl rfl rfl (q_m rfl) ?_
   refine WL.a (d:=55) rfl rfl rfl (q_extract rfl rfl) ?_
   refine WL.a (d:=56) rfl rfl rfl (q_extract rfl rfl) ?_
   refine WL.a (d:=15) rfl rfl rfl (q_z rfl) ?_
   refine WL.a (d:=16) rfl rfl rfl (q_z rfl) ?_
   refine WL.nil ?_
   refine WX.a ?_
   refine WC.b ?_
   obtain ⟨zf5,ztn,h⟩:=z8 h
   obtain ⟨zoT,zto,h⟩:=z8 h
   refine WC.a ?_
   refine WL.a (d:=57) rfl rfl rfl (q_m rfl) ?_
   refine WL.a (d:=58) rfl rfl rfl (q_m rfl) ?_
   refine WL.a (d:=59) rfl rfl rfl (q_beql Tryz.underlying4 rfl rfl) ?_
   refine WL.a (d:=60) rfl rfl rfl (q_m rfl) ?_
   refine WL.cut0 True [(13,(.slice z3E z1y.1.length z3F)),(14,(.int .i64 z1y.2)),(15,(.slice z4n z1W.1.length z4o)),(16,(.int .i64 z1W.2)),(64,(.bool ((zbe.1 == zbf.1) && (decide (zbe.2 = zbf.2)))))] [row (.slice z4n z1W.1.length z4o) 3 1 (z1W.1.flatMap e3),row (.slice z3E z1y.1.length z3F) 3 1 (z1y.1.flatMap e3),fz []] 4 ?_ (fun _=>?_)
   ·rcases Bool.eq_false_or_eq_true (zbe.1 == zbf.1) with hb' | hb'
    ·have ztp:=hb'; clear hb'
     refine WL.pin (i:=60) rfl ztp ?_
     refine WL.a (d:=61) rfl rfl rfl (q_m rfl) ?_
     refine WL.a (d:=62) rfl rfl rfl (q_m rfl) ?_
     refine WL.a (d:=63) rfl rfl rfl (q_eql rfl rfl) ?_
     refine WL.a (d:=64) rfl rfl rfl (q_pickT rfl rfl) ?_
     exact WL.cutEnd () trivial (.cons rfl (.cons rfl (.cons rfl (.cons rfl (.cons (zf (and_r ztp)) .nil))))) (.cons .here (.cons .here (.cons .here .nil)))
    ·have ztq:=hb'; clear hb'
     refine WL.pin (i:=60) rfl ztq ?_
     refine WL.e rfl rfl rfl ?_
     refine WL.e rfl rfl rfl ?_
     refine WL.e rfl rfl rfl ?_
     refine WL.a (d:=64) rfl rfl rfl (q_pickF rfl rfl) ?_
     exact WL.cutEnd () trivial (.cons rfl (.cons rfl (.cons rfl (.cons rfl (.cons (zf (and_l ztq)) .nil))))) (.cons .here (.cons .here (.cons .here .nil)))
   ·skip
    refine WL.a (d:=65) rfl rfl rfl (q_m rfl) ?_
    refine WL.cut0 True [(14,(.int .i64 z1y.2)),(16,(.int .i64 z1W.2)),(69,(.bool zf5))] [row (.slice z4n z1W.1.length z4o) 3 1 (z1W.1.flatMap e3),row (.slice z3E z1y.1.length z3F) 3 1 (z1y.1.flatMap e3),fz []] 4 ?_ (fun _=>?_)
    ·rcases Bool.eq_false_or_eq_true ((zbe.1 == zbf.1) && (decide (zbe.2 = zbf.2))) with hb' | hb'
     ·have ztr:=hb'; clear hb'
      have zgX:=ite_t ztn ztr
      obtain ⟨zoR,zBV,zgX⟩:=z8 zgX
      replace zgX:=Option.some.inj zgX
      refine WL.pin (i:=65) rfl ztr ?_
      refine WL.a (d:=66) rfl rfl rfl (q_m rfl) ?_
      refine WL.a (d:=67) rfl rfl rfl (q_m rfl) ?_
      refine WL.b (dd:=68) rfl rfl rfl (zi (l:=[.tmp 66,.tmp 67]) Tryz.call10 (.cons rfl (.cons rfl .nil))) (.nil : Sel [row (.slice z4n z1W.1.length z4o) 3 1 (z1W.1.flatMap e3),row (.slice z3E z1y.1.length z3F) 3 1 (z1y.1.flatMap e3),fz []] [] [row (.slice z4n z1W.1.length z4o) 3 1 (z1W.1.flatMap e3),row (.slice z3E z1y.1.length z3F) 3 1 (z1y.1.flatMap e3),fz []]) (fun w hw=>by have pz:=(hz.call2 hw (.nil : Sel [row (.slice z4n z1W.1.length z4o) 3 1 (z1W.1.flatMap e3),row (.slice z3E z1y.1.length z3F) 3 1 (z1y.1.flatMap e3),fz []] [] [row (.slice z4n z1W.1.length z4o) 3 1 (z1W.1.flatMap e3),row (.slice z3E z1y.1.length z3F) 3 1 (z1y.1.flatMap e3),fz []]) .h2).lend hw (.nil : Sel [row (.slice z4n z1W.1.length z4o) 3 1 (z1W.1.flatMap e3),row (.slice z3E z1y.1.length z3F) 3 1 (z1y.1.flatMap e3),fz []] [] [row (.slice z4n z1W.1.length z4o) 3 1 (z1W.1.flatMap e3),row (.slice z3E z1y.1.length z3F) 3 1 (z1y.1.flatMap e3),fz []]) (B:=[row (.slice z3E z1y.1.length z3F) 3 1 (z1y.1.flatMap e3),row (.slice z4n z1W.1.length z4o) 3 1 (z1W.1.flatMap e3)]) (fun _ hx'=>((.cons .h1 (.cons .here .nil)) : Sel _ [row (.slice z3E z1y.1.length z3F) 3 1 (z1y.1.flatMap e3),row (.slice z4n z1W.1.length z4o) 3 1 (z1W.1.flatMap e3)] _).mem hx'); exact w_law03_Ints (Z:=_) (zdv:=z3E) (zdw:=z3F) (zdx:=z4n) (zdy:=z4o) (z5E:=z1y.1) (z6v:=z1W.1) (r:=zoR) w pz (ZA.row (hw.lent (.nil : Sel [row (.slice z4n z1W.1.length z4o) 3 1 (z1W.1.flatMap e3),row (.slice z3E z1y.1.length z3F) 3 1 (z1y.1.flatMap e3),fz []] [] [row (.slice z4n z1W.1.length z4o) 3 1 (z1W.1.flatMap e3),row (.slice z3E z1y.1.length z3F) 3 1 (z1y.1.flatMap e3),fz []]) (B:=[row (.slice z3E z1y.1.length z3F) 3 1 (z1y.1.flatMap e3),row (.slice z4n z1W.1.length z4o) 3 1 (z1W.1.flatMap e3)]) (fun _ hx'=>((.cons .h1 (.cons .here .nil)) : Sel _ [row (.slice z3E z1y.1.length z3F) 3 1 (z1y.1.flatMap e3),row (.slice z4n z1W.1.length z4o) 3 1 (z1W.1.flatMap e3)] _).mem hx') (.head _) _) (RR.flat (enc:=e3) (fun _=>rfl) _) ⟨w,pz.1⟩) (ZA.row (hw.lent (.nil : Sel [row (.slice z4n z1W.1.length z4o) 3 1 (z1W.1.flatMap e3),row (.slice z3E z1y.1.length z3F) 3 1 (z1y.1.flatMap e3),fz []] [] [row (.slice z4n z1W.1.length z4o) 3 1 (z1W.1.flatMap e3),row (.slice z3E z1y.1.length z3F) 3 1 (z1y.1.flatMap e3),fz []]) (B:=[row (.slice z3E z1y.1.length z3F) 3 1 (z1y.1.flatMap e3),row (.slice z4n z1W.1.length z4o) 3 1 (z1W.1.flatMap e3)]) (fun _ hx'=>((.cons .h1 (.cons .here .nil)) : Sel _ [row (.slice z3E z1y.1.length z3F) 3 1 (z1y.1.flatMap e3),row (.slice z4n z1W.1.length z4o) 3 1 (z1W.1.flatMap e3)] _).mem hx') (.tail _ (.head _)) _) (RR.flat (enc:=e3) (fun _=>rfl) _) ⟨w,pz.1⟩) zBV) ?_
      refine WL.a (d:=69) rfl rfl rfl (q_pickT rfl rfl) ?_
      exact WL.cutEnd () trivial (.cons rfl (.cons rfl (.cons (zf zgX) .nil))) (.cons .here (.cons .here (.cons .here .nil)))
     ·have zts:=hb'; clear hb'
      have zoV:=ite_f ztn zts
      replace zoV:=Option.some.inj zoV
      refine WL.pin (i:=65) rfl zts ?_
      refine WL.e rfl rfl rfl ?_
      refine WL.e rfl rfl rfl ?_
      refine WL.e rfl rfl rfl ?_
      refine WL.a (d:=69) rfl rfl rfl (q_pickF rfl rfl) ?_
      exact WL.cutEnd () trivial (.cons rfl (.cons rfl (.cons (zf zoV) .nil))) (.cons .here (.cons .here (.cons .here .nil)))
    ·skip
     refine WL.a (d:=70) rfl rfl rfl (q_m rfl) ?_
     refine WL.cut0 True [(74,(.bool (zf5 && (decide (z1y.2 = z1W.2)))))] [row (.slice z4n z1W.1.length z4o) 3 1 (z1W.1.flatMap e3),row (.slice z3E z1y.1.length z3F) 3 1 (z1y.1.flatMap e3),fz []] 4 ?_ (fun _=>?_)
     ·rcases Bool.eq_false_or_eq_true zf5 with hb' | hb'
      ·have ztt:=hb'; clear hb'
       refine WL.pin (i:=70) rfl ztt ?_
       refine WL.a (d:=71) rfl rfl rfl (q_m rfl) ?_
       refine WL.a (d:=72) rfl rfl rfl (q_m rfl) ?_
       refine WL.a (d:=73) rfl rfl rfl (q_eql rfl rfl) ?_
       refine WL.a (d:=74) rfl rfl rfl (q_pickT rfl rfl) ?_
       exact WL.cutEnd () trivial (.cons (zf (and_r ztt)) .nil) (.cons .here (.cons .here (.cons .here .nil)))
      ·have ztu:=hb'; clear hb'
       refine WL.pin (i:=70) rfl ztu ?_
       refine WL.e rfl rfl rfl ?_
       refine WL.e rfl rfl rfl ?_
       refine WL.e rfl rfl rfl ?_
       refine WL.a (d:=74) rfl rfl rfl (q_pickF rfl rfl) ?_
       exact WL.cutEnd () trivial (.cons (zf (and_l ztu)) .nil) (.cons .here (.cons .here (.cons .here .nil)))
     ·skip
      refine WL.a (d:=75) rfl rfl rfl (q_m rfl) ?_
      refine WL.cut1 (fun (zf6 : Zp)=>Zle (Z ++ []) (Z ++ zf6)) (fun (zf6 : Zp)=>[(77,(.bool zoT))]) (fun (zf6 : Zp)=>[row (.slice z4n z1W.1.length z4o) 3 1 (z1W.1.flatMap e3),row (.slice z3E z1y.1.length z3F) 3 1 (z1y.1.flatMap e3),fz zf6]) 2 ?_ (fun zf6 zEX=>?_)
      ·rcases Bool.eq_false_or_eq_true (zf5 && (decide (z1y.2 = z1W.2))) with hb' | hb'
       ·have ztv:=hb'; clear hb'
        have zgY:=ite_t zto ztv
        obtain ⟨zoS,zBW,zgY⟩:=z8 zgY
        replace zgY:=Option.some.inj zgY
        refine WL.pin (i:=75) rfl ztv ?_
        refine WL.enter1 (dd:=76) rfl rfl rfl (zi (l:=[]) Tryz.call5 .nil) (.nil : Sel [row (.slice z4n z1W.1.length z4o) 3 1 (z1W.1.flatMap e3),row (.slice z3E z1y.1.length z3F) 3 1 (z1y.1.flatMap e3),fz []] [] [row (.slice z4n z1W.1.length z4o) 3 1 (z1W.1.flatMap e3),row (.slice z3E z1y.1.length z3F) 3 1 (z1y.1.flatMap e3),fz []]) (fun w hw=>by have pz:=(hz.call2 hw (.nil : Sel [row (.slice z4n z1W.1.length z4o) 3 1 (z1W.1.flatMap e3),row (.slice z3E z1y.1.length z3F) 3 1 (z1y.1.flatMap e3),fz []] [] [row (.slice z4n z1W.1.length z4o) 3 1 (z1W.1.flatMap e3),row (.slice z3E z1y.1.length z3F) 3 1 (z1y.1.flatMap e3),fz []]) .h2); exact w_law03_awake (Z:=_)   (r:=zoS) w pz  zBW) ?_
        rintro zBX _
        refine WL.merge .here .h2 ?_
        refine WL.a (d:=77) rfl rfl rfl (q_pickT rfl rfl) ?_
        exact WL.cutEnd (G:=Zp) ([] ++ zBX) ((Zle.left _ _).trans (Zle.assoc _ _ _)) (.cons (zf zgY) .nil) (.cons .h1 (.cons .h1 (.cons .here .nil)))
       ·have ztw:=hb'; clear hb'
        have zoW:=ite_f zto ztw
        replace zoW:=Option.some.inj zoW
        refine WL.pin (i:=75) rfl ztw ?_
        refine WL.e rfl rfl rfl ?_
        refine WL.a (d:=77) rfl rfl rfl (q_pickF rfl rfl) ?_
        exact WL.cutEnd (G:=Zp) [] (Zle.refl _) (.cons (zf zoW) .nil) (.cons .here (.cons .here (.cons .here .nil)))
      ·skip
       refine WL.a (d:=8) rfl rfl rfl (q_z rfl) ?_
       refine WL.nil ?_
       refine WX.a ?_
       refine WC.ret ?_
       obtain rfl:=Option.some.inj h
       refine WX.bpRet Tryz.results3 (.tmp rfl .nil) (fun w hw=>?_)
       exact ⟨zf6,ret1 rfl,trivial,hw.sub (.cons .h2 .nil)⟩
end Go.Proofs.YtakfmdiiehcbdaaGreat
