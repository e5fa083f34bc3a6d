/- A part of this claim's proof: models of functions, walks, plain laws. No conditions. -/
import Derived.Test.YtakfmdiiehcbdaaW03d
namespace Go.Proofs.Ytakfmdiiehcbdaa
open Go Go.RowKit Sep
set_option linter.all false
set_option maxRecDepth 30000
set_option maxHeartbeats 4000000
def m_calculus_search_maxb_R4 (z6O : List (List z1)) (z5U : Sapi_Server) (z3q : z2) (z2p : List z2) (z95 : Int) : Option (Bool × (Nat × List z2 × Int)) :=
 (m_calculus_Backlog_1 (⟨z95⟩ : z2j) z3q z6O z5U).bind fun z3w=>(if decide (((z2p.length : Nat) : Int) = 0) then some true else chk ((0 : Int) ≤ 0 ∧ 0 < ((z2p.length : Nat) : Int)) ((m_rat_Cmp z3w.1 (⟨((nth z2p 0).fN),((nth z2p 0).fD)⟩ : z2)).bind fun zlV=>some (decide (zlV > 0)))).bind fun zlW=>if zlW then some (true,(0,([z3w.1] : List z2),z3w.2.fE)) else some (true,(0,z2p,z3w.2.fE))
def m_calculus_search_maxb (z1F : List (List z1)) (zp : Sapi_Server) (z6O : List (List z1)) (z5U : Sapi_Server) (z1G : List z2) : Option (z2 × Int) :=
 (m_calculus_search_checkb z1F zp z6O z5U z1G).bind fun zeg=>if decide (zeg ≠ 0) then some ((⟨0,0⟩ : z2),zeg) else jp2 (fun (z9B : Int) (z6r : List z2)=>if decide (z9B ≠ 0) then some ((⟨0,0⟩ : z2),z9B) else chk ((0 : Int) ≤ 0 ∧ 0 < ((z6r.length : Nat) : Int)) (some ((⟨((nth z6r 0).fN),((nth z6r 0).fD)⟩ : z2),0))) fun zlX=>(m_calculus_search_pointsb z1F zp z6O z5U z1G).bind fun z1j=>(m_calculus_search_points_1b (Nat × List z2 × Int) (fun (x : z2) (s : Nat × List z2 × Int)=>chk (s.1 = 0) (m_calculus_search_maxb_R4 z6O z5U x s.2.1 s.2.2)) (0,([] : List z2),0) z1F (⟨(⟨z1j.1,z1j.2.1⟩ : z2),(⟨z1j.2.2.1,z1j.2.2.2⟩ : z2)⟩ : Sapi_Server) z6O z5U z1G).bind fun z5V=>zlX z5V.2.2 z5V.2.1
set_option maxRecDepth 20000 in
theorem w_calculus_search_maxb (Z : Zp)  (z1X : Option Addr) (z1Y : Nat) (z1N : Addr) (zcT : Option Addr) (zcU : Nat) (z1O : Addr) (z1Z : Option Addr) (z20 : Nat) (z1F : List (List z1)) (zp : Sapi_Server) (z6O : List (List z1)) (z5U : Sapi_Server) (z1G : List z2) (r : z2 × Int) (w₀ : World) (hz : PZ [] w₀ Z)
  (zlY : ZS Z 1 (p39 Z) z1X z1Y z1F)
  (zhL : ZS Z 1 (p39 Z) zcT zcU z6O)
  (zhM : ZC Z z1N [(.slice zcT z6O.length zcU)])
  (zhN : ZC Z z1O [(.int .i64 z5U.fRate.fN),(.int .i64 z5U.fRate.fD),(.int .i64 z5U.fLatency.fN),(.int .i64 z5U.fLatency.fD)])
  (zlZ : ZS Z 2 (fun r x=>r = e30 x) z1Z z20 z1G)
  (h : m_calculus_search_maxb z1F zp z6O z5U z1G = some r) :
  Calls Try.prog 36 #[(.agg #[(.slice z1X z1F.length z1Y),(.int .i64 zp.fRate.fN),(.int .i64 zp.fRate.fD),(.int .i64 zp.fLatency.fN),(.int .i64 zp.fLatency.fD),(.func (.func 37) #[] #[(.pointer (some z1N)),(.pointer (some z1O))]),(.slice z1Z z1G.length z20)])] w₀ fun e w'=>∃ Zn : Zp,e = .returned (.tuple #[(.agg #[(.int .i64 r.1.fN),(.int .i64 r.1.fD)]),(.int .i64 r.2)]) ∧ True ∧ Hp [] w₀ w' [fz Zn]:=by
 unfold m_calculus_search_maxb at h
 refine Calls.ofWCM (vs:=[(.agg #[(.slice z1X z1F.length z1Y),(.int .i64 zp.fRate.fN),(.int .i64 zp.fRate.fD),(.int .i64 zp.fLatency.fN),(.int .i64 zp.fLatency.fD),(.func (.func 37) #[] #[(.pointer (some z1N)),(.pointer (some z1O))]),(.slice z1Z z1G.length z20)])]) (pre:=[]) (env:=[(0,(.agg #[(.slice z1X z1F.length z1Y),(.int .i64 zp.fRate.fN),(.int .i64 zp.fRate.fD),(.int .i64 zp.fLatency.fN),(.int .i64 zp.fLatency.fD),(.func (.func 37) #[] #[(.pointer (some z1N)),(.pointer (some z1O))]),(.slice z1Z z1G.length z20)]))]) Try.func36 rfl Try.ntmps36 rfl (Hp.nil w₀ _) rfl ?_
 refine WC.pool ?_
 refine WC.b ?_
 refine WC.a ?_
 refine WL.new (dd:=1) rfl rfl rfl (e_box (cs:=[(.slice z1X z1F.length z1Y),(.int .i64 zp.fRate.fN),(.int .i64 zp.fRate.fD),(.int .i64 zp.fLatency.fN),(.int .i64 zp.fLatency.fD),(.func (.func 37) #[] #[(.pointer (some z1N)),(.pointer (some z1O))]),(.slice z1Z z1G.length z20)]) rfl rfl) ?_
 intro z37 _
 refine WL.new (dd:=2) rfl rfl rfl (e_alloc (cs:=[(.int .i64 0),(.int .i64 0)]) zeroT_30 rfl) ?_
 intro z3b _
 refine WL.a (d:=3) rfl rfl rfl (q_z rfl) ?_
 refine WL.nil ?_
 refine WX.a ?_
 refine WC.b ?_
 refine WC.b ?_
 obtain ⟨zeg,zx6,h⟩:=zd h
 refine WC.a ?_
 refine WL.a (d:=9) rfl rfl rfl (q_loadA (cs:=[(.slice z1X z1F.length z1Y),(.int .i64 zp.fRate.fN),(.int .i64 zp.fRate.fD),(.int .i64 zp.fLatency.fN),(.int .i64 zp.fLatency.fD),(.func (.func 37) #[] #[(.pointer (some z1N)),(.pointer (some z1O))]),(.slice z1Z z1G.length z20)]) aggT_79 rfl rfl (rd_all .h1)) ?_
 refine WL.enter1 (dd:=10) rfl rfl rfl (zk (l:=[.tmp 9]) Try.call52 (.cons rfl .nil)) (.nil : Sel [stb z3b 30 [(.int .i64 0),(.int .i64 0)],stb z37 79 [(.slice z1X z1F.length z1Y),(.int .i64 zp.fRate.fN),(.int .i64 zp.fRate.fD),(.int .i64 zp.fLatency.fN),(.int .i64 zp.fLatency.fD),(.func (.func 37) #[] #[(.pointer (some z1N)),(.pointer (some z1O))]),(.slice z1Z z1G.length z20)],fz []] [] [stb z3b 30 [(.int .i64 0),(.int .i64 0)],stb z37 79 [(.slice z1X z1F.length z1Y),(.int .i64 zp.fRate.fN),(.int .i64 zp.fRate.fD),(.int .i64 zp.fLatency.fN),(.int .i64 zp.fLatency.fD),(.func (.func 37) #[] #[(.pointer (some z1N)),(.pointer (some z1O))]),(.slice z1Z z1G.length z20)],fz []]) (fun w hw=>by have pz:=(hz.call2 hw (.nil : Sel [stb z3b 30 [(.int .i64 0),(.int .i64 0)],stb z37 79 [(.slice z1X z1F.length z1Y),(.int .i64 zp.fRate.fN),(.int .i64 zp.fRate.fD),(.int .i64 zp.fLatency.fN),(.int .i64 zp.fLatency.fD),(.func (.func 37) #[] #[(.pointer (some z1N)),(.pointer (some z1O))]),(.slice z1Z z1G.length z20)],fz []] [] [stb z3b 30 [(.int .i64 0),(.int .i64 0)],stb z37 79 [(.slice z1X z1F.length z1Y),(.int .i64 zp.fRate.fN),(.int .i64 zp.fRate.fD),(.int .i64 zp.fLatency.fN),(.int .i64 zp.fLatency.fD),(.func (.func 37) #[] #[(.pointer (some z1N)),(.pointer (some z1O))]),(.slice z1Z z1G.length z20)],fz []]) .h2); exact w_calculus_search_checkb (Z:=_) (z2A:=z1X) (z2B:=z1Y) (z2L:=z1N) (zlr:=zcT) (zls:=zcU) (z2M:=z1O) (z2N:=z1Z) (z2O:=z20) (z1W:=z1F) (zn:=zp) (zfC:=z6O) (zcF:=z5U) (z2z:=z1G) (r:=zeg) w pz ((zlY.mono (Zle.left _ _)).weak (fun _ _ h=>p39_mono (Zle.left _ _) h)) ((zhL.mono (Zle.left _ _)).weak (fun _ _ h=>p39_mono (Zle.left _ _) h)) (zhM.mono (Zle.left _ _)) (zhN.mono (Zle.left _ _)) (zlZ.mono (Zle.left _ _)) zx6) ?_
 rintro z5W _
 refine WL.merge .here .h2 ?_
 refine WL.a (d:=4) rfl rfl rfl (q_z rfl) ?_
 refine WL.nil ?_
 refine WX.a ?_
 refine WC.b ?_
 refine WC.a ?_
 refine WL.a (d:=11) rfl rfl rfl (q_m rfl) ?_
 refine WL.a (d:=12) rfl rfl rfl (q_neq rfl rfl) ?_
 refine WL.nil ?_
 refine WX.a ?_
 refine WC.cond rfl (fun zm0=>?_) (fun zm0=>?_)
 ·replace h:=ite_t h zm0
  refine WC.b ?_
  refine WC.a ?_
  refine WL.a (d:=13) rfl rfl rfl (q_build (v:=(.agg #[(.int .i64 0),(.int .i64 0)])) (Eos.parts (l:=[]) .nil []) (fun _=>by kernel_rfl)) ?_
  refine WL.a (d:=14) rfl rfl rfl (q_m rfl) ?_
  refine WL.eff0 rfl rfl (e_store (vs:=[(.int .i64 0),(.int .i64 0)]) (ds:=[(.int .i64 0),(.int .i64 0)]) sizT_30 rfl rfl rfl rfl (oc_cons rfl (oc_cons rfl oc_nil)) .h1 (Nat.le_of_ble_eq_true rfl) rfl) ?_
  refine WL.a (d:=3) rfl rfl rfl (q_z rfl) ?_
  refine WL.nil ?_
  refine WX.a ?_
  refine WC.ret ?_
  refine WX.thenRet ?_
  obtain rfl:=Option.some.inj h
  refine WX.bpRetM Try.results36 (.agg rfl aggT_30 rfl (rd_all .here) (.tmp rfl .nil)) (fun w hw=>?_)
  exact ⟨([] ++ z5W),ret2 rfl rfl,trivial,hw.sub (.cons .h1 .nil)⟩
 ·replace h:=ite_f h zm0
  refine WC.skip ?_
  refine WX.a ?_
  refine WC.b ?_
  refine WC.a ?_
  refine WL.new (dd:=5) rfl rfl rfl (e_alloc (cs:=[(.int .i64 0)]) zeroT_98 rfl) ?_
  intro z3c _
  refine WL.nil ?_
  refine WX.a ?_
  refine WC.b ?_
  refine WC.a ?_
  refine WL.new (dd:=6) rfl rfl rfl (e_alloc (cs:=[(.slice none 0 0)]) zeroT_77 rfl) ?_
  intro z3l _
  refine WL.nil ?_
  refine WX.a ?_
  obtain ⟨zlX,zx7,h⟩:=jp2_elim h
  refine WC.seqMidR6 (fun (zfQ : Nat) (z9B : Int) (z6r : List z2) (zcV : Zp) (zfR : Option Addr) (zfS : Nat)=>(zlX z9B z6r = some r) ∧ (Zle (Z ++ ([] ++ z5W)) (Z ++ zcV))) (fun (zfQ : Nat) (z9B : Int) (z6r : List z2) (zcV : Zp) (zfR : Option Addr) (zfS : Nat)=>[(2,(.pointer (some ⟨z3b,0,none⟩))),(5,(.pointer (some ⟨z3c,0,none⟩))),(6,(.pointer (some ⟨z3l,0,none⟩)))]) (fun (zfQ : Nat) (z9B : Int) (z6r : List z2) (zcV : Zp) (zfR : Option Addr) (zfS : Nat)=>[fz zcV,stb z3b 30 [(.int .i64 0),(.int .i64 0)],stb z3c 98 [(.int .i64 z9B)],stb z3l 77 [(.slice zfR z6r.length zfS)],row (.slice zfR z6r.length zfS) 30 2 (z6r.flatMap e30),dfr zfQ]) ?_ ?_
  ·skip
   refine WC.b ?_
   obtain ⟨z1j,zx8,h⟩:=zd h
   refine WC.a ?_
   refine WL.a (d:=15) rfl rfl rfl (q_loadA (cs:=[(.slice z1X z1F.length z1Y),(.int .i64 zp.fRate.fN),(.int .i64 zp.fRate.fD),(.int .i64 zp.fLatency.fN),(.int .i64 zp.fLatency.fD),(.func (.func 37) #[] #[(.pointer (some z1N)),(.pointer (some z1O))]),(.slice z1Z z1G.length z20)]) aggT_79 rfl rfl (rd_all .h4)) ?_
   refine WL.enter1 (dd:=16) rfl rfl rfl (zk (l:=[.tmp 15]) Try.call53 (.cons rfl .nil)) (.nil : Sel [stb z3l 77 [(.slice none 0 0)],stb z3c 98 [(.int .i64 0)],fz ([] ++ z5W),stb z3b 30 [(.int .i64 0),(.int .i64 0)],stb z37 79 [(.slice z1X z1F.length z1Y),(.int .i64 zp.fRate.fN),(.int .i64 zp.fRate.fD),(.int .i64 zp.fLatency.fN),(.int .i64 zp.fLatency.fD),(.func (.func 37) #[] #[(.pointer (some z1N)),(.pointer (some z1O))]),(.slice z1Z z1G.length z20)]] [] [stb z3l 77 [(.slice none 0 0)],stb z3c 98 [(.int .i64 0)],fz ([] ++ z5W),stb z3b 30 [(.int .i64 0),(.int .i64 0)],stb z37 79 [(.slice z1X z1F.length z1Y),(.int .i64 zp.fRate.fN),(.int .i64 zp.fRate.fD),(.int .i64 zp.fLatency.fN),(.int .i64 zp.fLatency.fD),(.func (.func 37) #[] #[(.pointer (some z1N)),(.pointer (some z1O))]),(.slice z1Z z1G.length z20)]]) (fun w hw=>by have pz:=(hz.call2 hw (.nil : Sel [stb z3l 77 [(.slice none 0 0)],stb z3c 98 [(.int .i64 0)],fz ([] ++ z5W),stb z3b 30 [(.int .i64 0),(.int .i64 0)],stb z37 79 [(.slice z1X z1F.length z1Y),(.int .i64 zp.fRate.fN),(.int .i64 zp.fRate.fD),(.int .i64 zp.fLatency.fN),(.int .i64 zp.fLatency.fD),(.func (.func 37) #[] #[(.pointer (some z1N)),(.pointer (some z1O))]),(.slice z1Z z1G.length z20)]] [] [stb z3l 77 [(.slice none 0 0)],stb z3c 98 [(.int .i64 0)],fz ([] ++ z5W),stb z3b 30 [(.int .i64 0),(.int .i64 0)],stb z37 79 [(.slice z1X z1F.length z1Y),(.int .i64 zp.fRate.fN),(.int .i64 zp.fRate.fD),(.int .i64 zp.fLatency.fN),(.int .i64 zp.fLatency.fD),(.func (.func 37) #[] #[(.pointer (some z1N)),(.pointer (some z1O))]),(.slice z1Z z1G.length z20)]]) .h2); exact w_calculus_search_pointsb (Z:=_) (zcH:=z1X) (zcI:=z1Y) (zcJ:=z1N) (zlA:=zcT) (zlB:=zcU) (zcK:=z1O) (zcL:=z1Z) (zcM:=z20) (zax:=z1F) (z4V:=zp) (zfG:=z6O) (zcG:=z5U) (zay:=z1G) (r:=z1j) w pz ((zlY.mono ((Zle.left _ _).trans ((Zle.left _ _).trans (Zle.assoc _ _ _)))).weak (fun _ _ h=>p39_mono ((Zle.left _ _).trans ((Zle.left _ _).trans (Zle.assoc _ _ _))) h)) ((zhL.mono ((Zle.left _ _).trans ((Zle.left _ _).trans (Zle.assoc _ _ _)))).weak (fun _ _ h=>p39_mono ((Zle.left _ _).trans ((Zle.left _ _).trans (Zle.assoc _ _ _))) h)) (zhM.mono ((Zle.left _ _).trans ((Zle.left _ _).trans (Zle.assoc _ _ _)))) (zhN.mono ((Zle.left _ _).trans ((Zle.left _ _).trans (Zle.assoc _ _ _)))) (zlZ.mono ((Zle.left _ _).trans ((Zle.left _ _).trans (Zle.assoc _ _ _)))) zx8) ?_
   rintro z6s _
   refine WL.nil ?_
   refine WX.a ?_
   refine WC.block ?_
   refine WC.pool ?_
   refine WC.drop (.cons .here (.cons .h1 (.cons .h1 (.cons .h2 (.cons .h2 (.cons .here (.cons .here .nil))))))) ?_
   refine WC.nilRow 30 2 ?_
   refine WC.rangeFunc (f:=69) (caps:=[(.pointer (some ⟨z6s,0,none⟩))]) rfl Try.call69 ?_
   intro zBb zBc z4b z7I z4x zhO zx9 zxa w hw
   have hw1:=hw.selAll ((.cons .h3 (.cons .h3 (.cons .h2 (.cons .h2 (.cons .h2 (.cons .h2 (.cons .here .nil))))))) : Sel _ [fz [],stb z3l 77 [(.slice none (([] : List z2).length) 0)],row (.slice none (([] : List z2).length) 0) 30 2 (([] : List z2).flatMap e30),stb z3c 98 [(.int .i64 0)],stb z3b 30 [(.int .i64 0),(.int .i64 0)],stb z37 79 [(.slice z1X z1F.length z1Y),(.int .i64 zp.fRate.fN),(.int .i64 zp.fRate.fD),(.int .i64 zp.fLatency.fN),(.int .i64 zp.fLatency.fD),(.func (.func 37) #[] #[(.pointer (some z1N)),(.pointer (some z1O))]),(.slice z1Z z1G.length z20)],blk z4b (z4x .ready none)] _)
   have pz:=(hz.call2 hw1 ((.cons .here .nil) : Sel [allA [fz [],stb z3l 77 [(.slice none (([] : List z2).length) 0)],row (.slice none (([] : List z2).length) 0) 30 2 (([] : List z2).flatMap e30),stb z3c 98 [(.int .i64 0)],stb z3b 30 [(.int .i64 0),(.int .i64 0)],stb z37 79 [(.slice z1X z1F.length z1Y),(.int .i64 zp.fRate.fN),(.int .i64 zp.fRate.fD),(.int .i64 zp.fLatency.fN),(.int .i64 zp.fLatency.fD),(.func (.func 37) #[] #[(.pointer (some z1N)),(.pointer (some z1O))]),(.slice z1Z z1G.length z20)],blk z4b (z4x .ready none)],dfr z7I,stb z6s 79 [(.slice z1X z1F.length z1Y),(.int .i64 z1j.1),(.int .i64 z1j.2.1),(.int .i64 z1j.2.2.1),(.int .i64 z1j.2.2.2),(.func (.func 37) #[] #[(.pointer (some z1N)),(.pointer (some z1O))]),(.slice z1Z z1G.length z20)],fz ([] ++ z5W)] [allA [fz [],stb z3l 77 [(.slice none (([] : List z2).length) 0)],row (.slice none (([] : List z2).length) 0) 30 2 (([] : List z2).flatMap e30),stb z3c 98 [(.int .i64 0)],stb z3b 30 [(.int .i64 0),(.int .i64 0)],stb z37 79 [(.slice z1X z1F.length z1Y),(.int .i64 zp.fRate.fN),(.int .i64 zp.fRate.fD),(.int .i64 zp.fLatency.fN),(.int .i64 zp.fLatency.fD),(.func (.func 37) #[] #[(.pointer (some z1N)),(.pointer (some z1O))]),(.slice z1Z z1G.length z20)],blk z4b (z4x .ready none)]] [dfr z7I,stb z6s 79 [(.slice z1X z1F.length z1Y),(.int .i64 z1j.1),(.int .i64 z1j.2.1),(.int .i64 z1j.2.2.1),(.int .i64 z1j.2.2.2),(.func (.func 37) #[] #[(.pointer (some z1N)),(.pointer (some z1O))]),(.slice z1Z z1G.length z20)],fz ([] ++ z5W)]) .h2).lend hw1 ((.cons .here .nil) : Sel [allA [fz [],stb z3l 77 [(.slice none (([] : List z2).length) 0)],row (.slice none (([] : List z2).length) 0) 30 2 (([] : List z2).flatMap e30),stb z3c 98 [(.int .i64 0)],stb z3b 30 [(.int .i64 0),(.int .i64 0)],stb z37 79 [(.slice z1X z1F.length z1Y),(.int .i64 zp.fRate.fN),(.int .i64 zp.fRate.fD),(.int .i64 zp.fLatency.fN),(.int .i64 zp.fLatency.fD),(.func (.func 37) #[] #[(.pointer (some z1N)),(.pointer (some z1O))]),(.slice z1Z z1G.length z20)],blk z4b (z4x .ready none)],dfr z7I,stb z6s 79 [(.slice z1X z1F.length z1Y),(.int .i64 z1j.1),(.int .i64 z1j.2.1),(.int .i64 z1j.2.2.1),(.int .i64 z1j.2.2.2),(.func (.func 37) #[] #[(.pointer (some z1N)),(.pointer (some z1O))]),(.slice z1Z z1G.length z20)],fz ([] ++ z5W)] [allA [fz [],stb z3l 77 [(.slice none (([] : List z2).length) 0)],row (.slice none (([] : List z2).length) 0) 30 2 (([] : List z2).flatMap e30),stb z3c 98 [(.int .i64 0)],stb z3b 30 [(.int .i64 0),(.int .i64 0)],stb z37 79 [(.slice z1X z1F.length z1Y),(.int .i64 zp.fRate.fN),(.int .i64 zp.fRate.fD),(.int .i64 zp.fLatency.fN),(.int .i64 zp.fLatency.fD),(.func (.func 37) #[] #[(.pointer (some z1N)),(.pointer (some z1O))]),(.slice z1Z z1G.length z20)],blk z4b (z4x .ready none)]] [dfr z7I,stb z6s 79 [(.slice z1X z1F.length z1Y),(.int .i64 z1j.1),(.int .i64 z1j.2.1),(.int .i64 z1j.2.2.1),(.int .i64 z1j.2.2.2),(.func (.func 37) #[] #[(.pointer (some z1N)),(.pointer (some z1O))]),(.slice z1Z z1G.length z20)],fz ([] ++ z5W)]) (B:=[stb z6s 79 [(.slice z1X z1F.length z1Y),(.int .i64 z1j.1),(.int .i64 z1j.2.1),(.int .i64 z1j.2.2.1),(.int .i64 z1j.2.2.2),(.func (.func 37) #[] #[(.pointer (some z1N)),(.pointer (some z1O))]),(.slice z1Z z1G.length z20)]]) (fun _ hx'=>((.cons .h1 .nil) : Sel _ [stb z6s 79 [(.slice z1X z1F.length z1Y),(.int .i64 z1j.1),(.int .i64 z1j.2.1),(.int .i64 z1j.2.2.1),(.int .i64 z1j.2.2.2),(.func (.func 37) #[] #[(.pointer (some z1N)),(.pointer (some z1O))]),(.slice z1Z z1G.length z20)]] _).mem hx')
   obtain ⟨z5V,zxb,h⟩:=zd h
   refine Calls.mono (w_calculus_search_points_1b (Z:=_) (z82:=z4b) (z2C:=(Option Addr × Nat)) (z1B:=(fun (g : Option Addr × Nat) (s : Nat × List z2 × Int)=>allA ([fz [],stb z3l 77 [(.slice g.1 s.2.1.length g.2)],row (.slice g.1 s.2.1.length g.2) 30 2 (s.2.1.flatMap e30),stb z3c 98 [(.int .i64 s.2.2)],stb z3b 30 [(.int .i64 0),(.int .i64 0)],stb z37 79 [(.slice z1X z1F.length z1Y),(.int .i64 zp.fRate.fN),(.int .i64 zp.fRate.fD),(.int .i64 zp.fLatency.fN),(.int .i64 zp.fLatency.fD),(.func (.func 37) #[] #[(.pointer (some z1N)),(.pointer (some z1O))]),(.slice z1Z z1G.length z20)]] ++ [blk z4b (z4x (rdy (pcs [] s.1)) (pcs [] s.1))]))) (z83:=(fun (g : Option Addr × Nat) (s : Nat × List z2 × Int)=>True)) (z7H:=(none,0)) (z94:=⟨z6s,0,none⟩) (zbw:=z1X) (zbx:=z1Y) (zlG:=z1N) (zlH:=zcT) (zlI:=zcU) (zlJ:=z1O) (zfK:=z1Z) (zfL:=z20) (zB:=(Nat × List z2 × Int)) (z49:=(fun (x : z2) (s : Nat × List z2 × Int)=>chk (s.1 = 0) (m_calculus_search_maxb_R4 z6O z5U x s.2.1 s.2.2))) (s0_30244:=(0,([] : List z2),0)) (z4v:=z1F) (zcN:=(⟨(⟨z1j.1,z1j.2.1⟩ : z2),(⟨z1j.2.2.1,z1j.2.2.2⟩ : z2)⟩ : Sapi_Server)) (zfJ:=z6O) (zcO:=z5U) (z1p:=z1G) (r:=z5V) w pz ?_ trivial ((((zlY.mono ((Zle.left _ _).trans ((Zle.left _ _).trans (Zle.assoc _ _ _)))).weak (fun _ _ h=>p39_mono ((Zle.left _ _).trans ((Zle.left _ _).trans (Zle.assoc _ _ _))) h)).mono (Zle.left _ _)).weak (fun _ _ h=>p39_mono (Zle.left _ _) h)) ((((zhL.mono ((Zle.left _ _).trans ((Zle.left _ _).trans (Zle.assoc _ _ _)))).weak (fun _ _ h=>p39_mono ((Zle.left _ _).trans ((Zle.left _ _).trans (Zle.assoc _ _ _))) h)).mono (Zle.left _ _)).weak (fun _ _ h=>p39_mono (Zle.left _ _) h)) ((zhM.mono ((Zle.left _ _).trans ((Zle.left _ _).trans (Zle.assoc _ _ _)))).mono (Zle.left _ _)) ((zhN.mono ((Zle.left _ _).trans ((Zle.left _ _).trans (Zle.assoc _ _ _)))).mono (Zle.left _ _)) ((zlZ.mono ((Zle.left _ _).trans ((Zle.left _ _).trans (Zle.assoc _ _ _)))).mono (Zle.left _ _)) ((hw1.lent ((.cons .here .nil) : Sel [allA [fz [],stb z3l 77 [(.slice none (([] : List z2).length) 0)],row (.slice none (([] : List z2).length) 0) 30 2 (([] : List z2).flatMap e30),stb z3c 98 [(.int .i64 0)],stb z3b 30 [(.int .i64 0),(.int .i64 0)],stb z37 79 [(.slice z1X z1F.length z1Y),(.int .i64 zp.fRate.fN),(.int .i64 zp.fRate.fD),(.int .i64 zp.fLatency.fN),(.int .i64 zp.fLatency.fD),(.func (.func 37) #[] #[(.pointer (some z1N)),(.pointer (some z1O))]),(.slice z1Z z1G.length z20)],blk z4b (z4x .ready none)],dfr z7I,stb z6s 79 [(.slice z1X z1F.length z1Y),(.int .i64 z1j.1),(.int .i64 z1j.2.1),(.int .i64 z1j.2.2.1),(.int .i64 z1j.2.2.2),(.func (.func 37) #[] #[(.pointer (some z1N)),(.pointer (some z1O))]),(.slice z1Z z1G.length z20)],fz ([] ++ z5W)] [allA [fz [],stb z3l 77 [(.slice none (([] : List z2).length) 0)],row (.slice none (([] : List z2).length) 0) 30 2 (([] : List z2).flatMap e30),stb z3c 98 [(.int .i64 0)],stb z3b 30 [(.int .i64 0),(.int .i64 0)],stb z37 79 [(.slice z1X z1F.length z1Y),(.int .i64 zp.fRate.fN),(.int .i64 zp.fRate.fD),(.int .i64 zp.fLatency.fN),(.int .i64 zp.fLatency.fD),(.func (.func 37) #[] #[(.pointer (some z1N)),(.pointer (some z1O))]),(.slice z1Z z1G.length z20)],blk z4b (z4x .ready none)]] [dfr z7I,stb z6s 79 [(.slice z1X z1F.length z1Y),(.int .i64 z1j.1),(.int .i64 z1j.2.1),(.int .i64 z1j.2.2.1),(.int .i64 z1j.2.2.2),(.func (.func 37) #[] #[(.pointer (some z1N)),(.pointer (some z1O))]),(.slice z1Z z1G.length z20)],fz ([] ++ z5W)]) (B:=[stb z6s 79 [(.slice z1X z1F.length z1Y),(.int .i64 z1j.1),(.int .i64 z1j.2.1),(.int .i64 z1j.2.2.1),(.int .i64 z1j.2.2.2),(.func (.func 37) #[] #[(.pointer (some z1N)),(.pointer (some z1O))]),(.slice z1Z z1G.length z20)]]) (fun _ hx'=>((.cons .h1 .nil) : Sel _ [stb z6s 79 [(.slice z1X z1F.length z1Y),(.int .i64 z1j.1),(.int .i64 z1j.2.1),(.int .i64 z1j.2.2.1),(.int .i64 z1j.2.2.2),(.func (.func 37) #[] #[(.pointer (some z1N)),(.pointer (some z1O))]),(.slice z1Z z1G.length z20)]] _).mem hx') (.head _) _).stb) zxb (hw1.owns ((.cons .here .nil) : Sel [allA [fz [],stb z3l 77 [(.slice none (([] : List z2).length) 0)],row (.slice none (([] : List z2).length) 0) 30 2 (([] : List z2).flatMap e30),stb z3c 98 [(.int .i64 0)],stb z3b 30 [(.int .i64 0),(.int .i64 0)],stb z37 79 [(.slice z1X z1F.length z1Y),(.int .i64 zp.fRate.fN),(.int .i64 zp.fRate.fD),(.int .i64 zp.fLatency.fN),(.int .i64 zp.fLatency.fD),(.func (.func 37) #[] #[(.pointer (some z1N)),(.pointer (some z1O))]),(.slice z1Z z1G.length z20)],blk z4b (z4x .ready none)],dfr z7I,stb z6s 79 [(.slice z1X z1F.length z1Y),(.int .i64 z1j.1),(.int .i64 z1j.2.1),(.int .i64 z1j.2.2.1),(.int .i64 z1j.2.2.2),(.func (.func 37) #[] #[(.pointer (some z1N)),(.pointer (some z1O))]),(.slice z1Z z1G.length z20)],fz ([] ++ z5W)] [allA [fz [],stb z3l 77 [(.slice none (([] : List z2).length) 0)],row (.slice none (([] : List z2).length) 0) 30 2 (([] : List z2).flatMap e30),stb z3c 98 [(.int .i64 0)],stb z3b 30 [(.int .i64 0),(.int .i64 0)],stb z37 79 [(.slice z1X z1F.length z1Y),(.int .i64 zp.fRate.fN),(.int .i64 zp.fRate.fD),(.int .i64 zp.fLatency.fN),(.int .i64 zp.fLatency.fD),(.func (.func 37) #[] #[(.pointer (some z1N)),(.pointer (some z1O))]),(.slice z1Z z1G.length z20)],blk z4b (z4x .ready none)]] [dfr z7I,stb z6s 79 [(.slice z1X z1F.length z1Y),(.int .i64 z1j.1),(.int .i64 z1j.2.1),(.int .i64 z1j.2.2.1),(.int .i64 z1j.2.2.2),(.func (.func 37) #[] #[(.pointer (some z1N)),(.pointer (some z1O))]),(.slice z1Z z1G.length z20)],fz ([] ++ z5W)]))) ?_
   ·skip
    refine yieldP_of (LI:=(fun (g : Option Addr × Nat) (s : Nat × List z2 × Int)=>[fz [],stb z3l 77 [(.slice g.1 s.2.1.length g.2)],row (.slice g.1 s.2.1.length g.2) 30 2 (s.2.1.flatMap e30),stb z3c 98 [(.int .i64 s.2.2)],stb z3b 30 [(.int .i64 0),(.int .i64 0)],stb z37 79 [(.slice z1X z1F.length z1Y),(.int .i64 zp.fRate.fN),(.int .i64 zp.fRate.fD),(.int .i64 zp.fLatency.fN),(.int .i64 zp.fLatency.fD),(.func (.func 37) #[] #[(.pointer (some z1N)),(.pointer (some z1O))]),(.slice z1Z z1G.length z20)]])) (pc:=(fun (s : Nat × List z2 × Int)=>pcs [] s.1)) zhO zx9 zxa (fun _ _=>rfl) (by decide) ?_
    rintro z3q _ ⟨z6t,z5k⟩ ⟨zxc,z2p,z95⟩ zxd zxe Fb wb zqg _ hz
    replace hz:=hz.left
    letI : Rnd:=inR z4b
    obtain ⟨hp0,z84⟩:=chk_elim zqg
    replace hp0 : zxc = 0:=hp0; subst hp0; clear zqg
    replace z84 : m_calculus_search_maxb_R4 z6O z5U z3q z2p z95 = some (zxd,zxe):=z84
    unfold m_calculus_search_maxb_R4 at z84
    refine WC.restr (env':=[(1,(.pointer (some ⟨z37,0,none⟩))),(12,(.bool (decide (zeg ≠ 0)))),(5,(.pointer (some ⟨z3c,0,none⟩))),(6,(.pointer (some ⟨z3l,0,none⟩))),(17,(.agg #[(.int .i64 z3q.fN),(.int .i64 z3q.fD)]))]) (.cons rfl (.cons rfl (.cons rfl (.cons rfl (.cons rfl .nil))))) ?_
    refine WC.eqL (L':=[fz [],stb z3l 77 [(.slice z6t z2p.length z5k)],row (.slice z6t z2p.length z5k) 30 2 (z2p.flatMap e30),stb z3c 98 [(.int .i64 z95)],stb z3b 30 [(.int .i64 0),(.int .i64 0)],stb z37 79 [(.slice z1X z1F.length z1Y),(.int .i64 zp.fRate.fN),(.int .i64 zp.fRate.fD),(.int .i64 zp.fLatency.fN),(.int .i64 zp.fLatency.fD),(.func (.func 37) #[] #[(.pointer (some z1N)),(.pointer (some z1O))]),(.slice z1Z z1G.length z20)],blk z4b (z4x .ready none)]) rfl ?_
    refine WC.a ?_
    refine WL.new (dd:=7) rfl rfl rfl (e_alloc (cs:=[(.int .i64 0),(.int .i64 0)]) zeroT_30 rfl) ?_
    intro zaF _
    refine WL.eff0 rfl rfl (e_store (vs:=[(.int .i64 z3q.fN),(.int .i64 z3q.fD)]) (ds:=[(.int .i64 z3q.fN),(.int .i64 z3q.fD)]) sizT_30 rfl rfl rfl rfl (oc_cons rfl (oc_cons rfl oc_nil)) .here (Nat.le_of_ble_eq_true rfl) rfl) ?_
    refine WL.nil ?_
    refine WX.begin zhO .h7 ?_
    refine WC.block ?_
    refine WC.b ?_
    obtain ⟨z3w,zxf,z84⟩:=zd z84
    refine WC.a ?_
    refine WL.a (d:=18) rfl rfl rfl (q_fieldAddr fo_79_2 rfl rfl) ?_
    refine WL.a (d:=19) rfl rfl rfl (q_load1 oneT_76 rfl (rd_stb .h7 rfl)) ?_
    refine WL.a (d:=20) rfl rfl rfl (q_loadA (cs:=[(.int .i64 z3q.fN),(.int .i64 z3q.fD)]) aggT_30 rfl rfl (rd_all .h1)) ?_
    refine WL.b (dd:=21) rfl rfl rfl (run_callv (l:=[.tmp 5,.tmp 20]) Try.call37 rfl (.cons rfl (.cons rfl .nil))) ((.cons .h5 .nil) : Sel [blk z4b (z4x .busy none),stb zaF 30 [(.int .i64 z3q.fN),(.int .i64 z3q.fD)],fz [],stb z3l 77 [(.slice z6t z2p.length z5k)],row (.slice z6t z2p.length z5k) 30 2 (z2p.flatMap e30),stb z3c 98 [(.int .i64 z95)],stb z3b 30 [(.int .i64 0),(.int .i64 0)],stb z37 79 [(.slice z1X z1F.length z1Y),(.int .i64 zp.fRate.fN),(.int .i64 zp.fRate.fD),(.int .i64 zp.fLatency.fN),(.int .i64 zp.fLatency.fD),(.func (.func 37) #[] #[(.pointer (some z1N)),(.pointer (some z1O))]),(.slice z1Z z1G.length z20)]] [stb z3c 98 [(.int .i64 z95)]] [blk z4b (z4x .busy none),stb zaF 30 [(.int .i64 z3q.fN),(.int .i64 z3q.fD)],fz [],stb z3l 77 [(.slice z6t z2p.length z5k)],row (.slice z6t z2p.length z5k) 30 2 (z2p.flatMap e30),stb z3b 30 [(.int .i64 0),(.int .i64 0)],stb z37 79 [(.slice z1X z1F.length z1Y),(.int .i64 zp.fRate.fN),(.int .i64 zp.fRate.fD),(.int .i64 zp.fLatency.fN),(.int .i64 zp.fLatency.fD),(.func (.func 37) #[] #[(.pointer (some z1N)),(.pointer (some z1O))]),(.slice z1Z z1G.length z20)]]) (fun w hw=>by have pz:=(hz.call2 hw ((.cons .h5 .nil) : Sel [blk z4b (z4x .busy none),stb zaF 30 [(.int .i64 z3q.fN),(.int .i64 z3q.fD)],fz [],stb z3l 77 [(.slice z6t z2p.length z5k)],row (.slice z6t z2p.length z5k) 30 2 (z2p.flatMap e30),stb z3c 98 [(.int .i64 z95)],stb z3b 30 [(.int .i64 0),(.int .i64 0)],stb z37 79 [(.slice z1X z1F.length z1Y),(.int .i64 zp.fRate.fN),(.int .i64 zp.fRate.fD),(.int .i64 zp.fLatency.fN),(.int .i64 zp.fLatency.fD),(.func (.func 37) #[] #[(.pointer (some z1N)),(.pointer (some z1O))]),(.slice z1Z z1G.length z20)]] [stb z3c 98 [(.int .i64 z95)]] [blk z4b (z4x .busy none),stb zaF 30 [(.int .i64 z3q.fN),(.int .i64 z3q.fD)],fz [],stb z3l 77 [(.slice z6t z2p.length z5k)],row (.slice z6t z2p.length z5k) 30 2 (z2p.flatMap e30),stb z3b 30 [(.int .i64 0),(.int .i64 0)],stb z37 79 [(.slice z1X z1F.length z1Y),(.int .i64 zp.fRate.fN),(.int .i64 zp.fRate.fD),(.int .i64 zp.fLatency.fN),(.int .i64 zp.fLatency.fD),(.func (.func 37) #[] #[(.pointer (some z1N)),(.pointer (some z1O))]),(.slice z1Z z1G.length z20)]]) .h2); exact w_calculus_Backlog_1 (Z:=_) (z2D:=z3c) (zfO:=z1N) (zhJ:=zcT) (zhK:=zcU) (zfP:=z1O) (z7c:=(⟨z95⟩ : z2j)) (z13:=z3q) (zcS:=z6O) (z5T:=z5U) (r:=z3w) w pz ((zhL.mono ((Zle.left _ _).trans ((Zle.left _ _).trans ((Zle.assoc _ _ _).trans (Zle.left _ _))))).weak (fun _ _ h=>p39_mono ((Zle.left _ _).trans ((Zle.left _ _).trans ((Zle.assoc _ _ _).trans (Zle.left _ _)))) h)) (zhM.mono ((Zle.left _ _).trans ((Zle.left _ _).trans ((Zle.assoc _ _ _).trans (Zle.left _ _))))) (zhN.mono ((Zle.left _ _).trans ((Zle.left _ _).trans ((Zle.assoc _ _ _).trans (Zle.left _ _))))) zxf (hw.owns ((.cons .h5 .nil) : Sel [blk z4b (z4x .busy none),stb zaF 30 [(.int .i64 z3q.fN),(.int .i64 z3q.fD)],fz [],stb z3l 77 [(.slice z6t z2p.length z5k)],row (.slice z6t z2p.length z5k) 30 2 (z2p.flatMap e30),stb z3c 98 [(.int .i64 z95)],stb z3b 30 [(.int .i64 0),(.int .i64 0)],stb z37 79 [(.slice z1X z1F.length z1Y),(.int .i64 zp.fRate.fN),(.int .i64 zp.fRate.fD),(.int .i64 zp.fLatency.fN),(.int .i64 zp.fLatency.fD),(.func (.func 37) #[] #[(.pointer (some z1N)),(.pointer (some z1O))]),(.slice z1Z z1G.length z20)]] [stb z3c 98 [(.int .i64 z95)]] [blk z4b (z4x .busy none),stb zaF 30 [(.int .i64 z3q.fN),(.int .i64 z3q.fD)],fz [],stb z3l 77 [(.slice z6t z2p.length z5k)],row (.slice z6t z2p.length z5k) 30 2 (z2p.flatMap e30),stb z3b 30 [(.int .i64 0),(.int .i64 0)],stb z37 79 [(.slice z1X z1F.length z1Y),(.int .i64 zp.fRate.fN),(.int .i64 zp.fRate.fD),(.int .i64 zp.fLatency.fN),(.int .i64 zp.fLatency.fD),(.func (.func 37) #[] #[(.pointer (some z1N)),(.pointer (some z1O))]),(.slice z1Z z1G.length z20)]]))) ?_
    refine WL.new (dd:=8) rfl rfl rfl (e_alloc (cs:=[(.int .i64 0),(.int .i64 0)]) zeroT_30 rfl) ?_
    intro zm1 _
    refine WL.eff0 rfl rfl (e_store (vs:=[(.int .i64 z3w.1.fN),(.int .i64 z3w.1.fD)]) (ds:=[(.int .i64 z3w.1.fN),(.int .i64 z3w.1.fD)]) sizT_30 rfl rfl rfl rfl (oc_cons rfl (oc_cons rfl oc_nil)) .here (Nat.le_of_ble_eq_true rfl) rfl) ?_
    refine WL.nil ?_
    refine WX.a ?_
    refine WC.b ?_
    obtain ⟨zlW,zqh,z84⟩:=zd z84
    refine WC.draw (fun i=>[].contains i) [] rfl ?_
    refine WD.e (i:=0) (d:=22) (by kernel_rfl) rfl (z6 (by kernel_rfl)) (z7 (by kernel_rfl)) rfl rfl rfl (q_load1 oneT_77 rfl (rd_stb .h5 rfl)) ?_
    refine WD.a (i:=1) (d:=23) (by kernel_rfl) rfl (z6 (by kernel_rfl)) (z7 (by kernel_rfl)) rfl rfl rfl (fun _=>q_len Try.underlying77 rfl) ?_
    refine WD.a (i:=2) (d:=24) (by kernel_rfl) rfl (z6 (by kernel_rfl)) (z7 (by kernel_rfl)) rfl rfl rfl (fun _=>q_eql rfl rfl) ?_
    refine WD.a (i:=3) (d:=25) (by kernel_rfl) rfl (z6 (by kernel_rfl)) (z7 (by kernel_rfl)) rfl rfl rfl (fun _=>q_m rfl) ?_
    refine WD.mid (fuel':=0) [(1,(.pointer (some ⟨z37,0,none⟩))),(12,(.bool (decide (zeg ≠ 0)))),(5,(.pointer (some ⟨z3c,0,none⟩))),(6,(.pointer (some ⟨z3l,0,none⟩))),(17,(.agg #[(.int .i64 z3q.fN),(.int .i64 z3q.fD)])),(7,(.pointer (some ⟨zaF,0,none⟩))),(18,(.pointer (some ⟨z37,5,none⟩))),(19,(.func (.func 37) #[] #[(.pointer (some z1N)),(.pointer (some z1O))])),(20,(.agg #[(.int .i64 z3q.fN),(.int .i64 z3q.fD)])),(21,(.agg #[(.int .i64 z3w.1.fN),(.int .i64 z3w.1.fD)])),(8,(.pointer (some ⟨zm1,0,none⟩))),(22,(.slice z6t z2p.length z5k)),(23,(.int .i64 ((z2p.length : Nat) : Int))),(24,(.bool (decide (((z2p.length : Nat) : Int) = 0)))),(25,(.bool (decide (((z2p.length : Nat) : Int) = 0)))),(32,(.bool zlW))] (listedA 11 [10,9,8,7,6,5,4,3,2,1,0]) ?_ (fun zqi=>?_)
    rotate_left
    ·rcases Bool.eq_false_or_eq_true (decide (((z2p.length : Nat) : Int) = 0)) with hb' | hb'
     ·have zm2:=hb'; clear hb'
      have zm3:=ite_t zqh zm2
      replace zm3:=Option.some.inj zm3
      refine WD.pin (i:=25) rfl zm2 ?_
      refine WD.b (i:=4) (d:=26) (by kernel_rfl) rfl (z6 (by kernel_rfl)) (z7 (by kernel_rfl)) rfl rfl rfl ?_
      refine WD.b (i:=5) (d:=27) (by kernel_rfl) rfl (z6 (by kernel_rfl)) (z7 (by kernel_rfl)) rfl rfl rfl ?_
      refine WD.b (i:=6) (d:=28) (by kernel_rfl) rfl (z6 (by kernel_rfl)) (z7 (by kernel_rfl)) rfl rfl rfl ?_
      refine WD.b (i:=7) (d:=29) (by kernel_rfl) rfl (z6 (by kernel_rfl)) (z7 (by kernel_rfl)) rfl rfl rfl ?_
      refine WD.b (i:=8) (d:=30) (by kernel_rfl) rfl (z6 (by kernel_rfl)) (z7 (by kernel_rfl)) rfl rfl rfl ?_
      refine WD.b (i:=9) (d:=31) (by kernel_rfl) rfl (z6 (by kernel_rfl)) (z7 (by kernel_rfl)) rfl rfl rfl ?_
      refine WD.a (i:=10) (d:=32) (by kernel_rfl) rfl (z6 (by kernel_rfl)) (z7 (by kernel_rfl)) rfl rfl rfl (fun _=>q_pickT rfl rfl) ?_
      refine WD.reL (.cons .here (.cons .here (.cons .here (.cons .here (.cons .here (.cons .here (.cons .here (.cons .here (.cons .here .nil))))))))) ?_ zqi
      exact (.cons rfl (.cons rfl (.cons rfl (.cons rfl (.cons rfl (.cons rfl (.cons rfl (.cons rfl (.cons rfl (.cons rfl (.cons rfl (.cons rfl (.cons rfl (.cons rfl (.cons (zr (Eq.symm zm2)) (.cons (zr zm3) .nil))))))))))))))))
     ·have zm4:=hb'; clear hb'
      have zcW:=ite_f zqh zm4
      obtain ⟨zfT,zcW⟩:=chk_elim zcW
      obtain ⟨zlV,zxg,zcW⟩:=zd zcW
      replace zcW:=Option.some.inj zcW
      refine WD.pin (i:=25) rfl zm4 ?_
      refine WD.e (i:=4) (d:=26) (by kernel_rfl) rfl (z6 (by kernel_rfl)) (z7 (by kernel_rfl)) rfl rfl rfl (q_loadA (cs:=[(.int .i64 z3w.1.fN),(.int .i64 z3w.1.fD)]) aggT_30 rfl rfl (rd_all .here)) ?_
      refine WD.e (i:=5) (d:=27) (by kernel_rfl) rfl (z6 (by kernel_rfl)) (z7 (by kernel_rfl)) rfl rfl rfl (q_load1 oneT_77 rfl (rd_stb .h5 rfl)) ?_
      refine WD.know (fun w hw=>Hp.expose .h6 hw (by intro hz'; have:=zfT; rw [hz'] at this; omega)) ?_
      rintro ⟨zhP,rfl⟩
      refine WD.a (i:=6) (d:=28) (by kernel_rfl) rfl (z6 (by kernel_rfl)) (z7 (by kernel_rfl)) rfl rfl rfl (fun _=>q_indexAddr elT_77 rfl rfl zfT.1 zfT.2 rowAdd) ?_
      refine WD.e (i:=7) (d:=29) (by kernel_rfl) rfl (z6 (by kernel_rfl)) (z7 (by kernel_rfl)) rfl rfl rfl (q_loadA (cs:=(e30 (nth z2p 0))) aggT_30 rfl rfl (rd_rows .h6 (flat_rd (enc:=e30) (l:=z2p) (i:=0) (sz:=2) (fun _=>rfl) zfT.1 zfT.2))) ?_
      refine WD.c (i:=8) (d:=30) (by kernel_rfl) rfl (z6 (by kernel_rfl)) (z7 (by kernel_rfl)) rfl rfl rfl (zk (l:=[.tmp 26,.tmp 29]) Try.call18 (.cons rfl (.cons rfl .nil))) (fun w hw=>by have pz:=(hz.call2 hw (.nil : Sel [stb zm1 30 [(.int .i64 z3w.1.fN),(.int .i64 z3w.1.fD)],stb z3c 98 [(.int .i64 z3w.2.fE)],blk z4b (z4x .busy none),stb zaF 30 [(.int .i64 z3q.fN),(.int .i64 z3q.fD)],fz [],stb z3l 77 [(.slice (some ⟨zhP,0,none⟩) z2p.length z5k)],row (.slice (some ⟨zhP,0,none⟩) z2p.length z5k) 30 2 (z2p.flatMap e30),stb z3b 30 [(.int .i64 0),(.int .i64 0)],stb z37 79 [(.slice z1X z1F.length z1Y),(.int .i64 zp.fRate.fN),(.int .i64 zp.fRate.fD),(.int .i64 zp.fLatency.fN),(.int .i64 zp.fLatency.fD),(.func (.func 37) #[] #[(.pointer (some z1N)),(.pointer (some z1O))]),(.slice z1Z z1G.length z20)]] [] [stb zm1 30 [(.int .i64 z3w.1.fN),(.int .i64 z3w.1.fD)],stb z3c 98 [(.int .i64 z3w.2.fE)],blk z4b (z4x .busy none),stb zaF 30 [(.int .i64 z3q.fN),(.int .i64 z3q.fD)],fz [],stb z3l 77 [(.slice (some ⟨zhP,0,none⟩) z2p.length z5k)],row (.slice (some ⟨zhP,0,none⟩) z2p.length z5k) 30 2 (z2p.flatMap e30),stb z3b 30 [(.int .i64 0),(.int .i64 0)],stb z37 79 [(.slice z1X z1F.length z1Y),(.int .i64 zp.fRate.fN),(.int .i64 zp.fRate.fD),(.int .i64 zp.fLatency.fN),(.int .i64 zp.fLatency.fD),(.func (.func 37) #[] #[(.pointer (some z1N)),(.pointer (some z1O))]),(.slice z1Z z1G.length z20)]]) .h4); exact w_rat_Cmp (Z:=_)  (z2d:=z3w.1) (z2e:=(⟨((nth z2p 0).fN),((nth z2p 0).fD)⟩ : z2)) (r:=zlV) w pz  zxg) ?_
      refine WD.a (i:=9) (d:=31) (by kernel_rfl) rfl (z6 (by kernel_rfl)) (z7 (by kernel_rfl)) rfl rfl rfl (fun _=>q_gtr rfl rfl) ?_
      refine WD.a (i:=10) (d:=32) (by kernel_rfl) rfl (z6 (by kernel_rfl)) (z7 (by kernel_rfl)) rfl rfl rfl (fun _=>q_pickF rfl rfl) ?_
      refine WD.reL (.cons .here (.cons .here (.cons .here (.cons .here (.cons .here (.cons .here (.cons .here (.cons .here (.cons .here .nil))))))))) ?_ zqi
      exact (.cons rfl (.cons rfl (.cons rfl (.cons rfl (.cons rfl (.cons rfl (.cons rfl (.cons rfl (.cons rfl (.cons rfl (.cons rfl (.cons rfl (.cons rfl (.cons rfl (.cons (zr (Eq.symm zm4)) (.cons (zr zcW) .nil))))))))))))))))
    refine WD.done (by kernel_rfl) ?_
    refine WX.a ?_
    refine WC.cond rfl (fun zm5=>?_) (fun zm5=>?_)
    ·replace z84:=ite_t z84 zm5
     refine WC.a ?_
     refine WL.a (d:=33) rfl rfl rfl (q_loadA (cs:=[(.int .i64 z3w.1.fN),(.int .i64 z3w.1.fD)]) aggT_30 rfl rfl (rd_all .here)) ?_
     refine WL.new (dd:=34) rfl rfl rfl (e_buildSlice (cs:=([z3w.1] : List z2).flatMap e30) elT_77 (Eos.parts (l:=[.tmp 33]) (.cons rfl .nil) [0]) (fun _=>by kernel_rfl) rfl (by unfold maxLen; omega)) ?_
     intro zfU _
     refine WL.eff0 rfl rfl (e_store (vs:=[(.slice (some ⟨zfU,0,none⟩) (([z3w.1] : List z2).length) 1)]) (ds:=[(.slice (some ⟨zfU,0,none⟩) (([z3w.1] : List z2).length) 1)]) sizT_77 rfl rfl rfl rfl (oc_cons rfl oc_nil) .h6 (Nat.le_of_ble_eq_true rfl) rfl) ?_
     refine WL.nil ?_
     refine WX.blockNormal ?_
     obtain ⟨rfl,rfl⟩:=rf_inj z84
     exact WX.rNormal zhO .h4 (fun w' hw'=>⟨((some ⟨zfU,0,none⟩),1),rfl,trivial,(hw'.selAll ((.cons .h6 (.cons .h1 (.cons .h1 (.cons .h2 (.cons .h4 (.cons .h4 (.cons .here .nil))))))) : Sel _ [fz [],stb z3l 77 [(.slice (some ⟨zfU,0,none⟩) (([z3w.1] : List z2).length) 1)],row (.slice (some ⟨zfU,0,none⟩) (([z3w.1] : List z2).length) 1) 30 2 (([z3w.1] : List z2).flatMap e30),stb z3c 98 [(.int .i64 z3w.2.fE)],stb z3b 30 [(.int .i64 0),(.int .i64 0)],stb z37 79 [(.slice z1X z1F.length z1Y),(.int .i64 zp.fRate.fN),(.int .i64 zp.fRate.fD),(.int .i64 zp.fLatency.fN),(.int .i64 zp.fLatency.fD),(.func (.func 37) #[] #[(.pointer (some z1N)),(.pointer (some z1O))]),(.slice z1Z z1G.length z20)],blk z4b (z4x .ready none)] _)).sub (.cons .here .nil)⟩)
    ·replace z84:=ite_f z84 zm5
     refine WC.skip ?_
     refine WX.blockNormal ?_
     obtain ⟨rfl,rfl⟩:=rf_inj z84
     exact WX.rNormal zhO .h2 (fun w' hw'=>⟨(z6t,z5k),rfl,trivial,(hw'.selAll ((.cons .h4 (.cons .h4 (.cons .h4 (.cons .h2 (.cons .h3 (.cons .h3 (.cons .here .nil))))))) : Sel _ [fz [],stb z3l 77 [(.slice z6t z2p.length z5k)],row (.slice z6t z2p.length z5k) 30 2 (z2p.flatMap e30),stb z3c 98 [(.int .i64 z3w.2.fE)],stb z3b 30 [(.int .i64 0),(.int .i64 0)],stb z37 79 [(.slice z1X z1F.length z1Y),(.int .i64 zp.fRate.fN),(.int .i64 zp.fRate.fD),(.int .i64 zp.fLatency.fN),(.int .i64 zp.fLatency.fD),(.func (.func 37) #[] #[(.pointer (some z1N)),(.pointer (some z1O))]),(.slice z1Z z1G.length z20)],blk z4b (z4x .ready none)] _)).sub (.cons .here .nil)⟩)
   ·skip
    rintro _ w' ⟨zxh,⟨zfV,zfW⟩,rfl,_,hp⟩
    have hp1:=hw1.call ((.cons .here .nil) : Sel [allA [fz [],stb z3l 77 [(.slice none (([] : List z2).length) 0)],row (.slice none (([] : List z2).length) 0) 30 2 (([] : List z2).flatMap e30),stb z3c 98 [(.int .i64 0)],stb z3b 30 [(.int .i64 0),(.int .i64 0)],stb z37 79 [(.slice z1X z1F.length z1Y),(.int .i64 zp.fRate.fN),(.int .i64 zp.fRate.fD),(.int .i64 zp.fLatency.fN),(.int .i64 zp.fLatency.fD),(.func (.func 37) #[] #[(.pointer (some z1N)),(.pointer (some z1O))]),(.slice z1Z z1G.length z20)],blk z4b (z4x .ready none)],dfr z7I,stb z6s 79 [(.slice z1X z1F.length z1Y),(.int .i64 z1j.1),(.int .i64 z1j.2.1),(.int .i64 z1j.2.2.1),(.int .i64 z1j.2.2.2),(.func (.func 37) #[] #[(.pointer (some z1N)),(.pointer (some z1O))]),(.slice z1Z z1G.length z20)],fz ([] ++ z5W)] [allA [fz [],stb z3l 77 [(.slice none (([] : List z2).length) 0)],row (.slice none (([] : List z2).length) 0) 30 2 (([] : List z2).flatMap e30),stb z3c 98 [(.int .i64 0)],stb z3b 30 [(.int .i64 0),(.int .i64 0)],stb z37 79 [(.slice z1X z1F.length z1Y),(.int .i64 zp.fRate.fN),(.int .i64 zp.fRate.fD),(.int .i64 zp.fLatency.fN),(.int .i64 zp.fLatency.fD),(.func (.func 37) #[] #[(.pointer (some z1N)),(.pointer (some z1O))]),(.slice z1Z z1G.length z20)],blk z4b (z4x .ready none)]] [dfr z7I,stb z6s 79 [(.slice z1X z1F.length z1Y),(.int .i64 z1j.1),(.int .i64 z1j.2.1),(.int .i64 z1j.2.2.1),(.int .i64 z1j.2.2.2),(.func (.func 37) #[] #[(.pointer (some z1N)),(.pointer (some z1O))]),(.slice z1Z z1G.length z20)],fz ([] ++ z5W)]) hp
    have hp2 : Hp _ _ w' [fz [],stb z3l 77 [(.slice zfV z5V.2.1.length zfW)],row (.slice zfV z5V.2.1.length zfW) 30 2 (z5V.2.1.flatMap e30),stb z3c 98 [(.int .i64 z5V.2.2)],stb z3b 30 [(.int .i64 0),(.int .i64 0)],stb z37 79 [(.slice z1X z1F.length z1Y),(.int .i64 zp.fRate.fN),(.int .i64 zp.fRate.fD),(.int .i64 zp.fLatency.fN),(.int .i64 zp.fLatency.fD),(.func (.func 37) #[] #[(.pointer (some z1N)),(.pointer (some z1O))]),(.slice z1Z z1G.length z20)],blk z4b (z4x (rdy (pcs [] z5V.1)) (pcs [] z5V.1)),fz zxh,dfr z7I,stb z6s 79 [(.slice z1X z1F.length z1Y),(.int .i64 z1j.1),(.int .i64 z1j.2.1),(.int .i64 z1j.2.2.1),(.int .i64 z1j.2.2.2),(.func (.func 37) #[] #[(.pointer (some z1N)),(.pointer (some z1O))]),(.slice z1Z z1G.length z20)],fz ([] ++ z5W)]:=hp1.pickAll .h1
    refine ⟨_,pcs [] z5V.1,_,rfl,(hp2.sub ((.cons .h6 (.cons .here (.cons .here (.cons .here (.cons .here (.cons .here (.cons .here (.cons .h1 (.cons .h1 (.cons .h1 .nil)))))))))) : Sel _ [blk z4b (z4x (rdy (pcs [] z5V.1)) (pcs [] z5V.1)),fz [],stb z3l 77 [(.slice zfV z5V.2.1.length zfW)],row (.slice zfV z5V.2.1.length zfW) 30 2 (z5V.2.1.flatMap e30),stb z3c 98 [(.int .i64 z5V.2.2)],stb z3b 30 [(.int .i64 0),(.int .i64 0)],stb z37 79 [(.slice z1X z1F.length z1Y),(.int .i64 zp.fRate.fN),(.int .i64 zp.fRate.fD),(.int .i64 zp.fLatency.fN),(.int .i64 zp.fLatency.fD),(.func (.func 37) #[] #[(.pointer (some z1N)),(.pointer (some z1O))]),(.slice z1Z z1G.length z20)],dfr z7I,stb z6s 79 [(.slice z1X z1F.length z1Y),(.int .i64 z1j.1),(.int .i64 z1j.2.1),(.int .i64 z1j.2.2.1),(.int .i64 z1j.2.2.2),(.func (.func 37) #[] #[(.pointer (some z1N)),(.pointer (some z1O))]),(.slice z1Z z1G.length z20)],fz ([] ++ z5W)] _)),?_⟩
    clear hp hp1 hp2 pz hw hw1
    refine wjN ?_
    letI : Rnd:=aft z7I
    refine WX.merge .here .h7 ?_
    refine WX.blockNormal ?_
    exact WX.midR (D:=fun (g : Nat × Int × List z2 × Zp × Option Addr × Nat)=>g.1) (G:=Nat × Int × List z2 × Zp × Option Addr × Nat) ⟨z7I,z5V.2.2,z5V.2.1,(([] ++ z5W) ++ []),zfV,zfW⟩ ⟨h,((Zle.left _ _).trans (Zle.assoc _ _ _))⟩ (.cons rfl (.cons rfl (.cons rfl .nil))) (.cons .here (.cons .h3 (.cons .h2 (.cons .here (.cons .here (.cons .h1 .nil))))))
  ·rintro zfQ z9B z6r zcV zfR zfS ⟨h,zBd⟩
   replace h:=(zx7 z9B z6r).symm.trans h
   letI : Rnd:=aft zfQ
   refine WC.b ?_
   refine WC.b ?_
   refine WC.a ?_
   refine WL.a (d:=35) rfl rfl rfl (q_fieldAddr fo_98_0 rfl rfl) ?_
   refine WL.a (d:=36) rfl rfl rfl (q_load1 oneT_31 rfl (rd_stb .h2 rfl)) ?_
   refine WL.a (d:=37) rfl rfl rfl (q_neq rfl rfl) ?_
   refine WL.nil ?_
   refine WX.a ?_
   refine WC.cond rfl (fun zm6=>?_) (fun zm6=>?_)
   ·replace h:=ite_t h zm6
    refine WC.b ?_
    refine WC.draw (fun i=>[3].contains i) [stbp z3c 98 [(0,(.int .i64 z9B))]] rfl ?_
    refine WD.a (i:=0) (d:=38) (by kernel_rfl) rfl (z6 (by kernel_rfl)) (z7 (by kernel_rfl)) rfl rfl rfl (fun _=>q_build (v:=(.agg #[(.int .i64 0),(.int .i64 0)])) (Eos.parts (l:=[]) .nil []) (fun _=>by kernel_rfl)) ?_
    refine WD.a (i:=1) (d:=39) (by kernel_rfl) rfl (z6 (by kernel_rfl)) (z7 (by kernel_rfl)) rfl rfl rfl (fun _=>q_fieldAddr fo_98_0 rfl rfl) ?_
    refine WD.stable (i:=2) (d:=40) (by kernel_rfl) rfl (z6 (by kernel_rfl)) (z7 (by kernel_rfl)) rfl rfl rfl (Sin.wk (.cons .h2 .nil) (.stb (.cons rfl .nil) .nil)) (q_load1 oneT_31 rfl (rd_stbp .here (.head _))) ?_
    refine WD.forced0 (i:=3) rfl (by kernel_rfl) rfl rfl rfl (Sin.wk (.cons .h2 .nil) (.stb (.cons rfl .nil) .nil)) (e_store (vs:=[(.int .i64 0),(.int .i64 0)]) (ds:=[(.int .i64 0),(.int .i64 0)]) sizT_30 rfl rfl rfl rfl (oc_cons rfl (oc_cons rfl oc_nil)) .h1 (Nat.le_of_ble_eq_true rfl) rfl) ?_
    refine WD.a (i:=4) (d:=3) (by kernel_rfl) rfl (z6 (by kernel_rfl)) (z7 (by kernel_rfl)) rfl rfl rfl (fun _=>q_z rfl) ?_
    refine WD.done (by kernel_rfl) ?_
    refine WX.a ?_
    refine WC.ret ?_
    refine WX.thenRet ?_
    obtain rfl:=Option.some.inj h
    refine WX.bpRetD .h5 Try.results36 (.agg rfl aggT_30 rfl (rd_all .h1) (.tmp rfl .nil)) (fun w hw=>?_)
    exact ⟨zcV,ret2 rfl rfl,trivial,hw.sub (.cons .h2 .nil)⟩
   ·replace h:=ite_f h zm6
    refine WC.skip ?_
    refine WX.a ?_
    refine WC.b ?_
    obtain ⟨zfX,h⟩:=chk_elim h
    refine WC.a ?_
    refine WL.a (d:=41) rfl rfl rfl (q_load1 oneT_77 rfl (rd_stb .h3 rfl)) ?_
    refine WL.know (fun w hw=>Hp.expose .h4 hw (by intro hz'; have:=zfX; rw [hz'] at this; omega)) ?_
    rintro ⟨zBe,rfl⟩
    refine WL.a (d:=42) rfl rfl rfl (q_indexAddr elT_77 rfl rfl zfX.1 zfX.2 rowAdd) ?_
    refine WL.a (d:=43) rfl rfl rfl (q_loadA (cs:=(e30 (nth z6r 0))) aggT_30 rfl rfl (rd_rows .h4 (flat_rd (enc:=e30) (l:=z6r) (i:=0) (sz:=2) (fun _=>rfl) zfX.1 zfX.2))) ?_
    refine WL.eff0 rfl rfl (e_store (vs:=[(.int .i64 ((nth z6r 0).fN)),(.int .i64 ((nth z6r 0).fD))]) (ds:=[(.int .i64 ((nth z6r 0).fN)),(.int .i64 ((nth z6r 0).fD))]) sizT_30 rfl rfl rfl rfl (oc_cons rfl (oc_cons rfl oc_nil)) .h1 (Nat.le_of_ble_eq_true rfl) rfl) ?_
    refine WL.a (d:=3) rfl rfl rfl (q_z rfl) ?_
    refine WL.nil ?_
    refine WX.a ?_
    refine WC.ret ?_
    obtain rfl:=Option.some.inj h
    refine WX.bpRetD .h5 Try.results36 (.agg rfl aggT_30 rfl (rd_all .h1) (.tmp rfl .nil)) (fun w hw=>?_)
    exact ⟨zcV,ret2 rfl rfl,trivial,hw.sub (.cons .h2 .nil)⟩
def m_calculus_Backlog (z5u : List (List z1)) (z14 : Sapi_Server) : Option (z2 × Int) :=
 (m_calculus_search_maxb z5u z14 z5u z14 ([z14.fLatency] : List z2)).bind fun zbz=>some (zbz.1,zbz.2)
set_option maxRecDepth 20000 in
theorem w_calculus_Backlog (Z : Zp)  (z6P : Option Addr) (z6Q : Nat) (z5u : List (List z1)) (z14 : Sapi_Server) (r : z2 × Int) (w₀ : World) (hz : PZ [] w₀ Z)
  (zqj : ZS Z 1 (p39 Z) z6P z6Q z5u)
  (h : m_calculus_Backlog z5u z14 = some r) :
  Calls Try.prog 16 #[(.slice z6P z5u.length z6Q),(.agg #[(.int .i64 z14.fRate.fN),(.int .i64 z14.fRate.fD),(.int .i64 z14.fLatency.fN),(.int .i64 z14.fLatency.fD)])] w₀ fun e w'=>∃ Zn : Zp,e = .returned (.tuple #[(.agg #[(.int .i64 r.1.fN),(.int .i64 r.1.fD)]),(.int .i64 r.2)]) ∧ True ∧ Hp [] w₀ w' [fz Zn]:=by
 unfold m_calculus_Backlog at h
 refine Calls.ofWC (vs:=[(.slice z6P z5u.length z6Q),(.agg #[(.int .i64 z14.fRate.fN),(.int .i64 z14.fRate.fD),(.int .i64 z14.fLatency.fN),(.int .i64 z14.fLatency.fD)])]) (pre:=[]) (env:=[(0,(.slice z6P z5u.length z6Q)),(1,(.agg #[(.int .i64 z14.fRate.fN),(.int .i64 z14.fRate.fD),(.int .i64 z14.fLatency.fN),(.int .i64 z14.fLatency.fD)]))]) Try.func16 rfl Try.ntmps16 rfl (Hp.nil w₀ _) rfl ?_
 refine WC.pool ?_
 refine WC.b ?_
 refine WC.a ?_
 refine WL.new (dd:=2) rfl rfl rfl (e_box (cs:=[(.slice z6P z5u.length z6Q)]) rfl rfl) ?_
 intro zbA _
 refine WL.new (dd:=3) rfl rfl rfl (e_box (cs:=[(.int .i64 z14.fRate.fN),(.int .i64 z14.fRate.fD),(.int .i64 z14.fLatency.fN),(.int .i64 z14.fLatency.fD)]) rfl rfl) ?_
 intro zbB _
 refine WL.new (dd:=4) rfl rfl rfl (e_alloc (cs:=[(.int .i64 0),(.int .i64 0)]) zeroT_30 rfl) ?_
 intro zhQ _
 refine WL.a (d:=5) rfl rfl rfl (q_z rfl) ?_
 refine WL.nil ?_
 refine WX.a ?_
 refine WC.b ?_
 refine WC.a ?_
 refine WL.a (d:=7) rfl rfl rfl (q_load1 oneT_26 rfl (rd_stb .h2 rfl)) ?_
 refine WL.a (d:=8) rfl rfl rfl (q_loadA (cs:=[(.int .i64 z14.fRate.fN),(.int .i64 z14.fRate.fD),(.int .i64 z14.fLatency.fN),(.int .i64 z14.fLatency.fD)]) aggT_43 rfl rfl (rd_all .h1)) ?_
 refine WL.a (d:=9) rfl rfl rfl (q_fieldAddr fo_43_1 rfl rfl) ?_
 refine WL.a (d:=10) rfl rfl rfl (q_loadA (cs:=[(.int .i64 z14.fLatency.fN),(.int .i64 z14.fLatency.fD)]) aggT_30 rfl rfl (rd_sub (s:=2) .h1 rfl)) ?_
 refine WL.new (dd:=11) rfl rfl rfl (e_buildSlice (cs:=([z14.fLatency] : List z2).flatMap e30) elT_77 (Eos.parts (l:=[.tmp 10]) (.cons rfl .nil) [0]) (fun _=>by kernel_rfl) rfl (by unfold maxLen; omega)) ?_
 intro z9C _
 refine WL.a (d:=12) rfl rfl rfl (q_build (v:=(.agg #[(.slice z6P z5u.length z6Q),(.int .i64 z14.fRate.fN),(.int .i64 z14.fRate.fD),(.int .i64 z14.fLatency.fN),(.int .i64 z14.fLatency.fD),.nilFunc,(.slice (some ⟨z9C,0,none⟩) (([z14.fLatency] : List z2).length) 1)])) (Eos.parts (l:=[.tmp 7,.tmp 8,.tmp 11]) (.cons rfl (.cons rfl (.cons rfl .nil))) [0,1,3]) (fun _=>by kernel_rfl)) ?_
 refine WL.new (dd:=6) rfl rfl rfl (e_alloc (cs:=[(.slice none 0 0),(.int .i64 0),(.int .i64 0),(.int .i64 0),(.int .i64 0),.nilFunc,(.slice none 0 0)]) zeroT_79 rfl) ?_
 intro zhR _
 refine WL.eff0 rfl rfl (e_store (vs:=[(.slice z6P z5u.length z6Q),(.int .i64 z14.fRate.fN),(.int .i64 z14.fRate.fD),(.int .i64 z14.fLatency.fN),(.int .i64 z14.fLatency.fD),.nilFunc,(.slice (some ⟨z9C,0,none⟩) (([z14.fLatency] : List z2).length) 1)]) (ds:=[(.slice z6P z5u.length z6Q),(.int .i64 z14.fRate.fN),(.int .i64 z14.fRate.fD),(.int .i64 z14.fLatency.fN),(.int .i64 z14.fLatency.fD),.nilFunc,(.slice (some ⟨z9C,0,none⟩) (([z14.fLatency] : List z2).length) 1)]) sizT_79 rfl rfl rfl rfl (oc_cons rfl (oc_cons rfl (oc_cons rfl (oc_cons rfl (oc_cons rfl (oc_cons rfl (oc_cons rfl oc_nil))))))) .here (Nat.le_of_ble_eq_true rfl) rfl) ?_
 refine WL.nil ?_
 refine WX.a ?_
 refine WC.b ?_
 refine WC.a ?_
 refine WL.a (d:=13) rfl rfl rfl (q_makeFunc (Eos.caps (l:=[.tmp 2,.tmp 3]) (.cons rfl (.cons rfl .nil)))) ?_
 refine WL.a (d:=14) rfl rfl rfl (q_fieldAddr fo_79_2 rfl rfl) ?_
 refine WL.eff0 rfl rfl (e_store (vs:=[(.func (.func 37) #[] #[(.pointer (some ⟨zbA,0,none⟩)),(.pointer (some ⟨zbB,0,none⟩))])]) (ds:=[(.slice z6P z5u.length z6Q),(.int .i64 z14.fRate.fN),(.int .i64 z14.fRate.fD),(.int .i64 z14.fLatency.fN),(.int .i64 z14.fLatency.fD),(.func (.func 37) #[] #[(.pointer (some ⟨zbA,0,none⟩)),(.pointer (some ⟨zbB,0,none⟩))]),(.slice (some ⟨z9C,0,none⟩) (([z14.fLatency] : List z2).length) 1)]) sizT_76 rfl rfl rfl rfl (oc_cons rfl oc_nil) .here (Nat.le_of_ble_eq_true rfl) rfl) ?_
 refine WL.nil ?_
 refine WX.a ?_
 refine WC.b ?_
 obtain ⟨zbz,zxi,h⟩:=zd h
 refine WC.a ?_
 refine WL.a (d:=15) rfl rfl rfl (q_loadA (cs:=[(.slice z6P z5u.length z6Q),(.int .i64 z14.fRate.fN),(.int .i64 z14.fRate.fD),(.int .i64 z14.fLatency.fN),(.int .i64 z14.fLatency.fD),(.func (.func 37) #[] #[(.pointer (some ⟨zbA,0,none⟩)),(.pointer (some ⟨zbB,0,none⟩))]),(.slice (some ⟨z9C,0,none⟩) (([z14.fLatency] : List z2).length) 1)]) aggT_79 rfl rfl (rd_all .here)) ?_
 refine WL.freezeC (Z:=Z) .h4 .h4 ?_
 intro zBf zhS zxj
 refine WL.freezeC (Z:=Z) .h4 .here ?_
 intro zBg zfY zxk
 refine WL.freezeS (ls:=([z14.fLatency] : List z2)) .h2 .here hz (RR.flat (enc:=e30) (fun _=>rfl) _) ?_
 intro zfZ zeh zxl
 refine WL.enter1 (dd:=16) rfl rfl rfl (zk (l:=[.tmp 15]) Try.call36 (.cons rfl .nil)) (.nil : Sel [fz zfZ,stb zhR 79 [(.slice z6P z5u.length z6Q),(.int .i64 z14.fRate.fN),(.int .i64 z14.fRate.fD),(.int .i64 z14.fLatency.fN),(.int .i64 z14.fLatency.fD),(.func (.func 37) #[] #[(.pointer (some ⟨zbA,0,none⟩)),(.pointer (some ⟨zbB,0,none⟩))]),(.slice (some ⟨z9C,0,none⟩) (([z14.fLatency] : List z2).length) 1)],stb zhQ 30 [(.int .i64 0),(.int .i64 0)]] [] [fz zfZ,stb zhR 79 [(.slice z6P z5u.length z6Q),(.int .i64 z14.fRate.fN),(.int .i64 z14.fRate.fD),(.int .i64 z14.fLatency.fN),(.int .i64 z14.fLatency.fD),(.func (.func 37) #[] #[(.pointer (some ⟨zbA,0,none⟩)),(.pointer (some ⟨zbB,0,none⟩))]),(.slice (some ⟨z9C,0,none⟩) (([z14.fLatency] : List z2).length) 1)],stb zhQ 30 [(.int .i64 0),(.int .i64 0)]]) (fun w hw=>by have pz:=(hz.call2 hw (.nil : Sel [fz zfZ,stb zhR 79 [(.slice z6P z5u.length z6Q),(.int .i64 z14.fRate.fN),(.int .i64 z14.fRate.fD),(.int .i64 z14.fLatency.fN),(.int .i64 z14.fLatency.fD),(.func (.func 37) #[] #[(.pointer (some ⟨zbA,0,none⟩)),(.pointer (some ⟨zbB,0,none⟩))]),(.slice (some ⟨z9C,0,none⟩) (([z14.fLatency] : List z2).length) 1)],stb zhQ 30 [(.int .i64 0),(.int .i64 0)]] [] [fz zfZ,stb zhR 79 [(.slice z6P z5u.length z6Q),(.int .i64 z14.fRate.fN),(.int .i64 z14.fRate.fD),(.int .i64 z14.fLatency.fN),(.int .i64 z14.fLatency.fD),(.func (.func 37) #[] #[(.pointer (some ⟨zbA,0,none⟩)),(.pointer (some ⟨zbB,0,none⟩))]),(.slice (some ⟨z9C,0,none⟩) (([z14.fLatency] : List z2).length) 1)],stb zhQ 30 [(.int .i64 0),(.int .i64 0)]]) .here); exact w_calculus_search_maxb (Z:=_) (z1X:=z6P) (z1Y:=z6Q) (z1N:=⟨zbA,0,none⟩) (zcT:=z6P) (zcU:=z6Q) (z1O:=⟨zbB,0,none⟩) (z1Z:=(some ⟨z9C,0,none⟩)) (z20:=1) (z1F:=z5u) (zp:=z14) (z6O:=z5u) (z5U:=z14) (z1G:=([z14.fLatency] : List z2)) (r:=zbz) w pz ((zqj.mono ((Zle.left _ _).trans (zhS.trans (zfY.trans zeh)))).weak (fun _ _ h=>p39_mono ((Zle.left _ _).trans (zhS.trans (zfY.trans zeh))) h)) ((zqj.mono ((Zle.left _ _).trans (zhS.trans (zfY.trans zeh)))).weak (fun _ _ h=>p39_mono ((Zle.left _ _).trans (zhS.trans (zfY.trans zeh))) h)) (zxj.mono (zfY.trans zeh)) (zxk.mono zeh) zxl zxi) ?_
 rintro zxm _
 refine WL.merge .here .here ?_
 refine WL.a (d:=17) rfl rfl rfl (q_extract rfl rfl) ?_
 refine WL.a (d:=18) rfl rfl rfl (q_extract rfl rfl) ?_
 refine WL.eff0 rfl rfl (e_store (vs:=[(.int .i64 zbz.1.fN),(.int .i64 zbz.1.fD)]) (ds:=[(.int .i64 zbz.1.fN),(.int .i64 zbz.1.fD)]) sizT_30 rfl rfl rfl rfl (oc_cons rfl (oc_cons rfl oc_nil)) .h2 (Nat.le_of_ble_eq_true rfl) rfl) ?_
 refine WL.a (d:=5) rfl rfl rfl (q_z rfl) ?_
 refine WL.nil ?_
 refine WX.a ?_
 refine WC.ret ?_
 obtain rfl:=Option.some.inj h
 refine WX.bpRet Try.results16 (.agg rfl aggT_30 rfl (rd_all .here) (.tmp rfl .nil)) (fun w hw=>?_)
 exact ⟨(zfZ ++ zxm),ret2 rfl rfl,trivial,hw.sub (.cons .h1 .nil)⟩
def m_calculus_Conforms_L4 (zV : List Sapi_Sent) (z1d : Int) (z3B : List z1) (zaG : Bool → Option (Bool × Int)) : Nat → Bool → Int → Int → Option (Bool × Int)
 | 0,_,_,_=>none
 | zm7 + 1,z7J,z7p,z29=>if decide (z29 < (((zV.drop (z1d : Int).toNat).length : Nat) : Int)) then chk ((0 : Int) ≤ z29 ∧ z29 < (((zV.drop (z1d : Int).toNat).length : Nat) : Int)) (chk ((0 : Int) ≤ z1d ∧ z1d < ((zV.length : Nat) : Int)) ((m_curve_At z3B (⟨i64 (((nth (zV.drop (z1d : Int).toNat) z29).fTime) - ((nth zV z1d).fTime)),1⟩ : z2)).bind fun z5l=>if decide (z5l.2 ≠ 0) then some (false,z5l.2) else (if z7J then (m_rat_Cmp (⟨i64 (z7p + ((nth (zV.drop (z1d : Int).toNat) z29).fSize)),1⟩ : z2) z5l.1).bind fun zm8=>some (decide (zm8 ≤ 0)) else some false).bind fun zhT=>m_calculus_Conforms_L4 zV z1d z3B zaG zm7 zhT (i64 (z7p + ((nth (zV.drop (z1d : Int).toNat) z29).fSize))) (i64 (z29 + 1)))) else zaG z7J
theorem m_calculus_Conforms_L4_fuel {n : Nat} {zV : List Sapi_Sent} {z1d : Int} {z3B : List z1} {zaG : Bool → Option (Bool × Int)} {z7J : Bool} {z7p : Int} {z29 : Int} {r : Bool × Int} (h : m_calculus_Conforms_L4 zV z1d z3B zaG n z7J z7p z29 = some r) : ∃ m,n = m + 1:=by
 cases n with
 | zero=>cases h
 | succ m=>exact ⟨m,rfl⟩
def m_calculus_Conforms_L3 (zV : List Sapi_Sent) (z3B : List z1) (zaH : Bool → Option (Bool × Int)) : Nat → Bool → Int → Option (Bool × Int)
 | 0,_,_=>none
 | zm9 + 1,z85,z1d=>if decide (z1d < ((zV.length : Nat) : Int)) then jp1 (fun (zaI : Bool)=>m_calculus_Conforms_L3 zV z3B zaH zm9 zaI (i64 (z1d + 1))) fun zma=>chk ((0 : Int) ≤ z1d ∧ (z1d : Int) ≤ (zV.length : Int) ∧ (zV.length : Int) ≤ ((zV.length : Nat) : Int)) (jp1 (fun (zaJ : Bool)=>zma zaJ) fun zaG=>m_calculus_Conforms_L4 zV z1d z3B zaG FUEL z85 0 0) else zaH z85
theorem m_calculus_Conforms_L3_fuel {n : Nat} {zV : List Sapi_Sent} {z3B : List z1} {zaH : Bool → Option (Bool × Int)} {z85 : Bool} {z1d : Int} {r : Bool × Int} (h : m_calculus_Conforms_L3 zV z3B zaH n z85 z1d = some r) : ∃ m,n = m + 1:=by
 cases n with
 | zero=>cases h
 | succ m=>exact ⟨m,rfl⟩
def m_calculus_Conforms (z3B : List z1) (zV : List Sapi_Sent) : Option (Bool × Int) :=
 (m_curve_Valid z3B).bind fun zhU=>(if !zhU then some true else (m_calculus_frames zV).bind fun zmb=>some (!zmb)).bind fun zmc=>if zmc then some (false,2) else jp1 (fun (zbC : Bool)=>some (zbC,0)) fun zaH=>m_calculus_Conforms_L3 zV z3B zaH FUEL true 0
set_option maxRecDepth 20000 in
theorem w_calculus_Conforms (Z : Zp)  (z7K : Option Addr) (z7L : Nat) (z86 : Option Addr) (z87 : Nat) (z3B : List z1) (zV : List Sapi_Sent) (r : Bool × Int) (w₀ : World) (hz : PZ [] w₀ Z)
  (zqk : ZS Z 4 (fun r x=>r = e35 x) z7K z7L z3B)
  (zmd : ZS Z 3 (fun r x=>r = e51 x) z86 z87 zV)
  (h : m_calculus_Conforms z3B zV = some r) :
  Calls Try.prog 12 #[(.slice z7K z3B.length z7L),(.slice z86 zV.length z87)] w₀ fun e w'=>e = .returned (.tuple #[(.bool r.1),(.int .i64 r.2)]) ∧ Hp [] w₀ w' []:=by
 unfold m_calculus_Conforms at h
 refine Calls.ofWC (vs:=[(.slice z7K z3B.length z7L),(.slice z86 zV.length z87)]) (pre:=[]) (env:=[(0,(.slice z7K z3B.length z7L)),(1,(.slice z86 zV.length z87))]) Try.func12 rfl Try.ntmps12 rfl (Hp.nil w₀ _) rfl ?_
 refine WC.b ?_
 refine WC.a ?_
 refine WL.a (d:=4) rfl rfl rfl (q_z rfl) ?_
 refine WL.a (d:=5) rfl rfl rfl (q_z rfl) ?_
 refine WL.nil ?_
 refine WX.a ?_
 refine WC.b ?_
 refine WC.b ?_
 obtain ⟨zhU,zxn,h⟩:=zd h
 obtain ⟨zmc,zql,h⟩:=zd h
 refine WC.a ?_
 refine WL.a (d:=13) rfl rfl rfl (q_m rfl) ?_
 refine WL.b (dd:=14) rfl rfl rfl (zk (l:=[.tmp 13]) Try.call30 (.cons rfl .nil)) (.nil : Sel [] [] []) (fun w hw=>by have pz:=(hz.call hw (.nil : Sel [] [] [])); exact w_curve_Valid (Z:=_) (z8b:=z7K) (z8c:=z7L) (z4Z:=z3B) (r:=zhU) w pz zqk zxn) ?_
 refine WL.a (d:=15) rfl rfl rfl (q_not rfl) ?_
 refine WL.a (d:=16) rfl rfl rfl (q_m rfl) ?_
 refine WL.cut0 True [(0,(.slice z7K z3B.length z7L)),(1,(.slice z86 zV.length z87)),(20,(.bool zmc))] [] 4 ?_ (fun _=>?_)
 ·rcases Bool.eq_false_or_eq_true (!zhU) with hb' | hb'
  ·have zqm:=hb'; clear hb'
   have zme:=ite_t zql zqm
   replace zme:=Option.some.inj zme
   refine WL.pin (i:=16) rfl zqm ?_
   refine WL.e rfl rfl rfl ?_
   refine WL.e rfl rfl rfl ?_
   refine WL.e rfl rfl rfl ?_
   refine WL.a (d:=20) rfl rfl rfl (q_pickT rfl rfl) ?_
   exact WL.cutEnd () trivial (.cons rfl (.cons rfl (.cons (zr zme) .nil))) .nil
  ·have zqn:=hb'; clear hb'
   have zg0:=ite_f zql zqn
   obtain ⟨zmb,zxo,zg0⟩:=zd zg0
   replace zg0:=Option.some.inj zg0
   refine WL.pin (i:=16) rfl zqn ?_
   refine WL.a (d:=17) rfl rfl rfl (q_m rfl) ?_
   refine WL.b (dd:=18) rfl rfl rfl (zk (l:=[.tmp 17]) Try.call31 (.cons rfl .nil)) (.nil : Sel [] [] []) (fun w hw=>by have pz:=(hz.call hw (.nil : Sel [] [] [])); exact w_calculus_frames (Z:=_) (z5E:=z86) (z5F:=z87) (zS:=zV) (r:=zmb) w pz zmd zxo) ?_
   refine WL.a (d:=19) rfl rfl rfl (q_not rfl) ?_
   refine WL.a (d:=20) rfl rfl rfl (q_pickF rfl rfl) ?_
   exact WL.cutEnd () trivial (.cons rfl (.cons rfl (.cons (zr zg0) .nil))) .nil
 ·skip
  refine WL.nil ?_
  refine WX.a ?_
  refine WC.cond rfl (fun zmf=>?_) (fun zmf=>?_)
  ·replace h:=ite_t h zmf
   refine WC.b ?_
   refine WC.a ?_
   refine WL.a (d:=4) rfl rfl rfl (q_z rfl) ?_
   refine WL.a (d:=5) rfl rfl rfl (q_z rfl) ?_
   refine WL.nil ?_
   refine WX.a ?_
   refine WC.ret ?_
   refine WX.thenRet ?_
   obtain rfl:=Option.some.inj h
   refine WX.bpRet Try.results12 (.tmp rfl (.tmp rfl .nil)) (fun w hw=>?_)
   exact ⟨ret2 rfl rfl,hw.sub .nil⟩
  ·replace h:=ite_f h zmf
   refine WC.skip ?_
   refine WX.a ?_
   refine WC.b ?_
   refine WC.a ?_
   refine WL.a (d:=6) rfl rfl rfl (q_z rfl) ?_
   refine WL.nil ?_
   refine WX.a ?_
   obtain ⟨zaH,zxp,h⟩:=jp1_elim h
   refine WC.seqMid1 (fun (zbC : Bool)=>(zaH zbC = some r)) (fun (zbC : Bool)=>[(6,(.bool zbC))]) (fun (zbC : Bool)=>[]) ?_ ?_
   ·skip
    refine WC.b ?_
    refine WC.a ?_
    refine WL.a (d:=21) rfl rfl rfl (q_m rfl) ?_
    refine WL.a (d:=22) rfl rfl rfl (q_len Try.underlying24 rfl) ?_
    refine WL.a (d:=23) rfl rfl rfl (q_m rfl) ?_
    refine WL.nil ?_
    refine WX.a ?_
    refine WC.block ?_
    refine WC.loop3 (fun (zei : Nat) (z85 : Bool) (z1d : Int)=>(m_calculus_Conforms_L3 zV z3B zaH zei z85 z1d = some r)) (fun (zei : Nat) (z85 : Bool) (z1d : Int)=>[(0,(.slice z7K z3B.length z7L)),(1,(.slice z86 zV.length z87)),(6,(.bool z85)),(22,(.int .i64 ((zV.length : Nat) : Int))),(23,(.int .i64 z1d))]) (fun (zei : Nat) (z85 : Bool) (z1d : Int)=>[]) (fun (zei : Nat) (z85 : Bool) (z1d : Int)=>zei) ⟨FUEL,true,0⟩ h (.cons rfl (.cons rfl (.cons rfl (.cons rfl (.cons rfl .nil))))) .nil ?_
    rintro zei z85 z1d h
    obtain ⟨zm9,rfl⟩:=m_calculus_Conforms_L3_fuel h
    rw [m_calculus_Conforms_L3] at h
    refine WC.b ?_
    refine WC.a ?_
    refine WL.a (d:=24) rfl rfl rfl (q_lss rfl rfl) ?_
    refine WL.nil ?_
    refine WX.a ?_
    refine WC.b ?_
    refine WC.cond rfl (fun zmg=>?_) (fun zmg=>?_)
    ·replace h:=ite_t h zmg
     refine WC.skip ?_
     refine WX.a ?_
     obtain ⟨zma,zxq,h⟩:=jp1_elim h
     refine WC.seqMid1 (fun (zaI : Bool)=>(zma zaI = some r)) (fun (zaI : Bool)=>[(0,(.slice z7K z3B.length z7L)),(1,(.slice z86 zV.length z87)),(6,(.bool zaI)),(22,(.int .i64 ((zV.length : Nat) : Int))),(23,(.int .i64 z1d))]) (fun (zaI : Bool)=>[]) ?_ ?_
     ·skip
      refine WC.block ?_
      refine WC.b ?_
      refine WC.a ?_
      refine WL.a (d:=25) rfl rfl rfl (q_m rfl) ?_
      refine WL.a (d:=7) rfl rfl rfl (q_z rfl) ?_
      refine WL.nil ?_
      refine WX.a ?_
      refine WC.b ?_
      refine WC.a ?_
      refine WL.a (d:=8) rfl rfl rfl (q_z rfl) ?_
      refine WL.nil ?_
      refine WX.a ?_
      refine WC.b ?_
      obtain ⟨zxr,h⟩:=chk_elim h
      refine WC.a ?_
      refine WL.a (d:=26) rfl rfl rfl (q_m rfl) ?_
      refine WL.a (d:=27) rfl rfl rfl (q_m rfl) ?_
      refine WL.zsub (dd:=28) rfl rfl (Z:=Z) (Pr:=(fun r x=>r = e51 x)) elT_24 rfl zmd (ixo rfl) ixn rfl rfl zxr (by rw [Int.toNat_natCast,List.take_length]) ?_
      rintro zqo zqp zxs
      refine WL.a (d:=29) rfl rfl rfl (q_len Try.underlying24 rfl) ?_
      refine WL.a (d:=30) rfl rfl rfl (q_m rfl) ?_
      refine WL.nil ?_
      refine WX.a ?_
      obtain ⟨zaG,zxt,h⟩:=jp1_elim h
      refine WC.mid1 (fun (zaJ : Bool)=>(zaG zaJ = some r)) (fun (zaJ : Bool)=>[(0,(.slice z7K z3B.length z7L)),(1,(.slice z86 zV.length z87)),(6,(.bool zaJ)),(22,(.int .i64 ((zV.length : Nat) : Int))),(23,(.int .i64 z1d))]) (fun (zaJ : Bool)=>[]) ?_ ?_
      ·skip
       refine WC.block ?_
       refine WC.loop4 (fun (zej : Nat) (z7J : Bool) (z7p : Int) (z29 : Int)=>(m_calculus_Conforms_L4 zV z1d z3B zaG zej z7J z7p z29 = some r)) (fun (zej : Nat) (z7J : Bool) (z7p : Int) (z29 : Int)=>[(0,(.slice z7K z3B.length z7L)),(1,(.slice z86 zV.length z87)),(6,(.bool z7J)),(7,(.int .i64 z1d)),(8,(.int .i64 z7p)),(22,(.int .i64 ((zV.length : Nat) : Int))),(23,(.int .i64 z1d)),(28,(.slice zqo ((zV.drop (z1d : Int).toNat).length) zqp)),(29,(.int .i64 (((zV.drop (z1d : Int).toNat).length : Nat) : Int))),(30,(.int .i64 z29))]) (fun (zej : Nat) (z7J : Bool) (z7p : Int) (z29 : Int)=>[]) (fun (zej : Nat) (z7J : Bool) (z7p : Int) (z29 : Int)=>zej) ⟨FUEL,z85,0,0⟩ h (.cons rfl (.cons rfl (.cons rfl (.cons rfl (.cons rfl (.cons rfl (.cons rfl (.cons rfl (.cons rfl (.cons rfl .nil)))))))))) .nil ?_
       rintro zej z7J z7p z29 h
       obtain ⟨zm7,rfl⟩:=m_calculus_Conforms_L4_fuel h
       rw [m_calculus_Conforms_L4] at h
       refine WC.b ?_
       refine WC.a ?_
       refine WL.a (d:=31) rfl rfl rfl (q_lss rfl rfl) ?_
       refine WL.nil ?_
       refine WX.a ?_
       refine WC.b ?_
       refine WC.cond rfl (fun zmh=>?_) (fun zmh=>?_)
       ·replace h:=ite_t h zmh
        refine WC.skip ?_
        refine WX.a ?_
        refine WC.b ?_
        refine WC.block ?_
        refine WC.b ?_
        obtain ⟨zxu,h⟩:=chk_elim h
        refine WC.a ?_
        refine WL.znth (dd:=32) rfl rfl (Z:=Z) (Pr:=(fun r x=>r = e51 x)) elT_24 rfl rfl zxs zxu ?_
        rintro zBh zBi zxv zBj rfl
        refine WL.a (d:=33) rfl rfl rfl (q_loadA (cs:=[(.int .i64 ((nth (zV.drop (z1d : Int).toNat) z29).fTime)),(.int .i64 ((nth (zV.drop (z1d : Int).toNat) z29).fVL)),(.int .i64 ((nth (zV.drop (z1d : Int).toNat) z29).fSize))]) aggT_51 rfl rfl (rd_zs hz.pv zxv)) ?_
        refine WL.new (dd:=10) rfl rfl rfl (e_alloc (cs:=[(.int .i64 0),(.int .i64 0),(.int .i64 0)]) zeroT_51 rfl) ?_
        intro zcX _
        refine WL.eff0 rfl rfl (e_store (vs:=[(.int .i64 ((nth (zV.drop (z1d : Int).toNat) z29).fTime)),(.int .i64 ((nth (zV.drop (z1d : Int).toNat) z29).fVL)),(.int .i64 ((nth (zV.drop (z1d : Int).toNat) z29).fSize))]) (ds:=[(.int .i64 ((nth (zV.drop (z1d : Int).toNat) z29).fTime)),(.int .i64 ((nth (zV.drop (z1d : Int).toNat) z29).fVL)),(.int .i64 ((nth (zV.drop (z1d : Int).toNat) z29).fSize))]) sizT_51 rfl rfl rfl rfl (oc_cons rfl (oc_cons rfl (oc_cons rfl oc_nil))) .here (Nat.le_of_ble_eq_true rfl) rfl) ?_
        refine WL.nil ?_
        refine WX.a ?_
        refine WC.b ?_
        refine WC.a ?_
        refine WL.a (d:=34) rfl rfl rfl (q_m rfl) ?_
        refine WL.a (d:=35) rfl rfl rfl (q_fieldAddr fo_51_2 rfl rfl) ?_
        refine WL.a (d:=36) rfl rfl rfl (q_load1 oneT_3 rfl (rd_stb .here rfl)) ?_
        refine WL.a (d:=37) rfl rfl rfl (q_add rfl rfl rfl) ?_
        refine WL.a (d:=8) rfl rfl rfl (q_z rfl) ?_
        refine WL.nil ?_
        refine WX.a ?_
        refine WC.b ?_
        obtain ⟨zxw,h⟩:=chk_elim h
        obtain ⟨z5l,zxx,h⟩:=zd h
        refine WC.draw (fun i=>[15].contains i) [] rfl ?_
        refine WD.a (i:=0) (d:=39) (by kernel_rfl) rfl (z6 (by kernel_rfl)) (z7 (by kernel_rfl)) rfl rfl rfl (fun _=>q_m rfl) ?_
        refine WD.a (i:=1) (d:=40) (by kernel_rfl) rfl (z6 (by kernel_rfl)) (z7 (by kernel_rfl)) rfl rfl rfl (fun _=>q_fieldAddr fo_51_0 rfl rfl) ?_
        refine WD.e (i:=2) (d:=41) (by kernel_rfl) rfl (z6 (by kernel_rfl)) (z7 (by kernel_rfl)) rfl rfl rfl (q_load1 oneT_3 rfl (rd_stb .here rfl)) ?_
        refine WD.a (i:=3) (d:=42) (by kernel_rfl) rfl (z6 (by kernel_rfl)) (z7 (by kernel_rfl)) rfl rfl rfl (fun _=>q_m rfl) ?_
        refine WD.a (i:=4) (d:=43) (by kernel_rfl) rfl (z6 (by kernel_rfl)) (z7 (by kernel_rfl)) rfl rfl rfl (fun _=>q_m rfl) ?_
        refine WD.znth (j:=5) (dd:=44) (by kernel_rfl) rfl (z6 (by kernel_rfl)) (z7 (by kernel_rfl)) rfl rfl (Z:=Z) (Pr:=(fun r x=>r = e51 x)) elT_24 rfl rfl zmd zxw ?_
        rintro zBk zBl zxy zBm rfl
        refine WD.a (i:=6) (d:=45) (by kernel_rfl) rfl (z6 (by kernel_rfl)) (z7 (by kernel_rfl)) rfl rfl rfl (fun _=>q_fieldAddr fo_51_0 rfl rfl) ?_
        refine WD.e (i:=7) (d:=46) (by kernel_rfl) rfl (z6 (by kernel_rfl)) (z7 (by kernel_rfl)) rfl rfl rfl (q_load1 oneT_3 rfl (rd_zAt hz.pv zxy rfl)) ?_
        refine WD.a (i:=8) (d:=47) (by kernel_rfl) rfl (z6 (by kernel_rfl)) (z7 (by kernel_rfl)) rfl rfl rfl (fun _=>q_sub rfl rfl rfl) ?_
        refine WD.a (i:=9) (d:=48) (by kernel_rfl) rfl (z6 (by kernel_rfl)) (z7 (by kernel_rfl)) rfl rfl rfl (fun _=>q_build (v:=(.agg #[(.int .i64 (i64 (((nth (zV.drop (z1d : Int).toNat) z29).fTime) - ((nth zV z1d).fTime)))),(.int .i64 1)])) (Eos.parts (l:=[.tmp 47,.const (.int .i64 1)]) (.cons rfl (.cons rfl .nil)) [0,1]) (fun _=>by kernel_rfl)) ?_
        refine WD.c (i:=10) (d:=49) (by kernel_rfl) rfl (z6 (by kernel_rfl)) (z7 (by kernel_rfl)) rfl rfl rfl (zk (l:=[.tmp 39,.tmp 48]) Try.call22 (.cons rfl (.cons rfl .nil))) (fun w hw=>by have pz:=(hz.call hw (.nil : Sel [stb zcX 51 [(.int .i64 ((nth (zV.drop (z1d : Int).toNat) z29).fTime)),(.int .i64 ((nth (zV.drop (z1d : Int).toNat) z29).fVL)),(.int .i64 ((nth (zV.drop (z1d : Int).toNat) z29).fSize))]] [] [stb zcX 51 [(.int .i64 ((nth (zV.drop (z1d : Int).toNat) z29).fTime)),(.int .i64 ((nth (zV.drop (z1d : Int).toNat) z29).fVL)),(.int .i64 ((nth (zV.drop (z1d : Int).toNat) z29).fSize))]])); exact w_curve_At (Z:=_) (zas:=z7K) (zat:=z7L) (z1n:=z3B) (z23:=(⟨i64 (((nth (zV.drop (z1d : Int).toNat) z29).fTime) - ((nth zV z1d).fTime)),1⟩ : z2)) (r:=z5l) w pz zqk zxx) ?_
        refine WD.a (i:=11) (d:=38) (by kernel_rfl) rfl (z6 (by kernel_rfl)) (z7 (by kernel_rfl)) rfl rfl rfl (fun _=>q_m rfl) ?_
        refine WD.a (i:=12) (d:=50) (by kernel_rfl) rfl (z6 (by kernel_rfl)) (z7 (by kernel_rfl)) rfl rfl rfl (fun _=>q_extract rfl rfl) ?_
        refine WD.a (i:=13) (d:=51) (by kernel_rfl) rfl (z6 (by kernel_rfl)) (z7 (by kernel_rfl)) rfl rfl rfl (fun _=>q_extract rfl rfl) ?_
        refine WD.new (i:=14) (dd:=11) rfl (by kernel_rfl) rfl rfl rfl (e_alloc (cs:=[(.int .i64 0),(.int .i64 0)]) zeroT_30 rfl) (fun h'=>absurd h' (by decide)) ?_
        intro zg1 _
        refine WD.forced0 (i:=15) rfl (by kernel_rfl) rfl rfl rfl (Sin.of .nil) (e_store (vs:=[(.int .i64 z5l.1.fN),(.int .i64 z5l.1.fD)]) (ds:=[(.int .i64 z5l.1.fN),(.int .i64 z5l.1.fD)]) sizT_30 rfl rfl rfl rfl (oc_cons rfl (oc_cons rfl oc_nil)) .here (Nat.le_of_ble_eq_true rfl) rfl) ?_
        refine WD.a (i:=16) (d:=12) (by kernel_rfl) rfl (z6 (by kernel_rfl)) (z7 (by kernel_rfl)) rfl rfl rfl (fun _=>q_z rfl) ?_
        refine WD.done (by kernel_rfl) ?_
        refine WX.a ?_
        refine WC.b ?_
        refine WC.b ?_
        refine WC.a ?_
        refine WL.a (d:=52) rfl rfl rfl (q_m rfl) ?_
        refine WL.a (d:=53) rfl rfl rfl (q_neq rfl rfl) ?_
        refine WL.nil ?_
        refine WX.a ?_
        refine WC.cond rfl (fun zmi=>?_) (fun zmi=>?_)
        ·replace h:=ite_t h zmi
         refine WC.b ?_
         refine WC.a ?_
         refine WL.a (d:=54) rfl rfl rfl (q_m rfl) ?_
         refine WL.a (d:=4) rfl rfl rfl (q_z rfl) ?_
         refine WL.a (d:=5) rfl rfl rfl (q_z rfl) ?_
         refine WL.nil ?_
         refine WX.a ?_
         refine WC.ret ?_
         refine WX.thenRet ?_
         refine WX.blockRet ?_
         refine WX.thenRet ?_
         refine WX.thenRet ?_
         refine WX.blockRet ?_
         refine WX.thenRet ?_
         refine WX.blockRet ?_
         refine WX.thenRet ?_
         refine WX.thenRet ?_
         refine WX.blockRet ?_
         refine WX.thenRet ?_
         obtain rfl:=Option.some.inj h
         refine WX.bpRet Try.results12 (.tmp rfl (.tmp rfl .nil)) (fun w hw=>?_)
         exact ⟨ret2 rfl rfl,hw.sub .nil⟩
        ·replace h:=ite_f h zmi
         refine WC.skip ?_
         refine WX.a ?_
         obtain ⟨zhT,zqq,h⟩:=zd h
         refine WC.a ?_
         refine WL.a (d:=55) rfl rfl rfl (q_m rfl) ?_
         refine WL.a (d:=56) rfl rfl rfl (q_m rfl) ?_
         refine WL.cut0 True [(0,(.slice z7K z3B.length z7L)),(1,(.slice z86 zV.length z87)),(6,(.bool z7J)),(7,(.int .i64 z1d)),(8,(.int .i64 (i64 (z7p + ((nth (zV.drop (z1d : Int).toNat) z29).fSize))))),(22,(.int .i64 ((zV.length : Nat) : Int))),(23,(.int .i64 z1d)),(28,(.slice zqo ((zV.drop (z1d : Int).toNat).length) zqp)),(29,(.int .i64 (((zV.drop (z1d : Int).toNat).length : Nat) : Int))),(30,(.int .i64 z29)),(62,(.bool zhT))] [stb zg1 30 [(.int .i64 z5l.1.fN),(.int .i64 z5l.1.fD)],stb zcX 51 [(.int .i64 ((nth (zV.drop (z1d : Int).toNat) z29).fTime)),(.int .i64 ((nth (zV.drop (z1d : Int).toNat) z29).fVL)),(.int .i64 ((nth (zV.drop (z1d : Int).toNat) z29).fSize))]] 6 ?_ (fun _=>?_)
         ·rcases Bool.eq_false_or_eq_true z7J with hb' | hb'
          ·have zqr:=hb'; clear hb'
           have zg2:=ite_t zqq zqr
           obtain ⟨zm8,zxz,zg2⟩:=zd zg2
           replace zg2:=Option.some.inj zg2
           refine WL.pin (i:=56) rfl zqr ?_
           refine WL.a (d:=57) rfl rfl rfl (q_m rfl) ?_
           refine WL.a (d:=58) rfl rfl rfl (q_build (v:=(.agg #[(.int .i64 (i64 (z7p + ((nth (zV.drop (z1d : Int).toNat) z29).fSize)))),(.int .i64 1)])) (Eos.parts (l:=[.tmp 57,.const (.int .i64 1)]) (.cons rfl (.cons rfl .nil)) [0,1]) (fun _=>by kernel_rfl)) ?_
           refine WL.a (d:=59) rfl rfl rfl (q_loadA (cs:=[(.int .i64 z5l.1.fN),(.int .i64 z5l.1.fD)]) aggT_30 rfl rfl (rd_all .here)) ?_
           refine WL.b (dd:=60) rfl rfl rfl (zk (l:=[.tmp 58,.tmp 59]) Try.call18 (.cons rfl (.cons rfl .nil))) (.nil : Sel [stb zg1 30 [(.int .i64 z5l.1.fN),(.int .i64 z5l.1.fD)],stb zcX 51 [(.int .i64 ((nth (zV.drop (z1d : Int).toNat) z29).fTime)),(.int .i64 ((nth (zV.drop (z1d : Int).toNat) z29).fVL)),(.int .i64 ((nth (zV.drop (z1d : Int).toNat) z29).fSize))]] [] [stb zg1 30 [(.int .i64 z5l.1.fN),(.int .i64 z5l.1.fD)],stb zcX 51 [(.int .i64 ((nth (zV.drop (z1d : Int).toNat) z29).fTime)),(.int .i64 ((nth (zV.drop (z1d : Int).toNat) z29).fVL)),(.int .i64 ((nth (zV.drop (z1d : Int).toNat) z29).fSize))]]) (fun w hw=>by have pz:=(hz.call hw (.nil : Sel [stb zg1 30 [(.int .i64 z5l.1.fN),(.int .i64 z5l.1.fD)],stb zcX 51 [(.int .i64 ((nth (zV.drop (z1d : Int).toNat) z29).fTime)),(.int .i64 ((nth (zV.drop (z1d : Int).toNat) z29).fVL)),(.int .i64 ((nth (zV.drop (z1d : Int).toNat) z29).fSize))]] [] [stb zg1 30 [(.int .i64 z5l.1.fN),(.int .i64 z5l.1.fD)],stb zcX 51 [(.int .i64 ((nth (zV.drop (z1d : Int).toNat) z29).fTime)),(.int .i64 ((nth (zV.drop (z1d : Int).toNat) z29).fVL)),(.int .i64 ((nth (zV.drop (z1d : Int).toNat) z29).fSize))]])); exact w_rat_Cmp (Z:=_)  (z2d:=(⟨i64 (z7p + ((nth (zV.drop (z1d : Int).toNat) z29).fSize)),1⟩ : z2)) (z2e:=z5l.1) (r:=zm8) w pz  zxz) ?_
           refine WL.a (d:=61) rfl rfl rfl (q_leq rfl rfl) ?_
           refine WL.a (d:=62) rfl rfl rfl (q_pickT rfl rfl) ?_
           exact WL.cutEnd () trivial (.cons rfl (.cons rfl (.cons rfl (.cons rfl (.cons rfl (.cons rfl (.cons rfl (.cons rfl (.cons rfl (.cons rfl (.cons (zr zg2) .nil))))))))))) (.cons .here (.cons .here .nil))
          ·have zqs:=hb'; clear hb'
           have zmj:=ite_f zqq zqs
           replace zmj:=Option.some.inj zmj
           refine WL.pin (i:=56) rfl zqs ?_
           refine WL.e rfl rfl rfl ?_
           refine WL.e rfl rfl rfl ?_
           refine WL.e rfl rfl rfl ?_
           refine WL.e rfl rfl rfl ?_
           refine WL.e rfl rfl rfl ?_
           refine WL.a (d:=62) rfl rfl rfl (q_pickF rfl rfl) ?_
           exact WL.cutEnd () trivial (.cons rfl (.cons rfl (.cons rfl (.cons rfl (.cons rfl (.cons rfl (.cons rfl (.cons rfl (.cons rfl (.cons rfl (.cons (zr zmj) .nil))))))))))) (.cons .here (.cons .here .nil))
         ·skip
          refine WL.a (d:=6) rfl rfl rfl (q_z rfl) ?_
          refine WL.nil ?_
          refine WX.blockNormal ?_
          refine WX.a ?_
          refine WC.a ?_
          refine WL.a (d:=63) rfl rfl rfl (q_add rfl rfl rfl) ?_
          refine WL.a (d:=30) rfl rfl rfl (q_m rfl) ?_
          refine WL.nil ?_
          exact WX.round (G:=Nat × Bool × Int × Int) ⟨zm7,zhT,(i64 (z7p + ((nth (zV.drop (z1d : Int).toNat) z29).fSize))),(i64 (z29 + 1))⟩ h (Nat.lt_succ_self _) (.cons rfl (.cons rfl (.cons rfl (.cons rfl (.cons rfl (.cons rfl (.cons rfl (.cons rfl (.cons rfl (.cons rfl .nil)))))))))) .nil
       ·replace h:=ite_f h zmh
        refine WC.exit ?_
        refine WX.thenExit ?_
        refine WX.thenExit ?_
        refine WX.blockHit ?_
        exact WX.mid (G:=Bool) z7J h (.cons rfl (.cons rfl (.cons rfl (.cons rfl (.cons rfl .nil))))) .nil
      ·rintro zaJ h
       replace h:=(zxt zaJ).symm.trans h
       refine WX.blockNormal ?_
       exact WX.mid (G:=Bool) zaJ h (.cons rfl (.cons rfl (.cons rfl (.cons rfl (.cons rfl .nil))))) .nil
     ·rintro zaI h
      replace h:=(zxq zaI).symm.trans h
      refine WC.a ?_
      refine WL.a (d:=64) rfl rfl rfl (q_add rfl rfl rfl) ?_
      refine WL.a (d:=23) rfl rfl rfl (q_m rfl) ?_
      refine WL.nil ?_
      exact WX.round (G:=Nat × Bool × Int) ⟨zm9,zaI,(i64 (z1d + 1))⟩ h (Nat.lt_succ_self _) (.cons rfl (.cons rfl (.cons rfl (.cons rfl (.cons rfl .nil))))) .nil
    ·replace h:=ite_f h zmg
     refine WC.exit ?_
     refine WX.thenExit ?_
     refine WX.thenExit ?_
     refine WX.blockHit ?_
     exact WX.mid (G:=Bool) z85 h (.cons rfl .nil) .nil
   ·rintro zbC h
    replace h:=(zxp zbC).symm.trans h
    refine WC.b ?_
    refine WC.a ?_
    refine WL.a (d:=65) rfl rfl rfl (q_m rfl) ?_
    refine WL.a (d:=4) rfl rfl rfl (q_z rfl) ?_
    refine WL.a (d:=5) rfl rfl rfl (q_z rfl) ?_
    refine WL.nil ?_
    refine WX.a ?_
    refine WC.ret ?_
    obtain rfl:=Option.some.inj h
    refine WX.bpRet Try.results12 (.tmp rfl (.tmp rfl .nil)) (fun w hw=>?_)
    exact ⟨ret2 rfl rfl,hw.sub .nil⟩
def m_law03_Ints_L2 (z5X : List Int) (z6R : List Int) (zaK : Option Bool) : Nat → Int → Option Bool
 | 0,_=>none
 | zmk + 1,z6u=>if decide (z6u < ((z5X.length : Nat) : Int)) then chk ((0 : Int) ≤ z6u ∧ z6u < ((z5X.length : Nat) : Int)) (chk ((0 : Int) ≤ z6u ∧ z6u < ((z6R.length : Nat) : Int)) (if decide ((nth z5X z6u) ≠ (nth z6R z6u)) then some false else m_law03_Ints_L2 z5X z6R zaK zmk (i64 (z6u + 1)))) else zaK
theorem m_law03_Ints_L2_fuel {n : Nat} {z5X : List Int} {z6R : List Int} {zaK : Option Bool} {z6u : Int} {r : Bool} (h : m_law03_Ints_L2 z5X z6R zaK n z6u = some r) : ∃ m,n = m + 1:=by
 cases n with
 | zero=>cases h
 | succ m=>exact ⟨m,rfl⟩
def m_law03_Ints (z5X : List Int) (z6R : List Int) : Option Bool :=
 if decide (((z5X.length : Nat) : Int) ≠ ((z6R.length : Nat) : Int)) then some false else jp0 (some true) fun zaK=>m_law03_Ints_L2 z5X z6R zaK FUEL 0
set_option maxRecDepth 20000 in
theorem w_law03_Ints (Z : Zp)  (zek : Option Addr) (zel : Nat) (zem : Option Addr) (zen : Nat) (z5X : List Int) (z6R : List Int) (r : Bool) (w₀ : World) (hz : PZ [] w₀ Z)
  (zxA : ZS Z 1 (fun r x=>r = e3 x) zek zel z5X)
  (zxB : ZS Z 1 (fun r x=>r = e3 x) zem zen z6R)
  (h : m_law03_Ints z5X z6R = some r) :
  Calls Try.prog 38 #[(.slice zek z5X.length zel),(.slice zem z6R.length zen)] w₀ fun e w'=>e = .returned (.bool r) ∧ Hp [] w₀ w' []:=by
 unfold m_law03_Ints at h
 refine Calls.ofWC (vs:=[(.slice zek z5X.length zel),(.slice zem z6R.length zen)]) (pre:=[]) (env:=[(0,(.slice zek z5X.length zel)),(1,(.slice zem z6R.length zen))]) Try.func38 rfl Try.ntmps38 rfl (Hp.nil w₀ _) rfl ?_
 refine WC.b ?_
 refine WC.a ?_
 refine WL.a (d:=4) rfl rfl rfl (q_z rfl) ?_
 refine WL.nil ?_
 refine WX.a ?_
 refine WC.b ?_
 refine WC.b ?_
 refine WC.a ?_
 refine WL.a (d:=6) rfl rfl rfl (q_m rfl) ?_
 refine WL.a (d:=7) rfl rfl rfl (q_len Try.underlying45 rfl) ?_
 refine WL.a (d:=8) rfl rfl rfl (q_m rfl) ?_
 refine WL.a (d:=9) rfl rfl rfl (q_len Try.underlying45 rfl) ?_
 refine WL.a (d:=10) rfl rfl rfl (q_neq rfl rfl) ?_
 refine WL.nil ?_
 refine WX.a ?_
 refine WC.cond rfl (fun zml=>?_) (fun zml=>?_)
 ·replace h:=ite_t h zml
  refine WC.b ?_
  refine WC.a ?_
  refine WL.a (d:=4) rfl rfl rfl (q_z rfl) ?_
  refine WL.nil ?_
  refine WX.a ?_
  refine WC.ret ?_
  refine WX.thenRet ?_
  obtain rfl:=Option.some.inj h
  refine WX.bpRet Try.results38 (.tmp rfl .nil) (fun w hw=>?_)
  exact ⟨ret1 rfl,hw.sub .nil⟩
 ·replace h:=ite_f h zml
  refine WC.skip ?_
  refine WX.a ?_
  obtain ⟨zaK,zxC,h⟩:=jp0_elim h
  refine WC.seqMid0 ((zaK = some r)) ([]) ([]) ?_ ?_
  ·skip
   refine WC.b ?_
   refine WC.a ?_
   refine WL.a (d:=11) rfl rfl rfl (q_m rfl) ?_
   refine WL.a (d:=12) rfl rfl rfl (q_len Try.underlying45 rfl) ?_
   refine WL.a (d:=13) rfl rfl rfl (q_m rfl) ?_
   refine WL.nil ?_
   refine WX.a ?_
   refine WC.block ?_
   refine WC.loop2 (fun (zeo : Nat) (z6u : Int)=>(m_law03_Ints_L2 z5X z6R zaK zeo z6u = some r)) (fun (zeo : Nat) (z6u : Int)=>[(0,(.slice zek z5X.length zel)),(1,(.slice zem z6R.length zen)),(12,(.int .i64 ((z5X.length : Nat) : Int))),(13,(.int .i64 z6u))]) (fun (zeo : Nat) (z6u : Int)=>[]) (fun (zeo : Nat) (z6u : Int)=>zeo) ⟨FUEL,0⟩ h (.cons rfl (.cons rfl (.cons rfl (.cons rfl .nil)))) .nil ?_
   rintro zeo z6u h
   obtain ⟨zmk,rfl⟩:=m_law03_Ints_L2_fuel h
   rw [m_law03_Ints_L2] at h
   refine WC.b ?_
   refine WC.a ?_
   refine WL.a (d:=14) rfl rfl rfl (q_lss rfl rfl) ?_
   refine WL.nil ?_
   refine WX.a ?_
   refine WC.b ?_
   refine WC.cond rfl (fun zmm=>?_) (fun zmm=>?_)
   ·replace h:=ite_t h zmm
    refine WC.skip ?_
    refine WX.a ?_
    refine WC.b ?_
    refine WC.block ?_
    refine WC.b ?_
    refine WC.a ?_
    refine WL.a (d:=15) rfl rfl rfl (q_m rfl) ?_
    refine WL.a (d:=5) rfl rfl rfl (q_z rfl) ?_
    refine WL.nil ?_
    refine WX.a ?_
    refine WC.b ?_
    obtain ⟨zxD,h⟩:=chk_elim h
    obtain ⟨zxE,h⟩:=chk_elim h
    refine WC.draw (fun i=>[].contains i) [] rfl ?_
    refine WD.a (i:=0) (d:=16) (by kernel_rfl) rfl (z6 (by kernel_rfl)) (z7 (by kernel_rfl)) rfl rfl rfl (fun _=>q_m rfl) ?_
    refine WD.a (i:=1) (d:=17) (by kernel_rfl) rfl (z6 (by kernel_rfl)) (z7 (by kernel_rfl)) rfl rfl rfl (fun _=>q_m rfl) ?_
    refine WD.znth (j:=2) (dd:=18) (by kernel_rfl) rfl (z6 (by kernel_rfl)) (z7 (by kernel_rfl)) rfl rfl (Z:=Z) (Pr:=(fun r x=>r = e3 x)) elT_45 rfl rfl zxA zxD ?_
    rintro zBn zBo zxF zBp rfl
    refine WD.e (i:=3) (d:=19) (by kernel_rfl) rfl (z6 (by kernel_rfl)) (z7 (by kernel_rfl)) rfl rfl rfl (q_load1 oneT_3 rfl (rd_z hz.pv zxF rfl)) ?_
    refine WD.a (i:=4) (d:=20) (by kernel_rfl) rfl (z6 (by kernel_rfl)) (z7 (by kernel_rfl)) rfl rfl rfl (fun _=>q_m rfl) ?_
    refine WD.a (i:=5) (d:=21) (by kernel_rfl) rfl (z6 (by kernel_rfl)) (z7 (by kernel_rfl)) rfl rfl rfl (fun _=>q_m rfl) ?_
    refine WD.znth (j:=6) (dd:=22) (by kernel_rfl) rfl (z6 (by kernel_rfl)) (z7 (by kernel_rfl)) rfl rfl (Z:=Z) (Pr:=(fun r x=>r = e3 x)) elT_45 rfl rfl zxB zxE ?_
    rintro zBq zBr zxG zBs rfl
    refine WD.e (i:=7) (d:=23) (by kernel_rfl) rfl (z6 (by kernel_rfl)) (z7 (by kernel_rfl)) rfl rfl rfl (q_load1 oneT_3 rfl (rd_z hz.pv zxG rfl)) ?_
    refine WD.a (i:=8) (d:=24) (by kernel_rfl) rfl (z6 (by kernel_rfl)) (z7 (by kernel_rfl)) rfl rfl rfl (fun _=>q_neq rfl rfl) ?_
    refine WD.done (by kernel_rfl) ?_
    refine WX.a ?_
    refine WC.cond rfl (fun zmn=>?_) (fun zmn=>?_)
    ·replace h:=ite_t h zmn
     refine WC.b ?_
     refine WC.a ?_
     refine WL.a (d:=4) rfl rfl rfl (q_z rfl) ?_
     refine WL.nil ?_
     refine WX.a ?_
     refine WC.ret ?_
     refine WX.blockRet ?_
     refine WX.thenRet ?_
     refine WX.thenRet ?_
     refine WX.blockRet ?_
     refine WX.thenRet ?_
     obtain rfl:=Option.some.inj h
     refine WX.bpRet Try.results38 (.tmp rfl .nil) (fun w hw=>?_)
     exact ⟨ret1 rfl,hw.sub .nil⟩
    ·replace h:=ite_f h zmn
     refine WC.skip ?_
     refine WX.blockNormal ?_
     refine WX.a ?_
     refine WC.a ?_
     refine WL.a (d:=25) rfl rfl rfl (q_add rfl rfl rfl) ?_
     refine WL.a (d:=13) rfl rfl rfl (q_m rfl) ?_
     refine WL.nil ?_
     exact WX.round (G:=Nat × Int) ⟨zmk,(i64 (z6u + 1))⟩ h (Nat.lt_succ_self _) (.cons rfl (.cons rfl (.cons rfl (.cons rfl .nil)))) .nil
   ·replace h:=ite_f h zmm
    refine WC.exit ?_
    refine WX.thenExit ?_
    refine WX.thenExit ?_
    refine WX.blockHit ?_
    exact WX.mid (G:=Unit) () h .nil .nil
  ·rintro  h
   replace h:=zxC.symm.trans h
   refine WC.b ?_
   refine WC.a ?_
   refine WL.a (d:=4) rfl rfl rfl (q_z rfl) ?_
   refine WL.nil ?_
   refine WX.a ?_
   refine WC.ret ?_
   obtain rfl:=Option.some.inj h
   refine WX.bpRet Try.results38 (.tmp rfl .nil) (fun w hw=>?_)
   exact ⟨ret1 rfl,hw.sub .nil⟩
end Go.Proofs.Ytakfmdiiehcbdaa
