/- A part of this claim's proof: models of functions, walks, plain laws. No conditions. -/
import Derived.Test.YtakfmdiiehcbdaaGreatW03Zc
namespace Go.Proofs.YtakfmdiiehcbdaaGreat
open Go Go.RowKit Sep
set_option linter.all false
set_option maxRecDepth 30000
set_option maxHeartbeats 4000000
def m_calculus_search_max_R4 (z6H : List (List z1)) (z5Q : S41) (z3i : z2) (z2f : List z2) (z9b : Int) : Option (Bool × (Nat × List z2 × Int)) :=
 (m_calculus_Delay_1 (⟨z9b⟩ : z2c) z3i z6H z5Q).bind fun z3r=>(if decide (((z2f.length : Nat) : Int) = 0) then some true else chk ((0 : Int) ≤ 0 ∧ 0 < ((z2f.length : Nat) : Int)) ((m_rat_Cmp z3r.1 (⟨((nth z2f 0).fN),((nth z2f 0).fD)⟩ : z2)).bind fun zlP=>some (decide (zlP > 0)))).bind fun zlQ=>if zlQ then some (true,(0,([z3r.1] : List z2),z3r.2.fE)) else some (true,(0,z2f,z3r.2.fE))
def m_calculus_search_max (z1u : List (List z1)) (zm : S41) (z6H : List (List z1)) (z5Q : S41) (z1v : List z2) : Option (z2 × Int) :=
 (m_calculus_search_check z1u zm z6H z5Q z1v).bind fun zez=>if decide (zez ≠ 0) then some ((⟨0,0⟩ : z2),zez) else jp2 (fun (z9G : Int) (z6i : List z2)=>if decide (z9G ≠ 0) then some ((⟨0,0⟩ : z2),z9G) else chk ((0 : Int) ≤ 0 ∧ 0 < ((z6i.length : Nat) : Int)) (some ((⟨((nth z6i 0).fN),((nth z6i 0).fD)⟩ : z2),0))) fun zlR=>(m_calculus_search_points z1u zm z6H z5Q z1v).bind fun z1b=>(m_calculus_search_points_1 (Nat × List z2 × Int) (fun (x : z2) (s : Nat × List z2 × Int)=>chk (s.1 = 0) (m_calculus_search_max_R4 z6H z5Q x s.2.1 s.2.2)) (0,([] : List z2),0) z1u (⟨(⟨z1b.1,z1b.2.1⟩ : z2),(⟨z1b.2.2.1,z1b.2.2.2⟩ : z2)⟩ : S41) z6H z5Q z1v).bind fun z5R=>zlR z5R.2.2 z5R.2.1
set_option maxRecDepth 20000 in
theorem w_calculus_search_max (Z : Zp)  (z1J : Option Addr) (z1K : Nat) (z1D : Addr) (zd6 : Option Addr) (zd7 : Nat) (z1E : Addr) (z1L : Option Addr) (z1M : Nat) (z1u : List (List z1)) (zm : S41) (z6H : List (List z1)) (z5Q : S41) (z1v : List z2) (r : z2 × Int) (w₀ : World) (hz : PZ [] w₀ Z)
  (zlS : ZS Z 1 (p23 Z) z1J z1K z1u)
  (zi5 : ZS Z 1 (p23 Z) zd6 zd7 z6H)
  (zi6 : ZC Z z1D [(.slice zd6 z6H.length zd7)])
  (zi7 : ZC Z z1E [(.int .i64 z5Q.fRate.fN),(.int .i64 z5Q.fRate.fD),(.int .i64 z5Q.fLatency.fN),(.int .i64 z5Q.fLatency.fD)])
  (zlT : ZS Z 2 (fun r x=>r = e40 x) z1L z1M z1v)
  (h : m_calculus_search_max z1u zm z6H z5Q z1v = some r) :
  Calls Tryz.prog 35 #[(.agg #[(.slice z1J z1u.length z1K),(.int .i64 zm.fRate.fN),(.int .i64 zm.fRate.fD),(.int .i64 zm.fLatency.fN),(.int .i64 zm.fLatency.fD),(.func (.func 29) #[] #[(.pointer (some z1D)),(.pointer (some z1E))]),(.slice z1L z1v.length z1M)])] w₀ fun e w'=>∃ Zn : Zp,e = .returned (.tuple #[(.agg #[(.int .i64 r.1.fN),(.int .i64 r.1.fD)]),(.int .i64 r.2)]) ∧ True ∧ Hp [] w₀ w' [fz Zn]:=by
 unfold m_calculus_search_max at h
 refine Calls.ofWCM (vs:=[(.agg #[(.slice z1J z1u.length z1K),(.int .i64 zm.fRate.fN),(.int .i64 zm.fRate.fD),(.int .i64 zm.fLatency.fN),(.int .i64 zm.fLatency.fD),(.func (.func 29) #[] #[(.pointer (some z1D)),(.pointer (some z1E))]),(.slice z1L z1v.length z1M)])]) (pre:=[]) (env:=[(0,(.agg #[(.slice z1J z1u.length z1K),(.int .i64 zm.fRate.fN),(.int .i64 zm.fRate.fD),(.int .i64 zm.fLatency.fN),(.int .i64 zm.fLatency.fD),(.func (.func 29) #[] #[(.pointer (some z1D)),(.pointer (some z1E))]),(.slice z1L z1v.length z1M)]))]) Tryz.func35 rfl Tryz.ntmps35 rfl (Hp.nil w₀ _) rfl ?_
 refine WC.pool ?_
 refine WC.b ?_
 refine WC.a ?_
 refine WL.new (dd:=1) rfl rfl rfl (e_box (cs:=[(.slice z1J z1u.length z1K),(.int .i64 zm.fRate.fN),(.int .i64 zm.fRate.fD),(.int .i64 zm.fLatency.fN),(.int .i64 zm.fLatency.fD),(.func (.func 29) #[] #[(.pointer (some z1D)),(.pointer (some z1E))]),(.slice z1L z1v.length z1M)]) rfl rfl) ?_
 intro z2Z _
 refine WL.new (dd:=2) rfl rfl rfl (e_alloc (cs:=[(.int .i64 0),(.int .i64 0)]) zeroT_40 rfl) ?_
 intro z32 _
 refine WL.a (d:=3) rfl rfl rfl (q_z rfl) ?_
 refine WL.nil ?_
 refine WX.a ?_
 refine WC.b ?_
 refine WC.b ?_
 obtain ⟨zez,zxX,h⟩:=z8 h
 refine WC.a ?_
 refine WL.a (d:=9) rfl rfl rfl (q_loadA (cs:=[(.slice z1J z1u.length z1K),(.int .i64 zm.fRate.fN),(.int .i64 zm.fRate.fD),(.int .i64 zm.fLatency.fN),(.int .i64 zm.fLatency.fD),(.func (.func 29) #[] #[(.pointer (some z1D)),(.pointer (some z1E))]),(.slice z1L z1v.length z1M)]) aggT_67 rfl rfl (rd_all .h1)) ?_
 refine WL.enter1 (dd:=10) rfl rfl rfl (zi (l:=[.tmp 9]) Tryz.call54 (.cons rfl .nil)) (.nil : Sel [stb z32 40 [(.int .i64 0),(.int .i64 0)],stb z2Z 67 [(.slice z1J z1u.length z1K),(.int .i64 zm.fRate.fN),(.int .i64 zm.fRate.fD),(.int .i64 zm.fLatency.fN),(.int .i64 zm.fLatency.fD),(.func (.func 29) #[] #[(.pointer (some z1D)),(.pointer (some z1E))]),(.slice z1L z1v.length z1M)],fz []] [] [stb z32 40 [(.int .i64 0),(.int .i64 0)],stb z2Z 67 [(.slice z1J z1u.length z1K),(.int .i64 zm.fRate.fN),(.int .i64 zm.fRate.fD),(.int .i64 zm.fLatency.fN),(.int .i64 zm.fLatency.fD),(.func (.func 29) #[] #[(.pointer (some z1D)),(.pointer (some z1E))]),(.slice z1L z1v.length z1M)],fz []]) (fun w hw=>by have pz:=(hz.call2 hw (.nil : Sel [stb z32 40 [(.int .i64 0),(.int .i64 0)],stb z2Z 67 [(.slice z1J z1u.length z1K),(.int .i64 zm.fRate.fN),(.int .i64 zm.fRate.fD),(.int .i64 zm.fLatency.fN),(.int .i64 zm.fLatency.fD),(.func (.func 29) #[] #[(.pointer (some z1D)),(.pointer (some z1E))]),(.slice z1L z1v.length z1M)],fz []] [] [stb z32 40 [(.int .i64 0),(.int .i64 0)],stb z2Z 67 [(.slice z1J z1u.length z1K),(.int .i64 zm.fRate.fN),(.int .i64 zm.fRate.fD),(.int .i64 zm.fLatency.fN),(.int .i64 zm.fLatency.fD),(.func (.func 29) #[] #[(.pointer (some z1D)),(.pointer (some z1E))]),(.slice z1L z1v.length z1M)],fz []]) .h2); exact w_calculus_search_check (Z:=_) (z2n:=z1J) (z2o:=z1K) (z2B:=z1D) (zkZ:=zd6) (zl0:=zd7) (z2C:=z1E) (z2D:=z1L) (z2E:=z1M) (z1I:=z1u) (zk:=zm) (zfG:=z6H) (zcN:=z5Q) (z2m:=z1v) (r:=zez) w pz ((zlS.mono (Zle.left _ _)).weak (fun _ _ h=>p23_mono (Zle.left _ _) h)) ((zi5.mono (Zle.left _ _)).weak (fun _ _ h=>p23_mono (Zle.left _ _) h)) (zi6.mono (Zle.left _ _)) (zi7.mono (Zle.left _ _)) (zlT.mono (Zle.left _ _)) zxX) ?_
 rintro z5S _
 refine WL.merge .here .h2 ?_
 refine WL.a (d:=4) rfl rfl rfl (q_z rfl) ?_
 refine WL.nil ?_
 refine WX.a ?_
 refine WC.b ?_
 refine WC.a ?_
 refine WL.a (d:=11) rfl rfl rfl (q_m rfl) ?_
 refine WL.a (d:=12) rfl rfl rfl (q_neq rfl rfl) ?_
 refine WL.nil ?_
 refine WX.a ?_
 refine WC.cond rfl (fun zlU=>?_) (fun zlU=>?_)
 ·replace h:=ite_t h zlU
  refine WC.b ?_
  refine WC.a ?_
  refine WL.a (d:=13) rfl rfl rfl (q_build (v:=(.agg #[(.int .i64 0),(.int .i64 0)])) (Eos.parts (l:=[]) .nil []) (fun _=>by kernel_rfl)) ?_
  refine WL.a (d:=14) rfl rfl rfl (q_m rfl) ?_
  refine WL.eff0 rfl rfl (e_store (vs:=[(.int .i64 0),(.int .i64 0)]) (ds:=[(.int .i64 0),(.int .i64 0)]) sizT_40 rfl rfl rfl rfl (oc_cons rfl (oc_cons rfl oc_nil)) .h1 (Nat.le_of_ble_eq_true rfl) rfl) ?_
  refine WL.a (d:=3) rfl rfl rfl (q_z rfl) ?_
  refine WL.nil ?_
  refine WX.a ?_
  refine WC.ret ?_
  refine WX.thenRet ?_
  obtain rfl:=Option.some.inj h
  refine WX.bpRetM Tryz.results35 (.agg rfl aggT_40 rfl (rd_all .here) (.tmp rfl .nil)) (fun w hw=>?_)
  exact ⟨([] ++ z5S),ret2 rfl rfl,trivial,hw.sub (.cons .h1 .nil)⟩
 ·replace h:=ite_f h zlU
  refine WC.skip ?_
  refine WX.a ?_
  refine WC.b ?_
  refine WC.a ?_
  refine WL.new (dd:=5) rfl rfl rfl (e_alloc (cs:=[(.int .i64 0)]) zeroT_87 rfl) ?_
  intro z33 _
  refine WL.nil ?_
  refine WX.a ?_
  refine WC.b ?_
  refine WC.a ?_
  refine WL.new (dd:=6) rfl rfl rfl (e_alloc (cs:=[(.slice none 0 0)]) zeroT_65 rfl) ?_
  intro z3c _
  refine WL.nil ?_
  refine WX.a ?_
  obtain ⟨zlR,zxY,h⟩:=jp2_elim h
  refine WC.seqMidR6 (fun (zfZ : Nat) (z9G : Int) (z6i : List z2) (zd8 : Zp) (zg0 : Option Addr) (zg1 : Nat)=>(zlR z9G z6i = some r) ∧ (Zle (Z ++ ([] ++ z5S)) (Z ++ zd8))) (fun (zfZ : Nat) (z9G : Int) (z6i : List z2) (zd8 : Zp) (zg0 : Option Addr) (zg1 : Nat)=>[(2,(.pointer (some ⟨z32,0,none⟩))),(5,(.pointer (some ⟨z33,0,none⟩))),(6,(.pointer (some ⟨z3c,0,none⟩)))]) (fun (zfZ : Nat) (z9G : Int) (z6i : List z2) (zd8 : Zp) (zg0 : Option Addr) (zg1 : Nat)=>[fz zd8,stb z32 40 [(.int .i64 0),(.int .i64 0)],stb z33 87 [(.int .i64 z9G)],stb z3c 65 [(.slice zg0 z6i.length zg1)],row (.slice zg0 z6i.length zg1) 40 2 (z6i.flatMap e40),dfr zfZ]) ?_ ?_
  ·skip
   refine WC.b ?_
   obtain ⟨z1b,zxZ,h⟩:=z8 h
   refine WC.a ?_
   refine WL.a (d:=15) rfl rfl rfl (q_loadA (cs:=[(.slice z1J z1u.length z1K),(.int .i64 zm.fRate.fN),(.int .i64 zm.fRate.fD),(.int .i64 zm.fLatency.fN),(.int .i64 zm.fLatency.fD),(.func (.func 29) #[] #[(.pointer (some z1D)),(.pointer (some z1E))]),(.slice z1L z1v.length z1M)]) aggT_67 rfl rfl (rd_all .h4)) ?_
   refine WL.enter1 (dd:=16) rfl rfl rfl (zi (l:=[.tmp 15]) Tryz.call55 (.cons rfl .nil)) (.nil : Sel [stb z3c 65 [(.slice none 0 0)],stb z33 87 [(.int .i64 0)],fz ([] ++ z5S),stb z32 40 [(.int .i64 0),(.int .i64 0)],stb z2Z 67 [(.slice z1J z1u.length z1K),(.int .i64 zm.fRate.fN),(.int .i64 zm.fRate.fD),(.int .i64 zm.fLatency.fN),(.int .i64 zm.fLatency.fD),(.func (.func 29) #[] #[(.pointer (some z1D)),(.pointer (some z1E))]),(.slice z1L z1v.length z1M)]] [] [stb z3c 65 [(.slice none 0 0)],stb z33 87 [(.int .i64 0)],fz ([] ++ z5S),stb z32 40 [(.int .i64 0),(.int .i64 0)],stb z2Z 67 [(.slice z1J z1u.length z1K),(.int .i64 zm.fRate.fN),(.int .i64 zm.fRate.fD),(.int .i64 zm.fLatency.fN),(.int .i64 zm.fLatency.fD),(.func (.func 29) #[] #[(.pointer (some z1D)),(.pointer (some z1E))]),(.slice z1L z1v.length z1M)]]) (fun w hw=>by have pz:=(hz.call2 hw (.nil : Sel [stb z3c 65 [(.slice none 0 0)],stb z33 87 [(.int .i64 0)],fz ([] ++ z5S),stb z32 40 [(.int .i64 0),(.int .i64 0)],stb z2Z 67 [(.slice z1J z1u.length z1K),(.int .i64 zm.fRate.fN),(.int .i64 zm.fRate.fD),(.int .i64 zm.fLatency.fN),(.int .i64 zm.fLatency.fD),(.func (.func 29) #[] #[(.pointer (some z1D)),(.pointer (some z1E))]),(.slice z1L z1v.length z1M)]] [] [stb z3c 65 [(.slice none 0 0)],stb z33 87 [(.int .i64 0)],fz ([] ++ z5S),stb z32 40 [(.int .i64 0),(.int .i64 0)],stb z2Z 67 [(.slice z1J z1u.length z1K),(.int .i64 zm.fRate.fN),(.int .i64 zm.fRate.fD),(.int .i64 zm.fLatency.fN),(.int .i64 zm.fLatency.fD),(.func (.func 29) #[] #[(.pointer (some z1D)),(.pointer (some z1E))]),(.slice z1L z1v.length z1M)]]) .h2); exact w_calculus_search_points (Z:=_) (zcP:=z1J) (zcQ:=z1K) (zcR:=z1D) (zl8:=zd6) (zl9:=zd7) (zcS:=z1E) (zcT:=z1L) (zcU:=z1M) (zat:=z1u) (z4W:=zm) (zfK:=z6H) (zcO:=z5Q) (zau:=z1v) (r:=z1b) w pz ((zlS.mono ((Zle.left _ _).trans ((Zle.left _ _).trans (Zle.assoc _ _ _)))).weak (fun _ _ h=>p23_mono ((Zle.left _ _).trans ((Zle.left _ _).trans (Zle.assoc _ _ _))) h)) ((zi5.mono ((Zle.left _ _).trans ((Zle.left _ _).trans (Zle.assoc _ _ _)))).weak (fun _ _ h=>p23_mono ((Zle.left _ _).trans ((Zle.left _ _).trans (Zle.assoc _ _ _))) h)) (zi6.mono ((Zle.left _ _).trans ((Zle.left _ _).trans (Zle.assoc _ _ _)))) (zi7.mono ((Zle.left _ _).trans ((Zle.left _ _).trans (Zle.assoc _ _ _)))) (zlT.mono ((Zle.left _ _).trans ((Zle.left _ _).trans (Zle.assoc _ _ _)))) zxZ) ?_
   rintro z6j _
   refine WL.nil ?_
   refine WX.a ?_
   refine WC.block ?_
   refine WC.pool ?_
   refine WC.drop (.cons .here (.cons .h1 (.cons .h1 (.cons .h2 (.cons .h2 (.cons .here (.cons .here .nil))))))) ?_
   refine WC.nilRow 40 2 ?_
   refine WC.rangeFunc (f:=78) (caps:=[(.pointer (some ⟨z6j,0,none⟩))]) rfl Tryz.call78 ?_
   intro zDg zDh z4b z7G z4v zi8 zy0 zy1 w hw
   have hw1:=hw.selAll ((.cons .h3 (.cons .h3 (.cons .h2 (.cons .h2 (.cons .h2 (.cons .h2 (.cons .here .nil))))))) : Sel _ [fz [],stb z3c 65 [(.slice none (([] : List z2).length) 0)],row (.slice none (([] : List z2).length) 0) 40 2 (([] : List z2).flatMap e40),stb z33 87 [(.int .i64 0)],stb z32 40 [(.int .i64 0),(.int .i64 0)],stb z2Z 67 [(.slice z1J z1u.length z1K),(.int .i64 zm.fRate.fN),(.int .i64 zm.fRate.fD),(.int .i64 zm.fLatency.fN),(.int .i64 zm.fLatency.fD),(.func (.func 29) #[] #[(.pointer (some z1D)),(.pointer (some z1E))]),(.slice z1L z1v.length z1M)],blk z4b (z4v .ready none)] _)
   have pz:=(hz.call2 hw1 ((.cons .here .nil) : Sel [allA [fz [],stb z3c 65 [(.slice none (([] : List z2).length) 0)],row (.slice none (([] : List z2).length) 0) 40 2 (([] : List z2).flatMap e40),stb z33 87 [(.int .i64 0)],stb z32 40 [(.int .i64 0),(.int .i64 0)],stb z2Z 67 [(.slice z1J z1u.length z1K),(.int .i64 zm.fRate.fN),(.int .i64 zm.fRate.fD),(.int .i64 zm.fLatency.fN),(.int .i64 zm.fLatency.fD),(.func (.func 29) #[] #[(.pointer (some z1D)),(.pointer (some z1E))]),(.slice z1L z1v.length z1M)],blk z4b (z4v .ready none)],dfr z7G,stb z6j 67 [(.slice z1J z1u.length z1K),(.int .i64 z1b.1),(.int .i64 z1b.2.1),(.int .i64 z1b.2.2.1),(.int .i64 z1b.2.2.2),(.func (.func 29) #[] #[(.pointer (some z1D)),(.pointer (some z1E))]),(.slice z1L z1v.length z1M)],fz ([] ++ z5S)] [allA [fz [],stb z3c 65 [(.slice none (([] : List z2).length) 0)],row (.slice none (([] : List z2).length) 0) 40 2 (([] : List z2).flatMap e40),stb z33 87 [(.int .i64 0)],stb z32 40 [(.int .i64 0),(.int .i64 0)],stb z2Z 67 [(.slice z1J z1u.length z1K),(.int .i64 zm.fRate.fN),(.int .i64 zm.fRate.fD),(.int .i64 zm.fLatency.fN),(.int .i64 zm.fLatency.fD),(.func (.func 29) #[] #[(.pointer (some z1D)),(.pointer (some z1E))]),(.slice z1L z1v.length z1M)],blk z4b (z4v .ready none)]] [dfr z7G,stb z6j 67 [(.slice z1J z1u.length z1K),(.int .i64 z1b.1),(.int .i64 z1b.2.1),(.int .i64 z1b.2.2.1),(.int .i64 z1b.2.2.2),(.func (.func 29) #[] #[(.pointer (some z1D)),(.pointer (some z1E))]),(.slice z1L z1v.length z1M)],fz ([] ++ z5S)]) .h2).lend hw1 ((.cons .here .nil) : Sel [allA [fz [],stb z3c 65 [(.slice none (([] : List z2).length) 0)],row (.slice none (([] : List z2).length) 0) 40 2 (([] : List z2).flatMap e40),stb z33 87 [(.int .i64 0)],stb z32 40 [(.int .i64 0),(.int .i64 0)],stb z2Z 67 [(.slice z1J z1u.length z1K),(.int .i64 zm.fRate.fN),(.int .i64 zm.fRate.fD),(.int .i64 zm.fLatency.fN),(.int .i64 zm.fLatency.fD),(.func (.func 29) #[] #[(.pointer (some z1D)),(.pointer (some z1E))]),(.slice z1L z1v.length z1M)],blk z4b (z4v .ready none)],dfr z7G,stb z6j 67 [(.slice z1J z1u.length z1K),(.int .i64 z1b.1),(.int .i64 z1b.2.1),(.int .i64 z1b.2.2.1),(.int .i64 z1b.2.2.2),(.func (.func 29) #[] #[(.pointer (some z1D)),(.pointer (some z1E))]),(.slice z1L z1v.length z1M)],fz ([] ++ z5S)] [allA [fz [],stb z3c 65 [(.slice none (([] : List z2).length) 0)],row (.slice none (([] : List z2).length) 0) 40 2 (([] : List z2).flatMap e40),stb z33 87 [(.int .i64 0)],stb z32 40 [(.int .i64 0),(.int .i64 0)],stb z2Z 67 [(.slice z1J z1u.length z1K),(.int .i64 zm.fRate.fN),(.int .i64 zm.fRate.fD),(.int .i64 zm.fLatency.fN),(.int .i64 zm.fLatency.fD),(.func (.func 29) #[] #[(.pointer (some z1D)),(.pointer (some z1E))]),(.slice z1L z1v.length z1M)],blk z4b (z4v .ready none)]] [dfr z7G,stb z6j 67 [(.slice z1J z1u.length z1K),(.int .i64 z1b.1),(.int .i64 z1b.2.1),(.int .i64 z1b.2.2.1),(.int .i64 z1b.2.2.2),(.func (.func 29) #[] #[(.pointer (some z1D)),(.pointer (some z1E))]),(.slice z1L z1v.length z1M)],fz ([] ++ z5S)]) (B:=[stb z6j 67 [(.slice z1J z1u.length z1K),(.int .i64 z1b.1),(.int .i64 z1b.2.1),(.int .i64 z1b.2.2.1),(.int .i64 z1b.2.2.2),(.func (.func 29) #[] #[(.pointer (some z1D)),(.pointer (some z1E))]),(.slice z1L z1v.length z1M)]]) (fun _ hx'=>((.cons .h1 .nil) : Sel _ [stb z6j 67 [(.slice z1J z1u.length z1K),(.int .i64 z1b.1),(.int .i64 z1b.2.1),(.int .i64 z1b.2.2.1),(.int .i64 z1b.2.2.2),(.func (.func 29) #[] #[(.pointer (some z1D)),(.pointer (some z1E))]),(.slice z1L z1v.length z1M)]] _).mem hx')
   obtain ⟨z5R,zy2,h⟩:=z8 h
   refine Calls.mono (w_calculus_search_points_1 (Z:=_) (z7U:=z4b) (z2p:=(Option Addr × Nat)) (z1p:=(fun (g : Option Addr × Nat) (s : Nat × List z2 × Int)=>allA ([fz [],stb z3c 65 [(.slice g.1 s.2.1.length g.2)],row (.slice g.1 s.2.1.length g.2) 40 2 (s.2.1.flatMap e40),stb z33 87 [(.int .i64 s.2.2)],stb z32 40 [(.int .i64 0),(.int .i64 0)],stb z2Z 67 [(.slice z1J z1u.length z1K),(.int .i64 zm.fRate.fN),(.int .i64 zm.fRate.fD),(.int .i64 zm.fLatency.fN),(.int .i64 zm.fLatency.fD),(.func (.func 29) #[] #[(.pointer (some z1D)),(.pointer (some z1E))]),(.slice z1L z1v.length z1M)]] ++ [blk z4b (z4v (rdy (pcs [] s.1)) (pcs [] s.1))]))) (z7V:=(fun (g : Option Addr × Nat) (s : Nat × List z2 × Int)=>True)) (z7E:=(none,0)) (z95:=⟨z6j,0,none⟩) (zbI:=z1J) (zbJ:=z1K) (zlk:=z1D) (zll:=zd6) (zlm:=zd7) (zln:=z1E) (zfO:=z1L) (zfP:=z1M) (zs:=(Nat × List z2 × Int)) (z49:=(fun (x : z2) (s : Nat × List z2 × Int)=>chk (s.1 = 0) (m_calculus_search_max_R4 z6H z5Q x s.2.1 s.2.2))) (s0_14112:=(0,([] : List z2),0)) (z4q:=z1u) (zcV:=(⟨(⟨z1b.1,z1b.2.1⟩ : z2),(⟨z1b.2.2.1,z1b.2.2.2⟩ : z2)⟩ : S41)) (zfN:=z6H) (zcW:=z5Q) (z1e:=z1v) (r:=z5R) w pz ?_ trivial ((((zlS.mono ((Zle.left _ _).trans ((Zle.left _ _).trans (Zle.assoc _ _ _)))).weak (fun _ _ h=>p23_mono ((Zle.left _ _).trans ((Zle.left _ _).trans (Zle.assoc _ _ _))) h)).mono (Zle.left _ _)).weak (fun _ _ h=>p23_mono (Zle.left _ _) h)) ((((zi5.mono ((Zle.left _ _).trans ((Zle.left _ _).trans (Zle.assoc _ _ _)))).weak (fun _ _ h=>p23_mono ((Zle.left _ _).trans ((Zle.left _ _).trans (Zle.assoc _ _ _))) h)).mono (Zle.left _ _)).weak (fun _ _ h=>p23_mono (Zle.left _ _) h)) ((zi6.mono ((Zle.left _ _).trans ((Zle.left _ _).trans (Zle.assoc _ _ _)))).mono (Zle.left _ _)) ((zi7.mono ((Zle.left _ _).trans ((Zle.left _ _).trans (Zle.assoc _ _ _)))).mono (Zle.left _ _)) ((zlT.mono ((Zle.left _ _).trans ((Zle.left _ _).trans (Zle.assoc _ _ _)))).mono (Zle.left _ _)) ((hw1.lent ((.cons .here .nil) : Sel [allA [fz [],stb z3c 65 [(.slice none (([] : List z2).length) 0)],row (.slice none (([] : List z2).length) 0) 40 2 (([] : List z2).flatMap e40),stb z33 87 [(.int .i64 0)],stb z32 40 [(.int .i64 0),(.int .i64 0)],stb z2Z 67 [(.slice z1J z1u.length z1K),(.int .i64 zm.fRate.fN),(.int .i64 zm.fRate.fD),(.int .i64 zm.fLatency.fN),(.int .i64 zm.fLatency.fD),(.func (.func 29) #[] #[(.pointer (some z1D)),(.pointer (some z1E))]),(.slice z1L z1v.length z1M)],blk z4b (z4v .ready none)],dfr z7G,stb z6j 67 [(.slice z1J z1u.length z1K),(.int .i64 z1b.1),(.int .i64 z1b.2.1),(.int .i64 z1b.2.2.1),(.int .i64 z1b.2.2.2),(.func (.func 29) #[] #[(.pointer (some z1D)),(.pointer (some z1E))]),(.slice z1L z1v.length z1M)],fz ([] ++ z5S)] [allA [fz [],stb z3c 65 [(.slice none (([] : List z2).length) 0)],row (.slice none (([] : List z2).length) 0) 40 2 (([] : List z2).flatMap e40),stb z33 87 [(.int .i64 0)],stb z32 40 [(.int .i64 0),(.int .i64 0)],stb z2Z 67 [(.slice z1J z1u.length z1K),(.int .i64 zm.fRate.fN),(.int .i64 zm.fRate.fD),(.int .i64 zm.fLatency.fN),(.int .i64 zm.fLatency.fD),(.func (.func 29) #[] #[(.pointer (some z1D)),(.pointer (some z1E))]),(.slice z1L z1v.length z1M)],blk z4b (z4v .ready none)]] [dfr z7G,stb z6j 67 [(.slice z1J z1u.length z1K),(.int .i64 z1b.1),(.int .i64 z1b.2.1),(.int .i64 z1b.2.2.1),(.int .i64 z1b.2.2.2),(.func (.func 29) #[] #[(.pointer (some z1D)),(.pointer (some z1E))]),(.slice z1L z1v.length z1M)],fz ([] ++ z5S)]) (B:=[stb z6j 67 [(.slice z1J z1u.length z1K),(.int .i64 z1b.1),(.int .i64 z1b.2.1),(.int .i64 z1b.2.2.1),(.int .i64 z1b.2.2.2),(.func (.func 29) #[] #[(.pointer (some z1D)),(.pointer (some z1E))]),(.slice z1L z1v.length z1M)]]) (fun _ hx'=>((.cons .h1 .nil) : Sel _ [stb z6j 67 [(.slice z1J z1u.length z1K),(.int .i64 z1b.1),(.int .i64 z1b.2.1),(.int .i64 z1b.2.2.1),(.int .i64 z1b.2.2.2),(.func (.func 29) #[] #[(.pointer (some z1D)),(.pointer (some z1E))]),(.slice z1L z1v.length z1M)]] _).mem hx') (.head _) _).stb) zy2 (hw1.owns ((.cons .here .nil) : Sel [allA [fz [],stb z3c 65 [(.slice none (([] : List z2).length) 0)],row (.slice none (([] : List z2).length) 0) 40 2 (([] : List z2).flatMap e40),stb z33 87 [(.int .i64 0)],stb z32 40 [(.int .i64 0),(.int .i64 0)],stb z2Z 67 [(.slice z1J z1u.length z1K),(.int .i64 zm.fRate.fN),(.int .i64 zm.fRate.fD),(.int .i64 zm.fLatency.fN),(.int .i64 zm.fLatency.fD),(.func (.func 29) #[] #[(.pointer (some z1D)),(.pointer (some z1E))]),(.slice z1L z1v.length z1M)],blk z4b (z4v .ready none)],dfr z7G,stb z6j 67 [(.slice z1J z1u.length z1K),(.int .i64 z1b.1),(.int .i64 z1b.2.1),(.int .i64 z1b.2.2.1),(.int .i64 z1b.2.2.2),(.func (.func 29) #[] #[(.pointer (some z1D)),(.pointer (some z1E))]),(.slice z1L z1v.length z1M)],fz ([] ++ z5S)] [allA [fz [],stb z3c 65 [(.slice none (([] : List z2).length) 0)],row (.slice none (([] : List z2).length) 0) 40 2 (([] : List z2).flatMap e40),stb z33 87 [(.int .i64 0)],stb z32 40 [(.int .i64 0),(.int .i64 0)],stb z2Z 67 [(.slice z1J z1u.length z1K),(.int .i64 zm.fRate.fN),(.int .i64 zm.fRate.fD),(.int .i64 zm.fLatency.fN),(.int .i64 zm.fLatency.fD),(.func (.func 29) #[] #[(.pointer (some z1D)),(.pointer (some z1E))]),(.slice z1L z1v.length z1M)],blk z4b (z4v .ready none)]] [dfr z7G,stb z6j 67 [(.slice z1J z1u.length z1K),(.int .i64 z1b.1),(.int .i64 z1b.2.1),(.int .i64 z1b.2.2.1),(.int .i64 z1b.2.2.2),(.func (.func 29) #[] #[(.pointer (some z1D)),(.pointer (some z1E))]),(.slice z1L z1v.length z1M)],fz ([] ++ z5S)]))) ?_
   ·skip
    refine yieldP_of (LI:=(fun (g : Option Addr × Nat) (s : Nat × List z2 × Int)=>[fz [],stb z3c 65 [(.slice g.1 s.2.1.length g.2)],row (.slice g.1 s.2.1.length g.2) 40 2 (s.2.1.flatMap e40),stb z33 87 [(.int .i64 s.2.2)],stb z32 40 [(.int .i64 0),(.int .i64 0)],stb z2Z 67 [(.slice z1J z1u.length z1K),(.int .i64 zm.fRate.fN),(.int .i64 zm.fRate.fD),(.int .i64 zm.fLatency.fN),(.int .i64 zm.fLatency.fD),(.func (.func 29) #[] #[(.pointer (some z1D)),(.pointer (some z1E))]),(.slice z1L z1v.length z1M)]])) (pc:=(fun (s : Nat × List z2 × Int)=>pcs [] s.1)) zi8 zy0 zy1 (fun _ _=>rfl) (by decide) ?_
    rintro z3i _ ⟨z6k,z5k⟩ ⟨zy3,z2f,z9b⟩ zy4 zy5 Fb wb zr3 _ hz
    replace hz:=hz.left
    letI : Rnd:=inR z4b
    obtain ⟨hp0,z7Z⟩:=chk_elim zr3
    replace hp0 : zy3 = 0:=hp0; subst hp0; clear zr3
    replace z7Z : m_calculus_search_max_R4 z6H z5Q z3i z2f z9b = some (zy4,zy5):=z7Z
    unfold m_calculus_search_max_R4 at z7Z
    refine WC.restr (env':=[(1,(.pointer (some ⟨z2Z,0,none⟩))),(12,(.bool (decide (zez ≠ 0)))),(5,(.pointer (some ⟨z33,0,none⟩))),(6,(.pointer (some ⟨z3c,0,none⟩))),(17,(.agg #[(.int .i64 z3i.fN),(.int .i64 z3i.fD)]))]) (.cons rfl (.cons rfl (.cons rfl (.cons rfl (.cons rfl .nil))))) ?_
    refine WC.eqL (L':=[fz [],stb z3c 65 [(.slice z6k z2f.length z5k)],row (.slice z6k z2f.length z5k) 40 2 (z2f.flatMap e40),stb z33 87 [(.int .i64 z9b)],stb z32 40 [(.int .i64 0),(.int .i64 0)],stb z2Z 67 [(.slice z1J z1u.length z1K),(.int .i64 zm.fRate.fN),(.int .i64 zm.fRate.fD),(.int .i64 zm.fLatency.fN),(.int .i64 zm.fLatency.fD),(.func (.func 29) #[] #[(.pointer (some z1D)),(.pointer (some z1E))]),(.slice z1L z1v.length z1M)],blk z4b (z4v .ready none)]) rfl ?_
    refine WC.a ?_
    refine WL.new (dd:=7) rfl rfl rfl (e_alloc (cs:=[(.int .i64 0),(.int .i64 0)]) zeroT_40 rfl) ?_
    intro zaI _
    refine WL.eff0 rfl rfl (e_store (vs:=[(.int .i64 z3i.fN),(.int .i64 z3i.fD)]) (ds:=[(.int .i64 z3i.fN),(.int .i64 z3i.fD)]) sizT_40 rfl rfl rfl rfl (oc_cons rfl (oc_cons rfl oc_nil)) .here (Nat.le_of_ble_eq_true rfl) rfl) ?_
    refine WL.nil ?_
    refine WX.begin zi8 .h7 ?_
    refine WC.block ?_
    refine WC.b ?_
    obtain ⟨z3r,zy6,z7Z⟩:=z8 z7Z
    refine WC.a ?_
    refine WL.a (d:=18) rfl rfl rfl (q_fieldAddr fo_67_2 rfl rfl) ?_
    refine WL.a (d:=19) rfl rfl rfl (q_load1 oneT_64 rfl (rd_stb .h7 rfl)) ?_
    refine WL.a (d:=20) rfl rfl rfl (q_loadA (cs:=[(.int .i64 z3i.fN),(.int .i64 z3i.fD)]) aggT_40 rfl rfl (rd_all .h1)) ?_
    refine WL.b (dd:=21) rfl rfl rfl (run_callv (l:=[.tmp 5,.tmp 20]) Tryz.call29 rfl (.cons rfl (.cons rfl .nil))) ((.cons .h5 .nil) : Sel [blk z4b (z4v .busy none),stb zaI 40 [(.int .i64 z3i.fN),(.int .i64 z3i.fD)],fz [],stb z3c 65 [(.slice z6k z2f.length z5k)],row (.slice z6k z2f.length z5k) 40 2 (z2f.flatMap e40),stb z33 87 [(.int .i64 z9b)],stb z32 40 [(.int .i64 0),(.int .i64 0)],stb z2Z 67 [(.slice z1J z1u.length z1K),(.int .i64 zm.fRate.fN),(.int .i64 zm.fRate.fD),(.int .i64 zm.fLatency.fN),(.int .i64 zm.fLatency.fD),(.func (.func 29) #[] #[(.pointer (some z1D)),(.pointer (some z1E))]),(.slice z1L z1v.length z1M)]] [stb z33 87 [(.int .i64 z9b)]] [blk z4b (z4v .busy none),stb zaI 40 [(.int .i64 z3i.fN),(.int .i64 z3i.fD)],fz [],stb z3c 65 [(.slice z6k z2f.length z5k)],row (.slice z6k z2f.length z5k) 40 2 (z2f.flatMap e40),stb z32 40 [(.int .i64 0),(.int .i64 0)],stb z2Z 67 [(.slice z1J z1u.length z1K),(.int .i64 zm.fRate.fN),(.int .i64 zm.fRate.fD),(.int .i64 zm.fLatency.fN),(.int .i64 zm.fLatency.fD),(.func (.func 29) #[] #[(.pointer (some z1D)),(.pointer (some z1E))]),(.slice z1L z1v.length z1M)]]) (fun w hw=>by have pz:=(hz.call2 hw ((.cons .h5 .nil) : Sel [blk z4b (z4v .busy none),stb zaI 40 [(.int .i64 z3i.fN),(.int .i64 z3i.fD)],fz [],stb z3c 65 [(.slice z6k z2f.length z5k)],row (.slice z6k z2f.length z5k) 40 2 (z2f.flatMap e40),stb z33 87 [(.int .i64 z9b)],stb z32 40 [(.int .i64 0),(.int .i64 0)],stb z2Z 67 [(.slice z1J z1u.length z1K),(.int .i64 zm.fRate.fN),(.int .i64 zm.fRate.fD),(.int .i64 zm.fLatency.fN),(.int .i64 zm.fLatency.fD),(.func (.func 29) #[] #[(.pointer (some z1D)),(.pointer (some z1E))]),(.slice z1L z1v.length z1M)]] [stb z33 87 [(.int .i64 z9b)]] [blk z4b (z4v .busy none),stb zaI 40 [(.int .i64 z3i.fN),(.int .i64 z3i.fD)],fz [],stb z3c 65 [(.slice z6k z2f.length z5k)],row (.slice z6k z2f.length z5k) 40 2 (z2f.flatMap e40),stb z32 40 [(.int .i64 0),(.int .i64 0)],stb z2Z 67 [(.slice z1J z1u.length z1K),(.int .i64 zm.fRate.fN),(.int .i64 zm.fRate.fD),(.int .i64 zm.fLatency.fN),(.int .i64 zm.fLatency.fD),(.func (.func 29) #[] #[(.pointer (some z1D)),(.pointer (some z1E))]),(.slice z1L z1v.length z1M)]]) .h2); exact w_calculus_Delay_1 (Z:=_) (z2Y:=z33) (zfX:=z1D) (zi3:=zd6) (zi4:=zd7) (zfY:=z1E) (z75:=(⟨z9b⟩ : z2c)) (z1g:=z3i) (zd5:=z6H) (z7i:=z5Q) (r:=z3r) w pz ((zi5.mono ((Zle.left _ _).trans ((Zle.left _ _).trans ((Zle.assoc _ _ _).trans (Zle.left _ _))))).weak (fun _ _ h=>p23_mono ((Zle.left _ _).trans ((Zle.left _ _).trans ((Zle.assoc _ _ _).trans (Zle.left _ _)))) h)) (zi6.mono ((Zle.left _ _).trans ((Zle.left _ _).trans ((Zle.assoc _ _ _).trans (Zle.left _ _))))) (zi7.mono ((Zle.left _ _).trans ((Zle.left _ _).trans ((Zle.assoc _ _ _).trans (Zle.left _ _))))) zy6 (hw.owns ((.cons .h5 .nil) : Sel [blk z4b (z4v .busy none),stb zaI 40 [(.int .i64 z3i.fN),(.int .i64 z3i.fD)],fz [],stb z3c 65 [(.slice z6k z2f.length z5k)],row (.slice z6k z2f.length z5k) 40 2 (z2f.flatMap e40),stb z33 87 [(.int .i64 z9b)],stb z32 40 [(.int .i64 0),(.int .i64 0)],stb z2Z 67 [(.slice z1J z1u.length z1K),(.int .i64 zm.fRate.fN),(.int .i64 zm.fRate.fD),(.int .i64 zm.fLatency.fN),(.int .i64 zm.fLatency.fD),(.func (.func 29) #[] #[(.pointer (some z1D)),(.pointer (some z1E))]),(.slice z1L z1v.length z1M)]] [stb z33 87 [(.int .i64 z9b)]] [blk z4b (z4v .busy none),stb zaI 40 [(.int .i64 z3i.fN),(.int .i64 z3i.fD)],fz [],stb z3c 65 [(.slice z6k z2f.length z5k)],row (.slice z6k z2f.length z5k) 40 2 (z2f.flatMap e40),stb z32 40 [(.int .i64 0),(.int .i64 0)],stb z2Z 67 [(.slice z1J z1u.length z1K),(.int .i64 zm.fRate.fN),(.int .i64 zm.fRate.fD),(.int .i64 zm.fLatency.fN),(.int .i64 zm.fLatency.fD),(.func (.func 29) #[] #[(.pointer (some z1D)),(.pointer (some z1E))]),(.slice z1L z1v.length z1M)]]))) ?_
    refine WL.new (dd:=8) rfl rfl rfl (e_alloc (cs:=[(.int .i64 0),(.int .i64 0)]) zeroT_40 rfl) ?_
    intro zlV _
    refine WL.eff0 rfl rfl (e_store (vs:=[(.int .i64 z3r.1.fN),(.int .i64 z3r.1.fD)]) (ds:=[(.int .i64 z3r.1.fN),(.int .i64 z3r.1.fD)]) sizT_40 rfl rfl rfl rfl (oc_cons rfl (oc_cons rfl oc_nil)) .here (Nat.le_of_ble_eq_true rfl) rfl) ?_
    refine WL.nil ?_
    refine WX.a ?_
    refine WC.b ?_
    obtain ⟨zlQ,zr4,z7Z⟩:=z8 z7Z
    refine WC.draw (fun i=>[].contains i) [] rfl ?_
    refine WD.e (i:=0) (d:=22) (by kernel_rfl) rfl (z6 (by kernel_rfl)) (z7 (by kernel_rfl)) rfl rfl rfl (q_load1 oneT_65 rfl (rd_stb .h5 rfl)) ?_
    refine WD.a (i:=1) (d:=23) (by kernel_rfl) rfl (z6 (by kernel_rfl)) (z7 (by kernel_rfl)) rfl rfl rfl (fun _=>q_len Tryz.underlying65 rfl) ?_
    refine WD.a (i:=2) (d:=24) (by kernel_rfl) rfl (z6 (by kernel_rfl)) (z7 (by kernel_rfl)) rfl rfl rfl (fun _=>q_eql rfl rfl) ?_
    refine WD.a (i:=3) (d:=25) (by kernel_rfl) rfl (z6 (by kernel_rfl)) (z7 (by kernel_rfl)) rfl rfl rfl (fun _=>q_m rfl) ?_
    refine WD.mid (fuel':=0) [(1,(.pointer (some ⟨z2Z,0,none⟩))),(12,(.bool (decide (zez ≠ 0)))),(5,(.pointer (some ⟨z33,0,none⟩))),(6,(.pointer (some ⟨z3c,0,none⟩))),(17,(.agg #[(.int .i64 z3i.fN),(.int .i64 z3i.fD)])),(7,(.pointer (some ⟨zaI,0,none⟩))),(18,(.pointer (some ⟨z2Z,5,none⟩))),(19,(.func (.func 29) #[] #[(.pointer (some z1D)),(.pointer (some z1E))])),(20,(.agg #[(.int .i64 z3i.fN),(.int .i64 z3i.fD)])),(21,(.agg #[(.int .i64 z3r.1.fN),(.int .i64 z3r.1.fD)])),(8,(.pointer (some ⟨zlV,0,none⟩))),(22,(.slice z6k z2f.length z5k)),(23,(.int .i64 ((z2f.length : Nat) : Int))),(24,(.bool (decide (((z2f.length : Nat) : Int) = 0)))),(25,(.bool (decide (((z2f.length : Nat) : Int) = 0)))),(32,(.bool zlQ))] (listedA 11 [10,9,8,7,6,5,4,3,2,1,0]) ?_ (fun zr5=>?_)
    rotate_left
    ·rcases Bool.eq_false_or_eq_true (decide (((z2f.length : Nat) : Int) = 0)) with hb' | hb'
     ·have zlW:=hb'; clear hb'
      have zlX:=ite_t zr4 zlW
      replace zlX:=Option.some.inj zlX
      refine WD.pin (i:=25) rfl zlW ?_
      refine WD.b (i:=4) (d:=26) (by kernel_rfl) rfl (z6 (by kernel_rfl)) (z7 (by kernel_rfl)) rfl rfl rfl ?_
      refine WD.b (i:=5) (d:=27) (by kernel_rfl) rfl (z6 (by kernel_rfl)) (z7 (by kernel_rfl)) rfl rfl rfl ?_
      refine WD.b (i:=6) (d:=28) (by kernel_rfl) rfl (z6 (by kernel_rfl)) (z7 (by kernel_rfl)) rfl rfl rfl ?_
      refine WD.b (i:=7) (d:=29) (by kernel_rfl) rfl (z6 (by kernel_rfl)) (z7 (by kernel_rfl)) rfl rfl rfl ?_
      refine WD.b (i:=8) (d:=30) (by kernel_rfl) rfl (z6 (by kernel_rfl)) (z7 (by kernel_rfl)) rfl rfl rfl ?_
      refine WD.b (i:=9) (d:=31) (by kernel_rfl) rfl (z6 (by kernel_rfl)) (z7 (by kernel_rfl)) rfl rfl rfl ?_
      refine WD.a (i:=10) (d:=32) (by kernel_rfl) rfl (z6 (by kernel_rfl)) (z7 (by kernel_rfl)) rfl rfl rfl (fun _=>q_pickT rfl rfl) ?_
      refine WD.reL (.cons .here (.cons .here (.cons .here (.cons .here (.cons .here (.cons .here (.cons .here (.cons .here (.cons .here .nil))))))))) ?_ zr5
      exact (.cons rfl (.cons rfl (.cons rfl (.cons rfl (.cons rfl (.cons rfl (.cons rfl (.cons rfl (.cons rfl (.cons rfl (.cons rfl (.cons rfl (.cons rfl (.cons rfl (.cons (zf (Eq.symm zlW)) (.cons (zf zlX) .nil))))))))))))))))
     ·have zlY:=hb'; clear hb'
      have zd9:=ite_f zr4 zlY
      obtain ⟨zg2,zd9⟩:=chk_elim zd9
      obtain ⟨zlP,zy7,zd9⟩:=z8 zd9
      replace zd9:=Option.some.inj zd9
      refine WD.pin (i:=25) rfl zlY ?_
      refine WD.e (i:=4) (d:=26) (by kernel_rfl) rfl (z6 (by kernel_rfl)) (z7 (by kernel_rfl)) rfl rfl rfl (q_loadA (cs:=[(.int .i64 z3r.1.fN),(.int .i64 z3r.1.fD)]) aggT_40 rfl rfl (rd_all .here)) ?_
      refine WD.e (i:=5) (d:=27) (by kernel_rfl) rfl (z6 (by kernel_rfl)) (z7 (by kernel_rfl)) rfl rfl rfl (q_load1 oneT_65 rfl (rd_stb .h5 rfl)) ?_
      refine WD.know (fun w hw=>Hp.expose .h6 hw (by intro hz'; have:=zg2; rw [hz'] at this; omega)) ?_
      rintro ⟨zi9,rfl⟩
      refine WD.a (i:=6) (d:=28) (by kernel_rfl) rfl (z6 (by kernel_rfl)) (z7 (by kernel_rfl)) rfl rfl rfl (fun _=>q_indexAddr elT_65 rfl rfl zg2.1 zg2.2 rowAdd) ?_
      refine WD.e (i:=7) (d:=29) (by kernel_rfl) rfl (z6 (by kernel_rfl)) (z7 (by kernel_rfl)) rfl rfl rfl (q_loadA (cs:=(e40 (nth z2f 0))) aggT_40 rfl rfl (rd_rows .h6 (flat_rd (enc:=e40) (l:=z2f) (i:=0) (sz:=2) (fun _=>rfl) zg2.1 zg2.2))) ?_
      refine WD.c (i:=8) (d:=30) (by kernel_rfl) rfl (z6 (by kernel_rfl)) (z7 (by kernel_rfl)) rfl rfl rfl (zi (l:=[.tmp 26,.tmp 29]) Tryz.call24 (.cons rfl (.cons rfl .nil))) (fun w hw=>by have pz:=(hz.call2 hw (.nil : Sel [stb zlV 40 [(.int .i64 z3r.1.fN),(.int .i64 z3r.1.fD)],stb z33 87 [(.int .i64 z3r.2.fE)],blk z4b (z4v .busy none),stb zaI 40 [(.int .i64 z3i.fN),(.int .i64 z3i.fD)],fz [],stb z3c 65 [(.slice (some ⟨zi9,0,none⟩) z2f.length z5k)],row (.slice (some ⟨zi9,0,none⟩) z2f.length z5k) 40 2 (z2f.flatMap e40),stb z32 40 [(.int .i64 0),(.int .i64 0)],stb z2Z 67 [(.slice z1J z1u.length z1K),(.int .i64 zm.fRate.fN),(.int .i64 zm.fRate.fD),(.int .i64 zm.fLatency.fN),(.int .i64 zm.fLatency.fD),(.func (.func 29) #[] #[(.pointer (some z1D)),(.pointer (some z1E))]),(.slice z1L z1v.length z1M)]] [] [stb zlV 40 [(.int .i64 z3r.1.fN),(.int .i64 z3r.1.fD)],stb z33 87 [(.int .i64 z3r.2.fE)],blk z4b (z4v .busy none),stb zaI 40 [(.int .i64 z3i.fN),(.int .i64 z3i.fD)],fz [],stb z3c 65 [(.slice (some ⟨zi9,0,none⟩) z2f.length z5k)],row (.slice (some ⟨zi9,0,none⟩) z2f.length z5k) 40 2 (z2f.flatMap e40),stb z32 40 [(.int .i64 0),(.int .i64 0)],stb z2Z 67 [(.slice z1J z1u.length z1K),(.int .i64 zm.fRate.fN),(.int .i64 zm.fRate.fD),(.int .i64 zm.fLatency.fN),(.int .i64 zm.fLatency.fD),(.func (.func 29) #[] #[(.pointer (some z1D)),(.pointer (some z1E))]),(.slice z1L z1v.length z1M)]]) .h4); exact w_rat_Cmp (Z:=_)  (z28:=z3r.1) (z29:=(⟨((nth z2f 0).fN),((nth z2f 0).fD)⟩ : z2)) (r:=zlP) w pz  zy7) ?_
      refine WD.a (i:=9) (d:=31) (by kernel_rfl) rfl (z6 (by kernel_rfl)) (z7 (by kernel_rfl)) rfl rfl rfl (fun _=>q_gtr rfl rfl) ?_
      refine WD.a (i:=10) (d:=32) (by kernel_rfl) rfl (z6 (by kernel_rfl)) (z7 (by kernel_rfl)) rfl rfl rfl (fun _=>q_pickF rfl rfl) ?_
      refine WD.reL (.cons .here (.cons .here (.cons .here (.cons .here (.cons .here (.cons .here (.cons .here (.cons .here (.cons .here .nil))))))))) ?_ zr5
      exact (.cons rfl (.cons rfl (.cons rfl (.cons rfl (.cons rfl (.cons rfl (.cons rfl (.cons rfl (.cons rfl (.cons rfl (.cons rfl (.cons rfl (.cons rfl (.cons rfl (.cons (zf (Eq.symm zlY)) (.cons (zf zd9) .nil))))))))))))))))
    refine WD.done (by kernel_rfl) ?_
    refine WX.a ?_
    refine WC.cond rfl (fun zlZ=>?_) (fun zlZ=>?_)
    ·replace z7Z:=ite_t z7Z zlZ
     refine WC.a ?_
     refine WL.a (d:=33) rfl rfl rfl (q_loadA (cs:=[(.int .i64 z3r.1.fN),(.int .i64 z3r.1.fD)]) aggT_40 rfl rfl (rd_all .here)) ?_
     refine WL.new (dd:=34) rfl rfl rfl (e_buildSlice (cs:=([z3r.1] : List z2).flatMap e40) elT_65 (Eos.parts (l:=[.tmp 33]) (.cons rfl .nil) [0]) (fun _=>by kernel_rfl) rfl (by unfold maxLen; omega)) ?_
     intro zg3 _
     refine WL.eff0 rfl rfl (e_store (vs:=[(.slice (some ⟨zg3,0,none⟩) (([z3r.1] : List z2).length) 1)]) (ds:=[(.slice (some ⟨zg3,0,none⟩) (([z3r.1] : List z2).length) 1)]) sizT_65 rfl rfl rfl rfl (oc_cons rfl oc_nil) .h6 (Nat.le_of_ble_eq_true rfl) rfl) ?_
     refine WL.nil ?_
     refine WX.blockNormal ?_
     obtain ⟨rfl,rfl⟩:=rf_inj z7Z
     exact WX.rNormal zi8 .h4 (fun w' hw'=>⟨((some ⟨zg3,0,none⟩),1),rfl,trivial,(hw'.selAll ((.cons .h6 (.cons .h1 (.cons .h1 (.cons .h2 (.cons .h4 (.cons .h4 (.cons .here .nil))))))) : Sel _ [fz [],stb z3c 65 [(.slice (some ⟨zg3,0,none⟩) (([z3r.1] : List z2).length) 1)],row (.slice (some ⟨zg3,0,none⟩) (([z3r.1] : List z2).length) 1) 40 2 (([z3r.1] : List z2).flatMap e40),stb z33 87 [(.int .i64 z3r.2.fE)],stb z32 40 [(.int .i64 0),(.int .i64 0)],stb z2Z 67 [(.slice z1J z1u.length z1K),(.int .i64 zm.fRate.fN),(.int .i64 zm.fRate.fD),(.int .i64 zm.fLatency.fN),(.int .i64 zm.fLatency.fD),(.func (.func 29) #[] #[(.pointer (some z1D)),(.pointer (some z1E))]),(.slice z1L z1v.length z1M)],blk z4b (z4v .ready none)] _)).sub (.cons .here .nil)⟩)
    ·replace z7Z:=ite_f z7Z zlZ
     refine WC.skip ?_
     refine WX.blockNormal ?_
     obtain ⟨rfl,rfl⟩:=rf_inj z7Z
     exact WX.rNormal zi8 .h2 (fun w' hw'=>⟨(z6k,z5k),rfl,trivial,(hw'.selAll ((.cons .h4 (.cons .h4 (.cons .h4 (.cons .h2 (.cons .h3 (.cons .h3 (.cons .here .nil))))))) : Sel _ [fz [],stb z3c 65 [(.slice z6k z2f.length z5k)],row (.slice z6k z2f.length z5k) 40 2 (z2f.flatMap e40),stb z33 87 [(.int .i64 z3r.2.fE)],stb z32 40 [(.int .i64 0),(.int .i64 0)],stb z2Z 67 [(.slice z1J z1u.length z1K),(.int .i64 zm.fRate.fN),(.int .i64 zm.fRate.fD),(.int .i64 zm.fLatency.fN),(.int .i64 zm.fLatency.fD),(.func (.func 29) #[] #[(.pointer (some z1D)),(.pointer (some z1E))]),(.slice z1L z1v.length z1M)],blk z4b (z4v .ready none)] _)).sub (.cons .here .nil)⟩)
   ·skip
    rintro _ w' ⟨zy8,⟨zg4,zg5⟩,rfl,_,hp⟩
    have hp1:=hw1.call ((.cons .here .nil) : Sel [allA [fz [],stb z3c 65 [(.slice none (([] : List z2).length) 0)],row (.slice none (([] : List z2).length) 0) 40 2 (([] : List z2).flatMap e40),stb z33 87 [(.int .i64 0)],stb z32 40 [(.int .i64 0),(.int .i64 0)],stb z2Z 67 [(.slice z1J z1u.length z1K),(.int .i64 zm.fRate.fN),(.int .i64 zm.fRate.fD),(.int .i64 zm.fLatency.fN),(.int .i64 zm.fLatency.fD),(.func (.func 29) #[] #[(.pointer (some z1D)),(.pointer (some z1E))]),(.slice z1L z1v.length z1M)],blk z4b (z4v .ready none)],dfr z7G,stb z6j 67 [(.slice z1J z1u.length z1K),(.int .i64 z1b.1),(.int .i64 z1b.2.1),(.int .i64 z1b.2.2.1),(.int .i64 z1b.2.2.2),(.func (.func 29) #[] #[(.pointer (some z1D)),(.pointer (some z1E))]),(.slice z1L z1v.length z1M)],fz ([] ++ z5S)] [allA [fz [],stb z3c 65 [(.slice none (([] : List z2).length) 0)],row (.slice none (([] : List z2).length) 0) 40 2 (([] : List z2).flatMap e40),stb z33 87 [(.int .i64 0)],stb z32 40 [(.int .i64 0),(.int .i64 0)],stb z2Z 67 [(.slice z1J z1u.length z1K),(.int .i64 zm.fRate.fN),(.int .i64 zm.fRate.fD),(.int .i64 zm.fLatency.fN),(.int .i64 zm.fLatency.fD),(.func (.func 29) #[] #[(.pointer (some z1D)),(.pointer (some z1E))]),(.slice z1L z1v.length z1M)],blk z4b (z4v .ready none)]] [dfr z7G,stb z6j 67 [(.slice z1J z1u.length z1K),(.int .i64 z1b.1),(.int .i64 z1b.2.1),(.int .i64 z1b.2.2.1),(.int .i64 z1b.2.2.2),(.func (.func 29) #[] #[(.pointer (some z1D)),(.pointer (some z1E))]),(.slice z1L z1v.length z1M)],fz ([] ++ z5S)]) hp
    have hp2 : Hp _ _ w' [fz [],stb z3c 65 [(.slice zg4 z5R.2.1.length zg5)],row (.slice zg4 z5R.2.1.length zg5) 40 2 (z5R.2.1.flatMap e40),stb z33 87 [(.int .i64 z5R.2.2)],stb z32 40 [(.int .i64 0),(.int .i64 0)],stb z2Z 67 [(.slice z1J z1u.length z1K),(.int .i64 zm.fRate.fN),(.int .i64 zm.fRate.fD),(.int .i64 zm.fLatency.fN),(.int .i64 zm.fLatency.fD),(.func (.func 29) #[] #[(.pointer (some z1D)),(.pointer (some z1E))]),(.slice z1L z1v.length z1M)],blk z4b (z4v (rdy (pcs [] z5R.1)) (pcs [] z5R.1)),fz zy8,dfr z7G,stb z6j 67 [(.slice z1J z1u.length z1K),(.int .i64 z1b.1),(.int .i64 z1b.2.1),(.int .i64 z1b.2.2.1),(.int .i64 z1b.2.2.2),(.func (.func 29) #[] #[(.pointer (some z1D)),(.pointer (some z1E))]),(.slice z1L z1v.length z1M)],fz ([] ++ z5S)]:=hp1.pickAll .h1
    refine ⟨_,pcs [] z5R.1,_,rfl,(hp2.sub ((.cons .h6 (.cons .here (.cons .here (.cons .here (.cons .here (.cons .here (.cons .here (.cons .h1 (.cons .h1 (.cons .h1 .nil)))))))))) : Sel _ [blk z4b (z4v (rdy (pcs [] z5R.1)) (pcs [] z5R.1)),fz [],stb z3c 65 [(.slice zg4 z5R.2.1.length zg5)],row (.slice zg4 z5R.2.1.length zg5) 40 2 (z5R.2.1.flatMap e40),stb z33 87 [(.int .i64 z5R.2.2)],stb z32 40 [(.int .i64 0),(.int .i64 0)],stb z2Z 67 [(.slice z1J z1u.length z1K),(.int .i64 zm.fRate.fN),(.int .i64 zm.fRate.fD),(.int .i64 zm.fLatency.fN),(.int .i64 zm.fLatency.fD),(.func (.func 29) #[] #[(.pointer (some z1D)),(.pointer (some z1E))]),(.slice z1L z1v.length z1M)],dfr z7G,stb z6j 67 [(.slice z1J z1u.length z1K),(.int .i64 z1b.1),(.int .i64 z1b.2.1),(.int .i64 z1b.2.2.1),(.int .i64 z1b.2.2.2),(.func (.func 29) #[] #[(.pointer (some z1D)),(.pointer (some z1E))]),(.slice z1L z1v.length z1M)],fz ([] ++ z5S)] _)),?_⟩
    clear hp hp1 hp2 pz hw hw1
    refine wjN ?_
    letI : Rnd:=aft z7G
    refine WX.merge .here .h7 ?_
    refine WX.blockNormal ?_
    exact WX.midR (D:=fun (g : Nat × Int × List z2 × Zp × Option Addr × Nat)=>g.1) (G:=Nat × Int × List z2 × Zp × Option Addr × Nat) ⟨z7G,z5R.2.2,z5R.2.1,(([] ++ z5S) ++ []),zg4,zg5⟩ ⟨h,((Zle.left _ _).trans (Zle.assoc _ _ _))⟩ (.cons rfl (.cons rfl (.cons rfl .nil))) (.cons .here (.cons .h3 (.cons .h2 (.cons .here (.cons .here (.cons .h1 .nil))))))
  ·rintro zfZ z9G z6i zd8 zg0 zg1 ⟨h,zDi⟩
   replace h:=(zxY z9G z6i).symm.trans h
   letI : Rnd:=aft zfZ
   refine WC.b ?_
   refine WC.b ?_
   refine WC.a ?_
   refine WL.a (d:=35) rfl rfl rfl (q_fieldAddr fo_87_0 rfl rfl) ?_
   refine WL.a (d:=36) rfl rfl rfl (q_load1 oneT_26 rfl (rd_stb .h2 rfl)) ?_
   refine WL.a (d:=37) rfl rfl rfl (q_neq rfl rfl) ?_
   refine WL.nil ?_
   refine WX.a ?_
   refine WC.cond rfl (fun zm0=>?_) (fun zm0=>?_)
   ·replace h:=ite_t h zm0
    refine WC.b ?_
    refine WC.draw (fun i=>[3].contains i) [stbp z33 87 [(0,(.int .i64 z9G))]] rfl ?_
    refine WD.e (i:=0) (d:=38) (by kernel_rfl) rfl (z6 (by kernel_rfl)) (z7 (by kernel_rfl)) rfl rfl rfl (q_build (v:=(.agg #[(.int .i64 0),(.int .i64 0)])) (Eos.parts (l:=[]) .nil []) (fun _=>by kernel_rfl)) ?_
    refine WD.a (i:=1) (d:=39) (by kernel_rfl) rfl (z6 (by kernel_rfl)) (z7 (by kernel_rfl)) rfl rfl rfl (fun _=>q_fieldAddr fo_87_0 rfl rfl) ?_
    refine WD.stable (i:=2) (d:=40) (by kernel_rfl) rfl (z6 (by kernel_rfl)) (z7 (by kernel_rfl)) rfl rfl rfl (Sin.wk (.cons .h2 .nil) (.stb (.cons rfl .nil) .nil)) (q_load1 oneT_26 rfl (rd_stbp .here (.head _))) ?_
    refine WD.forced0 (i:=3) rfl (by kernel_rfl) rfl rfl rfl (Sin.wk (.cons .h2 .nil) (.stb (.cons rfl .nil) .nil)) (e_store (vs:=[(.int .i64 0),(.int .i64 0)]) (ds:=[(.int .i64 0),(.int .i64 0)]) sizT_40 rfl rfl rfl rfl (oc_cons rfl (oc_cons rfl oc_nil)) .h1 (Nat.le_of_ble_eq_true rfl) rfl) ?_
    refine WD.a (i:=4) (d:=3) (by kernel_rfl) rfl (z6 (by kernel_rfl)) (z7 (by kernel_rfl)) rfl rfl rfl (fun _=>q_z rfl) ?_
    refine WD.done (by kernel_rfl) ?_
    refine WX.a ?_
    refine WC.ret ?_
    refine WX.thenRet ?_
    obtain rfl:=Option.some.inj h
    refine WX.bpRetD .h5 Tryz.results35 (.agg rfl aggT_40 rfl (rd_all .h1) (.tmp rfl .nil)) (fun w hw=>?_)
    exact ⟨zd8,ret2 rfl rfl,trivial,hw.sub (.cons .h2 .nil)⟩
   ·replace h:=ite_f h zm0
    refine WC.skip ?_
    refine WX.a ?_
    refine WC.b ?_
    obtain ⟨zg6,h⟩:=chk_elim h
    refine WC.a ?_
    refine WL.a (d:=41) rfl rfl rfl (q_load1 oneT_65 rfl (rd_stb .h3 rfl)) ?_
    refine WL.know (fun w hw=>Hp.expose .h4 hw (by intro hz'; have:=zg6; rw [hz'] at this; omega)) ?_
    rintro ⟨zDj,rfl⟩
    refine WL.a (d:=42) rfl rfl rfl (q_indexAddr elT_65 rfl rfl zg6.1 zg6.2 rowAdd) ?_
    refine WL.a (d:=43) rfl rfl rfl (q_loadA (cs:=(e40 (nth z6i 0))) aggT_40 rfl rfl (rd_rows .h4 (flat_rd (enc:=e40) (l:=z6i) (i:=0) (sz:=2) (fun _=>rfl) zg6.1 zg6.2))) ?_
    refine WL.eff0 rfl rfl (e_store (vs:=[(.int .i64 ((nth z6i 0).fN)),(.int .i64 ((nth z6i 0).fD))]) (ds:=[(.int .i64 ((nth z6i 0).fN)),(.int .i64 ((nth z6i 0).fD))]) sizT_40 rfl rfl rfl rfl (oc_cons rfl (oc_cons rfl oc_nil)) .h1 (Nat.le_of_ble_eq_true rfl) rfl) ?_
    refine WL.a (d:=3) rfl rfl rfl (q_z rfl) ?_
    refine WL.nil ?_
    refine WX.a ?_
    refine WC.ret ?_
    obtain rfl:=Option.some.inj h
    refine WX.bpRetD .h5 Tryz.results35 (.agg rfl aggT_40 rfl (rd_all .h1) (.tmp rfl .nil)) (fun w hw=>?_)
    exact ⟨zd8,ret2 rfl rfl,trivial,hw.sub (.cons .h2 .nil)⟩
def m_calculus_Delay (z4X : List (List z1)) (z1A : S41) : Option (z2 × Int) :=
 (m_calculus_search_max z4X z1A z4X z1A []).bind fun zbT=>some (zbT.1,zbT.2)
set_option maxRecDepth 20000 in
theorem w_calculus_Delay (Z : Zp)  (z5T : Option Addr) (z5U : Nat) (z4X : List (List z1)) (z1A : S41) (r : z2 × Int) (w₀ : World) (hz : PZ [] w₀ Z)
  (zr6 : ZS Z 1 (p23 Z) z5T z5U z4X)
  (h : m_calculus_Delay z4X z1A = some r) :
  Calls Tryz.prog 11 #[(.slice z5T z4X.length z5U),(.agg #[(.int .i64 z1A.fRate.fN),(.int .i64 z1A.fRate.fD),(.int .i64 z1A.fLatency.fN),(.int .i64 z1A.fLatency.fD)])] w₀ fun e w'=>∃ Zn : Zp,e = .returned (.tuple #[(.agg #[(.int .i64 r.1.fN),(.int .i64 r.1.fD)]),(.int .i64 r.2)]) ∧ True ∧ Hp [] w₀ w' [fz Zn]:=by
 unfold m_calculus_Delay at h
 refine Calls.ofWC (vs:=[(.slice z5T z4X.length z5U),(.agg #[(.int .i64 z1A.fRate.fN),(.int .i64 z1A.fRate.fD),(.int .i64 z1A.fLatency.fN),(.int .i64 z1A.fLatency.fD)])]) (pre:=[]) (env:=[(0,(.slice z5T z4X.length z5U)),(1,(.agg #[(.int .i64 z1A.fRate.fN),(.int .i64 z1A.fRate.fD),(.int .i64 z1A.fLatency.fN),(.int .i64 z1A.fLatency.fD)]))]) Tryz.func11 rfl Tryz.ntmps11 rfl (Hp.nil w₀ _) rfl ?_
 refine WC.pool ?_
 refine WC.b ?_
 refine WC.a ?_
 refine WL.new (dd:=2) rfl rfl rfl (e_box (cs:=[(.slice z5T z4X.length z5U)]) rfl rfl) ?_
 intro zbU _
 refine WL.new (dd:=3) rfl rfl rfl (e_box (cs:=[(.int .i64 z1A.fRate.fN),(.int .i64 z1A.fRate.fD),(.int .i64 z1A.fLatency.fN),(.int .i64 z1A.fLatency.fD)]) rfl rfl) ?_
 intro zbV _
 refine WL.new (dd:=4) rfl rfl rfl (e_alloc (cs:=[(.int .i64 0),(.int .i64 0)]) zeroT_40 rfl) ?_
 intro zia _
 refine WL.a (d:=5) rfl rfl rfl (q_z rfl) ?_
 refine WL.nil ?_
 refine WX.a ?_
 refine WC.b ?_
 refine WC.a ?_
 refine WL.a (d:=7) rfl rfl rfl (q_load1 oneT_38 rfl (rd_stb .h2 rfl)) ?_
 refine WL.a (d:=8) rfl rfl rfl (q_loadA (cs:=[(.int .i64 z1A.fRate.fN),(.int .i64 z1A.fRate.fD),(.int .i64 z1A.fLatency.fN),(.int .i64 z1A.fLatency.fD)]) aggT_42 rfl rfl (rd_all .h1)) ?_
 refine WL.a (d:=9) rfl rfl rfl (q_build (v:=(.agg #[(.slice z5T z4X.length z5U),(.int .i64 z1A.fRate.fN),(.int .i64 z1A.fRate.fD),(.int .i64 z1A.fLatency.fN),(.int .i64 z1A.fLatency.fD),.nilFunc,(.slice none 0 0)])) (Eos.parts (l:=[.tmp 7,.tmp 8]) (.cons rfl (.cons rfl .nil)) [0,1]) (fun _=>by kernel_rfl)) ?_
 refine WL.new (dd:=6) rfl rfl rfl (e_alloc (cs:=[(.slice none 0 0),(.int .i64 0),(.int .i64 0),(.int .i64 0),(.int .i64 0),.nilFunc,(.slice none 0 0)]) zeroT_67 rfl) ?_
 intro zib _
 refine WL.eff0 rfl rfl (e_store (vs:=[(.slice z5T z4X.length z5U),(.int .i64 z1A.fRate.fN),(.int .i64 z1A.fRate.fD),(.int .i64 z1A.fLatency.fN),(.int .i64 z1A.fLatency.fD),.nilFunc,(.slice none 0 0)]) (ds:=[(.slice z5T z4X.length z5U),(.int .i64 z1A.fRate.fN),(.int .i64 z1A.fRate.fD),(.int .i64 z1A.fLatency.fN),(.int .i64 z1A.fLatency.fD),.nilFunc,(.slice none 0 0)]) sizT_67 rfl rfl rfl rfl (oc_cons rfl (oc_cons rfl (oc_cons rfl (oc_cons rfl (oc_cons rfl (oc_cons rfl (oc_cons rfl oc_nil))))))) .here (Nat.le_of_ble_eq_true rfl) rfl) ?_
 refine WL.nil ?_
 refine WX.a ?_
 refine WC.b ?_
 refine WC.a ?_
 refine WL.a (d:=10) rfl rfl rfl (q_makeFunc (Eos.caps (l:=[.tmp 2,.tmp 3]) (.cons rfl (.cons rfl .nil)))) ?_
 refine WL.a (d:=11) rfl rfl rfl (q_fieldAddr fo_67_2 rfl rfl) ?_
 refine WL.eff0 rfl rfl (e_store (vs:=[(.func (.func 29) #[] #[(.pointer (some ⟨zbU,0,none⟩)),(.pointer (some ⟨zbV,0,none⟩))])]) (ds:=[(.slice z5T z4X.length z5U),(.int .i64 z1A.fRate.fN),(.int .i64 z1A.fRate.fD),(.int .i64 z1A.fLatency.fN),(.int .i64 z1A.fLatency.fD),(.func (.func 29) #[] #[(.pointer (some ⟨zbU,0,none⟩)),(.pointer (some ⟨zbV,0,none⟩))]),(.slice none 0 0)]) sizT_64 rfl rfl rfl rfl (oc_cons rfl oc_nil) .here (Nat.le_of_ble_eq_true rfl) rfl) ?_
 refine WL.nil ?_
 refine WX.a ?_
 refine WC.b ?_
 obtain ⟨zbT,zy9,h⟩:=z8 h
 refine WC.a ?_
 refine WL.a (d:=12) rfl rfl rfl (q_loadA (cs:=[(.slice z5T z4X.length z5U),(.int .i64 z1A.fRate.fN),(.int .i64 z1A.fRate.fD),(.int .i64 z1A.fLatency.fN),(.int .i64 z1A.fLatency.fD),(.func (.func 29) #[] #[(.pointer (some ⟨zbU,0,none⟩)),(.pointer (some ⟨zbV,0,none⟩))]),(.slice none 0 0)]) aggT_67 rfl rfl (rd_all .here)) ?_
 refine WL.freezeC (Z:=Z) .h3 .h3 ?_
 intro zDk zic zya
 refine WL.freezeC (Z:=Z) .h3 .here ?_
 intro zg7 zg8 zyb
 refine WL.enter1 (dd:=13) rfl rfl rfl (zi (l:=[.tmp 12]) Tryz.call35 (.cons rfl .nil)) (.nil : Sel [fz zg7,stb zib 67 [(.slice z5T z4X.length z5U),(.int .i64 z1A.fRate.fN),(.int .i64 z1A.fRate.fD),(.int .i64 z1A.fLatency.fN),(.int .i64 z1A.fLatency.fD),(.func (.func 29) #[] #[(.pointer (some ⟨zbU,0,none⟩)),(.pointer (some ⟨zbV,0,none⟩))]),(.slice none 0 0)],stb zia 40 [(.int .i64 0),(.int .i64 0)]] [] [fz zg7,stb zib 67 [(.slice z5T z4X.length z5U),(.int .i64 z1A.fRate.fN),(.int .i64 z1A.fRate.fD),(.int .i64 z1A.fLatency.fN),(.int .i64 z1A.fLatency.fD),(.func (.func 29) #[] #[(.pointer (some ⟨zbU,0,none⟩)),(.pointer (some ⟨zbV,0,none⟩))]),(.slice none 0 0)],stb zia 40 [(.int .i64 0),(.int .i64 0)]]) (fun w hw=>by have pz:=(hz.call2 hw (.nil : Sel [fz zg7,stb zib 67 [(.slice z5T z4X.length z5U),(.int .i64 z1A.fRate.fN),(.int .i64 z1A.fRate.fD),(.int .i64 z1A.fLatency.fN),(.int .i64 z1A.fLatency.fD),(.func (.func 29) #[] #[(.pointer (some ⟨zbU,0,none⟩)),(.pointer (some ⟨zbV,0,none⟩))]),(.slice none 0 0)],stb zia 40 [(.int .i64 0),(.int .i64 0)]] [] [fz zg7,stb zib 67 [(.slice z5T z4X.length z5U),(.int .i64 z1A.fRate.fN),(.int .i64 z1A.fRate.fD),(.int .i64 z1A.fLatency.fN),(.int .i64 z1A.fLatency.fD),(.func (.func 29) #[] #[(.pointer (some ⟨zbU,0,none⟩)),(.pointer (some ⟨zbV,0,none⟩))]),(.slice none 0 0)],stb zia 40 [(.int .i64 0),(.int .i64 0)]]) .here); exact w_calculus_search_max (Z:=_) (z1J:=z5T) (z1K:=z5U) (z1D:=⟨zbU,0,none⟩) (zd6:=z5T) (zd7:=z5U) (z1E:=⟨zbV,0,none⟩) (z1L:=none) (z1M:=0) (z1u:=z4X) (zm:=z1A) (z6H:=z4X) (z5Q:=z1A) (z1v:=[]) (r:=zbT) w pz ((zr6.mono ((Zle.left _ _).trans (zic.trans zg8))).weak (fun _ _ h=>p23_mono ((Zle.left _ _).trans (zic.trans zg8)) h)) ((zr6.mono ((Zle.left _ _).trans (zic.trans zg8))).weak (fun _ _ h=>p23_mono ((Zle.left _ _).trans (zic.trans zg8)) h)) (zya.mono zg8) zyb (ZS.nil _ _ _) zy9) ?_
 rintro zyc _
 refine WL.merge .here .here ?_
 refine WL.a (d:=14) rfl rfl rfl (q_extract rfl rfl) ?_
 refine WL.a (d:=15) rfl rfl rfl (q_extract rfl rfl) ?_
 refine WL.eff0 rfl rfl (e_store (vs:=[(.int .i64 zbT.1.fN),(.int .i64 zbT.1.fD)]) (ds:=[(.int .i64 zbT.1.fN),(.int .i64 zbT.1.fD)]) sizT_40 rfl rfl rfl rfl (oc_cons rfl (oc_cons rfl oc_nil)) .h2 (Nat.le_of_ble_eq_true rfl) rfl) ?_
 refine WL.a (d:=5) rfl rfl rfl (q_z rfl) ?_
 refine WL.nil ?_
 refine WX.a ?_
 refine WC.ret ?_
 obtain rfl:=Option.some.inj h
 refine WX.bpRet Tryz.results11 (.agg rfl aggT_40 rfl (rd_all .here) (.tmp rfl .nil)) (fun w hw=>?_)
 exact ⟨(zg7 ++ zyc),ret2 rfl rfl,trivial,hw.sub (.cons .h1 .nil)⟩
def m_calculus_search_checkb_L2 (z1N : List (List z1)) (zaJ : Int → Int → Int → Option Int) : Nat → Int → Int → Int → Int → Option Int
 | 0,_,_,_,_=>none
 | zm1 + 1,z6l,z4c,z3W,z3X=>if decide (z6l < ((z1N.length : Nat) : Int)) then chk ((0 : Int) ≤ z6l ∧ z6l < ((z1N.length : Nat) : Int)) ((m_curve_Breaks (nth z1N z6l)).bind fun z4K=>if decide (z4K.2 ≠ 0) then some z4K.2 else (m_curve_Rate (nth z1N z6l)).bind fun z5l=>(m_calculus_calc_do (⟨z4c⟩ : z2c) (fun (y0 : z2) (y1 : z2)=>m_rat_Add y0 y1) (⟨z3W,z3X⟩ : z2) z5l.1).bind fun z8x=>m_calculus_search_checkb_L2 z1N zaJ zm1 (i64 (z6l + 1)) z8x.2.fE z8x.1.fN z8x.1.fD) else zaJ z4c z3W z3X
theorem m_calculus_search_checkb_L2_fuel {n : Nat} {z1N : List (List z1)} {zaJ : Int → Int → Int → Option Int} {z6l : Int} {z4c : Int} {z3W : Int} {z3X : Int} {r : Int} (h : m_calculus_search_checkb_L2 z1N zaJ n z6l z4c z3W z3X = some r) : ∃ m,n = m + 1:=by
 cases n with
 | zero=>cases h
 | succ m=>exact ⟨m,rfl⟩
def m_calculus_search_checkb (z1N : List (List z1)) (zl : S41) (zg9 : List (List z1)) (zda : S41) (z2q : List z2) : Option Int :=
 (if decide (((z1N.length : Nat) : Int) > 32) then some true else (m_slices_ContainsFunc_api_Curve_api_Curve z1N (fun (y0 : List z1)=>m_calculus_search_check_1 y0)).bind fun zm2=>some zm2).bind fun zid=>(if zid then some true else (m_calculus_Valid zl).bind fun zm3=>some (!zm3)).bind fun zm4=>if zm4 then some 2 else (m_calculus_zero).bind fun z9H=>jp3 (fun (z7j : Int) (z7k : Int) (z7l : Int)=>(if decide (z7j = 0) then (m_rat_Cmp (⟨z7k,z7l⟩ : z2) zl.fRate).bind fun zm5=>some (decide (zm5 > 0)) else some false).bind fun zm6=>if zm6 then some 6 else some z7j) fun zaJ=>m_calculus_search_checkb_L2 z1N zaJ FUEL 0 0 z9H.fN z9H.fD
set_option maxRecDepth 20000 in
theorem w_calculus_search_checkb (Z : Zp)  (z2r : Option Addr) (z2s : Nat) (z2F : Addr) (zm7 : Option Addr) (zm8 : Nat) (z2G : Addr) (z2H : Option Addr) (z2I : Nat) (z1N : List (List z1)) (zl : S41) (zg9 : List (List z1)) (zda : S41) (z2q : List z2) (r : Int) (w₀ : World) (hz : PZ [] w₀ Z)
  (zr7 : ZS Z 1 (p23 Z) z2r z2s z1N)
  (zDl : ZS Z 1 (p23 Z) zm7 zm8 zg9)
  (zDm : ZC Z z2F [(.slice zm7 zg9.length zm8)])
  (zDn : ZC Z z2G [(.int .i64 zda.fRate.fN),(.int .i64 zda.fRate.fD),(.int .i64 zda.fLatency.fN),(.int .i64 zda.fLatency.fD)])
  (zDo : ZS Z 2 (fun r x=>r = e40 x) z2H z2I z2q)
  (h : m_calculus_search_checkb z1N zl zg9 zda z2q = some r) :
  Calls Tryz.prog 54 #[(.agg #[(.slice z2r z1N.length z2s),(.int .i64 zl.fRate.fN),(.int .i64 zl.fRate.fD),(.int .i64 zl.fLatency.fN),(.int .i64 zl.fLatency.fD),(.func (.func 38) #[] #[(.pointer (some z2F)),(.pointer (some z2G))]),(.slice z2H z2q.length z2I)])] w₀ fun e w'=>∃ Zn : Zp,e = .returned (.int .i64 r) ∧ True ∧ Hp [] w₀ w' [fz Zn]:=by
 unfold m_calculus_search_checkb at h
 refine Calls.ofWC (vs:=[(.agg #[(.slice z2r z1N.length z2s),(.int .i64 zl.fRate.fN),(.int .i64 zl.fRate.fD),(.int .i64 zl.fLatency.fN),(.int .i64 zl.fLatency.fD),(.func (.func 38) #[] #[(.pointer (some z2F)),(.pointer (some z2G))]),(.slice z2H z2q.length z2I)])]) (pre:=[]) (env:=[(0,(.agg #[(.slice z2r z1N.length z2s),(.int .i64 zl.fRate.fN),(.int .i64 zl.fRate.fD),(.int .i64 zl.fLatency.fN),(.int .i64 zl.fLatency.fD),(.func (.func 38) #[] #[(.pointer (some z2F)),(.pointer (some z2G))]),(.slice z2H z2q.length z2I)]))]) Tryz.func54 rfl Tryz.ntmps54 rfl (Hp.nil w₀ _) rfl ?_
 refine WC.pool ?_
 refine WC.b ?_
 refine WC.a ?_
 refine WL.new (dd:=1) rfl rfl rfl (e_box (cs:=[(.slice z2r z1N.length z2s),(.int .i64 zl.fRate.fN),(.int .i64 zl.fRate.fD),(.int .i64 zl.fLatency.fN),(.int .i64 zl.fLatency.fD),(.func (.func 38) #[] #[(.pointer (some z2F)),(.pointer (some z2G))]),(.slice z2H z2q.length z2I)]) rfl rfl) ?_
 intro z2U _
 refine WL.a (d:=2) rfl rfl rfl (q_z rfl) ?_
 refine WL.nil ?_
 refine WX.a ?_
 refine WC.b ?_
 refine WC.b ?_
 obtain ⟨zid,zr8,h⟩:=z8 h
 obtain ⟨zm4,zr9,h⟩:=z8 h
 refine WC.a ?_
 refine WL.a (d:=11) rfl rfl rfl (q_fieldAddr fo_67_0 rfl rfl) ?_
 refine WL.a (d:=12) rfl rfl rfl (q_load1 oneT_38 rfl (rd_stb .here rfl)) ?_
 refine WL.a (d:=13) rfl rfl rfl (q_len Tryz.underlying38 rfl) ?_
 refine WL.a (d:=14) rfl rfl rfl (q_gtr rfl rfl) ?_
 refine WL.a (d:=15) rfl rfl rfl (q_m rfl) ?_
 refine WL.cut0 True [(1,(.pointer (some ⟨z2U,0,none⟩))),(19,(.bool zid))] [stb z2U 67 [(.slice z2r z1N.length z2s),(.int .i64 zl.fRate.fN),(.int .i64 zl.fRate.fD),(.int .i64 zl.fLatency.fN),(.int .i64 zl.fLatency.fD),(.func (.func 38) #[] #[(.pointer (some z2F)),(.pointer (some z2G))]),(.slice z2H z2q.length z2I)],fz []] 4 ?_ (fun _=>?_)
 ·rcases Bool.eq_false_or_eq_true (decide (((z1N.length : Nat) : Int) > 32)) with hb' | hb'
  ·have zra:=hb'; clear hb'
   have zm9:=ite_t zr8 zra
   replace zm9:=Option.some.inj zm9
   refine WL.pin (i:=15) rfl zra ?_
   refine WL.e rfl rfl rfl ?_
   refine WL.e rfl rfl rfl ?_
   refine WL.e rfl rfl rfl ?_
   refine WL.a (d:=19) rfl rfl rfl (q_pickT rfl rfl) ?_
   exact WL.cutEnd () trivial (.cons rfl (.cons (zf zm9) .nil)) (.cons .here (.cons .here .nil))
  ·have zrb:=hb'; clear hb'
   have zga:=ite_f zr8 zrb
   obtain ⟨zm2,zyd,zga⟩:=z8 zga
   replace zga:=Option.some.inj zga
   refine WL.pin (i:=15) rfl zrb ?_
   refine WL.a (d:=16) rfl rfl rfl (q_fieldAddr fo_67_0 rfl rfl) ?_
   refine WL.a (d:=17) rfl rfl rfl (q_load1 oneT_38 rfl (rd_stb .here rfl)) ?_
   refine WL.b (dd:=18) rfl rfl rfl (zi (l:=[.tmp 17,.func 75]) Tryz.call74 (.cons rfl (.cons rfl .nil))) (.nil : Sel [stb z2U 67 [(.slice z2r z1N.length z2s),(.int .i64 zl.fRate.fN),(.int .i64 zl.fRate.fD),(.int .i64 zl.fLatency.fN),(.int .i64 zl.fLatency.fD),(.func (.func 38) #[] #[(.pointer (some z2F)),(.pointer (some z2G))]),(.slice z2H z2q.length z2I)],fz []] [] [stb z2U 67 [(.slice z2r z1N.length z2s),(.int .i64 zl.fRate.fN),(.int .i64 zl.fRate.fD),(.int .i64 zl.fLatency.fN),(.int .i64 zl.fLatency.fD),(.func (.func 38) #[] #[(.pointer (some z2F)),(.pointer (some z2G))]),(.slice z2H z2q.length z2I)],fz []]) (fun w hw=>by have pz:=(hz.call2 hw (.nil : Sel [stb z2U 67 [(.slice z2r z1N.length z2s),(.int .i64 zl.fRate.fN),(.int .i64 zl.fRate.fD),(.int .i64 zl.fLatency.fN),(.int .i64 zl.fLatency.fD),(.func (.func 38) #[] #[(.pointer (some z2F)),(.pointer (some z2G))]),(.slice z2H z2q.length z2I)],fz []] [] [stb z2U 67 [(.slice z2r z1N.length z2s),(.int .i64 zl.fRate.fN),(.int .i64 zl.fRate.fD),(.int .i64 zl.fLatency.fN),(.int .i64 zl.fLatency.fD),(.func (.func 38) #[] #[(.pointer (some z2F)),(.pointer (some z2G))]),(.slice z2H z2q.length z2I)],fz []]) .h1); exact w_slices_ContainsFunc_api_Curve_api_Curve (Z:=_) (zcn:=z2r) (zco:=z2s) (za5:=75) (zcp:=[]) (z9n:=z1N) (zcm:=(fun (y0 : List z1)=>m_calculus_search_check_1 y0)) (r:=zm2) w pz ((zr7.mono (Zle.left _ _)).weak (fun _ _ h=>p23_mono (Zle.left _ _) h)) Tryz.call75 (fun w' hz' y0 ga0 gc0 r gh0 hr=>w_calculus_search_check_1 (Z:=_) (zcj:=ga0) (zck:=gc0) (z9m:=y0) (r:=r) w' hz' gh0 hr) zyd) ?_
   refine WL.a (d:=19) rfl rfl rfl (q_pickF rfl rfl) ?_
   exact WL.cutEnd () trivial (.cons rfl (.cons (zf zga) .nil)) (.cons .here (.cons .here .nil))
 ·skip
  refine WL.a (d:=20) rfl rfl rfl (q_m rfl) ?_
  refine WL.cut0 True [(1,(.pointer (some ⟨z2U,0,none⟩))),(25,(.bool zm4))] [stb z2U 67 [(.slice z2r z1N.length z2s),(.int .i64 zl.fRate.fN),(.int .i64 zl.fRate.fD),(.int .i64 zl.fLatency.fN),(.int .i64 zl.fLatency.fD),(.func (.func 38) #[] #[(.pointer (some z2F)),(.pointer (some z2G))]),(.slice z2H z2q.length z2I)],fz []] 5 ?_ (fun _=>?_)
  ·rcases Bool.eq_false_or_eq_true zid with hb' | hb'
   ·have zrc:=hb'; clear hb'
    have zma:=ite_t zr9 zrc
    replace zma:=Option.some.inj zma
    refine WL.pin (i:=20) rfl zrc ?_
    refine WL.e rfl rfl rfl ?_
    refine WL.e rfl rfl rfl ?_
    refine WL.e rfl rfl rfl ?_
    refine WL.e rfl rfl rfl ?_
    refine WL.a (d:=25) rfl rfl rfl (q_pickT rfl rfl) ?_
    exact WL.cutEnd () trivial (.cons rfl (.cons (zf zma) .nil)) (.cons .here (.cons .here .nil))
   ·have zrd:=hb'; clear hb'
    have zgb:=ite_f zr9 zrd
    obtain ⟨zm3,zye,zgb⟩:=z8 zgb
    replace zgb:=Option.some.inj zgb
    refine WL.pin (i:=20) rfl zrd ?_
    refine WL.a (d:=21) rfl rfl rfl (q_fieldAddr fo_67_1 rfl rfl) ?_
    refine WL.a (d:=22) rfl rfl rfl (q_loadA (cs:=[(.int .i64 zl.fRate.fN),(.int .i64 zl.fRate.fD),(.int .i64 zl.fLatency.fN),(.int .i64 zl.fLatency.fD)]) aggT_42 rfl rfl (rd_sub (s:=4) .here rfl)) ?_
    refine WL.b (dd:=23) rfl rfl rfl (zi (l:=[.tmp 22]) Tryz.call17 (.cons rfl .nil)) (.nil : Sel [stb z2U 67 [(.slice z2r z1N.length z2s),(.int .i64 zl.fRate.fN),(.int .i64 zl.fRate.fD),(.int .i64 zl.fLatency.fN),(.int .i64 zl.fLatency.fD),(.func (.func 38) #[] #[(.pointer (some z2F)),(.pointer (some z2G))]),(.slice z2H z2q.length z2I)],fz []] [] [stb z2U 67 [(.slice z2r z1N.length z2s),(.int .i64 zl.fRate.fN),(.int .i64 zl.fRate.fD),(.int .i64 zl.fLatency.fN),(.int .i64 zl.fLatency.fD),(.func (.func 38) #[] #[(.pointer (some z2F)),(.pointer (some z2G))]),(.slice z2H z2q.length z2I)],fz []]) (fun w hw=>by have pz:=(hz.call2 hw (.nil : Sel [stb z2U 67 [(.slice z2r z1N.length z2s),(.int .i64 zl.fRate.fN),(.int .i64 zl.fRate.fD),(.int .i64 zl.fLatency.fN),(.int .i64 zl.fLatency.fD),(.func (.func 38) #[] #[(.pointer (some z2F)),(.pointer (some z2G))]),(.slice z2H z2q.length z2I)],fz []] [] [stb z2U 67 [(.slice z2r z1N.length z2s),(.int .i64 zl.fRate.fN),(.int .i64 zl.fRate.fD),(.int .i64 zl.fLatency.fN),(.int .i64 zl.fLatency.fD),(.func (.func 38) #[] #[(.pointer (some z2F)),(.pointer (some z2G))]),(.slice z2H z2q.length z2I)],fz []]) .h1); exact w_calculus_Valid (Z:=_)  (zX:=zl) (r:=zm3) w pz  zye) ?_
    refine WL.a (d:=24) rfl rfl rfl (q_not rfl) ?_
    refine WL.a (d:=25) rfl rfl rfl (q_pickF rfl rfl) ?_
    exact WL.cutEnd () trivial (.cons rfl (.cons (zf zgb) .nil)) (.cons .here (.cons .here .nil))
  ·skip
   refine WL.nil ?_
   refine WX.a ?_
   refine WC.cond rfl (fun zmb=>?_) (fun zmb=>?_)
   ·replace h:=ite_t h zmb
    refine WC.b ?_
    refine WC.a ?_
    refine WL.a (d:=2) rfl rfl rfl (q_z rfl) ?_
    refine WL.nil ?_
    refine WX.a ?_
    refine WC.ret ?_
    refine WX.thenRet ?_
    obtain rfl:=Option.some.inj h
    refine WX.bpRet Tryz.results54 (.tmp rfl .nil) (fun w hw=>?_)
    exact ⟨[],ret1 rfl,trivial,hw.sub (.cons .h1 .nil)⟩
   ·replace h:=ite_f h zmb
    refine WC.skip ?_
    refine WX.a ?_
    refine WC.b ?_
    refine WC.a ?_
    refine WL.new (dd:=3) rfl rfl rfl (e_alloc (cs:=[(.int .i64 0)]) zeroT_87 rfl) ?_
    intro z3L _
    refine WL.nil ?_
    refine WX.a ?_
    refine WC.b ?_
    obtain ⟨z9H,zyf,h⟩:=z8 h
    refine WC.a ?_
    refine WL.b (dd:=26) rfl rfl rfl (zi (l:=[]) Tryz.call52 .nil) (.nil : Sel [stb z3L 87 [(.int .i64 0)],stb z2U 67 [(.slice z2r z1N.length z2s),(.int .i64 zl.fRate.fN),(.int .i64 zl.fRate.fD),(.int .i64 zl.fLatency.fN),(.int .i64 zl.fLatency.fD),(.func (.func 38) #[] #[(.pointer (some z2F)),(.pointer (some z2G))]),(.slice z2H z2q.length z2I)],fz []] [] [stb z3L 87 [(.int .i64 0)],stb z2U 67 [(.slice z2r z1N.length z2s),(.int .i64 zl.fRate.fN),(.int .i64 zl.fRate.fD),(.int .i64 zl.fLatency.fN),(.int .i64 zl.fLatency.fD),(.func (.func 38) #[] #[(.pointer (some z2F)),(.pointer (some z2G))]),(.slice z2H z2q.length z2I)],fz []]) (fun w hw=>by have pz:=(hz.call2 hw (.nil : Sel [stb z3L 87 [(.int .i64 0)],stb z2U 67 [(.slice z2r z1N.length z2s),(.int .i64 zl.fRate.fN),(.int .i64 zl.fRate.fD),(.int .i64 zl.fLatency.fN),(.int .i64 zl.fLatency.fD),(.func (.func 38) #[] #[(.pointer (some z2F)),(.pointer (some z2G))]),(.slice z2H z2q.length z2I)],fz []] [] [stb z3L 87 [(.int .i64 0)],stb z2U 67 [(.slice z2r z1N.length z2s),(.int .i64 zl.fRate.fN),(.int .i64 zl.fRate.fD),(.int .i64 zl.fLatency.fN),(.int .i64 zl.fLatency.fD),(.func (.func 38) #[] #[(.pointer (some z2F)),(.pointer (some z2G))]),(.slice z2H z2q.length z2I)],fz []]) .h2); exact w_calculus_zero (Z:=_)   (r:=z9H) w pz  zyf) ?_
    refine WL.new (dd:=4) rfl rfl rfl (e_alloc (cs:=[(.int .i64 0),(.int .i64 0)]) zeroT_40 rfl) ?_
    intro z4Y _
    refine WL.eff0 rfl rfl (e_store (vs:=[(.int .i64 z9H.fN),(.int .i64 z9H.fD)]) (ds:=[(.int .i64 z9H.fN),(.int .i64 z9H.fD)]) sizT_40 rfl rfl rfl rfl (oc_cons rfl (oc_cons rfl oc_nil)) .here (Nat.le_of_ble_eq_true rfl) rfl) ?_
    refine WL.nil ?_
    refine WX.a ?_
    obtain ⟨zaJ,zyg,h⟩:=jp3_elim h
    refine WC.seqMid4 (fun (z7j : Int) (z7k : Int) (z7l : Int) (z8y : Zp)=>(zaJ z7j z7k z7l = some r) ∧ (Zle (Z ++ []) (Z ++ z8y))) (fun (z7j : Int) (z7k : Int) (z7l : Int) (z8y : Zp)=>[(1,(.pointer (some ⟨z2U,0,none⟩))),(3,(.pointer (some ⟨z3L,0,none⟩))),(4,(.pointer (some ⟨z4Y,0,none⟩)))]) (fun (z7j : Int) (z7k : Int) (z7l : Int) (z8y : Zp)=>[fz z8y,stb z2U 67 [(.slice z2r z1N.length z2s),(.int .i64 zl.fRate.fN),(.int .i64 zl.fRate.fD),(.int .i64 zl.fLatency.fN),(.int .i64 zl.fLatency.fD),(.func (.func 38) #[] #[(.pointer (some z2F)),(.pointer (some z2G))]),(.slice z2H z2q.length z2I)],stb z3L 87 [(.int .i64 z7j)],stb z4Y 40 [(.int .i64 z7k),(.int .i64 z7l)]]) ?_ ?_
    ·skip
     refine WC.b ?_
     refine WC.a ?_
     refine WL.a (d:=27) rfl rfl rfl (q_fieldAddr fo_67_0 rfl rfl) ?_
     refine WL.a (d:=28) rfl rfl rfl (q_load1 oneT_38 rfl (rd_stb .h2 rfl)) ?_
     refine WL.a (d:=29) rfl rfl rfl (q_len Tryz.underlying38 rfl) ?_
     refine WL.a (d:=30) rfl rfl rfl (q_m rfl) ?_
     refine WL.nil ?_
     refine WX.a ?_
     refine WC.block ?_
     refine WC.loop6 (fun (zeA : Nat) (z6l : Int) (z4c : Int) (z3W : Int) (z3X : Int) (z4w : Zp)=>(m_calculus_search_checkb_L2 z1N zaJ zeA z6l z4c z3W z3X = some r) ∧ (Zle (Z ++ []) (Z ++ z4w))) (fun (zeA : Nat) (z6l : Int) (z4c : Int) (z3W : Int) (z3X : Int) (z4w : Zp)=>[(1,(.pointer (some ⟨z2U,0,none⟩))),(3,(.pointer (some ⟨z3L,0,none⟩))),(4,(.pointer (some ⟨z4Y,0,none⟩))),(28,(.slice z2r z1N.length z2s)),(29,(.int .i64 ((z1N.length : Nat) : Int))),(30,(.int .i64 z6l))]) (fun (zeA : Nat) (z6l : Int) (z4c : Int) (z3W : Int) (z3X : Int) (z4w : Zp)=>[fz z4w,stb z2U 67 [(.slice z2r z1N.length z2s),(.int .i64 zl.fRate.fN),(.int .i64 zl.fRate.fD),(.int .i64 zl.fLatency.fN),(.int .i64 zl.fLatency.fD),(.func (.func 38) #[] #[(.pointer (some z2F)),(.pointer (some z2G))]),(.slice z2H z2q.length z2I)],stb z3L 87 [(.int .i64 z4c)],stb z4Y 40 [(.int .i64 z3W),(.int .i64 z3X)]]) (fun (zeA : Nat) (z6l : Int) (z4c : Int) (z3W : Int) (z3X : Int) (z4w : Zp)=>zeA) ⟨FUEL,0,0,z9H.fN,z9H.fD,[]⟩ ⟨h,(Zle.refl _)⟩ (.cons rfl (.cons rfl (.cons rfl (.cons rfl (.cons rfl (.cons rfl .nil)))))) (.cons .h3 (.cons .h2 (.cons .h1 (.cons .here .nil)))) ?_
     rintro zeA z6l z4c z3W z3X z4w ⟨h,zie⟩
     obtain ⟨zm1,rfl⟩:=m_calculus_search_checkb_L2_fuel h
     rw [m_calculus_search_checkb_L2] at h
     refine WC.b ?_
     refine WC.a ?_
     refine WL.a (d:=31) rfl rfl rfl (q_lss rfl rfl) ?_
     refine WL.nil ?_
     refine WX.a ?_
     refine WC.b ?_
     refine WC.cond rfl (fun zmc=>?_) (fun zmc=>?_)
     ·replace h:=ite_t h zmc
      refine WC.skip ?_
      refine WX.a ?_
      refine WC.b ?_
      refine WC.block ?_
      refine WC.b ?_
      obtain ⟨zyh,h⟩:=chk_elim h
      refine WC.a ?_
      refine WL.znth (dd:=32) rfl rfl (Z:=(Z ++ z4w)) (Pr:=(p23 (Z ++ z4w))) elT_38 rfl rfl ((zr7.mono ((Zle.left _ _).trans zie)).weak (fun _ _ h=>p23_mono ((Zle.left _ _).trans zie) h)) zyh ?_
      rintro zDp zDq zyi zDr ⟨zre,zrf,rfl,zrg⟩
      refine WL.a (d:=33) rfl rfl rfl (q_load1 oneT_23 rfl (rd_z (hz.pv2 .here) zyi rfl)) ?_
      refine WL.a (d:=6) rfl rfl rfl (q_z rfl) ?_
      refine WL.nil ?_
      refine WX.a ?_
      refine WC.b ?_
      refine WC.b ?_
      obtain ⟨z4K,zyj,h⟩:=z8 h
      refine WC.a ?_
      refine WL.a (d:=35) rfl rfl rfl (q_m rfl) ?_
      refine WL.enter3 (dd:=36) rfl rfl rfl (zi (l:=[.tmp 35]) Tryz.call76 (.cons rfl .nil)) (.nil : Sel [fz z4w,stb z2U 67 [(.slice z2r z1N.length z2s),(.int .i64 zl.fRate.fN),(.int .i64 zl.fRate.fD),(.int .i64 zl.fLatency.fN),(.int .i64 zl.fLatency.fD),(.func (.func 38) #[] #[(.pointer (some z2F)),(.pointer (some z2G))]),(.slice z2H z2q.length z2I)],stb z3L 87 [(.int .i64 z4c)],stb z4Y 40 [(.int .i64 z3W),(.int .i64 z3X)]] [] [fz z4w,stb z2U 67 [(.slice z2r z1N.length z2s),(.int .i64 zl.fRate.fN),(.int .i64 zl.fRate.fD),(.int .i64 zl.fLatency.fN),(.int .i64 zl.fLatency.fD),(.func (.func 38) #[] #[(.pointer (some z2F)),(.pointer (some z2G))]),(.slice z2H z2q.length z2I)],stb z3L 87 [(.int .i64 z4c)],stb z4Y 40 [(.int .i64 z3W),(.int .i64 z3X)]]) (fun w hw=>by have pz:=(hz.call2 hw (.nil : Sel [fz z4w,stb z2U 67 [(.slice z2r z1N.length z2s),(.int .i64 zl.fRate.fN),(.int .i64 zl.fRate.fD),(.int .i64 zl.fLatency.fN),(.int .i64 zl.fLatency.fD),(.func (.func 38) #[] #[(.pointer (some z2F)),(.pointer (some z2G))]),(.slice z2H z2q.length z2I)],stb z3L 87 [(.int .i64 z4c)],stb z4Y 40 [(.int .i64 z3W),(.int .i64 z3X)]] [] [fz z4w,stb z2U 67 [(.slice z2r z1N.length z2s),(.int .i64 zl.fRate.fN),(.int .i64 zl.fRate.fD),(.int .i64 zl.fLatency.fN),(.int .i64 zl.fLatency.fD),(.func (.func 38) #[] #[(.pointer (some z2F)),(.pointer (some z2G))]),(.slice z2H z2q.length z2I)],stb z3L 87 [(.int .i64 z4c)],stb z4Y 40 [(.int .i64 z3W),(.int .i64 z3X)]]) .here); exact w_curve_Breaks (Z:=_) (z9u:=zre) (z9v:=zrf) (z7B:=(nth z1N z6l)) (r:=z4K) w pz zrg zyj) ?_
      rintro z8z z9I z9J _
      refine WL.merge .here .h1 ?_
      refine WL.a (d:=34) rfl rfl rfl (q_m rfl) ?_
      refine WL.a (d:=37) rfl rfl rfl (q_extract rfl rfl) ?_
      refine WL.a (d:=38) rfl rfl rfl (q_extract rfl rfl) ?_
      refine WL.a (d:=7) rfl rfl rfl (q_z rfl) ?_
      refine WL.a (d:=8) rfl rfl rfl (q_z rfl) ?_
      refine WL.nil ?_
      refine WX.a ?_
      refine WC.b ?_
      refine WC.a ?_
      refine WL.a (d:=39) rfl rfl rfl (q_m rfl) ?_
      refine WL.a (d:=40) rfl rfl rfl (q_neq rfl rfl) ?_
      refine WL.nil ?_
      refine WX.a ?_
      refine WC.cond rfl (fun zmd=>?_) (fun zmd=>?_)
      ·replace h:=ite_t h zmd
       refine WC.b ?_
       refine WC.a ?_
       refine WL.a (d:=41) rfl rfl rfl (q_m rfl) ?_
       refine WL.a (d:=2) rfl rfl rfl (q_z rfl) ?_
       refine WL.nil ?_
       refine WX.a ?_
       refine WC.ret ?_
       refine WX.thenRet ?_
       refine WX.blockRet ?_
       refine WX.thenRet ?_
       refine WX.thenRet ?_
       refine WX.blockRet ?_
       refine WX.thenRet ?_
       obtain rfl:=Option.some.inj h
       refine WX.bpRet Tryz.results54 (.tmp rfl .nil) (fun w hw=>?_)
       exact ⟨(z4w ++ z8z),ret1 rfl,trivial,hw.sub (.cons .here .nil)⟩
      ·replace h:=ite_f h zmd
       refine WC.skip ?_
       refine WX.a ?_
       refine WC.b ?_
       obtain ⟨z5l,zyk,h⟩:=z8 h
       refine WC.a ?_
       refine WL.a (d:=43) rfl rfl rfl (q_m rfl) ?_
       refine WL.b (dd:=44) rfl rfl rfl (zi (l:=[.tmp 43]) Tryz.call77 (.cons rfl .nil)) (.nil : Sel [fz (z4w ++ z8z),row (.slice z9I z4K.1.length z9J) 40 2 (z4K.1.flatMap e40),stb z2U 67 [(.slice z2r z1N.length z2s),(.int .i64 zl.fRate.fN),(.int .i64 zl.fRate.fD),(.int .i64 zl.fLatency.fN),(.int .i64 zl.fLatency.fD),(.func (.func 38) #[] #[(.pointer (some z2F)),(.pointer (some z2G))]),(.slice z2H z2q.length z2I)],stb z3L 87 [(.int .i64 z4c)],stb z4Y 40 [(.int .i64 z3W),(.int .i64 z3X)]] [] [fz (z4w ++ z8z),row (.slice z9I z4K.1.length z9J) 40 2 (z4K.1.flatMap e40),stb z2U 67 [(.slice z2r z1N.length z2s),(.int .i64 zl.fRate.fN),(.int .i64 zl.fRate.fD),(.int .i64 zl.fLatency.fN),(.int .i64 zl.fLatency.fD),(.func (.func 38) #[] #[(.pointer (some z2F)),(.pointer (some z2G))]),(.slice z2H z2q.length z2I)],stb z3L 87 [(.int .i64 z4c)],stb z4Y 40 [(.int .i64 z3W),(.int .i64 z3X)]]) (fun w hw=>by have pz:=(hz.call2 hw (.nil : Sel [fz (z4w ++ z8z),row (.slice z9I z4K.1.length z9J) 40 2 (z4K.1.flatMap e40),stb z2U 67 [(.slice z2r z1N.length z2s),(.int .i64 zl.fRate.fN),(.int .i64 zl.fRate.fD),(.int .i64 zl.fLatency.fN),(.int .i64 zl.fLatency.fD),(.func (.func 38) #[] #[(.pointer (some z2F)),(.pointer (some z2G))]),(.slice z2H z2q.length z2I)],stb z3L 87 [(.int .i64 z4c)],stb z4Y 40 [(.int .i64 z3W),(.int .i64 z3X)]] [] [fz (z4w ++ z8z),row (.slice z9I z4K.1.length z9J) 40 2 (z4K.1.flatMap e40),stb z2U 67 [(.slice z2r z1N.length z2s),(.int .i64 zl.fRate.fN),(.int .i64 zl.fRate.fD),(.int .i64 zl.fLatency.fN),(.int .i64 zl.fLatency.fD),(.func (.func 38) #[] #[(.pointer (some z2F)),(.pointer (some z2G))]),(.slice z2H z2q.length z2I)],stb z3L 87 [(.int .i64 z4c)],stb z4Y 40 [(.int .i64 z3W),(.int .i64 z3X)]]) .here); exact w_curve_Rate (Z:=_) (zbu:=zre) (zbv:=zrf) (z8j:=(nth z1N z6l)) (r:=z5l) w pz (zrg.mono ((Zle.left _ _).trans (Zle.assoc _ _ _))) zyk) ?_
       refine WL.a (d:=42) rfl rfl rfl (q_m rfl) ?_
       refine WL.a (d:=45) rfl rfl rfl (q_extract rfl rfl) ?_
       refine WL.a (d:=46) rfl rfl rfl (q_extract rfl rfl) ?_
       refine WL.new (dd:=9) rfl rfl rfl (e_alloc (cs:=[(.int .i64 0),(.int .i64 0)]) zeroT_40 rfl) ?_
       intro zeB _
       refine WL.eff0 rfl rfl (e_store (vs:=[(.int .i64 z5l.1.fN),(.int .i64 z5l.1.fD)]) (ds:=[(.int .i64 z5l.1.fN),(.int .i64 z5l.1.fD)]) sizT_40 rfl rfl rfl rfl (oc_cons rfl (oc_cons rfl oc_nil)) .here (Nat.le_of_ble_eq_true rfl) rfl) ?_
       refine WL.a (d:=10) rfl rfl rfl (q_z rfl) ?_
       refine WL.nil ?_
       refine WX.a ?_
       obtain ⟨z8x,zyl,h⟩:=z8 h
       refine WC.a ?_
       refine WL.a (d:=47) rfl rfl rfl (q_loadA (cs:=[(.int .i64 z3W),(.int .i64 z3X)]) aggT_40 rfl rfl (rd_all .h5)) ?_
       refine WL.a (d:=48) rfl rfl rfl (q_loadA (cs:=[(.int .i64 z5l.1.fN),(.int .i64 z5l.1.fD)]) aggT_40 rfl rfl (rd_all .here)) ?_
       refine WL.b (dd:=49) rfl rfl rfl (zi (l:=[.tmp 3,.func 31,.tmp 47,.tmp 48]) Tryz.call30 (.cons rfl (.cons rfl (.cons rfl (.cons rfl .nil))))) ((.cons .h4 .nil) : Sel [stb zeB 40 [(.int .i64 z5l.1.fN),(.int .i64 z5l.1.fD)],fz (z4w ++ z8z),row (.slice z9I z4K.1.length z9J) 40 2 (z4K.1.flatMap e40),stb z2U 67 [(.slice z2r z1N.length z2s),(.int .i64 zl.fRate.fN),(.int .i64 zl.fRate.fD),(.int .i64 zl.fLatency.fN),(.int .i64 zl.fLatency.fD),(.func (.func 38) #[] #[(.pointer (some z2F)),(.pointer (some z2G))]),(.slice z2H z2q.length z2I)],stb z3L 87 [(.int .i64 z4c)],stb z4Y 40 [(.int .i64 z3W),(.int .i64 z3X)]] [stb z3L 87 [(.int .i64 z4c)]] [stb zeB 40 [(.int .i64 z5l.1.fN),(.int .i64 z5l.1.fD)],fz (z4w ++ z8z),row (.slice z9I z4K.1.length z9J) 40 2 (z4K.1.flatMap e40),stb z2U 67 [(.slice z2r z1N.length z2s),(.int .i64 zl.fRate.fN),(.int .i64 zl.fRate.fD),(.int .i64 zl.fLatency.fN),(.int .i64 zl.fLatency.fD),(.func (.func 38) #[] #[(.pointer (some z2F)),(.pointer (some z2G))]),(.slice z2H z2q.length z2I)],stb z4Y 40 [(.int .i64 z3W),(.int .i64 z3X)]]) (fun w hw=>by have pz:=(hz.call2 hw ((.cons .h4 .nil) : Sel [stb zeB 40 [(.int .i64 z5l.1.fN),(.int .i64 z5l.1.fD)],fz (z4w ++ z8z),row (.slice z9I z4K.1.length z9J) 40 2 (z4K.1.flatMap e40),stb z2U 67 [(.slice z2r z1N.length z2s),(.int .i64 zl.fRate.fN),(.int .i64 zl.fRate.fD),(.int .i64 zl.fLatency.fN),(.int .i64 zl.fLatency.fD),(.func (.func 38) #[] #[(.pointer (some z2F)),(.pointer (some z2G))]),(.slice z2H z2q.length z2I)],stb z3L 87 [(.int .i64 z4c)],stb z4Y 40 [(.int .i64 z3W),(.int .i64 z3X)]] [stb z3L 87 [(.int .i64 z4c)]] [stb zeB 40 [(.int .i64 z5l.1.fN),(.int .i64 z5l.1.fD)],fz (z4w ++ z8z),row (.slice z9I z4K.1.length z9J) 40 2 (z4K.1.flatMap e40),stb z2U 67 [(.slice z2r z1N.length z2s),(.int .i64 zl.fRate.fN),(.int .i64 zl.fRate.fD),(.int .i64 zl.fLatency.fN),(.int .i64 zl.fLatency.fD),(.func (.func 38) #[] #[(.pointer (some z2F)),(.pointer (some z2G))]),(.slice z2H z2q.length z2I)],stb z4Y 40 [(.int .i64 z3W),(.int .i64 z3X)]]) .h1); exact w_calculus_calc_do (Z:=_) (z4j:=z3L) (z6Z:=31) (z7D:=[]) (z5h:=(⟨z4c⟩ : z2c)) (z7T:=(fun (y0 : z2) (y1 : z2)=>m_rat_Add y0 y1)) (z2P:=(⟨z3W,z3X⟩ : z2)) (z2Q:=z5l.1) (r:=z8x) w pz Tryz.call31 (fun w' hz' y0 y1  r  hr=>w_rat_Add (Z:=_)  (z44:=y0) (z47:=y1) (r:=r) w' hz'  hr) zyl (hw.owns ((.cons .h4 .nil) : Sel [stb zeB 40 [(.int .i64 z5l.1.fN),(.int .i64 z5l.1.fD)],fz (z4w ++ z8z),row (.slice z9I z4K.1.length z9J) 40 2 (z4K.1.flatMap e40),stb z2U 67 [(.slice z2r z1N.length z2s),(.int .i64 zl.fRate.fN),(.int .i64 zl.fRate.fD),(.int .i64 zl.fLatency.fN),(.int .i64 zl.fLatency.fD),(.func (.func 38) #[] #[(.pointer (some z2F)),(.pointer (some z2G))]),(.slice z2H z2q.length z2I)],stb z3L 87 [(.int .i64 z4c)],stb z4Y 40 [(.int .i64 z3W),(.int .i64 z3X)]] [stb z3L 87 [(.int .i64 z4c)]] [stb zeB 40 [(.int .i64 z5l.1.fN),(.int .i64 z5l.1.fD)],fz (z4w ++ z8z),row (.slice z9I z4K.1.length z9J) 40 2 (z4K.1.flatMap e40),stb z2U 67 [(.slice z2r z1N.length z2s),(.int .i64 zl.fRate.fN),(.int .i64 zl.fRate.fD),(.int .i64 zl.fLatency.fN),(.int .i64 zl.fLatency.fD),(.func (.func 38) #[] #[(.pointer (some z2F)),(.pointer (some z2G))]),(.slice z2H z2q.length z2I)],stb z4Y 40 [(.int .i64 z3W),(.int .i64 z3X)]]))) ?_
       refine WL.eff0 rfl rfl (e_store (vs:=[(.int .i64 z8x.1.fN),(.int .i64 z8x.1.fD)]) (ds:=[(.int .i64 z8x.1.fN),(.int .i64 z8x.1.fD)]) sizT_40 rfl rfl rfl rfl (oc_cons rfl (oc_cons rfl oc_nil)) .h5 (Nat.le_of_ble_eq_true rfl) rfl) ?_
       refine WL.nil ?_
       refine WX.blockNormal ?_
       refine WX.a ?_
       refine WC.a ?_
       refine WL.a (d:=50) rfl rfl rfl (q_add rfl rfl rfl) ?_
       refine WL.a (d:=30) rfl rfl rfl (q_m rfl) ?_
       refine WL.nil ?_
       exact WX.round (G:=Nat × Int × Int × Int × Int × Zp) ⟨zm1,(i64 (z6l + 1)),z8x.2.fE,z8x.1.fN,z8x.1.fD,(z4w ++ z8z)⟩ ⟨h,(zie.trans ((Zle.left _ _).trans (Zle.assoc _ _ _)))⟩ (Nat.lt_succ_self _) (.cons rfl (.cons rfl (.cons rfl (.cons rfl (.cons rfl (.cons rfl .nil)))))) (.cons .h3 (.cons .h4 (.cons .h1 (.cons .here .nil))))
     ·replace h:=ite_f h zmc
      refine WC.exit ?_
      refine WX.thenExit ?_
      refine WX.thenExit ?_
      refine WX.blockHit ?_
      exact WX.mid (G:=Int × Int × Int × Zp) ⟨z4c,z3W,z3X,z4w⟩ ⟨h,zie⟩ (.cons rfl (.cons rfl (.cons rfl .nil))) (.cons .here (.cons .here (.cons .here (.cons .here .nil))))
    ·rintro z7j z7k z7l z8y ⟨h,zDs⟩
     replace h:=(zyg z7j z7k z7l).symm.trans h
     refine WC.b ?_
     refine WC.b ?_
     obtain ⟨zm6,zrh,h⟩:=z8 h
     refine WC.a ?_
     refine WL.a (d:=51) rfl rfl rfl (q_fieldAddr fo_87_0 rfl rfl) ?_
     refine WL.a (d:=52) rfl rfl rfl (q_load1 oneT_26 rfl (rd_stb .h2 rfl)) ?_
     refine WL.a (d:=53) rfl rfl rfl (q_eql rfl rfl) ?_
     refine WL.a (d:=54) rfl rfl rfl (q_m rfl) ?_
     refine WL.cut0 True [(3,(.pointer (some ⟨z3L,0,none⟩))),(61,(.bool zm6))] [fz z8y,stb z2U 67 [(.slice z2r z1N.length z2s),(.int .i64 zl.fRate.fN),(.int .i64 zl.fRate.fD),(.int .i64 zl.fLatency.fN),(.int .i64 zl.fLatency.fD),(.func (.func 38) #[] #[(.pointer (some z2F)),(.pointer (some z2G))]),(.slice z2H z2q.length z2I)],stb z3L 87 [(.int .i64 z7j)],stb z4Y 40 [(.int .i64 z7k),(.int .i64 z7l)]] 7 ?_ (fun _=>?_)
     ·rcases Bool.eq_false_or_eq_true (decide (z7j = 0)) with hb' | hb'
      ·have zri:=hb'; clear hb'
       have zgc:=ite_t zrh zri
       obtain ⟨zm5,zym,zgc⟩:=z8 zgc
       replace zgc:=Option.some.inj zgc
       refine WL.pin (i:=54) rfl zri ?_
       refine WL.a (d:=55) rfl rfl rfl (q_loadA (cs:=[(.int .i64 z7k),(.int .i64 z7l)]) aggT_40 rfl rfl (rd_all .h3)) ?_
       refine WL.a (d:=56) rfl rfl rfl (q_fieldAddr fo_67_1 rfl rfl) ?_
       refine WL.a (d:=57) rfl rfl rfl (q_fieldAddr fo_42_0 rfl rfl) ?_
       refine WL.a (d:=58) rfl rfl rfl (q_loadA (cs:=[(.int .i64 zl.fRate.fN),(.int .i64 zl.fRate.fD)]) aggT_40 rfl rfl (rd_sub (s:=2) .h1 rfl)) ?_
       refine WL.b (dd:=59) rfl rfl rfl (zi (l:=[.tmp 55,.tmp 58]) Tryz.call24 (.cons rfl (.cons rfl .nil))) (.nil : Sel [fz z8y,stb z2U 67 [(.slice z2r z1N.length z2s),(.int .i64 zl.fRate.fN),(.int .i64 zl.fRate.fD),(.int .i64 zl.fLatency.fN),(.int .i64 zl.fLatency.fD),(.func (.func 38) #[] #[(.pointer (some z2F)),(.pointer (some z2G))]),(.slice z2H z2q.length z2I)],stb z3L 87 [(.int .i64 z7j)],stb z4Y 40 [(.int .i64 z7k),(.int .i64 z7l)]] [] [fz z8y,stb z2U 67 [(.slice z2r z1N.length z2s),(.int .i64 zl.fRate.fN),(.int .i64 zl.fRate.fD),(.int .i64 zl.fLatency.fN),(.int .i64 zl.fLatency.fD),(.func (.func 38) #[] #[(.pointer (some z2F)),(.pointer (some z2G))]),(.slice z2H z2q.length z2I)],stb z3L 87 [(.int .i64 z7j)],stb z4Y 40 [(.int .i64 z7k),(.int .i64 z7l)]]) (fun w hw=>by have pz:=(hz.call2 hw (.nil : Sel [fz z8y,stb z2U 67 [(.slice z2r z1N.length z2s),(.int .i64 zl.fRate.fN),(.int .i64 zl.fRate.fD),(.int .i64 zl.fLatency.fN),(.int .i64 zl.fLatency.fD),(.func (.func 38) #[] #[(.pointer (some z2F)),(.pointer (some z2G))]),(.slice z2H z2q.length z2I)],stb z3L 87 [(.int .i64 z7j)],stb z4Y 40 [(.int .i64 z7k),(.int .i64 z7l)]] [] [fz z8y,stb z2U 67 [(.slice z2r z1N.length z2s),(.int .i64 zl.fRate.fN),(.int .i64 zl.fRate.fD),(.int .i64 zl.fLatency.fN),(.int .i64 zl.fLatency.fD),(.func (.func 38) #[] #[(.pointer (some z2F)),(.pointer (some z2G))]),(.slice z2H z2q.length z2I)],stb z3L 87 [(.int .i64 z7j)],stb z4Y 40 [(.int .i64 z7k),(.int .i64 z7l)]]) .here); exact w_rat_Cmp (Z:=_)  (z28:=(⟨z7k,z7l⟩ : z2)) (z29:=zl.fRate) (r:=zm5) w pz  zym) ?_
       refine WL.a (d:=60) rfl rfl rfl (q_gtr rfl rfl) ?_
       refine WL.a (d:=61) rfl rfl rfl (q_pickT rfl rfl) ?_
       exact WL.cutEnd () trivial (.cons rfl (.cons (zf zgc) .nil)) (.cons .here (.cons .here (.cons .here (.cons .here .nil))))
      ·have zrj:=hb'; clear hb'
       have zme:=ite_f zrh zrj
       replace zme:=Option.some.inj zme
       refine WL.pin (i:=54) rfl zrj ?_
       refine WL.e rfl rfl rfl ?_
       refine WL.e rfl rfl rfl ?_
       refine WL.e rfl rfl rfl ?_
       refine WL.e rfl rfl rfl ?_
       refine WL.e rfl rfl rfl ?_
       refine WL.e rfl rfl rfl ?_
       refine WL.a (d:=61) rfl rfl rfl (q_pickF rfl rfl) ?_
       exact WL.cutEnd () trivial (.cons rfl (.cons (zf zme) .nil)) (.cons .here (.cons .here (.cons .here (.cons .here .nil))))
     ·skip
      refine WL.nil ?_
      refine WX.a ?_
      refine WC.cond rfl (fun zmf=>?_) (fun zmf=>?_)
      ·replace h:=ite_t h zmf
       refine WC.b ?_
       refine WC.a ?_
       refine WL.a (d:=2) rfl rfl rfl (q_z rfl) ?_
       refine WL.nil ?_
       refine WX.a ?_
       refine WC.ret ?_
       refine WX.thenRet ?_
       obtain rfl:=Option.some.inj h
       refine WX.bpRet Tryz.results54 (.tmp rfl .nil) (fun w hw=>?_)
       exact ⟨z8y,ret1 rfl,trivial,hw.sub (.cons .here .nil)⟩
      ·replace h:=ite_f h zmf
       refine WC.skip ?_
       refine WX.a ?_
       refine WC.b ?_
       refine WC.a ?_
       refine WL.a (d:=62) rfl rfl rfl (q_fieldAddr fo_87_0 rfl rfl) ?_
       refine WL.a (d:=63) rfl rfl rfl (q_load1 oneT_26 rfl (rd_stb .h2 rfl)) ?_
       refine WL.a (d:=2) rfl rfl rfl (q_z rfl) ?_
       refine WL.nil ?_
       refine WX.a ?_
       refine WC.ret ?_
       obtain rfl:=Option.some.inj h
       refine WX.bpRet Tryz.results54 (.tmp rfl .nil) (fun w hw=>?_)
       exact ⟨z8y,ret1 rfl,trivial,hw.sub (.cons .here .nil)⟩
def m_calculus_search_pointsb (zaK : List (List z1)) (z4Z : S41) (zgd : List (List z1)) (zdb : S41) (zaL : List z2) : Option (Int × Int × Int × Int) :=
 some (z4Z.fRate.fN,z4Z.fRate.fD,z4Z.fLatency.fN,z4Z.fLatency.fD)
set_option maxRecDepth 20000 in
theorem w_calculus_search_pointsb (Z : Zp)  (zdc : Option Addr) (zdd : Nat) (zde : Addr) (zmg : Option Addr) (zmh : Nat) (zdf : Addr) (zdg : Option Addr) (zdh : Nat) (zaK : List (List z1)) (z4Z : S41) (zgd : List (List z1)) (zdb : S41) (zaL : List z2) (r : Int × Int × Int × Int) (w₀ : World) (hz : PZ [] w₀ Z)
  (zDt : ZS Z 1 (p23 Z) zdc zdd zaK)
  (zDu : ZS Z 1 (p23 Z) zmg zmh zgd)
  (zDv : ZC Z zde [(.slice zmg zgd.length zmh)])
  (zDw : ZC Z zdf [(.int .i64 zdb.fRate.fN),(.int .i64 zdb.fRate.fD),(.int .i64 zdb.fLatency.fN),(.int .i64 zdb.fLatency.fD)])
  (zDx : ZS Z 2 (fun r x=>r = e40 x) zdg zdh zaL)
  (h : m_calculus_search_pointsb zaK z4Z zgd zdb zaL = some r) :
  Calls Tryz.prog 55 #[(.agg #[(.slice zdc zaK.length zdd),(.int .i64 z4Z.fRate.fN),(.int .i64 z4Z.fRate.fD),(.int .i64 z4Z.fLatency.fN),(.int .i64 z4Z.fLatency.fD),(.func (.func 38) #[] #[(.pointer (some zde)),(.pointer (some zdf))]),(.slice zdg zaL.length zdh)])] w₀ fun e w'=>∃ zrk : Nat,e = .returned (.func (.func 78) #[] #[(.pointer (some ⟨zrk,0,none⟩))]) ∧ True ∧ Hp [] w₀ w' [stb zrk 67 [(.slice zdc zaK.length zdd),(.int .i64 r.1),(.int .i64 r.2.1),(.int .i64 r.2.2.1),(.int .i64 r.2.2.2),(.func (.func 38) #[] #[(.pointer (some zde)),(.pointer (some zdf))]),(.slice zdg zaL.length zdh)]]:=by
 unfold m_calculus_search_pointsb at h
 refine Calls.ofWC (vs:=[(.agg #[(.slice zdc zaK.length zdd),(.int .i64 z4Z.fRate.fN),(.int .i64 z4Z.fRate.fD),(.int .i64 z4Z.fLatency.fN),(.int .i64 z4Z.fLatency.fD),(.func (.func 38) #[] #[(.pointer (some zde)),(.pointer (some zdf))]),(.slice zdg zaL.length zdh)])]) (pre:=[]) (env:=[(0,(.agg #[(.slice zdc zaK.length zdd),(.int .i64 z4Z.fRate.fN),(.int .i64 z4Z.fRate.fD),(.int .i64 z4Z.fLatency.fN),(.int .i64 z4Z.fLatency.fD),(.func (.func 38) #[] #[(.pointer (some zde)),(.pointer (some zdf))]),(.slice zdg zaL.length zdh)]))]) Tryz.func55 rfl Tryz.ntmps55 rfl (Hp.nil w₀ _) rfl ?_
 refine WC.b ?_
 refine WC.a ?_
 refine WL.new (dd:=1) rfl rfl rfl (e_box (cs:=[(.slice zdc zaK.length zdd),(.int .i64 z4Z.fRate.fN),(.int .i64 z4Z.fRate.fD),(.int .i64 z4Z.fLatency.fN),(.int .i64 z4Z.fLatency.fD),(.func (.func 38) #[] #[(.pointer (some zde)),(.pointer (some zdf))]),(.slice zdg zaL.length zdh)]) rfl rfl) ?_
 intro zyn _
 refine WL.a (d:=2) rfl rfl rfl (q_z rfl) ?_
 refine WL.nil ?_
 refine WX.a ?_
 refine WC.b ?_
 refine WC.a ?_
 refine WL.a (d:=3) rfl rfl rfl (q_makeFunc (Eos.caps (l:=[.tmp 1]) (.cons rfl .nil))) ?_
 refine WL.a (d:=2) rfl rfl rfl (q_z rfl) ?_
 refine WL.nil ?_
 refine WX.a ?_
 refine WC.ret ?_
 obtain rfl:=Option.some.inj h
 refine WX.bpRet Tryz.results55 (.tmp rfl .nil) (fun w hw=>?_)
 exact ⟨zyn,ret1 rfl,trivial,hw.sub (.cons .here .nil)⟩
def m_calculus_search_points_1b_L5 (zt : Type) (zw : List z2 × Int) (z4d : z2 → zt → Option (Bool × zt)) (zaM : zt → Option zt) : Nat → Int → zt → Option zt
 | 0,_,_=>none
 | zmi + 1,z1q,z4L=>if decide (z1q < ((zw.1.length : Nat) : Int)) then chk ((0 : Int) ≤ z1q ∧ z1q < ((zw.1.length : Nat) : Int)) ((m_rat_Floor (⟨((nth zw.1 z1q).fN),((nth zw.1 z1q).fD)⟩ : z2)).bind fun zif=>(m_calculus_whole zif).bind fun zig=>(z4d zig z4L).bind fun z6m=>(if !z6m.1 then some (true,z6m.2) else (m_rat_Ceil (⟨((nth zw.1 z1q).fN),((nth zw.1 z1q).fD)⟩ : z2)).bind fun zih=>(m_calculus_whole zih).bind fun zii=>(z4d zii z6m.2).bind fun zge=>some (!zge.1,zge.2)).bind fun zbW=>if zbW.1 then some zbW.2 else m_calculus_search_points_1b_L5 zt zw z4d zaM zmi (i64 (z1q + 1)) zbW.2) else zaM z4L
theorem m_calculus_search_points_1b_L5_fuel {n : Nat} {zt : Type} {zw : List z2 × Int} {z4d : z2 → zt → Option (Bool × zt)} {zaM : zt → Option zt} {z1q : Int} {z4L : zt} {r : zt} (h : m_calculus_search_points_1b_L5 zt zw z4d zaM n z1q z4L = some r) : ∃ m,n = m + 1:=by
 cases n with
 | zero=>cases h
 | succ m=>exact ⟨m,rfl⟩
def m_calculus_search_points_1b_L4 (zt : Type) (z4x : List (List z1)) (z4d : z2 → zt → Option (Bool × zt)) (zaN : zt → Option zt) : Nat → Int → zt → Option zt
 | 0,_,_=>none
 | zmj + 1,z5D,z6n=>if decide (z5D < ((z4x.length : Nat) : Int)) then jp1 (fun (z9K : zt)=>m_calculus_search_points_1b_L4 zt z4x z4d zaN zmj (i64 (z5D + 1)) z9K) fun zmk=>chk ((0 : Int) ≤ z5D ∧ z5D < ((z4x.length : Nat) : Int)) ((m_curve_Breaks (nth z4x z5D)).bind fun zw=>jp1 (fun (z9L : zt)=>zmk z9L) fun zaM=>m_calculus_search_points_1b_L5 zt zw z4d zaM FUEL 0 z6n) else zaN z6n
theorem m_calculus_search_points_1b_L4_fuel {n : Nat} {zt : Type} {z4x : List (List z1)} {z4d : z2 → zt → Option (Bool × zt)} {zaN : zt → Option zt} {z5D : Int} {z6n : zt} {r : zt} (h : m_calculus_search_points_1b_L4 zt z4x z4d zaN n z5D z6n = some r) : ∃ m,n = m + 1:=by
 cases n with
 | zero=>cases h
 | succ m=>exact ⟨m,rfl⟩
def m_calculus_search_points_1b_L6 (zt : Type) (z1h : List z2) (z4d : z2 → zt → Option (Bool × zt)) (zaO : zt → Option zt) : Nat → Int → zt → Option zt
 | 0,_,_=>none
 | zml + 1,z1r,z4M=>if decide (z1r < ((z1h.length : Nat) : Int)) then chk ((0 : Int) ≤ z1r ∧ z1r < ((z1h.length : Nat) : Int)) ((m_rat_Floor (⟨((nth z1h z1r).fN),((nth z1h z1r).fD)⟩ : z2)).bind fun zij=>(m_calculus_whole zij).bind fun zik=>(z4d zik z4M).bind fun z6o=>(if !z6o.1 then some (true,z6o.2) else (m_rat_Ceil (⟨((nth z1h z1r).fN),((nth z1h z1r).fD)⟩ : z2)).bind fun zil=>(m_calculus_whole zil).bind fun zim=>(z4d zim z6o.2).bind fun zgf=>some (!zgf.1,zgf.2)).bind fun zbX=>if zbX.1 then some zbX.2 else m_calculus_search_points_1b_L6 zt z1h z4d zaO zml (i64 (z1r + 1)) zbX.2) else zaO z4M
theorem m_calculus_search_points_1b_L6_fuel {n : Nat} {zt : Type} {z1h : List z2} {z4d : z2 → zt → Option (Bool × zt)} {zaO : zt → Option zt} {z1r : Int} {z4M : zt} {r : zt} (h : m_calculus_search_points_1b_L6 zt z1h z4d zaO n z1r z4M = some r) : ∃ m,n = m + 1:=by
 cases n with
 | zero=>cases h
 | succ m=>exact ⟨m,rfl⟩
def m_calculus_search_points_1b (zt : Type) (z4d : z2 → zt → Option (Bool × zt)) (s0_27363 : zt) (z4x : List (List z1)) (zdi : S41) (zgg : List (List z1)) (zdj : S41) (z1h : List z2) : Option zt :=
 (m_calculus_zero).bind fun zin=>(z4d zin s0_27363).bind fun zdk=>if !zdk.1 then some zdk.2 else jp1 (fun (z9M : zt)=>jp1 (fun (zaP : zt)=>some zaP) fun zaO=>m_calculus_search_points_1b_L6 zt z1h z4d zaO FUEL 0 z9M) fun zaN=>m_calculus_search_points_1b_L4 zt z4x z4d zaN FUEL 0 zdk.2
set_option maxRecDepth 20000 in
theorem w_calculus_search_points_1b (Z : Zp) (zt : Type) (z80 : Nat) (z2t : Type) (z1s : z2t → zt → Asrt) (z81 : z2t → zt → Prop) (z7H : z2t) (z9c : Addr) (zbY : Option Addr) (zbZ : Nat) (zmm : Addr) (zmn : Option Addr) (zmo : Nat) (zmp : Addr) (zgh : Option Addr) (zgi : Nat) (z4d : z2 → zt → Option (Bool × zt)) (s0_27363 : zt) (z4x : List (List z1)) (zdi : S41) (zgg : List (List z1)) (zdj : S41) (z1h : List z2) (r : zt) (w₀ : World) (hz : PZ (fps [z1s z7H s0_27363]) w₀ Z)
  (zgj : YieldP Tryz.prog Z z80 (α:=z2) (σ:=zt) (G:=z2t) (H:=Unit) (fun h x=>[(.agg #[(.int .i64 x.fN),(.int .i64 x.fD)])]) (fun h x=>[]) z4d z1s z81)
  (zyo : z81 z7H s0_27363)
  (zyp : ZS Z 1 (p23 Z) zbY zbZ z4x)
  (zDy : ZS Z 1 (p23 Z) zmn zmo zgg)
  (zDz : ZC Z zmm [(.slice zmn zgg.length zmo)])
  (zDA : ZC Z zmp [(.int .i64 zdj.fRate.fN),(.int .i64 zdj.fRate.fD),(.int .i64 zdj.fLatency.fN),(.int .i64 zdj.fLatency.fD)])
  (zyq : ZS Z 2 (fun r x=>r = e40 x) zgh zgi z1h)
  (zrl : ZC Z z9c [(.slice zbY z4x.length zbZ),(.int .i64 zdi.fRate.fN),(.int .i64 zdi.fRate.fD),(.int .i64 zdi.fLatency.fN),(.int .i64 zdi.fLatency.fD),(.func (.func 38) #[] #[(.pointer (some zmm)),(.pointer (some zmp))]),(.slice zgh z1h.length zgi)])
  (h : m_calculus_search_points_1b zt z4d s0_27363 z4x zdi zgg zdj z1h = some r)
  (hown : Hp (fps [z1s z7H s0_27363]) w₀ w₀ [z1s z7H s0_27363]) :
  Calls Tryz.prog 78 #[(.func (.yield z80) #[] #[]),(.pointer (some z9c))] w₀ fun e w'=>∃ Zn : Zp,∃ zrm : z2t,e = .returned (.tuple #[]) ∧ (z81 zrm r) ∧ Hp (fps [z1s z7H s0_27363]) w₀ w' [fz Zn,z1s zrm r]:=by
 unfold m_calculus_search_points_1b at h
 refine Calls.ofWC (vs:=[(.func (.yield z80) #[] #[]),(.pointer (some z9c))]) (pre:=[z1s z7H s0_27363]) (env:=[(0,(.func (.yield z80) #[] #[])),(1,(.pointer (some z9c)))]) Tryz.func78 rfl Tryz.ntmps78 rfl (hown) rfl ?_
 refine WC.pool ?_
 refine WC.b ?_
 refine WC.b ?_
 obtain ⟨zin,zyr,h⟩:=z8 h
 obtain ⟨zdk,zys,h⟩:=z8 h
 refine WC.a ?_
 refine WL.a (d:=11) rfl rfl rfl (q_m rfl) ?_
 refine WL.b (dd:=12) rfl rfl rfl (zi (l:=[]) Tryz.call52 .nil) (.nil : Sel [fz [],z1s z7H s0_27363] [] [fz [],z1s z7H s0_27363]) (fun w hw=>by have pz:=(hz.call2 hw (.nil : Sel [fz [],z1s z7H s0_27363] [] [fz [],z1s z7H s0_27363]) .here); exact w_calculus_zero (Z:=_)   (r:=zin) w pz  zyr) ?_
 refine WL.yield (dd:=13) (x:=zin) (h:=()) (g:=z7H) (s:=s0_27363) (b:=zdk.1) (s':=zdk.2) zgj rfl rfl rfl (.cons rfl .nil) ((.cons .h1 .nil) : Sel _ [z1s z7H s0_27363] _) zys zyo (fun w hw=>hz.call hw ((.cons .h1 .nil) : Sel _ [z1s z7H s0_27363] _)) ?_
 intro zrn zro
 refine WL.a (d:=14) rfl rfl rfl (q_not rfl) ?_
 refine WL.nil ?_
 refine WX.a ?_
 refine WC.cond rfl (fun zmq=>?_) (fun zmq=>?_)
 ·replace h:=ite_t h zmq
  refine WC.ret ?_
  refine WX.thenRet ?_
  obtain rfl:=Option.some.inj h
  refine WX.bpRet Tryz.results78 .nil (fun w hw=>?_)
  exact ⟨[],zrn,ret0,zro,hw.sub (.cons .h1 (.cons .here .nil))⟩
 ·replace h:=ite_f h zmq
  refine WC.skip ?_
  refine WX.a ?_
  obtain ⟨zaN,zyt,h⟩:=jp1_elim h
  refine WC.seqMid3 (fun (z9M : zt) (z4e : Zp) (zeC : z2t)=>(zaN z9M = some r) ∧ (Zle (Z ++ []) (Z ++ z4e)) ∧ (z81 zeC z9M)) (fun (z9M : zt) (z4e : Zp) (zeC : z2t)=>[(0,(.func (.yield z80) #[] #[])),(1,(.pointer (some z9c)))]) (fun (z9M : zt) (z4e : Zp) (zeC : z2t)=>[fz z4e,z1s zeC z9M]) ?_ ?_
  ·skip
   refine WC.b ?_
   refine WC.a ?_
   refine WL.a (d:=15) rfl rfl rfl (q_fieldAddr fo_67_0 rfl rfl) ?_
   refine WL.a (d:=16) rfl rfl rfl (q_load1 oneT_38 rfl (rd_zAt (hz.pv2 .h1) (zrl.mono (Zle.left _ _)) rfl)) ?_
   refine WL.a (d:=17) rfl rfl rfl (q_len Tryz.underlying38 rfl) ?_
   refine WL.a (d:=18) rfl rfl rfl (q_m rfl) ?_
   refine WL.nil ?_
   refine WX.a ?_
   refine WC.block ?_
   refine WC.loop5 (fun (zeD : Nat) (z5D : Int) (z6n : zt) (z3b : Zp) (z8A : z2t)=>(m_calculus_search_points_1b_L4 zt z4x z4d zaN zeD z5D z6n = some r) ∧ (Zle (Z ++ []) (Z ++ z3b)) ∧ (z81 z8A z6n)) (fun (zeD : Nat) (z5D : Int) (z6n : zt) (z3b : Zp) (z8A : z2t)=>[(0,(.func (.yield z80) #[] #[])),(1,(.pointer (some z9c))),(16,(.slice zbY z4x.length zbZ)),(17,(.int .i64 ((z4x.length : Nat) : Int))),(18,(.int .i64 z5D))]) (fun (zeD : Nat) (z5D : Int) (z6n : zt) (z3b : Zp) (z8A : z2t)=>[fz z3b,z1s z8A z6n]) (fun (zeD : Nat) (z5D : Int) (z6n : zt) (z3b : Zp) (z8A : z2t)=>zeD) ⟨FUEL,0,zdk.2,[],zrn⟩ ⟨h,(Zle.refl _),zro⟩ (.cons rfl (.cons rfl (.cons rfl (.cons rfl (.cons rfl .nil))))) (.cons .h1 (.cons .here .nil)) ?_
   rintro zeD z5D z6n z3b z8A ⟨h,zio,zrp⟩
   obtain ⟨zmj,rfl⟩:=m_calculus_search_points_1b_L4_fuel h
   rw [m_calculus_search_points_1b_L4] at h
   refine WC.b ?_
   refine WC.a ?_
   refine WL.a (d:=19) rfl rfl rfl (q_lss rfl rfl) ?_
   refine WL.nil ?_
   refine WX.a ?_
   refine WC.b ?_
   refine WC.cond rfl (fun zmr=>?_) (fun zmr=>?_)
   ·replace h:=ite_t h zmr
    refine WC.skip ?_
    refine WX.a ?_
    obtain ⟨zmk,zyu,h⟩:=jp1_elim h
    refine WC.seqMid3 (fun (z9K : zt) (zeE : Zp) (zeF : z2t)=>(zmk z9K = some r) ∧ (Zle (Z ++ z3b) (Z ++ zeE)) ∧ (z81 zeF z9K)) (fun (z9K : zt) (zeE : Zp) (zeF : z2t)=>[(0,(.func (.yield z80) #[] #[])),(1,(.pointer (some z9c))),(16,(.slice zbY z4x.length zbZ)),(17,(.int .i64 ((z4x.length : Nat) : Int))),(18,(.int .i64 z5D))]) (fun (z9K : zt) (zeE : Zp) (zeF : z2t)=>[fz zeE,z1s zeF z9K]) ?_ ?_
    ·skip
     refine WC.block ?_
     refine WC.b ?_
     obtain ⟨zyv,h⟩:=chk_elim h
     refine WC.a ?_
     refine WL.znth (dd:=20) rfl rfl (Z:=(Z ++ z3b)) (Pr:=(p23 (Z ++ z3b))) elT_38 rfl rfl ((zyp.mono ((Zle.left _ _).trans zio)).weak (fun _ _ h=>p23_mono ((Zle.left _ _).trans zio) h)) zyv ?_
     rintro zDB zDC zyw zDD ⟨zyx,zyy,rfl,zyz⟩
     refine WL.a (d:=21) rfl rfl rfl (q_load1 oneT_23 rfl (rd_z (hz.pv2 .here) zyw rfl)) ?_
     refine WL.a (d:=4) rfl rfl rfl (q_z rfl) ?_
     refine WL.nil ?_
     refine WX.a ?_
     refine WC.b ?_
     obtain ⟨zw,zyA,h⟩:=z8 h
     refine WC.a ?_
     refine WL.a (d:=23) rfl rfl rfl (q_m rfl) ?_
     refine WL.enter3 (dd:=24) rfl rfl rfl (zi (l:=[.tmp 23]) Tryz.call76 (.cons rfl .nil)) (.nil : Sel [fz z3b,z1s z8A z6n] [] [fz z3b,z1s z8A z6n]) (fun w hw=>by have pz:=(hz.call2 hw (.nil : Sel [fz z3b,z1s z8A z6n] [] [fz z3b,z1s z8A z6n]) .here); exact w_curve_Breaks (Z:=_) (z9u:=zyx) (z9v:=zyy) (z7B:=(nth z4x z5D)) (r:=zw) w pz zyz zyA) ?_
     rintro z5x zyB zyC _
     refine WL.merge .here .h1 ?_
     refine WL.a (d:=22) rfl rfl rfl (q_m rfl) ?_
     refine WL.a (d:=25) rfl rfl rfl (q_extract rfl rfl) ?_
     refine WL.a (d:=26) rfl rfl rfl (q_extract rfl rfl) ?_
     refine WL.a (d:=5) rfl rfl rfl (q_z rfl) ?_
     refine WL.a (d:=6) rfl rfl rfl (q_z rfl) ?_
     refine WL.nil ?_
     refine WX.a ?_
     refine WC.b ?_
     refine WC.a ?_
     refine WL.a (d:=27) rfl rfl rfl (q_m rfl) ?_
     refine WL.a (d:=28) rfl rfl rfl (q_len Tryz.underlying65 rfl) ?_
     refine WL.a (d:=29) rfl rfl rfl (q_m rfl) ?_
     refine WL.nil ?_
     refine WX.a ?_
     obtain ⟨zaM,zyD,h⟩:=jp1_elim h
     refine WC.mid2 (fun (z9L : zt) (zeG : z2t)=>(zaM z9L = some r) ∧ (z81 zeG z9L)) (fun (z9L : zt) (zeG : z2t)=>[(0,(.func (.yield z80) #[] #[])),(1,(.pointer (some z9c))),(16,(.slice zbY z4x.length zbZ)),(17,(.int .i64 ((z4x.length : Nat) : Int))),(18,(.int .i64 z5D))]) (fun (z9L : zt) (zeG : z2t)=>[fz (z3b ++ z5x),z1s zeG z9L]) ?_ ?_
     ·skip
      refine WC.block ?_
      refine WC.loop6 (fun (zeH : Nat) (z1q : Int) (z4L : zt) (zeI : Option Addr) (z4y : Nat) (z6p : z2t)=>(m_calculus_search_points_1b_L5 zt zw z4d zaM zeH z1q z4L = some r) ∧ (z81 z6p z4L)) (fun (zeH : Nat) (z1q : Int) (z4L : zt) (zeI : Option Addr) (z4y : Nat) (z6p : z2t)=>[(0,(.func (.yield z80) #[] #[])),(1,(.pointer (some z9c))),(16,(.slice zbY z4x.length zbZ)),(17,(.int .i64 ((z4x.length : Nat) : Int))),(18,(.int .i64 z5D)),(27,(.slice zeI zw.1.length z4y)),(28,(.int .i64 ((zw.1.length : Nat) : Int))),(29,(.int .i64 z1q))]) (fun (zeH : Nat) (z1q : Int) (z4L : zt) (zeI : Option Addr) (z4y : Nat) (z6p : z2t)=>[fz (z3b ++ z5x),row (.slice zeI zw.1.length z4y) 40 2 (zw.1.flatMap e40),z1s z6p z4L]) (fun (zeH : Nat) (z1q : Int) (z4L : zt) (zeI : Option Addr) (z4y : Nat) (z6p : z2t)=>zeH) ⟨FUEL,0,z6n,zyB,zyC,z8A⟩ ⟨h,zrp⟩ (.cons rfl (.cons rfl (.cons rfl (.cons rfl (.cons rfl (.cons rfl (.cons rfl (.cons rfl .nil)))))))) (.cons .here (.cons .here (.cons .here .nil))) ?_
      rintro zeH z1q z4L zeI z4y z6p ⟨h,zrq⟩
      obtain ⟨zmi,rfl⟩:=m_calculus_search_points_1b_L5_fuel h
      rw [m_calculus_search_points_1b_L5] at h
      refine WC.b ?_
      refine WC.a ?_
      refine WL.a (d:=30) rfl rfl rfl (q_lss rfl rfl) ?_
      refine WL.nil ?_
      refine WX.a ?_
      refine WC.b ?_
      refine WC.cond rfl (fun zms=>?_) (fun zms=>?_)
      ·replace h:=ite_t h zms
       refine WC.skip ?_
       refine WX.a ?_
       refine WC.b ?_
       refine WC.block ?_
       refine WC.b ?_
       obtain ⟨zgk,h⟩:=chk_elim h
       refine WC.a ?_
       refine WL.know (fun w hw=>Hp.expose .h1 hw (by intro hz'; have:=zgk; rw [hz'] at this; omega)) ?_
       rintro ⟨z5V,rfl⟩
       refine WL.a (d:=31) rfl rfl rfl (q_indexAddr elT_65 rfl rfl zgk.1 zgk.2 rowAdd) ?_
       refine WL.a (d:=32) rfl rfl rfl (q_loadA (cs:=(e40 (nth zw.1 z1q))) aggT_40 rfl rfl (rd_rows .h1 (flat_rd (enc:=e40) (l:=zw.1) (i:=z1q) (sz:=2) (fun _=>rfl) zgk.1 zgk.2))) ?_
       refine WL.new (dd:=8) rfl rfl rfl (e_alloc (cs:=[(.int .i64 0),(.int .i64 0)]) zeroT_40 rfl) ?_
       intro z6I _
       refine WL.eff0 rfl rfl (e_store (vs:=[(.int .i64 ((nth zw.1 z1q).fN)),(.int .i64 ((nth zw.1 z1q).fD))]) (ds:=[(.int .i64 ((nth zw.1 z1q).fN)),(.int .i64 ((nth zw.1 z1q).fD))]) sizT_40 rfl rfl rfl rfl (oc_cons rfl (oc_cons rfl oc_nil)) .here (Nat.le_of_ble_eq_true rfl) rfl) ?_
       refine WL.nil ?_
       refine WX.a ?_
       refine WC.b ?_
       obtain ⟨zif,zyE,h⟩:=z8 h
       obtain ⟨zig,zyF,h⟩:=z8 h
       obtain ⟨z6m,zyG,h⟩:=z8 h
       obtain ⟨zbW,zrr,h⟩:=z8 h
       refine WC.a ?_
       refine WL.a (d:=33) rfl rfl rfl (q_m rfl) ?_
       refine WL.a (d:=34) rfl rfl rfl (q_loadA (cs:=[(.int .i64 ((nth zw.1 z1q).fN)),(.int .i64 ((nth zw.1 z1q).fD))]) aggT_40 rfl rfl (rd_all .here)) ?_
       refine WL.b (dd:=35) rfl rfl rfl (zi (l:=[.tmp 34]) Tryz.call79 (.cons rfl .nil)) (.nil : Sel [stb z6I 40 [(.int .i64 ((nth zw.1 z1q).fN)),(.int .i64 ((nth zw.1 z1q).fD))],fz (z3b ++ z5x),row (.slice (some ⟨z5V,0,none⟩) zw.1.length z4y) 40 2 (zw.1.flatMap e40),z1s z6p z4L] [] [stb z6I 40 [(.int .i64 ((nth zw.1 z1q).fN)),(.int .i64 ((nth zw.1 z1q).fD))],fz (z3b ++ z5x),row (.slice (some ⟨z5V,0,none⟩) zw.1.length z4y) 40 2 (zw.1.flatMap e40),z1s z6p z4L]) (fun w hw=>by have pz:=(hz.call2 hw (.nil : Sel [stb z6I 40 [(.int .i64 ((nth zw.1 z1q).fN)),(.int .i64 ((nth zw.1 z1q).fD))],fz (z3b ++ z5x),row (.slice (some ⟨z5V,0,none⟩) zw.1.length z4y) 40 2 (zw.1.flatMap e40),z1s z6p z4L] [] [stb z6I 40 [(.int .i64 ((nth zw.1 z1q).fN)),(.int .i64 ((nth zw.1 z1q).fD))],fz (z3b ++ z5x),row (.slice (some ⟨z5V,0,none⟩) zw.1.length z4y) 40 2 (zw.1.flatMap e40),z1s z6p z4L]) .h1); exact w_rat_Floor (Z:=_)  (z2S:=(⟨((nth zw.1 z1q).fN),((nth zw.1 z1q).fD)⟩ : z2)) (r:=zif) w pz  zyE) ?_
       refine WL.b (dd:=36) rfl rfl rfl (zi (l:=[.tmp 35]) Tryz.call68 (.cons rfl .nil)) (.nil : Sel [stb z6I 40 [(.int .i64 ((nth zw.1 z1q).fN)),(.int .i64 ((nth zw.1 z1q).fD))],fz (z3b ++ z5x),row (.slice (some ⟨z5V,0,none⟩) zw.1.length z4y) 40 2 (zw.1.flatMap e40),z1s z6p z4L] [] [stb z6I 40 [(.int .i64 ((nth zw.1 z1q).fN)),(.int .i64 ((nth zw.1 z1q).fD))],fz (z3b ++ z5x),row (.slice (some ⟨z5V,0,none⟩) zw.1.length z4y) 40 2 (zw.1.flatMap e40),z1s z6p z4L]) (fun w hw=>by have pz:=(hz.call2 hw (.nil : Sel [stb z6I 40 [(.int .i64 ((nth zw.1 z1q).fN)),(.int .i64 ((nth zw.1 z1q).fD))],fz (z3b ++ z5x),row (.slice (some ⟨z5V,0,none⟩) zw.1.length z4y) 40 2 (zw.1.flatMap e40),z1s z6p z4L] [] [stb z6I 40 [(.int .i64 ((nth zw.1 z1q).fN)),(.int .i64 ((nth zw.1 z1q).fD))],fz (z3b ++ z5x),row (.slice (some ⟨z5V,0,none⟩) zw.1.length z4y) 40 2 (zw.1.flatMap e40),z1s z6p z4L]) .h1); exact w_calculus_whole (Z:=_)  (z64:=zif) (r:=zig) w pz  zyF) ?_
       refine WL.yield (dd:=37) (x:=zig) (h:=()) (g:=z6p) (s:=z4L) (b:=z6m.1) (s':=z6m.2) zgj rfl rfl rfl (.cons rfl .nil) ((.cons .h3 .nil) : Sel _ [z1s z6p z4L] _) zyG zrq (fun w hw=>hz.call hw ((.cons .h3 .nil) : Sel _ [z1s z6p z4L] _)) ?_
       intro z8B zrs
       refine WL.a (d:=38) rfl rfl rfl (q_not rfl) ?_
       refine WL.a (d:=39) rfl rfl rfl (q_m rfl) ?_
       refine WL.cut1 (fun (zdl : z2t)=>z81 zdl zbW.2) (fun (zdl : z2t)=>[(0,(.func (.yield z80) #[] #[])),(1,(.pointer (some z9c))),(16,(.slice zbY z4x.length zbZ)),(17,(.int .i64 ((z4x.length : Nat) : Int))),(18,(.int .i64 z5D)),(27,(.slice (some ⟨z5V,0,none⟩) zw.1.length z4y)),(28,(.int .i64 ((zw.1.length : Nat) : Int))),(29,(.int .i64 z1q)),(46,(.bool zbW.1))]) (fun (zdl : z2t)=>[z1s zdl zbW.2,stb z6I 40 [(.int .i64 ((nth zw.1 z1q).fN)),(.int .i64 ((nth zw.1 z1q).fD))],fz (z3b ++ z5x),row (.slice (some ⟨z5V,0,none⟩) zw.1.length z4y) 40 2 (zw.1.flatMap e40)]) 7 ?_ (fun zdl zrt=>?_)
       ·rcases Bool.eq_false_or_eq_true (!z6m.1) with hb' | hb'
        ·have zru:=hb'; clear hb'
         have zmt:=ite_t zrr zru
         replace zmt:=Option.some.inj zmt
         refine WL.pin (i:=39) rfl zru ?_
         refine WL.e rfl rfl rfl ?_
         refine WL.e rfl rfl rfl ?_
         refine WL.e rfl rfl rfl ?_
         refine WL.e rfl rfl rfl ?_
         refine WL.e rfl rfl rfl ?_
         refine WL.e rfl rfl rfl ?_
         refine WL.a (d:=46) rfl rfl rfl (q_pickT rfl rfl) ?_
         subst zmt
         exact WL.cutEnd z8B zrs (.cons rfl (.cons rfl (.cons rfl (.cons rfl (.cons rfl (.cons rfl (.cons rfl (.cons rfl (.cons rfl .nil))))))))) (.cons .here (.cons .here (.cons .here (.cons .here .nil))))
        ·have zrv:=hb'; clear hb'
         have zaQ:=ite_f zrr zrv
         obtain ⟨zih,zyH,zaQ⟩:=z8 zaQ
         obtain ⟨zii,zyI,zaQ⟩:=z8 zaQ
         obtain ⟨zge,zyJ,zaQ⟩:=z8 zaQ
         replace zaQ:=Option.some.inj zaQ
         refine WL.pin (i:=39) rfl zrv ?_
         refine WL.a (d:=40) rfl rfl rfl (q_m rfl) ?_
         refine WL.a (d:=41) rfl rfl rfl (q_loadA (cs:=[(.int .i64 ((nth zw.1 z1q).fN)),(.int .i64 ((nth zw.1 z1q).fD))]) aggT_40 rfl rfl (rd_all .h1)) ?_
         refine WL.b (dd:=42) rfl rfl rfl (zi (l:=[.tmp 41]) Tryz.call80 (.cons rfl .nil)) (.nil : Sel [z1s z8B z6m.2,stb z6I 40 [(.int .i64 ((nth zw.1 z1q).fN)),(.int .i64 ((nth zw.1 z1q).fD))],fz (z3b ++ z5x),row (.slice (some ⟨z5V,0,none⟩) zw.1.length z4y) 40 2 (zw.1.flatMap e40)] [] [z1s z8B z6m.2,stb z6I 40 [(.int .i64 ((nth zw.1 z1q).fN)),(.int .i64 ((nth zw.1 z1q).fD))],fz (z3b ++ z5x),row (.slice (some ⟨z5V,0,none⟩) zw.1.length z4y) 40 2 (zw.1.flatMap e40)]) (fun w hw=>by have pz:=(hz.call2 hw (.nil : Sel [z1s z8B z6m.2,stb z6I 40 [(.int .i64 ((nth zw.1 z1q).fN)),(.int .i64 ((nth zw.1 z1q).fD))],fz (z3b ++ z5x),row (.slice (some ⟨z5V,0,none⟩) zw.1.length z4y) 40 2 (zw.1.flatMap e40)] [] [z1s z8B z6m.2,stb z6I 40 [(.int .i64 ((nth zw.1 z1q).fN)),(.int .i64 ((nth zw.1 z1q).fD))],fz (z3b ++ z5x),row (.slice (some ⟨z5V,0,none⟩) zw.1.length z4y) 40 2 (zw.1.flatMap e40)]) .h2); exact w_rat_Ceil (Z:=_)  (z2J:=(⟨((nth zw.1 z1q).fN),((nth zw.1 z1q).fD)⟩ : z2)) (r:=zih) w pz  zyH) ?_
         refine WL.b (dd:=43) rfl rfl rfl (zi (l:=[.tmp 42]) Tryz.call68 (.cons rfl .nil)) (.nil : Sel [z1s z8B z6m.2,stb z6I 40 [(.int .i64 ((nth zw.1 z1q).fN)),(.int .i64 ((nth zw.1 z1q).fD))],fz (z3b ++ z5x),row (.slice (some ⟨z5V,0,none⟩) zw.1.length z4y) 40 2 (zw.1.flatMap e40)] [] [z1s z8B z6m.2,stb z6I 40 [(.int .i64 ((nth zw.1 z1q).fN)),(.int .i64 ((nth zw.1 z1q).fD))],fz (z3b ++ z5x),row (.slice (some ⟨z5V,0,none⟩) zw.1.length z4y) 40 2 (zw.1.flatMap e40)]) (fun w hw=>by have pz:=(hz.call2 hw (.nil : Sel [z1s z8B z6m.2,stb z6I 40 [(.int .i64 ((nth zw.1 z1q).fN)),(.int .i64 ((nth zw.1 z1q).fD))],fz (z3b ++ z5x),row (.slice (some ⟨z5V,0,none⟩) zw.1.length z4y) 40 2 (zw.1.flatMap e40)] [] [z1s z8B z6m.2,stb z6I 40 [(.int .i64 ((nth zw.1 z1q).fN)),(.int .i64 ((nth zw.1 z1q).fD))],fz (z3b ++ z5x),row (.slice (some ⟨z5V,0,none⟩) zw.1.length z4y) 40 2 (zw.1.flatMap e40)]) .h2); exact w_calculus_whole (Z:=_)  (z64:=zih) (r:=zii) w pz  zyI) ?_
         refine WL.yield (dd:=44) (x:=zii) (h:=()) (g:=z8B) (s:=z6m.2) (b:=zge.1) (s':=zge.2) zgj rfl rfl rfl (.cons rfl .nil) ((.cons .here .nil) : Sel _ [z1s z8B z6m.2] _) zyJ zrs (fun w hw=>hz.call hw ((.cons .here .nil) : Sel _ [z1s z8B z6m.2] _)) ?_
         intro zyK zyL
         refine WL.a (d:=45) rfl rfl rfl (q_not rfl) ?_
         refine WL.a (d:=46) rfl rfl rfl (q_pickF rfl rfl) ?_
         subst zaQ
         exact WL.cutEnd zyK zyL (.cons rfl (.cons rfl (.cons rfl (.cons rfl (.cons rfl (.cons rfl (.cons rfl (.cons rfl (.cons rfl .nil))))))))) (.cons .here (.cons .here (.cons .here (.cons .here .nil))))
       ·skip
        refine WL.nil ?_
        refine WX.a ?_
        refine WC.cond rfl (fun zmu=>?_) (fun zmu=>?_)
        ·replace h:=ite_t h zmu
         refine WC.ret ?_
         refine WX.blockRet ?_
         refine WX.thenRet ?_
         refine WX.thenRet ?_
         refine WX.blockRet ?_
         refine WX.thenRet ?_
         refine WX.blockRet ?_
         refine WX.thenRet ?_
         refine WX.thenRet ?_
         refine WX.blockRet ?_
         refine WX.thenRet ?_
         obtain rfl:=Option.some.inj h
         refine WX.bpRet Tryz.results78 .nil (fun w hw=>?_)
         exact ⟨(z3b ++ z5x),zdl,ret0,zrt,hw.sub (.cons .h2 (.cons .here .nil))⟩
        ·replace h:=ite_f h zmu
         refine WC.skip ?_
         refine WX.blockNormal ?_
         refine WX.a ?_
         refine WC.a ?_
         refine WL.a (d:=47) rfl rfl rfl (q_add rfl rfl rfl) ?_
         refine WL.a (d:=29) rfl rfl rfl (q_m rfl) ?_
         refine WL.nil ?_
         exact WX.round (G:=Nat × Int × zt × Option Addr × Nat × z2t) ⟨zmi,(i64 (z1q + 1)),zbW.2,(some ⟨z5V,0,none⟩),z4y,zdl⟩ ⟨h,zrt⟩ (Nat.lt_succ_self _) (.cons rfl (.cons rfl (.cons rfl (.cons rfl (.cons rfl (.cons rfl (.cons rfl (.cons rfl .nil)))))))) (.cons .h2 (.cons .h2 (.cons .here .nil)))
      ·replace h:=ite_f h zms
       refine WC.exit ?_
       refine WX.thenExit ?_
       refine WX.thenExit ?_
       refine WX.blockHit ?_
       exact WX.mid (G:=zt × z2t) ⟨z4L,z6p⟩ ⟨h,zrq⟩ (.cons rfl (.cons rfl (.cons rfl (.cons rfl (.cons rfl .nil))))) (.cons .here (.cons .h1 .nil))
     ·rintro z9L zeG ⟨h,zyM⟩
      replace h:=(zyD z9L).symm.trans h
      refine WX.blockNormal ?_
      exact WX.mid (G:=zt × Zp × z2t) ⟨z9L,(z3b ++ z5x),zeG⟩ ⟨h,((Zle.left _ _).trans (Zle.assoc _ _ _)),zyM⟩ (.cons rfl (.cons rfl (.cons rfl (.cons rfl (.cons rfl .nil))))) (.cons .here (.cons .here .nil))
    ·rintro z9K zeE zeF ⟨h,zyN,zyO⟩
     replace h:=(zyu z9K).symm.trans h
     refine WC.a ?_
     refine WL.a (d:=48) rfl rfl rfl (q_add rfl rfl rfl) ?_
     refine WL.a (d:=18) rfl rfl rfl (q_m rfl) ?_
     refine WL.nil ?_
     exact WX.round (G:=Nat × Int × zt × Zp × z2t) ⟨zmj,(i64 (z5D + 1)),z9K,zeE,zeF⟩ ⟨h,(zio.trans zyN),zyO⟩ (Nat.lt_succ_self _) (.cons rfl (.cons rfl (.cons rfl (.cons rfl (.cons rfl .nil))))) (.cons .here (.cons .here .nil))
   ·replace h:=ite_f h zmr
    refine WC.exit ?_
    refine WX.thenExit ?_
    refine WX.thenExit ?_
    refine WX.blockHit ?_
    exact WX.mid (G:=zt × Zp × z2t) ⟨z6n,z3b,z8A⟩ ⟨h,zio,zrp⟩ (.cons rfl (.cons rfl .nil)) (.cons .here (.cons .here .nil))
  ·rintro z9M z4e zeC ⟨h,zrw,zyP⟩
   replace h:=(zyt z9M).symm.trans h
   refine WC.b ?_
   refine WC.a ?_
   refine WL.a (d:=49) rfl rfl rfl (q_fieldAddr fo_67_3 rfl rfl) ?_
   refine WL.a (d:=50) rfl rfl rfl (q_load1 oneT_65 rfl (rd_zAt (hz.pv2 .here) (zrl.mono ((Zle.left _ _).trans zrw)) rfl)) ?_
   refine WL.a (d:=51) rfl rfl rfl (q_len Tryz.underlying65 rfl) ?_
   refine WL.a (d:=52) rfl rfl rfl (q_m rfl) ?_
   refine WL.nil ?_
   refine WX.a ?_
   obtain ⟨zaO,zyQ,h⟩:=jp1_elim h
   refine WC.mid2 (fun (zaP : zt) (zeJ : z2t)=>(zaO zaP = some r) ∧ (z81 zeJ zaP)) (fun (zaP : zt) (zeJ : z2t)=>[]) (fun (zaP : zt) (zeJ : z2t)=>[fz z4e,z1s zeJ zaP]) ?_ ?_
   ·skip
    refine WC.block ?_
    refine WC.loop4 (fun (zeK : Nat) (z1r : Int) (z4M : zt) (z6q : z2t)=>(m_calculus_search_points_1b_L6 zt z1h z4d zaO zeK z1r z4M = some r) ∧ (z81 z6q z4M)) (fun (zeK : Nat) (z1r : Int) (z4M : zt) (z6q : z2t)=>[(0,(.func (.yield z80) #[] #[])),(50,(.slice zgh z1h.length zgi)),(51,(.int .i64 ((z1h.length : Nat) : Int))),(52,(.int .i64 z1r))]) (fun (zeK : Nat) (z1r : Int) (z4M : zt) (z6q : z2t)=>[fz z4e,z1s z6q z4M]) (fun (zeK : Nat) (z1r : Int) (z4M : zt) (z6q : z2t)=>zeK) ⟨FUEL,0,z9M,zeC⟩ ⟨h,zyP⟩ (.cons rfl (.cons rfl (.cons rfl (.cons rfl .nil)))) (.cons .here (.cons .here .nil)) ?_
    rintro zeK z1r z4M z6q ⟨h,zrx⟩
    obtain ⟨zml,rfl⟩:=m_calculus_search_points_1b_L6_fuel h
    rw [m_calculus_search_points_1b_L6] at h
    refine WC.b ?_
    refine WC.a ?_
    refine WL.a (d:=53) rfl rfl rfl (q_lss rfl rfl) ?_
    refine WL.nil ?_
    refine WX.a ?_
    refine WC.b ?_
    refine WC.cond rfl (fun zmv=>?_) (fun zmv=>?_)
    ·replace h:=ite_t h zmv
     refine WC.skip ?_
     refine WX.a ?_
     refine WC.b ?_
     refine WC.block ?_
     refine WC.b ?_
     obtain ⟨zyR,h⟩:=chk_elim h
     refine WC.a ?_
     refine WL.znth (dd:=54) rfl rfl (Z:=(Z ++ z4e)) (Pr:=(fun r x=>r = e40 x)) elT_65 rfl rfl (zyq.mono ((Zle.left _ _).trans zrw)) zyR ?_
     rintro zDE zDF zyS zDG rfl
     refine WL.a (d:=55) rfl rfl rfl (q_loadA (cs:=[(.int .i64 ((nth z1h z1r).fN)),(.int .i64 ((nth z1h z1r).fD))]) aggT_40 rfl rfl (rd_zs (hz.pv2 .here) zyS)) ?_
     refine WL.new (dd:=10) rfl rfl rfl (e_alloc (cs:=[(.int .i64 0),(.int .i64 0)]) zeroT_40 rfl) ?_
     intro z6J _
     refine WL.eff0 rfl rfl (e_store (vs:=[(.int .i64 ((nth z1h z1r).fN)),(.int .i64 ((nth z1h z1r).fD))]) (ds:=[(.int .i64 ((nth z1h z1r).fN)),(.int .i64 ((nth z1h z1r).fD))]) sizT_40 rfl rfl rfl rfl (oc_cons rfl (oc_cons rfl oc_nil)) .here (Nat.le_of_ble_eq_true rfl) rfl) ?_
     refine WL.nil ?_
     refine WX.a ?_
     refine WC.b ?_
     obtain ⟨zij,zyT,h⟩:=z8 h
     obtain ⟨zik,zyU,h⟩:=z8 h
     obtain ⟨z6o,zyV,h⟩:=z8 h
     obtain ⟨zbX,zry,h⟩:=z8 h
     refine WC.a ?_
     refine WL.a (d:=56) rfl rfl rfl (q_m rfl) ?_
     refine WL.a (d:=57) rfl rfl rfl (q_loadA (cs:=[(.int .i64 ((nth z1h z1r).fN)),(.int .i64 ((nth z1h z1r).fD))]) aggT_40 rfl rfl (rd_all .here)) ?_
     refine WL.b (dd:=58) rfl rfl rfl (zi (l:=[.tmp 57]) Tryz.call79 (.cons rfl .nil)) (.nil : Sel [stb z6J 40 [(.int .i64 ((nth z1h z1r).fN)),(.int .i64 ((nth z1h z1r).fD))],fz z4e,z1s z6q z4M] [] [stb z6J 40 [(.int .i64 ((nth z1h z1r).fN)),(.int .i64 ((nth z1h z1r).fD))],fz z4e,z1s z6q z4M]) (fun w hw=>by have pz:=(hz.call2 hw (.nil : Sel [stb z6J 40 [(.int .i64 ((nth z1h z1r).fN)),(.int .i64 ((nth z1h z1r).fD))],fz z4e,z1s z6q z4M] [] [stb z6J 40 [(.int .i64 ((nth z1h z1r).fN)),(.int .i64 ((nth z1h z1r).fD))],fz z4e,z1s z6q z4M]) .h1); exact w_rat_Floor (Z:=_)  (z2S:=(⟨((nth z1h z1r).fN),((nth z1h z1r).fD)⟩ : z2)) (r:=zij) w pz  zyT) ?_
     refine WL.b (dd:=59) rfl rfl rfl (zi (l:=[.tmp 58]) Tryz.call68 (.cons rfl .nil)) (.nil : Sel [stb z6J 40 [(.int .i64 ((nth z1h z1r).fN)),(.int .i64 ((nth z1h z1r).fD))],fz z4e,z1s z6q z4M] [] [stb z6J 40 [(.int .i64 ((nth z1h z1r).fN)),(.int .i64 ((nth z1h z1r).fD))],fz z4e,z1s z6q z4M]) (fun w hw=>by have pz:=(hz.call2 hw (.nil : Sel [stb z6J 40 [(.int .i64 ((nth z1h z1r).fN)),(.int .i64 ((nth z1h z1r).fD))],fz z4e,z1s z6q z4M] [] [stb z6J 40 [(.int .i64 ((nth z1h z1r).fN)),(.int .i64 ((nth z1h z1r).fD))],fz z4e,z1s z6q z4M]) .h1); exact w_calculus_whole (Z:=_)  (z64:=zij) (r:=zik) w pz  zyU) ?_
     refine WL.yield (dd:=60) (x:=zik) (h:=()) (g:=z6q) (s:=z4M) (b:=z6o.1) (s':=z6o.2) zgj rfl rfl rfl (.cons rfl .nil) ((.cons .h2 .nil) : Sel _ [z1s z6q z4M] _) zyV zrx (fun w hw=>hz.call hw ((.cons .h2 .nil) : Sel _ [z1s z6q z4M] _)) ?_
     intro z8C zrz
     refine WL.a (d:=61) rfl rfl rfl (q_not rfl) ?_
     refine WL.a (d:=62) rfl rfl rfl (q_m rfl) ?_
     refine WL.cut1 (fun (zdm : z2t)=>z81 zdm zbX.2) (fun (zdm : z2t)=>[(0,(.func (.yield z80) #[] #[])),(50,(.slice zgh z1h.length zgi)),(51,(.int .i64 ((z1h.length : Nat) : Int))),(52,(.int .i64 z1r)),(69,(.bool zbX.1))]) (fun (zdm : z2t)=>[z1s zdm zbX.2,stb z6J 40 [(.int .i64 ((nth z1h z1r).fN)),(.int .i64 ((nth z1h z1r).fD))],fz z4e]) 7 ?_ (fun zdm zrA=>?_)
     ·rcases Bool.eq_false_or_eq_true (!z6o.1) with hb' | hb'
      ·have zrB:=hb'; clear hb'
       have zmw:=ite_t zry zrB
       replace zmw:=Option.some.inj zmw
       refine WL.pin (i:=62) rfl zrB ?_
       refine WL.e rfl rfl rfl ?_
       refine WL.e rfl rfl rfl ?_
       refine WL.e rfl rfl rfl ?_
       refine WL.e rfl rfl rfl ?_
       refine WL.e rfl rfl rfl ?_
       refine WL.e rfl rfl rfl ?_
       refine WL.a (d:=69) rfl rfl rfl (q_pickT rfl rfl) ?_
       subst zmw
       exact WL.cutEnd z8C zrz (.cons rfl (.cons rfl (.cons rfl (.cons rfl (.cons rfl .nil))))) (.cons .here (.cons .here (.cons .here .nil)))
      ·have zrC:=hb'; clear hb'
       have zaR:=ite_f zry zrC
       obtain ⟨zil,zyW,zaR⟩:=z8 zaR
       obtain ⟨zim,zyX,zaR⟩:=z8 zaR
       obtain ⟨zgf,zyY,zaR⟩:=z8 zaR
       replace zaR:=Option.some.inj zaR
       refine WL.pin (i:=62) rfl zrC ?_
       refine WL.a (d:=63) rfl rfl rfl (q_m rfl) ?_
       refine WL.a (d:=64) rfl rfl rfl (q_loadA (cs:=[(.int .i64 ((nth z1h z1r).fN)),(.int .i64 ((nth z1h z1r).fD))]) aggT_40 rfl rfl (rd_all .h1)) ?_
       refine WL.b (dd:=65) rfl rfl rfl (zi (l:=[.tmp 64]) Tryz.call80 (.cons rfl .nil)) (.nil : Sel [z1s z8C z6o.2,stb z6J 40 [(.int .i64 ((nth z1h z1r).fN)),(.int .i64 ((nth z1h z1r).fD))],fz z4e] [] [z1s z8C z6o.2,stb z6J 40 [(.int .i64 ((nth z1h z1r).fN)),(.int .i64 ((nth z1h z1r).fD))],fz z4e]) (fun w hw=>by have pz:=(hz.call2 hw (.nil : Sel [z1s z8C z6o.2,stb z6J 40 [(.int .i64 ((nth z1h z1r).fN)),(.int .i64 ((nth z1h z1r).fD))],fz z4e] [] [z1s z8C z6o.2,stb z6J 40 [(.int .i64 ((nth z1h z1r).fN)),(.int .i64 ((nth z1h z1r).fD))],fz z4e]) .h2); exact w_rat_Ceil (Z:=_)  (z2J:=(⟨((nth z1h z1r).fN),((nth z1h z1r).fD)⟩ : z2)) (r:=zil) w pz  zyW) ?_
       refine WL.b (dd:=66) rfl rfl rfl (zi (l:=[.tmp 65]) Tryz.call68 (.cons rfl .nil)) (.nil : Sel [z1s z8C z6o.2,stb z6J 40 [(.int .i64 ((nth z1h z1r).fN)),(.int .i64 ((nth z1h z1r).fD))],fz z4e] [] [z1s z8C z6o.2,stb z6J 40 [(.int .i64 ((nth z1h z1r).fN)),(.int .i64 ((nth z1h z1r).fD))],fz z4e]) (fun w hw=>by have pz:=(hz.call2 hw (.nil : Sel [z1s z8C z6o.2,stb z6J 40 [(.int .i64 ((nth z1h z1r).fN)),(.int .i64 ((nth z1h z1r).fD))],fz z4e] [] [z1s z8C z6o.2,stb z6J 40 [(.int .i64 ((nth z1h z1r).fN)),(.int .i64 ((nth z1h z1r).fD))],fz z4e]) .h2); exact w_calculus_whole (Z:=_)  (z64:=zil) (r:=zim) w pz  zyX) ?_
       refine WL.yield (dd:=67) (x:=zim) (h:=()) (g:=z8C) (s:=z6o.2) (b:=zgf.1) (s':=zgf.2) zgj rfl rfl rfl (.cons rfl .nil) ((.cons .here .nil) : Sel _ [z1s z8C z6o.2] _) zyY zrz (fun w hw=>hz.call hw ((.cons .here .nil) : Sel _ [z1s z8C z6o.2] _)) ?_
       intro zyZ zz0
       refine WL.a (d:=68) rfl rfl rfl (q_not rfl) ?_
       refine WL.a (d:=69) rfl rfl rfl (q_pickF rfl rfl) ?_
       subst zaR
       exact WL.cutEnd zyZ zz0 (.cons rfl (.cons rfl (.cons rfl (.cons rfl (.cons rfl .nil))))) (.cons .here (.cons .here (.cons .here .nil)))
     ·skip
      refine WL.nil ?_
      refine WX.a ?_
      refine WC.cond rfl (fun zmx=>?_) (fun zmx=>?_)
      ·replace h:=ite_t h zmx
       refine WC.ret ?_
       refine WX.blockRet ?_
       refine WX.thenRet ?_
       refine WX.thenRet ?_
       refine WX.blockRet ?_
       refine WX.thenRet ?_
       obtain rfl:=Option.some.inj h
       refine WX.bpRet Tryz.results78 .nil (fun w hw=>?_)
       exact ⟨z4e,zdm,ret0,zrA,hw.sub (.cons .h2 (.cons .here .nil))⟩
      ·replace h:=ite_f h zmx
       refine WC.skip ?_
       refine WX.blockNormal ?_
       refine WX.a ?_
       refine WC.a ?_
       refine WL.a (d:=70) rfl rfl rfl (q_add rfl rfl rfl) ?_
       refine WL.a (d:=52) rfl rfl rfl (q_m rfl) ?_
       refine WL.nil ?_
       exact WX.round (G:=Nat × Int × zt × z2t) ⟨zml,(i64 (z1r + 1)),zbX.2,zdm⟩ ⟨h,zrA⟩ (Nat.lt_succ_self _) (.cons rfl (.cons rfl (.cons rfl (.cons rfl .nil)))) (.cons .h2 (.cons .here .nil))
    ·replace h:=ite_f h zmv
     refine WC.exit ?_
     refine WX.thenExit ?_
     refine WX.thenExit ?_
     refine WX.blockHit ?_
     exact WX.mid (G:=zt × z2t) ⟨z4M,z6q⟩ ⟨h,zrx⟩ .nil (.cons .here (.cons .here .nil))
   ·rintro zaP zeJ ⟨h,zz1⟩
    replace h:=(zyQ zaP).symm.trans h
    obtain rfl:=Option.some.inj h
    refine WX.bpNormal Tryz.results78 .nil (fun w hw=>?_)
    exact ⟨z4e,zeJ,ret0,zz1,hw.sub (.cons .here (.cons .here .nil))⟩
def m_calculus_Backlog_1 (z78 : z2c) (zV : z2) (zdn : List (List z1)) (z5W : S41) : Option (z2 × z2c) :=
 (m_calculus_calc_total z78 zdn zV).bind fun z15=>(m_rat_Cmp zV z5W.fLatency).bind fun zmy=>if decide (zmy ≤ 0) then some (z15.1,z15.2) else (m_calculus_calc_do z15.2 (fun (y0 : z2) (y1 : z2)=>m_rat_Sub y0 y1) zV z5W.fLatency).bind fun z8D=>(m_calculus_calc_do z8D.2 (fun (y0 : z2) (y1 : z2)=>m_rat_Mul y0 y1) z5W.fRate z8D.1).bind fun z8E=>(m_calculus_calc_do z8E.2 (fun (y0 : z2) (y1 : z2)=>m_rat_Sub y0 y1) z15.1 z8E.1).bind fun zc0=>some (zc0.1,zc0.2)
set_option maxRecDepth 20000 in
theorem w_calculus_Backlog_1 (Z : Zp)  (z2v : Nat) (zgl : Addr) (ziq : Option Addr) (zir : Nat) (zgm : Addr) (z78 : z2c) (zV : z2) (zdn : List (List z1)) (z5W : S41) (r : z2 × z2c) (w₀ : World) (hz : PZ (fps [stb z2v 87 [(.int .i64 z78.fE)]]) w₀ Z)
  (zz2 : ZS Z 1 (p23 Z) ziq zir zdn)
  (zz3 : ZC Z zgl [(.slice ziq zdn.length zir)])
  (zmz : ZC Z zgm [(.int .i64 z5W.fRate.fN),(.int .i64 z5W.fRate.fD),(.int .i64 z5W.fLatency.fN),(.int .i64 z5W.fLatency.fD)])
  (h : m_calculus_Backlog_1 z78 zV zdn z5W = some r)
  (hown : Hp (fps [stb z2v 87 [(.int .i64 z78.fE)]]) w₀ w₀ [stb z2v 87 [(.int .i64 z78.fE)]]) :
  Calls Tryz.prog 38 #[(.pointer (some ⟨z2v,0,none⟩)),(.agg #[(.int .i64 zV.fN),(.int .i64 zV.fD)]),(.pointer (some zgl)),(.pointer (some zgm))] w₀ fun e w'=>e = .returned (.agg #[(.int .i64 r.1.fN),(.int .i64 r.1.fD)]) ∧ Hp (fps [stb z2v 87 [(.int .i64 z78.fE)]]) w₀ w' [stb z2v 87 [(.int .i64 r.2.fE)]]:=by
 unfold m_calculus_Backlog_1 at h
 refine Calls.ofWC (vs:=[(.pointer (some ⟨z2v,0,none⟩)),(.agg #[(.int .i64 zV.fN),(.int .i64 zV.fD)]),(.pointer (some zgl)),(.pointer (some zgm))]) (pre:=[stb z2v 87 [(.int .i64 z78.fE)]]) (env:=[(0,(.pointer (some ⟨z2v,0,none⟩))),(1,(.agg #[(.int .i64 zV.fN),(.int .i64 zV.fD)])),(2,(.pointer (some zgl))),(3,(.pointer (some zgm)))]) Tryz.func38 rfl Tryz.ntmps38 rfl (hown) rfl ?_
 refine WC.b ?_
 refine WC.a ?_
 refine WL.new (dd:=5) rfl rfl rfl (e_box (cs:=[(.int .i64 zV.fN),(.int .i64 zV.fD)]) rfl rfl) ?_
 intro z3Y _
 refine WL.new (dd:=6) rfl rfl rfl (e_alloc (cs:=[(.int .i64 0),(.int .i64 0)]) zeroT_40 rfl) ?_
 intro z3Z _
 refine WL.nil ?_
 refine WX.a ?_
 refine WC.b ?_
 obtain ⟨z15,zz4,h⟩:=z8 h
 refine WC.a ?_
 refine WL.a (d:=8) rfl rfl rfl (q_m rfl) ?_
 refine WL.a (d:=9) rfl rfl rfl (q_load1 oneT_38 rfl (rd_z hz.pv zz3 rfl)) ?_
 refine WL.a (d:=10) rfl rfl rfl (q_loadA (cs:=[(.int .i64 zV.fN),(.int .i64 zV.fD)]) aggT_40 rfl rfl (rd_all .h1)) ?_
 refine WL.b (dd:=11) rfl rfl rfl (zi (l:=[.tmp 8,.tmp 9,.tmp 10]) Tryz.call34 (.cons rfl (.cons rfl (.cons rfl .nil)))) ((.cons .h2 .nil) : Sel [stb z3Z 40 [(.int .i64 0),(.int .i64 0)],stb z3Y 40 [(.int .i64 zV.fN),(.int .i64 zV.fD)],stb z2v 87 [(.int .i64 z78.fE)]] [stb z2v 87 [(.int .i64 z78.fE)]] [stb z3Z 40 [(.int .i64 0),(.int .i64 0)],stb z3Y 40 [(.int .i64 zV.fN),(.int .i64 zV.fD)]]) (fun w hw=>by have pz:=(hz.call hw ((.cons .h2 .nil) : Sel [stb z3Z 40 [(.int .i64 0),(.int .i64 0)],stb z3Y 40 [(.int .i64 zV.fN),(.int .i64 zV.fD)],stb z2v 87 [(.int .i64 z78.fE)]] [stb z2v 87 [(.int .i64 z78.fE)]] [stb z3Z 40 [(.int .i64 0),(.int .i64 0)],stb z3Y 40 [(.int .i64 zV.fN),(.int .i64 zV.fD)]])); exact w_calculus_calc_total (Z:=_) (z3q:=z2v) (zbP:=ziq) (zbQ:=zir) (z7h:=z78) (z5j:=zdn) (z1Z:=zV) (r:=z15) w pz zz2 zz4 (hw.owns ((.cons .h2 .nil) : Sel [stb z3Z 40 [(.int .i64 0),(.int .i64 0)],stb z3Y 40 [(.int .i64 zV.fN),(.int .i64 zV.fD)],stb z2v 87 [(.int .i64 z78.fE)]] [stb z2v 87 [(.int .i64 z78.fE)]] [stb z3Z 40 [(.int .i64 0),(.int .i64 0)],stb z3Y 40 [(.int .i64 zV.fN),(.int .i64 zV.fD)]]))) ?_
 refine WL.new (dd:=7) rfl rfl rfl (e_alloc (cs:=[(.int .i64 0),(.int .i64 0)]) zeroT_40 rfl) ?_
 intro z52 _
 refine WL.eff0 rfl rfl (e_store (vs:=[(.int .i64 z15.1.fN),(.int .i64 z15.1.fD)]) (ds:=[(.int .i64 z15.1.fN),(.int .i64 z15.1.fD)]) sizT_40 rfl rfl rfl rfl (oc_cons rfl (oc_cons rfl oc_nil)) .here (Nat.le_of_ble_eq_true rfl) rfl) ?_
 refine WL.nil ?_
 refine WX.a ?_
 refine WC.b ?_
 refine WC.b ?_
 obtain ⟨zmy,zz5,h⟩:=z8 h
 refine WC.a ?_
 refine WL.a (d:=12) rfl rfl rfl (q_loadA (cs:=[(.int .i64 zV.fN),(.int .i64 zV.fD)]) aggT_40 rfl rfl (rd_all .h3)) ?_
 refine WL.a (d:=13) rfl rfl rfl (q_fieldAddr fo_42_1 rfl rfl) ?_
 refine WL.a (d:=14) rfl rfl rfl (q_loadA (cs:=[(.int .i64 z5W.fLatency.fN),(.int .i64 z5W.fLatency.fD)]) aggT_40 rfl rfl (rd_zsub (off:=2) (s:=2) hz.pv zmz rfl)) ?_
 refine WL.b (dd:=15) rfl rfl rfl (zi (l:=[.tmp 12,.tmp 14]) Tryz.call24 (.cons rfl (.cons rfl .nil))) (.nil : Sel [stb z52 40 [(.int .i64 z15.1.fN),(.int .i64 z15.1.fD)],stb z2v 87 [(.int .i64 z15.2.fE)],stb z3Z 40 [(.int .i64 0),(.int .i64 0)],stb z3Y 40 [(.int .i64 zV.fN),(.int .i64 zV.fD)]] [] [stb z52 40 [(.int .i64 z15.1.fN),(.int .i64 z15.1.fD)],stb z2v 87 [(.int .i64 z15.2.fE)],stb z3Z 40 [(.int .i64 0),(.int .i64 0)],stb z3Y 40 [(.int .i64 zV.fN),(.int .i64 zV.fD)]]) (fun w hw=>by have pz:=(hz.call hw (.nil : Sel [stb z52 40 [(.int .i64 z15.1.fN),(.int .i64 z15.1.fD)],stb z2v 87 [(.int .i64 z15.2.fE)],stb z3Z 40 [(.int .i64 0),(.int .i64 0)],stb z3Y 40 [(.int .i64 zV.fN),(.int .i64 zV.fD)]] [] [stb z52 40 [(.int .i64 z15.1.fN),(.int .i64 z15.1.fD)],stb z2v 87 [(.int .i64 z15.2.fE)],stb z3Z 40 [(.int .i64 0),(.int .i64 0)],stb z3Y 40 [(.int .i64 zV.fN),(.int .i64 zV.fD)]])); exact w_rat_Cmp (Z:=_)  (z28:=zV) (z29:=z5W.fLatency) (r:=zmy) w pz  zz5) ?_
 refine WL.a (d:=16) rfl rfl rfl (q_leq rfl rfl) ?_
 refine WL.nil ?_
 refine WX.a ?_
 refine WC.cond rfl (fun zmA=>?_) (fun zmA=>?_)
 ·replace h:=ite_t h zmA
  refine WC.b ?_
  refine WC.a ?_
  refine WL.a (d:=17) rfl rfl rfl (q_loadA (cs:=[(.int .i64 z15.1.fN),(.int .i64 z15.1.fD)]) aggT_40 rfl rfl (rd_all .here)) ?_
  refine WL.eff0 rfl rfl (e_store (vs:=[(.int .i64 z15.1.fN),(.int .i64 z15.1.fD)]) (ds:=[(.int .i64 z15.1.fN),(.int .i64 z15.1.fD)]) sizT_40 rfl rfl rfl rfl (oc_cons rfl (oc_cons rfl oc_nil)) .h2 (Nat.le_of_ble_eq_true rfl) rfl) ?_
  refine WL.nil ?_
  refine WX.a ?_
  refine WC.ret ?_
  refine WX.thenRet ?_
  obtain rfl:=Option.some.inj h
  refine WX.bpRet Tryz.results38 (.agg rfl aggT_40 rfl (rd_all .here) .nil) (fun w hw=>?_)
  exact ⟨ret1 rfl,hw.sub (.cons .h2 .nil)⟩
 ·replace h:=ite_f h zmA
  refine WC.skip ?_
  refine WX.a ?_
  refine WC.b ?_
  obtain ⟨z8D,zz6,h⟩:=z8 h
  obtain ⟨z8E,zz7,h⟩:=z8 h
  obtain ⟨zc0,zz8,h⟩:=z8 h
  refine WC.draw (fun i=>[9,10,11,12].contains i) [stb z52 40 [(.int .i64 z15.1.fN),(.int .i64 z15.1.fD)]] rfl ?_
  refine WD.a (i:=0) (d:=18) (by kernel_rfl) rfl (z6 (by kernel_rfl)) (z7 (by kernel_rfl)) rfl rfl rfl (fun _=>q_m rfl) ?_
  refine WD.stable (i:=1) (d:=19) (by kernel_rfl) rfl (z6 (by kernel_rfl)) (z7 (by kernel_rfl)) rfl rfl rfl (Sin.of (.cons .here .nil)) (q_loadA (cs:=[(.int .i64 z15.1.fN),(.int .i64 z15.1.fD)]) aggT_40 rfl rfl (rd_all .here)) ?_
  refine WD.a (i:=2) (d:=20) (by kernel_rfl) rfl (z6 (by kernel_rfl)) (z7 (by kernel_rfl)) rfl rfl rfl (fun _=>q_m rfl) ?_
  refine WD.a (i:=3) (d:=21) (by kernel_rfl) rfl (z6 (by kernel_rfl)) (z7 (by kernel_rfl)) rfl rfl rfl (fun _=>q_fieldAddr fo_42_0 rfl rfl) ?_
  refine WD.stable (i:=4) (d:=22) (by kernel_rfl) rfl (z6 (by kernel_rfl)) (z7 (by kernel_rfl)) rfl rfl rfl (Sin.of (.cons .here .nil)) (q_loadA (cs:=[(.int .i64 z5W.fRate.fN),(.int .i64 z5W.fRate.fD)]) aggT_40 rfl rfl (rd_zsub (off:=0) (s:=2) hz.pv zmz rfl)) ?_
  refine WD.a (i:=5) (d:=23) (by kernel_rfl) rfl (z6 (by kernel_rfl)) (z7 (by kernel_rfl)) rfl rfl rfl (fun _=>q_m rfl) ?_
  refine WD.e (i:=6) (d:=24) (by kernel_rfl) rfl (z6 (by kernel_rfl)) (z7 (by kernel_rfl)) rfl rfl rfl (q_loadA (cs:=[(.int .i64 zV.fN),(.int .i64 zV.fD)]) aggT_40 rfl rfl (rd_all .h3)) ?_
  refine WD.a (i:=7) (d:=25) (by kernel_rfl) rfl (z6 (by kernel_rfl)) (z7 (by kernel_rfl)) rfl rfl rfl (fun _=>q_fieldAddr fo_42_1 rfl rfl) ?_
  refine WD.e (i:=8) (d:=26) (by kernel_rfl) rfl (z6 (by kernel_rfl)) (z7 (by kernel_rfl)) rfl rfl rfl (q_loadA (cs:=[(.int .i64 z5W.fLatency.fN),(.int .i64 z5W.fLatency.fD)]) aggT_40 rfl rfl (rd_zsub (off:=2) (s:=2) hz.pv zmz rfl)) ?_
  refine WD.call0 (i:=9) (dd:=27) rfl (by kernel_rfl) rfl rfl rfl (.inl ⟨rfl,(Sin.of (.cons .h1 .nil))⟩) (zi (l:=[.tmp 23,.func 32,.tmp 24,.tmp 26]) Tryz.call30 (.cons rfl (.cons rfl (.cons rfl (.cons rfl .nil))))) ((.cons .h1 .nil) : Sel [stb z52 40 [(.int .i64 z15.1.fN),(.int .i64 z15.1.fD)],stb z2v 87 [(.int .i64 z15.2.fE)],stb z3Z 40 [(.int .i64 0),(.int .i64 0)],stb z3Y 40 [(.int .i64 zV.fN),(.int .i64 zV.fD)]] [stb z2v 87 [(.int .i64 z15.2.fE)]] [stb z52 40 [(.int .i64 z15.1.fN),(.int .i64 z15.1.fD)],stb z3Z 40 [(.int .i64 0),(.int .i64 0)],stb z3Y 40 [(.int .i64 zV.fN),(.int .i64 zV.fD)]]) (fun w hw=>by have pz:=(hz.call hw ((.cons .h1 .nil) : Sel [stb z52 40 [(.int .i64 z15.1.fN),(.int .i64 z15.1.fD)],stb z2v 87 [(.int .i64 z15.2.fE)],stb z3Z 40 [(.int .i64 0),(.int .i64 0)],stb z3Y 40 [(.int .i64 zV.fN),(.int .i64 zV.fD)]] [stb z2v 87 [(.int .i64 z15.2.fE)]] [stb z52 40 [(.int .i64 z15.1.fN),(.int .i64 z15.1.fD)],stb z3Z 40 [(.int .i64 0),(.int .i64 0)],stb z3Y 40 [(.int .i64 zV.fN),(.int .i64 zV.fD)]])); exact Calls.mono (w_calculus_calc_do (Z:=_) (z4j:=z2v) (z6Z:=32) (z7D:=[]) (z5h:=z15.2) (z7T:=(fun (y0 : z2) (y1 : z2)=>m_rat_Sub y0 y1)) (z2P:=zV) (z2Q:=z5W.fLatency) (r:=z8D) w pz Tryz.call32 (fun w' hz' y0 y1  r  hr=>w_rat_Sub (Z:=_)  (z42:=y0) (z43:=y1) (r:=r) w' hz'  hr) zz6 (hw.owns ((.cons .h1 .nil) : Sel [stb z52 40 [(.int .i64 z15.1.fN),(.int .i64 z15.1.fD)],stb z2v 87 [(.int .i64 z15.2.fE)],stb z3Z 40 [(.int .i64 0),(.int .i64 0)],stb z3Y 40 [(.int .i64 zV.fN),(.int .i64 zV.fD)]] [stb z2v 87 [(.int .i64 z15.2.fE)]] [stb z52 40 [(.int .i64 z15.1.fN),(.int .i64 z15.1.fD)],stb z3Z 40 [(.int .i64 0),(.int .i64 0)],stb z3Y 40 [(.int .i64 zV.fN),(.int .i64 zV.fD)]]))) (fun _ _ h'=>⟨h'.1,trivial,h'.2⟩)) ?_
  intro _
  refine WD.call0 (i:=10) (dd:=28) rfl (by kernel_rfl) rfl rfl rfl (.inl ⟨rfl,(Sin.of (.cons .h1 .nil))⟩) (zi (l:=[.tmp 20,.func 39,.tmp 22,.tmp 27]) Tryz.call30 (.cons rfl (.cons rfl (.cons rfl (.cons rfl .nil))))) ((.cons .here .nil) : Sel [stb z2v 87 [(.int .i64 z8D.2.fE)],stb z52 40 [(.int .i64 z15.1.fN),(.int .i64 z15.1.fD)],stb z3Z 40 [(.int .i64 0),(.int .i64 0)],stb z3Y 40 [(.int .i64 zV.fN),(.int .i64 zV.fD)]] [stb z2v 87 [(.int .i64 z8D.2.fE)]] [stb z52 40 [(.int .i64 z15.1.fN),(.int .i64 z15.1.fD)],stb z3Z 40 [(.int .i64 0),(.int .i64 0)],stb z3Y 40 [(.int .i64 zV.fN),(.int .i64 zV.fD)]]) (fun w hw=>by have pz:=(hz.call hw ((.cons .here .nil) : Sel [stb z2v 87 [(.int .i64 z8D.2.fE)],stb z52 40 [(.int .i64 z15.1.fN),(.int .i64 z15.1.fD)],stb z3Z 40 [(.int .i64 0),(.int .i64 0)],stb z3Y 40 [(.int .i64 zV.fN),(.int .i64 zV.fD)]] [stb z2v 87 [(.int .i64 z8D.2.fE)]] [stb z52 40 [(.int .i64 z15.1.fN),(.int .i64 z15.1.fD)],stb z3Z 40 [(.int .i64 0),(.int .i64 0)],stb z3Y 40 [(.int .i64 zV.fN),(.int .i64 zV.fD)]])); exact Calls.mono (w_calculus_calc_do (Z:=_) (z4j:=z2v) (z6Z:=39) (z7D:=[]) (z5h:=z8D.2) (z7T:=(fun (y0 : z2) (y1 : z2)=>m_rat_Mul y0 y1)) (z2P:=z5W.fRate) (z2Q:=z8D.1) (r:=z8E) w pz Tryz.call39 (fun w' hz' y0 y1  r  hr=>w_rat_Mul (Z:=_)  (z4G:=y0) (z4H:=y1) (r:=r) w' hz'  hr) zz7 (hw.owns ((.cons .here .nil) : Sel [stb z2v 87 [(.int .i64 z8D.2.fE)],stb z52 40 [(.int .i64 z15.1.fN),(.int .i64 z15.1.fD)],stb z3Z 40 [(.int .i64 0),(.int .i64 0)],stb z3Y 40 [(.int .i64 zV.fN),(.int .i64 zV.fD)]] [stb z2v 87 [(.int .i64 z8D.2.fE)]] [stb z52 40 [(.int .i64 z15.1.fN),(.int .i64 z15.1.fD)],stb z3Z 40 [(.int .i64 0),(.int .i64 0)],stb z3Y 40 [(.int .i64 zV.fN),(.int .i64 zV.fD)]]))) (fun _ _ h'=>⟨h'.1,trivial,h'.2⟩)) ?_
  intro _
  refine WD.call0 (i:=11) (dd:=29) rfl (by kernel_rfl) rfl rfl rfl (.inl ⟨rfl,(Sin.of (.cons .h1 .nil))⟩) (zi (l:=[.tmp 18,.func 32,.tmp 19,.tmp 28]) Tryz.call30 (.cons rfl (.cons rfl (.cons rfl (.cons rfl .nil))))) ((.cons .here .nil) : Sel [stb z2v 87 [(.int .i64 z8E.2.fE)],stb z52 40 [(.int .i64 z15.1.fN),(.int .i64 z15.1.fD)],stb z3Z 40 [(.int .i64 0),(.int .i64 0)],stb z3Y 40 [(.int .i64 zV.fN),(.int .i64 zV.fD)]] [stb z2v 87 [(.int .i64 z8E.2.fE)]] [stb z52 40 [(.int .i64 z15.1.fN),(.int .i64 z15.1.fD)],stb z3Z 40 [(.int .i64 0),(.int .i64 0)],stb z3Y 40 [(.int .i64 zV.fN),(.int .i64 zV.fD)]]) (fun w hw=>by have pz:=(hz.call hw ((.cons .here .nil) : Sel [stb z2v 87 [(.int .i64 z8E.2.fE)],stb z52 40 [(.int .i64 z15.1.fN),(.int .i64 z15.1.fD)],stb z3Z 40 [(.int .i64 0),(.int .i64 0)],stb z3Y 40 [(.int .i64 zV.fN),(.int .i64 zV.fD)]] [stb z2v 87 [(.int .i64 z8E.2.fE)]] [stb z52 40 [(.int .i64 z15.1.fN),(.int .i64 z15.1.fD)],stb z3Z 40 [(.int .i64 0),(.int .i64 0)],stb z3Y 40 [(.int .i64 zV.fN),(.int .i64 zV.fD)]])); exact Calls.mono (w_calculus_calc_do (Z:=_) (z4j:=z2v) (z6Z:=32) (z7D:=[]) (z5h:=z8E.2) (z7T:=(fun (y0 : z2) (y1 : z2)=>m_rat_Sub y0 y1)) (z2P:=z15.1) (z2Q:=z8E.1) (r:=zc0) w pz Tryz.call32 (fun w' hz' y0 y1  r  hr=>w_rat_Sub (Z:=_)  (z42:=y0) (z43:=y1) (r:=r) w' hz'  hr) zz8 (hw.owns ((.cons .here .nil) : Sel [stb z2v 87 [(.int .i64 z8E.2.fE)],stb z52 40 [(.int .i64 z15.1.fN),(.int .i64 z15.1.fD)],stb z3Z 40 [(.int .i64 0),(.int .i64 0)],stb z3Y 40 [(.int .i64 zV.fN),(.int .i64 zV.fD)]] [stb z2v 87 [(.int .i64 z8E.2.fE)]] [stb z52 40 [(.int .i64 z15.1.fN),(.int .i64 z15.1.fD)],stb z3Z 40 [(.int .i64 0),(.int .i64 0)],stb z3Y 40 [(.int .i64 zV.fN),(.int .i64 zV.fD)]]))) (fun _ _ h'=>⟨h'.1,trivial,h'.2⟩)) ?_
  intro _
  refine WD.last0 (i:=12) rfl (by kernel_rfl) rfl rfl rfl (by kernel_rfl) (e_store (vs:=[(.int .i64 zc0.1.fN),(.int .i64 zc0.1.fD)]) (ds:=[(.int .i64 zc0.1.fN),(.int .i64 zc0.1.fD)]) sizT_40 rfl rfl rfl rfl (oc_cons rfl (oc_cons rfl oc_nil)) .h2 (Nat.le_of_ble_eq_true rfl) rfl) ?_
  refine WD.done (by kernel_rfl) ?_
  refine WX.a ?_
  refine WC.ret ?_
  obtain rfl:=Option.some.inj h
  refine WX.bpRet Tryz.results38 (.agg rfl aggT_40 rfl (rd_all .here) .nil) (fun w hw=>?_)
  exact ⟨ret1 rfl,hw.sub (.cons .h1 .nil)⟩
end Go.Proofs.YtakfmdiiehcbdaaGreat
