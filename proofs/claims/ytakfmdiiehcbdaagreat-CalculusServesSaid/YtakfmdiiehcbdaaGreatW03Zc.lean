/- A part of this claim's proof: models of functions, walks, plain laws. No conditions. -/
import Derived.Test.YtakfmdiiehcbdaaGreatW03Zb
namespace Go.Proofs.YtakfmdiiehcbdaaGreat
open Go Go.RowKit Sep
set_option linter.all false
set_option maxRecDepth 30000
set_option maxHeartbeats 4000000
def m_calculus_search_check_L2 (z1I : List (List z1)) (zas : Int → Int → Int → Option Int) : Nat → Int → Int → Int → Int → Option Int
 | 0,_,_,_,_=>none
 | zkT + 1,z65,z48,z3S,z3T=>if decide (z65 < ((z1I.length : Nat) : Int)) then chk ((0 : Int) ≤ z65 ∧ z65 < ((z1I.length : Nat) : Int)) ((m_curve_Breaks (nth z1I z65)).bind fun z4D=>if decide (z4D.2 ≠ 0) then some z4D.2 else (m_curve_Rate (nth z1I z65)).bind fun z5i=>(m_calculus_calc_do (⟨z48⟩ : z2c) (fun (y0 : z2) (y1 : z2)=>m_rat_Add y0 y1) (⟨z3S,z3T⟩ : z2) z5i.1).bind fun z8k=>m_calculus_search_check_L2 z1I zas zkT (i64 (z65 + 1)) z8k.2.fE z8k.1.fN z8k.1.fD) else zas z48 z3S z3T
theorem m_calculus_search_check_L2_fuel {n : Nat} {z1I : List (List z1)} {zas : Int → Int → Int → Option Int} {z65 : Int} {z48 : Int} {z3S : Int} {z3T : Int} {r : Int} (h : m_calculus_search_check_L2 z1I zas n z65 z48 z3S z3T = some r) : ∃ m,n = m + 1:=by
 cases n with
 | zero=>cases h
 | succ m=>exact ⟨m,rfl⟩
def m_calculus_search_check (z1I : List (List z1)) (zk : S41) (zfG : List (List z1)) (zcN : S41) (z2m : List z2) : Option Int :=
 (if decide (((z1I.length : Nat) : Int) > 32) then some true else (m_slices_ContainsFunc_api_Curve_api_Curve z1I (fun (y0 : List z1)=>m_calculus_search_check_1 y0)).bind fun zkU=>some zkU).bind fun zhI=>(if zhI then some true else (m_calculus_Valid zk).bind fun zkV=>some (!zkV)).bind fun zkW=>if zkW then some 2 else (m_calculus_zero).bind fun z9x=>jp3 (fun (z7d : Int) (z7e : Int) (z7f : Int)=>(if decide (z7d = 0) then (m_rat_Cmp (⟨z7e,z7f⟩ : z2) zk.fRate).bind fun zkX=>some (decide (zkX > 0)) else some false).bind fun zkY=>if zkY then some 6 else some z7d) fun zas=>m_calculus_search_check_L2 z1I zas FUEL 0 0 z9x.fN z9x.fD
set_option maxRecDepth 20000 in
theorem w_calculus_search_check (Z : Zp)  (z2n : Option Addr) (z2o : Nat) (z2B : Addr) (zkZ : Option Addr) (zl0 : Nat) (z2C : Addr) (z2D : Option Addr) (z2E : Nat) (z1I : List (List z1)) (zk : S41) (zfG : List (List z1)) (zcN : S41) (z2m : List z2) (r : Int) (w₀ : World) (hz : PZ [] w₀ Z)
  (zql : ZS Z 1 (p23 Z) z2n z2o z1I)
  (zCE : ZS Z 1 (p23 Z) zkZ zl0 zfG)
  (zCF : ZC Z z2B [(.slice zkZ zfG.length zl0)])
  (zCG : ZC Z z2C [(.int .i64 zcN.fRate.fN),(.int .i64 zcN.fRate.fD),(.int .i64 zcN.fLatency.fN),(.int .i64 zcN.fLatency.fD)])
  (zCH : ZS Z 2 (fun r x=>r = e40 x) z2D z2E z2m)
  (h : m_calculus_search_check z1I zk zfG zcN z2m = some r) :
  Calls Tryz.prog 54 #[(.agg #[(.slice z2n z1I.length z2o),(.int .i64 zk.fRate.fN),(.int .i64 zk.fRate.fD),(.int .i64 zk.fLatency.fN),(.int .i64 zk.fLatency.fD),(.func (.func 29) #[] #[(.pointer (some z2B)),(.pointer (some z2C))]),(.slice z2D z2m.length z2E)])] w₀ fun e w'=>∃ Zn : Zp,e = .returned (.int .i64 r) ∧ True ∧ Hp [] w₀ w' [fz Zn]:=by
 unfold m_calculus_search_check at h
 refine Calls.ofWC (vs:=[(.agg #[(.slice z2n z1I.length z2o),(.int .i64 zk.fRate.fN),(.int .i64 zk.fRate.fD),(.int .i64 zk.fLatency.fN),(.int .i64 zk.fLatency.fD),(.func (.func 29) #[] #[(.pointer (some z2B)),(.pointer (some z2C))]),(.slice z2D z2m.length z2E)])]) (pre:=[]) (env:=[(0,(.agg #[(.slice z2n z1I.length z2o),(.int .i64 zk.fRate.fN),(.int .i64 zk.fRate.fD),(.int .i64 zk.fLatency.fN),(.int .i64 zk.fLatency.fD),(.func (.func 29) #[] #[(.pointer (some z2B)),(.pointer (some z2C))]),(.slice z2D z2m.length z2E)]))]) Tryz.func54 rfl Tryz.ntmps54 rfl (Hp.nil w₀ _) rfl ?_
 refine WC.pool ?_
 refine WC.b ?_
 refine WC.a ?_
 refine WL.new (dd:=1) rfl rfl rfl (e_box (cs:=[(.slice z2n z1I.length z2o),(.int .i64 zk.fRate.fN),(.int .i64 zk.fRate.fD),(.int .i64 zk.fLatency.fN),(.int .i64 zk.fLatency.fD),(.func (.func 29) #[] #[(.pointer (some z2B)),(.pointer (some z2C))]),(.slice z2D z2m.length z2E)]) rfl rfl) ?_
 intro z2R _
 refine WL.a (d:=2) rfl rfl rfl (q_z rfl) ?_
 refine WL.nil ?_
 refine WX.a ?_
 refine WC.b ?_
 refine WC.b ?_
 obtain ⟨zhI,zqm,h⟩:=z8 h
 obtain ⟨zkW,zqn,h⟩:=z8 h
 refine WC.a ?_
 refine WL.a (d:=11) rfl rfl rfl (q_fieldAddr fo_67_0 rfl rfl) ?_
 refine WL.a (d:=12) rfl rfl rfl (q_load1 oneT_38 rfl (rd_stb .here rfl)) ?_
 refine WL.a (d:=13) rfl rfl rfl (q_len Tryz.underlying38 rfl) ?_
 refine WL.a (d:=14) rfl rfl rfl (q_gtr rfl rfl) ?_
 refine WL.a (d:=15) rfl rfl rfl (q_m rfl) ?_
 refine WL.cut0 True [(1,(.pointer (some ⟨z2R,0,none⟩))),(19,(.bool zhI))] [stb z2R 67 [(.slice z2n z1I.length z2o),(.int .i64 zk.fRate.fN),(.int .i64 zk.fRate.fD),(.int .i64 zk.fLatency.fN),(.int .i64 zk.fLatency.fD),(.func (.func 29) #[] #[(.pointer (some z2B)),(.pointer (some z2C))]),(.slice z2D z2m.length z2E)],fz []] 4 ?_ (fun _=>?_)
 ·rcases Bool.eq_false_or_eq_true (decide (((z1I.length : Nat) : Int) > 32)) with hb' | hb'
  ·have zqo:=hb'; clear hb'
   have zl1:=ite_t zqm zqo
   replace zl1:=Option.some.inj zl1
   refine WL.pin (i:=15) rfl zqo ?_
   refine WL.e rfl rfl rfl ?_
   refine WL.e rfl rfl rfl ?_
   refine WL.e rfl rfl rfl ?_
   refine WL.a (d:=19) rfl rfl rfl (q_pickT rfl rfl) ?_
   exact WL.cutEnd () trivial (.cons rfl (.cons (zf zl1) .nil)) (.cons .here (.cons .here .nil))
  ·have zqp:=hb'; clear hb'
   have zfH:=ite_f zqm zqp
   obtain ⟨zkU,zwj,zfH⟩:=z8 zfH
   replace zfH:=Option.some.inj zfH
   refine WL.pin (i:=15) rfl zqp ?_
   refine WL.a (d:=16) rfl rfl rfl (q_fieldAddr fo_67_0 rfl rfl) ?_
   refine WL.a (d:=17) rfl rfl rfl (q_load1 oneT_38 rfl (rd_stb .here rfl)) ?_
   refine WL.b (dd:=18) rfl rfl rfl (zi (l:=[.tmp 17,.func 75]) Tryz.call74 (.cons rfl (.cons rfl .nil))) (.nil : Sel [stb z2R 67 [(.slice z2n z1I.length z2o),(.int .i64 zk.fRate.fN),(.int .i64 zk.fRate.fD),(.int .i64 zk.fLatency.fN),(.int .i64 zk.fLatency.fD),(.func (.func 29) #[] #[(.pointer (some z2B)),(.pointer (some z2C))]),(.slice z2D z2m.length z2E)],fz []] [] [stb z2R 67 [(.slice z2n z1I.length z2o),(.int .i64 zk.fRate.fN),(.int .i64 zk.fRate.fD),(.int .i64 zk.fLatency.fN),(.int .i64 zk.fLatency.fD),(.func (.func 29) #[] #[(.pointer (some z2B)),(.pointer (some z2C))]),(.slice z2D z2m.length z2E)],fz []]) (fun w hw=>by have pz:=(hz.call2 hw (.nil : Sel [stb z2R 67 [(.slice z2n z1I.length z2o),(.int .i64 zk.fRate.fN),(.int .i64 zk.fRate.fD),(.int .i64 zk.fLatency.fN),(.int .i64 zk.fLatency.fD),(.func (.func 29) #[] #[(.pointer (some z2B)),(.pointer (some z2C))]),(.slice z2D z2m.length z2E)],fz []] [] [stb z2R 67 [(.slice z2n z1I.length z2o),(.int .i64 zk.fRate.fN),(.int .i64 zk.fRate.fD),(.int .i64 zk.fLatency.fN),(.int .i64 zk.fLatency.fD),(.func (.func 29) #[] #[(.pointer (some z2B)),(.pointer (some z2C))]),(.slice z2D z2m.length z2E)],fz []]) .h1); exact w_slices_ContainsFunc_api_Curve_api_Curve (Z:=_) (zcn:=z2n) (zco:=z2o) (za5:=75) (zcp:=[]) (z9n:=z1I) (zcm:=(fun (y0 : List z1)=>m_calculus_search_check_1 y0)) (r:=zkU) w pz ((zql.mono (Zle.left _ _)).weak (fun _ _ h=>p23_mono (Zle.left _ _) h)) Tryz.call75 (fun w' hz' y0 ga0 gc0 r gh0 hr=>w_calculus_search_check_1 (Z:=_) (zcj:=ga0) (zck:=gc0) (z9m:=y0) (r:=r) w' hz' gh0 hr) zwj) ?_
   refine WL.a (d:=19) rfl rfl rfl (q_pickF rfl rfl) ?_
   exact WL.cutEnd () trivial (.cons rfl (.cons (zf zfH) .nil)) (.cons .here (.cons .here .nil))
 ·skip
  refine WL.a (d:=20) rfl rfl rfl (q_m rfl) ?_
  refine WL.cut0 True [(1,(.pointer (some ⟨z2R,0,none⟩))),(25,(.bool zkW))] [stb z2R 67 [(.slice z2n z1I.length z2o),(.int .i64 zk.fRate.fN),(.int .i64 zk.fRate.fD),(.int .i64 zk.fLatency.fN),(.int .i64 zk.fLatency.fD),(.func (.func 29) #[] #[(.pointer (some z2B)),(.pointer (some z2C))]),(.slice z2D z2m.length z2E)],fz []] 5 ?_ (fun _=>?_)
  ·rcases Bool.eq_false_or_eq_true zhI with hb' | hb'
   ·have zqq:=hb'; clear hb'
    have zl2:=ite_t zqn zqq
    replace zl2:=Option.some.inj zl2
    refine WL.pin (i:=20) rfl zqq ?_
    refine WL.e rfl rfl rfl ?_
    refine WL.e rfl rfl rfl ?_
    refine WL.e rfl rfl rfl ?_
    refine WL.e rfl rfl rfl ?_
    refine WL.a (d:=25) rfl rfl rfl (q_pickT rfl rfl) ?_
    exact WL.cutEnd () trivial (.cons rfl (.cons (zf zl2) .nil)) (.cons .here (.cons .here .nil))
   ·have zqr:=hb'; clear hb'
    have zfI:=ite_f zqn zqr
    obtain ⟨zkV,zwk,zfI⟩:=z8 zfI
    replace zfI:=Option.some.inj zfI
    refine WL.pin (i:=20) rfl zqr ?_
    refine WL.a (d:=21) rfl rfl rfl (q_fieldAddr fo_67_1 rfl rfl) ?_
    refine WL.a (d:=22) rfl rfl rfl (q_loadA (cs:=[(.int .i64 zk.fRate.fN),(.int .i64 zk.fRate.fD),(.int .i64 zk.fLatency.fN),(.int .i64 zk.fLatency.fD)]) aggT_42 rfl rfl (rd_sub (s:=4) .here rfl)) ?_
    refine WL.b (dd:=23) rfl rfl rfl (zi (l:=[.tmp 22]) Tryz.call17 (.cons rfl .nil)) (.nil : Sel [stb z2R 67 [(.slice z2n z1I.length z2o),(.int .i64 zk.fRate.fN),(.int .i64 zk.fRate.fD),(.int .i64 zk.fLatency.fN),(.int .i64 zk.fLatency.fD),(.func (.func 29) #[] #[(.pointer (some z2B)),(.pointer (some z2C))]),(.slice z2D z2m.length z2E)],fz []] [] [stb z2R 67 [(.slice z2n z1I.length z2o),(.int .i64 zk.fRate.fN),(.int .i64 zk.fRate.fD),(.int .i64 zk.fLatency.fN),(.int .i64 zk.fLatency.fD),(.func (.func 29) #[] #[(.pointer (some z2B)),(.pointer (some z2C))]),(.slice z2D z2m.length z2E)],fz []]) (fun w hw=>by have pz:=(hz.call2 hw (.nil : Sel [stb z2R 67 [(.slice z2n z1I.length z2o),(.int .i64 zk.fRate.fN),(.int .i64 zk.fRate.fD),(.int .i64 zk.fLatency.fN),(.int .i64 zk.fLatency.fD),(.func (.func 29) #[] #[(.pointer (some z2B)),(.pointer (some z2C))]),(.slice z2D z2m.length z2E)],fz []] [] [stb z2R 67 [(.slice z2n z1I.length z2o),(.int .i64 zk.fRate.fN),(.int .i64 zk.fRate.fD),(.int .i64 zk.fLatency.fN),(.int .i64 zk.fLatency.fD),(.func (.func 29) #[] #[(.pointer (some z2B)),(.pointer (some z2C))]),(.slice z2D z2m.length z2E)],fz []]) .h1); exact w_calculus_Valid (Z:=_)  (zX:=zk) (r:=zkV) w pz  zwk) ?_
    refine WL.a (d:=24) rfl rfl rfl (q_not rfl) ?_
    refine WL.a (d:=25) rfl rfl rfl (q_pickF rfl rfl) ?_
    exact WL.cutEnd () trivial (.cons rfl (.cons (zf zfI) .nil)) (.cons .here (.cons .here .nil))
  ·skip
   refine WL.nil ?_
   refine WX.a ?_
   refine WC.cond rfl (fun zl3=>?_) (fun zl3=>?_)
   ·replace h:=ite_t h zl3
    refine WC.b ?_
    refine WC.a ?_
    refine WL.a (d:=2) rfl rfl rfl (q_z rfl) ?_
    refine WL.nil ?_
    refine WX.a ?_
    refine WC.ret ?_
    refine WX.thenRet ?_
    obtain rfl:=Option.some.inj h
    refine WX.bpRet Tryz.results54 (.tmp rfl .nil) (fun w hw=>?_)
    exact ⟨[],ret1 rfl,trivial,hw.sub (.cons .h1 .nil)⟩
   ·replace h:=ite_f h zl3
    refine WC.skip ?_
    refine WX.a ?_
    refine WC.b ?_
    refine WC.a ?_
    refine WL.new (dd:=3) rfl rfl rfl (e_alloc (cs:=[(.int .i64 0)]) zeroT_87 rfl) ?_
    intro z3K _
    refine WL.nil ?_
    refine WX.a ?_
    refine WC.b ?_
    obtain ⟨z9x,zwl,h⟩:=z8 h
    refine WC.a ?_
    refine WL.b (dd:=26) rfl rfl rfl (zi (l:=[]) Tryz.call52 .nil) (.nil : Sel [stb z3K 87 [(.int .i64 0)],stb z2R 67 [(.slice z2n z1I.length z2o),(.int .i64 zk.fRate.fN),(.int .i64 zk.fRate.fD),(.int .i64 zk.fLatency.fN),(.int .i64 zk.fLatency.fD),(.func (.func 29) #[] #[(.pointer (some z2B)),(.pointer (some z2C))]),(.slice z2D z2m.length z2E)],fz []] [] [stb z3K 87 [(.int .i64 0)],stb z2R 67 [(.slice z2n z1I.length z2o),(.int .i64 zk.fRate.fN),(.int .i64 zk.fRate.fD),(.int .i64 zk.fLatency.fN),(.int .i64 zk.fLatency.fD),(.func (.func 29) #[] #[(.pointer (some z2B)),(.pointer (some z2C))]),(.slice z2D z2m.length z2E)],fz []]) (fun w hw=>by have pz:=(hz.call2 hw (.nil : Sel [stb z3K 87 [(.int .i64 0)],stb z2R 67 [(.slice z2n z1I.length z2o),(.int .i64 zk.fRate.fN),(.int .i64 zk.fRate.fD),(.int .i64 zk.fLatency.fN),(.int .i64 zk.fLatency.fD),(.func (.func 29) #[] #[(.pointer (some z2B)),(.pointer (some z2C))]),(.slice z2D z2m.length z2E)],fz []] [] [stb z3K 87 [(.int .i64 0)],stb z2R 67 [(.slice z2n z1I.length z2o),(.int .i64 zk.fRate.fN),(.int .i64 zk.fRate.fD),(.int .i64 zk.fLatency.fN),(.int .i64 zk.fLatency.fD),(.func (.func 29) #[] #[(.pointer (some z2B)),(.pointer (some z2C))]),(.slice z2D z2m.length z2E)],fz []]) .h2); exact w_calculus_zero (Z:=_)   (r:=z9x) w pz  zwl) ?_
    refine WL.new (dd:=4) rfl rfl rfl (e_alloc (cs:=[(.int .i64 0),(.int .i64 0)]) zeroT_40 rfl) ?_
    intro z4V _
    refine WL.eff0 rfl rfl (e_store (vs:=[(.int .i64 z9x.fN),(.int .i64 z9x.fD)]) (ds:=[(.int .i64 z9x.fN),(.int .i64 z9x.fD)]) sizT_40 rfl rfl rfl rfl (oc_cons rfl (oc_cons rfl oc_nil)) .here (Nat.le_of_ble_eq_true rfl) rfl) ?_
    refine WL.nil ?_
    refine WX.a ?_
    obtain ⟨zas,zwm,h⟩:=jp3_elim h
    refine WC.seqMid4 (fun (z7d : Int) (z7e : Int) (z7f : Int) (z8l : Zp)=>(zas z7d z7e z7f = some r) ∧ (Zle (Z ++ []) (Z ++ z8l))) (fun (z7d : Int) (z7e : Int) (z7f : Int) (z8l : Zp)=>[(1,(.pointer (some ⟨z2R,0,none⟩))),(3,(.pointer (some ⟨z3K,0,none⟩))),(4,(.pointer (some ⟨z4V,0,none⟩)))]) (fun (z7d : Int) (z7e : Int) (z7f : Int) (z8l : Zp)=>[fz z8l,stb z2R 67 [(.slice z2n z1I.length z2o),(.int .i64 zk.fRate.fN),(.int .i64 zk.fRate.fD),(.int .i64 zk.fLatency.fN),(.int .i64 zk.fLatency.fD),(.func (.func 29) #[] #[(.pointer (some z2B)),(.pointer (some z2C))]),(.slice z2D z2m.length z2E)],stb z3K 87 [(.int .i64 z7d)],stb z4V 40 [(.int .i64 z7e),(.int .i64 z7f)]]) ?_ ?_
    ·skip
     refine WC.b ?_
     refine WC.a ?_
     refine WL.a (d:=27) rfl rfl rfl (q_fieldAddr fo_67_0 rfl rfl) ?_
     refine WL.a (d:=28) rfl rfl rfl (q_load1 oneT_38 rfl (rd_stb .h2 rfl)) ?_
     refine WL.a (d:=29) rfl rfl rfl (q_len Tryz.underlying38 rfl) ?_
     refine WL.a (d:=30) rfl rfl rfl (q_m rfl) ?_
     refine WL.nil ?_
     refine WX.a ?_
     refine WC.block ?_
     refine WC.loop6 (fun (zeh : Nat) (z65 : Int) (z48 : Int) (z3S : Int) (z3T : Int) (z4p : Zp)=>(m_calculus_search_check_L2 z1I zas zeh z65 z48 z3S z3T = some r) ∧ (Zle (Z ++ []) (Z ++ z4p))) (fun (zeh : Nat) (z65 : Int) (z48 : Int) (z3S : Int) (z3T : Int) (z4p : Zp)=>[(1,(.pointer (some ⟨z2R,0,none⟩))),(3,(.pointer (some ⟨z3K,0,none⟩))),(4,(.pointer (some ⟨z4V,0,none⟩))),(28,(.slice z2n z1I.length z2o)),(29,(.int .i64 ((z1I.length : Nat) : Int))),(30,(.int .i64 z65))]) (fun (zeh : Nat) (z65 : Int) (z48 : Int) (z3S : Int) (z3T : Int) (z4p : Zp)=>[fz z4p,stb z2R 67 [(.slice z2n z1I.length z2o),(.int .i64 zk.fRate.fN),(.int .i64 zk.fRate.fD),(.int .i64 zk.fLatency.fN),(.int .i64 zk.fLatency.fD),(.func (.func 29) #[] #[(.pointer (some z2B)),(.pointer (some z2C))]),(.slice z2D z2m.length z2E)],stb z3K 87 [(.int .i64 z48)],stb z4V 40 [(.int .i64 z3S),(.int .i64 z3T)]]) (fun (zeh : Nat) (z65 : Int) (z48 : Int) (z3S : Int) (z3T : Int) (z4p : Zp)=>zeh) ⟨FUEL,0,0,z9x.fN,z9x.fD,[]⟩ ⟨h,(Zle.refl _)⟩ (.cons rfl (.cons rfl (.cons rfl (.cons rfl (.cons rfl (.cons rfl .nil)))))) (.cons .h3 (.cons .h2 (.cons .h1 (.cons .here .nil)))) ?_
     rintro zeh z65 z48 z3S z3T z4p ⟨h,zhJ⟩
     obtain ⟨zkT,rfl⟩:=m_calculus_search_check_L2_fuel h
     rw [m_calculus_search_check_L2] at h
     refine WC.b ?_
     refine WC.a ?_
     refine WL.a (d:=31) rfl rfl rfl (q_lss rfl rfl) ?_
     refine WL.nil ?_
     refine WX.a ?_
     refine WC.b ?_
     refine WC.cond rfl (fun zl4=>?_) (fun zl4=>?_)
     ·replace h:=ite_t h zl4
      refine WC.skip ?_
      refine WX.a ?_
      refine WC.b ?_
      refine WC.block ?_
      refine WC.b ?_
      obtain ⟨zwn,h⟩:=chk_elim h
      refine WC.a ?_
      refine WL.znth (dd:=32) rfl rfl (Z:=(Z ++ z4p)) (Pr:=(p23 (Z ++ z4p))) elT_38 rfl rfl ((zql.mono ((Zle.left _ _).trans zhJ)).weak (fun _ _ h=>p23_mono ((Zle.left _ _).trans zhJ) h)) zwn ?_
      rintro zCI zCJ zwo zCK ⟨zqs,zqt,rfl,zqu⟩
      refine WL.a (d:=33) rfl rfl rfl (q_load1 oneT_23 rfl (rd_z (hz.pv2 .here) zwo rfl)) ?_
      refine WL.a (d:=6) rfl rfl rfl (q_z rfl) ?_
      refine WL.nil ?_
      refine WX.a ?_
      refine WC.b ?_
      refine WC.b ?_
      obtain ⟨z4D,zwp,h⟩:=z8 h
      refine WC.a ?_
      refine WL.a (d:=35) rfl rfl rfl (q_m rfl) ?_
      refine WL.enter3 (dd:=36) rfl rfl rfl (zi (l:=[.tmp 35]) Tryz.call76 (.cons rfl .nil)) (.nil : Sel [fz z4p,stb z2R 67 [(.slice z2n z1I.length z2o),(.int .i64 zk.fRate.fN),(.int .i64 zk.fRate.fD),(.int .i64 zk.fLatency.fN),(.int .i64 zk.fLatency.fD),(.func (.func 29) #[] #[(.pointer (some z2B)),(.pointer (some z2C))]),(.slice z2D z2m.length z2E)],stb z3K 87 [(.int .i64 z48)],stb z4V 40 [(.int .i64 z3S),(.int .i64 z3T)]] [] [fz z4p,stb z2R 67 [(.slice z2n z1I.length z2o),(.int .i64 zk.fRate.fN),(.int .i64 zk.fRate.fD),(.int .i64 zk.fLatency.fN),(.int .i64 zk.fLatency.fD),(.func (.func 29) #[] #[(.pointer (some z2B)),(.pointer (some z2C))]),(.slice z2D z2m.length z2E)],stb z3K 87 [(.int .i64 z48)],stb z4V 40 [(.int .i64 z3S),(.int .i64 z3T)]]) (fun w hw=>by have pz:=(hz.call2 hw (.nil : Sel [fz z4p,stb z2R 67 [(.slice z2n z1I.length z2o),(.int .i64 zk.fRate.fN),(.int .i64 zk.fRate.fD),(.int .i64 zk.fLatency.fN),(.int .i64 zk.fLatency.fD),(.func (.func 29) #[] #[(.pointer (some z2B)),(.pointer (some z2C))]),(.slice z2D z2m.length z2E)],stb z3K 87 [(.int .i64 z48)],stb z4V 40 [(.int .i64 z3S),(.int .i64 z3T)]] [] [fz z4p,stb z2R 67 [(.slice z2n z1I.length z2o),(.int .i64 zk.fRate.fN),(.int .i64 zk.fRate.fD),(.int .i64 zk.fLatency.fN),(.int .i64 zk.fLatency.fD),(.func (.func 29) #[] #[(.pointer (some z2B)),(.pointer (some z2C))]),(.slice z2D z2m.length z2E)],stb z3K 87 [(.int .i64 z48)],stb z4V 40 [(.int .i64 z3S),(.int .i64 z3T)]]) .here); exact w_curve_Breaks (Z:=_) (z9u:=zqs) (z9v:=zqt) (z7B:=(nth z1I z65)) (r:=z4D) w pz zqu zwp) ?_
      rintro z8m z9y z9z _
      refine WL.merge .here .h1 ?_
      refine WL.a (d:=34) rfl rfl rfl (q_m rfl) ?_
      refine WL.a (d:=37) rfl rfl rfl (q_extract rfl rfl) ?_
      refine WL.a (d:=38) rfl rfl rfl (q_extract rfl rfl) ?_
      refine WL.a (d:=7) rfl rfl rfl (q_z rfl) ?_
      refine WL.a (d:=8) rfl rfl rfl (q_z rfl) ?_
      refine WL.nil ?_
      refine WX.a ?_
      refine WC.b ?_
      refine WC.a ?_
      refine WL.a (d:=39) rfl rfl rfl (q_m rfl) ?_
      refine WL.a (d:=40) rfl rfl rfl (q_neq rfl rfl) ?_
      refine WL.nil ?_
      refine WX.a ?_
      refine WC.cond rfl (fun zl5=>?_) (fun zl5=>?_)
      ·replace h:=ite_t h zl5
       refine WC.b ?_
       refine WC.a ?_
       refine WL.a (d:=41) rfl rfl rfl (q_m rfl) ?_
       refine WL.a (d:=2) rfl rfl rfl (q_z rfl) ?_
       refine WL.nil ?_
       refine WX.a ?_
       refine WC.ret ?_
       refine WX.thenRet ?_
       refine WX.blockRet ?_
       refine WX.thenRet ?_
       refine WX.thenRet ?_
       refine WX.blockRet ?_
       refine WX.thenRet ?_
       obtain rfl:=Option.some.inj h
       refine WX.bpRet Tryz.results54 (.tmp rfl .nil) (fun w hw=>?_)
       exact ⟨(z4p ++ z8m),ret1 rfl,trivial,hw.sub (.cons .here .nil)⟩
      ·replace h:=ite_f h zl5
       refine WC.skip ?_
       refine WX.a ?_
       refine WC.b ?_
       obtain ⟨z5i,zwq,h⟩:=z8 h
       refine WC.a ?_
       refine WL.a (d:=43) rfl rfl rfl (q_m rfl) ?_
       refine WL.b (dd:=44) rfl rfl rfl (zi (l:=[.tmp 43]) Tryz.call77 (.cons rfl .nil)) (.nil : Sel [fz (z4p ++ z8m),row (.slice z9y z4D.1.length z9z) 40 2 (z4D.1.flatMap e40),stb z2R 67 [(.slice z2n z1I.length z2o),(.int .i64 zk.fRate.fN),(.int .i64 zk.fRate.fD),(.int .i64 zk.fLatency.fN),(.int .i64 zk.fLatency.fD),(.func (.func 29) #[] #[(.pointer (some z2B)),(.pointer (some z2C))]),(.slice z2D z2m.length z2E)],stb z3K 87 [(.int .i64 z48)],stb z4V 40 [(.int .i64 z3S),(.int .i64 z3T)]] [] [fz (z4p ++ z8m),row (.slice z9y z4D.1.length z9z) 40 2 (z4D.1.flatMap e40),stb z2R 67 [(.slice z2n z1I.length z2o),(.int .i64 zk.fRate.fN),(.int .i64 zk.fRate.fD),(.int .i64 zk.fLatency.fN),(.int .i64 zk.fLatency.fD),(.func (.func 29) #[] #[(.pointer (some z2B)),(.pointer (some z2C))]),(.slice z2D z2m.length z2E)],stb z3K 87 [(.int .i64 z48)],stb z4V 40 [(.int .i64 z3S),(.int .i64 z3T)]]) (fun w hw=>by have pz:=(hz.call2 hw (.nil : Sel [fz (z4p ++ z8m),row (.slice z9y z4D.1.length z9z) 40 2 (z4D.1.flatMap e40),stb z2R 67 [(.slice z2n z1I.length z2o),(.int .i64 zk.fRate.fN),(.int .i64 zk.fRate.fD),(.int .i64 zk.fLatency.fN),(.int .i64 zk.fLatency.fD),(.func (.func 29) #[] #[(.pointer (some z2B)),(.pointer (some z2C))]),(.slice z2D z2m.length z2E)],stb z3K 87 [(.int .i64 z48)],stb z4V 40 [(.int .i64 z3S),(.int .i64 z3T)]] [] [fz (z4p ++ z8m),row (.slice z9y z4D.1.length z9z) 40 2 (z4D.1.flatMap e40),stb z2R 67 [(.slice z2n z1I.length z2o),(.int .i64 zk.fRate.fN),(.int .i64 zk.fRate.fD),(.int .i64 zk.fLatency.fN),(.int .i64 zk.fLatency.fD),(.func (.func 29) #[] #[(.pointer (some z2B)),(.pointer (some z2C))]),(.slice z2D z2m.length z2E)],stb z3K 87 [(.int .i64 z48)],stb z4V 40 [(.int .i64 z3S),(.int .i64 z3T)]]) .here); exact w_curve_Rate (Z:=_) (zbu:=zqs) (zbv:=zqt) (z8j:=(nth z1I z65)) (r:=z5i) w pz (zqu.mono ((Zle.left _ _).trans (Zle.assoc _ _ _))) zwq) ?_
       refine WL.a (d:=42) rfl rfl rfl (q_m rfl) ?_
       refine WL.a (d:=45) rfl rfl rfl (q_extract rfl rfl) ?_
       refine WL.a (d:=46) rfl rfl rfl (q_extract rfl rfl) ?_
       refine WL.new (dd:=9) rfl rfl rfl (e_alloc (cs:=[(.int .i64 0),(.int .i64 0)]) zeroT_40 rfl) ?_
       intro zei _
       refine WL.eff0 rfl rfl (e_store (vs:=[(.int .i64 z5i.1.fN),(.int .i64 z5i.1.fD)]) (ds:=[(.int .i64 z5i.1.fN),(.int .i64 z5i.1.fD)]) sizT_40 rfl rfl rfl rfl (oc_cons rfl (oc_cons rfl oc_nil)) .here (Nat.le_of_ble_eq_true rfl) rfl) ?_
       refine WL.a (d:=10) rfl rfl rfl (q_z rfl) ?_
       refine WL.nil ?_
       refine WX.a ?_
       obtain ⟨z8k,zwr,h⟩:=z8 h
       refine WC.a ?_
       refine WL.a (d:=47) rfl rfl rfl (q_loadA (cs:=[(.int .i64 z3S),(.int .i64 z3T)]) aggT_40 rfl rfl (rd_all .h5)) ?_
       refine WL.a (d:=48) rfl rfl rfl (q_loadA (cs:=[(.int .i64 z5i.1.fN),(.int .i64 z5i.1.fD)]) aggT_40 rfl rfl (rd_all .here)) ?_
       refine WL.b (dd:=49) rfl rfl rfl (zi (l:=[.tmp 3,.func 31,.tmp 47,.tmp 48]) Tryz.call30 (.cons rfl (.cons rfl (.cons rfl (.cons rfl .nil))))) ((.cons .h4 .nil) : Sel [stb zei 40 [(.int .i64 z5i.1.fN),(.int .i64 z5i.1.fD)],fz (z4p ++ z8m),row (.slice z9y z4D.1.length z9z) 40 2 (z4D.1.flatMap e40),stb z2R 67 [(.slice z2n z1I.length z2o),(.int .i64 zk.fRate.fN),(.int .i64 zk.fRate.fD),(.int .i64 zk.fLatency.fN),(.int .i64 zk.fLatency.fD),(.func (.func 29) #[] #[(.pointer (some z2B)),(.pointer (some z2C))]),(.slice z2D z2m.length z2E)],stb z3K 87 [(.int .i64 z48)],stb z4V 40 [(.int .i64 z3S),(.int .i64 z3T)]] [stb z3K 87 [(.int .i64 z48)]] [stb zei 40 [(.int .i64 z5i.1.fN),(.int .i64 z5i.1.fD)],fz (z4p ++ z8m),row (.slice z9y z4D.1.length z9z) 40 2 (z4D.1.flatMap e40),stb z2R 67 [(.slice z2n z1I.length z2o),(.int .i64 zk.fRate.fN),(.int .i64 zk.fRate.fD),(.int .i64 zk.fLatency.fN),(.int .i64 zk.fLatency.fD),(.func (.func 29) #[] #[(.pointer (some z2B)),(.pointer (some z2C))]),(.slice z2D z2m.length z2E)],stb z4V 40 [(.int .i64 z3S),(.int .i64 z3T)]]) (fun w hw=>by have pz:=(hz.call2 hw ((.cons .h4 .nil) : Sel [stb zei 40 [(.int .i64 z5i.1.fN),(.int .i64 z5i.1.fD)],fz (z4p ++ z8m),row (.slice z9y z4D.1.length z9z) 40 2 (z4D.1.flatMap e40),stb z2R 67 [(.slice z2n z1I.length z2o),(.int .i64 zk.fRate.fN),(.int .i64 zk.fRate.fD),(.int .i64 zk.fLatency.fN),(.int .i64 zk.fLatency.fD),(.func (.func 29) #[] #[(.pointer (some z2B)),(.pointer (some z2C))]),(.slice z2D z2m.length z2E)],stb z3K 87 [(.int .i64 z48)],stb z4V 40 [(.int .i64 z3S),(.int .i64 z3T)]] [stb z3K 87 [(.int .i64 z48)]] [stb zei 40 [(.int .i64 z5i.1.fN),(.int .i64 z5i.1.fD)],fz (z4p ++ z8m),row (.slice z9y z4D.1.length z9z) 40 2 (z4D.1.flatMap e40),stb z2R 67 [(.slice z2n z1I.length z2o),(.int .i64 zk.fRate.fN),(.int .i64 zk.fRate.fD),(.int .i64 zk.fLatency.fN),(.int .i64 zk.fLatency.fD),(.func (.func 29) #[] #[(.pointer (some z2B)),(.pointer (some z2C))]),(.slice z2D z2m.length z2E)],stb z4V 40 [(.int .i64 z3S),(.int .i64 z3T)]]) .h1); exact w_calculus_calc_do (Z:=_) (z4j:=z3K) (z6Z:=31) (z7D:=[]) (z5h:=(⟨z48⟩ : z2c)) (z7T:=(fun (y0 : z2) (y1 : z2)=>m_rat_Add y0 y1)) (z2P:=(⟨z3S,z3T⟩ : z2)) (z2Q:=z5i.1) (r:=z8k) w pz Tryz.call31 (fun w' hz' y0 y1  r  hr=>w_rat_Add (Z:=_)  (z44:=y0) (z47:=y1) (r:=r) w' hz'  hr) zwr (hw.owns ((.cons .h4 .nil) : Sel [stb zei 40 [(.int .i64 z5i.1.fN),(.int .i64 z5i.1.fD)],fz (z4p ++ z8m),row (.slice z9y z4D.1.length z9z) 40 2 (z4D.1.flatMap e40),stb z2R 67 [(.slice z2n z1I.length z2o),(.int .i64 zk.fRate.fN),(.int .i64 zk.fRate.fD),(.int .i64 zk.fLatency.fN),(.int .i64 zk.fLatency.fD),(.func (.func 29) #[] #[(.pointer (some z2B)),(.pointer (some z2C))]),(.slice z2D z2m.length z2E)],stb z3K 87 [(.int .i64 z48)],stb z4V 40 [(.int .i64 z3S),(.int .i64 z3T)]] [stb z3K 87 [(.int .i64 z48)]] [stb zei 40 [(.int .i64 z5i.1.fN),(.int .i64 z5i.1.fD)],fz (z4p ++ z8m),row (.slice z9y z4D.1.length z9z) 40 2 (z4D.1.flatMap e40),stb z2R 67 [(.slice z2n z1I.length z2o),(.int .i64 zk.fRate.fN),(.int .i64 zk.fRate.fD),(.int .i64 zk.fLatency.fN),(.int .i64 zk.fLatency.fD),(.func (.func 29) #[] #[(.pointer (some z2B)),(.pointer (some z2C))]),(.slice z2D z2m.length z2E)],stb z4V 40 [(.int .i64 z3S),(.int .i64 z3T)]]))) ?_
       refine WL.eff0 rfl rfl (e_store (vs:=[(.int .i64 z8k.1.fN),(.int .i64 z8k.1.fD)]) (ds:=[(.int .i64 z8k.1.fN),(.int .i64 z8k.1.fD)]) sizT_40 rfl rfl rfl rfl (oc_cons rfl (oc_cons rfl oc_nil)) .h5 (Nat.le_of_ble_eq_true rfl) rfl) ?_
       refine WL.nil ?_
       refine WX.blockNormal ?_
       refine WX.a ?_
       refine WC.a ?_
       refine WL.a (d:=50) rfl rfl rfl (q_add rfl rfl rfl) ?_
       refine WL.a (d:=30) rfl rfl rfl (q_m rfl) ?_
       refine WL.nil ?_
       exact WX.round (G:=Nat × Int × Int × Int × Int × Zp) ⟨zkT,(i64 (z65 + 1)),z8k.2.fE,z8k.1.fN,z8k.1.fD,(z4p ++ z8m)⟩ ⟨h,(zhJ.trans ((Zle.left _ _).trans (Zle.assoc _ _ _)))⟩ (Nat.lt_succ_self _) (.cons rfl (.cons rfl (.cons rfl (.cons rfl (.cons rfl (.cons rfl .nil)))))) (.cons .h3 (.cons .h4 (.cons .h1 (.cons .here .nil))))
     ·replace h:=ite_f h zl4
      refine WC.exit ?_
      refine WX.thenExit ?_
      refine WX.thenExit ?_
      refine WX.blockHit ?_
      exact WX.mid (G:=Int × Int × Int × Zp) ⟨z48,z3S,z3T,z4p⟩ ⟨h,zhJ⟩ (.cons rfl (.cons rfl (.cons rfl .nil))) (.cons .here (.cons .here (.cons .here (.cons .here .nil))))
    ·rintro z7d z7e z7f z8l ⟨h,zCL⟩
     replace h:=(zwm z7d z7e z7f).symm.trans h
     refine WC.b ?_
     refine WC.b ?_
     obtain ⟨zkY,zqv,h⟩:=z8 h
     refine WC.a ?_
     refine WL.a (d:=51) rfl rfl rfl (q_fieldAddr fo_87_0 rfl rfl) ?_
     refine WL.a (d:=52) rfl rfl rfl (q_load1 oneT_26 rfl (rd_stb .h2 rfl)) ?_
     refine WL.a (d:=53) rfl rfl rfl (q_eql rfl rfl) ?_
     refine WL.a (d:=54) rfl rfl rfl (q_m rfl) ?_
     refine WL.cut0 True [(3,(.pointer (some ⟨z3K,0,none⟩))),(61,(.bool zkY))] [fz z8l,stb z2R 67 [(.slice z2n z1I.length z2o),(.int .i64 zk.fRate.fN),(.int .i64 zk.fRate.fD),(.int .i64 zk.fLatency.fN),(.int .i64 zk.fLatency.fD),(.func (.func 29) #[] #[(.pointer (some z2B)),(.pointer (some z2C))]),(.slice z2D z2m.length z2E)],stb z3K 87 [(.int .i64 z7d)],stb z4V 40 [(.int .i64 z7e),(.int .i64 z7f)]] 7 ?_ (fun _=>?_)
     ·rcases Bool.eq_false_or_eq_true (decide (z7d = 0)) with hb' | hb'
      ·have zqw:=hb'; clear hb'
       have zfJ:=ite_t zqv zqw
       obtain ⟨zkX,zws,zfJ⟩:=z8 zfJ
       replace zfJ:=Option.some.inj zfJ
       refine WL.pin (i:=54) rfl zqw ?_
       refine WL.a (d:=55) rfl rfl rfl (q_loadA (cs:=[(.int .i64 z7e),(.int .i64 z7f)]) aggT_40 rfl rfl (rd_all .h3)) ?_
       refine WL.a (d:=56) rfl rfl rfl (q_fieldAddr fo_67_1 rfl rfl) ?_
       refine WL.a (d:=57) rfl rfl rfl (q_fieldAddr fo_42_0 rfl rfl) ?_
       refine WL.a (d:=58) rfl rfl rfl (q_loadA (cs:=[(.int .i64 zk.fRate.fN),(.int .i64 zk.fRate.fD)]) aggT_40 rfl rfl (rd_sub (s:=2) .h1 rfl)) ?_
       refine WL.b (dd:=59) rfl rfl rfl (zi (l:=[.tmp 55,.tmp 58]) Tryz.call24 (.cons rfl (.cons rfl .nil))) (.nil : Sel [fz z8l,stb z2R 67 [(.slice z2n z1I.length z2o),(.int .i64 zk.fRate.fN),(.int .i64 zk.fRate.fD),(.int .i64 zk.fLatency.fN),(.int .i64 zk.fLatency.fD),(.func (.func 29) #[] #[(.pointer (some z2B)),(.pointer (some z2C))]),(.slice z2D z2m.length z2E)],stb z3K 87 [(.int .i64 z7d)],stb z4V 40 [(.int .i64 z7e),(.int .i64 z7f)]] [] [fz z8l,stb z2R 67 [(.slice z2n z1I.length z2o),(.int .i64 zk.fRate.fN),(.int .i64 zk.fRate.fD),(.int .i64 zk.fLatency.fN),(.int .i64 zk.fLatency.fD),(.func (.func 29) #[] #[(.pointer (some z2B)),(.pointer (some z2C))]),(.slice z2D z2m.length z2E)],stb z3K 87 [(.int .i64 z7d)],stb z4V 40 [(.int .i64 z7e),(.int .i64 z7f)]]) (fun w hw=>by have pz:=(hz.call2 hw (.nil : Sel [fz z8l,stb z2R 67 [(.slice z2n z1I.length z2o),(.int .i64 zk.fRate.fN),(.int .i64 zk.fRate.fD),(.int .i64 zk.fLatency.fN),(.int .i64 zk.fLatency.fD),(.func (.func 29) #[] #[(.pointer (some z2B)),(.pointer (some z2C))]),(.slice z2D z2m.length z2E)],stb z3K 87 [(.int .i64 z7d)],stb z4V 40 [(.int .i64 z7e),(.int .i64 z7f)]] [] [fz z8l,stb z2R 67 [(.slice z2n z1I.length z2o),(.int .i64 zk.fRate.fN),(.int .i64 zk.fRate.fD),(.int .i64 zk.fLatency.fN),(.int .i64 zk.fLatency.fD),(.func (.func 29) #[] #[(.pointer (some z2B)),(.pointer (some z2C))]),(.slice z2D z2m.length z2E)],stb z3K 87 [(.int .i64 z7d)],stb z4V 40 [(.int .i64 z7e),(.int .i64 z7f)]]) .here); exact w_rat_Cmp (Z:=_)  (z28:=(⟨z7e,z7f⟩ : z2)) (z29:=zk.fRate) (r:=zkX) w pz  zws) ?_
       refine WL.a (d:=60) rfl rfl rfl (q_gtr rfl rfl) ?_
       refine WL.a (d:=61) rfl rfl rfl (q_pickT rfl rfl) ?_
       exact WL.cutEnd () trivial (.cons rfl (.cons (zf zfJ) .nil)) (.cons .here (.cons .here (.cons .here (.cons .here .nil))))
      ·have zqx:=hb'; clear hb'
       have zl6:=ite_f zqv zqx
       replace zl6:=Option.some.inj zl6
       refine WL.pin (i:=54) rfl zqx ?_
       refine WL.e rfl rfl rfl ?_
       refine WL.e rfl rfl rfl ?_
       refine WL.e rfl rfl rfl ?_
       refine WL.e rfl rfl rfl ?_
       refine WL.e rfl rfl rfl ?_
       refine WL.e rfl rfl rfl ?_
       refine WL.a (d:=61) rfl rfl rfl (q_pickF rfl rfl) ?_
       exact WL.cutEnd () trivial (.cons rfl (.cons (zf zl6) .nil)) (.cons .here (.cons .here (.cons .here (.cons .here .nil))))
     ·skip
      refine WL.nil ?_
      refine WX.a ?_
      refine WC.cond rfl (fun zl7=>?_) (fun zl7=>?_)
      ·replace h:=ite_t h zl7
       refine WC.b ?_
       refine WC.a ?_
       refine WL.a (d:=2) rfl rfl rfl (q_z rfl) ?_
       refine WL.nil ?_
       refine WX.a ?_
       refine WC.ret ?_
       refine WX.thenRet ?_
       obtain rfl:=Option.some.inj h
       refine WX.bpRet Tryz.results54 (.tmp rfl .nil) (fun w hw=>?_)
       exact ⟨z8l,ret1 rfl,trivial,hw.sub (.cons .here .nil)⟩
      ·replace h:=ite_f h zl7
       refine WC.skip ?_
       refine WX.a ?_
       refine WC.b ?_
       refine WC.a ?_
       refine WL.a (d:=62) rfl rfl rfl (q_fieldAddr fo_87_0 rfl rfl) ?_
       refine WL.a (d:=63) rfl rfl rfl (q_load1 oneT_26 rfl (rd_stb .h2 rfl)) ?_
       refine WL.a (d:=2) rfl rfl rfl (q_z rfl) ?_
       refine WL.nil ?_
       refine WX.a ?_
       refine WC.ret ?_
       obtain rfl:=Option.some.inj h
       refine WX.bpRet Tryz.results54 (.tmp rfl .nil) (fun w hw=>?_)
       exact ⟨z8l,ret1 rfl,trivial,hw.sub (.cons .here .nil)⟩
def m_calculus_search_points (zat : List (List z1)) (z4W : S41) (zfK : List (List z1)) (zcO : S41) (zau : List z2) : Option (Int × Int × Int × Int) :=
 some (z4W.fRate.fN,z4W.fRate.fD,z4W.fLatency.fN,z4W.fLatency.fD)
set_option maxRecDepth 20000 in
theorem w_calculus_search_points (Z : Zp)  (zcP : Option Addr) (zcQ : Nat) (zcR : Addr) (zl8 : Option Addr) (zl9 : Nat) (zcS : Addr) (zcT : Option Addr) (zcU : Nat) (zat : List (List z1)) (z4W : S41) (zfK : List (List z1)) (zcO : S41) (zau : List z2) (r : Int × Int × Int × Int) (w₀ : World) (hz : PZ [] w₀ Z)
  (zCM : ZS Z 1 (p23 Z) zcP zcQ zat)
  (zCN : ZS Z 1 (p23 Z) zl8 zl9 zfK)
  (zCO : ZC Z zcR [(.slice zl8 zfK.length zl9)])
  (zCP : ZC Z zcS [(.int .i64 zcO.fRate.fN),(.int .i64 zcO.fRate.fD),(.int .i64 zcO.fLatency.fN),(.int .i64 zcO.fLatency.fD)])
  (zCQ : ZS Z 2 (fun r x=>r = e40 x) zcT zcU zau)
  (h : m_calculus_search_points zat z4W zfK zcO zau = some r) :
  Calls Tryz.prog 55 #[(.agg #[(.slice zcP zat.length zcQ),(.int .i64 z4W.fRate.fN),(.int .i64 z4W.fRate.fD),(.int .i64 z4W.fLatency.fN),(.int .i64 z4W.fLatency.fD),(.func (.func 29) #[] #[(.pointer (some zcR)),(.pointer (some zcS))]),(.slice zcT zau.length zcU)])] w₀ fun e w'=>∃ zqy : Nat,e = .returned (.func (.func 78) #[] #[(.pointer (some ⟨zqy,0,none⟩))]) ∧ True ∧ Hp [] w₀ w' [stb zqy 67 [(.slice zcP zat.length zcQ),(.int .i64 r.1),(.int .i64 r.2.1),(.int .i64 r.2.2.1),(.int .i64 r.2.2.2),(.func (.func 29) #[] #[(.pointer (some zcR)),(.pointer (some zcS))]),(.slice zcT zau.length zcU)]]:=by
 unfold m_calculus_search_points at h
 refine Calls.ofWC (vs:=[(.agg #[(.slice zcP zat.length zcQ),(.int .i64 z4W.fRate.fN),(.int .i64 z4W.fRate.fD),(.int .i64 z4W.fLatency.fN),(.int .i64 z4W.fLatency.fD),(.func (.func 29) #[] #[(.pointer (some zcR)),(.pointer (some zcS))]),(.slice zcT zau.length zcU)])]) (pre:=[]) (env:=[(0,(.agg #[(.slice zcP zat.length zcQ),(.int .i64 z4W.fRate.fN),(.int .i64 z4W.fRate.fD),(.int .i64 z4W.fLatency.fN),(.int .i64 z4W.fLatency.fD),(.func (.func 29) #[] #[(.pointer (some zcR)),(.pointer (some zcS))]),(.slice zcT zau.length zcU)]))]) Tryz.func55 rfl Tryz.ntmps55 rfl (Hp.nil w₀ _) rfl ?_
 refine WC.b ?_
 refine WC.a ?_
 refine WL.new (dd:=1) rfl rfl rfl (e_box (cs:=[(.slice zcP zat.length zcQ),(.int .i64 z4W.fRate.fN),(.int .i64 z4W.fRate.fD),(.int .i64 z4W.fLatency.fN),(.int .i64 z4W.fLatency.fD),(.func (.func 29) #[] #[(.pointer (some zcR)),(.pointer (some zcS))]),(.slice zcT zau.length zcU)]) rfl rfl) ?_
 intro zwt _
 refine WL.a (d:=2) rfl rfl rfl (q_z rfl) ?_
 refine WL.nil ?_
 refine WX.a ?_
 refine WC.b ?_
 refine WC.a ?_
 refine WL.a (d:=3) rfl rfl rfl (q_makeFunc (Eos.caps (l:=[.tmp 1]) (.cons rfl .nil))) ?_
 refine WL.a (d:=2) rfl rfl rfl (q_z rfl) ?_
 refine WL.nil ?_
 refine WX.a ?_
 refine WC.ret ?_
 obtain rfl:=Option.some.inj h
 refine WX.bpRet Tryz.results55 (.tmp rfl .nil) (fun w hw=>?_)
 exact ⟨zwt,ret1 rfl,trivial,hw.sub (.cons .here .nil)⟩
def m_rat_Floor (z2S : z2) : Option Int :=
 (m_rat_Valid z2S).bind fun zla=>if !zla then some 0 else chk ((z2S.fD : Int) ≠ 0) (jp1 (fun (zbE : Int)=>some zbE) fun zhK=>chk ((z2S.fD : Int) ≠ 0) (if decide ((Int.tmod z2S.fN z2S.fD) < 0) then zhK (i64 ((i64 (Int.tdiv z2S.fN z2S.fD)) - 1)) else zhK (i64 (Int.tdiv z2S.fN z2S.fD))))
set_option maxRecDepth 20000 in
theorem w_rat_Floor (Z : Zp)   (z2S : z2) (r : Int) (w₀ : World) (hz : PZ [] w₀ Z)
  (h : m_rat_Floor z2S = some r) :
  Calls Tryz.prog 79 #[(.agg #[(.int .i64 z2S.fN),(.int .i64 z2S.fD)])] w₀ fun e w'=>e = .returned (.int .i64 r) ∧ Hp [] w₀ w' []:=by
 unfold m_rat_Floor at h
 refine Calls.ofWC (vs:=[(.agg #[(.int .i64 z2S.fN),(.int .i64 z2S.fD)])]) (pre:=[]) (env:=[(0,(.agg #[(.int .i64 z2S.fN),(.int .i64 z2S.fD)]))]) Tryz.func79 rfl Tryz.ntmps79 rfl (Hp.nil w₀ _) rfl ?_
 refine WC.b ?_
 refine WC.a ?_
 refine WL.new (dd:=1) rfl rfl rfl (e_box (cs:=[(.int .i64 z2S.fN),(.int .i64 z2S.fD)]) rfl rfl) ?_
 intro zhL _
 refine WL.a (d:=2) rfl rfl rfl (q_z rfl) ?_
 refine WL.nil ?_
 refine WX.a ?_
 refine WC.b ?_
 refine WC.b ?_
 obtain ⟨zla,zwu,h⟩:=z8 h
 refine WC.a ?_
 refine WL.a (d:=4) rfl rfl rfl (q_loadA (cs:=[(.int .i64 z2S.fN),(.int .i64 z2S.fD)]) aggT_40 rfl rfl (rd_all .here)) ?_
 refine WL.b (dd:=5) rfl rfl rfl (zi (l:=[.tmp 4]) Tryz.call44 (.cons rfl .nil)) (.nil : Sel [stb zhL 40 [(.int .i64 z2S.fN),(.int .i64 z2S.fD)]] [] [stb zhL 40 [(.int .i64 z2S.fN),(.int .i64 z2S.fD)]]) (fun w hw=>by have pz:=(hz.call hw (.nil : Sel [stb zhL 40 [(.int .i64 z2S.fN),(.int .i64 z2S.fD)]] [] [stb zhL 40 [(.int .i64 z2S.fN),(.int .i64 z2S.fD)]])); exact w_rat_Valid (Z:=_)  (z18:=z2S) (r:=zla) w pz  zwu) ?_
 refine WL.a (d:=6) rfl rfl rfl (q_not rfl) ?_
 refine WL.nil ?_
 refine WX.a ?_
 refine WC.cond rfl (fun zlb=>?_) (fun zlb=>?_)
 ·replace h:=ite_t h zlb
  refine WC.b ?_
  refine WC.a ?_
  refine WL.a (d:=2) rfl rfl rfl (q_z rfl) ?_
  refine WL.nil ?_
  refine WX.a ?_
  refine WC.ret ?_
  refine WX.thenRet ?_
  obtain rfl:=Option.some.inj h
  refine WX.bpRet Tryz.results79 (.tmp rfl .nil) (fun w hw=>?_)
  exact ⟨ret1 rfl,hw.sub .nil⟩
 ·replace h:=ite_f h zlb
  refine WC.skip ?_
  refine WX.a ?_
  refine WC.b ?_
  obtain ⟨zwv,h⟩:=chk_elim h
  refine WC.a ?_
  refine WL.a (d:=7) rfl rfl rfl (q_fieldAddr fo_40_0 rfl rfl) ?_
  refine WL.a (d:=8) rfl rfl rfl (q_load1 oneT_3 rfl (rd_stb .here rfl)) ?_
  refine WL.a (d:=9) rfl rfl rfl (q_fieldAddr fo_40_1 rfl rfl) ?_
  refine WL.a (d:=10) rfl rfl rfl (q_load1 oneT_3 rfl (rd_stb .here rfl)) ?_
  refine WL.a (d:=11) rfl rfl rfl (q_quo rfl rfl zwv rfl) ?_
  refine WL.a (d:=3) rfl rfl rfl (q_z rfl) ?_
  refine WL.nil ?_
  refine WX.a ?_
  obtain ⟨zhK,zww,h⟩:=jp1_elim h
  refine WC.seqMid1 (fun (zbE : Int)=>(zhK zbE = some r)) (fun (zbE : Int)=>[(3,(.int .i64 zbE))]) (fun (zbE : Int)=>[]) ?_ ?_
  ·skip
   refine WC.b ?_
   obtain ⟨zwx,h⟩:=chk_elim h
   refine WC.a ?_
   refine WL.a (d:=12) rfl rfl rfl (q_fieldAddr fo_40_0 rfl rfl) ?_
   refine WL.a (d:=13) rfl rfl rfl (q_load1 oneT_3 rfl (rd_stb .here rfl)) ?_
   refine WL.a (d:=14) rfl rfl rfl (q_fieldAddr fo_40_1 rfl rfl) ?_
   refine WL.a (d:=15) rfl rfl rfl (q_load1 oneT_3 rfl (rd_stb .here rfl)) ?_
   refine WL.a (d:=16) rfl rfl rfl (q_rem rfl rfl zwx rfl) ?_
   refine WL.a (d:=17) rfl rfl rfl (q_lss rfl rfl) ?_
   refine WL.nil ?_
   refine WX.a ?_
   refine WC.cond rfl (fun zlc=>?_) (fun zlc=>?_)
   ·replace h:=ite_t h zlc
    refine WC.a ?_
    refine WL.a (d:=18) rfl rfl rfl (q_m rfl) ?_
    refine WL.a (d:=19) rfl rfl rfl (q_sub rfl rfl rfl) ?_
    refine WL.a (d:=3) rfl rfl rfl (q_z rfl) ?_
    refine WL.nil ?_
    exact WX.mid (G:=Int) (i64 ((i64 (Int.tdiv z2S.fN z2S.fD)) - 1)) h (.cons rfl .nil) .nil
   ·replace h:=ite_f h zlc
    refine WC.skip ?_
    exact WX.mid (G:=Int) (i64 (Int.tdiv z2S.fN z2S.fD)) h (.cons rfl .nil) .nil
  ·rintro zbE h
   replace h:=(zww zbE).symm.trans h
   refine WC.b ?_
   refine WC.a ?_
   refine WL.a (d:=20) rfl rfl rfl (q_m rfl) ?_
   refine WL.a (d:=2) rfl rfl rfl (q_z rfl) ?_
   refine WL.nil ?_
   refine WX.a ?_
   refine WC.ret ?_
   obtain rfl:=Option.some.inj h
   refine WX.bpRet Tryz.results79 (.tmp rfl .nil) (fun w hw=>?_)
   exact ⟨ret1 rfl,hw.sub .nil⟩
def m_rat_Ceil (z2J : z2) : Option Int :=
 (m_rat_Valid z2J).bind fun zld=>if !zld then some 0 else (m_rat_Floor (⟨i64 (0 - z2J.fN),z2J.fD⟩ : z2)).bind fun zle=>some (i64 (0 - zle))
set_option maxRecDepth 20000 in
theorem w_rat_Ceil (Z : Zp)   (z2J : z2) (r : Int) (w₀ : World) (hz : PZ [] w₀ Z)
  (h : m_rat_Ceil z2J = some r) :
  Calls Tryz.prog 80 #[(.agg #[(.int .i64 z2J.fN),(.int .i64 z2J.fD)])] w₀ fun e w'=>e = .returned (.int .i64 r) ∧ Hp [] w₀ w' []:=by
 unfold m_rat_Ceil at h
 refine Calls.ofWC (vs:=[(.agg #[(.int .i64 z2J.fN),(.int .i64 z2J.fD)])]) (pre:=[]) (env:=[(0,(.agg #[(.int .i64 z2J.fN),(.int .i64 z2J.fD)]))]) Tryz.func80 rfl Tryz.ntmps80 rfl (Hp.nil w₀ _) rfl ?_
 refine WC.b ?_
 refine WC.a ?_
 refine WL.new (dd:=1) rfl rfl rfl (e_box (cs:=[(.int .i64 z2J.fN),(.int .i64 z2J.fD)]) rfl rfl) ?_
 intro zbF _
 refine WL.a (d:=2) rfl rfl rfl (q_z rfl) ?_
 refine WL.nil ?_
 refine WX.a ?_
 refine WC.b ?_
 refine WC.b ?_
 obtain ⟨zld,zwy,h⟩:=z8 h
 refine WC.a ?_
 refine WL.a (d:=3) rfl rfl rfl (q_loadA (cs:=[(.int .i64 z2J.fN),(.int .i64 z2J.fD)]) aggT_40 rfl rfl (rd_all .here)) ?_
 refine WL.b (dd:=4) rfl rfl rfl (zi (l:=[.tmp 3]) Tryz.call44 (.cons rfl .nil)) (.nil : Sel [stb zbF 40 [(.int .i64 z2J.fN),(.int .i64 z2J.fD)]] [] [stb zbF 40 [(.int .i64 z2J.fN),(.int .i64 z2J.fD)]]) (fun w hw=>by have pz:=(hz.call hw (.nil : Sel [stb zbF 40 [(.int .i64 z2J.fN),(.int .i64 z2J.fD)]] [] [stb zbF 40 [(.int .i64 z2J.fN),(.int .i64 z2J.fD)]])); exact w_rat_Valid (Z:=_)  (z18:=z2J) (r:=zld) w pz  zwy) ?_
 refine WL.a (d:=5) rfl rfl rfl (q_not rfl) ?_
 refine WL.nil ?_
 refine WX.a ?_
 refine WC.cond rfl (fun zlf=>?_) (fun zlf=>?_)
 ·replace h:=ite_t h zlf
  refine WC.b ?_
  refine WC.a ?_
  refine WL.a (d:=2) rfl rfl rfl (q_z rfl) ?_
  refine WL.nil ?_
  refine WX.a ?_
  refine WC.ret ?_
  refine WX.thenRet ?_
  obtain rfl:=Option.some.inj h
  refine WX.bpRet Tryz.results80 (.tmp rfl .nil) (fun w hw=>?_)
  exact ⟨ret1 rfl,hw.sub .nil⟩
 ·replace h:=ite_f h zlf
  refine WC.skip ?_
  refine WX.a ?_
  refine WC.b ?_
  obtain ⟨zle,zwz,h⟩:=z8 h
  refine WC.a ?_
  refine WL.a (d:=6) rfl rfl rfl (q_fieldAddr fo_40_0 rfl rfl) ?_
  refine WL.a (d:=7) rfl rfl rfl (q_load1 oneT_3 rfl (rd_stb .here rfl)) ?_
  refine WL.a (d:=8) rfl rfl rfl (q_neg rfl rfl) ?_
  refine WL.a (d:=9) rfl rfl rfl (q_fieldAddr fo_40_1 rfl rfl) ?_
  refine WL.a (d:=10) rfl rfl rfl (q_load1 oneT_3 rfl (rd_stb .here rfl)) ?_
  refine WL.a (d:=11) rfl rfl rfl (q_build (v:=(.agg #[(.int .i64 (i64 (0 - z2J.fN))),(.int .i64 z2J.fD)])) (Eos.parts (l:=[.tmp 8,.tmp 10]) (.cons rfl (.cons rfl .nil)) [0,1]) (fun _=>by kernel_rfl)) ?_
  refine WL.b (dd:=12) rfl rfl rfl (zi (l:=[.tmp 11]) Tryz.call79 (.cons rfl .nil)) (.nil : Sel [stb zbF 40 [(.int .i64 z2J.fN),(.int .i64 z2J.fD)]] [] [stb zbF 40 [(.int .i64 z2J.fN),(.int .i64 z2J.fD)]]) (fun w hw=>by have pz:=(hz.call hw (.nil : Sel [stb zbF 40 [(.int .i64 z2J.fN),(.int .i64 z2J.fD)]] [] [stb zbF 40 [(.int .i64 z2J.fN),(.int .i64 z2J.fD)]])); exact w_rat_Floor (Z:=_)  (z2S:=(⟨i64 (0 - z2J.fN),z2J.fD⟩ : z2)) (r:=zle) w pz  zwz) ?_
  refine WL.a (d:=13) rfl rfl rfl (q_neg rfl rfl) ?_
  refine WL.a (d:=2) rfl rfl rfl (q_z rfl) ?_
  refine WL.nil ?_
  refine WX.a ?_
  refine WC.ret ?_
  obtain rfl:=Option.some.inj h
  refine WX.bpRet Tryz.results80 (.tmp rfl .nil) (fun w hw=>?_)
  exact ⟨ret1 rfl,hw.sub .nil⟩
def m_calculus_search_points_1_L5 (zs : Type) (zu : List z2 × Int) (z49 : z2 → zs → Option (Bool × zs)) (zav : zs → Option zs) : Nat → Int → zs → Option zs
 | 0,_,_=>none
 | zlg + 1,z1n,z4E=>if decide (z1n < ((zu.1.length : Nat) : Int)) then chk ((0 : Int) ≤ z1n ∧ z1n < ((zu.1.length : Nat) : Int)) ((m_rat_Floor (⟨((nth zu.1 z1n).fN),((nth zu.1 z1n).fD)⟩ : z2)).bind fun zhM=>(m_calculus_whole zhM).bind fun zhN=>(z49 zhN z4E).bind fun z67=>(if !z67.1 then some (true,z67.2) else (m_rat_Ceil (⟨((nth zu.1 z1n).fN),((nth zu.1 z1n).fD)⟩ : z2)).bind fun zhO=>(m_calculus_whole zhO).bind fun zhP=>(z49 zhP z67.2).bind fun zfL=>some (!zfL.1,zfL.2)).bind fun zbG=>if zbG.1 then some zbG.2 else m_calculus_search_points_1_L5 zs zu z49 zav zlg (i64 (z1n + 1)) zbG.2) else zav z4E
theorem m_calculus_search_points_1_L5_fuel {n : Nat} {zs : Type} {zu : List z2 × Int} {z49 : z2 → zs → Option (Bool × zs)} {zav : zs → Option zs} {z1n : Int} {z4E : zs} {r : zs} (h : m_calculus_search_points_1_L5 zs zu z49 zav n z1n z4E = some r) : ∃ m,n = m + 1:=by
 cases n with
 | zero=>cases h
 | succ m=>exact ⟨m,rfl⟩
def m_calculus_search_points_1_L4 (zs : Type) (z4q : List (List z1)) (z49 : z2 → zs → Option (Bool × zs)) (zaw : zs → Option zs) : Nat → Int → zs → Option zs
 | 0,_,_=>none
 | zlh + 1,z5A,z68=>if decide (z5A < ((z4q.length : Nat) : Int)) then jp1 (fun (z9A : zs)=>m_calculus_search_points_1_L4 zs z4q z49 zaw zlh (i64 (z5A + 1)) z9A) fun zli=>chk ((0 : Int) ≤ z5A ∧ z5A < ((z4q.length : Nat) : Int)) ((m_curve_Breaks (nth z4q z5A)).bind fun zu=>jp1 (fun (z9B : zs)=>zli z9B) fun zav=>m_calculus_search_points_1_L5 zs zu z49 zav FUEL 0 z68) else zaw z68
theorem m_calculus_search_points_1_L4_fuel {n : Nat} {zs : Type} {z4q : List (List z1)} {z49 : z2 → zs → Option (Bool × zs)} {zaw : zs → Option zs} {z5A : Int} {z68 : zs} {r : zs} (h : m_calculus_search_points_1_L4 zs z4q z49 zaw n z5A z68 = some r) : ∃ m,n = m + 1:=by
 cases n with
 | zero=>cases h
 | succ m=>exact ⟨m,rfl⟩
def m_calculus_search_points_1_L6 (zs : Type) (z1e : List z2) (z49 : z2 → zs → Option (Bool × zs)) (zax : zs → Option zs) : Nat → Int → zs → Option zs
 | 0,_,_=>none
 | zlj + 1,z1o,z4F=>if decide (z1o < ((z1e.length : Nat) : Int)) then chk ((0 : Int) ≤ z1o ∧ z1o < ((z1e.length : Nat) : Int)) ((m_rat_Floor (⟨((nth z1e z1o).fN),((nth z1e z1o).fD)⟩ : z2)).bind fun zhQ=>(m_calculus_whole zhQ).bind fun zhR=>(z49 zhR z4F).bind fun z69=>(if !z69.1 then some (true,z69.2) else (m_rat_Ceil (⟨((nth z1e z1o).fN),((nth z1e z1o).fD)⟩ : z2)).bind fun zhS=>(m_calculus_whole zhS).bind fun zhT=>(z49 zhT z69.2).bind fun zfM=>some (!zfM.1,zfM.2)).bind fun zbH=>if zbH.1 then some zbH.2 else m_calculus_search_points_1_L6 zs z1e z49 zax zlj (i64 (z1o + 1)) zbH.2) else zax z4F
theorem m_calculus_search_points_1_L6_fuel {n : Nat} {zs : Type} {z1e : List z2} {z49 : z2 → zs → Option (Bool × zs)} {zax : zs → Option zs} {z1o : Int} {z4F : zs} {r : zs} (h : m_calculus_search_points_1_L6 zs z1e z49 zax n z1o z4F = some r) : ∃ m,n = m + 1:=by
 cases n with
 | zero=>cases h
 | succ m=>exact ⟨m,rfl⟩
def m_calculus_search_points_1 (zs : Type) (z49 : z2 → zs → Option (Bool × zs)) (s0_14112 : zs) (z4q : List (List z1)) (zcV : S41) (zfN : List (List z1)) (zcW : S41) (z1e : List z2) : Option zs :=
 (m_calculus_zero).bind fun zhU=>(z49 zhU s0_14112).bind fun zcX=>if !zcX.1 then some zcX.2 else jp1 (fun (z9C : zs)=>jp1 (fun (zay : zs)=>some zay) fun zax=>m_calculus_search_points_1_L6 zs z1e z49 zax FUEL 0 z9C) fun zaw=>m_calculus_search_points_1_L4 zs z4q z49 zaw FUEL 0 zcX.2
set_option maxRecDepth 20000 in
theorem w_calculus_search_points_1 (Z : Zp) (zs : Type) (z7U : Nat) (z2p : Type) (z1p : z2p → zs → Asrt) (z7V : z2p → zs → Prop) (z7E : z2p) (z95 : Addr) (zbI : Option Addr) (zbJ : Nat) (zlk : Addr) (zll : Option Addr) (zlm : Nat) (zln : Addr) (zfO : Option Addr) (zfP : Nat) (z49 : z2 → zs → Option (Bool × zs)) (s0_14112 : zs) (z4q : List (List z1)) (zcV : S41) (zfN : List (List z1)) (zcW : S41) (z1e : List z2) (r : zs) (w₀ : World) (hz : PZ (fps [z1p z7E s0_14112]) w₀ Z)
  (zfQ : YieldP Tryz.prog Z z7U (α:=z2) (σ:=zs) (G:=z2p) (H:=Unit) (fun h x=>[(.agg #[(.int .i64 x.fN),(.int .i64 x.fD)])]) (fun h x=>[]) z49 z1p z7V)
  (zwA : z7V z7E s0_14112)
  (zwB : ZS Z 1 (p23 Z) zbI zbJ z4q)
  (zCR : ZS Z 1 (p23 Z) zll zlm zfN)
  (zCS : ZC Z zlk [(.slice zll zfN.length zlm)])
  (zCT : ZC Z zln [(.int .i64 zcW.fRate.fN),(.int .i64 zcW.fRate.fD),(.int .i64 zcW.fLatency.fN),(.int .i64 zcW.fLatency.fD)])
  (zwC : ZS Z 2 (fun r x=>r = e40 x) zfO zfP z1e)
  (zqz : ZC Z z95 [(.slice zbI z4q.length zbJ),(.int .i64 zcV.fRate.fN),(.int .i64 zcV.fRate.fD),(.int .i64 zcV.fLatency.fN),(.int .i64 zcV.fLatency.fD),(.func (.func 29) #[] #[(.pointer (some zlk)),(.pointer (some zln))]),(.slice zfO z1e.length zfP)])
  (h : m_calculus_search_points_1 zs z49 s0_14112 z4q zcV zfN zcW z1e = some r)
  (hown : Hp (fps [z1p z7E s0_14112]) w₀ w₀ [z1p z7E s0_14112]) :
  Calls Tryz.prog 78 #[(.func (.yield z7U) #[] #[]),(.pointer (some z95))] w₀ fun e w'=>∃ Zn : Zp,∃ zqA : z2p,e = .returned (.tuple #[]) ∧ (z7V zqA r) ∧ Hp (fps [z1p z7E s0_14112]) w₀ w' [fz Zn,z1p zqA r]:=by
 unfold m_calculus_search_points_1 at h
 refine Calls.ofWC (vs:=[(.func (.yield z7U) #[] #[]),(.pointer (some z95))]) (pre:=[z1p z7E s0_14112]) (env:=[(0,(.func (.yield z7U) #[] #[])),(1,(.pointer (some z95)))]) Tryz.func78 rfl Tryz.ntmps78 rfl (hown) rfl ?_
 refine WC.pool ?_
 refine WC.b ?_
 refine WC.b ?_
 obtain ⟨zhU,zwD,h⟩:=z8 h
 obtain ⟨zcX,zwE,h⟩:=z8 h
 refine WC.a ?_
 refine WL.a (d:=11) rfl rfl rfl (q_m rfl) ?_
 refine WL.b (dd:=12) rfl rfl rfl (zi (l:=[]) Tryz.call52 .nil) (.nil : Sel [fz [],z1p z7E s0_14112] [] [fz [],z1p z7E s0_14112]) (fun w hw=>by have pz:=(hz.call2 hw (.nil : Sel [fz [],z1p z7E s0_14112] [] [fz [],z1p z7E s0_14112]) .here); exact w_calculus_zero (Z:=_)   (r:=zhU) w pz  zwD) ?_
 refine WL.yield (dd:=13) (x:=zhU) (h:=()) (g:=z7E) (s:=s0_14112) (b:=zcX.1) (s':=zcX.2) zfQ rfl rfl rfl (.cons rfl .nil) ((.cons .h1 .nil) : Sel _ [z1p z7E s0_14112] _) zwE zwA (fun w hw=>hz.call hw ((.cons .h1 .nil) : Sel _ [z1p z7E s0_14112] _)) ?_
 intro zqB zqC
 refine WL.a (d:=14) rfl rfl rfl (q_not rfl) ?_
 refine WL.nil ?_
 refine WX.a ?_
 refine WC.cond rfl (fun zlo=>?_) (fun zlo=>?_)
 ·replace h:=ite_t h zlo
  refine WC.ret ?_
  refine WX.thenRet ?_
  obtain rfl:=Option.some.inj h
  refine WX.bpRet Tryz.results78 .nil (fun w hw=>?_)
  exact ⟨[],zqB,ret0,zqC,hw.sub (.cons .h1 (.cons .here .nil))⟩
 ·replace h:=ite_f h zlo
  refine WC.skip ?_
  refine WX.a ?_
  obtain ⟨zaw,zwF,h⟩:=jp1_elim h
  refine WC.seqMid3 (fun (z9C : zs) (z4a : Zp) (zej : z2p)=>(zaw z9C = some r) ∧ (Zle (Z ++ []) (Z ++ z4a)) ∧ (z7V zej z9C)) (fun (z9C : zs) (z4a : Zp) (zej : z2p)=>[(0,(.func (.yield z7U) #[] #[])),(1,(.pointer (some z95)))]) (fun (z9C : zs) (z4a : Zp) (zej : z2p)=>[fz z4a,z1p zej z9C]) ?_ ?_
  ·skip
   refine WC.b ?_
   refine WC.a ?_
   refine WL.a (d:=15) rfl rfl rfl (q_fieldAddr fo_67_0 rfl rfl) ?_
   refine WL.a (d:=16) rfl rfl rfl (q_load1 oneT_38 rfl (rd_zAt (hz.pv2 .h1) (zqz.mono (Zle.left _ _)) rfl)) ?_
   refine WL.a (d:=17) rfl rfl rfl (q_len Tryz.underlying38 rfl) ?_
   refine WL.a (d:=18) rfl rfl rfl (q_m rfl) ?_
   refine WL.nil ?_
   refine WX.a ?_
   refine WC.block ?_
   refine WC.loop5 (fun (zek : Nat) (z5A : Int) (z68 : zs) (z38 : Zp) (z8n : z2p)=>(m_calculus_search_points_1_L4 zs z4q z49 zaw zek z5A z68 = some r) ∧ (Zle (Z ++ []) (Z ++ z38)) ∧ (z7V z8n z68)) (fun (zek : Nat) (z5A : Int) (z68 : zs) (z38 : Zp) (z8n : z2p)=>[(0,(.func (.yield z7U) #[] #[])),(1,(.pointer (some z95))),(16,(.slice zbI z4q.length zbJ)),(17,(.int .i64 ((z4q.length : Nat) : Int))),(18,(.int .i64 z5A))]) (fun (zek : Nat) (z5A : Int) (z68 : zs) (z38 : Zp) (z8n : z2p)=>[fz z38,z1p z8n z68]) (fun (zek : Nat) (z5A : Int) (z68 : zs) (z38 : Zp) (z8n : z2p)=>zek) ⟨FUEL,0,zcX.2,[],zqB⟩ ⟨h,(Zle.refl _),zqC⟩ (.cons rfl (.cons rfl (.cons rfl (.cons rfl (.cons rfl .nil))))) (.cons .h1 (.cons .here .nil)) ?_
   rintro zek z5A z68 z38 z8n ⟨h,zhV,zqD⟩
   obtain ⟨zlh,rfl⟩:=m_calculus_search_points_1_L4_fuel h
   rw [m_calculus_search_points_1_L4] at h
   refine WC.b ?_
   refine WC.a ?_
   refine WL.a (d:=19) rfl rfl rfl (q_lss rfl rfl) ?_
   refine WL.nil ?_
   refine WX.a ?_
   refine WC.b ?_
   refine WC.cond rfl (fun zlp=>?_) (fun zlp=>?_)
   ·replace h:=ite_t h zlp
    refine WC.skip ?_
    refine WX.a ?_
    obtain ⟨zli,zwG,h⟩:=jp1_elim h
    refine WC.seqMid3 (fun (z9A : zs) (zel : Zp) (zem : z2p)=>(zli z9A = some r) ∧ (Zle (Z ++ z38) (Z ++ zel)) ∧ (z7V zem z9A)) (fun (z9A : zs) (zel : Zp) (zem : z2p)=>[(0,(.func (.yield z7U) #[] #[])),(1,(.pointer (some z95))),(16,(.slice zbI z4q.length zbJ)),(17,(.int .i64 ((z4q.length : Nat) : Int))),(18,(.int .i64 z5A))]) (fun (z9A : zs) (zel : Zp) (zem : z2p)=>[fz zel,z1p zem z9A]) ?_ ?_
    ·skip
     refine WC.block ?_
     refine WC.b ?_
     obtain ⟨zwH,h⟩:=chk_elim h
     refine WC.a ?_
     refine WL.znth (dd:=20) rfl rfl (Z:=(Z ++ z38)) (Pr:=(p23 (Z ++ z38))) elT_38 rfl rfl ((zwB.mono ((Zle.left _ _).trans zhV)).weak (fun _ _ h=>p23_mono ((Zle.left _ _).trans zhV) h)) zwH ?_
     rintro zCU zCV zwI zCW ⟨zwJ,zwK,rfl,zwL⟩
     refine WL.a (d:=21) rfl rfl rfl (q_load1 oneT_23 rfl (rd_z (hz.pv2 .here) zwI rfl)) ?_
     refine WL.a (d:=4) rfl rfl rfl (q_z rfl) ?_
     refine WL.nil ?_
     refine WX.a ?_
     refine WC.b ?_
     obtain ⟨zu,zwM,h⟩:=z8 h
     refine WC.a ?_
     refine WL.a (d:=23) rfl rfl rfl (q_m rfl) ?_
     refine WL.enter3 (dd:=24) rfl rfl rfl (zi (l:=[.tmp 23]) Tryz.call76 (.cons rfl .nil)) (.nil : Sel [fz z38,z1p z8n z68] [] [fz z38,z1p z8n z68]) (fun w hw=>by have pz:=(hz.call2 hw (.nil : Sel [fz z38,z1p z8n z68] [] [fz z38,z1p z8n z68]) .here); exact w_curve_Breaks (Z:=_) (z9u:=zwJ) (z9v:=zwK) (z7B:=(nth z4q z5A)) (r:=zu) w pz zwL zwM) ?_
     rintro z5w zwN zwO _
     refine WL.merge .here .h1 ?_
     refine WL.a (d:=22) rfl rfl rfl (q_m rfl) ?_
     refine WL.a (d:=25) rfl rfl rfl (q_extract rfl rfl) ?_
     refine WL.a (d:=26) rfl rfl rfl (q_extract rfl rfl) ?_
     refine WL.a (d:=5) rfl rfl rfl (q_z rfl) ?_
     refine WL.a (d:=6) rfl rfl rfl (q_z rfl) ?_
     refine WL.nil ?_
     refine WX.a ?_
     refine WC.b ?_
     refine WC.a ?_
     refine WL.a (d:=27) rfl rfl rfl (q_m rfl) ?_
     refine WL.a (d:=28) rfl rfl rfl (q_len Tryz.underlying65 rfl) ?_
     refine WL.a (d:=29) rfl rfl rfl (q_m rfl) ?_
     refine WL.nil ?_
     refine WX.a ?_
     obtain ⟨zav,zwP,h⟩:=jp1_elim h
     refine WC.mid2 (fun (z9B : zs) (zen : z2p)=>(zav z9B = some r) ∧ (z7V zen z9B)) (fun (z9B : zs) (zen : z2p)=>[(0,(.func (.yield z7U) #[] #[])),(1,(.pointer (some z95))),(16,(.slice zbI z4q.length zbJ)),(17,(.int .i64 ((z4q.length : Nat) : Int))),(18,(.int .i64 z5A))]) (fun (z9B : zs) (zen : z2p)=>[fz (z38 ++ z5w),z1p zen z9B]) ?_ ?_
     ·skip
      refine WC.block ?_
      refine WC.loop6 (fun (zeo : Nat) (z1n : Int) (z4E : zs) (zep : Option Addr) (z4r : Nat) (z6a : z2p)=>(m_calculus_search_points_1_L5 zs zu z49 zav zeo z1n z4E = some r) ∧ (z7V z6a z4E)) (fun (zeo : Nat) (z1n : Int) (z4E : zs) (zep : Option Addr) (z4r : Nat) (z6a : z2p)=>[(0,(.func (.yield z7U) #[] #[])),(1,(.pointer (some z95))),(16,(.slice zbI z4q.length zbJ)),(17,(.int .i64 ((z4q.length : Nat) : Int))),(18,(.int .i64 z5A)),(27,(.slice zep zu.1.length z4r)),(28,(.int .i64 ((zu.1.length : Nat) : Int))),(29,(.int .i64 z1n))]) (fun (zeo : Nat) (z1n : Int) (z4E : zs) (zep : Option Addr) (z4r : Nat) (z6a : z2p)=>[fz (z38 ++ z5w),row (.slice zep zu.1.length z4r) 40 2 (zu.1.flatMap e40),z1p z6a z4E]) (fun (zeo : Nat) (z1n : Int) (z4E : zs) (zep : Option Addr) (z4r : Nat) (z6a : z2p)=>zeo) ⟨FUEL,0,z68,zwN,zwO,z8n⟩ ⟨h,zqD⟩ (.cons rfl (.cons rfl (.cons rfl (.cons rfl (.cons rfl (.cons rfl (.cons rfl (.cons rfl .nil)))))))) (.cons .here (.cons .here (.cons .here .nil))) ?_
      rintro zeo z1n z4E zep z4r z6a ⟨h,zqE⟩
      obtain ⟨zlg,rfl⟩:=m_calculus_search_points_1_L5_fuel h
      rw [m_calculus_search_points_1_L5] at h
      refine WC.b ?_
      refine WC.a ?_
      refine WL.a (d:=30) rfl rfl rfl (q_lss rfl rfl) ?_
      refine WL.nil ?_
      refine WX.a ?_
      refine WC.b ?_
      refine WC.cond rfl (fun zlq=>?_) (fun zlq=>?_)
      ·replace h:=ite_t h zlq
       refine WC.skip ?_
       refine WX.a ?_
       refine WC.b ?_
       refine WC.block ?_
       refine WC.b ?_
       obtain ⟨zfR,h⟩:=chk_elim h
       refine WC.a ?_
       refine WL.know (fun w hw=>Hp.expose .h1 hw (by intro hz'; have:=zfR; rw [hz'] at this; omega)) ?_
       rintro ⟨z5O,rfl⟩
       refine WL.a (d:=31) rfl rfl rfl (q_indexAddr elT_65 rfl rfl zfR.1 zfR.2 rowAdd) ?_
       refine WL.a (d:=32) rfl rfl rfl (q_loadA (cs:=(e40 (nth zu.1 z1n))) aggT_40 rfl rfl (rd_rows .h1 (flat_rd (enc:=e40) (l:=zu.1) (i:=z1n) (sz:=2) (fun _=>rfl) zfR.1 zfR.2))) ?_
       refine WL.new (dd:=8) rfl rfl rfl (e_alloc (cs:=[(.int .i64 0),(.int .i64 0)]) zeroT_40 rfl) ?_
       intro z6E _
       refine WL.eff0 rfl rfl (e_store (vs:=[(.int .i64 ((nth zu.1 z1n).fN)),(.int .i64 ((nth zu.1 z1n).fD))]) (ds:=[(.int .i64 ((nth zu.1 z1n).fN)),(.int .i64 ((nth zu.1 z1n).fD))]) sizT_40 rfl rfl rfl rfl (oc_cons rfl (oc_cons rfl oc_nil)) .here (Nat.le_of_ble_eq_true rfl) rfl) ?_
       refine WL.nil ?_
       refine WX.a ?_
       refine WC.b ?_
       obtain ⟨zhM,zwQ,h⟩:=z8 h
       obtain ⟨zhN,zwR,h⟩:=z8 h
       obtain ⟨z67,zwS,h⟩:=z8 h
       obtain ⟨zbG,zqF,h⟩:=z8 h
       refine WC.a ?_
       refine WL.a (d:=33) rfl rfl rfl (q_m rfl) ?_
       refine WL.a (d:=34) rfl rfl rfl (q_loadA (cs:=[(.int .i64 ((nth zu.1 z1n).fN)),(.int .i64 ((nth zu.1 z1n).fD))]) aggT_40 rfl rfl (rd_all .here)) ?_
       refine WL.b (dd:=35) rfl rfl rfl (zi (l:=[.tmp 34]) Tryz.call79 (.cons rfl .nil)) (.nil : Sel [stb z6E 40 [(.int .i64 ((nth zu.1 z1n).fN)),(.int .i64 ((nth zu.1 z1n).fD))],fz (z38 ++ z5w),row (.slice (some ⟨z5O,0,none⟩) zu.1.length z4r) 40 2 (zu.1.flatMap e40),z1p z6a z4E] [] [stb z6E 40 [(.int .i64 ((nth zu.1 z1n).fN)),(.int .i64 ((nth zu.1 z1n).fD))],fz (z38 ++ z5w),row (.slice (some ⟨z5O,0,none⟩) zu.1.length z4r) 40 2 (zu.1.flatMap e40),z1p z6a z4E]) (fun w hw=>by have pz:=(hz.call2 hw (.nil : Sel [stb z6E 40 [(.int .i64 ((nth zu.1 z1n).fN)),(.int .i64 ((nth zu.1 z1n).fD))],fz (z38 ++ z5w),row (.slice (some ⟨z5O,0,none⟩) zu.1.length z4r) 40 2 (zu.1.flatMap e40),z1p z6a z4E] [] [stb z6E 40 [(.int .i64 ((nth zu.1 z1n).fN)),(.int .i64 ((nth zu.1 z1n).fD))],fz (z38 ++ z5w),row (.slice (some ⟨z5O,0,none⟩) zu.1.length z4r) 40 2 (zu.1.flatMap e40),z1p z6a z4E]) .h1); exact w_rat_Floor (Z:=_)  (z2S:=(⟨((nth zu.1 z1n).fN),((nth zu.1 z1n).fD)⟩ : z2)) (r:=zhM) w pz  zwQ) ?_
       refine WL.b (dd:=36) rfl rfl rfl (zi (l:=[.tmp 35]) Tryz.call68 (.cons rfl .nil)) (.nil : Sel [stb z6E 40 [(.int .i64 ((nth zu.1 z1n).fN)),(.int .i64 ((nth zu.1 z1n).fD))],fz (z38 ++ z5w),row (.slice (some ⟨z5O,0,none⟩) zu.1.length z4r) 40 2 (zu.1.flatMap e40),z1p z6a z4E] [] [stb z6E 40 [(.int .i64 ((nth zu.1 z1n).fN)),(.int .i64 ((nth zu.1 z1n).fD))],fz (z38 ++ z5w),row (.slice (some ⟨z5O,0,none⟩) zu.1.length z4r) 40 2 (zu.1.flatMap e40),z1p z6a z4E]) (fun w hw=>by have pz:=(hz.call2 hw (.nil : Sel [stb z6E 40 [(.int .i64 ((nth zu.1 z1n).fN)),(.int .i64 ((nth zu.1 z1n).fD))],fz (z38 ++ z5w),row (.slice (some ⟨z5O,0,none⟩) zu.1.length z4r) 40 2 (zu.1.flatMap e40),z1p z6a z4E] [] [stb z6E 40 [(.int .i64 ((nth zu.1 z1n).fN)),(.int .i64 ((nth zu.1 z1n).fD))],fz (z38 ++ z5w),row (.slice (some ⟨z5O,0,none⟩) zu.1.length z4r) 40 2 (zu.1.flatMap e40),z1p z6a z4E]) .h1); exact w_calculus_whole (Z:=_)  (z64:=zhM) (r:=zhN) w pz  zwR) ?_
       refine WL.yield (dd:=37) (x:=zhN) (h:=()) (g:=z6a) (s:=z4E) (b:=z67.1) (s':=z67.2) zfQ rfl rfl rfl (.cons rfl .nil) ((.cons .h3 .nil) : Sel _ [z1p z6a z4E] _) zwS zqE (fun w hw=>hz.call hw ((.cons .h3 .nil) : Sel _ [z1p z6a z4E] _)) ?_
       intro z8o zqG
       refine WL.a (d:=38) rfl rfl rfl (q_not rfl) ?_
       refine WL.a (d:=39) rfl rfl rfl (q_m rfl) ?_
       refine WL.cut1 (fun (zcY : z2p)=>z7V zcY zbG.2) (fun (zcY : z2p)=>[(0,(.func (.yield z7U) #[] #[])),(1,(.pointer (some z95))),(16,(.slice zbI z4q.length zbJ)),(17,(.int .i64 ((z4q.length : Nat) : Int))),(18,(.int .i64 z5A)),(27,(.slice (some ⟨z5O,0,none⟩) zu.1.length z4r)),(28,(.int .i64 ((zu.1.length : Nat) : Int))),(29,(.int .i64 z1n)),(46,(.bool zbG.1))]) (fun (zcY : z2p)=>[z1p zcY zbG.2,stb z6E 40 [(.int .i64 ((nth zu.1 z1n).fN)),(.int .i64 ((nth zu.1 z1n).fD))],fz (z38 ++ z5w),row (.slice (some ⟨z5O,0,none⟩) zu.1.length z4r) 40 2 (zu.1.flatMap e40)]) 7 ?_ (fun zcY zqH=>?_)
       ·rcases Bool.eq_false_or_eq_true (!z67.1) with hb' | hb'
        ·have zqI:=hb'; clear hb'
         have zlr:=ite_t zqF zqI
         replace zlr:=Option.some.inj zlr
         refine WL.pin (i:=39) rfl zqI ?_
         refine WL.e rfl rfl rfl ?_
         refine WL.e rfl rfl rfl ?_
         refine WL.e rfl rfl rfl ?_
         refine WL.e rfl rfl rfl ?_
         refine WL.e rfl rfl rfl ?_
         refine WL.e rfl rfl rfl ?_
         refine WL.a (d:=46) rfl rfl rfl (q_pickT rfl rfl) ?_
         subst zlr
         exact WL.cutEnd z8o zqG (.cons rfl (.cons rfl (.cons rfl (.cons rfl (.cons rfl (.cons rfl (.cons rfl (.cons rfl (.cons rfl .nil))))))))) (.cons .here (.cons .here (.cons .here (.cons .here .nil))))
        ·have zqJ:=hb'; clear hb'
         have zaz:=ite_f zqF zqJ
         obtain ⟨zhO,zwT,zaz⟩:=z8 zaz
         obtain ⟨zhP,zwU,zaz⟩:=z8 zaz
         obtain ⟨zfL,zwV,zaz⟩:=z8 zaz
         replace zaz:=Option.some.inj zaz
         refine WL.pin (i:=39) rfl zqJ ?_
         refine WL.a (d:=40) rfl rfl rfl (q_m rfl) ?_
         refine WL.a (d:=41) rfl rfl rfl (q_loadA (cs:=[(.int .i64 ((nth zu.1 z1n).fN)),(.int .i64 ((nth zu.1 z1n).fD))]) aggT_40 rfl rfl (rd_all .h1)) ?_
         refine WL.b (dd:=42) rfl rfl rfl (zi (l:=[.tmp 41]) Tryz.call80 (.cons rfl .nil)) (.nil : Sel [z1p z8o z67.2,stb z6E 40 [(.int .i64 ((nth zu.1 z1n).fN)),(.int .i64 ((nth zu.1 z1n).fD))],fz (z38 ++ z5w),row (.slice (some ⟨z5O,0,none⟩) zu.1.length z4r) 40 2 (zu.1.flatMap e40)] [] [z1p z8o z67.2,stb z6E 40 [(.int .i64 ((nth zu.1 z1n).fN)),(.int .i64 ((nth zu.1 z1n).fD))],fz (z38 ++ z5w),row (.slice (some ⟨z5O,0,none⟩) zu.1.length z4r) 40 2 (zu.1.flatMap e40)]) (fun w hw=>by have pz:=(hz.call2 hw (.nil : Sel [z1p z8o z67.2,stb z6E 40 [(.int .i64 ((nth zu.1 z1n).fN)),(.int .i64 ((nth zu.1 z1n).fD))],fz (z38 ++ z5w),row (.slice (some ⟨z5O,0,none⟩) zu.1.length z4r) 40 2 (zu.1.flatMap e40)] [] [z1p z8o z67.2,stb z6E 40 [(.int .i64 ((nth zu.1 z1n).fN)),(.int .i64 ((nth zu.1 z1n).fD))],fz (z38 ++ z5w),row (.slice (some ⟨z5O,0,none⟩) zu.1.length z4r) 40 2 (zu.1.flatMap e40)]) .h2); exact w_rat_Ceil (Z:=_)  (z2J:=(⟨((nth zu.1 z1n).fN),((nth zu.1 z1n).fD)⟩ : z2)) (r:=zhO) w pz  zwT) ?_
         refine WL.b (dd:=43) rfl rfl rfl (zi (l:=[.tmp 42]) Tryz.call68 (.cons rfl .nil)) (.nil : Sel [z1p z8o z67.2,stb z6E 40 [(.int .i64 ((nth zu.1 z1n).fN)),(.int .i64 ((nth zu.1 z1n).fD))],fz (z38 ++ z5w),row (.slice (some ⟨z5O,0,none⟩) zu.1.length z4r) 40 2 (zu.1.flatMap e40)] [] [z1p z8o z67.2,stb z6E 40 [(.int .i64 ((nth zu.1 z1n).fN)),(.int .i64 ((nth zu.1 z1n).fD))],fz (z38 ++ z5w),row (.slice (some ⟨z5O,0,none⟩) zu.1.length z4r) 40 2 (zu.1.flatMap e40)]) (fun w hw=>by have pz:=(hz.call2 hw (.nil : Sel [z1p z8o z67.2,stb z6E 40 [(.int .i64 ((nth zu.1 z1n).fN)),(.int .i64 ((nth zu.1 z1n).fD))],fz (z38 ++ z5w),row (.slice (some ⟨z5O,0,none⟩) zu.1.length z4r) 40 2 (zu.1.flatMap e40)] [] [z1p z8o z67.2,stb z6E 40 [(.int .i64 ((nth zu.1 z1n).fN)),(.int .i64 ((nth zu.1 z1n).fD))],fz (z38 ++ z5w),row (.slice (some ⟨z5O,0,none⟩) zu.1.length z4r) 40 2 (zu.1.flatMap e40)]) .h2); exact w_calculus_whole (Z:=_)  (z64:=zhO) (r:=zhP) w pz  zwU) ?_
         refine WL.yield (dd:=44) (x:=zhP) (h:=()) (g:=z8o) (s:=z67.2) (b:=zfL.1) (s':=zfL.2) zfQ rfl rfl rfl (.cons rfl .nil) ((.cons .here .nil) : Sel _ [z1p z8o z67.2] _) zwV zqG (fun w hw=>hz.call hw ((.cons .here .nil) : Sel _ [z1p z8o z67.2] _)) ?_
         intro zwW zwX
         refine WL.a (d:=45) rfl rfl rfl (q_not rfl) ?_
         refine WL.a (d:=46) rfl rfl rfl (q_pickF rfl rfl) ?_
         subst zaz
         exact WL.cutEnd zwW zwX (.cons rfl (.cons rfl (.cons rfl (.cons rfl (.cons rfl (.cons rfl (.cons rfl (.cons rfl (.cons rfl .nil))))))))) (.cons .here (.cons .here (.cons .here (.cons .here .nil))))
       ·skip
        refine WL.nil ?_
        refine WX.a ?_
        refine WC.cond rfl (fun zls=>?_) (fun zls=>?_)
        ·replace h:=ite_t h zls
         refine WC.ret ?_
         refine WX.blockRet ?_
         refine WX.thenRet ?_
         refine WX.thenRet ?_
         refine WX.blockRet ?_
         refine WX.thenRet ?_
         refine WX.blockRet ?_
         refine WX.thenRet ?_
         refine WX.thenRet ?_
         refine WX.blockRet ?_
         refine WX.thenRet ?_
         obtain rfl:=Option.some.inj h
         refine WX.bpRet Tryz.results78 .nil (fun w hw=>?_)
         exact ⟨(z38 ++ z5w),zcY,ret0,zqH,hw.sub (.cons .h2 (.cons .here .nil))⟩
        ·replace h:=ite_f h zls
         refine WC.skip ?_
         refine WX.blockNormal ?_
         refine WX.a ?_
         refine WC.a ?_
         refine WL.a (d:=47) rfl rfl rfl (q_add rfl rfl rfl) ?_
         refine WL.a (d:=29) rfl rfl rfl (q_m rfl) ?_
         refine WL.nil ?_
         exact WX.round (G:=Nat × Int × zs × Option Addr × Nat × z2p) ⟨zlg,(i64 (z1n + 1)),zbG.2,(some ⟨z5O,0,none⟩),z4r,zcY⟩ ⟨h,zqH⟩ (Nat.lt_succ_self _) (.cons rfl (.cons rfl (.cons rfl (.cons rfl (.cons rfl (.cons rfl (.cons rfl (.cons rfl .nil)))))))) (.cons .h2 (.cons .h2 (.cons .here .nil)))
      ·replace h:=ite_f h zlq
       refine WC.exit ?_
       refine WX.thenExit ?_
       refine WX.thenExit ?_
       refine WX.blockHit ?_
       exact WX.mid (G:=zs × z2p) ⟨z4E,z6a⟩ ⟨h,zqE⟩ (.cons rfl (.cons rfl (.cons rfl (.cons rfl (.cons rfl .nil))))) (.cons .here (.cons .h1 .nil))
     ·rintro z9B zen ⟨h,zwY⟩
      replace h:=(zwP z9B).symm.trans h
      refine WX.blockNormal ?_
      exact WX.mid (G:=zs × Zp × z2p) ⟨z9B,(z38 ++ z5w),zen⟩ ⟨h,((Zle.left _ _).trans (Zle.assoc _ _ _)),zwY⟩ (.cons rfl (.cons rfl (.cons rfl (.cons rfl (.cons rfl .nil))))) (.cons .here (.cons .here .nil))
    ·rintro z9A zel zem ⟨h,zwZ,zx0⟩
     replace h:=(zwG z9A).symm.trans h
     refine WC.a ?_
     refine WL.a (d:=48) rfl rfl rfl (q_add rfl rfl rfl) ?_
     refine WL.a (d:=18) rfl rfl rfl (q_m rfl) ?_
     refine WL.nil ?_
     exact WX.round (G:=Nat × Int × zs × Zp × z2p) ⟨zlh,(i64 (z5A + 1)),z9A,zel,zem⟩ ⟨h,(zhV.trans zwZ),zx0⟩ (Nat.lt_succ_self _) (.cons rfl (.cons rfl (.cons rfl (.cons rfl (.cons rfl .nil))))) (.cons .here (.cons .here .nil))
   ·replace h:=ite_f h zlp
    refine WC.exit ?_
    refine WX.thenExit ?_
    refine WX.thenExit ?_
    refine WX.blockHit ?_
    exact WX.mid (G:=zs × Zp × z2p) ⟨z68,z38,z8n⟩ ⟨h,zhV,zqD⟩ (.cons rfl (.cons rfl .nil)) (.cons .here (.cons .here .nil))
  ·rintro z9C z4a zej ⟨h,zqK,zx1⟩
   replace h:=(zwF z9C).symm.trans h
   refine WC.b ?_
   refine WC.a ?_
   refine WL.a (d:=49) rfl rfl rfl (q_fieldAddr fo_67_3 rfl rfl) ?_
   refine WL.a (d:=50) rfl rfl rfl (q_load1 oneT_65 rfl (rd_zAt (hz.pv2 .here) (zqz.mono ((Zle.left _ _).trans zqK)) rfl)) ?_
   refine WL.a (d:=51) rfl rfl rfl (q_len Tryz.underlying65 rfl) ?_
   refine WL.a (d:=52) rfl rfl rfl (q_m rfl) ?_
   refine WL.nil ?_
   refine WX.a ?_
   obtain ⟨zax,zx2,h⟩:=jp1_elim h
   refine WC.mid2 (fun (zay : zs) (zeq : z2p)=>(zax zay = some r) ∧ (z7V zeq zay)) (fun (zay : zs) (zeq : z2p)=>[]) (fun (zay : zs) (zeq : z2p)=>[fz z4a,z1p zeq zay]) ?_ ?_
   ·skip
    refine WC.block ?_
    refine WC.loop4 (fun (zer : Nat) (z1o : Int) (z4F : zs) (z6b : z2p)=>(m_calculus_search_points_1_L6 zs z1e z49 zax zer z1o z4F = some r) ∧ (z7V z6b z4F)) (fun (zer : Nat) (z1o : Int) (z4F : zs) (z6b : z2p)=>[(0,(.func (.yield z7U) #[] #[])),(50,(.slice zfO z1e.length zfP)),(51,(.int .i64 ((z1e.length : Nat) : Int))),(52,(.int .i64 z1o))]) (fun (zer : Nat) (z1o : Int) (z4F : zs) (z6b : z2p)=>[fz z4a,z1p z6b z4F]) (fun (zer : Nat) (z1o : Int) (z4F : zs) (z6b : z2p)=>zer) ⟨FUEL,0,z9C,zej⟩ ⟨h,zx1⟩ (.cons rfl (.cons rfl (.cons rfl (.cons rfl .nil)))) (.cons .here (.cons .here .nil)) ?_
    rintro zer z1o z4F z6b ⟨h,zqL⟩
    obtain ⟨zlj,rfl⟩:=m_calculus_search_points_1_L6_fuel h
    rw [m_calculus_search_points_1_L6] at h
    refine WC.b ?_
    refine WC.a ?_
    refine WL.a (d:=53) rfl rfl rfl (q_lss rfl rfl) ?_
    refine WL.nil ?_
    refine WX.a ?_
    refine WC.b ?_
    refine WC.cond rfl (fun zlt=>?_) (fun zlt=>?_)
    ·replace h:=ite_t h zlt
     refine WC.skip ?_
     refine WX.a ?_
     refine WC.b ?_
     refine WC.block ?_
     refine WC.b ?_
     obtain ⟨zx3,h⟩:=chk_elim h
     refine WC.a ?_
     refine WL.znth (dd:=54) rfl rfl (Z:=(Z ++ z4a)) (Pr:=(fun r x=>r = e40 x)) elT_65 rfl rfl (zwC.mono ((Zle.left _ _).trans zqK)) zx3 ?_
     rintro zCX zCY zx4 zCZ rfl
     refine WL.a (d:=55) rfl rfl rfl (q_loadA (cs:=[(.int .i64 ((nth z1e z1o).fN)),(.int .i64 ((nth z1e z1o).fD))]) aggT_40 rfl rfl (rd_zs (hz.pv2 .here) zx4)) ?_
     refine WL.new (dd:=10) rfl rfl rfl (e_alloc (cs:=[(.int .i64 0),(.int .i64 0)]) zeroT_40 rfl) ?_
     intro z6F _
     refine WL.eff0 rfl rfl (e_store (vs:=[(.int .i64 ((nth z1e z1o).fN)),(.int .i64 ((nth z1e z1o).fD))]) (ds:=[(.int .i64 ((nth z1e z1o).fN)),(.int .i64 ((nth z1e z1o).fD))]) sizT_40 rfl rfl rfl rfl (oc_cons rfl (oc_cons rfl oc_nil)) .here (Nat.le_of_ble_eq_true rfl) rfl) ?_
     refine WL.nil ?_
     refine WX.a ?_
     refine WC.b ?_
     obtain ⟨zhQ,zx5,h⟩:=z8 h
     obtain ⟨zhR,zx6,h⟩:=z8 h
     obtain ⟨z69,zx7,h⟩:=z8 h
     obtain ⟨zbH,zqM,h⟩:=z8 h
     refine WC.a ?_
     refine WL.a (d:=56) rfl rfl rfl (q_m rfl) ?_
     refine WL.a (d:=57) rfl rfl rfl (q_loadA (cs:=[(.int .i64 ((nth z1e z1o).fN)),(.int .i64 ((nth z1e z1o).fD))]) aggT_40 rfl rfl (rd_all .here)) ?_
     refine WL.b (dd:=58) rfl rfl rfl (zi (l:=[.tmp 57]) Tryz.call79 (.cons rfl .nil)) (.nil : Sel [stb z6F 40 [(.int .i64 ((nth z1e z1o).fN)),(.int .i64 ((nth z1e z1o).fD))],fz z4a,z1p z6b z4F] [] [stb z6F 40 [(.int .i64 ((nth z1e z1o).fN)),(.int .i64 ((nth z1e z1o).fD))],fz z4a,z1p z6b z4F]) (fun w hw=>by have pz:=(hz.call2 hw (.nil : Sel [stb z6F 40 [(.int .i64 ((nth z1e z1o).fN)),(.int .i64 ((nth z1e z1o).fD))],fz z4a,z1p z6b z4F] [] [stb z6F 40 [(.int .i64 ((nth z1e z1o).fN)),(.int .i64 ((nth z1e z1o).fD))],fz z4a,z1p z6b z4F]) .h1); exact w_rat_Floor (Z:=_)  (z2S:=(⟨((nth z1e z1o).fN),((nth z1e z1o).fD)⟩ : z2)) (r:=zhQ) w pz  zx5) ?_
     refine WL.b (dd:=59) rfl rfl rfl (zi (l:=[.tmp 58]) Tryz.call68 (.cons rfl .nil)) (.nil : Sel [stb z6F 40 [(.int .i64 ((nth z1e z1o).fN)),(.int .i64 ((nth z1e z1o).fD))],fz z4a,z1p z6b z4F] [] [stb z6F 40 [(.int .i64 ((nth z1e z1o).fN)),(.int .i64 ((nth z1e z1o).fD))],fz z4a,z1p z6b z4F]) (fun w hw=>by have pz:=(hz.call2 hw (.nil : Sel [stb z6F 40 [(.int .i64 ((nth z1e z1o).fN)),(.int .i64 ((nth z1e z1o).fD))],fz z4a,z1p z6b z4F] [] [stb z6F 40 [(.int .i64 ((nth z1e z1o).fN)),(.int .i64 ((nth z1e z1o).fD))],fz z4a,z1p z6b z4F]) .h1); exact w_calculus_whole (Z:=_)  (z64:=zhQ) (r:=zhR) w pz  zx6) ?_
     refine WL.yield (dd:=60) (x:=zhR) (h:=()) (g:=z6b) (s:=z4F) (b:=z69.1) (s':=z69.2) zfQ rfl rfl rfl (.cons rfl .nil) ((.cons .h2 .nil) : Sel _ [z1p z6b z4F] _) zx7 zqL (fun w hw=>hz.call hw ((.cons .h2 .nil) : Sel _ [z1p z6b z4F] _)) ?_
     intro z8p zqN
     refine WL.a (d:=61) rfl rfl rfl (q_not rfl) ?_
     refine WL.a (d:=62) rfl rfl rfl (q_m rfl) ?_
     refine WL.cut1 (fun (zcZ : z2p)=>z7V zcZ zbH.2) (fun (zcZ : z2p)=>[(0,(.func (.yield z7U) #[] #[])),(50,(.slice zfO z1e.length zfP)),(51,(.int .i64 ((z1e.length : Nat) : Int))),(52,(.int .i64 z1o)),(69,(.bool zbH.1))]) (fun (zcZ : z2p)=>[z1p zcZ zbH.2,stb z6F 40 [(.int .i64 ((nth z1e z1o).fN)),(.int .i64 ((nth z1e z1o).fD))],fz z4a]) 7 ?_ (fun zcZ zqO=>?_)
     ·rcases Bool.eq_false_or_eq_true (!z69.1) with hb' | hb'
      ·have zqP:=hb'; clear hb'
       have zlu:=ite_t zqM zqP
       replace zlu:=Option.some.inj zlu
       refine WL.pin (i:=62) rfl zqP ?_
       refine WL.e rfl rfl rfl ?_
       refine WL.e rfl rfl rfl ?_
       refine WL.e rfl rfl rfl ?_
       refine WL.e rfl rfl rfl ?_
       refine WL.e rfl rfl rfl ?_
       refine WL.e rfl rfl rfl ?_
       refine WL.a (d:=69) rfl rfl rfl (q_pickT rfl rfl) ?_
       subst zlu
       exact WL.cutEnd z8p zqN (.cons rfl (.cons rfl (.cons rfl (.cons rfl (.cons rfl .nil))))) (.cons .here (.cons .here (.cons .here .nil)))
      ·have zqQ:=hb'; clear hb'
       have zaA:=ite_f zqM zqQ
       obtain ⟨zhS,zx8,zaA⟩:=z8 zaA
       obtain ⟨zhT,zx9,zaA⟩:=z8 zaA
       obtain ⟨zfM,zxa,zaA⟩:=z8 zaA
       replace zaA:=Option.some.inj zaA
       refine WL.pin (i:=62) rfl zqQ ?_
       refine WL.a (d:=63) rfl rfl rfl (q_m rfl) ?_
       refine WL.a (d:=64) rfl rfl rfl (q_loadA (cs:=[(.int .i64 ((nth z1e z1o).fN)),(.int .i64 ((nth z1e z1o).fD))]) aggT_40 rfl rfl (rd_all .h1)) ?_
       refine WL.b (dd:=65) rfl rfl rfl (zi (l:=[.tmp 64]) Tryz.call80 (.cons rfl .nil)) (.nil : Sel [z1p z8p z69.2,stb z6F 40 [(.int .i64 ((nth z1e z1o).fN)),(.int .i64 ((nth z1e z1o).fD))],fz z4a] [] [z1p z8p z69.2,stb z6F 40 [(.int .i64 ((nth z1e z1o).fN)),(.int .i64 ((nth z1e z1o).fD))],fz z4a]) (fun w hw=>by have pz:=(hz.call2 hw (.nil : Sel [z1p z8p z69.2,stb z6F 40 [(.int .i64 ((nth z1e z1o).fN)),(.int .i64 ((nth z1e z1o).fD))],fz z4a] [] [z1p z8p z69.2,stb z6F 40 [(.int .i64 ((nth z1e z1o).fN)),(.int .i64 ((nth z1e z1o).fD))],fz z4a]) .h2); exact w_rat_Ceil (Z:=_)  (z2J:=(⟨((nth z1e z1o).fN),((nth z1e z1o).fD)⟩ : z2)) (r:=zhS) w pz  zx8) ?_
       refine WL.b (dd:=66) rfl rfl rfl (zi (l:=[.tmp 65]) Tryz.call68 (.cons rfl .nil)) (.nil : Sel [z1p z8p z69.2,stb z6F 40 [(.int .i64 ((nth z1e z1o).fN)),(.int .i64 ((nth z1e z1o).fD))],fz z4a] [] [z1p z8p z69.2,stb z6F 40 [(.int .i64 ((nth z1e z1o).fN)),(.int .i64 ((nth z1e z1o).fD))],fz z4a]) (fun w hw=>by have pz:=(hz.call2 hw (.nil : Sel [z1p z8p z69.2,stb z6F 40 [(.int .i64 ((nth z1e z1o).fN)),(.int .i64 ((nth z1e z1o).fD))],fz z4a] [] [z1p z8p z69.2,stb z6F 40 [(.int .i64 ((nth z1e z1o).fN)),(.int .i64 ((nth z1e z1o).fD))],fz z4a]) .h2); exact w_calculus_whole (Z:=_)  (z64:=zhS) (r:=zhT) w pz  zx9) ?_
       refine WL.yield (dd:=67) (x:=zhT) (h:=()) (g:=z8p) (s:=z69.2) (b:=zfM.1) (s':=zfM.2) zfQ rfl rfl rfl (.cons rfl .nil) ((.cons .here .nil) : Sel _ [z1p z8p z69.2] _) zxa zqN (fun w hw=>hz.call hw ((.cons .here .nil) : Sel _ [z1p z8p z69.2] _)) ?_
       intro zxb zxc
       refine WL.a (d:=68) rfl rfl rfl (q_not rfl) ?_
       refine WL.a (d:=69) rfl rfl rfl (q_pickF rfl rfl) ?_
       subst zaA
       exact WL.cutEnd zxb zxc (.cons rfl (.cons rfl (.cons rfl (.cons rfl (.cons rfl .nil))))) (.cons .here (.cons .here (.cons .here .nil)))
     ·skip
      refine WL.nil ?_
      refine WX.a ?_
      refine WC.cond rfl (fun zlv=>?_) (fun zlv=>?_)
      ·replace h:=ite_t h zlv
       refine WC.ret ?_
       refine WX.blockRet ?_
       refine WX.thenRet ?_
       refine WX.thenRet ?_
       refine WX.blockRet ?_
       refine WX.thenRet ?_
       obtain rfl:=Option.some.inj h
       refine WX.bpRet Tryz.results78 .nil (fun w hw=>?_)
       exact ⟨z4a,zcZ,ret0,zqO,hw.sub (.cons .h2 (.cons .here .nil))⟩
      ·replace h:=ite_f h zlv
       refine WC.skip ?_
       refine WX.blockNormal ?_
       refine WX.a ?_
       refine WC.a ?_
       refine WL.a (d:=70) rfl rfl rfl (q_add rfl rfl rfl) ?_
       refine WL.a (d:=52) rfl rfl rfl (q_m rfl) ?_
       refine WL.nil ?_
       exact WX.round (G:=Nat × Int × zs × z2p) ⟨zlj,(i64 (z1o + 1)),zbH.2,zcZ⟩ ⟨h,zqO⟩ (Nat.lt_succ_self _) (.cons rfl (.cons rfl (.cons rfl (.cons rfl .nil)))) (.cons .h2 (.cons .here .nil))
    ·replace h:=ite_f h zlt
     refine WC.exit ?_
     refine WX.thenExit ?_
     refine WX.thenExit ?_
     refine WX.blockHit ?_
     exact WX.mid (G:=zs × z2p) ⟨z4F,z6b⟩ ⟨h,zqL⟩ .nil (.cons .here (.cons .here .nil))
   ·rintro zay zeq ⟨h,zxd⟩
    replace h:=(zx2 zay).symm.trans h
    obtain rfl:=Option.some.inj h
    refine WX.bpNormal Tryz.results78 .nil (fun w hw=>?_)
    exact ⟨z4a,zeq,ret0,zxd,hw.sub (.cons .here (.cons .here .nil))⟩
def m_rat_do_3 (zd0 : z2) (zd1 : z2) : Option (Int × Int) :=
 some ((i64 (zd0.fN * zd1.fN)),(i64 (zd0.fD * zd1.fD)))
set_option maxRecDepth 20000 in
theorem w_rat_do_3 (Z : Zp)  (zfS : Addr) (zfT : Addr) (zd0 : z2) (zd1 : z2) (r : Int × Int) (w₀ : World) (hz : PZ [] w₀ Z)
  (zqR : ZC Z zfS [(.int .i64 zd0.fN),(.int .i64 zd0.fD)])
  (zqS : ZC Z zfT [(.int .i64 zd1.fN),(.int .i64 zd1.fD)])
  (h : m_rat_do_3 zd0 zd1 = some r) :
  Calls Tryz.prog 71 #[(.pointer (some zfS)),(.pointer (some zfT))] w₀ fun e w'=>e = .returned (.tuple #[(.int .i64 r.1),(.int .i64 r.2)]) ∧ Hp [] w₀ w' []:=by
 unfold m_rat_do_3 at h
 refine Calls.ofWC (vs:=[(.pointer (some zfS)),(.pointer (some zfT))]) (pre:=[]) (env:=[(0,(.pointer (some zfS))),(1,(.pointer (some zfT)))]) Tryz.func71 rfl Tryz.ntmps71 rfl (Hp.nil w₀ _) rfl ?_
 refine WC.b ?_
 refine WC.a ?_
 refine WL.a (d:=2) rfl rfl rfl (q_z rfl) ?_
 refine WL.a (d:=3) rfl rfl rfl (q_z rfl) ?_
 refine WL.nil ?_
 refine WX.a ?_
 refine WC.b ?_
 refine WC.draw (fun i=>[].contains i) [] rfl ?_
 refine WD.a (i:=0) (d:=4) (by kernel_rfl) rfl (z6 (by kernel_rfl)) (z7 (by kernel_rfl)) rfl rfl rfl (fun _=>q_fieldAddr fo_40_0 rfl rfl) ?_
 refine WD.e (i:=1) (d:=5) (by kernel_rfl) rfl (z6 (by kernel_rfl)) (z7 (by kernel_rfl)) rfl rfl rfl (q_load1 oneT_3 rfl (rd_zAt hz.pv zqR rfl)) ?_
 refine WD.a (i:=2) (d:=6) (by kernel_rfl) rfl (z6 (by kernel_rfl)) (z7 (by kernel_rfl)) rfl rfl rfl (fun _=>q_fieldAddr fo_40_0 rfl rfl) ?_
 refine WD.e (i:=3) (d:=7) (by kernel_rfl) rfl (z6 (by kernel_rfl)) (z7 (by kernel_rfl)) rfl rfl rfl (q_load1 oneT_3 rfl (rd_zAt hz.pv zqS rfl)) ?_
 refine WD.a (i:=4) (d:=8) (by kernel_rfl) rfl (z6 (by kernel_rfl)) (z7 (by kernel_rfl)) rfl rfl rfl (fun _=>q_mul rfl rfl rfl) ?_
 refine WD.a (i:=5) (d:=9) (by kernel_rfl) rfl (z6 (by kernel_rfl)) (z7 (by kernel_rfl)) rfl rfl rfl (fun _=>q_fieldAddr fo_40_1 rfl rfl) ?_
 refine WD.e (i:=6) (d:=10) (by kernel_rfl) rfl (z6 (by kernel_rfl)) (z7 (by kernel_rfl)) rfl rfl rfl (q_load1 oneT_3 rfl (rd_zAt hz.pv zqR rfl)) ?_
 refine WD.a (i:=7) (d:=11) (by kernel_rfl) rfl (z6 (by kernel_rfl)) (z7 (by kernel_rfl)) rfl rfl rfl (fun _=>q_fieldAddr fo_40_1 rfl rfl) ?_
 refine WD.e (i:=8) (d:=12) (by kernel_rfl) rfl (z6 (by kernel_rfl)) (z7 (by kernel_rfl)) rfl rfl rfl (q_load1 oneT_3 rfl (rd_zAt hz.pv zqS rfl)) ?_
 refine WD.a (i:=9) (d:=13) (by kernel_rfl) rfl (z6 (by kernel_rfl)) (z7 (by kernel_rfl)) rfl rfl rfl (fun _=>q_mul rfl rfl rfl) ?_
 refine WD.a (i:=10) (d:=2) (by kernel_rfl) rfl (z6 (by kernel_rfl)) (z7 (by kernel_rfl)) rfl rfl rfl (fun _=>q_z rfl) ?_
 refine WD.a (i:=11) (d:=3) (by kernel_rfl) rfl (z6 (by kernel_rfl)) (z7 (by kernel_rfl)) rfl rfl rfl (fun _=>q_z rfl) ?_
 refine WD.done (by kernel_rfl) ?_
 refine WX.a ?_
 refine WC.ret ?_
 obtain rfl:=Option.some.inj h
 refine WX.bpRet Tryz.results71 (.tmp rfl (.tmp rfl .nil)) (fun w hw=>?_)
 exact ⟨ret2 rfl rfl,hw.sub .nil⟩
def m_rat_dod (z13 : z2) (z14 : z2) : Option (z2 × Int) :=
 (m_rat_Valid z13).bind fun zhW=>(if !zhW then some true else (m_rat_Valid z14).bind fun zlw=>some (!zlw)).bind fun zfU=>if zfU then some ((⟨0,0⟩ : z2),2) else (m_rat_do_3 z13 z14).bind fun zes=>(m_rat_Make zes.1 zes.2).bind fun zbK=>some (zbK.1,zbK.2)
set_option maxRecDepth 20000 in
theorem w_rat_dod (Z : Zp)   (z13 : z2) (z14 : z2) (r : z2 × Int) (w₀ : World) (hz : PZ [] w₀ Z)
  (h : m_rat_dod z13 z14 = some r) :
  Calls Tryz.prog 53 #[(.string ⟨#[42]⟩),(.agg #[(.int .i64 z13.fN),(.int .i64 z13.fD)]),(.agg #[(.int .i64 z14.fN),(.int .i64 z14.fD)])] w₀ fun e w'=>e = .returned (.tuple #[(.agg #[(.int .i64 r.1.fN),(.int .i64 r.1.fD)]),(.int .i64 r.2)]) ∧ Hp [] w₀ w' []:=by
 unfold m_rat_dod at h
 refine Calls.ofWC (vs:=[(.string ⟨#[42]⟩),(.agg #[(.int .i64 z13.fN),(.int .i64 z13.fD)]),(.agg #[(.int .i64 z14.fN),(.int .i64 z14.fD)])]) (pre:=[]) (env:=[(0,(.string ⟨#[42]⟩)),(1,(.agg #[(.int .i64 z13.fN),(.int .i64 z13.fD)])),(2,(.agg #[(.int .i64 z14.fN),(.int .i64 z14.fD)]))]) Tryz.func53 rfl Tryz.ntmps53 rfl (Hp.nil w₀ _) rfl ?_
 refine WC.b ?_
 refine WC.a ?_
 refine WL.new (dd:=4) rfl rfl rfl (e_box (cs:=[(.int .i64 z13.fN),(.int .i64 z13.fD)]) rfl rfl) ?_
 intro zH _
 refine WL.new (dd:=5) rfl rfl rfl (e_box (cs:=[(.int .i64 z14.fN),(.int .i64 z14.fD)]) rfl rfl) ?_
 intro zI _
 refine WL.new (dd:=6) rfl rfl rfl (e_alloc (cs:=[(.int .i64 0),(.int .i64 0)]) zeroT_40 rfl) ?_
 intro z4k _
 refine WL.a (d:=7) rfl rfl rfl (q_z rfl) ?_
 refine WL.nil ?_
 refine WX.a ?_
 refine WC.b ?_
 refine WC.b ?_
 obtain ⟨zhW,zxe,h⟩:=z8 h
 obtain ⟨zfU,zqT,h⟩:=z8 h
 refine WC.a ?_
 refine WL.a (d:=9) rfl rfl rfl (q_loadA (cs:=[(.int .i64 z13.fN),(.int .i64 z13.fD)]) aggT_40 rfl rfl (rd_all .h2)) ?_
 refine WL.b (dd:=10) rfl rfl rfl (zi (l:=[.tmp 9]) Tryz.call44 (.cons rfl .nil)) (.nil : Sel [stb z4k 40 [(.int .i64 0),(.int .i64 0)],stb zI 40 [(.int .i64 z14.fN),(.int .i64 z14.fD)],stb zH 40 [(.int .i64 z13.fN),(.int .i64 z13.fD)]] [] [stb z4k 40 [(.int .i64 0),(.int .i64 0)],stb zI 40 [(.int .i64 z14.fN),(.int .i64 z14.fD)],stb zH 40 [(.int .i64 z13.fN),(.int .i64 z13.fD)]]) (fun w hw=>by have pz:=(hz.call hw (.nil : Sel [stb z4k 40 [(.int .i64 0),(.int .i64 0)],stb zI 40 [(.int .i64 z14.fN),(.int .i64 z14.fD)],stb zH 40 [(.int .i64 z13.fN),(.int .i64 z13.fD)]] [] [stb z4k 40 [(.int .i64 0),(.int .i64 0)],stb zI 40 [(.int .i64 z14.fN),(.int .i64 z14.fD)],stb zH 40 [(.int .i64 z13.fN),(.int .i64 z13.fD)]])); exact w_rat_Valid (Z:=_)  (z18:=z13) (r:=zhW) w pz  zxe) ?_
 refine WL.a (d:=11) rfl rfl rfl (q_not rfl) ?_
 refine WL.a (d:=12) rfl rfl rfl (q_m rfl) ?_
 refine WL.cut0 True [(0,(.string ⟨#[42]⟩)),(4,(.pointer (some ⟨zH,0,none⟩))),(5,(.pointer (some ⟨zI,0,none⟩))),(6,(.pointer (some ⟨z4k,0,none⟩))),(16,(.bool zfU))] [stb z4k 40 [(.int .i64 0),(.int .i64 0)],stb zI 40 [(.int .i64 z14.fN),(.int .i64 z14.fD)],stb zH 40 [(.int .i64 z13.fN),(.int .i64 z13.fD)]] 4 ?_ (fun _=>?_)
 ·rcases Bool.eq_false_or_eq_true (!zhW) with hb' | hb'
  ·have zqU:=hb'; clear hb'
   have zlx:=ite_t zqT zqU
   replace zlx:=Option.some.inj zlx
   refine WL.pin (i:=12) rfl zqU ?_
   refine WL.e rfl rfl rfl ?_
   refine WL.e rfl rfl rfl ?_
   refine WL.e rfl rfl rfl ?_
   refine WL.a (d:=16) rfl rfl rfl (q_pickT rfl rfl) ?_
   exact WL.cutEnd () trivial (.cons rfl (.cons rfl (.cons rfl (.cons rfl (.cons (zf zlx) .nil))))) (.cons .here (.cons .here (.cons .here .nil)))
  ·have zqV:=hb'; clear hb'
   have zfV:=ite_f zqT zqV
   obtain ⟨zlw,zxf,zfV⟩:=z8 zfV
   replace zfV:=Option.some.inj zfV
   refine WL.pin (i:=12) rfl zqV ?_
   refine WL.a (d:=13) rfl rfl rfl (q_loadA (cs:=[(.int .i64 z14.fN),(.int .i64 z14.fD)]) aggT_40 rfl rfl (rd_all .h1)) ?_
   refine WL.b (dd:=14) rfl rfl rfl (zi (l:=[.tmp 13]) Tryz.call44 (.cons rfl .nil)) (.nil : Sel [stb z4k 40 [(.int .i64 0),(.int .i64 0)],stb zI 40 [(.int .i64 z14.fN),(.int .i64 z14.fD)],stb zH 40 [(.int .i64 z13.fN),(.int .i64 z13.fD)]] [] [stb z4k 40 [(.int .i64 0),(.int .i64 0)],stb zI 40 [(.int .i64 z14.fN),(.int .i64 z14.fD)],stb zH 40 [(.int .i64 z13.fN),(.int .i64 z13.fD)]]) (fun w hw=>by have pz:=(hz.call hw (.nil : Sel [stb z4k 40 [(.int .i64 0),(.int .i64 0)],stb zI 40 [(.int .i64 z14.fN),(.int .i64 z14.fD)],stb zH 40 [(.int .i64 z13.fN),(.int .i64 z13.fD)]] [] [stb z4k 40 [(.int .i64 0),(.int .i64 0)],stb zI 40 [(.int .i64 z14.fN),(.int .i64 z14.fD)],stb zH 40 [(.int .i64 z13.fN),(.int .i64 z13.fD)]])); exact w_rat_Valid (Z:=_)  (z18:=z14) (r:=zlw) w pz  zxf) ?_
   refine WL.a (d:=15) rfl rfl rfl (q_not rfl) ?_
   refine WL.a (d:=16) rfl rfl rfl (q_pickF rfl rfl) ?_
   exact WL.cutEnd () trivial (.cons rfl (.cons rfl (.cons rfl (.cons rfl (.cons (zf zfV) .nil))))) (.cons .here (.cons .here (.cons .here .nil)))
 ·skip
  refine WL.a (d:=17) rfl rfl rfl (q_m rfl) ?_
  refine WL.cut0 True [(0,(.string ⟨#[42]⟩)),(4,(.pointer (some ⟨zH,0,none⟩))),(5,(.pointer (some ⟨zI,0,none⟩))),(6,(.pointer (some ⟨z4k,0,none⟩))),(25,(.bool zfU))] [stb z4k 40 [(.int .i64 0),(.int .i64 0)],stb zI 40 [(.int .i64 z14.fN),(.int .i64 z14.fD)],stb zH 40 [(.int .i64 z13.fN),(.int .i64 z13.fD)]] 8 ?_ (fun _=>?_)
  ·rcases Bool.eq_false_or_eq_true zfU with hb' | hb'
   ·have zqW:=hb'; clear hb'
    refine WL.pin (i:=17) rfl zqW ?_
    refine WL.e rfl rfl rfl ?_
    refine WL.e rfl rfl rfl ?_
    refine WL.e rfl rfl rfl ?_
    refine WL.e rfl rfl rfl ?_
    refine WL.e rfl rfl rfl ?_
    refine WL.e rfl rfl rfl ?_
    refine WL.e rfl rfl rfl ?_
    refine WL.a (d:=25) rfl rfl rfl (q_pickT rfl rfl) ?_
    exact WL.cutEnd () trivial (.cons rfl (.cons rfl (.cons rfl (.cons rfl (.cons (zf (Eq.symm zqW)) .nil))))) (.cons .here (.cons .here (.cons .here .nil)))
   ·have zqX:=hb'; clear hb'
    refine WL.pin (i:=17) rfl zqX ?_
    refine WL.a (d:=18) rfl rfl rfl (q_m rfl) ?_
    refine WL.a (d:=19) rfl rfl rfl (q_seqlC (r:=false) (by decide) rfl rfl) ?_
    refine WL.a (d:=20) rfl rfl rfl (q_m rfl) ?_
    refine WL.e rfl rfl rfl ?_
    refine WL.e rfl rfl rfl ?_
    refine WL.e rfl rfl rfl ?_
    refine WL.a (d:=24) rfl rfl rfl (q_pickF rfl rfl) ?_
    refine WL.a (d:=25) rfl rfl rfl (q_pickF rfl rfl) ?_
    exact WL.cutEnd () trivial (.cons rfl (.cons rfl (.cons rfl (.cons rfl (.cons (zf (Eq.symm zqX)) .nil))))) (.cons .here (.cons .here (.cons .here .nil)))
  ·skip
   refine WL.nil ?_
   refine WX.a ?_
   refine WC.cond rfl (fun zly=>?_) (fun zly=>?_)
   ·replace h:=ite_t h zly
    refine WC.b ?_
    refine WC.a ?_
    refine WL.a (d:=26) rfl rfl rfl (q_build (v:=(.agg #[(.int .i64 0),(.int .i64 0)])) (Eos.parts (l:=[]) .nil []) (fun _=>by kernel_rfl)) ?_
    refine WL.eff0 rfl rfl (e_store (vs:=[(.int .i64 0),(.int .i64 0)]) (ds:=[(.int .i64 0),(.int .i64 0)]) sizT_40 rfl rfl rfl rfl (oc_cons rfl (oc_cons rfl oc_nil)) .here (Nat.le_of_ble_eq_true rfl) rfl) ?_
    refine WL.a (d:=7) rfl rfl rfl (q_z rfl) ?_
    refine WL.nil ?_
    refine WX.a ?_
    refine WC.ret ?_
    refine WX.thenRet ?_
    obtain rfl:=Option.some.inj h
    refine WX.bpRet Tryz.results53 (.agg rfl aggT_40 rfl (rd_all .here) (.tmp rfl .nil)) (fun w hw=>?_)
    exact ⟨ret2 rfl rfl,hw.sub .nil⟩
   ·replace h:=ite_f h zly
    refine WC.skip ?_
    refine WX.a ?_
    refine WC.b ?_
    refine WC.a ?_
    refine WL.new (dd:=27) rfl rfl rfl (e_makeMap Value.string (fun x=>x)) ?_
    intro z7F _
    refine WL.a (d:=28) rfl rfl rfl (q_makeFunc (Eos.caps (l:=[.tmp 4,.tmp 5]) (.cons rfl (.cons rfl .nil)))) ?_
    refine WL.eff0 rfl rfl (e_insert (k:=⟨#[43]⟩) (v:=(.func (.func 69) #[] #[(.pointer (some ⟨zH,0,none⟩)),(.pointer (some ⟨zI,0,none⟩))])) keyT_9 Tryz.underlying106 rfl rfl rfl rfl .here) ?_
    refine WL.a (d:=29) rfl rfl rfl (q_makeFunc (Eos.caps (l:=[.tmp 4,.tmp 5]) (.cons rfl (.cons rfl .nil)))) ?_
    refine WL.eff0 rfl rfl (e_insert (k:=⟨#[45]⟩) (v:=(.func (.func 70) #[] #[(.pointer (some ⟨zH,0,none⟩)),(.pointer (some ⟨zI,0,none⟩))])) keyT_9 Tryz.underlying106 rfl rfl rfl rfl .here) ?_
    refine WL.a (d:=30) rfl rfl rfl (q_makeFunc (Eos.caps (l:=[.tmp 4,.tmp 5]) (.cons rfl (.cons rfl .nil)))) ?_
    refine WL.eff0 rfl rfl (e_insert (k:=⟨#[42]⟩) (v:=(.func (.func 71) #[] #[(.pointer (some ⟨zH,0,none⟩)),(.pointer (some ⟨zI,0,none⟩))])) keyT_9 Tryz.underlying106 rfl rfl rfl rfl .here) ?_
    refine WL.a (d:=31) rfl rfl rfl (q_makeFunc (Eos.caps (l:=[.tmp 4,.tmp 5]) (.cons rfl (.cons rfl .nil)))) ?_
    refine WL.eff0 rfl rfl (e_insert (k:=⟨#[47]⟩) (v:=(.func (.func 72) #[] #[(.pointer (some ⟨zH,0,none⟩)),(.pointer (some ⟨zI,0,none⟩))])) keyT_9 Tryz.underlying106 rfl rfl rfl rfl .here) ?_
    refine WL.a (d:=32) rfl rfl rfl (q_m rfl) ?_
    refine WL.a (d:=8) rfl rfl rfl (q_z rfl) ?_
    refine WL.nil ?_
    refine WX.a ?_
    refine WC.b ?_
    obtain ⟨zes,zxg,h⟩:=z8 h
    obtain ⟨zbK,zxh,h⟩:=z8 h
    refine WC.a ?_
    refine WL.a (d:=33) rfl rfl rfl (q_m rfl) ?_
    refine WL.a (d:=34) rfl rfl rfl (q_m rfl) ?_
    refine WL.a (d:=35) rfl rfl rfl (q_lookC (k:=⟨#[42]⟩) (dflt:=.nilFunc) (r:=(.func (.func 71) #[] #[(.pointer (some ⟨zH,0,none⟩)),(.pointer (some ⟨zI,0,none⟩))])) keyT_9 Tryz.underlying106 zgZ rfl rfl rfl .here (by rfl)) ?_
    refine WL.b (dd:=36) rfl rfl rfl (run_callv (l:=[]) Tryz.call71 rfl .nil) (.nil : Sel [mapA z7F Value.string (fun x=>x) [(⟨#[43]⟩,(.func (.func 69) #[] #[(.pointer (some ⟨zH,0,none⟩)),(.pointer (some ⟨zI,0,none⟩))])),(⟨#[45]⟩,(.func (.func 70) #[] #[(.pointer (some ⟨zH,0,none⟩)),(.pointer (some ⟨zI,0,none⟩))])),(⟨#[42]⟩,(.func (.func 71) #[] #[(.pointer (some ⟨zH,0,none⟩)),(.pointer (some ⟨zI,0,none⟩))])),(⟨#[47]⟩,(.func (.func 72) #[] #[(.pointer (some ⟨zH,0,none⟩)),(.pointer (some ⟨zI,0,none⟩))]))],stb z4k 40 [(.int .i64 0),(.int .i64 0)],stb zI 40 [(.int .i64 z14.fN),(.int .i64 z14.fD)],stb zH 40 [(.int .i64 z13.fN),(.int .i64 z13.fD)]] [] [mapA z7F Value.string (fun x=>x) [(⟨#[43]⟩,(.func (.func 69) #[] #[(.pointer (some ⟨zH,0,none⟩)),(.pointer (some ⟨zI,0,none⟩))])),(⟨#[45]⟩,(.func (.func 70) #[] #[(.pointer (some ⟨zH,0,none⟩)),(.pointer (some ⟨zI,0,none⟩))])),(⟨#[42]⟩,(.func (.func 71) #[] #[(.pointer (some ⟨zH,0,none⟩)),(.pointer (some ⟨zI,0,none⟩))])),(⟨#[47]⟩,(.func (.func 72) #[] #[(.pointer (some ⟨zH,0,none⟩)),(.pointer (some ⟨zI,0,none⟩))]))],stb z4k 40 [(.int .i64 0),(.int .i64 0)],stb zI 40 [(.int .i64 z14.fN),(.int .i64 z14.fD)],stb zH 40 [(.int .i64 z13.fN),(.int .i64 z13.fD)]]) (fun w hw=>by have pz:=(hz.call hw (.nil : Sel [mapA z7F Value.string (fun x=>x) [(⟨#[43]⟩,(.func (.func 69) #[] #[(.pointer (some ⟨zH,0,none⟩)),(.pointer (some ⟨zI,0,none⟩))])),(⟨#[45]⟩,(.func (.func 70) #[] #[(.pointer (some ⟨zH,0,none⟩)),(.pointer (some ⟨zI,0,none⟩))])),(⟨#[42]⟩,(.func (.func 71) #[] #[(.pointer (some ⟨zH,0,none⟩)),(.pointer (some ⟨zI,0,none⟩))])),(⟨#[47]⟩,(.func (.func 72) #[] #[(.pointer (some ⟨zH,0,none⟩)),(.pointer (some ⟨zI,0,none⟩))]))],stb z4k 40 [(.int .i64 0),(.int .i64 0)],stb zI 40 [(.int .i64 z14.fN),(.int .i64 z14.fD)],stb zH 40 [(.int .i64 z13.fN),(.int .i64 z13.fD)]] [] [mapA z7F Value.string (fun x=>x) [(⟨#[43]⟩,(.func (.func 69) #[] #[(.pointer (some ⟨zH,0,none⟩)),(.pointer (some ⟨zI,0,none⟩))])),(⟨#[45]⟩,(.func (.func 70) #[] #[(.pointer (some ⟨zH,0,none⟩)),(.pointer (some ⟨zI,0,none⟩))])),(⟨#[42]⟩,(.func (.func 71) #[] #[(.pointer (some ⟨zH,0,none⟩)),(.pointer (some ⟨zI,0,none⟩))])),(⟨#[47]⟩,(.func (.func 72) #[] #[(.pointer (some ⟨zH,0,none⟩)),(.pointer (some ⟨zI,0,none⟩))]))],stb z4k 40 [(.int .i64 0),(.int .i64 0)],stb zI 40 [(.int .i64 z14.fN),(.int .i64 z14.fD)],stb zH 40 [(.int .i64 z13.fN),(.int .i64 z13.fD)]])).lend hw (.nil : Sel [mapA z7F Value.string (fun x=>x) [(⟨#[43]⟩,(.func (.func 69) #[] #[(.pointer (some ⟨zH,0,none⟩)),(.pointer (some ⟨zI,0,none⟩))])),(⟨#[45]⟩,(.func (.func 70) #[] #[(.pointer (some ⟨zH,0,none⟩)),(.pointer (some ⟨zI,0,none⟩))])),(⟨#[42]⟩,(.func (.func 71) #[] #[(.pointer (some ⟨zH,0,none⟩)),(.pointer (some ⟨zI,0,none⟩))])),(⟨#[47]⟩,(.func (.func 72) #[] #[(.pointer (some ⟨zH,0,none⟩)),(.pointer (some ⟨zI,0,none⟩))]))],stb z4k 40 [(.int .i64 0),(.int .i64 0)],stb zI 40 [(.int .i64 z14.fN),(.int .i64 z14.fD)],stb zH 40 [(.int .i64 z13.fN),(.int .i64 z13.fD)]] [] [mapA z7F Value.string (fun x=>x) [(⟨#[43]⟩,(.func (.func 69) #[] #[(.pointer (some ⟨zH,0,none⟩)),(.pointer (some ⟨zI,0,none⟩))])),(⟨#[45]⟩,(.func (.func 70) #[] #[(.pointer (some ⟨zH,0,none⟩)),(.pointer (some ⟨zI,0,none⟩))])),(⟨#[42]⟩,(.func (.func 71) #[] #[(.pointer (some ⟨zH,0,none⟩)),(.pointer (some ⟨zI,0,none⟩))])),(⟨#[47]⟩,(.func (.func 72) #[] #[(.pointer (some ⟨zH,0,none⟩)),(.pointer (some ⟨zI,0,none⟩))]))],stb z4k 40 [(.int .i64 0),(.int .i64 0)],stb zI 40 [(.int .i64 z14.fN),(.int .i64 z14.fD)],stb zH 40 [(.int .i64 z13.fN),(.int .i64 z13.fD)]]) (B:=[stb zH 40 [(.int .i64 z13.fN),(.int .i64 z13.fD)],stb zI 40 [(.int .i64 z14.fN),(.int .i64 z14.fD)]]) (fun _ hx'=>((.cons .h3 (.cons .h2 .nil)) : Sel _ [stb zH 40 [(.int .i64 z13.fN),(.int .i64 z13.fD)],stb zI 40 [(.int .i64 z14.fN),(.int .i64 z14.fD)]] _).mem hx'); exact w_rat_do_3 (Z:=_) (zfS:=⟨zH,0,none⟩) (zfT:=⟨zI,0,none⟩) (zd0:=z13) (zd1:=z14) (r:=zes) w pz ((hw.lent (.nil : Sel [mapA z7F Value.string (fun x=>x) [(⟨#[43]⟩,(.func (.func 69) #[] #[(.pointer (some ⟨zH,0,none⟩)),(.pointer (some ⟨zI,0,none⟩))])),(⟨#[45]⟩,(.func (.func 70) #[] #[(.pointer (some ⟨zH,0,none⟩)),(.pointer (some ⟨zI,0,none⟩))])),(⟨#[42]⟩,(.func (.func 71) #[] #[(.pointer (some ⟨zH,0,none⟩)),(.pointer (some ⟨zI,0,none⟩))])),(⟨#[47]⟩,(.func (.func 72) #[] #[(.pointer (some ⟨zH,0,none⟩)),(.pointer (some ⟨zI,0,none⟩))]))],stb z4k 40 [(.int .i64 0),(.int .i64 0)],stb zI 40 [(.int .i64 z14.fN),(.int .i64 z14.fD)],stb zH 40 [(.int .i64 z13.fN),(.int .i64 z13.fD)]] [] [mapA z7F Value.string (fun x=>x) [(⟨#[43]⟩,(.func (.func 69) #[] #[(.pointer (some ⟨zH,0,none⟩)),(.pointer (some ⟨zI,0,none⟩))])),(⟨#[45]⟩,(.func (.func 70) #[] #[(.pointer (some ⟨zH,0,none⟩)),(.pointer (some ⟨zI,0,none⟩))])),(⟨#[42]⟩,(.func (.func 71) #[] #[(.pointer (some ⟨zH,0,none⟩)),(.pointer (some ⟨zI,0,none⟩))])),(⟨#[47]⟩,(.func (.func 72) #[] #[(.pointer (some ⟨zH,0,none⟩)),(.pointer (some ⟨zI,0,none⟩))]))],stb z4k 40 [(.int .i64 0),(.int .i64 0)],stb zI 40 [(.int .i64 z14.fN),(.int .i64 z14.fD)],stb zH 40 [(.int .i64 z13.fN),(.int .i64 z13.fD)]]) (B:=[stb zH 40 [(.int .i64 z13.fN),(.int .i64 z13.fD)],stb zI 40 [(.int .i64 z14.fN),(.int .i64 z14.fD)]]) (fun _ hx'=>((.cons .h3 (.cons .h2 .nil)) : Sel _ [stb zH 40 [(.int .i64 z13.fN),(.int .i64 z13.fD)],stb zI 40 [(.int .i64 z14.fN),(.int .i64 z14.fD)]] _).mem hx') (.head _) _).stb) ((hw.lent (.nil : Sel [mapA z7F Value.string (fun x=>x) [(⟨#[43]⟩,(.func (.func 69) #[] #[(.pointer (some ⟨zH,0,none⟩)),(.pointer (some ⟨zI,0,none⟩))])),(⟨#[45]⟩,(.func (.func 70) #[] #[(.pointer (some ⟨zH,0,none⟩)),(.pointer (some ⟨zI,0,none⟩))])),(⟨#[42]⟩,(.func (.func 71) #[] #[(.pointer (some ⟨zH,0,none⟩)),(.pointer (some ⟨zI,0,none⟩))])),(⟨#[47]⟩,(.func (.func 72) #[] #[(.pointer (some ⟨zH,0,none⟩)),(.pointer (some ⟨zI,0,none⟩))]))],stb z4k 40 [(.int .i64 0),(.int .i64 0)],stb zI 40 [(.int .i64 z14.fN),(.int .i64 z14.fD)],stb zH 40 [(.int .i64 z13.fN),(.int .i64 z13.fD)]] [] [mapA z7F Value.string (fun x=>x) [(⟨#[43]⟩,(.func (.func 69) #[] #[(.pointer (some ⟨zH,0,none⟩)),(.pointer (some ⟨zI,0,none⟩))])),(⟨#[45]⟩,(.func (.func 70) #[] #[(.pointer (some ⟨zH,0,none⟩)),(.pointer (some ⟨zI,0,none⟩))])),(⟨#[42]⟩,(.func (.func 71) #[] #[(.pointer (some ⟨zH,0,none⟩)),(.pointer (some ⟨zI,0,none⟩))])),(⟨#[47]⟩,(.func (.func 72) #[] #[(.pointer (some ⟨zH,0,none⟩)),(.pointer (some ⟨zI,0,none⟩))]))],stb z4k 40 [(.int .i64 0),(.int .i64 0)],stb zI 40 [(.int .i64 z14.fN),(.int .i64 z14.fD)],stb zH 40 [(.int .i64 z13.fN),(.int .i64 z13.fD)]]) (B:=[stb zH 40 [(.int .i64 z13.fN),(.int .i64 z13.fD)],stb zI 40 [(.int .i64 z14.fN),(.int .i64 z14.fD)]]) (fun _ hx'=>((.cons .h3 (.cons .h2 .nil)) : Sel _ [stb zH 40 [(.int .i64 z13.fN),(.int .i64 z13.fD)],stb zI 40 [(.int .i64 z14.fN),(.int .i64 z14.fD)]] _).mem hx') (.tail _ (.head _)) _).stb) zxg) ?_
    refine WL.a (d:=37) rfl rfl rfl (q_extract rfl rfl) ?_
    refine WL.a (d:=38) rfl rfl rfl (q_extract rfl rfl) ?_
    refine WL.b (dd:=39) rfl rfl rfl (zi (l:=[.tmp 37,.tmp 38]) Tryz.call73 (.cons rfl (.cons rfl .nil))) (.nil : Sel [mapA z7F Value.string (fun x=>x) [(⟨#[43]⟩,(.func (.func 69) #[] #[(.pointer (some ⟨zH,0,none⟩)),(.pointer (some ⟨zI,0,none⟩))])),(⟨#[45]⟩,(.func (.func 70) #[] #[(.pointer (some ⟨zH,0,none⟩)),(.pointer (some ⟨zI,0,none⟩))])),(⟨#[42]⟩,(.func (.func 71) #[] #[(.pointer (some ⟨zH,0,none⟩)),(.pointer (some ⟨zI,0,none⟩))])),(⟨#[47]⟩,(.func (.func 72) #[] #[(.pointer (some ⟨zH,0,none⟩)),(.pointer (some ⟨zI,0,none⟩))]))],stb z4k 40 [(.int .i64 0),(.int .i64 0)],stb zI 40 [(.int .i64 z14.fN),(.int .i64 z14.fD)],stb zH 40 [(.int .i64 z13.fN),(.int .i64 z13.fD)]] [] [mapA z7F Value.string (fun x=>x) [(⟨#[43]⟩,(.func (.func 69) #[] #[(.pointer (some ⟨zH,0,none⟩)),(.pointer (some ⟨zI,0,none⟩))])),(⟨#[45]⟩,(.func (.func 70) #[] #[(.pointer (some ⟨zH,0,none⟩)),(.pointer (some ⟨zI,0,none⟩))])),(⟨#[42]⟩,(.func (.func 71) #[] #[(.pointer (some ⟨zH,0,none⟩)),(.pointer (some ⟨zI,0,none⟩))])),(⟨#[47]⟩,(.func (.func 72) #[] #[(.pointer (some ⟨zH,0,none⟩)),(.pointer (some ⟨zI,0,none⟩))]))],stb z4k 40 [(.int .i64 0),(.int .i64 0)],stb zI 40 [(.int .i64 z14.fN),(.int .i64 z14.fD)],stb zH 40 [(.int .i64 z13.fN),(.int .i64 z13.fD)]]) (fun w hw=>by have pz:=(hz.call hw (.nil : Sel [mapA z7F Value.string (fun x=>x) [(⟨#[43]⟩,(.func (.func 69) #[] #[(.pointer (some ⟨zH,0,none⟩)),(.pointer (some ⟨zI,0,none⟩))])),(⟨#[45]⟩,(.func (.func 70) #[] #[(.pointer (some ⟨zH,0,none⟩)),(.pointer (some ⟨zI,0,none⟩))])),(⟨#[42]⟩,(.func (.func 71) #[] #[(.pointer (some ⟨zH,0,none⟩)),(.pointer (some ⟨zI,0,none⟩))])),(⟨#[47]⟩,(.func (.func 72) #[] #[(.pointer (some ⟨zH,0,none⟩)),(.pointer (some ⟨zI,0,none⟩))]))],stb z4k 40 [(.int .i64 0),(.int .i64 0)],stb zI 40 [(.int .i64 z14.fN),(.int .i64 z14.fD)],stb zH 40 [(.int .i64 z13.fN),(.int .i64 z13.fD)]] [] [mapA z7F Value.string (fun x=>x) [(⟨#[43]⟩,(.func (.func 69) #[] #[(.pointer (some ⟨zH,0,none⟩)),(.pointer (some ⟨zI,0,none⟩))])),(⟨#[45]⟩,(.func (.func 70) #[] #[(.pointer (some ⟨zH,0,none⟩)),(.pointer (some ⟨zI,0,none⟩))])),(⟨#[42]⟩,(.func (.func 71) #[] #[(.pointer (some ⟨zH,0,none⟩)),(.pointer (some ⟨zI,0,none⟩))])),(⟨#[47]⟩,(.func (.func 72) #[] #[(.pointer (some ⟨zH,0,none⟩)),(.pointer (some ⟨zI,0,none⟩))]))],stb z4k 40 [(.int .i64 0),(.int .i64 0)],stb zI 40 [(.int .i64 z14.fN),(.int .i64 z14.fD)],stb zH 40 [(.int .i64 z13.fN),(.int .i64 z13.fD)]])); exact w_rat_Make (Z:=_)  (z7R:=zes.1) (z7v:=zes.2) (r:=zbK) w pz  zxh) ?_
    refine WL.a (d:=40) rfl rfl rfl (q_extract rfl rfl) ?_
    refine WL.a (d:=41) rfl rfl rfl (q_extract rfl rfl) ?_
    refine WL.eff0 rfl rfl (e_store (vs:=[(.int .i64 zbK.1.fN),(.int .i64 zbK.1.fD)]) (ds:=[(.int .i64 zbK.1.fN),(.int .i64 zbK.1.fD)]) sizT_40 rfl rfl rfl rfl (oc_cons rfl (oc_cons rfl oc_nil)) .h1 (Nat.le_of_ble_eq_true rfl) rfl) ?_
    refine WL.a (d:=7) rfl rfl rfl (q_z rfl) ?_
    refine WL.nil ?_
    refine WX.a ?_
    refine WC.ret ?_
    obtain rfl:=Option.some.inj h
    refine WX.bpRet Tryz.results53 (.agg rfl aggT_40 rfl (rd_all .here) (.tmp rfl .nil)) (fun w hw=>?_)
    exact ⟨ret2 rfl rfl,hw.sub .nil⟩
def m_rat_Mul (z4G : z2) (z4H : z2) : Option (z2 × Int) :=
 (m_rat_dod z4G z4H).bind fun zbL=>some (zbL.1,zbL.2)
set_option maxRecDepth 20000 in
theorem w_rat_Mul (Z : Zp)   (z4G : z2) (z4H : z2) (r : z2 × Int) (w₀ : World) (hz : PZ [] w₀ Z)
  (h : m_rat_Mul z4G z4H = some r) :
  Calls Tryz.prog 39 #[(.agg #[(.int .i64 z4G.fN),(.int .i64 z4G.fD)]),(.agg #[(.int .i64 z4H.fN),(.int .i64 z4H.fD)])] w₀ fun e w'=>e = .returned (.tuple #[(.agg #[(.int .i64 r.1.fN),(.int .i64 r.1.fD)]),(.int .i64 r.2)]) ∧ Hp [] w₀ w' []:=by
 unfold m_rat_Mul at h
 refine Calls.ofWC (vs:=[(.agg #[(.int .i64 z4G.fN),(.int .i64 z4G.fD)]),(.agg #[(.int .i64 z4H.fN),(.int .i64 z4H.fD)])]) (pre:=[]) (env:=[(0,(.agg #[(.int .i64 z4G.fN),(.int .i64 z4G.fD)])),(1,(.agg #[(.int .i64 z4H.fN),(.int .i64 z4H.fD)]))]) Tryz.func39 rfl Tryz.ntmps39 rfl (Hp.nil w₀ _) rfl ?_
 refine WC.b ?_
 refine WC.a ?_
 refine WL.new (dd:=2) rfl rfl rfl (e_box (cs:=[(.int .i64 z4G.fN),(.int .i64 z4G.fD)]) rfl rfl) ?_
 intro zhX _
 refine WL.new (dd:=3) rfl rfl rfl (e_box (cs:=[(.int .i64 z4H.fN),(.int .i64 z4H.fD)]) rfl rfl) ?_
 intro zhY _
 refine WL.new (dd:=4) rfl rfl rfl (e_alloc (cs:=[(.int .i64 0),(.int .i64 0)]) zeroT_40 rfl) ?_
 intro zhZ _
 refine WL.a (d:=5) rfl rfl rfl (q_z rfl) ?_
 refine WL.nil ?_
 refine WX.a ?_
 refine WC.b ?_
 obtain ⟨zbL,zxi,h⟩:=z8 h
 refine WC.a ?_
 refine WL.a (d:=6) rfl rfl rfl (q_loadA (cs:=[(.int .i64 z4G.fN),(.int .i64 z4G.fD)]) aggT_40 rfl rfl (rd_all .h2)) ?_
 refine WL.a (d:=7) rfl rfl rfl (q_loadA (cs:=[(.int .i64 z4H.fN),(.int .i64 z4H.fD)]) aggT_40 rfl rfl (rd_all .h1)) ?_
 refine WL.b (dd:=8) rfl rfl rfl (zi (l:=[.const (.string ⟨#[42]⟩),.tmp 6,.tmp 7]) Tryz.call53 (.cons rfl (.cons rfl (.cons rfl .nil)))) (.nil : Sel [stb zhZ 40 [(.int .i64 0),(.int .i64 0)],stb zhY 40 [(.int .i64 z4H.fN),(.int .i64 z4H.fD)],stb zhX 40 [(.int .i64 z4G.fN),(.int .i64 z4G.fD)]] [] [stb zhZ 40 [(.int .i64 0),(.int .i64 0)],stb zhY 40 [(.int .i64 z4H.fN),(.int .i64 z4H.fD)],stb zhX 40 [(.int .i64 z4G.fN),(.int .i64 z4G.fD)]]) (fun w hw=>by have pz:=(hz.call hw (.nil : Sel [stb zhZ 40 [(.int .i64 0),(.int .i64 0)],stb zhY 40 [(.int .i64 z4H.fN),(.int .i64 z4H.fD)],stb zhX 40 [(.int .i64 z4G.fN),(.int .i64 z4G.fD)]] [] [stb zhZ 40 [(.int .i64 0),(.int .i64 0)],stb zhY 40 [(.int .i64 z4H.fN),(.int .i64 z4H.fD)],stb zhX 40 [(.int .i64 z4G.fN),(.int .i64 z4G.fD)]])); exact w_rat_dod (Z:=_)  (z13:=z4G) (z14:=z4H) (r:=zbL) w pz  zxi) ?_
 refine WL.a (d:=9) rfl rfl rfl (q_extract rfl rfl) ?_
 refine WL.a (d:=10) rfl rfl rfl (q_extract rfl rfl) ?_
 refine WL.eff0 rfl rfl (e_store (vs:=[(.int .i64 zbL.1.fN),(.int .i64 zbL.1.fD)]) (ds:=[(.int .i64 zbL.1.fN),(.int .i64 zbL.1.fD)]) sizT_40 rfl rfl rfl rfl (oc_cons rfl (oc_cons rfl oc_nil)) .here (Nat.le_of_ble_eq_true rfl) rfl) ?_
 refine WL.a (d:=5) rfl rfl rfl (q_z rfl) ?_
 refine WL.nil ?_
 refine WX.a ?_
 refine WC.ret ?_
 obtain rfl:=Option.some.inj h
 refine WX.bpRet Tryz.results39 (.agg rfl aggT_40 rfl (rd_all .here) (.tmp rfl .nil)) (fun w hw=>?_)
 exact ⟨ret2 rfl rfl,hw.sub .nil⟩
def m_curve_calc_value (z71 : z2c) (zU : z1) (z2T : z2) : Option (z2 × z2c) :=
 (m_curve_calc_do z71 (fun (y0 : z2) (y1 : z2)=>m_rat_Mul y0 y1) zU.fRate z2T).bind fun z8q=>(m_curve_calc_do z8q.2 (fun (y0 : z2) (y1 : z2)=>m_rat_Add y0 y1) zU.fBurst z8q.1).bind fun zbM=>some (zbM.1,zbM.2)
set_option maxRecDepth 20000 in
theorem w_curve_calc_value (Z : Zp)  (z4I : Nat) (z71 : z2c) (zU : z1) (z2T : z2) (r : z2 × z2c) (w₀ : World) (hz : PZ (fps [stb z4I 83 [(.int .i64 z71.fE)]]) w₀ Z)
  (h : m_curve_calc_value z71 zU z2T = some r)
  (hown : Hp (fps [stb z4I 83 [(.int .i64 z71.fE)]]) w₀ w₀ [stb z4I 83 [(.int .i64 z71.fE)]]) :
  Calls Tryz.prog 50 #[(.pointer (some ⟨z4I,0,none⟩)),(.agg #[(.int .i64 zU.fBurst.fN),(.int .i64 zU.fBurst.fD),(.int .i64 zU.fRate.fN),(.int .i64 zU.fRate.fD)]),(.agg #[(.int .i64 z2T.fN),(.int .i64 z2T.fD)])] w₀ fun e w'=>e = .returned (.agg #[(.int .i64 r.1.fN),(.int .i64 r.1.fD)]) ∧ Hp (fps [stb z4I 83 [(.int .i64 z71.fE)]]) w₀ w' [stb z4I 83 [(.int .i64 r.2.fE)]]:=by
 unfold m_curve_calc_value at h
 refine Calls.ofWC (vs:=[(.pointer (some ⟨z4I,0,none⟩)),(.agg #[(.int .i64 zU.fBurst.fN),(.int .i64 zU.fBurst.fD),(.int .i64 zU.fRate.fN),(.int .i64 zU.fRate.fD)]),(.agg #[(.int .i64 z2T.fN),(.int .i64 z2T.fD)])]) (pre:=[stb z4I 83 [(.int .i64 z71.fE)]]) (env:=[(0,(.pointer (some ⟨z4I,0,none⟩))),(1,(.agg #[(.int .i64 zU.fBurst.fN),(.int .i64 zU.fBurst.fD),(.int .i64 zU.fRate.fN),(.int .i64 zU.fRate.fD)])),(2,(.agg #[(.int .i64 z2T.fN),(.int .i64 z2T.fD)]))]) Tryz.func50 rfl Tryz.ntmps50 rfl (hown) rfl ?_
 refine WC.b ?_
 refine WC.a ?_
 refine WL.new (dd:=4) rfl rfl rfl (e_box (cs:=[(.int .i64 zU.fBurst.fN),(.int .i64 zU.fBurst.fD),(.int .i64 zU.fRate.fN),(.int .i64 zU.fRate.fD)]) rfl rfl) ?_
 intro z7W _
 refine WL.new (dd:=5) rfl rfl rfl (e_box (cs:=[(.int .i64 z2T.fN),(.int .i64 z2T.fD)]) rfl rfl) ?_
 intro z8r _
 refine WL.new (dd:=6) rfl rfl rfl (e_alloc (cs:=[(.int .i64 0),(.int .i64 0)]) zeroT_40 rfl) ?_
 intro z8s _
 refine WL.nil ?_
 refine WX.a ?_
 refine WC.b ?_
 obtain ⟨z8q,zxj,h⟩:=z8 h
 obtain ⟨zbM,zxk,h⟩:=z8 h
 refine WC.draw (fun i=>[7,8,9].contains i) [stb z7W 54 [(.int .i64 zU.fBurst.fN),(.int .i64 zU.fBurst.fD),(.int .i64 zU.fRate.fN),(.int .i64 zU.fRate.fD)]] rfl ?_
 refine WD.a (i:=0) (d:=7) (by kernel_rfl) rfl (z6 (by kernel_rfl)) (z7 (by kernel_rfl)) rfl rfl rfl (fun _=>q_m rfl) ?_
 refine WD.a (i:=1) (d:=8) (by kernel_rfl) rfl (z6 (by kernel_rfl)) (z7 (by kernel_rfl)) rfl rfl rfl (fun _=>q_fieldAddr fo_54_0 rfl rfl) ?_
 refine WD.stable (i:=2) (d:=9) (by kernel_rfl) rfl (z6 (by kernel_rfl)) (z7 (by kernel_rfl)) rfl rfl rfl (Sin.of (.cons .h2 .nil)) (q_loadA (cs:=[(.int .i64 zU.fBurst.fN),(.int .i64 zU.fBurst.fD)]) aggT_40 rfl rfl (rd_sub (s:=2) .here rfl)) ?_
 refine WD.a (i:=3) (d:=10) (by kernel_rfl) rfl (z6 (by kernel_rfl)) (z7 (by kernel_rfl)) rfl rfl rfl (fun _=>q_m rfl) ?_
 refine WD.a (i:=4) (d:=11) (by kernel_rfl) rfl (z6 (by kernel_rfl)) (z7 (by kernel_rfl)) rfl rfl rfl (fun _=>q_fieldAddr fo_54_1 rfl rfl) ?_
 refine WD.e (i:=5) (d:=12) (by kernel_rfl) rfl (z6 (by kernel_rfl)) (z7 (by kernel_rfl)) rfl rfl rfl (q_loadA (cs:=[(.int .i64 zU.fRate.fN),(.int .i64 zU.fRate.fD)]) aggT_40 rfl rfl (rd_sub (s:=2) .h2 rfl)) ?_
 refine WD.e (i:=6) (d:=13) (by kernel_rfl) rfl (z6 (by kernel_rfl)) (z7 (by kernel_rfl)) rfl rfl rfl (q_loadA (cs:=[(.int .i64 z2T.fN),(.int .i64 z2T.fD)]) aggT_40 rfl rfl (rd_all .h1)) ?_
 refine WD.call0 (i:=7) (dd:=14) rfl (by kernel_rfl) rfl rfl rfl (.inl ⟨rfl,(Sin.of (.cons .h3 .nil))⟩) (zi (l:=[.tmp 10,.func 39,.tmp 12,.tmp 13]) Tryz.call67 (.cons rfl (.cons rfl (.cons rfl (.cons rfl .nil))))) ((.cons .h3 .nil) : Sel [stb z8s 40 [(.int .i64 0),(.int .i64 0)],stb z8r 40 [(.int .i64 z2T.fN),(.int .i64 z2T.fD)],stb z7W 54 [(.int .i64 zU.fBurst.fN),(.int .i64 zU.fBurst.fD),(.int .i64 zU.fRate.fN),(.int .i64 zU.fRate.fD)],stb z4I 83 [(.int .i64 z71.fE)]] [stb z4I 83 [(.int .i64 z71.fE)]] [stb z8s 40 [(.int .i64 0),(.int .i64 0)],stb z8r 40 [(.int .i64 z2T.fN),(.int .i64 z2T.fD)],stb z7W 54 [(.int .i64 zU.fBurst.fN),(.int .i64 zU.fBurst.fD),(.int .i64 zU.fRate.fN),(.int .i64 zU.fRate.fD)]]) (fun w hw=>by have pz:=(hz.call hw ((.cons .h3 .nil) : Sel [stb z8s 40 [(.int .i64 0),(.int .i64 0)],stb z8r 40 [(.int .i64 z2T.fN),(.int .i64 z2T.fD)],stb z7W 54 [(.int .i64 zU.fBurst.fN),(.int .i64 zU.fBurst.fD),(.int .i64 zU.fRate.fN),(.int .i64 zU.fRate.fD)],stb z4I 83 [(.int .i64 z71.fE)]] [stb z4I 83 [(.int .i64 z71.fE)]] [stb z8s 40 [(.int .i64 0),(.int .i64 0)],stb z8r 40 [(.int .i64 z2T.fN),(.int .i64 z2T.fD)],stb z7W 54 [(.int .i64 zU.fBurst.fN),(.int .i64 zU.fBurst.fD),(.int .i64 zU.fRate.fN),(.int .i64 zU.fRate.fD)]])); exact Calls.mono (w_curve_calc_do (Z:=_) (z7y:=z4I) (z8f:=39) (z9t:=[]) (z7x:=z71) (zai:=(fun (y0 : z2) (y1 : z2)=>m_rat_Mul y0 y1)) (z5I:=zU.fRate) (z5J:=z2T) (r:=z8q) w pz Tryz.call39 (fun w' hz' y0 y1  r  hr=>w_rat_Mul (Z:=_)  (z4G:=y0) (z4H:=y1) (r:=r) w' hz'  hr) zxj (hw.owns ((.cons .h3 .nil) : Sel [stb z8s 40 [(.int .i64 0),(.int .i64 0)],stb z8r 40 [(.int .i64 z2T.fN),(.int .i64 z2T.fD)],stb z7W 54 [(.int .i64 zU.fBurst.fN),(.int .i64 zU.fBurst.fD),(.int .i64 zU.fRate.fN),(.int .i64 zU.fRate.fD)],stb z4I 83 [(.int .i64 z71.fE)]] [stb z4I 83 [(.int .i64 z71.fE)]] [stb z8s 40 [(.int .i64 0),(.int .i64 0)],stb z8r 40 [(.int .i64 z2T.fN),(.int .i64 z2T.fD)],stb z7W 54 [(.int .i64 zU.fBurst.fN),(.int .i64 zU.fBurst.fD),(.int .i64 zU.fRate.fN),(.int .i64 zU.fRate.fD)]]))) (fun _ _ h'=>⟨h'.1,trivial,h'.2⟩)) ?_
 intro _
 refine WD.call0 (i:=8) (dd:=15) rfl (by kernel_rfl) rfl rfl rfl (.inl ⟨rfl,(Sin.of (.cons .h3 .nil))⟩) (zi (l:=[.tmp 7,.func 31,.tmp 9,.tmp 14]) Tryz.call67 (.cons rfl (.cons rfl (.cons rfl (.cons rfl .nil))))) ((.cons .here .nil) : Sel [stb z4I 83 [(.int .i64 z8q.2.fE)],stb z8s 40 [(.int .i64 0),(.int .i64 0)],stb z8r 40 [(.int .i64 z2T.fN),(.int .i64 z2T.fD)],stb z7W 54 [(.int .i64 zU.fBurst.fN),(.int .i64 zU.fBurst.fD),(.int .i64 zU.fRate.fN),(.int .i64 zU.fRate.fD)]] [stb z4I 83 [(.int .i64 z8q.2.fE)]] [stb z8s 40 [(.int .i64 0),(.int .i64 0)],stb z8r 40 [(.int .i64 z2T.fN),(.int .i64 z2T.fD)],stb z7W 54 [(.int .i64 zU.fBurst.fN),(.int .i64 zU.fBurst.fD),(.int .i64 zU.fRate.fN),(.int .i64 zU.fRate.fD)]]) (fun w hw=>by have pz:=(hz.call hw ((.cons .here .nil) : Sel [stb z4I 83 [(.int .i64 z8q.2.fE)],stb z8s 40 [(.int .i64 0),(.int .i64 0)],stb z8r 40 [(.int .i64 z2T.fN),(.int .i64 z2T.fD)],stb z7W 54 [(.int .i64 zU.fBurst.fN),(.int .i64 zU.fBurst.fD),(.int .i64 zU.fRate.fN),(.int .i64 zU.fRate.fD)]] [stb z4I 83 [(.int .i64 z8q.2.fE)]] [stb z8s 40 [(.int .i64 0),(.int .i64 0)],stb z8r 40 [(.int .i64 z2T.fN),(.int .i64 z2T.fD)],stb z7W 54 [(.int .i64 zU.fBurst.fN),(.int .i64 zU.fBurst.fD),(.int .i64 zU.fRate.fN),(.int .i64 zU.fRate.fD)]])); exact Calls.mono (w_curve_calc_do (Z:=_) (z7y:=z4I) (z8f:=31) (z9t:=[]) (z7x:=z8q.2) (zai:=(fun (y0 : z2) (y1 : z2)=>m_rat_Add y0 y1)) (z5I:=zU.fBurst) (z5J:=z8q.1) (r:=zbM) w pz Tryz.call31 (fun w' hz' y0 y1  r  hr=>w_rat_Add (Z:=_)  (z44:=y0) (z47:=y1) (r:=r) w' hz'  hr) zxk (hw.owns ((.cons .here .nil) : Sel [stb z4I 83 [(.int .i64 z8q.2.fE)],stb z8s 40 [(.int .i64 0),(.int .i64 0)],stb z8r 40 [(.int .i64 z2T.fN),(.int .i64 z2T.fD)],stb z7W 54 [(.int .i64 zU.fBurst.fN),(.int .i64 zU.fBurst.fD),(.int .i64 zU.fRate.fN),(.int .i64 zU.fRate.fD)]] [stb z4I 83 [(.int .i64 z8q.2.fE)]] [stb z8s 40 [(.int .i64 0),(.int .i64 0)],stb z8r 40 [(.int .i64 z2T.fN),(.int .i64 z2T.fD)],stb z7W 54 [(.int .i64 zU.fBurst.fN),(.int .i64 zU.fBurst.fD),(.int .i64 zU.fRate.fN),(.int .i64 zU.fRate.fD)]]))) (fun _ _ h'=>⟨h'.1,trivial,h'.2⟩)) ?_
 intro _
 refine WD.last0 (i:=9) rfl (by kernel_rfl) rfl rfl rfl (by kernel_rfl) (e_store (vs:=[(.int .i64 zbM.1.fN),(.int .i64 zbM.1.fD)]) (ds:=[(.int .i64 zbM.1.fN),(.int .i64 zbM.1.fD)]) sizT_40 rfl rfl rfl rfl (oc_cons rfl (oc_cons rfl oc_nil)) .h1 (Nat.le_of_ble_eq_true rfl) rfl) ?_
 refine WD.done (by kernel_rfl) ?_
 refine WX.a ?_
 refine WC.ret ?_
 obtain rfl:=Option.some.inj h
 refine WX.bpRet Tryz.results50 (.agg rfl aggT_40 rfl (rd_all .here) .nil) (fun w hw=>?_)
 exact ⟨ret1 rfl,hw.sub (.cons .h1 .nil)⟩
def m_slices_MinFunc_api_Rat_api_Rat_L2 (z2e : List z2) (z96 : z2 → z2 → Option Int) (zaB : Int → Int → Option z2) : Nat → Int → Int → Int → Option z2
 | 0,_,_,_=>none
 | zlz + 1,z3e,z72,z73=>if decide (z3e < ((z2e.length : Nat) : Int)) then jp2 (fun (zaC : Int) (zaD : Int)=>m_slices_MinFunc_api_Rat_api_Rat_L2 z2e z96 zaB zlz (i64 (z3e + 1)) zaC zaD) fun zi0=>chk ((0 : Int) ≤ z3e ∧ z3e < ((z2e.length : Nat) : Int)) ((z96 (⟨((nth z2e z3e).fN),((nth z2e z3e).fD)⟩ : z2) (⟨z72,z73⟩ : z2)).bind fun zlA=>if decide (zlA < 0) then chk ((0 : Int) ≤ z3e ∧ z3e < ((z2e.length : Nat) : Int)) (zi0 ((nth z2e z3e).fN) ((nth z2e z3e).fD)) else zi0 z72 z73) else zaB z72 z73
theorem m_slices_MinFunc_api_Rat_api_Rat_L2_fuel {n : Nat} {z2e : List z2} {z96 : z2 → z2 → Option Int} {zaB : Int → Int → Option z2} {z3e : Int} {z72 : Int} {z73 : Int} {r : z2} (h : m_slices_MinFunc_api_Rat_api_Rat_L2 z2e z96 zaB n z3e z72 z73 = some r) : ∃ m,n = m + 1:=by
 cases n with
 | zero=>cases h
 | succ m=>exact ⟨m,rfl⟩
def m_slices_MinFunc_api_Rat_api_Rat (z2e : List z2) (z96 : z2 → z2 → Option Int) : Option z2 :=
 if decide (((z2e.length : Nat) : Int) < 1) then none else chk ((0 : Int) ≤ 0 ∧ 0 < ((z2e.length : Nat) : Int)) (jp2 (fun (z97 : Int) (z98 : Int)=>some (⟨z97,z98⟩ : z2)) fun zaB=>m_slices_MinFunc_api_Rat_api_Rat_L2 z2e z96 zaB FUEL 1 ((nth z2e 0).fN) ((nth z2e 0).fD))
set_option maxRecDepth 20000 in
theorem w_slices_MinFunc_api_Rat_api_Rat (Z : Zp)  (zd2 : Option Addr) (zd3 : Nat) (z9D : FuncId) (zbN : List Value) (z2e : List z2) (z96 : z2 → z2 → Option Int) (r : z2) (w₀ : World) (hz : PZ [] w₀ Z)
  (zlB : ZS Z 2 (fun r x=>r = e40 x) zd2 zd3 z2e)
  (zxl : ∀ args w,(callFunc z9D args).run Tryz.prog w = .ok (.enter z9D args) w)
  (zxm : ∀ w : World,PZ [] w Z → ∀ (x0 : z2) (x1 : z2) (r : Int),z96 x0 x1 = some r → Calls Tryz.prog z9D (([(.agg #[(.int .i64 x0.fN),(.int .i64 x0.fD)]),(.agg #[(.int .i64 x1.fN),(.int .i64 x1.fD)])] : List Value) ++ zbN).toArray w fun e w'=>e = .returned (.int .i64 r) ∧ Hp [] w w' [])
  (h : m_slices_MinFunc_api_Rat_api_Rat z2e z96 = some r) :
  Calls Tryz.prog 42 #[(.slice zd2 z2e.length zd3),(.func (.func z9D) #[] (zbN).toArray)] w₀ fun e w'=>e = .returned (.agg #[(.int .i64 r.fN),(.int .i64 r.fD)]) ∧ Hp [] w₀ w' []:=by
 unfold m_slices_MinFunc_api_Rat_api_Rat at h
 refine Calls.ofWC (vs:=[(.slice zd2 z2e.length zd3),(.func (.func z9D) #[] (zbN).toArray)]) (pre:=[]) (env:=[(0,(.slice zd2 z2e.length zd3)),(1,(.func (.func z9D) #[] (zbN).toArray))]) Tryz.func42 rfl Tryz.ntmps42 rfl (Hp.nil w₀ _) rfl ?_
 refine WC.b ?_
 refine WC.a ?_
 refine WL.new (dd:=4) rfl rfl rfl (e_alloc (cs:=[(.int .i64 0),(.int .i64 0)]) zeroT_40 rfl) ?_
 intro zet _
 refine WL.nil ?_
 refine WX.a ?_
 refine WC.b ?_
 refine WC.b ?_
 refine WC.a ?_
 refine WL.a (d:=7) rfl rfl rfl (q_m rfl) ?_
 refine WL.a (d:=8) rfl rfl rfl (q_len Tryz.underlying65 rfl) ?_
 refine WL.a (d:=9) rfl rfl rfl (q_lss rfl rfl) ?_
 refine WL.nil ?_
 refine WX.a ?_
 refine WC.cond rfl (fun zlC=>?_) (fun zlC=>?_)
 ·replace h:=ite_t h zlC
  cases h
 ·replace h:=ite_f h zlC
  refine WC.skip ?_
  refine WX.a ?_
  refine WC.b ?_
  obtain ⟨zxn,h⟩:=chk_elim h
  refine WC.a ?_
  refine WL.a (d:=11) rfl rfl rfl (q_m rfl) ?_
  refine WL.znth (dd:=12) rfl rfl (Z:=Z) (Pr:=(fun r x=>r = e40 x)) elT_65 rfl rfl zlB zxn ?_
  rintro zD0 zD1 zxo zD2 rfl
  refine WL.a (d:=13) rfl rfl rfl (q_loadA (cs:=[(.int .i64 ((nth z2e 0).fN)),(.int .i64 ((nth z2e 0).fD))]) aggT_40 rfl rfl (rd_zs hz.pv zxo)) ?_
  refine WL.new (dd:=5) rfl rfl rfl (e_alloc (cs:=[(.int .i64 0),(.int .i64 0)]) zeroT_40 rfl) ?_
  intro zeu _
  refine WL.eff0 rfl rfl (e_store (vs:=[(.int .i64 ((nth z2e 0).fN)),(.int .i64 ((nth z2e 0).fD))]) (ds:=[(.int .i64 ((nth z2e 0).fN)),(.int .i64 ((nth z2e 0).fD))]) sizT_40 rfl rfl rfl rfl (oc_cons rfl (oc_cons rfl oc_nil)) .here (Nat.le_of_ble_eq_true rfl) rfl) ?_
  refine WL.nil ?_
  refine WX.a ?_
  obtain ⟨zaB,zxp,h⟩:=jp2_elim h
  refine WC.seqMid2 (fun (z97 : Int) (z98 : Int)=>(zaB z97 z98 = some r)) (fun (z97 : Int) (z98 : Int)=>[(4,(.pointer (some ⟨zet,0,none⟩))),(5,(.pointer (some ⟨zeu,0,none⟩)))]) (fun (z97 : Int) (z98 : Int)=>[stb zet 40 [(.int .i64 0),(.int .i64 0)],stb zeu 40 [(.int .i64 z97),(.int .i64 z98)]]) ?_ ?_
  ·skip
   refine WC.b ?_
   refine WC.a ?_
   refine WL.a (d:=6) rfl rfl rfl (q_z rfl) ?_
   refine WL.nil ?_
   refine WX.a ?_
   refine WC.block ?_
   refine WC.loop4 (fun (zev : Nat) (z3e : Int) (z72 : Int) (z73 : Int)=>(m_slices_MinFunc_api_Rat_api_Rat_L2 z2e z96 zaB zev z3e z72 z73 = some r)) (fun (zev : Nat) (z3e : Int) (z72 : Int) (z73 : Int)=>[(0,(.slice zd2 z2e.length zd3)),(1,(.func (.func z9D) #[] (zbN).toArray)),(4,(.pointer (some ⟨zet,0,none⟩))),(5,(.pointer (some ⟨zeu,0,none⟩))),(6,(.int .i64 z3e))]) (fun (zev : Nat) (z3e : Int) (z72 : Int) (z73 : Int)=>[stb zet 40 [(.int .i64 0),(.int .i64 0)],stb zeu 40 [(.int .i64 z72),(.int .i64 z73)]]) (fun (zev : Nat) (z3e : Int) (z72 : Int) (z73 : Int)=>zev) ⟨FUEL,1,((nth z2e 0).fN),((nth z2e 0).fD)⟩ h (.cons rfl (.cons rfl (.cons rfl (.cons rfl (.cons rfl .nil))))) (.cons .h1 (.cons .here .nil)) ?_
   rintro zev z3e z72 z73 h
   obtain ⟨zlz,rfl⟩:=m_slices_MinFunc_api_Rat_api_Rat_L2_fuel h
   rw [m_slices_MinFunc_api_Rat_api_Rat_L2] at h
   refine WC.b ?_
   refine WC.b ?_
   refine WC.a ?_
   refine WL.a (d:=14) rfl rfl rfl (q_m rfl) ?_
   refine WL.a (d:=15) rfl rfl rfl (q_m rfl) ?_
   refine WL.a (d:=16) rfl rfl rfl (q_len Tryz.underlying65 rfl) ?_
   refine WL.a (d:=17) rfl rfl rfl (q_lss rfl rfl) ?_
   refine WL.nil ?_
   refine WX.a ?_
   refine WC.cond rfl (fun zlD=>?_) (fun zlD=>?_)
   ·replace h:=ite_t h zlD
    refine WC.skip ?_
    refine WX.a ?_
    obtain ⟨zi0,zxq,h⟩:=jp2_elim h
    refine WC.seqMid2 (fun (zaC : Int) (zaD : Int)=>(zi0 zaC zaD = some r)) (fun (zaC : Int) (zaD : Int)=>[(0,(.slice zd2 z2e.length zd3)),(1,(.func (.func z9D) #[] (zbN).toArray)),(4,(.pointer (some ⟨zet,0,none⟩))),(5,(.pointer (some ⟨zeu,0,none⟩))),(6,(.int .i64 z3e))]) (fun (zaC : Int) (zaD : Int)=>[stb zet 40 [(.int .i64 0),(.int .i64 0)],stb zeu 40 [(.int .i64 zaC),(.int .i64 zaD)]]) ?_ ?_
    ·skip
     refine WC.block ?_
     refine WC.b ?_
     obtain ⟨zxr,h⟩:=chk_elim h
     obtain ⟨zlA,zxs,h⟩:=z8 h
     refine WC.draw (fun i=>[].contains i) [] rfl ?_
     refine WD.a (i:=0) (d:=20) (by kernel_rfl) rfl (z6 (by kernel_rfl)) (z7 (by kernel_rfl)) rfl rfl rfl (fun _=>q_m rfl) ?_
     refine WD.a (i:=1) (d:=21) (by kernel_rfl) rfl (z6 (by kernel_rfl)) (z7 (by kernel_rfl)) rfl rfl rfl (fun _=>q_m rfl) ?_
     refine WD.a (i:=2) (d:=22) (by kernel_rfl) rfl (z6 (by kernel_rfl)) (z7 (by kernel_rfl)) rfl rfl rfl (fun _=>q_m rfl) ?_
     refine WD.znth (j:=3) (dd:=23) (by kernel_rfl) rfl (z6 (by kernel_rfl)) (z7 (by kernel_rfl)) rfl rfl (Z:=Z) (Pr:=(fun r x=>r = e40 x)) elT_65 rfl rfl zlB zxr ?_
     rintro zD3 zD4 zxt zD5 rfl
     refine WD.e (i:=4) (d:=24) (by kernel_rfl) rfl (z6 (by kernel_rfl)) (z7 (by kernel_rfl)) rfl rfl rfl (q_loadA (cs:=[(.int .i64 ((nth z2e z3e).fN)),(.int .i64 ((nth z2e z3e).fD))]) aggT_40 rfl rfl (rd_zs hz.pv zxt)) ?_
     refine WD.e (i:=5) (d:=25) (by kernel_rfl) rfl (z6 (by kernel_rfl)) (z7 (by kernel_rfl)) rfl rfl rfl (q_loadA (cs:=[(.int .i64 z72),(.int .i64 z73)]) aggT_40 rfl rfl (rd_all .h1)) ?_
     refine WD.c (i:=6) (d:=26) (by kernel_rfl) rfl (z6 (by kernel_rfl)) (z7 (by kernel_rfl)) rfl rfl rfl (run_callv (l:=[.tmp 24,.tmp 25]) (f:=z9D) (caps:=zbN) zxl rfl (.cons rfl (.cons rfl .nil))) (fun w hw=>zxm w (hz.now hw) (⟨((nth z2e z3e).fN),((nth z2e z3e).fD)⟩ : z2) (⟨z72,z73⟩ : z2) zlA  zxs) ?_
     refine WD.a (i:=7) (d:=27) (by kernel_rfl) rfl (z6 (by kernel_rfl)) (z7 (by kernel_rfl)) rfl rfl rfl (fun _=>q_lss rfl rfl) ?_
     refine WD.done (by kernel_rfl) ?_
     refine WX.a ?_
     refine WC.cond rfl (fun zlE=>?_) (fun zlE=>?_)
     ·replace h:=ite_t h zlE
      obtain ⟨zxu,h⟩:=chk_elim h
      refine WC.a ?_
      refine WL.a (d:=28) rfl rfl rfl (q_m rfl) ?_
      refine WL.a (d:=29) rfl rfl rfl (q_m rfl) ?_
      refine WL.znth (dd:=30) rfl rfl (Z:=Z) (Pr:=(fun r x=>r = e40 x)) elT_65 rfl rfl zlB zxu ?_
      rintro zD6 zD7 zxv zD8 rfl
      refine WL.a (d:=31) rfl rfl rfl (q_loadA (cs:=[(.int .i64 ((nth z2e z3e).fN)),(.int .i64 ((nth z2e z3e).fD))]) aggT_40 rfl rfl (rd_zs hz.pv zxv)) ?_
      refine WL.eff0 rfl rfl (e_store (vs:=[(.int .i64 ((nth z2e z3e).fN)),(.int .i64 ((nth z2e z3e).fD))]) (ds:=[(.int .i64 ((nth z2e z3e).fN)),(.int .i64 ((nth z2e z3e).fD))]) sizT_40 rfl rfl rfl rfl (oc_cons rfl (oc_cons rfl oc_nil)) .h1 (Nat.le_of_ble_eq_true rfl) rfl) ?_
      refine WL.nil ?_
      refine WX.blockNormal ?_
      exact WX.mid (G:=Int × Int) ⟨((nth z2e z3e).fN),((nth z2e z3e).fD)⟩ h (.cons rfl (.cons rfl (.cons rfl (.cons rfl (.cons rfl .nil))))) (.cons .h1 (.cons .here .nil))
     ·replace h:=ite_f h zlE
      refine WC.skip ?_
      refine WX.blockNormal ?_
      exact WX.mid (G:=Int × Int) ⟨z72,z73⟩ h (.cons rfl (.cons rfl (.cons rfl (.cons rfl (.cons rfl .nil))))) (.cons .here (.cons .here .nil))
    ·rintro zaC zaD h
     replace h:=(zxq zaC zaD).symm.trans h
     refine WC.a ?_
     refine WL.a (d:=18) rfl rfl rfl (q_m rfl) ?_
     refine WL.a (d:=19) rfl rfl rfl (q_add rfl rfl rfl) ?_
     refine WL.a (d:=6) rfl rfl rfl (q_z rfl) ?_
     refine WL.nil ?_
     exact WX.round (G:=Nat × Int × Int × Int) ⟨zlz,(i64 (z3e + 1)),zaC,zaD⟩ h (Nat.lt_succ_self _) (.cons rfl (.cons rfl (.cons rfl (.cons rfl (.cons rfl .nil))))) (.cons .here (.cons .here .nil))
   ·replace h:=ite_f h zlD
    refine WC.exit ?_
    refine WX.thenExit ?_
    refine WX.thenExit ?_
    refine WX.blockHit ?_
    exact WX.mid (G:=Int × Int) ⟨z72,z73⟩ h (.cons rfl (.cons rfl .nil)) (.cons .here (.cons .here .nil))
  ·rintro z97 z98 h
   replace h:=(zxp z97 z98).symm.trans h
   refine WC.b ?_
   refine WC.a ?_
   refine WL.a (d:=32) rfl rfl rfl (q_loadA (cs:=[(.int .i64 z97),(.int .i64 z98)]) aggT_40 rfl rfl (rd_all .h1)) ?_
   refine WL.eff0 rfl rfl (e_store (vs:=[(.int .i64 z97),(.int .i64 z98)]) (ds:=[(.int .i64 z97),(.int .i64 z98)]) sizT_40 rfl rfl rfl rfl (oc_cons rfl (oc_cons rfl oc_nil)) .here (Nat.le_of_ble_eq_true rfl) rfl) ?_
   refine WL.nil ?_
   refine WX.a ?_
   refine WC.ret ?_
   obtain rfl:=Option.some.inj h
   refine WX.bpRet Tryz.results42 (.agg rfl aggT_40 rfl (rd_all .here) .nil) (fun w hw=>?_)
   exact ⟨ret1 rfl,hw.sub .nil⟩
def m_curve_At_L2 (z1f : List z1) (z1V : z2) (zaE : (List z2) → Int → Option (z2 × Int)) : Nat → (List z2) → Int → Int → Option (z2 × Int)
 | 0,_,_,_=>none
 | zlF + 1,z3x,z1H,z5P=>if decide (z1H < ((z1f.length : Nat) : Int)) then chk ((0 : Int) ≤ z1H ∧ z1H < ((z1f.length : Nat) : Int)) ((m_curve_calc_value (⟨z5P⟩ : z2c) (⟨(⟨(((nth z1f z1H).fBurst).fN),(((nth z1f z1H).fBurst).fD)⟩ : z2),(⟨(((nth z1f z1H).fRate).fN),(((nth z1f z1H).fRate).fD)⟩ : z2)⟩ : z1) z1V).bind fun z9E=>chk ((((z3x ++ ([z9E.1] : List z2)).length : Nat) : Int) * 16 ≤ 140737488355328 ∧ (((z3x ++ ([z9E.1] : List z2)).length : Nat) : Int) ≤ 4611686018427387904) (m_curve_At_L2 z1f z1V zaE zlF (z3x ++ ([z9E.1] : List z2)) (i64 (z1H + 1)) z9E.2.fE)) else zaE z3x z5P
theorem m_curve_At_L2_fuel {n : Nat} {z1f : List z1} {z1V : z2} {zaE : (List z2) → Int → Option (z2 × Int)} {z3x : List z2} {z1H : Int} {z5P : Int} {r : z2 × Int} (h : m_curve_At_L2 z1f z1V zaE n z3x z1H z5P = some r) : ∃ m,n = m + 1:=by
 cases n with
 | zero=>cases h
 | succ m=>exact ⟨m,rfl⟩
def m_curve_At (z1f : List z1) (z1V : z2) : Option (z2 × Int) :=
 (m_curve_Valid z1f).bind fun zi1=>(if !zi1 then some true else (m_curve_good z1V).bind fun zlG=>some (!zlG)).bind fun zlH=>if zlH then some ((⟨0,0⟩ : z2),2) else jp2 (fun (z3a : List z2) (z6c : Int)=>if decide (z6c ≠ 0) then some ((⟨0,0⟩ : z2),z6c) else (m_slices_MinFunc_api_Rat_api_Rat z3a (fun (y0 : z2) (y1 : z2)=>m_rat_Cmp y0 y1)).bind fun zd4=>some (zd4,0)) fun zaE=>m_curve_At_L2 z1f z1V zaE FUEL ([] : List z2) 0 0
set_option maxRecDepth 20000 in
theorem w_curve_At (Z : Zp)  (zaF : Option Addr) (zaG : Nat) (z1f : List z1) (z1V : z2) (r : z2 × Int) (w₀ : World) (hz : PZ [] w₀ Z)
  (zqY : ZS Z 4 (fun r x=>r = e54 x) zaF zaG z1f)
  (h : m_curve_At z1f z1V = some r) :
  Calls Tryz.prog 23 #[(.slice zaF z1f.length zaG),(.agg #[(.int .i64 z1V.fN),(.int .i64 z1V.fD)])] w₀ fun e w'=>e = .returned (.tuple #[(.agg #[(.int .i64 r.1.fN),(.int .i64 r.1.fD)]),(.int .i64 r.2)]) ∧ Hp [] w₀ w' []:=by
 unfold m_curve_At at h
 refine Calls.ofWC (vs:=[(.slice zaF z1f.length zaG),(.agg #[(.int .i64 z1V.fN),(.int .i64 z1V.fD)])]) (pre:=[]) (env:=[(0,(.slice zaF z1f.length zaG)),(1,(.agg #[(.int .i64 z1V.fN),(.int .i64 z1V.fD)]))]) Tryz.func23 rfl Tryz.ntmps23 rfl (Hp.nil w₀ _) rfl ?_
 refine WC.b ?_
 refine WC.a ?_
 refine WL.new (dd:=3) rfl rfl rfl (e_box (cs:=[(.int .i64 z1V.fN),(.int .i64 z1V.fD)]) rfl rfl) ?_
 intro z6d _
 refine WL.new (dd:=4) rfl rfl rfl (e_alloc (cs:=[(.int .i64 0),(.int .i64 0)]) zeroT_40 rfl) ?_
 intro z3U _
 refine WL.a (d:=5) rfl rfl rfl (q_z rfl) ?_
 refine WL.nil ?_
 refine WX.a ?_
 refine WC.b ?_
 refine WC.b ?_
 obtain ⟨zi1,zxw,h⟩:=z8 h
 obtain ⟨zlH,zqZ,h⟩:=z8 h
 refine WC.a ?_
 refine WL.a (d:=10) rfl rfl rfl (q_m rfl) ?_
 refine WL.b (dd:=11) rfl rfl rfl (zi (l:=[.tmp 10]) Tryz.call21 (.cons rfl .nil)) (.nil : Sel [stb z3U 40 [(.int .i64 0),(.int .i64 0)],stb z6d 40 [(.int .i64 z1V.fN),(.int .i64 z1V.fD)]] [] [stb z3U 40 [(.int .i64 0),(.int .i64 0)],stb z6d 40 [(.int .i64 z1V.fN),(.int .i64 z1V.fD)]]) (fun w hw=>by have pz:=(hz.call hw (.nil : Sel [stb z3U 40 [(.int .i64 0),(.int .i64 0)],stb z6d 40 [(.int .i64 z1V.fN),(.int .i64 z1V.fD)]] [] [stb z3U 40 [(.int .i64 0),(.int .i64 0)],stb z6d 40 [(.int .i64 z1V.fN),(.int .i64 z1V.fD)]])); exact w_curve_Valid (Z:=_) (z8R:=zaF) (z8S:=zaG) (z5q:=z1f) (r:=zi1) w pz zqY zxw) ?_
 refine WL.a (d:=12) rfl rfl rfl (q_not rfl) ?_
 refine WL.a (d:=13) rfl rfl rfl (q_m rfl) ?_
 refine WL.cut0 True [(0,(.slice zaF z1f.length zaG)),(3,(.pointer (some ⟨z6d,0,none⟩))),(4,(.pointer (some ⟨z3U,0,none⟩))),(17,(.bool zlH))] [stb z3U 40 [(.int .i64 0),(.int .i64 0)],stb z6d 40 [(.int .i64 z1V.fN),(.int .i64 z1V.fD)]] 4 ?_ (fun _=>?_)
 ·rcases Bool.eq_false_or_eq_true (!zi1) with hb' | hb'
  ·have zr0:=hb'; clear hb'
   have zlI:=ite_t zqZ zr0
   replace zlI:=Option.some.inj zlI
   refine WL.pin (i:=13) rfl zr0 ?_
   refine WL.e rfl rfl rfl ?_
   refine WL.e rfl rfl rfl ?_
   refine WL.e rfl rfl rfl ?_
   refine WL.a (d:=17) rfl rfl rfl (q_pickT rfl rfl) ?_
   exact WL.cutEnd () trivial (.cons rfl (.cons rfl (.cons rfl (.cons (zf zlI) .nil)))) (.cons .here (.cons .here .nil))
  ·have zr1:=hb'; clear hb'
   have zfW:=ite_f zqZ zr1
   obtain ⟨zlG,zxx,zfW⟩:=z8 zfW
   replace zfW:=Option.some.inj zfW
   refine WL.pin (i:=13) rfl zr1 ?_
   refine WL.a (d:=14) rfl rfl rfl (q_loadA (cs:=[(.int .i64 z1V.fN),(.int .i64 z1V.fD)]) aggT_40 rfl rfl (rd_all .h1)) ?_
   refine WL.b (dd:=15) rfl rfl rfl (zi (l:=[.tmp 14]) Tryz.call49 (.cons rfl .nil)) (.nil : Sel [stb z3U 40 [(.int .i64 0),(.int .i64 0)],stb z6d 40 [(.int .i64 z1V.fN),(.int .i64 z1V.fD)]] [] [stb z3U 40 [(.int .i64 0),(.int .i64 0)],stb z6d 40 [(.int .i64 z1V.fN),(.int .i64 z1V.fD)]]) (fun w hw=>by have pz:=(hz.call hw (.nil : Sel [stb z3U 40 [(.int .i64 0),(.int .i64 0)],stb z6d 40 [(.int .i64 z1V.fN),(.int .i64 z1V.fD)]] [] [stb z3U 40 [(.int .i64 0),(.int .i64 0)],stb z6d 40 [(.int .i64 z1V.fN),(.int .i64 z1V.fD)]])); exact w_curve_good (Z:=_)  (z3G:=z1V) (r:=zlG) w pz  zxx) ?_
   refine WL.a (d:=16) rfl rfl rfl (q_not rfl) ?_
   refine WL.a (d:=17) rfl rfl rfl (q_pickF rfl rfl) ?_
   exact WL.cutEnd () trivial (.cons rfl (.cons rfl (.cons rfl (.cons (zf zfW) .nil)))) (.cons .here (.cons .here .nil))
 ·skip
  refine WL.nil ?_
  refine WX.a ?_
  refine WC.cond rfl (fun zlJ=>?_) (fun zlJ=>?_)
  ·replace h:=ite_t h zlJ
   refine WC.b ?_
   refine WC.a ?_
   refine WL.a (d:=18) rfl rfl rfl (q_build (v:=(.agg #[(.int .i64 0),(.int .i64 0)])) (Eos.parts (l:=[]) .nil []) (fun _=>by kernel_rfl)) ?_
   refine WL.eff0 rfl rfl (e_store (vs:=[(.int .i64 0),(.int .i64 0)]) (ds:=[(.int .i64 0),(.int .i64 0)]) sizT_40 rfl rfl rfl rfl (oc_cons rfl (oc_cons rfl oc_nil)) .here (Nat.le_of_ble_eq_true rfl) rfl) ?_
   refine WL.a (d:=5) rfl rfl rfl (q_z rfl) ?_
   refine WL.nil ?_
   refine WX.a ?_
   refine WC.ret ?_
   refine WX.thenRet ?_
   obtain rfl:=Option.some.inj h
   refine WX.bpRet Tryz.results23 (.agg rfl aggT_40 rfl (rd_all .here) (.tmp rfl .nil)) (fun w hw=>?_)
   exact ⟨ret2 rfl rfl,hw.sub .nil⟩
  ·replace h:=ite_f h zlJ
   refine WC.skip ?_
   refine WX.a ?_
   refine WC.b ?_
   refine WC.a ?_
   refine WL.new (dd:=6) rfl rfl rfl (e_alloc (cs:=[(.int .i64 0)]) zeroT_83 rfl) ?_
   intro z5B _
   refine WL.nil ?_
   refine WX.a ?_
   refine WC.b ?_
   refine WC.a ?_
   refine WL.a (d:=7) rfl rfl rfl (q_z rfl) ?_
   refine WL.nil ?_
   refine WX.a ?_
   obtain ⟨zaE,zxy,h⟩:=jp2_elim h
   refine WC.seqMid4 (fun (z3a : List z2) (z6c : Int) (z6e : Option Addr) (z6f : Nat)=>(zaE z3a z6c = some r)) (fun (z3a : List z2) (z6c : Int) (z6e : Option Addr) (z6f : Nat)=>[(4,(.pointer (some ⟨z3U,0,none⟩))),(6,(.pointer (some ⟨z5B,0,none⟩))),(7,(.slice z6e z3a.length z6f))]) (fun (z3a : List z2) (z6c : Int) (z6e : Option Addr) (z6f : Nat)=>[row (.slice z6e z3a.length z6f) 40 2 (z3a.flatMap e40),stb z3U 40 [(.int .i64 0),(.int .i64 0)],stb z5B 83 [(.int .i64 z6c)]]) ?_ ?_
   ·skip
    refine WC.b ?_
    refine WC.a ?_
    refine WL.a (d:=19) rfl rfl rfl (q_m rfl) ?_
    refine WL.a (d:=20) rfl rfl rfl (q_len Tryz.underlying23 rfl) ?_
    refine WL.a (d:=21) rfl rfl rfl (q_m rfl) ?_
    refine WL.nil ?_
    refine WX.a ?_
    refine WC.block ?_
    refine WC.nilRow 40 2 ?_
    refine WC.loop6 (fun (zew : Nat) (z3x : List z2) (z1H : Int) (z5P : Int) (z7X : Option Addr) (z7Y : Nat)=>(m_curve_At_L2 z1f z1V zaE zew z3x z1H z5P = some r)) (fun (zew : Nat) (z3x : List z2) (z1H : Int) (z5P : Int) (z7X : Option Addr) (z7Y : Nat)=>[(3,(.pointer (some ⟨z6d,0,none⟩))),(4,(.pointer (some ⟨z3U,0,none⟩))),(6,(.pointer (some ⟨z5B,0,none⟩))),(7,(.slice z7X z3x.length z7Y)),(19,(.slice zaF z1f.length zaG)),(20,(.int .i64 ((z1f.length : Nat) : Int))),(21,(.int .i64 z1H))]) (fun (zew : Nat) (z3x : List z2) (z1H : Int) (z5P : Int) (z7X : Option Addr) (z7Y : Nat)=>[row (.slice z7X z3x.length z7Y) 40 2 (z3x.flatMap e40),stb z6d 40 [(.int .i64 z1V.fN),(.int .i64 z1V.fD)],stb z3U 40 [(.int .i64 0),(.int .i64 0)],stb z5B 83 [(.int .i64 z5P)]]) (fun (zew : Nat) (z3x : List z2) (z1H : Int) (z5P : Int) (z7X : Option Addr) (z7Y : Nat)=>zew) ⟨FUEL,([] : List z2),0,0,none,0⟩ h (.cons rfl (.cons rfl (.cons rfl (.cons rfl (.cons rfl (.cons rfl (.cons rfl .nil))))))) (.cons .here (.cons .h2 (.cons .h1 (.cons .here .nil)))) ?_
    rintro zew z3x z1H z5P z7X z7Y h
    obtain ⟨zlF,rfl⟩:=m_curve_At_L2_fuel h
    rw [m_curve_At_L2] at h
    refine WC.b ?_
    refine WC.a ?_
    refine WL.a (d:=22) rfl rfl rfl (q_lss rfl rfl) ?_
    refine WL.nil ?_
    refine WX.a ?_
    refine WC.b ?_
    refine WC.cond rfl (fun zlK=>?_) (fun zlK=>?_)
    ·replace h:=ite_t h zlK
     refine WC.skip ?_
     refine WX.a ?_
     refine WC.b ?_
     refine WC.block ?_
     refine WC.b ?_
     obtain ⟨zxz,h⟩:=chk_elim h
     refine WC.a ?_
     refine WL.znth (dd:=23) rfl rfl (Z:=Z) (Pr:=(fun r x=>r = e54 x)) elT_23 rfl rfl zqY zxz ?_
     rintro zD9 zDa zxA zDb rfl
     refine WL.a (d:=24) rfl rfl rfl (q_loadA (cs:=[(.int .i64 (((nth z1f z1H).fBurst).fN)),(.int .i64 (((nth z1f z1H).fBurst).fD)),(.int .i64 (((nth z1f z1H).fRate).fN)),(.int .i64 (((nth z1f z1H).fRate).fD))]) aggT_54 rfl rfl (rd_zs hz.pv zxA)) ?_
     refine WL.new (dd:=9) rfl rfl rfl (e_alloc (cs:=[(.int .i64 0),(.int .i64 0),(.int .i64 0),(.int .i64 0)]) zeroT_54 rfl) ?_
     intro zex _
     refine WL.eff0 rfl rfl (e_store (vs:=[(.int .i64 (((nth z1f z1H).fBurst).fN)),(.int .i64 (((nth z1f z1H).fBurst).fD)),(.int .i64 (((nth z1f z1H).fRate).fN)),(.int .i64 (((nth z1f z1H).fRate).fD))]) (ds:=[(.int .i64 (((nth z1f z1H).fBurst).fN)),(.int .i64 (((nth z1f z1H).fBurst).fD)),(.int .i64 (((nth z1f z1H).fRate).fN)),(.int .i64 (((nth z1f z1H).fRate).fD))]) sizT_54 rfl rfl rfl rfl (oc_cons rfl (oc_cons rfl (oc_cons rfl (oc_cons rfl oc_nil)))) .here (Nat.le_of_ble_eq_true rfl) rfl) ?_
     refine WL.nil ?_
     refine WX.a ?_
     obtain ⟨z9E,zxB,h⟩:=z8 h
     obtain ⟨zxC,h⟩:=chk_elim h
     refine WC.a ?_
     refine WL.a (d:=25) rfl rfl rfl (q_m rfl) ?_
     refine WL.a (d:=26) rfl rfl rfl (q_loadA (cs:=[(.int .i64 (((nth z1f z1H).fBurst).fN)),(.int .i64 (((nth z1f z1H).fBurst).fD)),(.int .i64 (((nth z1f z1H).fRate).fN)),(.int .i64 (((nth z1f z1H).fRate).fD))]) aggT_54 rfl rfl (rd_all .here)) ?_
     refine WL.a (d:=27) rfl rfl rfl (q_loadA (cs:=[(.int .i64 z1V.fN),(.int .i64 z1V.fD)]) aggT_40 rfl rfl (rd_all .h2)) ?_
     refine WL.b (dd:=28) rfl rfl rfl (zi (l:=[.tmp 6,.tmp 26,.tmp 27]) Tryz.call50 (.cons rfl (.cons rfl (.cons rfl .nil)))) ((.cons .h4 .nil) : Sel [stb zex 54 [(.int .i64 (((nth z1f z1H).fBurst).fN)),(.int .i64 (((nth z1f z1H).fBurst).fD)),(.int .i64 (((nth z1f z1H).fRate).fN)),(.int .i64 (((nth z1f z1H).fRate).fD))],row (.slice z7X z3x.length z7Y) 40 2 (z3x.flatMap e40),stb z6d 40 [(.int .i64 z1V.fN),(.int .i64 z1V.fD)],stb z3U 40 [(.int .i64 0),(.int .i64 0)],stb z5B 83 [(.int .i64 z5P)]] [stb z5B 83 [(.int .i64 z5P)]] [stb zex 54 [(.int .i64 (((nth z1f z1H).fBurst).fN)),(.int .i64 (((nth z1f z1H).fBurst).fD)),(.int .i64 (((nth z1f z1H).fRate).fN)),(.int .i64 (((nth z1f z1H).fRate).fD))],row (.slice z7X z3x.length z7Y) 40 2 (z3x.flatMap e40),stb z6d 40 [(.int .i64 z1V.fN),(.int .i64 z1V.fD)],stb z3U 40 [(.int .i64 0),(.int .i64 0)]]) (fun w hw=>by have pz:=(hz.call hw ((.cons .h4 .nil) : Sel [stb zex 54 [(.int .i64 (((nth z1f z1H).fBurst).fN)),(.int .i64 (((nth z1f z1H).fBurst).fD)),(.int .i64 (((nth z1f z1H).fRate).fN)),(.int .i64 (((nth z1f z1H).fRate).fD))],row (.slice z7X z3x.length z7Y) 40 2 (z3x.flatMap e40),stb z6d 40 [(.int .i64 z1V.fN),(.int .i64 z1V.fD)],stb z3U 40 [(.int .i64 0),(.int .i64 0)],stb z5B 83 [(.int .i64 z5P)]] [stb z5B 83 [(.int .i64 z5P)]] [stb zex 54 [(.int .i64 (((nth z1f z1H).fBurst).fN)),(.int .i64 (((nth z1f z1H).fBurst).fD)),(.int .i64 (((nth z1f z1H).fRate).fN)),(.int .i64 (((nth z1f z1H).fRate).fD))],row (.slice z7X z3x.length z7Y) 40 2 (z3x.flatMap e40),stb z6d 40 [(.int .i64 z1V.fN),(.int .i64 z1V.fD)],stb z3U 40 [(.int .i64 0),(.int .i64 0)]])); exact w_curve_calc_value (Z:=_) (z4I:=z5B) (z71:=(⟨z5P⟩ : z2c)) (zU:=(⟨(⟨(((nth z1f z1H).fBurst).fN),(((nth z1f z1H).fBurst).fD)⟩ : z2),(⟨(((nth z1f z1H).fRate).fN),(((nth z1f z1H).fRate).fD)⟩ : z2)⟩ : z1)) (z2T:=z1V) (r:=z9E) w pz  zxB (hw.owns ((.cons .h4 .nil) : Sel [stb zex 54 [(.int .i64 (((nth z1f z1H).fBurst).fN)),(.int .i64 (((nth z1f z1H).fBurst).fD)),(.int .i64 (((nth z1f z1H).fRate).fN)),(.int .i64 (((nth z1f z1H).fRate).fD))],row (.slice z7X z3x.length z7Y) 40 2 (z3x.flatMap e40),stb z6d 40 [(.int .i64 z1V.fN),(.int .i64 z1V.fD)],stb z3U 40 [(.int .i64 0),(.int .i64 0)],stb z5B 83 [(.int .i64 z5P)]] [stb z5B 83 [(.int .i64 z5P)]] [stb zex 54 [(.int .i64 (((nth z1f z1H).fBurst).fN)),(.int .i64 (((nth z1f z1H).fBurst).fD)),(.int .i64 (((nth z1f z1H).fRate).fN)),(.int .i64 (((nth z1f z1H).fRate).fD))],row (.slice z7X z3x.length z7Y) 40 2 (z3x.flatMap e40),stb z6d 40 [(.int .i64 z1V.fN),(.int .i64 z1V.fD)],stb z3U 40 [(.int .i64 0),(.int .i64 0)]]))) ?_
     refine WL.new (dd:=29) rfl rfl rfl (e_buildSlice (cs:=([z9E.1] : List z2).flatMap e40) elT_65 (Eos.parts (l:=[.tmp 28]) (.cons rfl .nil) [0]) (fun _=>by kernel_rfl) rfl (by unfold maxLen; omega)) ?_
     intro zDc _
     refine WL.eff (d:=30) rfl rfl rfl (e_appendF (enc:=e40) (l1:=z3x) (l2:=([z9E.1] : List z2)) elT_65 rfl rfl .h3 (fun _=>rfl) rfl rfl (news_row .here) (oc_flat e40_oc _) zxC) ?_
     rintro ⟨zxD,zxE⟩ _
     refine WL.a (d:=7) rfl rfl rfl (q_z rfl) ?_
     refine WL.nil ?_
     refine WX.blockNormal ?_
     refine WX.a ?_
     refine WC.a ?_
     refine WL.a (d:=31) rfl rfl rfl (q_add rfl rfl rfl) ?_
     refine WL.a (d:=21) rfl rfl rfl (q_m rfl) ?_
     refine WL.nil ?_
     exact WX.round (G:=Nat × List z2 × Int × Int × Option Addr × Nat) ⟨zlF,(z3x ++ ([z9E.1] : List z2)),(i64 (z1H + 1)),z9E.2.fE,zxD,zxE⟩ h (Nat.lt_succ_self _) (.cons rfl (.cons rfl (.cons rfl (.cons rfl (.cons rfl (.cons rfl (.cons rfl .nil))))))) (.cons .here (.cons .h3 (.cons .h3 (.cons .h1 .nil))))
    ·replace h:=ite_f h zlK
     refine WC.exit ?_
     refine WX.thenExit ?_
     refine WX.thenExit ?_
     refine WX.blockHit ?_
     exact WX.mid (G:=List z2 × Int × Option Addr × Nat) ⟨z3x,z5P,z7X,z7Y⟩ h (.cons rfl (.cons rfl (.cons rfl .nil))) (.cons .here (.cons .h1 (.cons .h1 .nil)))
   ·rintro z3a z6c z6e z6f h
    replace h:=(zxy z3a z6c).symm.trans h
    refine WC.b ?_
    refine WC.b ?_
    refine WC.a ?_
    refine WL.a (d:=32) rfl rfl rfl (q_fieldAddr fo_83_0 rfl rfl) ?_
    refine WL.a (d:=33) rfl rfl rfl (q_load1 oneT_26 rfl (rd_stb .h2 rfl)) ?_
    refine WL.a (d:=34) rfl rfl rfl (q_neq rfl rfl) ?_
    refine WL.nil ?_
    refine WX.a ?_
    refine WC.cond rfl (fun zlL=>?_) (fun zlL=>?_)
    ·replace h:=ite_t h zlL
     refine WC.b ?_
     refine WC.draw (fun i=>[3].contains i) [stbp z5B 83 [(0,(.int .i64 z6c))]] rfl ?_
     refine WD.e (i:=0) (d:=35) (by kernel_rfl) rfl (z6 (by kernel_rfl)) (z7 (by kernel_rfl)) rfl rfl rfl (q_build (v:=(.agg #[(.int .i64 0),(.int .i64 0)])) (Eos.parts (l:=[]) .nil []) (fun _=>by kernel_rfl)) ?_
     refine WD.a (i:=1) (d:=36) (by kernel_rfl) rfl (z6 (by kernel_rfl)) (z7 (by kernel_rfl)) rfl rfl rfl (fun _=>q_fieldAddr fo_83_0 rfl rfl) ?_
     refine WD.stable (i:=2) (d:=37) (by kernel_rfl) rfl (z6 (by kernel_rfl)) (z7 (by kernel_rfl)) rfl rfl rfl (Sin.wk (.cons .h2 .nil) (.stb (.cons rfl .nil) .nil)) (q_load1 oneT_26 rfl (rd_stbp .here (.head _))) ?_
     refine WD.forced0 (i:=3) rfl (by kernel_rfl) rfl rfl rfl (Sin.wk (.cons .h2 .nil) (.stb (.cons rfl .nil) .nil)) (e_store (vs:=[(.int .i64 0),(.int .i64 0)]) (ds:=[(.int .i64 0),(.int .i64 0)]) sizT_40 rfl rfl rfl rfl (oc_cons rfl (oc_cons rfl oc_nil)) .h1 (Nat.le_of_ble_eq_true rfl) rfl) ?_
     refine WD.a (i:=4) (d:=5) (by kernel_rfl) rfl (z6 (by kernel_rfl)) (z7 (by kernel_rfl)) rfl rfl rfl (fun _=>q_z rfl) ?_
     refine WD.done (by kernel_rfl) ?_
     refine WX.a ?_
     refine WC.ret ?_
     refine WX.thenRet ?_
     obtain rfl:=Option.some.inj h
     refine WX.bpRet Tryz.results23 (.agg rfl aggT_40 rfl (rd_all .here) (.tmp rfl .nil)) (fun w hw=>?_)
     exact ⟨ret2 rfl rfl,hw.sub .nil⟩
    ·replace h:=ite_f h zlL
     refine WC.skip ?_
     refine WX.a ?_
     refine WC.b ?_
     obtain ⟨zd4,zxF,h⟩:=z8 h
     refine WC.a ?_
     refine WL.a (d:=38) rfl rfl rfl (q_m rfl) ?_
     refine WL.b (dd:=39) rfl rfl rfl (zi (l:=[.tmp 38,.func 24]) Tryz.call42 (.cons rfl (.cons rfl .nil))) (.nil : Sel [row (.slice z6e z3a.length z6f) 40 2 (z3a.flatMap e40),stb z3U 40 [(.int .i64 0),(.int .i64 0)],stb z5B 83 [(.int .i64 z6c)]] [] [row (.slice z6e z3a.length z6f) 40 2 (z3a.flatMap e40),stb z3U 40 [(.int .i64 0),(.int .i64 0)],stb z5B 83 [(.int .i64 z6c)]]) (fun w hw=>by have pz:=(hz.call hw (.nil : Sel [row (.slice z6e z3a.length z6f) 40 2 (z3a.flatMap e40),stb z3U 40 [(.int .i64 0),(.int .i64 0)],stb z5B 83 [(.int .i64 z6c)]] [] [row (.slice z6e z3a.length z6f) 40 2 (z3a.flatMap e40),stb z3U 40 [(.int .i64 0),(.int .i64 0)],stb z5B 83 [(.int .i64 z6c)]])).lend hw (.nil : Sel [row (.slice z6e z3a.length z6f) 40 2 (z3a.flatMap e40),stb z3U 40 [(.int .i64 0),(.int .i64 0)],stb z5B 83 [(.int .i64 z6c)]] [] [row (.slice z6e z3a.length z6f) 40 2 (z3a.flatMap e40),stb z3U 40 [(.int .i64 0),(.int .i64 0)],stb z5B 83 [(.int .i64 z6c)]]) (B:=[row (.slice z6e z3a.length z6f) 40 2 (z3a.flatMap e40)]) (fun _ hx'=>((.cons .here .nil) : Sel _ [row (.slice z6e z3a.length z6f) 40 2 (z3a.flatMap e40)] _).mem hx'); exact w_slices_MinFunc_api_Rat_api_Rat (Z:=_) (zd2:=z6e) (zd3:=z6f) (z9D:=24) (zbN:=[]) (z2e:=z3a) (z96:=(fun (y0 : z2) (y1 : z2)=>m_rat_Cmp y0 y1)) (r:=zd4) w pz (ZA.row (hw.lent (.nil : Sel [row (.slice z6e z3a.length z6f) 40 2 (z3a.flatMap e40),stb z3U 40 [(.int .i64 0),(.int .i64 0)],stb z5B 83 [(.int .i64 z6c)]] [] [row (.slice z6e z3a.length z6f) 40 2 (z3a.flatMap e40),stb z3U 40 [(.int .i64 0),(.int .i64 0)],stb z5B 83 [(.int .i64 z6c)]]) (B:=[row (.slice z6e z3a.length z6f) 40 2 (z3a.flatMap e40)]) (fun _ hx'=>((.cons .here .nil) : Sel _ [row (.slice z6e z3a.length z6f) 40 2 (z3a.flatMap e40)] _).mem hx') (.head _) _) (RR.flat (enc:=e40) (fun _=>rfl) _) ⟨w,pz.1⟩) Tryz.call24 (fun w' hz' y0 y1  r  hr=>w_rat_Cmp (Z:=_)  (z28:=y0) (z29:=y1) (r:=r) w' hz'  hr) zxF) ?_
     refine WL.eff0 rfl rfl (e_store (vs:=[(.int .i64 zd4.fN),(.int .i64 zd4.fD)]) (ds:=[(.int .i64 zd4.fN),(.int .i64 zd4.fD)]) sizT_40 rfl rfl rfl rfl (oc_cons rfl (oc_cons rfl oc_nil)) .h1 (Nat.le_of_ble_eq_true rfl) rfl) ?_
     refine WL.a (d:=5) rfl rfl rfl (q_z rfl) ?_
     refine WL.nil ?_
     refine WX.a ?_
     refine WC.ret ?_
     obtain rfl:=Option.some.inj h
     refine WX.bpRet Tryz.results23 (.agg rfl aggT_40 rfl (rd_all .here) (.tmp rfl .nil)) (fun w hw=>?_)
     exact ⟨ret2 rfl rfl,hw.sub .nil⟩
def m_calculus_calc_total_L2 (z5j : List (List z1)) (z1Z : z2) (zaH : Int → Int → Int → Option (z2 × z2c)) : Nat → Int → Int → Int → Int → Option (z2 × z2c)
 | 0,_,_,_,_=>none
 | zlM + 1,z6G,z6g,z4s,z4t=>if decide (z6G < ((z5j.length : Nat) : Int)) then chk ((0 : Int) ≤ z6G ∧ z6G < ((z5j.length : Nat) : Int)) ((m_curve_At (nth z5j z6G) z1Z).bind fun z3V=>jp1 (fun (z7g : Int)=>(m_calculus_calc_do (⟨z7g⟩ : z2c) (fun (y0 : z2) (y1 : z2)=>m_rat_Add y0 y1) (⟨z4s,z4t⟩ : z2) z3V.1).bind fun z8t=>m_calculus_calc_total_L2 z5j z1Z zaH zlM (i64 (z6G + 1)) z8t.2.fE z8t.1.fN z8t.1.fD) fun zi2=>if decide (z6g = 0) then zi2 z3V.2 else zi2 z6g) else zaH z4s z4t z6g
theorem m_calculus_calc_total_L2_fuel {n : Nat} {z5j : List (List z1)} {z1Z : z2} {zaH : Int → Int → Int → Option (z2 × z2c)} {z6G : Int} {z6g : Int} {z4s : Int} {z4t : Int} {r : z2 × z2c} (h : m_calculus_calc_total_L2 z5j z1Z zaH n z6G z6g z4s z4t = some r) : ∃ m,n = m + 1:=by
 cases n with
 | zero=>cases h
 | succ m=>exact ⟨m,rfl⟩
def m_calculus_calc_total (z7h : z2c) (z5j : List (List z1)) (z1Z : z2) : Option (z2 × z2c) :=
 (m_calculus_zero).bind fun z9F=>jp3 (fun (z99 : Int) (z9a : Int) (zbO : Int)=>some ((⟨z99,z9a⟩ : z2),(⟨zbO⟩ : z2c))) fun zaH=>m_calculus_calc_total_L2 z5j z1Z zaH FUEL 0 z7h.fE z9F.fN z9F.fD
set_option maxRecDepth 20000 in
theorem w_calculus_calc_total (Z : Zp)  (z3q : Nat) (zbP : Option Addr) (zbQ : Nat) (z7h : z2c) (z5j : List (List z1)) (z1Z : z2) (r : z2 × z2c) (w₀ : World) (hz : PZ (fps [stb z3q 87 [(.int .i64 z7h.fE)]]) w₀ Z)
  (zxG : ZS Z 1 (p23 Z) zbP zbQ z5j)
  (h : m_calculus_calc_total z7h z5j z1Z = some r)
  (hown : Hp (fps [stb z3q 87 [(.int .i64 z7h.fE)]]) w₀ w₀ [stb z3q 87 [(.int .i64 z7h.fE)]]) :
  Calls Tryz.prog 34 #[(.pointer (some ⟨z3q,0,none⟩)),(.slice zbP z5j.length zbQ),(.agg #[(.int .i64 z1Z.fN),(.int .i64 z1Z.fD)])] w₀ fun e w'=>e = .returned (.agg #[(.int .i64 r.1.fN),(.int .i64 r.1.fD)]) ∧ Hp (fps [stb z3q 87 [(.int .i64 z7h.fE)]]) w₀ w' [stb z3q 87 [(.int .i64 r.2.fE)]]:=by
 unfold m_calculus_calc_total at h
 refine Calls.ofWC (vs:=[(.pointer (some ⟨z3q,0,none⟩)),(.slice zbP z5j.length zbQ),(.agg #[(.int .i64 z1Z.fN),(.int .i64 z1Z.fD)])]) (pre:=[stb z3q 87 [(.int .i64 z7h.fE)]]) (env:=[(0,(.pointer (some ⟨z3q,0,none⟩))),(1,(.slice zbP z5j.length zbQ)),(2,(.agg #[(.int .i64 z1Z.fN),(.int .i64 z1Z.fD)]))]) Tryz.func34 rfl Tryz.ntmps34 rfl (hown) rfl ?_
 refine WC.b ?_
 refine WC.a ?_
 refine WL.new (dd:=5) rfl rfl rfl (e_box (cs:=[(.int .i64 z1Z.fN),(.int .i64 z1Z.fD)]) rfl rfl) ?_
 intro z6h _
 refine WL.new (dd:=6) rfl rfl rfl (e_alloc (cs:=[(.int .i64 0),(.int .i64 0)]) zeroT_40 rfl) ?_
 intro z5C _
 refine WL.nil ?_
 refine WX.a ?_
 refine WC.b ?_
 obtain ⟨z9F,zxH,h⟩:=z8 h
 refine WC.a ?_
 refine WL.b (dd:=12) rfl rfl rfl (zi (l:=[]) Tryz.call52 .nil) (.nil : Sel [stb z5C 40 [(.int .i64 0),(.int .i64 0)],stb z6h 40 [(.int .i64 z1Z.fN),(.int .i64 z1Z.fD)],stb z3q 87 [(.int .i64 z7h.fE)]] [] [stb z5C 40 [(.int .i64 0),(.int .i64 0)],stb z6h 40 [(.int .i64 z1Z.fN),(.int .i64 z1Z.fD)],stb z3q 87 [(.int .i64 z7h.fE)]]) (fun w hw=>by have pz:=(hz.call hw (.nil : Sel [stb z5C 40 [(.int .i64 0),(.int .i64 0)],stb z6h 40 [(.int .i64 z1Z.fN),(.int .i64 z1Z.fD)],stb z3q 87 [(.int .i64 z7h.fE)]] [] [stb z5C 40 [(.int .i64 0),(.int .i64 0)],stb z6h 40 [(.int .i64 z1Z.fN),(.int .i64 z1Z.fD)],stb z3q 87 [(.int .i64 z7h.fE)]])); exact w_calculus_zero (Z:=_)   (r:=z9F) w pz  zxH) ?_
 refine WL.new (dd:=7) rfl rfl rfl (e_alloc (cs:=[(.int .i64 0),(.int .i64 0)]) zeroT_40 rfl) ?_
 intro z74 _
 refine WL.eff0 rfl rfl (e_store (vs:=[(.int .i64 z9F.fN),(.int .i64 z9F.fD)]) (ds:=[(.int .i64 z9F.fN),(.int .i64 z9F.fD)]) sizT_40 rfl rfl rfl rfl (oc_cons rfl (oc_cons rfl oc_nil)) .here (Nat.le_of_ble_eq_true rfl) rfl) ?_
 refine WL.nil ?_
 refine WX.a ?_
 obtain ⟨zaH,zxI,h⟩:=jp3_elim h
 refine WC.seqMid3 (fun (z99 : Int) (z9a : Int) (zbO : Int)=>(zaH z99 z9a zbO = some r)) (fun (z99 : Int) (z9a : Int) (zbO : Int)=>[(6,(.pointer (some ⟨z5C,0,none⟩))),(7,(.pointer (some ⟨z74,0,none⟩)))]) (fun (z99 : Int) (z9a : Int) (zbO : Int)=>[stb z5C 40 [(.int .i64 0),(.int .i64 0)],stb z74 40 [(.int .i64 z99),(.int .i64 z9a)],stb z3q 87 [(.int .i64 zbO)]]) ?_ ?_
 ·skip
  refine WC.b ?_
  refine WC.a ?_
  refine WL.a (d:=13) rfl rfl rfl (q_m rfl) ?_
  refine WL.a (d:=14) rfl rfl rfl (q_len Tryz.underlying38 rfl) ?_
  refine WL.a (d:=15) rfl rfl rfl (q_m rfl) ?_
  refine WL.nil ?_
  refine WX.a ?_
  refine WC.block ?_
  refine WC.loop5 (fun (zey : Nat) (z6G : Int) (z6g : Int) (z4s : Int) (z4t : Int)=>(m_calculus_calc_total_L2 z5j z1Z zaH zey z6G z6g z4s z4t = some r)) (fun (zey : Nat) (z6G : Int) (z6g : Int) (z4s : Int) (z4t : Int)=>[(0,(.pointer (some ⟨z3q,0,none⟩))),(5,(.pointer (some ⟨z6h,0,none⟩))),(6,(.pointer (some ⟨z5C,0,none⟩))),(7,(.pointer (some ⟨z74,0,none⟩))),(13,(.slice zbP z5j.length zbQ)),(14,(.int .i64 ((z5j.length : Nat) : Int))),(15,(.int .i64 z6G))]) (fun (zey : Nat) (z6G : Int) (z6g : Int) (z4s : Int) (z4t : Int)=>[stb z3q 87 [(.int .i64 z6g)],stb z6h 40 [(.int .i64 z1Z.fN),(.int .i64 z1Z.fD)],stb z5C 40 [(.int .i64 0),(.int .i64 0)],stb z74 40 [(.int .i64 z4s),(.int .i64 z4t)]]) (fun (zey : Nat) (z6G : Int) (z6g : Int) (z4s : Int) (z4t : Int)=>zey) ⟨FUEL,0,z7h.fE,z9F.fN,z9F.fD⟩ h (.cons rfl (.cons rfl (.cons rfl (.cons rfl (.cons rfl (.cons rfl (.cons rfl .nil))))))) (.cons .h3 (.cons .h2 (.cons .h1 (.cons .here .nil)))) ?_
  rintro zey z6G z6g z4s z4t h
  obtain ⟨zlM,rfl⟩:=m_calculus_calc_total_L2_fuel h
  rw [m_calculus_calc_total_L2] at h
  refine WC.b ?_
  refine WC.a ?_
  refine WL.a (d:=16) rfl rfl rfl (q_lss rfl rfl) ?_
  refine WL.nil ?_
  refine WX.a ?_
  refine WC.b ?_
  refine WC.cond rfl (fun zlN=>?_) (fun zlN=>?_)
  ·replace h:=ite_t h zlN
   refine WC.skip ?_
   refine WX.a ?_
   refine WC.b ?_
   refine WC.block ?_
   refine WC.b ?_
   obtain ⟨zxJ,h⟩:=chk_elim h
   refine WC.a ?_
   refine WL.znth (dd:=17) rfl rfl (Z:=Z) (Pr:=(p23 Z)) elT_38 rfl rfl zxG zxJ ?_
   rintro zDd zDe zxK zDf ⟨zxL,zxM,rfl,zxN⟩
   refine WL.a (d:=18) rfl rfl rfl (q_load1 oneT_23 rfl (rd_z hz.pv zxK rfl)) ?_
   refine WL.a (d:=9) rfl rfl rfl (q_z rfl) ?_
   refine WL.nil ?_
   refine WX.a ?_
   refine WC.b ?_
   obtain ⟨z3V,zxO,h⟩:=z8 h
   refine WC.a ?_
   refine WL.a (d:=20) rfl rfl rfl (q_m rfl) ?_
   refine WL.a (d:=21) rfl rfl rfl (q_loadA (cs:=[(.int .i64 z1Z.fN),(.int .i64 z1Z.fD)]) aggT_40 rfl rfl (rd_all .h1)) ?_
   refine WL.b (dd:=22) rfl rfl rfl (zi (l:=[.tmp 20,.tmp 21]) Tryz.call23 (.cons rfl (.cons rfl .nil))) (.nil : Sel [stb z3q 87 [(.int .i64 z6g)],stb z6h 40 [(.int .i64 z1Z.fN),(.int .i64 z1Z.fD)],stb z5C 40 [(.int .i64 0),(.int .i64 0)],stb z74 40 [(.int .i64 z4s),(.int .i64 z4t)]] [] [stb z3q 87 [(.int .i64 z6g)],stb z6h 40 [(.int .i64 z1Z.fN),(.int .i64 z1Z.fD)],stb z5C 40 [(.int .i64 0),(.int .i64 0)],stb z74 40 [(.int .i64 z4s),(.int .i64 z4t)]]) (fun w hw=>by have pz:=(hz.call hw (.nil : Sel [stb z3q 87 [(.int .i64 z6g)],stb z6h 40 [(.int .i64 z1Z.fN),(.int .i64 z1Z.fD)],stb z5C 40 [(.int .i64 0),(.int .i64 0)],stb z74 40 [(.int .i64 z4s),(.int .i64 z4t)]] [] [stb z3q 87 [(.int .i64 z6g)],stb z6h 40 [(.int .i64 z1Z.fN),(.int .i64 z1Z.fD)],stb z5C 40 [(.int .i64 0),(.int .i64 0)],stb z74 40 [(.int .i64 z4s),(.int .i64 z4t)]])); exact w_curve_At (Z:=_) (zaF:=zxL) (zaG:=zxM) (z1f:=(nth z5j z6G)) (z1V:=z1Z) (r:=z3V) w pz zxN zxO) ?_
   refine WL.a (d:=19) rfl rfl rfl (q_m rfl) ?_
   refine WL.a (d:=23) rfl rfl rfl (q_extract rfl rfl) ?_
   refine WL.a (d:=24) rfl rfl rfl (q_extract rfl rfl) ?_
   refine WL.new (dd:=10) rfl rfl rfl (e_alloc (cs:=[(.int .i64 0),(.int .i64 0)]) zeroT_40 rfl) ?_
   intro zbR _
   refine WL.eff0 rfl rfl (e_store (vs:=[(.int .i64 z3V.1.fN),(.int .i64 z3V.1.fD)]) (ds:=[(.int .i64 z3V.1.fN),(.int .i64 z3V.1.fD)]) sizT_40 rfl rfl rfl rfl (oc_cons rfl (oc_cons rfl oc_nil)) .here (Nat.le_of_ble_eq_true rfl) rfl) ?_
   refine WL.a (d:=11) rfl rfl rfl (q_z rfl) ?_
   refine WL.nil ?_
   refine WX.a ?_
   obtain ⟨zi2,zxP,h⟩:=jp1_elim h
   refine WC.seqMid1 (fun (z7g : Int)=>(zi2 z7g = some r)) (fun (z7g : Int)=>[(0,(.pointer (some ⟨z3q,0,none⟩))),(5,(.pointer (some ⟨z6h,0,none⟩))),(6,(.pointer (some ⟨z5C,0,none⟩))),(7,(.pointer (some ⟨z74,0,none⟩))),(10,(.pointer (some ⟨zbR,0,none⟩))),(13,(.slice zbP z5j.length zbQ)),(14,(.int .i64 ((z5j.length : Nat) : Int))),(15,(.int .i64 z6G))]) (fun (z7g : Int)=>[stb z3q 87 [(.int .i64 z7g)],stb z6h 40 [(.int .i64 z1Z.fN),(.int .i64 z1Z.fD)],stb z5C 40 [(.int .i64 0),(.int .i64 0)],stb z74 40 [(.int .i64 z4s),(.int .i64 z4t)],stb zbR 40 [(.int .i64 z3V.1.fN),(.int .i64 z3V.1.fD)]]) ?_ ?_
   ·skip
    refine WC.b ?_
    refine WC.a ?_
    refine WL.a (d:=25) rfl rfl rfl (q_m rfl) ?_
    refine WL.a (d:=26) rfl rfl rfl (q_nilCheck rfl) ?_
    refine WL.a (d:=27) rfl rfl rfl (q_fieldAddr fo_87_0 rfl rfl) ?_
    refine WL.a (d:=28) rfl rfl rfl (q_load1 oneT_26 rfl (rd_stb .h1 rfl)) ?_
    refine WL.a (d:=29) rfl rfl rfl (q_eql rfl rfl) ?_
    refine WL.nil ?_
    refine WX.a ?_
    refine WC.cond rfl (fun zlO=>?_) (fun zlO=>?_)
    ·replace h:=ite_t h zlO
     refine WC.a ?_
     refine WL.a (d:=30) rfl rfl rfl (q_m rfl) ?_
     refine WL.a (d:=31) rfl rfl rfl (q_m rfl) ?_
     refine WL.a (d:=32) rfl rfl rfl (q_nilCheck rfl) ?_
     refine WL.a (d:=33) rfl rfl rfl (q_fieldAddr fo_87_0 rfl rfl) ?_
     refine WL.eff0 rfl rfl (e_store (vs:=[(.int .i64 z3V.2)]) (ds:=[(.int .i64 z3V.2)]) sizT_26 rfl rfl rfl rfl (oc_cons rfl oc_nil) .h1 (Nat.le_of_ble_eq_true rfl) rfl) ?_
     refine WL.nil ?_
     exact WX.mid (G:=Int) z3V.2 h (.cons rfl (.cons rfl (.cons rfl (.cons rfl (.cons rfl (.cons rfl (.cons rfl (.cons rfl .nil)))))))) (.cons .here (.cons .h1 (.cons .h1 (.cons .h1 (.cons .here .nil)))))
    ·replace h:=ite_f h zlO
     refine WC.skip ?_
     exact WX.mid (G:=Int) z6g h (.cons rfl (.cons rfl (.cons rfl (.cons rfl (.cons rfl (.cons rfl (.cons rfl (.cons rfl .nil)))))))) (.cons .h1 (.cons .h1 (.cons .h1 (.cons .h1 (.cons .here .nil)))))
   ·rintro z7g h
    replace h:=(zxP z7g).symm.trans h
    obtain ⟨z8t,zxQ,h⟩:=z8 h
    refine WC.a ?_
    refine WL.a (d:=34) rfl rfl rfl (q_m rfl) ?_
    refine WL.a (d:=35) rfl rfl rfl (q_loadA (cs:=[(.int .i64 z4s),(.int .i64 z4t)]) aggT_40 rfl rfl (rd_all .h3)) ?_
    refine WL.a (d:=36) rfl rfl rfl (q_loadA (cs:=[(.int .i64 z3V.1.fN),(.int .i64 z3V.1.fD)]) aggT_40 rfl rfl (rd_all .h4)) ?_
    refine WL.b (dd:=37) rfl rfl rfl (zi (l:=[.tmp 34,.func 31,.tmp 35,.tmp 36]) Tryz.call30 (.cons rfl (.cons rfl (.cons rfl (.cons rfl .nil))))) ((.cons .here .nil) : Sel [stb z3q 87 [(.int .i64 z7g)],stb z6h 40 [(.int .i64 z1Z.fN),(.int .i64 z1Z.fD)],stb z5C 40 [(.int .i64 0),(.int .i64 0)],stb z74 40 [(.int .i64 z4s),(.int .i64 z4t)],stb zbR 40 [(.int .i64 z3V.1.fN),(.int .i64 z3V.1.fD)]] [stb z3q 87 [(.int .i64 z7g)]] [stb z6h 40 [(.int .i64 z1Z.fN),(.int .i64 z1Z.fD)],stb z5C 40 [(.int .i64 0),(.int .i64 0)],stb z74 40 [(.int .i64 z4s),(.int .i64 z4t)],stb zbR 40 [(.int .i64 z3V.1.fN),(.int .i64 z3V.1.fD)]]) (fun w hw=>by have pz:=(hz.call hw ((.cons .here .nil) : Sel [stb z3q 87 [(.int .i64 z7g)],stb z6h 40 [(.int .i64 z1Z.fN),(.int .i64 z1Z.fD)],stb z5C 40 [(.int .i64 0),(.int .i64 0)],stb z74 40 [(.int .i64 z4s),(.int .i64 z4t)],stb zbR 40 [(.int .i64 z3V.1.fN),(.int .i64 z3V.1.fD)]] [stb z3q 87 [(.int .i64 z7g)]] [stb z6h 40 [(.int .i64 z1Z.fN),(.int .i64 z1Z.fD)],stb z5C 40 [(.int .i64 0),(.int .i64 0)],stb z74 40 [(.int .i64 z4s),(.int .i64 z4t)],stb zbR 40 [(.int .i64 z3V.1.fN),(.int .i64 z3V.1.fD)]])); exact w_calculus_calc_do (Z:=_) (z4j:=z3q) (z6Z:=31) (z7D:=[]) (z5h:=(⟨z7g⟩ : z2c)) (z7T:=(fun (y0 : z2) (y1 : z2)=>m_rat_Add y0 y1)) (z2P:=(⟨z4s,z4t⟩ : z2)) (z2Q:=z3V.1) (r:=z8t) w pz Tryz.call31 (fun w' hz' y0 y1  r  hr=>w_rat_Add (Z:=_)  (z44:=y0) (z47:=y1) (r:=r) w' hz'  hr) zxQ (hw.owns ((.cons .here .nil) : Sel [stb z3q 87 [(.int .i64 z7g)],stb z6h 40 [(.int .i64 z1Z.fN),(.int .i64 z1Z.fD)],stb z5C 40 [(.int .i64 0),(.int .i64 0)],stb z74 40 [(.int .i64 z4s),(.int .i64 z4t)],stb zbR 40 [(.int .i64 z3V.1.fN),(.int .i64 z3V.1.fD)]] [stb z3q 87 [(.int .i64 z7g)]] [stb z6h 40 [(.int .i64 z1Z.fN),(.int .i64 z1Z.fD)],stb z5C 40 [(.int .i64 0),(.int .i64 0)],stb z74 40 [(.int .i64 z4s),(.int .i64 z4t)],stb zbR 40 [(.int .i64 z3V.1.fN),(.int .i64 z3V.1.fD)]]))) ?_
    refine WL.eff0 rfl rfl (e_store (vs:=[(.int .i64 z8t.1.fN),(.int .i64 z8t.1.fD)]) (ds:=[(.int .i64 z8t.1.fN),(.int .i64 z8t.1.fD)]) sizT_40 rfl rfl rfl rfl (oc_cons rfl (oc_cons rfl oc_nil)) .h3 (Nat.le_of_ble_eq_true rfl) rfl) ?_
    refine WL.nil ?_
    refine WX.blockNormal ?_
    refine WX.a ?_
    refine WC.a ?_
    refine WL.a (d:=38) rfl rfl rfl (q_add rfl rfl rfl) ?_
    refine WL.a (d:=15) rfl rfl rfl (q_m rfl) ?_
    refine WL.nil ?_
    exact WX.round (G:=Nat × Int × Int × Int × Int) ⟨zlM,(i64 (z6G + 1)),z8t.2.fE,z8t.1.fN,z8t.1.fD⟩ h (Nat.lt_succ_self _) (.cons rfl (.cons rfl (.cons rfl (.cons rfl (.cons rfl (.cons rfl (.cons rfl .nil))))))) (.cons .h1 (.cons .h1 (.cons .h1 (.cons .here .nil))))
  ·replace h:=ite_f h zlN
   refine WC.exit ?_
   refine WX.thenExit ?_
   refine WX.thenExit ?_
   refine WX.blockHit ?_
   exact WX.mid (G:=Int × Int × Int) ⟨z4s,z4t,z6g⟩ h (.cons rfl (.cons rfl .nil)) (.cons .h2 (.cons .h2 (.cons .here .nil)))
 ·rintro z99 z9a zbO h
  replace h:=(zxI z99 z9a zbO).symm.trans h
  refine WC.b ?_
  refine WC.a ?_
  refine WL.a (d:=39) rfl rfl rfl (q_loadA (cs:=[(.int .i64 z99),(.int .i64 z9a)]) aggT_40 rfl rfl (rd_all .h1)) ?_
  refine WL.eff0 rfl rfl (e_store (vs:=[(.int .i64 z99),(.int .i64 z9a)]) (ds:=[(.int .i64 z99),(.int .i64 z9a)]) sizT_40 rfl rfl rfl rfl (oc_cons rfl (oc_cons rfl oc_nil)) .here (Nat.le_of_ble_eq_true rfl) rfl) ?_
  refine WL.nil ?_
  refine WX.a ?_
  refine WC.ret ?_
  obtain rfl:=Option.some.inj h
  refine WX.bpRet Tryz.results34 (.agg rfl aggT_40 rfl (rd_all .here) .nil) (fun w hw=>?_)
  exact ⟨ret1 rfl,hw.sub (.cons .h2 .nil)⟩
def m_calculus_Delay_1 (z75 : z2c) (z1g : z2) (zd5 : List (List z1)) (z7i : S41) : Option (z2 × z2c) :=
 (m_calculus_calc_total z75 zd5 z1g).bind fun z8u=>(m_calculus_calc_do z8u.2 (fun (y0 : z2) (y1 : z2)=>m_rat_Div y0 y1) z8u.1 z7i.fRate).bind fun z8v=>(m_calculus_calc_do z8v.2 (fun (y0 : z2) (y1 : z2)=>m_rat_Sub y0 y1) z8v.1 z1g).bind fun z8w=>(m_calculus_calc_do z8w.2 (fun (y0 : z2) (y1 : z2)=>m_rat_Add y0 y1) z8w.1 z7i.fLatency).bind fun zbS=>some (zbS.1,zbS.2)
set_option maxRecDepth 20000 in
theorem w_calculus_Delay_1 (Z : Zp)  (z2Y : Nat) (zfX : Addr) (zi3 : Option Addr) (zi4 : Nat) (zfY : Addr) (z75 : z2c) (z1g : z2) (zd5 : List (List z1)) (z7i : S41) (r : z2 × z2c) (w₀ : World) (hz : PZ (fps [stb z2Y 87 [(.int .i64 z75.fE)]]) w₀ Z)
  (zxR : ZS Z 1 (p23 Z) zi3 zi4 zd5)
  (zxS : ZC Z zfX [(.slice zi3 zd5.length zi4)])
  (zr2 : ZC Z zfY [(.int .i64 z7i.fRate.fN),(.int .i64 z7i.fRate.fD),(.int .i64 z7i.fLatency.fN),(.int .i64 z7i.fLatency.fD)])
  (h : m_calculus_Delay_1 z75 z1g zd5 z7i = some r)
  (hown : Hp (fps [stb z2Y 87 [(.int .i64 z75.fE)]]) w₀ w₀ [stb z2Y 87 [(.int .i64 z75.fE)]]) :
  Calls Tryz.prog 29 #[(.pointer (some ⟨z2Y,0,none⟩)),(.agg #[(.int .i64 z1g.fN),(.int .i64 z1g.fD)]),(.pointer (some zfX)),(.pointer (some zfY))] w₀ fun e w'=>e = .returned (.agg #[(.int .i64 r.1.fN),(.int .i64 r.1.fD)]) ∧ Hp (fps [stb z2Y 87 [(.int .i64 z75.fE)]]) w₀ w' [stb z2Y 87 [(.int .i64 r.2.fE)]]:=by
 unfold m_calculus_Delay_1 at h
 refine Calls.ofWC (vs:=[(.pointer (some ⟨z2Y,0,none⟩)),(.agg #[(.int .i64 z1g.fN),(.int .i64 z1g.fD)]),(.pointer (some zfX)),(.pointer (some zfY))]) (pre:=[stb z2Y 87 [(.int .i64 z75.fE)]]) (env:=[(0,(.pointer (some ⟨z2Y,0,none⟩))),(1,(.agg #[(.int .i64 z1g.fN),(.int .i64 z1g.fD)])),(2,(.pointer (some zfX))),(3,(.pointer (some zfY)))]) Tryz.func29 rfl Tryz.ntmps29 rfl (hown) rfl ?_
 refine WC.b ?_
 refine WC.a ?_
 refine WL.new (dd:=5) rfl rfl rfl (e_box (cs:=[(.int .i64 z1g.fN),(.int .i64 z1g.fD)]) rfl rfl) ?_
 intro z4u _
 refine WL.new (dd:=6) rfl rfl rfl (e_alloc (cs:=[(.int .i64 0),(.int .i64 0)]) zeroT_40 rfl) ?_
 intro z4J _
 refine WL.nil ?_
 refine WX.a ?_
 refine WC.b ?_
 obtain ⟨z8u,zxT,h⟩:=z8 h
 obtain ⟨z8v,zxU,h⟩:=z8 h
 obtain ⟨z8w,zxV,h⟩:=z8 h
 obtain ⟨zbS,zxW,h⟩:=z8 h
 refine WC.draw (fun i=>[6,9,11,14,15].contains i) [stb z4u 40 [(.int .i64 z1g.fN),(.int .i64 z1g.fD)]] rfl ?_
 refine WD.a (i:=0) (d:=7) (by kernel_rfl) rfl (z6 (by kernel_rfl)) (z7 (by kernel_rfl)) rfl rfl rfl (fun _=>q_m rfl) ?_
 refine WD.a (i:=1) (d:=8) (by kernel_rfl) rfl (z6 (by kernel_rfl)) (z7 (by kernel_rfl)) rfl rfl rfl (fun _=>q_m rfl) ?_
 refine WD.a (i:=2) (d:=9) (by kernel_rfl) rfl (z6 (by kernel_rfl)) (z7 (by kernel_rfl)) rfl rfl rfl (fun _=>q_m rfl) ?_
 refine WD.a (i:=3) (d:=10) (by kernel_rfl) rfl (z6 (by kernel_rfl)) (z7 (by kernel_rfl)) rfl rfl rfl (fun _=>q_m rfl) ?_
 refine WD.e (i:=4) (d:=11) (by kernel_rfl) rfl (z6 (by kernel_rfl)) (z7 (by kernel_rfl)) rfl rfl rfl (q_load1 oneT_38 rfl (rd_z hz.pv zxS rfl)) ?_
 refine WD.e (i:=5) (d:=12) (by kernel_rfl) rfl (z6 (by kernel_rfl)) (z7 (by kernel_rfl)) rfl rfl rfl (q_loadA (cs:=[(.int .i64 z1g.fN),(.int .i64 z1g.fD)]) aggT_40 rfl rfl (rd_all .h1)) ?_
 refine WD.a (i:=7) (d:=14) (by kernel_rfl) rfl (z6 (by kernel_rfl)) (z7 (by kernel_rfl)) rfl rfl rfl (fun _=>q_fieldAddr fo_42_0 rfl rfl) ?_
 refine WD.stable (i:=8) (d:=15) (by kernel_rfl) rfl (z6 (by kernel_rfl)) (z7 (by kernel_rfl)) rfl rfl rfl (Sin.of (.cons .h1 .nil)) (q_loadA (cs:=[(.int .i64 z7i.fRate.fN),(.int .i64 z7i.fRate.fD)]) aggT_40 rfl rfl (rd_zsub (off:=0) (s:=2) hz.pv zr2 rfl)) ?_
 refine WD.stable (i:=10) (d:=17) (by kernel_rfl) rfl (z6 (by kernel_rfl)) (z7 (by kernel_rfl)) rfl rfl rfl (Sin.of (.cons .h1 .nil)) (q_loadA (cs:=[(.int .i64 z1g.fN),(.int .i64 z1g.fD)]) aggT_40 rfl rfl (rd_all .here)) ?_
 refine WD.a (i:=12) (d:=19) (by kernel_rfl) rfl (z6 (by kernel_rfl)) (z7 (by kernel_rfl)) rfl rfl rfl (fun _=>q_fieldAddr fo_42_1 rfl rfl) ?_
 refine WD.stable (i:=13) (d:=20) (by kernel_rfl) rfl (z6 (by kernel_rfl)) (z7 (by kernel_rfl)) rfl rfl rfl (Sin.of (.cons .h1 .nil)) (q_loadA (cs:=[(.int .i64 z7i.fLatency.fN),(.int .i64 z7i.fLatency.fD)]) aggT_40 rfl rfl (rd_zsub (off:=2) (s:=2) hz.pv zr2 rfl)) ?_
 refine WD.call0 (i:=6) (dd:=13) rfl (by kernel_rfl) rfl rfl rfl (.inl ⟨rfl,(Sin.of (.cons .h2 .nil))⟩) (zi (l:=[.tmp 10,.tmp 11,.tmp 12]) Tryz.call34 (.cons rfl (.cons rfl (.cons rfl .nil)))) ((.cons .h2 .nil) : Sel [stb z4J 40 [(.int .i64 0),(.int .i64 0)],stb z4u 40 [(.int .i64 z1g.fN),(.int .i64 z1g.fD)],stb z2Y 87 [(.int .i64 z75.fE)]] [stb z2Y 87 [(.int .i64 z75.fE)]] [stb z4J 40 [(.int .i64 0),(.int .i64 0)],stb z4u 40 [(.int .i64 z1g.fN),(.int .i64 z1g.fD)]]) (fun w hw=>by have pz:=(hz.call hw ((.cons .h2 .nil) : Sel [stb z4J 40 [(.int .i64 0),(.int .i64 0)],stb z4u 40 [(.int .i64 z1g.fN),(.int .i64 z1g.fD)],stb z2Y 87 [(.int .i64 z75.fE)]] [stb z2Y 87 [(.int .i64 z75.fE)]] [stb z4J 40 [(.int .i64 0),(.int .i64 0)],stb z4u 40 [(.int .i64 z1g.fN),(.int .i64 z1g.fD)]])); exact Calls.mono (w_calculus_calc_total (Z:=_) (z3q:=z2Y) (zbP:=zi3) (zbQ:=zi4) (z7h:=z75) (z5j:=zd5) (z1Z:=z1g) (r:=z8u) w pz zxR zxT (hw.owns ((.cons .h2 .nil) : Sel [stb z4J 40 [(.int .i64 0),(.int .i64 0)],stb z4u 40 [(.int .i64 z1g.fN),(.int .i64 z1g.fD)],stb z2Y 87 [(.int .i64 z75.fE)]] [stb z2Y 87 [(.int .i64 z75.fE)]] [stb z4J 40 [(.int .i64 0),(.int .i64 0)],stb z4u 40 [(.int .i64 z1g.fN),(.int .i64 z1g.fD)]]))) (fun _ _ h'=>⟨h'.1,trivial,h'.2⟩)) ?_
 intro _
 refine WD.call0 (i:=9) (dd:=16) rfl (by kernel_rfl) rfl rfl rfl (.inl ⟨rfl,(Sin.of (.cons .h2 .nil))⟩) (zi (l:=[.tmp 9,.func 33,.tmp 13,.tmp 15]) Tryz.call30 (.cons rfl (.cons rfl (.cons rfl (.cons rfl .nil))))) ((.cons .here .nil) : Sel [stb z2Y 87 [(.int .i64 z8u.2.fE)],stb z4J 40 [(.int .i64 0),(.int .i64 0)],stb z4u 40 [(.int .i64 z1g.fN),(.int .i64 z1g.fD)]] [stb z2Y 87 [(.int .i64 z8u.2.fE)]] [stb z4J 40 [(.int .i64 0),(.int .i64 0)],stb z4u 40 [(.int .i64 z1g.fN),(.int .i64 z1g.fD)]]) (fun w hw=>by have pz:=(hz.call hw ((.cons .here .nil) : Sel [stb z2Y 87 [(.int .i64 z8u.2.fE)],stb z4J 40 [(.int .i64 0),(.int .i64 0)],stb z4u 40 [(.int .i64 z1g.fN),(.int .i64 z1g.fD)]] [stb z2Y 87 [(.int .i64 z8u.2.fE)]] [stb z4J 40 [(.int .i64 0),(.int .i64 0)],stb z4u 40 [(.int .i64 z1g.fN),(.int .i64 z1g.fD)]])); exact Calls.mono (w_calculus_calc_do (Z:=_) (z4j:=z2Y) (z6Z:=33) (z7D:=[]) (z5h:=z8u.2) (z7T:=(fun (y0 : z2) (y1 : z2)=>m_rat_Div y0 y1)) (z2P:=z8u.1) (z2Q:=z7i.fRate) (r:=z8v) w pz Tryz.call33 (fun w' hz' y0 y1  r  hr=>w_rat_Div (Z:=_)  (z4B:=y0) (z4C:=y1) (r:=r) w' hz'  hr) zxU (hw.owns ((.cons .here .nil) : Sel [stb z2Y 87 [(.int .i64 z8u.2.fE)],stb z4J 40 [(.int .i64 0),(.int .i64 0)],stb z4u 40 [(.int .i64 z1g.fN),(.int .i64 z1g.fD)]] [stb z2Y 87 [(.int .i64 z8u.2.fE)]] [stb z4J 40 [(.int .i64 0),(.int .i64 0)],stb z4u 40 [(.int .i64 z1g.fN),(.int .i64 z1g.fD)]]))) (fun _ _ h'=>⟨h'.1,trivial,h'.2⟩)) ?_
 intro _
 refine WD.call0 (i:=11) (dd:=18) rfl (by kernel_rfl) rfl rfl rfl (.inl ⟨rfl,(Sin.of (.cons .h2 .nil))⟩) (zi (l:=[.tmp 8,.func 32,.tmp 16,.tmp 17]) Tryz.call30 (.cons rfl (.cons rfl (.cons rfl (.cons rfl .nil))))) ((.cons .here .nil) : Sel [stb z2Y 87 [(.int .i64 z8v.2.fE)],stb z4J 40 [(.int .i64 0),(.int .i64 0)],stb z4u 40 [(.int .i64 z1g.fN),(.int .i64 z1g.fD)]] [stb z2Y 87 [(.int .i64 z8v.2.fE)]] [stb z4J 40 [(.int .i64 0),(.int .i64 0)],stb z4u 40 [(.int .i64 z1g.fN),(.int .i64 z1g.fD)]]) (fun w hw=>by have pz:=(hz.call hw ((.cons .here .nil) : Sel [stb z2Y 87 [(.int .i64 z8v.2.fE)],stb z4J 40 [(.int .i64 0),(.int .i64 0)],stb z4u 40 [(.int .i64 z1g.fN),(.int .i64 z1g.fD)]] [stb z2Y 87 [(.int .i64 z8v.2.fE)]] [stb z4J 40 [(.int .i64 0),(.int .i64 0)],stb z4u 40 [(.int .i64 z1g.fN),(.int .i64 z1g.fD)]])); exact Calls.mono (w_calculus_calc_do (Z:=_) (z4j:=z2Y) (z6Z:=32) (z7D:=[]) (z5h:=z8v.2) (z7T:=(fun (y0 : z2) (y1 : z2)=>m_rat_Sub y0 y1)) (z2P:=z8v.1) (z2Q:=z1g) (r:=z8w) w pz Tryz.call32 (fun w' hz' y0 y1  r  hr=>w_rat_Sub (Z:=_)  (z42:=y0) (z43:=y1) (r:=r) w' hz'  hr) zxV (hw.owns ((.cons .here .nil) : Sel [stb z2Y 87 [(.int .i64 z8v.2.fE)],stb z4J 40 [(.int .i64 0),(.int .i64 0)],stb z4u 40 [(.int .i64 z1g.fN),(.int .i64 z1g.fD)]] [stb z2Y 87 [(.int .i64 z8v.2.fE)]] [stb z4J 40 [(.int .i64 0),(.int .i64 0)],stb z4u 40 [(.int .i64 z1g.fN),(.int .i64 z1g.fD)]]))) (fun _ _ h'=>⟨h'.1,trivial,h'.2⟩)) ?_
 intro _
 refine WD.call0 (i:=14) (dd:=21) rfl (by kernel_rfl) rfl rfl rfl (.inl ⟨rfl,(Sin.of (.cons .h2 .nil))⟩) (zi (l:=[.tmp 7,.func 31,.tmp 18,.tmp 20]) Tryz.call30 (.cons rfl (.cons rfl (.cons rfl (.cons rfl .nil))))) ((.cons .here .nil) : Sel [stb z2Y 87 [(.int .i64 z8w.2.fE)],stb z4J 40 [(.int .i64 0),(.int .i64 0)],stb z4u 40 [(.int .i64 z1g.fN),(.int .i64 z1g.fD)]] [stb z2Y 87 [(.int .i64 z8w.2.fE)]] [stb z4J 40 [(.int .i64 0),(.int .i64 0)],stb z4u 40 [(.int .i64 z1g.fN),(.int .i64 z1g.fD)]]) (fun w hw=>by have pz:=(hz.call hw ((.cons .here .nil) : Sel [stb z2Y 87 [(.int .i64 z8w.2.fE)],stb z4J 40 [(.int .i64 0),(.int .i64 0)],stb z4u 40 [(.int .i64 z1g.fN),(.int .i64 z1g.fD)]] [stb z2Y 87 [(.int .i64 z8w.2.fE)]] [stb z4J 40 [(.int .i64 0),(.int .i64 0)],stb z4u 40 [(.int .i64 z1g.fN),(.int .i64 z1g.fD)]])); exact Calls.mono (w_calculus_calc_do (Z:=_) (z4j:=z2Y) (z6Z:=31) (z7D:=[]) (z5h:=z8w.2) (z7T:=(fun (y0 : z2) (y1 : z2)=>m_rat_Add y0 y1)) (z2P:=z8w.1) (z2Q:=z7i.fLatency) (r:=zbS) w pz Tryz.call31 (fun w' hz' y0 y1  r  hr=>w_rat_Add (Z:=_)  (z44:=y0) (z47:=y1) (r:=r) w' hz'  hr) zxW (hw.owns ((.cons .here .nil) : Sel [stb z2Y 87 [(.int .i64 z8w.2.fE)],stb z4J 40 [(.int .i64 0),(.int .i64 0)],stb z4u 40 [(.int .i64 z1g.fN),(.int .i64 z1g.fD)]] [stb z2Y 87 [(.int .i64 z8w.2.fE)]] [stb z4J 40 [(.int .i64 0),(.int .i64 0)],stb z4u 40 [(.int .i64 z1g.fN),(.int .i64 z1g.fD)]]))) (fun _ _ h'=>⟨h'.1,trivial,h'.2⟩)) ?_
 intro _
 refine WD.last0 (i:=15) rfl (by kernel_rfl) rfl rfl rfl (by kernel_rfl) (e_store (vs:=[(.int .i64 zbS.1.fN),(.int .i64 zbS.1.fD)]) (ds:=[(.int .i64 zbS.1.fN),(.int .i64 zbS.1.fD)]) sizT_40 rfl rfl rfl rfl (oc_cons rfl (oc_cons rfl oc_nil)) .h1 (Nat.le_of_ble_eq_true rfl) rfl) ?_
 refine WD.done (by kernel_rfl) ?_
 refine WX.a ?_
 refine WC.ret ?_
 obtain rfl:=Option.some.inj h
 refine WX.bpRet Tryz.results29 (.agg rfl aggT_40 rfl (rd_all .here) .nil) (fun w hw=>?_)
 exact ⟨ret1 rfl,hw.sub (.cons .h1 .nil)⟩
end Go.Proofs.YtakfmdiiehcbdaaGreat
