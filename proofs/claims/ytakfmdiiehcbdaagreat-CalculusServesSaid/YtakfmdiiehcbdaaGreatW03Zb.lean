/- A part of this claim's proof: models of functions, walks, plain laws. No conditions. -/
import Derived.Test.YtakfmdiiehcbdaaGreatW03Za
namespace Go.Proofs.YtakfmdiiehcbdaaGreat
open Go Go.RowKit Sep
set_option linter.all false
set_option maxRecDepth 30000
set_option maxHeartbeats 4000000
def m_curve_calc_do (z7x : z2c) (zai : z2 → z2 → Option (z2 × Int)) (z5I : z2) (z5J : z2) : Option (z2 × z2c) :=
 if decide (z7x.fE ≠ 0) then some ((⟨0,0⟩ : z2),z7x) else (zai z5I z5J).bind fun z6T=>some (z6T.1,(⟨z6T.2⟩ : z2c))
set_option maxRecDepth 20000 in
theorem w_curve_calc_do (Z : Zp)  (z7y : Nat) (z8f : FuncId) (z9t : List Value) (z7x : z2c) (zai : z2 → z2 → Option (z2 × Int)) (z5I : z2) (z5J : z2) (r : z2 × z2c) (w₀ : World) (hz : PZ (fps [stb z7y 83 [(.int .i64 z7x.fE)]]) w₀ Z)
  (zvb : ∀ args w,(callFunc z8f args).run Tryz.prog w = .ok (.enter z8f args) w)
  (zvc : ∀ w : World,PZ [] w Z → ∀ (x0 : z2) (x1 : z2) (r : z2 × Int),zai x0 x1 = some r → Calls Tryz.prog z8f (([(.agg #[(.int .i64 x0.fN),(.int .i64 x0.fD)]),(.agg #[(.int .i64 x1.fN),(.int .i64 x1.fD)])] : List Value) ++ z9t).toArray w fun e w'=>e = .returned (.tuple #[(.agg #[(.int .i64 r.1.fN),(.int .i64 r.1.fD)]),(.int .i64 r.2)]) ∧ Hp [] w w' [])
  (h : m_curve_calc_do z7x zai z5I z5J = some r)
  (hown : Hp (fps [stb z7y 83 [(.int .i64 z7x.fE)]]) w₀ w₀ [stb z7y 83 [(.int .i64 z7x.fE)]]) :
  Calls Tryz.prog 67 #[(.pointer (some ⟨z7y,0,none⟩)),(.func (.func z8f) #[] (z9t).toArray),(.agg #[(.int .i64 z5I.fN),(.int .i64 z5I.fD)]),(.agg #[(.int .i64 z5J.fN),(.int .i64 z5J.fD)])] w₀ fun e w'=>e = .returned (.agg #[(.int .i64 r.1.fN),(.int .i64 r.1.fD)]) ∧ Hp (fps [stb z7y 83 [(.int .i64 z7x.fE)]]) w₀ w' [stb z7y 83 [(.int .i64 r.2.fE)]]:=by
 unfold m_curve_calc_do at h
 refine Calls.ofWC (vs:=[(.pointer (some ⟨z7y,0,none⟩)),(.func (.func z8f) #[] (z9t).toArray),(.agg #[(.int .i64 z5I.fN),(.int .i64 z5I.fD)]),(.agg #[(.int .i64 z5J.fN),(.int .i64 z5J.fD)])]) (pre:=[stb z7y 83 [(.int .i64 z7x.fE)]]) (env:=[(0,(.pointer (some ⟨z7y,0,none⟩))),(1,(.func (.func z8f) #[] (z9t).toArray)),(2,(.agg #[(.int .i64 z5I.fN),(.int .i64 z5I.fD)])),(3,(.agg #[(.int .i64 z5J.fN),(.int .i64 z5J.fD)]))]) Tryz.func67 rfl Tryz.ntmps67 rfl (hown) rfl ?_
 refine WC.b ?_
 refine WC.a ?_
 refine WL.new (dd:=6) rfl rfl rfl (e_box (cs:=[(.int .i64 z5I.fN),(.int .i64 z5I.fD)]) rfl rfl) ?_
 intro zCk _
 refine WL.new (dd:=7) rfl rfl rfl (e_box (cs:=[(.int .i64 z5J.fN),(.int .i64 z5J.fD)]) rfl rfl) ?_
 intro zCl _
 refine WL.new (dd:=8) rfl rfl rfl (e_alloc (cs:=[(.int .i64 0),(.int .i64 0)]) zeroT_40 rfl) ?_
 intro zCm _
 refine WL.nil ?_
 refine WX.a ?_
 refine WC.b ?_
 refine WC.b ?_
 refine WC.a ?_
 refine WL.a (d:=11) rfl rfl rfl (q_m rfl) ?_
 refine WL.a (d:=12) rfl rfl rfl (q_nilCheck rfl) ?_
 refine WL.a (d:=13) rfl rfl rfl (q_fieldAddr fo_83_0 rfl rfl) ?_
 refine WL.a (d:=14) rfl rfl rfl (q_load1 oneT_26 rfl (rd_stb .h3 rfl)) ?_
 refine WL.a (d:=15) rfl rfl rfl (q_neq rfl rfl) ?_
 refine WL.nil ?_
 refine WX.a ?_
 refine WC.cond rfl (fun zkk=>?_) (fun zkk=>?_)
 ·replace h:=ite_t h zkk
  refine WC.b ?_
  refine WC.a ?_
  refine WL.a (d:=16) rfl rfl rfl (q_build (v:=(.agg #[(.int .i64 0),(.int .i64 0)])) (Eos.parts (l:=[]) .nil []) (fun _=>by kernel_rfl)) ?_
  refine WL.eff0 rfl rfl (e_store (vs:=[(.int .i64 0),(.int .i64 0)]) (ds:=[(.int .i64 0),(.int .i64 0)]) sizT_40 rfl rfl rfl rfl (oc_cons rfl (oc_cons rfl oc_nil)) .here (Nat.le_of_ble_eq_true rfl) rfl) ?_
  refine WL.nil ?_
  refine WX.a ?_
  refine WC.ret ?_
  refine WX.thenRet ?_
  obtain rfl:=Option.some.inj h
  refine WX.bpRet Tryz.results67 (.agg rfl aggT_40 rfl (rd_all .here) .nil) (fun w hw=>?_)
  exact ⟨ret1 rfl,hw.sub (.cons .h3 .nil)⟩
 ·replace h:=ite_f h zkk
  refine WC.skip ?_
  refine WX.a ?_
  refine WC.b ?_
  obtain ⟨z6T,zvd,h⟩:=z8 h
  refine WC.a ?_
  refine WL.a (d:=18) rfl rfl rfl (q_m rfl) ?_
  refine WL.a (d:=19) rfl rfl rfl (q_loadA (cs:=[(.int .i64 z5I.fN),(.int .i64 z5I.fD)]) aggT_40 rfl rfl (rd_all .h2)) ?_
  refine WL.a (d:=20) rfl rfl rfl (q_loadA (cs:=[(.int .i64 z5J.fN),(.int .i64 z5J.fD)]) aggT_40 rfl rfl (rd_all .h1)) ?_
  refine WL.b (dd:=21) rfl rfl rfl (run_callv (l:=[.tmp 19,.tmp 20]) (f:=z8f) (caps:=z9t) zvb rfl (.cons rfl (.cons rfl .nil))) .nil (fun w hw=>zvc w (hz.now hw) z5I z5J z6T  zvd) ?_
  refine WL.a (d:=17) rfl rfl rfl (q_m rfl) ?_
  refine WL.a (d:=22) rfl rfl rfl (q_extract rfl rfl) ?_
  refine WL.a (d:=23) rfl rfl rfl (q_extract rfl rfl) ?_
  refine WL.new (dd:=9) rfl rfl rfl (e_alloc (cs:=[(.int .i64 0),(.int .i64 0)]) zeroT_40 rfl) ?_
  intro zCn _
  refine WL.eff0 rfl rfl (e_store (vs:=[(.int .i64 z6T.1.fN),(.int .i64 z6T.1.fD)]) (ds:=[(.int .i64 z6T.1.fN),(.int .i64 z6T.1.fD)]) sizT_40 rfl rfl rfl rfl (oc_cons rfl (oc_cons rfl oc_nil)) .here (Nat.le_of_ble_eq_true rfl) rfl) ?_
  refine WL.a (d:=10) rfl rfl rfl (q_z rfl) ?_
  refine WL.nil ?_
  refine WX.a ?_
  refine WC.b ?_
  refine WC.a ?_
  refine WL.a (d:=24) rfl rfl rfl (q_m rfl) ?_
  refine WL.a (d:=25) rfl rfl rfl (q_m rfl) ?_
  refine WL.a (d:=26) rfl rfl rfl (q_nilCheck rfl) ?_
  refine WL.a (d:=27) rfl rfl rfl (q_fieldAddr fo_83_0 rfl rfl) ?_
  refine WL.eff0 rfl rfl (e_store (vs:=[(.int .i64 z6T.2)]) (ds:=[(.int .i64 z6T.2)]) sizT_26 rfl rfl rfl rfl (oc_cons rfl oc_nil) .h4 (Nat.le_of_ble_eq_true rfl) rfl) ?_
  refine WL.nil ?_
  refine WX.a ?_
  refine WC.b ?_
  refine WC.a ?_
  refine WL.a (d:=28) rfl rfl rfl (q_loadA (cs:=[(.int .i64 z6T.1.fN),(.int .i64 z6T.1.fD)]) aggT_40 rfl rfl (rd_all .h1)) ?_
  refine WL.eff0 rfl rfl (e_store (vs:=[(.int .i64 z6T.1.fN),(.int .i64 z6T.1.fD)]) (ds:=[(.int .i64 z6T.1.fN),(.int .i64 z6T.1.fD)]) sizT_40 rfl rfl rfl rfl (oc_cons rfl (oc_cons rfl oc_nil)) .h2 (Nat.le_of_ble_eq_true rfl) rfl) ?_
  refine WL.nil ?_
  refine WX.a ?_
  refine WC.ret ?_
  obtain rfl:=Option.some.inj h
  refine WX.bpRet Tryz.results67 (.agg rfl aggT_40 rfl (rd_all .here) .nil) (fun w hw=>?_)
  exact ⟨ret1 rfl,hw.sub (.cons .h1 .nil)⟩
def m_rat_do_4 (zcB : z2) (zcC : z2) : Option (Int × Int) :=
 some ((i64 (zcB.fN * zcC.fD)),(i64 (zcB.fD * zcC.fN)))
set_option maxRecDepth 20000 in
theorem w_rat_do_4 (Z : Zp)  (zfq : Addr) (zfr : Addr) (zcB : z2) (zcC : z2) (r : Int × Int) (w₀ : World) (hz : PZ [] w₀ Z)
  (zpV : ZC Z zfq [(.int .i64 zcB.fN),(.int .i64 zcB.fD)])
  (zpW : ZC Z zfr [(.int .i64 zcC.fN),(.int .i64 zcC.fD)])
  (h : m_rat_do_4 zcB zcC = some r) :
  Calls Tryz.prog 72 #[(.pointer (some zfq)),(.pointer (some zfr))] w₀ fun e w'=>e = .returned (.tuple #[(.int .i64 r.1),(.int .i64 r.2)]) ∧ Hp [] w₀ w' []:=by
 unfold m_rat_do_4 at h
 refine Calls.ofWC (vs:=[(.pointer (some zfq)),(.pointer (some zfr))]) (pre:=[]) (env:=[(0,(.pointer (some zfq))),(1,(.pointer (some zfr)))]) Tryz.func72 rfl Tryz.ntmps72 rfl (Hp.nil w₀ _) rfl ?_
 refine WC.b ?_
 refine WC.a ?_
 refine WL.a (d:=2) rfl rfl rfl (q_z rfl) ?_
 refine WL.a (d:=3) rfl rfl rfl (q_z rfl) ?_
 refine WL.nil ?_
 refine WX.a ?_
 refine WC.b ?_
 refine WC.draw (fun i=>[].contains i) [] rfl ?_
 refine WD.a (i:=0) (d:=4) (by kernel_rfl) rfl (z6 (by kernel_rfl)) (z7 (by kernel_rfl)) rfl rfl rfl (fun _=>q_fieldAddr fo_40_0 rfl rfl) ?_
 refine WD.e (i:=1) (d:=5) (by kernel_rfl) rfl (z6 (by kernel_rfl)) (z7 (by kernel_rfl)) rfl rfl rfl (q_load1 oneT_3 rfl (rd_zAt hz.pv zpV rfl)) ?_
 refine WD.a (i:=2) (d:=6) (by kernel_rfl) rfl (z6 (by kernel_rfl)) (z7 (by kernel_rfl)) rfl rfl rfl (fun _=>q_fieldAddr fo_40_1 rfl rfl) ?_
 refine WD.e (i:=3) (d:=7) (by kernel_rfl) rfl (z6 (by kernel_rfl)) (z7 (by kernel_rfl)) rfl rfl rfl (q_load1 oneT_3 rfl (rd_zAt hz.pv zpW rfl)) ?_
 refine WD.a (i:=4) (d:=8) (by kernel_rfl) rfl (z6 (by kernel_rfl)) (z7 (by kernel_rfl)) rfl rfl rfl (fun _=>q_mul rfl rfl rfl) ?_
 refine WD.a (i:=5) (d:=9) (by kernel_rfl) rfl (z6 (by kernel_rfl)) (z7 (by kernel_rfl)) rfl rfl rfl (fun _=>q_fieldAddr fo_40_1 rfl rfl) ?_
 refine WD.e (i:=6) (d:=10) (by kernel_rfl) rfl (z6 (by kernel_rfl)) (z7 (by kernel_rfl)) rfl rfl rfl (q_load1 oneT_3 rfl (rd_zAt hz.pv zpV rfl)) ?_
 refine WD.a (i:=7) (d:=11) (by kernel_rfl) rfl (z6 (by kernel_rfl)) (z7 (by kernel_rfl)) rfl rfl rfl (fun _=>q_fieldAddr fo_40_0 rfl rfl) ?_
 refine WD.e (i:=8) (d:=12) (by kernel_rfl) rfl (z6 (by kernel_rfl)) (z7 (by kernel_rfl)) rfl rfl rfl (q_load1 oneT_3 rfl (rd_zAt hz.pv zpW rfl)) ?_
 refine WD.a (i:=9) (d:=13) (by kernel_rfl) rfl (z6 (by kernel_rfl)) (z7 (by kernel_rfl)) rfl rfl rfl (fun _=>q_mul rfl rfl rfl) ?_
 refine WD.a (i:=10) (d:=2) (by kernel_rfl) rfl (z6 (by kernel_rfl)) (z7 (by kernel_rfl)) rfl rfl rfl (fun _=>q_z rfl) ?_
 refine WD.a (i:=11) (d:=3) (by kernel_rfl) rfl (z6 (by kernel_rfl)) (z7 (by kernel_rfl)) rfl rfl rfl (fun _=>q_z rfl) ?_
 refine WD.done (by kernel_rfl) ?_
 refine WX.a ?_
 refine WC.ret ?_
 obtain rfl:=Option.some.inj h
 refine WX.bpRet Tryz.results72 (.tmp rfl (.tmp rfl .nil)) (fun w hw=>?_)
 exact ⟨ret2 rfl rfl,hw.sub .nil⟩
def m_rat_dob (z10 : z2) (zT : z2) : Option (z2 × Int) :=
 (m_rat_Valid z10).bind fun zhm=>(if !zhm then some true else (m_rat_Valid zT).bind fun zkl=>some (!zkl)).bind fun zfs=>if zfs || (decide (zT.fN = 0)) then some ((⟨0,0⟩ : z2),2) else (m_rat_do_4 z10 zT).bind fun ze1=>(m_rat_Make ze1.1 ze1.2).bind fun zbq=>some (zbq.1,zbq.2)
set_option maxRecDepth 20000 in
theorem w_rat_dob (Z : Zp)   (z10 : z2) (zT : z2) (r : z2 × Int) (w₀ : World) (hz : PZ [] w₀ Z)
  (h : m_rat_dob z10 zT = some r) :
  Calls Tryz.prog 53 #[(.string ⟨#[47]⟩),(.agg #[(.int .i64 z10.fN),(.int .i64 z10.fD)]),(.agg #[(.int .i64 zT.fN),(.int .i64 zT.fD)])] w₀ fun e w'=>e = .returned (.tuple #[(.agg #[(.int .i64 r.1.fN),(.int .i64 r.1.fD)]),(.int .i64 r.2)]) ∧ Hp [] w₀ w' []:=by
 unfold m_rat_dob at h
 refine Calls.ofWC (vs:=[(.string ⟨#[47]⟩),(.agg #[(.int .i64 z10.fN),(.int .i64 z10.fD)]),(.agg #[(.int .i64 zT.fN),(.int .i64 zT.fD)])]) (pre:=[]) (env:=[(0,(.string ⟨#[47]⟩)),(1,(.agg #[(.int .i64 z10.fN),(.int .i64 z10.fD)])),(2,(.agg #[(.int .i64 zT.fN),(.int .i64 zT.fD)]))]) Tryz.func53 rfl Tryz.ntmps53 rfl (Hp.nil w₀ _) rfl ?_
 refine WC.b ?_
 refine WC.a ?_
 refine WL.new (dd:=4) rfl rfl rfl (e_box (cs:=[(.int .i64 z10.fN),(.int .i64 z10.fD)]) rfl rfl) ?_
 intro zC _
 refine WL.new (dd:=5) rfl rfl rfl (e_box (cs:=[(.int .i64 zT.fN),(.int .i64 zT.fD)]) rfl rfl) ?_
 intro zD _
 refine WL.new (dd:=6) rfl rfl rfl (e_alloc (cs:=[(.int .i64 0),(.int .i64 0)]) zeroT_40 rfl) ?_
 intro z4h _
 refine WL.a (d:=7) rfl rfl rfl (q_z rfl) ?_
 refine WL.nil ?_
 refine WX.a ?_
 refine WC.b ?_
 refine WC.b ?_
 obtain ⟨zhm,zve,h⟩:=z8 h
 obtain ⟨zfs,zpX,h⟩:=z8 h
 refine WC.a ?_
 refine WL.a (d:=9) rfl rfl rfl (q_loadA (cs:=[(.int .i64 z10.fN),(.int .i64 z10.fD)]) aggT_40 rfl rfl (rd_all .h2)) ?_
 refine WL.b (dd:=10) rfl rfl rfl (zi (l:=[.tmp 9]) Tryz.call44 (.cons rfl .nil)) (.nil : Sel [stb z4h 40 [(.int .i64 0),(.int .i64 0)],stb zD 40 [(.int .i64 zT.fN),(.int .i64 zT.fD)],stb zC 40 [(.int .i64 z10.fN),(.int .i64 z10.fD)]] [] [stb z4h 40 [(.int .i64 0),(.int .i64 0)],stb zD 40 [(.int .i64 zT.fN),(.int .i64 zT.fD)],stb zC 40 [(.int .i64 z10.fN),(.int .i64 z10.fD)]]) (fun w hw=>by have pz:=(hz.call hw (.nil : Sel [stb z4h 40 [(.int .i64 0),(.int .i64 0)],stb zD 40 [(.int .i64 zT.fN),(.int .i64 zT.fD)],stb zC 40 [(.int .i64 z10.fN),(.int .i64 z10.fD)]] [] [stb z4h 40 [(.int .i64 0),(.int .i64 0)],stb zD 40 [(.int .i64 zT.fN),(.int .i64 zT.fD)],stb zC 40 [(.int .i64 z10.fN),(.int .i64 z10.fD)]])); exact w_rat_Valid (Z:=_)  (z18:=z10) (r:=zhm) w pz  zve) ?_
 refine WL.a (d:=11) rfl rfl rfl (q_not rfl) ?_
 refine WL.a (d:=12) rfl rfl rfl (q_m rfl) ?_
 refine WL.cut0 True [(0,(.string ⟨#[47]⟩)),(4,(.pointer (some ⟨zC,0,none⟩))),(5,(.pointer (some ⟨zD,0,none⟩))),(6,(.pointer (some ⟨z4h,0,none⟩))),(16,(.bool zfs))] [stb z4h 40 [(.int .i64 0),(.int .i64 0)],stb zD 40 [(.int .i64 zT.fN),(.int .i64 zT.fD)],stb zC 40 [(.int .i64 z10.fN),(.int .i64 z10.fD)]] 4 ?_ (fun _=>?_)
 ·rcases Bool.eq_false_or_eq_true (!zhm) with hb' | hb'
  ·have zpY:=hb'; clear hb'
   have zkm:=ite_t zpX zpY
   replace zkm:=Option.some.inj zkm
   refine WL.pin (i:=12) rfl zpY ?_
   refine WL.e rfl rfl rfl ?_
   refine WL.e rfl rfl rfl ?_
   refine WL.e rfl rfl rfl ?_
   refine WL.a (d:=16) rfl rfl rfl (q_pickT rfl rfl) ?_
   exact WL.cutEnd () trivial (.cons rfl (.cons rfl (.cons rfl (.cons rfl (.cons (zf zkm) .nil))))) (.cons .here (.cons .here (.cons .here .nil)))
  ·have zpZ:=hb'; clear hb'
   have zft:=ite_f zpX zpZ
   obtain ⟨zkl,zvf,zft⟩:=z8 zft
   replace zft:=Option.some.inj zft
   refine WL.pin (i:=12) rfl zpZ ?_
   refine WL.a (d:=13) rfl rfl rfl (q_loadA (cs:=[(.int .i64 zT.fN),(.int .i64 zT.fD)]) aggT_40 rfl rfl (rd_all .h1)) ?_
   refine WL.b (dd:=14) rfl rfl rfl (zi (l:=[.tmp 13]) Tryz.call44 (.cons rfl .nil)) (.nil : Sel [stb z4h 40 [(.int .i64 0),(.int .i64 0)],stb zD 40 [(.int .i64 zT.fN),(.int .i64 zT.fD)],stb zC 40 [(.int .i64 z10.fN),(.int .i64 z10.fD)]] [] [stb z4h 40 [(.int .i64 0),(.int .i64 0)],stb zD 40 [(.int .i64 zT.fN),(.int .i64 zT.fD)],stb zC 40 [(.int .i64 z10.fN),(.int .i64 z10.fD)]]) (fun w hw=>by have pz:=(hz.call hw (.nil : Sel [stb z4h 40 [(.int .i64 0),(.int .i64 0)],stb zD 40 [(.int .i64 zT.fN),(.int .i64 zT.fD)],stb zC 40 [(.int .i64 z10.fN),(.int .i64 z10.fD)]] [] [stb z4h 40 [(.int .i64 0),(.int .i64 0)],stb zD 40 [(.int .i64 zT.fN),(.int .i64 zT.fD)],stb zC 40 [(.int .i64 z10.fN),(.int .i64 z10.fD)]])); exact w_rat_Valid (Z:=_)  (z18:=zT) (r:=zkl) w pz  zvf) ?_
   refine WL.a (d:=15) rfl rfl rfl (q_not rfl) ?_
   refine WL.a (d:=16) rfl rfl rfl (q_pickF rfl rfl) ?_
   exact WL.cutEnd () trivial (.cons rfl (.cons rfl (.cons rfl (.cons rfl (.cons (zf zft) .nil))))) (.cons .here (.cons .here (.cons .here .nil)))
 ·skip
  refine WL.a (d:=17) rfl rfl rfl (q_m rfl) ?_
  refine WL.cut0 True [(0,(.string ⟨#[47]⟩)),(4,(.pointer (some ⟨zC,0,none⟩))),(5,(.pointer (some ⟨zD,0,none⟩))),(6,(.pointer (some ⟨z4h,0,none⟩))),(25,(.bool (zfs || (decide (zT.fN = 0)))))] [stb z4h 40 [(.int .i64 0),(.int .i64 0)],stb zD 40 [(.int .i64 zT.fN),(.int .i64 zT.fD)],stb zC 40 [(.int .i64 z10.fN),(.int .i64 z10.fD)]] 8 ?_ (fun _=>?_)
  ·rcases Bool.eq_false_or_eq_true zfs with hb' | hb'
   ·have zq0:=hb'; clear hb'
    refine WL.pin (i:=17) rfl zq0 ?_
    refine WL.e rfl rfl rfl ?_
    refine WL.e rfl rfl rfl ?_
    refine WL.e rfl rfl rfl ?_
    refine WL.e rfl rfl rfl ?_
    refine WL.e rfl rfl rfl ?_
    refine WL.e rfl rfl rfl ?_
    refine WL.e rfl rfl rfl ?_
    refine WL.a (d:=25) rfl rfl rfl (q_pickT rfl rfl) ?_
    exact WL.cutEnd () trivial (.cons rfl (.cons rfl (.cons rfl (.cons rfl (.cons (zf (or_l zq0)) .nil))))) (.cons .here (.cons .here (.cons .here .nil)))
   ·have zq1:=hb'; clear hb'
    refine WL.pin (i:=17) rfl zq1 ?_
    refine WL.a (d:=18) rfl rfl rfl (q_m rfl) ?_
    refine WL.a (d:=19) rfl rfl rfl (q_seqlC (r:=true) (by decide) rfl rfl) ?_
    refine WL.a (d:=20) rfl rfl rfl (q_m rfl) ?_
    refine WL.a (d:=21) rfl rfl rfl (q_fieldAddr fo_40_0 rfl rfl) ?_
    refine WL.a (d:=22) rfl rfl rfl (q_load1 oneT_3 rfl (rd_stb .h1 rfl)) ?_
    refine WL.a (d:=23) rfl rfl rfl (q_eql rfl rfl) ?_
    refine WL.a (d:=24) rfl rfl rfl (q_pickT rfl rfl) ?_
    refine WL.a (d:=25) rfl rfl rfl (q_pickF rfl rfl) ?_
    exact WL.cutEnd () trivial (.cons rfl (.cons rfl (.cons rfl (.cons rfl (.cons (zf (or_r zq1)) .nil))))) (.cons .here (.cons .here (.cons .here .nil)))
  ·skip
   refine WL.nil ?_
   refine WX.a ?_
   refine WC.cond rfl (fun zkn=>?_) (fun zkn=>?_)
   ·replace h:=ite_t h zkn
    refine WC.b ?_
    refine WC.a ?_
    refine WL.a (d:=26) rfl rfl rfl (q_build (v:=(.agg #[(.int .i64 0),(.int .i64 0)])) (Eos.parts (l:=[]) .nil []) (fun _=>by kernel_rfl)) ?_
    refine WL.eff0 rfl rfl (e_store (vs:=[(.int .i64 0),(.int .i64 0)]) (ds:=[(.int .i64 0),(.int .i64 0)]) sizT_40 rfl rfl rfl rfl (oc_cons rfl (oc_cons rfl oc_nil)) .here (Nat.le_of_ble_eq_true rfl) rfl) ?_
    refine WL.a (d:=7) rfl rfl rfl (q_z rfl) ?_
    refine WL.nil ?_
    refine WX.a ?_
    refine WC.ret ?_
    refine WX.thenRet ?_
    obtain rfl:=Option.some.inj h
    refine WX.bpRet Tryz.results53 (.agg rfl aggT_40 rfl (rd_all .here) (.tmp rfl .nil)) (fun w hw=>?_)
    exact ⟨ret2 rfl rfl,hw.sub .nil⟩
   ·replace h:=ite_f h zkn
    refine WC.skip ?_
    refine WX.a ?_
    refine WC.b ?_
    refine WC.a ?_
    refine WL.new (dd:=27) rfl rfl rfl (e_makeMap Value.string (fun x=>x)) ?_
    intro z7z _
    refine WL.a (d:=28) rfl rfl rfl (q_makeFunc (Eos.caps (l:=[.tmp 4,.tmp 5]) (.cons rfl (.cons rfl .nil)))) ?_
    refine WL.eff0 rfl rfl (e_insert (k:=⟨#[43]⟩) (v:=(.func (.func 69) #[] #[(.pointer (some ⟨zC,0,none⟩)),(.pointer (some ⟨zD,0,none⟩))])) keyT_9 Tryz.underlying106 rfl rfl rfl rfl .here) ?_
    refine WL.a (d:=29) rfl rfl rfl (q_makeFunc (Eos.caps (l:=[.tmp 4,.tmp 5]) (.cons rfl (.cons rfl .nil)))) ?_
    refine WL.eff0 rfl rfl (e_insert (k:=⟨#[45]⟩) (v:=(.func (.func 70) #[] #[(.pointer (some ⟨zC,0,none⟩)),(.pointer (some ⟨zD,0,none⟩))])) keyT_9 Tryz.underlying106 rfl rfl rfl rfl .here) ?_
    refine WL.a (d:=30) rfl rfl rfl (q_makeFunc (Eos.caps (l:=[.tmp 4,.tmp 5]) (.cons rfl (.cons rfl .nil)))) ?_
    refine WL.eff0 rfl rfl (e_insert (k:=⟨#[42]⟩) (v:=(.func (.func 71) #[] #[(.pointer (some ⟨zC,0,none⟩)),(.pointer (some ⟨zD,0,none⟩))])) keyT_9 Tryz.underlying106 rfl rfl rfl rfl .here) ?_
    refine WL.a (d:=31) rfl rfl rfl (q_makeFunc (Eos.caps (l:=[.tmp 4,.tmp 5]) (.cons rfl (.cons rfl .nil)))) ?_
    refine WL.eff0 rfl rfl (e_insert (k:=⟨#[47]⟩) (v:=(.func (.func 72) #[] #[(.pointer (some ⟨zC,0,none⟩)),(.pointer (some ⟨zD,0,none⟩))])) keyT_9 Tryz.underlying106 rfl rfl rfl rfl .here) ?_
    refine WL.a (d:=32) rfl rfl rfl (q_m rfl) ?_
    refine WL.a (d:=8) rfl rfl rfl (q_z rfl) ?_
    refine WL.nil ?_
    refine WX.a ?_
    refine WC.b ?_
    obtain ⟨ze1,zvg,h⟩:=z8 h
    obtain ⟨zbq,zvh,h⟩:=z8 h
    refine WC.a ?_
    refine WL.a (d:=33) rfl rfl rfl (q_m rfl) ?_
    refine WL.a (d:=34) rfl rfl rfl (q_m rfl) ?_
    refine WL.a (d:=35) rfl rfl rfl (q_lookC (k:=⟨#[47]⟩) (dflt:=.nilFunc) (r:=(.func (.func 72) #[] #[(.pointer (some ⟨zC,0,none⟩)),(.pointer (some ⟨zD,0,none⟩))])) keyT_9 Tryz.underlying106 zgZ rfl rfl rfl .here (by rfl)) ?_
    refine WL.b (dd:=36) rfl rfl rfl (run_callv (l:=[]) Tryz.call72 rfl .nil) (.nil : Sel [mapA z7z Value.string (fun x=>x) [(⟨#[43]⟩,(.func (.func 69) #[] #[(.pointer (some ⟨zC,0,none⟩)),(.pointer (some ⟨zD,0,none⟩))])),(⟨#[45]⟩,(.func (.func 70) #[] #[(.pointer (some ⟨zC,0,none⟩)),(.pointer (some ⟨zD,0,none⟩))])),(⟨#[42]⟩,(.func (.func 71) #[] #[(.pointer (some ⟨zC,0,none⟩)),(.pointer (some ⟨zD,0,none⟩))])),(⟨#[47]⟩,(.func (.func 72) #[] #[(.pointer (some ⟨zC,0,none⟩)),(.pointer (some ⟨zD,0,none⟩))]))],stb z4h 40 [(.int .i64 0),(.int .i64 0)],stb zD 40 [(.int .i64 zT.fN),(.int .i64 zT.fD)],stb zC 40 [(.int .i64 z10.fN),(.int .i64 z10.fD)]] [] [mapA z7z Value.string (fun x=>x) [(⟨#[43]⟩,(.func (.func 69) #[] #[(.pointer (some ⟨zC,0,none⟩)),(.pointer (some ⟨zD,0,none⟩))])),(⟨#[45]⟩,(.func (.func 70) #[] #[(.pointer (some ⟨zC,0,none⟩)),(.pointer (some ⟨zD,0,none⟩))])),(⟨#[42]⟩,(.func (.func 71) #[] #[(.pointer (some ⟨zC,0,none⟩)),(.pointer (some ⟨zD,0,none⟩))])),(⟨#[47]⟩,(.func (.func 72) #[] #[(.pointer (some ⟨zC,0,none⟩)),(.pointer (some ⟨zD,0,none⟩))]))],stb z4h 40 [(.int .i64 0),(.int .i64 0)],stb zD 40 [(.int .i64 zT.fN),(.int .i64 zT.fD)],stb zC 40 [(.int .i64 z10.fN),(.int .i64 z10.fD)]]) (fun w hw=>by have pz:=(hz.call hw (.nil : Sel [mapA z7z Value.string (fun x=>x) [(⟨#[43]⟩,(.func (.func 69) #[] #[(.pointer (some ⟨zC,0,none⟩)),(.pointer (some ⟨zD,0,none⟩))])),(⟨#[45]⟩,(.func (.func 70) #[] #[(.pointer (some ⟨zC,0,none⟩)),(.pointer (some ⟨zD,0,none⟩))])),(⟨#[42]⟩,(.func (.func 71) #[] #[(.pointer (some ⟨zC,0,none⟩)),(.pointer (some ⟨zD,0,none⟩))])),(⟨#[47]⟩,(.func (.func 72) #[] #[(.pointer (some ⟨zC,0,none⟩)),(.pointer (some ⟨zD,0,none⟩))]))],stb z4h 40 [(.int .i64 0),(.int .i64 0)],stb zD 40 [(.int .i64 zT.fN),(.int .i64 zT.fD)],stb zC 40 [(.int .i64 z10.fN),(.int .i64 z10.fD)]] [] [mapA z7z Value.string (fun x=>x) [(⟨#[43]⟩,(.func (.func 69) #[] #[(.pointer (some ⟨zC,0,none⟩)),(.pointer (some ⟨zD,0,none⟩))])),(⟨#[45]⟩,(.func (.func 70) #[] #[(.pointer (some ⟨zC,0,none⟩)),(.pointer (some ⟨zD,0,none⟩))])),(⟨#[42]⟩,(.func (.func 71) #[] #[(.pointer (some ⟨zC,0,none⟩)),(.pointer (some ⟨zD,0,none⟩))])),(⟨#[47]⟩,(.func (.func 72) #[] #[(.pointer (some ⟨zC,0,none⟩)),(.pointer (some ⟨zD,0,none⟩))]))],stb z4h 40 [(.int .i64 0),(.int .i64 0)],stb zD 40 [(.int .i64 zT.fN),(.int .i64 zT.fD)],stb zC 40 [(.int .i64 z10.fN),(.int .i64 z10.fD)]])).lend hw (.nil : Sel [mapA z7z Value.string (fun x=>x) [(⟨#[43]⟩,(.func (.func 69) #[] #[(.pointer (some ⟨zC,0,none⟩)),(.pointer (some ⟨zD,0,none⟩))])),(⟨#[45]⟩,(.func (.func 70) #[] #[(.pointer (some ⟨zC,0,none⟩)),(.pointer (some ⟨zD,0,none⟩))])),(⟨#[42]⟩,(.func (.func 71) #[] #[(.pointer (some ⟨zC,0,none⟩)),(.pointer (some ⟨zD,0,none⟩))])),(⟨#[47]⟩,(.func (.func 72) #[] #[(.pointer (some ⟨zC,0,none⟩)),(.pointer (some ⟨zD,0,none⟩))]))],stb z4h 40 [(.int .i64 0),(.int .i64 0)],stb zD 40 [(.int .i64 zT.fN),(.int .i64 zT.fD)],stb zC 40 [(.int .i64 z10.fN),(.int .i64 z10.fD)]] [] [mapA z7z Value.string (fun x=>x) [(⟨#[43]⟩,(.func (.func 69) #[] #[(.pointer (some ⟨zC,0,none⟩)),(.pointer (some ⟨zD,0,none⟩))])),(⟨#[45]⟩,(.func (.func 70) #[] #[(.pointer (some ⟨zC,0,none⟩)),(.pointer (some ⟨zD,0,none⟩))])),(⟨#[42]⟩,(.func (.func 71) #[] #[(.pointer (some ⟨zC,0,none⟩)),(.pointer (some ⟨zD,0,none⟩))])),(⟨#[47]⟩,(.func (.func 72) #[] #[(.pointer (some ⟨zC,0,none⟩)),(.pointer (some ⟨zD,0,none⟩))]))],stb z4h 40 [(.int .i64 0),(.int .i64 0)],stb zD 40 [(.int .i64 zT.fN),(.int .i64 zT.fD)],stb zC 40 [(.int .i64 z10.fN),(.int .i64 z10.fD)]]) (B:=[stb zC 40 [(.int .i64 z10.fN),(.int .i64 z10.fD)],stb zD 40 [(.int .i64 zT.fN),(.int .i64 zT.fD)]]) (fun _ hx'=>((.cons .h3 (.cons .h2 .nil)) : Sel _ [stb zC 40 [(.int .i64 z10.fN),(.int .i64 z10.fD)],stb zD 40 [(.int .i64 zT.fN),(.int .i64 zT.fD)]] _).mem hx'); exact w_rat_do_4 (Z:=_) (zfq:=⟨zC,0,none⟩) (zfr:=⟨zD,0,none⟩) (zcB:=z10) (zcC:=zT) (r:=ze1) w pz ((hw.lent (.nil : Sel [mapA z7z Value.string (fun x=>x) [(⟨#[43]⟩,(.func (.func 69) #[] #[(.pointer (some ⟨zC,0,none⟩)),(.pointer (some ⟨zD,0,none⟩))])),(⟨#[45]⟩,(.func (.func 70) #[] #[(.pointer (some ⟨zC,0,none⟩)),(.pointer (some ⟨zD,0,none⟩))])),(⟨#[42]⟩,(.func (.func 71) #[] #[(.pointer (some ⟨zC,0,none⟩)),(.pointer (some ⟨zD,0,none⟩))])),(⟨#[47]⟩,(.func (.func 72) #[] #[(.pointer (some ⟨zC,0,none⟩)),(.pointer (some ⟨zD,0,none⟩))]))],stb z4h 40 [(.int .i64 0),(.int .i64 0)],stb zD 40 [(.int .i64 zT.fN),(.int .i64 zT.fD)],stb zC 40 [(.int .i64 z10.fN),(.int .i64 z10.fD)]] [] [mapA z7z Value.string (fun x=>x) [(⟨#[43]⟩,(.func (.func 69) #[] #[(.pointer (some ⟨zC,0,none⟩)),(.pointer (some ⟨zD,0,none⟩))])),(⟨#[45]⟩,(.func (.func 70) #[] #[(.pointer (some ⟨zC,0,none⟩)),(.pointer (some ⟨zD,0,none⟩))])),(⟨#[42]⟩,(.func (.func 71) #[] #[(.pointer (some ⟨zC,0,none⟩)),(.pointer (some ⟨zD,0,none⟩))])),(⟨#[47]⟩,(.func (.func 72) #[] #[(.pointer (some ⟨zC,0,none⟩)),(.pointer (some ⟨zD,0,none⟩))]))],stb z4h 40 [(.int .i64 0),(.int .i64 0)],stb zD 40 [(.int .i64 zT.fN),(.int .i64 zT.fD)],stb zC 40 [(.int .i64 z10.fN),(.int .i64 z10.fD)]]) (B:=[stb zC 40 [(.int .i64 z10.fN),(.int .i64 z10.fD)],stb zD 40 [(.int .i64 zT.fN),(.int .i64 zT.fD)]]) (fun _ hx'=>((.cons .h3 (.cons .h2 .nil)) : Sel _ [stb zC 40 [(.int .i64 z10.fN),(.int .i64 z10.fD)],stb zD 40 [(.int .i64 zT.fN),(.int .i64 zT.fD)]] _).mem hx') (.head _) _).stb) ((hw.lent (.nil : Sel [mapA z7z Value.string (fun x=>x) [(⟨#[43]⟩,(.func (.func 69) #[] #[(.pointer (some ⟨zC,0,none⟩)),(.pointer (some ⟨zD,0,none⟩))])),(⟨#[45]⟩,(.func (.func 70) #[] #[(.pointer (some ⟨zC,0,none⟩)),(.pointer (some ⟨zD,0,none⟩))])),(⟨#[42]⟩,(.func (.func 71) #[] #[(.pointer (some ⟨zC,0,none⟩)),(.pointer (some ⟨zD,0,none⟩))])),(⟨#[47]⟩,(.func (.func 72) #[] #[(.pointer (some ⟨zC,0,none⟩)),(.pointer (some ⟨zD,0,none⟩))]))],stb z4h 40 [(.int .i64 0),(.int .i64 0)],stb zD 40 [(.int .i64 zT.fN),(.int .i64 zT.fD)],stb zC 40 [(.int .i64 z10.fN),(.int .i64 z10.fD)]] [] [mapA z7z Value.string (fun x=>x) [(⟨#[43]⟩,(.func (.func 69) #[] #[(.pointer (some ⟨zC,0,none⟩)),(.pointer (some ⟨zD,0,none⟩))])),(⟨#[45]⟩,(.func (.func 70) #[] #[(.pointer (some ⟨zC,0,none⟩)),(.pointer (some ⟨zD,0,none⟩))])),(⟨#[42]⟩,(.func (.func 71) #[] #[(.pointer (some ⟨zC,0,none⟩)),(.pointer (some ⟨zD,0,none⟩))])),(⟨#[47]⟩,(.func (.func 72) #[] #[(.pointer (some ⟨zC,0,none⟩)),(.pointer (some ⟨zD,0,none⟩))]))],stb z4h 40 [(.int .i64 0),(.int .i64 0)],stb zD 40 [(.int .i64 zT.fN),(.int .i64 zT.fD)],stb zC 40 [(.int .i64 z10.fN),(.int .i64 z10.fD)]]) (B:=[stb zC 40 [(.int .i64 z10.fN),(.int .i64 z10.fD)],stb zD 40 [(.int .i64 zT.fN),(.int .i64 zT.fD)]]) (fun _ hx'=>((.cons .h3 (.cons .h2 .nil)) : Sel _ [stb zC 40 [(.int .i64 z10.fN),(.int .i64 z10.fD)],stb zD 40 [(.int .i64 zT.fN),(.int .i64 zT.fD)]] _).mem hx') (.tail _ (.head _)) _).stb) zvg) ?_
    refine WL.a (d:=37) rfl rfl rfl (q_extract rfl rfl) ?_
    refine WL.a (d:=38) rfl rfl rfl (q_extract rfl rfl) ?_
    refine WL.b (dd:=39) rfl rfl rfl (zi (l:=[.tmp 37,.tmp 38]) Tryz.call73 (.cons rfl (.cons rfl .nil))) (.nil : Sel [mapA z7z Value.string (fun x=>x) [(⟨#[43]⟩,(.func (.func 69) #[] #[(.pointer (some ⟨zC,0,none⟩)),(.pointer (some ⟨zD,0,none⟩))])),(⟨#[45]⟩,(.func (.func 70) #[] #[(.pointer (some ⟨zC,0,none⟩)),(.pointer (some ⟨zD,0,none⟩))])),(⟨#[42]⟩,(.func (.func 71) #[] #[(.pointer (some ⟨zC,0,none⟩)),(.pointer (some ⟨zD,0,none⟩))])),(⟨#[47]⟩,(.func (.func 72) #[] #[(.pointer (some ⟨zC,0,none⟩)),(.pointer (some ⟨zD,0,none⟩))]))],stb z4h 40 [(.int .i64 0),(.int .i64 0)],stb zD 40 [(.int .i64 zT.fN),(.int .i64 zT.fD)],stb zC 40 [(.int .i64 z10.fN),(.int .i64 z10.fD)]] [] [mapA z7z Value.string (fun x=>x) [(⟨#[43]⟩,(.func (.func 69) #[] #[(.pointer (some ⟨zC,0,none⟩)),(.pointer (some ⟨zD,0,none⟩))])),(⟨#[45]⟩,(.func (.func 70) #[] #[(.pointer (some ⟨zC,0,none⟩)),(.pointer (some ⟨zD,0,none⟩))])),(⟨#[42]⟩,(.func (.func 71) #[] #[(.pointer (some ⟨zC,0,none⟩)),(.pointer (some ⟨zD,0,none⟩))])),(⟨#[47]⟩,(.func (.func 72) #[] #[(.pointer (some ⟨zC,0,none⟩)),(.pointer (some ⟨zD,0,none⟩))]))],stb z4h 40 [(.int .i64 0),(.int .i64 0)],stb zD 40 [(.int .i64 zT.fN),(.int .i64 zT.fD)],stb zC 40 [(.int .i64 z10.fN),(.int .i64 z10.fD)]]) (fun w hw=>by have pz:=(hz.call hw (.nil : Sel [mapA z7z Value.string (fun x=>x) [(⟨#[43]⟩,(.func (.func 69) #[] #[(.pointer (some ⟨zC,0,none⟩)),(.pointer (some ⟨zD,0,none⟩))])),(⟨#[45]⟩,(.func (.func 70) #[] #[(.pointer (some ⟨zC,0,none⟩)),(.pointer (some ⟨zD,0,none⟩))])),(⟨#[42]⟩,(.func (.func 71) #[] #[(.pointer (some ⟨zC,0,none⟩)),(.pointer (some ⟨zD,0,none⟩))])),(⟨#[47]⟩,(.func (.func 72) #[] #[(.pointer (some ⟨zC,0,none⟩)),(.pointer (some ⟨zD,0,none⟩))]))],stb z4h 40 [(.int .i64 0),(.int .i64 0)],stb zD 40 [(.int .i64 zT.fN),(.int .i64 zT.fD)],stb zC 40 [(.int .i64 z10.fN),(.int .i64 z10.fD)]] [] [mapA z7z Value.string (fun x=>x) [(⟨#[43]⟩,(.func (.func 69) #[] #[(.pointer (some ⟨zC,0,none⟩)),(.pointer (some ⟨zD,0,none⟩))])),(⟨#[45]⟩,(.func (.func 70) #[] #[(.pointer (some ⟨zC,0,none⟩)),(.pointer (some ⟨zD,0,none⟩))])),(⟨#[42]⟩,(.func (.func 71) #[] #[(.pointer (some ⟨zC,0,none⟩)),(.pointer (some ⟨zD,0,none⟩))])),(⟨#[47]⟩,(.func (.func 72) #[] #[(.pointer (some ⟨zC,0,none⟩)),(.pointer (some ⟨zD,0,none⟩))]))],stb z4h 40 [(.int .i64 0),(.int .i64 0)],stb zD 40 [(.int .i64 zT.fN),(.int .i64 zT.fD)],stb zC 40 [(.int .i64 z10.fN),(.int .i64 z10.fD)]])); exact w_rat_Make (Z:=_)  (z7R:=ze1.1) (z7v:=ze1.2) (r:=zbq) w pz  zvh) ?_
    refine WL.a (d:=40) rfl rfl rfl (q_extract rfl rfl) ?_
    refine WL.a (d:=41) rfl rfl rfl (q_extract rfl rfl) ?_
    refine WL.eff0 rfl rfl (e_store (vs:=[(.int .i64 zbq.1.fN),(.int .i64 zbq.1.fD)]) (ds:=[(.int .i64 zbq.1.fN),(.int .i64 zbq.1.fD)]) sizT_40 rfl rfl rfl rfl (oc_cons rfl (oc_cons rfl oc_nil)) .h1 (Nat.le_of_ble_eq_true rfl) rfl) ?_
    refine WL.a (d:=7) rfl rfl rfl (q_z rfl) ?_
    refine WL.nil ?_
    refine WX.a ?_
    refine WC.ret ?_
    obtain rfl:=Option.some.inj h
    refine WX.bpRet Tryz.results53 (.agg rfl aggT_40 rfl (rd_all .here) (.tmp rfl .nil)) (fun w hw=>?_)
    exact ⟨ret2 rfl rfl,hw.sub .nil⟩
def m_rat_Div (z4B : z2) (z4C : z2) : Option (z2 × Int) :=
 (m_rat_dob z4B z4C).bind fun zbr=>some (zbr.1,zbr.2)
set_option maxRecDepth 20000 in
theorem w_rat_Div (Z : Zp)   (z4B : z2) (z4C : z2) (r : z2 × Int) (w₀ : World) (hz : PZ [] w₀ Z)
  (h : m_rat_Div z4B z4C = some r) :
  Calls Tryz.prog 33 #[(.agg #[(.int .i64 z4B.fN),(.int .i64 z4B.fD)]),(.agg #[(.int .i64 z4C.fN),(.int .i64 z4C.fD)])] w₀ fun e w'=>e = .returned (.tuple #[(.agg #[(.int .i64 r.1.fN),(.int .i64 r.1.fD)]),(.int .i64 r.2)]) ∧ Hp [] w₀ w' []:=by
 unfold m_rat_Div at h
 refine Calls.ofWC (vs:=[(.agg #[(.int .i64 z4B.fN),(.int .i64 z4B.fD)]),(.agg #[(.int .i64 z4C.fN),(.int .i64 z4C.fD)])]) (pre:=[]) (env:=[(0,(.agg #[(.int .i64 z4B.fN),(.int .i64 z4B.fD)])),(1,(.agg #[(.int .i64 z4C.fN),(.int .i64 z4C.fD)]))]) Tryz.func33 rfl Tryz.ntmps33 rfl (Hp.nil w₀ _) rfl ?_
 refine WC.b ?_
 refine WC.a ?_
 refine WL.new (dd:=2) rfl rfl rfl (e_box (cs:=[(.int .i64 z4B.fN),(.int .i64 z4B.fD)]) rfl rfl) ?_
 intro zhn _
 refine WL.new (dd:=3) rfl rfl rfl (e_box (cs:=[(.int .i64 z4C.fN),(.int .i64 z4C.fD)]) rfl rfl) ?_
 intro zho _
 refine WL.new (dd:=4) rfl rfl rfl (e_alloc (cs:=[(.int .i64 0),(.int .i64 0)]) zeroT_40 rfl) ?_
 intro zhp _
 refine WL.a (d:=5) rfl rfl rfl (q_z rfl) ?_
 refine WL.nil ?_
 refine WX.a ?_
 refine WC.b ?_
 obtain ⟨zbr,zvi,h⟩:=z8 h
 refine WC.a ?_
 refine WL.a (d:=6) rfl rfl rfl (q_loadA (cs:=[(.int .i64 z4B.fN),(.int .i64 z4B.fD)]) aggT_40 rfl rfl (rd_all .h2)) ?_
 refine WL.a (d:=7) rfl rfl rfl (q_loadA (cs:=[(.int .i64 z4C.fN),(.int .i64 z4C.fD)]) aggT_40 rfl rfl (rd_all .h1)) ?_
 refine WL.b (dd:=8) rfl rfl rfl (zi (l:=[.const (.string ⟨#[47]⟩),.tmp 6,.tmp 7]) Tryz.call53 (.cons rfl (.cons rfl (.cons rfl .nil)))) (.nil : Sel [stb zhp 40 [(.int .i64 0),(.int .i64 0)],stb zho 40 [(.int .i64 z4C.fN),(.int .i64 z4C.fD)],stb zhn 40 [(.int .i64 z4B.fN),(.int .i64 z4B.fD)]] [] [stb zhp 40 [(.int .i64 0),(.int .i64 0)],stb zho 40 [(.int .i64 z4C.fN),(.int .i64 z4C.fD)],stb zhn 40 [(.int .i64 z4B.fN),(.int .i64 z4B.fD)]]) (fun w hw=>by have pz:=(hz.call hw (.nil : Sel [stb zhp 40 [(.int .i64 0),(.int .i64 0)],stb zho 40 [(.int .i64 z4C.fN),(.int .i64 z4C.fD)],stb zhn 40 [(.int .i64 z4B.fN),(.int .i64 z4B.fD)]] [] [stb zhp 40 [(.int .i64 0),(.int .i64 0)],stb zho 40 [(.int .i64 z4C.fN),(.int .i64 z4C.fD)],stb zhn 40 [(.int .i64 z4B.fN),(.int .i64 z4B.fD)]])); exact w_rat_dob (Z:=_)  (z10:=z4B) (zT:=z4C) (r:=zbr) w pz  zvi) ?_
 refine WL.a (d:=9) rfl rfl rfl (q_extract rfl rfl) ?_
 refine WL.a (d:=10) rfl rfl rfl (q_extract rfl rfl) ?_
 refine WL.eff0 rfl rfl (e_store (vs:=[(.int .i64 zbr.1.fN),(.int .i64 zbr.1.fD)]) (ds:=[(.int .i64 zbr.1.fN),(.int .i64 zbr.1.fD)]) sizT_40 rfl rfl rfl rfl (oc_cons rfl (oc_cons rfl oc_nil)) .here (Nat.le_of_ble_eq_true rfl) rfl) ?_
 refine WL.a (d:=5) rfl rfl rfl (q_z rfl) ?_
 refine WL.nil ?_
 refine WX.a ?_
 refine WC.ret ?_
 obtain rfl:=Option.some.inj h
 refine WX.bpRet Tryz.results33 (.agg rfl aggT_40 rfl (rd_all .here) (.tmp rfl .nil)) (fun w hw=>?_)
 exact ⟨ret2 rfl rfl,hw.sub .nil⟩
theorem srtA_97 : ∀ w,(isAgg (Tryz.laysSlF014_f97_ren.t 24)).run Tryz.prog w = .ok true w:=fun _=>by kernel_rfl
theorem srtZ_97 : ∀ w,(Go.sizeOf (Tryz.laysSlF014_f97_ren.t 24)).run Tryz.prog w = .ok 2 w:=fun _=>by kernel_rfl
def m_slices_pdqsortCmpFunc_api_Rat (z6B : List z2) (zfu : Int) (zfv : Int) (ze2 : Int) (zcD : z2 → z2 → Option Int) : Option (List z2):=chk ((zfu = 0 ∧ zfv = ((z6B.length : Nat) : Int)) ∧ (0 ≤ ze2 ∧ ze2 < 4611686018427387904 ∧ z6B.length < 4611686018427387904)) (chk (ordB zcD (sortBy zcD z6B) = true) (some (sortBy zcD z6B)))
theorem w_slices_pdqsortCmpFunc_api_Rat (Z : Zp) (zcE : Option Addr) (zcF : Nat) (zfw : FuncId) (zko : List Value) (z6B : List z2) (zfu : Int) (zfv : Int) (ze2 : Int) (zcD : z2 → z2 → Option Int) (r : List z2) (w₀ : World) (hz : PZ (fps [row (.slice zcE z6B.length zcF) 40 2 (z6B.flatMap e40)]) w₀ Z)
  (zvj : ∀ args w,(callFunc zfw args).run Tryz.prog w = .ok (.enter zfw args) w)
  (zvk : ∀ w : World,PZ [] w Z → ∀ (x0 : z2) (x1 : z2) (r : Int),zcD x0 x1 = some r → Calls Tryz.prog zfw (([(.agg #[(.int .i64 x0.fN),(.int .i64 x0.fD)]),(.agg #[(.int .i64 x1.fN),(.int .i64 x1.fD)])] : List Value) ++ zko).toArray w fun e w'=>e = .returned (.int .i64 r) ∧ Hp [] w w' [])
  (h : m_slices_pdqsortCmpFunc_api_Rat z6B zfu zfv ze2 zcD = some r) (hown : Hp (fps [row (.slice zcE z6B.length zcF) 40 2 (z6B.flatMap e40)]) w₀ w₀ [row (.slice zcE z6B.length zcF) 40 2 (z6B.flatMap e40)]) :
  Calls Tryz.prog 97 #[(.slice zcE z6B.length zcF),(.int .i64 zfu),(.int .i64 zfv),(.int .i64 ze2),(.func (.func zfw) #[] (zko).toArray)] w₀ fun e w'=>e = .returned (.tuple #[]) ∧ (r.length = z6B.length) ∧ Hp (fps [row (.slice zcE z6B.length zcF) 40 2 (z6B.flatMap e40)]) w₀ w' [row (.slice zcE r.length zcF) 40 2 (r.flatMap e40)]:=by
 obtain ⟨h0,h⟩:=chk_elim h
 obtain ⟨h1,h⟩:=chk_elim h
 have hr:=(Option.some.inj h).symm
 exact sort_func (P:=Tryz.prog) (f:=97) (e:=40) (k:=2) (enc:=e40) (fun _=>rfl) (by decide) e40_oc (fun β _ enc cf g cb hO blk off cap d0 w0 eg hC R=>Tryz.pdqsortCmpFunc_all_f97 2 srtA_97 srtZ_97 enc cf g cb hO blk off cap d0 w0 eg hC R) (Tryz.pdqsortCmpFunc_none_f97 (α:=Unit)) hz zvj zvk h0 h1 hr hown
def m_slices_SortFunc_api_Rat_api_Rat (z2k : List z2) (ze3 : z2 → z2 → Option Int) : Option (List z2) :=
 (m_bits_Len (u64 ((z2k.length : Nat) : Int))).bind fun zhq=>(m_slices_pdqsortCmpFunc_api_Rat z2k 0 ((z2k.length : Nat) : Int) zhq ze3).bind fun zhr=>some zhr
set_option maxRecDepth 20000 in
theorem w_slices_SortFunc_api_Rat_api_Rat (Z : Zp)  (z5a : Option Addr) (z5b : Nat) (zbs : FuncId) (ze4 : List Value) (z2k : List z2) (ze3 : z2 → z2 → Option Int) (r : List z2) (w₀ : World) (hz : PZ (fps [row (.slice z5a z2k.length z5b) 40 2 (z2k.flatMap e40)]) w₀ Z)
  (zvl : ∀ args w,(callFunc zbs args).run Tryz.prog w = .ok (.enter zbs args) w)
  (zvm : ∀ w : World,PZ [] w Z → ∀ (x0 : z2) (x1 : z2) (r : Int),ze3 x0 x1 = some r → Calls Tryz.prog zbs (([(.agg #[(.int .i64 x0.fN),(.int .i64 x0.fD)]),(.agg #[(.int .i64 x1.fN),(.int .i64 x1.fD)])] : List Value) ++ ze4).toArray w fun e w'=>e = .returned (.int .i64 r) ∧ Hp [] w w' [])
  (h : m_slices_SortFunc_api_Rat_api_Rat z2k ze3 = some r)
  (hown : Hp (fps [row (.slice z5a z2k.length z5b) 40 2 (z2k.flatMap e40)]) w₀ w₀ [row (.slice z5a z2k.length z5b) 40 2 (z2k.flatMap e40)]) :
  Calls Tryz.prog 86 #[(.slice z5a z2k.length z5b),(.func (.func zbs) #[] (ze4).toArray)] w₀ fun e w'=>e = .returned (.tuple #[]) ∧ (r.length = z2k.length) ∧ Hp (fps [row (.slice z5a z2k.length z5b) 40 2 (z2k.flatMap e40)]) w₀ w' [row (.slice z5a r.length z5b) 40 2 (r.flatMap e40)]:=by
 unfold m_slices_SortFunc_api_Rat_api_Rat at h
 refine Calls.ofWC (vs:=[(.slice z5a z2k.length z5b),(.func (.func zbs) #[] (ze4).toArray)]) (pre:=[row (.slice z5a z2k.length z5b) 40 2 (z2k.flatMap e40)]) (env:=[(0,(.slice z5a z2k.length z5b)),(1,(.func (.func zbs) #[] (ze4).toArray))]) Tryz.func86 rfl Tryz.ntmps86 rfl (hown) rfl ?_
 refine WC.b ?_
 refine WC.a ?_
 refine WL.a (d:=5) rfl rfl rfl (q_m rfl) ?_
 refine WL.a (d:=6) rfl rfl rfl (q_len Tryz.underlying65 rfl) ?_
 refine WL.a (d:=4) rfl rfl rfl (q_z rfl) ?_
 refine WL.nil ?_
 refine WX.a ?_
 obtain ⟨zhq,zvn,h⟩:=z8 h
 obtain ⟨zhr,zvo,h⟩:=z8 h
 refine WC.a ?_
 refine WL.a (d:=7) rfl rfl rfl (q_m rfl) ?_
 refine WL.a (d:=8) rfl rfl rfl (q_m rfl) ?_
 refine WL.a (d:=9) rfl rfl rfl (q_m rfl) ?_
 refine WL.a (d:=10) rfl rfl rfl (q_conv Tryz.underlying3 Tryz.underlying128 rfl rfl) ?_
 refine WL.b (dd:=11) rfl rfl rfl (zi (l:=[.tmp 10]) Tryz.call98 (.cons rfl .nil)) (.nil : Sel [row (.slice z5a z2k.length z5b) 40 2 (z2k.flatMap e40)] [] [row (.slice z5a z2k.length z5b) 40 2 (z2k.flatMap e40)]) (fun w hw=>by have pz:=(hz.call hw (.nil : Sel [row (.slice z5a z2k.length z5b) 40 2 (z2k.flatMap e40)] [] [row (.slice z5a z2k.length z5b) 40 2 (z2k.flatMap e40)])); exact w_bits_Len (Z:=_)  (za8:=(u64 ((z2k.length : Nat) : Int))) (r:=zhq) w pz  zvn) ?_
 refine WL.a (d:=12) rfl rfl rfl (q_m rfl) ?_
 refine WL.enter0 (dd:=13) rfl rfl rfl (zi (l:=[.tmp 7,.const (.int .i64 0),.tmp 8,.tmp 11,.tmp 12]) Tryz.call97 (.cons rfl (.cons rfl (.cons rfl (.cons rfl (.cons rfl .nil)))))) ((.cons .here .nil) : Sel [row (.slice z5a z2k.length z5b) 40 2 (z2k.flatMap e40)] [row (.slice z5a z2k.length z5b) 40 2 (z2k.flatMap e40)] []) (fun w hw=>by have pz:=(hz.call hw ((.cons .here .nil) : Sel [row (.slice z5a z2k.length z5b) 40 2 (z2k.flatMap e40)] [row (.slice z5a z2k.length z5b) 40 2 (z2k.flatMap e40)] [])); exact w_slices_pdqsortCmpFunc_api_Rat (Z:=_) (zcE:=z5a) (zcF:=z5b) (zfw:=zbs) (zko:=ze4) (z6B:=z2k) (zfu:=0) (zfv:=((z2k.length : Nat) : Int)) (ze2:=zhq) (zcD:=ze3) (r:=zhr) w pz zvl zvm zvo (hw.owns ((.cons .here .nil) : Sel [row (.slice z5a z2k.length z5b) 40 2 (z2k.flatMap e40)] [row (.slice z5a z2k.length z5b) 40 2 (z2k.flatMap e40)] []))) ?_
 rintro  zq2
 refine WL.repin (i:=0) rfl (u:=(.slice z5a zhr.length z5b)) (slen zq2.symm) ?_
 refine WL.nil ?_
 obtain rfl:=Option.some.inj h
 refine WX.bpNormal Tryz.results86 .nil (fun w hw=>?_)
 exact ⟨ret0,(zq2.trans rfl),hw.sub (.cons .here .nil)⟩
def m_slices_Compact_api_Rat_api_Rat_L4 (z1m : List z2) (zP : Int) (zaj : (List z2) → Int → Option (List z2)) : Nat → (List z2) → Int → Int → Option (List z2)
 | 0,_,_,_=>none
 | zkp + 1,z1X,z5c,k2_11621=>if decide (k2_11621 < ((z1m.length - (zP : Int).toNat : Nat) : Int)) then jp2 (fun (z8g : List z2) (zak : Int)=>m_slices_Compact_api_Rat_api_Rat_L4 z1m zP zaj zkp z8g zak (i64 (k2_11621 + 1))) fun zhs=>chk ((0 : Int) ≤ k2_11621 ∧ k2_11621 < ((z1m.length - (zP : Int).toNat : Nat) : Int)) (chk ((0 : Int) ≤ (i64 (k2_11621 - 1)) ∧ (i64 (k2_11621 - 1)) < ((z1m.length - (zP : Int).toNat : Nat) : Int)) (if decide ((⟨((nth z1X (zP + k2_11621)).fN),((nth z1X (zP + k2_11621)).fD)⟩ : z2) ≠ (⟨((nth z1X (zP + (i64 (k2_11621 - 1)))).fN),((nth z1X (zP + (i64 (k2_11621 - 1)))).fD)⟩ : z2)) then chk ((0 : Int) ≤ k2_11621 ∧ k2_11621 < ((z1m.length - (zP : Int).toNat : Nat) : Int)) (chk ((0 : Int) ≤ z5c ∧ z5c < ((z1X.length : Nat) : Int)) (zhs (z1X.set (z5c : Int).toNat (⟨((nth z1X (zP + k2_11621)).fN),((nth z1X (zP + k2_11621)).fD)⟩ : z2)) (i64 (z5c + 1)))) else zhs z1X z5c)) else zaj z1X z5c
theorem m_slices_Compact_api_Rat_api_Rat_L4_fuel {n : Nat} {z1m : List z2} {zP : Int} {zaj : (List z2) → Int → Option (List z2)} {z1X : List z2} {z5c : Int} {k2_11621 : Int} {r : List z2} (h : m_slices_Compact_api_Rat_api_Rat_L4 z1m zP zaj n z1X z5c k2_11621 = some r) : ∃ m,n = m + 1:=by
 cases n with
 | zero=>cases h
 | succ m=>exact ⟨m,rfl⟩
def m_slices_Compact_api_Rat_api_Rat_L3 (z1m : List z2) (zal : Option (List z2)) : Nat → Int → Option (List z2)
 | 0,_=>none
 | zkq + 1,zP=>if decide (zP < ((z1m.length : Nat) : Int)) then jp0 (m_slices_Compact_api_Rat_api_Rat_L3 z1m zal zkq (i64 (zP + 1))) fun zkr=>chk ((0 : Int) ≤ zP ∧ zP < ((z1m.length : Nat) : Int)) (chk ((0 : Int) ≤ (i64 (zP - 1)) ∧ (i64 (zP - 1)) < ((z1m.length : Nat) : Int)) (if decide ((⟨((nth z1m zP).fN),((nth z1m zP).fD)⟩ : z2) = (⟨((nth z1m (i64 (zP - 1))).fN),((nth z1m (i64 (zP - 1))).fD)⟩ : z2)) then chk ((0 : Int) ≤ zP ∧ zP < ((z1m.length : Nat) : Int)) (jp2 (fun (z5d : List z2) (z5e : Int)=>chk ((0 : Int) ≤ z5e ∧ z5e ≤ ((z5d.length : Nat) : Int)) (chk ((0 : Int) ≤ z5e ∧ z5e ≤ (((z5d.take (z5e : Int).toNat ++ List.replicate (z5d.length - (z5e : Int).toNat) ((⟨0,0⟩ : z2) : z2)).length : Nat) : Int)) (some ((z5d.take (z5e : Int).toNat ++ List.replicate (z5d.length - (z5e : Int).toNat) ((⟨0,0⟩ : z2) : z2)).take (z5e : Int).toNat)))) fun zaj=>m_slices_Compact_api_Rat_api_Rat_L4 z1m zP zaj FUEL z1m zP 1) else zkr)) else zal
theorem m_slices_Compact_api_Rat_api_Rat_L3_fuel {n : Nat} {z1m : List z2} {zal : Option (List z2)} {zP : Int} {r : List z2} (h : m_slices_Compact_api_Rat_api_Rat_L3 z1m zal n zP = some r) : ∃ m,n = m + 1:=by
 cases n with
 | zero=>cases h
 | succ m=>exact ⟨m,rfl⟩
def m_slices_Compact_api_Rat_api_Rat (z1m : List z2) : Option (List z2) :=
 if decide (((z1m.length : Nat) : Int) < 2) then some z1m else jp0 (some z1m) fun zal=>m_slices_Compact_api_Rat_api_Rat_L3 z1m zal FUEL 1
set_option maxRecDepth 20000 in
theorem w_slices_Compact_api_Rat_api_Rat (Z : Zp)  (z8Y : Option Addr) (z8Z : Nat) (z1m : List z2) (r : List z2) (w₀ : World) (hz : PZ (fps [row (.slice z8Y z1m.length z8Z) 40 2 (z1m.flatMap e40)]) w₀ Z)
  (h : m_slices_Compact_api_Rat_api_Rat z1m = some r)
  (hown : Hp (fps [row (.slice z8Y z1m.length z8Z) 40 2 (z1m.flatMap e40)]) w₀ w₀ [row (.slice z8Y z1m.length z8Z) 40 2 (z1m.flatMap e40)]) :
  Calls Tryz.prog 87 #[(.slice z8Y z1m.length z8Z)] w₀ fun e w'=>∃ zq3 : Option Addr,∃ zq4 : Nat,e = .returned (.slice zq3 r.length zq4) ∧ True ∧ Hp (fps [row (.slice z8Y z1m.length z8Z) 40 2 (z1m.flatMap e40)]) w₀ w' [row (.slice zq3 r.length zq4) 40 2 (r.flatMap e40)]:=by
 unfold m_slices_Compact_api_Rat_api_Rat at h
 refine Calls.ofWC (vs:=[(.slice z8Y z1m.length z8Z)]) (pre:=[row (.slice z8Y z1m.length z8Z) 40 2 (z1m.flatMap e40)]) (env:=[(0,(.slice z8Y z1m.length z8Z))]) Tryz.func87 rfl Tryz.ntmps87 rfl (hown) rfl ?_
 refine WC.b ?_
 refine WC.a ?_
 refine WL.a (d:=2) rfl rfl rfl (q_z rfl) ?_
 refine WL.nil ?_
 refine WX.a ?_
 refine WC.b ?_
 refine WC.b ?_
 refine WC.a ?_
 refine WL.a (d:=6) rfl rfl rfl (q_m rfl) ?_
 refine WL.a (d:=7) rfl rfl rfl (q_len Tryz.underlying65 rfl) ?_
 refine WL.a (d:=8) rfl rfl rfl (q_lss rfl rfl) ?_
 refine WL.nil ?_
 refine WX.a ?_
 refine WC.cond rfl (fun zks=>?_) (fun zks=>?_)
 ·replace h:=ite_t h zks
  refine WC.b ?_
  refine WC.a ?_
  refine WL.a (d:=9) rfl rfl rfl (q_m rfl) ?_
  refine WL.a (d:=2) rfl rfl rfl (q_z rfl) ?_
  refine WL.nil ?_
  refine WX.a ?_
  refine WC.ret ?_
  refine WX.thenRet ?_
  obtain rfl:=Option.some.inj h
  refine WX.bpRet Tryz.results87 (.tmp rfl .nil) (fun w hw=>?_)
  exact ⟨z8Y,z8Z,ret1 rfl,trivial,hw.sub (.cons .here .nil)⟩
 ·replace h:=ite_f h zks
  refine WC.skip ?_
  refine WX.a ?_
  obtain ⟨zal,zvp,h⟩:=jp0_elim h
  refine WC.seqMid2 (fun (ze5 : Option Addr) (ze6 : Nat)=>(zal = some r)) (fun (ze5 : Option Addr) (ze6 : Nat)=>[(0,(.slice ze5 z1m.length ze6))]) (fun (ze5 : Option Addr) (ze6 : Nat)=>[row (.slice ze5 z1m.length ze6) 40 2 (z1m.flatMap e40)]) ?_ ?_
  ·skip
   refine WC.b ?_
   refine WC.a ?_
   refine WL.a (d:=3) rfl rfl rfl (q_z rfl) ?_
   refine WL.nil ?_
   refine WX.a ?_
   refine WC.block ?_
   refine WC.loop4 (fun (ze7 : Nat) (zP : Int) (zcG : Option Addr) (z5z : Nat)=>(m_slices_Compact_api_Rat_api_Rat_L3 z1m zal ze7 zP = some r)) (fun (ze7 : Nat) (zP : Int) (zcG : Option Addr) (z5z : Nat)=>[(0,(.slice zcG z1m.length z5z)),(3,(.int .i64 zP))]) (fun (ze7 : Nat) (zP : Int) (zcG : Option Addr) (z5z : Nat)=>[row (.slice zcG z1m.length z5z) 40 2 (z1m.flatMap e40)]) (fun (ze7 : Nat) (zP : Int) (zcG : Option Addr) (z5z : Nat)=>ze7) ⟨FUEL,1,z8Y,z8Z⟩ h (.cons rfl (.cons rfl .nil)) (.cons .here .nil) ?_
   rintro ze7 zP zcG z5z h
   obtain ⟨zkq,rfl⟩:=m_slices_Compact_api_Rat_api_Rat_L3_fuel h
   rw [m_slices_Compact_api_Rat_api_Rat_L3] at h
   refine WC.b ?_
   refine WC.b ?_
   refine WC.a ?_
   refine WL.a (d:=10) rfl rfl rfl (q_m rfl) ?_
   refine WL.a (d:=11) rfl rfl rfl (q_m rfl) ?_
   refine WL.a (d:=12) rfl rfl rfl (q_len Tryz.underlying65 rfl) ?_
   refine WL.a (d:=13) rfl rfl rfl (q_lss rfl rfl) ?_
   refine WL.nil ?_
   refine WX.a ?_
   refine WC.cond rfl (fun zkt=>?_) (fun zkt=>?_)
   ·replace h:=ite_t h zkt
    refine WC.skip ?_
    refine WX.a ?_
    obtain ⟨zkr,zvq,h⟩:=jp0_elim h
    refine WC.seqMid2 (fun (ze8 : Option Addr) (ze9 : Nat)=>(zkr = some r)) (fun (ze8 : Option Addr) (ze9 : Nat)=>[(0,(.slice ze8 z1m.length ze9)),(3,(.int .i64 zP))]) (fun (ze8 : Option Addr) (ze9 : Nat)=>[row (.slice ze8 z1m.length ze9) 40 2 (z1m.flatMap e40)]) ?_ ?_
    ·skip
     refine WC.block ?_
     refine WC.b ?_
     obtain ⟨zfx,h⟩:=chk_elim h
     obtain ⟨zht,h⟩:=chk_elim h
     refine WC.draw (fun i=>[].contains i) [] rfl ?_
     refine WD.a (i:=0) (d:=16) (by kernel_rfl) rfl (z6 (by kernel_rfl)) (z7 (by kernel_rfl)) rfl rfl rfl (fun _=>q_m rfl) ?_
     refine WD.a (i:=1) (d:=17) (by kernel_rfl) rfl (z6 (by kernel_rfl)) (z7 (by kernel_rfl)) rfl rfl rfl (fun _=>q_m rfl) ?_
     refine WD.know (fun w hw=>Hp.expose .here hw (by intro hz'; have:=zfx; rw [hz'] at this; omega)) ?_
     rintro ⟨z7S,rfl⟩
     refine WD.a (i:=2) (d:=18) (by kernel_rfl) rfl (z6 (by kernel_rfl)) (z7 (by kernel_rfl)) rfl rfl rfl (fun _=>q_indexAddr elT_65 rfl rfl zfx.1 zfx.2 rowAdd) ?_
     refine WD.e (i:=3) (d:=19) (by kernel_rfl) rfl (z6 (by kernel_rfl)) (z7 (by kernel_rfl)) rfl rfl rfl (q_loadA (cs:=(e40 (nth z1m zP))) aggT_40 rfl rfl (rd_rows .here (flat_rd (enc:=e40) (l:=z1m) (i:=zP) (sz:=2) (fun _=>rfl) zfx.1 zfx.2))) ?_
     refine WD.a (i:=4) (d:=20) (by kernel_rfl) rfl (z6 (by kernel_rfl)) (z7 (by kernel_rfl)) rfl rfl rfl (fun _=>q_m rfl) ?_
     refine WD.a (i:=5) (d:=21) (by kernel_rfl) rfl (z6 (by kernel_rfl)) (z7 (by kernel_rfl)) rfl rfl rfl (fun _=>q_m rfl) ?_
     refine WD.a (i:=6) (d:=22) (by kernel_rfl) rfl (z6 (by kernel_rfl)) (z7 (by kernel_rfl)) rfl rfl rfl (fun _=>q_sub rfl rfl rfl) ?_
     refine WD.a (i:=7) (d:=23) (by kernel_rfl) rfl (z6 (by kernel_rfl)) (z7 (by kernel_rfl)) rfl rfl rfl (fun _=>q_indexAddr elT_65 rfl rfl zht.1 zht.2 rowAdd) ?_
     refine WD.e (i:=8) (d:=24) (by kernel_rfl) rfl (z6 (by kernel_rfl)) (z7 (by kernel_rfl)) rfl rfl rfl (q_loadA (cs:=(e40 (nth z1m (i64 (zP - 1))))) aggT_40 rfl rfl (rd_rows .here (flat_rd (enc:=e40) (l:=z1m) (i:=i64 (zP - 1)) (sz:=2) (fun _=>rfl) zht.1 zht.2))) ?_
     refine WD.a (i:=9) (d:=25) (by kernel_rfl) rfl (z6 (by kernel_rfl)) (z7 (by kernel_rfl)) rfl rfl rfl (fun _=>q_aggeql (enc:=e40) (a:=(⟨((nth z1m zP).fN),((nth z1m zP).fD)⟩ : z2)) (b:=(⟨((nth z1m (i64 (zP - 1))).fN),((nth z1m (i64 (zP - 1))).fD)⟩ : z2)) eqT_40 rfl rfl) ?_
     refine WD.done (by kernel_rfl) ?_
     refine WX.a ?_
     refine WC.cond rfl (fun zku=>?_) (fun zku=>?_)
     ·replace h:=ite_t h zku
      refine WC.b ?_
      obtain ⟨zcH,h⟩:=chk_elim h
      refine WC.a ?_
      refine WL.a (d:=26) rfl rfl rfl (q_m rfl) ?_
      refine WL.a (d:=27) rfl rfl rfl (q_m rfl) ?_
      refine WL.rowLoX (dd:=28) rfl rfl elT_65 rfl rfl .here zcH ?_
      refine WL.a (d:=4) rfl rfl rfl (q_z rfl) ?_
      refine WL.nil ?_
      refine WX.a ?_
      obtain ⟨zaj,zvr,h⟩:=jp2_elim h
      refine WC.seqMid2 (fun (z5d : List z2) (z5e : Int)=>(zaj z5d z5e = some r) ∧ (z5d.length = z1m.length)) (fun (z5d : List z2) (z5e : Int)=>[(0,(.slice (some ⟨z7S,0,none⟩) z5d.length z5z)),(3,(.int .i64 z5e))]) (fun (z5d : List z2) (z5e : Int)=>[row (.slice (some ⟨z7S,0,none⟩) z5d.length z5z) 40 2 (z5d.flatMap e40)]) ?_ ?_
      ·skip
       refine WC.b ?_
       refine WC.a ?_
       refine WL.a (d:=5) rfl rfl rfl (q_z rfl) ?_
       refine WL.nil ?_
       refine WX.a ?_
       refine WC.block ?_
       refine WC.loop4 (fun (zea : Nat) (z1X : List z2) (z5c : Int) (k2_11621 : Int)=>(m_slices_Compact_api_Rat_api_Rat_L4 z1m zP zaj zea z1X z5c k2_11621 = some r) ∧ (z1X.length = z1m.length)) (fun (zea : Nat) (z1X : List z2) (z5c : Int) (k2_11621 : Int)=>[(0,(.slice (some ⟨z7S,0,none⟩) z1X.length z5z)),(3,(.int .i64 z5c)),(4,(.slice (some ⟨z7S,(zP : Int).toNat * 2,none⟩) (z1m.length - (zP : Int).toNat) (z5z - (zP : Int).toNat))),(5,(.int .i64 k2_11621))]) (fun (zea : Nat) (z1X : List z2) (z5c : Int) (k2_11621 : Int)=>[row (.slice (some ⟨z7S,0,none⟩) z1X.length z5z) 40 2 (z1X.flatMap e40)]) (fun (zea : Nat) (z1X : List z2) (z5c : Int) (k2_11621 : Int)=>zea) ⟨FUEL,z1m,zP,1⟩ ⟨h,rfl⟩ (.cons rfl (.cons rfl (.cons rfl (.cons rfl .nil)))) (.cons .here .nil) ?_
       rintro zea z1X z5c k2_11621 ⟨h,zeb⟩
       obtain ⟨zkp,rfl⟩:=m_slices_Compact_api_Rat_api_Rat_L4_fuel h
       rw [m_slices_Compact_api_Rat_api_Rat_L4] at h
       refine WC.b ?_
       refine WC.b ?_
       refine WC.a ?_
       refine WL.a (d:=29) rfl rfl rfl (q_m rfl) ?_
       refine WL.a (d:=30) rfl rfl rfl (q_m rfl) ?_
       refine WL.a (d:=31) rfl rfl rfl (q_len Tryz.underlying65 rfl) ?_
       refine WL.a (d:=32) rfl rfl rfl (q_lss rfl rfl) ?_
       refine WL.nil ?_
       refine WX.a ?_
       refine WC.cond rfl (fun zkv=>?_) (fun zkv=>?_)
       ·replace h:=ite_t h zkv
        refine WC.skip ?_
        refine WX.a ?_
        obtain ⟨zhs,zvs,h⟩:=jp2_elim h
        refine WC.seqMid2 (fun (z8g : List z2) (zak : Int)=>(zhs z8g zak = some r) ∧ (z8g.length = z1m.length)) (fun (z8g : List z2) (zak : Int)=>[(0,(.slice (some ⟨z7S,0,none⟩) z8g.length z5z)),(3,(.int .i64 zak)),(4,(.slice (some ⟨z7S,(zP : Int).toNat * 2,none⟩) (z1m.length - (zP : Int).toNat) (z5z - (zP : Int).toNat))),(5,(.int .i64 k2_11621))]) (fun (z8g : List z2) (zak : Int)=>[row (.slice (some ⟨z7S,0,none⟩) z8g.length z5z) 40 2 (z8g.flatMap e40)]) ?_ ?_
        ·skip
         refine WC.block ?_
         refine WC.b ?_
         obtain ⟨zhu,h⟩:=chk_elim h
         obtain ⟨zhv,h⟩:=chk_elim h
         refine WC.draw (fun i=>[].contains i) [] rfl ?_
         refine WD.a (i:=0) (d:=35) (by kernel_rfl) rfl (z6 (by kernel_rfl)) (z7 (by kernel_rfl)) rfl rfl rfl (fun _=>q_m rfl) ?_
         refine WD.a (i:=1) (d:=36) (by kernel_rfl) rfl (z6 (by kernel_rfl)) (z7 (by kernel_rfl)) rfl rfl rfl (fun _=>q_m rfl) ?_
         have zq5 : (0 : Int) ≤ zP + k2_11621 ∧ zP + k2_11621 < ((z1X.length : Nat) : Int):=by have h1:=zeb; have h2:=zcH; have h3:=zhu; omega
         refine WD.a (i:=2) (d:=37) (by kernel_rfl) rfl (z6 (by kernel_rfl)) (z7 (by kernel_rfl)) rfl rfl rfl (fun _=>q_indexAddr elT_65 rfl rfl zhu.1 zhu.2 (aliasAdd zcH.1 zhu.1)) ?_
         refine WD.e (i:=3) (d:=38) (by kernel_rfl) rfl (z6 (by kernel_rfl)) (z7 (by kernel_rfl)) rfl rfl rfl (q_loadA (cs:=(e40 (nth z1X (zP + k2_11621)))) aggT_40 rfl rfl (rd_rows .here (flat_rd (enc:=e40) (l:=z1X) (i:=zP + k2_11621) (sz:=2) (fun _=>rfl) zq5.1 zq5.2))) ?_
         refine WD.a (i:=4) (d:=39) (by kernel_rfl) rfl (z6 (by kernel_rfl)) (z7 (by kernel_rfl)) rfl rfl rfl (fun _=>q_m rfl) ?_
         refine WD.a (i:=5) (d:=40) (by kernel_rfl) rfl (z6 (by kernel_rfl)) (z7 (by kernel_rfl)) rfl rfl rfl (fun _=>q_m rfl) ?_
         refine WD.a (i:=6) (d:=41) (by kernel_rfl) rfl (z6 (by kernel_rfl)) (z7 (by kernel_rfl)) rfl rfl rfl (fun _=>q_sub rfl rfl rfl) ?_
         have zq6 : (0 : Int) ≤ zP + (i64 (k2_11621 - 1)) ∧ zP + (i64 (k2_11621 - 1)) < ((z1X.length : Nat) : Int):=by have h1:=zeb; have h2:=zcH; have h3:=zhv; omega
         refine WD.a (i:=7) (d:=42) (by kernel_rfl) rfl (z6 (by kernel_rfl)) (z7 (by kernel_rfl)) rfl rfl rfl (fun _=>q_indexAddr elT_65 rfl rfl zhv.1 zhv.2 (aliasAdd zcH.1 zhv.1)) ?_
         refine WD.e (i:=8) (d:=43) (by kernel_rfl) rfl (z6 (by kernel_rfl)) (z7 (by kernel_rfl)) rfl rfl rfl (q_loadA (cs:=(e40 (nth z1X (zP + (i64 (k2_11621 - 1)))))) aggT_40 rfl rfl (rd_rows .here (flat_rd (enc:=e40) (l:=z1X) (i:=zP + (i64 (k2_11621 - 1))) (sz:=2) (fun _=>rfl) zq6.1 zq6.2))) ?_
         refine WD.a (i:=9) (d:=44) (by kernel_rfl) rfl (z6 (by kernel_rfl)) (z7 (by kernel_rfl)) rfl rfl rfl (fun _=>q_aggneq (enc:=e40) (a:=(⟨((nth z1X (zP + k2_11621)).fN),((nth z1X (zP + k2_11621)).fD)⟩ : z2)) (b:=(⟨((nth z1X (zP + (i64 (k2_11621 - 1)))).fN),((nth z1X (zP + (i64 (k2_11621 - 1)))).fD)⟩ : z2)) eqT_40 rfl rfl) ?_
         refine WD.done (by kernel_rfl) ?_
         refine WX.a ?_
         refine WC.cond rfl (fun zkw=>?_) (fun zkw=>?_)
         ·replace h:=ite_t h zkw
          refine WC.b ?_
          obtain ⟨zhw,h⟩:=chk_elim h
          obtain ⟨zec,h⟩:=chk_elim h
          refine WC.a ?_
          refine WL.a (d:=45) rfl rfl rfl (q_m rfl) ?_
          refine WL.a (d:=46) rfl rfl rfl (q_m rfl) ?_
          refine WL.a (d:=47) rfl rfl rfl (q_m rfl) ?_
          refine WL.a (d:=48) rfl rfl rfl (q_m rfl) ?_
          have zq7 : (0 : Int) ≤ zP + k2_11621 ∧ zP + k2_11621 < ((z1X.length : Nat) : Int):=by have h1:=zeb; have h2:=zcH; have h3:=zhw; omega
          refine WL.a (d:=49) rfl rfl rfl (q_indexAddr elT_65 rfl rfl zhw.1 zhw.2 (aliasAdd zcH.1 zhw.1)) ?_
          refine WL.a (d:=50) rfl rfl rfl (q_loadA (cs:=(e40 (nth z1X (zP + k2_11621)))) aggT_40 rfl rfl (rd_rows .here (flat_rd (enc:=e40) (l:=z1X) (i:=zP + k2_11621) (sz:=2) (fun _=>rfl) zq7.1 zq7.2))) ?_
          refine WL.a (d:=51) rfl rfl rfl (q_indexAddr elT_65 rfl rfl zec.1 zec.2 rowAdd) ?_
          refine WL.eff0 rfl rfl (e_rowStore (vs:=[(.int .i64 ((nth z1X (zP + k2_11621)).fN)),(.int .i64 ((nth z1X (zP + k2_11621)).fD))]) (ds:=(z1X.set (z5c : Int).toNat (⟨((nth z1X (zP + k2_11621)).fN),((nth z1X (zP + k2_11621)).fD)⟩ : z2)).flatMap e40) sizT_40 rfl rfl rfl rfl (oc_cons rfl (oc_cons rfl oc_nil)) .here (flat_fit (enc:=e40) (sz:=2) (k:=0) (fun _=>rfl) zec.1 zec.2 (by decide)) (flat_put (enc:=e40) (l:=z1X) (sz:=2) (vs:=[(.int .i64 ((nth z1X (zP + k2_11621)).fN)),(.int .i64 ((nth z1X (zP + k2_11621)).fD))]) (y:=(⟨((nth z1X (zP + k2_11621)).fN),((nth z1X (zP + k2_11621)).fD)⟩ : z2)) (k:=0) (fun _=>rfl) zec.1 zec.2 rfl (Nat.le_of_ble_eq_true rfl))) ?_
          refine WL.relen .here (u:=(.slice (some ⟨z7S,0,none⟩) ((z1X.set (z5c : Int).toNat (⟨((nth z1X (zP + k2_11621)).fN),((nth z1X (zP + k2_11621)).fD)⟩ : z2)).length) z5z)) (slen (List.length_set).symm) ?_
          refine WL.repin (i:=0) rfl (u:=(.slice (some ⟨z7S,0,none⟩) ((z1X.set (z5c : Int).toNat (⟨((nth z1X (zP + k2_11621)).fN),((nth z1X (zP + k2_11621)).fD)⟩ : z2)).length) z5z)) (slen (List.length_set).symm) ?_
          refine WL.nil ?_
          refine WX.a ?_
          refine WC.a ?_
          refine WL.a (d:=52) rfl rfl rfl (q_m rfl) ?_
          refine WL.a (d:=53) rfl rfl rfl (q_add rfl rfl rfl) ?_
          refine WL.a (d:=3) rfl rfl rfl (q_z rfl) ?_
          refine WL.nil ?_
          refine WX.blockNormal ?_
          exact WX.mid (G:=List z2 × Int) ⟨(z1X.set (z5c : Int).toNat (⟨((nth z1X (zP + k2_11621)).fN),((nth z1X (zP + k2_11621)).fD)⟩ : z2)),(i64 (z5c + 1))⟩ ⟨h,((List.length_set).trans zeb)⟩ (.cons rfl (.cons rfl (.cons rfl (.cons rfl .nil)))) (.cons .here .nil)
         ·replace h:=ite_f h zkw
          refine WC.skip ?_
          refine WX.blockNormal ?_
          exact WX.mid (G:=List z2 × Int) ⟨z1X,z5c⟩ ⟨h,zeb⟩ (.cons rfl (.cons rfl (.cons rfl (.cons rfl .nil)))) (.cons .here .nil)
        ·rintro z8g zak ⟨h,zvt⟩
         replace h:=(zvs z8g zak).symm.trans h
         refine WC.a ?_
         refine WL.a (d:=33) rfl rfl rfl (q_m rfl) ?_
         refine WL.a (d:=34) rfl rfl rfl (q_add rfl rfl rfl) ?_
         refine WL.a (d:=5) rfl rfl rfl (q_z rfl) ?_
         refine WL.nil ?_
         exact WX.round (G:=Nat × List z2 × Int × Int) ⟨zkp,z8g,zak,(i64 (k2_11621 + 1))⟩ ⟨h,zvt⟩ (Nat.lt_succ_self _) (.cons rfl (.cons rfl (.cons rfl (.cons rfl .nil)))) (.cons .here .nil)
       ·replace h:=ite_f h zkv
        refine WC.exit ?_
        refine WX.thenExit ?_
        refine WX.thenExit ?_
        refine WX.blockHit ?_
        exact WX.mid (G:=List z2 × Int) ⟨z1X,z5c⟩ ⟨h,zeb⟩ (.cons rfl (.cons rfl .nil)) (.cons .here .nil)
      ·rintro z5d z5e ⟨h,zCo⟩
       replace h:=(zvr z5d z5e).symm.trans h
       refine WC.b ?_
       obtain ⟨zhx,h⟩:=chk_elim h
       refine WC.a ?_
       refine WL.a (d:=54) rfl rfl rfl (q_m rfl) ?_
       refine WL.a (d:=55) rfl rfl rfl (q_m rfl) ?_
       refine WL.rowLoD (dd:=56) rfl rfl elT_65 rfl rfl .here zhx ?_
       intro zCp zCq zvu
       refine WL.eff0 rfl rfl (e_clearTailD (enc:=e40) (z0:=((⟨0,0⟩ : z2) : z2)) (l:=z5d) elT_65 zeroT_40 rfl zvu zhx (fun _=>rfl) (by decide) rfl e40_oc .here) ?_
       refine WL.relen .here (u:=(.slice (some ⟨z7S,0,none⟩) ((z5d.take (z5e : Int).toNat ++ List.replicate (z5d.length - (z5e : Int).toNat) ((⟨0,0⟩ : z2) : z2)).length) z5z)) (slen (take_rep_len zhx).symm) ?_
       refine WL.repin (i:=0) rfl (u:=(.slice (some ⟨z7S,0,none⟩) ((z5d.take (z5e : Int).toNat ++ List.replicate (z5d.length - (z5e : Int).toNat) ((⟨0,0⟩ : z2) : z2)).length) z5z)) (slen (take_rep_len zhx).symm) ?_
       refine WL.nil ?_
       refine WX.a ?_
       refine WC.b ?_
       obtain ⟨zvv,h⟩:=chk_elim h
       refine WC.a ?_
       refine WL.a (d:=57) rfl rfl rfl (q_m rfl) ?_
       refine WL.a (d:=58) rfl rfl rfl (q_m rfl) ?_
       refine WL.rowHiD (dd:=59) (enc:=e40) (ls:=z5d.take (z5e : Int).toNat ++ List.replicate (z5d.length - (z5e : Int).toNat) ((⟨0,0⟩ : z2) : z2)) rfl rfl elT_65 rfl rfl .here (fun _=>rfl) zvv ?_
       intro zvw zvx
       refine WL.a (d:=2) rfl rfl rfl (q_z rfl) ?_
       refine WL.nil ?_
       refine WX.a ?_
       refine WC.ret ?_
       refine WX.blockRet ?_
       refine WX.thenRet ?_
       refine WX.thenRet ?_
       refine WX.blockRet ?_
       refine WX.thenRet ?_
       obtain rfl:=Option.some.inj h
       refine WX.bpRet Tryz.results87 (.tmp rfl .nil) (fun w hw=>?_)
       exact ⟨zvw,zvx,ret1 rfl,trivial,hw.sub (.cons .here .nil)⟩
     ·replace h:=ite_f h zku
      refine WC.skip ?_
      refine WX.blockNormal ?_
      exact WX.mid (G:=Option Addr × Nat) ⟨(some ⟨z7S,0,none⟩),z5z⟩ h (.cons rfl (.cons rfl .nil)) (.cons .here .nil)
    ·rintro ze8 ze9 h
     replace h:=zvq.symm.trans h
     refine WC.a ?_
     refine WL.a (d:=14) rfl rfl rfl (q_m rfl) ?_
     refine WL.a (d:=15) rfl rfl rfl (q_add rfl rfl rfl) ?_
     refine WL.a (d:=3) rfl rfl rfl (q_z rfl) ?_
     refine WL.nil ?_
     exact WX.round (G:=Nat × Int × Option Addr × Nat) ⟨zkq,(i64 (zP + 1)),ze8,ze9⟩ h (Nat.lt_succ_self _) (.cons rfl (.cons rfl .nil)) (.cons .here .nil)
   ·replace h:=ite_f h zkt
    refine WC.exit ?_
    refine WX.thenExit ?_
    refine WX.thenExit ?_
    refine WX.blockHit ?_
    exact WX.mid (G:=Option Addr × Nat) ⟨zcG,z5z⟩ h (.cons rfl .nil) (.cons .here .nil)
  ·rintro ze5 ze6 h
   replace h:=zvp.symm.trans h
   refine WC.b ?_
   refine WC.a ?_
   refine WL.a (d:=60) rfl rfl rfl (q_m rfl) ?_
   refine WL.a (d:=2) rfl rfl rfl (q_z rfl) ?_
   refine WL.nil ?_
   refine WX.a ?_
   refine WC.ret ?_
   obtain rfl:=Option.some.inj h
   refine WX.bpRet Tryz.results87 (.tmp rfl .nil) (fun w hw=>?_)
   exact ⟨ze5,ze6,ret1 rfl,trivial,hw.sub (.cons .here .nil)⟩
def m_curve_Breaks_R4  (zb : z1 × z1) (zQ : List z2) (z6C : Int) : Option (Bool × (Nat × List z2 × Int)) :=
 (m_rat_Cmp zb.1.fBurst zb.2.fBurst).bind fun zkx=>if decide (zkx < 0) then (m_curve_calc_do (⟨z6C⟩ : z2c) (fun (y0 : z2) (y1 : z2)=>m_rat_Sub y0 y1) zb.2.fBurst zb.1.fBurst).bind fun z8h=>(m_curve_calc_do z8h.2 (fun (y0 : z2) (y1 : z2)=>m_rat_Sub y0 y1) zb.1.fRate zb.2.fRate).bind fun z8i=>(m_curve_calc_do z8i.2 (fun (y0 : z2) (y1 : z2)=>m_rat_Div y0 y1) z8h.1 z8i.1).bind fun z7A=>chk ((((zQ ++ ([z7A.1] : List z2)).length : Nat) : Int) * 16 ≤ 140737488355328 ∧ (((zQ ++ ([z7A.1] : List z2)).length : Nat) : Int) ≤ 4611686018427387904) (some (true,(0,(zQ ++ ([z7A.1] : List z2)),z7A.2.fE))) else some (true,(0,zQ,z6C))
def m_curve_Breaks (z7B : List z1) : Option (List z2 × Int) :=
 (m_curve_Valid z7B).bind fun zhy=>if !zhy then some (([] : List z2),2) else (m_curve_norm z7B).bind fun zcI=>jp2 (fun (z5r : Int) (z3J : List z2)=>if decide (z5r ≠ 0) then some (([] : List z2),z5r) else (m_slices_SortFunc_api_Rat_api_Rat z3J (fun (y0 : z2) (y1 : z2)=>m_rat_Cmp y0 y1)).bind fun z4S=>(m_slices_Compact_api_Rat_api_Rat z4S).bind fun zky=>some (zky,0)) fun zkz=>(m_curve_pairs zcI zcI).bind fun z2d=>(m_curve_pairs_1 (Nat × List z2 × Int) (fun (x : z1 × z1) (s : Nat × List z2 × Int)=>chk (s.1 = 0) (m_curve_Breaks_R4 x s.2.1 s.2.2)) (0,([] : List z2),0) z2d.1 z2d.2).bind fun z5K=>zkz z5K.2.2 z5K.2.1
set_option maxRecDepth 20000 in
theorem w_curve_Breaks (Z : Zp)  (z9u : Option Addr) (z9v : Nat) (z7B : List z1) (r : List z2 × Int) (w₀ : World) (hz : PZ [] w₀ Z)
  (zq8 : ZS Z 4 (fun r x=>r = e54 x) z9u z9v z7B)
  (h : m_curve_Breaks z7B = some r) :
  Calls Tryz.prog 76 #[(.slice z9u z7B.length z9v)] w₀ fun e w'=>∃ Zn : Zp,∃ zq9 : Option Addr,∃ zqa : Nat,e = .returned (.tuple #[(.slice zq9 r.1.length zqa),(.int .i64 r.2)]) ∧ True ∧ Hp [] w₀ w' [fz Zn,row (.slice zq9 r.1.length zqa) 40 2 (r.1.flatMap e40)]:=by
 unfold m_curve_Breaks at h
 refine Calls.ofWCM (vs:=[(.slice z9u z7B.length z9v)]) (pre:=[]) (env:=[(0,(.slice z9u z7B.length z9v))]) Tryz.func76 rfl Tryz.ntmps76 rfl (Hp.nil w₀ _) rfl ?_
 refine WC.pool ?_
 refine WC.b ?_
 refine WC.a ?_
 refine WL.a (d:=2) rfl rfl rfl (q_z rfl) ?_
 refine WL.a (d:=3) rfl rfl rfl (q_z rfl) ?_
 refine WL.nil ?_
 refine WX.a ?_
 refine WC.b ?_
 refine WC.b ?_
 obtain ⟨zhy,zvy,h⟩:=z8 h
 refine WC.a ?_
 refine WL.a (d:=9) rfl rfl rfl (q_m rfl) ?_
 refine WL.b (dd:=10) rfl rfl rfl (zi (l:=[.tmp 9]) Tryz.call21 (.cons rfl .nil)) (.nil : Sel [fz []] [] [fz []]) (fun w hw=>by have pz:=(hz.call2 hw (.nil : Sel [fz []] [] [fz []]) .here); exact w_curve_Valid (Z:=_) (z8R:=z9u) (z8S:=z9v) (z5q:=z7B) (r:=zhy) w pz (zq8.mono (Zle.left _ _)) zvy) ?_
 refine WL.a (d:=11) rfl rfl rfl (q_not rfl) ?_
 refine WL.nil ?_
 refine WX.a ?_
 refine WC.cond rfl (fun zkA=>?_) (fun zkA=>?_)
 ·replace h:=ite_t h zkA
  refine WC.b ?_
  refine WC.a ?_
  refine WL.a (d:=2) rfl rfl rfl (q_z rfl) ?_
  refine WL.a (d:=3) rfl rfl rfl (q_z rfl) ?_
  refine WL.nil ?_
  refine WX.a ?_
  refine WC.ret ?_
  refine WX.thenRet ?_
  refine WX.nilRow 40 2 ?_
  obtain rfl:=Option.some.inj h
  refine WX.bpRetM Tryz.results76 (.tmp rfl (.tmp rfl .nil)) (fun w hw=>?_)
  exact ⟨[],none,0,ret2 rfl rfl,trivial,hw.sub (.cons .h1 (.cons .here .nil))⟩
 ·replace h:=ite_f h zkA
  refine WC.skip ?_
  refine WX.a ?_
  refine WC.b ?_
  refine WC.a ?_
  refine WL.new (dd:=4) rfl rfl rfl (e_alloc (cs:=[(.int .i64 0)]) zeroT_83 rfl) ?_
  intro z1j _
  refine WL.nil ?_
  refine WX.a ?_
  refine WC.b ?_
  refine WC.a ?_
  refine WL.new (dd:=5) rfl rfl rfl (e_alloc (cs:=[(.slice none 0 0)]) zeroT_65 rfl) ?_
  intro z1t _
  refine WL.nil ?_
  refine WX.a ?_
  refine WC.b ?_
  obtain ⟨zcI,zvz,h⟩:=z8 h
  refine WC.a ?_
  refine WL.a (d:=12) rfl rfl rfl (q_m rfl) ?_
  refine WL.enter2 (dd:=13) rfl rfl rfl (zi (l:=[.tmp 12]) Tryz.call84 (.cons rfl .nil)) (.nil : Sel [stb z1t 65 [(.slice none 0 0)],stb z1j 83 [(.int .i64 0)],fz []] [] [stb z1t 65 [(.slice none 0 0)],stb z1j 83 [(.int .i64 0)],fz []]) (fun w hw=>by have pz:=(hz.call2 hw (.nil : Sel [stb z1t 65 [(.slice none 0 0)],stb z1j 83 [(.int .i64 0)],fz []] [] [stb z1t 65 [(.slice none 0 0)],stb z1j 83 [(.int .i64 0)],fz []]) .h2); exact w_curve_norm (Z:=_) (z8d:=z9u) (z8e:=z9v) (zj:=z7B) (r:=zcI) w pz (zq8.mono (Zle.left _ _)) zvz) ?_
  rintro zqb zqc _
  refine WL.a (d:=6) rfl rfl rfl (q_z rfl) ?_
  refine WL.nil ?_
  refine WX.a ?_
  obtain ⟨zkz,zvA,h⟩:=jp2_elim h
  refine WC.seqMidR6 (fun (z6D : Nat) (z5r : Int) (z3J : List z2) (z5L : Zp) (z3g : Option Addr) (z3h : Nat)=>(zkz z5r z3J = some r) ∧ (Zle (Z ++ []) (Z ++ z5L))) (fun (z6D : Nat) (z5r : Int) (z3J : List z2) (z5L : Zp) (z3g : Option Addr) (z3h : Nat)=>[(4,(.pointer (some ⟨z1j,0,none⟩))),(5,(.pointer (some ⟨z1t,0,none⟩)))]) (fun (z6D : Nat) (z5r : Int) (z3J : List z2) (z5L : Zp) (z3g : Option Addr) (z3h : Nat)=>[fz z5L,stb z1j 83 [(.int .i64 z5r)],stb z1t 65 [(.slice z3g z3J.length z3h)],row (.slice z3g z3J.length z3h) 40 2 (z3J.flatMap e40),dfr z6D]) ?_ ?_
  ·skip
   refine WC.b ?_
   refine WC.freezeS (ls:=zcI) .here .h2 hz (RR.flat (enc:=e54) (fun _=>rfl) _) ?_
   intro z5M zvB zqd
   obtain ⟨z2d,zvC,h⟩:=z8 h
   refine WC.a ?_
   refine WL.a (d:=14) rfl rfl rfl (q_m rfl) ?_
   refine WL.a (d:=15) rfl rfl rfl (q_m rfl) ?_
   refine WL.enter6 (dd:=16) rfl rfl rfl (zi (l:=[.tmp 14,.tmp 15]) Tryz.call85 (.cons rfl (.cons rfl .nil))) (.nil : Sel [fz z5M,stb z1t 65 [(.slice none 0 0)],stb z1j 83 [(.int .i64 0)]] [] [fz z5M,stb z1t 65 [(.slice none 0 0)],stb z1j 83 [(.int .i64 0)]]) (fun w hw=>by have pz:=(hz.call2 hw (.nil : Sel [fz z5M,stb z1t 65 [(.slice none 0 0)],stb z1j 83 [(.int .i64 0)]] [] [fz z5M,stb z1t 65 [(.slice none 0 0)],stb z1j 83 [(.int .i64 0)]]) .here); exact w_curve_pairs (Z:=_) (zcu:=zqb) (zcv:=zqc) (zcw:=zqb) (zcx:=zqc) (zaa:=zcI) (zab:=zcI) (r:=z2d) w pz zqd zqd zvC) ?_
   rintro z5f z5g z5s z5t z5u z5v ⟨zvD,zvE⟩
   refine WL.nil ?_
   refine WX.a ?_
   refine WC.block ?_
   refine WC.pool ?_
   refine WC.drop (.cons .here (.cons .h3 (.cons .h3 (.cons .here (.cons .here (.cons .here .nil)))))) ?_
   refine WC.nilRow 40 2 ?_
   refine WC.rangeFunc (f:=96) (caps:=[(.pointer (some ⟨z5f,0,none⟩)),(.pointer (some ⟨z5g,0,none⟩))]) rfl Tryz.call96 ?_
   intro zCr zCs z2l z6U z2A zhz zvF zvG w hw
   have hw1:=hw.selAll ((.cons .h3 (.cons .h3 (.cons .h2 (.cons .h2 (.cons .here .nil))))) : Sel _ [fz [],stb z1t 65 [(.slice none (([] : List z2).length) 0)],row (.slice none (([] : List z2).length) 0) 40 2 (([] : List z2).flatMap e40),stb z1j 83 [(.int .i64 0)],blk z2l (z2A .ready none)] _)
   have pz:=(hz.call2 hw1 ((.cons .here .nil) : Sel [allA [fz [],stb z1t 65 [(.slice none (([] : List z2).length) 0)],row (.slice none (([] : List z2).length) 0) 40 2 (([] : List z2).flatMap e40),stb z1j 83 [(.int .i64 0)],blk z2l (z2A .ready none)],dfr z6U,stb z5f 23 [(.slice z5s z2d.1.length z5t)],stb z5g 23 [(.slice z5u z2d.2.length z5v)],fz z5M] [allA [fz [],stb z1t 65 [(.slice none (([] : List z2).length) 0)],row (.slice none (([] : List z2).length) 0) 40 2 (([] : List z2).flatMap e40),stb z1j 83 [(.int .i64 0)],blk z2l (z2A .ready none)]] [dfr z6U,stb z5f 23 [(.slice z5s z2d.1.length z5t)],stb z5g 23 [(.slice z5u z2d.2.length z5v)],fz z5M]) .h3).lend hw1 ((.cons .here .nil) : Sel [allA [fz [],stb z1t 65 [(.slice none (([] : List z2).length) 0)],row (.slice none (([] : List z2).length) 0) 40 2 (([] : List z2).flatMap e40),stb z1j 83 [(.int .i64 0)],blk z2l (z2A .ready none)],dfr z6U,stb z5f 23 [(.slice z5s z2d.1.length z5t)],stb z5g 23 [(.slice z5u z2d.2.length z5v)],fz z5M] [allA [fz [],stb z1t 65 [(.slice none (([] : List z2).length) 0)],row (.slice none (([] : List z2).length) 0) 40 2 (([] : List z2).flatMap e40),stb z1j 83 [(.int .i64 0)],blk z2l (z2A .ready none)]] [dfr z6U,stb z5f 23 [(.slice z5s z2d.1.length z5t)],stb z5g 23 [(.slice z5u z2d.2.length z5v)],fz z5M]) (B:=[stb z5f 23 [(.slice z5s z2d.1.length z5t)],stb z5g 23 [(.slice z5u z2d.2.length z5v)]]) (fun _ hx'=>((.cons .h1 (.cons .h1 .nil)) : Sel _ [stb z5f 23 [(.slice z5s z2d.1.length z5t)],stb z5g 23 [(.slice z5u z2d.2.length z5v)]] _).mem hx')
   obtain ⟨z5K,zvH,h⟩:=z8 h
   refine Calls.mono (w_curve_pairs_1 (Z:=_) (zaf:=z2l) (z3Q:=(Option Addr × Nat)) (z7c:=(fun (g : Option Addr × Nat) (s : Nat × List z2 × Int)=>allA ([fz [],stb z1t 65 [(.slice g.1 s.2.1.length g.2)],row (.slice g.1 s.2.1.length g.2) 40 2 (s.2.1.flatMap e40),stb z1j 83 [(.int .i64 s.2.2)]] ++ [blk z2l (z2A (rdy (pcs [] s.1)) (pcs [] s.1))]))) (zag:=(fun (g : Option Addr × Nat) (s : Nat × List z2 × Int)=>True)) (zbk:=(none,0)) (zfl:=⟨z5f,0,none⟩) (zcz:=z5s) (zcA:=z5t) (zah:=⟨z5g,0,none⟩) (zhf:=z5u) (zhg:=z5v) (z17:=(Nat × List z2 × Int)) (z6z:=(fun (x : z1 × z1) (s : Nat × List z2 × Int)=>chk (s.1 = 0) (m_curve_Breaks_R4 x s.2.1 s.2.2))) (s0_2452:=(0,([] : List z2),0)) (z1Y:=z2d.1) (z2h:=z2d.2) (r:=z5K) w pz ?_ trivial (zvD.mono (Zle.left _ _)) ((hw1.lent ((.cons .here .nil) : Sel [allA [fz [],stb z1t 65 [(.slice none (([] : List z2).length) 0)],row (.slice none (([] : List z2).length) 0) 40 2 (([] : List z2).flatMap e40),stb z1j 83 [(.int .i64 0)],blk z2l (z2A .ready none)],dfr z6U,stb z5f 23 [(.slice z5s z2d.1.length z5t)],stb z5g 23 [(.slice z5u z2d.2.length z5v)],fz z5M] [allA [fz [],stb z1t 65 [(.slice none (([] : List z2).length) 0)],row (.slice none (([] : List z2).length) 0) 40 2 (([] : List z2).flatMap e40),stb z1j 83 [(.int .i64 0)],blk z2l (z2A .ready none)]] [dfr z6U,stb z5f 23 [(.slice z5s z2d.1.length z5t)],stb z5g 23 [(.slice z5u z2d.2.length z5v)],fz z5M]) (B:=[stb z5f 23 [(.slice z5s z2d.1.length z5t)],stb z5g 23 [(.slice z5u z2d.2.length z5v)]]) (fun _ hx'=>((.cons .h1 (.cons .h1 .nil)) : Sel _ [stb z5f 23 [(.slice z5s z2d.1.length z5t)],stb z5g 23 [(.slice z5u z2d.2.length z5v)]] _).mem hx') (.head _) _).stb) (zvE.mono (Zle.left _ _)) ((hw1.lent ((.cons .here .nil) : Sel [allA [fz [],stb z1t 65 [(.slice none (([] : List z2).length) 0)],row (.slice none (([] : List z2).length) 0) 40 2 (([] : List z2).flatMap e40),stb z1j 83 [(.int .i64 0)],blk z2l (z2A .ready none)],dfr z6U,stb z5f 23 [(.slice z5s z2d.1.length z5t)],stb z5g 23 [(.slice z5u z2d.2.length z5v)],fz z5M] [allA [fz [],stb z1t 65 [(.slice none (([] : List z2).length) 0)],row (.slice none (([] : List z2).length) 0) 40 2 (([] : List z2).flatMap e40),stb z1j 83 [(.int .i64 0)],blk z2l (z2A .ready none)]] [dfr z6U,stb z5f 23 [(.slice z5s z2d.1.length z5t)],stb z5g 23 [(.slice z5u z2d.2.length z5v)],fz z5M]) (B:=[stb z5f 23 [(.slice z5s z2d.1.length z5t)],stb z5g 23 [(.slice z5u z2d.2.length z5v)]]) (fun _ hx'=>((.cons .h1 (.cons .h1 .nil)) : Sel _ [stb z5f 23 [(.slice z5s z2d.1.length z5t)],stb z5g 23 [(.slice z5u z2d.2.length z5v)]] _).mem hx') (.tail _ (.head _)) _).stb) zvH (hw1.owns ((.cons .here .nil) : Sel [allA [fz [],stb z1t 65 [(.slice none (([] : List z2).length) 0)],row (.slice none (([] : List z2).length) 0) 40 2 (([] : List z2).flatMap e40),stb z1j 83 [(.int .i64 0)],blk z2l (z2A .ready none)],dfr z6U,stb z5f 23 [(.slice z5s z2d.1.length z5t)],stb z5g 23 [(.slice z5u z2d.2.length z5v)],fz z5M] [allA [fz [],stb z1t 65 [(.slice none (([] : List z2).length) 0)],row (.slice none (([] : List z2).length) 0) 40 2 (([] : List z2).flatMap e40),stb z1j 83 [(.int .i64 0)],blk z2l (z2A .ready none)]] [dfr z6U,stb z5f 23 [(.slice z5s z2d.1.length z5t)],stb z5g 23 [(.slice z5u z2d.2.length z5v)],fz z5M]))) ?_
   ·skip
    refine yieldP_of (LI:=(fun (g : Option Addr × Nat) (s : Nat × List z2 × Int)=>[fz [],stb z1t 65 [(.slice g.1 s.2.1.length g.2)],row (.slice g.1 s.2.1.length g.2) 40 2 (s.2.1.flatMap e40),stb z1j 83 [(.int .i64 s.2.2)]])) (pc:=(fun (s : Nat × List z2 × Int)=>pcs [] s.1)) zhz zvF zvG (fun _ _=>rfl) (by decide) ?_
    rintro zb _ ⟨z26,z27⟩ ⟨zvI,zQ,z6C⟩ zvJ zvK Fb wb zqe _ hz
    replace hz:=hz.left
    letI : Rnd:=inR z2l
    obtain ⟨hp0,z5N⟩:=chk_elim zqe
    replace hp0 : zvI = 0:=hp0; subst hp0; clear zqe
    replace z5N : m_curve_Breaks_R4 zb zQ z6C = some (zvJ,zvK):=z5N
    unfold m_curve_Breaks_R4 at z5N
    refine WC.restr (env':=[(11,(.bool (!zhy))),(4,(.pointer (some ⟨z1j,0,none⟩))),(5,(.pointer (some ⟨z1t,0,none⟩))),(17,(.agg #[(.int .i64 zb.1.fBurst.fN),(.int .i64 zb.1.fBurst.fD),(.int .i64 zb.1.fRate.fN),(.int .i64 zb.1.fRate.fD)])),(18,(.agg #[(.int .i64 zb.2.fBurst.fN),(.int .i64 zb.2.fBurst.fD),(.int .i64 zb.2.fRate.fN),(.int .i64 zb.2.fRate.fD)]))]) (.cons rfl (.cons rfl (.cons rfl (.cons rfl (.cons rfl .nil))))) ?_
    refine WC.eqL (L':=[fz [],stb z1t 65 [(.slice z26 zQ.length z27)],row (.slice z26 zQ.length z27) 40 2 (zQ.flatMap e40),stb z1j 83 [(.int .i64 z6C)],blk z2l (z2A .ready none)]) rfl ?_
    refine WC.b ?_
    refine WC.a ?_
    refine WL.new (dd:=7) rfl rfl rfl (e_alloc (cs:=[(.int .i64 0),(.int .i64 0),(.int .i64 0),(.int .i64 0)]) zeroT_54 rfl) ?_
    intro z4T _
    refine WL.eff0 rfl rfl (e_store (vs:=[(.int .i64 zb.1.fBurst.fN),(.int .i64 zb.1.fBurst.fD),(.int .i64 zb.1.fRate.fN),(.int .i64 zb.1.fRate.fD)]) (ds:=[(.int .i64 zb.1.fBurst.fN),(.int .i64 zb.1.fBurst.fD),(.int .i64 zb.1.fRate.fN),(.int .i64 zb.1.fRate.fD)]) sizT_54 rfl rfl rfl rfl (oc_cons rfl (oc_cons rfl (oc_cons rfl (oc_cons rfl oc_nil)))) .here (Nat.le_of_ble_eq_true rfl) rfl) ?_
    refine WL.nil ?_
    refine WX.a ?_
    refine WC.a ?_
    refine WL.new (dd:=8) rfl rfl rfl (e_alloc (cs:=[(.int .i64 0),(.int .i64 0),(.int .i64 0),(.int .i64 0)]) zeroT_54 rfl) ?_
    intro z4U _
    refine WL.eff0 rfl rfl (e_store (vs:=[(.int .i64 zb.2.fBurst.fN),(.int .i64 zb.2.fBurst.fD),(.int .i64 zb.2.fRate.fN),(.int .i64 zb.2.fRate.fD)]) (ds:=[(.int .i64 zb.2.fBurst.fN),(.int .i64 zb.2.fBurst.fD),(.int .i64 zb.2.fRate.fN),(.int .i64 zb.2.fRate.fD)]) sizT_54 rfl rfl rfl rfl (oc_cons rfl (oc_cons rfl (oc_cons rfl (oc_cons rfl oc_nil)))) .here (Nat.le_of_ble_eq_true rfl) rfl) ?_
    refine WL.nil ?_
    refine WX.begin zhz .h6 ?_
    refine WC.block ?_
    refine WC.b ?_
    obtain ⟨zkx,zvL,z5N⟩:=z8 z5N
    refine WC.a ?_
    refine WL.a (d:=19) rfl rfl rfl (q_fieldAddr fo_54_0 rfl rfl) ?_
    refine WL.a (d:=20) rfl rfl rfl (q_loadA (cs:=[(.int .i64 zb.1.fBurst.fN),(.int .i64 zb.1.fBurst.fD)]) aggT_40 rfl rfl (rd_sub (s:=2) .h2 rfl)) ?_
    refine WL.a (d:=21) rfl rfl rfl (q_fieldAddr fo_54_0 rfl rfl) ?_
    refine WL.a (d:=22) rfl rfl rfl (q_loadA (cs:=[(.int .i64 zb.2.fBurst.fN),(.int .i64 zb.2.fBurst.fD)]) aggT_40 rfl rfl (rd_sub (s:=2) .h1 rfl)) ?_
    refine WL.b (dd:=23) rfl rfl rfl (zi (l:=[.tmp 20,.tmp 22]) Tryz.call24 (.cons rfl (.cons rfl .nil))) (.nil : Sel [blk z2l (z2A .busy none),stb z4U 54 [(.int .i64 zb.2.fBurst.fN),(.int .i64 zb.2.fBurst.fD),(.int .i64 zb.2.fRate.fN),(.int .i64 zb.2.fRate.fD)],stb z4T 54 [(.int .i64 zb.1.fBurst.fN),(.int .i64 zb.1.fBurst.fD),(.int .i64 zb.1.fRate.fN),(.int .i64 zb.1.fRate.fD)],fz [],stb z1t 65 [(.slice z26 zQ.length z27)],row (.slice z26 zQ.length z27) 40 2 (zQ.flatMap e40),stb z1j 83 [(.int .i64 z6C)]] [] [blk z2l (z2A .busy none),stb z4U 54 [(.int .i64 zb.2.fBurst.fN),(.int .i64 zb.2.fBurst.fD),(.int .i64 zb.2.fRate.fN),(.int .i64 zb.2.fRate.fD)],stb z4T 54 [(.int .i64 zb.1.fBurst.fN),(.int .i64 zb.1.fBurst.fD),(.int .i64 zb.1.fRate.fN),(.int .i64 zb.1.fRate.fD)],fz [],stb z1t 65 [(.slice z26 zQ.length z27)],row (.slice z26 zQ.length z27) 40 2 (zQ.flatMap e40),stb z1j 83 [(.int .i64 z6C)]]) (fun w hw=>by have pz:=(hz.call2 hw (.nil : Sel [blk z2l (z2A .busy none),stb z4U 54 [(.int .i64 zb.2.fBurst.fN),(.int .i64 zb.2.fBurst.fD),(.int .i64 zb.2.fRate.fN),(.int .i64 zb.2.fRate.fD)],stb z4T 54 [(.int .i64 zb.1.fBurst.fN),(.int .i64 zb.1.fBurst.fD),(.int .i64 zb.1.fRate.fN),(.int .i64 zb.1.fRate.fD)],fz [],stb z1t 65 [(.slice z26 zQ.length z27)],row (.slice z26 zQ.length z27) 40 2 (zQ.flatMap e40),stb z1j 83 [(.int .i64 z6C)]] [] [blk z2l (z2A .busy none),stb z4U 54 [(.int .i64 zb.2.fBurst.fN),(.int .i64 zb.2.fBurst.fD),(.int .i64 zb.2.fRate.fN),(.int .i64 zb.2.fRate.fD)],stb z4T 54 [(.int .i64 zb.1.fBurst.fN),(.int .i64 zb.1.fBurst.fD),(.int .i64 zb.1.fRate.fN),(.int .i64 zb.1.fRate.fD)],fz [],stb z1t 65 [(.slice z26 zQ.length z27)],row (.slice z26 zQ.length z27) 40 2 (zQ.flatMap e40),stb z1j 83 [(.int .i64 z6C)]]) .h3); exact w_rat_Cmp (Z:=_)  (z28:=zb.1.fBurst) (z29:=zb.2.fBurst) (r:=zkx) w pz  zvL) ?_
    refine WL.a (d:=24) rfl rfl rfl (q_lss rfl rfl) ?_
    refine WL.nil ?_
    refine WX.a ?_
    refine WC.cond rfl (fun zkB=>?_) (fun zkB=>?_)
    ·replace z5N:=ite_t z5N zkB
     obtain ⟨z8h,zvM,z5N⟩:=z8 z5N
     obtain ⟨z8i,zvN,z5N⟩:=z8 z5N
     obtain ⟨z7A,zvO,z5N⟩:=z8 z5N
     obtain ⟨zvP,z5N⟩:=chk_elim z5N
     refine WC.draw (fun i=>[5,10,11,13,14].contains i) [stbp z1t 65 [(0,(.slice z26 zQ.length z27))],stb z4T 54 [(.int .i64 zb.1.fBurst.fN),(.int .i64 zb.1.fBurst.fD),(.int .i64 zb.1.fRate.fN),(.int .i64 zb.1.fRate.fD)],stb z4U 54 [(.int .i64 zb.2.fBurst.fN),(.int .i64 zb.2.fBurst.fD),(.int .i64 zb.2.fRate.fN),(.int .i64 zb.2.fRate.fD)]] rfl ?_
     refine WD.stable (i:=0) (d:=25) (by kernel_rfl) rfl (z6 (by kernel_rfl)) (z7 (by kernel_rfl)) rfl rfl rfl (Sin.wk (.cons .h4 (.cons .h2 (.cons .h1 .nil))) (.stb (.cons rfl .nil) (.same (.same .nil)))) (q_load1 oneT_65 rfl (rd_stbp .here (.head _))) ?_
     refine WD.a (i:=1) (d:=26) (by kernel_rfl) rfl (z6 (by kernel_rfl)) (z7 (by kernel_rfl)) rfl rfl rfl (fun _=>q_fieldAddr fo_54_0 rfl rfl) ?_
     refine WD.e (i:=2) (d:=27) (by kernel_rfl) rfl (z6 (by kernel_rfl)) (z7 (by kernel_rfl)) rfl rfl rfl (q_loadA (cs:=[(.int .i64 zb.2.fBurst.fN),(.int .i64 zb.2.fBurst.fD)]) aggT_40 rfl rfl (rd_sub (s:=2) .h1 rfl)) ?_
     refine WD.a (i:=3) (d:=28) (by kernel_rfl) rfl (z6 (by kernel_rfl)) (z7 (by kernel_rfl)) rfl rfl rfl (fun _=>q_fieldAddr fo_54_0 rfl rfl) ?_
     refine WD.e (i:=4) (d:=29) (by kernel_rfl) rfl (z6 (by kernel_rfl)) (z7 (by kernel_rfl)) rfl rfl rfl (q_loadA (cs:=[(.int .i64 zb.1.fBurst.fN),(.int .i64 zb.1.fBurst.fD)]) aggT_40 rfl rfl (rd_sub (s:=2) .h2 rfl)) ?_
     refine WD.a (i:=6) (d:=31) (by kernel_rfl) rfl (z6 (by kernel_rfl)) (z7 (by kernel_rfl)) rfl rfl rfl (fun _=>q_fieldAddr fo_54_1 rfl rfl) ?_
     refine WD.stable (i:=7) (d:=32) (by kernel_rfl) rfl (z6 (by kernel_rfl)) (z7 (by kernel_rfl)) rfl rfl rfl (Sin.wk (.cons .h4 (.cons .h2 (.cons .h1 .nil))) (.stb (.cons rfl .nil) (.same (.same .nil)))) (q_loadA (cs:=[(.int .i64 zb.1.fRate.fN),(.int .i64 zb.1.fRate.fD)]) aggT_40 rfl rfl (rd_sub (s:=2) .h1 rfl)) ?_
     refine WD.a (i:=8) (d:=33) (by kernel_rfl) rfl (z6 (by kernel_rfl)) (z7 (by kernel_rfl)) rfl rfl rfl (fun _=>q_fieldAddr fo_54_1 rfl rfl) ?_
     refine WD.stable (i:=9) (d:=34) (by kernel_rfl) rfl (z6 (by kernel_rfl)) (z7 (by kernel_rfl)) rfl rfl rfl (Sin.wk (.cons .h4 (.cons .h2 (.cons .h1 .nil))) (.stb (.cons rfl .nil) (.same (.same .nil)))) (q_loadA (cs:=[(.int .i64 zb.2.fRate.fN),(.int .i64 zb.2.fRate.fD)]) aggT_40 rfl rfl (rd_sub (s:=2) .h2 rfl)) ?_
     refine WD.call0 (i:=5) (dd:=30) rfl (by kernel_rfl) rfl rfl rfl (.inl ⟨rfl,(Sin.wk (.cons .h5 (.cons .h3 (.cons .h2 .nil))) (.stb (.cons rfl .nil) (.same (.same .nil))))⟩) (zi (l:=[.tmp 4,.func 32,.tmp 27,.tmp 29]) Tryz.call67 (.cons rfl (.cons rfl (.cons rfl (.cons rfl .nil))))) ((.cons .h6 .nil) : Sel [blk z2l (z2A .busy none),stb z4U 54 [(.int .i64 zb.2.fBurst.fN),(.int .i64 zb.2.fBurst.fD),(.int .i64 zb.2.fRate.fN),(.int .i64 zb.2.fRate.fD)],stb z4T 54 [(.int .i64 zb.1.fBurst.fN),(.int .i64 zb.1.fBurst.fD),(.int .i64 zb.1.fRate.fN),(.int .i64 zb.1.fRate.fD)],fz [],stb z1t 65 [(.slice z26 zQ.length z27)],row (.slice z26 zQ.length z27) 40 2 (zQ.flatMap e40),stb z1j 83 [(.int .i64 z6C)]] [stb z1j 83 [(.int .i64 z6C)]] [blk z2l (z2A .busy none),stb z4U 54 [(.int .i64 zb.2.fBurst.fN),(.int .i64 zb.2.fBurst.fD),(.int .i64 zb.2.fRate.fN),(.int .i64 zb.2.fRate.fD)],stb z4T 54 [(.int .i64 zb.1.fBurst.fN),(.int .i64 zb.1.fBurst.fD),(.int .i64 zb.1.fRate.fN),(.int .i64 zb.1.fRate.fD)],fz [],stb z1t 65 [(.slice z26 zQ.length z27)],row (.slice z26 zQ.length z27) 40 2 (zQ.flatMap e40)]) (fun w hw=>by have pz:=(hz.call2 hw ((.cons .h6 .nil) : Sel [blk z2l (z2A .busy none),stb z4U 54 [(.int .i64 zb.2.fBurst.fN),(.int .i64 zb.2.fBurst.fD),(.int .i64 zb.2.fRate.fN),(.int .i64 zb.2.fRate.fD)],stb z4T 54 [(.int .i64 zb.1.fBurst.fN),(.int .i64 zb.1.fBurst.fD),(.int .i64 zb.1.fRate.fN),(.int .i64 zb.1.fRate.fD)],fz [],stb z1t 65 [(.slice z26 zQ.length z27)],row (.slice z26 zQ.length z27) 40 2 (zQ.flatMap e40),stb z1j 83 [(.int .i64 z6C)]] [stb z1j 83 [(.int .i64 z6C)]] [blk z2l (z2A .busy none),stb z4U 54 [(.int .i64 zb.2.fBurst.fN),(.int .i64 zb.2.fBurst.fD),(.int .i64 zb.2.fRate.fN),(.int .i64 zb.2.fRate.fD)],stb z4T 54 [(.int .i64 zb.1.fBurst.fN),(.int .i64 zb.1.fBurst.fD),(.int .i64 zb.1.fRate.fN),(.int .i64 zb.1.fRate.fD)],fz [],stb z1t 65 [(.slice z26 zQ.length z27)],row (.slice z26 zQ.length z27) 40 2 (zQ.flatMap e40)]) .h3); exact Calls.mono (w_curve_calc_do (Z:=_) (z7y:=z1j) (z8f:=32) (z9t:=[]) (z7x:=(⟨z6C⟩ : z2c)) (zai:=(fun (y0 : z2) (y1 : z2)=>m_rat_Sub y0 y1)) (z5I:=zb.2.fBurst) (z5J:=zb.1.fBurst) (r:=z8h) w pz Tryz.call32 (fun w' hz' y0 y1  r  hr=>w_rat_Sub (Z:=_)  (z42:=y0) (z43:=y1) (r:=r) w' hz'  hr) zvM (hw.owns ((.cons .h6 .nil) : Sel [blk z2l (z2A .busy none),stb z4U 54 [(.int .i64 zb.2.fBurst.fN),(.int .i64 zb.2.fBurst.fD),(.int .i64 zb.2.fRate.fN),(.int .i64 zb.2.fRate.fD)],stb z4T 54 [(.int .i64 zb.1.fBurst.fN),(.int .i64 zb.1.fBurst.fD),(.int .i64 zb.1.fRate.fN),(.int .i64 zb.1.fRate.fD)],fz [],stb z1t 65 [(.slice z26 zQ.length z27)],row (.slice z26 zQ.length z27) 40 2 (zQ.flatMap e40),stb z1j 83 [(.int .i64 z6C)]] [stb z1j 83 [(.int .i64 z6C)]] [blk z2l (z2A .busy none),stb z4U 54 [(.int .i64 zb.2.fBurst.fN),(.int .i64 zb.2.fBurst.fD),(.int .i64 zb.2.fRate.fN),(.int .i64 zb.2.fRate.fD)],stb z4T 54 [(.int .i64 zb.1.fBurst.fN),(.int .i64 zb.1.fBurst.fD),(.int .i64 zb.1.fRate.fN),(.int .i64 zb.1.fRate.fD)],fz [],stb z1t 65 [(.slice z26 zQ.length z27)],row (.slice z26 zQ.length z27) 40 2 (zQ.flatMap e40)]))) (fun _ _ h'=>⟨h'.1,trivial,h'.2⟩)) ?_
     intro _
     refine WD.call0 (i:=10) (dd:=35) rfl (by kernel_rfl) rfl rfl rfl (.inl ⟨rfl,(Sin.wk (.cons .h5 (.cons .h3 (.cons .h2 .nil))) (.stb (.cons rfl .nil) (.same (.same .nil))))⟩) (zi (l:=[.tmp 4,.func 32,.tmp 32,.tmp 34]) Tryz.call67 (.cons rfl (.cons rfl (.cons rfl (.cons rfl .nil))))) ((.cons .here .nil) : Sel [stb z1j 83 [(.int .i64 z8h.2.fE)],blk z2l (z2A .busy none),stb z4U 54 [(.int .i64 zb.2.fBurst.fN),(.int .i64 zb.2.fBurst.fD),(.int .i64 zb.2.fRate.fN),(.int .i64 zb.2.fRate.fD)],stb z4T 54 [(.int .i64 zb.1.fBurst.fN),(.int .i64 zb.1.fBurst.fD),(.int .i64 zb.1.fRate.fN),(.int .i64 zb.1.fRate.fD)],fz [],stb z1t 65 [(.slice z26 zQ.length z27)],row (.slice z26 zQ.length z27) 40 2 (zQ.flatMap e40)] [stb z1j 83 [(.int .i64 z8h.2.fE)]] [blk z2l (z2A .busy none),stb z4U 54 [(.int .i64 zb.2.fBurst.fN),(.int .i64 zb.2.fBurst.fD),(.int .i64 zb.2.fRate.fN),(.int .i64 zb.2.fRate.fD)],stb z4T 54 [(.int .i64 zb.1.fBurst.fN),(.int .i64 zb.1.fBurst.fD),(.int .i64 zb.1.fRate.fN),(.int .i64 zb.1.fRate.fD)],fz [],stb z1t 65 [(.slice z26 zQ.length z27)],row (.slice z26 zQ.length z27) 40 2 (zQ.flatMap e40)]) (fun w hw=>by have pz:=(hz.call2 hw ((.cons .here .nil) : Sel [stb z1j 83 [(.int .i64 z8h.2.fE)],blk z2l (z2A .busy none),stb z4U 54 [(.int .i64 zb.2.fBurst.fN),(.int .i64 zb.2.fBurst.fD),(.int .i64 zb.2.fRate.fN),(.int .i64 zb.2.fRate.fD)],stb z4T 54 [(.int .i64 zb.1.fBurst.fN),(.int .i64 zb.1.fBurst.fD),(.int .i64 zb.1.fRate.fN),(.int .i64 zb.1.fRate.fD)],fz [],stb z1t 65 [(.slice z26 zQ.length z27)],row (.slice z26 zQ.length z27) 40 2 (zQ.flatMap e40)] [stb z1j 83 [(.int .i64 z8h.2.fE)]] [blk z2l (z2A .busy none),stb z4U 54 [(.int .i64 zb.2.fBurst.fN),(.int .i64 zb.2.fBurst.fD),(.int .i64 zb.2.fRate.fN),(.int .i64 zb.2.fRate.fD)],stb z4T 54 [(.int .i64 zb.1.fBurst.fN),(.int .i64 zb.1.fBurst.fD),(.int .i64 zb.1.fRate.fN),(.int .i64 zb.1.fRate.fD)],fz [],stb z1t 65 [(.slice z26 zQ.length z27)],row (.slice z26 zQ.length z27) 40 2 (zQ.flatMap e40)]) .h3); exact Calls.mono (w_curve_calc_do (Z:=_) (z7y:=z1j) (z8f:=32) (z9t:=[]) (z7x:=z8h.2) (zai:=(fun (y0 : z2) (y1 : z2)=>m_rat_Sub y0 y1)) (z5I:=zb.1.fRate) (z5J:=zb.2.fRate) (r:=z8i) w pz Tryz.call32 (fun w' hz' y0 y1  r  hr=>w_rat_Sub (Z:=_)  (z42:=y0) (z43:=y1) (r:=r) w' hz'  hr) zvN (hw.owns ((.cons .here .nil) : Sel [stb z1j 83 [(.int .i64 z8h.2.fE)],blk z2l (z2A .busy none),stb z4U 54 [(.int .i64 zb.2.fBurst.fN),(.int .i64 zb.2.fBurst.fD),(.int .i64 zb.2.fRate.fN),(.int .i64 zb.2.fRate.fD)],stb z4T 54 [(.int .i64 zb.1.fBurst.fN),(.int .i64 zb.1.fBurst.fD),(.int .i64 zb.1.fRate.fN),(.int .i64 zb.1.fRate.fD)],fz [],stb z1t 65 [(.slice z26 zQ.length z27)],row (.slice z26 zQ.length z27) 40 2 (zQ.flatMap e40)] [stb z1j 83 [(.int .i64 z8h.2.fE)]] [blk z2l (z2A .busy none),stb z4U 54 [(.int .i64 zb.2.fBurst.fN),(.int .i64 zb.2.fBurst.fD),(.int .i64 zb.2.fRate.fN),(.int .i64 zb.2.fRate.fD)],stb z4T 54 [(.int .i64 zb.1.fBurst.fN),(.int .i64 zb.1.fBurst.fD),(.int .i64 zb.1.fRate.fN),(.int .i64 zb.1.fRate.fD)],fz [],stb z1t 65 [(.slice z26 zQ.length z27)],row (.slice z26 zQ.length z27) 40 2 (zQ.flatMap e40)]))) (fun _ _ h'=>⟨h'.1,trivial,h'.2⟩)) ?_
     intro _
     refine WD.call0 (i:=11) (dd:=36) rfl (by kernel_rfl) rfl rfl rfl (.inl ⟨rfl,(Sin.wk (.cons .h5 (.cons .h3 (.cons .h2 .nil))) (.stb (.cons rfl .nil) (.same (.same .nil))))⟩) (zi (l:=[.tmp 4,.func 33,.tmp 30,.tmp 35]) Tryz.call67 (.cons rfl (.cons rfl (.cons rfl (.cons rfl .nil))))) ((.cons .here .nil) : Sel [stb z1j 83 [(.int .i64 z8i.2.fE)],blk z2l (z2A .busy none),stb z4U 54 [(.int .i64 zb.2.fBurst.fN),(.int .i64 zb.2.fBurst.fD),(.int .i64 zb.2.fRate.fN),(.int .i64 zb.2.fRate.fD)],stb z4T 54 [(.int .i64 zb.1.fBurst.fN),(.int .i64 zb.1.fBurst.fD),(.int .i64 zb.1.fRate.fN),(.int .i64 zb.1.fRate.fD)],fz [],stb z1t 65 [(.slice z26 zQ.length z27)],row (.slice z26 zQ.length z27) 40 2 (zQ.flatMap e40)] [stb z1j 83 [(.int .i64 z8i.2.fE)]] [blk z2l (z2A .busy none),stb z4U 54 [(.int .i64 zb.2.fBurst.fN),(.int .i64 zb.2.fBurst.fD),(.int .i64 zb.2.fRate.fN),(.int .i64 zb.2.fRate.fD)],stb z4T 54 [(.int .i64 zb.1.fBurst.fN),(.int .i64 zb.1.fBurst.fD),(.int .i64 zb.1.fRate.fN),(.int .i64 zb.1.fRate.fD)],fz [],stb z1t 65 [(.slice z26 zQ.length z27)],row (.slice z26 zQ.length z27) 40 2 (zQ.flatMap e40)]) (fun w hw=>by have pz:=(hz.call2 hw ((.cons .here .nil) : Sel [stb z1j 83 [(.int .i64 z8i.2.fE)],blk z2l (z2A .busy none),stb z4U 54 [(.int .i64 zb.2.fBurst.fN),(.int .i64 zb.2.fBurst.fD),(.int .i64 zb.2.fRate.fN),(.int .i64 zb.2.fRate.fD)],stb z4T 54 [(.int .i64 zb.1.fBurst.fN),(.int .i64 zb.1.fBurst.fD),(.int .i64 zb.1.fRate.fN),(.int .i64 zb.1.fRate.fD)],fz [],stb z1t 65 [(.slice z26 zQ.length z27)],row (.slice z26 zQ.length z27) 40 2 (zQ.flatMap e40)] [stb z1j 83 [(.int .i64 z8i.2.fE)]] [blk z2l (z2A .busy none),stb z4U 54 [(.int .i64 zb.2.fBurst.fN),(.int .i64 zb.2.fBurst.fD),(.int .i64 zb.2.fRate.fN),(.int .i64 zb.2.fRate.fD)],stb z4T 54 [(.int .i64 zb.1.fBurst.fN),(.int .i64 zb.1.fBurst.fD),(.int .i64 zb.1.fRate.fN),(.int .i64 zb.1.fRate.fD)],fz [],stb z1t 65 [(.slice z26 zQ.length z27)],row (.slice z26 zQ.length z27) 40 2 (zQ.flatMap e40)]) .h3); exact Calls.mono (w_curve_calc_do (Z:=_) (z7y:=z1j) (z8f:=33) (z9t:=[]) (z7x:=z8i.2) (zai:=(fun (y0 : z2) (y1 : z2)=>m_rat_Div y0 y1)) (z5I:=z8h.1) (z5J:=z8i.1) (r:=z7A) w pz Tryz.call33 (fun w' hz' y0 y1  r  hr=>w_rat_Div (Z:=_)  (z4B:=y0) (z4C:=y1) (r:=r) w' hz'  hr) zvO (hw.owns ((.cons .here .nil) : Sel [stb z1j 83 [(.int .i64 z8i.2.fE)],blk z2l (z2A .busy none),stb z4U 54 [(.int .i64 zb.2.fBurst.fN),(.int .i64 zb.2.fBurst.fD),(.int .i64 zb.2.fRate.fN),(.int .i64 zb.2.fRate.fD)],stb z4T 54 [(.int .i64 zb.1.fBurst.fN),(.int .i64 zb.1.fBurst.fD),(.int .i64 zb.1.fRate.fN),(.int .i64 zb.1.fRate.fD)],fz [],stb z1t 65 [(.slice z26 zQ.length z27)],row (.slice z26 zQ.length z27) 40 2 (zQ.flatMap e40)] [stb z1j 83 [(.int .i64 z8i.2.fE)]] [blk z2l (z2A .busy none),stb z4U 54 [(.int .i64 zb.2.fBurst.fN),(.int .i64 zb.2.fBurst.fD),(.int .i64 zb.2.fRate.fN),(.int .i64 zb.2.fRate.fD)],stb z4T 54 [(.int .i64 zb.1.fBurst.fN),(.int .i64 zb.1.fBurst.fD),(.int .i64 zb.1.fRate.fN),(.int .i64 zb.1.fRate.fD)],fz [],stb z1t 65 [(.slice z26 zQ.length z27)],row (.slice z26 zQ.length z27) 40 2 (zQ.flatMap e40)]))) (fun _ _ h'=>⟨h'.1,trivial,h'.2⟩)) ?_
     intro _
     refine WD.new (i:=12) (dd:=37) rfl (by kernel_rfl) rfl rfl rfl (e_buildSlice (cs:=([z7A.1] : List z2).flatMap e40) elT_65 (Eos.parts (l:=[.tmp 36]) (.cons rfl .nil) [0]) (fun _=>by kernel_rfl) rfl (by unfold maxLen; omega)) (fun h'=>absurd h' (by decide)) ?_
     intro zCt _
     refine WD.old (i:=13) (dd:=38) rfl (by kernel_rfl) rfl rfl rfl rfl (fun _=>(Sin.wk (.cons .h7 (.cons .h5 (.cons .h4 .nil))) (.stb (.cons rfl .nil) (.same (.same .nil))))) (e_appendF (enc:=e40) (l1:=zQ) (l2:=([z7A.1] : List z2)) elT_65 rfl rfl .h7 (fun _=>rfl) rfl rfl (news_row .here) (oc_flat e40_oc _) zvP) ?_
     rintro ⟨zfy,zfz⟩ _
     refine WD.last0 (i:=14) rfl (by kernel_rfl) rfl rfl rfl (by kernel_rfl) (e_store (vs:=[(.slice zfy ((zQ ++ ([z7A.1] : List z2)).length) zfz)]) (ds:=[(.slice zfy ((zQ ++ ([z7A.1] : List z2)).length) zfz)]) sizT_65 rfl rfl rfl rfl (oc_cons rfl oc_nil) .h7 (Nat.le_of_ble_eq_true rfl) rfl) ?_
     refine WD.done (by kernel_rfl) ?_
     refine WX.blockNormal ?_
     obtain ⟨rfl,rfl⟩:=rf_inj z5N
     exact WX.rNormal zhz .h4 (fun w' hw'=>⟨(zfy,zfz),rfl,trivial,(hw'.selAll ((.cons .h7 (.cons .h1 (.cons .h1 (.cons .h2 (.cons .here .nil))))) : Sel _ [fz [],stb z1t 65 [(.slice zfy ((zQ ++ ([z7A.1] : List z2)).length) zfz)],row (.slice zfy ((zQ ++ ([z7A.1] : List z2)).length) zfz) 40 2 ((zQ ++ ([z7A.1] : List z2)).flatMap e40),stb z1j 83 [(.int .i64 z7A.2.fE)],blk z2l (z2A .ready none)] _)).sub (.cons .here .nil)⟩)
    ·replace z5N:=ite_f z5N zkB
     refine WC.skip ?_
     refine WX.blockNormal ?_
     obtain ⟨rfl,rfl⟩:=rf_inj z5N
     exact WX.rNormal zhz .here (fun w' hw'=>⟨(z26,z27),rfl,trivial,(hw'.selAll ((.cons .h3 (.cons .h3 (.cons .h3 (.cons .h3 (.cons .here .nil))))) : Sel _ [fz [],stb z1t 65 [(.slice z26 zQ.length z27)],row (.slice z26 zQ.length z27) 40 2 (zQ.flatMap e40),stb z1j 83 [(.int .i64 z6C)],blk z2l (z2A .ready none)] _)).sub (.cons .here .nil)⟩)
   ·skip
    rintro _ w' ⟨⟨zfA,zfB⟩,rfl,_,hp⟩
    have hp1:=hw1.call ((.cons .here .nil) : Sel [allA [fz [],stb z1t 65 [(.slice none (([] : List z2).length) 0)],row (.slice none (([] : List z2).length) 0) 40 2 (([] : List z2).flatMap e40),stb z1j 83 [(.int .i64 0)],blk z2l (z2A .ready none)],dfr z6U,stb z5f 23 [(.slice z5s z2d.1.length z5t)],stb z5g 23 [(.slice z5u z2d.2.length z5v)],fz z5M] [allA [fz [],stb z1t 65 [(.slice none (([] : List z2).length) 0)],row (.slice none (([] : List z2).length) 0) 40 2 (([] : List z2).flatMap e40),stb z1j 83 [(.int .i64 0)],blk z2l (z2A .ready none)]] [dfr z6U,stb z5f 23 [(.slice z5s z2d.1.length z5t)],stb z5g 23 [(.slice z5u z2d.2.length z5v)],fz z5M]) hp
    have hp2 : Hp _ _ w' [fz [],stb z1t 65 [(.slice zfA z5K.2.1.length zfB)],row (.slice zfA z5K.2.1.length zfB) 40 2 (z5K.2.1.flatMap e40),stb z1j 83 [(.int .i64 z5K.2.2)],blk z2l (z2A (rdy (pcs [] z5K.1)) (pcs [] z5K.1)),dfr z6U,stb z5f 23 [(.slice z5s z2d.1.length z5t)],stb z5g 23 [(.slice z5u z2d.2.length z5v)],fz z5M]:=hp1.pickAll .here
    refine ⟨_,pcs [] z5K.1,_,rfl,(hp2.sub ((.cons .h4 (.cons .here (.cons .here (.cons .here (.cons .here (.cons .here (.cons .here (.cons .here (.cons .here .nil))))))))) : Sel _ [blk z2l (z2A (rdy (pcs [] z5K.1)) (pcs [] z5K.1)),fz [],stb z1t 65 [(.slice zfA z5K.2.1.length zfB)],row (.slice zfA z5K.2.1.length zfB) 40 2 (z5K.2.1.flatMap e40),stb z1j 83 [(.int .i64 z5K.2.2)],dfr z6U,stb z5f 23 [(.slice z5s z2d.1.length z5t)],stb z5g 23 [(.slice z5u z2d.2.length z5v)],fz z5M] _)),?_⟩
    clear hp hp1 hp2 pz hw hw1
    refine wjN ?_
    letI : Rnd:=aft z6U
    refine WX.merge .here .h6 ?_
    refine WX.blockNormal ?_
    exact WX.midR (D:=fun (g : Nat × Int × List z2 × Zp × Option Addr × Nat)=>g.1) (G:=Nat × Int × List z2 × Zp × Option Addr × Nat) ⟨z6U,z5K.2.2,z5K.2.1,(z5M ++ []),zfA,zfB⟩ ⟨h,(zvB.trans ((Zle.left _ _).trans (Zle.assoc _ _ _)))⟩ (.cons rfl (.cons rfl .nil)) (.cons .here (.cons .h2 (.cons .here (.cons .here (.cons .here .nil)))))
  ·rintro z6D z5r z3J z5L z3g z3h ⟨h,zCu⟩
   replace h:=(zvA z5r z3J).symm.trans h
   letI : Rnd:=aft z6D
   refine WC.b ?_
   refine WC.b ?_
   refine WC.a ?_
   refine WL.a (d:=39) rfl rfl rfl (q_fieldAddr fo_83_0 rfl rfl) ?_
   refine WL.a (d:=40) rfl rfl rfl (q_load1 oneT_26 rfl (rd_stb .h1 rfl)) ?_
   refine WL.a (d:=41) rfl rfl rfl (q_neq rfl rfl) ?_
   refine WL.nil ?_
   refine WX.a ?_
   refine WC.cond rfl (fun zkC=>?_) (fun zkC=>?_)
   ·replace h:=ite_t h zkC
    refine WC.b ?_
    refine WC.draw (fun i=>[].contains i) [] rfl ?_
    refine WD.a (i:=0) (d:=42) (by kernel_rfl) rfl (z6 (by kernel_rfl)) (z7 (by kernel_rfl)) rfl rfl rfl (fun _=>q_fieldAddr fo_83_0 rfl rfl) ?_
    refine WD.e (i:=1) (d:=43) (by kernel_rfl) rfl (z6 (by kernel_rfl)) (z7 (by kernel_rfl)) rfl rfl rfl (q_load1 oneT_26 rfl (rd_stb .h1 rfl)) ?_
    refine WD.a (i:=2) (d:=2) (by kernel_rfl) rfl (z6 (by kernel_rfl)) (z7 (by kernel_rfl)) rfl rfl rfl (fun _=>q_z rfl) ?_
    refine WD.a (i:=3) (d:=3) (by kernel_rfl) rfl (z6 (by kernel_rfl)) (z7 (by kernel_rfl)) rfl rfl rfl (fun _=>q_z rfl) ?_
    refine WD.done (by kernel_rfl) ?_
    refine WX.a ?_
    refine WC.ret ?_
    refine WX.thenRet ?_
    refine WX.nilRow 40 2 ?_
    obtain rfl:=Option.some.inj h
    refine WX.bpRetD .h5 Tryz.results76 (.tmp rfl (.tmp rfl .nil)) (fun w hw=>?_)
    exact ⟨z5L,none,0,ret2 rfl rfl,trivial,hw.sub (.cons .h2 (.cons .h1 .nil))⟩
   ·replace h:=ite_f h zkC
    refine WC.skip ?_
    refine WX.a ?_
    refine WC.b ?_
    obtain ⟨z4S,zvQ,h⟩:=z8 h
    refine WC.a ?_
    refine WL.a (d:=44) rfl rfl rfl (q_load1 oneT_65 rfl (rd_stb .h2 rfl)) ?_
    refine WL.enter0 (dd:=45) rfl rfl rfl (zi (l:=[.tmp 44,.func 24]) Tryz.call86 (.cons rfl (.cons rfl .nil))) ((.cons .h3 .nil) : Sel [fz z5L,stb z1j 83 [(.int .i64 z5r)],stb z1t 65 [(.slice z3g z3J.length z3h)],row (.slice z3g z3J.length z3h) 40 2 (z3J.flatMap e40),dfr z6D] [row (.slice z3g z3J.length z3h) 40 2 (z3J.flatMap e40)] [fz z5L,stb z1j 83 [(.int .i64 z5r)],stb z1t 65 [(.slice z3g z3J.length z3h)],dfr z6D]) (fun w hw=>by have pz:=(hz.call2 hw ((.cons .h3 .nil) : Sel [fz z5L,stb z1j 83 [(.int .i64 z5r)],stb z1t 65 [(.slice z3g z3J.length z3h)],row (.slice z3g z3J.length z3h) 40 2 (z3J.flatMap e40),dfr z6D] [row (.slice z3g z3J.length z3h) 40 2 (z3J.flatMap e40)] [fz z5L,stb z1j 83 [(.int .i64 z5r)],stb z1t 65 [(.slice z3g z3J.length z3h)],dfr z6D]) .here); exact w_slices_SortFunc_api_Rat_api_Rat (Z:=_) (z5a:=z3g) (z5b:=z3h) (zbs:=24) (ze4:=[]) (z2k:=z3J) (ze3:=(fun (y0 : z2) (y1 : z2)=>m_rat_Cmp y0 y1)) (r:=z4S) w pz Tryz.call24 (fun w' hz' y0 y1  r  hr=>w_rat_Cmp (Z:=_)  (z28:=y0) (z29:=y1) (r:=r) w' hz'  hr) zvQ (hw.owns ((.cons .h3 .nil) : Sel [fz z5L,stb z1j 83 [(.int .i64 z5r)],stb z1t 65 [(.slice z3g z3J.length z3h)],row (.slice z3g z3J.length z3h) 40 2 (z3J.flatMap e40),dfr z6D] [row (.slice z3g z3J.length z3h) 40 2 (z3J.flatMap e40)] [fz z5L,stb z1j 83 [(.int .i64 z5r)],stb z1t 65 [(.slice z3g z3J.length z3h)],dfr z6D]))) ?_
    rintro  zvR
    refine WL.restb (cs':=[(.slice z3g z4S.length z3h)]) .h3 (by rw [zvR]) ?_
    refine WL.nil ?_
    refine WX.a ?_
    refine WC.b ?_
    obtain ⟨zky,zvS,h⟩:=z8 h
    refine WC.a ?_
    refine WL.a (d:=46) rfl rfl rfl (q_load1 oneT_65 rfl (rd_stb .here rfl)) ?_
    refine WL.enter2 (dd:=47) rfl rfl rfl (zi (l:=[.tmp 46]) Tryz.call87 (.cons rfl .nil)) ((.cons .h1 .nil) : Sel [stb z1t 65 [(.slice z3g z4S.length z3h)],row (.slice z3g z4S.length z3h) 40 2 (z4S.flatMap e40),fz z5L,stb z1j 83 [(.int .i64 z5r)],dfr z6D] [row (.slice z3g z4S.length z3h) 40 2 (z4S.flatMap e40)] [stb z1t 65 [(.slice z3g z4S.length z3h)],fz z5L,stb z1j 83 [(.int .i64 z5r)],dfr z6D]) (fun w hw=>by have pz:=(hz.call2 hw ((.cons .h1 .nil) : Sel [stb z1t 65 [(.slice z3g z4S.length z3h)],row (.slice z3g z4S.length z3h) 40 2 (z4S.flatMap e40),fz z5L,stb z1j 83 [(.int .i64 z5r)],dfr z6D] [row (.slice z3g z4S.length z3h) 40 2 (z4S.flatMap e40)] [stb z1t 65 [(.slice z3g z4S.length z3h)],fz z5L,stb z1j 83 [(.int .i64 z5r)],dfr z6D]) .h1); exact w_slices_Compact_api_Rat_api_Rat (Z:=_) (z8Y:=z3g) (z8Z:=z3h) (z1m:=z4S) (r:=zky) w pz  zvS (hw.owns ((.cons .h1 .nil) : Sel [stb z1t 65 [(.slice z3g z4S.length z3h)],row (.slice z3g z4S.length z3h) 40 2 (z4S.flatMap e40),fz z5L,stb z1j 83 [(.int .i64 z5r)],dfr z6D] [row (.slice z3g z4S.length z3h) 40 2 (z4S.flatMap e40)] [stb z1t 65 [(.slice z3g z4S.length z3h)],fz z5L,stb z1j 83 [(.int .i64 z5r)],dfr z6D]))) ?_
    rintro zvT zvU _
    refine WL.a (d:=2) rfl rfl rfl (q_z rfl) ?_
    refine WL.a (d:=3) rfl rfl rfl (q_z rfl) ?_
    refine WL.nil ?_
    refine WX.a ?_
    refine WC.ret ?_
    obtain rfl:=Option.some.inj h
    refine WX.bpRetD .h4 Tryz.results76 (.tmp rfl (.tmp rfl .nil)) (fun w hw=>?_)
    exact ⟨z5L,zvT,zvU,ret2 rfl rfl,trivial,hw.sub (.cons .h3 (.cons .h1 .nil))⟩
def m_curve_Rate_1 (z2N : z1) (z2O : z1) : Option Int :=
 (m_rat_Cmp z2N.fRate z2O.fRate).bind fun zkD=>some zkD
set_option maxRecDepth 20000 in
theorem w_curve_Rate_1 (Z : Zp)   (z2N : z1) (z2O : z1) (r : Int) (w₀ : World) (hz : PZ [] w₀ Z)
  (h : m_curve_Rate_1 z2N z2O = some r) :
  Calls Tryz.prog 89 #[(.agg #[(.int .i64 z2N.fBurst.fN),(.int .i64 z2N.fBurst.fD),(.int .i64 z2N.fRate.fN),(.int .i64 z2N.fRate.fD)]),(.agg #[(.int .i64 z2O.fBurst.fN),(.int .i64 z2O.fBurst.fD),(.int .i64 z2O.fRate.fN),(.int .i64 z2O.fRate.fD)])] w₀ fun e w'=>e = .returned (.int .i64 r) ∧ Hp [] w₀ w' []:=by
 unfold m_curve_Rate_1 at h
 refine Calls.ofWC (vs:=[(.agg #[(.int .i64 z2N.fBurst.fN),(.int .i64 z2N.fBurst.fD),(.int .i64 z2N.fRate.fN),(.int .i64 z2N.fRate.fD)]),(.agg #[(.int .i64 z2O.fBurst.fN),(.int .i64 z2O.fBurst.fD),(.int .i64 z2O.fRate.fN),(.int .i64 z2O.fRate.fD)])]) (pre:=[]) (env:=[(0,(.agg #[(.int .i64 z2N.fBurst.fN),(.int .i64 z2N.fBurst.fD),(.int .i64 z2N.fRate.fN),(.int .i64 z2N.fRate.fD)])),(1,(.agg #[(.int .i64 z2O.fBurst.fN),(.int .i64 z2O.fBurst.fD),(.int .i64 z2O.fRate.fN),(.int .i64 z2O.fRate.fD)]))]) Tryz.func89 rfl Tryz.ntmps89 rfl (Hp.nil w₀ _) rfl ?_
 refine WC.b ?_
 refine WC.a ?_
 refine WL.new (dd:=2) rfl rfl rfl (e_box (cs:=[(.int .i64 z2N.fBurst.fN),(.int .i64 z2N.fBurst.fD),(.int .i64 z2N.fRate.fN),(.int .i64 z2N.fRate.fD)]) rfl rfl) ?_
 intro zhA _
 refine WL.new (dd:=3) rfl rfl rfl (e_box (cs:=[(.int .i64 z2O.fBurst.fN),(.int .i64 z2O.fBurst.fD),(.int .i64 z2O.fRate.fN),(.int .i64 z2O.fRate.fD)]) rfl rfl) ?_
 intro zhB _
 refine WL.a (d:=4) rfl rfl rfl (q_z rfl) ?_
 refine WL.nil ?_
 refine WX.a ?_
 refine WC.b ?_
 obtain ⟨zkD,zvV,h⟩:=z8 h
 refine WC.a ?_
 refine WL.a (d:=5) rfl rfl rfl (q_fieldAddr fo_54_1 rfl rfl) ?_
 refine WL.a (d:=6) rfl rfl rfl (q_loadA (cs:=[(.int .i64 z2N.fRate.fN),(.int .i64 z2N.fRate.fD)]) aggT_40 rfl rfl (rd_sub (s:=2) .h1 rfl)) ?_
 refine WL.a (d:=7) rfl rfl rfl (q_fieldAddr fo_54_1 rfl rfl) ?_
 refine WL.a (d:=8) rfl rfl rfl (q_loadA (cs:=[(.int .i64 z2O.fRate.fN),(.int .i64 z2O.fRate.fD)]) aggT_40 rfl rfl (rd_sub (s:=2) .here rfl)) ?_
 refine WL.b (dd:=9) rfl rfl rfl (zi (l:=[.tmp 6,.tmp 8]) Tryz.call24 (.cons rfl (.cons rfl .nil))) (.nil : Sel [stb zhB 54 [(.int .i64 z2O.fBurst.fN),(.int .i64 z2O.fBurst.fD),(.int .i64 z2O.fRate.fN),(.int .i64 z2O.fRate.fD)],stb zhA 54 [(.int .i64 z2N.fBurst.fN),(.int .i64 z2N.fBurst.fD),(.int .i64 z2N.fRate.fN),(.int .i64 z2N.fRate.fD)]] [] [stb zhB 54 [(.int .i64 z2O.fBurst.fN),(.int .i64 z2O.fBurst.fD),(.int .i64 z2O.fRate.fN),(.int .i64 z2O.fRate.fD)],stb zhA 54 [(.int .i64 z2N.fBurst.fN),(.int .i64 z2N.fBurst.fD),(.int .i64 z2N.fRate.fN),(.int .i64 z2N.fRate.fD)]]) (fun w hw=>by have pz:=(hz.call hw (.nil : Sel [stb zhB 54 [(.int .i64 z2O.fBurst.fN),(.int .i64 z2O.fBurst.fD),(.int .i64 z2O.fRate.fN),(.int .i64 z2O.fRate.fD)],stb zhA 54 [(.int .i64 z2N.fBurst.fN),(.int .i64 z2N.fBurst.fD),(.int .i64 z2N.fRate.fN),(.int .i64 z2N.fRate.fD)]] [] [stb zhB 54 [(.int .i64 z2O.fBurst.fN),(.int .i64 z2O.fBurst.fD),(.int .i64 z2O.fRate.fN),(.int .i64 z2O.fRate.fD)],stb zhA 54 [(.int .i64 z2N.fBurst.fN),(.int .i64 z2N.fBurst.fD),(.int .i64 z2N.fRate.fN),(.int .i64 z2N.fRate.fD)]])); exact w_rat_Cmp (Z:=_)  (z28:=z2N.fRate) (z29:=z2O.fRate) (r:=zkD) w pz  zvV) ?_
 refine WL.a (d:=4) rfl rfl rfl (q_z rfl) ?_
 refine WL.nil ?_
 refine WX.a ?_
 refine WC.ret ?_
 obtain rfl:=Option.some.inj h
 refine WX.bpRet Tryz.results89 (.tmp rfl .nil) (fun w hw=>?_)
 exact ⟨ret1 rfl,hw.sub .nil⟩
def m_slices_MinFunc_api_Curve_api_Bucket_L2 (z1d : List z1) (z90 : z1 → z1 → Option Int) (zam : Int → Int → Int → Int → Option z1) : Nat → Int → Int → Int → Int → Int → Option z1
 | 0,_,_,_,_,_=>none
 | zkE + 1,z2a,z6V,z6W,z6X,z6Y=>if decide (z2a < ((z1d.length : Nat) : Int)) then jp4 (fun (zan : Int) (zao : Int) (zap : Int) (zaq : Int)=>m_slices_MinFunc_api_Curve_api_Bucket_L2 z1d z90 zam zkE (i64 (z2a + 1)) zan zao zap zaq) fun zhC=>chk ((0 : Int) ≤ z2a ∧ z2a < ((z1d.length : Nat) : Int)) ((z90 (⟨(⟨(((nth z1d z2a).fBurst).fN),(((nth z1d z2a).fBurst).fD)⟩ : z2),(⟨(((nth z1d z2a).fRate).fN),(((nth z1d z2a).fRate).fD)⟩ : z2)⟩ : z1) (⟨(⟨z6V,z6W⟩ : z2),(⟨z6X,z6Y⟩ : z2)⟩ : z1)).bind fun zkF=>if decide (zkF < 0) then chk ((0 : Int) ≤ z2a ∧ z2a < ((z1d.length : Nat) : Int)) (zhC (((nth z1d z2a).fBurst).fN) (((nth z1d z2a).fBurst).fD) (((nth z1d z2a).fRate).fN) (((nth z1d z2a).fRate).fD)) else zhC z6V z6W z6X z6Y) else zam z6V z6W z6X z6Y
theorem m_slices_MinFunc_api_Curve_api_Bucket_L2_fuel {n : Nat} {z1d : List z1} {z90 : z1 → z1 → Option Int} {zam : Int → Int → Int → Int → Option z1} {z2a : Int} {z6V : Int} {z6W : Int} {z6X : Int} {z6Y : Int} {r : z1} (h : m_slices_MinFunc_api_Curve_api_Bucket_L2 z1d z90 zam n z2a z6V z6W z6X z6Y = some r) : ∃ m,n = m + 1:=by
 cases n with
 | zero=>cases h
 | succ m=>exact ⟨m,rfl⟩
def m_slices_MinFunc_api_Curve_api_Bucket (z1d : List z1) (z90 : z1 → z1 → Option Int) : Option z1 :=
 if decide (((z1d.length : Nat) : Int) < 1) then none else chk ((0 : Int) ≤ 0 ∧ 0 < ((z1d.length : Nat) : Int)) (jp4 (fun (z91 : Int) (z92 : Int) (z93 : Int) (z94 : Int)=>some (⟨(⟨z91,z92⟩ : z2),(⟨z93,z94⟩ : z2)⟩ : z1)) fun zam=>m_slices_MinFunc_api_Curve_api_Bucket_L2 z1d z90 zam FUEL 1 (((nth z1d 0).fBurst).fN) (((nth z1d 0).fBurst).fD) (((nth z1d 0).fRate).fN) (((nth z1d 0).fRate).fD))
set_option maxRecDepth 20000 in
theorem w_slices_MinFunc_api_Curve_api_Bucket (Z : Zp)  (zcJ : Option Addr) (zcK : Nat) (z9w : FuncId) (zbt : List Value) (z1d : List z1) (z90 : z1 → z1 → Option Int) (r : z1) (w₀ : World) (hz : PZ [] w₀ Z)
  (zkG : ZS Z 4 (fun r x=>r = e54 x) zcJ zcK z1d)
  (zvW : ∀ args w,(callFunc z9w args).run Tryz.prog w = .ok (.enter z9w args) w)
  (zvX : ∀ w : World,PZ [] w Z → ∀ (x0 : z1) (x1 : z1) (r : Int),z90 x0 x1 = some r → Calls Tryz.prog z9w (([(.agg #[(.int .i64 x0.fBurst.fN),(.int .i64 x0.fBurst.fD),(.int .i64 x0.fRate.fN),(.int .i64 x0.fRate.fD)]),(.agg #[(.int .i64 x1.fBurst.fN),(.int .i64 x1.fBurst.fD),(.int .i64 x1.fRate.fN),(.int .i64 x1.fRate.fD)])] : List Value) ++ zbt).toArray w fun e w'=>e = .returned (.int .i64 r) ∧ Hp [] w w' [])
  (h : m_slices_MinFunc_api_Curve_api_Bucket z1d z90 = some r) :
  Calls Tryz.prog 88 #[(.slice zcJ z1d.length zcK),(.func (.func z9w) #[] (zbt).toArray)] w₀ fun e w'=>e = .returned (.agg #[(.int .i64 r.fBurst.fN),(.int .i64 r.fBurst.fD),(.int .i64 r.fRate.fN),(.int .i64 r.fRate.fD)]) ∧ Hp [] w₀ w' []:=by
 unfold m_slices_MinFunc_api_Curve_api_Bucket at h
 refine Calls.ofWC (vs:=[(.slice zcJ z1d.length zcK),(.func (.func z9w) #[] (zbt).toArray)]) (pre:=[]) (env:=[(0,(.slice zcJ z1d.length zcK)),(1,(.func (.func z9w) #[] (zbt).toArray))]) Tryz.func88 rfl Tryz.ntmps88 rfl (Hp.nil w₀ _) rfl ?_
 refine WC.b ?_
 refine WC.a ?_
 refine WL.new (dd:=4) rfl rfl rfl (e_alloc (cs:=[(.int .i64 0),(.int .i64 0),(.int .i64 0),(.int .i64 0)]) zeroT_54 rfl) ?_
 intro zed _
 refine WL.nil ?_
 refine WX.a ?_
 refine WC.b ?_
 refine WC.b ?_
 refine WC.a ?_
 refine WL.a (d:=7) rfl rfl rfl (q_m rfl) ?_
 refine WL.a (d:=8) rfl rfl rfl (q_len Tryz.underlying23 rfl) ?_
 refine WL.a (d:=9) rfl rfl rfl (q_lss rfl rfl) ?_
 refine WL.nil ?_
 refine WX.a ?_
 refine WC.cond rfl (fun zkH=>?_) (fun zkH=>?_)
 ·replace h:=ite_t h zkH
  cases h
 ·replace h:=ite_f h zkH
  refine WC.skip ?_
  refine WX.a ?_
  refine WC.b ?_
  obtain ⟨zvY,h⟩:=chk_elim h
  refine WC.a ?_
  refine WL.a (d:=11) rfl rfl rfl (q_m rfl) ?_
  refine WL.znth (dd:=12) rfl rfl (Z:=Z) (Pr:=(fun r x=>r = e54 x)) elT_23 rfl rfl zkG zvY ?_
  rintro zCv zCw zvZ zCx rfl
  refine WL.a (d:=13) rfl rfl rfl (q_loadA (cs:=[(.int .i64 (((nth z1d 0).fBurst).fN)),(.int .i64 (((nth z1d 0).fBurst).fD)),(.int .i64 (((nth z1d 0).fRate).fN)),(.int .i64 (((nth z1d 0).fRate).fD))]) aggT_54 rfl rfl (rd_zs hz.pv zvZ)) ?_
  refine WL.new (dd:=5) rfl rfl rfl (e_alloc (cs:=[(.int .i64 0),(.int .i64 0),(.int .i64 0),(.int .i64 0)]) zeroT_54 rfl) ?_
  intro zee _
  refine WL.eff0 rfl rfl (e_store (vs:=[(.int .i64 (((nth z1d 0).fBurst).fN)),(.int .i64 (((nth z1d 0).fBurst).fD)),(.int .i64 (((nth z1d 0).fRate).fN)),(.int .i64 (((nth z1d 0).fRate).fD))]) (ds:=[(.int .i64 (((nth z1d 0).fBurst).fN)),(.int .i64 (((nth z1d 0).fBurst).fD)),(.int .i64 (((nth z1d 0).fRate).fN)),(.int .i64 (((nth z1d 0).fRate).fD))]) sizT_54 rfl rfl rfl rfl (oc_cons rfl (oc_cons rfl (oc_cons rfl (oc_cons rfl oc_nil)))) .here (Nat.le_of_ble_eq_true rfl) rfl) ?_
  refine WL.nil ?_
  refine WX.a ?_
  obtain ⟨zam,zw0,h⟩:=jp4_elim h
  refine WC.seqMid4 (fun (z91 : Int) (z92 : Int) (z93 : Int) (z94 : Int)=>(zam z91 z92 z93 z94 = some r)) (fun (z91 : Int) (z92 : Int) (z93 : Int) (z94 : Int)=>[(4,(.pointer (some ⟨zed,0,none⟩))),(5,(.pointer (some ⟨zee,0,none⟩)))]) (fun (z91 : Int) (z92 : Int) (z93 : Int) (z94 : Int)=>[stb zed 54 [(.int .i64 0),(.int .i64 0),(.int .i64 0),(.int .i64 0)],stb zee 54 [(.int .i64 z91),(.int .i64 z92),(.int .i64 z93),(.int .i64 z94)]]) ?_ ?_
  ·skip
   refine WC.b ?_
   refine WC.a ?_
   refine WL.a (d:=6) rfl rfl rfl (q_z rfl) ?_
   refine WL.nil ?_
   refine WX.a ?_
   refine WC.block ?_
   refine WC.loop6 (fun (zef : Nat) (z2a : Int) (z6V : Int) (z6W : Int) (z6X : Int) (z6Y : Int)=>(m_slices_MinFunc_api_Curve_api_Bucket_L2 z1d z90 zam zef z2a z6V z6W z6X z6Y = some r)) (fun (zef : Nat) (z2a : Int) (z6V : Int) (z6W : Int) (z6X : Int) (z6Y : Int)=>[(0,(.slice zcJ z1d.length zcK)),(1,(.func (.func z9w) #[] (zbt).toArray)),(4,(.pointer (some ⟨zed,0,none⟩))),(5,(.pointer (some ⟨zee,0,none⟩))),(6,(.int .i64 z2a))]) (fun (zef : Nat) (z2a : Int) (z6V : Int) (z6W : Int) (z6X : Int) (z6Y : Int)=>[stb zed 54 [(.int .i64 0),(.int .i64 0),(.int .i64 0),(.int .i64 0)],stb zee 54 [(.int .i64 z6V),(.int .i64 z6W),(.int .i64 z6X),(.int .i64 z6Y)]]) (fun (zef : Nat) (z2a : Int) (z6V : Int) (z6W : Int) (z6X : Int) (z6Y : Int)=>zef) ⟨FUEL,1,(((nth z1d 0).fBurst).fN),(((nth z1d 0).fBurst).fD),(((nth z1d 0).fRate).fN),(((nth z1d 0).fRate).fD)⟩ h (.cons rfl (.cons rfl (.cons rfl (.cons rfl (.cons rfl .nil))))) (.cons .h1 (.cons .here .nil)) ?_
   rintro zef z2a z6V z6W z6X z6Y h
   obtain ⟨zkE,rfl⟩:=m_slices_MinFunc_api_Curve_api_Bucket_L2_fuel h
   rw [m_slices_MinFunc_api_Curve_api_Bucket_L2] at h
   refine WC.b ?_
   refine WC.b ?_
   refine WC.a ?_
   refine WL.a (d:=14) rfl rfl rfl (q_m rfl) ?_
   refine WL.a (d:=15) rfl rfl rfl (q_m rfl) ?_
   refine WL.a (d:=16) rfl rfl rfl (q_len Tryz.underlying23 rfl) ?_
   refine WL.a (d:=17) rfl rfl rfl (q_lss rfl rfl) ?_
   refine WL.nil ?_
   refine WX.a ?_
   refine WC.cond rfl (fun zkI=>?_) (fun zkI=>?_)
   ·replace h:=ite_t h zkI
    refine WC.skip ?_
    refine WX.a ?_
    obtain ⟨zhC,zw1,h⟩:=jp4_elim h
    refine WC.seqMid4 (fun (zan : Int) (zao : Int) (zap : Int) (zaq : Int)=>(zhC zan zao zap zaq = some r)) (fun (zan : Int) (zao : Int) (zap : Int) (zaq : Int)=>[(0,(.slice zcJ z1d.length zcK)),(1,(.func (.func z9w) #[] (zbt).toArray)),(4,(.pointer (some ⟨zed,0,none⟩))),(5,(.pointer (some ⟨zee,0,none⟩))),(6,(.int .i64 z2a))]) (fun (zan : Int) (zao : Int) (zap : Int) (zaq : Int)=>[stb zed 54 [(.int .i64 0),(.int .i64 0),(.int .i64 0),(.int .i64 0)],stb zee 54 [(.int .i64 zan),(.int .i64 zao),(.int .i64 zap),(.int .i64 zaq)]]) ?_ ?_
    ·skip
     refine WC.block ?_
     refine WC.b ?_
     obtain ⟨zw2,h⟩:=chk_elim h
     obtain ⟨zkF,zw3,h⟩:=z8 h
     refine WC.draw (fun i=>[].contains i) [] rfl ?_
     refine WD.a (i:=0) (d:=20) (by kernel_rfl) rfl (z6 (by kernel_rfl)) (z7 (by kernel_rfl)) rfl rfl rfl (fun _=>q_m rfl) ?_
     refine WD.a (i:=1) (d:=21) (by kernel_rfl) rfl (z6 (by kernel_rfl)) (z7 (by kernel_rfl)) rfl rfl rfl (fun _=>q_m rfl) ?_
     refine WD.a (i:=2) (d:=22) (by kernel_rfl) rfl (z6 (by kernel_rfl)) (z7 (by kernel_rfl)) rfl rfl rfl (fun _=>q_m rfl) ?_
     refine WD.znth (j:=3) (dd:=23) (by kernel_rfl) rfl (z6 (by kernel_rfl)) (z7 (by kernel_rfl)) rfl rfl (Z:=Z) (Pr:=(fun r x=>r = e54 x)) elT_23 rfl rfl zkG zw2 ?_
     rintro zCy zCz zw4 zCA rfl
     refine WD.e (i:=4) (d:=24) (by kernel_rfl) rfl (z6 (by kernel_rfl)) (z7 (by kernel_rfl)) rfl rfl rfl (q_loadA (cs:=[(.int .i64 (((nth z1d z2a).fBurst).fN)),(.int .i64 (((nth z1d z2a).fBurst).fD)),(.int .i64 (((nth z1d z2a).fRate).fN)),(.int .i64 (((nth z1d z2a).fRate).fD))]) aggT_54 rfl rfl (rd_zs hz.pv zw4)) ?_
     refine WD.e (i:=5) (d:=25) (by kernel_rfl) rfl (z6 (by kernel_rfl)) (z7 (by kernel_rfl)) rfl rfl rfl (q_loadA (cs:=[(.int .i64 z6V),(.int .i64 z6W),(.int .i64 z6X),(.int .i64 z6Y)]) aggT_54 rfl rfl (rd_all .h1)) ?_
     refine WD.c (i:=6) (d:=26) (by kernel_rfl) rfl (z6 (by kernel_rfl)) (z7 (by kernel_rfl)) rfl rfl rfl (run_callv (l:=[.tmp 24,.tmp 25]) (f:=z9w) (caps:=zbt) zvW rfl (.cons rfl (.cons rfl .nil))) (fun w hw=>zvX w (hz.now hw) (⟨(⟨(((nth z1d z2a).fBurst).fN),(((nth z1d z2a).fBurst).fD)⟩ : z2),(⟨(((nth z1d z2a).fRate).fN),(((nth z1d z2a).fRate).fD)⟩ : z2)⟩ : z1) (⟨(⟨z6V,z6W⟩ : z2),(⟨z6X,z6Y⟩ : z2)⟩ : z1) zkF  zw3) ?_
     refine WD.a (i:=7) (d:=27) (by kernel_rfl) rfl (z6 (by kernel_rfl)) (z7 (by kernel_rfl)) rfl rfl rfl (fun _=>q_lss rfl rfl) ?_
     refine WD.done (by kernel_rfl) ?_
     refine WX.a ?_
     refine WC.cond rfl (fun zkJ=>?_) (fun zkJ=>?_)
     ·replace h:=ite_t h zkJ
      obtain ⟨zw5,h⟩:=chk_elim h
      refine WC.a ?_
      refine WL.a (d:=28) rfl rfl rfl (q_m rfl) ?_
      refine WL.a (d:=29) rfl rfl rfl (q_m rfl) ?_
      refine WL.znth (dd:=30) rfl rfl (Z:=Z) (Pr:=(fun r x=>r = e54 x)) elT_23 rfl rfl zkG zw5 ?_
      rintro zCB zCC zw6 zCD rfl
      refine WL.a (d:=31) rfl rfl rfl (q_loadA (cs:=[(.int .i64 (((nth z1d z2a).fBurst).fN)),(.int .i64 (((nth z1d z2a).fBurst).fD)),(.int .i64 (((nth z1d z2a).fRate).fN)),(.int .i64 (((nth z1d z2a).fRate).fD))]) aggT_54 rfl rfl (rd_zs hz.pv zw6)) ?_
      refine WL.eff0 rfl rfl (e_store (vs:=[(.int .i64 (((nth z1d z2a).fBurst).fN)),(.int .i64 (((nth z1d z2a).fBurst).fD)),(.int .i64 (((nth z1d z2a).fRate).fN)),(.int .i64 (((nth z1d z2a).fRate).fD))]) (ds:=[(.int .i64 (((nth z1d z2a).fBurst).fN)),(.int .i64 (((nth z1d z2a).fBurst).fD)),(.int .i64 (((nth z1d z2a).fRate).fN)),(.int .i64 (((nth z1d z2a).fRate).fD))]) sizT_54 rfl rfl rfl rfl (oc_cons rfl (oc_cons rfl (oc_cons rfl (oc_cons rfl oc_nil)))) .h1 (Nat.le_of_ble_eq_true rfl) rfl) ?_
      refine WL.nil ?_
      refine WX.blockNormal ?_
      exact WX.mid (G:=Int × Int × Int × Int) ⟨(((nth z1d z2a).fBurst).fN),(((nth z1d z2a).fBurst).fD),(((nth z1d z2a).fRate).fN),(((nth z1d z2a).fRate).fD)⟩ h (.cons rfl (.cons rfl (.cons rfl (.cons rfl (.cons rfl .nil))))) (.cons .h1 (.cons .here .nil))
     ·replace h:=ite_f h zkJ
      refine WC.skip ?_
      refine WX.blockNormal ?_
      exact WX.mid (G:=Int × Int × Int × Int) ⟨z6V,z6W,z6X,z6Y⟩ h (.cons rfl (.cons rfl (.cons rfl (.cons rfl (.cons rfl .nil))))) (.cons .here (.cons .here .nil))
    ·rintro zan zao zap zaq h
     replace h:=(zw1 zan zao zap zaq).symm.trans h
     refine WC.a ?_
     refine WL.a (d:=18) rfl rfl rfl (q_m rfl) ?_
     refine WL.a (d:=19) rfl rfl rfl (q_add rfl rfl rfl) ?_
     refine WL.a (d:=6) rfl rfl rfl (q_z rfl) ?_
     refine WL.nil ?_
     exact WX.round (G:=Nat × Int × Int × Int × Int × Int) ⟨zkE,(i64 (z2a + 1)),zan,zao,zap,zaq⟩ h (Nat.lt_succ_self _) (.cons rfl (.cons rfl (.cons rfl (.cons rfl (.cons rfl .nil))))) (.cons .here (.cons .here .nil))
   ·replace h:=ite_f h zkI
    refine WC.exit ?_
    refine WX.thenExit ?_
    refine WX.thenExit ?_
    refine WX.blockHit ?_
    exact WX.mid (G:=Int × Int × Int × Int) ⟨z6V,z6W,z6X,z6Y⟩ h (.cons rfl (.cons rfl .nil)) (.cons .here (.cons .here .nil))
  ·rintro z91 z92 z93 z94 h
   replace h:=(zw0 z91 z92 z93 z94).symm.trans h
   refine WC.b ?_
   refine WC.a ?_
   refine WL.a (d:=32) rfl rfl rfl (q_loadA (cs:=[(.int .i64 z91),(.int .i64 z92),(.int .i64 z93),(.int .i64 z94)]) aggT_54 rfl rfl (rd_all .h1)) ?_
   refine WL.eff0 rfl rfl (e_store (vs:=[(.int .i64 z91),(.int .i64 z92),(.int .i64 z93),(.int .i64 z94)]) (ds:=[(.int .i64 z91),(.int .i64 z92),(.int .i64 z93),(.int .i64 z94)]) sizT_54 rfl rfl rfl rfl (oc_cons rfl (oc_cons rfl (oc_cons rfl (oc_cons rfl oc_nil)))) .here (Nat.le_of_ble_eq_true rfl) rfl) ?_
   refine WL.nil ?_
   refine WX.a ?_
   refine WC.ret ?_
   obtain rfl:=Option.some.inj h
   refine WX.bpRet Tryz.results88 (.agg rfl aggT_54 rfl (rd_all .here) .nil) (fun w hw=>?_)
   exact ⟨ret1 rfl,hw.sub .nil⟩
def m_curve_Rate (z8j : List z1) : Option (z2 × Int) :=
 (m_curve_Valid z8j).bind fun zkK=>if !zkK then some ((⟨0,0⟩ : z2),2) else (m_slices_MinFunc_api_Curve_api_Bucket z8j (fun (y0 : z1) (y1 : z1)=>m_curve_Rate_1 y0 y1)).bind fun zar=>some (zar.fRate,0)
set_option maxRecDepth 20000 in
theorem w_curve_Rate (Z : Zp)  (zbu : Option Addr) (zbv : Nat) (z8j : List z1) (r : z2 × Int) (w₀ : World) (hz : PZ [] w₀ Z)
  (zqf : ZS Z 4 (fun r x=>r = e54 x) zbu zbv z8j)
  (h : m_curve_Rate z8j = some r) :
  Calls Tryz.prog 77 #[(.slice zbu z8j.length zbv)] w₀ fun e w'=>e = .returned (.tuple #[(.agg #[(.int .i64 r.1.fN),(.int .i64 r.1.fD)]),(.int .i64 r.2)]) ∧ Hp [] w₀ w' []:=by
 unfold m_curve_Rate at h
 refine Calls.ofWC (vs:=[(.slice zbu z8j.length zbv)]) (pre:=[]) (env:=[(0,(.slice zbu z8j.length zbv))]) Tryz.func77 rfl Tryz.ntmps77 rfl (Hp.nil w₀ _) rfl ?_
 refine WC.b ?_
 refine WC.a ?_
 refine WL.new (dd:=2) rfl rfl rfl (e_alloc (cs:=[(.int .i64 0),(.int .i64 0)]) zeroT_40 rfl) ?_
 intro zbw _
 refine WL.a (d:=3) rfl rfl rfl (q_z rfl) ?_
 refine WL.nil ?_
 refine WX.a ?_
 refine WC.b ?_
 refine WC.b ?_
 obtain ⟨zkK,zw7,h⟩:=z8 h
 refine WC.a ?_
 refine WL.a (d:=4) rfl rfl rfl (q_m rfl) ?_
 refine WL.b (dd:=5) rfl rfl rfl (zi (l:=[.tmp 4]) Tryz.call21 (.cons rfl .nil)) (.nil : Sel [stb zbw 40 [(.int .i64 0),(.int .i64 0)]] [] [stb zbw 40 [(.int .i64 0),(.int .i64 0)]]) (fun w hw=>by have pz:=(hz.call hw (.nil : Sel [stb zbw 40 [(.int .i64 0),(.int .i64 0)]] [] [stb zbw 40 [(.int .i64 0),(.int .i64 0)]])); exact w_curve_Valid (Z:=_) (z8R:=zbu) (z8S:=zbv) (z5q:=z8j) (r:=zkK) w pz zqf zw7) ?_
 refine WL.a (d:=6) rfl rfl rfl (q_not rfl) ?_
 refine WL.nil ?_
 refine WX.a ?_
 refine WC.cond rfl (fun zkL=>?_) (fun zkL=>?_)
 ·replace h:=ite_t h zkL
  refine WC.b ?_
  refine WC.a ?_
  refine WL.a (d:=7) rfl rfl rfl (q_build (v:=(.agg #[(.int .i64 0),(.int .i64 0)])) (Eos.parts (l:=[]) .nil []) (fun _=>by kernel_rfl)) ?_
  refine WL.eff0 rfl rfl (e_store (vs:=[(.int .i64 0),(.int .i64 0)]) (ds:=[(.int .i64 0),(.int .i64 0)]) sizT_40 rfl rfl rfl rfl (oc_cons rfl (oc_cons rfl oc_nil)) .here (Nat.le_of_ble_eq_true rfl) rfl) ?_
  refine WL.a (d:=3) rfl rfl rfl (q_z rfl) ?_
  refine WL.nil ?_
  refine WX.a ?_
  refine WC.ret ?_
  refine WX.thenRet ?_
  obtain rfl:=Option.some.inj h
  refine WX.bpRet Tryz.results77 (.agg rfl aggT_40 rfl (rd_all .here) (.tmp rfl .nil)) (fun w hw=>?_)
  exact ⟨ret2 rfl rfl,hw.sub .nil⟩
 ·replace h:=ite_f h zkL
  refine WC.skip ?_
  refine WX.a ?_
  refine WC.b ?_
  obtain ⟨zar,zw8,h⟩:=z8 h
  refine WC.a ?_
  refine WL.a (d:=8) rfl rfl rfl (q_m rfl) ?_
  refine WL.b (dd:=9) rfl rfl rfl (zi (l:=[.tmp 8,.func 89]) Tryz.call88 (.cons rfl (.cons rfl .nil))) (.nil : Sel [stb zbw 40 [(.int .i64 0),(.int .i64 0)]] [] [stb zbw 40 [(.int .i64 0),(.int .i64 0)]]) (fun w hw=>by have pz:=(hz.call hw (.nil : Sel [stb zbw 40 [(.int .i64 0),(.int .i64 0)]] [] [stb zbw 40 [(.int .i64 0),(.int .i64 0)]])); exact w_slices_MinFunc_api_Curve_api_Bucket (Z:=_) (zcJ:=zbu) (zcK:=zbv) (z9w:=89) (zbt:=[]) (z1d:=z8j) (z90:=(fun (y0 : z1) (y1 : z1)=>m_curve_Rate_1 y0 y1)) (r:=zar) w pz zqf Tryz.call89 (fun w' hz' y0 y1  r  hr=>w_curve_Rate_1 (Z:=_)  (z2N:=y0) (z2O:=y1) (r:=r) w' hz'  hr) zw8) ?_
  refine WL.a (d:=10) rfl rfl rfl (q_fieldA (cs':=#[(.int .i64 zar.fRate.fN),(.int .i64 zar.fRate.fD)]) fldT_54_1 aggT_40 rfl rfl) ?_
  refine WL.eff0 rfl rfl (e_store (vs:=[(.int .i64 zar.fRate.fN),(.int .i64 zar.fRate.fD)]) (ds:=[(.int .i64 zar.fRate.fN),(.int .i64 zar.fRate.fD)]) sizT_40 rfl rfl rfl rfl (oc_cons rfl (oc_cons rfl oc_nil)) .here (Nat.le_of_ble_eq_true rfl) rfl) ?_
  refine WL.a (d:=3) rfl rfl rfl (q_z rfl) ?_
  refine WL.nil ?_
  refine WX.a ?_
  refine WC.ret ?_
  obtain rfl:=Option.some.inj h
  refine WX.bpRet Tryz.results77 (.agg rfl aggT_40 rfl (rd_all .here) (.tmp rfl .nil)) (fun w hw=>?_)
  exact ⟨ret2 rfl rfl,hw.sub .nil⟩
def m_rat_do_1 (zbx : z2) (zby : z2) : Option (Int × Int) :=
 some ((i64 ((i64 (zbx.fN * zby.fD)) + (i64 (zby.fN * zbx.fD)))),(i64 (zbx.fD * zby.fD)))
set_option maxRecDepth 20000 in
theorem w_rat_do_1 (Z : Zp)  (zfC : Addr) (zfD : Addr) (zbx : z2) (zby : z2) (r : Int × Int) (w₀ : World) (hz : PZ [] w₀ Z)
  (zkM : ZC Z zfC [(.int .i64 zbx.fN),(.int .i64 zbx.fD)])
  (zkN : ZC Z zfD [(.int .i64 zby.fN),(.int .i64 zby.fD)])
  (h : m_rat_do_1 zbx zby = some r) :
  Calls Tryz.prog 69 #[(.pointer (some zfC)),(.pointer (some zfD))] w₀ fun e w'=>e = .returned (.tuple #[(.int .i64 r.1),(.int .i64 r.2)]) ∧ Hp [] w₀ w' []:=by
 unfold m_rat_do_1 at h
 refine Calls.ofWC (vs:=[(.pointer (some zfC)),(.pointer (some zfD))]) (pre:=[]) (env:=[(0,(.pointer (some zfC))),(1,(.pointer (some zfD)))]) Tryz.func69 rfl Tryz.ntmps69 rfl (Hp.nil w₀ _) rfl ?_
 refine WC.b ?_
 refine WC.a ?_
 refine WL.a (d:=2) rfl rfl rfl (q_z rfl) ?_
 refine WL.a (d:=3) rfl rfl rfl (q_z rfl) ?_
 refine WL.nil ?_
 refine WX.a ?_
 refine WC.b ?_
 refine WC.draw (fun i=>[].contains i) [] rfl ?_
 refine WD.a (i:=0) (d:=4) (by kernel_rfl) rfl (z6 (by kernel_rfl)) (z7 (by kernel_rfl)) rfl rfl rfl (fun _=>q_fieldAddr fo_40_0 rfl rfl) ?_
 refine WD.e (i:=1) (d:=5) (by kernel_rfl) rfl (z6 (by kernel_rfl)) (z7 (by kernel_rfl)) rfl rfl rfl (q_load1 oneT_3 rfl (rd_zAt hz.pv zkM rfl)) ?_
 refine WD.a (i:=2) (d:=6) (by kernel_rfl) rfl (z6 (by kernel_rfl)) (z7 (by kernel_rfl)) rfl rfl rfl (fun _=>q_fieldAddr fo_40_1 rfl rfl) ?_
 refine WD.e (i:=3) (d:=7) (by kernel_rfl) rfl (z6 (by kernel_rfl)) (z7 (by kernel_rfl)) rfl rfl rfl (q_load1 oneT_3 rfl (rd_zAt hz.pv zkN rfl)) ?_
 refine WD.a (i:=4) (d:=8) (by kernel_rfl) rfl (z6 (by kernel_rfl)) (z7 (by kernel_rfl)) rfl rfl rfl (fun _=>q_mul rfl rfl rfl) ?_
 refine WD.a (i:=5) (d:=9) (by kernel_rfl) rfl (z6 (by kernel_rfl)) (z7 (by kernel_rfl)) rfl rfl rfl (fun _=>q_fieldAddr fo_40_0 rfl rfl) ?_
 refine WD.e (i:=6) (d:=10) (by kernel_rfl) rfl (z6 (by kernel_rfl)) (z7 (by kernel_rfl)) rfl rfl rfl (q_load1 oneT_3 rfl (rd_zAt hz.pv zkN rfl)) ?_
 refine WD.a (i:=7) (d:=11) (by kernel_rfl) rfl (z6 (by kernel_rfl)) (z7 (by kernel_rfl)) rfl rfl rfl (fun _=>q_fieldAddr fo_40_1 rfl rfl) ?_
 refine WD.e (i:=8) (d:=12) (by kernel_rfl) rfl (z6 (by kernel_rfl)) (z7 (by kernel_rfl)) rfl rfl rfl (q_load1 oneT_3 rfl (rd_zAt hz.pv zkM rfl)) ?_
 refine WD.a (i:=9) (d:=13) (by kernel_rfl) rfl (z6 (by kernel_rfl)) (z7 (by kernel_rfl)) rfl rfl rfl (fun _=>q_mul rfl rfl rfl) ?_
 refine WD.a (i:=10) (d:=14) (by kernel_rfl) rfl (z6 (by kernel_rfl)) (z7 (by kernel_rfl)) rfl rfl rfl (fun _=>q_add rfl rfl rfl) ?_
 refine WD.a (i:=11) (d:=15) (by kernel_rfl) rfl (z6 (by kernel_rfl)) (z7 (by kernel_rfl)) rfl rfl rfl (fun _=>q_fieldAddr fo_40_1 rfl rfl) ?_
 refine WD.e (i:=12) (d:=16) (by kernel_rfl) rfl (z6 (by kernel_rfl)) (z7 (by kernel_rfl)) rfl rfl rfl (q_load1 oneT_3 rfl (rd_zAt hz.pv zkM rfl)) ?_
 refine WD.a (i:=13) (d:=17) (by kernel_rfl) rfl (z6 (by kernel_rfl)) (z7 (by kernel_rfl)) rfl rfl rfl (fun _=>q_fieldAddr fo_40_1 rfl rfl) ?_
 refine WD.e (i:=14) (d:=18) (by kernel_rfl) rfl (z6 (by kernel_rfl)) (z7 (by kernel_rfl)) rfl rfl rfl (q_load1 oneT_3 rfl (rd_zAt hz.pv zkN rfl)) ?_
 refine WD.a (i:=15) (d:=19) (by kernel_rfl) rfl (z6 (by kernel_rfl)) (z7 (by kernel_rfl)) rfl rfl rfl (fun _=>q_mul rfl rfl rfl) ?_
 refine WD.a (i:=16) (d:=2) (by kernel_rfl) rfl (z6 (by kernel_rfl)) (z7 (by kernel_rfl)) rfl rfl rfl (fun _=>q_z rfl) ?_
 refine WD.a (i:=17) (d:=3) (by kernel_rfl) rfl (z6 (by kernel_rfl)) (z7 (by kernel_rfl)) rfl rfl rfl (fun _=>q_z rfl) ?_
 refine WD.done (by kernel_rfl) ?_
 refine WX.a ?_
 refine WC.ret ?_
 obtain rfl:=Option.some.inj h
 refine WX.bpRet Tryz.results69 (.tmp rfl (.tmp rfl .nil)) (fun w hw=>?_)
 exact ⟨ret2 rfl rfl,hw.sub .nil⟩
def m_rat_doc (z11 : z2) (z12 : z2) : Option (z2 × Int) :=
 (m_rat_Valid z11).bind fun zhD=>(if !zhD then some true else (m_rat_Valid z12).bind fun zkO=>some (!zkO)).bind fun zfE=>if zfE then some ((⟨0,0⟩ : z2),2) else (m_rat_do_1 z11 z12).bind fun zeg=>(m_rat_Make zeg.1 zeg.2).bind fun zbz=>some (zbz.1,zbz.2)
set_option maxRecDepth 20000 in
theorem w_rat_doc (Z : Zp)   (z11 : z2) (z12 : z2) (r : z2 × Int) (w₀ : World) (hz : PZ [] w₀ Z)
  (h : m_rat_doc z11 z12 = some r) :
  Calls Tryz.prog 53 #[(.string ⟨#[43]⟩),(.agg #[(.int .i64 z11.fN),(.int .i64 z11.fD)]),(.agg #[(.int .i64 z12.fN),(.int .i64 z12.fD)])] w₀ fun e w'=>e = .returned (.tuple #[(.agg #[(.int .i64 r.1.fN),(.int .i64 r.1.fD)]),(.int .i64 r.2)]) ∧ Hp [] w₀ w' []:=by
 unfold m_rat_doc at h
 refine Calls.ofWC (vs:=[(.string ⟨#[43]⟩),(.agg #[(.int .i64 z11.fN),(.int .i64 z11.fD)]),(.agg #[(.int .i64 z12.fN),(.int .i64 z12.fD)])]) (pre:=[]) (env:=[(0,(.string ⟨#[43]⟩)),(1,(.agg #[(.int .i64 z11.fN),(.int .i64 z11.fD)])),(2,(.agg #[(.int .i64 z12.fN),(.int .i64 z12.fD)]))]) Tryz.func53 rfl Tryz.ntmps53 rfl (Hp.nil w₀ _) rfl ?_
 refine WC.b ?_
 refine WC.a ?_
 refine WL.new (dd:=4) rfl rfl rfl (e_box (cs:=[(.int .i64 z11.fN),(.int .i64 z11.fD)]) rfl rfl) ?_
 intro zF _
 refine WL.new (dd:=5) rfl rfl rfl (e_box (cs:=[(.int .i64 z12.fN),(.int .i64 z12.fD)]) rfl rfl) ?_
 intro zG _
 refine WL.new (dd:=6) rfl rfl rfl (e_alloc (cs:=[(.int .i64 0),(.int .i64 0)]) zeroT_40 rfl) ?_
 intro z4i _
 refine WL.a (d:=7) rfl rfl rfl (q_z rfl) ?_
 refine WL.nil ?_
 refine WX.a ?_
 refine WC.b ?_
 refine WC.b ?_
 obtain ⟨zhD,zw9,h⟩:=z8 h
 obtain ⟨zfE,zqg,h⟩:=z8 h
 refine WC.a ?_
 refine WL.a (d:=9) rfl rfl rfl (q_loadA (cs:=[(.int .i64 z11.fN),(.int .i64 z11.fD)]) aggT_40 rfl rfl (rd_all .h2)) ?_
 refine WL.b (dd:=10) rfl rfl rfl (zi (l:=[.tmp 9]) Tryz.call44 (.cons rfl .nil)) (.nil : Sel [stb z4i 40 [(.int .i64 0),(.int .i64 0)],stb zG 40 [(.int .i64 z12.fN),(.int .i64 z12.fD)],stb zF 40 [(.int .i64 z11.fN),(.int .i64 z11.fD)]] [] [stb z4i 40 [(.int .i64 0),(.int .i64 0)],stb zG 40 [(.int .i64 z12.fN),(.int .i64 z12.fD)],stb zF 40 [(.int .i64 z11.fN),(.int .i64 z11.fD)]]) (fun w hw=>by have pz:=(hz.call hw (.nil : Sel [stb z4i 40 [(.int .i64 0),(.int .i64 0)],stb zG 40 [(.int .i64 z12.fN),(.int .i64 z12.fD)],stb zF 40 [(.int .i64 z11.fN),(.int .i64 z11.fD)]] [] [stb z4i 40 [(.int .i64 0),(.int .i64 0)],stb zG 40 [(.int .i64 z12.fN),(.int .i64 z12.fD)],stb zF 40 [(.int .i64 z11.fN),(.int .i64 z11.fD)]])); exact w_rat_Valid (Z:=_)  (z18:=z11) (r:=zhD) w pz  zw9) ?_
 refine WL.a (d:=11) rfl rfl rfl (q_not rfl) ?_
 refine WL.a (d:=12) rfl rfl rfl (q_m rfl) ?_
 refine WL.cut0 True [(0,(.string ⟨#[43]⟩)),(4,(.pointer (some ⟨zF,0,none⟩))),(5,(.pointer (some ⟨zG,0,none⟩))),(6,(.pointer (some ⟨z4i,0,none⟩))),(16,(.bool zfE))] [stb z4i 40 [(.int .i64 0),(.int .i64 0)],stb zG 40 [(.int .i64 z12.fN),(.int .i64 z12.fD)],stb zF 40 [(.int .i64 z11.fN),(.int .i64 z11.fD)]] 4 ?_ (fun _=>?_)
 ·rcases Bool.eq_false_or_eq_true (!zhD) with hb' | hb'
  ·have zqh:=hb'; clear hb'
   have zkP:=ite_t zqg zqh
   replace zkP:=Option.some.inj zkP
   refine WL.pin (i:=12) rfl zqh ?_
   refine WL.e rfl rfl rfl ?_
   refine WL.e rfl rfl rfl ?_
   refine WL.e rfl rfl rfl ?_
   refine WL.a (d:=16) rfl rfl rfl (q_pickT rfl rfl) ?_
   exact WL.cutEnd () trivial (.cons rfl (.cons rfl (.cons rfl (.cons rfl (.cons (zf zkP) .nil))))) (.cons .here (.cons .here (.cons .here .nil)))
  ·have zqi:=hb'; clear hb'
   have zfF:=ite_f zqg zqi
   obtain ⟨zkO,zwa,zfF⟩:=z8 zfF
   replace zfF:=Option.some.inj zfF
   refine WL.pin (i:=12) rfl zqi ?_
   refine WL.a (d:=13) rfl rfl rfl (q_loadA (cs:=[(.int .i64 z12.fN),(.int .i64 z12.fD)]) aggT_40 rfl rfl (rd_all .h1)) ?_
   refine WL.b (dd:=14) rfl rfl rfl (zi (l:=[.tmp 13]) Tryz.call44 (.cons rfl .nil)) (.nil : Sel [stb z4i 40 [(.int .i64 0),(.int .i64 0)],stb zG 40 [(.int .i64 z12.fN),(.int .i64 z12.fD)],stb zF 40 [(.int .i64 z11.fN),(.int .i64 z11.fD)]] [] [stb z4i 40 [(.int .i64 0),(.int .i64 0)],stb zG 40 [(.int .i64 z12.fN),(.int .i64 z12.fD)],stb zF 40 [(.int .i64 z11.fN),(.int .i64 z11.fD)]]) (fun w hw=>by have pz:=(hz.call hw (.nil : Sel [stb z4i 40 [(.int .i64 0),(.int .i64 0)],stb zG 40 [(.int .i64 z12.fN),(.int .i64 z12.fD)],stb zF 40 [(.int .i64 z11.fN),(.int .i64 z11.fD)]] [] [stb z4i 40 [(.int .i64 0),(.int .i64 0)],stb zG 40 [(.int .i64 z12.fN),(.int .i64 z12.fD)],stb zF 40 [(.int .i64 z11.fN),(.int .i64 z11.fD)]])); exact w_rat_Valid (Z:=_)  (z18:=z12) (r:=zkO) w pz  zwa) ?_
   refine WL.a (d:=15) rfl rfl rfl (q_not rfl) ?_
   refine WL.a (d:=16) rfl rfl rfl (q_pickF rfl rfl) ?_
   exact WL.cutEnd () trivial (.cons rfl (.cons rfl (.cons rfl (.cons rfl (.cons (zf zfF) .nil))))) (.cons .here (.cons .here (.cons .here .nil)))
 ·skip
  refine WL.a (d:=17) rfl rfl rfl (q_m rfl) ?_
  refine WL.cut0 True [(0,(.string ⟨#[43]⟩)),(4,(.pointer (some ⟨zF,0,none⟩))),(5,(.pointer (some ⟨zG,0,none⟩))),(6,(.pointer (some ⟨z4i,0,none⟩))),(25,(.bool zfE))] [stb z4i 40 [(.int .i64 0),(.int .i64 0)],stb zG 40 [(.int .i64 z12.fN),(.int .i64 z12.fD)],stb zF 40 [(.int .i64 z11.fN),(.int .i64 z11.fD)]] 8 ?_ (fun _=>?_)
  ·rcases Bool.eq_false_or_eq_true zfE with hb' | hb'
   ·have zqj:=hb'; clear hb'
    refine WL.pin (i:=17) rfl zqj ?_
    refine WL.e rfl rfl rfl ?_
    refine WL.e rfl rfl rfl ?_
    refine WL.e rfl rfl rfl ?_
    refine WL.e rfl rfl rfl ?_
    refine WL.e rfl rfl rfl ?_
    refine WL.e rfl rfl rfl ?_
    refine WL.e rfl rfl rfl ?_
    refine WL.a (d:=25) rfl rfl rfl (q_pickT rfl rfl) ?_
    exact WL.cutEnd () trivial (.cons rfl (.cons rfl (.cons rfl (.cons rfl (.cons (zf (Eq.symm zqj)) .nil))))) (.cons .here (.cons .here (.cons .here .nil)))
   ·have zqk:=hb'; clear hb'
    refine WL.pin (i:=17) rfl zqk ?_
    refine WL.a (d:=18) rfl rfl rfl (q_m rfl) ?_
    refine WL.a (d:=19) rfl rfl rfl (q_seqlC (r:=false) (by decide) rfl rfl) ?_
    refine WL.a (d:=20) rfl rfl rfl (q_m rfl) ?_
    refine WL.e rfl rfl rfl ?_
    refine WL.e rfl rfl rfl ?_
    refine WL.e rfl rfl rfl ?_
    refine WL.a (d:=24) rfl rfl rfl (q_pickF rfl rfl) ?_
    refine WL.a (d:=25) rfl rfl rfl (q_pickF rfl rfl) ?_
    exact WL.cutEnd () trivial (.cons rfl (.cons rfl (.cons rfl (.cons rfl (.cons (zf (Eq.symm zqk)) .nil))))) (.cons .here (.cons .here (.cons .here .nil)))
  ·skip
   refine WL.nil ?_
   refine WX.a ?_
   refine WC.cond rfl (fun zkQ=>?_) (fun zkQ=>?_)
   ·replace h:=ite_t h zkQ
    refine WC.b ?_
    refine WC.a ?_
    refine WL.a (d:=26) rfl rfl rfl (q_build (v:=(.agg #[(.int .i64 0),(.int .i64 0)])) (Eos.parts (l:=[]) .nil []) (fun _=>by kernel_rfl)) ?_
    refine WL.eff0 rfl rfl (e_store (vs:=[(.int .i64 0),(.int .i64 0)]) (ds:=[(.int .i64 0),(.int .i64 0)]) sizT_40 rfl rfl rfl rfl (oc_cons rfl (oc_cons rfl oc_nil)) .here (Nat.le_of_ble_eq_true rfl) rfl) ?_
    refine WL.a (d:=7) rfl rfl rfl (q_z rfl) ?_
    refine WL.nil ?_
    refine WX.a ?_
    refine WC.ret ?_
    refine WX.thenRet ?_
    obtain rfl:=Option.some.inj h
    refine WX.bpRet Tryz.results53 (.agg rfl aggT_40 rfl (rd_all .here) (.tmp rfl .nil)) (fun w hw=>?_)
    exact ⟨ret2 rfl rfl,hw.sub .nil⟩
   ·replace h:=ite_f h zkQ
    refine WC.skip ?_
    refine WX.a ?_
    refine WC.b ?_
    refine WC.a ?_
    refine WL.new (dd:=27) rfl rfl rfl (e_makeMap Value.string (fun x=>x)) ?_
    intro z7C _
    refine WL.a (d:=28) rfl rfl rfl (q_makeFunc (Eos.caps (l:=[.tmp 4,.tmp 5]) (.cons rfl (.cons rfl .nil)))) ?_
    refine WL.eff0 rfl rfl (e_insert (k:=⟨#[43]⟩) (v:=(.func (.func 69) #[] #[(.pointer (some ⟨zF,0,none⟩)),(.pointer (some ⟨zG,0,none⟩))])) keyT_9 Tryz.underlying106 rfl rfl rfl rfl .here) ?_
    refine WL.a (d:=29) rfl rfl rfl (q_makeFunc (Eos.caps (l:=[.tmp 4,.tmp 5]) (.cons rfl (.cons rfl .nil)))) ?_
    refine WL.eff0 rfl rfl (e_insert (k:=⟨#[45]⟩) (v:=(.func (.func 70) #[] #[(.pointer (some ⟨zF,0,none⟩)),(.pointer (some ⟨zG,0,none⟩))])) keyT_9 Tryz.underlying106 rfl rfl rfl rfl .here) ?_
    refine WL.a (d:=30) rfl rfl rfl (q_makeFunc (Eos.caps (l:=[.tmp 4,.tmp 5]) (.cons rfl (.cons rfl .nil)))) ?_
    refine WL.eff0 rfl rfl (e_insert (k:=⟨#[42]⟩) (v:=(.func (.func 71) #[] #[(.pointer (some ⟨zF,0,none⟩)),(.pointer (some ⟨zG,0,none⟩))])) keyT_9 Tryz.underlying106 rfl rfl rfl rfl .here) ?_
    refine WL.a (d:=31) rfl rfl rfl (q_makeFunc (Eos.caps (l:=[.tmp 4,.tmp 5]) (.cons rfl (.cons rfl .nil)))) ?_
    refine WL.eff0 rfl rfl (e_insert (k:=⟨#[47]⟩) (v:=(.func (.func 72) #[] #[(.pointer (some ⟨zF,0,none⟩)),(.pointer (some ⟨zG,0,none⟩))])) keyT_9 Tryz.underlying106 rfl rfl rfl rfl .here) ?_
    refine WL.a (d:=32) rfl rfl rfl (q_m rfl) ?_
    refine WL.a (d:=8) rfl rfl rfl (q_z rfl) ?_
    refine WL.nil ?_
    refine WX.a ?_
    refine WC.b ?_
    obtain ⟨zeg,zwb,h⟩:=z8 h
    obtain ⟨zbz,zwc,h⟩:=z8 h
    refine WC.a ?_
    refine WL.a (d:=33) rfl rfl rfl (q_m rfl) ?_
    refine WL.a (d:=34) rfl rfl rfl (q_m rfl) ?_
    refine WL.a (d:=35) rfl rfl rfl (q_lookC (k:=⟨#[43]⟩) (dflt:=.nilFunc) (r:=(.func (.func 69) #[] #[(.pointer (some ⟨zF,0,none⟩)),(.pointer (some ⟨zG,0,none⟩))])) keyT_9 Tryz.underlying106 zgZ rfl rfl rfl .here (by rfl)) ?_
    refine WL.b (dd:=36) rfl rfl rfl (run_callv (l:=[]) Tryz.call69 rfl .nil) (.nil : Sel [mapA z7C Value.string (fun x=>x) [(⟨#[43]⟩,(.func (.func 69) #[] #[(.pointer (some ⟨zF,0,none⟩)),(.pointer (some ⟨zG,0,none⟩))])),(⟨#[45]⟩,(.func (.func 70) #[] #[(.pointer (some ⟨zF,0,none⟩)),(.pointer (some ⟨zG,0,none⟩))])),(⟨#[42]⟩,(.func (.func 71) #[] #[(.pointer (some ⟨zF,0,none⟩)),(.pointer (some ⟨zG,0,none⟩))])),(⟨#[47]⟩,(.func (.func 72) #[] #[(.pointer (some ⟨zF,0,none⟩)),(.pointer (some ⟨zG,0,none⟩))]))],stb z4i 40 [(.int .i64 0),(.int .i64 0)],stb zG 40 [(.int .i64 z12.fN),(.int .i64 z12.fD)],stb zF 40 [(.int .i64 z11.fN),(.int .i64 z11.fD)]] [] [mapA z7C Value.string (fun x=>x) [(⟨#[43]⟩,(.func (.func 69) #[] #[(.pointer (some ⟨zF,0,none⟩)),(.pointer (some ⟨zG,0,none⟩))])),(⟨#[45]⟩,(.func (.func 70) #[] #[(.pointer (some ⟨zF,0,none⟩)),(.pointer (some ⟨zG,0,none⟩))])),(⟨#[42]⟩,(.func (.func 71) #[] #[(.pointer (some ⟨zF,0,none⟩)),(.pointer (some ⟨zG,0,none⟩))])),(⟨#[47]⟩,(.func (.func 72) #[] #[(.pointer (some ⟨zF,0,none⟩)),(.pointer (some ⟨zG,0,none⟩))]))],stb z4i 40 [(.int .i64 0),(.int .i64 0)],stb zG 40 [(.int .i64 z12.fN),(.int .i64 z12.fD)],stb zF 40 [(.int .i64 z11.fN),(.int .i64 z11.fD)]]) (fun w hw=>by have pz:=(hz.call hw (.nil : Sel [mapA z7C Value.string (fun x=>x) [(⟨#[43]⟩,(.func (.func 69) #[] #[(.pointer (some ⟨zF,0,none⟩)),(.pointer (some ⟨zG,0,none⟩))])),(⟨#[45]⟩,(.func (.func 70) #[] #[(.pointer (some ⟨zF,0,none⟩)),(.pointer (some ⟨zG,0,none⟩))])),(⟨#[42]⟩,(.func (.func 71) #[] #[(.pointer (some ⟨zF,0,none⟩)),(.pointer (some ⟨zG,0,none⟩))])),(⟨#[47]⟩,(.func (.func 72) #[] #[(.pointer (some ⟨zF,0,none⟩)),(.pointer (some ⟨zG,0,none⟩))]))],stb z4i 40 [(.int .i64 0),(.int .i64 0)],stb zG 40 [(.int .i64 z12.fN),(.int .i64 z12.fD)],stb zF 40 [(.int .i64 z11.fN),(.int .i64 z11.fD)]] [] [mapA z7C Value.string (fun x=>x) [(⟨#[43]⟩,(.func (.func 69) #[] #[(.pointer (some ⟨zF,0,none⟩)),(.pointer (some ⟨zG,0,none⟩))])),(⟨#[45]⟩,(.func (.func 70) #[] #[(.pointer (some ⟨zF,0,none⟩)),(.pointer (some ⟨zG,0,none⟩))])),(⟨#[42]⟩,(.func (.func 71) #[] #[(.pointer (some ⟨zF,0,none⟩)),(.pointer (some ⟨zG,0,none⟩))])),(⟨#[47]⟩,(.func (.func 72) #[] #[(.pointer (some ⟨zF,0,none⟩)),(.pointer (some ⟨zG,0,none⟩))]))],stb z4i 40 [(.int .i64 0),(.int .i64 0)],stb zG 40 [(.int .i64 z12.fN),(.int .i64 z12.fD)],stb zF 40 [(.int .i64 z11.fN),(.int .i64 z11.fD)]])).lend hw (.nil : Sel [mapA z7C Value.string (fun x=>x) [(⟨#[43]⟩,(.func (.func 69) #[] #[(.pointer (some ⟨zF,0,none⟩)),(.pointer (some ⟨zG,0,none⟩))])),(⟨#[45]⟩,(.func (.func 70) #[] #[(.pointer (some ⟨zF,0,none⟩)),(.pointer (some ⟨zG,0,none⟩))])),(⟨#[42]⟩,(.func (.func 71) #[] #[(.pointer (some ⟨zF,0,none⟩)),(.pointer (some ⟨zG,0,none⟩))])),(⟨#[47]⟩,(.func (.func 72) #[] #[(.pointer (some ⟨zF,0,none⟩)),(.pointer (some ⟨zG,0,none⟩))]))],stb z4i 40 [(.int .i64 0),(.int .i64 0)],stb zG 40 [(.int .i64 z12.fN),(.int .i64 z12.fD)],stb zF 40 [(.int .i64 z11.fN),(.int .i64 z11.fD)]] [] [mapA z7C Value.string (fun x=>x) [(⟨#[43]⟩,(.func (.func 69) #[] #[(.pointer (some ⟨zF,0,none⟩)),(.pointer (some ⟨zG,0,none⟩))])),(⟨#[45]⟩,(.func (.func 70) #[] #[(.pointer (some ⟨zF,0,none⟩)),(.pointer (some ⟨zG,0,none⟩))])),(⟨#[42]⟩,(.func (.func 71) #[] #[(.pointer (some ⟨zF,0,none⟩)),(.pointer (some ⟨zG,0,none⟩))])),(⟨#[47]⟩,(.func (.func 72) #[] #[(.pointer (some ⟨zF,0,none⟩)),(.pointer (some ⟨zG,0,none⟩))]))],stb z4i 40 [(.int .i64 0),(.int .i64 0)],stb zG 40 [(.int .i64 z12.fN),(.int .i64 z12.fD)],stb zF 40 [(.int .i64 z11.fN),(.int .i64 z11.fD)]]) (B:=[stb zF 40 [(.int .i64 z11.fN),(.int .i64 z11.fD)],stb zG 40 [(.int .i64 z12.fN),(.int .i64 z12.fD)]]) (fun _ hx'=>((.cons .h3 (.cons .h2 .nil)) : Sel _ [stb zF 40 [(.int .i64 z11.fN),(.int .i64 z11.fD)],stb zG 40 [(.int .i64 z12.fN),(.int .i64 z12.fD)]] _).mem hx'); exact w_rat_do_1 (Z:=_) (zfC:=⟨zF,0,none⟩) (zfD:=⟨zG,0,none⟩) (zbx:=z11) (zby:=z12) (r:=zeg) w pz ((hw.lent (.nil : Sel [mapA z7C Value.string (fun x=>x) [(⟨#[43]⟩,(.func (.func 69) #[] #[(.pointer (some ⟨zF,0,none⟩)),(.pointer (some ⟨zG,0,none⟩))])),(⟨#[45]⟩,(.func (.func 70) #[] #[(.pointer (some ⟨zF,0,none⟩)),(.pointer (some ⟨zG,0,none⟩))])),(⟨#[42]⟩,(.func (.func 71) #[] #[(.pointer (some ⟨zF,0,none⟩)),(.pointer (some ⟨zG,0,none⟩))])),(⟨#[47]⟩,(.func (.func 72) #[] #[(.pointer (some ⟨zF,0,none⟩)),(.pointer (some ⟨zG,0,none⟩))]))],stb z4i 40 [(.int .i64 0),(.int .i64 0)],stb zG 40 [(.int .i64 z12.fN),(.int .i64 z12.fD)],stb zF 40 [(.int .i64 z11.fN),(.int .i64 z11.fD)]] [] [mapA z7C Value.string (fun x=>x) [(⟨#[43]⟩,(.func (.func 69) #[] #[(.pointer (some ⟨zF,0,none⟩)),(.pointer (some ⟨zG,0,none⟩))])),(⟨#[45]⟩,(.func (.func 70) #[] #[(.pointer (some ⟨zF,0,none⟩)),(.pointer (some ⟨zG,0,none⟩))])),(⟨#[42]⟩,(.func (.func 71) #[] #[(.pointer (some ⟨zF,0,none⟩)),(.pointer (some ⟨zG,0,none⟩))])),(⟨#[47]⟩,(.func (.func 72) #[] #[(.pointer (some ⟨zF,0,none⟩)),(.pointer (some ⟨zG,0,none⟩))]))],stb z4i 40 [(.int .i64 0),(.int .i64 0)],stb zG 40 [(.int .i64 z12.fN),(.int .i64 z12.fD)],stb zF 40 [(.int .i64 z11.fN),(.int .i64 z11.fD)]]) (B:=[stb zF 40 [(.int .i64 z11.fN),(.int .i64 z11.fD)],stb zG 40 [(.int .i64 z12.fN),(.int .i64 z12.fD)]]) (fun _ hx'=>((.cons .h3 (.cons .h2 .nil)) : Sel _ [stb zF 40 [(.int .i64 z11.fN),(.int .i64 z11.fD)],stb zG 40 [(.int .i64 z12.fN),(.int .i64 z12.fD)]] _).mem hx') (.head _) _).stb) ((hw.lent (.nil : Sel [mapA z7C Value.string (fun x=>x) [(⟨#[43]⟩,(.func (.func 69) #[] #[(.pointer (some ⟨zF,0,none⟩)),(.pointer (some ⟨zG,0,none⟩))])),(⟨#[45]⟩,(.func (.func 70) #[] #[(.pointer (some ⟨zF,0,none⟩)),(.pointer (some ⟨zG,0,none⟩))])),(⟨#[42]⟩,(.func (.func 71) #[] #[(.pointer (some ⟨zF,0,none⟩)),(.pointer (some ⟨zG,0,none⟩))])),(⟨#[47]⟩,(.func (.func 72) #[] #[(.pointer (some ⟨zF,0,none⟩)),(.pointer (some ⟨zG,0,none⟩))]))],stb z4i 40 [(.int .i64 0),(.int .i64 0)],stb zG 40 [(.int .i64 z12.fN),(.int .i64 z12.fD)],stb zF 40 [(.int .i64 z11.fN),(.int .i64 z11.fD)]] [] [mapA z7C Value.string (fun x=>x) [(⟨#[43]⟩,(.func (.func 69) #[] #[(.pointer (some ⟨zF,0,none⟩)),(.pointer (some ⟨zG,0,none⟩))])),(⟨#[45]⟩,(.func (.func 70) #[] #[(.pointer (some ⟨zF,0,none⟩)),(.pointer (some ⟨zG,0,none⟩))])),(⟨#[42]⟩,(.func (.func 71) #[] #[(.pointer (some ⟨zF,0,none⟩)),(.pointer (some ⟨zG,0,none⟩))])),(⟨#[47]⟩,(.func (.func 72) #[] #[(.pointer (some ⟨zF,0,none⟩)),(.pointer (some ⟨zG,0,none⟩))]))],stb z4i 40 [(.int .i64 0),(.int .i64 0)],stb zG 40 [(.int .i64 z12.fN),(.int .i64 z12.fD)],stb zF 40 [(.int .i64 z11.fN),(.int .i64 z11.fD)]]) (B:=[stb zF 40 [(.int .i64 z11.fN),(.int .i64 z11.fD)],stb zG 40 [(.int .i64 z12.fN),(.int .i64 z12.fD)]]) (fun _ hx'=>((.cons .h3 (.cons .h2 .nil)) : Sel _ [stb zF 40 [(.int .i64 z11.fN),(.int .i64 z11.fD)],stb zG 40 [(.int .i64 z12.fN),(.int .i64 z12.fD)]] _).mem hx') (.tail _ (.head _)) _).stb) zwb) ?_
    refine WL.a (d:=37) rfl rfl rfl (q_extract rfl rfl) ?_
    refine WL.a (d:=38) rfl rfl rfl (q_extract rfl rfl) ?_
    refine WL.b (dd:=39) rfl rfl rfl (zi (l:=[.tmp 37,.tmp 38]) Tryz.call73 (.cons rfl (.cons rfl .nil))) (.nil : Sel [mapA z7C Value.string (fun x=>x) [(⟨#[43]⟩,(.func (.func 69) #[] #[(.pointer (some ⟨zF,0,none⟩)),(.pointer (some ⟨zG,0,none⟩))])),(⟨#[45]⟩,(.func (.func 70) #[] #[(.pointer (some ⟨zF,0,none⟩)),(.pointer (some ⟨zG,0,none⟩))])),(⟨#[42]⟩,(.func (.func 71) #[] #[(.pointer (some ⟨zF,0,none⟩)),(.pointer (some ⟨zG,0,none⟩))])),(⟨#[47]⟩,(.func (.func 72) #[] #[(.pointer (some ⟨zF,0,none⟩)),(.pointer (some ⟨zG,0,none⟩))]))],stb z4i 40 [(.int .i64 0),(.int .i64 0)],stb zG 40 [(.int .i64 z12.fN),(.int .i64 z12.fD)],stb zF 40 [(.int .i64 z11.fN),(.int .i64 z11.fD)]] [] [mapA z7C Value.string (fun x=>x) [(⟨#[43]⟩,(.func (.func 69) #[] #[(.pointer (some ⟨zF,0,none⟩)),(.pointer (some ⟨zG,0,none⟩))])),(⟨#[45]⟩,(.func (.func 70) #[] #[(.pointer (some ⟨zF,0,none⟩)),(.pointer (some ⟨zG,0,none⟩))])),(⟨#[42]⟩,(.func (.func 71) #[] #[(.pointer (some ⟨zF,0,none⟩)),(.pointer (some ⟨zG,0,none⟩))])),(⟨#[47]⟩,(.func (.func 72) #[] #[(.pointer (some ⟨zF,0,none⟩)),(.pointer (some ⟨zG,0,none⟩))]))],stb z4i 40 [(.int .i64 0),(.int .i64 0)],stb zG 40 [(.int .i64 z12.fN),(.int .i64 z12.fD)],stb zF 40 [(.int .i64 z11.fN),(.int .i64 z11.fD)]]) (fun w hw=>by have pz:=(hz.call hw (.nil : Sel [mapA z7C Value.string (fun x=>x) [(⟨#[43]⟩,(.func (.func 69) #[] #[(.pointer (some ⟨zF,0,none⟩)),(.pointer (some ⟨zG,0,none⟩))])),(⟨#[45]⟩,(.func (.func 70) #[] #[(.pointer (some ⟨zF,0,none⟩)),(.pointer (some ⟨zG,0,none⟩))])),(⟨#[42]⟩,(.func (.func 71) #[] #[(.pointer (some ⟨zF,0,none⟩)),(.pointer (some ⟨zG,0,none⟩))])),(⟨#[47]⟩,(.func (.func 72) #[] #[(.pointer (some ⟨zF,0,none⟩)),(.pointer (some ⟨zG,0,none⟩))]))],stb z4i 40 [(.int .i64 0),(.int .i64 0)],stb zG 40 [(.int .i64 z12.fN),(.int .i64 z12.fD)],stb zF 40 [(.int .i64 z11.fN),(.int .i64 z11.fD)]] [] [mapA z7C Value.string (fun x=>x) [(⟨#[43]⟩,(.func (.func 69) #[] #[(.pointer (some ⟨zF,0,none⟩)),(.pointer (some ⟨zG,0,none⟩))])),(⟨#[45]⟩,(.func (.func 70) #[] #[(.pointer (some ⟨zF,0,none⟩)),(.pointer (some ⟨zG,0,none⟩))])),(⟨#[42]⟩,(.func (.func 71) #[] #[(.pointer (some ⟨zF,0,none⟩)),(.pointer (some ⟨zG,0,none⟩))])),(⟨#[47]⟩,(.func (.func 72) #[] #[(.pointer (some ⟨zF,0,none⟩)),(.pointer (some ⟨zG,0,none⟩))]))],stb z4i 40 [(.int .i64 0),(.int .i64 0)],stb zG 40 [(.int .i64 z12.fN),(.int .i64 z12.fD)],stb zF 40 [(.int .i64 z11.fN),(.int .i64 z11.fD)]])); exact w_rat_Make (Z:=_)  (z7R:=zeg.1) (z7v:=zeg.2) (r:=zbz) w pz  zwc) ?_
    refine WL.a (d:=40) rfl rfl rfl (q_extract rfl rfl) ?_
    refine WL.a (d:=41) rfl rfl rfl (q_extract rfl rfl) ?_
    refine WL.eff0 rfl rfl (e_store (vs:=[(.int .i64 zbz.1.fN),(.int .i64 zbz.1.fD)]) (ds:=[(.int .i64 zbz.1.fN),(.int .i64 zbz.1.fD)]) sizT_40 rfl rfl rfl rfl (oc_cons rfl (oc_cons rfl oc_nil)) .h1 (Nat.le_of_ble_eq_true rfl) rfl) ?_
    refine WL.a (d:=7) rfl rfl rfl (q_z rfl) ?_
    refine WL.nil ?_
    refine WX.a ?_
    refine WC.ret ?_
    obtain rfl:=Option.some.inj h
    refine WX.bpRet Tryz.results53 (.agg rfl aggT_40 rfl (rd_all .here) (.tmp rfl .nil)) (fun w hw=>?_)
    exact ⟨ret2 rfl rfl,hw.sub .nil⟩
def m_rat_Add (z44 : z2) (z47 : z2) : Option (z2 × Int) :=
 (m_rat_doc z44 z47).bind fun zbA=>some (zbA.1,zbA.2)
set_option maxRecDepth 20000 in
theorem w_rat_Add (Z : Zp)   (z44 : z2) (z47 : z2) (r : z2 × Int) (w₀ : World) (hz : PZ [] w₀ Z)
  (h : m_rat_Add z44 z47 = some r) :
  Calls Tryz.prog 31 #[(.agg #[(.int .i64 z44.fN),(.int .i64 z44.fD)]),(.agg #[(.int .i64 z47.fN),(.int .i64 z47.fD)])] w₀ fun e w'=>e = .returned (.tuple #[(.agg #[(.int .i64 r.1.fN),(.int .i64 r.1.fD)]),(.int .i64 r.2)]) ∧ Hp [] w₀ w' []:=by
 unfold m_rat_Add at h
 refine Calls.ofWC (vs:=[(.agg #[(.int .i64 z44.fN),(.int .i64 z44.fD)]),(.agg #[(.int .i64 z47.fN),(.int .i64 z47.fD)])]) (pre:=[]) (env:=[(0,(.agg #[(.int .i64 z44.fN),(.int .i64 z44.fD)])),(1,(.agg #[(.int .i64 z47.fN),(.int .i64 z47.fD)]))]) Tryz.func31 rfl Tryz.ntmps31 rfl (Hp.nil w₀ _) rfl ?_
 refine WC.b ?_
 refine WC.a ?_
 refine WL.new (dd:=2) rfl rfl rfl (e_box (cs:=[(.int .i64 z44.fN),(.int .i64 z44.fD)]) rfl rfl) ?_
 intro zhE _
 refine WL.new (dd:=3) rfl rfl rfl (e_box (cs:=[(.int .i64 z47.fN),(.int .i64 z47.fD)]) rfl rfl) ?_
 intro zhF _
 refine WL.new (dd:=4) rfl rfl rfl (e_alloc (cs:=[(.int .i64 0),(.int .i64 0)]) zeroT_40 rfl) ?_
 intro zhG _
 refine WL.a (d:=5) rfl rfl rfl (q_z rfl) ?_
 refine WL.nil ?_
 refine WX.a ?_
 refine WC.b ?_
 obtain ⟨zbA,zwd,h⟩:=z8 h
 refine WC.a ?_
 refine WL.a (d:=6) rfl rfl rfl (q_loadA (cs:=[(.int .i64 z44.fN),(.int .i64 z44.fD)]) aggT_40 rfl rfl (rd_all .h2)) ?_
 refine WL.a (d:=7) rfl rfl rfl (q_loadA (cs:=[(.int .i64 z47.fN),(.int .i64 z47.fD)]) aggT_40 rfl rfl (rd_all .h1)) ?_
 refine WL.b (dd:=8) rfl rfl rfl (zi (l:=[.const (.string ⟨#[43]⟩),.tmp 6,.tmp 7]) Tryz.call53 (.cons rfl (.cons rfl (.cons rfl .nil)))) (.nil : Sel [stb zhG 40 [(.int .i64 0),(.int .i64 0)],stb zhF 40 [(.int .i64 z47.fN),(.int .i64 z47.fD)],stb zhE 40 [(.int .i64 z44.fN),(.int .i64 z44.fD)]] [] [stb zhG 40 [(.int .i64 0),(.int .i64 0)],stb zhF 40 [(.int .i64 z47.fN),(.int .i64 z47.fD)],stb zhE 40 [(.int .i64 z44.fN),(.int .i64 z44.fD)]]) (fun w hw=>by have pz:=(hz.call hw (.nil : Sel [stb zhG 40 [(.int .i64 0),(.int .i64 0)],stb zhF 40 [(.int .i64 z47.fN),(.int .i64 z47.fD)],stb zhE 40 [(.int .i64 z44.fN),(.int .i64 z44.fD)]] [] [stb zhG 40 [(.int .i64 0),(.int .i64 0)],stb zhF 40 [(.int .i64 z47.fN),(.int .i64 z47.fD)],stb zhE 40 [(.int .i64 z44.fN),(.int .i64 z44.fD)]])); exact w_rat_doc (Z:=_)  (z11:=z44) (z12:=z47) (r:=zbA) w pz  zwd) ?_
 refine WL.a (d:=9) rfl rfl rfl (q_extract rfl rfl) ?_
 refine WL.a (d:=10) rfl rfl rfl (q_extract rfl rfl) ?_
 refine WL.eff0 rfl rfl (e_store (vs:=[(.int .i64 zbA.1.fN),(.int .i64 zbA.1.fD)]) (ds:=[(.int .i64 zbA.1.fN),(.int .i64 zbA.1.fD)]) sizT_40 rfl rfl rfl rfl (oc_cons rfl (oc_cons rfl oc_nil)) .here (Nat.le_of_ble_eq_true rfl) rfl) ?_
 refine WL.a (d:=5) rfl rfl rfl (q_z rfl) ?_
 refine WL.nil ?_
 refine WX.a ?_
 refine WC.ret ?_
 obtain rfl:=Option.some.inj h
 refine WX.bpRet Tryz.results31 (.agg rfl aggT_40 rfl (rd_all .here) (.tmp rfl .nil)) (fun w hw=>?_)
 exact ⟨ret2 rfl rfl,hw.sub .nil⟩
def m_calculus_calc_do (z5h : z2c) (z7T : z2 → z2 → Option (z2 × Int)) (z2P : z2) (z2Q : z2) : Option (z2 × z2c) :=
 if decide (z5h.fE ≠ 0) then (m_calculus_zero).bind fun zcL=>some (zcL,z5h) else (z7T z2P z2Q).bind fun z3w=>if decide (z3w.2 ≠ 0) then (m_calculus_zero).bind fun zcM=>some (zcM,(⟨z3w.2⟩ : z2c)) else some (z3w.1,(⟨z3w.2⟩ : z2c))
set_option maxRecDepth 20000 in
theorem w_calculus_calc_do (Z : Zp)  (z4j : Nat) (z6Z : FuncId) (z7D : List Value) (z5h : z2c) (z7T : z2 → z2 → Option (z2 × Int)) (z2P : z2) (z2Q : z2) (r : z2 × z2c) (w₀ : World) (hz : PZ (fps [stb z4j 87 [(.int .i64 z5h.fE)]]) w₀ Z)
  (zwe : ∀ args w,(callFunc z6Z args).run Tryz.prog w = .ok (.enter z6Z args) w)
  (zwf : ∀ w : World,PZ [] w Z → ∀ (x0 : z2) (x1 : z2) (r : z2 × Int),z7T x0 x1 = some r → Calls Tryz.prog z6Z (([(.agg #[(.int .i64 x0.fN),(.int .i64 x0.fD)]),(.agg #[(.int .i64 x1.fN),(.int .i64 x1.fD)])] : List Value) ++ z7D).toArray w fun e w'=>e = .returned (.tuple #[(.agg #[(.int .i64 r.1.fN),(.int .i64 r.1.fD)]),(.int .i64 r.2)]) ∧ Hp [] w w' [])
  (h : m_calculus_calc_do z5h z7T z2P z2Q = some r)
  (hown : Hp (fps [stb z4j 87 [(.int .i64 z5h.fE)]]) w₀ w₀ [stb z4j 87 [(.int .i64 z5h.fE)]]) :
  Calls Tryz.prog 30 #[(.pointer (some ⟨z4j,0,none⟩)),(.func (.func z6Z) #[] (z7D).toArray),(.agg #[(.int .i64 z2P.fN),(.int .i64 z2P.fD)]),(.agg #[(.int .i64 z2Q.fN),(.int .i64 z2Q.fD)])] w₀ fun e w'=>e = .returned (.agg #[(.int .i64 r.1.fN),(.int .i64 r.1.fD)]) ∧ Hp (fps [stb z4j 87 [(.int .i64 z5h.fE)]]) w₀ w' [stb z4j 87 [(.int .i64 r.2.fE)]]:=by
 unfold m_calculus_calc_do at h
 refine Calls.ofWC (vs:=[(.pointer (some ⟨z4j,0,none⟩)),(.func (.func z6Z) #[] (z7D).toArray),(.agg #[(.int .i64 z2P.fN),(.int .i64 z2P.fD)]),(.agg #[(.int .i64 z2Q.fN),(.int .i64 z2Q.fD)])]) (pre:=[stb z4j 87 [(.int .i64 z5h.fE)]]) (env:=[(0,(.pointer (some ⟨z4j,0,none⟩))),(1,(.func (.func z6Z) #[] (z7D).toArray)),(2,(.agg #[(.int .i64 z2P.fN),(.int .i64 z2P.fD)])),(3,(.agg #[(.int .i64 z2Q.fN),(.int .i64 z2Q.fD)]))]) Tryz.func30 rfl Tryz.ntmps30 rfl (hown) rfl ?_
 refine WC.b ?_
 refine WC.a ?_
 refine WL.new (dd:=6) rfl rfl rfl (e_box (cs:=[(.int .i64 z2P.fN),(.int .i64 z2P.fD)]) rfl rfl) ?_
 intro zbB _
 refine WL.new (dd:=7) rfl rfl rfl (e_box (cs:=[(.int .i64 z2Q.fN),(.int .i64 z2Q.fD)]) rfl rfl) ?_
 intro zbC _
 refine WL.new (dd:=8) rfl rfl rfl (e_alloc (cs:=[(.int .i64 0),(.int .i64 0)]) zeroT_40 rfl) ?_
 intro zbD _
 refine WL.nil ?_
 refine WX.a ?_
 refine WC.b ?_
 refine WC.b ?_
 refine WC.a ?_
 refine WL.a (d:=11) rfl rfl rfl (q_m rfl) ?_
 refine WL.a (d:=12) rfl rfl rfl (q_nilCheck rfl) ?_
 refine WL.a (d:=13) rfl rfl rfl (q_fieldAddr fo_87_0 rfl rfl) ?_
 refine WL.a (d:=14) rfl rfl rfl (q_load1 oneT_26 rfl (rd_stb .h3 rfl)) ?_
 refine WL.a (d:=15) rfl rfl rfl (q_neq rfl rfl) ?_
 refine WL.nil ?_
 refine WX.a ?_
 refine WC.cond rfl (fun zkR=>?_) (fun zkR=>?_)
 ·replace h:=ite_t h zkR
  refine WC.b ?_
  obtain ⟨zcL,zwg,h⟩:=z8 h
  refine WC.a ?_
  refine WL.b (dd:=16) rfl rfl rfl (zi (l:=[]) Tryz.call52 .nil) (.nil : Sel [stb zbD 40 [(.int .i64 0),(.int .i64 0)],stb zbC 40 [(.int .i64 z2Q.fN),(.int .i64 z2Q.fD)],stb zbB 40 [(.int .i64 z2P.fN),(.int .i64 z2P.fD)],stb z4j 87 [(.int .i64 z5h.fE)]] [] [stb zbD 40 [(.int .i64 0),(.int .i64 0)],stb zbC 40 [(.int .i64 z2Q.fN),(.int .i64 z2Q.fD)],stb zbB 40 [(.int .i64 z2P.fN),(.int .i64 z2P.fD)],stb z4j 87 [(.int .i64 z5h.fE)]]) (fun w hw=>by have pz:=(hz.call hw (.nil : Sel [stb zbD 40 [(.int .i64 0),(.int .i64 0)],stb zbC 40 [(.int .i64 z2Q.fN),(.int .i64 z2Q.fD)],stb zbB 40 [(.int .i64 z2P.fN),(.int .i64 z2P.fD)],stb z4j 87 [(.int .i64 z5h.fE)]] [] [stb zbD 40 [(.int .i64 0),(.int .i64 0)],stb zbC 40 [(.int .i64 z2Q.fN),(.int .i64 z2Q.fD)],stb zbB 40 [(.int .i64 z2P.fN),(.int .i64 z2P.fD)],stb z4j 87 [(.int .i64 z5h.fE)]])); exact w_calculus_zero (Z:=_)   (r:=zcL) w pz  zwg) ?_
  refine WL.eff0 rfl rfl (e_store (vs:=[(.int .i64 zcL.fN),(.int .i64 zcL.fD)]) (ds:=[(.int .i64 zcL.fN),(.int .i64 zcL.fD)]) sizT_40 rfl rfl rfl rfl (oc_cons rfl (oc_cons rfl oc_nil)) .here (Nat.le_of_ble_eq_true rfl) rfl) ?_
  refine WL.nil ?_
  refine WX.a ?_
  refine WC.ret ?_
  refine WX.thenRet ?_
  obtain rfl:=Option.some.inj h
  refine WX.bpRet Tryz.results30 (.agg rfl aggT_40 rfl (rd_all .here) .nil) (fun w hw=>?_)
  exact ⟨ret1 rfl,hw.sub (.cons .h3 .nil)⟩
 ·replace h:=ite_f h zkR
  refine WC.skip ?_
  refine WX.a ?_
  refine WC.b ?_
  obtain ⟨z3w,zwh,h⟩:=z8 h
  refine WC.a ?_
  refine WL.a (d:=18) rfl rfl rfl (q_m rfl) ?_
  refine WL.a (d:=19) rfl rfl rfl (q_loadA (cs:=[(.int .i64 z2P.fN),(.int .i64 z2P.fD)]) aggT_40 rfl rfl (rd_all .h2)) ?_
  refine WL.a (d:=20) rfl rfl rfl (q_loadA (cs:=[(.int .i64 z2Q.fN),(.int .i64 z2Q.fD)]) aggT_40 rfl rfl (rd_all .h1)) ?_
  refine WL.b (dd:=21) rfl rfl rfl (run_callv (l:=[.tmp 19,.tmp 20]) (f:=z6Z) (caps:=z7D) zwe rfl (.cons rfl (.cons rfl .nil))) .nil (fun w hw=>zwf w (hz.now hw) z2P z2Q z3w  zwh) ?_
  refine WL.a (d:=17) rfl rfl rfl (q_m rfl) ?_
  refine WL.a (d:=22) rfl rfl rfl (q_extract rfl rfl) ?_
  refine WL.a (d:=23) rfl rfl rfl (q_extract rfl rfl) ?_
  refine WL.new (dd:=9) rfl rfl rfl (e_alloc (cs:=[(.int .i64 0),(.int .i64 0)]) zeroT_40 rfl) ?_
  intro zhH _
  refine WL.eff0 rfl rfl (e_store (vs:=[(.int .i64 z3w.1.fN),(.int .i64 z3w.1.fD)]) (ds:=[(.int .i64 z3w.1.fN),(.int .i64 z3w.1.fD)]) sizT_40 rfl rfl rfl rfl (oc_cons rfl (oc_cons rfl oc_nil)) .here (Nat.le_of_ble_eq_true rfl) rfl) ?_
  refine WL.a (d:=10) rfl rfl rfl (q_z rfl) ?_
  refine WL.nil ?_
  refine WX.a ?_
  refine WC.b ?_
  refine WC.b ?_
  refine WC.a ?_
  refine WL.a (d:=24) rfl rfl rfl (q_m rfl) ?_
  refine WL.a (d:=25) rfl rfl rfl (q_m rfl) ?_
  refine WL.a (d:=26) rfl rfl rfl (q_nilCheck rfl) ?_
  refine WL.a (d:=27) rfl rfl rfl (q_fieldAddr fo_87_0 rfl rfl) ?_
  refine WL.eff0 rfl rfl (e_store (vs:=[(.int .i64 z3w.2)]) (ds:=[(.int .i64 z3w.2)]) sizT_26 rfl rfl rfl rfl (oc_cons rfl oc_nil) .h4 (Nat.le_of_ble_eq_true rfl) rfl) ?_
  refine WL.nil ?_
  refine WX.a ?_
  refine WC.b ?_
  refine WC.a ?_
  refine WL.a (d:=28) rfl rfl rfl (q_m rfl) ?_
  refine WL.a (d:=29) rfl rfl rfl (q_neq rfl rfl) ?_
  refine WL.nil ?_
  refine WX.a ?_
  refine WC.cond rfl (fun zkS=>?_) (fun zkS=>?_)
  ·replace h:=ite_t h zkS
   refine WC.b ?_
   obtain ⟨zcM,zwi,h⟩:=z8 h
   refine WC.a ?_
   refine WL.b (dd:=30) rfl rfl rfl (zi (l:=[]) Tryz.call52 .nil) (.nil : Sel [stb z4j 87 [(.int .i64 z3w.2)],stb zhH 40 [(.int .i64 z3w.1.fN),(.int .i64 z3w.1.fD)],stb zbD 40 [(.int .i64 0),(.int .i64 0)],stb zbC 40 [(.int .i64 z2Q.fN),(.int .i64 z2Q.fD)],stb zbB 40 [(.int .i64 z2P.fN),(.int .i64 z2P.fD)]] [] [stb z4j 87 [(.int .i64 z3w.2)],stb zhH 40 [(.int .i64 z3w.1.fN),(.int .i64 z3w.1.fD)],stb zbD 40 [(.int .i64 0),(.int .i64 0)],stb zbC 40 [(.int .i64 z2Q.fN),(.int .i64 z2Q.fD)],stb zbB 40 [(.int .i64 z2P.fN),(.int .i64 z2P.fD)]]) (fun w hw=>by have pz:=(hz.call hw (.nil : Sel [stb z4j 87 [(.int .i64 z3w.2)],stb zhH 40 [(.int .i64 z3w.1.fN),(.int .i64 z3w.1.fD)],stb zbD 40 [(.int .i64 0),(.int .i64 0)],stb zbC 40 [(.int .i64 z2Q.fN),(.int .i64 z2Q.fD)],stb zbB 40 [(.int .i64 z2P.fN),(.int .i64 z2P.fD)]] [] [stb z4j 87 [(.int .i64 z3w.2)],stb zhH 40 [(.int .i64 z3w.1.fN),(.int .i64 z3w.1.fD)],stb zbD 40 [(.int .i64 0),(.int .i64 0)],stb zbC 40 [(.int .i64 z2Q.fN),(.int .i64 z2Q.fD)],stb zbB 40 [(.int .i64 z2P.fN),(.int .i64 z2P.fD)]])); exact w_calculus_zero (Z:=_)   (r:=zcM) w pz  zwi) ?_
   refine WL.eff0 rfl rfl (e_store (vs:=[(.int .i64 zcM.fN),(.int .i64 zcM.fD)]) (ds:=[(.int .i64 zcM.fN),(.int .i64 zcM.fD)]) sizT_40 rfl rfl rfl rfl (oc_cons rfl (oc_cons rfl oc_nil)) .h2 (Nat.le_of_ble_eq_true rfl) rfl) ?_
   refine WL.nil ?_
   refine WX.a ?_
   refine WC.ret ?_
   refine WX.thenRet ?_
   obtain rfl:=Option.some.inj h
   refine WX.bpRet Tryz.results30 (.agg rfl aggT_40 rfl (rd_all .here) .nil) (fun w hw=>?_)
   exact ⟨ret1 rfl,hw.sub (.cons .h1 .nil)⟩
  ·replace h:=ite_f h zkS
   refine WC.skip ?_
   refine WX.a ?_
   refine WC.b ?_
   refine WC.a ?_
   refine WL.a (d:=31) rfl rfl rfl (q_loadA (cs:=[(.int .i64 z3w.1.fN),(.int .i64 z3w.1.fD)]) aggT_40 rfl rfl (rd_all .h1)) ?_
   refine WL.eff0 rfl rfl (e_store (vs:=[(.int .i64 z3w.1.fN),(.int .i64 z3w.1.fD)]) (ds:=[(.int .i64 z3w.1.fN),(.int .i64 z3w.1.fD)]) sizT_40 rfl rfl rfl rfl (oc_cons rfl (oc_cons rfl oc_nil)) .h2 (Nat.le_of_ble_eq_true rfl) rfl) ?_
   refine WL.nil ?_
   refine WX.a ?_
   refine WC.ret ?_
   obtain rfl:=Option.some.inj h
   refine WX.bpRet Tryz.results30 (.agg rfl aggT_40 rfl (rd_all .here) .nil) (fun w hw=>?_)
   exact ⟨ret1 rfl,hw.sub (.cons .h1 .nil)⟩
end Go.Proofs.YtakfmdiiehcbdaaGreat
