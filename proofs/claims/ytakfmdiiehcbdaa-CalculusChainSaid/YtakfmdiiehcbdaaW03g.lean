/- A part of this claim's proof: models of functions, walks, plain laws. No conditions. -/
import Derived.Test.YtakfmdiiehcbdaaW03f
namespace Go.Proofs.Ytakfmdiiehcbdaa
open Go Go.RowKit Sep
set_option linter.all false
set_option maxRecDepth 30000
set_option maxHeartbeats 4000000
def m_curve_Shift_L2 (zT : List z1) (z24 : z2) (zaO : (List z1) → Int → Option (List z1 × Int)) : Nat → (List z1) → Int → Int → Option (List z1 × Int)
 | 0,_,_,_=>none
 | zmR + 1,z3D,zZ,z5Z=>if decide (zZ < ((zT.length : Nat) : Int)) then chk ((0 : Int) ≤ zZ ∧ zZ < ((zT.length : Nat) : Int)) ((m_curve_calc_value (⟨z5Z⟩ : z2j) (⟨(⟨(((nth zT zZ).fBurst).fN),(((nth zT zZ).fBurst).fD)⟩ : z2),(⟨(((nth zT zZ).fRate).fN),(((nth zT zZ).fRate).fD)⟩ : z2)⟩ : z1) z24).bind fun z8F=>chk ((((z3D ++ ([(⟨z8F.1,(⟨(((nth zT zZ).fRate).fN),(((nth zT zZ).fRate).fD)⟩ : z2)⟩ : z1)] : List z1)).length : Nat) : Int) * 32 ≤ 140737488355328 ∧ (((z3D ++ ([(⟨z8F.1,(⟨(((nth zT zZ).fRate).fN),(((nth zT zZ).fRate).fD)⟩ : z2)⟩ : z1)] : List z1)).length : Nat) : Int) ≤ 4611686018427387904) (m_curve_Shift_L2 zT z24 zaO zmR (z3D ++ ([(⟨z8F.1,(⟨(((nth zT zZ).fRate).fN),(((nth zT zZ).fRate).fD)⟩ : z2)⟩ : z1)] : List z1)) (i64 (zZ + 1)) z8F.2.fE)) else zaO z3D z5Z
theorem m_curve_Shift_L2_fuel {n : Nat} {zT : List z1} {z24 : z2} {zaO : (List z1) → Int → Option (List z1 × Int)} {z3D : List z1} {zZ : Int} {z5Z : Int} {r : List z1 × Int} (h : m_curve_Shift_L2 zT z24 zaO n z3D zZ z5Z = some r) : ∃ m,n = m + 1:=by
 cases n with
 | zero=>cases h
 | succ m=>exact ⟨m,rfl⟩
def m_curve_Shift (zT : List z1) (z24 : z2) : Option (List z1 × Int) :=
 (m_curve_Valid zT).bind fun zid=>(if !zid then some true else (m_curve_good z24).bind fun zmS=>some (!zmS)).bind fun zmT=>if zmT then some (([] : List z1),2) else jp2 (fun (z3j : List z1) (z6U : Int)=>if decide (z6U ≠ 0) then some (([] : List z1),z6U) else (m_curve_norm z3j).bind fun zmU=>some (zmU,0)) fun zaO=>m_curve_Shift_L2 zT z24 zaO FUEL ([] : List z1) 0 0
set_option maxRecDepth 20000 in
theorem w_curve_Shift (Z : Zp)  (zbD : Option Addr) (zbE : Nat) (zT : List z1) (z24 : z2) (r : List z1 × Int) (w₀ : World) (hz : PZ [] w₀ Z)
  (zqM : ZS Z 4 (fun r x=>r = e35 x) zbD zbE zT)
  (h : m_curve_Shift zT z24 = some r) :
  Calls Try.prog 27 #[(.slice zbD zT.length zbE),(.agg #[(.int .i64 z24.fN),(.int .i64 z24.fD)])] w₀ fun e w'=>∃ zqN : Option Addr,∃ zqO : Nat,e = .returned (.tuple #[(.slice zqN r.1.length zqO),(.int .i64 r.2)]) ∧ True ∧ Hp [] w₀ w' [row (.slice zqN r.1.length zqO) 35 4 (r.1.flatMap e35)]:=by
 unfold m_curve_Shift at h
 refine Calls.ofWC (vs:=[(.slice zbD zT.length zbE),(.agg #[(.int .i64 z24.fN),(.int .i64 z24.fD)])]) (pre:=[]) (env:=[(0,(.slice zbD zT.length zbE)),(1,(.agg #[(.int .i64 z24.fN),(.int .i64 z24.fD)]))]) Try.func27 rfl Try.ntmps27 rfl (Hp.nil w₀ _) rfl ?_
 refine WC.b ?_
 refine WC.a ?_
 refine WL.new (dd:=3) rfl rfl rfl (e_box (cs:=[(.int .i64 z24.fN),(.int .i64 z24.fD)]) rfl rfl) ?_
 intro z6v _
 refine WL.a (d:=4) rfl rfl rfl (q_z rfl) ?_
 refine WL.a (d:=5) rfl rfl rfl (q_z rfl) ?_
 refine WL.nil ?_
 refine WX.a ?_
 refine WC.b ?_
 refine WC.b ?_
 obtain ⟨zid,zyx,h⟩:=zd h
 obtain ⟨zmT,zqP,h⟩:=zd h
 refine WC.a ?_
 refine WL.a (d:=10) rfl rfl rfl (q_m rfl) ?_
 refine WL.b (dd:=11) rfl rfl rfl (zk (l:=[.tmp 10]) Try.call30 (.cons rfl .nil)) (.nil : Sel [stb z6v 30 [(.int .i64 z24.fN),(.int .i64 z24.fD)]] [] [stb z6v 30 [(.int .i64 z24.fN),(.int .i64 z24.fD)]]) (fun w hw=>by have pz:=(hz.call hw (.nil : Sel [stb z6v 30 [(.int .i64 z24.fN),(.int .i64 z24.fD)]] [] [stb z6v 30 [(.int .i64 z24.fN),(.int .i64 z24.fD)]])); exact w_curve_Valid (Z:=_) (z8b:=zbD) (z8c:=zbE) (z4Z:=zT) (r:=zid) w pz zqM zyx) ?_
 refine WL.a (d:=12) rfl rfl rfl (q_not rfl) ?_
 refine WL.a (d:=13) rfl rfl rfl (q_m rfl) ?_
 refine WL.cut0 True [(0,(.slice zbD zT.length zbE)),(3,(.pointer (some ⟨z6v,0,none⟩))),(17,(.bool zmT))] [stb z6v 30 [(.int .i64 z24.fN),(.int .i64 z24.fD)]] 4 ?_ (fun _=>?_)
 ·rcases Bool.eq_false_or_eq_true (!zid) with hb' | hb'
  ·have zqQ:=hb'; clear hb'
   have zmV:=ite_t zqP zqQ
   replace zmV:=Option.some.inj zmV
   refine WL.pin (i:=13) rfl zqQ ?_
   refine WL.e rfl rfl rfl ?_
   refine WL.e rfl rfl rfl ?_
   refine WL.e rfl rfl rfl ?_
   refine WL.a (d:=17) rfl rfl rfl (q_pickT rfl rfl) ?_
   exact WL.cutEnd () trivial (.cons rfl (.cons rfl (.cons (zr zmV) .nil))) (.cons .here .nil)
  ·have zqR:=hb'; clear hb'
   have zgc:=ite_f zqP zqR
   obtain ⟨zmS,zyy,zgc⟩:=zd zgc
   replace zgc:=Option.some.inj zgc
   refine WL.pin (i:=13) rfl zqR ?_
   refine WL.a (d:=14) rfl rfl rfl (q_loadA (cs:=[(.int .i64 z24.fN),(.int .i64 z24.fD)]) aggT_30 rfl rfl (rd_all .here)) ?_
   refine WL.b (dd:=15) rfl rfl rfl (zk (l:=[.tmp 14]) Try.call44 (.cons rfl .nil)) (.nil : Sel [stb z6v 30 [(.int .i64 z24.fN),(.int .i64 z24.fD)]] [] [stb z6v 30 [(.int .i64 z24.fN),(.int .i64 z24.fD)]]) (fun w hw=>by have pz:=(hz.call hw (.nil : Sel [stb z6v 30 [(.int .i64 z24.fN),(.int .i64 z24.fD)]] [] [stb z6v 30 [(.int .i64 z24.fN),(.int .i64 z24.fD)]])); exact w_curve_good (Z:=_)  (z3y:=z24) (r:=zmS) w pz  zyy) ?_
   refine WL.a (d:=16) rfl rfl rfl (q_not rfl) ?_
   refine WL.a (d:=17) rfl rfl rfl (q_pickF rfl rfl) ?_
   exact WL.cutEnd () trivial (.cons rfl (.cons rfl (.cons (zr zgc) .nil))) (.cons .here .nil)
 ·skip
  refine WL.nil ?_
  refine WX.a ?_
  refine WC.cond rfl (fun zmW=>?_) (fun zmW=>?_)
  ·replace h:=ite_t h zmW
   refine WC.b ?_
   refine WC.a ?_
   refine WL.a (d:=4) rfl rfl rfl (q_z rfl) ?_
   refine WL.a (d:=5) rfl rfl rfl (q_z rfl) ?_
   refine WL.nil ?_
   refine WX.a ?_
   refine WC.ret ?_
   refine WX.thenRet ?_
   refine WX.nilRow 35 4 ?_
   obtain rfl:=Option.some.inj h
   refine WX.bpRet Try.results27 (.tmp rfl (.tmp rfl .nil)) (fun w hw=>?_)
   exact ⟨none,0,ret2 rfl rfl,trivial,hw.sub (.cons .here .nil)⟩
  ·replace h:=ite_f h zmW
   refine WC.skip ?_
   refine WX.a ?_
   refine WC.b ?_
   refine WC.a ?_
   refine WL.new (dd:=6) rfl rfl rfl (e_alloc (cs:=[(.int .i64 0)]) zeroT_90 rfl) ?_
   intro z60 _
   refine WL.nil ?_
   refine WX.a ?_
   refine WC.b ?_
   refine WC.a ?_
   refine WL.a (d:=7) rfl rfl rfl (q_z rfl) ?_
   refine WL.nil ?_
   refine WX.a ?_
   obtain ⟨zaO,zyz,h⟩:=jp2_elim h
   refine WC.seqMid4 (fun (z3j : List z1) (z6U : Int) (z6w : Option Addr) (z6x : Nat)=>(zaO z3j z6U = some r)) (fun (z3j : List z1) (z6U : Int) (z6w : Option Addr) (z6x : Nat)=>[(6,(.pointer (some ⟨z60,0,none⟩))),(7,(.slice z6w z3j.length z6x))]) (fun (z3j : List z1) (z6U : Int) (z6w : Option Addr) (z6x : Nat)=>[row (.slice z6w z3j.length z6x) 35 4 (z3j.flatMap e35),stb z60 90 [(.int .i64 z6U)]]) ?_ ?_
   ·skip
    refine WC.b ?_
    refine WC.a ?_
    refine WL.a (d:=18) rfl rfl rfl (q_m rfl) ?_
    refine WL.a (d:=19) rfl rfl rfl (q_len Try.underlying39 rfl) ?_
    refine WL.a (d:=20) rfl rfl rfl (q_m rfl) ?_
    refine WL.nil ?_
    refine WX.a ?_
    refine WC.block ?_
    refine WC.nilRow 35 4 ?_
    refine WC.loop6 (fun (zeu : Nat) (z3D : List z1) (zZ : Int) (z5Z : Int) (z88 : Option Addr) (z89 : Nat)=>(m_curve_Shift_L2 zT z24 zaO zeu z3D zZ z5Z = some r)) (fun (zeu : Nat) (z3D : List z1) (zZ : Int) (z5Z : Int) (z88 : Option Addr) (z89 : Nat)=>[(3,(.pointer (some ⟨z6v,0,none⟩))),(6,(.pointer (some ⟨z60,0,none⟩))),(7,(.slice z88 z3D.length z89)),(18,(.slice zbD zT.length zbE)),(19,(.int .i64 ((zT.length : Nat) : Int))),(20,(.int .i64 zZ))]) (fun (zeu : Nat) (z3D : List z1) (zZ : Int) (z5Z : Int) (z88 : Option Addr) (z89 : Nat)=>[row (.slice z88 z3D.length z89) 35 4 (z3D.flatMap e35),stb z6v 30 [(.int .i64 z24.fN),(.int .i64 z24.fD)],stb z60 90 [(.int .i64 z5Z)]]) (fun (zeu : Nat) (z3D : List z1) (zZ : Int) (z5Z : Int) (z88 : Option Addr) (z89 : Nat)=>zeu) ⟨FUEL,([] : List z1),0,0,none,0⟩ h (.cons rfl (.cons rfl (.cons rfl (.cons rfl (.cons rfl (.cons rfl .nil)))))) (.cons .here (.cons .h1 (.cons .here .nil))) ?_
    rintro zeu z3D zZ z5Z z88 z89 h
    obtain ⟨zmR,rfl⟩:=m_curve_Shift_L2_fuel h
    rw [m_curve_Shift_L2] at h
    refine WC.b ?_
    refine WC.a ?_
    refine WL.a (d:=21) rfl rfl rfl (q_lss rfl rfl) ?_
    refine WL.nil ?_
    refine WX.a ?_
    refine WC.b ?_
    refine WC.cond rfl (fun zmX=>?_) (fun zmX=>?_)
    ·replace h:=ite_t h zmX
     refine WC.skip ?_
     refine WX.a ?_
     refine WC.b ?_
     refine WC.block ?_
     refine WC.b ?_
     obtain ⟨zyA,h⟩:=chk_elim h
     refine WC.a ?_
     refine WL.znth (dd:=22) rfl rfl (Z:=Z) (Pr:=(fun r x=>r = e35 x)) elT_39 rfl rfl zqM zyA ?_
     rintro zBH zBI zyB zBJ rfl
     refine WL.a (d:=23) rfl rfl rfl (q_loadA (cs:=[(.int .i64 (((nth zT zZ).fBurst).fN)),(.int .i64 (((nth zT zZ).fBurst).fD)),(.int .i64 (((nth zT zZ).fRate).fN)),(.int .i64 (((nth zT zZ).fRate).fD))]) aggT_35 rfl rfl (rd_zs hz.pv zyB)) ?_
     refine WL.new (dd:=9) rfl rfl rfl (e_alloc (cs:=[(.int .i64 0),(.int .i64 0),(.int .i64 0),(.int .i64 0)]) zeroT_35 rfl) ?_
     intro zd2 _
     refine WL.eff0 rfl rfl (e_store (vs:=[(.int .i64 (((nth zT zZ).fBurst).fN)),(.int .i64 (((nth zT zZ).fBurst).fD)),(.int .i64 (((nth zT zZ).fRate).fN)),(.int .i64 (((nth zT zZ).fRate).fD))]) (ds:=[(.int .i64 (((nth zT zZ).fBurst).fN)),(.int .i64 (((nth zT zZ).fBurst).fD)),(.int .i64 (((nth zT zZ).fRate).fN)),(.int .i64 (((nth zT zZ).fRate).fD))]) sizT_35 rfl rfl rfl rfl (oc_cons rfl (oc_cons rfl (oc_cons rfl (oc_cons rfl oc_nil)))) .here (Nat.le_of_ble_eq_true rfl) rfl) ?_
     refine WL.nil ?_
     refine WX.a ?_
     obtain ⟨z8F,zyC,h⟩:=zd h
     obtain ⟨zyD,h⟩:=chk_elim h
     refine WC.draw (fun i=>[3,8].contains i) [stb zd2 35 [(.int .i64 (((nth zT zZ).fBurst).fN)),(.int .i64 (((nth zT zZ).fBurst).fD)),(.int .i64 (((nth zT zZ).fRate).fN)),(.int .i64 (((nth zT zZ).fRate).fD))]] rfl ?_
     refine WD.a (i:=0) (d:=24) (by kernel_rfl) rfl (z6 (by kernel_rfl)) (z7 (by kernel_rfl)) rfl rfl rfl (fun _=>q_m rfl) ?_
     refine WD.e (i:=1) (d:=25) (by kernel_rfl) rfl (z6 (by kernel_rfl)) (z7 (by kernel_rfl)) rfl rfl rfl (q_loadA (cs:=[(.int .i64 (((nth zT zZ).fBurst).fN)),(.int .i64 (((nth zT zZ).fBurst).fD)),(.int .i64 (((nth zT zZ).fRate).fN)),(.int .i64 (((nth zT zZ).fRate).fD))]) aggT_35 rfl rfl (rd_all .here)) ?_
     refine WD.e (i:=2) (d:=26) (by kernel_rfl) rfl (z6 (by kernel_rfl)) (z7 (by kernel_rfl)) rfl rfl rfl (q_loadA (cs:=[(.int .i64 z24.fN),(.int .i64 z24.fD)]) aggT_30 rfl rfl (rd_all .h2)) ?_
     refine WD.a (i:=4) (d:=28) (by kernel_rfl) rfl (z6 (by kernel_rfl)) (z7 (by kernel_rfl)) rfl rfl rfl (fun _=>q_fieldAddr fo_35_1 rfl rfl) ?_
     refine WD.stable (i:=5) (d:=29) (by kernel_rfl) rfl (z6 (by kernel_rfl)) (z7 (by kernel_rfl)) rfl rfl rfl (Sin.of (.cons .here .nil)) (q_loadA (cs:=[(.int .i64 (((nth zT zZ).fRate).fN)),(.int .i64 (((nth zT zZ).fRate).fD))]) aggT_30 rfl rfl (rd_sub (s:=2) .here rfl)) ?_
     refine WD.call0 (i:=3) (dd:=27) rfl (by kernel_rfl) rfl rfl rfl (.inl ⟨rfl,(Sin.of (.cons .h1 .nil))⟩) (zk (l:=[.tmp 6,.tmp 25,.tmp 26]) Try.call45 (.cons rfl (.cons rfl (.cons rfl .nil)))) ((.cons .h3 .nil) : Sel [stb zd2 35 [(.int .i64 (((nth zT zZ).fBurst).fN)),(.int .i64 (((nth zT zZ).fBurst).fD)),(.int .i64 (((nth zT zZ).fRate).fN)),(.int .i64 (((nth zT zZ).fRate).fD))],row (.slice z88 z3D.length z89) 35 4 (z3D.flatMap e35),stb z6v 30 [(.int .i64 z24.fN),(.int .i64 z24.fD)],stb z60 90 [(.int .i64 z5Z)]] [stb z60 90 [(.int .i64 z5Z)]] [stb zd2 35 [(.int .i64 (((nth zT zZ).fBurst).fN)),(.int .i64 (((nth zT zZ).fBurst).fD)),(.int .i64 (((nth zT zZ).fRate).fN)),(.int .i64 (((nth zT zZ).fRate).fD))],row (.slice z88 z3D.length z89) 35 4 (z3D.flatMap e35),stb z6v 30 [(.int .i64 z24.fN),(.int .i64 z24.fD)]]) (fun w hw=>by have pz:=(hz.call hw ((.cons .h3 .nil) : Sel [stb zd2 35 [(.int .i64 (((nth zT zZ).fBurst).fN)),(.int .i64 (((nth zT zZ).fBurst).fD)),(.int .i64 (((nth zT zZ).fRate).fN)),(.int .i64 (((nth zT zZ).fRate).fD))],row (.slice z88 z3D.length z89) 35 4 (z3D.flatMap e35),stb z6v 30 [(.int .i64 z24.fN),(.int .i64 z24.fD)],stb z60 90 [(.int .i64 z5Z)]] [stb z60 90 [(.int .i64 z5Z)]] [stb zd2 35 [(.int .i64 (((nth zT zZ).fBurst).fN)),(.int .i64 (((nth zT zZ).fBurst).fD)),(.int .i64 (((nth zT zZ).fRate).fN)),(.int .i64 (((nth zT zZ).fRate).fD))],row (.slice z88 z3D.length z89) 35 4 (z3D.flatMap e35),stb z6v 30 [(.int .i64 z24.fN),(.int .i64 z24.fD)]])); exact Calls.mono (w_curve_calc_value (Z:=_) (z4p:=z60) (z6J:=(⟨z5Z⟩ : z2j)) (z10:=(⟨(⟨(((nth zT zZ).fBurst).fN),(((nth zT zZ).fBurst).fD)⟩ : z2),(⟨(((nth zT zZ).fRate).fN),(((nth zT zZ).fRate).fD)⟩ : z2)⟩ : z1)) (z2R:=z24) (r:=z8F) w pz  zyC (hw.owns ((.cons .h3 .nil) : Sel [stb zd2 35 [(.int .i64 (((nth zT zZ).fBurst).fN)),(.int .i64 (((nth zT zZ).fBurst).fD)),(.int .i64 (((nth zT zZ).fRate).fN)),(.int .i64 (((nth zT zZ).fRate).fD))],row (.slice z88 z3D.length z89) 35 4 (z3D.flatMap e35),stb z6v 30 [(.int .i64 z24.fN),(.int .i64 z24.fD)],stb z60 90 [(.int .i64 z5Z)]] [stb z60 90 [(.int .i64 z5Z)]] [stb zd2 35 [(.int .i64 (((nth zT zZ).fBurst).fN)),(.int .i64 (((nth zT zZ).fBurst).fD)),(.int .i64 (((nth zT zZ).fRate).fN)),(.int .i64 (((nth zT zZ).fRate).fD))],row (.slice z88 z3D.length z89) 35 4 (z3D.flatMap e35),stb z6v 30 [(.int .i64 z24.fN),(.int .i64 z24.fD)]]))) (fun _ _ h'=>⟨h'.1,trivial,h'.2⟩)) ?_
     intro _
     refine WD.a (i:=6) (d:=30) (by kernel_rfl) rfl (z6 (by kernel_rfl)) (z7 (by kernel_rfl)) rfl rfl rfl (fun _=>q_build (v:=(.agg #[(.int .i64 z8F.1.fN),(.int .i64 z8F.1.fD),(.int .i64 (((nth zT zZ).fRate).fN)),(.int .i64 (((nth zT zZ).fRate).fD))])) (Eos.parts (l:=[.tmp 27,.tmp 29]) (.cons rfl (.cons rfl .nil)) [0,1]) (fun _=>by kernel_rfl)) ?_
     refine WD.new (i:=7) (dd:=31) rfl (by kernel_rfl) rfl rfl rfl (e_buildSlice (cs:=([(⟨z8F.1,(⟨(((nth zT zZ).fRate).fN),(((nth zT zZ).fRate).fD)⟩ : z2)⟩ : z1)] : List z1).flatMap e35) elT_39 (Eos.parts (l:=[.tmp 30]) (.cons rfl .nil) [0]) (fun _=>by kernel_rfl) rfl (by unfold maxLen; omega)) (fun h'=>absurd h' (by decide)) ?_
     intro zBK _
     refine WD.old (i:=8) (dd:=32) rfl (by kernel_rfl) rfl rfl rfl rfl (fun _=>(Sin.of (.cons .h3 .nil))) (e_appendF (enc:=e35) (l1:=z3D) (l2:=([(⟨z8F.1,(⟨(((nth zT zZ).fRate).fN),(((nth zT zZ).fRate).fD)⟩ : z2)⟩ : z1)] : List z1)) elT_39 rfl rfl .h3 (fun _=>rfl) rfl rfl (news_row .here) (oc_flat e35_oc _) zyD) ?_
     rintro ⟨zyE,zyF⟩ _
     refine WD.a (i:=9) (d:=7) (by kernel_rfl) rfl (z6 (by kernel_rfl)) (z7 (by kernel_rfl)) rfl rfl rfl (fun _=>q_z rfl) ?_
     refine WD.done (by kernel_rfl) ?_
     refine WX.blockNormal ?_
     refine WX.a ?_
     refine WC.a ?_
     refine WL.a (d:=33) rfl rfl rfl (q_add rfl rfl rfl) ?_
     refine WL.a (d:=20) rfl rfl rfl (q_m rfl) ?_
     refine WL.nil ?_
     exact WX.round (G:=Nat × List z1 × Int × Int × Option Addr × Nat) ⟨zmR,(z3D ++ ([(⟨z8F.1,(⟨(((nth zT zZ).fRate).fN),(((nth zT zZ).fRate).fD)⟩ : z2)⟩ : z1)] : List z1)),(i64 (zZ + 1)),z8F.2.fE,zyE,zyF⟩ h (Nat.lt_succ_self _) (.cons rfl (.cons rfl (.cons rfl (.cons rfl (.cons rfl (.cons rfl .nil)))))) (.cons .here (.cons .h3 (.cons .h1 .nil)))
    ·replace h:=ite_f h zmX
     refine WC.exit ?_
     refine WX.thenExit ?_
     refine WX.thenExit ?_
     refine WX.blockHit ?_
     exact WX.mid (G:=List z1 × Int × Option Addr × Nat) ⟨z3D,z5Z,z88,z89⟩ h (.cons rfl (.cons rfl .nil)) (.cons .here (.cons .h1 .nil))
   ·rintro z3j z6U z6w z6x h
    replace h:=(zyz z3j z6U).symm.trans h
    refine WC.b ?_
    refine WC.b ?_
    refine WC.a ?_
    refine WL.a (d:=34) rfl rfl rfl (q_fieldAddr fo_90_0 rfl rfl) ?_
    refine WL.a (d:=35) rfl rfl rfl (q_load1 oneT_31 rfl (rd_stb .h1 rfl)) ?_
    refine WL.a (d:=36) rfl rfl rfl (q_neq rfl rfl) ?_
    refine WL.nil ?_
    refine WX.a ?_
    refine WC.cond rfl (fun zmY=>?_) (fun zmY=>?_)
    ·replace h:=ite_t h zmY
     refine WC.b ?_
     refine WC.draw (fun i=>[].contains i) [] rfl ?_
     refine WD.a (i:=0) (d:=37) (by kernel_rfl) rfl (z6 (by kernel_rfl)) (z7 (by kernel_rfl)) rfl rfl rfl (fun _=>q_fieldAddr fo_90_0 rfl rfl) ?_
     refine WD.e (i:=1) (d:=38) (by kernel_rfl) rfl (z6 (by kernel_rfl)) (z7 (by kernel_rfl)) rfl rfl rfl (q_load1 oneT_31 rfl (rd_stb .h1 rfl)) ?_
     refine WD.a (i:=2) (d:=4) (by kernel_rfl) rfl (z6 (by kernel_rfl)) (z7 (by kernel_rfl)) rfl rfl rfl (fun _=>q_z rfl) ?_
     refine WD.a (i:=3) (d:=5) (by kernel_rfl) rfl (z6 (by kernel_rfl)) (z7 (by kernel_rfl)) rfl rfl rfl (fun _=>q_z rfl) ?_
     refine WD.done (by kernel_rfl) ?_
     refine WX.a ?_
     refine WC.ret ?_
     refine WX.thenRet ?_
     refine WX.nilRow 35 4 ?_
     obtain rfl:=Option.some.inj h
     refine WX.bpRet Try.results27 (.tmp rfl (.tmp rfl .nil)) (fun w hw=>?_)
     exact ⟨none,0,ret2 rfl rfl,trivial,hw.sub (.cons .here .nil)⟩
    ·replace h:=ite_f h zmY
     refine WC.skip ?_
     refine WX.a ?_
     refine WC.b ?_
     obtain ⟨zmU,zyG,h⟩:=zd h
     refine WC.a ?_
     refine WL.a (d:=39) rfl rfl rfl (q_m rfl) ?_
     refine WL.enter2 (dd:=40) rfl rfl rfl (zk (l:=[.tmp 39]) Try.call48 (.cons rfl .nil)) (.nil : Sel [row (.slice z6w z3j.length z6x) 35 4 (z3j.flatMap e35),stb z60 90 [(.int .i64 z6U)]] [] [row (.slice z6w z3j.length z6x) 35 4 (z3j.flatMap e35),stb z60 90 [(.int .i64 z6U)]]) (fun w hw=>by have pz:=(hz.call hw (.nil : Sel [row (.slice z6w z3j.length z6x) 35 4 (z3j.flatMap e35),stb z60 90 [(.int .i64 z6U)]] [] [row (.slice z6w z3j.length z6x) 35 4 (z3j.flatMap e35),stb z60 90 [(.int .i64 z6U)]])).lend hw (.nil : Sel [row (.slice z6w z3j.length z6x) 35 4 (z3j.flatMap e35),stb z60 90 [(.int .i64 z6U)]] [] [row (.slice z6w z3j.length z6x) 35 4 (z3j.flatMap e35),stb z60 90 [(.int .i64 z6U)]]) (B:=[row (.slice z6w z3j.length z6x) 35 4 (z3j.flatMap e35)]) (fun _ hx'=>((.cons .here .nil) : Sel _ [row (.slice z6w z3j.length z6x) 35 4 (z3j.flatMap e35)] _).mem hx'); exact w_curve_norm (Z:=_) (z7S:=z6w) (z7T:=z6x) (zl:=z3j) (r:=zmU) w pz (ZA.row (hw.lent (.nil : Sel [row (.slice z6w z3j.length z6x) 35 4 (z3j.flatMap e35),stb z60 90 [(.int .i64 z6U)]] [] [row (.slice z6w z3j.length z6x) 35 4 (z3j.flatMap e35),stb z60 90 [(.int .i64 z6U)]]) (B:=[row (.slice z6w z3j.length z6x) 35 4 (z3j.flatMap e35)]) (fun _ hx'=>((.cons .here .nil) : Sel _ [row (.slice z6w z3j.length z6x) 35 4 (z3j.flatMap e35)] _).mem hx') (.head _) _) (RR.flat (enc:=e35) (fun _=>rfl) _) ⟨w,pz.1⟩) zyG) ?_
     rintro zyH zyI _
     refine WL.a (d:=4) rfl rfl rfl (q_z rfl) ?_
     refine WL.a (d:=5) rfl rfl rfl (q_z rfl) ?_
     refine WL.nil ?_
     refine WX.a ?_
     refine WC.ret ?_
     obtain rfl:=Option.some.inj h
     refine WX.bpRet Try.results27 (.tmp rfl (.tmp rfl .nil)) (fun w hw=>?_)
     exact ⟨zyH,zyI,ret2 rfl rfl,trivial,hw.sub (.cons .here .nil)⟩
end Go.Proofs.Ytakfmdiiehcbdaa
