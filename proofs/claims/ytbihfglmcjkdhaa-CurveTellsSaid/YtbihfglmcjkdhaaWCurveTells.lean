/- A part of this claim's proof: models of functions, walks, plain laws. No conditions. -/
import Derived.Test.YtbihfglmcjkdhaaW02f
namespace Go.Proofs.Ytbihfglmcjkdhaa
open Go Go.RowKit Sep
set_option linter.all false
set_option maxRecDepth 30000
set_option maxHeartbeats 4000000
def m_law02_CurveTells_L2 (z2N : List z2 × Int) (z4N : List z2 × Int) (z9q : Option Bool) : Nat → Int → Option Bool
 | 0,_=>none
 | zkM + 1,z3G=>if decide (z3G < ((z2N.1.length : Nat) : Int)) then chk ((0 : Int) ≤ z3G ∧ z3G < ((z2N.1.length : Nat) : Int)) (chk ((0 : Int) ≤ z3G ∧ z3G < ((z4N.1.length : Nat) : Int)) (if decide ((⟨((nth z2N.1 z3G).fN),((nth z2N.1 z3G).fD)⟩ : z2) ≠ (⟨((nth z4N.1 z3G).fN),((nth z4N.1 z3G).fD)⟩ : z2)) then some false else m_law02_CurveTells_L2 z2N z4N z9q zkM (i64 (z3G + 1)))) else z9q
theorem m_law02_CurveTells_L2_fuel {n : Nat} {z2N : List z2 × Int} {z4N : List z2 × Int} {z9q : Option Bool} {z3G : Int} {r : Bool} (h : m_law02_CurveTells_L2 z2N z4N z9q n z3G = some r) : ∃ m,n = m + 1:=by
 cases n with
 | zero=>cases h
 | succ m=>exact ⟨m,rfl⟩
def m_law02_CurveTells (z21 : List z1) (z4u : List z1) (z8 : z2) : Option Bool :=
 if (decide (((z21.length : Nat) : Int) > 40)) || (decide (((z4u.length : Nat) : Int) > 40)) then (m_law02_awake).bind fun zkN=>some zkN else (m_curve_At z21 z8).bind fun zV=>(m_ref02_At z21 z8).bind fun z14=>(m_curve_Rate z21).bind fun z1x=>(m_ref02_Rate z21).bind fun z1P=>(m_curve_Valid z21).bind fun z7N=>(m_ref02_Valid z21).bind fun z7O=>if ((((z7N != z7O) || (decide (zV.1 ≠ z14.1))) || (decide (zV.2 ≠ z14.2))) || (decide (z1x.1 ≠ z1P.1))) || (decide (z1x.2 ≠ z1P.2)) then some false else jp2 (fun (zk : List z1) (z9r : Int)=>(m_curve_Norm z21).bind fun zo=>(m_law02_same zo.1 zo.2 zk z9r).bind fun zkO=>if !zkO then some false else (m_curve_Sum z21 z4u).bind fun zt=>(m_ref02_Sum z21 z4u).bind fun zu=>(m_law02_same zt.1 zt.2 zu.1 zu.2).bind fun zkP=>if !zkP then some false else (m_curve_Min z21 z4u).bind fun zA=>(m_ref02_Min z21 z4u).bind fun zQ=>(m_law02_same zA.1 zA.2 zQ.1 zQ.2).bind fun zkQ=>if !zkQ then some false else (m_curve_Shift z21 z8).bind fun z1C=>(m_ref02_Shift z21 z8).bind fun z1U=>(m_law02_same z1C.1 z1C.2 z1U.1 z1U.2).bind fun zkR=>if !zkR then some false else (m_curve_Breaks z21).bind fun z2N=>(m_ref02_Breaks z21).bind fun z4N=>if (decide (z2N.2 ≠ z4N.2)) || (decide (((z2N.1.length : Nat) : Int) ≠ ((z4N.1.length : Nat) : Int))) then some false else jp0 ((m_law02_awake).bind fun zkS=>some zkS) fun z9q=>m_law02_CurveTells_L2 z2N z4N z9q FUEL 0) fun zfT=>(m_ref02_Valid z21).bind fun zkT=>if zkT then (m_ref02_Norm z21).bind fun zfU=>zfT zfU 0 else zfT ([] : List z1) 2
set_option maxRecDepth 20000 in
theorem w_law02_CurveTells (Z : Zp)  (z3H : Option Addr) (z3I : Nat) (z6l : Option Addr) (z6m : Nat) (z21 : List z1) (z4u : List z1) (z8 : z2) (r : Bool) (w₀ : World) (hz : PZ [] w₀ Z)
  (z5P : ZS Z 4 (fun r x=>r = e42 x) z3H z3I z21)
  (zfV : ZS Z 4 (fun r x=>r = e42 x) z6l z6m z4u)
  (h : m_law02_CurveTells z21 z4u z8 = some r) :
  Calls Try.prog 6 #[(.slice z3H z21.length z3I),(.slice z6l z4u.length z6m),(.agg #[(.int .i64 z8.fN),(.int .i64 z8.fD)])] w₀ fun e w'=>∃ Zn : Zp,e = .returned (.bool r) ∧ True ∧ Hp [] w₀ w' [fz Zn]:=by
 unfold m_law02_CurveTells at h
 refine Calls.ofWC (vs:=[(.slice z3H z21.length z3I),(.slice z6l z4u.length z6m),(.agg #[(.int .i64 z8.fN),(.int .i64 z8.fD)])]) (pre:=[]) (env:=[(0,(.slice z3H z21.length z3I)),(1,(.slice z6l z4u.length z6m)),(2,(.agg #[(.int .i64 z8.fN),(.int .i64 z8.fD)]))]) Try.func6 rfl Try.ntmps6 rfl (Hp.nil w₀ _) rfl ?_
 refine WC.pool ?_
 refine WC.seq ?_
 refine WC.region ?_
 refine WL.new (dd:=5) rfl rfl rfl (e_box (cs:=[(.int .i64 z8.fN),(.int .i64 z8.fD)]) rfl rfl) ?_
 intro zw _
 refine WL.quiet (d:=6) rfl rfl rfl (q_assign rfl) ?_
 refine WL.nil ?_
 refine WX.then ?_
 refine WC.seq ?_
 refine WC.seq ?_
 refine WC.region ?_
 refine WL.quiet (d:=22) rfl rfl rfl (q_move rfl) ?_
 refine WL.quiet (d:=23) rfl rfl rfl (q_len Try.underlying25 rfl) ?_
 refine WL.quiet (d:=24) rfl rfl rfl (q_gtr rfl rfl) ?_
 refine WL.quiet (d:=25) rfl rfl rfl (q_move rfl) ?_
 refine WL.cut0 True [(0,(.slice z3H z21.length z3I)),(1,(.slice z6l z4u.length z6m)),(5,(.pointer (some ⟨zw,0,none⟩))),(29,(.bool ((decide (((z21.length : Nat) : Int) > 40)) || (decide (((z4u.length : Nat) : Int) > 40)))))] [stb zw 28 [(.int .i64 z8.fN),(.int .i64 z8.fD)],fz []] 4 ?_ (fun _=>?_)
 ·rcases Bool.eq_false_or_eq_true (decide (((z21.length : Nat) : Int) > 40)) with hb' | hb'
  ·have zoO:=hb'; clear hb'
   refine WL.pin (i:=25) rfl zoO ?_
   refine WL.skip rfl rfl rfl ?_
   refine WL.skip rfl rfl rfl ?_
   refine WL.skip rfl rfl rfl ?_
   refine WL.quiet (d:=29) rfl rfl rfl (q_pickT rfl rfl) ?_
   exact WL.cutEnd () trivial (.cons rfl (.cons rfl (.cons rfl (.cons (zl (or_l zoO)) .nil)))) (.cons .here (.cons .here .nil))
  ·have zoP:=hb'; clear hb'
   refine WL.pin (i:=25) rfl zoP ?_
   refine WL.quiet (d:=26) rfl rfl rfl (q_move rfl) ?_
   refine WL.quiet (d:=27) rfl rfl rfl (q_len Try.underlying25 rfl) ?_
   refine WL.quiet (d:=28) rfl rfl rfl (q_gtr rfl rfl) ?_
   refine WL.quiet (d:=29) rfl rfl rfl (q_pickF rfl rfl) ?_
   exact WL.cutEnd () trivial (.cons rfl (.cons rfl (.cons rfl (.cons (zl (or_r zoP)) .nil)))) (.cons .here (.cons .here .nil))
 ·skip
  refine WL.nil ?_
  refine WX.then ?_
  refine WC.cond rfl (fun zkU=>?_) (fun zkU=>?_)
  ·replace h:=ite_t h zkU
   refine WC.seq ?_
   obtain ⟨zkN,zwj,h⟩:=zb h
   refine WC.region ?_
   refine WL.enter1 (dd:=30) rfl rfl rfl (zg (l:=[]) Try.call18 .nil) (.nil : Sel [stb zw 28 [(.int .i64 z8.fN),(.int .i64 z8.fD)],fz []] [] [stb zw 28 [(.int .i64 z8.fN),(.int .i64 z8.fD)],fz []]) (fun w hw=>by have pz:=(hz.call2 hw (.nil : Sel [stb zw 28 [(.int .i64 z8.fN),(.int .i64 z8.fD)],fz []] [] [stb zw 28 [(.int .i64 z8.fN),(.int .i64 z8.fD)],fz []]) (.there .here)); exact w_law02_awake (Z:=_)   (r:=zkN) w pz  zwj) ?_
   rintro zwk _
   refine WL.merge .here (.there .here) ?_
   refine WL.quiet (d:=6) rfl rfl rfl (q_assign rfl) ?_
   refine WL.nil ?_
   refine WX.then ?_
   refine WC.ret ?_
   refine WX.thenRet ?_
   obtain rfl:=Option.some.inj h
   refine WX.bpRet Try.results6 (.tmp rfl .nil) (fun w hw=>?_)
   exact ⟨([] ++ zwk),ret1 rfl,trivial,hw.sub (.cons .here .nil)⟩
  ·replace h:=ite_f h zkU
   refine WC.skip ?_
   refine WX.then ?_
   refine WC.seq ?_
   obtain ⟨zV,zwl,h⟩:=zb h
   refine WC.region ?_
   refine WL.quiet (d:=32) rfl rfl rfl (q_move rfl) ?_
   refine WL.quiet (d:=33) rfl rfl rfl (q_loadA (cs:=[(.int .i64 z8.fN),(.int .i64 z8.fD)]) aggT_28 rfl rfl (rd_all .here)) ?_
   refine WL.callD (dd:=34) rfl rfl rfl (zg (l:=[.tmp 32,.tmp 33]) Try.call23 (.cons rfl (.cons rfl .nil))) (.nil : Sel [stb zw 28 [(.int .i64 z8.fN),(.int .i64 z8.fD)],fz []] [] [stb zw 28 [(.int .i64 z8.fN),(.int .i64 z8.fD)],fz []]) (fun w hw=>by have pz:=(hz.call2 hw (.nil : Sel [stb zw 28 [(.int .i64 z8.fN),(.int .i64 z8.fD)],fz []] [] [stb zw 28 [(.int .i64 z8.fN),(.int .i64 z8.fD)],fz []]) (.there .here)); exact w_curve_At (Z:=_) (z7V:=z3H) (z7W:=z3I) (z1r:=z21) (z1N:=z8) (r:=zV) w pz (z5P.mono (Zle.left _ _)) zwl) ?_
   refine WL.quiet (d:=31) rfl rfl rfl (q_move rfl) ?_
   refine WL.quiet (d:=35) rfl rfl rfl (q_extract rfl rfl) ?_
   refine WL.quiet (d:=36) rfl rfl rfl (q_extract rfl rfl) ?_
   refine WL.new (dd:=7) rfl rfl rfl (e_alloc (cs:=[(.int .i64 0),(.int .i64 0)]) zeroT_28 rfl) ?_
   intro z36 _
   refine WL.eff0 rfl rfl (e_store (vs:=[(.int .i64 zV.1.fN),(.int .i64 zV.1.fD)]) (ds:=[(.int .i64 zV.1.fN),(.int .i64 zV.1.fD)]) sizT_28 rfl rfl rfl rfl (oc_cons rfl (oc_cons rfl oc_nil)) .here (Nat.le_of_ble_eq_true rfl) rfl) ?_
   refine WL.quiet (d:=8) rfl rfl rfl (q_assign rfl) ?_
   refine WL.nil ?_
   refine WX.then ?_
   refine WC.seq ?_
   obtain ⟨z14,zwm,h⟩:=zb h
   refine WC.region ?_
   refine WL.quiet (d:=38) rfl rfl rfl (q_move rfl) ?_
   refine WL.quiet (d:=39) rfl rfl rfl (q_loadA (cs:=[(.int .i64 z8.fN),(.int .i64 z8.fD)]) aggT_28 rfl rfl (rd_all (.there .here))) ?_
   refine WL.callD (dd:=40) rfl rfl rfl (zg (l:=[.tmp 38,.tmp 39]) Try.call24 (.cons rfl (.cons rfl .nil))) (.nil : Sel [stb z36 28 [(.int .i64 zV.1.fN),(.int .i64 zV.1.fD)],stb zw 28 [(.int .i64 z8.fN),(.int .i64 z8.fD)],fz []] [] [stb z36 28 [(.int .i64 zV.1.fN),(.int .i64 zV.1.fD)],stb zw 28 [(.int .i64 z8.fN),(.int .i64 z8.fD)],fz []]) (fun w hw=>by have pz:=(hz.call2 hw (.nil : Sel [stb z36 28 [(.int .i64 zV.1.fN),(.int .i64 zV.1.fD)],stb zw 28 [(.int .i64 z8.fN),(.int .i64 z8.fD)],fz []] [] [stb z36 28 [(.int .i64 zV.1.fN),(.int .i64 zV.1.fD)],stb zw 28 [(.int .i64 z8.fN),(.int .i64 z8.fD)],fz []]) (.there (.there .here))); exact w_ref02_At (Z:=_) (z87:=z3H) (z88:=z3I) (z2W:=z21) (z1J:=z8) (r:=z14) w pz (z5P.mono (Zle.left _ _)) zwm) ?_
   refine WL.quiet (d:=37) rfl rfl rfl (q_move rfl) ?_
   refine WL.quiet (d:=41) rfl rfl rfl (q_extract rfl rfl) ?_
   refine WL.quiet (d:=42) rfl rfl rfl (q_extract rfl rfl) ?_
   refine WL.new (dd:=9) rfl rfl rfl (e_alloc (cs:=[(.int .i64 0),(.int .i64 0)]) zeroT_28 rfl) ?_
   intro z3J _
   refine WL.eff0 rfl rfl (e_store (vs:=[(.int .i64 z14.1.fN),(.int .i64 z14.1.fD)]) (ds:=[(.int .i64 z14.1.fN),(.int .i64 z14.1.fD)]) sizT_28 rfl rfl rfl rfl (oc_cons rfl (oc_cons rfl oc_nil)) .here (Nat.le_of_ble_eq_true rfl) rfl) ?_
   refine WL.quiet (d:=10) rfl rfl rfl (q_assign rfl) ?_
   refine WL.nil ?_
   refine WX.then ?_
   refine WC.seq ?_
   obtain ⟨z1x,zwn,h⟩:=zb h
   refine WC.region ?_
   refine WL.quiet (d:=44) rfl rfl rfl (q_move rfl) ?_
   refine WL.callD (dd:=45) rfl rfl rfl (zg (l:=[.tmp 44]) Try.call15 (.cons rfl .nil)) (.nil : Sel [stb z3J 28 [(.int .i64 z14.1.fN),(.int .i64 z14.1.fD)],stb z36 28 [(.int .i64 zV.1.fN),(.int .i64 zV.1.fD)],stb zw 28 [(.int .i64 z8.fN),(.int .i64 z8.fD)],fz []] [] [stb z3J 28 [(.int .i64 z14.1.fN),(.int .i64 z14.1.fD)],stb z36 28 [(.int .i64 zV.1.fN),(.int .i64 zV.1.fD)],stb zw 28 [(.int .i64 z8.fN),(.int .i64 z8.fD)],fz []]) (fun w hw=>by have pz:=(hz.call2 hw (.nil : Sel [stb z3J 28 [(.int .i64 z14.1.fN),(.int .i64 z14.1.fD)],stb z36 28 [(.int .i64 zV.1.fN),(.int .i64 zV.1.fD)],stb zw 28 [(.int .i64 z8.fN),(.int .i64 z8.fD)],fz []] [] [stb z3J 28 [(.int .i64 z14.1.fN),(.int .i64 z14.1.fD)],stb z36 28 [(.int .i64 zV.1.fN),(.int .i64 zV.1.fD)],stb zw 28 [(.int .i64 z8.fN),(.int .i64 z8.fD)],fz []]) (.there (.there (.there .here)))); exact w_curve_Rate (Z:=_) (z9F:=z3H) (z9G:=z3I) (z6Z:=z21) (r:=z1x) w pz (z5P.mono (Zle.left _ _)) zwn) ?_
   refine WL.quiet (d:=43) rfl rfl rfl (q_move rfl) ?_
   refine WL.quiet (d:=46) rfl rfl rfl (q_extract rfl rfl) ?_
   refine WL.quiet (d:=47) rfl rfl rfl (q_extract rfl rfl) ?_
   refine WL.new (dd:=11) rfl rfl rfl (e_alloc (cs:=[(.int .i64 0),(.int .i64 0)]) zeroT_28 rfl) ?_
   intro z3Y _
   refine WL.eff0 rfl rfl (e_store (vs:=[(.int .i64 z1x.1.fN),(.int .i64 z1x.1.fD)]) (ds:=[(.int .i64 z1x.1.fN),(.int .i64 z1x.1.fD)]) sizT_28 rfl rfl rfl rfl (oc_cons rfl (oc_cons rfl oc_nil)) .here (Nat.le_of_ble_eq_true rfl) rfl) ?_
   refine WL.quiet (d:=12) rfl rfl rfl (q_assign rfl) ?_
   refine WL.nil ?_
   refine WX.then ?_
   refine WC.seq ?_
   obtain ⟨z1P,zwo,h⟩:=zb h
   refine WC.region ?_
   refine WL.quiet (d:=49) rfl rfl rfl (q_move rfl) ?_
   refine WL.callD (dd:=50) rfl rfl rfl (zg (l:=[.tmp 49]) Try.call25 (.cons rfl .nil)) (.nil : Sel [stb z3Y 28 [(.int .i64 z1x.1.fN),(.int .i64 z1x.1.fD)],stb z3J 28 [(.int .i64 z14.1.fN),(.int .i64 z14.1.fD)],stb z36 28 [(.int .i64 zV.1.fN),(.int .i64 zV.1.fD)],stb zw 28 [(.int .i64 z8.fN),(.int .i64 z8.fD)],fz []] [] [stb z3Y 28 [(.int .i64 z1x.1.fN),(.int .i64 z1x.1.fD)],stb z3J 28 [(.int .i64 z14.1.fN),(.int .i64 z14.1.fD)],stb z36 28 [(.int .i64 zV.1.fN),(.int .i64 zV.1.fD)],stb zw 28 [(.int .i64 z8.fN),(.int .i64 z8.fD)],fz []]) (fun w hw=>by have pz:=(hz.call2 hw (.nil : Sel [stb z3Y 28 [(.int .i64 z1x.1.fN),(.int .i64 z1x.1.fD)],stb z3J 28 [(.int .i64 z14.1.fN),(.int .i64 z14.1.fD)],stb z36 28 [(.int .i64 zV.1.fN),(.int .i64 zV.1.fD)],stb zw 28 [(.int .i64 z8.fN),(.int .i64 z8.fD)],fz []] [] [stb z3Y 28 [(.int .i64 z1x.1.fN),(.int .i64 z1x.1.fD)],stb z3J 28 [(.int .i64 z14.1.fN),(.int .i64 z14.1.fD)],stb z36 28 [(.int .i64 zV.1.fN),(.int .i64 zV.1.fD)],stb zw 28 [(.int .i64 z8.fN),(.int .i64 z8.fD)],fz []]) (.there (.there (.there (.there .here))))); exact w_ref02_Rate (Z:=_) (za6:=z3H) (za7:=z3I) (z2d:=z21) (r:=z1P) w pz (z5P.mono (Zle.left _ _)) zwo) ?_
   refine WL.quiet (d:=48) rfl rfl rfl (q_move rfl) ?_
   refine WL.quiet (d:=51) rfl rfl rfl (q_extract rfl rfl) ?_
   refine WL.quiet (d:=52) rfl rfl rfl (q_extract rfl rfl) ?_
   refine WL.new (dd:=13) rfl rfl rfl (e_alloc (cs:=[(.int .i64 0),(.int .i64 0)]) zeroT_28 rfl) ?_
   intro z4O _
   refine WL.eff0 rfl rfl (e_store (vs:=[(.int .i64 z1P.1.fN),(.int .i64 z1P.1.fD)]) (ds:=[(.int .i64 z1P.1.fN),(.int .i64 z1P.1.fD)]) sizT_28 rfl rfl rfl rfl (oc_cons rfl (oc_cons rfl oc_nil)) .here (Nat.le_of_ble_eq_true rfl) rfl) ?_
   refine WL.quiet (d:=14) rfl rfl rfl (q_assign rfl) ?_
   refine WL.nil ?_
   refine WX.then ?_
   refine WC.seq ?_
   refine WC.seq ?_
   obtain ⟨z7N,zwp,h⟩:=zb h
   obtain ⟨z7O,zwq,h⟩:=zb h
   refine WC.region ?_
   refine WL.quiet (d:=53) rfl rfl rfl (q_move rfl) ?_
   refine WL.callD (dd:=54) rfl rfl rfl (zg (l:=[.tmp 53]) Try.call26 (.cons rfl .nil)) (.nil : Sel [stb z4O 28 [(.int .i64 z1P.1.fN),(.int .i64 z1P.1.fD)],stb z3Y 28 [(.int .i64 z1x.1.fN),(.int .i64 z1x.1.fD)],stb z3J 28 [(.int .i64 z14.1.fN),(.int .i64 z14.1.fD)],stb z36 28 [(.int .i64 zV.1.fN),(.int .i64 zV.1.fD)],stb zw 28 [(.int .i64 z8.fN),(.int .i64 z8.fD)],fz []] [] [stb z4O 28 [(.int .i64 z1P.1.fN),(.int .i64 z1P.1.fD)],stb z3Y 28 [(.int .i64 z1x.1.fN),(.int .i64 z1x.1.fD)],stb z3J 28 [(.int .i64 z14.1.fN),(.int .i64 z14.1.fD)],stb z36 28 [(.int .i64 zV.1.fN),(.int .i64 zV.1.fD)],stb zw 28 [(.int .i64 z8.fN),(.int .i64 z8.fD)],fz []]) (fun w hw=>by have pz:=(hz.call2 hw (.nil : Sel [stb z4O 28 [(.int .i64 z1P.1.fN),(.int .i64 z1P.1.fD)],stb z3Y 28 [(.int .i64 z1x.1.fN),(.int .i64 z1x.1.fD)],stb z3J 28 [(.int .i64 z14.1.fN),(.int .i64 z14.1.fD)],stb z36 28 [(.int .i64 zV.1.fN),(.int .i64 zV.1.fD)],stb zw 28 [(.int .i64 z8.fN),(.int .i64 z8.fD)],fz []] [] [stb z4O 28 [(.int .i64 z1P.1.fN),(.int .i64 z1P.1.fD)],stb z3Y 28 [(.int .i64 z1x.1.fN),(.int .i64 z1x.1.fD)],stb z3J 28 [(.int .i64 z14.1.fN),(.int .i64 z14.1.fD)],stb z36 28 [(.int .i64 zV.1.fN),(.int .i64 zV.1.fD)],stb zw 28 [(.int .i64 z8.fN),(.int .i64 z8.fD)],fz []]) (.there (.there (.there (.there (.there .here)))))); exact w_curve_Valid (Z:=_) (z5S:=z3H) (z5T:=z3I) (z3S:=z21) (r:=z7N) w pz (z5P.mono (Zle.left _ _)) zwp) ?_
   refine WL.quiet (d:=55) rfl rfl rfl (q_move rfl) ?_
   refine WL.callD (dd:=56) rfl rfl rfl (zg (l:=[.tmp 55]) Try.call27 (.cons rfl .nil)) (.nil : Sel [stb z4O 28 [(.int .i64 z1P.1.fN),(.int .i64 z1P.1.fD)],stb z3Y 28 [(.int .i64 z1x.1.fN),(.int .i64 z1x.1.fD)],stb z3J 28 [(.int .i64 z14.1.fN),(.int .i64 z14.1.fD)],stb z36 28 [(.int .i64 zV.1.fN),(.int .i64 zV.1.fD)],stb zw 28 [(.int .i64 z8.fN),(.int .i64 z8.fD)],fz []] [] [stb z4O 28 [(.int .i64 z1P.1.fN),(.int .i64 z1P.1.fD)],stb z3Y 28 [(.int .i64 z1x.1.fN),(.int .i64 z1x.1.fD)],stb z3J 28 [(.int .i64 z14.1.fN),(.int .i64 z14.1.fD)],stb z36 28 [(.int .i64 zV.1.fN),(.int .i64 zV.1.fD)],stb zw 28 [(.int .i64 z8.fN),(.int .i64 z8.fD)],fz []]) (fun w hw=>by have pz:=(hz.call2 hw (.nil : Sel [stb z4O 28 [(.int .i64 z1P.1.fN),(.int .i64 z1P.1.fD)],stb z3Y 28 [(.int .i64 z1x.1.fN),(.int .i64 z1x.1.fD)],stb z3J 28 [(.int .i64 z14.1.fN),(.int .i64 z14.1.fD)],stb z36 28 [(.int .i64 zV.1.fN),(.int .i64 zV.1.fD)],stb zw 28 [(.int .i64 z8.fN),(.int .i64 z8.fD)],fz []] [] [stb z4O 28 [(.int .i64 z1P.1.fN),(.int .i64 z1P.1.fD)],stb z3Y 28 [(.int .i64 z1x.1.fN),(.int .i64 z1x.1.fD)],stb z3J 28 [(.int .i64 z14.1.fN),(.int .i64 z14.1.fD)],stb z36 28 [(.int .i64 zV.1.fN),(.int .i64 zV.1.fD)],stb zw 28 [(.int .i64 z8.fN),(.int .i64 z8.fD)],fz []]) (.there (.there (.there (.there (.there .here)))))); exact w_ref02_Valid (Z:=_) (z5L:=z3H) (z5M:=z3I) (z2n:=z21) (r:=z7O) w pz (z5P.mono (Zle.left _ _)) zwq) ?_
   refine WL.quiet (d:=57) rfl rfl rfl (q_bneq Try.underlying4 rfl rfl) ?_
   refine WL.quiet (d:=58) rfl rfl rfl (q_move rfl) ?_
   refine WL.cut0 True [(0,(.slice z3H z21.length z3I)),(1,(.slice z6l z4u.length z6m)),(5,(.pointer (some ⟨zw,0,none⟩))),(8,(.int .i64 zV.2)),(10,(.int .i64 z14.2)),(11,(.pointer (some ⟨z3Y,0,none⟩))),(12,(.int .i64 z1x.2)),(13,(.pointer (some ⟨z4O,0,none⟩))),(14,(.int .i64 z1P.2)),(62,(.bool ((z7N != z7O) || (decide (zV.1 ≠ z14.1)))))] [stb z4O 28 [(.int .i64 z1P.1.fN),(.int .i64 z1P.1.fD)],stb z3Y 28 [(.int .i64 z1x.1.fN),(.int .i64 z1x.1.fD)],stb z3J 28 [(.int .i64 z14.1.fN),(.int .i64 z14.1.fD)],stb z36 28 [(.int .i64 zV.1.fN),(.int .i64 zV.1.fD)],stb zw 28 [(.int .i64 z8.fN),(.int .i64 z8.fD)],fz []] 4 ?_ (fun _=>?_)
   ·rcases Bool.eq_false_or_eq_true (z7N != z7O) with hb' | hb'
    ·have zoQ:=hb'; clear hb'
     refine WL.pin (i:=58) rfl zoQ ?_
     refine WL.skip rfl rfl rfl ?_
     refine WL.skip rfl rfl rfl ?_
     refine WL.skip rfl rfl rfl ?_
     refine WL.quiet (d:=62) rfl rfl rfl (q_pickT rfl rfl) ?_
     exact WL.cutEnd () trivial (.cons rfl (.cons rfl (.cons rfl (.cons rfl (.cons rfl (.cons rfl (.cons rfl (.cons rfl (.cons rfl (.cons (zl (or_l zoQ)) .nil)))))))))) (.cons .here (.cons .here (.cons .here (.cons .here (.cons .here (.cons .here .nil))))))
    ·have zoR:=hb'; clear hb'
     refine WL.pin (i:=58) rfl zoR ?_
     refine WL.quiet (d:=59) rfl rfl rfl (q_loadA (cs:=[(.int .i64 zV.1.fN),(.int .i64 zV.1.fD)]) aggT_28 rfl rfl (rd_all (.there (.there (.there .here))))) ?_
     refine WL.quiet (d:=60) rfl rfl rfl (q_loadA (cs:=[(.int .i64 z14.1.fN),(.int .i64 z14.1.fD)]) aggT_28 rfl rfl (rd_all (.there (.there .here)))) ?_
     refine WL.quiet (d:=61) rfl rfl rfl (q_aggneq (enc:=e28) (a:=zV.1) (b:=z14.1) eqT_28 rfl rfl) ?_
     refine WL.quiet (d:=62) rfl rfl rfl (q_pickF rfl rfl) ?_
     exact WL.cutEnd () trivial (.cons rfl (.cons rfl (.cons rfl (.cons rfl (.cons rfl (.cons rfl (.cons rfl (.cons rfl (.cons rfl (.cons (zl (or_r zoR)) .nil)))))))))) (.cons .here (.cons .here (.cons .here (.cons .here (.cons .here (.cons .here .nil))))))
   ·skip
    refine WL.quiet (d:=63) rfl rfl rfl (q_move rfl) ?_
    refine WL.cut0 True [(0,(.slice z3H z21.length z3I)),(1,(.slice z6l z4u.length z6m)),(5,(.pointer (some ⟨zw,0,none⟩))),(11,(.pointer (some ⟨z3Y,0,none⟩))),(12,(.int .i64 z1x.2)),(13,(.pointer (some ⟨z4O,0,none⟩))),(14,(.int .i64 z1P.2)),(67,(.bool (((z7N != z7O) || (decide (zV.1 ≠ z14.1))) || (decide (zV.2 ≠ z14.2)))))] [stb z4O 28 [(.int .i64 z1P.1.fN),(.int .i64 z1P.1.fD)],stb z3Y 28 [(.int .i64 z1x.1.fN),(.int .i64 z1x.1.fD)],stb z3J 28 [(.int .i64 z14.1.fN),(.int .i64 z14.1.fD)],stb z36 28 [(.int .i64 zV.1.fN),(.int .i64 zV.1.fD)],stb zw 28 [(.int .i64 z8.fN),(.int .i64 z8.fD)],fz []] 4 ?_ (fun _=>?_)
    ·rcases Bool.eq_false_or_eq_true ((z7N != z7O) || (decide (zV.1 ≠ z14.1))) with hb' | hb'
     ·have zoS:=hb'; clear hb'
      refine WL.pin (i:=63) rfl zoS ?_
      refine WL.skip rfl rfl rfl ?_
      refine WL.skip rfl rfl rfl ?_
      refine WL.skip rfl rfl rfl ?_
      refine WL.quiet (d:=67) rfl rfl rfl (q_pickT rfl rfl) ?_
      exact WL.cutEnd () trivial (.cons rfl (.cons rfl (.cons rfl (.cons rfl (.cons rfl (.cons rfl (.cons rfl (.cons (zl (or_l zoS)) .nil)))))))) (.cons .here (.cons .here (.cons .here (.cons .here (.cons .here (.cons .here .nil))))))
     ·have zoT:=hb'; clear hb'
      refine WL.pin (i:=63) rfl zoT ?_
      refine WL.quiet (d:=64) rfl rfl rfl (q_move rfl) ?_
      refine WL.quiet (d:=65) rfl rfl rfl (q_move rfl) ?_
      refine WL.quiet (d:=66) rfl rfl rfl (q_neq rfl rfl) ?_
      refine WL.quiet (d:=67) rfl rfl rfl (q_pickF rfl rfl) ?_
      exact WL.cutEnd () trivial (.cons rfl (.cons rfl (.cons rfl (.cons rfl (.cons rfl (.cons rfl (.cons rfl (.cons (zl (or_r zoT)) .nil)))))))) (.cons .here (.cons .here (.cons .here (.cons .here (.cons .here (.cons .here .nil))))))
    ·skip
     refine WL.quiet (d:=68) rfl rfl rfl (q_move rfl) ?_
     refine WL.cut0 True [(0,(.slice z3H z21.length z3I)),(1,(.slice z6l z4u.length z6m)),(5,(.pointer (some ⟨zw,0,none⟩))),(12,(.int .i64 z1x.2)),(14,(.int .i64 z1P.2)),(72,(.bool ((((z7N != z7O) || (decide (zV.1 ≠ z14.1))) || (decide (zV.2 ≠ z14.2))) || (decide (z1x.1 ≠ z1P.1)))))] [stb z4O 28 [(.int .i64 z1P.1.fN),(.int .i64 z1P.1.fD)],stb z3Y 28 [(.int .i64 z1x.1.fN),(.int .i64 z1x.1.fD)],stb z3J 28 [(.int .i64 z14.1.fN),(.int .i64 z14.1.fD)],stb z36 28 [(.int .i64 zV.1.fN),(.int .i64 zV.1.fD)],stb zw 28 [(.int .i64 z8.fN),(.int .i64 z8.fD)],fz []] 4 ?_ (fun _=>?_)
     ·rcases Bool.eq_false_or_eq_true (((z7N != z7O) || (decide (zV.1 ≠ z14.1))) || (decide (zV.2 ≠ z14.2))) with hb' | hb'
      ·have zoU:=hb'; clear hb'
       refine WL.pin (i:=68) rfl zoU ?_
       refine WL.skip rfl rfl rfl ?_
       refine WL.skip rfl rfl rfl ?_
       refine WL.skip rfl rfl rfl ?_
       refine WL.quiet (d:=72) rfl rfl rfl (q_pickT rfl rfl) ?_
       exact WL.cutEnd () trivial (.cons rfl (.cons rfl (.cons rfl (.cons rfl (.cons rfl (.cons (zl (or_l zoU)) .nil)))))) (.cons .here (.cons .here (.cons .here (.cons .here (.cons .here (.cons .here .nil))))))
      ·have zoV:=hb'; clear hb'
       refine WL.pin (i:=68) rfl zoV ?_
       refine WL.quiet (d:=69) rfl rfl rfl (q_loadA (cs:=[(.int .i64 z1x.1.fN),(.int .i64 z1x.1.fD)]) aggT_28 rfl rfl (rd_all (.there .here))) ?_
       refine WL.quiet (d:=70) rfl rfl rfl (q_loadA (cs:=[(.int .i64 z1P.1.fN),(.int .i64 z1P.1.fD)]) aggT_28 rfl rfl (rd_all .here)) ?_
       refine WL.quiet (d:=71) rfl rfl rfl (q_aggneq (enc:=e28) (a:=z1x.1) (b:=z1P.1) eqT_28 rfl rfl) ?_
       refine WL.quiet (d:=72) rfl rfl rfl (q_pickF rfl rfl) ?_
       exact WL.cutEnd () trivial (.cons rfl (.cons rfl (.cons rfl (.cons rfl (.cons rfl (.cons (zl (or_r zoV)) .nil)))))) (.cons .here (.cons .here (.cons .here (.cons .here (.cons .here (.cons .here .nil))))))
     ·skip
      refine WL.quiet (d:=73) rfl rfl rfl (q_move rfl) ?_
      refine WL.cut0 True [(0,(.slice z3H z21.length z3I)),(1,(.slice z6l z4u.length z6m)),(5,(.pointer (some ⟨zw,0,none⟩))),(77,(.bool (((((z7N != z7O) || (decide (zV.1 ≠ z14.1))) || (decide (zV.2 ≠ z14.2))) || (decide (z1x.1 ≠ z1P.1))) || (decide (z1x.2 ≠ z1P.2)))))] [stb z4O 28 [(.int .i64 z1P.1.fN),(.int .i64 z1P.1.fD)],stb z3Y 28 [(.int .i64 z1x.1.fN),(.int .i64 z1x.1.fD)],stb z3J 28 [(.int .i64 z14.1.fN),(.int .i64 z14.1.fD)],stb z36 28 [(.int .i64 zV.1.fN),(.int .i64 zV.1.fD)],stb zw 28 [(.int .i64 z8.fN),(.int .i64 z8.fD)],fz []] 4 ?_ (fun _=>?_)
      ·rcases Bool.eq_false_or_eq_true ((((z7N != z7O) || (decide (zV.1 ≠ z14.1))) || (decide (zV.2 ≠ z14.2))) || (decide (z1x.1 ≠ z1P.1))) with hb' | hb'
       ·have zoW:=hb'; clear hb'
        refine WL.pin (i:=73) rfl zoW ?_
        refine WL.skip rfl rfl rfl ?_
        refine WL.skip rfl rfl rfl ?_
        refine WL.skip rfl rfl rfl ?_
        refine WL.quiet (d:=77) rfl rfl rfl (q_pickT rfl rfl) ?_
        exact WL.cutEnd () trivial (.cons rfl (.cons rfl (.cons rfl (.cons (zl (or_l zoW)) .nil)))) (.cons .here (.cons .here (.cons .here (.cons .here (.cons .here (.cons .here .nil))))))
       ·have zoX:=hb'; clear hb'
        refine WL.pin (i:=73) rfl zoX ?_
        refine WL.quiet (d:=74) rfl rfl rfl (q_move rfl) ?_
        refine WL.quiet (d:=75) rfl rfl rfl (q_move rfl) ?_
        refine WL.quiet (d:=76) rfl rfl rfl (q_neq rfl rfl) ?_
        refine WL.quiet (d:=77) rfl rfl rfl (q_pickF rfl rfl) ?_
        exact WL.cutEnd () trivial (.cons rfl (.cons rfl (.cons rfl (.cons (zl (or_r zoX)) .nil)))) (.cons .here (.cons .here (.cons .here (.cons .here (.cons .here (.cons .here .nil))))))
      ·skip
       refine WL.nil ?_
       refine WX.then ?_
       refine WC.cond rfl (fun zkV=>?_) (fun zkV=>?_)
       ·replace h:=ite_t h zkV
        refine WC.seq ?_
        refine WC.region ?_
        refine WL.quiet (d:=6) rfl rfl rfl (q_assign rfl) ?_
        refine WL.nil ?_
        refine WX.then ?_
        refine WC.ret ?_
        refine WX.thenRet ?_
        obtain rfl:=Option.some.inj h
        refine WX.bpRet Try.results6 (.tmp rfl .nil) (fun w hw=>?_)
        exact ⟨[],ret1 rfl,trivial,hw.sub (.cons (.there (.there (.there (.there (.there .here))))) .nil)⟩
       ·replace h:=ite_f h zkV
        refine WC.skip ?_
        refine WX.then ?_
        refine WC.seq ?_
        refine WC.region ?_
        refine WL.quiet (d:=15) rfl rfl rfl (q_assign rfl) ?_
        refine WL.nil ?_
        refine WX.then ?_
        refine WC.seq ?_
        refine WC.region ?_
        refine WL.quiet (d:=16) rfl rfl rfl (q_assign rfl) ?_
        refine WL.nil ?_
        refine WX.then ?_
        obtain ⟨zfT,zwr,h⟩:=jp2_elim h
        refine WC.seqMid5 (fun (zk : List z1) (z9r : Int) (zF : Zp) (zT : Option Addr) (zU : Nat)=>(zfT zk z9r = some r) ∧ (Zle (Z ++ []) (Z ++ zF))) (fun (zk : List z1) (z9r : Int) (zF : Zp) (zT : Option Addr) (zU : Nat)=>[(0,(.slice z3H z21.length z3I)),(1,(.slice z6l z4u.length z6m)),(5,(.pointer (some ⟨zw,0,none⟩))),(15,(.slice zT zk.length zU)),(16,(.int .i64 z9r))]) (fun (zk : List z1) (z9r : Int) (zF : Zp) (zT : Option Addr) (zU : Nat)=>[fz zF,row (.slice zT zk.length zU) 42 4 (zk.flatMap e42),stb zw 28 [(.int .i64 z8.fN),(.int .i64 z8.fD)]]) ?_ ?_
        ·skip
         refine WC.seq ?_
         obtain ⟨zkT,zws,h⟩:=zb h
         refine WC.region ?_
         refine WL.quiet (d:=78) rfl rfl rfl (q_move rfl) ?_
         refine WL.callD (dd:=79) rfl rfl rfl (zg (l:=[.tmp 78]) Try.call27 (.cons rfl .nil)) (.nil : Sel [stb z4O 28 [(.int .i64 z1P.1.fN),(.int .i64 z1P.1.fD)],stb z3Y 28 [(.int .i64 z1x.1.fN),(.int .i64 z1x.1.fD)],stb z3J 28 [(.int .i64 z14.1.fN),(.int .i64 z14.1.fD)],stb z36 28 [(.int .i64 zV.1.fN),(.int .i64 zV.1.fD)],stb zw 28 [(.int .i64 z8.fN),(.int .i64 z8.fD)],fz []] [] [stb z4O 28 [(.int .i64 z1P.1.fN),(.int .i64 z1P.1.fD)],stb z3Y 28 [(.int .i64 z1x.1.fN),(.int .i64 z1x.1.fD)],stb z3J 28 [(.int .i64 z14.1.fN),(.int .i64 z14.1.fD)],stb z36 28 [(.int .i64 zV.1.fN),(.int .i64 zV.1.fD)],stb zw 28 [(.int .i64 z8.fN),(.int .i64 z8.fD)],fz []]) (fun w hw=>by have pz:=(hz.call2 hw (.nil : Sel [stb z4O 28 [(.int .i64 z1P.1.fN),(.int .i64 z1P.1.fD)],stb z3Y 28 [(.int .i64 z1x.1.fN),(.int .i64 z1x.1.fD)],stb z3J 28 [(.int .i64 z14.1.fN),(.int .i64 z14.1.fD)],stb z36 28 [(.int .i64 zV.1.fN),(.int .i64 zV.1.fD)],stb zw 28 [(.int .i64 z8.fN),(.int .i64 z8.fD)],fz []] [] [stb z4O 28 [(.int .i64 z1P.1.fN),(.int .i64 z1P.1.fD)],stb z3Y 28 [(.int .i64 z1x.1.fN),(.int .i64 z1x.1.fD)],stb z3J 28 [(.int .i64 z14.1.fN),(.int .i64 z14.1.fD)],stb z36 28 [(.int .i64 zV.1.fN),(.int .i64 zV.1.fD)],stb zw 28 [(.int .i64 z8.fN),(.int .i64 z8.fD)],fz []]) (.there (.there (.there (.there (.there .here)))))); exact w_ref02_Valid (Z:=_) (z5L:=z3H) (z5M:=z3I) (z2n:=z21) (r:=zkT) w pz (z5P.mono (Zle.left _ _)) zws) ?_
         refine WL.nil ?_
         refine WX.then ?_
         refine WC.cond rfl (fun zkW=>?_) (fun zkW=>?_)
         ·replace h:=ite_t h zkW
          obtain ⟨zfU,zwt,h⟩:=zb h
          refine WC.region ?_
          refine WL.quiet (d:=80) rfl rfl rfl (q_move rfl) ?_
          refine WL.enter3 (dd:=81) rfl rfl rfl (zg (l:=[.tmp 80]) Try.call28 (.cons rfl .nil)) (.nil : Sel [stb z4O 28 [(.int .i64 z1P.1.fN),(.int .i64 z1P.1.fD)],stb z3Y 28 [(.int .i64 z1x.1.fN),(.int .i64 z1x.1.fD)],stb z3J 28 [(.int .i64 z14.1.fN),(.int .i64 z14.1.fD)],stb z36 28 [(.int .i64 zV.1.fN),(.int .i64 zV.1.fD)],stb zw 28 [(.int .i64 z8.fN),(.int .i64 z8.fD)],fz []] [] [stb z4O 28 [(.int .i64 z1P.1.fN),(.int .i64 z1P.1.fD)],stb z3Y 28 [(.int .i64 z1x.1.fN),(.int .i64 z1x.1.fD)],stb z3J 28 [(.int .i64 z14.1.fN),(.int .i64 z14.1.fD)],stb z36 28 [(.int .i64 zV.1.fN),(.int .i64 zV.1.fD)],stb zw 28 [(.int .i64 z8.fN),(.int .i64 z8.fD)],fz []]) (fun w hw=>by have pz:=(hz.call2 hw (.nil : Sel [stb z4O 28 [(.int .i64 z1P.1.fN),(.int .i64 z1P.1.fD)],stb z3Y 28 [(.int .i64 z1x.1.fN),(.int .i64 z1x.1.fD)],stb z3J 28 [(.int .i64 z14.1.fN),(.int .i64 z14.1.fD)],stb z36 28 [(.int .i64 zV.1.fN),(.int .i64 zV.1.fD)],stb zw 28 [(.int .i64 z8.fN),(.int .i64 z8.fD)],fz []] [] [stb z4O 28 [(.int .i64 z1P.1.fN),(.int .i64 z1P.1.fD)],stb z3Y 28 [(.int .i64 z1x.1.fN),(.int .i64 z1x.1.fD)],stb z3J 28 [(.int .i64 z14.1.fN),(.int .i64 z14.1.fD)],stb z36 28 [(.int .i64 zV.1.fN),(.int .i64 zV.1.fD)],stb zw 28 [(.int .i64 z8.fN),(.int .i64 z8.fD)],fz []]) (.there (.there (.there (.there (.there .here)))))); exact w_ref02_Norm (Z:=_) (z4f:=z3H) (z4g:=z3I) (zi:=z21) (r:=zfU) w pz (z5P.mono (Zle.left _ _)) zwt) ?_
          rintro zwu zwv zww _
          refine WL.merge .here (.there (.there (.there (.there (.there (.there .here)))))) ?_
          refine WL.quiet (d:=15) rfl rfl rfl (q_assign rfl) ?_
          refine WL.quiet (d:=16) rfl rfl rfl (q_assign rfl) ?_
          refine WL.nil ?_
          exact WX.mid (G:=List z1 × Int × Zp × Option Addr × Nat) ⟨zfU,0,([] ++ zwu),zwv,zww⟩ ⟨h,((Zle.left _ _).trans (Zle.assoc _ _ _))⟩ (.cons rfl (.cons rfl (.cons rfl (.cons rfl (.cons rfl .nil))))) (.cons .here (.cons .here (.cons (.there (.there (.there (.there .here)))) .nil)))
         ·replace h:=ite_f h zkW
          refine WC.skip ?_
          refine WX.nilRow 42 4 ?_
          exact WX.mid (G:=List z1 × Int × Zp × Option Addr × Nat) ⟨([] : List z1),2,[],none,0⟩ ⟨h,(Zle.refl _)⟩ (.cons rfl (.cons rfl (.cons rfl (.cons rfl (.cons rfl .nil))))) (.cons (.there (.there (.there (.there (.there (.there .here)))))) (.cons .here (.cons (.there (.there (.there (.there .here)))) .nil)))
        ·rintro zk z9r zF zT zU ⟨h,z6U⟩
         replace h:=(zwr zk z9r).symm.trans h
         refine WC.seq ?_
         obtain ⟨zo,zwx,h⟩:=zb h
         refine WC.region ?_
         refine WL.quiet (d:=83) rfl rfl rfl (q_move rfl) ?_
         refine WL.enter2 (dd:=84) rfl rfl rfl (zg (l:=[.tmp 83]) Try.call19 (.cons rfl .nil)) (.nil : Sel [fz zF,row (.slice zT zk.length zU) 42 4 (zk.flatMap e42),stb zw 28 [(.int .i64 z8.fN),(.int .i64 z8.fD)]] [] [fz zF,row (.slice zT zk.length zU) 42 4 (zk.flatMap e42),stb zw 28 [(.int .i64 z8.fN),(.int .i64 z8.fD)]]) (fun w hw=>by have pz:=(hz.call2 hw (.nil : Sel [fz zF,row (.slice zT zk.length zU) 42 4 (zk.flatMap e42),stb zw 28 [(.int .i64 z8.fN),(.int .i64 z8.fD)]] [] [fz zF,row (.slice zT zk.length zU) 42 4 (zk.flatMap e42),stb zw 28 [(.int .i64 z8.fN),(.int .i64 z8.fD)]]) .here); exact w_curve_Norm (Z:=_) (z9J:=z3H) (z9K:=z3I) (z71:=z21) (r:=zo) w pz (z5P.mono ((Zle.left _ _).trans z6U)) zwx) ?_
         rintro z15 z16 _
         refine WL.quiet (d:=82) rfl rfl rfl (q_move rfl) ?_
         refine WL.quiet (d:=85) rfl rfl rfl (q_extract rfl rfl) ?_
         refine WL.quiet (d:=86) rfl rfl rfl (q_extract rfl rfl) ?_
         refine WL.quiet (d:=17) rfl rfl rfl (q_assign rfl) ?_
         refine WL.quiet (d:=8) rfl rfl rfl (q_assign rfl) ?_
         refine WL.nil ?_
         refine WX.then ?_
         refine WC.seq ?_
         refine WC.seq ?_
         obtain ⟨zkO,zwy,h⟩:=zb h
         refine WC.region ?_
         refine WL.quiet (d:=87) rfl rfl rfl (q_move rfl) ?_
         refine WL.quiet (d:=88) rfl rfl rfl (q_move rfl) ?_
         refine WL.quiet (d:=89) rfl rfl rfl (q_move rfl) ?_
         refine WL.quiet (d:=90) rfl rfl rfl (q_move rfl) ?_
         refine WL.callD (dd:=91) rfl rfl rfl (zg (l:=[.tmp 87,.tmp 88,.tmp 89,.tmp 90]) Try.call29 (.cons rfl (.cons rfl (.cons rfl (.cons rfl .nil))))) (.nil : Sel [row (.slice z15 zo.1.length z16) 42 4 (zo.1.flatMap e42),fz zF,row (.slice zT zk.length zU) 42 4 (zk.flatMap e42),stb zw 28 [(.int .i64 z8.fN),(.int .i64 z8.fD)]] [] [row (.slice z15 zo.1.length z16) 42 4 (zo.1.flatMap e42),fz zF,row (.slice zT zk.length zU) 42 4 (zk.flatMap e42),stb zw 28 [(.int .i64 z8.fN),(.int .i64 z8.fD)]]) (fun w hw=>by have pz:=(hz.call2 hw (.nil : Sel [row (.slice z15 zo.1.length z16) 42 4 (zo.1.flatMap e42),fz zF,row (.slice zT zk.length zU) 42 4 (zk.flatMap e42),stb zw 28 [(.int .i64 z8.fN),(.int .i64 z8.fD)]] [] [row (.slice z15 zo.1.length z16) 42 4 (zo.1.flatMap e42),fz zF,row (.slice zT zk.length zU) 42 4 (zk.flatMap e42),stb zw 28 [(.int .i64 z8.fN),(.int .i64 z8.fD)]]) (.there .here)).lend hw (.nil : Sel [row (.slice z15 zo.1.length z16) 42 4 (zo.1.flatMap e42),fz zF,row (.slice zT zk.length zU) 42 4 (zk.flatMap e42),stb zw 28 [(.int .i64 z8.fN),(.int .i64 z8.fD)]] [] [row (.slice z15 zo.1.length z16) 42 4 (zo.1.flatMap e42),fz zF,row (.slice zT zk.length zU) 42 4 (zk.flatMap e42),stb zw 28 [(.int .i64 z8.fN),(.int .i64 z8.fD)]]) (B:=[row (.slice z15 zo.1.length z16) 42 4 (zo.1.flatMap e42),row (.slice zT zk.length zU) 42 4 (zk.flatMap e42)]) (fun _ hx'=>((.cons .here (.cons (.there .here) .nil)) : Sel _ [row (.slice z15 zo.1.length z16) 42 4 (zo.1.flatMap e42),row (.slice zT zk.length zU) 42 4 (zk.flatMap e42)] _).mem hx'); exact w_law02_same (Z:=_) (z96:=z15) (z97:=z16) (z98:=zT) (z99:=zU) (z7d:=zo.1) (z7I:=zo.2) (z7e:=zk) (z7J:=z9r) (r:=zkO) w pz (ZA.row (hw.lent (.nil : Sel [row (.slice z15 zo.1.length z16) 42 4 (zo.1.flatMap e42),fz zF,row (.slice zT zk.length zU) 42 4 (zk.flatMap e42),stb zw 28 [(.int .i64 z8.fN),(.int .i64 z8.fD)]] [] [row (.slice z15 zo.1.length z16) 42 4 (zo.1.flatMap e42),fz zF,row (.slice zT zk.length zU) 42 4 (zk.flatMap e42),stb zw 28 [(.int .i64 z8.fN),(.int .i64 z8.fD)]]) (B:=[row (.slice z15 zo.1.length z16) 42 4 (zo.1.flatMap e42),row (.slice zT zk.length zU) 42 4 (zk.flatMap e42)]) (fun _ hx'=>((.cons .here (.cons (.there .here) .nil)) : Sel _ [row (.slice z15 zo.1.length z16) 42 4 (zo.1.flatMap e42),row (.slice zT zk.length zU) 42 4 (zk.flatMap e42)] _).mem hx') (.head _) _) (RR.flat (enc:=e42) (fun _=>rfl) _) ⟨w,pz.1⟩) (ZA.row (hw.lent (.nil : Sel [row (.slice z15 zo.1.length z16) 42 4 (zo.1.flatMap e42),fz zF,row (.slice zT zk.length zU) 42 4 (zk.flatMap e42),stb zw 28 [(.int .i64 z8.fN),(.int .i64 z8.fD)]] [] [row (.slice z15 zo.1.length z16) 42 4 (zo.1.flatMap e42),fz zF,row (.slice zT zk.length zU) 42 4 (zk.flatMap e42),stb zw 28 [(.int .i64 z8.fN),(.int .i64 z8.fD)]]) (B:=[row (.slice z15 zo.1.length z16) 42 4 (zo.1.flatMap e42),row (.slice zT zk.length zU) 42 4 (zk.flatMap e42)]) (fun _ hx'=>((.cons .here (.cons (.there .here) .nil)) : Sel _ [row (.slice z15 zo.1.length z16) 42 4 (zo.1.flatMap e42),row (.slice zT zk.length zU) 42 4 (zk.flatMap e42)] _).mem hx') (.tail _ (.head _)) _) (RR.flat (enc:=e42) (fun _=>rfl) _) ⟨w,pz.1⟩) zwy) ?_
         refine WL.quiet (d:=92) rfl rfl rfl (q_not rfl) ?_
         refine WL.nil ?_
         refine WX.then ?_
         refine WC.cond rfl (fun zkX=>?_) (fun zkX=>?_)
         ·replace h:=ite_t h zkX
          refine WC.seq ?_
          refine WC.region ?_
          refine WL.quiet (d:=6) rfl rfl rfl (q_assign rfl) ?_
          refine WL.nil ?_
          refine WX.then ?_
          refine WC.ret ?_
          refine WX.thenRet ?_
          obtain rfl:=Option.some.inj h
          refine WX.bpRet Try.results6 (.tmp rfl .nil) (fun w hw=>?_)
          exact ⟨zF,ret1 rfl,trivial,hw.sub (.cons (.there .here) .nil)⟩
         ·replace h:=ite_f h zkX
          refine WC.skip ?_
          refine WX.then ?_
          refine WC.seq ?_
          obtain ⟨zt,zwz,h⟩:=zb h
          refine WC.region ?_
          refine WL.quiet (d:=94) rfl rfl rfl (q_move rfl) ?_
          refine WL.quiet (d:=95) rfl rfl rfl (q_move rfl) ?_
          refine WL.enter3 (dd:=96) rfl rfl rfl (zg (l:=[.tmp 94,.tmp 95]) Try.call30 (.cons rfl (.cons rfl .nil))) (.nil : Sel [row (.slice z15 zo.1.length z16) 42 4 (zo.1.flatMap e42),fz zF,row (.slice zT zk.length zU) 42 4 (zk.flatMap e42),stb zw 28 [(.int .i64 z8.fN),(.int .i64 z8.fD)]] [] [row (.slice z15 zo.1.length z16) 42 4 (zo.1.flatMap e42),fz zF,row (.slice zT zk.length zU) 42 4 (zk.flatMap e42),stb zw 28 [(.int .i64 z8.fN),(.int .i64 z8.fD)]]) (fun w hw=>by have pz:=(hz.call2 hw (.nil : Sel [row (.slice z15 zo.1.length z16) 42 4 (zo.1.flatMap e42),fz zF,row (.slice zT zk.length zU) 42 4 (zk.flatMap e42),stb zw 28 [(.int .i64 z8.fN),(.int .i64 z8.fD)]] [] [row (.slice z15 zo.1.length z16) 42 4 (zo.1.flatMap e42),fz zF,row (.slice zT zk.length zU) 42 4 (zk.flatMap e42),stb zw 28 [(.int .i64 z8.fN),(.int .i64 z8.fD)]]) (.there .here)); exact w_curve_Sum (Z:=_) (z8L:=z3H) (z8M:=z3I) (z8N:=z6l) (z8O:=z6m) (z6K:=z21) (z6L:=z4u) (r:=zt) w pz (z5P.mono ((Zle.left _ _).trans z6U)) (zfV.mono ((Zle.left _ _).trans z6U)) zwz) ?_
          rintro z1m z1y z1z _
          refine WL.merge .here (.there (.there .here)) ?_
          refine WL.quiet (d:=93) rfl rfl rfl (q_move rfl) ?_
          refine WL.quiet (d:=97) rfl rfl rfl (q_extract rfl rfl) ?_
          refine WL.quiet (d:=98) rfl rfl rfl (q_extract rfl rfl) ?_
          refine WL.quiet (d:=17) rfl rfl rfl (q_assign rfl) ?_
          refine WL.quiet (d:=8) rfl rfl rfl (q_assign rfl) ?_
          refine WL.nil ?_
          refine WX.then ?_
          refine WC.seq ?_
          obtain ⟨zu,zwA,h⟩:=zb h
          refine WC.region ?_
          refine WL.quiet (d:=100) rfl rfl rfl (q_move rfl) ?_
          refine WL.quiet (d:=101) rfl rfl rfl (q_move rfl) ?_
          refine WL.enter3 (dd:=102) rfl rfl rfl (zg (l:=[.tmp 100,.tmp 101]) Try.call31 (.cons rfl (.cons rfl .nil))) (.nil : Sel [fz (zF ++ z1m),row (.slice z1y zt.1.length z1z) 42 4 (zt.1.flatMap e42),row (.slice z15 zo.1.length z16) 42 4 (zo.1.flatMap e42),row (.slice zT zk.length zU) 42 4 (zk.flatMap e42),stb zw 28 [(.int .i64 z8.fN),(.int .i64 z8.fD)]] [] [fz (zF ++ z1m),row (.slice z1y zt.1.length z1z) 42 4 (zt.1.flatMap e42),row (.slice z15 zo.1.length z16) 42 4 (zo.1.flatMap e42),row (.slice zT zk.length zU) 42 4 (zk.flatMap e42),stb zw 28 [(.int .i64 z8.fN),(.int .i64 z8.fD)]]) (fun w hw=>by have pz:=(hz.call2 hw (.nil : Sel [fz (zF ++ z1m),row (.slice z1y zt.1.length z1z) 42 4 (zt.1.flatMap e42),row (.slice z15 zo.1.length z16) 42 4 (zo.1.flatMap e42),row (.slice zT zk.length zU) 42 4 (zk.flatMap e42),stb zw 28 [(.int .i64 z8.fN),(.int .i64 z8.fD)]] [] [fz (zF ++ z1m),row (.slice z1y zt.1.length z1z) 42 4 (zt.1.flatMap e42),row (.slice z15 zo.1.length z16) 42 4 (zo.1.flatMap e42),row (.slice zT zk.length zU) 42 4 (zk.flatMap e42),stb zw 28 [(.int .i64 z8.fN),(.int .i64 z8.fD)]]) .here); exact w_ref02_Sum (Z:=_) (zab:=z3H) (zac:=z3I) (zad:=z6l) (zae:=z6m) (z7f:=z21) (z7g:=z4u) (r:=zu) w pz (z5P.mono ((Zle.left _ _).trans (z6U.trans ((Zle.left _ _).trans (Zle.assoc _ _ _))))) (zfV.mono ((Zle.left _ _).trans (z6U.trans ((Zle.left _ _).trans (Zle.assoc _ _ _))))) zwA) ?_
          rintro z1u z1G z1H _
          refine WL.merge .here (.there .here) ?_
          refine WL.quiet (d:=99) rfl rfl rfl (q_move rfl) ?_
          refine WL.quiet (d:=103) rfl rfl rfl (q_extract rfl rfl) ?_
          refine WL.quiet (d:=104) rfl rfl rfl (q_extract rfl rfl) ?_
          refine WL.quiet (d:=18) rfl rfl rfl (q_assign rfl) ?_
          refine WL.quiet (d:=10) rfl rfl rfl (q_assign rfl) ?_
          refine WL.nil ?_
          refine WX.then ?_
          refine WC.seq ?_
          refine WC.seq ?_
          obtain ⟨zkP,zwB,h⟩:=zb h
          refine WC.region ?_
          refine WL.quiet (d:=105) rfl rfl rfl (q_move rfl) ?_
          refine WL.quiet (d:=106) rfl rfl rfl (q_move rfl) ?_
          refine WL.quiet (d:=107) rfl rfl rfl (q_move rfl) ?_
          refine WL.quiet (d:=108) rfl rfl rfl (q_move rfl) ?_
          refine WL.callD (dd:=109) rfl rfl rfl (zg (l:=[.tmp 105,.tmp 106,.tmp 107,.tmp 108]) Try.call29 (.cons rfl (.cons rfl (.cons rfl (.cons rfl .nil))))) (.nil : Sel [fz ((zF ++ z1m) ++ z1u),row (.slice z1G zu.1.length z1H) 42 4 (zu.1.flatMap e42),row (.slice z1y zt.1.length z1z) 42 4 (zt.1.flatMap e42),row (.slice z15 zo.1.length z16) 42 4 (zo.1.flatMap e42),row (.slice zT zk.length zU) 42 4 (zk.flatMap e42),stb zw 28 [(.int .i64 z8.fN),(.int .i64 z8.fD)]] [] [fz ((zF ++ z1m) ++ z1u),row (.slice z1G zu.1.length z1H) 42 4 (zu.1.flatMap e42),row (.slice z1y zt.1.length z1z) 42 4 (zt.1.flatMap e42),row (.slice z15 zo.1.length z16) 42 4 (zo.1.flatMap e42),row (.slice zT zk.length zU) 42 4 (zk.flatMap e42),stb zw 28 [(.int .i64 z8.fN),(.int .i64 z8.fD)]]) (fun w hw=>by have pz:=(hz.call2 hw (.nil : Sel [fz ((zF ++ z1m) ++ z1u),row (.slice z1G zu.1.length z1H) 42 4 (zu.1.flatMap e42),row (.slice z1y zt.1.length z1z) 42 4 (zt.1.flatMap e42),row (.slice z15 zo.1.length z16) 42 4 (zo.1.flatMap e42),row (.slice zT zk.length zU) 42 4 (zk.flatMap e42),stb zw 28 [(.int .i64 z8.fN),(.int .i64 z8.fD)]] [] [fz ((zF ++ z1m) ++ z1u),row (.slice z1G zu.1.length z1H) 42 4 (zu.1.flatMap e42),row (.slice z1y zt.1.length z1z) 42 4 (zt.1.flatMap e42),row (.slice z15 zo.1.length z16) 42 4 (zo.1.flatMap e42),row (.slice zT zk.length zU) 42 4 (zk.flatMap e42),stb zw 28 [(.int .i64 z8.fN),(.int .i64 z8.fD)]]) .here).lend hw (.nil : Sel [fz ((zF ++ z1m) ++ z1u),row (.slice z1G zu.1.length z1H) 42 4 (zu.1.flatMap e42),row (.slice z1y zt.1.length z1z) 42 4 (zt.1.flatMap e42),row (.slice z15 zo.1.length z16) 42 4 (zo.1.flatMap e42),row (.slice zT zk.length zU) 42 4 (zk.flatMap e42),stb zw 28 [(.int .i64 z8.fN),(.int .i64 z8.fD)]] [] [fz ((zF ++ z1m) ++ z1u),row (.slice z1G zu.1.length z1H) 42 4 (zu.1.flatMap e42),row (.slice z1y zt.1.length z1z) 42 4 (zt.1.flatMap e42),row (.slice z15 zo.1.length z16) 42 4 (zo.1.flatMap e42),row (.slice zT zk.length zU) 42 4 (zk.flatMap e42),stb zw 28 [(.int .i64 z8.fN),(.int .i64 z8.fD)]]) (B:=[row (.slice z1y zt.1.length z1z) 42 4 (zt.1.flatMap e42),row (.slice z1G zu.1.length z1H) 42 4 (zu.1.flatMap e42)]) (fun _ hx'=>((.cons (.there (.there .here)) (.cons (.there .here) .nil)) : Sel _ [row (.slice z1y zt.1.length z1z) 42 4 (zt.1.flatMap e42),row (.slice z1G zu.1.length z1H) 42 4 (zu.1.flatMap e42)] _).mem hx'); exact w_law02_same (Z:=_) (z96:=z1y) (z97:=z1z) (z98:=z1G) (z99:=z1H) (z7d:=zt.1) (z7I:=zt.2) (z7e:=zu.1) (z7J:=zu.2) (r:=zkP) w pz (ZA.row (hw.lent (.nil : Sel [fz ((zF ++ z1m) ++ z1u),row (.slice z1G zu.1.length z1H) 42 4 (zu.1.flatMap e42),row (.slice z1y zt.1.length z1z) 42 4 (zt.1.flatMap e42),row (.slice z15 zo.1.length z16) 42 4 (zo.1.flatMap e42),row (.slice zT zk.length zU) 42 4 (zk.flatMap e42),stb zw 28 [(.int .i64 z8.fN),(.int .i64 z8.fD)]] [] [fz ((zF ++ z1m) ++ z1u),row (.slice z1G zu.1.length z1H) 42 4 (zu.1.flatMap e42),row (.slice z1y zt.1.length z1z) 42 4 (zt.1.flatMap e42),row (.slice z15 zo.1.length z16) 42 4 (zo.1.flatMap e42),row (.slice zT zk.length zU) 42 4 (zk.flatMap e42),stb zw 28 [(.int .i64 z8.fN),(.int .i64 z8.fD)]]) (B:=[row (.slice z1y zt.1.length z1z) 42 4 (zt.1.flatMap e42),row (.slice z1G zu.1.length z1H) 42 4 (zu.1.flatMap e42)]) (fun _ hx'=>((.cons (.there (.there .here)) (.cons (.there .here) .nil)) : Sel _ [row (.slice z1y zt.1.length z1z) 42 4 (zt.1.flatMap e42),row (.slice z1G zu.1.length z1H) 42 4 (zu.1.flatMap e42)] _).mem hx') (.head _) _) (RR.flat (enc:=e42) (fun _=>rfl) _) ⟨w,pz.1⟩) (ZA.row (hw.lent (.nil : Sel [fz ((zF ++ z1m) ++ z1u),row (.slice z1G zu.1.length z1H) 42 4 (zu.1.flatMap e42),row (.slice z1y zt.1.length z1z) 42 4 (zt.1.flatMap e42),row (.slice z15 zo.1.length z16) 42 4 (zo.1.flatMap e42),row (.slice zT zk.length zU) 42 4 (zk.flatMap e42),stb zw 28 [(.int .i64 z8.fN),(.int .i64 z8.fD)]] [] [fz ((zF ++ z1m) ++ z1u),row (.slice z1G zu.1.length z1H) 42 4 (zu.1.flatMap e42),row (.slice z1y zt.1.length z1z) 42 4 (zt.1.flatMap e42),row (.slice z15 zo.1.length z16) 42 4 (zo.1.flatMap e42),row (.slice zT zk.length zU) 42 4 (zk.flatMap e42),stb zw 28 [(.int .i64 z8.fN),(.int .i64 z8.fD)]]) (B:=[row (.slice z1y zt.1.length z1z) 42 4 (zt.1.flatMap e42),row (.slice z1G zu.1.length z1H) 42 4 (zu.1.flatMap e42)]) (fun _ hx'=>((.cons (.there (.there .here)) (.cons (.there .here) .nil)) : Sel _ [row (.slice z1y zt.1.length z1z) 42 4 (zt.1.flatMap e42),row (.slice z1G zu.1.length z1H) 42 4 (zu.1.flatMap e42)] _).mem hx') (.tail _ (.head _)) _) (RR.flat (enc:=e42) (fun _=>rfl) _) ⟨w,pz.1⟩) zwB) ?_
          refine WL.quiet (d:=110) rfl rfl rfl (q_not rfl) ?_
          refine WL.nil ?_
          refine WX.then ?_
          refine WC.cond rfl (fun zkY=>?_) (fun zkY=>?_)
          ·replace h:=ite_t h zkY
           refine WC.seq ?_
           refine WC.region ?_
           refine WL.quiet (d:=6) rfl rfl rfl (q_assign rfl) ?_
           refine WL.nil ?_
           refine WX.then ?_
           refine WC.ret ?_
           refine WX.thenRet ?_
           obtain rfl:=Option.some.inj h
           refine WX.bpRet Try.results6 (.tmp rfl .nil) (fun w hw=>?_)
           exact ⟨((zF ++ z1m) ++ z1u),ret1 rfl,trivial,hw.sub (.cons .here .nil)⟩
          ·replace h:=ite_f h zkY
           refine WC.skip ?_
           refine WX.then ?_
           refine WC.seq ?_
           obtain ⟨zA,zwC,h⟩:=zb h
           refine WC.region ?_
           refine WL.quiet (d:=112) rfl rfl rfl (q_move rfl) ?_
           refine WL.quiet (d:=113) rfl rfl rfl (q_move rfl) ?_
           refine WL.enter2 (dd:=114) rfl rfl rfl (zg (l:=[.tmp 112,.tmp 113]) Try.call32 (.cons rfl (.cons rfl .nil))) (.nil : Sel [fz ((zF ++ z1m) ++ z1u),row (.slice z1G zu.1.length z1H) 42 4 (zu.1.flatMap e42),row (.slice z1y zt.1.length z1z) 42 4 (zt.1.flatMap e42),row (.slice z15 zo.1.length z16) 42 4 (zo.1.flatMap e42),row (.slice zT zk.length zU) 42 4 (zk.flatMap e42),stb zw 28 [(.int .i64 z8.fN),(.int .i64 z8.fD)]] [] [fz ((zF ++ z1m) ++ z1u),row (.slice z1G zu.1.length z1H) 42 4 (zu.1.flatMap e42),row (.slice z1y zt.1.length z1z) 42 4 (zt.1.flatMap e42),row (.slice z15 zo.1.length z16) 42 4 (zo.1.flatMap e42),row (.slice zT zk.length zU) 42 4 (zk.flatMap e42),stb zw 28 [(.int .i64 z8.fN),(.int .i64 z8.fD)]]) (fun w hw=>by have pz:=(hz.call2 hw (.nil : Sel [fz ((zF ++ z1m) ++ z1u),row (.slice z1G zu.1.length z1H) 42 4 (zu.1.flatMap e42),row (.slice z1y zt.1.length z1z) 42 4 (zt.1.flatMap e42),row (.slice z15 zo.1.length z16) 42 4 (zo.1.flatMap e42),row (.slice zT zk.length zU) 42 4 (zk.flatMap e42),stb zw 28 [(.int .i64 z8.fN),(.int .i64 z8.fD)]] [] [fz ((zF ++ z1m) ++ z1u),row (.slice z1G zu.1.length z1H) 42 4 (zu.1.flatMap e42),row (.slice z1y zt.1.length z1z) 42 4 (zt.1.flatMap e42),row (.slice z15 zo.1.length z16) 42 4 (zo.1.flatMap e42),row (.slice zT zk.length zU) 42 4 (zk.flatMap e42),stb zw 28 [(.int .i64 z8.fN),(.int .i64 z8.fD)]]) .here); exact w_curve_Min (Z:=_) (z3o:=z3H) (z3p:=z3I) (z3q:=z6l) (z3r:=z6m) (z1S:=z21) (z1T:=z4u) (r:=zA) w pz (z5P.mono ((Zle.left _ _).trans (z6U.trans ((Zle.left _ _).trans ((Zle.assoc _ _ _).trans ((Zle.left _ _).trans (Zle.assoc _ _ _))))))) (zfV.mono ((Zle.left _ _).trans (z6U.trans ((Zle.left _ _).trans ((Zle.assoc _ _ _).trans ((Zle.left _ _).trans (Zle.assoc _ _ _))))))) zwC) ?_
           rintro z2a z2b _
           refine WL.quiet (d:=111) rfl rfl rfl (q_move rfl) ?_
           refine WL.quiet (d:=115) rfl rfl rfl (q_extract rfl rfl) ?_
           refine WL.quiet (d:=116) rfl rfl rfl (q_extract rfl rfl) ?_
           refine WL.quiet (d:=17) rfl rfl rfl (q_assign rfl) ?_
           refine WL.quiet (d:=8) rfl rfl rfl (q_assign rfl) ?_
           refine WL.nil ?_
           refine WX.then ?_
           refine WC.seq ?_
           obtain ⟨zQ,zwD,h⟩:=zb h
           refine WC.region ?_
           refine WL.quiet (d:=118) rfl rfl rfl (q_move rfl) ?_
           refine WL.quiet (d:=119) rfl rfl rfl (q_move rfl) ?_
           refine WL.enter3 (dd:=120) rfl rfl rfl (zg (l:=[.tmp 118,.tmp 119]) Try.call33 (.cons rfl (.cons rfl .nil))) (.nil : Sel [row (.slice z2a zA.1.length z2b) 42 4 (zA.1.flatMap e42),fz ((zF ++ z1m) ++ z1u),row (.slice z1G zu.1.length z1H) 42 4 (zu.1.flatMap e42),row (.slice z1y zt.1.length z1z) 42 4 (zt.1.flatMap e42),row (.slice z15 zo.1.length z16) 42 4 (zo.1.flatMap e42),row (.slice zT zk.length zU) 42 4 (zk.flatMap e42),stb zw 28 [(.int .i64 z8.fN),(.int .i64 z8.fD)]] [] [row (.slice z2a zA.1.length z2b) 42 4 (zA.1.flatMap e42),fz ((zF ++ z1m) ++ z1u),row (.slice z1G zu.1.length z1H) 42 4 (zu.1.flatMap e42),row (.slice z1y zt.1.length z1z) 42 4 (zt.1.flatMap e42),row (.slice z15 zo.1.length z16) 42 4 (zo.1.flatMap e42),row (.slice zT zk.length zU) 42 4 (zk.flatMap e42),stb zw 28 [(.int .i64 z8.fN),(.int .i64 z8.fD)]]) (fun w hw=>by have pz:=(hz.call2 hw (.nil : Sel [row (.slice z2a zA.1.length z2b) 42 4 (zA.1.flatMap e42),fz ((zF ++ z1m) ++ z1u),row (.slice z1G zu.1.length z1H) 42 4 (zu.1.flatMap e42),row (.slice z1y zt.1.length z1z) 42 4 (zt.1.flatMap e42),row (.slice z15 zo.1.length z16) 42 4 (zo.1.flatMap e42),row (.slice zT zk.length zU) 42 4 (zk.flatMap e42),stb zw 28 [(.int .i64 z8.fN),(.int .i64 z8.fD)]] [] [row (.slice z2a zA.1.length z2b) 42 4 (zA.1.flatMap e42),fz ((zF ++ z1m) ++ z1u),row (.slice z1G zu.1.length z1H) 42 4 (zu.1.flatMap e42),row (.slice z1y zt.1.length z1z) 42 4 (zt.1.flatMap e42),row (.slice z15 zo.1.length z16) 42 4 (zo.1.flatMap e42),row (.slice zT zk.length zU) 42 4 (zk.flatMap e42),stb zw 28 [(.int .i64 z8.fN),(.int .i64 z8.fD)]]) (.there .here)); exact w_ref02_Min (Z:=_) (zb2:=z3H) (zb3:=z3I) (zb4:=z6l) (zb5:=z6m) (z5k:=z21) (z6c:=z4u) (r:=zQ) w pz (z5P.mono ((Zle.left _ _).trans (z6U.trans ((Zle.left _ _).trans ((Zle.assoc _ _ _).trans ((Zle.left _ _).trans (Zle.assoc _ _ _))))))) (zfV.mono ((Zle.left _ _).trans (z6U.trans ((Zle.left _ _).trans ((Zle.assoc _ _ _).trans ((Zle.left _ _).trans (Zle.assoc _ _ _))))))) zwD) ?_
           rintro z27 z2q z2r _
           refine WL.merge .here (.there (.there .here)) ?_
           refine WL.quiet (d:=117) rfl rfl rfl (q_move rfl) ?_
           refine WL.quiet (d:=121) rfl rfl rfl (q_extract rfl rfl) ?_
           refine WL.quiet (d:=122) rfl rfl rfl (q_extract rfl rfl) ?_
           refine WL.quiet (d:=18) rfl rfl rfl (q_assign rfl) ?_
           refine WL.quiet (d:=10) rfl rfl rfl (q_assign rfl) ?_
           refine WL.nil ?_
           refine WX.then ?_
           refine WC.seq ?_
           refine WC.seq ?_
           obtain ⟨zkQ,zwE,h⟩:=zb h
           refine WC.region ?_
           refine WL.quiet (d:=123) rfl rfl rfl (q_move rfl) ?_
           refine WL.quiet (d:=124) rfl rfl rfl (q_move rfl) ?_
           refine WL.quiet (d:=125) rfl rfl rfl (q_move rfl) ?_
           refine WL.quiet (d:=126) rfl rfl rfl (q_move rfl) ?_
           refine WL.callD (dd:=127) rfl rfl rfl (zg (l:=[.tmp 123,.tmp 124,.tmp 125,.tmp 126]) Try.call29 (.cons rfl (.cons rfl (.cons rfl (.cons rfl .nil))))) (.nil : Sel [fz (((zF ++ z1m) ++ z1u) ++ z27),row (.slice z2q zQ.1.length z2r) 42 4 (zQ.1.flatMap e42),row (.slice z2a zA.1.length z2b) 42 4 (zA.1.flatMap e42),row (.slice z1G zu.1.length z1H) 42 4 (zu.1.flatMap e42),row (.slice z1y zt.1.length z1z) 42 4 (zt.1.flatMap e42),row (.slice z15 zo.1.length z16) 42 4 (zo.1.flatMap e42),row (.slice zT zk.length zU) 42 4 (zk.flatMap e42),stb zw 28 [(.int .i64 z8.fN),(.int .i64 z8.fD)]] [] [fz (((zF ++ z1m) ++ z1u) ++ z27),row (.slice z2q zQ.1.length z2r) 42 4 (zQ.1.flatMap e42),row (.slice z2a zA.1.length z2b) 42 4 (zA.1.flatMap e42),row (.slice z1G zu.1.length z1H) 42 4 (zu.1.flatMap e42),row (.slice z1y zt.1.length z1z) 42 4 (zt.1.flatMap e42),row (.slice z15 zo.1.length z16) 42 4 (zo.1.flatMap e42),row (.slice zT zk.length zU) 42 4 (zk.flatMap e42),stb zw 28 [(.int .i64 z8.fN),(.int .i64 z8.fD)]]) (fun w hw=>by have pz:=(hz.call2 hw (.nil : Sel [fz (((zF ++ z1m) ++ z1u) ++ z27),row (.slice z2q zQ.1.length z2r) 42 4 (zQ.1.flatMap e42),row (.slice z2a zA.1.length z2b) 42 4 (zA.1.flatMap e42),row (.slice z1G zu.1.length z1H) 42 4 (zu.1.flatMap e42),row (.slice z1y zt.1.length z1z) 42 4 (zt.1.flatMap e42),row (.slice z15 zo.1.length z16) 42 4 (zo.1.flatMap e42),row (.slice zT zk.length zU) 42 4 (zk.flatMap e42),stb zw 28 [(.int .i64 z8.fN),(.int .i64 z8.fD)]] [] [fz (((zF ++ z1m) ++ z1u) ++ z27),row (.slice z2q zQ.1.length z2r) 42 4 (zQ.1.flatMap e42),row (.slice z2a zA.1.length z2b) 42 4 (zA.1.flatMap e42),row (.slice z1G zu.1.length z1H) 42 4 (zu.1.flatMap e42),row (.slice z1y zt.1.length z1z) 42 4 (zt.1.flatMap e42),row (.slice z15 zo.1.length z16) 42 4 (zo.1.flatMap e42),row (.slice zT zk.length zU) 42 4 (zk.flatMap e42),stb zw 28 [(.int .i64 z8.fN),(.int .i64 z8.fD)]]) .here).lend hw (.nil : Sel [fz (((zF ++ z1m) ++ z1u) ++ z27),row (.slice z2q zQ.1.length z2r) 42 4 (zQ.1.flatMap e42),row (.slice z2a zA.1.length z2b) 42 4 (zA.1.flatMap e42),row (.slice z1G zu.1.length z1H) 42 4 (zu.1.flatMap e42),row (.slice z1y zt.1.length z1z) 42 4 (zt.1.flatMap e42),row (.slice z15 zo.1.length z16) 42 4 (zo.1.flatMap e42),row (.slice zT zk.length zU) 42 4 (zk.flatMap e42),stb zw 28 [(.int .i64 z8.fN),(.int .i64 z8.fD)]] [] [fz (((zF ++ z1m) ++ z1u) ++ z27),row (.slice z2q zQ.1.length z2r) 42 4 (zQ.1.flatMap e42),row (.slice z2a zA.1.length z2b) 42 4 (zA.1.flatMap e42),row (.slice z1G zu.1.length z1H) 42 4 (zu.1.flatMap e42),row (.slice z1y zt.1.length z1z) 42 4 (zt.1.flatMap e42),row (.slice z15 zo.1.length z16) 42 4 (zo.1.flatMap e42),row (.slice zT zk.length zU) 42 4 (zk.flatMap e42),stb zw 28 [(.int .i64 z8.fN),(.int .i64 z8.fD)]]) (B:=[row (.slice z2a zA.1.length z2b) 42 4 (zA.1.flatMap e42),row (.slice z2q zQ.1.length z2r) 42 4 (zQ.1.flatMap e42)]) (fun _ hx'=>((.cons (.there (.there .here)) (.cons (.there .here) .nil)) : Sel _ [row (.slice z2a zA.1.length z2b) 42 4 (zA.1.flatMap e42),row (.slice z2q zQ.1.length z2r) 42 4 (zQ.1.flatMap e42)] _).mem hx'); exact w_law02_same (Z:=_) (z96:=z2a) (z97:=z2b) (z98:=z2q) (z99:=z2r) (z7d:=zA.1) (z7I:=zA.2) (z7e:=zQ.1) (z7J:=zQ.2) (r:=zkQ) w pz (ZA.row (hw.lent (.nil : Sel [fz (((zF ++ z1m) ++ z1u) ++ z27),row (.slice z2q zQ.1.length z2r) 42 4 (zQ.1.flatMap e42),row (.slice z2a zA.1.length z2b) 42 4 (zA.1.flatMap e42),row (.slice z1G zu.1.length z1H) 42 4 (zu.1.flatMap e42),row (.slice z1y zt.1.length z1z) 42 4 (zt.1.flatMap e42),row (.slice z15 zo.1.length z16) 42 4 (zo.1.flatMap e42),row (.slice zT zk.length zU) 42 4 (zk.flatMap e42),stb zw 28 [(.int .i64 z8.fN),(.int .i64 z8.fD)]] [] [fz (((zF ++ z1m) ++ z1u) ++ z27),row (.slice z2q zQ.1.length z2r) 42 4 (zQ.1.flatMap e42),row (.slice z2a zA.1.length z2b) 42 4 (zA.1.flatMap e42),row (.slice z1G zu.1.length z1H) 42 4 (zu.1.flatMap e42),row (.slice z1y zt.1.length z1z) 42 4 (zt.1.flatMap e42),row (.slice z15 zo.1.length z16) 42 4 (zo.1.flatMap e42),row (.slice zT zk.length zU) 42 4 (zk.flatMap e42),stb zw 28 [(.int .i64 z8.fN),(.int .i64 z8.fD)]]) (B:=[row (.slice z2a zA.1.length z2b) 42 4 (zA.1.flatMap e42),row (.slice z2q zQ.1.length z2r) 42 4 (zQ.1.flatMap e42)]) (fun _ hx'=>((.cons (.there (.there .here)) (.cons (.there .here) .nil)) : Sel _ [row (.slice z2a zA.1.length z2b) 42 4 (zA.1.flatMap e42),row (.slice z2q zQ.1.length z2r) 42 4 (zQ.1.flatMap e42)] _).mem hx') (.head _) _) (RR.flat (enc:=e42) (fun _=>rfl) _) ⟨w,pz.1⟩) (ZA.row (hw.lent (.nil : Sel [fz (((zF ++ z1m) ++ z1u) ++ z27),row (.slice z2q zQ.1.length z2r) 42 4 (zQ.1.flatMap e42),row (.slice z2a zA.1.length z2b) 42 4 (zA.1.flatMap e42),row (.slice z1G zu.1.length z1H) 42 4 (zu.1.flatMap e42),row (.slice z1y zt.1.length z1z) 42 4 (zt.1.flatMap e42),row (.slice z15 zo.1.length z16) 42 4 (zo.1.flatMap e42),row (.slice zT zk.length zU) 42 4 (zk.flatMap e42),stb zw 28 [(.int .i64 z8.fN),(.int .i64 z8.fD)]] [] [fz (((zF ++ z1m) ++ z1u) ++ z27),row (.slice z2q zQ.1.length z2r) 42 4 (zQ.1.flatMap e42),row (.slice z2a zA.1.length z2b) 42 4 (zA.1.flatMap e42),row (.slice z1G zu.1.length z1H) 42 4 (zu.1.flatMap e42),row (.slice z1y zt.1.length z1z) 42 4 (zt.1.flatMap e42),row (.slice z15 zo.1.length z16) 42 4 (zo.1.flatMap e42),row (.slice zT zk.length zU) 42 4 (zk.flatMap e42),stb zw 28 [(.int .i64 z8.fN),(.int .i64 z8.fD)]]) (B:=[row (.slice z2a zA.1.length z2b) 42 4 (zA.1.flatMap e42),row (.slice z2q zQ.1.length z2r) 42 4 (zQ.1.flatMap e42)]) (fun _ hx'=>((.cons (.there (.there .here)) (.cons (.there .here) .nil)) : Sel _ [row (.slice z2a zA.1.length z2b) 42 4 (zA.1.flatMap e42),row (.slice z2q zQ.1.length z2r) 42 4 (zQ.1.flatMap e42)] _).mem hx') (.tail _ (.head _)) _) (RR.flat (enc:=e42) (fun _=>rfl) _) ⟨w,pz.1⟩) zwE) ?_
           refine WL.quiet (d:=128) rfl rfl rfl (q_not rfl) ?_
           refine WL.nil ?_
           refine WX.then ?_
           refine WC.cond rfl (fun zkZ=>?_) (fun zkZ=>?_)
           ·replace h:=ite_t h zkZ
            refine WC.seq ?_
            refine WC.region ?_
            refine WL.quiet (d:=6) rfl rfl rfl (q_assign rfl) ?_
            refine WL.nil ?_
            refine WX.then ?_
            refine WC.ret ?_
            refine WX.thenRet ?_
            obtain rfl:=Option.some.inj h
            refine WX.bpRet Try.results6 (.tmp rfl .nil) (fun w hw=>?_)
            exact ⟨(((zF ++ z1m) ++ z1u) ++ z27),ret1 rfl,trivial,hw.sub (.cons .here .nil)⟩
           ·replace h:=ite_f h zkZ
            refine WC.skip ?_
            refine WX.then ?_
            refine WC.seq ?_
            obtain ⟨z1C,zwF,h⟩:=zb h
            refine WC.region ?_
            refine WL.quiet (d:=130) rfl rfl rfl (q_move rfl) ?_
            refine WL.quiet (d:=131) rfl rfl rfl (q_loadA (cs:=[(.int .i64 z8.fN),(.int .i64 z8.fD)]) aggT_28 rfl rfl (rd_all (.there (.there (.there (.there (.there (.there (.there .here))))))))) ?_
            refine WL.enter2 (dd:=132) rfl rfl rfl (zg (l:=[.tmp 130,.tmp 131]) Try.call34 (.cons rfl (.cons rfl .nil))) (.nil : Sel [fz (((zF ++ z1m) ++ z1u) ++ z27),row (.slice z2q zQ.1.length z2r) 42 4 (zQ.1.flatMap e42),row (.slice z2a zA.1.length z2b) 42 4 (zA.1.flatMap e42),row (.slice z1G zu.1.length z1H) 42 4 (zu.1.flatMap e42),row (.slice z1y zt.1.length z1z) 42 4 (zt.1.flatMap e42),row (.slice z15 zo.1.length z16) 42 4 (zo.1.flatMap e42),row (.slice zT zk.length zU) 42 4 (zk.flatMap e42),stb zw 28 [(.int .i64 z8.fN),(.int .i64 z8.fD)]] [] [fz (((zF ++ z1m) ++ z1u) ++ z27),row (.slice z2q zQ.1.length z2r) 42 4 (zQ.1.flatMap e42),row (.slice z2a zA.1.length z2b) 42 4 (zA.1.flatMap e42),row (.slice z1G zu.1.length z1H) 42 4 (zu.1.flatMap e42),row (.slice z1y zt.1.length z1z) 42 4 (zt.1.flatMap e42),row (.slice z15 zo.1.length z16) 42 4 (zo.1.flatMap e42),row (.slice zT zk.length zU) 42 4 (zk.flatMap e42),stb zw 28 [(.int .i64 z8.fN),(.int .i64 z8.fD)]]) (fun w hw=>by have pz:=(hz.call2 hw (.nil : Sel [fz (((zF ++ z1m) ++ z1u) ++ z27),row (.slice z2q zQ.1.length z2r) 42 4 (zQ.1.flatMap e42),row (.slice z2a zA.1.length z2b) 42 4 (zA.1.flatMap e42),row (.slice z1G zu.1.length z1H) 42 4 (zu.1.flatMap e42),row (.slice z1y zt.1.length z1z) 42 4 (zt.1.flatMap e42),row (.slice z15 zo.1.length z16) 42 4 (zo.1.flatMap e42),row (.slice zT zk.length zU) 42 4 (zk.flatMap e42),stb zw 28 [(.int .i64 z8.fN),(.int .i64 z8.fD)]] [] [fz (((zF ++ z1m) ++ z1u) ++ z27),row (.slice z2q zQ.1.length z2r) 42 4 (zQ.1.flatMap e42),row (.slice z2a zA.1.length z2b) 42 4 (zA.1.flatMap e42),row (.slice z1G zu.1.length z1H) 42 4 (zu.1.flatMap e42),row (.slice z1y zt.1.length z1z) 42 4 (zt.1.flatMap e42),row (.slice z15 zo.1.length z16) 42 4 (zo.1.flatMap e42),row (.slice zT zk.length zU) 42 4 (zk.flatMap e42),stb zw 28 [(.int .i64 z8.fN),(.int .i64 z8.fD)]]) .here); exact w_curve_Shift (Z:=_) (z8J:=z3H) (z8K:=z3I) (zS:=z21) (z1O:=z8) (r:=z1C) w pz (z5P.mono ((Zle.left _ _).trans (z6U.trans ((Zle.left _ _).trans ((Zle.assoc _ _ _).trans ((Zle.left _ _).trans ((Zle.assoc _ _ _).trans ((Zle.left _ _).trans (Zle.assoc _ _ _))))))))) zwF) ?_
            rintro z3s z3t _
            refine WL.quiet (d:=129) rfl rfl rfl (q_move rfl) ?_
            refine WL.quiet (d:=133) rfl rfl rfl (q_extract rfl rfl) ?_
            refine WL.quiet (d:=134) rfl rfl rfl (q_extract rfl rfl) ?_
            refine WL.quiet (d:=17) rfl rfl rfl (q_assign rfl) ?_
            refine WL.quiet (d:=8) rfl rfl rfl (q_assign rfl) ?_
            refine WL.nil ?_
            refine WX.then ?_
            refine WC.seq ?_
            obtain ⟨z1U,zwG,h⟩:=zb h
            refine WC.region ?_
            refine WL.quiet (d:=136) rfl rfl rfl (q_move rfl) ?_
            refine WL.quiet (d:=137) rfl rfl rfl (q_loadA (cs:=[(.int .i64 z8.fN),(.int .i64 z8.fD)]) aggT_28 rfl rfl (rd_all (.there (.there (.there (.there (.there (.there (.there (.there .here)))))))))) ?_
            refine WL.enter3 (dd:=138) rfl rfl rfl (zg (l:=[.tmp 136,.tmp 137]) Try.call35 (.cons rfl (.cons rfl .nil))) (.nil : Sel [row (.slice z3s z1C.1.length z3t) 42 4 (z1C.1.flatMap e42),fz (((zF ++ z1m) ++ z1u) ++ z27),row (.slice z2q zQ.1.length z2r) 42 4 (zQ.1.flatMap e42),row (.slice z2a zA.1.length z2b) 42 4 (zA.1.flatMap e42),row (.slice z1G zu.1.length z1H) 42 4 (zu.1.flatMap e42),row (.slice z1y zt.1.length z1z) 42 4 (zt.1.flatMap e42),row (.slice z15 zo.1.length z16) 42 4 (zo.1.flatMap e42),row (.slice zT zk.length zU) 42 4 (zk.flatMap e42),stb zw 28 [(.int .i64 z8.fN),(.int .i64 z8.fD)]] [] [row (.slice z3s z1C.1.length z3t) 42 4 (z1C.1.flatMap e42),fz (((zF ++ z1m) ++ z1u) ++ z27),row (.slice z2q zQ.1.length z2r) 42 4 (zQ.1.flatMap e42),row (.slice z2a zA.1.length z2b) 42 4 (zA.1.flatMap e42),row (.slice z1G zu.1.length z1H) 42 4 (zu.1.flatMap e42),row (.slice z1y zt.1.length z1z) 42 4 (zt.1.flatMap e42),row (.slice z15 zo.1.length z16) 42 4 (zo.1.flatMap e42),row (.slice zT zk.length zU) 42 4 (zk.flatMap e42),stb zw 28 [(.int .i64 z8.fN),(.int .i64 z8.fD)]]) (fun w hw=>by have pz:=(hz.call2 hw (.nil : Sel [row (.slice z3s z1C.1.length z3t) 42 4 (z1C.1.flatMap e42),fz (((zF ++ z1m) ++ z1u) ++ z27),row (.slice z2q zQ.1.length z2r) 42 4 (zQ.1.flatMap e42),row (.slice z2a zA.1.length z2b) 42 4 (zA.1.flatMap e42),row (.slice z1G zu.1.length z1H) 42 4 (zu.1.flatMap e42),row (.slice z1y zt.1.length z1z) 42 4 (zt.1.flatMap e42),row (.slice z15 zo.1.length z16) 42 4 (zo.1.flatMap e42),row (.slice zT zk.length zU) 42 4 (zk.flatMap e42),stb zw 28 [(.int .i64 z8.fN),(.int .i64 z8.fD)]] [] [row (.slice z3s z1C.1.length z3t) 42 4 (z1C.1.flatMap e42),fz (((zF ++ z1m) ++ z1u) ++ z27),row (.slice z2q zQ.1.length z2r) 42 4 (zQ.1.flatMap e42),row (.slice z2a zA.1.length z2b) 42 4 (zA.1.flatMap e42),row (.slice z1G zu.1.length z1H) 42 4 (zu.1.flatMap e42),row (.slice z1y zt.1.length z1z) 42 4 (zt.1.flatMap e42),row (.slice z15 zo.1.length z16) 42 4 (zo.1.flatMap e42),row (.slice zT zk.length zU) 42 4 (zk.flatMap e42),stb zw 28 [(.int .i64 z8.fN),(.int .i64 z8.fD)]]) (.there .here)); exact w_ref02_Shift (Z:=_) (zah:=z3H) (zai:=z3I) (z29:=z21) (z26:=z8) (r:=z1U) w pz (z5P.mono ((Zle.left _ _).trans (z6U.trans ((Zle.left _ _).trans ((Zle.assoc _ _ _).trans ((Zle.left _ _).trans ((Zle.assoc _ _ _).trans ((Zle.left _ _).trans (Zle.assoc _ _ _))))))))) zwG) ?_
            rintro z3u z3Z z40 _
            refine WL.merge .here (.there (.there .here)) ?_
            refine WL.quiet (d:=135) rfl rfl rfl (q_move rfl) ?_
            refine WL.quiet (d:=139) rfl rfl rfl (q_extract rfl rfl) ?_
            refine WL.quiet (d:=140) rfl rfl rfl (q_extract rfl rfl) ?_
            refine WL.quiet (d:=18) rfl rfl rfl (q_assign rfl) ?_
            refine WL.quiet (d:=10) rfl rfl rfl (q_assign rfl) ?_
            refine WL.nil ?_
            refine WX.then ?_
            refine WC.seq ?_
            refine WC.seq ?_
            obtain ⟨zkR,zwH,h⟩:=zb h
            refine WC.region ?_
            refine WL.quiet (d:=141) rfl rfl rfl (q_move rfl) ?_
            refine WL.quiet (d:=142) rfl rfl rfl (q_move rfl) ?_
            refine WL.quiet (d:=143) rfl rfl rfl (q_move rfl) ?_
            refine WL.quiet (d:=144) rfl rfl rfl (q_move rfl) ?_
            refine WL.callD (dd:=145) rfl rfl rfl (zg (l:=[.tmp 141,.tmp 142,.tmp 143,.tmp 144]) Try.call29 (.cons rfl (.cons rfl (.cons rfl (.cons rfl .nil))))) (.nil : Sel [fz ((((zF ++ z1m) ++ z1u) ++ z27) ++ z3u),row (.slice z3Z z1U.1.length z40) 42 4 (z1U.1.flatMap e42),row (.slice z3s z1C.1.length z3t) 42 4 (z1C.1.flatMap e42),row (.slice z2q zQ.1.length z2r) 42 4 (zQ.1.flatMap e42),row (.slice z2a zA.1.length z2b) 42 4 (zA.1.flatMap e42),row (.slice z1G zu.1.length z1H) 42 4 (zu.1.flatMap e42),row (.slice z1y zt.1.length z1z) 42 4 (zt.1.flatMap e42),row (.slice z15 zo.1.length z16) 42 4 (zo.1.flatMap e42),row (.slice zT zk.length zU) 42 4 (zk.flatMap e42),stb zw 28 [(.int .i64 z8.fN),(.int .i64 z8.fD)]] [] [fz ((((zF ++ z1m) ++ z1u) ++ z27) ++ z3u),row (.slice z3Z z1U.1.length z40) 42 4 (z1U.1.flatMap e42),row (.slice z3s z1C.1.length z3t) 42 4 (z1C.1.flatMap e42),row (.slice z2q zQ.1.length z2r) 42 4 (zQ.1.flatMap e42),row (.slice z2a zA.1.length z2b) 42 4 (zA.1.flatMap e42),row (.slice z1G zu.1.length z1H) 42 4 (zu.1.flatMap e42),row (.slice z1y zt.1.length z1z) 42 4 (zt.1.flatMap e42),row (.slice z15 zo.1.length z16) 42 4 (zo.1.flatMap e42),row (.slice zT zk.length zU) 42 4 (zk.flatMap e42),stb zw 28 [(.int .i64 z8.fN),(.int .i64 z8.fD)]]) (fun w hw=>by have pz:=(hz.call2 hw (.nil : Sel [fz ((((zF ++ z1m) ++ z1u) ++ z27) ++ z3u),row (.slice z3Z z1U.1.length z40) 42 4 (z1U.1.flatMap e42),row (.slice z3s z1C.1.length z3t) 42 4 (z1C.1.flatMap e42),row (.slice z2q zQ.1.length z2r) 42 4 (zQ.1.flatMap e42),row (.slice z2a zA.1.length z2b) 42 4 (zA.1.flatMap e42),row (.slice z1G zu.1.length z1H) 42 4 (zu.1.flatMap e42),row (.slice z1y zt.1.length z1z) 42 4 (zt.1.flatMap e42),row (.slice z15 zo.1.length z16) 42 4 (zo.1.flatMap e42),row (.slice zT zk.length zU) 42 4 (zk.flatMap e42),stb zw 28 [(.int .i64 z8.fN),(.int .i64 z8.fD)]] [] [fz ((((zF ++ z1m) ++ z1u) ++ z27) ++ z3u),row (.slice z3Z z1U.1.length z40) 42 4 (z1U.1.flatMap e42),row (.slice z3s z1C.1.length z3t) 42 4 (z1C.1.flatMap e42),row (.slice z2q zQ.1.length z2r) 42 4 (zQ.1.flatMap e42),row (.slice z2a zA.1.length z2b) 42 4 (zA.1.flatMap e42),row (.slice z1G zu.1.length z1H) 42 4 (zu.1.flatMap e42),row (.slice z1y zt.1.length z1z) 42 4 (zt.1.flatMap e42),row (.slice z15 zo.1.length z16) 42 4 (zo.1.flatMap e42),row (.slice zT zk.length zU) 42 4 (zk.flatMap e42),stb zw 28 [(.int .i64 z8.fN),(.int .i64 z8.fD)]]) .here).lend hw (.nil : Sel [fz ((((zF ++ z1m) ++ z1u) ++ z27) ++ z3u),row (.slice z3Z z1U.1.length z40) 42 4 (z1U.1.flatMap e42),row (.slice z3s z1C.1.length z3t) 42 4 (z1C.1.flatMap e42),row (.slice z2q zQ.1.length z2r) 42 4 (zQ.1.flatMap e42),row (.slice z2a zA.1.length z2b) 42 4 (zA.1.flatMap e42),row (.slice z1G zu.1.length z1H) 42 4 (zu.1.flatMap e42),row (.slice z1y zt.1.length z1z) 42 4 (zt.1.flatMap e42),row (.slice z15 zo.1.length z16) 42 4 (zo.1.flatMap e42),row (.slice zT zk.length zU) 42 4 (zk.flatMap e42),stb zw 28 [(.int .i64 z8.fN),(.int .i64 z8.fD)]] [] [fz ((((zF ++ z1m) ++ z1u) ++ z27) ++ z3u),row (.slice z3Z z1U.1.length z40) 42 4 (z1U.1.flatMap e42),row (.slice z3s z1C.1.length z3t) 42 4 (z1C.1.flatMap e42),row (.slice z2q zQ.1.length z2r) 42 4 (zQ.1.flatMap e42),row (.slice z2a zA.1.length z2b) 42 4 (zA.1.flatMap e42),row (.slice z1G zu.1.length z1H) 42 4 (zu.1.flatMap e42),row (.slice z1y zt.1.length z1z) 42 4 (zt.1.flatMap e42),row (.slice z15 zo.1.length z16) 42 4 (zo.1.flatMap e42),row (.slice zT zk.length zU) 42 4 (zk.flatMap e42),stb zw 28 [(.int .i64 z8.fN),(.int .i64 z8.fD)]]) (B:=[row (.slice z3s z1C.1.length z3t) 42 4 (z1C.1.flatMap e42),row (.slice z3Z z1U.1.length z40) 42 4 (z1U.1.flatMap e42)]) (fun _ hx'=>((.cons (.there (.there .here)) (.cons (.there .here) .nil)) : Sel _ [row (.slice z3s z1C.1.length z3t) 42 4 (z1C.1.flatMap e42),row (.slice z3Z z1U.1.length z40) 42 4 (z1U.1.flatMap e42)] _).mem hx'); exact w_law02_same (Z:=_) (z96:=z3s) (z97:=z3t) (z98:=z3Z) (z99:=z40) (z7d:=z1C.1) (z7I:=z1C.2) (z7e:=z1U.1) (z7J:=z1U.2) (r:=zkR) w pz (ZA.row (hw.lent (.nil : Sel [fz ((((zF ++ z1m) ++ z1u) ++ z27) ++ z3u),row (.slice z3Z z1U.1.length z40) 42 4 (z1U.1.flatMap e42),row (.slice z3s z1C.1.length z3t) 42 4 (z1C.1.flatMap e42),row (.slice z2q zQ.1.length z2r) 42 4 (zQ.1.flatMap e42),row (.slice z2a zA.1.length z2b) 42 4 (zA.1.flatMap e42),row (.slice z1G zu.1.length z1H) 42 4 (zu.1.flatMap e42),row (.slice z1y zt.1.length z1z) 42 4 (zt.1.flatMap e42),row (.slice z15 zo.1.length z16) 42 4 (zo.1.flatMap e42),row (.slice zT zk.length zU) 42 4 (zk.flatMap e42),stb zw 28 [(.int .i64 z8.fN),(.int .i64 z8.fD)]] [] [fz ((((zF ++ z1m) ++ z1u) ++ z27) ++ z3u),row (.slice z3Z z1U.1.length z40) 42 4 (z1U.1.flatMap e42),row (.slice z3s z1C.1.length z3t) 42 4 (z1C.1.flatMap e42),row (.slice z2q zQ.1.length z2r) 42 4 (zQ.1.flatMap e42),row (.slice z2a zA.1.length z2b) 42 4 (zA.1.flatMap e42),row (.slice z1G zu.1.length z1H) 42 4 (zu.1.flatMap e42),row (.slice z1y zt.1.length z1z) 42 4 (zt.1.flatMap e42),row (.slice z15 zo.1.length z16) 42 4 (zo.1.flatMap e42),row (.slice zT zk.length zU) 42 4 (zk.flatMap e42),stb zw 28 [(.int .i64 z8.fN),(.int .i64 z8.fD)]]) (B:=[row (.slice z3s z1C.1.length z3t) 42 4 (z1C.1.flatMap e42),row (.slice z3Z z1U.1.length z40) 42 4 (z1U.1.flatMap e42)]) (fun _ hx'=>((.cons (.there (.there .here)) (.cons (.there .here) .nil)) : Sel _ [row (.slice z3s z1C.1.length z3t) 42 4 (z1C.1.flatMap e42),row (.slice z3Z z1U.1.length z40) 42 4 (z1U.1.flatMap e42)] _).mem hx') (.head _) _) (RR.flat (enc:=e42) (fun _=>rfl) _) ⟨w,pz.1⟩) (ZA.row (hw.lent (.nil : Sel [fz ((((zF ++ z1m) ++ z1u) ++ z27) ++ z3u),row (.slice z3Z z1U.1.length z40) 42 4 (z1U.1.flatMap e42),row (.slice z3s z1C.1.length z3t) 42 4 (z1C.1.flatMap e42),row (.slice z2q zQ.1.length z2r) 42 4 (zQ.1.flatMap e42),row (.slice z2a zA.1.length z2b) 42 4 (zA.1.flatMap e42),row (.slice z1G zu.1.length z1H) 42 4 (zu.1.flatMap e42),row (.slice z1y zt.1.length z1z) 42 4 (zt.1.flatMap e42),row (.slice z15 zo.1.length z16) 42 4 (zo.1.flatMap e42),row (.slice zT zk.length zU) 42 4 (zk.flatMap e42),stb zw 28 [(.int .i64 z8.fN),(.int .i64 z8.fD)]] [] [fz ((((zF ++ z1m) ++ z1u) ++ z27) ++ z3u),row (.slice z3Z z1U.1.length z40) 42 4 (z1U.1.flatMap e42),row (.slice z3s z1C.1.length z3t) 42 4 (z1C.1.flatMap e42),row (.slice z2q zQ.1.length z2r) 42 4 (zQ.1.flatMap e42),row (.slice z2a zA.1.length z2b) 42 4 (zA.1.flatMap e42),row (.slice z1G zu.1.length z1H) 42 4 (zu.1.flatMap e42),row (.slice z1y zt.1.length z1z) 42 4 (zt.1.flatMap e42),row (.slice z15 zo.1.length z16) 42 4 (zo.1.flatMap e42),row (.slice zT zk.length zU) 42 4 (zk.flatMap e42),stb zw 28 [(.int .i64 z8.fN),(.int .i64 z8.fD)]]) (B:=[row (.slice z3s z1C.1.length z3t) 42 4 (z1C.1.flatMap e42),row (.slice z3Z z1U.1.length z40) 42 4 (z1U.1.flatMap e42)]) (fun _ hx'=>((.cons (.there (.there .here)) (.cons (.there .here) .nil)) : Sel _ [row (.slice z3s z1C.1.length z3t) 42 4 (z1C.1.flatMap e42),row (.slice z3Z z1U.1.length z40) 42 4 (z1U.1.flatMap e42)] _).mem hx') (.tail _ (.head _)) _) (RR.flat (enc:=e42) (fun _=>rfl) _) ⟨w,pz.1⟩) zwH) ?_
            refine WL.quiet (d:=146) rfl rfl rfl (q_not rfl) ?_
            refine WL.nil ?_
            refine WX.then ?_
            refine WC.cond rfl (fun zl0=>?_) (fun zl0=>?_)
            ·replace h:=ite_t h zl0
             refine WC.seq ?_
             refine WC.region ?_
             refine WL.quiet (d:=6) rfl rfl rfl (q_assign rfl) ?_
             refine WL.nil ?_
             refine WX.then ?_
             refine WC.ret ?_
             refine WX.thenRet ?_
             obtain rfl:=Option.some.inj h
             refine WX.bpRet Try.results6 (.tmp rfl .nil) (fun w hw=>?_)
             exact ⟨((((zF ++ z1m) ++ z1u) ++ z27) ++ z3u),ret1 rfl,trivial,hw.sub (.cons .here .nil)⟩
            ·replace h:=ite_f h zl0
             refine WC.skip ?_
             refine WX.then ?_
             refine WC.seq ?_
             obtain ⟨z2N,zwI,h⟩:=zb h
             refine WC.region ?_
             refine WL.quiet (d:=148) rfl rfl rfl (q_move rfl) ?_
             refine WL.enter3 (dd:=149) rfl rfl rfl (zg (l:=[.tmp 148]) Try.call20 (.cons rfl .nil)) (.nil : Sel [fz ((((zF ++ z1m) ++ z1u) ++ z27) ++ z3u),row (.slice z3Z z1U.1.length z40) 42 4 (z1U.1.flatMap e42),row (.slice z3s z1C.1.length z3t) 42 4 (z1C.1.flatMap e42),row (.slice z2q zQ.1.length z2r) 42 4 (zQ.1.flatMap e42),row (.slice z2a zA.1.length z2b) 42 4 (zA.1.flatMap e42),row (.slice z1G zu.1.length z1H) 42 4 (zu.1.flatMap e42),row (.slice z1y zt.1.length z1z) 42 4 (zt.1.flatMap e42),row (.slice z15 zo.1.length z16) 42 4 (zo.1.flatMap e42),row (.slice zT zk.length zU) 42 4 (zk.flatMap e42),stb zw 28 [(.int .i64 z8.fN),(.int .i64 z8.fD)]] [] [fz ((((zF ++ z1m) ++ z1u) ++ z27) ++ z3u),row (.slice z3Z z1U.1.length z40) 42 4 (z1U.1.flatMap e42),row (.slice z3s z1C.1.length z3t) 42 4 (z1C.1.flatMap e42),row (.slice z2q zQ.1.length z2r) 42 4 (zQ.1.flatMap e42),row (.slice z2a zA.1.length z2b) 42 4 (zA.1.flatMap e42),row (.slice z1G zu.1.length z1H) 42 4 (zu.1.flatMap e42),row (.slice z1y zt.1.length z1z) 42 4 (zt.1.flatMap e42),row (.slice z15 zo.1.length z16) 42 4 (zo.1.flatMap e42),row (.slice zT zk.length zU) 42 4 (zk.flatMap e42),stb zw 28 [(.int .i64 z8.fN),(.int .i64 z8.fD)]]) (fun w hw=>by have pz:=(hz.call2 hw (.nil : Sel [fz ((((zF ++ z1m) ++ z1u) ++ z27) ++ z3u),row (.slice z3Z z1U.1.length z40) 42 4 (z1U.1.flatMap e42),row (.slice z3s z1C.1.length z3t) 42 4 (z1C.1.flatMap e42),row (.slice z2q zQ.1.length z2r) 42 4 (zQ.1.flatMap e42),row (.slice z2a zA.1.length z2b) 42 4 (zA.1.flatMap e42),row (.slice z1G zu.1.length z1H) 42 4 (zu.1.flatMap e42),row (.slice z1y zt.1.length z1z) 42 4 (zt.1.flatMap e42),row (.slice z15 zo.1.length z16) 42 4 (zo.1.flatMap e42),row (.slice zT zk.length zU) 42 4 (zk.flatMap e42),stb zw 28 [(.int .i64 z8.fN),(.int .i64 z8.fD)]] [] [fz ((((zF ++ z1m) ++ z1u) ++ z27) ++ z3u),row (.slice z3Z z1U.1.length z40) 42 4 (z1U.1.flatMap e42),row (.slice z3s z1C.1.length z3t) 42 4 (z1C.1.flatMap e42),row (.slice z2q zQ.1.length z2r) 42 4 (zQ.1.flatMap e42),row (.slice z2a zA.1.length z2b) 42 4 (zA.1.flatMap e42),row (.slice z1G zu.1.length z1H) 42 4 (zu.1.flatMap e42),row (.slice z1y zt.1.length z1z) 42 4 (zt.1.flatMap e42),row (.slice z15 zo.1.length z16) 42 4 (zo.1.flatMap e42),row (.slice zT zk.length zU) 42 4 (zk.flatMap e42),stb zw 28 [(.int .i64 z8.fN),(.int .i64 z8.fD)]]) .here); exact w_curve_Breaks (Z:=_) (z9V:=z3H) (z9W:=z3I) (z75:=z21) (r:=z2N) w pz (z5P.mono ((Zle.left _ _).trans (z6U.trans ((Zle.left _ _).trans ((Zle.assoc _ _ _).trans ((Zle.left _ _).trans ((Zle.assoc _ _ _).trans ((Zle.left _ _).trans ((Zle.assoc _ _ _).trans ((Zle.left _ _).trans (Zle.assoc _ _ _))))))))))) zwI) ?_
             rintro z6n zbf zbg _
             refine WL.merge .here (.there .here) ?_
             refine WL.quiet (d:=147) rfl rfl rfl (q_move rfl) ?_
             refine WL.quiet (d:=150) rfl rfl rfl (q_extract rfl rfl) ?_
             refine WL.quiet (d:=151) rfl rfl rfl (q_extract rfl rfl) ?_
             refine WL.quiet (d:=19) rfl rfl rfl (q_assign rfl) ?_
             refine WL.quiet (d:=8) rfl rfl rfl (q_assign rfl) ?_
             refine WL.nil ?_
             refine WX.then ?_
             refine WC.seq ?_
             obtain ⟨z4N,zwJ,h⟩:=zb h
             refine WC.region ?_
             refine WL.quiet (d:=153) rfl rfl rfl (q_move rfl) ?_
             refine WL.enter3 (dd:=154) rfl rfl rfl (zg (l:=[.tmp 153]) Try.call36 (.cons rfl .nil)) (.nil : Sel [fz (((((zF ++ z1m) ++ z1u) ++ z27) ++ z3u) ++ z6n),row (.slice zbf z2N.1.length zbg) 28 2 (z2N.1.flatMap e28),row (.slice z3Z z1U.1.length z40) 42 4 (z1U.1.flatMap e42),row (.slice z3s z1C.1.length z3t) 42 4 (z1C.1.flatMap e42),row (.slice z2q zQ.1.length z2r) 42 4 (zQ.1.flatMap e42),row (.slice z2a zA.1.length z2b) 42 4 (zA.1.flatMap e42),row (.slice z1G zu.1.length z1H) 42 4 (zu.1.flatMap e42),row (.slice z1y zt.1.length z1z) 42 4 (zt.1.flatMap e42),row (.slice z15 zo.1.length z16) 42 4 (zo.1.flatMap e42),row (.slice zT zk.length zU) 42 4 (zk.flatMap e42),stb zw 28 [(.int .i64 z8.fN),(.int .i64 z8.fD)]] [] [fz (((((zF ++ z1m) ++ z1u) ++ z27) ++ z3u) ++ z6n),row (.slice zbf z2N.1.length zbg) 28 2 (z2N.1.flatMap e28),row (.slice z3Z z1U.1.length z40) 42 4 (z1U.1.flatMap e42),row (.slice z3s z1C.1.length z3t) 42 4 (z1C.1.flatMap e42),row (.slice z2q zQ.1.length z2r) 42 4 (zQ.1.flatMap e42),row (.slice z2a zA.1.length z2b) 42 4 (zA.1.flatMap e42),row (.slice z1G zu.1.length z1H) 42 4 (zu.1.flatMap e42),row (.slice z1y zt.1.length z1z) 42 4 (zt.1.flatMap e42),row (.slice z15 zo.1.length z16) 42 4 (zo.1.flatMap e42),row (.slice zT zk.length zU) 42 4 (zk.flatMap e42),stb zw 28 [(.int .i64 z8.fN),(.int .i64 z8.fD)]]) (fun w hw=>by have pz:=(hz.call2 hw (.nil : Sel [fz (((((zF ++ z1m) ++ z1u) ++ z27) ++ z3u) ++ z6n),row (.slice zbf z2N.1.length zbg) 28 2 (z2N.1.flatMap e28),row (.slice z3Z z1U.1.length z40) 42 4 (z1U.1.flatMap e42),row (.slice z3s z1C.1.length z3t) 42 4 (z1C.1.flatMap e42),row (.slice z2q zQ.1.length z2r) 42 4 (zQ.1.flatMap e42),row (.slice z2a zA.1.length z2b) 42 4 (zA.1.flatMap e42),row (.slice z1G zu.1.length z1H) 42 4 (zu.1.flatMap e42),row (.slice z1y zt.1.length z1z) 42 4 (zt.1.flatMap e42),row (.slice z15 zo.1.length z16) 42 4 (zo.1.flatMap e42),row (.slice zT zk.length zU) 42 4 (zk.flatMap e42),stb zw 28 [(.int .i64 z8.fN),(.int .i64 z8.fD)]] [] [fz (((((zF ++ z1m) ++ z1u) ++ z27) ++ z3u) ++ z6n),row (.slice zbf z2N.1.length zbg) 28 2 (z2N.1.flatMap e28),row (.slice z3Z z1U.1.length z40) 42 4 (z1U.1.flatMap e42),row (.slice z3s z1C.1.length z3t) 42 4 (z1C.1.flatMap e42),row (.slice z2q zQ.1.length z2r) 42 4 (zQ.1.flatMap e42),row (.slice z2a zA.1.length z2b) 42 4 (zA.1.flatMap e42),row (.slice z1G zu.1.length z1H) 42 4 (zu.1.flatMap e42),row (.slice z1y zt.1.length z1z) 42 4 (zt.1.flatMap e42),row (.slice z15 zo.1.length z16) 42 4 (zo.1.flatMap e42),row (.slice zT zk.length zU) 42 4 (zk.flatMap e42),stb zw 28 [(.int .i64 z8.fN),(.int .i64 z8.fD)]]) .here); exact w_ref02_Breaks (Z:=_) (zb7:=z3H) (zb8:=z3I) (z7M:=z21) (r:=z4N) w pz (z5P.mono ((Zle.left _ _).trans (z6U.trans ((Zle.left _ _).trans ((Zle.assoc _ _ _).trans ((Zle.left _ _).trans ((Zle.assoc _ _ _).trans ((Zle.left _ _).trans ((Zle.assoc _ _ _).trans ((Zle.left _ _).trans ((Zle.assoc _ _ _).trans ((Zle.left _ _).trans (Zle.assoc _ _ _))))))))))))) zwJ) ?_
             rintro z7P zoY zoZ zwK
             refine WL.merge .here .here ?_
             refine WL.quiet (d:=152) rfl rfl rfl (q_move rfl) ?_
             refine WL.quiet (d:=155) rfl rfl rfl (q_extract rfl rfl) ?_
             refine WL.quiet (d:=156) rfl rfl rfl (q_extract rfl rfl) ?_
             refine WL.quiet (d:=20) rfl rfl rfl (q_assign rfl) ?_
             refine WL.quiet (d:=10) rfl rfl rfl (q_assign rfl) ?_
             refine WL.nil ?_
             refine WX.then ?_
             refine WC.seq ?_
             refine WC.seq ?_
             refine WC.region ?_
             refine WL.quiet (d:=157) rfl rfl rfl (q_move rfl) ?_
             refine WL.quiet (d:=158) rfl rfl rfl (q_move rfl) ?_
             refine WL.quiet (d:=159) rfl rfl rfl (q_neq rfl rfl) ?_
             refine WL.quiet (d:=160) rfl rfl rfl (q_move rfl) ?_
             refine WL.cut0 True [(19,(.slice zbf z2N.1.length zbg)),(20,(.slice zoY z4N.1.length zoZ)),(166,(.bool ((decide (z2N.2 ≠ z4N.2)) || (decide (((z2N.1.length : Nat) : Int) ≠ ((z4N.1.length : Nat) : Int))))))] [fz ((((((zF ++ z1m) ++ z1u) ++ z27) ++ z3u) ++ z6n) ++ z7P),row (.slice zbf z2N.1.length zbg) 28 2 (z2N.1.flatMap e28),row (.slice z3Z z1U.1.length z40) 42 4 (z1U.1.flatMap e42),row (.slice z3s z1C.1.length z3t) 42 4 (z1C.1.flatMap e42),row (.slice z2q zQ.1.length z2r) 42 4 (zQ.1.flatMap e42),row (.slice z2a zA.1.length z2b) 42 4 (zA.1.flatMap e42),row (.slice z1G zu.1.length z1H) 42 4 (zu.1.flatMap e42),row (.slice z1y zt.1.length z1z) 42 4 (zt.1.flatMap e42),row (.slice z15 zo.1.length z16) 42 4 (zo.1.flatMap e42),row (.slice zT zk.length zU) 42 4 (zk.flatMap e42),stb zw 28 [(.int .i64 z8.fN),(.int .i64 z8.fD)]] 6 ?_ (fun _=>?_)
             ·rcases Bool.eq_false_or_eq_true (decide (z2N.2 ≠ z4N.2)) with hb' | hb'
              ·have zp0:=hb'; clear hb'
               refine WL.pin (i:=160) rfl zp0 ?_
               refine WL.skip rfl rfl rfl ?_
               refine WL.skip rfl rfl rfl ?_
               refine WL.skip rfl rfl rfl ?_
               refine WL.skip rfl rfl rfl ?_
               refine WL.skip rfl rfl rfl ?_
               refine WL.quiet (d:=166) rfl rfl rfl (q_pickT rfl rfl) ?_
               exact WL.cutEnd () trivial (.cons rfl (.cons rfl (.cons (zl (or_l zp0)) .nil))) (.cons .here (.cons .here (.cons .here (.cons .here (.cons .here (.cons .here (.cons .here (.cons .here (.cons .here (.cons .here (.cons .here .nil)))))))))))
              ·have zp1:=hb'; clear hb'
               refine WL.pin (i:=160) rfl zp1 ?_
               refine WL.quiet (d:=161) rfl rfl rfl (q_move rfl) ?_
               refine WL.quiet (d:=162) rfl rfl rfl (q_len Try.underlying44 rfl) ?_
               refine WL.quiet (d:=163) rfl rfl rfl (q_move rfl) ?_
               refine WL.quiet (d:=164) rfl rfl rfl (q_len Try.underlying44 rfl) ?_
               refine WL.quiet (d:=165) rfl rfl rfl (q_neq rfl rfl) ?_
               refine WL.quiet (d:=166) rfl rfl rfl (q_pickF rfl rfl) ?_
               exact WL.cutEnd () trivial (.cons rfl (.cons rfl (.cons (zl (or_r zp1)) .nil))) (.cons .here (.cons .here (.cons .here (.cons .here (.cons .here (.cons .here (.cons .here (.cons .here (.cons .here (.cons .here (.cons .here .nil)))))))))))
             ·skip
              refine WL.nil ?_
              refine WX.then ?_
              refine WC.cond rfl (fun zl1=>?_) (fun zl1=>?_)
              ·replace h:=ite_t h zl1
               refine WC.seq ?_
               refine WC.region ?_
               refine WL.quiet (d:=6) rfl rfl rfl (q_assign rfl) ?_
               refine WL.nil ?_
               refine WX.then ?_
               refine WC.ret ?_
               refine WX.thenRet ?_
               obtain rfl:=Option.some.inj h
               refine WX.bpRet Try.results6 (.tmp rfl .nil) (fun w hw=>?_)
               exact ⟨((((((zF ++ z1m) ++ z1u) ++ z27) ++ z3u) ++ z6n) ++ z7P),ret1 rfl,trivial,hw.sub (.cons .here .nil)⟩
              ·replace h:=ite_f h zl1
               refine WC.skip ?_
               refine WX.then ?_
               obtain ⟨z9q,zwL,h⟩:=jp0_elim h
               refine WC.seqMid0 ((z9q = some r)) ([]) ([fz ((((((zF ++ z1m) ++ z1u) ++ z27) ++ z3u) ++ z6n) ++ z7P)]) ?_ ?_
               ·skip
                refine WC.seq ?_
                refine WC.region ?_
                refine WL.quiet (d:=167) rfl rfl rfl (q_move rfl) ?_
                refine WL.quiet (d:=168) rfl rfl rfl (q_len Try.underlying44 rfl) ?_
                refine WL.quiet (d:=169) rfl rfl rfl (q_move rfl) ?_
                refine WL.nil ?_
                refine WX.then ?_
                refine WC.block ?_
                refine WC.loop4 (fun (zcX : Nat) (z3G : Int) (zcY : Option Addr) (zbh : Nat)=>(m_law02_CurveTells_L2 z2N z4N z9q zcX z3G = some r)) (fun (zcX : Nat) (z3G : Int) (zcY : Option Addr) (zbh : Nat)=>[(19,(.slice zcY z2N.1.length zbh)),(20,(.slice zoY z4N.1.length zoZ)),(168,(.int .i64 ((z2N.1.length : Nat) : Int))),(169,(.int .i64 z3G))]) (fun (zcX : Nat) (z3G : Int) (zcY : Option Addr) (zbh : Nat)=>[fz ((((((zF ++ z1m) ++ z1u) ++ z27) ++ z3u) ++ z6n) ++ z7P),row (.slice zcY z2N.1.length zbh) 28 2 (z2N.1.flatMap e28)]) (fun (zcX : Nat) (z3G : Int) (zcY : Option Addr) (zbh : Nat)=>zcX) ⟨FUEL,0,zbf,zbg⟩ h (.cons rfl (.cons rfl (.cons rfl (.cons rfl .nil)))) (.cons .here (.cons .here .nil)) ?_
                rintro zcX z3G zcY zbh h
                obtain ⟨zkM,rfl⟩:=m_law02_CurveTells_L2_fuel h
                rw [m_law02_CurveTells_L2] at h
                refine WC.seq ?_
                refine WC.region ?_
                refine WL.quiet (d:=170) rfl rfl rfl (q_lss rfl rfl) ?_
                refine WL.nil ?_
                refine WX.then ?_
                refine WC.seq ?_
                refine WC.cond rfl (fun zl2=>?_) (fun zl2=>?_)
                ·replace h:=ite_t h zl2
                 refine WC.skip ?_
                 refine WX.then ?_
                 refine WC.seq ?_
                 refine WC.block ?_
                 refine WC.seq ?_
                 refine WC.region ?_
                 refine WL.quiet (d:=171) rfl rfl rfl (q_move rfl) ?_
                 refine WL.quiet (d:=21) rfl rfl rfl (q_assign rfl) ?_
                 refine WL.nil ?_
                 refine WX.then ?_
                 refine WC.seq ?_
                 obtain ⟨zeh,h⟩:=chk_elim h
                 obtain ⟨zwM,h⟩:=chk_elim h
                 refine WC.draw (fun i=>[].contains i) [] rfl ?_
                 refine WD.pure (i:=0) (d:=172) (by kernel_rfl) rfl (z6 (by kernel_rfl)) (z7 (by kernel_rfl)) rfl rfl rfl (fun _=>q_move rfl) ?_
                 refine WD.pure (i:=1) (d:=173) (by kernel_rfl) rfl (z6 (by kernel_rfl)) (z7 (by kernel_rfl)) rfl rfl rfl (fun _=>q_move rfl) ?_
                 refine WD.know (fun w hw=>Hp.expose (.there .here) hw (by intro hz'; have:=zeh; rw [hz'] at this; omega)) ?_
                 rintro ⟨zwN,rfl⟩
                 refine WD.pure (i:=2) (d:=174) (by kernel_rfl) rfl (z6 (by kernel_rfl)) (z7 (by kernel_rfl)) rfl rfl rfl (fun _=>q_indexAddr elT_44 rfl rfl zeh.1 zeh.2 rowAdd) ?_
                 refine WD.quiet (i:=3) (d:=175) (by kernel_rfl) rfl (z6 (by kernel_rfl)) (z7 (by kernel_rfl)) rfl rfl rfl (q_loadA (cs:=(e28 (nth z2N.1 z3G))) aggT_28 rfl rfl (rd_rows (.there .here) (flat_rd (enc:=e28) (l:=z2N.1) (i:=z3G) (sz:=2) (fun _=>rfl) zeh.1 zeh.2))) ?_
                 refine WD.pure (i:=4) (d:=176) (by kernel_rfl) rfl (z6 (by kernel_rfl)) (z7 (by kernel_rfl)) rfl rfl rfl (fun _=>q_move rfl) ?_
                 refine WD.pure (i:=5) (d:=177) (by kernel_rfl) rfl (z6 (by kernel_rfl)) (z7 (by kernel_rfl)) rfl rfl rfl (fun _=>q_move rfl) ?_
                 refine WD.znth (j:=6) (dd:=178) (by kernel_rfl) rfl (z6 (by kernel_rfl)) (z7 (by kernel_rfl)) rfl rfl (Z:=(Z ++ ((((((zF ++ z1m) ++ z1u) ++ z27) ++ z3u) ++ z6n) ++ z7P))) (Pr:=(fun r x=>r = e28 x)) elT_44 rfl rfl (zwK.mono (Zle.assoc _ _ _)) zwM ?_
                 rintro zzg zzh zwO zzi rfl
                 refine WD.quiet (i:=7) (d:=179) (by kernel_rfl) rfl (z6 (by kernel_rfl)) (z7 (by kernel_rfl)) rfl rfl rfl (q_loadA (cs:=[(.int .i64 ((nth z4N.1 z3G).fN)),(.int .i64 ((nth z4N.1 z3G).fD))]) aggT_28 rfl rfl (rd_zs (hz.pv2 .here) zwO)) ?_
                 refine WD.pure (i:=8) (d:=180) (by kernel_rfl) rfl (z6 (by kernel_rfl)) (z7 (by kernel_rfl)) rfl rfl rfl (fun _=>q_aggneq (enc:=e28) (a:=(⟨((nth z2N.1 z3G).fN),((nth z2N.1 z3G).fD)⟩ : z2)) (b:=(⟨((nth z4N.1 z3G).fN),((nth z4N.1 z3G).fD)⟩ : z2)) eqT_28 rfl rfl) ?_
                 refine WD.done (by kernel_rfl) ?_
                 refine WX.then ?_
                 refine WC.cond rfl (fun zl3=>?_) (fun zl3=>?_)
                 ·replace h:=ite_t h zl3
                  refine WC.seq ?_
                  refine WC.region ?_
                  refine WL.quiet (d:=6) rfl rfl rfl (q_assign rfl) ?_
                  refine WL.nil ?_
                  refine WX.then ?_
                  refine WC.ret ?_
                  refine WX.blockRet ?_
                  refine WX.thenRet ?_
                  refine WX.thenRet ?_
                  refine WX.blockRet ?_
                  refine WX.thenRet ?_
                  obtain rfl:=Option.some.inj h
                  refine WX.bpRet Try.results6 (.tmp rfl .nil) (fun w hw=>?_)
                  exact ⟨((((((zF ++ z1m) ++ z1u) ++ z27) ++ z3u) ++ z6n) ++ z7P),ret1 rfl,trivial,hw.sub (.cons .here .nil)⟩
                 ·replace h:=ite_f h zl3
                  refine WC.skip ?_
                  refine WX.blockNormal ?_
                  refine WX.then ?_
                  refine WC.region ?_
                  refine WL.quiet (d:=181) rfl rfl rfl (q_add rfl rfl rfl) ?_
                  refine WL.quiet (d:=169) rfl rfl rfl (q_move rfl) ?_
                  refine WL.nil ?_
                  exact WX.round (G:=Nat × Int × Option Addr × Nat) ⟨zkM,(i64 (z3G + 1)),(some ⟨zwN,0,none⟩),zbh⟩ h (Nat.lt_succ_self _) (.cons rfl (.cons rfl (.cons rfl (.cons rfl .nil)))) (.cons .here (.cons .here .nil))
                ·replace h:=ite_f h zl2
                 refine WC.exit ?_
                 refine WX.thenExit ?_
                 refine WX.thenExit ?_
                 refine WX.blockHit ?_
                 exact WX.mid (G:=Unit) () h .nil (.cons .here .nil)
               ·rintro  h
                replace h:=zwL.symm.trans h
                refine WC.seq ?_
                obtain ⟨zkS,zwP,h⟩:=zb h
                refine WC.region ?_
                refine WL.enter1 (dd:=182) rfl rfl rfl (zg (l:=[]) Try.call18 .nil) (.nil : Sel [fz ((((((zF ++ z1m) ++ z1u) ++ z27) ++ z3u) ++ z6n) ++ z7P)] [] [fz ((((((zF ++ z1m) ++ z1u) ++ z27) ++ z3u) ++ z6n) ++ z7P)]) (fun w hw=>by have pz:=(hz.call2 hw (.nil : Sel [fz ((((((zF ++ z1m) ++ z1u) ++ z27) ++ z3u) ++ z6n) ++ z7P)] [] [fz ((((((zF ++ z1m) ++ z1u) ++ z27) ++ z3u) ++ z6n) ++ z7P)]) .here); exact w_law02_awake (Z:=_)   (r:=zkS) w pz  zwP) ?_
                rintro zwQ _
                refine WL.merge .here .here ?_
                refine WL.quiet (d:=6) rfl rfl rfl (q_assign rfl) ?_
                refine WL.nil ?_
                refine WX.then ?_
                refine WC.ret ?_
                obtain rfl:=Option.some.inj h
                refine WX.bpRet Try.results6 (.tmp rfl .nil) (fun w hw=>?_)
                exact ⟨(((((((zF ++ z1m) ++ z1u) ++ z27) ++ z3u) ++ z6n) ++ z7P) ++ zwQ),ret1 rfl,trivial,hw.sub (.cons .here .nil)⟩
end Go.Proofs.Ytbihfglmcjkdhaa
