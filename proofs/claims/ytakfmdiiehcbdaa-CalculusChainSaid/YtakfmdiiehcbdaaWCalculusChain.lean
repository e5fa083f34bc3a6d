/- A part of this claim's proof: models of functions, walks, plain laws. No conditions. -/
import Derived.Test.YtakfmdiiehcbdaaW03g
namespace Go.Proofs.Ytakfmdiiehcbdaa
open Go Go.RowKit Sep
set_option linter.all false
set_option maxRecDepth 30000
set_option maxHeartbeats 4000000
def m_law03_CalculusChain (zaP : List Int) (zbF : Int) (zbG : Int) (zbH : Int) (zbI : Int) : Option Bool :=
 (m_law02_Small zaP).bind fun z1l=>chk ((0 : Int) ≤ 1 ∧ 1 ≤ ((z1l.length : Nat) : Int)) ((m_rat_Make (i64 (1 + (Int.tmod (i64 zbF) 160))) 8).bind fun z8=>(m_rat_Make (i64 (1 + (Int.tmod (i64 zbH) 160))) 8).bind fun za=>(m_law03_num (i64 zbG) 1).bind fun zx=>(m_law03_num (i64 zbI) 1).bind fun zy=>(m_calculus_Chain (⟨z8.1,zx⟩ : Sapi_Server) (⟨za.1,zy⟩ : Sapi_Server)).bind fun zi=>(m_calculus_Delay ([z1l.take (1 : Int).toNat] : List (List z1)) zi.1).bind fun zF=>(m_calculus_Delay ([z1l.take (1 : Int).toNat] : List (List z1)) (⟨z8.1,zx⟩ : Sapi_Server)).bind fun zR=>if ((decide (z8.2 ≠ 0)) || (decide (za.2 ≠ 0))) || (decide (zi.2 ≠ 0)) then some false else if (decide (zF.2 ≠ 0)) || (decide (zR.2 ≠ 0)) then (if decide (zF.2 = 6) then (m_law03_awake).bind fun zmZ=>some zmZ else some false).bind fun zn0=>some zn0 else (m_curve_Shift (z1l.take (1 : Int).toNat) zR.1).bind fun z4Y=>(m_calculus_Delay ([z4Y.1] : List (List z1)) (⟨za.1,zy⟩ : Sapi_Server)).bind fun z1J=>(m_rat_Add zR.1 z1J.1).bind fun z2a=>if ((decide (z4Y.2 ≠ 0)) || (decide (z1J.2 ≠ 0))) || (decide (z2a.2 ≠ 0)) then (if ((decide (z4Y.2 = 3)) || (decide (z1J.2 = 3))) || (decide (z2a.2 = 3)) then (m_law03_awake).bind fun zn1=>some zn1 else some false).bind fun zn2=>some zn2 else (m_rat_Cmp zF.1 z2a.1).bind fun zie=>(if decide (zie ≤ 0) then (m_law03_awake).bind fun zn3=>some zn3 else some false).bind fun zn4=>some zn4)
set_option maxRecDepth 20000 in
theorem w_law03_CalculusChain (Z : Zp)  (zev : Option Addr) (zew : Nat) (zaP : List Int) (zbF : Int) (zbG : Int) (zbH : Int) (zbI : Int) (r : Bool) (w₀ : World) (hz : PZ [] w₀ Z)
  (zyJ : ZS Z 1 (fun r x=>r = e5 x) zev zew zaP)
  (h : m_law03_CalculusChain zaP zbF zbG zbH zbI = some r) :
  Calls Try.prog 7 #[(.slice zev zaP.length zew),(.int .u8 zbF),(.int .u8 zbG),(.int .u8 zbH),(.int .u8 zbI)] w₀ fun e w'=>∃ Zn : Zp,e = .returned (.bool r) ∧ True ∧ Hp [] w₀ w' [fz Zn]:=by
 unfold m_law03_CalculusChain at h
 refine Calls.ofWC (vs:=[(.slice zev zaP.length zew),(.int .u8 zbF),(.int .u8 zbG),(.int .u8 zbH),(.int .u8 zbI)]) (pre:=[]) (env:=[(0,(.slice zev zaP.length zew)),(1,(.int .u8 zbF)),(2,(.int .u8 zbG)),(3,(.int .u8 zbH)),(4,(.int .u8 zbI))]) Try.func7 rfl Try.ntmps7 rfl (Hp.nil w₀ _) rfl ?_
 refine WC.pool ?_
 refine WC.b ?_
 refine WC.a ?_
 refine WL.a (d:=10) rfl rfl rfl (q_z rfl) ?_
 refine WL.nil ?_
 refine WX.a ?_
 refine WC.b ?_
 obtain ⟨z1l,zyK,h⟩:=zd h
 obtain ⟨zyL,h⟩:=chk_elim h
 refine WC.a ?_
 refine WL.a (d:=30) rfl rfl rfl (q_m rfl) ?_
 refine WL.enter2 (dd:=31) rfl rfl rfl (zk (l:=[.tmp 30]) Try.call20 (.cons rfl .nil)) (.nil : Sel [fz []] [] [fz []]) (fun w hw=>by have pz:=(hz.call2 hw (.nil : Sel [fz []] [] [fz []]) .here); exact w_law02_Small (Z:=_) (zd0:=zev) (zd1:=zew) (z4M:=zaP) (r:=z1l) w pz (zyJ.mono (Zle.left _ _)) zyK) ?_
 rintro zBL zBM _
 refine WL.rowHiD (dd:=32) (enc:=e35) (ls:=z1l) rfl rfl elT_39 rfl rfl .here (fun _=>rfl) zyL ?_
 intro z3d z3e
 refine WL.a (d:=11) rfl rfl rfl (q_z rfl) ?_
 refine WL.nil ?_
 refine WX.a ?_
 refine WC.b ?_
 obtain ⟨z8,zyM,h⟩:=zd h
 refine WC.a ?_
 refine WL.a (d:=34) rfl rfl rfl (q_m rfl) ?_
 refine WL.a (d:=35) rfl rfl rfl (q_conv Try.underlying5 Try.underlying3 rfl rfl) ?_
 refine WL.a (d:=36) rfl rfl rfl (q_rem rfl rfl (by decide) rfl) ?_
 refine WL.a (d:=37) rfl rfl rfl (q_add rfl rfl rfl) ?_
 refine WL.b (dd:=38) rfl rfl rfl (zk (l:=[.tmp 37,.const (.int .i64 8)]) Try.call9 (.cons rfl (.cons rfl .nil))) (.nil : Sel [row (.slice z3d ((z1l.take (1 : Int).toNat).length) z3e) 35 4 ((z1l.take (1 : Int).toNat).flatMap e35),fz []] [] [row (.slice z3d ((z1l.take (1 : Int).toNat).length) z3e) 35 4 ((z1l.take (1 : Int).toNat).flatMap e35),fz []]) (fun w hw=>by have pz:=(hz.call2 hw (.nil : Sel [row (.slice z3d ((z1l.take (1 : Int).toNat).length) z3e) 35 4 ((z1l.take (1 : Int).toNat).flatMap e35),fz []] [] [row (.slice z3d ((z1l.take (1 : Int).toNat).length) z3e) 35 4 ((z1l.take (1 : Int).toNat).flatMap e35),fz []]) .h1); exact w_rat_Make (Z:=_)  (z6C:=(i64 (1 + (Int.tmod (i64 zbF) 160)))) (z64:=8) (r:=z8) w pz  zyM) ?_
 refine WL.a (d:=33) rfl rfl rfl (q_m rfl) ?_
 refine WL.a (d:=39) rfl rfl rfl (q_extract rfl rfl) ?_
 refine WL.a (d:=40) rfl rfl rfl (q_extract rfl rfl) ?_
 refine WL.new (dd:=12) rfl rfl rfl (e_alloc (cs:=[(.int .i64 0),(.int .i64 0)]) zeroT_30 rfl) ?_
 intro z1P _
 refine WL.eff0 rfl rfl (e_store (vs:=[(.int .i64 z8.1.fN),(.int .i64 z8.1.fD)]) (ds:=[(.int .i64 z8.1.fN),(.int .i64 z8.1.fD)]) sizT_30 rfl rfl rfl rfl (oc_cons rfl (oc_cons rfl oc_nil)) .here (Nat.le_of_ble_eq_true rfl) rfl) ?_
 refine WL.a (d:=13) rfl rfl rfl (q_z rfl) ?_
 refine WL.nil ?_
 refine WX.a ?_
 refine WC.b ?_
 obtain ⟨za,zyN,h⟩:=zd h
 refine WC.a ?_
 refine WL.a (d:=42) rfl rfl rfl (q_m rfl) ?_
 refine WL.a (d:=43) rfl rfl rfl (q_conv Try.underlying5 Try.underlying3 rfl rfl) ?_
 refine WL.a (d:=44) rfl rfl rfl (q_rem rfl rfl (by decide) rfl) ?_
 refine WL.a (d:=45) rfl rfl rfl (q_add rfl rfl rfl) ?_
 refine WL.b (dd:=46) rfl rfl rfl (zk (l:=[.tmp 45,.const (.int .i64 8)]) Try.call9 (.cons rfl (.cons rfl .nil))) (.nil : Sel [stb z1P 30 [(.int .i64 z8.1.fN),(.int .i64 z8.1.fD)],row (.slice z3d ((z1l.take (1 : Int).toNat).length) z3e) 35 4 ((z1l.take (1 : Int).toNat).flatMap e35),fz []] [] [stb z1P 30 [(.int .i64 z8.1.fN),(.int .i64 z8.1.fD)],row (.slice z3d ((z1l.take (1 : Int).toNat).length) z3e) 35 4 ((z1l.take (1 : Int).toNat).flatMap e35),fz []]) (fun w hw=>by have pz:=(hz.call2 hw (.nil : Sel [stb z1P 30 [(.int .i64 z8.1.fN),(.int .i64 z8.1.fD)],row (.slice z3d ((z1l.take (1 : Int).toNat).length) z3e) 35 4 ((z1l.take (1 : Int).toNat).flatMap e35),fz []] [] [stb z1P 30 [(.int .i64 z8.1.fN),(.int .i64 z8.1.fD)],row (.slice z3d ((z1l.take (1 : Int).toNat).length) z3e) 35 4 ((z1l.take (1 : Int).toNat).flatMap e35),fz []]) .h2); exact w_rat_Make (Z:=_)  (z6C:=(i64 (1 + (Int.tmod (i64 zbH) 160)))) (z64:=8) (r:=za) w pz  zyN) ?_
 refine WL.a (d:=41) rfl rfl rfl (q_m rfl) ?_
 refine WL.a (d:=47) rfl rfl rfl (q_extract rfl rfl) ?_
 refine WL.a (d:=48) rfl rfl rfl (q_extract rfl rfl) ?_
 refine WL.new (dd:=14) rfl rfl rfl (e_alloc (cs:=[(.int .i64 0),(.int .i64 0)]) zeroT_30 rfl) ?_
 intro z21 _
 refine WL.eff0 rfl rfl (e_store (vs:=[(.int .i64 za.1.fN),(.int .i64 za.1.fD)]) (ds:=[(.int .i64 za.1.fN),(.int .i64 za.1.fD)]) sizT_30 rfl rfl rfl rfl (oc_cons rfl (oc_cons rfl oc_nil)) .here (Nat.le_of_ble_eq_true rfl) rfl) ?_
 refine WL.a (d:=15) rfl rfl rfl (q_z rfl) ?_
 refine WL.nil ?_
 refine WX.a ?_
 refine WC.b ?_
 obtain ⟨zx,zyO,h⟩:=zd h
 obtain ⟨zy,zyP,h⟩:=zd h
 refine WC.draw (fun i=>[12,13].contains i) [stb z21 30 [(.int .i64 za.1.fN),(.int .i64 za.1.fD)]] rfl ?_
 refine WD.e (i:=0) (d:=49) (by kernel_rfl) rfl (z6 (by kernel_rfl)) (z7 (by kernel_rfl)) rfl rfl rfl (q_loadA (cs:=[(.int .i64 z8.1.fN),(.int .i64 z8.1.fD)]) aggT_30 rfl rfl (rd_all .h1)) ?_
 refine WD.a (i:=1) (d:=50) (by kernel_rfl) rfl (z6 (by kernel_rfl)) (z7 (by kernel_rfl)) rfl rfl rfl (fun _=>q_m rfl) ?_
 refine WD.a (i:=2) (d:=51) (by kernel_rfl) rfl (z6 (by kernel_rfl)) (z7 (by kernel_rfl)) rfl rfl rfl (fun _=>q_conv Try.underlying5 Try.underlying3 rfl rfl) ?_
 refine WD.c (i:=3) (d:=52) (by kernel_rfl) rfl (z6 (by kernel_rfl)) (z7 (by kernel_rfl)) rfl rfl rfl (zk (l:=[.tmp 51,.const (.int .i64 1)]) Try.call11 (.cons rfl (.cons rfl .nil))) (fun w hw=>by have pz:=(hz.call2 hw (.nil : Sel [stb z21 30 [(.int .i64 za.1.fN),(.int .i64 za.1.fD)],stb z1P 30 [(.int .i64 z8.1.fN),(.int .i64 z8.1.fD)],row (.slice z3d ((z1l.take (1 : Int).toNat).length) z3e) 35 4 ((z1l.take (1 : Int).toNat).flatMap e35),fz []] [] [stb z21 30 [(.int .i64 za.1.fN),(.int .i64 za.1.fD)],stb z1P 30 [(.int .i64 z8.1.fN),(.int .i64 z8.1.fD)],row (.slice z3d ((z1l.take (1 : Int).toNat).length) z3e) 35 4 ((z1l.take (1 : Int).toNat).flatMap e35),fz []]) .h3); exact w_law03_num (Z:=_)  (z4c:=(i64 zbG)) (z4d:=1) (r:=zx) w pz  zyO) ?_
 refine WD.a (i:=4) (d:=53) (by kernel_rfl) rfl (z6 (by kernel_rfl)) (z7 (by kernel_rfl)) rfl rfl rfl (fun _=>q_build (v:=(.agg #[(.int .i64 z8.1.fN),(.int .i64 z8.1.fD),(.int .i64 zx.fN),(.int .i64 zx.fD)])) (Eos.parts (l:=[.tmp 49,.tmp 52]) (.cons rfl (.cons rfl .nil)) [0,1]) (fun _=>by kernel_rfl)) ?_
 refine WD.stable (i:=5) (d:=54) (by kernel_rfl) rfl (z6 (by kernel_rfl)) (z7 (by kernel_rfl)) rfl rfl rfl (Sin.of (.cons .here .nil)) (q_loadA (cs:=[(.int .i64 za.1.fN),(.int .i64 za.1.fD)]) aggT_30 rfl rfl (rd_all .here)) ?_
 refine WD.a (i:=6) (d:=55) (by kernel_rfl) rfl (z6 (by kernel_rfl)) (z7 (by kernel_rfl)) rfl rfl rfl (fun _=>q_m rfl) ?_
 refine WD.a (i:=7) (d:=56) (by kernel_rfl) rfl (z6 (by kernel_rfl)) (z7 (by kernel_rfl)) rfl rfl rfl (fun _=>q_conv Try.underlying5 Try.underlying3 rfl rfl) ?_
 refine WD.c (i:=8) (d:=57) (by kernel_rfl) rfl (z6 (by kernel_rfl)) (z7 (by kernel_rfl)) rfl rfl rfl (zk (l:=[.tmp 56,.const (.int .i64 1)]) Try.call11 (.cons rfl (.cons rfl .nil))) (fun w hw=>by have pz:=(hz.call2 hw (.nil : Sel [stb z21 30 [(.int .i64 za.1.fN),(.int .i64 za.1.fD)],stb z1P 30 [(.int .i64 z8.1.fN),(.int .i64 z8.1.fD)],row (.slice z3d ((z1l.take (1 : Int).toNat).length) z3e) 35 4 ((z1l.take (1 : Int).toNat).flatMap e35),fz []] [] [stb z21 30 [(.int .i64 za.1.fN),(.int .i64 za.1.fD)],stb z1P 30 [(.int .i64 z8.1.fN),(.int .i64 z8.1.fD)],row (.slice z3d ((z1l.take (1 : Int).toNat).length) z3e) 35 4 ((z1l.take (1 : Int).toNat).flatMap e35),fz []]) .h3); exact w_law03_num (Z:=_)  (z4c:=(i64 zbI)) (z4d:=1) (r:=zy) w pz  zyP) ?_
 refine WD.a (i:=9) (d:=58) (by kernel_rfl) rfl (z6 (by kernel_rfl)) (z7 (by kernel_rfl)) rfl rfl rfl (fun _=>q_build (v:=(.agg #[(.int .i64 za.1.fN),(.int .i64 za.1.fD),(.int .i64 zy.fN),(.int .i64 zy.fD)])) (Eos.parts (l:=[.tmp 54,.tmp 57]) (.cons rfl (.cons rfl .nil)) [0,1]) (fun _=>by kernel_rfl)) ?_
 refine WD.mids2 (fuel':=0) (fun (b10o1_52649 : Nat) (b11o1_52649 : Nat)=>[(11,(.slice z3d ((z1l.take (1 : Int).toNat).length) z3e)),(13,(.int .i64 z8.2)),(15,(.int .i64 za.2)),(16,(.pointer (some ⟨b10o1_52649,0,none⟩))),(17,(.pointer (some ⟨b11o1_52649,0,none⟩)))]) (fun (b10o1_52649 : Nat) (b11o1_52649 : Nat)=>[stb b11o1_52649 43 [(.int .i64 za.1.fN),(.int .i64 za.1.fD),(.int .i64 zy.fN),(.int .i64 zy.fD)],stb b10o1_52649 43 [(.int .i64 z8.1.fN),(.int .i64 z8.1.fD),(.int .i64 zx.fN),(.int .i64 zx.fD)],stb z21 30 [(.int .i64 za.1.fN),(.int .i64 za.1.fD)],stb z1P 30 [(.int .i64 z8.1.fN),(.int .i64 z8.1.fD)],row (.slice z3d ((z1l.take (1 : Int).toNat).length) z3e) 35 4 ((z1l.take (1 : Int).toNat).flatMap e35),fz []]) (fun (b10o1_52649 : Nat) (b11o1_52649 : Nat)=>True) (listedA 14 [13,12,11,10,9,8,7,6,5,4,3,2,1,0]) ?_ (fun K10o11o12o13_52649=>?_)
 ·skip
  rintro b10o1_52649 b11o1_52649 _
  refine WD.done (by kernel_rfl) ?_
  refine WX.a ?_
  refine WC.b ?_
  obtain ⟨zi,zyQ,h⟩:=zd h
  refine WC.a ?_
  refine WL.a (d:=60) rfl rfl rfl (q_loadA (cs:=[(.int .i64 z8.1.fN),(.int .i64 z8.1.fD),(.int .i64 zx.fN),(.int .i64 zx.fD)]) aggT_43 rfl rfl (rd_all .h1)) ?_
  refine WL.a (d:=61) rfl rfl rfl (q_loadA (cs:=[(.int .i64 za.1.fN),(.int .i64 za.1.fD),(.int .i64 zy.fN),(.int .i64 zy.fD)]) aggT_43 rfl rfl (rd_all .here)) ?_
  refine WL.b (dd:=62) rfl rfl rfl (zk (l:=[.tmp 60,.tmp 61]) Try.call26 (.cons rfl (.cons rfl .nil))) (.nil : Sel [stb b11o1_52649 43 [(.int .i64 za.1.fN),(.int .i64 za.1.fD),(.int .i64 zy.fN),(.int .i64 zy.fD)],stb b10o1_52649 43 [(.int .i64 z8.1.fN),(.int .i64 z8.1.fD),(.int .i64 zx.fN),(.int .i64 zx.fD)],stb z21 30 [(.int .i64 za.1.fN),(.int .i64 za.1.fD)],stb z1P 30 [(.int .i64 z8.1.fN),(.int .i64 z8.1.fD)],row (.slice z3d ((z1l.take (1 : Int).toNat).length) z3e) 35 4 ((z1l.take (1 : Int).toNat).flatMap e35),fz []] [] [stb b11o1_52649 43 [(.int .i64 za.1.fN),(.int .i64 za.1.fD),(.int .i64 zy.fN),(.int .i64 zy.fD)],stb b10o1_52649 43 [(.int .i64 z8.1.fN),(.int .i64 z8.1.fD),(.int .i64 zx.fN),(.int .i64 zx.fD)],stb z21 30 [(.int .i64 za.1.fN),(.int .i64 za.1.fD)],stb z1P 30 [(.int .i64 z8.1.fN),(.int .i64 z8.1.fD)],row (.slice z3d ((z1l.take (1 : Int).toNat).length) z3e) 35 4 ((z1l.take (1 : Int).toNat).flatMap e35),fz []]) (fun w hw=>by have pz:=(hz.call2 hw (.nil : Sel [stb b11o1_52649 43 [(.int .i64 za.1.fN),(.int .i64 za.1.fD),(.int .i64 zy.fN),(.int .i64 zy.fD)],stb b10o1_52649 43 [(.int .i64 z8.1.fN),(.int .i64 z8.1.fD),(.int .i64 zx.fN),(.int .i64 zx.fD)],stb z21 30 [(.int .i64 za.1.fN),(.int .i64 za.1.fD)],stb z1P 30 [(.int .i64 z8.1.fN),(.int .i64 z8.1.fD)],row (.slice z3d ((z1l.take (1 : Int).toNat).length) z3e) 35 4 ((z1l.take (1 : Int).toNat).flatMap e35),fz []] [] [stb b11o1_52649 43 [(.int .i64 za.1.fN),(.int .i64 za.1.fD),(.int .i64 zy.fN),(.int .i64 zy.fD)],stb b10o1_52649 43 [(.int .i64 z8.1.fN),(.int .i64 z8.1.fD),(.int .i64 zx.fN),(.int .i64 zx.fD)],stb z21 30 [(.int .i64 za.1.fN),(.int .i64 za.1.fD)],stb z1P 30 [(.int .i64 z8.1.fN),(.int .i64 z8.1.fD)],row (.slice z3d ((z1l.take (1 : Int).toNat).length) z3e) 35 4 ((z1l.take (1 : Int).toNat).flatMap e35),fz []]) .h5); exact w_calculus_Chain (Z:=_)  (zu:=(⟨z8.1,zx⟩ : Sapi_Server)) (zw:=(⟨za.1,zy⟩ : Sapi_Server)) (r:=zi) w pz  zyQ) ?_
  refine WL.a (d:=59) rfl rfl rfl (q_m rfl) ?_
  refine WL.a (d:=63) rfl rfl rfl (q_extract rfl rfl) ?_
  refine WL.a (d:=64) rfl rfl rfl (q_extract rfl rfl) ?_
  refine WL.new (dd:=18) rfl rfl rfl (e_alloc (cs:=[(.int .i64 0),(.int .i64 0),(.int .i64 0),(.int .i64 0)]) zeroT_43 rfl) ?_
  intro z2q _
  refine WL.eff0 rfl rfl (e_store (vs:=[(.int .i64 zi.1.fRate.fN),(.int .i64 zi.1.fRate.fD),(.int .i64 zi.1.fLatency.fN),(.int .i64 zi.1.fLatency.fD)]) (ds:=[(.int .i64 zi.1.fRate.fN),(.int .i64 zi.1.fRate.fD),(.int .i64 zi.1.fLatency.fN),(.int .i64 zi.1.fLatency.fD)]) sizT_43 rfl rfl rfl rfl (oc_cons rfl (oc_cons rfl (oc_cons rfl (oc_cons rfl oc_nil)))) .here (Nat.le_of_ble_eq_true rfl) rfl) ?_
  refine WL.a (d:=19) rfl rfl rfl (q_z rfl) ?_
  refine WL.nil ?_
  refine WX.a ?_
  refine WC.b ?_
  obtain ⟨zF,zyR,h⟩:=zd h
  refine WC.a ?_
  refine WL.a (d:=66) rfl rfl rfl (q_m rfl) ?_
  refine WL.freezeS (ls:=z1l.take (1 : Int).toNat) .h5 .h5 hz (RR.flat (enc:=e35) (fun _=>rfl) _) ?_
  intro zyS zBN zn5
  have zyT : RR 1 (p39 (Z ++ zyS)) [(.slice z3d ((z1l.take (1 : Int).toNat).length) z3e)] ([z1l.take (1 : Int).toNat] : List (List z1)):=(RR.cons (r:=[(.slice z3d ((z1l.take (1 : Int).toNat).length) z3e)]) rfl (show p39 _ _ _ from ⟨_,_,rfl,zn5⟩) (RR.nil _ _))
  refine WL.new (dd:=67) rfl rfl rfl (e_buildSlice (cs:=[(.slice z3d ((z1l.take (1 : Int).toNat).length) z3e)]) elT_26 (Eos.parts (l:=[.tmp 66]) (.cons rfl .nil) [0]) (fun _=>by kernel_rfl) rfl (by unfold maxLen; omega)) ?_
  intro zyU _
  refine WL.a (d:=68) rfl rfl rfl (q_loadA (cs:=[(.int .i64 zi.1.fRate.fN),(.int .i64 zi.1.fRate.fD),(.int .i64 zi.1.fLatency.fN),(.int .i64 zi.1.fLatency.fD)]) aggT_43 rfl rfl (rd_all .h2)) ?_
  refine WL.freezeS (ls:=([z1l.take (1 : Int).toNat] : List (List z1))) .here .here hz zyT ?_
  intro zgd zn6 zn7
  replace zn7:=zn7.weak (fun _ _ h=>p39_mono zn6 h)
  refine WL.enter1 (dd:=69) rfl rfl rfl (zk (l:=[.tmp 67,.tmp 68]) Try.call15 (.cons rfl (.cons rfl .nil))) (.nil : Sel [fz zgd,stb z2q 43 [(.int .i64 zi.1.fRate.fN),(.int .i64 zi.1.fRate.fD),(.int .i64 zi.1.fLatency.fN),(.int .i64 zi.1.fLatency.fD)],stb b11o1_52649 43 [(.int .i64 za.1.fN),(.int .i64 za.1.fD),(.int .i64 zy.fN),(.int .i64 zy.fD)],stb b10o1_52649 43 [(.int .i64 z8.1.fN),(.int .i64 z8.1.fD),(.int .i64 zx.fN),(.int .i64 zx.fD)],stb z21 30 [(.int .i64 za.1.fN),(.int .i64 za.1.fD)],stb z1P 30 [(.int .i64 z8.1.fN),(.int .i64 z8.1.fD)]] [] [fz zgd,stb z2q 43 [(.int .i64 zi.1.fRate.fN),(.int .i64 zi.1.fRate.fD),(.int .i64 zi.1.fLatency.fN),(.int .i64 zi.1.fLatency.fD)],stb b11o1_52649 43 [(.int .i64 za.1.fN),(.int .i64 za.1.fD),(.int .i64 zy.fN),(.int .i64 zy.fD)],stb b10o1_52649 43 [(.int .i64 z8.1.fN),(.int .i64 z8.1.fD),(.int .i64 zx.fN),(.int .i64 zx.fD)],stb z21 30 [(.int .i64 za.1.fN),(.int .i64 za.1.fD)],stb z1P 30 [(.int .i64 z8.1.fN),(.int .i64 z8.1.fD)]]) (fun w hw=>by have pz:=(hz.call2 hw (.nil : Sel [fz zgd,stb z2q 43 [(.int .i64 zi.1.fRate.fN),(.int .i64 zi.1.fRate.fD),(.int .i64 zi.1.fLatency.fN),(.int .i64 zi.1.fLatency.fD)],stb b11o1_52649 43 [(.int .i64 za.1.fN),(.int .i64 za.1.fD),(.int .i64 zy.fN),(.int .i64 zy.fD)],stb b10o1_52649 43 [(.int .i64 z8.1.fN),(.int .i64 z8.1.fD),(.int .i64 zx.fN),(.int .i64 zx.fD)],stb z21 30 [(.int .i64 za.1.fN),(.int .i64 za.1.fD)],stb z1P 30 [(.int .i64 z8.1.fN),(.int .i64 z8.1.fD)]] [] [fz zgd,stb z2q 43 [(.int .i64 zi.1.fRate.fN),(.int .i64 zi.1.fRate.fD),(.int .i64 zi.1.fLatency.fN),(.int .i64 zi.1.fLatency.fD)],stb b11o1_52649 43 [(.int .i64 za.1.fN),(.int .i64 za.1.fD),(.int .i64 zy.fN),(.int .i64 zy.fD)],stb b10o1_52649 43 [(.int .i64 z8.1.fN),(.int .i64 z8.1.fD),(.int .i64 zx.fN),(.int .i64 zx.fD)],stb z21 30 [(.int .i64 za.1.fN),(.int .i64 za.1.fD)],stb z1P 30 [(.int .i64 z8.1.fN),(.int .i64 z8.1.fD)]]) .here); exact w_calculus_Delay (Z:=_) (z5h:=(some ⟨zyU,0,none⟩)) (z5i:=1) (z4j:=([z1l.take (1 : Int).toNat] : List (List z1))) (z1s:=zi.1) (r:=zF) w pz zn7 zyR) ?_
  rintro zyV _
  refine WL.merge .here .here ?_
  refine WL.a (d:=65) rfl rfl rfl (q_m rfl) ?_
  refine WL.a (d:=70) rfl rfl rfl (q_extract rfl rfl) ?_
  refine WL.a (d:=71) rfl rfl rfl (q_extract rfl rfl) ?_
  refine WL.new (dd:=20) rfl rfl rfl (e_alloc (cs:=[(.int .i64 0),(.int .i64 0)]) zeroT_30 rfl) ?_
  intro z2m _
  refine WL.eff0 rfl rfl (e_store (vs:=[(.int .i64 zF.1.fN),(.int .i64 zF.1.fD)]) (ds:=[(.int .i64 zF.1.fN),(.int .i64 zF.1.fD)]) sizT_30 rfl rfl rfl rfl (oc_cons rfl (oc_cons rfl oc_nil)) .here (Nat.le_of_ble_eq_true rfl) rfl) ?_
  refine WL.a (d:=21) rfl rfl rfl (q_z rfl) ?_
  refine WL.nil ?_
  refine WX.a ?_
  refine WC.b ?_
  obtain ⟨zR,zyW,h⟩:=zd h
  refine WC.a ?_
  refine WL.a (d:=73) rfl rfl rfl (q_m rfl) ?_
  have zyX : RR 1 (p39 (Z ++ (zgd ++ zyV))) [(.slice z3d ((z1l.take (1 : Int).toNat).length) z3e)] ([z1l.take (1 : Int).toNat] : List (List z1)):=(RR.cons (r:=[(.slice z3d ((z1l.take (1 : Int).toNat).length) z3e)]) rfl (show p39 _ _ _ from ⟨_,_,rfl,(zn5.mono (zn6.trans ((Zle.left _ _).trans (Zle.assoc _ _ _))))⟩) (RR.nil _ _))
  refine WL.new (dd:=74) rfl rfl rfl (e_buildSlice (cs:=[(.slice z3d ((z1l.take (1 : Int).toNat).length) z3e)]) elT_26 (Eos.parts (l:=[.tmp 73]) (.cons rfl .nil) [0]) (fun _=>by kernel_rfl) rfl (by unfold maxLen; omega)) ?_
  intro zyY _
  refine WL.a (d:=75) rfl rfl rfl (q_loadA (cs:=[(.int .i64 z8.1.fN),(.int .i64 z8.1.fD),(.int .i64 zx.fN),(.int .i64 zx.fD)]) aggT_43 rfl rfl (rd_all .h5)) ?_
  refine WL.freezeS (ls:=([z1l.take (1 : Int).toNat] : List (List z1))) .here .h1 hz zyX ?_
  intro z61 zqU zn8
  replace zn8:=zn8.weak (fun _ _ h=>p39_mono zqU h)
  refine WL.enter1 (dd:=76) rfl rfl rfl (zk (l:=[.tmp 74,.tmp 75]) Try.call15 (.cons rfl (.cons rfl .nil))) (.nil : Sel [fz z61,stb z2m 30 [(.int .i64 zF.1.fN),(.int .i64 zF.1.fD)],stb z2q 43 [(.int .i64 zi.1.fRate.fN),(.int .i64 zi.1.fRate.fD),(.int .i64 zi.1.fLatency.fN),(.int .i64 zi.1.fLatency.fD)],stb b11o1_52649 43 [(.int .i64 za.1.fN),(.int .i64 za.1.fD),(.int .i64 zy.fN),(.int .i64 zy.fD)],stb b10o1_52649 43 [(.int .i64 z8.1.fN),(.int .i64 z8.1.fD),(.int .i64 zx.fN),(.int .i64 zx.fD)],stb z21 30 [(.int .i64 za.1.fN),(.int .i64 za.1.fD)],stb z1P 30 [(.int .i64 z8.1.fN),(.int .i64 z8.1.fD)]] [] [fz z61,stb z2m 30 [(.int .i64 zF.1.fN),(.int .i64 zF.1.fD)],stb z2q 43 [(.int .i64 zi.1.fRate.fN),(.int .i64 zi.1.fRate.fD),(.int .i64 zi.1.fLatency.fN),(.int .i64 zi.1.fLatency.fD)],stb b11o1_52649 43 [(.int .i64 za.1.fN),(.int .i64 za.1.fD),(.int .i64 zy.fN),(.int .i64 zy.fD)],stb b10o1_52649 43 [(.int .i64 z8.1.fN),(.int .i64 z8.1.fD),(.int .i64 zx.fN),(.int .i64 zx.fD)],stb z21 30 [(.int .i64 za.1.fN),(.int .i64 za.1.fD)],stb z1P 30 [(.int .i64 z8.1.fN),(.int .i64 z8.1.fD)]]) (fun w hw=>by have pz:=(hz.call2 hw (.nil : Sel [fz z61,stb z2m 30 [(.int .i64 zF.1.fN),(.int .i64 zF.1.fD)],stb z2q 43 [(.int .i64 zi.1.fRate.fN),(.int .i64 zi.1.fRate.fD),(.int .i64 zi.1.fLatency.fN),(.int .i64 zi.1.fLatency.fD)],stb b11o1_52649 43 [(.int .i64 za.1.fN),(.int .i64 za.1.fD),(.int .i64 zy.fN),(.int .i64 zy.fD)],stb b10o1_52649 43 [(.int .i64 z8.1.fN),(.int .i64 z8.1.fD),(.int .i64 zx.fN),(.int .i64 zx.fD)],stb z21 30 [(.int .i64 za.1.fN),(.int .i64 za.1.fD)],stb z1P 30 [(.int .i64 z8.1.fN),(.int .i64 z8.1.fD)]] [] [fz z61,stb z2m 30 [(.int .i64 zF.1.fN),(.int .i64 zF.1.fD)],stb z2q 43 [(.int .i64 zi.1.fRate.fN),(.int .i64 zi.1.fRate.fD),(.int .i64 zi.1.fLatency.fN),(.int .i64 zi.1.fLatency.fD)],stb b11o1_52649 43 [(.int .i64 za.1.fN),(.int .i64 za.1.fD),(.int .i64 zy.fN),(.int .i64 zy.fD)],stb b10o1_52649 43 [(.int .i64 z8.1.fN),(.int .i64 z8.1.fD),(.int .i64 zx.fN),(.int .i64 zx.fD)],stb z21 30 [(.int .i64 za.1.fN),(.int .i64 za.1.fD)],stb z1P 30 [(.int .i64 z8.1.fN),(.int .i64 z8.1.fD)]]) .here); exact w_calculus_Delay (Z:=_) (z5h:=(some ⟨zyY,0,none⟩)) (z5i:=1) (z4j:=([z1l.take (1 : Int).toNat] : List (List z1))) (z1s:=(⟨z8.1,zx⟩ : Sapi_Server)) (r:=zR) w pz zn8 zyW) ?_
  rintro z7s _
  refine WL.merge .here .here ?_
  refine WL.a (d:=72) rfl rfl rfl (q_m rfl) ?_
  refine WL.a (d:=77) rfl rfl rfl (q_extract rfl rfl) ?_
  refine WL.a (d:=78) rfl rfl rfl (q_extract rfl rfl) ?_
  refine WL.new (dd:=22) rfl rfl rfl (e_alloc (cs:=[(.int .i64 0),(.int .i64 0)]) zeroT_30 rfl) ?_
  intro z2P _
  refine WL.eff0 rfl rfl (e_store (vs:=[(.int .i64 zR.1.fN),(.int .i64 zR.1.fD)]) (ds:=[(.int .i64 zR.1.fN),(.int .i64 zR.1.fD)]) sizT_30 rfl rfl rfl rfl (oc_cons rfl (oc_cons rfl oc_nil)) .here (Nat.le_of_ble_eq_true rfl) rfl) ?_
  refine WL.a (d:=23) rfl rfl rfl (q_z rfl) ?_
  refine WL.nil ?_
  refine WX.a ?_
  refine WC.b ?_
  refine WC.b ?_
  refine WC.a ?_
  refine WL.a (d:=79) rfl rfl rfl (q_m rfl) ?_
  refine WL.a (d:=80) rfl rfl rfl (q_neq rfl rfl) ?_
  refine WL.a (d:=81) rfl rfl rfl (q_m rfl) ?_
  refine WL.cut0 True [(11,(.slice z3d ((z1l.take (1 : Int).toNat).length) z3e)),(17,(.pointer (some ⟨b11o1_52649,0,none⟩))),(19,(.int .i64 zi.2)),(20,(.pointer (some ⟨z2m,0,none⟩))),(21,(.int .i64 zF.2)),(22,(.pointer (some ⟨z2P,0,none⟩))),(23,(.int .i64 zR.2)),(84,(.bool ((decide (z8.2 ≠ 0)) || (decide (za.2 ≠ 0)))))] [stb z2P 30 [(.int .i64 zR.1.fN),(.int .i64 zR.1.fD)],fz (z61 ++ z7s),stb z2m 30 [(.int .i64 zF.1.fN),(.int .i64 zF.1.fD)],stb z2q 43 [(.int .i64 zi.1.fRate.fN),(.int .i64 zi.1.fRate.fD),(.int .i64 zi.1.fLatency.fN),(.int .i64 zi.1.fLatency.fD)],stb b11o1_52649 43 [(.int .i64 za.1.fN),(.int .i64 za.1.fD),(.int .i64 zy.fN),(.int .i64 zy.fD)],stb b10o1_52649 43 [(.int .i64 z8.1.fN),(.int .i64 z8.1.fD),(.int .i64 zx.fN),(.int .i64 zx.fD)],stb z21 30 [(.int .i64 za.1.fN),(.int .i64 za.1.fD)],stb z1P 30 [(.int .i64 z8.1.fN),(.int .i64 z8.1.fD)]] 3 ?_ (fun _=>?_)
  ·rcases Bool.eq_false_or_eq_true (decide (z8.2 ≠ 0)) with hb' | hb'
   ·have zqV:=hb'; clear hb'
    refine WL.pin (i:=81) rfl zqV ?_
    refine WL.e rfl rfl rfl ?_
    refine WL.e rfl rfl rfl ?_
    refine WL.a (d:=84) rfl rfl rfl (q_pickT rfl rfl) ?_
    exact WL.cutEnd () trivial (.cons rfl (.cons rfl (.cons rfl (.cons rfl (.cons rfl (.cons rfl (.cons rfl (.cons (zr (or_l zqV)) .nil)))))))) (.cons .here (.cons .here (.cons .here (.cons .here (.cons .here (.cons .here (.cons .here (.cons .here .nil))))))))
   ·have zqW:=hb'; clear hb'
    refine WL.pin (i:=81) rfl zqW ?_
    refine WL.a (d:=82) rfl rfl rfl (q_m rfl) ?_
    refine WL.a (d:=83) rfl rfl rfl (q_neq rfl rfl) ?_
    refine WL.a (d:=84) rfl rfl rfl (q_pickF rfl rfl) ?_
    exact WL.cutEnd () trivial (.cons rfl (.cons rfl (.cons rfl (.cons rfl (.cons rfl (.cons rfl (.cons rfl (.cons (zr (or_r zqW)) .nil)))))))) (.cons .here (.cons .here (.cons .here (.cons .here (.cons .here (.cons .here (.cons .here (.cons .here .nil))))))))
  ·skip
   refine WL.a (d:=85) rfl rfl rfl (q_m rfl) ?_
   refine WL.cut0 True [(11,(.slice z3d ((z1l.take (1 : Int).toNat).length) z3e)),(17,(.pointer (some ⟨b11o1_52649,0,none⟩))),(20,(.pointer (some ⟨z2m,0,none⟩))),(21,(.int .i64 zF.2)),(22,(.pointer (some ⟨z2P,0,none⟩))),(23,(.int .i64 zR.2)),(88,(.bool (((decide (z8.2 ≠ 0)) || (decide (za.2 ≠ 0))) || (decide (zi.2 ≠ 0)))))] [stb z2P 30 [(.int .i64 zR.1.fN),(.int .i64 zR.1.fD)],fz (z61 ++ z7s),stb z2m 30 [(.int .i64 zF.1.fN),(.int .i64 zF.1.fD)],stb z2q 43 [(.int .i64 zi.1.fRate.fN),(.int .i64 zi.1.fRate.fD),(.int .i64 zi.1.fLatency.fN),(.int .i64 zi.1.fLatency.fD)],stb b11o1_52649 43 [(.int .i64 za.1.fN),(.int .i64 za.1.fD),(.int .i64 zy.fN),(.int .i64 zy.fD)],stb b10o1_52649 43 [(.int .i64 z8.1.fN),(.int .i64 z8.1.fD),(.int .i64 zx.fN),(.int .i64 zx.fD)],stb z21 30 [(.int .i64 za.1.fN),(.int .i64 za.1.fD)],stb z1P 30 [(.int .i64 z8.1.fN),(.int .i64 z8.1.fD)]] 3 ?_ (fun _=>?_)
   ·rcases Bool.eq_false_or_eq_true ((decide (z8.2 ≠ 0)) || (decide (za.2 ≠ 0))) with hb' | hb'
    ·have zqX:=hb'; clear hb'
     refine WL.pin (i:=85) rfl zqX ?_
     refine WL.e rfl rfl rfl ?_
     refine WL.e rfl rfl rfl ?_
     refine WL.a (d:=88) rfl rfl rfl (q_pickT rfl rfl) ?_
     exact WL.cutEnd () trivial (.cons rfl (.cons rfl (.cons rfl (.cons rfl (.cons rfl (.cons rfl (.cons (zr (or_l zqX)) .nil))))))) (.cons .here (.cons .here (.cons .here (.cons .here (.cons .here (.cons .here (.cons .here (.cons .here .nil))))))))
    ·have zqY:=hb'; clear hb'
     refine WL.pin (i:=85) rfl zqY ?_
     refine WL.a (d:=86) rfl rfl rfl (q_m rfl) ?_
     refine WL.a (d:=87) rfl rfl rfl (q_neq rfl rfl) ?_
     refine WL.a (d:=88) rfl rfl rfl (q_pickF rfl rfl) ?_
     exact WL.cutEnd () trivial (.cons rfl (.cons rfl (.cons rfl (.cons rfl (.cons rfl (.cons rfl (.cons (zr (or_r zqY)) .nil))))))) (.cons .here (.cons .here (.cons .here (.cons .here (.cons .here (.cons .here (.cons .here (.cons .here .nil))))))))
   ·skip
    refine WL.nil ?_
    refine WX.a ?_
    refine WC.cond rfl (fun zn9=>?_) (fun zn9=>?_)
    ·replace h:=ite_t h zn9
     refine WC.b ?_
     refine WC.a ?_
     refine WL.a (d:=10) rfl rfl rfl (q_z rfl) ?_
     refine WL.nil ?_
     refine WX.a ?_
     refine WC.ret ?_
     refine WX.thenRet ?_
     obtain rfl:=Option.some.inj h
     refine WX.bpRet Try.results7 (.tmp rfl .nil) (fun w hw=>?_)
     exact ⟨(z61 ++ z7s),ret1 rfl,trivial,hw.sub (.cons .h1 .nil)⟩
    ·replace h:=ite_f h zn9
     refine WC.skip ?_
     refine WX.a ?_
     refine WC.b ?_
     refine WC.b ?_
     refine WC.a ?_
     refine WL.a (d:=89) rfl rfl rfl (q_m rfl) ?_
     refine WL.a (d:=90) rfl rfl rfl (q_neq rfl rfl) ?_
     refine WL.a (d:=91) rfl rfl rfl (q_m rfl) ?_
     refine WL.cut0 True [(11,(.slice z3d ((z1l.take (1 : Int).toNat).length) z3e)),(17,(.pointer (some ⟨b11o1_52649,0,none⟩))),(20,(.pointer (some ⟨z2m,0,none⟩))),(21,(.int .i64 zF.2)),(22,(.pointer (some ⟨z2P,0,none⟩))),(94,(.bool ((decide (zF.2 ≠ 0)) || (decide (zR.2 ≠ 0)))))] [stb z2P 30 [(.int .i64 zR.1.fN),(.int .i64 zR.1.fD)],fz (z61 ++ z7s),stb z2m 30 [(.int .i64 zF.1.fN),(.int .i64 zF.1.fD)],stb z2q 43 [(.int .i64 zi.1.fRate.fN),(.int .i64 zi.1.fRate.fD),(.int .i64 zi.1.fLatency.fN),(.int .i64 zi.1.fLatency.fD)],stb b11o1_52649 43 [(.int .i64 za.1.fN),(.int .i64 za.1.fD),(.int .i64 zy.fN),(.int .i64 zy.fD)],stb b10o1_52649 43 [(.int .i64 z8.1.fN),(.int .i64 z8.1.fD),(.int .i64 zx.fN),(.int .i64 zx.fD)],stb z21 30 [(.int .i64 za.1.fN),(.int .i64 za.1.fD)],stb z1P 30 [(.int .i64 z8.1.fN),(.int .i64 z8.1.fD)]] 3 ?_ (fun _=>?_)
     ·rcases Bool.eq_false_or_eq_true (decide (zF.2 ≠ 0)) with hb' | hb'
      ·have zqZ:=hb'; clear hb'
       refine WL.pin (i:=91) rfl zqZ ?_
       refine WL.e rfl rfl rfl ?_
       refine WL.e rfl rfl rfl ?_
       refine WL.a (d:=94) rfl rfl rfl (q_pickT rfl rfl) ?_
       exact WL.cutEnd () trivial (.cons rfl (.cons rfl (.cons rfl (.cons rfl (.cons rfl (.cons (zr (or_l zqZ)) .nil)))))) (.cons .here (.cons .here (.cons .here (.cons .here (.cons .here (.cons .here (.cons .here (.cons .here .nil))))))))
      ·have zr0:=hb'; clear hb'
       refine WL.pin (i:=91) rfl zr0 ?_
       refine WL.a (d:=92) rfl rfl rfl (q_m rfl) ?_
       refine WL.a (d:=93) rfl rfl rfl (q_neq rfl rfl) ?_
       refine WL.a (d:=94) rfl rfl rfl (q_pickF rfl rfl) ?_
       exact WL.cutEnd () trivial (.cons rfl (.cons rfl (.cons rfl (.cons rfl (.cons rfl (.cons (zr (or_r zr0)) .nil)))))) (.cons .here (.cons .here (.cons .here (.cons .here (.cons .here (.cons .here (.cons .here (.cons .here .nil))))))))
     ·skip
      refine WL.nil ?_
      refine WX.a ?_
      refine WC.cond rfl (fun zna=>?_) (fun zna=>?_)
      ·replace h:=ite_t h zna
       refine WC.b ?_
       obtain ⟨zn0,zr1,h⟩:=zd h
       refine WC.a ?_
       refine WL.a (d:=95) rfl rfl rfl (q_m rfl) ?_
       refine WL.a (d:=96) rfl rfl rfl (q_eql rfl rfl) ?_
       refine WL.a (d:=97) rfl rfl rfl (q_m rfl) ?_
       refine WL.cut1 (fun (zex : Zp)=>Zle (Z ++ (z61 ++ z7s)) (Z ++ zex)) (fun (zex : Zp)=>[(99,(.bool zn0))]) (fun (zex : Zp)=>[stb z2P 30 [(.int .i64 zR.1.fN),(.int .i64 zR.1.fD)],fz zex,stb z2m 30 [(.int .i64 zF.1.fN),(.int .i64 zF.1.fD)],stb z2q 43 [(.int .i64 zi.1.fRate.fN),(.int .i64 zi.1.fRate.fD),(.int .i64 zi.1.fLatency.fN),(.int .i64 zi.1.fLatency.fD)],stb b11o1_52649 43 [(.int .i64 za.1.fN),(.int .i64 za.1.fD),(.int .i64 zy.fN),(.int .i64 zy.fD)],stb b10o1_52649 43 [(.int .i64 z8.1.fN),(.int .i64 z8.1.fD),(.int .i64 zx.fN),(.int .i64 zx.fD)],stb z21 30 [(.int .i64 za.1.fN),(.int .i64 za.1.fD)],stb z1P 30 [(.int .i64 z8.1.fN),(.int .i64 z8.1.fD)]]) 2 ?_ (fun zex zBO=>?_)
       ·rcases Bool.eq_false_or_eq_true (decide (zF.2 = 6)) with hb' | hb'
        ·have zr2:=hb'; clear hb'
         have zge:=ite_t zr1 zr2
         obtain ⟨zmZ,zyZ,zge⟩:=zd zge
         replace zge:=Option.some.inj zge
         refine WL.pin (i:=97) rfl zr2 ?_
         refine WL.enter1 (dd:=98) rfl rfl rfl (zk (l:=[]) Try.call17 .nil) (.nil : Sel [stb z2P 30 [(.int .i64 zR.1.fN),(.int .i64 zR.1.fD)],fz (z61 ++ z7s),stb z2m 30 [(.int .i64 zF.1.fN),(.int .i64 zF.1.fD)],stb z2q 43 [(.int .i64 zi.1.fRate.fN),(.int .i64 zi.1.fRate.fD),(.int .i64 zi.1.fLatency.fN),(.int .i64 zi.1.fLatency.fD)],stb b11o1_52649 43 [(.int .i64 za.1.fN),(.int .i64 za.1.fD),(.int .i64 zy.fN),(.int .i64 zy.fD)],stb b10o1_52649 43 [(.int .i64 z8.1.fN),(.int .i64 z8.1.fD),(.int .i64 zx.fN),(.int .i64 zx.fD)],stb z21 30 [(.int .i64 za.1.fN),(.int .i64 za.1.fD)],stb z1P 30 [(.int .i64 z8.1.fN),(.int .i64 z8.1.fD)]] [] [stb z2P 30 [(.int .i64 zR.1.fN),(.int .i64 zR.1.fD)],fz (z61 ++ z7s),stb z2m 30 [(.int .i64 zF.1.fN),(.int .i64 zF.1.fD)],stb z2q 43 [(.int .i64 zi.1.fRate.fN),(.int .i64 zi.1.fRate.fD),(.int .i64 zi.1.fLatency.fN),(.int .i64 zi.1.fLatency.fD)],stb b11o1_52649 43 [(.int .i64 za.1.fN),(.int .i64 za.1.fD),(.int .i64 zy.fN),(.int .i64 zy.fD)],stb b10o1_52649 43 [(.int .i64 z8.1.fN),(.int .i64 z8.1.fD),(.int .i64 zx.fN),(.int .i64 zx.fD)],stb z21 30 [(.int .i64 za.1.fN),(.int .i64 za.1.fD)],stb z1P 30 [(.int .i64 z8.1.fN),(.int .i64 z8.1.fD)]]) (fun w hw=>by have pz:=(hz.call2 hw (.nil : Sel [stb z2P 30 [(.int .i64 zR.1.fN),(.int .i64 zR.1.fD)],fz (z61 ++ z7s),stb z2m 30 [(.int .i64 zF.1.fN),(.int .i64 zF.1.fD)],stb z2q 43 [(.int .i64 zi.1.fRate.fN),(.int .i64 zi.1.fRate.fD),(.int .i64 zi.1.fLatency.fN),(.int .i64 zi.1.fLatency.fD)],stb b11o1_52649 43 [(.int .i64 za.1.fN),(.int .i64 za.1.fD),(.int .i64 zy.fN),(.int .i64 zy.fD)],stb b10o1_52649 43 [(.int .i64 z8.1.fN),(.int .i64 z8.1.fD),(.int .i64 zx.fN),(.int .i64 zx.fD)],stb z21 30 [(.int .i64 za.1.fN),(.int .i64 za.1.fD)],stb z1P 30 [(.int .i64 z8.1.fN),(.int .i64 z8.1.fD)]] [] [stb z2P 30 [(.int .i64 zR.1.fN),(.int .i64 zR.1.fD)],fz (z61 ++ z7s),stb z2m 30 [(.int .i64 zF.1.fN),(.int .i64 zF.1.fD)],stb z2q 43 [(.int .i64 zi.1.fRate.fN),(.int .i64 zi.1.fRate.fD),(.int .i64 zi.1.fLatency.fN),(.int .i64 zi.1.fLatency.fD)],stb b11o1_52649 43 [(.int .i64 za.1.fN),(.int .i64 za.1.fD),(.int .i64 zy.fN),(.int .i64 zy.fD)],stb b10o1_52649 43 [(.int .i64 z8.1.fN),(.int .i64 z8.1.fD),(.int .i64 zx.fN),(.int .i64 zx.fD)],stb z21 30 [(.int .i64 za.1.fN),(.int .i64 za.1.fD)],stb z1P 30 [(.int .i64 z8.1.fN),(.int .i64 z8.1.fD)]]) .h1); exact w_law03_awake (Z:=_)   (r:=zmZ) w pz  zyZ) ?_
         rintro zz0 _
         refine WL.merge .here .h1 ?_
         refine WL.a (d:=99) rfl rfl rfl (q_pickT rfl rfl) ?_
         exact WL.cutEnd (G:=Zp) ((z61 ++ z7s) ++ zz0) ((Zle.left _ _).trans (Zle.assoc _ _ _)) (.cons (zr zge) .nil) (.cons .h1 (.cons .here (.cons .here (.cons .here (.cons .here (.cons .here (.cons .here (.cons .here .nil))))))))
        ·have zr3:=hb'; clear hb'
         have znb:=ite_f zr1 zr3
         replace znb:=Option.some.inj znb
         refine WL.pin (i:=97) rfl zr3 ?_
         refine WL.e rfl rfl rfl ?_
         refine WL.a (d:=99) rfl rfl rfl (q_pickF rfl rfl) ?_
         exact WL.cutEnd (G:=Zp) (z61 ++ z7s) (Zle.refl _) (.cons (zr znb) .nil) (.cons .here (.cons .here (.cons .here (.cons .here (.cons .here (.cons .here (.cons .here (.cons .here .nil))))))))
       ·skip
        refine WL.a (d:=10) rfl rfl rfl (q_z rfl) ?_
        refine WL.nil ?_
        refine WX.a ?_
        refine WC.ret ?_
        refine WX.thenRet ?_
        obtain rfl:=Option.some.inj h
        refine WX.bpRet Try.results7 (.tmp rfl .nil) (fun w hw=>?_)
        exact ⟨zex,ret1 rfl,trivial,hw.sub (.cons .h1 .nil)⟩
      ·replace h:=ite_f h zna
       refine WC.skip ?_
       refine WX.a ?_
       refine WC.b ?_
       obtain ⟨z4Y,zz1,h⟩:=zd h
       refine WC.a ?_
       refine WL.a (d:=101) rfl rfl rfl (q_m rfl) ?_
       refine WL.a (d:=102) rfl rfl rfl (q_loadA (cs:=[(.int .i64 zR.1.fN),(.int .i64 zR.1.fD)]) aggT_30 rfl rfl (rd_all .here)) ?_
       refine WL.enter2 (dd:=103) rfl rfl rfl (zk (l:=[.tmp 101,.tmp 102]) Try.call27 (.cons rfl (.cons rfl .nil))) (.nil : Sel [stb z2P 30 [(.int .i64 zR.1.fN),(.int .i64 zR.1.fD)],fz (z61 ++ z7s),stb z2m 30 [(.int .i64 zF.1.fN),(.int .i64 zF.1.fD)],stb z2q 43 [(.int .i64 zi.1.fRate.fN),(.int .i64 zi.1.fRate.fD),(.int .i64 zi.1.fLatency.fN),(.int .i64 zi.1.fLatency.fD)],stb b11o1_52649 43 [(.int .i64 za.1.fN),(.int .i64 za.1.fD),(.int .i64 zy.fN),(.int .i64 zy.fD)],stb b10o1_52649 43 [(.int .i64 z8.1.fN),(.int .i64 z8.1.fD),(.int .i64 zx.fN),(.int .i64 zx.fD)],stb z21 30 [(.int .i64 za.1.fN),(.int .i64 za.1.fD)],stb z1P 30 [(.int .i64 z8.1.fN),(.int .i64 z8.1.fD)]] [] [stb z2P 30 [(.int .i64 zR.1.fN),(.int .i64 zR.1.fD)],fz (z61 ++ z7s),stb z2m 30 [(.int .i64 zF.1.fN),(.int .i64 zF.1.fD)],stb z2q 43 [(.int .i64 zi.1.fRate.fN),(.int .i64 zi.1.fRate.fD),(.int .i64 zi.1.fLatency.fN),(.int .i64 zi.1.fLatency.fD)],stb b11o1_52649 43 [(.int .i64 za.1.fN),(.int .i64 za.1.fD),(.int .i64 zy.fN),(.int .i64 zy.fD)],stb b10o1_52649 43 [(.int .i64 z8.1.fN),(.int .i64 z8.1.fD),(.int .i64 zx.fN),(.int .i64 zx.fD)],stb z21 30 [(.int .i64 za.1.fN),(.int .i64 za.1.fD)],stb z1P 30 [(.int .i64 z8.1.fN),(.int .i64 z8.1.fD)]]) (fun w hw=>by have pz:=(hz.call2 hw (.nil : Sel [stb z2P 30 [(.int .i64 zR.1.fN),(.int .i64 zR.1.fD)],fz (z61 ++ z7s),stb z2m 30 [(.int .i64 zF.1.fN),(.int .i64 zF.1.fD)],stb z2q 43 [(.int .i64 zi.1.fRate.fN),(.int .i64 zi.1.fRate.fD),(.int .i64 zi.1.fLatency.fN),(.int .i64 zi.1.fLatency.fD)],stb b11o1_52649 43 [(.int .i64 za.1.fN),(.int .i64 za.1.fD),(.int .i64 zy.fN),(.int .i64 zy.fD)],stb b10o1_52649 43 [(.int .i64 z8.1.fN),(.int .i64 z8.1.fD),(.int .i64 zx.fN),(.int .i64 zx.fD)],stb z21 30 [(.int .i64 za.1.fN),(.int .i64 za.1.fD)],stb z1P 30 [(.int .i64 z8.1.fN),(.int .i64 z8.1.fD)]] [] [stb z2P 30 [(.int .i64 zR.1.fN),(.int .i64 zR.1.fD)],fz (z61 ++ z7s),stb z2m 30 [(.int .i64 zF.1.fN),(.int .i64 zF.1.fD)],stb z2q 43 [(.int .i64 zi.1.fRate.fN),(.int .i64 zi.1.fRate.fD),(.int .i64 zi.1.fLatency.fN),(.int .i64 zi.1.fLatency.fD)],stb b11o1_52649 43 [(.int .i64 za.1.fN),(.int .i64 za.1.fD),(.int .i64 zy.fN),(.int .i64 zy.fD)],stb b10o1_52649 43 [(.int .i64 z8.1.fN),(.int .i64 z8.1.fD),(.int .i64 zx.fN),(.int .i64 zx.fD)],stb z21 30 [(.int .i64 za.1.fN),(.int .i64 za.1.fD)],stb z1P 30 [(.int .i64 z8.1.fN),(.int .i64 z8.1.fD)]]) .h1); exact w_curve_Shift (Z:=_) (zbD:=z3d) (zbE:=z3e) (zT:=(z1l.take (1 : Int).toNat)) (z24:=zR.1) (r:=z4Y) w pz (zn5.mono (zn6.trans ((Zle.left _ _).trans ((Zle.assoc _ _ _).trans (zqU.trans ((Zle.left _ _).trans (Zle.assoc _ _ _))))))) zz1) ?_
       rintro znc znd _
       refine WL.a (d:=100) rfl rfl rfl (q_m rfl) ?_
       refine WL.a (d:=104) rfl rfl rfl (q_extract rfl rfl) ?_
       refine WL.a (d:=105) rfl rfl rfl (q_extract rfl rfl) ?_
       refine WL.a (d:=24) rfl rfl rfl (q_z rfl) ?_
       refine WL.a (d:=25) rfl rfl rfl (q_z rfl) ?_
       refine WL.nil ?_
       refine WX.a ?_
       refine WC.b ?_
       obtain ⟨z1J,zz2,h⟩:=zd h
       refine WC.a ?_
       refine WL.a (d:=107) rfl rfl rfl (q_m rfl) ?_
       refine WL.freezeS (ls:=z4Y.1) .here .h1 hz (RR.flat (enc:=e35) (fun _=>rfl) _) ?_
       intro zz3 zBP zz4
       have zz5 : RR 1 (p39 (Z ++ zz3)) [(.slice znc z4Y.1.length znd)] ([z4Y.1] : List (List z1)):=(RR.cons (r:=[(.slice znc z4Y.1.length znd)]) rfl (show p39 _ _ _ from ⟨_,_,rfl,zz4⟩) (RR.nil _ _))
       refine WL.new (dd:=108) rfl rfl rfl (e_buildSlice (cs:=[(.slice znc z4Y.1.length znd)]) elT_26 (Eos.parts (l:=[.tmp 107]) (.cons rfl .nil) [0]) (fun _=>by kernel_rfl) rfl (by unfold maxLen; omega)) ?_
       intro zz6 _
       refine WL.a (d:=109) rfl rfl rfl (q_loadA (cs:=[(.int .i64 za.1.fN),(.int .i64 za.1.fD),(.int .i64 zy.fN),(.int .i64 zy.fD)]) aggT_43 rfl rfl (rd_all .h5)) ?_
       refine WL.freezeS (ls:=([z4Y.1] : List (List z1))) .here .here hz zz5 ?_
       intro z3E zz7 zne
       replace zne:=zne.weak (fun _ _ h=>p39_mono zz7 h)
       refine WL.enter1 (dd:=110) rfl rfl rfl (zk (l:=[.tmp 108,.tmp 109]) Try.call15 (.cons rfl (.cons rfl .nil))) (.nil : Sel [fz z3E,stb z2P 30 [(.int .i64 zR.1.fN),(.int .i64 zR.1.fD)],stb z2m 30 [(.int .i64 zF.1.fN),(.int .i64 zF.1.fD)],stb z2q 43 [(.int .i64 zi.1.fRate.fN),(.int .i64 zi.1.fRate.fD),(.int .i64 zi.1.fLatency.fN),(.int .i64 zi.1.fLatency.fD)],stb b11o1_52649 43 [(.int .i64 za.1.fN),(.int .i64 za.1.fD),(.int .i64 zy.fN),(.int .i64 zy.fD)],stb b10o1_52649 43 [(.int .i64 z8.1.fN),(.int .i64 z8.1.fD),(.int .i64 zx.fN),(.int .i64 zx.fD)],stb z21 30 [(.int .i64 za.1.fN),(.int .i64 za.1.fD)],stb z1P 30 [(.int .i64 z8.1.fN),(.int .i64 z8.1.fD)]] [] [fz z3E,stb z2P 30 [(.int .i64 zR.1.fN),(.int .i64 zR.1.fD)],stb z2m 30 [(.int .i64 zF.1.fN),(.int .i64 zF.1.fD)],stb z2q 43 [(.int .i64 zi.1.fRate.fN),(.int .i64 zi.1.fRate.fD),(.int .i64 zi.1.fLatency.fN),(.int .i64 zi.1.fLatency.fD)],stb b11o1_52649 43 [(.int .i64 za.1.fN),(.int .i64 za.1.fD),(.int .i64 zy.fN),(.int .i64 zy.fD)],stb b10o1_52649 43 [(.int .i64 z8.1.fN),(.int .i64 z8.1.fD),(.int .i64 zx.fN),(.int .i64 zx.fD)],stb z21 30 [(.int .i64 za.1.fN),(.int .i64 za.1.fD)],stb z1P 30 [(.int .i64 z8.1.fN),(.int .i64 z8.1.fD)]]) (fun w hw=>by have pz:=(hz.call2 hw (.nil : Sel [fz z3E,stb z2P 30 [(.int .i64 zR.1.fN),(.int .i64 zR.1.fD)],stb z2m 30 [(.int .i64 zF.1.fN),(.int .i64 zF.1.fD)],stb z2q 43 [(.int .i64 zi.1.fRate.fN),(.int .i64 zi.1.fRate.fD),(.int .i64 zi.1.fLatency.fN),(.int .i64 zi.1.fLatency.fD)],stb b11o1_52649 43 [(.int .i64 za.1.fN),(.int .i64 za.1.fD),(.int .i64 zy.fN),(.int .i64 zy.fD)],stb b10o1_52649 43 [(.int .i64 z8.1.fN),(.int .i64 z8.1.fD),(.int .i64 zx.fN),(.int .i64 zx.fD)],stb z21 30 [(.int .i64 za.1.fN),(.int .i64 za.1.fD)],stb z1P 30 [(.int .i64 z8.1.fN),(.int .i64 z8.1.fD)]] [] [fz z3E,stb z2P 30 [(.int .i64 zR.1.fN),(.int .i64 zR.1.fD)],stb z2m 30 [(.int .i64 zF.1.fN),(.int .i64 zF.1.fD)],stb z2q 43 [(.int .i64 zi.1.fRate.fN),(.int .i64 zi.1.fRate.fD),(.int .i64 zi.1.fLatency.fN),(.int .i64 zi.1.fLatency.fD)],stb b11o1_52649 43 [(.int .i64 za.1.fN),(.int .i64 za.1.fD),(.int .i64 zy.fN),(.int .i64 zy.fD)],stb b10o1_52649 43 [(.int .i64 z8.1.fN),(.int .i64 z8.1.fD),(.int .i64 zx.fN),(.int .i64 zx.fD)],stb z21 30 [(.int .i64 za.1.fN),(.int .i64 za.1.fD)],stb z1P 30 [(.int .i64 z8.1.fN),(.int .i64 z8.1.fD)]]) .here); exact w_calculus_Delay (Z:=_) (z5h:=(some ⟨zz6,0,none⟩)) (z5i:=1) (z4j:=([z4Y.1] : List (List z1))) (z1s:=(⟨za.1,zy⟩ : Sapi_Server)) (r:=z1J) w pz zne zz2) ?_
       rintro z4l _
       refine WL.merge .here .here ?_
       refine WL.a (d:=106) rfl rfl rfl (q_m rfl) ?_
       refine WL.a (d:=111) rfl rfl rfl (q_extract rfl rfl) ?_
       refine WL.a (d:=112) rfl rfl rfl (q_extract rfl rfl) ?_
       refine WL.new (dd:=26) rfl rfl rfl (e_alloc (cs:=[(.int .i64 0),(.int .i64 0)]) zeroT_30 rfl) ?_
       intro z5m _
       refine WL.eff0 rfl rfl (e_store (vs:=[(.int .i64 z1J.1.fN),(.int .i64 z1J.1.fD)]) (ds:=[(.int .i64 z1J.1.fN),(.int .i64 z1J.1.fD)]) sizT_30 rfl rfl rfl rfl (oc_cons rfl (oc_cons rfl oc_nil)) .here (Nat.le_of_ble_eq_true rfl) rfl) ?_
       refine WL.a (d:=27) rfl rfl rfl (q_z rfl) ?_
       refine WL.nil ?_
       refine WX.a ?_
       refine WC.b ?_
       obtain ⟨z2a,zz8,h⟩:=zd h
       refine WC.a ?_
       refine WL.a (d:=114) rfl rfl rfl (q_loadA (cs:=[(.int .i64 zR.1.fN),(.int .i64 zR.1.fD)]) aggT_30 rfl rfl (rd_all .h2)) ?_
       refine WL.a (d:=115) rfl rfl rfl (q_loadA (cs:=[(.int .i64 z1J.1.fN),(.int .i64 z1J.1.fD)]) aggT_30 rfl rfl (rd_all .here)) ?_
       refine WL.b (dd:=116) rfl rfl rfl (zk (l:=[.tmp 114,.tmp 115]) Try.call19 (.cons rfl (.cons rfl .nil))) (.nil : Sel [stb z5m 30 [(.int .i64 z1J.1.fN),(.int .i64 z1J.1.fD)],fz (z3E ++ z4l),stb z2P 30 [(.int .i64 zR.1.fN),(.int .i64 zR.1.fD)],stb z2m 30 [(.int .i64 zF.1.fN),(.int .i64 zF.1.fD)],stb z2q 43 [(.int .i64 zi.1.fRate.fN),(.int .i64 zi.1.fRate.fD),(.int .i64 zi.1.fLatency.fN),(.int .i64 zi.1.fLatency.fD)],stb b11o1_52649 43 [(.int .i64 za.1.fN),(.int .i64 za.1.fD),(.int .i64 zy.fN),(.int .i64 zy.fD)],stb b10o1_52649 43 [(.int .i64 z8.1.fN),(.int .i64 z8.1.fD),(.int .i64 zx.fN),(.int .i64 zx.fD)],stb z21 30 [(.int .i64 za.1.fN),(.int .i64 za.1.fD)],stb z1P 30 [(.int .i64 z8.1.fN),(.int .i64 z8.1.fD)]] [] [stb z5m 30 [(.int .i64 z1J.1.fN),(.int .i64 z1J.1.fD)],fz (z3E ++ z4l),stb z2P 30 [(.int .i64 zR.1.fN),(.int .i64 zR.1.fD)],stb z2m 30 [(.int .i64 zF.1.fN),(.int .i64 zF.1.fD)],stb z2q 43 [(.int .i64 zi.1.fRate.fN),(.int .i64 zi.1.fRate.fD),(.int .i64 zi.1.fLatency.fN),(.int .i64 zi.1.fLatency.fD)],stb b11o1_52649 43 [(.int .i64 za.1.fN),(.int .i64 za.1.fD),(.int .i64 zy.fN),(.int .i64 zy.fD)],stb b10o1_52649 43 [(.int .i64 z8.1.fN),(.int .i64 z8.1.fD),(.int .i64 zx.fN),(.int .i64 zx.fD)],stb z21 30 [(.int .i64 za.1.fN),(.int .i64 za.1.fD)],stb z1P 30 [(.int .i64 z8.1.fN),(.int .i64 z8.1.fD)]]) (fun w hw=>by have pz:=(hz.call2 hw (.nil : Sel [stb z5m 30 [(.int .i64 z1J.1.fN),(.int .i64 z1J.1.fD)],fz (z3E ++ z4l),stb z2P 30 [(.int .i64 zR.1.fN),(.int .i64 zR.1.fD)],stb z2m 30 [(.int .i64 zF.1.fN),(.int .i64 zF.1.fD)],stb z2q 43 [(.int .i64 zi.1.fRate.fN),(.int .i64 zi.1.fRate.fD),(.int .i64 zi.1.fLatency.fN),(.int .i64 zi.1.fLatency.fD)],stb b11o1_52649 43 [(.int .i64 za.1.fN),(.int .i64 za.1.fD),(.int .i64 zy.fN),(.int .i64 zy.fD)],stb b10o1_52649 43 [(.int .i64 z8.1.fN),(.int .i64 z8.1.fD),(.int .i64 zx.fN),(.int .i64 zx.fD)],stb z21 30 [(.int .i64 za.1.fN),(.int .i64 za.1.fD)],stb z1P 30 [(.int .i64 z8.1.fN),(.int .i64 z8.1.fD)]] [] [stb z5m 30 [(.int .i64 z1J.1.fN),(.int .i64 z1J.1.fD)],fz (z3E ++ z4l),stb z2P 30 [(.int .i64 zR.1.fN),(.int .i64 zR.1.fD)],stb z2m 30 [(.int .i64 zF.1.fN),(.int .i64 zF.1.fD)],stb z2q 43 [(.int .i64 zi.1.fRate.fN),(.int .i64 zi.1.fRate.fD),(.int .i64 zi.1.fLatency.fN),(.int .i64 zi.1.fLatency.fD)],stb b11o1_52649 43 [(.int .i64 za.1.fN),(.int .i64 za.1.fD),(.int .i64 zy.fN),(.int .i64 zy.fD)],stb b10o1_52649 43 [(.int .i64 z8.1.fN),(.int .i64 z8.1.fD),(.int .i64 zx.fN),(.int .i64 zx.fD)],stb z21 30 [(.int .i64 za.1.fN),(.int .i64 za.1.fD)],stb z1P 30 [(.int .i64 z8.1.fN),(.int .i64 z8.1.fD)]]) .h1); exact w_rat_Add (Z:=_)  (z3I:=zR.1) (z3J:=z1J.1) (r:=z2a) w pz  zz8) ?_
       refine WL.a (d:=113) rfl rfl rfl (q_m rfl) ?_
       refine WL.a (d:=117) rfl rfl rfl (q_extract rfl rfl) ?_
       refine WL.a (d:=118) rfl rfl rfl (q_extract rfl rfl) ?_
       refine WL.new (dd:=28) rfl rfl rfl (e_alloc (cs:=[(.int .i64 0),(.int .i64 0)]) zeroT_30 rfl) ?_
       intro z5D _
       refine WL.eff0 rfl rfl (e_store (vs:=[(.int .i64 z2a.1.fN),(.int .i64 z2a.1.fD)]) (ds:=[(.int .i64 z2a.1.fN),(.int .i64 z2a.1.fD)]) sizT_30 rfl rfl rfl rfl (oc_cons rfl (oc_cons rfl oc_nil)) .here (Nat.le_of_ble_eq_true rfl) rfl) ?_
       refine WL.a (d:=29) rfl rfl rfl (q_z rfl) ?_
       refine WL.nil ?_
       refine WX.a ?_
       refine WC.b ?_
       refine WC.b ?_
       refine WC.a ?_
       refine WL.a (d:=119) rfl rfl rfl (q_m rfl) ?_
       refine WL.a (d:=120) rfl rfl rfl (q_neq rfl rfl) ?_
       refine WL.a (d:=121) rfl rfl rfl (q_m rfl) ?_
       refine WL.cut0 True [(20,(.pointer (some ⟨z2m,0,none⟩))),(25,(.int .i64 z4Y.2)),(27,(.int .i64 z1J.2)),(28,(.pointer (some ⟨z5D,0,none⟩))),(29,(.int .i64 z2a.2)),(124,(.bool ((decide (z4Y.2 ≠ 0)) || (decide (z1J.2 ≠ 0)))))] [stb z5D 30 [(.int .i64 z2a.1.fN),(.int .i64 z2a.1.fD)],stb z5m 30 [(.int .i64 z1J.1.fN),(.int .i64 z1J.1.fD)],fz (z3E ++ z4l),stb z2P 30 [(.int .i64 zR.1.fN),(.int .i64 zR.1.fD)],stb z2m 30 [(.int .i64 zF.1.fN),(.int .i64 zF.1.fD)],stb z2q 43 [(.int .i64 zi.1.fRate.fN),(.int .i64 zi.1.fRate.fD),(.int .i64 zi.1.fLatency.fN),(.int .i64 zi.1.fLatency.fD)],stb b11o1_52649 43 [(.int .i64 za.1.fN),(.int .i64 za.1.fD),(.int .i64 zy.fN),(.int .i64 zy.fD)],stb b10o1_52649 43 [(.int .i64 z8.1.fN),(.int .i64 z8.1.fD),(.int .i64 zx.fN),(.int .i64 zx.fD)],stb z21 30 [(.int .i64 za.1.fN),(.int .i64 za.1.fD)],stb z1P 30 [(.int .i64 z8.1.fN),(.int .i64 z8.1.fD)]] 3 ?_ (fun _=>?_)
       ·rcases Bool.eq_false_or_eq_true (decide (z4Y.2 ≠ 0)) with hb' | hb'
        ·have zr4:=hb'; clear hb'
         refine WL.pin (i:=121) rfl zr4 ?_
         refine WL.e rfl rfl rfl ?_
         refine WL.e rfl rfl rfl ?_
         refine WL.a (d:=124) rfl rfl rfl (q_pickT rfl rfl) ?_
         exact WL.cutEnd () trivial (.cons rfl (.cons rfl (.cons rfl (.cons rfl (.cons rfl (.cons (zr (or_l zr4)) .nil)))))) (.cons .here (.cons .here (.cons .here (.cons .here (.cons .here (.cons .here (.cons .here (.cons .here (.cons .here (.cons .here .nil))))))))))
        ·have zr5:=hb'; clear hb'
         refine WL.pin (i:=121) rfl zr5 ?_
         refine WL.a (d:=122) rfl rfl rfl (q_m rfl) ?_
         refine WL.a (d:=123) rfl rfl rfl (q_neq rfl rfl) ?_
         refine WL.a (d:=124) rfl rfl rfl (q_pickF rfl rfl) ?_
         exact WL.cutEnd () trivial (.cons rfl (.cons rfl (.cons rfl (.cons rfl (.cons rfl (.cons (zr (or_r zr5)) .nil)))))) (.cons .here (.cons .here (.cons .here (.cons .here (.cons .here (.cons .here (.cons .here (.cons .here (.cons .here (.cons .here .nil))))))))))
       ·skip
        refine WL.a (d:=125) rfl rfl rfl (q_m rfl) ?_
        refine WL.cut0 True [(20,(.pointer (some ⟨z2m,0,none⟩))),(25,(.int .i64 z4Y.2)),(27,(.int .i64 z1J.2)),(28,(.pointer (some ⟨z5D,0,none⟩))),(29,(.int .i64 z2a.2)),(128,(.bool (((decide (z4Y.2 ≠ 0)) || (decide (z1J.2 ≠ 0))) || (decide (z2a.2 ≠ 0)))))] [stb z5D 30 [(.int .i64 z2a.1.fN),(.int .i64 z2a.1.fD)],stb z5m 30 [(.int .i64 z1J.1.fN),(.int .i64 z1J.1.fD)],fz (z3E ++ z4l),stb z2P 30 [(.int .i64 zR.1.fN),(.int .i64 zR.1.fD)],stb z2m 30 [(.int .i64 zF.1.fN),(.int .i64 zF.1.fD)],stb z2q 43 [(.int .i64 zi.1.fRate.fN),(.int .i64 zi.1.fRate.fD),(.int .i64 zi.1.fLatency.fN),(.int .i64 zi.1.fLatency.fD)],stb b11o1_52649 43 [(.int .i64 za.1.fN),(.int .i64 za.1.fD),(.int .i64 zy.fN),(.int .i64 zy.fD)],stb b10o1_52649 43 [(.int .i64 z8.1.fN),(.int .i64 z8.1.fD),(.int .i64 zx.fN),(.int .i64 zx.fD)],stb z21 30 [(.int .i64 za.1.fN),(.int .i64 za.1.fD)],stb z1P 30 [(.int .i64 z8.1.fN),(.int .i64 z8.1.fD)]] 3 ?_ (fun _=>?_)
        ·rcases Bool.eq_false_or_eq_true ((decide (z4Y.2 ≠ 0)) || (decide (z1J.2 ≠ 0))) with hb' | hb'
         ·have zr6:=hb'; clear hb'
          refine WL.pin (i:=125) rfl zr6 ?_
          refine WL.e rfl rfl rfl ?_
          refine WL.e rfl rfl rfl ?_
          refine WL.a (d:=128) rfl rfl rfl (q_pickT rfl rfl) ?_
          exact WL.cutEnd () trivial (.cons rfl (.cons rfl (.cons rfl (.cons rfl (.cons rfl (.cons (zr (or_l zr6)) .nil)))))) (.cons .here (.cons .here (.cons .here (.cons .here (.cons .here (.cons .here (.cons .here (.cons .here (.cons .here (.cons .here .nil))))))))))
         ·have zr7:=hb'; clear hb'
          refine WL.pin (i:=125) rfl zr7 ?_
          refine WL.a (d:=126) rfl rfl rfl (q_m rfl) ?_
          refine WL.a (d:=127) rfl rfl rfl (q_neq rfl rfl) ?_
          refine WL.a (d:=128) rfl rfl rfl (q_pickF rfl rfl) ?_
          exact WL.cutEnd () trivial (.cons rfl (.cons rfl (.cons rfl (.cons rfl (.cons rfl (.cons (zr (or_r zr7)) .nil)))))) (.cons .here (.cons .here (.cons .here (.cons .here (.cons .here (.cons .here (.cons .here (.cons .here (.cons .here (.cons .here .nil))))))))))
        ·skip
         refine WL.nil ?_
         refine WX.a ?_
         refine WC.cond rfl (fun znf=>?_) (fun znf=>?_)
         ·replace h:=ite_t h znf
          refine WC.b ?_
          obtain ⟨zn2,zr8,h⟩:=zd h
          refine WC.a ?_
          refine WL.a (d:=129) rfl rfl rfl (q_m rfl) ?_
          refine WL.a (d:=130) rfl rfl rfl (q_eql rfl rfl) ?_
          refine WL.a (d:=131) rfl rfl rfl (q_m rfl) ?_
          refine WL.cut0 True [(29,(.int .i64 z2a.2)),(134,(.bool ((decide (z4Y.2 = 3)) || (decide (z1J.2 = 3)))))] [stb z5D 30 [(.int .i64 z2a.1.fN),(.int .i64 z2a.1.fD)],stb z5m 30 [(.int .i64 z1J.1.fN),(.int .i64 z1J.1.fD)],fz (z3E ++ z4l),stb z2P 30 [(.int .i64 zR.1.fN),(.int .i64 zR.1.fD)],stb z2m 30 [(.int .i64 zF.1.fN),(.int .i64 zF.1.fD)],stb z2q 43 [(.int .i64 zi.1.fRate.fN),(.int .i64 zi.1.fRate.fD),(.int .i64 zi.1.fLatency.fN),(.int .i64 zi.1.fLatency.fD)],stb b11o1_52649 43 [(.int .i64 za.1.fN),(.int .i64 za.1.fD),(.int .i64 zy.fN),(.int .i64 zy.fD)],stb b10o1_52649 43 [(.int .i64 z8.1.fN),(.int .i64 z8.1.fD),(.int .i64 zx.fN),(.int .i64 zx.fD)],stb z21 30 [(.int .i64 za.1.fN),(.int .i64 za.1.fD)],stb z1P 30 [(.int .i64 z8.1.fN),(.int .i64 z8.1.fD)]] 3 ?_ (fun _=>?_)
          ·rcases Bool.eq_false_or_eq_true (decide (z4Y.2 = 3)) with hb' | hb'
           ·have zr9:=hb'; clear hb'
            refine WL.pin (i:=131) rfl zr9 ?_
            refine WL.e rfl rfl rfl ?_
            refine WL.e rfl rfl rfl ?_
            refine WL.a (d:=134) rfl rfl rfl (q_pickT rfl rfl) ?_
            exact WL.cutEnd () trivial (.cons rfl (.cons (zr (or_l zr9)) .nil)) (.cons .here (.cons .here (.cons .here (.cons .here (.cons .here (.cons .here (.cons .here (.cons .here (.cons .here (.cons .here .nil))))))))))
           ·have zra:=hb'; clear hb'
            refine WL.pin (i:=131) rfl zra ?_
            refine WL.a (d:=132) rfl rfl rfl (q_m rfl) ?_
            refine WL.a (d:=133) rfl rfl rfl (q_eql rfl rfl) ?_
            refine WL.a (d:=134) rfl rfl rfl (q_pickF rfl rfl) ?_
            exact WL.cutEnd () trivial (.cons rfl (.cons (zr (or_r zra)) .nil)) (.cons .here (.cons .here (.cons .here (.cons .here (.cons .here (.cons .here (.cons .here (.cons .here (.cons .here (.cons .here .nil))))))))))
          ·skip
           refine WL.a (d:=135) rfl rfl rfl (q_m rfl) ?_
           refine WL.cut0 True [(138,(.bool (((decide (z4Y.2 = 3)) || (decide (z1J.2 = 3))) || (decide (z2a.2 = 3)))))] [stb z5D 30 [(.int .i64 z2a.1.fN),(.int .i64 z2a.1.fD)],stb z5m 30 [(.int .i64 z1J.1.fN),(.int .i64 z1J.1.fD)],fz (z3E ++ z4l),stb z2P 30 [(.int .i64 zR.1.fN),(.int .i64 zR.1.fD)],stb z2m 30 [(.int .i64 zF.1.fN),(.int .i64 zF.1.fD)],stb z2q 43 [(.int .i64 zi.1.fRate.fN),(.int .i64 zi.1.fRate.fD),(.int .i64 zi.1.fLatency.fN),(.int .i64 zi.1.fLatency.fD)],stb b11o1_52649 43 [(.int .i64 za.1.fN),(.int .i64 za.1.fD),(.int .i64 zy.fN),(.int .i64 zy.fD)],stb b10o1_52649 43 [(.int .i64 z8.1.fN),(.int .i64 z8.1.fD),(.int .i64 zx.fN),(.int .i64 zx.fD)],stb z21 30 [(.int .i64 za.1.fN),(.int .i64 za.1.fD)],stb z1P 30 [(.int .i64 z8.1.fN),(.int .i64 z8.1.fD)]] 3 ?_ (fun _=>?_)
           ·rcases Bool.eq_false_or_eq_true ((decide (z4Y.2 = 3)) || (decide (z1J.2 = 3))) with hb' | hb'
            ·have zrb:=hb'; clear hb'
             refine WL.pin (i:=135) rfl zrb ?_
             refine WL.e rfl rfl rfl ?_
             refine WL.e rfl rfl rfl ?_
             refine WL.a (d:=138) rfl rfl rfl (q_pickT rfl rfl) ?_
             exact WL.cutEnd () trivial (.cons (zr (or_l zrb)) .nil) (.cons .here (.cons .here (.cons .here (.cons .here (.cons .here (.cons .here (.cons .here (.cons .here (.cons .here (.cons .here .nil))))))))))
            ·have zrc:=hb'; clear hb'
             refine WL.pin (i:=135) rfl zrc ?_
             refine WL.a (d:=136) rfl rfl rfl (q_m rfl) ?_
             refine WL.a (d:=137) rfl rfl rfl (q_eql rfl rfl) ?_
             refine WL.a (d:=138) rfl rfl rfl (q_pickF rfl rfl) ?_
             exact WL.cutEnd () trivial (.cons (zr (or_r zrc)) .nil) (.cons .here (.cons .here (.cons .here (.cons .here (.cons .here (.cons .here (.cons .here (.cons .here (.cons .here (.cons .here .nil))))))))))
           ·skip
            refine WL.a (d:=139) rfl rfl rfl (q_m rfl) ?_
            refine WL.cut1 (fun (zey : Zp)=>Zle (Z ++ (z3E ++ z4l)) (Z ++ zey)) (fun (zey : Zp)=>[(141,(.bool zn2))]) (fun (zey : Zp)=>[stb z5D 30 [(.int .i64 z2a.1.fN),(.int .i64 z2a.1.fD)],stb z5m 30 [(.int .i64 z1J.1.fN),(.int .i64 z1J.1.fD)],fz zey,stb z2P 30 [(.int .i64 zR.1.fN),(.int .i64 zR.1.fD)],stb z2m 30 [(.int .i64 zF.1.fN),(.int .i64 zF.1.fD)],stb z2q 43 [(.int .i64 zi.1.fRate.fN),(.int .i64 zi.1.fRate.fD),(.int .i64 zi.1.fLatency.fN),(.int .i64 zi.1.fLatency.fD)],stb b11o1_52649 43 [(.int .i64 za.1.fN),(.int .i64 za.1.fD),(.int .i64 zy.fN),(.int .i64 zy.fD)],stb b10o1_52649 43 [(.int .i64 z8.1.fN),(.int .i64 z8.1.fD),(.int .i64 zx.fN),(.int .i64 zx.fD)],stb z21 30 [(.int .i64 za.1.fN),(.int .i64 za.1.fD)],stb z1P 30 [(.int .i64 z8.1.fN),(.int .i64 z8.1.fD)]]) 2 ?_ (fun zey zBQ=>?_)
            ·rcases Bool.eq_false_or_eq_true (((decide (z4Y.2 = 3)) || (decide (z1J.2 = 3))) || (decide (z2a.2 = 3))) with hb' | hb'
             ·have zrd:=hb'; clear hb'
              have zgf:=ite_t zr8 zrd
              obtain ⟨zn1,zz9,zgf⟩:=zd zgf
              replace zgf:=Option.some.inj zgf
              refine WL.pin (i:=139) rfl zrd ?_
              refine WL.enter1 (dd:=140) rfl rfl rfl (zk (l:=[]) Try.call17 .nil) (.nil : Sel [stb z5D 30 [(.int .i64 z2a.1.fN),(.int .i64 z2a.1.fD)],stb z5m 30 [(.int .i64 z1J.1.fN),(.int .i64 z1J.1.fD)],fz (z3E ++ z4l),stb z2P 30 [(.int .i64 zR.1.fN),(.int .i64 zR.1.fD)],stb z2m 30 [(.int .i64 zF.1.fN),(.int .i64 zF.1.fD)],stb z2q 43 [(.int .i64 zi.1.fRate.fN),(.int .i64 zi.1.fRate.fD),(.int .i64 zi.1.fLatency.fN),(.int .i64 zi.1.fLatency.fD)],stb b11o1_52649 43 [(.int .i64 za.1.fN),(.int .i64 za.1.fD),(.int .i64 zy.fN),(.int .i64 zy.fD)],stb b10o1_52649 43 [(.int .i64 z8.1.fN),(.int .i64 z8.1.fD),(.int .i64 zx.fN),(.int .i64 zx.fD)],stb z21 30 [(.int .i64 za.1.fN),(.int .i64 za.1.fD)],stb z1P 30 [(.int .i64 z8.1.fN),(.int .i64 z8.1.fD)]] [] [stb z5D 30 [(.int .i64 z2a.1.fN),(.int .i64 z2a.1.fD)],stb z5m 30 [(.int .i64 z1J.1.fN),(.int .i64 z1J.1.fD)],fz (z3E ++ z4l),stb z2P 30 [(.int .i64 zR.1.fN),(.int .i64 zR.1.fD)],stb z2m 30 [(.int .i64 zF.1.fN),(.int .i64 zF.1.fD)],stb z2q 43 [(.int .i64 zi.1.fRate.fN),(.int .i64 zi.1.fRate.fD),(.int .i64 zi.1.fLatency.fN),(.int .i64 zi.1.fLatency.fD)],stb b11o1_52649 43 [(.int .i64 za.1.fN),(.int .i64 za.1.fD),(.int .i64 zy.fN),(.int .i64 zy.fD)],stb b10o1_52649 43 [(.int .i64 z8.1.fN),(.int .i64 z8.1.fD),(.int .i64 zx.fN),(.int .i64 zx.fD)],stb z21 30 [(.int .i64 za.1.fN),(.int .i64 za.1.fD)],stb z1P 30 [(.int .i64 z8.1.fN),(.int .i64 z8.1.fD)]]) (fun w hw=>by have pz:=(hz.call2 hw (.nil : Sel [stb z5D 30 [(.int .i64 z2a.1.fN),(.int .i64 z2a.1.fD)],stb z5m 30 [(.int .i64 z1J.1.fN),(.int .i64 z1J.1.fD)],fz (z3E ++ z4l),stb z2P 30 [(.int .i64 zR.1.fN),(.int .i64 zR.1.fD)],stb z2m 30 [(.int .i64 zF.1.fN),(.int .i64 zF.1.fD)],stb z2q 43 [(.int .i64 zi.1.fRate.fN),(.int .i64 zi.1.fRate.fD),(.int .i64 zi.1.fLatency.fN),(.int .i64 zi.1.fLatency.fD)],stb b11o1_52649 43 [(.int .i64 za.1.fN),(.int .i64 za.1.fD),(.int .i64 zy.fN),(.int .i64 zy.fD)],stb b10o1_52649 43 [(.int .i64 z8.1.fN),(.int .i64 z8.1.fD),(.int .i64 zx.fN),(.int .i64 zx.fD)],stb z21 30 [(.int .i64 za.1.fN),(.int .i64 za.1.fD)],stb z1P 30 [(.int .i64 z8.1.fN),(.int .i64 z8.1.fD)]] [] [stb z5D 30 [(.int .i64 z2a.1.fN),(.int .i64 z2a.1.fD)],stb z5m 30 [(.int .i64 z1J.1.fN),(.int .i64 z1J.1.fD)],fz (z3E ++ z4l),stb z2P 30 [(.int .i64 zR.1.fN),(.int .i64 zR.1.fD)],stb z2m 30 [(.int .i64 zF.1.fN),(.int .i64 zF.1.fD)],stb z2q 43 [(.int .i64 zi.1.fRate.fN),(.int .i64 zi.1.fRate.fD),(.int .i64 zi.1.fLatency.fN),(.int .i64 zi.1.fLatency.fD)],stb b11o1_52649 43 [(.int .i64 za.1.fN),(.int .i64 za.1.fD),(.int .i64 zy.fN),(.int .i64 zy.fD)],stb b10o1_52649 43 [(.int .i64 z8.1.fN),(.int .i64 z8.1.fD),(.int .i64 zx.fN),(.int .i64 zx.fD)],stb z21 30 [(.int .i64 za.1.fN),(.int .i64 za.1.fD)],stb z1P 30 [(.int .i64 z8.1.fN),(.int .i64 z8.1.fD)]]) .h2); exact w_law03_awake (Z:=_)   (r:=zn1) w pz  zz9) ?_
              rintro zza _
              refine WL.merge .here .h2 ?_
              refine WL.a (d:=141) rfl rfl rfl (q_pickT rfl rfl) ?_
              exact WL.cutEnd (G:=Zp) ((z3E ++ z4l) ++ zza) ((Zle.left _ _).trans (Zle.assoc _ _ _)) (.cons (zr zgf) .nil) (.cons .h1 (.cons .h1 (.cons .here (.cons .here (.cons .here (.cons .here (.cons .here (.cons .here (.cons .here (.cons .here .nil))))))))))
             ·have zre:=hb'; clear hb'
              have zng:=ite_f zr8 zre
              replace zng:=Option.some.inj zng
              refine WL.pin (i:=139) rfl zre ?_
              refine WL.e rfl rfl rfl ?_
              refine WL.a (d:=141) rfl rfl rfl (q_pickF rfl rfl) ?_
              exact WL.cutEnd (G:=Zp) (z3E ++ z4l) (Zle.refl _) (.cons (zr zng) .nil) (.cons .here (.cons .here (.cons .here (.cons .here (.cons .here (.cons .here (.cons .here (.cons .here (.cons .here (.cons .here .nil))))))))))
            ·skip
             refine WL.a (d:=10) rfl rfl rfl (q_z rfl) ?_
             refine WL.nil ?_
             refine WX.a ?_
             refine WC.ret ?_
             refine WX.thenRet ?_
             obtain rfl:=Option.some.inj h
             refine WX.bpRet Try.results7 (.tmp rfl .nil) (fun w hw=>?_)
             exact ⟨zey,ret1 rfl,trivial,hw.sub (.cons .h2 .nil)⟩
         ·replace h:=ite_f h znf
          refine WC.skip ?_
          refine WX.a ?_
          refine WC.b ?_
          obtain ⟨zie,zzb,h⟩:=zd h
          obtain ⟨zn4,zrf,h⟩:=zd h
          refine WC.a ?_
          refine WL.a (d:=142) rfl rfl rfl (q_loadA (cs:=[(.int .i64 zF.1.fN),(.int .i64 zF.1.fD)]) aggT_30 rfl rfl (rd_all .h4)) ?_
          refine WL.a (d:=143) rfl rfl rfl (q_loadA (cs:=[(.int .i64 z2a.1.fN),(.int .i64 z2a.1.fD)]) aggT_30 rfl rfl (rd_all .here)) ?_
          refine WL.b (dd:=144) rfl rfl rfl (zk (l:=[.tmp 142,.tmp 143]) Try.call18 (.cons rfl (.cons rfl .nil))) (.nil : Sel [stb z5D 30 [(.int .i64 z2a.1.fN),(.int .i64 z2a.1.fD)],stb z5m 30 [(.int .i64 z1J.1.fN),(.int .i64 z1J.1.fD)],fz (z3E ++ z4l),stb z2P 30 [(.int .i64 zR.1.fN),(.int .i64 zR.1.fD)],stb z2m 30 [(.int .i64 zF.1.fN),(.int .i64 zF.1.fD)],stb z2q 43 [(.int .i64 zi.1.fRate.fN),(.int .i64 zi.1.fRate.fD),(.int .i64 zi.1.fLatency.fN),(.int .i64 zi.1.fLatency.fD)],stb b11o1_52649 43 [(.int .i64 za.1.fN),(.int .i64 za.1.fD),(.int .i64 zy.fN),(.int .i64 zy.fD)],stb b10o1_52649 43 [(.int .i64 z8.1.fN),(.int .i64 z8.1.fD),(.int .i64 zx.fN),(.int .i64 zx.fD)],stb z21 30 [(.int .i64 za.1.fN),(.int .i64 za.1.fD)],stb z1P 30 [(.int .i64 z8.1.fN),(.int .i64 z8.1.fD)]] [] [stb z5D 30 [(.int .i64 z2a.1.fN),(.int .i64 z2a.1.fD)],stb z5m 30 [(.int .i64 z1J.1.fN),(.int .i64 z1J.1.fD)],fz (z3E ++ z4l),stb z2P 30 [(.int .i64 zR.1.fN),(.int .i64 zR.1.fD)],stb z2m 30 [(.int .i64 zF.1.fN),(.int .i64 zF.1.fD)],stb z2q 43 [(.int .i64 zi.1.fRate.fN),(.int .i64 zi.1.fRate.fD),(.int .i64 zi.1.fLatency.fN),(.int .i64 zi.1.fLatency.fD)],stb b11o1_52649 43 [(.int .i64 za.1.fN),(.int .i64 za.1.fD),(.int .i64 zy.fN),(.int .i64 zy.fD)],stb b10o1_52649 43 [(.int .i64 z8.1.fN),(.int .i64 z8.1.fD),(.int .i64 zx.fN),(.int .i64 zx.fD)],stb z21 30 [(.int .i64 za.1.fN),(.int .i64 za.1.fD)],stb z1P 30 [(.int .i64 z8.1.fN),(.int .i64 z8.1.fD)]]) (fun w hw=>by have pz:=(hz.call2 hw (.nil : Sel [stb z5D 30 [(.int .i64 z2a.1.fN),(.int .i64 z2a.1.fD)],stb z5m 30 [(.int .i64 z1J.1.fN),(.int .i64 z1J.1.fD)],fz (z3E ++ z4l),stb z2P 30 [(.int .i64 zR.1.fN),(.int .i64 zR.1.fD)],stb z2m 30 [(.int .i64 zF.1.fN),(.int .i64 zF.1.fD)],stb z2q 43 [(.int .i64 zi.1.fRate.fN),(.int .i64 zi.1.fRate.fD),(.int .i64 zi.1.fLatency.fN),(.int .i64 zi.1.fLatency.fD)],stb b11o1_52649 43 [(.int .i64 za.1.fN),(.int .i64 za.1.fD),(.int .i64 zy.fN),(.int .i64 zy.fD)],stb b10o1_52649 43 [(.int .i64 z8.1.fN),(.int .i64 z8.1.fD),(.int .i64 zx.fN),(.int .i64 zx.fD)],stb z21 30 [(.int .i64 za.1.fN),(.int .i64 za.1.fD)],stb z1P 30 [(.int .i64 z8.1.fN),(.int .i64 z8.1.fD)]] [] [stb z5D 30 [(.int .i64 z2a.1.fN),(.int .i64 z2a.1.fD)],stb z5m 30 [(.int .i64 z1J.1.fN),(.int .i64 z1J.1.fD)],fz (z3E ++ z4l),stb z2P 30 [(.int .i64 zR.1.fN),(.int .i64 zR.1.fD)],stb z2m 30 [(.int .i64 zF.1.fN),(.int .i64 zF.1.fD)],stb z2q 43 [(.int .i64 zi.1.fRate.fN),(.int .i64 zi.1.fRate.fD),(.int .i64 zi.1.fLatency.fN),(.int .i64 zi.1.fLatency.fD)],stb b11o1_52649 43 [(.int .i64 za.1.fN),(.int .i64 za.1.fD),(.int .i64 zy.fN),(.int .i64 zy.fD)],stb b10o1_52649 43 [(.int .i64 z8.1.fN),(.int .i64 z8.1.fD),(.int .i64 zx.fN),(.int .i64 zx.fD)],stb z21 30 [(.int .i64 za.1.fN),(.int .i64 za.1.fD)],stb z1P 30 [(.int .i64 z8.1.fN),(.int .i64 z8.1.fD)]]) .h2); exact w_rat_Cmp (Z:=_)  (z2d:=zF.1) (z2e:=z2a.1) (r:=zie) w pz  zzb) ?_
          refine WL.a (d:=145) rfl rfl rfl (q_leq rfl rfl) ?_
          refine WL.a (d:=146) rfl rfl rfl (q_m rfl) ?_
          refine WL.cut1 (fun (zez : Zp)=>Zle (Z ++ (z3E ++ z4l)) (Z ++ zez)) (fun (zez : Zp)=>[(148,(.bool zn4))]) (fun (zez : Zp)=>[stb z5D 30 [(.int .i64 z2a.1.fN),(.int .i64 z2a.1.fD)],stb z5m 30 [(.int .i64 z1J.1.fN),(.int .i64 z1J.1.fD)],fz zez,stb z2P 30 [(.int .i64 zR.1.fN),(.int .i64 zR.1.fD)],stb z2m 30 [(.int .i64 zF.1.fN),(.int .i64 zF.1.fD)],stb z2q 43 [(.int .i64 zi.1.fRate.fN),(.int .i64 zi.1.fRate.fD),(.int .i64 zi.1.fLatency.fN),(.int .i64 zi.1.fLatency.fD)],stb b11o1_52649 43 [(.int .i64 za.1.fN),(.int .i64 za.1.fD),(.int .i64 zy.fN),(.int .i64 zy.fD)],stb b10o1_52649 43 [(.int .i64 z8.1.fN),(.int .i64 z8.1.fD),(.int .i64 zx.fN),(.int .i64 zx.fD)],stb z21 30 [(.int .i64 za.1.fN),(.int .i64 za.1.fD)],stb z1P 30 [(.int .i64 z8.1.fN),(.int .i64 z8.1.fD)]]) 2 ?_ (fun zez zBR=>?_)
          ·rcases Bool.eq_false_or_eq_true (decide (zie ≤ 0)) with hb' | hb'
           ·have zrg:=hb'; clear hb'
            have zgg:=ite_t zrf zrg
            obtain ⟨zn3,zzc,zgg⟩:=zd zgg
            replace zgg:=Option.some.inj zgg
            refine WL.pin (i:=146) rfl zrg ?_
            refine WL.enter1 (dd:=147) rfl rfl rfl (zk (l:=[]) Try.call17 .nil) (.nil : Sel [stb z5D 30 [(.int .i64 z2a.1.fN),(.int .i64 z2a.1.fD)],stb z5m 30 [(.int .i64 z1J.1.fN),(.int .i64 z1J.1.fD)],fz (z3E ++ z4l),stb z2P 30 [(.int .i64 zR.1.fN),(.int .i64 zR.1.fD)],stb z2m 30 [(.int .i64 zF.1.fN),(.int .i64 zF.1.fD)],stb z2q 43 [(.int .i64 zi.1.fRate.fN),(.int .i64 zi.1.fRate.fD),(.int .i64 zi.1.fLatency.fN),(.int .i64 zi.1.fLatency.fD)],stb b11o1_52649 43 [(.int .i64 za.1.fN),(.int .i64 za.1.fD),(.int .i64 zy.fN),(.int .i64 zy.fD)],stb b10o1_52649 43 [(.int .i64 z8.1.fN),(.int .i64 z8.1.fD),(.int .i64 zx.fN),(.int .i64 zx.fD)],stb z21 30 [(.int .i64 za.1.fN),(.int .i64 za.1.fD)],stb z1P 30 [(.int .i64 z8.1.fN),(.int .i64 z8.1.fD)]] [] [stb z5D 30 [(.int .i64 z2a.1.fN),(.int .i64 z2a.1.fD)],stb z5m 30 [(.int .i64 z1J.1.fN),(.int .i64 z1J.1.fD)],fz (z3E ++ z4l),stb z2P 30 [(.int .i64 zR.1.fN),(.int .i64 zR.1.fD)],stb z2m 30 [(.int .i64 zF.1.fN),(.int .i64 zF.1.fD)],stb z2q 43 [(.int .i64 zi.1.fRate.fN),(.int .i64 zi.1.fRate.fD),(.int .i64 zi.1.fLatency.fN),(.int .i64 zi.1.fLatency.fD)],stb b11o1_52649 43 [(.int .i64 za.1.fN),(.int .i64 za.1.fD),(.int .i64 zy.fN),(.int .i64 zy.fD)],stb b10o1_52649 43 [(.int .i64 z8.1.fN),(.int .i64 z8.1.fD),(.int .i64 zx.fN),(.int .i64 zx.fD)],stb z21 30 [(.int .i64 za.1.fN),(.int .i64 za.1.fD)],stb z1P 30 [(.int .i64 z8.1.fN),(.int .i64 z8.1.fD)]]) (fun w hw=>by have pz:=(hz.call2 hw (.nil : Sel [stb z5D 30 [(.int .i64 z2a.1.fN),(.int .i64 z2a.1.fD)],stb z5m 30 [(.int .i64 z1J.1.fN),(.int .i64 z1J.1.fD)],fz (z3E ++ z4l),stb z2P 30 [(.int .i64 zR.1.fN),(.int .i64 zR.1.fD)],stb z2m 30 [(.int .i64 zF.1.fN),(.int .i64 zF.1.fD)],stb z2q 43 [(.int .i64 zi.1.fRate.fN),(.int .i64 zi.1.fRate.fD),(.int .i64 zi.1.fLatency.fN),(.int .i64 zi.1.fLatency.fD)],stb b11o1_52649 43 [(.int .i64 za.1.fN),(.int .i64 za.1.fD),(.int .i64 zy.fN),(.int .i64 zy.fD)],stb b10o1_52649 43 [(.int .i64 z8.1.fN),(.int .i64 z8.1.fD),(.int .i64 zx.fN),(.int .i64 zx.fD)],stb z21 30 [(.int .i64 za.1.fN),(.int .i64 za.1.fD)],stb z1P 30 [(.int .i64 z8.1.fN),(.int .i64 z8.1.fD)]] [] [stb z5D 30 [(.int .i64 z2a.1.fN),(.int .i64 z2a.1.fD)],stb z5m 30 [(.int .i64 z1J.1.fN),(.int .i64 z1J.1.fD)],fz (z3E ++ z4l),stb z2P 30 [(.int .i64 zR.1.fN),(.int .i64 zR.1.fD)],stb z2m 30 [(.int .i64 zF.1.fN),(.int .i64 zF.1.fD)],stb z2q 43 [(.int .i64 zi.1.fRate.fN),(.int .i64 zi.1.fRate.fD),(.int .i64 zi.1.fLatency.fN),(.int .i64 zi.1.fLatency.fD)],stb b11o1_52649 43 [(.int .i64 za.1.fN),(.int .i64 za.1.fD),(.int .i64 zy.fN),(.int .i64 zy.fD)],stb b10o1_52649 43 [(.int .i64 z8.1.fN),(.int .i64 z8.1.fD),(.int .i64 zx.fN),(.int .i64 zx.fD)],stb z21 30 [(.int .i64 za.1.fN),(.int .i64 za.1.fD)],stb z1P 30 [(.int .i64 z8.1.fN),(.int .i64 z8.1.fD)]]) .h2); exact w_law03_awake (Z:=_)   (r:=zn3) w pz  zzc) ?_
            rintro zzd _
            refine WL.merge .here .h2 ?_
            refine WL.a (d:=148) rfl rfl rfl (q_pickT rfl rfl) ?_
            exact WL.cutEnd (G:=Zp) ((z3E ++ z4l) ++ zzd) ((Zle.left _ _).trans (Zle.assoc _ _ _)) (.cons (zr zgg) .nil) (.cons .h1 (.cons .h1 (.cons .here (.cons .here (.cons .here (.cons .here (.cons .here (.cons .here (.cons .here (.cons .here .nil))))))))))
           ·have zrh:=hb'; clear hb'
            have znh:=ite_f zrf zrh
            replace znh:=Option.some.inj znh
            refine WL.pin (i:=146) rfl zrh ?_
            refine WL.e rfl rfl rfl ?_
            refine WL.a (d:=148) rfl rfl rfl (q_pickF rfl rfl) ?_
            exact WL.cutEnd (G:=Zp) (z3E ++ z4l) (Zle.refl _) (.cons (zr znh) .nil) (.cons .here (.cons .here (.cons .here (.cons .here (.cons .here (.cons .here (.cons .here (.cons .here (.cons .here (.cons .here .nil))))))))))
          ·skip
           refine WL.a (d:=10) rfl rfl rfl (q_z rfl) ?_
           refine WL.nil ?_
           refine WX.a ?_
           refine WC.ret ?_
           obtain rfl:=Option.some.inj h
           refine WX.bpRet Try.results7 (.tmp rfl .nil) (fun w hw=>?_)
           exact ⟨zez,ret1 rfl,trivial,hw.sub (.cons .h2 .nil)⟩
 refine WD.mids2 (fuel':=1) (fun (b10o1_52649 : Nat) (b11o1_52649 : Nat)=>[(11,(.slice z3d ((z1l.take (1 : Int).toNat).length) z3e)),(13,(.int .i64 z8.2)),(15,(.int .i64 za.2)),(58,(.agg #[(.int .i64 za.1.fN),(.int .i64 za.1.fD),(.int .i64 zy.fN),(.int .i64 zy.fD)])),(16,(.pointer (some ⟨b10o1_52649,0,none⟩))),(17,(.pointer (some ⟨b11o1_52649,0,none⟩)))]) (fun (b10o1_52649 : Nat) (b11o1_52649 : Nat)=>[stb b10o1_52649 43 [(.int .i64 z8.1.fN),(.int .i64 z8.1.fD),(.int .i64 zx.fN),(.int .i64 zx.fD)],stb b11o1_52649 43 [(.int .i64 0),(.int .i64 0),(.int .i64 0),(.int .i64 0)],stb z21 30 [(.int .i64 za.1.fN),(.int .i64 za.1.fD)],stb z1P 30 [(.int .i64 z8.1.fN),(.int .i64 z8.1.fD)],row (.slice z3d ((z1l.take (1 : Int).toNat).length) z3e) 35 4 ((z1l.take (1 : Int).toNat).flatMap e35),fz []]) (fun (b10o1_52649 : Nat) (b11o1_52649 : Nat)=>True) (listedA 14 [12,11,10,9,8,7,6,5,4,3,2,1,0]) ?_ (fun K10o11o12_52649=>?_)
 ·skip
  rintro b10o1_52649 b11o1_52649 _
  refine WD.last0 (i:=13) rfl (by kernel_rfl) rfl rfl rfl (by kernel_rfl) (e_store (vs:=[(.int .i64 za.1.fN),(.int .i64 za.1.fD),(.int .i64 zy.fN),(.int .i64 zy.fD)]) (ds:=[(.int .i64 za.1.fN),(.int .i64 za.1.fD),(.int .i64 zy.fN),(.int .i64 zy.fD)]) sizT_43 rfl rfl rfl rfl (oc_cons rfl (oc_cons rfl (oc_cons rfl (oc_cons rfl oc_nil)))) .h1 (Nat.le_of_ble_eq_true rfl) rfl) ?_
  exact WD.reL (.cons .here (.cons .here (.cons .here (.cons .here (.cons .here (.cons .here .nil)))))) (.cons rfl (.cons rfl (.cons rfl (.cons rfl (.cons rfl .nil))))) (K10o11o12o13_52649 b10o1_52649 b11o1_52649 trivial)
 refine WD.mids2 (fuel':=2) (fun (b10o1_52649 : Nat) (b11o1_52649 : Nat)=>[(11,(.slice z3d ((z1l.take (1 : Int).toNat).length) z3e)),(13,(.int .i64 z8.2)),(15,(.int .i64 za.2)),(53,(.agg #[(.int .i64 z8.1.fN),(.int .i64 z8.1.fD),(.int .i64 zx.fN),(.int .i64 zx.fD)])),(58,(.agg #[(.int .i64 za.1.fN),(.int .i64 za.1.fD),(.int .i64 zy.fN),(.int .i64 zy.fD)])),(16,(.pointer (some ⟨b10o1_52649,0,none⟩))),(17,(.pointer (some ⟨b11o1_52649,0,none⟩)))]) (fun (b10o1_52649 : Nat) (b11o1_52649 : Nat)=>[stb b11o1_52649 43 [(.int .i64 0),(.int .i64 0),(.int .i64 0),(.int .i64 0)],stb b10o1_52649 43 [(.int .i64 0),(.int .i64 0),(.int .i64 0),(.int .i64 0)],stb z21 30 [(.int .i64 za.1.fN),(.int .i64 za.1.fD)],stb z1P 30 [(.int .i64 z8.1.fN),(.int .i64 z8.1.fD)],row (.slice z3d ((z1l.take (1 : Int).toNat).length) z3e) 35 4 ((z1l.take (1 : Int).toNat).flatMap e35),fz []]) (fun (b10o1_52649 : Nat) (b11o1_52649 : Nat)=>True) (listedA 14 [11,10,9,8,7,6,5,4,3,2,1,0]) ?_ (fun K10o11_52649=>?_)
 ·skip
  rintro b10o1_52649 b11o1_52649 _
  refine WD.forced0 (i:=12) rfl (by kernel_rfl) rfl rfl rfl (Sin.of (.cons .h2 .nil)) (e_store (vs:=[(.int .i64 z8.1.fN),(.int .i64 z8.1.fD),(.int .i64 zx.fN),(.int .i64 zx.fD)]) (ds:=[(.int .i64 z8.1.fN),(.int .i64 z8.1.fD),(.int .i64 zx.fN),(.int .i64 zx.fD)]) sizT_43 rfl rfl rfl rfl (oc_cons rfl (oc_cons rfl (oc_cons rfl (oc_cons rfl oc_nil)))) .h1 (Nat.le_of_ble_eq_true rfl) rfl) ?_
  exact WD.reL (.cons .here (.cons .here (.cons .here (.cons .here (.cons .here (.cons .here .nil)))))) (.cons rfl (.cons rfl (.cons rfl (.cons rfl (.cons rfl (.cons rfl .nil)))))) (K10o11o12_52649 b10o1_52649 b11o1_52649 trivial)
 refine WD.mids1 (fuel':=3) (fun (b10o1_52649 : Nat)=>[(11,(.slice z3d ((z1l.take (1 : Int).toNat).length) z3e)),(13,(.int .i64 z8.2)),(15,(.int .i64 za.2)),(53,(.agg #[(.int .i64 z8.1.fN),(.int .i64 z8.1.fD),(.int .i64 zx.fN),(.int .i64 zx.fD)])),(58,(.agg #[(.int .i64 za.1.fN),(.int .i64 za.1.fD),(.int .i64 zy.fN),(.int .i64 zy.fD)])),(16,(.pointer (some ⟨b10o1_52649,0,none⟩)))]) (fun (b10o1_52649 : Nat)=>[stb b10o1_52649 43 [(.int .i64 0),(.int .i64 0),(.int .i64 0),(.int .i64 0)],stb z21 30 [(.int .i64 za.1.fN),(.int .i64 za.1.fD)],stb z1P 30 [(.int .i64 z8.1.fN),(.int .i64 z8.1.fD)],row (.slice z3d ((z1l.take (1 : Int).toNat).length) z3e) 35 4 ((z1l.take (1 : Int).toNat).flatMap e35),fz []]) (fun (b10o1_52649 : Nat)=>True) (listedA 14 [10,9,8,7,6,5,4,3,2,1,0]) ?_ (fun K10_52649=>?_)
 ·skip
  rintro b10o1_52649 _
  refine WD.new (i:=11) (dd:=17) rfl (by kernel_rfl) rfl rfl rfl (e_alloc (cs:=[(.int .i64 0),(.int .i64 0),(.int .i64 0),(.int .i64 0)]) zeroT_43 rfl) (fun h'=>absurd h' (by decide)) ?_
  intro b11o1_52649 _
  exact WD.reL (.cons .here (.cons .here (.cons .here (.cons .here (.cons .here (.cons .here .nil)))))) (.cons rfl (.cons rfl (.cons rfl (.cons rfl (.cons rfl (.cons rfl (.cons rfl .nil))))))) (K10o11_52649 b10o1_52649 b11o1_52649 trivial)
 refine WD.mids1 (fuel':=3) (fun (b11o1_52649 : Nat)=>[(11,(.slice z3d ((z1l.take (1 : Int).toNat).length) z3e)),(13,(.int .i64 z8.2)),(15,(.int .i64 za.2)),(53,(.agg #[(.int .i64 z8.1.fN),(.int .i64 z8.1.fD),(.int .i64 zx.fN),(.int .i64 zx.fD)])),(58,(.agg #[(.int .i64 za.1.fN),(.int .i64 za.1.fD),(.int .i64 zy.fN),(.int .i64 zy.fD)])),(17,(.pointer (some ⟨b11o1_52649,0,none⟩)))]) (fun (b11o1_52649 : Nat)=>[stb b11o1_52649 43 [(.int .i64 0),(.int .i64 0),(.int .i64 0),(.int .i64 0)],stb z21 30 [(.int .i64 za.1.fN),(.int .i64 za.1.fD)],stb z1P 30 [(.int .i64 z8.1.fN),(.int .i64 z8.1.fD)],row (.slice z3d ((z1l.take (1 : Int).toNat).length) z3e) 35 4 ((z1l.take (1 : Int).toNat).flatMap e35),fz []]) (fun (b11o1_52649 : Nat)=>True) (listedA 14 [11,9,8,7,6,5,4,3,2,1,0]) ?_ (fun K11_52649=>?_)
 ·skip
  rintro b11o1_52649 _
  refine WD.new (i:=10) (dd:=16) rfl (by kernel_rfl) rfl rfl rfl (e_alloc (cs:=[(.int .i64 0),(.int .i64 0),(.int .i64 0),(.int .i64 0)]) zeroT_43 rfl) (fun h'=>absurd h' (by decide)) ?_
  intro b10o1_52649 _
  exact WD.reL (.cons .h1 (.cons .here (.cons .here (.cons .here (.cons .here (.cons .here .nil)))))) (.cons rfl (.cons rfl (.cons rfl (.cons rfl (.cons rfl (.cons rfl (.cons rfl .nil))))))) (K10o11_52649 b10o1_52649 b11o1_52649 trivial)
 refine WD.choose [10,11] (by kernel_rfl) rfl ?_
 refine WDo.cons ?_ (WDo.cons ?_ (WDo.nil))
 ·refine WDo.new (i:=10) (dd:=16) rfl rfl rfl rfl (e_alloc (cs:=[(.int .i64 0),(.int .i64 0),(.int .i64 0),(.int .i64 0)]) zeroT_43 rfl) (fun h'=>absurd h' (by decide)) ?_
  intro b10o1_52649 _
  exact WD.reL (.cons .here (.cons .here (.cons .here (.cons .here (.cons .here .nil))))) (.cons rfl (.cons rfl (.cons rfl (.cons rfl (.cons rfl (.cons rfl .nil)))))) (K10_52649 b10o1_52649 trivial)
 ·refine WDo.new (i:=11) (dd:=17) rfl rfl rfl rfl (e_alloc (cs:=[(.int .i64 0),(.int .i64 0),(.int .i64 0),(.int .i64 0)]) zeroT_43 rfl) (fun h'=>absurd h' (by decide)) ?_
  intro b11o1_52649 _
  exact WD.reL (.cons .here (.cons .here (.cons .here (.cons .here (.cons .here .nil))))) (.cons rfl (.cons rfl (.cons rfl (.cons rfl (.cons rfl (.cons rfl .nil)))))) (K11_52649 b11o1_52649 trivial)
end Go.Proofs.Ytakfmdiiehcbdaa
