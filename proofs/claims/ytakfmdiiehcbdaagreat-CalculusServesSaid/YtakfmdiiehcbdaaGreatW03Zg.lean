/- A part of this claim's proof: models of functions, walks, plain laws. No conditions. -/
import Derived.Test.YtakfmdiiehcbdaaGreatW03Zf
namespace Go.Proofs.YtakfmdiiehcbdaaGreat
open Go Go.RowKit Sep
set_option linter.all false
set_option maxRecDepth 30000
set_option maxHeartbeats 4000000
def m_ref01_Make (z4N : Int) (z54 : Int) : Option (z2 × Int) :=
 if decide (z54 = 0) then some ((⟨0,0⟩ : z2),2) else (m_ref01_size z4N).bind fun ziY=>(m_ref01_size z54).bind fun ziZ=>(m_ref01_gcd ziY ziZ).bind fun z3l=>(m_ref01_size z4N).bind fun z6O=>chk ((z3l : Int) ≠ 0) ((m_ref01_size z54).bind fun z79=>if (decide ((u64 (Int.tdiv z6O z3l)) > 1073741824)) || (decide ((u64 (Int.tdiv z79 z3l)) > 1073741824)) then some ((⟨0,0⟩ : z2),3) else if ((decide (z4N < 0)) && (decide (z54 > 0))) || ((decide (z4N > 0)) && (decide (z54 < 0))) then some ((⟨i64 (0 - (i64 (u64 (Int.tdiv z6O z3l)))),i64 (u64 (Int.tdiv z79 z3l))⟩ : z2),0) else some ((⟨i64 (u64 (Int.tdiv z6O z3l)),i64 (u64 (Int.tdiv z79 z3l))⟩ : z2),0))
set_option maxRecDepth 20000 in
theorem w_ref01_Make (Z : Zp)   (z4N : Int) (z54 : Int) (r : z2 × Int) (w₀ : World) (hz : PZ [] w₀ Z)
  (h : m_ref01_Make z4N z54 = some r) :
  Calls Tryz.prog 61 #[(.int .i64 z4N),(.int .i64 z54)] w₀ fun e w'=>e = .returned (.tuple #[(.agg #[(.int .i64 r.1.fN),(.int .i64 r.1.fD)]),(.int .i64 r.2)]) ∧ Hp [] w₀ w' []:=by
 unfold m_ref01_Make at h
 refine Calls.ofWC (vs:=[(.int .i64 z4N),(.int .i64 z54)]) (pre:=[]) (env:=[(0,(.int .i64 z4N)),(1,(.int .i64 z54))]) Tryz.func61 rfl Tryz.ntmps61 rfl (Hp.nil w₀ _) rfl ?_
 refine WC.b ?_
 refine WC.a ?_
 refine WL.new (dd:=4) rfl rfl rfl (e_alloc (cs:=[(.int .i64 0),(.int .i64 0)]) zeroT_40 rfl) ?_
 intro z4O _
 refine WL.a (d:=5) rfl rfl rfl (q_z rfl) ?_
 refine WL.nil ?_
 refine WX.a ?_
 refine WC.b ?_
 refine WC.b ?_
 refine WC.a ?_
 refine WL.a (d:=9) rfl rfl rfl (q_m rfl) ?_
 refine WL.a (d:=10) rfl rfl rfl (q_eql rfl rfl) ?_
 refine WL.nil ?_
 refine WX.a ?_
 refine WC.cond rfl (fun zo8=>?_) (fun zo8=>?_)
 ·replace h:=ite_t h zo8
  refine WC.b ?_
  refine WC.a ?_
  refine WL.a (d:=11) rfl rfl rfl (q_build (v:=(.agg #[(.int .i64 0),(.int .i64 0)])) (Eos.parts (l:=[]) .nil []) (fun _=>by kernel_rfl)) ?_
  refine WL.eff0 rfl rfl (e_store (vs:=[(.int .i64 0),(.int .i64 0)]) (ds:=[(.int .i64 0),(.int .i64 0)]) sizT_40 rfl rfl rfl rfl (oc_cons rfl (oc_cons rfl oc_nil)) .here (Nat.le_of_ble_eq_true rfl) rfl) ?_
  refine WL.a (d:=5) rfl rfl rfl (q_z rfl) ?_
  refine WL.nil ?_
  refine WX.a ?_
  refine WC.ret ?_
  refine WX.thenRet ?_
  obtain rfl:=Option.some.inj h
  refine WX.bpRet Tryz.results61 (.agg rfl aggT_40 rfl (rd_all .here) (.tmp rfl .nil)) (fun w hw=>?_)
  exact ⟨ret2 rfl rfl,hw.sub .nil⟩
 ·replace h:=ite_f h zo8
  refine WC.skip ?_
  refine WX.a ?_
  refine WC.b ?_
  obtain ⟨ziY,zB2,h⟩:=z8 h
  obtain ⟨ziZ,zB3,h⟩:=z8 h
  obtain ⟨z3l,zB4,h⟩:=z8 h
  refine WC.a ?_
  refine WL.a (d:=12) rfl rfl rfl (q_m rfl) ?_
  refine WL.b (dd:=13) rfl rfl rfl (zi (l:=[.tmp 12]) Tryz.call65 (.cons rfl .nil)) (.nil : Sel [stb z4O 40 [(.int .i64 0),(.int .i64 0)]] [] [stb z4O 40 [(.int .i64 0),(.int .i64 0)]]) (fun w hw=>by have pz:=(hz.call hw (.nil : Sel [stb z4O 40 [(.int .i64 0),(.int .i64 0)]] [] [stb z4O 40 [(.int .i64 0),(.int .i64 0)]])); exact w_ref01_size (Z:=_)  (z84:=z4N) (r:=ziY) w pz  zB2) ?_
  refine WL.a (d:=14) rfl rfl rfl (q_m rfl) ?_
  refine WL.b (dd:=15) rfl rfl rfl (zi (l:=[.tmp 14]) Tryz.call65 (.cons rfl .nil)) (.nil : Sel [stb z4O 40 [(.int .i64 0),(.int .i64 0)]] [] [stb z4O 40 [(.int .i64 0),(.int .i64 0)]]) (fun w hw=>by have pz:=(hz.call hw (.nil : Sel [stb z4O 40 [(.int .i64 0),(.int .i64 0)]] [] [stb z4O 40 [(.int .i64 0),(.int .i64 0)]])); exact w_ref01_size (Z:=_)  (z84:=z54) (r:=ziZ) w pz  zB3) ?_
  refine WL.b (dd:=16) rfl rfl rfl (zi (l:=[.tmp 13,.tmp 15]) Tryz.call64 (.cons rfl (.cons rfl .nil))) (.nil : Sel [stb z4O 40 [(.int .i64 0),(.int .i64 0)]] [] [stb z4O 40 [(.int .i64 0),(.int .i64 0)]]) (fun w hw=>by have pz:=(hz.call hw (.nil : Sel [stb z4O 40 [(.int .i64 0),(.int .i64 0)]] [] [stb z4O 40 [(.int .i64 0),(.int .i64 0)]])); exact w_ref01_gcd (Z:=_)  (z63:=ziY) (z5o:=ziZ) (r:=z3l) w pz  zB4) ?_
  refine WL.a (d:=6) rfl rfl rfl (q_z rfl) ?_
  refine WL.nil ?_
  refine WX.a ?_
  refine WC.b ?_
  obtain ⟨z6O,zB5,h⟩:=z8 h
  obtain ⟨zsB,h⟩:=chk_elim h
  obtain ⟨z79,zB6,h⟩:=z8 h
  refine WC.draw (fun i=>[].contains i) [] rfl ?_
  refine WD.a (i:=0) (d:=17) (by kernel_rfl) rfl (z6 (by kernel_rfl)) (z7 (by kernel_rfl)) rfl rfl rfl (fun _=>q_m rfl) ?_
  refine WD.c (i:=1) (d:=18) (by kernel_rfl) rfl (z6 (by kernel_rfl)) (z7 (by kernel_rfl)) rfl rfl rfl (zi (l:=[.tmp 17]) Tryz.call65 (.cons rfl .nil)) (fun w hw=>by have pz:=(hz.call hw (.nil : Sel [stb z4O 40 [(.int .i64 0),(.int .i64 0)]] [] [stb z4O 40 [(.int .i64 0),(.int .i64 0)]])); exact w_ref01_size (Z:=_)  (z84:=z4N) (r:=z6O) w pz  zB5) ?_
  refine WD.a (i:=2) (d:=19) (by kernel_rfl) rfl (z6 (by kernel_rfl)) (z7 (by kernel_rfl)) rfl rfl rfl (fun _=>q_m rfl) ?_
  refine WD.a (i:=3) (d:=20) (by kernel_rfl) rfl (z6 (by kernel_rfl)) (z7 (by kernel_rfl)) rfl rfl rfl (fun _=>q_quo rfl rfl zsB rfl) ?_
  refine WD.a (i:=4) (d:=21) (by kernel_rfl) rfl (z6 (by kernel_rfl)) (z7 (by kernel_rfl)) rfl rfl rfl (fun _=>q_m rfl) ?_
  refine WD.c (i:=5) (d:=22) (by kernel_rfl) rfl (z6 (by kernel_rfl)) (z7 (by kernel_rfl)) rfl rfl rfl (zi (l:=[.tmp 21]) Tryz.call65 (.cons rfl .nil)) (fun w hw=>by have pz:=(hz.call hw (.nil : Sel [stb z4O 40 [(.int .i64 0),(.int .i64 0)]] [] [stb z4O 40 [(.int .i64 0),(.int .i64 0)]])); exact w_ref01_size (Z:=_)  (z84:=z54) (r:=z79) w pz  zB6) ?_
  refine WD.a (i:=6) (d:=23) (by kernel_rfl) rfl (z6 (by kernel_rfl)) (z7 (by kernel_rfl)) rfl rfl rfl (fun _=>q_m rfl) ?_
  refine WD.a (i:=7) (d:=24) (by kernel_rfl) rfl (z6 (by kernel_rfl)) (z7 (by kernel_rfl)) rfl rfl rfl (fun _=>q_quo rfl rfl zsB rfl) ?_
  refine WD.a (i:=8) (d:=7) (by kernel_rfl) rfl (z6 (by kernel_rfl)) (z7 (by kernel_rfl)) rfl rfl rfl (fun _=>q_z rfl) ?_
  refine WD.a (i:=9) (d:=8) (by kernel_rfl) rfl (z6 (by kernel_rfl)) (z7 (by kernel_rfl)) rfl rfl rfl (fun _=>q_z rfl) ?_
  refine WD.done (by kernel_rfl) ?_
  refine WX.a ?_
  refine WC.b ?_
  refine WC.b ?_
  refine WC.a ?_
  refine WL.a (d:=25) rfl rfl rfl (q_m rfl) ?_
  refine WL.a (d:=26) rfl rfl rfl (q_gtr rfl rfl) ?_
  refine WL.a (d:=27) rfl rfl rfl (q_m rfl) ?_
  refine WL.cut0 True [(0,(.int .i64 z4N)),(1,(.int .i64 z54)),(4,(.pointer (some ⟨z4O,0,none⟩))),(7,(.int .u64 (u64 (Int.tdiv z6O z3l)))),(8,(.int .u64 (u64 (Int.tdiv z79 z3l)))),(30,(.bool ((decide ((u64 (Int.tdiv z6O z3l)) > 1073741824)) || (decide ((u64 (Int.tdiv z79 z3l)) > 1073741824)))))] [stb z4O 40 [(.int .i64 0),(.int .i64 0)]] 3 ?_ (fun _=>?_)
  ·rcases Bool.eq_false_or_eq_true (decide ((u64 (Int.tdiv z6O z3l)) > 1073741824)) with hb' | hb'
   ·have zsC:=hb'; clear hb'
    refine WL.pin (i:=27) rfl zsC ?_
    refine WL.e rfl rfl rfl ?_
    refine WL.e rfl rfl rfl ?_
    refine WL.a (d:=30) rfl rfl rfl (q_pickT rfl rfl) ?_
    exact WL.cutEnd () trivial (.cons rfl (.cons rfl (.cons rfl (.cons rfl (.cons rfl (.cons (zf (or_l zsC)) .nil)))))) (.cons .here .nil)
   ·have zsD:=hb'; clear hb'
    refine WL.pin (i:=27) rfl zsD ?_
    refine WL.a (d:=28) rfl rfl rfl (q_m rfl) ?_
    refine WL.a (d:=29) rfl rfl rfl (q_gtr rfl rfl) ?_
    refine WL.a (d:=30) rfl rfl rfl (q_pickF rfl rfl) ?_
    exact WL.cutEnd () trivial (.cons rfl (.cons rfl (.cons rfl (.cons rfl (.cons rfl (.cons (zf (or_r zsD)) .nil)))))) (.cons .here .nil)
  ·skip
   refine WL.nil ?_
   refine WX.a ?_
   refine WC.cond rfl (fun zo9=>?_) (fun zo9=>?_)
   ·replace h:=ite_t h zo9
    refine WC.b ?_
    refine WC.a ?_
    refine WL.a (d:=31) rfl rfl rfl (q_build (v:=(.agg #[(.int .i64 0),(.int .i64 0)])) (Eos.parts (l:=[]) .nil []) (fun _=>by kernel_rfl)) ?_
    refine WL.eff0 rfl rfl (e_store (vs:=[(.int .i64 0),(.int .i64 0)]) (ds:=[(.int .i64 0),(.int .i64 0)]) sizT_40 rfl rfl rfl rfl (oc_cons rfl (oc_cons rfl oc_nil)) .here (Nat.le_of_ble_eq_true rfl) rfl) ?_
    refine WL.a (d:=5) rfl rfl rfl (q_z rfl) ?_
    refine WL.nil ?_
    refine WX.a ?_
    refine WC.ret ?_
    refine WX.thenRet ?_
    obtain rfl:=Option.some.inj h
    refine WX.bpRet Tryz.results61 (.agg rfl aggT_40 rfl (rd_all .here) (.tmp rfl .nil)) (fun w hw=>?_)
    exact ⟨ret2 rfl rfl,hw.sub .nil⟩
   ·replace h:=ite_f h zo9
    refine WC.skip ?_
    refine WX.a ?_
    refine WC.b ?_
    refine WC.b ?_
    refine WC.a ?_
    refine WL.a (d:=32) rfl rfl rfl (q_m rfl) ?_
    refine WL.a (d:=33) rfl rfl rfl (q_lss rfl rfl) ?_
    refine WL.a (d:=34) rfl rfl rfl (q_m rfl) ?_
    refine WL.cut0 True [(0,(.int .i64 z4N)),(1,(.int .i64 z54)),(4,(.pointer (some ⟨z4O,0,none⟩))),(7,(.int .u64 (u64 (Int.tdiv z6O z3l)))),(8,(.int .u64 (u64 (Int.tdiv z79 z3l)))),(37,(.bool ((decide (z4N < 0)) && (decide (z54 > 0)))))] [stb z4O 40 [(.int .i64 0),(.int .i64 0)]] 3 ?_ (fun _=>?_)
    ·rcases Bool.eq_false_or_eq_true (decide (z4N < 0)) with hb' | hb'
     ·have zsE:=hb'; clear hb'
      refine WL.pin (i:=34) rfl zsE ?_
      refine WL.a (d:=35) rfl rfl rfl (q_m rfl) ?_
      refine WL.a (d:=36) rfl rfl rfl (q_gtr rfl rfl) ?_
      refine WL.a (d:=37) rfl rfl rfl (q_pickT rfl rfl) ?_
      exact WL.cutEnd () trivial (.cons rfl (.cons rfl (.cons rfl (.cons rfl (.cons rfl (.cons (zf (and_r zsE)) .nil)))))) (.cons .here .nil)
     ·have zsF:=hb'; clear hb'
      refine WL.pin (i:=34) rfl zsF ?_
      refine WL.e rfl rfl rfl ?_
      refine WL.e rfl rfl rfl ?_
      refine WL.a (d:=37) rfl rfl rfl (q_pickF rfl rfl) ?_
      exact WL.cutEnd () trivial (.cons rfl (.cons rfl (.cons rfl (.cons rfl (.cons rfl (.cons (zf (and_l zsF)) .nil)))))) (.cons .here .nil)
    ·skip
     refine WL.a (d:=38) rfl rfl rfl (q_m rfl) ?_
     refine WL.cut0 True [(4,(.pointer (some ⟨z4O,0,none⟩))),(7,(.int .u64 (u64 (Int.tdiv z6O z3l)))),(8,(.int .u64 (u64 (Int.tdiv z79 z3l)))),(45,(.bool (((decide (z4N < 0)) && (decide (z54 > 0))) || ((decide (z4N > 0)) && (decide (z54 < 0))))))] [stb z4O 40 [(.int .i64 0),(.int .i64 0)]] 7 ?_ (fun _=>?_)
     ·rcases Bool.eq_false_or_eq_true ((decide (z4N < 0)) && (decide (z54 > 0))) with hb' | hb'
      ·have zsG:=hb'; clear hb'
       refine WL.pin (i:=38) rfl zsG ?_
       refine WL.e rfl rfl rfl ?_
       refine WL.e rfl rfl rfl ?_
       refine WL.e rfl rfl rfl ?_
       refine WL.e rfl rfl rfl ?_
       refine WL.e rfl rfl rfl ?_
       refine WL.e rfl rfl rfl ?_
       refine WL.a (d:=45) rfl rfl rfl (q_pickT rfl rfl) ?_
       exact WL.cutEnd () trivial (.cons rfl (.cons rfl (.cons rfl (.cons (zf (or_l zsG)) .nil)))) (.cons .here .nil)
      ·have zsH:=hb'; clear hb'
       refine WL.pin (i:=38) rfl zsH ?_
       refine WL.a (d:=39) rfl rfl rfl (q_m rfl) ?_
       refine WL.a (d:=40) rfl rfl rfl (q_gtr rfl rfl) ?_
       refine WL.a (d:=41) rfl rfl rfl (q_m rfl) ?_
       refine WL.cut0 True [(4,(.pointer (some ⟨z4O,0,none⟩))),(7,(.int .u64 (u64 (Int.tdiv z6O z3l)))),(8,(.int .u64 (u64 (Int.tdiv z79 z3l)))),(38,(.bool false)),(44,(.bool ((decide (z4N > 0)) && (decide (z54 < 0)))))] [stb z4O 40 [(.int .i64 0),(.int .i64 0)]] 3 ?_ (fun _=>?_)
       ·rcases Bool.eq_false_or_eq_true (decide (z4N > 0)) with hb' | hb'
        ·have zsI:=hb'; clear hb'
         refine WL.pin (i:=41) rfl zsI ?_
         refine WL.a (d:=42) rfl rfl rfl (q_m rfl) ?_
         refine WL.a (d:=43) rfl rfl rfl (q_lss rfl rfl) ?_
         refine WL.a (d:=44) rfl rfl rfl (q_pickT rfl rfl) ?_
         exact WL.cutEnd () trivial (.cons rfl (.cons rfl (.cons rfl (.cons rfl (.cons (zf (and_r zsI)) .nil))))) (.cons .here .nil)
        ·have zsJ:=hb'; clear hb'
         refine WL.pin (i:=41) rfl zsJ ?_
         refine WL.e rfl rfl rfl ?_
         refine WL.e rfl rfl rfl ?_
         refine WL.a (d:=44) rfl rfl rfl (q_pickF rfl rfl) ?_
         exact WL.cutEnd () trivial (.cons rfl (.cons rfl (.cons rfl (.cons rfl (.cons (zf (and_l zsJ)) .nil))))) (.cons .here .nil)
       ·skip
        refine WL.a (d:=45) rfl rfl rfl (q_pickF rfl rfl) ?_
        exact WL.cutEnd () trivial (.cons rfl (.cons rfl (.cons rfl (.cons (zf (or_r zsH)) .nil)))) (.cons .here .nil)
     ·skip
      refine WL.nil ?_
      refine WX.a ?_
      refine WC.cond rfl (fun zoa=>?_) (fun zoa=>?_)
      ·replace h:=ite_t h zoa
       refine WC.b ?_
       refine WC.a ?_
       refine WL.a (d:=46) rfl rfl rfl (q_m rfl) ?_
       refine WL.a (d:=47) rfl rfl rfl (q_conv Tryz.underlying99 Tryz.underlying3 rfl rfl) ?_
       refine WL.a (d:=48) rfl rfl rfl (q_neg rfl rfl) ?_
       refine WL.a (d:=49) rfl rfl rfl (q_m rfl) ?_
       refine WL.a (d:=50) rfl rfl rfl (q_conv Tryz.underlying99 Tryz.underlying3 rfl rfl) ?_
       refine WL.a (d:=51) rfl rfl rfl (q_build (v:=(.agg #[(.int .i64 (i64 (0 - (i64 (u64 (Int.tdiv z6O z3l)))))),(.int .i64 (i64 (u64 (Int.tdiv z79 z3l))))])) (Eos.parts (l:=[.tmp 48,.tmp 50]) (.cons rfl (.cons rfl .nil)) [0,1]) (fun _=>by kernel_rfl)) ?_
       refine WL.eff0 rfl rfl (e_store (vs:=[(.int .i64 (i64 (0 - (i64 (u64 (Int.tdiv z6O z3l)))))),(.int .i64 (i64 (u64 (Int.tdiv z79 z3l))))]) (ds:=[(.int .i64 (i64 (0 - (i64 (u64 (Int.tdiv z6O z3l)))))),(.int .i64 (i64 (u64 (Int.tdiv z79 z3l))))]) sizT_40 rfl rfl rfl rfl (oc_cons rfl (oc_cons rfl oc_nil)) .here (Nat.le_of_ble_eq_true rfl) rfl) ?_
       refine WL.a (d:=5) rfl rfl rfl (q_z rfl) ?_
       refine WL.nil ?_
       refine WX.a ?_
       refine WC.ret ?_
       refine WX.thenRet ?_
       obtain rfl:=Option.some.inj h
       refine WX.bpRet Tryz.results61 (.agg rfl aggT_40 rfl (rd_all .here) (.tmp rfl .nil)) (fun w hw=>?_)
       exact ⟨ret2 rfl rfl,hw.sub .nil⟩
      ·replace h:=ite_f h zoa
       refine WC.skip ?_
       refine WX.a ?_
       refine WC.b ?_
       refine WC.a ?_
       refine WL.a (d:=52) rfl rfl rfl (q_m rfl) ?_
       refine WL.a (d:=53) rfl rfl rfl (q_conv Tryz.underlying99 Tryz.underlying3 rfl rfl) ?_
       refine WL.a (d:=54) rfl rfl rfl (q_m rfl) ?_
       refine WL.a (d:=55) rfl rfl rfl (q_conv Tryz.underlying99 Tryz.underlying3 rfl rfl) ?_
       refine WL.a (d:=56) rfl rfl rfl (q_build (v:=(.agg #[(.int .i64 (i64 (u64 (Int.tdiv z6O z3l)))),(.int .i64 (i64 (u64 (Int.tdiv z79 z3l))))])) (Eos.parts (l:=[.tmp 53,.tmp 55]) (.cons rfl (.cons rfl .nil)) [0,1]) (fun _=>by kernel_rfl)) ?_
       refine WL.eff0 rfl rfl (e_store (vs:=[(.int .i64 (i64 (u64 (Int.tdiv z6O z3l)))),(.int .i64 (i64 (u64 (Int.tdiv z79 z3l))))]) (ds:=[(.int .i64 (i64 (u64 (Int.tdiv z6O z3l)))),(.int .i64 (i64 (u64 (Int.tdiv z79 z3l))))]) sizT_40 rfl rfl rfl rfl (oc_cons rfl (oc_cons rfl oc_nil)) .here (Nat.le_of_ble_eq_true rfl) rfl) ?_
       refine WL.a (d:=5) rfl rfl rfl (q_z rfl) ?_
       refine WL.nil ?_
       refine WX.a ?_
       refine WC.ret ?_
       obtain rfl:=Option.some.inj h
       refine WX.bpRet Tryz.results61 (.agg rfl aggT_40 rfl (rd_all .here) (.tmp rfl .nil)) (fun w hw=>?_)
       exact ⟨ret2 rfl rfl,hw.sub .nil⟩
def m_ref01_Do (z6P : Int) (zM : z2) (zL : z2) : Option (z2 × Int) :=
 (m_ref01_Valid zM).bind fun zj0=>(if !zj0 then some true else (m_ref01_Valid zL).bind fun zob=>some (!zob)).bind fun zgM=>if zgM || ((decide (z6P = 3)) && (decide (zL.fN = 0))) then some ((⟨0,0⟩ : z2),2) else if decide (z6P = 0) then (m_ref01_Make (i64 ((i64 (zM.fN * zL.fD)) + (i64 (zL.fN * zM.fD)))) (i64 (zM.fD * zL.fD))).bind fun zc5=>some (zc5.1,zc5.2) else if decide (z6P = 1) then (m_ref01_Make (i64 ((i64 (zM.fN * zL.fD)) - (i64 (zL.fN * zM.fD)))) (i64 (zM.fD * zL.fD))).bind fun zc6=>some (zc6.1,zc6.2) else if decide (z6P = 2) then (m_ref01_Make (i64 (zM.fN * zL.fN)) (i64 (zM.fD * zL.fD))).bind fun zc7=>some (zc7.1,zc7.2) else (m_ref01_Make (i64 (zM.fN * zL.fD)) (i64 (zM.fD * zL.fN))).bind fun zc8=>some (zc8.1,zc8.2)
set_option maxRecDepth 20000 in
theorem w_ref01_Do (Z : Zp)   (z6P : Int) (zM : z2) (zL : z2) (r : z2 × Int) (w₀ : World) (hz : PZ [] w₀ Z)
  (h : m_ref01_Do z6P zM zL = some r) :
  Calls Tryz.prog 43 #[(.int .i64 z6P),(.agg #[(.int .i64 zM.fN),(.int .i64 zM.fD)]),(.agg #[(.int .i64 zL.fN),(.int .i64 zL.fD)])] w₀ fun e w'=>e = .returned (.tuple #[(.agg #[(.int .i64 r.1.fN),(.int .i64 r.1.fD)]),(.int .i64 r.2)]) ∧ Hp [] w₀ w' []:=by
 unfold m_ref01_Do at h
 refine Calls.ofWC (vs:=[(.int .i64 z6P),(.agg #[(.int .i64 zM.fN),(.int .i64 zM.fD)]),(.agg #[(.int .i64 zL.fN),(.int .i64 zL.fD)])]) (pre:=[]) (env:=[(0,(.int .i64 z6P)),(1,(.agg #[(.int .i64 zM.fN),(.int .i64 zM.fD)])),(2,(.agg #[(.int .i64 zL.fN),(.int .i64 zL.fD)]))]) Tryz.func43 rfl Tryz.ntmps43 rfl (Hp.nil w₀ _) rfl ?_
 refine WC.b ?_
 refine WC.a ?_
 refine WL.new (dd:=4) rfl rfl rfl (e_box (cs:=[(.int .i64 zM.fN),(.int .i64 zM.fD)]) rfl rfl) ?_
 intro z3z _
 refine WL.new (dd:=5) rfl rfl rfl (e_box (cs:=[(.int .i64 zL.fN),(.int .i64 zL.fD)]) rfl rfl) ?_
 intro z3A _
 refine WL.new (dd:=6) rfl rfl rfl (e_alloc (cs:=[(.int .i64 0),(.int .i64 0)]) zeroT_40 rfl) ?_
 intro z3B _
 refine WL.a (d:=7) rfl rfl rfl (q_z rfl) ?_
 refine WL.nil ?_
 refine WX.a ?_
 refine WC.b ?_
 refine WC.b ?_
 obtain ⟨zj0,zB7,h⟩:=z8 h
 obtain ⟨zgM,zsK,h⟩:=z8 h
 refine WC.a ?_
 refine WL.a (d:=8) rfl rfl rfl (q_loadA (cs:=[(.int .i64 zM.fN),(.int .i64 zM.fD)]) aggT_40 rfl rfl (rd_all .h2)) ?_
 refine WL.b (dd:=9) rfl rfl rfl (zi (l:=[.tmp 8]) Tryz.call45 (.cons rfl .nil)) (.nil : Sel [stb z3B 40 [(.int .i64 0),(.int .i64 0)],stb z3A 40 [(.int .i64 zL.fN),(.int .i64 zL.fD)],stb z3z 40 [(.int .i64 zM.fN),(.int .i64 zM.fD)]] [] [stb z3B 40 [(.int .i64 0),(.int .i64 0)],stb z3A 40 [(.int .i64 zL.fN),(.int .i64 zL.fD)],stb z3z 40 [(.int .i64 zM.fN),(.int .i64 zM.fD)]]) (fun w hw=>by have pz:=(hz.call hw (.nil : Sel [stb z3B 40 [(.int .i64 0),(.int .i64 0)],stb z3A 40 [(.int .i64 zL.fN),(.int .i64 zL.fD)],stb z3z 40 [(.int .i64 zM.fN),(.int .i64 zM.fD)]] [] [stb z3B 40 [(.int .i64 0),(.int .i64 0)],stb z3A 40 [(.int .i64 zL.fN),(.int .i64 zL.fD)],stb z3z 40 [(.int .i64 zM.fN),(.int .i64 zM.fD)]])); exact w_ref01_Valid (Z:=_)  (z1T:=zM) (r:=zj0) w pz  zB7) ?_
 refine WL.a (d:=10) rfl rfl rfl (q_not rfl) ?_
 refine WL.a (d:=11) rfl rfl rfl (q_m rfl) ?_
 refine WL.cut0 True [(0,(.int .i64 z6P)),(4,(.pointer (some ⟨z3z,0,none⟩))),(5,(.pointer (some ⟨z3A,0,none⟩))),(6,(.pointer (some ⟨z3B,0,none⟩))),(15,(.bool zgM))] [stb z3B 40 [(.int .i64 0),(.int .i64 0)],stb z3A 40 [(.int .i64 zL.fN),(.int .i64 zL.fD)],stb z3z 40 [(.int .i64 zM.fN),(.int .i64 zM.fD)]] 4 ?_ (fun _=>?_)
 ·rcases Bool.eq_false_or_eq_true (!zj0) with hb' | hb'
  ·have zsL:=hb'; clear hb'
   have zoc:=ite_t zsK zsL
   replace zoc:=Option.some.inj zoc
   refine WL.pin (i:=11) rfl zsL ?_
   refine WL.e rfl rfl rfl ?_
   refine WL.e rfl rfl rfl ?_
   refine WL.e rfl rfl rfl ?_
   refine WL.a (d:=15) rfl rfl rfl (q_pickT rfl rfl) ?_
   exact WL.cutEnd () trivial (.cons rfl (.cons rfl (.cons rfl (.cons rfl (.cons (zf zoc) .nil))))) (.cons .here (.cons .here (.cons .here .nil)))
  ·have zsM:=hb'; clear hb'
   have zgN:=ite_f zsK zsM
   obtain ⟨zob,zB8,zgN⟩:=z8 zgN
   replace zgN:=Option.some.inj zgN
   refine WL.pin (i:=11) rfl zsM ?_
   refine WL.a (d:=12) rfl rfl rfl (q_loadA (cs:=[(.int .i64 zL.fN),(.int .i64 zL.fD)]) aggT_40 rfl rfl (rd_all .h1)) ?_
   refine WL.b (dd:=13) rfl rfl rfl (zi (l:=[.tmp 12]) Tryz.call45 (.cons rfl .nil)) (.nil : Sel [stb z3B 40 [(.int .i64 0),(.int .i64 0)],stb z3A 40 [(.int .i64 zL.fN),(.int .i64 zL.fD)],stb z3z 40 [(.int .i64 zM.fN),(.int .i64 zM.fD)]] [] [stb z3B 40 [(.int .i64 0),(.int .i64 0)],stb z3A 40 [(.int .i64 zL.fN),(.int .i64 zL.fD)],stb z3z 40 [(.int .i64 zM.fN),(.int .i64 zM.fD)]]) (fun w hw=>by have pz:=(hz.call hw (.nil : Sel [stb z3B 40 [(.int .i64 0),(.int .i64 0)],stb z3A 40 [(.int .i64 zL.fN),(.int .i64 zL.fD)],stb z3z 40 [(.int .i64 zM.fN),(.int .i64 zM.fD)]] [] [stb z3B 40 [(.int .i64 0),(.int .i64 0)],stb z3A 40 [(.int .i64 zL.fN),(.int .i64 zL.fD)],stb z3z 40 [(.int .i64 zM.fN),(.int .i64 zM.fD)]])); exact w_ref01_Valid (Z:=_)  (z1T:=zL) (r:=zob) w pz  zB8) ?_
   refine WL.a (d:=14) rfl rfl rfl (q_not rfl) ?_
   refine WL.a (d:=15) rfl rfl rfl (q_pickF rfl rfl) ?_
   exact WL.cutEnd () trivial (.cons rfl (.cons rfl (.cons rfl (.cons rfl (.cons (zf zgN) .nil))))) (.cons .here (.cons .here (.cons .here .nil)))
 ·skip
  refine WL.a (d:=16) rfl rfl rfl (q_m rfl) ?_
  refine WL.cut0 True [(0,(.int .i64 z6P)),(4,(.pointer (some ⟨z3z,0,none⟩))),(5,(.pointer (some ⟨z3A,0,none⟩))),(6,(.pointer (some ⟨z3B,0,none⟩))),(24,(.bool (zgM || ((decide (z6P = 3)) && (decide (zL.fN = 0))))))] [stb z3B 40 [(.int .i64 0),(.int .i64 0)],stb z3A 40 [(.int .i64 zL.fN),(.int .i64 zL.fD)],stb z3z 40 [(.int .i64 zM.fN),(.int .i64 zM.fD)]] 8 ?_ (fun _=>?_)
  ·rcases Bool.eq_false_or_eq_true zgM with hb' | hb'
   ·have zsN:=hb'; clear hb'
    refine WL.pin (i:=16) rfl zsN ?_
    refine WL.e rfl rfl rfl ?_
    refine WL.e rfl rfl rfl ?_
    refine WL.e rfl rfl rfl ?_
    refine WL.e rfl rfl rfl ?_
    refine WL.e rfl rfl rfl ?_
    refine WL.e rfl rfl rfl ?_
    refine WL.e rfl rfl rfl ?_
    refine WL.a (d:=24) rfl rfl rfl (q_pickT rfl rfl) ?_
    exact WL.cutEnd () trivial (.cons rfl (.cons rfl (.cons rfl (.cons rfl (.cons (zf (or_l zsN)) .nil))))) (.cons .here (.cons .here (.cons .here .nil)))
   ·have zsO:=hb'; clear hb'
    refine WL.pin (i:=16) rfl zsO ?_
    refine WL.a (d:=17) rfl rfl rfl (q_m rfl) ?_
    refine WL.a (d:=18) rfl rfl rfl (q_eql rfl rfl) ?_
    refine WL.a (d:=19) rfl rfl rfl (q_m rfl) ?_
    refine WL.cut0 True [(0,(.int .i64 z6P)),(4,(.pointer (some ⟨z3z,0,none⟩))),(5,(.pointer (some ⟨z3A,0,none⟩))),(6,(.pointer (some ⟨z3B,0,none⟩))),(16,(.bool false)),(23,(.bool ((decide (z6P = 3)) && (decide (zL.fN = 0)))))] [stb z3B 40 [(.int .i64 0),(.int .i64 0)],stb z3A 40 [(.int .i64 zL.fN),(.int .i64 zL.fD)],stb z3z 40 [(.int .i64 zM.fN),(.int .i64 zM.fD)]] 4 ?_ (fun _=>?_)
    ·rcases Bool.eq_false_or_eq_true (decide (z6P = 3)) with hb' | hb'
     ·have zsP:=hb'; clear hb'
      refine WL.pin (i:=19) rfl zsP ?_
      refine WL.a (d:=20) rfl rfl rfl (q_fieldAddr fo_40_0 rfl rfl) ?_
      refine WL.a (d:=21) rfl rfl rfl (q_load1 oneT_3 rfl (rd_stb .h1 rfl)) ?_
      refine WL.a (d:=22) rfl rfl rfl (q_eql rfl rfl) ?_
      refine WL.a (d:=23) rfl rfl rfl (q_pickT rfl rfl) ?_
      exact WL.cutEnd () trivial (.cons rfl (.cons rfl (.cons rfl (.cons rfl (.cons rfl (.cons (zf (and_r zsP)) .nil)))))) (.cons .here (.cons .here (.cons .here .nil)))
     ·have zsQ:=hb'; clear hb'
      refine WL.pin (i:=19) rfl zsQ ?_
      refine WL.e rfl rfl rfl ?_
      refine WL.e rfl rfl rfl ?_
      refine WL.e rfl rfl rfl ?_
      refine WL.a (d:=23) rfl rfl rfl (q_pickF rfl rfl) ?_
      exact WL.cutEnd () trivial (.cons rfl (.cons rfl (.cons rfl (.cons rfl (.cons rfl (.cons (zf (and_l zsQ)) .nil)))))) (.cons .here (.cons .here (.cons .here .nil)))
    ·skip
     refine WL.a (d:=24) rfl rfl rfl (q_pickF rfl rfl) ?_
     exact WL.cutEnd () trivial (.cons rfl (.cons rfl (.cons rfl (.cons rfl (.cons (zf (or_r zsO)) .nil))))) (.cons .here (.cons .here (.cons .here .nil)))
  ·skip
   refine WL.nil ?_
   refine WX.a ?_
   refine WC.cond rfl (fun zod=>?_) (fun zod=>?_)
   ·replace h:=ite_t h zod
    refine WC.b ?_
    refine WC.a ?_
    refine WL.a (d:=25) rfl rfl rfl (q_build (v:=(.agg #[(.int .i64 0),(.int .i64 0)])) (Eos.parts (l:=[]) .nil []) (fun _=>by kernel_rfl)) ?_
    refine WL.eff0 rfl rfl (e_store (vs:=[(.int .i64 0),(.int .i64 0)]) (ds:=[(.int .i64 0),(.int .i64 0)]) sizT_40 rfl rfl rfl rfl (oc_cons rfl (oc_cons rfl oc_nil)) .here (Nat.le_of_ble_eq_true rfl) rfl) ?_
    refine WL.a (d:=7) rfl rfl rfl (q_z rfl) ?_
    refine WL.nil ?_
    refine WX.a ?_
    refine WC.ret ?_
    refine WX.thenRet ?_
    obtain rfl:=Option.some.inj h
    refine WX.bpRet Tryz.results43 (.agg rfl aggT_40 rfl (rd_all .here) (.tmp rfl .nil)) (fun w hw=>?_)
    exact ⟨ret2 rfl rfl,hw.sub .nil⟩
   ·replace h:=ite_f h zod
    refine WC.skip ?_
    refine WX.a ?_
    refine WC.b ?_
    refine WC.b ?_
    refine WC.a ?_
    refine WL.a (d:=26) rfl rfl rfl (q_m rfl) ?_
    refine WL.nil ?_
    refine WX.a ?_
    refine WC.block ?_
    refine WC.b ?_
    refine WC.a ?_
    refine WL.a (d:=28) rfl rfl rfl (q_eql rfl rfl) ?_
    refine WL.a (d:=27) rfl rfl rfl (q_z rfl) ?_
    refine WL.nil ?_
    refine WX.a ?_
    refine WC.cond rfl (fun zoe=>?_) (fun zoe=>?_)
    ·replace h:=ite_t h zoe
     refine WC.b ?_
     obtain ⟨zc5,zB9,h⟩:=z8 h
     refine WC.a ?_
     refine WL.a (d:=29) rfl rfl rfl (q_fieldAddr fo_40_0 rfl rfl) ?_
     refine WL.a (d:=30) rfl rfl rfl (q_load1 oneT_3 rfl (rd_stb .h2 rfl)) ?_
     refine WL.a (d:=31) rfl rfl rfl (q_fieldAddr fo_40_1 rfl rfl) ?_
     refine WL.a (d:=32) rfl rfl rfl (q_load1 oneT_3 rfl (rd_stb .h1 rfl)) ?_
     refine WL.a (d:=33) rfl rfl rfl (q_mul rfl rfl rfl) ?_
     refine WL.a (d:=34) rfl rfl rfl (q_fieldAddr fo_40_0 rfl rfl) ?_
     refine WL.a (d:=35) rfl rfl rfl (q_load1 oneT_3 rfl (rd_stb .h1 rfl)) ?_
     refine WL.a (d:=36) rfl rfl rfl (q_fieldAddr fo_40_1 rfl rfl) ?_
     refine WL.a (d:=37) rfl rfl rfl (q_load1 oneT_3 rfl (rd_stb .h2 rfl)) ?_
     refine WL.a (d:=38) rfl rfl rfl (q_mul rfl rfl rfl) ?_
     refine WL.a (d:=39) rfl rfl rfl (q_add rfl rfl rfl) ?_
     refine WL.a (d:=40) rfl rfl rfl (q_fieldAddr fo_40_1 rfl rfl) ?_
     refine WL.a (d:=41) rfl rfl rfl (q_load1 oneT_3 rfl (rd_stb .h2 rfl)) ?_
     refine WL.a (d:=42) rfl rfl rfl (q_fieldAddr fo_40_1 rfl rfl) ?_
     refine WL.a (d:=43) rfl rfl rfl (q_load1 oneT_3 rfl (rd_stb .h1 rfl)) ?_
     refine WL.a (d:=44) rfl rfl rfl (q_mul rfl rfl rfl) ?_
     refine WL.b (dd:=45) rfl rfl rfl (zi (l:=[.tmp 39,.tmp 44]) Tryz.call61 (.cons rfl (.cons rfl .nil))) (.nil : Sel [stb z3B 40 [(.int .i64 0),(.int .i64 0)],stb z3A 40 [(.int .i64 zL.fN),(.int .i64 zL.fD)],stb z3z 40 [(.int .i64 zM.fN),(.int .i64 zM.fD)]] [] [stb z3B 40 [(.int .i64 0),(.int .i64 0)],stb z3A 40 [(.int .i64 zL.fN),(.int .i64 zL.fD)],stb z3z 40 [(.int .i64 zM.fN),(.int .i64 zM.fD)]]) (fun w hw=>by have pz:=(hz.call hw (.nil : Sel [stb z3B 40 [(.int .i64 0),(.int .i64 0)],stb z3A 40 [(.int .i64 zL.fN),(.int .i64 zL.fD)],stb z3z 40 [(.int .i64 zM.fN),(.int .i64 zM.fD)]] [] [stb z3B 40 [(.int .i64 0),(.int .i64 0)],stb z3A 40 [(.int .i64 zL.fN),(.int .i64 zL.fD)],stb z3z 40 [(.int .i64 zM.fN),(.int .i64 zM.fD)]])); exact w_ref01_Make (Z:=_)  (z4N:=(i64 ((i64 (zM.fN * zL.fD)) + (i64 (zL.fN * zM.fD))))) (z54:=(i64 (zM.fD * zL.fD))) (r:=zc5) w pz  zB9) ?_
     refine WL.a (d:=46) rfl rfl rfl (q_extract rfl rfl) ?_
     refine WL.a (d:=47) rfl rfl rfl (q_extract rfl rfl) ?_
     refine WL.eff0 rfl rfl (e_store (vs:=[(.int .i64 zc5.1.fN),(.int .i64 zc5.1.fD)]) (ds:=[(.int .i64 zc5.1.fN),(.int .i64 zc5.1.fD)]) sizT_40 rfl rfl rfl rfl (oc_cons rfl (oc_cons rfl oc_nil)) .here (Nat.le_of_ble_eq_true rfl) rfl) ?_
     refine WL.a (d:=7) rfl rfl rfl (q_z rfl) ?_
     refine WL.nil ?_
     refine WX.a ?_
     refine WC.ret ?_
     refine WX.blockRet ?_
     refine WX.thenRet ?_
     obtain rfl:=Option.some.inj h
     refine WX.bpRet Tryz.results43 (.agg rfl aggT_40 rfl (rd_all .here) (.tmp rfl .nil)) (fun w hw=>?_)
     exact ⟨ret2 rfl rfl,hw.sub .nil⟩
    ·replace h:=ite_f h zoe
     refine WC.b ?_
     refine WC.a ?_
     refine WL.a (d:=49) rfl rfl rfl (q_eql rfl rfl) ?_
     refine WL.a (d:=48) rfl rfl rfl (q_z rfl) ?_
     refine WL.nil ?_
     refine WX.a ?_
     refine WC.cond rfl (fun zof=>?_) (fun zof=>?_)
     ·replace h:=ite_t h zof
      refine WC.b ?_
      obtain ⟨zc6,zBa,h⟩:=z8 h
      refine WC.a ?_
      refine WL.a (d:=50) rfl rfl rfl (q_fieldAddr fo_40_0 rfl rfl) ?_
      refine WL.a (d:=51) rfl rfl rfl (q_load1 oneT_3 rfl (rd_stb .h2 rfl)) ?_
      refine WL.a (d:=52) rfl rfl rfl (q_fieldAddr fo_40_1 rfl rfl) ?_
      refine WL.a (d:=53) rfl rfl rfl (q_load1 oneT_3 rfl (rd_stb .h1 rfl)) ?_
      refine WL.a (d:=54) rfl rfl rfl (q_mul rfl rfl rfl) ?_
      refine WL.a (d:=55) rfl rfl rfl (q_fieldAddr fo_40_0 rfl rfl) ?_
      refine WL.a (d:=56) rfl rfl rfl (q_load1 oneT_3 rfl (rd_stb .h1 rfl)) ?_
      refine WL.a (d:=57) rfl rfl rfl (q_fieldAddr fo_40_1 rfl rfl) ?_
      refine WL.a (d:=58) rfl rfl rfl (q_load1 oneT_3 rfl (rd_stb .h2 rfl)) ?_
      refine WL.a (d:=59) rfl rfl rfl (q_mul rfl rfl rfl) ?_
      refine WL.a (d:=60) rfl rfl rfl (q_sub rfl rfl rfl) ?_
      refine WL.a (d:=61) rfl rfl rfl (q_fieldAddr fo_40_1 rfl rfl) ?_
      refine WL.a (d:=62) rfl rfl rfl (q_load1 oneT_3 rfl (rd_stb .h2 rfl)) ?_
      refine WL.a (d:=63) rfl rfl rfl (q_fieldAddr fo_40_1 rfl rfl) ?_
      refine WL.a (d:=64) rfl rfl rfl (q_load1 oneT_3 rfl (rd_stb .h1 rfl)) ?_
      refine WL.a (d:=65) rfl rfl rfl (q_mul rfl rfl rfl) ?_
      refine WL.b (dd:=66) rfl rfl rfl (zi (l:=[.tmp 60,.tmp 65]) Tryz.call61 (.cons rfl (.cons rfl .nil))) (.nil : Sel [stb z3B 40 [(.int .i64 0),(.int .i64 0)],stb z3A 40 [(.int .i64 zL.fN),(.int .i64 zL.fD)],stb z3z 40 [(.int .i64 zM.fN),(.int .i64 zM.fD)]] [] [stb z3B 40 [(.int .i64 0),(.int .i64 0)],stb z3A 40 [(.int .i64 zL.fN),(.int .i64 zL.fD)],stb z3z 40 [(.int .i64 zM.fN),(.int .i64 zM.fD)]]) (fun w hw=>by have pz:=(hz.call hw (.nil : Sel [stb z3B 40 [(.int .i64 0),(.int .i64 0)],stb z3A 40 [(.int .i64 zL.fN),(.int .i64 zL.fD)],stb z3z 40 [(.int .i64 zM.fN),(.int .i64 zM.fD)]] [] [stb z3B 40 [(.int .i64 0),(.int .i64 0)],stb z3A 40 [(.int .i64 zL.fN),(.int .i64 zL.fD)],stb z3z 40 [(.int .i64 zM.fN),(.int .i64 zM.fD)]])); exact w_ref01_Make (Z:=_)  (z4N:=(i64 ((i64 (zM.fN * zL.fD)) - (i64 (zL.fN * zM.fD))))) (z54:=(i64 (zM.fD * zL.fD))) (r:=zc6) w pz  zBa) ?_
      refine WL.a (d:=67) rfl rfl rfl (q_extract rfl rfl) ?_
      refine WL.a (d:=68) rfl rfl rfl (q_extract rfl rfl) ?_
      refine WL.eff0 rfl rfl (e_store (vs:=[(.int .i64 zc6.1.fN),(.int .i64 zc6.1.fD)]) (ds:=[(.int .i64 zc6.1.fN),(.int .i64 zc6.1.fD)]) sizT_40 rfl rfl rfl rfl (oc_cons rfl (oc_cons rfl oc_nil)) .here (Nat.le_of_ble_eq_true rfl) rfl) ?_
      refine WL.a (d:=7) rfl rfl rfl (q_z rfl) ?_
      refine WL.nil ?_
      refine WX.a ?_
      refine WC.ret ?_
      refine WX.blockRet ?_
      refine WX.thenRet ?_
      obtain rfl:=Option.some.inj h
      refine WX.bpRet Tryz.results43 (.agg rfl aggT_40 rfl (rd_all .here) (.tmp rfl .nil)) (fun w hw=>?_)
      exact ⟨ret2 rfl rfl,hw.sub .nil⟩
     ·replace h:=ite_f h zof
      refine WC.b ?_
      refine WC.a ?_
      refine WL.a (d:=70) rfl rfl rfl (q_eql rfl rfl) ?_
      refine WL.a (d:=69) rfl rfl rfl (q_z rfl) ?_
      refine WL.nil ?_
      refine WX.a ?_
      refine WC.cond rfl (fun zog=>?_) (fun zog=>?_)
      ·replace h:=ite_t h zog
       refine WC.b ?_
       obtain ⟨zc7,zBb,h⟩:=z8 h
       refine WC.a ?_
       refine WL.a (d:=71) rfl rfl rfl (q_fieldAddr fo_40_0 rfl rfl) ?_
       refine WL.a (d:=72) rfl rfl rfl (q_load1 oneT_3 rfl (rd_stb .h2 rfl)) ?_
       refine WL.a (d:=73) rfl rfl rfl (q_fieldAddr fo_40_0 rfl rfl) ?_
       refine WL.a (d:=74) rfl rfl rfl (q_load1 oneT_3 rfl (rd_stb .h1 rfl)) ?_
       refine WL.a (d:=75) rfl rfl rfl (q_mul rfl rfl rfl) ?_
       refine WL.a (d:=76) rfl rfl rfl (q_fieldAddr fo_40_1 rfl rfl) ?_
       refine WL.a (d:=77) rfl rfl rfl (q_load1 oneT_3 rfl (rd_stb .h2 rfl)) ?_
       refine WL.a (d:=78) rfl rfl rfl (q_fieldAddr fo_40_1 rfl rfl) ?_
       refine WL.a (d:=79) rfl rfl rfl (q_load1 oneT_3 rfl (rd_stb .h1 rfl)) ?_
       refine WL.a (d:=80) rfl rfl rfl (q_mul rfl rfl rfl) ?_
       refine WL.b (dd:=81) rfl rfl rfl (zi (l:=[.tmp 75,.tmp 80]) Tryz.call61 (.cons rfl (.cons rfl .nil))) (.nil : Sel [stb z3B 40 [(.int .i64 0),(.int .i64 0)],stb z3A 40 [(.int .i64 zL.fN),(.int .i64 zL.fD)],stb z3z 40 [(.int .i64 zM.fN),(.int .i64 zM.fD)]] [] [stb z3B 40 [(.int .i64 0),(.int .i64 0)],stb z3A 40 [(.int .i64 zL.fN),(.int .i64 zL.fD)],stb z3z 40 [(.int .i64 zM.fN),(.int .i64 zM.fD)]]) (fun w hw=>by have pz:=(hz.call hw (.nil : Sel [stb z3B 40 [(.int .i64 0),(.int .i64 0)],stb z3A 40 [(.int .i64 zL.fN),(.int .i64 zL.fD)],stb z3z 40 [(.int .i64 zM.fN),(.int .i64 zM.fD)]] [] [stb z3B 40 [(.int .i64 0),(.int .i64 0)],stb z3A 40 [(.int .i64 zL.fN),(.int .i64 zL.fD)],stb z3z 40 [(.int .i64 zM.fN),(.int .i64 zM.fD)]])); exact w_ref01_Make (Z:=_)  (z4N:=(i64 (zM.fN * zL.fN))) (z54:=(i64 (zM.fD * zL.fD))) (r:=zc7) w pz  zBb) ?_
       refine WL.a (d:=82) rfl rfl rfl (q_extract rfl rfl) ?_
       refine WL.a (d:=83) rfl rfl rfl (q_extract rfl rfl) ?_
       refine WL.eff0 rfl rfl (e_store (vs:=[(.int .i64 zc7.1.fN),(.int .i64 zc7.1.fD)]) (ds:=[(.int .i64 zc7.1.fN),(.int .i64 zc7.1.fD)]) sizT_40 rfl rfl rfl rfl (oc_cons rfl (oc_cons rfl oc_nil)) .here (Nat.le_of_ble_eq_true rfl) rfl) ?_
       refine WL.a (d:=7) rfl rfl rfl (q_z rfl) ?_
       refine WL.nil ?_
       refine WX.a ?_
       refine WC.ret ?_
       refine WX.blockRet ?_
       refine WX.thenRet ?_
       obtain rfl:=Option.some.inj h
       refine WX.bpRet Tryz.results43 (.agg rfl aggT_40 rfl (rd_all .here) (.tmp rfl .nil)) (fun w hw=>?_)
       exact ⟨ret2 rfl rfl,hw.sub .nil⟩
      ·replace h:=ite_f h zog
       refine WC.skip ?_
       refine WX.blockNormal ?_
       refine WX.a ?_
       refine WC.b ?_
       obtain ⟨zc8,zBc,h⟩:=z8 h
       refine WC.a ?_
       refine WL.a (d:=84) rfl rfl rfl (q_fieldAddr fo_40_0 rfl rfl) ?_
       refine WL.a (d:=85) rfl rfl rfl (q_load1 oneT_3 rfl (rd_stb .h2 rfl)) ?_
       refine WL.a (d:=86) rfl rfl rfl (q_fieldAddr fo_40_1 rfl rfl) ?_
       refine WL.a (d:=87) rfl rfl rfl (q_load1 oneT_3 rfl (rd_stb .h1 rfl)) ?_
       refine WL.a (d:=88) rfl rfl rfl (q_mul rfl rfl rfl) ?_
       refine WL.a (d:=89) rfl rfl rfl (q_fieldAddr fo_40_1 rfl rfl) ?_
       refine WL.a (d:=90) rfl rfl rfl (q_load1 oneT_3 rfl (rd_stb .h2 rfl)) ?_
       refine WL.a (d:=91) rfl rfl rfl (q_fieldAddr fo_40_0 rfl rfl) ?_
       refine WL.a (d:=92) rfl rfl rfl (q_load1 oneT_3 rfl (rd_stb .h1 rfl)) ?_
       refine WL.a (d:=93) rfl rfl rfl (q_mul rfl rfl rfl) ?_
       refine WL.b (dd:=94) rfl rfl rfl (zi (l:=[.tmp 88,.tmp 93]) Tryz.call61 (.cons rfl (.cons rfl .nil))) (.nil : Sel [stb z3B 40 [(.int .i64 0),(.int .i64 0)],stb z3A 40 [(.int .i64 zL.fN),(.int .i64 zL.fD)],stb z3z 40 [(.int .i64 zM.fN),(.int .i64 zM.fD)]] [] [stb z3B 40 [(.int .i64 0),(.int .i64 0)],stb z3A 40 [(.int .i64 zL.fN),(.int .i64 zL.fD)],stb z3z 40 [(.int .i64 zM.fN),(.int .i64 zM.fD)]]) (fun w hw=>by have pz:=(hz.call hw (.nil : Sel [stb z3B 40 [(.int .i64 0),(.int .i64 0)],stb z3A 40 [(.int .i64 zL.fN),(.int .i64 zL.fD)],stb z3z 40 [(.int .i64 zM.fN),(.int .i64 zM.fD)]] [] [stb z3B 40 [(.int .i64 0),(.int .i64 0)],stb z3A 40 [(.int .i64 zL.fN),(.int .i64 zL.fD)],stb z3z 40 [(.int .i64 zM.fN),(.int .i64 zM.fD)]])); exact w_ref01_Make (Z:=_)  (z4N:=(i64 (zM.fN * zL.fD))) (z54:=(i64 (zM.fD * zL.fN))) (r:=zc8) w pz  zBc) ?_
       refine WL.a (d:=95) rfl rfl rfl (q_extract rfl rfl) ?_
       refine WL.a (d:=96) rfl rfl rfl (q_extract rfl rfl) ?_
       refine WL.eff0 rfl rfl (e_store (vs:=[(.int .i64 zc8.1.fN),(.int .i64 zc8.1.fD)]) (ds:=[(.int .i64 zc8.1.fN),(.int .i64 zc8.1.fD)]) sizT_40 rfl rfl rfl rfl (oc_cons rfl (oc_cons rfl oc_nil)) .here (Nat.le_of_ble_eq_true rfl) rfl) ?_
       refine WL.a (d:=7) rfl rfl rfl (q_z rfl) ?_
       refine WL.nil ?_
       refine WX.a ?_
       refine WC.ret ?_
       obtain rfl:=Option.some.inj h
       refine WX.bpRet Tryz.results43 (.agg rfl aggT_40 rfl (rd_all .here) (.tmp rfl .nil)) (fun w hw=>?_)
       exact ⟨ret2 rfl rfl,hw.sub .nil⟩
def m_ref02_value (z1U : z1) (z3v : z2) : Option (z2 × Int) :=
 (m_ref01_Do 2 z1U.fRate z3v).bind fun z5F=>if decide (z5F.2 ≠ 0) then some ((⟨0,0⟩ : z2),z5F.2) else (m_ref01_Do 0 z1U.fBurst z5F.1).bind fun zc9=>some (zc9.1,zc9.2)
set_option maxRecDepth 20000 in
theorem w_ref02_value (Z : Zp)   (z1U : z1) (z3v : z2) (r : z2 × Int) (w₀ : World) (hz : PZ [] w₀ Z)
  (h : m_ref02_value z1U z3v = some r) :
  Calls Tryz.prog 51 #[(.agg #[(.int .i64 z1U.fBurst.fN),(.int .i64 z1U.fBurst.fD),(.int .i64 z1U.fRate.fN),(.int .i64 z1U.fRate.fD)]),(.agg #[(.int .i64 z3v.fN),(.int .i64 z3v.fD)])] w₀ fun e w'=>e = .returned (.tuple #[(.agg #[(.int .i64 r.1.fN),(.int .i64 r.1.fD)]),(.int .i64 r.2)]) ∧ Hp [] w₀ w' []:=by
 unfold m_ref02_value at h
 refine Calls.ofWC (vs:=[(.agg #[(.int .i64 z1U.fBurst.fN),(.int .i64 z1U.fBurst.fD),(.int .i64 z1U.fRate.fN),(.int .i64 z1U.fRate.fD)]),(.agg #[(.int .i64 z3v.fN),(.int .i64 z3v.fD)])]) (pre:=[]) (env:=[(0,(.agg #[(.int .i64 z1U.fBurst.fN),(.int .i64 z1U.fBurst.fD),(.int .i64 z1U.fRate.fN),(.int .i64 z1U.fRate.fD)])),(1,(.agg #[(.int .i64 z3v.fN),(.int .i64 z3v.fD)]))]) Tryz.func51 rfl Tryz.ntmps51 rfl (Hp.nil w₀ _) rfl ?_
 refine WC.b ?_
 refine WC.a ?_
 refine WL.new (dd:=2) rfl rfl rfl (e_box (cs:=[(.int .i64 z1U.fBurst.fN),(.int .i64 z1U.fBurst.fD),(.int .i64 z1U.fRate.fN),(.int .i64 z1U.fRate.fD)]) rfl rfl) ?_
 intro zca _
 refine WL.new (dd:=3) rfl rfl rfl (e_box (cs:=[(.int .i64 z3v.fN),(.int .i64 z3v.fD)]) rfl rfl) ?_
 intro zcb _
 refine WL.new (dd:=4) rfl rfl rfl (e_alloc (cs:=[(.int .i64 0),(.int .i64 0)]) zeroT_40 rfl) ?_
 intro zcc _
 refine WL.a (d:=5) rfl rfl rfl (q_z rfl) ?_
 refine WL.nil ?_
 refine WX.a ?_
 refine WC.b ?_
 obtain ⟨z5F,zBd,h⟩:=z8 h
 refine WC.a ?_
 refine WL.a (d:=9) rfl rfl rfl (q_fieldAddr fo_54_1 rfl rfl) ?_
 refine WL.a (d:=10) rfl rfl rfl (q_loadA (cs:=[(.int .i64 z1U.fRate.fN),(.int .i64 z1U.fRate.fD)]) aggT_40 rfl rfl (rd_sub (s:=2) .h2 rfl)) ?_
 refine WL.a (d:=11) rfl rfl rfl (q_loadA (cs:=[(.int .i64 z3v.fN),(.int .i64 z3v.fD)]) aggT_40 rfl rfl (rd_all .h1)) ?_
 refine WL.b (dd:=12) rfl rfl rfl (zi (l:=[.const (.int .i64 2),.tmp 10,.tmp 11]) Tryz.call43 (.cons rfl (.cons rfl (.cons rfl .nil)))) (.nil : Sel [stb zcc 40 [(.int .i64 0),(.int .i64 0)],stb zcb 40 [(.int .i64 z3v.fN),(.int .i64 z3v.fD)],stb zca 54 [(.int .i64 z1U.fBurst.fN),(.int .i64 z1U.fBurst.fD),(.int .i64 z1U.fRate.fN),(.int .i64 z1U.fRate.fD)]] [] [stb zcc 40 [(.int .i64 0),(.int .i64 0)],stb zcb 40 [(.int .i64 z3v.fN),(.int .i64 z3v.fD)],stb zca 54 [(.int .i64 z1U.fBurst.fN),(.int .i64 z1U.fBurst.fD),(.int .i64 z1U.fRate.fN),(.int .i64 z1U.fRate.fD)]]) (fun w hw=>by have pz:=(hz.call hw (.nil : Sel [stb zcc 40 [(.int .i64 0),(.int .i64 0)],stb zcb 40 [(.int .i64 z3v.fN),(.int .i64 z3v.fD)],stb zca 54 [(.int .i64 z1U.fBurst.fN),(.int .i64 z1U.fBurst.fD),(.int .i64 z1U.fRate.fN),(.int .i64 z1U.fRate.fD)]] [] [stb zcc 40 [(.int .i64 0),(.int .i64 0)],stb zcb 40 [(.int .i64 z3v.fN),(.int .i64 z3v.fD)],stb zca 54 [(.int .i64 z1U.fBurst.fN),(.int .i64 z1U.fBurst.fD),(.int .i64 z1U.fRate.fN),(.int .i64 z1U.fRate.fD)]])); exact w_ref01_Do (Z:=_)  (z6P:=2) (zM:=z1U.fRate) (zL:=z3v) (r:=z5F) w pz  zBd) ?_
 refine WL.a (d:=8) rfl rfl rfl (q_m rfl) ?_
 refine WL.a (d:=13) rfl rfl rfl (q_extract rfl rfl) ?_
 refine WL.a (d:=14) rfl rfl rfl (q_extract rfl rfl) ?_
 refine WL.new (dd:=6) rfl rfl rfl (e_alloc (cs:=[(.int .i64 0),(.int .i64 0)]) zeroT_40 rfl) ?_
 intro zj1 _
 refine WL.eff0 rfl rfl (e_store (vs:=[(.int .i64 z5F.1.fN),(.int .i64 z5F.1.fD)]) (ds:=[(.int .i64 z5F.1.fN),(.int .i64 z5F.1.fD)]) sizT_40 rfl rfl rfl rfl (oc_cons rfl (oc_cons rfl oc_nil)) .here (Nat.le_of_ble_eq_true rfl) rfl) ?_
 refine WL.a (d:=7) rfl rfl rfl (q_z rfl) ?_
 refine WL.nil ?_
 refine WX.a ?_
 refine WC.b ?_
 refine WC.b ?_
 refine WC.a ?_
 refine WL.a (d:=15) rfl rfl rfl (q_m rfl) ?_
 refine WL.a (d:=16) rfl rfl rfl (q_neq rfl rfl) ?_
 refine WL.nil ?_
 refine WX.a ?_
 refine WC.cond rfl (fun zoh=>?_) (fun zoh=>?_)
 ·replace h:=ite_t h zoh
  refine WC.b ?_
  refine WC.a ?_
  refine WL.a (d:=17) rfl rfl rfl (q_build (v:=(.agg #[(.int .i64 0),(.int .i64 0)])) (Eos.parts (l:=[]) .nil []) (fun _=>by kernel_rfl)) ?_
  refine WL.a (d:=18) rfl rfl rfl (q_m rfl) ?_
  refine WL.eff0 rfl rfl (e_store (vs:=[(.int .i64 0),(.int .i64 0)]) (ds:=[(.int .i64 0),(.int .i64 0)]) sizT_40 rfl rfl rfl rfl (oc_cons rfl (oc_cons rfl oc_nil)) .h1 (Nat.le_of_ble_eq_true rfl) rfl) ?_
  refine WL.a (d:=5) rfl rfl rfl (q_z rfl) ?_
  refine WL.nil ?_
  refine WX.a ?_
  refine WC.ret ?_
  refine WX.thenRet ?_
  obtain rfl:=Option.some.inj h
  refine WX.bpRet Tryz.results51 (.agg rfl aggT_40 rfl (rd_all .here) (.tmp rfl .nil)) (fun w hw=>?_)
  exact ⟨ret2 rfl rfl,hw.sub .nil⟩
 ·replace h:=ite_f h zoh
  refine WC.skip ?_
  refine WX.a ?_
  refine WC.b ?_
  obtain ⟨zc9,zBe,h⟩:=z8 h
  refine WC.a ?_
  refine WL.a (d:=19) rfl rfl rfl (q_fieldAddr fo_54_0 rfl rfl) ?_
  refine WL.a (d:=20) rfl rfl rfl (q_loadA (cs:=[(.int .i64 z1U.fBurst.fN),(.int .i64 z1U.fBurst.fD)]) aggT_40 rfl rfl (rd_sub (s:=2) .h3 rfl)) ?_
  refine WL.a (d:=21) rfl rfl rfl (q_loadA (cs:=[(.int .i64 z5F.1.fN),(.int .i64 z5F.1.fD)]) aggT_40 rfl rfl (rd_all .here)) ?_
  refine WL.b (dd:=22) rfl rfl rfl (zi (l:=[.const (.int .i64 0),.tmp 20,.tmp 21]) Tryz.call43 (.cons rfl (.cons rfl (.cons rfl .nil)))) (.nil : Sel [stb zj1 40 [(.int .i64 z5F.1.fN),(.int .i64 z5F.1.fD)],stb zcc 40 [(.int .i64 0),(.int .i64 0)],stb zcb 40 [(.int .i64 z3v.fN),(.int .i64 z3v.fD)],stb zca 54 [(.int .i64 z1U.fBurst.fN),(.int .i64 z1U.fBurst.fD),(.int .i64 z1U.fRate.fN),(.int .i64 z1U.fRate.fD)]] [] [stb zj1 40 [(.int .i64 z5F.1.fN),(.int .i64 z5F.1.fD)],stb zcc 40 [(.int .i64 0),(.int .i64 0)],stb zcb 40 [(.int .i64 z3v.fN),(.int .i64 z3v.fD)],stb zca 54 [(.int .i64 z1U.fBurst.fN),(.int .i64 z1U.fBurst.fD),(.int .i64 z1U.fRate.fN),(.int .i64 z1U.fRate.fD)]]) (fun w hw=>by have pz:=(hz.call hw (.nil : Sel [stb zj1 40 [(.int .i64 z5F.1.fN),(.int .i64 z5F.1.fD)],stb zcc 40 [(.int .i64 0),(.int .i64 0)],stb zcb 40 [(.int .i64 z3v.fN),(.int .i64 z3v.fD)],stb zca 54 [(.int .i64 z1U.fBurst.fN),(.int .i64 z1U.fBurst.fD),(.int .i64 z1U.fRate.fN),(.int .i64 z1U.fRate.fD)]] [] [stb zj1 40 [(.int .i64 z5F.1.fN),(.int .i64 z5F.1.fD)],stb zcc 40 [(.int .i64 0),(.int .i64 0)],stb zcb 40 [(.int .i64 z3v.fN),(.int .i64 z3v.fD)],stb zca 54 [(.int .i64 z1U.fBurst.fN),(.int .i64 z1U.fBurst.fD),(.int .i64 z1U.fRate.fN),(.int .i64 z1U.fRate.fD)]])); exact w_ref01_Do (Z:=_)  (z6P:=0) (zM:=z1U.fBurst) (zL:=z5F.1) (r:=zc9) w pz  zBe) ?_
  refine WL.a (d:=23) rfl rfl rfl (q_extract rfl rfl) ?_
  refine WL.a (d:=24) rfl rfl rfl (q_extract rfl rfl) ?_
  refine WL.eff0 rfl rfl (e_store (vs:=[(.int .i64 zc9.1.fN),(.int .i64 zc9.1.fD)]) (ds:=[(.int .i64 zc9.1.fN),(.int .i64 zc9.1.fD)]) sizT_40 rfl rfl rfl rfl (oc_cons rfl (oc_cons rfl oc_nil)) .h1 (Nat.le_of_ble_eq_true rfl) rfl) ?_
  refine WL.a (d:=5) rfl rfl rfl (q_z rfl) ?_
  refine WL.nil ?_
  refine WX.a ?_
  refine WC.ret ?_
  obtain rfl:=Option.some.inj h
  refine WX.bpRet Tryz.results51 (.agg rfl aggT_40 rfl (rd_all .here) (.tmp rfl .nil)) (fun w hw=>?_)
  exact ⟨ret2 rfl rfl,hw.sub .nil⟩
def m_ref01_Cmp (z2w : z2) (z2x : z2) : Option Int :=
 (m_ref01_Valid z2w).bind fun zj2=>(if !zj2 then some true else (m_ref01_Valid z2x).bind fun zoi=>some (!zoi)).bind fun zgO=>if zgO || (decide ((i64 (z2w.fN * z2x.fD)) = (i64 (z2x.fN * z2w.fD)))) then some 0 else if decide ((i64 (z2w.fN * z2x.fD)) < (i64 (z2x.fN * z2w.fD))) then some (-1) else some 1
set_option maxRecDepth 20000 in
theorem w_ref01_Cmp (Z : Zp)   (z2w : z2) (z2x : z2) (r : Int) (w₀ : World) (hz : PZ [] w₀ Z)
  (h : m_ref01_Cmp z2w z2x = some r) :
  Calls Tryz.prog 28 #[(.agg #[(.int .i64 z2w.fN),(.int .i64 z2w.fD)]),(.agg #[(.int .i64 z2x.fN),(.int .i64 z2x.fD)])] w₀ fun e w'=>e = .returned (.int .i64 r) ∧ Hp [] w₀ w' []:=by
 unfold m_ref01_Cmp at h
 refine Calls.ofWC (vs:=[(.agg #[(.int .i64 z2w.fN),(.int .i64 z2w.fD)]),(.agg #[(.int .i64 z2x.fN),(.int .i64 z2x.fD)])]) (pre:=[]) (env:=[(0,(.agg #[(.int .i64 z2w.fN),(.int .i64 z2w.fD)])),(1,(.agg #[(.int .i64 z2x.fN),(.int .i64 z2x.fD)]))]) Tryz.func28 rfl Tryz.ntmps28 rfl (Hp.nil w₀ _) rfl ?_
 refine WC.b ?_
 refine WC.a ?_
 refine WL.new (dd:=2) rfl rfl rfl (e_box (cs:=[(.int .i64 z2w.fN),(.int .i64 z2w.fD)]) rfl rfl) ?_
 intro z8K _
 refine WL.new (dd:=3) rfl rfl rfl (e_box (cs:=[(.int .i64 z2x.fN),(.int .i64 z2x.fD)]) rfl rfl) ?_
 intro z8L _
 refine WL.a (d:=4) rfl rfl rfl (q_z rfl) ?_
 refine WL.nil ?_
 refine WX.a ?_
 refine WC.b ?_
 refine WC.b ?_
 obtain ⟨zj2,zBf,h⟩:=z8 h
 obtain ⟨zgO,zsR,h⟩:=z8 h
 refine WC.a ?_
 refine WL.a (d:=5) rfl rfl rfl (q_loadA (cs:=[(.int .i64 z2w.fN),(.int .i64 z2w.fD)]) aggT_40 rfl rfl (rd_all .h1)) ?_
 refine WL.b (dd:=6) rfl rfl rfl (zi (l:=[.tmp 5]) Tryz.call45 (.cons rfl .nil)) (.nil : Sel [stb z8L 40 [(.int .i64 z2x.fN),(.int .i64 z2x.fD)],stb z8K 40 [(.int .i64 z2w.fN),(.int .i64 z2w.fD)]] [] [stb z8L 40 [(.int .i64 z2x.fN),(.int .i64 z2x.fD)],stb z8K 40 [(.int .i64 z2w.fN),(.int .i64 z2w.fD)]]) (fun w hw=>by have pz:=(hz.call hw (.nil : Sel [stb z8L 40 [(.int .i64 z2x.fN),(.int .i64 z2x.fD)],stb z8K 40 [(.int .i64 z2w.fN),(.int .i64 z2w.fD)]] [] [stb z8L 40 [(.int .i64 z2x.fN),(.int .i64 z2x.fD)],stb z8K 40 [(.int .i64 z2w.fN),(.int .i64 z2w.fD)]])); exact w_ref01_Valid (Z:=_)  (z1T:=z2w) (r:=zj2) w pz  zBf) ?_
 refine WL.a (d:=7) rfl rfl rfl (q_not rfl) ?_
 refine WL.a (d:=8) rfl rfl rfl (q_m rfl) ?_
 refine WL.cut0 True [(2,(.pointer (some ⟨z8K,0,none⟩))),(3,(.pointer (some ⟨z8L,0,none⟩))),(12,(.bool zgO))] [stb z8L 40 [(.int .i64 z2x.fN),(.int .i64 z2x.fD)],stb z8K 40 [(.int .i64 z2w.fN),(.int .i64 z2w.fD)]] 4 ?_ (fun _=>?_)
 ·rcases Bool.eq_false_or_eq_true (!zj2) with hb' | hb'
  ·have zsS:=hb'; clear hb'
   have zoj:=ite_t zsR zsS
   replace zoj:=Option.some.inj zoj
   refine WL.pin (i:=8) rfl zsS ?_
   refine WL.e rfl rfl rfl ?_
   refine WL.e rfl rfl rfl ?_
   refine WL.e rfl rfl rfl ?_
   refine WL.a (d:=12) rfl rfl rfl (q_pickT rfl rfl) ?_
   exact WL.cutEnd () trivial (.cons rfl (.cons rfl (.cons (zf zoj) .nil))) (.cons .here (.cons .here .nil))
  ·have zsT:=hb'; clear hb'
   have zgP:=ite_f zsR zsT
   obtain ⟨zoi,zBg,zgP⟩:=z8 zgP
   replace zgP:=Option.some.inj zgP
   refine WL.pin (i:=8) rfl zsT ?_
   refine WL.a (d:=9) rfl rfl rfl (q_loadA (cs:=[(.int .i64 z2x.fN),(.int .i64 z2x.fD)]) aggT_40 rfl rfl (rd_all .here)) ?_
   refine WL.b (dd:=10) rfl rfl rfl (zi (l:=[.tmp 9]) Tryz.call45 (.cons rfl .nil)) (.nil : Sel [stb z8L 40 [(.int .i64 z2x.fN),(.int .i64 z2x.fD)],stb z8K 40 [(.int .i64 z2w.fN),(.int .i64 z2w.fD)]] [] [stb z8L 40 [(.int .i64 z2x.fN),(.int .i64 z2x.fD)],stb z8K 40 [(.int .i64 z2w.fN),(.int .i64 z2w.fD)]]) (fun w hw=>by have pz:=(hz.call hw (.nil : Sel [stb z8L 40 [(.int .i64 z2x.fN),(.int .i64 z2x.fD)],stb z8K 40 [(.int .i64 z2w.fN),(.int .i64 z2w.fD)]] [] [stb z8L 40 [(.int .i64 z2x.fN),(.int .i64 z2x.fD)],stb z8K 40 [(.int .i64 z2w.fN),(.int .i64 z2w.fD)]])); exact w_ref01_Valid (Z:=_)  (z1T:=z2x) (r:=zoi) w pz  zBg) ?_
   refine WL.a (d:=11) rfl rfl rfl (q_not rfl) ?_
   refine WL.a (d:=12) rfl rfl rfl (q_pickF rfl rfl) ?_
   exact WL.cutEnd () trivial (.cons rfl (.cons rfl (.cons (zf zgP) .nil))) (.cons .here (.cons .here .nil))
 ·skip
  refine WL.a (d:=13) rfl rfl rfl (q_m rfl) ?_
  refine WL.cut0 True [(2,(.pointer (some ⟨z8K,0,none⟩))),(3,(.pointer (some ⟨z8L,0,none⟩))),(25,(.bool (zgO || (decide ((i64 (z2w.fN * z2x.fD)) = (i64 (z2x.fN * z2w.fD)))))))] [stb z8L 40 [(.int .i64 z2x.fN),(.int .i64 z2x.fD)],stb z8K 40 [(.int .i64 z2w.fN),(.int .i64 z2w.fD)]] 12 ?_ (fun _=>?_)
  ·rcases Bool.eq_false_or_eq_true zgO with hb' | hb'
   ·have zsU:=hb'; clear hb'
    refine WL.pin (i:=13) rfl zsU ?_
    refine WL.e rfl rfl rfl ?_
    refine WL.e rfl rfl rfl ?_
    refine WL.e rfl rfl rfl ?_
    refine WL.e rfl rfl rfl ?_
    refine WL.e rfl rfl rfl ?_
    refine WL.e rfl rfl rfl ?_
    refine WL.e rfl rfl rfl ?_
    refine WL.e rfl rfl rfl ?_
    refine WL.e rfl rfl rfl ?_
    refine WL.e rfl rfl rfl ?_
    refine WL.e rfl rfl rfl ?_
    refine WL.a (d:=25) rfl rfl rfl (q_pickT rfl rfl) ?_
    exact WL.cutEnd () trivial (.cons rfl (.cons rfl (.cons (zf (or_l zsU)) .nil))) (.cons .here (.cons .here .nil))
   ·have zsV:=hb'; clear hb'
    refine WL.pin (i:=13) rfl zsV ?_
    refine WL.a (d:=14) rfl rfl rfl (q_fieldAddr fo_40_0 rfl rfl) ?_
    refine WL.a (d:=15) rfl rfl rfl (q_load1 oneT_3 rfl (rd_stb .h1 rfl)) ?_
    refine WL.a (d:=16) rfl rfl rfl (q_fieldAddr fo_40_1 rfl rfl) ?_
    refine WL.a (d:=17) rfl rfl rfl (q_load1 oneT_3 rfl (rd_stb .here rfl)) ?_
    refine WL.a (d:=18) rfl rfl rfl (q_mul rfl rfl rfl) ?_
    refine WL.a (d:=19) rfl rfl rfl (q_fieldAddr fo_40_0 rfl rfl) ?_
    refine WL.a (d:=20) rfl rfl rfl (q_load1 oneT_3 rfl (rd_stb .here rfl)) ?_
    refine WL.a (d:=21) rfl rfl rfl (q_fieldAddr fo_40_1 rfl rfl) ?_
    refine WL.a (d:=22) rfl rfl rfl (q_load1 oneT_3 rfl (rd_stb .h1 rfl)) ?_
    refine WL.a (d:=23) rfl rfl rfl (q_mul rfl rfl rfl) ?_
    refine WL.a (d:=24) rfl rfl rfl (q_eql rfl rfl) ?_
    refine WL.a (d:=25) rfl rfl rfl (q_pickF rfl rfl) ?_
    exact WL.cutEnd () trivial (.cons rfl (.cons rfl (.cons (zf (or_r zsV)) .nil))) (.cons .here (.cons .here .nil))
  ·skip
   refine WL.nil ?_
   refine WX.a ?_
   refine WC.cond rfl (fun zol=>?_) (fun zol=>?_)
   ·replace h:=ite_t h zol
    refine WC.b ?_
    refine WC.a ?_
    refine WL.a (d:=4) rfl rfl rfl (q_z rfl) ?_
    refine WL.nil ?_
    refine WX.a ?_
    refine WC.ret ?_
    refine WX.thenRet ?_
    obtain rfl:=Option.some.inj h
    refine WX.bpRet Tryz.results28 (.tmp rfl .nil) (fun w hw=>?_)
    exact ⟨ret1 rfl,hw.sub .nil⟩
   ·replace h:=ite_f h zol
    refine WC.skip ?_
    refine WX.a ?_
    refine WC.b ?_
    refine WC.b ?_
    refine WC.a ?_
    refine WL.a (d:=26) rfl rfl rfl (q_fieldAddr fo_40_0 rfl rfl) ?_
    refine WL.a (d:=27) rfl rfl rfl (q_load1 oneT_3 rfl (rd_stb .h1 rfl)) ?_
    refine WL.a (d:=28) rfl rfl rfl (q_fieldAddr fo_40_1 rfl rfl) ?_
    refine WL.a (d:=29) rfl rfl rfl (q_load1 oneT_3 rfl (rd_stb .here rfl)) ?_
    refine WL.a (d:=30) rfl rfl rfl (q_mul rfl rfl rfl) ?_
    refine WL.a (d:=31) rfl rfl rfl (q_fieldAddr fo_40_0 rfl rfl) ?_
    refine WL.a (d:=32) rfl rfl rfl (q_load1 oneT_3 rfl (rd_stb .here rfl)) ?_
    refine WL.a (d:=33) rfl rfl rfl (q_fieldAddr fo_40_1 rfl rfl) ?_
    refine WL.a (d:=34) rfl rfl rfl (q_load1 oneT_3 rfl (rd_stb .h1 rfl)) ?_
    refine WL.a (d:=35) rfl rfl rfl (q_mul rfl rfl rfl) ?_
    refine WL.a (d:=36) rfl rfl rfl (q_lss rfl rfl) ?_
    refine WL.nil ?_
    refine WX.a ?_
    refine WC.cond rfl (fun zom=>?_) (fun zom=>?_)
    ·replace h:=ite_t h zom
     refine WC.b ?_
     refine WC.a ?_
     refine WL.a (d:=4) rfl rfl rfl (q_z rfl) ?_
     refine WL.nil ?_
     refine WX.a ?_
     refine WC.ret ?_
     refine WX.thenRet ?_
     obtain rfl:=Option.some.inj h
     refine WX.bpRet Tryz.results28 (.tmp rfl .nil) (fun w hw=>?_)
     exact ⟨ret1 rfl,hw.sub .nil⟩
    ·replace h:=ite_f h zom
     refine WC.skip ?_
     refine WX.a ?_
     refine WC.b ?_
     refine WC.a ?_
     refine WL.a (d:=4) rfl rfl rfl (q_z rfl) ?_
     refine WL.nil ?_
     refine WX.a ?_
     refine WC.ret ?_
     obtain rfl:=Option.some.inj h
     refine WX.bpRet Tryz.results28 (.tmp rfl .nil) (fun w hw=>?_)
     exact ⟨ret1 rfl,hw.sub .nil⟩
def m_ref02_At_L2 (z3f : List z1) (z1S : z2) (zb5 : Int → Int → Option (z2 × Int)) : Nat → Int → Int → Int → Option (z2 × Int)
 | 0,_,_,_=>none
 | zon + 1,z3C,z56,z57=>if decide (z3C < ((z3f.length : Nat) : Int)) then jp2 (fun (zb6 : Int) (zb7 : Int)=>m_ref02_At_L2 z3f z1S zb5 zon (i64 (z3C + 1)) zb6 zb7) fun zj3=>chk ((0 : Int) ≤ z3C ∧ z3C < ((z3f.length : Nat) : Int)) ((m_ref02_value (⟨(⟨(((nth z3f z3C).fBurst).fN),(((nth z3f z3C).fBurst).fD)⟩ : z2),(⟨(((nth z3f z3C).fRate).fN),(((nth z3f z3C).fRate).fD)⟩ : z2)⟩ : z1) z1S).bind fun z3m=>if decide (z3m.2 ≠ 0) then some ((⟨0,0⟩ : z2),z3m.2) else (if decide (z3C = 0) then some true else (m_ref01_Cmp z3m.1 (⟨z56,z57⟩ : z2)).bind fun zoo=>some (decide (zoo < 0))).bind fun zop=>if zop then zj3 z3m.1.fN z3m.1.fD else zj3 z56 z57) else zb5 z56 z57
theorem m_ref02_At_L2_fuel {n : Nat} {z3f : List z1} {z1S : z2} {zb5 : Int → Int → Option (z2 × Int)} {z3C : Int} {z56 : Int} {z57 : Int} {r : z2 × Int} (h : m_ref02_At_L2 z3f z1S zb5 n z3C z56 z57 = some r) : ∃ m,n = m + 1:=by
 cases n with
 | zero=>cases h
 | succ m=>exact ⟨m,rfl⟩
def m_ref02_At (z3f : List z1) (z1S : z2) : Option (z2 × Int) :=
 (m_ref02_Valid z3f).bind fun zj4=>(if !zj4 then some true else (m_ref02_Good z1S).bind fun zoq=>some (!zoq)).bind fun zor=>if zor then some ((⟨0,0⟩ : z2),2) else jp2 (fun (z9f : Int) (z9g : Int)=>some ((⟨z9f,z9g⟩ : z2),0)) fun zb5=>m_ref02_At_L2 z3f z1S zb5 FUEL 0 0 0
set_option maxRecDepth 20000 in
theorem w_ref02_At (Z : Zp)  (z9Q : Option Addr) (z9R : Nat) (z3f : List z1) (z1S : z2) (r : z2 × Int) (w₀ : World) (hz : PZ [] w₀ Z)
  (zsW : ZS Z 4 (fun r x=>r = e54 x) z9Q z9R z3f)
  (h : m_ref02_At z3f z1S = some r) :
  Calls Tryz.prog 27 #[(.slice z9Q z3f.length z9R),(.agg #[(.int .i64 z1S.fN),(.int .i64 z1S.fD)])] w₀ fun e w'=>e = .returned (.tuple #[(.agg #[(.int .i64 r.1.fN),(.int .i64 r.1.fD)]),(.int .i64 r.2)]) ∧ Hp [] w₀ w' []:=by
 unfold m_ref02_At at h
 refine Calls.ofWC (vs:=[(.slice z9Q z3f.length z9R),(.agg #[(.int .i64 z1S.fN),(.int .i64 z1S.fD)])]) (pre:=[]) (env:=[(0,(.slice z9Q z3f.length z9R)),(1,(.agg #[(.int .i64 z1S.fN),(.int .i64 z1S.fD)]))]) Tryz.func27 rfl Tryz.ntmps27 rfl (Hp.nil w₀ _) rfl ?_
 refine WC.b ?_
 refine WC.a ?_
 refine WL.new (dd:=3) rfl rfl rfl (e_box (cs:=[(.int .i64 z1S.fN),(.int .i64 z1S.fD)]) rfl rfl) ?_
 intro z5p _
 refine WL.new (dd:=4) rfl rfl rfl (e_alloc (cs:=[(.int .i64 0),(.int .i64 0)]) zeroT_40 rfl) ?_
 intro z4P _
 refine WL.a (d:=5) rfl rfl rfl (q_z rfl) ?_
 refine WL.nil ?_
 refine WX.a ?_
 refine WC.b ?_
 refine WC.b ?_
 obtain ⟨zj4,zBh,h⟩:=z8 h
 obtain ⟨zor,zsX,h⟩:=z8 h
 refine WC.a ?_
 refine WL.a (d:=10) rfl rfl rfl (q_m rfl) ?_
 refine WL.b (dd:=11) rfl rfl rfl (zi (l:=[.tmp 10]) Tryz.call25 (.cons rfl .nil)) (.nil : Sel [stb z4P 40 [(.int .i64 0),(.int .i64 0)],stb z5p 40 [(.int .i64 z1S.fN),(.int .i64 z1S.fD)]] [] [stb z4P 40 [(.int .i64 0),(.int .i64 0)],stb z5p 40 [(.int .i64 z1S.fN),(.int .i64 z1S.fD)]]) (fun w hw=>by have pz:=(hz.call hw (.nil : Sel [stb z4P 40 [(.int .i64 0),(.int .i64 0)],stb z5p 40 [(.int .i64 z1S.fN),(.int .i64 z1S.fD)]] [] [stb z4P 40 [(.int .i64 0),(.int .i64 0)],stb z5p 40 [(.int .i64 z1S.fN),(.int .i64 z1S.fD)]])); exact w_ref02_Valid (Z:=_) (zb2:=z9Q) (zb3:=z9R) (z31:=z3f) (r:=zj4) w pz zsW zBh) ?_
 refine WL.a (d:=12) rfl rfl rfl (q_not rfl) ?_
 refine WL.a (d:=13) rfl rfl rfl (q_m rfl) ?_
 refine WL.cut0 True [(0,(.slice z9Q z3f.length z9R)),(3,(.pointer (some ⟨z5p,0,none⟩))),(4,(.pointer (some ⟨z4P,0,none⟩))),(17,(.bool zor))] [stb z4P 40 [(.int .i64 0),(.int .i64 0)],stb z5p 40 [(.int .i64 z1S.fN),(.int .i64 z1S.fD)]] 4 ?_ (fun _=>?_)
 ·rcases Bool.eq_false_or_eq_true (!zj4) with hb' | hb'
  ·have zsY:=hb'; clear hb'
   have zos:=ite_t zsX zsY
   replace zos:=Option.some.inj zos
   refine WL.pin (i:=13) rfl zsY ?_
   refine WL.e rfl rfl rfl ?_
   refine WL.e rfl rfl rfl ?_
   refine WL.e rfl rfl rfl ?_
   refine WL.a (d:=17) rfl rfl rfl (q_pickT rfl rfl) ?_
   exact WL.cutEnd () trivial (.cons rfl (.cons rfl (.cons rfl (.cons (zf zos) .nil)))) (.cons .here (.cons .here .nil))
  ·have zsZ:=hb'; clear hb'
   have zgQ:=ite_f zsX zsZ
   obtain ⟨zoq,zBi,zgQ⟩:=z8 zgQ
   replace zgQ:=Option.some.inj zgQ
   refine WL.pin (i:=13) rfl zsZ ?_
   refine WL.a (d:=14) rfl rfl rfl (q_loadA (cs:=[(.int .i64 z1S.fN),(.int .i64 z1S.fD)]) aggT_40 rfl rfl (rd_all .h1)) ?_
   refine WL.b (dd:=15) rfl rfl rfl (zi (l:=[.tmp 14]) Tryz.call46 (.cons rfl .nil)) (.nil : Sel [stb z4P 40 [(.int .i64 0),(.int .i64 0)],stb z5p 40 [(.int .i64 z1S.fN),(.int .i64 z1S.fD)]] [] [stb z4P 40 [(.int .i64 0),(.int .i64 0)],stb z5p 40 [(.int .i64 z1S.fN),(.int .i64 z1S.fD)]]) (fun w hw=>by have pz:=(hz.call hw (.nil : Sel [stb z4P 40 [(.int .i64 0),(.int .i64 0)],stb z5p 40 [(.int .i64 z1S.fN),(.int .i64 z1S.fD)]] [] [stb z4P 40 [(.int .i64 0),(.int .i64 0)],stb z5p 40 [(.int .i64 z1S.fN),(.int .i64 z1S.fD)]])); exact w_ref02_Good (Z:=_)  (z3M:=z1S) (r:=zoq) w pz  zBi) ?_
   refine WL.a (d:=16) rfl rfl rfl (q_not rfl) ?_
   refine WL.a (d:=17) rfl rfl rfl (q_pickF rfl rfl) ?_
   exact WL.cutEnd () trivial (.cons rfl (.cons rfl (.cons rfl (.cons (zf zgQ) .nil)))) (.cons .here (.cons .here .nil))
 ·skip
  refine WL.nil ?_
  refine WX.a ?_
  refine WC.cond rfl (fun zot=>?_) (fun zot=>?_)
  ·replace h:=ite_t h zot
   refine WC.b ?_
   refine WC.a ?_
   refine WL.a (d:=18) rfl rfl rfl (q_build (v:=(.agg #[(.int .i64 0),(.int .i64 0)])) (Eos.parts (l:=[]) .nil []) (fun _=>by kernel_rfl)) ?_
   refine WL.eff0 rfl rfl (e_store (vs:=[(.int .i64 0),(.int .i64 0)]) (ds:=[(.int .i64 0),(.int .i64 0)]) sizT_40 rfl rfl rfl rfl (oc_cons rfl (oc_cons rfl oc_nil)) .here (Nat.le_of_ble_eq_true rfl) rfl) ?_
   refine WL.a (d:=5) rfl rfl rfl (q_z rfl) ?_
   refine WL.nil ?_
   refine WX.a ?_
   refine WC.ret ?_
   refine WX.thenRet ?_
   obtain rfl:=Option.some.inj h
   refine WX.bpRet Tryz.results27 (.agg rfl aggT_40 rfl (rd_all .here) (.tmp rfl .nil)) (fun w hw=>?_)
   exact ⟨ret2 rfl rfl,hw.sub .nil⟩
  ·replace h:=ite_f h zot
   refine WC.skip ?_
   refine WX.a ?_
   refine WC.b ?_
   refine WC.a ?_
   refine WL.new (dd:=6) rfl rfl rfl (e_alloc (cs:=[(.int .i64 0),(.int .i64 0)]) zeroT_40 rfl) ?_
   intro z7N _
   refine WL.nil ?_
   refine WX.a ?_
   obtain ⟨zb5,zBj,h⟩:=jp2_elim h
   refine WC.seqMid2 (fun (z9f : Int) (z9g : Int)=>(zb5 z9f z9g = some r)) (fun (z9f : Int) (z9g : Int)=>[(4,(.pointer (some ⟨z4P,0,none⟩))),(6,(.pointer (some ⟨z7N,0,none⟩)))]) (fun (z9f : Int) (z9g : Int)=>[stb z4P 40 [(.int .i64 0),(.int .i64 0)],stb z7N 40 [(.int .i64 z9f),(.int .i64 z9g)]]) ?_ ?_
   ·skip
    refine WC.b ?_
    refine WC.a ?_
    refine WL.a (d:=7) rfl rfl rfl (q_z rfl) ?_
    refine WL.nil ?_
    refine WX.a ?_
    refine WC.block ?_
    refine WC.loop4 (fun (zeY : Nat) (z3C : Int) (z56 : Int) (z57 : Int)=>(m_ref02_At_L2 z3f z1S zb5 zeY z3C z56 z57 = some r)) (fun (zeY : Nat) (z3C : Int) (z56 : Int) (z57 : Int)=>[(0,(.slice z9Q z3f.length z9R)),(3,(.pointer (some ⟨z5p,0,none⟩))),(4,(.pointer (some ⟨z4P,0,none⟩))),(6,(.pointer (some ⟨z7N,0,none⟩))),(7,(.int .i64 z3C))]) (fun (zeY : Nat) (z3C : Int) (z56 : Int) (z57 : Int)=>[stb z5p 40 [(.int .i64 z1S.fN),(.int .i64 z1S.fD)],stb z4P 40 [(.int .i64 0),(.int .i64 0)],stb z7N 40 [(.int .i64 z56),(.int .i64 z57)]]) (fun (zeY : Nat) (z3C : Int) (z56 : Int) (z57 : Int)=>zeY) ⟨FUEL,0,0,0⟩ h (.cons rfl (.cons rfl (.cons rfl (.cons rfl (.cons rfl .nil))))) (.cons .h2 (.cons .h1 (.cons .here .nil))) ?_
    rintro zeY z3C z56 z57 h
    obtain ⟨zon,rfl⟩:=m_ref02_At_L2_fuel h
    rw [m_ref02_At_L2] at h
    refine WC.b ?_
    refine WC.b ?_
    refine WC.a ?_
    refine WL.a (d:=19) rfl rfl rfl (q_m rfl) ?_
    refine WL.a (d:=20) rfl rfl rfl (q_m rfl) ?_
    refine WL.a (d:=21) rfl rfl rfl (q_len Tryz.underlying23 rfl) ?_
    refine WL.a (d:=22) rfl rfl rfl (q_lss rfl rfl) ?_
    refine WL.nil ?_
    refine WX.a ?_
    refine WC.cond rfl (fun zou=>?_) (fun zou=>?_)
    ·replace h:=ite_t h zou
     refine WC.skip ?_
     refine WX.a ?_
     obtain ⟨zj3,zBk,h⟩:=jp2_elim h
     refine WC.seqMid2 (fun (zb6 : Int) (zb7 : Int)=>(zj3 zb6 zb7 = some r)) (fun (zb6 : Int) (zb7 : Int)=>[(0,(.slice z9Q z3f.length z9R)),(3,(.pointer (some ⟨z5p,0,none⟩))),(4,(.pointer (some ⟨z4P,0,none⟩))),(6,(.pointer (some ⟨z7N,0,none⟩))),(7,(.int .i64 z3C))]) (fun (zb6 : Int) (zb7 : Int)=>[stb z5p 40 [(.int .i64 z1S.fN),(.int .i64 z1S.fD)],stb z4P 40 [(.int .i64 0),(.int .i64 0)],stb z7N 40 [(.int .i64 zb6),(.int .i64 zb7)]]) ?_ ?_
     ·skip
      refine WC.block ?_
      refine WC.b ?_
      obtain ⟨zBl,h⟩:=chk_elim h
      obtain ⟨z3m,zBm,h⟩:=z8 h
      refine WC.draw (fun i=>[10].contains i) [] rfl ?_
      refine WD.a (i:=0) (d:=26) (by kernel_rfl) rfl (z6 (by kernel_rfl)) (z7 (by kernel_rfl)) rfl rfl rfl (fun _=>q_m rfl) ?_
      refine WD.a (i:=1) (d:=27) (by kernel_rfl) rfl (z6 (by kernel_rfl)) (z7 (by kernel_rfl)) rfl rfl rfl (fun _=>q_m rfl) ?_
      refine WD.znth (j:=2) (dd:=28) (by kernel_rfl) rfl (z6 (by kernel_rfl)) (z7 (by kernel_rfl)) rfl rfl (Z:=Z) (Pr:=(fun r x=>r = e54 x)) elT_23 rfl rfl zsW zBl ?_
      rintro zED zEE zBn zEF rfl
      refine WD.e (i:=3) (d:=29) (by kernel_rfl) rfl (z6 (by kernel_rfl)) (z7 (by kernel_rfl)) rfl rfl rfl (q_loadA (cs:=[(.int .i64 (((nth z3f z3C).fBurst).fN)),(.int .i64 (((nth z3f z3C).fBurst).fD)),(.int .i64 (((nth z3f z3C).fRate).fN)),(.int .i64 (((nth z3f z3C).fRate).fD))]) aggT_54 rfl rfl (rd_zs hz.pv zBn)) ?_
      refine WD.e (i:=4) (d:=30) (by kernel_rfl) rfl (z6 (by kernel_rfl)) (z7 (by kernel_rfl)) rfl rfl rfl (q_loadA (cs:=[(.int .i64 z1S.fN),(.int .i64 z1S.fD)]) aggT_40 rfl rfl (rd_all .here)) ?_
      refine WD.c (i:=5) (d:=31) (by kernel_rfl) rfl (z6 (by kernel_rfl)) (z7 (by kernel_rfl)) rfl rfl rfl (zi (l:=[.tmp 29,.tmp 30]) Tryz.call51 (.cons rfl (.cons rfl .nil))) (fun w hw=>by have pz:=(hz.call hw (.nil : Sel [stb z5p 40 [(.int .i64 z1S.fN),(.int .i64 z1S.fD)],stb z4P 40 [(.int .i64 0),(.int .i64 0)],stb z7N 40 [(.int .i64 z56),(.int .i64 z57)]] [] [stb z5p 40 [(.int .i64 z1S.fN),(.int .i64 z1S.fD)],stb z4P 40 [(.int .i64 0),(.int .i64 0)],stb z7N 40 [(.int .i64 z56),(.int .i64 z57)]])); exact w_ref02_value (Z:=_)  (z1U:=(⟨(⟨(((nth z3f z3C).fBurst).fN),(((nth z3f z3C).fBurst).fD)⟩ : z2),(⟨(((nth z3f z3C).fRate).fN),(((nth z3f z3C).fRate).fD)⟩ : z2)⟩ : z1)) (z3v:=z1S) (r:=z3m) w pz  zBm) ?_
      refine WD.a (i:=6) (d:=25) (by kernel_rfl) rfl (z6 (by kernel_rfl)) (z7 (by kernel_rfl)) rfl rfl rfl (fun _=>q_m rfl) ?_
      refine WD.a (i:=7) (d:=32) (by kernel_rfl) rfl (z6 (by kernel_rfl)) (z7 (by kernel_rfl)) rfl rfl rfl (fun _=>q_extract rfl rfl) ?_
      refine WD.a (i:=8) (d:=33) (by kernel_rfl) rfl (z6 (by kernel_rfl)) (z7 (by kernel_rfl)) rfl rfl rfl (fun _=>q_extract rfl rfl) ?_
      refine WD.new (i:=9) (dd:=8) rfl (by kernel_rfl) rfl rfl rfl (e_alloc (cs:=[(.int .i64 0),(.int .i64 0)]) zeroT_40 rfl) (fun h'=>absurd h' (by decide)) ?_
      intro zeZ _
      refine WD.forced0 (i:=10) rfl (by kernel_rfl) rfl rfl rfl (Sin.of .nil) (e_store (vs:=[(.int .i64 z3m.1.fN),(.int .i64 z3m.1.fD)]) (ds:=[(.int .i64 z3m.1.fN),(.int .i64 z3m.1.fD)]) sizT_40 rfl rfl rfl rfl (oc_cons rfl (oc_cons rfl oc_nil)) .here (Nat.le_of_ble_eq_true rfl) rfl) ?_
      refine WD.a (i:=11) (d:=9) (by kernel_rfl) rfl (z6 (by kernel_rfl)) (z7 (by kernel_rfl)) rfl rfl rfl (fun _=>q_z rfl) ?_
      refine WD.done (by kernel_rfl) ?_
      refine WX.a ?_
      refine WC.b ?_
      refine WC.b ?_
      refine WC.a ?_
      refine WL.a (d:=34) rfl rfl rfl (q_m rfl) ?_
      refine WL.a (d:=35) rfl rfl rfl (q_neq rfl rfl) ?_
      refine WL.nil ?_
      refine WX.a ?_
      refine WC.cond rfl (fun zov=>?_) (fun zov=>?_)
      ·replace h:=ite_t h zov
       refine WC.b ?_
       refine WC.a ?_
       refine WL.a (d:=36) rfl rfl rfl (q_build (v:=(.agg #[(.int .i64 0),(.int .i64 0)])) (Eos.parts (l:=[]) .nil []) (fun _=>by kernel_rfl)) ?_
       refine WL.a (d:=37) rfl rfl rfl (q_m rfl) ?_
       refine WL.eff0 rfl rfl (e_store (vs:=[(.int .i64 0),(.int .i64 0)]) (ds:=[(.int .i64 0),(.int .i64 0)]) sizT_40 rfl rfl rfl rfl (oc_cons rfl (oc_cons rfl oc_nil)) .h2 (Nat.le_of_ble_eq_true rfl) rfl) ?_
       refine WL.a (d:=5) rfl rfl rfl (q_z rfl) ?_
       refine WL.nil ?_
       refine WX.a ?_
       refine WC.ret ?_
       refine WX.thenRet ?_
       refine WX.blockRet ?_
       refine WX.thenRet ?_
       refine WX.thenRet ?_
       refine WX.blockRet ?_
       refine WX.thenRet ?_
       obtain rfl:=Option.some.inj h
       refine WX.bpRet Tryz.results27 (.agg rfl aggT_40 rfl (rd_all .here) (.tmp rfl .nil)) (fun w hw=>?_)
       exact ⟨ret2 rfl rfl,hw.sub .nil⟩
      ·replace h:=ite_f h zov
       refine WC.skip ?_
       refine WX.a ?_
       refine WC.b ?_
       obtain ⟨zop,zt0,h⟩:=z8 h
       refine WC.a ?_
       refine WL.a (d:=38) rfl rfl rfl (q_m rfl) ?_
       refine WL.a (d:=39) rfl rfl rfl (q_eql rfl rfl) ?_
       refine WL.a (d:=40) rfl rfl rfl (q_m rfl) ?_
       refine WL.cut0 True [(0,(.slice z9Q z3f.length z9R)),(3,(.pointer (some ⟨z5p,0,none⟩))),(4,(.pointer (some ⟨z4P,0,none⟩))),(6,(.pointer (some ⟨z7N,0,none⟩))),(7,(.int .i64 z3C)),(8,(.pointer (some ⟨zeZ,0,none⟩))),(45,(.bool zop))] [stb zeZ 40 [(.int .i64 z3m.1.fN),(.int .i64 z3m.1.fD)],stb z5p 40 [(.int .i64 z1S.fN),(.int .i64 z1S.fD)],stb z4P 40 [(.int .i64 0),(.int .i64 0)],stb z7N 40 [(.int .i64 z56),(.int .i64 z57)]] 5 ?_ (fun _=>?_)
       ·rcases Bool.eq_false_or_eq_true (decide (z3C = 0)) with hb' | hb'
        ·have zt1:=hb'; clear hb'
         have zow:=ite_t zt0 zt1
         replace zow:=Option.some.inj zow
         refine WL.pin (i:=40) rfl zt1 ?_
         refine WL.e rfl rfl rfl ?_
         refine WL.e rfl rfl rfl ?_
         refine WL.e rfl rfl rfl ?_
         refine WL.e rfl rfl rfl ?_
         refine WL.a (d:=45) rfl rfl rfl (q_pickT rfl rfl) ?_
         exact WL.cutEnd () trivial (.cons rfl (.cons rfl (.cons rfl (.cons rfl (.cons rfl (.cons rfl (.cons (zf zow) .nil))))))) (.cons .here (.cons .here (.cons .here (.cons .here .nil))))
        ·have zt2:=hb'; clear hb'
         have zgR:=ite_f zt0 zt2
         obtain ⟨zoo,zBo,zgR⟩:=z8 zgR
         replace zgR:=Option.some.inj zgR
         refine WL.pin (i:=40) rfl zt2 ?_
         refine WL.a (d:=41) rfl rfl rfl (q_loadA (cs:=[(.int .i64 z3m.1.fN),(.int .i64 z3m.1.fD)]) aggT_40 rfl rfl (rd_all .here)) ?_
         refine WL.a (d:=42) rfl rfl rfl (q_loadA (cs:=[(.int .i64 z56),(.int .i64 z57)]) aggT_40 rfl rfl (rd_all .h3)) ?_
         refine WL.b (dd:=43) rfl rfl rfl (zi (l:=[.tmp 41,.tmp 42]) Tryz.call28 (.cons rfl (.cons rfl .nil))) (.nil : Sel [stb zeZ 40 [(.int .i64 z3m.1.fN),(.int .i64 z3m.1.fD)],stb z5p 40 [(.int .i64 z1S.fN),(.int .i64 z1S.fD)],stb z4P 40 [(.int .i64 0),(.int .i64 0)],stb z7N 40 [(.int .i64 z56),(.int .i64 z57)]] [] [stb zeZ 40 [(.int .i64 z3m.1.fN),(.int .i64 z3m.1.fD)],stb z5p 40 [(.int .i64 z1S.fN),(.int .i64 z1S.fD)],stb z4P 40 [(.int .i64 0),(.int .i64 0)],stb z7N 40 [(.int .i64 z56),(.int .i64 z57)]]) (fun w hw=>by have pz:=(hz.call hw (.nil : Sel [stb zeZ 40 [(.int .i64 z3m.1.fN),(.int .i64 z3m.1.fD)],stb z5p 40 [(.int .i64 z1S.fN),(.int .i64 z1S.fD)],stb z4P 40 [(.int .i64 0),(.int .i64 0)],stb z7N 40 [(.int .i64 z56),(.int .i64 z57)]] [] [stb zeZ 40 [(.int .i64 z3m.1.fN),(.int .i64 z3m.1.fD)],stb z5p 40 [(.int .i64 z1S.fN),(.int .i64 z1S.fD)],stb z4P 40 [(.int .i64 0),(.int .i64 0)],stb z7N 40 [(.int .i64 z56),(.int .i64 z57)]])); exact w_ref01_Cmp (Z:=_)  (z2w:=z3m.1) (z2x:=(⟨z56,z57⟩ : z2)) (r:=zoo) w pz  zBo) ?_
         refine WL.a (d:=44) rfl rfl rfl (q_lss rfl rfl) ?_
         refine WL.a (d:=45) rfl rfl rfl (q_pickF rfl rfl) ?_
         exact WL.cutEnd () trivial (.cons rfl (.cons rfl (.cons rfl (.cons rfl (.cons rfl (.cons rfl (.cons (zf zgR) .nil))))))) (.cons .here (.cons .here (.cons .here (.cons .here .nil))))
       ·skip
        refine WL.nil ?_
        refine WX.a ?_
        refine WC.cond rfl (fun zox=>?_) (fun zox=>?_)
        ·replace h:=ite_t h zox
         refine WC.a ?_
         refine WL.a (d:=46) rfl rfl rfl (q_loadA (cs:=[(.int .i64 z3m.1.fN),(.int .i64 z3m.1.fD)]) aggT_40 rfl rfl (rd_all .here)) ?_
         refine WL.eff0 rfl rfl (e_store (vs:=[(.int .i64 z3m.1.fN),(.int .i64 z3m.1.fD)]) (ds:=[(.int .i64 z3m.1.fN),(.int .i64 z3m.1.fD)]) sizT_40 rfl rfl rfl rfl (oc_cons rfl (oc_cons rfl oc_nil)) .h3 (Nat.le_of_ble_eq_true rfl) rfl) ?_
         refine WL.nil ?_
         refine WX.blockNormal ?_
         exact WX.mid (G:=Int × Int) ⟨z3m.1.fN,z3m.1.fD⟩ h (.cons rfl (.cons rfl (.cons rfl (.cons rfl (.cons rfl .nil))))) (.cons .h2 (.cons .h2 (.cons .here .nil)))
        ·replace h:=ite_f h zox
         refine WC.skip ?_
         refine WX.blockNormal ?_
         exact WX.mid (G:=Int × Int) ⟨z56,z57⟩ h (.cons rfl (.cons rfl (.cons rfl (.cons rfl (.cons rfl .nil))))) (.cons .h1 (.cons .h1 (.cons .h1 .nil)))
     ·rintro zb6 zb7 h
      replace h:=(zBk zb6 zb7).symm.trans h
      refine WC.a ?_
      refine WL.a (d:=23) rfl rfl rfl (q_m rfl) ?_
      refine WL.a (d:=24) rfl rfl rfl (q_add rfl rfl rfl) ?_
      refine WL.a (d:=7) rfl rfl rfl (q_z rfl) ?_
      refine WL.nil ?_
      exact WX.round (G:=Nat × Int × Int × Int) ⟨zon,(i64 (z3C + 1)),zb6,zb7⟩ h (Nat.lt_succ_self _) (.cons rfl (.cons rfl (.cons rfl (.cons rfl (.cons rfl .nil))))) (.cons .here (.cons .here (.cons .here .nil)))
    ·replace h:=ite_f h zou
     refine WC.exit ?_
     refine WX.thenExit ?_
     refine WX.thenExit ?_
     refine WX.blockHit ?_
     exact WX.mid (G:=Int × Int) ⟨z56,z57⟩ h (.cons rfl (.cons rfl .nil)) (.cons .h1 (.cons .h1 .nil))
   ·rintro z9f z9g h
    replace h:=(zBj z9f z9g).symm.trans h
    refine WC.b ?_
    refine WC.a ?_
    refine WL.a (d:=47) rfl rfl rfl (q_loadA (cs:=[(.int .i64 z9f),(.int .i64 z9g)]) aggT_40 rfl rfl (rd_all .h1)) ?_
    refine WL.eff0 rfl rfl (e_store (vs:=[(.int .i64 z9f),(.int .i64 z9g)]) (ds:=[(.int .i64 z9f),(.int .i64 z9g)]) sizT_40 rfl rfl rfl rfl (oc_cons rfl (oc_cons rfl oc_nil)) .here (Nat.le_of_ble_eq_true rfl) rfl) ?_
    refine WL.a (d:=5) rfl rfl rfl (q_z rfl) ?_
    refine WL.nil ?_
    refine WX.a ?_
    refine WC.ret ?_
    obtain rfl:=Option.some.inj h
    refine WX.bpRet Tryz.results27 (.agg rfl aggT_40 rfl (rd_all .here) (.tmp rfl .nil)) (fun w hw=>?_)
    exact ⟨ret2 rfl rfl,hw.sub .nil⟩
def m_ref03_Conforms_L4 (z2i : List Sapi_Sent) (z3O : Int) (z3P : List z1) (zb8 : Bool → Option (Bool × Int)) : Nat → Bool → Int → Int → Option (Bool × Int)
 | 0,_,_,_=>none
 | zoy + 1,z85,z7r,z4m=>if decide (z4m < ((z2i.length : Nat) : Int)) then jp1 (fun (zb9 : Bool)=>m_ref03_Conforms_L4 z2i z3O z3P zb8 zoy zb9 (i64 (z7r + ((nth z2i z4m).fSize))) (i64 (z4m + 1))) fun zj5=>chk ((0 : Int) ≤ z4m ∧ z4m < ((z2i.length : Nat) : Int)) (chk ((0 : Int) ≤ z4m ∧ z4m < ((z2i.length : Nat) : Int)) (chk ((0 : Int) ≤ z3O ∧ z3O < ((z2i.length : Nat) : Int)) ((m_ref02_At z3P (⟨i64 (((nth z2i z4m).fTime) - ((nth z2i z3O).fTime)),1⟩ : z2)).bind fun z5G=>if decide (z5G.2 ≠ 0) then some (false,z5G.2) else (m_ref01_Cmp (⟨i64 (z7r + ((nth z2i z4m).fSize)),1⟩ : z2) z5G.1).bind fun zoz=>if decide (zoz > 0) then zj5 false else zj5 z85))) else zb8 z85
theorem m_ref03_Conforms_L4_fuel {n : Nat} {z2i : List Sapi_Sent} {z3O : Int} {z3P : List z1} {zb8 : Bool → Option (Bool × Int)} {z85 : Bool} {z7r : Int} {z4m : Int} {r : Bool × Int} (h : m_ref03_Conforms_L4 z2i z3O z3P zb8 n z85 z7r z4m = some r) : ∃ m,n = m + 1:=by
 cases n with
 | zero=>cases h
 | succ m=>exact ⟨m,rfl⟩
def m_ref03_Conforms_L3 (z2i : List Sapi_Sent) (z3P : List z1) (zba : Bool → Option (Bool × Int)) : Nat → Bool → Int → Option (Bool × Int)
 | 0,_,_=>none
 | zoA + 1,z86,z3O=>if decide (z3O < ((z2i.length : Nat) : Int)) then jp1 (fun (zbb : Bool)=>m_ref03_Conforms_L3 z2i z3P zba zoA zbb (i64 (z3O + 1))) fun zoB=>jp1 (fun (zbc : Bool)=>zoB zbc) fun zb8=>m_ref03_Conforms_L4 z2i z3O z3P zb8 FUEL z86 0 z3O else zba z86
theorem m_ref03_Conforms_L3_fuel {n : Nat} {z2i : List Sapi_Sent} {z3P : List z1} {zba : Bool → Option (Bool × Int)} {z86 : Bool} {z3O : Int} {r : Bool × Int} (h : m_ref03_Conforms_L3 z2i z3P zba n z86 z3O = some r) : ∃ m,n = m + 1:=by
 cases n with
 | zero=>cases h
 | succ m=>exact ⟨m,rfl⟩
def m_ref03_Conforms (z3P : List z1) (z2i : List Sapi_Sent) : Option (Bool × Int) :=
 (m_ref02_Valid z3P).bind fun zj6=>(if !zj6 then some true else (m_ref03_Frames z2i).bind fun zoC=>some (!zoC)).bind fun zoD=>if zoD then some (false,2) else jp1 (fun (zcd : Bool)=>some (zcd,0)) fun zba=>m_ref03_Conforms_L3 z2i z3P zba FUEL true 0
set_option maxRecDepth 20000 in
theorem w_ref03_Conforms (Z : Zp)  (z87 : Option Addr) (z88 : Nat) (z8M : Option Addr) (z8N : Nat) (z3P : List z1) (z2i : List Sapi_Sent) (r : Bool × Int) (w₀ : World) (hz : PZ [] w₀ Z)
  (zt3 : ZS Z 4 (fun r x=>r = e54 x) z87 z88 z3P)
  (zj7 : ZS Z 3 (fun r x=>r = e58 x) z8M z8N z2i)
  (h : m_ref03_Conforms z3P z2i = some r) :
  Calls Tryz.prog 7 #[(.slice z87 z3P.length z88),(.slice z8M z2i.length z8N)] w₀ fun e w'=>e = .returned (.tuple #[(.bool r.1),(.int .i64 r.2)]) ∧ Hp [] w₀ w' []:=by
 unfold m_ref03_Conforms at h
 refine Calls.ofWC (vs:=[(.slice z87 z3P.length z88),(.slice z8M z2i.length z8N)]) (pre:=[]) (env:=[(0,(.slice z87 z3P.length z88)),(1,(.slice z8M z2i.length z8N))]) Tryz.func7 rfl Tryz.ntmps7 rfl (Hp.nil w₀ _) rfl ?_
 refine WC.b ?_
 refine WC.a ?_
 refine WL.a (d:=4) rfl rfl rfl (q_z rfl) ?_
 refine WL.a (d:=5) rfl rfl rfl (q_z rfl) ?_
 refine WL.nil ?_
 refine WX.a ?_
 refine WC.b ?_
 refine WC.b ?_
 obtain ⟨zj6,zBp,h⟩:=z8 h
 obtain ⟨zoD,zt4,h⟩:=z8 h
 refine WC.a ?_
 refine WL.a (d:=12) rfl rfl rfl (q_m rfl) ?_
 refine WL.b (dd:=13) rfl rfl rfl (zi (l:=[.tmp 12]) Tryz.call25 (.cons rfl .nil)) (.nil : Sel [] [] []) (fun w hw=>by have pz:=(hz.call hw (.nil : Sel [] [] [])); exact w_ref02_Valid (Z:=_) (zb2:=z87) (zb3:=z88) (z31:=z3P) (r:=zj6) w pz zt3 zBp) ?_
 refine WL.a (d:=14) rfl rfl rfl (q_not rfl) ?_
 refine WL.a (d:=15) rfl rfl rfl (q_m rfl) ?_
 refine WL.cut0 True [(0,(.slice z87 z3P.length z88)),(1,(.slice z8M z2i.length z8N)),(19,(.bool zoD))] [] 4 ?_ (fun _=>?_)
 ·rcases Bool.eq_false_or_eq_true (!zj6) with hb' | hb'
  ·have zt5:=hb'; clear hb'
   have zoE:=ite_t zt4 zt5
   replace zoE:=Option.some.inj zoE
   refine WL.pin (i:=15) rfl zt5 ?_
   refine WL.e rfl rfl rfl ?_
   refine WL.e rfl rfl rfl ?_
   refine WL.e rfl rfl rfl ?_
   refine WL.a (d:=19) rfl rfl rfl (q_pickT rfl rfl) ?_
   exact WL.cutEnd () trivial (.cons rfl (.cons rfl (.cons (zf zoE) .nil))) .nil
  ·have zt6:=hb'; clear hb'
   have zgS:=ite_f zt4 zt6
   obtain ⟨zoC,zBq,zgS⟩:=z8 zgS
   replace zgS:=Option.some.inj zgS
   refine WL.pin (i:=15) rfl zt6 ?_
   refine WL.a (d:=16) rfl rfl rfl (q_m rfl) ?_
   refine WL.b (dd:=17) rfl rfl rfl (zi (l:=[.tmp 16]) Tryz.call26 (.cons rfl .nil)) (.nil : Sel [] [] []) (fun w hw=>by have pz:=(hz.call hw (.nil : Sel [] [] [])); exact w_ref03_Frames (Z:=_) (z8I:=z8M) (z8J:=z8N) (zS:=z2i) (r:=zoC) w pz zj7 zBq) ?_
   refine WL.a (d:=18) rfl rfl rfl (q_not rfl) ?_
   refine WL.a (d:=19) rfl rfl rfl (q_pickF rfl rfl) ?_
   exact WL.cutEnd () trivial (.cons rfl (.cons rfl (.cons (zf zgS) .nil))) .nil
 ·skip
  refine WL.nil ?_
  refine WX.a ?_
  refine WC.cond rfl (fun zoF=>?_) (fun zoF=>?_)
  ·replace h:=ite_t h zoF
   refine WC.b ?_
   refine WC.a ?_
   refine WL.a (d:=4) rfl rfl rfl (q_z rfl) ?_
   refine WL.a (d:=5) rfl rfl rfl (q_z rfl) ?_
   refine WL.nil ?_
   refine WX.a ?_
   refine WC.ret ?_
   refine WX.thenRet ?_
   obtain rfl:=Option.some.inj h
   refine WX.bpRet Tryz.results7 (.tmp rfl (.tmp rfl .nil)) (fun w hw=>?_)
   exact ⟨ret2 rfl rfl,hw.sub .nil⟩
  ·replace h:=ite_f h zoF
   refine WC.skip ?_
   refine WX.a ?_
   refine WC.b ?_
   refine WC.a ?_
   refine WL.a (d:=6) rfl rfl rfl (q_z rfl) ?_
   refine WL.nil ?_
   refine WX.a ?_
   obtain ⟨zba,zBr,h⟩:=jp1_elim h
   refine WC.seqMid1 (fun (zcd : Bool)=>(zba zcd = some r)) (fun (zcd : Bool)=>[(6,(.bool zcd))]) (fun (zcd : Bool)=>[]) ?_ ?_
   ·skip
    refine WC.b ?_
    refine WC.a ?_
    refine WL.a (d:=7) rfl rfl rfl (q_z rfl) ?_
    refine WL.nil ?_
    refine WX.a ?_
    refine WC.block ?_
    refine WC.loop3 (fun (zf0 : Nat) (z86 : Bool) (z3O : Int)=>(m_ref03_Conforms_L3 z2i z3P zba zf0 z86 z3O = some r)) (fun (zf0 : Nat) (z86 : Bool) (z3O : Int)=>[(0,(.slice z87 z3P.length z88)),(1,(.slice z8M z2i.length z8N)),(6,(.bool z86)),(7,(.int .i64 z3O))]) (fun (zf0 : Nat) (z86 : Bool) (z3O : Int)=>[]) (fun (zf0 : Nat) (z86 : Bool) (z3O : Int)=>zf0) ⟨FUEL,true,0⟩ h (.cons rfl (.cons rfl (.cons rfl (.cons rfl .nil)))) .nil ?_
    rintro zf0 z86 z3O h
    obtain ⟨zoA,rfl⟩:=m_ref03_Conforms_L3_fuel h
    rw [m_ref03_Conforms_L3] at h
    refine WC.b ?_
    refine WC.b ?_
    refine WC.a ?_
    refine WL.a (d:=20) rfl rfl rfl (q_m rfl) ?_
    refine WL.a (d:=21) rfl rfl rfl (q_m rfl) ?_
    refine WL.a (d:=22) rfl rfl rfl (q_len Tryz.underlying24 rfl) ?_
    refine WL.a (d:=23) rfl rfl rfl (q_lss rfl rfl) ?_
    refine WL.nil ?_
    refine WX.a ?_
    refine WC.cond rfl (fun zoG=>?_) (fun zoG=>?_)
    ·replace h:=ite_t h zoG
     refine WC.skip ?_
     refine WX.a ?_
     obtain ⟨zoB,zBs,h⟩:=jp1_elim h
     refine WC.seqMid1 (fun (zbb : Bool)=>(zoB zbb = some r)) (fun (zbb : Bool)=>[(0,(.slice z87 z3P.length z88)),(1,(.slice z8M z2i.length z8N)),(6,(.bool zbb)),(7,(.int .i64 z3O))]) (fun (zbb : Bool)=>[]) ?_ ?_
     ·skip
      refine WC.block ?_
      refine WC.b ?_
      refine WC.a ?_
      refine WL.a (d:=8) rfl rfl rfl (q_z rfl) ?_
      refine WL.nil ?_
      refine WX.a ?_
      refine WC.b ?_
      refine WC.a ?_
      refine WL.a (d:=26) rfl rfl rfl (q_m rfl) ?_
      refine WL.a (d:=9) rfl rfl rfl (q_z rfl) ?_
      refine WL.nil ?_
      refine WX.a ?_
      obtain ⟨zb8,zBt,h⟩:=jp1_elim h
      refine WC.mid1 (fun (zbc : Bool)=>(zb8 zbc = some r)) (fun (zbc : Bool)=>[(0,(.slice z87 z3P.length z88)),(1,(.slice z8M z2i.length z8N)),(6,(.bool zbc)),(7,(.int .i64 z3O))]) (fun (zbc : Bool)=>[]) ?_ ?_
      ·skip
       refine WC.block ?_
       refine WC.loop4 (fun (zf1 : Nat) (z85 : Bool) (z7r : Int) (z4m : Int)=>(m_ref03_Conforms_L4 z2i z3O z3P zb8 zf1 z85 z7r z4m = some r)) (fun (zf1 : Nat) (z85 : Bool) (z7r : Int) (z4m : Int)=>[(0,(.slice z87 z3P.length z88)),(1,(.slice z8M z2i.length z8N)),(6,(.bool z85)),(7,(.int .i64 z3O)),(8,(.int .i64 z7r)),(9,(.int .i64 z4m))]) (fun (zf1 : Nat) (z85 : Bool) (z7r : Int) (z4m : Int)=>[]) (fun (zf1 : Nat) (z85 : Bool) (z7r : Int) (z4m : Int)=>zf1) ⟨FUEL,z86,0,z3O⟩ h (.cons rfl (.cons rfl (.cons rfl (.cons rfl (.cons rfl (.cons rfl .nil)))))) .nil ?_
       rintro zf1 z85 z7r z4m h
       obtain ⟨zoy,rfl⟩:=m_ref03_Conforms_L4_fuel h
       rw [m_ref03_Conforms_L4] at h
       refine WC.b ?_
       refine WC.b ?_
       refine WC.a ?_
       refine WL.a (d:=27) rfl rfl rfl (q_m rfl) ?_
       refine WL.a (d:=28) rfl rfl rfl (q_m rfl) ?_
       refine WL.a (d:=29) rfl rfl rfl (q_len Tryz.underlying24 rfl) ?_
       refine WL.a (d:=30) rfl rfl rfl (q_lss rfl rfl) ?_
       refine WL.nil ?_
       refine WX.a ?_
       refine WC.cond rfl (fun zoH=>?_) (fun zoH=>?_)
       ·replace h:=ite_t h zoH
        refine WC.skip ?_
        refine WX.a ?_
        obtain ⟨zj5,zBu,h⟩:=jp1_elim h
        refine WC.seqMid1 (fun (zb9 : Bool)=>(zj5 zb9 = some r)) (fun (zb9 : Bool)=>[(0,(.slice z87 z3P.length z88)),(1,(.slice z8M z2i.length z8N)),(6,(.bool zb9)),(7,(.int .i64 z3O)),(8,(.int .i64 (i64 (z7r + ((nth z2i z4m).fSize))))),(9,(.int .i64 z4m))]) (fun (zb9 : Bool)=>[]) ?_ ?_
        ·skip
         refine WC.block ?_
         refine WC.b ?_
         obtain ⟨zBv,h⟩:=chk_elim h
         refine WC.a ?_
         refine WL.a (d:=33) rfl rfl rfl (q_m rfl) ?_
         refine WL.a (d:=34) rfl rfl rfl (q_m rfl) ?_
         refine WL.a (d:=35) rfl rfl rfl (q_m rfl) ?_
         refine WL.znth (dd:=36) rfl rfl (Z:=Z) (Pr:=(fun r x=>r = e58 x)) elT_24 rfl rfl zj7 zBv ?_
         rintro zEG zEH zBw zEI rfl
         refine WL.a (d:=37) rfl rfl rfl (q_fieldAddr fo_58_2 rfl rfl) ?_
         refine WL.a (d:=38) rfl rfl rfl (q_load1 oneT_3 rfl (rd_zAt hz.pv zBw rfl)) ?_
         refine WL.a (d:=39) rfl rfl rfl (q_add rfl rfl rfl) ?_
         refine WL.a (d:=8) rfl rfl rfl (q_z rfl) ?_
         refine WL.nil ?_
         refine WX.a ?_
         refine WC.b ?_
         obtain ⟨zBx,h⟩:=chk_elim h
         obtain ⟨zBy,h⟩:=chk_elim h
         obtain ⟨z5G,zBz,h⟩:=z8 h
         refine WC.draw (fun i=>[18].contains i) [] rfl ?_
         refine WD.a (i:=0) (d:=41) (by kernel_rfl) rfl (z6 (by kernel_rfl)) (z7 (by kernel_rfl)) rfl rfl rfl (fun _=>q_m rfl) ?_
         refine WD.a (i:=1) (d:=42) (by kernel_rfl) rfl (z6 (by kernel_rfl)) (z7 (by kernel_rfl)) rfl rfl rfl (fun _=>q_m rfl) ?_
         refine WD.a (i:=2) (d:=43) (by kernel_rfl) rfl (z6 (by kernel_rfl)) (z7 (by kernel_rfl)) rfl rfl rfl (fun _=>q_m rfl) ?_
         refine WD.znth (j:=3) (dd:=44) (by kernel_rfl) rfl (z6 (by kernel_rfl)) (z7 (by kernel_rfl)) rfl rfl (Z:=Z) (Pr:=(fun r x=>r = e58 x)) elT_24 rfl rfl zj7 zBx ?_
         rintro zEJ zEK zBA zEL rfl
         refine WD.a (i:=4) (d:=45) (by kernel_rfl) rfl (z6 (by kernel_rfl)) (z7 (by kernel_rfl)) rfl rfl rfl (fun _=>q_fieldAddr fo_58_0 rfl rfl) ?_
         refine WD.e (i:=5) (d:=46) (by kernel_rfl) rfl (z6 (by kernel_rfl)) (z7 (by kernel_rfl)) rfl rfl rfl (q_load1 oneT_3 rfl (rd_zAt hz.pv zBA rfl)) ?_
         refine WD.a (i:=6) (d:=47) (by kernel_rfl) rfl (z6 (by kernel_rfl)) (z7 (by kernel_rfl)) rfl rfl rfl (fun _=>q_m rfl) ?_
         refine WD.a (i:=7) (d:=48) (by kernel_rfl) rfl (z6 (by kernel_rfl)) (z7 (by kernel_rfl)) rfl rfl rfl (fun _=>q_m rfl) ?_
         refine WD.znth (j:=8) (dd:=49) (by kernel_rfl) rfl (z6 (by kernel_rfl)) (z7 (by kernel_rfl)) rfl rfl (Z:=Z) (Pr:=(fun r x=>r = e58 x)) elT_24 rfl rfl zj7 zBy ?_
         rintro zEM zEN zBB zEO rfl
         refine WD.a (i:=9) (d:=50) (by kernel_rfl) rfl (z6 (by kernel_rfl)) (z7 (by kernel_rfl)) rfl rfl rfl (fun _=>q_fieldAddr fo_58_0 rfl rfl) ?_
         refine WD.e (i:=10) (d:=51) (by kernel_rfl) rfl (z6 (by kernel_rfl)) (z7 (by kernel_rfl)) rfl rfl rfl (q_load1 oneT_3 rfl (rd_zAt hz.pv zBB rfl)) ?_
         refine WD.a (i:=11) (d:=52) (by kernel_rfl) rfl (z6 (by kernel_rfl)) (z7 (by kernel_rfl)) rfl rfl rfl (fun _=>q_sub rfl rfl rfl) ?_
         refine WD.e (i:=12) (d:=53) (by kernel_rfl) rfl (z6 (by kernel_rfl)) (z7 (by kernel_rfl)) rfl rfl rfl (q_build (v:=(.agg #[(.int .i64 (i64 (((nth z2i z4m).fTime) - ((nth z2i z3O).fTime)))),(.int .i64 1)])) (Eos.parts (l:=[.tmp 52,.const (.int .i64 1)]) (.cons rfl (.cons rfl .nil)) [0,1]) (fun _=>by kernel_rfl)) ?_
         refine WD.c (i:=13) (d:=54) (by kernel_rfl) rfl (z6 (by kernel_rfl)) (z7 (by kernel_rfl)) rfl rfl rfl (zi (l:=[.tmp 41,.tmp 53]) Tryz.call27 (.cons rfl (.cons rfl .nil))) (fun w hw=>by have pz:=(hz.call hw (.nil : Sel [] [] [])); exact w_ref02_At (Z:=_) (z9Q:=z87) (z9R:=z88) (z3f:=z3P) (z1S:=(⟨i64 (((nth z2i z4m).fTime) - ((nth z2i z3O).fTime)),1⟩ : z2)) (r:=z5G) w pz zt3 zBz) ?_
         refine WD.a (i:=14) (d:=40) (by kernel_rfl) rfl (z6 (by kernel_rfl)) (z7 (by kernel_rfl)) rfl rfl rfl (fun _=>q_m rfl) ?_
         refine WD.a (i:=15) (d:=55) (by kernel_rfl) rfl (z6 (by kernel_rfl)) (z7 (by kernel_rfl)) rfl rfl rfl (fun _=>q_extract rfl rfl) ?_
         refine WD.a (i:=16) (d:=56) (by kernel_rfl) rfl (z6 (by kernel_rfl)) (z7 (by kernel_rfl)) rfl rfl rfl (fun _=>q_extract rfl rfl) ?_
         refine WD.new (i:=17) (dd:=10) rfl (by kernel_rfl) rfl rfl rfl (e_alloc (cs:=[(.int .i64 0),(.int .i64 0)]) zeroT_40 rfl) (fun h'=>absurd h' (by decide)) ?_
         intro zj8 _
         refine WD.forced0 (i:=18) rfl (by kernel_rfl) rfl rfl rfl (Sin.of .nil) (e_store (vs:=[(.int .i64 z5G.1.fN),(.int .i64 z5G.1.fD)]) (ds:=[(.int .i64 z5G.1.fN),(.int .i64 z5G.1.fD)]) sizT_40 rfl rfl rfl rfl (oc_cons rfl (oc_cons rfl oc_nil)) .here (Nat.le_of_ble_eq_true rfl) rfl) ?_
         refine WD.a (i:=19) (d:=11) (by kernel_rfl) rfl (z6 (by kernel_rfl)) (z7 (by kernel_rfl)) rfl rfl rfl (fun _=>q_z rfl) ?_
         refine WD.done (by kernel_rfl) ?_
         refine WX.a ?_
         refine WC.b ?_
         refine WC.b ?_
         refine WC.a ?_
         refine WL.a (d:=57) rfl rfl rfl (q_m rfl) ?_
         refine WL.a (d:=58) rfl rfl rfl (q_neq rfl rfl) ?_
         refine WL.nil ?_
         refine WX.a ?_
         refine WC.cond rfl (fun zoI=>?_) (fun zoI=>?_)
         ·replace h:=ite_t h zoI
          refine WC.b ?_
          refine WC.a ?_
          refine WL.a (d:=59) rfl rfl rfl (q_m rfl) ?_
          refine WL.a (d:=4) rfl rfl rfl (q_z rfl) ?_
          refine WL.a (d:=5) rfl rfl rfl (q_z rfl) ?_
          refine WL.nil ?_
          refine WX.a ?_
          refine WC.ret ?_
          refine WX.thenRet ?_
          refine WX.blockRet ?_
          refine WX.thenRet ?_
          refine WX.thenRet ?_
          refine WX.blockRet ?_
          refine WX.thenRet ?_
          refine WX.blockRet ?_
          refine WX.thenRet ?_
          refine WX.thenRet ?_
          refine WX.blockRet ?_
          refine WX.thenRet ?_
          obtain rfl:=Option.some.inj h
          refine WX.bpRet Tryz.results7 (.tmp rfl (.tmp rfl .nil)) (fun w hw=>?_)
          exact ⟨ret2 rfl rfl,hw.sub .nil⟩
         ·replace h:=ite_f h zoI
          refine WC.skip ?_
          refine WX.a ?_
          refine WC.b ?_
          obtain ⟨zoz,zBC,h⟩:=z8 h
          refine WC.a ?_
          refine WL.a (d:=60) rfl rfl rfl (q_m rfl) ?_
          refine WL.a (d:=61) rfl rfl rfl (q_build (v:=(.agg #[(.int .i64 (i64 (z7r + ((nth z2i z4m).fSize)))),(.int .i64 1)])) (Eos.parts (l:=[.tmp 60,.const (.int .i64 1)]) (.cons rfl (.cons rfl .nil)) [0,1]) (fun _=>by kernel_rfl)) ?_
          refine WL.a (d:=62) rfl rfl rfl (q_loadA (cs:=[(.int .i64 z5G.1.fN),(.int .i64 z5G.1.fD)]) aggT_40 rfl rfl (rd_all .here)) ?_
          refine WL.b (dd:=63) rfl rfl rfl (zi (l:=[.tmp 61,.tmp 62]) Tryz.call28 (.cons rfl (.cons rfl .nil))) (.nil : Sel [stb zj8 40 [(.int .i64 z5G.1.fN),(.int .i64 z5G.1.fD)]] [] [stb zj8 40 [(.int .i64 z5G.1.fN),(.int .i64 z5G.1.fD)]]) (fun w hw=>by have pz:=(hz.call hw (.nil : Sel [stb zj8 40 [(.int .i64 z5G.1.fN),(.int .i64 z5G.1.fD)]] [] [stb zj8 40 [(.int .i64 z5G.1.fN),(.int .i64 z5G.1.fD)]])); exact w_ref01_Cmp (Z:=_)  (z2w:=(⟨i64 (z7r + ((nth z2i z4m).fSize)),1⟩ : z2)) (z2x:=z5G.1) (r:=zoz) w pz  zBC) ?_
          refine WL.a (d:=64) rfl rfl rfl (q_gtr rfl rfl) ?_
          refine WL.nil ?_
          refine WX.a ?_
          refine WC.cond rfl (fun zoJ=>?_) (fun zoJ=>?_)
          ·replace h:=ite_t h zoJ
           refine WC.a ?_
           refine WL.a (d:=6) rfl rfl rfl (q_z rfl) ?_
           refine WL.nil ?_
           refine WX.blockNormal ?_
           exact WX.mid (G:=Bool) false h (.cons rfl (.cons rfl (.cons rfl (.cons rfl (.cons rfl (.cons rfl .nil)))))) .nil
          ·replace h:=ite_f h zoJ
           refine WC.skip ?_
           refine WX.blockNormal ?_
           exact WX.mid (G:=Bool) z85 h (.cons rfl (.cons rfl (.cons rfl (.cons rfl (.cons rfl (.cons rfl .nil)))))) .nil
        ·rintro zb9 h
         replace h:=(zBu zb9).symm.trans h
         refine WC.a ?_
         refine WL.a (d:=31) rfl rfl rfl (q_m rfl) ?_
         refine WL.a (d:=32) rfl rfl rfl (q_add rfl rfl rfl) ?_
         refine WL.a (d:=9) rfl rfl rfl (q_z rfl) ?_
         refine WL.nil ?_
         exact WX.round (G:=Nat × Bool × Int × Int) ⟨zoy,zb9,(i64 (z7r + ((nth z2i z4m).fSize))),(i64 (z4m + 1))⟩ h (Nat.lt_succ_self _) (.cons rfl (.cons rfl (.cons rfl (.cons rfl (.cons rfl (.cons rfl .nil)))))) .nil
       ·replace h:=ite_f h zoH
        refine WC.exit ?_
        refine WX.thenExit ?_
        refine WX.thenExit ?_
        refine WX.blockHit ?_
        exact WX.mid (G:=Bool) z85 h (.cons rfl (.cons rfl (.cons rfl (.cons rfl .nil)))) .nil
      ·rintro zbc h
       replace h:=(zBt zbc).symm.trans h
       refine WX.blockNormal ?_
       exact WX.mid (G:=Bool) zbc h (.cons rfl (.cons rfl (.cons rfl (.cons rfl .nil)))) .nil
     ·rintro zbb h
      replace h:=(zBs zbb).symm.trans h
      refine WC.a ?_
      refine WL.a (d:=24) rfl rfl rfl (q_m rfl) ?_
      refine WL.a (d:=25) rfl rfl rfl (q_add rfl rfl rfl) ?_
      refine WL.a (d:=7) rfl rfl rfl (q_z rfl) ?_
      refine WL.nil ?_
      exact WX.round (G:=Nat × Bool × Int) ⟨zoA,zbb,(i64 (z3O + 1))⟩ h (Nat.lt_succ_self _) (.cons rfl (.cons rfl (.cons rfl (.cons rfl .nil)))) .nil
    ·replace h:=ite_f h zoG
     refine WC.exit ?_
     refine WX.thenExit ?_
     refine WX.thenExit ?_
     refine WX.blockHit ?_
     exact WX.mid (G:=Bool) z86 h (.cons rfl .nil) .nil
   ·rintro zcd h
    replace h:=(zBr zcd).symm.trans h
    refine WC.b ?_
    refine WC.a ?_
    refine WL.a (d:=65) rfl rfl rfl (q_m rfl) ?_
    refine WL.a (d:=4) rfl rfl rfl (q_z rfl) ?_
    refine WL.a (d:=5) rfl rfl rfl (q_z rfl) ?_
    refine WL.nil ?_
    refine WX.a ?_
    refine WC.ret ?_
    obtain rfl:=Option.some.inj h
    refine WX.bpRet Tryz.results7 (.tmp rfl (.tmp rfl .nil)) (fun w hw=>?_)
    exact ⟨ret2 rfl rfl,hw.sub .nil⟩
def m_ref03_Serve_L2 (z36 : List Sapi_Sent) (z2W : Int) (z3D : Int) (zbd : (List Int) → Option (List Int × Int)) : Nat → (List Int) → Int → Option (List Int × Int)
 | 0,_,_=>none
 | zoK + 1,z3n,z2u=>if decide (z2u < ((z36.length : Nat) : Int)) then chk ((0 : Int) ≤ z2u ∧ z2u < ((z36.length : Nat) : Int)) (jp1 (fun (z89 : Int)=>chk ((0 : Int) ≤ z2u ∧ z2u < ((z36.length : Nat) : Int)) (chk ((((z3n ++ ([i64 (z89 + (i64 (((nth z36 z2u).fSize) * z2W)))] : List Int)).length : Nat) : Int) * 8 ≤ 140737488355328 ∧ (((z3n ++ ([i64 (z89 + (i64 (((nth z36 z2u).fSize) * z2W)))] : List Int)).length : Nat) : Int) ≤ 4611686018427387904) (m_ref03_Serve_L2 z36 z2W z3D zbd zoK (z3n ++ ([i64 (z89 + (i64 (((nth z36 z2u).fSize) * z2W)))] : List Int)) (i64 (z2u + 1))))) fun zj9=>chk ((decide (z2u > 0)) = true → ((0 : Int) ≤ (i64 (z2u - 1)) ∧ (i64 (z2u - 1)) < ((z3n.length : Nat) : Int))) (if (decide (z2u > 0)) && (decide ((nth z3n (i64 (z2u - 1))) > (i64 (((nth z36 z2u).fTime) + z3D)))) then chk ((0 : Int) ≤ (i64 (z2u - 1)) ∧ (i64 (z2u - 1)) < ((z3n.length : Nat) : Int)) (zj9 (nth z3n (i64 (z2u - 1)))) else zj9 (i64 (((nth z36 z2u).fTime) + z3D)))) else zbd z3n
theorem m_ref03_Serve_L2_fuel {n : Nat} {z36 : List Sapi_Sent} {z2W : Int} {z3D : Int} {zbd : (List Int) → Option (List Int × Int)} {z3n : List Int} {z2u : Int} {r : List Int × Int} (h : m_ref03_Serve_L2 z36 z2W z3D zbd n z3n z2u = some r) : ∃ m,n = m + 1:=by
 cases n with
 | zero=>cases h
 | succ m=>exact ⟨m,rfl⟩
def m_ref03_Serve (z36 : List Sapi_Sent) (z2W : Int) (z3D : Int) : Option (List Int × Int) :=
 (m_ref03_Frames z36).bind fun z9h=>if ((((!z9h) || (decide (z2W < 1))) || (decide (z2W > 16))) || (decide (z3D < 0))) || (decide (z3D > 1000)) then some (([] : List Int),2) else jp1 (fun (z9S : List Int)=>some (z9S,0)) fun zbd=>m_ref03_Serve_L2 z36 z2W z3D zbd FUEL ([] : List Int) 0
set_option maxRecDepth 20000 in
theorem w_ref03_Serve (Z : Zp)  (z8a : Option Addr) (z8b : Nat) (z36 : List Sapi_Sent) (z2W : Int) (z3D : Int) (r : List Int × Int) (w₀ : World) (hz : PZ [] w₀ Z)
  (zoL : ZS Z 3 (fun r x=>r = e58 x) z8a z8b z36)
  (h : m_ref03_Serve z36 z2W z3D = some r) :
  Calls Tryz.prog 9 #[(.slice z8a z36.length z8b),(.int .i64 z2W),(.int .i64 z3D)] w₀ fun e w'=>∃ zt7 : Option Addr,∃ zt8 : Nat,e = .returned (.tuple #[(.slice zt7 r.1.length zt8),(.int .i64 r.2)]) ∧ True ∧ Hp [] w₀ w' [row (.slice zt7 r.1.length zt8) 3 1 (r.1.flatMap e3)]:=by
 unfold m_ref03_Serve at h
 refine Calls.ofWC (vs:=[(.slice z8a z36.length z8b),(.int .i64 z2W),(.int .i64 z3D)]) (pre:=[]) (env:=[(0,(.slice z8a z36.length z8b)),(1,(.int .i64 z2W)),(2,(.int .i64 z3D))]) Tryz.func9 rfl Tryz.ntmps9 rfl (Hp.nil w₀ _) rfl ?_
 refine WC.b ?_
 refine WC.a ?_
 refine WL.a (d:=6) rfl rfl rfl (q_z rfl) ?_
 refine WL.a (d:=7) rfl rfl rfl (q_z rfl) ?_
 refine WL.nil ?_
 refine WX.a ?_
 refine WC.b ?_
 refine WC.b ?_
 obtain ⟨z9h,zBD,h⟩:=z8 h
 refine WC.a ?_
 refine WL.a (d:=11) rfl rfl rfl (q_m rfl) ?_
 refine WL.b (dd:=12) rfl rfl rfl (zi (l:=[.tmp 11]) Tryz.call26 (.cons rfl .nil)) (.nil : Sel [] [] []) (fun w hw=>by have pz:=(hz.call hw (.nil : Sel [] [] [])); exact w_ref03_Frames (Z:=_) (z8I:=z8a) (z8J:=z8b) (zS:=z36) (r:=z9h) w pz zoL zBD) ?_
 refine WL.a (d:=13) rfl rfl rfl (q_not rfl) ?_
 refine WL.a (d:=14) rfl rfl rfl (q_m rfl) ?_
 refine WL.cut0 True [(0,(.slice z8a z36.length z8b)),(1,(.int .i64 z2W)),(2,(.int .i64 z3D)),(17,(.bool ((!z9h) || (decide (z2W < 1)))))] [] 3 ?_ (fun _=>?_)
 ·rcases Bool.eq_false_or_eq_true (!z9h) with hb' | hb'
  ·have zt9:=hb'; clear hb'
   refine WL.pin (i:=14) rfl zt9 ?_
   refine WL.e rfl rfl rfl ?_
   refine WL.e rfl rfl rfl ?_
   refine WL.a (d:=17) rfl rfl rfl (q_pickT rfl rfl) ?_
   exact WL.cutEnd () trivial (.cons rfl (.cons rfl (.cons rfl (.cons (zf (or_l zt9)) .nil)))) .nil
  ·have zta:=hb'; clear hb'
   refine WL.pin (i:=14) rfl zta ?_
   refine WL.a (d:=15) rfl rfl rfl (q_m rfl) ?_
   refine WL.a (d:=16) rfl rfl rfl (q_lss rfl rfl) ?_
   refine WL.a (d:=17) rfl rfl rfl (q_pickF rfl rfl) ?_
   exact WL.cutEnd () trivial (.cons rfl (.cons rfl (.cons rfl (.cons (zf (or_r zta)) .nil)))) .nil
 ·skip
  refine WL.a (d:=18) rfl rfl rfl (q_m rfl) ?_
  refine WL.cut0 True [(0,(.slice z8a z36.length z8b)),(1,(.int .i64 z2W)),(2,(.int .i64 z3D)),(21,(.bool (((!z9h) || (decide (z2W < 1))) || (decide (z2W > 16)))))] [] 3 ?_ (fun _=>?_)
  ·rcases Bool.eq_false_or_eq_true ((!z9h) || (decide (z2W < 1))) with hb' | hb'
   ·have ztb:=hb'; clear hb'
    refine WL.pin (i:=18) rfl ztb ?_
    refine WL.e rfl rfl rfl ?_
    refine WL.e rfl rfl rfl ?_
    refine WL.a (d:=21) rfl rfl rfl (q_pickT rfl rfl) ?_
    exact WL.cutEnd () trivial (.cons rfl (.cons rfl (.cons rfl (.cons (zf (or_l ztb)) .nil)))) .nil
   ·have ztc:=hb'; clear hb'
    refine WL.pin (i:=18) rfl ztc ?_
    refine WL.a (d:=19) rfl rfl rfl (q_m rfl) ?_
    refine WL.a (d:=20) rfl rfl rfl (q_gtr rfl rfl) ?_
    refine WL.a (d:=21) rfl rfl rfl (q_pickF rfl rfl) ?_
    exact WL.cutEnd () trivial (.cons rfl (.cons rfl (.cons rfl (.cons (zf (or_r ztc)) .nil)))) .nil
  ·skip
   refine WL.a (d:=22) rfl rfl rfl (q_m rfl) ?_
   refine WL.cut0 True [(0,(.slice z8a z36.length z8b)),(1,(.int .i64 z2W)),(2,(.int .i64 z3D)),(25,(.bool ((((!z9h) || (decide (z2W < 1))) || (decide (z2W > 16))) || (decide (z3D < 0)))))] [] 3 ?_ (fun _=>?_)
   ·rcases Bool.eq_false_or_eq_true (((!z9h) || (decide (z2W < 1))) || (decide (z2W > 16))) with hb' | hb'
    ·have ztd:=hb'; clear hb'
     refine WL.pin (i:=22) rfl ztd ?_
     refine WL.e rfl rfl rfl ?_
     refine WL.e rfl rfl rfl ?_
     refine WL.a (d:=25) rfl rfl rfl (q_pickT rfl rfl) ?_
     exact WL.cutEnd () trivial (.cons rfl (.cons rfl (.cons rfl (.cons (zf (or_l ztd)) .nil)))) .nil
    ·have zte:=hb'; clear hb'
     refine WL.pin (i:=22) rfl zte ?_
     refine WL.a (d:=23) rfl rfl rfl (q_m rfl) ?_
     refine WL.a (d:=24) rfl rfl rfl (q_lss rfl rfl) ?_
     refine WL.a (d:=25) rfl rfl rfl (q_pickF rfl rfl) ?_
     exact WL.cutEnd () trivial (.cons rfl (.cons rfl (.cons rfl (.cons (zf (or_r zte)) .nil)))) .nil
   ·skip
    refine WL.a (d:=26) rfl rfl rfl (q_m rfl) ?_
    refine WL.cut0 True [(0,(.slice z8a z36.length z8b)),(1,(.int .i64 z2W)),(2,(.int .i64 z3D)),(29,(.bool (((((!z9h) || (decide (z2W < 1))) || (decide (z2W > 16))) || (decide (z3D < 0))) || (decide (z3D > 1000)))))] [] 3 ?_ (fun _=>?_)
    ·rcases Bool.eq_false_or_eq_true ((((!z9h) || (decide (z2W < 1))) || (decide (z2W > 16))) || (decide (z3D < 0))) with hb' | hb'
     ·have ztf:=hb'; clear hb'
      refine WL.pin (i:=26) rfl ztf ?_
      refine WL.e rfl rfl rfl ?_
      refine WL.e rfl rfl rfl ?_
      refine WL.a (d:=29) rfl rfl rfl (q_pickT rfl rfl) ?_
      exact WL.cutEnd () trivial (.cons rfl (.cons rfl (.cons rfl (.cons (zf (or_l ztf)) .nil)))) .nil
     ·have ztg:=hb'; clear hb'
      refine WL.pin (i:=26) rfl ztg ?_
      refine WL.a (d:=27) rfl rfl rfl (q_m rfl) ?_
      refine WL.a (d:=28) rfl rfl rfl (q_gtr rfl rfl) ?_
      refine WL.a (d:=29) rfl rfl rfl (q_pickF rfl rfl) ?_
      exact WL.cutEnd () trivial (.cons rfl (.cons rfl (.cons rfl (.cons (zf (or_r ztg)) .nil)))) .nil
    ·skip
     refine WL.nil ?_
     refine WX.a ?_
     refine WC.cond rfl (fun zoM=>?_) (fun zoM=>?_)
     ·replace h:=ite_t h zoM
      refine WC.b ?_
      refine WC.a ?_
      refine WL.a (d:=6) rfl rfl rfl (q_z rfl) ?_
      refine WL.a (d:=7) rfl rfl rfl (q_z rfl) ?_
      refine WL.nil ?_
      refine WX.a ?_
      refine WC.ret ?_
      refine WX.thenRet ?_
      refine WX.nilRow 3 1 ?_
      obtain rfl:=Option.some.inj h
      refine WX.bpRet Tryz.results9 (.tmp rfl (.tmp rfl .nil)) (fun w hw=>?_)
      exact ⟨none,0,ret2 rfl rfl,trivial,hw.sub (.cons .here .nil)⟩
     ·replace h:=ite_f h zoM
      refine WC.skip ?_
      refine WX.a ?_
      refine WC.b ?_
      refine WC.a ?_
      refine WL.a (d:=8) rfl rfl rfl (q_z rfl) ?_
      refine WL.nil ?_
      refine WX.a ?_
      obtain ⟨zbd,zBE,h⟩:=jp1_elim h
      refine WC.seqMid3 (fun (z9S : List Int) (zf2 : Option Addr) (zf3 : Nat)=>(zbd z9S = some r)) (fun (z9S : List Int) (zf2 : Option Addr) (zf3 : Nat)=>[(8,(.slice zf2 z9S.length zf3))]) (fun (z9S : List Int) (zf2 : Option Addr) (zf3 : Nat)=>[row (.slice zf2 z9S.length zf3) 3 1 (z9S.flatMap e3)]) ?_ ?_
      ·skip
       refine WC.b ?_
       refine WC.a ?_
       refine WL.a (d:=9) rfl rfl rfl (q_z rfl) ?_
       refine WL.nil ?_
       refine WX.a ?_
       refine WC.block ?_
       refine WC.nilRow 3 1 ?_
       refine WC.loop5 (fun (zf4 : Nat) (z3n : List Int) (z2u : Int) (z9T : Option Addr) (z9i : Nat)=>(m_ref03_Serve_L2 z36 z2W z3D zbd zf4 z3n z2u = some r)) (fun (zf4 : Nat) (z3n : List Int) (z2u : Int) (z9T : Option Addr) (z9i : Nat)=>[(0,(.slice z8a z36.length z8b)),(1,(.int .i64 z2W)),(2,(.int .i64 z3D)),(8,(.slice z9T z3n.length z9i)),(9,(.int .i64 z2u))]) (fun (zf4 : Nat) (z3n : List Int) (z2u : Int) (z9T : Option Addr) (z9i : Nat)=>[row (.slice z9T z3n.length z9i) 3 1 (z3n.flatMap e3)]) (fun (zf4 : Nat) (z3n : List Int) (z2u : Int) (z9T : Option Addr) (z9i : Nat)=>zf4) ⟨FUEL,([] : List Int),0,none,0⟩ h (.cons rfl (.cons rfl (.cons rfl (.cons rfl (.cons rfl .nil))))) (.cons .here .nil) ?_
       rintro zf4 z3n z2u z9T z9i h
       obtain ⟨zoK,rfl⟩:=m_ref03_Serve_L2_fuel h
       rw [m_ref03_Serve_L2] at h
       refine WC.b ?_
       refine WC.b ?_
       refine WC.a ?_
       refine WL.a (d:=30) rfl rfl rfl (q_m rfl) ?_
       refine WL.a (d:=31) rfl rfl rfl (q_m rfl) ?_
       refine WL.a (d:=32) rfl rfl rfl (q_len Tryz.underlying24 rfl) ?_
       refine WL.a (d:=33) rfl rfl rfl (q_lss rfl rfl) ?_
       refine WL.nil ?_
       refine WX.a ?_
       refine WC.cond rfl (fun zoN=>?_) (fun zoN=>?_)
       ·replace h:=ite_t h zoN
        refine WC.skip ?_
        refine WX.a ?_
        refine WC.b ?_
        refine WC.block ?_
        refine WC.b ?_
        obtain ⟨zBF,h⟩:=chk_elim h
        refine WC.a ?_
        refine WL.a (d:=36) rfl rfl rfl (q_m rfl) ?_
        refine WL.a (d:=37) rfl rfl rfl (q_m rfl) ?_
        refine WL.znth (dd:=38) rfl rfl (Z:=Z) (Pr:=(fun r x=>r = e58 x)) elT_24 rfl rfl zoL zBF ?_
        rintro zEP zEQ zBG zER rfl
        refine WL.a (d:=39) rfl rfl rfl (q_fieldAddr fo_58_0 rfl rfl) ?_
        refine WL.a (d:=40) rfl rfl rfl (q_load1 oneT_3 rfl (rd_zAt hz.pv zBG rfl)) ?_
        refine WL.a (d:=41) rfl rfl rfl (q_m rfl) ?_
        refine WL.a (d:=42) rfl rfl rfl (q_add rfl rfl rfl) ?_
        refine WL.a (d:=10) rfl rfl rfl (q_z rfl) ?_
        refine WL.nil ?_
        refine WX.a ?_
        obtain ⟨zj9,zBH,h⟩:=jp1_elim h
        refine WC.seqMid3 (fun (z89 : Int) (zgT : Option Addr) (zgU : Nat)=>(zj9 z89 = some r)) (fun (z89 : Int) (zgT : Option Addr) (zgU : Nat)=>[(0,(.slice z8a z36.length z8b)),(1,(.int .i64 z2W)),(2,(.int .i64 z3D)),(8,(.slice zgT z3n.length zgU)),(9,(.int .i64 z2u)),(10,(.int .i64 z89))]) (fun (z89 : Int) (zgT : Option Addr) (zgU : Nat)=>[row (.slice zgT z3n.length zgU) 3 1 (z3n.flatMap e3)]) ?_ ?_
        ·skip
         refine WC.b ?_
         obtain ⟨zBI,h⟩:=chk_elim h
         refine WC.a ?_
         refine WL.a (d:=43) rfl rfl rfl (q_m rfl) ?_
         refine WL.a (d:=44) rfl rfl rfl (q_gtr rfl rfl) ?_
         refine WL.a (d:=45) rfl rfl rfl (q_m rfl) ?_
         refine WL.cut0 True [(0,(.slice z8a z36.length z8b)),(1,(.int .i64 z2W)),(2,(.int .i64 z3D)),(8,(.slice z9T z3n.length z9i)),(9,(.int .i64 z2u)),(10,(.int .i64 (i64 (((nth z36 z2u).fTime) + z3D)))),(53,(.bool ((decide (z2u > 0)) && (decide ((nth z3n (i64 (z2u - 1))) > (i64 (((nth z36 z2u).fTime) + z3D)))))))] [row (.slice z9T z3n.length z9i) 3 1 (z3n.flatMap e3)] 8 ?_ (fun _=>?_)
         ·rcases Bool.eq_false_or_eq_true (decide (z2u > 0)) with hb' | hb'
          ·have zoO:=hb'; clear hb'
           have zgV:=zBI zoO
           refine WL.pin (i:=45) rfl zoO ?_
           refine WL.a (d:=46) rfl rfl rfl (q_m rfl) ?_
           refine WL.a (d:=47) rfl rfl rfl (q_m rfl) ?_
           refine WL.a (d:=48) rfl rfl rfl (q_sub rfl rfl rfl) ?_
           refine WL.know (fun w hw=>Hp.expose .here hw (by intro hz'; have:=zgV; rw [hz'] at this; omega)) ?_
           rintro ⟨zES,rfl⟩
           refine WL.a (d:=49) rfl rfl rfl (q_indexAddr elT_31 rfl rfl zgV.1 zgV.2 rowAdd) ?_
           refine WL.a (d:=50) rfl rfl rfl (q_load1 oneT_3 rfl (rd_row .here ((flat_rd (enc:=e3) (l:=z3n) (i:=i64 (z2u - 1)) (sz:=1) (fun _=>rfl) zgV.1 zgV.2) 0 _ rfl))) ?_
           refine WL.a (d:=51) rfl rfl rfl (q_m rfl) ?_
           refine WL.a (d:=52) rfl rfl rfl (q_gtr rfl rfl) ?_
           refine WL.a (d:=53) rfl rfl rfl (q_pickT rfl rfl) ?_
           exact WL.cutEnd () trivial (.cons rfl (.cons rfl (.cons rfl (.cons rfl (.cons rfl (.cons rfl (.cons (zf (and_r zoO)) .nil))))))) (.cons .here .nil)
          ·have zth:=hb'; clear hb'
           refine WL.pin (i:=45) rfl zth ?_
           refine WL.e rfl rfl rfl ?_
           refine WL.e rfl rfl rfl ?_
           refine WL.e rfl rfl rfl ?_
           refine WL.e rfl rfl rfl ?_
           refine WL.e rfl rfl rfl ?_
           refine WL.e rfl rfl rfl ?_
           refine WL.e rfl rfl rfl ?_
           refine WL.a (d:=53) rfl rfl rfl (q_pickF rfl rfl) ?_
           exact WL.cutEnd () trivial (.cons rfl (.cons rfl (.cons rfl (.cons rfl (.cons rfl (.cons rfl (.cons (zf (and_l zth)) .nil))))))) (.cons .here .nil)
         ·skip
          refine WL.nil ?_
          refine WX.a ?_
          refine WC.cond rfl (fun zoP=>?_) (fun zoP=>?_)
          ·replace h:=ite_t h zoP
           obtain ⟨zgW,h⟩:=chk_elim h
           refine WC.a ?_
           refine WL.a (d:=54) rfl rfl rfl (q_m rfl) ?_
           refine WL.a (d:=55) rfl rfl rfl (q_m rfl) ?_
           refine WL.a (d:=56) rfl rfl rfl (q_sub rfl rfl rfl) ?_
           refine WL.know (fun w hw=>Hp.expose .here hw (by intro hz'; have:=zgW; rw [hz'] at this; omega)) ?_
           rintro ⟨zBJ,rfl⟩
           refine WL.a (d:=57) rfl rfl rfl (q_indexAddr elT_31 rfl rfl zgW.1 zgW.2 rowAdd) ?_
           refine WL.a (d:=58) rfl rfl rfl (q_load1 oneT_3 rfl (rd_row .here ((flat_rd (enc:=e3) (l:=z3n) (i:=i64 (z2u - 1)) (sz:=1) (fun _=>rfl) zgW.1 zgW.2) 0 _ rfl))) ?_
           refine WL.a (d:=10) rfl rfl rfl (q_z rfl) ?_
           refine WL.nil ?_
           exact WX.mid (G:=Int × Option Addr × Nat) ⟨(nth z3n (i64 (z2u - 1))),(some ⟨zBJ,0,none⟩),z9i⟩ h (.cons rfl (.cons rfl (.cons rfl (.cons rfl (.cons rfl (.cons rfl .nil)))))) (.cons .here .nil)
          ·replace h:=ite_f h zoP
           refine WC.skip ?_
           exact WX.mid (G:=Int × Option Addr × Nat) ⟨(i64 (((nth z36 z2u).fTime) + z3D)),z9T,z9i⟩ h (.cons rfl (.cons rfl (.cons rfl (.cons rfl (.cons rfl (.cons rfl .nil)))))) (.cons .here .nil)
        ·rintro z89 zgT zgU h
         replace h:=(zBH z89).symm.trans h
         obtain ⟨zBK,h⟩:=chk_elim h
         obtain ⟨zBL,h⟩:=chk_elim h
         refine WC.a ?_
         refine WL.a (d:=59) rfl rfl rfl (q_m rfl) ?_
         refine WL.a (d:=60) rfl rfl rfl (q_m rfl) ?_
         refine WL.a (d:=61) rfl rfl rfl (q_m rfl) ?_
         refine WL.a (d:=62) rfl rfl rfl (q_m rfl) ?_
         refine WL.znth (dd:=63) rfl rfl (Z:=Z) (Pr:=(fun r x=>r = e58 x)) elT_24 rfl rfl zoL zBK ?_
         rintro zET zEU zBM zEV rfl
         refine WL.a (d:=64) rfl rfl rfl (q_fieldAddr fo_58_2 rfl rfl) ?_
         refine WL.a (d:=65) rfl rfl rfl (q_load1 oneT_3 rfl (rd_zAt hz.pv zBM rfl)) ?_
         refine WL.a (d:=66) rfl rfl rfl (q_m rfl) ?_
         refine WL.a (d:=67) rfl rfl rfl (q_mul rfl rfl rfl) ?_
         refine WL.a (d:=68) rfl rfl rfl (q_add rfl rfl rfl) ?_
         refine WL.new (dd:=69) rfl rfl rfl (e_buildSlice (cs:=([i64 (z89 + (i64 (((nth z36 z2u).fSize) * z2W)))] : List Int).flatMap e3) elT_31 (Eos.parts (l:=[.tmp 68]) (.cons rfl .nil) [0]) (fun _=>by kernel_rfl) rfl (by unfold maxLen; omega)) ?_
         intro zEW _
         refine WL.eff (d:=70) rfl rfl rfl (e_appendF (enc:=e3) (l1:=z3n) (l2:=([i64 (z89 + (i64 (((nth z36 z2u).fSize) * z2W)))] : List Int)) elT_31 rfl rfl .h1 (fun _=>rfl) rfl rfl (news_row .here) (oc_flat e3_oc _) zBL) ?_
         rintro ⟨zBN,zBO⟩ _
         refine WL.a (d:=8) rfl rfl rfl (q_z rfl) ?_
         refine WL.nil ?_
         refine WX.blockNormal ?_
         refine WX.a ?_
         refine WC.a ?_
         refine WL.a (d:=34) rfl rfl rfl (q_m rfl) ?_
         refine WL.a (d:=35) rfl rfl rfl (q_add rfl rfl rfl) ?_
         refine WL.a (d:=9) rfl rfl rfl (q_z rfl) ?_
         refine WL.nil ?_
         exact WX.round (G:=Nat × List Int × Int × Option Addr × Nat) ⟨zoK,(z3n ++ ([i64 (z89 + (i64 (((nth z36 z2u).fSize) * z2W)))] : List Int)),(i64 (z2u + 1)),zBN,zBO⟩ h (Nat.lt_succ_self _) (.cons rfl (.cons rfl (.cons rfl (.cons rfl (.cons rfl .nil))))) (.cons .here .nil)
       ·replace h:=ite_f h zoN
        refine WC.exit ?_
        refine WX.thenExit ?_
        refine WX.thenExit ?_
        refine WX.blockHit ?_
        exact WX.mid (G:=List Int × Option Addr × Nat) ⟨z3n,z9T,z9i⟩ h (.cons rfl .nil) (.cons .here .nil)
      ·rintro z9S zf2 zf3 h
       replace h:=(zBE z9S).symm.trans h
       refine WC.b ?_
       refine WC.a ?_
       refine WL.a (d:=71) rfl rfl rfl (q_m rfl) ?_
       refine WL.a (d:=6) rfl rfl rfl (q_z rfl) ?_
       refine WL.a (d:=7) rfl rfl rfl (q_z rfl) ?_
       refine WL.nil ?_
       refine WX.a ?_
       refine WC.ret ?_
       obtain rfl:=Option.some.inj h
       refine WX.bpRet Tryz.results9 (.tmp rfl (.tmp rfl .nil)) (fun w hw=>?_)
       exact ⟨zf2,zf3,ret2 rfl rfl,trivial,hw.sub (.cons .here .nil)⟩
end Go.Proofs.YtakfmdiiehcbdaaGreat
