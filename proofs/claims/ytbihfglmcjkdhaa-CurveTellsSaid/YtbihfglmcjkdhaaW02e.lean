/- A part of this claim's proof: models of functions, walks, plain laws. No conditions. -/
import Derived.Test.YtbihfglmcjkdhaaW02d
namespace Go.Proofs.Ytbihfglmcjkdhaa
open Go Go.RowKit Sep
set_option linter.all false
set_option maxRecDepth 30000
set_option maxHeartbeats 4000000
def m_ref02_At_L2 (z2W : List z1) (z1J : z2) (z8V : Int → Int → Option (z2 × Int)) : Nat → Int → Int → Int → Option (z2 × Int)
 | 0,_,_,_=>none
 | zj7 + 1,z3n,z4r,z4s=>if decide (z3n < ((z2W.length : Nat) : Int)) then jp2 (fun (z8W : Int) (z8X : Int)=>m_ref02_At_L2 z2W z1J z8V zj7 (i64 (z3n + 1)) z8W z8X) fun zfx=>chk ((0 : Int) ≤ z3n ∧ z3n < ((z2W.length : Nat) : Int)) ((m_ref02_value (⟨(⟨(((nth z2W z3n).fBurst).fN),(((nth z2W z3n).fBurst).fD)⟩ : z2),(⟨(((nth z2W z3n).fRate).fN),(((nth z2W z3n).fRate).fD)⟩ : z2)⟩ : z1) z1J).bind fun z35=>if decide (z35.2 ≠ 0) then some ((⟨0,0⟩ : z2),z35.2) else (if decide (z3n = 0) then some true else (m_ref01_Cmp z35.1 (⟨z4r,z4s⟩ : z2)).bind fun zj8=>some (decide (zj8 < 0))).bind fun zj9=>if zj9 then zfx z35.1.fN z35.1.fD else zfx z4r z4s) else z8V z4r z4s
theorem m_ref02_At_L2_fuel {n : Nat} {z2W : List z1} {z1J : z2} {z8V : Int → Int → Option (z2 × Int)} {z3n : Int} {z4r : Int} {z4s : Int} {r : z2 × Int} (h : m_ref02_At_L2 z2W z1J z8V n z3n z4r z4s = some r) : ∃ m,n = m + 1:=by
 cases n with
 | zero=>cases h
 | succ m=>exact ⟨m,rfl⟩
def m_ref02_At (z2W : List z1) (z1J : z2) : Option (z2 × Int) :=
 (m_ref02_Valid z2W).bind fun zfy=>(if !zfy then some true else (m_ref02_Good z1J).bind fun zja=>some (!zja)).bind fun zjb=>if zjb then some ((⟨0,0⟩ : z2),2) else jp2 (fun (z7D : Int) (z7E : Int)=>some ((⟨z7D,z7E⟩ : z2),0)) fun z8V=>m_ref02_At_L2 z2W z1J z8V FUEL 0 0 0
set_option maxRecDepth 20000 in
theorem w_ref02_At (Z : Zp)  (z87 : Option Addr) (z88 : Nat) (z2W : List z1) (z1J : z2) (r : z2 × Int) (w₀ : World) (hz : PZ [] w₀ Z)
  (znD : ZS Z 4 (fun r x=>r = e42 x) z87 z88 z2W)
  (h : m_ref02_At z2W z1J = some r) :
  Calls Try.prog 24 #[(.slice z87 z2W.length z88),(.agg #[(.int .i64 z1J.fN),(.int .i64 z1J.fD)])] w₀ fun e w'=>e = .returned (.tuple #[(.agg #[(.int .i64 r.1.fN),(.int .i64 r.1.fD)]),(.int .i64 r.2)]) ∧ Hp [] w₀ w' []:=by
 unfold m_ref02_At at h
 refine Calls.ofWC (vs:=[(.slice z87 z2W.length z88),(.agg #[(.int .i64 z1J.fN),(.int .i64 z1J.fD)])]) (pre:=[]) (env:=[(0,(.slice z87 z2W.length z88)),(1,(.agg #[(.int .i64 z1J.fN),(.int .i64 z1J.fD)]))]) Try.func24 rfl Try.ntmps24 rfl (Hp.nil w₀ _) rfl ?_
 refine WC.seq ?_
 refine WC.region ?_
 refine WL.new (dd:=3) rfl rfl rfl (e_box (cs:=[(.int .i64 z1J.fN),(.int .i64 z1J.fD)]) rfl rfl) ?_
 intro z4K _
 refine WL.new (dd:=4) rfl rfl rfl (e_alloc (cs:=[(.int .i64 0),(.int .i64 0)]) zeroT_28 rfl) ?_
 intro z4e _
 refine WL.quiet (d:=5) rfl rfl rfl (q_assign rfl) ?_
 refine WL.nil ?_
 refine WX.then ?_
 refine WC.seq ?_
 refine WC.seq ?_
 obtain ⟨zfy,ztM,h⟩:=zb h
 obtain ⟨zjb,znE,h⟩:=zb h
 refine WC.region ?_
 refine WL.quiet (d:=10) rfl rfl rfl (q_move rfl) ?_
 refine WL.callD (dd:=11) rfl rfl rfl (zg (l:=[.tmp 10]) Try.call27 (.cons rfl .nil)) (.nil : Sel [stb z4e 28 [(.int .i64 0),(.int .i64 0)],stb z4K 28 [(.int .i64 z1J.fN),(.int .i64 z1J.fD)]] [] [stb z4e 28 [(.int .i64 0),(.int .i64 0)],stb z4K 28 [(.int .i64 z1J.fN),(.int .i64 z1J.fD)]]) (fun w hw=>by have pz:=(hz.call hw (.nil : Sel [stb z4e 28 [(.int .i64 0),(.int .i64 0)],stb z4K 28 [(.int .i64 z1J.fN),(.int .i64 z1J.fD)]] [] [stb z4e 28 [(.int .i64 0),(.int .i64 0)],stb z4K 28 [(.int .i64 z1J.fN),(.int .i64 z1J.fD)]])); exact w_ref02_Valid (Z:=_) (z5L:=z87) (z5M:=z88) (z2n:=z2W) (r:=zfy) w pz znD ztM) ?_
 refine WL.quiet (d:=12) rfl rfl rfl (q_not rfl) ?_
 refine WL.quiet (d:=13) rfl rfl rfl (q_move rfl) ?_
 refine WL.cut0 True [(0,(.slice z87 z2W.length z88)),(3,(.pointer (some ⟨z4K,0,none⟩))),(4,(.pointer (some ⟨z4e,0,none⟩))),(17,(.bool zjb))] [stb z4e 28 [(.int .i64 0),(.int .i64 0)],stb z4K 28 [(.int .i64 z1J.fN),(.int .i64 z1J.fD)]] 4 ?_ (fun _=>?_)
 ·rcases Bool.eq_false_or_eq_true (!zfy) with hb' | hb'
  ·have znF:=hb'; clear hb'
   have zjc:=ite_t znE znF
   replace zjc:=Option.some.inj zjc
   refine WL.pin (i:=13) rfl znF ?_
   refine WL.skip rfl rfl rfl ?_
   refine WL.skip rfl rfl rfl ?_
   refine WL.skip rfl rfl rfl ?_
   refine WL.quiet (d:=17) rfl rfl rfl (q_pickT rfl rfl) ?_
   exact WL.cutEnd () trivial (.cons rfl (.cons rfl (.cons rfl (.cons (zl zjc) .nil)))) (.cons .here (.cons .here .nil))
  ·have znG:=hb'; clear hb'
   have zdZ:=ite_f znE znG
   obtain ⟨zja,ztN,zdZ⟩:=zb zdZ
   replace zdZ:=Option.some.inj zdZ
   refine WL.pin (i:=13) rfl znG ?_
   refine WL.quiet (d:=14) rfl rfl rfl (q_loadA (cs:=[(.int .i64 z1J.fN),(.int .i64 z1J.fD)]) aggT_28 rfl rfl (rd_all (.there .here))) ?_
   refine WL.callD (dd:=15) rfl rfl rfl (zg (l:=[.tmp 14]) Try.call53 (.cons rfl .nil)) (.nil : Sel [stb z4e 28 [(.int .i64 0),(.int .i64 0)],stb z4K 28 [(.int .i64 z1J.fN),(.int .i64 z1J.fD)]] [] [stb z4e 28 [(.int .i64 0),(.int .i64 0)],stb z4K 28 [(.int .i64 z1J.fN),(.int .i64 z1J.fD)]]) (fun w hw=>by have pz:=(hz.call hw (.nil : Sel [stb z4e 28 [(.int .i64 0),(.int .i64 0)],stb z4K 28 [(.int .i64 z1J.fN),(.int .i64 z1J.fD)]] [] [stb z4e 28 [(.int .i64 0),(.int .i64 0)],stb z4K 28 [(.int .i64 z1J.fN),(.int .i64 z1J.fD)]])); exact w_ref02_Good (Z:=_)  (z3j:=z1J) (r:=zja) w pz  ztN) ?_
   refine WL.quiet (d:=16) rfl rfl rfl (q_not rfl) ?_
   refine WL.quiet (d:=17) rfl rfl rfl (q_pickF rfl rfl) ?_
   exact WL.cutEnd () trivial (.cons rfl (.cons rfl (.cons rfl (.cons (zl zdZ) .nil)))) (.cons .here (.cons .here .nil))
 ·skip
  refine WL.nil ?_
  refine WX.then ?_
  refine WC.cond rfl (fun zjd=>?_) (fun zjd=>?_)
  ·replace h:=ite_t h zjd
   refine WC.seq ?_
   refine WC.region ?_
   refine WL.quiet (d:=18) rfl rfl rfl (q_build (v:=(.agg #[(.int .i64 0),(.int .i64 0)])) (Eos.parts (l:=[]) .nil []) (fun _=>by kernel_rfl)) ?_
   refine WL.eff0 rfl rfl (e_store (vs:=[(.int .i64 0),(.int .i64 0)]) (ds:=[(.int .i64 0),(.int .i64 0)]) sizT_28 rfl rfl rfl rfl (oc_cons rfl (oc_cons rfl oc_nil)) .here (Nat.le_of_ble_eq_true rfl) rfl) ?_
   refine WL.quiet (d:=5) rfl rfl rfl (q_assign rfl) ?_
   refine WL.nil ?_
   refine WX.then ?_
   refine WC.ret ?_
   refine WX.thenRet ?_
   obtain rfl:=Option.some.inj h
   refine WX.bpRet Try.results24 (.agg rfl aggT_28 rfl (rd_all .here) (.tmp rfl .nil)) (fun w hw=>?_)
   exact ⟨ret2 rfl rfl,hw.sub .nil⟩
  ·replace h:=ite_f h zjd
   refine WC.skip ?_
   refine WX.then ?_
   refine WC.seq ?_
   refine WC.region ?_
   refine WL.new (dd:=6) rfl rfl rfl (e_alloc (cs:=[(.int .i64 0),(.int .i64 0)]) zeroT_28 rfl) ?_
   intro z6x _
   refine WL.nil ?_
   refine WX.then ?_
   obtain ⟨z8V,ztO,h⟩:=jp2_elim h
   refine WC.seqMid2 (fun (z7D : Int) (z7E : Int)=>(z8V z7D z7E = some r)) (fun (z7D : Int) (z7E : Int)=>[(4,(.pointer (some ⟨z4e,0,none⟩))),(6,(.pointer (some ⟨z6x,0,none⟩)))]) (fun (z7D : Int) (z7E : Int)=>[stb z4e 28 [(.int .i64 0),(.int .i64 0)],stb z6x 28 [(.int .i64 z7D),(.int .i64 z7E)]]) ?_ ?_
   ·skip
    refine WC.seq ?_
    refine WC.region ?_
    refine WL.quiet (d:=7) rfl rfl rfl (q_assign rfl) ?_
    refine WL.nil ?_
    refine WX.then ?_
    refine WC.block ?_
    refine WC.loop4 (fun (zc3 : Nat) (z3n : Int) (z4r : Int) (z4s : Int)=>(m_ref02_At_L2 z2W z1J z8V zc3 z3n z4r z4s = some r)) (fun (zc3 : Nat) (z3n : Int) (z4r : Int) (z4s : Int)=>[(0,(.slice z87 z2W.length z88)),(3,(.pointer (some ⟨z4K,0,none⟩))),(4,(.pointer (some ⟨z4e,0,none⟩))),(6,(.pointer (some ⟨z6x,0,none⟩))),(7,(.int .i64 z3n))]) (fun (zc3 : Nat) (z3n : Int) (z4r : Int) (z4s : Int)=>[stb z4K 28 [(.int .i64 z1J.fN),(.int .i64 z1J.fD)],stb z4e 28 [(.int .i64 0),(.int .i64 0)],stb z6x 28 [(.int .i64 z4r),(.int .i64 z4s)]]) (fun (zc3 : Nat) (z3n : Int) (z4r : Int) (z4s : Int)=>zc3) ⟨FUEL,0,0,0⟩ h (.cons rfl (.cons rfl (.cons rfl (.cons rfl (.cons rfl .nil))))) (.cons (.there (.there .here)) (.cons (.there .here) (.cons .here .nil))) ?_
    rintro zc3 z3n z4r z4s h
    obtain ⟨zj7,rfl⟩:=m_ref02_At_L2_fuel h
    rw [m_ref02_At_L2] at h
    refine WC.seq ?_
    refine WC.seq ?_
    refine WC.region ?_
    refine WL.quiet (d:=19) rfl rfl rfl (q_move rfl) ?_
    refine WL.quiet (d:=20) rfl rfl rfl (q_move rfl) ?_
    refine WL.quiet (d:=21) rfl rfl rfl (q_len Try.underlying25 rfl) ?_
    refine WL.quiet (d:=22) rfl rfl rfl (q_lss rfl rfl) ?_
    refine WL.nil ?_
    refine WX.then ?_
    refine WC.cond rfl (fun zje=>?_) (fun zje=>?_)
    ·replace h:=ite_t h zje
     refine WC.skip ?_
     refine WX.then ?_
     obtain ⟨zfx,ztP,h⟩:=jp2_elim h
     refine WC.seqMid2 (fun (z8W : Int) (z8X : Int)=>(zfx z8W z8X = some r)) (fun (z8W : Int) (z8X : Int)=>[(0,(.slice z87 z2W.length z88)),(3,(.pointer (some ⟨z4K,0,none⟩))),(4,(.pointer (some ⟨z4e,0,none⟩))),(6,(.pointer (some ⟨z6x,0,none⟩))),(7,(.int .i64 z3n))]) (fun (z8W : Int) (z8X : Int)=>[stb z4K 28 [(.int .i64 z1J.fN),(.int .i64 z1J.fD)],stb z4e 28 [(.int .i64 0),(.int .i64 0)],stb z6x 28 [(.int .i64 z8W),(.int .i64 z8X)]]) ?_ ?_
     ·skip
      refine WC.block ?_
      refine WC.seq ?_
      obtain ⟨ztQ,h⟩:=chk_elim h
      obtain ⟨z35,ztR,h⟩:=zb h
      refine WC.draw (fun i=>[10].contains i) [] rfl ?_
      refine WD.pure (i:=0) (d:=26) (by kernel_rfl) rfl (z6 (by kernel_rfl)) (z7 (by kernel_rfl)) rfl rfl rfl (fun _=>q_move rfl) ?_
      refine WD.pure (i:=1) (d:=27) (by kernel_rfl) rfl (z6 (by kernel_rfl)) (z7 (by kernel_rfl)) rfl rfl rfl (fun _=>q_move rfl) ?_
      refine WD.znth (j:=2) (dd:=28) (by kernel_rfl) rfl (z6 (by kernel_rfl)) (z7 (by kernel_rfl)) rfl rfl (Z:=Z) (Pr:=(fun r x=>r = e42 x)) elT_25 rfl rfl znD ztQ ?_
      rintro zy5 zy6 ztS zy7 rfl
      refine WD.quiet (i:=3) (d:=29) (by kernel_rfl) rfl (z6 (by kernel_rfl)) (z7 (by kernel_rfl)) rfl rfl rfl (q_loadA (cs:=[(.int .i64 (((nth z2W z3n).fBurst).fN)),(.int .i64 (((nth z2W z3n).fBurst).fD)),(.int .i64 (((nth z2W z3n).fRate).fN)),(.int .i64 (((nth z2W z3n).fRate).fD))]) aggT_42 rfl rfl (rd_zs hz.pv ztS)) ?_
      refine WD.quiet (i:=4) (d:=30) (by kernel_rfl) rfl (z6 (by kernel_rfl)) (z7 (by kernel_rfl)) rfl rfl rfl (q_loadA (cs:=[(.int .i64 z1J.fN),(.int .i64 z1J.fD)]) aggT_28 rfl rfl (rd_all .here)) ?_
      refine WD.enter (i:=5) (d:=31) (by kernel_rfl) rfl (z6 (by kernel_rfl)) (z7 (by kernel_rfl)) rfl rfl rfl (zg (l:=[.tmp 29,.tmp 30]) Try.call54 (.cons rfl (.cons rfl .nil))) (fun w hw=>by have pz:=(hz.call hw (.nil : Sel [stb z4K 28 [(.int .i64 z1J.fN),(.int .i64 z1J.fD)],stb z4e 28 [(.int .i64 0),(.int .i64 0)],stb z6x 28 [(.int .i64 z4r),(.int .i64 z4s)]] [] [stb z4K 28 [(.int .i64 z1J.fN),(.int .i64 z1J.fD)],stb z4e 28 [(.int .i64 0),(.int .i64 0)],stb z6x 28 [(.int .i64 z4r),(.int .i64 z4s)]])); exact w_ref02_value (Z:=_)  (z1M:=(⟨(⟨(((nth z2W z3n).fBurst).fN),(((nth z2W z3n).fBurst).fD)⟩ : z2),(⟨(((nth z2W z3n).fRate).fN),(((nth z2W z3n).fRate).fD)⟩ : z2)⟩ : z1)) (z34:=z1J) (r:=z35) w pz  ztR) ?_
      refine WD.pure (i:=6) (d:=25) (by kernel_rfl) rfl (z6 (by kernel_rfl)) (z7 (by kernel_rfl)) rfl rfl rfl (fun _=>q_move rfl) ?_
      refine WD.pure (i:=7) (d:=32) (by kernel_rfl) rfl (z6 (by kernel_rfl)) (z7 (by kernel_rfl)) rfl rfl rfl (fun _=>q_extract rfl rfl) ?_
      refine WD.pure (i:=8) (d:=33) (by kernel_rfl) rfl (z6 (by kernel_rfl)) (z7 (by kernel_rfl)) rfl rfl rfl (fun _=>q_extract rfl rfl) ?_
      refine WD.new (i:=9) (dd:=8) rfl (by kernel_rfl) rfl rfl rfl (e_alloc (cs:=[(.int .i64 0),(.int .i64 0)]) zeroT_28 rfl) (fun h'=>absurd h' (by decide)) ?_
      intro zc4 _
      refine WD.forced0 (i:=10) rfl (by kernel_rfl) rfl rfl rfl (Sin.of .nil) (e_store (vs:=[(.int .i64 z35.1.fN),(.int .i64 z35.1.fD)]) (ds:=[(.int .i64 z35.1.fN),(.int .i64 z35.1.fD)]) sizT_28 rfl rfl rfl rfl (oc_cons rfl (oc_cons rfl oc_nil)) .here (Nat.le_of_ble_eq_true rfl) rfl) ?_
      refine WD.pure (i:=11) (d:=9) (by kernel_rfl) rfl (z6 (by kernel_rfl)) (z7 (by kernel_rfl)) rfl rfl rfl (fun _=>q_assign rfl) ?_
      refine WD.done (by kernel_rfl) ?_
      refine WX.then ?_
      refine WC.seq ?_
      refine WC.seq ?_
      refine WC.region ?_
      refine WL.quiet (d:=34) rfl rfl rfl (q_move rfl) ?_
      refine WL.quiet (d:=35) rfl rfl rfl (q_neq rfl rfl) ?_
      refine WL.nil ?_
      refine WX.then ?_
      refine WC.cond rfl (fun zjf=>?_) (fun zjf=>?_)
      ·replace h:=ite_t h zjf
       refine WC.seq ?_
       refine WC.region ?_
       refine WL.quiet (d:=36) rfl rfl rfl (q_build (v:=(.agg #[(.int .i64 0),(.int .i64 0)])) (Eos.parts (l:=[]) .nil []) (fun _=>by kernel_rfl)) ?_
       refine WL.quiet (d:=37) rfl rfl rfl (q_move rfl) ?_
       refine WL.eff0 rfl rfl (e_store (vs:=[(.int .i64 0),(.int .i64 0)]) (ds:=[(.int .i64 0),(.int .i64 0)]) sizT_28 rfl rfl rfl rfl (oc_cons rfl (oc_cons rfl oc_nil)) (.there (.there .here)) (Nat.le_of_ble_eq_true rfl) rfl) ?_
       refine WL.quiet (d:=5) rfl rfl rfl (q_assign rfl) ?_
       refine WL.nil ?_
       refine WX.then ?_
       refine WC.ret ?_
       refine WX.thenRet ?_
       refine WX.blockRet ?_
       refine WX.thenRet ?_
       refine WX.thenRet ?_
       refine WX.blockRet ?_
       refine WX.thenRet ?_
       obtain rfl:=Option.some.inj h
       refine WX.bpRet Try.results24 (.agg rfl aggT_28 rfl (rd_all .here) (.tmp rfl .nil)) (fun w hw=>?_)
       exact ⟨ret2 rfl rfl,hw.sub .nil⟩
      ·replace h:=ite_f h zjf
       refine WC.skip ?_
       refine WX.then ?_
       refine WC.seq ?_
       obtain ⟨zj9,znH,h⟩:=zb h
       refine WC.region ?_
       refine WL.quiet (d:=38) rfl rfl rfl (q_move rfl) ?_
       refine WL.quiet (d:=39) rfl rfl rfl (q_eql rfl rfl) ?_
       refine WL.quiet (d:=40) rfl rfl rfl (q_move rfl) ?_
       refine WL.cut0 True [(0,(.slice z87 z2W.length z88)),(3,(.pointer (some ⟨z4K,0,none⟩))),(4,(.pointer (some ⟨z4e,0,none⟩))),(6,(.pointer (some ⟨z6x,0,none⟩))),(7,(.int .i64 z3n)),(8,(.pointer (some ⟨zc4,0,none⟩))),(45,(.bool zj9))] [stb zc4 28 [(.int .i64 z35.1.fN),(.int .i64 z35.1.fD)],stb z4K 28 [(.int .i64 z1J.fN),(.int .i64 z1J.fD)],stb z4e 28 [(.int .i64 0),(.int .i64 0)],stb z6x 28 [(.int .i64 z4r),(.int .i64 z4s)]] 5 ?_ (fun _=>?_)
       ·rcases Bool.eq_false_or_eq_true (decide (z3n = 0)) with hb' | hb'
        ·have znI:=hb'; clear hb'
         have zjg:=ite_t znH znI
         replace zjg:=Option.some.inj zjg
         refine WL.pin (i:=40) rfl znI ?_
         refine WL.skip rfl rfl rfl ?_
         refine WL.skip rfl rfl rfl ?_
         refine WL.skip rfl rfl rfl ?_
         refine WL.skip rfl rfl rfl ?_
         refine WL.quiet (d:=45) rfl rfl rfl (q_pickT rfl rfl) ?_
         exact WL.cutEnd () trivial (.cons rfl (.cons rfl (.cons rfl (.cons rfl (.cons rfl (.cons rfl (.cons (zl zjg) .nil))))))) (.cons .here (.cons .here (.cons .here (.cons .here .nil))))
        ·have znJ:=hb'; clear hb'
         have ze0:=ite_f znH znJ
         obtain ⟨zj8,ztT,ze0⟩:=zb ze0
         replace ze0:=Option.some.inj ze0
         refine WL.pin (i:=40) rfl znJ ?_
         refine WL.quiet (d:=41) rfl rfl rfl (q_loadA (cs:=[(.int .i64 z35.1.fN),(.int .i64 z35.1.fD)]) aggT_28 rfl rfl (rd_all .here)) ?_
         refine WL.quiet (d:=42) rfl rfl rfl (q_loadA (cs:=[(.int .i64 z4r),(.int .i64 z4s)]) aggT_28 rfl rfl (rd_all (.there (.there (.there .here))))) ?_
         refine WL.callD (dd:=43) rfl rfl rfl (zg (l:=[.tmp 41,.tmp 42]) Try.call55 (.cons rfl (.cons rfl .nil))) (.nil : Sel [stb zc4 28 [(.int .i64 z35.1.fN),(.int .i64 z35.1.fD)],stb z4K 28 [(.int .i64 z1J.fN),(.int .i64 z1J.fD)],stb z4e 28 [(.int .i64 0),(.int .i64 0)],stb z6x 28 [(.int .i64 z4r),(.int .i64 z4s)]] [] [stb zc4 28 [(.int .i64 z35.1.fN),(.int .i64 z35.1.fD)],stb z4K 28 [(.int .i64 z1J.fN),(.int .i64 z1J.fD)],stb z4e 28 [(.int .i64 0),(.int .i64 0)],stb z6x 28 [(.int .i64 z4r),(.int .i64 z4s)]]) (fun w hw=>by have pz:=(hz.call hw (.nil : Sel [stb zc4 28 [(.int .i64 z35.1.fN),(.int .i64 z35.1.fD)],stb z4K 28 [(.int .i64 z1J.fN),(.int .i64 z1J.fD)],stb z4e 28 [(.int .i64 0),(.int .i64 0)],stb z6x 28 [(.int .i64 z4r),(.int .i64 z4s)]] [] [stb zc4 28 [(.int .i64 z35.1.fN),(.int .i64 z35.1.fD)],stb z4K 28 [(.int .i64 z1J.fN),(.int .i64 z1J.fD)],stb z4e 28 [(.int .i64 0),(.int .i64 0)],stb z6x 28 [(.int .i64 z4r),(.int .i64 z4s)]])); exact w_ref01_Cmp (Z:=_)  (z2h:=z35.1) (z2i:=(⟨z4r,z4s⟩ : z2)) (r:=zj8) w pz  ztT) ?_
         refine WL.quiet (d:=44) rfl rfl rfl (q_lss rfl rfl) ?_
         refine WL.quiet (d:=45) rfl rfl rfl (q_pickF rfl rfl) ?_
         exact WL.cutEnd () trivial (.cons rfl (.cons rfl (.cons rfl (.cons rfl (.cons rfl (.cons rfl (.cons (zl ze0) .nil))))))) (.cons .here (.cons .here (.cons .here (.cons .here .nil))))
       ·skip
        refine WL.nil ?_
        refine WX.then ?_
        refine WC.cond rfl (fun zjh=>?_) (fun zjh=>?_)
        ·replace h:=ite_t h zjh
         refine WC.region ?_
         refine WL.quiet (d:=46) rfl rfl rfl (q_loadA (cs:=[(.int .i64 z35.1.fN),(.int .i64 z35.1.fD)]) aggT_28 rfl rfl (rd_all .here)) ?_
         refine WL.eff0 rfl rfl (e_store (vs:=[(.int .i64 z35.1.fN),(.int .i64 z35.1.fD)]) (ds:=[(.int .i64 z35.1.fN),(.int .i64 z35.1.fD)]) sizT_28 rfl rfl rfl rfl (oc_cons rfl (oc_cons rfl oc_nil)) (.there (.there (.there .here))) (Nat.le_of_ble_eq_true rfl) rfl) ?_
         refine WL.nil ?_
         refine WX.blockNormal ?_
         exact WX.mid (G:=Int × Int) ⟨z35.1.fN,z35.1.fD⟩ h (.cons rfl (.cons rfl (.cons rfl (.cons rfl (.cons rfl .nil))))) (.cons (.there (.there .here)) (.cons (.there (.there .here)) (.cons .here .nil)))
        ·replace h:=ite_f h zjh
         refine WC.skip ?_
         refine WX.blockNormal ?_
         exact WX.mid (G:=Int × Int) ⟨z4r,z4s⟩ h (.cons rfl (.cons rfl (.cons rfl (.cons rfl (.cons rfl .nil))))) (.cons (.there .here) (.cons (.there .here) (.cons (.there .here) .nil)))
     ·rintro z8W z8X h
      replace h:=(ztP z8W z8X).symm.trans h
      refine WC.region ?_
      refine WL.quiet (d:=23) rfl rfl rfl (q_move rfl) ?_
      refine WL.quiet (d:=24) rfl rfl rfl (q_add rfl rfl rfl) ?_
      refine WL.quiet (d:=7) rfl rfl rfl (q_assign rfl) ?_
      refine WL.nil ?_
      exact WX.round (G:=Nat × Int × Int × Int) ⟨zj7,(i64 (z3n + 1)),z8W,z8X⟩ h (Nat.lt_succ_self _) (.cons rfl (.cons rfl (.cons rfl (.cons rfl (.cons rfl .nil))))) (.cons .here (.cons .here (.cons .here .nil)))
    ·replace h:=ite_f h zje
     refine WC.exit ?_
     refine WX.thenExit ?_
     refine WX.thenExit ?_
     refine WX.blockHit ?_
     exact WX.mid (G:=Int × Int) ⟨z4r,z4s⟩ h (.cons rfl (.cons rfl .nil)) (.cons (.there .here) (.cons (.there .here) .nil))
   ·rintro z7D z7E h
    replace h:=(ztO z7D z7E).symm.trans h
    refine WC.seq ?_
    refine WC.region ?_
    refine WL.quiet (d:=47) rfl rfl rfl (q_loadA (cs:=[(.int .i64 z7D),(.int .i64 z7E)]) aggT_28 rfl rfl (rd_all (.there .here))) ?_
    refine WL.eff0 rfl rfl (e_store (vs:=[(.int .i64 z7D),(.int .i64 z7E)]) (ds:=[(.int .i64 z7D),(.int .i64 z7E)]) sizT_28 rfl rfl rfl rfl (oc_cons rfl (oc_cons rfl oc_nil)) .here (Nat.le_of_ble_eq_true rfl) rfl) ?_
    refine WL.quiet (d:=5) rfl rfl rfl (q_assign rfl) ?_
    refine WL.nil ?_
    refine WX.then ?_
    refine WC.ret ?_
    obtain rfl:=Option.some.inj h
    refine WX.bpRet Try.results24 (.agg rfl aggT_28 rfl (rd_all .here) (.tmp rfl .nil)) (fun w hw=>?_)
    exact ⟨ret2 rfl rfl,hw.sub .nil⟩
def m_ref02_Rate_L2 (z2d : List z1) (z8Y : Int → Int → Option (z2 × Int)) : Nat → Int → Int → Int → Option (z2 × Int)
 | 0,_,_,_=>none
 | zji + 1,z2X,z5v,z5w=>if decide (z2X < ((z2d.length : Nat) : Int)) then jp2 (fun (z8Z : Int) (z90 : Int)=>m_ref02_Rate_L2 z2d z8Y zji (i64 (z2X + 1)) z8Z z90) fun zfz=>chk ((0 : Int) ≤ z2X ∧ z2X < ((z2d.length : Nat) : Int)) ((m_ref01_Cmp (⟨(((nth z2d z2X).fRate).fN),(((nth z2d z2X).fRate).fD)⟩ : z2) (⟨z5v,z5w⟩ : z2)).bind fun zjj=>if decide (zjj < 0) then chk ((0 : Int) ≤ z2X ∧ z2X < ((z2d.length : Nat) : Int)) (zfz (((nth z2d z2X).fRate).fN) (((nth z2d z2X).fRate).fD)) else zfz z5v z5w) else z8Y z5v z5w
theorem m_ref02_Rate_L2_fuel {n : Nat} {z2d : List z1} {z8Y : Int → Int → Option (z2 × Int)} {z2X : Int} {z5v : Int} {z5w : Int} {r : z2 × Int} (h : m_ref02_Rate_L2 z2d z8Y n z2X z5v z5w = some r) : ∃ m,n = m + 1:=by
 cases n with
 | zero=>cases h
 | succ m=>exact ⟨m,rfl⟩
def m_ref02_Rate (z2d : List z1) : Option (z2 × Int) :=
 (m_ref02_Valid z2d).bind fun zjk=>if !zjk then some ((⟨0,0⟩ : z2),2) else chk ((0 : Int) ≤ 0 ∧ 0 < ((z2d.length : Nat) : Int)) (jp2 (fun (z7F : Int) (z7G : Int)=>some ((⟨z7F,z7G⟩ : z2),0)) fun z8Y=>m_ref02_Rate_L2 z2d z8Y FUEL 1 (((nth z2d 0).fRate).fN) (((nth z2d 0).fRate).fD))
set_option maxRecDepth 20000 in
theorem w_ref02_Rate (Z : Zp)  (za6 : Option Addr) (za7 : Nat) (z2d : List z1) (r : z2 × Int) (w₀ : World) (hz : PZ [] w₀ Z)
  (zfA : ZS Z 4 (fun r x=>r = e42 x) za6 za7 z2d)
  (h : m_ref02_Rate z2d = some r) :
  Calls Try.prog 25 #[(.slice za6 z2d.length za7)] w₀ fun e w'=>e = .returned (.tuple #[(.agg #[(.int .i64 r.1.fN),(.int .i64 r.1.fD)]),(.int .i64 r.2)]) ∧ Hp [] w₀ w' []:=by
 unfold m_ref02_Rate at h
 refine Calls.ofWC (vs:=[(.slice za6 z2d.length za7)]) (pre:=[]) (env:=[(0,(.slice za6 z2d.length za7))]) Try.func25 rfl Try.ntmps25 rfl (Hp.nil w₀ _) rfl ?_
 refine WC.seq ?_
 refine WC.region ?_
 refine WL.new (dd:=2) rfl rfl rfl (e_alloc (cs:=[(.int .i64 0),(.int .i64 0)]) zeroT_28 rfl) ?_
 intro z7b _
 refine WL.quiet (d:=3) rfl rfl rfl (q_assign rfl) ?_
 refine WL.nil ?_
 refine WX.then ?_
 refine WC.seq ?_
 refine WC.seq ?_
 obtain ⟨zjk,ztU,h⟩:=zb h
 refine WC.region ?_
 refine WL.quiet (d:=6) rfl rfl rfl (q_move rfl) ?_
 refine WL.callD (dd:=7) rfl rfl rfl (zg (l:=[.tmp 6]) Try.call27 (.cons rfl .nil)) (.nil : Sel [stb z7b 28 [(.int .i64 0),(.int .i64 0)]] [] [stb z7b 28 [(.int .i64 0),(.int .i64 0)]]) (fun w hw=>by have pz:=(hz.call hw (.nil : Sel [stb z7b 28 [(.int .i64 0),(.int .i64 0)]] [] [stb z7b 28 [(.int .i64 0),(.int .i64 0)]])); exact w_ref02_Valid (Z:=_) (z5L:=za6) (z5M:=za7) (z2n:=z2d) (r:=zjk) w pz zfA ztU) ?_
 refine WL.quiet (d:=8) rfl rfl rfl (q_not rfl) ?_
 refine WL.nil ?_
 refine WX.then ?_
 refine WC.cond rfl (fun zjl=>?_) (fun zjl=>?_)
 ·replace h:=ite_t h zjl
  refine WC.seq ?_
  refine WC.region ?_
  refine WL.quiet (d:=9) rfl rfl rfl (q_build (v:=(.agg #[(.int .i64 0),(.int .i64 0)])) (Eos.parts (l:=[]) .nil []) (fun _=>by kernel_rfl)) ?_
  refine WL.eff0 rfl rfl (e_store (vs:=[(.int .i64 0),(.int .i64 0)]) (ds:=[(.int .i64 0),(.int .i64 0)]) sizT_28 rfl rfl rfl rfl (oc_cons rfl (oc_cons rfl oc_nil)) .here (Nat.le_of_ble_eq_true rfl) rfl) ?_
  refine WL.quiet (d:=3) rfl rfl rfl (q_assign rfl) ?_
  refine WL.nil ?_
  refine WX.then ?_
  refine WC.ret ?_
  refine WX.thenRet ?_
  obtain rfl:=Option.some.inj h
  refine WX.bpRet Try.results25 (.agg rfl aggT_28 rfl (rd_all .here) (.tmp rfl .nil)) (fun w hw=>?_)
  exact ⟨ret2 rfl rfl,hw.sub .nil⟩
 ·replace h:=ite_f h zjl
  refine WC.skip ?_
  refine WX.then ?_
  refine WC.seq ?_
  obtain ⟨ztV,h⟩:=chk_elim h
  refine WC.region ?_
  refine WL.quiet (d:=10) rfl rfl rfl (q_move rfl) ?_
  refine WL.znth (dd:=11) rfl rfl (Z:=Z) (Pr:=(fun r x=>r = e42 x)) elT_25 rfl rfl zfA ztV ?_
  rintro zy8 zy9 ztW zya rfl
  refine WL.quiet (d:=12) rfl rfl rfl (q_fieldAddr fo_42_1 rfl rfl) ?_
  refine WL.quiet (d:=13) rfl rfl rfl (q_loadA (cs:=[(.int .i64 (((nth z2d 0).fRate).fN)),(.int .i64 (((nth z2d 0).fRate).fD))]) aggT_28 rfl rfl (rd_zsub (off:=2) (s:=2) hz.pv ztW rfl)) ?_
  refine WL.new (dd:=4) rfl rfl rfl (e_alloc (cs:=[(.int .i64 0),(.int .i64 0)]) zeroT_28 rfl) ?_
  intro za8 _
  refine WL.eff0 rfl rfl (e_store (vs:=[(.int .i64 (((nth z2d 0).fRate).fN)),(.int .i64 (((nth z2d 0).fRate).fD))]) (ds:=[(.int .i64 (((nth z2d 0).fRate).fN)),(.int .i64 (((nth z2d 0).fRate).fD))]) sizT_28 rfl rfl rfl rfl (oc_cons rfl (oc_cons rfl oc_nil)) .here (Nat.le_of_ble_eq_true rfl) rfl) ?_
  refine WL.nil ?_
  refine WX.then ?_
  obtain ⟨z8Y,ztX,h⟩:=jp2_elim h
  refine WC.seqMid2 (fun (z7F : Int) (z7G : Int)=>(z8Y z7F z7G = some r)) (fun (z7F : Int) (z7G : Int)=>[(2,(.pointer (some ⟨z7b,0,none⟩))),(4,(.pointer (some ⟨za8,0,none⟩)))]) (fun (z7F : Int) (z7G : Int)=>[stb z7b 28 [(.int .i64 0),(.int .i64 0)],stb za8 28 [(.int .i64 z7F),(.int .i64 z7G)]]) ?_ ?_
  ·skip
   refine WC.seq ?_
   refine WC.region ?_
   refine WL.quiet (d:=5) rfl rfl rfl (q_assign rfl) ?_
   refine WL.nil ?_
   refine WX.then ?_
   refine WC.block ?_
   refine WC.loop4 (fun (zc5 : Nat) (z2X : Int) (z5v : Int) (z5w : Int)=>(m_ref02_Rate_L2 z2d z8Y zc5 z2X z5v z5w = some r)) (fun (zc5 : Nat) (z2X : Int) (z5v : Int) (z5w : Int)=>[(0,(.slice za6 z2d.length za7)),(2,(.pointer (some ⟨z7b,0,none⟩))),(4,(.pointer (some ⟨za8,0,none⟩))),(5,(.int .i64 z2X))]) (fun (zc5 : Nat) (z2X : Int) (z5v : Int) (z5w : Int)=>[stb z7b 28 [(.int .i64 0),(.int .i64 0)],stb za8 28 [(.int .i64 z5v),(.int .i64 z5w)]]) (fun (zc5 : Nat) (z2X : Int) (z5v : Int) (z5w : Int)=>zc5) ⟨FUEL,1,(((nth z2d 0).fRate).fN),(((nth z2d 0).fRate).fD)⟩ h (.cons rfl (.cons rfl (.cons rfl (.cons rfl .nil)))) (.cons (.there .here) (.cons .here .nil)) ?_
   rintro zc5 z2X z5v z5w h
   obtain ⟨zji,rfl⟩:=m_ref02_Rate_L2_fuel h
   rw [m_ref02_Rate_L2] at h
   refine WC.seq ?_
   refine WC.seq ?_
   refine WC.region ?_
   refine WL.quiet (d:=14) rfl rfl rfl (q_move rfl) ?_
   refine WL.quiet (d:=15) rfl rfl rfl (q_move rfl) ?_
   refine WL.quiet (d:=16) rfl rfl rfl (q_len Try.underlying25 rfl) ?_
   refine WL.quiet (d:=17) rfl rfl rfl (q_lss rfl rfl) ?_
   refine WL.nil ?_
   refine WX.then ?_
   refine WC.cond rfl (fun zjm=>?_) (fun zjm=>?_)
   ·replace h:=ite_t h zjm
    refine WC.skip ?_
    refine WX.then ?_
    obtain ⟨zfz,ztY,h⟩:=jp2_elim h
    refine WC.seqMid2 (fun (z8Z : Int) (z90 : Int)=>(zfz z8Z z90 = some r)) (fun (z8Z : Int) (z90 : Int)=>[(0,(.slice za6 z2d.length za7)),(2,(.pointer (some ⟨z7b,0,none⟩))),(4,(.pointer (some ⟨za8,0,none⟩))),(5,(.int .i64 z2X))]) (fun (z8Z : Int) (z90 : Int)=>[stb z7b 28 [(.int .i64 0),(.int .i64 0)],stb za8 28 [(.int .i64 z8Z),(.int .i64 z90)]]) ?_ ?_
    ·skip
     refine WC.block ?_
     refine WC.seq ?_
     obtain ⟨ztZ,h⟩:=chk_elim h
     obtain ⟨zjj,zu0,h⟩:=zb h
     refine WC.draw (fun i=>[].contains i) [] rfl ?_
     refine WD.pure (i:=0) (d:=20) (by kernel_rfl) rfl (z6 (by kernel_rfl)) (z7 (by kernel_rfl)) rfl rfl rfl (fun _=>q_move rfl) ?_
     refine WD.pure (i:=1) (d:=21) (by kernel_rfl) rfl (z6 (by kernel_rfl)) (z7 (by kernel_rfl)) rfl rfl rfl (fun _=>q_move rfl) ?_
     refine WD.znth (j:=2) (dd:=22) (by kernel_rfl) rfl (z6 (by kernel_rfl)) (z7 (by kernel_rfl)) rfl rfl (Z:=Z) (Pr:=(fun r x=>r = e42 x)) elT_25 rfl rfl zfA ztZ ?_
     rintro zyb zyc zu1 zyd rfl
     refine WD.pure (i:=3) (d:=23) (by kernel_rfl) rfl (z6 (by kernel_rfl)) (z7 (by kernel_rfl)) rfl rfl rfl (fun _=>q_fieldAddr fo_42_1 rfl rfl) ?_
     refine WD.quiet (i:=4) (d:=24) (by kernel_rfl) rfl (z6 (by kernel_rfl)) (z7 (by kernel_rfl)) rfl rfl rfl (q_loadA (cs:=[(.int .i64 (((nth z2d z2X).fRate).fN)),(.int .i64 (((nth z2d z2X).fRate).fD))]) aggT_28 rfl rfl (rd_zsub (off:=2) (s:=2) hz.pv zu1 rfl)) ?_
     refine WD.quiet (i:=5) (d:=25) (by kernel_rfl) rfl (z6 (by kernel_rfl)) (z7 (by kernel_rfl)) rfl rfl rfl (q_loadA (cs:=[(.int .i64 z5v),(.int .i64 z5w)]) aggT_28 rfl rfl (rd_all (.there .here))) ?_
     refine WD.enter (i:=6) (d:=26) (by kernel_rfl) rfl (z6 (by kernel_rfl)) (z7 (by kernel_rfl)) rfl rfl rfl (zg (l:=[.tmp 24,.tmp 25]) Try.call55 (.cons rfl (.cons rfl .nil))) (fun w hw=>by have pz:=(hz.call hw (.nil : Sel [stb z7b 28 [(.int .i64 0),(.int .i64 0)],stb za8 28 [(.int .i64 z5v),(.int .i64 z5w)]] [] [stb z7b 28 [(.int .i64 0),(.int .i64 0)],stb za8 28 [(.int .i64 z5v),(.int .i64 z5w)]])); exact w_ref01_Cmp (Z:=_)  (z2h:=(⟨(((nth z2d z2X).fRate).fN),(((nth z2d z2X).fRate).fD)⟩ : z2)) (z2i:=(⟨z5v,z5w⟩ : z2)) (r:=zjj) w pz  zu0) ?_
     refine WD.pure (i:=7) (d:=27) (by kernel_rfl) rfl (z6 (by kernel_rfl)) (z7 (by kernel_rfl)) rfl rfl rfl (fun _=>q_lss rfl rfl) ?_
     refine WD.done (by kernel_rfl) ?_
     refine WX.then ?_
     refine WC.cond rfl (fun zjn=>?_) (fun zjn=>?_)
     ·replace h:=ite_t h zjn
      obtain ⟨zu2,h⟩:=chk_elim h
      refine WC.region ?_
      refine WL.quiet (d:=28) rfl rfl rfl (q_move rfl) ?_
      refine WL.quiet (d:=29) rfl rfl rfl (q_move rfl) ?_
      refine WL.znth (dd:=30) rfl rfl (Z:=Z) (Pr:=(fun r x=>r = e42 x)) elT_25 rfl rfl zfA zu2 ?_
      rintro zye zyf zu3 zyg rfl
      refine WL.quiet (d:=31) rfl rfl rfl (q_fieldAddr fo_42_1 rfl rfl) ?_
      refine WL.quiet (d:=32) rfl rfl rfl (q_loadA (cs:=[(.int .i64 (((nth z2d z2X).fRate).fN)),(.int .i64 (((nth z2d z2X).fRate).fD))]) aggT_28 rfl rfl (rd_zsub (off:=2) (s:=2) hz.pv zu3 rfl)) ?_
      refine WL.eff0 rfl rfl (e_store (vs:=[(.int .i64 (((nth z2d z2X).fRate).fN)),(.int .i64 (((nth z2d z2X).fRate).fD))]) (ds:=[(.int .i64 (((nth z2d z2X).fRate).fN)),(.int .i64 (((nth z2d z2X).fRate).fD))]) sizT_28 rfl rfl rfl rfl (oc_cons rfl (oc_cons rfl oc_nil)) (.there .here) (Nat.le_of_ble_eq_true rfl) rfl) ?_
      refine WL.nil ?_
      refine WX.blockNormal ?_
      exact WX.mid (G:=Int × Int) ⟨(((nth z2d z2X).fRate).fN),(((nth z2d z2X).fRate).fD)⟩ h (.cons rfl (.cons rfl (.cons rfl (.cons rfl .nil)))) (.cons (.there .here) (.cons .here .nil))
     ·replace h:=ite_f h zjn
      refine WC.skip ?_
      refine WX.blockNormal ?_
      exact WX.mid (G:=Int × Int) ⟨z5v,z5w⟩ h (.cons rfl (.cons rfl (.cons rfl (.cons rfl .nil)))) (.cons .here (.cons .here .nil))
    ·rintro z8Z z90 h
     replace h:=(ztY z8Z z90).symm.trans h
     refine WC.region ?_
     refine WL.quiet (d:=18) rfl rfl rfl (q_move rfl) ?_
     refine WL.quiet (d:=19) rfl rfl rfl (q_add rfl rfl rfl) ?_
     refine WL.quiet (d:=5) rfl rfl rfl (q_assign rfl) ?_
     refine WL.nil ?_
     exact WX.round (G:=Nat × Int × Int × Int) ⟨zji,(i64 (z2X + 1)),z8Z,z90⟩ h (Nat.lt_succ_self _) (.cons rfl (.cons rfl (.cons rfl (.cons rfl .nil)))) (.cons .here (.cons .here .nil))
   ·replace h:=ite_f h zjm
    refine WC.exit ?_
    refine WX.thenExit ?_
    refine WX.thenExit ?_
    refine WX.blockHit ?_
    exact WX.mid (G:=Int × Int) ⟨z5v,z5w⟩ h (.cons rfl (.cons rfl .nil)) (.cons .here (.cons .here .nil))
  ·rintro z7F z7G h
   replace h:=(ztX z7F z7G).symm.trans h
   refine WC.seq ?_
   refine WC.region ?_
   refine WL.quiet (d:=33) rfl rfl rfl (q_loadA (cs:=[(.int .i64 z7F),(.int .i64 z7G)]) aggT_28 rfl rfl (rd_all (.there .here))) ?_
   refine WL.eff0 rfl rfl (e_store (vs:=[(.int .i64 z7F),(.int .i64 z7G)]) (ds:=[(.int .i64 z7F),(.int .i64 z7G)]) sizT_28 rfl rfl rfl rfl (oc_cons rfl (oc_cons rfl oc_nil)) .here (Nat.le_of_ble_eq_true rfl) rfl) ?_
   refine WL.quiet (d:=3) rfl rfl rfl (q_assign rfl) ?_
   refine WL.nil ?_
   refine WX.then ?_
   refine WC.ret ?_
   obtain rfl:=Option.some.inj h
   refine WX.bpRet Try.results25 (.agg rfl aggT_28 rfl (rd_all .here) (.tmp rfl .nil)) (fun w hw=>?_)
   exact ⟨ret2 rfl rfl,hw.sub .nil⟩
def m_ref02_dominated_L2 (z1p : List z1) (z2j : Int) (z91 : Option Bool) : Nat → Int → Option Bool
 | 0,_=>none
 | zjo + 1,z2o=>if decide (z2o < ((z1p.length : Nat) : Int)) then jp0 (m_ref02_dominated_L2 z1p z2j z91 zjo (i64 (z2o + 1))) fun zfB=>chk ((0 : Int) ≤ z2o ∧ z2o < ((z1p.length : Nat) : Int)) (chk ((0 : Int) ≤ z2j ∧ z2j < ((z1p.length : Nat) : Int)) (if decide ((⟨(⟨(((nth z1p z2o).fBurst).fN),(((nth z1p z2o).fBurst).fD)⟩ : z2),(⟨(((nth z1p z2o).fRate).fN),(((nth z1p z2o).fRate).fD)⟩ : z2)⟩ : z1) = (⟨(⟨(((nth z1p z2j).fBurst).fN),(((nth z1p z2j).fBurst).fD)⟩ : z2),(⟨(((nth z1p z2j).fRate).fN),(((nth z1p z2j).fRate).fD)⟩ : z2)⟩ : z1)) then if decide (z2o < z2j) then some true else zfB else chk ((0 : Int) ≤ z2o ∧ z2o < ((z1p.length : Nat) : Int)) (chk ((0 : Int) ≤ z2j ∧ z2j < ((z1p.length : Nat) : Int)) ((m_ref01_Cmp (⟨(((nth z1p z2o).fBurst).fN),(((nth z1p z2o).fBurst).fD)⟩ : z2) (⟨(((nth z1p z2j).fBurst).fN),(((nth z1p z2j).fBurst).fD)⟩ : z2)).bind fun ze1=>(if decide (ze1 ≤ 0) then chk ((0 : Int) ≤ z2o ∧ z2o < ((z1p.length : Nat) : Int)) (chk ((0 : Int) ≤ z2j ∧ z2j < ((z1p.length : Nat) : Int)) ((m_ref01_Cmp (⟨(((nth z1p z2o).fRate).fN),(((nth z1p z2o).fRate).fD)⟩ : z2) (⟨(((nth z1p z2j).fRate).fN),(((nth z1p z2j).fRate).fD)⟩ : z2)).bind fun zjp=>some (decide (zjp ≤ 0)))) else some false).bind fun zjq=>if zjq then some true else zfB)))) else z91
theorem m_ref02_dominated_L2_fuel {n : Nat} {z1p : List z1} {z2j : Int} {z91 : Option Bool} {z2o : Int} {r : Bool} (h : m_ref02_dominated_L2 z1p z2j z91 n z2o = some r) : ∃ m,n = m + 1:=by
 cases n with
 | zero=>cases h
 | succ m=>exact ⟨m,rfl⟩
def m_ref02_dominated (z1p : List z1) (z2j : Int) : Option Bool :=
 jp0 (some false) fun z91=>m_ref02_dominated_L2 z1p z2j z91 FUEL 0
set_option maxRecDepth 20000 in
theorem w_ref02_dominated (Z : Zp)  (za9 : Option Addr) (zaa : Nat) (z1p : List z1) (z2j : Int) (r : Bool) (w₀ : World) (hz : PZ [] w₀ Z)
  (zc6 : ZS Z 4 (fun r x=>r = e42 x) za9 zaa z1p)
  (h : m_ref02_dominated z1p z2j = some r) :
  Calls Try.prog 58 #[(.slice za9 z1p.length zaa),(.int .i64 z2j)] w₀ fun e w'=>e = .returned (.bool r) ∧ Hp [] w₀ w' []:=by
 unfold m_ref02_dominated at h
 refine Calls.ofWC (vs:=[(.slice za9 z1p.length zaa),(.int .i64 z2j)]) (pre:=[]) (env:=[(0,(.slice za9 z1p.length zaa)),(1,(.int .i64 z2j))]) Try.func58 rfl Try.ntmps58 rfl (Hp.nil w₀ _) rfl ?_
 refine WC.seq ?_
 refine WC.region ?_
 refine WL.quiet (d:=4) rfl rfl rfl (q_assign rfl) ?_
 refine WL.nil ?_
 refine WX.then ?_
 obtain ⟨z91,zu4,h⟩:=jp0_elim h
 refine WC.seqMid0 ((z91 = some r)) ([]) ([]) ?_ ?_
 ·skip
  refine WC.seq ?_
  refine WC.region ?_
  refine WL.quiet (d:=5) rfl rfl rfl (q_assign rfl) ?_
  refine WL.nil ?_
  refine WX.then ?_
  refine WC.block ?_
  refine WC.loop2 (fun (zc7 : Nat) (z2o : Int)=>(m_ref02_dominated_L2 z1p z2j z91 zc7 z2o = some r)) (fun (zc7 : Nat) (z2o : Int)=>[(0,(.slice za9 z1p.length zaa)),(1,(.int .i64 z2j)),(5,(.int .i64 z2o))]) (fun (zc7 : Nat) (z2o : Int)=>[]) (fun (zc7 : Nat) (z2o : Int)=>zc7) ⟨FUEL,0⟩ h (.cons rfl (.cons rfl (.cons rfl .nil))) .nil ?_
  rintro zc7 z2o h
  obtain ⟨zjo,rfl⟩:=m_ref02_dominated_L2_fuel h
  rw [m_ref02_dominated_L2] at h
  refine WC.seq ?_
  refine WC.seq ?_
  refine WC.region ?_
  refine WL.quiet (d:=6) rfl rfl rfl (q_move rfl) ?_
  refine WL.quiet (d:=7) rfl rfl rfl (q_move rfl) ?_
  refine WL.quiet (d:=8) rfl rfl rfl (q_len Try.underlying25 rfl) ?_
  refine WL.quiet (d:=9) rfl rfl rfl (q_lss rfl rfl) ?_
  refine WL.nil ?_
  refine WX.then ?_
  refine WC.cond rfl (fun zjr=>?_) (fun zjr=>?_)
  ·replace h:=ite_t h zjr
   refine WC.skip ?_
   refine WX.then ?_
   obtain ⟨zfB,zu5,h⟩:=jp0_elim h
   refine WC.seqMid0 ((zfB = some r)) ([(0,(.slice za9 z1p.length zaa)),(1,(.int .i64 z2j)),(5,(.int .i64 z2o))]) ([]) ?_ ?_
   ·skip
    refine WC.block ?_
    refine WC.seq ?_
    refine WC.seq ?_
    obtain ⟨zu6,h⟩:=chk_elim h
    obtain ⟨zu7,h⟩:=chk_elim h
    refine WC.draw (fun i=>[].contains i) [] rfl ?_
    refine WD.pure (i:=0) (d:=12) (by kernel_rfl) rfl (z6 (by kernel_rfl)) (z7 (by kernel_rfl)) rfl rfl rfl (fun _=>q_move rfl) ?_
    refine WD.pure (i:=1) (d:=13) (by kernel_rfl) rfl (z6 (by kernel_rfl)) (z7 (by kernel_rfl)) rfl rfl rfl (fun _=>q_move rfl) ?_
    refine WD.znth (j:=2) (dd:=14) (by kernel_rfl) rfl (z6 (by kernel_rfl)) (z7 (by kernel_rfl)) rfl rfl (Z:=Z) (Pr:=(fun r x=>r = e42 x)) elT_25 rfl rfl zc6 zu6 ?_
    rintro zyh zyi zu8 zyj rfl
    refine WD.quiet (i:=3) (d:=15) (by kernel_rfl) rfl (z6 (by kernel_rfl)) (z7 (by kernel_rfl)) rfl rfl rfl (q_loadA (cs:=[(.int .i64 (((nth z1p z2o).fBurst).fN)),(.int .i64 (((nth z1p z2o).fBurst).fD)),(.int .i64 (((nth z1p z2o).fRate).fN)),(.int .i64 (((nth z1p z2o).fRate).fD))]) aggT_42 rfl rfl (rd_zs hz.pv zu8)) ?_
    refine WD.pure (i:=4) (d:=16) (by kernel_rfl) rfl (z6 (by kernel_rfl)) (z7 (by kernel_rfl)) rfl rfl rfl (fun _=>q_move rfl) ?_
    refine WD.pure (i:=5) (d:=17) (by kernel_rfl) rfl (z6 (by kernel_rfl)) (z7 (by kernel_rfl)) rfl rfl rfl (fun _=>q_move rfl) ?_
    refine WD.znth (j:=6) (dd:=18) (by kernel_rfl) rfl (z6 (by kernel_rfl)) (z7 (by kernel_rfl)) rfl rfl (Z:=Z) (Pr:=(fun r x=>r = e42 x)) elT_25 rfl rfl zc6 zu7 ?_
    rintro zyk zyl zu9 zym rfl
    refine WD.quiet (i:=7) (d:=19) (by kernel_rfl) rfl (z6 (by kernel_rfl)) (z7 (by kernel_rfl)) rfl rfl rfl (q_loadA (cs:=[(.int .i64 (((nth z1p z2j).fBurst).fN)),(.int .i64 (((nth z1p z2j).fBurst).fD)),(.int .i64 (((nth z1p z2j).fRate).fN)),(.int .i64 (((nth z1p z2j).fRate).fD))]) aggT_42 rfl rfl (rd_zs hz.pv zu9)) ?_
    refine WD.pure (i:=8) (d:=20) (by kernel_rfl) rfl (z6 (by kernel_rfl)) (z7 (by kernel_rfl)) rfl rfl rfl (fun _=>q_aggeql (enc:=e42) (a:=(⟨(⟨(((nth z1p z2o).fBurst).fN),(((nth z1p z2o).fBurst).fD)⟩ : z2),(⟨(((nth z1p z2o).fRate).fN),(((nth z1p z2o).fRate).fD)⟩ : z2)⟩ : z1)) (b:=(⟨(⟨(((nth z1p z2j).fBurst).fN),(((nth z1p z2j).fBurst).fD)⟩ : z2),(⟨(((nth z1p z2j).fRate).fN),(((nth z1p z2j).fRate).fD)⟩ : z2)⟩ : z1)) eqT_42 rfl rfl) ?_
    refine WD.done (by kernel_rfl) ?_
    refine WX.then ?_
    refine WC.cond rfl (fun zjs=>?_) (fun zjs=>?_)
    ·replace h:=ite_t h zjs
     refine WC.seq ?_
     refine WC.seq ?_
     refine WC.region ?_
     refine WL.quiet (d:=21) rfl rfl rfl (q_move rfl) ?_
     refine WL.quiet (d:=22) rfl rfl rfl (q_move rfl) ?_
     refine WL.quiet (d:=23) rfl rfl rfl (q_lss rfl rfl) ?_
     refine WL.nil ?_
     refine WX.then ?_
     refine WC.cond rfl (fun zjt=>?_) (fun zjt=>?_)
     ·replace h:=ite_t h zjt
      refine WC.seq ?_
      refine WC.region ?_
      refine WL.quiet (d:=4) rfl rfl rfl (q_assign rfl) ?_
      refine WL.nil ?_
      refine WX.then ?_
      refine WC.ret ?_
      refine WX.thenRet ?_
      refine WX.thenRet ?_
      refine WX.blockRet ?_
      refine WX.thenRet ?_
      refine WX.thenRet ?_
      refine WX.blockRet ?_
      refine WX.thenRet ?_
      obtain rfl:=Option.some.inj h
      refine WX.bpRet Try.results58 (.tmp rfl .nil) (fun w hw=>?_)
      exact ⟨ret1 rfl,hw.sub .nil⟩
     ·replace h:=ite_f h zjt
      refine WC.skip ?_
      refine WX.then ?_
      refine WC.exit ?_
      refine WX.thenExit ?_
      refine WX.blockHit ?_
      exact WX.mid (G:=Unit) () h (.cons rfl (.cons rfl (.cons rfl .nil))) .nil
    ·replace h:=ite_f h zjs
     refine WC.skip ?_
     refine WX.then ?_
     refine WC.seq ?_
     obtain ⟨zua,h⟩:=chk_elim h
     obtain ⟨zub,h⟩:=chk_elim h
     obtain ⟨ze1,zuc,h⟩:=zb h
     obtain ⟨zjq,znK,h⟩:=zb h
     refine WC.draw (fun i=>[].contains i) [] rfl ?_
     refine WD.pure (i:=0) (d:=24) (by kernel_rfl) rfl (z6 (by kernel_rfl)) (z7 (by kernel_rfl)) rfl rfl rfl (fun _=>q_move rfl) ?_
     refine WD.pure (i:=1) (d:=25) (by kernel_rfl) rfl (z6 (by kernel_rfl)) (z7 (by kernel_rfl)) rfl rfl rfl (fun _=>q_move rfl) ?_
     refine WD.znth (j:=2) (dd:=26) (by kernel_rfl) rfl (z6 (by kernel_rfl)) (z7 (by kernel_rfl)) rfl rfl (Z:=Z) (Pr:=(fun r x=>r = e42 x)) elT_25 rfl rfl zc6 zua ?_
     rintro zyn zyo zud zyp rfl
     refine WD.pure (i:=3) (d:=27) (by kernel_rfl) rfl (z6 (by kernel_rfl)) (z7 (by kernel_rfl)) rfl rfl rfl (fun _=>q_fieldAddr fo_42_0 rfl rfl) ?_
     refine WD.quiet (i:=4) (d:=28) (by kernel_rfl) rfl (z6 (by kernel_rfl)) (z7 (by kernel_rfl)) rfl rfl rfl (q_loadA (cs:=[(.int .i64 (((nth z1p z2o).fBurst).fN)),(.int .i64 (((nth z1p z2o).fBurst).fD))]) aggT_28 rfl rfl (rd_zsub (off:=0) (s:=2) hz.pv zud rfl)) ?_
     refine WD.pure (i:=5) (d:=29) (by kernel_rfl) rfl (z6 (by kernel_rfl)) (z7 (by kernel_rfl)) rfl rfl rfl (fun _=>q_move rfl) ?_
     refine WD.pure (i:=6) (d:=30) (by kernel_rfl) rfl (z6 (by kernel_rfl)) (z7 (by kernel_rfl)) rfl rfl rfl (fun _=>q_move rfl) ?_
     refine WD.znth (j:=7) (dd:=31) (by kernel_rfl) rfl (z6 (by kernel_rfl)) (z7 (by kernel_rfl)) rfl rfl (Z:=Z) (Pr:=(fun r x=>r = e42 x)) elT_25 rfl rfl zc6 zub ?_
     rintro zyq zyr zue zys rfl
     refine WD.pure (i:=8) (d:=32) (by kernel_rfl) rfl (z6 (by kernel_rfl)) (z7 (by kernel_rfl)) rfl rfl rfl (fun _=>q_fieldAddr fo_42_0 rfl rfl) ?_
     refine WD.quiet (i:=9) (d:=33) (by kernel_rfl) rfl (z6 (by kernel_rfl)) (z7 (by kernel_rfl)) rfl rfl rfl (q_loadA (cs:=[(.int .i64 (((nth z1p z2j).fBurst).fN)),(.int .i64 (((nth z1p z2j).fBurst).fD))]) aggT_28 rfl rfl (rd_zsub (off:=0) (s:=2) hz.pv zue rfl)) ?_
     refine WD.enter (i:=10) (d:=34) (by kernel_rfl) rfl (z6 (by kernel_rfl)) (z7 (by kernel_rfl)) rfl rfl rfl (zg (l:=[.tmp 28,.tmp 33]) Try.call55 (.cons rfl (.cons rfl .nil))) (fun w hw=>by have pz:=(hz.call hw (.nil : Sel [] [] [])); exact w_ref01_Cmp (Z:=_)  (z2h:=(⟨(((nth z1p z2o).fBurst).fN),(((nth z1p z2o).fBurst).fD)⟩ : z2)) (z2i:=(⟨(((nth z1p z2j).fBurst).fN),(((nth z1p z2j).fBurst).fD)⟩ : z2)) (r:=ze1) w pz  zuc) ?_
     refine WD.pure (i:=11) (d:=35) (by kernel_rfl) rfl (z6 (by kernel_rfl)) (z7 (by kernel_rfl)) rfl rfl rfl (fun _=>q_leq rfl rfl) ?_
     refine WD.pure (i:=12) (d:=36) (by kernel_rfl) rfl (z6 (by kernel_rfl)) (z7 (by kernel_rfl)) rfl rfl rfl (fun _=>q_move rfl) ?_
     refine WD.mid (fuel':=0) [(0,(.slice za9 z1p.length zaa)),(1,(.int .i64 z2j)),(5,(.int .i64 z2o)),(36,(.bool (decide (ze1 ≤ 0)))),(49,(.bool zjq))] (listedA 26 [25,24,23,22,21,20,19,18,17,16,15,14,13,12,11,10,9,8,7,6,5,4,3,2,1,0]) ?_ (fun znL=>?_)
     rotate_left
     ·rcases Bool.eq_false_or_eq_true (decide (ze1 ≤ 0)) with hb' | hb'
      ·have zju:=hb'; clear hb'
       have z92:=ite_t znK zju
       obtain ⟨zuf,z92⟩:=chk_elim z92
       obtain ⟨zug,z92⟩:=chk_elim z92
       obtain ⟨zjp,zuh,z92⟩:=zb z92
       replace z92:=Option.some.inj z92
       refine WD.pin (i:=36) rfl zju ?_
       refine WD.pure (i:=13) (d:=37) (by kernel_rfl) rfl (z6 (by kernel_rfl)) (z7 (by kernel_rfl)) rfl rfl rfl (fun _=>q_move rfl) ?_
       refine WD.pure (i:=14) (d:=38) (by kernel_rfl) rfl (z6 (by kernel_rfl)) (z7 (by kernel_rfl)) rfl rfl rfl (fun _=>q_move rfl) ?_
       refine WD.znth (j:=15) (dd:=39) (by kernel_rfl) rfl (z6 (by kernel_rfl)) (z7 (by kernel_rfl)) rfl rfl (Z:=Z) (Pr:=(fun r x=>r = e42 x)) elT_25 rfl rfl zc6 zuf ?_
       rintro zyt zyu zui zyv rfl
       refine WD.pure (i:=16) (d:=40) (by kernel_rfl) rfl (z6 (by kernel_rfl)) (z7 (by kernel_rfl)) rfl rfl rfl (fun _=>q_fieldAddr fo_42_1 rfl rfl) ?_
       refine WD.quiet (i:=17) (d:=41) (by kernel_rfl) rfl (z6 (by kernel_rfl)) (z7 (by kernel_rfl)) rfl rfl rfl (q_loadA (cs:=[(.int .i64 (((nth z1p z2o).fRate).fN)),(.int .i64 (((nth z1p z2o).fRate).fD))]) aggT_28 rfl rfl (rd_zsub (off:=2) (s:=2) hz.pv zui rfl)) ?_
       refine WD.pure (i:=18) (d:=42) (by kernel_rfl) rfl (z6 (by kernel_rfl)) (z7 (by kernel_rfl)) rfl rfl rfl (fun _=>q_move rfl) ?_
       refine WD.pure (i:=19) (d:=43) (by kernel_rfl) rfl (z6 (by kernel_rfl)) (z7 (by kernel_rfl)) rfl rfl rfl (fun _=>q_move rfl) ?_
       refine WD.znth (j:=20) (dd:=44) (by kernel_rfl) rfl (z6 (by kernel_rfl)) (z7 (by kernel_rfl)) rfl rfl (Z:=Z) (Pr:=(fun r x=>r = e42 x)) elT_25 rfl rfl zc6 zug ?_
       rintro zyw zyx zuj zyy rfl
       refine WD.pure (i:=21) (d:=45) (by kernel_rfl) rfl (z6 (by kernel_rfl)) (z7 (by kernel_rfl)) rfl rfl rfl (fun _=>q_fieldAddr fo_42_1 rfl rfl) ?_
       refine WD.quiet (i:=22) (d:=46) (by kernel_rfl) rfl (z6 (by kernel_rfl)) (z7 (by kernel_rfl)) rfl rfl rfl (q_loadA (cs:=[(.int .i64 (((nth z1p z2j).fRate).fN)),(.int .i64 (((nth z1p z2j).fRate).fD))]) aggT_28 rfl rfl (rd_zsub (off:=2) (s:=2) hz.pv zuj rfl)) ?_
       refine WD.enter (i:=23) (d:=47) (by kernel_rfl) rfl (z6 (by kernel_rfl)) (z7 (by kernel_rfl)) rfl rfl rfl (zg (l:=[.tmp 41,.tmp 46]) Try.call55 (.cons rfl (.cons rfl .nil))) (fun w hw=>by have pz:=(hz.call hw (.nil : Sel [] [] [])); exact w_ref01_Cmp (Z:=_)  (z2h:=(⟨(((nth z1p z2o).fRate).fN),(((nth z1p z2o).fRate).fD)⟩ : z2)) (z2i:=(⟨(((nth z1p z2j).fRate).fN),(((nth z1p z2j).fRate).fD)⟩ : z2)) (r:=zjp) w pz  zuh) ?_
       refine WD.pure (i:=24) (d:=48) (by kernel_rfl) rfl (z6 (by kernel_rfl)) (z7 (by kernel_rfl)) rfl rfl rfl (fun _=>q_leq rfl rfl) ?_
       refine WD.pure (i:=25) (d:=49) (by kernel_rfl) rfl (z6 (by kernel_rfl)) (z7 (by kernel_rfl)) rfl rfl rfl (fun _=>q_pickT rfl rfl) ?_
       refine WD.reL .nil ?_ znL
       exact (.cons rfl (.cons rfl (.cons rfl (.cons (zl (Eq.symm zju)) (.cons (zl z92) .nil)))))
      ·have zjv:=hb'; clear hb'
       have zjw:=ite_f znK zjv
       replace zjw:=Option.some.inj zjw
       refine WD.pin (i:=36) rfl zjv ?_
       refine WD.skip (i:=13) (d:=37) (by kernel_rfl) rfl (z6 (by kernel_rfl)) (z7 (by kernel_rfl)) rfl rfl rfl ?_
       refine WD.skip (i:=14) (d:=38) (by kernel_rfl) rfl (z6 (by kernel_rfl)) (z7 (by kernel_rfl)) rfl rfl rfl ?_
       refine WD.skip (i:=15) (d:=39) (by kernel_rfl) rfl (z6 (by kernel_rfl)) (z7 (by kernel_rfl)) rfl rfl rfl ?_
       refine WD.skip (i:=16) (d:=40) (by kernel_rfl) rfl (z6 (by kernel_rfl)) (z7 (by kernel_rfl)) rfl rfl rfl ?_
       refine WD.skip (i:=17) (d:=41) (by kernel_rfl) rfl (z6 (by kernel_rfl)) (z7 (by kernel_rfl)) rfl rfl rfl ?_
       refine WD.skip (i:=18) (d:=42) (by kernel_rfl) rfl (z6 (by kernel_rfl)) (z7 (by kernel_rfl)) rfl rfl rfl ?_
       refine WD.skip (i:=19) (d:=43) (by kernel_rfl) rfl (z6 (by kernel_rfl)) (z7 (by kernel_rfl)) rfl rfl rfl ?_
       refine WD.skip (i:=20) (d:=44) (by kernel_rfl) rfl (z6 (by kernel_rfl)) (z7 (by kernel_rfl)) rfl rfl rfl ?_
       refine WD.skip (i:=21) (d:=45) (by kernel_rfl) rfl (z6 (by kernel_rfl)) (z7 (by kernel_rfl)) rfl rfl rfl ?_
       refine WD.skip (i:=22) (d:=46) (by kernel_rfl) rfl (z6 (by kernel_rfl)) (z7 (by kernel_rfl)) rfl rfl rfl ?_
       refine WD.skip (i:=23) (d:=47) (by kernel_rfl) rfl (z6 (by kernel_rfl)) (z7 (by kernel_rfl)) rfl rfl rfl ?_
       refine WD.skip (i:=24) (d:=48) (by kernel_rfl) rfl (z6 (by kernel_rfl)) (z7 (by kernel_rfl)) rfl rfl rfl ?_
       refine WD.pure (i:=25) (d:=49) (by kernel_rfl) rfl (z6 (by kernel_rfl)) (z7 (by kernel_rfl)) rfl rfl rfl (fun _=>q_pickF rfl rfl) ?_
       refine WD.reL .nil ?_ znL
       exact (.cons rfl (.cons rfl (.cons rfl (.cons (zl (Eq.symm zjv)) (.cons (zl zjw) .nil)))))
     refine WD.relist #[true,true,true,true,true,true,true,true,true,true,true,true,true,true,true,true,true,true,true,true,true,true,true,true,true,true] (by kernel_rfl) ?_
     refine WD.done (by kernel_rfl) ?_
     refine WX.then ?_
     refine WC.cond rfl (fun zjx=>?_) (fun zjx=>?_)
     ·replace h:=ite_t h zjx
      refine WC.seq ?_
      refine WC.region ?_
      refine WL.quiet (d:=4) rfl rfl rfl (q_assign rfl) ?_
      refine WL.nil ?_
      refine WX.then ?_
      refine WC.ret ?_
      refine WX.blockRet ?_
      refine WX.thenRet ?_
      refine WX.thenRet ?_
      refine WX.blockRet ?_
      refine WX.thenRet ?_
      obtain rfl:=Option.some.inj h
      refine WX.bpRet Try.results58 (.tmp rfl .nil) (fun w hw=>?_)
      exact ⟨ret1 rfl,hw.sub .nil⟩
     ·replace h:=ite_f h zjx
      refine WC.skip ?_
      refine WX.blockNormal ?_
      exact WX.mid (G:=Unit) () h (.cons rfl (.cons rfl (.cons rfl .nil))) .nil
   ·rintro  h
    replace h:=zu5.symm.trans h
    refine WC.region ?_
    refine WL.quiet (d:=10) rfl rfl rfl (q_move rfl) ?_
    refine WL.quiet (d:=11) rfl rfl rfl (q_add rfl rfl rfl) ?_
    refine WL.quiet (d:=5) rfl rfl rfl (q_assign rfl) ?_
    refine WL.nil ?_
    exact WX.round (G:=Nat × Int) ⟨zjo,(i64 (z2o + 1))⟩ h (Nat.lt_succ_self _) (.cons rfl (.cons rfl (.cons rfl .nil))) .nil
  ·replace h:=ite_f h zjr
   refine WC.exit ?_
   refine WX.thenExit ?_
   refine WX.thenExit ?_
   refine WX.blockHit ?_
   exact WX.mid (G:=Unit) () h .nil .nil
 ·rintro  h
  replace h:=zu4.symm.trans h
  refine WC.seq ?_
  refine WC.region ?_
  refine WL.quiet (d:=4) rfl rfl rfl (q_assign rfl) ?_
  refine WL.nil ?_
  refine WX.then ?_
  refine WC.ret ?_
  obtain rfl:=Option.some.inj h
  refine WX.bpRet Try.results58 (.tmp rfl .nil) (fun w hw=>?_)
  exact ⟨ret1 rfl,hw.sub .nil⟩
def m_ref02_Norm_L4 (zz : List z1) (zm : Int) (zi : List z1) (z93 : Int → Option (List z1)) : Nat → Int → Option (List z1)
 | 0,_=>none
 | zjy + 1,z3E=>(if decide (z3E > 0) then chk ((0 : Int) ≤ (i64 (z3E - 1)) ∧ (i64 (z3E - 1)) < ((zz.length : Nat) : Int)) (chk ((0 : Int) ≤ zm ∧ zm < ((zi.length : Nat) : Int)) ((m_ref01_Cmp (⟨(((nth zz (i64 (z3E - 1))).fBurst).fN),(((nth zz (i64 (z3E - 1))).fBurst).fD)⟩ : z2) (⟨(((nth zi zm).fBurst).fN),(((nth zi zm).fBurst).fD)⟩ : z2)).bind fun zjz=>some (decide (zjz > 0)))) else some false).bind fun zjA=>if zjA then m_ref02_Norm_L4 zz zm zi z93 zjy (i64 (z3E - 1)) else z93 z3E
theorem m_ref02_Norm_L4_fuel {n : Nat} {zz : List z1} {zm : Int} {zi : List z1} {z93 : Int → Option (List z1)} {z3E : Int} {r : List z1} (h : m_ref02_Norm_L4 zz zm zi z93 n z3E = some r) : ∃ m,n = m + 1:=by
 cases n with
 | zero=>cases h
 | succ m=>exact ⟨m,rfl⟩
def m_ref02_Norm_L3 (zi : List z1) (z94 : (List z1) → Option (List z1)) : Nat → (List z1) → Int → Option (List z1)
 | 0,_,_=>none
 | zjB + 1,zz,zm=>if decide (zm < ((zi.length : Nat) : Int)) then jp1 (fun (z7H : List z1)=>m_ref02_Norm_L3 zi z94 zjB z7H (i64 (zm + 1))) fun zfC=>(m_ref02_dominated zi zm).bind fun zjC=>if zjC then zfC zz else jp1 (fun (z1W : Int)=>chk ((0 : Int) ≤ 0 ∧ (0 : Int) ≤ z1W ∧ z1W ≤ ((zz.length : Nat) : Int)) (chk ((((([] : List z1) ++ (zz.take (z1W : Int).toNat)).length : Nat) : Int) * 32 ≤ 140737488355328 ∧ (((([] : List z1) ++ (zz.take (z1W : Int).toNat)).length : Nat) : Int) ≤ 4611686018427387904) (chk ((0 : Int) ≤ zm ∧ zm < ((zi.length : Nat) : Int)) (chk (((((([] : List z1) ++ (zz.take (z1W : Int).toNat)) ++ ([(⟨(⟨(((nth zi zm).fBurst).fN),(((nth zi zm).fBurst).fD)⟩ : z2),(⟨(((nth zi zm).fRate).fN),(((nth zi zm).fRate).fD)⟩ : z2)⟩ : z1)] : List z1)).length : Nat) : Int) * 32 ≤ 140737488355328 ∧ ((((([] : List z1) ++ (zz.take (z1W : Int).toNat)) ++ ([(⟨(⟨(((nth zi zm).fBurst).fN),(((nth zi zm).fBurst).fD)⟩ : z2),(⟨(((nth zi zm).fRate).fN),(((nth zi zm).fRate).fD)⟩ : z2)⟩ : z1)] : List z1)).length : Nat) : Int) ≤ 4611686018427387904) (chk ((0 : Int) ≤ z1W ∧ (z1W : Int) ≤ (zz.length : Int) ∧ (zz.length : Int) ≤ ((zz.length : Nat) : Int)) (chk ((((((([] : List z1) ++ (zz.take (z1W : Int).toNat)) ++ ([(⟨(⟨(((nth zi zm).fBurst).fN),(((nth zi zm).fBurst).fD)⟩ : z2),(⟨(((nth zi zm).fRate).fN),(((nth zi zm).fRate).fD)⟩ : z2)⟩ : z1)] : List z1)) ++ (zz.drop (z1W : Int).toNat)).length : Nat) : Int) * 32 ≤ 140737488355328 ∧ (((((([] : List z1) ++ (zz.take (z1W : Int).toNat)) ++ ([(⟨(⟨(((nth zi zm).fBurst).fN),(((nth zi zm).fBurst).fD)⟩ : z2),(⟨(((nth zi zm).fRate).fN),(((nth zi zm).fRate).fD)⟩ : z2)⟩ : z1)] : List z1)) ++ (zz.drop (z1W : Int).toNat)).length : Nat) : Int) ≤ 4611686018427387904) (zfC (((([] : List z1) ++ (zz.take (z1W : Int).toNat)) ++ ([(⟨(⟨(((nth zi zm).fBurst).fN),(((nth zi zm).fBurst).fD)⟩ : z2),(⟨(((nth zi zm).fRate).fN),(((nth zi zm).fRate).fD)⟩ : z2)⟩ : z1)] : List z1)) ++ (zz.drop (z1W : Int).toNat))))))))) fun z93=>m_ref02_Norm_L4 zz zm zi z93 FUEL ((zz.length : Nat) : Int) else z94 zz
theorem m_ref02_Norm_L3_fuel {n : Nat} {zi : List z1} {z94 : (List z1) → Option (List z1)} {zz : List z1} {zm : Int} {r : List z1} (h : m_ref02_Norm_L3 zi z94 n zz zm = some r) : ∃ m,n = m + 1:=by
 cases n with
 | zero=>cases h
 | succ m=>exact ⟨m,rfl⟩
def m_ref02_Norm (zi : List z1) : Option (List z1) :=
 jp1 (fun (z89 : List z1)=>some z89) fun z94=>m_ref02_Norm_L3 zi z94 FUEL ([] : List z1) 0
set_option maxRecDepth 20000 in
theorem w_ref02_Norm (Z : Zp)  (z4f : Option Addr) (z4g : Nat) (zi : List z1) (r : List z1) (w₀ : World) (hz : PZ [] w₀ Z)
  (zjD : ZS Z 4 (fun r x=>r = e42 x) z4f z4g zi)
  (h : m_ref02_Norm zi = some r) :
  Calls Try.prog 28 #[(.slice z4f zi.length z4g)] w₀ fun e w'=>∃ Zn : Zp,∃ znM : Option Addr,∃ znN : Nat,e = .returned (.slice znM r.length znN) ∧ True ∧ Hp [] w₀ w' [fz Zn,row (.slice znM r.length znN) 42 4 (r.flatMap e42)]:=by
 unfold m_ref02_Norm at h
 refine Calls.ofWC (vs:=[(.slice z4f zi.length z4g)]) (pre:=[]) (env:=[(0,(.slice z4f zi.length z4g))]) Try.func28 rfl Try.ntmps28 rfl (Hp.nil w₀ _) rfl ?_
 refine WC.pool ?_
 refine WC.seq ?_
 refine WC.region ?_
 refine WL.quiet (d:=2) rfl rfl rfl (q_assign rfl) ?_
 refine WL.nil ?_
 refine WX.then ?_
 refine WC.seq ?_
 refine WC.region ?_
 refine WL.quiet (d:=3) rfl rfl rfl (q_assign rfl) ?_
 refine WL.nil ?_
 refine WX.then ?_
 obtain ⟨z94,zuk,h⟩:=jp1_elim h
 refine WC.seqMid4 (fun (z89 : List z1) (zc8 : Zp) (zc9 : Option Addr) (zca : Nat)=>(z94 z89 = some r) ∧ (Zle (Z ++ []) (Z ++ zc8))) (fun (z89 : List z1) (zc8 : Zp) (zc9 : Option Addr) (zca : Nat)=>[(3,(.slice zc9 z89.length zca))]) (fun (z89 : List z1) (zc8 : Zp) (zc9 : Option Addr) (zca : Nat)=>[fz zc8,row (.slice zc9 z89.length zca) 42 4 (z89.flatMap e42)]) ?_ ?_
 ·skip
  refine WC.seq ?_
  refine WC.region ?_
  refine WL.quiet (d:=4) rfl rfl rfl (q_assign rfl) ?_
  refine WL.nil ?_
  refine WX.then ?_
  refine WC.block ?_
  refine WC.nilRow 42 4 ?_
  refine WC.loop6 (fun (zcb : Nat) (zz : List z1) (zm : Int) (z5x : Zp) (z4t : Option Addr) (z44 : Nat)=>(m_ref02_Norm_L3 zi z94 zcb zz zm = some r) ∧ (Zle (Z ++ []) (Z ++ z5x))) (fun (zcb : Nat) (zz : List z1) (zm : Int) (z5x : Zp) (z4t : Option Addr) (z44 : Nat)=>[(0,(.slice z4f zi.length z4g)),(3,(.slice z4t zz.length z44)),(4,(.int .i64 zm))]) (fun (zcb : Nat) (zz : List z1) (zm : Int) (z5x : Zp) (z4t : Option Addr) (z44 : Nat)=>[fz z5x,row (.slice z4t zz.length z44) 42 4 (zz.flatMap e42)]) (fun (zcb : Nat) (zz : List z1) (zm : Int) (z5x : Zp) (z4t : Option Addr) (z44 : Nat)=>zcb) ⟨FUEL,([] : List z1),0,[],none,0⟩ ⟨h,(Zle.refl _)⟩ (.cons rfl (.cons rfl (.cons rfl .nil))) (.cons (.there .here) (.cons .here .nil)) ?_
  rintro zcb zz zm z5x z4t z44 ⟨h,ze2⟩
  obtain ⟨zjB,rfl⟩:=m_ref02_Norm_L3_fuel h
  rw [m_ref02_Norm_L3] at h
  refine WC.seq ?_
  refine WC.seq ?_
  refine WC.region ?_
  refine WL.quiet (d:=6) rfl rfl rfl (q_move rfl) ?_
  refine WL.quiet (d:=7) rfl rfl rfl (q_move rfl) ?_
  refine WL.quiet (d:=8) rfl rfl rfl (q_len Try.underlying25 rfl) ?_
  refine WL.quiet (d:=9) rfl rfl rfl (q_lss rfl rfl) ?_
  refine WL.nil ?_
  refine WX.then ?_
  refine WC.cond rfl (fun zjE=>?_) (fun zjE=>?_)
  ·replace h:=ite_t h zjE
   refine WC.skip ?_
   refine WX.then ?_
   obtain ⟨zfC,zul,h⟩:=jp1_elim h
   refine WC.seqMid4 (fun (z7H : List z1) (zcc : Zp) (zcd : Option Addr) (zce : Nat)=>(zfC z7H = some r) ∧ (Zle (Z ++ z5x) (Z ++ zcc))) (fun (z7H : List z1) (zcc : Zp) (zcd : Option Addr) (zce : Nat)=>[(0,(.slice z4f zi.length z4g)),(3,(.slice zcd z7H.length zce)),(4,(.int .i64 zm))]) (fun (z7H : List z1) (zcc : Zp) (zcd : Option Addr) (zce : Nat)=>[fz zcc,row (.slice zcd z7H.length zce) 42 4 (z7H.flatMap e42)]) ?_ ?_
   ·skip
    refine WC.block ?_
    refine WC.seq ?_
    refine WC.seq ?_
    obtain ⟨zjC,zum,h⟩:=zb h
    refine WC.region ?_
    refine WL.quiet (d:=12) rfl rfl rfl (q_move rfl) ?_
    refine WL.quiet (d:=13) rfl rfl rfl (q_move rfl) ?_
    refine WL.callD (dd:=14) rfl rfl rfl (zg (l:=[.tmp 12,.tmp 13]) Try.call58 (.cons rfl (.cons rfl .nil))) (.nil : Sel [fz z5x,row (.slice z4t zz.length z44) 42 4 (zz.flatMap e42)] [] [fz z5x,row (.slice z4t zz.length z44) 42 4 (zz.flatMap e42)]) (fun w hw=>by have pz:=(hz.call2 hw (.nil : Sel [fz z5x,row (.slice z4t zz.length z44) 42 4 (zz.flatMap e42)] [] [fz z5x,row (.slice z4t zz.length z44) 42 4 (zz.flatMap e42)]) .here); exact w_ref02_dominated (Z:=_) (za9:=z4f) (zaa:=z4g) (z1p:=zi) (z2j:=zm) (r:=zjC) w pz (zjD.mono ((Zle.left _ _).trans ze2)) zum) ?_
    refine WL.nil ?_
    refine WX.then ?_
    refine WC.cond rfl (fun zjF=>?_) (fun zjF=>?_)
    ·replace h:=ite_t h zjF
     refine WC.exit ?_
     refine WX.thenExit ?_
     refine WX.blockHit ?_
     exact WX.mid (G:=List z1 × Zp × Option Addr × Nat) ⟨zz,z5x,z4t,z44⟩ ⟨h,(Zle.refl _)⟩ (.cons rfl (.cons rfl (.cons rfl .nil))) (.cons .here (.cons .here .nil))
    ·replace h:=ite_f h zjF
     refine WC.skip ?_
     refine WX.then ?_
     refine WC.seq ?_
     refine WC.region ?_
     refine WL.quiet (d:=15) rfl rfl rfl (q_move rfl) ?_
     refine WL.quiet (d:=16) rfl rfl rfl (q_len Try.underlying25 rfl) ?_
     refine WL.quiet (d:=5) rfl rfl rfl (q_assign rfl) ?_
     refine WL.nil ?_
     refine WX.then ?_
     obtain ⟨z93,zun,h⟩:=jp1_elim h
     refine WC.seqMid1 (fun (z1W : Int)=>(z93 z1W = some r)) (fun (z1W : Int)=>[(0,(.slice z4f zi.length z4g)),(3,(.slice z4t zz.length z44)),(4,(.int .i64 zm)),(5,(.int .i64 z1W))]) (fun (z1W : Int)=>[fz z5x,row (.slice z4t zz.length z44) 42 4 (zz.flatMap e42)]) ?_ ?_
     ·skip
      refine WC.block ?_
      refine WC.loop2 (fun (zcf : Nat) (z3E : Int)=>(m_ref02_Norm_L4 zz zm zi z93 zcf z3E = some r)) (fun (zcf : Nat) (z3E : Int)=>[(0,(.slice z4f zi.length z4g)),(3,(.slice z4t zz.length z44)),(4,(.int .i64 zm)),(5,(.int .i64 z3E))]) (fun (zcf : Nat) (z3E : Int)=>[fz z5x,row (.slice z4t zz.length z44) 42 4 (zz.flatMap e42)]) (fun (zcf : Nat) (z3E : Int)=>zcf) ⟨FUEL,((zz.length : Nat) : Int)⟩ h (.cons rfl (.cons rfl (.cons rfl (.cons rfl .nil)))) (.cons .here (.cons .here .nil)) ?_
      rintro zcf z3E h
      obtain ⟨zjy,rfl⟩:=m_ref02_Norm_L4_fuel h
      rw [m_ref02_Norm_L4] at h
      refine WC.seq ?_
      refine WC.seq ?_
      obtain ⟨zjA,znO,h⟩:=zb h
      refine WC.draw (fun i=>[].contains i) [] rfl ?_
      refine WD.pure (i:=0) (d:=17) (by kernel_rfl) rfl (z6 (by kernel_rfl)) (z7 (by kernel_rfl)) rfl rfl rfl (fun _=>q_move rfl) ?_
      refine WD.pure (i:=1) (d:=18) (by kernel_rfl) rfl (z6 (by kernel_rfl)) (z7 (by kernel_rfl)) rfl rfl rfl (fun _=>q_gtr rfl rfl) ?_
      refine WD.pure (i:=2) (d:=19) (by kernel_rfl) rfl (z6 (by kernel_rfl)) (z7 (by kernel_rfl)) rfl rfl rfl (fun _=>q_move rfl) ?_
      refine WD.mid (fuel':=0) [(0,(.slice z4f zi.length z4g)),(3,(.slice z4t zz.length z44)),(4,(.int .i64 zm)),(5,(.int .i64 z3E)),(17,(.int .i64 z3E)),(18,(.bool (decide (z3E > 0)))),(19,(.bool (decide (z3E > 0)))),(33,(.bool zjA))] (listedA 17 [16,15,14,13,12,11,10,9,8,7,6,5,4,3,2,1,0]) ?_ (fun znP=>?_)
      rotate_left
      ·rcases Bool.eq_false_or_eq_true (decide (z3E > 0)) with hb' | hb'
       ·have zjG:=hb'; clear hb'
        have z95:=ite_t znO zjG
        obtain ⟨ze3,z95⟩:=chk_elim z95
        obtain ⟨zuo,z95⟩:=chk_elim z95
        obtain ⟨zjz,zup,z95⟩:=zb z95
        replace z95:=Option.some.inj z95
        refine WD.pin (i:=19) rfl zjG ?_
        refine WD.pure (i:=3) (d:=20) (by kernel_rfl) rfl (z6 (by kernel_rfl)) (z7 (by kernel_rfl)) rfl rfl rfl (fun _=>q_move rfl) ?_
        refine WD.pure (i:=4) (d:=21) (by kernel_rfl) rfl (z6 (by kernel_rfl)) (z7 (by kernel_rfl)) rfl rfl rfl (fun _=>q_move rfl) ?_
        refine WD.pure (i:=5) (d:=22) (by kernel_rfl) rfl (z6 (by kernel_rfl)) (z7 (by kernel_rfl)) rfl rfl rfl (fun _=>q_sub rfl rfl rfl) ?_
        refine WD.know (fun w hw=>Hp.expose (.there .here) hw (by intro hz'; have:=ze3; rw [hz'] at this; omega)) ?_
        rintro ⟨znQ,rfl⟩
        refine WD.pure (i:=6) (d:=23) (by kernel_rfl) rfl (z6 (by kernel_rfl)) (z7 (by kernel_rfl)) rfl rfl rfl (fun _=>q_indexAddr elT_25 rfl rfl ze3.1 ze3.2 rowAdd) ?_
        refine WD.pure (i:=7) (d:=24) (by kernel_rfl) rfl (z6 (by kernel_rfl)) (z7 (by kernel_rfl)) rfl rfl rfl (fun _=>q_fieldAddr fo_42_0 rfl (Addr.add_lit _ _ _)) ?_
        refine WD.quiet (i:=8) (d:=25) (by kernel_rfl) rfl (z6 (by kernel_rfl)) (z7 (by kernel_rfl)) rfl rfl rfl (q_loadA (cs:=[(.int .i64 (((nth zz (i64 (z3E - 1))).fBurst).fN)),(.int .i64 (((nth zz (i64 (z3E - 1))).fBurst).fD))]) aggT_28 rfl rfl (rd_rowp (k:=0) (.there .here) (flat_rd (enc:=e42) (l:=zz) (i:=i64 (z3E - 1)) (sz:=4) (fun _=>rfl) ze3.1 ze3.2) (s:=2) rfl)) ?_
        refine WD.pure (i:=9) (d:=26) (by kernel_rfl) rfl (z6 (by kernel_rfl)) (z7 (by kernel_rfl)) rfl rfl rfl (fun _=>q_move rfl) ?_
        refine WD.pure (i:=10) (d:=27) (by kernel_rfl) rfl (z6 (by kernel_rfl)) (z7 (by kernel_rfl)) rfl rfl rfl (fun _=>q_move rfl) ?_
        refine WD.znth (j:=11) (dd:=28) (by kernel_rfl) rfl (z6 (by kernel_rfl)) (z7 (by kernel_rfl)) rfl rfl (Z:=(Z ++ z5x)) (Pr:=(fun r x=>r = e42 x)) elT_25 rfl rfl (zjD.mono ((Zle.left _ _).trans ze2)) zuo ?_
        rintro zyz zyA zuq zyB rfl
        refine WD.pure (i:=12) (d:=29) (by kernel_rfl) rfl (z6 (by kernel_rfl)) (z7 (by kernel_rfl)) rfl rfl rfl (fun _=>q_fieldAddr fo_42_0 rfl rfl) ?_
        refine WD.quiet (i:=13) (d:=30) (by kernel_rfl) rfl (z6 (by kernel_rfl)) (z7 (by kernel_rfl)) rfl rfl rfl (q_loadA (cs:=[(.int .i64 (((nth zi zm).fBurst).fN)),(.int .i64 (((nth zi zm).fBurst).fD))]) aggT_28 rfl rfl (rd_zsub (off:=0) (s:=2) (hz.pv2 .here) zuq rfl)) ?_
        refine WD.enter (i:=14) (d:=31) (by kernel_rfl) rfl (z6 (by kernel_rfl)) (z7 (by kernel_rfl)) rfl rfl rfl (zg (l:=[.tmp 25,.tmp 30]) Try.call55 (.cons rfl (.cons rfl .nil))) (fun w hw=>by have pz:=(hz.call2 hw (.nil : Sel [fz z5x,row (.slice (some ⟨znQ,0,none⟩) zz.length z44) 42 4 (zz.flatMap e42)] [] [fz z5x,row (.slice (some ⟨znQ,0,none⟩) zz.length z44) 42 4 (zz.flatMap e42)]) .here); exact w_ref01_Cmp (Z:=_)  (z2h:=(⟨(((nth zz (i64 (z3E - 1))).fBurst).fN),(((nth zz (i64 (z3E - 1))).fBurst).fD)⟩ : z2)) (z2i:=(⟨(((nth zi zm).fBurst).fN),(((nth zi zm).fBurst).fD)⟩ : z2)) (r:=zjz) w pz  zup) ?_
        refine WD.pure (i:=15) (d:=32) (by kernel_rfl) rfl (z6 (by kernel_rfl)) (z7 (by kernel_rfl)) rfl rfl rfl (fun _=>q_gtr rfl rfl) ?_
        refine WD.pure (i:=16) (d:=33) (by kernel_rfl) rfl (z6 (by kernel_rfl)) (z7 (by kernel_rfl)) rfl rfl rfl (fun _=>q_pickT rfl rfl) ?_
        refine WD.reL (.cons .here (.cons .here .nil)) ?_ znP
        exact (.cons rfl (.cons rfl (.cons rfl (.cons rfl (.cons rfl (.cons rfl (.cons (zl (Eq.symm zjG)) (.cons (zl z95) .nil))))))))
       ·have zjH:=hb'; clear hb'
        have zjI:=ite_f znO zjH
        replace zjI:=Option.some.inj zjI
        refine WD.pin (i:=19) rfl zjH ?_
        refine WD.skip (i:=3) (d:=20) (by kernel_rfl) rfl (z6 (by kernel_rfl)) (z7 (by kernel_rfl)) rfl rfl rfl ?_
        refine WD.skip (i:=4) (d:=21) (by kernel_rfl) rfl (z6 (by kernel_rfl)) (z7 (by kernel_rfl)) rfl rfl rfl ?_
        refine WD.skip (i:=5) (d:=22) (by kernel_rfl) rfl (z6 (by kernel_rfl)) (z7 (by kernel_rfl)) rfl rfl rfl ?_
        refine WD.skip (i:=6) (d:=23) (by kernel_rfl) rfl (z6 (by kernel_rfl)) (z7 (by kernel_rfl)) rfl rfl rfl ?_
        refine WD.skip (i:=7) (d:=24) (by kernel_rfl) rfl (z6 (by kernel_rfl)) (z7 (by kernel_rfl)) rfl rfl rfl ?_
        refine WD.skip (i:=8) (d:=25) (by kernel_rfl) rfl (z6 (by kernel_rfl)) (z7 (by kernel_rfl)) rfl rfl rfl ?_
        refine WD.skip (i:=9) (d:=26) (by kernel_rfl) rfl (z6 (by kernel_rfl)) (z7 (by kernel_rfl)) rfl rfl rfl ?_
        refine WD.skip (i:=10) (d:=27) (by kernel_rfl) rfl (z6 (by kernel_rfl)) (z7 (by kernel_rfl)) rfl rfl rfl ?_
        refine WD.skip (i:=11) (d:=28) (by kernel_rfl) rfl (z6 (by kernel_rfl)) (z7 (by kernel_rfl)) rfl rfl rfl ?_
        refine WD.skip (i:=12) (d:=29) (by kernel_rfl) rfl (z6 (by kernel_rfl)) (z7 (by kernel_rfl)) rfl rfl rfl ?_
        refine WD.skip (i:=13) (d:=30) (by kernel_rfl) rfl (z6 (by kernel_rfl)) (z7 (by kernel_rfl)) rfl rfl rfl ?_
        refine WD.skip (i:=14) (d:=31) (by kernel_rfl) rfl (z6 (by kernel_rfl)) (z7 (by kernel_rfl)) rfl rfl rfl ?_
        refine WD.skip (i:=15) (d:=32) (by kernel_rfl) rfl (z6 (by kernel_rfl)) (z7 (by kernel_rfl)) rfl rfl rfl ?_
        refine WD.pure (i:=16) (d:=33) (by kernel_rfl) rfl (z6 (by kernel_rfl)) (z7 (by kernel_rfl)) rfl rfl rfl (fun _=>q_pickF rfl rfl) ?_
        refine WD.reL (.cons .here (.cons .here .nil)) ?_ znP
        exact (.cons rfl (.cons rfl (.cons rfl (.cons rfl (.cons rfl (.cons rfl (.cons (zl (Eq.symm zjH)) (.cons (zl zjI) .nil))))))))
      refine WD.done (by kernel_rfl) ?_
      refine WX.then ?_
      refine WC.cond rfl (fun zjJ=>?_) (fun zjJ=>?_)
      ·replace h:=ite_t h zjJ
       refine WC.skip ?_
       refine WX.then ?_
       refine WC.block ?_
       refine WC.region ?_
       refine WL.quiet (d:=34) rfl rfl rfl (q_move rfl) ?_
       refine WL.quiet (d:=35) rfl rfl rfl (q_sub rfl rfl rfl) ?_
       refine WL.quiet (d:=5) rfl rfl rfl (q_assign rfl) ?_
       refine WL.nil ?_
       refine WX.blockNormal ?_
       exact WX.round (G:=Nat × Int) ⟨zjy,(i64 (z3E - 1))⟩ h (Nat.lt_succ_self _) (.cons rfl (.cons rfl (.cons rfl (.cons rfl .nil)))) (.cons .here (.cons .here .nil))
      ·replace h:=ite_f h zjJ
       refine WC.exit ?_
       refine WX.thenExit ?_
       refine WX.thenExit ?_
       refine WX.blockHit ?_
       exact WX.mid (G:=Int) z3E h (.cons rfl (.cons rfl (.cons rfl (.cons rfl .nil)))) (.cons .here (.cons .here .nil))
     ·rintro z1W h
      replace h:=(zun z1W).symm.trans h
      refine WC.freezeS (ls:=zz) (.there .here) .here hz (RR.flat (enc:=e42) (fun _=>rfl) _) ?_
      intro z7c znR znS
      obtain ⟨zur,h⟩:=chk_elim h
      obtain ⟨znT,h⟩:=chk_elim h
      obtain ⟨zus,h⟩:=chk_elim h
      obtain ⟨zut,h⟩:=chk_elim h
      obtain ⟨zuu,h⟩:=chk_elim h
      obtain ⟨zuv,h⟩:=chk_elim h
      refine WC.draw (fun i=>[4,10,14].contains i) [fz z7c] rfl ?_
      refine WD.pure (i:=1) (d:=37) (by kernel_rfl) rfl (z6 (by kernel_rfl)) (z7 (by kernel_rfl)) rfl rfl rfl (fun _=>q_move rfl) ?_
      refine WD.pure (i:=2) (d:=38) (by kernel_rfl) rfl (z6 (by kernel_rfl)) (z7 (by kernel_rfl)) rfl rfl rfl (fun _=>q_move rfl) ?_
      refine WD.zsub (j:=3) (dd:=39) (by kernel_rfl) rfl (z6 (by kernel_rfl)) (z7 (by kernel_rfl)) rfl rfl (Z:=(Z ++ z7c)) (Pr:=(fun r x=>r = e42 x)) elT_25 rfl znS (fun _=>ixn) (fun _=>ixo rfl) rfl rfl zur (List.drop_zero).symm ?_
      rintro zjK zjL znU
      refine WD.pure (i:=5) (d:=41) (by kernel_rfl) rfl (z6 (by kernel_rfl)) (z7 (by kernel_rfl)) rfl rfl rfl (fun _=>q_move rfl) ?_
      refine WD.pure (i:=6) (d:=42) (by kernel_rfl) rfl (z6 (by kernel_rfl)) (z7 (by kernel_rfl)) rfl rfl rfl (fun _=>q_move rfl) ?_
      refine WD.znth (j:=7) (dd:=43) (by kernel_rfl) rfl (z6 (by kernel_rfl)) (z7 (by kernel_rfl)) rfl rfl (Z:=(Z ++ z7c)) (Pr:=(fun r x=>r = e42 x)) elT_25 rfl rfl (zjD.mono ((Zle.left _ _).trans (ze2.trans znR))) zus ?_
      rintro zyC zyD zuw zyE rfl
      refine WD.stable (i:=8) (d:=44) (by kernel_rfl) rfl (z6 (by kernel_rfl)) (z7 (by kernel_rfl)) rfl rfl rfl (Sin.of (.cons .here .nil)) (q_loadA (cs:=[(.int .i64 (((nth zi zm).fBurst).fN)),(.int .i64 (((nth zi zm).fBurst).fD)),(.int .i64 (((nth zi zm).fRate).fN)),(.int .i64 (((nth zi zm).fRate).fD))]) aggT_42 rfl rfl (rd_zs (hz.pv2 .here) zuw)) ?_
      refine WD.pure (i:=11) (d:=47) (by kernel_rfl) rfl (z6 (by kernel_rfl)) (z7 (by kernel_rfl)) rfl rfl rfl (fun _=>q_move rfl) ?_
      refine WD.pure (i:=12) (d:=48) (by kernel_rfl) rfl (z6 (by kernel_rfl)) (z7 (by kernel_rfl)) rfl rfl rfl (fun _=>q_move rfl) ?_
      refine WD.zsub (j:=13) (dd:=49) (by kernel_rfl) rfl (z6 (by kernel_rfl)) (z7 (by kernel_rfl)) rfl rfl (Z:=(Z ++ z7c)) (Pr:=(fun r x=>r = e42 x)) elT_25 rfl znS (fun _=>ixo rfl) (fun _=>ixn) rfl rfl zuu (by rw [Int.toNat_natCast,List.take_length]) ?_
      rintro zcg zch zux
      refine WD.mids8 (fuel':=0) (fun (b0o1_44044 : Nat) (ao4o1_44044 : Option Addr) (cap4o2_44044 : Nat) (b9o1_44044 : Nat) (ao10o1_44044 : Option Addr) (cap10o2_44044 : Nat) (ao14o1_44044 : Option Addr) (cap14o2_44044 : Nat)=>[(0,(.slice z4f zi.length z4g)),(3,(.slice ao14o1_44044 ((((([] : List z1) ++ (zz.take (z1W : Int).toNat)) ++ ([(⟨(⟨(((nth zi zm).fBurst).fN),(((nth zi zm).fBurst).fD)⟩ : z2),(⟨(((nth zi zm).fRate).fN),(((nth zi zm).fRate).fD)⟩ : z2)⟩ : z1)] : List z1)) ++ (zz.drop (z1W : Int).toNat)).length) cap14o2_44044)),(4,(.int .i64 zm))]) (fun (b0o1_44044 : Nat) (ao4o1_44044 : Option Addr) (cap4o2_44044 : Nat) (b9o1_44044 : Nat) (ao10o1_44044 : Option Addr) (cap10o2_44044 : Nat) (ao14o1_44044 : Option Addr) (cap14o2_44044 : Nat)=>[row (.slice ao14o1_44044 ((((([] : List z1) ++ (zz.take (z1W : Int).toNat)) ++ ([(⟨(⟨(((nth zi zm).fBurst).fN),(((nth zi zm).fBurst).fD)⟩ : z2),(⟨(((nth zi zm).fRate).fN),(((nth zi zm).fRate).fD)⟩ : z2)⟩ : z1)] : List z1)) ++ (zz.drop (z1W : Int).toNat)).length) cap14o2_44044) 42 4 ((((([] : List z1) ++ (zz.take (z1W : Int).toNat)) ++ ([(⟨(⟨(((nth zi zm).fBurst).fN),(((nth zi zm).fBurst).fD)⟩ : z2),(⟨(((nth zi zm).fRate).fN),(((nth zi zm).fRate).fD)⟩ : z2)⟩ : z1)] : List z1)) ++ (zz.drop (z1W : Int).toNat)).flatMap e42),row (.slice (some ⟨b9o1_44044,0,none⟩) (([(⟨(⟨(((nth zi zm).fBurst).fN),(((nth zi zm).fBurst).fD)⟩ : z2),(⟨(((nth zi zm).fRate).fN),(((nth zi zm).fRate).fD)⟩ : z2)⟩ : z1)] : List z1).length) 1) 42 4 (([(⟨(⟨(((nth zi zm).fBurst).fN),(((nth zi zm).fBurst).fD)⟩ : z2),(⟨(((nth zi zm).fRate).fN),(((nth zi zm).fRate).fD)⟩ : z2)⟩ : z1)] : List z1).flatMap e42),fz z7c]) (fun (b0o1_44044 : Nat) (ao4o1_44044 : Option Addr) (cap4o2_44044 : Nat) (b9o1_44044 : Nat) (ao10o1_44044 : Option Addr) (cap10o2_44044 : Nat) (ao14o1_44044 : Option Addr) (cap14o2_44044 : Nat)=>True) (listedA 16 [15,14,10,9,4,0,13,12,11,8,7,6,5,3,2,1]) ?_ (fun K0o4o9o10o14o15_44044=>?_)
      ·skip
       rintro b0o1_44044 ao4o1_44044 cap4o2_44044 b9o1_44044 ao10o1_44044 cap10o2_44044 ao14o1_44044 cap14o2_44044 _
       refine WD.done (by kernel_rfl) ?_
       refine WX.blockNormal ?_
       exact WX.mid (G:=List z1 × Zp × Option Addr × Nat) ⟨(((([] : List z1) ++ (zz.take (z1W : Int).toNat)) ++ ([(⟨(⟨(((nth zi zm).fBurst).fN),(((nth zi zm).fBurst).fD)⟩ : z2),(⟨(((nth zi zm).fRate).fN),(((nth zi zm).fRate).fD)⟩ : z2)⟩ : z1)] : List z1)) ++ (zz.drop (z1W : Int).toNat)),z7c,ao14o1_44044,cap14o2_44044⟩ ⟨h,znR⟩ (.cons rfl (.cons rfl (.cons rfl .nil))) (.cons (.there (.there .here)) (.cons .here .nil))
      refine WD.mids6 (fuel':=2) (fun (b0o1_44044 : Nat) (ao4o1_44044 : Option Addr) (cap4o2_44044 : Nat) (b9o1_44044 : Nat) (ao10o1_44044 : Option Addr) (cap10o2_44044 : Nat)=>[(0,(.slice z4f zi.length z4g)),(3,(.slice z4t zz.length z44)),(4,(.int .i64 zm)),(49,(.slice zcg ((zz.drop (z1W : Int).toNat).length) zch)),(46,(.slice ao10o1_44044 (((([] : List z1) ++ (zz.take (z1W : Int).toNat)) ++ ([(⟨(⟨(((nth zi zm).fBurst).fN),(((nth zi zm).fBurst).fD)⟩ : z2),(⟨(((nth zi zm).fRate).fN),(((nth zi zm).fRate).fD)⟩ : z2)⟩ : z1)] : List z1)).length) cap10o2_44044))]) (fun (b0o1_44044 : Nat) (ao4o1_44044 : Option Addr) (cap4o2_44044 : Nat) (b9o1_44044 : Nat) (ao10o1_44044 : Option Addr) (cap10o2_44044 : Nat)=>[row (.slice ao10o1_44044 (((([] : List z1) ++ (zz.take (z1W : Int).toNat)) ++ ([(⟨(⟨(((nth zi zm).fBurst).fN),(((nth zi zm).fBurst).fD)⟩ : z2),(⟨(((nth zi zm).fRate).fN),(((nth zi zm).fRate).fD)⟩ : z2)⟩ : z1)] : List z1)).length) cap10o2_44044) 42 4 (((([] : List z1) ++ (zz.take (z1W : Int).toNat)) ++ ([(⟨(⟨(((nth zi zm).fBurst).fN),(((nth zi zm).fBurst).fD)⟩ : z2),(⟨(((nth zi zm).fRate).fN),(((nth zi zm).fRate).fD)⟩ : z2)⟩ : z1)] : List z1)).flatMap e42),row (.slice (some ⟨b9o1_44044,0,none⟩) (([(⟨(⟨(((nth zi zm).fBurst).fN),(((nth zi zm).fBurst).fD)⟩ : z2),(⟨(((nth zi zm).fRate).fN),(((nth zi zm).fRate).fD)⟩ : z2)⟩ : z1)] : List z1).length) 1) 42 4 (([(⟨(⟨(((nth zi zm).fBurst).fN),(((nth zi zm).fBurst).fD)⟩ : z2),(⟨(((nth zi zm).fRate).fN),(((nth zi zm).fRate).fD)⟩ : z2)⟩ : z1)] : List z1).flatMap e42),fz z7c]) (fun (b0o1_44044 : Nat) (ao4o1_44044 : Option Addr) (cap4o2_44044 : Nat) (b9o1_44044 : Nat) (ao10o1_44044 : Option Addr) (cap10o2_44044 : Nat)=>True) (listedA 16 [10,9,4,0,13,12,11,8,7,6,5,3,2,1]) ?_ (fun K0o4o9o10_44044=>?_)
      ·skip
       rintro b0o1_44044 ao4o1_44044 cap4o2_44044 b9o1_44044 ao10o1_44044 cap10o2_44044 _
       refine WD.old (i:=14) (dd:=50) rfl (by kernel_rfl) rfl rfl rfl rfl (fun _=>(Sin.of (.cons (.there (.there .here)) .nil))) (e_appendF (enc:=e42) (l1:=(([] : List z1) ++ (zz.take (z1W : Int).toNat)) ++ ([(⟨(⟨(((nth zi zm).fBurst).fN),(((nth zi zm).fBurst).fD)⟩ : z2),(⟨(((nth zi zm).fRate).fN),(((nth zi zm).fRate).fD)⟩ : z2)⟩ : z1)] : List z1)) (l2:=zz.drop (z1W : Int).toNat) elT_25 rfl rfl .here (fun _=>rfl) rfl rfl (news_z (hz.pv2 (.there (.there .here))) zux) (oc_flat e42_oc _) zuv) ?_
       rintro ⟨ao14o1_44044,cap14o2_44044⟩ _
       refine WD.pure (i:=15) (d:=3) (by kernel_rfl) rfl (z6 (by kernel_rfl)) (z7 (by kernel_rfl)) rfl rfl rfl (fun _=>q_assign rfl) ?_
       exact WD.reL (.cons .here (.cons .here (.cons .here .nil))) (.cons rfl (.cons rfl (.cons rfl .nil))) (K0o4o9o10o14o15_44044 b0o1_44044 ao4o1_44044 cap4o2_44044 b9o1_44044 ao10o1_44044 cap10o2_44044 ao14o1_44044 cap14o2_44044 trivial)
      refine WD.mids4 (fuel':=3) (fun (b0o1_44044 : Nat) (ao4o1_44044 : Option Addr) (cap4o2_44044 : Nat) (b9o1_44044 : Nat)=>[(0,(.slice z4f zi.length z4g)),(3,(.slice z4t zz.length z44)),(4,(.int .i64 zm)),(49,(.slice zcg ((zz.drop (z1W : Int).toNat).length) zch)),(40,(.slice ao4o1_44044 ((([] : List z1) ++ (zz.take (z1W : Int).toNat)).length) cap4o2_44044)),(45,(.slice (some ⟨b9o1_44044,0,none⟩) (([(⟨(⟨(((nth zi zm).fBurst).fN),(((nth zi zm).fBurst).fD)⟩ : z2),(⟨(((nth zi zm).fRate).fN),(((nth zi zm).fRate).fD)⟩ : z2)⟩ : z1)] : List z1).length) 1))]) (fun (b0o1_44044 : Nat) (ao4o1_44044 : Option Addr) (cap4o2_44044 : Nat) (b9o1_44044 : Nat)=>[row (.slice (some ⟨b9o1_44044,0,none⟩) (([(⟨(⟨(((nth zi zm).fBurst).fN),(((nth zi zm).fBurst).fD)⟩ : z2),(⟨(((nth zi zm).fRate).fN),(((nth zi zm).fRate).fD)⟩ : z2)⟩ : z1)] : List z1).length) 1) 42 4 (([(⟨(⟨(((nth zi zm).fBurst).fN),(((nth zi zm).fBurst).fD)⟩ : z2),(⟨(((nth zi zm).fRate).fN),(((nth zi zm).fRate).fD)⟩ : z2)⟩ : z1)] : List z1).flatMap e42),row (.slice ao4o1_44044 ((([] : List z1) ++ (zz.take (z1W : Int).toNat)).length) cap4o2_44044) 42 4 ((([] : List z1) ++ (zz.take (z1W : Int).toNat)).flatMap e42),fz z7c]) (fun (b0o1_44044 : Nat) (ao4o1_44044 : Option Addr) (cap4o2_44044 : Nat) (b9o1_44044 : Nat)=>True) (listedA 16 [9,4,0,13,12,11,8,7,6,5,3,2,1]) ?_ (fun K0o4o9_44044=>?_)
      ·skip
       rintro b0o1_44044 ao4o1_44044 cap4o2_44044 b9o1_44044 _
       refine WD.old (i:=10) (dd:=46) rfl (by kernel_rfl) rfl rfl rfl rfl (fun _=>(Sin.of (.cons (.there (.there .here)) .nil))) (e_appendF (enc:=e42) (l1:=([] : List z1) ++ (zz.take (z1W : Int).toNat)) (l2:=([(⟨(⟨(((nth zi zm).fBurst).fN),(((nth zi zm).fBurst).fD)⟩ : z2),(⟨(((nth zi zm).fRate).fN),(((nth zi zm).fRate).fD)⟩ : z2)⟩ : z1)] : List z1)) elT_25 rfl rfl (.there .here) (fun _=>rfl) rfl rfl (news_row .here) (oc_flat e42_oc _) zut) ?_
       rintro ⟨ao10o1_44044,cap10o2_44044⟩ _
       exact WD.reL (.cons .here (.cons .here (.cons .here .nil))) (.cons rfl (.cons rfl (.cons rfl (.cons rfl (.cons rfl .nil))))) (K0o4o9o10_44044 b0o1_44044 ao4o1_44044 cap4o2_44044 b9o1_44044 ao10o1_44044 cap10o2_44044 trivial)
      refine WD.mids3 (fuel':=4) (fun (b0o1_44044 : Nat) (ao4o1_44044 : Option Addr) (cap4o2_44044 : Nat)=>[(0,(.slice z4f zi.length z4g)),(3,(.slice z4t zz.length z44)),(4,(.int .i64 zm)),(44,(.agg #[(.int .i64 (((nth zi zm).fBurst).fN)),(.int .i64 (((nth zi zm).fBurst).fD)),(.int .i64 (((nth zi zm).fRate).fN)),(.int .i64 (((nth zi zm).fRate).fD))])),(49,(.slice zcg ((zz.drop (z1W : Int).toNat).length) zch)),(40,(.slice ao4o1_44044 ((([] : List z1) ++ (zz.take (z1W : Int).toNat)).length) cap4o2_44044))]) (fun (b0o1_44044 : Nat) (ao4o1_44044 : Option Addr) (cap4o2_44044 : Nat)=>[row (.slice ao4o1_44044 ((([] : List z1) ++ (zz.take (z1W : Int).toNat)).length) cap4o2_44044) 42 4 ((([] : List z1) ++ (zz.take (z1W : Int).toNat)).flatMap e42),fz z7c]) (fun (b0o1_44044 : Nat) (ao4o1_44044 : Option Addr) (cap4o2_44044 : Nat)=>True) (listedA 16 [4,0,13,12,11,8,7,6,5,3,2,1]) ?_ (fun K0o4_44044=>?_)
      ·skip
       rintro b0o1_44044 ao4o1_44044 cap4o2_44044 _
       refine WD.new (i:=9) (dd:=45) rfl (by kernel_rfl) rfl rfl rfl (e_buildSlice (cs:=([(⟨(⟨(((nth zi zm).fBurst).fN),(((nth zi zm).fBurst).fD)⟩ : z2),(⟨(((nth zi zm).fRate).fN),(((nth zi zm).fRate).fD)⟩ : z2)⟩ : z1)] : List z1).flatMap e42) elT_25 (Eos.parts (l:=[.tmp 44]) (.cons rfl .nil) [0]) (fun _=>by kernel_rfl) rfl (by unfold maxLen; omega)) (fun h'=>absurd h' (by decide)) ?_
       intro b9o1_44044 _
       exact WD.reL (.cons .here (.cons .here (.cons .here .nil))) (.cons rfl (.cons rfl (.cons rfl (.cons rfl (.cons rfl (.cons rfl .nil)))))) (K0o4o9_44044 b0o1_44044 ao4o1_44044 cap4o2_44044 b9o1_44044 trivial)
      refine WD.mids2 (fuel':=4) (fun (b0o1_44044 : Nat) (b9o1_44044 : Nat)=>[(0,(.slice z4f zi.length z4g)),(3,(.slice z4t zz.length z44)),(4,(.int .i64 zm)),(39,(.slice zjK ((zz.take (z1W : Int).toNat).length) zjL)),(49,(.slice zcg ((zz.drop (z1W : Int).toNat).length) zch)),(36,(.slice (some ⟨b0o1_44044,0,none⟩) (([] : List z1).length) 0)),(45,(.slice (some ⟨b9o1_44044,0,none⟩) (([(⟨(⟨(((nth zi zm).fBurst).fN),(((nth zi zm).fBurst).fD)⟩ : z2),(⟨(((nth zi zm).fRate).fN),(((nth zi zm).fRate).fD)⟩ : z2)⟩ : z1)] : List z1).length) 1))]) (fun (b0o1_44044 : Nat) (b9o1_44044 : Nat)=>[row (.slice (some ⟨b9o1_44044,0,none⟩) (([(⟨(⟨(((nth zi zm).fBurst).fN),(((nth zi zm).fBurst).fD)⟩ : z2),(⟨(((nth zi zm).fRate).fN),(((nth zi zm).fRate).fD)⟩ : z2)⟩ : z1)] : List z1).length) 1) 42 4 (([(⟨(⟨(((nth zi zm).fBurst).fN),(((nth zi zm).fBurst).fD)⟩ : z2),(⟨(((nth zi zm).fRate).fN),(((nth zi zm).fRate).fD)⟩ : z2)⟩ : z1)] : List z1).flatMap e42),row (.slice (some ⟨b0o1_44044,0,none⟩) (([] : List z1).length) 0) 42 4 (([] : List z1).flatMap e42),fz z7c]) (fun (b0o1_44044 : Nat) (b9o1_44044 : Nat)=>True) (listedA 16 [9,0,13,12,11,8,7,6,5,3,2,1]) ?_ (fun K0o9_44044=>?_)
      ·skip
       rintro b0o1_44044 b9o1_44044 _
       refine WD.old (i:=4) (dd:=40) rfl (by kernel_rfl) rfl rfl rfl rfl (fun _=>(Sin.of (.cons (.there (.there .here)) .nil))) (e_appendF (enc:=e42) (l1:=([] : List z1)) (l2:=zz.take (z1W : Int).toNat) elT_25 rfl rfl (.there .here) (fun _=>rfl) rfl rfl (news_z (hz.pv2 (.there (.there .here))) znU) (oc_flat e42_oc _) znT) ?_
       rintro ⟨ao4o1_44044,cap4o2_44044⟩ _
       exact WD.reL (.cons (.there .here) (.cons .here (.cons .here .nil))) (.cons rfl (.cons rfl (.cons rfl (.cons rfl (.cons rfl (.cons rfl .nil)))))) (K0o4o9_44044 b0o1_44044 ao4o1_44044 cap4o2_44044 b9o1_44044 trivial)
      refine WD.mids1 (fuel':=5) (fun (b0o1_44044 : Nat)=>[(0,(.slice z4f zi.length z4g)),(3,(.slice z4t zz.length z44)),(4,(.int .i64 zm)),(39,(.slice zjK ((zz.take (z1W : Int).toNat).length) zjL)),(44,(.agg #[(.int .i64 (((nth zi zm).fBurst).fN)),(.int .i64 (((nth zi zm).fBurst).fD)),(.int .i64 (((nth zi zm).fRate).fN)),(.int .i64 (((nth zi zm).fRate).fD))])),(49,(.slice zcg ((zz.drop (z1W : Int).toNat).length) zch)),(36,(.slice (some ⟨b0o1_44044,0,none⟩) (([] : List z1).length) 0))]) (fun (b0o1_44044 : Nat)=>[row (.slice (some ⟨b0o1_44044,0,none⟩) (([] : List z1).length) 0) 42 4 (([] : List z1).flatMap e42),fz z7c]) (fun (b0o1_44044 : Nat)=>True) (listedA 16 [0,13,12,11,8,7,6,5,3,2,1]) ?_ (fun K0_44044=>?_)
      ·skip
       rintro b0o1_44044 _
       refine WD.choose [4,9] (by kernel_rfl) rfl ?_
       refine WDo.cons ?_ (WDo.cons ?_ (WDo.nil))
       ·refine WDo.old (i:=4) (dd:=40) rfl rfl rfl rfl rfl (fun _=>(Sin.of (.cons (.there .here) .nil))) (e_appendF (enc:=e42) (l1:=([] : List z1)) (l2:=zz.take (z1W : Int).toNat) elT_25 rfl rfl .here (fun _=>rfl) rfl rfl (news_z (hz.pv2 (.there .here)) znU) (oc_flat e42_oc _) znT) ?_
        rintro ⟨ao4o1_44044,cap4o2_44044⟩ _
        exact WD.reL (.cons .here (.cons .here .nil)) (.cons rfl (.cons rfl (.cons rfl (.cons rfl (.cons rfl (.cons rfl .nil)))))) (K0o4_44044 b0o1_44044 ao4o1_44044 cap4o2_44044 trivial)
       ·refine WDo.new (i:=9) (dd:=45) rfl rfl rfl rfl (e_buildSlice (cs:=([(⟨(⟨(((nth zi zm).fBurst).fN),(((nth zi zm).fBurst).fD)⟩ : z2),(⟨(((nth zi zm).fRate).fN),(((nth zi zm).fRate).fD)⟩ : z2)⟩ : z1)] : List z1).flatMap e42) elT_25 (Eos.parts (l:=[.tmp 44]) (.cons rfl .nil) [0]) (fun _=>by kernel_rfl) rfl (by unfold maxLen; omega)) (fun h'=>absurd h' (by decide)) ?_
        intro b9o1_44044 _
        exact WD.reL (.cons .here (.cons .here (.cons .here .nil))) (.cons rfl (.cons rfl (.cons rfl (.cons rfl (.cons rfl (.cons rfl (.cons rfl .nil))))))) (K0o9_44044 b0o1_44044 b9o1_44044 trivial)
      refine WD.mids1 (fuel':=5) (fun (b9o1_44044 : Nat)=>[(0,(.slice z4f zi.length z4g)),(3,(.slice z4t zz.length z44)),(4,(.int .i64 zm)),(39,(.slice zjK ((zz.take (z1W : Int).toNat).length) zjL)),(49,(.slice zcg ((zz.drop (z1W : Int).toNat).length) zch)),(45,(.slice (some ⟨b9o1_44044,0,none⟩) (([(⟨(⟨(((nth zi zm).fBurst).fN),(((nth zi zm).fBurst).fD)⟩ : z2),(⟨(((nth zi zm).fRate).fN),(((nth zi zm).fRate).fD)⟩ : z2)⟩ : z1)] : List z1).length) 1))]) (fun (b9o1_44044 : Nat)=>[row (.slice (some ⟨b9o1_44044,0,none⟩) (([(⟨(⟨(((nth zi zm).fBurst).fN),(((nth zi zm).fBurst).fD)⟩ : z2),(⟨(((nth zi zm).fRate).fN),(((nth zi zm).fRate).fD)⟩ : z2)⟩ : z1)] : List z1).length) 1) 42 4 (([(⟨(⟨(((nth zi zm).fBurst).fN),(((nth zi zm).fBurst).fD)⟩ : z2),(⟨(((nth zi zm).fRate).fN),(((nth zi zm).fRate).fD)⟩ : z2)⟩ : z1)] : List z1).flatMap e42),fz z7c]) (fun (b9o1_44044 : Nat)=>True) (listedA 16 [9,13,12,11,8,7,6,5,3,2,1]) ?_ (fun K9_44044=>?_)
      ·skip
       rintro b9o1_44044 _
       refine WD.new (i:=0) (dd:=36) rfl (by kernel_rfl) rfl rfl rfl (e_buildSlice (cs:=([] : List z1).flatMap e42) elT_25 (Eos.parts (l:=[]) .nil []) (fun _=>by kernel_rfl) rfl (by unfold maxLen; omega)) (fun h'=>absurd h' (by decide)) ?_
       intro b0o1_44044 _
       exact WD.reL (.cons (.there .here) (.cons .here (.cons .here .nil))) (.cons rfl (.cons rfl (.cons rfl (.cons rfl (.cons rfl (.cons rfl (.cons rfl .nil))))))) (K0o9_44044 b0o1_44044 b9o1_44044 trivial)
      refine WD.choose [0,9] (by kernel_rfl) rfl ?_
      refine WDo.cons ?_ (WDo.cons ?_ (WDo.nil))
      ·refine WDo.new (i:=0) (dd:=36) rfl rfl rfl rfl (e_buildSlice (cs:=([] : List z1).flatMap e42) elT_25 (Eos.parts (l:=[]) .nil []) (fun _=>by kernel_rfl) rfl (by unfold maxLen; omega)) (fun h'=>absurd h' (by decide)) ?_
       intro b0o1_44044 _
       exact WD.reL (.cons .here (.cons .here .nil)) (.cons rfl (.cons rfl (.cons rfl (.cons rfl (.cons rfl (.cons rfl (.cons rfl .nil))))))) (K0_44044 b0o1_44044 trivial)
      ·refine WDo.new (i:=9) (dd:=45) rfl rfl rfl rfl (e_buildSlice (cs:=([(⟨(⟨(((nth zi zm).fBurst).fN),(((nth zi zm).fBurst).fD)⟩ : z2),(⟨(((nth zi zm).fRate).fN),(((nth zi zm).fRate).fD)⟩ : z2)⟩ : z1)] : List z1).flatMap e42) elT_25 (Eos.parts (l:=[.tmp 44]) (.cons rfl .nil) [0]) (fun _=>by kernel_rfl) rfl (by unfold maxLen; omega)) (fun h'=>absurd h' (by decide)) ?_
       intro b9o1_44044 _
       exact WD.reL (.cons .here (.cons .here .nil)) (.cons rfl (.cons rfl (.cons rfl (.cons rfl (.cons rfl (.cons rfl .nil)))))) (K9_44044 b9o1_44044 trivial)
   ·rintro z7H zcc zcd zce ⟨h,zuy⟩
    replace h:=(zul z7H).symm.trans h
    refine WC.region ?_
    refine WL.quiet (d:=10) rfl rfl rfl (q_move rfl) ?_
    refine WL.quiet (d:=11) rfl rfl rfl (q_add rfl rfl rfl) ?_
    refine WL.quiet (d:=4) rfl rfl rfl (q_assign rfl) ?_
    refine WL.nil ?_
    exact WX.round (G:=Nat × List z1 × Int × Zp × Option Addr × Nat) ⟨zjB,z7H,(i64 (zm + 1)),zcc,zcd,zce⟩ ⟨h,(ze2.trans zuy)⟩ (Nat.lt_succ_self _) (.cons rfl (.cons rfl (.cons rfl .nil))) (.cons .here (.cons .here .nil))
  ·replace h:=ite_f h zjE
   refine WC.exit ?_
   refine WX.thenExit ?_
   refine WX.thenExit ?_
   refine WX.blockHit ?_
   exact WX.mid (G:=List z1 × Zp × Option Addr × Nat) ⟨zz,z5x,z4t,z44⟩ ⟨h,ze2⟩ (.cons rfl .nil) (.cons .here (.cons .here .nil))
 ·rintro z89 zc8 zc9 zca ⟨h,zyF⟩
  replace h:=(zuk z89).symm.trans h
  refine WC.seq ?_
  refine WC.region ?_
  refine WL.quiet (d:=51) rfl rfl rfl (q_move rfl) ?_
  refine WL.quiet (d:=2) rfl rfl rfl (q_assign rfl) ?_
  refine WL.nil ?_
  refine WX.then ?_
  refine WC.ret ?_
  obtain rfl:=Option.some.inj h
  refine WX.bpRet Try.results28 (.tmp rfl .nil) (fun w hw=>?_)
  exact ⟨zc8,zc9,zca,ret1 rfl,trivial,hw.sub (.cons .here (.cons .here .nil))⟩
def m_law02_same (z7d : List z1) (z7I : Int) (z7e : List z1) (z7J : Int) : Option Bool :=
 (if decide (z7I = z7J) then (m_ref02_Same z7d z7e).bind fun zjM=>some zjM else some false).bind fun zjN=>some zjN
set_option maxRecDepth 20000 in
theorem w_law02_same (Z : Zp)  (z96 : Option Addr) (z97 : Nat) (z98 : Option Addr) (z99 : Nat) (z7d : List z1) (z7I : Int) (z7e : List z1) (z7J : Int) (r : Bool) (w₀ : World) (hz : PZ [] w₀ Z)
  (zuz : ZS Z 4 (fun r x=>r = e42 x) z96 z97 z7d)
  (zuA : ZS Z 4 (fun r x=>r = e42 x) z98 z99 z7e)
  (h : m_law02_same z7d z7I z7e z7J = some r) :
  Calls Try.prog 29 #[(.slice z96 z7d.length z97),(.int .i64 z7I),(.slice z98 z7e.length z99),(.int .i64 z7J)] w₀ fun e w'=>e = .returned (.bool r) ∧ Hp [] w₀ w' []:=by
 unfold m_law02_same at h
 refine Calls.ofWC (vs:=[(.slice z96 z7d.length z97),(.int .i64 z7I),(.slice z98 z7e.length z99),(.int .i64 z7J)]) (pre:=[]) (env:=[(0,(.slice z96 z7d.length z97)),(1,(.int .i64 z7I)),(2,(.slice z98 z7e.length z99)),(3,(.int .i64 z7J))]) Try.func29 rfl Try.ntmps29 rfl (Hp.nil w₀ _) rfl ?_
 refine WC.seq ?_
 refine WC.region ?_
 refine WL.quiet (d:=8) rfl rfl rfl (q_assign rfl) ?_
 refine WL.nil ?_
 refine WX.then ?_
 refine WC.seq ?_
 obtain ⟨zjN,znV,h⟩:=zb h
 refine WC.region ?_
 refine WL.quiet (d:=9) rfl rfl rfl (q_move rfl) ?_
 refine WL.quiet (d:=10) rfl rfl rfl (q_move rfl) ?_
 refine WL.quiet (d:=11) rfl rfl rfl (q_eql rfl rfl) ?_
 refine WL.quiet (d:=12) rfl rfl rfl (q_move rfl) ?_
 refine WL.cut0 True [(8,(.bool false)),(16,(.bool zjN))] [] 4 ?_ (fun _=>?_)
 ·rcases Bool.eq_false_or_eq_true (decide (z7I = z7J)) with hb' | hb'
  ·have znW:=hb'; clear hb'
   have ze4:=ite_t znV znW
   obtain ⟨zjM,zuB,ze4⟩:=zb ze4
   replace ze4:=Option.some.inj ze4
   refine WL.pin (i:=12) rfl znW ?_
   refine WL.quiet (d:=13) rfl rfl rfl (q_move rfl) ?_
   refine WL.quiet (d:=14) rfl rfl rfl (q_move rfl) ?_
   refine WL.callD (dd:=15) rfl rfl rfl (zg (l:=[.tmp 13,.tmp 14]) Try.call44 (.cons rfl (.cons rfl .nil))) (.nil : Sel [] [] []) (fun w hw=>by have pz:=(hz.call hw (.nil : Sel [] [] [])); exact w_ref02_Same (Z:=_) (z8Q:=z96) (z8R:=z97) (z8S:=z98) (z8T:=z99) (z31:=z7d) (z3c:=z7e) (r:=zjM) w pz zuz zuA zuB) ?_
   refine WL.quiet (d:=16) rfl rfl rfl (q_pickT rfl rfl) ?_
   exact WL.cutEnd () trivial (.cons rfl (.cons (zl ze4) .nil)) .nil
  ·have znX:=hb'; clear hb'
   have zjO:=ite_f znV znX
   replace zjO:=Option.some.inj zjO
   refine WL.pin (i:=12) rfl znX ?_
   refine WL.skip rfl rfl rfl ?_
   refine WL.skip rfl rfl rfl ?_
   refine WL.skip rfl rfl rfl ?_
   refine WL.quiet (d:=16) rfl rfl rfl (q_pickF rfl rfl) ?_
   exact WL.cutEnd () trivial (.cons rfl (.cons (zl zjO) .nil)) .nil
 ·skip
  refine WL.quiet (d:=8) rfl rfl rfl (q_assign rfl) ?_
  refine WL.nil ?_
  refine WX.then ?_
  refine WC.ret ?_
  obtain rfl:=Option.some.inj h
  refine WX.bpRet Try.results29 (.tmp rfl .nil) (fun w hw=>?_)
  exact ⟨ret1 rfl,hw.sub .nil⟩
def m_ref02_Sum_L4 (z1V : List z1) (z2F : Int) (z1E : List z1) (z9a : (List z1) → Option (List z1 × Int)) : Nat → (List z1) → Int → Option (List z1 × Int)
 | 0,_,_=>none
 | zjP + 1,z3A,z3d=>if decide (z3d < ((z1V.length : Nat) : Int)) then chk ((0 : Int) ≤ z2F ∧ z2F < ((z1E.length : Nat) : Int)) (chk ((0 : Int) ≤ z3d ∧ z3d < ((z1V.length : Nat) : Int)) ((m_ref01_Do 0 (⟨(((nth z1E z2F).fBurst).fN),(((nth z1E z2F).fBurst).fD)⟩ : z2) (⟨(((nth z1V z3d).fBurst).fN),(((nth z1V z3d).fBurst).fD)⟩ : z2)).bind fun z47=>chk ((0 : Int) ≤ z2F ∧ z2F < ((z1E.length : Nat) : Int)) (chk ((0 : Int) ≤ z3d ∧ z3d < ((z1V.length : Nat) : Int)) ((m_ref01_Do 0 (⟨(((nth z1E z2F).fRate).fN),(((nth z1E z2F).fRate).fD)⟩ : z2) (⟨(((nth z1V z3d).fRate).fN),(((nth z1V z3d).fRate).fD)⟩ : z2)).bind fun z58=>if (decide (z47.2 ≠ 0)) || (decide (z58.2 ≠ 0)) then some (([] : List z1),3) else chk ((((z3A ++ ([(⟨z47.1,z58.1⟩ : z1)] : List z1)).length : Nat) : Int) * 32 ≤ 140737488355328 ∧ (((z3A ++ ([(⟨z47.1,z58.1⟩ : z1)] : List z1)).length : Nat) : Int) ≤ 4611686018427387904) (m_ref02_Sum_L4 z1V z2F z1E z9a zjP (z3A ++ ([(⟨z47.1,z58.1⟩ : z1)] : List z1)) (i64 (z3d + 1))))))) else z9a z3A
theorem m_ref02_Sum_L4_fuel {n : Nat} {z1V : List z1} {z2F : Int} {z1E : List z1} {z9a : (List z1) → Option (List z1 × Int)} {z3A : List z1} {z3d : Int} {r : List z1 × Int} (h : m_ref02_Sum_L4 z1V z2F z1E z9a n z3A z3d = some r) : ∃ m,n = m + 1:=by
 cases n with
 | zero=>cases h
 | succ m=>exact ⟨m,rfl⟩
def m_ref02_Sum_L3 (z1E : List z1) (z1V : List z1) (z9b : (List z1) → Option (List z1 × Int)) : Nat → (List z1) → Int → Option (List z1 × Int)
 | 0,_,_=>none
 | zjQ + 1,z6i,z2F=>if decide (z2F < ((z1E.length : Nat) : Int)) then jp1 (fun (z7K : List z1)=>m_ref02_Sum_L3 z1E z1V z9b zjQ z7K (i64 (z2F + 1))) fun zjR=>jp1 (fun (z7L : List z1)=>zjR z7L) fun z9a=>m_ref02_Sum_L4 z1V z2F z1E z9a FUEL z6i 0 else z9b z6i
theorem m_ref02_Sum_L3_fuel {n : Nat} {z1E : List z1} {z1V : List z1} {z9b : (List z1) → Option (List z1 × Int)} {z6i : List z1} {z2F : Int} {r : List z1 × Int} (h : m_ref02_Sum_L3 z1E z1V z9b n z6i z2F = some r) : ∃ m,n = m + 1:=by
 cases n with
 | zero=>cases h
 | succ m=>exact ⟨m,rfl⟩
def m_ref02_Sum (z7f : List z1) (z7g : List z1) : Option (List z1 × Int) :=
 (m_ref02_Valid z7f).bind fun zfD=>(if !zfD then some true else (m_ref02_Valid z7g).bind fun zjS=>some (!zjS)).bind fun zjT=>if zjT then some (([] : List z1),2) else (m_ref02_Norm z7f).bind fun z1E=>(m_ref02_Norm z7g).bind fun z1V=>if decide ((i64 (((z1E.length : Nat) : Int) * ((z1V.length : Nat) : Int))) > 32) then some (([] : List z1),5) else jp1 (fun (z7h : List z1)=>(m_ref02_Norm z7h).bind fun zjU=>some (zjU,0)) fun z9b=>m_ref02_Sum_L3 z1E z1V z9b FUEL ([] : List z1) 0
set_option maxRecDepth 20000 in
theorem w_ref02_Sum (Z : Zp)  (zab : Option Addr) (zac : Nat) (zad : Option Addr) (zae : Nat) (z7f : List z1) (z7g : List z1) (r : List z1 × Int) (w₀ : World) (hz : PZ [] w₀ Z)
  (znY : ZS Z 4 (fun r x=>r = e42 x) zab zac z7f)
  (znZ : ZS Z 4 (fun r x=>r = e42 x) zad zae z7g)
  (h : m_ref02_Sum z7f z7g = some r) :
  Calls Try.prog 31 #[(.slice zab z7f.length zac),(.slice zad z7g.length zae)] w₀ fun e w'=>∃ Zn : Zp,∃ zo0 : Option Addr,∃ zo1 : Nat,e = .returned (.tuple #[(.slice zo0 r.1.length zo1),(.int .i64 r.2)]) ∧ True ∧ Hp [] w₀ w' [fz Zn,row (.slice zo0 r.1.length zo1) 42 4 (r.1.flatMap e42)]:=by
 unfold m_ref02_Sum at h
 refine Calls.ofWC (vs:=[(.slice zab z7f.length zac),(.slice zad z7g.length zae)]) (pre:=[]) (env:=[(0,(.slice zab z7f.length zac)),(1,(.slice zad z7g.length zae))]) Try.func31 rfl Try.ntmps31 rfl (Hp.nil w₀ _) rfl ?_
 refine WC.pool ?_
 refine WC.seq ?_
 refine WC.region ?_
 refine WL.quiet (d:=4) rfl rfl rfl (q_assign rfl) ?_
 refine WL.quiet (d:=5) rfl rfl rfl (q_assign rfl) ?_
 refine WL.nil ?_
 refine WX.then ?_
 refine WC.seq ?_
 refine WC.seq ?_
 obtain ⟨zfD,zuC,h⟩:=zb h
 obtain ⟨zjT,zo2,h⟩:=zb h
 refine WC.region ?_
 refine WL.quiet (d:=15) rfl rfl rfl (q_move rfl) ?_
 refine WL.callD (dd:=16) rfl rfl rfl (zg (l:=[.tmp 15]) Try.call27 (.cons rfl .nil)) (.nil : Sel [fz []] [] [fz []]) (fun w hw=>by have pz:=(hz.call2 hw (.nil : Sel [fz []] [] [fz []]) .here); exact w_ref02_Valid (Z:=_) (z5L:=zab) (z5M:=zac) (z2n:=z7f) (r:=zfD) w pz (znY.mono (Zle.left _ _)) zuC) ?_
 refine WL.quiet (d:=17) rfl rfl rfl (q_not rfl) ?_
 refine WL.quiet (d:=18) rfl rfl rfl (q_move rfl) ?_
 refine WL.cut0 True [(0,(.slice zab z7f.length zac)),(1,(.slice zad z7g.length zae)),(22,(.bool zjT))] [fz []] 4 ?_ (fun _=>?_)
 ·rcases Bool.eq_false_or_eq_true (!zfD) with hb' | hb'
  ·have zo3:=hb'; clear hb'
   have zjV:=ite_t zo2 zo3
   replace zjV:=Option.some.inj zjV
   refine WL.pin (i:=18) rfl zo3 ?_
   refine WL.skip rfl rfl rfl ?_
   refine WL.skip rfl rfl rfl ?_
   refine WL.skip rfl rfl rfl ?_
   refine WL.quiet (d:=22) rfl rfl rfl (q_pickT rfl rfl) ?_
   exact WL.cutEnd () trivial (.cons rfl (.cons rfl (.cons (zl zjV) .nil))) (.cons .here .nil)
  ·have zo4:=hb'; clear hb'
   have ze5:=ite_f zo2 zo4
   obtain ⟨zjS,zuD,ze5⟩:=zb ze5
   replace ze5:=Option.some.inj ze5
   refine WL.pin (i:=18) rfl zo4 ?_
   refine WL.quiet (d:=19) rfl rfl rfl (q_move rfl) ?_
   refine WL.callD (dd:=20) rfl rfl rfl (zg (l:=[.tmp 19]) Try.call27 (.cons rfl .nil)) (.nil : Sel [fz []] [] [fz []]) (fun w hw=>by have pz:=(hz.call2 hw (.nil : Sel [fz []] [] [fz []]) .here); exact w_ref02_Valid (Z:=_) (z5L:=zad) (z5M:=zae) (z2n:=z7g) (r:=zjS) w pz (znZ.mono (Zle.left _ _)) zuD) ?_
   refine WL.quiet (d:=21) rfl rfl rfl (q_not rfl) ?_
   refine WL.quiet (d:=22) rfl rfl rfl (q_pickF rfl rfl) ?_
   exact WL.cutEnd () trivial (.cons rfl (.cons rfl (.cons (zl ze5) .nil))) (.cons .here .nil)
 ·skip
  refine WL.nil ?_
  refine WX.then ?_
  refine WC.cond rfl (fun zjW=>?_) (fun zjW=>?_)
  ·replace h:=ite_t h zjW
   refine WC.seq ?_
   refine WC.region ?_
   refine WL.quiet (d:=4) rfl rfl rfl (q_assign rfl) ?_
   refine WL.quiet (d:=5) rfl rfl rfl (q_assign rfl) ?_
   refine WL.nil ?_
   refine WX.then ?_
   refine WC.ret ?_
   refine WX.thenRet ?_
   refine WX.nilRow 42 4 ?_
   obtain rfl:=Option.some.inj h
   refine WX.bpRet Try.results31 (.tmp rfl (.tmp rfl .nil)) (fun w hw=>?_)
   exact ⟨[],none,0,ret2 rfl rfl,trivial,hw.sub (.cons (.there .here) (.cons .here .nil))⟩
  ·replace h:=ite_f h zjW
   refine WC.skip ?_
   refine WX.then ?_
   refine WC.seq ?_
   obtain ⟨z1E,zuE,h⟩:=zb h
   obtain ⟨z1V,zuF,h⟩:=zb h
   refine WC.region ?_
   refine WL.quiet (d:=23) rfl rfl rfl (q_move rfl) ?_
   refine WL.enter3 (dd:=24) rfl rfl rfl (zg (l:=[.tmp 23]) Try.call28 (.cons rfl .nil)) (.nil : Sel [fz []] [] [fz []]) (fun w hw=>by have pz:=(hz.call2 hw (.nil : Sel [fz []] [] [fz []]) .here); exact w_ref02_Norm (Z:=_) (z4f:=zab) (z4g:=zac) (zi:=z7f) (r:=z1E) w pz (znY.mono (Zle.left _ _)) zuE) ?_
   rintro z6a ze6 ze7 _
   refine WL.merge .here (.there .here) ?_
   refine WL.quiet (d:=25) rfl rfl rfl (q_move rfl) ?_
   refine WL.enter3 (dd:=26) rfl rfl rfl (zg (l:=[.tmp 25]) Try.call28 (.cons rfl .nil)) (.nil : Sel [fz ([] ++ z6a),row (.slice ze6 z1E.length ze7) 42 4 (z1E.flatMap e42)] [] [fz ([] ++ z6a),row (.slice ze6 z1E.length ze7) 42 4 (z1E.flatMap e42)]) (fun w hw=>by have pz:=(hz.call2 hw (.nil : Sel [fz ([] ++ z6a),row (.slice ze6 z1E.length ze7) 42 4 (z1E.flatMap e42)] [] [fz ([] ++ z6a),row (.slice ze6 z1E.length ze7) 42 4 (z1E.flatMap e42)]) .here); exact w_ref02_Norm (Z:=_) (z4f:=zad) (z4g:=zae) (zi:=z7g) (r:=z1V) w pz (znZ.mono ((Zle.left _ _).trans ((Zle.left _ _).trans (Zle.assoc _ _ _)))) zuF) ?_
   rintro z7i zuG zuH _
   refine WL.merge .here (.there .here) ?_
   refine WL.quiet (d:=6) rfl rfl rfl (q_assign rfl) ?_
   refine WL.quiet (d:=7) rfl rfl rfl (q_assign rfl) ?_
   refine WL.nil ?_
   refine WX.then ?_
   refine WC.seq ?_
   refine WC.seq ?_
   refine WC.region ?_
   refine WL.quiet (d:=27) rfl rfl rfl (q_move rfl) ?_
   refine WL.quiet (d:=28) rfl rfl rfl (q_len Try.underlying25 rfl) ?_
   refine WL.quiet (d:=29) rfl rfl rfl (q_move rfl) ?_
   refine WL.quiet (d:=30) rfl rfl rfl (q_len Try.underlying25 rfl) ?_
   refine WL.quiet (d:=31) rfl rfl rfl (q_mul rfl rfl rfl) ?_
   refine WL.quiet (d:=32) rfl rfl rfl (q_gtr rfl rfl) ?_
   refine WL.nil ?_
   refine WX.then ?_
   refine WC.cond rfl (fun zjX=>?_) (fun zjX=>?_)
   ·replace h:=ite_t h zjX
    refine WC.seq ?_
    refine WC.region ?_
    refine WL.quiet (d:=4) rfl rfl rfl (q_assign rfl) ?_
    refine WL.quiet (d:=5) rfl rfl rfl (q_assign rfl) ?_
    refine WL.nil ?_
    refine WX.then ?_
    refine WC.ret ?_
    refine WX.thenRet ?_
    refine WX.nilRow 42 4 ?_
    obtain rfl:=Option.some.inj h
    refine WX.bpRet Try.results31 (.tmp rfl (.tmp rfl .nil)) (fun w hw=>?_)
    exact ⟨(([] ++ z6a) ++ z7i),none,0,ret2 rfl rfl,trivial,hw.sub (.cons (.there .here) (.cons .here .nil))⟩
   ·replace h:=ite_f h zjX
    refine WC.skip ?_
    refine WX.then ?_
    refine WC.seq ?_
    refine WC.region ?_
    refine WL.quiet (d:=8) rfl rfl rfl (q_assign rfl) ?_
    refine WL.nil ?_
    refine WX.then ?_
    obtain ⟨z9b,zuI,h⟩:=jp1_elim h
    refine WC.seqMid3 (fun (z7h : List z1) (zci : Option Addr) (zcj : Nat)=>(z9b z7h = some r)) (fun (z7h : List z1) (zci : Option Addr) (zcj : Nat)=>[(8,(.slice zci z7h.length zcj))]) (fun (z7h : List z1) (zci : Option Addr) (zcj : Nat)=>[fz (([] ++ z6a) ++ z7i),row (.slice zci z7h.length zcj) 42 4 (z7h.flatMap e42)]) ?_ ?_
    ·skip
     refine WC.seq ?_
     refine WC.region ?_
     refine WL.quiet (d:=9) rfl rfl rfl (q_assign rfl) ?_
     refine WL.nil ?_
     refine WX.then ?_
     refine WC.block ?_
     refine WC.nilRow 42 4 ?_
     refine WC.loop9 (fun (zck : Nat) (z6i : List z1) (z2F : Int) (zaS : Option Addr) (zaT : Nat) (zaU : Option Addr) (zaV : Nat) (zaf : Option Addr) (zag : Nat)=>(m_ref02_Sum_L3 z1E z1V z9b zck z6i z2F = some r)) (fun (zck : Nat) (z6i : List z1) (z2F : Int) (zaS : Option Addr) (zaT : Nat) (zaU : Option Addr) (zaV : Nat) (zaf : Option Addr) (zag : Nat)=>[(6,(.slice zaS z1E.length zaT)),(7,(.slice zaU z1V.length zaV)),(8,(.slice zaf z6i.length zag)),(9,(.int .i64 z2F))]) (fun (zck : Nat) (z6i : List z1) (z2F : Int) (zaS : Option Addr) (zaT : Nat) (zaU : Option Addr) (zaV : Nat) (zaf : Option Addr) (zag : Nat)=>[fz (([] ++ z6a) ++ z7i),row (.slice zaS z1E.length zaT) 42 4 (z1E.flatMap e42),row (.slice zaU z1V.length zaV) 42 4 (z1V.flatMap e42),row (.slice zaf z6i.length zag) 42 4 (z6i.flatMap e42)]) (fun (zck : Nat) (z6i : List z1) (z2F : Int) (zaS : Option Addr) (zaT : Nat) (zaU : Option Addr) (zaV : Nat) (zaf : Option Addr) (zag : Nat)=>zck) ⟨FUEL,([] : List z1),0,ze6,ze7,zuG,zuH,none,0⟩ h (.cons rfl (.cons rfl (.cons rfl (.cons rfl .nil)))) (.cons (.there .here) (.cons (.there (.there .here)) (.cons (.there .here) (.cons .here .nil)))) ?_
     rintro zck z6i z2F zaS zaT zaU zaV zaf zag h
     obtain ⟨zjQ,rfl⟩:=m_ref02_Sum_L3_fuel h
     rw [m_ref02_Sum_L3] at h
     refine WC.seq ?_
     refine WC.seq ?_
     refine WC.region ?_
     refine WL.quiet (d:=33) rfl rfl rfl (q_move rfl) ?_
     refine WL.quiet (d:=34) rfl rfl rfl (q_move rfl) ?_
     refine WL.quiet (d:=35) rfl rfl rfl (q_len Try.underlying25 rfl) ?_
     refine WL.quiet (d:=36) rfl rfl rfl (q_lss rfl rfl) ?_
     refine WL.nil ?_
     refine WX.then ?_
     refine WC.cond rfl (fun zjY=>?_) (fun zjY=>?_)
     ·replace h:=ite_t h zjY
      refine WC.skip ?_
      refine WX.then ?_
      obtain ⟨zjR,zuJ,h⟩:=jp1_elim h
      refine WC.seqMid7 (fun (z7K : List z1) (zcl : Option Addr) (zcm : Nat) (zcn : Option Addr) (zco : Nat) (zcp : Option Addr) (zcq : Nat)=>(zjR z7K = some r)) (fun (z7K : List z1) (zcl : Option Addr) (zcm : Nat) (zcn : Option Addr) (zco : Nat) (zcp : Option Addr) (zcq : Nat)=>[(6,(.slice zcl z1E.length zcm)),(7,(.slice zcn z1V.length zco)),(8,(.slice zcp z7K.length zcq)),(9,(.int .i64 z2F))]) (fun (z7K : List z1) (zcl : Option Addr) (zcm : Nat) (zcn : Option Addr) (zco : Nat) (zcp : Option Addr) (zcq : Nat)=>[fz (([] ++ z6a) ++ z7i),row (.slice zcl z1E.length zcm) 42 4 (z1E.flatMap e42),row (.slice zcn z1V.length zco) 42 4 (z1V.flatMap e42),row (.slice zcp z7K.length zcq) 42 4 (z7K.flatMap e42)]) ?_ ?_
      ·skip
       refine WC.block ?_
       refine WC.seq ?_
       refine WC.region ?_
       refine WL.quiet (d:=10) rfl rfl rfl (q_assign rfl) ?_
       refine WL.nil ?_
       refine WX.then ?_
       obtain ⟨z9a,zuK,h⟩:=jp1_elim h
       refine WC.mid7 (fun (z7L : List z1) (zcr : Option Addr) (zcs : Nat) (zct : Option Addr) (zcu : Nat) (zcv : Option Addr) (zcw : Nat)=>(z9a z7L = some r)) (fun (z7L : List z1) (zcr : Option Addr) (zcs : Nat) (zct : Option Addr) (zcu : Nat) (zcv : Option Addr) (zcw : Nat)=>[(6,(.slice zcr z1E.length zcs)),(7,(.slice zct z1V.length zcu)),(8,(.slice zcv z7L.length zcw)),(9,(.int .i64 z2F))]) (fun (z7L : List z1) (zcr : Option Addr) (zcs : Nat) (zct : Option Addr) (zcu : Nat) (zcv : Option Addr) (zcw : Nat)=>[fz (([] ++ z6a) ++ z7i),row (.slice zcr z1E.length zcs) 42 4 (z1E.flatMap e42),row (.slice zct z1V.length zcu) 42 4 (z1V.flatMap e42),row (.slice zcv z7L.length zcw) 42 4 (z7L.flatMap e42)]) ?_ ?_
       ·skip
        refine WC.block ?_
        refine WC.loop9 (fun (zcx : Nat) (z3A : List z1) (z3d : Int) (zaW : Option Addr) (z6y : Nat) (zaX : Option Addr) (z6z : Nat) (z6Q : Option Addr) (z6R : Nat)=>(m_ref02_Sum_L4 z1V z2F z1E z9a zcx z3A z3d = some r)) (fun (zcx : Nat) (z3A : List z1) (z3d : Int) (zaW : Option Addr) (z6y : Nat) (zaX : Option Addr) (z6z : Nat) (z6Q : Option Addr) (z6R : Nat)=>[(6,(.slice zaW z1E.length z6y)),(7,(.slice zaX z1V.length z6z)),(8,(.slice z6Q z3A.length z6R)),(9,(.int .i64 z2F)),(10,(.int .i64 z3d))]) (fun (zcx : Nat) (z3A : List z1) (z3d : Int) (zaW : Option Addr) (z6y : Nat) (zaX : Option Addr) (z6z : Nat) (z6Q : Option Addr) (z6R : Nat)=>[fz (([] ++ z6a) ++ z7i),row (.slice zaW z1E.length z6y) 42 4 (z1E.flatMap e42),row (.slice zaX z1V.length z6z) 42 4 (z1V.flatMap e42),row (.slice z6Q z3A.length z6R) 42 4 (z3A.flatMap e42)]) (fun (zcx : Nat) (z3A : List z1) (z3d : Int) (zaW : Option Addr) (z6y : Nat) (zaX : Option Addr) (z6z : Nat) (z6Q : Option Addr) (z6R : Nat)=>zcx) ⟨FUEL,z6i,0,zaS,zaT,zaU,zaV,zaf,zag⟩ h (.cons rfl (.cons rfl (.cons rfl (.cons rfl (.cons rfl .nil))))) (.cons .here (.cons .here (.cons .here (.cons .here .nil)))) ?_
        rintro zcx z3A z3d zaW z6y zaX z6z z6Q z6R h
        obtain ⟨zjP,rfl⟩:=m_ref02_Sum_L4_fuel h
        rw [m_ref02_Sum_L4] at h
        refine WC.seq ?_
        refine WC.seq ?_
        refine WC.region ?_
        refine WL.quiet (d:=39) rfl rfl rfl (q_move rfl) ?_
        refine WL.quiet (d:=40) rfl rfl rfl (q_move rfl) ?_
        refine WL.quiet (d:=41) rfl rfl rfl (q_len Try.underlying25 rfl) ?_
        refine WL.quiet (d:=42) rfl rfl rfl (q_lss rfl rfl) ?_
        refine WL.nil ?_
        refine WX.then ?_
        refine WC.cond rfl (fun zjZ=>?_) (fun zjZ=>?_)
        ·replace h:=ite_t h zjZ
         refine WC.skip ?_
         refine WX.then ?_
         refine WC.seq ?_
         refine WC.block ?_
         refine WC.seq ?_
         obtain ⟨ze8,h⟩:=chk_elim h
         obtain ⟨ze9,h⟩:=chk_elim h
         obtain ⟨z47,zuL,h⟩:=zb h
         refine WC.draw (fun i=>[15].contains i) [] rfl ?_
         refine WD.pure (i:=0) (d:=46) (by kernel_rfl) rfl (z6 (by kernel_rfl)) (z7 (by kernel_rfl)) rfl rfl rfl (fun _=>q_move rfl) ?_
         refine WD.pure (i:=1) (d:=47) (by kernel_rfl) rfl (z6 (by kernel_rfl)) (z7 (by kernel_rfl)) rfl rfl rfl (fun _=>q_move rfl) ?_
         refine WD.know (fun w hw=>Hp.expose (.there .here) hw (by intro hz'; have:=ze8; rw [hz'] at this; omega)) ?_
         rintro ⟨zaY,rfl⟩
         refine WD.pure (i:=2) (d:=48) (by kernel_rfl) rfl (z6 (by kernel_rfl)) (z7 (by kernel_rfl)) rfl rfl rfl (fun _=>q_indexAddr elT_25 rfl rfl ze8.1 ze8.2 rowAdd) ?_
         refine WD.pure (i:=3) (d:=49) (by kernel_rfl) rfl (z6 (by kernel_rfl)) (z7 (by kernel_rfl)) rfl rfl rfl (fun _=>q_fieldAddr fo_42_0 rfl (Addr.add_lit _ _ _)) ?_
         refine WD.quiet (i:=4) (d:=50) (by kernel_rfl) rfl (z6 (by kernel_rfl)) (z7 (by kernel_rfl)) rfl rfl rfl (q_loadA (cs:=[(.int .i64 (((nth z1E z2F).fBurst).fN)),(.int .i64 (((nth z1E z2F).fBurst).fD))]) aggT_28 rfl rfl (rd_rowp (k:=0) (.there .here) (flat_rd (enc:=e42) (l:=z1E) (i:=z2F) (sz:=4) (fun _=>rfl) ze8.1 ze8.2) (s:=2) rfl)) ?_
         refine WD.pure (i:=5) (d:=51) (by kernel_rfl) rfl (z6 (by kernel_rfl)) (z7 (by kernel_rfl)) rfl rfl rfl (fun _=>q_move rfl) ?_
         refine WD.pure (i:=6) (d:=52) (by kernel_rfl) rfl (z6 (by kernel_rfl)) (z7 (by kernel_rfl)) rfl rfl rfl (fun _=>q_move rfl) ?_
         refine WD.know (fun w hw=>Hp.expose (.there (.there .here)) hw (by intro hz'; have:=ze9; rw [hz'] at this; omega)) ?_
         rintro ⟨zaZ,rfl⟩
         refine WD.pure (i:=7) (d:=53) (by kernel_rfl) rfl (z6 (by kernel_rfl)) (z7 (by kernel_rfl)) rfl rfl rfl (fun _=>q_indexAddr elT_25 rfl rfl ze9.1 ze9.2 rowAdd) ?_
         refine WD.pure (i:=8) (d:=54) (by kernel_rfl) rfl (z6 (by kernel_rfl)) (z7 (by kernel_rfl)) rfl rfl rfl (fun _=>q_fieldAddr fo_42_0 rfl (Addr.add_lit _ _ _)) ?_
         refine WD.quiet (i:=9) (d:=55) (by kernel_rfl) rfl (z6 (by kernel_rfl)) (z7 (by kernel_rfl)) rfl rfl rfl (q_loadA (cs:=[(.int .i64 (((nth z1V z3d).fBurst).fN)),(.int .i64 (((nth z1V z3d).fBurst).fD))]) aggT_28 rfl rfl (rd_rowp (k:=0) (.there (.there .here)) (flat_rd (enc:=e42) (l:=z1V) (i:=z3d) (sz:=4) (fun _=>rfl) ze9.1 ze9.2) (s:=2) rfl)) ?_
         refine WD.enter (i:=10) (d:=56) (by kernel_rfl) rfl (z6 (by kernel_rfl)) (z7 (by kernel_rfl)) rfl rfl rfl (zg (l:=[.const (.int .i64 0),.tmp 50,.tmp 55]) Try.call59 (.cons rfl (.cons rfl (.cons rfl .nil)))) (fun w hw=>by have pz:=(hz.call2 hw (.nil : Sel [fz (([] ++ z6a) ++ z7i),row (.slice (some ⟨zaY,0,none⟩) z1E.length z6y) 42 4 (z1E.flatMap e42),row (.slice (some ⟨zaZ,0,none⟩) z1V.length z6z) 42 4 (z1V.flatMap e42),row (.slice z6Q z3A.length z6R) 42 4 (z3A.flatMap e42)] [] [fz (([] ++ z6a) ++ z7i),row (.slice (some ⟨zaY,0,none⟩) z1E.length z6y) 42 4 (z1E.flatMap e42),row (.slice (some ⟨zaZ,0,none⟩) z1V.length z6z) 42 4 (z1V.flatMap e42),row (.slice z6Q z3A.length z6R) 42 4 (z3A.flatMap e42)]) .here); exact w_ref01_Do (Z:=_)  (z4J:=0) (zG:=(⟨(((nth z1E z2F).fBurst).fN),(((nth z1E z2F).fBurst).fD)⟩ : z2)) (zD:=(⟨(((nth z1V z3d).fBurst).fN),(((nth z1V z3d).fBurst).fD)⟩ : z2)) (r:=z47) w pz  zuL) ?_
         refine WD.pure (i:=11) (d:=45) (by kernel_rfl) rfl (z6 (by kernel_rfl)) (z7 (by kernel_rfl)) rfl rfl rfl (fun _=>q_move rfl) ?_
         refine WD.pure (i:=12) (d:=57) (by kernel_rfl) rfl (z6 (by kernel_rfl)) (z7 (by kernel_rfl)) rfl rfl rfl (fun _=>q_extract rfl rfl) ?_
         refine WD.pure (i:=13) (d:=58) (by kernel_rfl) rfl (z6 (by kernel_rfl)) (z7 (by kernel_rfl)) rfl rfl rfl (fun _=>q_extract rfl rfl) ?_
         refine WD.new (i:=14) (dd:=11) rfl (by kernel_rfl) rfl rfl rfl (e_alloc (cs:=[(.int .i64 0),(.int .i64 0)]) zeroT_28 rfl) (fun h'=>absurd h' (by decide)) ?_
         intro zfE _
         refine WD.forced0 (i:=15) rfl (by kernel_rfl) rfl rfl rfl (Sin.of .nil) (e_store (vs:=[(.int .i64 z47.1.fN),(.int .i64 z47.1.fD)]) (ds:=[(.int .i64 z47.1.fN),(.int .i64 z47.1.fD)]) sizT_28 rfl rfl rfl rfl (oc_cons rfl (oc_cons rfl oc_nil)) .here (Nat.le_of_ble_eq_true rfl) rfl) ?_
         refine WD.pure (i:=16) (d:=12) (by kernel_rfl) rfl (z6 (by kernel_rfl)) (z7 (by kernel_rfl)) rfl rfl rfl (fun _=>q_assign rfl) ?_
         refine WD.done (by kernel_rfl) ?_
         refine WX.then ?_
         refine WC.seq ?_
         obtain ⟨zfF,h⟩:=chk_elim h
         obtain ⟨zfG,h⟩:=chk_elim h
         obtain ⟨z58,zuM,h⟩:=zb h
         refine WC.draw (fun i=>[15].contains i) [] rfl ?_
         refine WD.pure (i:=0) (d:=60) (by kernel_rfl) rfl (z6 (by kernel_rfl)) (z7 (by kernel_rfl)) rfl rfl rfl (fun _=>q_move rfl) ?_
         refine WD.pure (i:=1) (d:=61) (by kernel_rfl) rfl (z6 (by kernel_rfl)) (z7 (by kernel_rfl)) rfl rfl rfl (fun _=>q_move rfl) ?_
         refine WD.pure (i:=2) (d:=62) (by kernel_rfl) rfl (z6 (by kernel_rfl)) (z7 (by kernel_rfl)) rfl rfl rfl (fun _=>q_indexAddr elT_25 rfl rfl zfF.1 zfF.2 rowAdd) ?_
         refine WD.pure (i:=3) (d:=63) (by kernel_rfl) rfl (z6 (by kernel_rfl)) (z7 (by kernel_rfl)) rfl rfl rfl (fun _=>q_fieldAddr fo_42_1 rfl (Addr.add_lit _ _ _)) ?_
         refine WD.quiet (i:=4) (d:=64) (by kernel_rfl) rfl (z6 (by kernel_rfl)) (z7 (by kernel_rfl)) rfl rfl rfl (q_loadA (cs:=[(.int .i64 (((nth z1E z2F).fRate).fN)),(.int .i64 (((nth z1E z2F).fRate).fD))]) aggT_28 rfl rfl (rd_rowp (k:=2) (.there (.there .here)) (flat_rd (enc:=e42) (l:=z1E) (i:=z2F) (sz:=4) (fun _=>rfl) zfF.1 zfF.2) (s:=2) rfl)) ?_
         refine WD.pure (i:=5) (d:=65) (by kernel_rfl) rfl (z6 (by kernel_rfl)) (z7 (by kernel_rfl)) rfl rfl rfl (fun _=>q_move rfl) ?_
         refine WD.pure (i:=6) (d:=66) (by kernel_rfl) rfl (z6 (by kernel_rfl)) (z7 (by kernel_rfl)) rfl rfl rfl (fun _=>q_move rfl) ?_
         refine WD.pure (i:=7) (d:=67) (by kernel_rfl) rfl (z6 (by kernel_rfl)) (z7 (by kernel_rfl)) rfl rfl rfl (fun _=>q_indexAddr elT_25 rfl rfl zfG.1 zfG.2 rowAdd) ?_
         refine WD.pure (i:=8) (d:=68) (by kernel_rfl) rfl (z6 (by kernel_rfl)) (z7 (by kernel_rfl)) rfl rfl rfl (fun _=>q_fieldAddr fo_42_1 rfl (Addr.add_lit _ _ _)) ?_
         refine WD.quiet (i:=9) (d:=69) (by kernel_rfl) rfl (z6 (by kernel_rfl)) (z7 (by kernel_rfl)) rfl rfl rfl (q_loadA (cs:=[(.int .i64 (((nth z1V z3d).fRate).fN)),(.int .i64 (((nth z1V z3d).fRate).fD))]) aggT_28 rfl rfl (rd_rowp (k:=2) (.there (.there (.there .here))) (flat_rd (enc:=e42) (l:=z1V) (i:=z3d) (sz:=4) (fun _=>rfl) zfG.1 zfG.2) (s:=2) rfl)) ?_
         refine WD.enter (i:=10) (d:=70) (by kernel_rfl) rfl (z6 (by kernel_rfl)) (z7 (by kernel_rfl)) rfl rfl rfl (zg (l:=[.const (.int .i64 0),.tmp 64,.tmp 69]) Try.call59 (.cons rfl (.cons rfl (.cons rfl .nil)))) (fun w hw=>by have pz:=(hz.call2 hw (.nil : Sel [stb zfE 28 [(.int .i64 z47.1.fN),(.int .i64 z47.1.fD)],fz (([] ++ z6a) ++ z7i),row (.slice (some ⟨zaY,0,none⟩) z1E.length z6y) 42 4 (z1E.flatMap e42),row (.slice (some ⟨zaZ,0,none⟩) z1V.length z6z) 42 4 (z1V.flatMap e42),row (.slice z6Q z3A.length z6R) 42 4 (z3A.flatMap e42)] [] [stb zfE 28 [(.int .i64 z47.1.fN),(.int .i64 z47.1.fD)],fz (([] ++ z6a) ++ z7i),row (.slice (some ⟨zaY,0,none⟩) z1E.length z6y) 42 4 (z1E.flatMap e42),row (.slice (some ⟨zaZ,0,none⟩) z1V.length z6z) 42 4 (z1V.flatMap e42),row (.slice z6Q z3A.length z6R) 42 4 (z3A.flatMap e42)]) (.there .here)); exact w_ref01_Do (Z:=_)  (z4J:=0) (zG:=(⟨(((nth z1E z2F).fRate).fN),(((nth z1E z2F).fRate).fD)⟩ : z2)) (zD:=(⟨(((nth z1V z3d).fRate).fN),(((nth z1V z3d).fRate).fD)⟩ : z2)) (r:=z58) w pz  zuM) ?_
         refine WD.pure (i:=11) (d:=59) (by kernel_rfl) rfl (z6 (by kernel_rfl)) (z7 (by kernel_rfl)) rfl rfl rfl (fun _=>q_move rfl) ?_
         refine WD.pure (i:=12) (d:=71) (by kernel_rfl) rfl (z6 (by kernel_rfl)) (z7 (by kernel_rfl)) rfl rfl rfl (fun _=>q_extract rfl rfl) ?_
         refine WD.pure (i:=13) (d:=72) (by kernel_rfl) rfl (z6 (by kernel_rfl)) (z7 (by kernel_rfl)) rfl rfl rfl (fun _=>q_extract rfl rfl) ?_
         refine WD.new (i:=14) (dd:=13) rfl (by kernel_rfl) rfl rfl rfl (e_alloc (cs:=[(.int .i64 0),(.int .i64 0)]) zeroT_28 rfl) (fun h'=>absurd h' (by decide)) ?_
         intro zo5 _
         refine WD.forced0 (i:=15) rfl (by kernel_rfl) rfl rfl rfl (Sin.of .nil) (e_store (vs:=[(.int .i64 z58.1.fN),(.int .i64 z58.1.fD)]) (ds:=[(.int .i64 z58.1.fN),(.int .i64 z58.1.fD)]) sizT_28 rfl rfl rfl rfl (oc_cons rfl (oc_cons rfl oc_nil)) .here (Nat.le_of_ble_eq_true rfl) rfl) ?_
         refine WD.pure (i:=16) (d:=14) (by kernel_rfl) rfl (z6 (by kernel_rfl)) (z7 (by kernel_rfl)) rfl rfl rfl (fun _=>q_assign rfl) ?_
         refine WD.done (by kernel_rfl) ?_
         refine WX.then ?_
         refine WC.seq ?_
         refine WC.seq ?_
         refine WC.region ?_
         refine WL.quiet (d:=73) rfl rfl rfl (q_move rfl) ?_
         refine WL.quiet (d:=74) rfl rfl rfl (q_neq rfl rfl) ?_
         refine WL.quiet (d:=75) rfl rfl rfl (q_move rfl) ?_
         refine WL.cut0 True [(6,(.slice (some ⟨zaY,0,none⟩) z1E.length z6y)),(7,(.slice (some ⟨zaZ,0,none⟩) z1V.length z6z)),(8,(.slice z6Q z3A.length z6R)),(9,(.int .i64 z2F)),(10,(.int .i64 z3d)),(11,(.pointer (some ⟨zfE,0,none⟩))),(13,(.pointer (some ⟨zo5,0,none⟩))),(78,(.bool ((decide (z47.2 ≠ 0)) || (decide (z58.2 ≠ 0)))))] [stb zo5 28 [(.int .i64 z58.1.fN),(.int .i64 z58.1.fD)],stb zfE 28 [(.int .i64 z47.1.fN),(.int .i64 z47.1.fD)],fz (([] ++ z6a) ++ z7i),row (.slice (some ⟨zaY,0,none⟩) z1E.length z6y) 42 4 (z1E.flatMap e42),row (.slice (some ⟨zaZ,0,none⟩) z1V.length z6z) 42 4 (z1V.flatMap e42),row (.slice z6Q z3A.length z6R) 42 4 (z3A.flatMap e42)] 3 ?_ (fun _=>?_)
         ·rcases Bool.eq_false_or_eq_true (decide (z47.2 ≠ 0)) with hb' | hb'
          ·have zo6:=hb'; clear hb'
           refine WL.pin (i:=75) rfl zo6 ?_
           refine WL.skip rfl rfl rfl ?_
           refine WL.skip rfl rfl rfl ?_
           refine WL.quiet (d:=78) rfl rfl rfl (q_pickT rfl rfl) ?_
           exact WL.cutEnd () trivial (.cons rfl (.cons rfl (.cons rfl (.cons rfl (.cons rfl (.cons rfl (.cons rfl (.cons (zl (or_l zo6)) .nil)))))))) (.cons .here (.cons .here (.cons .here (.cons .here (.cons .here (.cons .here .nil))))))
          ·have zo7:=hb'; clear hb'
           refine WL.pin (i:=75) rfl zo7 ?_
           refine WL.quiet (d:=76) rfl rfl rfl (q_move rfl) ?_
           refine WL.quiet (d:=77) rfl rfl rfl (q_neq rfl rfl) ?_
           refine WL.quiet (d:=78) rfl rfl rfl (q_pickF rfl rfl) ?_
           exact WL.cutEnd () trivial (.cons rfl (.cons rfl (.cons rfl (.cons rfl (.cons rfl (.cons rfl (.cons rfl (.cons (zl (or_r zo7)) .nil)))))))) (.cons .here (.cons .here (.cons .here (.cons .here (.cons .here (.cons .here .nil))))))
         ·skip
          refine WL.nil ?_
          refine WX.then ?_
          refine WC.cond rfl (fun zk0=>?_) (fun zk0=>?_)
          ·replace h:=ite_t h zk0
           refine WC.seq ?_
           refine WC.region ?_
           refine WL.quiet (d:=4) rfl rfl rfl (q_assign rfl) ?_
           refine WL.quiet (d:=5) rfl rfl rfl (q_assign rfl) ?_
           refine WL.nil ?_
           refine WX.then ?_
           refine WC.ret ?_
           refine WX.thenRet ?_
           refine WX.blockRet ?_
           refine WX.thenRet ?_
           refine WX.thenRet ?_
           refine WX.blockRet ?_
           refine WX.thenRet ?_
           refine WX.blockRet ?_
           refine WX.thenRet ?_
           refine WX.thenRet ?_
           refine WX.blockRet ?_
           refine WX.thenRet ?_
           refine WX.nilRow 42 4 ?_
           obtain rfl:=Option.some.inj h
           refine WX.bpRet Try.results31 (.tmp rfl (.tmp rfl .nil)) (fun w hw=>?_)
           exact ⟨(([] ++ z6a) ++ z7i),none,0,ret2 rfl rfl,trivial,hw.sub (.cons (.there (.there (.there .here))) (.cons .here .nil))⟩
          ·replace h:=ite_f h zk0
           refine WC.skip ?_
           refine WX.then ?_
           obtain ⟨zuN,h⟩:=chk_elim h
           refine WC.region ?_
           refine WL.quiet (d:=79) rfl rfl rfl (q_move rfl) ?_
           refine WL.quiet (d:=80) rfl rfl rfl (q_loadA (cs:=[(.int .i64 z47.1.fN),(.int .i64 z47.1.fD)]) aggT_28 rfl rfl (rd_all (.there .here))) ?_
           refine WL.quiet (d:=81) rfl rfl rfl (q_loadA (cs:=[(.int .i64 z58.1.fN),(.int .i64 z58.1.fD)]) aggT_28 rfl rfl (rd_all .here)) ?_
           refine WL.quiet (d:=82) rfl rfl rfl (q_build (v:=(.agg #[(.int .i64 z47.1.fN),(.int .i64 z47.1.fD),(.int .i64 z58.1.fN),(.int .i64 z58.1.fD)])) (Eos.parts (l:=[.tmp 80,.tmp 81]) (.cons rfl (.cons rfl .nil)) [0,1]) (fun _=>by kernel_rfl)) ?_
           refine WL.new (dd:=83) rfl rfl rfl (e_buildSlice (cs:=([(⟨z47.1,z58.1⟩ : z1)] : List z1).flatMap e42) elT_25 (Eos.parts (l:=[.tmp 82]) (.cons rfl .nil) [0]) (fun _=>by kernel_rfl) rfl (by unfold maxLen; omega)) ?_
           intro zyG _
           refine WL.eff (d:=84) rfl rfl rfl (e_appendF (enc:=e42) (l1:=z3A) (l2:=([(⟨z47.1,z58.1⟩ : z1)] : List z1)) elT_25 rfl rfl (.there (.there (.there (.there (.there (.there .here)))))) (fun _=>rfl) rfl rfl (news_row .here) (oc_flat e42_oc _) zuN) ?_
           rintro ⟨zuO,zuP⟩ _
           refine WL.quiet (d:=8) rfl rfl rfl (q_assign rfl) ?_
           refine WL.nil ?_
           refine WX.blockNormal ?_
           refine WX.then ?_
           refine WC.region ?_
           refine WL.quiet (d:=43) rfl rfl rfl (q_move rfl) ?_
           refine WL.quiet (d:=44) rfl rfl rfl (q_add rfl rfl rfl) ?_
           refine WL.quiet (d:=10) rfl rfl rfl (q_assign rfl) ?_
           refine WL.nil ?_
           exact WX.round (G:=Nat × List z1 × Int × Option Addr × Nat × Option Addr × Nat × Option Addr × Nat) ⟨zjP,(z3A ++ ([(⟨z47.1,z58.1⟩ : z1)] : List z1)),(i64 (z3d + 1)),(some ⟨zaY,0,none⟩),z6y,(some ⟨zaZ,0,none⟩),z6z,zuO,zuP⟩ h (Nat.lt_succ_self _) (.cons rfl (.cons rfl (.cons rfl (.cons rfl (.cons rfl .nil))))) (.cons (.there (.there (.there (.there .here)))) (.cons (.there (.there (.there (.there .here)))) (.cons (.there (.there (.there (.there .here)))) (.cons .here .nil))))
        ·replace h:=ite_f h zjZ
         refine WC.exit ?_
         refine WX.thenExit ?_
         refine WX.thenExit ?_
         refine WX.blockHit ?_
         exact WX.mid (G:=List z1 × Option Addr × Nat × Option Addr × Nat × Option Addr × Nat) ⟨z3A,zaW,z6y,zaX,z6z,z6Q,z6R⟩ h (.cons rfl (.cons rfl (.cons rfl (.cons rfl .nil)))) (.cons .here (.cons .here (.cons .here (.cons .here .nil))))
       ·rintro z7L zcr zcs zct zcu zcv zcw h
        replace h:=(zuK z7L).symm.trans h
        refine WX.blockNormal ?_
        exact WX.mid (G:=List z1 × Option Addr × Nat × Option Addr × Nat × Option Addr × Nat) ⟨z7L,zcr,zcs,zct,zcu,zcv,zcw⟩ h (.cons rfl (.cons rfl (.cons rfl (.cons rfl .nil)))) (.cons .here (.cons .here (.cons .here (.cons .here .nil))))
      ·rintro z7K zcl zcm zcn zco zcp zcq h
       replace h:=(zuJ z7K).symm.trans h
       refine WC.region ?_
       refine WL.quiet (d:=37) rfl rfl rfl (q_move rfl) ?_
       refine WL.quiet (d:=38) rfl rfl rfl (q_add rfl rfl rfl) ?_
       refine WL.quiet (d:=9) rfl rfl rfl (q_assign rfl) ?_
       refine WL.nil ?_
       exact WX.round (G:=Nat × List z1 × Int × Option Addr × Nat × Option Addr × Nat × Option Addr × Nat) ⟨zjQ,z7K,(i64 (z2F + 1)),zcl,zcm,zcn,zco,zcp,zcq⟩ h (Nat.lt_succ_self _) (.cons rfl (.cons rfl (.cons rfl (.cons rfl .nil)))) (.cons .here (.cons .here (.cons .here (.cons .here .nil))))
     ·replace h:=ite_f h zjY
      refine WC.exit ?_
      refine WX.thenExit ?_
      refine WX.thenExit ?_
      refine WX.blockHit ?_
      exact WX.mid (G:=List z1 × Option Addr × Nat) ⟨z6i,zaf,zag⟩ h (.cons rfl .nil) (.cons .here (.cons (.there (.there .here)) .nil))
    ·rintro z7h zci zcj h
     replace h:=(zuI z7h).symm.trans h
     refine WC.seq ?_
     obtain ⟨zjU,zuQ,h⟩:=zb h
     refine WC.region ?_
     refine WL.quiet (d:=85) rfl rfl rfl (q_move rfl) ?_
     refine WL.freezeS (ls:=z7h) (.there .here) .here hz (RR.flat (enc:=e42) (fun _=>rfl) _) ?_
     intro zea zyH zuR
     refine WL.enter3 (dd:=86) rfl rfl rfl (zg (l:=[.tmp 85]) Try.call28 (.cons rfl .nil)) (.nil : Sel [fz zea] [] [fz zea]) (fun w hw=>by have pz:=(hz.call2 hw (.nil : Sel [fz zea] [] [fz zea]) .here); exact w_ref02_Norm (Z:=_) (z4f:=zci) (z4g:=zcj) (zi:=z7h) (r:=zjU) w pz zuR zuQ) ?_
     rintro zuS zuT zuU _
     refine WL.merge .here (.there .here) ?_
     refine WL.quiet (d:=4) rfl rfl rfl (q_assign rfl) ?_
     refine WL.quiet (d:=5) rfl rfl rfl (q_assign rfl) ?_
     refine WL.nil ?_
     refine WX.then ?_
     refine WC.ret ?_
     obtain rfl:=Option.some.inj h
     refine WX.bpRet Try.results31 (.tmp rfl (.tmp rfl .nil)) (fun w hw=>?_)
     exact ⟨(zea ++ zuS),zuT,zuU,ret2 rfl rfl,trivial,hw.sub (.cons .here (.cons .here .nil))⟩
def m_slices_Grow_api_Curve_api_Bucket (z6b : Int) : Option (List z1) :=
 if decide (z6b < 0) then none else jp1 (fun (z8a : List z1)=>some z8a) fun zfH=>if decide ((i64 (z6b - 0)) > 0) then chk ((0 : Int) ≤ 0 ∧ (0 : Int) ≤ 0 ∧ 0 ≤ (0 : Int)) (chk ((0 : Int) < (i64 (z6b - 0)) ∧ (i64 (z6b - 0)) * 32 ≤ 140737488355328 ∧ (i64 (z6b - 0)) ≤ 4611686018427387904) (chk ((0 : Int) ≤ 0 ∧ 0 ≤ (((List.replicate ((i64 (z6b - 0)) : Int).toNat ((⟨(⟨0,0⟩ : z2),(⟨0,0⟩ : z2)⟩ : z1) : z1)).length : Nat) : Int)) (zfH ((List.replicate ((i64 (z6b - 0)) : Int).toNat ((⟨(⟨0,0⟩ : z2),(⟨0,0⟩ : z2)⟩ : z1) : z1)).take (0 : Int).toNat)))) else zfH ([] : List z1)
set_option maxRecDepth 20000 in
theorem w_slices_Grow_api_Curve_api_Bucket (Z : Zp)   (z6b : Int) (r : List z1) (w₀ : World) (hz : PZ [] w₀ Z)
  (h : m_slices_Grow_api_Curve_api_Bucket z6b = some r) :
  Calls Try.prog 79 #[(.slice none 0 0),(.int .i64 z6b)] w₀ fun e w'=>∃ zo8 : Option Addr,∃ zo9 : Nat,e = .returned (.slice zo8 r.length zo9) ∧ True ∧ Hp [] w₀ w' [row (.slice zo8 r.length zo9) 42 4 (r.flatMap e42)]:=by
 unfold m_slices_Grow_api_Curve_api_Bucket at h
 refine Calls.ofWC (vs:=[(.slice none 0 0),(.int .i64 z6b)]) (pre:=[]) (env:=[(0,(.slice none 0 0)),(1,(.int .i64 z6b))]) Try.func79 rfl Try.ntmps79 rfl (Hp.nil w₀ _) rfl ?_
 refine WC.seq ?_
 refine WC.region ?_
 refine WL.quiet (d:=4) rfl rfl rfl (q_assign rfl) ?_
 refine WL.nil ?_
 refine WX.then ?_
 refine WC.seq ?_
 refine WC.seq ?_
 refine WC.region ?_
 refine WL.quiet (d:=5) rfl rfl rfl (q_move rfl) ?_
 refine WL.quiet (d:=6) rfl rfl rfl (q_lss rfl rfl) ?_
 refine WL.nil ?_
 refine WX.then ?_
 refine WC.cond rfl (fun zk1=>?_) (fun zk1=>?_)
 ·replace h:=ite_t h zk1
  cases h
 ·replace h:=ite_f h zk1
  refine WC.skip ?_
  refine WX.then ?_
  obtain ⟨zfH,zuV,h⟩:=jp1_elim h
  refine WC.seqMid3 (fun (z8a : List z1) (zcy : Option Addr) (zcz : Nat)=>(zfH z8a = some r)) (fun (z8a : List z1) (zcy : Option Addr) (zcz : Nat)=>[(0,(.slice zcy z8a.length zcz))]) (fun (z8a : List z1) (zcy : Option Addr) (zcz : Nat)=>[row (.slice zcy z8a.length zcz) 42 4 (z8a.flatMap e42)]) ?_ ?_
  ·skip
   refine WC.seq ?_
   refine WC.region ?_
   refine WL.quiet (d:=8) rfl rfl rfl (q_move rfl) ?_
   refine WL.quiet (d:=9) rfl rfl rfl (q_move rfl) ?_
   refine WL.quiet (d:=10) rfl rfl rfl (q_cap Try.underlying25 rfl) ?_
   refine WL.quiet (d:=11) rfl rfl rfl (q_move rfl) ?_
   refine WL.quiet (d:=12) rfl rfl rfl (q_len Try.underlying25 rfl) ?_
   refine WL.quiet (d:=13) rfl rfl rfl (q_sub rfl rfl rfl) ?_
   refine WL.quiet (d:=14) rfl rfl rfl (q_sub rfl rfl rfl) ?_
   refine WL.quiet (d:=1) rfl rfl rfl (q_assign rfl) ?_
   refine WL.nil ?_
   refine WX.then ?_
   refine WC.seq ?_
   refine WC.region ?_
   refine WL.quiet (d:=15) rfl rfl rfl (q_move rfl) ?_
   refine WL.quiet (d:=16) rfl rfl rfl (q_gtr rfl rfl) ?_
   refine WL.nil ?_
   refine WX.then ?_
   refine WC.cond rfl (fun zk2=>?_) (fun zk2=>?_)
   ·replace h:=ite_t h zk2
    obtain ⟨zuW,h⟩:=chk_elim h
    obtain ⟨zuX,h⟩:=chk_elim h
    obtain ⟨zuY,h⟩:=chk_elim h
    refine WC.region ?_
    refine WL.quiet (d:=17) rfl rfl rfl (q_move rfl) ?_
    refine WL.quiet (d:=18) rfl rfl rfl (q_move rfl) ?_
    refine WL.quiet (d:=19) rfl rfl rfl (q_cap Try.underlying25 rfl) ?_
    refine WL.quiet (d:=20) rfl rfl rfl (q_sliceNil elT_25 rfl ixn (ixo rfl) zuW rfl rfl) ?_
    refine WL.quiet (d:=21) rfl rfl rfl (q_move rfl) ?_
    refine WL.eff (d:=22) rfl rfl rfl (e_appendNilZ (enc:=e42) (z0:=((⟨(⟨0,0⟩ : z2),(⟨0,0⟩ : z2)⟩ : z1) : z1)) (c:=i64 (z6b - 0)) elT_25 zeroT_42 Try.underlying3 rfl rfl rfl rfl rfl zuX) ?_
    rintro ⟨zyI,zyJ⟩ _
    refine WL.quiet (d:=23) rfl rfl rfl (q_move rfl) ?_
    refine WL.quiet (d:=24) rfl rfl rfl (q_len Try.underlying25 rfl) ?_
    refine WL.rowHiD (dd:=25) (enc:=e42) (ls:=List.replicate ((i64 (z6b - 0)) : Int).toNat ((⟨(⟨0,0⟩ : z2),(⟨0,0⟩ : z2)⟩ : z1) : z1)) rfl rfl elT_25 rfl rfl .here (fun _=>rfl) zuY ?_
    intro zuZ zv0
    refine WL.quiet (d:=0) rfl rfl rfl (q_assign rfl) ?_
    refine WL.nil ?_
    exact WX.mid (G:=List z1 × Option Addr × Nat) ⟨((List.replicate ((i64 (z6b - 0)) : Int).toNat ((⟨(⟨0,0⟩ : z2),(⟨0,0⟩ : z2)⟩ : z1) : z1)).take (0 : Int).toNat),zuZ,zv0⟩ h (.cons rfl .nil) (.cons .here .nil)
   ·replace h:=ite_f h zk2
    refine WC.skip ?_
    refine WX.nilRow 42 4 ?_
    exact WX.mid (G:=List z1 × Option Addr × Nat) ⟨([] : List z1),none,0⟩ h (.cons rfl .nil) (.cons .here .nil)
  ·rintro z8a zcy zcz h
   replace h:=(zuV z8a).symm.trans h
   refine WC.seq ?_
   refine WC.region ?_
   refine WL.quiet (d:=26) rfl rfl rfl (q_move rfl) ?_
   refine WL.quiet (d:=4) rfl rfl rfl (q_assign rfl) ?_
   refine WL.nil ?_
   refine WX.then ?_
   refine WC.ret ?_
   obtain rfl:=Option.some.inj h
   refine WX.bpRet Try.results79 (.tmp rfl .nil) (fun w hw=>?_)
   exact ⟨zcy,zcz,ret1 rfl,trivial,hw.sub (.cons .here .nil)⟩
def m_slices_Concat_api_Curve_api_Bucket_L3 (z2L : List (List z1)) (z9c : Int → Option (List z1)) : Nat → Int → Int → Option (List z1)
 | 0,_,_=>none
 | zk3 + 1,z6A,z5O=>if decide (z5O < ((z2L.length : Nat) : Int)) then chk ((0 : Int) ≤ z5O ∧ z5O < ((z2L.length : Nat) : Int)) (if decide ((i64 (z6A + (((nth z2L z5O).length : Nat) : Int))) < 0) then none else m_slices_Concat_api_Curve_api_Bucket_L3 z2L z9c zk3 (i64 (z6A + (((nth z2L z5O).length : Nat) : Int))) (i64 (z5O + 1))) else z9c z6A
theorem m_slices_Concat_api_Curve_api_Bucket_L3_fuel {n : Nat} {z2L : List (List z1)} {z9c : Int → Option (List z1)} {z6A : Int} {z5O : Int} {r : List z1} (h : m_slices_Concat_api_Curve_api_Bucket_L3 z2L z9c n z6A z5O = some r) : ∃ m,n = m + 1:=by
 cases n with
 | zero=>cases h
 | succ m=>exact ⟨m,rfl⟩
def m_slices_Concat_api_Curve_api_Bucket_L4 (z2L : List (List z1)) (z9d : (List z1) → Option (List z1)) : Nat → (List z1) → Int → Option (List z1)
 | 0,_,_=>none
 | zk4 + 1,z5y,z5j=>if decide (z5j < ((z2L.length : Nat) : Int)) then chk ((0 : Int) ≤ z5j ∧ z5j < ((z2L.length : Nat) : Int)) (chk ((((z5y ++ (nth z2L z5j)).length : Nat) : Int) * 32 ≤ 140737488355328 ∧ (((z5y ++ (nth z2L z5j)).length : Nat) : Int) ≤ 4611686018427387904) (m_slices_Concat_api_Curve_api_Bucket_L4 z2L z9d zk4 (z5y ++ (nth z2L z5j)) (i64 (z5j + 1)))) else z9d z5y
theorem m_slices_Concat_api_Curve_api_Bucket_L4_fuel {n : Nat} {z2L : List (List z1)} {z9d : (List z1) → Option (List z1)} {z5y : List z1} {z5j : Int} {r : List z1} (h : m_slices_Concat_api_Curve_api_Bucket_L4 z2L z9d n z5y z5j = some r) : ∃ m,n = m + 1:=by
 cases n with
 | zero=>cases h
 | succ m=>exact ⟨m,rfl⟩
def m_slices_Concat_api_Curve_api_Bucket (z2L : List (List z1)) : Option (List z1) :=
 jp1 (fun (z9e : Int)=>(m_slices_Grow_api_Curve_api_Bucket z9e).bind fun zfI=>jp1 (fun (z8b : List z1)=>some z8b) fun z9d=>m_slices_Concat_api_Curve_api_Bucket_L4 z2L z9d FUEL zfI 0) fun z9c=>m_slices_Concat_api_Curve_api_Bucket_L3 z2L z9c FUEL 0 0
set_option maxRecDepth 20000 in
theorem w_slices_Concat_api_Curve_api_Bucket (Z : Zp)  (z9f : Option Addr) (z9g : Nat) (z2L : List (List z1)) (r : List z1) (w₀ : World) (hz : PZ [] w₀ Z)
  (zoa : ZS Z 1 (p25 Z) z9f z9g z2L)
  (h : m_slices_Concat_api_Curve_api_Bucket z2L = some r) :
  Calls Try.prog 60 #[(.slice z9f z2L.length z9g)] w₀ fun e w'=>∃ zob : Option Addr,∃ zoc : Nat,e = .returned (.slice zob r.length zoc) ∧ True ∧ Hp [] w₀ w' [row (.slice zob r.length zoc) 42 4 (r.flatMap e42)]:=by
 unfold m_slices_Concat_api_Curve_api_Bucket at h
 refine Calls.ofWC (vs:=[(.slice z9f z2L.length z9g)]) (pre:=[]) (env:=[(0,(.slice z9f z2L.length z9g))]) Try.func60 rfl Try.ntmps60 rfl (Hp.nil w₀ _) rfl ?_
 refine WC.seq ?_
 refine WC.region ?_
 refine WL.quiet (d:=2) rfl rfl rfl (q_assign rfl) ?_
 refine WL.nil ?_
 refine WX.then ?_
 refine WC.seq ?_
 refine WC.region ?_
 refine WL.quiet (d:=3) rfl rfl rfl (q_assign rfl) ?_
 refine WL.nil ?_
 refine WX.then ?_
 obtain ⟨z9c,zv1,h⟩:=jp1_elim h
 refine WC.seqMid1 (fun (z9e : Int)=>(z9c z9e = some r)) (fun (z9e : Int)=>[(0,(.slice z9f z2L.length z9g)),(3,(.int .i64 z9e))]) (fun (z9e : Int)=>[]) ?_ ?_
 ·skip
  refine WC.seq ?_
  refine WC.region ?_
  refine WL.quiet (d:=9) rfl rfl rfl (q_move rfl) ?_
  refine WL.quiet (d:=10) rfl rfl rfl (q_len Try.underlying105 rfl) ?_
  refine WL.quiet (d:=11) rfl rfl rfl (q_move rfl) ?_
  refine WL.nil ?_
  refine WX.then ?_
  refine WC.block ?_
  refine WC.loop3 (fun (zcA : Nat) (z6A : Int) (z5O : Int)=>(m_slices_Concat_api_Curve_api_Bucket_L3 z2L z9c zcA z6A z5O = some r)) (fun (zcA : Nat) (z6A : Int) (z5O : Int)=>[(0,(.slice z9f z2L.length z9g)),(3,(.int .i64 z6A)),(9,(.slice z9f z2L.length z9g)),(10,(.int .i64 ((z2L.length : Nat) : Int))),(11,(.int .i64 z5O))]) (fun (zcA : Nat) (z6A : Int) (z5O : Int)=>[]) (fun (zcA : Nat) (z6A : Int) (z5O : Int)=>zcA) ⟨FUEL,0,0⟩ h (.cons rfl (.cons rfl (.cons rfl (.cons rfl (.cons rfl .nil))))) .nil ?_
  rintro zcA z6A z5O h
  obtain ⟨zk3,rfl⟩:=m_slices_Concat_api_Curve_api_Bucket_L3_fuel h
  rw [m_slices_Concat_api_Curve_api_Bucket_L3] at h
  refine WC.seq ?_
  refine WC.region ?_
  refine WL.quiet (d:=12) rfl rfl rfl (q_lss rfl rfl) ?_
  refine WL.nil ?_
  refine WX.then ?_
  refine WC.seq ?_
  refine WC.cond rfl (fun zk5=>?_) (fun zk5=>?_)
  ·replace h:=ite_t h zk5
   refine WC.skip ?_
   refine WX.then ?_
   refine WC.seq ?_
   refine WC.block ?_
   refine WC.seq ?_
   obtain ⟨zv2,h⟩:=chk_elim h
   refine WC.region ?_
   refine WL.znth (dd:=13) rfl rfl (Z:=Z) (Pr:=(p25 Z)) zfW rfl rfl zoa zv2 ?_
   rintro zyK zyL zv3 zyM ⟨zyN,zyO,rfl,zyP⟩
   refine WL.quiet (d:=14) rfl rfl rfl (q_load1 oneT_25 rfl (rd_z hz.pv zv3 rfl)) ?_
   refine WL.quiet (d:=5) rfl rfl rfl (q_assign rfl) ?_
   refine WL.nil ?_
   refine WX.then ?_
   refine WC.seq ?_
   refine WC.region ?_
   refine WL.quiet (d:=15) rfl rfl rfl (q_move rfl) ?_
   refine WL.quiet (d:=16) rfl rfl rfl (q_move rfl) ?_
   refine WL.quiet (d:=17) rfl rfl rfl (q_len Try.underlying25 rfl) ?_
   refine WL.quiet (d:=18) rfl rfl rfl (q_add rfl rfl rfl) ?_
   refine WL.quiet (d:=3) rfl rfl rfl (q_assign rfl) ?_
   refine WL.nil ?_
   refine WX.then ?_
   refine WC.seq ?_
   refine WC.region ?_
   refine WL.quiet (d:=19) rfl rfl rfl (q_move rfl) ?_
   refine WL.quiet (d:=20) rfl rfl rfl (q_lss rfl rfl) ?_
   refine WL.nil ?_
   refine WX.then ?_
   refine WC.cond rfl (fun zk6=>?_) (fun zk6=>?_)
   ·replace h:=ite_t h zk6
    cases h
   ·replace h:=ite_f h zk6
    refine WC.skip ?_
    refine WX.blockNormal ?_
    refine WX.then ?_
    refine WC.region ?_
    refine WL.quiet (d:=22) rfl rfl rfl (q_add rfl rfl rfl) ?_
    refine WL.quiet (d:=11) rfl rfl rfl (q_move rfl) ?_
    refine WL.nil ?_
    exact WX.round (G:=Nat × Int × Int) ⟨zk3,(i64 (z6A + (((nth z2L z5O).length : Nat) : Int))),(i64 (z5O + 1))⟩ h (Nat.lt_succ_self _) (.cons rfl (.cons rfl (.cons rfl (.cons rfl (.cons rfl .nil))))) .nil
  ·replace h:=ite_f h zk5
   refine WC.exit ?_
   refine WX.thenExit ?_
   refine WX.thenExit ?_
   refine WX.blockHit ?_
   exact WX.mid (G:=Int) z6A h (.cons rfl (.cons rfl .nil)) .nil
 ·rintro z9e h
  replace h:=(zv1 z9e).symm.trans h
  refine WC.seq ?_
  obtain ⟨zfI,zv4,h⟩:=zb h
  refine WC.region ?_
  refine WL.quiet (d:=23) rfl rfl rfl (q_move rfl) ?_
  refine WL.enter2 (dd:=24) rfl rfl rfl (zg (l:=[.const (.slice none 0 0),.tmp 23]) Try.call79 (.cons rfl (.cons rfl .nil))) (.nil : Sel [] [] []) (fun w hw=>by have pz:=(hz.call hw (.nil : Sel [] [] [])); exact w_slices_Grow_api_Curve_api_Bucket (Z:=_)  (z6b:=z9e) (r:=zfI) w pz  zv4) ?_
  rintro zv5 zv6 _
  refine WL.quiet (d:=6) rfl rfl rfl (q_assign rfl) ?_
  refine WL.nil ?_
  refine WX.then ?_
  obtain ⟨z9d,zv7,h⟩:=jp1_elim h
  refine WC.seqMid3 (fun (z8b : List z1) (zcB : Option Addr) (zcC : Nat)=>(z9d z8b = some r)) (fun (z8b : List z1) (zcB : Option Addr) (zcC : Nat)=>[(6,(.slice zcB z8b.length zcC))]) (fun (z8b : List z1) (zcB : Option Addr) (zcC : Nat)=>[row (.slice zcB z8b.length zcC) 42 4 (z8b.flatMap e42)]) ?_ ?_
  ·skip
   refine WC.seq ?_
   refine WC.region ?_
   refine WL.quiet (d:=25) rfl rfl rfl (q_move rfl) ?_
   refine WL.quiet (d:=26) rfl rfl rfl (q_len Try.underlying105 rfl) ?_
   refine WL.quiet (d:=27) rfl rfl rfl (q_move rfl) ?_
   refine WL.nil ?_
   refine WX.then ?_
   refine WC.block ?_
   refine WC.loop5 (fun (zcD : Nat) (z5y : List z1) (z5j : Int) (zb0 : Option Addr) (zb1 : Nat)=>(m_slices_Concat_api_Curve_api_Bucket_L4 z2L z9d zcD z5y z5j = some r)) (fun (zcD : Nat) (z5y : List z1) (z5j : Int) (zb0 : Option Addr) (zb1 : Nat)=>[(6,(.slice zb0 z5y.length zb1)),(25,(.slice z9f z2L.length z9g)),(26,(.int .i64 ((z2L.length : Nat) : Int))),(27,(.int .i64 z5j))]) (fun (zcD : Nat) (z5y : List z1) (z5j : Int) (zb0 : Option Addr) (zb1 : Nat)=>[row (.slice zb0 z5y.length zb1) 42 4 (z5y.flatMap e42)]) (fun (zcD : Nat) (z5y : List z1) (z5j : Int) (zb0 : Option Addr) (zb1 : Nat)=>zcD) ⟨FUEL,zfI,0,zv5,zv6⟩ h (.cons rfl (.cons rfl (.cons rfl (.cons rfl .nil)))) (.cons .here .nil) ?_
   rintro zcD z5y z5j zb0 zb1 h
   obtain ⟨zk4,rfl⟩:=m_slices_Concat_api_Curve_api_Bucket_L4_fuel h
   rw [m_slices_Concat_api_Curve_api_Bucket_L4] at h
   refine WC.seq ?_
   refine WC.region ?_
   refine WL.quiet (d:=28) rfl rfl rfl (q_lss rfl rfl) ?_
   refine WL.nil ?_
   refine WX.then ?_
   refine WC.seq ?_
   refine WC.cond rfl (fun zk7=>?_) (fun zk7=>?_)
   ·replace h:=ite_t h zk7
    refine WC.skip ?_
    refine WX.then ?_
    refine WC.seq ?_
    refine WC.block ?_
    refine WC.seq ?_
    obtain ⟨zv8,h⟩:=chk_elim h
    refine WC.region ?_
    refine WL.znth (dd:=29) rfl rfl (Z:=Z) (Pr:=(p25 Z)) zfW rfl rfl zoa zv8 ?_
    rintro zyQ zyR zv9 zyS ⟨zyT,zyU,rfl,zva⟩
    refine WL.quiet (d:=30) rfl rfl rfl (q_load1 oneT_25 rfl (rd_z hz.pv zv9 rfl)) ?_
    refine WL.quiet (d:=8) rfl rfl rfl (q_assign rfl) ?_
    refine WL.nil ?_
    refine WX.then ?_
    obtain ⟨zvb,h⟩:=chk_elim h
    refine WC.region ?_
    refine WL.quiet (d:=31) rfl rfl rfl (q_move rfl) ?_
    refine WL.quiet (d:=32) rfl rfl rfl (q_move rfl) ?_
    refine WL.eff (d:=33) rfl rfl rfl (e_appendF (enc:=e42) (l1:=z5y) (l2:=(nth z2L z5j)) elT_25 rfl rfl .here (fun _=>rfl) rfl rfl (news_z hz.pv zva) (oc_flat e42_oc _) zvb) ?_
    rintro ⟨zvc,zvd⟩ _
    refine WL.quiet (d:=6) rfl rfl rfl (q_assign rfl) ?_
    refine WL.nil ?_
    refine WX.blockNormal ?_
    refine WX.then ?_
    refine WC.region ?_
    refine WL.quiet (d:=34) rfl rfl rfl (q_add rfl rfl rfl) ?_
    refine WL.quiet (d:=27) rfl rfl rfl (q_move rfl) ?_
    refine WL.nil ?_
    exact WX.round (G:=Nat × List z1 × Int × Option Addr × Nat) ⟨zk4,(z5y ++ (nth z2L z5j)),(i64 (z5j + 1)),zvc,zvd⟩ h (Nat.lt_succ_self _) (.cons rfl (.cons rfl (.cons rfl (.cons rfl .nil)))) (.cons .here .nil)
   ·replace h:=ite_f h zk7
    refine WC.exit ?_
    refine WX.thenExit ?_
    refine WX.thenExit ?_
    refine WX.blockHit ?_
    exact WX.mid (G:=List z1 × Option Addr × Nat) ⟨z5y,zb0,zb1⟩ h (.cons rfl .nil) (.cons .here .nil)
  ·rintro z8b zcB zcC h
   replace h:=(zv7 z8b).symm.trans h
   refine WC.seq ?_
   refine WC.region ?_
   refine WL.quiet (d:=35) rfl rfl rfl (q_move rfl) ?_
   refine WL.quiet (d:=2) rfl rfl rfl (q_assign rfl) ?_
   refine WL.nil ?_
   refine WX.then ?_
   refine WC.ret ?_
   obtain rfl:=Option.some.inj h
   refine WX.bpRet Try.results60 (.tmp rfl .nil) (fun w hw=>?_)
   exact ⟨zcB,zcC,ret1 rfl,trivial,hw.sub (.cons .here .nil)⟩
def m_curve_Min (z1S : List z1) (z1T : List z1) : Option (List z1 × Int) :=
 (m_curve_Valid z1S).bind fun zfJ=>(if !zfJ then some true else (m_curve_Valid z1T).bind fun zk8=>some (!zk8)).bind fun zk9=>if zk9 then some (([] : List z1),2) else (m_slices_Concat_api_Curve_api_Bucket ([z1S,z1T] : List (List z1))).bind fun z3F=>(m_curve_norm z3F).bind fun zfK=>if decide (((zfK.length : Nat) : Int) > 32) then some (([] : List z1),5) else some (zfK,0)
set_option maxRecDepth 20000 in
theorem w_curve_Min (Z : Zp)  (z3o : Option Addr) (z3p : Nat) (z3q : Option Addr) (z3r : Nat) (z1S : List z1) (z1T : List z1) (r : List z1 × Int) (w₀ : World) (hz : PZ [] w₀ Z)
  (zod : ZS Z 4 (fun r x=>r = e42 x) z3o z3p z1S)
  (zoe : ZS Z 4 (fun r x=>r = e42 x) z3q z3r z1T)
  (h : m_curve_Min z1S z1T = some r) :
  Calls Try.prog 32 #[(.slice z3o z1S.length z3p),(.slice z3q z1T.length z3r)] w₀ fun e w'=>∃ zof : Option Addr,∃ zog : Nat,e = .returned (.tuple #[(.slice zof r.1.length zog),(.int .i64 r.2)]) ∧ True ∧ Hp [] w₀ w' [row (.slice zof r.1.length zog) 42 4 (r.1.flatMap e42)]:=by
 unfold m_curve_Min at h
 refine Calls.ofWC (vs:=[(.slice z3o z1S.length z3p),(.slice z3q z1T.length z3r)]) (pre:=[]) (env:=[(0,(.slice z3o z1S.length z3p)),(1,(.slice z3q z1T.length z3r))]) Try.func32 rfl Try.ntmps32 rfl (Hp.nil w₀ _) rfl ?_
 refine WC.seq ?_
 refine WC.region ?_
 refine WL.quiet (d:=4) rfl rfl rfl (q_assign rfl) ?_
 refine WL.quiet (d:=5) rfl rfl rfl (q_assign rfl) ?_
 refine WL.nil ?_
 refine WX.then ?_
 refine WC.seq ?_
 refine WC.seq ?_
 obtain ⟨zfJ,zve,h⟩:=zb h
 obtain ⟨zk9,zoh,h⟩:=zb h
 refine WC.region ?_
 refine WL.quiet (d:=7) rfl rfl rfl (q_move rfl) ?_
 refine WL.callD (dd:=8) rfl rfl rfl (zg (l:=[.tmp 7]) Try.call26 (.cons rfl .nil)) (.nil : Sel [] [] []) (fun w hw=>by have pz:=(hz.call hw (.nil : Sel [] [] [])); exact w_curve_Valid (Z:=_) (z5S:=z3o) (z5T:=z3p) (z3S:=z1S) (r:=zfJ) w pz zod zve) ?_
 refine WL.quiet (d:=9) rfl rfl rfl (q_not rfl) ?_
 refine WL.quiet (d:=10) rfl rfl rfl (q_move rfl) ?_
 refine WL.cut0 True [(0,(.slice z3o z1S.length z3p)),(1,(.slice z3q z1T.length z3r)),(14,(.bool zk9))] [] 4 ?_ (fun _=>?_)
 ·rcases Bool.eq_false_or_eq_true (!zfJ) with hb' | hb'
  ·have zoi:=hb'; clear hb'
   have zka:=ite_t zoh zoi
   replace zka:=Option.some.inj zka
   refine WL.pin (i:=10) rfl zoi ?_
   refine WL.skip rfl rfl rfl ?_
   refine WL.skip rfl rfl rfl ?_
   refine WL.skip rfl rfl rfl ?_
   refine WL.quiet (d:=14) rfl rfl rfl (q_pickT rfl rfl) ?_
   exact WL.cutEnd () trivial (.cons rfl (.cons rfl (.cons (zl zka) .nil))) .nil
  ·have zoj:=hb'; clear hb'
   have zeb:=ite_f zoh zoj
   obtain ⟨zk8,zvf,zeb⟩:=zb zeb
   replace zeb:=Option.some.inj zeb
   refine WL.pin (i:=10) rfl zoj ?_
   refine WL.quiet (d:=11) rfl rfl rfl (q_move rfl) ?_
   refine WL.callD (dd:=12) rfl rfl rfl (zg (l:=[.tmp 11]) Try.call26 (.cons rfl .nil)) (.nil : Sel [] [] []) (fun w hw=>by have pz:=(hz.call hw (.nil : Sel [] [] [])); exact w_curve_Valid (Z:=_) (z5S:=z3q) (z5T:=z3r) (z3S:=z1T) (r:=zk8) w pz zoe zvf) ?_
   refine WL.quiet (d:=13) rfl rfl rfl (q_not rfl) ?_
   refine WL.quiet (d:=14) rfl rfl rfl (q_pickF rfl rfl) ?_
   exact WL.cutEnd () trivial (.cons rfl (.cons rfl (.cons (zl zeb) .nil))) .nil
 ·skip
  refine WL.nil ?_
  refine WX.then ?_
  refine WC.cond rfl (fun zkb=>?_) (fun zkb=>?_)
  ·replace h:=ite_t h zkb
   refine WC.seq ?_
   refine WC.region ?_
   refine WL.quiet (d:=4) rfl rfl rfl (q_assign rfl) ?_
   refine WL.quiet (d:=5) rfl rfl rfl (q_assign rfl) ?_
   refine WL.nil ?_
   refine WX.then ?_
   refine WC.ret ?_
   refine WX.thenRet ?_
   refine WX.nilRow 42 4 ?_
   obtain rfl:=Option.some.inj h
   refine WX.bpRet Try.results32 (.tmp rfl (.tmp rfl .nil)) (fun w hw=>?_)
   exact ⟨none,0,ret2 rfl rfl,trivial,hw.sub (.cons .here .nil)⟩
  ·replace h:=ite_f h zkb
   refine WC.skip ?_
   refine WX.then ?_
   refine WC.seq ?_
   obtain ⟨z3F,zvg,h⟩:=zb h
   obtain ⟨zfK,zvh,h⟩:=zb h
   refine WC.region ?_
   refine WL.quiet (d:=15) rfl rfl rfl (q_move rfl) ?_
   refine WL.quiet (d:=16) rfl rfl rfl (q_move rfl) ?_
   have zvi : RR 1 (p25 Z) [(.slice z3o z1S.length z3p),(.slice z3q z1T.length z3r)] ([z1S,z1T] : List (List z1)):=(RR.cons (r:=[(.slice z3o z1S.length z3p)]) rfl (show p25 _ _ _ from ⟨_,_,rfl,zod⟩) (RR.cons (r:=[(.slice z3q z1T.length z3r)]) rfl (show p25 _ _ _ from ⟨_,_,rfl,zoe⟩) (RR.nil _ _)))
   refine WL.new (dd:=17) rfl rfl rfl (e_buildSlice (cs:=[(.slice z3o z1S.length z3p),(.slice z3q z1T.length z3r)]) zfW (Eos.parts (l:=[.tmp 15,.tmp 16]) (.cons rfl (.cons rfl .nil)) [0,1]) (fun _=>by kernel_rfl) rfl (by unfold maxLen; omega)) ?_
   intro z52 _
   refine WL.enter2 (dd:=18) rfl rfl rfl (zg (l:=[.tmp 17]) Try.call60 (.cons rfl .nil)) (.nil : Sel [row (.slice (some ⟨z52,0,none⟩) (([z1S,z1T] : List (List z1)).length) 2) 25 1 [(.slice z3o z1S.length z3p),(.slice z3q z1T.length z3r)]] [] [row (.slice (some ⟨z52,0,none⟩) (([z1S,z1T] : List (List z1)).length) 2) 25 1 [(.slice z3o z1S.length z3p),(.slice z3q z1T.length z3r)]]) (fun w hw=>by have pz:=(hz.call hw (.nil : Sel [row (.slice (some ⟨z52,0,none⟩) (([z1S,z1T] : List (List z1)).length) 2) 25 1 [(.slice z3o z1S.length z3p),(.slice z3q z1T.length z3r)]] [] [row (.slice (some ⟨z52,0,none⟩) (([z1S,z1T] : List (List z1)).length) 2) 25 1 [(.slice z3o z1S.length z3p),(.slice z3q z1T.length z3r)]])).lend hw (.nil : Sel [row (.slice (some ⟨z52,0,none⟩) (([z1S,z1T] : List (List z1)).length) 2) 25 1 [(.slice z3o z1S.length z3p),(.slice z3q z1T.length z3r)]] [] [row (.slice (some ⟨z52,0,none⟩) (([z1S,z1T] : List (List z1)).length) 2) 25 1 [(.slice z3o z1S.length z3p),(.slice z3q z1T.length z3r)]]) (B:=[row (.slice (some ⟨z52,0,none⟩) (([z1S,z1T] : List (List z1)).length) 2) 25 1 [(.slice z3o z1S.length z3p),(.slice z3q z1T.length z3r)]]) (fun _ hx'=>((.cons .here .nil) : Sel _ [row (.slice (some ⟨z52,0,none⟩) (([z1S,z1T] : List (List z1)).length) 2) 25 1 [(.slice z3o z1S.length z3p),(.slice z3q z1T.length z3r)]] _).mem hx'); exact w_slices_Concat_api_Curve_api_Bucket (Z:=_) (z9f:=(some ⟨z52,0,none⟩)) (z9g:=2) (z2L:=([z1S,z1T] : List (List z1))) (r:=z3F) w pz (ZA.row (hw.lent (.nil : Sel [row (.slice (some ⟨z52,0,none⟩) (([z1S,z1T] : List (List z1)).length) 2) 25 1 [(.slice z3o z1S.length z3p),(.slice z3q z1T.length z3r)]] [] [row (.slice (some ⟨z52,0,none⟩) (([z1S,z1T] : List (List z1)).length) 2) 25 1 [(.slice z3o z1S.length z3p),(.slice z3q z1T.length z3r)]]) (B:=[row (.slice (some ⟨z52,0,none⟩) (([z1S,z1T] : List (List z1)).length) 2) 25 1 [(.slice z3o z1S.length z3p),(.slice z3q z1T.length z3r)]]) (fun _ hx'=>((.cons .here .nil) : Sel _ [row (.slice (some ⟨z52,0,none⟩) (([z1S,z1T] : List (List z1)).length) 2) 25 1 [(.slice z3o z1S.length z3p),(.slice z3q z1T.length z3r)]] _).mem hx') (.head _) _) (zvi.weak (fun _ _ h=>p25_mono (Zle.left _ _) h)) ⟨w,pz.1⟩) zvg) ?_
   rintro z6S z6T _
   refine WL.enter2 (dd:=19) rfl rfl rfl (zg (l:=[.tmp 18]) Try.call45 (.cons rfl .nil)) (.nil : Sel [row (.slice z6S z3F.length z6T) 42 4 (z3F.flatMap e42),row (.slice (some ⟨z52,0,none⟩) (([z1S,z1T] : List (List z1)).length) 2) 25 1 [(.slice z3o z1S.length z3p),(.slice z3q z1T.length z3r)]] [] [row (.slice z6S z3F.length z6T) 42 4 (z3F.flatMap e42),row (.slice (some ⟨z52,0,none⟩) (([z1S,z1T] : List (List z1)).length) 2) 25 1 [(.slice z3o z1S.length z3p),(.slice z3q z1T.length z3r)]]) (fun w hw=>by have pz:=(hz.call hw (.nil : Sel [row (.slice z6S z3F.length z6T) 42 4 (z3F.flatMap e42),row (.slice (some ⟨z52,0,none⟩) (([z1S,z1T] : List (List z1)).length) 2) 25 1 [(.slice z3o z1S.length z3p),(.slice z3q z1T.length z3r)]] [] [row (.slice z6S z3F.length z6T) 42 4 (z3F.flatMap e42),row (.slice (some ⟨z52,0,none⟩) (([z1S,z1T] : List (List z1)).length) 2) 25 1 [(.slice z3o z1S.length z3p),(.slice z3q z1T.length z3r)]])).lend hw (.nil : Sel [row (.slice z6S z3F.length z6T) 42 4 (z3F.flatMap e42),row (.slice (some ⟨z52,0,none⟩) (([z1S,z1T] : List (List z1)).length) 2) 25 1 [(.slice z3o z1S.length z3p),(.slice z3q z1T.length z3r)]] [] [row (.slice z6S z3F.length z6T) 42 4 (z3F.flatMap e42),row (.slice (some ⟨z52,0,none⟩) (([z1S,z1T] : List (List z1)).length) 2) 25 1 [(.slice z3o z1S.length z3p),(.slice z3q z1T.length z3r)]]) (B:=[row (.slice z6S z3F.length z6T) 42 4 (z3F.flatMap e42)]) (fun _ hx'=>((.cons .here .nil) : Sel _ [row (.slice z6S z3F.length z6T) 42 4 (z3F.flatMap e42)] _).mem hx'); exact w_curve_norm (Z:=_) (z5p:=z6S) (z5q:=z6T) (zh:=z3F) (r:=zfK) w pz (ZA.row (hw.lent (.nil : Sel [row (.slice z6S z3F.length z6T) 42 4 (z3F.flatMap e42),row (.slice (some ⟨z52,0,none⟩) (([z1S,z1T] : List (List z1)).length) 2) 25 1 [(.slice z3o z1S.length z3p),(.slice z3q z1T.length z3r)]] [] [row (.slice z6S z3F.length z6T) 42 4 (z3F.flatMap e42),row (.slice (some ⟨z52,0,none⟩) (([z1S,z1T] : List (List z1)).length) 2) 25 1 [(.slice z3o z1S.length z3p),(.slice z3q z1T.length z3r)]]) (B:=[row (.slice z6S z3F.length z6T) 42 4 (z3F.flatMap e42)]) (fun _ hx'=>((.cons .here .nil) : Sel _ [row (.slice z6S z3F.length z6T) 42 4 (z3F.flatMap e42)] _).mem hx') (.head _) _) (RR.flat (enc:=e42) (fun _=>rfl) _) ⟨w,pz.1⟩) zvh) ?_
   rintro zvj zvk _
   refine WL.quiet (d:=6) rfl rfl rfl (q_assign rfl) ?_
   refine WL.nil ?_
   refine WX.then ?_
   refine WC.seq ?_
   refine WC.seq ?_
   refine WC.region ?_
   refine WL.quiet (d:=20) rfl rfl rfl (q_move rfl) ?_
   refine WL.quiet (d:=21) rfl rfl rfl (q_len Try.underlying25 rfl) ?_
   refine WL.quiet (d:=22) rfl rfl rfl (q_gtr rfl rfl) ?_
   refine WL.nil ?_
   refine WX.then ?_
   refine WC.cond rfl (fun zkc=>?_) (fun zkc=>?_)
   ·replace h:=ite_t h zkc
    refine WC.seq ?_
    refine WC.region ?_
    refine WL.quiet (d:=4) rfl rfl rfl (q_assign rfl) ?_
    refine WL.quiet (d:=5) rfl rfl rfl (q_assign rfl) ?_
    refine WL.nil ?_
    refine WX.then ?_
    refine WC.ret ?_
    refine WX.thenRet ?_
    refine WX.nilRow 42 4 ?_
    obtain rfl:=Option.some.inj h
    refine WX.bpRet Try.results32 (.tmp rfl (.tmp rfl .nil)) (fun w hw=>?_)
    exact ⟨none,0,ret2 rfl rfl,trivial,hw.sub (.cons .here .nil)⟩
   ·replace h:=ite_f h zkc
    refine WC.skip ?_
    refine WX.then ?_
    refine WC.seq ?_
    refine WC.region ?_
    refine WL.quiet (d:=23) rfl rfl rfl (q_move rfl) ?_
    refine WL.quiet (d:=4) rfl rfl rfl (q_assign rfl) ?_
    refine WL.quiet (d:=5) rfl rfl rfl (q_assign rfl) ?_
    refine WL.nil ?_
    refine WX.then ?_
    refine WC.ret ?_
    obtain rfl:=Option.some.inj h
    refine WX.bpRet Try.results32 (.tmp rfl (.tmp rfl .nil)) (fun w hw=>?_)
    exact ⟨zvj,zvk,ret2 rfl rfl,trivial,hw.sub (.cons .here .nil)⟩
def m_ref02_Min (z5k : List z1) (z6c : List z1) : Option (List z1 × Int) :=
 (m_ref02_Valid z5k).bind fun zfL=>(if !zfL then some true else (m_ref02_Valid z6c).bind fun zkd=>some (!zkd)).bind fun zke=>if zke then some (([] : List z1),2) else chk ((((([] : List z1) ++ z5k).length : Nat) : Int) * 32 ≤ 140737488355328 ∧ (((([] : List z1) ++ z5k).length : Nat) : Int) ≤ 4611686018427387904) (chk (((((([] : List z1) ++ z5k) ++ z6c).length : Nat) : Int) * 32 ≤ 140737488355328 ∧ ((((([] : List z1) ++ z5k) ++ z6c).length : Nat) : Int) ≤ 4611686018427387904) ((m_ref02_Norm ((([] : List z1) ++ z5k) ++ z6c)).bind fun zfM=>if decide (((zfM.length : Nat) : Int) > 32) then some (([] : List z1),5) else some (zfM,0)))
set_option maxRecDepth 20000 in
theorem w_ref02_Min (Z : Zp)  (zb2 : Option Addr) (zb3 : Nat) (zb4 : Option Addr) (zb5 : Nat) (z5k : List z1) (z6c : List z1) (r : List z1 × Int) (w₀ : World) (hz : PZ [] w₀ Z)
  (zol : ZS Z 4 (fun r x=>r = e42 x) zb2 zb3 z5k)
  (zom : ZS Z 4 (fun r x=>r = e42 x) zb4 zb5 z6c)
  (h : m_ref02_Min z5k z6c = some r) :
  Calls Try.prog 33 #[(.slice zb2 z5k.length zb3),(.slice zb4 z6c.length zb5)] w₀ fun e w'=>∃ Zn : Zp,∃ zon : Option Addr,∃ zoo : Nat,e = .returned (.tuple #[(.slice zon r.1.length zoo),(.int .i64 r.2)]) ∧ True ∧ Hp [] w₀ w' [fz Zn,row (.slice zon r.1.length zoo) 42 4 (r.1.flatMap e42)]:=by
 unfold m_ref02_Min at h
 refine Calls.ofWC (vs:=[(.slice zb2 z5k.length zb3),(.slice zb4 z6c.length zb5)]) (pre:=[]) (env:=[(0,(.slice zb2 z5k.length zb3)),(1,(.slice zb4 z6c.length zb5))]) Try.func33 rfl Try.ntmps33 rfl (Hp.nil w₀ _) rfl ?_
 refine WC.pool ?_
 refine WC.seq ?_
 refine WC.region ?_
 refine WL.quiet (d:=4) rfl rfl rfl (q_assign rfl) ?_
 refine WL.quiet (d:=5) rfl rfl rfl (q_assign rfl) ?_
 refine WL.nil ?_
 refine WX.then ?_
 refine WC.seq ?_
 refine WC.seq ?_
 obtain ⟨zfL,zvl,h⟩:=zb h
 obtain ⟨zke,zop,h⟩:=zb h
 refine WC.region ?_
 refine WL.quiet (d:=7) rfl rfl rfl (q_move rfl) ?_
 refine WL.callD (dd:=8) rfl rfl rfl (zg (l:=[.tmp 7]) Try.call27 (.cons rfl .nil)) (.nil : Sel [fz []] [] [fz []]) (fun w hw=>by have pz:=(hz.call2 hw (.nil : Sel [fz []] [] [fz []]) .here); exact w_ref02_Valid (Z:=_) (z5L:=zb2) (z5M:=zb3) (z2n:=z5k) (r:=zfL) w pz (zol.mono (Zle.left _ _)) zvl) ?_
 refine WL.quiet (d:=9) rfl rfl rfl (q_not rfl) ?_
 refine WL.quiet (d:=10) rfl rfl rfl (q_move rfl) ?_
 refine WL.cut0 True [(0,(.slice zb2 z5k.length zb3)),(1,(.slice zb4 z6c.length zb5)),(14,(.bool zke))] [fz []] 4 ?_ (fun _=>?_)
 ·rcases Bool.eq_false_or_eq_true (!zfL) with hb' | hb'
  ·have zoq:=hb'; clear hb'
   have zkf:=ite_t zop zoq
   replace zkf:=Option.some.inj zkf
   refine WL.pin (i:=10) rfl zoq ?_
   refine WL.skip rfl rfl rfl ?_
   refine WL.skip rfl rfl rfl ?_
   refine WL.skip rfl rfl rfl ?_
   refine WL.quiet (d:=14) rfl rfl rfl (q_pickT rfl rfl) ?_
   exact WL.cutEnd () trivial (.cons rfl (.cons rfl (.cons (zl zkf) .nil))) (.cons .here .nil)
  ·have zor:=hb'; clear hb'
   have zec:=ite_f zop zor
   obtain ⟨zkd,zvm,zec⟩:=zb zec
   replace zec:=Option.some.inj zec
   refine WL.pin (i:=10) rfl zor ?_
   refine WL.quiet (d:=11) rfl rfl rfl (q_move rfl) ?_
   refine WL.callD (dd:=12) rfl rfl rfl (zg (l:=[.tmp 11]) Try.call27 (.cons rfl .nil)) (.nil : Sel [fz []] [] [fz []]) (fun w hw=>by have pz:=(hz.call2 hw (.nil : Sel [fz []] [] [fz []]) .here); exact w_ref02_Valid (Z:=_) (z5L:=zb4) (z5M:=zb5) (z2n:=z6c) (r:=zkd) w pz (zom.mono (Zle.left _ _)) zvm) ?_
   refine WL.quiet (d:=13) rfl rfl rfl (q_not rfl) ?_
   refine WL.quiet (d:=14) rfl rfl rfl (q_pickF rfl rfl) ?_
   exact WL.cutEnd () trivial (.cons rfl (.cons rfl (.cons (zl zec) .nil))) (.cons .here .nil)
 ·skip
  refine WL.nil ?_
  refine WX.then ?_
  refine WC.cond rfl (fun zkg=>?_) (fun zkg=>?_)
  ·replace h:=ite_t h zkg
   refine WC.seq ?_
   refine WC.region ?_
   refine WL.quiet (d:=4) rfl rfl rfl (q_assign rfl) ?_
   refine WL.quiet (d:=5) rfl rfl rfl (q_assign rfl) ?_
   refine WL.nil ?_
   refine WX.then ?_
   refine WC.ret ?_
   refine WX.thenRet ?_
   refine WX.nilRow 42 4 ?_
   obtain rfl:=Option.some.inj h
   refine WX.bpRet Try.results33 (.tmp rfl (.tmp rfl .nil)) (fun w hw=>?_)
   exact ⟨[],none,0,ret2 rfl rfl,trivial,hw.sub (.cons (.there .here) (.cons .here .nil))⟩
  ·replace h:=ite_f h zkg
   refine WC.skip ?_
   refine WX.then ?_
   refine WC.seq ?_
   obtain ⟨zvn,h⟩:=chk_elim h
   obtain ⟨zvo,h⟩:=chk_elim h
   obtain ⟨zfM,zvp,h⟩:=zb h
   refine WC.region ?_
   refine WL.new (dd:=15) rfl rfl rfl (e_buildSlice (cs:=([] : List z1).flatMap e42) elT_25 (Eos.parts (l:=[]) .nil []) (fun _=>by kernel_rfl) rfl (by unfold maxLen; omega)) ?_
   intro zyV _
   refine WL.quiet (d:=16) rfl rfl rfl (q_move rfl) ?_
   refine WL.eff (d:=17) rfl rfl rfl (e_appendF (enc:=e42) (l1:=([] : List z1)) (l2:=z5k) elT_25 rfl rfl .here (fun _=>rfl) rfl rfl (news_z (hz.pv2 (.there .here)) (zol.mono (Zle.left _ _))) (oc_flat e42_oc _) zvn) ?_
   rintro ⟨zyW,zyX⟩ _
   refine WL.quiet (d:=18) rfl rfl rfl (q_move rfl) ?_
   refine WL.eff (d:=19) rfl rfl rfl (e_appendF (enc:=e42) (l1:=([] : List z1) ++ z5k) (l2:=z6c) elT_25 rfl rfl .here (fun _=>rfl) rfl rfl (news_z (hz.pv2 (.there .here)) (zom.mono (Zle.left _ _))) (oc_flat e42_oc _) zvo) ?_
   rintro ⟨zvq,zvr⟩ _
   refine WL.freezeS (ls:=(([] : List z1) ++ z5k) ++ z6c) .here .here hz (RR.flat (enc:=e42) (fun _=>rfl) _) ?_
   intro zcE zyY zvs
   refine WL.enter3 (dd:=20) rfl rfl rfl (zg (l:=[.tmp 19]) Try.call28 (.cons rfl .nil)) (.nil : Sel [fz zcE] [] [fz zcE]) (fun w hw=>by have pz:=(hz.call2 hw (.nil : Sel [fz zcE] [] [fz zcE]) .here); exact w_ref02_Norm (Z:=_) (z4f:=zvq) (z4g:=zvr) (zi:=((([] : List z1) ++ z5k) ++ z6c)) (r:=zfM) w pz zvs zvp) ?_
   rintro zos zvt zvu _
   refine WL.merge .here (.there .here) ?_
   refine WL.quiet (d:=6) rfl rfl rfl (q_assign rfl) ?_
   refine WL.nil ?_
   refine WX.then ?_
   refine WC.seq ?_
   refine WC.seq ?_
   refine WC.region ?_
   refine WL.quiet (d:=21) rfl rfl rfl (q_move rfl) ?_
   refine WL.quiet (d:=22) rfl rfl rfl (q_len Try.underlying25 rfl) ?_
   refine WL.quiet (d:=23) rfl rfl rfl (q_gtr rfl rfl) ?_
   refine WL.nil ?_
   refine WX.then ?_
   refine WC.cond rfl (fun zkh=>?_) (fun zkh=>?_)
   ·replace h:=ite_t h zkh
    refine WC.seq ?_
    refine WC.region ?_
    refine WL.quiet (d:=4) rfl rfl rfl (q_assign rfl) ?_
    refine WL.quiet (d:=5) rfl rfl rfl (q_assign rfl) ?_
    refine WL.nil ?_
    refine WX.then ?_
    refine WC.ret ?_
    refine WX.thenRet ?_
    refine WX.nilRow 42 4 ?_
    obtain rfl:=Option.some.inj h
    refine WX.bpRet Try.results33 (.tmp rfl (.tmp rfl .nil)) (fun w hw=>?_)
    exact ⟨(zcE ++ zos),none,0,ret2 rfl rfl,trivial,hw.sub (.cons (.there .here) (.cons .here .nil))⟩
   ·replace h:=ite_f h zkh
    refine WC.skip ?_
    refine WX.then ?_
    refine WC.seq ?_
    refine WC.region ?_
    refine WL.quiet (d:=24) rfl rfl rfl (q_move rfl) ?_
    refine WL.quiet (d:=4) rfl rfl rfl (q_assign rfl) ?_
    refine WL.quiet (d:=5) rfl rfl rfl (q_assign rfl) ?_
    refine WL.nil ?_
    refine WX.then ?_
    refine WC.ret ?_
    obtain rfl:=Option.some.inj h
    refine WX.bpRet Try.results33 (.tmp rfl (.tmp rfl .nil)) (fun w hw=>?_)
    exact ⟨(zcE ++ zos),zvt,zvu,ret2 rfl rfl,trivial,hw.sub (.cons .here (.cons .here .nil))⟩
def m_ref02_Shift_L3 (z29 : List z1) (z26 : z2) (z9h : (List z1) → Option (List z1 × Int)) : Nat → (List z1) → Int → Option (List z1 × Int)
 | 0,_,_=>none
 | zki + 1,z4L,z2p=>if decide (z2p < ((z29.length : Nat) : Int)) then chk ((0 : Int) ≤ z2p ∧ z2p < ((z29.length : Nat) : Int)) ((m_ref02_value (⟨(⟨(((nth z29 z2p).fBurst).fN),(((nth z29 z2p).fBurst).fD)⟩ : z2),(⟨(((nth z29 z2p).fRate).fN),(((nth z29 z2p).fRate).fD)⟩ : z2)⟩ : z1) z26).bind fun z5z=>if decide (z5z.2 ≠ 0) then some (([] : List z1),z5z.2) else chk ((0 : Int) ≤ z2p ∧ z2p < ((z29.length : Nat) : Int)) (chk ((((z4L ++ ([(⟨z5z.1,(⟨(((nth z29 z2p).fRate).fN),(((nth z29 z2p).fRate).fD)⟩ : z2)⟩ : z1)] : List z1)).length : Nat) : Int) * 32 ≤ 140737488355328 ∧ (((z4L ++ ([(⟨z5z.1,(⟨(((nth z29 z2p).fRate).fN),(((nth z29 z2p).fRate).fD)⟩ : z2)⟩ : z1)] : List z1)).length : Nat) : Int) ≤ 4611686018427387904) (m_ref02_Shift_L3 z29 z26 z9h zki (z4L ++ ([(⟨z5z.1,(⟨(((nth z29 z2p).fRate).fN),(((nth z29 z2p).fRate).fD)⟩ : z2)⟩ : z1)] : List z1)) (i64 (z2p + 1))))) else z9h z4L
theorem m_ref02_Shift_L3_fuel {n : Nat} {z29 : List z1} {z26 : z2} {z9h : (List z1) → Option (List z1 × Int)} {z4L : List z1} {z2p : Int} {r : List z1 × Int} (h : m_ref02_Shift_L3 z29 z26 z9h n z4L z2p = some r) : ∃ m,n = m + 1:=by
 cases n with
 | zero=>cases h
 | succ m=>exact ⟨m,rfl⟩
def m_ref02_Shift (z29 : List z1) (z26 : z2) : Option (List z1 × Int) :=
 (m_ref02_Valid z29).bind fun zfN=>(if !zfN then some true else (m_ref02_Good z26).bind fun zkj=>some (!zkj)).bind fun zkk=>if zkk then some (([] : List z1),2) else jp1 (fun (z7j : List z1)=>(m_ref02_Norm z7j).bind fun zkl=>some (zkl,0)) fun z9h=>m_ref02_Shift_L3 z29 z26 z9h FUEL ([] : List z1) 0
set_option maxRecDepth 20000 in
theorem w_ref02_Shift (Z : Zp)  (zah : Option Addr) (zai : Nat) (z29 : List z1) (z26 : z2) (r : List z1 × Int) (w₀ : World) (hz : PZ [] w₀ Z)
  (zkm : ZS Z 4 (fun r x=>r = e42 x) zah zai z29)
  (h : m_ref02_Shift z29 z26 = some r) :
  Calls Try.prog 35 #[(.slice zah z29.length zai),(.agg #[(.int .i64 z26.fN),(.int .i64 z26.fD)])] w₀ fun e w'=>∃ Zn : Zp,∃ zot : Option Addr,∃ zou : Nat,e = .returned (.tuple #[(.slice zot r.1.length zou),(.int .i64 r.2)]) ∧ True ∧ Hp [] w₀ w' [fz Zn,row (.slice zot r.1.length zou) 42 4 (r.1.flatMap e42)]:=by
 unfold m_ref02_Shift at h
 refine Calls.ofWC (vs:=[(.slice zah z29.length zai),(.agg #[(.int .i64 z26.fN),(.int .i64 z26.fD)])]) (pre:=[]) (env:=[(0,(.slice zah z29.length zai)),(1,(.agg #[(.int .i64 z26.fN),(.int .i64 z26.fD)]))]) Try.func35 rfl Try.ntmps35 rfl (Hp.nil w₀ _) rfl ?_
 refine WC.pool ?_
 refine WC.seq ?_
 refine WC.region ?_
 refine WL.new (dd:=3) rfl rfl rfl (e_box (cs:=[(.int .i64 z26.fN),(.int .i64 z26.fD)]) rfl rfl) ?_
 intro z6B _
 refine WL.quiet (d:=4) rfl rfl rfl (q_assign rfl) ?_
 refine WL.quiet (d:=5) rfl rfl rfl (q_assign rfl) ?_
 refine WL.nil ?_
 refine WX.then ?_
 refine WC.seq ?_
 refine WC.seq ?_
 obtain ⟨zfN,zvv,h⟩:=zb h
 obtain ⟨zkk,zov,h⟩:=zb h
 refine WC.region ?_
 refine WL.quiet (d:=10) rfl rfl rfl (q_move rfl) ?_
 refine WL.callD (dd:=11) rfl rfl rfl (zg (l:=[.tmp 10]) Try.call27 (.cons rfl .nil)) (.nil : Sel [stb z6B 28 [(.int .i64 z26.fN),(.int .i64 z26.fD)],fz []] [] [stb z6B 28 [(.int .i64 z26.fN),(.int .i64 z26.fD)],fz []]) (fun w hw=>by have pz:=(hz.call2 hw (.nil : Sel [stb z6B 28 [(.int .i64 z26.fN),(.int .i64 z26.fD)],fz []] [] [stb z6B 28 [(.int .i64 z26.fN),(.int .i64 z26.fD)],fz []]) (.there .here)); exact w_ref02_Valid (Z:=_) (z5L:=zah) (z5M:=zai) (z2n:=z29) (r:=zfN) w pz (zkm.mono (Zle.left _ _)) zvv) ?_
 refine WL.quiet (d:=12) rfl rfl rfl (q_not rfl) ?_
 refine WL.quiet (d:=13) rfl rfl rfl (q_move rfl) ?_
 refine WL.cut0 True [(0,(.slice zah z29.length zai)),(3,(.pointer (some ⟨z6B,0,none⟩))),(17,(.bool zkk))] [stb z6B 28 [(.int .i64 z26.fN),(.int .i64 z26.fD)],fz []] 4 ?_ (fun _=>?_)
 ·rcases Bool.eq_false_or_eq_true (!zfN) with hb' | hb'
  ·have zow:=hb'; clear hb'
   have zkn:=ite_t zov zow
   replace zkn:=Option.some.inj zkn
   refine WL.pin (i:=13) rfl zow ?_
   refine WL.skip rfl rfl rfl ?_
   refine WL.skip rfl rfl rfl ?_
   refine WL.skip rfl rfl rfl ?_
   refine WL.quiet (d:=17) rfl rfl rfl (q_pickT rfl rfl) ?_
   exact WL.cutEnd () trivial (.cons rfl (.cons rfl (.cons (zl zkn) .nil))) (.cons .here (.cons .here .nil))
  ·have zox:=hb'; clear hb'
   have zed:=ite_f zov zox
   obtain ⟨zkj,zvw,zed⟩:=zb zed
   replace zed:=Option.some.inj zed
   refine WL.pin (i:=13) rfl zox ?_
   refine WL.quiet (d:=14) rfl rfl rfl (q_loadA (cs:=[(.int .i64 z26.fN),(.int .i64 z26.fD)]) aggT_28 rfl rfl (rd_all .here)) ?_
   refine WL.callD (dd:=15) rfl rfl rfl (zg (l:=[.tmp 14]) Try.call53 (.cons rfl .nil)) (.nil : Sel [stb z6B 28 [(.int .i64 z26.fN),(.int .i64 z26.fD)],fz []] [] [stb z6B 28 [(.int .i64 z26.fN),(.int .i64 z26.fD)],fz []]) (fun w hw=>by have pz:=(hz.call2 hw (.nil : Sel [stb z6B 28 [(.int .i64 z26.fN),(.int .i64 z26.fD)],fz []] [] [stb z6B 28 [(.int .i64 z26.fN),(.int .i64 z26.fD)],fz []]) (.there .here)); exact w_ref02_Good (Z:=_)  (z3j:=z26) (r:=zkj) w pz  zvw) ?_
   refine WL.quiet (d:=16) rfl rfl rfl (q_not rfl) ?_
   refine WL.quiet (d:=17) rfl rfl rfl (q_pickF rfl rfl) ?_
   exact WL.cutEnd () trivial (.cons rfl (.cons rfl (.cons (zl zed) .nil))) (.cons .here (.cons .here .nil))
 ·skip
  refine WL.nil ?_
  refine WX.then ?_
  refine WC.cond rfl (fun zko=>?_) (fun zko=>?_)
  ·replace h:=ite_t h zko
   refine WC.seq ?_
   refine WC.region ?_
   refine WL.quiet (d:=4) rfl rfl rfl (q_assign rfl) ?_
   refine WL.quiet (d:=5) rfl rfl rfl (q_assign rfl) ?_
   refine WL.nil ?_
   refine WX.then ?_
   refine WC.ret ?_
   refine WX.thenRet ?_
   refine WX.nilRow 42 4 ?_
   obtain rfl:=Option.some.inj h
   refine WX.bpRet Try.results35 (.tmp rfl (.tmp rfl .nil)) (fun w hw=>?_)
   exact ⟨[],none,0,ret2 rfl rfl,trivial,hw.sub (.cons (.there (.there .here)) (.cons .here .nil))⟩
  ·replace h:=ite_f h zko
   refine WC.skip ?_
   refine WX.then ?_
   refine WC.seq ?_
   refine WC.region ?_
   refine WL.quiet (d:=6) rfl rfl rfl (q_assign rfl) ?_
   refine WL.nil ?_
   refine WX.then ?_
   obtain ⟨z9h,zvx,h⟩:=jp1_elim h
   refine WC.seqMid3 (fun (z7j : List z1) (zcF : Option Addr) (zcG : Nat)=>(z9h z7j = some r)) (fun (z7j : List z1) (zcF : Option Addr) (zcG : Nat)=>[(6,(.slice zcF z7j.length zcG))]) (fun (z7j : List z1) (zcF : Option Addr) (zcG : Nat)=>[fz [],row (.slice zcF z7j.length zcG) 42 4 (z7j.flatMap e42)]) ?_ ?_
   ·skip
    refine WC.seq ?_
    refine WC.region ?_
    refine WL.quiet (d:=7) rfl rfl rfl (q_assign rfl) ?_
    refine WL.nil ?_
    refine WX.then ?_
    refine WC.block ?_
    refine WC.nilRow 42 4 ?_
    refine WC.loop5 (fun (zcH : Nat) (z4L : List z1) (z2p : Int) (z9i : Option Addr) (z9j : Nat)=>(m_ref02_Shift_L3 z29 z26 z9h zcH z4L z2p = some r)) (fun (zcH : Nat) (z4L : List z1) (z2p : Int) (z9i : Option Addr) (z9j : Nat)=>[(0,(.slice zah z29.length zai)),(3,(.pointer (some ⟨z6B,0,none⟩))),(6,(.slice z9i z4L.length z9j)),(7,(.int .i64 z2p))]) (fun (zcH : Nat) (z4L : List z1) (z2p : Int) (z9i : Option Addr) (z9j : Nat)=>[fz [],row (.slice z9i z4L.length z9j) 42 4 (z4L.flatMap e42),stb z6B 28 [(.int .i64 z26.fN),(.int .i64 z26.fD)]]) (fun (zcH : Nat) (z4L : List z1) (z2p : Int) (z9i : Option Addr) (z9j : Nat)=>zcH) ⟨FUEL,([] : List z1),0,none,0⟩ h (.cons rfl (.cons rfl (.cons rfl (.cons rfl .nil)))) (.cons (.there (.there .here)) (.cons .here (.cons .here .nil))) ?_
    rintro zcH z4L z2p z9i z9j h
    obtain ⟨zki,rfl⟩:=m_ref02_Shift_L3_fuel h
    rw [m_ref02_Shift_L3] at h
    refine WC.seq ?_
    refine WC.seq ?_
    refine WC.region ?_
    refine WL.quiet (d:=18) rfl rfl rfl (q_move rfl) ?_
    refine WL.quiet (d:=19) rfl rfl rfl (q_move rfl) ?_
    refine WL.quiet (d:=20) rfl rfl rfl (q_len Try.underlying25 rfl) ?_
    refine WL.quiet (d:=21) rfl rfl rfl (q_lss rfl rfl) ?_
    refine WL.nil ?_
    refine WX.then ?_
    refine WC.cond rfl (fun zkp=>?_) (fun zkp=>?_)
    ·replace h:=ite_t h zkp
     refine WC.skip ?_
     refine WX.then ?_
     refine WC.seq ?_
     refine WC.block ?_
     refine WC.seq ?_
     obtain ⟨zvy,h⟩:=chk_elim h
     obtain ⟨z5z,zvz,h⟩:=zb h
     refine WC.draw (fun i=>[10].contains i) [] rfl ?_
     refine WD.pure (i:=0) (d:=25) (by kernel_rfl) rfl (z6 (by kernel_rfl)) (z7 (by kernel_rfl)) rfl rfl rfl (fun _=>q_move rfl) ?_
     refine WD.pure (i:=1) (d:=26) (by kernel_rfl) rfl (z6 (by kernel_rfl)) (z7 (by kernel_rfl)) rfl rfl rfl (fun _=>q_move rfl) ?_
     refine WD.znth (j:=2) (dd:=27) (by kernel_rfl) rfl (z6 (by kernel_rfl)) (z7 (by kernel_rfl)) rfl rfl (Z:=(Z ++ [])) (Pr:=(fun r x=>r = e42 x)) elT_25 rfl rfl (zkm.mono (Zle.left _ _)) zvy ?_
     rintro zyZ zz0 zvA zz1 rfl
     refine WD.quiet (i:=3) (d:=28) (by kernel_rfl) rfl (z6 (by kernel_rfl)) (z7 (by kernel_rfl)) rfl rfl rfl (q_loadA (cs:=[(.int .i64 (((nth z29 z2p).fBurst).fN)),(.int .i64 (((nth z29 z2p).fBurst).fD)),(.int .i64 (((nth z29 z2p).fRate).fN)),(.int .i64 (((nth z29 z2p).fRate).fD))]) aggT_42 rfl rfl (rd_zs (hz.pv2 .here) zvA)) ?_
     refine WD.quiet (i:=4) (d:=29) (by kernel_rfl) rfl (z6 (by kernel_rfl)) (z7 (by kernel_rfl)) rfl rfl rfl (q_loadA (cs:=[(.int .i64 z26.fN),(.int .i64 z26.fD)]) aggT_28 rfl rfl (rd_all (.there (.there .here)))) ?_
     refine WD.enter (i:=5) (d:=30) (by kernel_rfl) rfl (z6 (by kernel_rfl)) (z7 (by kernel_rfl)) rfl rfl rfl (zg (l:=[.tmp 28,.tmp 29]) Try.call54 (.cons rfl (.cons rfl .nil))) (fun w hw=>by have pz:=(hz.call2 hw (.nil : Sel [fz [],row (.slice z9i z4L.length z9j) 42 4 (z4L.flatMap e42),stb z6B 28 [(.int .i64 z26.fN),(.int .i64 z26.fD)]] [] [fz [],row (.slice z9i z4L.length z9j) 42 4 (z4L.flatMap e42),stb z6B 28 [(.int .i64 z26.fN),(.int .i64 z26.fD)]]) .here); exact w_ref02_value (Z:=_)  (z1M:=(⟨(⟨(((nth z29 z2p).fBurst).fN),(((nth z29 z2p).fBurst).fD)⟩ : z2),(⟨(((nth z29 z2p).fRate).fN),(((nth z29 z2p).fRate).fD)⟩ : z2)⟩ : z1)) (z34:=z26) (r:=z5z) w pz  zvz) ?_
     refine WD.pure (i:=6) (d:=24) (by kernel_rfl) rfl (z6 (by kernel_rfl)) (z7 (by kernel_rfl)) rfl rfl rfl (fun _=>q_move rfl) ?_
     refine WD.pure (i:=7) (d:=31) (by kernel_rfl) rfl (z6 (by kernel_rfl)) (z7 (by kernel_rfl)) rfl rfl rfl (fun _=>q_extract rfl rfl) ?_
     refine WD.pure (i:=8) (d:=32) (by kernel_rfl) rfl (z6 (by kernel_rfl)) (z7 (by kernel_rfl)) rfl rfl rfl (fun _=>q_extract rfl rfl) ?_
     refine WD.new (i:=9) (dd:=8) rfl (by kernel_rfl) rfl rfl rfl (e_alloc (cs:=[(.int .i64 0),(.int .i64 0)]) zeroT_28 rfl) (fun h'=>absurd h' (by decide)) ?_
     intro zz2 _
     refine WD.forced0 (i:=10) rfl (by kernel_rfl) rfl rfl rfl (Sin.of .nil) (e_store (vs:=[(.int .i64 z5z.1.fN),(.int .i64 z5z.1.fD)]) (ds:=[(.int .i64 z5z.1.fN),(.int .i64 z5z.1.fD)]) sizT_28 rfl rfl rfl rfl (oc_cons rfl (oc_cons rfl oc_nil)) .here (Nat.le_of_ble_eq_true rfl) rfl) ?_
     refine WD.pure (i:=11) (d:=9) (by kernel_rfl) rfl (z6 (by kernel_rfl)) (z7 (by kernel_rfl)) rfl rfl rfl (fun _=>q_assign rfl) ?_
     refine WD.done (by kernel_rfl) ?_
     refine WX.then ?_
     refine WC.seq ?_
     refine WC.seq ?_
     refine WC.region ?_
     refine WL.quiet (d:=33) rfl rfl rfl (q_move rfl) ?_
     refine WL.quiet (d:=34) rfl rfl rfl (q_neq rfl rfl) ?_
     refine WL.nil ?_
     refine WX.then ?_
     refine WC.cond rfl (fun zkq=>?_) (fun zkq=>?_)
     ·replace h:=ite_t h zkq
      refine WC.seq ?_
      refine WC.region ?_
      refine WL.quiet (d:=35) rfl rfl rfl (q_move rfl) ?_
      refine WL.quiet (d:=4) rfl rfl rfl (q_assign rfl) ?_
      refine WL.quiet (d:=5) rfl rfl rfl (q_assign rfl) ?_
      refine WL.nil ?_
      refine WX.then ?_
      refine WC.ret ?_
      refine WX.thenRet ?_
      refine WX.blockRet ?_
      refine WX.thenRet ?_
      refine WX.thenRet ?_
      refine WX.blockRet ?_
      refine WX.thenRet ?_
      refine WX.nilRow 42 4 ?_
      obtain rfl:=Option.some.inj h
      refine WX.bpRet Try.results35 (.tmp rfl (.tmp rfl .nil)) (fun w hw=>?_)
      exact ⟨[],none,0,ret2 rfl rfl,trivial,hw.sub (.cons (.there (.there .here)) (.cons .here .nil))⟩
     ·replace h:=ite_f h zkq
      refine WC.skip ?_
      refine WX.then ?_
      obtain ⟨zvB,h⟩:=chk_elim h
      obtain ⟨zvC,h⟩:=chk_elim h
      refine WC.draw (fun i=>[9].contains i) [] rfl ?_
      refine WD.pure (i:=0) (d:=36) (by kernel_rfl) rfl (z6 (by kernel_rfl)) (z7 (by kernel_rfl)) rfl rfl rfl (fun _=>q_move rfl) ?_
      refine WD.quiet (i:=1) (d:=37) (by kernel_rfl) rfl (z6 (by kernel_rfl)) (z7 (by kernel_rfl)) rfl rfl rfl (q_loadA (cs:=[(.int .i64 z5z.1.fN),(.int .i64 z5z.1.fD)]) aggT_28 rfl rfl (rd_all .here)) ?_
      refine WD.pure (i:=2) (d:=38) (by kernel_rfl) rfl (z6 (by kernel_rfl)) (z7 (by kernel_rfl)) rfl rfl rfl (fun _=>q_move rfl) ?_
      refine WD.pure (i:=3) (d:=39) (by kernel_rfl) rfl (z6 (by kernel_rfl)) (z7 (by kernel_rfl)) rfl rfl rfl (fun _=>q_move rfl) ?_
      refine WD.znth (j:=4) (dd:=40) (by kernel_rfl) rfl (z6 (by kernel_rfl)) (z7 (by kernel_rfl)) rfl rfl (Z:=(Z ++ [])) (Pr:=(fun r x=>r = e42 x)) elT_25 rfl rfl (zkm.mono (Zle.left _ _)) zvB ?_
      rintro zz3 zz4 zvD zz5 rfl
      refine WD.pure (i:=5) (d:=41) (by kernel_rfl) rfl (z6 (by kernel_rfl)) (z7 (by kernel_rfl)) rfl rfl rfl (fun _=>q_fieldAddr fo_42_1 rfl rfl) ?_
      refine WD.quiet (i:=6) (d:=42) (by kernel_rfl) rfl (z6 (by kernel_rfl)) (z7 (by kernel_rfl)) rfl rfl rfl (q_loadA (cs:=[(.int .i64 (((nth z29 z2p).fRate).fN)),(.int .i64 (((nth z29 z2p).fRate).fD))]) aggT_28 rfl rfl (rd_zsub (off:=2) (s:=2) (hz.pv2 (.there .here)) zvD rfl)) ?_
      refine WD.quiet (i:=7) (d:=43) (by kernel_rfl) rfl (z6 (by kernel_rfl)) (z7 (by kernel_rfl)) rfl rfl rfl (q_build (v:=(.agg #[(.int .i64 z5z.1.fN),(.int .i64 z5z.1.fD),(.int .i64 (((nth z29 z2p).fRate).fN)),(.int .i64 (((nth z29 z2p).fRate).fD))])) (Eos.parts (l:=[.tmp 37,.tmp 42]) (.cons rfl (.cons rfl .nil)) [0,1]) (fun _=>by kernel_rfl)) ?_
      refine WD.new (i:=8) (dd:=44) rfl (by kernel_rfl) rfl rfl rfl (e_buildSlice (cs:=([(⟨z5z.1,(⟨(((nth z29 z2p).fRate).fN),(((nth z29 z2p).fRate).fD)⟩ : z2)⟩ : z1)] : List z1).flatMap e42) elT_25 (Eos.parts (l:=[.tmp 43]) (.cons rfl .nil) [0]) (fun _=>by kernel_rfl) rfl (by unfold maxLen; omega)) (fun h'=>absurd h' (by decide)) ?_
      intro zz6 _
      refine WD.old (i:=9) (dd:=45) rfl (by kernel_rfl) rfl rfl rfl rfl (fun _=>(Sin.of .nil)) (e_appendF (enc:=e42) (l1:=z4L) (l2:=([(⟨z5z.1,(⟨(((nth z29 z2p).fRate).fN),(((nth z29 z2p).fRate).fD)⟩ : z2)⟩ : z1)] : List z1)) elT_25 rfl rfl (.there (.there (.there .here))) (fun _=>rfl) rfl rfl (news_row .here) (oc_flat e42_oc _) zvC) ?_
      rintro ⟨zvE,zvF⟩ _
      refine WD.pure (i:=10) (d:=6) (by kernel_rfl) rfl (z6 (by kernel_rfl)) (z7 (by kernel_rfl)) rfl rfl rfl (fun _=>q_assign rfl) ?_
      refine WD.done (by kernel_rfl) ?_
      refine WX.blockNormal ?_
      refine WX.then ?_
      refine WC.region ?_
      refine WL.quiet (d:=22) rfl rfl rfl (q_move rfl) ?_
      refine WL.quiet (d:=23) rfl rfl rfl (q_add rfl rfl rfl) ?_
      refine WL.quiet (d:=7) rfl rfl rfl (q_assign rfl) ?_
      refine WL.nil ?_
      exact WX.round (G:=Nat × List z1 × Int × Option Addr × Nat) ⟨zki,(z4L ++ ([(⟨z5z.1,(⟨(((nth z29 z2p).fRate).fN),(((nth z29 z2p).fRate).fD)⟩ : z2)⟩ : z1)] : List z1)),(i64 (z2p + 1)),zvE,zvF⟩ h (Nat.lt_succ_self _) (.cons rfl (.cons rfl (.cons rfl (.cons rfl .nil)))) (.cons (.there (.there (.there .here))) (.cons .here (.cons (.there (.there .here)) .nil)))
    ·replace h:=ite_f h zkp
     refine WC.exit ?_
     refine WX.thenExit ?_
     refine WX.thenExit ?_
     refine WX.blockHit ?_
     exact WX.mid (G:=List z1 × Option Addr × Nat) ⟨z4L,z9i,z9j⟩ h (.cons rfl .nil) (.cons .here (.cons .here .nil))
   ·rintro z7j zcF zcG h
    replace h:=(zvx z7j).symm.trans h
    refine WC.seq ?_
    obtain ⟨zkl,zvG,h⟩:=zb h
    refine WC.region ?_
    refine WL.quiet (d:=46) rfl rfl rfl (q_move rfl) ?_
    refine WL.freezeS (ls:=z7j) (.there .here) .here hz (RR.flat (enc:=e42) (fun _=>rfl) _) ?_
    intro zee zz7 zvH
    refine WL.enter3 (dd:=47) rfl rfl rfl (zg (l:=[.tmp 46]) Try.call28 (.cons rfl .nil)) (.nil : Sel [fz zee] [] [fz zee]) (fun w hw=>by have pz:=(hz.call2 hw (.nil : Sel [fz zee] [] [fz zee]) .here); exact w_ref02_Norm (Z:=_) (z4f:=zcF) (z4g:=zcG) (zi:=z7j) (r:=zkl) w pz zvH zvG) ?_
    rintro zvI zvJ zvK _
    refine WL.merge .here (.there .here) ?_
    refine WL.quiet (d:=4) rfl rfl rfl (q_assign rfl) ?_
    refine WL.quiet (d:=5) rfl rfl rfl (q_assign rfl) ?_
    refine WL.nil ?_
    refine WX.then ?_
    refine WC.ret ?_
    obtain rfl:=Option.some.inj h
    refine WX.bpRet Try.results35 (.tmp rfl (.tmp rfl .nil)) (fun w hw=>?_)
    exact ⟨(zee ++ zvI),zvJ,zvK,ret2 rfl rfl,trivial,hw.sub (.cons .here (.cons .here .nil))⟩
end Go.Proofs.Ytbihfglmcjkdhaa
