/- A part of this claim's proof: models of functions, walks, plain laws. No conditions. -/
import Derived.Test.YtakfmdiiehcbdaaW03d
namespace Go.Proofs.Ytakfmdiiehcbdaa
open Go Go.RowKit Sep
set_option linter.all false
set_option maxRecDepth 30000
set_option maxHeartbeats 4000000
def m_calculus_search_maxb_R4 (z6a : List (List z1)) (z5p : Sapi_Server) (z37 : z2) (z29 : List z2) (z8o : Int) : Option (Bool × (Nat × List z2 × Int)) :=
 (m_calculus_Backlog_1 (⟨z8o⟩ : z2a) z37 z6a z5p).bind fun z3d=>(if decide (((z29.length : Nat) : Int) = 0) then some true else chk ((0 : Int) ≤ 0 ∧ 0 < ((z29.length : Nat) : Int)) ((m_rat_Cmp z3d.1 (⟨((nth z29 0).fN),((nth z29 0).fD)⟩ : z2)).bind fun zl4=>some (decide (zl4 > 0)))).bind fun zl5=>if zl5 then some (true,(0,([z3d.1] : List z2),z3d.2.fE)) else some (true,(0,z29,z3d.2.fE))
def m_calculus_search_maxb (z1v : List (List z1)) (zl : Sapi_Server) (z6a : List (List z1)) (z5p : Sapi_Server) (z1w : List z2) : Option (z2 × Int) :=
 (m_calculus_search_checkb z1v zl z6a z5p z1w).bind fun zdv=>if decide (zdv ≠ 0) then some ((⟨0,0⟩ : z2),zdv) else jp2 (fun (z8V : Int) (z5R : List z2)=>if decide (z8V ≠ 0) then some ((⟨0,0⟩ : z2),z8V) else chk ((0 : Int) ≤ 0 ∧ 0 < ((z5R.length : Nat) : Int)) (some ((⟨((nth z5R 0).fN),((nth z5R 0).fD)⟩ : z2),0))) fun zl6=>(m_calculus_search_pointsb z1v zl z6a z5p z1w).bind fun z1a=>(m_calculus_search_points_1b (Nat × List z2 × Int) (fun (x : z2) (s : Nat × List z2 × Int)=>chk (s.1 = 0) (m_calculus_search_maxb_R4 z6a z5p x s.2.1 s.2.2)) (0,([] : List z2),0) z1v (⟨(⟨z1a.1,z1a.2.1⟩ : z2),(⟨z1a.2.2.1,z1a.2.2.2⟩ : z2)⟩ : Sapi_Server) z6a z5p z1w).bind fun z5q=>zl6 z5q.2.2 z5q.2.1
set_option maxRecDepth 20000 in
theorem w_calculus_search_maxb (Z : Zp)  (z1M : Option Addr) (z1N : Nat) (z1D : Addr) (zc9 : Option Addr) (zca : Nat) (z1E : Addr) (z1O : Option Addr) (z1P : Nat) (z1v : List (List z1)) (zl : Sapi_Server) (z6a : List (List z1)) (z5p : Sapi_Server) (z1w : List z2) (r : z2 × Int) (w₀ : World) (hz : PZ [] w₀ Z)
  (zl7 : ZS Z 1 (p39 Z) z1M z1N z1v)
  (zgU : ZS Z 1 (p39 Z) zc9 zca z6a)
  (zgV : ZC Z z1D [(.slice zc9 z6a.length zca)])
  (zgW : ZC Z z1E [(.int .i64 z5p.fRate.fN),(.int .i64 z5p.fRate.fD),(.int .i64 z5p.fLatency.fN),(.int .i64 z5p.fLatency.fD)])
  (zl8 : ZS Z 2 (fun r x=>r = e30 x) z1O z1P z1w)
  (h : m_calculus_search_maxb z1v zl z6a z5p z1w = some r) :
  Calls Try.prog 36 #[(.agg #[(.slice z1M z1v.length z1N),(.int .i64 zl.fRate.fN),(.int .i64 zl.fRate.fD),(.int .i64 zl.fLatency.fN),(.int .i64 zl.fLatency.fD),(.func (.func 37) #[] #[(.pointer (some z1D)),(.pointer (some z1E))]),(.slice z1O z1w.length z1P)])] w₀ fun e w'=>∃ Zn : Zp,e = .returned (.tuple #[(.agg #[(.int .i64 r.1.fN),(.int .i64 r.1.fD)]),(.int .i64 r.2)]) ∧ True ∧ Hp [] w₀ w' [fz Zn]:=by
 unfold m_calculus_search_maxb at h
 refine Calls.ofWCM (vs:=[(.agg #[(.slice z1M z1v.length z1N),(.int .i64 zl.fRate.fN),(.int .i64 zl.fRate.fD),(.int .i64 zl.fLatency.fN),(.int .i64 zl.fLatency.fD),(.func (.func 37) #[] #[(.pointer (some z1D)),(.pointer (some z1E))]),(.slice z1O z1w.length z1P)])]) (pre:=[]) (env:=[(0,(.agg #[(.slice z1M z1v.length z1N),(.int .i64 zl.fRate.fN),(.int .i64 zl.fRate.fD),(.int .i64 zl.fLatency.fN),(.int .i64 zl.fLatency.fD),(.func (.func 37) #[] #[(.pointer (some z1D)),(.pointer (some z1E))]),(.slice z1O z1w.length z1P)]))]) Try.func36 rfl Try.ntmps36 rfl (Hp.nil w₀ _) rfl ?_
 refine WC.pool ?_
 refine WC.seq ?_
 refine WC.region ?_
 refine WL.new (dd:=1) rfl rfl rfl (e_box (cs:=[(.slice z1M z1v.length z1N),(.int .i64 zl.fRate.fN),(.int .i64 zl.fRate.fD),(.int .i64 zl.fLatency.fN),(.int .i64 zl.fLatency.fD),(.func (.func 37) #[] #[(.pointer (some z1D)),(.pointer (some z1E))]),(.slice z1O z1w.length z1P)]) rfl rfl) ?_
 intro z2Q _
 refine WL.new (dd:=2) rfl rfl rfl (e_alloc (cs:=[(.int .i64 0),(.int .i64 0)]) zeroT_30 rfl) ?_
 intro z2T _
 refine WL.quiet (d:=3) rfl rfl rfl (q_assign rfl) ?_
 refine WL.nil ?_
 refine WX.then ?_
 refine WC.seq ?_
 refine WC.seq ?_
 obtain ⟨zdv,zvA,h⟩:=ze h
 refine WC.region ?_
 refine WL.quiet (d:=9) rfl rfl rfl (q_loadA (cs:=[(.slice z1M z1v.length z1N),(.int .i64 zl.fRate.fN),(.int .i64 zl.fRate.fD),(.int .i64 zl.fLatency.fN),(.int .i64 zl.fLatency.fD),(.func (.func 37) #[] #[(.pointer (some z1D)),(.pointer (some z1E))]),(.slice z1O z1w.length z1P)]) aggT_79 rfl rfl (rd_all (.there .here))) ?_
 refine WL.enter1 (dd:=10) rfl rfl rfl (zn (l:=[.tmp 9]) Try.call52 (.cons rfl .nil)) (.nil : Sel [stb z2T 30 [(.int .i64 0),(.int .i64 0)],stb z2Q 79 [(.slice z1M z1v.length z1N),(.int .i64 zl.fRate.fN),(.int .i64 zl.fRate.fD),(.int .i64 zl.fLatency.fN),(.int .i64 zl.fLatency.fD),(.func (.func 37) #[] #[(.pointer (some z1D)),(.pointer (some z1E))]),(.slice z1O z1w.length z1P)],fz []] [] [stb z2T 30 [(.int .i64 0),(.int .i64 0)],stb z2Q 79 [(.slice z1M z1v.length z1N),(.int .i64 zl.fRate.fN),(.int .i64 zl.fRate.fD),(.int .i64 zl.fLatency.fN),(.int .i64 zl.fLatency.fD),(.func (.func 37) #[] #[(.pointer (some z1D)),(.pointer (some z1E))]),(.slice z1O z1w.length z1P)],fz []]) (fun w hw=>by have pz:=(hz.call2 hw (.nil : Sel [stb z2T 30 [(.int .i64 0),(.int .i64 0)],stb z2Q 79 [(.slice z1M z1v.length z1N),(.int .i64 zl.fRate.fN),(.int .i64 zl.fRate.fD),(.int .i64 zl.fLatency.fN),(.int .i64 zl.fLatency.fD),(.func (.func 37) #[] #[(.pointer (some z1D)),(.pointer (some z1E))]),(.slice z1O z1w.length z1P)],fz []] [] [stb z2T 30 [(.int .i64 0),(.int .i64 0)],stb z2Q 79 [(.slice z1M z1v.length z1N),(.int .i64 zl.fRate.fN),(.int .i64 zl.fRate.fD),(.int .i64 zl.fLatency.fN),(.int .i64 zl.fLatency.fD),(.func (.func 37) #[] #[(.pointer (some z1D)),(.pointer (some z1E))]),(.slice z1O z1w.length z1P)],fz []]) (.there (.there .here))); exact w_calculus_search_checkb (Z:=_) (z2l:=z1M) (z2m:=z1N) (z2w:=z1D) (zkA:=zc9) (zkB:=zca) (z2x:=z1E) (z2y:=z1O) (z2z:=z1P) (z1L:=z1v) (zj:=zl) (zeO:=z6a) (zbV:=z5p) (z2k:=z1w) (r:=zdv) w pz ((zl7.mono (Zle.left _ _)).weak (fun _ _ h=>p39_mono (Zle.left _ _) h)) ((zgU.mono (Zle.left _ _)).weak (fun _ _ h=>p39_mono (Zle.left _ _) h)) (zgV.mono (Zle.left _ _)) (zgW.mono (Zle.left _ _)) (zl8.mono (Zle.left _ _)) zvA) ?_
 rintro z5r _
 refine WL.merge .here (.there (.there .here)) ?_
 refine WL.quiet (d:=4) rfl rfl rfl (q_assign rfl) ?_
 refine WL.nil ?_
 refine WX.then ?_
 refine WC.seq ?_
 refine WC.region ?_
 refine WL.quiet (d:=11) rfl rfl rfl (q_move rfl) ?_
 refine WL.quiet (d:=12) rfl rfl rfl (q_neq rfl rfl) ?_
 refine WL.nil ?_
 refine WX.then ?_
 refine WC.cond rfl (fun zl9=>?_) (fun zl9=>?_)
 ·replace h:=ite_t h zl9
  refine WC.seq ?_
  refine WC.region ?_
  refine WL.quiet (d:=13) rfl rfl rfl (q_build (v:=(.agg #[(.int .i64 0),(.int .i64 0)])) (Eos.parts (l:=[]) .nil []) (fun _=>by kernel_rfl)) ?_
  refine WL.quiet (d:=14) rfl rfl rfl (q_move rfl) ?_
  refine WL.eff0 rfl rfl (e_store (vs:=[(.int .i64 0),(.int .i64 0)]) (ds:=[(.int .i64 0),(.int .i64 0)]) sizT_30 rfl rfl rfl rfl (oc_cons rfl (oc_cons rfl oc_nil)) (.there .here) (Nat.le_of_ble_eq_true rfl) rfl) ?_
  refine WL.quiet (d:=3) rfl rfl rfl (q_assign rfl) ?_
  refine WL.nil ?_
  refine WX.then ?_
  refine WC.ret ?_
  refine WX.thenRet ?_
  obtain rfl:=Option.some.inj h
  refine WX.bpRetM Try.results36 (.agg rfl aggT_30 rfl (rd_all .here) (.tmp rfl .nil)) (fun w hw=>?_)
  exact ⟨([] ++ z5r),ret2 rfl rfl,trivial,hw.sub (.cons (.there .here) .nil)⟩
 ·replace h:=ite_f h zl9
  refine WC.skip ?_
  refine WX.then ?_
  refine WC.seq ?_
  refine WC.region ?_
  refine WL.new (dd:=5) rfl rfl rfl (e_alloc (cs:=[(.int .i64 0)]) zeroT_98 rfl) ?_
  intro z2U _
  refine WL.nil ?_
  refine WX.then ?_
  refine WC.seq ?_
  refine WC.region ?_
  refine WL.new (dd:=6) rfl rfl rfl (e_alloc (cs:=[(.slice none 0 0)]) zeroT_77 rfl) ?_
  intro z30 _
  refine WL.nil ?_
  refine WX.then ?_
  obtain ⟨zl6,zvB,h⟩:=jp2_elim h
  refine WC.seqMidR6 (fun (zf2 : Nat) (z8V : Int) (z5R : List z2) (zcb : Zp) (zf3 : Option Addr) (zf4 : Nat)=>(zl6 z8V z5R = some r) ∧ (Zle (Z ++ ([] ++ z5r)) (Z ++ zcb))) (fun (zf2 : Nat) (z8V : Int) (z5R : List z2) (zcb : Zp) (zf3 : Option Addr) (zf4 : Nat)=>[(2,(.pointer (some ⟨z2T,0,none⟩))),(5,(.pointer (some ⟨z2U,0,none⟩))),(6,(.pointer (some ⟨z30,0,none⟩)))]) (fun (zf2 : Nat) (z8V : Int) (z5R : List z2) (zcb : Zp) (zf3 : Option Addr) (zf4 : Nat)=>[fz zcb,stb z2T 30 [(.int .i64 0),(.int .i64 0)],stb z2U 98 [(.int .i64 z8V)],stb z30 77 [(.slice zf3 z5R.length zf4)],row (.slice zf3 z5R.length zf4) 30 2 (z5R.flatMap e30),dfr zf2]) ?_ ?_
  ·skip
   refine WC.seq ?_
   obtain ⟨z1a,zvC,h⟩:=ze h
   refine WC.region ?_
   refine WL.quiet (d:=15) rfl rfl rfl (q_loadA (cs:=[(.slice z1M z1v.length z1N),(.int .i64 zl.fRate.fN),(.int .i64 zl.fRate.fD),(.int .i64 zl.fLatency.fN),(.int .i64 zl.fLatency.fD),(.func (.func 37) #[] #[(.pointer (some z1D)),(.pointer (some z1E))]),(.slice z1O z1w.length z1P)]) aggT_79 rfl rfl (rd_all (.there (.there (.there (.there .here)))))) ?_
   refine WL.enter1 (dd:=16) rfl rfl rfl (zn (l:=[.tmp 15]) Try.call53 (.cons rfl .nil)) (.nil : Sel [stb z30 77 [(.slice none 0 0)],stb z2U 98 [(.int .i64 0)],fz ([] ++ z5r),stb z2T 30 [(.int .i64 0),(.int .i64 0)],stb z2Q 79 [(.slice z1M z1v.length z1N),(.int .i64 zl.fRate.fN),(.int .i64 zl.fRate.fD),(.int .i64 zl.fLatency.fN),(.int .i64 zl.fLatency.fD),(.func (.func 37) #[] #[(.pointer (some z1D)),(.pointer (some z1E))]),(.slice z1O z1w.length z1P)]] [] [stb z30 77 [(.slice none 0 0)],stb z2U 98 [(.int .i64 0)],fz ([] ++ z5r),stb z2T 30 [(.int .i64 0),(.int .i64 0)],stb z2Q 79 [(.slice z1M z1v.length z1N),(.int .i64 zl.fRate.fN),(.int .i64 zl.fRate.fD),(.int .i64 zl.fLatency.fN),(.int .i64 zl.fLatency.fD),(.func (.func 37) #[] #[(.pointer (some z1D)),(.pointer (some z1E))]),(.slice z1O z1w.length z1P)]]) (fun w hw=>by have pz:=(hz.call2 hw (.nil : Sel [stb z30 77 [(.slice none 0 0)],stb z2U 98 [(.int .i64 0)],fz ([] ++ z5r),stb z2T 30 [(.int .i64 0),(.int .i64 0)],stb z2Q 79 [(.slice z1M z1v.length z1N),(.int .i64 zl.fRate.fN),(.int .i64 zl.fRate.fD),(.int .i64 zl.fLatency.fN),(.int .i64 zl.fLatency.fD),(.func (.func 37) #[] #[(.pointer (some z1D)),(.pointer (some z1E))]),(.slice z1O z1w.length z1P)]] [] [stb z30 77 [(.slice none 0 0)],stb z2U 98 [(.int .i64 0)],fz ([] ++ z5r),stb z2T 30 [(.int .i64 0),(.int .i64 0)],stb z2Q 79 [(.slice z1M z1v.length z1N),(.int .i64 zl.fRate.fN),(.int .i64 zl.fRate.fD),(.int .i64 zl.fLatency.fN),(.int .i64 zl.fLatency.fD),(.func (.func 37) #[] #[(.pointer (some z1D)),(.pointer (some z1E))]),(.slice z1O z1w.length z1P)]]) (.there (.there .here))); exact w_calculus_search_pointsb (Z:=_) (zbX:=z1M) (zbY:=z1N) (zbZ:=z1D) (zkJ:=zc9) (zkK:=zca) (zc0:=z1E) (zc1:=z1O) (zc2:=z1P) (z9S:=z1v) (z4w:=zl) (zeS:=z6a) (zbW:=z5p) (z9T:=z1w) (r:=z1a) w pz ((zl7.mono ((Zle.left _ _).trans ((Zle.left _ _).trans (Zle.assoc _ _ _)))).weak (fun _ _ h=>p39_mono ((Zle.left _ _).trans ((Zle.left _ _).trans (Zle.assoc _ _ _))) h)) ((zgU.mono ((Zle.left _ _).trans ((Zle.left _ _).trans (Zle.assoc _ _ _)))).weak (fun _ _ h=>p39_mono ((Zle.left _ _).trans ((Zle.left _ _).trans (Zle.assoc _ _ _))) h)) (zgV.mono ((Zle.left _ _).trans ((Zle.left _ _).trans (Zle.assoc _ _ _)))) (zgW.mono ((Zle.left _ _).trans ((Zle.left _ _).trans (Zle.assoc _ _ _)))) (zl8.mono ((Zle.left _ _).trans ((Zle.left _ _).trans (Zle.assoc _ _ _)))) zvC) ?_
   rintro z5S _
   refine WL.nil ?_
   refine WX.then ?_
   refine WC.block ?_
   refine WC.pool ?_
   refine WC.drop (.cons .here (.cons (.there .here) (.cons (.there .here) (.cons (.there (.there .here)) (.cons (.there (.there .here)) (.cons .here (.cons .here .nil))))))) ?_
   refine WC.nilRow 30 2 ?_
   refine WC.rangeFunc (f:=69) (caps:=[(.pointer (some ⟨z5S,0,none⟩))]) rfl Try.call69 ?_
   intro zyZ zz0 z3N z74 z44 zgX zvD zvE w hw
   have hw1:=hw.selAll ((.cons (.there (.there (.there .here))) (.cons (.there (.there (.there .here))) (.cons (.there (.there .here)) (.cons (.there (.there .here)) (.cons (.there (.there .here)) (.cons (.there (.there .here)) (.cons .here .nil))))))) : Sel _ [fz [],stb z30 77 [(.slice none (([] : List z2).length) 0)],row (.slice none (([] : List z2).length) 0) 30 2 (([] : List z2).flatMap e30),stb z2U 98 [(.int .i64 0)],stb z2T 30 [(.int .i64 0),(.int .i64 0)],stb z2Q 79 [(.slice z1M z1v.length z1N),(.int .i64 zl.fRate.fN),(.int .i64 zl.fRate.fD),(.int .i64 zl.fLatency.fN),(.int .i64 zl.fLatency.fD),(.func (.func 37) #[] #[(.pointer (some z1D)),(.pointer (some z1E))]),(.slice z1O z1w.length z1P)],blk z3N (z44 .ready none)] _)
   have pz:=(hz.call2 hw1 ((.cons .here .nil) : Sel [allA [fz [],stb z30 77 [(.slice none (([] : List z2).length) 0)],row (.slice none (([] : List z2).length) 0) 30 2 (([] : List z2).flatMap e30),stb z2U 98 [(.int .i64 0)],stb z2T 30 [(.int .i64 0),(.int .i64 0)],stb z2Q 79 [(.slice z1M z1v.length z1N),(.int .i64 zl.fRate.fN),(.int .i64 zl.fRate.fD),(.int .i64 zl.fLatency.fN),(.int .i64 zl.fLatency.fD),(.func (.func 37) #[] #[(.pointer (some z1D)),(.pointer (some z1E))]),(.slice z1O z1w.length z1P)],blk z3N (z44 .ready none)],dfr z74,stb z5S 79 [(.slice z1M z1v.length z1N),(.int .i64 z1a.1),(.int .i64 z1a.2.1),(.int .i64 z1a.2.2.1),(.int .i64 z1a.2.2.2),(.func (.func 37) #[] #[(.pointer (some z1D)),(.pointer (some z1E))]),(.slice z1O z1w.length z1P)],fz ([] ++ z5r)] [allA [fz [],stb z30 77 [(.slice none (([] : List z2).length) 0)],row (.slice none (([] : List z2).length) 0) 30 2 (([] : List z2).flatMap e30),stb z2U 98 [(.int .i64 0)],stb z2T 30 [(.int .i64 0),(.int .i64 0)],stb z2Q 79 [(.slice z1M z1v.length z1N),(.int .i64 zl.fRate.fN),(.int .i64 zl.fRate.fD),(.int .i64 zl.fLatency.fN),(.int .i64 zl.fLatency.fD),(.func (.func 37) #[] #[(.pointer (some z1D)),(.pointer (some z1E))]),(.slice z1O z1w.length z1P)],blk z3N (z44 .ready none)]] [dfr z74,stb z5S 79 [(.slice z1M z1v.length z1N),(.int .i64 z1a.1),(.int .i64 z1a.2.1),(.int .i64 z1a.2.2.1),(.int .i64 z1a.2.2.2),(.func (.func 37) #[] #[(.pointer (some z1D)),(.pointer (some z1E))]),(.slice z1O z1w.length z1P)],fz ([] ++ z5r)]) (.there (.there .here))).lend hw1 ((.cons .here .nil) : Sel [allA [fz [],stb z30 77 [(.slice none (([] : List z2).length) 0)],row (.slice none (([] : List z2).length) 0) 30 2 (([] : List z2).flatMap e30),stb z2U 98 [(.int .i64 0)],stb z2T 30 [(.int .i64 0),(.int .i64 0)],stb z2Q 79 [(.slice z1M z1v.length z1N),(.int .i64 zl.fRate.fN),(.int .i64 zl.fRate.fD),(.int .i64 zl.fLatency.fN),(.int .i64 zl.fLatency.fD),(.func (.func 37) #[] #[(.pointer (some z1D)),(.pointer (some z1E))]),(.slice z1O z1w.length z1P)],blk z3N (z44 .ready none)],dfr z74,stb z5S 79 [(.slice z1M z1v.length z1N),(.int .i64 z1a.1),(.int .i64 z1a.2.1),(.int .i64 z1a.2.2.1),(.int .i64 z1a.2.2.2),(.func (.func 37) #[] #[(.pointer (some z1D)),(.pointer (some z1E))]),(.slice z1O z1w.length z1P)],fz ([] ++ z5r)] [allA [fz [],stb z30 77 [(.slice none (([] : List z2).length) 0)],row (.slice none (([] : List z2).length) 0) 30 2 (([] : List z2).flatMap e30),stb z2U 98 [(.int .i64 0)],stb z2T 30 [(.int .i64 0),(.int .i64 0)],stb z2Q 79 [(.slice z1M z1v.length z1N),(.int .i64 zl.fRate.fN),(.int .i64 zl.fRate.fD),(.int .i64 zl.fLatency.fN),(.int .i64 zl.fLatency.fD),(.func (.func 37) #[] #[(.pointer (some z1D)),(.pointer (some z1E))]),(.slice z1O z1w.length z1P)],blk z3N (z44 .ready none)]] [dfr z74,stb z5S 79 [(.slice z1M z1v.length z1N),(.int .i64 z1a.1),(.int .i64 z1a.2.1),(.int .i64 z1a.2.2.1),(.int .i64 z1a.2.2.2),(.func (.func 37) #[] #[(.pointer (some z1D)),(.pointer (some z1E))]),(.slice z1O z1w.length z1P)],fz ([] ++ z5r)]) (B:=[stb z5S 79 [(.slice z1M z1v.length z1N),(.int .i64 z1a.1),(.int .i64 z1a.2.1),(.int .i64 z1a.2.2.1),(.int .i64 z1a.2.2.2),(.func (.func 37) #[] #[(.pointer (some z1D)),(.pointer (some z1E))]),(.slice z1O z1w.length z1P)]]) (fun _ hx'=>((.cons (.there .here) .nil) : Sel _ [stb z5S 79 [(.slice z1M z1v.length z1N),(.int .i64 z1a.1),(.int .i64 z1a.2.1),(.int .i64 z1a.2.2.1),(.int .i64 z1a.2.2.2),(.func (.func 37) #[] #[(.pointer (some z1D)),(.pointer (some z1E))]),(.slice z1O z1w.length z1P)]] _).mem hx')
   obtain ⟨z5q,zvF,h⟩:=ze h
   refine Calls.mono (w_calculus_search_points_1b (Z:=_) (z7o:=z3N) (z2n:=(Option Addr × Nat)) (z1r:=(fun (g : Option Addr × Nat) (s : Nat × List z2 × Int)=>allA ([fz [],stb z30 77 [(.slice g.1 s.2.1.length g.2)],row (.slice g.1 s.2.1.length g.2) 30 2 (s.2.1.flatMap e30),stb z2U 98 [(.int .i64 s.2.2)],stb z2T 30 [(.int .i64 0),(.int .i64 0)],stb z2Q 79 [(.slice z1M z1v.length z1N),(.int .i64 zl.fRate.fN),(.int .i64 zl.fRate.fD),(.int .i64 zl.fLatency.fN),(.int .i64 zl.fLatency.fD),(.func (.func 37) #[] #[(.pointer (some z1D)),(.pointer (some z1E))]),(.slice z1O z1w.length z1P)]] ++ [blk z3N (z44 (rdy (pcs [] s.1)) (pcs [] s.1))]))) (z7p:=(fun (g : Option Addr × Nat) (s : Nat × List z2 × Int)=>True)) (z73:=(none,0)) (z8n:=⟨z5S,0,none⟩) (zaQ:=z1M) (zaR:=z1N) (zkP:=z1D) (zkQ:=zc9) (zkR:=zca) (zkS:=z1E) (zeW:=z1O) (zeX:=z1P) (zw:=(Nat × List z2 × Int)) (z3L:=(fun (x : z2) (s : Nat × List z2 × Int)=>chk (s.1 = 0) (m_calculus_search_maxb_R4 z6a z5p x s.2.1 s.2.2))) (s0_30244:=(0,([] : List z2),0)) (z42:=z1v) (zc3:=(⟨(⟨z1a.1,z1a.2.1⟩ : z2),(⟨z1a.2.2.1,z1a.2.2.2⟩ : z2)⟩ : Sapi_Server)) (zeV:=z6a) (zc4:=z5p) (z1g:=z1w) (r:=z5q) w pz ?_ trivial ((((zl7.mono ((Zle.left _ _).trans ((Zle.left _ _).trans (Zle.assoc _ _ _)))).weak (fun _ _ h=>p39_mono ((Zle.left _ _).trans ((Zle.left _ _).trans (Zle.assoc _ _ _))) h)).mono (Zle.left _ _)).weak (fun _ _ h=>p39_mono (Zle.left _ _) h)) ((((zgU.mono ((Zle.left _ _).trans ((Zle.left _ _).trans (Zle.assoc _ _ _)))).weak (fun _ _ h=>p39_mono ((Zle.left _ _).trans ((Zle.left _ _).trans (Zle.assoc _ _ _))) h)).mono (Zle.left _ _)).weak (fun _ _ h=>p39_mono (Zle.left _ _) h)) ((zgV.mono ((Zle.left _ _).trans ((Zle.left _ _).trans (Zle.assoc _ _ _)))).mono (Zle.left _ _)) ((zgW.mono ((Zle.left _ _).trans ((Zle.left _ _).trans (Zle.assoc _ _ _)))).mono (Zle.left _ _)) ((zl8.mono ((Zle.left _ _).trans ((Zle.left _ _).trans (Zle.assoc _ _ _)))).mono (Zle.left _ _)) ((hw1.lent ((.cons .here .nil) : Sel [allA [fz [],stb z30 77 [(.slice none (([] : List z2).length) 0)],row (.slice none (([] : List z2).length) 0) 30 2 (([] : List z2).flatMap e30),stb z2U 98 [(.int .i64 0)],stb z2T 30 [(.int .i64 0),(.int .i64 0)],stb z2Q 79 [(.slice z1M z1v.length z1N),(.int .i64 zl.fRate.fN),(.int .i64 zl.fRate.fD),(.int .i64 zl.fLatency.fN),(.int .i64 zl.fLatency.fD),(.func (.func 37) #[] #[(.pointer (some z1D)),(.pointer (some z1E))]),(.slice z1O z1w.length z1P)],blk z3N (z44 .ready none)],dfr z74,stb z5S 79 [(.slice z1M z1v.length z1N),(.int .i64 z1a.1),(.int .i64 z1a.2.1),(.int .i64 z1a.2.2.1),(.int .i64 z1a.2.2.2),(.func (.func 37) #[] #[(.pointer (some z1D)),(.pointer (some z1E))]),(.slice z1O z1w.length z1P)],fz ([] ++ z5r)] [allA [fz [],stb z30 77 [(.slice none (([] : List z2).length) 0)],row (.slice none (([] : List z2).length) 0) 30 2 (([] : List z2).flatMap e30),stb z2U 98 [(.int .i64 0)],stb z2T 30 [(.int .i64 0),(.int .i64 0)],stb z2Q 79 [(.slice z1M z1v.length z1N),(.int .i64 zl.fRate.fN),(.int .i64 zl.fRate.fD),(.int .i64 zl.fLatency.fN),(.int .i64 zl.fLatency.fD),(.func (.func 37) #[] #[(.pointer (some z1D)),(.pointer (some z1E))]),(.slice z1O z1w.length z1P)],blk z3N (z44 .ready none)]] [dfr z74,stb z5S 79 [(.slice z1M z1v.length z1N),(.int .i64 z1a.1),(.int .i64 z1a.2.1),(.int .i64 z1a.2.2.1),(.int .i64 z1a.2.2.2),(.func (.func 37) #[] #[(.pointer (some z1D)),(.pointer (some z1E))]),(.slice z1O z1w.length z1P)],fz ([] ++ z5r)]) (B:=[stb z5S 79 [(.slice z1M z1v.length z1N),(.int .i64 z1a.1),(.int .i64 z1a.2.1),(.int .i64 z1a.2.2.1),(.int .i64 z1a.2.2.2),(.func (.func 37) #[] #[(.pointer (some z1D)),(.pointer (some z1E))]),(.slice z1O z1w.length z1P)]]) (fun _ hx'=>((.cons (.there .here) .nil) : Sel _ [stb z5S 79 [(.slice z1M z1v.length z1N),(.int .i64 z1a.1),(.int .i64 z1a.2.1),(.int .i64 z1a.2.2.1),(.int .i64 z1a.2.2.2),(.func (.func 37) #[] #[(.pointer (some z1D)),(.pointer (some z1E))]),(.slice z1O z1w.length z1P)]] _).mem hx') (.head _) _).stb) zvF (hw1.owns ((.cons .here .nil) : Sel [allA [fz [],stb z30 77 [(.slice none (([] : List z2).length) 0)],row (.slice none (([] : List z2).length) 0) 30 2 (([] : List z2).flatMap e30),stb z2U 98 [(.int .i64 0)],stb z2T 30 [(.int .i64 0),(.int .i64 0)],stb z2Q 79 [(.slice z1M z1v.length z1N),(.int .i64 zl.fRate.fN),(.int .i64 zl.fRate.fD),(.int .i64 zl.fLatency.fN),(.int .i64 zl.fLatency.fD),(.func (.func 37) #[] #[(.pointer (some z1D)),(.pointer (some z1E))]),(.slice z1O z1w.length z1P)],blk z3N (z44 .ready none)],dfr z74,stb z5S 79 [(.slice z1M z1v.length z1N),(.int .i64 z1a.1),(.int .i64 z1a.2.1),(.int .i64 z1a.2.2.1),(.int .i64 z1a.2.2.2),(.func (.func 37) #[] #[(.pointer (some z1D)),(.pointer (some z1E))]),(.slice z1O z1w.length z1P)],fz ([] ++ z5r)] [allA [fz [],stb z30 77 [(.slice none (([] : List z2).length) 0)],row (.slice none (([] : List z2).length) 0) 30 2 (([] : List z2).flatMap e30),stb z2U 98 [(.int .i64 0)],stb z2T 30 [(.int .i64 0),(.int .i64 0)],stb z2Q 79 [(.slice z1M z1v.length z1N),(.int .i64 zl.fRate.fN),(.int .i64 zl.fRate.fD),(.int .i64 zl.fLatency.fN),(.int .i64 zl.fLatency.fD),(.func (.func 37) #[] #[(.pointer (some z1D)),(.pointer (some z1E))]),(.slice z1O z1w.length z1P)],blk z3N (z44 .ready none)]] [dfr z74,stb z5S 79 [(.slice z1M z1v.length z1N),(.int .i64 z1a.1),(.int .i64 z1a.2.1),(.int .i64 z1a.2.2.1),(.int .i64 z1a.2.2.2),(.func (.func 37) #[] #[(.pointer (some z1D)),(.pointer (some z1E))]),(.slice z1O z1w.length z1P)],fz ([] ++ z5r)]))) ?_
   ·skip
    refine yieldP_of (LI:=(fun (g : Option Addr × Nat) (s : Nat × List z2 × Int)=>[fz [],stb z30 77 [(.slice g.1 s.2.1.length g.2)],row (.slice g.1 s.2.1.length g.2) 30 2 (s.2.1.flatMap e30),stb z2U 98 [(.int .i64 s.2.2)],stb z2T 30 [(.int .i64 0),(.int .i64 0)],stb z2Q 79 [(.slice z1M z1v.length z1N),(.int .i64 zl.fRate.fN),(.int .i64 zl.fRate.fD),(.int .i64 zl.fLatency.fN),(.int .i64 zl.fLatency.fD),(.func (.func 37) #[] #[(.pointer (some z1D)),(.pointer (some z1E))]),(.slice z1O z1w.length z1P)]])) (pc:=(fun (s : Nat × List z2 × Int)=>pcs [] s.1)) zgX zvD zvE (fun _ _=>rfl) (by decide) ?_
    rintro z37 _ ⟨z5T,z4M⟩ ⟨zvG,z29,z8o⟩ zvH zvI Fb wb zp6 _ hz
    replace hz:=hz.left
    letI : Rnd:=inR z3N
    obtain ⟨hp0,z7q⟩:=chk_elim zp6
    replace hp0 : zvG = 0:=hp0; subst hp0; clear zp6
    replace z7q : m_calculus_search_maxb_R4 z6a z5p z37 z29 z8o = some (zvH,zvI):=z7q
    unfold m_calculus_search_maxb_R4 at z7q
    refine WC.restr (env':=[(1,(.pointer (some ⟨z2Q,0,none⟩))),(12,(.bool (decide (zdv ≠ 0)))),(5,(.pointer (some ⟨z2U,0,none⟩))),(6,(.pointer (some ⟨z30,0,none⟩))),(17,(.agg #[(.int .i64 z37.fN),(.int .i64 z37.fD)]))]) (.cons rfl (.cons rfl (.cons rfl (.cons rfl (.cons rfl .nil))))) ?_
    refine WC.eqL (L':=[fz [],stb z30 77 [(.slice z5T z29.length z4M)],row (.slice z5T z29.length z4M) 30 2 (z29.flatMap e30),stb z2U 98 [(.int .i64 z8o)],stb z2T 30 [(.int .i64 0),(.int .i64 0)],stb z2Q 79 [(.slice z1M z1v.length z1N),(.int .i64 zl.fRate.fN),(.int .i64 zl.fRate.fD),(.int .i64 zl.fLatency.fN),(.int .i64 zl.fLatency.fD),(.func (.func 37) #[] #[(.pointer (some z1D)),(.pointer (some z1E))]),(.slice z1O z1w.length z1P)],blk z3N (z44 .ready none)]) rfl ?_
    refine WC.region ?_
    refine WL.new (dd:=7) rfl rfl rfl (e_alloc (cs:=[(.int .i64 0),(.int .i64 0)]) zeroT_30 rfl) ?_
    intro za0 _
    refine WL.eff0 rfl rfl (e_store (vs:=[(.int .i64 z37.fN),(.int .i64 z37.fD)]) (ds:=[(.int .i64 z37.fN),(.int .i64 z37.fD)]) sizT_30 rfl rfl rfl rfl (oc_cons rfl (oc_cons rfl oc_nil)) .here (Nat.le_of_ble_eq_true rfl) rfl) ?_
    refine WL.nil ?_
    refine WX.begin zgX (.there (.there (.there (.there (.there (.there (.there .here))))))) ?_
    refine WC.block ?_
    refine WC.seq ?_
    obtain ⟨z3d,zvJ,z7q⟩:=ze z7q
    refine WC.region ?_
    refine WL.quiet (d:=18) rfl rfl rfl (q_fieldAddr fo_79_2 rfl rfl) ?_
    refine WL.quiet (d:=19) rfl rfl rfl (q_load1 oneT_76 rfl (rd_stb (.there (.there (.there (.there (.there (.there (.there .here))))))) rfl)) ?_
    refine WL.quiet (d:=20) rfl rfl rfl (q_loadA (cs:=[(.int .i64 z37.fN),(.int .i64 z37.fD)]) aggT_30 rfl rfl (rd_all (.there .here))) ?_
    refine WL.callD (dd:=21) rfl rfl rfl (run_callv (l:=[.tmp 5,.tmp 20]) Try.call37 rfl (.cons rfl (.cons rfl .nil))) ((.cons (.there (.there (.there (.there (.there .here))))) .nil) : Sel [blk z3N (z44 .busy none),stb za0 30 [(.int .i64 z37.fN),(.int .i64 z37.fD)],fz [],stb z30 77 [(.slice z5T z29.length z4M)],row (.slice z5T z29.length z4M) 30 2 (z29.flatMap e30),stb z2U 98 [(.int .i64 z8o)],stb z2T 30 [(.int .i64 0),(.int .i64 0)],stb z2Q 79 [(.slice z1M z1v.length z1N),(.int .i64 zl.fRate.fN),(.int .i64 zl.fRate.fD),(.int .i64 zl.fLatency.fN),(.int .i64 zl.fLatency.fD),(.func (.func 37) #[] #[(.pointer (some z1D)),(.pointer (some z1E))]),(.slice z1O z1w.length z1P)]] [stb z2U 98 [(.int .i64 z8o)]] [blk z3N (z44 .busy none),stb za0 30 [(.int .i64 z37.fN),(.int .i64 z37.fD)],fz [],stb z30 77 [(.slice z5T z29.length z4M)],row (.slice z5T z29.length z4M) 30 2 (z29.flatMap e30),stb z2T 30 [(.int .i64 0),(.int .i64 0)],stb z2Q 79 [(.slice z1M z1v.length z1N),(.int .i64 zl.fRate.fN),(.int .i64 zl.fRate.fD),(.int .i64 zl.fLatency.fN),(.int .i64 zl.fLatency.fD),(.func (.func 37) #[] #[(.pointer (some z1D)),(.pointer (some z1E))]),(.slice z1O z1w.length z1P)]]) (fun w hw=>by have pz:=(hz.call2 hw ((.cons (.there (.there (.there (.there (.there .here))))) .nil) : Sel [blk z3N (z44 .busy none),stb za0 30 [(.int .i64 z37.fN),(.int .i64 z37.fD)],fz [],stb z30 77 [(.slice z5T z29.length z4M)],row (.slice z5T z29.length z4M) 30 2 (z29.flatMap e30),stb z2U 98 [(.int .i64 z8o)],stb z2T 30 [(.int .i64 0),(.int .i64 0)],stb z2Q 79 [(.slice z1M z1v.length z1N),(.int .i64 zl.fRate.fN),(.int .i64 zl.fRate.fD),(.int .i64 zl.fLatency.fN),(.int .i64 zl.fLatency.fD),(.func (.func 37) #[] #[(.pointer (some z1D)),(.pointer (some z1E))]),(.slice z1O z1w.length z1P)]] [stb z2U 98 [(.int .i64 z8o)]] [blk z3N (z44 .busy none),stb za0 30 [(.int .i64 z37.fN),(.int .i64 z37.fD)],fz [],stb z30 77 [(.slice z5T z29.length z4M)],row (.slice z5T z29.length z4M) 30 2 (z29.flatMap e30),stb z2T 30 [(.int .i64 0),(.int .i64 0)],stb z2Q 79 [(.slice z1M z1v.length z1N),(.int .i64 zl.fRate.fN),(.int .i64 zl.fRate.fD),(.int .i64 zl.fLatency.fN),(.int .i64 zl.fLatency.fD),(.func (.func 37) #[] #[(.pointer (some z1D)),(.pointer (some z1E))]),(.slice z1O z1w.length z1P)]]) (.there (.there .here))); exact w_calculus_Backlog_1 (Z:=_) (z2o:=z2U) (zf0:=z1D) (zgS:=zc9) (zgT:=zca) (zf1:=z1E) (z6w:=(⟨z8o⟩ : z2a)) (zT:=z37) (zc8:=z6a) (z5o:=z5p) (r:=z3d) w pz ((zgU.mono ((Zle.left _ _).trans ((Zle.left _ _).trans ((Zle.assoc _ _ _).trans (Zle.left _ _))))).weak (fun _ _ h=>p39_mono ((Zle.left _ _).trans ((Zle.left _ _).trans ((Zle.assoc _ _ _).trans (Zle.left _ _)))) h)) (zgV.mono ((Zle.left _ _).trans ((Zle.left _ _).trans ((Zle.assoc _ _ _).trans (Zle.left _ _))))) (zgW.mono ((Zle.left _ _).trans ((Zle.left _ _).trans ((Zle.assoc _ _ _).trans (Zle.left _ _))))) zvJ (hw.owns ((.cons (.there (.there (.there (.there (.there .here))))) .nil) : Sel [blk z3N (z44 .busy none),stb za0 30 [(.int .i64 z37.fN),(.int .i64 z37.fD)],fz [],stb z30 77 [(.slice z5T z29.length z4M)],row (.slice z5T z29.length z4M) 30 2 (z29.flatMap e30),stb z2U 98 [(.int .i64 z8o)],stb z2T 30 [(.int .i64 0),(.int .i64 0)],stb z2Q 79 [(.slice z1M z1v.length z1N),(.int .i64 zl.fRate.fN),(.int .i64 zl.fRate.fD),(.int .i64 zl.fLatency.fN),(.int .i64 zl.fLatency.fD),(.func (.func 37) #[] #[(.pointer (some z1D)),(.pointer (some z1E))]),(.slice z1O z1w.length z1P)]] [stb z2U 98 [(.int .i64 z8o)]] [blk z3N (z44 .busy none),stb za0 30 [(.int .i64 z37.fN),(.int .i64 z37.fD)],fz [],stb z30 77 [(.slice z5T z29.length z4M)],row (.slice z5T z29.length z4M) 30 2 (z29.flatMap e30),stb z2T 30 [(.int .i64 0),(.int .i64 0)],stb z2Q 79 [(.slice z1M z1v.length z1N),(.int .i64 zl.fRate.fN),(.int .i64 zl.fRate.fD),(.int .i64 zl.fLatency.fN),(.int .i64 zl.fLatency.fD),(.func (.func 37) #[] #[(.pointer (some z1D)),(.pointer (some z1E))]),(.slice z1O z1w.length z1P)]]))) ?_
    refine WL.new (dd:=8) rfl rfl rfl (e_alloc (cs:=[(.int .i64 0),(.int .i64 0)]) zeroT_30 rfl) ?_
    intro zla _
    refine WL.eff0 rfl rfl (e_store (vs:=[(.int .i64 z3d.1.fN),(.int .i64 z3d.1.fD)]) (ds:=[(.int .i64 z3d.1.fN),(.int .i64 z3d.1.fD)]) sizT_30 rfl rfl rfl rfl (oc_cons rfl (oc_cons rfl oc_nil)) .here (Nat.le_of_ble_eq_true rfl) rfl) ?_
    refine WL.nil ?_
    refine WX.then ?_
    refine WC.seq ?_
    obtain ⟨zl5,zp7,z7q⟩:=ze z7q
    refine WC.draw (fun i=>[].contains i) [] rfl ?_
    refine WD.quiet (i:=0) (d:=22) (by kernel_rfl) rfl (z6 (by kernel_rfl)) (z7 (by kernel_rfl)) rfl rfl rfl (q_load1 oneT_77 rfl (rd_stb (.there (.there (.there (.there (.there .here))))) rfl)) ?_
    refine WD.pure (i:=1) (d:=23) (by kernel_rfl) rfl (z6 (by kernel_rfl)) (z7 (by kernel_rfl)) rfl rfl rfl (fun _=>q_len Try.underlying77 rfl) ?_
    refine WD.pure (i:=2) (d:=24) (by kernel_rfl) rfl (z6 (by kernel_rfl)) (z7 (by kernel_rfl)) rfl rfl rfl (fun _=>q_eql rfl rfl) ?_
    refine WD.pure (i:=3) (d:=25) (by kernel_rfl) rfl (z6 (by kernel_rfl)) (z7 (by kernel_rfl)) rfl rfl rfl (fun _=>q_move rfl) ?_
    refine WD.mid (fuel':=0) [(1,(.pointer (some ⟨z2Q,0,none⟩))),(12,(.bool (decide (zdv ≠ 0)))),(5,(.pointer (some ⟨z2U,0,none⟩))),(6,(.pointer (some ⟨z30,0,none⟩))),(17,(.agg #[(.int .i64 z37.fN),(.int .i64 z37.fD)])),(7,(.pointer (some ⟨za0,0,none⟩))),(18,(.pointer (some ⟨z2Q,5,none⟩))),(19,(.func (.func 37) #[] #[(.pointer (some z1D)),(.pointer (some z1E))])),(20,(.agg #[(.int .i64 z37.fN),(.int .i64 z37.fD)])),(21,(.agg #[(.int .i64 z3d.1.fN),(.int .i64 z3d.1.fD)])),(8,(.pointer (some ⟨zla,0,none⟩))),(22,(.slice z5T z29.length z4M)),(23,(.int .i64 ((z29.length : Nat) : Int))),(24,(.bool (decide (((z29.length : Nat) : Int) = 0)))),(25,(.bool (decide (((z29.length : Nat) : Int) = 0)))),(32,(.bool zl5))] (listedA 11 [10,9,8,7,6,5,4,3,2,1,0]) ?_ (fun zp8=>?_)
    rotate_left
    ·rcases Bool.eq_false_or_eq_true (decide (((z29.length : Nat) : Int) = 0)) with hb' | hb'
     ·have zlb:=hb'; clear hb'
      have zlc:=ite_t zp7 zlb
      replace zlc:=Option.some.inj zlc
      refine WD.pin (i:=25) rfl zlb ?_
      refine WD.skip (i:=4) (d:=26) (by kernel_rfl) rfl (z6 (by kernel_rfl)) (z7 (by kernel_rfl)) rfl rfl rfl ?_
      refine WD.skip (i:=5) (d:=27) (by kernel_rfl) rfl (z6 (by kernel_rfl)) (z7 (by kernel_rfl)) rfl rfl rfl ?_
      refine WD.skip (i:=6) (d:=28) (by kernel_rfl) rfl (z6 (by kernel_rfl)) (z7 (by kernel_rfl)) rfl rfl rfl ?_
      refine WD.skip (i:=7) (d:=29) (by kernel_rfl) rfl (z6 (by kernel_rfl)) (z7 (by kernel_rfl)) rfl rfl rfl ?_
      refine WD.skip (i:=8) (d:=30) (by kernel_rfl) rfl (z6 (by kernel_rfl)) (z7 (by kernel_rfl)) rfl rfl rfl ?_
      refine WD.skip (i:=9) (d:=31) (by kernel_rfl) rfl (z6 (by kernel_rfl)) (z7 (by kernel_rfl)) rfl rfl rfl ?_
      refine WD.pure (i:=10) (d:=32) (by kernel_rfl) rfl (z6 (by kernel_rfl)) (z7 (by kernel_rfl)) rfl rfl rfl (fun _=>q_pickT rfl rfl) ?_
      refine WD.reL (.cons .here (.cons .here (.cons .here (.cons .here (.cons .here (.cons .here (.cons .here (.cons .here (.cons .here .nil))))))))) ?_ zp8
      exact (.cons rfl (.cons rfl (.cons rfl (.cons rfl (.cons rfl (.cons rfl (.cons rfl (.cons rfl (.cons rfl (.cons rfl (.cons rfl (.cons rfl (.cons rfl (.cons rfl (.cons (zp (Eq.symm zlb)) (.cons (zp zlc) .nil))))))))))))))))
     ·have zld:=hb'; clear hb'
      have zcc:=ite_f zp7 zld
      obtain ⟨zf5,zcc⟩:=chk_elim zcc
      obtain ⟨zl4,zvK,zcc⟩:=ze zcc
      replace zcc:=Option.some.inj zcc
      refine WD.pin (i:=25) rfl zld ?_
      refine WD.quiet (i:=4) (d:=26) (by kernel_rfl) rfl (z6 (by kernel_rfl)) (z7 (by kernel_rfl)) rfl rfl rfl (q_loadA (cs:=[(.int .i64 z3d.1.fN),(.int .i64 z3d.1.fD)]) aggT_30 rfl rfl (rd_all .here)) ?_
      refine WD.quiet (i:=5) (d:=27) (by kernel_rfl) rfl (z6 (by kernel_rfl)) (z7 (by kernel_rfl)) rfl rfl rfl (q_load1 oneT_77 rfl (rd_stb (.there (.there (.there (.there (.there .here))))) rfl)) ?_
      refine WD.know (fun w hw=>Hp.expose (.there (.there (.there (.there (.there (.there .here)))))) hw (by intro hz'; have:=zf5; rw [hz'] at this; omega)) ?_
      rintro ⟨zgY,rfl⟩
      refine WD.pure (i:=6) (d:=28) (by kernel_rfl) rfl (z6 (by kernel_rfl)) (z7 (by kernel_rfl)) rfl rfl rfl (fun _=>q_indexAddr elT_77 rfl rfl zf5.1 zf5.2 rowAdd) ?_
      refine WD.quiet (i:=7) (d:=29) (by kernel_rfl) rfl (z6 (by kernel_rfl)) (z7 (by kernel_rfl)) rfl rfl rfl (q_loadA (cs:=(e30 (nth z29 0))) aggT_30 rfl rfl (rd_rows (.there (.there (.there (.there (.there (.there .here)))))) (flat_rd (enc:=e30) (l:=z29) (i:=0) (sz:=2) (fun _=>rfl) zf5.1 zf5.2))) ?_
      refine WD.enter (i:=8) (d:=30) (by kernel_rfl) rfl (z6 (by kernel_rfl)) (z7 (by kernel_rfl)) rfl rfl rfl (zn (l:=[.tmp 26,.tmp 29]) Try.call18 (.cons rfl (.cons rfl .nil))) (fun w hw=>by have pz:=(hz.call2 hw (.nil : Sel [stb zla 30 [(.int .i64 z3d.1.fN),(.int .i64 z3d.1.fD)],stb z2U 98 [(.int .i64 z3d.2.fE)],blk z3N (z44 .busy none),stb za0 30 [(.int .i64 z37.fN),(.int .i64 z37.fD)],fz [],stb z30 77 [(.slice (some ⟨zgY,0,none⟩) z29.length z4M)],row (.slice (some ⟨zgY,0,none⟩) z29.length z4M) 30 2 (z29.flatMap e30),stb z2T 30 [(.int .i64 0),(.int .i64 0)],stb z2Q 79 [(.slice z1M z1v.length z1N),(.int .i64 zl.fRate.fN),(.int .i64 zl.fRate.fD),(.int .i64 zl.fLatency.fN),(.int .i64 zl.fLatency.fD),(.func (.func 37) #[] #[(.pointer (some z1D)),(.pointer (some z1E))]),(.slice z1O z1w.length z1P)]] [] [stb zla 30 [(.int .i64 z3d.1.fN),(.int .i64 z3d.1.fD)],stb z2U 98 [(.int .i64 z3d.2.fE)],blk z3N (z44 .busy none),stb za0 30 [(.int .i64 z37.fN),(.int .i64 z37.fD)],fz [],stb z30 77 [(.slice (some ⟨zgY,0,none⟩) z29.length z4M)],row (.slice (some ⟨zgY,0,none⟩) z29.length z4M) 30 2 (z29.flatMap e30),stb z2T 30 [(.int .i64 0),(.int .i64 0)],stb z2Q 79 [(.slice z1M z1v.length z1N),(.int .i64 zl.fRate.fN),(.int .i64 zl.fRate.fD),(.int .i64 zl.fLatency.fN),(.int .i64 zl.fLatency.fD),(.func (.func 37) #[] #[(.pointer (some z1D)),(.pointer (some z1E))]),(.slice z1O z1w.length z1P)]]) (.there (.there (.there (.there .here))))); exact w_rat_Cmp (Z:=_)  (z21:=z3d.1) (z23:=(⟨((nth z29 0).fN),((nth z29 0).fD)⟩ : z2)) (r:=zl4) w pz  zvK) ?_
      refine WD.pure (i:=9) (d:=31) (by kernel_rfl) rfl (z6 (by kernel_rfl)) (z7 (by kernel_rfl)) rfl rfl rfl (fun _=>q_gtr rfl rfl) ?_
      refine WD.pure (i:=10) (d:=32) (by kernel_rfl) rfl (z6 (by kernel_rfl)) (z7 (by kernel_rfl)) rfl rfl rfl (fun _=>q_pickF rfl rfl) ?_
      refine WD.reL (.cons .here (.cons .here (.cons .here (.cons .here (.cons .here (.cons .here (.cons .here (.cons .here (.cons .here .nil))))))))) ?_ zp8
      exact (.cons rfl (.cons rfl (.cons rfl (.cons rfl (.cons rfl (.cons rfl (.cons rfl (.cons rfl (.cons rfl (.cons rfl (.cons rfl (.cons rfl (.cons rfl (.cons rfl (.cons (zp (Eq.symm zld)) (.cons (zp zcc) .nil))))))))))))))))
    refine WD.done (by kernel_rfl) ?_
    refine WX.then ?_
    refine WC.cond rfl (fun zle=>?_) (fun zle=>?_)
    ·replace z7q:=ite_t z7q zle
     refine WC.region ?_
     refine WL.quiet (d:=33) rfl rfl rfl (q_loadA (cs:=[(.int .i64 z3d.1.fN),(.int .i64 z3d.1.fD)]) aggT_30 rfl rfl (rd_all .here)) ?_
     refine WL.new (dd:=34) rfl rfl rfl (e_buildSlice (cs:=([z3d.1] : List z2).flatMap e30) elT_77 (Eos.parts (l:=[.tmp 33]) (.cons rfl .nil) [0]) (fun _=>by kernel_rfl) rfl (by unfold maxLen; omega)) ?_
     intro zf6 _
     refine WL.eff0 rfl rfl (e_store (vs:=[(.slice (some ⟨zf6,0,none⟩) (([z3d.1] : List z2).length) 1)]) (ds:=[(.slice (some ⟨zf6,0,none⟩) (([z3d.1] : List z2).length) 1)]) sizT_77 rfl rfl rfl rfl (oc_cons rfl oc_nil) (.there (.there (.there (.there (.there (.there .here)))))) (Nat.le_of_ble_eq_true rfl) rfl) ?_
     refine WL.nil ?_
     refine WX.blockNormal ?_
     obtain ⟨rfl,rfl⟩:=rf_inj z7q
     exact WX.rNormal zgX (.there (.there (.there (.there .here)))) (fun w' hw'=>⟨((some ⟨zf6,0,none⟩),1),rfl,trivial,(hw'.selAll ((.cons (.there (.there (.there (.there (.there (.there .here)))))) (.cons (.there .here) (.cons (.there .here) (.cons (.there (.there .here)) (.cons (.there (.there (.there (.there .here)))) (.cons (.there (.there (.there (.there .here)))) (.cons .here .nil))))))) : Sel _ [fz [],stb z30 77 [(.slice (some ⟨zf6,0,none⟩) (([z3d.1] : List z2).length) 1)],row (.slice (some ⟨zf6,0,none⟩) (([z3d.1] : List z2).length) 1) 30 2 (([z3d.1] : List z2).flatMap e30),stb z2U 98 [(.int .i64 z3d.2.fE)],stb z2T 30 [(.int .i64 0),(.int .i64 0)],stb z2Q 79 [(.slice z1M z1v.length z1N),(.int .i64 zl.fRate.fN),(.int .i64 zl.fRate.fD),(.int .i64 zl.fLatency.fN),(.int .i64 zl.fLatency.fD),(.func (.func 37) #[] #[(.pointer (some z1D)),(.pointer (some z1E))]),(.slice z1O z1w.length z1P)],blk z3N (z44 .ready none)] _)).sub (.cons .here .nil)⟩)
    ·replace z7q:=ite_f z7q zle
     refine WC.skip ?_
     refine WX.blockNormal ?_
     obtain ⟨rfl,rfl⟩:=rf_inj z7q
     exact WX.rNormal zgX (.there (.there .here)) (fun w' hw'=>⟨(z5T,z4M),rfl,trivial,(hw'.selAll ((.cons (.there (.there (.there (.there .here)))) (.cons (.there (.there (.there (.there .here)))) (.cons (.there (.there (.there (.there .here)))) (.cons (.there (.there .here)) (.cons (.there (.there (.there .here))) (.cons (.there (.there (.there .here))) (.cons .here .nil))))))) : Sel _ [fz [],stb z30 77 [(.slice z5T z29.length z4M)],row (.slice z5T z29.length z4M) 30 2 (z29.flatMap e30),stb z2U 98 [(.int .i64 z3d.2.fE)],stb z2T 30 [(.int .i64 0),(.int .i64 0)],stb z2Q 79 [(.slice z1M z1v.length z1N),(.int .i64 zl.fRate.fN),(.int .i64 zl.fRate.fD),(.int .i64 zl.fLatency.fN),(.int .i64 zl.fLatency.fD),(.func (.func 37) #[] #[(.pointer (some z1D)),(.pointer (some z1E))]),(.slice z1O z1w.length z1P)],blk z3N (z44 .ready none)] _)).sub (.cons .here .nil)⟩)
   ·skip
    rintro _ w' ⟨zvL,⟨zf7,zf8⟩,rfl,_,hp⟩
    have hp1:=hw1.call ((.cons .here .nil) : Sel [allA [fz [],stb z30 77 [(.slice none (([] : List z2).length) 0)],row (.slice none (([] : List z2).length) 0) 30 2 (([] : List z2).flatMap e30),stb z2U 98 [(.int .i64 0)],stb z2T 30 [(.int .i64 0),(.int .i64 0)],stb z2Q 79 [(.slice z1M z1v.length z1N),(.int .i64 zl.fRate.fN),(.int .i64 zl.fRate.fD),(.int .i64 zl.fLatency.fN),(.int .i64 zl.fLatency.fD),(.func (.func 37) #[] #[(.pointer (some z1D)),(.pointer (some z1E))]),(.slice z1O z1w.length z1P)],blk z3N (z44 .ready none)],dfr z74,stb z5S 79 [(.slice z1M z1v.length z1N),(.int .i64 z1a.1),(.int .i64 z1a.2.1),(.int .i64 z1a.2.2.1),(.int .i64 z1a.2.2.2),(.func (.func 37) #[] #[(.pointer (some z1D)),(.pointer (some z1E))]),(.slice z1O z1w.length z1P)],fz ([] ++ z5r)] [allA [fz [],stb z30 77 [(.slice none (([] : List z2).length) 0)],row (.slice none (([] : List z2).length) 0) 30 2 (([] : List z2).flatMap e30),stb z2U 98 [(.int .i64 0)],stb z2T 30 [(.int .i64 0),(.int .i64 0)],stb z2Q 79 [(.slice z1M z1v.length z1N),(.int .i64 zl.fRate.fN),(.int .i64 zl.fRate.fD),(.int .i64 zl.fLatency.fN),(.int .i64 zl.fLatency.fD),(.func (.func 37) #[] #[(.pointer (some z1D)),(.pointer (some z1E))]),(.slice z1O z1w.length z1P)],blk z3N (z44 .ready none)]] [dfr z74,stb z5S 79 [(.slice z1M z1v.length z1N),(.int .i64 z1a.1),(.int .i64 z1a.2.1),(.int .i64 z1a.2.2.1),(.int .i64 z1a.2.2.2),(.func (.func 37) #[] #[(.pointer (some z1D)),(.pointer (some z1E))]),(.slice z1O z1w.length z1P)],fz ([] ++ z5r)]) hp
    have hp2 : Hp _ _ w' [fz [],stb z30 77 [(.slice zf7 z5q.2.1.length zf8)],row (.slice zf7 z5q.2.1.length zf8) 30 2 (z5q.2.1.flatMap e30),stb z2U 98 [(.int .i64 z5q.2.2)],stb z2T 30 [(.int .i64 0),(.int .i64 0)],stb z2Q 79 [(.slice z1M z1v.length z1N),(.int .i64 zl.fRate.fN),(.int .i64 zl.fRate.fD),(.int .i64 zl.fLatency.fN),(.int .i64 zl.fLatency.fD),(.func (.func 37) #[] #[(.pointer (some z1D)),(.pointer (some z1E))]),(.slice z1O z1w.length z1P)],blk z3N (z44 (rdy (pcs [] z5q.1)) (pcs [] z5q.1)),fz zvL,dfr z74,stb z5S 79 [(.slice z1M z1v.length z1N),(.int .i64 z1a.1),(.int .i64 z1a.2.1),(.int .i64 z1a.2.2.1),(.int .i64 z1a.2.2.2),(.func (.func 37) #[] #[(.pointer (some z1D)),(.pointer (some z1E))]),(.slice z1O z1w.length z1P)],fz ([] ++ z5r)]:=hp1.pickAll (.there .here)
    refine ⟨_,pcs [] z5q.1,_,rfl,(hp2.sub ((.cons (.there (.there (.there (.there (.there (.there .here)))))) (.cons .here (.cons .here (.cons .here (.cons .here (.cons .here (.cons .here (.cons (.there .here) (.cons (.there .here) (.cons (.there .here) .nil)))))))))) : Sel _ [blk z3N (z44 (rdy (pcs [] z5q.1)) (pcs [] z5q.1)),fz [],stb z30 77 [(.slice zf7 z5q.2.1.length zf8)],row (.slice zf7 z5q.2.1.length zf8) 30 2 (z5q.2.1.flatMap e30),stb z2U 98 [(.int .i64 z5q.2.2)],stb z2T 30 [(.int .i64 0),(.int .i64 0)],stb z2Q 79 [(.slice z1M z1v.length z1N),(.int .i64 zl.fRate.fN),(.int .i64 zl.fRate.fD),(.int .i64 zl.fLatency.fN),(.int .i64 zl.fLatency.fD),(.func (.func 37) #[] #[(.pointer (some z1D)),(.pointer (some z1E))]),(.slice z1O z1w.length z1P)],dfr z74,stb z5S 79 [(.slice z1M z1v.length z1N),(.int .i64 z1a.1),(.int .i64 z1a.2.1),(.int .i64 z1a.2.2.1),(.int .i64 z1a.2.2.2),(.func (.func 37) #[] #[(.pointer (some z1D)),(.pointer (some z1E))]),(.slice z1O z1w.length z1P)],fz ([] ++ z5r)] _)),?_⟩
    clear hp hp1 hp2 pz hw hw1
    refine wjN ?_
    letI : Rnd:=aft z74
    refine WX.merge .here (.there (.there (.there (.there (.there (.there (.there .here))))))) ?_
    refine WX.blockNormal ?_
    exact WX.midR (D:=fun (g : Nat × Int × List z2 × Zp × Option Addr × Nat)=>g.1) (G:=Nat × Int × List z2 × Zp × Option Addr × Nat) ⟨z74,z5q.2.2,z5q.2.1,(([] ++ z5r) ++ []),zf7,zf8⟩ ⟨h,((Zle.left _ _).trans (Zle.assoc _ _ _))⟩ (.cons rfl (.cons rfl (.cons rfl .nil))) (.cons .here (.cons (.there (.there (.there .here))) (.cons (.there (.there .here)) (.cons .here (.cons .here (.cons (.there .here) .nil))))))
  ·rintro zf2 z8V z5R zcb zf3 zf4 ⟨h,zz1⟩
   replace h:=(zvB z8V z5R).symm.trans h
   letI : Rnd:=aft zf2
   refine WC.seq ?_
   refine WC.seq ?_
   refine WC.region ?_
   refine WL.quiet (d:=35) rfl rfl rfl (q_fieldAddr fo_98_0 rfl rfl) ?_
   refine WL.quiet (d:=36) rfl rfl rfl (q_load1 oneT_31 rfl (rd_stb (.there (.there .here)) rfl)) ?_
   refine WL.quiet (d:=37) rfl rfl rfl (q_neq rfl rfl) ?_
   refine WL.nil ?_
   refine WX.then ?_
   refine WC.cond rfl (fun zlf=>?_) (fun zlf=>?_)
   ·replace h:=ite_t h zlf
    refine WC.seq ?_
    refine WC.draw (fun i=>[3].contains i) [stbp z2U 98 [(0,(.int .i64 z8V))]] rfl ?_
    refine WD.quiet (i:=0) (d:=38) (by kernel_rfl) rfl (z6 (by kernel_rfl)) (z7 (by kernel_rfl)) rfl rfl rfl (q_build (v:=(.agg #[(.int .i64 0),(.int .i64 0)])) (Eos.parts (l:=[]) .nil []) (fun _=>by kernel_rfl)) ?_
    refine WD.pure (i:=1) (d:=39) (by kernel_rfl) rfl (z6 (by kernel_rfl)) (z7 (by kernel_rfl)) rfl rfl rfl (fun _=>q_fieldAddr fo_98_0 rfl rfl) ?_
    refine WD.stable (i:=2) (d:=40) (by kernel_rfl) rfl (z6 (by kernel_rfl)) (z7 (by kernel_rfl)) rfl rfl rfl (Sin.wk (.cons (.there (.there .here)) .nil) (.stb (.cons rfl .nil) .nil)) (q_load1 oneT_31 rfl (rd_stbp .here (.head _))) ?_
    refine WD.forced0 (i:=3) rfl (by kernel_rfl) rfl rfl rfl (Sin.wk (.cons (.there (.there .here)) .nil) (.stb (.cons rfl .nil) .nil)) (e_store (vs:=[(.int .i64 0),(.int .i64 0)]) (ds:=[(.int .i64 0),(.int .i64 0)]) sizT_30 rfl rfl rfl rfl (oc_cons rfl (oc_cons rfl oc_nil)) (.there .here) (Nat.le_of_ble_eq_true rfl) rfl) ?_
    refine WD.pure (i:=4) (d:=3) (by kernel_rfl) rfl (z6 (by kernel_rfl)) (z7 (by kernel_rfl)) rfl rfl rfl (fun _=>q_assign rfl) ?_
    refine WD.done (by kernel_rfl) ?_
    refine WX.then ?_
    refine WC.ret ?_
    refine WX.thenRet ?_
    obtain rfl:=Option.some.inj h
    refine WX.bpRetD (.there (.there (.there (.there (.there .here))))) Try.results36 (.agg rfl aggT_30 rfl (rd_all (.there .here)) (.tmp rfl .nil)) (fun w hw=>?_)
    exact ⟨zcb,ret2 rfl rfl,trivial,hw.sub (.cons (.there (.there .here)) .nil)⟩
   ·replace h:=ite_f h zlf
    refine WC.skip ?_
    refine WX.then ?_
    refine WC.seq ?_
    obtain ⟨zf9,h⟩:=chk_elim h
    refine WC.region ?_
    refine WL.quiet (d:=41) rfl rfl rfl (q_load1 oneT_77 rfl (rd_stb (.there (.there (.there .here))) rfl)) ?_
    refine WL.know (fun w hw=>Hp.expose (.there (.there (.there (.there .here)))) hw (by intro hz'; have:=zf9; rw [hz'] at this; omega)) ?_
    rintro ⟨zz2,rfl⟩
    refine WL.quiet (d:=42) rfl rfl rfl (q_indexAddr elT_77 rfl rfl zf9.1 zf9.2 rowAdd) ?_
    refine WL.quiet (d:=43) rfl rfl rfl (q_loadA (cs:=(e30 (nth z5R 0))) aggT_30 rfl rfl (rd_rows (.there (.there (.there (.there .here)))) (flat_rd (enc:=e30) (l:=z5R) (i:=0) (sz:=2) (fun _=>rfl) zf9.1 zf9.2))) ?_
    refine WL.eff0 rfl rfl (e_store (vs:=[(.int .i64 ((nth z5R 0).fN)),(.int .i64 ((nth z5R 0).fD))]) (ds:=[(.int .i64 ((nth z5R 0).fN)),(.int .i64 ((nth z5R 0).fD))]) sizT_30 rfl rfl rfl rfl (oc_cons rfl (oc_cons rfl oc_nil)) (.there .here) (Nat.le_of_ble_eq_true rfl) rfl) ?_
    refine WL.quiet (d:=3) rfl rfl rfl (q_assign rfl) ?_
    refine WL.nil ?_
    refine WX.then ?_
    refine WC.ret ?_
    obtain rfl:=Option.some.inj h
    refine WX.bpRetD (.there (.there (.there (.there (.there .here))))) Try.results36 (.agg rfl aggT_30 rfl (rd_all (.there .here)) (.tmp rfl .nil)) (fun w hw=>?_)
    exact ⟨zcb,ret2 rfl rfl,trivial,hw.sub (.cons (.there (.there .here)) .nil)⟩
def m_calculus_Backlog (z4X : List (List z1)) (zU : Sapi_Server) : Option (z2 × Int) :=
 (m_calculus_search_maxb z4X zU z4X zU ([zU.fLatency] : List z2)).bind fun zaT=>some (zaT.1,zaT.2)
set_option maxRecDepth 20000 in
theorem w_calculus_Backlog (Z : Zp)  (z6b : Option Addr) (z6c : Nat) (z4X : List (List z1)) (zU : Sapi_Server) (r : z2 × Int) (w₀ : World) (hz : PZ [] w₀ Z)
  (zp9 : ZS Z 1 (p39 Z) z6b z6c z4X)
  (h : m_calculus_Backlog z4X zU = some r) :
  Calls Try.prog 16 #[(.slice z6b z4X.length z6c),(.agg #[(.int .i64 zU.fRate.fN),(.int .i64 zU.fRate.fD),(.int .i64 zU.fLatency.fN),(.int .i64 zU.fLatency.fD)])] w₀ fun e w'=>∃ Zn : Zp,e = .returned (.tuple #[(.agg #[(.int .i64 r.1.fN),(.int .i64 r.1.fD)]),(.int .i64 r.2)]) ∧ True ∧ Hp [] w₀ w' [fz Zn]:=by
 unfold m_calculus_Backlog at h
 refine Calls.ofWC (vs:=[(.slice z6b z4X.length z6c),(.agg #[(.int .i64 zU.fRate.fN),(.int .i64 zU.fRate.fD),(.int .i64 zU.fLatency.fN),(.int .i64 zU.fLatency.fD)])]) (pre:=[]) (env:=[(0,(.slice z6b z4X.length z6c)),(1,(.agg #[(.int .i64 zU.fRate.fN),(.int .i64 zU.fRate.fD),(.int .i64 zU.fLatency.fN),(.int .i64 zU.fLatency.fD)]))]) Try.func16 rfl Try.ntmps16 rfl (Hp.nil w₀ _) rfl ?_
 refine WC.pool ?_
 refine WC.seq ?_
 refine WC.region ?_
 refine WL.new (dd:=2) rfl rfl rfl (e_box (cs:=[(.slice z6b z4X.length z6c)]) rfl rfl) ?_
 intro zaU _
 refine WL.new (dd:=3) rfl rfl rfl (e_box (cs:=[(.int .i64 zU.fRate.fN),(.int .i64 zU.fRate.fD),(.int .i64 zU.fLatency.fN),(.int .i64 zU.fLatency.fD)]) rfl rfl) ?_
 intro zaV _
 refine WL.new (dd:=4) rfl rfl rfl (e_alloc (cs:=[(.int .i64 0),(.int .i64 0)]) zeroT_30 rfl) ?_
 intro zgZ _
 refine WL.quiet (d:=5) rfl rfl rfl (q_assign rfl) ?_
 refine WL.nil ?_
 refine WX.then ?_
 refine WC.seq ?_
 refine WC.region ?_
 refine WL.quiet (d:=7) rfl rfl rfl (q_load1 oneT_26 rfl (rd_stb (.there (.there .here)) rfl)) ?_
 refine WL.quiet (d:=8) rfl rfl rfl (q_loadA (cs:=[(.int .i64 zU.fRate.fN),(.int .i64 zU.fRate.fD),(.int .i64 zU.fLatency.fN),(.int .i64 zU.fLatency.fD)]) aggT_43 rfl rfl (rd_all (.there .here))) ?_
 refine WL.quiet (d:=9) rfl rfl rfl (q_fieldAddr fo_43_1 rfl rfl) ?_
 refine WL.quiet (d:=10) rfl rfl rfl (q_loadA (cs:=[(.int .i64 zU.fLatency.fN),(.int .i64 zU.fLatency.fD)]) aggT_30 rfl rfl (rd_sub (s:=2) (.there .here) rfl)) ?_
 refine WL.new (dd:=11) rfl rfl rfl (e_buildSlice (cs:=([zU.fLatency] : List z2).flatMap e30) elT_77 (Eos.parts (l:=[.tmp 10]) (.cons rfl .nil) [0]) (fun _=>by kernel_rfl) rfl (by unfold maxLen; omega)) ?_
 intro z8W _
 refine WL.quiet (d:=12) rfl rfl rfl (q_build (v:=(.agg #[(.slice z6b z4X.length z6c),(.int .i64 zU.fRate.fN),(.int .i64 zU.fRate.fD),(.int .i64 zU.fLatency.fN),(.int .i64 zU.fLatency.fD),.nilFunc,(.slice (some ⟨z8W,0,none⟩) (([zU.fLatency] : List z2).length) 1)])) (Eos.parts (l:=[.tmp 7,.tmp 8,.tmp 11]) (.cons rfl (.cons rfl (.cons rfl .nil))) [0,1,3]) (fun _=>by kernel_rfl)) ?_
 refine WL.new (dd:=6) rfl rfl rfl (e_alloc (cs:=[(.slice none 0 0),(.int .i64 0),(.int .i64 0),(.int .i64 0),(.int .i64 0),.nilFunc,(.slice none 0 0)]) zeroT_79 rfl) ?_
 intro zh0 _
 refine WL.eff0 rfl rfl (e_store (vs:=[(.slice z6b z4X.length z6c),(.int .i64 zU.fRate.fN),(.int .i64 zU.fRate.fD),(.int .i64 zU.fLatency.fN),(.int .i64 zU.fLatency.fD),.nilFunc,(.slice (some ⟨z8W,0,none⟩) (([zU.fLatency] : List z2).length) 1)]) (ds:=[(.slice z6b z4X.length z6c),(.int .i64 zU.fRate.fN),(.int .i64 zU.fRate.fD),(.int .i64 zU.fLatency.fN),(.int .i64 zU.fLatency.fD),.nilFunc,(.slice (some ⟨z8W,0,none⟩) (([zU.fLatency] : List z2).length) 1)]) sizT_79 rfl rfl rfl rfl (oc_cons rfl (oc_cons rfl (oc_cons rfl (oc_cons rfl (oc_cons rfl (oc_cons rfl (oc_cons rfl oc_nil))))))) .here (Nat.le_of_ble_eq_true rfl) rfl) ?_
 refine WL.nil ?_
 refine WX.then ?_
 refine WC.seq ?_
 refine WC.region ?_
 refine WL.quiet (d:=13) rfl rfl rfl (q_makeFunc (Eos.caps (l:=[.tmp 2,.tmp 3]) (.cons rfl (.cons rfl .nil)))) ?_
 refine WL.quiet (d:=14) rfl rfl rfl (q_fieldAddr fo_79_2 rfl rfl) ?_
 refine WL.eff0 rfl rfl (e_store (vs:=[(.func (.func 37) #[] #[(.pointer (some ⟨zaU,0,none⟩)),(.pointer (some ⟨zaV,0,none⟩))])]) (ds:=[(.slice z6b z4X.length z6c),(.int .i64 zU.fRate.fN),(.int .i64 zU.fRate.fD),(.int .i64 zU.fLatency.fN),(.int .i64 zU.fLatency.fD),(.func (.func 37) #[] #[(.pointer (some ⟨zaU,0,none⟩)),(.pointer (some ⟨zaV,0,none⟩))]),(.slice (some ⟨z8W,0,none⟩) (([zU.fLatency] : List z2).length) 1)]) sizT_76 rfl rfl rfl rfl (oc_cons rfl oc_nil) .here (Nat.le_of_ble_eq_true rfl) rfl) ?_
 refine WL.nil ?_
 refine WX.then ?_
 refine WC.seq ?_
 obtain ⟨zaT,zvM,h⟩:=ze h
 refine WC.region ?_
 refine WL.quiet (d:=15) rfl rfl rfl (q_loadA (cs:=[(.slice z6b z4X.length z6c),(.int .i64 zU.fRate.fN),(.int .i64 zU.fRate.fD),(.int .i64 zU.fLatency.fN),(.int .i64 zU.fLatency.fD),(.func (.func 37) #[] #[(.pointer (some ⟨zaU,0,none⟩)),(.pointer (some ⟨zaV,0,none⟩))]),(.slice (some ⟨z8W,0,none⟩) (([zU.fLatency] : List z2).length) 1)]) aggT_79 rfl rfl (rd_all .here)) ?_
 refine WL.freezeC (Z:=Z) (.there (.there (.there (.there .here)))) (.there (.there (.there (.there .here)))) ?_
 intro zz3 zh1 zvN
 refine WL.freezeC (Z:=Z) (.there (.there (.there (.there .here)))) .here ?_
 intro zz4 zfa zvO
 refine WL.freezeS (ls:=([zU.fLatency] : List z2)) (.there (.there .here)) .here hz (RR.flat (enc:=e30) (fun _=>rfl) _) ?_
 intro zfb zdw zvP
 refine WL.enter1 (dd:=16) rfl rfl rfl (zn (l:=[.tmp 15]) Try.call36 (.cons rfl .nil)) (.nil : Sel [fz zfb,stb zh0 79 [(.slice z6b z4X.length z6c),(.int .i64 zU.fRate.fN),(.int .i64 zU.fRate.fD),(.int .i64 zU.fLatency.fN),(.int .i64 zU.fLatency.fD),(.func (.func 37) #[] #[(.pointer (some ⟨zaU,0,none⟩)),(.pointer (some ⟨zaV,0,none⟩))]),(.slice (some ⟨z8W,0,none⟩) (([zU.fLatency] : List z2).length) 1)],stb zgZ 30 [(.int .i64 0),(.int .i64 0)]] [] [fz zfb,stb zh0 79 [(.slice z6b z4X.length z6c),(.int .i64 zU.fRate.fN),(.int .i64 zU.fRate.fD),(.int .i64 zU.fLatency.fN),(.int .i64 zU.fLatency.fD),(.func (.func 37) #[] #[(.pointer (some ⟨zaU,0,none⟩)),(.pointer (some ⟨zaV,0,none⟩))]),(.slice (some ⟨z8W,0,none⟩) (([zU.fLatency] : List z2).length) 1)],stb zgZ 30 [(.int .i64 0),(.int .i64 0)]]) (fun w hw=>by have pz:=(hz.call2 hw (.nil : Sel [fz zfb,stb zh0 79 [(.slice z6b z4X.length z6c),(.int .i64 zU.fRate.fN),(.int .i64 zU.fRate.fD),(.int .i64 zU.fLatency.fN),(.int .i64 zU.fLatency.fD),(.func (.func 37) #[] #[(.pointer (some ⟨zaU,0,none⟩)),(.pointer (some ⟨zaV,0,none⟩))]),(.slice (some ⟨z8W,0,none⟩) (([zU.fLatency] : List z2).length) 1)],stb zgZ 30 [(.int .i64 0),(.int .i64 0)]] [] [fz zfb,stb zh0 79 [(.slice z6b z4X.length z6c),(.int .i64 zU.fRate.fN),(.int .i64 zU.fRate.fD),(.int .i64 zU.fLatency.fN),(.int .i64 zU.fLatency.fD),(.func (.func 37) #[] #[(.pointer (some ⟨zaU,0,none⟩)),(.pointer (some ⟨zaV,0,none⟩))]),(.slice (some ⟨z8W,0,none⟩) (([zU.fLatency] : List z2).length) 1)],stb zgZ 30 [(.int .i64 0),(.int .i64 0)]]) .here); exact w_calculus_search_maxb (Z:=_) (z1M:=z6b) (z1N:=z6c) (z1D:=⟨zaU,0,none⟩) (zc9:=z6b) (zca:=z6c) (z1E:=⟨zaV,0,none⟩) (z1O:=(some ⟨z8W,0,none⟩)) (z1P:=1) (z1v:=z4X) (zl:=zU) (z6a:=z4X) (z5p:=zU) (z1w:=([zU.fLatency] : List z2)) (r:=zaT) w pz ((zp9.mono ((Zle.left _ _).trans (zh1.trans (zfa.trans zdw)))).weak (fun _ _ h=>p39_mono ((Zle.left _ _).trans (zh1.trans (zfa.trans zdw))) h)) ((zp9.mono ((Zle.left _ _).trans (zh1.trans (zfa.trans zdw)))).weak (fun _ _ h=>p39_mono ((Zle.left _ _).trans (zh1.trans (zfa.trans zdw))) h)) (zvN.mono (zfa.trans zdw)) (zvO.mono zdw) zvP zvM) ?_
 rintro zvQ _
 refine WL.merge .here .here ?_
 refine WL.quiet (d:=17) rfl rfl rfl (q_extract rfl rfl) ?_
 refine WL.quiet (d:=18) rfl rfl rfl (q_extract rfl rfl) ?_
 refine WL.eff0 rfl rfl (e_store (vs:=[(.int .i64 zaT.1.fN),(.int .i64 zaT.1.fD)]) (ds:=[(.int .i64 zaT.1.fN),(.int .i64 zaT.1.fD)]) sizT_30 rfl rfl rfl rfl (oc_cons rfl (oc_cons rfl oc_nil)) (.there (.there .here)) (Nat.le_of_ble_eq_true rfl) rfl) ?_
 refine WL.quiet (d:=5) rfl rfl rfl (q_assign rfl) ?_
 refine WL.nil ?_
 refine WX.then ?_
 refine WC.ret ?_
 obtain rfl:=Option.some.inj h
 refine WX.bpRet Try.results16 (.agg rfl aggT_30 rfl (rd_all .here) (.tmp rfl .nil)) (fun w hw=>?_)
 exact ⟨(zfb ++ zvQ),ret2 rfl rfl,trivial,hw.sub (.cons (.there .here) .nil)⟩
def m_calculus_Conforms_L4 (zN : List Sapi_Sent) (z14 : Int) (z3h : List z1) (za1 : Bool → Option (Bool × Int)) : Nat → Bool → Int → Int → Option (Bool × Int)
 | 0,_,_,_=>none
 | zlg + 1,z75,z6K,z1U=>if decide (z1U < (((zN.drop (z14 : Int).toNat).length : Nat) : Int)) then chk ((0 : Int) ≤ z1U ∧ z1U < (((zN.drop (z14 : Int).toNat).length : Nat) : Int)) (chk ((0 : Int) ≤ z14 ∧ z14 < ((zN.length : Nat) : Int)) ((m_curve_At z3h (⟨i64 (((nth (zN.drop (z14 : Int).toNat) z1U).fTime) - ((nth zN z14).fTime)),1⟩ : z2)).bind fun z4N=>if decide (z4N.2 ≠ 0) then some (false,z4N.2) else (if z75 then (m_rat_Cmp (⟨i64 (z6K + ((nth (zN.drop (z14 : Int).toNat) z1U).fSize)),1⟩ : z2) z4N.1).bind fun zlh=>some (decide (zlh ≤ 0)) else some false).bind fun zh2=>m_calculus_Conforms_L4 zN z14 z3h za1 zlg zh2 (i64 (z6K + ((nth (zN.drop (z14 : Int).toNat) z1U).fSize))) (i64 (z1U + 1)))) else za1 z75
theorem m_calculus_Conforms_L4_fuel {n : Nat} {zN : List Sapi_Sent} {z14 : Int} {z3h : List z1} {za1 : Bool → Option (Bool × Int)} {z75 : Bool} {z6K : Int} {z1U : Int} {r : Bool × Int} (h : m_calculus_Conforms_L4 zN z14 z3h za1 n z75 z6K z1U = some r) : ∃ m,n = m + 1:=by
 cases n with
 | zero=>cases h
 | succ m=>exact ⟨m,rfl⟩
def m_calculus_Conforms_L3 (zN : List Sapi_Sent) (z3h : List z1) (za2 : Bool → Option (Bool × Int)) : Nat → Bool → Int → Option (Bool × Int)
 | 0,_,_=>none
 | zli + 1,z7r,z14=>if decide (z14 < ((zN.length : Nat) : Int)) then jp1 (fun (za3 : Bool)=>m_calculus_Conforms_L3 zN z3h za2 zli za3 (i64 (z14 + 1))) fun zlj=>chk ((0 : Int) ≤ z14 ∧ (z14 : Int) ≤ (zN.length : Int) ∧ (zN.length : Int) ≤ ((zN.length : Nat) : Int)) (jp1 (fun (za4 : Bool)=>zlj za4) fun za1=>m_calculus_Conforms_L4 zN z14 z3h za1 FUEL z7r 0 0) else za2 z7r
theorem m_calculus_Conforms_L3_fuel {n : Nat} {zN : List Sapi_Sent} {z3h : List z1} {za2 : Bool → Option (Bool × Int)} {z7r : Bool} {z14 : Int} {r : Bool × Int} (h : m_calculus_Conforms_L3 zN z3h za2 n z7r z14 = some r) : ∃ m,n = m + 1:=by
 cases n with
 | zero=>cases h
 | succ m=>exact ⟨m,rfl⟩
def m_calculus_Conforms (z3h : List z1) (zN : List Sapi_Sent) : Option (Bool × Int) :=
 (m_curve_Valid z3h).bind fun zh3=>(if !zh3 then some true else (m_calculus_frames zN).bind fun zlk=>some (!zlk)).bind fun zll=>if zll then some (false,2) else jp1 (fun (zaW : Bool)=>some (zaW,0)) fun za2=>m_calculus_Conforms_L3 zN z3h za2 FUEL true 0
set_option maxRecDepth 20000 in
theorem w_calculus_Conforms (Z : Zp)  (z78 : Option Addr) (z79 : Nat) (z7s : Option Addr) (z7t : Nat) (z3h : List z1) (zN : List Sapi_Sent) (r : Bool × Int) (w₀ : World) (hz : PZ [] w₀ Z)
  (zpa : ZS Z 4 (fun r x=>r = e35 x) z78 z79 z3h)
  (zlm : ZS Z 3 (fun r x=>r = e51 x) z7s z7t zN)
  (h : m_calculus_Conforms z3h zN = some r) :
  Calls Try.prog 12 #[(.slice z78 z3h.length z79),(.slice z7s zN.length z7t)] w₀ fun e w'=>e = .returned (.tuple #[(.bool r.1),(.int .i64 r.2)]) ∧ Hp [] w₀ w' []:=by
 unfold m_calculus_Conforms at h
 refine Calls.ofWC (vs:=[(.slice z78 z3h.length z79),(.slice z7s zN.length z7t)]) (pre:=[]) (env:=[(0,(.slice z78 z3h.length z79)),(1,(.slice z7s zN.length z7t))]) Try.func12 rfl Try.ntmps12 rfl (Hp.nil w₀ _) rfl ?_
 refine WC.seq ?_
 refine WC.region ?_
 refine WL.quiet (d:=4) rfl rfl rfl (q_assign rfl) ?_
 refine WL.quiet (d:=5) rfl rfl rfl (q_assign rfl) ?_
 refine WL.nil ?_
 refine WX.then ?_
 refine WC.seq ?_
 refine WC.seq ?_
 obtain ⟨zh3,zvR,h⟩:=ze h
 obtain ⟨zll,zpb,h⟩:=ze h
 refine WC.region ?_
 refine WL.quiet (d:=13) rfl rfl rfl (q_move rfl) ?_
 refine WL.callD (dd:=14) rfl rfl rfl (zn (l:=[.tmp 13]) Try.call30 (.cons rfl .nil)) (.nil : Sel [] [] []) (fun w hw=>by have pz:=(hz.call hw (.nil : Sel [] [] [])); exact w_curve_Valid (Z:=_) (z82:=z78) (z83:=z79) (z4P:=z3h) (r:=zh3) w pz zpa zvR) ?_
 refine WL.quiet (d:=15) rfl rfl rfl (q_not rfl) ?_
 refine WL.quiet (d:=16) rfl rfl rfl (q_move rfl) ?_
 refine WL.cut0 True [(0,(.slice z78 z3h.length z79)),(1,(.slice z7s zN.length z7t)),(20,(.bool zll))] [] 4 ?_ (fun _=>?_)
 ·rcases Bool.eq_false_or_eq_true (!zh3) with hb' | hb'
  ·have zpc:=hb'; clear hb'
   have zln:=ite_t zpb zpc
   replace zln:=Option.some.inj zln
   refine WL.pin (i:=16) rfl zpc ?_
   refine WL.skip rfl rfl rfl ?_
   refine WL.skip rfl rfl rfl ?_
   refine WL.skip rfl rfl rfl ?_
   refine WL.quiet (d:=20) rfl rfl rfl (q_pickT rfl rfl) ?_
   exact WL.cutEnd () trivial (.cons rfl (.cons rfl (.cons (zp zln) .nil))) .nil
  ·have zpd:=hb'; clear hb'
   have zfc:=ite_f zpb zpd
   obtain ⟨zlk,zvS,zfc⟩:=ze zfc
   replace zfc:=Option.some.inj zfc
   refine WL.pin (i:=16) rfl zpd ?_
   refine WL.quiet (d:=17) rfl rfl rfl (q_move rfl) ?_
   refine WL.callD (dd:=18) rfl rfl rfl (zn (l:=[.tmp 17]) Try.call31 (.cons rfl .nil)) (.nil : Sel [] [] []) (fun w hw=>by have pz:=(hz.call hw (.nil : Sel [] [] [])); exact w_calculus_frames (Z:=_) (z57:=z7s) (z58:=z7t) (zL:=zN) (r:=zlk) w pz zlm zvS) ?_
   refine WL.quiet (d:=19) rfl rfl rfl (q_not rfl) ?_
   refine WL.quiet (d:=20) rfl rfl rfl (q_pickF rfl rfl) ?_
   exact WL.cutEnd () trivial (.cons rfl (.cons rfl (.cons (zp zfc) .nil))) .nil
 ·skip
  refine WL.nil ?_
  refine WX.then ?_
  refine WC.cond rfl (fun zlo=>?_) (fun zlo=>?_)
  ·replace h:=ite_t h zlo
   refine WC.seq ?_
   refine WC.region ?_
   refine WL.quiet (d:=4) rfl rfl rfl (q_assign rfl) ?_
   refine WL.quiet (d:=5) rfl rfl rfl (q_assign rfl) ?_
   refine WL.nil ?_
   refine WX.then ?_
   refine WC.ret ?_
   refine WX.thenRet ?_
   obtain rfl:=Option.some.inj h
   refine WX.bpRet Try.results12 (.tmp rfl (.tmp rfl .nil)) (fun w hw=>?_)
   exact ⟨ret2 rfl rfl,hw.sub .nil⟩
  ·replace h:=ite_f h zlo
   refine WC.skip ?_
   refine WX.then ?_
   refine WC.seq ?_
   refine WC.region ?_
   refine WL.quiet (d:=6) rfl rfl rfl (q_assign rfl) ?_
   refine WL.nil ?_
   refine WX.then ?_
   obtain ⟨za2,zvT,h⟩:=jp1_elim h
   refine WC.seqMid1 (fun (zaW : Bool)=>(za2 zaW = some r)) (fun (zaW : Bool)=>[(6,(.bool zaW))]) (fun (zaW : Bool)=>[]) ?_ ?_
   ·skip
    refine WC.seq ?_
    refine WC.region ?_
    refine WL.quiet (d:=21) rfl rfl rfl (q_move rfl) ?_
    refine WL.quiet (d:=22) rfl rfl rfl (q_len Try.underlying24 rfl) ?_
    refine WL.quiet (d:=23) rfl rfl rfl (q_move rfl) ?_
    refine WL.nil ?_
    refine WX.then ?_
    refine WC.block ?_
    refine WC.loop3 (fun (zdx : Nat) (z7r : Bool) (z14 : Int)=>(m_calculus_Conforms_L3 zN z3h za2 zdx z7r z14 = some r)) (fun (zdx : Nat) (z7r : Bool) (z14 : Int)=>[(0,(.slice z78 z3h.length z79)),(1,(.slice z7s zN.length z7t)),(6,(.bool z7r)),(22,(.int .i64 ((zN.length : Nat) : Int))),(23,(.int .i64 z14))]) (fun (zdx : Nat) (z7r : Bool) (z14 : Int)=>[]) (fun (zdx : Nat) (z7r : Bool) (z14 : Int)=>zdx) ⟨FUEL,true,0⟩ h (.cons rfl (.cons rfl (.cons rfl (.cons rfl (.cons rfl .nil))))) .nil ?_
    rintro zdx z7r z14 h
    obtain ⟨zli,rfl⟩:=m_calculus_Conforms_L3_fuel h
    rw [m_calculus_Conforms_L3] at h
    refine WC.seq ?_
    refine WC.region ?_
    refine WL.quiet (d:=24) rfl rfl rfl (q_lss rfl rfl) ?_
    refine WL.nil ?_
    refine WX.then ?_
    refine WC.seq ?_
    refine WC.cond rfl (fun zlp=>?_) (fun zlp=>?_)
    ·replace h:=ite_t h zlp
     refine WC.skip ?_
     refine WX.then ?_
     obtain ⟨zlj,zvU,h⟩:=jp1_elim h
     refine WC.seqMid1 (fun (za3 : Bool)=>(zlj za3 = some r)) (fun (za3 : Bool)=>[(0,(.slice z78 z3h.length z79)),(1,(.slice z7s zN.length z7t)),(6,(.bool za3)),(22,(.int .i64 ((zN.length : Nat) : Int))),(23,(.int .i64 z14))]) (fun (za3 : Bool)=>[]) ?_ ?_
     ·skip
      refine WC.block ?_
      refine WC.seq ?_
      refine WC.region ?_
      refine WL.quiet (d:=25) rfl rfl rfl (q_move rfl) ?_
      refine WL.quiet (d:=7) rfl rfl rfl (q_assign rfl) ?_
      refine WL.nil ?_
      refine WX.then ?_
      refine WC.seq ?_
      refine WC.region ?_
      refine WL.quiet (d:=8) rfl rfl rfl (q_assign rfl) ?_
      refine WL.nil ?_
      refine WX.then ?_
      refine WC.seq ?_
      obtain ⟨zvV,h⟩:=chk_elim h
      refine WC.region ?_
      refine WL.quiet (d:=26) rfl rfl rfl (q_move rfl) ?_
      refine WL.quiet (d:=27) rfl rfl rfl (q_move rfl) ?_
      refine WL.zsub (dd:=28) rfl rfl (Z:=Z) (Pr:=(fun r x=>r = e51 x)) elT_24 rfl zlm (ixo rfl) ixn rfl rfl zvV (by rw [Int.toNat_natCast,List.take_length]) ?_
      rintro zpe zpf zvW
      refine WL.quiet (d:=29) rfl rfl rfl (q_len Try.underlying24 rfl) ?_
      refine WL.quiet (d:=30) rfl rfl rfl (q_move rfl) ?_
      refine WL.nil ?_
      refine WX.then ?_
      obtain ⟨za1,zvX,h⟩:=jp1_elim h
      refine WC.mid1 (fun (za4 : Bool)=>(za1 za4 = some r)) (fun (za4 : Bool)=>[(0,(.slice z78 z3h.length z79)),(1,(.slice z7s zN.length z7t)),(6,(.bool za4)),(22,(.int .i64 ((zN.length : Nat) : Int))),(23,(.int .i64 z14))]) (fun (za4 : Bool)=>[]) ?_ ?_
      ·skip
       refine WC.block ?_
       refine WC.loop4 (fun (zdy : Nat) (z75 : Bool) (z6K : Int) (z1U : Int)=>(m_calculus_Conforms_L4 zN z14 z3h za1 zdy z75 z6K z1U = some r)) (fun (zdy : Nat) (z75 : Bool) (z6K : Int) (z1U : Int)=>[(0,(.slice z78 z3h.length z79)),(1,(.slice z7s zN.length z7t)),(6,(.bool z75)),(7,(.int .i64 z14)),(8,(.int .i64 z6K)),(22,(.int .i64 ((zN.length : Nat) : Int))),(23,(.int .i64 z14)),(28,(.slice zpe ((zN.drop (z14 : Int).toNat).length) zpf)),(29,(.int .i64 (((zN.drop (z14 : Int).toNat).length : Nat) : Int))),(30,(.int .i64 z1U))]) (fun (zdy : Nat) (z75 : Bool) (z6K : Int) (z1U : Int)=>[]) (fun (zdy : Nat) (z75 : Bool) (z6K : Int) (z1U : Int)=>zdy) ⟨FUEL,z7r,0,0⟩ h (.cons rfl (.cons rfl (.cons rfl (.cons rfl (.cons rfl (.cons rfl (.cons rfl (.cons rfl (.cons rfl (.cons rfl .nil)))))))))) .nil ?_
       rintro zdy z75 z6K z1U h
       obtain ⟨zlg,rfl⟩:=m_calculus_Conforms_L4_fuel h
       rw [m_calculus_Conforms_L4] at h
       refine WC.seq ?_
       refine WC.region ?_
       refine WL.quiet (d:=31) rfl rfl rfl (q_lss rfl rfl) ?_
       refine WL.nil ?_
       refine WX.then ?_
       refine WC.seq ?_
       refine WC.cond rfl (fun zlq=>?_) (fun zlq=>?_)
       ·replace h:=ite_t h zlq
        refine WC.skip ?_
        refine WX.then ?_
        refine WC.seq ?_
        refine WC.block ?_
        refine WC.seq ?_
        obtain ⟨zvY,h⟩:=chk_elim h
        refine WC.region ?_
        refine WL.znth (dd:=32) rfl rfl (Z:=Z) (Pr:=(fun r x=>r = e51 x)) elT_24 rfl rfl zvW zvY ?_
        rintro zz5 zz6 zvZ zz7 rfl
        refine WL.quiet (d:=33) rfl rfl rfl (q_loadA (cs:=[(.int .i64 ((nth (zN.drop (z14 : Int).toNat) z1U).fTime)),(.int .i64 ((nth (zN.drop (z14 : Int).toNat) z1U).fVL)),(.int .i64 ((nth (zN.drop (z14 : Int).toNat) z1U).fSize))]) aggT_51 rfl rfl (rd_zs hz.pv zvZ)) ?_
        refine WL.new (dd:=10) rfl rfl rfl (e_alloc (cs:=[(.int .i64 0),(.int .i64 0),(.int .i64 0)]) zeroT_51 rfl) ?_
        intro zcd _
        refine WL.eff0 rfl rfl (e_store (vs:=[(.int .i64 ((nth (zN.drop (z14 : Int).toNat) z1U).fTime)),(.int .i64 ((nth (zN.drop (z14 : Int).toNat) z1U).fVL)),(.int .i64 ((nth (zN.drop (z14 : Int).toNat) z1U).fSize))]) (ds:=[(.int .i64 ((nth (zN.drop (z14 : Int).toNat) z1U).fTime)),(.int .i64 ((nth (zN.drop (z14 : Int).toNat) z1U).fVL)),(.int .i64 ((nth (zN.drop (z14 : Int).toNat) z1U).fSize))]) sizT_51 rfl rfl rfl rfl (oc_cons rfl (oc_cons rfl (oc_cons rfl oc_nil))) .here (Nat.le_of_ble_eq_true rfl) rfl) ?_
        refine WL.nil ?_
        refine WX.then ?_
        refine WC.seq ?_
        refine WC.region ?_
        refine WL.quiet (d:=34) rfl rfl rfl (q_move rfl) ?_
        refine WL.quiet (d:=35) rfl rfl rfl (q_fieldAddr fo_51_2 rfl rfl) ?_
        refine WL.quiet (d:=36) rfl rfl rfl (q_load1 oneT_3 rfl (rd_stb .here rfl)) ?_
        refine WL.quiet (d:=37) rfl rfl rfl (q_add rfl rfl rfl) ?_
        refine WL.quiet (d:=8) rfl rfl rfl (q_assign rfl) ?_
        refine WL.nil ?_
        refine WX.then ?_
        refine WC.seq ?_
        obtain ⟨zw0,h⟩:=chk_elim h
        obtain ⟨z4N,zw1,h⟩:=ze h
        refine WC.draw (fun i=>[15].contains i) [] rfl ?_
        refine WD.pure (i:=0) (d:=39) (by kernel_rfl) rfl (z6 (by kernel_rfl)) (z7 (by kernel_rfl)) rfl rfl rfl (fun _=>q_move rfl) ?_
        refine WD.pure (i:=1) (d:=40) (by kernel_rfl) rfl (z6 (by kernel_rfl)) (z7 (by kernel_rfl)) rfl rfl rfl (fun _=>q_fieldAddr fo_51_0 rfl rfl) ?_
        refine WD.quiet (i:=2) (d:=41) (by kernel_rfl) rfl (z6 (by kernel_rfl)) (z7 (by kernel_rfl)) rfl rfl rfl (q_load1 oneT_3 rfl (rd_stb .here rfl)) ?_
        refine WD.pure (i:=3) (d:=42) (by kernel_rfl) rfl (z6 (by kernel_rfl)) (z7 (by kernel_rfl)) rfl rfl rfl (fun _=>q_move rfl) ?_
        refine WD.pure (i:=4) (d:=43) (by kernel_rfl) rfl (z6 (by kernel_rfl)) (z7 (by kernel_rfl)) rfl rfl rfl (fun _=>q_move rfl) ?_
        refine WD.znth (j:=5) (dd:=44) (by kernel_rfl) rfl (z6 (by kernel_rfl)) (z7 (by kernel_rfl)) rfl rfl (Z:=Z) (Pr:=(fun r x=>r = e51 x)) elT_24 rfl rfl zlm zw0 ?_
        rintro zz8 zz9 zw2 zza rfl
        refine WD.pure (i:=6) (d:=45) (by kernel_rfl) rfl (z6 (by kernel_rfl)) (z7 (by kernel_rfl)) rfl rfl rfl (fun _=>q_fieldAddr fo_51_0 rfl rfl) ?_
        refine WD.quiet (i:=7) (d:=46) (by kernel_rfl) rfl (z6 (by kernel_rfl)) (z7 (by kernel_rfl)) rfl rfl rfl (q_load1 oneT_3 rfl (rd_zAt hz.pv zw2 rfl)) ?_
        refine WD.pure (i:=8) (d:=47) (by kernel_rfl) rfl (z6 (by kernel_rfl)) (z7 (by kernel_rfl)) rfl rfl rfl (fun _=>q_sub rfl rfl rfl) ?_
        refine WD.quiet (i:=9) (d:=48) (by kernel_rfl) rfl (z6 (by kernel_rfl)) (z7 (by kernel_rfl)) rfl rfl rfl (q_build (v:=(.agg #[(.int .i64 (i64 (((nth (zN.drop (z14 : Int).toNat) z1U).fTime) - ((nth zN z14).fTime)))),(.int .i64 1)])) (Eos.parts (l:=[.tmp 47,.const (.int .i64 1)]) (.cons rfl (.cons rfl .nil)) [0,1]) (fun _=>by kernel_rfl)) ?_
        refine WD.enter (i:=10) (d:=49) (by kernel_rfl) rfl (z6 (by kernel_rfl)) (z7 (by kernel_rfl)) rfl rfl rfl (zn (l:=[.tmp 39,.tmp 48]) Try.call22 (.cons rfl (.cons rfl .nil))) (fun w hw=>by have pz:=(hz.call hw (.nil : Sel [stb zcd 51 [(.int .i64 ((nth (zN.drop (z14 : Int).toNat) z1U).fTime)),(.int .i64 ((nth (zN.drop (z14 : Int).toNat) z1U).fVL)),(.int .i64 ((nth (zN.drop (z14 : Int).toNat) z1U).fSize))]] [] [stb zcd 51 [(.int .i64 ((nth (zN.drop (z14 : Int).toNat) z1U).fTime)),(.int .i64 ((nth (zN.drop (z14 : Int).toNat) z1U).fVL)),(.int .i64 ((nth (zN.drop (z14 : Int).toNat) z1U).fSize))]])); exact w_curve_At (Z:=_) (z9N:=z78) (z9O:=z79) (z1e:=z3h) (z1Q:=(⟨i64 (((nth (zN.drop (z14 : Int).toNat) z1U).fTime) - ((nth zN z14).fTime)),1⟩ : z2)) (r:=z4N) w pz zpa zw1) ?_
        refine WD.pure (i:=11) (d:=38) (by kernel_rfl) rfl (z6 (by kernel_rfl)) (z7 (by kernel_rfl)) rfl rfl rfl (fun _=>q_move rfl) ?_
        refine WD.pure (i:=12) (d:=50) (by kernel_rfl) rfl (z6 (by kernel_rfl)) (z7 (by kernel_rfl)) rfl rfl rfl (fun _=>q_extract rfl rfl) ?_
        refine WD.pure (i:=13) (d:=51) (by kernel_rfl) rfl (z6 (by kernel_rfl)) (z7 (by kernel_rfl)) rfl rfl rfl (fun _=>q_extract rfl rfl) ?_
        refine WD.new (i:=14) (dd:=11) rfl (by kernel_rfl) rfl rfl rfl (e_alloc (cs:=[(.int .i64 0),(.int .i64 0)]) zeroT_30 rfl) (fun h'=>absurd h' (by decide)) ?_
        intro zfd _
        refine WD.forced0 (i:=15) rfl (by kernel_rfl) rfl rfl rfl (Sin.of .nil) (e_store (vs:=[(.int .i64 z4N.1.fN),(.int .i64 z4N.1.fD)]) (ds:=[(.int .i64 z4N.1.fN),(.int .i64 z4N.1.fD)]) sizT_30 rfl rfl rfl rfl (oc_cons rfl (oc_cons rfl oc_nil)) .here (Nat.le_of_ble_eq_true rfl) rfl) ?_
        refine WD.pure (i:=16) (d:=12) (by kernel_rfl) rfl (z6 (by kernel_rfl)) (z7 (by kernel_rfl)) rfl rfl rfl (fun _=>q_assign rfl) ?_
        refine WD.done (by kernel_rfl) ?_
        refine WX.then ?_
        refine WC.seq ?_
        refine WC.seq ?_
        refine WC.region ?_
        refine WL.quiet (d:=52) rfl rfl rfl (q_move rfl) ?_
        refine WL.quiet (d:=53) rfl rfl rfl (q_neq rfl rfl) ?_
        refine WL.nil ?_
        refine WX.then ?_
        refine WC.cond rfl (fun zlr=>?_) (fun zlr=>?_)
        ·replace h:=ite_t h zlr
         refine WC.seq ?_
         refine WC.region ?_
         refine WL.quiet (d:=54) rfl rfl rfl (q_move rfl) ?_
         refine WL.quiet (d:=4) rfl rfl rfl (q_assign rfl) ?_
         refine WL.quiet (d:=5) rfl rfl rfl (q_assign rfl) ?_
         refine WL.nil ?_
         refine WX.then ?_
         refine WC.ret ?_
         refine WX.thenRet ?_
         refine WX.blockRet ?_
         refine WX.thenRet ?_
         refine WX.thenRet ?_
         refine WX.blockRet ?_
         refine WX.thenRet ?_
         refine WX.blockRet ?_
         refine WX.thenRet ?_
         refine WX.thenRet ?_
         refine WX.blockRet ?_
         refine WX.thenRet ?_
         obtain rfl:=Option.some.inj h
         refine WX.bpRet Try.results12 (.tmp rfl (.tmp rfl .nil)) (fun w hw=>?_)
         exact ⟨ret2 rfl rfl,hw.sub .nil⟩
        ·replace h:=ite_f h zlr
         refine WC.skip ?_
         refine WX.then ?_
         obtain ⟨zh2,zpg,h⟩:=ze h
         refine WC.region ?_
         refine WL.quiet (d:=55) rfl rfl rfl (q_move rfl) ?_
         refine WL.quiet (d:=56) rfl rfl rfl (q_move rfl) ?_
         refine WL.cut0 True [(0,(.slice z78 z3h.length z79)),(1,(.slice z7s zN.length z7t)),(6,(.bool z75)),(7,(.int .i64 z14)),(8,(.int .i64 (i64 (z6K + ((nth (zN.drop (z14 : Int).toNat) z1U).fSize))))),(22,(.int .i64 ((zN.length : Nat) : Int))),(23,(.int .i64 z14)),(28,(.slice zpe ((zN.drop (z14 : Int).toNat).length) zpf)),(29,(.int .i64 (((zN.drop (z14 : Int).toNat).length : Nat) : Int))),(30,(.int .i64 z1U)),(62,(.bool zh2))] [stb zfd 30 [(.int .i64 z4N.1.fN),(.int .i64 z4N.1.fD)],stb zcd 51 [(.int .i64 ((nth (zN.drop (z14 : Int).toNat) z1U).fTime)),(.int .i64 ((nth (zN.drop (z14 : Int).toNat) z1U).fVL)),(.int .i64 ((nth (zN.drop (z14 : Int).toNat) z1U).fSize))]] 6 ?_ (fun _=>?_)
         ·rcases Bool.eq_false_or_eq_true z75 with hb' | hb'
          ·have zph:=hb'; clear hb'
           have zfe:=ite_t zpg zph
           obtain ⟨zlh,zw3,zfe⟩:=ze zfe
           replace zfe:=Option.some.inj zfe
           refine WL.pin (i:=56) rfl zph ?_
           refine WL.quiet (d:=57) rfl rfl rfl (q_move rfl) ?_
           refine WL.quiet (d:=58) rfl rfl rfl (q_build (v:=(.agg #[(.int .i64 (i64 (z6K + ((nth (zN.drop (z14 : Int).toNat) z1U).fSize)))),(.int .i64 1)])) (Eos.parts (l:=[.tmp 57,.const (.int .i64 1)]) (.cons rfl (.cons rfl .nil)) [0,1]) (fun _=>by kernel_rfl)) ?_
           refine WL.quiet (d:=59) rfl rfl rfl (q_loadA (cs:=[(.int .i64 z4N.1.fN),(.int .i64 z4N.1.fD)]) aggT_30 rfl rfl (rd_all .here)) ?_
           refine WL.callD (dd:=60) rfl rfl rfl (zn (l:=[.tmp 58,.tmp 59]) Try.call18 (.cons rfl (.cons rfl .nil))) (.nil : Sel [stb zfd 30 [(.int .i64 z4N.1.fN),(.int .i64 z4N.1.fD)],stb zcd 51 [(.int .i64 ((nth (zN.drop (z14 : Int).toNat) z1U).fTime)),(.int .i64 ((nth (zN.drop (z14 : Int).toNat) z1U).fVL)),(.int .i64 ((nth (zN.drop (z14 : Int).toNat) z1U).fSize))]] [] [stb zfd 30 [(.int .i64 z4N.1.fN),(.int .i64 z4N.1.fD)],stb zcd 51 [(.int .i64 ((nth (zN.drop (z14 : Int).toNat) z1U).fTime)),(.int .i64 ((nth (zN.drop (z14 : Int).toNat) z1U).fVL)),(.int .i64 ((nth (zN.drop (z14 : Int).toNat) z1U).fSize))]]) (fun w hw=>by have pz:=(hz.call hw (.nil : Sel [stb zfd 30 [(.int .i64 z4N.1.fN),(.int .i64 z4N.1.fD)],stb zcd 51 [(.int .i64 ((nth (zN.drop (z14 : Int).toNat) z1U).fTime)),(.int .i64 ((nth (zN.drop (z14 : Int).toNat) z1U).fVL)),(.int .i64 ((nth (zN.drop (z14 : Int).toNat) z1U).fSize))]] [] [stb zfd 30 [(.int .i64 z4N.1.fN),(.int .i64 z4N.1.fD)],stb zcd 51 [(.int .i64 ((nth (zN.drop (z14 : Int).toNat) z1U).fTime)),(.int .i64 ((nth (zN.drop (z14 : Int).toNat) z1U).fVL)),(.int .i64 ((nth (zN.drop (z14 : Int).toNat) z1U).fSize))]])); exact w_rat_Cmp (Z:=_)  (z21:=(⟨i64 (z6K + ((nth (zN.drop (z14 : Int).toNat) z1U).fSize)),1⟩ : z2)) (z23:=z4N.1) (r:=zlh) w pz  zw3) ?_
           refine WL.quiet (d:=61) rfl rfl rfl (q_leq rfl rfl) ?_
           refine WL.quiet (d:=62) rfl rfl rfl (q_pickT rfl rfl) ?_
           exact WL.cutEnd () trivial (.cons rfl (.cons rfl (.cons rfl (.cons rfl (.cons rfl (.cons rfl (.cons rfl (.cons rfl (.cons rfl (.cons rfl (.cons (zp zfe) .nil))))))))))) (.cons .here (.cons .here .nil))
          ·have zpi:=hb'; clear hb'
           have zls:=ite_f zpg zpi
           replace zls:=Option.some.inj zls
           refine WL.pin (i:=56) rfl zpi ?_
           refine WL.skip rfl rfl rfl ?_
           refine WL.skip rfl rfl rfl ?_
           refine WL.skip rfl rfl rfl ?_
           refine WL.skip rfl rfl rfl ?_
           refine WL.skip rfl rfl rfl ?_
           refine WL.quiet (d:=62) rfl rfl rfl (q_pickF rfl rfl) ?_
           exact WL.cutEnd () trivial (.cons rfl (.cons rfl (.cons rfl (.cons rfl (.cons rfl (.cons rfl (.cons rfl (.cons rfl (.cons rfl (.cons rfl (.cons (zp zls) .nil))))))))))) (.cons .here (.cons .here .nil))
         ·skip
          refine WL.quiet (d:=6) rfl rfl rfl (q_assign rfl) ?_
          refine WL.nil ?_
          refine WX.blockNormal ?_
          refine WX.then ?_
          refine WC.region ?_
          refine WL.quiet (d:=63) rfl rfl rfl (q_add rfl rfl rfl) ?_
          refine WL.quiet (d:=30) rfl rfl rfl (q_move rfl) ?_
          refine WL.nil ?_
          exact WX.round (G:=Nat × Bool × Int × Int) ⟨zlg,zh2,(i64 (z6K + ((nth (zN.drop (z14 : Int).toNat) z1U).fSize))),(i64 (z1U + 1))⟩ h (Nat.lt_succ_self _) (.cons rfl (.cons rfl (.cons rfl (.cons rfl (.cons rfl (.cons rfl (.cons rfl (.cons rfl (.cons rfl (.cons rfl .nil)))))))))) .nil
       ·replace h:=ite_f h zlq
        refine WC.exit ?_
        refine WX.thenExit ?_
        refine WX.thenExit ?_
        refine WX.blockHit ?_
        exact WX.mid (G:=Bool) z75 h (.cons rfl (.cons rfl (.cons rfl (.cons rfl (.cons rfl .nil))))) .nil
      ·rintro za4 h
       replace h:=(zvX za4).symm.trans h
       refine WX.blockNormal ?_
       exact WX.mid (G:=Bool) za4 h (.cons rfl (.cons rfl (.cons rfl (.cons rfl (.cons rfl .nil))))) .nil
     ·rintro za3 h
      replace h:=(zvU za3).symm.trans h
      refine WC.region ?_
      refine WL.quiet (d:=64) rfl rfl rfl (q_add rfl rfl rfl) ?_
      refine WL.quiet (d:=23) rfl rfl rfl (q_move rfl) ?_
      refine WL.nil ?_
      exact WX.round (G:=Nat × Bool × Int) ⟨zli,za3,(i64 (z14 + 1))⟩ h (Nat.lt_succ_self _) (.cons rfl (.cons rfl (.cons rfl (.cons rfl (.cons rfl .nil))))) .nil
    ·replace h:=ite_f h zlp
     refine WC.exit ?_
     refine WX.thenExit ?_
     refine WX.thenExit ?_
     refine WX.blockHit ?_
     exact WX.mid (G:=Bool) z7r h (.cons rfl .nil) .nil
   ·rintro zaW h
    replace h:=(zvT zaW).symm.trans h
    refine WC.seq ?_
    refine WC.region ?_
    refine WL.quiet (d:=65) rfl rfl rfl (q_move rfl) ?_
    refine WL.quiet (d:=4) rfl rfl rfl (q_assign rfl) ?_
    refine WL.quiet (d:=5) rfl rfl rfl (q_assign rfl) ?_
    refine WL.nil ?_
    refine WX.then ?_
    refine WC.ret ?_
    obtain rfl:=Option.some.inj h
    refine WX.bpRet Try.results12 (.tmp rfl (.tmp rfl .nil)) (fun w hw=>?_)
    exact ⟨ret2 rfl rfl,hw.sub .nil⟩
def m_law03_Ints_L2 (z5s : List Int) (z6d : List Int) (za5 : Option Bool) : Nat → Int → Option Bool
 | 0,_=>none
 | zlt + 1,z5U=>if decide (z5U < ((z5s.length : Nat) : Int)) then chk ((0 : Int) ≤ z5U ∧ z5U < ((z5s.length : Nat) : Int)) (chk ((0 : Int) ≤ z5U ∧ z5U < ((z6d.length : Nat) : Int)) (if decide ((nth z5s z5U) ≠ (nth z6d z5U)) then some false else m_law03_Ints_L2 z5s z6d za5 zlt (i64 (z5U + 1)))) else za5
theorem m_law03_Ints_L2_fuel {n : Nat} {z5s : List Int} {z6d : List Int} {za5 : Option Bool} {z5U : Int} {r : Bool} (h : m_law03_Ints_L2 z5s z6d za5 n z5U = some r) : ∃ m,n = m + 1:=by
 cases n with
 | zero=>cases h
 | succ m=>exact ⟨m,rfl⟩
def m_law03_Ints (z5s : List Int) (z6d : List Int) : Option Bool :=
 if decide (((z5s.length : Nat) : Int) ≠ ((z6d.length : Nat) : Int)) then some false else jp0 (some true) fun za5=>m_law03_Ints_L2 z5s z6d za5 FUEL 0
set_option maxRecDepth 20000 in
theorem w_law03_Ints (Z : Zp)  (zdz : Option Addr) (zdA : Nat) (zdB : Option Addr) (zdC : Nat) (z5s : List Int) (z6d : List Int) (r : Bool) (w₀ : World) (hz : PZ [] w₀ Z)
  (zw4 : ZS Z 1 (fun r x=>r = e3 x) zdz zdA z5s)
  (zw5 : ZS Z 1 (fun r x=>r = e3 x) zdB zdC z6d)
  (h : m_law03_Ints z5s z6d = some r) :
  Calls Try.prog 38 #[(.slice zdz z5s.length zdA),(.slice zdB z6d.length zdC)] w₀ fun e w'=>e = .returned (.bool r) ∧ Hp [] w₀ w' []:=by
 unfold m_law03_Ints at h
 refine Calls.ofWC (vs:=[(.slice zdz z5s.length zdA),(.slice zdB z6d.length zdC)]) (pre:=[]) (env:=[(0,(.slice zdz z5s.length zdA)),(1,(.slice zdB z6d.length zdC))]) Try.func38 rfl Try.ntmps38 rfl (Hp.nil w₀ _) rfl ?_
 refine WC.seq ?_
 refine WC.region ?_
 refine WL.quiet (d:=4) rfl rfl rfl (q_assign rfl) ?_
 refine WL.nil ?_
 refine WX.then ?_
 refine WC.seq ?_
 refine WC.seq ?_
 refine WC.region ?_
 refine WL.quiet (d:=6) rfl rfl rfl (q_move rfl) ?_
 refine WL.quiet (d:=7) rfl rfl rfl (q_len Try.underlying45 rfl) ?_
 refine WL.quiet (d:=8) rfl rfl rfl (q_move rfl) ?_
 refine WL.quiet (d:=9) rfl rfl rfl (q_len Try.underlying45 rfl) ?_
 refine WL.quiet (d:=10) rfl rfl rfl (q_neq rfl rfl) ?_
 refine WL.nil ?_
 refine WX.then ?_
 refine WC.cond rfl (fun zlu=>?_) (fun zlu=>?_)
 ·replace h:=ite_t h zlu
  refine WC.seq ?_
  refine WC.region ?_
  refine WL.quiet (d:=4) rfl rfl rfl (q_assign rfl) ?_
  refine WL.nil ?_
  refine WX.then ?_
  refine WC.ret ?_
  refine WX.thenRet ?_
  obtain rfl:=Option.some.inj h
  refine WX.bpRet Try.results38 (.tmp rfl .nil) (fun w hw=>?_)
  exact ⟨ret1 rfl,hw.sub .nil⟩
 ·replace h:=ite_f h zlu
  refine WC.skip ?_
  refine WX.then ?_
  obtain ⟨za5,zw6,h⟩:=jp0_elim h
  refine WC.seqMid0 ((za5 = some r)) ([]) ([]) ?_ ?_
  ·skip
   refine WC.seq ?_
   refine WC.region ?_
   refine WL.quiet (d:=11) rfl rfl rfl (q_move rfl) ?_
   refine WL.quiet (d:=12) rfl rfl rfl (q_len Try.underlying45 rfl) ?_
   refine WL.quiet (d:=13) rfl rfl rfl (q_move rfl) ?_
   refine WL.nil ?_
   refine WX.then ?_
   refine WC.block ?_
   refine WC.loop2 (fun (zdD : Nat) (z5U : Int)=>(m_law03_Ints_L2 z5s z6d za5 zdD z5U = some r)) (fun (zdD : Nat) (z5U : Int)=>[(0,(.slice zdz z5s.length zdA)),(1,(.slice zdB z6d.length zdC)),(12,(.int .i64 ((z5s.length : Nat) : Int))),(13,(.int .i64 z5U))]) (fun (zdD : Nat) (z5U : Int)=>[]) (fun (zdD : Nat) (z5U : Int)=>zdD) ⟨FUEL,0⟩ h (.cons rfl (.cons rfl (.cons rfl (.cons rfl .nil)))) .nil ?_
   rintro zdD z5U h
   obtain ⟨zlt,rfl⟩:=m_law03_Ints_L2_fuel h
   rw [m_law03_Ints_L2] at h
   refine WC.seq ?_
   refine WC.region ?_
   refine WL.quiet (d:=14) rfl rfl rfl (q_lss rfl rfl) ?_
   refine WL.nil ?_
   refine WX.then ?_
   refine WC.seq ?_
   refine WC.cond rfl (fun zlv=>?_) (fun zlv=>?_)
   ·replace h:=ite_t h zlv
    refine WC.skip ?_
    refine WX.then ?_
    refine WC.seq ?_
    refine WC.block ?_
    refine WC.seq ?_
    refine WC.region ?_
    refine WL.quiet (d:=15) rfl rfl rfl (q_move rfl) ?_
    refine WL.quiet (d:=5) rfl rfl rfl (q_assign rfl) ?_
    refine WL.nil ?_
    refine WX.then ?_
    refine WC.seq ?_
    obtain ⟨zw7,h⟩:=chk_elim h
    obtain ⟨zw8,h⟩:=chk_elim h
    refine WC.draw (fun i=>[].contains i) [] rfl ?_
    refine WD.pure (i:=0) (d:=16) (by kernel_rfl) rfl (z6 (by kernel_rfl)) (z7 (by kernel_rfl)) rfl rfl rfl (fun _=>q_move rfl) ?_
    refine WD.pure (i:=1) (d:=17) (by kernel_rfl) rfl (z6 (by kernel_rfl)) (z7 (by kernel_rfl)) rfl rfl rfl (fun _=>q_move rfl) ?_
    refine WD.znth (j:=2) (dd:=18) (by kernel_rfl) rfl (z6 (by kernel_rfl)) (z7 (by kernel_rfl)) rfl rfl (Z:=Z) (Pr:=(fun r x=>r = e3 x)) elT_45 rfl rfl zw4 zw7 ?_
    rintro zzb zzc zw9 zzd rfl
    refine WD.quiet (i:=3) (d:=19) (by kernel_rfl) rfl (z6 (by kernel_rfl)) (z7 (by kernel_rfl)) rfl rfl rfl (q_load1 oneT_3 rfl (rd_z hz.pv zw9 rfl)) ?_
    refine WD.pure (i:=4) (d:=20) (by kernel_rfl) rfl (z6 (by kernel_rfl)) (z7 (by kernel_rfl)) rfl rfl rfl (fun _=>q_move rfl) ?_
    refine WD.pure (i:=5) (d:=21) (by kernel_rfl) rfl (z6 (by kernel_rfl)) (z7 (by kernel_rfl)) rfl rfl rfl (fun _=>q_move rfl) ?_
    refine WD.znth (j:=6) (dd:=22) (by kernel_rfl) rfl (z6 (by kernel_rfl)) (z7 (by kernel_rfl)) rfl rfl (Z:=Z) (Pr:=(fun r x=>r = e3 x)) elT_45 rfl rfl zw5 zw8 ?_
    rintro zze zzf zwa zzg rfl
    refine WD.quiet (i:=7) (d:=23) (by kernel_rfl) rfl (z6 (by kernel_rfl)) (z7 (by kernel_rfl)) rfl rfl rfl (q_load1 oneT_3 rfl (rd_z hz.pv zwa rfl)) ?_
    refine WD.pure (i:=8) (d:=24) (by kernel_rfl) rfl (z6 (by kernel_rfl)) (z7 (by kernel_rfl)) rfl rfl rfl (fun _=>q_neq rfl rfl) ?_
    refine WD.done (by kernel_rfl) ?_
    refine WX.then ?_
    refine WC.cond rfl (fun zlw=>?_) (fun zlw=>?_)
    ·replace h:=ite_t h zlw
     refine WC.seq ?_
     refine WC.region ?_
     refine WL.quiet (d:=4) rfl rfl rfl (q_assign rfl) ?_
     refine WL.nil ?_
     refine WX.then ?_
     refine WC.ret ?_
     refine WX.blockRet ?_
     refine WX.thenRet ?_
     refine WX.thenRet ?_
     refine WX.blockRet ?_
     refine WX.thenRet ?_
     obtain rfl:=Option.some.inj h
     refine WX.bpRet Try.results38 (.tmp rfl .nil) (fun w hw=>?_)
     exact ⟨ret1 rfl,hw.sub .nil⟩
    ·replace h:=ite_f h zlw
     refine WC.skip ?_
     refine WX.blockNormal ?_
     refine WX.then ?_
     refine WC.region ?_
     refine WL.quiet (d:=25) rfl rfl rfl (q_add rfl rfl rfl) ?_
     refine WL.quiet (d:=13) rfl rfl rfl (q_move rfl) ?_
     refine WL.nil ?_
     exact WX.round (G:=Nat × Int) ⟨zlt,(i64 (z5U + 1))⟩ h (Nat.lt_succ_self _) (.cons rfl (.cons rfl (.cons rfl (.cons rfl .nil)))) .nil
   ·replace h:=ite_f h zlv
    refine WC.exit ?_
    refine WX.thenExit ?_
    refine WX.thenExit ?_
    refine WX.blockHit ?_
    exact WX.mid (G:=Unit) () h .nil .nil
  ·rintro  h
   replace h:=zw6.symm.trans h
   refine WC.seq ?_
   refine WC.region ?_
   refine WL.quiet (d:=4) rfl rfl rfl (q_assign rfl) ?_
   refine WL.nil ?_
   refine WX.then ?_
   refine WC.ret ?_
   obtain rfl:=Option.some.inj h
   refine WX.bpRet Try.results38 (.tmp rfl .nil) (fun w hw=>?_)
   exact ⟨ret1 rfl,hw.sub .nil⟩
end Go.Proofs.Ytakfmdiiehcbdaa
