/- A part of this claim's proof: models of functions, walks, plain laws. No conditions. -/
import Derived.Test.YtakfmdiiehcbdaaGreatW03Ze
namespace Go.Proofs.YtakfmdiiehcbdaaGreat
open Go Go.RowKit Sep
set_option linter.all false
set_option maxRecDepth 30000
set_option maxHeartbeats 4000000
def m_law03_awake  : Option Bool :=
 (m_law03_num 100 1).bind fun ziE=>(m_law03_num 1 2).bind fun ziF=>(m_law03_bucket ziE ziF).bind fun za=>(m_law03_num 60 1).bind fun ziG=>(m_law03_num 1 4).bind fun ziH=>(m_law03_bucket ziG ziH).bind fun z1i=>(m_law03_num 1 1).bind fun zd=>(m_law03_num 16 1).bind fun ze=>(m_calculus_Delay ([([za] : List z1),([z1i] : List z1)] : List (List z1)) (⟨zd,ze⟩ : S41)).bind fun zg=>(m_calculus_Backlog ([([za] : List z1),([z1i] : List z1)] : List (List z1)) (⟨zd,ze⟩ : S41)).bind fun zh=>chk ((0 : Int) ≤ 0 ∧ 0 < ((([za] : List z1).length : Nat) : Int)) ((m_law03_num 40 1).bind fun ziI=>(m_law03_num 1 1).bind fun ziJ=>(m_law03_bucket ziI ziJ).bind fun z21=>(m_calculus_Delay ([([(⟨(⟨(((nth ([za] : List z1) 0).fBurst).fN),(((nth ([za] : List z1) 0).fBurst).fD)⟩ : z2),(⟨(((nth ([za] : List z1) 0).fRate).fN),(((nth ([za] : List z1) 0).fRate).fD)⟩ : z2)⟩ : z1),z21] : List z1),([z1i] : List z1)] : List (List z1)) (⟨zd,ze⟩ : S41)).bind fun zp=>(m_calculus_Serve ([(⟨0,0,10⟩ : Sapi_Sent),(⟨3,0,10⟩ : Sapi_Sent)] : List Sapi_Sent) 2 5).bind fun zq=>(m_law03_num 10 1).bind fun ziK=>(m_law03_num 4 1).bind fun ziL=>(m_law03_bucket ziK ziL).bind fun zr=>(m_calculus_Conforms ([zr] : List z1) ([(⟨0,0,10⟩ : Sapi_Sent),(⟨3,0,10⟩ : Sapi_Sent)] : List Sapi_Sent)).bind fun z7M=>(m_law03_num 10 1).bind fun ziM=>(m_law03_num 3 1).bind fun ziN=>(m_law03_bucket ziM ziN).bind fun z1B=>(m_calculus_Conforms ([z1B] : List z1) ([(⟨0,0,10⟩ : Sapi_Sent),(⟨3,0,10⟩ : Sapi_Sent)] : List Sapi_Sent)).bind fun z8H=>(if decide ((i64 ((i64 ((i64 ((i64 ((i64 (zg.2 + zh.2)) + zp.2)) + zq.2)) + z7M.2)) + z8H.2)) = 0) then (m_law03_num 176 1).bind fun ziO=>some (decide (zg.1 = ziO)) else some false).bind fun zgA=>(if zgA then (m_law03_num 172 1).bind fun ziP=>some (decide (zh.1 = ziP)) else some false).bind fun zgB=>(if zgB then (m_law03_num 146 1).bind fun ziQ=>some (decide (zp.1 = ziQ)) else some false).bind fun zgC=>(if zgC then (m_law03_Ints zq.1 ([25,45] : List Int)).bind fun znj=>some znj else some false).bind fun zb0=>some ((zb0 && z7M.1) && (!z8H.1)))
set_option maxRecDepth 20000 in
theorem w_law03_awake (Z : Zp)    (r : Bool) (w₀ : World) (hz : PZ [] w₀ Z)
  (h : m_law03_awake  = some r) :
  Calls Tryz.prog 5 #[] w₀ fun e w'=>∃ Zn : Zp,e = .returned (.bool r) ∧ True ∧ Hp [] w₀ w' [fz Zn]:=by
 unfold m_law03_awake at h
 refine Calls.ofWC (vs:=[]) (pre:=[]) (env:=[]) Tryz.func5 rfl Tryz.ntmps5 rfl (Hp.nil w₀ _) rfl ?_
 refine WC.pool ?_
 refine WC.b ?_
 refine WC.a ?_
 refine WL.a (d:=0) rfl rfl rfl (q_z rfl) ?_
 refine WL.nil ?_
 refine WX.a ?_
 refine WC.b ?_
 obtain ⟨ziE,zzY,h⟩:=z8 h
 obtain ⟨ziF,zzZ,h⟩:=z8 h
 obtain ⟨za,zA0,h⟩:=z8 h
 obtain ⟨ziG,zA1,h⟩:=z8 h
 obtain ⟨ziH,zA2,h⟩:=z8 h
 obtain ⟨z1i,zA3,h⟩:=z8 h
 refine WC.a ?_
 refine WL.b (dd:=17) rfl rfl rfl (zi (l:=[.const (.int .i64 100),.const (.int .i64 1)]) Tryz.call20 (.cons rfl (.cons rfl .nil))) (.nil : Sel [fz []] [] [fz []]) (fun w hw=>by have pz:=(hz.call2 hw (.nil : Sel [fz []] [] [fz []]) .here); exact w_law03_num (Z:=_)  (n_16:=100) (d_17:=1) (r:=ziE) w pz  zzY) ?_
 refine WL.b (dd:=18) rfl rfl rfl (zi (l:=[.const (.int .i64 1),.const (.int .i64 2)]) Tryz.call20 (.cons rfl (.cons rfl .nil))) (.nil : Sel [fz []] [] [fz []]) (fun w hw=>by have pz:=(hz.call2 hw (.nil : Sel [fz []] [] [fz []]) .here); exact w_law03_num (Z:=_)  (n_16:=1) (d_17:=2) (r:=ziF) w pz  zzZ) ?_
 refine WL.b (dd:=19) rfl rfl rfl (zi (l:=[.tmp 17,.tmp 18]) Tryz.call19 (.cons rfl (.cons rfl .nil))) (.nil : Sel [fz []] [] [fz []]) (fun w hw=>by have pz:=(hz.call2 hw (.nil : Sel [fz []] [] [fz []]) .here); exact w_law03_bucket (Z:=_)  (b_27:=ziE) (r_28:=ziF) (r:=za) w pz  zA0) ?_
 refine WL.new (dd:=20) rfl rfl rfl (e_buildSlice (cs:=([za] : List z1).flatMap e54) elT_23 (Eos.parts (l:=[.tmp 19]) (.cons rfl .nil) [0]) (fun _=>by kernel_rfl) rfl (by unfold maxLen; omega)) ?_
 intro z4l _
 refine WL.b (dd:=21) rfl rfl rfl (zi (l:=[.const (.int .i64 60),.const (.int .i64 1)]) Tryz.call20 (.cons rfl (.cons rfl .nil))) (.nil : Sel [row (.slice (some ⟨z4l,0,none⟩) (([za] : List z1).length) 1) 54 4 (([za] : List z1).flatMap e54),fz []] [] [row (.slice (some ⟨z4l,0,none⟩) (([za] : List z1).length) 1) 54 4 (([za] : List z1).flatMap e54),fz []]) (fun w hw=>by have pz:=(hz.call2 hw (.nil : Sel [row (.slice (some ⟨z4l,0,none⟩) (([za] : List z1).length) 1) 54 4 (([za] : List z1).flatMap e54),fz []] [] [row (.slice (some ⟨z4l,0,none⟩) (([za] : List z1).length) 1) 54 4 (([za] : List z1).flatMap e54),fz []]) .h1); exact w_law03_num (Z:=_)  (n_16:=60) (d_17:=1) (r:=ziG) w pz  zA1) ?_
 refine WL.b (dd:=22) rfl rfl rfl (zi (l:=[.const (.int .i64 1),.const (.int .i64 4)]) Tryz.call20 (.cons rfl (.cons rfl .nil))) (.nil : Sel [row (.slice (some ⟨z4l,0,none⟩) (([za] : List z1).length) 1) 54 4 (([za] : List z1).flatMap e54),fz []] [] [row (.slice (some ⟨z4l,0,none⟩) (([za] : List z1).length) 1) 54 4 (([za] : List z1).flatMap e54),fz []]) (fun w hw=>by have pz:=(hz.call2 hw (.nil : Sel [row (.slice (some ⟨z4l,0,none⟩) (([za] : List z1).length) 1) 54 4 (([za] : List z1).flatMap e54),fz []] [] [row (.slice (some ⟨z4l,0,none⟩) (([za] : List z1).length) 1) 54 4 (([za] : List z1).flatMap e54),fz []]) .h1); exact w_law03_num (Z:=_)  (n_16:=1) (d_17:=4) (r:=ziH) w pz  zA2) ?_
 refine WL.b (dd:=23) rfl rfl rfl (zi (l:=[.tmp 21,.tmp 22]) Tryz.call19 (.cons rfl (.cons rfl .nil))) (.nil : Sel [row (.slice (some ⟨z4l,0,none⟩) (([za] : List z1).length) 1) 54 4 (([za] : List z1).flatMap e54),fz []] [] [row (.slice (some ⟨z4l,0,none⟩) (([za] : List z1).length) 1) 54 4 (([za] : List z1).flatMap e54),fz []]) (fun w hw=>by have pz:=(hz.call2 hw (.nil : Sel [row (.slice (some ⟨z4l,0,none⟩) (([za] : List z1).length) 1) 54 4 (([za] : List z1).flatMap e54),fz []] [] [row (.slice (some ⟨z4l,0,none⟩) (([za] : List z1).length) 1) 54 4 (([za] : List z1).flatMap e54),fz []]) .h1); exact w_law03_bucket (Z:=_)  (b_27:=ziG) (r_28:=ziH) (r:=z1i) w pz  zA3) ?_
 refine WL.new (dd:=24) rfl rfl rfl (e_buildSlice (cs:=([z1i] : List z1).flatMap e54) elT_23 (Eos.parts (l:=[.tmp 23]) (.cons rfl .nil) [0]) (fun _=>by kernel_rfl) rfl (by unfold maxLen; omega)) ?_
 intro z3y _
 refine WL.a (d:=1) rfl rfl rfl (q_z rfl) ?_
 refine WL.a (d:=2) rfl rfl rfl (q_z rfl) ?_
 refine WL.nil ?_
 refine WX.a ?_
 refine WC.b ?_
 obtain ⟨zd,zA4,h⟩:=z8 h
 obtain ⟨ze,zA5,h⟩:=z8 h
 refine WC.a ?_
 refine WL.b (dd:=25) rfl rfl rfl (zi (l:=[.const (.int .i64 1),.const (.int .i64 1)]) Tryz.call20 (.cons rfl (.cons rfl .nil))) (.nil : Sel [row (.slice (some ⟨z3y,0,none⟩) (([z1i] : List z1).length) 1) 54 4 (([z1i] : List z1).flatMap e54),row (.slice (some ⟨z4l,0,none⟩) (([za] : List z1).length) 1) 54 4 (([za] : List z1).flatMap e54),fz []] [] [row (.slice (some ⟨z3y,0,none⟩) (([z1i] : List z1).length) 1) 54 4 (([z1i] : List z1).flatMap e54),row (.slice (some ⟨z4l,0,none⟩) (([za] : List z1).length) 1) 54 4 (([za] : List z1).flatMap e54),fz []]) (fun w hw=>by have pz:=(hz.call2 hw (.nil : Sel [row (.slice (some ⟨z3y,0,none⟩) (([z1i] : List z1).length) 1) 54 4 (([z1i] : List z1).flatMap e54),row (.slice (some ⟨z4l,0,none⟩) (([za] : List z1).length) 1) 54 4 (([za] : List z1).flatMap e54),fz []] [] [row (.slice (some ⟨z3y,0,none⟩) (([z1i] : List z1).length) 1) 54 4 (([z1i] : List z1).flatMap e54),row (.slice (some ⟨z4l,0,none⟩) (([za] : List z1).length) 1) 54 4 (([za] : List z1).flatMap e54),fz []]) .h2); exact w_law03_num (Z:=_)  (n_16:=1) (d_17:=1) (r:=zd) w pz  zA4) ?_
 refine WL.b (dd:=26) rfl rfl rfl (zi (l:=[.const (.int .i64 16),.const (.int .i64 1)]) Tryz.call20 (.cons rfl (.cons rfl .nil))) (.nil : Sel [row (.slice (some ⟨z3y,0,none⟩) (([z1i] : List z1).length) 1) 54 4 (([z1i] : List z1).flatMap e54),row (.slice (some ⟨z4l,0,none⟩) (([za] : List z1).length) 1) 54 4 (([za] : List z1).flatMap e54),fz []] [] [row (.slice (some ⟨z3y,0,none⟩) (([z1i] : List z1).length) 1) 54 4 (([z1i] : List z1).flatMap e54),row (.slice (some ⟨z4l,0,none⟩) (([za] : List z1).length) 1) 54 4 (([za] : List z1).flatMap e54),fz []]) (fun w hw=>by have pz:=(hz.call2 hw (.nil : Sel [row (.slice (some ⟨z3y,0,none⟩) (([z1i] : List z1).length) 1) 54 4 (([z1i] : List z1).flatMap e54),row (.slice (some ⟨z4l,0,none⟩) (([za] : List z1).length) 1) 54 4 (([za] : List z1).flatMap e54),fz []] [] [row (.slice (some ⟨z3y,0,none⟩) (([z1i] : List z1).length) 1) 54 4 (([z1i] : List z1).flatMap e54),row (.slice (some ⟨z4l,0,none⟩) (([za] : List z1).length) 1) 54 4 (([za] : List z1).flatMap e54),fz []]) .h2); exact w_law03_num (Z:=_)  (n_16:=16) (d_17:=1) (r:=ze) w pz  zA5) ?_
 refine WL.a (d:=27) rfl rfl rfl (q_build (v:=(.agg #[(.int .i64 zd.fN),(.int .i64 zd.fD),(.int .i64 ze.fN),(.int .i64 ze.fD)])) (Eos.parts (l:=[.tmp 25,.tmp 26]) (.cons rfl (.cons rfl .nil)) [0,1]) (fun _=>by kernel_rfl)) ?_
 refine WL.new (dd:=3) rfl rfl rfl (e_alloc (cs:=[(.int .i64 0),(.int .i64 0),(.int .i64 0),(.int .i64 0)]) zeroT_42 rfl) ?_
 intro zz _
 refine WL.eff0 rfl rfl (e_store (vs:=[(.int .i64 zd.fN),(.int .i64 zd.fD),(.int .i64 ze.fN),(.int .i64 ze.fD)]) (ds:=[(.int .i64 zd.fN),(.int .i64 zd.fD),(.int .i64 ze.fN),(.int .i64 ze.fD)]) sizT_42 rfl rfl rfl rfl (oc_cons rfl (oc_cons rfl (oc_cons rfl (oc_cons rfl oc_nil)))) .here (Nat.le_of_ble_eq_true rfl) rfl) ?_
 refine WL.nil ?_
 refine WX.a ?_
 refine WC.b ?_
 obtain ⟨zg,zA6,h⟩:=z8 h
 refine WC.a ?_
 refine WL.a (d:=29) rfl rfl rfl (q_m rfl) ?_
 refine WL.a (d:=30) rfl rfl rfl (q_m rfl) ?_
 refine WL.freezeS (ls:=([za] : List z1)) .h2 .h2 hz (RR.flat (enc:=e54) (fun _=>rfl) _) ?_
 intro zEa zEb znk
 refine WL.freezeS (ls:=([z1i] : List z1)) .h2 .here hz (RR.flat (enc:=e54) (fun _=>rfl) _) ?_
 intro zA7 znl ziR
 have zA8 : RR 1 (p23 (Z ++ zA7)) [(.slice (some ⟨z4l,0,none⟩) (([za] : List z1).length) 1),(.slice (some ⟨z3y,0,none⟩) (([z1i] : List z1).length) 1)] ([([za] : List z1),([z1i] : List z1)] : List (List z1)):=(RR.cons (r:=[(.slice (some ⟨z4l,0,none⟩) (([za] : List z1).length) 1)]) rfl (show p23 _ _ _ from ⟨_,_,rfl,(znk.mono znl)⟩) (RR.cons (r:=[(.slice (some ⟨z3y,0,none⟩) (([z1i] : List z1).length) 1)]) rfl (show p23 _ _ _ from ⟨_,_,rfl,ziR⟩) (RR.nil _ _)))
 refine WL.new (dd:=31) rfl rfl rfl (e_buildSlice (cs:=[(.slice (some ⟨z4l,0,none⟩) (([za] : List z1).length) 1),(.slice (some ⟨z3y,0,none⟩) (([z1i] : List z1).length) 1)]) elT_38 (Eos.parts (l:=[.tmp 29,.tmp 30]) (.cons rfl (.cons rfl .nil)) [0,1]) (fun _=>by kernel_rfl) rfl (by unfold maxLen; omega)) ?_
 intro zA9 _
 refine WL.a (d:=32) rfl rfl rfl (q_loadA (cs:=[(.int .i64 zd.fN),(.int .i64 zd.fD),(.int .i64 ze.fN),(.int .i64 ze.fD)]) aggT_42 rfl rfl (rd_all .h2)) ?_
 refine WL.freezeS (ls:=([([za] : List z1),([z1i] : List z1)] : List (List z1))) .here .here hz zA8 ?_
 intro zgD zeU znm
 replace znm:=znm.weak (fun _ _ h=>p23_mono zeU h)
 refine WL.enter1 (dd:=33) rfl rfl rfl (zi (l:=[.tmp 31,.tmp 32]) Tryz.call11 (.cons rfl (.cons rfl .nil))) (.nil : Sel [fz zgD,stb zz 42 [(.int .i64 zd.fN),(.int .i64 zd.fD),(.int .i64 ze.fN),(.int .i64 ze.fD)]] [] [fz zgD,stb zz 42 [(.int .i64 zd.fN),(.int .i64 zd.fD),(.int .i64 ze.fN),(.int .i64 ze.fD)]]) (fun w hw=>by have pz:=(hz.call2 hw (.nil : Sel [fz zgD,stb zz 42 [(.int .i64 zd.fN),(.int .i64 zd.fD),(.int .i64 ze.fN),(.int .i64 ze.fD)]] [] [fz zgD,stb zz 42 [(.int .i64 zd.fN),(.int .i64 zd.fD),(.int .i64 ze.fN),(.int .i64 ze.fD)]]) .here); exact w_calculus_Delay (Z:=_) (z5T:=(some ⟨zA9,0,none⟩)) (z5U:=2) (z4X:=([([za] : List z1),([z1i] : List z1)] : List (List z1))) (z1A:=(⟨zd,ze⟩ : S41)) (r:=zg) w pz znm zA6) ?_
 rintro zAa _
 refine WL.merge .here .here ?_
 refine WL.a (d:=28) rfl rfl rfl (q_m rfl) ?_
 refine WL.a (d:=34) rfl rfl rfl (q_extract rfl rfl) ?_
 refine WL.a (d:=35) rfl rfl rfl (q_extract rfl rfl) ?_
 refine WL.new (dd:=4) rfl rfl rfl (e_alloc (cs:=[(.int .i64 0),(.int .i64 0)]) zeroT_40 rfl) ?_
 intro zx _
 refine WL.eff0 rfl rfl (e_store (vs:=[(.int .i64 zg.1.fN),(.int .i64 zg.1.fD)]) (ds:=[(.int .i64 zg.1.fN),(.int .i64 zg.1.fD)]) sizT_40 rfl rfl rfl rfl (oc_cons rfl (oc_cons rfl oc_nil)) .here (Nat.le_of_ble_eq_true rfl) rfl) ?_
 refine WL.a (d:=5) rfl rfl rfl (q_z rfl) ?_
 refine WL.nil ?_
 refine WX.a ?_
 refine WC.b ?_
 obtain ⟨zh,zAb,h⟩:=z8 h
 refine WC.a ?_
 refine WL.a (d:=37) rfl rfl rfl (q_m rfl) ?_
 refine WL.a (d:=38) rfl rfl rfl (q_m rfl) ?_
 have zAc : RR 1 (p23 (Z ++ (zgD ++ zAa))) [(.slice (some ⟨z4l,0,none⟩) (([za] : List z1).length) 1),(.slice (some ⟨z3y,0,none⟩) (([z1i] : List z1).length) 1)] ([([za] : List z1),([z1i] : List z1)] : List (List z1)):=(RR.cons (r:=[(.slice (some ⟨z4l,0,none⟩) (([za] : List z1).length) 1)]) rfl (show p23 _ _ _ from ⟨_,_,rfl,(znk.mono (znl.trans (zeU.trans ((Zle.left _ _).trans (Zle.assoc _ _ _)))))⟩) (RR.cons (r:=[(.slice (some ⟨z3y,0,none⟩) (([z1i] : List z1).length) 1)]) rfl (show p23 _ _ _ from ⟨_,_,rfl,(ziR.mono (zeU.trans ((Zle.left _ _).trans (Zle.assoc _ _ _))))⟩) (RR.nil _ _)))
 refine WL.new (dd:=39) rfl rfl rfl (e_buildSlice (cs:=[(.slice (some ⟨z4l,0,none⟩) (([za] : List z1).length) 1),(.slice (some ⟨z3y,0,none⟩) (([z1i] : List z1).length) 1)]) elT_38 (Eos.parts (l:=[.tmp 37,.tmp 38]) (.cons rfl (.cons rfl .nil)) [0,1]) (fun _=>by kernel_rfl) rfl (by unfold maxLen; omega)) ?_
 intro zAd _
 refine WL.a (d:=40) rfl rfl rfl (q_loadA (cs:=[(.int .i64 zd.fN),(.int .i64 zd.fD),(.int .i64 ze.fN),(.int .i64 ze.fD)]) aggT_42 rfl rfl (rd_all .h3)) ?_
 refine WL.freezeS (ls:=([([za] : List z1),([z1i] : List z1)] : List (List z1))) .here .h1 hz zAc ?_
 intro z62 ziS znn
 replace znn:=znn.weak (fun _ _ h=>p23_mono ziS h)
 refine WL.enter1 (dd:=41) rfl rfl rfl (zi (l:=[.tmp 39,.tmp 40]) Tryz.call13 (.cons rfl (.cons rfl .nil))) (.nil : Sel [fz z62,stb zx 40 [(.int .i64 zg.1.fN),(.int .i64 zg.1.fD)],stb zz 42 [(.int .i64 zd.fN),(.int .i64 zd.fD),(.int .i64 ze.fN),(.int .i64 ze.fD)]] [] [fz z62,stb zx 40 [(.int .i64 zg.1.fN),(.int .i64 zg.1.fD)],stb zz 42 [(.int .i64 zd.fN),(.int .i64 zd.fD),(.int .i64 ze.fN),(.int .i64 ze.fD)]]) (fun w hw=>by have pz:=(hz.call2 hw (.nil : Sel [fz z62,stb zx 40 [(.int .i64 zg.1.fN),(.int .i64 zg.1.fD)],stb zz 42 [(.int .i64 zd.fN),(.int .i64 zd.fD),(.int .i64 ze.fN),(.int .i64 ze.fD)]] [] [fz z62,stb zx 40 [(.int .i64 zg.1.fN),(.int .i64 zg.1.fD)],stb zz 42 [(.int .i64 zd.fN),(.int .i64 zd.fD),(.int .i64 ze.fN),(.int .i64 ze.fD)]]) .here); exact w_calculus_Backlog (Z:=_) (z6L:=(some ⟨zAd,0,none⟩)) (z6M:=2) (z5y:=([([za] : List z1),([z1i] : List z1)] : List (List z1))) (zW:=(⟨zd,ze⟩ : S41)) (r:=zh) w pz znn zAb) ?_
 rintro z7p _
 refine WL.merge .here .here ?_
 refine WL.a (d:=36) rfl rfl rfl (q_m rfl) ?_
 refine WL.a (d:=42) rfl rfl rfl (q_extract rfl rfl) ?_
 refine WL.a (d:=43) rfl rfl rfl (q_extract rfl rfl) ?_
 refine WL.new (dd:=6) rfl rfl rfl (e_alloc (cs:=[(.int .i64 0),(.int .i64 0)]) zeroT_40 rfl) ?_
 intro zy _
 refine WL.eff0 rfl rfl (e_store (vs:=[(.int .i64 zh.1.fN),(.int .i64 zh.1.fD)]) (ds:=[(.int .i64 zh.1.fN),(.int .i64 zh.1.fD)]) sizT_40 rfl rfl rfl rfl (oc_cons rfl (oc_cons rfl oc_nil)) .here (Nat.le_of_ble_eq_true rfl) rfl) ?_
 refine WL.a (d:=7) rfl rfl rfl (q_z rfl) ?_
 refine WL.nil ?_
 refine WX.a ?_
 refine WC.b ?_
 obtain ⟨zAe,h⟩:=chk_elim h
 obtain ⟨ziI,zAf,h⟩:=z8 h
 obtain ⟨ziJ,zAg,h⟩:=z8 h
 obtain ⟨z21,zAh,h⟩:=z8 h
 obtain ⟨zp,zs7,h⟩:=z8 h
 refine WC.draw (fun i=>[15].contains i) [] rfl ?_
 refine WD.a (i:=0) (d:=45) (by kernel_rfl) rfl (z6 (by kernel_rfl)) (z7 (by kernel_rfl)) rfl rfl rfl (fun _=>q_m rfl) ?_
 refine WD.znth (j:=1) (dd:=46) (by kernel_rfl) rfl (z6 (by kernel_rfl)) (z7 (by kernel_rfl)) rfl rfl (Z:=(Z ++ (z62 ++ z7p))) (Pr:=(fun r x=>r = e54 x)) elT_23 rfl rfl (znk.mono (znl.trans (zeU.trans ((Zle.left _ _).trans ((Zle.assoc _ _ _).trans (ziS.trans ((Zle.left _ _).trans (Zle.assoc _ _ _)))))))) zAe ?_
 rintro zEc zEd zAi zEe rfl
 refine WD.e (i:=2) (d:=47) (by kernel_rfl) rfl (z6 (by kernel_rfl)) (z7 (by kernel_rfl)) rfl rfl rfl (q_loadA (cs:=[(.int .i64 (((nth ([za] : List z1) 0).fBurst).fN)),(.int .i64 (((nth ([za] : List z1) 0).fBurst).fD)),(.int .i64 (((nth ([za] : List z1) 0).fRate).fN)),(.int .i64 (((nth ([za] : List z1) 0).fRate).fD))]) aggT_54 rfl rfl (rd_zs (hz.pv2 .h1) zAi)) ?_
 refine WD.c (i:=3) (d:=48) (by kernel_rfl) rfl (z6 (by kernel_rfl)) (z7 (by kernel_rfl)) rfl rfl rfl (zi (l:=[.const (.int .i64 40),.const (.int .i64 1)]) Tryz.call20 (.cons rfl (.cons rfl .nil))) (fun w hw=>by have pz:=(hz.call2 hw (.nil : Sel [stb zy 40 [(.int .i64 zh.1.fN),(.int .i64 zh.1.fD)],fz (z62 ++ z7p),stb zx 40 [(.int .i64 zg.1.fN),(.int .i64 zg.1.fD)],stb zz 42 [(.int .i64 zd.fN),(.int .i64 zd.fD),(.int .i64 ze.fN),(.int .i64 ze.fD)]] [] [stb zy 40 [(.int .i64 zh.1.fN),(.int .i64 zh.1.fD)],fz (z62 ++ z7p),stb zx 40 [(.int .i64 zg.1.fN),(.int .i64 zg.1.fD)],stb zz 42 [(.int .i64 zd.fN),(.int .i64 zd.fD),(.int .i64 ze.fN),(.int .i64 ze.fD)]]) .h1); exact w_law03_num (Z:=_)  (n_16:=40) (d_17:=1) (r:=ziI) w pz  zAf) ?_
 refine WD.c (i:=4) (d:=49) (by kernel_rfl) rfl (z6 (by kernel_rfl)) (z7 (by kernel_rfl)) rfl rfl rfl (zi (l:=[.const (.int .i64 1),.const (.int .i64 1)]) Tryz.call20 (.cons rfl (.cons rfl .nil))) (fun w hw=>by have pz:=(hz.call2 hw (.nil : Sel [stb zy 40 [(.int .i64 zh.1.fN),(.int .i64 zh.1.fD)],fz (z62 ++ z7p),stb zx 40 [(.int .i64 zg.1.fN),(.int .i64 zg.1.fD)],stb zz 42 [(.int .i64 zd.fN),(.int .i64 zd.fD),(.int .i64 ze.fN),(.int .i64 ze.fD)]] [] [stb zy 40 [(.int .i64 zh.1.fN),(.int .i64 zh.1.fD)],fz (z62 ++ z7p),stb zx 40 [(.int .i64 zg.1.fN),(.int .i64 zg.1.fD)],stb zz 42 [(.int .i64 zd.fN),(.int .i64 zd.fD),(.int .i64 ze.fN),(.int .i64 ze.fD)]]) .h1); exact w_law03_num (Z:=_)  (n_16:=1) (d_17:=1) (r:=ziJ) w pz  zAg) ?_
 refine WD.c (i:=5) (d:=50) (by kernel_rfl) rfl (z6 (by kernel_rfl)) (z7 (by kernel_rfl)) rfl rfl rfl (zi (l:=[.tmp 48,.tmp 49]) Tryz.call19 (.cons rfl (.cons rfl .nil))) (fun w hw=>by have pz:=(hz.call2 hw (.nil : Sel [stb zy 40 [(.int .i64 zh.1.fN),(.int .i64 zh.1.fD)],fz (z62 ++ z7p),stb zx 40 [(.int .i64 zg.1.fN),(.int .i64 zg.1.fD)],stb zz 42 [(.int .i64 zd.fN),(.int .i64 zd.fD),(.int .i64 ze.fN),(.int .i64 ze.fD)]] [] [stb zy 40 [(.int .i64 zh.1.fN),(.int .i64 zh.1.fD)],fz (z62 ++ z7p),stb zx 40 [(.int .i64 zg.1.fN),(.int .i64 zg.1.fD)],stb zz 42 [(.int .i64 zd.fN),(.int .i64 zd.fD),(.int .i64 ze.fN),(.int .i64 ze.fD)]]) .h1); exact w_law03_bucket (Z:=_)  (b_27:=ziI) (r_28:=ziJ) (r:=z21) w pz  zAh) ?_
 refine WD.a (i:=7) (d:=52) (by kernel_rfl) rfl (z6 (by kernel_rfl)) (z7 (by kernel_rfl)) rfl rfl rfl (fun _=>q_m rfl) ?_
 refine WD.e (i:=9) (d:=54) (by kernel_rfl) rfl (z6 (by kernel_rfl)) (z7 (by kernel_rfl)) rfl rfl rfl (q_loadA (cs:=[(.int .i64 zd.fN),(.int .i64 zd.fD),(.int .i64 ze.fN),(.int .i64 ze.fD)]) aggT_42 rfl rfl (rd_all .h3)) ?_
 refine WD.mids6 (fuel':=0) (fun (b6o1_47992 : Nat) (Zn8o1_47992 : Zp) (b8o4_47992 : Nat) (Zn10o1_47992 : Zp) (Zn10o4_47992 : Zp) (b14o1_47992 : Nat)=>[(4,(.pointer (some ⟨zx,0,none⟩))),(5,(.int .i64 zg.2)),(6,(.pointer (some ⟨zy,0,none⟩))),(7,(.int .i64 zh.2)),(8,(.pointer (some ⟨b14o1_47992,0,none⟩))),(9,(.int .i64 zp.2))]) (fun (b6o1_47992 : Nat) (Zn8o1_47992 : Zp) (b8o4_47992 : Nat) (Zn10o1_47992 : Zp) (Zn10o4_47992 : Zp) (b14o1_47992 : Nat)=>[stb b14o1_47992 40 [(.int .i64 zp.1.fN),(.int .i64 zp.1.fD)],fz (Zn10o1_47992 ++ Zn10o4_47992),stb zy 40 [(.int .i64 zh.1.fN),(.int .i64 zh.1.fD)],stb zx 40 [(.int .i64 zg.1.fN),(.int .i64 zg.1.fD)],stb zz 42 [(.int .i64 zd.fN),(.int .i64 zd.fD),(.int .i64 ze.fN),(.int .i64 ze.fD)]]) (fun (b6o1_47992 : Nat) (Zn8o1_47992 : Zp) (b8o4_47992 : Nat) (Zn10o1_47992 : Zp) (Zn10o4_47992 : Zp) (b14o1_47992 : Nat)=>(Zle (Z ++ (z62 ++ z7p)) (Z ++ Zn8o1_47992)) ∧ (ZS (Z ++ Zn8o1_47992) 4 (fun r x=>r = e54 x) (some ⟨b6o1_47992,0,none⟩) 2 ([(⟨(⟨(((nth ([za] : List z1) 0).fBurst).fN),(((nth ([za] : List z1) 0).fBurst).fD)⟩ : z2),(⟨(((nth ([za] : List z1) 0).fRate).fN),(((nth ([za] : List z1) 0).fRate).fD)⟩ : z2)⟩ : z1),z21] : List z1)) ∧ (RR 1 (p23 (Z ++ Zn8o1_47992)) [(.slice (some ⟨b6o1_47992,0,none⟩) (([(⟨(⟨(((nth ([za] : List z1) 0).fBurst).fN),(((nth ([za] : List z1) 0).fBurst).fD)⟩ : z2),(⟨(((nth ([za] : List z1) 0).fRate).fN),(((nth ([za] : List z1) 0).fRate).fD)⟩ : z2)⟩ : z1),z21] : List z1).length) 2),(.slice (some ⟨z3y,0,none⟩) (([z1i] : List z1).length) 1)] ([([(⟨(⟨(((nth ([za] : List z1) 0).fBurst).fN),(((nth ([za] : List z1) 0).fBurst).fD)⟩ : z2),(⟨(((nth ([za] : List z1) 0).fRate).fN),(((nth ([za] : List z1) 0).fRate).fD)⟩ : z2)⟩ : z1),z21] : List z1),([z1i] : List z1)] : List (List z1))) ∧ (Zle (Z ++ Zn8o1_47992) (Z ++ Zn10o1_47992)) ∧ (ZS (Z ++ Zn10o1_47992) 1 (p23 (Z ++ Zn10o1_47992)) (some ⟨b8o4_47992,0,none⟩) 2 ([([(⟨(⟨(((nth ([za] : List z1) 0).fBurst).fN),(((nth ([za] : List z1) 0).fBurst).fD)⟩ : z2),(⟨(((nth ([za] : List z1) 0).fRate).fN),(((nth ([za] : List z1) 0).fRate).fD)⟩ : z2)⟩ : z1),z21] : List z1),([z1i] : List z1)] : List (List z1)))) (listedA 17 [16,15,14,13,12,11,10,8,6,9,7,5,4,3,2,1,0]) ?_ (fun K6o8o10o11o12o13o14o15o16_47992=>?_)
 ·skip
  rintro b6o1_47992 Zn8o1_47992 b8o4_47992 Zn10o1_47992 Zn10o4_47992 b14o1_47992 ⟨hle8o2_47992,hf8o3_47992,rel8o5_47992,hle10o2_47992,hf10o3_47992⟩
  refine WD.done (by kernel_rfl) ?_
  refine WX.a ?_
  refine WC.b ?_
  refine WC.a ?_
  refine WL.a (d:=58) rfl rfl rfl (q_build (v:=(.agg #[(.int .i64 0),(.int .i64 0),(.int .i64 10)])) (Eos.parts (l:=[.const (.int .i64 0),.const (.int .i64 10)]) (.cons rfl (.cons rfl .nil)) [0,2]) (fun _=>by kernel_rfl)) ?_
  refine WL.a (d:=59) rfl rfl rfl (q_build (v:=(.agg #[(.int .i64 3),(.int .i64 0),(.int .i64 10)])) (Eos.parts (l:=[.const (.int .i64 3),.const (.int .i64 10)]) (.cons rfl (.cons rfl .nil)) [0,2]) (fun _=>by kernel_rfl)) ?_
  refine WL.new (dd:=60) rfl rfl rfl (e_buildSlice (cs:=([(⟨0,0,10⟩ : Sapi_Sent),(⟨3,0,10⟩ : Sapi_Sent)] : List Sapi_Sent).flatMap e58) elT_24 (Eos.parts (l:=[.tmp 58,.tmp 59]) (.cons rfl (.cons rfl .nil)) [0,1]) (fun _=>by kernel_rfl) rfl (by unfold maxLen; omega)) ?_
  intro zR _
  refine WL.a (d:=10) rfl rfl rfl (q_z rfl) ?_
  refine WL.nil ?_
  refine WX.a ?_
  refine WC.b ?_
  obtain ⟨zq,zAj,h⟩:=z8 h
  refine WC.a ?_
  refine WL.a (d:=62) rfl rfl rfl (q_m rfl) ?_
  refine WL.enter2 (dd:=63) rfl rfl rfl (zi (l:=[.tmp 62,.const (.int .i64 2),.const (.int .i64 5)]) Tryz.call8 (.cons rfl (.cons rfl (.cons rfl .nil)))) (.nil : Sel [row (.slice (some ⟨zR,0,none⟩) (([(⟨0,0,10⟩ : Sapi_Sent),(⟨3,0,10⟩ : Sapi_Sent)] : List Sapi_Sent).length) 2) 58 3 (([(⟨0,0,10⟩ : Sapi_Sent),(⟨3,0,10⟩ : Sapi_Sent)] : List Sapi_Sent).flatMap e58),stb b14o1_47992 40 [(.int .i64 zp.1.fN),(.int .i64 zp.1.fD)],fz (Zn10o1_47992 ++ Zn10o4_47992),stb zy 40 [(.int .i64 zh.1.fN),(.int .i64 zh.1.fD)],stb zx 40 [(.int .i64 zg.1.fN),(.int .i64 zg.1.fD)],stb zz 42 [(.int .i64 zd.fN),(.int .i64 zd.fD),(.int .i64 ze.fN),(.int .i64 ze.fD)]] [] [row (.slice (some ⟨zR,0,none⟩) (([(⟨0,0,10⟩ : Sapi_Sent),(⟨3,0,10⟩ : Sapi_Sent)] : List Sapi_Sent).length) 2) 58 3 (([(⟨0,0,10⟩ : Sapi_Sent),(⟨3,0,10⟩ : Sapi_Sent)] : List Sapi_Sent).flatMap e58),stb b14o1_47992 40 [(.int .i64 zp.1.fN),(.int .i64 zp.1.fD)],fz (Zn10o1_47992 ++ Zn10o4_47992),stb zy 40 [(.int .i64 zh.1.fN),(.int .i64 zh.1.fD)],stb zx 40 [(.int .i64 zg.1.fN),(.int .i64 zg.1.fD)],stb zz 42 [(.int .i64 zd.fN),(.int .i64 zd.fD),(.int .i64 ze.fN),(.int .i64 ze.fD)]]) (fun w hw=>by have pz:=(hz.call2 hw (.nil : Sel [row (.slice (some ⟨zR,0,none⟩) (([(⟨0,0,10⟩ : Sapi_Sent),(⟨3,0,10⟩ : Sapi_Sent)] : List Sapi_Sent).length) 2) 58 3 (([(⟨0,0,10⟩ : Sapi_Sent),(⟨3,0,10⟩ : Sapi_Sent)] : List Sapi_Sent).flatMap e58),stb b14o1_47992 40 [(.int .i64 zp.1.fN),(.int .i64 zp.1.fD)],fz (Zn10o1_47992 ++ Zn10o4_47992),stb zy 40 [(.int .i64 zh.1.fN),(.int .i64 zh.1.fD)],stb zx 40 [(.int .i64 zg.1.fN),(.int .i64 zg.1.fD)],stb zz 42 [(.int .i64 zd.fN),(.int .i64 zd.fD),(.int .i64 ze.fN),(.int .i64 ze.fD)]] [] [row (.slice (some ⟨zR,0,none⟩) (([(⟨0,0,10⟩ : Sapi_Sent),(⟨3,0,10⟩ : Sapi_Sent)] : List Sapi_Sent).length) 2) 58 3 (([(⟨0,0,10⟩ : Sapi_Sent),(⟨3,0,10⟩ : Sapi_Sent)] : List Sapi_Sent).flatMap e58),stb b14o1_47992 40 [(.int .i64 zp.1.fN),(.int .i64 zp.1.fD)],fz (Zn10o1_47992 ++ Zn10o4_47992),stb zy 40 [(.int .i64 zh.1.fN),(.int .i64 zh.1.fD)],stb zx 40 [(.int .i64 zg.1.fN),(.int .i64 zg.1.fD)],stb zz 42 [(.int .i64 zd.fN),(.int .i64 zd.fD),(.int .i64 ze.fN),(.int .i64 ze.fD)]]) .h2).lend hw (.nil : Sel [row (.slice (some ⟨zR,0,none⟩) (([(⟨0,0,10⟩ : Sapi_Sent),(⟨3,0,10⟩ : Sapi_Sent)] : List Sapi_Sent).length) 2) 58 3 (([(⟨0,0,10⟩ : Sapi_Sent),(⟨3,0,10⟩ : Sapi_Sent)] : List Sapi_Sent).flatMap e58),stb b14o1_47992 40 [(.int .i64 zp.1.fN),(.int .i64 zp.1.fD)],fz (Zn10o1_47992 ++ Zn10o4_47992),stb zy 40 [(.int .i64 zh.1.fN),(.int .i64 zh.1.fD)],stb zx 40 [(.int .i64 zg.1.fN),(.int .i64 zg.1.fD)],stb zz 42 [(.int .i64 zd.fN),(.int .i64 zd.fD),(.int .i64 ze.fN),(.int .i64 ze.fD)]] [] [row (.slice (some ⟨zR,0,none⟩) (([(⟨0,0,10⟩ : Sapi_Sent),(⟨3,0,10⟩ : Sapi_Sent)] : List Sapi_Sent).length) 2) 58 3 (([(⟨0,0,10⟩ : Sapi_Sent),(⟨3,0,10⟩ : Sapi_Sent)] : List Sapi_Sent).flatMap e58),stb b14o1_47992 40 [(.int .i64 zp.1.fN),(.int .i64 zp.1.fD)],fz (Zn10o1_47992 ++ Zn10o4_47992),stb zy 40 [(.int .i64 zh.1.fN),(.int .i64 zh.1.fD)],stb zx 40 [(.int .i64 zg.1.fN),(.int .i64 zg.1.fD)],stb zz 42 [(.int .i64 zd.fN),(.int .i64 zd.fD),(.int .i64 ze.fN),(.int .i64 ze.fD)]]) (B:=[row (.slice (some ⟨zR,0,none⟩) (([(⟨0,0,10⟩ : Sapi_Sent),(⟨3,0,10⟩ : Sapi_Sent)] : List Sapi_Sent).length) 2) 58 3 (([(⟨0,0,10⟩ : Sapi_Sent),(⟨3,0,10⟩ : Sapi_Sent)] : List Sapi_Sent).flatMap e58)]) (fun _ hx'=>((.cons .here .nil) : Sel _ [row (.slice (some ⟨zR,0,none⟩) (([(⟨0,0,10⟩ : Sapi_Sent),(⟨3,0,10⟩ : Sapi_Sent)] : List Sapi_Sent).length) 2) 58 3 (([(⟨0,0,10⟩ : Sapi_Sent),(⟨3,0,10⟩ : Sapi_Sent)] : List Sapi_Sent).flatMap e58)] _).mem hx'); exact w_calculus_Serve (Z:=_) (z8F:=(some ⟨zR,0,none⟩)) (z8G:=2) (z2b:=([(⟨0,0,10⟩ : Sapi_Sent),(⟨3,0,10⟩ : Sapi_Sent)] : List Sapi_Sent)) (z2K:=2) (z3k:=5) (r:=zq) w pz (ZA.row (hw.lent (.nil : Sel [row (.slice (some ⟨zR,0,none⟩) (([(⟨0,0,10⟩ : Sapi_Sent),(⟨3,0,10⟩ : Sapi_Sent)] : List Sapi_Sent).length) 2) 58 3 (([(⟨0,0,10⟩ : Sapi_Sent),(⟨3,0,10⟩ : Sapi_Sent)] : List Sapi_Sent).flatMap e58),stb b14o1_47992 40 [(.int .i64 zp.1.fN),(.int .i64 zp.1.fD)],fz (Zn10o1_47992 ++ Zn10o4_47992),stb zy 40 [(.int .i64 zh.1.fN),(.int .i64 zh.1.fD)],stb zx 40 [(.int .i64 zg.1.fN),(.int .i64 zg.1.fD)],stb zz 42 [(.int .i64 zd.fN),(.int .i64 zd.fD),(.int .i64 ze.fN),(.int .i64 ze.fD)]] [] [row (.slice (some ⟨zR,0,none⟩) (([(⟨0,0,10⟩ : Sapi_Sent),(⟨3,0,10⟩ : Sapi_Sent)] : List Sapi_Sent).length) 2) 58 3 (([(⟨0,0,10⟩ : Sapi_Sent),(⟨3,0,10⟩ : Sapi_Sent)] : List Sapi_Sent).flatMap e58),stb b14o1_47992 40 [(.int .i64 zp.1.fN),(.int .i64 zp.1.fD)],fz (Zn10o1_47992 ++ Zn10o4_47992),stb zy 40 [(.int .i64 zh.1.fN),(.int .i64 zh.1.fD)],stb zx 40 [(.int .i64 zg.1.fN),(.int .i64 zg.1.fD)],stb zz 42 [(.int .i64 zd.fN),(.int .i64 zd.fD),(.int .i64 ze.fN),(.int .i64 ze.fD)]]) (B:=[row (.slice (some ⟨zR,0,none⟩) (([(⟨0,0,10⟩ : Sapi_Sent),(⟨3,0,10⟩ : Sapi_Sent)] : List Sapi_Sent).length) 2) 58 3 (([(⟨0,0,10⟩ : Sapi_Sent),(⟨3,0,10⟩ : Sapi_Sent)] : List Sapi_Sent).flatMap e58)]) (fun _ hx'=>((.cons .here .nil) : Sel _ [row (.slice (some ⟨zR,0,none⟩) (([(⟨0,0,10⟩ : Sapi_Sent),(⟨3,0,10⟩ : Sapi_Sent)] : List Sapi_Sent).length) 2) 58 3 (([(⟨0,0,10⟩ : Sapi_Sent),(⟨3,0,10⟩ : Sapi_Sent)] : List Sapi_Sent).flatMap e58)] _).mem hx') (.head _) _) (RR.flat (enc:=e58) (fun _=>rfl) _) ⟨w,pz.1⟩) zAj) ?_
  rintro z1k z1l _
  refine WL.a (d:=61) rfl rfl rfl (q_m rfl) ?_
  refine WL.a (d:=64) rfl rfl rfl (q_extract rfl rfl) ?_
  refine WL.a (d:=65) rfl rfl rfl (q_extract rfl rfl) ?_
  refine WL.a (d:=11) rfl rfl rfl (q_z rfl) ?_
  refine WL.a (d:=12) rfl rfl rfl (q_z rfl) ?_
  refine WL.nil ?_
  refine WX.a ?_
  refine WC.b ?_
  obtain ⟨ziK,zAk,h⟩:=z8 h
  obtain ⟨ziL,zAl,h⟩:=z8 h
  obtain ⟨zr,zAm,h⟩:=z8 h
  obtain ⟨z7M,zAn,h⟩:=z8 h
  refine WC.a ?_
  refine WL.b (dd:=67) rfl rfl rfl (zi (l:=[.const (.int .i64 10),.const (.int .i64 1)]) Tryz.call20 (.cons rfl (.cons rfl .nil))) (.nil : Sel [row (.slice z1k zq.1.length z1l) 3 1 (zq.1.flatMap e3),row (.slice (some ⟨zR,0,none⟩) (([(⟨0,0,10⟩ : Sapi_Sent),(⟨3,0,10⟩ : Sapi_Sent)] : List Sapi_Sent).length) 2) 58 3 (([(⟨0,0,10⟩ : Sapi_Sent),(⟨3,0,10⟩ : Sapi_Sent)] : List Sapi_Sent).flatMap e58),stb b14o1_47992 40 [(.int .i64 zp.1.fN),(.int .i64 zp.1.fD)],fz (Zn10o1_47992 ++ Zn10o4_47992),stb zy 40 [(.int .i64 zh.1.fN),(.int .i64 zh.1.fD)],stb zx 40 [(.int .i64 zg.1.fN),(.int .i64 zg.1.fD)],stb zz 42 [(.int .i64 zd.fN),(.int .i64 zd.fD),(.int .i64 ze.fN),(.int .i64 ze.fD)]] [] [row (.slice z1k zq.1.length z1l) 3 1 (zq.1.flatMap e3),row (.slice (some ⟨zR,0,none⟩) (([(⟨0,0,10⟩ : Sapi_Sent),(⟨3,0,10⟩ : Sapi_Sent)] : List Sapi_Sent).length) 2) 58 3 (([(⟨0,0,10⟩ : Sapi_Sent),(⟨3,0,10⟩ : Sapi_Sent)] : List Sapi_Sent).flatMap e58),stb b14o1_47992 40 [(.int .i64 zp.1.fN),(.int .i64 zp.1.fD)],fz (Zn10o1_47992 ++ Zn10o4_47992),stb zy 40 [(.int .i64 zh.1.fN),(.int .i64 zh.1.fD)],stb zx 40 [(.int .i64 zg.1.fN),(.int .i64 zg.1.fD)],stb zz 42 [(.int .i64 zd.fN),(.int .i64 zd.fD),(.int .i64 ze.fN),(.int .i64 ze.fD)]]) (fun w hw=>by have pz:=(hz.call2 hw (.nil : Sel [row (.slice z1k zq.1.length z1l) 3 1 (zq.1.flatMap e3),row (.slice (some ⟨zR,0,none⟩) (([(⟨0,0,10⟩ : Sapi_Sent),(⟨3,0,10⟩ : Sapi_Sent)] : List Sapi_Sent).length) 2) 58 3 (([(⟨0,0,10⟩ : Sapi_Sent),(⟨3,0,10⟩ : Sapi_Sent)] : List Sapi_Sent).flatMap e58),stb b14o1_47992 40 [(.int .i64 zp.1.fN),(.int .i64 zp.1.fD)],fz (Zn10o1_47992 ++ Zn10o4_47992),stb zy 40 [(.int .i64 zh.1.fN),(.int .i64 zh.1.fD)],stb zx 40 [(.int .i64 zg.1.fN),(.int .i64 zg.1.fD)],stb zz 42 [(.int .i64 zd.fN),(.int .i64 zd.fD),(.int .i64 ze.fN),(.int .i64 ze.fD)]] [] [row (.slice z1k zq.1.length z1l) 3 1 (zq.1.flatMap e3),row (.slice (some ⟨zR,0,none⟩) (([(⟨0,0,10⟩ : Sapi_Sent),(⟨3,0,10⟩ : Sapi_Sent)] : List Sapi_Sent).length) 2) 58 3 (([(⟨0,0,10⟩ : Sapi_Sent),(⟨3,0,10⟩ : Sapi_Sent)] : List Sapi_Sent).flatMap e58),stb b14o1_47992 40 [(.int .i64 zp.1.fN),(.int .i64 zp.1.fD)],fz (Zn10o1_47992 ++ Zn10o4_47992),stb zy 40 [(.int .i64 zh.1.fN),(.int .i64 zh.1.fD)],stb zx 40 [(.int .i64 zg.1.fN),(.int .i64 zg.1.fD)],stb zz 42 [(.int .i64 zd.fN),(.int .i64 zd.fD),(.int .i64 ze.fN),(.int .i64 ze.fD)]]) .h3); exact w_law03_num (Z:=_)  (n_16:=10) (d_17:=1) (r:=ziK) w pz  zAk) ?_
  refine WL.b (dd:=68) rfl rfl rfl (zi (l:=[.const (.int .i64 4),.const (.int .i64 1)]) Tryz.call20 (.cons rfl (.cons rfl .nil))) (.nil : Sel [row (.slice z1k zq.1.length z1l) 3 1 (zq.1.flatMap e3),row (.slice (some ⟨zR,0,none⟩) (([(⟨0,0,10⟩ : Sapi_Sent),(⟨3,0,10⟩ : Sapi_Sent)] : List Sapi_Sent).length) 2) 58 3 (([(⟨0,0,10⟩ : Sapi_Sent),(⟨3,0,10⟩ : Sapi_Sent)] : List Sapi_Sent).flatMap e58),stb b14o1_47992 40 [(.int .i64 zp.1.fN),(.int .i64 zp.1.fD)],fz (Zn10o1_47992 ++ Zn10o4_47992),stb zy 40 [(.int .i64 zh.1.fN),(.int .i64 zh.1.fD)],stb zx 40 [(.int .i64 zg.1.fN),(.int .i64 zg.1.fD)],stb zz 42 [(.int .i64 zd.fN),(.int .i64 zd.fD),(.int .i64 ze.fN),(.int .i64 ze.fD)]] [] [row (.slice z1k zq.1.length z1l) 3 1 (zq.1.flatMap e3),row (.slice (some ⟨zR,0,none⟩) (([(⟨0,0,10⟩ : Sapi_Sent),(⟨3,0,10⟩ : Sapi_Sent)] : List Sapi_Sent).length) 2) 58 3 (([(⟨0,0,10⟩ : Sapi_Sent),(⟨3,0,10⟩ : Sapi_Sent)] : List Sapi_Sent).flatMap e58),stb b14o1_47992 40 [(.int .i64 zp.1.fN),(.int .i64 zp.1.fD)],fz (Zn10o1_47992 ++ Zn10o4_47992),stb zy 40 [(.int .i64 zh.1.fN),(.int .i64 zh.1.fD)],stb zx 40 [(.int .i64 zg.1.fN),(.int .i64 zg.1.fD)],stb zz 42 [(.int .i64 zd.fN),(.int .i64 zd.fD),(.int .i64 ze.fN),(.int .i64 ze.fD)]]) (fun w hw=>by have pz:=(hz.call2 hw (.nil : Sel [row (.slice z1k zq.1.length z1l) 3 1 (zq.1.flatMap e3),row (.slice (some ⟨zR,0,none⟩) (([(⟨0,0,10⟩ : Sapi_Sent),(⟨3,0,10⟩ : Sapi_Sent)] : List Sapi_Sent).length) 2) 58 3 (([(⟨0,0,10⟩ : Sapi_Sent),(⟨3,0,10⟩ : Sapi_Sent)] : List Sapi_Sent).flatMap e58),stb b14o1_47992 40 [(.int .i64 zp.1.fN),(.int .i64 zp.1.fD)],fz (Zn10o1_47992 ++ Zn10o4_47992),stb zy 40 [(.int .i64 zh.1.fN),(.int .i64 zh.1.fD)],stb zx 40 [(.int .i64 zg.1.fN),(.int .i64 zg.1.fD)],stb zz 42 [(.int .i64 zd.fN),(.int .i64 zd.fD),(.int .i64 ze.fN),(.int .i64 ze.fD)]] [] [row (.slice z1k zq.1.length z1l) 3 1 (zq.1.flatMap e3),row (.slice (some ⟨zR,0,none⟩) (([(⟨0,0,10⟩ : Sapi_Sent),(⟨3,0,10⟩ : Sapi_Sent)] : List Sapi_Sent).length) 2) 58 3 (([(⟨0,0,10⟩ : Sapi_Sent),(⟨3,0,10⟩ : Sapi_Sent)] : List Sapi_Sent).flatMap e58),stb b14o1_47992 40 [(.int .i64 zp.1.fN),(.int .i64 zp.1.fD)],fz (Zn10o1_47992 ++ Zn10o4_47992),stb zy 40 [(.int .i64 zh.1.fN),(.int .i64 zh.1.fD)],stb zx 40 [(.int .i64 zg.1.fN),(.int .i64 zg.1.fD)],stb zz 42 [(.int .i64 zd.fN),(.int .i64 zd.fD),(.int .i64 ze.fN),(.int .i64 ze.fD)]]) .h3); exact w_law03_num (Z:=_)  (n_16:=4) (d_17:=1) (r:=ziL) w pz  zAl) ?_
  refine WL.b (dd:=69) rfl rfl rfl (zi (l:=[.tmp 67,.tmp 68]) Tryz.call19 (.cons rfl (.cons rfl .nil))) (.nil : Sel [row (.slice z1k zq.1.length z1l) 3 1 (zq.1.flatMap e3),row (.slice (some ⟨zR,0,none⟩) (([(⟨0,0,10⟩ : Sapi_Sent),(⟨3,0,10⟩ : Sapi_Sent)] : List Sapi_Sent).length) 2) 58 3 (([(⟨0,0,10⟩ : Sapi_Sent),(⟨3,0,10⟩ : Sapi_Sent)] : List Sapi_Sent).flatMap e58),stb b14o1_47992 40 [(.int .i64 zp.1.fN),(.int .i64 zp.1.fD)],fz (Zn10o1_47992 ++ Zn10o4_47992),stb zy 40 [(.int .i64 zh.1.fN),(.int .i64 zh.1.fD)],stb zx 40 [(.int .i64 zg.1.fN),(.int .i64 zg.1.fD)],stb zz 42 [(.int .i64 zd.fN),(.int .i64 zd.fD),(.int .i64 ze.fN),(.int .i64 ze.fD)]] [] [row (.slice z1k zq.1.length z1l) 3 1 (zq.1.flatMap e3),row (.slice (some ⟨zR,0,none⟩) (([(⟨0,0,10⟩ : Sapi_Sent),(⟨3,0,10⟩ : Sapi_Sent)] : List Sapi_Sent).length) 2) 58 3 (([(⟨0,0,10⟩ : Sapi_Sent),(⟨3,0,10⟩ : Sapi_Sent)] : List Sapi_Sent).flatMap e58),stb b14o1_47992 40 [(.int .i64 zp.1.fN),(.int .i64 zp.1.fD)],fz (Zn10o1_47992 ++ Zn10o4_47992),stb zy 40 [(.int .i64 zh.1.fN),(.int .i64 zh.1.fD)],stb zx 40 [(.int .i64 zg.1.fN),(.int .i64 zg.1.fD)],stb zz 42 [(.int .i64 zd.fN),(.int .i64 zd.fD),(.int .i64 ze.fN),(.int .i64 ze.fD)]]) (fun w hw=>by have pz:=(hz.call2 hw (.nil : Sel [row (.slice z1k zq.1.length z1l) 3 1 (zq.1.flatMap e3),row (.slice (some ⟨zR,0,none⟩) (([(⟨0,0,10⟩ : Sapi_Sent),(⟨3,0,10⟩ : Sapi_Sent)] : List Sapi_Sent).length) 2) 58 3 (([(⟨0,0,10⟩ : Sapi_Sent),(⟨3,0,10⟩ : Sapi_Sent)] : List Sapi_Sent).flatMap e58),stb b14o1_47992 40 [(.int .i64 zp.1.fN),(.int .i64 zp.1.fD)],fz (Zn10o1_47992 ++ Zn10o4_47992),stb zy 40 [(.int .i64 zh.1.fN),(.int .i64 zh.1.fD)],stb zx 40 [(.int .i64 zg.1.fN),(.int .i64 zg.1.fD)],stb zz 42 [(.int .i64 zd.fN),(.int .i64 zd.fD),(.int .i64 ze.fN),(.int .i64 ze.fD)]] [] [row (.slice z1k zq.1.length z1l) 3 1 (zq.1.flatMap e3),row (.slice (some ⟨zR,0,none⟩) (([(⟨0,0,10⟩ : Sapi_Sent),(⟨3,0,10⟩ : Sapi_Sent)] : List Sapi_Sent).length) 2) 58 3 (([(⟨0,0,10⟩ : Sapi_Sent),(⟨3,0,10⟩ : Sapi_Sent)] : List Sapi_Sent).flatMap e58),stb b14o1_47992 40 [(.int .i64 zp.1.fN),(.int .i64 zp.1.fD)],fz (Zn10o1_47992 ++ Zn10o4_47992),stb zy 40 [(.int .i64 zh.1.fN),(.int .i64 zh.1.fD)],stb zx 40 [(.int .i64 zg.1.fN),(.int .i64 zg.1.fD)],stb zz 42 [(.int .i64 zd.fN),(.int .i64 zd.fD),(.int .i64 ze.fN),(.int .i64 ze.fD)]]) .h3); exact w_law03_bucket (Z:=_)  (b_27:=ziK) (r_28:=ziL) (r:=zr) w pz  zAm) ?_
  refine WL.new (dd:=70) rfl rfl rfl (e_buildSlice (cs:=([zr] : List z1).flatMap e54) elT_23 (Eos.parts (l:=[.tmp 69]) (.cons rfl .nil) [0]) (fun _=>by kernel_rfl) rfl (by unfold maxLen; omega)) ?_
  intro z23 _
  refine WL.a (d:=71) rfl rfl rfl (q_m rfl) ?_
  refine WL.b (dd:=72) rfl rfl rfl (zi (l:=[.tmp 70,.tmp 71]) Tryz.call6 (.cons rfl (.cons rfl .nil))) (.nil : Sel [row (.slice (some ⟨z23,0,none⟩) (([zr] : List z1).length) 1) 54 4 (([zr] : List z1).flatMap e54),row (.slice z1k zq.1.length z1l) 3 1 (zq.1.flatMap e3),row (.slice (some ⟨zR,0,none⟩) (([(⟨0,0,10⟩ : Sapi_Sent),(⟨3,0,10⟩ : Sapi_Sent)] : List Sapi_Sent).length) 2) 58 3 (([(⟨0,0,10⟩ : Sapi_Sent),(⟨3,0,10⟩ : Sapi_Sent)] : List Sapi_Sent).flatMap e58),stb b14o1_47992 40 [(.int .i64 zp.1.fN),(.int .i64 zp.1.fD)],fz (Zn10o1_47992 ++ Zn10o4_47992),stb zy 40 [(.int .i64 zh.1.fN),(.int .i64 zh.1.fD)],stb zx 40 [(.int .i64 zg.1.fN),(.int .i64 zg.1.fD)],stb zz 42 [(.int .i64 zd.fN),(.int .i64 zd.fD),(.int .i64 ze.fN),(.int .i64 ze.fD)]] [] [row (.slice (some ⟨z23,0,none⟩) (([zr] : List z1).length) 1) 54 4 (([zr] : List z1).flatMap e54),row (.slice z1k zq.1.length z1l) 3 1 (zq.1.flatMap e3),row (.slice (some ⟨zR,0,none⟩) (([(⟨0,0,10⟩ : Sapi_Sent),(⟨3,0,10⟩ : Sapi_Sent)] : List Sapi_Sent).length) 2) 58 3 (([(⟨0,0,10⟩ : Sapi_Sent),(⟨3,0,10⟩ : Sapi_Sent)] : List Sapi_Sent).flatMap e58),stb b14o1_47992 40 [(.int .i64 zp.1.fN),(.int .i64 zp.1.fD)],fz (Zn10o1_47992 ++ Zn10o4_47992),stb zy 40 [(.int .i64 zh.1.fN),(.int .i64 zh.1.fD)],stb zx 40 [(.int .i64 zg.1.fN),(.int .i64 zg.1.fD)],stb zz 42 [(.int .i64 zd.fN),(.int .i64 zd.fD),(.int .i64 ze.fN),(.int .i64 ze.fD)]]) (fun w hw=>by have pz:=(hz.call2 hw (.nil : Sel [row (.slice (some ⟨z23,0,none⟩) (([zr] : List z1).length) 1) 54 4 (([zr] : List z1).flatMap e54),row (.slice z1k zq.1.length z1l) 3 1 (zq.1.flatMap e3),row (.slice (some ⟨zR,0,none⟩) (([(⟨0,0,10⟩ : Sapi_Sent),(⟨3,0,10⟩ : Sapi_Sent)] : List Sapi_Sent).length) 2) 58 3 (([(⟨0,0,10⟩ : Sapi_Sent),(⟨3,0,10⟩ : Sapi_Sent)] : List Sapi_Sent).flatMap e58),stb b14o1_47992 40 [(.int .i64 zp.1.fN),(.int .i64 zp.1.fD)],fz (Zn10o1_47992 ++ Zn10o4_47992),stb zy 40 [(.int .i64 zh.1.fN),(.int .i64 zh.1.fD)],stb zx 40 [(.int .i64 zg.1.fN),(.int .i64 zg.1.fD)],stb zz 42 [(.int .i64 zd.fN),(.int .i64 zd.fD),(.int .i64 ze.fN),(.int .i64 ze.fD)]] [] [row (.slice (some ⟨z23,0,none⟩) (([zr] : List z1).length) 1) 54 4 (([zr] : List z1).flatMap e54),row (.slice z1k zq.1.length z1l) 3 1 (zq.1.flatMap e3),row (.slice (some ⟨zR,0,none⟩) (([(⟨0,0,10⟩ : Sapi_Sent),(⟨3,0,10⟩ : Sapi_Sent)] : List Sapi_Sent).length) 2) 58 3 (([(⟨0,0,10⟩ : Sapi_Sent),(⟨3,0,10⟩ : Sapi_Sent)] : List Sapi_Sent).flatMap e58),stb b14o1_47992 40 [(.int .i64 zp.1.fN),(.int .i64 zp.1.fD)],fz (Zn10o1_47992 ++ Zn10o4_47992),stb zy 40 [(.int .i64 zh.1.fN),(.int .i64 zh.1.fD)],stb zx 40 [(.int .i64 zg.1.fN),(.int .i64 zg.1.fD)],stb zz 42 [(.int .i64 zd.fN),(.int .i64 zd.fD),(.int .i64 ze.fN),(.int .i64 ze.fD)]]) .h4).lend hw (.nil : Sel [row (.slice (some ⟨z23,0,none⟩) (([zr] : List z1).length) 1) 54 4 (([zr] : List z1).flatMap e54),row (.slice z1k zq.1.length z1l) 3 1 (zq.1.flatMap e3),row (.slice (some ⟨zR,0,none⟩) (([(⟨0,0,10⟩ : Sapi_Sent),(⟨3,0,10⟩ : Sapi_Sent)] : List Sapi_Sent).length) 2) 58 3 (([(⟨0,0,10⟩ : Sapi_Sent),(⟨3,0,10⟩ : Sapi_Sent)] : List Sapi_Sent).flatMap e58),stb b14o1_47992 40 [(.int .i64 zp.1.fN),(.int .i64 zp.1.fD)],fz (Zn10o1_47992 ++ Zn10o4_47992),stb zy 40 [(.int .i64 zh.1.fN),(.int .i64 zh.1.fD)],stb zx 40 [(.int .i64 zg.1.fN),(.int .i64 zg.1.fD)],stb zz 42 [(.int .i64 zd.fN),(.int .i64 zd.fD),(.int .i64 ze.fN),(.int .i64 ze.fD)]] [] [row (.slice (some ⟨z23,0,none⟩) (([zr] : List z1).length) 1) 54 4 (([zr] : List z1).flatMap e54),row (.slice z1k zq.1.length z1l) 3 1 (zq.1.flatMap e3),row (.slice (some ⟨zR,0,none⟩) (([(⟨0,0,10⟩ : Sapi_Sent),(⟨3,0,10⟩ : Sapi_Sent)] : List Sapi_Sent).length) 2) 58 3 (([(⟨0,0,10⟩ : Sapi_Sent),(⟨3,0,10⟩ : Sapi_Sent)] : List Sapi_Sent).flatMap e58),stb b14o1_47992 40 [(.int .i64 zp.1.fN),(.int .i64 zp.1.fD)],fz (Zn10o1_47992 ++ Zn10o4_47992),stb zy 40 [(.int .i64 zh.1.fN),(.int .i64 zh.1.fD)],stb zx 40 [(.int .i64 zg.1.fN),(.int .i64 zg.1.fD)],stb zz 42 [(.int .i64 zd.fN),(.int .i64 zd.fD),(.int .i64 ze.fN),(.int .i64 ze.fD)]]) (B:=[row (.slice (some ⟨z23,0,none⟩) (([zr] : List z1).length) 1) 54 4 (([zr] : List z1).flatMap e54),row (.slice (some ⟨zR,0,none⟩) (([(⟨0,0,10⟩ : Sapi_Sent),(⟨3,0,10⟩ : Sapi_Sent)] : List Sapi_Sent).length) 2) 58 3 (([(⟨0,0,10⟩ : Sapi_Sent),(⟨3,0,10⟩ : Sapi_Sent)] : List Sapi_Sent).flatMap e58)]) (fun _ hx'=>((.cons .here (.cons .h1 .nil)) : Sel _ [row (.slice (some ⟨z23,0,none⟩) (([zr] : List z1).length) 1) 54 4 (([zr] : List z1).flatMap e54),row (.slice (some ⟨zR,0,none⟩) (([(⟨0,0,10⟩ : Sapi_Sent),(⟨3,0,10⟩ : Sapi_Sent)] : List Sapi_Sent).length) 2) 58 3 (([(⟨0,0,10⟩ : Sapi_Sent),(⟨3,0,10⟩ : Sapi_Sent)] : List Sapi_Sent).flatMap e58)] _).mem hx'); exact w_calculus_Conforms (Z:=_) (z7n:=(some ⟨z23,0,none⟩)) (z7o:=1) (z7K:=(some ⟨zR,0,none⟩)) (z7L:=2) (z3t:=([zr] : List z1)) (zN:=([(⟨0,0,10⟩ : Sapi_Sent),(⟨3,0,10⟩ : Sapi_Sent)] : List Sapi_Sent)) (r:=z7M) w pz (ZA.row (hw.lent (.nil : Sel [row (.slice (some ⟨z23,0,none⟩) (([zr] : List z1).length) 1) 54 4 (([zr] : List z1).flatMap e54),row (.slice z1k zq.1.length z1l) 3 1 (zq.1.flatMap e3),row (.slice (some ⟨zR,0,none⟩) (([(⟨0,0,10⟩ : Sapi_Sent),(⟨3,0,10⟩ : Sapi_Sent)] : List Sapi_Sent).length) 2) 58 3 (([(⟨0,0,10⟩ : Sapi_Sent),(⟨3,0,10⟩ : Sapi_Sent)] : List Sapi_Sent).flatMap e58),stb b14o1_47992 40 [(.int .i64 zp.1.fN),(.int .i64 zp.1.fD)],fz (Zn10o1_47992 ++ Zn10o4_47992),stb zy 40 [(.int .i64 zh.1.fN),(.int .i64 zh.1.fD)],stb zx 40 [(.int .i64 zg.1.fN),(.int .i64 zg.1.fD)],stb zz 42 [(.int .i64 zd.fN),(.int .i64 zd.fD),(.int .i64 ze.fN),(.int .i64 ze.fD)]] [] [row (.slice (some ⟨z23,0,none⟩) (([zr] : List z1).length) 1) 54 4 (([zr] : List z1).flatMap e54),row (.slice z1k zq.1.length z1l) 3 1 (zq.1.flatMap e3),row (.slice (some ⟨zR,0,none⟩) (([(⟨0,0,10⟩ : Sapi_Sent),(⟨3,0,10⟩ : Sapi_Sent)] : List Sapi_Sent).length) 2) 58 3 (([(⟨0,0,10⟩ : Sapi_Sent),(⟨3,0,10⟩ : Sapi_Sent)] : List Sapi_Sent).flatMap e58),stb b14o1_47992 40 [(.int .i64 zp.1.fN),(.int .i64 zp.1.fD)],fz (Zn10o1_47992 ++ Zn10o4_47992),stb zy 40 [(.int .i64 zh.1.fN),(.int .i64 zh.1.fD)],stb zx 40 [(.int .i64 zg.1.fN),(.int .i64 zg.1.fD)],stb zz 42 [(.int .i64 zd.fN),(.int .i64 zd.fD),(.int .i64 ze.fN),(.int .i64 ze.fD)]]) (B:=[row (.slice (some ⟨z23,0,none⟩) (([zr] : List z1).length) 1) 54 4 (([zr] : List z1).flatMap e54),row (.slice (some ⟨zR,0,none⟩) (([(⟨0,0,10⟩ : Sapi_Sent),(⟨3,0,10⟩ : Sapi_Sent)] : List Sapi_Sent).length) 2) 58 3 (([(⟨0,0,10⟩ : Sapi_Sent),(⟨3,0,10⟩ : Sapi_Sent)] : List Sapi_Sent).flatMap e58)]) (fun _ hx'=>((.cons .here (.cons .h1 .nil)) : Sel _ [row (.slice (some ⟨z23,0,none⟩) (([zr] : List z1).length) 1) 54 4 (([zr] : List z1).flatMap e54),row (.slice (some ⟨zR,0,none⟩) (([(⟨0,0,10⟩ : Sapi_Sent),(⟨3,0,10⟩ : Sapi_Sent)] : List Sapi_Sent).length) 2) 58 3 (([(⟨0,0,10⟩ : Sapi_Sent),(⟨3,0,10⟩ : Sapi_Sent)] : List Sapi_Sent).flatMap e58)] _).mem hx') (.head _) _) (RR.flat (enc:=e54) (fun _=>rfl) _) ⟨w,pz.1⟩) (ZA.row (hw.lent (.nil : Sel [row (.slice (some ⟨z23,0,none⟩) (([zr] : List z1).length) 1) 54 4 (([zr] : List z1).flatMap e54),row (.slice z1k zq.1.length z1l) 3 1 (zq.1.flatMap e3),row (.slice (some ⟨zR,0,none⟩) (([(⟨0,0,10⟩ : Sapi_Sent),(⟨3,0,10⟩ : Sapi_Sent)] : List Sapi_Sent).length) 2) 58 3 (([(⟨0,0,10⟩ : Sapi_Sent),(⟨3,0,10⟩ : Sapi_Sent)] : List Sapi_Sent).flatMap e58),stb b14o1_47992 40 [(.int .i64 zp.1.fN),(.int .i64 zp.1.fD)],fz (Zn10o1_47992 ++ Zn10o4_47992),stb zy 40 [(.int .i64 zh.1.fN),(.int .i64 zh.1.fD)],stb zx 40 [(.int .i64 zg.1.fN),(.int .i64 zg.1.fD)],stb zz 42 [(.int .i64 zd.fN),(.int .i64 zd.fD),(.int .i64 ze.fN),(.int .i64 ze.fD)]] [] [row (.slice (some ⟨z23,0,none⟩) (([zr] : List z1).length) 1) 54 4 (([zr] : List z1).flatMap e54),row (.slice z1k zq.1.length z1l) 3 1 (zq.1.flatMap e3),row (.slice (some ⟨zR,0,none⟩) (([(⟨0,0,10⟩ : Sapi_Sent),(⟨3,0,10⟩ : Sapi_Sent)] : List Sapi_Sent).length) 2) 58 3 (([(⟨0,0,10⟩ : Sapi_Sent),(⟨3,0,10⟩ : Sapi_Sent)] : List Sapi_Sent).flatMap e58),stb b14o1_47992 40 [(.int .i64 zp.1.fN),(.int .i64 zp.1.fD)],fz (Zn10o1_47992 ++ Zn10o4_47992),stb zy 40 [(.int .i64 zh.1.fN),(.int .i64 zh.1.fD)],stb zx 40 [(.int .i64 zg.1.fN),(.int .i64 zg.1.fD)],stb zz 42 [(.int .i64 zd.fN),(.int .i64 zd.fD),(.int .i64 ze.fN),(.int .i64 ze.fD)]]) (B:=[row (.slice (some ⟨z23,0,none⟩) (([zr] : List z1).length) 1) 54 4 (([zr] : List z1).flatMap e54),row (.slice (some ⟨zR,0,none⟩) (([(⟨0,0,10⟩ : Sapi_Sent),(⟨3,0,10⟩ : Sapi_Sent)] : List Sapi_Sent).length) 2) 58 3 (([(⟨0,0,10⟩ : Sapi_Sent),(⟨3,0,10⟩ : Sapi_Sent)] : List Sapi_Sent).flatMap e58)]) (fun _ hx'=>((.cons .here (.cons .h1 .nil)) : Sel _ [row (.slice (some ⟨z23,0,none⟩) (([zr] : List z1).length) 1) 54 4 (([zr] : List z1).flatMap e54),row (.slice (some ⟨zR,0,none⟩) (([(⟨0,0,10⟩ : Sapi_Sent),(⟨3,0,10⟩ : Sapi_Sent)] : List Sapi_Sent).length) 2) 58 3 (([(⟨0,0,10⟩ : Sapi_Sent),(⟨3,0,10⟩ : Sapi_Sent)] : List Sapi_Sent).flatMap e58)] _).mem hx') (.tail _ (.head _)) _) (RR.flat (enc:=e58) (fun _=>rfl) _) ⟨w,pz.1⟩) zAn) ?_
  refine WL.a (d:=66) rfl rfl rfl (q_m rfl) ?_
  refine WL.a (d:=73) rfl rfl rfl (q_extract rfl rfl) ?_
  refine WL.a (d:=74) rfl rfl rfl (q_extract rfl rfl) ?_
  refine WL.a (d:=13) rfl rfl rfl (q_z rfl) ?_
  refine WL.a (d:=14) rfl rfl rfl (q_z rfl) ?_
  refine WL.nil ?_
  refine WX.a ?_
  refine WC.b ?_
  obtain ⟨ziM,zAo,h⟩:=z8 h
  obtain ⟨ziN,zAp,h⟩:=z8 h
  obtain ⟨z1B,zAq,h⟩:=z8 h
  obtain ⟨z8H,zAr,h⟩:=z8 h
  refine WC.a ?_
  refine WL.b (dd:=76) rfl rfl rfl (zi (l:=[.const (.int .i64 10),.const (.int .i64 1)]) Tryz.call20 (.cons rfl (.cons rfl .nil))) (.nil : Sel [row (.slice (some ⟨z23,0,none⟩) (([zr] : List z1).length) 1) 54 4 (([zr] : List z1).flatMap e54),row (.slice z1k zq.1.length z1l) 3 1 (zq.1.flatMap e3),row (.slice (some ⟨zR,0,none⟩) (([(⟨0,0,10⟩ : Sapi_Sent),(⟨3,0,10⟩ : Sapi_Sent)] : List Sapi_Sent).length) 2) 58 3 (([(⟨0,0,10⟩ : Sapi_Sent),(⟨3,0,10⟩ : Sapi_Sent)] : List Sapi_Sent).flatMap e58),stb b14o1_47992 40 [(.int .i64 zp.1.fN),(.int .i64 zp.1.fD)],fz (Zn10o1_47992 ++ Zn10o4_47992),stb zy 40 [(.int .i64 zh.1.fN),(.int .i64 zh.1.fD)],stb zx 40 [(.int .i64 zg.1.fN),(.int .i64 zg.1.fD)],stb zz 42 [(.int .i64 zd.fN),(.int .i64 zd.fD),(.int .i64 ze.fN),(.int .i64 ze.fD)]] [] [row (.slice (some ⟨z23,0,none⟩) (([zr] : List z1).length) 1) 54 4 (([zr] : List z1).flatMap e54),row (.slice z1k zq.1.length z1l) 3 1 (zq.1.flatMap e3),row (.slice (some ⟨zR,0,none⟩) (([(⟨0,0,10⟩ : Sapi_Sent),(⟨3,0,10⟩ : Sapi_Sent)] : List Sapi_Sent).length) 2) 58 3 (([(⟨0,0,10⟩ : Sapi_Sent),(⟨3,0,10⟩ : Sapi_Sent)] : List Sapi_Sent).flatMap e58),stb b14o1_47992 40 [(.int .i64 zp.1.fN),(.int .i64 zp.1.fD)],fz (Zn10o1_47992 ++ Zn10o4_47992),stb zy 40 [(.int .i64 zh.1.fN),(.int .i64 zh.1.fD)],stb zx 40 [(.int .i64 zg.1.fN),(.int .i64 zg.1.fD)],stb zz 42 [(.int .i64 zd.fN),(.int .i64 zd.fD),(.int .i64 ze.fN),(.int .i64 ze.fD)]]) (fun w hw=>by have pz:=(hz.call2 hw (.nil : Sel [row (.slice (some ⟨z23,0,none⟩) (([zr] : List z1).length) 1) 54 4 (([zr] : List z1).flatMap e54),row (.slice z1k zq.1.length z1l) 3 1 (zq.1.flatMap e3),row (.slice (some ⟨zR,0,none⟩) (([(⟨0,0,10⟩ : Sapi_Sent),(⟨3,0,10⟩ : Sapi_Sent)] : List Sapi_Sent).length) 2) 58 3 (([(⟨0,0,10⟩ : Sapi_Sent),(⟨3,0,10⟩ : Sapi_Sent)] : List Sapi_Sent).flatMap e58),stb b14o1_47992 40 [(.int .i64 zp.1.fN),(.int .i64 zp.1.fD)],fz (Zn10o1_47992 ++ Zn10o4_47992),stb zy 40 [(.int .i64 zh.1.fN),(.int .i64 zh.1.fD)],stb zx 40 [(.int .i64 zg.1.fN),(.int .i64 zg.1.fD)],stb zz 42 [(.int .i64 zd.fN),(.int .i64 zd.fD),(.int .i64 ze.fN),(.int .i64 ze.fD)]] [] [row (.slice (some ⟨z23,0,none⟩) (([zr] : List z1).length) 1) 54 4 (([zr] : List z1).flatMap e54),row (.slice z1k zq.1.length z1l) 3 1 (zq.1.flatMap e3),row (.slice (some ⟨zR,0,none⟩) (([(⟨0,0,10⟩ : Sapi_Sent),(⟨3,0,10⟩ : Sapi_Sent)] : List Sapi_Sent).length) 2) 58 3 (([(⟨0,0,10⟩ : Sapi_Sent),(⟨3,0,10⟩ : Sapi_Sent)] : List Sapi_Sent).flatMap e58),stb b14o1_47992 40 [(.int .i64 zp.1.fN),(.int .i64 zp.1.fD)],fz (Zn10o1_47992 ++ Zn10o4_47992),stb zy 40 [(.int .i64 zh.1.fN),(.int .i64 zh.1.fD)],stb zx 40 [(.int .i64 zg.1.fN),(.int .i64 zg.1.fD)],stb zz 42 [(.int .i64 zd.fN),(.int .i64 zd.fD),(.int .i64 ze.fN),(.int .i64 ze.fD)]]) .h4); exact w_law03_num (Z:=_)  (n_16:=10) (d_17:=1) (r:=ziM) w pz  zAo) ?_
  refine WL.b (dd:=77) rfl rfl rfl (zi (l:=[.const (.int .i64 3),.const (.int .i64 1)]) Tryz.call20 (.cons rfl (.cons rfl .nil))) (.nil : Sel [row (.slice (some ⟨z23,0,none⟩) (([zr] : List z1).length) 1) 54 4 (([zr] : List z1).flatMap e54),row (.slice z1k zq.1.length z1l) 3 1 (zq.1.flatMap e3),row (.slice (some ⟨zR,0,none⟩) (([(⟨0,0,10⟩ : Sapi_Sent),(⟨3,0,10⟩ : Sapi_Sent)] : List Sapi_Sent).length) 2) 58 3 (([(⟨0,0,10⟩ : Sapi_Sent),(⟨3,0,10⟩ : Sapi_Sent)] : List Sapi_Sent).flatMap e58),stb b14o1_47992 40 [(.int .i64 zp.1.fN),(.int .i64 zp.1.fD)],fz (Zn10o1_47992 ++ Zn10o4_47992),stb zy 40 [(.int .i64 zh.1.fN),(.int .i64 zh.1.fD)],stb zx 40 [(.int .i64 zg.1.fN),(.int .i64 zg.1.fD)],stb zz 42 [(.int .i64 zd.fN),(.int .i64 zd.fD),(.int .i64 ze.fN),(.int .i64 ze.fD)]] [] [row (.slice (some ⟨z23,0,none⟩) (([zr] : List z1).length) 1) 54 4 (([zr] : List z1).flatMap e54),row (.slice z1k zq.1.length z1l) 3 1 (zq.1.flatMap e3),row (.slice (some ⟨zR,0,none⟩) (([(⟨0,0,10⟩ : Sapi_Sent),(⟨3,0,10⟩ : Sapi_Sent)] : List Sapi_Sent).length) 2) 58 3 (([(⟨0,0,10⟩ : Sapi_Sent),(⟨3,0,10⟩ : Sapi_Sent)] : List Sapi_Sent).flatMap e58),stb b14o1_47992 40 [(.int .i64 zp.1.fN),(.int .i64 zp.1.fD)],fz (Zn10o1_47992 ++ Zn10o4_47992),stb zy 40 [(.int .i64 zh.1.fN),(.int .i64 zh.1.fD)],stb zx 40 [(.int .i64 zg.1.fN),(.int .i64 zg.1.fD)],stb zz 42 [(.int .i64 zd.fN),(.int .i64 zd.fD),(.int .i64 ze.fN),(.int .i64 ze.fD)]]) (fun w hw=>by have pz:=(hz.call2 hw (.nil : Sel [row (.slice (some ⟨z23,0,none⟩) (([zr] : List z1).length) 1) 54 4 (([zr] : List z1).flatMap e54),row (.slice z1k zq.1.length z1l) 3 1 (zq.1.flatMap e3),row (.slice (some ⟨zR,0,none⟩) (([(⟨0,0,10⟩ : Sapi_Sent),(⟨3,0,10⟩ : Sapi_Sent)] : List Sapi_Sent).length) 2) 58 3 (([(⟨0,0,10⟩ : Sapi_Sent),(⟨3,0,10⟩ : Sapi_Sent)] : List Sapi_Sent).flatMap e58),stb b14o1_47992 40 [(.int .i64 zp.1.fN),(.int .i64 zp.1.fD)],fz (Zn10o1_47992 ++ Zn10o4_47992),stb zy 40 [(.int .i64 zh.1.fN),(.int .i64 zh.1.fD)],stb zx 40 [(.int .i64 zg.1.fN),(.int .i64 zg.1.fD)],stb zz 42 [(.int .i64 zd.fN),(.int .i64 zd.fD),(.int .i64 ze.fN),(.int .i64 ze.fD)]] [] [row (.slice (some ⟨z23,0,none⟩) (([zr] : List z1).length) 1) 54 4 (([zr] : List z1).flatMap e54),row (.slice z1k zq.1.length z1l) 3 1 (zq.1.flatMap e3),row (.slice (some ⟨zR,0,none⟩) (([(⟨0,0,10⟩ : Sapi_Sent),(⟨3,0,10⟩ : Sapi_Sent)] : List Sapi_Sent).length) 2) 58 3 (([(⟨0,0,10⟩ : Sapi_Sent),(⟨3,0,10⟩ : Sapi_Sent)] : List Sapi_Sent).flatMap e58),stb b14o1_47992 40 [(.int .i64 zp.1.fN),(.int .i64 zp.1.fD)],fz (Zn10o1_47992 ++ Zn10o4_47992),stb zy 40 [(.int .i64 zh.1.fN),(.int .i64 zh.1.fD)],stb zx 40 [(.int .i64 zg.1.fN),(.int .i64 zg.1.fD)],stb zz 42 [(.int .i64 zd.fN),(.int .i64 zd.fD),(.int .i64 ze.fN),(.int .i64 ze.fD)]]) .h4); exact w_law03_num (Z:=_)  (n_16:=3) (d_17:=1) (r:=ziN) w pz  zAp) ?_
  refine WL.b (dd:=78) rfl rfl rfl (zi (l:=[.tmp 76,.tmp 77]) Tryz.call19 (.cons rfl (.cons rfl .nil))) (.nil : Sel [row (.slice (some ⟨z23,0,none⟩) (([zr] : List z1).length) 1) 54 4 (([zr] : List z1).flatMap e54),row (.slice z1k zq.1.length z1l) 3 1 (zq.1.flatMap e3),row (.slice (some ⟨zR,0,none⟩) (([(⟨0,0,10⟩ : Sapi_Sent),(⟨3,0,10⟩ : Sapi_Sent)] : List Sapi_Sent).length) 2) 58 3 (([(⟨0,0,10⟩ : Sapi_Sent),(⟨3,0,10⟩ : Sapi_Sent)] : List Sapi_Sent).flatMap e58),stb b14o1_47992 40 [(.int .i64 zp.1.fN),(.int .i64 zp.1.fD)],fz (Zn10o1_47992 ++ Zn10o4_47992),stb zy 40 [(.int .i64 zh.1.fN),(.int .i64 zh.1.fD)],stb zx 40 [(.int .i64 zg.1.fN),(.int .i64 zg.1.fD)],stb zz 42 [(.int .i64 zd.fN),(.int .i64 zd.fD),(.int .i64 ze.fN),(.int .i64 ze.fD)]] [] [row (.slice (some ⟨z23,0,none⟩) (([zr] : List z1).length) 1) 54 4 (([zr] : List z1).flatMap e54),row (.slice z1k zq.1.length z1l) 3 1 (zq.1.flatMap e3),row (.slice (some ⟨zR,0,none⟩) (([(⟨0,0,10⟩ : Sapi_Sent),(⟨3,0,10⟩ : Sapi_Sent)] : List Sapi_Sent).length) 2) 58 3 (([(⟨0,0,10⟩ : Sapi_Sent),(⟨3,0,10⟩ : Sapi_Sent)] : List Sapi_Sent).flatMap e58),stb b14o1_47992 40 [(.int .i64 zp.1.fN),(.int .i64 zp.1.fD)],fz (Zn10o1_47992 ++ Zn10o4_47992),stb zy 40 [(.int .i64 zh.1.fN),(.int .i64 zh.1.fD)],stb zx 40 [(.int .i64 zg.1.fN),(.int .i64 zg.1.fD)],stb zz 42 [(.int .i64 zd.fN),(.int .i64 zd.fD),(.int .i64 ze.fN),(.int .i64 ze.fD)]]) (fun w hw=>by have pz:=(hz.call2 hw (.nil : Sel [row (.slice (some ⟨z23,0,none⟩) (([zr] : List z1).length) 1) 54 4 (([zr] : List z1).flatMap e54),row (.slice z1k zq.1.length z1l) 3 1 (zq.1.flatMap e3),row (.slice (some ⟨zR,0,none⟩) (([(⟨0,0,10⟩ : Sapi_Sent),(⟨3,0,10⟩ : Sapi_Sent)] : List Sapi_Sent).length) 2) 58 3 (([(⟨0,0,10⟩ : Sapi_Sent),(⟨3,0,10⟩ : Sapi_Sent)] : List Sapi_Sent).flatMap e58),stb b14o1_47992 40 [(.int .i64 zp.1.fN),(.int .i64 zp.1.fD)],fz (Zn10o1_47992 ++ Zn10o4_47992),stb zy 40 [(.int .i64 zh.1.fN),(.int .i64 zh.1.fD)],stb zx 40 [(.int .i64 zg.1.fN),(.int .i64 zg.1.fD)],stb zz 42 [(.int .i64 zd.fN),(.int .i64 zd.fD),(.int .i64 ze.fN),(.int .i64 ze.fD)]] [] [row (.slice (some ⟨z23,0,none⟩) (([zr] : List z1).length) 1) 54 4 (([zr] : List z1).flatMap e54),row (.slice z1k zq.1.length z1l) 3 1 (zq.1.flatMap e3),row (.slice (some ⟨zR,0,none⟩) (([(⟨0,0,10⟩ : Sapi_Sent),(⟨3,0,10⟩ : Sapi_Sent)] : List Sapi_Sent).length) 2) 58 3 (([(⟨0,0,10⟩ : Sapi_Sent),(⟨3,0,10⟩ : Sapi_Sent)] : List Sapi_Sent).flatMap e58),stb b14o1_47992 40 [(.int .i64 zp.1.fN),(.int .i64 zp.1.fD)],fz (Zn10o1_47992 ++ Zn10o4_47992),stb zy 40 [(.int .i64 zh.1.fN),(.int .i64 zh.1.fD)],stb zx 40 [(.int .i64 zg.1.fN),(.int .i64 zg.1.fD)],stb zz 42 [(.int .i64 zd.fN),(.int .i64 zd.fD),(.int .i64 ze.fN),(.int .i64 ze.fD)]]) .h4); exact w_law03_bucket (Z:=_)  (b_27:=ziM) (r_28:=ziN) (r:=z1B) w pz  zAq) ?_
  refine WL.new (dd:=79) rfl rfl rfl (e_buildSlice (cs:=([z1B] : List z1).flatMap e54) elT_23 (Eos.parts (l:=[.tmp 78]) (.cons rfl .nil) [0]) (fun _=>by kernel_rfl) rfl (by unfold maxLen; omega)) ?_
  intro z3u _
  refine WL.a (d:=80) rfl rfl rfl (q_m rfl) ?_
  refine WL.b (dd:=81) rfl rfl rfl (zi (l:=[.tmp 79,.tmp 80]) Tryz.call6 (.cons rfl (.cons rfl .nil))) (.nil : Sel [row (.slice (some ⟨z3u,0,none⟩) (([z1B] : List z1).length) 1) 54 4 (([z1B] : List z1).flatMap e54),row (.slice (some ⟨z23,0,none⟩) (([zr] : List z1).length) 1) 54 4 (([zr] : List z1).flatMap e54),row (.slice z1k zq.1.length z1l) 3 1 (zq.1.flatMap e3),row (.slice (some ⟨zR,0,none⟩) (([(⟨0,0,10⟩ : Sapi_Sent),(⟨3,0,10⟩ : Sapi_Sent)] : List Sapi_Sent).length) 2) 58 3 (([(⟨0,0,10⟩ : Sapi_Sent),(⟨3,0,10⟩ : Sapi_Sent)] : List Sapi_Sent).flatMap e58),stb b14o1_47992 40 [(.int .i64 zp.1.fN),(.int .i64 zp.1.fD)],fz (Zn10o1_47992 ++ Zn10o4_47992),stb zy 40 [(.int .i64 zh.1.fN),(.int .i64 zh.1.fD)],stb zx 40 [(.int .i64 zg.1.fN),(.int .i64 zg.1.fD)],stb zz 42 [(.int .i64 zd.fN),(.int .i64 zd.fD),(.int .i64 ze.fN),(.int .i64 ze.fD)]] [] [row (.slice (some ⟨z3u,0,none⟩) (([z1B] : List z1).length) 1) 54 4 (([z1B] : List z1).flatMap e54),row (.slice (some ⟨z23,0,none⟩) (([zr] : List z1).length) 1) 54 4 (([zr] : List z1).flatMap e54),row (.slice z1k zq.1.length z1l) 3 1 (zq.1.flatMap e3),row (.slice (some ⟨zR,0,none⟩) (([(⟨0,0,10⟩ : Sapi_Sent),(⟨3,0,10⟩ : Sapi_Sent)] : List Sapi_Sent).length) 2) 58 3 (([(⟨0,0,10⟩ : Sapi_Sent),(⟨3,0,10⟩ : Sapi_Sent)] : List Sapi_Sent).flatMap e58),stb b14o1_47992 40 [(.int .i64 zp.1.fN),(.int .i64 zp.1.fD)],fz (Zn10o1_47992 ++ Zn10o4_47992),stb zy 40 [(.int .i64 zh.1.fN),(.int .i64 zh.1.fD)],stb zx 40 [(.int .i64 zg.1.fN),(.int .i64 zg.1.fD)],stb zz 42 [(.int .i64 zd.fN),(.int .i64 zd.fD),(.int .i64 ze.fN),(.int .i64 ze.fD)]]) (fun w hw=>by have pz:=(hz.call2 hw (.nil : Sel [row (.slice (some ⟨z3u,0,none⟩) (([z1B] : List z1).length) 1) 54 4 (([z1B] : List z1).flatMap e54),row (.slice (some ⟨z23,0,none⟩) (([zr] : List z1).length) 1) 54 4 (([zr] : List z1).flatMap e54),row (.slice z1k zq.1.length z1l) 3 1 (zq.1.flatMap e3),row (.slice (some ⟨zR,0,none⟩) (([(⟨0,0,10⟩ : Sapi_Sent),(⟨3,0,10⟩ : Sapi_Sent)] : List Sapi_Sent).length) 2) 58 3 (([(⟨0,0,10⟩ : Sapi_Sent),(⟨3,0,10⟩ : Sapi_Sent)] : List Sapi_Sent).flatMap e58),stb b14o1_47992 40 [(.int .i64 zp.1.fN),(.int .i64 zp.1.fD)],fz (Zn10o1_47992 ++ Zn10o4_47992),stb zy 40 [(.int .i64 zh.1.fN),(.int .i64 zh.1.fD)],stb zx 40 [(.int .i64 zg.1.fN),(.int .i64 zg.1.fD)],stb zz 42 [(.int .i64 zd.fN),(.int .i64 zd.fD),(.int .i64 ze.fN),(.int .i64 ze.fD)]] [] [row (.slice (some ⟨z3u,0,none⟩) (([z1B] : List z1).length) 1) 54 4 (([z1B] : List z1).flatMap e54),row (.slice (some ⟨z23,0,none⟩) (([zr] : List z1).length) 1) 54 4 (([zr] : List z1).flatMap e54),row (.slice z1k zq.1.length z1l) 3 1 (zq.1.flatMap e3),row (.slice (some ⟨zR,0,none⟩) (([(⟨0,0,10⟩ : Sapi_Sent),(⟨3,0,10⟩ : Sapi_Sent)] : List Sapi_Sent).length) 2) 58 3 (([(⟨0,0,10⟩ : Sapi_Sent),(⟨3,0,10⟩ : Sapi_Sent)] : List Sapi_Sent).flatMap e58),stb b14o1_47992 40 [(.int .i64 zp.1.fN),(.int .i64 zp.1.fD)],fz (Zn10o1_47992 ++ Zn10o4_47992),stb zy 40 [(.int .i64 zh.1.fN),(.int .i64 zh.1.fD)],stb zx 40 [(.int .i64 zg.1.fN),(.int .i64 zg.1.fD)],stb zz 42 [(.int .i64 zd.fN),(.int .i64 zd.fD),(.int .i64 ze.fN),(.int .i64 ze.fD)]]) .h5).lend hw (.nil : Sel [row (.slice (some ⟨z3u,0,none⟩) (([z1B] : List z1).length) 1) 54 4 (([z1B] : List z1).flatMap e54),row (.slice (some ⟨z23,0,none⟩) (([zr] : List z1).length) 1) 54 4 (([zr] : List z1).flatMap e54),row (.slice z1k zq.1.length z1l) 3 1 (zq.1.flatMap e3),row (.slice (some ⟨zR,0,none⟩) (([(⟨0,0,10⟩ : Sapi_Sent),(⟨3,0,10⟩ : Sapi_Sent)] : List Sapi_Sent).length) 2) 58 3 (([(⟨0,0,10⟩ : Sapi_Sent),(⟨3,0,10⟩ : Sapi_Sent)] : List Sapi_Sent).flatMap e58),stb b14o1_47992 40 [(.int .i64 zp.1.fN),(.int .i64 zp.1.fD)],fz (Zn10o1_47992 ++ Zn10o4_47992),stb zy 40 [(.int .i64 zh.1.fN),(.int .i64 zh.1.fD)],stb zx 40 [(.int .i64 zg.1.fN),(.int .i64 zg.1.fD)],stb zz 42 [(.int .i64 zd.fN),(.int .i64 zd.fD),(.int .i64 ze.fN),(.int .i64 ze.fD)]] [] [row (.slice (some ⟨z3u,0,none⟩) (([z1B] : List z1).length) 1) 54 4 (([z1B] : List z1).flatMap e54),row (.slice (some ⟨z23,0,none⟩) (([zr] : List z1).length) 1) 54 4 (([zr] : List z1).flatMap e54),row (.slice z1k zq.1.length z1l) 3 1 (zq.1.flatMap e3),row (.slice (some ⟨zR,0,none⟩) (([(⟨0,0,10⟩ : Sapi_Sent),(⟨3,0,10⟩ : Sapi_Sent)] : List Sapi_Sent).length) 2) 58 3 (([(⟨0,0,10⟩ : Sapi_Sent),(⟨3,0,10⟩ : Sapi_Sent)] : List Sapi_Sent).flatMap e58),stb b14o1_47992 40 [(.int .i64 zp.1.fN),(.int .i64 zp.1.fD)],fz (Zn10o1_47992 ++ Zn10o4_47992),stb zy 40 [(.int .i64 zh.1.fN),(.int .i64 zh.1.fD)],stb zx 40 [(.int .i64 zg.1.fN),(.int .i64 zg.1.fD)],stb zz 42 [(.int .i64 zd.fN),(.int .i64 zd.fD),(.int .i64 ze.fN),(.int .i64 ze.fD)]]) (B:=[row (.slice (some ⟨z3u,0,none⟩) (([z1B] : List z1).length) 1) 54 4 (([z1B] : List z1).flatMap e54),row (.slice (some ⟨zR,0,none⟩) (([(⟨0,0,10⟩ : Sapi_Sent),(⟨3,0,10⟩ : Sapi_Sent)] : List Sapi_Sent).length) 2) 58 3 (([(⟨0,0,10⟩ : Sapi_Sent),(⟨3,0,10⟩ : Sapi_Sent)] : List Sapi_Sent).flatMap e58)]) (fun _ hx'=>((.cons .here (.cons .h2 .nil)) : Sel _ [row (.slice (some ⟨z3u,0,none⟩) (([z1B] : List z1).length) 1) 54 4 (([z1B] : List z1).flatMap e54),row (.slice (some ⟨zR,0,none⟩) (([(⟨0,0,10⟩ : Sapi_Sent),(⟨3,0,10⟩ : Sapi_Sent)] : List Sapi_Sent).length) 2) 58 3 (([(⟨0,0,10⟩ : Sapi_Sent),(⟨3,0,10⟩ : Sapi_Sent)] : List Sapi_Sent).flatMap e58)] _).mem hx'); exact w_calculus_Conforms (Z:=_) (z7n:=(some ⟨z3u,0,none⟩)) (z7o:=1) (z7K:=(some ⟨zR,0,none⟩)) (z7L:=2) (z3t:=([z1B] : List z1)) (zN:=([(⟨0,0,10⟩ : Sapi_Sent),(⟨3,0,10⟩ : Sapi_Sent)] : List Sapi_Sent)) (r:=z8H) w pz (ZA.row (hw.lent (.nil : Sel [row (.slice (some ⟨z3u,0,none⟩) (([z1B] : List z1).length) 1) 54 4 (([z1B] : List z1).flatMap e54),row (.slice (some ⟨z23,0,none⟩) (([zr] : List z1).length) 1) 54 4 (([zr] : List z1).flatMap e54),row (.slice z1k zq.1.length z1l) 3 1 (zq.1.flatMap e3),row (.slice (some ⟨zR,0,none⟩) (([(⟨0,0,10⟩ : Sapi_Sent),(⟨3,0,10⟩ : Sapi_Sent)] : List Sapi_Sent).length) 2) 58 3 (([(⟨0,0,10⟩ : Sapi_Sent),(⟨3,0,10⟩ : Sapi_Sent)] : List Sapi_Sent).flatMap e58),stb b14o1_47992 40 [(.int .i64 zp.1.fN),(.int .i64 zp.1.fD)],fz (Zn10o1_47992 ++ Zn10o4_47992),stb zy 40 [(.int .i64 zh.1.fN),(.int .i64 zh.1.fD)],stb zx 40 [(.int .i64 zg.1.fN),(.int .i64 zg.1.fD)],stb zz 42 [(.int .i64 zd.fN),(.int .i64 zd.fD),(.int .i64 ze.fN),(.int .i64 ze.fD)]] [] [row (.slice (some ⟨z3u,0,none⟩) (([z1B] : List z1).length) 1) 54 4 (([z1B] : List z1).flatMap e54),row (.slice (some ⟨z23,0,none⟩) (([zr] : List z1).length) 1) 54 4 (([zr] : List z1).flatMap e54),row (.slice z1k zq.1.length z1l) 3 1 (zq.1.flatMap e3),row (.slice (some ⟨zR,0,none⟩) (([(⟨0,0,10⟩ : Sapi_Sent),(⟨3,0,10⟩ : Sapi_Sent)] : List Sapi_Sent).length) 2) 58 3 (([(⟨0,0,10⟩ : Sapi_Sent),(⟨3,0,10⟩ : Sapi_Sent)] : List Sapi_Sent).flatMap e58),stb b14o1_47992 40 [(.int .i64 zp.1.fN),(.int .i64 zp.1.fD)],fz (Zn10o1_47992 ++ Zn10o4_47992),stb zy 40 [(.int .i64 zh.1.fN),(.int .i64 zh.1.fD)],stb zx 40 [(.int .i64 zg.1.fN),(.int .i64 zg.1.fD)],stb zz 42 [(.int .i64 zd.fN),(.int .i64 zd.fD),(.int .i64 ze.fN),(.int .i64 ze.fD)]]) (B:=[row (.slice (some ⟨z3u,0,none⟩) (([z1B] : List z1).length) 1) 54 4 (([z1B] : List z1).flatMap e54),row (.slice (some ⟨zR,0,none⟩) (([(⟨0,0,10⟩ : Sapi_Sent),(⟨3,0,10⟩ : Sapi_Sent)] : List Sapi_Sent).length) 2) 58 3 (([(⟨0,0,10⟩ : Sapi_Sent),(⟨3,0,10⟩ : Sapi_Sent)] : List Sapi_Sent).flatMap e58)]) (fun _ hx'=>((.cons .here (.cons .h2 .nil)) : Sel _ [row (.slice (some ⟨z3u,0,none⟩) (([z1B] : List z1).length) 1) 54 4 (([z1B] : List z1).flatMap e54),row (.slice (some ⟨zR,0,none⟩) (([(⟨0,0,10⟩ : Sapi_Sent),(⟨3,0,10⟩ : Sapi_Sent)] : List Sapi_Sent).length) 2) 58 3 (([(⟨0,0,10⟩ : Sapi_Sent),(⟨3,0,10⟩ : Sapi_Sent)] : List Sapi_Sent).flatMap e58)] _).mem hx') (.head _) _) (RR.flat (enc:=e54) (fun _=>rfl) _) ⟨w,pz.1⟩) (ZA.row (hw.lent (.nil : Sel [row (.slice (some ⟨z3u,0,none⟩) (([z1B] : List z1).length) 1) 54 4 (([z1B] : List z1).flatMap e54),row (.slice (some ⟨z23,0,none⟩) (([zr] : List z1).length) 1) 54 4 (([zr] : List z1).flatMap e54),row (.slice z1k zq.1.length z1l) 3 1 (zq.1.flatMap e3),row (.slice (some ⟨zR,0,none⟩) (([(⟨0,0,10⟩ : Sapi_Sent),(⟨3,0,10⟩ : Sapi_Sent)] : List Sapi_Sent).length) 2) 58 3 (([(⟨0,0,10⟩ : Sapi_Sent),(⟨3,0,10⟩ : Sapi_Sent)] : List Sapi_Sent).flatMap e58),stb b14o1_47992 40 [(.int .i64 zp.1.fN),(.int .i64 zp.1.fD)],fz (Zn10o1_47992 ++ Zn10o4_47992),stb zy 40 [(.int .i64 zh.1.fN),(.int .i64 zh.1.fD)],stb zx 40 [(.int .i64 zg.1.fN),(.int .i64 zg.1.fD)],stb zz 42 [(.int .i64 zd.fN),(.int .i64 zd.fD),(.int .i64 ze.fN),(.int .i64 ze.fD)]] [] [row (.slice (some ⟨z3u,0,none⟩) (([z1B] : List z1).length) 1) 54 4 (([z1B] : List z1).flatMap e54),row (.slice (some ⟨z23,0,none⟩) (([zr] : List z1).length) 1) 54 4 (([zr] : List z1).flatMap e54),row (.slice z1k zq.1.length z1l) 3 1 (zq.1.flatMap e3),row (.slice (some ⟨zR,0,none⟩) (([(⟨0,0,10⟩ : Sapi_Sent),(⟨3,0,10⟩ : Sapi_Sent)] : List Sapi_Sent).length) 2) 58 3 (([(⟨0,0,10⟩ : Sapi_Sent),(⟨3,0,10⟩ : Sapi_Sent)] : List Sapi_Sent).flatMap e58),stb b14o1_47992 40 [(.int .i64 zp.1.fN),(.int .i64 zp.1.fD)],fz (Zn10o1_47992 ++ Zn10o4_47992),stb zy 40 [(.int .i64 zh.1.fN),(.int .i64 zh.1.fD)],stb zx 40 [(.int .i64 zg.1.fN),(.int .i64 zg.1.fD)],stb zz 42 [(.int .i64 zd.fN),(.int .i64 zd.fD),(.int .i64 ze.fN),(.int .i64 ze.fD)]]) (B:=[row (.slice (some ⟨z3u,0,none⟩) (([z1B] : List z1).length) 1) 54 4 (([z1B] : List z1).flatMap e54),row (.slice (some ⟨zR,0,none⟩) (([(⟨0,0,10⟩ : Sapi_Sent),(⟨3,0,10⟩ : Sapi_Sent)] : List Sapi_Sent).length) 2) 58 3 (([(⟨0,0,10⟩ : Sapi_Sent),(⟨3,0,10⟩ : Sapi_Sent)] : List Sapi_Sent).flatMap e58)]) (fun _ hx'=>((.cons .here (.cons .h2 .nil)) : Sel _ [row (.slice (some ⟨z3u,0,none⟩) (([z1B] : List z1).length) 1) 54 4 (([z1B] : List z1).flatMap e54),row (.slice (some ⟨zR,0,none⟩) (([(⟨0,0,10⟩ : Sapi_Sent),(⟨3,0,10⟩ : Sapi_Sent)] : List Sapi_Sent).length) 2) 58 3 (([(⟨0,0,10⟩ : Sapi_Sent),(⟨3,0,10⟩ : Sapi_Sent)] : List Sapi_Sent).flatMap e58)] _).mem hx') (.tail _ (.head _)) _) (RR.flat (enc:=e58) (fun _=>rfl) _) ⟨w,pz.1⟩) zAr) ?_
  refine WL.a (d:=75) rfl rfl rfl (q_m rfl) ?_
  refine WL.a (d:=82) rfl rfl rfl (q_extract rfl rfl) ?_
  refine WL.a (d:=83) rfl rfl rfl (q_extract rfl rfl) ?_
  refine WL.a (d:=15) rfl rfl rfl (q_z rfl) ?_
  refine WL.a (d:=16) rfl rfl rfl (q_z rfl) ?_
  refine WL.nil ?_
  refine WX.a ?_
  refine WC.b ?_
  obtain ⟨zgA,zs8,h⟩:=z8 h
  obtain ⟨zgB,zs9,h⟩:=z8 h
  obtain ⟨zgC,zsa,h⟩:=z8 h
  obtain ⟨zb0,zsb,h⟩:=z8 h
  refine WC.draw (fun i=>[].contains i) [] rfl ?_
  refine WD.a (i:=0) (d:=84) (by kernel_rfl) rfl (z6 (by kernel_rfl)) (z7 (by kernel_rfl)) rfl rfl rfl (fun _=>q_m rfl) ?_
  refine WD.a (i:=1) (d:=85) (by kernel_rfl) rfl (z6 (by kernel_rfl)) (z7 (by kernel_rfl)) rfl rfl rfl (fun _=>q_m rfl) ?_
  refine WD.a (i:=2) (d:=86) (by kernel_rfl) rfl (z6 (by kernel_rfl)) (z7 (by kernel_rfl)) rfl rfl rfl (fun _=>q_add rfl rfl rfl) ?_
  refine WD.a (i:=3) (d:=87) (by kernel_rfl) rfl (z6 (by kernel_rfl)) (z7 (by kernel_rfl)) rfl rfl rfl (fun _=>q_m rfl) ?_
  refine WD.a (i:=4) (d:=88) (by kernel_rfl) rfl (z6 (by kernel_rfl)) (z7 (by kernel_rfl)) rfl rfl rfl (fun _=>q_add rfl rfl rfl) ?_
  refine WD.a (i:=5) (d:=89) (by kernel_rfl) rfl (z6 (by kernel_rfl)) (z7 (by kernel_rfl)) rfl rfl rfl (fun _=>q_m rfl) ?_
  refine WD.a (i:=6) (d:=90) (by kernel_rfl) rfl (z6 (by kernel_rfl)) (z7 (by kernel_rfl)) rfl rfl rfl (fun _=>q_add rfl rfl rfl) ?_
  refine WD.a (i:=7) (d:=91) (by kernel_rfl) rfl (z6 (by kernel_rfl)) (z7 (by kernel_rfl)) rfl rfl rfl (fun _=>q_m rfl) ?_
  refine WD.a (i:=8) (d:=92) (by kernel_rfl) rfl (z6 (by kernel_rfl)) (z7 (by kernel_rfl)) rfl rfl rfl (fun _=>q_add rfl rfl rfl) ?_
  refine WD.a (i:=9) (d:=93) (by kernel_rfl) rfl (z6 (by kernel_rfl)) (z7 (by kernel_rfl)) rfl rfl rfl (fun _=>q_m rfl) ?_
  refine WD.a (i:=10) (d:=94) (by kernel_rfl) rfl (z6 (by kernel_rfl)) (z7 (by kernel_rfl)) rfl rfl rfl (fun _=>q_add rfl rfl rfl) ?_
  refine WD.a (i:=11) (d:=95) (by kernel_rfl) rfl (z6 (by kernel_rfl)) (z7 (by kernel_rfl)) rfl rfl rfl (fun _=>q_eql rfl rfl) ?_
  refine WD.a (i:=12) (d:=96) (by kernel_rfl) rfl (z6 (by kernel_rfl)) (z7 (by kernel_rfl)) rfl rfl rfl (fun _=>q_m rfl) ?_
  refine WD.mid (fuel':=23) [(6,(.pointer (some ⟨zy,0,none⟩))),(8,(.pointer (some ⟨b14o1_47992,0,none⟩))),(11,(.slice z1k zq.1.length z1l)),(13,(.bool z7M.1)),(15,(.bool z8H.1)),(96,(.bool (decide ((i64 ((i64 ((i64 ((i64 ((i64 (zg.2 + zh.2)) + zp.2)) + zq.2)) + z7M.2)) + z8H.2)) = 0)))),(100,(.bool zgA))] (listedA 40 [16,15,14,13,12,11,10,9,8,7,6,5,4,3,2,1,0]) ?_ (fun zsc=>?_)
  rotate_left
  ·rcases Bool.eq_false_or_eq_true (decide ((i64 ((i64 ((i64 ((i64 ((i64 (zg.2 + zh.2)) + zp.2)) + zq.2)) + z7M.2)) + z8H.2)) = 0)) with hb' | hb'
   ·have zno:=hb'; clear hb'
    have zgE:=ite_t zs8 zno
    obtain ⟨ziO,zAs,zgE⟩:=z8 zgE
    replace zgE:=Option.some.inj zgE
    refine WD.pin (i:=96) rfl zno ?_
    refine WD.e (i:=13) (d:=97) (by kernel_rfl) rfl (z6 (by kernel_rfl)) (z7 (by kernel_rfl)) rfl rfl rfl (q_loadA (cs:=[(.int .i64 zg.1.fN),(.int .i64 zg.1.fD)]) aggT_40 rfl rfl (rd_all .h7)) ?_
    refine WD.c (i:=14) (d:=98) (by kernel_rfl) rfl (z6 (by kernel_rfl)) (z7 (by kernel_rfl)) rfl rfl rfl (zi (l:=[.const (.int .i64 176),.const (.int .i64 1)]) Tryz.call20 (.cons rfl (.cons rfl .nil))) (fun w hw=>by have pz:=(hz.call2 hw (.nil : Sel [row (.slice (some ⟨z3u,0,none⟩) (([z1B] : List z1).length) 1) 54 4 (([z1B] : List z1).flatMap e54),row (.slice (some ⟨z23,0,none⟩) (([zr] : List z1).length) 1) 54 4 (([zr] : List z1).flatMap e54),row (.slice z1k zq.1.length z1l) 3 1 (zq.1.flatMap e3),row (.slice (some ⟨zR,0,none⟩) (([(⟨0,0,10⟩ : Sapi_Sent),(⟨3,0,10⟩ : Sapi_Sent)] : List Sapi_Sent).length) 2) 58 3 (([(⟨0,0,10⟩ : Sapi_Sent),(⟨3,0,10⟩ : Sapi_Sent)] : List Sapi_Sent).flatMap e58),stb b14o1_47992 40 [(.int .i64 zp.1.fN),(.int .i64 zp.1.fD)],fz (Zn10o1_47992 ++ Zn10o4_47992),stb zy 40 [(.int .i64 zh.1.fN),(.int .i64 zh.1.fD)],stb zx 40 [(.int .i64 zg.1.fN),(.int .i64 zg.1.fD)],stb zz 42 [(.int .i64 zd.fN),(.int .i64 zd.fD),(.int .i64 ze.fN),(.int .i64 ze.fD)]] [] [row (.slice (some ⟨z3u,0,none⟩) (([z1B] : List z1).length) 1) 54 4 (([z1B] : List z1).flatMap e54),row (.slice (some ⟨z23,0,none⟩) (([zr] : List z1).length) 1) 54 4 (([zr] : List z1).flatMap e54),row (.slice z1k zq.1.length z1l) 3 1 (zq.1.flatMap e3),row (.slice (some ⟨zR,0,none⟩) (([(⟨0,0,10⟩ : Sapi_Sent),(⟨3,0,10⟩ : Sapi_Sent)] : List Sapi_Sent).length) 2) 58 3 (([(⟨0,0,10⟩ : Sapi_Sent),(⟨3,0,10⟩ : Sapi_Sent)] : List Sapi_Sent).flatMap e58),stb b14o1_47992 40 [(.int .i64 zp.1.fN),(.int .i64 zp.1.fD)],fz (Zn10o1_47992 ++ Zn10o4_47992),stb zy 40 [(.int .i64 zh.1.fN),(.int .i64 zh.1.fD)],stb zx 40 [(.int .i64 zg.1.fN),(.int .i64 zg.1.fD)],stb zz 42 [(.int .i64 zd.fN),(.int .i64 zd.fD),(.int .i64 ze.fN),(.int .i64 ze.fD)]]) .h5); exact w_law03_num (Z:=_)  (n_16:=176) (d_17:=1) (r:=ziO) w pz  zAs) ?_
    refine WD.a (i:=15) (d:=99) (by kernel_rfl) rfl (z6 (by kernel_rfl)) (z7 (by kernel_rfl)) rfl rfl rfl (fun _=>q_aggeql (enc:=e40) (a:=zg.1) (b:=ziO) eqT_40 rfl rfl) ?_
    refine WD.a (i:=16) (d:=100) (by kernel_rfl) rfl (z6 (by kernel_rfl)) (z7 (by kernel_rfl)) rfl rfl rfl (fun _=>q_pickT rfl rfl) ?_
    refine WD.reL (.cons .here (.cons .here (.cons .here (.cons .here (.cons .here (.cons .here (.cons .here (.cons .here (.cons .here .nil))))))))) ?_ zsc
    exact (.cons rfl (.cons rfl (.cons rfl (.cons rfl (.cons rfl (.cons (zf (Eq.symm zno)) (.cons (zf zgE) .nil)))))))
   ·have znp:=hb'; clear hb'
    have znq:=ite_f zs8 znp
    replace znq:=Option.some.inj znq
    refine WD.pin (i:=96) rfl znp ?_
    refine WD.b (i:=13) (d:=97) (by kernel_rfl) rfl (z6 (by kernel_rfl)) (z7 (by kernel_rfl)) rfl rfl rfl ?_
    refine WD.b (i:=14) (d:=98) (by kernel_rfl) rfl (z6 (by kernel_rfl)) (z7 (by kernel_rfl)) rfl rfl rfl ?_
    refine WD.b (i:=15) (d:=99) (by kernel_rfl) rfl (z6 (by kernel_rfl)) (z7 (by kernel_rfl)) rfl rfl rfl ?_
    refine WD.a (i:=16) (d:=100) (by kernel_rfl) rfl (z6 (by kernel_rfl)) (z7 (by kernel_rfl)) rfl rfl rfl (fun _=>q_pickF rfl rfl) ?_
    refine WD.reL (.cons .here (.cons .here (.cons .here (.cons .here (.cons .here (.cons .here (.cons .here (.cons .here (.cons .here .nil))))))))) ?_ zsc
    exact (.cons rfl (.cons rfl (.cons rfl (.cons rfl (.cons rfl (.cons (zf (Eq.symm znp)) (.cons (zf znq) .nil)))))))
  refine WD.d #[true,true,true,true,true,true,true,true,true,true,true,true,true,true,true,true,true,false,false,false,false,false,false,false,false,false,false,false,false,false,false,false,false,false,false,false,false,false,false,false] (by kernel_rfl) ?_
  refine WD.a (i:=17) (d:=101) (by kernel_rfl) rfl (z6 (by kernel_rfl)) (z7 (by kernel_rfl)) rfl rfl rfl (fun _=>q_m rfl) ?_
  refine WD.mid (fuel':=18) [(8,(.pointer (some ⟨b14o1_47992,0,none⟩))),(11,(.slice z1k zq.1.length z1l)),(13,(.bool z7M.1)),(15,(.bool z8H.1)),(101,(.bool zgA)),(105,(.bool zgB))] (listedA 40 [21,20,19,18,17,16,15,14,13,12,11,10,9,8,7,6,5,4,3,2,1,0]) ?_ (fun zsd=>?_)
  rotate_left
  ·rcases Bool.eq_false_or_eq_true zgA with hb' | hb'
   ·have znr:=hb'; clear hb'
    have zgF:=ite_t zs9 znr
    obtain ⟨ziP,zAt,zgF⟩:=z8 zgF
    replace zgF:=Option.some.inj zgF
    refine WD.pin (i:=101) rfl znr ?_
    refine WD.e (i:=18) (d:=102) (by kernel_rfl) rfl (z6 (by kernel_rfl)) (z7 (by kernel_rfl)) rfl rfl rfl (q_loadA (cs:=[(.int .i64 zh.1.fN),(.int .i64 zh.1.fD)]) aggT_40 rfl rfl (rd_all .h6)) ?_
    refine WD.c (i:=19) (d:=103) (by kernel_rfl) rfl (z6 (by kernel_rfl)) (z7 (by kernel_rfl)) rfl rfl rfl (zi (l:=[.const (.int .i64 172),.const (.int .i64 1)]) Tryz.call20 (.cons rfl (.cons rfl .nil))) (fun w hw=>by have pz:=(hz.call2 hw (.nil : Sel [row (.slice (some ⟨z3u,0,none⟩) (([z1B] : List z1).length) 1) 54 4 (([z1B] : List z1).flatMap e54),row (.slice (some ⟨z23,0,none⟩) (([zr] : List z1).length) 1) 54 4 (([zr] : List z1).flatMap e54),row (.slice z1k zq.1.length z1l) 3 1 (zq.1.flatMap e3),row (.slice (some ⟨zR,0,none⟩) (([(⟨0,0,10⟩ : Sapi_Sent),(⟨3,0,10⟩ : Sapi_Sent)] : List Sapi_Sent).length) 2) 58 3 (([(⟨0,0,10⟩ : Sapi_Sent),(⟨3,0,10⟩ : Sapi_Sent)] : List Sapi_Sent).flatMap e58),stb b14o1_47992 40 [(.int .i64 zp.1.fN),(.int .i64 zp.1.fD)],fz (Zn10o1_47992 ++ Zn10o4_47992),stb zy 40 [(.int .i64 zh.1.fN),(.int .i64 zh.1.fD)],stb zx 40 [(.int .i64 zg.1.fN),(.int .i64 zg.1.fD)],stb zz 42 [(.int .i64 zd.fN),(.int .i64 zd.fD),(.int .i64 ze.fN),(.int .i64 ze.fD)]] [] [row (.slice (some ⟨z3u,0,none⟩) (([z1B] : List z1).length) 1) 54 4 (([z1B] : List z1).flatMap e54),row (.slice (some ⟨z23,0,none⟩) (([zr] : List z1).length) 1) 54 4 (([zr] : List z1).flatMap e54),row (.slice z1k zq.1.length z1l) 3 1 (zq.1.flatMap e3),row (.slice (some ⟨zR,0,none⟩) (([(⟨0,0,10⟩ : Sapi_Sent),(⟨3,0,10⟩ : Sapi_Sent)] : List Sapi_Sent).length) 2) 58 3 (([(⟨0,0,10⟩ : Sapi_Sent),(⟨3,0,10⟩ : Sapi_Sent)] : List Sapi_Sent).flatMap e58),stb b14o1_47992 40 [(.int .i64 zp.1.fN),(.int .i64 zp.1.fD)],fz (Zn10o1_47992 ++ Zn10o4_47992),stb zy 40 [(.int .i64 zh.1.fN),(.int .i64 zh.1.fD)],stb zx 40 [(.int .i64 zg.1.fN),(.int .i64 zg.1.fD)],stb zz 42 [(.int .i64 zd.fN),(.int .i64 zd.fD),(.int .i64 ze.fN),(.int .i64 ze.fD)]]) .h5); exact w_law03_num (Z:=_)  (n_16:=172) (d_17:=1) (r:=ziP) w pz  zAt) ?_
    refine WD.a (i:=20) (d:=104) (by kernel_rfl) rfl (z6 (by kernel_rfl)) (z7 (by kernel_rfl)) rfl rfl rfl (fun _=>q_aggeql (enc:=e40) (a:=zh.1) (b:=ziP) eqT_40 rfl rfl) ?_
    refine WD.a (i:=21) (d:=105) (by kernel_rfl) rfl (z6 (by kernel_rfl)) (z7 (by kernel_rfl)) rfl rfl rfl (fun _=>q_pickT rfl rfl) ?_
    refine WD.reL (.cons .here (.cons .here (.cons .here (.cons .here (.cons .here (.cons .here (.cons .here (.cons .here (.cons .here .nil))))))))) ?_ zsd
    exact (.cons rfl (.cons rfl (.cons rfl (.cons rfl (.cons (zf (Eq.symm znr)) (.cons (zf zgF) .nil))))))
   ·have zns:=hb'; clear hb'
    have znt:=ite_f zs9 zns
    replace znt:=Option.some.inj znt
    refine WD.pin (i:=101) rfl zns ?_
    refine WD.b (i:=18) (d:=102) (by kernel_rfl) rfl (z6 (by kernel_rfl)) (z7 (by kernel_rfl)) rfl rfl rfl ?_
    refine WD.b (i:=19) (d:=103) (by kernel_rfl) rfl (z6 (by kernel_rfl)) (z7 (by kernel_rfl)) rfl rfl rfl ?_
    refine WD.b (i:=20) (d:=104) (by kernel_rfl) rfl (z6 (by kernel_rfl)) (z7 (by kernel_rfl)) rfl rfl rfl ?_
    refine WD.a (i:=21) (d:=105) (by kernel_rfl) rfl (z6 (by kernel_rfl)) (z7 (by kernel_rfl)) rfl rfl rfl (fun _=>q_pickF rfl rfl) ?_
    refine WD.reL (.cons .here (.cons .here (.cons .here (.cons .here (.cons .here (.cons .here (.cons .here (.cons .here (.cons .here .nil))))))))) ?_ zsd
    exact (.cons rfl (.cons rfl (.cons rfl (.cons rfl (.cons (zf (Eq.symm zns)) (.cons (zf znt) .nil))))))
  refine WD.d #[true,true,true,true,true,true,true,true,true,true,true,true,true,true,true,true,true,true,true,true,true,true,false,false,false,false,false,false,false,false,false,false,false,false,false,false,false,false,false,false] (by kernel_rfl) ?_
  refine WD.a (i:=22) (d:=106) (by kernel_rfl) rfl (z6 (by kernel_rfl)) (z7 (by kernel_rfl)) rfl rfl rfl (fun _=>q_m rfl) ?_
  refine WD.mid (fuel':=13) [(11,(.slice z1k zq.1.length z1l)),(13,(.bool z7M.1)),(15,(.bool z8H.1)),(106,(.bool zgB)),(110,(.bool zgC))] (listedA 40 [26,25,24,23,22,21,20,19,18,17,16,15,14,13,12,11,10,9,8,7,6,5,4,3,2,1,0]) ?_ (fun zse=>?_)
  rotate_left
  ·rcases Bool.eq_false_or_eq_true zgB with hb' | hb'
   ·have znu:=hb'; clear hb'
    have zgG:=ite_t zsa znu
    obtain ⟨ziQ,zAu,zgG⟩:=z8 zgG
    replace zgG:=Option.some.inj zgG
    refine WD.pin (i:=106) rfl znu ?_
    refine WD.e (i:=23) (d:=107) (by kernel_rfl) rfl (z6 (by kernel_rfl)) (z7 (by kernel_rfl)) rfl rfl rfl (q_loadA (cs:=[(.int .i64 zp.1.fN),(.int .i64 zp.1.fD)]) aggT_40 rfl rfl (rd_all .h4)) ?_
    refine WD.c (i:=24) (d:=108) (by kernel_rfl) rfl (z6 (by kernel_rfl)) (z7 (by kernel_rfl)) rfl rfl rfl (zi (l:=[.const (.int .i64 146),.const (.int .i64 1)]) Tryz.call20 (.cons rfl (.cons rfl .nil))) (fun w hw=>by have pz:=(hz.call2 hw (.nil : Sel [row (.slice (some ⟨z3u,0,none⟩) (([z1B] : List z1).length) 1) 54 4 (([z1B] : List z1).flatMap e54),row (.slice (some ⟨z23,0,none⟩) (([zr] : List z1).length) 1) 54 4 (([zr] : List z1).flatMap e54),row (.slice z1k zq.1.length z1l) 3 1 (zq.1.flatMap e3),row (.slice (some ⟨zR,0,none⟩) (([(⟨0,0,10⟩ : Sapi_Sent),(⟨3,0,10⟩ : Sapi_Sent)] : List Sapi_Sent).length) 2) 58 3 (([(⟨0,0,10⟩ : Sapi_Sent),(⟨3,0,10⟩ : Sapi_Sent)] : List Sapi_Sent).flatMap e58),stb b14o1_47992 40 [(.int .i64 zp.1.fN),(.int .i64 zp.1.fD)],fz (Zn10o1_47992 ++ Zn10o4_47992),stb zy 40 [(.int .i64 zh.1.fN),(.int .i64 zh.1.fD)],stb zx 40 [(.int .i64 zg.1.fN),(.int .i64 zg.1.fD)],stb zz 42 [(.int .i64 zd.fN),(.int .i64 zd.fD),(.int .i64 ze.fN),(.int .i64 ze.fD)]] [] [row (.slice (some ⟨z3u,0,none⟩) (([z1B] : List z1).length) 1) 54 4 (([z1B] : List z1).flatMap e54),row (.slice (some ⟨z23,0,none⟩) (([zr] : List z1).length) 1) 54 4 (([zr] : List z1).flatMap e54),row (.slice z1k zq.1.length z1l) 3 1 (zq.1.flatMap e3),row (.slice (some ⟨zR,0,none⟩) (([(⟨0,0,10⟩ : Sapi_Sent),(⟨3,0,10⟩ : Sapi_Sent)] : List Sapi_Sent).length) 2) 58 3 (([(⟨0,0,10⟩ : Sapi_Sent),(⟨3,0,10⟩ : Sapi_Sent)] : List Sapi_Sent).flatMap e58),stb b14o1_47992 40 [(.int .i64 zp.1.fN),(.int .i64 zp.1.fD)],fz (Zn10o1_47992 ++ Zn10o4_47992),stb zy 40 [(.int .i64 zh.1.fN),(.int .i64 zh.1.fD)],stb zx 40 [(.int .i64 zg.1.fN),(.int .i64 zg.1.fD)],stb zz 42 [(.int .i64 zd.fN),(.int .i64 zd.fD),(.int .i64 ze.fN),(.int .i64 ze.fD)]]) .h5); exact w_law03_num (Z:=_)  (n_16:=146) (d_17:=1) (r:=ziQ) w pz  zAu) ?_
    refine WD.a (i:=25) (d:=109) (by kernel_rfl) rfl (z6 (by kernel_rfl)) (z7 (by kernel_rfl)) rfl rfl rfl (fun _=>q_aggeql (enc:=e40) (a:=zp.1) (b:=ziQ) eqT_40 rfl rfl) ?_
    refine WD.a (i:=26) (d:=110) (by kernel_rfl) rfl (z6 (by kernel_rfl)) (z7 (by kernel_rfl)) rfl rfl rfl (fun _=>q_pickT rfl rfl) ?_
    refine WD.reL (.cons .here (.cons .here (.cons .here (.cons .here (.cons .here (.cons .here (.cons .here (.cons .here (.cons .here .nil))))))))) ?_ zse
    exact (.cons rfl (.cons rfl (.cons rfl (.cons (zf (Eq.symm znu)) (.cons (zf zgG) .nil)))))
   ·have znv:=hb'; clear hb'
    have znw:=ite_f zsa znv
    replace znw:=Option.some.inj znw
    refine WD.pin (i:=106) rfl znv ?_
    refine WD.b (i:=23) (d:=107) (by kernel_rfl) rfl (z6 (by kernel_rfl)) (z7 (by kernel_rfl)) rfl rfl rfl ?_
    refine WD.b (i:=24) (d:=108) (by kernel_rfl) rfl (z6 (by kernel_rfl)) (z7 (by kernel_rfl)) rfl rfl rfl ?_
    refine WD.b (i:=25) (d:=109) (by kernel_rfl) rfl (z6 (by kernel_rfl)) (z7 (by kernel_rfl)) rfl rfl rfl ?_
    refine WD.a (i:=26) (d:=110) (by kernel_rfl) rfl (z6 (by kernel_rfl)) (z7 (by kernel_rfl)) rfl rfl rfl (fun _=>q_pickF rfl rfl) ?_
    refine WD.reL (.cons .here (.cons .here (.cons .here (.cons .here (.cons .here (.cons .here (.cons .here (.cons .here (.cons .here .nil))))))))) ?_ zse
    exact (.cons rfl (.cons rfl (.cons rfl (.cons (zf (Eq.symm znv)) (.cons (zf znw) .nil)))))
  refine WD.d #[true,true,true,true,true,true,true,true,true,true,true,true,true,true,true,true,true,true,true,true,true,true,true,true,true,true,true,false,false,false,false,false,false,false,false,false,false,false,false,false] (by kernel_rfl) ?_
  refine WD.a (i:=27) (d:=111) (by kernel_rfl) rfl (z6 (by kernel_rfl)) (z7 (by kernel_rfl)) rfl rfl rfl (fun _=>q_m rfl) ?_
  refine WD.mid (fuel':=8) [(13,(.bool z7M.1)),(15,(.bool z8H.1)),(111,(.bool zgC)),(115,(.bool zb0))] (listedA 40 [31,30,29,28,27,26,25,24,23,22,21,20,19,18,17,16,15,14,13,12,11,10,9,8,7,6,5,4,3,2,1,0]) ?_ (fun zsf=>?_)
  rotate_left
  ·rcases Bool.eq_false_or_eq_true zgC with hb' | hb'
   ·have znx:=hb'; clear hb'
    have zgH:=ite_t zsb znx
    obtain ⟨znj,zAv,zgH⟩:=z8 zgH
    replace zgH:=Option.some.inj zgH
    refine WD.pin (i:=111) rfl znx ?_
    refine WD.a (i:=28) (d:=112) (by kernel_rfl) rfl (z6 (by kernel_rfl)) (z7 (by kernel_rfl)) rfl rfl rfl (fun _=>q_m rfl) ?_
    refine WD.new (i:=29) (dd:=113) rfl (by kernel_rfl) rfl rfl rfl (e_buildSlice (cs:=([25,45] : List Int).flatMap e3) elT_31 (Eos.parts (l:=[.const (.int .i64 25),.const (.int .i64 45)]) (.cons rfl (.cons rfl .nil)) [0,1]) (fun _=>by kernel_rfl) rfl (by unfold maxLen; omega)) (fun h'=>absurd h' (by decide)) ?_
    intro z7q _
    refine WD.c (i:=30) (d:=114) (by kernel_rfl) rfl (z6 (by kernel_rfl)) (z7 (by kernel_rfl)) rfl rfl rfl (zi (l:=[.tmp 112,.tmp 113]) Tryz.call10 (.cons rfl (.cons rfl .nil))) (fun w hw=>by have pz:=(hz.call2 hw (.nil : Sel [row (.slice (some ⟨z7q,0,none⟩) (([25,45] : List Int).length) 2) 3 1 (([25,45] : List Int).flatMap e3),row (.slice (some ⟨z3u,0,none⟩) (([z1B] : List z1).length) 1) 54 4 (([z1B] : List z1).flatMap e54),row (.slice (some ⟨z23,0,none⟩) (([zr] : List z1).length) 1) 54 4 (([zr] : List z1).flatMap e54),row (.slice z1k zq.1.length z1l) 3 1 (zq.1.flatMap e3),row (.slice (some ⟨zR,0,none⟩) (([(⟨0,0,10⟩ : Sapi_Sent),(⟨3,0,10⟩ : Sapi_Sent)] : List Sapi_Sent).length) 2) 58 3 (([(⟨0,0,10⟩ : Sapi_Sent),(⟨3,0,10⟩ : Sapi_Sent)] : List Sapi_Sent).flatMap e58),stb b14o1_47992 40 [(.int .i64 zp.1.fN),(.int .i64 zp.1.fD)],fz (Zn10o1_47992 ++ Zn10o4_47992),stb zy 40 [(.int .i64 zh.1.fN),(.int .i64 zh.1.fD)],stb zx 40 [(.int .i64 zg.1.fN),(.int .i64 zg.1.fD)],stb zz 42 [(.int .i64 zd.fN),(.int .i64 zd.fD),(.int .i64 ze.fN),(.int .i64 ze.fD)]] [] [row (.slice (some ⟨z7q,0,none⟩) (([25,45] : List Int).length) 2) 3 1 (([25,45] : List Int).flatMap e3),row (.slice (some ⟨z3u,0,none⟩) (([z1B] : List z1).length) 1) 54 4 (([z1B] : List z1).flatMap e54),row (.slice (some ⟨z23,0,none⟩) (([zr] : List z1).length) 1) 54 4 (([zr] : List z1).flatMap e54),row (.slice z1k zq.1.length z1l) 3 1 (zq.1.flatMap e3),row (.slice (some ⟨zR,0,none⟩) (([(⟨0,0,10⟩ : Sapi_Sent),(⟨3,0,10⟩ : Sapi_Sent)] : List Sapi_Sent).length) 2) 58 3 (([(⟨0,0,10⟩ : Sapi_Sent),(⟨3,0,10⟩ : Sapi_Sent)] : List Sapi_Sent).flatMap e58),stb b14o1_47992 40 [(.int .i64 zp.1.fN),(.int .i64 zp.1.fD)],fz (Zn10o1_47992 ++ Zn10o4_47992),stb zy 40 [(.int .i64 zh.1.fN),(.int .i64 zh.1.fD)],stb zx 40 [(.int .i64 zg.1.fN),(.int .i64 zg.1.fD)],stb zz 42 [(.int .i64 zd.fN),(.int .i64 zd.fD),(.int .i64 ze.fN),(.int .i64 ze.fD)]]) .h6).lend hw (.nil : Sel [row (.slice (some ⟨z7q,0,none⟩) (([25,45] : List Int).length) 2) 3 1 (([25,45] : List Int).flatMap e3),row (.slice (some ⟨z3u,0,none⟩) (([z1B] : List z1).length) 1) 54 4 (([z1B] : List z1).flatMap e54),row (.slice (some ⟨z23,0,none⟩) (([zr] : List z1).length) 1) 54 4 (([zr] : List z1).flatMap e54),row (.slice z1k zq.1.length z1l) 3 1 (zq.1.flatMap e3),row (.slice (some ⟨zR,0,none⟩) (([(⟨0,0,10⟩ : Sapi_Sent),(⟨3,0,10⟩ : Sapi_Sent)] : List Sapi_Sent).length) 2) 58 3 (([(⟨0,0,10⟩ : Sapi_Sent),(⟨3,0,10⟩ : Sapi_Sent)] : List Sapi_Sent).flatMap e58),stb b14o1_47992 40 [(.int .i64 zp.1.fN),(.int .i64 zp.1.fD)],fz (Zn10o1_47992 ++ Zn10o4_47992),stb zy 40 [(.int .i64 zh.1.fN),(.int .i64 zh.1.fD)],stb zx 40 [(.int .i64 zg.1.fN),(.int .i64 zg.1.fD)],stb zz 42 [(.int .i64 zd.fN),(.int .i64 zd.fD),(.int .i64 ze.fN),(.int .i64 ze.fD)]] [] [row (.slice (some ⟨z7q,0,none⟩) (([25,45] : List Int).length) 2) 3 1 (([25,45] : List Int).flatMap e3),row (.slice (some ⟨z3u,0,none⟩) (([z1B] : List z1).length) 1) 54 4 (([z1B] : List z1).flatMap e54),row (.slice (some ⟨z23,0,none⟩) (([zr] : List z1).length) 1) 54 4 (([zr] : List z1).flatMap e54),row (.slice z1k zq.1.length z1l) 3 1 (zq.1.flatMap e3),row (.slice (some ⟨zR,0,none⟩) (([(⟨0,0,10⟩ : Sapi_Sent),(⟨3,0,10⟩ : Sapi_Sent)] : List Sapi_Sent).length) 2) 58 3 (([(⟨0,0,10⟩ : Sapi_Sent),(⟨3,0,10⟩ : Sapi_Sent)] : List Sapi_Sent).flatMap e58),stb b14o1_47992 40 [(.int .i64 zp.1.fN),(.int .i64 zp.1.fD)],fz (Zn10o1_47992 ++ Zn10o4_47992),stb zy 40 [(.int .i64 zh.1.fN),(.int .i64 zh.1.fD)],stb zx 40 [(.int .i64 zg.1.fN),(.int .i64 zg.1.fD)],stb zz 42 [(.int .i64 zd.fN),(.int .i64 zd.fD),(.int .i64 ze.fN),(.int .i64 ze.fD)]]) (B:=[row (.slice z1k zq.1.length z1l) 3 1 (zq.1.flatMap e3),row (.slice (some ⟨z7q,0,none⟩) (([25,45] : List Int).length) 2) 3 1 (([25,45] : List Int).flatMap e3)]) (fun _ hx'=>((.cons .h3 (.cons .here .nil)) : Sel _ [row (.slice z1k zq.1.length z1l) 3 1 (zq.1.flatMap e3),row (.slice (some ⟨z7q,0,none⟩) (([25,45] : List Int).length) 2) 3 1 (([25,45] : List Int).flatMap e3)] _).mem hx'); exact w_law03_Ints (Z:=_) (zdv:=z1k) (zdw:=z1l) (zdx:=(some ⟨z7q,0,none⟩)) (zdy:=2) (z5E:=zq.1) (z6v:=([25,45] : List Int)) (r:=znj) w pz (ZA.row (hw.lent (.nil : Sel [row (.slice (some ⟨z7q,0,none⟩) (([25,45] : List Int).length) 2) 3 1 (([25,45] : List Int).flatMap e3),row (.slice (some ⟨z3u,0,none⟩) (([z1B] : List z1).length) 1) 54 4 (([z1B] : List z1).flatMap e54),row (.slice (some ⟨z23,0,none⟩) (([zr] : List z1).length) 1) 54 4 (([zr] : List z1).flatMap e54),row (.slice z1k zq.1.length z1l) 3 1 (zq.1.flatMap e3),row (.slice (some ⟨zR,0,none⟩) (([(⟨0,0,10⟩ : Sapi_Sent),(⟨3,0,10⟩ : Sapi_Sent)] : List Sapi_Sent).length) 2) 58 3 (([(⟨0,0,10⟩ : Sapi_Sent),(⟨3,0,10⟩ : Sapi_Sent)] : List Sapi_Sent).flatMap e58),stb b14o1_47992 40 [(.int .i64 zp.1.fN),(.int .i64 zp.1.fD)],fz (Zn10o1_47992 ++ Zn10o4_47992),stb zy 40 [(.int .i64 zh.1.fN),(.int .i64 zh.1.fD)],stb zx 40 [(.int .i64 zg.1.fN),(.int .i64 zg.1.fD)],stb zz 42 [(.int .i64 zd.fN),(.int .i64 zd.fD),(.int .i64 ze.fN),(.int .i64 ze.fD)]] [] [row (.slice (some ⟨z7q,0,none⟩) (([25,45] : List Int).length) 2) 3 1 (([25,45] : List Int).flatMap e3),row (.slice (some ⟨z3u,0,none⟩) (([z1B] : List z1).length) 1) 54 4 (([z1B] : List z1).flatMap e54),row (.slice (some ⟨z23,0,none⟩) (([zr] : List z1).length) 1) 54 4 (([zr] : List z1).flatMap e54),row (.slice z1k zq.1.length z1l) 3 1 (zq.1.flatMap e3),row (.slice (some ⟨zR,0,none⟩) (([(⟨0,0,10⟩ : Sapi_Sent),(⟨3,0,10⟩ : Sapi_Sent)] : List Sapi_Sent).length) 2) 58 3 (([(⟨0,0,10⟩ : Sapi_Sent),(⟨3,0,10⟩ : Sapi_Sent)] : List Sapi_Sent).flatMap e58),stb b14o1_47992 40 [(.int .i64 zp.1.fN),(.int .i64 zp.1.fD)],fz (Zn10o1_47992 ++ Zn10o4_47992),stb zy 40 [(.int .i64 zh.1.fN),(.int .i64 zh.1.fD)],stb zx 40 [(.int .i64 zg.1.fN),(.int .i64 zg.1.fD)],stb zz 42 [(.int .i64 zd.fN),(.int .i64 zd.fD),(.int .i64 ze.fN),(.int .i64 ze.fD)]]) (B:=[row (.slice z1k zq.1.length z1l) 3 1 (zq.1.flatMap e3),row (.slice (some ⟨z7q,0,none⟩) (([25,45] : List Int).length) 2) 3 1 (([25,45] : List Int).flatMap e3)]) (fun _ hx'=>((.cons .h3 (.cons .here .nil)) : Sel _ [row (.slice z1k zq.1.length z1l) 3 1 (zq.1.flatMap e3),row (.slice (some ⟨z7q,0,none⟩) (([25,45] : List Int).length) 2) 3 1 (([25,45] : List Int).flatMap e3)] _).mem hx') (.head _) _) (RR.flat (enc:=e3) (fun _=>rfl) _) ⟨w,pz.1⟩) (ZA.row (hw.lent (.nil : Sel [row (.slice (some ⟨z7q,0,none⟩) (([25,45] : List Int).length) 2) 3 1 (([25,45] : List Int).flatMap e3),row (.slice (some ⟨z3u,0,none⟩) (([z1B] : List z1).length) 1) 54 4 (([z1B] : List z1).flatMap e54),row (.slice (some ⟨z23,0,none⟩) (([zr] : List z1).length) 1) 54 4 (([zr] : List z1).flatMap e54),row (.slice z1k zq.1.length z1l) 3 1 (zq.1.flatMap e3),row (.slice (some ⟨zR,0,none⟩) (([(⟨0,0,10⟩ : Sapi_Sent),(⟨3,0,10⟩ : Sapi_Sent)] : List Sapi_Sent).length) 2) 58 3 (([(⟨0,0,10⟩ : Sapi_Sent),(⟨3,0,10⟩ : Sapi_Sent)] : List Sapi_Sent).flatMap e58),stb b14o1_47992 40 [(.int .i64 zp.1.fN),(.int .i64 zp.1.fD)],fz (Zn10o1_47992 ++ Zn10o4_47992),stb zy 40 [(.int .i64 zh.1.fN),(.int .i64 zh.1.fD)],stb zx 40 [(.int .i64 zg.1.fN),(.int .i64 zg.1.fD)],stb zz 42 [(.int .i64 zd.fN),(.int .i64 zd.fD),(.int .i64 ze.fN),(.int .i64 ze.fD)]] [] [row (.slice (some ⟨z7q,0,none⟩) (([25,45] : List Int).length) 2) 3 1 (([25,45] : List Int).flatMap e3),row (.slice (some ⟨z3u,0,none⟩) (([z1B] : List z1).length) 1) 54 4 (([z1B] : List z1).flatMap e54),row (.slice (some ⟨z23,0,none⟩) (([zr] : List z1).length) 1) 54 4 (([zr] : List z1).flatMap e54),row (.slice z1k zq.1.length z1l) 3 1 (zq.1.flatMap e3),row (.slice (some ⟨zR,0,none⟩) (([(⟨0,0,10⟩ : Sapi_Sent),(⟨3,0,10⟩ : Sapi_Sent)] : List Sapi_Sent).length) 2) 58 3 (([(⟨0,0,10⟩ : Sapi_Sent),(⟨3,0,10⟩ : Sapi_Sent)] : List Sapi_Sent).flatMap e58),stb b14o1_47992 40 [(.int .i64 zp.1.fN),(.int .i64 zp.1.fD)],fz (Zn10o1_47992 ++ Zn10o4_47992),stb zy 40 [(.int .i64 zh.1.fN),(.int .i64 zh.1.fD)],stb zx 40 [(.int .i64 zg.1.fN),(.int .i64 zg.1.fD)],stb zz 42 [(.int .i64 zd.fN),(.int .i64 zd.fD),(.int .i64 ze.fN),(.int .i64 ze.fD)]]) (B:=[row (.slice z1k zq.1.length z1l) 3 1 (zq.1.flatMap e3),row (.slice (some ⟨z7q,0,none⟩) (([25,45] : List Int).length) 2) 3 1 (([25,45] : List Int).flatMap e3)]) (fun _ hx'=>((.cons .h3 (.cons .here .nil)) : Sel _ [row (.slice z1k zq.1.length z1l) 3 1 (zq.1.flatMap e3),row (.slice (some ⟨z7q,0,none⟩) (([25,45] : List Int).length) 2) 3 1 (([25,45] : List Int).flatMap e3)] _).mem hx') (.tail _ (.head _)) _) (RR.flat (enc:=e3) (fun _=>rfl) _) ⟨w,pz.1⟩) zAv) ?_
    refine WD.a (i:=31) (d:=115) (by kernel_rfl) rfl (z6 (by kernel_rfl)) (z7 (by kernel_rfl)) rfl rfl rfl (fun _=>q_pickT rfl rfl) ?_
    refine WD.reL (.cons .h1 (.cons .h1 (.cons .h1 (.cons .h1 (.cons .h1 (.cons .h1 (.cons .h1 (.cons .h1 (.cons .h1 .nil))))))))) ?_ zsf
    exact (.cons rfl (.cons rfl (.cons (zf (Eq.symm znx)) (.cons (zf zgH) .nil))))
   ·have zny:=hb'; clear hb'
    have znz:=ite_f zsb zny
    replace znz:=Option.some.inj znz
    refine WD.pin (i:=111) rfl zny ?_
    refine WD.b (i:=28) (d:=112) (by kernel_rfl) rfl (z6 (by kernel_rfl)) (z7 (by kernel_rfl)) rfl rfl rfl ?_
    refine WD.b (i:=29) (d:=113) (by kernel_rfl) rfl (z6 (by kernel_rfl)) (z7 (by kernel_rfl)) rfl rfl rfl ?_
    refine WD.b (i:=30) (d:=114) (by kernel_rfl) rfl (z6 (by kernel_rfl)) (z7 (by kernel_rfl)) rfl rfl rfl ?_
    refine WD.a (i:=31) (d:=115) (by kernel_rfl) rfl (z6 (by kernel_rfl)) (z7 (by kernel_rfl)) rfl rfl rfl (fun _=>q_pickF rfl rfl) ?_
    refine WD.reL (.cons .here (.cons .here (.cons .here (.cons .here (.cons .here (.cons .here (.cons .here (.cons .here (.cons .here .nil))))))))) ?_ zsf
    exact (.cons rfl (.cons rfl (.cons (zf (Eq.symm zny)) (.cons (zf znz) .nil))))
  refine WD.d #[true,true,true,true,true,true,true,true,true,true,true,true,true,true,true,true,true,true,true,true,true,true,true,true,true,true,true,true,true,true,true,true,false,false,false,false,false,false,false,false] (by kernel_rfl) ?_
  refine WD.a (i:=32) (d:=116) (by kernel_rfl) rfl (z6 (by kernel_rfl)) (z7 (by kernel_rfl)) rfl rfl rfl (fun _=>q_m rfl) ?_
  refine WD.mid (fuel':=5) [(15,(.bool z8H.1)),(116,(.bool zb0)),(118,(.bool (zb0 && z7M.1)))] (listedA 40 [34,33,32,31,30,29,28,27,26,25,24,23,22,21,20,19,18,17,16,15,14,13,12,11,10,9,8,7,6,5,4,3,2,1,0]) ?_ (fun zsg=>?_)
  rotate_left
  ·rcases Bool.eq_false_or_eq_true zb0 with hb' | hb'
   ·have znA:=hb'; clear hb'
    refine WD.pin (i:=116) rfl znA ?_
    refine WD.a (i:=33) (d:=117) (by kernel_rfl) rfl (z6 (by kernel_rfl)) (z7 (by kernel_rfl)) rfl rfl rfl (fun _=>q_m rfl) ?_
    refine WD.a (i:=34) (d:=118) (by kernel_rfl) rfl (z6 (by kernel_rfl)) (z7 (by kernel_rfl)) rfl rfl rfl (fun _=>q_pickT rfl rfl) ?_
    refine WD.reL (.cons .here (.cons .here (.cons .here (.cons .here (.cons .here (.cons .here (.cons .here (.cons .here (.cons .here .nil))))))))) ?_ zsg
    exact (.cons rfl (.cons (zf (Eq.symm znA)) (.cons (zf (and_r znA)) .nil)))
   ·have znB:=hb'; clear hb'
    refine WD.pin (i:=116) rfl znB ?_
    refine WD.b (i:=33) (d:=117) (by kernel_rfl) rfl (z6 (by kernel_rfl)) (z7 (by kernel_rfl)) rfl rfl rfl ?_
    refine WD.a (i:=34) (d:=118) (by kernel_rfl) rfl (z6 (by kernel_rfl)) (z7 (by kernel_rfl)) rfl rfl rfl (fun _=>q_pickF rfl rfl) ?_
    refine WD.reL (.cons .here (.cons .here (.cons .here (.cons .here (.cons .here (.cons .here (.cons .here (.cons .here (.cons .here .nil))))))))) ?_ zsg
    exact (.cons rfl (.cons (zf (Eq.symm znB)) (.cons (zf (and_l znB)) .nil)))
  refine WD.d #[true,true,true,true,true,true,true,true,true,true,true,true,true,true,true,true,true,true,true,true,true,true,true,true,true,true,true,true,true,true,true,true,true,true,true,false,false,false,false,false] (by kernel_rfl) ?_
  refine WD.a (i:=35) (d:=119) (by kernel_rfl) rfl (z6 (by kernel_rfl)) (z7 (by kernel_rfl)) rfl rfl rfl (fun _=>q_m rfl) ?_
  refine WD.mid (fuel':=1) [(119,(.bool (zb0 && z7M.1))),(122,(.bool ((zb0 && z7M.1) && (!z8H.1))))] (listedA 40 [38,37,36,35,34,33,32,31,30,29,28,27,26,25,24,23,22,21,20,19,18,17,16,15,14,13,12,11,10,9,8,7,6,5,4,3,2,1,0]) ?_ (fun zsh=>?_)
  rotate_left
  ·rcases Bool.eq_false_or_eq_true (zb0 && z7M.1) with hb' | hb'
   ·have znC:=hb'; clear hb'
    refine WD.pin (i:=119) rfl znC ?_
    refine WD.a (i:=36) (d:=120) (by kernel_rfl) rfl (z6 (by kernel_rfl)) (z7 (by kernel_rfl)) rfl rfl rfl (fun _=>q_m rfl) ?_
    refine WD.a (i:=37) (d:=121) (by kernel_rfl) rfl (z6 (by kernel_rfl)) (z7 (by kernel_rfl)) rfl rfl rfl (fun _=>q_not rfl) ?_
    refine WD.a (i:=38) (d:=122) (by kernel_rfl) rfl (z6 (by kernel_rfl)) (z7 (by kernel_rfl)) rfl rfl rfl (fun _=>q_pickT rfl rfl) ?_
    refine WD.reL (.cons .here (.cons .here (.cons .here (.cons .here (.cons .here (.cons .here (.cons .here (.cons .here (.cons .here .nil))))))))) ?_ zsh
    exact (.cons (zf (Eq.symm znC)) (.cons (zf (and_r znC)) .nil))
   ·have znD:=hb'; clear hb'
    refine WD.pin (i:=119) rfl znD ?_
    refine WD.b (i:=36) (d:=120) (by kernel_rfl) rfl (z6 (by kernel_rfl)) (z7 (by kernel_rfl)) rfl rfl rfl ?_
    refine WD.b (i:=37) (d:=121) (by kernel_rfl) rfl (z6 (by kernel_rfl)) (z7 (by kernel_rfl)) rfl rfl rfl ?_
    refine WD.a (i:=38) (d:=122) (by kernel_rfl) rfl (z6 (by kernel_rfl)) (z7 (by kernel_rfl)) rfl rfl rfl (fun _=>q_pickF rfl rfl) ?_
    refine WD.reL (.cons .here (.cons .here (.cons .here (.cons .here (.cons .here (.cons .here (.cons .here (.cons .here (.cons .here .nil))))))))) ?_ zsh
    exact (.cons (zf (Eq.symm znD)) (.cons (zf (and_l znD)) .nil))
  refine WD.d #[true,true,true,true,true,true,true,true,true,true,true,true,true,true,true,true,true,true,true,true,true,true,true,true,true,true,true,true,true,true,true,true,true,true,true,true,true,true,true,false] (by kernel_rfl) ?_
  refine WD.a (i:=39) (d:=0) (by kernel_rfl) rfl (z6 (by kernel_rfl)) (z7 (by kernel_rfl)) rfl rfl rfl (fun _=>q_z rfl) ?_
  refine WD.done (by kernel_rfl) ?_
  refine WX.a ?_
  refine WC.ret ?_
  obtain rfl:=Option.some.inj h
  refine WX.bpRet Tryz.results5 (.tmp rfl .nil) (fun w hw=>?_)
  exact ⟨(Zn10o1_47992 ++ Zn10o4_47992),ret1 rfl,trivial,hw.sub (.cons .h5 .nil)⟩
 refine WD.mids6 (fuel':=2) (fun (b6o1_47992 : Nat) (Zn8o1_47992 : Zp) (b8o4_47992 : Nat) (Zn10o1_47992 : Zp) (Zn10o4_47992 : Zp) (b14o1_47992 : Nat)=>[(4,(.pointer (some ⟨zx,0,none⟩))),(5,(.int .i64 zg.2)),(6,(.pointer (some ⟨zy,0,none⟩))),(7,(.int .i64 zh.2)),(56,(.agg #[(.int .i64 zp.1.fN),(.int .i64 zp.1.fD)])),(57,(.int .i64 zp.2)),(8,(.pointer (some ⟨b14o1_47992,0,none⟩)))]) (fun (b6o1_47992 : Nat) (Zn8o1_47992 : Zp) (b8o4_47992 : Nat) (Zn10o1_47992 : Zp) (Zn10o4_47992 : Zp) (b14o1_47992 : Nat)=>[stb b14o1_47992 40 [(.int .i64 0),(.int .i64 0)],fz (Zn10o1_47992 ++ Zn10o4_47992),stb zy 40 [(.int .i64 zh.1.fN),(.int .i64 zh.1.fD)],stb zx 40 [(.int .i64 zg.1.fN),(.int .i64 zg.1.fD)],stb zz 42 [(.int .i64 zd.fN),(.int .i64 zd.fD),(.int .i64 ze.fN),(.int .i64 ze.fD)]]) (fun (b6o1_47992 : Nat) (Zn8o1_47992 : Zp) (b8o4_47992 : Nat) (Zn10o1_47992 : Zp) (Zn10o4_47992 : Zp) (b14o1_47992 : Nat)=>(Zle (Z ++ (z62 ++ z7p)) (Z ++ Zn8o1_47992)) ∧ (ZS (Z ++ Zn8o1_47992) 4 (fun r x=>r = e54 x) (some ⟨b6o1_47992,0,none⟩) 2 ([(⟨(⟨(((nth ([za] : List z1) 0).fBurst).fN),(((nth ([za] : List z1) 0).fBurst).fD)⟩ : z2),(⟨(((nth ([za] : List z1) 0).fRate).fN),(((nth ([za] : List z1) 0).fRate).fD)⟩ : z2)⟩ : z1),z21] : List z1)) ∧ (RR 1 (p23 (Z ++ Zn8o1_47992)) [(.slice (some ⟨b6o1_47992,0,none⟩) (([(⟨(⟨(((nth ([za] : List z1) 0).fBurst).fN),(((nth ([za] : List z1) 0).fBurst).fD)⟩ : z2),(⟨(((nth ([za] : List z1) 0).fRate).fN),(((nth ([za] : List z1) 0).fRate).fD)⟩ : z2)⟩ : z1),z21] : List z1).length) 2),(.slice (some ⟨z3y,0,none⟩) (([z1i] : List z1).length) 1)] ([([(⟨(⟨(((nth ([za] : List z1) 0).fBurst).fN),(((nth ([za] : List z1) 0).fBurst).fD)⟩ : z2),(⟨(((nth ([za] : List z1) 0).fRate).fN),(((nth ([za] : List z1) 0).fRate).fD)⟩ : z2)⟩ : z1),z21] : List z1),([z1i] : List z1)] : List (List z1))) ∧ (Zle (Z ++ Zn8o1_47992) (Z ++ Zn10o1_47992)) ∧ (ZS (Z ++ Zn10o1_47992) 1 (p23 (Z ++ Zn10o1_47992)) (some ⟨b8o4_47992,0,none⟩) 2 ([([(⟨(⟨(((nth ([za] : List z1) 0).fBurst).fN),(((nth ([za] : List z1) 0).fBurst).fD)⟩ : z2),(⟨(((nth ([za] : List z1) 0).fRate).fN),(((nth ([za] : List z1) 0).fRate).fD)⟩ : z2)⟩ : z1),z21] : List z1),([z1i] : List z1)] : List (List z1)))) (listedA 17 [14,13,12,11,10,8,6,9,7,5,4,3,2,1,0]) ?_ (fun K6o8o10o11o12o13o14_47992=>?_)
 ·skip
  rintro b6o1_47992 Zn8o1_47992 b8o4_47992 Zn10o1_47992 Zn10o4_47992 b14o1_47992 ⟨hle8o2_47992,hf8o3_47992,rel8o5_47992,hle10o2_47992,hf10o3_47992⟩
  refine WD.forced0 (i:=15) rfl (by kernel_rfl) rfl rfl rfl (Sin.of .nil) (e_store (vs:=[(.int .i64 zp.1.fN),(.int .i64 zp.1.fD)]) (ds:=[(.int .i64 zp.1.fN),(.int .i64 zp.1.fD)]) sizT_40 rfl rfl rfl rfl (oc_cons rfl (oc_cons rfl oc_nil)) .here (Nat.le_of_ble_eq_true rfl) rfl) ?_
  refine WD.a (i:=16) (d:=9) (by kernel_rfl) rfl (z6 (by kernel_rfl)) (z7 (by kernel_rfl)) rfl rfl rfl (fun _=>q_z rfl) ?_
  exact WD.reL (.cons .here (.cons .here (.cons .here (.cons .here (.cons .here .nil))))) (.cons rfl (.cons rfl (.cons rfl (.cons rfl (.cons rfl (.cons rfl .nil)))))) (K6o8o10o11o12o13o14o15o16_47992 b6o1_47992 Zn8o1_47992 b8o4_47992 Zn10o1_47992 Zn10o4_47992 b14o1_47992 ⟨hle8o2_47992,hf8o3_47992,rel8o5_47992,hle10o2_47992,hf10o3_47992⟩)
 refine WD.mids5 (fuel':=3) (fun (b6o1_47992 : Nat) (Zn8o1_47992 : Zp) (b8o4_47992 : Nat) (Zn10o1_47992 : Zp) (Zn10o4_47992 : Zp)=>[(4,(.pointer (some ⟨zx,0,none⟩))),(5,(.int .i64 zg.2)),(6,(.pointer (some ⟨zy,0,none⟩))),(7,(.int .i64 zh.2)),(56,(.agg #[(.int .i64 zp.1.fN),(.int .i64 zp.1.fD)])),(57,(.int .i64 zp.2))]) (fun (b6o1_47992 : Nat) (Zn8o1_47992 : Zp) (b8o4_47992 : Nat) (Zn10o1_47992 : Zp) (Zn10o4_47992 : Zp)=>[fz (Zn10o1_47992 ++ Zn10o4_47992),stb zy 40 [(.int .i64 zh.1.fN),(.int .i64 zh.1.fD)],stb zx 40 [(.int .i64 zg.1.fN),(.int .i64 zg.1.fD)],stb zz 42 [(.int .i64 zd.fN),(.int .i64 zd.fD),(.int .i64 ze.fN),(.int .i64 ze.fD)]]) (fun (b6o1_47992 : Nat) (Zn8o1_47992 : Zp) (b8o4_47992 : Nat) (Zn10o1_47992 : Zp) (Zn10o4_47992 : Zp)=>(Zle (Z ++ (z62 ++ z7p)) (Z ++ Zn8o1_47992)) ∧ (ZS (Z ++ Zn8o1_47992) 4 (fun r x=>r = e54 x) (some ⟨b6o1_47992,0,none⟩) 2 ([(⟨(⟨(((nth ([za] : List z1) 0).fBurst).fN),(((nth ([za] : List z1) 0).fBurst).fD)⟩ : z2),(⟨(((nth ([za] : List z1) 0).fRate).fN),(((nth ([za] : List z1) 0).fRate).fD)⟩ : z2)⟩ : z1),z21] : List z1)) ∧ (RR 1 (p23 (Z ++ Zn8o1_47992)) [(.slice (some ⟨b6o1_47992,0,none⟩) (([(⟨(⟨(((nth ([za] : List z1) 0).fBurst).fN),(((nth ([za] : List z1) 0).fBurst).fD)⟩ : z2),(⟨(((nth ([za] : List z1) 0).fRate).fN),(((nth ([za] : List z1) 0).fRate).fD)⟩ : z2)⟩ : z1),z21] : List z1).length) 2),(.slice (some ⟨z3y,0,none⟩) (([z1i] : List z1).length) 1)] ([([(⟨(⟨(((nth ([za] : List z1) 0).fBurst).fN),(((nth ([za] : List z1) 0).fBurst).fD)⟩ : z2),(⟨(((nth ([za] : List z1) 0).fRate).fN),(((nth ([za] : List z1) 0).fRate).fD)⟩ : z2)⟩ : z1),z21] : List z1),([z1i] : List z1)] : List (List z1))) ∧ (Zle (Z ++ Zn8o1_47992) (Z ++ Zn10o1_47992)) ∧ (ZS (Z ++ Zn10o1_47992) 1 (p23 (Z ++ Zn10o1_47992)) (some ⟨b8o4_47992,0,none⟩) 2 ([([(⟨(⟨(((nth ([za] : List z1) 0).fBurst).fN),(((nth ([za] : List z1) 0).fBurst).fD)⟩ : z2),(⟨(((nth ([za] : List z1) 0).fRate).fN),(((nth ([za] : List z1) 0).fRate).fD)⟩ : z2)⟩ : z1),z21] : List z1),([z1i] : List z1)] : List (List z1)))) (listedA 17 [13,12,11,10,8,6,9,7,5,4,3,2,1,0]) ?_ (fun K6o8o10o11o12o13_47992=>?_)
 ·skip
  rintro b6o1_47992 Zn8o1_47992 b8o4_47992 Zn10o1_47992 Zn10o4_47992 ⟨hle8o2_47992,hf8o3_47992,rel8o5_47992,hle10o2_47992,hf10o3_47992⟩
  refine WD.new (i:=14) (dd:=8) rfl (by kernel_rfl) rfl rfl rfl (e_alloc (cs:=[(.int .i64 0),(.int .i64 0)]) zeroT_40 rfl) (fun h'=>absurd h' (by decide)) ?_
  intro b14o1_47992 _
  exact WD.reL (.cons .here (.cons .here (.cons .here (.cons .here (.cons .here .nil))))) (.cons rfl (.cons rfl (.cons rfl (.cons rfl (.cons rfl (.cons rfl (.cons rfl .nil))))))) (K6o8o10o11o12o13o14_47992 b6o1_47992 Zn8o1_47992 b8o4_47992 Zn10o1_47992 Zn10o4_47992 b14o1_47992 ⟨hle8o2_47992,hf8o3_47992,rel8o5_47992,hle10o2_47992,hf10o3_47992⟩)
 refine WD.mids4 (fuel':=6) (fun (b6o1_47992 : Nat) (Zn8o1_47992 : Zp) (b8o4_47992 : Nat) (b14o1_47992 : Nat)=>[(4,(.pointer (some ⟨zx,0,none⟩))),(5,(.int .i64 zg.2)),(6,(.pointer (some ⟨zy,0,none⟩))),(7,(.int .i64 zh.2)),(54,(.agg #[(.int .i64 zd.fN),(.int .i64 zd.fD),(.int .i64 ze.fN),(.int .i64 ze.fD)])),(53,(.slice (some ⟨b8o4_47992,0,none⟩) (([([(⟨(⟨(((nth ([za] : List z1) 0).fBurst).fN),(((nth ([za] : List z1) 0).fBurst).fD)⟩ : z2),(⟨(((nth ([za] : List z1) 0).fRate).fN),(((nth ([za] : List z1) 0).fRate).fD)⟩ : z2)⟩ : z1),z21] : List z1),([z1i] : List z1)] : List (List z1)).length) 2)),(8,(.pointer (some ⟨b14o1_47992,0,none⟩)))]) (fun (b6o1_47992 : Nat) (Zn8o1_47992 : Zp) (b8o4_47992 : Nat) (b14o1_47992 : Nat)=>[stb b14o1_47992 40 [(.int .i64 0),(.int .i64 0)],row (.slice (some ⟨b8o4_47992,0,none⟩) (([([(⟨(⟨(((nth ([za] : List z1) 0).fBurst).fN),(((nth ([za] : List z1) 0).fBurst).fD)⟩ : z2),(⟨(((nth ([za] : List z1) 0).fRate).fN),(((nth ([za] : List z1) 0).fRate).fD)⟩ : z2)⟩ : z1),z21] : List z1),([z1i] : List z1)] : List (List z1)).length) 2) 23 1 [(.slice (some ⟨b6o1_47992,0,none⟩) (([(⟨(⟨(((nth ([za] : List z1) 0).fBurst).fN),(((nth ([za] : List z1) 0).fBurst).fD)⟩ : z2),(⟨(((nth ([za] : List z1) 0).fRate).fN),(((nth ([za] : List z1) 0).fRate).fD)⟩ : z2)⟩ : z1),z21] : List z1).length) 2),(.slice (some ⟨z3y,0,none⟩) (([z1i] : List z1).length) 1)],fz Zn8o1_47992,stb zy 40 [(.int .i64 zh.1.fN),(.int .i64 zh.1.fD)],stb zx 40 [(.int .i64 zg.1.fN),(.int .i64 zg.1.fD)],stb zz 42 [(.int .i64 zd.fN),(.int .i64 zd.fD),(.int .i64 ze.fN),(.int .i64 ze.fD)]]) (fun (b6o1_47992 : Nat) (Zn8o1_47992 : Zp) (b8o4_47992 : Nat) (b14o1_47992 : Nat)=>(Zle (Z ++ (z62 ++ z7p)) (Z ++ Zn8o1_47992)) ∧ (ZS (Z ++ Zn8o1_47992) 4 (fun r x=>r = e54 x) (some ⟨b6o1_47992,0,none⟩) 2 ([(⟨(⟨(((nth ([za] : List z1) 0).fBurst).fN),(((nth ([za] : List z1) 0).fBurst).fD)⟩ : z2),(⟨(((nth ([za] : List z1) 0).fRate).fN),(((nth ([za] : List z1) 0).fRate).fD)⟩ : z2)⟩ : z1),z21] : List z1)) ∧ (RR 1 (p23 (Z ++ Zn8o1_47992)) [(.slice (some ⟨b6o1_47992,0,none⟩) (([(⟨(⟨(((nth ([za] : List z1) 0).fBurst).fN),(((nth ([za] : List z1) 0).fBurst).fD)⟩ : z2),(⟨(((nth ([za] : List z1) 0).fRate).fN),(((nth ([za] : List z1) 0).fRate).fD)⟩ : z2)⟩ : z1),z21] : List z1).length) 2),(.slice (some ⟨z3y,0,none⟩) (([z1i] : List z1).length) 1)] ([([(⟨(⟨(((nth ([za] : List z1) 0).fBurst).fN),(((nth ([za] : List z1) 0).fBurst).fD)⟩ : z2),(⟨(((nth ([za] : List z1) 0).fRate).fN),(((nth ([za] : List z1) 0).fRate).fD)⟩ : z2)⟩ : z1),z21] : List z1),([z1i] : List z1)] : List (List z1)))) (listedA 17 [14,8,6,9,7,5,4,3,2,1,0]) ?_ (fun K6o8o14_47992=>?_)
 ·skip
  rintro b6o1_47992 Zn8o1_47992 b8o4_47992 b14o1_47992 ⟨hle8o2_47992,hf8o3_47992,rel8o5_47992⟩
  refine WD.freezeS (ls:=([([(⟨(⟨(((nth ([za] : List z1) 0).fBurst).fN),(((nth ([za] : List z1) 0).fBurst).fD)⟩ : z2),(⟨(((nth ([za] : List z1) 0).fRate).fN),(((nth ([za] : List z1) 0).fRate).fD)⟩ : z2)⟩ : z1),z21] : List z1),([z1i] : List z1)] : List (List z1))) .h1 .h1 hz rel8o5_47992 ?_
  intro Zn10o1_47992 hle10o2_47992 hf10o3_47992
  replace hf10o3_47992:=hf10o3_47992.weak (fun _ _ h=>p23_mono hle10o2_47992 h)
  refine WD.call1 (i:=10) (dd:=55) rfl (by kernel_rfl) rfl rfl rfl (.inr rfl) (zi (l:=[.tmp 53,.tmp 54]) Tryz.call11 (.cons rfl (.cons rfl .nil))) (.nil : Sel [fz Zn10o1_47992,stb b14o1_47992 40 [(.int .i64 0),(.int .i64 0)],stb zy 40 [(.int .i64 zh.1.fN),(.int .i64 zh.1.fD)],stb zx 40 [(.int .i64 zg.1.fN),(.int .i64 zg.1.fD)],stb zz 42 [(.int .i64 zd.fN),(.int .i64 zd.fD),(.int .i64 ze.fN),(.int .i64 ze.fD)]] [] [fz Zn10o1_47992,stb b14o1_47992 40 [(.int .i64 0),(.int .i64 0)],stb zy 40 [(.int .i64 zh.1.fN),(.int .i64 zh.1.fD)],stb zx 40 [(.int .i64 zg.1.fN),(.int .i64 zg.1.fD)],stb zz 42 [(.int .i64 zd.fN),(.int .i64 zd.fD),(.int .i64 ze.fN),(.int .i64 ze.fD)]]) (fun w hw=>by have pz:=(hz.call2 hw (.nil : Sel [fz Zn10o1_47992,stb b14o1_47992 40 [(.int .i64 0),(.int .i64 0)],stb zy 40 [(.int .i64 zh.1.fN),(.int .i64 zh.1.fD)],stb zx 40 [(.int .i64 zg.1.fN),(.int .i64 zg.1.fD)],stb zz 42 [(.int .i64 zd.fN),(.int .i64 zd.fD),(.int .i64 ze.fN),(.int .i64 ze.fD)]] [] [fz Zn10o1_47992,stb b14o1_47992 40 [(.int .i64 0),(.int .i64 0)],stb zy 40 [(.int .i64 zh.1.fN),(.int .i64 zh.1.fD)],stb zx 40 [(.int .i64 zg.1.fN),(.int .i64 zg.1.fD)],stb zz 42 [(.int .i64 zd.fN),(.int .i64 zd.fD),(.int .i64 ze.fN),(.int .i64 ze.fD)]]) .here); exact w_calculus_Delay (Z:=_) (z5T:=(some ⟨b8o4_47992,0,none⟩)) (z5U:=2) (z4X:=([([(⟨(⟨(((nth ([za] : List z1) 0).fBurst).fN),(((nth ([za] : List z1) 0).fBurst).fD)⟩ : z2),(⟨(((nth ([za] : List z1) 0).fRate).fN),(((nth ([za] : List z1) 0).fRate).fD)⟩ : z2)⟩ : z1),z21] : List z1),([z1i] : List z1)] : List (List z1))) (z1A:=(⟨zd,ze⟩ : S41)) (r:=zp) w pz hf10o3_47992 zs7) ?_
  rintro Zn10o4_47992 _
  refine WD.merge .here .here ?_
  refine WD.a (i:=11) (d:=44) (by kernel_rfl) rfl (z6 (by kernel_rfl)) (z7 (by kernel_rfl)) rfl rfl rfl (fun _=>q_m rfl) ?_
  refine WD.a (i:=12) (d:=56) (by kernel_rfl) rfl (z6 (by kernel_rfl)) (z7 (by kernel_rfl)) rfl rfl rfl (fun _=>q_extract rfl rfl) ?_
  refine WD.a (i:=13) (d:=57) (by kernel_rfl) rfl (z6 (by kernel_rfl)) (z7 (by kernel_rfl)) rfl rfl rfl (fun _=>q_extract rfl rfl) ?_
  exact WD.reL (.cons .h1 (.cons .here (.cons .here (.cons .here (.cons .here .nil))))) (.cons rfl (.cons rfl (.cons rfl (.cons rfl (.cons rfl (.cons rfl (.cons rfl .nil))))))) (K6o8o10o11o12o13o14_47992 b6o1_47992 Zn8o1_47992 b8o4_47992 Zn10o1_47992 Zn10o4_47992 b14o1_47992 ⟨hle8o2_47992,hf8o3_47992,rel8o5_47992,hle10o2_47992,hf10o3_47992⟩)
 refine WD.mids3 (fuel':=7) (fun (b6o1_47992 : Nat) (Zn8o1_47992 : Zp) (b8o4_47992 : Nat)=>[(4,(.pointer (some ⟨zx,0,none⟩))),(5,(.int .i64 zg.2)),(6,(.pointer (some ⟨zy,0,none⟩))),(7,(.int .i64 zh.2)),(54,(.agg #[(.int .i64 zd.fN),(.int .i64 zd.fD),(.int .i64 ze.fN),(.int .i64 ze.fD)])),(53,(.slice (some ⟨b8o4_47992,0,none⟩) (([([(⟨(⟨(((nth ([za] : List z1) 0).fBurst).fN),(((nth ([za] : List z1) 0).fBurst).fD)⟩ : z2),(⟨(((nth ([za] : List z1) 0).fRate).fN),(((nth ([za] : List z1) 0).fRate).fD)⟩ : z2)⟩ : z1),z21] : List z1),([z1i] : List z1)] : List (List z1)).length) 2))]) (fun (b6o1_47992 : Nat) (Zn8o1_47992 : Zp) (b8o4_47992 : Nat)=>[row (.slice (some ⟨b8o4_47992,0,none⟩) (([([(⟨(⟨(((nth ([za] : List z1) 0).fBurst).fN),(((nth ([za] : List z1) 0).fBurst).fD)⟩ : z2),(⟨(((nth ([za] : List z1) 0).fRate).fN),(((nth ([za] : List z1) 0).fRate).fD)⟩ : z2)⟩ : z1),z21] : List z1),([z1i] : List z1)] : List (List z1)).length) 2) 23 1 [(.slice (some ⟨b6o1_47992,0,none⟩) (([(⟨(⟨(((nth ([za] : List z1) 0).fBurst).fN),(((nth ([za] : List z1) 0).fBurst).fD)⟩ : z2),(⟨(((nth ([za] : List z1) 0).fRate).fN),(((nth ([za] : List z1) 0).fRate).fD)⟩ : z2)⟩ : z1),z21] : List z1).length) 2),(.slice (some ⟨z3y,0,none⟩) (([z1i] : List z1).length) 1)],fz Zn8o1_47992,stb zy 40 [(.int .i64 zh.1.fN),(.int .i64 zh.1.fD)],stb zx 40 [(.int .i64 zg.1.fN),(.int .i64 zg.1.fD)],stb zz 42 [(.int .i64 zd.fN),(.int .i64 zd.fD),(.int .i64 ze.fN),(.int .i64 ze.fD)]]) (fun (b6o1_47992 : Nat) (Zn8o1_47992 : Zp) (b8o4_47992 : Nat)=>(Zle (Z ++ (z62 ++ z7p)) (Z ++ Zn8o1_47992)) ∧ (ZS (Z ++ Zn8o1_47992) 4 (fun r x=>r = e54 x) (some ⟨b6o1_47992,0,none⟩) 2 ([(⟨(⟨(((nth ([za] : List z1) 0).fBurst).fN),(((nth ([za] : List z1) 0).fBurst).fD)⟩ : z2),(⟨(((nth ([za] : List z1) 0).fRate).fN),(((nth ([za] : List z1) 0).fRate).fD)⟩ : z2)⟩ : z1),z21] : List z1)) ∧ (RR 1 (p23 (Z ++ Zn8o1_47992)) [(.slice (some ⟨b6o1_47992,0,none⟩) (([(⟨(⟨(((nth ([za] : List z1) 0).fBurst).fN),(((nth ([za] : List z1) 0).fBurst).fD)⟩ : z2),(⟨(((nth ([za] : List z1) 0).fRate).fN),(((nth ([za] : List z1) 0).fRate).fD)⟩ : z2)⟩ : z1),z21] : List z1).length) 2),(.slice (some ⟨z3y,0,none⟩) (([z1i] : List z1).length) 1)] ([([(⟨(⟨(((nth ([za] : List z1) 0).fBurst).fN),(((nth ([za] : List z1) 0).fBurst).fD)⟩ : z2),(⟨(((nth ([za] : List z1) 0).fRate).fN),(((nth ([za] : List z1) 0).fRate).fD)⟩ : z2)⟩ : z1),z21] : List z1),([z1i] : List z1)] : List (List z1)))) (listedA 17 [8,6,9,7,5,4,3,2,1,0]) ?_ (fun K6o8_47992=>?_)
 ·skip
  rintro b6o1_47992 Zn8o1_47992 b8o4_47992 ⟨hle8o2_47992,hf8o3_47992,rel8o5_47992⟩
  refine WD.choose [10,14] (by kernel_rfl) rfl ?_
  refine WDo.cons ?_ (WDo.cons ?_ (WDo.nil))
  ·refine WDo.freezeS (ls:=([([(⟨(⟨(((nth ([za] : List z1) 0).fBurst).fN),(((nth ([za] : List z1) 0).fBurst).fD)⟩ : z2),(⟨(((nth ([za] : List z1) 0).fRate).fN),(((nth ([za] : List z1) 0).fRate).fD)⟩ : z2)⟩ : z1),z21] : List z1),([z1i] : List z1)] : List (List z1))) .here .here hz rel8o5_47992 ?_
   intro Zn10o1_47992 hle10o2_47992 hf10o3_47992
   replace hf10o3_47992:=hf10o3_47992.weak (fun _ _ h=>p23_mono hle10o2_47992 h)
   refine WDo.call1 (i:=10) (dd:=55) rfl rfl rfl rfl (.inr rfl) (zi (l:=[.tmp 53,.tmp 54]) Tryz.call11 (.cons rfl (.cons rfl .nil))) (.nil : Sel [fz Zn10o1_47992,stb zy 40 [(.int .i64 zh.1.fN),(.int .i64 zh.1.fD)],stb zx 40 [(.int .i64 zg.1.fN),(.int .i64 zg.1.fD)],stb zz 42 [(.int .i64 zd.fN),(.int .i64 zd.fD),(.int .i64 ze.fN),(.int .i64 ze.fD)]] [] [fz Zn10o1_47992,stb zy 40 [(.int .i64 zh.1.fN),(.int .i64 zh.1.fD)],stb zx 40 [(.int .i64 zg.1.fN),(.int .i64 zg.1.fD)],stb zz 42 [(.int .i64 zd.fN),(.int .i64 zd.fD),(.int .i64 ze.fN),(.int .i64 ze.fD)]]) (fun w hw=>by have pz:=(hz.call2 hw (.nil : Sel [fz Zn10o1_47992,stb zy 40 [(.int .i64 zh.1.fN),(.int .i64 zh.1.fD)],stb zx 40 [(.int .i64 zg.1.fN),(.int .i64 zg.1.fD)],stb zz 42 [(.int .i64 zd.fN),(.int .i64 zd.fD),(.int .i64 ze.fN),(.int .i64 ze.fD)]] [] [fz Zn10o1_47992,stb zy 40 [(.int .i64 zh.1.fN),(.int .i64 zh.1.fD)],stb zx 40 [(.int .i64 zg.1.fN),(.int .i64 zg.1.fD)],stb zz 42 [(.int .i64 zd.fN),(.int .i64 zd.fD),(.int .i64 ze.fN),(.int .i64 ze.fD)]]) .here); exact w_calculus_Delay (Z:=_) (z5T:=(some ⟨b8o4_47992,0,none⟩)) (z5U:=2) (z4X:=([([(⟨(⟨(((nth ([za] : List z1) 0).fBurst).fN),(((nth ([za] : List z1) 0).fBurst).fD)⟩ : z2),(⟨(((nth ([za] : List z1) 0).fRate).fN),(((nth ([za] : List z1) 0).fRate).fD)⟩ : z2)⟩ : z1),z21] : List z1),([z1i] : List z1)] : List (List z1))) (z1A:=(⟨zd,ze⟩ : S41)) (r:=zp) w pz hf10o3_47992 zs7) ?_
   rintro Zn10o4_47992 _
   refine WD.merge .here .here ?_
   refine WD.a (i:=11) (d:=44) (by kernel_rfl) rfl (z6 (by kernel_rfl)) (z7 (by kernel_rfl)) rfl rfl rfl (fun _=>q_m rfl) ?_
   refine WD.a (i:=12) (d:=56) (by kernel_rfl) rfl (z6 (by kernel_rfl)) (z7 (by kernel_rfl)) rfl rfl rfl (fun _=>q_extract rfl rfl) ?_
   refine WD.a (i:=13) (d:=57) (by kernel_rfl) rfl (z6 (by kernel_rfl)) (z7 (by kernel_rfl)) rfl rfl rfl (fun _=>q_extract rfl rfl) ?_
   exact WD.reL (.cons .here (.cons .here (.cons .here (.cons .here .nil)))) (.cons rfl (.cons rfl (.cons rfl (.cons rfl (.cons rfl (.cons rfl .nil)))))) (K6o8o10o11o12o13_47992 b6o1_47992 Zn8o1_47992 b8o4_47992 Zn10o1_47992 Zn10o4_47992 ⟨hle8o2_47992,hf8o3_47992,rel8o5_47992,hle10o2_47992,hf10o3_47992⟩)
  ·refine WDo.new (i:=14) (dd:=8) rfl rfl rfl rfl (e_alloc (cs:=[(.int .i64 0),(.int .i64 0)]) zeroT_40 rfl) (fun h'=>absurd h' (by decide)) ?_
   intro b14o1_47992 _
   exact WD.reL (.cons .here (.cons .here (.cons .here (.cons .here (.cons .here (.cons .here .nil)))))) (.cons rfl (.cons rfl (.cons rfl (.cons rfl (.cons rfl (.cons rfl (.cons rfl .nil))))))) (K6o8o14_47992 b6o1_47992 Zn8o1_47992 b8o4_47992 b14o1_47992 ⟨hle8o2_47992,hf8o3_47992,rel8o5_47992⟩)
 refine WD.mids2 (fuel':=7) (fun (b6o1_47992 : Nat) (b14o1_47992 : Nat)=>[(4,(.pointer (some ⟨zx,0,none⟩))),(5,(.int .i64 zg.2)),(6,(.pointer (some ⟨zy,0,none⟩))),(7,(.int .i64 zh.2)),(52,(.slice (some ⟨z3y,0,none⟩) (([z1i] : List z1).length) 1)),(54,(.agg #[(.int .i64 zd.fN),(.int .i64 zd.fD),(.int .i64 ze.fN),(.int .i64 ze.fD)])),(51,(.slice (some ⟨b6o1_47992,0,none⟩) (([(⟨(⟨(((nth ([za] : List z1) 0).fBurst).fN),(((nth ([za] : List z1) 0).fBurst).fD)⟩ : z2),(⟨(((nth ([za] : List z1) 0).fRate).fN),(((nth ([za] : List z1) 0).fRate).fD)⟩ : z2)⟩ : z1),z21] : List z1).length) 2)),(8,(.pointer (some ⟨b14o1_47992,0,none⟩)))]) (fun (b6o1_47992 : Nat) (b14o1_47992 : Nat)=>[stb b14o1_47992 40 [(.int .i64 0),(.int .i64 0)],row (.slice (some ⟨b6o1_47992,0,none⟩) (([(⟨(⟨(((nth ([za] : List z1) 0).fBurst).fN),(((nth ([za] : List z1) 0).fBurst).fD)⟩ : z2),(⟨(((nth ([za] : List z1) 0).fRate).fN),(((nth ([za] : List z1) 0).fRate).fD)⟩ : z2)⟩ : z1),z21] : List z1).length) 2) 54 4 (([(⟨(⟨(((nth ([za] : List z1) 0).fBurst).fN),(((nth ([za] : List z1) 0).fBurst).fD)⟩ : z2),(⟨(((nth ([za] : List z1) 0).fRate).fN),(((nth ([za] : List z1) 0).fRate).fD)⟩ : z2)⟩ : z1),z21] : List z1).flatMap e54),stb zy 40 [(.int .i64 zh.1.fN),(.int .i64 zh.1.fD)],fz (z62 ++ z7p),stb zx 40 [(.int .i64 zg.1.fN),(.int .i64 zg.1.fD)],stb zz 42 [(.int .i64 zd.fN),(.int .i64 zd.fD),(.int .i64 ze.fN),(.int .i64 ze.fD)]]) (fun (b6o1_47992 : Nat) (b14o1_47992 : Nat)=>True) (listedA 17 [14,6,9,7,5,4,3,2,1,0]) ?_ (fun K6o14_47992=>?_)
 ·skip
  rintro b6o1_47992 b14o1_47992 _
  refine WD.freezeS (ls:=([(⟨(⟨(((nth ([za] : List z1) 0).fBurst).fN),(((nth ([za] : List z1) 0).fBurst).fD)⟩ : z2),(⟨(((nth ([za] : List z1) 0).fRate).fN),(((nth ([za] : List z1) 0).fRate).fD)⟩ : z2)⟩ : z1),z21] : List z1)) .h1 .h2 hz (RR.flat (enc:=e54) (fun _=>rfl) _) ?_
  intro Zn8o1_47992 hle8o2_47992 hf8o3_47992
  have rel8o5_47992 : RR 1 (p23 (Z ++ Zn8o1_47992)) [(.slice (some ⟨b6o1_47992,0,none⟩) (([(⟨(⟨(((nth ([za] : List z1) 0).fBurst).fN),(((nth ([za] : List z1) 0).fBurst).fD)⟩ : z2),(⟨(((nth ([za] : List z1) 0).fRate).fN),(((nth ([za] : List z1) 0).fRate).fD)⟩ : z2)⟩ : z1),z21] : List z1).length) 2),(.slice (some ⟨z3y,0,none⟩) (([z1i] : List z1).length) 1)] ([([(⟨(⟨(((nth ([za] : List z1) 0).fBurst).fN),(((nth ([za] : List z1) 0).fBurst).fD)⟩ : z2),(⟨(((nth ([za] : List z1) 0).fRate).fN),(((nth ([za] : List z1) 0).fRate).fD)⟩ : z2)⟩ : z1),z21] : List z1),([z1i] : List z1)] : List (List z1)):=(RR.cons (r:=[(.slice (some ⟨b6o1_47992,0,none⟩) (([(⟨(⟨(((nth ([za] : List z1) 0).fBurst).fN),(((nth ([za] : List z1) 0).fBurst).fD)⟩ : z2),(⟨(((nth ([za] : List z1) 0).fRate).fN),(((nth ([za] : List z1) 0).fRate).fD)⟩ : z2)⟩ : z1),z21] : List z1).length) 2)]) rfl (show p23 _ _ _ from ⟨_,_,rfl,hf8o3_47992⟩) (RR.cons (r:=[(.slice (some ⟨z3y,0,none⟩) (([z1i] : List z1).length) 1)]) rfl (show p23 _ _ _ from ⟨_,_,rfl,(ziR.mono (zeU.trans ((Zle.left _ _).trans ((Zle.assoc _ _ _).trans (ziS.trans ((Zle.left _ _).trans ((Zle.assoc _ _ _).trans hle8o2_47992)))))))⟩) (RR.nil _ _)))
  refine WD.new (i:=8) (dd:=53) rfl (by kernel_rfl) rfl rfl rfl (e_buildSlice (cs:=[(.slice (some ⟨b6o1_47992,0,none⟩) (([(⟨(⟨(((nth ([za] : List z1) 0).fBurst).fN),(((nth ([za] : List z1) 0).fBurst).fD)⟩ : z2),(⟨(((nth ([za] : List z1) 0).fRate).fN),(((nth ([za] : List z1) 0).fRate).fD)⟩ : z2)⟩ : z1),z21] : List z1).length) 2),(.slice (some ⟨z3y,0,none⟩) (([z1i] : List z1).length) 1)]) elT_38 (Eos.parts (l:=[.tmp 51,.tmp 52]) (.cons rfl (.cons rfl .nil)) [0,1]) (fun _=>by kernel_rfl) rfl (by unfold maxLen; omega)) (fun h'=>absurd h' (by decide)) ?_
  intro b8o4_47992 _
  exact WD.reL (.cons .h2 (.cons .here (.cons .here (.cons .here (.cons .here (.cons .here .nil)))))) (.cons rfl (.cons rfl (.cons rfl (.cons rfl (.cons rfl (.cons rfl (.cons rfl .nil))))))) (K6o8o14_47992 b6o1_47992 Zn8o1_47992 b8o4_47992 b14o1_47992 ⟨hle8o2_47992,hf8o3_47992,rel8o5_47992⟩)
 refine WD.mids1 (fuel':=8) (fun (b6o1_47992 : Nat)=>[(4,(.pointer (some ⟨zx,0,none⟩))),(5,(.int .i64 zg.2)),(6,(.pointer (some ⟨zy,0,none⟩))),(7,(.int .i64 zh.2)),(52,(.slice (some ⟨z3y,0,none⟩) (([z1i] : List z1).length) 1)),(54,(.agg #[(.int .i64 zd.fN),(.int .i64 zd.fD),(.int .i64 ze.fN),(.int .i64 ze.fD)])),(51,(.slice (some ⟨b6o1_47992,0,none⟩) (([(⟨(⟨(((nth ([za] : List z1) 0).fBurst).fN),(((nth ([za] : List z1) 0).fBurst).fD)⟩ : z2),(⟨(((nth ([za] : List z1) 0).fRate).fN),(((nth ([za] : List z1) 0).fRate).fD)⟩ : z2)⟩ : z1),z21] : List z1).length) 2))]) (fun (b6o1_47992 : Nat)=>[row (.slice (some ⟨b6o1_47992,0,none⟩) (([(⟨(⟨(((nth ([za] : List z1) 0).fBurst).fN),(((nth ([za] : List z1) 0).fBurst).fD)⟩ : z2),(⟨(((nth ([za] : List z1) 0).fRate).fN),(((nth ([za] : List z1) 0).fRate).fD)⟩ : z2)⟩ : z1),z21] : List z1).length) 2) 54 4 (([(⟨(⟨(((nth ([za] : List z1) 0).fBurst).fN),(((nth ([za] : List z1) 0).fBurst).fD)⟩ : z2),(⟨(((nth ([za] : List z1) 0).fRate).fN),(((nth ([za] : List z1) 0).fRate).fD)⟩ : z2)⟩ : z1),z21] : List z1).flatMap e54),stb zy 40 [(.int .i64 zh.1.fN),(.int .i64 zh.1.fD)],fz (z62 ++ z7p),stb zx 40 [(.int .i64 zg.1.fN),(.int .i64 zg.1.fD)],stb zz 42 [(.int .i64 zd.fN),(.int .i64 zd.fD),(.int .i64 ze.fN),(.int .i64 ze.fD)]]) (fun (b6o1_47992 : Nat)=>True) (listedA 17 [6,9,7,5,4,3,2,1,0]) ?_ (fun K6_47992=>?_)
 ·skip
  rintro b6o1_47992 _
  refine WD.choose [8,14] (by kernel_rfl) rfl ?_
  refine WDo.cons ?_ (WDo.cons ?_ (WDo.nil))
  ·refine WDo.freezeS (ls:=([(⟨(⟨(((nth ([za] : List z1) 0).fBurst).fN),(((nth ([za] : List z1) 0).fBurst).fD)⟩ : z2),(⟨(((nth ([za] : List z1) 0).fRate).fN),(((nth ([za] : List z1) 0).fRate).fD)⟩ : z2)⟩ : z1),z21] : List z1)) .here .h1 hz (RR.flat (enc:=e54) (fun _=>rfl) _) ?_
   intro Zn8o1_47992 hle8o2_47992 hf8o3_47992
   have rel8o5_47992 : RR 1 (p23 (Z ++ Zn8o1_47992)) [(.slice (some ⟨b6o1_47992,0,none⟩) (([(⟨(⟨(((nth ([za] : List z1) 0).fBurst).fN),(((nth ([za] : List z1) 0).fBurst).fD)⟩ : z2),(⟨(((nth ([za] : List z1) 0).fRate).fN),(((nth ([za] : List z1) 0).fRate).fD)⟩ : z2)⟩ : z1),z21] : List z1).length) 2),(.slice (some ⟨z3y,0,none⟩) (([z1i] : List z1).length) 1)] ([([(⟨(⟨(((nth ([za] : List z1) 0).fBurst).fN),(((nth ([za] : List z1) 0).fBurst).fD)⟩ : z2),(⟨(((nth ([za] : List z1) 0).fRate).fN),(((nth ([za] : List z1) 0).fRate).fD)⟩ : z2)⟩ : z1),z21] : List z1),([z1i] : List z1)] : List (List z1)):=(RR.cons (r:=[(.slice (some ⟨b6o1_47992,0,none⟩) (([(⟨(⟨(((nth ([za] : List z1) 0).fBurst).fN),(((nth ([za] : List z1) 0).fBurst).fD)⟩ : z2),(⟨(((nth ([za] : List z1) 0).fRate).fN),(((nth ([za] : List z1) 0).fRate).fD)⟩ : z2)⟩ : z1),z21] : List z1).length) 2)]) rfl (show p23 _ _ _ from ⟨_,_,rfl,hf8o3_47992⟩) (RR.cons (r:=[(.slice (some ⟨z3y,0,none⟩) (([z1i] : List z1).length) 1)]) rfl (show p23 _ _ _ from ⟨_,_,rfl,(ziR.mono (zeU.trans ((Zle.left _ _).trans ((Zle.assoc _ _ _).trans (ziS.trans ((Zle.left _ _).trans ((Zle.assoc _ _ _).trans hle8o2_47992)))))))⟩) (RR.nil _ _)))
   refine WDo.new (i:=8) (dd:=53) rfl rfl rfl rfl (e_buildSlice (cs:=[(.slice (some ⟨b6o1_47992,0,none⟩) (([(⟨(⟨(((nth ([za] : List z1) 0).fBurst).fN),(((nth ([za] : List z1) 0).fBurst).fD)⟩ : z2),(⟨(((nth ([za] : List z1) 0).fRate).fN),(((nth ([za] : List z1) 0).fRate).fD)⟩ : z2)⟩ : z1),z21] : List z1).length) 2),(.slice (some ⟨z3y,0,none⟩) (([z1i] : List z1).length) 1)]) elT_38 (Eos.parts (l:=[.tmp 51,.tmp 52]) (.cons rfl (.cons rfl .nil)) [0,1]) (fun _=>by kernel_rfl) rfl (by unfold maxLen; omega)) (fun h'=>absurd h' (by decide)) ?_
   intro b8o4_47992 _
   exact WD.reL (.cons .here (.cons .here (.cons .here (.cons .here (.cons .here .nil))))) (.cons rfl (.cons rfl (.cons rfl (.cons rfl (.cons rfl (.cons rfl .nil)))))) (K6o8_47992 b6o1_47992 Zn8o1_47992 b8o4_47992 ⟨hle8o2_47992,hf8o3_47992,rel8o5_47992⟩)
  ·refine WDo.new (i:=14) (dd:=8) rfl rfl rfl rfl (e_alloc (cs:=[(.int .i64 0),(.int .i64 0)]) zeroT_40 rfl) (fun h'=>absurd h' (by decide)) ?_
   intro b14o1_47992 _
   exact WD.reL (.cons .here (.cons .here (.cons .here (.cons .here (.cons .here (.cons .here .nil)))))) (.cons rfl (.cons rfl (.cons rfl (.cons rfl (.cons rfl (.cons rfl (.cons rfl (.cons rfl .nil)))))))) (K6o14_47992 b6o1_47992 b14o1_47992 trivial)
 refine WD.mids1 (fuel':=8) (fun (b14o1_47992 : Nat)=>[(4,(.pointer (some ⟨zx,0,none⟩))),(5,(.int .i64 zg.2)),(6,(.pointer (some ⟨zy,0,none⟩))),(7,(.int .i64 zh.2)),(47,(.agg #[(.int .i64 (((nth ([za] : List z1) 0).fBurst).fN)),(.int .i64 (((nth ([za] : List z1) 0).fBurst).fD)),(.int .i64 (((nth ([za] : List z1) 0).fRate).fN)),(.int .i64 (((nth ([za] : List z1) 0).fRate).fD))])),(50,(.agg #[(.int .i64 z21.fBurst.fN),(.int .i64 z21.fBurst.fD),(.int .i64 z21.fRate.fN),(.int .i64 z21.fRate.fD)])),(52,(.slice (some ⟨z3y,0,none⟩) (([z1i] : List z1).length) 1)),(54,(.agg #[(.int .i64 zd.fN),(.int .i64 zd.fD),(.int .i64 ze.fN),(.int .i64 ze.fD)])),(8,(.pointer (some ⟨b14o1_47992,0,none⟩)))]) (fun (b14o1_47992 : Nat)=>[stb b14o1_47992 40 [(.int .i64 0),(.int .i64 0)],stb zy 40 [(.int .i64 zh.1.fN),(.int .i64 zh.1.fD)],fz (z62 ++ z7p),stb zx 40 [(.int .i64 zg.1.fN),(.int .i64 zg.1.fD)],stb zz 42 [(.int .i64 zd.fN),(.int .i64 zd.fD),(.int .i64 ze.fN),(.int .i64 ze.fD)]]) (fun (b14o1_47992 : Nat)=>True) (listedA 17 [14,9,7,5,4,3,2,1,0]) ?_ (fun K14_47992=>?_)
 ·skip
  rintro b14o1_47992 _
  refine WD.new (i:=6) (dd:=51) rfl (by kernel_rfl) rfl rfl rfl (e_buildSlice (cs:=([(⟨(⟨(((nth ([za] : List z1) 0).fBurst).fN),(((nth ([za] : List z1) 0).fBurst).fD)⟩ : z2),(⟨(((nth ([za] : List z1) 0).fRate).fN),(((nth ([za] : List z1) 0).fRate).fD)⟩ : z2)⟩ : z1),z21] : List z1).flatMap e54) elT_23 (Eos.parts (l:=[.tmp 47,.tmp 50]) (.cons rfl (.cons rfl .nil)) [0,1]) (fun _=>by kernel_rfl) rfl (by unfold maxLen; omega)) (fun h'=>absurd h' (by decide)) ?_
  intro b6o1_47992 _
  exact WD.reL (.cons .h1 (.cons .here (.cons .here (.cons .here (.cons .here (.cons .here .nil)))))) (.cons rfl (.cons rfl (.cons rfl (.cons rfl (.cons rfl (.cons rfl (.cons rfl (.cons rfl .nil)))))))) (K6o14_47992 b6o1_47992 b14o1_47992 trivial)
 refine WD.choose [6,14] (by kernel_rfl) rfl ?_
 refine WDo.cons ?_ (WDo.cons ?_ (WDo.nil))
 ·refine WDo.new (i:=6) (dd:=51) rfl rfl rfl rfl (e_buildSlice (cs:=([(⟨(⟨(((nth ([za] : List z1) 0).fBurst).fN),(((nth ([za] : List z1) 0).fBurst).fD)⟩ : z2),(⟨(((nth ([za] : List z1) 0).fRate).fN),(((nth ([za] : List z1) 0).fRate).fD)⟩ : z2)⟩ : z1),z21] : List z1).flatMap e54) elT_23 (Eos.parts (l:=[.tmp 47,.tmp 50]) (.cons rfl (.cons rfl .nil)) [0,1]) (fun _=>by kernel_rfl) rfl (by unfold maxLen; omega)) (fun h'=>absurd h' (by decide)) ?_
  intro b6o1_47992 _
  exact WD.reL (.cons .here (.cons .here (.cons .here (.cons .here (.cons .here .nil))))) (.cons rfl (.cons rfl (.cons rfl (.cons rfl (.cons rfl (.cons rfl (.cons rfl .nil))))))) (K6_47992 b6o1_47992 trivial)
 ·refine WDo.new (i:=14) (dd:=8) rfl rfl rfl rfl (e_alloc (cs:=[(.int .i64 0),(.int .i64 0)]) zeroT_40 rfl) (fun h'=>absurd h' (by decide)) ?_
  intro b14o1_47992 _
  exact WD.reL (.cons .here (.cons .here (.cons .here (.cons .here (.cons .here .nil))))) (.cons rfl (.cons rfl (.cons rfl (.cons rfl (.cons rfl (.cons rfl (.cons rfl (.cons rfl (.cons rfl .nil))))))))) (K14_47992 b14o1_47992 trivial)
def m_ref01_size (z84 : Int) : Option Int :=
 if decide (z84 ≥ 0) then some (u64 z84) else some (u64 ((u64 (18446744073709551615 - (u64 z84))) + 1))
set_option maxRecDepth 20000 in
theorem w_ref01_size (Z : Zp)   (z84 : Int) (r : Int) (w₀ : World) (hz : PZ [] w₀ Z)
  (h : m_ref01_size z84 = some r) :
  Calls Tryz.prog 65 #[(.int .i64 z84)] w₀ fun e w'=>e = .returned (.int .u64 r) ∧ Hp [] w₀ w' []:=by
 unfold m_ref01_size at h
 refine Calls.ofWC (vs:=[(.int .i64 z84)]) (pre:=[]) (env:=[(0,(.int .i64 z84))]) Tryz.func65 rfl Tryz.ntmps65 rfl (Hp.nil w₀ _) rfl ?_
 refine WC.b ?_
 refine WC.a ?_
 refine WL.a (d:=2) rfl rfl rfl (q_z rfl) ?_
 refine WL.nil ?_
 refine WX.a ?_
 refine WC.b ?_
 refine WC.b ?_
 refine WC.a ?_
 refine WL.a (d:=3) rfl rfl rfl (q_m rfl) ?_
 refine WL.a (d:=4) rfl rfl rfl (q_geq rfl rfl) ?_
 refine WL.nil ?_
 refine WX.a ?_
 refine WC.cond rfl (fun znE=>?_) (fun znE=>?_)
 ·replace h:=ite_t h znE
  refine WC.b ?_
  refine WC.a ?_
  refine WL.a (d:=5) rfl rfl rfl (q_m rfl) ?_
  refine WL.a (d:=6) rfl rfl rfl (q_conv Tryz.underlying3 Tryz.underlying99 rfl rfl) ?_
  refine WL.a (d:=2) rfl rfl rfl (q_z rfl) ?_
  refine WL.nil ?_
  refine WX.a ?_
  refine WC.ret ?_
  refine WX.thenRet ?_
  obtain rfl:=Option.some.inj h
  refine WX.bpRet Tryz.results65 (.tmp rfl .nil) (fun w hw=>?_)
  exact ⟨ret1 rfl,hw.sub .nil⟩
 ·replace h:=ite_f h znE
  refine WC.skip ?_
  refine WX.a ?_
  refine WC.b ?_
  refine WC.a ?_
  refine WL.a (d:=7) rfl rfl rfl (q_m rfl) ?_
  refine WL.a (d:=8) rfl rfl rfl (q_conv Tryz.underlying3 Tryz.underlying99 rfl rfl) ?_
  refine WL.a (d:=9) rfl rfl rfl (q_sub rfl rfl rfl) ?_
  refine WL.a (d:=10) rfl rfl rfl (q_add rfl rfl rfl) ?_
  refine WL.a (d:=2) rfl rfl rfl (q_z rfl) ?_
  refine WL.nil ?_
  refine WX.a ?_
  refine WC.ret ?_
  obtain rfl:=Option.some.inj h
  refine WX.bpRet Tryz.results65 (.tmp rfl .nil) (fun w hw=>?_)
  exact ⟨ret1 rfl,hw.sub .nil⟩
def m_ref01_gcd_rec : Nat → Int → Int → Option Int
 | 0,_,_=>none
 | zsi + 1,z63,z5o=>if decide (z5o = 0) then some z63 else chk ((z5o : Int) ≠ 0) (((m_ref01_gcd_rec zsi) z5o (Int.tmod z63 z5o)).bind fun znF=>some znF)
def m_ref01_gcd (z63 : Int) (z5o : Int) : Option Int:=m_ref01_gcd_rec FUEL z63 z5o
set_option maxRecDepth 20000 in
theorem w_ref01_gcd_rec : ∀ (n : Nat) (Z : Zp) (z63 : Int) (z5o : Int) (r : Int) (w₀ : World) (hz : PZ [] w₀ Z) (h : m_ref01_gcd_rec n z63 z5o = some r),Calls Tryz.prog 64 #[(.int .u64 z63),(.int .u64 z5o)] w₀ fun e w'=>e = .returned (.int .u64 r) ∧ Hp [] w₀ w' []:=by
 intro n
 induction n with
 | zero=>intro Z z63 z5o r w₀ hz h; cases h
 | succ zsi ih =>
  intro Z z63 z5o r w₀ hz h
  rw [m_ref01_gcd_rec] at h
  refine Calls.ofWC (vs:=[(.int .u64 z63),(.int .u64 z5o)]) (pre:=[]) (env:=[(0,(.int .u64 z63)),(1,(.int .u64 z5o))]) Tryz.func64 rfl Tryz.ntmps64 rfl (Hp.nil w₀ _) rfl ?_
  refine WC.b ?_
  refine WC.a ?_
  refine WL.a (d:=4) rfl rfl rfl (q_z rfl) ?_
  refine WL.nil ?_
  refine WX.a ?_
  refine WC.b ?_
  refine WC.b ?_
  refine WC.a ?_
  refine WL.a (d:=5) rfl rfl rfl (q_m rfl) ?_
  refine WL.a (d:=6) rfl rfl rfl (q_eql rfl rfl) ?_
  refine WL.nil ?_
  refine WX.a ?_
  refine WC.cond rfl (fun znG=>?_) (fun znG=>?_)
  ·replace h:=ite_t h znG
   refine WC.b ?_
   refine WC.a ?_
   refine WL.a (d:=7) rfl rfl rfl (q_m rfl) ?_
   refine WL.a (d:=4) rfl rfl rfl (q_z rfl) ?_
   refine WL.nil ?_
   refine WX.a ?_
   refine WC.ret ?_
   refine WX.thenRet ?_
   obtain rfl:=Option.some.inj h
   refine WX.bpRet Tryz.results64 (.tmp rfl .nil) (fun w hw=>?_)
   exact ⟨ret1 rfl,hw.sub .nil⟩
  ·replace h:=ite_f h znG
   refine WC.skip ?_
   refine WX.a ?_
   refine WC.b ?_
   obtain ⟨zAw,h⟩:=chk_elim h
   obtain ⟨znF,zAx,h⟩:=z8 h
   refine WC.a ?_
   refine WL.a (d:=8) rfl rfl rfl (q_m rfl) ?_
   refine WL.a (d:=9) rfl rfl rfl (q_m rfl) ?_
   refine WL.a (d:=10) rfl rfl rfl (q_m rfl) ?_
   refine WL.a (d:=11) rfl rfl rfl (q_rem rfl rfl zAw rfl) ?_
   refine WL.b (dd:=12) rfl rfl rfl (zi (l:=[.tmp 8,.tmp 11]) Tryz.call64 (.cons rfl (.cons rfl .nil))) (.nil : Sel [] [] []) (fun w hw=>by have pz:=(hz.call hw (.nil : Sel [] [] [])); exact ih (Z:=_)  (z63:=z5o) (z5o:=(Int.tmod z63 z5o)) (r:=znF) w pz  zAx) ?_
   refine WL.a (d:=4) rfl rfl rfl (q_z rfl) ?_
   refine WL.nil ?_
   refine WX.a ?_
   refine WC.ret ?_
   obtain rfl:=Option.some.inj h
   refine WX.bpRet Tryz.results64 (.tmp rfl .nil) (fun w hw=>?_)
   exact ⟨ret1 rfl,hw.sub .nil⟩
theorem w_ref01_gcd (Z : Zp) (z63 : Int) (z5o : Int) (r : Int) (w₀ : World) (hz : PZ [] w₀ Z) (h : m_ref01_gcd z63 z5o = some r) : Calls Tryz.prog 64 #[(.int .u64 z63),(.int .u64 z5o)] w₀ fun e w'=>e = .returned (.int .u64 r) ∧ Hp [] w₀ w' []:=w_ref01_gcd_rec FUEL Z z63 z5o r w₀ hz h
def m_ref01_Valid (z1T : z2) : Option Bool :=
 (if (((decide (z1T.fD ≥ 1)) && (decide (z1T.fD ≤ 1073741824))) && (decide (z1T.fN ≥ (-1073741824)))) && (decide (z1T.fN ≤ 1073741824)) then (m_ref01_size z1T.fN).bind fun ziT=>(m_ref01_gcd ziT (u64 z1T.fD)).bind fun znH=>some (decide (znH = 1)) else some false).bind fun znI=>some znI
set_option maxRecDepth 20000 in
theorem w_ref01_Valid (Z : Zp)   (z1T : z2) (r : Bool) (w₀ : World) (hz : PZ [] w₀ Z)
  (h : m_ref01_Valid z1T = some r) :
  Calls Tryz.prog 45 #[(.agg #[(.int .i64 z1T.fN),(.int .i64 z1T.fD)])] w₀ fun e w'=>e = .returned (.bool r) ∧ Hp [] w₀ w' []:=by
 unfold m_ref01_Valid at h
 refine Calls.ofWC (vs:=[(.agg #[(.int .i64 z1T.fN),(.int .i64 z1T.fD)])]) (pre:=[]) (env:=[(0,(.agg #[(.int .i64 z1T.fN),(.int .i64 z1T.fD)]))]) Tryz.func45 rfl Tryz.ntmps45 rfl (Hp.nil w₀ _) rfl ?_
 refine WC.b ?_
 refine WC.a ?_
 refine WL.new (dd:=1) rfl rfl rfl (e_box (cs:=[(.int .i64 z1T.fN),(.int .i64 z1T.fD)]) rfl rfl) ?_
 intro zdz _
 refine WL.a (d:=2) rfl rfl rfl (q_z rfl) ?_
 refine WL.nil ?_
 refine WX.a ?_
 refine WC.b ?_
 obtain ⟨znI,zsj,h⟩:=z8 h
 refine WC.draw (fun i=>[].contains i) [] rfl ?_
 refine WD.a (i:=0) (d:=3) (by kernel_rfl) rfl (z6 (by kernel_rfl)) (z7 (by kernel_rfl)) rfl rfl rfl (fun _=>q_fieldAddr fo_40_1 rfl rfl) ?_
 refine WD.e (i:=1) (d:=4) (by kernel_rfl) rfl (z6 (by kernel_rfl)) (z7 (by kernel_rfl)) rfl rfl rfl (q_load1 oneT_3 rfl (rd_stb .here rfl)) ?_
 refine WD.a (i:=2) (d:=5) (by kernel_rfl) rfl (z6 (by kernel_rfl)) (z7 (by kernel_rfl)) rfl rfl rfl (fun _=>q_geq rfl rfl) ?_
 refine WD.a (i:=3) (d:=6) (by kernel_rfl) rfl (z6 (by kernel_rfl)) (z7 (by kernel_rfl)) rfl rfl rfl (fun _=>q_m rfl) ?_
 refine WD.mid (fuel':=21) [(1,(.pointer (some ⟨zdz,0,none⟩))),(2,(.bool false)),(6,(.bool (decide (z1T.fD ≥ 1)))),(10,(.bool ((decide (z1T.fD ≥ 1)) && (decide (z1T.fD ≤ 1073741824)))))] (listedA 29 [7,6,5,4,3,2,1,0]) ?_ (fun zsk=>?_)
 rotate_left
 ·rcases Bool.eq_false_or_eq_true (decide (z1T.fD ≥ 1)) with hb' | hb'
  ·have znJ:=hb'; clear hb'
   refine WD.pin (i:=6) rfl znJ ?_
   refine WD.a (i:=4) (d:=7) (by kernel_rfl) rfl (z6 (by kernel_rfl)) (z7 (by kernel_rfl)) rfl rfl rfl (fun _=>q_fieldAddr fo_40_1 rfl rfl) ?_
   refine WD.e (i:=5) (d:=8) (by kernel_rfl) rfl (z6 (by kernel_rfl)) (z7 (by kernel_rfl)) rfl rfl rfl (q_load1 oneT_3 rfl (rd_stb .here rfl)) ?_
   refine WD.a (i:=6) (d:=9) (by kernel_rfl) rfl (z6 (by kernel_rfl)) (z7 (by kernel_rfl)) rfl rfl rfl (fun _=>q_leq rfl rfl) ?_
   refine WD.a (i:=7) (d:=10) (by kernel_rfl) rfl (z6 (by kernel_rfl)) (z7 (by kernel_rfl)) rfl rfl rfl (fun _=>q_pickT rfl rfl) ?_
   refine WD.reL (.cons .here .nil) ?_ zsk
   exact (.cons rfl (.cons rfl (.cons (zf (Eq.symm znJ)) (.cons (zf (and_r znJ)) .nil))))
  ·have znK:=hb'; clear hb'
   refine WD.pin (i:=6) rfl znK ?_
   refine WD.b (i:=4) (d:=7) (by kernel_rfl) rfl (z6 (by kernel_rfl)) (z7 (by kernel_rfl)) rfl rfl rfl ?_
   refine WD.b (i:=5) (d:=8) (by kernel_rfl) rfl (z6 (by kernel_rfl)) (z7 (by kernel_rfl)) rfl rfl rfl ?_
   refine WD.b (i:=6) (d:=9) (by kernel_rfl) rfl (z6 (by kernel_rfl)) (z7 (by kernel_rfl)) rfl rfl rfl ?_
   refine WD.a (i:=7) (d:=10) (by kernel_rfl) rfl (z6 (by kernel_rfl)) (z7 (by kernel_rfl)) rfl rfl rfl (fun _=>q_pickF rfl rfl) ?_
   refine WD.reL (.cons .here .nil) ?_ zsk
   exact (.cons rfl (.cons rfl (.cons (zf (Eq.symm znK)) (.cons (zf (and_l znK)) .nil))))
 refine WD.d #[true,true,true,true,true,true,true,true,false,false,false,false,false,false,false,false,false,false,false,false,false,false,false,false,false,false,false,false,false] (by kernel_rfl) ?_
 refine WD.a (i:=8) (d:=11) (by kernel_rfl) rfl (z6 (by kernel_rfl)) (z7 (by kernel_rfl)) rfl rfl rfl (fun _=>q_m rfl) ?_
 refine WD.mid (fuel':=16) [(1,(.pointer (some ⟨zdz,0,none⟩))),(2,(.bool false)),(11,(.bool ((decide (z1T.fD ≥ 1)) && (decide (z1T.fD ≤ 1073741824))))),(15,(.bool (((decide (z1T.fD ≥ 1)) && (decide (z1T.fD ≤ 1073741824))) && (decide (z1T.fN ≥ (-1073741824))))))] (listedA 29 [12,11,10,9,8,7,6,5,4,3,2,1,0]) ?_ (fun zsl=>?_)
 rotate_left
 ·rcases Bool.eq_false_or_eq_true ((decide (z1T.fD ≥ 1)) && (decide (z1T.fD ≤ 1073741824))) with hb' | hb'
  ·have znL:=hb'; clear hb'
   refine WD.pin (i:=11) rfl znL ?_
   refine WD.a (i:=9) (d:=12) (by kernel_rfl) rfl (z6 (by kernel_rfl)) (z7 (by kernel_rfl)) rfl rfl rfl (fun _=>q_fieldAddr fo_40_0 rfl rfl) ?_
   refine WD.e (i:=10) (d:=13) (by kernel_rfl) rfl (z6 (by kernel_rfl)) (z7 (by kernel_rfl)) rfl rfl rfl (q_load1 oneT_3 rfl (rd_stb .here rfl)) ?_
   refine WD.a (i:=11) (d:=14) (by kernel_rfl) rfl (z6 (by kernel_rfl)) (z7 (by kernel_rfl)) rfl rfl rfl (fun _=>q_geq rfl rfl) ?_
   refine WD.a (i:=12) (d:=15) (by kernel_rfl) rfl (z6 (by kernel_rfl)) (z7 (by kernel_rfl)) rfl rfl rfl (fun _=>q_pickT rfl rfl) ?_
   refine WD.reL (.cons .here .nil) ?_ zsl
   exact (.cons rfl (.cons rfl (.cons (zf (Eq.symm znL)) (.cons (zf (and_r znL)) .nil))))
  ·have znM:=hb'; clear hb'
   refine WD.pin (i:=11) rfl znM ?_
   refine WD.b (i:=9) (d:=12) (by kernel_rfl) rfl (z6 (by kernel_rfl)) (z7 (by kernel_rfl)) rfl rfl rfl ?_
   refine WD.b (i:=10) (d:=13) (by kernel_rfl) rfl (z6 (by kernel_rfl)) (z7 (by kernel_rfl)) rfl rfl rfl ?_
   refine WD.b (i:=11) (d:=14) (by kernel_rfl) rfl (z6 (by kernel_rfl)) (z7 (by kernel_rfl)) rfl rfl rfl ?_
   refine WD.a (i:=12) (d:=15) (by kernel_rfl) rfl (z6 (by kernel_rfl)) (z7 (by kernel_rfl)) rfl rfl rfl (fun _=>q_pickF rfl rfl) ?_
   refine WD.reL (.cons .here .nil) ?_ zsl
   exact (.cons rfl (.cons rfl (.cons (zf (Eq.symm znM)) (.cons (zf (and_l znM)) .nil))))
 refine WD.d #[true,true,true,true,true,true,true,true,true,true,true,true,true,false,false,false,false,false,false,false,false,false,false,false,false,false,false,false,false] (by kernel_rfl) ?_
 refine WD.a (i:=13) (d:=16) (by kernel_rfl) rfl (z6 (by kernel_rfl)) (z7 (by kernel_rfl)) rfl rfl rfl (fun _=>q_m rfl) ?_
 refine WD.mid (fuel':=11) [(1,(.pointer (some ⟨zdz,0,none⟩))),(2,(.bool false)),(16,(.bool (((decide (z1T.fD ≥ 1)) && (decide (z1T.fD ≤ 1073741824))) && (decide (z1T.fN ≥ (-1073741824)))))),(20,(.bool ((((decide (z1T.fD ≥ 1)) && (decide (z1T.fD ≤ 1073741824))) && (decide (z1T.fN ≥ (-1073741824)))) && (decide (z1T.fN ≤ 1073741824)))))] (listedA 29 [17,16,15,14,13,12,11,10,9,8,7,6,5,4,3,2,1,0]) ?_ (fun zsm=>?_)
 rotate_left
 ·rcases Bool.eq_false_or_eq_true (((decide (z1T.fD ≥ 1)) && (decide (z1T.fD ≤ 1073741824))) && (decide (z1T.fN ≥ (-1073741824)))) with hb' | hb'
  ·have znN:=hb'; clear hb'
   refine WD.pin (i:=16) rfl znN ?_
   refine WD.a (i:=14) (d:=17) (by kernel_rfl) rfl (z6 (by kernel_rfl)) (z7 (by kernel_rfl)) rfl rfl rfl (fun _=>q_fieldAddr fo_40_0 rfl rfl) ?_
   refine WD.e (i:=15) (d:=18) (by kernel_rfl) rfl (z6 (by kernel_rfl)) (z7 (by kernel_rfl)) rfl rfl rfl (q_load1 oneT_3 rfl (rd_stb .here rfl)) ?_
   refine WD.a (i:=16) (d:=19) (by kernel_rfl) rfl (z6 (by kernel_rfl)) (z7 (by kernel_rfl)) rfl rfl rfl (fun _=>q_leq rfl rfl) ?_
   refine WD.a (i:=17) (d:=20) (by kernel_rfl) rfl (z6 (by kernel_rfl)) (z7 (by kernel_rfl)) rfl rfl rfl (fun _=>q_pickT rfl rfl) ?_
   refine WD.reL (.cons .here .nil) ?_ zsm
   exact (.cons rfl (.cons rfl (.cons (zf (Eq.symm znN)) (.cons (zf (and_r znN)) .nil))))
  ·have znO:=hb'; clear hb'
   refine WD.pin (i:=16) rfl znO ?_
   refine WD.b (i:=14) (d:=17) (by kernel_rfl) rfl (z6 (by kernel_rfl)) (z7 (by kernel_rfl)) rfl rfl rfl ?_
   refine WD.b (i:=15) (d:=18) (by kernel_rfl) rfl (z6 (by kernel_rfl)) (z7 (by kernel_rfl)) rfl rfl rfl ?_
   refine WD.b (i:=16) (d:=19) (by kernel_rfl) rfl (z6 (by kernel_rfl)) (z7 (by kernel_rfl)) rfl rfl rfl ?_
   refine WD.a (i:=17) (d:=20) (by kernel_rfl) rfl (z6 (by kernel_rfl)) (z7 (by kernel_rfl)) rfl rfl rfl (fun _=>q_pickF rfl rfl) ?_
   refine WD.reL (.cons .here .nil) ?_ zsm
   exact (.cons rfl (.cons rfl (.cons (zf (Eq.symm znO)) (.cons (zf (and_l znO)) .nil))))
 refine WD.d #[true,true,true,true,true,true,true,true,true,true,true,true,true,true,true,true,true,true,false,false,false,false,false,false,false,false,false,false,false] (by kernel_rfl) ?_
 refine WD.a (i:=18) (d:=21) (by kernel_rfl) rfl (z6 (by kernel_rfl)) (z7 (by kernel_rfl)) rfl rfl rfl (fun _=>q_m rfl) ?_
 refine WD.mid (fuel':=1) [(2,(.bool false)),(21,(.bool ((((decide (z1T.fD ≥ 1)) && (decide (z1T.fD ≤ 1073741824))) && (decide (z1T.fN ≥ (-1073741824)))) && (decide (z1T.fN ≤ 1073741824))))),(30,(.bool znI))] (listedA 29 [27,26,25,24,23,22,21,20,19,18,17,16,15,14,13,12,11,10,9,8,7,6,5,4,3,2,1,0]) ?_ (fun zsn=>?_)
 rotate_left
 ·rcases Bool.eq_false_or_eq_true ((((decide (z1T.fD ≥ 1)) && (decide (z1T.fD ≤ 1073741824))) && (decide (z1T.fN ≥ (-1073741824)))) && (decide (z1T.fN ≤ 1073741824))) with hb' | hb'
  ·have znP:=hb'; clear hb'
   have zdA:=ite_t zsj znP
   obtain ⟨ziT,zAy,zdA⟩:=z8 zdA
   obtain ⟨znH,zAz,zdA⟩:=z8 zdA
   replace zdA:=Option.some.inj zdA
   refine WD.pin (i:=21) rfl znP ?_
   refine WD.a (i:=19) (d:=22) (by kernel_rfl) rfl (z6 (by kernel_rfl)) (z7 (by kernel_rfl)) rfl rfl rfl (fun _=>q_fieldAddr fo_40_0 rfl rfl) ?_
   refine WD.e (i:=20) (d:=23) (by kernel_rfl) rfl (z6 (by kernel_rfl)) (z7 (by kernel_rfl)) rfl rfl rfl (q_load1 oneT_3 rfl (rd_stb .here rfl)) ?_
   refine WD.c (i:=21) (d:=24) (by kernel_rfl) rfl (z6 (by kernel_rfl)) (z7 (by kernel_rfl)) rfl rfl rfl (zi (l:=[.tmp 23]) Tryz.call65 (.cons rfl .nil)) (fun w hw=>by have pz:=(hz.call hw (.nil : Sel [stb zdz 40 [(.int .i64 z1T.fN),(.int .i64 z1T.fD)]] [] [stb zdz 40 [(.int .i64 z1T.fN),(.int .i64 z1T.fD)]])); exact w_ref01_size (Z:=_)  (z84:=z1T.fN) (r:=ziT) w pz  zAy) ?_
   refine WD.a (i:=22) (d:=25) (by kernel_rfl) rfl (z6 (by kernel_rfl)) (z7 (by kernel_rfl)) rfl rfl rfl (fun _=>q_fieldAddr fo_40_1 rfl rfl) ?_
   refine WD.e (i:=23) (d:=26) (by kernel_rfl) rfl (z6 (by kernel_rfl)) (z7 (by kernel_rfl)) rfl rfl rfl (q_load1 oneT_3 rfl (rd_stb .here rfl)) ?_
   refine WD.a (i:=24) (d:=27) (by kernel_rfl) rfl (z6 (by kernel_rfl)) (z7 (by kernel_rfl)) rfl rfl rfl (fun _=>q_conv Tryz.underlying3 Tryz.underlying99 rfl rfl) ?_
   refine WD.c (i:=25) (d:=28) (by kernel_rfl) rfl (z6 (by kernel_rfl)) (z7 (by kernel_rfl)) rfl rfl rfl (zi (l:=[.tmp 24,.tmp 27]) Tryz.call64 (.cons rfl (.cons rfl .nil))) (fun w hw=>by have pz:=(hz.call hw (.nil : Sel [stb zdz 40 [(.int .i64 z1T.fN),(.int .i64 z1T.fD)]] [] [stb zdz 40 [(.int .i64 z1T.fN),(.int .i64 z1T.fD)]])); exact w_ref01_gcd (Z:=_)  (z63:=ziT) (z5o:=(u64 z1T.fD)) (r:=znH) w pz  zAz) ?_
   refine WD.a (i:=26) (d:=29) (by kernel_rfl) rfl (z6 (by kernel_rfl)) (z7 (by kernel_rfl)) rfl rfl rfl (fun _=>q_eql rfl rfl) ?_
   refine WD.a (i:=27) (d:=30) (by kernel_rfl) rfl (z6 (by kernel_rfl)) (z7 (by kernel_rfl)) rfl rfl rfl (fun _=>q_pickT rfl rfl) ?_
   refine WD.reL (.cons .here .nil) ?_ zsn
   exact (.cons rfl (.cons (zf (Eq.symm znP)) (.cons (zf zdA) .nil)))
  ·have znQ:=hb'; clear hb'
   have znR:=ite_f zsj znQ
   replace znR:=Option.some.inj znR
   refine WD.pin (i:=21) rfl znQ ?_
   refine WD.b (i:=19) (d:=22) (by kernel_rfl) rfl (z6 (by kernel_rfl)) (z7 (by kernel_rfl)) rfl rfl rfl ?_
   refine WD.b (i:=20) (d:=23) (by kernel_rfl) rfl (z6 (by kernel_rfl)) (z7 (by kernel_rfl)) rfl rfl rfl ?_
   refine WD.b (i:=21) (d:=24) (by kernel_rfl) rfl (z6 (by kernel_rfl)) (z7 (by kernel_rfl)) rfl rfl rfl ?_
   refine WD.b (i:=22) (d:=25) (by kernel_rfl) rfl (z6 (by kernel_rfl)) (z7 (by kernel_rfl)) rfl rfl rfl ?_
   refine WD.b (i:=23) (d:=26) (by kernel_rfl) rfl (z6 (by kernel_rfl)) (z7 (by kernel_rfl)) rfl rfl rfl ?_
   refine WD.b (i:=24) (d:=27) (by kernel_rfl) rfl (z6 (by kernel_rfl)) (z7 (by kernel_rfl)) rfl rfl rfl ?_
   refine WD.b (i:=25) (d:=28) (by kernel_rfl) rfl (z6 (by kernel_rfl)) (z7 (by kernel_rfl)) rfl rfl rfl ?_
   refine WD.b (i:=26) (d:=29) (by kernel_rfl) rfl (z6 (by kernel_rfl)) (z7 (by kernel_rfl)) rfl rfl rfl ?_
   refine WD.a (i:=27) (d:=30) (by kernel_rfl) rfl (z6 (by kernel_rfl)) (z7 (by kernel_rfl)) rfl rfl rfl (fun _=>q_pickF rfl rfl) ?_
   refine WD.reL (.cons .here .nil) ?_ zsn
   exact (.cons rfl (.cons (zf (Eq.symm znQ)) (.cons (zf znR) .nil)))
 refine WD.d #[true,true,true,true,true,true,true,true,true,true,true,true,true,true,true,true,true,true,true,true,true,true,true,true,true,true,true,true,false] (by kernel_rfl) ?_
 refine WD.a (i:=28) (d:=2) (by kernel_rfl) rfl (z6 (by kernel_rfl)) (z7 (by kernel_rfl)) rfl rfl rfl (fun _=>q_z rfl) ?_
 refine WD.done (by kernel_rfl) ?_
 refine WX.a ?_
 refine WC.ret ?_
 obtain rfl:=Option.some.inj h
 refine WX.bpRet Tryz.results45 (.tmp rfl .nil) (fun w hw=>?_)
 exact ⟨ret1 rfl,hw.sub .nil⟩
def m_ref02_Good (z3M : z2) : Option Bool :=
 (m_ref01_Valid z3M).bind fun zgI=>some (zgI && (decide (z3M.fN ≥ 0)))
set_option maxRecDepth 20000 in
theorem w_ref02_Good (Z : Zp)   (z3M : z2) (r : Bool) (w₀ : World) (hz : PZ [] w₀ Z)
  (h : m_ref02_Good z3M = some r) :
  Calls Tryz.prog 46 #[(.agg #[(.int .i64 z3M.fN),(.int .i64 z3M.fD)])] w₀ fun e w'=>e = .returned (.bool r) ∧ Hp [] w₀ w' []:=by
 unfold m_ref02_Good at h
 refine Calls.ofWC (vs:=[(.agg #[(.int .i64 z3M.fN),(.int .i64 z3M.fD)])]) (pre:=[]) (env:=[(0,(.agg #[(.int .i64 z3M.fN),(.int .i64 z3M.fD)]))]) Tryz.func46 rfl Tryz.ntmps46 rfl (Hp.nil w₀ _) rfl ?_
 refine WC.b ?_
 refine WC.a ?_
 refine WL.new (dd:=1) rfl rfl rfl (e_box (cs:=[(.int .i64 z3M.fN),(.int .i64 z3M.fD)]) rfl rfl) ?_
 intro zgJ _
 refine WL.a (d:=2) rfl rfl rfl (q_z rfl) ?_
 refine WL.nil ?_
 refine WX.a ?_
 refine WC.b ?_
 obtain ⟨zgI,zAA,h⟩:=z8 h
 refine WC.a ?_
 refine WL.a (d:=3) rfl rfl rfl (q_loadA (cs:=[(.int .i64 z3M.fN),(.int .i64 z3M.fD)]) aggT_40 rfl rfl (rd_all .here)) ?_
 refine WL.b (dd:=4) rfl rfl rfl (zi (l:=[.tmp 3]) Tryz.call45 (.cons rfl .nil)) (.nil : Sel [stb zgJ 40 [(.int .i64 z3M.fN),(.int .i64 z3M.fD)]] [] [stb zgJ 40 [(.int .i64 z3M.fN),(.int .i64 z3M.fD)]]) (fun w hw=>by have pz:=(hz.call hw (.nil : Sel [stb zgJ 40 [(.int .i64 z3M.fN),(.int .i64 z3M.fD)]] [] [stb zgJ 40 [(.int .i64 z3M.fN),(.int .i64 z3M.fD)]])); exact w_ref01_Valid (Z:=_)  (z1T:=z3M) (r:=zgI) w pz  zAA) ?_
 refine WL.a (d:=5) rfl rfl rfl (q_m rfl) ?_
 refine WL.cut0 True [(2,(.bool false)),(9,(.bool (zgI && (decide (z3M.fN ≥ 0)))))] [stb zgJ 40 [(.int .i64 z3M.fN),(.int .i64 z3M.fD)]] 4 ?_ (fun _=>?_)
 ·rcases Bool.eq_false_or_eq_true zgI with hb' | hb'
  ·have zso:=hb'; clear hb'
   refine WL.pin (i:=5) rfl zso ?_
   refine WL.a (d:=6) rfl rfl rfl (q_fieldAddr fo_40_0 rfl rfl) ?_
   refine WL.a (d:=7) rfl rfl rfl (q_load1 oneT_3 rfl (rd_stb .here rfl)) ?_
   refine WL.a (d:=8) rfl rfl rfl (q_geq rfl rfl) ?_
   refine WL.a (d:=9) rfl rfl rfl (q_pickT rfl rfl) ?_
   exact WL.cutEnd () trivial (.cons rfl (.cons (zf (and_r zso)) .nil)) (.cons .here .nil)
  ·have zsp:=hb'; clear hb'
   refine WL.pin (i:=5) rfl zsp ?_
   refine WL.e rfl rfl rfl ?_
   refine WL.e rfl rfl rfl ?_
   refine WL.e rfl rfl rfl ?_
   refine WL.a (d:=9) rfl rfl rfl (q_pickF rfl rfl) ?_
   exact WL.cutEnd () trivial (.cons rfl (.cons (zf (and_l zsp)) .nil)) (.cons .here .nil)
 ·skip
  refine WL.a (d:=2) rfl rfl rfl (q_z rfl) ?_
  refine WL.nil ?_
  refine WX.a ?_
  refine WC.ret ?_
  obtain rfl:=Option.some.inj h
  refine WX.bpRet Tryz.results46 (.tmp rfl .nil) (fun w hw=>?_)
  exact ⟨ret1 rfl,hw.sub .nil⟩
def m_ref02_Valid_L2 (z31 : List z1) (zb1 : Option Bool) : Nat → Int → Option Bool
 | 0,_=>none
 | znS + 1,z3N=>if decide (z3N < ((z31.length : Nat) : Int)) then chk ((0 : Int) ≤ z3N ∧ z3N < ((z31.length : Nat) : Int)) ((m_ref02_Good (⟨(((nth z31 z3N).fBurst).fN),(((nth z31 z3N).fBurst).fD)⟩ : z2)).bind fun ziU=>(if !ziU then some true else chk ((0 : Int) ≤ z3N ∧ z3N < ((z31.length : Nat) : Int)) ((m_ref02_Good (⟨(((nth z31 z3N).fRate).fN),(((nth z31 z3N).fRate).fD)⟩ : z2)).bind fun znT=>some (!znT))).bind fun znU=>if znU then some false else m_ref02_Valid_L2 z31 zb1 znS (i64 (z3N + 1))) else zb1
theorem m_ref02_Valid_L2_fuel {n : Nat} {z31 : List z1} {zb1 : Option Bool} {z3N : Int} {r : Bool} (h : m_ref02_Valid_L2 z31 zb1 n z3N = some r) : ∃ m,n = m + 1:=by
 cases n with
 | zero=>cases h
 | succ m=>exact ⟨m,rfl⟩
def m_ref02_Valid (z31 : List z1) : Option Bool :=
 if (decide (((z31.length : Nat) : Int) < 1)) || (decide (((z31.length : Nat) : Int) > 32)) then some false else jp0 (some true) fun zb1=>m_ref02_Valid_L2 z31 zb1 FUEL 0
set_option maxRecDepth 20000 in
theorem w_ref02_Valid (Z : Zp)  (zb2 : Option Addr) (zb3 : Nat) (z31 : List z1) (r : Bool) (w₀ : World) (hz : PZ [] w₀ Z)
  (zsq : ZS Z 4 (fun r x=>r = e54 x) zb2 zb3 z31)
  (h : m_ref02_Valid z31 = some r) :
  Calls Tryz.prog 25 #[(.slice zb2 z31.length zb3)] w₀ fun e w'=>e = .returned (.bool r) ∧ Hp [] w₀ w' []:=by
 unfold m_ref02_Valid at h
 refine Calls.ofWC (vs:=[(.slice zb2 z31.length zb3)]) (pre:=[]) (env:=[(0,(.slice zb2 z31.length zb3))]) Tryz.func25 rfl Tryz.ntmps25 rfl (Hp.nil w₀ _) rfl ?_
 refine WC.b ?_
 refine WC.a ?_
 refine WL.a (d:=2) rfl rfl rfl (q_z rfl) ?_
 refine WL.nil ?_
 refine WX.a ?_
 refine WC.b ?_
 refine WC.b ?_
 refine WC.a ?_
 refine WL.a (d:=4) rfl rfl rfl (q_m rfl) ?_
 refine WL.a (d:=5) rfl rfl rfl (q_len Tryz.underlying23 rfl) ?_
 refine WL.a (d:=6) rfl rfl rfl (q_lss rfl rfl) ?_
 refine WL.a (d:=7) rfl rfl rfl (q_m rfl) ?_
 refine WL.cut0 True [(0,(.slice zb2 z31.length zb3)),(11,(.bool ((decide (((z31.length : Nat) : Int) < 1)) || (decide (((z31.length : Nat) : Int) > 32)))))] [] 4 ?_ (fun _=>?_)
 ·rcases Bool.eq_false_or_eq_true (decide (((z31.length : Nat) : Int) < 1)) with hb' | hb'
  ·have zsr:=hb'; clear hb'
   refine WL.pin (i:=7) rfl zsr ?_
   refine WL.e rfl rfl rfl ?_
   refine WL.e rfl rfl rfl ?_
   refine WL.e rfl rfl rfl ?_
   refine WL.a (d:=11) rfl rfl rfl (q_pickT rfl rfl) ?_
   exact WL.cutEnd () trivial (.cons rfl (.cons (zf (or_l zsr)) .nil)) .nil
  ·have zss:=hb'; clear hb'
   refine WL.pin (i:=7) rfl zss ?_
   refine WL.a (d:=8) rfl rfl rfl (q_m rfl) ?_
   refine WL.a (d:=9) rfl rfl rfl (q_len Tryz.underlying23 rfl) ?_
   refine WL.a (d:=10) rfl rfl rfl (q_gtr rfl rfl) ?_
   refine WL.a (d:=11) rfl rfl rfl (q_pickF rfl rfl) ?_
   exact WL.cutEnd () trivial (.cons rfl (.cons (zf (or_r zss)) .nil)) .nil
 ·skip
  refine WL.nil ?_
  refine WX.a ?_
  refine WC.cond rfl (fun znV=>?_) (fun znV=>?_)
  ·replace h:=ite_t h znV
   refine WC.b ?_
   refine WC.a ?_
   refine WL.a (d:=2) rfl rfl rfl (q_z rfl) ?_
   refine WL.nil ?_
   refine WX.a ?_
   refine WC.ret ?_
   refine WX.thenRet ?_
   obtain rfl:=Option.some.inj h
   refine WX.bpRet Tryz.results25 (.tmp rfl .nil) (fun w hw=>?_)
   exact ⟨ret1 rfl,hw.sub .nil⟩
  ·replace h:=ite_f h znV
   refine WC.skip ?_
   refine WX.a ?_
   obtain ⟨zb1,zAB,h⟩:=jp0_elim h
   refine WC.seqMid0 ((zb1 = some r)) ([]) ([]) ?_ ?_
   ·skip
    refine WC.b ?_
    refine WC.a ?_
    refine WL.a (d:=3) rfl rfl rfl (q_z rfl) ?_
    refine WL.nil ?_
    refine WX.a ?_
    refine WC.block ?_
    refine WC.loop2 (fun (zeV : Nat) (z3N : Int)=>(m_ref02_Valid_L2 z31 zb1 zeV z3N = some r)) (fun (zeV : Nat) (z3N : Int)=>[(0,(.slice zb2 z31.length zb3)),(3,(.int .i64 z3N))]) (fun (zeV : Nat) (z3N : Int)=>[]) (fun (zeV : Nat) (z3N : Int)=>zeV) ⟨FUEL,0⟩ h (.cons rfl (.cons rfl .nil)) .nil ?_
    rintro zeV z3N h
    obtain ⟨znS,rfl⟩:=m_ref02_Valid_L2_fuel h
    rw [m_ref02_Valid_L2] at h
    refine WC.b ?_
    refine WC.b ?_
    refine WC.a ?_
    refine WL.a (d:=12) rfl rfl rfl (q_m rfl) ?_
    refine WL.a (d:=13) rfl rfl rfl (q_m rfl) ?_
    refine WL.a (d:=14) rfl rfl rfl (q_len Tryz.underlying23 rfl) ?_
    refine WL.a (d:=15) rfl rfl rfl (q_lss rfl rfl) ?_
    refine WL.nil ?_
    refine WX.a ?_
    refine WC.cond rfl (fun znW=>?_) (fun znW=>?_)
    ·replace h:=ite_t h znW
     refine WC.skip ?_
     refine WX.a ?_
     refine WC.b ?_
     refine WC.block ?_
     refine WC.b ?_
     obtain ⟨zAC,h⟩:=chk_elim h
     obtain ⟨ziU,zAD,h⟩:=z8 h
     obtain ⟨znU,zst,h⟩:=z8 h
     refine WC.a ?_
     refine WL.a (d:=18) rfl rfl rfl (q_m rfl) ?_
     refine WL.a (d:=19) rfl rfl rfl (q_m rfl) ?_
     refine WL.znth (dd:=20) rfl rfl (Z:=Z) (Pr:=(fun r x=>r = e54 x)) elT_23 rfl rfl zsq zAC ?_
     rintro zEf zEg zAE zEh rfl
     refine WL.a (d:=21) rfl rfl rfl (q_fieldAddr fo_54_0 rfl rfl) ?_
     refine WL.a (d:=22) rfl rfl rfl (q_loadA (cs:=[(.int .i64 (((nth z31 z3N).fBurst).fN)),(.int .i64 (((nth z31 z3N).fBurst).fD))]) aggT_40 rfl rfl (rd_zsub (off:=0) (s:=2) hz.pv zAE rfl)) ?_
     refine WL.b (dd:=23) rfl rfl rfl (zi (l:=[.tmp 22]) Tryz.call46 (.cons rfl .nil)) (.nil : Sel [] [] []) (fun w hw=>by have pz:=(hz.call hw (.nil : Sel [] [] [])); exact w_ref02_Good (Z:=_)  (z3M:=(⟨(((nth z31 z3N).fBurst).fN),(((nth z31 z3N).fBurst).fD)⟩ : z2)) (r:=ziU) w pz  zAD) ?_
     refine WL.a (d:=24) rfl rfl rfl (q_not rfl) ?_
     refine WL.a (d:=25) rfl rfl rfl (q_m rfl) ?_
     refine WL.cut0 True [(0,(.slice zb2 z31.length zb3)),(3,(.int .i64 z3N)),(33,(.bool znU))] [] 8 ?_ (fun _=>?_)
     ·rcases Bool.eq_false_or_eq_true (!ziU) with hb' | hb'
      ·have zsu:=hb'; clear hb'
       have znX:=ite_t zst zsu
       replace znX:=Option.some.inj znX
       refine WL.pin (i:=25) rfl zsu ?_
       refine WL.e rfl rfl rfl ?_
       refine WL.e rfl rfl rfl ?_
       refine WL.e rfl rfl rfl ?_
       refine WL.e rfl rfl rfl ?_
       refine WL.e rfl rfl rfl ?_
       refine WL.e rfl rfl rfl ?_
       refine WL.e rfl rfl rfl ?_
       refine WL.a (d:=33) rfl rfl rfl (q_pickT rfl rfl) ?_
       exact WL.cutEnd () trivial (.cons rfl (.cons rfl (.cons (zf znX) .nil))) .nil
      ·have zsv:=hb'; clear hb'
       have zdB:=ite_f zst zsv
       obtain ⟨zAF,zdB⟩:=chk_elim zdB
       obtain ⟨znT,zAG,zdB⟩:=z8 zdB
       replace zdB:=Option.some.inj zdB
       refine WL.pin (i:=25) rfl zsv ?_
       refine WL.a (d:=26) rfl rfl rfl (q_m rfl) ?_
       refine WL.a (d:=27) rfl rfl rfl (q_m rfl) ?_
       refine WL.znth (dd:=28) rfl rfl (Z:=Z) (Pr:=(fun r x=>r = e54 x)) elT_23 rfl rfl zsq zAF ?_
       rintro zEi zEj zAH zEk rfl
       refine WL.a (d:=29) rfl rfl rfl (q_fieldAddr fo_54_1 rfl rfl) ?_
       refine WL.a (d:=30) rfl rfl rfl (q_loadA (cs:=[(.int .i64 (((nth z31 z3N).fRate).fN)),(.int .i64 (((nth z31 z3N).fRate).fD))]) aggT_40 rfl rfl (rd_zsub (off:=2) (s:=2) hz.pv zAH rfl)) ?_
       refine WL.b (dd:=31) rfl rfl rfl (zi (l:=[.tmp 30]) Tryz.call46 (.cons rfl .nil)) (.nil : Sel [] [] []) (fun w hw=>by have pz:=(hz.call hw (.nil : Sel [] [] [])); exact w_ref02_Good (Z:=_)  (z3M:=(⟨(((nth z31 z3N).fRate).fN),(((nth z31 z3N).fRate).fD)⟩ : z2)) (r:=znT) w pz  zAG) ?_
       refine WL.a (d:=32) rfl rfl rfl (q_not rfl) ?_
       refine WL.a (d:=33) rfl rfl rfl (q_pickF rfl rfl) ?_
       exact WL.cutEnd () trivial (.cons rfl (.cons rfl (.cons (zf zdB) .nil))) .nil
     ·skip
      refine WL.nil ?_
      refine WX.a ?_
      refine WC.cond rfl (fun znY=>?_) (fun znY=>?_)
      ·replace h:=ite_t h znY
       refine WC.b ?_
       refine WC.a ?_
       refine WL.a (d:=2) rfl rfl rfl (q_z rfl) ?_
       refine WL.nil ?_
       refine WX.a ?_
       refine WC.ret ?_
       refine WX.blockRet ?_
       refine WX.thenRet ?_
       refine WX.thenRet ?_
       refine WX.blockRet ?_
       refine WX.thenRet ?_
       obtain rfl:=Option.some.inj h
       refine WX.bpRet Tryz.results25 (.tmp rfl .nil) (fun w hw=>?_)
       exact ⟨ret1 rfl,hw.sub .nil⟩
      ·replace h:=ite_f h znY
       refine WC.skip ?_
       refine WX.blockNormal ?_
       refine WX.a ?_
       refine WC.a ?_
       refine WL.a (d:=16) rfl rfl rfl (q_m rfl) ?_
       refine WL.a (d:=17) rfl rfl rfl (q_add rfl rfl rfl) ?_
       refine WL.a (d:=3) rfl rfl rfl (q_z rfl) ?_
       refine WL.nil ?_
       exact WX.round (G:=Nat × Int) ⟨znS,(i64 (z3N + 1))⟩ h (Nat.lt_succ_self _) (.cons rfl (.cons rfl .nil)) .nil
    ·replace h:=ite_f h znW
     refine WC.exit ?_
     refine WX.thenExit ?_
     refine WX.thenExit ?_
     refine WX.blockHit ?_
     exact WX.mid (G:=Unit) () h .nil .nil
   ·rintro  h
    replace h:=zAB.symm.trans h
    refine WC.b ?_
    refine WC.a ?_
    refine WL.a (d:=2) rfl rfl rfl (q_z rfl) ?_
    refine WL.nil ?_
    refine WX.a ?_
    refine WC.ret ?_
    obtain rfl:=Option.some.inj h
    refine WX.bpRet Tryz.results25 (.tmp rfl .nil) (fun w hw=>?_)
    exact ⟨ret1 rfl,hw.sub .nil⟩
def m_ref03_Frames_L2 (zS : List Sapi_Sent) (zb4 : Option Bool) : Nat → Int → Option Bool
 | 0,_=>none
 | znZ + 1,zK=>if decide (zK < ((zS.length : Nat) : Int)) then chk ((0 : Int) ≤ zK ∧ zK < ((zS.length : Nat) : Int)) (chk ((decide (((nth zS zK).fTime) < 0)) = false → ((0 : Int) ≤ zK ∧ zK < ((zS.length : Nat) : Int))) (chk (((decide (((nth zS zK).fTime) < 0)) || (decide (((nth zS zK).fTime) > 1073741824))) = false → ((0 : Int) ≤ zK ∧ zK < ((zS.length : Nat) : Int))) (chk ((((decide (((nth zS zK).fTime) < 0)) || (decide (((nth zS zK).fTime) > 1073741824))) || (decide (((nth zS zK).fSize) < 1))) = false → ((0 : Int) ≤ zK ∧ zK < ((zS.length : Nat) : Int))) (chk (((((decide (((nth zS zK).fTime) < 0)) || (decide (((nth zS zK).fTime) > 1073741824))) || (decide (((nth zS zK).fSize) < 1))) || (decide (((nth zS zK).fSize) > 72))) = false → ((decide (zK > 0)) = true → ((0 : Int) ≤ (i64 (zK - 1)) ∧ (i64 (zK - 1)) < ((zS.length : Nat) : Int)))) (chk (((((decide (((nth zS zK).fTime) < 0)) || (decide (((nth zS zK).fTime) > 1073741824))) || (decide (((nth zS zK).fSize) < 1))) || (decide (((nth zS zK).fSize) > 72))) = false → ((decide (zK > 0)) = true → ((0 : Int) ≤ zK ∧ zK < ((zS.length : Nat) : Int)))) (if ((((decide (((nth zS zK).fTime) < 0)) || (decide (((nth zS zK).fTime) > 1073741824))) || (decide (((nth zS zK).fSize) < 1))) || (decide (((nth zS zK).fSize) > 72))) || ((decide (zK > 0)) && (decide (((nth zS (i64 (zK - 1))).fTime) > ((nth zS zK).fTime)))) then some false else m_ref03_Frames_L2 zS zb4 znZ (i64 (zK + 1)))))))) else zb4
theorem m_ref03_Frames_L2_fuel {n : Nat} {zS : List Sapi_Sent} {zb4 : Option Bool} {zK : Int} {r : Bool} (h : m_ref03_Frames_L2 zS zb4 n zK = some r) : ∃ m,n = m + 1:=by
 cases n with
 | zero=>cases h
 | succ m=>exact ⟨m,rfl⟩
def m_ref03_Frames (zS : List Sapi_Sent) : Option Bool :=
 if decide (((zS.length : Nat) : Int) > 4000) then some false else jp0 (some true) fun zb4=>m_ref03_Frames_L2 zS zb4 FUEL 0
set_option maxRecDepth 20000 in
theorem w_ref03_Frames (Z : Zp)  (z8I : Option Addr) (z8J : Nat) (zS : List Sapi_Sent) (r : Bool) (w₀ : World) (hz : PZ [] w₀ Z)
  (zeW : ZS Z 3 (fun r x=>r = e58 x) z8I z8J zS)
  (h : m_ref03_Frames zS = some r) :
  Calls Tryz.prog 26 #[(.slice z8I zS.length z8J)] w₀ fun e w'=>e = .returned (.bool r) ∧ Hp [] w₀ w' []:=by
 unfold m_ref03_Frames at h
 refine Calls.ofWC (vs:=[(.slice z8I zS.length z8J)]) (pre:=[]) (env:=[(0,(.slice z8I zS.length z8J))]) Tryz.func26 rfl Tryz.ntmps26 rfl (Hp.nil w₀ _) rfl ?_
 refine WC.b ?_
 refine WC.a ?_
 refine WL.a (d:=2) rfl rfl rfl (q_z rfl) ?_
 refine WL.nil ?_
 refine WX.a ?_
 refine WC.b ?_
 refine WC.b ?_
 refine WC.a ?_
 refine WL.a (d:=4) rfl rfl rfl (q_m rfl) ?_
 refine WL.a (d:=5) rfl rfl rfl (q_len Tryz.underlying24 rfl) ?_
 refine WL.a (d:=6) rfl rfl rfl (q_gtr rfl rfl) ?_
 refine WL.nil ?_
 refine WX.a ?_
 refine WC.cond rfl (fun zo0=>?_) (fun zo0=>?_)
 ·replace h:=ite_t h zo0
  refine WC.b ?_
  refine WC.a ?_
  refine WL.a (d:=2) rfl rfl rfl (q_z rfl) ?_
  refine WL.nil ?_
  refine WX.a ?_
  refine WC.ret ?_
  refine WX.thenRet ?_
  obtain rfl:=Option.some.inj h
  refine WX.bpRet Tryz.results26 (.tmp rfl .nil) (fun w hw=>?_)
  exact ⟨ret1 rfl,hw.sub .nil⟩
 ·replace h:=ite_f h zo0
  refine WC.skip ?_
  refine WX.a ?_
  obtain ⟨zb4,zAI,h⟩:=jp0_elim h
  refine WC.seqMid0 ((zb4 = some r)) ([]) ([]) ?_ ?_
  ·skip
   refine WC.b ?_
   refine WC.a ?_
   refine WL.a (d:=3) rfl rfl rfl (q_z rfl) ?_
   refine WL.nil ?_
   refine WX.a ?_
   refine WC.block ?_
   refine WC.loop2 (fun (zeX : Nat) (zK : Int)=>(m_ref03_Frames_L2 zS zb4 zeX zK = some r)) (fun (zeX : Nat) (zK : Int)=>[(0,(.slice z8I zS.length z8J)),(3,(.int .i64 zK))]) (fun (zeX : Nat) (zK : Int)=>[]) (fun (zeX : Nat) (zK : Int)=>zeX) ⟨FUEL,0⟩ h (.cons rfl (.cons rfl .nil)) .nil ?_
   rintro zeX zK h
   obtain ⟨znZ,rfl⟩:=m_ref03_Frames_L2_fuel h
   rw [m_ref03_Frames_L2] at h
   refine WC.b ?_
   refine WC.b ?_
   refine WC.a ?_
   refine WL.a (d:=7) rfl rfl rfl (q_m rfl) ?_
   refine WL.a (d:=8) rfl rfl rfl (q_m rfl) ?_
   refine WL.a (d:=9) rfl rfl rfl (q_len Tryz.underlying24 rfl) ?_
   refine WL.a (d:=10) rfl rfl rfl (q_lss rfl rfl) ?_
   refine WL.nil ?_
   refine WX.a ?_
   refine WC.cond rfl (fun zo1=>?_) (fun zo1=>?_)
   ·replace h:=ite_t h zo1
    refine WC.skip ?_
    refine WX.a ?_
    refine WC.b ?_
    refine WC.block ?_
    refine WC.b ?_
    obtain ⟨zAJ,h⟩:=chk_elim h
    obtain ⟨zAK,h⟩:=chk_elim h
    obtain ⟨zAL,h⟩:=chk_elim h
    obtain ⟨zAM,h⟩:=chk_elim h
    obtain ⟨zAN,h⟩:=chk_elim h
    obtain ⟨zAO,h⟩:=chk_elim h
    refine WC.draw (fun i=>[].contains i) [] rfl ?_
    refine WD.a (i:=0) (d:=13) (by kernel_rfl) rfl (z6 (by kernel_rfl)) (z7 (by kernel_rfl)) rfl rfl rfl (fun _=>q_m rfl) ?_
    refine WD.a (i:=1) (d:=14) (by kernel_rfl) rfl (z6 (by kernel_rfl)) (z7 (by kernel_rfl)) rfl rfl rfl (fun _=>q_m rfl) ?_
    refine WD.znth (j:=2) (dd:=15) (by kernel_rfl) rfl (z6 (by kernel_rfl)) (z7 (by kernel_rfl)) rfl rfl (Z:=Z) (Pr:=(fun r x=>r = e58 x)) elT_24 rfl rfl zeW zAJ ?_
    rintro zEl zEm zAP zEn rfl
    refine WD.a (i:=3) (d:=16) (by kernel_rfl) rfl (z6 (by kernel_rfl)) (z7 (by kernel_rfl)) rfl rfl rfl (fun _=>q_fieldAddr fo_58_0 rfl rfl) ?_
    refine WD.e (i:=4) (d:=17) (by kernel_rfl) rfl (z6 (by kernel_rfl)) (z7 (by kernel_rfl)) rfl rfl rfl (q_load1 oneT_3 rfl (rd_zAt hz.pv zAP rfl)) ?_
    refine WD.a (i:=5) (d:=18) (by kernel_rfl) rfl (z6 (by kernel_rfl)) (z7 (by kernel_rfl)) rfl rfl rfl (fun _=>q_lss rfl rfl) ?_
    refine WD.a (i:=6) (d:=19) (by kernel_rfl) rfl (z6 (by kernel_rfl)) (z7 (by kernel_rfl)) rfl rfl rfl (fun _=>q_m rfl) ?_
    refine WD.mid (fuel':=34) [(0,(.slice z8I zS.length z8J)),(3,(.int .i64 zK)),(19,(.bool (decide (((nth zS zK).fTime) < 0)))),(26,(.bool ((decide (((nth zS zK).fTime) < 0)) || (decide (((nth zS zK).fTime) > 1073741824)))))] (listedA 48 [13,12,11,10,9,8,7,6,5,4,3,2,1,0]) ?_ (fun zsw=>?_)
    rotate_left
    ·rcases Bool.eq_false_or_eq_true (decide (((nth zS zK).fTime) < 0)) with hb' | hb'
     ·have zo2:=hb'; clear hb'
      refine WD.pin (i:=19) rfl zo2 ?_
      refine WD.b (i:=7) (d:=20) (by kernel_rfl) rfl (z6 (by kernel_rfl)) (z7 (by kernel_rfl)) rfl rfl rfl ?_
      refine WD.b (i:=8) (d:=21) (by kernel_rfl) rfl (z6 (by kernel_rfl)) (z7 (by kernel_rfl)) rfl rfl rfl ?_
      refine WD.b (i:=9) (d:=22) (by kernel_rfl) rfl (z6 (by kernel_rfl)) (z7 (by kernel_rfl)) rfl rfl rfl ?_
      refine WD.b (i:=10) (d:=23) (by kernel_rfl) rfl (z6 (by kernel_rfl)) (z7 (by kernel_rfl)) rfl rfl rfl ?_
      refine WD.b (i:=11) (d:=24) (by kernel_rfl) rfl (z6 (by kernel_rfl)) (z7 (by kernel_rfl)) rfl rfl rfl ?_
      refine WD.b (i:=12) (d:=25) (by kernel_rfl) rfl (z6 (by kernel_rfl)) (z7 (by kernel_rfl)) rfl rfl rfl ?_
      refine WD.a (i:=13) (d:=26) (by kernel_rfl) rfl (z6 (by kernel_rfl)) (z7 (by kernel_rfl)) rfl rfl rfl (fun _=>q_pickT rfl rfl) ?_
      refine WD.reL .nil ?_ zsw
      exact (.cons rfl (.cons rfl (.cons (zf (Eq.symm zo2)) (.cons (zf (or_l zo2)) .nil))))
     ·have ziV:=hb'; clear hb'
      have zAQ:=zAK ziV
      refine WD.pin (i:=19) rfl ziV ?_
      refine WD.a (i:=7) (d:=20) (by kernel_rfl) rfl (z6 (by kernel_rfl)) (z7 (by kernel_rfl)) rfl rfl rfl (fun _=>q_m rfl) ?_
      refine WD.a (i:=8) (d:=21) (by kernel_rfl) rfl (z6 (by kernel_rfl)) (z7 (by kernel_rfl)) rfl rfl rfl (fun _=>q_m rfl) ?_
      refine WD.znth (j:=9) (dd:=22) (by kernel_rfl) rfl (z6 (by kernel_rfl)) (z7 (by kernel_rfl)) rfl rfl (Z:=Z) (Pr:=(fun r x=>r = e58 x)) elT_24 rfl rfl zeW zAQ ?_
      rintro zEo zEp zAR zEq rfl
      refine WD.a (i:=10) (d:=23) (by kernel_rfl) rfl (z6 (by kernel_rfl)) (z7 (by kernel_rfl)) rfl rfl rfl (fun _=>q_fieldAddr fo_58_0 rfl rfl) ?_
      refine WD.e (i:=11) (d:=24) (by kernel_rfl) rfl (z6 (by kernel_rfl)) (z7 (by kernel_rfl)) rfl rfl rfl (q_load1 oneT_3 rfl (rd_zAt hz.pv zAR rfl)) ?_
      refine WD.a (i:=12) (d:=25) (by kernel_rfl) rfl (z6 (by kernel_rfl)) (z7 (by kernel_rfl)) rfl rfl rfl (fun _=>q_gtr rfl rfl) ?_
      refine WD.a (i:=13) (d:=26) (by kernel_rfl) rfl (z6 (by kernel_rfl)) (z7 (by kernel_rfl)) rfl rfl rfl (fun _=>q_pickF rfl rfl) ?_
      refine WD.reL .nil ?_ zsw
      exact (.cons rfl (.cons rfl (.cons (zf (Eq.symm ziV)) (.cons (zf (or_r ziV)) .nil))))
    refine WD.d #[true,true,true,true,true,true,true,true,true,true,true,true,true,true,false,false,false,false,false,false,false,false,false,false,false,false,false,false,false,false,false,false,false,false,false,false,false,false,false,false,false,false,false,false,false,false,false,false] (by kernel_rfl) ?_
    refine WD.a (i:=14) (d:=27) (by kernel_rfl) rfl (z6 (by kernel_rfl)) (z7 (by kernel_rfl)) rfl rfl rfl (fun _=>q_m rfl) ?_
    refine WD.mid (fuel':=26) [(0,(.slice z8I zS.length z8J)),(3,(.int .i64 zK)),(27,(.bool ((decide (((nth zS zK).fTime) < 0)) || (decide (((nth zS zK).fTime) > 1073741824))))),(34,(.bool (((decide (((nth zS zK).fTime) < 0)) || (decide (((nth zS zK).fTime) > 1073741824))) || (decide (((nth zS zK).fSize) < 1)))))] (listedA 48 [21,20,19,18,17,16,15,14,13,12,11,10,9,8,7,6,5,4,3,2,1,0]) ?_ (fun zsx=>?_)
    rotate_left
    ·rcases Bool.eq_false_or_eq_true ((decide (((nth zS zK).fTime) < 0)) || (decide (((nth zS zK).fTime) > 1073741824))) with hb' | hb'
     ·have zo3:=hb'; clear hb'
      refine WD.pin (i:=27) rfl zo3 ?_
      refine WD.b (i:=15) (d:=28) (by kernel_rfl) rfl (z6 (by kernel_rfl)) (z7 (by kernel_rfl)) rfl rfl rfl ?_
      refine WD.b (i:=16) (d:=29) (by kernel_rfl) rfl (z6 (by kernel_rfl)) (z7 (by kernel_rfl)) rfl rfl rfl ?_
      refine WD.b (i:=17) (d:=30) (by kernel_rfl) rfl (z6 (by kernel_rfl)) (z7 (by kernel_rfl)) rfl rfl rfl ?_
      refine WD.b (i:=18) (d:=31) (by kernel_rfl) rfl (z6 (by kernel_rfl)) (z7 (by kernel_rfl)) rfl rfl rfl ?_
      refine WD.b (i:=19) (d:=32) (by kernel_rfl) rfl (z6 (by kernel_rfl)) (z7 (by kernel_rfl)) rfl rfl rfl ?_
      refine WD.b (i:=20) (d:=33) (by kernel_rfl) rfl (z6 (by kernel_rfl)) (z7 (by kernel_rfl)) rfl rfl rfl ?_
      refine WD.a (i:=21) (d:=34) (by kernel_rfl) rfl (z6 (by kernel_rfl)) (z7 (by kernel_rfl)) rfl rfl rfl (fun _=>q_pickT rfl rfl) ?_
      refine WD.reL .nil ?_ zsx
      exact (.cons rfl (.cons rfl (.cons (zf (Eq.symm zo3)) (.cons (zf (or_l zo3)) .nil))))
     ·have ziW:=hb'; clear hb'
      have zAS:=zAL ziW
      refine WD.pin (i:=27) rfl ziW ?_
      refine WD.a (i:=15) (d:=28) (by kernel_rfl) rfl (z6 (by kernel_rfl)) (z7 (by kernel_rfl)) rfl rfl rfl (fun _=>q_m rfl) ?_
      refine WD.a (i:=16) (d:=29) (by kernel_rfl) rfl (z6 (by kernel_rfl)) (z7 (by kernel_rfl)) rfl rfl rfl (fun _=>q_m rfl) ?_
      refine WD.znth (j:=17) (dd:=30) (by kernel_rfl) rfl (z6 (by kernel_rfl)) (z7 (by kernel_rfl)) rfl rfl (Z:=Z) (Pr:=(fun r x=>r = e58 x)) elT_24 rfl rfl zeW zAS ?_
      rintro zEr zEs zAT zEt rfl
      refine WD.a (i:=18) (d:=31) (by kernel_rfl) rfl (z6 (by kernel_rfl)) (z7 (by kernel_rfl)) rfl rfl rfl (fun _=>q_fieldAddr fo_58_2 rfl rfl) ?_
      refine WD.e (i:=19) (d:=32) (by kernel_rfl) rfl (z6 (by kernel_rfl)) (z7 (by kernel_rfl)) rfl rfl rfl (q_load1 oneT_3 rfl (rd_zAt hz.pv zAT rfl)) ?_
      refine WD.a (i:=20) (d:=33) (by kernel_rfl) rfl (z6 (by kernel_rfl)) (z7 (by kernel_rfl)) rfl rfl rfl (fun _=>q_lss rfl rfl) ?_
      refine WD.a (i:=21) (d:=34) (by kernel_rfl) rfl (z6 (by kernel_rfl)) (z7 (by kernel_rfl)) rfl rfl rfl (fun _=>q_pickF rfl rfl) ?_
      refine WD.reL .nil ?_ zsx
      exact (.cons rfl (.cons rfl (.cons (zf (Eq.symm ziW)) (.cons (zf (or_r ziW)) .nil))))
    refine WD.d #[true,true,true,true,true,true,true,true,true,true,true,true,true,true,true,true,true,true,true,true,true,true,false,false,false,false,false,false,false,false,false,false,false,false,false,false,false,false,false,false,false,false,false,false,false,false,false,false] (by kernel_rfl) ?_
    refine WD.a (i:=22) (d:=35) (by kernel_rfl) rfl (z6 (by kernel_rfl)) (z7 (by kernel_rfl)) rfl rfl rfl (fun _=>q_m rfl) ?_
    refine WD.mid (fuel':=18) [(0,(.slice z8I zS.length z8J)),(3,(.int .i64 zK)),(35,(.bool (((decide (((nth zS zK).fTime) < 0)) || (decide (((nth zS zK).fTime) > 1073741824))) || (decide (((nth zS zK).fSize) < 1))))),(42,(.bool ((((decide (((nth zS zK).fTime) < 0)) || (decide (((nth zS zK).fTime) > 1073741824))) || (decide (((nth zS zK).fSize) < 1))) || (decide (((nth zS zK).fSize) > 72)))))] (listedA 48 [29,28,27,26,25,24,23,22,21,20,19,18,17,16,15,14,13,12,11,10,9,8,7,6,5,4,3,2,1,0]) ?_ (fun zsy=>?_)
    rotate_left
    ·rcases Bool.eq_false_or_eq_true (((decide (((nth zS zK).fTime) < 0)) || (decide (((nth zS zK).fTime) > 1073741824))) || (decide (((nth zS zK).fSize) < 1))) with hb' | hb'
     ·have zo4:=hb'; clear hb'
      refine WD.pin (i:=35) rfl zo4 ?_
      refine WD.b (i:=23) (d:=36) (by kernel_rfl) rfl (z6 (by kernel_rfl)) (z7 (by kernel_rfl)) rfl rfl rfl ?_
      refine WD.b (i:=24) (d:=37) (by kernel_rfl) rfl (z6 (by kernel_rfl)) (z7 (by kernel_rfl)) rfl rfl rfl ?_
      refine WD.b (i:=25) (d:=38) (by kernel_rfl) rfl (z6 (by kernel_rfl)) (z7 (by kernel_rfl)) rfl rfl rfl ?_
      refine WD.b (i:=26) (d:=39) (by kernel_rfl) rfl (z6 (by kernel_rfl)) (z7 (by kernel_rfl)) rfl rfl rfl ?_
      refine WD.b (i:=27) (d:=40) (by kernel_rfl) rfl (z6 (by kernel_rfl)) (z7 (by kernel_rfl)) rfl rfl rfl ?_
      refine WD.b (i:=28) (d:=41) (by kernel_rfl) rfl (z6 (by kernel_rfl)) (z7 (by kernel_rfl)) rfl rfl rfl ?_
      refine WD.a (i:=29) (d:=42) (by kernel_rfl) rfl (z6 (by kernel_rfl)) (z7 (by kernel_rfl)) rfl rfl rfl (fun _=>q_pickT rfl rfl) ?_
      refine WD.reL .nil ?_ zsy
      exact (.cons rfl (.cons rfl (.cons (zf (Eq.symm zo4)) (.cons (zf (or_l zo4)) .nil))))
     ·have ziX:=hb'; clear hb'
      have zAU:=zAM ziX
      refine WD.pin (i:=35) rfl ziX ?_
      refine WD.a (i:=23) (d:=36) (by kernel_rfl) rfl (z6 (by kernel_rfl)) (z7 (by kernel_rfl)) rfl rfl rfl (fun _=>q_m rfl) ?_
      refine WD.a (i:=24) (d:=37) (by kernel_rfl) rfl (z6 (by kernel_rfl)) (z7 (by kernel_rfl)) rfl rfl rfl (fun _=>q_m rfl) ?_
      refine WD.znth (j:=25) (dd:=38) (by kernel_rfl) rfl (z6 (by kernel_rfl)) (z7 (by kernel_rfl)) rfl rfl (Z:=Z) (Pr:=(fun r x=>r = e58 x)) elT_24 rfl rfl zeW zAU ?_
      rintro zEu zEv zAV zEw rfl
      refine WD.a (i:=26) (d:=39) (by kernel_rfl) rfl (z6 (by kernel_rfl)) (z7 (by kernel_rfl)) rfl rfl rfl (fun _=>q_fieldAddr fo_58_2 rfl rfl) ?_
      refine WD.e (i:=27) (d:=40) (by kernel_rfl) rfl (z6 (by kernel_rfl)) (z7 (by kernel_rfl)) rfl rfl rfl (q_load1 oneT_3 rfl (rd_zAt hz.pv zAV rfl)) ?_
      refine WD.a (i:=28) (d:=41) (by kernel_rfl) rfl (z6 (by kernel_rfl)) (z7 (by kernel_rfl)) rfl rfl rfl (fun _=>q_gtr rfl rfl) ?_
      refine WD.a (i:=29) (d:=42) (by kernel_rfl) rfl (z6 (by kernel_rfl)) (z7 (by kernel_rfl)) rfl rfl rfl (fun _=>q_pickF rfl rfl) ?_
      refine WD.reL .nil ?_ zsy
      exact (.cons rfl (.cons rfl (.cons (zf (Eq.symm ziX)) (.cons (zf (or_r ziX)) .nil))))
    refine WD.d #[true,true,true,true,true,true,true,true,true,true,true,true,true,true,true,true,true,true,true,true,true,true,true,true,true,true,true,true,true,true,false,false,false,false,false,false,false,false,false,false,false,false,false,false,false,false,false,false] (by kernel_rfl) ?_
    refine WD.a (i:=30) (d:=43) (by kernel_rfl) rfl (z6 (by kernel_rfl)) (z7 (by kernel_rfl)) rfl rfl rfl (fun _=>q_m rfl) ?_
    refine WD.mid (fuel':=0) [(0,(.slice z8I zS.length z8J)),(3,(.int .i64 zK)),(43,(.bool ((((decide (((nth zS zK).fTime) < 0)) || (decide (((nth zS zK).fTime) > 1073741824))) || (decide (((nth zS zK).fSize) < 1))) || (decide (((nth zS zK).fSize) > 72))))),(60,(.bool (((((decide (((nth zS zK).fTime) < 0)) || (decide (((nth zS zK).fTime) > 1073741824))) || (decide (((nth zS zK).fSize) < 1))) || (decide (((nth zS zK).fSize) > 72))) || ((decide (zK > 0)) && (decide (((nth zS (i64 (zK - 1))).fTime) > ((nth zS zK).fTime)))))))] (listedA 48 [47,46,45,44,43,42,41,40,39,38,37,36,35,34,33,32,31,30,29,28,27,26,25,24,23,22,21,20,19,18,17,16,15,14,13,12,11,10,9,8,7,6,5,4,3,2,1,0]) ?_ (fun zsz=>?_)
    rotate_left
    ·rcases Bool.eq_false_or_eq_true ((((decide (((nth zS zK).fTime) < 0)) || (decide (((nth zS zK).fTime) > 1073741824))) || (decide (((nth zS zK).fSize) < 1))) || (decide (((nth zS zK).fSize) > 72))) with hb' | hb'
     ·have zo5:=hb'; clear hb'
      refine WD.pin (i:=43) rfl zo5 ?_
      refine WD.b (i:=31) (d:=44) (by kernel_rfl) rfl (z6 (by kernel_rfl)) (z7 (by kernel_rfl)) rfl rfl rfl ?_
      refine WD.b (i:=32) (d:=45) (by kernel_rfl) rfl (z6 (by kernel_rfl)) (z7 (by kernel_rfl)) rfl rfl rfl ?_
      refine WD.b (i:=33) (d:=46) (by kernel_rfl) rfl (z6 (by kernel_rfl)) (z7 (by kernel_rfl)) rfl rfl rfl ?_
      refine WD.b (i:=34) (d:=47) (by kernel_rfl) rfl (z6 (by kernel_rfl)) (z7 (by kernel_rfl)) rfl rfl rfl ?_
      refine WD.b (i:=35) (d:=48) (by kernel_rfl) rfl (z6 (by kernel_rfl)) (z7 (by kernel_rfl)) rfl rfl rfl ?_
      refine WD.b (i:=36) (d:=49) (by kernel_rfl) rfl (z6 (by kernel_rfl)) (z7 (by kernel_rfl)) rfl rfl rfl ?_
      refine WD.b (i:=37) (d:=50) (by kernel_rfl) rfl (z6 (by kernel_rfl)) (z7 (by kernel_rfl)) rfl rfl rfl ?_
      refine WD.b (i:=38) (d:=51) (by kernel_rfl) rfl (z6 (by kernel_rfl)) (z7 (by kernel_rfl)) rfl rfl rfl ?_
      refine WD.b (i:=39) (d:=52) (by kernel_rfl) rfl (z6 (by kernel_rfl)) (z7 (by kernel_rfl)) rfl rfl rfl ?_
      refine WD.b (i:=40) (d:=53) (by kernel_rfl) rfl (z6 (by kernel_rfl)) (z7 (by kernel_rfl)) rfl rfl rfl ?_
      refine WD.b (i:=41) (d:=54) (by kernel_rfl) rfl (z6 (by kernel_rfl)) (z7 (by kernel_rfl)) rfl rfl rfl ?_
      refine WD.b (i:=42) (d:=55) (by kernel_rfl) rfl (z6 (by kernel_rfl)) (z7 (by kernel_rfl)) rfl rfl rfl ?_
      refine WD.b (i:=43) (d:=56) (by kernel_rfl) rfl (z6 (by kernel_rfl)) (z7 (by kernel_rfl)) rfl rfl rfl ?_
      refine WD.b (i:=44) (d:=57) (by kernel_rfl) rfl (z6 (by kernel_rfl)) (z7 (by kernel_rfl)) rfl rfl rfl ?_
      refine WD.b (i:=45) (d:=58) (by kernel_rfl) rfl (z6 (by kernel_rfl)) (z7 (by kernel_rfl)) rfl rfl rfl ?_
      refine WD.b (i:=46) (d:=59) (by kernel_rfl) rfl (z6 (by kernel_rfl)) (z7 (by kernel_rfl)) rfl rfl rfl ?_
      refine WD.a (i:=47) (d:=60) (by kernel_rfl) rfl (z6 (by kernel_rfl)) (z7 (by kernel_rfl)) rfl rfl rfl (fun _=>q_pickT rfl rfl) ?_
      refine WD.reL .nil ?_ zsz
      exact (.cons rfl (.cons rfl (.cons (zf (Eq.symm zo5)) (.cons (zf (or_l zo5)) .nil))))
     ·have zgK:=hb'; clear hb'
      have zAW:=zAN zgK
      have zAX:=zAO zgK
      refine WD.pin (i:=43) rfl zgK ?_
      refine WD.a (i:=31) (d:=44) (by kernel_rfl) rfl (z6 (by kernel_rfl)) (z7 (by kernel_rfl)) rfl rfl rfl (fun _=>q_m rfl) ?_
      refine WD.a (i:=32) (d:=45) (by kernel_rfl) rfl (z6 (by kernel_rfl)) (z7 (by kernel_rfl)) rfl rfl rfl (fun _=>q_gtr rfl rfl) ?_
      refine WD.a (i:=33) (d:=46) (by kernel_rfl) rfl (z6 (by kernel_rfl)) (z7 (by kernel_rfl)) rfl rfl rfl (fun _=>q_m rfl) ?_
      refine WD.mid (fuel':=1) [(0,(.slice z8I zS.length z8J)),(3,(.int .i64 zK)),(43,(.bool false)),(46,(.bool (decide (zK > 0)))),(59,(.bool ((decide (zK > 0)) && (decide (((nth zS (i64 (zK - 1))).fTime) > ((nth zS zK).fTime))))))] (listedA 48 [46,45,44,43,42,41,40,39,38,37,36,35,34,33,32,31,30,29,28,27,26,25,24,23,22,21,20,19,18,17,16,15,14,13,12,11,10,9,8,7,6,5,4,3,2,1,0]) ?_ (fun zsA=>?_)
      rotate_left
      ·rcases Bool.eq_false_or_eq_true (decide (zK > 0)) with hb' | hb'
       ·have zgL:=hb'; clear hb'
        have zAY:=zAW zgL
        have zAZ:=zAX zgL
        refine WD.pin (i:=46) rfl zgL ?_
        refine WD.a (i:=34) (d:=47) (by kernel_rfl) rfl (z6 (by kernel_rfl)) (z7 (by kernel_rfl)) rfl rfl rfl (fun _=>q_m rfl) ?_
        refine WD.a (i:=35) (d:=48) (by kernel_rfl) rfl (z6 (by kernel_rfl)) (z7 (by kernel_rfl)) rfl rfl rfl (fun _=>q_m rfl) ?_
        refine WD.a (i:=36) (d:=49) (by kernel_rfl) rfl (z6 (by kernel_rfl)) (z7 (by kernel_rfl)) rfl rfl rfl (fun _=>q_sub rfl rfl rfl) ?_
        refine WD.znth (j:=37) (dd:=50) (by kernel_rfl) rfl (z6 (by kernel_rfl)) (z7 (by kernel_rfl)) rfl rfl (Z:=Z) (Pr:=(fun r x=>r = e58 x)) elT_24 rfl rfl zeW zAY ?_
        rintro zEx zEy zB0 zEz rfl
        refine WD.a (i:=38) (d:=51) (by kernel_rfl) rfl (z6 (by kernel_rfl)) (z7 (by kernel_rfl)) rfl rfl rfl (fun _=>q_fieldAddr fo_58_0 rfl rfl) ?_
        refine WD.e (i:=39) (d:=52) (by kernel_rfl) rfl (z6 (by kernel_rfl)) (z7 (by kernel_rfl)) rfl rfl rfl (q_load1 oneT_3 rfl (rd_zAt hz.pv zB0 rfl)) ?_
        refine WD.a (i:=40) (d:=53) (by kernel_rfl) rfl (z6 (by kernel_rfl)) (z7 (by kernel_rfl)) rfl rfl rfl (fun _=>q_m rfl) ?_
        refine WD.a (i:=41) (d:=54) (by kernel_rfl) rfl (z6 (by kernel_rfl)) (z7 (by kernel_rfl)) rfl rfl rfl (fun _=>q_m rfl) ?_
        refine WD.znth (j:=42) (dd:=55) (by kernel_rfl) rfl (z6 (by kernel_rfl)) (z7 (by kernel_rfl)) rfl rfl (Z:=Z) (Pr:=(fun r x=>r = e58 x)) elT_24 rfl rfl zeW zAZ ?_
        rintro zEA zEB zB1 zEC rfl
        refine WD.a (i:=43) (d:=56) (by kernel_rfl) rfl (z6 (by kernel_rfl)) (z7 (by kernel_rfl)) rfl rfl rfl (fun _=>q_fieldAddr fo_58_0 rfl rfl) ?_
        refine WD.e (i:=44) (d:=57) (by kernel_rfl) rfl (z6 (by kernel_rfl)) (z7 (by kernel_rfl)) rfl rfl rfl (q_load1 oneT_3 rfl (rd_zAt hz.pv zB1 rfl)) ?_
        refine WD.a (i:=45) (d:=58) (by kernel_rfl) rfl (z6 (by kernel_rfl)) (z7 (by kernel_rfl)) rfl rfl rfl (fun _=>q_gtr rfl rfl) ?_
        refine WD.a (i:=46) (d:=59) (by kernel_rfl) rfl (z6 (by kernel_rfl)) (z7 (by kernel_rfl)) rfl rfl rfl (fun _=>q_pickT rfl rfl) ?_
        refine WD.reL .nil ?_ zsA
        exact (.cons rfl (.cons rfl (.cons rfl (.cons (zf (Eq.symm zgL)) (.cons (zf (and_r zgL)) .nil)))))
       ·have zo6:=hb'; clear hb'
        refine WD.pin (i:=46) rfl zo6 ?_
        refine WD.b (i:=34) (d:=47) (by kernel_rfl) rfl (z6 (by kernel_rfl)) (z7 (by kernel_rfl)) rfl rfl rfl ?_
        refine WD.b (i:=35) (d:=48) (by kernel_rfl) rfl (z6 (by kernel_rfl)) (z7 (by kernel_rfl)) rfl rfl rfl ?_
        refine WD.b (i:=36) (d:=49) (by kernel_rfl) rfl (z6 (by kernel_rfl)) (z7 (by kernel_rfl)) rfl rfl rfl ?_
        refine WD.b (i:=37) (d:=50) (by kernel_rfl) rfl (z6 (by kernel_rfl)) (z7 (by kernel_rfl)) rfl rfl rfl ?_
        refine WD.b (i:=38) (d:=51) (by kernel_rfl) rfl (z6 (by kernel_rfl)) (z7 (by kernel_rfl)) rfl rfl rfl ?_
        refine WD.b (i:=39) (d:=52) (by kernel_rfl) rfl (z6 (by kernel_rfl)) (z7 (by kernel_rfl)) rfl rfl rfl ?_
        refine WD.b (i:=40) (d:=53) (by kernel_rfl) rfl (z6 (by kernel_rfl)) (z7 (by kernel_rfl)) rfl rfl rfl ?_
        refine WD.b (i:=41) (d:=54) (by kernel_rfl) rfl (z6 (by kernel_rfl)) (z7 (by kernel_rfl)) rfl rfl rfl ?_
        refine WD.b (i:=42) (d:=55) (by kernel_rfl) rfl (z6 (by kernel_rfl)) (z7 (by kernel_rfl)) rfl rfl rfl ?_
        refine WD.b (i:=43) (d:=56) (by kernel_rfl) rfl (z6 (by kernel_rfl)) (z7 (by kernel_rfl)) rfl rfl rfl ?_
        refine WD.b (i:=44) (d:=57) (by kernel_rfl) rfl (z6 (by kernel_rfl)) (z7 (by kernel_rfl)) rfl rfl rfl ?_
        refine WD.b (i:=45) (d:=58) (by kernel_rfl) rfl (z6 (by kernel_rfl)) (z7 (by kernel_rfl)) rfl rfl rfl ?_
        refine WD.a (i:=46) (d:=59) (by kernel_rfl) rfl (z6 (by kernel_rfl)) (z7 (by kernel_rfl)) rfl rfl rfl (fun _=>q_pickF rfl rfl) ?_
        refine WD.reL .nil ?_ zsA
        exact (.cons rfl (.cons rfl (.cons rfl (.cons (zf (Eq.symm zo6)) (.cons (zf (and_l zo6)) .nil)))))
      refine WD.d #[true,true,true,true,true,true,true,true,true,true,true,true,true,true,true,true,true,true,true,true,true,true,true,true,true,true,true,true,true,true,true,true,true,true,true,true,true,true,true,true,true,true,true,true,true,true,true,false] (by kernel_rfl) ?_
      refine WD.a (i:=47) (d:=60) (by kernel_rfl) rfl (z6 (by kernel_rfl)) (z7 (by kernel_rfl)) rfl rfl rfl (fun _=>q_pickF rfl rfl) ?_
      refine WD.reL .nil ?_ zsz
      exact (.cons rfl (.cons rfl (.cons (zf (Eq.symm zgK)) (.cons (zf (or_r zgK)) .nil))))
    refine WD.d #[true,true,true,true,true,true,true,true,true,true,true,true,true,true,true,true,true,true,true,true,true,true,true,true,true,true,true,true,true,true,true,true,true,true,true,true,true,true,true,true,true,true,true,true,true,true,true,true] (by kernel_rfl) ?_
    refine WD.done (by kernel_rfl) ?_
    refine WX.a ?_
    refine WC.cond rfl (fun zo7=>?_) (fun zo7=>?_)
    ·replace h:=ite_t h zo7
     refine WC.b ?_
     refine WC.a ?_
     refine WL.a (d:=2) rfl rfl rfl (q_z rfl) ?_
     refine WL.nil ?_
     refine WX.a ?_
     refine WC.ret ?_
     refine WX.blockRet ?_
     refine WX.thenRet ?_
     refine WX.thenRet ?_
     refine WX.blockRet ?_
     refine WX.thenRet ?_
     obtain rfl:=Option.some.inj h
     refine WX.bpRet Tryz.results26 (.tmp rfl .nil) (fun w hw=>?_)
     exact ⟨ret1 rfl,hw.sub .nil⟩
    ·replace h:=ite_f h zo7
     refine WC.skip ?_
     refine WX.blockNormal ?_
     refine WX.a ?_
     refine WC.a ?_
     refine WL.a (d:=11) rfl rfl rfl (q_m rfl) ?_
     refine WL.a (d:=12) rfl rfl rfl (q_add rfl rfl rfl) ?_
     refine WL.a (d:=3) rfl rfl rfl (q_z rfl) ?_
     refine WL.nil ?_
     exact WX.round (G:=Nat × Int) ⟨znZ,(i64 (zK + 1))⟩ h (Nat.lt_succ_self _) (.cons rfl (.cons rfl .nil)) .nil
   ·replace h:=ite_f h zo1
    refine WC.exit ?_
    refine WX.thenExit ?_
    refine WX.thenExit ?_
    refine WX.blockHit ?_
    exact WX.mid (G:=Unit) () h .nil .nil
  ·rintro  h
   replace h:=zAI.symm.trans h
   refine WC.b ?_
   refine WC.a ?_
   refine WL.a (d:=2) rfl rfl rfl (q_z rfl) ?_
   refine WL.nil ?_
   refine WX.a ?_
   refine WC.ret ?_
   obtain rfl:=Option.some.inj h
   refine WX.bpRet Tryz.results26 (.tmp rfl .nil) (fun w hw=>?_)
   exact ⟨ret1 rfl,hw.sub .nil⟩
end Go.Proofs.YtakfmdiiehcbdaaGreat
