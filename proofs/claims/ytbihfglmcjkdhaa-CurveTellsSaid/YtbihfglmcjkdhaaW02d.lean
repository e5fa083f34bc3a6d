/- A part of this claim's proof: models of functions, walks, plain laws. No conditions. -/
import Derived.Test.YtbihfglmcjkdhaaW02c
namespace Go.Proofs.Ytbihfglmcjkdhaa
open Go Go.RowKit Sep
set_option linter.all false
set_option maxRecDepth 30000
set_option maxHeartbeats 4000000
def m_law02_awake  : Option Bool :=
 (m_law02_num 1 1).bind fun za=>(m_law02_num 10 1).bind fun zf5=>(m_law02_num 2 1).bind fun zf6=>(m_law02_bucket zf5 zf6).bind fun z2k=>(m_law02_num 30 1).bind fun zf7=>(m_law02_num 1 2).bind fun zf8=>(m_law02_bucket zf7 zf8).bind fun z2l=>(m_law02_num 40 1).bind fun zf9=>(m_law02_bucket zf9 za).bind fun z2m=>(m_curve_Norm ([z2k,z2l,z2m] : List z1)).bind fun ze=>(m_curve_Breaks ([z2k,z2l,z2m] : List z1)).bind fun zf=>(m_law02_num 5 1).bind fun zfa=>(m_curve_At ([z2k,z2l,z2m] : List z1) zfa).bind fun zj=>(m_law02_num 20 1).bind fun zfb=>(m_curve_At ([z2k,z2l,z2m] : List z1) zfb).bind fun zp=>(m_law02_num 5 1).bind fun zfc=>(m_curve_Shift ([z2k,z2l,z2m] : List z1) zfc).bind fun zq=>(m_law02_num 5 1).bind fun zfd=>(m_law02_bucket zfd za).bind fun zc1=>(m_curve_Sum ([z2k,z2l,z2m] : List z1) ([zc1] : List z1)).bind fun zs=>(m_curve_Rate ([z2k,z2l,z2m] : List z1)).bind fun zx=>(if decide ((i64 ((i64 ((i64 ((i64 ((i64 ((i64 (ze.2 + zf.2)) + zj.2)) + zp.2)) + zq.2)) + zs.2)) + zx.2)) = 0) then chk ((0 : Int) ≤ 0 ∧ (0 : Int) ≤ 2 ∧ 2 ≤ ((([z2k,z2l,z2m] : List z1).length : Nat) : Int)) ((m_ref02_Same ze.1 (([z2k,z2l,z2m] : List z1).take (2 : Int).toNat)).bind fun zi5=>some zi5) else some false).bind fun z9X=>(if z9X && (decide (((zf.1.length : Nat) : Int) = 1)) then chk ((0 : Int) ≤ 0 ∧ 0 < ((zf.1.length : Nat) : Int)) ((m_law02_num 40 3).bind fun zfe=>some (decide ((⟨((nth zf.1 0).fN),((nth zf.1 0).fD)⟩ : z2) = zfe))) else some false).bind fun zdK=>(if zdK then (m_law02_num 20 1).bind fun zff=>some (decide (zj.1 = zff)) else some false).bind fun zdL=>(if zdL then (m_law02_num 40 1).bind fun zfg=>some (decide (zp.1 = zfg)) else some false).bind fun zdM=>(if zdM then (m_law02_num 20 1).bind fun zfh=>(m_law02_num 2 1).bind fun zfi=>(m_law02_bucket zfh zfi).bind fun z2S=>(m_law02_num 65 2).bind fun zfj=>(m_law02_num 1 2).bind fun zfk=>(m_law02_bucket zfj zfk).bind fun z2T=>(m_ref02_Same zq.1 ([z2S,z2T] : List z1)).bind fun zi6=>some zi6 else some false).bind fun zdN=>(if zdN then (m_law02_num 15 1).bind fun zfl=>(m_law02_num 3 1).bind fun zfm=>(m_law02_bucket zfl zfm).bind fun z2U=>(m_law02_num 35 1).bind fun zfn=>(m_law02_num 3 2).bind fun zfo=>(m_law02_bucket zfn zfo).bind fun z2V=>(m_ref02_Same zs.1 ([z2U,z2V] : List z1)).bind fun zi7=>some zi7 else some false).bind fun zdO=>(if zdO then (m_law02_num 1 2).bind fun zfp=>some (decide (zx.1 = zfp)) else some false).bind fun zi8=>some zi8
set_option maxRecDepth 20000 in
theorem w_law02_awake (Z : Zp)    (r : Bool) (w₀ : World) (hz : PZ [] w₀ Z)
  (h : m_law02_awake  = some r) :
  Calls Try.prog 18 #[] w₀ fun e w'=>∃ Zn : Zp,e = .returned (.bool r) ∧ True ∧ Hp [] w₀ w' [fz Zn]:=by
 unfold m_law02_awake at h
 refine Calls.ofWC (vs:=[]) (pre:=[]) (env:=[]) Try.func18 rfl Try.ntmps18 rfl (Hp.nil w₀ _) rfl ?_
 refine WC.pool ?_
 refine WC.seq ?_
 refine WC.region ?_
 refine WL.quiet (d:=0) rfl rfl rfl (q_assign rfl) ?_
 refine WL.nil ?_
 refine WX.then ?_
 refine WC.seq ?_
 obtain ⟨za,zsB,h⟩:=zb h
 refine WC.region ?_
 refine WL.callD (dd:=17) rfl rfl rfl (zg (l:=[.const (.int .i64 1),.const (.int .i64 1)]) Try.call22 (.cons rfl (.cons rfl .nil))) (.nil : Sel [fz []] [] [fz []]) (fun w hw=>by have pz:=(hz.call2 hw (.nil : Sel [fz []] [] [fz []]) .here); exact w_law02_num (Z:=_)  (z37:=1) (z38:=1) (r:=za) w pz  zsB) ?_
 refine WL.new (dd:=1) rfl rfl rfl (e_alloc (cs:=[(.int .i64 0),(.int .i64 0)]) zeroT_28 rfl) ?_
 intro zy _
 refine WL.eff0 rfl rfl (e_store (vs:=[(.int .i64 za.fN),(.int .i64 za.fD)]) (ds:=[(.int .i64 za.fN),(.int .i64 za.fD)]) sizT_28 rfl rfl rfl rfl (oc_cons rfl (oc_cons rfl oc_nil)) .here (Nat.le_of_ble_eq_true rfl) rfl) ?_
 refine WL.nil ?_
 refine WX.then ?_
 refine WC.seq ?_
 obtain ⟨zf5,zsC,h⟩:=zb h
 obtain ⟨zf6,zsD,h⟩:=zb h
 obtain ⟨z2k,zsE,h⟩:=zb h
 obtain ⟨zf7,zsF,h⟩:=zb h
 obtain ⟨zf8,zsG,h⟩:=zb h
 obtain ⟨z2l,zsH,h⟩:=zb h
 obtain ⟨zf9,zsI,h⟩:=zb h
 obtain ⟨z2m,zsJ,h⟩:=zb h
 refine WC.draw (fun i=>[].contains i) [] rfl ?_
 refine WD.enter (i:=0) (d:=18) (by kernel_rfl) rfl (z6 (by kernel_rfl)) (z7 (by kernel_rfl)) rfl rfl rfl (zg (l:=[.const (.int .i64 10),.const (.int .i64 1)]) Try.call22 (.cons rfl (.cons rfl .nil))) (fun w hw=>by have pz:=(hz.call2 hw (.nil : Sel [stb zy 28 [(.int .i64 za.fN),(.int .i64 za.fD)],fz []] [] [stb zy 28 [(.int .i64 za.fN),(.int .i64 za.fD)],fz []]) (.there .here)); exact w_law02_num (Z:=_)  (z37:=10) (z38:=1) (r:=zf5) w pz  zsC) ?_
 refine WD.enter (i:=1) (d:=19) (by kernel_rfl) rfl (z6 (by kernel_rfl)) (z7 (by kernel_rfl)) rfl rfl rfl (zg (l:=[.const (.int .i64 2),.const (.int .i64 1)]) Try.call22 (.cons rfl (.cons rfl .nil))) (fun w hw=>by have pz:=(hz.call2 hw (.nil : Sel [stb zy 28 [(.int .i64 za.fN),(.int .i64 za.fD)],fz []] [] [stb zy 28 [(.int .i64 za.fN),(.int .i64 za.fD)],fz []]) (.there .here)); exact w_law02_num (Z:=_)  (z37:=2) (z38:=1) (r:=zf6) w pz  zsD) ?_
 refine WD.enter (i:=2) (d:=20) (by kernel_rfl) rfl (z6 (by kernel_rfl)) (z7 (by kernel_rfl)) rfl rfl rfl (zg (l:=[.tmp 18,.tmp 19]) Try.call43 (.cons rfl (.cons rfl .nil))) (fun w hw=>by have pz:=(hz.call2 hw (.nil : Sel [stb zy 28 [(.int .i64 za.fN),(.int .i64 za.fD)],fz []] [] [stb zy 28 [(.int .i64 za.fN),(.int .i64 za.fD)],fz []]) (.there .here)); exact w_law02_bucket (Z:=_)  (z3L:=zf5) (z3M:=zf6) (r:=z2k) w pz  zsE) ?_
 refine WD.enter (i:=3) (d:=21) (by kernel_rfl) rfl (z6 (by kernel_rfl)) (z7 (by kernel_rfl)) rfl rfl rfl (zg (l:=[.const (.int .i64 30),.const (.int .i64 1)]) Try.call22 (.cons rfl (.cons rfl .nil))) (fun w hw=>by have pz:=(hz.call2 hw (.nil : Sel [stb zy 28 [(.int .i64 za.fN),(.int .i64 za.fD)],fz []] [] [stb zy 28 [(.int .i64 za.fN),(.int .i64 za.fD)],fz []]) (.there .here)); exact w_law02_num (Z:=_)  (z37:=30) (z38:=1) (r:=zf7) w pz  zsF) ?_
 refine WD.enter (i:=4) (d:=22) (by kernel_rfl) rfl (z6 (by kernel_rfl)) (z7 (by kernel_rfl)) rfl rfl rfl (zg (l:=[.const (.int .i64 1),.const (.int .i64 2)]) Try.call22 (.cons rfl (.cons rfl .nil))) (fun w hw=>by have pz:=(hz.call2 hw (.nil : Sel [stb zy 28 [(.int .i64 za.fN),(.int .i64 za.fD)],fz []] [] [stb zy 28 [(.int .i64 za.fN),(.int .i64 za.fD)],fz []]) (.there .here)); exact w_law02_num (Z:=_)  (z37:=1) (z38:=2) (r:=zf8) w pz  zsG) ?_
 refine WD.enter (i:=5) (d:=23) (by kernel_rfl) rfl (z6 (by kernel_rfl)) (z7 (by kernel_rfl)) rfl rfl rfl (zg (l:=[.tmp 21,.tmp 22]) Try.call43 (.cons rfl (.cons rfl .nil))) (fun w hw=>by have pz:=(hz.call2 hw (.nil : Sel [stb zy 28 [(.int .i64 za.fN),(.int .i64 za.fD)],fz []] [] [stb zy 28 [(.int .i64 za.fN),(.int .i64 za.fD)],fz []]) (.there .here)); exact w_law02_bucket (Z:=_)  (z3L:=zf7) (z3M:=zf8) (r:=z2l) w pz  zsH) ?_
 refine WD.enter (i:=6) (d:=24) (by kernel_rfl) rfl (z6 (by kernel_rfl)) (z7 (by kernel_rfl)) rfl rfl rfl (zg (l:=[.const (.int .i64 40),.const (.int .i64 1)]) Try.call22 (.cons rfl (.cons rfl .nil))) (fun w hw=>by have pz:=(hz.call2 hw (.nil : Sel [stb zy 28 [(.int .i64 za.fN),(.int .i64 za.fD)],fz []] [] [stb zy 28 [(.int .i64 za.fN),(.int .i64 za.fD)],fz []]) (.there .here)); exact w_law02_num (Z:=_)  (z37:=40) (z38:=1) (r:=zf9) w pz  zsI) ?_
 refine WD.quiet (i:=7) (d:=25) (by kernel_rfl) rfl (z6 (by kernel_rfl)) (z7 (by kernel_rfl)) rfl rfl rfl (q_loadA (cs:=[(.int .i64 za.fN),(.int .i64 za.fD)]) aggT_28 rfl rfl (rd_all .here)) ?_
 refine WD.enter (i:=8) (d:=26) (by kernel_rfl) rfl (z6 (by kernel_rfl)) (z7 (by kernel_rfl)) rfl rfl rfl (zg (l:=[.tmp 24,.tmp 25]) Try.call43 (.cons rfl (.cons rfl .nil))) (fun w hw=>by have pz:=(hz.call2 hw (.nil : Sel [stb zy 28 [(.int .i64 za.fN),(.int .i64 za.fD)],fz []] [] [stb zy 28 [(.int .i64 za.fN),(.int .i64 za.fD)],fz []]) (.there .here)); exact w_law02_bucket (Z:=_)  (z3L:=zf9) (z3M:=za) (r:=z2m) w pz  zsJ) ?_
 refine WD.new (i:=9) (dd:=27) rfl (by kernel_rfl) rfl rfl rfl (e_buildSlice (cs:=([z2k,z2l,z2m] : List z1).flatMap e42) elT_25 (Eos.parts (l:=[.tmp 20,.tmp 23,.tmp 26]) (.cons rfl (.cons rfl (.cons rfl .nil))) [0,1,2]) (fun _=>by kernel_rfl) rfl (by unfold maxLen; omega)) (fun h'=>absurd h' (by decide)) ?_
 intro z5h _
 refine WD.pure (i:=10) (d:=2) (by kernel_rfl) rfl (z6 (by kernel_rfl)) (z7 (by kernel_rfl)) rfl rfl rfl (fun _=>q_assign rfl) ?_
 refine WD.done (by kernel_rfl) ?_
 refine WX.then ?_
 refine WC.seq ?_
 obtain ⟨ze,zsK,h⟩:=zb h
 refine WC.region ?_
 refine WL.quiet (d:=29) rfl rfl rfl (q_move rfl) ?_
 refine WL.enter2 (dd:=30) rfl rfl rfl (zg (l:=[.tmp 29]) Try.call19 (.cons rfl .nil)) (.nil : Sel [row (.slice (some ⟨z5h,0,none⟩) (([z2k,z2l,z2m] : List z1).length) 3) 42 4 (([z2k,z2l,z2m] : List z1).flatMap e42),stb zy 28 [(.int .i64 za.fN),(.int .i64 za.fD)],fz []] [] [row (.slice (some ⟨z5h,0,none⟩) (([z2k,z2l,z2m] : List z1).length) 3) 42 4 (([z2k,z2l,z2m] : List z1).flatMap e42),stb zy 28 [(.int .i64 za.fN),(.int .i64 za.fD)],fz []]) (fun w hw=>by have pz:=(hz.call2 hw (.nil : Sel [row (.slice (some ⟨z5h,0,none⟩) (([z2k,z2l,z2m] : List z1).length) 3) 42 4 (([z2k,z2l,z2m] : List z1).flatMap e42),stb zy 28 [(.int .i64 za.fN),(.int .i64 za.fD)],fz []] [] [row (.slice (some ⟨z5h,0,none⟩) (([z2k,z2l,z2m] : List z1).length) 3) 42 4 (([z2k,z2l,z2m] : List z1).flatMap e42),stb zy 28 [(.int .i64 za.fN),(.int .i64 za.fD)],fz []]) (.there (.there .here))).lend hw (.nil : Sel [row (.slice (some ⟨z5h,0,none⟩) (([z2k,z2l,z2m] : List z1).length) 3) 42 4 (([z2k,z2l,z2m] : List z1).flatMap e42),stb zy 28 [(.int .i64 za.fN),(.int .i64 za.fD)],fz []] [] [row (.slice (some ⟨z5h,0,none⟩) (([z2k,z2l,z2m] : List z1).length) 3) 42 4 (([z2k,z2l,z2m] : List z1).flatMap e42),stb zy 28 [(.int .i64 za.fN),(.int .i64 za.fD)],fz []]) (B:=[row (.slice (some ⟨z5h,0,none⟩) (([z2k,z2l,z2m] : List z1).length) 3) 42 4 (([z2k,z2l,z2m] : List z1).flatMap e42)]) (fun _ hx'=>((.cons .here .nil) : Sel _ [row (.slice (some ⟨z5h,0,none⟩) (([z2k,z2l,z2m] : List z1).length) 3) 42 4 (([z2k,z2l,z2m] : List z1).flatMap e42)] _).mem hx'); exact w_curve_Norm (Z:=_) (z9J:=(some ⟨z5h,0,none⟩)) (z9K:=3) (z71:=([z2k,z2l,z2m] : List z1)) (r:=ze) w pz (ZA.row (hw.lent (.nil : Sel [row (.slice (some ⟨z5h,0,none⟩) (([z2k,z2l,z2m] : List z1).length) 3) 42 4 (([z2k,z2l,z2m] : List z1).flatMap e42),stb zy 28 [(.int .i64 za.fN),(.int .i64 za.fD)],fz []] [] [row (.slice (some ⟨z5h,0,none⟩) (([z2k,z2l,z2m] : List z1).length) 3) 42 4 (([z2k,z2l,z2m] : List z1).flatMap e42),stb zy 28 [(.int .i64 za.fN),(.int .i64 za.fD)],fz []]) (B:=[row (.slice (some ⟨z5h,0,none⟩) (([z2k,z2l,z2m] : List z1).length) 3) 42 4 (([z2k,z2l,z2m] : List z1).flatMap e42)]) (fun _ hx'=>((.cons .here .nil) : Sel _ [row (.slice (some ⟨z5h,0,none⟩) (([z2k,z2l,z2m] : List z1).length) 3) 42 4 (([z2k,z2l,z2m] : List z1).flatMap e42)] _).mem hx') (.head _) _) (RR.flat (enc:=e42) (fun _=>rfl) _) ⟨w,pz.1⟩) zsK) ?_
 rintro zB zC _
 refine WL.quiet (d:=28) rfl rfl rfl (q_move rfl) ?_
 refine WL.quiet (d:=31) rfl rfl rfl (q_extract rfl rfl) ?_
 refine WL.quiet (d:=32) rfl rfl rfl (q_extract rfl rfl) ?_
 refine WL.quiet (d:=3) rfl rfl rfl (q_assign rfl) ?_
 refine WL.quiet (d:=4) rfl rfl rfl (q_assign rfl) ?_
 refine WL.nil ?_
 refine WX.then ?_
 refine WC.seq ?_
 obtain ⟨zf,zsL,h⟩:=zb h
 refine WC.region ?_
 refine WL.quiet (d:=34) rfl rfl rfl (q_move rfl) ?_
 refine WL.freezeS (ls:=([z2k,z2l,z2m] : List z1)) (.there .here) (.there (.there .here)) hz (RR.flat (enc:=e42) (fun _=>rfl) _) ?_
 intro z32 zxY zaM
 refine WL.enter3 (dd:=35) rfl rfl rfl (zg (l:=[.tmp 34]) Try.call20 (.cons rfl .nil)) (.nil : Sel [fz z32,row (.slice zB ze.1.length zC) 42 4 (ze.1.flatMap e42),stb zy 28 [(.int .i64 za.fN),(.int .i64 za.fD)]] [] [fz z32,row (.slice zB ze.1.length zC) 42 4 (ze.1.flatMap e42),stb zy 28 [(.int .i64 za.fN),(.int .i64 za.fD)]]) (fun w hw=>by have pz:=(hz.call2 hw (.nil : Sel [fz z32,row (.slice zB ze.1.length zC) 42 4 (ze.1.flatMap e42),stb zy 28 [(.int .i64 za.fN),(.int .i64 za.fD)]] [] [fz z32,row (.slice zB ze.1.length zC) 42 4 (ze.1.flatMap e42),stb zy 28 [(.int .i64 za.fN),(.int .i64 za.fD)]]) .here); exact w_curve_Breaks (Z:=_) (z9V:=(some ⟨z5h,0,none⟩)) (z9W:=3) (z75:=([z2k,z2l,z2m] : List z1)) (r:=zf) w pz zaM zsL) ?_
 rintro z3D zR zP _
 refine WL.merge .here (.there .here) ?_
 refine WL.quiet (d:=33) rfl rfl rfl (q_move rfl) ?_
 refine WL.quiet (d:=36) rfl rfl rfl (q_extract rfl rfl) ?_
 refine WL.quiet (d:=37) rfl rfl rfl (q_extract rfl rfl) ?_
 refine WL.quiet (d:=5) rfl rfl rfl (q_assign rfl) ?_
 refine WL.quiet (d:=6) rfl rfl rfl (q_assign rfl) ?_
 refine WL.nil ?_
 refine WX.then ?_
 refine WC.seq ?_
 obtain ⟨zfa,zsM,h⟩:=zb h
 obtain ⟨zj,zsN,h⟩:=zb h
 refine WC.region ?_
 refine WL.quiet (d:=39) rfl rfl rfl (q_move rfl) ?_
 refine WL.callD (dd:=40) rfl rfl rfl (zg (l:=[.const (.int .i64 5),.const (.int .i64 1)]) Try.call22 (.cons rfl (.cons rfl .nil))) (.nil : Sel [fz (z32 ++ z3D),row (.slice zR zf.1.length zP) 28 2 (zf.1.flatMap e28),row (.slice zB ze.1.length zC) 42 4 (ze.1.flatMap e42),stb zy 28 [(.int .i64 za.fN),(.int .i64 za.fD)]] [] [fz (z32 ++ z3D),row (.slice zR zf.1.length zP) 28 2 (zf.1.flatMap e28),row (.slice zB ze.1.length zC) 42 4 (ze.1.flatMap e42),stb zy 28 [(.int .i64 za.fN),(.int .i64 za.fD)]]) (fun w hw=>by have pz:=(hz.call2 hw (.nil : Sel [fz (z32 ++ z3D),row (.slice zR zf.1.length zP) 28 2 (zf.1.flatMap e28),row (.slice zB ze.1.length zC) 42 4 (ze.1.flatMap e42),stb zy 28 [(.int .i64 za.fN),(.int .i64 za.fD)]] [] [fz (z32 ++ z3D),row (.slice zR zf.1.length zP) 28 2 (zf.1.flatMap e28),row (.slice zB ze.1.length zC) 42 4 (ze.1.flatMap e42),stb zy 28 [(.int .i64 za.fN),(.int .i64 za.fD)]]) .here); exact w_law02_num (Z:=_)  (z37:=5) (z38:=1) (r:=zfa) w pz  zsM) ?_
 refine WL.callD (dd:=41) rfl rfl rfl (zg (l:=[.tmp 39,.tmp 40]) Try.call23 (.cons rfl (.cons rfl .nil))) (.nil : Sel [fz (z32 ++ z3D),row (.slice zR zf.1.length zP) 28 2 (zf.1.flatMap e28),row (.slice zB ze.1.length zC) 42 4 (ze.1.flatMap e42),stb zy 28 [(.int .i64 za.fN),(.int .i64 za.fD)]] [] [fz (z32 ++ z3D),row (.slice zR zf.1.length zP) 28 2 (zf.1.flatMap e28),row (.slice zB ze.1.length zC) 42 4 (ze.1.flatMap e42),stb zy 28 [(.int .i64 za.fN),(.int .i64 za.fD)]]) (fun w hw=>by have pz:=(hz.call2 hw (.nil : Sel [fz (z32 ++ z3D),row (.slice zR zf.1.length zP) 28 2 (zf.1.flatMap e28),row (.slice zB ze.1.length zC) 42 4 (ze.1.flatMap e42),stb zy 28 [(.int .i64 za.fN),(.int .i64 za.fD)]] [] [fz (z32 ++ z3D),row (.slice zR zf.1.length zP) 28 2 (zf.1.flatMap e28),row (.slice zB ze.1.length zC) 42 4 (ze.1.flatMap e42),stb zy 28 [(.int .i64 za.fN),(.int .i64 za.fD)]]) .here); exact w_curve_At (Z:=_) (z7V:=(some ⟨z5h,0,none⟩)) (z7W:=3) (z1r:=([z2k,z2l,z2m] : List z1)) (z1N:=zfa) (r:=zj) w pz (zaM.mono ((Zle.left _ _).trans (Zle.assoc _ _ _))) zsN) ?_
 refine WL.quiet (d:=38) rfl rfl rfl (q_move rfl) ?_
 refine WL.quiet (d:=42) rfl rfl rfl (q_extract rfl rfl) ?_
 refine WL.quiet (d:=43) rfl rfl rfl (q_extract rfl rfl) ?_
 refine WL.new (dd:=7) rfl rfl rfl (e_alloc (cs:=[(.int .i64 0),(.int .i64 0)]) zeroT_28 rfl) ?_
 intro z10 _
 refine WL.eff0 rfl rfl (e_store (vs:=[(.int .i64 zj.1.fN),(.int .i64 zj.1.fD)]) (ds:=[(.int .i64 zj.1.fN),(.int .i64 zj.1.fD)]) sizT_28 rfl rfl rfl rfl (oc_cons rfl (oc_cons rfl oc_nil)) .here (Nat.le_of_ble_eq_true rfl) rfl) ?_
 refine WL.quiet (d:=8) rfl rfl rfl (q_assign rfl) ?_
 refine WL.nil ?_
 refine WX.then ?_
 refine WC.seq ?_
 obtain ⟨zfb,zsO,h⟩:=zb h
 obtain ⟨zp,zsP,h⟩:=zb h
 refine WC.region ?_
 refine WL.quiet (d:=45) rfl rfl rfl (q_move rfl) ?_
 refine WL.callD (dd:=46) rfl rfl rfl (zg (l:=[.const (.int .i64 20),.const (.int .i64 1)]) Try.call22 (.cons rfl (.cons rfl .nil))) (.nil : Sel [stb z10 28 [(.int .i64 zj.1.fN),(.int .i64 zj.1.fD)],fz (z32 ++ z3D),row (.slice zR zf.1.length zP) 28 2 (zf.1.flatMap e28),row (.slice zB ze.1.length zC) 42 4 (ze.1.flatMap e42),stb zy 28 [(.int .i64 za.fN),(.int .i64 za.fD)]] [] [stb z10 28 [(.int .i64 zj.1.fN),(.int .i64 zj.1.fD)],fz (z32 ++ z3D),row (.slice zR zf.1.length zP) 28 2 (zf.1.flatMap e28),row (.slice zB ze.1.length zC) 42 4 (ze.1.flatMap e42),stb zy 28 [(.int .i64 za.fN),(.int .i64 za.fD)]]) (fun w hw=>by have pz:=(hz.call2 hw (.nil : Sel [stb z10 28 [(.int .i64 zj.1.fN),(.int .i64 zj.1.fD)],fz (z32 ++ z3D),row (.slice zR zf.1.length zP) 28 2 (zf.1.flatMap e28),row (.slice zB ze.1.length zC) 42 4 (ze.1.flatMap e42),stb zy 28 [(.int .i64 za.fN),(.int .i64 za.fD)]] [] [stb z10 28 [(.int .i64 zj.1.fN),(.int .i64 zj.1.fD)],fz (z32 ++ z3D),row (.slice zR zf.1.length zP) 28 2 (zf.1.flatMap e28),row (.slice zB ze.1.length zC) 42 4 (ze.1.flatMap e42),stb zy 28 [(.int .i64 za.fN),(.int .i64 za.fD)]]) (.there .here)); exact w_law02_num (Z:=_)  (z37:=20) (z38:=1) (r:=zfb) w pz  zsO) ?_
 refine WL.callD (dd:=47) rfl rfl rfl (zg (l:=[.tmp 45,.tmp 46]) Try.call23 (.cons rfl (.cons rfl .nil))) (.nil : Sel [stb z10 28 [(.int .i64 zj.1.fN),(.int .i64 zj.1.fD)],fz (z32 ++ z3D),row (.slice zR zf.1.length zP) 28 2 (zf.1.flatMap e28),row (.slice zB ze.1.length zC) 42 4 (ze.1.flatMap e42),stb zy 28 [(.int .i64 za.fN),(.int .i64 za.fD)]] [] [stb z10 28 [(.int .i64 zj.1.fN),(.int .i64 zj.1.fD)],fz (z32 ++ z3D),row (.slice zR zf.1.length zP) 28 2 (zf.1.flatMap e28),row (.slice zB ze.1.length zC) 42 4 (ze.1.flatMap e42),stb zy 28 [(.int .i64 za.fN),(.int .i64 za.fD)]]) (fun w hw=>by have pz:=(hz.call2 hw (.nil : Sel [stb z10 28 [(.int .i64 zj.1.fN),(.int .i64 zj.1.fD)],fz (z32 ++ z3D),row (.slice zR zf.1.length zP) 28 2 (zf.1.flatMap e28),row (.slice zB ze.1.length zC) 42 4 (ze.1.flatMap e42),stb zy 28 [(.int .i64 za.fN),(.int .i64 za.fD)]] [] [stb z10 28 [(.int .i64 zj.1.fN),(.int .i64 zj.1.fD)],fz (z32 ++ z3D),row (.slice zR zf.1.length zP) 28 2 (zf.1.flatMap e28),row (.slice zB ze.1.length zC) 42 4 (ze.1.flatMap e42),stb zy 28 [(.int .i64 za.fN),(.int .i64 za.fD)]]) (.there .here)); exact w_curve_At (Z:=_) (z7V:=(some ⟨z5h,0,none⟩)) (z7W:=3) (z1r:=([z2k,z2l,z2m] : List z1)) (z1N:=zfb) (r:=zp) w pz (zaM.mono ((Zle.left _ _).trans (Zle.assoc _ _ _))) zsP) ?_
 refine WL.quiet (d:=44) rfl rfl rfl (q_move rfl) ?_
 refine WL.quiet (d:=48) rfl rfl rfl (q_extract rfl rfl) ?_
 refine WL.quiet (d:=49) rfl rfl rfl (q_extract rfl rfl) ?_
 refine WL.new (dd:=9) rfl rfl rfl (e_alloc (cs:=[(.int .i64 0),(.int .i64 0)]) zeroT_28 rfl) ?_
 intro z18 _
 refine WL.eff0 rfl rfl (e_store (vs:=[(.int .i64 zp.1.fN),(.int .i64 zp.1.fD)]) (ds:=[(.int .i64 zp.1.fN),(.int .i64 zp.1.fD)]) sizT_28 rfl rfl rfl rfl (oc_cons rfl (oc_cons rfl oc_nil)) .here (Nat.le_of_ble_eq_true rfl) rfl) ?_
 refine WL.quiet (d:=10) rfl rfl rfl (q_assign rfl) ?_
 refine WL.nil ?_
 refine WX.then ?_
 refine WC.seq ?_
 obtain ⟨zfc,zsQ,h⟩:=zb h
 obtain ⟨zq,zsR,h⟩:=zb h
 refine WC.region ?_
 refine WL.quiet (d:=51) rfl rfl rfl (q_move rfl) ?_
 refine WL.callD (dd:=52) rfl rfl rfl (zg (l:=[.const (.int .i64 5),.const (.int .i64 1)]) Try.call22 (.cons rfl (.cons rfl .nil))) (.nil : Sel [stb z18 28 [(.int .i64 zp.1.fN),(.int .i64 zp.1.fD)],stb z10 28 [(.int .i64 zj.1.fN),(.int .i64 zj.1.fD)],fz (z32 ++ z3D),row (.slice zR zf.1.length zP) 28 2 (zf.1.flatMap e28),row (.slice zB ze.1.length zC) 42 4 (ze.1.flatMap e42),stb zy 28 [(.int .i64 za.fN),(.int .i64 za.fD)]] [] [stb z18 28 [(.int .i64 zp.1.fN),(.int .i64 zp.1.fD)],stb z10 28 [(.int .i64 zj.1.fN),(.int .i64 zj.1.fD)],fz (z32 ++ z3D),row (.slice zR zf.1.length zP) 28 2 (zf.1.flatMap e28),row (.slice zB ze.1.length zC) 42 4 (ze.1.flatMap e42),stb zy 28 [(.int .i64 za.fN),(.int .i64 za.fD)]]) (fun w hw=>by have pz:=(hz.call2 hw (.nil : Sel [stb z18 28 [(.int .i64 zp.1.fN),(.int .i64 zp.1.fD)],stb z10 28 [(.int .i64 zj.1.fN),(.int .i64 zj.1.fD)],fz (z32 ++ z3D),row (.slice zR zf.1.length zP) 28 2 (zf.1.flatMap e28),row (.slice zB ze.1.length zC) 42 4 (ze.1.flatMap e42),stb zy 28 [(.int .i64 za.fN),(.int .i64 za.fD)]] [] [stb z18 28 [(.int .i64 zp.1.fN),(.int .i64 zp.1.fD)],stb z10 28 [(.int .i64 zj.1.fN),(.int .i64 zj.1.fD)],fz (z32 ++ z3D),row (.slice zR zf.1.length zP) 28 2 (zf.1.flatMap e28),row (.slice zB ze.1.length zC) 42 4 (ze.1.flatMap e42),stb zy 28 [(.int .i64 za.fN),(.int .i64 za.fD)]]) (.there (.there .here))); exact w_law02_num (Z:=_)  (z37:=5) (z38:=1) (r:=zfc) w pz  zsQ) ?_
 refine WL.enter2 (dd:=53) rfl rfl rfl (zg (l:=[.tmp 51,.tmp 52]) Try.call34 (.cons rfl (.cons rfl .nil))) (.nil : Sel [stb z18 28 [(.int .i64 zp.1.fN),(.int .i64 zp.1.fD)],stb z10 28 [(.int .i64 zj.1.fN),(.int .i64 zj.1.fD)],fz (z32 ++ z3D),row (.slice zR zf.1.length zP) 28 2 (zf.1.flatMap e28),row (.slice zB ze.1.length zC) 42 4 (ze.1.flatMap e42),stb zy 28 [(.int .i64 za.fN),(.int .i64 za.fD)]] [] [stb z18 28 [(.int .i64 zp.1.fN),(.int .i64 zp.1.fD)],stb z10 28 [(.int .i64 zj.1.fN),(.int .i64 zj.1.fD)],fz (z32 ++ z3D),row (.slice zR zf.1.length zP) 28 2 (zf.1.flatMap e28),row (.slice zB ze.1.length zC) 42 4 (ze.1.flatMap e42),stb zy 28 [(.int .i64 za.fN),(.int .i64 za.fD)]]) (fun w hw=>by have pz:=(hz.call2 hw (.nil : Sel [stb z18 28 [(.int .i64 zp.1.fN),(.int .i64 zp.1.fD)],stb z10 28 [(.int .i64 zj.1.fN),(.int .i64 zj.1.fD)],fz (z32 ++ z3D),row (.slice zR zf.1.length zP) 28 2 (zf.1.flatMap e28),row (.slice zB ze.1.length zC) 42 4 (ze.1.flatMap e42),stb zy 28 [(.int .i64 za.fN),(.int .i64 za.fD)]] [] [stb z18 28 [(.int .i64 zp.1.fN),(.int .i64 zp.1.fD)],stb z10 28 [(.int .i64 zj.1.fN),(.int .i64 zj.1.fD)],fz (z32 ++ z3D),row (.slice zR zf.1.length zP) 28 2 (zf.1.flatMap e28),row (.slice zB ze.1.length zC) 42 4 (ze.1.flatMap e42),stb zy 28 [(.int .i64 za.fN),(.int .i64 za.fD)]]) (.there (.there .here))); exact w_curve_Shift (Z:=_) (z8J:=(some ⟨z5h,0,none⟩)) (z8K:=3) (zS:=([z2k,z2l,z2m] : List z1)) (z1O:=zfc) (r:=zq) w pz (zaM.mono ((Zle.left _ _).trans (Zle.assoc _ _ _))) zsR) ?_
 rintro z19 z1a _
 refine WL.quiet (d:=50) rfl rfl rfl (q_move rfl) ?_
 refine WL.quiet (d:=54) rfl rfl rfl (q_extract rfl rfl) ?_
 refine WL.quiet (d:=55) rfl rfl rfl (q_extract rfl rfl) ?_
 refine WL.quiet (d:=11) rfl rfl rfl (q_assign rfl) ?_
 refine WL.quiet (d:=12) rfl rfl rfl (q_assign rfl) ?_
 refine WL.nil ?_
 refine WX.then ?_
 refine WC.seq ?_
 obtain ⟨zfd,zsS,h⟩:=zb h
 obtain ⟨zc1,zsT,h⟩:=zb h
 obtain ⟨zs,zsU,h⟩:=zb h
 refine WC.draw (fun i=>[].contains i) [] rfl ?_
 refine WD.pure (i:=0) (d:=57) (by kernel_rfl) rfl (z6 (by kernel_rfl)) (z7 (by kernel_rfl)) rfl rfl rfl (fun _=>q_move rfl) ?_
 refine WD.enter (i:=1) (d:=58) (by kernel_rfl) rfl (z6 (by kernel_rfl)) (z7 (by kernel_rfl)) rfl rfl rfl (zg (l:=[.const (.int .i64 5),.const (.int .i64 1)]) Try.call22 (.cons rfl (.cons rfl .nil))) (fun w hw=>by have pz:=(hz.call2 hw (.nil : Sel [row (.slice z19 zq.1.length z1a) 42 4 (zq.1.flatMap e42),stb z18 28 [(.int .i64 zp.1.fN),(.int .i64 zp.1.fD)],stb z10 28 [(.int .i64 zj.1.fN),(.int .i64 zj.1.fD)],fz (z32 ++ z3D),row (.slice zR zf.1.length zP) 28 2 (zf.1.flatMap e28),row (.slice zB ze.1.length zC) 42 4 (ze.1.flatMap e42),stb zy 28 [(.int .i64 za.fN),(.int .i64 za.fD)]] [] [row (.slice z19 zq.1.length z1a) 42 4 (zq.1.flatMap e42),stb z18 28 [(.int .i64 zp.1.fN),(.int .i64 zp.1.fD)],stb z10 28 [(.int .i64 zj.1.fN),(.int .i64 zj.1.fD)],fz (z32 ++ z3D),row (.slice zR zf.1.length zP) 28 2 (zf.1.flatMap e28),row (.slice zB ze.1.length zC) 42 4 (ze.1.flatMap e42),stb zy 28 [(.int .i64 za.fN),(.int .i64 za.fD)]]) (.there (.there (.there .here)))); exact w_law02_num (Z:=_)  (z37:=5) (z38:=1) (r:=zfd) w pz  zsS) ?_
 refine WD.quiet (i:=2) (d:=59) (by kernel_rfl) rfl (z6 (by kernel_rfl)) (z7 (by kernel_rfl)) rfl rfl rfl (q_loadA (cs:=[(.int .i64 za.fN),(.int .i64 za.fD)]) aggT_28 rfl rfl (rd_all (.there (.there (.there (.there (.there (.there .here)))))))) ?_
 refine WD.enter (i:=3) (d:=60) (by kernel_rfl) rfl (z6 (by kernel_rfl)) (z7 (by kernel_rfl)) rfl rfl rfl (zg (l:=[.tmp 58,.tmp 59]) Try.call43 (.cons rfl (.cons rfl .nil))) (fun w hw=>by have pz:=(hz.call2 hw (.nil : Sel [row (.slice z19 zq.1.length z1a) 42 4 (zq.1.flatMap e42),stb z18 28 [(.int .i64 zp.1.fN),(.int .i64 zp.1.fD)],stb z10 28 [(.int .i64 zj.1.fN),(.int .i64 zj.1.fD)],fz (z32 ++ z3D),row (.slice zR zf.1.length zP) 28 2 (zf.1.flatMap e28),row (.slice zB ze.1.length zC) 42 4 (ze.1.flatMap e42),stb zy 28 [(.int .i64 za.fN),(.int .i64 za.fD)]] [] [row (.slice z19 zq.1.length z1a) 42 4 (zq.1.flatMap e42),stb z18 28 [(.int .i64 zp.1.fN),(.int .i64 zp.1.fD)],stb z10 28 [(.int .i64 zj.1.fN),(.int .i64 zj.1.fD)],fz (z32 ++ z3D),row (.slice zR zf.1.length zP) 28 2 (zf.1.flatMap e28),row (.slice zB ze.1.length zC) 42 4 (ze.1.flatMap e42),stb zy 28 [(.int .i64 za.fN),(.int .i64 za.fD)]]) (.there (.there (.there .here)))); exact w_law02_bucket (Z:=_)  (z3L:=zfd) (z3M:=za) (r:=zc1) w pz  zsT) ?_
 refine WD.new (i:=4) (dd:=61) rfl (by kernel_rfl) rfl rfl rfl (e_buildSlice (cs:=([zc1] : List z1).flatMap e42) elT_25 (Eos.parts (l:=[.tmp 60]) (.cons rfl .nil) [0]) (fun _=>by kernel_rfl) rfl (by unfold maxLen; omega)) (fun h'=>absurd h' (by decide)) ?_
 intro zsV _
 refine WD.freezeS (ls:=([zc1] : List z1)) .here (.there (.there (.there .here))) hz (RR.flat (enc:=e42) (fun _=>rfl) _) ?_
 intro z1B zi9 zsW
 refine WD.call3 (i:=5) (dd:=62) rfl (by kernel_rfl) rfl rfl rfl (.inr rfl) (zg (l:=[.tmp 57,.tmp 61]) Try.call30 (.cons rfl (.cons rfl .nil))) (.nil : Sel [fz z1B,row (.slice z19 zq.1.length z1a) 42 4 (zq.1.flatMap e42),stb z18 28 [(.int .i64 zp.1.fN),(.int .i64 zp.1.fD)],stb z10 28 [(.int .i64 zj.1.fN),(.int .i64 zj.1.fD)],row (.slice zR zf.1.length zP) 28 2 (zf.1.flatMap e28),row (.slice zB ze.1.length zC) 42 4 (ze.1.flatMap e42),stb zy 28 [(.int .i64 za.fN),(.int .i64 za.fD)]] [] [fz z1B,row (.slice z19 zq.1.length z1a) 42 4 (zq.1.flatMap e42),stb z18 28 [(.int .i64 zp.1.fN),(.int .i64 zp.1.fD)],stb z10 28 [(.int .i64 zj.1.fN),(.int .i64 zj.1.fD)],row (.slice zR zf.1.length zP) 28 2 (zf.1.flatMap e28),row (.slice zB ze.1.length zC) 42 4 (ze.1.flatMap e42),stb zy 28 [(.int .i64 za.fN),(.int .i64 za.fD)]]) (fun w hw=>by have pz:=(hz.call2 hw (.nil : Sel [fz z1B,row (.slice z19 zq.1.length z1a) 42 4 (zq.1.flatMap e42),stb z18 28 [(.int .i64 zp.1.fN),(.int .i64 zp.1.fD)],stb z10 28 [(.int .i64 zj.1.fN),(.int .i64 zj.1.fD)],row (.slice zR zf.1.length zP) 28 2 (zf.1.flatMap e28),row (.slice zB ze.1.length zC) 42 4 (ze.1.flatMap e42),stb zy 28 [(.int .i64 za.fN),(.int .i64 za.fD)]] [] [fz z1B,row (.slice z19 zq.1.length z1a) 42 4 (zq.1.flatMap e42),stb z18 28 [(.int .i64 zp.1.fN),(.int .i64 zp.1.fD)],stb z10 28 [(.int .i64 zj.1.fN),(.int .i64 zj.1.fD)],row (.slice zR zf.1.length zP) 28 2 (zf.1.flatMap e28),row (.slice zB ze.1.length zC) 42 4 (ze.1.flatMap e42),stb zy 28 [(.int .i64 za.fN),(.int .i64 za.fD)]]) .here); exact w_curve_Sum (Z:=_) (z8L:=(some ⟨z5h,0,none⟩)) (z8M:=3) (z8N:=(some ⟨zsV,0,none⟩)) (z8O:=1) (z6K:=([z2k,z2l,z2m] : List z1)) (z6L:=([zc1] : List z1)) (r:=zs) w pz (zaM.mono ((Zle.left _ _).trans ((Zle.assoc _ _ _).trans zi9))) zsW zsU) ?_
 rintro z1K z1n z1o _
 refine WD.merge .here (.there .here) ?_
 refine WD.pure (i:=6) (d:=56) (by kernel_rfl) rfl (z6 (by kernel_rfl)) (z7 (by kernel_rfl)) rfl rfl rfl (fun _=>q_move rfl) ?_
 refine WD.pure (i:=7) (d:=63) (by kernel_rfl) rfl (z6 (by kernel_rfl)) (z7 (by kernel_rfl)) rfl rfl rfl (fun _=>q_extract rfl rfl) ?_
 refine WD.pure (i:=8) (d:=64) (by kernel_rfl) rfl (z6 (by kernel_rfl)) (z7 (by kernel_rfl)) rfl rfl rfl (fun _=>q_extract rfl rfl) ?_
 refine WD.pure (i:=9) (d:=13) (by kernel_rfl) rfl (z6 (by kernel_rfl)) (z7 (by kernel_rfl)) rfl rfl rfl (fun _=>q_assign rfl) ?_
 refine WD.pure (i:=10) (d:=14) (by kernel_rfl) rfl (z6 (by kernel_rfl)) (z7 (by kernel_rfl)) rfl rfl rfl (fun _=>q_assign rfl) ?_
 refine WD.done (by kernel_rfl) ?_
 refine WX.then ?_
 refine WC.seq ?_
 obtain ⟨zx,zsX,h⟩:=zb h
 refine WC.region ?_
 refine WL.quiet (d:=66) rfl rfl rfl (q_move rfl) ?_
 refine WL.callD (dd:=67) rfl rfl rfl (zg (l:=[.tmp 66]) Try.call15 (.cons rfl .nil)) (.nil : Sel [fz (z1B ++ z1K),row (.slice z1n zs.1.length z1o) 42 4 (zs.1.flatMap e42),row (.slice z19 zq.1.length z1a) 42 4 (zq.1.flatMap e42),stb z18 28 [(.int .i64 zp.1.fN),(.int .i64 zp.1.fD)],stb z10 28 [(.int .i64 zj.1.fN),(.int .i64 zj.1.fD)],row (.slice zR zf.1.length zP) 28 2 (zf.1.flatMap e28),row (.slice zB ze.1.length zC) 42 4 (ze.1.flatMap e42),stb zy 28 [(.int .i64 za.fN),(.int .i64 za.fD)]] [] [fz (z1B ++ z1K),row (.slice z1n zs.1.length z1o) 42 4 (zs.1.flatMap e42),row (.slice z19 zq.1.length z1a) 42 4 (zq.1.flatMap e42),stb z18 28 [(.int .i64 zp.1.fN),(.int .i64 zp.1.fD)],stb z10 28 [(.int .i64 zj.1.fN),(.int .i64 zj.1.fD)],row (.slice zR zf.1.length zP) 28 2 (zf.1.flatMap e28),row (.slice zB ze.1.length zC) 42 4 (ze.1.flatMap e42),stb zy 28 [(.int .i64 za.fN),(.int .i64 za.fD)]]) (fun w hw=>by have pz:=(hz.call2 hw (.nil : Sel [fz (z1B ++ z1K),row (.slice z1n zs.1.length z1o) 42 4 (zs.1.flatMap e42),row (.slice z19 zq.1.length z1a) 42 4 (zq.1.flatMap e42),stb z18 28 [(.int .i64 zp.1.fN),(.int .i64 zp.1.fD)],stb z10 28 [(.int .i64 zj.1.fN),(.int .i64 zj.1.fD)],row (.slice zR zf.1.length zP) 28 2 (zf.1.flatMap e28),row (.slice zB ze.1.length zC) 42 4 (ze.1.flatMap e42),stb zy 28 [(.int .i64 za.fN),(.int .i64 za.fD)]] [] [fz (z1B ++ z1K),row (.slice z1n zs.1.length z1o) 42 4 (zs.1.flatMap e42),row (.slice z19 zq.1.length z1a) 42 4 (zq.1.flatMap e42),stb z18 28 [(.int .i64 zp.1.fN),(.int .i64 zp.1.fD)],stb z10 28 [(.int .i64 zj.1.fN),(.int .i64 zj.1.fD)],row (.slice zR zf.1.length zP) 28 2 (zf.1.flatMap e28),row (.slice zB ze.1.length zC) 42 4 (ze.1.flatMap e42),stb zy 28 [(.int .i64 za.fN),(.int .i64 za.fD)]]) .here); exact w_curve_Rate (Z:=_) (z9F:=(some ⟨z5h,0,none⟩)) (z9G:=3) (z6Z:=([z2k,z2l,z2m] : List z1)) (r:=zx) w pz (zaM.mono ((Zle.left _ _).trans ((Zle.assoc _ _ _).trans (zi9.trans ((Zle.left _ _).trans (Zle.assoc _ _ _)))))) zsX) ?_
 refine WL.quiet (d:=65) rfl rfl rfl (q_move rfl) ?_
 refine WL.quiet (d:=68) rfl rfl rfl (q_extract rfl rfl) ?_
 refine WL.quiet (d:=69) rfl rfl rfl (q_extract rfl rfl) ?_
 refine WL.new (dd:=15) rfl rfl rfl (e_alloc (cs:=[(.int .i64 0),(.int .i64 0)]) zeroT_28 rfl) ?_
 intro z1I _
 refine WL.eff0 rfl rfl (e_store (vs:=[(.int .i64 zx.1.fN),(.int .i64 zx.1.fD)]) (ds:=[(.int .i64 zx.1.fN),(.int .i64 zx.1.fD)]) sizT_28 rfl rfl rfl rfl (oc_cons rfl (oc_cons rfl oc_nil)) .here (Nat.le_of_ble_eq_true rfl) rfl) ?_
 refine WL.quiet (d:=16) rfl rfl rfl (q_assign rfl) ?_
 refine WL.nil ?_
 refine WX.then ?_
 refine WC.seq ?_
 obtain ⟨z9X,zmO,h⟩:=zb h
 obtain ⟨zdK,zmP,h⟩:=zb h
 obtain ⟨zdL,zmQ,h⟩:=zb h
 obtain ⟨zdM,zmR,h⟩:=zb h
 obtain ⟨zdN,zmS,h⟩:=zb h
 obtain ⟨zdO,zmT,h⟩:=zb h
 obtain ⟨zi8,zmU,h⟩:=zb h
 refine WC.draw (fun i=>[].contains i) [] rfl ?_
 refine WD.pure (i:=0) (d:=70) (by kernel_rfl) rfl (z6 (by kernel_rfl)) (z7 (by kernel_rfl)) rfl rfl rfl (fun _=>q_move rfl) ?_
 refine WD.pure (i:=1) (d:=71) (by kernel_rfl) rfl (z6 (by kernel_rfl)) (z7 (by kernel_rfl)) rfl rfl rfl (fun _=>q_move rfl) ?_
 refine WD.pure (i:=2) (d:=72) (by kernel_rfl) rfl (z6 (by kernel_rfl)) (z7 (by kernel_rfl)) rfl rfl rfl (fun _=>q_add rfl rfl rfl) ?_
 refine WD.pure (i:=3) (d:=73) (by kernel_rfl) rfl (z6 (by kernel_rfl)) (z7 (by kernel_rfl)) rfl rfl rfl (fun _=>q_move rfl) ?_
 refine WD.pure (i:=4) (d:=74) (by kernel_rfl) rfl (z6 (by kernel_rfl)) (z7 (by kernel_rfl)) rfl rfl rfl (fun _=>q_add rfl rfl rfl) ?_
 refine WD.pure (i:=5) (d:=75) (by kernel_rfl) rfl (z6 (by kernel_rfl)) (z7 (by kernel_rfl)) rfl rfl rfl (fun _=>q_move rfl) ?_
 refine WD.pure (i:=6) (d:=76) (by kernel_rfl) rfl (z6 (by kernel_rfl)) (z7 (by kernel_rfl)) rfl rfl rfl (fun _=>q_add rfl rfl rfl) ?_
 refine WD.pure (i:=7) (d:=77) (by kernel_rfl) rfl (z6 (by kernel_rfl)) (z7 (by kernel_rfl)) rfl rfl rfl (fun _=>q_move rfl) ?_
 refine WD.pure (i:=8) (d:=78) (by kernel_rfl) rfl (z6 (by kernel_rfl)) (z7 (by kernel_rfl)) rfl rfl rfl (fun _=>q_add rfl rfl rfl) ?_
 refine WD.pure (i:=9) (d:=79) (by kernel_rfl) rfl (z6 (by kernel_rfl)) (z7 (by kernel_rfl)) rfl rfl rfl (fun _=>q_move rfl) ?_
 refine WD.pure (i:=10) (d:=80) (by kernel_rfl) rfl (z6 (by kernel_rfl)) (z7 (by kernel_rfl)) rfl rfl rfl (fun _=>q_add rfl rfl rfl) ?_
 refine WD.pure (i:=11) (d:=81) (by kernel_rfl) rfl (z6 (by kernel_rfl)) (z7 (by kernel_rfl)) rfl rfl rfl (fun _=>q_move rfl) ?_
 refine WD.pure (i:=12) (d:=82) (by kernel_rfl) rfl (z6 (by kernel_rfl)) (z7 (by kernel_rfl)) rfl rfl rfl (fun _=>q_add rfl rfl rfl) ?_
 refine WD.pure (i:=13) (d:=83) (by kernel_rfl) rfl (z6 (by kernel_rfl)) (z7 (by kernel_rfl)) rfl rfl rfl (fun _=>q_eql rfl rfl) ?_
 refine WD.pure (i:=14) (d:=84) (by kernel_rfl) rfl (z6 (by kernel_rfl)) (z7 (by kernel_rfl)) rfl rfl rfl (fun _=>q_move rfl) ?_
 refine WD.mid (fuel':=50) [(0,(.bool false)),(5,(.slice zR zf.1.length zP)),(7,(.pointer (some ⟨z10,0,none⟩))),(9,(.pointer (some ⟨z18,0,none⟩))),(11,(.slice z19 zq.1.length z1a)),(13,(.slice z1n zs.1.length z1o)),(15,(.pointer (some ⟨z1I,0,none⟩))),(84,(.bool (decide ((i64 ((i64 ((i64 ((i64 ((i64 ((i64 (ze.2 + zf.2)) + zj.2)) + zp.2)) + zq.2)) + zs.2)) + zx.2)) = 0)))),(89,(.bool z9X))] (listedA 70 [19,18,17,16,15,14,13,12,11,10,9,8,7,6,5,4,3,2,1,0]) ?_ (fun zmV=>?_)
 rotate_left
 ·rcases Bool.eq_false_or_eq_true (decide ((i64 ((i64 ((i64 ((i64 ((i64 ((i64 (ze.2 + zf.2)) + zj.2)) + zp.2)) + zq.2)) + zs.2)) + zx.2)) = 0)) with hb' | hb'
  ·have zia:=hb'; clear hb'
   have zaN:=ite_t zmO zia
   obtain ⟨zsY,zaN⟩:=chk_elim zaN
   obtain ⟨zi5,zsZ,zaN⟩:=zb zaN
   replace zaN:=Option.some.inj zaN
   refine WD.pin (i:=84) rfl zia ?_
   refine WD.pure (i:=15) (d:=85) (by kernel_rfl) rfl (z6 (by kernel_rfl)) (z7 (by kernel_rfl)) rfl rfl rfl (fun _=>q_move rfl) ?_
   refine WD.pure (i:=16) (d:=86) (by kernel_rfl) rfl (z6 (by kernel_rfl)) (z7 (by kernel_rfl)) rfl rfl rfl (fun _=>q_move rfl) ?_
   refine WD.zsub (j:=17) (dd:=87) (by kernel_rfl) rfl (z6 (by kernel_rfl)) (z7 (by kernel_rfl)) rfl rfl (Z:=(Z ++ (z1B ++ z1K))) (Pr:=(fun r x=>r = e42 x)) elT_25 rfl (zaM.mono ((Zle.left _ _).trans ((Zle.assoc _ _ _).trans (zi9.trans ((Zle.left _ _).trans (Zle.assoc _ _ _)))))) (fun _=>ixn) (fun _=>ixo rfl) rfl rfl zsY (List.drop_zero).symm ?_
   rintro zt0 zt1 zt2
   refine WD.enter (i:=18) (d:=88) (by kernel_rfl) rfl (z6 (by kernel_rfl)) (z7 (by kernel_rfl)) rfl rfl rfl (zg (l:=[.tmp 85,.tmp 87]) Try.call44 (.cons rfl (.cons rfl .nil))) (fun w hw=>by have pz:=(hz.call2 hw (.nil : Sel [stb z1I 28 [(.int .i64 zx.1.fN),(.int .i64 zx.1.fD)],fz (z1B ++ z1K),row (.slice z1n zs.1.length z1o) 42 4 (zs.1.flatMap e42),row (.slice z19 zq.1.length z1a) 42 4 (zq.1.flatMap e42),stb z18 28 [(.int .i64 zp.1.fN),(.int .i64 zp.1.fD)],stb z10 28 [(.int .i64 zj.1.fN),(.int .i64 zj.1.fD)],row (.slice zR zf.1.length zP) 28 2 (zf.1.flatMap e28),row (.slice zB ze.1.length zC) 42 4 (ze.1.flatMap e42),stb zy 28 [(.int .i64 za.fN),(.int .i64 za.fD)]] [] [stb z1I 28 [(.int .i64 zx.1.fN),(.int .i64 zx.1.fD)],fz (z1B ++ z1K),row (.slice z1n zs.1.length z1o) 42 4 (zs.1.flatMap e42),row (.slice z19 zq.1.length z1a) 42 4 (zq.1.flatMap e42),stb z18 28 [(.int .i64 zp.1.fN),(.int .i64 zp.1.fD)],stb z10 28 [(.int .i64 zj.1.fN),(.int .i64 zj.1.fD)],row (.slice zR zf.1.length zP) 28 2 (zf.1.flatMap e28),row (.slice zB ze.1.length zC) 42 4 (ze.1.flatMap e42),stb zy 28 [(.int .i64 za.fN),(.int .i64 za.fD)]]) (.there .here)).lend hw (.nil : Sel [stb z1I 28 [(.int .i64 zx.1.fN),(.int .i64 zx.1.fD)],fz (z1B ++ z1K),row (.slice z1n zs.1.length z1o) 42 4 (zs.1.flatMap e42),row (.slice z19 zq.1.length z1a) 42 4 (zq.1.flatMap e42),stb z18 28 [(.int .i64 zp.1.fN),(.int .i64 zp.1.fD)],stb z10 28 [(.int .i64 zj.1.fN),(.int .i64 zj.1.fD)],row (.slice zR zf.1.length zP) 28 2 (zf.1.flatMap e28),row (.slice zB ze.1.length zC) 42 4 (ze.1.flatMap e42),stb zy 28 [(.int .i64 za.fN),(.int .i64 za.fD)]] [] [stb z1I 28 [(.int .i64 zx.1.fN),(.int .i64 zx.1.fD)],fz (z1B ++ z1K),row (.slice z1n zs.1.length z1o) 42 4 (zs.1.flatMap e42),row (.slice z19 zq.1.length z1a) 42 4 (zq.1.flatMap e42),stb z18 28 [(.int .i64 zp.1.fN),(.int .i64 zp.1.fD)],stb z10 28 [(.int .i64 zj.1.fN),(.int .i64 zj.1.fD)],row (.slice zR zf.1.length zP) 28 2 (zf.1.flatMap e28),row (.slice zB ze.1.length zC) 42 4 (ze.1.flatMap e42),stb zy 28 [(.int .i64 za.fN),(.int .i64 za.fD)]]) (B:=[row (.slice zB ze.1.length zC) 42 4 (ze.1.flatMap e42)]) (fun _ hx'=>((.cons (.there (.there (.there (.there (.there (.there (.there .here))))))) .nil) : Sel _ [row (.slice zB ze.1.length zC) 42 4 (ze.1.flatMap e42)] _).mem hx'); exact w_ref02_Same (Z:=_) (z8Q:=zB) (z8R:=zC) (z8S:=zt0) (z8T:=zt1) (z31:=ze.1) (z3c:=(([z2k,z2l,z2m] : List z1).take (2 : Int).toNat)) (r:=zi5) w pz (ZA.row (hw.lent (.nil : Sel [stb z1I 28 [(.int .i64 zx.1.fN),(.int .i64 zx.1.fD)],fz (z1B ++ z1K),row (.slice z1n zs.1.length z1o) 42 4 (zs.1.flatMap e42),row (.slice z19 zq.1.length z1a) 42 4 (zq.1.flatMap e42),stb z18 28 [(.int .i64 zp.1.fN),(.int .i64 zp.1.fD)],stb z10 28 [(.int .i64 zj.1.fN),(.int .i64 zj.1.fD)],row (.slice zR zf.1.length zP) 28 2 (zf.1.flatMap e28),row (.slice zB ze.1.length zC) 42 4 (ze.1.flatMap e42),stb zy 28 [(.int .i64 za.fN),(.int .i64 za.fD)]] [] [stb z1I 28 [(.int .i64 zx.1.fN),(.int .i64 zx.1.fD)],fz (z1B ++ z1K),row (.slice z1n zs.1.length z1o) 42 4 (zs.1.flatMap e42),row (.slice z19 zq.1.length z1a) 42 4 (zq.1.flatMap e42),stb z18 28 [(.int .i64 zp.1.fN),(.int .i64 zp.1.fD)],stb z10 28 [(.int .i64 zj.1.fN),(.int .i64 zj.1.fD)],row (.slice zR zf.1.length zP) 28 2 (zf.1.flatMap e28),row (.slice zB ze.1.length zC) 42 4 (ze.1.flatMap e42),stb zy 28 [(.int .i64 za.fN),(.int .i64 za.fD)]]) (B:=[row (.slice zB ze.1.length zC) 42 4 (ze.1.flatMap e42)]) (fun _ hx'=>((.cons (.there (.there (.there (.there (.there (.there (.there .here))))))) .nil) : Sel _ [row (.slice zB ze.1.length zC) 42 4 (ze.1.flatMap e42)] _).mem hx') (.head _) _) (RR.flat (enc:=e42) (fun _=>rfl) _) ⟨w,pz.1⟩) (zt2.mono (Zle.left _ _)) zsZ) ?_
   refine WD.pure (i:=19) (d:=89) (by kernel_rfl) rfl (z6 (by kernel_rfl)) (z7 (by kernel_rfl)) rfl rfl rfl (fun _=>q_pickT rfl rfl) ?_
   refine WD.reL (.cons .here (.cons .here (.cons .here (.cons .here (.cons .here (.cons .here (.cons .here (.cons .here (.cons .here .nil))))))))) ?_ zmV
   exact (.cons rfl (.cons rfl (.cons rfl (.cons rfl (.cons rfl (.cons rfl (.cons rfl (.cons (zl (Eq.symm zia)) (.cons (zl zaN) .nil)))))))))
  ·have zib:=hb'; clear hb'
   have zic:=ite_f zmO zib
   replace zic:=Option.some.inj zic
   refine WD.pin (i:=84) rfl zib ?_
   refine WD.skip (i:=15) (d:=85) (by kernel_rfl) rfl (z6 (by kernel_rfl)) (z7 (by kernel_rfl)) rfl rfl rfl ?_
   refine WD.skip (i:=16) (d:=86) (by kernel_rfl) rfl (z6 (by kernel_rfl)) (z7 (by kernel_rfl)) rfl rfl rfl ?_
   refine WD.skip (i:=17) (d:=87) (by kernel_rfl) rfl (z6 (by kernel_rfl)) (z7 (by kernel_rfl)) rfl rfl rfl ?_
   refine WD.skip (i:=18) (d:=88) (by kernel_rfl) rfl (z6 (by kernel_rfl)) (z7 (by kernel_rfl)) rfl rfl rfl ?_
   refine WD.pure (i:=19) (d:=89) (by kernel_rfl) rfl (z6 (by kernel_rfl)) (z7 (by kernel_rfl)) rfl rfl rfl (fun _=>q_pickF rfl rfl) ?_
   refine WD.reL (.cons .here (.cons .here (.cons .here (.cons .here (.cons .here (.cons .here (.cons .here (.cons .here (.cons .here .nil))))))))) ?_ zmV
   exact (.cons rfl (.cons rfl (.cons rfl (.cons rfl (.cons rfl (.cons rfl (.cons rfl (.cons (zl (Eq.symm zib)) (.cons (zl zic) .nil)))))))))
 refine WD.relist #[true,true,true,true,true,true,true,true,true,true,true,true,true,true,true,true,true,true,true,true,false,false,false,false,false,false,false,false,false,false,false,false,false,false,false,false,false,false,false,false,false,false,false,false,false,false,false,false,false,false,false,false,false,false,false,false,false,false,false,false,false,false,false,false,false,false,false,false,false,false] (by kernel_rfl) ?_
 refine WD.pure (i:=20) (d:=90) (by kernel_rfl) rfl (z6 (by kernel_rfl)) (z7 (by kernel_rfl)) rfl rfl rfl (fun _=>q_move rfl) ?_
 refine WD.mid (fuel':=45) [(0,(.bool false)),(5,(.slice zR zf.1.length zP)),(7,(.pointer (some ⟨z10,0,none⟩))),(9,(.pointer (some ⟨z18,0,none⟩))),(11,(.slice z19 zq.1.length z1a)),(13,(.slice z1n zs.1.length z1o)),(15,(.pointer (some ⟨z1I,0,none⟩))),(90,(.bool z9X)),(94,(.bool (z9X && (decide (((zf.1.length : Nat) : Int) = 1)))))] (listedA 70 [24,23,22,21,20,19,18,17,16,15,14,13,12,11,10,9,8,7,6,5,4,3,2,1,0]) ?_ (fun zmW=>?_)
 rotate_left
 ·rcases Bool.eq_false_or_eq_true z9X with hb' | hb'
  ·have zid:=hb'; clear hb'
   refine WD.pin (i:=90) rfl zid ?_
   refine WD.pure (i:=21) (d:=91) (by kernel_rfl) rfl (z6 (by kernel_rfl)) (z7 (by kernel_rfl)) rfl rfl rfl (fun _=>q_move rfl) ?_
   refine WD.pure (i:=22) (d:=92) (by kernel_rfl) rfl (z6 (by kernel_rfl)) (z7 (by kernel_rfl)) rfl rfl rfl (fun _=>q_len Try.underlying44 rfl) ?_
   refine WD.pure (i:=23) (d:=93) (by kernel_rfl) rfl (z6 (by kernel_rfl)) (z7 (by kernel_rfl)) rfl rfl rfl (fun _=>q_eql rfl rfl) ?_
   refine WD.pure (i:=24) (d:=94) (by kernel_rfl) rfl (z6 (by kernel_rfl)) (z7 (by kernel_rfl)) rfl rfl rfl (fun _=>q_pickT rfl rfl) ?_
   refine WD.reL (.cons .here (.cons .here (.cons .here (.cons .here (.cons .here (.cons .here (.cons .here (.cons .here (.cons .here .nil))))))))) ?_ zmW
   exact (.cons rfl (.cons rfl (.cons rfl (.cons rfl (.cons rfl (.cons rfl (.cons rfl (.cons (zl (Eq.symm zid)) (.cons (zl (and_r zid)) .nil)))))))))
  ·have zie:=hb'; clear hb'
   refine WD.pin (i:=90) rfl zie ?_
   refine WD.skip (i:=21) (d:=91) (by kernel_rfl) rfl (z6 (by kernel_rfl)) (z7 (by kernel_rfl)) rfl rfl rfl ?_
   refine WD.skip (i:=22) (d:=92) (by kernel_rfl) rfl (z6 (by kernel_rfl)) (z7 (by kernel_rfl)) rfl rfl rfl ?_
   refine WD.skip (i:=23) (d:=93) (by kernel_rfl) rfl (z6 (by kernel_rfl)) (z7 (by kernel_rfl)) rfl rfl rfl ?_
   refine WD.pure (i:=24) (d:=94) (by kernel_rfl) rfl (z6 (by kernel_rfl)) (z7 (by kernel_rfl)) rfl rfl rfl (fun _=>q_pickF rfl rfl) ?_
   refine WD.reL (.cons .here (.cons .here (.cons .here (.cons .here (.cons .here (.cons .here (.cons .here (.cons .here (.cons .here .nil))))))))) ?_ zmW
   exact (.cons rfl (.cons rfl (.cons rfl (.cons rfl (.cons rfl (.cons rfl (.cons rfl (.cons (zl (Eq.symm zie)) (.cons (zl (and_l zie)) .nil)))))))))
 refine WD.relist #[true,true,true,true,true,true,true,true,true,true,true,true,true,true,true,true,true,true,true,true,true,true,true,true,true,false,false,false,false,false,false,false,false,false,false,false,false,false,false,false,false,false,false,false,false,false,false,false,false,false,false,false,false,false,false,false,false,false,false,false,false,false,false,false,false,false,false,false,false,false] (by kernel_rfl) ?_
 refine WD.pure (i:=25) (d:=95) (by kernel_rfl) rfl (z6 (by kernel_rfl)) (z7 (by kernel_rfl)) rfl rfl rfl (fun _=>q_move rfl) ?_
 refine WD.mid (fuel':=38) [(0,(.bool false)),(7,(.pointer (some ⟨z10,0,none⟩))),(9,(.pointer (some ⟨z18,0,none⟩))),(11,(.slice z19 zq.1.length z1a)),(13,(.slice z1n zs.1.length z1o)),(15,(.pointer (some ⟨z1I,0,none⟩))),(95,(.bool (z9X && (decide (((zf.1.length : Nat) : Int) = 1))))),(101,(.bool zdK))] (listedA 70 [31,30,29,28,27,26,25,24,23,22,21,20,19,18,17,16,15,14,13,12,11,10,9,8,7,6,5,4,3,2,1,0]) ?_ (fun zmX=>?_)
 rotate_left
 ·rcases Bool.eq_false_or_eq_true (z9X && (decide (((zf.1.length : Nat) : Int) = 1))) with hb' | hb'
  ·have zif:=hb'; clear hb'
   have zaO:=ite_t zmP zif
   obtain ⟨zdP,zaO⟩:=chk_elim zaO
   obtain ⟨zfe,zt3,zaO⟩:=zb zaO
   replace zaO:=Option.some.inj zaO
   refine WD.pin (i:=95) rfl zif ?_
   refine WD.pure (i:=26) (d:=96) (by kernel_rfl) rfl (z6 (by kernel_rfl)) (z7 (by kernel_rfl)) rfl rfl rfl (fun _=>q_move rfl) ?_
   refine WD.know (fun w hw=>Hp.expose (.there (.there (.there (.there (.there (.there .here)))))) hw (by intro hz'; have:=zdP; rw [hz'] at this; omega)) ?_
   rintro ⟨zmY,rfl⟩
   refine WD.pure (i:=27) (d:=97) (by kernel_rfl) rfl (z6 (by kernel_rfl)) (z7 (by kernel_rfl)) rfl rfl rfl (fun _=>q_indexAddr elT_44 rfl rfl zdP.1 zdP.2 rowAdd) ?_
   refine WD.quiet (i:=28) (d:=98) (by kernel_rfl) rfl (z6 (by kernel_rfl)) (z7 (by kernel_rfl)) rfl rfl rfl (q_loadA (cs:=(e28 (nth zf.1 0))) aggT_28 rfl rfl (rd_rows (.there (.there (.there (.there (.there (.there .here)))))) (flat_rd (enc:=e28) (l:=zf.1) (i:=0) (sz:=2) (fun _=>rfl) zdP.1 zdP.2))) ?_
   refine WD.enter (i:=29) (d:=99) (by kernel_rfl) rfl (z6 (by kernel_rfl)) (z7 (by kernel_rfl)) rfl rfl rfl (zg (l:=[.const (.int .i64 40),.const (.int .i64 3)]) Try.call22 (.cons rfl (.cons rfl .nil))) (fun w hw=>by have pz:=(hz.call2 hw (.nil : Sel [stb z1I 28 [(.int .i64 zx.1.fN),(.int .i64 zx.1.fD)],fz (z1B ++ z1K),row (.slice z1n zs.1.length z1o) 42 4 (zs.1.flatMap e42),row (.slice z19 zq.1.length z1a) 42 4 (zq.1.flatMap e42),stb z18 28 [(.int .i64 zp.1.fN),(.int .i64 zp.1.fD)],stb z10 28 [(.int .i64 zj.1.fN),(.int .i64 zj.1.fD)],row (.slice (some ⟨zmY,0,none⟩) zf.1.length zP) 28 2 (zf.1.flatMap e28),row (.slice zB ze.1.length zC) 42 4 (ze.1.flatMap e42),stb zy 28 [(.int .i64 za.fN),(.int .i64 za.fD)]] [] [stb z1I 28 [(.int .i64 zx.1.fN),(.int .i64 zx.1.fD)],fz (z1B ++ z1K),row (.slice z1n zs.1.length z1o) 42 4 (zs.1.flatMap e42),row (.slice z19 zq.1.length z1a) 42 4 (zq.1.flatMap e42),stb z18 28 [(.int .i64 zp.1.fN),(.int .i64 zp.1.fD)],stb z10 28 [(.int .i64 zj.1.fN),(.int .i64 zj.1.fD)],row (.slice (some ⟨zmY,0,none⟩) zf.1.length zP) 28 2 (zf.1.flatMap e28),row (.slice zB ze.1.length zC) 42 4 (ze.1.flatMap e42),stb zy 28 [(.int .i64 za.fN),(.int .i64 za.fD)]]) (.there .here)); exact w_law02_num (Z:=_)  (z37:=40) (z38:=3) (r:=zfe) w pz  zt3) ?_
   refine WD.pure (i:=30) (d:=100) (by kernel_rfl) rfl (z6 (by kernel_rfl)) (z7 (by kernel_rfl)) rfl rfl rfl (fun _=>q_aggeql (enc:=e28) (a:=(⟨((nth zf.1 0).fN),((nth zf.1 0).fD)⟩ : z2)) (b:=zfe) eqT_28 rfl rfl) ?_
   refine WD.pure (i:=31) (d:=101) (by kernel_rfl) rfl (z6 (by kernel_rfl)) (z7 (by kernel_rfl)) rfl rfl rfl (fun _=>q_pickT rfl rfl) ?_
   refine WD.reL (.cons .here (.cons .here (.cons .here (.cons .here (.cons .here (.cons .here (.cons .here (.cons .here (.cons .here .nil))))))))) ?_ zmX
   exact (.cons rfl (.cons rfl (.cons rfl (.cons rfl (.cons rfl (.cons rfl (.cons (zl (Eq.symm zif)) (.cons (zl zaO) .nil))))))))
  ·have zig:=hb'; clear hb'
   have zih:=ite_f zmP zig
   replace zih:=Option.some.inj zih
   refine WD.pin (i:=95) rfl zig ?_
   refine WD.skip (i:=26) (d:=96) (by kernel_rfl) rfl (z6 (by kernel_rfl)) (z7 (by kernel_rfl)) rfl rfl rfl ?_
   refine WD.skip (i:=27) (d:=97) (by kernel_rfl) rfl (z6 (by kernel_rfl)) (z7 (by kernel_rfl)) rfl rfl rfl ?_
   refine WD.skip (i:=28) (d:=98) (by kernel_rfl) rfl (z6 (by kernel_rfl)) (z7 (by kernel_rfl)) rfl rfl rfl ?_
   refine WD.skip (i:=29) (d:=99) (by kernel_rfl) rfl (z6 (by kernel_rfl)) (z7 (by kernel_rfl)) rfl rfl rfl ?_
   refine WD.skip (i:=30) (d:=100) (by kernel_rfl) rfl (z6 (by kernel_rfl)) (z7 (by kernel_rfl)) rfl rfl rfl ?_
   refine WD.pure (i:=31) (d:=101) (by kernel_rfl) rfl (z6 (by kernel_rfl)) (z7 (by kernel_rfl)) rfl rfl rfl (fun _=>q_pickF rfl rfl) ?_
   refine WD.reL (.cons .here (.cons .here (.cons .here (.cons .here (.cons .here (.cons .here (.cons .here (.cons .here (.cons .here .nil))))))))) ?_ zmX
   exact (.cons rfl (.cons rfl (.cons rfl (.cons rfl (.cons rfl (.cons rfl (.cons (zl (Eq.symm zig)) (.cons (zl zih) .nil))))))))
 refine WD.relist #[true,true,true,true,true,true,true,true,true,true,true,true,true,true,true,true,true,true,true,true,true,true,true,true,true,true,true,true,true,true,true,true,false,false,false,false,false,false,false,false,false,false,false,false,false,false,false,false,false,false,false,false,false,false,false,false,false,false,false,false,false,false,false,false,false,false,false,false,false,false] (by kernel_rfl) ?_
 refine WD.pure (i:=32) (d:=102) (by kernel_rfl) rfl (z6 (by kernel_rfl)) (z7 (by kernel_rfl)) rfl rfl rfl (fun _=>q_move rfl) ?_
 refine WD.mid (fuel':=33) [(0,(.bool false)),(9,(.pointer (some ⟨z18,0,none⟩))),(11,(.slice z19 zq.1.length z1a)),(13,(.slice z1n zs.1.length z1o)),(15,(.pointer (some ⟨z1I,0,none⟩))),(102,(.bool zdK)),(106,(.bool zdL))] (listedA 70 [36,35,34,33,32,31,30,29,28,27,26,25,24,23,22,21,20,19,18,17,16,15,14,13,12,11,10,9,8,7,6,5,4,3,2,1,0]) ?_ (fun zmZ=>?_)
 rotate_left
 ·rcases Bool.eq_false_or_eq_true zdK with hb' | hb'
  ·have zii:=hb'; clear hb'
   have zdQ:=ite_t zmQ zii
   obtain ⟨zff,zt4,zdQ⟩:=zb zdQ
   replace zdQ:=Option.some.inj zdQ
   refine WD.pin (i:=102) rfl zii ?_
   refine WD.quiet (i:=33) (d:=103) (by kernel_rfl) rfl (z6 (by kernel_rfl)) (z7 (by kernel_rfl)) rfl rfl rfl (q_loadA (cs:=[(.int .i64 zj.1.fN),(.int .i64 zj.1.fD)]) aggT_28 rfl rfl (rd_all (.there (.there (.there (.there (.there .here))))))) ?_
   refine WD.enter (i:=34) (d:=104) (by kernel_rfl) rfl (z6 (by kernel_rfl)) (z7 (by kernel_rfl)) rfl rfl rfl (zg (l:=[.const (.int .i64 20),.const (.int .i64 1)]) Try.call22 (.cons rfl (.cons rfl .nil))) (fun w hw=>by have pz:=(hz.call2 hw (.nil : Sel [stb z1I 28 [(.int .i64 zx.1.fN),(.int .i64 zx.1.fD)],fz (z1B ++ z1K),row (.slice z1n zs.1.length z1o) 42 4 (zs.1.flatMap e42),row (.slice z19 zq.1.length z1a) 42 4 (zq.1.flatMap e42),stb z18 28 [(.int .i64 zp.1.fN),(.int .i64 zp.1.fD)],stb z10 28 [(.int .i64 zj.1.fN),(.int .i64 zj.1.fD)],row (.slice zR zf.1.length zP) 28 2 (zf.1.flatMap e28),row (.slice zB ze.1.length zC) 42 4 (ze.1.flatMap e42),stb zy 28 [(.int .i64 za.fN),(.int .i64 za.fD)]] [] [stb z1I 28 [(.int .i64 zx.1.fN),(.int .i64 zx.1.fD)],fz (z1B ++ z1K),row (.slice z1n zs.1.length z1o) 42 4 (zs.1.flatMap e42),row (.slice z19 zq.1.length z1a) 42 4 (zq.1.flatMap e42),stb z18 28 [(.int .i64 zp.1.fN),(.int .i64 zp.1.fD)],stb z10 28 [(.int .i64 zj.1.fN),(.int .i64 zj.1.fD)],row (.slice zR zf.1.length zP) 28 2 (zf.1.flatMap e28),row (.slice zB ze.1.length zC) 42 4 (ze.1.flatMap e42),stb zy 28 [(.int .i64 za.fN),(.int .i64 za.fD)]]) (.there .here)); exact w_law02_num (Z:=_)  (z37:=20) (z38:=1) (r:=zff) w pz  zt4) ?_
   refine WD.pure (i:=35) (d:=105) (by kernel_rfl) rfl (z6 (by kernel_rfl)) (z7 (by kernel_rfl)) rfl rfl rfl (fun _=>q_aggeql (enc:=e28) (a:=zj.1) (b:=zff) eqT_28 rfl rfl) ?_
   refine WD.pure (i:=36) (d:=106) (by kernel_rfl) rfl (z6 (by kernel_rfl)) (z7 (by kernel_rfl)) rfl rfl rfl (fun _=>q_pickT rfl rfl) ?_
   refine WD.reL (.cons .here (.cons .here (.cons .here (.cons .here (.cons .here (.cons .here (.cons .here (.cons .here (.cons .here .nil))))))))) ?_ zmZ
   exact (.cons rfl (.cons rfl (.cons rfl (.cons rfl (.cons rfl (.cons (zl (Eq.symm zii)) (.cons (zl zdQ) .nil)))))))
  ·have zij:=hb'; clear hb'
   have zik:=ite_f zmQ zij
   replace zik:=Option.some.inj zik
   refine WD.pin (i:=102) rfl zij ?_
   refine WD.skip (i:=33) (d:=103) (by kernel_rfl) rfl (z6 (by kernel_rfl)) (z7 (by kernel_rfl)) rfl rfl rfl ?_
   refine WD.skip (i:=34) (d:=104) (by kernel_rfl) rfl (z6 (by kernel_rfl)) (z7 (by kernel_rfl)) rfl rfl rfl ?_
   refine WD.skip (i:=35) (d:=105) (by kernel_rfl) rfl (z6 (by kernel_rfl)) (z7 (by kernel_rfl)) rfl rfl rfl ?_
   refine WD.pure (i:=36) (d:=106) (by kernel_rfl) rfl (z6 (by kernel_rfl)) (z7 (by kernel_rfl)) rfl rfl rfl (fun _=>q_pickF rfl rfl) ?_
   refine WD.reL (.cons .here (.cons .here (.cons .here (.cons .here (.cons .here (.cons .here (.cons .here (.cons .here (.cons .here .nil))))))))) ?_ zmZ
   exact (.cons rfl (.cons rfl (.cons rfl (.cons rfl (.cons rfl (.cons (zl (Eq.symm zij)) (.cons (zl zik) .nil)))))))
 refine WD.relist #[true,true,true,true,true,true,true,true,true,true,true,true,true,true,true,true,true,true,true,true,true,true,true,true,true,true,true,true,true,true,true,true,true,true,true,true,true,false,false,false,false,false,false,false,false,false,false,false,false,false,false,false,false,false,false,false,false,false,false,false,false,false,false,false,false,false,false,false,false,false] (by kernel_rfl) ?_
 refine WD.pure (i:=37) (d:=107) (by kernel_rfl) rfl (z6 (by kernel_rfl)) (z7 (by kernel_rfl)) rfl rfl rfl (fun _=>q_move rfl) ?_
 refine WD.mid (fuel':=28) [(0,(.bool false)),(11,(.slice z19 zq.1.length z1a)),(13,(.slice z1n zs.1.length z1o)),(15,(.pointer (some ⟨z1I,0,none⟩))),(107,(.bool zdL)),(111,(.bool zdM))] (listedA 70 [41,40,39,38,37,36,35,34,33,32,31,30,29,28,27,26,25,24,23,22,21,20,19,18,17,16,15,14,13,12,11,10,9,8,7,6,5,4,3,2,1,0]) ?_ (fun zn0=>?_)
 rotate_left
 ·rcases Bool.eq_false_or_eq_true zdL with hb' | hb'
  ·have zil:=hb'; clear hb'
   have zdR:=ite_t zmR zil
   obtain ⟨zfg,zt5,zdR⟩:=zb zdR
   replace zdR:=Option.some.inj zdR
   refine WD.pin (i:=107) rfl zil ?_
   refine WD.quiet (i:=38) (d:=108) (by kernel_rfl) rfl (z6 (by kernel_rfl)) (z7 (by kernel_rfl)) rfl rfl rfl (q_loadA (cs:=[(.int .i64 zp.1.fN),(.int .i64 zp.1.fD)]) aggT_28 rfl rfl (rd_all (.there (.there (.there (.there .here)))))) ?_
   refine WD.enter (i:=39) (d:=109) (by kernel_rfl) rfl (z6 (by kernel_rfl)) (z7 (by kernel_rfl)) rfl rfl rfl (zg (l:=[.const (.int .i64 40),.const (.int .i64 1)]) Try.call22 (.cons rfl (.cons rfl .nil))) (fun w hw=>by have pz:=(hz.call2 hw (.nil : Sel [stb z1I 28 [(.int .i64 zx.1.fN),(.int .i64 zx.1.fD)],fz (z1B ++ z1K),row (.slice z1n zs.1.length z1o) 42 4 (zs.1.flatMap e42),row (.slice z19 zq.1.length z1a) 42 4 (zq.1.flatMap e42),stb z18 28 [(.int .i64 zp.1.fN),(.int .i64 zp.1.fD)],stb z10 28 [(.int .i64 zj.1.fN),(.int .i64 zj.1.fD)],row (.slice zR zf.1.length zP) 28 2 (zf.1.flatMap e28),row (.slice zB ze.1.length zC) 42 4 (ze.1.flatMap e42),stb zy 28 [(.int .i64 za.fN),(.int .i64 za.fD)]] [] [stb z1I 28 [(.int .i64 zx.1.fN),(.int .i64 zx.1.fD)],fz (z1B ++ z1K),row (.slice z1n zs.1.length z1o) 42 4 (zs.1.flatMap e42),row (.slice z19 zq.1.length z1a) 42 4 (zq.1.flatMap e42),stb z18 28 [(.int .i64 zp.1.fN),(.int .i64 zp.1.fD)],stb z10 28 [(.int .i64 zj.1.fN),(.int .i64 zj.1.fD)],row (.slice zR zf.1.length zP) 28 2 (zf.1.flatMap e28),row (.slice zB ze.1.length zC) 42 4 (ze.1.flatMap e42),stb zy 28 [(.int .i64 za.fN),(.int .i64 za.fD)]]) (.there .here)); exact w_law02_num (Z:=_)  (z37:=40) (z38:=1) (r:=zfg) w pz  zt5) ?_
   refine WD.pure (i:=40) (d:=110) (by kernel_rfl) rfl (z6 (by kernel_rfl)) (z7 (by kernel_rfl)) rfl rfl rfl (fun _=>q_aggeql (enc:=e28) (a:=zp.1) (b:=zfg) eqT_28 rfl rfl) ?_
   refine WD.pure (i:=41) (d:=111) (by kernel_rfl) rfl (z6 (by kernel_rfl)) (z7 (by kernel_rfl)) rfl rfl rfl (fun _=>q_pickT rfl rfl) ?_
   refine WD.reL (.cons .here (.cons .here (.cons .here (.cons .here (.cons .here (.cons .here (.cons .here (.cons .here (.cons .here .nil))))))))) ?_ zn0
   exact (.cons rfl (.cons rfl (.cons rfl (.cons rfl (.cons (zl (Eq.symm zil)) (.cons (zl zdR) .nil))))))
  ·have zim:=hb'; clear hb'
   have zin:=ite_f zmR zim
   replace zin:=Option.some.inj zin
   refine WD.pin (i:=107) rfl zim ?_
   refine WD.skip (i:=38) (d:=108) (by kernel_rfl) rfl (z6 (by kernel_rfl)) (z7 (by kernel_rfl)) rfl rfl rfl ?_
   refine WD.skip (i:=39) (d:=109) (by kernel_rfl) rfl (z6 (by kernel_rfl)) (z7 (by kernel_rfl)) rfl rfl rfl ?_
   refine WD.skip (i:=40) (d:=110) (by kernel_rfl) rfl (z6 (by kernel_rfl)) (z7 (by kernel_rfl)) rfl rfl rfl ?_
   refine WD.pure (i:=41) (d:=111) (by kernel_rfl) rfl (z6 (by kernel_rfl)) (z7 (by kernel_rfl)) rfl rfl rfl (fun _=>q_pickF rfl rfl) ?_
   refine WD.reL (.cons .here (.cons .here (.cons .here (.cons .here (.cons .here (.cons .here (.cons .here (.cons .here (.cons .here .nil))))))))) ?_ zn0
   exact (.cons rfl (.cons rfl (.cons rfl (.cons rfl (.cons (zl (Eq.symm zim)) (.cons (zl zin) .nil))))))
 refine WD.relist #[true,true,true,true,true,true,true,true,true,true,true,true,true,true,true,true,true,true,true,true,true,true,true,true,true,true,true,true,true,true,true,true,true,true,true,true,true,true,true,true,true,true,false,false,false,false,false,false,false,false,false,false,false,false,false,false,false,false,false,false,false,false,false,false,false,false,false,false,false,false] (by kernel_rfl) ?_
 refine WD.pure (i:=42) (d:=112) (by kernel_rfl) rfl (z6 (by kernel_rfl)) (z7 (by kernel_rfl)) rfl rfl rfl (fun _=>q_move rfl) ?_
 refine WD.mid (fuel':=17) [(0,(.bool false)),(13,(.slice z1n zs.1.length z1o)),(15,(.pointer (some ⟨z1I,0,none⟩))),(112,(.bool zdM)),(122,(.bool zdN))] (listedA 70 [52,51,50,49,48,47,46,45,44,43,42,41,40,39,38,37,36,35,34,33,32,31,30,29,28,27,26,25,24,23,22,21,20,19,18,17,16,15,14,13,12,11,10,9,8,7,6,5,4,3,2,1,0]) ?_ (fun zn1=>?_)
 rotate_left
 ·rcases Bool.eq_false_or_eq_true zdM with hb' | hb'
  ·have zio:=hb'; clear hb'
   have z5J:=ite_t zmS zio
   obtain ⟨zfh,zt6,z5J⟩:=zb z5J
   obtain ⟨zfi,zt7,z5J⟩:=zb z5J
   obtain ⟨z2S,zt8,z5J⟩:=zb z5J
   obtain ⟨zfj,zt9,z5J⟩:=zb z5J
   obtain ⟨zfk,zta,z5J⟩:=zb z5J
   obtain ⟨z2T,ztb,z5J⟩:=zb z5J
   obtain ⟨zi6,ztc,z5J⟩:=zb z5J
   replace z5J:=Option.some.inj z5J
   refine WD.pin (i:=112) rfl zio ?_
   refine WD.pure (i:=43) (d:=113) (by kernel_rfl) rfl (z6 (by kernel_rfl)) (z7 (by kernel_rfl)) rfl rfl rfl (fun _=>q_move rfl) ?_
   refine WD.enter (i:=44) (d:=114) (by kernel_rfl) rfl (z6 (by kernel_rfl)) (z7 (by kernel_rfl)) rfl rfl rfl (zg (l:=[.const (.int .i64 20),.const (.int .i64 1)]) Try.call22 (.cons rfl (.cons rfl .nil))) (fun w hw=>by have pz:=(hz.call2 hw (.nil : Sel [stb z1I 28 [(.int .i64 zx.1.fN),(.int .i64 zx.1.fD)],fz (z1B ++ z1K),row (.slice z1n zs.1.length z1o) 42 4 (zs.1.flatMap e42),row (.slice z19 zq.1.length z1a) 42 4 (zq.1.flatMap e42),stb z18 28 [(.int .i64 zp.1.fN),(.int .i64 zp.1.fD)],stb z10 28 [(.int .i64 zj.1.fN),(.int .i64 zj.1.fD)],row (.slice zR zf.1.length zP) 28 2 (zf.1.flatMap e28),row (.slice zB ze.1.length zC) 42 4 (ze.1.flatMap e42),stb zy 28 [(.int .i64 za.fN),(.int .i64 za.fD)]] [] [stb z1I 28 [(.int .i64 zx.1.fN),(.int .i64 zx.1.fD)],fz (z1B ++ z1K),row (.slice z1n zs.1.length z1o) 42 4 (zs.1.flatMap e42),row (.slice z19 zq.1.length z1a) 42 4 (zq.1.flatMap e42),stb z18 28 [(.int .i64 zp.1.fN),(.int .i64 zp.1.fD)],stb z10 28 [(.int .i64 zj.1.fN),(.int .i64 zj.1.fD)],row (.slice zR zf.1.length zP) 28 2 (zf.1.flatMap e28),row (.slice zB ze.1.length zC) 42 4 (ze.1.flatMap e42),stb zy 28 [(.int .i64 za.fN),(.int .i64 za.fD)]]) (.there .here)); exact w_law02_num (Z:=_)  (z37:=20) (z38:=1) (r:=zfh) w pz  zt6) ?_
   refine WD.enter (i:=45) (d:=115) (by kernel_rfl) rfl (z6 (by kernel_rfl)) (z7 (by kernel_rfl)) rfl rfl rfl (zg (l:=[.const (.int .i64 2),.const (.int .i64 1)]) Try.call22 (.cons rfl (.cons rfl .nil))) (fun w hw=>by have pz:=(hz.call2 hw (.nil : Sel [stb z1I 28 [(.int .i64 zx.1.fN),(.int .i64 zx.1.fD)],fz (z1B ++ z1K),row (.slice z1n zs.1.length z1o) 42 4 (zs.1.flatMap e42),row (.slice z19 zq.1.length z1a) 42 4 (zq.1.flatMap e42),stb z18 28 [(.int .i64 zp.1.fN),(.int .i64 zp.1.fD)],stb z10 28 [(.int .i64 zj.1.fN),(.int .i64 zj.1.fD)],row (.slice zR zf.1.length zP) 28 2 (zf.1.flatMap e28),row (.slice zB ze.1.length zC) 42 4 (ze.1.flatMap e42),stb zy 28 [(.int .i64 za.fN),(.int .i64 za.fD)]] [] [stb z1I 28 [(.int .i64 zx.1.fN),(.int .i64 zx.1.fD)],fz (z1B ++ z1K),row (.slice z1n zs.1.length z1o) 42 4 (zs.1.flatMap e42),row (.slice z19 zq.1.length z1a) 42 4 (zq.1.flatMap e42),stb z18 28 [(.int .i64 zp.1.fN),(.int .i64 zp.1.fD)],stb z10 28 [(.int .i64 zj.1.fN),(.int .i64 zj.1.fD)],row (.slice zR zf.1.length zP) 28 2 (zf.1.flatMap e28),row (.slice zB ze.1.length zC) 42 4 (ze.1.flatMap e42),stb zy 28 [(.int .i64 za.fN),(.int .i64 za.fD)]]) (.there .here)); exact w_law02_num (Z:=_)  (z37:=2) (z38:=1) (r:=zfi) w pz  zt7) ?_
   refine WD.enter (i:=46) (d:=116) (by kernel_rfl) rfl (z6 (by kernel_rfl)) (z7 (by kernel_rfl)) rfl rfl rfl (zg (l:=[.tmp 114,.tmp 115]) Try.call43 (.cons rfl (.cons rfl .nil))) (fun w hw=>by have pz:=(hz.call2 hw (.nil : Sel [stb z1I 28 [(.int .i64 zx.1.fN),(.int .i64 zx.1.fD)],fz (z1B ++ z1K),row (.slice z1n zs.1.length z1o) 42 4 (zs.1.flatMap e42),row (.slice z19 zq.1.length z1a) 42 4 (zq.1.flatMap e42),stb z18 28 [(.int .i64 zp.1.fN),(.int .i64 zp.1.fD)],stb z10 28 [(.int .i64 zj.1.fN),(.int .i64 zj.1.fD)],row (.slice zR zf.1.length zP) 28 2 (zf.1.flatMap e28),row (.slice zB ze.1.length zC) 42 4 (ze.1.flatMap e42),stb zy 28 [(.int .i64 za.fN),(.int .i64 za.fD)]] [] [stb z1I 28 [(.int .i64 zx.1.fN),(.int .i64 zx.1.fD)],fz (z1B ++ z1K),row (.slice z1n zs.1.length z1o) 42 4 (zs.1.flatMap e42),row (.slice z19 zq.1.length z1a) 42 4 (zq.1.flatMap e42),stb z18 28 [(.int .i64 zp.1.fN),(.int .i64 zp.1.fD)],stb z10 28 [(.int .i64 zj.1.fN),(.int .i64 zj.1.fD)],row (.slice zR zf.1.length zP) 28 2 (zf.1.flatMap e28),row (.slice zB ze.1.length zC) 42 4 (ze.1.flatMap e42),stb zy 28 [(.int .i64 za.fN),(.int .i64 za.fD)]]) (.there .here)); exact w_law02_bucket (Z:=_)  (z3L:=zfh) (z3M:=zfi) (r:=z2S) w pz  zt8) ?_
   refine WD.enter (i:=47) (d:=117) (by kernel_rfl) rfl (z6 (by kernel_rfl)) (z7 (by kernel_rfl)) rfl rfl rfl (zg (l:=[.const (.int .i64 65),.const (.int .i64 2)]) Try.call22 (.cons rfl (.cons rfl .nil))) (fun w hw=>by have pz:=(hz.call2 hw (.nil : Sel [stb z1I 28 [(.int .i64 zx.1.fN),(.int .i64 zx.1.fD)],fz (z1B ++ z1K),row (.slice z1n zs.1.length z1o) 42 4 (zs.1.flatMap e42),row (.slice z19 zq.1.length z1a) 42 4 (zq.1.flatMap e42),stb z18 28 [(.int .i64 zp.1.fN),(.int .i64 zp.1.fD)],stb z10 28 [(.int .i64 zj.1.fN),(.int .i64 zj.1.fD)],row (.slice zR zf.1.length zP) 28 2 (zf.1.flatMap e28),row (.slice zB ze.1.length zC) 42 4 (ze.1.flatMap e42),stb zy 28 [(.int .i64 za.fN),(.int .i64 za.fD)]] [] [stb z1I 28 [(.int .i64 zx.1.fN),(.int .i64 zx.1.fD)],fz (z1B ++ z1K),row (.slice z1n zs.1.length z1o) 42 4 (zs.1.flatMap e42),row (.slice z19 zq.1.length z1a) 42 4 (zq.1.flatMap e42),stb z18 28 [(.int .i64 zp.1.fN),(.int .i64 zp.1.fD)],stb z10 28 [(.int .i64 zj.1.fN),(.int .i64 zj.1.fD)],row (.slice zR zf.1.length zP) 28 2 (zf.1.flatMap e28),row (.slice zB ze.1.length zC) 42 4 (ze.1.flatMap e42),stb zy 28 [(.int .i64 za.fN),(.int .i64 za.fD)]]) (.there .here)); exact w_law02_num (Z:=_)  (z37:=65) (z38:=2) (r:=zfj) w pz  zt9) ?_
   refine WD.enter (i:=48) (d:=118) (by kernel_rfl) rfl (z6 (by kernel_rfl)) (z7 (by kernel_rfl)) rfl rfl rfl (zg (l:=[.const (.int .i64 1),.const (.int .i64 2)]) Try.call22 (.cons rfl (.cons rfl .nil))) (fun w hw=>by have pz:=(hz.call2 hw (.nil : Sel [stb z1I 28 [(.int .i64 zx.1.fN),(.int .i64 zx.1.fD)],fz (z1B ++ z1K),row (.slice z1n zs.1.length z1o) 42 4 (zs.1.flatMap e42),row (.slice z19 zq.1.length z1a) 42 4 (zq.1.flatMap e42),stb z18 28 [(.int .i64 zp.1.fN),(.int .i64 zp.1.fD)],stb z10 28 [(.int .i64 zj.1.fN),(.int .i64 zj.1.fD)],row (.slice zR zf.1.length zP) 28 2 (zf.1.flatMap e28),row (.slice zB ze.1.length zC) 42 4 (ze.1.flatMap e42),stb zy 28 [(.int .i64 za.fN),(.int .i64 za.fD)]] [] [stb z1I 28 [(.int .i64 zx.1.fN),(.int .i64 zx.1.fD)],fz (z1B ++ z1K),row (.slice z1n zs.1.length z1o) 42 4 (zs.1.flatMap e42),row (.slice z19 zq.1.length z1a) 42 4 (zq.1.flatMap e42),stb z18 28 [(.int .i64 zp.1.fN),(.int .i64 zp.1.fD)],stb z10 28 [(.int .i64 zj.1.fN),(.int .i64 zj.1.fD)],row (.slice zR zf.1.length zP) 28 2 (zf.1.flatMap e28),row (.slice zB ze.1.length zC) 42 4 (ze.1.flatMap e42),stb zy 28 [(.int .i64 za.fN),(.int .i64 za.fD)]]) (.there .here)); exact w_law02_num (Z:=_)  (z37:=1) (z38:=2) (r:=zfk) w pz  zta) ?_
   refine WD.enter (i:=49) (d:=119) (by kernel_rfl) rfl (z6 (by kernel_rfl)) (z7 (by kernel_rfl)) rfl rfl rfl (zg (l:=[.tmp 117,.tmp 118]) Try.call43 (.cons rfl (.cons rfl .nil))) (fun w hw=>by have pz:=(hz.call2 hw (.nil : Sel [stb z1I 28 [(.int .i64 zx.1.fN),(.int .i64 zx.1.fD)],fz (z1B ++ z1K),row (.slice z1n zs.1.length z1o) 42 4 (zs.1.flatMap e42),row (.slice z19 zq.1.length z1a) 42 4 (zq.1.flatMap e42),stb z18 28 [(.int .i64 zp.1.fN),(.int .i64 zp.1.fD)],stb z10 28 [(.int .i64 zj.1.fN),(.int .i64 zj.1.fD)],row (.slice zR zf.1.length zP) 28 2 (zf.1.flatMap e28),row (.slice zB ze.1.length zC) 42 4 (ze.1.flatMap e42),stb zy 28 [(.int .i64 za.fN),(.int .i64 za.fD)]] [] [stb z1I 28 [(.int .i64 zx.1.fN),(.int .i64 zx.1.fD)],fz (z1B ++ z1K),row (.slice z1n zs.1.length z1o) 42 4 (zs.1.flatMap e42),row (.slice z19 zq.1.length z1a) 42 4 (zq.1.flatMap e42),stb z18 28 [(.int .i64 zp.1.fN),(.int .i64 zp.1.fD)],stb z10 28 [(.int .i64 zj.1.fN),(.int .i64 zj.1.fD)],row (.slice zR zf.1.length zP) 28 2 (zf.1.flatMap e28),row (.slice zB ze.1.length zC) 42 4 (ze.1.flatMap e42),stb zy 28 [(.int .i64 za.fN),(.int .i64 za.fD)]]) (.there .here)); exact w_law02_bucket (Z:=_)  (z3L:=zfj) (z3M:=zfk) (r:=z2T) w pz  ztb) ?_
   refine WD.new (i:=50) (dd:=120) rfl (by kernel_rfl) rfl rfl rfl (e_buildSlice (cs:=([z2S,z2T] : List z1).flatMap e42) elT_25 (Eos.parts (l:=[.tmp 116,.tmp 119]) (.cons rfl (.cons rfl .nil)) [0,1]) (fun _=>by kernel_rfl) rfl (by unfold maxLen; omega)) (fun h'=>absurd h' (by decide)) ?_
   intro z6g _
   refine WD.enter (i:=51) (d:=121) (by kernel_rfl) rfl (z6 (by kernel_rfl)) (z7 (by kernel_rfl)) rfl rfl rfl (zg (l:=[.tmp 113,.tmp 120]) Try.call44 (.cons rfl (.cons rfl .nil))) (fun w hw=>by have pz:=(hz.call2 hw (.nil : Sel [row (.slice (some ⟨z6g,0,none⟩) (([z2S,z2T] : List z1).length) 2) 42 4 (([z2S,z2T] : List z1).flatMap e42),stb z1I 28 [(.int .i64 zx.1.fN),(.int .i64 zx.1.fD)],fz (z1B ++ z1K),row (.slice z1n zs.1.length z1o) 42 4 (zs.1.flatMap e42),row (.slice z19 zq.1.length z1a) 42 4 (zq.1.flatMap e42),stb z18 28 [(.int .i64 zp.1.fN),(.int .i64 zp.1.fD)],stb z10 28 [(.int .i64 zj.1.fN),(.int .i64 zj.1.fD)],row (.slice zR zf.1.length zP) 28 2 (zf.1.flatMap e28),row (.slice zB ze.1.length zC) 42 4 (ze.1.flatMap e42),stb zy 28 [(.int .i64 za.fN),(.int .i64 za.fD)]] [] [row (.slice (some ⟨z6g,0,none⟩) (([z2S,z2T] : List z1).length) 2) 42 4 (([z2S,z2T] : List z1).flatMap e42),stb z1I 28 [(.int .i64 zx.1.fN),(.int .i64 zx.1.fD)],fz (z1B ++ z1K),row (.slice z1n zs.1.length z1o) 42 4 (zs.1.flatMap e42),row (.slice z19 zq.1.length z1a) 42 4 (zq.1.flatMap e42),stb z18 28 [(.int .i64 zp.1.fN),(.int .i64 zp.1.fD)],stb z10 28 [(.int .i64 zj.1.fN),(.int .i64 zj.1.fD)],row (.slice zR zf.1.length zP) 28 2 (zf.1.flatMap e28),row (.slice zB ze.1.length zC) 42 4 (ze.1.flatMap e42),stb zy 28 [(.int .i64 za.fN),(.int .i64 za.fD)]]) (.there (.there .here))).lend hw (.nil : Sel [row (.slice (some ⟨z6g,0,none⟩) (([z2S,z2T] : List z1).length) 2) 42 4 (([z2S,z2T] : List z1).flatMap e42),stb z1I 28 [(.int .i64 zx.1.fN),(.int .i64 zx.1.fD)],fz (z1B ++ z1K),row (.slice z1n zs.1.length z1o) 42 4 (zs.1.flatMap e42),row (.slice z19 zq.1.length z1a) 42 4 (zq.1.flatMap e42),stb z18 28 [(.int .i64 zp.1.fN),(.int .i64 zp.1.fD)],stb z10 28 [(.int .i64 zj.1.fN),(.int .i64 zj.1.fD)],row (.slice zR zf.1.length zP) 28 2 (zf.1.flatMap e28),row (.slice zB ze.1.length zC) 42 4 (ze.1.flatMap e42),stb zy 28 [(.int .i64 za.fN),(.int .i64 za.fD)]] [] [row (.slice (some ⟨z6g,0,none⟩) (([z2S,z2T] : List z1).length) 2) 42 4 (([z2S,z2T] : List z1).flatMap e42),stb z1I 28 [(.int .i64 zx.1.fN),(.int .i64 zx.1.fD)],fz (z1B ++ z1K),row (.slice z1n zs.1.length z1o) 42 4 (zs.1.flatMap e42),row (.slice z19 zq.1.length z1a) 42 4 (zq.1.flatMap e42),stb z18 28 [(.int .i64 zp.1.fN),(.int .i64 zp.1.fD)],stb z10 28 [(.int .i64 zj.1.fN),(.int .i64 zj.1.fD)],row (.slice zR zf.1.length zP) 28 2 (zf.1.flatMap e28),row (.slice zB ze.1.length zC) 42 4 (ze.1.flatMap e42),stb zy 28 [(.int .i64 za.fN),(.int .i64 za.fD)]]) (B:=[row (.slice z19 zq.1.length z1a) 42 4 (zq.1.flatMap e42),row (.slice (some ⟨z6g,0,none⟩) (([z2S,z2T] : List z1).length) 2) 42 4 (([z2S,z2T] : List z1).flatMap e42)]) (fun _ hx'=>((.cons (.there (.there (.there (.there .here)))) (.cons .here .nil)) : Sel _ [row (.slice z19 zq.1.length z1a) 42 4 (zq.1.flatMap e42),row (.slice (some ⟨z6g,0,none⟩) (([z2S,z2T] : List z1).length) 2) 42 4 (([z2S,z2T] : List z1).flatMap e42)] _).mem hx'); exact w_ref02_Same (Z:=_) (z8Q:=z19) (z8R:=z1a) (z8S:=(some ⟨z6g,0,none⟩)) (z8T:=2) (z31:=zq.1) (z3c:=([z2S,z2T] : List z1)) (r:=zi6) w pz (ZA.row (hw.lent (.nil : Sel [row (.slice (some ⟨z6g,0,none⟩) (([z2S,z2T] : List z1).length) 2) 42 4 (([z2S,z2T] : List z1).flatMap e42),stb z1I 28 [(.int .i64 zx.1.fN),(.int .i64 zx.1.fD)],fz (z1B ++ z1K),row (.slice z1n zs.1.length z1o) 42 4 (zs.1.flatMap e42),row (.slice z19 zq.1.length z1a) 42 4 (zq.1.flatMap e42),stb z18 28 [(.int .i64 zp.1.fN),(.int .i64 zp.1.fD)],stb z10 28 [(.int .i64 zj.1.fN),(.int .i64 zj.1.fD)],row (.slice zR zf.1.length zP) 28 2 (zf.1.flatMap e28),row (.slice zB ze.1.length zC) 42 4 (ze.1.flatMap e42),stb zy 28 [(.int .i64 za.fN),(.int .i64 za.fD)]] [] [row (.slice (some ⟨z6g,0,none⟩) (([z2S,z2T] : List z1).length) 2) 42 4 (([z2S,z2T] : List z1).flatMap e42),stb z1I 28 [(.int .i64 zx.1.fN),(.int .i64 zx.1.fD)],fz (z1B ++ z1K),row (.slice z1n zs.1.length z1o) 42 4 (zs.1.flatMap e42),row (.slice z19 zq.1.length z1a) 42 4 (zq.1.flatMap e42),stb z18 28 [(.int .i64 zp.1.fN),(.int .i64 zp.1.fD)],stb z10 28 [(.int .i64 zj.1.fN),(.int .i64 zj.1.fD)],row (.slice zR zf.1.length zP) 28 2 (zf.1.flatMap e28),row (.slice zB ze.1.length zC) 42 4 (ze.1.flatMap e42),stb zy 28 [(.int .i64 za.fN),(.int .i64 za.fD)]]) (B:=[row (.slice z19 zq.1.length z1a) 42 4 (zq.1.flatMap e42),row (.slice (some ⟨z6g,0,none⟩) (([z2S,z2T] : List z1).length) 2) 42 4 (([z2S,z2T] : List z1).flatMap e42)]) (fun _ hx'=>((.cons (.there (.there (.there (.there .here)))) (.cons .here .nil)) : Sel _ [row (.slice z19 zq.1.length z1a) 42 4 (zq.1.flatMap e42),row (.slice (some ⟨z6g,0,none⟩) (([z2S,z2T] : List z1).length) 2) 42 4 (([z2S,z2T] : List z1).flatMap e42)] _).mem hx') (.head _) _) (RR.flat (enc:=e42) (fun _=>rfl) _) ⟨w,pz.1⟩) (ZA.row (hw.lent (.nil : Sel [row (.slice (some ⟨z6g,0,none⟩) (([z2S,z2T] : List z1).length) 2) 42 4 (([z2S,z2T] : List z1).flatMap e42),stb z1I 28 [(.int .i64 zx.1.fN),(.int .i64 zx.1.fD)],fz (z1B ++ z1K),row (.slice z1n zs.1.length z1o) 42 4 (zs.1.flatMap e42),row (.slice z19 zq.1.length z1a) 42 4 (zq.1.flatMap e42),stb z18 28 [(.int .i64 zp.1.fN),(.int .i64 zp.1.fD)],stb z10 28 [(.int .i64 zj.1.fN),(.int .i64 zj.1.fD)],row (.slice zR zf.1.length zP) 28 2 (zf.1.flatMap e28),row (.slice zB ze.1.length zC) 42 4 (ze.1.flatMap e42),stb zy 28 [(.int .i64 za.fN),(.int .i64 za.fD)]] [] [row (.slice (some ⟨z6g,0,none⟩) (([z2S,z2T] : List z1).length) 2) 42 4 (([z2S,z2T] : List z1).flatMap e42),stb z1I 28 [(.int .i64 zx.1.fN),(.int .i64 zx.1.fD)],fz (z1B ++ z1K),row (.slice z1n zs.1.length z1o) 42 4 (zs.1.flatMap e42),row (.slice z19 zq.1.length z1a) 42 4 (zq.1.flatMap e42),stb z18 28 [(.int .i64 zp.1.fN),(.int .i64 zp.1.fD)],stb z10 28 [(.int .i64 zj.1.fN),(.int .i64 zj.1.fD)],row (.slice zR zf.1.length zP) 28 2 (zf.1.flatMap e28),row (.slice zB ze.1.length zC) 42 4 (ze.1.flatMap e42),stb zy 28 [(.int .i64 za.fN),(.int .i64 za.fD)]]) (B:=[row (.slice z19 zq.1.length z1a) 42 4 (zq.1.flatMap e42),row (.slice (some ⟨z6g,0,none⟩) (([z2S,z2T] : List z1).length) 2) 42 4 (([z2S,z2T] : List z1).flatMap e42)]) (fun _ hx'=>((.cons (.there (.there (.there (.there .here)))) (.cons .here .nil)) : Sel _ [row (.slice z19 zq.1.length z1a) 42 4 (zq.1.flatMap e42),row (.slice (some ⟨z6g,0,none⟩) (([z2S,z2T] : List z1).length) 2) 42 4 (([z2S,z2T] : List z1).flatMap e42)] _).mem hx') (.tail _ (.head _)) _) (RR.flat (enc:=e42) (fun _=>rfl) _) ⟨w,pz.1⟩) ztc) ?_
   refine WD.pure (i:=52) (d:=122) (by kernel_rfl) rfl (z6 (by kernel_rfl)) (z7 (by kernel_rfl)) rfl rfl rfl (fun _=>q_pickT rfl rfl) ?_
   refine WD.reL (.cons (.there .here) (.cons (.there .here) (.cons (.there .here) (.cons (.there .here) (.cons (.there .here) (.cons (.there .here) (.cons (.there .here) (.cons (.there .here) (.cons (.there .here) .nil))))))))) ?_ zn1
   exact (.cons rfl (.cons rfl (.cons rfl (.cons (zl (Eq.symm zio)) (.cons (zl z5J) .nil)))))
  ·have ziq:=hb'; clear hb'
   have zir:=ite_f zmS ziq
   replace zir:=Option.some.inj zir
   refine WD.pin (i:=112) rfl ziq ?_
   refine WD.skip (i:=43) (d:=113) (by kernel_rfl) rfl (z6 (by kernel_rfl)) (z7 (by kernel_rfl)) rfl rfl rfl ?_
   refine WD.skip (i:=44) (d:=114) (by kernel_rfl) rfl (z6 (by kernel_rfl)) (z7 (by kernel_rfl)) rfl rfl rfl ?_
   refine WD.skip (i:=45) (d:=115) (by kernel_rfl) rfl (z6 (by kernel_rfl)) (z7 (by kernel_rfl)) rfl rfl rfl ?_
   refine WD.skip (i:=46) (d:=116) (by kernel_rfl) rfl (z6 (by kernel_rfl)) (z7 (by kernel_rfl)) rfl rfl rfl ?_
   refine WD.skip (i:=47) (d:=117) (by kernel_rfl) rfl (z6 (by kernel_rfl)) (z7 (by kernel_rfl)) rfl rfl rfl ?_
   refine WD.skip (i:=48) (d:=118) (by kernel_rfl) rfl (z6 (by kernel_rfl)) (z7 (by kernel_rfl)) rfl rfl rfl ?_
   refine WD.skip (i:=49) (d:=119) (by kernel_rfl) rfl (z6 (by kernel_rfl)) (z7 (by kernel_rfl)) rfl rfl rfl ?_
   refine WD.skip (i:=50) (d:=120) (by kernel_rfl) rfl (z6 (by kernel_rfl)) (z7 (by kernel_rfl)) rfl rfl rfl ?_
   refine WD.skip (i:=51) (d:=121) (by kernel_rfl) rfl (z6 (by kernel_rfl)) (z7 (by kernel_rfl)) rfl rfl rfl ?_
   refine WD.pure (i:=52) (d:=122) (by kernel_rfl) rfl (z6 (by kernel_rfl)) (z7 (by kernel_rfl)) rfl rfl rfl (fun _=>q_pickF rfl rfl) ?_
   refine WD.reL (.cons .here (.cons .here (.cons .here (.cons .here (.cons .here (.cons .here (.cons .here (.cons .here (.cons .here .nil))))))))) ?_ zn1
   exact (.cons rfl (.cons rfl (.cons rfl (.cons (zl (Eq.symm ziq)) (.cons (zl zir) .nil)))))
 refine WD.relist #[true,true,true,true,true,true,true,true,true,true,true,true,true,true,true,true,true,true,true,true,true,true,true,true,true,true,true,true,true,true,true,true,true,true,true,true,true,true,true,true,true,true,true,true,true,true,true,true,true,true,true,true,true,false,false,false,false,false,false,false,false,false,false,false,false,false,false,false,false,false] (by kernel_rfl) ?_
 refine WD.pure (i:=53) (d:=123) (by kernel_rfl) rfl (z6 (by kernel_rfl)) (z7 (by kernel_rfl)) rfl rfl rfl (fun _=>q_move rfl) ?_
 refine WD.mid (fuel':=6) [(0,(.bool false)),(15,(.pointer (some ⟨z1I,0,none⟩))),(123,(.bool zdN)),(133,(.bool zdO))] (listedA 70 [63,62,61,60,59,58,57,56,55,54,53,52,51,50,49,48,47,46,45,44,43,42,41,40,39,38,37,36,35,34,33,32,31,30,29,28,27,26,25,24,23,22,21,20,19,18,17,16,15,14,13,12,11,10,9,8,7,6,5,4,3,2,1,0]) ?_ (fun zn2=>?_)
 rotate_left
 ·rcases Bool.eq_false_or_eq_true zdN with hb' | hb'
  ·have zis:=hb'; clear hb'
   have z5K:=ite_t zmT zis
   obtain ⟨zfl,ztd,z5K⟩:=zb z5K
   obtain ⟨zfm,zte,z5K⟩:=zb z5K
   obtain ⟨z2U,ztf,z5K⟩:=zb z5K
   obtain ⟨zfn,ztg,z5K⟩:=zb z5K
   obtain ⟨zfo,zth,z5K⟩:=zb z5K
   obtain ⟨z2V,zti,z5K⟩:=zb z5K
   obtain ⟨zi7,ztj,z5K⟩:=zb z5K
   replace z5K:=Option.some.inj z5K
   refine WD.pin (i:=123) rfl zis ?_
   refine WD.pure (i:=54) (d:=124) (by kernel_rfl) rfl (z6 (by kernel_rfl)) (z7 (by kernel_rfl)) rfl rfl rfl (fun _=>q_move rfl) ?_
   refine WD.enter (i:=55) (d:=125) (by kernel_rfl) rfl (z6 (by kernel_rfl)) (z7 (by kernel_rfl)) rfl rfl rfl (zg (l:=[.const (.int .i64 15),.const (.int .i64 1)]) Try.call22 (.cons rfl (.cons rfl .nil))) (fun w hw=>by have pz:=(hz.call2 hw (.nil : Sel [stb z1I 28 [(.int .i64 zx.1.fN),(.int .i64 zx.1.fD)],fz (z1B ++ z1K),row (.slice z1n zs.1.length z1o) 42 4 (zs.1.flatMap e42),row (.slice z19 zq.1.length z1a) 42 4 (zq.1.flatMap e42),stb z18 28 [(.int .i64 zp.1.fN),(.int .i64 zp.1.fD)],stb z10 28 [(.int .i64 zj.1.fN),(.int .i64 zj.1.fD)],row (.slice zR zf.1.length zP) 28 2 (zf.1.flatMap e28),row (.slice zB ze.1.length zC) 42 4 (ze.1.flatMap e42),stb zy 28 [(.int .i64 za.fN),(.int .i64 za.fD)]] [] [stb z1I 28 [(.int .i64 zx.1.fN),(.int .i64 zx.1.fD)],fz (z1B ++ z1K),row (.slice z1n zs.1.length z1o) 42 4 (zs.1.flatMap e42),row (.slice z19 zq.1.length z1a) 42 4 (zq.1.flatMap e42),stb z18 28 [(.int .i64 zp.1.fN),(.int .i64 zp.1.fD)],stb z10 28 [(.int .i64 zj.1.fN),(.int .i64 zj.1.fD)],row (.slice zR zf.1.length zP) 28 2 (zf.1.flatMap e28),row (.slice zB ze.1.length zC) 42 4 (ze.1.flatMap e42),stb zy 28 [(.int .i64 za.fN),(.int .i64 za.fD)]]) (.there .here)); exact w_law02_num (Z:=_)  (z37:=15) (z38:=1) (r:=zfl) w pz  ztd) ?_
   refine WD.enter (i:=56) (d:=126) (by kernel_rfl) rfl (z6 (by kernel_rfl)) (z7 (by kernel_rfl)) rfl rfl rfl (zg (l:=[.const (.int .i64 3),.const (.int .i64 1)]) Try.call22 (.cons rfl (.cons rfl .nil))) (fun w hw=>by have pz:=(hz.call2 hw (.nil : Sel [stb z1I 28 [(.int .i64 zx.1.fN),(.int .i64 zx.1.fD)],fz (z1B ++ z1K),row (.slice z1n zs.1.length z1o) 42 4 (zs.1.flatMap e42),row (.slice z19 zq.1.length z1a) 42 4 (zq.1.flatMap e42),stb z18 28 [(.int .i64 zp.1.fN),(.int .i64 zp.1.fD)],stb z10 28 [(.int .i64 zj.1.fN),(.int .i64 zj.1.fD)],row (.slice zR zf.1.length zP) 28 2 (zf.1.flatMap e28),row (.slice zB ze.1.length zC) 42 4 (ze.1.flatMap e42),stb zy 28 [(.int .i64 za.fN),(.int .i64 za.fD)]] [] [stb z1I 28 [(.int .i64 zx.1.fN),(.int .i64 zx.1.fD)],fz (z1B ++ z1K),row (.slice z1n zs.1.length z1o) 42 4 (zs.1.flatMap e42),row (.slice z19 zq.1.length z1a) 42 4 (zq.1.flatMap e42),stb z18 28 [(.int .i64 zp.1.fN),(.int .i64 zp.1.fD)],stb z10 28 [(.int .i64 zj.1.fN),(.int .i64 zj.1.fD)],row (.slice zR zf.1.length zP) 28 2 (zf.1.flatMap e28),row (.slice zB ze.1.length zC) 42 4 (ze.1.flatMap e42),stb zy 28 [(.int .i64 za.fN),(.int .i64 za.fD)]]) (.there .here)); exact w_law02_num (Z:=_)  (z37:=3) (z38:=1) (r:=zfm) w pz  zte) ?_
   refine WD.enter (i:=57) (d:=127) (by kernel_rfl) rfl (z6 (by kernel_rfl)) (z7 (by kernel_rfl)) rfl rfl rfl (zg (l:=[.tmp 125,.tmp 126]) Try.call43 (.cons rfl (.cons rfl .nil))) (fun w hw=>by have pz:=(hz.call2 hw (.nil : Sel [stb z1I 28 [(.int .i64 zx.1.fN),(.int .i64 zx.1.fD)],fz (z1B ++ z1K),row (.slice z1n zs.1.length z1o) 42 4 (zs.1.flatMap e42),row (.slice z19 zq.1.length z1a) 42 4 (zq.1.flatMap e42),stb z18 28 [(.int .i64 zp.1.fN),(.int .i64 zp.1.fD)],stb z10 28 [(.int .i64 zj.1.fN),(.int .i64 zj.1.fD)],row (.slice zR zf.1.length zP) 28 2 (zf.1.flatMap e28),row (.slice zB ze.1.length zC) 42 4 (ze.1.flatMap e42),stb zy 28 [(.int .i64 za.fN),(.int .i64 za.fD)]] [] [stb z1I 28 [(.int .i64 zx.1.fN),(.int .i64 zx.1.fD)],fz (z1B ++ z1K),row (.slice z1n zs.1.length z1o) 42 4 (zs.1.flatMap e42),row (.slice z19 zq.1.length z1a) 42 4 (zq.1.flatMap e42),stb z18 28 [(.int .i64 zp.1.fN),(.int .i64 zp.1.fD)],stb z10 28 [(.int .i64 zj.1.fN),(.int .i64 zj.1.fD)],row (.slice zR zf.1.length zP) 28 2 (zf.1.flatMap e28),row (.slice zB ze.1.length zC) 42 4 (ze.1.flatMap e42),stb zy 28 [(.int .i64 za.fN),(.int .i64 za.fD)]]) (.there .here)); exact w_law02_bucket (Z:=_)  (z3L:=zfl) (z3M:=zfm) (r:=z2U) w pz  ztf) ?_
   refine WD.enter (i:=58) (d:=128) (by kernel_rfl) rfl (z6 (by kernel_rfl)) (z7 (by kernel_rfl)) rfl rfl rfl (zg (l:=[.const (.int .i64 35),.const (.int .i64 1)]) Try.call22 (.cons rfl (.cons rfl .nil))) (fun w hw=>by have pz:=(hz.call2 hw (.nil : Sel [stb z1I 28 [(.int .i64 zx.1.fN),(.int .i64 zx.1.fD)],fz (z1B ++ z1K),row (.slice z1n zs.1.length z1o) 42 4 (zs.1.flatMap e42),row (.slice z19 zq.1.length z1a) 42 4 (zq.1.flatMap e42),stb z18 28 [(.int .i64 zp.1.fN),(.int .i64 zp.1.fD)],stb z10 28 [(.int .i64 zj.1.fN),(.int .i64 zj.1.fD)],row (.slice zR zf.1.length zP) 28 2 (zf.1.flatMap e28),row (.slice zB ze.1.length zC) 42 4 (ze.1.flatMap e42),stb zy 28 [(.int .i64 za.fN),(.int .i64 za.fD)]] [] [stb z1I 28 [(.int .i64 zx.1.fN),(.int .i64 zx.1.fD)],fz (z1B ++ z1K),row (.slice z1n zs.1.length z1o) 42 4 (zs.1.flatMap e42),row (.slice z19 zq.1.length z1a) 42 4 (zq.1.flatMap e42),stb z18 28 [(.int .i64 zp.1.fN),(.int .i64 zp.1.fD)],stb z10 28 [(.int .i64 zj.1.fN),(.int .i64 zj.1.fD)],row (.slice zR zf.1.length zP) 28 2 (zf.1.flatMap e28),row (.slice zB ze.1.length zC) 42 4 (ze.1.flatMap e42),stb zy 28 [(.int .i64 za.fN),(.int .i64 za.fD)]]) (.there .here)); exact w_law02_num (Z:=_)  (z37:=35) (z38:=1) (r:=zfn) w pz  ztg) ?_
   refine WD.enter (i:=59) (d:=129) (by kernel_rfl) rfl (z6 (by kernel_rfl)) (z7 (by kernel_rfl)) rfl rfl rfl (zg (l:=[.const (.int .i64 3),.const (.int .i64 2)]) Try.call22 (.cons rfl (.cons rfl .nil))) (fun w hw=>by have pz:=(hz.call2 hw (.nil : Sel [stb z1I 28 [(.int .i64 zx.1.fN),(.int .i64 zx.1.fD)],fz (z1B ++ z1K),row (.slice z1n zs.1.length z1o) 42 4 (zs.1.flatMap e42),row (.slice z19 zq.1.length z1a) 42 4 (zq.1.flatMap e42),stb z18 28 [(.int .i64 zp.1.fN),(.int .i64 zp.1.fD)],stb z10 28 [(.int .i64 zj.1.fN),(.int .i64 zj.1.fD)],row (.slice zR zf.1.length zP) 28 2 (zf.1.flatMap e28),row (.slice zB ze.1.length zC) 42 4 (ze.1.flatMap e42),stb zy 28 [(.int .i64 za.fN),(.int .i64 za.fD)]] [] [stb z1I 28 [(.int .i64 zx.1.fN),(.int .i64 zx.1.fD)],fz (z1B ++ z1K),row (.slice z1n zs.1.length z1o) 42 4 (zs.1.flatMap e42),row (.slice z19 zq.1.length z1a) 42 4 (zq.1.flatMap e42),stb z18 28 [(.int .i64 zp.1.fN),(.int .i64 zp.1.fD)],stb z10 28 [(.int .i64 zj.1.fN),(.int .i64 zj.1.fD)],row (.slice zR zf.1.length zP) 28 2 (zf.1.flatMap e28),row (.slice zB ze.1.length zC) 42 4 (ze.1.flatMap e42),stb zy 28 [(.int .i64 za.fN),(.int .i64 za.fD)]]) (.there .here)); exact w_law02_num (Z:=_)  (z37:=3) (z38:=2) (r:=zfo) w pz  zth) ?_
   refine WD.enter (i:=60) (d:=130) (by kernel_rfl) rfl (z6 (by kernel_rfl)) (z7 (by kernel_rfl)) rfl rfl rfl (zg (l:=[.tmp 128,.tmp 129]) Try.call43 (.cons rfl (.cons rfl .nil))) (fun w hw=>by have pz:=(hz.call2 hw (.nil : Sel [stb z1I 28 [(.int .i64 zx.1.fN),(.int .i64 zx.1.fD)],fz (z1B ++ z1K),row (.slice z1n zs.1.length z1o) 42 4 (zs.1.flatMap e42),row (.slice z19 zq.1.length z1a) 42 4 (zq.1.flatMap e42),stb z18 28 [(.int .i64 zp.1.fN),(.int .i64 zp.1.fD)],stb z10 28 [(.int .i64 zj.1.fN),(.int .i64 zj.1.fD)],row (.slice zR zf.1.length zP) 28 2 (zf.1.flatMap e28),row (.slice zB ze.1.length zC) 42 4 (ze.1.flatMap e42),stb zy 28 [(.int .i64 za.fN),(.int .i64 za.fD)]] [] [stb z1I 28 [(.int .i64 zx.1.fN),(.int .i64 zx.1.fD)],fz (z1B ++ z1K),row (.slice z1n zs.1.length z1o) 42 4 (zs.1.flatMap e42),row (.slice z19 zq.1.length z1a) 42 4 (zq.1.flatMap e42),stb z18 28 [(.int .i64 zp.1.fN),(.int .i64 zp.1.fD)],stb z10 28 [(.int .i64 zj.1.fN),(.int .i64 zj.1.fD)],row (.slice zR zf.1.length zP) 28 2 (zf.1.flatMap e28),row (.slice zB ze.1.length zC) 42 4 (ze.1.flatMap e42),stb zy 28 [(.int .i64 za.fN),(.int .i64 za.fD)]]) (.there .here)); exact w_law02_bucket (Z:=_)  (z3L:=zfn) (z3M:=zfo) (r:=z2V) w pz  zti) ?_
   refine WD.new (i:=61) (dd:=131) rfl (by kernel_rfl) rfl rfl rfl (e_buildSlice (cs:=([z2U,z2V] : List z1).flatMap e42) elT_25 (Eos.parts (l:=[.tmp 127,.tmp 130]) (.cons rfl (.cons rfl .nil)) [0,1]) (fun _=>by kernel_rfl) rfl (by unfold maxLen; omega)) (fun h'=>absurd h' (by decide)) ?_
   intro z6h _
   refine WD.enter (i:=62) (d:=132) (by kernel_rfl) rfl (z6 (by kernel_rfl)) (z7 (by kernel_rfl)) rfl rfl rfl (zg (l:=[.tmp 124,.tmp 131]) Try.call44 (.cons rfl (.cons rfl .nil))) (fun w hw=>by have pz:=(hz.call2 hw (.nil : Sel [row (.slice (some ⟨z6h,0,none⟩) (([z2U,z2V] : List z1).length) 2) 42 4 (([z2U,z2V] : List z1).flatMap e42),stb z1I 28 [(.int .i64 zx.1.fN),(.int .i64 zx.1.fD)],fz (z1B ++ z1K),row (.slice z1n zs.1.length z1o) 42 4 (zs.1.flatMap e42),row (.slice z19 zq.1.length z1a) 42 4 (zq.1.flatMap e42),stb z18 28 [(.int .i64 zp.1.fN),(.int .i64 zp.1.fD)],stb z10 28 [(.int .i64 zj.1.fN),(.int .i64 zj.1.fD)],row (.slice zR zf.1.length zP) 28 2 (zf.1.flatMap e28),row (.slice zB ze.1.length zC) 42 4 (ze.1.flatMap e42),stb zy 28 [(.int .i64 za.fN),(.int .i64 za.fD)]] [] [row (.slice (some ⟨z6h,0,none⟩) (([z2U,z2V] : List z1).length) 2) 42 4 (([z2U,z2V] : List z1).flatMap e42),stb z1I 28 [(.int .i64 zx.1.fN),(.int .i64 zx.1.fD)],fz (z1B ++ z1K),row (.slice z1n zs.1.length z1o) 42 4 (zs.1.flatMap e42),row (.slice z19 zq.1.length z1a) 42 4 (zq.1.flatMap e42),stb z18 28 [(.int .i64 zp.1.fN),(.int .i64 zp.1.fD)],stb z10 28 [(.int .i64 zj.1.fN),(.int .i64 zj.1.fD)],row (.slice zR zf.1.length zP) 28 2 (zf.1.flatMap e28),row (.slice zB ze.1.length zC) 42 4 (ze.1.flatMap e42),stb zy 28 [(.int .i64 za.fN),(.int .i64 za.fD)]]) (.there (.there .here))).lend hw (.nil : Sel [row (.slice (some ⟨z6h,0,none⟩) (([z2U,z2V] : List z1).length) 2) 42 4 (([z2U,z2V] : List z1).flatMap e42),stb z1I 28 [(.int .i64 zx.1.fN),(.int .i64 zx.1.fD)],fz (z1B ++ z1K),row (.slice z1n zs.1.length z1o) 42 4 (zs.1.flatMap e42),row (.slice z19 zq.1.length z1a) 42 4 (zq.1.flatMap e42),stb z18 28 [(.int .i64 zp.1.fN),(.int .i64 zp.1.fD)],stb z10 28 [(.int .i64 zj.1.fN),(.int .i64 zj.1.fD)],row (.slice zR zf.1.length zP) 28 2 (zf.1.flatMap e28),row (.slice zB ze.1.length zC) 42 4 (ze.1.flatMap e42),stb zy 28 [(.int .i64 za.fN),(.int .i64 za.fD)]] [] [row (.slice (some ⟨z6h,0,none⟩) (([z2U,z2V] : List z1).length) 2) 42 4 (([z2U,z2V] : List z1).flatMap e42),stb z1I 28 [(.int .i64 zx.1.fN),(.int .i64 zx.1.fD)],fz (z1B ++ z1K),row (.slice z1n zs.1.length z1o) 42 4 (zs.1.flatMap e42),row (.slice z19 zq.1.length z1a) 42 4 (zq.1.flatMap e42),stb z18 28 [(.int .i64 zp.1.fN),(.int .i64 zp.1.fD)],stb z10 28 [(.int .i64 zj.1.fN),(.int .i64 zj.1.fD)],row (.slice zR zf.1.length zP) 28 2 (zf.1.flatMap e28),row (.slice zB ze.1.length zC) 42 4 (ze.1.flatMap e42),stb zy 28 [(.int .i64 za.fN),(.int .i64 za.fD)]]) (B:=[row (.slice z1n zs.1.length z1o) 42 4 (zs.1.flatMap e42),row (.slice (some ⟨z6h,0,none⟩) (([z2U,z2V] : List z1).length) 2) 42 4 (([z2U,z2V] : List z1).flatMap e42)]) (fun _ hx'=>((.cons (.there (.there (.there .here))) (.cons .here .nil)) : Sel _ [row (.slice z1n zs.1.length z1o) 42 4 (zs.1.flatMap e42),row (.slice (some ⟨z6h,0,none⟩) (([z2U,z2V] : List z1).length) 2) 42 4 (([z2U,z2V] : List z1).flatMap e42)] _).mem hx'); exact w_ref02_Same (Z:=_) (z8Q:=z1n) (z8R:=z1o) (z8S:=(some ⟨z6h,0,none⟩)) (z8T:=2) (z31:=zs.1) (z3c:=([z2U,z2V] : List z1)) (r:=zi7) w pz (ZA.row (hw.lent (.nil : Sel [row (.slice (some ⟨z6h,0,none⟩) (([z2U,z2V] : List z1).length) 2) 42 4 (([z2U,z2V] : List z1).flatMap e42),stb z1I 28 [(.int .i64 zx.1.fN),(.int .i64 zx.1.fD)],fz (z1B ++ z1K),row (.slice z1n zs.1.length z1o) 42 4 (zs.1.flatMap e42),row (.slice z19 zq.1.length z1a) 42 4 (zq.1.flatMap e42),stb z18 28 [(.int .i64 zp.1.fN),(.int .i64 zp.1.fD)],stb z10 28 [(.int .i64 zj.1.fN),(.int .i64 zj.1.fD)],row (.slice zR zf.1.length zP) 28 2 (zf.1.flatMap e28),row (.slice zB ze.1.length zC) 42 4 (ze.1.flatMap e42),stb zy 28 [(.int .i64 za.fN),(.int .i64 za.fD)]] [] [row (.slice (some ⟨z6h,0,none⟩) (([z2U,z2V] : List z1).length) 2) 42 4 (([z2U,z2V] : List z1).flatMap e42),stb z1I 28 [(.int .i64 zx.1.fN),(.int .i64 zx.1.fD)],fz (z1B ++ z1K),row (.slice z1n zs.1.length z1o) 42 4 (zs.1.flatMap e42),row (.slice z19 zq.1.length z1a) 42 4 (zq.1.flatMap e42),stb z18 28 [(.int .i64 zp.1.fN),(.int .i64 zp.1.fD)],stb z10 28 [(.int .i64 zj.1.fN),(.int .i64 zj.1.fD)],row (.slice zR zf.1.length zP) 28 2 (zf.1.flatMap e28),row (.slice zB ze.1.length zC) 42 4 (ze.1.flatMap e42),stb zy 28 [(.int .i64 za.fN),(.int .i64 za.fD)]]) (B:=[row (.slice z1n zs.1.length z1o) 42 4 (zs.1.flatMap e42),row (.slice (some ⟨z6h,0,none⟩) (([z2U,z2V] : List z1).length) 2) 42 4 (([z2U,z2V] : List z1).flatMap e42)]) (fun _ hx'=>((.cons (.there (.there (.there .here))) (.cons .here .nil)) : Sel _ [row (.slice z1n zs.1.length z1o) 42 4 (zs.1.flatMap e42),row (.slice (some ⟨z6h,0,none⟩) (([z2U,z2V] : List z1).length) 2) 42 4 (([z2U,z2V] : List z1).flatMap e42)] _).mem hx') (.head _) _) (RR.flat (enc:=e42) (fun _=>rfl) _) ⟨w,pz.1⟩) (ZA.row (hw.lent (.nil : Sel [row (.slice (some ⟨z6h,0,none⟩) (([z2U,z2V] : List z1).length) 2) 42 4 (([z2U,z2V] : List z1).flatMap e42),stb z1I 28 [(.int .i64 zx.1.fN),(.int .i64 zx.1.fD)],fz (z1B ++ z1K),row (.slice z1n zs.1.length z1o) 42 4 (zs.1.flatMap e42),row (.slice z19 zq.1.length z1a) 42 4 (zq.1.flatMap e42),stb z18 28 [(.int .i64 zp.1.fN),(.int .i64 zp.1.fD)],stb z10 28 [(.int .i64 zj.1.fN),(.int .i64 zj.1.fD)],row (.slice zR zf.1.length zP) 28 2 (zf.1.flatMap e28),row (.slice zB ze.1.length zC) 42 4 (ze.1.flatMap e42),stb zy 28 [(.int .i64 za.fN),(.int .i64 za.fD)]] [] [row (.slice (some ⟨z6h,0,none⟩) (([z2U,z2V] : List z1).length) 2) 42 4 (([z2U,z2V] : List z1).flatMap e42),stb z1I 28 [(.int .i64 zx.1.fN),(.int .i64 zx.1.fD)],fz (z1B ++ z1K),row (.slice z1n zs.1.length z1o) 42 4 (zs.1.flatMap e42),row (.slice z19 zq.1.length z1a) 42 4 (zq.1.flatMap e42),stb z18 28 [(.int .i64 zp.1.fN),(.int .i64 zp.1.fD)],stb z10 28 [(.int .i64 zj.1.fN),(.int .i64 zj.1.fD)],row (.slice zR zf.1.length zP) 28 2 (zf.1.flatMap e28),row (.slice zB ze.1.length zC) 42 4 (ze.1.flatMap e42),stb zy 28 [(.int .i64 za.fN),(.int .i64 za.fD)]]) (B:=[row (.slice z1n zs.1.length z1o) 42 4 (zs.1.flatMap e42),row (.slice (some ⟨z6h,0,none⟩) (([z2U,z2V] : List z1).length) 2) 42 4 (([z2U,z2V] : List z1).flatMap e42)]) (fun _ hx'=>((.cons (.there (.there (.there .here))) (.cons .here .nil)) : Sel _ [row (.slice z1n zs.1.length z1o) 42 4 (zs.1.flatMap e42),row (.slice (some ⟨z6h,0,none⟩) (([z2U,z2V] : List z1).length) 2) 42 4 (([z2U,z2V] : List z1).flatMap e42)] _).mem hx') (.tail _ (.head _)) _) (RR.flat (enc:=e42) (fun _=>rfl) _) ⟨w,pz.1⟩) ztj) ?_
   refine WD.pure (i:=63) (d:=133) (by kernel_rfl) rfl (z6 (by kernel_rfl)) (z7 (by kernel_rfl)) rfl rfl rfl (fun _=>q_pickT rfl rfl) ?_
   refine WD.reL (.cons (.there .here) (.cons (.there .here) (.cons (.there .here) (.cons (.there .here) (.cons (.there .here) (.cons (.there .here) (.cons (.there .here) (.cons (.there .here) (.cons (.there .here) .nil))))))))) ?_ zn2
   exact (.cons rfl (.cons rfl (.cons (zl (Eq.symm zis)) (.cons (zl z5K) .nil))))
  ·have zit:=hb'; clear hb'
   have ziu:=ite_f zmT zit
   replace ziu:=Option.some.inj ziu
   refine WD.pin (i:=123) rfl zit ?_
   refine WD.skip (i:=54) (d:=124) (by kernel_rfl) rfl (z6 (by kernel_rfl)) (z7 (by kernel_rfl)) rfl rfl rfl ?_
   refine WD.skip (i:=55) (d:=125) (by kernel_rfl) rfl (z6 (by kernel_rfl)) (z7 (by kernel_rfl)) rfl rfl rfl ?_
   refine WD.skip (i:=56) (d:=126) (by kernel_rfl) rfl (z6 (by kernel_rfl)) (z7 (by kernel_rfl)) rfl rfl rfl ?_
   refine WD.skip (i:=57) (d:=127) (by kernel_rfl) rfl (z6 (by kernel_rfl)) (z7 (by kernel_rfl)) rfl rfl rfl ?_
   refine WD.skip (i:=58) (d:=128) (by kernel_rfl) rfl (z6 (by kernel_rfl)) (z7 (by kernel_rfl)) rfl rfl rfl ?_
   refine WD.skip (i:=59) (d:=129) (by kernel_rfl) rfl (z6 (by kernel_rfl)) (z7 (by kernel_rfl)) rfl rfl rfl ?_
   refine WD.skip (i:=60) (d:=130) (by kernel_rfl) rfl (z6 (by kernel_rfl)) (z7 (by kernel_rfl)) rfl rfl rfl ?_
   refine WD.skip (i:=61) (d:=131) (by kernel_rfl) rfl (z6 (by kernel_rfl)) (z7 (by kernel_rfl)) rfl rfl rfl ?_
   refine WD.skip (i:=62) (d:=132) (by kernel_rfl) rfl (z6 (by kernel_rfl)) (z7 (by kernel_rfl)) rfl rfl rfl ?_
   refine WD.pure (i:=63) (d:=133) (by kernel_rfl) rfl (z6 (by kernel_rfl)) (z7 (by kernel_rfl)) rfl rfl rfl (fun _=>q_pickF rfl rfl) ?_
   refine WD.reL (.cons .here (.cons .here (.cons .here (.cons .here (.cons .here (.cons .here (.cons .here (.cons .here (.cons .here .nil))))))))) ?_ zn2
   exact (.cons rfl (.cons rfl (.cons (zl (Eq.symm zit)) (.cons (zl ziu) .nil))))
 refine WD.relist #[true,true,true,true,true,true,true,true,true,true,true,true,true,true,true,true,true,true,true,true,true,true,true,true,true,true,true,true,true,true,true,true,true,true,true,true,true,true,true,true,true,true,true,true,true,true,true,true,true,true,true,true,true,true,true,true,true,true,true,true,true,true,true,true,false,false,false,false,false,false] (by kernel_rfl) ?_
 refine WD.pure (i:=64) (d:=134) (by kernel_rfl) rfl (z6 (by kernel_rfl)) (z7 (by kernel_rfl)) rfl rfl rfl (fun _=>q_move rfl) ?_
 refine WD.mid (fuel':=1) [(0,(.bool false)),(134,(.bool zdO)),(138,(.bool zi8))] (listedA 70 [68,67,66,65,64,63,62,61,60,59,58,57,56,55,54,53,52,51,50,49,48,47,46,45,44,43,42,41,40,39,38,37,36,35,34,33,32,31,30,29,28,27,26,25,24,23,22,21,20,19,18,17,16,15,14,13,12,11,10,9,8,7,6,5,4,3,2,1,0]) ?_ (fun zn3=>?_)
 rotate_left
 ·rcases Bool.eq_false_or_eq_true zdO with hb' | hb'
  ·have ziv:=hb'; clear hb'
   have zdS:=ite_t zmU ziv
   obtain ⟨zfp,ztk,zdS⟩:=zb zdS
   replace zdS:=Option.some.inj zdS
   refine WD.pin (i:=134) rfl ziv ?_
   refine WD.quiet (i:=65) (d:=135) (by kernel_rfl) rfl (z6 (by kernel_rfl)) (z7 (by kernel_rfl)) rfl rfl rfl (q_loadA (cs:=[(.int .i64 zx.1.fN),(.int .i64 zx.1.fD)]) aggT_28 rfl rfl (rd_all .here)) ?_
   refine WD.enter (i:=66) (d:=136) (by kernel_rfl) rfl (z6 (by kernel_rfl)) (z7 (by kernel_rfl)) rfl rfl rfl (zg (l:=[.const (.int .i64 1),.const (.int .i64 2)]) Try.call22 (.cons rfl (.cons rfl .nil))) (fun w hw=>by have pz:=(hz.call2 hw (.nil : Sel [stb z1I 28 [(.int .i64 zx.1.fN),(.int .i64 zx.1.fD)],fz (z1B ++ z1K),row (.slice z1n zs.1.length z1o) 42 4 (zs.1.flatMap e42),row (.slice z19 zq.1.length z1a) 42 4 (zq.1.flatMap e42),stb z18 28 [(.int .i64 zp.1.fN),(.int .i64 zp.1.fD)],stb z10 28 [(.int .i64 zj.1.fN),(.int .i64 zj.1.fD)],row (.slice zR zf.1.length zP) 28 2 (zf.1.flatMap e28),row (.slice zB ze.1.length zC) 42 4 (ze.1.flatMap e42),stb zy 28 [(.int .i64 za.fN),(.int .i64 za.fD)]] [] [stb z1I 28 [(.int .i64 zx.1.fN),(.int .i64 zx.1.fD)],fz (z1B ++ z1K),row (.slice z1n zs.1.length z1o) 42 4 (zs.1.flatMap e42),row (.slice z19 zq.1.length z1a) 42 4 (zq.1.flatMap e42),stb z18 28 [(.int .i64 zp.1.fN),(.int .i64 zp.1.fD)],stb z10 28 [(.int .i64 zj.1.fN),(.int .i64 zj.1.fD)],row (.slice zR zf.1.length zP) 28 2 (zf.1.flatMap e28),row (.slice zB ze.1.length zC) 42 4 (ze.1.flatMap e42),stb zy 28 [(.int .i64 za.fN),(.int .i64 za.fD)]]) (.there .here)); exact w_law02_num (Z:=_)  (z37:=1) (z38:=2) (r:=zfp) w pz  ztk) ?_
   refine WD.pure (i:=67) (d:=137) (by kernel_rfl) rfl (z6 (by kernel_rfl)) (z7 (by kernel_rfl)) rfl rfl rfl (fun _=>q_aggeql (enc:=e28) (a:=zx.1) (b:=zfp) eqT_28 rfl rfl) ?_
   refine WD.pure (i:=68) (d:=138) (by kernel_rfl) rfl (z6 (by kernel_rfl)) (z7 (by kernel_rfl)) rfl rfl rfl (fun _=>q_pickT rfl rfl) ?_
   refine WD.reL (.cons .here (.cons .here (.cons .here (.cons .here (.cons .here (.cons .here (.cons .here (.cons .here (.cons .here .nil))))))))) ?_ zn3
   exact (.cons rfl (.cons (zl (Eq.symm ziv)) (.cons (zl zdS) .nil)))
  ·have ziw:=hb'; clear hb'
   have zix:=ite_f zmU ziw
   replace zix:=Option.some.inj zix
   refine WD.pin (i:=134) rfl ziw ?_
   refine WD.skip (i:=65) (d:=135) (by kernel_rfl) rfl (z6 (by kernel_rfl)) (z7 (by kernel_rfl)) rfl rfl rfl ?_
   refine WD.skip (i:=66) (d:=136) (by kernel_rfl) rfl (z6 (by kernel_rfl)) (z7 (by kernel_rfl)) rfl rfl rfl ?_
   refine WD.skip (i:=67) (d:=137) (by kernel_rfl) rfl (z6 (by kernel_rfl)) (z7 (by kernel_rfl)) rfl rfl rfl ?_
   refine WD.pure (i:=68) (d:=138) (by kernel_rfl) rfl (z6 (by kernel_rfl)) (z7 (by kernel_rfl)) rfl rfl rfl (fun _=>q_pickF rfl rfl) ?_
   refine WD.reL (.cons .here (.cons .here (.cons .here (.cons .here (.cons .here (.cons .here (.cons .here (.cons .here (.cons .here .nil))))))))) ?_ zn3
   exact (.cons rfl (.cons (zl (Eq.symm ziw)) (.cons (zl zix) .nil)))
 refine WD.relist #[true,true,true,true,true,true,true,true,true,true,true,true,true,true,true,true,true,true,true,true,true,true,true,true,true,true,true,true,true,true,true,true,true,true,true,true,true,true,true,true,true,true,true,true,true,true,true,true,true,true,true,true,true,true,true,true,true,true,true,true,true,true,true,true,true,true,true,true,true,false] (by kernel_rfl) ?_
 refine WD.pure (i:=69) (d:=0) (by kernel_rfl) rfl (z6 (by kernel_rfl)) (z7 (by kernel_rfl)) rfl rfl rfl (fun _=>q_assign rfl) ?_
 refine WD.done (by kernel_rfl) ?_
 refine WX.then ?_
 refine WC.ret ?_
 obtain rfl:=Option.some.inj h
 refine WX.bpRet Try.results18 (.tmp rfl .nil) (fun w hw=>?_)
 exact ⟨(z1B ++ z1K),ret1 rfl,trivial,hw.sub (.cons (.there .here) .nil)⟩
def m_ref01_size (z6P : Int) : Option Int :=
 if decide (z6P ≥ 0) then some (u64 z6P) else some (u64 ((u64 (18446744073709551615 - (u64 z6P))) + 1))
set_option maxRecDepth 20000 in
theorem w_ref01_size (Z : Zp)   (z6P : Int) (r : Int) (w₀ : World) (hz : PZ [] w₀ Z)
  (h : m_ref01_size z6P = some r) :
  Calls Try.prog 93 #[(.int .i64 z6P)] w₀ fun e w'=>e = .returned (.int .u64 r) ∧ Hp [] w₀ w' []:=by
 unfold m_ref01_size at h
 refine Calls.ofWC (vs:=[(.int .i64 z6P)]) (pre:=[]) (env:=[(0,(.int .i64 z6P))]) Try.func93 rfl Try.ntmps93 rfl (Hp.nil w₀ _) rfl ?_
 refine WC.seq ?_
 refine WC.region ?_
 refine WL.quiet (d:=2) rfl rfl rfl (q_assign rfl) ?_
 refine WL.nil ?_
 refine WX.then ?_
 refine WC.seq ?_
 refine WC.seq ?_
 refine WC.region ?_
 refine WL.quiet (d:=3) rfl rfl rfl (q_move rfl) ?_
 refine WL.quiet (d:=4) rfl rfl rfl (q_geq rfl rfl) ?_
 refine WL.nil ?_
 refine WX.then ?_
 refine WC.cond rfl (fun ziy=>?_) (fun ziy=>?_)
 ·replace h:=ite_t h ziy
  refine WC.seq ?_
  refine WC.region ?_
  refine WL.quiet (d:=5) rfl rfl rfl (q_move rfl) ?_
  refine WL.quiet (d:=6) rfl rfl rfl (q_conv Try.underlying3 Try.underlying90 rfl rfl) ?_
  refine WL.quiet (d:=2) rfl rfl rfl (q_assign rfl) ?_
  refine WL.nil ?_
  refine WX.then ?_
  refine WC.ret ?_
  refine WX.thenRet ?_
  obtain rfl:=Option.some.inj h
  refine WX.bpRet Try.results93 (.tmp rfl .nil) (fun w hw=>?_)
  exact ⟨ret1 rfl,hw.sub .nil⟩
 ·replace h:=ite_f h ziy
  refine WC.skip ?_
  refine WX.then ?_
  refine WC.seq ?_
  refine WC.region ?_
  refine WL.quiet (d:=7) rfl rfl rfl (q_move rfl) ?_
  refine WL.quiet (d:=8) rfl rfl rfl (q_conv Try.underlying3 Try.underlying90 rfl rfl) ?_
  refine WL.quiet (d:=9) rfl rfl rfl (q_sub rfl rfl rfl) ?_
  refine WL.quiet (d:=10) rfl rfl rfl (q_add rfl rfl rfl) ?_
  refine WL.quiet (d:=2) rfl rfl rfl (q_assign rfl) ?_
  refine WL.nil ?_
  refine WX.then ?_
  refine WC.ret ?_
  obtain rfl:=Option.some.inj h
  refine WX.bpRet Try.results93 (.tmp rfl .nil) (fun w hw=>?_)
  exact ⟨ret1 rfl,hw.sub .nil⟩
def m_ref01_gcd_rec : Nat → Int → Int → Option Int
 | 0,_,_=>none
 | zn4 + 1,z5i,z4I=>if decide (z4I = 0) then some z5i else chk ((z4I : Int) ≠ 0) (((m_ref01_gcd_rec zn4) z4I (Int.tmod z5i z4I)).bind fun ziz=>some ziz)
def m_ref01_gcd (z5i : Int) (z4I : Int) : Option Int:=m_ref01_gcd_rec FUEL z5i z4I
set_option maxRecDepth 20000 in
theorem w_ref01_gcd_rec : ∀ (n : Nat) (Z : Zp) (z5i : Int) (z4I : Int) (r : Int) (w₀ : World) (hz : PZ [] w₀ Z) (h : m_ref01_gcd_rec n z5i z4I = some r),Calls Try.prog 92 #[(.int .u64 z5i),(.int .u64 z4I)] w₀ fun e w'=>e = .returned (.int .u64 r) ∧ Hp [] w₀ w' []:=by
 intro n
 induction n with
 | zero=>intro Z z5i z4I r w₀ hz h; cases h
 | succ zn4 ih =>
  intro Z z5i z4I r w₀ hz h
  rw [m_ref01_gcd_rec] at h
  refine Calls.ofWC (vs:=[(.int .u64 z5i),(.int .u64 z4I)]) (pre:=[]) (env:=[(0,(.int .u64 z5i)),(1,(.int .u64 z4I))]) Try.func92 rfl Try.ntmps92 rfl (Hp.nil w₀ _) rfl ?_
  refine WC.seq ?_
  refine WC.region ?_
  refine WL.quiet (d:=4) rfl rfl rfl (q_assign rfl) ?_
  refine WL.nil ?_
  refine WX.then ?_
  refine WC.seq ?_
  refine WC.seq ?_
  refine WC.region ?_
  refine WL.quiet (d:=5) rfl rfl rfl (q_move rfl) ?_
  refine WL.quiet (d:=6) rfl rfl rfl (q_eql rfl rfl) ?_
  refine WL.nil ?_
  refine WX.then ?_
  refine WC.cond rfl (fun ziA=>?_) (fun ziA=>?_)
  ·replace h:=ite_t h ziA
   refine WC.seq ?_
   refine WC.region ?_
   refine WL.quiet (d:=7) rfl rfl rfl (q_move rfl) ?_
   refine WL.quiet (d:=4) rfl rfl rfl (q_assign rfl) ?_
   refine WL.nil ?_
   refine WX.then ?_
   refine WC.ret ?_
   refine WX.thenRet ?_
   obtain rfl:=Option.some.inj h
   refine WX.bpRet Try.results92 (.tmp rfl .nil) (fun w hw=>?_)
   exact ⟨ret1 rfl,hw.sub .nil⟩
  ·replace h:=ite_f h ziA
   refine WC.skip ?_
   refine WX.then ?_
   refine WC.seq ?_
   obtain ⟨ztl,h⟩:=chk_elim h
   obtain ⟨ziz,ztm,h⟩:=zb h
   refine WC.region ?_
   refine WL.quiet (d:=8) rfl rfl rfl (q_move rfl) ?_
   refine WL.quiet (d:=9) rfl rfl rfl (q_move rfl) ?_
   refine WL.quiet (d:=10) rfl rfl rfl (q_move rfl) ?_
   refine WL.quiet (d:=11) rfl rfl rfl (q_rem rfl rfl ztl rfl) ?_
   refine WL.callD (dd:=12) rfl rfl rfl (zg (l:=[.tmp 8,.tmp 11]) Try.call92 (.cons rfl (.cons rfl .nil))) (.nil : Sel [] [] []) (fun w hw=>by have pz:=(hz.call hw (.nil : Sel [] [] [])); exact ih (Z:=_)  (z5i:=z4I) (z4I:=(Int.tmod z5i z4I)) (r:=ziz) w pz  ztm) ?_
   refine WL.quiet (d:=4) rfl rfl rfl (q_assign rfl) ?_
   refine WL.nil ?_
   refine WX.then ?_
   refine WC.ret ?_
   obtain rfl:=Option.some.inj h
   refine WX.bpRet Try.results92 (.tmp rfl .nil) (fun w hw=>?_)
   exact ⟨ret1 rfl,hw.sub .nil⟩
theorem w_ref01_gcd (Z : Zp) (z5i : Int) (z4I : Int) (r : Int) (w₀ : World) (hz : PZ [] w₀ Z) (h : m_ref01_gcd z5i z4I = some r) : Calls Try.prog 92 #[(.int .u64 z5i),(.int .u64 z4I)] w₀ fun e w'=>e = .returned (.int .u64 r) ∧ Hp [] w₀ w' []:=w_ref01_gcd_rec FUEL Z z5i z4I r w₀ hz h
def m_ref01_Valid (z1L : z2) : Option Bool :=
 (if (((decide (z1L.fD ≥ 1)) && (decide (z1L.fD ≤ 1073741824))) && (decide (z1L.fN ≥ (-1073741824)))) && (decide (z1L.fN ≤ 1073741824)) then (m_ref01_size z1L.fN).bind fun zfq=>(m_ref01_gcd zfq (u64 z1L.fD)).bind fun ziB=>some (decide (ziB = 1)) else some false).bind fun ziC=>some ziC
set_option maxRecDepth 20000 in
theorem w_ref01_Valid (Z : Zp)   (z1L : z2) (r : Bool) (w₀ : World) (hz : PZ [] w₀ Z)
  (h : m_ref01_Valid z1L = some r) :
  Calls Try.prog 76 #[(.agg #[(.int .i64 z1L.fN),(.int .i64 z1L.fD)])] w₀ fun e w'=>e = .returned (.bool r) ∧ Hp [] w₀ w' []:=by
 unfold m_ref01_Valid at h
 refine Calls.ofWC (vs:=[(.agg #[(.int .i64 z1L.fN),(.int .i64 z1L.fD)])]) (pre:=[]) (env:=[(0,(.agg #[(.int .i64 z1L.fN),(.int .i64 z1L.fD)]))]) Try.func76 rfl Try.ntmps76 rfl (Hp.nil w₀ _) rfl ?_
 refine WC.seq ?_
 refine WC.region ?_
 refine WL.new (dd:=1) rfl rfl rfl (e_box (cs:=[(.int .i64 z1L.fN),(.int .i64 z1L.fD)]) rfl rfl) ?_
 intro zaP _
 refine WL.quiet (d:=2) rfl rfl rfl (q_assign rfl) ?_
 refine WL.nil ?_
 refine WX.then ?_
 refine WC.seq ?_
 obtain ⟨ziC,zn5,h⟩:=zb h
 refine WC.draw (fun i=>[].contains i) [] rfl ?_
 refine WD.pure (i:=0) (d:=3) (by kernel_rfl) rfl (z6 (by kernel_rfl)) (z7 (by kernel_rfl)) rfl rfl rfl (fun _=>q_fieldAddr fo_28_1 rfl rfl) ?_
 refine WD.quiet (i:=1) (d:=4) (by kernel_rfl) rfl (z6 (by kernel_rfl)) (z7 (by kernel_rfl)) rfl rfl rfl (q_load1 oneT_3 rfl (rd_stb .here rfl)) ?_
 refine WD.pure (i:=2) (d:=5) (by kernel_rfl) rfl (z6 (by kernel_rfl)) (z7 (by kernel_rfl)) rfl rfl rfl (fun _=>q_geq rfl rfl) ?_
 refine WD.pure (i:=3) (d:=6) (by kernel_rfl) rfl (z6 (by kernel_rfl)) (z7 (by kernel_rfl)) rfl rfl rfl (fun _=>q_move rfl) ?_
 refine WD.mid (fuel':=21) [(1,(.pointer (some ⟨zaP,0,none⟩))),(2,(.bool false)),(6,(.bool (decide (z1L.fD ≥ 1)))),(10,(.bool ((decide (z1L.fD ≥ 1)) && (decide (z1L.fD ≤ 1073741824)))))] (listedA 29 [7,6,5,4,3,2,1,0]) ?_ (fun zn6=>?_)
 rotate_left
 ·rcases Bool.eq_false_or_eq_true (decide (z1L.fD ≥ 1)) with hb' | hb'
  ·have ziD:=hb'; clear hb'
   refine WD.pin (i:=6) rfl ziD ?_
   refine WD.pure (i:=4) (d:=7) (by kernel_rfl) rfl (z6 (by kernel_rfl)) (z7 (by kernel_rfl)) rfl rfl rfl (fun _=>q_fieldAddr fo_28_1 rfl rfl) ?_
   refine WD.quiet (i:=5) (d:=8) (by kernel_rfl) rfl (z6 (by kernel_rfl)) (z7 (by kernel_rfl)) rfl rfl rfl (q_load1 oneT_3 rfl (rd_stb .here rfl)) ?_
   refine WD.pure (i:=6) (d:=9) (by kernel_rfl) rfl (z6 (by kernel_rfl)) (z7 (by kernel_rfl)) rfl rfl rfl (fun _=>q_leq rfl rfl) ?_
   refine WD.pure (i:=7) (d:=10) (by kernel_rfl) rfl (z6 (by kernel_rfl)) (z7 (by kernel_rfl)) rfl rfl rfl (fun _=>q_pickT rfl rfl) ?_
   refine WD.reL (.cons .here .nil) ?_ zn6
   exact (.cons rfl (.cons rfl (.cons (zl (Eq.symm ziD)) (.cons (zl (and_r ziD)) .nil))))
  ·have ziE:=hb'; clear hb'
   refine WD.pin (i:=6) rfl ziE ?_
   refine WD.skip (i:=4) (d:=7) (by kernel_rfl) rfl (z6 (by kernel_rfl)) (z7 (by kernel_rfl)) rfl rfl rfl ?_
   refine WD.skip (i:=5) (d:=8) (by kernel_rfl) rfl (z6 (by kernel_rfl)) (z7 (by kernel_rfl)) rfl rfl rfl ?_
   refine WD.skip (i:=6) (d:=9) (by kernel_rfl) rfl (z6 (by kernel_rfl)) (z7 (by kernel_rfl)) rfl rfl rfl ?_
   refine WD.pure (i:=7) (d:=10) (by kernel_rfl) rfl (z6 (by kernel_rfl)) (z7 (by kernel_rfl)) rfl rfl rfl (fun _=>q_pickF rfl rfl) ?_
   refine WD.reL (.cons .here .nil) ?_ zn6
   exact (.cons rfl (.cons rfl (.cons (zl (Eq.symm ziE)) (.cons (zl (and_l ziE)) .nil))))
 refine WD.relist #[true,true,true,true,true,true,true,true,false,false,false,false,false,false,false,false,false,false,false,false,false,false,false,false,false,false,false,false,false] (by kernel_rfl) ?_
 refine WD.pure (i:=8) (d:=11) (by kernel_rfl) rfl (z6 (by kernel_rfl)) (z7 (by kernel_rfl)) rfl rfl rfl (fun _=>q_move rfl) ?_
 refine WD.mid (fuel':=16) [(1,(.pointer (some ⟨zaP,0,none⟩))),(2,(.bool false)),(11,(.bool ((decide (z1L.fD ≥ 1)) && (decide (z1L.fD ≤ 1073741824))))),(15,(.bool (((decide (z1L.fD ≥ 1)) && (decide (z1L.fD ≤ 1073741824))) && (decide (z1L.fN ≥ (-1073741824))))))] (listedA 29 [12,11,10,9,8,7,6,5,4,3,2,1,0]) ?_ (fun zn7=>?_)
 rotate_left
 ·rcases Bool.eq_false_or_eq_true ((decide (z1L.fD ≥ 1)) && (decide (z1L.fD ≤ 1073741824))) with hb' | hb'
  ·have ziF:=hb'; clear hb'
   refine WD.pin (i:=11) rfl ziF ?_
   refine WD.pure (i:=9) (d:=12) (by kernel_rfl) rfl (z6 (by kernel_rfl)) (z7 (by kernel_rfl)) rfl rfl rfl (fun _=>q_fieldAddr fo_28_0 rfl rfl) ?_
   refine WD.quiet (i:=10) (d:=13) (by kernel_rfl) rfl (z6 (by kernel_rfl)) (z7 (by kernel_rfl)) rfl rfl rfl (q_load1 oneT_3 rfl (rd_stb .here rfl)) ?_
   refine WD.pure (i:=11) (d:=14) (by kernel_rfl) rfl (z6 (by kernel_rfl)) (z7 (by kernel_rfl)) rfl rfl rfl (fun _=>q_geq rfl rfl) ?_
   refine WD.pure (i:=12) (d:=15) (by kernel_rfl) rfl (z6 (by kernel_rfl)) (z7 (by kernel_rfl)) rfl rfl rfl (fun _=>q_pickT rfl rfl) ?_
   refine WD.reL (.cons .here .nil) ?_ zn7
   exact (.cons rfl (.cons rfl (.cons (zl (Eq.symm ziF)) (.cons (zl (and_r ziF)) .nil))))
  ·have ziG:=hb'; clear hb'
   refine WD.pin (i:=11) rfl ziG ?_
   refine WD.skip (i:=9) (d:=12) (by kernel_rfl) rfl (z6 (by kernel_rfl)) (z7 (by kernel_rfl)) rfl rfl rfl ?_
   refine WD.skip (i:=10) (d:=13) (by kernel_rfl) rfl (z6 (by kernel_rfl)) (z7 (by kernel_rfl)) rfl rfl rfl ?_
   refine WD.skip (i:=11) (d:=14) (by kernel_rfl) rfl (z6 (by kernel_rfl)) (z7 (by kernel_rfl)) rfl rfl rfl ?_
   refine WD.pure (i:=12) (d:=15) (by kernel_rfl) rfl (z6 (by kernel_rfl)) (z7 (by kernel_rfl)) rfl rfl rfl (fun _=>q_pickF rfl rfl) ?_
   refine WD.reL (.cons .here .nil) ?_ zn7
   exact (.cons rfl (.cons rfl (.cons (zl (Eq.symm ziG)) (.cons (zl (and_l ziG)) .nil))))
 refine WD.relist #[true,true,true,true,true,true,true,true,true,true,true,true,true,false,false,false,false,false,false,false,false,false,false,false,false,false,false,false,false] (by kernel_rfl) ?_
 refine WD.pure (i:=13) (d:=16) (by kernel_rfl) rfl (z6 (by kernel_rfl)) (z7 (by kernel_rfl)) rfl rfl rfl (fun _=>q_move rfl) ?_
 refine WD.mid (fuel':=11) [(1,(.pointer (some ⟨zaP,0,none⟩))),(2,(.bool false)),(16,(.bool (((decide (z1L.fD ≥ 1)) && (decide (z1L.fD ≤ 1073741824))) && (decide (z1L.fN ≥ (-1073741824)))))),(20,(.bool ((((decide (z1L.fD ≥ 1)) && (decide (z1L.fD ≤ 1073741824))) && (decide (z1L.fN ≥ (-1073741824)))) && (decide (z1L.fN ≤ 1073741824)))))] (listedA 29 [17,16,15,14,13,12,11,10,9,8,7,6,5,4,3,2,1,0]) ?_ (fun zn8=>?_)
 rotate_left
 ·rcases Bool.eq_false_or_eq_true (((decide (z1L.fD ≥ 1)) && (decide (z1L.fD ≤ 1073741824))) && (decide (z1L.fN ≥ (-1073741824)))) with hb' | hb'
  ·have ziH:=hb'; clear hb'
   refine WD.pin (i:=16) rfl ziH ?_
   refine WD.pure (i:=14) (d:=17) (by kernel_rfl) rfl (z6 (by kernel_rfl)) (z7 (by kernel_rfl)) rfl rfl rfl (fun _=>q_fieldAddr fo_28_0 rfl rfl) ?_
   refine WD.quiet (i:=15) (d:=18) (by kernel_rfl) rfl (z6 (by kernel_rfl)) (z7 (by kernel_rfl)) rfl rfl rfl (q_load1 oneT_3 rfl (rd_stb .here rfl)) ?_
   refine WD.pure (i:=16) (d:=19) (by kernel_rfl) rfl (z6 (by kernel_rfl)) (z7 (by kernel_rfl)) rfl rfl rfl (fun _=>q_leq rfl rfl) ?_
   refine WD.pure (i:=17) (d:=20) (by kernel_rfl) rfl (z6 (by kernel_rfl)) (z7 (by kernel_rfl)) rfl rfl rfl (fun _=>q_pickT rfl rfl) ?_
   refine WD.reL (.cons .here .nil) ?_ zn8
   exact (.cons rfl (.cons rfl (.cons (zl (Eq.symm ziH)) (.cons (zl (and_r ziH)) .nil))))
  ·have ziI:=hb'; clear hb'
   refine WD.pin (i:=16) rfl ziI ?_
   refine WD.skip (i:=14) (d:=17) (by kernel_rfl) rfl (z6 (by kernel_rfl)) (z7 (by kernel_rfl)) rfl rfl rfl ?_
   refine WD.skip (i:=15) (d:=18) (by kernel_rfl) rfl (z6 (by kernel_rfl)) (z7 (by kernel_rfl)) rfl rfl rfl ?_
   refine WD.skip (i:=16) (d:=19) (by kernel_rfl) rfl (z6 (by kernel_rfl)) (z7 (by kernel_rfl)) rfl rfl rfl ?_
   refine WD.pure (i:=17) (d:=20) (by kernel_rfl) rfl (z6 (by kernel_rfl)) (z7 (by kernel_rfl)) rfl rfl rfl (fun _=>q_pickF rfl rfl) ?_
   refine WD.reL (.cons .here .nil) ?_ zn8
   exact (.cons rfl (.cons rfl (.cons (zl (Eq.symm ziI)) (.cons (zl (and_l ziI)) .nil))))
 refine WD.relist #[true,true,true,true,true,true,true,true,true,true,true,true,true,true,true,true,true,true,false,false,false,false,false,false,false,false,false,false,false] (by kernel_rfl) ?_
 refine WD.pure (i:=18) (d:=21) (by kernel_rfl) rfl (z6 (by kernel_rfl)) (z7 (by kernel_rfl)) rfl rfl rfl (fun _=>q_move rfl) ?_
 refine WD.mid (fuel':=1) [(2,(.bool false)),(21,(.bool ((((decide (z1L.fD ≥ 1)) && (decide (z1L.fD ≤ 1073741824))) && (decide (z1L.fN ≥ (-1073741824)))) && (decide (z1L.fN ≤ 1073741824))))),(30,(.bool ziC))] (listedA 29 [27,26,25,24,23,22,21,20,19,18,17,16,15,14,13,12,11,10,9,8,7,6,5,4,3,2,1,0]) ?_ (fun zn9=>?_)
 rotate_left
 ·rcases Bool.eq_false_or_eq_true ((((decide (z1L.fD ≥ 1)) && (decide (z1L.fD ≤ 1073741824))) && (decide (z1L.fN ≥ (-1073741824)))) && (decide (z1L.fN ≤ 1073741824))) with hb' | hb'
  ·have ziJ:=hb'; clear hb'
   have zaQ:=ite_t zn5 ziJ
   obtain ⟨zfq,ztn,zaQ⟩:=zb zaQ
   obtain ⟨ziB,zto,zaQ⟩:=zb zaQ
   replace zaQ:=Option.some.inj zaQ
   refine WD.pin (i:=21) rfl ziJ ?_
   refine WD.pure (i:=19) (d:=22) (by kernel_rfl) rfl (z6 (by kernel_rfl)) (z7 (by kernel_rfl)) rfl rfl rfl (fun _=>q_fieldAddr fo_28_0 rfl rfl) ?_
   refine WD.quiet (i:=20) (d:=23) (by kernel_rfl) rfl (z6 (by kernel_rfl)) (z7 (by kernel_rfl)) rfl rfl rfl (q_load1 oneT_3 rfl (rd_stb .here rfl)) ?_
   refine WD.enter (i:=21) (d:=24) (by kernel_rfl) rfl (z6 (by kernel_rfl)) (z7 (by kernel_rfl)) rfl rfl rfl (zg (l:=[.tmp 23]) Try.call93 (.cons rfl .nil)) (fun w hw=>by have pz:=(hz.call hw (.nil : Sel [stb zaP 28 [(.int .i64 z1L.fN),(.int .i64 z1L.fD)]] [] [stb zaP 28 [(.int .i64 z1L.fN),(.int .i64 z1L.fD)]])); exact w_ref01_size (Z:=_)  (z6P:=z1L.fN) (r:=zfq) w pz  ztn) ?_
   refine WD.pure (i:=22) (d:=25) (by kernel_rfl) rfl (z6 (by kernel_rfl)) (z7 (by kernel_rfl)) rfl rfl rfl (fun _=>q_fieldAddr fo_28_1 rfl rfl) ?_
   refine WD.quiet (i:=23) (d:=26) (by kernel_rfl) rfl (z6 (by kernel_rfl)) (z7 (by kernel_rfl)) rfl rfl rfl (q_load1 oneT_3 rfl (rd_stb .here rfl)) ?_
   refine WD.pure (i:=24) (d:=27) (by kernel_rfl) rfl (z6 (by kernel_rfl)) (z7 (by kernel_rfl)) rfl rfl rfl (fun _=>q_conv Try.underlying3 Try.underlying90 rfl rfl) ?_
   refine WD.enter (i:=25) (d:=28) (by kernel_rfl) rfl (z6 (by kernel_rfl)) (z7 (by kernel_rfl)) rfl rfl rfl (zg (l:=[.tmp 24,.tmp 27]) Try.call92 (.cons rfl (.cons rfl .nil))) (fun w hw=>by have pz:=(hz.call hw (.nil : Sel [stb zaP 28 [(.int .i64 z1L.fN),(.int .i64 z1L.fD)]] [] [stb zaP 28 [(.int .i64 z1L.fN),(.int .i64 z1L.fD)]])); exact w_ref01_gcd (Z:=_)  (z5i:=zfq) (z4I:=(u64 z1L.fD)) (r:=ziB) w pz  zto) ?_
   refine WD.pure (i:=26) (d:=29) (by kernel_rfl) rfl (z6 (by kernel_rfl)) (z7 (by kernel_rfl)) rfl rfl rfl (fun _=>q_eql rfl rfl) ?_
   refine WD.pure (i:=27) (d:=30) (by kernel_rfl) rfl (z6 (by kernel_rfl)) (z7 (by kernel_rfl)) rfl rfl rfl (fun _=>q_pickT rfl rfl) ?_
   refine WD.reL (.cons .here .nil) ?_ zn9
   exact (.cons rfl (.cons (zl (Eq.symm ziJ)) (.cons (zl zaQ) .nil)))
  ·have ziK:=hb'; clear hb'
   have ziL:=ite_f zn5 ziK
   replace ziL:=Option.some.inj ziL
   refine WD.pin (i:=21) rfl ziK ?_
   refine WD.skip (i:=19) (d:=22) (by kernel_rfl) rfl (z6 (by kernel_rfl)) (z7 (by kernel_rfl)) rfl rfl rfl ?_
   refine WD.skip (i:=20) (d:=23) (by kernel_rfl) rfl (z6 (by kernel_rfl)) (z7 (by kernel_rfl)) rfl rfl rfl ?_
   refine WD.skip (i:=21) (d:=24) (by kernel_rfl) rfl (z6 (by kernel_rfl)) (z7 (by kernel_rfl)) rfl rfl rfl ?_
   refine WD.skip (i:=22) (d:=25) (by kernel_rfl) rfl (z6 (by kernel_rfl)) (z7 (by kernel_rfl)) rfl rfl rfl ?_
   refine WD.skip (i:=23) (d:=26) (by kernel_rfl) rfl (z6 (by kernel_rfl)) (z7 (by kernel_rfl)) rfl rfl rfl ?_
   refine WD.skip (i:=24) (d:=27) (by kernel_rfl) rfl (z6 (by kernel_rfl)) (z7 (by kernel_rfl)) rfl rfl rfl ?_
   refine WD.skip (i:=25) (d:=28) (by kernel_rfl) rfl (z6 (by kernel_rfl)) (z7 (by kernel_rfl)) rfl rfl rfl ?_
   refine WD.skip (i:=26) (d:=29) (by kernel_rfl) rfl (z6 (by kernel_rfl)) (z7 (by kernel_rfl)) rfl rfl rfl ?_
   refine WD.pure (i:=27) (d:=30) (by kernel_rfl) rfl (z6 (by kernel_rfl)) (z7 (by kernel_rfl)) rfl rfl rfl (fun _=>q_pickF rfl rfl) ?_
   refine WD.reL (.cons .here .nil) ?_ zn9
   exact (.cons rfl (.cons (zl (Eq.symm ziK)) (.cons (zl ziL) .nil)))
 refine WD.relist #[true,true,true,true,true,true,true,true,true,true,true,true,true,true,true,true,true,true,true,true,true,true,true,true,true,true,true,true,false] (by kernel_rfl) ?_
 refine WD.pure (i:=28) (d:=2) (by kernel_rfl) rfl (z6 (by kernel_rfl)) (z7 (by kernel_rfl)) rfl rfl rfl (fun _=>q_assign rfl) ?_
 refine WD.done (by kernel_rfl) ?_
 refine WX.then ?_
 refine WC.ret ?_
 obtain rfl:=Option.some.inj h
 refine WX.bpRet Try.results76 (.tmp rfl .nil) (fun w hw=>?_)
 exact ⟨ret1 rfl,hw.sub .nil⟩
def m_ref02_Good (z3j : z2) : Option Bool :=
 (m_ref01_Valid z3j).bind fun zdT=>some (zdT && (decide (z3j.fN ≥ 0)))
set_option maxRecDepth 20000 in
theorem w_ref02_Good (Z : Zp)   (z3j : z2) (r : Bool) (w₀ : World) (hz : PZ [] w₀ Z)
  (h : m_ref02_Good z3j = some r) :
  Calls Try.prog 53 #[(.agg #[(.int .i64 z3j.fN),(.int .i64 z3j.fD)])] w₀ fun e w'=>e = .returned (.bool r) ∧ Hp [] w₀ w' []:=by
 unfold m_ref02_Good at h
 refine Calls.ofWC (vs:=[(.agg #[(.int .i64 z3j.fN),(.int .i64 z3j.fD)])]) (pre:=[]) (env:=[(0,(.agg #[(.int .i64 z3j.fN),(.int .i64 z3j.fD)]))]) Try.func53 rfl Try.ntmps53 rfl (Hp.nil w₀ _) rfl ?_
 refine WC.seq ?_
 refine WC.region ?_
 refine WL.new (dd:=1) rfl rfl rfl (e_box (cs:=[(.int .i64 z3j.fN),(.int .i64 z3j.fD)]) rfl rfl) ?_
 intro zdU _
 refine WL.quiet (d:=2) rfl rfl rfl (q_assign rfl) ?_
 refine WL.nil ?_
 refine WX.then ?_
 refine WC.seq ?_
 obtain ⟨zdT,ztp,h⟩:=zb h
 refine WC.region ?_
 refine WL.quiet (d:=3) rfl rfl rfl (q_loadA (cs:=[(.int .i64 z3j.fN),(.int .i64 z3j.fD)]) aggT_28 rfl rfl (rd_all .here)) ?_
 refine WL.callD (dd:=4) rfl rfl rfl (zg (l:=[.tmp 3]) Try.call76 (.cons rfl .nil)) (.nil : Sel [stb zdU 28 [(.int .i64 z3j.fN),(.int .i64 z3j.fD)]] [] [stb zdU 28 [(.int .i64 z3j.fN),(.int .i64 z3j.fD)]]) (fun w hw=>by have pz:=(hz.call hw (.nil : Sel [stb zdU 28 [(.int .i64 z3j.fN),(.int .i64 z3j.fD)]] [] [stb zdU 28 [(.int .i64 z3j.fN),(.int .i64 z3j.fD)]])); exact w_ref01_Valid (Z:=_)  (z1L:=z3j) (r:=zdT) w pz  ztp) ?_
 refine WL.quiet (d:=5) rfl rfl rfl (q_move rfl) ?_
 refine WL.cut0 True [(2,(.bool false)),(9,(.bool (zdT && (decide (z3j.fN ≥ 0)))))] [stb zdU 28 [(.int .i64 z3j.fN),(.int .i64 z3j.fD)]] 4 ?_ (fun _=>?_)
 ·rcases Bool.eq_false_or_eq_true zdT with hb' | hb'
  ·have zna:=hb'; clear hb'
   refine WL.pin (i:=5) rfl zna ?_
   refine WL.quiet (d:=6) rfl rfl rfl (q_fieldAddr fo_28_0 rfl rfl) ?_
   refine WL.quiet (d:=7) rfl rfl rfl (q_load1 oneT_3 rfl (rd_stb .here rfl)) ?_
   refine WL.quiet (d:=8) rfl rfl rfl (q_geq rfl rfl) ?_
   refine WL.quiet (d:=9) rfl rfl rfl (q_pickT rfl rfl) ?_
   exact WL.cutEnd () trivial (.cons rfl (.cons (zl (and_r zna)) .nil)) (.cons .here .nil)
  ·have znb:=hb'; clear hb'
   refine WL.pin (i:=5) rfl znb ?_
   refine WL.skip rfl rfl rfl ?_
   refine WL.skip rfl rfl rfl ?_
   refine WL.skip rfl rfl rfl ?_
   refine WL.quiet (d:=9) rfl rfl rfl (q_pickF rfl rfl) ?_
   exact WL.cutEnd () trivial (.cons rfl (.cons (zl (and_l znb)) .nil)) (.cons .here .nil)
 ·skip
  refine WL.quiet (d:=2) rfl rfl rfl (q_assign rfl) ?_
  refine WL.nil ?_
  refine WX.then ?_
  refine WC.ret ?_
  obtain rfl:=Option.some.inj h
  refine WX.bpRet Try.results53 (.tmp rfl .nil) (fun w hw=>?_)
  exact ⟨ret1 rfl,hw.sub .nil⟩
def m_ref02_Valid_L2 (z2n : List z1) (z8U : Option Bool) : Nat → Int → Option Bool
 | 0,_=>none
 | ziM + 1,z3z=>if decide (z3z < ((z2n.length : Nat) : Int)) then chk ((0 : Int) ≤ z3z ∧ z3z < ((z2n.length : Nat) : Int)) ((m_ref02_Good (⟨(((nth z2n z3z).fBurst).fN),(((nth z2n z3z).fBurst).fD)⟩ : z2)).bind fun zfr=>(if !zfr then some true else chk ((0 : Int) ≤ z3z ∧ z3z < ((z2n.length : Nat) : Int)) ((m_ref02_Good (⟨(((nth z2n z3z).fRate).fN),(((nth z2n z3z).fRate).fD)⟩ : z2)).bind fun ziN=>some (!ziN))).bind fun ziO=>if ziO then some false else m_ref02_Valid_L2 z2n z8U ziM (i64 (z3z + 1))) else z8U
theorem m_ref02_Valid_L2_fuel {n : Nat} {z2n : List z1} {z8U : Option Bool} {z3z : Int} {r : Bool} (h : m_ref02_Valid_L2 z2n z8U n z3z = some r) : ∃ m,n = m + 1:=by
 cases n with
 | zero=>cases h
 | succ m=>exact ⟨m,rfl⟩
def m_ref02_Valid (z2n : List z1) : Option Bool :=
 if (decide (((z2n.length : Nat) : Int) < 1)) || (decide (((z2n.length : Nat) : Int) > 32)) then some false else jp0 (some true) fun z8U=>m_ref02_Valid_L2 z2n z8U FUEL 0
set_option maxRecDepth 20000 in
theorem w_ref02_Valid (Z : Zp)  (z5L : Option Addr) (z5M : Nat) (z2n : List z1) (r : Bool) (w₀ : World) (hz : PZ [] w₀ Z)
  (znc : ZS Z 4 (fun r x=>r = e42 x) z5L z5M z2n)
  (h : m_ref02_Valid z2n = some r) :
  Calls Try.prog 27 #[(.slice z5L z2n.length z5M)] w₀ fun e w'=>e = .returned (.bool r) ∧ Hp [] w₀ w' []:=by
 unfold m_ref02_Valid at h
 refine Calls.ofWC (vs:=[(.slice z5L z2n.length z5M)]) (pre:=[]) (env:=[(0,(.slice z5L z2n.length z5M))]) Try.func27 rfl Try.ntmps27 rfl (Hp.nil w₀ _) rfl ?_
 refine WC.seq ?_
 refine WC.region ?_
 refine WL.quiet (d:=2) rfl rfl rfl (q_assign rfl) ?_
 refine WL.nil ?_
 refine WX.then ?_
 refine WC.seq ?_
 refine WC.seq ?_
 refine WC.region ?_
 refine WL.quiet (d:=4) rfl rfl rfl (q_move rfl) ?_
 refine WL.quiet (d:=5) rfl rfl rfl (q_len Try.underlying25 rfl) ?_
 refine WL.quiet (d:=6) rfl rfl rfl (q_lss rfl rfl) ?_
 refine WL.quiet (d:=7) rfl rfl rfl (q_move rfl) ?_
 refine WL.cut0 True [(0,(.slice z5L z2n.length z5M)),(11,(.bool ((decide (((z2n.length : Nat) : Int) < 1)) || (decide (((z2n.length : Nat) : Int) > 32)))))] [] 4 ?_ (fun _=>?_)
 ·rcases Bool.eq_false_or_eq_true (decide (((z2n.length : Nat) : Int) < 1)) with hb' | hb'
  ·have znd:=hb'; clear hb'
   refine WL.pin (i:=7) rfl znd ?_
   refine WL.skip rfl rfl rfl ?_
   refine WL.skip rfl rfl rfl ?_
   refine WL.skip rfl rfl rfl ?_
   refine WL.quiet (d:=11) rfl rfl rfl (q_pickT rfl rfl) ?_
   exact WL.cutEnd () trivial (.cons rfl (.cons (zl (or_l znd)) .nil)) .nil
  ·have zne:=hb'; clear hb'
   refine WL.pin (i:=7) rfl zne ?_
   refine WL.quiet (d:=8) rfl rfl rfl (q_move rfl) ?_
   refine WL.quiet (d:=9) rfl rfl rfl (q_len Try.underlying25 rfl) ?_
   refine WL.quiet (d:=10) rfl rfl rfl (q_gtr rfl rfl) ?_
   refine WL.quiet (d:=11) rfl rfl rfl (q_pickF rfl rfl) ?_
   exact WL.cutEnd () trivial (.cons rfl (.cons (zl (or_r zne)) .nil)) .nil
 ·skip
  refine WL.nil ?_
  refine WX.then ?_
  refine WC.cond rfl (fun ziP=>?_) (fun ziP=>?_)
  ·replace h:=ite_t h ziP
   refine WC.seq ?_
   refine WC.region ?_
   refine WL.quiet (d:=2) rfl rfl rfl (q_assign rfl) ?_
   refine WL.nil ?_
   refine WX.then ?_
   refine WC.ret ?_
   refine WX.thenRet ?_
   obtain rfl:=Option.some.inj h
   refine WX.bpRet Try.results27 (.tmp rfl .nil) (fun w hw=>?_)
   exact ⟨ret1 rfl,hw.sub .nil⟩
  ·replace h:=ite_f h ziP
   refine WC.skip ?_
   refine WX.then ?_
   obtain ⟨z8U,ztq,h⟩:=jp0_elim h
   refine WC.seqMid0 ((z8U = some r)) ([]) ([]) ?_ ?_
   ·skip
    refine WC.seq ?_
    refine WC.region ?_
    refine WL.quiet (d:=3) rfl rfl rfl (q_assign rfl) ?_
    refine WL.nil ?_
    refine WX.then ?_
    refine WC.block ?_
    refine WC.loop2 (fun (zc2 : Nat) (z3z : Int)=>(m_ref02_Valid_L2 z2n z8U zc2 z3z = some r)) (fun (zc2 : Nat) (z3z : Int)=>[(0,(.slice z5L z2n.length z5M)),(3,(.int .i64 z3z))]) (fun (zc2 : Nat) (z3z : Int)=>[]) (fun (zc2 : Nat) (z3z : Int)=>zc2) ⟨FUEL,0⟩ h (.cons rfl (.cons rfl .nil)) .nil ?_
    rintro zc2 z3z h
    obtain ⟨ziM,rfl⟩:=m_ref02_Valid_L2_fuel h
    rw [m_ref02_Valid_L2] at h
    refine WC.seq ?_
    refine WC.seq ?_
    refine WC.region ?_
    refine WL.quiet (d:=12) rfl rfl rfl (q_move rfl) ?_
    refine WL.quiet (d:=13) rfl rfl rfl (q_move rfl) ?_
    refine WL.quiet (d:=14) rfl rfl rfl (q_len Try.underlying25 rfl) ?_
    refine WL.quiet (d:=15) rfl rfl rfl (q_lss rfl rfl) ?_
    refine WL.nil ?_
    refine WX.then ?_
    refine WC.cond rfl (fun ziQ=>?_) (fun ziQ=>?_)
    ·replace h:=ite_t h ziQ
     refine WC.skip ?_
     refine WX.then ?_
     refine WC.seq ?_
     refine WC.block ?_
     refine WC.seq ?_
     obtain ⟨ztr,h⟩:=chk_elim h
     obtain ⟨zfr,zts,h⟩:=zb h
     obtain ⟨ziO,znf,h⟩:=zb h
     refine WC.region ?_
     refine WL.quiet (d:=18) rfl rfl rfl (q_move rfl) ?_
     refine WL.quiet (d:=19) rfl rfl rfl (q_move rfl) ?_
     refine WL.znth (dd:=20) rfl rfl (Z:=Z) (Pr:=(fun r x=>r = e42 x)) elT_25 rfl rfl znc ztr ?_
     rintro zxZ zy0 ztt zy1 rfl
     refine WL.quiet (d:=21) rfl rfl rfl (q_fieldAddr fo_42_0 rfl rfl) ?_
     refine WL.quiet (d:=22) rfl rfl rfl (q_loadA (cs:=[(.int .i64 (((nth z2n z3z).fBurst).fN)),(.int .i64 (((nth z2n z3z).fBurst).fD))]) aggT_28 rfl rfl (rd_zsub (off:=0) (s:=2) hz.pv ztt rfl)) ?_
     refine WL.callD (dd:=23) rfl rfl rfl (zg (l:=[.tmp 22]) Try.call53 (.cons rfl .nil)) (.nil : Sel [] [] []) (fun w hw=>by have pz:=(hz.call hw (.nil : Sel [] [] [])); exact w_ref02_Good (Z:=_)  (z3j:=(⟨(((nth z2n z3z).fBurst).fN),(((nth z2n z3z).fBurst).fD)⟩ : z2)) (r:=zfr) w pz  zts) ?_
     refine WL.quiet (d:=24) rfl rfl rfl (q_not rfl) ?_
     refine WL.quiet (d:=25) rfl rfl rfl (q_move rfl) ?_
     refine WL.cut0 True [(0,(.slice z5L z2n.length z5M)),(3,(.int .i64 z3z)),(33,(.bool ziO))] [] 8 ?_ (fun _=>?_)
     ·rcases Bool.eq_false_or_eq_true (!zfr) with hb' | hb'
      ·have zng:=hb'; clear hb'
       have ziR:=ite_t znf zng
       replace ziR:=Option.some.inj ziR
       refine WL.pin (i:=25) rfl zng ?_
       refine WL.skip rfl rfl rfl ?_
       refine WL.skip rfl rfl rfl ?_
       refine WL.skip rfl rfl rfl ?_
       refine WL.skip rfl rfl rfl ?_
       refine WL.skip rfl rfl rfl ?_
       refine WL.skip rfl rfl rfl ?_
       refine WL.skip rfl rfl rfl ?_
       refine WL.quiet (d:=33) rfl rfl rfl (q_pickT rfl rfl) ?_
       exact WL.cutEnd () trivial (.cons rfl (.cons rfl (.cons (zl ziR) .nil))) .nil
      ·have znh:=hb'; clear hb'
       have zaR:=ite_f znf znh
       obtain ⟨ztu,zaR⟩:=chk_elim zaR
       obtain ⟨ziN,ztv,zaR⟩:=zb zaR
       replace zaR:=Option.some.inj zaR
       refine WL.pin (i:=25) rfl znh ?_
       refine WL.quiet (d:=26) rfl rfl rfl (q_move rfl) ?_
       refine WL.quiet (d:=27) rfl rfl rfl (q_move rfl) ?_
       refine WL.znth (dd:=28) rfl rfl (Z:=Z) (Pr:=(fun r x=>r = e42 x)) elT_25 rfl rfl znc ztu ?_
       rintro zy2 zy3 ztw zy4 rfl
       refine WL.quiet (d:=29) rfl rfl rfl (q_fieldAddr fo_42_1 rfl rfl) ?_
       refine WL.quiet (d:=30) rfl rfl rfl (q_loadA (cs:=[(.int .i64 (((nth z2n z3z).fRate).fN)),(.int .i64 (((nth z2n z3z).fRate).fD))]) aggT_28 rfl rfl (rd_zsub (off:=2) (s:=2) hz.pv ztw rfl)) ?_
       refine WL.callD (dd:=31) rfl rfl rfl (zg (l:=[.tmp 30]) Try.call53 (.cons rfl .nil)) (.nil : Sel [] [] []) (fun w hw=>by have pz:=(hz.call hw (.nil : Sel [] [] [])); exact w_ref02_Good (Z:=_)  (z3j:=(⟨(((nth z2n z3z).fRate).fN),(((nth z2n z3z).fRate).fD)⟩ : z2)) (r:=ziN) w pz  ztv) ?_
       refine WL.quiet (d:=32) rfl rfl rfl (q_not rfl) ?_
       refine WL.quiet (d:=33) rfl rfl rfl (q_pickF rfl rfl) ?_
       exact WL.cutEnd () trivial (.cons rfl (.cons rfl (.cons (zl zaR) .nil))) .nil
     ·skip
      refine WL.nil ?_
      refine WX.then ?_
      refine WC.cond rfl (fun ziS=>?_) (fun ziS=>?_)
      ·replace h:=ite_t h ziS
       refine WC.seq ?_
       refine WC.region ?_
       refine WL.quiet (d:=2) rfl rfl rfl (q_assign rfl) ?_
       refine WL.nil ?_
       refine WX.then ?_
       refine WC.ret ?_
       refine WX.blockRet ?_
       refine WX.thenRet ?_
       refine WX.thenRet ?_
       refine WX.blockRet ?_
       refine WX.thenRet ?_
       obtain rfl:=Option.some.inj h
       refine WX.bpRet Try.results27 (.tmp rfl .nil) (fun w hw=>?_)
       exact ⟨ret1 rfl,hw.sub .nil⟩
      ·replace h:=ite_f h ziS
       refine WC.skip ?_
       refine WX.blockNormal ?_
       refine WX.then ?_
       refine WC.region ?_
       refine WL.quiet (d:=16) rfl rfl rfl (q_move rfl) ?_
       refine WL.quiet (d:=17) rfl rfl rfl (q_add rfl rfl rfl) ?_
       refine WL.quiet (d:=3) rfl rfl rfl (q_assign rfl) ?_
       refine WL.nil ?_
       exact WX.round (G:=Nat × Int) ⟨ziM,(i64 (z3z + 1))⟩ h (Nat.lt_succ_self _) (.cons rfl (.cons rfl .nil)) .nil
    ·replace h:=ite_f h ziQ
     refine WC.exit ?_
     refine WX.thenExit ?_
     refine WX.thenExit ?_
     refine WX.blockHit ?_
     exact WX.mid (G:=Unit) () h .nil .nil
   ·rintro  h
    replace h:=ztq.symm.trans h
    refine WC.seq ?_
    refine WC.region ?_
    refine WL.quiet (d:=2) rfl rfl rfl (q_assign rfl) ?_
    refine WL.nil ?_
    refine WX.then ?_
    refine WC.ret ?_
    obtain rfl:=Option.some.inj h
    refine WX.bpRet Try.results27 (.tmp rfl .nil) (fun w hw=>?_)
    exact ⟨ret1 rfl,hw.sub .nil⟩
def m_ref01_Make (z4c : Int) (z4q : Int) : Option (z2 × Int) :=
 if decide (z4q = 0) then some ((⟨0,0⟩ : z2),2) else (m_ref01_size z4c).bind fun zfs=>(m_ref01_size z4q).bind fun zft=>(m_ref01_gcd zfs zft).bind fun z33=>(m_ref01_size z4c).bind fun z5N=>chk ((z33 : Int) ≠ 0) ((m_ref01_size z4q).bind fun z69=>if (decide ((u64 (Int.tdiv z5N z33)) > 1073741824)) || (decide ((u64 (Int.tdiv z69 z33)) > 1073741824)) then some ((⟨0,0⟩ : z2),3) else if ((decide (z4c < 0)) && (decide (z4q > 0))) || ((decide (z4c > 0)) && (decide (z4q < 0))) then some ((⟨i64 (0 - (i64 (u64 (Int.tdiv z5N z33)))),i64 (u64 (Int.tdiv z69 z33))⟩ : z2),0) else some ((⟨i64 (u64 (Int.tdiv z5N z33)),i64 (u64 (Int.tdiv z69 z33))⟩ : z2),0))
set_option maxRecDepth 20000 in
theorem w_ref01_Make (Z : Zp)   (z4c : Int) (z4q : Int) (r : z2 × Int) (w₀ : World) (hz : PZ [] w₀ Z)
  (h : m_ref01_Make z4c z4q = some r) :
  Calls Try.prog 78 #[(.int .i64 z4c),(.int .i64 z4q)] w₀ fun e w'=>e = .returned (.tuple #[(.agg #[(.int .i64 r.1.fN),(.int .i64 r.1.fD)]),(.int .i64 r.2)]) ∧ Hp [] w₀ w' []:=by
 unfold m_ref01_Make at h
 refine Calls.ofWC (vs:=[(.int .i64 z4c),(.int .i64 z4q)]) (pre:=[]) (env:=[(0,(.int .i64 z4c)),(1,(.int .i64 z4q))]) Try.func78 rfl Try.ntmps78 rfl (Hp.nil w₀ _) rfl ?_
 refine WC.seq ?_
 refine WC.region ?_
 refine WL.new (dd:=4) rfl rfl rfl (e_alloc (cs:=[(.int .i64 0),(.int .i64 0)]) zeroT_28 rfl) ?_
 intro z4d _
 refine WL.quiet (d:=5) rfl rfl rfl (q_assign rfl) ?_
 refine WL.nil ?_
 refine WX.then ?_
 refine WC.seq ?_
 refine WC.seq ?_
 refine WC.region ?_
 refine WL.quiet (d:=9) rfl rfl rfl (q_move rfl) ?_
 refine WL.quiet (d:=10) rfl rfl rfl (q_eql rfl rfl) ?_
 refine WL.nil ?_
 refine WX.then ?_
 refine WC.cond rfl (fun ziT=>?_) (fun ziT=>?_)
 ·replace h:=ite_t h ziT
  refine WC.seq ?_
  refine WC.region ?_
  refine WL.quiet (d:=11) rfl rfl rfl (q_build (v:=(.agg #[(.int .i64 0),(.int .i64 0)])) (Eos.parts (l:=[]) .nil []) (fun _=>by kernel_rfl)) ?_
  refine WL.eff0 rfl rfl (e_store (vs:=[(.int .i64 0),(.int .i64 0)]) (ds:=[(.int .i64 0),(.int .i64 0)]) sizT_28 rfl rfl rfl rfl (oc_cons rfl (oc_cons rfl oc_nil)) .here (Nat.le_of_ble_eq_true rfl) rfl) ?_
  refine WL.quiet (d:=5) rfl rfl rfl (q_assign rfl) ?_
  refine WL.nil ?_
  refine WX.then ?_
  refine WC.ret ?_
  refine WX.thenRet ?_
  obtain rfl:=Option.some.inj h
  refine WX.bpRet Try.results78 (.agg rfl aggT_28 rfl (rd_all .here) (.tmp rfl .nil)) (fun w hw=>?_)
  exact ⟨ret2 rfl rfl,hw.sub .nil⟩
 ·replace h:=ite_f h ziT
  refine WC.skip ?_
  refine WX.then ?_
  refine WC.seq ?_
  obtain ⟨zfs,ztx,h⟩:=zb h
  obtain ⟨zft,zty,h⟩:=zb h
  obtain ⟨z33,ztz,h⟩:=zb h
  refine WC.region ?_
  refine WL.quiet (d:=12) rfl rfl rfl (q_move rfl) ?_
  refine WL.callD (dd:=13) rfl rfl rfl (zg (l:=[.tmp 12]) Try.call93 (.cons rfl .nil)) (.nil : Sel [stb z4d 28 [(.int .i64 0),(.int .i64 0)]] [] [stb z4d 28 [(.int .i64 0),(.int .i64 0)]]) (fun w hw=>by have pz:=(hz.call hw (.nil : Sel [stb z4d 28 [(.int .i64 0),(.int .i64 0)]] [] [stb z4d 28 [(.int .i64 0),(.int .i64 0)]])); exact w_ref01_size (Z:=_)  (z6P:=z4c) (r:=zfs) w pz  ztx) ?_
  refine WL.quiet (d:=14) rfl rfl rfl (q_move rfl) ?_
  refine WL.callD (dd:=15) rfl rfl rfl (zg (l:=[.tmp 14]) Try.call93 (.cons rfl .nil)) (.nil : Sel [stb z4d 28 [(.int .i64 0),(.int .i64 0)]] [] [stb z4d 28 [(.int .i64 0),(.int .i64 0)]]) (fun w hw=>by have pz:=(hz.call hw (.nil : Sel [stb z4d 28 [(.int .i64 0),(.int .i64 0)]] [] [stb z4d 28 [(.int .i64 0),(.int .i64 0)]])); exact w_ref01_size (Z:=_)  (z6P:=z4q) (r:=zft) w pz  zty) ?_
  refine WL.callD (dd:=16) rfl rfl rfl (zg (l:=[.tmp 13,.tmp 15]) Try.call92 (.cons rfl (.cons rfl .nil))) (.nil : Sel [stb z4d 28 [(.int .i64 0),(.int .i64 0)]] [] [stb z4d 28 [(.int .i64 0),(.int .i64 0)]]) (fun w hw=>by have pz:=(hz.call hw (.nil : Sel [stb z4d 28 [(.int .i64 0),(.int .i64 0)]] [] [stb z4d 28 [(.int .i64 0),(.int .i64 0)]])); exact w_ref01_gcd (Z:=_)  (z5i:=zfs) (z4I:=zft) (r:=z33) w pz  ztz) ?_
  refine WL.quiet (d:=6) rfl rfl rfl (q_assign rfl) ?_
  refine WL.nil ?_
  refine WX.then ?_
  refine WC.seq ?_
  obtain ⟨z5N,ztA,h⟩:=zb h
  obtain ⟨zni,h⟩:=chk_elim h
  obtain ⟨z69,ztB,h⟩:=zb h
  refine WC.draw (fun i=>[].contains i) [] rfl ?_
  refine WD.pure (i:=0) (d:=17) (by kernel_rfl) rfl (z6 (by kernel_rfl)) (z7 (by kernel_rfl)) rfl rfl rfl (fun _=>q_move rfl) ?_
  refine WD.enter (i:=1) (d:=18) (by kernel_rfl) rfl (z6 (by kernel_rfl)) (z7 (by kernel_rfl)) rfl rfl rfl (zg (l:=[.tmp 17]) Try.call93 (.cons rfl .nil)) (fun w hw=>by have pz:=(hz.call hw (.nil : Sel [stb z4d 28 [(.int .i64 0),(.int .i64 0)]] [] [stb z4d 28 [(.int .i64 0),(.int .i64 0)]])); exact w_ref01_size (Z:=_)  (z6P:=z4c) (r:=z5N) w pz  ztA) ?_
  refine WD.pure (i:=2) (d:=19) (by kernel_rfl) rfl (z6 (by kernel_rfl)) (z7 (by kernel_rfl)) rfl rfl rfl (fun _=>q_move rfl) ?_
  refine WD.pure (i:=3) (d:=20) (by kernel_rfl) rfl (z6 (by kernel_rfl)) (z7 (by kernel_rfl)) rfl rfl rfl (fun _=>q_quo rfl rfl zni rfl) ?_
  refine WD.pure (i:=4) (d:=21) (by kernel_rfl) rfl (z6 (by kernel_rfl)) (z7 (by kernel_rfl)) rfl rfl rfl (fun _=>q_move rfl) ?_
  refine WD.enter (i:=5) (d:=22) (by kernel_rfl) rfl (z6 (by kernel_rfl)) (z7 (by kernel_rfl)) rfl rfl rfl (zg (l:=[.tmp 21]) Try.call93 (.cons rfl .nil)) (fun w hw=>by have pz:=(hz.call hw (.nil : Sel [stb z4d 28 [(.int .i64 0),(.int .i64 0)]] [] [stb z4d 28 [(.int .i64 0),(.int .i64 0)]])); exact w_ref01_size (Z:=_)  (z6P:=z4q) (r:=z69) w pz  ztB) ?_
  refine WD.pure (i:=6) (d:=23) (by kernel_rfl) rfl (z6 (by kernel_rfl)) (z7 (by kernel_rfl)) rfl rfl rfl (fun _=>q_move rfl) ?_
  refine WD.pure (i:=7) (d:=24) (by kernel_rfl) rfl (z6 (by kernel_rfl)) (z7 (by kernel_rfl)) rfl rfl rfl (fun _=>q_quo rfl rfl zni rfl) ?_
  refine WD.pure (i:=8) (d:=7) (by kernel_rfl) rfl (z6 (by kernel_rfl)) (z7 (by kernel_rfl)) rfl rfl rfl (fun _=>q_assign rfl) ?_
  refine WD.pure (i:=9) (d:=8) (by kernel_rfl) rfl (z6 (by kernel_rfl)) (z7 (by kernel_rfl)) rfl rfl rfl (fun _=>q_assign rfl) ?_
  refine WD.done (by kernel_rfl) ?_
  refine WX.then ?_
  refine WC.seq ?_
  refine WC.seq ?_
  refine WC.region ?_
  refine WL.quiet (d:=25) rfl rfl rfl (q_move rfl) ?_
  refine WL.quiet (d:=26) rfl rfl rfl (q_gtr rfl rfl) ?_
  refine WL.quiet (d:=27) rfl rfl rfl (q_move rfl) ?_
  refine WL.cut0 True [(0,(.int .i64 z4c)),(1,(.int .i64 z4q)),(4,(.pointer (some ⟨z4d,0,none⟩))),(7,(.int .u64 (u64 (Int.tdiv z5N z33)))),(8,(.int .u64 (u64 (Int.tdiv z69 z33)))),(30,(.bool ((decide ((u64 (Int.tdiv z5N z33)) > 1073741824)) || (decide ((u64 (Int.tdiv z69 z33)) > 1073741824)))))] [stb z4d 28 [(.int .i64 0),(.int .i64 0)]] 3 ?_ (fun _=>?_)
  ·rcases Bool.eq_false_or_eq_true (decide ((u64 (Int.tdiv z5N z33)) > 1073741824)) with hb' | hb'
   ·have znj:=hb'; clear hb'
    refine WL.pin (i:=27) rfl znj ?_
    refine WL.skip rfl rfl rfl ?_
    refine WL.skip rfl rfl rfl ?_
    refine WL.quiet (d:=30) rfl rfl rfl (q_pickT rfl rfl) ?_
    exact WL.cutEnd () trivial (.cons rfl (.cons rfl (.cons rfl (.cons rfl (.cons rfl (.cons (zl (or_l znj)) .nil)))))) (.cons .here .nil)
   ·have znk:=hb'; clear hb'
    refine WL.pin (i:=27) rfl znk ?_
    refine WL.quiet (d:=28) rfl rfl rfl (q_move rfl) ?_
    refine WL.quiet (d:=29) rfl rfl rfl (q_gtr rfl rfl) ?_
    refine WL.quiet (d:=30) rfl rfl rfl (q_pickF rfl rfl) ?_
    exact WL.cutEnd () trivial (.cons rfl (.cons rfl (.cons rfl (.cons rfl (.cons rfl (.cons (zl (or_r znk)) .nil)))))) (.cons .here .nil)
  ·skip
   refine WL.nil ?_
   refine WX.then ?_
   refine WC.cond rfl (fun ziU=>?_) (fun ziU=>?_)
   ·replace h:=ite_t h ziU
    refine WC.seq ?_
    refine WC.region ?_
    refine WL.quiet (d:=31) rfl rfl rfl (q_build (v:=(.agg #[(.int .i64 0),(.int .i64 0)])) (Eos.parts (l:=[]) .nil []) (fun _=>by kernel_rfl)) ?_
    refine WL.eff0 rfl rfl (e_store (vs:=[(.int .i64 0),(.int .i64 0)]) (ds:=[(.int .i64 0),(.int .i64 0)]) sizT_28 rfl rfl rfl rfl (oc_cons rfl (oc_cons rfl oc_nil)) .here (Nat.le_of_ble_eq_true rfl) rfl) ?_
    refine WL.quiet (d:=5) rfl rfl rfl (q_assign rfl) ?_
    refine WL.nil ?_
    refine WX.then ?_
    refine WC.ret ?_
    refine WX.thenRet ?_
    obtain rfl:=Option.some.inj h
    refine WX.bpRet Try.results78 (.agg rfl aggT_28 rfl (rd_all .here) (.tmp rfl .nil)) (fun w hw=>?_)
    exact ⟨ret2 rfl rfl,hw.sub .nil⟩
   ·replace h:=ite_f h ziU
    refine WC.skip ?_
    refine WX.then ?_
    refine WC.seq ?_
    refine WC.seq ?_
    refine WC.region ?_
    refine WL.quiet (d:=32) rfl rfl rfl (q_move rfl) ?_
    refine WL.quiet (d:=33) rfl rfl rfl (q_lss rfl rfl) ?_
    refine WL.quiet (d:=34) rfl rfl rfl (q_move rfl) ?_
    refine WL.cut0 True [(0,(.int .i64 z4c)),(1,(.int .i64 z4q)),(4,(.pointer (some ⟨z4d,0,none⟩))),(7,(.int .u64 (u64 (Int.tdiv z5N z33)))),(8,(.int .u64 (u64 (Int.tdiv z69 z33)))),(37,(.bool ((decide (z4c < 0)) && (decide (z4q > 0)))))] [stb z4d 28 [(.int .i64 0),(.int .i64 0)]] 3 ?_ (fun _=>?_)
    ·rcases Bool.eq_false_or_eq_true (decide (z4c < 0)) with hb' | hb'
     ·have znl:=hb'; clear hb'
      refine WL.pin (i:=34) rfl znl ?_
      refine WL.quiet (d:=35) rfl rfl rfl (q_move rfl) ?_
      refine WL.quiet (d:=36) rfl rfl rfl (q_gtr rfl rfl) ?_
      refine WL.quiet (d:=37) rfl rfl rfl (q_pickT rfl rfl) ?_
      exact WL.cutEnd () trivial (.cons rfl (.cons rfl (.cons rfl (.cons rfl (.cons rfl (.cons (zl (and_r znl)) .nil)))))) (.cons .here .nil)
     ·have znm:=hb'; clear hb'
      refine WL.pin (i:=34) rfl znm ?_
      refine WL.skip rfl rfl rfl ?_
      refine WL.skip rfl rfl rfl ?_
      refine WL.quiet (d:=37) rfl rfl rfl (q_pickF rfl rfl) ?_
      exact WL.cutEnd () trivial (.cons rfl (.cons rfl (.cons rfl (.cons rfl (.cons rfl (.cons (zl (and_l znm)) .nil)))))) (.cons .here .nil)
    ·skip
     refine WL.quiet (d:=38) rfl rfl rfl (q_move rfl) ?_
     refine WL.cut0 True [(4,(.pointer (some ⟨z4d,0,none⟩))),(7,(.int .u64 (u64 (Int.tdiv z5N z33)))),(8,(.int .u64 (u64 (Int.tdiv z69 z33)))),(45,(.bool (((decide (z4c < 0)) && (decide (z4q > 0))) || ((decide (z4c > 0)) && (decide (z4q < 0))))))] [stb z4d 28 [(.int .i64 0),(.int .i64 0)]] 7 ?_ (fun _=>?_)
     ·rcases Bool.eq_false_or_eq_true ((decide (z4c < 0)) && (decide (z4q > 0))) with hb' | hb'
      ·have znn:=hb'; clear hb'
       refine WL.pin (i:=38) rfl znn ?_
       refine WL.skip rfl rfl rfl ?_
       refine WL.skip rfl rfl rfl ?_
       refine WL.skip rfl rfl rfl ?_
       refine WL.skip rfl rfl rfl ?_
       refine WL.skip rfl rfl rfl ?_
       refine WL.skip rfl rfl rfl ?_
       refine WL.quiet (d:=45) rfl rfl rfl (q_pickT rfl rfl) ?_
       exact WL.cutEnd () trivial (.cons rfl (.cons rfl (.cons rfl (.cons (zl (or_l znn)) .nil)))) (.cons .here .nil)
      ·have zno:=hb'; clear hb'
       refine WL.pin (i:=38) rfl zno ?_
       refine WL.quiet (d:=39) rfl rfl rfl (q_move rfl) ?_
       refine WL.quiet (d:=40) rfl rfl rfl (q_gtr rfl rfl) ?_
       refine WL.quiet (d:=41) rfl rfl rfl (q_move rfl) ?_
       refine WL.cut0 True [(4,(.pointer (some ⟨z4d,0,none⟩))),(7,(.int .u64 (u64 (Int.tdiv z5N z33)))),(8,(.int .u64 (u64 (Int.tdiv z69 z33)))),(38,(.bool false)),(44,(.bool ((decide (z4c > 0)) && (decide (z4q < 0)))))] [stb z4d 28 [(.int .i64 0),(.int .i64 0)]] 3 ?_ (fun _=>?_)
       ·rcases Bool.eq_false_or_eq_true (decide (z4c > 0)) with hb' | hb'
        ·have znp:=hb'; clear hb'
         refine WL.pin (i:=41) rfl znp ?_
         refine WL.quiet (d:=42) rfl rfl rfl (q_move rfl) ?_
         refine WL.quiet (d:=43) rfl rfl rfl (q_lss rfl rfl) ?_
         refine WL.quiet (d:=44) rfl rfl rfl (q_pickT rfl rfl) ?_
         exact WL.cutEnd () trivial (.cons rfl (.cons rfl (.cons rfl (.cons rfl (.cons (zl (and_r znp)) .nil))))) (.cons .here .nil)
        ·have znq:=hb'; clear hb'
         refine WL.pin (i:=41) rfl znq ?_
         refine WL.skip rfl rfl rfl ?_
         refine WL.skip rfl rfl rfl ?_
         refine WL.quiet (d:=44) rfl rfl rfl (q_pickF rfl rfl) ?_
         exact WL.cutEnd () trivial (.cons rfl (.cons rfl (.cons rfl (.cons rfl (.cons (zl (and_l znq)) .nil))))) (.cons .here .nil)
       ·skip
        refine WL.quiet (d:=45) rfl rfl rfl (q_pickF rfl rfl) ?_
        exact WL.cutEnd () trivial (.cons rfl (.cons rfl (.cons rfl (.cons (zl (or_r zno)) .nil)))) (.cons .here .nil)
     ·skip
      refine WL.nil ?_
      refine WX.then ?_
      refine WC.cond rfl (fun ziV=>?_) (fun ziV=>?_)
      ·replace h:=ite_t h ziV
       refine WC.seq ?_
       refine WC.region ?_
       refine WL.quiet (d:=46) rfl rfl rfl (q_move rfl) ?_
       refine WL.quiet (d:=47) rfl rfl rfl (q_conv Try.underlying90 Try.underlying3 rfl rfl) ?_
       refine WL.quiet (d:=48) rfl rfl rfl (q_neg rfl rfl) ?_
       refine WL.quiet (d:=49) rfl rfl rfl (q_move rfl) ?_
       refine WL.quiet (d:=50) rfl rfl rfl (q_conv Try.underlying90 Try.underlying3 rfl rfl) ?_
       refine WL.quiet (d:=51) rfl rfl rfl (q_build (v:=(.agg #[(.int .i64 (i64 (0 - (i64 (u64 (Int.tdiv z5N z33)))))),(.int .i64 (i64 (u64 (Int.tdiv z69 z33))))])) (Eos.parts (l:=[.tmp 48,.tmp 50]) (.cons rfl (.cons rfl .nil)) [0,1]) (fun _=>by kernel_rfl)) ?_
       refine WL.eff0 rfl rfl (e_store (vs:=[(.int .i64 (i64 (0 - (i64 (u64 (Int.tdiv z5N z33)))))),(.int .i64 (i64 (u64 (Int.tdiv z69 z33))))]) (ds:=[(.int .i64 (i64 (0 - (i64 (u64 (Int.tdiv z5N z33)))))),(.int .i64 (i64 (u64 (Int.tdiv z69 z33))))]) sizT_28 rfl rfl rfl rfl (oc_cons rfl (oc_cons rfl oc_nil)) .here (Nat.le_of_ble_eq_true rfl) rfl) ?_
       refine WL.quiet (d:=5) rfl rfl rfl (q_assign rfl) ?_
       refine WL.nil ?_
       refine WX.then ?_
       refine WC.ret ?_
       refine WX.thenRet ?_
       obtain rfl:=Option.some.inj h
       refine WX.bpRet Try.results78 (.agg rfl aggT_28 rfl (rd_all .here) (.tmp rfl .nil)) (fun w hw=>?_)
       exact ⟨ret2 rfl rfl,hw.sub .nil⟩
      ·replace h:=ite_f h ziV
       refine WC.skip ?_
       refine WX.then ?_
       refine WC.seq ?_
       refine WC.region ?_
       refine WL.quiet (d:=52) rfl rfl rfl (q_move rfl) ?_
       refine WL.quiet (d:=53) rfl rfl rfl (q_conv Try.underlying90 Try.underlying3 rfl rfl) ?_
       refine WL.quiet (d:=54) rfl rfl rfl (q_move rfl) ?_
       refine WL.quiet (d:=55) rfl rfl rfl (q_conv Try.underlying90 Try.underlying3 rfl rfl) ?_
       refine WL.quiet (d:=56) rfl rfl rfl (q_build (v:=(.agg #[(.int .i64 (i64 (u64 (Int.tdiv z5N z33)))),(.int .i64 (i64 (u64 (Int.tdiv z69 z33))))])) (Eos.parts (l:=[.tmp 53,.tmp 55]) (.cons rfl (.cons rfl .nil)) [0,1]) (fun _=>by kernel_rfl)) ?_
       refine WL.eff0 rfl rfl (e_store (vs:=[(.int .i64 (i64 (u64 (Int.tdiv z5N z33)))),(.int .i64 (i64 (u64 (Int.tdiv z69 z33))))]) (ds:=[(.int .i64 (i64 (u64 (Int.tdiv z5N z33)))),(.int .i64 (i64 (u64 (Int.tdiv z69 z33))))]) sizT_28 rfl rfl rfl rfl (oc_cons rfl (oc_cons rfl oc_nil)) .here (Nat.le_of_ble_eq_true rfl) rfl) ?_
       refine WL.quiet (d:=5) rfl rfl rfl (q_assign rfl) ?_
       refine WL.nil ?_
       refine WX.then ?_
       refine WC.ret ?_
       obtain rfl:=Option.some.inj h
       refine WX.bpRet Try.results78 (.agg rfl aggT_28 rfl (rd_all .here) (.tmp rfl .nil)) (fun w hw=>?_)
       exact ⟨ret2 rfl rfl,hw.sub .nil⟩
def m_ref01_Do (z4J : Int) (zG : z2) (zD : z2) : Option (z2 × Int) :=
 (m_ref01_Valid zG).bind fun zfu=>(if !zfu then some true else (m_ref01_Valid zD).bind fun ziW=>some (!ziW)).bind fun zdV=>if zdV || ((decide (z4J = 3)) && (decide (zD.fN = 0))) then some ((⟨0,0⟩ : z2),2) else if decide (z4J = 0) then (m_ref01_Make (i64 ((i64 (zG.fN * zD.fD)) + (i64 (zD.fN * zG.fD)))) (i64 (zG.fD * zD.fD))).bind fun z9Y=>some (z9Y.1,z9Y.2) else if decide (z4J = 1) then (m_ref01_Make (i64 ((i64 (zG.fN * zD.fD)) - (i64 (zD.fN * zG.fD)))) (i64 (zG.fD * zD.fD))).bind fun z9Z=>some (z9Z.1,z9Z.2) else if decide (z4J = 2) then (m_ref01_Make (i64 (zG.fN * zD.fN)) (i64 (zG.fD * zD.fD))).bind fun za0=>some (za0.1,za0.2) else (m_ref01_Make (i64 (zG.fN * zD.fD)) (i64 (zG.fD * zD.fN))).bind fun za1=>some (za1.1,za1.2)
set_option maxRecDepth 20000 in
theorem w_ref01_Do (Z : Zp)   (z4J : Int) (zG : z2) (zD : z2) (r : z2 × Int) (w₀ : World) (hz : PZ [] w₀ Z)
  (h : m_ref01_Do z4J zG zD = some r) :
  Calls Try.prog 59 #[(.int .i64 z4J),(.agg #[(.int .i64 zG.fN),(.int .i64 zG.fD)]),(.agg #[(.int .i64 zD.fN),(.int .i64 zD.fD)])] w₀ fun e w'=>e = .returned (.tuple #[(.agg #[(.int .i64 r.1.fN),(.int .i64 r.1.fD)]),(.int .i64 r.2)]) ∧ Hp [] w₀ w' []:=by
 unfold m_ref01_Do at h
 refine Calls.ofWC (vs:=[(.int .i64 z4J),(.agg #[(.int .i64 zG.fN),(.int .i64 zG.fD)]),(.agg #[(.int .i64 zD.fN),(.int .i64 zD.fD)])]) (pre:=[]) (env:=[(0,(.int .i64 z4J)),(1,(.agg #[(.int .i64 zG.fN),(.int .i64 zG.fD)])),(2,(.agg #[(.int .i64 zD.fN),(.int .i64 zD.fD)]))]) Try.func59 rfl Try.ntmps59 rfl (Hp.nil w₀ _) rfl ?_
 refine WC.seq ?_
 refine WC.region ?_
 refine WL.new (dd:=4) rfl rfl rfl (e_box (cs:=[(.int .i64 zG.fN),(.int .i64 zG.fD)]) rfl rfl) ?_
 intro z3k _
 refine WL.new (dd:=5) rfl rfl rfl (e_box (cs:=[(.int .i64 zD.fN),(.int .i64 zD.fD)]) rfl rfl) ?_
 intro z3l _
 refine WL.new (dd:=6) rfl rfl rfl (e_alloc (cs:=[(.int .i64 0),(.int .i64 0)]) zeroT_28 rfl) ?_
 intro z3m _
 refine WL.quiet (d:=7) rfl rfl rfl (q_assign rfl) ?_
 refine WL.nil ?_
 refine WX.then ?_
 refine WC.seq ?_
 refine WC.seq ?_
 obtain ⟨zfu,ztC,h⟩:=zb h
 obtain ⟨zdV,znr,h⟩:=zb h
 refine WC.region ?_
 refine WL.quiet (d:=8) rfl rfl rfl (q_loadA (cs:=[(.int .i64 zG.fN),(.int .i64 zG.fD)]) aggT_28 rfl rfl (rd_all (.there (.there .here)))) ?_
 refine WL.callD (dd:=9) rfl rfl rfl (zg (l:=[.tmp 8]) Try.call76 (.cons rfl .nil)) (.nil : Sel [stb z3m 28 [(.int .i64 0),(.int .i64 0)],stb z3l 28 [(.int .i64 zD.fN),(.int .i64 zD.fD)],stb z3k 28 [(.int .i64 zG.fN),(.int .i64 zG.fD)]] [] [stb z3m 28 [(.int .i64 0),(.int .i64 0)],stb z3l 28 [(.int .i64 zD.fN),(.int .i64 zD.fD)],stb z3k 28 [(.int .i64 zG.fN),(.int .i64 zG.fD)]]) (fun w hw=>by have pz:=(hz.call hw (.nil : Sel [stb z3m 28 [(.int .i64 0),(.int .i64 0)],stb z3l 28 [(.int .i64 zD.fN),(.int .i64 zD.fD)],stb z3k 28 [(.int .i64 zG.fN),(.int .i64 zG.fD)]] [] [stb z3m 28 [(.int .i64 0),(.int .i64 0)],stb z3l 28 [(.int .i64 zD.fN),(.int .i64 zD.fD)],stb z3k 28 [(.int .i64 zG.fN),(.int .i64 zG.fD)]])); exact w_ref01_Valid (Z:=_)  (z1L:=zG) (r:=zfu) w pz  ztC) ?_
 refine WL.quiet (d:=10) rfl rfl rfl (q_not rfl) ?_
 refine WL.quiet (d:=11) rfl rfl rfl (q_move rfl) ?_
 refine WL.cut0 True [(0,(.int .i64 z4J)),(4,(.pointer (some ⟨z3k,0,none⟩))),(5,(.pointer (some ⟨z3l,0,none⟩))),(6,(.pointer (some ⟨z3m,0,none⟩))),(15,(.bool zdV))] [stb z3m 28 [(.int .i64 0),(.int .i64 0)],stb z3l 28 [(.int .i64 zD.fN),(.int .i64 zD.fD)],stb z3k 28 [(.int .i64 zG.fN),(.int .i64 zG.fD)]] 4 ?_ (fun _=>?_)
 ·rcases Bool.eq_false_or_eq_true (!zfu) with hb' | hb'
  ·have zns:=hb'; clear hb'
   have ziX:=ite_t znr zns
   replace ziX:=Option.some.inj ziX
   refine WL.pin (i:=11) rfl zns ?_
   refine WL.skip rfl rfl rfl ?_
   refine WL.skip rfl rfl rfl ?_
   refine WL.skip rfl rfl rfl ?_
   refine WL.quiet (d:=15) rfl rfl rfl (q_pickT rfl rfl) ?_
   exact WL.cutEnd () trivial (.cons rfl (.cons rfl (.cons rfl (.cons rfl (.cons (zl ziX) .nil))))) (.cons .here (.cons .here (.cons .here .nil)))
  ·have znt:=hb'; clear hb'
   have zdW:=ite_f znr znt
   obtain ⟨ziW,ztD,zdW⟩:=zb zdW
   replace zdW:=Option.some.inj zdW
   refine WL.pin (i:=11) rfl znt ?_
   refine WL.quiet (d:=12) rfl rfl rfl (q_loadA (cs:=[(.int .i64 zD.fN),(.int .i64 zD.fD)]) aggT_28 rfl rfl (rd_all (.there .here))) ?_
   refine WL.callD (dd:=13) rfl rfl rfl (zg (l:=[.tmp 12]) Try.call76 (.cons rfl .nil)) (.nil : Sel [stb z3m 28 [(.int .i64 0),(.int .i64 0)],stb z3l 28 [(.int .i64 zD.fN),(.int .i64 zD.fD)],stb z3k 28 [(.int .i64 zG.fN),(.int .i64 zG.fD)]] [] [stb z3m 28 [(.int .i64 0),(.int .i64 0)],stb z3l 28 [(.int .i64 zD.fN),(.int .i64 zD.fD)],stb z3k 28 [(.int .i64 zG.fN),(.int .i64 zG.fD)]]) (fun w hw=>by have pz:=(hz.call hw (.nil : Sel [stb z3m 28 [(.int .i64 0),(.int .i64 0)],stb z3l 28 [(.int .i64 zD.fN),(.int .i64 zD.fD)],stb z3k 28 [(.int .i64 zG.fN),(.int .i64 zG.fD)]] [] [stb z3m 28 [(.int .i64 0),(.int .i64 0)],stb z3l 28 [(.int .i64 zD.fN),(.int .i64 zD.fD)],stb z3k 28 [(.int .i64 zG.fN),(.int .i64 zG.fD)]])); exact w_ref01_Valid (Z:=_)  (z1L:=zD) (r:=ziW) w pz  ztD) ?_
   refine WL.quiet (d:=14) rfl rfl rfl (q_not rfl) ?_
   refine WL.quiet (d:=15) rfl rfl rfl (q_pickF rfl rfl) ?_
   exact WL.cutEnd () trivial (.cons rfl (.cons rfl (.cons rfl (.cons rfl (.cons (zl zdW) .nil))))) (.cons .here (.cons .here (.cons .here .nil)))
 ·skip
  refine WL.quiet (d:=16) rfl rfl rfl (q_move rfl) ?_
  refine WL.cut0 True [(0,(.int .i64 z4J)),(4,(.pointer (some ⟨z3k,0,none⟩))),(5,(.pointer (some ⟨z3l,0,none⟩))),(6,(.pointer (some ⟨z3m,0,none⟩))),(24,(.bool (zdV || ((decide (z4J = 3)) && (decide (zD.fN = 0))))))] [stb z3m 28 [(.int .i64 0),(.int .i64 0)],stb z3l 28 [(.int .i64 zD.fN),(.int .i64 zD.fD)],stb z3k 28 [(.int .i64 zG.fN),(.int .i64 zG.fD)]] 8 ?_ (fun _=>?_)
  ·rcases Bool.eq_false_or_eq_true zdV with hb' | hb'
   ·have znu:=hb'; clear hb'
    refine WL.pin (i:=16) rfl znu ?_
    refine WL.skip rfl rfl rfl ?_
    refine WL.skip rfl rfl rfl ?_
    refine WL.skip rfl rfl rfl ?_
    refine WL.skip rfl rfl rfl ?_
    refine WL.skip rfl rfl rfl ?_
    refine WL.skip rfl rfl rfl ?_
    refine WL.skip rfl rfl rfl ?_
    refine WL.quiet (d:=24) rfl rfl rfl (q_pickT rfl rfl) ?_
    exact WL.cutEnd () trivial (.cons rfl (.cons rfl (.cons rfl (.cons rfl (.cons (zl (or_l znu)) .nil))))) (.cons .here (.cons .here (.cons .here .nil)))
   ·have znv:=hb'; clear hb'
    refine WL.pin (i:=16) rfl znv ?_
    refine WL.quiet (d:=17) rfl rfl rfl (q_move rfl) ?_
    refine WL.quiet (d:=18) rfl rfl rfl (q_eql rfl rfl) ?_
    refine WL.quiet (d:=19) rfl rfl rfl (q_move rfl) ?_
    refine WL.cut0 True [(0,(.int .i64 z4J)),(4,(.pointer (some ⟨z3k,0,none⟩))),(5,(.pointer (some ⟨z3l,0,none⟩))),(6,(.pointer (some ⟨z3m,0,none⟩))),(16,(.bool false)),(23,(.bool ((decide (z4J = 3)) && (decide (zD.fN = 0)))))] [stb z3m 28 [(.int .i64 0),(.int .i64 0)],stb z3l 28 [(.int .i64 zD.fN),(.int .i64 zD.fD)],stb z3k 28 [(.int .i64 zG.fN),(.int .i64 zG.fD)]] 4 ?_ (fun _=>?_)
    ·rcases Bool.eq_false_or_eq_true (decide (z4J = 3)) with hb' | hb'
     ·have znw:=hb'; clear hb'
      refine WL.pin (i:=19) rfl znw ?_
      refine WL.quiet (d:=20) rfl rfl rfl (q_fieldAddr fo_28_0 rfl rfl) ?_
      refine WL.quiet (d:=21) rfl rfl rfl (q_load1 oneT_3 rfl (rd_stb (.there .here) rfl)) ?_
      refine WL.quiet (d:=22) rfl rfl rfl (q_eql rfl rfl) ?_
      refine WL.quiet (d:=23) rfl rfl rfl (q_pickT rfl rfl) ?_
      exact WL.cutEnd () trivial (.cons rfl (.cons rfl (.cons rfl (.cons rfl (.cons rfl (.cons (zl (and_r znw)) .nil)))))) (.cons .here (.cons .here (.cons .here .nil)))
     ·have znx:=hb'; clear hb'
      refine WL.pin (i:=19) rfl znx ?_
      refine WL.skip rfl rfl rfl ?_
      refine WL.skip rfl rfl rfl ?_
      refine WL.skip rfl rfl rfl ?_
      refine WL.quiet (d:=23) rfl rfl rfl (q_pickF rfl rfl) ?_
      exact WL.cutEnd () trivial (.cons rfl (.cons rfl (.cons rfl (.cons rfl (.cons rfl (.cons (zl (and_l znx)) .nil)))))) (.cons .here (.cons .here (.cons .here .nil)))
    ·skip
     refine WL.quiet (d:=24) rfl rfl rfl (q_pickF rfl rfl) ?_
     exact WL.cutEnd () trivial (.cons rfl (.cons rfl (.cons rfl (.cons rfl (.cons (zl (or_r znv)) .nil))))) (.cons .here (.cons .here (.cons .here .nil)))
  ·skip
   refine WL.nil ?_
   refine WX.then ?_
   refine WC.cond rfl (fun ziY=>?_) (fun ziY=>?_)
   ·replace h:=ite_t h ziY
    refine WC.seq ?_
    refine WC.region ?_
    refine WL.quiet (d:=25) rfl rfl rfl (q_build (v:=(.agg #[(.int .i64 0),(.int .i64 0)])) (Eos.parts (l:=[]) .nil []) (fun _=>by kernel_rfl)) ?_
    refine WL.eff0 rfl rfl (e_store (vs:=[(.int .i64 0),(.int .i64 0)]) (ds:=[(.int .i64 0),(.int .i64 0)]) sizT_28 rfl rfl rfl rfl (oc_cons rfl (oc_cons rfl oc_nil)) .here (Nat.le_of_ble_eq_true rfl) rfl) ?_
    refine WL.quiet (d:=7) rfl rfl rfl (q_assign rfl) ?_
    refine WL.nil ?_
    refine WX.then ?_
    refine WC.ret ?_
    refine WX.thenRet ?_
    obtain rfl:=Option.some.inj h
    refine WX.bpRet Try.results59 (.agg rfl aggT_28 rfl (rd_all .here) (.tmp rfl .nil)) (fun w hw=>?_)
    exact ⟨ret2 rfl rfl,hw.sub .nil⟩
   ·replace h:=ite_f h ziY
    refine WC.skip ?_
    refine WX.then ?_
    refine WC.seq ?_
    refine WC.seq ?_
    refine WC.region ?_
    refine WL.quiet (d:=26) rfl rfl rfl (q_move rfl) ?_
    refine WL.nil ?_
    refine WX.then ?_
    refine WC.block ?_
    refine WC.seq ?_
    refine WC.region ?_
    refine WL.quiet (d:=28) rfl rfl rfl (q_eql rfl rfl) ?_
    refine WL.quiet (d:=27) rfl rfl rfl (q_assign rfl) ?_
    refine WL.nil ?_
    refine WX.then ?_
    refine WC.cond rfl (fun ziZ=>?_) (fun ziZ=>?_)
    ·replace h:=ite_t h ziZ
     refine WC.seq ?_
     obtain ⟨z9Y,ztE,h⟩:=zb h
     refine WC.region ?_
     refine WL.quiet (d:=29) rfl rfl rfl (q_fieldAddr fo_28_0 rfl rfl) ?_
     refine WL.quiet (d:=30) rfl rfl rfl (q_load1 oneT_3 rfl (rd_stb (.there (.there .here)) rfl)) ?_
     refine WL.quiet (d:=31) rfl rfl rfl (q_fieldAddr fo_28_1 rfl rfl) ?_
     refine WL.quiet (d:=32) rfl rfl rfl (q_load1 oneT_3 rfl (rd_stb (.there .here) rfl)) ?_
     refine WL.quiet (d:=33) rfl rfl rfl (q_mul rfl rfl rfl) ?_
     refine WL.quiet (d:=34) rfl rfl rfl (q_fieldAddr fo_28_0 rfl rfl) ?_
     refine WL.quiet (d:=35) rfl rfl rfl (q_load1 oneT_3 rfl (rd_stb (.there .here) rfl)) ?_
     refine WL.quiet (d:=36) rfl rfl rfl (q_fieldAddr fo_28_1 rfl rfl) ?_
     refine WL.quiet (d:=37) rfl rfl rfl (q_load1 oneT_3 rfl (rd_stb (.there (.there .here)) rfl)) ?_
     refine WL.quiet (d:=38) rfl rfl rfl (q_mul rfl rfl rfl) ?_
     refine WL.quiet (d:=39) rfl rfl rfl (q_add rfl rfl rfl) ?_
     refine WL.quiet (d:=40) rfl rfl rfl (q_fieldAddr fo_28_1 rfl rfl) ?_
     refine WL.quiet (d:=41) rfl rfl rfl (q_load1 oneT_3 rfl (rd_stb (.there (.there .here)) rfl)) ?_
     refine WL.quiet (d:=42) rfl rfl rfl (q_fieldAddr fo_28_1 rfl rfl) ?_
     refine WL.quiet (d:=43) rfl rfl rfl (q_load1 oneT_3 rfl (rd_stb (.there .here) rfl)) ?_
     refine WL.quiet (d:=44) rfl rfl rfl (q_mul rfl rfl rfl) ?_
     refine WL.callD (dd:=45) rfl rfl rfl (zg (l:=[.tmp 39,.tmp 44]) Try.call78 (.cons rfl (.cons rfl .nil))) (.nil : Sel [stb z3m 28 [(.int .i64 0),(.int .i64 0)],stb z3l 28 [(.int .i64 zD.fN),(.int .i64 zD.fD)],stb z3k 28 [(.int .i64 zG.fN),(.int .i64 zG.fD)]] [] [stb z3m 28 [(.int .i64 0),(.int .i64 0)],stb z3l 28 [(.int .i64 zD.fN),(.int .i64 zD.fD)],stb z3k 28 [(.int .i64 zG.fN),(.int .i64 zG.fD)]]) (fun w hw=>by have pz:=(hz.call hw (.nil : Sel [stb z3m 28 [(.int .i64 0),(.int .i64 0)],stb z3l 28 [(.int .i64 zD.fN),(.int .i64 zD.fD)],stb z3k 28 [(.int .i64 zG.fN),(.int .i64 zG.fD)]] [] [stb z3m 28 [(.int .i64 0),(.int .i64 0)],stb z3l 28 [(.int .i64 zD.fN),(.int .i64 zD.fD)],stb z3k 28 [(.int .i64 zG.fN),(.int .i64 zG.fD)]])); exact w_ref01_Make (Z:=_)  (z4c:=(i64 ((i64 (zG.fN * zD.fD)) + (i64 (zD.fN * zG.fD))))) (z4q:=(i64 (zG.fD * zD.fD))) (r:=z9Y) w pz  ztE) ?_
     refine WL.quiet (d:=46) rfl rfl rfl (q_extract rfl rfl) ?_
     refine WL.quiet (d:=47) rfl rfl rfl (q_extract rfl rfl) ?_
     refine WL.eff0 rfl rfl (e_store (vs:=[(.int .i64 z9Y.1.fN),(.int .i64 z9Y.1.fD)]) (ds:=[(.int .i64 z9Y.1.fN),(.int .i64 z9Y.1.fD)]) sizT_28 rfl rfl rfl rfl (oc_cons rfl (oc_cons rfl oc_nil)) .here (Nat.le_of_ble_eq_true rfl) rfl) ?_
     refine WL.quiet (d:=7) rfl rfl rfl (q_assign rfl) ?_
     refine WL.nil ?_
     refine WX.then ?_
     refine WC.ret ?_
     refine WX.blockRet ?_
     refine WX.thenRet ?_
     obtain rfl:=Option.some.inj h
     refine WX.bpRet Try.results59 (.agg rfl aggT_28 rfl (rd_all .here) (.tmp rfl .nil)) (fun w hw=>?_)
     exact ⟨ret2 rfl rfl,hw.sub .nil⟩
    ·replace h:=ite_f h ziZ
     refine WC.seq ?_
     refine WC.region ?_
     refine WL.quiet (d:=49) rfl rfl rfl (q_eql rfl rfl) ?_
     refine WL.quiet (d:=48) rfl rfl rfl (q_assign rfl) ?_
     refine WL.nil ?_
     refine WX.then ?_
     refine WC.cond rfl (fun zj0=>?_) (fun zj0=>?_)
     ·replace h:=ite_t h zj0
      refine WC.seq ?_
      obtain ⟨z9Z,ztF,h⟩:=zb h
      refine WC.region ?_
      refine WL.quiet (d:=50) rfl rfl rfl (q_fieldAddr fo_28_0 rfl rfl) ?_
      refine WL.quiet (d:=51) rfl rfl rfl (q_load1 oneT_3 rfl (rd_stb (.there (.there .here)) rfl)) ?_
      refine WL.quiet (d:=52) rfl rfl rfl (q_fieldAddr fo_28_1 rfl rfl) ?_
      refine WL.quiet (d:=53) rfl rfl rfl (q_load1 oneT_3 rfl (rd_stb (.there .here) rfl)) ?_
      refine WL.quiet (d:=54) rfl rfl rfl (q_mul rfl rfl rfl) ?_
      refine WL.quiet (d:=55) rfl rfl rfl (q_fieldAddr fo_28_0 rfl rfl) ?_
      refine WL.quiet (d:=56) rfl rfl rfl (q_load1 oneT_3 rfl (rd_stb (.there .here) rfl)) ?_
      refine WL.quiet (d:=57) rfl rfl rfl (q_fieldAddr fo_28_1 rfl rfl) ?_
      refine WL.quiet (d:=58) rfl rfl rfl (q_load1 oneT_3 rfl (rd_stb (.there (.there .here)) rfl)) ?_
      refine WL.quiet (d:=59) rfl rfl rfl (q_mul rfl rfl rfl) ?_
      refine WL.quiet (d:=60) rfl rfl rfl (q_sub rfl rfl rfl) ?_
      refine WL.quiet (d:=61) rfl rfl rfl (q_fieldAddr fo_28_1 rfl rfl) ?_
      refine WL.quiet (d:=62) rfl rfl rfl (q_load1 oneT_3 rfl (rd_stb (.there (.there .here)) rfl)) ?_
      refine WL.quiet (d:=63) rfl rfl rfl (q_fieldAddr fo_28_1 rfl rfl) ?_
      refine WL.quiet (d:=64) rfl rfl rfl (q_load1 oneT_3 rfl (rd_stb (.there .here) rfl)) ?_
      refine WL.quiet (d:=65) rfl rfl rfl (q_mul rfl rfl rfl) ?_
      refine WL.callD (dd:=66) rfl rfl rfl (zg (l:=[.tmp 60,.tmp 65]) Try.call78 (.cons rfl (.cons rfl .nil))) (.nil : Sel [stb z3m 28 [(.int .i64 0),(.int .i64 0)],stb z3l 28 [(.int .i64 zD.fN),(.int .i64 zD.fD)],stb z3k 28 [(.int .i64 zG.fN),(.int .i64 zG.fD)]] [] [stb z3m 28 [(.int .i64 0),(.int .i64 0)],stb z3l 28 [(.int .i64 zD.fN),(.int .i64 zD.fD)],stb z3k 28 [(.int .i64 zG.fN),(.int .i64 zG.fD)]]) (fun w hw=>by have pz:=(hz.call hw (.nil : Sel [stb z3m 28 [(.int .i64 0),(.int .i64 0)],stb z3l 28 [(.int .i64 zD.fN),(.int .i64 zD.fD)],stb z3k 28 [(.int .i64 zG.fN),(.int .i64 zG.fD)]] [] [stb z3m 28 [(.int .i64 0),(.int .i64 0)],stb z3l 28 [(.int .i64 zD.fN),(.int .i64 zD.fD)],stb z3k 28 [(.int .i64 zG.fN),(.int .i64 zG.fD)]])); exact w_ref01_Make (Z:=_)  (z4c:=(i64 ((i64 (zG.fN * zD.fD)) - (i64 (zD.fN * zG.fD))))) (z4q:=(i64 (zG.fD * zD.fD))) (r:=z9Z) w pz  ztF) ?_
      refine WL.quiet (d:=67) rfl rfl rfl (q_extract rfl rfl) ?_
      refine WL.quiet (d:=68) rfl rfl rfl (q_extract rfl rfl) ?_
      refine WL.eff0 rfl rfl (e_store (vs:=[(.int .i64 z9Z.1.fN),(.int .i64 z9Z.1.fD)]) (ds:=[(.int .i64 z9Z.1.fN),(.int .i64 z9Z.1.fD)]) sizT_28 rfl rfl rfl rfl (oc_cons rfl (oc_cons rfl oc_nil)) .here (Nat.le_of_ble_eq_true rfl) rfl) ?_
      refine WL.quiet (d:=7) rfl rfl rfl (q_assign rfl) ?_
      refine WL.nil ?_
      refine WX.then ?_
      refine WC.ret ?_
      refine WX.blockRet ?_
      refine WX.thenRet ?_
      obtain rfl:=Option.some.inj h
      refine WX.bpRet Try.results59 (.agg rfl aggT_28 rfl (rd_all .here) (.tmp rfl .nil)) (fun w hw=>?_)
      exact ⟨ret2 rfl rfl,hw.sub .nil⟩
     ·replace h:=ite_f h zj0
      refine WC.seq ?_
      refine WC.region ?_
      refine WL.quiet (d:=70) rfl rfl rfl (q_eql rfl rfl) ?_
      refine WL.quiet (d:=69) rfl rfl rfl (q_assign rfl) ?_
      refine WL.nil ?_
      refine WX.then ?_
      refine WC.cond rfl (fun zj1=>?_) (fun zj1=>?_)
      ·replace h:=ite_t h zj1
       refine WC.seq ?_
       obtain ⟨za0,ztG,h⟩:=zb h
       refine WC.region ?_
       refine WL.quiet (d:=71) rfl rfl rfl (q_fieldAddr fo_28_0 rfl rfl) ?_
       refine WL.quiet (d:=72) rfl rfl rfl (q_load1 oneT_3 rfl (rd_stb (.there (.there .here)) rfl)) ?_
       refine WL.quiet (d:=73) rfl rfl rfl (q_fieldAddr fo_28_0 rfl rfl) ?_
       refine WL.quiet (d:=74) rfl rfl rfl (q_load1 oneT_3 rfl (rd_stb (.there .here) rfl)) ?_
       refine WL.quiet (d:=75) rfl rfl rfl (q_mul rfl rfl rfl) ?_
       refine WL.quiet (d:=76) rfl rfl rfl (q_fieldAddr fo_28_1 rfl rfl) ?_
       refine WL.quiet (d:=77) rfl rfl rfl (q_load1 oneT_3 rfl (rd_stb (.there (.there .here)) rfl)) ?_
       refine WL.quiet (d:=78) rfl rfl rfl (q_fieldAddr fo_28_1 rfl rfl) ?_
       refine WL.quiet (d:=79) rfl rfl rfl (q_load1 oneT_3 rfl (rd_stb (.there .here) rfl)) ?_
       refine WL.quiet (d:=80) rfl rfl rfl (q_mul rfl rfl rfl) ?_
       refine WL.callD (dd:=81) rfl rfl rfl (zg (l:=[.tmp 75,.tmp 80]) Try.call78 (.cons rfl (.cons rfl .nil))) (.nil : Sel [stb z3m 28 [(.int .i64 0),(.int .i64 0)],stb z3l 28 [(.int .i64 zD.fN),(.int .i64 zD.fD)],stb z3k 28 [(.int .i64 zG.fN),(.int .i64 zG.fD)]] [] [stb z3m 28 [(.int .i64 0),(.int .i64 0)],stb z3l 28 [(.int .i64 zD.fN),(.int .i64 zD.fD)],stb z3k 28 [(.int .i64 zG.fN),(.int .i64 zG.fD)]]) (fun w hw=>by have pz:=(hz.call hw (.nil : Sel [stb z3m 28 [(.int .i64 0),(.int .i64 0)],stb z3l 28 [(.int .i64 zD.fN),(.int .i64 zD.fD)],stb z3k 28 [(.int .i64 zG.fN),(.int .i64 zG.fD)]] [] [stb z3m 28 [(.int .i64 0),(.int .i64 0)],stb z3l 28 [(.int .i64 zD.fN),(.int .i64 zD.fD)],stb z3k 28 [(.int .i64 zG.fN),(.int .i64 zG.fD)]])); exact w_ref01_Make (Z:=_)  (z4c:=(i64 (zG.fN * zD.fN))) (z4q:=(i64 (zG.fD * zD.fD))) (r:=za0) w pz  ztG) ?_
       refine WL.quiet (d:=82) rfl rfl rfl (q_extract rfl rfl) ?_
       refine WL.quiet (d:=83) rfl rfl rfl (q_extract rfl rfl) ?_
       refine WL.eff0 rfl rfl (e_store (vs:=[(.int .i64 za0.1.fN),(.int .i64 za0.1.fD)]) (ds:=[(.int .i64 za0.1.fN),(.int .i64 za0.1.fD)]) sizT_28 rfl rfl rfl rfl (oc_cons rfl (oc_cons rfl oc_nil)) .here (Nat.le_of_ble_eq_true rfl) rfl) ?_
       refine WL.quiet (d:=7) rfl rfl rfl (q_assign rfl) ?_
       refine WL.nil ?_
       refine WX.then ?_
       refine WC.ret ?_
       refine WX.blockRet ?_
       refine WX.thenRet ?_
       obtain rfl:=Option.some.inj h
       refine WX.bpRet Try.results59 (.agg rfl aggT_28 rfl (rd_all .here) (.tmp rfl .nil)) (fun w hw=>?_)
       exact ⟨ret2 rfl rfl,hw.sub .nil⟩
      ·replace h:=ite_f h zj1
       refine WC.skip ?_
       refine WX.blockNormal ?_
       refine WX.then ?_
       refine WC.seq ?_
       obtain ⟨za1,ztH,h⟩:=zb h
       refine WC.region ?_
       refine WL.quiet (d:=84) rfl rfl rfl (q_fieldAddr fo_28_0 rfl rfl) ?_
       refine WL.quiet (d:=85) rfl rfl rfl (q_load1 oneT_3 rfl (rd_stb (.there (.there .here)) rfl)) ?_
       refine WL.quiet (d:=86) rfl rfl rfl (q_fieldAddr fo_28_1 rfl rfl) ?_
       refine WL.quiet (d:=87) rfl rfl rfl (q_load1 oneT_3 rfl (rd_stb (.there .here) rfl)) ?_
       refine WL.quiet (d:=88) rfl rfl rfl (q_mul rfl rfl rfl) ?_
       refine WL.quiet (d:=89) rfl rfl rfl (q_fieldAddr fo_28_1 rfl rfl) ?_
       refine WL.quiet (d:=90) rfl rfl rfl (q_load1 oneT_3 rfl (rd_stb (.there (.there .here)) rfl)) ?_
       refine WL.quiet (d:=91) rfl rfl rfl (q_fieldAddr fo_28_0 rfl rfl) ?_
       refine WL.quiet (d:=92) rfl rfl rfl (q_load1 oneT_3 rfl (rd_stb (.there .here) rfl)) ?_
       refine WL.quiet (d:=93) rfl rfl rfl (q_mul rfl rfl rfl) ?_
       refine WL.callD (dd:=94) rfl rfl rfl (zg (l:=[.tmp 88,.tmp 93]) Try.call78 (.cons rfl (.cons rfl .nil))) (.nil : Sel [stb z3m 28 [(.int .i64 0),(.int .i64 0)],stb z3l 28 [(.int .i64 zD.fN),(.int .i64 zD.fD)],stb z3k 28 [(.int .i64 zG.fN),(.int .i64 zG.fD)]] [] [stb z3m 28 [(.int .i64 0),(.int .i64 0)],stb z3l 28 [(.int .i64 zD.fN),(.int .i64 zD.fD)],stb z3k 28 [(.int .i64 zG.fN),(.int .i64 zG.fD)]]) (fun w hw=>by have pz:=(hz.call hw (.nil : Sel [stb z3m 28 [(.int .i64 0),(.int .i64 0)],stb z3l 28 [(.int .i64 zD.fN),(.int .i64 zD.fD)],stb z3k 28 [(.int .i64 zG.fN),(.int .i64 zG.fD)]] [] [stb z3m 28 [(.int .i64 0),(.int .i64 0)],stb z3l 28 [(.int .i64 zD.fN),(.int .i64 zD.fD)],stb z3k 28 [(.int .i64 zG.fN),(.int .i64 zG.fD)]])); exact w_ref01_Make (Z:=_)  (z4c:=(i64 (zG.fN * zD.fD))) (z4q:=(i64 (zG.fD * zD.fN))) (r:=za1) w pz  ztH) ?_
       refine WL.quiet (d:=95) rfl rfl rfl (q_extract rfl rfl) ?_
       refine WL.quiet (d:=96) rfl rfl rfl (q_extract rfl rfl) ?_
       refine WL.eff0 rfl rfl (e_store (vs:=[(.int .i64 za1.1.fN),(.int .i64 za1.1.fD)]) (ds:=[(.int .i64 za1.1.fN),(.int .i64 za1.1.fD)]) sizT_28 rfl rfl rfl rfl (oc_cons rfl (oc_cons rfl oc_nil)) .here (Nat.le_of_ble_eq_true rfl) rfl) ?_
       refine WL.quiet (d:=7) rfl rfl rfl (q_assign rfl) ?_
       refine WL.nil ?_
       refine WX.then ?_
       refine WC.ret ?_
       obtain rfl:=Option.some.inj h
       refine WX.bpRet Try.results59 (.agg rfl aggT_28 rfl (rd_all .here) (.tmp rfl .nil)) (fun w hw=>?_)
       exact ⟨ret2 rfl rfl,hw.sub .nil⟩
def m_ref02_value (z1M : z1) (z34 : z2) : Option (z2 × Int) :=
 (m_ref01_Do 2 z1M.fRate z34).bind fun z57=>if decide (z57.2 ≠ 0) then some ((⟨0,0⟩ : z2),z57.2) else (m_ref01_Do 0 z1M.fBurst z57.1).bind fun za2=>some (za2.1,za2.2)
set_option maxRecDepth 20000 in
theorem w_ref02_value (Z : Zp)   (z1M : z1) (z34 : z2) (r : z2 × Int) (w₀ : World) (hz : PZ [] w₀ Z)
  (h : m_ref02_value z1M z34 = some r) :
  Calls Try.prog 54 #[(.agg #[(.int .i64 z1M.fBurst.fN),(.int .i64 z1M.fBurst.fD),(.int .i64 z1M.fRate.fN),(.int .i64 z1M.fRate.fD)]),(.agg #[(.int .i64 z34.fN),(.int .i64 z34.fD)])] w₀ fun e w'=>e = .returned (.tuple #[(.agg #[(.int .i64 r.1.fN),(.int .i64 r.1.fD)]),(.int .i64 r.2)]) ∧ Hp [] w₀ w' []:=by
 unfold m_ref02_value at h
 refine Calls.ofWC (vs:=[(.agg #[(.int .i64 z1M.fBurst.fN),(.int .i64 z1M.fBurst.fD),(.int .i64 z1M.fRate.fN),(.int .i64 z1M.fRate.fD)]),(.agg #[(.int .i64 z34.fN),(.int .i64 z34.fD)])]) (pre:=[]) (env:=[(0,(.agg #[(.int .i64 z1M.fBurst.fN),(.int .i64 z1M.fBurst.fD),(.int .i64 z1M.fRate.fN),(.int .i64 z1M.fRate.fD)])),(1,(.agg #[(.int .i64 z34.fN),(.int .i64 z34.fD)]))]) Try.func54 rfl Try.ntmps54 rfl (Hp.nil w₀ _) rfl ?_
 refine WC.seq ?_
 refine WC.region ?_
 refine WL.new (dd:=2) rfl rfl rfl (e_box (cs:=[(.int .i64 z1M.fBurst.fN),(.int .i64 z1M.fBurst.fD),(.int .i64 z1M.fRate.fN),(.int .i64 z1M.fRate.fD)]) rfl rfl) ?_
 intro za3 _
 refine WL.new (dd:=3) rfl rfl rfl (e_box (cs:=[(.int .i64 z34.fN),(.int .i64 z34.fD)]) rfl rfl) ?_
 intro za4 _
 refine WL.new (dd:=4) rfl rfl rfl (e_alloc (cs:=[(.int .i64 0),(.int .i64 0)]) zeroT_28 rfl) ?_
 intro za5 _
 refine WL.quiet (d:=5) rfl rfl rfl (q_assign rfl) ?_
 refine WL.nil ?_
 refine WX.then ?_
 refine WC.seq ?_
 obtain ⟨z57,ztI,h⟩:=zb h
 refine WC.region ?_
 refine WL.quiet (d:=9) rfl rfl rfl (q_fieldAddr fo_42_1 rfl rfl) ?_
 refine WL.quiet (d:=10) rfl rfl rfl (q_loadA (cs:=[(.int .i64 z1M.fRate.fN),(.int .i64 z1M.fRate.fD)]) aggT_28 rfl rfl (rd_sub (s:=2) (.there (.there .here)) rfl)) ?_
 refine WL.quiet (d:=11) rfl rfl rfl (q_loadA (cs:=[(.int .i64 z34.fN),(.int .i64 z34.fD)]) aggT_28 rfl rfl (rd_all (.there .here))) ?_
 refine WL.callD (dd:=12) rfl rfl rfl (zg (l:=[.const (.int .i64 2),.tmp 10,.tmp 11]) Try.call59 (.cons rfl (.cons rfl (.cons rfl .nil)))) (.nil : Sel [stb za5 28 [(.int .i64 0),(.int .i64 0)],stb za4 28 [(.int .i64 z34.fN),(.int .i64 z34.fD)],stb za3 42 [(.int .i64 z1M.fBurst.fN),(.int .i64 z1M.fBurst.fD),(.int .i64 z1M.fRate.fN),(.int .i64 z1M.fRate.fD)]] [] [stb za5 28 [(.int .i64 0),(.int .i64 0)],stb za4 28 [(.int .i64 z34.fN),(.int .i64 z34.fD)],stb za3 42 [(.int .i64 z1M.fBurst.fN),(.int .i64 z1M.fBurst.fD),(.int .i64 z1M.fRate.fN),(.int .i64 z1M.fRate.fD)]]) (fun w hw=>by have pz:=(hz.call hw (.nil : Sel [stb za5 28 [(.int .i64 0),(.int .i64 0)],stb za4 28 [(.int .i64 z34.fN),(.int .i64 z34.fD)],stb za3 42 [(.int .i64 z1M.fBurst.fN),(.int .i64 z1M.fBurst.fD),(.int .i64 z1M.fRate.fN),(.int .i64 z1M.fRate.fD)]] [] [stb za5 28 [(.int .i64 0),(.int .i64 0)],stb za4 28 [(.int .i64 z34.fN),(.int .i64 z34.fD)],stb za3 42 [(.int .i64 z1M.fBurst.fN),(.int .i64 z1M.fBurst.fD),(.int .i64 z1M.fRate.fN),(.int .i64 z1M.fRate.fD)]])); exact w_ref01_Do (Z:=_)  (z4J:=2) (zG:=z1M.fRate) (zD:=z34) (r:=z57) w pz  ztI) ?_
 refine WL.quiet (d:=8) rfl rfl rfl (q_move rfl) ?_
 refine WL.quiet (d:=13) rfl rfl rfl (q_extract rfl rfl) ?_
 refine WL.quiet (d:=14) rfl rfl rfl (q_extract rfl rfl) ?_
 refine WL.new (dd:=6) rfl rfl rfl (e_alloc (cs:=[(.int .i64 0),(.int .i64 0)]) zeroT_28 rfl) ?_
 intro zfv _
 refine WL.eff0 rfl rfl (e_store (vs:=[(.int .i64 z57.1.fN),(.int .i64 z57.1.fD)]) (ds:=[(.int .i64 z57.1.fN),(.int .i64 z57.1.fD)]) sizT_28 rfl rfl rfl rfl (oc_cons rfl (oc_cons rfl oc_nil)) .here (Nat.le_of_ble_eq_true rfl) rfl) ?_
 refine WL.quiet (d:=7) rfl rfl rfl (q_assign rfl) ?_
 refine WL.nil ?_
 refine WX.then ?_
 refine WC.seq ?_
 refine WC.seq ?_
 refine WC.region ?_
 refine WL.quiet (d:=15) rfl rfl rfl (q_move rfl) ?_
 refine WL.quiet (d:=16) rfl rfl rfl (q_neq rfl rfl) ?_
 refine WL.nil ?_
 refine WX.then ?_
 refine WC.cond rfl (fun zj2=>?_) (fun zj2=>?_)
 ·replace h:=ite_t h zj2
  refine WC.seq ?_
  refine WC.region ?_
  refine WL.quiet (d:=17) rfl rfl rfl (q_build (v:=(.agg #[(.int .i64 0),(.int .i64 0)])) (Eos.parts (l:=[]) .nil []) (fun _=>by kernel_rfl)) ?_
  refine WL.quiet (d:=18) rfl rfl rfl (q_move rfl) ?_
  refine WL.eff0 rfl rfl (e_store (vs:=[(.int .i64 0),(.int .i64 0)]) (ds:=[(.int .i64 0),(.int .i64 0)]) sizT_28 rfl rfl rfl rfl (oc_cons rfl (oc_cons rfl oc_nil)) (.there .here) (Nat.le_of_ble_eq_true rfl) rfl) ?_
  refine WL.quiet (d:=5) rfl rfl rfl (q_assign rfl) ?_
  refine WL.nil ?_
  refine WX.then ?_
  refine WC.ret ?_
  refine WX.thenRet ?_
  obtain rfl:=Option.some.inj h
  refine WX.bpRet Try.results54 (.agg rfl aggT_28 rfl (rd_all .here) (.tmp rfl .nil)) (fun w hw=>?_)
  exact ⟨ret2 rfl rfl,hw.sub .nil⟩
 ·replace h:=ite_f h zj2
  refine WC.skip ?_
  refine WX.then ?_
  refine WC.seq ?_
  obtain ⟨za2,ztJ,h⟩:=zb h
  refine WC.region ?_
  refine WL.quiet (d:=19) rfl rfl rfl (q_fieldAddr fo_42_0 rfl rfl) ?_
  refine WL.quiet (d:=20) rfl rfl rfl (q_loadA (cs:=[(.int .i64 z1M.fBurst.fN),(.int .i64 z1M.fBurst.fD)]) aggT_28 rfl rfl (rd_sub (s:=2) (.there (.there (.there .here))) rfl)) ?_
  refine WL.quiet (d:=21) rfl rfl rfl (q_loadA (cs:=[(.int .i64 z57.1.fN),(.int .i64 z57.1.fD)]) aggT_28 rfl rfl (rd_all .here)) ?_
  refine WL.callD (dd:=22) rfl rfl rfl (zg (l:=[.const (.int .i64 0),.tmp 20,.tmp 21]) Try.call59 (.cons rfl (.cons rfl (.cons rfl .nil)))) (.nil : Sel [stb zfv 28 [(.int .i64 z57.1.fN),(.int .i64 z57.1.fD)],stb za5 28 [(.int .i64 0),(.int .i64 0)],stb za4 28 [(.int .i64 z34.fN),(.int .i64 z34.fD)],stb za3 42 [(.int .i64 z1M.fBurst.fN),(.int .i64 z1M.fBurst.fD),(.int .i64 z1M.fRate.fN),(.int .i64 z1M.fRate.fD)]] [] [stb zfv 28 [(.int .i64 z57.1.fN),(.int .i64 z57.1.fD)],stb za5 28 [(.int .i64 0),(.int .i64 0)],stb za4 28 [(.int .i64 z34.fN),(.int .i64 z34.fD)],stb za3 42 [(.int .i64 z1M.fBurst.fN),(.int .i64 z1M.fBurst.fD),(.int .i64 z1M.fRate.fN),(.int .i64 z1M.fRate.fD)]]) (fun w hw=>by have pz:=(hz.call hw (.nil : Sel [stb zfv 28 [(.int .i64 z57.1.fN),(.int .i64 z57.1.fD)],stb za5 28 [(.int .i64 0),(.int .i64 0)],stb za4 28 [(.int .i64 z34.fN),(.int .i64 z34.fD)],stb za3 42 [(.int .i64 z1M.fBurst.fN),(.int .i64 z1M.fBurst.fD),(.int .i64 z1M.fRate.fN),(.int .i64 z1M.fRate.fD)]] [] [stb zfv 28 [(.int .i64 z57.1.fN),(.int .i64 z57.1.fD)],stb za5 28 [(.int .i64 0),(.int .i64 0)],stb za4 28 [(.int .i64 z34.fN),(.int .i64 z34.fD)],stb za3 42 [(.int .i64 z1M.fBurst.fN),(.int .i64 z1M.fBurst.fD),(.int .i64 z1M.fRate.fN),(.int .i64 z1M.fRate.fD)]])); exact w_ref01_Do (Z:=_)  (z4J:=0) (zG:=z1M.fBurst) (zD:=z57.1) (r:=za2) w pz  ztJ) ?_
  refine WL.quiet (d:=23) rfl rfl rfl (q_extract rfl rfl) ?_
  refine WL.quiet (d:=24) rfl rfl rfl (q_extract rfl rfl) ?_
  refine WL.eff0 rfl rfl (e_store (vs:=[(.int .i64 za2.1.fN),(.int .i64 za2.1.fD)]) (ds:=[(.int .i64 za2.1.fN),(.int .i64 za2.1.fD)]) sizT_28 rfl rfl rfl rfl (oc_cons rfl (oc_cons rfl oc_nil)) (.there .here) (Nat.le_of_ble_eq_true rfl) rfl) ?_
  refine WL.quiet (d:=5) rfl rfl rfl (q_assign rfl) ?_
  refine WL.nil ?_
  refine WX.then ?_
  refine WC.ret ?_
  obtain rfl:=Option.some.inj h
  refine WX.bpRet Try.results54 (.agg rfl aggT_28 rfl (rd_all .here) (.tmp rfl .nil)) (fun w hw=>?_)
  exact ⟨ret2 rfl rfl,hw.sub .nil⟩
def m_ref01_Cmp (z2h : z2) (z2i : z2) : Option Int :=
 (m_ref01_Valid z2h).bind fun zfw=>(if !zfw then some true else (m_ref01_Valid z2i).bind fun zj3=>some (!zj3)).bind fun zdX=>if zdX || (decide ((i64 (z2h.fN * z2i.fD)) = (i64 (z2i.fN * z2h.fD)))) then some 0 else if decide ((i64 (z2h.fN * z2i.fD)) < (i64 (z2i.fN * z2h.fD))) then some (-1) else some 1
set_option maxRecDepth 20000 in
theorem w_ref01_Cmp (Z : Zp)   (z2h : z2) (z2i : z2) (r : Int) (w₀ : World) (hz : PZ [] w₀ Z)
  (h : m_ref01_Cmp z2h z2i = some r) :
  Calls Try.prog 55 #[(.agg #[(.int .i64 z2h.fN),(.int .i64 z2h.fD)]),(.agg #[(.int .i64 z2i.fN),(.int .i64 z2i.fD)])] w₀ fun e w'=>e = .returned (.int .i64 r) ∧ Hp [] w₀ w' []:=by
 unfold m_ref01_Cmp at h
 refine Calls.ofWC (vs:=[(.agg #[(.int .i64 z2h.fN),(.int .i64 z2h.fD)]),(.agg #[(.int .i64 z2i.fN),(.int .i64 z2i.fD)])]) (pre:=[]) (env:=[(0,(.agg #[(.int .i64 z2h.fN),(.int .i64 z2h.fD)])),(1,(.agg #[(.int .i64 z2i.fN),(.int .i64 z2i.fD)]))]) Try.func55 rfl Try.ntmps55 rfl (Hp.nil w₀ _) rfl ?_
 refine WC.seq ?_
 refine WC.region ?_
 refine WL.new (dd:=2) rfl rfl rfl (e_box (cs:=[(.int .i64 z2h.fN),(.int .i64 z2h.fD)]) rfl rfl) ?_
 intro z79 _
 refine WL.new (dd:=3) rfl rfl rfl (e_box (cs:=[(.int .i64 z2i.fN),(.int .i64 z2i.fD)]) rfl rfl) ?_
 intro z7a _
 refine WL.quiet (d:=4) rfl rfl rfl (q_assign rfl) ?_
 refine WL.nil ?_
 refine WX.then ?_
 refine WC.seq ?_
 refine WC.seq ?_
 obtain ⟨zfw,ztK,h⟩:=zb h
 obtain ⟨zdX,zny,h⟩:=zb h
 refine WC.region ?_
 refine WL.quiet (d:=5) rfl rfl rfl (q_loadA (cs:=[(.int .i64 z2h.fN),(.int .i64 z2h.fD)]) aggT_28 rfl rfl (rd_all (.there .here))) ?_
 refine WL.callD (dd:=6) rfl rfl rfl (zg (l:=[.tmp 5]) Try.call76 (.cons rfl .nil)) (.nil : Sel [stb z7a 28 [(.int .i64 z2i.fN),(.int .i64 z2i.fD)],stb z79 28 [(.int .i64 z2h.fN),(.int .i64 z2h.fD)]] [] [stb z7a 28 [(.int .i64 z2i.fN),(.int .i64 z2i.fD)],stb z79 28 [(.int .i64 z2h.fN),(.int .i64 z2h.fD)]]) (fun w hw=>by have pz:=(hz.call hw (.nil : Sel [stb z7a 28 [(.int .i64 z2i.fN),(.int .i64 z2i.fD)],stb z79 28 [(.int .i64 z2h.fN),(.int .i64 z2h.fD)]] [] [stb z7a 28 [(.int .i64 z2i.fN),(.int .i64 z2i.fD)],stb z79 28 [(.int .i64 z2h.fN),(.int .i64 z2h.fD)]])); exact w_ref01_Valid (Z:=_)  (z1L:=z2h) (r:=zfw) w pz  ztK) ?_
 refine WL.quiet (d:=7) rfl rfl rfl (q_not rfl) ?_
 refine WL.quiet (d:=8) rfl rfl rfl (q_move rfl) ?_
 refine WL.cut0 True [(2,(.pointer (some ⟨z79,0,none⟩))),(3,(.pointer (some ⟨z7a,0,none⟩))),(12,(.bool zdX))] [stb z7a 28 [(.int .i64 z2i.fN),(.int .i64 z2i.fD)],stb z79 28 [(.int .i64 z2h.fN),(.int .i64 z2h.fD)]] 4 ?_ (fun _=>?_)
 ·rcases Bool.eq_false_or_eq_true (!zfw) with hb' | hb'
  ·have znz:=hb'; clear hb'
   have zj4:=ite_t zny znz
   replace zj4:=Option.some.inj zj4
   refine WL.pin (i:=8) rfl znz ?_
   refine WL.skip rfl rfl rfl ?_
   refine WL.skip rfl rfl rfl ?_
   refine WL.skip rfl rfl rfl ?_
   refine WL.quiet (d:=12) rfl rfl rfl (q_pickT rfl rfl) ?_
   exact WL.cutEnd () trivial (.cons rfl (.cons rfl (.cons (zl zj4) .nil))) (.cons .here (.cons .here .nil))
  ·have znA:=hb'; clear hb'
   have zdY:=ite_f zny znA
   obtain ⟨zj3,ztL,zdY⟩:=zb zdY
   replace zdY:=Option.some.inj zdY
   refine WL.pin (i:=8) rfl znA ?_
   refine WL.quiet (d:=9) rfl rfl rfl (q_loadA (cs:=[(.int .i64 z2i.fN),(.int .i64 z2i.fD)]) aggT_28 rfl rfl (rd_all .here)) ?_
   refine WL.callD (dd:=10) rfl rfl rfl (zg (l:=[.tmp 9]) Try.call76 (.cons rfl .nil)) (.nil : Sel [stb z7a 28 [(.int .i64 z2i.fN),(.int .i64 z2i.fD)],stb z79 28 [(.int .i64 z2h.fN),(.int .i64 z2h.fD)]] [] [stb z7a 28 [(.int .i64 z2i.fN),(.int .i64 z2i.fD)],stb z79 28 [(.int .i64 z2h.fN),(.int .i64 z2h.fD)]]) (fun w hw=>by have pz:=(hz.call hw (.nil : Sel [stb z7a 28 [(.int .i64 z2i.fN),(.int .i64 z2i.fD)],stb z79 28 [(.int .i64 z2h.fN),(.int .i64 z2h.fD)]] [] [stb z7a 28 [(.int .i64 z2i.fN),(.int .i64 z2i.fD)],stb z79 28 [(.int .i64 z2h.fN),(.int .i64 z2h.fD)]])); exact w_ref01_Valid (Z:=_)  (z1L:=z2i) (r:=zj3) w pz  ztL) ?_
   refine WL.quiet (d:=11) rfl rfl rfl (q_not rfl) ?_
   refine WL.quiet (d:=12) rfl rfl rfl (q_pickF rfl rfl) ?_
   exact WL.cutEnd () trivial (.cons rfl (.cons rfl (.cons (zl zdY) .nil))) (.cons .here (.cons .here .nil))
 ·skip
  refine WL.quiet (d:=13) rfl rfl rfl (q_move rfl) ?_
  refine WL.cut0 True [(2,(.pointer (some ⟨z79,0,none⟩))),(3,(.pointer (some ⟨z7a,0,none⟩))),(25,(.bool (zdX || (decide ((i64 (z2h.fN * z2i.fD)) = (i64 (z2i.fN * z2h.fD)))))))] [stb z7a 28 [(.int .i64 z2i.fN),(.int .i64 z2i.fD)],stb z79 28 [(.int .i64 z2h.fN),(.int .i64 z2h.fD)]] 12 ?_ (fun _=>?_)
  ·rcases Bool.eq_false_or_eq_true zdX with hb' | hb'
   ·have znB:=hb'; clear hb'
    refine WL.pin (i:=13) rfl znB ?_
    refine WL.skip rfl rfl rfl ?_
    refine WL.skip rfl rfl rfl ?_
    refine WL.skip rfl rfl rfl ?_
    refine WL.skip rfl rfl rfl ?_
    refine WL.skip rfl rfl rfl ?_
    refine WL.skip rfl rfl rfl ?_
    refine WL.skip rfl rfl rfl ?_
    refine WL.skip rfl rfl rfl ?_
    refine WL.skip rfl rfl rfl ?_
    refine WL.skip rfl rfl rfl ?_
    refine WL.skip rfl rfl rfl ?_
    refine WL.quiet (d:=25) rfl rfl rfl (q_pickT rfl rfl) ?_
    exact WL.cutEnd () trivial (.cons rfl (.cons rfl (.cons (zl (or_l znB)) .nil))) (.cons .here (.cons .here .nil))
   ·have znC:=hb'; clear hb'
    refine WL.pin (i:=13) rfl znC ?_
    refine WL.quiet (d:=14) rfl rfl rfl (q_fieldAddr fo_28_0 rfl rfl) ?_
    refine WL.quiet (d:=15) rfl rfl rfl (q_load1 oneT_3 rfl (rd_stb (.there .here) rfl)) ?_
    refine WL.quiet (d:=16) rfl rfl rfl (q_fieldAddr fo_28_1 rfl rfl) ?_
    refine WL.quiet (d:=17) rfl rfl rfl (q_load1 oneT_3 rfl (rd_stb .here rfl)) ?_
    refine WL.quiet (d:=18) rfl rfl rfl (q_mul rfl rfl rfl) ?_
    refine WL.quiet (d:=19) rfl rfl rfl (q_fieldAddr fo_28_0 rfl rfl) ?_
    refine WL.quiet (d:=20) rfl rfl rfl (q_load1 oneT_3 rfl (rd_stb .here rfl)) ?_
    refine WL.quiet (d:=21) rfl rfl rfl (q_fieldAddr fo_28_1 rfl rfl) ?_
    refine WL.quiet (d:=22) rfl rfl rfl (q_load1 oneT_3 rfl (rd_stb (.there .here) rfl)) ?_
    refine WL.quiet (d:=23) rfl rfl rfl (q_mul rfl rfl rfl) ?_
    refine WL.quiet (d:=24) rfl rfl rfl (q_eql rfl rfl) ?_
    refine WL.quiet (d:=25) rfl rfl rfl (q_pickF rfl rfl) ?_
    exact WL.cutEnd () trivial (.cons rfl (.cons rfl (.cons (zl (or_r znC)) .nil))) (.cons .here (.cons .here .nil))
  ·skip
   refine WL.nil ?_
   refine WX.then ?_
   refine WC.cond rfl (fun zj5=>?_) (fun zj5=>?_)
   ·replace h:=ite_t h zj5
    refine WC.seq ?_
    refine WC.region ?_
    refine WL.quiet (d:=4) rfl rfl rfl (q_assign rfl) ?_
    refine WL.nil ?_
    refine WX.then ?_
    refine WC.ret ?_
    refine WX.thenRet ?_
    obtain rfl:=Option.some.inj h
    refine WX.bpRet Try.results55 (.tmp rfl .nil) (fun w hw=>?_)
    exact ⟨ret1 rfl,hw.sub .nil⟩
   ·replace h:=ite_f h zj5
    refine WC.skip ?_
    refine WX.then ?_
    refine WC.seq ?_
    refine WC.seq ?_
    refine WC.region ?_
    refine WL.quiet (d:=26) rfl rfl rfl (q_fieldAddr fo_28_0 rfl rfl) ?_
    refine WL.quiet (d:=27) rfl rfl rfl (q_load1 oneT_3 rfl (rd_stb (.there .here) rfl)) ?_
    refine WL.quiet (d:=28) rfl rfl rfl (q_fieldAddr fo_28_1 rfl rfl) ?_
    refine WL.quiet (d:=29) rfl rfl rfl (q_load1 oneT_3 rfl (rd_stb .here rfl)) ?_
    refine WL.quiet (d:=30) rfl rfl rfl (q_mul rfl rfl rfl) ?_
    refine WL.quiet (d:=31) rfl rfl rfl (q_fieldAddr fo_28_0 rfl rfl) ?_
    refine WL.quiet (d:=32) rfl rfl rfl (q_load1 oneT_3 rfl (rd_stb .here rfl)) ?_
    refine WL.quiet (d:=33) rfl rfl rfl (q_fieldAddr fo_28_1 rfl rfl) ?_
    refine WL.quiet (d:=34) rfl rfl rfl (q_load1 oneT_3 rfl (rd_stb (.there .here) rfl)) ?_
    refine WL.quiet (d:=35) rfl rfl rfl (q_mul rfl rfl rfl) ?_
    refine WL.quiet (d:=36) rfl rfl rfl (q_lss rfl rfl) ?_
    refine WL.nil ?_
    refine WX.then ?_
    refine WC.cond rfl (fun zj6=>?_) (fun zj6=>?_)
    ·replace h:=ite_t h zj6
     refine WC.seq ?_
     refine WC.region ?_
     refine WL.quiet (d:=4) rfl rfl rfl (q_assign rfl) ?_
     refine WL.nil ?_
     refine WX.then ?_
     refine WC.ret ?_
     refine WX.thenRet ?_
     obtain rfl:=Option.some.inj h
     refine WX.bpRet Try.results55 (.tmp rfl .nil) (fun w hw=>?_)
     exact ⟨ret1 rfl,hw.sub .nil⟩
    ·replace h:=ite_f h zj6
     refine WC.skip ?_
     refine WX.then ?_
     refine WC.seq ?_
     refine WC.region ?_
     refine WL.quiet (d:=4) rfl rfl rfl (q_assign rfl) ?_
     refine WL.nil ?_
     refine WX.then ?_
     refine WC.ret ?_
     obtain rfl:=Option.some.inj h
     refine WX.bpRet Try.results55 (.tmp rfl .nil) (fun w hw=>?_)
     exact ⟨ret1 rfl,hw.sub .nil⟩
end Go.Proofs.Ytbihfglmcjkdhaa
