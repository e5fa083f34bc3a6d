/- A part of this claim's proof: models of functions, walks, plain laws. No conditions. -/
import Derived.Test.YtakfmdiiehcbdaaW03e
namespace Go.Proofs.Ytakfmdiiehcbdaa
open Go Go.RowKit Sep
set_option linter.all false
set_option maxRecDepth 30000
set_option maxHeartbeats 4000000
def y3Q  : Option Bool :=
 (y16 100 1).bind fun zhY=>(y16 1 2).bind fun zhZ=>(y2I zhY zhZ).bind fun za=>(y16 60 1).bind fun zi0=>(y16 1 4).bind fun zi1=>(y2I zi0 zi1).bind fun z1A=>(y16 1 1).bind fun zf=>(y16 16 1).bind fun zg=>(y25 ([([za] : List z1),([z1A] : List z1)] : List (List z1)) (⟨zf,zg⟩ : zSv)).bind fun zh=>(y27 ([([za] : List z1),([z1A] : List z1)] : List (List z1)) (⟨zf,zg⟩ : zSv)).bind fun zj=>chk ((0 : Int) ≤ 0 ∧ 0 < ((([za] : List z1).length : Nat) : Int)) ((y16 40 1).bind fun zi2=>(y16 1 1).bind fun zi3=>(y2I zi2 zi3).bind fun z2k=>(y25 ([([(⟨(⟨(((nth ([za] : List z1) 0).fBurst).fN),(((nth ([za] : List z1) 0).fBurst).fD)⟩ : z2),(⟨(((nth ([za] : List z1) 0).fR).fN),(((nth ([za] : List z1) 0).fR).fD)⟩ : z2)⟩ : z1),z2k] : List z1),([z1A] : List z1)] : List (List z1)) (⟨zf,zg⟩ : zSv)).bind fun zw=>(y4D ([(⟨0,0,10⟩ : zSt),(⟨3,0,10⟩ : zSt)] : List zSt) 2 5).bind fun zz=>(y16 10 1).bind fun zi4=>(y16 4 1).bind fun zi5=>(y2I zi4 zi5).bind fun zC=>(y37 ([zC] : List z1) ([(⟨0,0,10⟩ : zSt),(⟨3,0,10⟩ : zSt)] : List zSt)).bind fun z7Q=>(y16 10 1).bind fun zi6=>(y16 3 1).bind fun zi7=>(y2I zi6 zi7).bind fun z1T=>(y37 ([z1T] : List z1) ([(⟨0,0,10⟩ : zSt),(⟨3,0,10⟩ : zSt)] : List zSt)).bind fun z8F=>(if decide ((i64 ((i64 ((i64 ((i64 ((i64 (zh.2 + zj.2)) + zw.2)) + zz.2)) + z7Q.2)) + z8F.2)) = 0) then (y16 176 1).bind fun zi8=>some (decide (zh.1 = zi8)) else some false).bind fun zg7=>(if zg7 then (y16 172 1).bind fun zi9=>some (decide (zj.1 = zi9)) else some false).bind fun zg8=>(if zg8 then (y16 146 1).bind fun zia=>some (decide (zw.1 = zia)) else some false).bind fun zg9=>(if zg9 then (y6f zz.1 ([25,45] : List Int)).bind fun zmr=>some zmr else some false).bind fun zaR=>some ((zaR && z7Q.1) && (!z8F.1)))
set_option maxRecDepth 20000 in
theorem y78 (Z : Zp)    (r : Bool) (w₀ : World) (hz : PZ [] w₀ Z)
  (h : y3Q  = some r) :
  Calls Try.prog 17 #[] w₀ fun e w'=>∃ Zn : Zp,e = .returned (.bool r) ∧ True ∧ Hp [] w₀ w' [fz Zn]:=by
 unfold y3Q at h
 refine Calls.yg (vs:=[]) (pre:=[]) (env:=[]) Try.func17 rfl Try.ntmps17 rfl (Hp.nil w₀ _) rfl ?_
 refine WC.pool ?_
 refine WC.b ?_
 refine WC.a ?_
 refine WL.a (d:=0) rfl rfl rfl (q_z rfl) ?_
 refine WL.nil ?_
 refine WX.a ?_
 refine WC.b ?_
 obtain ⟨zhY,zxs,h⟩:=zb h
 obtain ⟨zhZ,zxt,h⟩:=zb h
 obtain ⟨za,zxu,h⟩:=zb h
 obtain ⟨zi0,zxv,h⟩:=zb h
 obtain ⟨zi1,zxw,h⟩:=zb h
 obtain ⟨z1A,zxx,h⟩:=zb h
 refine WC.a ?_
 refine WL.b (dd:=17) rfl rfl rfl (zl (l:=[.const (.int .i64 100),.const (.int .i64 1)]) Try.call11 (.cons rfl (.cons rfl .nil))) (.nil : Sel [fz []] [] [fz []]) (fun w hw=>by have pz:=(hz.call2 hw (.nil : Sel [fz []] [] [fz []]) .here); exact y1o (Z:=_)  (z4l:=100) (z4m:=1) (r:=zhY) w pz  zxs) ?_
 refine WL.b (dd:=18) rfl rfl rfl (zl (l:=[.const (.int .i64 1),.const (.int .i64 2)]) Try.call11 (.cons rfl (.cons rfl .nil))) (.nil : Sel [fz []] [] [fz []]) (fun w hw=>by have pz:=(hz.call2 hw (.nil : Sel [fz []] [] [fz []]) .here); exact y1o (Z:=_)  (z4l:=1) (z4m:=2) (r:=zhZ) w pz  zxt) ?_
 refine WL.b (dd:=19) rfl rfl rfl (zl (l:=[.tmp 17,.tmp 18]) Try.call10 (.cons rfl (.cons rfl .nil))) (.nil : Sel [fz []] [] [fz []]) (fun w hw=>by have pz:=(hz.call2 hw (.nil : Sel [fz []] [] [fz []]) .here); exact y3z (Z:=_)  (z4H:=zhY) (z4I:=zhZ) (r:=za) w pz  zxu) ?_
 refine WL.new (dd:=20) rfl rfl rfl (yU (cs:=([za] : List z1).flatMap e35) y2j (Eos.parts (l:=[.tmp 19]) (.cons rfl .nil) [0]) (fun _=>by kernel_rfl) rfl (by unfold maxLen; omega)) ?_
 intro z4s _
 refine WL.b (dd:=21) rfl rfl rfl (zl (l:=[.const (.int .i64 60),.const (.int .i64 1)]) Try.call11 (.cons rfl (.cons rfl .nil))) (.nil : Sel [row (.slice (some ⟨z4s,0,none⟩) (([za] : List z1).length) 1) 35 4 (([za] : List z1).flatMap e35),fz []] [] [row (.slice (some ⟨z4s,0,none⟩) (([za] : List z1).length) 1) 35 4 (([za] : List z1).flatMap e35),fz []]) (fun w hw=>by have pz:=(hz.call2 hw (.nil : Sel [row (.slice (some ⟨z4s,0,none⟩) (([za] : List z1).length) 1) 35 4 (([za] : List z1).flatMap e35),fz []] [] [row (.slice (some ⟨z4s,0,none⟩) (([za] : List z1).length) 1) 35 4 (([za] : List z1).flatMap e35),fz []]) .h1); exact y1o (Z:=_)  (z4l:=60) (z4m:=1) (r:=zi0) w pz  zxv) ?_
 refine WL.b (dd:=22) rfl rfl rfl (zl (l:=[.const (.int .i64 1),.const (.int .i64 4)]) Try.call11 (.cons rfl (.cons rfl .nil))) (.nil : Sel [row (.slice (some ⟨z4s,0,none⟩) (([za] : List z1).length) 1) 35 4 (([za] : List z1).flatMap e35),fz []] [] [row (.slice (some ⟨z4s,0,none⟩) (([za] : List z1).length) 1) 35 4 (([za] : List z1).flatMap e35),fz []]) (fun w hw=>by have pz:=(hz.call2 hw (.nil : Sel [row (.slice (some ⟨z4s,0,none⟩) (([za] : List z1).length) 1) 35 4 (([za] : List z1).flatMap e35),fz []] [] [row (.slice (some ⟨z4s,0,none⟩) (([za] : List z1).length) 1) 35 4 (([za] : List z1).flatMap e35),fz []]) .h1); exact y1o (Z:=_)  (z4l:=1) (z4m:=4) (r:=zi1) w pz  zxw) ?_
 refine WL.b (dd:=23) rfl rfl rfl (zl (l:=[.tmp 21,.tmp 22]) Try.call10 (.cons rfl (.cons rfl .nil))) (.nil : Sel [row (.slice (some ⟨z4s,0,none⟩) (([za] : List z1).length) 1) 35 4 (([za] : List z1).flatMap e35),fz []] [] [row (.slice (some ⟨z4s,0,none⟩) (([za] : List z1).length) 1) 35 4 (([za] : List z1).flatMap e35),fz []]) (fun w hw=>by have pz:=(hz.call2 hw (.nil : Sel [row (.slice (some ⟨z4s,0,none⟩) (([za] : List z1).length) 1) 35 4 (([za] : List z1).flatMap e35),fz []] [] [row (.slice (some ⟨z4s,0,none⟩) (([za] : List z1).length) 1) 35 4 (([za] : List z1).flatMap e35),fz []]) .h1); exact y3z (Z:=_)  (z4H:=zi0) (z4I:=zi1) (r:=z1A) w pz  zxx) ?_
 refine WL.new (dd:=24) rfl rfl rfl (yU (cs:=([z1A] : List z1).flatMap e35) y2j (Eos.parts (l:=[.tmp 23]) (.cons rfl .nil) [0]) (fun _=>by kernel_rfl) rfl (by unfold maxLen; omega)) ?_
 intro z3O _
 refine WL.a (d:=1) rfl rfl rfl (q_z rfl) ?_
 refine WL.a (d:=2) rfl rfl rfl (q_z rfl) ?_
 refine WL.nil ?_
 refine WX.a ?_
 refine WC.b ?_
 obtain ⟨zf,zxy,h⟩:=zb h
 obtain ⟨zg,zxz,h⟩:=zb h
 refine WC.a ?_
 refine WL.b (dd:=25) rfl rfl rfl (zl (l:=[.const (.int .i64 1),.const (.int .i64 1)]) Try.call11 (.cons rfl (.cons rfl .nil))) (.nil : Sel [row (.slice (some ⟨z3O,0,none⟩) (([z1A] : List z1).length) 1) 35 4 (([z1A] : List z1).flatMap e35),row (.slice (some ⟨z4s,0,none⟩) (([za] : List z1).length) 1) 35 4 (([za] : List z1).flatMap e35),fz []] [] [row (.slice (some ⟨z3O,0,none⟩) (([z1A] : List z1).length) 1) 35 4 (([z1A] : List z1).flatMap e35),row (.slice (some ⟨z4s,0,none⟩) (([za] : List z1).length) 1) 35 4 (([za] : List z1).flatMap e35),fz []]) (fun w hw=>by have pz:=(hz.call2 hw (.nil : Sel [row (.slice (some ⟨z3O,0,none⟩) (([z1A] : List z1).length) 1) 35 4 (([z1A] : List z1).flatMap e35),row (.slice (some ⟨z4s,0,none⟩) (([za] : List z1).length) 1) 35 4 (([za] : List z1).flatMap e35),fz []] [] [row (.slice (some ⟨z3O,0,none⟩) (([z1A] : List z1).length) 1) 35 4 (([z1A] : List z1).flatMap e35),row (.slice (some ⟨z4s,0,none⟩) (([za] : List z1).length) 1) 35 4 (([za] : List z1).flatMap e35),fz []]) .h2); exact y1o (Z:=_)  (z4l:=1) (z4m:=1) (r:=zf) w pz  zxy) ?_
 refine WL.b (dd:=26) rfl rfl rfl (zl (l:=[.const (.int .i64 16),.const (.int .i64 1)]) Try.call11 (.cons rfl (.cons rfl .nil))) (.nil : Sel [row (.slice (some ⟨z3O,0,none⟩) (([z1A] : List z1).length) 1) 35 4 (([z1A] : List z1).flatMap e35),row (.slice (some ⟨z4s,0,none⟩) (([za] : List z1).length) 1) 35 4 (([za] : List z1).flatMap e35),fz []] [] [row (.slice (some ⟨z3O,0,none⟩) (([z1A] : List z1).length) 1) 35 4 (([z1A] : List z1).flatMap e35),row (.slice (some ⟨z4s,0,none⟩) (([za] : List z1).length) 1) 35 4 (([za] : List z1).flatMap e35),fz []]) (fun w hw=>by have pz:=(hz.call2 hw (.nil : Sel [row (.slice (some ⟨z3O,0,none⟩) (([z1A] : List z1).length) 1) 35 4 (([z1A] : List z1).flatMap e35),row (.slice (some ⟨z4s,0,none⟩) (([za] : List z1).length) 1) 35 4 (([za] : List z1).flatMap e35),fz []] [] [row (.slice (some ⟨z3O,0,none⟩) (([z1A] : List z1).length) 1) 35 4 (([z1A] : List z1).flatMap e35),row (.slice (some ⟨z4s,0,none⟩) (([za] : List z1).length) 1) 35 4 (([za] : List z1).flatMap e35),fz []]) .h2); exact y1o (Z:=_)  (z4l:=16) (z4m:=1) (r:=zg) w pz  zxz) ?_
 refine WL.a (d:=27) rfl rfl rfl (y1j (v:=(.agg #[(.int .i64 zf.fN),(.int .i64 zf.fD),(.int .i64 zg.fN),(.int .i64 zg.fD)])) (Eos.parts (l:=[.tmp 25,.tmp 26]) (.cons rfl (.cons rfl .nil)) [0,1]) (fun _=>by kernel_rfl)) ?_
 refine WL.new (dd:=3) rfl rfl rfl (yh (cs:=[(.int .i64 0),(.int .i64 0),(.int .i64 0),(.int .i64 0)]) y91 rfl) ?_
 intro zQ _
 refine WL.yc rfl rfl (yd (vs:=[(.int .i64 zf.fN),(.int .i64 zf.fD),(.int .i64 zg.fN),(.int .i64 zg.fD)]) (ds:=[(.int .i64 zf.fN),(.int .i64 zf.fD),(.int .i64 zg.fN),(.int .i64 zg.fD)]) y9A rfl rfl rfl rfl (y3 rfl (y3 rfl (y3 rfl (y3 rfl yf)))) .here (Nat.le_of_ble_eq_true rfl) rfl) ?_
 refine WL.nil ?_
 refine WX.a ?_
 refine WC.b ?_
 obtain ⟨zh,zxA,h⟩:=zb h
 refine WC.a ?_
 refine WL.a (d:=29) rfl rfl rfl (q_m rfl) ?_
 refine WL.a (d:=30) rfl rfl rfl (q_m rfl) ?_
 refine WL.freezeS (ls:=([za] : List z1)) .h2 .h2 hz (RR.flat (enc:=e35) (fun _=>rfl) _) ?_
 intro zBp zBq zms
 refine WL.freezeS (ls:=([z1A] : List z1)) .h2 .here hz (RR.flat (enc:=e35) (fun _=>rfl) _) ?_
 intro zxB zmt zib
 have zxC : RR 1 (p39 (Z ++ zxB)) [(.slice (some ⟨z4s,0,none⟩) (([za] : List z1).length) 1),(.slice (some ⟨z3O,0,none⟩) (([z1A] : List z1).length) 1)] ([([za] : List z1),([z1A] : List z1)] : List (List z1)):=(RR.cons (r:=[(.slice (some ⟨z4s,0,none⟩) (([za] : List z1).length) 1)]) rfl (show p39 _ _ _ from ⟨_,_,rfl,(zms.mono zmt)⟩) (RR.cons (r:=[(.slice (some ⟨z3O,0,none⟩) (([z1A] : List z1).length) 1)]) rfl (show p39 _ _ _ from ⟨_,_,rfl,zib⟩) (RR.nil _ _)))
 refine WL.new (dd:=31) rfl rfl rfl (yU (cs:=[(.slice (some ⟨z4s,0,none⟩) (([za] : List z1).length) 1),(.slice (some ⟨z3O,0,none⟩) (([z1A] : List z1).length) 1)]) y32 (Eos.parts (l:=[.tmp 29,.tmp 30]) (.cons rfl (.cons rfl .nil)) [0,1]) (fun _=>by kernel_rfl) rfl (by unfold maxLen; omega)) ?_
 intro zxD _
 refine WL.a (d:=32) rfl rfl rfl (y6 (cs:=[(.int .i64 zf.fN),(.int .i64 zf.fD),(.int .i64 zg.fN),(.int .i64 zg.fD)]) y4h rfl rfl (y7 .h2)) ?_
 refine WL.freezeS (ls:=([([za] : List z1),([z1A] : List z1)] : List (List z1))) .here .here hz zxC ?_
 intro zga zet zmu
 replace zmu:=zmu.weak (fun _ _ h=>yG zet h)
 refine WL.y2A (dd:=33) rfl rfl rfl (zl (l:=[.tmp 31,.tmp 32]) Try.call15 (.cons rfl (.cons rfl .nil))) (.nil : Sel [fz zga,stb zQ 43 [(.int .i64 zf.fN),(.int .i64 zf.fD),(.int .i64 zg.fN),(.int .i64 zg.fD)]] [] [fz zga,stb zQ 43 [(.int .i64 zf.fN),(.int .i64 zf.fD),(.int .i64 zg.fN),(.int .i64 zg.fD)]]) (fun w hw=>by have pz:=(hz.call2 hw (.nil : Sel [fz zga,stb zQ 43 [(.int .i64 zf.fN),(.int .i64 zf.fD),(.int .i64 zg.fN),(.int .i64 zg.fD)]] [] [fz zga,stb zQ 43 [(.int .i64 zf.fN),(.int .i64 zf.fD),(.int .i64 zg.fN),(.int .i64 zg.fD)]]) .here); exact y3L (Z:=_) (z5F:=(some ⟨zxD,0,none⟩)) (z5G:=2) (z4R:=([([za] : List z1),([z1A] : List z1)] : List (List z1))) (z1P:=(⟨zf,zg⟩ : zSv)) (r:=zh) w pz zmu zxA) ?_
 rintro zxE _
 refine WL.merge .here .here ?_
 refine WL.a (d:=28) rfl rfl rfl (q_m rfl) ?_
 refine WL.a (d:=34) rfl rfl rfl (yb rfl rfl) ?_
 refine WL.a (d:=35) rfl rfl rfl (yb rfl rfl) ?_
 refine WL.new (dd:=4) rfl rfl rfl (yh (cs:=[(.int .i64 0),(.int .i64 0)]) yo rfl) ?_
 intro zN _
 refine WL.yc rfl rfl (yd (vs:=[(.int .i64 zh.1.fN),(.int .i64 zh.1.fD)]) (ds:=[(.int .i64 zh.1.fN),(.int .i64 zh.1.fD)]) yl rfl rfl rfl rfl (y3 rfl (y3 rfl yf)) .here (Nat.le_of_ble_eq_true rfl) rfl) ?_
 refine WL.a (d:=5) rfl rfl rfl (q_z rfl) ?_
 refine WL.nil ?_
 refine WX.a ?_
 refine WC.b ?_
 obtain ⟨zj,zxF,h⟩:=zb h
 refine WC.a ?_
 refine WL.a (d:=37) rfl rfl rfl (q_m rfl) ?_
 refine WL.a (d:=38) rfl rfl rfl (q_m rfl) ?_
 have zxG : RR 1 (p39 (Z ++ (zga ++ zxE))) [(.slice (some ⟨z4s,0,none⟩) (([za] : List z1).length) 1),(.slice (some ⟨z3O,0,none⟩) (([z1A] : List z1).length) 1)] ([([za] : List z1),([z1A] : List z1)] : List (List z1)):=(RR.cons (r:=[(.slice (some ⟨z4s,0,none⟩) (([za] : List z1).length) 1)]) rfl (show p39 _ _ _ from ⟨_,_,rfl,(zms.mono (zmt.trans (zet.trans ((Zle.left _ _).trans (Zle.yi _ _ _)))))⟩) (RR.cons (r:=[(.slice (some ⟨z3O,0,none⟩) (([z1A] : List z1).length) 1)]) rfl (show p39 _ _ _ from ⟨_,_,rfl,(zib.mono (zet.trans ((Zle.left _ _).trans (Zle.yi _ _ _))))⟩) (RR.nil _ _)))
 refine WL.new (dd:=39) rfl rfl rfl (yU (cs:=[(.slice (some ⟨z4s,0,none⟩) (([za] : List z1).length) 1),(.slice (some ⟨z3O,0,none⟩) (([z1A] : List z1).length) 1)]) y32 (Eos.parts (l:=[.tmp 37,.tmp 38]) (.cons rfl (.cons rfl .nil)) [0,1]) (fun _=>by kernel_rfl) rfl (by unfold maxLen; omega)) ?_
 intro zxH _
 refine WL.a (d:=40) rfl rfl rfl (y6 (cs:=[(.int .i64 zf.fN),(.int .i64 zf.fD),(.int .i64 zg.fN),(.int .i64 zg.fD)]) y4h rfl rfl (y7 .h3)) ?_
 refine WL.freezeS (ls:=([([za] : List z1),([z1A] : List z1)] : List (List z1))) .here .h1 hz zxG ?_
 intro z62 zic zmv
 replace zmv:=zmv.weak (fun _ _ h=>yG zic h)
 refine WL.y2A (dd:=41) rfl rfl rfl (zl (l:=[.tmp 39,.tmp 40]) Try.call16 (.cons rfl (.cons rfl .nil))) (.nil : Sel [fz z62,stb zN 30 [(.int .i64 zh.1.fN),(.int .i64 zh.1.fD)],stb zQ 43 [(.int .i64 zf.fN),(.int .i64 zf.fD),(.int .i64 zg.fN),(.int .i64 zg.fD)]] [] [fz z62,stb zN 30 [(.int .i64 zh.1.fN),(.int .i64 zh.1.fD)],stb zQ 43 [(.int .i64 zf.fN),(.int .i64 zf.fD),(.int .i64 zg.fN),(.int .i64 zg.fD)]]) (fun w hw=>by have pz:=(hz.call2 hw (.nil : Sel [fz z62,stb zN 30 [(.int .i64 zh.1.fN),(.int .i64 zh.1.fD)],stb zQ 43 [(.int .i64 zf.fN),(.int .i64 zf.fD),(.int .i64 zg.fN),(.int .i64 zg.fD)]] [] [fz z62,stb zN 30 [(.int .i64 zh.1.fN),(.int .i64 zh.1.fD)],stb zQ 43 [(.int .i64 zf.fN),(.int .i64 zf.fD),(.int .i64 zg.fN),(.int .i64 zg.fD)]]) .here); exact y5m (Z:=_) (z6w:=(some ⟨zxH,0,none⟩)) (z6x:=2) (z5p:=([([za] : List z1),([z1A] : List z1)] : List (List z1))) (z1d:=(⟨zf,zg⟩ : zSv)) (r:=zj) w pz zmv zxF) ?_
 rintro z7r _
 refine WL.merge .here .here ?_
 refine WL.a (d:=36) rfl rfl rfl (q_m rfl) ?_
 refine WL.a (d:=42) rfl rfl rfl (yb rfl rfl) ?_
 refine WL.a (d:=43) rfl rfl rfl (yb rfl rfl) ?_
 refine WL.new (dd:=6) rfl rfl rfl (yh (cs:=[(.int .i64 0),(.int .i64 0)]) yo rfl) ?_
 intro zO _
 refine WL.yc rfl rfl (yd (vs:=[(.int .i64 zj.1.fN),(.int .i64 zj.1.fD)]) (ds:=[(.int .i64 zj.1.fN),(.int .i64 zj.1.fD)]) yl rfl rfl rfl rfl (y3 rfl (y3 rfl yf)) .here (Nat.le_of_ble_eq_true rfl) rfl) ?_
 refine WL.a (d:=7) rfl rfl rfl (q_z rfl) ?_
 refine WL.nil ?_
 refine WX.a ?_
 refine WC.b ?_
 obtain ⟨zxI,h⟩:=yp h
 obtain ⟨zi2,zxJ,h⟩:=zb h
 obtain ⟨zi3,zxK,h⟩:=zb h
 obtain ⟨z2k,zxL,h⟩:=zb h
 obtain ⟨zw,zqi,h⟩:=zb h
 refine WC.y1e (fun i=>[15].contains i) [] rfl ?_
 refine WD.a (i:=0) (d:=45) (by kernel_rfl) rfl (z6 (by kernel_rfl)) (z7 (by kernel_rfl)) rfl rfl rfl (fun _=>q_m rfl) ?_
 refine WD.znth (j:=1) (dd:=46) (by kernel_rfl) rfl (z6 (by kernel_rfl)) (z7 (by kernel_rfl)) rfl rfl (Z:=(Z ++ (z62 ++ z7r))) (Pr:=(fun r x=>r = e35 x)) y2j rfl rfl (zms.mono (zmt.trans (zet.trans ((Zle.left _ _).trans ((Zle.yi _ _ _).trans (zic.trans ((Zle.left _ _).trans (Zle.yi _ _ _)))))))) zxI ?_
 rintro zBr zBs zxM zBt rfl
 refine WD.e (i:=2) (d:=47) (by kernel_rfl) rfl (z6 (by kernel_rfl)) (z7 (by kernel_rfl)) rfl rfl rfl (y6 (cs:=[(.int .i64 (((nth ([za] : List z1) 0).fBurst).fN)),(.int .i64 (((nth ([za] : List z1) 0).fBurst).fD)),(.int .i64 (((nth ([za] : List z1) 0).fR).fN)),(.int .i64 (((nth ([za] : List z1) 0).fR).fD))]) y1D rfl rfl (y2T (hz.pv2 .h1) zxM)) ?_
 refine WD.c (i:=3) (d:=48) (by kernel_rfl) rfl (z6 (by kernel_rfl)) (z7 (by kernel_rfl)) rfl rfl rfl (zl (l:=[.const (.int .i64 40),.const (.int .i64 1)]) Try.call11 (.cons rfl (.cons rfl .nil))) (fun w hw=>by have pz:=(hz.call2 hw (.nil : Sel [stb zO 30 [(.int .i64 zj.1.fN),(.int .i64 zj.1.fD)],fz (z62 ++ z7r),stb zN 30 [(.int .i64 zh.1.fN),(.int .i64 zh.1.fD)],stb zQ 43 [(.int .i64 zf.fN),(.int .i64 zf.fD),(.int .i64 zg.fN),(.int .i64 zg.fD)]] [] [stb zO 30 [(.int .i64 zj.1.fN),(.int .i64 zj.1.fD)],fz (z62 ++ z7r),stb zN 30 [(.int .i64 zh.1.fN),(.int .i64 zh.1.fD)],stb zQ 43 [(.int .i64 zf.fN),(.int .i64 zf.fD),(.int .i64 zg.fN),(.int .i64 zg.fD)]]) .h1); exact y1o (Z:=_)  (z4l:=40) (z4m:=1) (r:=zi2) w pz  zxJ) ?_
 refine WD.c (i:=4) (d:=49) (by kernel_rfl) rfl (z6 (by kernel_rfl)) (z7 (by kernel_rfl)) rfl rfl rfl (zl (l:=[.const (.int .i64 1),.const (.int .i64 1)]) Try.call11 (.cons rfl (.cons rfl .nil))) (fun w hw=>by have pz:=(hz.call2 hw (.nil : Sel [stb zO 30 [(.int .i64 zj.1.fN),(.int .i64 zj.1.fD)],fz (z62 ++ z7r),stb zN 30 [(.int .i64 zh.1.fN),(.int .i64 zh.1.fD)],stb zQ 43 [(.int .i64 zf.fN),(.int .i64 zf.fD),(.int .i64 zg.fN),(.int .i64 zg.fD)]] [] [stb zO 30 [(.int .i64 zj.1.fN),(.int .i64 zj.1.fD)],fz (z62 ++ z7r),stb zN 30 [(.int .i64 zh.1.fN),(.int .i64 zh.1.fD)],stb zQ 43 [(.int .i64 zf.fN),(.int .i64 zf.fD),(.int .i64 zg.fN),(.int .i64 zg.fD)]]) .h1); exact y1o (Z:=_)  (z4l:=1) (z4m:=1) (r:=zi3) w pz  zxK) ?_
 refine WD.c (i:=5) (d:=50) (by kernel_rfl) rfl (z6 (by kernel_rfl)) (z7 (by kernel_rfl)) rfl rfl rfl (zl (l:=[.tmp 48,.tmp 49]) Try.call10 (.cons rfl (.cons rfl .nil))) (fun w hw=>by have pz:=(hz.call2 hw (.nil : Sel [stb zO 30 [(.int .i64 zj.1.fN),(.int .i64 zj.1.fD)],fz (z62 ++ z7r),stb zN 30 [(.int .i64 zh.1.fN),(.int .i64 zh.1.fD)],stb zQ 43 [(.int .i64 zf.fN),(.int .i64 zf.fD),(.int .i64 zg.fN),(.int .i64 zg.fD)]] [] [stb zO 30 [(.int .i64 zj.1.fN),(.int .i64 zj.1.fD)],fz (z62 ++ z7r),stb zN 30 [(.int .i64 zh.1.fN),(.int .i64 zh.1.fD)],stb zQ 43 [(.int .i64 zf.fN),(.int .i64 zf.fD),(.int .i64 zg.fN),(.int .i64 zg.fD)]]) .h1); exact y3z (Z:=_)  (z4H:=zi2) (z4I:=zi3) (r:=z2k) w pz  zxL) ?_
 refine WD.a (i:=7) (d:=52) (by kernel_rfl) rfl (z6 (by kernel_rfl)) (z7 (by kernel_rfl)) rfl rfl rfl (fun _=>q_m rfl) ?_
 refine WD.e (i:=9) (d:=54) (by kernel_rfl) rfl (z6 (by kernel_rfl)) (z7 (by kernel_rfl)) rfl rfl rfl (y6 (cs:=[(.int .i64 zf.fN),(.int .i64 zf.fD),(.int .i64 zg.fN),(.int .i64 zg.fD)]) y4h rfl rfl (y7 .h3)) ?_
 refine WD.y8T (fuel':=0) (fun (b6o1_49370 : Nat) (Zn8o1_49370 : Zp) (b8o4_49370 : Nat) (Zn10o1_49370 : Zp) (Zn10o4_49370 : Zp) (b14o1_49370 : Nat)=>[(4,(.pointer (some ⟨zN,0,none⟩))),(5,(.int .i64 zh.2)),(6,(.pointer (some ⟨zO,0,none⟩))),(7,(.int .i64 zj.2)),(8,(.pointer (some ⟨b14o1_49370,0,none⟩))),(9,(.int .i64 zw.2))]) (fun (b6o1_49370 : Nat) (Zn8o1_49370 : Zp) (b8o4_49370 : Nat) (Zn10o1_49370 : Zp) (Zn10o4_49370 : Zp) (b14o1_49370 : Nat)=>[stb b14o1_49370 30 [(.int .i64 zw.1.fN),(.int .i64 zw.1.fD)],fz (Zn10o1_49370 ++ Zn10o4_49370),stb zO 30 [(.int .i64 zj.1.fN),(.int .i64 zj.1.fD)],stb zN 30 [(.int .i64 zh.1.fN),(.int .i64 zh.1.fD)],stb zQ 43 [(.int .i64 zf.fN),(.int .i64 zf.fD),(.int .i64 zg.fN),(.int .i64 zg.fD)]]) (fun (b6o1_49370 : Nat) (Zn8o1_49370 : Zp) (b8o4_49370 : Nat) (Zn10o1_49370 : Zp) (Zn10o4_49370 : Zp) (b14o1_49370 : Nat)=>(Zle (Z ++ (z62 ++ z7r)) (Z ++ Zn8o1_49370)) ∧ (ZS (Z ++ Zn8o1_49370) 4 (fun r x=>r = e35 x) (some ⟨b6o1_49370,0,none⟩) 2 ([(⟨(⟨(((nth ([za] : List z1) 0).fBurst).fN),(((nth ([za] : List z1) 0).fBurst).fD)⟩ : z2),(⟨(((nth ([za] : List z1) 0).fR).fN),(((nth ([za] : List z1) 0).fR).fD)⟩ : z2)⟩ : z1),z2k] : List z1)) ∧ (RR 1 (p39 (Z ++ Zn8o1_49370)) [(.slice (some ⟨b6o1_49370,0,none⟩) (([(⟨(⟨(((nth ([za] : List z1) 0).fBurst).fN),(((nth ([za] : List z1) 0).fBurst).fD)⟩ : z2),(⟨(((nth ([za] : List z1) 0).fR).fN),(((nth ([za] : List z1) 0).fR).fD)⟩ : z2)⟩ : z1),z2k] : List z1).length) 2),(.slice (some ⟨z3O,0,none⟩) (([z1A] : List z1).length) 1)] ([([(⟨(⟨(((nth ([za] : List z1) 0).fBurst).fN),(((nth ([za] : List z1) 0).fBurst).fD)⟩ : z2),(⟨(((nth ([za] : List z1) 0).fR).fN),(((nth ([za] : List z1) 0).fR).fD)⟩ : z2)⟩ : z1),z2k] : List z1),([z1A] : List z1)] : List (List z1))) ∧ (Zle (Z ++ Zn8o1_49370) (Z ++ Zn10o1_49370)) ∧ (ZS (Z ++ Zn10o1_49370) 1 (p39 (Z ++ Zn10o1_49370)) (some ⟨b8o4_49370,0,none⟩) 2 ([([(⟨(⟨(((nth ([za] : List z1) 0).fBurst).fN),(((nth ([za] : List z1) 0).fBurst).fD)⟩ : z2),(⟨(((nth ([za] : List z1) 0).fR).fN),(((nth ([za] : List z1) 0).fR).fD)⟩ : z2)⟩ : z1),z2k] : List z1),([z1A] : List z1)] : List (List z1)))) (y1C 17 [16,15,14,13,12,11,10,8,6,9,7,5,4,3,2,1,0]) ?_ (fun K6o8o10o11o12o13o14o15o16_49370=>?_)
 ·skip
  rintro b6o1_49370 Zn8o1_49370 b8o4_49370 Zn10o1_49370 Zn10o4_49370 b14o1_49370 ⟨hle8o2_49370,hf8o3_49370,rel8o5_49370,hle10o2_49370,hf10o3_49370⟩
  refine WD.done (by kernel_rfl) ?_
  refine WX.a ?_
  refine WC.b ?_
  refine WC.a ?_
  refine WL.a (d:=58) rfl rfl rfl (y1j (v:=(.agg #[(.int .i64 0),(.int .i64 0),(.int .i64 10)])) (Eos.parts (l:=[.const (.int .i64 0),.const (.int .i64 10)]) (.cons rfl (.cons rfl .nil)) [0,2]) (fun _=>by kernel_rfl)) ?_
  refine WL.a (d:=59) rfl rfl rfl (y1j (v:=(.agg #[(.int .i64 3),(.int .i64 0),(.int .i64 10)])) (Eos.parts (l:=[.const (.int .i64 3),.const (.int .i64 10)]) (.cons rfl (.cons rfl .nil)) [0,2]) (fun _=>by kernel_rfl)) ?_
  refine WL.new (dd:=60) rfl rfl rfl (yU (cs:=([(⟨0,0,10⟩ : zSt),(⟨3,0,10⟩ : zSt)] : List zSt).flatMap e51) y67 (Eos.parts (l:=[.tmp 58,.tmp 59]) (.cons rfl (.cons rfl .nil)) [0,1]) (fun _=>by kernel_rfl) rfl (by unfold maxLen; omega)) ?_
  intro z16 _
  refine WL.a (d:=10) rfl rfl rfl (q_z rfl) ?_
  refine WL.nil ?_
  refine WX.a ?_
  refine WC.b ?_
  obtain ⟨zz,zxN,h⟩:=zb h
  refine WC.a ?_
  refine WL.a (d:=62) rfl rfl rfl (q_m rfl) ?_
  refine WL.y5e (dd:=63) rfl rfl rfl (zl (l:=[.tmp 62,.const (.int .i64 2),.const (.int .i64 5)]) Try.call14 (.cons rfl (.cons rfl (.cons rfl .nil)))) (.nil : Sel [row (.slice (some ⟨z16,0,none⟩) (([(⟨0,0,10⟩ : zSt),(⟨3,0,10⟩ : zSt)] : List zSt).length) 2) 51 3 (([(⟨0,0,10⟩ : zSt),(⟨3,0,10⟩ : zSt)] : List zSt).flatMap e51),stb b14o1_49370 30 [(.int .i64 zw.1.fN),(.int .i64 zw.1.fD)],fz (Zn10o1_49370 ++ Zn10o4_49370),stb zO 30 [(.int .i64 zj.1.fN),(.int .i64 zj.1.fD)],stb zN 30 [(.int .i64 zh.1.fN),(.int .i64 zh.1.fD)],stb zQ 43 [(.int .i64 zf.fN),(.int .i64 zf.fD),(.int .i64 zg.fN),(.int .i64 zg.fD)]] [] [row (.slice (some ⟨z16,0,none⟩) (([(⟨0,0,10⟩ : zSt),(⟨3,0,10⟩ : zSt)] : List zSt).length) 2) 51 3 (([(⟨0,0,10⟩ : zSt),(⟨3,0,10⟩ : zSt)] : List zSt).flatMap e51),stb b14o1_49370 30 [(.int .i64 zw.1.fN),(.int .i64 zw.1.fD)],fz (Zn10o1_49370 ++ Zn10o4_49370),stb zO 30 [(.int .i64 zj.1.fN),(.int .i64 zj.1.fD)],stb zN 30 [(.int .i64 zh.1.fN),(.int .i64 zh.1.fD)],stb zQ 43 [(.int .i64 zf.fN),(.int .i64 zf.fD),(.int .i64 zg.fN),(.int .i64 zg.fD)]]) (fun w hw=>by have pz:=(hz.call2 hw (.nil : Sel [row (.slice (some ⟨z16,0,none⟩) (([(⟨0,0,10⟩ : zSt),(⟨3,0,10⟩ : zSt)] : List zSt).length) 2) 51 3 (([(⟨0,0,10⟩ : zSt),(⟨3,0,10⟩ : zSt)] : List zSt).flatMap e51),stb b14o1_49370 30 [(.int .i64 zw.1.fN),(.int .i64 zw.1.fD)],fz (Zn10o1_49370 ++ Zn10o4_49370),stb zO 30 [(.int .i64 zj.1.fN),(.int .i64 zj.1.fD)],stb zN 30 [(.int .i64 zh.1.fN),(.int .i64 zh.1.fD)],stb zQ 43 [(.int .i64 zf.fN),(.int .i64 zf.fD),(.int .i64 zg.fN),(.int .i64 zg.fD)]] [] [row (.slice (some ⟨z16,0,none⟩) (([(⟨0,0,10⟩ : zSt),(⟨3,0,10⟩ : zSt)] : List zSt).length) 2) 51 3 (([(⟨0,0,10⟩ : zSt),(⟨3,0,10⟩ : zSt)] : List zSt).flatMap e51),stb b14o1_49370 30 [(.int .i64 zw.1.fN),(.int .i64 zw.1.fD)],fz (Zn10o1_49370 ++ Zn10o4_49370),stb zO 30 [(.int .i64 zj.1.fN),(.int .i64 zj.1.fD)],stb zN 30 [(.int .i64 zh.1.fN),(.int .i64 zh.1.fD)],stb zQ 43 [(.int .i64 zf.fN),(.int .i64 zf.fD),(.int .i64 zg.fN),(.int .i64 zg.fD)]]) .h2).lend hw (.nil : Sel [row (.slice (some ⟨z16,0,none⟩) (([(⟨0,0,10⟩ : zSt),(⟨3,0,10⟩ : zSt)] : List zSt).length) 2) 51 3 (([(⟨0,0,10⟩ : zSt),(⟨3,0,10⟩ : zSt)] : List zSt).flatMap e51),stb b14o1_49370 30 [(.int .i64 zw.1.fN),(.int .i64 zw.1.fD)],fz (Zn10o1_49370 ++ Zn10o4_49370),stb zO 30 [(.int .i64 zj.1.fN),(.int .i64 zj.1.fD)],stb zN 30 [(.int .i64 zh.1.fN),(.int .i64 zh.1.fD)],stb zQ 43 [(.int .i64 zf.fN),(.int .i64 zf.fD),(.int .i64 zg.fN),(.int .i64 zg.fD)]] [] [row (.slice (some ⟨z16,0,none⟩) (([(⟨0,0,10⟩ : zSt),(⟨3,0,10⟩ : zSt)] : List zSt).length) 2) 51 3 (([(⟨0,0,10⟩ : zSt),(⟨3,0,10⟩ : zSt)] : List zSt).flatMap e51),stb b14o1_49370 30 [(.int .i64 zw.1.fN),(.int .i64 zw.1.fD)],fz (Zn10o1_49370 ++ Zn10o4_49370),stb zO 30 [(.int .i64 zj.1.fN),(.int .i64 zj.1.fD)],stb zN 30 [(.int .i64 zh.1.fN),(.int .i64 zh.1.fD)],stb zQ 43 [(.int .i64 zf.fN),(.int .i64 zf.fD),(.int .i64 zg.fN),(.int .i64 zg.fD)]]) (B:=[row (.slice (some ⟨z16,0,none⟩) (([(⟨0,0,10⟩ : zSt),(⟨3,0,10⟩ : zSt)] : List zSt).length) 2) 51 3 (([(⟨0,0,10⟩ : zSt),(⟨3,0,10⟩ : zSt)] : List zSt).flatMap e51)]) (fun _ hx'=>((.cons .here .nil) : Sel _ [row (.slice (some ⟨z16,0,none⟩) (([(⟨0,0,10⟩ : zSt),(⟨3,0,10⟩ : zSt)] : List zSt).length) 2) 51 3 (([(⟨0,0,10⟩ : zSt),(⟨3,0,10⟩ : zSt)] : List zSt).flatMap e51)] _).mem hx'); exact y7W (Z:=_) (z8I:=(some ⟨z16,0,none⟩)) (z8J:=2) (z2w:=([(⟨0,0,10⟩ : zSt),(⟨3,0,10⟩ : zSt)] : List zSt)) (z33:=2) (z3C:=5) (r:=zz) w pz (ZA.row (hw.lent (.nil : Sel [row (.slice (some ⟨z16,0,none⟩) (([(⟨0,0,10⟩ : zSt),(⟨3,0,10⟩ : zSt)] : List zSt).length) 2) 51 3 (([(⟨0,0,10⟩ : zSt),(⟨3,0,10⟩ : zSt)] : List zSt).flatMap e51),stb b14o1_49370 30 [(.int .i64 zw.1.fN),(.int .i64 zw.1.fD)],fz (Zn10o1_49370 ++ Zn10o4_49370),stb zO 30 [(.int .i64 zj.1.fN),(.int .i64 zj.1.fD)],stb zN 30 [(.int .i64 zh.1.fN),(.int .i64 zh.1.fD)],stb zQ 43 [(.int .i64 zf.fN),(.int .i64 zf.fD),(.int .i64 zg.fN),(.int .i64 zg.fD)]] [] [row (.slice (some ⟨z16,0,none⟩) (([(⟨0,0,10⟩ : zSt),(⟨3,0,10⟩ : zSt)] : List zSt).length) 2) 51 3 (([(⟨0,0,10⟩ : zSt),(⟨3,0,10⟩ : zSt)] : List zSt).flatMap e51),stb b14o1_49370 30 [(.int .i64 zw.1.fN),(.int .i64 zw.1.fD)],fz (Zn10o1_49370 ++ Zn10o4_49370),stb zO 30 [(.int .i64 zj.1.fN),(.int .i64 zj.1.fD)],stb zN 30 [(.int .i64 zh.1.fN),(.int .i64 zh.1.fD)],stb zQ 43 [(.int .i64 zf.fN),(.int .i64 zf.fD),(.int .i64 zg.fN),(.int .i64 zg.fD)]]) (B:=[row (.slice (some ⟨z16,0,none⟩) (([(⟨0,0,10⟩ : zSt),(⟨3,0,10⟩ : zSt)] : List zSt).length) 2) 51 3 (([(⟨0,0,10⟩ : zSt),(⟨3,0,10⟩ : zSt)] : List zSt).flatMap e51)]) (fun _ hx'=>((.cons .here .nil) : Sel _ [row (.slice (some ⟨z16,0,none⟩) (([(⟨0,0,10⟩ : zSt),(⟨3,0,10⟩ : zSt)] : List zSt).length) 2) 51 3 (([(⟨0,0,10⟩ : zSt),(⟨3,0,10⟩ : zSt)] : List zSt).flatMap e51)] _).mem hx') (.head _) _) (RR.flat (enc:=e51) (fun _=>rfl) _) ⟨w,pz.1⟩) zxN) ?_
  rintro z1C z1D _
  refine WL.a (d:=61) rfl rfl rfl (q_m rfl) ?_
  refine WL.a (d:=64) rfl rfl rfl (yb rfl rfl) ?_
  refine WL.a (d:=65) rfl rfl rfl (yb rfl rfl) ?_
  refine WL.a (d:=11) rfl rfl rfl (q_z rfl) ?_
  refine WL.a (d:=12) rfl rfl rfl (q_z rfl) ?_
  refine WL.nil ?_
  refine WX.a ?_
  refine WC.b ?_
  obtain ⟨zi4,zxO,h⟩:=zb h
  obtain ⟨zi5,zxP,h⟩:=zb h
  obtain ⟨zC,zxQ,h⟩:=zb h
  obtain ⟨z7Q,zxR,h⟩:=zb h
  refine WC.a ?_
  refine WL.b (dd:=67) rfl rfl rfl (zl (l:=[.const (.int .i64 10),.const (.int .i64 1)]) Try.call11 (.cons rfl (.cons rfl .nil))) (.nil : Sel [row (.slice z1C zz.1.length z1D) 3 1 (zz.1.flatMap e3),row (.slice (some ⟨z16,0,none⟩) (([(⟨0,0,10⟩ : zSt),(⟨3,0,10⟩ : zSt)] : List zSt).length) 2) 51 3 (([(⟨0,0,10⟩ : zSt),(⟨3,0,10⟩ : zSt)] : List zSt).flatMap e51),stb b14o1_49370 30 [(.int .i64 zw.1.fN),(.int .i64 zw.1.fD)],fz (Zn10o1_49370 ++ Zn10o4_49370),stb zO 30 [(.int .i64 zj.1.fN),(.int .i64 zj.1.fD)],stb zN 30 [(.int .i64 zh.1.fN),(.int .i64 zh.1.fD)],stb zQ 43 [(.int .i64 zf.fN),(.int .i64 zf.fD),(.int .i64 zg.fN),(.int .i64 zg.fD)]] [] [row (.slice z1C zz.1.length z1D) 3 1 (zz.1.flatMap e3),row (.slice (some ⟨z16,0,none⟩) (([(⟨0,0,10⟩ : zSt),(⟨3,0,10⟩ : zSt)] : List zSt).length) 2) 51 3 (([(⟨0,0,10⟩ : zSt),(⟨3,0,10⟩ : zSt)] : List zSt).flatMap e51),stb b14o1_49370 30 [(.int .i64 zw.1.fN),(.int .i64 zw.1.fD)],fz (Zn10o1_49370 ++ Zn10o4_49370),stb zO 30 [(.int .i64 zj.1.fN),(.int .i64 zj.1.fD)],stb zN 30 [(.int .i64 zh.1.fN),(.int .i64 zh.1.fD)],stb zQ 43 [(.int .i64 zf.fN),(.int .i64 zf.fD),(.int .i64 zg.fN),(.int .i64 zg.fD)]]) (fun w hw=>by have pz:=(hz.call2 hw (.nil : Sel [row (.slice z1C zz.1.length z1D) 3 1 (zz.1.flatMap e3),row (.slice (some ⟨z16,0,none⟩) (([(⟨0,0,10⟩ : zSt),(⟨3,0,10⟩ : zSt)] : List zSt).length) 2) 51 3 (([(⟨0,0,10⟩ : zSt),(⟨3,0,10⟩ : zSt)] : List zSt).flatMap e51),stb b14o1_49370 30 [(.int .i64 zw.1.fN),(.int .i64 zw.1.fD)],fz (Zn10o1_49370 ++ Zn10o4_49370),stb zO 30 [(.int .i64 zj.1.fN),(.int .i64 zj.1.fD)],stb zN 30 [(.int .i64 zh.1.fN),(.int .i64 zh.1.fD)],stb zQ 43 [(.int .i64 zf.fN),(.int .i64 zf.fD),(.int .i64 zg.fN),(.int .i64 zg.fD)]] [] [row (.slice z1C zz.1.length z1D) 3 1 (zz.1.flatMap e3),row (.slice (some ⟨z16,0,none⟩) (([(⟨0,0,10⟩ : zSt),(⟨3,0,10⟩ : zSt)] : List zSt).length) 2) 51 3 (([(⟨0,0,10⟩ : zSt),(⟨3,0,10⟩ : zSt)] : List zSt).flatMap e51),stb b14o1_49370 30 [(.int .i64 zw.1.fN),(.int .i64 zw.1.fD)],fz (Zn10o1_49370 ++ Zn10o4_49370),stb zO 30 [(.int .i64 zj.1.fN),(.int .i64 zj.1.fD)],stb zN 30 [(.int .i64 zh.1.fN),(.int .i64 zh.1.fD)],stb zQ 43 [(.int .i64 zf.fN),(.int .i64 zf.fD),(.int .i64 zg.fN),(.int .i64 zg.fD)]]) .h3); exact y1o (Z:=_)  (z4l:=10) (z4m:=1) (r:=zi4) w pz  zxO) ?_
  refine WL.b (dd:=68) rfl rfl rfl (zl (l:=[.const (.int .i64 4),.const (.int .i64 1)]) Try.call11 (.cons rfl (.cons rfl .nil))) (.nil : Sel [row (.slice z1C zz.1.length z1D) 3 1 (zz.1.flatMap e3),row (.slice (some ⟨z16,0,none⟩) (([(⟨0,0,10⟩ : zSt),(⟨3,0,10⟩ : zSt)] : List zSt).length) 2) 51 3 (([(⟨0,0,10⟩ : zSt),(⟨3,0,10⟩ : zSt)] : List zSt).flatMap e51),stb b14o1_49370 30 [(.int .i64 zw.1.fN),(.int .i64 zw.1.fD)],fz (Zn10o1_49370 ++ Zn10o4_49370),stb zO 30 [(.int .i64 zj.1.fN),(.int .i64 zj.1.fD)],stb zN 30 [(.int .i64 zh.1.fN),(.int .i64 zh.1.fD)],stb zQ 43 [(.int .i64 zf.fN),(.int .i64 zf.fD),(.int .i64 zg.fN),(.int .i64 zg.fD)]] [] [row (.slice z1C zz.1.length z1D) 3 1 (zz.1.flatMap e3),row (.slice (some ⟨z16,0,none⟩) (([(⟨0,0,10⟩ : zSt),(⟨3,0,10⟩ : zSt)] : List zSt).length) 2) 51 3 (([(⟨0,0,10⟩ : zSt),(⟨3,0,10⟩ : zSt)] : List zSt).flatMap e51),stb b14o1_49370 30 [(.int .i64 zw.1.fN),(.int .i64 zw.1.fD)],fz (Zn10o1_49370 ++ Zn10o4_49370),stb zO 30 [(.int .i64 zj.1.fN),(.int .i64 zj.1.fD)],stb zN 30 [(.int .i64 zh.1.fN),(.int .i64 zh.1.fD)],stb zQ 43 [(.int .i64 zf.fN),(.int .i64 zf.fD),(.int .i64 zg.fN),(.int .i64 zg.fD)]]) (fun w hw=>by have pz:=(hz.call2 hw (.nil : Sel [row (.slice z1C zz.1.length z1D) 3 1 (zz.1.flatMap e3),row (.slice (some ⟨z16,0,none⟩) (([(⟨0,0,10⟩ : zSt),(⟨3,0,10⟩ : zSt)] : List zSt).length) 2) 51 3 (([(⟨0,0,10⟩ : zSt),(⟨3,0,10⟩ : zSt)] : List zSt).flatMap e51),stb b14o1_49370 30 [(.int .i64 zw.1.fN),(.int .i64 zw.1.fD)],fz (Zn10o1_49370 ++ Zn10o4_49370),stb zO 30 [(.int .i64 zj.1.fN),(.int .i64 zj.1.fD)],stb zN 30 [(.int .i64 zh.1.fN),(.int .i64 zh.1.fD)],stb zQ 43 [(.int .i64 zf.fN),(.int .i64 zf.fD),(.int .i64 zg.fN),(.int .i64 zg.fD)]] [] [row (.slice z1C zz.1.length z1D) 3 1 (zz.1.flatMap e3),row (.slice (some ⟨z16,0,none⟩) (([(⟨0,0,10⟩ : zSt),(⟨3,0,10⟩ : zSt)] : List zSt).length) 2) 51 3 (([(⟨0,0,10⟩ : zSt),(⟨3,0,10⟩ : zSt)] : List zSt).flatMap e51),stb b14o1_49370 30 [(.int .i64 zw.1.fN),(.int .i64 zw.1.fD)],fz (Zn10o1_49370 ++ Zn10o4_49370),stb zO 30 [(.int .i64 zj.1.fN),(.int .i64 zj.1.fD)],stb zN 30 [(.int .i64 zh.1.fN),(.int .i64 zh.1.fD)],stb zQ 43 [(.int .i64 zf.fN),(.int .i64 zf.fD),(.int .i64 zg.fN),(.int .i64 zg.fD)]]) .h3); exact y1o (Z:=_)  (z4l:=4) (z4m:=1) (r:=zi5) w pz  zxP) ?_
  refine WL.b (dd:=69) rfl rfl rfl (zl (l:=[.tmp 67,.tmp 68]) Try.call10 (.cons rfl (.cons rfl .nil))) (.nil : Sel [row (.slice z1C zz.1.length z1D) 3 1 (zz.1.flatMap e3),row (.slice (some ⟨z16,0,none⟩) (([(⟨0,0,10⟩ : zSt),(⟨3,0,10⟩ : zSt)] : List zSt).length) 2) 51 3 (([(⟨0,0,10⟩ : zSt),(⟨3,0,10⟩ : zSt)] : List zSt).flatMap e51),stb b14o1_49370 30 [(.int .i64 zw.1.fN),(.int .i64 zw.1.fD)],fz (Zn10o1_49370 ++ Zn10o4_49370),stb zO 30 [(.int .i64 zj.1.fN),(.int .i64 zj.1.fD)],stb zN 30 [(.int .i64 zh.1.fN),(.int .i64 zh.1.fD)],stb zQ 43 [(.int .i64 zf.fN),(.int .i64 zf.fD),(.int .i64 zg.fN),(.int .i64 zg.fD)]] [] [row (.slice z1C zz.1.length z1D) 3 1 (zz.1.flatMap e3),row (.slice (some ⟨z16,0,none⟩) (([(⟨0,0,10⟩ : zSt),(⟨3,0,10⟩ : zSt)] : List zSt).length) 2) 51 3 (([(⟨0,0,10⟩ : zSt),(⟨3,0,10⟩ : zSt)] : List zSt).flatMap e51),stb b14o1_49370 30 [(.int .i64 zw.1.fN),(.int .i64 zw.1.fD)],fz (Zn10o1_49370 ++ Zn10o4_49370),stb zO 30 [(.int .i64 zj.1.fN),(.int .i64 zj.1.fD)],stb zN 30 [(.int .i64 zh.1.fN),(.int .i64 zh.1.fD)],stb zQ 43 [(.int .i64 zf.fN),(.int .i64 zf.fD),(.int .i64 zg.fN),(.int .i64 zg.fD)]]) (fun w hw=>by have pz:=(hz.call2 hw (.nil : Sel [row (.slice z1C zz.1.length z1D) 3 1 (zz.1.flatMap e3),row (.slice (some ⟨z16,0,none⟩) (([(⟨0,0,10⟩ : zSt),(⟨3,0,10⟩ : zSt)] : List zSt).length) 2) 51 3 (([(⟨0,0,10⟩ : zSt),(⟨3,0,10⟩ : zSt)] : List zSt).flatMap e51),stb b14o1_49370 30 [(.int .i64 zw.1.fN),(.int .i64 zw.1.fD)],fz (Zn10o1_49370 ++ Zn10o4_49370),stb zO 30 [(.int .i64 zj.1.fN),(.int .i64 zj.1.fD)],stb zN 30 [(.int .i64 zh.1.fN),(.int .i64 zh.1.fD)],stb zQ 43 [(.int .i64 zf.fN),(.int .i64 zf.fD),(.int .i64 zg.fN),(.int .i64 zg.fD)]] [] [row (.slice z1C zz.1.length z1D) 3 1 (zz.1.flatMap e3),row (.slice (some ⟨z16,0,none⟩) (([(⟨0,0,10⟩ : zSt),(⟨3,0,10⟩ : zSt)] : List zSt).length) 2) 51 3 (([(⟨0,0,10⟩ : zSt),(⟨3,0,10⟩ : zSt)] : List zSt).flatMap e51),stb b14o1_49370 30 [(.int .i64 zw.1.fN),(.int .i64 zw.1.fD)],fz (Zn10o1_49370 ++ Zn10o4_49370),stb zO 30 [(.int .i64 zj.1.fN),(.int .i64 zj.1.fD)],stb zN 30 [(.int .i64 zh.1.fN),(.int .i64 zh.1.fD)],stb zQ 43 [(.int .i64 zf.fN),(.int .i64 zf.fD),(.int .i64 zg.fN),(.int .i64 zg.fD)]]) .h3); exact y3z (Z:=_)  (z4H:=zi4) (z4I:=zi5) (r:=zC) w pz  zxQ) ?_
  refine WL.new (dd:=70) rfl rfl rfl (yU (cs:=([zC] : List z1).flatMap e35) y2j (Eos.parts (l:=[.tmp 69]) (.cons rfl .nil) [0]) (fun _=>by kernel_rfl) rfl (by unfold maxLen; omega)) ?_
  intro z2l _
  refine WL.a (d:=71) rfl rfl rfl (q_m rfl) ?_
  refine WL.b (dd:=72) rfl rfl rfl (zl (l:=[.tmp 70,.tmp 71]) Try.call12 (.cons rfl (.cons rfl .nil))) (.nil : Sel [row (.slice (some ⟨z2l,0,none⟩) (([zC] : List z1).length) 1) 35 4 (([zC] : List z1).flatMap e35),row (.slice z1C zz.1.length z1D) 3 1 (zz.1.flatMap e3),row (.slice (some ⟨z16,0,none⟩) (([(⟨0,0,10⟩ : zSt),(⟨3,0,10⟩ : zSt)] : List zSt).length) 2) 51 3 (([(⟨0,0,10⟩ : zSt),(⟨3,0,10⟩ : zSt)] : List zSt).flatMap e51),stb b14o1_49370 30 [(.int .i64 zw.1.fN),(.int .i64 zw.1.fD)],fz (Zn10o1_49370 ++ Zn10o4_49370),stb zO 30 [(.int .i64 zj.1.fN),(.int .i64 zj.1.fD)],stb zN 30 [(.int .i64 zh.1.fN),(.int .i64 zh.1.fD)],stb zQ 43 [(.int .i64 zf.fN),(.int .i64 zf.fD),(.int .i64 zg.fN),(.int .i64 zg.fD)]] [] [row (.slice (some ⟨z2l,0,none⟩) (([zC] : List z1).length) 1) 35 4 (([zC] : List z1).flatMap e35),row (.slice z1C zz.1.length z1D) 3 1 (zz.1.flatMap e3),row (.slice (some ⟨z16,0,none⟩) (([(⟨0,0,10⟩ : zSt),(⟨3,0,10⟩ : zSt)] : List zSt).length) 2) 51 3 (([(⟨0,0,10⟩ : zSt),(⟨3,0,10⟩ : zSt)] : List zSt).flatMap e51),stb b14o1_49370 30 [(.int .i64 zw.1.fN),(.int .i64 zw.1.fD)],fz (Zn10o1_49370 ++ Zn10o4_49370),stb zO 30 [(.int .i64 zj.1.fN),(.int .i64 zj.1.fD)],stb zN 30 [(.int .i64 zh.1.fN),(.int .i64 zh.1.fD)],stb zQ 43 [(.int .i64 zf.fN),(.int .i64 zf.fD),(.int .i64 zg.fN),(.int .i64 zg.fD)]]) (fun w hw=>by have pz:=(hz.call2 hw (.nil : Sel [row (.slice (some ⟨z2l,0,none⟩) (([zC] : List z1).length) 1) 35 4 (([zC] : List z1).flatMap e35),row (.slice z1C zz.1.length z1D) 3 1 (zz.1.flatMap e3),row (.slice (some ⟨z16,0,none⟩) (([(⟨0,0,10⟩ : zSt),(⟨3,0,10⟩ : zSt)] : List zSt).length) 2) 51 3 (([(⟨0,0,10⟩ : zSt),(⟨3,0,10⟩ : zSt)] : List zSt).flatMap e51),stb b14o1_49370 30 [(.int .i64 zw.1.fN),(.int .i64 zw.1.fD)],fz (Zn10o1_49370 ++ Zn10o4_49370),stb zO 30 [(.int .i64 zj.1.fN),(.int .i64 zj.1.fD)],stb zN 30 [(.int .i64 zh.1.fN),(.int .i64 zh.1.fD)],stb zQ 43 [(.int .i64 zf.fN),(.int .i64 zf.fD),(.int .i64 zg.fN),(.int .i64 zg.fD)]] [] [row (.slice (some ⟨z2l,0,none⟩) (([zC] : List z1).length) 1) 35 4 (([zC] : List z1).flatMap e35),row (.slice z1C zz.1.length z1D) 3 1 (zz.1.flatMap e3),row (.slice (some ⟨z16,0,none⟩) (([(⟨0,0,10⟩ : zSt),(⟨3,0,10⟩ : zSt)] : List zSt).length) 2) 51 3 (([(⟨0,0,10⟩ : zSt),(⟨3,0,10⟩ : zSt)] : List zSt).flatMap e51),stb b14o1_49370 30 [(.int .i64 zw.1.fN),(.int .i64 zw.1.fD)],fz (Zn10o1_49370 ++ Zn10o4_49370),stb zO 30 [(.int .i64 zj.1.fN),(.int .i64 zj.1.fD)],stb zN 30 [(.int .i64 zh.1.fN),(.int .i64 zh.1.fD)],stb zQ 43 [(.int .i64 zf.fN),(.int .i64 zf.fD),(.int .i64 zg.fN),(.int .i64 zg.fD)]]) .h4).lend hw (.nil : Sel [row (.slice (some ⟨z2l,0,none⟩) (([zC] : List z1).length) 1) 35 4 (([zC] : List z1).flatMap e35),row (.slice z1C zz.1.length z1D) 3 1 (zz.1.flatMap e3),row (.slice (some ⟨z16,0,none⟩) (([(⟨0,0,10⟩ : zSt),(⟨3,0,10⟩ : zSt)] : List zSt).length) 2) 51 3 (([(⟨0,0,10⟩ : zSt),(⟨3,0,10⟩ : zSt)] : List zSt).flatMap e51),stb b14o1_49370 30 [(.int .i64 zw.1.fN),(.int .i64 zw.1.fD)],fz (Zn10o1_49370 ++ Zn10o4_49370),stb zO 30 [(.int .i64 zj.1.fN),(.int .i64 zj.1.fD)],stb zN 30 [(.int .i64 zh.1.fN),(.int .i64 zh.1.fD)],stb zQ 43 [(.int .i64 zf.fN),(.int .i64 zf.fD),(.int .i64 zg.fN),(.int .i64 zg.fD)]] [] [row (.slice (some ⟨z2l,0,none⟩) (([zC] : List z1).length) 1) 35 4 (([zC] : List z1).flatMap e35),row (.slice z1C zz.1.length z1D) 3 1 (zz.1.flatMap e3),row (.slice (some ⟨z16,0,none⟩) (([(⟨0,0,10⟩ : zSt),(⟨3,0,10⟩ : zSt)] : List zSt).length) 2) 51 3 (([(⟨0,0,10⟩ : zSt),(⟨3,0,10⟩ : zSt)] : List zSt).flatMap e51),stb b14o1_49370 30 [(.int .i64 zw.1.fN),(.int .i64 zw.1.fD)],fz (Zn10o1_49370 ++ Zn10o4_49370),stb zO 30 [(.int .i64 zj.1.fN),(.int .i64 zj.1.fD)],stb zN 30 [(.int .i64 zh.1.fN),(.int .i64 zh.1.fD)],stb zQ 43 [(.int .i64 zf.fN),(.int .i64 zf.fD),(.int .i64 zg.fN),(.int .i64 zg.fD)]]) (B:=[row (.slice (some ⟨z2l,0,none⟩) (([zC] : List z1).length) 1) 35 4 (([zC] : List z1).flatMap e35),row (.slice (some ⟨z16,0,none⟩) (([(⟨0,0,10⟩ : zSt),(⟨3,0,10⟩ : zSt)] : List zSt).length) 2) 51 3 (([(⟨0,0,10⟩ : zSt),(⟨3,0,10⟩ : zSt)] : List zSt).flatMap e51)]) (fun _ hx'=>((.cons .here (.cons .h1 .nil)) : Sel _ [row (.slice (some ⟨z2l,0,none⟩) (([zC] : List z1).length) 1) 35 4 (([zC] : List z1).flatMap e35),row (.slice (some ⟨z16,0,none⟩) (([(⟨0,0,10⟩ : zSt),(⟨3,0,10⟩ : zSt)] : List zSt).length) 2) 51 3 (([(⟨0,0,10⟩ : zSt),(⟨3,0,10⟩ : zSt)] : List zSt).flatMap e51)] _).mem hx'); exact y4Z (Z:=_) (z7O:=(some ⟨z2l,0,none⟩)) (z7P:=1) (z88:=(some ⟨z16,0,none⟩)) (z89:=2) (z3N:=([zC] : List z1)) (z13:=([(⟨0,0,10⟩ : zSt),(⟨3,0,10⟩ : zSt)] : List zSt)) (r:=z7Q) w pz (ZA.row (hw.lent (.nil : Sel [row (.slice (some ⟨z2l,0,none⟩) (([zC] : List z1).length) 1) 35 4 (([zC] : List z1).flatMap e35),row (.slice z1C zz.1.length z1D) 3 1 (zz.1.flatMap e3),row (.slice (some ⟨z16,0,none⟩) (([(⟨0,0,10⟩ : zSt),(⟨3,0,10⟩ : zSt)] : List zSt).length) 2) 51 3 (([(⟨0,0,10⟩ : zSt),(⟨3,0,10⟩ : zSt)] : List zSt).flatMap e51),stb b14o1_49370 30 [(.int .i64 zw.1.fN),(.int .i64 zw.1.fD)],fz (Zn10o1_49370 ++ Zn10o4_49370),stb zO 30 [(.int .i64 zj.1.fN),(.int .i64 zj.1.fD)],stb zN 30 [(.int .i64 zh.1.fN),(.int .i64 zh.1.fD)],stb zQ 43 [(.int .i64 zf.fN),(.int .i64 zf.fD),(.int .i64 zg.fN),(.int .i64 zg.fD)]] [] [row (.slice (some ⟨z2l,0,none⟩) (([zC] : List z1).length) 1) 35 4 (([zC] : List z1).flatMap e35),row (.slice z1C zz.1.length z1D) 3 1 (zz.1.flatMap e3),row (.slice (some ⟨z16,0,none⟩) (([(⟨0,0,10⟩ : zSt),(⟨3,0,10⟩ : zSt)] : List zSt).length) 2) 51 3 (([(⟨0,0,10⟩ : zSt),(⟨3,0,10⟩ : zSt)] : List zSt).flatMap e51),stb b14o1_49370 30 [(.int .i64 zw.1.fN),(.int .i64 zw.1.fD)],fz (Zn10o1_49370 ++ Zn10o4_49370),stb zO 30 [(.int .i64 zj.1.fN),(.int .i64 zj.1.fD)],stb zN 30 [(.int .i64 zh.1.fN),(.int .i64 zh.1.fD)],stb zQ 43 [(.int .i64 zf.fN),(.int .i64 zf.fD),(.int .i64 zg.fN),(.int .i64 zg.fD)]]) (B:=[row (.slice (some ⟨z2l,0,none⟩) (([zC] : List z1).length) 1) 35 4 (([zC] : List z1).flatMap e35),row (.slice (some ⟨z16,0,none⟩) (([(⟨0,0,10⟩ : zSt),(⟨3,0,10⟩ : zSt)] : List zSt).length) 2) 51 3 (([(⟨0,0,10⟩ : zSt),(⟨3,0,10⟩ : zSt)] : List zSt).flatMap e51)]) (fun _ hx'=>((.cons .here (.cons .h1 .nil)) : Sel _ [row (.slice (some ⟨z2l,0,none⟩) (([zC] : List z1).length) 1) 35 4 (([zC] : List z1).flatMap e35),row (.slice (some ⟨z16,0,none⟩) (([(⟨0,0,10⟩ : zSt),(⟨3,0,10⟩ : zSt)] : List zSt).length) 2) 51 3 (([(⟨0,0,10⟩ : zSt),(⟨3,0,10⟩ : zSt)] : List zSt).flatMap e51)] _).mem hx') (.head _) _) (RR.flat (enc:=e35) (fun _=>rfl) _) ⟨w,pz.1⟩) (ZA.row (hw.lent (.nil : Sel [row (.slice (some ⟨z2l,0,none⟩) (([zC] : List z1).length) 1) 35 4 (([zC] : List z1).flatMap e35),row (.slice z1C zz.1.length z1D) 3 1 (zz.1.flatMap e3),row (.slice (some ⟨z16,0,none⟩) (([(⟨0,0,10⟩ : zSt),(⟨3,0,10⟩ : zSt)] : List zSt).length) 2) 51 3 (([(⟨0,0,10⟩ : zSt),(⟨3,0,10⟩ : zSt)] : List zSt).flatMap e51),stb b14o1_49370 30 [(.int .i64 zw.1.fN),(.int .i64 zw.1.fD)],fz (Zn10o1_49370 ++ Zn10o4_49370),stb zO 30 [(.int .i64 zj.1.fN),(.int .i64 zj.1.fD)],stb zN 30 [(.int .i64 zh.1.fN),(.int .i64 zh.1.fD)],stb zQ 43 [(.int .i64 zf.fN),(.int .i64 zf.fD),(.int .i64 zg.fN),(.int .i64 zg.fD)]] [] [row (.slice (some ⟨z2l,0,none⟩) (([zC] : List z1).length) 1) 35 4 (([zC] : List z1).flatMap e35),row (.slice z1C zz.1.length z1D) 3 1 (zz.1.flatMap e3),row (.slice (some ⟨z16,0,none⟩) (([(⟨0,0,10⟩ : zSt),(⟨3,0,10⟩ : zSt)] : List zSt).length) 2) 51 3 (([(⟨0,0,10⟩ : zSt),(⟨3,0,10⟩ : zSt)] : List zSt).flatMap e51),stb b14o1_49370 30 [(.int .i64 zw.1.fN),(.int .i64 zw.1.fD)],fz (Zn10o1_49370 ++ Zn10o4_49370),stb zO 30 [(.int .i64 zj.1.fN),(.int .i64 zj.1.fD)],stb zN 30 [(.int .i64 zh.1.fN),(.int .i64 zh.1.fD)],stb zQ 43 [(.int .i64 zf.fN),(.int .i64 zf.fD),(.int .i64 zg.fN),(.int .i64 zg.fD)]]) (B:=[row (.slice (some ⟨z2l,0,none⟩) (([zC] : List z1).length) 1) 35 4 (([zC] : List z1).flatMap e35),row (.slice (some ⟨z16,0,none⟩) (([(⟨0,0,10⟩ : zSt),(⟨3,0,10⟩ : zSt)] : List zSt).length) 2) 51 3 (([(⟨0,0,10⟩ : zSt),(⟨3,0,10⟩ : zSt)] : List zSt).flatMap e51)]) (fun _ hx'=>((.cons .here (.cons .h1 .nil)) : Sel _ [row (.slice (some ⟨z2l,0,none⟩) (([zC] : List z1).length) 1) 35 4 (([zC] : List z1).flatMap e35),row (.slice (some ⟨z16,0,none⟩) (([(⟨0,0,10⟩ : zSt),(⟨3,0,10⟩ : zSt)] : List zSt).length) 2) 51 3 (([(⟨0,0,10⟩ : zSt),(⟨3,0,10⟩ : zSt)] : List zSt).flatMap e51)] _).mem hx') (.tail _ (.head _)) _) (RR.flat (enc:=e51) (fun _=>rfl) _) ⟨w,pz.1⟩) zxR) ?_
  refine WL.a (d:=66) rfl rfl rfl (q_m rfl) ?_
  refine WL.a (d:=73) rfl rfl rfl (yb rfl rfl) ?_
  refine WL.a (d:=74) rfl rfl rfl (yb rfl rfl) ?_
  refine WL.a (d:=13) rfl rfl rfl (q_z rfl) ?_
  refine WL.a (d:=14) rfl rfl rfl (q_z rfl) ?_
  refine WL.nil ?_
  refine WX.a ?_
  refine WC.b ?_
  obtain ⟨zi6,zxS,h⟩:=zb h
  obtain ⟨zi7,zxT,h⟩:=zb h
  obtain ⟨z1T,zxU,h⟩:=zb h
  obtain ⟨z8F,zxV,h⟩:=zb h
  refine WC.a ?_
  refine WL.b (dd:=76) rfl rfl rfl (zl (l:=[.const (.int .i64 10),.const (.int .i64 1)]) Try.call11 (.cons rfl (.cons rfl .nil))) (.nil : Sel [row (.slice (some ⟨z2l,0,none⟩) (([zC] : List z1).length) 1) 35 4 (([zC] : List z1).flatMap e35),row (.slice z1C zz.1.length z1D) 3 1 (zz.1.flatMap e3),row (.slice (some ⟨z16,0,none⟩) (([(⟨0,0,10⟩ : zSt),(⟨3,0,10⟩ : zSt)] : List zSt).length) 2) 51 3 (([(⟨0,0,10⟩ : zSt),(⟨3,0,10⟩ : zSt)] : List zSt).flatMap e51),stb b14o1_49370 30 [(.int .i64 zw.1.fN),(.int .i64 zw.1.fD)],fz (Zn10o1_49370 ++ Zn10o4_49370),stb zO 30 [(.int .i64 zj.1.fN),(.int .i64 zj.1.fD)],stb zN 30 [(.int .i64 zh.1.fN),(.int .i64 zh.1.fD)],stb zQ 43 [(.int .i64 zf.fN),(.int .i64 zf.fD),(.int .i64 zg.fN),(.int .i64 zg.fD)]] [] [row (.slice (some ⟨z2l,0,none⟩) (([zC] : List z1).length) 1) 35 4 (([zC] : List z1).flatMap e35),row (.slice z1C zz.1.length z1D) 3 1 (zz.1.flatMap e3),row (.slice (some ⟨z16,0,none⟩) (([(⟨0,0,10⟩ : zSt),(⟨3,0,10⟩ : zSt)] : List zSt).length) 2) 51 3 (([(⟨0,0,10⟩ : zSt),(⟨3,0,10⟩ : zSt)] : List zSt).flatMap e51),stb b14o1_49370 30 [(.int .i64 zw.1.fN),(.int .i64 zw.1.fD)],fz (Zn10o1_49370 ++ Zn10o4_49370),stb zO 30 [(.int .i64 zj.1.fN),(.int .i64 zj.1.fD)],stb zN 30 [(.int .i64 zh.1.fN),(.int .i64 zh.1.fD)],stb zQ 43 [(.int .i64 zf.fN),(.int .i64 zf.fD),(.int .i64 zg.fN),(.int .i64 zg.fD)]]) (fun w hw=>by have pz:=(hz.call2 hw (.nil : Sel [row (.slice (some ⟨z2l,0,none⟩) (([zC] : List z1).length) 1) 35 4 (([zC] : List z1).flatMap e35),row (.slice z1C zz.1.length z1D) 3 1 (zz.1.flatMap e3),row (.slice (some ⟨z16,0,none⟩) (([(⟨0,0,10⟩ : zSt),(⟨3,0,10⟩ : zSt)] : List zSt).length) 2) 51 3 (([(⟨0,0,10⟩ : zSt),(⟨3,0,10⟩ : zSt)] : List zSt).flatMap e51),stb b14o1_49370 30 [(.int .i64 zw.1.fN),(.int .i64 zw.1.fD)],fz (Zn10o1_49370 ++ Zn10o4_49370),stb zO 30 [(.int .i64 zj.1.fN),(.int .i64 zj.1.fD)],stb zN 30 [(.int .i64 zh.1.fN),(.int .i64 zh.1.fD)],stb zQ 43 [(.int .i64 zf.fN),(.int .i64 zf.fD),(.int .i64 zg.fN),(.int .i64 zg.fD)]] [] [row (.slice (some ⟨z2l,0,none⟩) (([zC] : List z1).length) 1) 35 4 (([zC] : List z1).flatMap e35),row (.slice z1C zz.1.length z1D) 3 1 (zz.1.flatMap e3),row (.slice (some ⟨z16,0,none⟩) (([(⟨0,0,10⟩ : zSt),(⟨3,0,10⟩ : zSt)] : List zSt).length) 2) 51 3 (([(⟨0,0,10⟩ : zSt),(⟨3,0,10⟩ : zSt)] : List zSt).flatMap e51),stb b14o1_49370 30 [(.int .i64 zw.1.fN),(.int .i64 zw.1.fD)],fz (Zn10o1_49370 ++ Zn10o4_49370),stb zO 30 [(.int .i64 zj.1.fN),(.int .i64 zj.1.fD)],stb zN 30 [(.int .i64 zh.1.fN),(.int .i64 zh.1.fD)],stb zQ 43 [(.int .i64 zf.fN),(.int .i64 zf.fD),(.int .i64 zg.fN),(.int .i64 zg.fD)]]) .h4); exact y1o (Z:=_)  (z4l:=10) (z4m:=1) (r:=zi6) w pz  zxS) ?_
  refine WL.b (dd:=77) rfl rfl rfl (zl (l:=[.const (.int .i64 3),.const (.int .i64 1)]) Try.call11 (.cons rfl (.cons rfl .nil))) (.nil : Sel [row (.slice (some ⟨z2l,0,none⟩) (([zC] : List z1).length) 1) 35 4 (([zC] : List z1).flatMap e35),row (.slice z1C zz.1.length z1D) 3 1 (zz.1.flatMap e3),row (.slice (some ⟨z16,0,none⟩) (([(⟨0,0,10⟩ : zSt),(⟨3,0,10⟩ : zSt)] : List zSt).length) 2) 51 3 (([(⟨0,0,10⟩ : zSt),(⟨3,0,10⟩ : zSt)] : List zSt).flatMap e51),stb b14o1_49370 30 [(.int .i64 zw.1.fN),(.int .i64 zw.1.fD)],fz (Zn10o1_49370 ++ Zn10o4_49370),stb zO 30 [(.int .i64 zj.1.fN),(.int .i64 zj.1.fD)],stb zN 30 [(.int .i64 zh.1.fN),(.int .i64 zh.1.fD)],stb zQ 43 [(.int .i64 zf.fN),(.int .i64 zf.fD),(.int .i64 zg.fN),(.int .i64 zg.fD)]] [] [row (.slice (some ⟨z2l,0,none⟩) (([zC] : List z1).length) 1) 35 4 (([zC] : List z1).flatMap e35),row (.slice z1C zz.1.length z1D) 3 1 (zz.1.flatMap e3),row (.slice (some ⟨z16,0,none⟩) (([(⟨0,0,10⟩ : zSt),(⟨3,0,10⟩ : zSt)] : List zSt).length) 2) 51 3 (([(⟨0,0,10⟩ : zSt),(⟨3,0,10⟩ : zSt)] : List zSt).flatMap e51),stb b14o1_49370 30 [(.int .i64 zw.1.fN),(.int .i64 zw.1.fD)],fz (Zn10o1_49370 ++ Zn10o4_49370),stb zO 30 [(.int .i64 zj.1.fN),(.int .i64 zj.1.fD)],stb zN 30 [(.int .i64 zh.1.fN),(.int .i64 zh.1.fD)],stb zQ 43 [(.int .i64 zf.fN),(.int .i64 zf.fD),(.int .i64 zg.fN),(.int .i64 zg.fD)]]) (fun w hw=>by have pz:=(hz.call2 hw (.nil : Sel [row (.slice (some ⟨z2l,0,none⟩) (([zC] : List z1).length) 1) 35 4 (([zC] : List z1).flatMap e35),row (.slice z1C zz.1.length z1D) 3 1 (zz.1.flatMap e3),row (.slice (some ⟨z16,0,none⟩) (([(⟨0,0,10⟩ : zSt),(⟨3,0,10⟩ : zSt)] : List zSt).length) 2) 51 3 (([(⟨0,0,10⟩ : zSt),(⟨3,0,10⟩ : zSt)] : List zSt).flatMap e51),stb b14o1_49370 30 [(.int .i64 zw.1.fN),(.int .i64 zw.1.fD)],fz (Zn10o1_49370 ++ Zn10o4_49370),stb zO 30 [(.int .i64 zj.1.fN),(.int .i64 zj.1.fD)],stb zN 30 [(.int .i64 zh.1.fN),(.int .i64 zh.1.fD)],stb zQ 43 [(.int .i64 zf.fN),(.int .i64 zf.fD),(.int .i64 zg.fN),(.int .i64 zg.fD)]] [] [row (.slice (some ⟨z2l,0,none⟩) (([zC] : List z1).length) 1) 35 4 (([zC] : List z1).flatMap e35),row (.slice z1C zz.1.length z1D) 3 1 (zz.1.flatMap e3),row (.slice (some ⟨z16,0,none⟩) (([(⟨0,0,10⟩ : zSt),(⟨3,0,10⟩ : zSt)] : List zSt).length) 2) 51 3 (([(⟨0,0,10⟩ : zSt),(⟨3,0,10⟩ : zSt)] : List zSt).flatMap e51),stb b14o1_49370 30 [(.int .i64 zw.1.fN),(.int .i64 zw.1.fD)],fz (Zn10o1_49370 ++ Zn10o4_49370),stb zO 30 [(.int .i64 zj.1.fN),(.int .i64 zj.1.fD)],stb zN 30 [(.int .i64 zh.1.fN),(.int .i64 zh.1.fD)],stb zQ 43 [(.int .i64 zf.fN),(.int .i64 zf.fD),(.int .i64 zg.fN),(.int .i64 zg.fD)]]) .h4); exact y1o (Z:=_)  (z4l:=3) (z4m:=1) (r:=zi7) w pz  zxT) ?_
  refine WL.b (dd:=78) rfl rfl rfl (zl (l:=[.tmp 76,.tmp 77]) Try.call10 (.cons rfl (.cons rfl .nil))) (.nil : Sel [row (.slice (some ⟨z2l,0,none⟩) (([zC] : List z1).length) 1) 35 4 (([zC] : List z1).flatMap e35),row (.slice z1C zz.1.length z1D) 3 1 (zz.1.flatMap e3),row (.slice (some ⟨z16,0,none⟩) (([(⟨0,0,10⟩ : zSt),(⟨3,0,10⟩ : zSt)] : List zSt).length) 2) 51 3 (([(⟨0,0,10⟩ : zSt),(⟨3,0,10⟩ : zSt)] : List zSt).flatMap e51),stb b14o1_49370 30 [(.int .i64 zw.1.fN),(.int .i64 zw.1.fD)],fz (Zn10o1_49370 ++ Zn10o4_49370),stb zO 30 [(.int .i64 zj.1.fN),(.int .i64 zj.1.fD)],stb zN 30 [(.int .i64 zh.1.fN),(.int .i64 zh.1.fD)],stb zQ 43 [(.int .i64 zf.fN),(.int .i64 zf.fD),(.int .i64 zg.fN),(.int .i64 zg.fD)]] [] [row (.slice (some ⟨z2l,0,none⟩) (([zC] : List z1).length) 1) 35 4 (([zC] : List z1).flatMap e35),row (.slice z1C zz.1.length z1D) 3 1 (zz.1.flatMap e3),row (.slice (some ⟨z16,0,none⟩) (([(⟨0,0,10⟩ : zSt),(⟨3,0,10⟩ : zSt)] : List zSt).length) 2) 51 3 (([(⟨0,0,10⟩ : zSt),(⟨3,0,10⟩ : zSt)] : List zSt).flatMap e51),stb b14o1_49370 30 [(.int .i64 zw.1.fN),(.int .i64 zw.1.fD)],fz (Zn10o1_49370 ++ Zn10o4_49370),stb zO 30 [(.int .i64 zj.1.fN),(.int .i64 zj.1.fD)],stb zN 30 [(.int .i64 zh.1.fN),(.int .i64 zh.1.fD)],stb zQ 43 [(.int .i64 zf.fN),(.int .i64 zf.fD),(.int .i64 zg.fN),(.int .i64 zg.fD)]]) (fun w hw=>by have pz:=(hz.call2 hw (.nil : Sel [row (.slice (some ⟨z2l,0,none⟩) (([zC] : List z1).length) 1) 35 4 (([zC] : List z1).flatMap e35),row (.slice z1C zz.1.length z1D) 3 1 (zz.1.flatMap e3),row (.slice (some ⟨z16,0,none⟩) (([(⟨0,0,10⟩ : zSt),(⟨3,0,10⟩ : zSt)] : List zSt).length) 2) 51 3 (([(⟨0,0,10⟩ : zSt),(⟨3,0,10⟩ : zSt)] : List zSt).flatMap e51),stb b14o1_49370 30 [(.int .i64 zw.1.fN),(.int .i64 zw.1.fD)],fz (Zn10o1_49370 ++ Zn10o4_49370),stb zO 30 [(.int .i64 zj.1.fN),(.int .i64 zj.1.fD)],stb zN 30 [(.int .i64 zh.1.fN),(.int .i64 zh.1.fD)],stb zQ 43 [(.int .i64 zf.fN),(.int .i64 zf.fD),(.int .i64 zg.fN),(.int .i64 zg.fD)]] [] [row (.slice (some ⟨z2l,0,none⟩) (([zC] : List z1).length) 1) 35 4 (([zC] : List z1).flatMap e35),row (.slice z1C zz.1.length z1D) 3 1 (zz.1.flatMap e3),row (.slice (some ⟨z16,0,none⟩) (([(⟨0,0,10⟩ : zSt),(⟨3,0,10⟩ : zSt)] : List zSt).length) 2) 51 3 (([(⟨0,0,10⟩ : zSt),(⟨3,0,10⟩ : zSt)] : List zSt).flatMap e51),stb b14o1_49370 30 [(.int .i64 zw.1.fN),(.int .i64 zw.1.fD)],fz (Zn10o1_49370 ++ Zn10o4_49370),stb zO 30 [(.int .i64 zj.1.fN),(.int .i64 zj.1.fD)],stb zN 30 [(.int .i64 zh.1.fN),(.int .i64 zh.1.fD)],stb zQ 43 [(.int .i64 zf.fN),(.int .i64 zf.fD),(.int .i64 zg.fN),(.int .i64 zg.fD)]]) .h4); exact y3z (Z:=_)  (z4H:=zi6) (z4I:=zi7) (r:=z1T) w pz  zxU) ?_
  refine WL.new (dd:=79) rfl rfl rfl (yU (cs:=([z1T] : List z1).flatMap e35) y2j (Eos.parts (l:=[.tmp 78]) (.cons rfl .nil) [0]) (fun _=>by kernel_rfl) rfl (by unfold maxLen; omega)) ?_
  intro z3K _
  refine WL.a (d:=80) rfl rfl rfl (q_m rfl) ?_
  refine WL.b (dd:=81) rfl rfl rfl (zl (l:=[.tmp 79,.tmp 80]) Try.call12 (.cons rfl (.cons rfl .nil))) (.nil : Sel [row (.slice (some ⟨z3K,0,none⟩) (([z1T] : List z1).length) 1) 35 4 (([z1T] : List z1).flatMap e35),row (.slice (some ⟨z2l,0,none⟩) (([zC] : List z1).length) 1) 35 4 (([zC] : List z1).flatMap e35),row (.slice z1C zz.1.length z1D) 3 1 (zz.1.flatMap e3),row (.slice (some ⟨z16,0,none⟩) (([(⟨0,0,10⟩ : zSt),(⟨3,0,10⟩ : zSt)] : List zSt).length) 2) 51 3 (([(⟨0,0,10⟩ : zSt),(⟨3,0,10⟩ : zSt)] : List zSt).flatMap e51),stb b14o1_49370 30 [(.int .i64 zw.1.fN),(.int .i64 zw.1.fD)],fz (Zn10o1_49370 ++ Zn10o4_49370),stb zO 30 [(.int .i64 zj.1.fN),(.int .i64 zj.1.fD)],stb zN 30 [(.int .i64 zh.1.fN),(.int .i64 zh.1.fD)],stb zQ 43 [(.int .i64 zf.fN),(.int .i64 zf.fD),(.int .i64 zg.fN),(.int .i64 zg.fD)]] [] [row (.slice (some ⟨z3K,0,none⟩) (([z1T] : List z1).length) 1) 35 4 (([z1T] : List z1).flatMap e35),row (.slice (some ⟨z2l,0,none⟩) (([zC] : List z1).length) 1) 35 4 (([zC] : List z1).flatMap e35),row (.slice z1C zz.1.length z1D) 3 1 (zz.1.flatMap e3),row (.slice (some ⟨z16,0,none⟩) (([(⟨0,0,10⟩ : zSt),(⟨3,0,10⟩ : zSt)] : List zSt).length) 2) 51 3 (([(⟨0,0,10⟩ : zSt),(⟨3,0,10⟩ : zSt)] : List zSt).flatMap e51),stb b14o1_49370 30 [(.int .i64 zw.1.fN),(.int .i64 zw.1.fD)],fz (Zn10o1_49370 ++ Zn10o4_49370),stb zO 30 [(.int .i64 zj.1.fN),(.int .i64 zj.1.fD)],stb zN 30 [(.int .i64 zh.1.fN),(.int .i64 zh.1.fD)],stb zQ 43 [(.int .i64 zf.fN),(.int .i64 zf.fD),(.int .i64 zg.fN),(.int .i64 zg.fD)]]) (fun w hw=>by have pz:=(hz.call2 hw (.nil : Sel [row (.slice (some ⟨z3K,0,none⟩) (([z1T] : List z1).length) 1) 35 4 (([z1T] : List z1).flatMap e35),row (.slice (some ⟨z2l,0,none⟩) (([zC] : List z1).length) 1) 35 4 (([zC] : List z1).flatMap e35),row (.slice z1C zz.1.length z1D) 3 1 (zz.1.flatMap e3),row (.slice (some ⟨z16,0,none⟩) (([(⟨0,0,10⟩ : zSt),(⟨3,0,10⟩ : zSt)] : List zSt).length) 2) 51 3 (([(⟨0,0,10⟩ : zSt),(⟨3,0,10⟩ : zSt)] : List zSt).flatMap e51),stb b14o1_49370 30 [(.int .i64 zw.1.fN),(.int .i64 zw.1.fD)],fz (Zn10o1_49370 ++ Zn10o4_49370),stb zO 30 [(.int .i64 zj.1.fN),(.int .i64 zj.1.fD)],stb zN 30 [(.int .i64 zh.1.fN),(.int .i64 zh.1.fD)],stb zQ 43 [(.int .i64 zf.fN),(.int .i64 zf.fD),(.int .i64 zg.fN),(.int .i64 zg.fD)]] [] [row (.slice (some ⟨z3K,0,none⟩) (([z1T] : List z1).length) 1) 35 4 (([z1T] : List z1).flatMap e35),row (.slice (some ⟨z2l,0,none⟩) (([zC] : List z1).length) 1) 35 4 (([zC] : List z1).flatMap e35),row (.slice z1C zz.1.length z1D) 3 1 (zz.1.flatMap e3),row (.slice (some ⟨z16,0,none⟩) (([(⟨0,0,10⟩ : zSt),(⟨3,0,10⟩ : zSt)] : List zSt).length) 2) 51 3 (([(⟨0,0,10⟩ : zSt),(⟨3,0,10⟩ : zSt)] : List zSt).flatMap e51),stb b14o1_49370 30 [(.int .i64 zw.1.fN),(.int .i64 zw.1.fD)],fz (Zn10o1_49370 ++ Zn10o4_49370),stb zO 30 [(.int .i64 zj.1.fN),(.int .i64 zj.1.fD)],stb zN 30 [(.int .i64 zh.1.fN),(.int .i64 zh.1.fD)],stb zQ 43 [(.int .i64 zf.fN),(.int .i64 zf.fD),(.int .i64 zg.fN),(.int .i64 zg.fD)]]) .h5).lend hw (.nil : Sel [row (.slice (some ⟨z3K,0,none⟩) (([z1T] : List z1).length) 1) 35 4 (([z1T] : List z1).flatMap e35),row (.slice (some ⟨z2l,0,none⟩) (([zC] : List z1).length) 1) 35 4 (([zC] : List z1).flatMap e35),row (.slice z1C zz.1.length z1D) 3 1 (zz.1.flatMap e3),row (.slice (some ⟨z16,0,none⟩) (([(⟨0,0,10⟩ : zSt),(⟨3,0,10⟩ : zSt)] : List zSt).length) 2) 51 3 (([(⟨0,0,10⟩ : zSt),(⟨3,0,10⟩ : zSt)] : List zSt).flatMap e51),stb b14o1_49370 30 [(.int .i64 zw.1.fN),(.int .i64 zw.1.fD)],fz (Zn10o1_49370 ++ Zn10o4_49370),stb zO 30 [(.int .i64 zj.1.fN),(.int .i64 zj.1.fD)],stb zN 30 [(.int .i64 zh.1.fN),(.int .i64 zh.1.fD)],stb zQ 43 [(.int .i64 zf.fN),(.int .i64 zf.fD),(.int .i64 zg.fN),(.int .i64 zg.fD)]] [] [row (.slice (some ⟨z3K,0,none⟩) (([z1T] : List z1).length) 1) 35 4 (([z1T] : List z1).flatMap e35),row (.slice (some ⟨z2l,0,none⟩) (([zC] : List z1).length) 1) 35 4 (([zC] : List z1).flatMap e35),row (.slice z1C zz.1.length z1D) 3 1 (zz.1.flatMap e3),row (.slice (some ⟨z16,0,none⟩) (([(⟨0,0,10⟩ : zSt),(⟨3,0,10⟩ : zSt)] : List zSt).length) 2) 51 3 (([(⟨0,0,10⟩ : zSt),(⟨3,0,10⟩ : zSt)] : List zSt).flatMap e51),stb b14o1_49370 30 [(.int .i64 zw.1.fN),(.int .i64 zw.1.fD)],fz (Zn10o1_49370 ++ Zn10o4_49370),stb zO 30 [(.int .i64 zj.1.fN),(.int .i64 zj.1.fD)],stb zN 30 [(.int .i64 zh.1.fN),(.int .i64 zh.1.fD)],stb zQ 43 [(.int .i64 zf.fN),(.int .i64 zf.fD),(.int .i64 zg.fN),(.int .i64 zg.fD)]]) (B:=[row (.slice (some ⟨z3K,0,none⟩) (([z1T] : List z1).length) 1) 35 4 (([z1T] : List z1).flatMap e35),row (.slice (some ⟨z16,0,none⟩) (([(⟨0,0,10⟩ : zSt),(⟨3,0,10⟩ : zSt)] : List zSt).length) 2) 51 3 (([(⟨0,0,10⟩ : zSt),(⟨3,0,10⟩ : zSt)] : List zSt).flatMap e51)]) (fun _ hx'=>((.cons .here (.cons .h2 .nil)) : Sel _ [row (.slice (some ⟨z3K,0,none⟩) (([z1T] : List z1).length) 1) 35 4 (([z1T] : List z1).flatMap e35),row (.slice (some ⟨z16,0,none⟩) (([(⟨0,0,10⟩ : zSt),(⟨3,0,10⟩ : zSt)] : List zSt).length) 2) 51 3 (([(⟨0,0,10⟩ : zSt),(⟨3,0,10⟩ : zSt)] : List zSt).flatMap e51)] _).mem hx'); exact y4Z (Z:=_) (z7O:=(some ⟨z3K,0,none⟩)) (z7P:=1) (z88:=(some ⟨z16,0,none⟩)) (z89:=2) (z3N:=([z1T] : List z1)) (z13:=([(⟨0,0,10⟩ : zSt),(⟨3,0,10⟩ : zSt)] : List zSt)) (r:=z8F) w pz (ZA.row (hw.lent (.nil : Sel [row (.slice (some ⟨z3K,0,none⟩) (([z1T] : List z1).length) 1) 35 4 (([z1T] : List z1).flatMap e35),row (.slice (some ⟨z2l,0,none⟩) (([zC] : List z1).length) 1) 35 4 (([zC] : List z1).flatMap e35),row (.slice z1C zz.1.length z1D) 3 1 (zz.1.flatMap e3),row (.slice (some ⟨z16,0,none⟩) (([(⟨0,0,10⟩ : zSt),(⟨3,0,10⟩ : zSt)] : List zSt).length) 2) 51 3 (([(⟨0,0,10⟩ : zSt),(⟨3,0,10⟩ : zSt)] : List zSt).flatMap e51),stb b14o1_49370 30 [(.int .i64 zw.1.fN),(.int .i64 zw.1.fD)],fz (Zn10o1_49370 ++ Zn10o4_49370),stb zO 30 [(.int .i64 zj.1.fN),(.int .i64 zj.1.fD)],stb zN 30 [(.int .i64 zh.1.fN),(.int .i64 zh.1.fD)],stb zQ 43 [(.int .i64 zf.fN),(.int .i64 zf.fD),(.int .i64 zg.fN),(.int .i64 zg.fD)]] [] [row (.slice (some ⟨z3K,0,none⟩) (([z1T] : List z1).length) 1) 35 4 (([z1T] : List z1).flatMap e35),row (.slice (some ⟨z2l,0,none⟩) (([zC] : List z1).length) 1) 35 4 (([zC] : List z1).flatMap e35),row (.slice z1C zz.1.length z1D) 3 1 (zz.1.flatMap e3),row (.slice (some ⟨z16,0,none⟩) (([(⟨0,0,10⟩ : zSt),(⟨3,0,10⟩ : zSt)] : List zSt).length) 2) 51 3 (([(⟨0,0,10⟩ : zSt),(⟨3,0,10⟩ : zSt)] : List zSt).flatMap e51),stb b14o1_49370 30 [(.int .i64 zw.1.fN),(.int .i64 zw.1.fD)],fz (Zn10o1_49370 ++ Zn10o4_49370),stb zO 30 [(.int .i64 zj.1.fN),(.int .i64 zj.1.fD)],stb zN 30 [(.int .i64 zh.1.fN),(.int .i64 zh.1.fD)],stb zQ 43 [(.int .i64 zf.fN),(.int .i64 zf.fD),(.int .i64 zg.fN),(.int .i64 zg.fD)]]) (B:=[row (.slice (some ⟨z3K,0,none⟩) (([z1T] : List z1).length) 1) 35 4 (([z1T] : List z1).flatMap e35),row (.slice (some ⟨z16,0,none⟩) (([(⟨0,0,10⟩ : zSt),(⟨3,0,10⟩ : zSt)] : List zSt).length) 2) 51 3 (([(⟨0,0,10⟩ : zSt),(⟨3,0,10⟩ : zSt)] : List zSt).flatMap e51)]) (fun _ hx'=>((.cons .here (.cons .h2 .nil)) : Sel _ [row (.slice (some ⟨z3K,0,none⟩) (([z1T] : List z1).length) 1) 35 4 (([z1T] : List z1).flatMap e35),row (.slice (some ⟨z16,0,none⟩) (([(⟨0,0,10⟩ : zSt),(⟨3,0,10⟩ : zSt)] : List zSt).length) 2) 51 3 (([(⟨0,0,10⟩ : zSt),(⟨3,0,10⟩ : zSt)] : List zSt).flatMap e51)] _).mem hx') (.head _) _) (RR.flat (enc:=e35) (fun _=>rfl) _) ⟨w,pz.1⟩) (ZA.row (hw.lent (.nil : Sel [row (.slice (some ⟨z3K,0,none⟩) (([z1T] : List z1).length) 1) 35 4 (([z1T] : List z1).flatMap e35),row (.slice (some ⟨z2l,0,none⟩) (([zC] : List z1).length) 1) 35 4 (([zC] : List z1).flatMap e35),row (.slice z1C zz.1.length z1D) 3 1 (zz.1.flatMap e3),row (.slice (some ⟨z16,0,none⟩) (([(⟨0,0,10⟩ : zSt),(⟨3,0,10⟩ : zSt)] : List zSt).length) 2) 51 3 (([(⟨0,0,10⟩ : zSt),(⟨3,0,10⟩ : zSt)] : List zSt).flatMap e51),stb b14o1_49370 30 [(.int .i64 zw.1.fN),(.int .i64 zw.1.fD)],fz (Zn10o1_49370 ++ Zn10o4_49370),stb zO 30 [(.int .i64 zj.1.fN),(.int .i64 zj.1.fD)],stb zN 30 [(.int .i64 zh.1.fN),(.int .i64 zh.1.fD)],stb zQ 43 [(.int .i64 zf.fN),(.int .i64 zf.fD),(.int .i64 zg.fN),(.int .i64 zg.fD)]] [] [row (.slice (some ⟨z3K,0,none⟩) (([z1T] : List z1).length) 1) 35 4 (([z1T] : List z1).flatMap e35),row (.slice (some ⟨z2l,0,none⟩) (([zC] : List z1).length) 1) 35 4 (([zC] : List z1).flatMap e35),row (.slice z1C zz.1.length z1D) 3 1 (zz.1.flatMap e3),row (.slice (some ⟨z16,0,none⟩) (([(⟨0,0,10⟩ : zSt),(⟨3,0,10⟩ : zSt)] : List zSt).length) 2) 51 3 (([(⟨0,0,10⟩ : zSt),(⟨3,0,10⟩ : zSt)] : List zSt).flatMap e51),stb b14o1_49370 30 [(.int .i64 zw.1.fN),(.int .i64 zw.1.fD)],fz (Zn10o1_49370 ++ Zn10o4_49370),stb zO 30 [(.int .i64 zj.1.fN),(.int .i64 zj.1.fD)],stb zN 30 [(.int .i64 zh.1.fN),(.int .i64 zh.1.fD)],stb zQ 43 [(.int .i64 zf.fN),(.int .i64 zf.fD),(.int .i64 zg.fN),(.int .i64 zg.fD)]]) (B:=[row (.slice (some ⟨z3K,0,none⟩) (([z1T] : List z1).length) 1) 35 4 (([z1T] : List z1).flatMap e35),row (.slice (some ⟨z16,0,none⟩) (([(⟨0,0,10⟩ : zSt),(⟨3,0,10⟩ : zSt)] : List zSt).length) 2) 51 3 (([(⟨0,0,10⟩ : zSt),(⟨3,0,10⟩ : zSt)] : List zSt).flatMap e51)]) (fun _ hx'=>((.cons .here (.cons .h2 .nil)) : Sel _ [row (.slice (some ⟨z3K,0,none⟩) (([z1T] : List z1).length) 1) 35 4 (([z1T] : List z1).flatMap e35),row (.slice (some ⟨z16,0,none⟩) (([(⟨0,0,10⟩ : zSt),(⟨3,0,10⟩ : zSt)] : List zSt).length) 2) 51 3 (([(⟨0,0,10⟩ : zSt),(⟨3,0,10⟩ : zSt)] : List zSt).flatMap e51)] _).mem hx') (.tail _ (.head _)) _) (RR.flat (enc:=e51) (fun _=>rfl) _) ⟨w,pz.1⟩) zxV) ?_
  refine WL.a (d:=75) rfl rfl rfl (q_m rfl) ?_
  refine WL.a (d:=82) rfl rfl rfl (yb rfl rfl) ?_
  refine WL.a (d:=83) rfl rfl rfl (yb rfl rfl) ?_
  refine WL.a (d:=15) rfl rfl rfl (q_z rfl) ?_
  refine WL.a (d:=16) rfl rfl rfl (q_z rfl) ?_
  refine WL.nil ?_
  refine WX.a ?_
  refine WC.b ?_
  obtain ⟨zg7,zqj,h⟩:=zb h
  obtain ⟨zg8,zqk,h⟩:=zb h
  obtain ⟨zg9,zql,h⟩:=zb h
  obtain ⟨zaR,zqm,h⟩:=zb h
  refine WC.y1e (fun i=>[].contains i) [] rfl ?_
  refine WD.a (i:=0) (d:=84) (by kernel_rfl) rfl (z6 (by kernel_rfl)) (z7 (by kernel_rfl)) rfl rfl rfl (fun _=>q_m rfl) ?_
  refine WD.a (i:=1) (d:=85) (by kernel_rfl) rfl (z6 (by kernel_rfl)) (z7 (by kernel_rfl)) rfl rfl rfl (fun _=>q_m rfl) ?_
  refine WD.a (i:=2) (d:=86) (by kernel_rfl) rfl (z6 (by kernel_rfl)) (z7 (by kernel_rfl)) rfl rfl rfl (fun _=>y1d rfl rfl rfl) ?_
  refine WD.a (i:=3) (d:=87) (by kernel_rfl) rfl (z6 (by kernel_rfl)) (z7 (by kernel_rfl)) rfl rfl rfl (fun _=>q_m rfl) ?_
  refine WD.a (i:=4) (d:=88) (by kernel_rfl) rfl (z6 (by kernel_rfl)) (z7 (by kernel_rfl)) rfl rfl rfl (fun _=>y1d rfl rfl rfl) ?_
  refine WD.a (i:=5) (d:=89) (by kernel_rfl) rfl (z6 (by kernel_rfl)) (z7 (by kernel_rfl)) rfl rfl rfl (fun _=>q_m rfl) ?_
  refine WD.a (i:=6) (d:=90) (by kernel_rfl) rfl (z6 (by kernel_rfl)) (z7 (by kernel_rfl)) rfl rfl rfl (fun _=>y1d rfl rfl rfl) ?_
  refine WD.a (i:=7) (d:=91) (by kernel_rfl) rfl (z6 (by kernel_rfl)) (z7 (by kernel_rfl)) rfl rfl rfl (fun _=>q_m rfl) ?_
  refine WD.a (i:=8) (d:=92) (by kernel_rfl) rfl (z6 (by kernel_rfl)) (z7 (by kernel_rfl)) rfl rfl rfl (fun _=>y1d rfl rfl rfl) ?_
  refine WD.a (i:=9) (d:=93) (by kernel_rfl) rfl (z6 (by kernel_rfl)) (z7 (by kernel_rfl)) rfl rfl rfl (fun _=>q_m rfl) ?_
  refine WD.a (i:=10) (d:=94) (by kernel_rfl) rfl (z6 (by kernel_rfl)) (z7 (by kernel_rfl)) rfl rfl rfl (fun _=>y1d rfl rfl rfl) ?_
  refine WD.a (i:=11) (d:=95) (by kernel_rfl) rfl (z6 (by kernel_rfl)) (z7 (by kernel_rfl)) rfl rfl rfl (fun _=>y3g rfl rfl) ?_
  refine WD.a (i:=12) (d:=96) (by kernel_rfl) rfl (z6 (by kernel_rfl)) (z7 (by kernel_rfl)) rfl rfl rfl (fun _=>q_m rfl) ?_
  refine WD.mid (fuel':=23) [(6,(.pointer (some ⟨zO,0,none⟩))),(8,(.pointer (some ⟨b14o1_49370,0,none⟩))),(11,(.slice z1C zz.1.length z1D)),(13,(.bool z7Q.1)),(15,(.bool z8F.1)),(96,(.bool (decide ((i64 ((i64 ((i64 ((i64 ((i64 (zh.2 + zj.2)) + zw.2)) + zz.2)) + z7Q.2)) + z8F.2)) = 0)))),(100,(.bool zg7))] (y1C 40 [16,15,14,13,12,11,10,9,8,7,6,5,4,3,2,1,0]) ?_ (fun zqn=>?_)
  rotate_left
  ·rcases Bool.eq_false_or_eq_true (decide ((i64 ((i64 ((i64 ((i64 ((i64 (zh.2 + zj.2)) + zw.2)) + zz.2)) + z7Q.2)) + z8F.2)) = 0)) with hb' | hb'
   ·have zmw:=hb'; clear hb'
    have zgb:=yj zqj zmw
    obtain ⟨zi8,zxW,zgb⟩:=zb zgb
    replace zgb:=Option.some.inj zgb
    refine WD.pin (i:=96) rfl zmw ?_
    refine WD.e (i:=13) (d:=97) (by kernel_rfl) rfl (z6 (by kernel_rfl)) (z7 (by kernel_rfl)) rfl rfl rfl (y6 (cs:=[(.int .i64 zh.1.fN),(.int .i64 zh.1.fD)]) y5 rfl rfl (y7 .h7)) ?_
    refine WD.c (i:=14) (d:=98) (by kernel_rfl) rfl (z6 (by kernel_rfl)) (z7 (by kernel_rfl)) rfl rfl rfl (zl (l:=[.const (.int .i64 176),.const (.int .i64 1)]) Try.call11 (.cons rfl (.cons rfl .nil))) (fun w hw=>by have pz:=(hz.call2 hw (.nil : Sel [row (.slice (some ⟨z3K,0,none⟩) (([z1T] : List z1).length) 1) 35 4 (([z1T] : List z1).flatMap e35),row (.slice (some ⟨z2l,0,none⟩) (([zC] : List z1).length) 1) 35 4 (([zC] : List z1).flatMap e35),row (.slice z1C zz.1.length z1D) 3 1 (zz.1.flatMap e3),row (.slice (some ⟨z16,0,none⟩) (([(⟨0,0,10⟩ : zSt),(⟨3,0,10⟩ : zSt)] : List zSt).length) 2) 51 3 (([(⟨0,0,10⟩ : zSt),(⟨3,0,10⟩ : zSt)] : List zSt).flatMap e51),stb b14o1_49370 30 [(.int .i64 zw.1.fN),(.int .i64 zw.1.fD)],fz (Zn10o1_49370 ++ Zn10o4_49370),stb zO 30 [(.int .i64 zj.1.fN),(.int .i64 zj.1.fD)],stb zN 30 [(.int .i64 zh.1.fN),(.int .i64 zh.1.fD)],stb zQ 43 [(.int .i64 zf.fN),(.int .i64 zf.fD),(.int .i64 zg.fN),(.int .i64 zg.fD)]] [] [row (.slice (some ⟨z3K,0,none⟩) (([z1T] : List z1).length) 1) 35 4 (([z1T] : List z1).flatMap e35),row (.slice (some ⟨z2l,0,none⟩) (([zC] : List z1).length) 1) 35 4 (([zC] : List z1).flatMap e35),row (.slice z1C zz.1.length z1D) 3 1 (zz.1.flatMap e3),row (.slice (some ⟨z16,0,none⟩) (([(⟨0,0,10⟩ : zSt),(⟨3,0,10⟩ : zSt)] : List zSt).length) 2) 51 3 (([(⟨0,0,10⟩ : zSt),(⟨3,0,10⟩ : zSt)] : List zSt).flatMap e51),stb b14o1_49370 30 [(.int .i64 zw.1.fN),(.int .i64 zw.1.fD)],fz (Zn10o1_49370 ++ Zn10o4_49370),stb zO 30 [(.int .i64 zj.1.fN),(.int .i64 zj.1.fD)],stb zN 30 [(.int .i64 zh.1.fN),(.int .i64 zh.1.fD)],stb zQ 43 [(.int .i64 zf.fN),(.int .i64 zf.fD),(.int .i64 zg.fN),(.int .i64 zg.fD)]]) .h5); exact y1o (Z:=_)  (z4l:=176) (z4m:=1) (r:=zi8) w pz  zxW) ?_
    refine WD.a (i:=15) (d:=99) (by kernel_rfl) rfl (z6 (by kernel_rfl)) (z7 (by kernel_rfl)) rfl rfl rfl (fun _=>y66 (enc:=e30) (a:=zh.1) (b:=zi8) y7n rfl rfl) ?_
    refine WD.a (i:=16) (d:=100) (by kernel_rfl) rfl (z6 (by kernel_rfl)) (z7 (by kernel_rfl)) rfl rfl rfl (fun _=>ys rfl rfl) ?_
    refine WD.yV (.cons .here (.cons .here (.cons .here (.cons .here (.cons .here (.cons .here (.cons .here (.cons .here (.cons .here .nil))))))))) ?_ zqn
    exact (.cons rfl (.cons rfl (.cons rfl (.cons rfl (.cons rfl (.cons (zt (Eq.symm zmw)) (.cons (zt zgb) .nil)))))))
   ·have zmx:=hb'; clear hb'
    have zmy:=yk zqj zmx
    replace zmy:=Option.some.inj zmy
    refine WD.pin (i:=96) rfl zmx ?_
    refine WD.b (i:=13) (d:=97) (by kernel_rfl) rfl (z6 (by kernel_rfl)) (z7 (by kernel_rfl)) rfl rfl rfl ?_
    refine WD.b (i:=14) (d:=98) (by kernel_rfl) rfl (z6 (by kernel_rfl)) (z7 (by kernel_rfl)) rfl rfl rfl ?_
    refine WD.b (i:=15) (d:=99) (by kernel_rfl) rfl (z6 (by kernel_rfl)) (z7 (by kernel_rfl)) rfl rfl rfl ?_
    refine WD.a (i:=16) (d:=100) (by kernel_rfl) rfl (z6 (by kernel_rfl)) (z7 (by kernel_rfl)) rfl rfl rfl (fun _=>yr rfl rfl) ?_
    refine WD.yV (.cons .here (.cons .here (.cons .here (.cons .here (.cons .here (.cons .here (.cons .here (.cons .here (.cons .here .nil))))))))) ?_ zqn
    exact (.cons rfl (.cons rfl (.cons rfl (.cons rfl (.cons rfl (.cons (zt (Eq.symm zmx)) (.cons (zt zmy) .nil)))))))
  refine WD.d #[true,true,true,true,true,true,true,true,true,true,true,true,true,true,true,true,true,false,false,false,false,false,false,false,false,false,false,false,false,false,false,false,false,false,false,false,false,false,false,false] (by kernel_rfl) ?_
  refine WD.a (i:=17) (d:=101) (by kernel_rfl) rfl (z6 (by kernel_rfl)) (z7 (by kernel_rfl)) rfl rfl rfl (fun _=>q_m rfl) ?_
  refine WD.mid (fuel':=18) [(8,(.pointer (some ⟨b14o1_49370,0,none⟩))),(11,(.slice z1C zz.1.length z1D)),(13,(.bool z7Q.1)),(15,(.bool z8F.1)),(101,(.bool zg7)),(105,(.bool zg8))] (y1C 40 [21,20,19,18,17,16,15,14,13,12,11,10,9,8,7,6,5,4,3,2,1,0]) ?_ (fun zqo=>?_)
  rotate_left
  ·rcases Bool.eq_false_or_eq_true zg7 with hb' | hb'
   ·have zmz:=hb'; clear hb'
    have zgc:=yj zqk zmz
    obtain ⟨zi9,zxX,zgc⟩:=zb zgc
    replace zgc:=Option.some.inj zgc
    refine WD.pin (i:=101) rfl zmz ?_
    refine WD.e (i:=18) (d:=102) (by kernel_rfl) rfl (z6 (by kernel_rfl)) (z7 (by kernel_rfl)) rfl rfl rfl (y6 (cs:=[(.int .i64 zj.1.fN),(.int .i64 zj.1.fD)]) y5 rfl rfl (y7 .h6)) ?_
    refine WD.c (i:=19) (d:=103) (by kernel_rfl) rfl (z6 (by kernel_rfl)) (z7 (by kernel_rfl)) rfl rfl rfl (zl (l:=[.const (.int .i64 172),.const (.int .i64 1)]) Try.call11 (.cons rfl (.cons rfl .nil))) (fun w hw=>by have pz:=(hz.call2 hw (.nil : Sel [row (.slice (some ⟨z3K,0,none⟩) (([z1T] : List z1).length) 1) 35 4 (([z1T] : List z1).flatMap e35),row (.slice (some ⟨z2l,0,none⟩) (([zC] : List z1).length) 1) 35 4 (([zC] : List z1).flatMap e35),row (.slice z1C zz.1.length z1D) 3 1 (zz.1.flatMap e3),row (.slice (some ⟨z16,0,none⟩) (([(⟨0,0,10⟩ : zSt),(⟨3,0,10⟩ : zSt)] : List zSt).length) 2) 51 3 (([(⟨0,0,10⟩ : zSt),(⟨3,0,10⟩ : zSt)] : List zSt).flatMap e51),stb b14o1_49370 30 [(.int .i64 zw.1.fN),(.int .i64 zw.1.fD)],fz (Zn10o1_49370 ++ Zn10o4_49370),stb zO 30 [(.int .i64 zj.1.fN),(.int .i64 zj.1.fD)],stb zN 30 [(.int .i64 zh.1.fN),(.int .i64 zh.1.fD)],stb zQ 43 [(.int .i64 zf.fN),(.int .i64 zf.fD),(.int .i64 zg.fN),(.int .i64 zg.fD)]] [] [row (.slice (some ⟨z3K,0,none⟩) (([z1T] : List z1).length) 1) 35 4 (([z1T] : List z1).flatMap e35),row (.slice (some ⟨z2l,0,none⟩) (([zC] : List z1).length) 1) 35 4 (([zC] : List z1).flatMap e35),row (.slice z1C zz.1.length z1D) 3 1 (zz.1.flatMap e3),row (.slice (some ⟨z16,0,none⟩) (([(⟨0,0,10⟩ : zSt),(⟨3,0,10⟩ : zSt)] : List zSt).length) 2) 51 3 (([(⟨0,0,10⟩ : zSt),(⟨3,0,10⟩ : zSt)] : List zSt).flatMap e51),stb b14o1_49370 30 [(.int .i64 zw.1.fN),(.int .i64 zw.1.fD)],fz (Zn10o1_49370 ++ Zn10o4_49370),stb zO 30 [(.int .i64 zj.1.fN),(.int .i64 zj.1.fD)],stb zN 30 [(.int .i64 zh.1.fN),(.int .i64 zh.1.fD)],stb zQ 43 [(.int .i64 zf.fN),(.int .i64 zf.fD),(.int .i64 zg.fN),(.int .i64 zg.fD)]]) .h5); exact y1o (Z:=_)  (z4l:=172) (z4m:=1) (r:=zi9) w pz  zxX) ?_
    refine WD.a (i:=20) (d:=104) (by kernel_rfl) rfl (z6 (by kernel_rfl)) (z7 (by kernel_rfl)) rfl rfl rfl (fun _=>y66 (enc:=e30) (a:=zj.1) (b:=zi9) y7n rfl rfl) ?_
    refine WD.a (i:=21) (d:=105) (by kernel_rfl) rfl (z6 (by kernel_rfl)) (z7 (by kernel_rfl)) rfl rfl rfl (fun _=>ys rfl rfl) ?_
    refine WD.yV (.cons .here (.cons .here (.cons .here (.cons .here (.cons .here (.cons .here (.cons .here (.cons .here (.cons .here .nil))))))))) ?_ zqo
    exact (.cons rfl (.cons rfl (.cons rfl (.cons rfl (.cons (zt (Eq.symm zmz)) (.cons (zt zgc) .nil))))))
   ·have zmA:=hb'; clear hb'
    have zmB:=yk zqk zmA
    replace zmB:=Option.some.inj zmB
    refine WD.pin (i:=101) rfl zmA ?_
    refine WD.b (i:=18) (d:=102) (by kernel_rfl) rfl (z6 (by kernel_rfl)) (z7 (by kernel_rfl)) rfl rfl rfl ?_
    refine WD.b (i:=19) (d:=103) (by kernel_rfl) rfl (z6 (by kernel_rfl)) (z7 (by kernel_rfl)) rfl rfl rfl ?_
    refine WD.b (i:=20) (d:=104) (by kernel_rfl) rfl (z6 (by kernel_rfl)) (z7 (by kernel_rfl)) rfl rfl rfl ?_
    refine WD.a (i:=21) (d:=105) (by kernel_rfl) rfl (z6 (by kernel_rfl)) (z7 (by kernel_rfl)) rfl rfl rfl (fun _=>yr rfl rfl) ?_
    refine WD.yV (.cons .here (.cons .here (.cons .here (.cons .here (.cons .here (.cons .here (.cons .here (.cons .here (.cons .here .nil))))))))) ?_ zqo
    exact (.cons rfl (.cons rfl (.cons rfl (.cons rfl (.cons (zt (Eq.symm zmA)) (.cons (zt zmB) .nil))))))
  refine WD.d #[true,true,true,true,true,true,true,true,true,true,true,true,true,true,true,true,true,true,true,true,true,true,false,false,false,false,false,false,false,false,false,false,false,false,false,false,false,false,false,false] (by kernel_rfl) ?_
  refine WD.a (i:=22) (d:=106) (by kernel_rfl) rfl (z6 (by kernel_rfl)) (z7 (by kernel_rfl)) rfl rfl rfl (fun _=>q_m rfl) ?_
  refine WD.mid (fuel':=13) [(11,(.slice z1C zz.1.length z1D)),(13,(.bool z7Q.1)),(15,(.bool z8F.1)),(106,(.bool zg8)),(110,(.bool zg9))] (y1C 40 [26,25,24,23,22,21,20,19,18,17,16,15,14,13,12,11,10,9,8,7,6,5,4,3,2,1,0]) ?_ (fun zqp=>?_)
  rotate_left
  ·rcases Bool.eq_false_or_eq_true zg8 with hb' | hb'
   ·have zmC:=hb'; clear hb'
    have zgd:=yj zql zmC
    obtain ⟨zia,zxY,zgd⟩:=zb zgd
    replace zgd:=Option.some.inj zgd
    refine WD.pin (i:=106) rfl zmC ?_
    refine WD.e (i:=23) (d:=107) (by kernel_rfl) rfl (z6 (by kernel_rfl)) (z7 (by kernel_rfl)) rfl rfl rfl (y6 (cs:=[(.int .i64 zw.1.fN),(.int .i64 zw.1.fD)]) y5 rfl rfl (y7 .h4)) ?_
    refine WD.c (i:=24) (d:=108) (by kernel_rfl) rfl (z6 (by kernel_rfl)) (z7 (by kernel_rfl)) rfl rfl rfl (zl (l:=[.const (.int .i64 146),.const (.int .i64 1)]) Try.call11 (.cons rfl (.cons rfl .nil))) (fun w hw=>by have pz:=(hz.call2 hw (.nil : Sel [row (.slice (some ⟨z3K,0,none⟩) (([z1T] : List z1).length) 1) 35 4 (([z1T] : List z1).flatMap e35),row (.slice (some ⟨z2l,0,none⟩) (([zC] : List z1).length) 1) 35 4 (([zC] : List z1).flatMap e35),row (.slice z1C zz.1.length z1D) 3 1 (zz.1.flatMap e3),row (.slice (some ⟨z16,0,none⟩) (([(⟨0,0,10⟩ : zSt),(⟨3,0,10⟩ : zSt)] : List zSt).length) 2) 51 3 (([(⟨0,0,10⟩ : zSt),(⟨3,0,10⟩ : zSt)] : List zSt).flatMap e51),stb b14o1_49370 30 [(.int .i64 zw.1.fN),(.int .i64 zw.1.fD)],fz (Zn10o1_49370 ++ Zn10o4_49370),stb zO 30 [(.int .i64 zj.1.fN),(.int .i64 zj.1.fD)],stb zN 30 [(.int .i64 zh.1.fN),(.int .i64 zh.1.fD)],stb zQ 43 [(.int .i64 zf.fN),(.int .i64 zf.fD),(.int .i64 zg.fN),(.int .i64 zg.fD)]] [] [row (.slice (some ⟨z3K,0,none⟩) (([z1T] : List z1).length) 1) 35 4 (([z1T] : List z1).flatMap e35),row (.slice (some ⟨z2l,0,none⟩) (([zC] : List z1).length) 1) 35 4 (([zC] : List z1).flatMap e35),row (.slice z1C zz.1.length z1D) 3 1 (zz.1.flatMap e3),row (.slice (some ⟨z16,0,none⟩) (([(⟨0,0,10⟩ : zSt),(⟨3,0,10⟩ : zSt)] : List zSt).length) 2) 51 3 (([(⟨0,0,10⟩ : zSt),(⟨3,0,10⟩ : zSt)] : List zSt).flatMap e51),stb b14o1_49370 30 [(.int .i64 zw.1.fN),(.int .i64 zw.1.fD)],fz (Zn10o1_49370 ++ Zn10o4_49370),stb zO 30 [(.int .i64 zj.1.fN),(.int .i64 zj.1.fD)],stb zN 30 [(.int .i64 zh.1.fN),(.int .i64 zh.1.fD)],stb zQ 43 [(.int .i64 zf.fN),(.int .i64 zf.fD),(.int .i64 zg.fN),(.int .i64 zg.fD)]]) .h5); exact y1o (Z:=_)  (z4l:=146) (z4m:=1) (r:=zia) w pz  zxY) ?_
    refine WD.a (i:=25) (d:=109) (by kernel_rfl) rfl (z6 (by kernel_rfl)) (z7 (by kernel_rfl)) rfl rfl rfl (fun _=>y66 (enc:=e30) (a:=zw.1) (b:=zia) y7n rfl rfl) ?_
    refine WD.a (i:=26) (d:=110) (by kernel_rfl) rfl (z6 (by kernel_rfl)) (z7 (by kernel_rfl)) rfl rfl rfl (fun _=>ys rfl rfl) ?_
    refine WD.yV (.cons .here (.cons .here (.cons .here (.cons .here (.cons .here (.cons .here (.cons .here (.cons .here (.cons .here .nil))))))))) ?_ zqp
    exact (.cons rfl (.cons rfl (.cons rfl (.cons (zt (Eq.symm zmC)) (.cons (zt zgd) .nil)))))
   ·have zmD:=hb'; clear hb'
    have zmE:=yk zql zmD
    replace zmE:=Option.some.inj zmE
    refine WD.pin (i:=106) rfl zmD ?_
    refine WD.b (i:=23) (d:=107) (by kernel_rfl) rfl (z6 (by kernel_rfl)) (z7 (by kernel_rfl)) rfl rfl rfl ?_
    refine WD.b (i:=24) (d:=108) (by kernel_rfl) rfl (z6 (by kernel_rfl)) (z7 (by kernel_rfl)) rfl rfl rfl ?_
    refine WD.b (i:=25) (d:=109) (by kernel_rfl) rfl (z6 (by kernel_rfl)) (z7 (by kernel_rfl)) rfl rfl rfl ?_
    refine WD.a (i:=26) (d:=110) (by kernel_rfl) rfl (z6 (by kernel_rfl)) (z7 (by kernel_rfl)) rfl rfl rfl (fun _=>yr rfl rfl) ?_
    refine WD.yV (.cons .here (.cons .here (.cons .here (.cons .here (.cons .here (.cons .here (.cons .here (.cons .here (.cons .here .nil))))))))) ?_ zqp
    exact (.cons rfl (.cons rfl (.cons rfl (.cons (zt (Eq.symm zmD)) (.cons (zt zmE) .nil)))))
  refine WD.d #[true,true,true,true,true,true,true,true,true,true,true,true,true,true,true,true,true,true,true,true,true,true,true,true,true,true,true,false,false,false,false,false,false,false,false,false,false,false,false,false] (by kernel_rfl) ?_
  refine WD.a (i:=27) (d:=111) (by kernel_rfl) rfl (z6 (by kernel_rfl)) (z7 (by kernel_rfl)) rfl rfl rfl (fun _=>q_m rfl) ?_
  refine WD.mid (fuel':=8) [(13,(.bool z7Q.1)),(15,(.bool z8F.1)),(111,(.bool zg9)),(115,(.bool zaR))] (y1C 40 [31,30,29,28,27,26,25,24,23,22,21,20,19,18,17,16,15,14,13,12,11,10,9,8,7,6,5,4,3,2,1,0]) ?_ (fun zqq=>?_)
  rotate_left
  ·rcases Bool.eq_false_or_eq_true zg9 with hb' | hb'
   ·have zmF:=hb'; clear hb'
    have zge:=yj zqm zmF
    obtain ⟨zmr,zxZ,zge⟩:=zb zge
    replace zge:=Option.some.inj zge
    refine WD.pin (i:=111) rfl zmF ?_
    refine WD.a (i:=28) (d:=112) (by kernel_rfl) rfl (z6 (by kernel_rfl)) (z7 (by kernel_rfl)) rfl rfl rfl (fun _=>q_m rfl) ?_
    refine WD.new (i:=29) (dd:=113) rfl (by kernel_rfl) rfl rfl rfl (yU (cs:=([25,45] : List Int).flatMap e3) y7m (Eos.parts (l:=[.const (.int .i64 25),.const (.int .i64 45)]) (.cons rfl (.cons rfl .nil)) [0,1]) (fun _=>by kernel_rfl) rfl (by unfold maxLen; omega)) (fun h'=>absurd h' (by decide)) ?_
    intro z7s _
    refine WD.c (i:=30) (d:=114) (by kernel_rfl) rfl (z6 (by kernel_rfl)) (z7 (by kernel_rfl)) rfl rfl rfl (zl (l:=[.tmp 112,.tmp 113]) Try.call38 (.cons rfl (.cons rfl .nil))) (fun w hw=>by have pz:=(hz.call2 hw (.nil : Sel [row (.slice (some ⟨z7s,0,none⟩) (([25,45] : List Int).length) 2) 3 1 (([25,45] : List Int).flatMap e3),row (.slice (some ⟨z3K,0,none⟩) (([z1T] : List z1).length) 1) 35 4 (([z1T] : List z1).flatMap e35),row (.slice (some ⟨z2l,0,none⟩) (([zC] : List z1).length) 1) 35 4 (([zC] : List z1).flatMap e35),row (.slice z1C zz.1.length z1D) 3 1 (zz.1.flatMap e3),row (.slice (some ⟨z16,0,none⟩) (([(⟨0,0,10⟩ : zSt),(⟨3,0,10⟩ : zSt)] : List zSt).length) 2) 51 3 (([(⟨0,0,10⟩ : zSt),(⟨3,0,10⟩ : zSt)] : List zSt).flatMap e51),stb b14o1_49370 30 [(.int .i64 zw.1.fN),(.int .i64 zw.1.fD)],fz (Zn10o1_49370 ++ Zn10o4_49370),stb zO 30 [(.int .i64 zj.1.fN),(.int .i64 zj.1.fD)],stb zN 30 [(.int .i64 zh.1.fN),(.int .i64 zh.1.fD)],stb zQ 43 [(.int .i64 zf.fN),(.int .i64 zf.fD),(.int .i64 zg.fN),(.int .i64 zg.fD)]] [] [row (.slice (some ⟨z7s,0,none⟩) (([25,45] : List Int).length) 2) 3 1 (([25,45] : List Int).flatMap e3),row (.slice (some ⟨z3K,0,none⟩) (([z1T] : List z1).length) 1) 35 4 (([z1T] : List z1).flatMap e35),row (.slice (some ⟨z2l,0,none⟩) (([zC] : List z1).length) 1) 35 4 (([zC] : List z1).flatMap e35),row (.slice z1C zz.1.length z1D) 3 1 (zz.1.flatMap e3),row (.slice (some ⟨z16,0,none⟩) (([(⟨0,0,10⟩ : zSt),(⟨3,0,10⟩ : zSt)] : List zSt).length) 2) 51 3 (([(⟨0,0,10⟩ : zSt),(⟨3,0,10⟩ : zSt)] : List zSt).flatMap e51),stb b14o1_49370 30 [(.int .i64 zw.1.fN),(.int .i64 zw.1.fD)],fz (Zn10o1_49370 ++ Zn10o4_49370),stb zO 30 [(.int .i64 zj.1.fN),(.int .i64 zj.1.fD)],stb zN 30 [(.int .i64 zh.1.fN),(.int .i64 zh.1.fD)],stb zQ 43 [(.int .i64 zf.fN),(.int .i64 zf.fD),(.int .i64 zg.fN),(.int .i64 zg.fD)]]) .h6).lend hw (.nil : Sel [row (.slice (some ⟨z7s,0,none⟩) (([25,45] : List Int).length) 2) 3 1 (([25,45] : List Int).flatMap e3),row (.slice (some ⟨z3K,0,none⟩) (([z1T] : List z1).length) 1) 35 4 (([z1T] : List z1).flatMap e35),row (.slice (some ⟨z2l,0,none⟩) (([zC] : List z1).length) 1) 35 4 (([zC] : List z1).flatMap e35),row (.slice z1C zz.1.length z1D) 3 1 (zz.1.flatMap e3),row (.slice (some ⟨z16,0,none⟩) (([(⟨0,0,10⟩ : zSt),(⟨3,0,10⟩ : zSt)] : List zSt).length) 2) 51 3 (([(⟨0,0,10⟩ : zSt),(⟨3,0,10⟩ : zSt)] : List zSt).flatMap e51),stb b14o1_49370 30 [(.int .i64 zw.1.fN),(.int .i64 zw.1.fD)],fz (Zn10o1_49370 ++ Zn10o4_49370),stb zO 30 [(.int .i64 zj.1.fN),(.int .i64 zj.1.fD)],stb zN 30 [(.int .i64 zh.1.fN),(.int .i64 zh.1.fD)],stb zQ 43 [(.int .i64 zf.fN),(.int .i64 zf.fD),(.int .i64 zg.fN),(.int .i64 zg.fD)]] [] [row (.slice (some ⟨z7s,0,none⟩) (([25,45] : List Int).length) 2) 3 1 (([25,45] : List Int).flatMap e3),row (.slice (some ⟨z3K,0,none⟩) (([z1T] : List z1).length) 1) 35 4 (([z1T] : List z1).flatMap e35),row (.slice (some ⟨z2l,0,none⟩) (([zC] : List z1).length) 1) 35 4 (([zC] : List z1).flatMap e35),row (.slice z1C zz.1.length z1D) 3 1 (zz.1.flatMap e3),row (.slice (some ⟨z16,0,none⟩) (([(⟨0,0,10⟩ : zSt),(⟨3,0,10⟩ : zSt)] : List zSt).length) 2) 51 3 (([(⟨0,0,10⟩ : zSt),(⟨3,0,10⟩ : zSt)] : List zSt).flatMap e51),stb b14o1_49370 30 [(.int .i64 zw.1.fN),(.int .i64 zw.1.fD)],fz (Zn10o1_49370 ++ Zn10o4_49370),stb zO 30 [(.int .i64 zj.1.fN),(.int .i64 zj.1.fD)],stb zN 30 [(.int .i64 zh.1.fN),(.int .i64 zh.1.fD)],stb zQ 43 [(.int .i64 zf.fN),(.int .i64 zf.fD),(.int .i64 zg.fN),(.int .i64 zg.fD)]]) (B:=[row (.slice z1C zz.1.length z1D) 3 1 (zz.1.flatMap e3),row (.slice (some ⟨z7s,0,none⟩) (([25,45] : List Int).length) 2) 3 1 (([25,45] : List Int).flatMap e3)]) (fun _ hx'=>((.cons .h3 (.cons .here .nil)) : Sel _ [row (.slice z1C zz.1.length z1D) 3 1 (zz.1.flatMap e3),row (.slice (some ⟨z7s,0,none⟩) (([25,45] : List Int).length) 2) 3 1 (([25,45] : List Int).flatMap e3)] _).mem hx'); exact y95 (Z:=_) (zeo:=z1C) (zep:=z1D) (zeq:=(some ⟨z7s,0,none⟩)) (zer:=2) (z61:=zz.1) (z6Q:=([25,45] : List Int)) (r:=zmr) w pz (ZA.row (hw.lent (.nil : Sel [row (.slice (some ⟨z7s,0,none⟩) (([25,45] : List Int).length) 2) 3 1 (([25,45] : List Int).flatMap e3),row (.slice (some ⟨z3K,0,none⟩) (([z1T] : List z1).length) 1) 35 4 (([z1T] : List z1).flatMap e35),row (.slice (some ⟨z2l,0,none⟩) (([zC] : List z1).length) 1) 35 4 (([zC] : List z1).flatMap e35),row (.slice z1C zz.1.length z1D) 3 1 (zz.1.flatMap e3),row (.slice (some ⟨z16,0,none⟩) (([(⟨0,0,10⟩ : zSt),(⟨3,0,10⟩ : zSt)] : List zSt).length) 2) 51 3 (([(⟨0,0,10⟩ : zSt),(⟨3,0,10⟩ : zSt)] : List zSt).flatMap e51),stb b14o1_49370 30 [(.int .i64 zw.1.fN),(.int .i64 zw.1.fD)],fz (Zn10o1_49370 ++ Zn10o4_49370),stb zO 30 [(.int .i64 zj.1.fN),(.int .i64 zj.1.fD)],stb zN 30 [(.int .i64 zh.1.fN),(.int .i64 zh.1.fD)],stb zQ 43 [(.int .i64 zf.fN),(.int .i64 zf.fD),(.int .i64 zg.fN),(.int .i64 zg.fD)]] [] [row (.slice (some ⟨z7s,0,none⟩) (([25,45] : List Int).length) 2) 3 1 (([25,45] : List Int).flatMap e3),row (.slice (some ⟨z3K,0,none⟩) (([z1T] : List z1).length) 1) 35 4 (([z1T] : List z1).flatMap e35),row (.slice (some ⟨z2l,0,none⟩) (([zC] : List z1).length) 1) 35 4 (([zC] : List z1).flatMap e35),row (.slice z1C zz.1.length z1D) 3 1 (zz.1.flatMap e3),row (.slice (some ⟨z16,0,none⟩) (([(⟨0,0,10⟩ : zSt),(⟨3,0,10⟩ : zSt)] : List zSt).length) 2) 51 3 (([(⟨0,0,10⟩ : zSt),(⟨3,0,10⟩ : zSt)] : List zSt).flatMap e51),stb b14o1_49370 30 [(.int .i64 zw.1.fN),(.int .i64 zw.1.fD)],fz (Zn10o1_49370 ++ Zn10o4_49370),stb zO 30 [(.int .i64 zj.1.fN),(.int .i64 zj.1.fD)],stb zN 30 [(.int .i64 zh.1.fN),(.int .i64 zh.1.fD)],stb zQ 43 [(.int .i64 zf.fN),(.int .i64 zf.fD),(.int .i64 zg.fN),(.int .i64 zg.fD)]]) (B:=[row (.slice z1C zz.1.length z1D) 3 1 (zz.1.flatMap e3),row (.slice (some ⟨z7s,0,none⟩) (([25,45] : List Int).length) 2) 3 1 (([25,45] : List Int).flatMap e3)]) (fun _ hx'=>((.cons .h3 (.cons .here .nil)) : Sel _ [row (.slice z1C zz.1.length z1D) 3 1 (zz.1.flatMap e3),row (.slice (some ⟨z7s,0,none⟩) (([25,45] : List Int).length) 2) 3 1 (([25,45] : List Int).flatMap e3)] _).mem hx') (.head _) _) (RR.flat (enc:=e3) (fun _=>rfl) _) ⟨w,pz.1⟩) (ZA.row (hw.lent (.nil : Sel [row (.slice (some ⟨z7s,0,none⟩) (([25,45] : List Int).length) 2) 3 1 (([25,45] : List Int).flatMap e3),row (.slice (some ⟨z3K,0,none⟩) (([z1T] : List z1).length) 1) 35 4 (([z1T] : List z1).flatMap e35),row (.slice (some ⟨z2l,0,none⟩) (([zC] : List z1).length) 1) 35 4 (([zC] : List z1).flatMap e35),row (.slice z1C zz.1.length z1D) 3 1 (zz.1.flatMap e3),row (.slice (some ⟨z16,0,none⟩) (([(⟨0,0,10⟩ : zSt),(⟨3,0,10⟩ : zSt)] : List zSt).length) 2) 51 3 (([(⟨0,0,10⟩ : zSt),(⟨3,0,10⟩ : zSt)] : List zSt).flatMap e51),stb b14o1_49370 30 [(.int .i64 zw.1.fN),(.int .i64 zw.1.fD)],fz (Zn10o1_49370 ++ Zn10o4_49370),stb zO 30 [(.int .i64 zj.1.fN),(.int .i64 zj.1.fD)],stb zN 30 [(.int .i64 zh.1.fN),(.int .i64 zh.1.fD)],stb zQ 43 [(.int .i64 zf.fN),(.int .i64 zf.fD),(.int .i64 zg.fN),(.int .i64 zg.fD)]] [] [row (.slice (some ⟨z7s,0,none⟩) (([25,45] : List Int).length) 2) 3 1 (([25,45] : List Int).flatMap e3),row (.slice (some ⟨z3K,0,none⟩) (([z1T] : List z1).length) 1) 35 4 (([z1T] : List z1).flatMap e35),row (.slice (some ⟨z2l,0,none⟩) (([zC] : List z1).length) 1) 35 4 (([zC] : List z1).flatMap e35),row (.slice z1C zz.1.length z1D) 3 1 (zz.1.flatMap e3),row (.slice (some ⟨z16,0,none⟩) (([(⟨0,0,10⟩ : zSt),(⟨3,0,10⟩ : zSt)] : List zSt).length) 2) 51 3 (([(⟨0,0,10⟩ : zSt),(⟨3,0,10⟩ : zSt)] : List zSt).flatMap e51),stb b14o1_49370 30 [(.int .i64 zw.1.fN),(.int .i64 zw.1.fD)],fz (Zn10o1_49370 ++ Zn10o4_49370),stb zO 30 [(.int .i64 zj.1.fN),(.int .i64 zj.1.fD)],stb zN 30 [(.int .i64 zh.1.fN),(.int .i64 zh.1.fD)],stb zQ 43 [(.int .i64 zf.fN),(.int .i64 zf.fD),(.int .i64 zg.fN),(.int .i64 zg.fD)]]) (B:=[row (.slice z1C zz.1.length z1D) 3 1 (zz.1.flatMap e3),row (.slice (some ⟨z7s,0,none⟩) (([25,45] : List Int).length) 2) 3 1 (([25,45] : List Int).flatMap e3)]) (fun _ hx'=>((.cons .h3 (.cons .here .nil)) : Sel _ [row (.slice z1C zz.1.length z1D) 3 1 (zz.1.flatMap e3),row (.slice (some ⟨z7s,0,none⟩) (([25,45] : List Int).length) 2) 3 1 (([25,45] : List Int).flatMap e3)] _).mem hx') (.tail _ (.head _)) _) (RR.flat (enc:=e3) (fun _=>rfl) _) ⟨w,pz.1⟩) zxZ) ?_
    refine WD.a (i:=31) (d:=115) (by kernel_rfl) rfl (z6 (by kernel_rfl)) (z7 (by kernel_rfl)) rfl rfl rfl (fun _=>ys rfl rfl) ?_
    refine WD.yV (.cons .h1 (.cons .h1 (.cons .h1 (.cons .h1 (.cons .h1 (.cons .h1 (.cons .h1 (.cons .h1 (.cons .h1 .nil))))))))) ?_ zqq
    exact (.cons rfl (.cons rfl (.cons (zt (Eq.symm zmF)) (.cons (zt zge) .nil))))
   ·have zmG:=hb'; clear hb'
    have zmH:=yk zqm zmG
    replace zmH:=Option.some.inj zmH
    refine WD.pin (i:=111) rfl zmG ?_
    refine WD.b (i:=28) (d:=112) (by kernel_rfl) rfl (z6 (by kernel_rfl)) (z7 (by kernel_rfl)) rfl rfl rfl ?_
    refine WD.b (i:=29) (d:=113) (by kernel_rfl) rfl (z6 (by kernel_rfl)) (z7 (by kernel_rfl)) rfl rfl rfl ?_
    refine WD.b (i:=30) (d:=114) (by kernel_rfl) rfl (z6 (by kernel_rfl)) (z7 (by kernel_rfl)) rfl rfl rfl ?_
    refine WD.a (i:=31) (d:=115) (by kernel_rfl) rfl (z6 (by kernel_rfl)) (z7 (by kernel_rfl)) rfl rfl rfl (fun _=>yr rfl rfl) ?_
    refine WD.yV (.cons .here (.cons .here (.cons .here (.cons .here (.cons .here (.cons .here (.cons .here (.cons .here (.cons .here .nil))))))))) ?_ zqq
    exact (.cons rfl (.cons rfl (.cons (zt (Eq.symm zmG)) (.cons (zt zmH) .nil))))
  refine WD.d #[true,true,true,true,true,true,true,true,true,true,true,true,true,true,true,true,true,true,true,true,true,true,true,true,true,true,true,true,true,true,true,true,false,false,false,false,false,false,false,false] (by kernel_rfl) ?_
  refine WD.a (i:=32) (d:=116) (by kernel_rfl) rfl (z6 (by kernel_rfl)) (z7 (by kernel_rfl)) rfl rfl rfl (fun _=>q_m rfl) ?_
  refine WD.mid (fuel':=5) [(15,(.bool z8F.1)),(116,(.bool zaR)),(118,(.bool (zaR && z7Q.1)))] (y1C 40 [34,33,32,31,30,29,28,27,26,25,24,23,22,21,20,19,18,17,16,15,14,13,12,11,10,9,8,7,6,5,4,3,2,1,0]) ?_ (fun zqr=>?_)
  rotate_left
  ·rcases Bool.eq_false_or_eq_true zaR with hb' | hb'
   ·have zmI:=hb'; clear hb'
    refine WD.pin (i:=116) rfl zmI ?_
    refine WD.a (i:=33) (d:=117) (by kernel_rfl) rfl (z6 (by kernel_rfl)) (z7 (by kernel_rfl)) rfl rfl rfl (fun _=>q_m rfl) ?_
    refine WD.a (i:=34) (d:=118) (by kernel_rfl) rfl (z6 (by kernel_rfl)) (z7 (by kernel_rfl)) rfl rfl rfl (fun _=>ys rfl rfl) ?_
    refine WD.yV (.cons .here (.cons .here (.cons .here (.cons .here (.cons .here (.cons .here (.cons .here (.cons .here (.cons .here .nil))))))))) ?_ zqr
    exact (.cons rfl (.cons (zt (Eq.symm zmI)) (.cons (zt (y3s zmI)) .nil)))
   ·have zmJ:=hb'; clear hb'
    refine WD.pin (i:=116) rfl zmJ ?_
    refine WD.b (i:=33) (d:=117) (by kernel_rfl) rfl (z6 (by kernel_rfl)) (z7 (by kernel_rfl)) rfl rfl rfl ?_
    refine WD.a (i:=34) (d:=118) (by kernel_rfl) rfl (z6 (by kernel_rfl)) (z7 (by kernel_rfl)) rfl rfl rfl (fun _=>yr rfl rfl) ?_
    refine WD.yV (.cons .here (.cons .here (.cons .here (.cons .here (.cons .here (.cons .here (.cons .here (.cons .here (.cons .here .nil))))))))) ?_ zqr
    exact (.cons rfl (.cons (zt (Eq.symm zmJ)) (.cons (zt (y3r zmJ)) .nil)))
  refine WD.d #[true,true,true,true,true,true,true,true,true,true,true,true,true,true,true,true,true,true,true,true,true,true,true,true,true,true,true,true,true,true,true,true,true,true,true,false,false,false,false,false] (by kernel_rfl) ?_
  refine WD.a (i:=35) (d:=119) (by kernel_rfl) rfl (z6 (by kernel_rfl)) (z7 (by kernel_rfl)) rfl rfl rfl (fun _=>q_m rfl) ?_
  refine WD.mid (fuel':=1) [(119,(.bool (zaR && z7Q.1))),(122,(.bool ((zaR && z7Q.1) && (!z8F.1))))] (y1C 40 [38,37,36,35,34,33,32,31,30,29,28,27,26,25,24,23,22,21,20,19,18,17,16,15,14,13,12,11,10,9,8,7,6,5,4,3,2,1,0]) ?_ (fun zqs=>?_)
  rotate_left
  ·rcases Bool.eq_false_or_eq_true (zaR && z7Q.1) with hb' | hb'
   ·have zmK:=hb'; clear hb'
    refine WD.pin (i:=119) rfl zmK ?_
    refine WD.a (i:=36) (d:=120) (by kernel_rfl) rfl (z6 (by kernel_rfl)) (z7 (by kernel_rfl)) rfl rfl rfl (fun _=>q_m rfl) ?_
    refine WD.a (i:=37) (d:=121) (by kernel_rfl) rfl (z6 (by kernel_rfl)) (z7 (by kernel_rfl)) rfl rfl rfl (fun _=>y1n rfl) ?_
    refine WD.a (i:=38) (d:=122) (by kernel_rfl) rfl (z6 (by kernel_rfl)) (z7 (by kernel_rfl)) rfl rfl rfl (fun _=>ys rfl rfl) ?_
    refine WD.yV (.cons .here (.cons .here (.cons .here (.cons .here (.cons .here (.cons .here (.cons .here (.cons .here (.cons .here .nil))))))))) ?_ zqs
    exact (.cons (zt (Eq.symm zmK)) (.cons (zt (y3s zmK)) .nil))
   ·have zmL:=hb'; clear hb'
    refine WD.pin (i:=119) rfl zmL ?_
    refine WD.b (i:=36) (d:=120) (by kernel_rfl) rfl (z6 (by kernel_rfl)) (z7 (by kernel_rfl)) rfl rfl rfl ?_
    refine WD.b (i:=37) (d:=121) (by kernel_rfl) rfl (z6 (by kernel_rfl)) (z7 (by kernel_rfl)) rfl rfl rfl ?_
    refine WD.a (i:=38) (d:=122) (by kernel_rfl) rfl (z6 (by kernel_rfl)) (z7 (by kernel_rfl)) rfl rfl rfl (fun _=>yr rfl rfl) ?_
    refine WD.yV (.cons .here (.cons .here (.cons .here (.cons .here (.cons .here (.cons .here (.cons .here (.cons .here (.cons .here .nil))))))))) ?_ zqs
    exact (.cons (zt (Eq.symm zmL)) (.cons (zt (y3r zmL)) .nil))
  refine WD.d #[true,true,true,true,true,true,true,true,true,true,true,true,true,true,true,true,true,true,true,true,true,true,true,true,true,true,true,true,true,true,true,true,true,true,true,true,true,true,true,false] (by kernel_rfl) ?_
  refine WD.a (i:=39) (d:=0) (by kernel_rfl) rfl (z6 (by kernel_rfl)) (z7 (by kernel_rfl)) rfl rfl rfl (fun _=>q_z rfl) ?_
  refine WD.done (by kernel_rfl) ?_
  refine WX.a ?_
  refine WC.ret ?_
  obtain rfl:=Option.some.inj h
  refine WX.y9 Try.results17 (.tmp rfl .nil) (fun w hw=>?_)
  exact ⟨(Zn10o1_49370 ++ Zn10o4_49370),yI rfl,trivial,hw.sub (.cons .h5 .nil)⟩
 refine WD.y8T (fuel':=2) (fun (b6o1_49370 : Nat) (Zn8o1_49370 : Zp) (b8o4_49370 : Nat) (Zn10o1_49370 : Zp) (Zn10o4_49370 : Zp) (b14o1_49370 : Nat)=>[(4,(.pointer (some ⟨zN,0,none⟩))),(5,(.int .i64 zh.2)),(6,(.pointer (some ⟨zO,0,none⟩))),(7,(.int .i64 zj.2)),(56,(.agg #[(.int .i64 zw.1.fN),(.int .i64 zw.1.fD)])),(57,(.int .i64 zw.2)),(8,(.pointer (some ⟨b14o1_49370,0,none⟩)))]) (fun (b6o1_49370 : Nat) (Zn8o1_49370 : Zp) (b8o4_49370 : Nat) (Zn10o1_49370 : Zp) (Zn10o4_49370 : Zp) (b14o1_49370 : Nat)=>[stb b14o1_49370 30 [(.int .i64 0),(.int .i64 0)],fz (Zn10o1_49370 ++ Zn10o4_49370),stb zO 30 [(.int .i64 zj.1.fN),(.int .i64 zj.1.fD)],stb zN 30 [(.int .i64 zh.1.fN),(.int .i64 zh.1.fD)],stb zQ 43 [(.int .i64 zf.fN),(.int .i64 zf.fD),(.int .i64 zg.fN),(.int .i64 zg.fD)]]) (fun (b6o1_49370 : Nat) (Zn8o1_49370 : Zp) (b8o4_49370 : Nat) (Zn10o1_49370 : Zp) (Zn10o4_49370 : Zp) (b14o1_49370 : Nat)=>(Zle (Z ++ (z62 ++ z7r)) (Z ++ Zn8o1_49370)) ∧ (ZS (Z ++ Zn8o1_49370) 4 (fun r x=>r = e35 x) (some ⟨b6o1_49370,0,none⟩) 2 ([(⟨(⟨(((nth ([za] : List z1) 0).fBurst).fN),(((nth ([za] : List z1) 0).fBurst).fD)⟩ : z2),(⟨(((nth ([za] : List z1) 0).fR).fN),(((nth ([za] : List z1) 0).fR).fD)⟩ : z2)⟩ : z1),z2k] : List z1)) ∧ (RR 1 (p39 (Z ++ Zn8o1_49370)) [(.slice (some ⟨b6o1_49370,0,none⟩) (([(⟨(⟨(((nth ([za] : List z1) 0).fBurst).fN),(((nth ([za] : List z1) 0).fBurst).fD)⟩ : z2),(⟨(((nth ([za] : List z1) 0).fR).fN),(((nth ([za] : List z1) 0).fR).fD)⟩ : z2)⟩ : z1),z2k] : List z1).length) 2),(.slice (some ⟨z3O,0,none⟩) (([z1A] : List z1).length) 1)] ([([(⟨(⟨(((nth ([za] : List z1) 0).fBurst).fN),(((nth ([za] : List z1) 0).fBurst).fD)⟩ : z2),(⟨(((nth ([za] : List z1) 0).fR).fN),(((nth ([za] : List z1) 0).fR).fD)⟩ : z2)⟩ : z1),z2k] : List z1),([z1A] : List z1)] : List (List z1))) ∧ (Zle (Z ++ Zn8o1_49370) (Z ++ Zn10o1_49370)) ∧ (ZS (Z ++ Zn10o1_49370) 1 (p39 (Z ++ Zn10o1_49370)) (some ⟨b8o4_49370,0,none⟩) 2 ([([(⟨(⟨(((nth ([za] : List z1) 0).fBurst).fN),(((nth ([za] : List z1) 0).fBurst).fD)⟩ : z2),(⟨(((nth ([za] : List z1) 0).fR).fN),(((nth ([za] : List z1) 0).fR).fD)⟩ : z2)⟩ : z1),z2k] : List z1),([z1A] : List z1)] : List (List z1)))) (y1C 17 [14,13,12,11,10,8,6,9,7,5,4,3,2,1,0]) ?_ (fun K6o8o10o11o12o13o14_49370=>?_)
 ·skip
  rintro b6o1_49370 Zn8o1_49370 b8o4_49370 Zn10o1_49370 Zn10o4_49370 b14o1_49370 ⟨hle8o2_49370,hf8o3_49370,rel8o5_49370,hle10o2_49370,hf10o3_49370⟩
  refine WD.forced0 (i:=15) rfl (by kernel_rfl) rfl rfl rfl (Sin.of .nil) (yd (vs:=[(.int .i64 zw.1.fN),(.int .i64 zw.1.fD)]) (ds:=[(.int .i64 zw.1.fN),(.int .i64 zw.1.fD)]) yl rfl rfl rfl rfl (y3 rfl (y3 rfl yf)) .here (Nat.le_of_ble_eq_true rfl) rfl) ?_
  refine WD.a (i:=16) (d:=9) (by kernel_rfl) rfl (z6 (by kernel_rfl)) (z7 (by kernel_rfl)) rfl rfl rfl (fun _=>q_z rfl) ?_
  exact WD.yV (.cons .here (.cons .here (.cons .here (.cons .here (.cons .here .nil))))) (.cons rfl (.cons rfl (.cons rfl (.cons rfl (.cons rfl (.cons rfl .nil)))))) (K6o8o10o11o12o13o14o15o16_49370 b6o1_49370 Zn8o1_49370 b8o4_49370 Zn10o1_49370 Zn10o4_49370 b14o1_49370 ⟨hle8o2_49370,hf8o3_49370,rel8o5_49370,hle10o2_49370,hf10o3_49370⟩)
 refine WD.mids5 (fuel':=3) (fun (b6o1_49370 : Nat) (Zn8o1_49370 : Zp) (b8o4_49370 : Nat) (Zn10o1_49370 : Zp) (Zn10o4_49370 : Zp)=>[(4,(.pointer (some ⟨zN,0,none⟩))),(5,(.int .i64 zh.2)),(6,(.pointer (some ⟨zO,0,none⟩))),(7,(.int .i64 zj.2)),(56,(.agg #[(.int .i64 zw.1.fN),(.int .i64 zw.1.fD)])),(57,(.int .i64 zw.2))]) (fun (b6o1_49370 : Nat) (Zn8o1_49370 : Zp) (b8o4_49370 : Nat) (Zn10o1_49370 : Zp) (Zn10o4_49370 : Zp)=>[fz (Zn10o1_49370 ++ Zn10o4_49370),stb zO 30 [(.int .i64 zj.1.fN),(.int .i64 zj.1.fD)],stb zN 30 [(.int .i64 zh.1.fN),(.int .i64 zh.1.fD)],stb zQ 43 [(.int .i64 zf.fN),(.int .i64 zf.fD),(.int .i64 zg.fN),(.int .i64 zg.fD)]]) (fun (b6o1_49370 : Nat) (Zn8o1_49370 : Zp) (b8o4_49370 : Nat) (Zn10o1_49370 : Zp) (Zn10o4_49370 : Zp)=>(Zle (Z ++ (z62 ++ z7r)) (Z ++ Zn8o1_49370)) ∧ (ZS (Z ++ Zn8o1_49370) 4 (fun r x=>r = e35 x) (some ⟨b6o1_49370,0,none⟩) 2 ([(⟨(⟨(((nth ([za] : List z1) 0).fBurst).fN),(((nth ([za] : List z1) 0).fBurst).fD)⟩ : z2),(⟨(((nth ([za] : List z1) 0).fR).fN),(((nth ([za] : List z1) 0).fR).fD)⟩ : z2)⟩ : z1),z2k] : List z1)) ∧ (RR 1 (p39 (Z ++ Zn8o1_49370)) [(.slice (some ⟨b6o1_49370,0,none⟩) (([(⟨(⟨(((nth ([za] : List z1) 0).fBurst).fN),(((nth ([za] : List z1) 0).fBurst).fD)⟩ : z2),(⟨(((nth ([za] : List z1) 0).fR).fN),(((nth ([za] : List z1) 0).fR).fD)⟩ : z2)⟩ : z1),z2k] : List z1).length) 2),(.slice (some ⟨z3O,0,none⟩) (([z1A] : List z1).length) 1)] ([([(⟨(⟨(((nth ([za] : List z1) 0).fBurst).fN),(((nth ([za] : List z1) 0).fBurst).fD)⟩ : z2),(⟨(((nth ([za] : List z1) 0).fR).fN),(((nth ([za] : List z1) 0).fR).fD)⟩ : z2)⟩ : z1),z2k] : List z1),([z1A] : List z1)] : List (List z1))) ∧ (Zle (Z ++ Zn8o1_49370) (Z ++ Zn10o1_49370)) ∧ (ZS (Z ++ Zn10o1_49370) 1 (p39 (Z ++ Zn10o1_49370)) (some ⟨b8o4_49370,0,none⟩) 2 ([([(⟨(⟨(((nth ([za] : List z1) 0).fBurst).fN),(((nth ([za] : List z1) 0).fBurst).fD)⟩ : z2),(⟨(((nth ([za] : List z1) 0).fR).fN),(((nth ([za] : List z1) 0).fR).fD)⟩ : z2)⟩ : z1),z2k] : List z1),([z1A] : List z1)] : List (List z1)))) (y1C 17 [13,12,11,10,8,6,9,7,5,4,3,2,1,0]) ?_ (fun K6o8o10o11o12o13_49370=>?_)
 ·skip
  rintro b6o1_49370 Zn8o1_49370 b8o4_49370 Zn10o1_49370 Zn10o4_49370 ⟨hle8o2_49370,hf8o3_49370,rel8o5_49370,hle10o2_49370,hf10o3_49370⟩
  refine WD.new (i:=14) (dd:=8) rfl (by kernel_rfl) rfl rfl rfl (yh (cs:=[(.int .i64 0),(.int .i64 0)]) yo rfl) (fun h'=>absurd h' (by decide)) ?_
  intro b14o1_49370 _
  exact WD.yV (.cons .here (.cons .here (.cons .here (.cons .here (.cons .here .nil))))) (.cons rfl (.cons rfl (.cons rfl (.cons rfl (.cons rfl (.cons rfl (.cons rfl .nil))))))) (K6o8o10o11o12o13o14_49370 b6o1_49370 Zn8o1_49370 b8o4_49370 Zn10o1_49370 Zn10o4_49370 b14o1_49370 ⟨hle8o2_49370,hf8o3_49370,rel8o5_49370,hle10o2_49370,hf10o3_49370⟩)
 refine WD.mids4 (fuel':=6) (fun (b6o1_49370 : Nat) (Zn8o1_49370 : Zp) (b8o4_49370 : Nat) (b14o1_49370 : Nat)=>[(4,(.pointer (some ⟨zN,0,none⟩))),(5,(.int .i64 zh.2)),(6,(.pointer (some ⟨zO,0,none⟩))),(7,(.int .i64 zj.2)),(54,(.agg #[(.int .i64 zf.fN),(.int .i64 zf.fD),(.int .i64 zg.fN),(.int .i64 zg.fD)])),(53,(.slice (some ⟨b8o4_49370,0,none⟩) (([([(⟨(⟨(((nth ([za] : List z1) 0).fBurst).fN),(((nth ([za] : List z1) 0).fBurst).fD)⟩ : z2),(⟨(((nth ([za] : List z1) 0).fR).fN),(((nth ([za] : List z1) 0).fR).fD)⟩ : z2)⟩ : z1),z2k] : List z1),([z1A] : List z1)] : List (List z1)).length) 2)),(8,(.pointer (some ⟨b14o1_49370,0,none⟩)))]) (fun (b6o1_49370 : Nat) (Zn8o1_49370 : Zp) (b8o4_49370 : Nat) (b14o1_49370 : Nat)=>[stb b14o1_49370 30 [(.int .i64 0),(.int .i64 0)],row (.slice (some ⟨b8o4_49370,0,none⟩) (([([(⟨(⟨(((nth ([za] : List z1) 0).fBurst).fN),(((nth ([za] : List z1) 0).fBurst).fD)⟩ : z2),(⟨(((nth ([za] : List z1) 0).fR).fN),(((nth ([za] : List z1) 0).fR).fD)⟩ : z2)⟩ : z1),z2k] : List z1),([z1A] : List z1)] : List (List z1)).length) 2) 39 1 [(.slice (some ⟨b6o1_49370,0,none⟩) (([(⟨(⟨(((nth ([za] : List z1) 0).fBurst).fN),(((nth ([za] : List z1) 0).fBurst).fD)⟩ : z2),(⟨(((nth ([za] : List z1) 0).fR).fN),(((nth ([za] : List z1) 0).fR).fD)⟩ : z2)⟩ : z1),z2k] : List z1).length) 2),(.slice (some ⟨z3O,0,none⟩) (([z1A] : List z1).length) 1)],fz Zn8o1_49370,stb zO 30 [(.int .i64 zj.1.fN),(.int .i64 zj.1.fD)],stb zN 30 [(.int .i64 zh.1.fN),(.int .i64 zh.1.fD)],stb zQ 43 [(.int .i64 zf.fN),(.int .i64 zf.fD),(.int .i64 zg.fN),(.int .i64 zg.fD)]]) (fun (b6o1_49370 : Nat) (Zn8o1_49370 : Zp) (b8o4_49370 : Nat) (b14o1_49370 : Nat)=>(Zle (Z ++ (z62 ++ z7r)) (Z ++ Zn8o1_49370)) ∧ (ZS (Z ++ Zn8o1_49370) 4 (fun r x=>r = e35 x) (some ⟨b6o1_49370,0,none⟩) 2 ([(⟨(⟨(((nth ([za] : List z1) 0).fBurst).fN),(((nth ([za] : List z1) 0).fBurst).fD)⟩ : z2),(⟨(((nth ([za] : List z1) 0).fR).fN),(((nth ([za] : List z1) 0).fR).fD)⟩ : z2)⟩ : z1),z2k] : List z1)) ∧ (RR 1 (p39 (Z ++ Zn8o1_49370)) [(.slice (some ⟨b6o1_49370,0,none⟩) (([(⟨(⟨(((nth ([za] : List z1) 0).fBurst).fN),(((nth ([za] : List z1) 0).fBurst).fD)⟩ : z2),(⟨(((nth ([za] : List z1) 0).fR).fN),(((nth ([za] : List z1) 0).fR).fD)⟩ : z2)⟩ : z1),z2k] : List z1).length) 2),(.slice (some ⟨z3O,0,none⟩) (([z1A] : List z1).length) 1)] ([([(⟨(⟨(((nth ([za] : List z1) 0).fBurst).fN),(((nth ([za] : List z1) 0).fBurst).fD)⟩ : z2),(⟨(((nth ([za] : List z1) 0).fR).fN),(((nth ([za] : List z1) 0).fR).fD)⟩ : z2)⟩ : z1),z2k] : List z1),([z1A] : List z1)] : List (List z1)))) (y1C 17 [14,8,6,9,7,5,4,3,2,1,0]) ?_ (fun K6o8o14_49370=>?_)
 ·skip
  rintro b6o1_49370 Zn8o1_49370 b8o4_49370 b14o1_49370 ⟨hle8o2_49370,hf8o3_49370,rel8o5_49370⟩
  refine WD.freezeS (ls:=([([(⟨(⟨(((nth ([za] : List z1) 0).fBurst).fN),(((nth ([za] : List z1) 0).fBurst).fD)⟩ : z2),(⟨(((nth ([za] : List z1) 0).fR).fN),(((nth ([za] : List z1) 0).fR).fD)⟩ : z2)⟩ : z1),z2k] : List z1),([z1A] : List z1)] : List (List z1))) .h1 .h1 hz rel8o5_49370 ?_
  intro Zn10o1_49370 hle10o2_49370 hf10o3_49370
  replace hf10o3_49370:=hf10o3_49370.weak (fun _ _ h=>yG hle10o2_49370 h)
  refine WD.call1 (i:=10) (dd:=55) rfl (by kernel_rfl) rfl rfl rfl (.inr rfl) (zl (l:=[.tmp 53,.tmp 54]) Try.call15 (.cons rfl (.cons rfl .nil))) (.nil : Sel [fz Zn10o1_49370,stb b14o1_49370 30 [(.int .i64 0),(.int .i64 0)],stb zO 30 [(.int .i64 zj.1.fN),(.int .i64 zj.1.fD)],stb zN 30 [(.int .i64 zh.1.fN),(.int .i64 zh.1.fD)],stb zQ 43 [(.int .i64 zf.fN),(.int .i64 zf.fD),(.int .i64 zg.fN),(.int .i64 zg.fD)]] [] [fz Zn10o1_49370,stb b14o1_49370 30 [(.int .i64 0),(.int .i64 0)],stb zO 30 [(.int .i64 zj.1.fN),(.int .i64 zj.1.fD)],stb zN 30 [(.int .i64 zh.1.fN),(.int .i64 zh.1.fD)],stb zQ 43 [(.int .i64 zf.fN),(.int .i64 zf.fD),(.int .i64 zg.fN),(.int .i64 zg.fD)]]) (fun w hw=>by have pz:=(hz.call2 hw (.nil : Sel [fz Zn10o1_49370,stb b14o1_49370 30 [(.int .i64 0),(.int .i64 0)],stb zO 30 [(.int .i64 zj.1.fN),(.int .i64 zj.1.fD)],stb zN 30 [(.int .i64 zh.1.fN),(.int .i64 zh.1.fD)],stb zQ 43 [(.int .i64 zf.fN),(.int .i64 zf.fD),(.int .i64 zg.fN),(.int .i64 zg.fD)]] [] [fz Zn10o1_49370,stb b14o1_49370 30 [(.int .i64 0),(.int .i64 0)],stb zO 30 [(.int .i64 zj.1.fN),(.int .i64 zj.1.fD)],stb zN 30 [(.int .i64 zh.1.fN),(.int .i64 zh.1.fD)],stb zQ 43 [(.int .i64 zf.fN),(.int .i64 zf.fD),(.int .i64 zg.fN),(.int .i64 zg.fD)]]) .here); exact y3L (Z:=_) (z5F:=(some ⟨b8o4_49370,0,none⟩)) (z5G:=2) (z4R:=([([(⟨(⟨(((nth ([za] : List z1) 0).fBurst).fN),(((nth ([za] : List z1) 0).fBurst).fD)⟩ : z2),(⟨(((nth ([za] : List z1) 0).fR).fN),(((nth ([za] : List z1) 0).fR).fD)⟩ : z2)⟩ : z1),z2k] : List z1),([z1A] : List z1)] : List (List z1))) (z1P:=(⟨zf,zg⟩ : zSv)) (r:=zw) w pz hf10o3_49370 zqi) ?_
  rintro Zn10o4_49370 _
  refine WD.merge .here .here ?_
  refine WD.a (i:=11) (d:=44) (by kernel_rfl) rfl (z6 (by kernel_rfl)) (z7 (by kernel_rfl)) rfl rfl rfl (fun _=>q_m rfl) ?_
  refine WD.a (i:=12) (d:=56) (by kernel_rfl) rfl (z6 (by kernel_rfl)) (z7 (by kernel_rfl)) rfl rfl rfl (fun _=>yb rfl rfl) ?_
  refine WD.a (i:=13) (d:=57) (by kernel_rfl) rfl (z6 (by kernel_rfl)) (z7 (by kernel_rfl)) rfl rfl rfl (fun _=>yb rfl rfl) ?_
  exact WD.yV (.cons .h1 (.cons .here (.cons .here (.cons .here (.cons .here .nil))))) (.cons rfl (.cons rfl (.cons rfl (.cons rfl (.cons rfl (.cons rfl (.cons rfl .nil))))))) (K6o8o10o11o12o13o14_49370 b6o1_49370 Zn8o1_49370 b8o4_49370 Zn10o1_49370 Zn10o4_49370 b14o1_49370 ⟨hle8o2_49370,hf8o3_49370,rel8o5_49370,hle10o2_49370,hf10o3_49370⟩)
 refine WD.mids3 (fuel':=7) (fun (b6o1_49370 : Nat) (Zn8o1_49370 : Zp) (b8o4_49370 : Nat)=>[(4,(.pointer (some ⟨zN,0,none⟩))),(5,(.int .i64 zh.2)),(6,(.pointer (some ⟨zO,0,none⟩))),(7,(.int .i64 zj.2)),(54,(.agg #[(.int .i64 zf.fN),(.int .i64 zf.fD),(.int .i64 zg.fN),(.int .i64 zg.fD)])),(53,(.slice (some ⟨b8o4_49370,0,none⟩) (([([(⟨(⟨(((nth ([za] : List z1) 0).fBurst).fN),(((nth ([za] : List z1) 0).fBurst).fD)⟩ : z2),(⟨(((nth ([za] : List z1) 0).fR).fN),(((nth ([za] : List z1) 0).fR).fD)⟩ : z2)⟩ : z1),z2k] : List z1),([z1A] : List z1)] : List (List z1)).length) 2))]) (fun (b6o1_49370 : Nat) (Zn8o1_49370 : Zp) (b8o4_49370 : Nat)=>[row (.slice (some ⟨b8o4_49370,0,none⟩) (([([(⟨(⟨(((nth ([za] : List z1) 0).fBurst).fN),(((nth ([za] : List z1) 0).fBurst).fD)⟩ : z2),(⟨(((nth ([za] : List z1) 0).fR).fN),(((nth ([za] : List z1) 0).fR).fD)⟩ : z2)⟩ : z1),z2k] : List z1),([z1A] : List z1)] : List (List z1)).length) 2) 39 1 [(.slice (some ⟨b6o1_49370,0,none⟩) (([(⟨(⟨(((nth ([za] : List z1) 0).fBurst).fN),(((nth ([za] : List z1) 0).fBurst).fD)⟩ : z2),(⟨(((nth ([za] : List z1) 0).fR).fN),(((nth ([za] : List z1) 0).fR).fD)⟩ : z2)⟩ : z1),z2k] : List z1).length) 2),(.slice (some ⟨z3O,0,none⟩) (([z1A] : List z1).length) 1)],fz Zn8o1_49370,stb zO 30 [(.int .i64 zj.1.fN),(.int .i64 zj.1.fD)],stb zN 30 [(.int .i64 zh.1.fN),(.int .i64 zh.1.fD)],stb zQ 43 [(.int .i64 zf.fN),(.int .i64 zf.fD),(.int .i64 zg.fN),(.int .i64 zg.fD)]]) (fun (b6o1_49370 : Nat) (Zn8o1_49370 : Zp) (b8o4_49370 : Nat)=>(Zle (Z ++ (z62 ++ z7r)) (Z ++ Zn8o1_49370)) ∧ (ZS (Z ++ Zn8o1_49370) 4 (fun r x=>r = e35 x) (some ⟨b6o1_49370,0,none⟩) 2 ([(⟨(⟨(((nth ([za] : List z1) 0).fBurst).fN),(((nth ([za] : List z1) 0).fBurst).fD)⟩ : z2),(⟨(((nth ([za] : List z1) 0).fR).fN),(((nth ([za] : List z1) 0).fR).fD)⟩ : z2)⟩ : z1),z2k] : List z1)) ∧ (RR 1 (p39 (Z ++ Zn8o1_49370)) [(.slice (some ⟨b6o1_49370,0,none⟩) (([(⟨(⟨(((nth ([za] : List z1) 0).fBurst).fN),(((nth ([za] : List z1) 0).fBurst).fD)⟩ : z2),(⟨(((nth ([za] : List z1) 0).fR).fN),(((nth ([za] : List z1) 0).fR).fD)⟩ : z2)⟩ : z1),z2k] : List z1).length) 2),(.slice (some ⟨z3O,0,none⟩) (([z1A] : List z1).length) 1)] ([([(⟨(⟨(((nth ([za] : List z1) 0).fBurst).fN),(((nth ([za] : List z1) 0).fBurst).fD)⟩ : z2),(⟨(((nth ([za] : List z1) 0).fR).fN),(((nth ([za] : List z1) 0).fR).fD)⟩ : z2)⟩ : z1),z2k] : List z1),([z1A] : List z1)] : List (List z1)))) (y1C 17 [8,6,9,7,5,4,3,2,1,0]) ?_ (fun K6o8_49370=>?_)
 ·skip
  rintro b6o1_49370 Zn8o1_49370 b8o4_49370 ⟨hle8o2_49370,hf8o3_49370,rel8o5_49370⟩
  refine WD.choose [10,14] (by kernel_rfl) rfl ?_
  refine WDo.cons ?_ (WDo.cons ?_ (WDo.nil))
  ·refine WDo.freezeS (ls:=([([(⟨(⟨(((nth ([za] : List z1) 0).fBurst).fN),(((nth ([za] : List z1) 0).fBurst).fD)⟩ : z2),(⟨(((nth ([za] : List z1) 0).fR).fN),(((nth ([za] : List z1) 0).fR).fD)⟩ : z2)⟩ : z1),z2k] : List z1),([z1A] : List z1)] : List (List z1))) .here .here hz rel8o5_49370 ?_
   intro Zn10o1_49370 hle10o2_49370 hf10o3_49370
   replace hf10o3_49370:=hf10o3_49370.weak (fun _ _ h=>yG hle10o2_49370 h)
   refine WDo.call1 (i:=10) (dd:=55) rfl rfl rfl rfl (.inr rfl) (zl (l:=[.tmp 53,.tmp 54]) Try.call15 (.cons rfl (.cons rfl .nil))) (.nil : Sel [fz Zn10o1_49370,stb zO 30 [(.int .i64 zj.1.fN),(.int .i64 zj.1.fD)],stb zN 30 [(.int .i64 zh.1.fN),(.int .i64 zh.1.fD)],stb zQ 43 [(.int .i64 zf.fN),(.int .i64 zf.fD),(.int .i64 zg.fN),(.int .i64 zg.fD)]] [] [fz Zn10o1_49370,stb zO 30 [(.int .i64 zj.1.fN),(.int .i64 zj.1.fD)],stb zN 30 [(.int .i64 zh.1.fN),(.int .i64 zh.1.fD)],stb zQ 43 [(.int .i64 zf.fN),(.int .i64 zf.fD),(.int .i64 zg.fN),(.int .i64 zg.fD)]]) (fun w hw=>by have pz:=(hz.call2 hw (.nil : Sel [fz Zn10o1_49370,stb zO 30 [(.int .i64 zj.1.fN),(.int .i64 zj.1.fD)],stb zN 30 [(.int .i64 zh.1.fN),(.int .i64 zh.1.fD)],stb zQ 43 [(.int .i64 zf.fN),(.int .i64 zf.fD),(.int .i64 zg.fN),(.int .i64 zg.fD)]] [] [fz Zn10o1_49370,stb zO 30 [(.int .i64 zj.1.fN),(.int .i64 zj.1.fD)],stb zN 30 [(.int .i64 zh.1.fN),(.int .i64 zh.1.fD)],stb zQ 43 [(.int .i64 zf.fN),(.int .i64 zf.fD),(.int .i64 zg.fN),(.int .i64 zg.fD)]]) .here); exact y3L (Z:=_) (z5F:=(some ⟨b8o4_49370,0,none⟩)) (z5G:=2) (z4R:=([([(⟨(⟨(((nth ([za] : List z1) 0).fBurst).fN),(((nth ([za] : List z1) 0).fBurst).fD)⟩ : z2),(⟨(((nth ([za] : List z1) 0).fR).fN),(((nth ([za] : List z1) 0).fR).fD)⟩ : z2)⟩ : z1),z2k] : List z1),([z1A] : List z1)] : List (List z1))) (z1P:=(⟨zf,zg⟩ : zSv)) (r:=zw) w pz hf10o3_49370 zqi) ?_
   rintro Zn10o4_49370 _
   refine WD.merge .here .here ?_
   refine WD.a (i:=11) (d:=44) (by kernel_rfl) rfl (z6 (by kernel_rfl)) (z7 (by kernel_rfl)) rfl rfl rfl (fun _=>q_m rfl) ?_
   refine WD.a (i:=12) (d:=56) (by kernel_rfl) rfl (z6 (by kernel_rfl)) (z7 (by kernel_rfl)) rfl rfl rfl (fun _=>yb rfl rfl) ?_
   refine WD.a (i:=13) (d:=57) (by kernel_rfl) rfl (z6 (by kernel_rfl)) (z7 (by kernel_rfl)) rfl rfl rfl (fun _=>yb rfl rfl) ?_
   exact WD.yV (.cons .here (.cons .here (.cons .here (.cons .here .nil)))) (.cons rfl (.cons rfl (.cons rfl (.cons rfl (.cons rfl (.cons rfl .nil)))))) (K6o8o10o11o12o13_49370 b6o1_49370 Zn8o1_49370 b8o4_49370 Zn10o1_49370 Zn10o4_49370 ⟨hle8o2_49370,hf8o3_49370,rel8o5_49370,hle10o2_49370,hf10o3_49370⟩)
  ·refine WDo.new (i:=14) (dd:=8) rfl rfl rfl rfl (yh (cs:=[(.int .i64 0),(.int .i64 0)]) yo rfl) (fun h'=>absurd h' (by decide)) ?_
   intro b14o1_49370 _
   exact WD.yV (.cons .here (.cons .here (.cons .here (.cons .here (.cons .here (.cons .here .nil)))))) (.cons rfl (.cons rfl (.cons rfl (.cons rfl (.cons rfl (.cons rfl (.cons rfl .nil))))))) (K6o8o14_49370 b6o1_49370 Zn8o1_49370 b8o4_49370 b14o1_49370 ⟨hle8o2_49370,hf8o3_49370,rel8o5_49370⟩)
 refine WD.mids2 (fuel':=7) (fun (b6o1_49370 : Nat) (b14o1_49370 : Nat)=>[(4,(.pointer (some ⟨zN,0,none⟩))),(5,(.int .i64 zh.2)),(6,(.pointer (some ⟨zO,0,none⟩))),(7,(.int .i64 zj.2)),(52,(.slice (some ⟨z3O,0,none⟩) (([z1A] : List z1).length) 1)),(54,(.agg #[(.int .i64 zf.fN),(.int .i64 zf.fD),(.int .i64 zg.fN),(.int .i64 zg.fD)])),(51,(.slice (some ⟨b6o1_49370,0,none⟩) (([(⟨(⟨(((nth ([za] : List z1) 0).fBurst).fN),(((nth ([za] : List z1) 0).fBurst).fD)⟩ : z2),(⟨(((nth ([za] : List z1) 0).fR).fN),(((nth ([za] : List z1) 0).fR).fD)⟩ : z2)⟩ : z1),z2k] : List z1).length) 2)),(8,(.pointer (some ⟨b14o1_49370,0,none⟩)))]) (fun (b6o1_49370 : Nat) (b14o1_49370 : Nat)=>[stb b14o1_49370 30 [(.int .i64 0),(.int .i64 0)],row (.slice (some ⟨b6o1_49370,0,none⟩) (([(⟨(⟨(((nth ([za] : List z1) 0).fBurst).fN),(((nth ([za] : List z1) 0).fBurst).fD)⟩ : z2),(⟨(((nth ([za] : List z1) 0).fR).fN),(((nth ([za] : List z1) 0).fR).fD)⟩ : z2)⟩ : z1),z2k] : List z1).length) 2) 35 4 (([(⟨(⟨(((nth ([za] : List z1) 0).fBurst).fN),(((nth ([za] : List z1) 0).fBurst).fD)⟩ : z2),(⟨(((nth ([za] : List z1) 0).fR).fN),(((nth ([za] : List z1) 0).fR).fD)⟩ : z2)⟩ : z1),z2k] : List z1).flatMap e35),stb zO 30 [(.int .i64 zj.1.fN),(.int .i64 zj.1.fD)],fz (z62 ++ z7r),stb zN 30 [(.int .i64 zh.1.fN),(.int .i64 zh.1.fD)],stb zQ 43 [(.int .i64 zf.fN),(.int .i64 zf.fD),(.int .i64 zg.fN),(.int .i64 zg.fD)]]) (fun (b6o1_49370 : Nat) (b14o1_49370 : Nat)=>True) (y1C 17 [14,6,9,7,5,4,3,2,1,0]) ?_ (fun K6o14_49370=>?_)
 ·skip
  rintro b6o1_49370 b14o1_49370 _
  refine WD.freezeS (ls:=([(⟨(⟨(((nth ([za] : List z1) 0).fBurst).fN),(((nth ([za] : List z1) 0).fBurst).fD)⟩ : z2),(⟨(((nth ([za] : List z1) 0).fR).fN),(((nth ([za] : List z1) 0).fR).fD)⟩ : z2)⟩ : z1),z2k] : List z1)) .h1 .h2 hz (RR.flat (enc:=e35) (fun _=>rfl) _) ?_
  intro Zn8o1_49370 hle8o2_49370 hf8o3_49370
  have rel8o5_49370 : RR 1 (p39 (Z ++ Zn8o1_49370)) [(.slice (some ⟨b6o1_49370,0,none⟩) (([(⟨(⟨(((nth ([za] : List z1) 0).fBurst).fN),(((nth ([za] : List z1) 0).fBurst).fD)⟩ : z2),(⟨(((nth ([za] : List z1) 0).fR).fN),(((nth ([za] : List z1) 0).fR).fD)⟩ : z2)⟩ : z1),z2k] : List z1).length) 2),(.slice (some ⟨z3O,0,none⟩) (([z1A] : List z1).length) 1)] ([([(⟨(⟨(((nth ([za] : List z1) 0).fBurst).fN),(((nth ([za] : List z1) 0).fBurst).fD)⟩ : z2),(⟨(((nth ([za] : List z1) 0).fR).fN),(((nth ([za] : List z1) 0).fR).fD)⟩ : z2)⟩ : z1),z2k] : List z1),([z1A] : List z1)] : List (List z1)):=(RR.cons (r:=[(.slice (some ⟨b6o1_49370,0,none⟩) (([(⟨(⟨(((nth ([za] : List z1) 0).fBurst).fN),(((nth ([za] : List z1) 0).fBurst).fD)⟩ : z2),(⟨(((nth ([za] : List z1) 0).fR).fN),(((nth ([za] : List z1) 0).fR).fD)⟩ : z2)⟩ : z1),z2k] : List z1).length) 2)]) rfl (show p39 _ _ _ from ⟨_,_,rfl,hf8o3_49370⟩) (RR.cons (r:=[(.slice (some ⟨z3O,0,none⟩) (([z1A] : List z1).length) 1)]) rfl (show p39 _ _ _ from ⟨_,_,rfl,(zib.mono (zet.trans ((Zle.left _ _).trans ((Zle.yi _ _ _).trans (zic.trans ((Zle.left _ _).trans ((Zle.yi _ _ _).trans hle8o2_49370)))))))⟩) (RR.nil _ _)))
  refine WD.new (i:=8) (dd:=53) rfl (by kernel_rfl) rfl rfl rfl (yU (cs:=[(.slice (some ⟨b6o1_49370,0,none⟩) (([(⟨(⟨(((nth ([za] : List z1) 0).fBurst).fN),(((nth ([za] : List z1) 0).fBurst).fD)⟩ : z2),(⟨(((nth ([za] : List z1) 0).fR).fN),(((nth ([za] : List z1) 0).fR).fD)⟩ : z2)⟩ : z1),z2k] : List z1).length) 2),(.slice (some ⟨z3O,0,none⟩) (([z1A] : List z1).length) 1)]) y32 (Eos.parts (l:=[.tmp 51,.tmp 52]) (.cons rfl (.cons rfl .nil)) [0,1]) (fun _=>by kernel_rfl) rfl (by unfold maxLen; omega)) (fun h'=>absurd h' (by decide)) ?_
  intro b8o4_49370 _
  exact WD.yV (.cons .h2 (.cons .here (.cons .here (.cons .here (.cons .here (.cons .here .nil)))))) (.cons rfl (.cons rfl (.cons rfl (.cons rfl (.cons rfl (.cons rfl (.cons rfl .nil))))))) (K6o8o14_49370 b6o1_49370 Zn8o1_49370 b8o4_49370 b14o1_49370 ⟨hle8o2_49370,hf8o3_49370,rel8o5_49370⟩)
 refine WD.y8S (fuel':=8) (fun (b6o1_49370 : Nat)=>[(4,(.pointer (some ⟨zN,0,none⟩))),(5,(.int .i64 zh.2)),(6,(.pointer (some ⟨zO,0,none⟩))),(7,(.int .i64 zj.2)),(52,(.slice (some ⟨z3O,0,none⟩) (([z1A] : List z1).length) 1)),(54,(.agg #[(.int .i64 zf.fN),(.int .i64 zf.fD),(.int .i64 zg.fN),(.int .i64 zg.fD)])),(51,(.slice (some ⟨b6o1_49370,0,none⟩) (([(⟨(⟨(((nth ([za] : List z1) 0).fBurst).fN),(((nth ([za] : List z1) 0).fBurst).fD)⟩ : z2),(⟨(((nth ([za] : List z1) 0).fR).fN),(((nth ([za] : List z1) 0).fR).fD)⟩ : z2)⟩ : z1),z2k] : List z1).length) 2))]) (fun (b6o1_49370 : Nat)=>[row (.slice (some ⟨b6o1_49370,0,none⟩) (([(⟨(⟨(((nth ([za] : List z1) 0).fBurst).fN),(((nth ([za] : List z1) 0).fBurst).fD)⟩ : z2),(⟨(((nth ([za] : List z1) 0).fR).fN),(((nth ([za] : List z1) 0).fR).fD)⟩ : z2)⟩ : z1),z2k] : List z1).length) 2) 35 4 (([(⟨(⟨(((nth ([za] : List z1) 0).fBurst).fN),(((nth ([za] : List z1) 0).fBurst).fD)⟩ : z2),(⟨(((nth ([za] : List z1) 0).fR).fN),(((nth ([za] : List z1) 0).fR).fD)⟩ : z2)⟩ : z1),z2k] : List z1).flatMap e35),stb zO 30 [(.int .i64 zj.1.fN),(.int .i64 zj.1.fD)],fz (z62 ++ z7r),stb zN 30 [(.int .i64 zh.1.fN),(.int .i64 zh.1.fD)],stb zQ 43 [(.int .i64 zf.fN),(.int .i64 zf.fD),(.int .i64 zg.fN),(.int .i64 zg.fD)]]) (fun (b6o1_49370 : Nat)=>True) (y1C 17 [6,9,7,5,4,3,2,1,0]) ?_ (fun K6_49370=>?_)
 ·skip
  rintro b6o1_49370 _
  refine WD.choose [8,14] (by kernel_rfl) rfl ?_
  refine WDo.cons ?_ (WDo.cons ?_ (WDo.nil))
  ·refine WDo.freezeS (ls:=([(⟨(⟨(((nth ([za] : List z1) 0).fBurst).fN),(((nth ([za] : List z1) 0).fBurst).fD)⟩ : z2),(⟨(((nth ([za] : List z1) 0).fR).fN),(((nth ([za] : List z1) 0).fR).fD)⟩ : z2)⟩ : z1),z2k] : List z1)) .here .h1 hz (RR.flat (enc:=e35) (fun _=>rfl) _) ?_
   intro Zn8o1_49370 hle8o2_49370 hf8o3_49370
   have rel8o5_49370 : RR 1 (p39 (Z ++ Zn8o1_49370)) [(.slice (some ⟨b6o1_49370,0,none⟩) (([(⟨(⟨(((nth ([za] : List z1) 0).fBurst).fN),(((nth ([za] : List z1) 0).fBurst).fD)⟩ : z2),(⟨(((nth ([za] : List z1) 0).fR).fN),(((nth ([za] : List z1) 0).fR).fD)⟩ : z2)⟩ : z1),z2k] : List z1).length) 2),(.slice (some ⟨z3O,0,none⟩) (([z1A] : List z1).length) 1)] ([([(⟨(⟨(((nth ([za] : List z1) 0).fBurst).fN),(((nth ([za] : List z1) 0).fBurst).fD)⟩ : z2),(⟨(((nth ([za] : List z1) 0).fR).fN),(((nth ([za] : List z1) 0).fR).fD)⟩ : z2)⟩ : z1),z2k] : List z1),([z1A] : List z1)] : List (List z1)):=(RR.cons (r:=[(.slice (some ⟨b6o1_49370,0,none⟩) (([(⟨(⟨(((nth ([za] : List z1) 0).fBurst).fN),(((nth ([za] : List z1) 0).fBurst).fD)⟩ : z2),(⟨(((nth ([za] : List z1) 0).fR).fN),(((nth ([za] : List z1) 0).fR).fD)⟩ : z2)⟩ : z1),z2k] : List z1).length) 2)]) rfl (show p39 _ _ _ from ⟨_,_,rfl,hf8o3_49370⟩) (RR.cons (r:=[(.slice (some ⟨z3O,0,none⟩) (([z1A] : List z1).length) 1)]) rfl (show p39 _ _ _ from ⟨_,_,rfl,(zib.mono (zet.trans ((Zle.left _ _).trans ((Zle.yi _ _ _).trans (zic.trans ((Zle.left _ _).trans ((Zle.yi _ _ _).trans hle8o2_49370)))))))⟩) (RR.nil _ _)))
   refine WDo.new (i:=8) (dd:=53) rfl rfl rfl rfl (yU (cs:=[(.slice (some ⟨b6o1_49370,0,none⟩) (([(⟨(⟨(((nth ([za] : List z1) 0).fBurst).fN),(((nth ([za] : List z1) 0).fBurst).fD)⟩ : z2),(⟨(((nth ([za] : List z1) 0).fR).fN),(((nth ([za] : List z1) 0).fR).fD)⟩ : z2)⟩ : z1),z2k] : List z1).length) 2),(.slice (some ⟨z3O,0,none⟩) (([z1A] : List z1).length) 1)]) y32 (Eos.parts (l:=[.tmp 51,.tmp 52]) (.cons rfl (.cons rfl .nil)) [0,1]) (fun _=>by kernel_rfl) rfl (by unfold maxLen; omega)) (fun h'=>absurd h' (by decide)) ?_
   intro b8o4_49370 _
   exact WD.yV (.cons .here (.cons .here (.cons .here (.cons .here (.cons .here .nil))))) (.cons rfl (.cons rfl (.cons rfl (.cons rfl (.cons rfl (.cons rfl .nil)))))) (K6o8_49370 b6o1_49370 Zn8o1_49370 b8o4_49370 ⟨hle8o2_49370,hf8o3_49370,rel8o5_49370⟩)
  ·refine WDo.new (i:=14) (dd:=8) rfl rfl rfl rfl (yh (cs:=[(.int .i64 0),(.int .i64 0)]) yo rfl) (fun h'=>absurd h' (by decide)) ?_
   intro b14o1_49370 _
   exact WD.yV (.cons .here (.cons .here (.cons .here (.cons .here (.cons .here (.cons .here .nil)))))) (.cons rfl (.cons rfl (.cons rfl (.cons rfl (.cons rfl (.cons rfl (.cons rfl (.cons rfl .nil)))))))) (K6o14_49370 b6o1_49370 b14o1_49370 trivial)
 refine WD.y8S (fuel':=8) (fun (b14o1_49370 : Nat)=>[(4,(.pointer (some ⟨zN,0,none⟩))),(5,(.int .i64 zh.2)),(6,(.pointer (some ⟨zO,0,none⟩))),(7,(.int .i64 zj.2)),(47,(.agg #[(.int .i64 (((nth ([za] : List z1) 0).fBurst).fN)),(.int .i64 (((nth ([za] : List z1) 0).fBurst).fD)),(.int .i64 (((nth ([za] : List z1) 0).fR).fN)),(.int .i64 (((nth ([za] : List z1) 0).fR).fD))])),(50,(.agg #[(.int .i64 z2k.fBurst.fN),(.int .i64 z2k.fBurst.fD),(.int .i64 z2k.fR.fN),(.int .i64 z2k.fR.fD)])),(52,(.slice (some ⟨z3O,0,none⟩) (([z1A] : List z1).length) 1)),(54,(.agg #[(.int .i64 zf.fN),(.int .i64 zf.fD),(.int .i64 zg.fN),(.int .i64 zg.fD)])),(8,(.pointer (some ⟨b14o1_49370,0,none⟩)))]) (fun (b14o1_49370 : Nat)=>[stb b14o1_49370 30 [(.int .i64 0),(.int .i64 0)],stb zO 30 [(.int .i64 zj.1.fN),(.int .i64 zj.1.fD)],fz (z62 ++ z7r),stb zN 30 [(.int .i64 zh.1.fN),(.int .i64 zh.1.fD)],stb zQ 43 [(.int .i64 zf.fN),(.int .i64 zf.fD),(.int .i64 zg.fN),(.int .i64 zg.fD)]]) (fun (b14o1_49370 : Nat)=>True) (y1C 17 [14,9,7,5,4,3,2,1,0]) ?_ (fun K14_49370=>?_)
 ·skip
  rintro b14o1_49370 _
  refine WD.new (i:=6) (dd:=51) rfl (by kernel_rfl) rfl rfl rfl (yU (cs:=([(⟨(⟨(((nth ([za] : List z1) 0).fBurst).fN),(((nth ([za] : List z1) 0).fBurst).fD)⟩ : z2),(⟨(((nth ([za] : List z1) 0).fR).fN),(((nth ([za] : List z1) 0).fR).fD)⟩ : z2)⟩ : z1),z2k] : List z1).flatMap e35) y2j (Eos.parts (l:=[.tmp 47,.tmp 50]) (.cons rfl (.cons rfl .nil)) [0,1]) (fun _=>by kernel_rfl) rfl (by unfold maxLen; omega)) (fun h'=>absurd h' (by decide)) ?_
  intro b6o1_49370 _
  exact WD.yV (.cons .h1 (.cons .here (.cons .here (.cons .here (.cons .here (.cons .here .nil)))))) (.cons rfl (.cons rfl (.cons rfl (.cons rfl (.cons rfl (.cons rfl (.cons rfl (.cons rfl .nil)))))))) (K6o14_49370 b6o1_49370 b14o1_49370 trivial)
 refine WD.choose [6,14] (by kernel_rfl) rfl ?_
 refine WDo.cons ?_ (WDo.cons ?_ (WDo.nil))
 ·refine WDo.new (i:=6) (dd:=51) rfl rfl rfl rfl (yU (cs:=([(⟨(⟨(((nth ([za] : List z1) 0).fBurst).fN),(((nth ([za] : List z1) 0).fBurst).fD)⟩ : z2),(⟨(((nth ([za] : List z1) 0).fR).fN),(((nth ([za] : List z1) 0).fR).fD)⟩ : z2)⟩ : z1),z2k] : List z1).flatMap e35) y2j (Eos.parts (l:=[.tmp 47,.tmp 50]) (.cons rfl (.cons rfl .nil)) [0,1]) (fun _=>by kernel_rfl) rfl (by unfold maxLen; omega)) (fun h'=>absurd h' (by decide)) ?_
  intro b6o1_49370 _
  exact WD.yV (.cons .here (.cons .here (.cons .here (.cons .here (.cons .here .nil))))) (.cons rfl (.cons rfl (.cons rfl (.cons rfl (.cons rfl (.cons rfl (.cons rfl .nil))))))) (K6_49370 b6o1_49370 trivial)
 ·refine WDo.new (i:=14) (dd:=8) rfl rfl rfl rfl (yh (cs:=[(.int .i64 0),(.int .i64 0)]) yo rfl) (fun h'=>absurd h' (by decide)) ?_
  intro b14o1_49370 _
  exact WD.yV (.cons .here (.cons .here (.cons .here (.cons .here (.cons .here .nil))))) (.cons rfl (.cons rfl (.cons rfl (.cons rfl (.cons rfl (.cons rfl (.cons rfl (.cons rfl (.cons rfl .nil))))))))) (K14_49370 b14o1_49370 trivial)
def y4y (z9a : Int) (z9b : Int) : Option z2 :=
 some (⟨z9a,z9b⟩ : z2)
set_option maxRecDepth 20000 in
theorem y7M (Z : Zp)   (z9a : Int) (z9b : Int) (r : z2) (w₀ : World) (hz : PZ [] w₀ Z)
  (h : y4y z9a z9b = some r) :
  Calls Try.prog 41 #[(.int .i64 z9a),(.int .i64 z9b)] w₀ fun e w'=>e = .returned (.agg #[(.int .i64 r.fN),(.int .i64 r.fD)]) ∧ Hp [] w₀ w' []:=by
 unfold y4y at h
 refine Calls.yg (vs:=[(.int .i64 z9a),(.int .i64 z9b)]) (pre:=[]) (env:=[(0,(.int .i64 z9a)),(1,(.int .i64 z9b))]) Try.func41 rfl Try.ntmps41 rfl (Hp.nil w₀ _) rfl ?_
 refine WC.b ?_
 refine WC.a ?_
 refine WL.new (dd:=4) rfl rfl rfl (yh (cs:=[(.int .i64 0),(.int .i64 0)]) yo rfl) ?_
 intro zBu _
 refine WL.nil ?_
 refine WX.a ?_
 refine WC.b ?_
 refine WC.a ?_
 refine WL.a (d:=5) rfl rfl rfl (q_m rfl) ?_
 refine WL.a (d:=6) rfl rfl rfl (q_m rfl) ?_
 refine WL.a (d:=7) rfl rfl rfl (y1j (v:=(.agg #[(.int .i64 z9a),(.int .i64 z9b)])) (Eos.parts (l:=[.tmp 5,.tmp 6]) (.cons rfl (.cons rfl .nil)) [0,1]) (fun _=>by kernel_rfl)) ?_
 refine WL.yc rfl rfl (yd (vs:=[(.int .i64 z9a),(.int .i64 z9b)]) (ds:=[(.int .i64 z9a),(.int .i64 z9b)]) yl rfl rfl rfl rfl (y3 rfl (y3 rfl yf)) .here (Nat.le_of_ble_eq_true rfl) rfl) ?_
 refine WL.nil ?_
 refine WX.a ?_
 refine WC.ret ?_
 obtain rfl:=Option.some.inj h
 refine WX.y9 Try.results41 (.agg rfl y5 rfl (y7 .here) .nil) (fun w hw=>?_)
 exact ⟨yI rfl,hw.sub .nil⟩
def y2n (z4G : List Int) (zaS : (List z1) → Option (List z1)) : Nat → (List z1) → Int → Option (List z1)
 | 0,_,_=>none
 | zmM + 1,z3g,z59=>if (decide ((i64 (z59 + 1)) < ((z4G.length : Nat) : Int))) && (decide (((z3g.length : Nat) : Int) < 4)) then chk ((0 : Int) ≤ z59 ∧ z59 < ((z4G.length : Nat) : Int)) ((y20 (Int.tmod (i64 (nth z4G z59)) 101) 1).bind fun z4V=>chk ((0 : Int) ≤ (i64 (z59 + 1)) ∧ (i64 (z59 + 1)) < ((z4G.length : Nat) : Int)) ((y20 (Int.tmod (i64 (nth z4G (i64 (z59 + 1)))) 41) 8).bind fun z7e=>chk ((((z3g ++ ([(⟨z4V.1,z7e.1⟩ : z1)] : List z1)).length : Nat) : Int) * 32 ≤ 140737488355328 ∧ (((z3g ++ ([(⟨z4V.1,z7e.1⟩ : z1)] : List z1)).length : Nat) : Int) ≤ 4611686018427387904) (y2n z4G zaS zmM (z3g ++ ([(⟨z4V.1,z7e.1⟩ : z1)] : List z1)) (i64 (z59 + 2))))) else zaS z3g
theorem y6N {n : Nat} {z4G : List Int} {zaS : (List z1) → Option (List z1)} {z3g : List z1} {z59 : Int} {r : List z1} (h : y2n z4G zaS n z3g z59 = some r) : ∃ m,n = m + 1:=by
 cases n with
 | zero=>cases h
 | succ m=>exact ⟨m,rfl⟩
def y3d (z4G : List Int) : Option (List z1) :=
 jp1 (fun (z4a : List z1)=>jp1 (fun (z9K : List z1)=>some z9K) fun zid=>if decide (((z4a.length : Nat) : Int) = 0) then (y4y 7 1).bind fun zd5=>(y4y 1 8).bind fun zd6=>zid ([(⟨zd5,zd6⟩ : z1)] : List z1) else zid z4a) fun zaS=>y2n z4G zaS yw ([] : List z1) 0
set_option maxRecDepth 20000 in
theorem y79 (Z : Zp)  (zbH : Option Addr) (zbI : Nat) (z4G : List Int) (r : List z1) (w₀ : World) (hz : PZ [] w₀ Z)
  (zqt : ZS Z 1 (fun r x=>r = e5 x) zbH zbI z4G)
  (h : y3d z4G = some r) :
  Calls Try.prog 20 #[(.slice zbH z4G.length zbI)] w₀ fun e w'=>∃ zqu : Option Addr,∃ zqv : Nat,e = .returned (.slice zqu r.length zqv) ∧ True ∧ Hp [] w₀ w' [row (.slice zqu r.length zqv) 35 4 (r.flatMap e35)]:=by
 unfold y3d at h
 refine Calls.yg (vs:=[(.slice zbH z4G.length zbI)]) (pre:=[]) (env:=[(0,(.slice zbH z4G.length zbI))]) Try.func20 rfl Try.ntmps20 rfl (Hp.nil w₀ _) rfl ?_
 refine WC.b ?_
 refine WC.a ?_
 refine WL.a (d:=2) rfl rfl rfl (q_z rfl) ?_
 refine WL.nil ?_
 refine WX.a ?_
 refine WC.b ?_
 refine WC.a ?_
 refine WL.a (d:=3) rfl rfl rfl (q_z rfl) ?_
 refine WL.nil ?_
 refine WX.a ?_
 obtain ⟨zaS,zy0,h⟩:=y1r h
 refine WC.y2M (fun (z4a : List z1) (z7R : Option Addr) (z7S : Nat)=>(zaS z4a = some r)) (fun (z4a : List z1) (z7R : Option Addr) (z7S : Nat)=>[(3,(.slice z7R z4a.length z7S))]) (fun (z4a : List z1) (z7R : Option Addr) (z7S : Nat)=>[row (.slice z7R z4a.length z7S) 35 4 (z4a.flatMap e35)]) ?_ ?_
 ·skip
  refine WC.b ?_
  refine WC.a ?_
  refine WL.a (d:=4) rfl rfl rfl (q_z rfl) ?_
  refine WL.nil ?_
  refine WX.a ?_
  refine WC.block ?_
  refine WC.nilRow 35 4 ?_
  refine WC.y64 (fun (zeu : Nat) (z3g : List z1) (z59 : Int) (z6R : Option Addr) (z6S : Nat)=>(y2n z4G zaS zeu z3g z59 = some r)) (fun (zeu : Nat) (z3g : List z1) (z59 : Int) (z6R : Option Addr) (z6S : Nat)=>[(0,(.slice zbH z4G.length zbI)),(3,(.slice z6R z3g.length z6S)),(4,(.int .i64 z59))]) (fun (zeu : Nat) (z3g : List z1) (z59 : Int) (z6R : Option Addr) (z6S : Nat)=>[row (.slice z6R z3g.length z6S) 35 4 (z3g.flatMap e35)]) (fun (zeu : Nat) (z3g : List z1) (z59 : Int) (z6R : Option Addr) (z6S : Nat)=>zeu) ⟨yw,([] : List z1),0,none,0⟩ h (.cons rfl (.cons rfl (.cons rfl .nil))) (.cons .here .nil) ?_
  rintro zeu z3g z59 z6R z6S h
  obtain ⟨zmM,rfl⟩:=y6N h
  rw [y2n] at h
  refine WC.b ?_
  refine WC.b ?_
  refine WC.a ?_
  refine WL.a (d:=9) rfl rfl rfl (q_m rfl) ?_
  refine WL.a (d:=10) rfl rfl rfl (y1d rfl rfl rfl) ?_
  refine WL.a (d:=11) rfl rfl rfl (q_m rfl) ?_
  refine WL.a (d:=12) rfl rfl rfl (y1k Try.underlying22 rfl) ?_
  refine WL.a (d:=13) rfl rfl rfl (y1h rfl rfl) ?_
  refine WL.a (d:=14) rfl rfl rfl (q_m rfl) ?_
  refine WL.yF True [(0,(.slice zbH z4G.length zbI)),(3,(.slice z6R z3g.length z6S)),(4,(.int .i64 z59)),(18,(.bool ((decide ((i64 (z59 + 1)) < ((z4G.length : Nat) : Int))) && (decide (((z3g.length : Nat) : Int) < 4)))))] [row (.slice z6R z3g.length z6S) 35 4 (z3g.flatMap e35)] 4 ?_ (fun _=>?_)
  ·rcases Bool.eq_false_or_eq_true (decide ((i64 (z59 + 1)) < ((z4G.length : Nat) : Int))) with hb' | hb'
   ·have zqw:=hb'; clear hb'
    refine WL.pin (i:=14) rfl zqw ?_
    refine WL.a (d:=15) rfl rfl rfl (q_m rfl) ?_
    refine WL.a (d:=16) rfl rfl rfl (y1k Try.underlying39 rfl) ?_
    refine WL.a (d:=17) rfl rfl rfl (y1h rfl rfl) ?_
    refine WL.a (d:=18) rfl rfl rfl (ys rfl rfl) ?_
    exact WL.ya () trivial (.cons rfl (.cons rfl (.cons rfl (.cons (zt (y3s zqw)) .nil)))) (.cons .here .nil)
   ·have zqx:=hb'; clear hb'
    refine WL.pin (i:=14) rfl zqx ?_
    refine WL.e rfl rfl rfl ?_
    refine WL.e rfl rfl rfl ?_
    refine WL.e rfl rfl rfl ?_
    refine WL.a (d:=18) rfl rfl rfl (yr rfl rfl) ?_
    exact WL.ya () trivial (.cons rfl (.cons rfl (.cons rfl (.cons (zt (y3r zqx)) .nil)))) (.cons .here .nil)
  ·skip
   refine WL.nil ?_
   refine WX.a ?_
   refine WC.cond rfl (fun zmN=>?_) (fun zmN=>?_)
   ·replace h:=yj h zmN
    refine WC.skip ?_
    refine WX.a ?_
    refine WC.b ?_
    refine WC.block ?_
    refine WC.b ?_
    obtain ⟨zy1,h⟩:=yp h
    obtain ⟨z4V,zy2,h⟩:=zb h
    refine WC.a ?_
    refine WL.a (d:=22) rfl rfl rfl (q_m rfl) ?_
    refine WL.a (d:=23) rfl rfl rfl (q_m rfl) ?_
    refine WL.znth (dd:=24) rfl rfl (Z:=Z) (Pr:=(fun r x=>r = e5 x)) elT_22 rfl rfl zqt zy1 ?_
    rintro zBv zBw zy3 zBx rfl
    refine WL.a (d:=25) rfl rfl rfl (ye oneT_5 rfl (y3Z hz.pv zy3 rfl)) ?_
    refine WL.a (d:=26) rfl rfl rfl (y47 Try.underlying5 Try.underlying3 rfl rfl) ?_
    refine WL.a (d:=27) rfl rfl rfl (y6V rfl rfl (by decide) rfl) ?_
    refine WL.b (dd:=28) rfl rfl rfl (zl (l:=[.tmp 27,.const (.int .i64 1)]) Try.call9 (.cons rfl (.cons rfl .nil))) (.nil : Sel [row (.slice z6R z3g.length z6S) 35 4 (z3g.flatMap e35)] [] [row (.slice z6R z3g.length z6S) 35 4 (z3g.flatMap e35)]) (fun w hw=>by have pz:=(hz.call hw (.nil : Sel [row (.slice z6R z3g.length z6S) 35 4 (z3g.flatMap e35)] [] [row (.slice z6R z3g.length z6S) 35 4 (z3g.flatMap e35)])); exact y3k (Z:=_)  (z6E:=(Int.tmod (i64 (nth z4G z59)) 101)) (z67:=1) (r:=z4V) w pz  zy2) ?_
    refine WL.a (d:=21) rfl rfl rfl (q_m rfl) ?_
    refine WL.a (d:=29) rfl rfl rfl (yb rfl rfl) ?_
    refine WL.a (d:=30) rfl rfl rfl (yb rfl rfl) ?_
    refine WL.new (dd:=5) rfl rfl rfl (yh (cs:=[(.int .i64 0),(.int .i64 0)]) yo rfl) ?_
    intro zie _
    refine WL.yc rfl rfl (yd (vs:=[(.int .i64 z4V.1.fN),(.int .i64 z4V.1.fD)]) (ds:=[(.int .i64 z4V.1.fN),(.int .i64 z4V.1.fD)]) yl rfl rfl rfl rfl (y3 rfl (y3 rfl yf)) .here (Nat.le_of_ble_eq_true rfl) rfl) ?_
    refine WL.a (d:=6) rfl rfl rfl (q_z rfl) ?_
    refine WL.nil ?_
    refine WX.a ?_
    refine WC.b ?_
    obtain ⟨zy4,h⟩:=yp h
    obtain ⟨z7e,zy5,h⟩:=zb h
    refine WC.a ?_
    refine WL.a (d:=32) rfl rfl rfl (q_m rfl) ?_
    refine WL.a (d:=33) rfl rfl rfl (q_m rfl) ?_
    refine WL.a (d:=34) rfl rfl rfl (y1d rfl rfl rfl) ?_
    refine WL.znth (dd:=35) rfl rfl (Z:=Z) (Pr:=(fun r x=>r = e5 x)) elT_22 rfl rfl zqt zy4 ?_
    rintro zBy zBz zy6 zBA rfl
    refine WL.a (d:=36) rfl rfl rfl (ye oneT_5 rfl (y3Z hz.pv zy6 rfl)) ?_
    refine WL.a (d:=37) rfl rfl rfl (y47 Try.underlying5 Try.underlying3 rfl rfl) ?_
    refine WL.a (d:=38) rfl rfl rfl (y6V rfl rfl (by decide) rfl) ?_
    refine WL.b (dd:=39) rfl rfl rfl (zl (l:=[.tmp 38,.const (.int .i64 8)]) Try.call9 (.cons rfl (.cons rfl .nil))) (.nil : Sel [stb zie 30 [(.int .i64 z4V.1.fN),(.int .i64 z4V.1.fD)],row (.slice z6R z3g.length z6S) 35 4 (z3g.flatMap e35)] [] [stb zie 30 [(.int .i64 z4V.1.fN),(.int .i64 z4V.1.fD)],row (.slice z6R z3g.length z6S) 35 4 (z3g.flatMap e35)]) (fun w hw=>by have pz:=(hz.call hw (.nil : Sel [stb zie 30 [(.int .i64 z4V.1.fN),(.int .i64 z4V.1.fD)],row (.slice z6R z3g.length z6S) 35 4 (z3g.flatMap e35)] [] [stb zie 30 [(.int .i64 z4V.1.fN),(.int .i64 z4V.1.fD)],row (.slice z6R z3g.length z6S) 35 4 (z3g.flatMap e35)])); exact y3k (Z:=_)  (z6E:=(Int.tmod (i64 (nth z4G (i64 (z59 + 1)))) 41)) (z67:=8) (r:=z7e) w pz  zy5) ?_
    refine WL.a (d:=31) rfl rfl rfl (q_m rfl) ?_
    refine WL.a (d:=40) rfl rfl rfl (yb rfl rfl) ?_
    refine WL.a (d:=41) rfl rfl rfl (yb rfl rfl) ?_
    refine WL.new (dd:=7) rfl rfl rfl (yh (cs:=[(.int .i64 0),(.int .i64 0)]) yo rfl) ?_
    intro zBB _
    refine WL.yc rfl rfl (yd (vs:=[(.int .i64 z7e.1.fN),(.int .i64 z7e.1.fD)]) (ds:=[(.int .i64 z7e.1.fN),(.int .i64 z7e.1.fD)]) yl rfl rfl rfl rfl (y3 rfl (y3 rfl yf)) .here (Nat.le_of_ble_eq_true rfl) rfl) ?_
    refine WL.a (d:=8) rfl rfl rfl (q_z rfl) ?_
    refine WL.nil ?_
    refine WX.a ?_
    obtain ⟨zy7,h⟩:=yp h
    refine WC.a ?_
    refine WL.a (d:=42) rfl rfl rfl (q_m rfl) ?_
    refine WL.a (d:=43) rfl rfl rfl (y6 (cs:=[(.int .i64 z4V.1.fN),(.int .i64 z4V.1.fD)]) y5 rfl rfl (y7 .h1)) ?_
    refine WL.a (d:=44) rfl rfl rfl (y6 (cs:=[(.int .i64 z7e.1.fN),(.int .i64 z7e.1.fD)]) y5 rfl rfl (y7 .here)) ?_
    refine WL.a (d:=45) rfl rfl rfl (y1j (v:=(.agg #[(.int .i64 z4V.1.fN),(.int .i64 z4V.1.fD),(.int .i64 z7e.1.fN),(.int .i64 z7e.1.fD)])) (Eos.parts (l:=[.tmp 43,.tmp 44]) (.cons rfl (.cons rfl .nil)) [0,1]) (fun _=>by kernel_rfl)) ?_
    refine WL.new (dd:=46) rfl rfl rfl (yU (cs:=([(⟨z4V.1,z7e.1⟩ : z1)] : List z1).flatMap e35) y2j (Eos.parts (l:=[.tmp 45]) (.cons rfl .nil) [0]) (fun _=>by kernel_rfl) rfl (by unfold maxLen; omega)) ?_
    intro zBC _
    refine WL.eff (d:=47) rfl rfl rfl (y5f (enc:=e35) (l1:=z3g) (l2:=([(⟨z4V.1,z7e.1⟩ : z1)] : List z1)) y2j rfl rfl .h3 (fun _=>rfl) rfl rfl (y65 .here) (y5S y90 _) zy7) ?_
    rintro ⟨zy8,zy9⟩ _
    refine WL.a (d:=3) rfl rfl rfl (q_z rfl) ?_
    refine WL.nil ?_
    refine WX.yn ?_
    refine WX.a ?_
    refine WC.a ?_
    refine WL.a (d:=19) rfl rfl rfl (q_m rfl) ?_
    refine WL.a (d:=20) rfl rfl rfl (y1d rfl rfl rfl) ?_
    refine WL.a (d:=4) rfl rfl rfl (q_z rfl) ?_
    refine WL.nil ?_
    exact WX.round (G:=Nat × List z1 × Int × Option Addr × Nat) ⟨zmM,(z3g ++ ([(⟨z4V.1,z7e.1⟩ : z1)] : List z1)),(i64 (z59 + 2)),zy8,zy9⟩ h (Nat.lt_succ_self _) (.cons rfl (.cons rfl (.cons rfl .nil))) (.cons .here .nil)
   ·replace h:=yk h zmN
    refine WC.exit ?_
    refine WX.ym ?_
    refine WX.ym ?_
    refine WX.yH ?_
    exact WX.mid (G:=List z1 × Option Addr × Nat) ⟨z3g,z6R,z6S⟩ h (.cons rfl .nil) (.cons .here .nil)
 ·rintro z4a z7R z7S h
  replace h:=(zy0 z4a).symm.trans h
  obtain ⟨zid,zya,h⟩:=y1r h
  refine WC.y2M (fun (z9K : List z1) (zev : Option Addr) (zew : Nat)=>(zid z9K = some r)) (fun (z9K : List z1) (zev : Option Addr) (zew : Nat)=>[(3,(.slice zev z9K.length zew))]) (fun (z9K : List z1) (zev : Option Addr) (zew : Nat)=>[row (.slice zev z9K.length zew) 35 4 (z9K.flatMap e35)]) ?_ ?_
  ·skip
   refine WC.b ?_
   refine WC.a ?_
   refine WL.a (d:=48) rfl rfl rfl (q_m rfl) ?_
   refine WL.a (d:=49) rfl rfl rfl (y1k Try.underlying39 rfl) ?_
   refine WL.a (d:=50) rfl rfl rfl (y3g rfl rfl) ?_
   refine WL.nil ?_
   refine WX.a ?_
   refine WC.cond rfl (fun zmO=>?_) (fun zmO=>?_)
   ·replace h:=yj h zmO
    obtain ⟨zd5,zyb,h⟩:=zb h
    obtain ⟨zd6,zyc,h⟩:=zb h
    refine WC.a ?_
    refine WL.b (dd:=51) rfl rfl rfl (zl (l:=[.const (.int .i64 7),.const (.int .i64 1)]) Try.call41 (.cons rfl (.cons rfl .nil))) (.nil : Sel [row (.slice z7R z4a.length z7S) 35 4 (z4a.flatMap e35)] [] [row (.slice z7R z4a.length z7S) 35 4 (z4a.flatMap e35)]) (fun w hw=>by have pz:=(hz.call hw (.nil : Sel [row (.slice z7R z4a.length z7S) 35 4 (z4a.flatMap e35)] [] [row (.slice z7R z4a.length z7S) 35 4 (z4a.flatMap e35)])); exact y7M (Z:=_)  (z9a:=7) (z9b:=1) (r:=zd5) w pz  zyb) ?_
    refine WL.b (dd:=52) rfl rfl rfl (zl (l:=[.const (.int .i64 1),.const (.int .i64 8)]) Try.call41 (.cons rfl (.cons rfl .nil))) (.nil : Sel [row (.slice z7R z4a.length z7S) 35 4 (z4a.flatMap e35)] [] [row (.slice z7R z4a.length z7S) 35 4 (z4a.flatMap e35)]) (fun w hw=>by have pz:=(hz.call hw (.nil : Sel [row (.slice z7R z4a.length z7S) 35 4 (z4a.flatMap e35)] [] [row (.slice z7R z4a.length z7S) 35 4 (z4a.flatMap e35)])); exact y7M (Z:=_)  (z9a:=1) (z9b:=8) (r:=zd6) w pz  zyc) ?_
    refine WL.a (d:=53) rfl rfl rfl (y1j (v:=(.agg #[(.int .i64 zd5.fN),(.int .i64 zd5.fD),(.int .i64 zd6.fN),(.int .i64 zd6.fD)])) (Eos.parts (l:=[.tmp 51,.tmp 52]) (.cons rfl (.cons rfl .nil)) [0,1]) (fun _=>by kernel_rfl)) ?_
    refine WL.new (dd:=54) rfl rfl rfl (yU (cs:=([(⟨zd5,zd6⟩ : z1)] : List z1).flatMap e35) y2j (Eos.parts (l:=[.tmp 53]) (.cons rfl .nil) [0]) (fun _=>by kernel_rfl) rfl (by unfold maxLen; omega)) ?_
    intro zyd _
    refine WL.a (d:=3) rfl rfl rfl (q_z rfl) ?_
    refine WL.nil ?_
    exact WX.mid (G:=List z1 × Option Addr × Nat) ⟨([(⟨zd5,zd6⟩ : z1)] : List z1),(some ⟨zyd,0,none⟩),1⟩ h (.cons rfl .nil) (.cons .here .nil)
   ·replace h:=yk h zmO
    refine WC.skip ?_
    exact WX.mid (G:=List z1 × Option Addr × Nat) ⟨z4a,z7R,z7S⟩ h (.cons rfl .nil) (.cons .here .nil)
  ·rintro z9K zev zew h
   replace h:=(zya z9K).symm.trans h
   refine WC.b ?_
   refine WC.a ?_
   refine WL.a (d:=55) rfl rfl rfl (q_m rfl) ?_
   refine WL.a (d:=2) rfl rfl rfl (q_z rfl) ?_
   refine WL.nil ?_
   refine WX.a ?_
   refine WC.ret ?_
   obtain rfl:=Option.some.inj h
   refine WX.y9 Try.results20 (.tmp rfl .nil) (fun w hw=>?_)
   exact ⟨zev,zew,yI rfl,trivial,hw.sub (.cons .here .nil)⟩
def y1Q (z3w : z2) (z8G : zSv) (z9L : z2) : Option (z2 × Bool) :=
 (y1x z3w z8G.fLatency).bind fun z3P=>jp2 (fun (z7t : Int) (z7u : Int)=>(y2B z9L (⟨z7t,z7u⟩ : z2)).bind fun z63=>some (z63.1,((decide (z3P.2 = 0)) && (decide (z63.2 = 0))))) fun zif=>if (decide (z3P.2 = 0)) && (decide (z3P.1.fN < 0)) then (y16 0 1).bind fun z9M=>zif z9M.fN z9M.fD else zif z3P.1.fN z3P.1.fD
set_option maxRecDepth 20000 in
theorem y4o (Z : Zp)  (zex : Addr) (zbJ : Addr) (z3w : z2) (z8G : zSv) (z9L : z2) (r : z2 × Bool) (w₀ : World) (hz : PZ [] w₀ Z)
  (zye : ZC Z zex [(.int .i64 z8G.fR.fN),(.int .i64 z8G.fR.fD),(.int .i64 z8G.fLatency.fN),(.int .i64 z8G.fLatency.fD)])
  (zyf : ZC Z zbJ [(.int .i64 z9L.fN),(.int .i64 z9L.fD)])
  (h : y1Q z3w z8G z9L = some r) :
  Calls Try.prog 23 #[(.agg #[(.int .i64 z3w.fN),(.int .i64 z3w.fD)]),(.pointer (some zex)),(.pointer (some zbJ))] w₀ fun e w'=>e = .returned (.tuple #[(.agg #[(.int .i64 r.1.fN),(.int .i64 r.1.fD)]),(.bool r.2)]) ∧ Hp [] w₀ w' []:=by
 unfold y1Q at h
 refine Calls.yg (vs:=[(.agg #[(.int .i64 z3w.fN),(.int .i64 z3w.fD)]),(.pointer (some zex)),(.pointer (some zbJ))]) (pre:=[]) (env:=[(0,(.agg #[(.int .i64 z3w.fN),(.int .i64 z3w.fD)])),(1,(.pointer (some zex))),(2,(.pointer (some zbJ)))]) Try.func23 rfl Try.ntmps23 rfl (Hp.nil w₀ _) rfl ?_
 refine WC.b ?_
 refine WC.a ?_
 refine WL.new (dd:=3) rfl rfl rfl (yK (cs:=[(.int .i64 z3w.fN),(.int .i64 z3w.fD)]) rfl rfl) ?_
 intro zaT _
 refine WL.new (dd:=4) rfl rfl rfl (yh (cs:=[(.int .i64 0),(.int .i64 0)]) yo rfl) ?_
 intro z6z _
 refine WL.a (d:=5) rfl rfl rfl (q_z rfl) ?_
 refine WL.nil ?_
 refine WX.a ?_
 refine WC.b ?_
 obtain ⟨z3P,zyg,h⟩:=zb h
 refine WC.a ?_
 refine WL.a (d:=11) rfl rfl rfl (y6 (cs:=[(.int .i64 z3w.fN),(.int .i64 z3w.fD)]) y5 rfl rfl (y7 .h1)) ?_
 refine WL.a (d:=12) rfl rfl rfl (y4 y55 rfl rfl) ?_
 refine WL.a (d:=13) rfl rfl rfl (y6 (cs:=[(.int .i64 z8G.fLatency.fN),(.int .i64 z8G.fLatency.fD)]) y5 rfl rfl (y5U (off:=2) (s:=2) hz.pv zye rfl)) ?_
 refine WL.b (dd:=14) rfl rfl rfl (zl (l:=[.tmp 11,.tmp 13]) Try.call24 (.cons rfl (.cons rfl .nil))) (.nil : Sel [stb z6z 30 [(.int .i64 0),(.int .i64 0)],stb zaT 30 [(.int .i64 z3w.fN),(.int .i64 z3w.fD)]] [] [stb z6z 30 [(.int .i64 0),(.int .i64 0)],stb zaT 30 [(.int .i64 z3w.fN),(.int .i64 z3w.fD)]]) (fun w hw=>by have pz:=(hz.call hw (.nil : Sel [stb z6z 30 [(.int .i64 0),(.int .i64 0)],stb zaT 30 [(.int .i64 z3w.fN),(.int .i64 z3w.fD)]] [] [stb z6z 30 [(.int .i64 0),(.int .i64 0)],stb zaT 30 [(.int .i64 z3w.fN),(.int .i64 z3w.fD)]])); exact y4K (Z:=_)  (z3Y:=z3w) (z3Z:=z8G.fLatency) (r:=z3P) w pz  zyg) ?_
 refine WL.a (d:=10) rfl rfl rfl (q_m rfl) ?_
 refine WL.a (d:=15) rfl rfl rfl (yb rfl rfl) ?_
 refine WL.a (d:=16) rfl rfl rfl (yb rfl rfl) ?_
 refine WL.new (dd:=6) rfl rfl rfl (yh (cs:=[(.int .i64 0),(.int .i64 0)]) yo rfl) ?_
 intro z8a _
 refine WL.yc rfl rfl (yd (vs:=[(.int .i64 z3P.1.fN),(.int .i64 z3P.1.fD)]) (ds:=[(.int .i64 z3P.1.fN),(.int .i64 z3P.1.fD)]) yl rfl rfl rfl rfl (y3 rfl (y3 rfl yf)) .here (Nat.le_of_ble_eq_true rfl) rfl) ?_
 refine WL.a (d:=7) rfl rfl rfl (q_z rfl) ?_
 refine WL.nil ?_
 refine WX.a ?_
 obtain ⟨zif,zyh,h⟩:=y3F h
 refine WC.y3h (fun (z7t : Int) (z7u : Int)=>(zif z7t z7u = some r)) (fun (z7t : Int) (z7u : Int)=>[(2,(.pointer (some zbJ))),(4,(.pointer (some ⟨z6z,0,none⟩))),(6,(.pointer (some ⟨z8a,0,none⟩))),(7,(.int .i64 z3P.2))]) (fun (z7t : Int) (z7u : Int)=>[stb z6z 30 [(.int .i64 0),(.int .i64 0)],stb z8a 30 [(.int .i64 z7t),(.int .i64 z7u)]]) ?_ ?_
 ·skip
  refine WC.b ?_
  refine WC.a ?_
  refine WL.a (d:=17) rfl rfl rfl (q_m rfl) ?_
  refine WL.a (d:=18) rfl rfl rfl (y3g rfl rfl) ?_
  refine WL.a (d:=19) rfl rfl rfl (q_m rfl) ?_
  refine WL.yF True [(2,(.pointer (some zbJ))),(4,(.pointer (some ⟨z6z,0,none⟩))),(6,(.pointer (some ⟨z8a,0,none⟩))),(7,(.int .i64 z3P.2)),(23,(.bool ((decide (z3P.2 = 0)) && (decide (z3P.1.fN < 0)))))] [stb z8a 30 [(.int .i64 z3P.1.fN),(.int .i64 z3P.1.fD)],stb z6z 30 [(.int .i64 0),(.int .i64 0)],stb zaT 30 [(.int .i64 z3w.fN),(.int .i64 z3w.fD)]] 4 ?_ (fun _=>?_)
  ·rcases Bool.eq_false_or_eq_true (decide (z3P.2 = 0)) with hb' | hb'
   ·have zqy:=hb'; clear hb'
    refine WL.pin (i:=19) rfl zqy ?_
    refine WL.a (d:=20) rfl rfl rfl (y4 y1J rfl rfl) ?_
    refine WL.a (d:=21) rfl rfl rfl (ye yx rfl (yu .here rfl)) ?_
    refine WL.a (d:=22) rfl rfl rfl (y1h rfl rfl) ?_
    refine WL.a (d:=23) rfl rfl rfl (ys rfl rfl) ?_
    exact WL.ya () trivial (.cons rfl (.cons rfl (.cons rfl (.cons rfl (.cons (zt (y3s zqy)) .nil))))) (.cons .here (.cons .here (.cons .here .nil)))
   ·have zqz:=hb'; clear hb'
    refine WL.pin (i:=19) rfl zqz ?_
    refine WL.e rfl rfl rfl ?_
    refine WL.e rfl rfl rfl ?_
    refine WL.e rfl rfl rfl ?_
    refine WL.a (d:=23) rfl rfl rfl (yr rfl rfl) ?_
    exact WL.ya () trivial (.cons rfl (.cons rfl (.cons rfl (.cons rfl (.cons (zt (y3r zqz)) .nil))))) (.cons .here (.cons .here (.cons .here .nil)))
  ·skip
   refine WL.nil ?_
   refine WX.a ?_
   refine WC.cond rfl (fun zmP=>?_) (fun zmP=>?_)
   ·replace h:=yj h zmP
    obtain ⟨z9M,zyi,h⟩:=zb h
    refine WC.a ?_
    refine WL.b (dd:=24) rfl rfl rfl (zl (l:=[.const (.int .i64 0),.const (.int .i64 1)]) Try.call11 (.cons rfl (.cons rfl .nil))) (.nil : Sel [stb z8a 30 [(.int .i64 z3P.1.fN),(.int .i64 z3P.1.fD)],stb z6z 30 [(.int .i64 0),(.int .i64 0)],stb zaT 30 [(.int .i64 z3w.fN),(.int .i64 z3w.fD)]] [] [stb z8a 30 [(.int .i64 z3P.1.fN),(.int .i64 z3P.1.fD)],stb z6z 30 [(.int .i64 0),(.int .i64 0)],stb zaT 30 [(.int .i64 z3w.fN),(.int .i64 z3w.fD)]]) (fun w hw=>by have pz:=(hz.call hw (.nil : Sel [stb z8a 30 [(.int .i64 z3P.1.fN),(.int .i64 z3P.1.fD)],stb z6z 30 [(.int .i64 0),(.int .i64 0)],stb zaT 30 [(.int .i64 z3w.fN),(.int .i64 z3w.fD)]] [] [stb z8a 30 [(.int .i64 z3P.1.fN),(.int .i64 z3P.1.fD)],stb z6z 30 [(.int .i64 0),(.int .i64 0)],stb zaT 30 [(.int .i64 z3w.fN),(.int .i64 z3w.fD)]])); exact y1o (Z:=_)  (z4l:=0) (z4m:=1) (r:=z9M) w pz  zyi) ?_
    refine WL.yc rfl rfl (yd (vs:=[(.int .i64 z9M.fN),(.int .i64 z9M.fD)]) (ds:=[(.int .i64 z9M.fN),(.int .i64 z9M.fD)]) yl rfl rfl rfl rfl (y3 rfl (y3 rfl yf)) .here (Nat.le_of_ble_eq_true rfl) rfl) ?_
    refine WL.nil ?_
    exact WX.mid (G:=Int × Int) ⟨z9M.fN,z9M.fD⟩ h (.cons rfl (.cons rfl (.cons rfl (.cons rfl .nil)))) (.cons .h1 (.cons .here .nil))
   ·replace h:=yk h zmP
    refine WC.skip ?_
    exact WX.mid (G:=Int × Int) ⟨z3P.1.fN,z3P.1.fD⟩ h (.cons rfl (.cons rfl (.cons rfl (.cons rfl .nil)))) (.cons .h1 (.cons .here .nil))
 ·rintro z7t z7u h
  replace h:=(zyh z7t z7u).symm.trans h
  refine WC.b ?_
  obtain ⟨z63,zyj,h⟩:=zb h
  refine WC.a ?_
  refine WL.a (d:=26) rfl rfl rfl (y6 (cs:=[(.int .i64 z9L.fN),(.int .i64 z9L.fD)]) y5 rfl rfl (y2T hz.pv zyf)) ?_
  refine WL.a (d:=27) rfl rfl rfl (y6 (cs:=[(.int .i64 z7t),(.int .i64 z7u)]) y5 rfl rfl (y7 .h1)) ?_
  refine WL.b (dd:=28) rfl rfl rfl (zl (l:=[.tmp 26,.tmp 27]) Try.call25 (.cons rfl (.cons rfl .nil))) (.nil : Sel [stb z6z 30 [(.int .i64 0),(.int .i64 0)],stb z8a 30 [(.int .i64 z7t),(.int .i64 z7u)]] [] [stb z6z 30 [(.int .i64 0),(.int .i64 0)],stb z8a 30 [(.int .i64 z7t),(.int .i64 z7u)]]) (fun w hw=>by have pz:=(hz.call hw (.nil : Sel [stb z6z 30 [(.int .i64 0),(.int .i64 0)],stb z8a 30 [(.int .i64 z7t),(.int .i64 z7u)]] [] [stb z6z 30 [(.int .i64 0),(.int .i64 0)],stb z8a 30 [(.int .i64 z7t),(.int .i64 z7u)]])); exact y7o (Z:=_)  (z4w:=z9L) (z4x:=(⟨z7t,z7u⟩ : z2)) (r:=z63) w pz  zyj) ?_
  refine WL.a (d:=25) rfl rfl rfl (q_m rfl) ?_
  refine WL.a (d:=29) rfl rfl rfl (yb rfl rfl) ?_
  refine WL.a (d:=30) rfl rfl rfl (yb rfl rfl) ?_
  refine WL.new (dd:=8) rfl rfl rfl (yh (cs:=[(.int .i64 0),(.int .i64 0)]) yo rfl) ?_
  intro zyk _
  refine WL.yc rfl rfl (yd (vs:=[(.int .i64 z63.1.fN),(.int .i64 z63.1.fD)]) (ds:=[(.int .i64 z63.1.fN),(.int .i64 z63.1.fD)]) yl rfl rfl rfl rfl (y3 rfl (y3 rfl yf)) .here (Nat.le_of_ble_eq_true rfl) rfl) ?_
  refine WL.a (d:=9) rfl rfl rfl (q_z rfl) ?_
  refine WL.nil ?_
  refine WX.a ?_
  refine WC.b ?_
  refine WC.a ?_
  refine WL.a (d:=31) rfl rfl rfl (y6 (cs:=[(.int .i64 z63.1.fN),(.int .i64 z63.1.fD)]) y5 rfl rfl (y7 .here)) ?_
  refine WL.a (d:=32) rfl rfl rfl (q_m rfl) ?_
  refine WL.a (d:=33) rfl rfl rfl (y3g rfl rfl) ?_
  refine WL.a (d:=34) rfl rfl rfl (q_m rfl) ?_
  refine WL.yF True [(4,(.pointer (some ⟨z6z,0,none⟩))),(31,(.agg #[(.int .i64 z63.1.fN),(.int .i64 z63.1.fD)])),(37,(.bool ((decide (z3P.2 = 0)) && (decide (z63.2 = 0)))))] [stb zyk 30 [(.int .i64 z63.1.fN),(.int .i64 z63.1.fD)],stb z6z 30 [(.int .i64 0),(.int .i64 0)],stb z8a 30 [(.int .i64 z7t),(.int .i64 z7u)]] 3 ?_ (fun _=>?_)
  ·rcases Bool.eq_false_or_eq_true (decide (z3P.2 = 0)) with hb' | hb'
   ·have zqA:=hb'; clear hb'
    refine WL.pin (i:=34) rfl zqA ?_
    refine WL.a (d:=35) rfl rfl rfl (q_m rfl) ?_
    refine WL.a (d:=36) rfl rfl rfl (y3g rfl rfl) ?_
    refine WL.a (d:=37) rfl rfl rfl (ys rfl rfl) ?_
    exact WL.ya () trivial (.cons rfl (.cons rfl (.cons (zt (y3s zqA)) .nil))) (.cons .here (.cons .here (.cons .here .nil)))
   ·have zqB:=hb'; clear hb'
    refine WL.pin (i:=34) rfl zqB ?_
    refine WL.e rfl rfl rfl ?_
    refine WL.e rfl rfl rfl ?_
    refine WL.a (d:=37) rfl rfl rfl (yr rfl rfl) ?_
    exact WL.ya () trivial (.cons rfl (.cons rfl (.cons (zt (y3r zqB)) .nil))) (.cons .here (.cons .here (.cons .here .nil)))
  ·skip
   refine WL.yc rfl rfl (yd (vs:=[(.int .i64 z63.1.fN),(.int .i64 z63.1.fD)]) (ds:=[(.int .i64 z63.1.fN),(.int .i64 z63.1.fD)]) yl rfl rfl rfl rfl (y3 rfl (y3 rfl yf)) .h1 (Nat.le_of_ble_eq_true rfl) rfl) ?_
   refine WL.a (d:=5) rfl rfl rfl (q_z rfl) ?_
   refine WL.nil ?_
   refine WX.a ?_
   refine WC.ret ?_
   obtain rfl:=Option.some.inj h
   refine WX.y9 Try.results23 (.agg rfl y5 rfl (y7 .here) (.tmp rfl .nil)) (fun w hw=>?_)
   exact ⟨y1I rfl rfl,hw.sub .nil⟩
end Go.Proofs.Ytakfmdiiehcbdaa
