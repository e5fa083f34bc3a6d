/- A part of this claim's proof: models of functions, walks, plain laws. No conditions. -/
import Derived.Test.YtakfmdiiehcbdaaW03g
namespace Go.Proofs.Ytakfmdiiehcbdaa
open Go Go.RowKit Sep
set_option linter.all false
set_option maxRecDepth 30000
set_option maxHeartbeats 4000000
def y2X (zaU : List Int) (zaV : List Int) (zbK : Int) (zbL : Int) (zbM : Int) : Option Bool :=
 (y3d zaU).bind fun z2h=>(y3d zaV).bind fun z2x=>(y20 (i64 (1 + (Int.tmod (i64 zbK) 160))) 8).bind fun z8=>(y16 (Int.tmod (i64 zbL) 101) 1).bind fun ze=>(y20 (Int.tmod (i64 zbM) 4001) 1).bind fun zi=>(y25 ([z2h,z2x] : List (List z1)) (⟨z8.1,ze⟩ : zSv)).bind fun zk=>(y27 ([z2h,z2x] : List (List z1)) (⟨z8.1,ze⟩ : zSv)).bind fun zp=>if ((decide (z8.2 ≠ 0)) || (decide (zi.2 ≠ 0))) || (decide (zk.2 ≠ zp.2)) then some false else chk ((0 : Int) ≤ 0 ∧ 0 < ((([z2h,z2x] : List (List z1)).length : Nat) : Int)) ((y1m (nth ([z2h,z2x] : List (List z1)) 0)).bind fun zu=>chk ((0 : Int) ≤ 1 ∧ 1 < ((([z2h,z2x] : List (List z1)).length : Nat) : Int)) ((y1m (nth ([z2h,z2x] : List (List z1)) 1)).bind fun zx=>(y15 zu.1 zx.1).bind fun zy=>(if decide ((i64 ((i64 (zu.2 + zx.2)) + zy.2)) ≠ 0) then some true else (yO zy.1 z8.1).bind fun zmQ=>some ((decide (zk.2 = 6)) != (decide (zmQ > 0)))).bind fun zmR=>if zmR then some false else if decide (zk.2 ≠ 0) then (if decide (zk.2 = 6) then (y3Q).bind fun zmS=>some zmS else some false).bind fun zmT=>some zmT else chk ((0 : Int) ≤ 0 ∧ 0 < ((([z2h,z2x] : List (List z1)).length : Nat) : Int)) ((y2N (nth ([z2h,z2x] : List (List z1)) 0) zi.1).bind fun zA=>chk ((0 : Int) ≤ 1 ∧ 1 < ((([z2h,z2x] : List (List z1)).length : Nat) : Int)) ((y2N (nth ([z2h,z2x] : List (List z1)) 1) zi.1).bind fun zB=>(y15 zA.1 zB.1).bind fun zF=>if decide ((i64 ((i64 (zA.2 + zB.2)) + zF.2)) ≠ 0) then some false else (y15 zi.1 zk.1).bind fun zL=>(y1Q zL.1 (⟨z8.1,ze⟩ : zSv) z8.1).bind fun z18=>(y1Q zi.1 (⟨z8.1,ze⟩ : zSv) z8.1).bind fun z2e=>(y15 z2e.1 zp.1).bind fun z2q=>(if (((decide (zL.2 = 0)) && z18.2) && z2e.2) && (decide (z2q.2 = 0)) then (yO zF.1 z18.1).bind fun zmU=>some (decide (zmU ≤ 0)) else some false).bind fun zig=>(if zig then (yO zF.1 z2q.1).bind fun zmV=>some (decide (zmV ≤ 0)) else some false).bind fun zih=>(if zih then (y3Q).bind fun zmW=>some zmW else some false).bind fun zmX=>some zmX))))
set_option maxRecDepth 20000 in
theorem y6S (Z : Zp)  (zey : Option Addr) (zez : Nat) (zeA : Option Addr) (zeB : Nat) (zaU : List Int) (zaV : List Int) (zbK : Int) (zbL : Int) (zbM : Int) (r : Bool) (w₀ : World) (hz : PZ [] w₀ Z)
  (zyl : ZS Z 1 (fun r x=>r = e5 x) zey zez zaU)
  (zym : ZS Z 1 (fun r x=>r = e5 x) zeA zeB zaV)
  (h : y2X zaU zaV zbK zbL zbM = some r) :
  Calls Try.prog 4 #[(.slice zey zaU.length zez),(.slice zeA zaV.length zeB),(.int .u8 zbK),(.int .u8 zbL),(.int .u16 zbM)] w₀ fun e w'=>∃ Zn : Zp,e = .returned (.bool r) ∧ True ∧ Hp [] w₀ w' [fz Zn]:=by
 unfold y2X at h
 refine Calls.yg (vs:=[(.slice zey zaU.length zez),(.slice zeA zaV.length zeB),(.int .u8 zbK),(.int .u8 zbL),(.int .u16 zbM)]) (pre:=[]) (env:=[(0,(.slice zey zaU.length zez)),(1,(.slice zeA zaV.length zeB)),(2,(.int .u8 zbK)),(3,(.int .u8 zbL)),(4,(.int .u16 zbM))]) Try.func4 rfl Try.ntmps4 rfl (Hp.nil w₀ _) rfl ?_
 refine WC.pool ?_
 refine WC.b ?_
 refine WC.a ?_
 refine WL.a (d:=10) rfl rfl rfl (q_z rfl) ?_
 refine WL.nil ?_
 refine WX.a ?_
 refine WC.b ?_
 obtain ⟨z2h,zyn,h⟩:=zb h
 obtain ⟨z2x,zyo,h⟩:=zb h
 refine WC.a ?_
 refine WL.a (d:=39) rfl rfl rfl (q_m rfl) ?_
 refine WL.y5e (dd:=40) rfl rfl rfl (zl (l:=[.tmp 39]) Try.call20 (.cons rfl .nil)) (.nil : Sel [fz []] [] [fz []]) (fun w hw=>by have pz:=(hz.call2 hw (.nil : Sel [fz []] [] [fz []]) .here); exact y79 (Z:=_) (zbH:=zey) (zbI:=zez) (z4G:=zaU) (r:=z2h) w pz (zyl.mono (Zle.left _ _)) zyn) ?_
 rintro z6T z6U _
 refine WL.a (d:=41) rfl rfl rfl (q_m rfl) ?_
 refine WL.y5e (dd:=42) rfl rfl rfl (zl (l:=[.tmp 41]) Try.call20 (.cons rfl .nil)) (.nil : Sel [row (.slice z6T z2h.length z6U) 35 4 (z2h.flatMap e35),fz []] [] [row (.slice z6T z2h.length z6U) 35 4 (z2h.flatMap e35),fz []]) (fun w hw=>by have pz:=(hz.call2 hw (.nil : Sel [row (.slice z6T z2h.length z6U) 35 4 (z2h.flatMap e35),fz []] [] [row (.slice z6T z2h.length z6U) 35 4 (z2h.flatMap e35),fz []]) .h1); exact y79 (Z:=_) (zbH:=zeA) (zbI:=zeB) (z4G:=zaV) (r:=z2x) w pz (zym.mono (Zle.left _ _)) zyo) ?_
 rintro z8b z8c _
 refine WL.freezeS (ls:=z2h) .h1 .h1 hz (RR.flat (enc:=e35) (fun _=>rfl) _) ?_
 intro zBD zBE zyp
 refine WL.freezeS (ls:=z2x) .h1 .here hz (RR.flat (enc:=e35) (fun _=>rfl) _) ?_
 intro z9c zyq zyr
 have zys : RR 1 (p39 (Z ++ z9c)) [(.slice z6T z2h.length z6U),(.slice z8b z2x.length z8c)] ([z2h,z2x] : List (List z1)):=(RR.cons (r:=[(.slice z6T z2h.length z6U)]) rfl (show p39 _ _ _ from ⟨_,_,rfl,(zyp.mono zyq)⟩) (RR.cons (r:=[(.slice z8b z2x.length z8c)]) rfl (show p39 _ _ _ from ⟨_,_,rfl,zyr⟩) (RR.nil _ _)))
 refine WL.new (dd:=43) rfl rfl rfl (yU (cs:=[(.slice z6T z2h.length z6U),(.slice z8b z2x.length z8c)]) y32 (Eos.parts (l:=[.tmp 40,.tmp 42]) (.cons rfl (.cons rfl .nil)) [0,1]) (fun _=>by kernel_rfl) rfl (by unfold maxLen; omega)) ?_
 intro z7v _
 refine WL.a (d:=11) rfl rfl rfl (q_z rfl) ?_
 refine WL.nil ?_
 refine WX.a ?_
 refine WC.b ?_
 obtain ⟨z8,zyt,h⟩:=zb h
 refine WC.a ?_
 refine WL.a (d:=45) rfl rfl rfl (q_m rfl) ?_
 refine WL.a (d:=46) rfl rfl rfl (y47 Try.underlying5 Try.underlying3 rfl rfl) ?_
 refine WL.a (d:=47) rfl rfl rfl (y6V rfl rfl (by decide) rfl) ?_
 refine WL.a (d:=48) rfl rfl rfl (y1d rfl rfl rfl) ?_
 refine WL.b (dd:=49) rfl rfl rfl (zl (l:=[.tmp 48,.const (.int .i64 8)]) Try.call9 (.cons rfl (.cons rfl .nil))) (.nil : Sel [row (.slice (some ⟨z7v,0,none⟩) (([z2h,z2x] : List (List z1)).length) 2) 39 1 [(.slice z6T z2h.length z6U),(.slice z8b z2x.length z8c)],fz z9c] [] [row (.slice (some ⟨z7v,0,none⟩) (([z2h,z2x] : List (List z1)).length) 2) 39 1 [(.slice z6T z2h.length z6U),(.slice z8b z2x.length z8c)],fz z9c]) (fun w hw=>by have pz:=(hz.call2 hw (.nil : Sel [row (.slice (some ⟨z7v,0,none⟩) (([z2h,z2x] : List (List z1)).length) 2) 39 1 [(.slice z6T z2h.length z6U),(.slice z8b z2x.length z8c)],fz z9c] [] [row (.slice (some ⟨z7v,0,none⟩) (([z2h,z2x] : List (List z1)).length) 2) 39 1 [(.slice z6T z2h.length z6U),(.slice z8b z2x.length z8c)],fz z9c]) .h1); exact y3k (Z:=_)  (z6E:=(i64 (1 + (Int.tmod (i64 zbK) 160)))) (z67:=8) (r:=z8) w pz  zyt) ?_
 refine WL.a (d:=44) rfl rfl rfl (q_m rfl) ?_
 refine WL.a (d:=50) rfl rfl rfl (yb rfl rfl) ?_
 refine WL.a (d:=51) rfl rfl rfl (yb rfl rfl) ?_
 refine WL.new (dd:=12) rfl rfl rfl (yh (cs:=[(.int .i64 0),(.int .i64 0)]) yo rfl) ?_
 intro zD _
 refine WL.yc rfl rfl (yd (vs:=[(.int .i64 z8.1.fN),(.int .i64 z8.1.fD)]) (ds:=[(.int .i64 z8.1.fN),(.int .i64 z8.1.fD)]) yl rfl rfl rfl rfl (y3 rfl (y3 rfl yf)) .here (Nat.le_of_ble_eq_true rfl) rfl) ?_
 refine WL.a (d:=13) rfl rfl rfl (q_z rfl) ?_
 refine WL.nil ?_
 refine WX.a ?_
 refine WC.b ?_
 obtain ⟨ze,zyu,h⟩:=zb h
 refine WC.y1e (fun i=>[7].contains i) [] rfl ?_
 refine WD.e (i:=0) (d:=52) (by kernel_rfl) rfl (z6 (by kernel_rfl)) (z7 (by kernel_rfl)) rfl rfl rfl (y6 (cs:=[(.int .i64 z8.1.fN),(.int .i64 z8.1.fD)]) y5 rfl rfl (y7 .here)) ?_
 refine WD.a (i:=1) (d:=53) (by kernel_rfl) rfl (z6 (by kernel_rfl)) (z7 (by kernel_rfl)) rfl rfl rfl (fun _=>q_m rfl) ?_
 refine WD.a (i:=2) (d:=54) (by kernel_rfl) rfl (z6 (by kernel_rfl)) (z7 (by kernel_rfl)) rfl rfl rfl (fun _=>y47 Try.underlying5 Try.underlying3 rfl rfl) ?_
 refine WD.a (i:=3) (d:=55) (by kernel_rfl) rfl (z6 (by kernel_rfl)) (z7 (by kernel_rfl)) rfl rfl rfl (fun _=>y6V rfl rfl (by decide) rfl) ?_
 refine WD.c (i:=4) (d:=56) (by kernel_rfl) rfl (z6 (by kernel_rfl)) (z7 (by kernel_rfl)) rfl rfl rfl (zl (l:=[.tmp 55,.const (.int .i64 1)]) Try.call11 (.cons rfl (.cons rfl .nil))) (fun w hw=>by have pz:=(hz.call2 hw (.nil : Sel [stb zD 30 [(.int .i64 z8.1.fN),(.int .i64 z8.1.fD)],row (.slice (some ⟨z7v,0,none⟩) (([z2h,z2x] : List (List z1)).length) 2) 39 1 [(.slice z6T z2h.length z6U),(.slice z8b z2x.length z8c)],fz z9c] [] [stb zD 30 [(.int .i64 z8.1.fN),(.int .i64 z8.1.fD)],row (.slice (some ⟨z7v,0,none⟩) (([z2h,z2x] : List (List z1)).length) 2) 39 1 [(.slice z6T z2h.length z6U),(.slice z8b z2x.length z8c)],fz z9c]) .h2); exact y1o (Z:=_)  (z4l:=(Int.tmod (i64 zbL) 101)) (z4m:=1) (r:=ze) w pz  zyu) ?_
 refine WD.a (i:=5) (d:=57) (by kernel_rfl) rfl (z6 (by kernel_rfl)) (z7 (by kernel_rfl)) rfl rfl rfl (fun _=>y1j (v:=(.agg #[(.int .i64 z8.1.fN),(.int .i64 z8.1.fD),(.int .i64 ze.fN),(.int .i64 ze.fD)])) (Eos.parts (l:=[.tmp 52,.tmp 56]) (.cons rfl (.cons rfl .nil)) [0,1]) (fun _=>by kernel_rfl)) ?_
 refine WD.new (i:=6) (dd:=14) rfl (by kernel_rfl) rfl rfl rfl (yh (cs:=[(.int .i64 0),(.int .i64 0),(.int .i64 0),(.int .i64 0)]) y91 rfl) (fun h'=>absurd h' (by decide)) ?_
 intro zG _
 refine WD.y61 (i:=7) rfl (by kernel_rfl) rfl rfl rfl (by kernel_rfl) (yd (vs:=[(.int .i64 z8.1.fN),(.int .i64 z8.1.fD),(.int .i64 ze.fN),(.int .i64 ze.fD)]) (ds:=[(.int .i64 z8.1.fN),(.int .i64 z8.1.fD),(.int .i64 ze.fN),(.int .i64 ze.fD)]) y9A rfl rfl rfl rfl (y3 rfl (y3 rfl (y3 rfl (y3 rfl yf)))) .here (Nat.le_of_ble_eq_true rfl) rfl) ?_
 refine WD.done (by kernel_rfl) ?_
 refine WX.a ?_
 refine WC.b ?_
 obtain ⟨zi,zyv,h⟩:=zb h
 refine WC.a ?_
 refine WL.a (d:=59) rfl rfl rfl (q_m rfl) ?_
 refine WL.a (d:=60) rfl rfl rfl (y47 Try.underlying23 Try.underlying3 rfl rfl) ?_
 refine WL.a (d:=61) rfl rfl rfl (y6V rfl rfl (by decide) rfl) ?_
 refine WL.b (dd:=62) rfl rfl rfl (zl (l:=[.tmp 61,.const (.int .i64 1)]) Try.call9 (.cons rfl (.cons rfl .nil))) (.nil : Sel [stb zG 43 [(.int .i64 z8.1.fN),(.int .i64 z8.1.fD),(.int .i64 ze.fN),(.int .i64 ze.fD)],stb zD 30 [(.int .i64 z8.1.fN),(.int .i64 z8.1.fD)],row (.slice (some ⟨z7v,0,none⟩) (([z2h,z2x] : List (List z1)).length) 2) 39 1 [(.slice z6T z2h.length z6U),(.slice z8b z2x.length z8c)],fz z9c] [] [stb zG 43 [(.int .i64 z8.1.fN),(.int .i64 z8.1.fD),(.int .i64 ze.fN),(.int .i64 ze.fD)],stb zD 30 [(.int .i64 z8.1.fN),(.int .i64 z8.1.fD)],row (.slice (some ⟨z7v,0,none⟩) (([z2h,z2x] : List (List z1)).length) 2) 39 1 [(.slice z6T z2h.length z6U),(.slice z8b z2x.length z8c)],fz z9c]) (fun w hw=>by have pz:=(hz.call2 hw (.nil : Sel [stb zG 43 [(.int .i64 z8.1.fN),(.int .i64 z8.1.fD),(.int .i64 ze.fN),(.int .i64 ze.fD)],stb zD 30 [(.int .i64 z8.1.fN),(.int .i64 z8.1.fD)],row (.slice (some ⟨z7v,0,none⟩) (([z2h,z2x] : List (List z1)).length) 2) 39 1 [(.slice z6T z2h.length z6U),(.slice z8b z2x.length z8c)],fz z9c] [] [stb zG 43 [(.int .i64 z8.1.fN),(.int .i64 z8.1.fD),(.int .i64 ze.fN),(.int .i64 ze.fD)],stb zD 30 [(.int .i64 z8.1.fN),(.int .i64 z8.1.fD)],row (.slice (some ⟨z7v,0,none⟩) (([z2h,z2x] : List (List z1)).length) 2) 39 1 [(.slice z6T z2h.length z6U),(.slice z8b z2x.length z8c)],fz z9c]) .h3); exact y3k (Z:=_)  (z6E:=(Int.tmod (i64 zbM) 4001)) (z67:=1) (r:=zi) w pz  zyv) ?_
 refine WL.a (d:=58) rfl rfl rfl (q_m rfl) ?_
 refine WL.a (d:=63) rfl rfl rfl (yb rfl rfl) ?_
 refine WL.a (d:=64) rfl rfl rfl (yb rfl rfl) ?_
 refine WL.new (dd:=15) rfl rfl rfl (yh (cs:=[(.int .i64 0),(.int .i64 0)]) yo rfl) ?_
 intro z11 _
 refine WL.yc rfl rfl (yd (vs:=[(.int .i64 zi.1.fN),(.int .i64 zi.1.fD)]) (ds:=[(.int .i64 zi.1.fN),(.int .i64 zi.1.fD)]) yl rfl rfl rfl rfl (y3 rfl (y3 rfl yf)) .here (Nat.le_of_ble_eq_true rfl) rfl) ?_
 refine WL.a (d:=16) rfl rfl rfl (q_z rfl) ?_
 refine WL.nil ?_
 refine WX.a ?_
 refine WC.b ?_
 obtain ⟨zk,zyw,h⟩:=zb h
 refine WC.a ?_
 refine WL.a (d:=66) rfl rfl rfl (q_m rfl) ?_
 refine WL.a (d:=67) rfl rfl rfl (y6 (cs:=[(.int .i64 z8.1.fN),(.int .i64 z8.1.fD),(.int .i64 ze.fN),(.int .i64 ze.fD)]) y4h rfl rfl (y7 .h1)) ?_
 refine WL.freezeS (ls:=([z2h,z2x] : List (List z1))) .h3 .h3 hz zys ?_
 intro zM zyx zbN
 replace zbN:=zbN.weak (fun _ _ h=>yG zyx h)
 refine WL.y2A (dd:=68) rfl rfl rfl (zl (l:=[.tmp 66,.tmp 67]) Try.call15 (.cons rfl (.cons rfl .nil))) (.nil : Sel [fz zM,stb z11 30 [(.int .i64 zi.1.fN),(.int .i64 zi.1.fD)],stb zG 43 [(.int .i64 z8.1.fN),(.int .i64 z8.1.fD),(.int .i64 ze.fN),(.int .i64 ze.fD)],stb zD 30 [(.int .i64 z8.1.fN),(.int .i64 z8.1.fD)]] [] [fz zM,stb z11 30 [(.int .i64 zi.1.fN),(.int .i64 zi.1.fD)],stb zG 43 [(.int .i64 z8.1.fN),(.int .i64 z8.1.fD),(.int .i64 ze.fN),(.int .i64 ze.fD)],stb zD 30 [(.int .i64 z8.1.fN),(.int .i64 z8.1.fD)]]) (fun w hw=>by have pz:=(hz.call2 hw (.nil : Sel [fz zM,stb z11 30 [(.int .i64 zi.1.fN),(.int .i64 zi.1.fD)],stb zG 43 [(.int .i64 z8.1.fN),(.int .i64 z8.1.fD),(.int .i64 ze.fN),(.int .i64 ze.fD)],stb zD 30 [(.int .i64 z8.1.fN),(.int .i64 z8.1.fD)]] [] [fz zM,stb z11 30 [(.int .i64 zi.1.fN),(.int .i64 zi.1.fD)],stb zG 43 [(.int .i64 z8.1.fN),(.int .i64 z8.1.fD),(.int .i64 ze.fN),(.int .i64 ze.fD)],stb zD 30 [(.int .i64 z8.1.fN),(.int .i64 z8.1.fD)]]) .here); exact y3L (Z:=_) (z5F:=(some ⟨z7v,0,none⟩)) (z5G:=2) (z4R:=([z2h,z2x] : List (List z1))) (z1P:=(⟨z8.1,ze⟩ : zSv)) (r:=zk) w pz zbN zyw) ?_
 rintro zP _
 refine WL.merge .here .here ?_
 refine WL.a (d:=65) rfl rfl rfl (q_m rfl) ?_
 refine WL.a (d:=69) rfl rfl rfl (yb rfl rfl) ?_
 refine WL.a (d:=70) rfl rfl rfl (yb rfl rfl) ?_
 refine WL.new (dd:=17) rfl rfl rfl (yh (cs:=[(.int .i64 0),(.int .i64 0)]) yo rfl) ?_
 intro z17 _
 refine WL.yc rfl rfl (yd (vs:=[(.int .i64 zk.1.fN),(.int .i64 zk.1.fD)]) (ds:=[(.int .i64 zk.1.fN),(.int .i64 zk.1.fD)]) yl rfl rfl rfl rfl (y3 rfl (y3 rfl yf)) .here (Nat.le_of_ble_eq_true rfl) rfl) ?_
 refine WL.a (d:=18) rfl rfl rfl (q_z rfl) ?_
 refine WL.nil ?_
 refine WX.a ?_
 refine WC.b ?_
 obtain ⟨zp,zyy,h⟩:=zb h
 refine WC.a ?_
 refine WL.a (d:=72) rfl rfl rfl (q_m rfl) ?_
 refine WL.a (d:=73) rfl rfl rfl (y6 (cs:=[(.int .i64 z8.1.fN),(.int .i64 z8.1.fD),(.int .i64 ze.fN),(.int .i64 ze.fD)]) y4h rfl rfl (y7 .h3)) ?_
 refine WL.y2A (dd:=74) rfl rfl rfl (zl (l:=[.tmp 72,.tmp 73]) Try.call16 (.cons rfl (.cons rfl .nil))) (.nil : Sel [stb z17 30 [(.int .i64 zk.1.fN),(.int .i64 zk.1.fD)],fz (zM ++ zP),stb z11 30 [(.int .i64 zi.1.fN),(.int .i64 zi.1.fD)],stb zG 43 [(.int .i64 z8.1.fN),(.int .i64 z8.1.fD),(.int .i64 ze.fN),(.int .i64 ze.fD)],stb zD 30 [(.int .i64 z8.1.fN),(.int .i64 z8.1.fD)]] [] [stb z17 30 [(.int .i64 zk.1.fN),(.int .i64 zk.1.fD)],fz (zM ++ zP),stb z11 30 [(.int .i64 zi.1.fN),(.int .i64 zi.1.fD)],stb zG 43 [(.int .i64 z8.1.fN),(.int .i64 z8.1.fD),(.int .i64 ze.fN),(.int .i64 ze.fD)],stb zD 30 [(.int .i64 z8.1.fN),(.int .i64 z8.1.fD)]]) (fun w hw=>by have pz:=(hz.call2 hw (.nil : Sel [stb z17 30 [(.int .i64 zk.1.fN),(.int .i64 zk.1.fD)],fz (zM ++ zP),stb z11 30 [(.int .i64 zi.1.fN),(.int .i64 zi.1.fD)],stb zG 43 [(.int .i64 z8.1.fN),(.int .i64 z8.1.fD),(.int .i64 ze.fN),(.int .i64 ze.fD)],stb zD 30 [(.int .i64 z8.1.fN),(.int .i64 z8.1.fD)]] [] [stb z17 30 [(.int .i64 zk.1.fN),(.int .i64 zk.1.fD)],fz (zM ++ zP),stb z11 30 [(.int .i64 zi.1.fN),(.int .i64 zi.1.fD)],stb zG 43 [(.int .i64 z8.1.fN),(.int .i64 z8.1.fD),(.int .i64 ze.fN),(.int .i64 ze.fD)],stb zD 30 [(.int .i64 z8.1.fN),(.int .i64 z8.1.fD)]]) .h1); exact y5m (Z:=_) (z6w:=(some ⟨z7v,0,none⟩)) (z6x:=2) (z5p:=([z2h,z2x] : List (List z1))) (z1d:=(⟨z8.1,ze⟩ : zSv)) (r:=zp) w pz ((zbN.mono ((Zle.left _ _).trans (Zle.yi _ _ _))).weak (fun _ _ h=>yG ((Zle.left _ _).trans (Zle.yi _ _ _)) h)) zyy) ?_
 rintro z10 _
 refine WL.merge .here .h1 ?_
 refine WL.a (d:=71) rfl rfl rfl (q_m rfl) ?_
 refine WL.a (d:=75) rfl rfl rfl (yb rfl rfl) ?_
 refine WL.a (d:=76) rfl rfl rfl (yb rfl rfl) ?_
 refine WL.new (dd:=19) rfl rfl rfl (yh (cs:=[(.int .i64 0),(.int .i64 0)]) yo rfl) ?_
 intro z19 _
 refine WL.yc rfl rfl (yd (vs:=[(.int .i64 zp.1.fN),(.int .i64 zp.1.fD)]) (ds:=[(.int .i64 zp.1.fN),(.int .i64 zp.1.fD)]) yl rfl rfl rfl rfl (y3 rfl (y3 rfl yf)) .here (Nat.le_of_ble_eq_true rfl) rfl) ?_
 refine WL.a (d:=20) rfl rfl rfl (q_z rfl) ?_
 refine WL.nil ?_
 refine WX.a ?_
 refine WC.b ?_
 refine WC.b ?_
 refine WC.a ?_
 refine WL.a (d:=77) rfl rfl rfl (q_m rfl) ?_
 refine WL.a (d:=78) rfl rfl rfl (y2L rfl rfl) ?_
 refine WL.a (d:=79) rfl rfl rfl (q_m rfl) ?_
 refine WL.yF True [(11,(.slice (some ⟨z7v,0,none⟩) (([z2h,z2x] : List (List z1)).length) 2)),(12,(.pointer (some ⟨zD,0,none⟩))),(14,(.pointer (some ⟨zG,0,none⟩))),(15,(.pointer (some ⟨z11,0,none⟩))),(17,(.pointer (some ⟨z17,0,none⟩))),(18,(.int .i64 zk.2)),(19,(.pointer (some ⟨z19,0,none⟩))),(20,(.int .i64 zp.2)),(82,(.bool ((decide (z8.2 ≠ 0)) || (decide (zi.2 ≠ 0)))))] [stb z19 30 [(.int .i64 zp.1.fN),(.int .i64 zp.1.fD)],fz ((zM ++ zP) ++ z10),stb z17 30 [(.int .i64 zk.1.fN),(.int .i64 zk.1.fD)],stb z11 30 [(.int .i64 zi.1.fN),(.int .i64 zi.1.fD)],stb zG 43 [(.int .i64 z8.1.fN),(.int .i64 z8.1.fD),(.int .i64 ze.fN),(.int .i64 ze.fD)],stb zD 30 [(.int .i64 z8.1.fN),(.int .i64 z8.1.fD)]] 3 ?_ (fun _=>?_)
 ·rcases Bool.eq_false_or_eq_true (decide (z8.2 ≠ 0)) with hb' | hb'
  ·have zqE:=hb'; clear hb'
   refine WL.pin (i:=79) rfl zqE ?_
   refine WL.e rfl rfl rfl ?_
   refine WL.e rfl rfl rfl ?_
   refine WL.a (d:=82) rfl rfl rfl (ys rfl rfl) ?_
   exact WL.ya () trivial (.cons rfl (.cons rfl (.cons rfl (.cons rfl (.cons rfl (.cons rfl (.cons rfl (.cons rfl (.cons (zt (y5s zqE)) .nil))))))))) (.cons .here (.cons .here (.cons .here (.cons .here (.cons .here (.cons .here .nil))))))
  ·have zqF:=hb'; clear hb'
   refine WL.pin (i:=79) rfl zqF ?_
   refine WL.a (d:=80) rfl rfl rfl (q_m rfl) ?_
   refine WL.a (d:=81) rfl rfl rfl (y2L rfl rfl) ?_
   refine WL.a (d:=82) rfl rfl rfl (yr rfl rfl) ?_
   exact WL.ya () trivial (.cons rfl (.cons rfl (.cons rfl (.cons rfl (.cons rfl (.cons rfl (.cons rfl (.cons rfl (.cons (zt (y5t zqF)) .nil))))))))) (.cons .here (.cons .here (.cons .here (.cons .here (.cons .here (.cons .here .nil))))))
 ·skip
  refine WL.a (d:=83) rfl rfl rfl (q_m rfl) ?_
  refine WL.yF True [(11,(.slice (some ⟨z7v,0,none⟩) (([z2h,z2x] : List (List z1)).length) 2)),(12,(.pointer (some ⟨zD,0,none⟩))),(14,(.pointer (some ⟨zG,0,none⟩))),(15,(.pointer (some ⟨z11,0,none⟩))),(17,(.pointer (some ⟨z17,0,none⟩))),(18,(.int .i64 zk.2)),(19,(.pointer (some ⟨z19,0,none⟩))),(87,(.bool (((decide (z8.2 ≠ 0)) || (decide (zi.2 ≠ 0))) || (decide (zk.2 ≠ zp.2)))))] [stb z19 30 [(.int .i64 zp.1.fN),(.int .i64 zp.1.fD)],fz ((zM ++ zP) ++ z10),stb z17 30 [(.int .i64 zk.1.fN),(.int .i64 zk.1.fD)],stb z11 30 [(.int .i64 zi.1.fN),(.int .i64 zi.1.fD)],stb zG 43 [(.int .i64 z8.1.fN),(.int .i64 z8.1.fD),(.int .i64 ze.fN),(.int .i64 ze.fD)],stb zD 30 [(.int .i64 z8.1.fN),(.int .i64 z8.1.fD)]] 4 ?_ (fun _=>?_)
  ·rcases Bool.eq_false_or_eq_true ((decide (z8.2 ≠ 0)) || (decide (zi.2 ≠ 0))) with hb' | hb'
   ·have zqG:=hb'; clear hb'
    refine WL.pin (i:=83) rfl zqG ?_
    refine WL.e rfl rfl rfl ?_
    refine WL.e rfl rfl rfl ?_
    refine WL.e rfl rfl rfl ?_
    refine WL.a (d:=87) rfl rfl rfl (ys rfl rfl) ?_
    exact WL.ya () trivial (.cons rfl (.cons rfl (.cons rfl (.cons rfl (.cons rfl (.cons rfl (.cons rfl (.cons (zt (y5s zqG)) .nil)))))))) (.cons .here (.cons .here (.cons .here (.cons .here (.cons .here (.cons .here .nil))))))
   ·have zqH:=hb'; clear hb'
    refine WL.pin (i:=83) rfl zqH ?_
    refine WL.a (d:=84) rfl rfl rfl (q_m rfl) ?_
    refine WL.a (d:=85) rfl rfl rfl (q_m rfl) ?_
    refine WL.a (d:=86) rfl rfl rfl (y2L rfl rfl) ?_
    refine WL.a (d:=87) rfl rfl rfl (yr rfl rfl) ?_
    exact WL.ya () trivial (.cons rfl (.cons rfl (.cons rfl (.cons rfl (.cons rfl (.cons rfl (.cons rfl (.cons (zt (y5t zqH)) .nil)))))))) (.cons .here (.cons .here (.cons .here (.cons .here (.cons .here (.cons .here .nil))))))
  ·skip
   refine WL.nil ?_
   refine WX.a ?_
   refine WC.cond rfl (fun zmY=>?_) (fun zmY=>?_)
   ·replace h:=yj h zmY
    refine WC.b ?_
    refine WC.a ?_
    refine WL.a (d:=10) rfl rfl rfl (q_z rfl) ?_
    refine WL.nil ?_
    refine WX.a ?_
    refine WC.ret ?_
    refine WX.y8 ?_
    obtain rfl:=Option.some.inj h
    refine WX.y9 Try.results4 (.tmp rfl .nil) (fun w hw=>?_)
    exact ⟨((zM ++ zP) ++ z10),yI rfl,trivial,hw.sub (.cons .h1 .nil)⟩
   ·replace h:=yk h zmY
    refine WC.skip ?_
    refine WX.a ?_
    refine WC.b ?_
    obtain ⟨zyz,h⟩:=yp h
    obtain ⟨zu,zyA,h⟩:=zb h
    refine WC.a ?_
    refine WL.a (d:=89) rfl rfl rfl (q_m rfl) ?_
    refine WL.znth (dd:=90) rfl rfl (Z:=(Z ++ ((zM ++ zP) ++ z10))) (Pr:=(p39 (Z ++ ((zM ++ zP) ++ z10)))) y32 rfl rfl ((zbN.mono ((Zle.left _ _).trans ((Zle.yi _ _ _).trans ((Zle.left _ _).trans (Zle.yi _ _ _))))).weak (fun _ _ h=>yG ((Zle.left _ _).trans ((Zle.yi _ _ _).trans ((Zle.left _ _).trans (Zle.yi _ _ _)))) h)) zyz ?_
    rintro zBF zBG zyB zBH ⟨zyC,zyD,rfl,zyE⟩
    refine WL.a (d:=91) rfl rfl rfl (ye y3b rfl (y3Z (hz.pv2 .h1) zyB rfl)) ?_
    refine WL.b (dd:=92) rfl rfl rfl (zl (l:=[.tmp 91]) Try.call21 (.cons rfl .nil)) (.nil : Sel [stb z19 30 [(.int .i64 zp.1.fN),(.int .i64 zp.1.fD)],fz ((zM ++ zP) ++ z10),stb z17 30 [(.int .i64 zk.1.fN),(.int .i64 zk.1.fD)],stb z11 30 [(.int .i64 zi.1.fN),(.int .i64 zi.1.fD)],stb zG 43 [(.int .i64 z8.1.fN),(.int .i64 z8.1.fD),(.int .i64 ze.fN),(.int .i64 ze.fD)],stb zD 30 [(.int .i64 z8.1.fN),(.int .i64 z8.1.fD)]] [] [stb z19 30 [(.int .i64 zp.1.fN),(.int .i64 zp.1.fD)],fz ((zM ++ zP) ++ z10),stb z17 30 [(.int .i64 zk.1.fN),(.int .i64 zk.1.fD)],stb z11 30 [(.int .i64 zi.1.fN),(.int .i64 zi.1.fD)],stb zG 43 [(.int .i64 z8.1.fN),(.int .i64 z8.1.fD),(.int .i64 ze.fN),(.int .i64 ze.fD)],stb zD 30 [(.int .i64 z8.1.fN),(.int .i64 z8.1.fD)]]) (fun w hw=>by have pz:=(hz.call2 hw (.nil : Sel [stb z19 30 [(.int .i64 zp.1.fN),(.int .i64 zp.1.fD)],fz ((zM ++ zP) ++ z10),stb z17 30 [(.int .i64 zk.1.fN),(.int .i64 zk.1.fD)],stb z11 30 [(.int .i64 zi.1.fN),(.int .i64 zi.1.fD)],stb zG 43 [(.int .i64 z8.1.fN),(.int .i64 z8.1.fD),(.int .i64 ze.fN),(.int .i64 ze.fD)],stb zD 30 [(.int .i64 z8.1.fN),(.int .i64 z8.1.fD)]] [] [stb z19 30 [(.int .i64 zp.1.fN),(.int .i64 zp.1.fD)],fz ((zM ++ zP) ++ z10),stb z17 30 [(.int .i64 zk.1.fN),(.int .i64 zk.1.fD)],stb z11 30 [(.int .i64 zi.1.fN),(.int .i64 zi.1.fD)],stb zG 43 [(.int .i64 z8.1.fN),(.int .i64 z8.1.fD),(.int .i64 ze.fN),(.int .i64 ze.fD)],stb zD 30 [(.int .i64 z8.1.fN),(.int .i64 z8.1.fD)]]) .h1); exact y4V (Z:=_) (z9q:=zyC) (z9r:=zyD) (z7F:=(nth ([z2h,z2x] : List (List z1)) 0)) (r:=zu) w pz zyE zyA) ?_
    refine WL.a (d:=88) rfl rfl rfl (q_m rfl) ?_
    refine WL.a (d:=93) rfl rfl rfl (yb rfl rfl) ?_
    refine WL.a (d:=94) rfl rfl rfl (yb rfl rfl) ?_
    refine WL.new (dd:=21) rfl rfl rfl (yh (cs:=[(.int .i64 0),(.int .i64 0)]) yo rfl) ?_
    intro z1v _
    refine WL.yc rfl rfl (yd (vs:=[(.int .i64 zu.1.fN),(.int .i64 zu.1.fD)]) (ds:=[(.int .i64 zu.1.fN),(.int .i64 zu.1.fD)]) yl rfl rfl rfl rfl (y3 rfl (y3 rfl yf)) .here (Nat.le_of_ble_eq_true rfl) rfl) ?_
    refine WL.a (d:=22) rfl rfl rfl (q_z rfl) ?_
    refine WL.nil ?_
    refine WX.a ?_
    refine WC.b ?_
    obtain ⟨zyF,h⟩:=yp h
    obtain ⟨zx,zyG,h⟩:=zb h
    refine WC.a ?_
    refine WL.a (d:=96) rfl rfl rfl (q_m rfl) ?_
    refine WL.znth (dd:=97) rfl rfl (Z:=(Z ++ ((zM ++ zP) ++ z10))) (Pr:=(p39 (Z ++ ((zM ++ zP) ++ z10)))) y32 rfl rfl ((zbN.mono ((Zle.left _ _).trans ((Zle.yi _ _ _).trans ((Zle.left _ _).trans (Zle.yi _ _ _))))).weak (fun _ _ h=>yG ((Zle.left _ _).trans ((Zle.yi _ _ _).trans ((Zle.left _ _).trans (Zle.yi _ _ _)))) h)) zyF ?_
    rintro zBI zBJ zyH zBK ⟨zyI,zyJ,rfl,zyK⟩
    refine WL.a (d:=98) rfl rfl rfl (ye y3b rfl (y3Z (hz.pv2 .h2) zyH rfl)) ?_
    refine WL.b (dd:=99) rfl rfl rfl (zl (l:=[.tmp 98]) Try.call21 (.cons rfl .nil)) (.nil : Sel [stb z1v 30 [(.int .i64 zu.1.fN),(.int .i64 zu.1.fD)],stb z19 30 [(.int .i64 zp.1.fN),(.int .i64 zp.1.fD)],fz ((zM ++ zP) ++ z10),stb z17 30 [(.int .i64 zk.1.fN),(.int .i64 zk.1.fD)],stb z11 30 [(.int .i64 zi.1.fN),(.int .i64 zi.1.fD)],stb zG 43 [(.int .i64 z8.1.fN),(.int .i64 z8.1.fD),(.int .i64 ze.fN),(.int .i64 ze.fD)],stb zD 30 [(.int .i64 z8.1.fN),(.int .i64 z8.1.fD)]] [] [stb z1v 30 [(.int .i64 zu.1.fN),(.int .i64 zu.1.fD)],stb z19 30 [(.int .i64 zp.1.fN),(.int .i64 zp.1.fD)],fz ((zM ++ zP) ++ z10),stb z17 30 [(.int .i64 zk.1.fN),(.int .i64 zk.1.fD)],stb z11 30 [(.int .i64 zi.1.fN),(.int .i64 zi.1.fD)],stb zG 43 [(.int .i64 z8.1.fN),(.int .i64 z8.1.fD),(.int .i64 ze.fN),(.int .i64 ze.fD)],stb zD 30 [(.int .i64 z8.1.fN),(.int .i64 z8.1.fD)]]) (fun w hw=>by have pz:=(hz.call2 hw (.nil : Sel [stb z1v 30 [(.int .i64 zu.1.fN),(.int .i64 zu.1.fD)],stb z19 30 [(.int .i64 zp.1.fN),(.int .i64 zp.1.fD)],fz ((zM ++ zP) ++ z10),stb z17 30 [(.int .i64 zk.1.fN),(.int .i64 zk.1.fD)],stb z11 30 [(.int .i64 zi.1.fN),(.int .i64 zi.1.fD)],stb zG 43 [(.int .i64 z8.1.fN),(.int .i64 z8.1.fD),(.int .i64 ze.fN),(.int .i64 ze.fD)],stb zD 30 [(.int .i64 z8.1.fN),(.int .i64 z8.1.fD)]] [] [stb z1v 30 [(.int .i64 zu.1.fN),(.int .i64 zu.1.fD)],stb z19 30 [(.int .i64 zp.1.fN),(.int .i64 zp.1.fD)],fz ((zM ++ zP) ++ z10),stb z17 30 [(.int .i64 zk.1.fN),(.int .i64 zk.1.fD)],stb z11 30 [(.int .i64 zi.1.fN),(.int .i64 zi.1.fD)],stb zG 43 [(.int .i64 z8.1.fN),(.int .i64 z8.1.fD),(.int .i64 ze.fN),(.int .i64 ze.fD)],stb zD 30 [(.int .i64 z8.1.fN),(.int .i64 z8.1.fD)]]) .h2); exact y4V (Z:=_) (z9q:=zyI) (z9r:=zyJ) (z7F:=(nth ([z2h,z2x] : List (List z1)) 1)) (r:=zx) w pz zyK zyG) ?_
    refine WL.a (d:=95) rfl rfl rfl (q_m rfl) ?_
    refine WL.a (d:=100) rfl rfl rfl (yb rfl rfl) ?_
    refine WL.a (d:=101) rfl rfl rfl (yb rfl rfl) ?_
    refine WL.new (dd:=23) rfl rfl rfl (yh (cs:=[(.int .i64 0),(.int .i64 0)]) yo rfl) ?_
    intro z1E _
    refine WL.yc rfl rfl (yd (vs:=[(.int .i64 zx.1.fN),(.int .i64 zx.1.fD)]) (ds:=[(.int .i64 zx.1.fN),(.int .i64 zx.1.fD)]) yl rfl rfl rfl rfl (y3 rfl (y3 rfl yf)) .here (Nat.le_of_ble_eq_true rfl) rfl) ?_
    refine WL.a (d:=24) rfl rfl rfl (q_z rfl) ?_
    refine WL.nil ?_
    refine WX.a ?_
    refine WC.b ?_
    obtain ⟨zy,zyL,h⟩:=zb h
    refine WC.a ?_
    refine WL.a (d:=103) rfl rfl rfl (y6 (cs:=[(.int .i64 zu.1.fN),(.int .i64 zu.1.fD)]) y5 rfl rfl (y7 .h1)) ?_
    refine WL.a (d:=104) rfl rfl rfl (y6 (cs:=[(.int .i64 zx.1.fN),(.int .i64 zx.1.fD)]) y5 rfl rfl (y7 .here)) ?_
    refine WL.b (dd:=105) rfl rfl rfl (zl (l:=[.tmp 103,.tmp 104]) Try.call19 (.cons rfl (.cons rfl .nil))) (.nil : Sel [stb z1E 30 [(.int .i64 zx.1.fN),(.int .i64 zx.1.fD)],stb z1v 30 [(.int .i64 zu.1.fN),(.int .i64 zu.1.fD)],stb z19 30 [(.int .i64 zp.1.fN),(.int .i64 zp.1.fD)],fz ((zM ++ zP) ++ z10),stb z17 30 [(.int .i64 zk.1.fN),(.int .i64 zk.1.fD)],stb z11 30 [(.int .i64 zi.1.fN),(.int .i64 zi.1.fD)],stb zG 43 [(.int .i64 z8.1.fN),(.int .i64 z8.1.fD),(.int .i64 ze.fN),(.int .i64 ze.fD)],stb zD 30 [(.int .i64 z8.1.fN),(.int .i64 z8.1.fD)]] [] [stb z1E 30 [(.int .i64 zx.1.fN),(.int .i64 zx.1.fD)],stb z1v 30 [(.int .i64 zu.1.fN),(.int .i64 zu.1.fD)],stb z19 30 [(.int .i64 zp.1.fN),(.int .i64 zp.1.fD)],fz ((zM ++ zP) ++ z10),stb z17 30 [(.int .i64 zk.1.fN),(.int .i64 zk.1.fD)],stb z11 30 [(.int .i64 zi.1.fN),(.int .i64 zi.1.fD)],stb zG 43 [(.int .i64 z8.1.fN),(.int .i64 z8.1.fD),(.int .i64 ze.fN),(.int .i64 ze.fD)],stb zD 30 [(.int .i64 z8.1.fN),(.int .i64 z8.1.fD)]]) (fun w hw=>by have pz:=(hz.call2 hw (.nil : Sel [stb z1E 30 [(.int .i64 zx.1.fN),(.int .i64 zx.1.fD)],stb z1v 30 [(.int .i64 zu.1.fN),(.int .i64 zu.1.fD)],stb z19 30 [(.int .i64 zp.1.fN),(.int .i64 zp.1.fD)],fz ((zM ++ zP) ++ z10),stb z17 30 [(.int .i64 zk.1.fN),(.int .i64 zk.1.fD)],stb z11 30 [(.int .i64 zi.1.fN),(.int .i64 zi.1.fD)],stb zG 43 [(.int .i64 z8.1.fN),(.int .i64 z8.1.fD),(.int .i64 ze.fN),(.int .i64 ze.fD)],stb zD 30 [(.int .i64 z8.1.fN),(.int .i64 z8.1.fD)]] [] [stb z1E 30 [(.int .i64 zx.1.fN),(.int .i64 zx.1.fD)],stb z1v 30 [(.int .i64 zu.1.fN),(.int .i64 zu.1.fD)],stb z19 30 [(.int .i64 zp.1.fN),(.int .i64 zp.1.fD)],fz ((zM ++ zP) ++ z10),stb z17 30 [(.int .i64 zk.1.fN),(.int .i64 zk.1.fD)],stb z11 30 [(.int .i64 zi.1.fN),(.int .i64 zi.1.fD)],stb zG 43 [(.int .i64 z8.1.fN),(.int .i64 z8.1.fD),(.int .i64 ze.fN),(.int .i64 ze.fD)],stb zD 30 [(.int .i64 z8.1.fN),(.int .i64 z8.1.fD)]]) .h3); exact y3n (Z:=_)  (z3F:=zu.1) (z3G:=zx.1) (r:=zy) w pz  zyL) ?_
    refine WL.a (d:=102) rfl rfl rfl (q_m rfl) ?_
    refine WL.a (d:=106) rfl rfl rfl (yb rfl rfl) ?_
    refine WL.a (d:=107) rfl rfl rfl (yb rfl rfl) ?_
    refine WL.new (dd:=25) rfl rfl rfl (yh (cs:=[(.int .i64 0),(.int .i64 0)]) yo rfl) ?_
    intro z1U _
    refine WL.yc rfl rfl (yd (vs:=[(.int .i64 zy.1.fN),(.int .i64 zy.1.fD)]) (ds:=[(.int .i64 zy.1.fN),(.int .i64 zy.1.fD)]) yl rfl rfl rfl rfl (y3 rfl (y3 rfl yf)) .here (Nat.le_of_ble_eq_true rfl) rfl) ?_
    refine WL.a (d:=26) rfl rfl rfl (q_z rfl) ?_
    refine WL.nil ?_
    refine WX.a ?_
    refine WC.b ?_
    refine WC.b ?_
    obtain ⟨zmR,zqI,h⟩:=zb h
    refine WC.a ?_
    refine WL.a (d:=108) rfl rfl rfl (q_m rfl) ?_
    refine WL.a (d:=109) rfl rfl rfl (q_m rfl) ?_
    refine WL.a (d:=110) rfl rfl rfl (y1d rfl rfl rfl) ?_
    refine WL.a (d:=111) rfl rfl rfl (q_m rfl) ?_
    refine WL.a (d:=112) rfl rfl rfl (y1d rfl rfl rfl) ?_
    refine WL.a (d:=113) rfl rfl rfl (y2L rfl rfl) ?_
    refine WL.a (d:=114) rfl rfl rfl (q_m rfl) ?_
    refine WL.yF True [(11,(.slice (some ⟨z7v,0,none⟩) (([z2h,z2x] : List (List z1)).length) 2)),(12,(.pointer (some ⟨zD,0,none⟩))),(14,(.pointer (some ⟨zG,0,none⟩))),(15,(.pointer (some ⟨z11,0,none⟩))),(17,(.pointer (some ⟨z17,0,none⟩))),(18,(.int .i64 zk.2)),(19,(.pointer (some ⟨z19,0,none⟩))),(122,(.bool zmR))] [stb z1U 30 [(.int .i64 zy.1.fN),(.int .i64 zy.1.fD)],stb z1E 30 [(.int .i64 zx.1.fN),(.int .i64 zx.1.fD)],stb z1v 30 [(.int .i64 zu.1.fN),(.int .i64 zu.1.fD)],stb z19 30 [(.int .i64 zp.1.fN),(.int .i64 zp.1.fD)],fz ((zM ++ zP) ++ z10),stb z17 30 [(.int .i64 zk.1.fN),(.int .i64 zk.1.fD)],stb z11 30 [(.int .i64 zi.1.fN),(.int .i64 zi.1.fD)],stb zG 43 [(.int .i64 z8.1.fN),(.int .i64 z8.1.fD),(.int .i64 ze.fN),(.int .i64 ze.fD)],stb zD 30 [(.int .i64 z8.1.fN),(.int .i64 z8.1.fD)]] 8 ?_ (fun _=>?_)
    ·rcases Bool.eq_false_or_eq_true (decide ((i64 ((i64 (zu.2 + zx.2)) + zy.2)) ≠ 0)) with hb' | hb'
     ·have zqJ:=hb'; clear hb'
      have zmZ:=yj zqI zqJ
      replace zmZ:=Option.some.inj zmZ
      refine WL.pin (i:=114) rfl zqJ ?_
      refine WL.e rfl rfl rfl ?_
      refine WL.e rfl rfl rfl ?_
      refine WL.e rfl rfl rfl ?_
      refine WL.e rfl rfl rfl ?_
      refine WL.e rfl rfl rfl ?_
      refine WL.e rfl rfl rfl ?_
      refine WL.e rfl rfl rfl ?_
      refine WL.a (d:=122) rfl rfl rfl (ys rfl rfl) ?_
      exact WL.ya () trivial (.cons rfl (.cons rfl (.cons rfl (.cons rfl (.cons rfl (.cons rfl (.cons rfl (.cons (zt zmZ) .nil)))))))) (.cons .here (.cons .here (.cons .here (.cons .here (.cons .here (.cons .here (.cons .here (.cons .here (.cons .here .nil)))))))))
     ·have zqK:=hb'; clear hb'
      have zgf:=yk zqI zqK
      obtain ⟨zmQ,zyM,zgf⟩:=zb zgf
      replace zgf:=Option.some.inj zgf
      refine WL.pin (i:=114) rfl zqK ?_
      refine WL.a (d:=115) rfl rfl rfl (q_m rfl) ?_
      refine WL.a (d:=116) rfl rfl rfl (y3g rfl rfl) ?_
      refine WL.a (d:=117) rfl rfl rfl (y6 (cs:=[(.int .i64 zy.1.fN),(.int .i64 zy.1.fD)]) y5 rfl rfl (y7 .here)) ?_
      refine WL.a (d:=118) rfl rfl rfl (y6 (cs:=[(.int .i64 z8.1.fN),(.int .i64 z8.1.fD)]) y5 rfl rfl (y7 (.there .h7))) ?_
      refine WL.b (dd:=119) rfl rfl rfl (zl (l:=[.tmp 117,.tmp 118]) Try.call18 (.cons rfl (.cons rfl .nil))) (.nil : Sel [stb z1U 30 [(.int .i64 zy.1.fN),(.int .i64 zy.1.fD)],stb z1E 30 [(.int .i64 zx.1.fN),(.int .i64 zx.1.fD)],stb z1v 30 [(.int .i64 zu.1.fN),(.int .i64 zu.1.fD)],stb z19 30 [(.int .i64 zp.1.fN),(.int .i64 zp.1.fD)],fz ((zM ++ zP) ++ z10),stb z17 30 [(.int .i64 zk.1.fN),(.int .i64 zk.1.fD)],stb z11 30 [(.int .i64 zi.1.fN),(.int .i64 zi.1.fD)],stb zG 43 [(.int .i64 z8.1.fN),(.int .i64 z8.1.fD),(.int .i64 ze.fN),(.int .i64 ze.fD)],stb zD 30 [(.int .i64 z8.1.fN),(.int .i64 z8.1.fD)]] [] [stb z1U 30 [(.int .i64 zy.1.fN),(.int .i64 zy.1.fD)],stb z1E 30 [(.int .i64 zx.1.fN),(.int .i64 zx.1.fD)],stb z1v 30 [(.int .i64 zu.1.fN),(.int .i64 zu.1.fD)],stb z19 30 [(.int .i64 zp.1.fN),(.int .i64 zp.1.fD)],fz ((zM ++ zP) ++ z10),stb z17 30 [(.int .i64 zk.1.fN),(.int .i64 zk.1.fD)],stb z11 30 [(.int .i64 zi.1.fN),(.int .i64 zi.1.fD)],stb zG 43 [(.int .i64 z8.1.fN),(.int .i64 z8.1.fD),(.int .i64 ze.fN),(.int .i64 ze.fD)],stb zD 30 [(.int .i64 z8.1.fN),(.int .i64 z8.1.fD)]]) (fun w hw=>by have pz:=(hz.call2 hw (.nil : Sel [stb z1U 30 [(.int .i64 zy.1.fN),(.int .i64 zy.1.fD)],stb z1E 30 [(.int .i64 zx.1.fN),(.int .i64 zx.1.fD)],stb z1v 30 [(.int .i64 zu.1.fN),(.int .i64 zu.1.fD)],stb z19 30 [(.int .i64 zp.1.fN),(.int .i64 zp.1.fD)],fz ((zM ++ zP) ++ z10),stb z17 30 [(.int .i64 zk.1.fN),(.int .i64 zk.1.fD)],stb z11 30 [(.int .i64 zi.1.fN),(.int .i64 zi.1.fD)],stb zG 43 [(.int .i64 z8.1.fN),(.int .i64 z8.1.fD),(.int .i64 ze.fN),(.int .i64 ze.fD)],stb zD 30 [(.int .i64 z8.1.fN),(.int .i64 z8.1.fD)]] [] [stb z1U 30 [(.int .i64 zy.1.fN),(.int .i64 zy.1.fD)],stb z1E 30 [(.int .i64 zx.1.fN),(.int .i64 zx.1.fD)],stb z1v 30 [(.int .i64 zu.1.fN),(.int .i64 zu.1.fD)],stb z19 30 [(.int .i64 zp.1.fN),(.int .i64 zp.1.fD)],fz ((zM ++ zP) ++ z10),stb z17 30 [(.int .i64 zk.1.fN),(.int .i64 zk.1.fD)],stb z11 30 [(.int .i64 zi.1.fN),(.int .i64 zi.1.fD)],stb zG 43 [(.int .i64 z8.1.fN),(.int .i64 z8.1.fD),(.int .i64 ze.fN),(.int .i64 ze.fD)],stb zD 30 [(.int .i64 z8.1.fN),(.int .i64 z8.1.fD)]]) .h4); exact y1Y (Z:=_)  (z2m:=zy.1) (z2n:=z8.1) (r:=zmQ) w pz  zyM) ?_
      refine WL.a (d:=120) rfl rfl rfl (y3f rfl rfl) ?_
      refine WL.a (d:=121) rfl rfl rfl (q_bneq Try.underlying4 rfl rfl) ?_
      refine WL.a (d:=122) rfl rfl rfl (yr rfl rfl) ?_
      exact WL.ya () trivial (.cons rfl (.cons rfl (.cons rfl (.cons rfl (.cons rfl (.cons rfl (.cons rfl (.cons (zt zgf) .nil)))))))) (.cons .here (.cons .here (.cons .here (.cons .here (.cons .here (.cons .here (.cons .here (.cons .here (.cons .here .nil)))))))))
    ·skip
     refine WL.nil ?_
     refine WX.a ?_
     refine WC.cond rfl (fun zn0=>?_) (fun zn0=>?_)
     ·replace h:=yj h zn0
      refine WC.b ?_
      refine WC.a ?_
      refine WL.a (d:=10) rfl rfl rfl (q_z rfl) ?_
      refine WL.nil ?_
      refine WX.a ?_
      refine WC.ret ?_
      refine WX.y8 ?_
      obtain rfl:=Option.some.inj h
      refine WX.y9 Try.results4 (.tmp rfl .nil) (fun w hw=>?_)
      exact ⟨((zM ++ zP) ++ z10),yI rfl,trivial,hw.sub (.cons .h4 .nil)⟩
     ·replace h:=yk h zn0
      refine WC.skip ?_
      refine WX.a ?_
      refine WC.b ?_
      refine WC.b ?_
      refine WC.a ?_
      refine WL.a (d:=123) rfl rfl rfl (q_m rfl) ?_
      refine WL.a (d:=124) rfl rfl rfl (y2L rfl rfl) ?_
      refine WL.nil ?_
      refine WX.a ?_
      refine WC.cond rfl (fun zn1=>?_) (fun zn1=>?_)
      ·replace h:=yj h zn1
       refine WC.b ?_
       obtain ⟨zmT,zqL,h⟩:=zb h
       refine WC.a ?_
       refine WL.a (d:=125) rfl rfl rfl (q_m rfl) ?_
       refine WL.a (d:=126) rfl rfl rfl (y3g rfl rfl) ?_
       refine WL.a (d:=127) rfl rfl rfl (q_m rfl) ?_
       refine WL.y5R (fun (zeC : Zp)=>Zle (Z ++ ((zM ++ zP) ++ z10)) (Z ++ zeC)) (fun (zeC : Zp)=>[(129,(.bool zmT))]) (fun (zeC : Zp)=>[stb z1U 30 [(.int .i64 zy.1.fN),(.int .i64 zy.1.fD)],stb z1E 30 [(.int .i64 zx.1.fN),(.int .i64 zx.1.fD)],stb z1v 30 [(.int .i64 zu.1.fN),(.int .i64 zu.1.fD)],stb z19 30 [(.int .i64 zp.1.fN),(.int .i64 zp.1.fD)],fz zeC,stb z17 30 [(.int .i64 zk.1.fN),(.int .i64 zk.1.fD)],stb z11 30 [(.int .i64 zi.1.fN),(.int .i64 zi.1.fD)],stb zG 43 [(.int .i64 z8.1.fN),(.int .i64 z8.1.fD),(.int .i64 ze.fN),(.int .i64 ze.fD)],stb zD 30 [(.int .i64 z8.1.fN),(.int .i64 z8.1.fD)]]) 2 ?_ (fun zeC zBL=>?_)
       ·rcases Bool.eq_false_or_eq_true (decide (zk.2 = 6)) with hb' | hb'
        ·have zqM:=hb'; clear hb'
         have zgg:=yj zqL zqM
         obtain ⟨zmS,zyN,zgg⟩:=zb zgg
         replace zgg:=Option.some.inj zgg
         refine WL.pin (i:=127) rfl zqM ?_
         refine WL.y2A (dd:=128) rfl rfl rfl (zl (l:=[]) Try.call17 .nil) (.nil : Sel [stb z1U 30 [(.int .i64 zy.1.fN),(.int .i64 zy.1.fD)],stb z1E 30 [(.int .i64 zx.1.fN),(.int .i64 zx.1.fD)],stb z1v 30 [(.int .i64 zu.1.fN),(.int .i64 zu.1.fD)],stb z19 30 [(.int .i64 zp.1.fN),(.int .i64 zp.1.fD)],fz ((zM ++ zP) ++ z10),stb z17 30 [(.int .i64 zk.1.fN),(.int .i64 zk.1.fD)],stb z11 30 [(.int .i64 zi.1.fN),(.int .i64 zi.1.fD)],stb zG 43 [(.int .i64 z8.1.fN),(.int .i64 z8.1.fD),(.int .i64 ze.fN),(.int .i64 ze.fD)],stb zD 30 [(.int .i64 z8.1.fN),(.int .i64 z8.1.fD)]] [] [stb z1U 30 [(.int .i64 zy.1.fN),(.int .i64 zy.1.fD)],stb z1E 30 [(.int .i64 zx.1.fN),(.int .i64 zx.1.fD)],stb z1v 30 [(.int .i64 zu.1.fN),(.int .i64 zu.1.fD)],stb z19 30 [(.int .i64 zp.1.fN),(.int .i64 zp.1.fD)],fz ((zM ++ zP) ++ z10),stb z17 30 [(.int .i64 zk.1.fN),(.int .i64 zk.1.fD)],stb z11 30 [(.int .i64 zi.1.fN),(.int .i64 zi.1.fD)],stb zG 43 [(.int .i64 z8.1.fN),(.int .i64 z8.1.fD),(.int .i64 ze.fN),(.int .i64 ze.fD)],stb zD 30 [(.int .i64 z8.1.fN),(.int .i64 z8.1.fD)]]) (fun w hw=>by have pz:=(hz.call2 hw (.nil : Sel [stb z1U 30 [(.int .i64 zy.1.fN),(.int .i64 zy.1.fD)],stb z1E 30 [(.int .i64 zx.1.fN),(.int .i64 zx.1.fD)],stb z1v 30 [(.int .i64 zu.1.fN),(.int .i64 zu.1.fD)],stb z19 30 [(.int .i64 zp.1.fN),(.int .i64 zp.1.fD)],fz ((zM ++ zP) ++ z10),stb z17 30 [(.int .i64 zk.1.fN),(.int .i64 zk.1.fD)],stb z11 30 [(.int .i64 zi.1.fN),(.int .i64 zi.1.fD)],stb zG 43 [(.int .i64 z8.1.fN),(.int .i64 z8.1.fD),(.int .i64 ze.fN),(.int .i64 ze.fD)],stb zD 30 [(.int .i64 z8.1.fN),(.int .i64 z8.1.fD)]] [] [stb z1U 30 [(.int .i64 zy.1.fN),(.int .i64 zy.1.fD)],stb z1E 30 [(.int .i64 zx.1.fN),(.int .i64 zx.1.fD)],stb z1v 30 [(.int .i64 zu.1.fN),(.int .i64 zu.1.fD)],stb z19 30 [(.int .i64 zp.1.fN),(.int .i64 zp.1.fD)],fz ((zM ++ zP) ++ z10),stb z17 30 [(.int .i64 zk.1.fN),(.int .i64 zk.1.fD)],stb z11 30 [(.int .i64 zi.1.fN),(.int .i64 zi.1.fD)],stb zG 43 [(.int .i64 z8.1.fN),(.int .i64 z8.1.fD),(.int .i64 ze.fN),(.int .i64 ze.fD)],stb zD 30 [(.int .i64 z8.1.fN),(.int .i64 z8.1.fD)]]) .h4); exact y78 (Z:=_)   (r:=zmS) w pz  zyN) ?_
         rintro zyO _
         refine WL.merge .here .h4 ?_
         refine WL.a (d:=129) rfl rfl rfl (ys rfl rfl) ?_
         exact WL.ya (G:=Zp) (((zM ++ zP) ++ z10) ++ zyO) ((Zle.left _ _).trans (Zle.yi _ _ _)) (.cons (zt zgg) .nil) (.cons .h1 (.cons .h1 (.cons .h1 (.cons .h1 (.cons .here (.cons .here (.cons .here (.cons .here (.cons .here .nil)))))))))
        ·have zqN:=hb'; clear hb'
         have zn2:=yk zqL zqN
         replace zn2:=Option.some.inj zn2
         refine WL.pin (i:=127) rfl zqN ?_
         refine WL.e rfl rfl rfl ?_
         refine WL.a (d:=129) rfl rfl rfl (yr rfl rfl) ?_
         exact WL.ya (G:=Zp) ((zM ++ zP) ++ z10) (Zle.refl _) (.cons (zt zn2) .nil) (.cons .here (.cons .here (.cons .here (.cons .here (.cons .here (.cons .here (.cons .here (.cons .here (.cons .here .nil)))))))))
       ·skip
        refine WL.a (d:=10) rfl rfl rfl (q_z rfl) ?_
        refine WL.nil ?_
        refine WX.a ?_
        refine WC.ret ?_
        refine WX.y8 ?_
        obtain rfl:=Option.some.inj h
        refine WX.y9 Try.results4 (.tmp rfl .nil) (fun w hw=>?_)
        exact ⟨zeC,yI rfl,trivial,hw.sub (.cons .h4 .nil)⟩
      ·replace h:=yk h zn1
       refine WC.skip ?_
       refine WX.a ?_
       refine WC.b ?_
       obtain ⟨zyP,h⟩:=yp h
       obtain ⟨zA,zyQ,h⟩:=zb h
       refine WC.y1e (fun i=>[9].contains i) [] rfl ?_
       refine WD.a (i:=0) (d:=131) (by kernel_rfl) rfl (z6 (by kernel_rfl)) (z7 (by kernel_rfl)) rfl rfl rfl (fun _=>q_m rfl) ?_
       refine WD.znth (j:=1) (dd:=132) (by kernel_rfl) rfl (z6 (by kernel_rfl)) (z7 (by kernel_rfl)) rfl rfl (Z:=(Z ++ ((zM ++ zP) ++ z10))) (Pr:=(p39 (Z ++ ((zM ++ zP) ++ z10)))) y32 rfl rfl ((zbN.mono ((Zle.left _ _).trans ((Zle.yi _ _ _).trans ((Zle.left _ _).trans (Zle.yi _ _ _))))).weak (fun _ _ h=>yG ((Zle.left _ _).trans ((Zle.yi _ _ _).trans ((Zle.left _ _).trans (Zle.yi _ _ _)))) h)) zyP ?_
       rintro zBM zBN zyR zBO ⟨zyS,zyT,rfl,zyU⟩
       refine WD.e (i:=2) (d:=133) (by kernel_rfl) rfl (z6 (by kernel_rfl)) (z7 (by kernel_rfl)) rfl rfl rfl (ye y3b rfl (y3Z (hz.pv2 .h4) zyR rfl)) ?_
       refine WD.e (i:=3) (d:=134) (by kernel_rfl) rfl (z6 (by kernel_rfl)) (z7 (by kernel_rfl)) rfl rfl rfl (y6 (cs:=[(.int .i64 zi.1.fN),(.int .i64 zi.1.fD)]) y5 rfl rfl (y7 .h6)) ?_
       refine WD.c (i:=4) (d:=135) (by kernel_rfl) rfl (z6 (by kernel_rfl)) (z7 (by kernel_rfl)) rfl rfl rfl (zl (l:=[.tmp 133,.tmp 134]) Try.call22 (.cons rfl (.cons rfl .nil))) (fun w hw=>by have pz:=(hz.call2 hw (.nil : Sel [stb z1U 30 [(.int .i64 zy.1.fN),(.int .i64 zy.1.fD)],stb z1E 30 [(.int .i64 zx.1.fN),(.int .i64 zx.1.fD)],stb z1v 30 [(.int .i64 zu.1.fN),(.int .i64 zu.1.fD)],stb z19 30 [(.int .i64 zp.1.fN),(.int .i64 zp.1.fD)],fz ((zM ++ zP) ++ z10),stb z17 30 [(.int .i64 zk.1.fN),(.int .i64 zk.1.fD)],stb z11 30 [(.int .i64 zi.1.fN),(.int .i64 zi.1.fD)],stb zG 43 [(.int .i64 z8.1.fN),(.int .i64 z8.1.fD),(.int .i64 ze.fN),(.int .i64 ze.fD)],stb zD 30 [(.int .i64 z8.1.fN),(.int .i64 z8.1.fD)]] [] [stb z1U 30 [(.int .i64 zy.1.fN),(.int .i64 zy.1.fD)],stb z1E 30 [(.int .i64 zx.1.fN),(.int .i64 zx.1.fD)],stb z1v 30 [(.int .i64 zu.1.fN),(.int .i64 zu.1.fD)],stb z19 30 [(.int .i64 zp.1.fN),(.int .i64 zp.1.fD)],fz ((zM ++ zP) ++ z10),stb z17 30 [(.int .i64 zk.1.fN),(.int .i64 zk.1.fD)],stb z11 30 [(.int .i64 zi.1.fN),(.int .i64 zi.1.fD)],stb zG 43 [(.int .i64 z8.1.fN),(.int .i64 z8.1.fD),(.int .i64 ze.fN),(.int .i64 ze.fD)],stb zD 30 [(.int .i64 z8.1.fN),(.int .i64 z8.1.fD)]]) .h4); exact y5K (Z:=_) (z93:=zyS) (z94:=zyT) (z1w:=(nth ([z2h,z2x] : List (List z1)) 0)) (z2d:=zi.1) (r:=zA) w pz zyU zyQ) ?_
       refine WD.a (i:=5) (d:=130) (by kernel_rfl) rfl (z6 (by kernel_rfl)) (z7 (by kernel_rfl)) rfl rfl rfl (fun _=>q_m rfl) ?_
       refine WD.a (i:=6) (d:=136) (by kernel_rfl) rfl (z6 (by kernel_rfl)) (z7 (by kernel_rfl)) rfl rfl rfl (fun _=>yb rfl rfl) ?_
       refine WD.a (i:=7) (d:=137) (by kernel_rfl) rfl (z6 (by kernel_rfl)) (z7 (by kernel_rfl)) rfl rfl rfl (fun _=>yb rfl rfl) ?_
       refine WD.new (i:=8) (dd:=27) rfl (by kernel_rfl) rfl rfl rfl (yh (cs:=[(.int .i64 0),(.int .i64 0)]) yo rfl) (fun h'=>absurd h' (by decide)) ?_
       intro z2o _
       refine WD.forced0 (i:=9) rfl (by kernel_rfl) rfl rfl rfl (Sin.of .nil) (yd (vs:=[(.int .i64 zA.1.fN),(.int .i64 zA.1.fD)]) (ds:=[(.int .i64 zA.1.fN),(.int .i64 zA.1.fD)]) yl rfl rfl rfl rfl (y3 rfl (y3 rfl yf)) .here (Nat.le_of_ble_eq_true rfl) rfl) ?_
       refine WD.a (i:=10) (d:=22) (by kernel_rfl) rfl (z6 (by kernel_rfl)) (z7 (by kernel_rfl)) rfl rfl rfl (fun _=>q_z rfl) ?_
       refine WD.done (by kernel_rfl) ?_
       refine WX.a ?_
       refine WC.b ?_
       obtain ⟨zyV,h⟩:=yp h
       obtain ⟨zB,zyW,h⟩:=zb h
       refine WC.y1e (fun i=>[9].contains i) [] rfl ?_
       refine WD.a (i:=0) (d:=139) (by kernel_rfl) rfl (z6 (by kernel_rfl)) (z7 (by kernel_rfl)) rfl rfl rfl (fun _=>q_m rfl) ?_
       refine WD.znth (j:=1) (dd:=140) (by kernel_rfl) rfl (z6 (by kernel_rfl)) (z7 (by kernel_rfl)) rfl rfl (Z:=(Z ++ ((zM ++ zP) ++ z10))) (Pr:=(p39 (Z ++ ((zM ++ zP) ++ z10)))) y32 rfl rfl ((zbN.mono ((Zle.left _ _).trans ((Zle.yi _ _ _).trans ((Zle.left _ _).trans (Zle.yi _ _ _))))).weak (fun _ _ h=>yG ((Zle.left _ _).trans ((Zle.yi _ _ _).trans ((Zle.left _ _).trans (Zle.yi _ _ _)))) h)) zyV ?_
       rintro zBP zBQ zyX zBR ⟨zyY,zyZ,rfl,zz0⟩
       refine WD.e (i:=2) (d:=141) (by kernel_rfl) rfl (z6 (by kernel_rfl)) (z7 (by kernel_rfl)) rfl rfl rfl (ye y3b rfl (y3Z (hz.pv2 .h5) zyX rfl)) ?_
       refine WD.e (i:=3) (d:=142) (by kernel_rfl) rfl (z6 (by kernel_rfl)) (z7 (by kernel_rfl)) rfl rfl rfl (y6 (cs:=[(.int .i64 zi.1.fN),(.int .i64 zi.1.fD)]) y5 rfl rfl (y7 .h7)) ?_
       refine WD.c (i:=4) (d:=143) (by kernel_rfl) rfl (z6 (by kernel_rfl)) (z7 (by kernel_rfl)) rfl rfl rfl (zl (l:=[.tmp 141,.tmp 142]) Try.call22 (.cons rfl (.cons rfl .nil))) (fun w hw=>by have pz:=(hz.call2 hw (.nil : Sel [stb z2o 30 [(.int .i64 zA.1.fN),(.int .i64 zA.1.fD)],stb z1U 30 [(.int .i64 zy.1.fN),(.int .i64 zy.1.fD)],stb z1E 30 [(.int .i64 zx.1.fN),(.int .i64 zx.1.fD)],stb z1v 30 [(.int .i64 zu.1.fN),(.int .i64 zu.1.fD)],stb z19 30 [(.int .i64 zp.1.fN),(.int .i64 zp.1.fD)],fz ((zM ++ zP) ++ z10),stb z17 30 [(.int .i64 zk.1.fN),(.int .i64 zk.1.fD)],stb z11 30 [(.int .i64 zi.1.fN),(.int .i64 zi.1.fD)],stb zG 43 [(.int .i64 z8.1.fN),(.int .i64 z8.1.fD),(.int .i64 ze.fN),(.int .i64 ze.fD)],stb zD 30 [(.int .i64 z8.1.fN),(.int .i64 z8.1.fD)]] [] [stb z2o 30 [(.int .i64 zA.1.fN),(.int .i64 zA.1.fD)],stb z1U 30 [(.int .i64 zy.1.fN),(.int .i64 zy.1.fD)],stb z1E 30 [(.int .i64 zx.1.fN),(.int .i64 zx.1.fD)],stb z1v 30 [(.int .i64 zu.1.fN),(.int .i64 zu.1.fD)],stb z19 30 [(.int .i64 zp.1.fN),(.int .i64 zp.1.fD)],fz ((zM ++ zP) ++ z10),stb z17 30 [(.int .i64 zk.1.fN),(.int .i64 zk.1.fD)],stb z11 30 [(.int .i64 zi.1.fN),(.int .i64 zi.1.fD)],stb zG 43 [(.int .i64 z8.1.fN),(.int .i64 z8.1.fD),(.int .i64 ze.fN),(.int .i64 ze.fD)],stb zD 30 [(.int .i64 z8.1.fN),(.int .i64 z8.1.fD)]]) .h5); exact y5K (Z:=_) (z93:=zyY) (z94:=zyZ) (z1w:=(nth ([z2h,z2x] : List (List z1)) 1)) (z2d:=zi.1) (r:=zB) w pz zz0 zyW) ?_
       refine WD.a (i:=5) (d:=138) (by kernel_rfl) rfl (z6 (by kernel_rfl)) (z7 (by kernel_rfl)) rfl rfl rfl (fun _=>q_m rfl) ?_
       refine WD.a (i:=6) (d:=144) (by kernel_rfl) rfl (z6 (by kernel_rfl)) (z7 (by kernel_rfl)) rfl rfl rfl (fun _=>yb rfl rfl) ?_
       refine WD.a (i:=7) (d:=145) (by kernel_rfl) rfl (z6 (by kernel_rfl)) (z7 (by kernel_rfl)) rfl rfl rfl (fun _=>yb rfl rfl) ?_
       refine WD.new (i:=8) (dd:=28) rfl (by kernel_rfl) rfl rfl rfl (yh (cs:=[(.int .i64 0),(.int .i64 0)]) yo rfl) (fun h'=>absurd h' (by decide)) ?_
       intro z2t _
       refine WD.forced0 (i:=9) rfl (by kernel_rfl) rfl rfl rfl (Sin.of .nil) (yd (vs:=[(.int .i64 zB.1.fN),(.int .i64 zB.1.fD)]) (ds:=[(.int .i64 zB.1.fN),(.int .i64 zB.1.fD)]) yl rfl rfl rfl rfl (y3 rfl (y3 rfl yf)) .here (Nat.le_of_ble_eq_true rfl) rfl) ?_
       refine WD.a (i:=10) (d:=24) (by kernel_rfl) rfl (z6 (by kernel_rfl)) (z7 (by kernel_rfl)) rfl rfl rfl (fun _=>q_z rfl) ?_
       refine WD.done (by kernel_rfl) ?_
       refine WX.a ?_
       refine WC.b ?_
       obtain ⟨zF,zz1,h⟩:=zb h
       refine WC.a ?_
       refine WL.a (d:=147) rfl rfl rfl (y6 (cs:=[(.int .i64 zA.1.fN),(.int .i64 zA.1.fD)]) y5 rfl rfl (y7 .h1)) ?_
       refine WL.a (d:=148) rfl rfl rfl (y6 (cs:=[(.int .i64 zB.1.fN),(.int .i64 zB.1.fD)]) y5 rfl rfl (y7 .here)) ?_
       refine WL.b (dd:=149) rfl rfl rfl (zl (l:=[.tmp 147,.tmp 148]) Try.call19 (.cons rfl (.cons rfl .nil))) (.nil : Sel [stb z2t 30 [(.int .i64 zB.1.fN),(.int .i64 zB.1.fD)],stb z2o 30 [(.int .i64 zA.1.fN),(.int .i64 zA.1.fD)],stb z1U 30 [(.int .i64 zy.1.fN),(.int .i64 zy.1.fD)],stb z1E 30 [(.int .i64 zx.1.fN),(.int .i64 zx.1.fD)],stb z1v 30 [(.int .i64 zu.1.fN),(.int .i64 zu.1.fD)],stb z19 30 [(.int .i64 zp.1.fN),(.int .i64 zp.1.fD)],fz ((zM ++ zP) ++ z10),stb z17 30 [(.int .i64 zk.1.fN),(.int .i64 zk.1.fD)],stb z11 30 [(.int .i64 zi.1.fN),(.int .i64 zi.1.fD)],stb zG 43 [(.int .i64 z8.1.fN),(.int .i64 z8.1.fD),(.int .i64 ze.fN),(.int .i64 ze.fD)],stb zD 30 [(.int .i64 z8.1.fN),(.int .i64 z8.1.fD)]] [] [stb z2t 30 [(.int .i64 zB.1.fN),(.int .i64 zB.1.fD)],stb z2o 30 [(.int .i64 zA.1.fN),(.int .i64 zA.1.fD)],stb z1U 30 [(.int .i64 zy.1.fN),(.int .i64 zy.1.fD)],stb z1E 30 [(.int .i64 zx.1.fN),(.int .i64 zx.1.fD)],stb z1v 30 [(.int .i64 zu.1.fN),(.int .i64 zu.1.fD)],stb z19 30 [(.int .i64 zp.1.fN),(.int .i64 zp.1.fD)],fz ((zM ++ zP) ++ z10),stb z17 30 [(.int .i64 zk.1.fN),(.int .i64 zk.1.fD)],stb z11 30 [(.int .i64 zi.1.fN),(.int .i64 zi.1.fD)],stb zG 43 [(.int .i64 z8.1.fN),(.int .i64 z8.1.fD),(.int .i64 ze.fN),(.int .i64 ze.fD)],stb zD 30 [(.int .i64 z8.1.fN),(.int .i64 z8.1.fD)]]) (fun w hw=>by have pz:=(hz.call2 hw (.nil : Sel [stb z2t 30 [(.int .i64 zB.1.fN),(.int .i64 zB.1.fD)],stb z2o 30 [(.int .i64 zA.1.fN),(.int .i64 zA.1.fD)],stb z1U 30 [(.int .i64 zy.1.fN),(.int .i64 zy.1.fD)],stb z1E 30 [(.int .i64 zx.1.fN),(.int .i64 zx.1.fD)],stb z1v 30 [(.int .i64 zu.1.fN),(.int .i64 zu.1.fD)],stb z19 30 [(.int .i64 zp.1.fN),(.int .i64 zp.1.fD)],fz ((zM ++ zP) ++ z10),stb z17 30 [(.int .i64 zk.1.fN),(.int .i64 zk.1.fD)],stb z11 30 [(.int .i64 zi.1.fN),(.int .i64 zi.1.fD)],stb zG 43 [(.int .i64 z8.1.fN),(.int .i64 z8.1.fD),(.int .i64 ze.fN),(.int .i64 ze.fD)],stb zD 30 [(.int .i64 z8.1.fN),(.int .i64 z8.1.fD)]] [] [stb z2t 30 [(.int .i64 zB.1.fN),(.int .i64 zB.1.fD)],stb z2o 30 [(.int .i64 zA.1.fN),(.int .i64 zA.1.fD)],stb z1U 30 [(.int .i64 zy.1.fN),(.int .i64 zy.1.fD)],stb z1E 30 [(.int .i64 zx.1.fN),(.int .i64 zx.1.fD)],stb z1v 30 [(.int .i64 zu.1.fN),(.int .i64 zu.1.fD)],stb z19 30 [(.int .i64 zp.1.fN),(.int .i64 zp.1.fD)],fz ((zM ++ zP) ++ z10),stb z17 30 [(.int .i64 zk.1.fN),(.int .i64 zk.1.fD)],stb z11 30 [(.int .i64 zi.1.fN),(.int .i64 zi.1.fD)],stb zG 43 [(.int .i64 z8.1.fN),(.int .i64 z8.1.fD),(.int .i64 ze.fN),(.int .i64 ze.fD)],stb zD 30 [(.int .i64 z8.1.fN),(.int .i64 z8.1.fD)]]) .h6); exact y3n (Z:=_)  (z3F:=zA.1) (z3G:=zB.1) (r:=zF) w pz  zz1) ?_
       refine WL.a (d:=146) rfl rfl rfl (q_m rfl) ?_
       refine WL.a (d:=150) rfl rfl rfl (yb rfl rfl) ?_
       refine WL.a (d:=151) rfl rfl rfl (yb rfl rfl) ?_
       refine WL.new (dd:=29) rfl rfl rfl (yh (cs:=[(.int .i64 0),(.int .i64 0)]) yo rfl) ?_
       intro z2u _
       refine WL.yc rfl rfl (yd (vs:=[(.int .i64 zF.1.fN),(.int .i64 zF.1.fD)]) (ds:=[(.int .i64 zF.1.fN),(.int .i64 zF.1.fD)]) yl rfl rfl rfl rfl (y3 rfl (y3 rfl yf)) .here (Nat.le_of_ble_eq_true rfl) rfl) ?_
       refine WL.a (d:=26) rfl rfl rfl (q_z rfl) ?_
       refine WL.nil ?_
       refine WX.a ?_
       refine WC.b ?_
       refine WC.b ?_
       refine WC.a ?_
       refine WL.a (d:=152) rfl rfl rfl (q_m rfl) ?_
       refine WL.a (d:=153) rfl rfl rfl (q_m rfl) ?_
       refine WL.a (d:=154) rfl rfl rfl (y1d rfl rfl rfl) ?_
       refine WL.a (d:=155) rfl rfl rfl (q_m rfl) ?_
       refine WL.a (d:=156) rfl rfl rfl (y1d rfl rfl rfl) ?_
       refine WL.a (d:=157) rfl rfl rfl (y2L rfl rfl) ?_
       refine WL.nil ?_
       refine WX.a ?_
       refine WC.cond rfl (fun zn3=>?_) (fun zn3=>?_)
       ·replace h:=yj h zn3
        refine WC.b ?_
        refine WC.a ?_
        refine WL.a (d:=10) rfl rfl rfl (q_z rfl) ?_
        refine WL.nil ?_
        refine WX.a ?_
        refine WC.ret ?_
        refine WX.y8 ?_
        obtain rfl:=Option.some.inj h
        refine WX.y9 Try.results4 (.tmp rfl .nil) (fun w hw=>?_)
        exact ⟨((zM ++ zP) ++ z10),yI rfl,trivial,hw.sub (.cons .h7 .nil)⟩
       ·replace h:=yk h zn3
        refine WC.skip ?_
        refine WX.a ?_
        refine WC.b ?_
        refine WC.a ?_
        refine WL.a (d:=158) rfl rfl rfl (y18 (Eos.caps (l:=[.tmp 14,.tmp 12]) (.cons rfl (.cons rfl .nil)))) ?_
        refine WL.a (d:=30) rfl rfl rfl (q_z rfl) ?_
        refine WL.nil ?_
        refine WX.a ?_
        refine WC.b ?_
        obtain ⟨zL,zz2,h⟩:=zb h
        refine WC.a ?_
        refine WL.a (d:=160) rfl rfl rfl (y6 (cs:=[(.int .i64 zi.1.fN),(.int .i64 zi.1.fD)]) y5 rfl rfl (y7 (.there (.there .h7)))) ?_
        refine WL.a (d:=161) rfl rfl rfl (y6 (cs:=[(.int .i64 zk.1.fN),(.int .i64 zk.1.fD)]) y5 rfl rfl (y7 (.there .h7))) ?_
        refine WL.b (dd:=162) rfl rfl rfl (zl (l:=[.tmp 160,.tmp 161]) Try.call19 (.cons rfl (.cons rfl .nil))) (.nil : Sel [stb z2u 30 [(.int .i64 zF.1.fN),(.int .i64 zF.1.fD)],stb z2t 30 [(.int .i64 zB.1.fN),(.int .i64 zB.1.fD)],stb z2o 30 [(.int .i64 zA.1.fN),(.int .i64 zA.1.fD)],stb z1U 30 [(.int .i64 zy.1.fN),(.int .i64 zy.1.fD)],stb z1E 30 [(.int .i64 zx.1.fN),(.int .i64 zx.1.fD)],stb z1v 30 [(.int .i64 zu.1.fN),(.int .i64 zu.1.fD)],stb z19 30 [(.int .i64 zp.1.fN),(.int .i64 zp.1.fD)],fz ((zM ++ zP) ++ z10),stb z17 30 [(.int .i64 zk.1.fN),(.int .i64 zk.1.fD)],stb z11 30 [(.int .i64 zi.1.fN),(.int .i64 zi.1.fD)],stb zG 43 [(.int .i64 z8.1.fN),(.int .i64 z8.1.fD),(.int .i64 ze.fN),(.int .i64 ze.fD)],stb zD 30 [(.int .i64 z8.1.fN),(.int .i64 z8.1.fD)]] [] [stb z2u 30 [(.int .i64 zF.1.fN),(.int .i64 zF.1.fD)],stb z2t 30 [(.int .i64 zB.1.fN),(.int .i64 zB.1.fD)],stb z2o 30 [(.int .i64 zA.1.fN),(.int .i64 zA.1.fD)],stb z1U 30 [(.int .i64 zy.1.fN),(.int .i64 zy.1.fD)],stb z1E 30 [(.int .i64 zx.1.fN),(.int .i64 zx.1.fD)],stb z1v 30 [(.int .i64 zu.1.fN),(.int .i64 zu.1.fD)],stb z19 30 [(.int .i64 zp.1.fN),(.int .i64 zp.1.fD)],fz ((zM ++ zP) ++ z10),stb z17 30 [(.int .i64 zk.1.fN),(.int .i64 zk.1.fD)],stb z11 30 [(.int .i64 zi.1.fN),(.int .i64 zi.1.fD)],stb zG 43 [(.int .i64 z8.1.fN),(.int .i64 z8.1.fD),(.int .i64 ze.fN),(.int .i64 ze.fD)],stb zD 30 [(.int .i64 z8.1.fN),(.int .i64 z8.1.fD)]]) (fun w hw=>by have pz:=(hz.call2 hw (.nil : Sel [stb z2u 30 [(.int .i64 zF.1.fN),(.int .i64 zF.1.fD)],stb z2t 30 [(.int .i64 zB.1.fN),(.int .i64 zB.1.fD)],stb z2o 30 [(.int .i64 zA.1.fN),(.int .i64 zA.1.fD)],stb z1U 30 [(.int .i64 zy.1.fN),(.int .i64 zy.1.fD)],stb z1E 30 [(.int .i64 zx.1.fN),(.int .i64 zx.1.fD)],stb z1v 30 [(.int .i64 zu.1.fN),(.int .i64 zu.1.fD)],stb z19 30 [(.int .i64 zp.1.fN),(.int .i64 zp.1.fD)],fz ((zM ++ zP) ++ z10),stb z17 30 [(.int .i64 zk.1.fN),(.int .i64 zk.1.fD)],stb z11 30 [(.int .i64 zi.1.fN),(.int .i64 zi.1.fD)],stb zG 43 [(.int .i64 z8.1.fN),(.int .i64 z8.1.fD),(.int .i64 ze.fN),(.int .i64 ze.fD)],stb zD 30 [(.int .i64 z8.1.fN),(.int .i64 z8.1.fD)]] [] [stb z2u 30 [(.int .i64 zF.1.fN),(.int .i64 zF.1.fD)],stb z2t 30 [(.int .i64 zB.1.fN),(.int .i64 zB.1.fD)],stb z2o 30 [(.int .i64 zA.1.fN),(.int .i64 zA.1.fD)],stb z1U 30 [(.int .i64 zy.1.fN),(.int .i64 zy.1.fD)],stb z1E 30 [(.int .i64 zx.1.fN),(.int .i64 zx.1.fD)],stb z1v 30 [(.int .i64 zu.1.fN),(.int .i64 zu.1.fD)],stb z19 30 [(.int .i64 zp.1.fN),(.int .i64 zp.1.fD)],fz ((zM ++ zP) ++ z10),stb z17 30 [(.int .i64 zk.1.fN),(.int .i64 zk.1.fD)],stb z11 30 [(.int .i64 zi.1.fN),(.int .i64 zi.1.fD)],stb zG 43 [(.int .i64 z8.1.fN),(.int .i64 z8.1.fD),(.int .i64 ze.fN),(.int .i64 ze.fD)],stb zD 30 [(.int .i64 z8.1.fN),(.int .i64 z8.1.fD)]]) .h7); exact y3n (Z:=_)  (z3F:=zi.1) (z3G:=zk.1) (r:=zL) w pz  zz2) ?_
        refine WL.a (d:=159) rfl rfl rfl (q_m rfl) ?_
        refine WL.a (d:=163) rfl rfl rfl (yb rfl rfl) ?_
        refine WL.a (d:=164) rfl rfl rfl (yb rfl rfl) ?_
        refine WL.new (dd:=31) rfl rfl rfl (yh (cs:=[(.int .i64 0),(.int .i64 0)]) yo rfl) ?_
        intro z2Q _
        refine WL.yc rfl rfl (yd (vs:=[(.int .i64 zL.1.fN),(.int .i64 zL.1.fD)]) (ds:=[(.int .i64 zL.1.fN),(.int .i64 zL.1.fD)]) yl rfl rfl rfl rfl (y3 rfl (y3 rfl yf)) .here (Nat.le_of_ble_eq_true rfl) rfl) ?_
        refine WL.a (d:=32) rfl rfl rfl (q_z rfl) ?_
        refine WL.nil ?_
        refine WX.a ?_
        refine WC.b ?_
        obtain ⟨z18,zz3,h⟩:=zb h
        refine WC.a ?_
        refine WL.a (d:=166) rfl rfl rfl (q_m rfl) ?_
        refine WL.a (d:=167) rfl rfl rfl (y6 (cs:=[(.int .i64 zL.1.fN),(.int .i64 zL.1.fD)]) y5 rfl rfl (y7 .here)) ?_
        refine WL.b (dd:=168) rfl rfl rfl (y2f (l:=[.tmp 167]) Try.call23 rfl (.cons rfl .nil)) (.nil : Sel [stb z2Q 30 [(.int .i64 zL.1.fN),(.int .i64 zL.1.fD)],stb z2u 30 [(.int .i64 zF.1.fN),(.int .i64 zF.1.fD)],stb z2t 30 [(.int .i64 zB.1.fN),(.int .i64 zB.1.fD)],stb z2o 30 [(.int .i64 zA.1.fN),(.int .i64 zA.1.fD)],stb z1U 30 [(.int .i64 zy.1.fN),(.int .i64 zy.1.fD)],stb z1E 30 [(.int .i64 zx.1.fN),(.int .i64 zx.1.fD)],stb z1v 30 [(.int .i64 zu.1.fN),(.int .i64 zu.1.fD)],stb z19 30 [(.int .i64 zp.1.fN),(.int .i64 zp.1.fD)],fz ((zM ++ zP) ++ z10),stb z17 30 [(.int .i64 zk.1.fN),(.int .i64 zk.1.fD)],stb z11 30 [(.int .i64 zi.1.fN),(.int .i64 zi.1.fD)],stb zG 43 [(.int .i64 z8.1.fN),(.int .i64 z8.1.fD),(.int .i64 ze.fN),(.int .i64 ze.fD)],stb zD 30 [(.int .i64 z8.1.fN),(.int .i64 z8.1.fD)]] [] [stb z2Q 30 [(.int .i64 zL.1.fN),(.int .i64 zL.1.fD)],stb z2u 30 [(.int .i64 zF.1.fN),(.int .i64 zF.1.fD)],stb z2t 30 [(.int .i64 zB.1.fN),(.int .i64 zB.1.fD)],stb z2o 30 [(.int .i64 zA.1.fN),(.int .i64 zA.1.fD)],stb z1U 30 [(.int .i64 zy.1.fN),(.int .i64 zy.1.fD)],stb z1E 30 [(.int .i64 zx.1.fN),(.int .i64 zx.1.fD)],stb z1v 30 [(.int .i64 zu.1.fN),(.int .i64 zu.1.fD)],stb z19 30 [(.int .i64 zp.1.fN),(.int .i64 zp.1.fD)],fz ((zM ++ zP) ++ z10),stb z17 30 [(.int .i64 zk.1.fN),(.int .i64 zk.1.fD)],stb z11 30 [(.int .i64 zi.1.fN),(.int .i64 zi.1.fD)],stb zG 43 [(.int .i64 z8.1.fN),(.int .i64 z8.1.fD),(.int .i64 ze.fN),(.int .i64 ze.fD)],stb zD 30 [(.int .i64 z8.1.fN),(.int .i64 z8.1.fD)]]) (fun w hw=>by have pz:=(hz.call2 hw (.nil : Sel [stb z2Q 30 [(.int .i64 zL.1.fN),(.int .i64 zL.1.fD)],stb z2u 30 [(.int .i64 zF.1.fN),(.int .i64 zF.1.fD)],stb z2t 30 [(.int .i64 zB.1.fN),(.int .i64 zB.1.fD)],stb z2o 30 [(.int .i64 zA.1.fN),(.int .i64 zA.1.fD)],stb z1U 30 [(.int .i64 zy.1.fN),(.int .i64 zy.1.fD)],stb z1E 30 [(.int .i64 zx.1.fN),(.int .i64 zx.1.fD)],stb z1v 30 [(.int .i64 zu.1.fN),(.int .i64 zu.1.fD)],stb z19 30 [(.int .i64 zp.1.fN),(.int .i64 zp.1.fD)],fz ((zM ++ zP) ++ z10),stb z17 30 [(.int .i64 zk.1.fN),(.int .i64 zk.1.fD)],stb z11 30 [(.int .i64 zi.1.fN),(.int .i64 zi.1.fD)],stb zG 43 [(.int .i64 z8.1.fN),(.int .i64 z8.1.fD),(.int .i64 ze.fN),(.int .i64 ze.fD)],stb zD 30 [(.int .i64 z8.1.fN),(.int .i64 z8.1.fD)]] [] [stb z2Q 30 [(.int .i64 zL.1.fN),(.int .i64 zL.1.fD)],stb z2u 30 [(.int .i64 zF.1.fN),(.int .i64 zF.1.fD)],stb z2t 30 [(.int .i64 zB.1.fN),(.int .i64 zB.1.fD)],stb z2o 30 [(.int .i64 zA.1.fN),(.int .i64 zA.1.fD)],stb z1U 30 [(.int .i64 zy.1.fN),(.int .i64 zy.1.fD)],stb z1E 30 [(.int .i64 zx.1.fN),(.int .i64 zx.1.fD)],stb z1v 30 [(.int .i64 zu.1.fN),(.int .i64 zu.1.fD)],stb z19 30 [(.int .i64 zp.1.fN),(.int .i64 zp.1.fD)],fz ((zM ++ zP) ++ z10),stb z17 30 [(.int .i64 zk.1.fN),(.int .i64 zk.1.fD)],stb z11 30 [(.int .i64 zi.1.fN),(.int .i64 zi.1.fD)],stb zG 43 [(.int .i64 z8.1.fN),(.int .i64 z8.1.fD),(.int .i64 ze.fN),(.int .i64 ze.fD)],stb zD 30 [(.int .i64 z8.1.fN),(.int .i64 z8.1.fD)]]) (.there .h7)).lend hw (.nil : Sel [stb z2Q 30 [(.int .i64 zL.1.fN),(.int .i64 zL.1.fD)],stb z2u 30 [(.int .i64 zF.1.fN),(.int .i64 zF.1.fD)],stb z2t 30 [(.int .i64 zB.1.fN),(.int .i64 zB.1.fD)],stb z2o 30 [(.int .i64 zA.1.fN),(.int .i64 zA.1.fD)],stb z1U 30 [(.int .i64 zy.1.fN),(.int .i64 zy.1.fD)],stb z1E 30 [(.int .i64 zx.1.fN),(.int .i64 zx.1.fD)],stb z1v 30 [(.int .i64 zu.1.fN),(.int .i64 zu.1.fD)],stb z19 30 [(.int .i64 zp.1.fN),(.int .i64 zp.1.fD)],fz ((zM ++ zP) ++ z10),stb z17 30 [(.int .i64 zk.1.fN),(.int .i64 zk.1.fD)],stb z11 30 [(.int .i64 zi.1.fN),(.int .i64 zi.1.fD)],stb zG 43 [(.int .i64 z8.1.fN),(.int .i64 z8.1.fD),(.int .i64 ze.fN),(.int .i64 ze.fD)],stb zD 30 [(.int .i64 z8.1.fN),(.int .i64 z8.1.fD)]] [] [stb z2Q 30 [(.int .i64 zL.1.fN),(.int .i64 zL.1.fD)],stb z2u 30 [(.int .i64 zF.1.fN),(.int .i64 zF.1.fD)],stb z2t 30 [(.int .i64 zB.1.fN),(.int .i64 zB.1.fD)],stb z2o 30 [(.int .i64 zA.1.fN),(.int .i64 zA.1.fD)],stb z1U 30 [(.int .i64 zy.1.fN),(.int .i64 zy.1.fD)],stb z1E 30 [(.int .i64 zx.1.fN),(.int .i64 zx.1.fD)],stb z1v 30 [(.int .i64 zu.1.fN),(.int .i64 zu.1.fD)],stb z19 30 [(.int .i64 zp.1.fN),(.int .i64 zp.1.fD)],fz ((zM ++ zP) ++ z10),stb z17 30 [(.int .i64 zk.1.fN),(.int .i64 zk.1.fD)],stb z11 30 [(.int .i64 zi.1.fN),(.int .i64 zi.1.fD)],stb zG 43 [(.int .i64 z8.1.fN),(.int .i64 z8.1.fD),(.int .i64 ze.fN),(.int .i64 ze.fD)],stb zD 30 [(.int .i64 z8.1.fN),(.int .i64 z8.1.fD)]]) (B:=[stb zG 43 [(.int .i64 z8.1.fN),(.int .i64 z8.1.fD),(.int .i64 ze.fN),(.int .i64 ze.fD)],stb zD 30 [(.int .i64 z8.1.fN),(.int .i64 z8.1.fD)]]) (fun _ hx'=>((.cons (.there (.there (.there (.there .h7)))) (.cons (.there (.there (.there (.there .h7)))) .nil)) : Sel _ [stb zG 43 [(.int .i64 z8.1.fN),(.int .i64 z8.1.fD),(.int .i64 ze.fN),(.int .i64 ze.fD)],stb zD 30 [(.int .i64 z8.1.fN),(.int .i64 z8.1.fD)]] _).mem hx'); exact y4o (Z:=_) (zex:=⟨zG,0,none⟩) (zbJ:=⟨zD,0,none⟩) (z3w:=zL.1) (z8G:=(⟨z8.1,ze⟩ : zSv)) (z9L:=z8.1) (r:=z18) w pz ((hw.lent (.nil : Sel [stb z2Q 30 [(.int .i64 zL.1.fN),(.int .i64 zL.1.fD)],stb z2u 30 [(.int .i64 zF.1.fN),(.int .i64 zF.1.fD)],stb z2t 30 [(.int .i64 zB.1.fN),(.int .i64 zB.1.fD)],stb z2o 30 [(.int .i64 zA.1.fN),(.int .i64 zA.1.fD)],stb z1U 30 [(.int .i64 zy.1.fN),(.int .i64 zy.1.fD)],stb z1E 30 [(.int .i64 zx.1.fN),(.int .i64 zx.1.fD)],stb z1v 30 [(.int .i64 zu.1.fN),(.int .i64 zu.1.fD)],stb z19 30 [(.int .i64 zp.1.fN),(.int .i64 zp.1.fD)],fz ((zM ++ zP) ++ z10),stb z17 30 [(.int .i64 zk.1.fN),(.int .i64 zk.1.fD)],stb z11 30 [(.int .i64 zi.1.fN),(.int .i64 zi.1.fD)],stb zG 43 [(.int .i64 z8.1.fN),(.int .i64 z8.1.fD),(.int .i64 ze.fN),(.int .i64 ze.fD)],stb zD 30 [(.int .i64 z8.1.fN),(.int .i64 z8.1.fD)]] [] [stb z2Q 30 [(.int .i64 zL.1.fN),(.int .i64 zL.1.fD)],stb z2u 30 [(.int .i64 zF.1.fN),(.int .i64 zF.1.fD)],stb z2t 30 [(.int .i64 zB.1.fN),(.int .i64 zB.1.fD)],stb z2o 30 [(.int .i64 zA.1.fN),(.int .i64 zA.1.fD)],stb z1U 30 [(.int .i64 zy.1.fN),(.int .i64 zy.1.fD)],stb z1E 30 [(.int .i64 zx.1.fN),(.int .i64 zx.1.fD)],stb z1v 30 [(.int .i64 zu.1.fN),(.int .i64 zu.1.fD)],stb z19 30 [(.int .i64 zp.1.fN),(.int .i64 zp.1.fD)],fz ((zM ++ zP) ++ z10),stb z17 30 [(.int .i64 zk.1.fN),(.int .i64 zk.1.fD)],stb z11 30 [(.int .i64 zi.1.fN),(.int .i64 zi.1.fD)],stb zG 43 [(.int .i64 z8.1.fN),(.int .i64 z8.1.fD),(.int .i64 ze.fN),(.int .i64 ze.fD)],stb zD 30 [(.int .i64 z8.1.fN),(.int .i64 z8.1.fD)]]) (B:=[stb zG 43 [(.int .i64 z8.1.fN),(.int .i64 z8.1.fD),(.int .i64 ze.fN),(.int .i64 ze.fD)],stb zD 30 [(.int .i64 z8.1.fN),(.int .i64 z8.1.fD)]]) (fun _ hx'=>((.cons (.there (.there (.there (.there .h7)))) (.cons (.there (.there (.there (.there .h7)))) .nil)) : Sel _ [stb zG 43 [(.int .i64 z8.1.fN),(.int .i64 z8.1.fD),(.int .i64 ze.fN),(.int .i64 ze.fD)],stb zD 30 [(.int .i64 z8.1.fN),(.int .i64 z8.1.fD)]] _).mem hx') (.head _) _).stb) ((hw.lent (.nil : Sel [stb z2Q 30 [(.int .i64 zL.1.fN),(.int .i64 zL.1.fD)],stb z2u 30 [(.int .i64 zF.1.fN),(.int .i64 zF.1.fD)],stb z2t 30 [(.int .i64 zB.1.fN),(.int .i64 zB.1.fD)],stb z2o 30 [(.int .i64 zA.1.fN),(.int .i64 zA.1.fD)],stb z1U 30 [(.int .i64 zy.1.fN),(.int .i64 zy.1.fD)],stb z1E 30 [(.int .i64 zx.1.fN),(.int .i64 zx.1.fD)],stb z1v 30 [(.int .i64 zu.1.fN),(.int .i64 zu.1.fD)],stb z19 30 [(.int .i64 zp.1.fN),(.int .i64 zp.1.fD)],fz ((zM ++ zP) ++ z10),stb z17 30 [(.int .i64 zk.1.fN),(.int .i64 zk.1.fD)],stb z11 30 [(.int .i64 zi.1.fN),(.int .i64 zi.1.fD)],stb zG 43 [(.int .i64 z8.1.fN),(.int .i64 z8.1.fD),(.int .i64 ze.fN),(.int .i64 ze.fD)],stb zD 30 [(.int .i64 z8.1.fN),(.int .i64 z8.1.fD)]] [] [stb z2Q 30 [(.int .i64 zL.1.fN),(.int .i64 zL.1.fD)],stb z2u 30 [(.int .i64 zF.1.fN),(.int .i64 zF.1.fD)],stb z2t 30 [(.int .i64 zB.1.fN),(.int .i64 zB.1.fD)],stb z2o 30 [(.int .i64 zA.1.fN),(.int .i64 zA.1.fD)],stb z1U 30 [(.int .i64 zy.1.fN),(.int .i64 zy.1.fD)],stb z1E 30 [(.int .i64 zx.1.fN),(.int .i64 zx.1.fD)],stb z1v 30 [(.int .i64 zu.1.fN),(.int .i64 zu.1.fD)],stb z19 30 [(.int .i64 zp.1.fN),(.int .i64 zp.1.fD)],fz ((zM ++ zP) ++ z10),stb z17 30 [(.int .i64 zk.1.fN),(.int .i64 zk.1.fD)],stb z11 30 [(.int .i64 zi.1.fN),(.int .i64 zi.1.fD)],stb zG 43 [(.int .i64 z8.1.fN),(.int .i64 z8.1.fD),(.int .i64 ze.fN),(.int .i64 ze.fD)],stb zD 30 [(.int .i64 z8.1.fN),(.int .i64 z8.1.fD)]]) (B:=[stb zG 43 [(.int .i64 z8.1.fN),(.int .i64 z8.1.fD),(.int .i64 ze.fN),(.int .i64 ze.fD)],stb zD 30 [(.int .i64 z8.1.fN),(.int .i64 z8.1.fD)]]) (fun _ hx'=>((.cons (.there (.there (.there (.there .h7)))) (.cons (.there (.there (.there (.there .h7)))) .nil)) : Sel _ [stb zG 43 [(.int .i64 z8.1.fN),(.int .i64 z8.1.fD),(.int .i64 ze.fN),(.int .i64 ze.fD)],stb zD 30 [(.int .i64 z8.1.fN),(.int .i64 z8.1.fD)]] _).mem hx') (.tail _ (.head _)) _).stb) zz3) ?_
        refine WL.a (d:=165) rfl rfl rfl (q_m rfl) ?_
        refine WL.a (d:=169) rfl rfl rfl (yb rfl rfl) ?_
        refine WL.a (d:=170) rfl rfl rfl (yb rfl rfl) ?_
        refine WL.new (dd:=33) rfl rfl rfl (yh (cs:=[(.int .i64 0),(.int .i64 0)]) yo rfl) ?_
        intro z3t _
        refine WL.yc rfl rfl (yd (vs:=[(.int .i64 z18.1.fN),(.int .i64 z18.1.fD)]) (ds:=[(.int .i64 z18.1.fN),(.int .i64 z18.1.fD)]) yl rfl rfl rfl rfl (y3 rfl (y3 rfl yf)) .here (Nat.le_of_ble_eq_true rfl) rfl) ?_
        refine WL.a (d:=34) rfl rfl rfl (q_z rfl) ?_
        refine WL.nil ?_
        refine WX.a ?_
        refine WC.b ?_
        obtain ⟨z2e,zz4,h⟩:=zb h
        refine WC.a ?_
        refine WL.a (d:=172) rfl rfl rfl (q_m rfl) ?_
        refine WL.a (d:=173) rfl rfl rfl (y6 (cs:=[(.int .i64 zi.1.fN),(.int .i64 zi.1.fD)]) y5 rfl rfl (y7 (.there (.there (.there (.there .h7)))))) ?_
        refine WL.b (dd:=174) rfl rfl rfl (y2f (l:=[.tmp 173]) Try.call23 rfl (.cons rfl .nil)) (.nil : Sel [stb z3t 30 [(.int .i64 z18.1.fN),(.int .i64 z18.1.fD)],stb z2Q 30 [(.int .i64 zL.1.fN),(.int .i64 zL.1.fD)],stb z2u 30 [(.int .i64 zF.1.fN),(.int .i64 zF.1.fD)],stb z2t 30 [(.int .i64 zB.1.fN),(.int .i64 zB.1.fD)],stb z2o 30 [(.int .i64 zA.1.fN),(.int .i64 zA.1.fD)],stb z1U 30 [(.int .i64 zy.1.fN),(.int .i64 zy.1.fD)],stb z1E 30 [(.int .i64 zx.1.fN),(.int .i64 zx.1.fD)],stb z1v 30 [(.int .i64 zu.1.fN),(.int .i64 zu.1.fD)],stb z19 30 [(.int .i64 zp.1.fN),(.int .i64 zp.1.fD)],fz ((zM ++ zP) ++ z10),stb z17 30 [(.int .i64 zk.1.fN),(.int .i64 zk.1.fD)],stb z11 30 [(.int .i64 zi.1.fN),(.int .i64 zi.1.fD)],stb zG 43 [(.int .i64 z8.1.fN),(.int .i64 z8.1.fD),(.int .i64 ze.fN),(.int .i64 ze.fD)],stb zD 30 [(.int .i64 z8.1.fN),(.int .i64 z8.1.fD)]] [] [stb z3t 30 [(.int .i64 z18.1.fN),(.int .i64 z18.1.fD)],stb z2Q 30 [(.int .i64 zL.1.fN),(.int .i64 zL.1.fD)],stb z2u 30 [(.int .i64 zF.1.fN),(.int .i64 zF.1.fD)],stb z2t 30 [(.int .i64 zB.1.fN),(.int .i64 zB.1.fD)],stb z2o 30 [(.int .i64 zA.1.fN),(.int .i64 zA.1.fD)],stb z1U 30 [(.int .i64 zy.1.fN),(.int .i64 zy.1.fD)],stb z1E 30 [(.int .i64 zx.1.fN),(.int .i64 zx.1.fD)],stb z1v 30 [(.int .i64 zu.1.fN),(.int .i64 zu.1.fD)],stb z19 30 [(.int .i64 zp.1.fN),(.int .i64 zp.1.fD)],fz ((zM ++ zP) ++ z10),stb z17 30 [(.int .i64 zk.1.fN),(.int .i64 zk.1.fD)],stb z11 30 [(.int .i64 zi.1.fN),(.int .i64 zi.1.fD)],stb zG 43 [(.int .i64 z8.1.fN),(.int .i64 z8.1.fD),(.int .i64 ze.fN),(.int .i64 ze.fD)],stb zD 30 [(.int .i64 z8.1.fN),(.int .i64 z8.1.fD)]]) (fun w hw=>by have pz:=(hz.call2 hw (.nil : Sel [stb z3t 30 [(.int .i64 z18.1.fN),(.int .i64 z18.1.fD)],stb z2Q 30 [(.int .i64 zL.1.fN),(.int .i64 zL.1.fD)],stb z2u 30 [(.int .i64 zF.1.fN),(.int .i64 zF.1.fD)],stb z2t 30 [(.int .i64 zB.1.fN),(.int .i64 zB.1.fD)],stb z2o 30 [(.int .i64 zA.1.fN),(.int .i64 zA.1.fD)],stb z1U 30 [(.int .i64 zy.1.fN),(.int .i64 zy.1.fD)],stb z1E 30 [(.int .i64 zx.1.fN),(.int .i64 zx.1.fD)],stb z1v 30 [(.int .i64 zu.1.fN),(.int .i64 zu.1.fD)],stb z19 30 [(.int .i64 zp.1.fN),(.int .i64 zp.1.fD)],fz ((zM ++ zP) ++ z10),stb z17 30 [(.int .i64 zk.1.fN),(.int .i64 zk.1.fD)],stb z11 30 [(.int .i64 zi.1.fN),(.int .i64 zi.1.fD)],stb zG 43 [(.int .i64 z8.1.fN),(.int .i64 z8.1.fD),(.int .i64 ze.fN),(.int .i64 ze.fD)],stb zD 30 [(.int .i64 z8.1.fN),(.int .i64 z8.1.fD)]] [] [stb z3t 30 [(.int .i64 z18.1.fN),(.int .i64 z18.1.fD)],stb z2Q 30 [(.int .i64 zL.1.fN),(.int .i64 zL.1.fD)],stb z2u 30 [(.int .i64 zF.1.fN),(.int .i64 zF.1.fD)],stb z2t 30 [(.int .i64 zB.1.fN),(.int .i64 zB.1.fD)],stb z2o 30 [(.int .i64 zA.1.fN),(.int .i64 zA.1.fD)],stb z1U 30 [(.int .i64 zy.1.fN),(.int .i64 zy.1.fD)],stb z1E 30 [(.int .i64 zx.1.fN),(.int .i64 zx.1.fD)],stb z1v 30 [(.int .i64 zu.1.fN),(.int .i64 zu.1.fD)],stb z19 30 [(.int .i64 zp.1.fN),(.int .i64 zp.1.fD)],fz ((zM ++ zP) ++ z10),stb z17 30 [(.int .i64 zk.1.fN),(.int .i64 zk.1.fD)],stb z11 30 [(.int .i64 zi.1.fN),(.int .i64 zi.1.fD)],stb zG 43 [(.int .i64 z8.1.fN),(.int .i64 z8.1.fD),(.int .i64 ze.fN),(.int .i64 ze.fD)],stb zD 30 [(.int .i64 z8.1.fN),(.int .i64 z8.1.fD)]]) (.there (.there .h7))).lend hw (.nil : Sel [stb z3t 30 [(.int .i64 z18.1.fN),(.int .i64 z18.1.fD)],stb z2Q 30 [(.int .i64 zL.1.fN),(.int .i64 zL.1.fD)],stb z2u 30 [(.int .i64 zF.1.fN),(.int .i64 zF.1.fD)],stb z2t 30 [(.int .i64 zB.1.fN),(.int .i64 zB.1.fD)],stb z2o 30 [(.int .i64 zA.1.fN),(.int .i64 zA.1.fD)],stb z1U 30 [(.int .i64 zy.1.fN),(.int .i64 zy.1.fD)],stb z1E 30 [(.int .i64 zx.1.fN),(.int .i64 zx.1.fD)],stb z1v 30 [(.int .i64 zu.1.fN),(.int .i64 zu.1.fD)],stb z19 30 [(.int .i64 zp.1.fN),(.int .i64 zp.1.fD)],fz ((zM ++ zP) ++ z10),stb z17 30 [(.int .i64 zk.1.fN),(.int .i64 zk.1.fD)],stb z11 30 [(.int .i64 zi.1.fN),(.int .i64 zi.1.fD)],stb zG 43 [(.int .i64 z8.1.fN),(.int .i64 z8.1.fD),(.int .i64 ze.fN),(.int .i64 ze.fD)],stb zD 30 [(.int .i64 z8.1.fN),(.int .i64 z8.1.fD)]] [] [stb z3t 30 [(.int .i64 z18.1.fN),(.int .i64 z18.1.fD)],stb z2Q 30 [(.int .i64 zL.1.fN),(.int .i64 zL.1.fD)],stb z2u 30 [(.int .i64 zF.1.fN),(.int .i64 zF.1.fD)],stb z2t 30 [(.int .i64 zB.1.fN),(.int .i64 zB.1.fD)],stb z2o 30 [(.int .i64 zA.1.fN),(.int .i64 zA.1.fD)],stb z1U 30 [(.int .i64 zy.1.fN),(.int .i64 zy.1.fD)],stb z1E 30 [(.int .i64 zx.1.fN),(.int .i64 zx.1.fD)],stb z1v 30 [(.int .i64 zu.1.fN),(.int .i64 zu.1.fD)],stb z19 30 [(.int .i64 zp.1.fN),(.int .i64 zp.1.fD)],fz ((zM ++ zP) ++ z10),stb z17 30 [(.int .i64 zk.1.fN),(.int .i64 zk.1.fD)],stb z11 30 [(.int .i64 zi.1.fN),(.int .i64 zi.1.fD)],stb zG 43 [(.int .i64 z8.1.fN),(.int .i64 z8.1.fD),(.int .i64 ze.fN),(.int .i64 ze.fD)],stb zD 30 [(.int .i64 z8.1.fN),(.int .i64 z8.1.fD)]]) (B:=[stb zG 43 [(.int .i64 z8.1.fN),(.int .i64 z8.1.fD),(.int .i64 ze.fN),(.int .i64 ze.fD)],stb zD 30 [(.int .i64 z8.1.fN),(.int .i64 z8.1.fD)]]) (fun _ hx'=>((.cons (.there (.there (.there (.there (.there .h7))))) (.cons (.there (.there (.there (.there (.there .h7))))) .nil)) : Sel _ [stb zG 43 [(.int .i64 z8.1.fN),(.int .i64 z8.1.fD),(.int .i64 ze.fN),(.int .i64 ze.fD)],stb zD 30 [(.int .i64 z8.1.fN),(.int .i64 z8.1.fD)]] _).mem hx'); exact y4o (Z:=_) (zex:=⟨zG,0,none⟩) (zbJ:=⟨zD,0,none⟩) (z3w:=zi.1) (z8G:=(⟨z8.1,ze⟩ : zSv)) (z9L:=z8.1) (r:=z2e) w pz ((hw.lent (.nil : Sel [stb z3t 30 [(.int .i64 z18.1.fN),(.int .i64 z18.1.fD)],stb z2Q 30 [(.int .i64 zL.1.fN),(.int .i64 zL.1.fD)],stb z2u 30 [(.int .i64 zF.1.fN),(.int .i64 zF.1.fD)],stb z2t 30 [(.int .i64 zB.1.fN),(.int .i64 zB.1.fD)],stb z2o 30 [(.int .i64 zA.1.fN),(.int .i64 zA.1.fD)],stb z1U 30 [(.int .i64 zy.1.fN),(.int .i64 zy.1.fD)],stb z1E 30 [(.int .i64 zx.1.fN),(.int .i64 zx.1.fD)],stb z1v 30 [(.int .i64 zu.1.fN),(.int .i64 zu.1.fD)],stb z19 30 [(.int .i64 zp.1.fN),(.int .i64 zp.1.fD)],fz ((zM ++ zP) ++ z10),stb z17 30 [(.int .i64 zk.1.fN),(.int .i64 zk.1.fD)],stb z11 30 [(.int .i64 zi.1.fN),(.int .i64 zi.1.fD)],stb zG 43 [(.int .i64 z8.1.fN),(.int .i64 z8.1.fD),(.int .i64 ze.fN),(.int .i64 ze.fD)],stb zD 30 [(.int .i64 z8.1.fN),(.int .i64 z8.1.fD)]] [] [stb z3t 30 [(.int .i64 z18.1.fN),(.int .i64 z18.1.fD)],stb z2Q 30 [(.int .i64 zL.1.fN),(.int .i64 zL.1.fD)],stb z2u 30 [(.int .i64 zF.1.fN),(.int .i64 zF.1.fD)],stb z2t 30 [(.int .i64 zB.1.fN),(.int .i64 zB.1.fD)],stb z2o 30 [(.int .i64 zA.1.fN),(.int .i64 zA.1.fD)],stb z1U 30 [(.int .i64 zy.1.fN),(.int .i64 zy.1.fD)],stb z1E 30 [(.int .i64 zx.1.fN),(.int .i64 zx.1.fD)],stb z1v 30 [(.int .i64 zu.1.fN),(.int .i64 zu.1.fD)],stb z19 30 [(.int .i64 zp.1.fN),(.int .i64 zp.1.fD)],fz ((zM ++ zP) ++ z10),stb z17 30 [(.int .i64 zk.1.fN),(.int .i64 zk.1.fD)],stb z11 30 [(.int .i64 zi.1.fN),(.int .i64 zi.1.fD)],stb zG 43 [(.int .i64 z8.1.fN),(.int .i64 z8.1.fD),(.int .i64 ze.fN),(.int .i64 ze.fD)],stb zD 30 [(.int .i64 z8.1.fN),(.int .i64 z8.1.fD)]]) (B:=[stb zG 43 [(.int .i64 z8.1.fN),(.int .i64 z8.1.fD),(.int .i64 ze.fN),(.int .i64 ze.fD)],stb zD 30 [(.int .i64 z8.1.fN),(.int .i64 z8.1.fD)]]) (fun _ hx'=>((.cons (.there (.there (.there (.there (.there .h7))))) (.cons (.there (.there (.there (.there (.there .h7))))) .nil)) : Sel _ [stb zG 43 [(.int .i64 z8.1.fN),(.int .i64 z8.1.fD),(.int .i64 ze.fN),(.int .i64 ze.fD)],stb zD 30 [(.int .i64 z8.1.fN),(.int .i64 z8.1.fD)]] _).mem hx') (.head _) _).stb) ((hw.lent (.nil : Sel [stb z3t 30 [(.int .i64 z18.1.fN),(.int .i64 z18.1.fD)],stb z2Q 30 [(.int .i64 zL.1.fN),(.int .i64 zL.1.fD)],stb z2u 30 [(.int .i64 zF.1.fN),(.int .i64 zF.1.fD)],stb z2t 30 [(.int .i64 zB.1.fN),(.int .i64 zB.1.fD)],stb z2o 30 [(.int .i64 zA.1.fN),(.int .i64 zA.1.fD)],stb z1U 30 [(.int .i64 zy.1.fN),(.int .i64 zy.1.fD)],stb z1E 30 [(.int .i64 zx.1.fN),(.int .i64 zx.1.fD)],stb z1v 30 [(.int .i64 zu.1.fN),(.int .i64 zu.1.fD)],stb z19 30 [(.int .i64 zp.1.fN),(.int .i64 zp.1.fD)],fz ((zM ++ zP) ++ z10),stb z17 30 [(.int .i64 zk.1.fN),(.int .i64 zk.1.fD)],stb z11 30 [(.int .i64 zi.1.fN),(.int .i64 zi.1.fD)],stb zG 43 [(.int .i64 z8.1.fN),(.int .i64 z8.1.fD),(.int .i64 ze.fN),(.int .i64 ze.fD)],stb zD 30 [(.int .i64 z8.1.fN),(.int .i64 z8.1.fD)]] [] [stb z3t 30 [(.int .i64 z18.1.fN),(.int .i64 z18.1.fD)],stb z2Q 30 [(.int .i64 zL.1.fN),(.int .i64 zL.1.fD)],stb z2u 30 [(.int .i64 zF.1.fN),(.int .i64 zF.1.fD)],stb z2t 30 [(.int .i64 zB.1.fN),(.int .i64 zB.1.fD)],stb z2o 30 [(.int .i64 zA.1.fN),(.int .i64 zA.1.fD)],stb z1U 30 [(.int .i64 zy.1.fN),(.int .i64 zy.1.fD)],stb z1E 30 [(.int .i64 zx.1.fN),(.int .i64 zx.1.fD)],stb z1v 30 [(.int .i64 zu.1.fN),(.int .i64 zu.1.fD)],stb z19 30 [(.int .i64 zp.1.fN),(.int .i64 zp.1.fD)],fz ((zM ++ zP) ++ z10),stb z17 30 [(.int .i64 zk.1.fN),(.int .i64 zk.1.fD)],stb z11 30 [(.int .i64 zi.1.fN),(.int .i64 zi.1.fD)],stb zG 43 [(.int .i64 z8.1.fN),(.int .i64 z8.1.fD),(.int .i64 ze.fN),(.int .i64 ze.fD)],stb zD 30 [(.int .i64 z8.1.fN),(.int .i64 z8.1.fD)]]) (B:=[stb zG 43 [(.int .i64 z8.1.fN),(.int .i64 z8.1.fD),(.int .i64 ze.fN),(.int .i64 ze.fD)],stb zD 30 [(.int .i64 z8.1.fN),(.int .i64 z8.1.fD)]]) (fun _ hx'=>((.cons (.there (.there (.there (.there (.there .h7))))) (.cons (.there (.there (.there (.there (.there .h7))))) .nil)) : Sel _ [stb zG 43 [(.int .i64 z8.1.fN),(.int .i64 z8.1.fD),(.int .i64 ze.fN),(.int .i64 ze.fD)],stb zD 30 [(.int .i64 z8.1.fN),(.int .i64 z8.1.fD)]] _).mem hx') (.tail _ (.head _)) _).stb) zz4) ?_
        refine WL.a (d:=171) rfl rfl rfl (q_m rfl) ?_
        refine WL.a (d:=175) rfl rfl rfl (yb rfl rfl) ?_
        refine WL.a (d:=176) rfl rfl rfl (yb rfl rfl) ?_
        refine WL.new (dd:=35) rfl rfl rfl (yh (cs:=[(.int .i64 0),(.int .i64 0)]) yo rfl) ?_
        intro z5r _
        refine WL.yc rfl rfl (yd (vs:=[(.int .i64 z2e.1.fN),(.int .i64 z2e.1.fD)]) (ds:=[(.int .i64 z2e.1.fN),(.int .i64 z2e.1.fD)]) yl rfl rfl rfl rfl (y3 rfl (y3 rfl yf)) .here (Nat.le_of_ble_eq_true rfl) rfl) ?_
        refine WL.a (d:=36) rfl rfl rfl (q_z rfl) ?_
        refine WL.nil ?_
        refine WX.a ?_
        refine WC.b ?_
        obtain ⟨z2q,zz5,h⟩:=zb h
        refine WC.a ?_
        refine WL.a (d:=178) rfl rfl rfl (y6 (cs:=[(.int .i64 z2e.1.fN),(.int .i64 z2e.1.fD)]) y5 rfl rfl (y7 .here)) ?_
        refine WL.a (d:=179) rfl rfl rfl (y6 (cs:=[(.int .i64 zp.1.fN),(.int .i64 zp.1.fD)]) y5 rfl rfl (y7 (.there (.there .h7)))) ?_
        refine WL.b (dd:=180) rfl rfl rfl (zl (l:=[.tmp 178,.tmp 179]) Try.call19 (.cons rfl (.cons rfl .nil))) (.nil : Sel [stb z5r 30 [(.int .i64 z2e.1.fN),(.int .i64 z2e.1.fD)],stb z3t 30 [(.int .i64 z18.1.fN),(.int .i64 z18.1.fD)],stb z2Q 30 [(.int .i64 zL.1.fN),(.int .i64 zL.1.fD)],stb z2u 30 [(.int .i64 zF.1.fN),(.int .i64 zF.1.fD)],stb z2t 30 [(.int .i64 zB.1.fN),(.int .i64 zB.1.fD)],stb z2o 30 [(.int .i64 zA.1.fN),(.int .i64 zA.1.fD)],stb z1U 30 [(.int .i64 zy.1.fN),(.int .i64 zy.1.fD)],stb z1E 30 [(.int .i64 zx.1.fN),(.int .i64 zx.1.fD)],stb z1v 30 [(.int .i64 zu.1.fN),(.int .i64 zu.1.fD)],stb z19 30 [(.int .i64 zp.1.fN),(.int .i64 zp.1.fD)],fz ((zM ++ zP) ++ z10),stb z17 30 [(.int .i64 zk.1.fN),(.int .i64 zk.1.fD)],stb z11 30 [(.int .i64 zi.1.fN),(.int .i64 zi.1.fD)],stb zG 43 [(.int .i64 z8.1.fN),(.int .i64 z8.1.fD),(.int .i64 ze.fN),(.int .i64 ze.fD)],stb zD 30 [(.int .i64 z8.1.fN),(.int .i64 z8.1.fD)]] [] [stb z5r 30 [(.int .i64 z2e.1.fN),(.int .i64 z2e.1.fD)],stb z3t 30 [(.int .i64 z18.1.fN),(.int .i64 z18.1.fD)],stb z2Q 30 [(.int .i64 zL.1.fN),(.int .i64 zL.1.fD)],stb z2u 30 [(.int .i64 zF.1.fN),(.int .i64 zF.1.fD)],stb z2t 30 [(.int .i64 zB.1.fN),(.int .i64 zB.1.fD)],stb z2o 30 [(.int .i64 zA.1.fN),(.int .i64 zA.1.fD)],stb z1U 30 [(.int .i64 zy.1.fN),(.int .i64 zy.1.fD)],stb z1E 30 [(.int .i64 zx.1.fN),(.int .i64 zx.1.fD)],stb z1v 30 [(.int .i64 zu.1.fN),(.int .i64 zu.1.fD)],stb z19 30 [(.int .i64 zp.1.fN),(.int .i64 zp.1.fD)],fz ((zM ++ zP) ++ z10),stb z17 30 [(.int .i64 zk.1.fN),(.int .i64 zk.1.fD)],stb z11 30 [(.int .i64 zi.1.fN),(.int .i64 zi.1.fD)],stb zG 43 [(.int .i64 z8.1.fN),(.int .i64 z8.1.fD),(.int .i64 ze.fN),(.int .i64 ze.fD)],stb zD 30 [(.int .i64 z8.1.fN),(.int .i64 z8.1.fD)]]) (fun w hw=>by have pz:=(hz.call2 hw (.nil : Sel [stb z5r 30 [(.int .i64 z2e.1.fN),(.int .i64 z2e.1.fD)],stb z3t 30 [(.int .i64 z18.1.fN),(.int .i64 z18.1.fD)],stb z2Q 30 [(.int .i64 zL.1.fN),(.int .i64 zL.1.fD)],stb z2u 30 [(.int .i64 zF.1.fN),(.int .i64 zF.1.fD)],stb z2t 30 [(.int .i64 zB.1.fN),(.int .i64 zB.1.fD)],stb z2o 30 [(.int .i64 zA.1.fN),(.int .i64 zA.1.fD)],stb z1U 30 [(.int .i64 zy.1.fN),(.int .i64 zy.1.fD)],stb z1E 30 [(.int .i64 zx.1.fN),(.int .i64 zx.1.fD)],stb z1v 30 [(.int .i64 zu.1.fN),(.int .i64 zu.1.fD)],stb z19 30 [(.int .i64 zp.1.fN),(.int .i64 zp.1.fD)],fz ((zM ++ zP) ++ z10),stb z17 30 [(.int .i64 zk.1.fN),(.int .i64 zk.1.fD)],stb z11 30 [(.int .i64 zi.1.fN),(.int .i64 zi.1.fD)],stb zG 43 [(.int .i64 z8.1.fN),(.int .i64 z8.1.fD),(.int .i64 ze.fN),(.int .i64 ze.fD)],stb zD 30 [(.int .i64 z8.1.fN),(.int .i64 z8.1.fD)]] [] [stb z5r 30 [(.int .i64 z2e.1.fN),(.int .i64 z2e.1.fD)],stb z3t 30 [(.int .i64 z18.1.fN),(.int .i64 z18.1.fD)],stb z2Q 30 [(.int .i64 zL.1.fN),(.int .i64 zL.1.fD)],stb z2u 30 [(.int .i64 zF.1.fN),(.int .i64 zF.1.fD)],stb z2t 30 [(.int .i64 zB.1.fN),(.int .i64 zB.1.fD)],stb z2o 30 [(.int .i64 zA.1.fN),(.int .i64 zA.1.fD)],stb z1U 30 [(.int .i64 zy.1.fN),(.int .i64 zy.1.fD)],stb z1E 30 [(.int .i64 zx.1.fN),(.int .i64 zx.1.fD)],stb z1v 30 [(.int .i64 zu.1.fN),(.int .i64 zu.1.fD)],stb z19 30 [(.int .i64 zp.1.fN),(.int .i64 zp.1.fD)],fz ((zM ++ zP) ++ z10),stb z17 30 [(.int .i64 zk.1.fN),(.int .i64 zk.1.fD)],stb z11 30 [(.int .i64 zi.1.fN),(.int .i64 zi.1.fD)],stb zG 43 [(.int .i64 z8.1.fN),(.int .i64 z8.1.fD),(.int .i64 ze.fN),(.int .i64 ze.fD)],stb zD 30 [(.int .i64 z8.1.fN),(.int .i64 z8.1.fD)]]) (.there (.there (.there .h7)))); exact y3n (Z:=_)  (z3F:=z2e.1) (z3G:=zp.1) (r:=z2q) w pz  zz5) ?_
        refine WL.a (d:=177) rfl rfl rfl (q_m rfl) ?_
        refine WL.a (d:=181) rfl rfl rfl (yb rfl rfl) ?_
        refine WL.a (d:=182) rfl rfl rfl (yb rfl rfl) ?_
        refine WL.new (dd:=37) rfl rfl rfl (yh (cs:=[(.int .i64 0),(.int .i64 0)]) yo rfl) ?_
        intro z5s _
        refine WL.yc rfl rfl (yd (vs:=[(.int .i64 z2q.1.fN),(.int .i64 z2q.1.fD)]) (ds:=[(.int .i64 z2q.1.fN),(.int .i64 z2q.1.fD)]) yl rfl rfl rfl rfl (y3 rfl (y3 rfl yf)) .here (Nat.le_of_ble_eq_true rfl) rfl) ?_
        refine WL.a (d:=38) rfl rfl rfl (q_z rfl) ?_
        refine WL.nil ?_
        refine WX.a ?_
        refine WC.b ?_
        obtain ⟨zig,zqO,h⟩:=zb h
        obtain ⟨zih,zqP,h⟩:=zb h
        obtain ⟨zmX,zqQ,h⟩:=zb h
        refine WC.a ?_
        refine WL.a (d:=183) rfl rfl rfl (q_m rfl) ?_
        refine WL.a (d:=184) rfl rfl rfl (y3g rfl rfl) ?_
        refine WL.a (d:=185) rfl rfl rfl (q_m rfl) ?_
        refine WL.yF True [(29,(.pointer (some ⟨z2u,0,none⟩))),(33,(.pointer (some ⟨z3t,0,none⟩))),(36,(.bool z2e.2)),(37,(.pointer (some ⟨z5s,0,none⟩))),(38,(.int .i64 z2q.2)),(187,(.bool ((decide (zL.2 = 0)) && z18.2)))] [stb z5s 30 [(.int .i64 z2q.1.fN),(.int .i64 z2q.1.fD)],stb z5r 30 [(.int .i64 z2e.1.fN),(.int .i64 z2e.1.fD)],stb z3t 30 [(.int .i64 z18.1.fN),(.int .i64 z18.1.fD)],stb z2Q 30 [(.int .i64 zL.1.fN),(.int .i64 zL.1.fD)],stb z2u 30 [(.int .i64 zF.1.fN),(.int .i64 zF.1.fD)],stb z2t 30 [(.int .i64 zB.1.fN),(.int .i64 zB.1.fD)],stb z2o 30 [(.int .i64 zA.1.fN),(.int .i64 zA.1.fD)],stb z1U 30 [(.int .i64 zy.1.fN),(.int .i64 zy.1.fD)],stb z1E 30 [(.int .i64 zx.1.fN),(.int .i64 zx.1.fD)],stb z1v 30 [(.int .i64 zu.1.fN),(.int .i64 zu.1.fD)],stb z19 30 [(.int .i64 zp.1.fN),(.int .i64 zp.1.fD)],fz ((zM ++ zP) ++ z10),stb z17 30 [(.int .i64 zk.1.fN),(.int .i64 zk.1.fD)],stb z11 30 [(.int .i64 zi.1.fN),(.int .i64 zi.1.fD)],stb zG 43 [(.int .i64 z8.1.fN),(.int .i64 z8.1.fD),(.int .i64 ze.fN),(.int .i64 ze.fD)],stb zD 30 [(.int .i64 z8.1.fN),(.int .i64 z8.1.fD)]] 2 ?_ (fun _=>?_)
        ·rcases Bool.eq_false_or_eq_true (decide (zL.2 = 0)) with hb' | hb'
         ·have zqR:=hb'; clear hb'
          refine WL.pin (i:=185) rfl zqR ?_
          refine WL.a (d:=186) rfl rfl rfl (q_m rfl) ?_
          refine WL.a (d:=187) rfl rfl rfl (ys rfl rfl) ?_
          exact WL.ya () trivial (.cons rfl (.cons rfl (.cons rfl (.cons rfl (.cons rfl (.cons (zt (y3s zqR)) .nil)))))) (.cons .here (.cons .here (.cons .here (.cons .here (.cons .here (.cons .here (.cons .here (.cons .here (.cons .here (.cons .here (.cons .here (.cons .here (.cons .here (.cons .here (.cons .here (.cons .here .nil))))))))))))))))
         ·have zqS:=hb'; clear hb'
          refine WL.pin (i:=185) rfl zqS ?_
          refine WL.e rfl rfl rfl ?_
          refine WL.a (d:=187) rfl rfl rfl (yr rfl rfl) ?_
          exact WL.ya () trivial (.cons rfl (.cons rfl (.cons rfl (.cons rfl (.cons rfl (.cons (zt (y3r zqS)) .nil)))))) (.cons .here (.cons .here (.cons .here (.cons .here (.cons .here (.cons .here (.cons .here (.cons .here (.cons .here (.cons .here (.cons .here (.cons .here (.cons .here (.cons .here (.cons .here (.cons .here .nil))))))))))))))))
        ·skip
         refine WL.a (d:=188) rfl rfl rfl (q_m rfl) ?_
         refine WL.yF True [(29,(.pointer (some ⟨z2u,0,none⟩))),(33,(.pointer (some ⟨z3t,0,none⟩))),(37,(.pointer (some ⟨z5s,0,none⟩))),(38,(.int .i64 z2q.2)),(190,(.bool (((decide (zL.2 = 0)) && z18.2) && z2e.2)))] [stb z5s 30 [(.int .i64 z2q.1.fN),(.int .i64 z2q.1.fD)],stb z5r 30 [(.int .i64 z2e.1.fN),(.int .i64 z2e.1.fD)],stb z3t 30 [(.int .i64 z18.1.fN),(.int .i64 z18.1.fD)],stb z2Q 30 [(.int .i64 zL.1.fN),(.int .i64 zL.1.fD)],stb z2u 30 [(.int .i64 zF.1.fN),(.int .i64 zF.1.fD)],stb z2t 30 [(.int .i64 zB.1.fN),(.int .i64 zB.1.fD)],stb z2o 30 [(.int .i64 zA.1.fN),(.int .i64 zA.1.fD)],stb z1U 30 [(.int .i64 zy.1.fN),(.int .i64 zy.1.fD)],stb z1E 30 [(.int .i64 zx.1.fN),(.int .i64 zx.1.fD)],stb z1v 30 [(.int .i64 zu.1.fN),(.int .i64 zu.1.fD)],stb z19 30 [(.int .i64 zp.1.fN),(.int .i64 zp.1.fD)],fz ((zM ++ zP) ++ z10),stb z17 30 [(.int .i64 zk.1.fN),(.int .i64 zk.1.fD)],stb z11 30 [(.int .i64 zi.1.fN),(.int .i64 zi.1.fD)],stb zG 43 [(.int .i64 z8.1.fN),(.int .i64 z8.1.fD),(.int .i64 ze.fN),(.int .i64 ze.fD)],stb zD 30 [(.int .i64 z8.1.fN),(.int .i64 z8.1.fD)]] 2 ?_ (fun _=>?_)
         ·rcases Bool.eq_false_or_eq_true ((decide (zL.2 = 0)) && z18.2) with hb' | hb'
          ·have zqT:=hb'; clear hb'
           refine WL.pin (i:=188) rfl zqT ?_
           refine WL.a (d:=189) rfl rfl rfl (q_m rfl) ?_
           refine WL.a (d:=190) rfl rfl rfl (ys rfl rfl) ?_
           exact WL.ya () trivial (.cons rfl (.cons rfl (.cons rfl (.cons rfl (.cons (zt (y3s zqT)) .nil))))) (.cons .here (.cons .here (.cons .here (.cons .here (.cons .here (.cons .here (.cons .here (.cons .here (.cons .here (.cons .here (.cons .here (.cons .here (.cons .here (.cons .here (.cons .here (.cons .here .nil))))))))))))))))
          ·have zqU:=hb'; clear hb'
           refine WL.pin (i:=188) rfl zqU ?_
           refine WL.e rfl rfl rfl ?_
           refine WL.a (d:=190) rfl rfl rfl (yr rfl rfl) ?_
           exact WL.ya () trivial (.cons rfl (.cons rfl (.cons rfl (.cons rfl (.cons (zt (y3r zqU)) .nil))))) (.cons .here (.cons .here (.cons .here (.cons .here (.cons .here (.cons .here (.cons .here (.cons .here (.cons .here (.cons .here (.cons .here (.cons .here (.cons .here (.cons .here (.cons .here (.cons .here .nil))))))))))))))))
         ·skip
          refine WL.a (d:=191) rfl rfl rfl (q_m rfl) ?_
          refine WL.yF True [(29,(.pointer (some ⟨z2u,0,none⟩))),(33,(.pointer (some ⟨z3t,0,none⟩))),(37,(.pointer (some ⟨z5s,0,none⟩))),(194,(.bool ((((decide (zL.2 = 0)) && z18.2) && z2e.2) && (decide (z2q.2 = 0)))))] [stb z5s 30 [(.int .i64 z2q.1.fN),(.int .i64 z2q.1.fD)],stb z5r 30 [(.int .i64 z2e.1.fN),(.int .i64 z2e.1.fD)],stb z3t 30 [(.int .i64 z18.1.fN),(.int .i64 z18.1.fD)],stb z2Q 30 [(.int .i64 zL.1.fN),(.int .i64 zL.1.fD)],stb z2u 30 [(.int .i64 zF.1.fN),(.int .i64 zF.1.fD)],stb z2t 30 [(.int .i64 zB.1.fN),(.int .i64 zB.1.fD)],stb z2o 30 [(.int .i64 zA.1.fN),(.int .i64 zA.1.fD)],stb z1U 30 [(.int .i64 zy.1.fN),(.int .i64 zy.1.fD)],stb z1E 30 [(.int .i64 zx.1.fN),(.int .i64 zx.1.fD)],stb z1v 30 [(.int .i64 zu.1.fN),(.int .i64 zu.1.fD)],stb z19 30 [(.int .i64 zp.1.fN),(.int .i64 zp.1.fD)],fz ((zM ++ zP) ++ z10),stb z17 30 [(.int .i64 zk.1.fN),(.int .i64 zk.1.fD)],stb z11 30 [(.int .i64 zi.1.fN),(.int .i64 zi.1.fD)],stb zG 43 [(.int .i64 z8.1.fN),(.int .i64 z8.1.fD),(.int .i64 ze.fN),(.int .i64 ze.fD)],stb zD 30 [(.int .i64 z8.1.fN),(.int .i64 z8.1.fD)]] 3 ?_ (fun _=>?_)
          ·rcases Bool.eq_false_or_eq_true (((decide (zL.2 = 0)) && z18.2) && z2e.2) with hb' | hb'
           ·have zqV:=hb'; clear hb'
            refine WL.pin (i:=191) rfl zqV ?_
            refine WL.a (d:=192) rfl rfl rfl (q_m rfl) ?_
            refine WL.a (d:=193) rfl rfl rfl (y3g rfl rfl) ?_
            refine WL.a (d:=194) rfl rfl rfl (ys rfl rfl) ?_
            exact WL.ya () trivial (.cons rfl (.cons rfl (.cons rfl (.cons (zt (y3s zqV)) .nil)))) (.cons .here (.cons .here (.cons .here (.cons .here (.cons .here (.cons .here (.cons .here (.cons .here (.cons .here (.cons .here (.cons .here (.cons .here (.cons .here (.cons .here (.cons .here (.cons .here .nil))))))))))))))))
           ·have zqW:=hb'; clear hb'
            refine WL.pin (i:=191) rfl zqW ?_
            refine WL.e rfl rfl rfl ?_
            refine WL.e rfl rfl rfl ?_
            refine WL.a (d:=194) rfl rfl rfl (yr rfl rfl) ?_
            exact WL.ya () trivial (.cons rfl (.cons rfl (.cons rfl (.cons (zt (y3r zqW)) .nil)))) (.cons .here (.cons .here (.cons .here (.cons .here (.cons .here (.cons .here (.cons .here (.cons .here (.cons .here (.cons .here (.cons .here (.cons .here (.cons .here (.cons .here (.cons .here (.cons .here .nil))))))))))))))))
          ·skip
           refine WL.a (d:=195) rfl rfl rfl (q_m rfl) ?_
           refine WL.yF True [(29,(.pointer (some ⟨z2u,0,none⟩))),(37,(.pointer (some ⟨z5s,0,none⟩))),(200,(.bool zig))] [stb z5s 30 [(.int .i64 z2q.1.fN),(.int .i64 z2q.1.fD)],stb z5r 30 [(.int .i64 z2e.1.fN),(.int .i64 z2e.1.fD)],stb z3t 30 [(.int .i64 z18.1.fN),(.int .i64 z18.1.fD)],stb z2Q 30 [(.int .i64 zL.1.fN),(.int .i64 zL.1.fD)],stb z2u 30 [(.int .i64 zF.1.fN),(.int .i64 zF.1.fD)],stb z2t 30 [(.int .i64 zB.1.fN),(.int .i64 zB.1.fD)],stb z2o 30 [(.int .i64 zA.1.fN),(.int .i64 zA.1.fD)],stb z1U 30 [(.int .i64 zy.1.fN),(.int .i64 zy.1.fD)],stb z1E 30 [(.int .i64 zx.1.fN),(.int .i64 zx.1.fD)],stb z1v 30 [(.int .i64 zu.1.fN),(.int .i64 zu.1.fD)],stb z19 30 [(.int .i64 zp.1.fN),(.int .i64 zp.1.fD)],fz ((zM ++ zP) ++ z10),stb z17 30 [(.int .i64 zk.1.fN),(.int .i64 zk.1.fD)],stb z11 30 [(.int .i64 zi.1.fN),(.int .i64 zi.1.fD)],stb zG 43 [(.int .i64 z8.1.fN),(.int .i64 z8.1.fD),(.int .i64 ze.fN),(.int .i64 ze.fD)],stb zD 30 [(.int .i64 z8.1.fN),(.int .i64 z8.1.fD)]] 5 ?_ (fun _=>?_)
           ·rcases Bool.eq_false_or_eq_true ((((decide (zL.2 = 0)) && z18.2) && z2e.2) && (decide (z2q.2 = 0))) with hb' | hb'
            ·have zqX:=hb'; clear hb'
             have zgh:=yj zqO zqX
             obtain ⟨zmU,zz6,zgh⟩:=zb zgh
             replace zgh:=Option.some.inj zgh
             refine WL.pin (i:=195) rfl zqX ?_
             refine WL.a (d:=196) rfl rfl rfl (y6 (cs:=[(.int .i64 zF.1.fN),(.int .i64 zF.1.fD)]) y5 rfl rfl (y7 .h4)) ?_
             refine WL.a (d:=197) rfl rfl rfl (y6 (cs:=[(.int .i64 z18.1.fN),(.int .i64 z18.1.fD)]) y5 rfl rfl (y7 .h2)) ?_
             refine WL.b (dd:=198) rfl rfl rfl (zl (l:=[.tmp 196,.tmp 197]) Try.call18 (.cons rfl (.cons rfl .nil))) (.nil : Sel [stb z5s 30 [(.int .i64 z2q.1.fN),(.int .i64 z2q.1.fD)],stb z5r 30 [(.int .i64 z2e.1.fN),(.int .i64 z2e.1.fD)],stb z3t 30 [(.int .i64 z18.1.fN),(.int .i64 z18.1.fD)],stb z2Q 30 [(.int .i64 zL.1.fN),(.int .i64 zL.1.fD)],stb z2u 30 [(.int .i64 zF.1.fN),(.int .i64 zF.1.fD)],stb z2t 30 [(.int .i64 zB.1.fN),(.int .i64 zB.1.fD)],stb z2o 30 [(.int .i64 zA.1.fN),(.int .i64 zA.1.fD)],stb z1U 30 [(.int .i64 zy.1.fN),(.int .i64 zy.1.fD)],stb z1E 30 [(.int .i64 zx.1.fN),(.int .i64 zx.1.fD)],stb z1v 30 [(.int .i64 zu.1.fN),(.int .i64 zu.1.fD)],stb z19 30 [(.int .i64 zp.1.fN),(.int .i64 zp.1.fD)],fz ((zM ++ zP) ++ z10),stb z17 30 [(.int .i64 zk.1.fN),(.int .i64 zk.1.fD)],stb z11 30 [(.int .i64 zi.1.fN),(.int .i64 zi.1.fD)],stb zG 43 [(.int .i64 z8.1.fN),(.int .i64 z8.1.fD),(.int .i64 ze.fN),(.int .i64 ze.fD)],stb zD 30 [(.int .i64 z8.1.fN),(.int .i64 z8.1.fD)]] [] [stb z5s 30 [(.int .i64 z2q.1.fN),(.int .i64 z2q.1.fD)],stb z5r 30 [(.int .i64 z2e.1.fN),(.int .i64 z2e.1.fD)],stb z3t 30 [(.int .i64 z18.1.fN),(.int .i64 z18.1.fD)],stb z2Q 30 [(.int .i64 zL.1.fN),(.int .i64 zL.1.fD)],stb z2u 30 [(.int .i64 zF.1.fN),(.int .i64 zF.1.fD)],stb z2t 30 [(.int .i64 zB.1.fN),(.int .i64 zB.1.fD)],stb z2o 30 [(.int .i64 zA.1.fN),(.int .i64 zA.1.fD)],stb z1U 30 [(.int .i64 zy.1.fN),(.int .i64 zy.1.fD)],stb z1E 30 [(.int .i64 zx.1.fN),(.int .i64 zx.1.fD)],stb z1v 30 [(.int .i64 zu.1.fN),(.int .i64 zu.1.fD)],stb z19 30 [(.int .i64 zp.1.fN),(.int .i64 zp.1.fD)],fz ((zM ++ zP) ++ z10),stb z17 30 [(.int .i64 zk.1.fN),(.int .i64 zk.1.fD)],stb z11 30 [(.int .i64 zi.1.fN),(.int .i64 zi.1.fD)],stb zG 43 [(.int .i64 z8.1.fN),(.int .i64 z8.1.fD),(.int .i64 ze.fN),(.int .i64 ze.fD)],stb zD 30 [(.int .i64 z8.1.fN),(.int .i64 z8.1.fD)]]) (fun w hw=>by have pz:=(hz.call2 hw (.nil : Sel [stb z5s 30 [(.int .i64 z2q.1.fN),(.int .i64 z2q.1.fD)],stb z5r 30 [(.int .i64 z2e.1.fN),(.int .i64 z2e.1.fD)],stb z3t 30 [(.int .i64 z18.1.fN),(.int .i64 z18.1.fD)],stb z2Q 30 [(.int .i64 zL.1.fN),(.int .i64 zL.1.fD)],stb z2u 30 [(.int .i64 zF.1.fN),(.int .i64 zF.1.fD)],stb z2t 30 [(.int .i64 zB.1.fN),(.int .i64 zB.1.fD)],stb z2o 30 [(.int .i64 zA.1.fN),(.int .i64 zA.1.fD)],stb z1U 30 [(.int .i64 zy.1.fN),(.int .i64 zy.1.fD)],stb z1E 30 [(.int .i64 zx.1.fN),(.int .i64 zx.1.fD)],stb z1v 30 [(.int .i64 zu.1.fN),(.int .i64 zu.1.fD)],stb z19 30 [(.int .i64 zp.1.fN),(.int .i64 zp.1.fD)],fz ((zM ++ zP) ++ z10),stb z17 30 [(.int .i64 zk.1.fN),(.int .i64 zk.1.fD)],stb z11 30 [(.int .i64 zi.1.fN),(.int .i64 zi.1.fD)],stb zG 43 [(.int .i64 z8.1.fN),(.int .i64 z8.1.fD),(.int .i64 ze.fN),(.int .i64 ze.fD)],stb zD 30 [(.int .i64 z8.1.fN),(.int .i64 z8.1.fD)]] [] [stb z5s 30 [(.int .i64 z2q.1.fN),(.int .i64 z2q.1.fD)],stb z5r 30 [(.int .i64 z2e.1.fN),(.int .i64 z2e.1.fD)],stb z3t 30 [(.int .i64 z18.1.fN),(.int .i64 z18.1.fD)],stb z2Q 30 [(.int .i64 zL.1.fN),(.int .i64 zL.1.fD)],stb z2u 30 [(.int .i64 zF.1.fN),(.int .i64 zF.1.fD)],stb z2t 30 [(.int .i64 zB.1.fN),(.int .i64 zB.1.fD)],stb z2o 30 [(.int .i64 zA.1.fN),(.int .i64 zA.1.fD)],stb z1U 30 [(.int .i64 zy.1.fN),(.int .i64 zy.1.fD)],stb z1E 30 [(.int .i64 zx.1.fN),(.int .i64 zx.1.fD)],stb z1v 30 [(.int .i64 zu.1.fN),(.int .i64 zu.1.fD)],stb z19 30 [(.int .i64 zp.1.fN),(.int .i64 zp.1.fD)],fz ((zM ++ zP) ++ z10),stb z17 30 [(.int .i64 zk.1.fN),(.int .i64 zk.1.fD)],stb z11 30 [(.int .i64 zi.1.fN),(.int .i64 zi.1.fD)],stb zG 43 [(.int .i64 z8.1.fN),(.int .i64 z8.1.fD),(.int .i64 ze.fN),(.int .i64 ze.fD)],stb zD 30 [(.int .i64 z8.1.fN),(.int .i64 z8.1.fD)]]) (.there (.there (.there (.there .h7))))); exact y1Y (Z:=_)  (z2m:=zF.1) (z2n:=z18.1) (r:=zmU) w pz  zz6) ?_
             refine WL.a (d:=199) rfl rfl rfl (y5a rfl rfl) ?_
             refine WL.a (d:=200) rfl rfl rfl (ys rfl rfl) ?_
             exact WL.ya () trivial (.cons rfl (.cons rfl (.cons (zt zgh) .nil))) (.cons .here (.cons .here (.cons .here (.cons .here (.cons .here (.cons .here (.cons .here (.cons .here (.cons .here (.cons .here (.cons .here (.cons .here (.cons .here (.cons .here (.cons .here (.cons .here .nil))))))))))))))))
            ·have zqY:=hb'; clear hb'
             have zn4:=yk zqO zqY
             replace zn4:=Option.some.inj zn4
             refine WL.pin (i:=195) rfl zqY ?_
             refine WL.e rfl rfl rfl ?_
             refine WL.e rfl rfl rfl ?_
             refine WL.e rfl rfl rfl ?_
             refine WL.e rfl rfl rfl ?_
             refine WL.a (d:=200) rfl rfl rfl (yr rfl rfl) ?_
             exact WL.ya () trivial (.cons rfl (.cons rfl (.cons (zt zn4) .nil))) (.cons .here (.cons .here (.cons .here (.cons .here (.cons .here (.cons .here (.cons .here (.cons .here (.cons .here (.cons .here (.cons .here (.cons .here (.cons .here (.cons .here (.cons .here (.cons .here .nil))))))))))))))))
           ·skip
            refine WL.a (d:=201) rfl rfl rfl (q_m rfl) ?_
            refine WL.yF True [(206,(.bool zih))] [stb z5s 30 [(.int .i64 z2q.1.fN),(.int .i64 z2q.1.fD)],stb z5r 30 [(.int .i64 z2e.1.fN),(.int .i64 z2e.1.fD)],stb z3t 30 [(.int .i64 z18.1.fN),(.int .i64 z18.1.fD)],stb z2Q 30 [(.int .i64 zL.1.fN),(.int .i64 zL.1.fD)],stb z2u 30 [(.int .i64 zF.1.fN),(.int .i64 zF.1.fD)],stb z2t 30 [(.int .i64 zB.1.fN),(.int .i64 zB.1.fD)],stb z2o 30 [(.int .i64 zA.1.fN),(.int .i64 zA.1.fD)],stb z1U 30 [(.int .i64 zy.1.fN),(.int .i64 zy.1.fD)],stb z1E 30 [(.int .i64 zx.1.fN),(.int .i64 zx.1.fD)],stb z1v 30 [(.int .i64 zu.1.fN),(.int .i64 zu.1.fD)],stb z19 30 [(.int .i64 zp.1.fN),(.int .i64 zp.1.fD)],fz ((zM ++ zP) ++ z10),stb z17 30 [(.int .i64 zk.1.fN),(.int .i64 zk.1.fD)],stb z11 30 [(.int .i64 zi.1.fN),(.int .i64 zi.1.fD)],stb zG 43 [(.int .i64 z8.1.fN),(.int .i64 z8.1.fD),(.int .i64 ze.fN),(.int .i64 ze.fD)],stb zD 30 [(.int .i64 z8.1.fN),(.int .i64 z8.1.fD)]] 5 ?_ (fun _=>?_)
            ·rcases Bool.eq_false_or_eq_true zig with hb' | hb'
             ·have zqZ:=hb'; clear hb'
              have zgi:=yj zqP zqZ
              obtain ⟨zmV,zz7,zgi⟩:=zb zgi
              replace zgi:=Option.some.inj zgi
              refine WL.pin (i:=201) rfl zqZ ?_
              refine WL.a (d:=202) rfl rfl rfl (y6 (cs:=[(.int .i64 zF.1.fN),(.int .i64 zF.1.fD)]) y5 rfl rfl (y7 .h4)) ?_
              refine WL.a (d:=203) rfl rfl rfl (y6 (cs:=[(.int .i64 z2q.1.fN),(.int .i64 z2q.1.fD)]) y5 rfl rfl (y7 .here)) ?_
              refine WL.b (dd:=204) rfl rfl rfl (zl (l:=[.tmp 202,.tmp 203]) Try.call18 (.cons rfl (.cons rfl .nil))) (.nil : Sel [stb z5s 30 [(.int .i64 z2q.1.fN),(.int .i64 z2q.1.fD)],stb z5r 30 [(.int .i64 z2e.1.fN),(.int .i64 z2e.1.fD)],stb z3t 30 [(.int .i64 z18.1.fN),(.int .i64 z18.1.fD)],stb z2Q 30 [(.int .i64 zL.1.fN),(.int .i64 zL.1.fD)],stb z2u 30 [(.int .i64 zF.1.fN),(.int .i64 zF.1.fD)],stb z2t 30 [(.int .i64 zB.1.fN),(.int .i64 zB.1.fD)],stb z2o 30 [(.int .i64 zA.1.fN),(.int .i64 zA.1.fD)],stb z1U 30 [(.int .i64 zy.1.fN),(.int .i64 zy.1.fD)],stb z1E 30 [(.int .i64 zx.1.fN),(.int .i64 zx.1.fD)],stb z1v 30 [(.int .i64 zu.1.fN),(.int .i64 zu.1.fD)],stb z19 30 [(.int .i64 zp.1.fN),(.int .i64 zp.1.fD)],fz ((zM ++ zP) ++ z10),stb z17 30 [(.int .i64 zk.1.fN),(.int .i64 zk.1.fD)],stb z11 30 [(.int .i64 zi.1.fN),(.int .i64 zi.1.fD)],stb zG 43 [(.int .i64 z8.1.fN),(.int .i64 z8.1.fD),(.int .i64 ze.fN),(.int .i64 ze.fD)],stb zD 30 [(.int .i64 z8.1.fN),(.int .i64 z8.1.fD)]] [] [stb z5s 30 [(.int .i64 z2q.1.fN),(.int .i64 z2q.1.fD)],stb z5r 30 [(.int .i64 z2e.1.fN),(.int .i64 z2e.1.fD)],stb z3t 30 [(.int .i64 z18.1.fN),(.int .i64 z18.1.fD)],stb z2Q 30 [(.int .i64 zL.1.fN),(.int .i64 zL.1.fD)],stb z2u 30 [(.int .i64 zF.1.fN),(.int .i64 zF.1.fD)],stb z2t 30 [(.int .i64 zB.1.fN),(.int .i64 zB.1.fD)],stb z2o 30 [(.int .i64 zA.1.fN),(.int .i64 zA.1.fD)],stb z1U 30 [(.int .i64 zy.1.fN),(.int .i64 zy.1.fD)],stb z1E 30 [(.int .i64 zx.1.fN),(.int .i64 zx.1.fD)],stb z1v 30 [(.int .i64 zu.1.fN),(.int .i64 zu.1.fD)],stb z19 30 [(.int .i64 zp.1.fN),(.int .i64 zp.1.fD)],fz ((zM ++ zP) ++ z10),stb z17 30 [(.int .i64 zk.1.fN),(.int .i64 zk.1.fD)],stb z11 30 [(.int .i64 zi.1.fN),(.int .i64 zi.1.fD)],stb zG 43 [(.int .i64 z8.1.fN),(.int .i64 z8.1.fD),(.int .i64 ze.fN),(.int .i64 ze.fD)],stb zD 30 [(.int .i64 z8.1.fN),(.int .i64 z8.1.fD)]]) (fun w hw=>by have pz:=(hz.call2 hw (.nil : Sel [stb z5s 30 [(.int .i64 z2q.1.fN),(.int .i64 z2q.1.fD)],stb z5r 30 [(.int .i64 z2e.1.fN),(.int .i64 z2e.1.fD)],stb z3t 30 [(.int .i64 z18.1.fN),(.int .i64 z18.1.fD)],stb z2Q 30 [(.int .i64 zL.1.fN),(.int .i64 zL.1.fD)],stb z2u 30 [(.int .i64 zF.1.fN),(.int .i64 zF.1.fD)],stb z2t 30 [(.int .i64 zB.1.fN),(.int .i64 zB.1.fD)],stb z2o 30 [(.int .i64 zA.1.fN),(.int .i64 zA.1.fD)],stb z1U 30 [(.int .i64 zy.1.fN),(.int .i64 zy.1.fD)],stb z1E 30 [(.int .i64 zx.1.fN),(.int .i64 zx.1.fD)],stb z1v 30 [(.int .i64 zu.1.fN),(.int .i64 zu.1.fD)],stb z19 30 [(.int .i64 zp.1.fN),(.int .i64 zp.1.fD)],fz ((zM ++ zP) ++ z10),stb z17 30 [(.int .i64 zk.1.fN),(.int .i64 zk.1.fD)],stb z11 30 [(.int .i64 zi.1.fN),(.int .i64 zi.1.fD)],stb zG 43 [(.int .i64 z8.1.fN),(.int .i64 z8.1.fD),(.int .i64 ze.fN),(.int .i64 ze.fD)],stb zD 30 [(.int .i64 z8.1.fN),(.int .i64 z8.1.fD)]] [] [stb z5s 30 [(.int .i64 z2q.1.fN),(.int .i64 z2q.1.fD)],stb z5r 30 [(.int .i64 z2e.1.fN),(.int .i64 z2e.1.fD)],stb z3t 30 [(.int .i64 z18.1.fN),(.int .i64 z18.1.fD)],stb z2Q 30 [(.int .i64 zL.1.fN),(.int .i64 zL.1.fD)],stb z2u 30 [(.int .i64 zF.1.fN),(.int .i64 zF.1.fD)],stb z2t 30 [(.int .i64 zB.1.fN),(.int .i64 zB.1.fD)],stb z2o 30 [(.int .i64 zA.1.fN),(.int .i64 zA.1.fD)],stb z1U 30 [(.int .i64 zy.1.fN),(.int .i64 zy.1.fD)],stb z1E 30 [(.int .i64 zx.1.fN),(.int .i64 zx.1.fD)],stb z1v 30 [(.int .i64 zu.1.fN),(.int .i64 zu.1.fD)],stb z19 30 [(.int .i64 zp.1.fN),(.int .i64 zp.1.fD)],fz ((zM ++ zP) ++ z10),stb z17 30 [(.int .i64 zk.1.fN),(.int .i64 zk.1.fD)],stb z11 30 [(.int .i64 zi.1.fN),(.int .i64 zi.1.fD)],stb zG 43 [(.int .i64 z8.1.fN),(.int .i64 z8.1.fD),(.int .i64 ze.fN),(.int .i64 ze.fD)],stb zD 30 [(.int .i64 z8.1.fN),(.int .i64 z8.1.fD)]]) (.there (.there (.there (.there .h7))))); exact y1Y (Z:=_)  (z2m:=zF.1) (z2n:=z2q.1) (r:=zmV) w pz  zz7) ?_
              refine WL.a (d:=205) rfl rfl rfl (y5a rfl rfl) ?_
              refine WL.a (d:=206) rfl rfl rfl (ys rfl rfl) ?_
              exact WL.ya () trivial (.cons (zt zgi) .nil) (.cons .here (.cons .here (.cons .here (.cons .here (.cons .here (.cons .here (.cons .here (.cons .here (.cons .here (.cons .here (.cons .here (.cons .here (.cons .here (.cons .here (.cons .here (.cons .here .nil))))))))))))))))
             ·have zr0:=hb'; clear hb'
              have zn5:=yk zqP zr0
              replace zn5:=Option.some.inj zn5
              refine WL.pin (i:=201) rfl zr0 ?_
              refine WL.e rfl rfl rfl ?_
              refine WL.e rfl rfl rfl ?_
              refine WL.e rfl rfl rfl ?_
              refine WL.e rfl rfl rfl ?_
              refine WL.a (d:=206) rfl rfl rfl (yr rfl rfl) ?_
              exact WL.ya () trivial (.cons (zt zn5) .nil) (.cons .here (.cons .here (.cons .here (.cons .here (.cons .here (.cons .here (.cons .here (.cons .here (.cons .here (.cons .here (.cons .here (.cons .here (.cons .here (.cons .here (.cons .here (.cons .here .nil))))))))))))))))
            ·skip
             refine WL.a (d:=207) rfl rfl rfl (q_m rfl) ?_
             refine WL.y5R (fun (zeD : Zp)=>Zle (Z ++ ((zM ++ zP) ++ z10)) (Z ++ zeD)) (fun (zeD : Zp)=>[(209,(.bool zmX))]) (fun (zeD : Zp)=>[stb z5s 30 [(.int .i64 z2q.1.fN),(.int .i64 z2q.1.fD)],stb z5r 30 [(.int .i64 z2e.1.fN),(.int .i64 z2e.1.fD)],stb z3t 30 [(.int .i64 z18.1.fN),(.int .i64 z18.1.fD)],stb z2Q 30 [(.int .i64 zL.1.fN),(.int .i64 zL.1.fD)],stb z2u 30 [(.int .i64 zF.1.fN),(.int .i64 zF.1.fD)],stb z2t 30 [(.int .i64 zB.1.fN),(.int .i64 zB.1.fD)],stb z2o 30 [(.int .i64 zA.1.fN),(.int .i64 zA.1.fD)],stb z1U 30 [(.int .i64 zy.1.fN),(.int .i64 zy.1.fD)],stb z1E 30 [(.int .i64 zx.1.fN),(.int .i64 zx.1.fD)],stb z1v 30 [(.int .i64 zu.1.fN),(.int .i64 zu.1.fD)],stb z19 30 [(.int .i64 zp.1.fN),(.int .i64 zp.1.fD)],fz zeD,stb z17 30 [(.int .i64 zk.1.fN),(.int .i64 zk.1.fD)],stb z11 30 [(.int .i64 zi.1.fN),(.int .i64 zi.1.fD)],stb zG 43 [(.int .i64 z8.1.fN),(.int .i64 z8.1.fD),(.int .i64 ze.fN),(.int .i64 ze.fD)],stb zD 30 [(.int .i64 z8.1.fN),(.int .i64 z8.1.fD)]]) 2 ?_ (fun zeD zBS=>?_)
             ·rcases Bool.eq_false_or_eq_true zih with hb' | hb'
              ·have zr1:=hb'; clear hb'
               have zgj:=yj zqQ zr1
               obtain ⟨zmW,zz8,zgj⟩:=zb zgj
               replace zgj:=Option.some.inj zgj
               refine WL.pin (i:=207) rfl zr1 ?_
               refine WL.y2A (dd:=208) rfl rfl rfl (zl (l:=[]) Try.call17 .nil) (.nil : Sel [stb z5s 30 [(.int .i64 z2q.1.fN),(.int .i64 z2q.1.fD)],stb z5r 30 [(.int .i64 z2e.1.fN),(.int .i64 z2e.1.fD)],stb z3t 30 [(.int .i64 z18.1.fN),(.int .i64 z18.1.fD)],stb z2Q 30 [(.int .i64 zL.1.fN),(.int .i64 zL.1.fD)],stb z2u 30 [(.int .i64 zF.1.fN),(.int .i64 zF.1.fD)],stb z2t 30 [(.int .i64 zB.1.fN),(.int .i64 zB.1.fD)],stb z2o 30 [(.int .i64 zA.1.fN),(.int .i64 zA.1.fD)],stb z1U 30 [(.int .i64 zy.1.fN),(.int .i64 zy.1.fD)],stb z1E 30 [(.int .i64 zx.1.fN),(.int .i64 zx.1.fD)],stb z1v 30 [(.int .i64 zu.1.fN),(.int .i64 zu.1.fD)],stb z19 30 [(.int .i64 zp.1.fN),(.int .i64 zp.1.fD)],fz ((zM ++ zP) ++ z10),stb z17 30 [(.int .i64 zk.1.fN),(.int .i64 zk.1.fD)],stb z11 30 [(.int .i64 zi.1.fN),(.int .i64 zi.1.fD)],stb zG 43 [(.int .i64 z8.1.fN),(.int .i64 z8.1.fD),(.int .i64 ze.fN),(.int .i64 ze.fD)],stb zD 30 [(.int .i64 z8.1.fN),(.int .i64 z8.1.fD)]] [] [stb z5s 30 [(.int .i64 z2q.1.fN),(.int .i64 z2q.1.fD)],stb z5r 30 [(.int .i64 z2e.1.fN),(.int .i64 z2e.1.fD)],stb z3t 30 [(.int .i64 z18.1.fN),(.int .i64 z18.1.fD)],stb z2Q 30 [(.int .i64 zL.1.fN),(.int .i64 zL.1.fD)],stb z2u 30 [(.int .i64 zF.1.fN),(.int .i64 zF.1.fD)],stb z2t 30 [(.int .i64 zB.1.fN),(.int .i64 zB.1.fD)],stb z2o 30 [(.int .i64 zA.1.fN),(.int .i64 zA.1.fD)],stb z1U 30 [(.int .i64 zy.1.fN),(.int .i64 zy.1.fD)],stb z1E 30 [(.int .i64 zx.1.fN),(.int .i64 zx.1.fD)],stb z1v 30 [(.int .i64 zu.1.fN),(.int .i64 zu.1.fD)],stb z19 30 [(.int .i64 zp.1.fN),(.int .i64 zp.1.fD)],fz ((zM ++ zP) ++ z10),stb z17 30 [(.int .i64 zk.1.fN),(.int .i64 zk.1.fD)],stb z11 30 [(.int .i64 zi.1.fN),(.int .i64 zi.1.fD)],stb zG 43 [(.int .i64 z8.1.fN),(.int .i64 z8.1.fD),(.int .i64 ze.fN),(.int .i64 ze.fD)],stb zD 30 [(.int .i64 z8.1.fN),(.int .i64 z8.1.fD)]]) (fun w hw=>by have pz:=(hz.call2 hw (.nil : Sel [stb z5s 30 [(.int .i64 z2q.1.fN),(.int .i64 z2q.1.fD)],stb z5r 30 [(.int .i64 z2e.1.fN),(.int .i64 z2e.1.fD)],stb z3t 30 [(.int .i64 z18.1.fN),(.int .i64 z18.1.fD)],stb z2Q 30 [(.int .i64 zL.1.fN),(.int .i64 zL.1.fD)],stb z2u 30 [(.int .i64 zF.1.fN),(.int .i64 zF.1.fD)],stb z2t 30 [(.int .i64 zB.1.fN),(.int .i64 zB.1.fD)],stb z2o 30 [(.int .i64 zA.1.fN),(.int .i64 zA.1.fD)],stb z1U 30 [(.int .i64 zy.1.fN),(.int .i64 zy.1.fD)],stb z1E 30 [(.int .i64 zx.1.fN),(.int .i64 zx.1.fD)],stb z1v 30 [(.int .i64 zu.1.fN),(.int .i64 zu.1.fD)],stb z19 30 [(.int .i64 zp.1.fN),(.int .i64 zp.1.fD)],fz ((zM ++ zP) ++ z10),stb z17 30 [(.int .i64 zk.1.fN),(.int .i64 zk.1.fD)],stb z11 30 [(.int .i64 zi.1.fN),(.int .i64 zi.1.fD)],stb zG 43 [(.int .i64 z8.1.fN),(.int .i64 z8.1.fD),(.int .i64 ze.fN),(.int .i64 ze.fD)],stb zD 30 [(.int .i64 z8.1.fN),(.int .i64 z8.1.fD)]] [] [stb z5s 30 [(.int .i64 z2q.1.fN),(.int .i64 z2q.1.fD)],stb z5r 30 [(.int .i64 z2e.1.fN),(.int .i64 z2e.1.fD)],stb z3t 30 [(.int .i64 z18.1.fN),(.int .i64 z18.1.fD)],stb z2Q 30 [(.int .i64 zL.1.fN),(.int .i64 zL.1.fD)],stb z2u 30 [(.int .i64 zF.1.fN),(.int .i64 zF.1.fD)],stb z2t 30 [(.int .i64 zB.1.fN),(.int .i64 zB.1.fD)],stb z2o 30 [(.int .i64 zA.1.fN),(.int .i64 zA.1.fD)],stb z1U 30 [(.int .i64 zy.1.fN),(.int .i64 zy.1.fD)],stb z1E 30 [(.int .i64 zx.1.fN),(.int .i64 zx.1.fD)],stb z1v 30 [(.int .i64 zu.1.fN),(.int .i64 zu.1.fD)],stb z19 30 [(.int .i64 zp.1.fN),(.int .i64 zp.1.fD)],fz ((zM ++ zP) ++ z10),stb z17 30 [(.int .i64 zk.1.fN),(.int .i64 zk.1.fD)],stb z11 30 [(.int .i64 zi.1.fN),(.int .i64 zi.1.fD)],stb zG 43 [(.int .i64 z8.1.fN),(.int .i64 z8.1.fD),(.int .i64 ze.fN),(.int .i64 ze.fD)],stb zD 30 [(.int .i64 z8.1.fN),(.int .i64 z8.1.fD)]]) (.there (.there (.there (.there .h7))))); exact y78 (Z:=_)   (r:=zmW) w pz  zz8) ?_
               rintro zz9 _
               refine WL.merge .here (.there (.there (.there (.there .h7)))) ?_
               refine WL.a (d:=209) rfl rfl rfl (ys rfl rfl) ?_
               exact WL.ya (G:=Zp) (((zM ++ zP) ++ z10) ++ zz9) ((Zle.left _ _).trans (Zle.yi _ _ _)) (.cons (zt zgj) .nil) (.cons .h1 (.cons .h1 (.cons .h1 (.cons .h1 (.cons .h1 (.cons .h1 (.cons .h1 (.cons .h1 (.cons .h1 (.cons .h1 (.cons .h1 (.cons .here (.cons .here (.cons .here (.cons .here (.cons .here .nil))))))))))))))))
              ·have zr2:=hb'; clear hb'
               have zn6:=yk zqQ zr2
               replace zn6:=Option.some.inj zn6
               refine WL.pin (i:=207) rfl zr2 ?_
               refine WL.e rfl rfl rfl ?_
               refine WL.a (d:=209) rfl rfl rfl (yr rfl rfl) ?_
               exact WL.ya (G:=Zp) ((zM ++ zP) ++ z10) (Zle.refl _) (.cons (zt zn6) .nil) (.cons .here (.cons .here (.cons .here (.cons .here (.cons .here (.cons .here (.cons .here (.cons .here (.cons .here (.cons .here (.cons .here (.cons .here (.cons .here (.cons .here (.cons .here (.cons .here .nil))))))))))))))))
             ·skip
              refine WL.a (d:=10) rfl rfl rfl (q_z rfl) ?_
              refine WL.nil ?_
              refine WX.a ?_
              refine WC.ret ?_
              obtain rfl:=Option.some.inj h
              refine WX.y9 Try.results4 (.tmp rfl .nil) (fun w hw=>?_)
              exact ⟨zeD,yI rfl,trivial,hw.sub (.cons (.there (.there (.there (.there .h7)))) .nil)⟩
end Go.Proofs.Ytakfmdiiehcbdaa
