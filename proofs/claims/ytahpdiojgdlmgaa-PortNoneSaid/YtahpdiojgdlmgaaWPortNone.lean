/- A part of this claim's proof: models of functions, walks, plain laws. No conditions. -/
import Derived.Test.YtahpdiojgdlmgaaW30a
namespace Go.Proofs.Ytahpdiojgdlmgaa
open Go Go.RowKit Sep
set_option linter.all false
set_option maxRecDepth 30000
set_option maxHeartbeats 4000000
def y1 (n_1 : Int) (z1p : Option Bool) : Nat → Int → Option Bool
 | 0,_=>none
 | z2Q + 1,zt=>if decide (zt < ((([(⟨min n_1 0,0,0⟩ : S59),(⟨max n_1 17,0,0⟩ : S59),(⟨1,min n_1 (-1),0⟩ : S59),(⟨1,max n_1 1001,0⟩ : S59),(⟨1,0,min n_1 (-1)⟩ : S59),(⟨1,0,max n_1 1073741825⟩ : S59)] : List S59).length : Nat) : Int)) then chk ((0 : Int) ≤ zt ∧ zt < ((([(⟨min n_1 0,0,0⟩ : S59),(⟨max n_1 17,0,0⟩ : S59),(⟨1,min n_1 (-1),0⟩ : S59),(⟨1,max n_1 1001,0⟩ : S59),(⟨1,0,min n_1 (-1)⟩ : S59),(⟨1,0,max n_1 1073741825⟩ : S59)] : List S59).length : Nat) : Int)) ((ye ((nth ([(⟨min n_1 0,0,0⟩ : S59),(⟨max n_1 17,0,0⟩ : S59),(⟨1,min n_1 (-1),0⟩ : S59),(⟨1,max n_1 1001,0⟩ : S59),(⟨1,0,min n_1 (-1)⟩ : S59),(⟨1,0,max n_1 1073741825⟩ : S59)] : List S59) zt).a0) ((nth ([(⟨min n_1 0,0,0⟩ : S59),(⟨max n_1 17,0,0⟩ : S59),(⟨1,min n_1 (-1),0⟩ : S59),(⟨1,max n_1 1001,0⟩ : S59),(⟨1,0,min n_1 (-1)⟩ : S59),(⟨1,0,max n_1 1073741825⟩ : S59)] : List S59) zt).a1) ((nth ([(⟨min n_1 0,0,0⟩ : S59),(⟨max n_1 17,0,0⟩ : S59),(⟨1,min n_1 (-1),0⟩ : S59),(⟨1,max n_1 1001,0⟩ : S59),(⟨1,0,min n_1 (-1)⟩ : S59),(⟨1,0,max n_1 1073741825⟩ : S59)] : List S59) zt).a2)).bind fun z3Q=>y1 n_1 z1p z2Q (i64 (zt + 1))) else z1p
theorem y1t {n : Nat} {n_1 : Int} {z1p : Option Bool} {zt : Int} {r : Bool} (h : y1 n_1 z1p n zt = some r) : ∃ m,n = m + 1:=by
 cases n with
 | zero=>cases h
 | succ m=>exact ⟨m,rfl⟩
def yS (n_1 : Int) (t_2 : Int) (size_3 : Int) : Option Bool :=
 jp0 (jp0 ((yT).bind fun z1Y=>some z1Y) fun z1p=>y1 n_1 z1p FUEL 0) fun z2R=>chk ((0 : Int) ≤ 0 ∧ 0 < ((([(),()] : List Unit).length : Nat) : Int)) ((yW t_2 size_3).bind fun z3R=>(yP t_2).bind fun z3S=>(yQ).bind fun z3T=>chk ((0 : Int) ≤ 1 ∧ 1 < ((([(),()] : List Unit).length : Nat) : Int)) ((yE (⟨(⟨0,0,0⟩ : Sport_numbers),0,0,([] : List Sport_frame)⟩ : Sport_Port) t_2 size_3).bind fun z3=>(if (decide (z3.1 ≠ 0)) || (decide (z3.2.1 ≠ 1)) then some true else (ym z3.2.2 t_2).bind fun z2S=>some (decide (z2S ≠ 0))).bind fun z27=>(if z27 then some true else (yy z3.2.2).bind fun z2T=>some (decide (z2T ≠ 0))).bind fun z2U=>if z2U then some false else z2R))
set_option maxRecDepth 20000 in
theorem y2a (Z : Zp)   (n_1 : Int) (t_2 : Int) (size_3 : Int) (r : Bool) (w₀ : World) (hz : PZ [] w₀ Z)
  (h : yS n_1 t_2 size_3 = some r) :
  Calls Try.prog 7 #[(.int .i64 n_1),(.int .i64 t_2),(.int .i64 size_3)] w₀ fun e w'=>e = .returned (.bool r) ∧ Hp [] w₀ w' []:=by
 unfold yS at h
 refine Calls.ya (vs:=[(.int .i64 n_1),(.int .i64 t_2),(.int .i64 size_3)]) (pre:=[]) (env:=[(0,(.int .i64 n_1)),(1,(.int .i64 t_2)),(2,(.int .i64 size_3))]) Try.func7 rfl Try.ntmps7 rfl (Hp.nil w₀ _) rfl ?_
 refine WC.b ?_
 refine WC.a ?_
 refine WL.a (d:=6) rfl rfl rfl (q_z rfl) ?_
 refine WL.nil ?_
 refine WX.a ?_
 obtain ⟨z2R,z4N,h⟩:=y26 h
 refine WC.y1I ((z2R = some r)) ([(0,(.int .i64 n_1))]) ([]) ?_ ?_
 ·skip
  refine WC.b ?_
  refine WC.a ?_
  refine WL.a (d:=15) rfl rfl rfl (yF (v:=(.agg #[(.int .i64 0),(.int .i64 0),(.int .i64 0),(.int .i64 0),(.int .i64 0),(.slice none 0 0)])) (Eos.parts (l:=[]) .nil []) (fun _=>by kernel_rfl)) ?_
  refine WL.new (dd:=16) rfl rfl rfl (y1n (cs:=[(.int .i64 0),(.int .i64 0),(.int .i64 0),(.int .i64 0),(.int .i64 0),(.slice none 0 0)]) rfl rfl) ?_
  intro z6 _
  refine WL.new (dd:=17) rfl rfl rfl (y1q (cs:=[(.pointer none),(.pointer (some ⟨z6,0,none⟩))]) y2I (Eos.parts (l:=[.const (.pointer none),.tmp 16]) (.cons rfl (.cons rfl .nil)) [0,1]) (fun _=>by kernel_rfl) rfl (by unfold maxLen; omega)) ?_
  intro zs _
  refine WL.a (d:=18) rfl rfl rfl (y2e Try.underlying58 rfl) ?_
  refine WL.a (d:=19) rfl rfl rfl (q_m rfl) ?_
  refine WL.nil ?_
  refine WX.a ?_
  refine WC.block ?_
  refine WC.unroll ?_
  refine WC.b ?_
  refine WC.a ?_
  refine WL.a (d:=20) rfl rfl rfl (yO rfl rfl) ?_
  refine WL.nil ?_
  refine WX.a ?_
  refine WC.b ?_
  refine WC.cond rfl (fun h'=>?_) (fun h'=>(by cases h'))
  clear h'
  refine WC.skip ?_
  refine WX.a ?_
  refine WC.b ?_
  refine WC.block ?_
  refine WC.b ?_
  obtain ⟨z3U,h⟩:=yJ h
  refine WC.a ?_
  have z4O : (([(.pointer none),(.pointer (some ⟨z6,0,none⟩))]) : List Value).drop ((0 : Int).toNat * 1) = [(.pointer none)] ++ [(.pointer (some ⟨z6,0,none⟩))]:=rfl
  refine WL.a (d:=21) rfl rfl rfl (yu y2I rfl rfl z3U.1 z3U.2 y1B) ?_
  refine WL.a (d:=22) rfl rfl rfl (y7 y2U rfl (y2C .here (y2T z4O 0 _ rfl))) ?_
  refine WL.a (d:=8) rfl rfl rfl (q_z rfl) ?_
  refine WL.nil ?_
  refine WX.a ?_
  refine WC.b ?_
  obtain ⟨z3R,z4P,h⟩:=zz h
  refine WC.a ?_
  refine WL.a (d:=24) rfl rfl rfl (q_m rfl) ?_
  refine WL.a (d:=25) rfl rfl rfl (q_m rfl) ?_
  refine WL.a (d:=26) rfl rfl rfl (q_m rfl) ?_
  refine WL.b (dd:=27) rfl rfl rfl (zJ (l:=[.tmp 24,.tmp 25,.tmp 26]) Try.call16 (.cons rfl (.cons rfl (.cons rfl .nil)))) (.nil : Sel [row (.slice (some ⟨zs,0,none⟩) (([(),()] : List Unit).length) 2) 23 1 [(.pointer none),(.pointer (some ⟨z6,0,none⟩))],stb z6 57 [(.int .i64 0),(.int .i64 0),(.int .i64 0),(.int .i64 0),(.int .i64 0),(.slice none 0 0)]] [] [row (.slice (some ⟨zs,0,none⟩) (([(),()] : List Unit).length) 2) 23 1 [(.pointer none),(.pointer (some ⟨z6,0,none⟩))],stb z6 57 [(.int .i64 0),(.int .i64 0),(.int .i64 0),(.int .i64 0),(.int .i64 0),(.slice none 0 0)]]) (fun w hw=>by have pz:=(hz.call hw (.nil : Sel [row (.slice (some ⟨zs,0,none⟩) (([(),()] : List Unit).length) 2) 23 1 [(.pointer none),(.pointer (some ⟨z6,0,none⟩))],stb z6 57 [(.int .i64 0),(.int .i64 0),(.int .i64 0),(.int .i64 0),(.int .i64 0),(.slice none 0 0)]] [] [row (.slice (some ⟨zs,0,none⟩) (([(),()] : List Unit).length) 2) 23 1 [(.pointer none),(.pointer (some ⟨z6,0,none⟩))],stb z6 57 [(.int .i64 0),(.int .i64 0),(.int .i64 0),(.int .i64 0),(.int .i64 0),(.slice none 0 0)]])); exact y2i (Z:=_)  (t_11:=t_2) (size_12:=size_3) (r:=z3R) w pz  z4P) ?_
  refine WL.a (d:=23) rfl rfl rfl (q_m rfl) ?_
  refine WL.a (d:=28) rfl rfl rfl (yz rfl rfl) ?_
  refine WL.a (d:=29) rfl rfl rfl (yz rfl rfl) ?_
  refine WL.a (d:=9) rfl rfl rfl (q_z rfl) ?_
  refine WL.a (d:=10) rfl rfl rfl (q_z rfl) ?_
  refine WL.nil ?_
  refine WX.a ?_
  refine WC.b ?_
  obtain ⟨z3S,z4Q,h⟩:=zz h
  obtain ⟨z3T,z4R,h⟩:=zz h
  refine WC.a ?_
  refine WL.a (d:=30) rfl rfl rfl (q_m rfl) ?_
  refine WL.a (d:=31) rfl rfl rfl (y18 rfl rfl) ?_
  refine WL.a (d:=32) rfl rfl rfl (q_m rfl) ?_
  refine WL.a (d:=33) rfl rfl rfl (q_m rfl) ?_
  refine WL.a (d:=34) rfl rfl rfl (y18 rfl rfl) ?_
  refine WL.a (d:=35) rfl rfl rfl (y8 rfl rfl) ?_
  refine WL.a (d:=36) rfl rfl rfl (q_m rfl) ?_
  refine WL.a (d:=37) rfl rfl rfl (q_m rfl) ?_
  refine WL.a (d:=38) rfl rfl rfl (q_m rfl) ?_
  refine WL.b (dd:=39) rfl rfl rfl (zJ (l:=[.tmp 37,.tmp 38]) Try.call12 (.cons rfl (.cons rfl .nil))) (.nil : Sel [row (.slice (some ⟨zs,0,none⟩) (([(),()] : List Unit).length) 2) 23 1 [(.pointer none),(.pointer (some ⟨z6,0,none⟩))],stb z6 57 [(.int .i64 0),(.int .i64 0),(.int .i64 0),(.int .i64 0),(.int .i64 0),(.slice none 0 0)]] [] [row (.slice (some ⟨zs,0,none⟩) (([(),()] : List Unit).length) 2) 23 1 [(.pointer none),(.pointer (some ⟨z6,0,none⟩))],stb z6 57 [(.int .i64 0),(.int .i64 0),(.int .i64 0),(.int .i64 0),(.int .i64 0),(.slice none 0 0)]]) (fun w hw=>by have pz:=(hz.call hw (.nil : Sel [row (.slice (some ⟨zs,0,none⟩) (([(),()] : List Unit).length) 2) 23 1 [(.pointer none),(.pointer (some ⟨z6,0,none⟩))],stb z6 57 [(.int .i64 0),(.int .i64 0),(.int .i64 0),(.int .i64 0),(.int .i64 0),(.slice none 0 0)]] [] [row (.slice (some ⟨zs,0,none⟩) (([(),()] : List Unit).length) 2) 23 1 [(.pointer none),(.pointer (some ⟨z6,0,none⟩))],stb z6 57 [(.int .i64 0),(.int .i64 0),(.int .i64 0),(.int .i64 0),(.int .i64 0),(.slice none 0 0)]])); exact y28 (Z:=_)  (t_27:=t_2) (r:=z3S) w pz  z4Q) ?_
  refine WL.a (d:=40) rfl rfl rfl (y18 rfl rfl) ?_
  refine WL.a (d:=41) rfl rfl rfl (y8 rfl rfl) ?_
  refine WL.a (d:=42) rfl rfl rfl (q_m rfl) ?_
  refine WL.a (d:=43) rfl rfl rfl (q_m rfl) ?_
  refine WL.b (dd:=44) rfl rfl rfl (zJ (l:=[.tmp 43]) Try.call14 (.cons rfl .nil)) (.nil : Sel [row (.slice (some ⟨zs,0,none⟩) (([(),()] : List Unit).length) 2) 23 1 [(.pointer none),(.pointer (some ⟨z6,0,none⟩))],stb z6 57 [(.int .i64 0),(.int .i64 0),(.int .i64 0),(.int .i64 0),(.int .i64 0),(.slice none 0 0)]] [] [row (.slice (some ⟨zs,0,none⟩) (([(),()] : List Unit).length) 2) 23 1 [(.pointer none),(.pointer (some ⟨z6,0,none⟩))],stb z6 57 [(.int .i64 0),(.int .i64 0),(.int .i64 0),(.int .i64 0),(.int .i64 0),(.slice none 0 0)]]) (fun w hw=>by have pz:=(hz.call hw (.nil : Sel [row (.slice (some ⟨zs,0,none⟩) (([(),()] : List Unit).length) 2) 23 1 [(.pointer none),(.pointer (some ⟨z6,0,none⟩))],stb z6 57 [(.int .i64 0),(.int .i64 0),(.int .i64 0),(.int .i64 0),(.int .i64 0),(.slice none 0 0)]] [] [row (.slice (some ⟨zs,0,none⟩) (([(),()] : List Unit).length) 2) 23 1 [(.pointer none),(.pointer (some ⟨z6,0,none⟩))],stb z6 57 [(.int .i64 0),(.int .i64 0),(.int .i64 0),(.int .i64 0),(.int .i64 0),(.slice none 0 0)]])); exact y29 (Z:=_)   (r:=z3T) w pz  z4R) ?_
  refine WL.a (d:=45) rfl rfl rfl (y18 rfl rfl) ?_
  refine WL.a (d:=46) rfl rfl rfl (y8 rfl rfl) ?_
  refine WL.nil ?_
  refine WX.a ?_
  refine WC.cond rfl (fun h'=>(by cases h')) (fun h'=>?_)
  clear h'
  refine WC.skip ?_
  refine WX.yj ?_
  refine WX.a ?_
  refine WC.a ?_
  refine WL.a (d:=47) rfl rfl rfl (y14 rfl rfl rfl) ?_
  refine WL.a (d:=19) rfl rfl rfl (q_m rfl) ?_
  refine WL.nil ?_
  refine WX.again ?_
  refine WC.b ?_
  refine WC.a ?_
  refine WL.a (d:=20) rfl rfl rfl (yO rfl rfl) ?_
  refine WL.nil ?_
  refine WX.a ?_
  refine WC.b ?_
  refine WC.cond rfl (fun h'=>?_) (fun h'=>(by cases h'))
  clear h'
  refine WC.skip ?_
  refine WX.a ?_
  refine WC.b ?_
  refine WC.block ?_
  refine WC.b ?_
  obtain ⟨z3V,h⟩:=yJ h
  refine WC.a ?_
  have z4S : (([(.pointer none),(.pointer (some ⟨z6,0,none⟩))]) : List Value).drop ((1 : Int).toNat * 1) = [(.pointer (some ⟨z6,0,none⟩))] ++ []:=rfl
  refine WL.a (d:=21) rfl rfl rfl (yu y2I rfl rfl z3V.1 z3V.2 y1B) ?_
  refine WL.a (d:=22) rfl rfl rfl (y7 y2U rfl (y2C .here (y2T z4S 0 _ rfl))) ?_
  refine WL.a (d:=8) rfl rfl rfl (q_z rfl) ?_
  refine WL.nil ?_
  refine WX.a ?_
  refine WC.b ?_
  obtain ⟨z3,z4T,h⟩:=zz h
  refine WC.a ?_
  refine WL.a (d:=24) rfl rfl rfl (q_m rfl) ?_
  refine WL.a (d:=25) rfl rfl rfl (q_m rfl) ?_
  refine WL.a (d:=26) rfl rfl rfl (q_m rfl) ?_
  refine WL.nilRow 67 2 ?_
  refine WL.yX (dd:=27) rfl rfl rfl (zJ (l:=[.tmp 24,.tmp 25,.tmp 26]) Try.call16 (.cons rfl (.cons rfl (.cons rfl .nil)))) ((.cons .h2 (.cons .here .nil)) : Sel [row (.slice none (([] : List Sport_frame).length) 0) 67 2 (([] : List Sport_frame).flatMap e67),row (.slice (some ⟨zs,0,none⟩) (([(),()] : List Unit).length) 2) 23 1 [(.pointer none),(.pointer (some ⟨z6,0,none⟩))],stb z6 57 [(.int .i64 0),(.int .i64 0),(.int .i64 0),(.int .i64 0),(.int .i64 0),(.slice none (([] : List Sport_frame).length) 0)]] [stb z6 57 [(.int .i64 0),(.int .i64 0),(.int .i64 0),(.int .i64 0),(.int .i64 0),(.slice none (([] : List Sport_frame).length) 0)],row (.slice none (([] : List Sport_frame).length) 0) 67 2 (([] : List Sport_frame).flatMap e67)] [row (.slice (some ⟨zs,0,none⟩) (([(),()] : List Unit).length) 2) 23 1 [(.pointer none),(.pointer (some ⟨z6,0,none⟩))]]) (fun w hw=>by have pz:=(hz.call hw ((.cons .h2 (.cons .here .nil)) : Sel [row (.slice none (([] : List Sport_frame).length) 0) 67 2 (([] : List Sport_frame).flatMap e67),row (.slice (some ⟨zs,0,none⟩) (([(),()] : List Unit).length) 2) 23 1 [(.pointer none),(.pointer (some ⟨z6,0,none⟩))],stb z6 57 [(.int .i64 0),(.int .i64 0),(.int .i64 0),(.int .i64 0),(.int .i64 0),(.slice none (([] : List Sport_frame).length) 0)]] [stb z6 57 [(.int .i64 0),(.int .i64 0),(.int .i64 0),(.int .i64 0),(.int .i64 0),(.slice none (([] : List Sport_frame).length) 0)],row (.slice none (([] : List Sport_frame).length) 0) 67 2 (([] : List Sport_frame).flatMap e67)] [row (.slice (some ⟨zs,0,none⟩) (([(),()] : List Unit).length) 2) 23 1 [(.pointer none),(.pointer (some ⟨z6,0,none⟩))]])); exact y1s (Z:=_) (zj:=z6) (zf:=none) (zg:=0) (z2:=(⟨(⟨0,0,0⟩ : Sport_numbers),0,0,([] : List Sport_frame)⟩ : Sport_Port)) (z7:=t_2) (zh:=size_3) (r:=z3) w pz  z4T (hw.owns ((.cons .h2 (.cons .here .nil)) : Sel [row (.slice none (([] : List Sport_frame).length) 0) 67 2 (([] : List Sport_frame).flatMap e67),row (.slice (some ⟨zs,0,none⟩) (([(),()] : List Unit).length) 2) 23 1 [(.pointer none),(.pointer (some ⟨z6,0,none⟩))],stb z6 57 [(.int .i64 0),(.int .i64 0),(.int .i64 0),(.int .i64 0),(.int .i64 0),(.slice none (([] : List Sport_frame).length) 0)]] [stb z6 57 [(.int .i64 0),(.int .i64 0),(.int .i64 0),(.int .i64 0),(.int .i64 0),(.slice none (([] : List Sport_frame).length) 0)],row (.slice none (([] : List Sport_frame).length) 0) 67 2 (([] : List Sport_frame).flatMap e67)] [row (.slice (some ⟨zs,0,none⟩) (([(),()] : List Unit).length) 2) 23 1 [(.pointer none),(.pointer (some ⟨z6,0,none⟩))]]))) ?_
  rintro zd ze _
  refine WL.a (d:=23) rfl rfl rfl (q_m rfl) ?_
  refine WL.a (d:=28) rfl rfl rfl (yz rfl rfl) ?_
  refine WL.a (d:=29) rfl rfl rfl (yz rfl rfl) ?_
  refine WL.a (d:=9) rfl rfl rfl (q_z rfl) ?_
  refine WL.a (d:=10) rfl rfl rfl (q_z rfl) ?_
  refine WL.nil ?_
  refine WX.a ?_
  refine WC.b ?_
  obtain ⟨z27,z3W,h⟩:=zz h
  obtain ⟨z2U,z3X,h⟩:=zz h
  refine WC.a ?_
  refine WL.a (d:=30) rfl rfl rfl (q_m rfl) ?_
  refine WL.a (d:=31) rfl rfl rfl (y18 rfl rfl) ?_
  refine WL.a (d:=32) rfl rfl rfl (q_m rfl) ?_
  refine WL.yk True [(0,(.int .i64 n_1)),(1,(.int .i64 t_2)),(2,(.int .i64 size_3)),(17,(.slice (some ⟨zs,0,none⟩) (([(),()] : List Unit).length) 2)),(18,(.int .i64 2)),(19,(.int .i64 1)),(8,(.pointer (some ⟨z6,0,none⟩))),(36,(.bool false)),(37,(.pointer none)),(38,(.int .i64 t_2)),(39,(.int .i64 0)),(40,(.bool false)),(41,(.bool false)),(42,(.bool false)),(43,(.pointer none)),(44,(.int .i64 0)),(45,(.bool false)),(46,(.bool false)),(35,(.bool ((decide (z3.1 ≠ 0)) || (decide (z3.2.1 ≠ 1)))))] [stb z6 57 [(.int .i64 z3.2.2.fNumbers.fSlow),(.int .i64 z3.2.2.fNumbers.fDelay),(.int .i64 z3.2.2.fNumbers.fStore),(.int .i64 z3.2.2.fNow),(.int .i64 z3.2.2.fLast),(.slice zd z3.2.2.fFrames.length ze)],row (.slice zd z3.2.2.fFrames.length ze) 67 2 (z3.2.2.fFrames.flatMap e67),row (.slice (some ⟨zs,0,none⟩) (([(),()] : List Unit).length) 2) 23 1 [(.pointer none),(.pointer (some ⟨z6,0,none⟩))]] 3 ?_ (fun _=>?_)
  ·rcases Bool.eq_false_or_eq_true (decide (z3.1 ≠ 0)) with hb' | hb'
   ·have z3Y:=hb'; clear hb'
    refine WL.pin (i:=32) rfl z3Y ?_
    refine WL.e rfl rfl rfl ?_
    refine WL.e rfl rfl rfl ?_
    refine WL.a (d:=35) rfl rfl rfl (yf rfl rfl) ?_
    exact WL.y2 () trivial (.cons rfl (.cons rfl (.cons rfl (.cons rfl (.cons rfl (.cons rfl (.cons rfl (.cons rfl (.cons rfl (.cons rfl (.cons rfl (.cons rfl (.cons rfl (.cons rfl (.cons rfl (.cons rfl (.cons rfl (.cons rfl (.cons (zp (y19 z3Y)) .nil))))))))))))))))))) (.cons .here (.cons .here (.cons .here .nil)))
   ·have z3Z:=hb'; clear hb'
    refine WL.pin (i:=32) rfl z3Z ?_
    refine WL.a (d:=33) rfl rfl rfl (q_m rfl) ?_
    refine WL.a (d:=34) rfl rfl rfl (y18 rfl rfl) ?_
    refine WL.a (d:=35) rfl rfl rfl (y8 rfl rfl) ?_
    exact WL.y2 () trivial (.cons rfl (.cons rfl (.cons rfl (.cons rfl (.cons rfl (.cons rfl (.cons rfl (.cons rfl (.cons rfl (.cons rfl (.cons rfl (.cons rfl (.cons rfl (.cons rfl (.cons rfl (.cons rfl (.cons rfl (.cons rfl (.cons (zp (y1a z3Z)) .nil))))))))))))))))))) (.cons .here (.cons .here (.cons .here .nil)))
  ·skip
   refine WL.a (d:=36) rfl rfl rfl (q_m rfl) ?_
   refine WL.yk True [(0,(.int .i64 n_1)),(1,(.int .i64 t_2)),(2,(.int .i64 size_3)),(17,(.slice (some ⟨zs,0,none⟩) (([(),()] : List Unit).length) 2)),(18,(.int .i64 2)),(19,(.int .i64 1)),(8,(.pointer (some ⟨z6,0,none⟩))),(42,(.bool false)),(43,(.pointer none)),(44,(.int .i64 0)),(45,(.bool false)),(46,(.bool false)),(41,(.bool z27))] [stb z6 57 [(.int .i64 z3.2.2.fNumbers.fSlow),(.int .i64 z3.2.2.fNumbers.fDelay),(.int .i64 z3.2.2.fNumbers.fStore),(.int .i64 z3.2.2.fNow),(.int .i64 z3.2.2.fLast),(.slice zd z3.2.2.fFrames.length ze)],row (.slice zd z3.2.2.fFrames.length ze) 67 2 (z3.2.2.fFrames.flatMap e67),row (.slice (some ⟨zs,0,none⟩) (([(),()] : List Unit).length) 2) 23 1 [(.pointer none),(.pointer (some ⟨z6,0,none⟩))]] 5 ?_ (fun _=>?_)
   ·rcases Bool.eq_false_or_eq_true ((decide (z3.1 ≠ 0)) || (decide (z3.2.1 ≠ 1))) with hb' | hb'
    ·have z40:=hb'; clear hb'
     have z2V:=yq z3W z40
     replace z2V:=Option.some.inj z2V
     refine WL.pin (i:=36) rfl z40 ?_
     refine WL.e rfl rfl rfl ?_
     refine WL.e rfl rfl rfl ?_
     refine WL.e rfl rfl rfl ?_
     refine WL.e rfl rfl rfl ?_
     refine WL.a (d:=41) rfl rfl rfl (yf rfl rfl) ?_
     exact WL.y2 () trivial (.cons rfl (.cons rfl (.cons rfl (.cons rfl (.cons rfl (.cons rfl (.cons rfl (.cons rfl (.cons rfl (.cons rfl (.cons rfl (.cons rfl (.cons (zp z2V) .nil))))))))))))) (.cons .here (.cons .here (.cons .here .nil)))
    ·have z41:=hb'; clear hb'
     have z1Z:=yr z3W z41
     obtain ⟨z2S,z4U,z1Z⟩:=zz z1Z
     replace z1Z:=Option.some.inj z1Z
     refine WL.pin (i:=36) rfl z41 ?_
     refine WL.a (d:=37) rfl rfl rfl (q_m rfl) ?_
     refine WL.a (d:=38) rfl rfl rfl (q_m rfl) ?_
     refine WL.b (dd:=39) rfl rfl rfl (zJ (l:=[.tmp 37,.tmp 38]) Try.call12 (.cons rfl (.cons rfl .nil))) (.nil : Sel [stb z6 57 [(.int .i64 z3.2.2.fNumbers.fSlow),(.int .i64 z3.2.2.fNumbers.fDelay),(.int .i64 z3.2.2.fNumbers.fStore),(.int .i64 z3.2.2.fNow),(.int .i64 z3.2.2.fLast),(.slice zd z3.2.2.fFrames.length ze)],row (.slice zd z3.2.2.fFrames.length ze) 67 2 (z3.2.2.fFrames.flatMap e67),row (.slice (some ⟨zs,0,none⟩) (([(),()] : List Unit).length) 2) 23 1 [(.pointer none),(.pointer (some ⟨z6,0,none⟩))]] [] [stb z6 57 [(.int .i64 z3.2.2.fNumbers.fSlow),(.int .i64 z3.2.2.fNumbers.fDelay),(.int .i64 z3.2.2.fNumbers.fStore),(.int .i64 z3.2.2.fNow),(.int .i64 z3.2.2.fLast),(.slice zd z3.2.2.fFrames.length ze)],row (.slice zd z3.2.2.fFrames.length ze) 67 2 (z3.2.2.fFrames.flatMap e67),row (.slice (some ⟨zs,0,none⟩) (([(),()] : List Unit).length) 2) 23 1 [(.pointer none),(.pointer (some ⟨z6,0,none⟩))]]) (fun w hw=>by have pz:=(hz.call hw (.nil : Sel [stb z6 57 [(.int .i64 z3.2.2.fNumbers.fSlow),(.int .i64 z3.2.2.fNumbers.fDelay),(.int .i64 z3.2.2.fNumbers.fStore),(.int .i64 z3.2.2.fNow),(.int .i64 z3.2.2.fLast),(.slice zd z3.2.2.fFrames.length ze)],row (.slice zd z3.2.2.fFrames.length ze) 67 2 (z3.2.2.fFrames.flatMap e67),row (.slice (some ⟨zs,0,none⟩) (([(),()] : List Unit).length) 2) 23 1 [(.pointer none),(.pointer (some ⟨z6,0,none⟩))]] [] [stb z6 57 [(.int .i64 z3.2.2.fNumbers.fSlow),(.int .i64 z3.2.2.fNumbers.fDelay),(.int .i64 z3.2.2.fNumbers.fStore),(.int .i64 z3.2.2.fNow),(.int .i64 z3.2.2.fLast),(.slice zd z3.2.2.fFrames.length ze)],row (.slice zd z3.2.2.fFrames.length ze) 67 2 (z3.2.2.fFrames.flatMap e67),row (.slice (some ⟨zs,0,none⟩) (([(),()] : List Unit).length) 2) 23 1 [(.pointer none),(.pointer (some ⟨z6,0,none⟩))]])).lend hw (.nil : Sel [stb z6 57 [(.int .i64 z3.2.2.fNumbers.fSlow),(.int .i64 z3.2.2.fNumbers.fDelay),(.int .i64 z3.2.2.fNumbers.fStore),(.int .i64 z3.2.2.fNow),(.int .i64 z3.2.2.fLast),(.slice zd z3.2.2.fFrames.length ze)],row (.slice zd z3.2.2.fFrames.length ze) 67 2 (z3.2.2.fFrames.flatMap e67),row (.slice (some ⟨zs,0,none⟩) (([(),()] : List Unit).length) 2) 23 1 [(.pointer none),(.pointer (some ⟨z6,0,none⟩))]] [] [stb z6 57 [(.int .i64 z3.2.2.fNumbers.fSlow),(.int .i64 z3.2.2.fNumbers.fDelay),(.int .i64 z3.2.2.fNumbers.fStore),(.int .i64 z3.2.2.fNow),(.int .i64 z3.2.2.fLast),(.slice zd z3.2.2.fFrames.length ze)],row (.slice zd z3.2.2.fFrames.length ze) 67 2 (z3.2.2.fFrames.flatMap e67),row (.slice (some ⟨zs,0,none⟩) (([(),()] : List Unit).length) 2) 23 1 [(.pointer none),(.pointer (some ⟨z6,0,none⟩))]]) (B:=[stb z6 57 [(.int .i64 z3.2.2.fNumbers.fSlow),(.int .i64 z3.2.2.fNumbers.fDelay),(.int .i64 z3.2.2.fNumbers.fStore),(.int .i64 z3.2.2.fNow),(.int .i64 z3.2.2.fLast),(.slice zd z3.2.2.fFrames.length ze)],row (.slice zd z3.2.2.fFrames.length ze) 67 2 (z3.2.2.fFrames.flatMap e67)]) (fun _ hx'=>((.cons .here (.cons .here .nil)) : Sel _ [stb z6 57 [(.int .i64 z3.2.2.fNumbers.fSlow),(.int .i64 z3.2.2.fNumbers.fDelay),(.int .i64 z3.2.2.fNumbers.fStore),(.int .i64 z3.2.2.fNow),(.int .i64 z3.2.2.fLast),(.slice zd z3.2.2.fFrames.length ze)],row (.slice zd z3.2.2.fFrames.length ze) 67 2 (z3.2.2.fFrames.flatMap e67)] _).mem hx'); exact yL (Z:=_) (z1g:=⟨z6,0,none⟩) (z1s:=zd) (z1t:=ze) (zA:=z3.2.2) (zD:=t_2) (r:=z2S) w pz (ZA.row (hw.lent (.nil : Sel [stb z6 57 [(.int .i64 z3.2.2.fNumbers.fSlow),(.int .i64 z3.2.2.fNumbers.fDelay),(.int .i64 z3.2.2.fNumbers.fStore),(.int .i64 z3.2.2.fNow),(.int .i64 z3.2.2.fLast),(.slice zd z3.2.2.fFrames.length ze)],row (.slice zd z3.2.2.fFrames.length ze) 67 2 (z3.2.2.fFrames.flatMap e67),row (.slice (some ⟨zs,0,none⟩) (([(),()] : List Unit).length) 2) 23 1 [(.pointer none),(.pointer (some ⟨z6,0,none⟩))]] [] [stb z6 57 [(.int .i64 z3.2.2.fNumbers.fSlow),(.int .i64 z3.2.2.fNumbers.fDelay),(.int .i64 z3.2.2.fNumbers.fStore),(.int .i64 z3.2.2.fNow),(.int .i64 z3.2.2.fLast),(.slice zd z3.2.2.fFrames.length ze)],row (.slice zd z3.2.2.fFrames.length ze) 67 2 (z3.2.2.fFrames.flatMap e67),row (.slice (some ⟨zs,0,none⟩) (([(),()] : List Unit).length) 2) 23 1 [(.pointer none),(.pointer (some ⟨z6,0,none⟩))]]) (B:=[stb z6 57 [(.int .i64 z3.2.2.fNumbers.fSlow),(.int .i64 z3.2.2.fNumbers.fDelay),(.int .i64 z3.2.2.fNumbers.fStore),(.int .i64 z3.2.2.fNow),(.int .i64 z3.2.2.fLast),(.slice zd z3.2.2.fFrames.length ze)],row (.slice zd z3.2.2.fFrames.length ze) 67 2 (z3.2.2.fFrames.flatMap e67)]) (fun _ hx'=>((.cons .here (.cons .here .nil)) : Sel _ [stb z6 57 [(.int .i64 z3.2.2.fNumbers.fSlow),(.int .i64 z3.2.2.fNumbers.fDelay),(.int .i64 z3.2.2.fNumbers.fStore),(.int .i64 z3.2.2.fNow),(.int .i64 z3.2.2.fLast),(.slice zd z3.2.2.fFrames.length ze)],row (.slice zd z3.2.2.fFrames.length ze) 67 2 (z3.2.2.fFrames.flatMap e67)] _).mem hx') (.tail _ (.head _)) _) (RR.y17 (enc:=e67) (fun _=>rfl) _) ⟨w,pz.1⟩) ((hw.lent (.nil : Sel [stb z6 57 [(.int .i64 z3.2.2.fNumbers.fSlow),(.int .i64 z3.2.2.fNumbers.fDelay),(.int .i64 z3.2.2.fNumbers.fStore),(.int .i64 z3.2.2.fNow),(.int .i64 z3.2.2.fLast),(.slice zd z3.2.2.fFrames.length ze)],row (.slice zd z3.2.2.fFrames.length ze) 67 2 (z3.2.2.fFrames.flatMap e67),row (.slice (some ⟨zs,0,none⟩) (([(),()] : List Unit).length) 2) 23 1 [(.pointer none),(.pointer (some ⟨z6,0,none⟩))]] [] [stb z6 57 [(.int .i64 z3.2.2.fNumbers.fSlow),(.int .i64 z3.2.2.fNumbers.fDelay),(.int .i64 z3.2.2.fNumbers.fStore),(.int .i64 z3.2.2.fNow),(.int .i64 z3.2.2.fLast),(.slice zd z3.2.2.fFrames.length ze)],row (.slice zd z3.2.2.fFrames.length ze) 67 2 (z3.2.2.fFrames.flatMap e67),row (.slice (some ⟨zs,0,none⟩) (([(),()] : List Unit).length) 2) 23 1 [(.pointer none),(.pointer (some ⟨z6,0,none⟩))]]) (B:=[stb z6 57 [(.int .i64 z3.2.2.fNumbers.fSlow),(.int .i64 z3.2.2.fNumbers.fDelay),(.int .i64 z3.2.2.fNumbers.fStore),(.int .i64 z3.2.2.fNow),(.int .i64 z3.2.2.fLast),(.slice zd z3.2.2.fFrames.length ze)],row (.slice zd z3.2.2.fFrames.length ze) 67 2 (z3.2.2.fFrames.flatMap e67)]) (fun _ hx'=>((.cons .here (.cons .here .nil)) : Sel _ [stb z6 57 [(.int .i64 z3.2.2.fNumbers.fSlow),(.int .i64 z3.2.2.fNumbers.fDelay),(.int .i64 z3.2.2.fNumbers.fStore),(.int .i64 z3.2.2.fNow),(.int .i64 z3.2.2.fLast),(.slice zd z3.2.2.fFrames.length ze)],row (.slice zd z3.2.2.fFrames.length ze) 67 2 (z3.2.2.fFrames.flatMap e67)] _).mem hx') (.head _) _).stb) z4U) ?_
     refine WL.a (d:=40) rfl rfl rfl (y18 rfl rfl) ?_
     refine WL.a (d:=41) rfl rfl rfl (y8 rfl rfl) ?_
     exact WL.y2 () trivial (.cons rfl (.cons rfl (.cons rfl (.cons rfl (.cons rfl (.cons rfl (.cons rfl (.cons rfl (.cons rfl (.cons rfl (.cons rfl (.cons rfl (.cons (zp z1Z) .nil))))))))))))) (.cons .here (.cons .here (.cons .here .nil)))
   ·skip
    refine WL.a (d:=42) rfl rfl rfl (q_m rfl) ?_
    refine WL.yk True [(0,(.int .i64 n_1)),(1,(.int .i64 t_2)),(2,(.int .i64 size_3)),(17,(.slice (some ⟨zs,0,none⟩) (([(),()] : List Unit).length) 2)),(18,(.int .i64 2)),(19,(.int .i64 1)),(46,(.bool z2U))] [stb z6 57 [(.int .i64 z3.2.2.fNumbers.fSlow),(.int .i64 z3.2.2.fNumbers.fDelay),(.int .i64 z3.2.2.fNumbers.fStore),(.int .i64 z3.2.2.fNow),(.int .i64 z3.2.2.fLast),(.slice zd z3.2.2.fFrames.length ze)],row (.slice zd z3.2.2.fFrames.length ze) 67 2 (z3.2.2.fFrames.flatMap e67),row (.slice (some ⟨zs,0,none⟩) (([(),()] : List Unit).length) 2) 23 1 [(.pointer none),(.pointer (some ⟨z6,0,none⟩))]] 4 ?_ (fun _=>?_)
    ·rcases Bool.eq_false_or_eq_true z27 with hb' | hb'
     ·have z42:=hb'; clear hb'
      have z2W:=yq z3X z42
      replace z2W:=Option.some.inj z2W
      refine WL.pin (i:=42) rfl z42 ?_
      refine WL.e rfl rfl rfl ?_
      refine WL.e rfl rfl rfl ?_
      refine WL.e rfl rfl rfl ?_
      refine WL.a (d:=46) rfl rfl rfl (yf rfl rfl) ?_
      exact WL.y2 () trivial (.cons rfl (.cons rfl (.cons rfl (.cons rfl (.cons rfl (.cons rfl (.cons (zp z2W) .nil))))))) (.cons .here (.cons .here (.cons .here .nil)))
     ·have z43:=hb'; clear hb'
      have z20:=yr z3X z43
      obtain ⟨z2T,z4V,z20⟩:=zz z20
      replace z20:=Option.some.inj z20
      refine WL.pin (i:=42) rfl z43 ?_
      refine WL.a (d:=43) rfl rfl rfl (q_m rfl) ?_
      refine WL.b (dd:=44) rfl rfl rfl (zJ (l:=[.tmp 43]) Try.call14 (.cons rfl .nil)) (.nil : Sel [stb z6 57 [(.int .i64 z3.2.2.fNumbers.fSlow),(.int .i64 z3.2.2.fNumbers.fDelay),(.int .i64 z3.2.2.fNumbers.fStore),(.int .i64 z3.2.2.fNow),(.int .i64 z3.2.2.fLast),(.slice zd z3.2.2.fFrames.length ze)],row (.slice zd z3.2.2.fFrames.length ze) 67 2 (z3.2.2.fFrames.flatMap e67),row (.slice (some ⟨zs,0,none⟩) (([(),()] : List Unit).length) 2) 23 1 [(.pointer none),(.pointer (some ⟨z6,0,none⟩))]] [] [stb z6 57 [(.int .i64 z3.2.2.fNumbers.fSlow),(.int .i64 z3.2.2.fNumbers.fDelay),(.int .i64 z3.2.2.fNumbers.fStore),(.int .i64 z3.2.2.fNow),(.int .i64 z3.2.2.fLast),(.slice zd z3.2.2.fFrames.length ze)],row (.slice zd z3.2.2.fFrames.length ze) 67 2 (z3.2.2.fFrames.flatMap e67),row (.slice (some ⟨zs,0,none⟩) (([(),()] : List Unit).length) 2) 23 1 [(.pointer none),(.pointer (some ⟨z6,0,none⟩))]]) (fun w hw=>by have pz:=(hz.call hw (.nil : Sel [stb z6 57 [(.int .i64 z3.2.2.fNumbers.fSlow),(.int .i64 z3.2.2.fNumbers.fDelay),(.int .i64 z3.2.2.fNumbers.fStore),(.int .i64 z3.2.2.fNow),(.int .i64 z3.2.2.fLast),(.slice zd z3.2.2.fFrames.length ze)],row (.slice zd z3.2.2.fFrames.length ze) 67 2 (z3.2.2.fFrames.flatMap e67),row (.slice (some ⟨zs,0,none⟩) (([(),()] : List Unit).length) 2) 23 1 [(.pointer none),(.pointer (some ⟨z6,0,none⟩))]] [] [stb z6 57 [(.int .i64 z3.2.2.fNumbers.fSlow),(.int .i64 z3.2.2.fNumbers.fDelay),(.int .i64 z3.2.2.fNumbers.fStore),(.int .i64 z3.2.2.fNow),(.int .i64 z3.2.2.fLast),(.slice zd z3.2.2.fFrames.length ze)],row (.slice zd z3.2.2.fFrames.length ze) 67 2 (z3.2.2.fFrames.flatMap e67),row (.slice (some ⟨zs,0,none⟩) (([(),()] : List Unit).length) 2) 23 1 [(.pointer none),(.pointer (some ⟨z6,0,none⟩))]])).lend hw (.nil : Sel [stb z6 57 [(.int .i64 z3.2.2.fNumbers.fSlow),(.int .i64 z3.2.2.fNumbers.fDelay),(.int .i64 z3.2.2.fNumbers.fStore),(.int .i64 z3.2.2.fNow),(.int .i64 z3.2.2.fLast),(.slice zd z3.2.2.fFrames.length ze)],row (.slice zd z3.2.2.fFrames.length ze) 67 2 (z3.2.2.fFrames.flatMap e67),row (.slice (some ⟨zs,0,none⟩) (([(),()] : List Unit).length) 2) 23 1 [(.pointer none),(.pointer (some ⟨z6,0,none⟩))]] [] [stb z6 57 [(.int .i64 z3.2.2.fNumbers.fSlow),(.int .i64 z3.2.2.fNumbers.fDelay),(.int .i64 z3.2.2.fNumbers.fStore),(.int .i64 z3.2.2.fNow),(.int .i64 z3.2.2.fLast),(.slice zd z3.2.2.fFrames.length ze)],row (.slice zd z3.2.2.fFrames.length ze) 67 2 (z3.2.2.fFrames.flatMap e67),row (.slice (some ⟨zs,0,none⟩) (([(),()] : List Unit).length) 2) 23 1 [(.pointer none),(.pointer (some ⟨z6,0,none⟩))]]) (B:=[stb z6 57 [(.int .i64 z3.2.2.fNumbers.fSlow),(.int .i64 z3.2.2.fNumbers.fDelay),(.int .i64 z3.2.2.fNumbers.fStore),(.int .i64 z3.2.2.fNow),(.int .i64 z3.2.2.fLast),(.slice zd z3.2.2.fFrames.length ze)],row (.slice zd z3.2.2.fFrames.length ze) 67 2 (z3.2.2.fFrames.flatMap e67)]) (fun _ hx'=>((.cons .here (.cons .here .nil)) : Sel _ [stb z6 57 [(.int .i64 z3.2.2.fNumbers.fSlow),(.int .i64 z3.2.2.fNumbers.fDelay),(.int .i64 z3.2.2.fNumbers.fStore),(.int .i64 z3.2.2.fNow),(.int .i64 z3.2.2.fLast),(.slice zd z3.2.2.fFrames.length ze)],row (.slice zd z3.2.2.fFrames.length ze) 67 2 (z3.2.2.fFrames.flatMap e67)] _).mem hx'); exact y1j (Z:=_) (z1z:=⟨z6,0,none⟩) (z1T:=zd) (z1U:=ze) (zW:=z3.2.2) (r:=z2T) w pz (ZA.row (hw.lent (.nil : Sel [stb z6 57 [(.int .i64 z3.2.2.fNumbers.fSlow),(.int .i64 z3.2.2.fNumbers.fDelay),(.int .i64 z3.2.2.fNumbers.fStore),(.int .i64 z3.2.2.fNow),(.int .i64 z3.2.2.fLast),(.slice zd z3.2.2.fFrames.length ze)],row (.slice zd z3.2.2.fFrames.length ze) 67 2 (z3.2.2.fFrames.flatMap e67),row (.slice (some ⟨zs,0,none⟩) (([(),()] : List Unit).length) 2) 23 1 [(.pointer none),(.pointer (some ⟨z6,0,none⟩))]] [] [stb z6 57 [(.int .i64 z3.2.2.fNumbers.fSlow),(.int .i64 z3.2.2.fNumbers.fDelay),(.int .i64 z3.2.2.fNumbers.fStore),(.int .i64 z3.2.2.fNow),(.int .i64 z3.2.2.fLast),(.slice zd z3.2.2.fFrames.length ze)],row (.slice zd z3.2.2.fFrames.length ze) 67 2 (z3.2.2.fFrames.flatMap e67),row (.slice (some ⟨zs,0,none⟩) (([(),()] : List Unit).length) 2) 23 1 [(.pointer none),(.pointer (some ⟨z6,0,none⟩))]]) (B:=[stb z6 57 [(.int .i64 z3.2.2.fNumbers.fSlow),(.int .i64 z3.2.2.fNumbers.fDelay),(.int .i64 z3.2.2.fNumbers.fStore),(.int .i64 z3.2.2.fNow),(.int .i64 z3.2.2.fLast),(.slice zd z3.2.2.fFrames.length ze)],row (.slice zd z3.2.2.fFrames.length ze) 67 2 (z3.2.2.fFrames.flatMap e67)]) (fun _ hx'=>((.cons .here (.cons .here .nil)) : Sel _ [stb z6 57 [(.int .i64 z3.2.2.fNumbers.fSlow),(.int .i64 z3.2.2.fNumbers.fDelay),(.int .i64 z3.2.2.fNumbers.fStore),(.int .i64 z3.2.2.fNow),(.int .i64 z3.2.2.fLast),(.slice zd z3.2.2.fFrames.length ze)],row (.slice zd z3.2.2.fFrames.length ze) 67 2 (z3.2.2.fFrames.flatMap e67)] _).mem hx') (.tail _ (.head _)) _) (RR.y17 (enc:=e67) (fun _=>rfl) _) ⟨w,pz.1⟩) ((hw.lent (.nil : Sel [stb z6 57 [(.int .i64 z3.2.2.fNumbers.fSlow),(.int .i64 z3.2.2.fNumbers.fDelay),(.int .i64 z3.2.2.fNumbers.fStore),(.int .i64 z3.2.2.fNow),(.int .i64 z3.2.2.fLast),(.slice zd z3.2.2.fFrames.length ze)],row (.slice zd z3.2.2.fFrames.length ze) 67 2 (z3.2.2.fFrames.flatMap e67),row (.slice (some ⟨zs,0,none⟩) (([(),()] : List Unit).length) 2) 23 1 [(.pointer none),(.pointer (some ⟨z6,0,none⟩))]] [] [stb z6 57 [(.int .i64 z3.2.2.fNumbers.fSlow),(.int .i64 z3.2.2.fNumbers.fDelay),(.int .i64 z3.2.2.fNumbers.fStore),(.int .i64 z3.2.2.fNow),(.int .i64 z3.2.2.fLast),(.slice zd z3.2.2.fFrames.length ze)],row (.slice zd z3.2.2.fFrames.length ze) 67 2 (z3.2.2.fFrames.flatMap e67),row (.slice (some ⟨zs,0,none⟩) (([(),()] : List Unit).length) 2) 23 1 [(.pointer none),(.pointer (some ⟨z6,0,none⟩))]]) (B:=[stb z6 57 [(.int .i64 z3.2.2.fNumbers.fSlow),(.int .i64 z3.2.2.fNumbers.fDelay),(.int .i64 z3.2.2.fNumbers.fStore),(.int .i64 z3.2.2.fNow),(.int .i64 z3.2.2.fLast),(.slice zd z3.2.2.fFrames.length ze)],row (.slice zd z3.2.2.fFrames.length ze) 67 2 (z3.2.2.fFrames.flatMap e67)]) (fun _ hx'=>((.cons .here (.cons .here .nil)) : Sel _ [stb z6 57 [(.int .i64 z3.2.2.fNumbers.fSlow),(.int .i64 z3.2.2.fNumbers.fDelay),(.int .i64 z3.2.2.fNumbers.fStore),(.int .i64 z3.2.2.fNow),(.int .i64 z3.2.2.fLast),(.slice zd z3.2.2.fFrames.length ze)],row (.slice zd z3.2.2.fFrames.length ze) 67 2 (z3.2.2.fFrames.flatMap e67)] _).mem hx') (.head _) _).stb) z4V) ?_
      refine WL.a (d:=45) rfl rfl rfl (y18 rfl rfl) ?_
      refine WL.a (d:=46) rfl rfl rfl (y8 rfl rfl) ?_
      exact WL.y2 () trivial (.cons rfl (.cons rfl (.cons rfl (.cons rfl (.cons rfl (.cons rfl (.cons (zp z20) .nil))))))) (.cons .here (.cons .here (.cons .here .nil)))
    ·skip
     refine WL.nil ?_
     refine WX.a ?_
     refine WC.cond rfl (fun z2X=>?_) (fun z2X=>?_)
     ·replace h:=yq h z2X
      refine WC.b ?_
      refine WC.a ?_
      refine WL.a (d:=6) rfl rfl rfl (q_z rfl) ?_
      refine WL.nil ?_
      refine WX.a ?_
      refine WC.ret ?_
      refine WX.yI ?_
      refine WX.y9 ?_
      refine WX.y9 ?_
      refine WX.yI ?_
      refine WX.y9 ?_
      obtain rfl:=Option.some.inj h
      refine WX.y6 Try.results7 (.tmp rfl .nil) (fun w hw=>?_)
      exact ⟨yM rfl,hw.sub .nil⟩
     ·replace h:=yr h z2X
      refine WC.skip ?_
      refine WX.yj ?_
      refine WX.a ?_
      refine WC.a ?_
      refine WL.a (d:=47) rfl rfl rfl (y14 rfl rfl rfl) ?_
      refine WL.a (d:=19) rfl rfl rfl (q_m rfl) ?_
      refine WL.nil ?_
      refine WX.again ?_
      refine WC.b ?_
      refine WC.a ?_
      refine WL.a (d:=20) rfl rfl rfl (yO rfl rfl) ?_
      refine WL.nil ?_
      refine WX.a ?_
      refine WC.b ?_
      refine WC.cond rfl (fun h'=>(by cases h')) (fun h'=>?_)
      clear h'
      refine WC.exit ?_
      refine WX.yo ?_
      refine WX.yo ?_
      refine WX.y11 ?_
      exact WX.mid (G:=Unit) () h (.cons rfl .nil) .nil
 ·rintro  h
  replace h:=z4N.symm.trans h
  obtain ⟨z1p,z4W,h⟩:=y26 h
  refine WC.y1I ((z1p = some r)) ([]) ([]) ?_ ?_
  ·skip
   refine WC.b ?_
   refine WC.a ?_
   refine WL.a (d:=48) rfl rfl rfl (q_m rfl) ?_
   refine WL.a (d:=49) rfl rfl rfl (q_min rfl rfl rfl) ?_
   refine WL.a (d:=50) rfl rfl rfl (yF (v:=(.agg #[(.int .i64 (min n_1 0)),(.int .i64 0),(.int .i64 0)])) (Eos.parts (l:=[.tmp 49,.const (.int .i64 0),.const (.int .i64 0)]) (.cons rfl (.cons rfl (.cons rfl .nil))) [0,1,2]) (fun _=>by kernel_rfl)) ?_
   refine WL.a (d:=51) rfl rfl rfl (q_m rfl) ?_
   refine WL.a (d:=52) rfl rfl rfl (y2c rfl rfl rfl) ?_
   refine WL.a (d:=53) rfl rfl rfl (yF (v:=(.agg #[(.int .i64 (max n_1 17)),(.int .i64 0),(.int .i64 0)])) (Eos.parts (l:=[.tmp 52,.const (.int .i64 0),.const (.int .i64 0)]) (.cons rfl (.cons rfl (.cons rfl .nil))) [0,1,2]) (fun _=>by kernel_rfl)) ?_
   refine WL.a (d:=54) rfl rfl rfl (q_m rfl) ?_
   refine WL.a (d:=55) rfl rfl rfl (q_min rfl rfl rfl) ?_
   refine WL.a (d:=56) rfl rfl rfl (yF (v:=(.agg #[(.int .i64 1),(.int .i64 (min n_1 (-1))),(.int .i64 0)])) (Eos.parts (l:=[.const (.int .i64 1),.tmp 55,.const (.int .i64 0)]) (.cons rfl (.cons rfl (.cons rfl .nil))) [0,1,2]) (fun _=>by kernel_rfl)) ?_
   refine WL.a (d:=57) rfl rfl rfl (q_m rfl) ?_
   refine WL.a (d:=58) rfl rfl rfl (y2c rfl rfl rfl) ?_
   refine WL.a (d:=59) rfl rfl rfl (yF (v:=(.agg #[(.int .i64 1),(.int .i64 (max n_1 1001)),(.int .i64 0)])) (Eos.parts (l:=[.const (.int .i64 1),.tmp 58,.const (.int .i64 0)]) (.cons rfl (.cons rfl (.cons rfl .nil))) [0,1,2]) (fun _=>by kernel_rfl)) ?_
   refine WL.a (d:=60) rfl rfl rfl (q_m rfl) ?_
   refine WL.a (d:=61) rfl rfl rfl (q_min rfl rfl rfl) ?_
   refine WL.a (d:=62) rfl rfl rfl (yF (v:=(.agg #[(.int .i64 1),(.int .i64 0),(.int .i64 (min n_1 (-1)))])) (Eos.parts (l:=[.const (.int .i64 1),.const (.int .i64 0),.tmp 61]) (.cons rfl (.cons rfl (.cons rfl .nil))) [0,1,2]) (fun _=>by kernel_rfl)) ?_
   refine WL.a (d:=63) rfl rfl rfl (q_m rfl) ?_
   refine WL.a (d:=64) rfl rfl rfl (y2c rfl rfl rfl) ?_
   refine WL.a (d:=65) rfl rfl rfl (yF (v:=(.agg #[(.int .i64 1),(.int .i64 0),(.int .i64 (max n_1 1073741825))])) (Eos.parts (l:=[.const (.int .i64 1),.const (.int .i64 0),.tmp 64]) (.cons rfl (.cons rfl (.cons rfl .nil))) [0,1,2]) (fun _=>by kernel_rfl)) ?_
   refine WL.new (dd:=66) rfl rfl rfl (y1q (cs:=([(⟨min n_1 0,0,0⟩ : S59),(⟨max n_1 17,0,0⟩ : S59),(⟨1,min n_1 (-1),0⟩ : S59),(⟨1,max n_1 1001,0⟩ : S59),(⟨1,0,min n_1 (-1)⟩ : S59),(⟨1,0,max n_1 1073741825⟩ : S59)] : List S59).flatMap e59) elT_60 (Eos.parts (l:=[.tmp 50,.tmp 53,.tmp 56,.tmp 59,.tmp 62,.tmp 65]) (.cons rfl (.cons rfl (.cons rfl (.cons rfl (.cons rfl (.cons rfl .nil)))))) [0,1,2,3,4,5]) (fun _=>by kernel_rfl) rfl (by unfold maxLen; omega)) ?_
   intro z1J _
   refine WL.a (d:=67) rfl rfl rfl (y2e Try.underlying60 rfl) ?_
   refine WL.a (d:=68) rfl rfl rfl (q_m rfl) ?_
   refine WL.nil ?_
   refine WX.a ?_
   refine WC.block ?_
   refine WC.y2D (fun (z1K : Nat) (zt : Int)=>(y1 n_1 z1p z1K zt = some r)) (fun (z1K : Nat) (zt : Int)=>[(66,(.slice (some ⟨z1J,0,none⟩) (([(⟨min n_1 0,0,0⟩ : S59),(⟨max n_1 17,0,0⟩ : S59),(⟨1,min n_1 (-1),0⟩ : S59),(⟨1,max n_1 1001,0⟩ : S59),(⟨1,0,min n_1 (-1)⟩ : S59),(⟨1,0,max n_1 1073741825⟩ : S59)] : List S59).length) 6)),(67,(.int .i64 ((([(⟨min n_1 0,0,0⟩ : S59),(⟨max n_1 17,0,0⟩ : S59),(⟨1,min n_1 (-1),0⟩ : S59),(⟨1,max n_1 1001,0⟩ : S59),(⟨1,0,min n_1 (-1)⟩ : S59),(⟨1,0,max n_1 1073741825⟩ : S59)] : List S59).length : Nat) : Int))),(68,(.int .i64 zt))]) (fun (z1K : Nat) (zt : Int)=>[row (.slice (some ⟨z1J,0,none⟩) (([(⟨min n_1 0,0,0⟩ : S59),(⟨max n_1 17,0,0⟩ : S59),(⟨1,min n_1 (-1),0⟩ : S59),(⟨1,max n_1 1001,0⟩ : S59),(⟨1,0,min n_1 (-1)⟩ : S59),(⟨1,0,max n_1 1073741825⟩ : S59)] : List S59).length) 6) 59 3 (([(⟨min n_1 0,0,0⟩ : S59),(⟨max n_1 17,0,0⟩ : S59),(⟨1,min n_1 (-1),0⟩ : S59),(⟨1,max n_1 1001,0⟩ : S59),(⟨1,0,min n_1 (-1)⟩ : S59),(⟨1,0,max n_1 1073741825⟩ : S59)] : List S59).flatMap e59)]) (fun (z1K : Nat) (zt : Int)=>z1K) ⟨FUEL,0⟩ h (.cons rfl (.cons rfl (.cons rfl .nil))) (.cons .here .nil) ?_
   rintro z1K zt h
   obtain ⟨z2Q,rfl⟩:=y1t h
   rw [y1] at h
   refine WC.b ?_
   refine WC.a ?_
   refine WL.a (d:=69) rfl rfl rfl (yO rfl rfl) ?_
   refine WL.nil ?_
   refine WX.a ?_
   refine WC.b ?_
   refine WC.cond rfl (fun z2Y=>?_) (fun z2Y=>?_)
   ·replace h:=yq h z2Y
    refine WC.skip ?_
    refine WX.a ?_
    refine WC.b ?_
    refine WC.block ?_
    refine WC.b ?_
    obtain ⟨z28,h⟩:=yJ h
    refine WC.a ?_
    refine WL.a (d:=70) rfl rfl rfl (yu elT_60 rfl rfl z28.1 z28.2 y1B) ?_
    refine WL.a (d:=71) rfl rfl rfl (y1f (cs:=(e59 (nth ([(⟨min n_1 0,0,0⟩ : S59),(⟨max n_1 17,0,0⟩ : S59),(⟨1,min n_1 (-1),0⟩ : S59),(⟨1,max n_1 1001,0⟩ : S59),(⟨1,0,min n_1 (-1)⟩ : S59),(⟨1,0,max n_1 1073741825⟩ : S59)] : List S59) zt))) aggT_59 rfl rfl (y2O .here (y2R (enc:=e59) (l:=([(⟨min n_1 0,0,0⟩ : S59),(⟨max n_1 17,0,0⟩ : S59),(⟨1,min n_1 (-1),0⟩ : S59),(⟨1,max n_1 1001,0⟩ : S59),(⟨1,0,min n_1 (-1)⟩ : S59),(⟨1,0,max n_1 1073741825⟩ : S59)] : List S59)) (i:=zt) (sz:=3) (fun _=>rfl) z28.1 z28.2))) ?_
    refine WL.new (dd:=12) rfl rfl rfl (y2m (cs:=[(.int .i64 0),(.int .i64 0),(.int .i64 0)]) zeroT_59 rfl) ?_
    intro z29 _
    refine WL.y1e rfl rfl (y16 (vs:=[(.int .i64 ((nth ([(⟨min n_1 0,0,0⟩ : S59),(⟨max n_1 17,0,0⟩ : S59),(⟨1,min n_1 (-1),0⟩ : S59),(⟨1,max n_1 1001,0⟩ : S59),(⟨1,0,min n_1 (-1)⟩ : S59),(⟨1,0,max n_1 1073741825⟩ : S59)] : List S59) zt).a0)),(.int .i64 ((nth ([(⟨min n_1 0,0,0⟩ : S59),(⟨max n_1 17,0,0⟩ : S59),(⟨1,min n_1 (-1),0⟩ : S59),(⟨1,max n_1 1001,0⟩ : S59),(⟨1,0,min n_1 (-1)⟩ : S59),(⟨1,0,max n_1 1073741825⟩ : S59)] : List S59) zt).a1)),(.int .i64 ((nth ([(⟨min n_1 0,0,0⟩ : S59),(⟨max n_1 17,0,0⟩ : S59),(⟨1,min n_1 (-1),0⟩ : S59),(⟨1,max n_1 1001,0⟩ : S59),(⟨1,0,min n_1 (-1)⟩ : S59),(⟨1,0,max n_1 1073741825⟩ : S59)] : List S59) zt).a2))]) (ds:=[(.int .i64 ((nth ([(⟨min n_1 0,0,0⟩ : S59),(⟨max n_1 17,0,0⟩ : S59),(⟨1,min n_1 (-1),0⟩ : S59),(⟨1,max n_1 1001,0⟩ : S59),(⟨1,0,min n_1 (-1)⟩ : S59),(⟨1,0,max n_1 1073741825⟩ : S59)] : List S59) zt).a0)),(.int .i64 ((nth ([(⟨min n_1 0,0,0⟩ : S59),(⟨max n_1 17,0,0⟩ : S59),(⟨1,min n_1 (-1),0⟩ : S59),(⟨1,max n_1 1001,0⟩ : S59),(⟨1,0,min n_1 (-1)⟩ : S59),(⟨1,0,max n_1 1073741825⟩ : S59)] : List S59) zt).a1)),(.int .i64 ((nth ([(⟨min n_1 0,0,0⟩ : S59),(⟨max n_1 17,0,0⟩ : S59),(⟨1,min n_1 (-1),0⟩ : S59),(⟨1,max n_1 1001,0⟩ : S59),(⟨1,0,min n_1 (-1)⟩ : S59),(⟨1,0,max n_1 1073741825⟩ : S59)] : List S59) zt).a2))]) sizT_59 rfl rfl rfl rfl (yp rfl (yp rfl (yp rfl y12))) .here (Nat.le_of_ble_eq_true rfl) rfl) ?_
    refine WL.nil ?_
    refine WX.a ?_
    refine WC.b ?_
    obtain ⟨z3Q,z4X,h⟩:=zz h
    refine WC.a ?_
    refine WL.a (d:=73) rfl rfl rfl (y1K arA_59_0 rfl rfl rfl) ?_
    refine WL.a (d:=74) rfl rfl rfl (y7 yi rfl (yl .here rfl)) ?_
    refine WL.a (d:=75) rfl rfl rfl (y1K arA_59_1 rfl rfl rfl) ?_
    refine WL.a (d:=76) rfl rfl rfl (y7 yi rfl (yl .here rfl)) ?_
    refine WL.a (d:=77) rfl rfl rfl (y1K arA_59_2 rfl rfl rfl) ?_
    refine WL.a (d:=78) rfl rfl rfl (y7 yi rfl (yl .here rfl)) ?_
    refine WL.b (dd:=79) rfl rfl rfl (zJ (l:=[.tmp 74,.tmp 76,.tmp 78]) Try.call9 (.cons rfl (.cons rfl (.cons rfl .nil)))) (.nil : Sel [stb z29 59 [(.int .i64 ((nth ([(⟨min n_1 0,0,0⟩ : S59),(⟨max n_1 17,0,0⟩ : S59),(⟨1,min n_1 (-1),0⟩ : S59),(⟨1,max n_1 1001,0⟩ : S59),(⟨1,0,min n_1 (-1)⟩ : S59),(⟨1,0,max n_1 1073741825⟩ : S59)] : List S59) zt).a0)),(.int .i64 ((nth ([(⟨min n_1 0,0,0⟩ : S59),(⟨max n_1 17,0,0⟩ : S59),(⟨1,min n_1 (-1),0⟩ : S59),(⟨1,max n_1 1001,0⟩ : S59),(⟨1,0,min n_1 (-1)⟩ : S59),(⟨1,0,max n_1 1073741825⟩ : S59)] : List S59) zt).a1)),(.int .i64 ((nth ([(⟨min n_1 0,0,0⟩ : S59),(⟨max n_1 17,0,0⟩ : S59),(⟨1,min n_1 (-1),0⟩ : S59),(⟨1,max n_1 1001,0⟩ : S59),(⟨1,0,min n_1 (-1)⟩ : S59),(⟨1,0,max n_1 1073741825⟩ : S59)] : List S59) zt).a2))],row (.slice (some ⟨z1J,0,none⟩) (([(⟨min n_1 0,0,0⟩ : S59),(⟨max n_1 17,0,0⟩ : S59),(⟨1,min n_1 (-1),0⟩ : S59),(⟨1,max n_1 1001,0⟩ : S59),(⟨1,0,min n_1 (-1)⟩ : S59),(⟨1,0,max n_1 1073741825⟩ : S59)] : List S59).length) 6) 59 3 (([(⟨min n_1 0,0,0⟩ : S59),(⟨max n_1 17,0,0⟩ : S59),(⟨1,min n_1 (-1),0⟩ : S59),(⟨1,max n_1 1001,0⟩ : S59),(⟨1,0,min n_1 (-1)⟩ : S59),(⟨1,0,max n_1 1073741825⟩ : S59)] : List S59).flatMap e59)] [] [stb z29 59 [(.int .i64 ((nth ([(⟨min n_1 0,0,0⟩ : S59),(⟨max n_1 17,0,0⟩ : S59),(⟨1,min n_1 (-1),0⟩ : S59),(⟨1,max n_1 1001,0⟩ : S59),(⟨1,0,min n_1 (-1)⟩ : S59),(⟨1,0,max n_1 1073741825⟩ : S59)] : List S59) zt).a0)),(.int .i64 ((nth ([(⟨min n_1 0,0,0⟩ : S59),(⟨max n_1 17,0,0⟩ : S59),(⟨1,min n_1 (-1),0⟩ : S59),(⟨1,max n_1 1001,0⟩ : S59),(⟨1,0,min n_1 (-1)⟩ : S59),(⟨1,0,max n_1 1073741825⟩ : S59)] : List S59) zt).a1)),(.int .i64 ((nth ([(⟨min n_1 0,0,0⟩ : S59),(⟨max n_1 17,0,0⟩ : S59),(⟨1,min n_1 (-1),0⟩ : S59),(⟨1,max n_1 1001,0⟩ : S59),(⟨1,0,min n_1 (-1)⟩ : S59),(⟨1,0,max n_1 1073741825⟩ : S59)] : List S59) zt).a2))],row (.slice (some ⟨z1J,0,none⟩) (([(⟨min n_1 0,0,0⟩ : S59),(⟨max n_1 17,0,0⟩ : S59),(⟨1,min n_1 (-1),0⟩ : S59),(⟨1,max n_1 1001,0⟩ : S59),(⟨1,0,min n_1 (-1)⟩ : S59),(⟨1,0,max n_1 1073741825⟩ : S59)] : List S59).length) 6) 59 3 (([(⟨min n_1 0,0,0⟩ : S59),(⟨max n_1 17,0,0⟩ : S59),(⟨1,min n_1 (-1),0⟩ : S59),(⟨1,max n_1 1001,0⟩ : S59),(⟨1,0,min n_1 (-1)⟩ : S59),(⟨1,0,max n_1 1073741825⟩ : S59)] : List S59).flatMap e59)]) (fun w hw=>by have pz:=(hz.call hw (.nil : Sel [stb z29 59 [(.int .i64 ((nth ([(⟨min n_1 0,0,0⟩ : S59),(⟨max n_1 17,0,0⟩ : S59),(⟨1,min n_1 (-1),0⟩ : S59),(⟨1,max n_1 1001,0⟩ : S59),(⟨1,0,min n_1 (-1)⟩ : S59),(⟨1,0,max n_1 1073741825⟩ : S59)] : List S59) zt).a0)),(.int .i64 ((nth ([(⟨min n_1 0,0,0⟩ : S59),(⟨max n_1 17,0,0⟩ : S59),(⟨1,min n_1 (-1),0⟩ : S59),(⟨1,max n_1 1001,0⟩ : S59),(⟨1,0,min n_1 (-1)⟩ : S59),(⟨1,0,max n_1 1073741825⟩ : S59)] : List S59) zt).a1)),(.int .i64 ((nth ([(⟨min n_1 0,0,0⟩ : S59),(⟨max n_1 17,0,0⟩ : S59),(⟨1,min n_1 (-1),0⟩ : S59),(⟨1,max n_1 1001,0⟩ : S59),(⟨1,0,min n_1 (-1)⟩ : S59),(⟨1,0,max n_1 1073741825⟩ : S59)] : List S59) zt).a2))],row (.slice (some ⟨z1J,0,none⟩) (([(⟨min n_1 0,0,0⟩ : S59),(⟨max n_1 17,0,0⟩ : S59),(⟨1,min n_1 (-1),0⟩ : S59),(⟨1,max n_1 1001,0⟩ : S59),(⟨1,0,min n_1 (-1)⟩ : S59),(⟨1,0,max n_1 1073741825⟩ : S59)] : List S59).length) 6) 59 3 (([(⟨min n_1 0,0,0⟩ : S59),(⟨max n_1 17,0,0⟩ : S59),(⟨1,min n_1 (-1),0⟩ : S59),(⟨1,max n_1 1001,0⟩ : S59),(⟨1,0,min n_1 (-1)⟩ : S59),(⟨1,0,max n_1 1073741825⟩ : S59)] : List S59).flatMap e59)] [] [stb z29 59 [(.int .i64 ((nth ([(⟨min n_1 0,0,0⟩ : S59),(⟨max n_1 17,0,0⟩ : S59),(⟨1,min n_1 (-1),0⟩ : S59),(⟨1,max n_1 1001,0⟩ : S59),(⟨1,0,min n_1 (-1)⟩ : S59),(⟨1,0,max n_1 1073741825⟩ : S59)] : List S59) zt).a0)),(.int .i64 ((nth ([(⟨min n_1 0,0,0⟩ : S59),(⟨max n_1 17,0,0⟩ : S59),(⟨1,min n_1 (-1),0⟩ : S59),(⟨1,max n_1 1001,0⟩ : S59),(⟨1,0,min n_1 (-1)⟩ : S59),(⟨1,0,max n_1 1073741825⟩ : S59)] : List S59) zt).a1)),(.int .i64 ((nth ([(⟨min n_1 0,0,0⟩ : S59),(⟨max n_1 17,0,0⟩ : S59),(⟨1,min n_1 (-1),0⟩ : S59),(⟨1,max n_1 1001,0⟩ : S59),(⟨1,0,min n_1 (-1)⟩ : S59),(⟨1,0,max n_1 1073741825⟩ : S59)] : List S59) zt).a2))],row (.slice (some ⟨z1J,0,none⟩) (([(⟨min n_1 0,0,0⟩ : S59),(⟨max n_1 17,0,0⟩ : S59),(⟨1,min n_1 (-1),0⟩ : S59),(⟨1,max n_1 1001,0⟩ : S59),(⟨1,0,min n_1 (-1)⟩ : S59),(⟨1,0,max n_1 1073741825⟩ : S59)] : List S59).length) 6) 59 3 (([(⟨min n_1 0,0,0⟩ : S59),(⟨max n_1 17,0,0⟩ : S59),(⟨1,min n_1 (-1),0⟩ : S59),(⟨1,max n_1 1001,0⟩ : S59),(⟨1,0,min n_1 (-1)⟩ : S59),(⟨1,0,max n_1 1073741825⟩ : S59)] : List S59).flatMap e59)])); exact y32 (Z:=_)  (zy:=((nth ([(⟨min n_1 0,0,0⟩ : S59),(⟨max n_1 17,0,0⟩ : S59),(⟨1,min n_1 (-1),0⟩ : S59),(⟨1,max n_1 1001,0⟩ : S59),(⟨1,0,min n_1 (-1)⟩ : S59),(⟨1,0,max n_1 1073741825⟩ : S59)] : List S59) zt).a0)) (zG:=((nth ([(⟨min n_1 0,0,0⟩ : S59),(⟨max n_1 17,0,0⟩ : S59),(⟨1,min n_1 (-1),0⟩ : S59),(⟨1,max n_1 1001,0⟩ : S59),(⟨1,0,min n_1 (-1)⟩ : S59),(⟨1,0,max n_1 1073741825⟩ : S59)] : List S59) zt).a1)) (zS:=((nth ([(⟨min n_1 0,0,0⟩ : S59),(⟨max n_1 17,0,0⟩ : S59),(⟨1,min n_1 (-1),0⟩ : S59),(⟨1,max n_1 1001,0⟩ : S59),(⟨1,0,min n_1 (-1)⟩ : S59),(⟨1,0,max n_1 1073741825⟩ : S59)] : List S59) zt).a2)) (r:=z3Q) w pz  z4X) ?_
    refine WL.a (d:=72) rfl rfl rfl (q_m rfl) ?_
    refine WL.a (d:=80) rfl rfl rfl (yz rfl rfl) ?_
    refine WL.a (d:=81) rfl rfl rfl (yz rfl rfl) ?_
    refine WL.a (d:=13) rfl rfl rfl (q_z rfl) ?_
    refine WL.a (d:=14) rfl rfl rfl (q_z rfl) ?_
    refine WL.nil ?_
    refine WX.a ?_
    refine WC.b ?_
    refine WC.a ?_
    refine WL.a (d:=82) rfl rfl rfl (q_m rfl) ?_
    refine WL.a (d:=83) rfl rfl rfl (q_neqNil Try.underlying23 rfl rfl) ?_
    refine WL.a (d:=84) rfl rfl rfl (q_m rfl) ?_
    refine WL.a (d:=85) rfl rfl rfl (q_m rfl) ?_
    refine WL.a (d:=86) rfl rfl rfl (y18 rfl rfl) ?_
    refine WL.a (d:=87) rfl rfl rfl (y8 rfl rfl) ?_
    refine WL.nil ?_
    refine WX.a ?_
    refine WC.cond rfl (fun h'=>(by cases h')) (fun h'=>?_)
    clear h'
    refine WC.skip ?_
    refine WX.yj ?_
    refine WX.a ?_
    refine WC.a ?_
    refine WL.a (d:=88) rfl rfl rfl (y14 rfl rfl rfl) ?_
    refine WL.a (d:=68) rfl rfl rfl (q_m rfl) ?_
    refine WL.nil ?_
    exact WX.round (G:=Nat × Int) ⟨z2Q,(i64 (zt + 1))⟩ h (Nat.lt_succ_self _) (.cons rfl (.cons rfl (.cons rfl .nil))) (.cons .h1 .nil)
   ·replace h:=yr h z2Y
    refine WC.exit ?_
    refine WX.yo ?_
    refine WX.yo ?_
    refine WX.y11 ?_
    exact WX.mid (G:=Unit) () h .nil .nil
  ·rintro  h
   replace h:=z4W.symm.trans h
   refine WC.b ?_
   obtain ⟨z1Y,z4Y,h⟩:=zz h
   refine WC.a ?_
   refine WL.b (dd:=89) rfl rfl rfl (zJ (l:=[]) Try.call11 .nil) (.nil : Sel [] [] []) (fun w hw=>by have pz:=(hz.call hw (.nil : Sel [] [] [])); exact y2u (Z:=_)   (r:=z1Y) w pz  z4Y) ?_
   refine WL.a (d:=6) rfl rfl rfl (q_z rfl) ?_
   refine WL.nil ?_
   refine WX.a ?_
   refine WC.ret ?_
   obtain rfl:=Option.some.inj h
   refine WX.y6 Try.results7 (.tmp rfl .nil) (fun w hw=>?_)
   exact ⟨yM rfl,hw.sub .nil⟩
end Go.Proofs.Ytahpdiojgdlmgaa
