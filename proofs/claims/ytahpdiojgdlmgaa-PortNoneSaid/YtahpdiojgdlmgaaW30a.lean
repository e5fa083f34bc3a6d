/- A part of this claim's proof: models of functions, walks, plain laws. No conditions. -/
import Derived.Test.YtahpdiojgdlmgaaZUnroll
import Derived.Test.YtahpdiojgdlmgaaProg
namespace Go.Proofs.Ytahpdiojgdlmgaa
open Go Go.RowKit Sep
set_option linter.all false
set_option maxRecDepth 30000
set_option maxHeartbeats 4000000
structure Sport_numbers where
 fSlow : Int
 fDelay : Int
 fStore : Int
 deriving Inhabited,DecidableEq
structure Sport_frame where
 fSize : Int
 fFin : Int
 deriving Inhabited,DecidableEq
structure Sport_Port where
 fNumbers : Sport_numbers
 fNow : Int
 fLast : Int
 fFrames : List Sport_frame
 deriving Inhabited,DecidableEq
def e67 (x : Sport_frame) : List Value:=[(.int .i64 x.fSize),(.int .i64 x.fFin)]
theorem e67_oc : ∀ x,∀ u ∈ e67 x,u.oneCell' = true:=fun _=>(yp rfl (yp rfl y12))
structure S7 where
 fX : Int
 fY : Int
 fSigned : Bool
 fCode : Int
 deriving Inhabited,DecidableEq
structure S13 where
 fMsg : ByteArray
 fAddr : Int
 deriving Inhabited,DecidableEq
structure S28 where
 fSlow : Int
 fDelay : Int
 fStore : Int
 fNow : Int
 fAt : List Int
 fSize : List Int
 fEnd : List Int
 deriving Inhabited,DecidableEq
structure S33 where
 fT : Int
 fSize : Int
 deriving Inhabited,DecidableEq
structure S46 where
 fTime : Int
 fVL : Int
 fSize : Int
 deriving Inhabited,DecidableEq
structure S59 where
 a0 : Int
 a1 : Int
 a2 : Int
 deriving Inhabited,DecidableEq
def e59 (x : S59) : List Value:=[(.int .i64 x.a0),(.int .i64 x.a1),(.int .i64 x.a2)]
theorem y2I : elT Try.prog 58 23 1 8:=⟨Try.underlying58,⟨Try.t23,_,rfl,rfl,rfl,rfl,rfl⟩,by decide⟩
theorem y2U : oneT Try.prog 23:=y2l Try.underlying23 rfl
theorem y21 : yB Try.prog 57 0 0:=yt (i:=Try.t54) Try.underlying57 rfl rfl (by decide) rfl
theorem y2V : yB Try.prog 54 0 0:=yt (i:=Try.t3) Try.underlying54 rfl rfl (by decide) rfl
theorem yi : oneT Try.prog 3:=y2l Try.underlying3 rfl
theorem y2p : yB Try.prog 57 1 3:=yt (i:=Try.t3) Try.underlying57 rfl rfl (by decide) rfl
theorem y2J : sizT Try.prog 3 1:=y1z (i:=Try.t3) rfl
theorem y1E : yB Try.prog 57 3 5:=yt (i:=Try.t55) Try.underlying57 rfl rfl (by decide) rfl
theorem y2q : oneT Try.prog 55:=y2l Try.underlying55 rfl
theorem y2W : yB Try.prog 67 1 1:=yt (i:=Try.t3) Try.underlying67 rfl rfl (by decide) rfl
theorem y1c : elT Try.prog 55 67 2 16:=⟨Try.underlying55,⟨Try.t67,_,rfl,rfl,rfl,rfl,rfl⟩,by decide⟩
theorem y1o : aggT Try.prog 67 2:=y2N (i:=Try.t67) Try.underlying67 rfl rfl
theorem y27 : y20 Try.prog 67 (.agg #[(.int .i64 0),(.int .i64 0)]):=y2A (i:=Try.t67) rfl rfl
theorem y2r : sizT Try.prog 67 2:=y1z (i:=Try.t67) rfl
theorem y2X : sizT Try.prog 55 1:=y1z (i:=Try.t55) rfl
theorem fo_67_0 : yB Try.prog 67 0 0:=yt (i:=Try.t3) Try.underlying67 rfl rfl (by decide) rfl
theorem fo_54_2 : yB Try.prog 54 2 2:=yt (i:=Try.t3) Try.underlying54 rfl rfl (by decide) rfl
theorem fo_54_1 : yB Try.prog 54 1 1:=yt (i:=Try.t3) Try.underlying54 rfl rfl (by decide) rfl
theorem y1F : yB Try.prog 57 2 4:=yt (i:=Try.t3) Try.underlying57 rfl rfl (by decide) rfl
theorem elT_60 : elT Try.prog 60 59 3 24:=⟨Try.underlying60,⟨Try.t59,_,rfl,rfl,rfl,rfl,rfl⟩,by decide⟩
theorem aggT_59 : aggT Try.prog 59 3:=y2N (i:=Try.t59) Try.underlying59 rfl rfl
theorem zeroT_59 : y20 Try.prog 59 (.agg #[(.int .i64 0),(.int .i64 0),(.int .i64 0)]):=y2A (i:=Try.t59) rfl rfl
theorem sizT_59 : sizT Try.prog 59 3:=y1z (i:=Try.t59) rfl
theorem arA_59_0 : y1D Try.prog 59 0 0:=y1J Try.underlying59 (inf:=Try.t3) rfl rfl (by decide) (by decide) rfl
theorem arA_59_1 : y1D Try.prog 59 1 1:=y1J Try.underlying59 (inf:=Try.t3) rfl rfl (by decide) (by decide) rfl
theorem arA_59_2 : y1D Try.prog 59 2 2:=y1J Try.underlying59 (inf:=Try.t3) rfl rfl (by decide) (by decide) rfl
def yC  : Option Unit :=
 some ()
set_option maxRecDepth 20000 in
theorem y15 (Z : Zp)    (r : Unit) (w₀ : World) (hz : PZ [] w₀ Z)
  (h : yC  = some r) :
  Calls Try.prog 21 #[(.pointer none)] w₀ fun e w'=>e = .returned (.bool true) ∧ Hp [] w₀ w' []:=by
 unfold yC at h
 refine Calls.ya (vs:=[(.pointer none)]) (pre:=[]) (env:=[(0,(.pointer none))]) Try.func21 rfl Try.ntmps21 rfl (Hp.nil w₀ _) rfl ?_
 refine WC.b ?_
 refine WC.a ?_
 refine WL.a (d:=2) rfl rfl rfl (q_z rfl) ?_
 refine WL.nil ?_
 refine WX.a ?_
 refine WC.b ?_
 refine WC.a ?_
 refine WL.a (d:=3) rfl rfl rfl (q_m rfl) ?_
 refine WL.a (d:=4) rfl rfl rfl (y2z Try.underlying23 rfl rfl) ?_
 refine WL.a (d:=5) rfl rfl rfl (q_m rfl) ?_
 refine WL.e rfl rfl rfl ?_
 refine WL.e rfl rfl rfl ?_
 refine WL.e rfl rfl rfl ?_
 refine WL.e rfl rfl rfl ?_
 refine WL.e rfl rfl rfl ?_
 refine WL.e rfl rfl rfl ?_
 refine WL.a (d:=12) rfl rfl rfl (yf rfl rfl) ?_
 refine WL.a (d:=2) rfl rfl rfl (q_z rfl) ?_
 refine WL.nil ?_
 refine WX.a ?_
 refine WC.ret ?_
 skip
 refine WX.y6 Try.results21 (.tmp rfl .nil) (fun w hw=>?_)
 exact ⟨yM rfl,hw.sub .nil⟩
def yW (t_11 : Int) (size_12 : Int) : Option Unit :=
 (yC).bind fun x_23=>some ()
set_option maxRecDepth 20000 in
theorem y2i (Z : Zp)   (t_11 : Int) (size_12 : Int) (r : Unit) (w₀ : World) (hz : PZ [] w₀ Z)
  (h : yW t_11 size_12 = some r) :
  Calls Try.prog 16 #[(.pointer none),(.int .i64 t_11),(.int .i64 size_12)] w₀ fun e w'=>e = .returned (.tuple #[(.int .i64 0),(.int .i64 1)]) ∧ Hp [] w₀ w' []:=by
 unfold yW at h
 refine Calls.ya (vs:=[(.pointer none),(.int .i64 t_11),(.int .i64 size_12)]) (pre:=[]) (env:=[(0,(.pointer none)),(1,(.int .i64 t_11)),(2,(.int .i64 size_12))]) Try.func16 rfl Try.ntmps16 rfl (Hp.nil w₀ _) rfl ?_
 refine WC.b ?_
 refine WC.a ?_
 refine WL.new (dd:=4) rfl rfl rfl (y1n (cs:=[(.int .i64 t_11)]) rfl rfl) ?_
 intro b_20 _
 refine WL.a (d:=6) rfl rfl rfl (q_z rfl) ?_
 refine WL.a (d:=7) rfl rfl rfl (q_z rfl) ?_
 refine WL.nil ?_
 refine WX.a ?_
 refine WC.b ?_
 refine WC.block ?_
 refine WC.b ?_
 obtain ⟨x_23,hx_24,h⟩:=zz h
 refine WC.a ?_
 refine WL.a (d:=9) rfl rfl rfl (q_m rfl) ?_
 refine WL.b (dd:=10) rfl rfl rfl (zJ (l:=[.tmp 9]) Try.call21 (.cons rfl .nil)) (.nil : Sel [stb b_20 3 [(.int .i64 t_11)]] [] [stb b_20 3 [(.int .i64 t_11)]]) (fun w hw=>by have pz:=(hz.call hw (.nil : Sel [stb b_20 3 [(.int .i64 t_11)]] [] [stb b_20 3 [(.int .i64 t_11)]])); exact y15 (Z:=_)   (r:=x_23) w pz  hx_24) ?_
 refine WL.a (d:=8) rfl rfl rfl (q_z rfl) ?_
 refine WL.nil ?_
 refine WX.a ?_
 refine WC.cond rfl (fun h'=>?_) (fun h'=>(by cases h'))
 clear h'
 refine WC.b ?_
 refine WC.a ?_
 refine WL.a (d:=6) rfl rfl rfl (q_z rfl) ?_
 refine WL.a (d:=7) rfl rfl rfl (q_z rfl) ?_
 refine WL.nil ?_
 refine WX.a ?_
 refine WC.ret ?_
 refine WX.yI ?_
 refine WX.y9 ?_
 skip
 refine WX.y6 Try.results16 (.tmp rfl (.tmp rfl .nil)) (fun w hw=>?_)
 exact ⟨ret2 rfl rfl,hw.sub .nil⟩
def yP (t_27 : Int) : Option Unit :=
 (yC).bind fun x_38=>some ()
set_option maxRecDepth 20000 in
theorem y28 (Z : Zp)   (t_27 : Int) (r : Unit) (w₀ : World) (hz : PZ [] w₀ Z)
  (h : yP t_27 = some r) :
  Calls Try.prog 12 #[(.pointer none),(.int .i64 t_27)] w₀ fun e w'=>e = .returned (.int .i64 0) ∧ Hp [] w₀ w' []:=by
 unfold yP at h
 refine Calls.ya (vs:=[(.pointer none),(.int .i64 t_27)]) (pre:=[]) (env:=[(0,(.pointer none)),(1,(.int .i64 t_27))]) Try.func12 rfl Try.ntmps12 rfl (Hp.nil w₀ _) rfl ?_
 refine WC.b ?_
 refine WC.a ?_
 refine WL.new (dd:=3) rfl rfl rfl (y1n (cs:=[(.int .i64 t_27)]) rfl rfl) ?_
 intro b_35 _
 refine WL.a (d:=4) rfl rfl rfl (q_z rfl) ?_
 refine WL.nil ?_
 refine WX.a ?_
 refine WC.b ?_
 refine WC.b ?_
 obtain ⟨x_38,hx_39,h⟩:=zz h
 refine WC.a ?_
 refine WL.a (d:=5) rfl rfl rfl (q_m rfl) ?_
 refine WL.b (dd:=6) rfl rfl rfl (zJ (l:=[.tmp 5]) Try.call21 (.cons rfl .nil)) (.nil : Sel [stb b_35 3 [(.int .i64 t_27)]] [] [stb b_35 3 [(.int .i64 t_27)]]) (fun w hw=>by have pz:=(hz.call hw (.nil : Sel [stb b_35 3 [(.int .i64 t_27)]] [] [stb b_35 3 [(.int .i64 t_27)]])); exact y15 (Z:=_)   (r:=x_38) w pz  hx_39) ?_
 refine WL.nil ?_
 refine WX.a ?_
 refine WC.cond rfl (fun h'=>?_) (fun h'=>(by cases h'))
 clear h'
 refine WC.b ?_
 refine WC.a ?_
 refine WL.a (d:=4) rfl rfl rfl (q_z rfl) ?_
 refine WL.nil ?_
 refine WX.a ?_
 refine WC.ret ?_
 refine WX.y9 ?_
 skip
 refine WX.y6 Try.results12 (.tmp rfl .nil) (fun w hw=>?_)
 exact ⟨yM rfl,hw.sub .nil⟩
def yQ  : Option Unit :=
 (yC).bind fun x_48=>some ()
set_option maxRecDepth 20000 in
theorem y29 (Z : Zp)    (r : Unit) (w₀ : World) (hz : PZ [] w₀ Z)
  (h : yQ  = some r) :
  Calls Try.prog 14 #[(.pointer none)] w₀ fun e w'=>e = .returned (.int .i64 0) ∧ Hp [] w₀ w' []:=by
 unfold yQ at h
 refine Calls.ya (vs:=[(.pointer none)]) (pre:=[]) (env:=[(0,(.pointer none))]) Try.func14 rfl Try.ntmps14 rfl (Hp.nil w₀ _) rfl ?_
 refine WC.b ?_
 refine WC.a ?_
 refine WL.a (d:=2) rfl rfl rfl (q_z rfl) ?_
 refine WL.nil ?_
 refine WX.a ?_
 refine WC.b ?_
 refine WC.b ?_
 obtain ⟨x_48,hx_49,h⟩:=zz h
 refine WC.a ?_
 refine WL.a (d:=3) rfl rfl rfl (q_m rfl) ?_
 refine WL.b (dd:=4) rfl rfl rfl (zJ (l:=[.tmp 3]) Try.call21 (.cons rfl .nil)) (.nil : Sel [] [] []) (fun w hw=>by have pz:=(hz.call hw (.nil : Sel [] [] [])); exact y15 (Z:=_)   (r:=x_48) w pz  hx_49) ?_
 refine WL.nil ?_
 refine WX.a ?_
 refine WC.cond rfl (fun h'=>?_) (fun h'=>(by cases h'))
 clear h'
 refine WC.b ?_
 refine WC.a ?_
 refine WL.a (d:=2) rfl rfl rfl (q_z rfl) ?_
 refine WL.nil ?_
 refine WX.a ?_
 refine WC.ret ?_
 refine WX.y9 ?_
 skip
 refine WX.y6 Try.results14 (.tmp rfl .nil) (fun w hw=>?_)
 exact ⟨yM rfl,hw.sub .nil⟩
def yx (p_76 : Sport_Port) : Option Bool :=
 some (decide (p_76.fNumbers.fSlow = 0))
set_option maxRecDepth 20000 in
theorem yZ (Z : Zp)  (A_74 : Addr) (ao_77 : Option Addr) (cap_78 : Nat) (p_76 : Sport_Port) (r : Bool) (w₀ : World) (hz : PZ [] w₀ Z)
  (hs_79 : ZS Z 2 (fun r x=>r = e67 x) ao_77 cap_78 p_76.fFrames)
  (hA_75 : ZC Z A_74 [(.int .i64 p_76.fNumbers.fSlow),(.int .i64 p_76.fNumbers.fDelay),(.int .i64 p_76.fNumbers.fStore),(.int .i64 p_76.fNow),(.int .i64 p_76.fLast),(.slice ao_77 p_76.fFrames.length cap_78)])
  (h : yx p_76 = some r) :
  Calls Try.prog 21 #[(.pointer (some A_74))] w₀ fun e w'=>e = .returned (.bool r) ∧ Hp [] w₀ w' []:=by
 unfold yx at h
 refine Calls.ya (vs:=[(.pointer (some A_74))]) (pre:=[]) (env:=[(0,(.pointer (some A_74)))]) Try.func21 rfl Try.ntmps21 rfl (Hp.nil w₀ _) rfl ?_
 refine WC.b ?_
 refine WC.a ?_
 refine WL.a (d:=2) rfl rfl rfl (q_z rfl) ?_
 refine WL.nil ?_
 refine WX.a ?_
 refine WC.b ?_
 refine WC.a ?_
 refine WL.a (d:=3) rfl rfl rfl (q_m rfl) ?_
 refine WL.a (d:=4) rfl rfl rfl (y2z Try.underlying23 rfl rfl) ?_
 refine WL.a (d:=5) rfl rfl rfl (q_m rfl) ?_
 refine WL.a (d:=6) rfl rfl rfl (q_m rfl) ?_
 refine WL.a (d:=7) rfl rfl rfl (yd rfl) ?_
 refine WL.a (d:=8) rfl rfl rfl (y3 y21 rfl rfl) ?_
 refine WL.a (d:=9) rfl rfl rfl (y3 y2V rfl rfl) ?_
 refine WL.a (d:=10) rfl rfl rfl (y7 yi rfl (y2h hz.pv hA_75 rfl)) ?_
 refine WL.a (d:=11) rfl rfl rfl (y1m rfl rfl) ?_
 refine WL.a (d:=12) rfl rfl rfl (y8 rfl rfl) ?_
 refine WL.a (d:=2) rfl rfl rfl (q_z rfl) ?_
 refine WL.nil ?_
 refine WX.a ?_
 refine WC.ret ?_
 obtain rfl:=Option.some.inj h
 refine WX.y6 Try.results21 (.tmp rfl .nil) (fun w hw=>?_)
 exact ⟨yM rfl,hw.sub .nil⟩
def yK (z16 : Sport_frame) (z1L : Int) : Option Bool :=
 some (decide (z16.fFin ≤ z1L))
set_option maxRecDepth 20000 in
theorem y22 (Z : Zp)  (z1M : Addr) (z16 : Sport_frame) (z1L : Int) (r : Bool) (w₀ : World) (hz : PZ [] w₀ Z)
  (z44 : ZC Z z1M [(.int .i64 z1L)])
  (h : yK z16 z1L = some r) :
  Calls Try.prog 25 #[(.agg #[(.int .i64 z16.fSize),(.int .i64 z16.fFin)]),(.pointer (some z1M))] w₀ fun e w'=>e = .returned (.bool r) ∧ Hp [] w₀ w' []:=by
 unfold yK at h
 refine Calls.ya (vs:=[(.agg #[(.int .i64 z16.fSize),(.int .i64 z16.fFin)]),(.pointer (some z1M))]) (pre:=[]) (env:=[(0,(.agg #[(.int .i64 z16.fSize),(.int .i64 z16.fFin)])),(1,(.pointer (some z1M)))]) Try.func25 rfl Try.ntmps25 rfl (Hp.nil w₀ _) rfl ?_
 refine WC.b ?_
 refine WC.a ?_
 refine WL.new (dd:=2) rfl rfl rfl (y1n (cs:=[(.int .i64 z16.fSize),(.int .i64 z16.fFin)]) rfl rfl) ?_
 intro z4Z _
 refine WL.a (d:=3) rfl rfl rfl (q_z rfl) ?_
 refine WL.nil ?_
 refine WX.a ?_
 refine WC.b ?_
 refine WC.a ?_
 refine WL.a (d:=4) rfl rfl rfl (y3 y2W rfl rfl) ?_
 refine WL.a (d:=5) rfl rfl rfl (y7 yi rfl (yl .here rfl)) ?_
 refine WL.a (d:=6) rfl rfl rfl (y7 yi rfl (rd_z hz.pv z44 rfl)) ?_
 refine WL.a (d:=7) rfl rfl rfl (q_leq rfl rfl) ?_
 refine WL.a (d:=3) rfl rfl rfl (q_z rfl) ?_
 refine WL.nil ?_
 refine WX.a ?_
 refine WC.ret ?_
 obtain rfl:=Option.some.inj h
 refine WX.y6 Try.results25 (.tmp rfl .nil) (fun w hw=>?_)
 exact ⟨yM rfl,hw.sub .nil⟩
def y5 (zM : List Sport_frame) (z19 : Sport_frame → Option Bool) (z1h : Option Int) : Nat → Int → Option Int
 | 0,_=>none
 | z2a + 1,zQ=>if decide (zQ < ((zM.length : Nat) : Int)) then chk ((0 : Int) ≤ zQ ∧ zQ < ((zM.length : Nat) : Int)) ((z19 (⟨((nth zM zQ).fSize),((nth zM zQ).fFin)⟩ : Sport_frame)).bind fun z2b=>if z2b then some zQ else y5 zM z19 z1h z2a (i64 (zQ + 1))) else z1h
theorem yD {n : Nat} {zM : List Sport_frame} {z19 : Sport_frame → Option Bool} {z1h : Option Int} {zQ : Int} {r : Int} (h : y5 zM z19 z1h n zQ = some r) : ∃ m,n = m + 1:=by
 cases n with
 | zero=>cases h
 | succ m=>exact ⟨m,rfl⟩
def yh (zM : List Sport_frame) (z19 : Sport_frame → Option Bool) : Option Int :=
 jp0 (some (-1)) fun z1h=>y5 zM z19 z1h FUEL 0
set_option maxRecDepth 20000 in
theorem yR (Z : Zp)  (z1B : Option Addr) (z1C : Nat) (z1i : FuncId) (z1u : List Value) (zM : List Sport_frame) (z19 : Sport_frame → Option Bool) (r : Int) (w₀ : World) (hz : PZ [] w₀ Z)
  (z45 : ZS Z 2 (fun r x=>r = e67 x) z1B z1C zM)
  (z46 : ∀ args w,(callFunc z1i args).run Try.prog w = .ok (.enter z1i args) w)
  (z47 : ∀ w : World,PZ [] w Z → ∀ (x0 : Sport_frame) (r : Bool),z19 x0 = some r → Calls Try.prog z1i (([(.agg #[(.int .i64 x0.fSize),(.int .i64 x0.fFin)])] : List Value) ++ z1u).toArray w fun e w'=>e = .returned (.bool r) ∧ Hp [] w w' [])
  (h : yh zM z19 = some r) :
  Calls Try.prog 27 #[(.slice z1B zM.length z1C),(.func (.func z1i) #[] (z1u).toArray)] w₀ fun e w'=>e = .returned (.int .i64 r) ∧ Hp [] w₀ w' []:=by
 unfold yh at h
 refine Calls.ya (vs:=[(.slice z1B zM.length z1C),(.func (.func z1i) #[] (z1u).toArray)]) (pre:=[]) (env:=[(0,(.slice z1B zM.length z1C)),(1,(.func (.func z1i) #[] (z1u).toArray))]) Try.func27 rfl Try.ntmps27 rfl (Hp.nil w₀ _) rfl ?_
 refine WC.b ?_
 refine WC.a ?_
 refine WL.a (d:=4) rfl rfl rfl (q_z rfl) ?_
 refine WL.nil ?_
 refine WX.a ?_
 obtain ⟨z1h,z48,h⟩:=y26 h
 refine WC.y1I ((z1h = some r)) ([]) ([]) ?_ ?_
 ·skip
  refine WC.b ?_
  refine WC.a ?_
  refine WL.a (d:=6) rfl rfl rfl (q_m rfl) ?_
  refine WL.a (d:=7) rfl rfl rfl (y2e Try.underlying55 rfl) ?_
  refine WL.a (d:=8) rfl rfl rfl (q_m rfl) ?_
  refine WL.nil ?_
  refine WX.a ?_
  refine WC.block ?_
  refine WC.y2D (fun (z1D : Nat) (zQ : Int)=>(y5 zM z19 z1h z1D zQ = some r)) (fun (z1D : Nat) (zQ : Int)=>[(0,(.slice z1B zM.length z1C)),(1,(.func (.func z1i) #[] (z1u).toArray)),(7,(.int .i64 ((zM.length : Nat) : Int))),(8,(.int .i64 zQ))]) (fun (z1D : Nat) (zQ : Int)=>[]) (fun (z1D : Nat) (zQ : Int)=>z1D) ⟨FUEL,0⟩ h (.cons rfl (.cons rfl (.cons rfl (.cons rfl .nil)))) .nil ?_
  rintro z1D zQ h
  obtain ⟨z2a,rfl⟩:=yD h
  rw [y5] at h
  refine WC.b ?_
  refine WC.a ?_
  refine WL.a (d:=9) rfl rfl rfl (yO rfl rfl) ?_
  refine WL.nil ?_
  refine WX.a ?_
  refine WC.b ?_
  refine WC.cond rfl (fun z2c=>?_) (fun z2c=>?_)
  ·replace h:=yq h z2c
   refine WC.skip ?_
   refine WX.a ?_
   refine WC.b ?_
   refine WC.block ?_
   refine WC.b ?_
   refine WC.a ?_
   refine WL.a (d:=10) rfl rfl rfl (q_m rfl) ?_
   refine WL.a (d:=5) rfl rfl rfl (q_z rfl) ?_
   refine WL.nil ?_
   refine WX.a ?_
   refine WC.b ?_
   obtain ⟨z49,h⟩:=yJ h
   obtain ⟨z2b,z4a,h⟩:=zz h
   refine WC.a ?_
   refine WL.a (d:=11) rfl rfl rfl (q_m rfl) ?_
   refine WL.a (d:=12) rfl rfl rfl (q_m rfl) ?_
   refine WL.a (d:=13) rfl rfl rfl (q_m rfl) ?_
   refine WL.znth (dd:=14) rfl rfl (Z:=Z) (Pr:=(fun r x=>r = e67 x)) y1c rfl rfl z45 z49 ?_
   rintro z50 z51 z4b z52 rfl
   refine WL.a (d:=15) rfl rfl rfl (y1f (cs:=[(.int .i64 ((nth zM zQ).fSize)),(.int .i64 ((nth zM zQ).fFin))]) y1o rfl rfl (rd_zs hz.pv z4b)) ?_
   refine WL.b (dd:=16) rfl rfl rfl (y1U (l:=[.tmp 15]) (f:=z1i) (caps:=z1u) z46 rfl (.cons rfl .nil)) .nil (fun w hw=>z47 w (hz.now hw) (⟨((nth zM zQ).fSize),((nth zM zQ).fFin)⟩ : Sport_frame) z2b  z4a) ?_
   refine WL.nil ?_
   refine WX.a ?_
   refine WC.cond rfl (fun z2d=>?_) (fun z2d=>?_)
   ·replace h:=yq h z2d
    refine WC.b ?_
    refine WC.a ?_
    refine WL.a (d:=17) rfl rfl rfl (q_m rfl) ?_
    refine WL.a (d:=4) rfl rfl rfl (q_z rfl) ?_
    refine WL.nil ?_
    refine WX.a ?_
    refine WC.ret ?_
    refine WX.yI ?_
    refine WX.y9 ?_
    refine WX.y9 ?_
    refine WX.yI ?_
    refine WX.y9 ?_
    obtain rfl:=Option.some.inj h
    refine WX.y6 Try.results27 (.tmp rfl .nil) (fun w hw=>?_)
    exact ⟨yM rfl,hw.sub .nil⟩
   ·replace h:=yr h z2d
    refine WC.skip ?_
    refine WX.yj ?_
    refine WX.a ?_
    refine WC.a ?_
    refine WL.a (d:=18) rfl rfl rfl (y14 rfl rfl rfl) ?_
    refine WL.a (d:=8) rfl rfl rfl (q_m rfl) ?_
    refine WL.nil ?_
    exact WX.round (G:=Nat × Int) ⟨z2a,(i64 (zQ + 1))⟩ h (Nat.lt_succ_self _) (.cons rfl (.cons rfl (.cons rfl (.cons rfl .nil)))) .nil
  ·replace h:=yr h z2c
   refine WC.exit ?_
   refine WX.yo ?_
   refine WX.yo ?_
   refine WX.y11 ?_
   exact WX.mid (G:=Unit) () h .nil .nil
 ·rintro  h
  replace h:=z48.symm.trans h
  refine WC.b ?_
  refine WC.a ?_
  refine WL.a (d:=4) rfl rfl rfl (q_z rfl) ?_
  refine WL.nil ?_
  refine WX.a ?_
  refine WC.ret ?_
  obtain rfl:=Option.some.inj h
  refine WX.y6 Try.results27 (.tmp rfl .nil) (fun w hw=>?_)
  exact ⟨yM rfl,hw.sub .nil⟩
def y4 (zX : Sport_frame → Option Bool) (z1j : (List Sport_frame) → Int → Option (List Sport_frame)) : Nat → (List Sport_frame) → Int → Int → Option (List Sport_frame)
 | 0,_,_,_=>none
 | z2e + 1,zn,zN,zr=>if decide (zr < ((zn.length : Nat) : Int)) then jp2 (fun (z17 : List Sport_frame) (z1k : Int)=>y4 zX z1j z2e z17 z1k (i64 (zr + 1))) fun z21=>chk ((0 : Int) ≤ zr ∧ zr < ((zn.length : Nat) : Int)) ((zX (⟨((nth zn zr).fSize),((nth zn zr).fFin)⟩ : Sport_frame)).bind fun z2f=>if !z2f then chk ((0 : Int) ≤ zN ∧ zN < ((zn.length : Nat) : Int)) (z21 (zn.set (zN : Int).toNat (⟨((nth zn zr).fSize),((nth zn zr).fFin)⟩ : Sport_frame)) (i64 (zN + 1))) else z21 zn zN) else z1j zn zN
theorem yA {n : Nat} {zX : Sport_frame → Option Bool} {z1j : (List Sport_frame) → Int → Option (List Sport_frame)} {zn : List Sport_frame} {zN : Int} {zr : Int} {r : List Sport_frame} (h : y4 zX z1j n zn zN zr = some r) : ∃ m,n = m + 1:=by
 cases n with
 | zero=>cases h
 | succ m=>exact ⟨m,rfl⟩
def yg (zq : List Sport_frame) (zX : Sport_frame → Option Bool) : Option (List Sport_frame) :=
 (yh zq zX).bind fun z1v=>if decide (z1v = (-1)) then some zq else jp2 (fun (zO : List Sport_frame) (zP : Int)=>chk ((0 : Int) ≤ zP ∧ zP ≤ ((zO.length : Nat) : Int)) (chk ((0 : Int) ≤ zP ∧ zP ≤ (((zO.take (zP : Int).toNat ++ List.replicate (zO.length - (zP : Int).toNat) ((⟨0,0⟩ : Sport_frame) : Sport_frame)).length : Nat) : Int)) (some ((zO.take (zP : Int).toNat ++ List.replicate (zO.length - (zP : Int).toNat) ((⟨0,0⟩ : Sport_frame) : Sport_frame)).take (zP : Int).toNat)))) fun z1j=>y4 zX z1j FUEL zq z1v (i64 (z1v + 1))
set_option maxRecDepth 20000 in
theorem yN (Z : Zp)  (zK : Option Addr) (zL : Nat) (z1a : FuncId) (z1l : List Value) (zq : List Sport_frame) (zX : Sport_frame → Option Bool) (r : List Sport_frame) (w₀ : World) (hz : PZ (fps [row (.slice zK zq.length zL) 67 2 (zq.flatMap e67)]) w₀ Z)
  (z2Z : ∀ args w,(callFunc z1a args).run Try.prog w = .ok (.enter z1a args) w)
  (z30 : ∀ w : World,PZ [] w Z → ∀ (x0 : Sport_frame) (r : Bool),zX x0 = some r → Calls Try.prog z1a (([(.agg #[(.int .i64 x0.fSize),(.int .i64 x0.fFin)])] : List Value) ++ z1l).toArray w fun e w'=>e = .returned (.bool r) ∧ Hp [] w w' [])
  (h : yg zq zX = some r)
  (hown : Hp (fps [row (.slice zK zq.length zL) 67 2 (zq.flatMap e67)]) w₀ w₀ [row (.slice zK zq.length zL) 67 2 (zq.flatMap e67)]) :
  Calls Try.prog 24 #[(.slice zK zq.length zL),(.func (.func z1a) #[] (z1l).toArray)] w₀ fun e w'=>∃ z31 : Option Addr,∃ z32 : Nat,e = .returned (.slice z31 r.length z32) ∧ True ∧ Hp (fps [row (.slice zK zq.length zL) 67 2 (zq.flatMap e67)]) w₀ w' [row (.slice z31 r.length z32) 67 2 (r.flatMap e67)]:=by
 unfold yg at h
 refine Calls.ya (vs:=[(.slice zK zq.length zL),(.func (.func z1a) #[] (z1l).toArray)]) (pre:=[row (.slice zK zq.length zL) 67 2 (zq.flatMap e67)]) (env:=[(0,(.slice zK zq.length zL)),(1,(.func (.func z1a) #[] (z1l).toArray))]) Try.func24 rfl Try.ntmps24 rfl (hown) rfl ?_
 refine WC.b ?_
 refine WC.a ?_
 refine WL.a (d:=4) rfl rfl rfl (q_z rfl) ?_
 refine WL.nil ?_
 refine WX.a ?_
 refine WC.b ?_
 obtain ⟨z1v,z4c,h⟩:=zz h
 refine WC.a ?_
 refine WL.a (d:=8) rfl rfl rfl (q_m rfl) ?_
 refine WL.a (d:=9) rfl rfl rfl (q_m rfl) ?_
 refine WL.b (dd:=10) rfl rfl rfl (zJ (l:=[.tmp 8,.tmp 9]) Try.call27 (.cons rfl (.cons rfl .nil))) (.nil : Sel [row (.slice zK zq.length zL) 67 2 (zq.flatMap e67)] [] [row (.slice zK zq.length zL) 67 2 (zq.flatMap e67)]) (fun w hw=>by have pz:=(hz.call hw (.nil : Sel [row (.slice zK zq.length zL) 67 2 (zq.flatMap e67)] [] [row (.slice zK zq.length zL) 67 2 (zq.flatMap e67)])).lend hw (.nil : Sel [row (.slice zK zq.length zL) 67 2 (zq.flatMap e67)] [] [row (.slice zK zq.length zL) 67 2 (zq.flatMap e67)]) (B:=[row (.slice zK zq.length zL) 67 2 (zq.flatMap e67)]) (fun _ hx'=>((.cons .here .nil) : Sel _ [row (.slice zK zq.length zL) 67 2 (zq.flatMap e67)] _).mem hx'); exact yR (Z:=_) (z1B:=zK) (z1C:=zL) (z1i:=z1a) (z1u:=z1l) (zM:=zq) (z19:=zX) (r:=z1v) w pz (ZA.row (hw.lent (.nil : Sel [row (.slice zK zq.length zL) 67 2 (zq.flatMap e67)] [] [row (.slice zK zq.length zL) 67 2 (zq.flatMap e67)]) (B:=[row (.slice zK zq.length zL) 67 2 (zq.flatMap e67)]) (fun _ hx'=>((.cons .here .nil) : Sel _ [row (.slice zK zq.length zL) 67 2 (zq.flatMap e67)] _).mem hx') (.head _) _) (RR.y17 (enc:=e67) (fun _=>rfl) _) ⟨w,pz.1⟩) z2Z (fun w' hz'=>z30 w' (hz'.le (Zle.left _ _))) z4c) ?_
 refine WL.a (d:=5) rfl rfl rfl (q_z rfl) ?_
 refine WL.nil ?_
 refine WX.a ?_
 refine WC.b ?_
 refine WC.b ?_
 refine WC.a ?_
 refine WL.a (d:=11) rfl rfl rfl (q_m rfl) ?_
 refine WL.a (d:=12) rfl rfl rfl (y1m rfl rfl) ?_
 refine WL.nil ?_
 refine WX.a ?_
 refine WC.cond rfl (fun z2g=>?_) (fun z2g=>?_)
 ·replace h:=yq h z2g
  refine WC.b ?_
  refine WC.a ?_
  refine WL.a (d:=13) rfl rfl rfl (q_m rfl) ?_
  refine WL.a (d:=4) rfl rfl rfl (q_z rfl) ?_
  refine WL.nil ?_
  refine WX.a ?_
  refine WC.ret ?_
  refine WX.y9 ?_
  obtain rfl:=Option.some.inj h
  refine WX.y6 Try.results24 (.tmp rfl .nil) (fun w hw=>?_)
  exact ⟨zK,zL,yM rfl,trivial,hw.sub (.cons .here .nil)⟩
 ·replace h:=yr h z2g
  refine WC.skip ?_
  refine WX.a ?_
  obtain ⟨z1j,z4d,h⟩:=y2F h
  refine WC.y2g (fun (zO : List Sport_frame) (zP : Int) (z1w : Option Addr) (z1x : Nat)=>(z1j zO zP = some r) ∧ (zO.length = zq.length)) (fun (zO : List Sport_frame) (zP : Int) (z1w : Option Addr) (z1x : Nat)=>[(0,(.slice z1w zO.length z1x)),(5,(.int .i64 zP))]) (fun (zO : List Sport_frame) (zP : Int) (z1w : Option Addr) (z1x : Nat)=>[row (.slice z1w zO.length z1x) 67 2 (zO.flatMap e67)]) ?_ ?_
  ·skip
   refine WC.b ?_
   refine WC.a ?_
   refine WL.a (d:=14) rfl rfl rfl (q_m rfl) ?_
   refine WL.a (d:=15) rfl rfl rfl (y14 rfl rfl rfl) ?_
   refine WL.a (d:=6) rfl rfl rfl (q_z rfl) ?_
   refine WL.nil ?_
   refine WX.a ?_
   refine WC.block ?_
   refine WC.loop6 (fun (z1E : Nat) (zn : List Sport_frame) (zN : Int) (zr : Int) (z1y : Option Addr) (z1b : Nat)=>(y4 zX z1j z1E zn zN zr = some r) ∧ (zn.length = zq.length)) (fun (z1E : Nat) (zn : List Sport_frame) (zN : Int) (zr : Int) (z1y : Option Addr) (z1b : Nat)=>[(0,(.slice z1y zn.length z1b)),(1,(.func (.func z1a) #[] (z1l).toArray)),(5,(.int .i64 zN)),(6,(.int .i64 zr))]) (fun (z1E : Nat) (zn : List Sport_frame) (zN : Int) (zr : Int) (z1y : Option Addr) (z1b : Nat)=>[row (.slice z1y zn.length z1b) 67 2 (zn.flatMap e67)]) (fun (z1E : Nat) (zn : List Sport_frame) (zN : Int) (zr : Int) (z1y : Option Addr) (z1b : Nat)=>z1E) ⟨FUEL,zq,z1v,(i64 (z1v + 1)),zK,zL⟩ ⟨h,rfl⟩ (.cons rfl (.cons rfl (.cons rfl (.cons rfl .nil)))) (.cons .here .nil) ?_
   rintro z1E zn zN zr z1y z1b ⟨h,z2h⟩
   obtain ⟨z2e,rfl⟩:=yA h
   rw [y4] at h
   refine WC.b ?_
   refine WC.b ?_
   refine WC.a ?_
   refine WL.a (d:=16) rfl rfl rfl (q_m rfl) ?_
   refine WL.a (d:=17) rfl rfl rfl (q_m rfl) ?_
   refine WL.a (d:=18) rfl rfl rfl (y2e Try.underlying55 rfl) ?_
   refine WL.a (d:=19) rfl rfl rfl (yO rfl rfl) ?_
   refine WL.nil ?_
   refine WX.a ?_
   refine WC.cond rfl (fun z2i=>?_) (fun z2i=>?_)
   ·replace h:=yq h z2i
    refine WC.skip ?_
    refine WX.a ?_
    obtain ⟨z21,z4e,h⟩:=y2F h
    refine WC.y2g (fun (z17 : List Sport_frame) (z1k : Int) (z1F : Option Addr) (z1G : Nat)=>(z21 z17 z1k = some r) ∧ (z17.length = zq.length)) (fun (z17 : List Sport_frame) (z1k : Int) (z1F : Option Addr) (z1G : Nat)=>[(0,(.slice z1F z17.length z1G)),(1,(.func (.func z1a) #[] (z1l).toArray)),(5,(.int .i64 z1k)),(6,(.int .i64 zr))]) (fun (z17 : List Sport_frame) (z1k : Int) (z1F : Option Addr) (z1G : Nat)=>[row (.slice z1F z17.length z1G) 67 2 (z17.flatMap e67)]) ?_ ?_
    ·skip
     refine WC.block ?_
     refine WC.b ?_
     obtain ⟨z1N,h⟩:=yJ h
     refine WC.a ?_
     refine WL.a (d:=22) rfl rfl rfl (q_m rfl) ?_
     refine WL.a (d:=23) rfl rfl rfl (q_m rfl) ?_
     refine WL.know (fun w hw=>Hp.y34 .here hw (by intro hz'; have:=z1N; rw [hz'] at this; omega)) ?_
     rintro ⟨z22,rfl⟩
     refine WL.a (d:=24) rfl rfl rfl (yu y1c rfl rfl z1N.1 z1N.2 y1B) ?_
     refine WL.a (d:=25) rfl rfl rfl (y1f (cs:=(e67 (nth zn zr))) y1o rfl rfl (y2O .here (y2R (enc:=e67) (l:=zn) (i:=zr) (sz:=2) (fun _=>rfl) z1N.1 z1N.2))) ?_
     refine WL.new (dd:=7) rfl rfl rfl (y2m (cs:=[(.int .i64 0),(.int .i64 0)]) y27 rfl) ?_
     intro z53 _
     refine WL.y1e rfl rfl (y16 (vs:=[(.int .i64 ((nth zn zr).fSize)),(.int .i64 ((nth zn zr).fFin))]) (ds:=[(.int .i64 ((nth zn zr).fSize)),(.int .i64 ((nth zn zr).fFin))]) y2r rfl rfl rfl rfl (yp rfl (yp rfl y12)) .here (Nat.le_of_ble_eq_true rfl) rfl) ?_
     refine WL.nil ?_
     refine WX.a ?_
     refine WC.b ?_
     obtain ⟨z2f,z4f,h⟩:=zz h
     refine WC.a ?_
     refine WL.a (d:=26) rfl rfl rfl (q_m rfl) ?_
     refine WL.a (d:=27) rfl rfl rfl (y1f (cs:=[(.int .i64 ((nth zn zr).fSize)),(.int .i64 ((nth zn zr).fFin))]) y1o rfl rfl (y2B .here)) ?_
     refine WL.b (dd:=28) rfl rfl rfl (y1U (l:=[.tmp 27]) (f:=z1a) (caps:=z1l) z2Z rfl (.cons rfl .nil)) .nil (fun w hw=>z30 w (hz.now hw) (⟨((nth zn zr).fSize),((nth zn zr).fFin)⟩ : Sport_frame) z2f  z4f) ?_
     refine WL.a (d:=29) rfl rfl rfl (q_not rfl) ?_
     refine WL.nil ?_
     refine WX.a ?_
     refine WC.cond rfl (fun z2j=>?_) (fun z2j=>?_)
     ·replace h:=yq h z2j
      refine WC.b ?_
      obtain ⟨z1H,h⟩:=yJ h
      refine WC.a ?_
      refine WL.a (d:=30) rfl rfl rfl (q_m rfl) ?_
      refine WL.a (d:=31) rfl rfl rfl (q_m rfl) ?_
      refine WL.a (d:=32) rfl rfl rfl (y1f (cs:=[(.int .i64 ((nth zn zr).fSize)),(.int .i64 ((nth zn zr).fFin))]) y1o rfl rfl (y2B .here)) ?_
      refine WL.a (d:=33) rfl rfl rfl (yu y1c rfl rfl z1H.1 z1H.2 y1B) ?_
      refine WL.y1e rfl rfl (y2Y (vs:=[(.int .i64 ((nth zn zr).fSize)),(.int .i64 ((nth zn zr).fFin))]) (ds:=(zn.set (zN : Int).toNat (⟨((nth zn zr).fSize),((nth zn zr).fFin)⟩ : Sport_frame)).flatMap e67) y2r rfl rfl rfl rfl (yp rfl (yp rfl y12)) .h1 (flat_fit (enc:=e67) (sz:=2) (k:=0) (fun _=>rfl) z1H.1 z1H.2 (by decide)) (flat_put (enc:=e67) (l:=zn) (sz:=2) (vs:=[(.int .i64 ((nth zn zr).fSize)),(.int .i64 ((nth zn zr).fFin))]) (y:=(⟨((nth zn zr).fSize),((nth zn zr).fFin)⟩ : Sport_frame)) (k:=0) (fun _=>rfl) z1H.1 z1H.2 rfl (Nat.le_of_ble_eq_true rfl))) ?_
      refine WL.relen .here (u:=(.slice (some ⟨z22,0,none⟩) ((zn.set (zN : Int).toNat (⟨((nth zn zr).fSize),((nth zn zr).fFin)⟩ : Sport_frame)).length) z1b)) (slen (List.length_set).symm) ?_
      refine WL.repin (i:=0) rfl (u:=(.slice (some ⟨z22,0,none⟩) ((zn.set (zN : Int).toNat (⟨((nth zn zr).fSize),((nth zn zr).fFin)⟩ : Sport_frame)).length) z1b)) (slen (List.length_set).symm) ?_
      refine WL.nil ?_
      refine WX.a ?_
      refine WC.a ?_
      refine WL.a (d:=34) rfl rfl rfl (q_m rfl) ?_
      refine WL.a (d:=35) rfl rfl rfl (y14 rfl rfl rfl) ?_
      refine WL.a (d:=5) rfl rfl rfl (q_z rfl) ?_
      refine WL.nil ?_
      refine WX.yj ?_
      exact WX.mid (G:=List Sport_frame × Int × Option Addr × Nat) ⟨(zn.set (zN : Int).toNat (⟨((nth zn zr).fSize),((nth zn zr).fFin)⟩ : Sport_frame)),(i64 (zN + 1)),(some ⟨z22,0,none⟩),z1b⟩ ⟨h,((List.length_set).trans z2h)⟩ (.cons rfl (.cons rfl (.cons rfl (.cons rfl .nil)))) (.cons .here .nil)
     ·replace h:=yr h z2j
      refine WC.skip ?_
      refine WX.yj ?_
      exact WX.mid (G:=List Sport_frame × Int × Option Addr × Nat) ⟨zn,zN,(some ⟨z22,0,none⟩),z1b⟩ ⟨h,z2h⟩ (.cons rfl (.cons rfl (.cons rfl (.cons rfl .nil)))) (.cons .h1 .nil)
    ·rintro z17 z1k z1F z1G ⟨h,z4g⟩
     replace h:=(z4e z17 z1k).symm.trans h
     refine WC.a ?_
     refine WL.a (d:=20) rfl rfl rfl (q_m rfl) ?_
     refine WL.a (d:=21) rfl rfl rfl (y14 rfl rfl rfl) ?_
     refine WL.a (d:=6) rfl rfl rfl (q_z rfl) ?_
     refine WL.nil ?_
     exact WX.round (G:=Nat × List Sport_frame × Int × Int × Option Addr × Nat) ⟨z2e,z17,z1k,(i64 (zr + 1)),z1F,z1G⟩ ⟨h,z4g⟩ (Nat.lt_succ_self _) (.cons rfl (.cons rfl (.cons rfl (.cons rfl .nil)))) (.cons .here .nil)
   ·replace h:=yr h z2i
    refine WC.exit ?_
    refine WX.yo ?_
    refine WX.yo ?_
    refine WX.y11 ?_
    exact WX.mid (G:=List Sport_frame × Int × Option Addr × Nat) ⟨zn,zN,z1y,z1b⟩ ⟨h,z2h⟩ (.cons rfl (.cons rfl .nil)) (.cons .here .nil)
  ·rintro zO zP z1w z1x ⟨h,z54⟩
   replace h:=(z4d zO zP).symm.trans h
   refine WC.b ?_
   obtain ⟨z23,h⟩:=yJ h
   refine WC.a ?_
   refine WL.a (d:=36) rfl rfl rfl (q_m rfl) ?_
   refine WL.a (d:=37) rfl rfl rfl (q_m rfl) ?_
   refine WL.y38 (dd:=38) rfl rfl y1c rfl rfl .here z23 ?_
   intro z55 z56 z4h
   refine WL.y1e rfl rfl (y2G (enc:=e67) (z0:=((⟨0,0⟩ : Sport_frame) : Sport_frame)) (l:=zO) y1c y27 rfl z4h z23 (fun _=>rfl) (by decide) rfl e67_oc .here) ?_
   refine WL.relen .here (u:=(.slice z1w ((zO.take (zP : Int).toNat ++ List.replicate (zO.length - (zP : Int).toNat) ((⟨0,0⟩ : Sport_frame) : Sport_frame)).length) z1x)) (slen (y1Y z23).symm) ?_
   refine WL.repin (i:=0) rfl (u:=(.slice z1w ((zO.take (zP : Int).toNat ++ List.replicate (zO.length - (zP : Int).toNat) ((⟨0,0⟩ : Sport_frame) : Sport_frame)).length) z1x)) (slen (y1Y z23).symm) ?_
   refine WL.nil ?_
   refine WX.a ?_
   refine WC.b ?_
   obtain ⟨z4i,h⟩:=yJ h
   refine WC.a ?_
   refine WL.a (d:=39) rfl rfl rfl (q_m rfl) ?_
   refine WL.a (d:=40) rfl rfl rfl (q_m rfl) ?_
   refine WL.y37 (dd:=41) (enc:=e67) (ls:=zO.take (zP : Int).toNat ++ List.replicate (zO.length - (zP : Int).toNat) ((⟨0,0⟩ : Sport_frame) : Sport_frame)) rfl rfl y1c rfl rfl .here (fun _=>rfl) z4i ?_
   intro z4j z4k
   refine WL.a (d:=4) rfl rfl rfl (q_z rfl) ?_
   refine WL.nil ?_
   refine WX.a ?_
   refine WC.ret ?_
   obtain rfl:=Option.some.inj h
   refine WX.y6 Try.results24 (.tmp rfl .nil) (fun w hw=>?_)
   exact ⟨z4j,z4k,yM rfl,trivial,hw.sub (.cons .here .nil)⟩
def yH (z18 : Sport_frame) (z1O : Int) : Option Bool :=
 some (decide (z18.fFin > z1O))
set_option maxRecDepth 20000 in
theorem y1Z (Z : Zp)  (z1P : Addr) (z18 : Sport_frame) (z1O : Int) (r : Bool) (w₀ : World) (hz : PZ [] w₀ Z)
  (z4l : ZC Z z1P [(.int .i64 z1O)])
  (h : yH z18 z1O = some r) :
  Calls Try.prog 23 #[(.agg #[(.int .i64 z18.fSize),(.int .i64 z18.fFin)]),(.pointer (some z1P))] w₀ fun e w'=>e = .returned (.bool r) ∧ Hp [] w₀ w' []:=by
 unfold yH at h
 refine Calls.ya (vs:=[(.agg #[(.int .i64 z18.fSize),(.int .i64 z18.fFin)]),(.pointer (some z1P))]) (pre:=[]) (env:=[(0,(.agg #[(.int .i64 z18.fSize),(.int .i64 z18.fFin)])),(1,(.pointer (some z1P)))]) Try.func23 rfl Try.ntmps23 rfl (Hp.nil w₀ _) rfl ?_
 refine WC.b ?_
 refine WC.a ?_
 refine WL.new (dd:=2) rfl rfl rfl (y1n (cs:=[(.int .i64 z18.fSize),(.int .i64 z18.fFin)]) rfl rfl) ?_
 intro z57 _
 refine WL.a (d:=3) rfl rfl rfl (q_z rfl) ?_
 refine WL.nil ?_
 refine WX.a ?_
 refine WC.b ?_
 refine WC.a ?_
 refine WL.a (d:=4) rfl rfl rfl (y3 y2W rfl rfl) ?_
 refine WL.a (d:=5) rfl rfl rfl (y7 yi rfl (yl .here rfl)) ?_
 refine WL.a (d:=6) rfl rfl rfl (y7 yi rfl (rd_z hz.pv z4l rfl)) ?_
 refine WL.a (d:=7) rfl rfl rfl (y1h rfl rfl) ?_
 refine WL.a (d:=3) rfl rfl rfl (q_z rfl) ?_
 refine WL.nil ?_
 refine WX.a ?_
 refine WC.ret ?_
 obtain rfl:=Option.some.inj h
 refine WX.y6 Try.results23 (.tmp rfl .nil) (fun w hw=>?_)
 exact ⟨yM rfl,hw.sub .nil⟩
def yv (zw : Sport_Port) (z1c : Sport_frame → Option Bool) (z1m : Int → Option Int) : Nat → Int → Int → Option Int
 | 0,_,_=>none
 | z2k + 1,zV,zE=>if decide (zE < ((zw.fFrames.length : Nat) : Int)) then jp1 (fun (z1n : Int)=>yv zw z1c z1m z2k z1n (i64 (zE + 1))) fun z24=>chk ((0 : Int) ≤ zE ∧ zE < ((zw.fFrames.length : Nat) : Int)) ((z1c (⟨((nth zw.fFrames zE).fSize),((nth zw.fFrames zE).fFin)⟩ : Sport_frame)).bind fun z2l=>if z2l then z24 (i64 (zV + ((nth zw.fFrames zE).fSize))) else z24 zV) else z1m zV
theorem y1u {n : Nat} {zw : Sport_Port} {z1c : Sport_frame → Option Bool} {z1m : Int → Option Int} {zV : Int} {zE : Int} {r : Int} (h : yv zw z1c z1m n zV zE = some r) : ∃ m,n = m + 1:=by
 cases n with
 | zero=>cases h
 | succ m=>exact ⟨m,rfl⟩
def y1d (zw : Sport_Port) (z1c : Sport_frame → Option Bool) : Option Int :=
 jp1 (fun (z1q : Int)=>some z1q) fun z1m=>yv zw z1c z1m FUEL 0 0
set_option maxRecDepth 20000 in
theorem y2j (Z : Zp)  (z1Q : Addr) (z1R : Option Addr) (z1S : Nat) (z1f : FuncId) (z1r : List Value) (zw : Sport_Port) (z1c : Sport_frame → Option Bool) (r : Int) (w₀ : World) (hz : PZ [] w₀ Z)
  (z4m : ZS Z 2 (fun r x=>r = e67 x) z1R z1S zw.fFrames)
  (z4n : ZC Z z1Q [(.int .i64 zw.fNumbers.fSlow),(.int .i64 zw.fNumbers.fDelay),(.int .i64 zw.fNumbers.fStore),(.int .i64 zw.fNow),(.int .i64 zw.fLast),(.slice z1R zw.fFrames.length z1S)])
  (z4o : ∀ args w,(callFunc z1f args).run Try.prog w = .ok (.enter z1f args) w)
  (z4p : ∀ w : World,PZ [] w Z → ∀ (x0 : Sport_frame) (r : Bool),z1c x0 = some r → Calls Try.prog z1f (([(.agg #[(.int .i64 x0.fSize),(.int .i64 x0.fFin)])] : List Value) ++ z1r).toArray w fun e w'=>e = .returned (.bool r) ∧ Hp [] w w' [])
  (h : y1d zw z1c = some r) :
  Calls Try.prog 22 #[(.pointer (some z1Q)),(.func (.func z1f) #[] (z1r).toArray)] w₀ fun e w'=>e = .returned (.int .i64 r) ∧ Hp [] w₀ w' []:=by
 unfold y1d at h
 refine Calls.ya (vs:=[(.pointer (some z1Q)),(.func (.func z1f) #[] (z1r).toArray)]) (pre:=[]) (env:=[(0,(.pointer (some z1Q))),(1,(.func (.func z1f) #[] (z1r).toArray))]) Try.func22 rfl Try.ntmps22 rfl (Hp.nil w₀ _) rfl ?_
 refine WC.b ?_
 refine WC.a ?_
 refine WL.a (d:=4) rfl rfl rfl (q_z rfl) ?_
 refine WL.nil ?_
 refine WX.a ?_
 refine WC.b ?_
 refine WC.a ?_
 refine WL.a (d:=5) rfl rfl rfl (q_z rfl) ?_
 refine WL.nil ?_
 refine WX.a ?_
 obtain ⟨z1m,z4q,h⟩:=y2E h
 refine WC.y2f (fun (z1q : Int)=>(z1m z1q = some r)) (fun (z1q : Int)=>[(5,(.int .i64 z1q))]) (fun (z1q : Int)=>[]) ?_ ?_
 ·skip
  refine WC.b ?_
  refine WC.a ?_
  refine WL.a (d:=8) rfl rfl rfl (q_m rfl) ?_
  refine WL.a (d:=9) rfl rfl rfl (yd rfl) ?_
  refine WL.a (d:=10) rfl rfl rfl (y3 y1E rfl rfl) ?_
  refine WL.a (d:=11) rfl rfl rfl (y7 y2q rfl (y2h hz.pv z4n rfl)) ?_
  refine WL.a (d:=12) rfl rfl rfl (y2e Try.underlying55 rfl) ?_
  refine WL.a (d:=13) rfl rfl rfl (q_m rfl) ?_
  refine WL.nil ?_
  refine WX.a ?_
  refine WC.block ?_
  refine WC.loop3 (fun (z1I : Nat) (zV : Int) (zE : Int)=>(yv zw z1c z1m z1I zV zE = some r)) (fun (z1I : Nat) (zV : Int) (zE : Int)=>[(1,(.func (.func z1f) #[] (z1r).toArray)),(5,(.int .i64 zV)),(11,(.slice z1R zw.fFrames.length z1S)),(12,(.int .i64 ((zw.fFrames.length : Nat) : Int))),(13,(.int .i64 zE))]) (fun (z1I : Nat) (zV : Int) (zE : Int)=>[]) (fun (z1I : Nat) (zV : Int) (zE : Int)=>z1I) ⟨FUEL,0,0⟩ h (.cons rfl (.cons rfl (.cons rfl (.cons rfl (.cons rfl .nil))))) .nil ?_
  rintro z1I zV zE h
  obtain ⟨z2k,rfl⟩:=y1u h
  rw [yv] at h
  refine WC.b ?_
  refine WC.a ?_
  refine WL.a (d:=14) rfl rfl rfl (yO rfl rfl) ?_
  refine WL.nil ?_
  refine WX.a ?_
  refine WC.b ?_
  refine WC.cond rfl (fun z2m=>?_) (fun z2m=>?_)
  ·replace h:=yq h z2m
   refine WC.skip ?_
   refine WX.a ?_
   obtain ⟨z24,z4r,h⟩:=y2E h
   refine WC.y2f (fun (z1n : Int)=>(z24 z1n = some r)) (fun (z1n : Int)=>[(1,(.func (.func z1f) #[] (z1r).toArray)),(5,(.int .i64 z1n)),(11,(.slice z1R zw.fFrames.length z1S)),(12,(.int .i64 ((zw.fFrames.length : Nat) : Int))),(13,(.int .i64 zE))]) (fun (z1n : Int)=>[]) ?_ ?_
   ·skip
    refine WC.block ?_
    refine WC.b ?_
    obtain ⟨z4s,h⟩:=yJ h
    refine WC.a ?_
    refine WL.znth (dd:=15) rfl rfl (Z:=Z) (Pr:=(fun r x=>r = e67 x)) y1c rfl rfl z4m z4s ?_
    rintro z58 z59 z4t z5a rfl
    refine WL.a (d:=16) rfl rfl rfl (y1f (cs:=[(.int .i64 ((nth zw.fFrames zE).fSize)),(.int .i64 ((nth zw.fFrames zE).fFin))]) y1o rfl rfl (rd_zs hz.pv z4t)) ?_
    refine WL.new (dd:=7) rfl rfl rfl (y2m (cs:=[(.int .i64 0),(.int .i64 0)]) y27 rfl) ?_
    intro z5b _
    refine WL.y1e rfl rfl (y16 (vs:=[(.int .i64 ((nth zw.fFrames zE).fSize)),(.int .i64 ((nth zw.fFrames zE).fFin))]) (ds:=[(.int .i64 ((nth zw.fFrames zE).fSize)),(.int .i64 ((nth zw.fFrames zE).fFin))]) y2r rfl rfl rfl rfl (yp rfl (yp rfl y12)) .here (Nat.le_of_ble_eq_true rfl) rfl) ?_
    refine WL.nil ?_
    refine WX.a ?_
    refine WC.b ?_
    obtain ⟨z2l,z4u,h⟩:=zz h
    refine WC.a ?_
    refine WL.a (d:=17) rfl rfl rfl (q_m rfl) ?_
    refine WL.a (d:=18) rfl rfl rfl (y1f (cs:=[(.int .i64 ((nth zw.fFrames zE).fSize)),(.int .i64 ((nth zw.fFrames zE).fFin))]) y1o rfl rfl (y2B .here)) ?_
    refine WL.b (dd:=19) rfl rfl rfl (y1U (l:=[.tmp 18]) (f:=z1f) (caps:=z1r) z4o rfl (.cons rfl .nil)) .nil (fun w hw=>z4p w (hz.now hw) (⟨((nth zw.fFrames zE).fSize),((nth zw.fFrames zE).fFin)⟩ : Sport_frame) z2l  z4u) ?_
    refine WL.nil ?_
    refine WX.a ?_
    refine WC.cond rfl (fun z2n=>?_) (fun z2n=>?_)
    ·replace h:=yq h z2n
     refine WC.a ?_
     refine WL.a (d:=20) rfl rfl rfl (q_m rfl) ?_
     refine WL.a (d:=21) rfl rfl rfl (y3 fo_67_0 rfl rfl) ?_
     refine WL.a (d:=22) rfl rfl rfl (y7 yi rfl (yl .here rfl)) ?_
     refine WL.a (d:=23) rfl rfl rfl (y14 rfl rfl rfl) ?_
     refine WL.a (d:=5) rfl rfl rfl (q_z rfl) ?_
     refine WL.nil ?_
     refine WX.yj ?_
     exact WX.mid (G:=Int) (i64 (zV + ((nth zw.fFrames zE).fSize))) h (.cons rfl (.cons rfl (.cons rfl (.cons rfl (.cons rfl .nil))))) .nil
    ·replace h:=yr h z2n
     refine WC.skip ?_
     refine WX.yj ?_
     exact WX.mid (G:=Int) zV h (.cons rfl (.cons rfl (.cons rfl (.cons rfl (.cons rfl .nil))))) .nil
   ·rintro z1n h
    replace h:=(z4r z1n).symm.trans h
    refine WC.a ?_
    refine WL.a (d:=24) rfl rfl rfl (y14 rfl rfl rfl) ?_
    refine WL.a (d:=13) rfl rfl rfl (q_m rfl) ?_
    refine WL.nil ?_
    exact WX.round (G:=Nat × Int × Int) ⟨z2k,z1n,(i64 (zE + 1))⟩ h (Nat.lt_succ_self _) (.cons rfl (.cons rfl (.cons rfl (.cons rfl (.cons rfl .nil))))) .nil
  ·replace h:=yr h z2m
   refine WC.exit ?_
   refine WX.yo ?_
   refine WX.yo ?_
   refine WX.y11 ?_
   exact WX.mid (G:=Int) zV h (.cons rfl .nil) .nil
 ·rintro z1q h
  replace h:=(z4q z1q).symm.trans h
  refine WC.b ?_
  refine WC.a ?_
  refine WL.a (d:=25) rfl rfl rfl (q_m rfl) ?_
  refine WL.a (d:=4) rfl rfl rfl (q_z rfl) ?_
  refine WL.nil ?_
  refine WX.a ?_
  refine WC.ret ?_
  obtain rfl:=Option.some.inj h
  refine WX.y6 Try.results22 (.tmp rfl .nil) (fun w hw=>?_)
  exact ⟨yM rfl,hw.sub .nil⟩
def ym (zA : Sport_Port) (zD : Int) : Option Int :=
 (yx zA).bind fun z2o=>if z2o then some 0 else (y1d zA (fun (y0 : Sport_frame)=>yH y0 (max zD zA.fNow))).bind fun z2p=>some z2p
set_option maxRecDepth 20000 in
theorem yL (Z : Zp)  (z1g : Addr) (z1s : Option Addr) (z1t : Nat) (zA : Sport_Port) (zD : Int) (r : Int) (w₀ : World) (hz : PZ [] w₀ Z)
  (z33 : ZS Z 2 (fun r x=>r = e67 x) z1s z1t zA.fFrames)
  (z2q : ZC Z z1g [(.int .i64 zA.fNumbers.fSlow),(.int .i64 zA.fNumbers.fDelay),(.int .i64 zA.fNumbers.fStore),(.int .i64 zA.fNow),(.int .i64 zA.fLast),(.slice z1s zA.fFrames.length z1t)])
  (h : ym zA zD = some r) :
  Calls Try.prog 12 #[(.pointer (some z1g)),(.int .i64 zD)] w₀ fun e w'=>e = .returned (.int .i64 r) ∧ Hp [] w₀ w' []:=by
 unfold ym at h
 refine Calls.ya (vs:=[(.pointer (some z1g)),(.int .i64 zD)]) (pre:=[]) (env:=[(0,(.pointer (some z1g))),(1,(.int .i64 zD))]) Try.func12 rfl Try.ntmps12 rfl (Hp.nil w₀ _) rfl ?_
 refine WC.b ?_
 refine WC.a ?_
 refine WL.new (dd:=3) rfl rfl rfl (y1n (cs:=[(.int .i64 zD)]) rfl rfl) ?_
 intro zU _
 refine WL.a (d:=4) rfl rfl rfl (q_z rfl) ?_
 refine WL.nil ?_
 refine WX.a ?_
 refine WC.b ?_
 refine WC.b ?_
 obtain ⟨z2o,z4v,h⟩:=zz h
 refine WC.a ?_
 refine WL.a (d:=5) rfl rfl rfl (q_m rfl) ?_
 refine WL.b (dd:=6) rfl rfl rfl (zJ (l:=[.tmp 5]) Try.call21 (.cons rfl .nil)) (.nil : Sel [stb zU 3 [(.int .i64 zD)]] [] [stb zU 3 [(.int .i64 zD)]]) (fun w hw=>by have pz:=(hz.call hw (.nil : Sel [stb zU 3 [(.int .i64 zD)]] [] [stb zU 3 [(.int .i64 zD)]])); exact yZ (Z:=_) (A_74:=z1g) (ao_77:=z1s) (cap_78:=z1t) (p_76:=zA) (r:=z2o) w pz z33 z2q z4v) ?_
 refine WL.nil ?_
 refine WX.a ?_
 refine WC.cond rfl (fun z2r=>?_) (fun z2r=>?_)
 ·replace h:=yq h z2r
  refine WC.b ?_
  refine WC.a ?_
  refine WL.a (d:=4) rfl rfl rfl (q_z rfl) ?_
  refine WL.nil ?_
  refine WX.a ?_
  refine WC.ret ?_
  refine WX.y9 ?_
  obtain rfl:=Option.some.inj h
  refine WX.y6 Try.results12 (.tmp rfl .nil) (fun w hw=>?_)
  exact ⟨yM rfl,hw.sub .nil⟩
 ·replace h:=yr h z2r
  refine WC.skip ?_
  refine WX.a ?_
  refine WC.b ?_
  refine WC.y1x (fun i=>[6].contains i) [] rfl ?_
  refine WD.e (i:=0) (d:=7) (by kernel_rfl) rfl (za (by kernel_rfl)) (zb (by kernel_rfl)) rfl rfl rfl (y7 yi rfl (yl .here rfl)) ?_
  refine WD.a (i:=1) (d:=8) (by kernel_rfl) rfl (za (by kernel_rfl)) (zb (by kernel_rfl)) rfl rfl rfl (fun _=>q_m rfl) ?_
  refine WD.a (i:=2) (d:=9) (by kernel_rfl) rfl (za (by kernel_rfl)) (zb (by kernel_rfl)) rfl rfl rfl (fun _=>yd rfl) ?_
  refine WD.a (i:=3) (d:=10) (by kernel_rfl) rfl (za (by kernel_rfl)) (zb (by kernel_rfl)) rfl rfl rfl (fun _=>y3 y2p rfl rfl) ?_
  refine WD.e (i:=4) (d:=11) (by kernel_rfl) rfl (za (by kernel_rfl)) (zb (by kernel_rfl)) rfl rfl rfl (y7 yi rfl (y2h hz.pv z2q rfl)) ?_
  refine WD.a (i:=5) (d:=12) (by kernel_rfl) rfl (za (by kernel_rfl)) (zb (by kernel_rfl)) rfl rfl rfl (fun _=>y2c rfl rfl rfl) ?_
  refine WD.y24 (i:=6) rfl (by kernel_rfl) rfl rfl rfl (by kernel_rfl) (y16 (vs:=[(.int .i64 (max zD zA.fNow))]) (ds:=[(.int .i64 (max zD zA.fNow))]) y2J rfl rfl rfl rfl (yp rfl y12) .here (Nat.le_of_ble_eq_true rfl) rfl) ?_
  refine WD.done (by kernel_rfl) ?_
  refine WX.a ?_
  refine WC.b ?_
  obtain ⟨z2p,z4w,h⟩:=zz h
  refine WC.a ?_
  refine WL.a (d:=13) rfl rfl rfl (q_m rfl) ?_
  refine WL.a (d:=14) rfl rfl rfl (y2d (Eos.caps (l:=[.tmp 3]) (.cons rfl .nil))) ?_
  refine WL.b (dd:=15) rfl rfl rfl (zJ (l:=[.tmp 13,.tmp 14]) Try.call22 (.cons rfl (.cons rfl .nil))) (.nil : Sel [stb zU 3 [(.int .i64 (max zD zA.fNow))]] [] [stb zU 3 [(.int .i64 (max zD zA.fNow))]]) (fun w hw=>by have pz:=(hz.call hw (.nil : Sel [stb zU 3 [(.int .i64 (max zD zA.fNow))]] [] [stb zU 3 [(.int .i64 (max zD zA.fNow))]])).lend hw (.nil : Sel [stb zU 3 [(.int .i64 (max zD zA.fNow))]] [] [stb zU 3 [(.int .i64 (max zD zA.fNow))]]) (B:=[stb zU 3 [(.int .i64 (max zD zA.fNow))]]) (fun _ hx'=>((.cons .here .nil) : Sel _ [stb zU 3 [(.int .i64 (max zD zA.fNow))]] _).mem hx'); exact y2j (Z:=_) (z1Q:=z1g) (z1R:=z1s) (z1S:=z1t) (z1f:=23) (z1r:=[(.pointer (some ⟨zU,0,none⟩))]) (zw:=zA) (z1c:=(fun (y0 : Sport_frame)=>yH y0 (max zD zA.fNow))) (r:=z2p) w pz (z33.mono (Zle.left _ _)) (z2q.mono (Zle.left _ _)) Try.call23 (fun w' hz' y0  r  hr=>y1Z (Z:=_) (z1P:=⟨zU,0,none⟩) (z18:=y0) (z1O:=(max zD zA.fNow)) (r:=r) w' hz' ((hw.lent (.nil : Sel [stb zU 3 [(.int .i64 (max zD zA.fNow))]] [] [stb zU 3 [(.int .i64 (max zD zA.fNow))]]) (B:=[stb zU 3 [(.int .i64 (max zD zA.fNow))]]) (fun _ hx'=>((.cons .here .nil) : Sel _ [stb zU 3 [(.int .i64 (max zD zA.fNow))]] _).mem hx') (.head _) _).stb) hr) z4w) ?_
  refine WL.a (d:=4) rfl rfl rfl (q_z rfl) ?_
  refine WL.nil ?_
  refine WX.a ?_
  refine WC.ret ?_
  obtain rfl:=Option.some.inj h
  refine WX.y6 Try.results12 (.tmp rfl .nil) (fun w hw=>?_)
  exact ⟨yM rfl,hw.sub .nil⟩
def yE (z2 : Sport_Port) (z7 : Int) (zh : Int) : Option (Int × Int × Sport_Port) :=
 (yx z2).bind fun z1o=>if z1o then some (0,1,z2) else if (((decide (zh < 1)) || (decide (zh > 72))) || (decide (z7 < z2.fNow))) || (decide (z7 > 1073741824)) then some (0,2,z2) else (yg z2.fFrames (fun (y0 : Sport_frame)=>yK y0 z7)).bind fun zm=>(ym (⟨z2.fNumbers,z7,z2.fLast,zm⟩ : Sport_Port) z7).bind fun z2s=>if decide ((i64 (z2s + zh)) > z2.fNumbers.fStore) then some (0,4,(⟨z2.fNumbers,z7,z2.fLast,zm⟩ : Sport_Port)) else chk ((((zm ++ ([(⟨zh,i64 ((max (i64 (z7 + z2.fNumbers.fDelay)) z2.fLast) + (i64 (zh * z2.fNumbers.fSlow)))⟩ : Sport_frame)] : List Sport_frame)).length : Nat) : Int) * 16 ≤ 140737488355328 ∧ (((zm ++ ([(⟨zh,i64 ((max (i64 (z7 + z2.fNumbers.fDelay)) z2.fLast) + (i64 (zh * z2.fNumbers.fSlow)))⟩ : Sport_frame)] : List Sport_frame)).length : Nat) : Int) ≤ 4611686018427387904) (some ((i64 ((max (i64 (z7 + z2.fNumbers.fDelay)) z2.fLast) + (i64 (zh * z2.fNumbers.fSlow)))),0,(⟨z2.fNumbers,z7,i64 ((max (i64 (z7 + z2.fNumbers.fDelay)) z2.fLast) + (i64 (zh * z2.fNumbers.fSlow))),zm ++ ([(⟨zh,i64 ((max (i64 (z7 + z2.fNumbers.fDelay)) z2.fLast) + (i64 (zh * z2.fNumbers.fSlow)))⟩ : Sport_frame)] : List Sport_frame)⟩ : Sport_Port)))
set_option maxRecDepth 20000 in
theorem y1s (Z : Zp)  (zj : Nat) (zf : Option Addr) (zg : Nat) (z2 : Sport_Port) (z7 : Int) (zh : Int) (r : Int × Int × Sport_Port) (w₀ : World) (hz : PZ (fps [stb zj 57 [(.int .i64 z2.fNumbers.fSlow),(.int .i64 z2.fNumbers.fDelay),(.int .i64 z2.fNumbers.fStore),(.int .i64 z2.fNow),(.int .i64 z2.fLast),(.slice zf z2.fFrames.length zg)],row (.slice zf z2.fFrames.length zg) 67 2 (z2.fFrames.flatMap e67)]) w₀ Z)
  (h : yE z2 z7 zh = some r)
  (hown : Hp (fps [stb zj 57 [(.int .i64 z2.fNumbers.fSlow),(.int .i64 z2.fNumbers.fDelay),(.int .i64 z2.fNumbers.fStore),(.int .i64 z2.fNow),(.int .i64 z2.fLast),(.slice zf z2.fFrames.length zg)],row (.slice zf z2.fFrames.length zg) 67 2 (z2.fFrames.flatMap e67)]) w₀ w₀ [stb zj 57 [(.int .i64 z2.fNumbers.fSlow),(.int .i64 z2.fNumbers.fDelay),(.int .i64 z2.fNumbers.fStore),(.int .i64 z2.fNow),(.int .i64 z2.fLast),(.slice zf z2.fFrames.length zg)],row (.slice zf z2.fFrames.length zg) 67 2 (z2.fFrames.flatMap e67)]) :
  Calls Try.prog 16 #[(.pointer (some ⟨zj,0,none⟩)),(.int .i64 z7),(.int .i64 zh)] w₀ fun e w'=>∃ z34 : Option Addr,∃ z35 : Nat,e = .returned (.tuple #[(.int .i64 r.1),(.int .i64 r.2.1)]) ∧ True ∧ Hp (fps [stb zj 57 [(.int .i64 z2.fNumbers.fSlow),(.int .i64 z2.fNumbers.fDelay),(.int .i64 z2.fNumbers.fStore),(.int .i64 z2.fNow),(.int .i64 z2.fLast),(.slice zf z2.fFrames.length zg)],row (.slice zf z2.fFrames.length zg) 67 2 (z2.fFrames.flatMap e67)]) w₀ w' [stb zj 57 [(.int .i64 r.2.2.fNumbers.fSlow),(.int .i64 r.2.2.fNumbers.fDelay),(.int .i64 r.2.2.fNumbers.fStore),(.int .i64 r.2.2.fNow),(.int .i64 r.2.2.fLast),(.slice z34 r.2.2.fFrames.length z35)],row (.slice z34 r.2.2.fFrames.length z35) 67 2 (r.2.2.fFrames.flatMap e67)]:=by
 unfold yE at h
 refine Calls.ya (vs:=[(.pointer (some ⟨zj,0,none⟩)),(.int .i64 z7),(.int .i64 zh)]) (pre:=[stb zj 57 [(.int .i64 z2.fNumbers.fSlow),(.int .i64 z2.fNumbers.fDelay),(.int .i64 z2.fNumbers.fStore),(.int .i64 z2.fNow),(.int .i64 z2.fLast),(.slice zf z2.fFrames.length zg)],row (.slice zf z2.fFrames.length zg) 67 2 (z2.fFrames.flatMap e67)]) (env:=[(0,(.pointer (some ⟨zj,0,none⟩))),(1,(.int .i64 z7)),(2,(.int .i64 zh))]) Try.func16 rfl Try.ntmps16 rfl (hown) rfl ?_
 refine WC.b ?_
 refine WC.a ?_
 refine WL.new (dd:=4) rfl rfl rfl (y1n (cs:=[(.int .i64 z7)]) rfl rfl) ?_
 intro zu _
 refine WL.a (d:=6) rfl rfl rfl (q_z rfl) ?_
 refine WL.a (d:=7) rfl rfl rfl (q_z rfl) ?_
 refine WL.nil ?_
 refine WX.a ?_
 refine WC.b ?_
 refine WC.block ?_
 refine WC.b ?_
 obtain ⟨z1o,z4x,h⟩:=zz h
 refine WC.a ?_
 refine WL.a (d:=9) rfl rfl rfl (q_m rfl) ?_
 refine WL.b (dd:=10) rfl rfl rfl (zJ (l:=[.tmp 9]) Try.call21 (.cons rfl .nil)) (.nil : Sel [stb zu 3 [(.int .i64 z7)],stb zj 57 [(.int .i64 z2.fNumbers.fSlow),(.int .i64 z2.fNumbers.fDelay),(.int .i64 z2.fNumbers.fStore),(.int .i64 z2.fNow),(.int .i64 z2.fLast),(.slice zf z2.fFrames.length zg)],row (.slice zf z2.fFrames.length zg) 67 2 (z2.fFrames.flatMap e67)] [] [stb zu 3 [(.int .i64 z7)],stb zj 57 [(.int .i64 z2.fNumbers.fSlow),(.int .i64 z2.fNumbers.fDelay),(.int .i64 z2.fNumbers.fStore),(.int .i64 z2.fNow),(.int .i64 z2.fLast),(.slice zf z2.fFrames.length zg)],row (.slice zf z2.fFrames.length zg) 67 2 (z2.fFrames.flatMap e67)]) (fun w hw=>by have pz:=(hz.call hw (.nil : Sel [stb zu 3 [(.int .i64 z7)],stb zj 57 [(.int .i64 z2.fNumbers.fSlow),(.int .i64 z2.fNumbers.fDelay),(.int .i64 z2.fNumbers.fStore),(.int .i64 z2.fNow),(.int .i64 z2.fLast),(.slice zf z2.fFrames.length zg)],row (.slice zf z2.fFrames.length zg) 67 2 (z2.fFrames.flatMap e67)] [] [stb zu 3 [(.int .i64 z7)],stb zj 57 [(.int .i64 z2.fNumbers.fSlow),(.int .i64 z2.fNumbers.fDelay),(.int .i64 z2.fNumbers.fStore),(.int .i64 z2.fNow),(.int .i64 z2.fLast),(.slice zf z2.fFrames.length zg)],row (.slice zf z2.fFrames.length zg) 67 2 (z2.fFrames.flatMap e67)])).lend hw (.nil : Sel [stb zu 3 [(.int .i64 z7)],stb zj 57 [(.int .i64 z2.fNumbers.fSlow),(.int .i64 z2.fNumbers.fDelay),(.int .i64 z2.fNumbers.fStore),(.int .i64 z2.fNow),(.int .i64 z2.fLast),(.slice zf z2.fFrames.length zg)],row (.slice zf z2.fFrames.length zg) 67 2 (z2.fFrames.flatMap e67)] [] [stb zu 3 [(.int .i64 z7)],stb zj 57 [(.int .i64 z2.fNumbers.fSlow),(.int .i64 z2.fNumbers.fDelay),(.int .i64 z2.fNumbers.fStore),(.int .i64 z2.fNow),(.int .i64 z2.fLast),(.slice zf z2.fFrames.length zg)],row (.slice zf z2.fFrames.length zg) 67 2 (z2.fFrames.flatMap e67)]) (B:=[stb zj 57 [(.int .i64 z2.fNumbers.fSlow),(.int .i64 z2.fNumbers.fDelay),(.int .i64 z2.fNumbers.fStore),(.int .i64 z2.fNow),(.int .i64 z2.fLast),(.slice zf z2.fFrames.length zg)],row (.slice zf z2.fFrames.length zg) 67 2 (z2.fFrames.flatMap e67)]) (fun _ hx'=>((.cons .h1 (.cons .h1 .nil)) : Sel _ [stb zj 57 [(.int .i64 z2.fNumbers.fSlow),(.int .i64 z2.fNumbers.fDelay),(.int .i64 z2.fNumbers.fStore),(.int .i64 z2.fNow),(.int .i64 z2.fLast),(.slice zf z2.fFrames.length zg)],row (.slice zf z2.fFrames.length zg) 67 2 (z2.fFrames.flatMap e67)] _).mem hx'); exact yZ (Z:=_) (A_74:=⟨zj,0,none⟩) (ao_77:=zf) (cap_78:=zg) (p_76:=z2) (r:=z1o) w pz (ZA.row (hw.lent (.nil : Sel [stb zu 3 [(.int .i64 z7)],stb zj 57 [(.int .i64 z2.fNumbers.fSlow),(.int .i64 z2.fNumbers.fDelay),(.int .i64 z2.fNumbers.fStore),(.int .i64 z2.fNow),(.int .i64 z2.fLast),(.slice zf z2.fFrames.length zg)],row (.slice zf z2.fFrames.length zg) 67 2 (z2.fFrames.flatMap e67)] [] [stb zu 3 [(.int .i64 z7)],stb zj 57 [(.int .i64 z2.fNumbers.fSlow),(.int .i64 z2.fNumbers.fDelay),(.int .i64 z2.fNumbers.fStore),(.int .i64 z2.fNow),(.int .i64 z2.fLast),(.slice zf z2.fFrames.length zg)],row (.slice zf z2.fFrames.length zg) 67 2 (z2.fFrames.flatMap e67)]) (B:=[stb zj 57 [(.int .i64 z2.fNumbers.fSlow),(.int .i64 z2.fNumbers.fDelay),(.int .i64 z2.fNumbers.fStore),(.int .i64 z2.fNow),(.int .i64 z2.fLast),(.slice zf z2.fFrames.length zg)],row (.slice zf z2.fFrames.length zg) 67 2 (z2.fFrames.flatMap e67)]) (fun _ hx'=>((.cons .h1 (.cons .h1 .nil)) : Sel _ [stb zj 57 [(.int .i64 z2.fNumbers.fSlow),(.int .i64 z2.fNumbers.fDelay),(.int .i64 z2.fNumbers.fStore),(.int .i64 z2.fNow),(.int .i64 z2.fLast),(.slice zf z2.fFrames.length zg)],row (.slice zf z2.fFrames.length zg) 67 2 (z2.fFrames.flatMap e67)] _).mem hx') (.tail _ (.head _)) _) (RR.y17 (enc:=e67) (fun _=>rfl) _) ⟨w,pz.1⟩) ((hw.lent (.nil : Sel [stb zu 3 [(.int .i64 z7)],stb zj 57 [(.int .i64 z2.fNumbers.fSlow),(.int .i64 z2.fNumbers.fDelay),(.int .i64 z2.fNumbers.fStore),(.int .i64 z2.fNow),(.int .i64 z2.fLast),(.slice zf z2.fFrames.length zg)],row (.slice zf z2.fFrames.length zg) 67 2 (z2.fFrames.flatMap e67)] [] [stb zu 3 [(.int .i64 z7)],stb zj 57 [(.int .i64 z2.fNumbers.fSlow),(.int .i64 z2.fNumbers.fDelay),(.int .i64 z2.fNumbers.fStore),(.int .i64 z2.fNow),(.int .i64 z2.fLast),(.slice zf z2.fFrames.length zg)],row (.slice zf z2.fFrames.length zg) 67 2 (z2.fFrames.flatMap e67)]) (B:=[stb zj 57 [(.int .i64 z2.fNumbers.fSlow),(.int .i64 z2.fNumbers.fDelay),(.int .i64 z2.fNumbers.fStore),(.int .i64 z2.fNow),(.int .i64 z2.fLast),(.slice zf z2.fFrames.length zg)],row (.slice zf z2.fFrames.length zg) 67 2 (z2.fFrames.flatMap e67)]) (fun _ hx'=>((.cons .h1 (.cons .h1 .nil)) : Sel _ [stb zj 57 [(.int .i64 z2.fNumbers.fSlow),(.int .i64 z2.fNumbers.fDelay),(.int .i64 z2.fNumbers.fStore),(.int .i64 z2.fNow),(.int .i64 z2.fLast),(.slice zf z2.fFrames.length zg)],row (.slice zf z2.fFrames.length zg) 67 2 (z2.fFrames.flatMap e67)] _).mem hx') (.head _) _).stb) z4x) ?_
 refine WL.a (d:=8) rfl rfl rfl (q_z rfl) ?_
 refine WL.nil ?_
 refine WX.a ?_
 refine WC.cond rfl (fun z2t=>?_) (fun z2t=>?_)
 ·replace h:=yq h z2t
  refine WC.b ?_
  refine WC.a ?_
  refine WL.a (d:=6) rfl rfl rfl (q_z rfl) ?_
  refine WL.a (d:=7) rfl rfl rfl (q_z rfl) ?_
  refine WL.nil ?_
  refine WX.a ?_
  refine WC.ret ?_
  refine WX.yI ?_
  refine WX.y9 ?_
  obtain rfl:=Option.some.inj h
  refine WX.y6 Try.results16 (.tmp rfl (.tmp rfl .nil)) (fun w hw=>?_)
  exact ⟨zf,zg,ret2 rfl rfl,trivial,hw.sub (.cons .h1 (.cons .h1 .nil))⟩
 ·replace h:=yr h z2t
  refine WC.b ?_
  refine WC.y1x (fun i=>[].contains i) [] rfl ?_
  refine WD.a (i:=0) (d:=12) (by kernel_rfl) rfl (za (by kernel_rfl)) (zb (by kernel_rfl)) rfl rfl rfl (fun _=>q_m rfl) ?_
  refine WD.a (i:=1) (d:=13) (by kernel_rfl) rfl (za (by kernel_rfl)) (zb (by kernel_rfl)) rfl rfl rfl (fun _=>yO rfl rfl) ?_
  refine WD.a (i:=2) (d:=14) (by kernel_rfl) rfl (za (by kernel_rfl)) (zb (by kernel_rfl)) rfl rfl rfl (fun _=>q_m rfl) ?_
  refine WD.mid (fuel':=13) [(0,(.pointer (some ⟨zj,0,none⟩))),(1,(.int .i64 z7)),(2,(.int .i64 zh)),(4,(.pointer (some ⟨zu,0,none⟩))),(6,(.int .i64 0)),(7,(.int .i64 0)),(9,(.pointer (some ⟨zj,0,none⟩))),(10,(.bool z1o)),(8,(.bool z1o)),(12,(.int .i64 zh)),(13,(.bool (decide (zh < 1)))),(14,(.bool (decide (zh < 1)))),(17,(.bool ((decide (zh < 1)) || (decide (zh > 72)))))] (y2n 19 [5,4,3,2,1,0]) ?_ (fun z36=>?_)
  rotate_left
  ·rcases Bool.eq_false_or_eq_true (decide (zh < 1)) with hb' | hb'
   ·have z2u:=hb'; clear hb'
    refine WD.pin (i:=14) rfl z2u ?_
    refine WD.b (i:=3) (d:=15) (by kernel_rfl) rfl (za (by kernel_rfl)) (zb (by kernel_rfl)) rfl rfl rfl ?_
    refine WD.b (i:=4) (d:=16) (by kernel_rfl) rfl (za (by kernel_rfl)) (zb (by kernel_rfl)) rfl rfl rfl ?_
    refine WD.a (i:=5) (d:=17) (by kernel_rfl) rfl (za (by kernel_rfl)) (zb (by kernel_rfl)) rfl rfl rfl (fun _=>yf rfl rfl) ?_
    refine WD.reL (.cons .here (.cons .here (.cons .here .nil))) ?_ z36
    exact (.cons rfl (.cons rfl (.cons rfl (.cons rfl (.cons rfl (.cons rfl (.cons rfl (.cons rfl (.cons rfl (.cons rfl (.cons rfl (.cons (zp (Eq.symm z2u)) (.cons (zp (y19 z2u)) .nil)))))))))))))
   ·have z2v:=hb'; clear hb'
    refine WD.pin (i:=14) rfl z2v ?_
    refine WD.a (i:=3) (d:=15) (by kernel_rfl) rfl (za (by kernel_rfl)) (zb (by kernel_rfl)) rfl rfl rfl (fun _=>q_m rfl) ?_
    refine WD.a (i:=4) (d:=16) (by kernel_rfl) rfl (za (by kernel_rfl)) (zb (by kernel_rfl)) rfl rfl rfl (fun _=>y1h rfl rfl) ?_
    refine WD.a (i:=5) (d:=17) (by kernel_rfl) rfl (za (by kernel_rfl)) (zb (by kernel_rfl)) rfl rfl rfl (fun _=>y8 rfl rfl) ?_
    refine WD.reL (.cons .here (.cons .here (.cons .here .nil))) ?_ z36
    exact (.cons rfl (.cons rfl (.cons rfl (.cons rfl (.cons rfl (.cons rfl (.cons rfl (.cons rfl (.cons rfl (.cons rfl (.cons rfl (.cons (zp (Eq.symm z2v)) (.cons (zp (y1a z2v)) .nil)))))))))))))
  refine WD.a (i:=6) (d:=18) (by kernel_rfl) rfl (za (by kernel_rfl)) (zb (by kernel_rfl)) rfl rfl rfl (fun _=>q_m rfl) ?_
  refine WD.mid (fuel':=5) [(0,(.pointer (some ⟨zj,0,none⟩))),(1,(.int .i64 z7)),(2,(.int .i64 zh)),(4,(.pointer (some ⟨zu,0,none⟩))),(6,(.int .i64 0)),(7,(.int .i64 0)),(9,(.pointer (some ⟨zj,0,none⟩))),(10,(.bool z1o)),(8,(.bool z1o)),(12,(.int .i64 zh)),(13,(.bool (decide (zh < 1)))),(14,(.bool (decide (zh < 1)))),(17,(.bool ((decide (zh < 1)) || (decide (zh > 72))))),(18,(.bool ((decide (zh < 1)) || (decide (zh > 72))))),(25,(.bool (((decide (zh < 1)) || (decide (zh > 72))) || (decide (z7 < z2.fNow)))))] (y2n 19 [13,12,11,10,9,8,7,6,5,4,3,2,1,0]) ?_ (fun z37=>?_)
  rotate_left
  ·rcases Bool.eq_false_or_eq_true ((decide (zh < 1)) || (decide (zh > 72))) with hb' | hb'
   ·have z2w:=hb'; clear hb'
    refine WD.pin (i:=18) rfl z2w ?_
    refine WD.b (i:=7) (d:=19) (by kernel_rfl) rfl (za (by kernel_rfl)) (zb (by kernel_rfl)) rfl rfl rfl ?_
    refine WD.b (i:=8) (d:=20) (by kernel_rfl) rfl (za (by kernel_rfl)) (zb (by kernel_rfl)) rfl rfl rfl ?_
    refine WD.b (i:=9) (d:=21) (by kernel_rfl) rfl (za (by kernel_rfl)) (zb (by kernel_rfl)) rfl rfl rfl ?_
    refine WD.b (i:=10) (d:=22) (by kernel_rfl) rfl (za (by kernel_rfl)) (zb (by kernel_rfl)) rfl rfl rfl ?_
    refine WD.b (i:=11) (d:=23) (by kernel_rfl) rfl (za (by kernel_rfl)) (zb (by kernel_rfl)) rfl rfl rfl ?_
    refine WD.b (i:=12) (d:=24) (by kernel_rfl) rfl (za (by kernel_rfl)) (zb (by kernel_rfl)) rfl rfl rfl ?_
    refine WD.a (i:=13) (d:=25) (by kernel_rfl) rfl (za (by kernel_rfl)) (zb (by kernel_rfl)) rfl rfl rfl (fun _=>yf rfl rfl) ?_
    refine WD.reL (.cons .here (.cons .here (.cons .here .nil))) ?_ z37
    exact (.cons rfl (.cons rfl (.cons rfl (.cons rfl (.cons rfl (.cons rfl (.cons rfl (.cons rfl (.cons rfl (.cons rfl (.cons rfl (.cons rfl (.cons rfl (.cons (zp (Eq.symm z2w)) (.cons (zp (y19 z2w)) .nil)))))))))))))))
   ·have z2x:=hb'; clear hb'
    refine WD.pin (i:=18) rfl z2x ?_
    refine WD.e (i:=7) (d:=19) (by kernel_rfl) rfl (za (by kernel_rfl)) (zb (by kernel_rfl)) rfl rfl rfl (y7 yi rfl (yl .here rfl)) ?_
    refine WD.a (i:=8) (d:=20) (by kernel_rfl) rfl (za (by kernel_rfl)) (zb (by kernel_rfl)) rfl rfl rfl (fun _=>q_m rfl) ?_
    refine WD.a (i:=9) (d:=21) (by kernel_rfl) rfl (za (by kernel_rfl)) (zb (by kernel_rfl)) rfl rfl rfl (fun _=>yd rfl) ?_
    refine WD.a (i:=10) (d:=22) (by kernel_rfl) rfl (za (by kernel_rfl)) (zb (by kernel_rfl)) rfl rfl rfl (fun _=>y3 y2p rfl rfl) ?_
    refine WD.e (i:=11) (d:=23) (by kernel_rfl) rfl (za (by kernel_rfl)) (zb (by kernel_rfl)) rfl rfl rfl (y7 yi rfl (yl .h1 rfl)) ?_
    refine WD.a (i:=12) (d:=24) (by kernel_rfl) rfl (za (by kernel_rfl)) (zb (by kernel_rfl)) rfl rfl rfl (fun _=>yO rfl rfl) ?_
    refine WD.a (i:=13) (d:=25) (by kernel_rfl) rfl (za (by kernel_rfl)) (zb (by kernel_rfl)) rfl rfl rfl (fun _=>y8 rfl rfl) ?_
    refine WD.reL (.cons .here (.cons .here (.cons .here .nil))) ?_ z37
    exact (.cons rfl (.cons rfl (.cons rfl (.cons rfl (.cons rfl (.cons rfl (.cons rfl (.cons rfl (.cons rfl (.cons rfl (.cons rfl (.cons rfl (.cons rfl (.cons (zp (Eq.symm z2x)) (.cons (zp (y1a z2x)) .nil)))))))))))))))
  refine WD.a (i:=14) (d:=26) (by kernel_rfl) rfl (za (by kernel_rfl)) (zb (by kernel_rfl)) rfl rfl rfl (fun _=>q_m rfl) ?_
  refine WD.mid (fuel':=1) [(0,(.pointer (some ⟨zj,0,none⟩))),(1,(.int .i64 z7)),(2,(.int .i64 zh)),(4,(.pointer (some ⟨zu,0,none⟩))),(6,(.int .i64 0)),(7,(.int .i64 0)),(9,(.pointer (some ⟨zj,0,none⟩))),(10,(.bool z1o)),(8,(.bool z1o)),(12,(.int .i64 zh)),(13,(.bool (decide (zh < 1)))),(14,(.bool (decide (zh < 1)))),(17,(.bool ((decide (zh < 1)) || (decide (zh > 72))))),(18,(.bool ((decide (zh < 1)) || (decide (zh > 72))))),(25,(.bool (((decide (zh < 1)) || (decide (zh > 72))) || (decide (z7 < z2.fNow))))),(26,(.bool (((decide (zh < 1)) || (decide (zh > 72))) || (decide (z7 < z2.fNow))))),(29,(.bool ((((decide (zh < 1)) || (decide (zh > 72))) || (decide (z7 < z2.fNow))) || (decide (z7 > 1073741824)))))] (y2n 19 [17,16,15,14,13,12,11,10,9,8,7,6,5,4,3,2,1,0]) ?_ (fun z38=>?_)
  rotate_left
  ·rcases Bool.eq_false_or_eq_true (((decide (zh < 1)) || (decide (zh > 72))) || (decide (z7 < z2.fNow))) with hb' | hb'
   ·have z2y:=hb'; clear hb'
    refine WD.pin (i:=26) rfl z2y ?_
    refine WD.b (i:=15) (d:=27) (by kernel_rfl) rfl (za (by kernel_rfl)) (zb (by kernel_rfl)) rfl rfl rfl ?_
    refine WD.b (i:=16) (d:=28) (by kernel_rfl) rfl (za (by kernel_rfl)) (zb (by kernel_rfl)) rfl rfl rfl ?_
    refine WD.a (i:=17) (d:=29) (by kernel_rfl) rfl (za (by kernel_rfl)) (zb (by kernel_rfl)) rfl rfl rfl (fun _=>yf rfl rfl) ?_
    refine WD.reL (.cons .here (.cons .here (.cons .here .nil))) ?_ z38
    exact (.cons rfl (.cons rfl (.cons rfl (.cons rfl (.cons rfl (.cons rfl (.cons rfl (.cons rfl (.cons rfl (.cons rfl (.cons rfl (.cons rfl (.cons rfl (.cons rfl (.cons rfl (.cons (zp (Eq.symm z2y)) (.cons (zp (y19 z2y)) .nil)))))))))))))))))
   ·have z2z:=hb'; clear hb'
    refine WD.pin (i:=26) rfl z2z ?_
    refine WD.e (i:=15) (d:=27) (by kernel_rfl) rfl (za (by kernel_rfl)) (zb (by kernel_rfl)) rfl rfl rfl (y7 yi rfl (yl .here rfl)) ?_
    refine WD.a (i:=16) (d:=28) (by kernel_rfl) rfl (za (by kernel_rfl)) (zb (by kernel_rfl)) rfl rfl rfl (fun _=>y1h rfl rfl) ?_
    refine WD.a (i:=17) (d:=29) (by kernel_rfl) rfl (za (by kernel_rfl)) (zb (by kernel_rfl)) rfl rfl rfl (fun _=>y8 rfl rfl) ?_
    refine WD.reL (.cons .here (.cons .here (.cons .here .nil))) ?_ z38
    exact (.cons rfl (.cons rfl (.cons rfl (.cons rfl (.cons rfl (.cons rfl (.cons rfl (.cons rfl (.cons rfl (.cons rfl (.cons rfl (.cons rfl (.cons rfl (.cons rfl (.cons rfl (.cons (zp (Eq.symm z2z)) (.cons (zp (y1a z2z)) .nil)))))))))))))))))
  refine WD.a (i:=18) (d:=11) (by kernel_rfl) rfl (za (by kernel_rfl)) (zb (by kernel_rfl)) rfl rfl rfl (fun _=>q_z rfl) ?_
  refine WD.done (by kernel_rfl) ?_
  refine WX.a ?_
  refine WC.cond rfl (fun z2A=>?_) (fun z2A=>?_)
  ·replace h:=yq h z2A
   refine WC.b ?_
   refine WC.a ?_
   refine WL.a (d:=6) rfl rfl rfl (q_z rfl) ?_
   refine WL.a (d:=7) rfl rfl rfl (q_z rfl) ?_
   refine WL.nil ?_
   refine WX.a ?_
   refine WC.ret ?_
   refine WX.yI ?_
   refine WX.y9 ?_
   obtain rfl:=Option.some.inj h
   refine WX.y6 Try.results16 (.tmp rfl (.tmp rfl .nil)) (fun w hw=>?_)
   exact ⟨zf,zg,ret2 rfl rfl,trivial,hw.sub (.cons .h1 (.cons .h1 .nil))⟩
  ·replace h:=yr h z2A
   refine WC.skip ?_
   refine WX.yj ?_
   refine WX.a ?_
   refine WC.b ?_
   refine WC.a ?_
   refine WL.a (d:=30) rfl rfl rfl (q_m rfl) ?_
   refine WL.a (d:=31) rfl rfl rfl (y7 yi rfl (yl .here rfl)) ?_
   refine WL.a (d:=32) rfl rfl rfl (yd rfl) ?_
   refine WL.a (d:=33) rfl rfl rfl (y3 y2p rfl rfl) ?_
   refine WL.y1e rfl rfl (y16 (vs:=[(.int .i64 z7)]) (ds:=[(.int .i64 z2.fNumbers.fSlow),(.int .i64 z2.fNumbers.fDelay),(.int .i64 z2.fNumbers.fStore),(.int .i64 z7),(.int .i64 z2.fLast),(.slice zf z2.fFrames.length zg)]) y2J rfl rfl rfl rfl (yp rfl y12) .h1 (Nat.le_of_ble_eq_true rfl) rfl) ?_
   refine WL.nil ?_
   refine WX.a ?_
   refine WC.b ?_
   obtain ⟨zm,z4y,h⟩:=zz h
   refine WC.a ?_
   refine WL.a (d:=34) rfl rfl rfl (q_m rfl) ?_
   refine WL.a (d:=35) rfl rfl rfl (q_m rfl) ?_
   refine WL.a (d:=36) rfl rfl rfl (yd rfl) ?_
   refine WL.a (d:=37) rfl rfl rfl (y3 y1E rfl rfl) ?_
   refine WL.a (d:=38) rfl rfl rfl (y7 y2q rfl (yl .here rfl)) ?_
   refine WL.a (d:=39) rfl rfl rfl (y2d (Eos.caps (l:=[.tmp 4]) (.cons rfl .nil))) ?_
   refine WL.yX (dd:=40) rfl rfl rfl (zJ (l:=[.tmp 38,.tmp 39]) Try.call24 (.cons rfl (.cons rfl .nil))) ((.cons .h2 .nil) : Sel [stb zj 57 [(.int .i64 z2.fNumbers.fSlow),(.int .i64 z2.fNumbers.fDelay),(.int .i64 z2.fNumbers.fStore),(.int .i64 z7),(.int .i64 z2.fLast),(.slice zf z2.fFrames.length zg)],stb zu 3 [(.int .i64 z7)],row (.slice zf z2.fFrames.length zg) 67 2 (z2.fFrames.flatMap e67)] [row (.slice zf z2.fFrames.length zg) 67 2 (z2.fFrames.flatMap e67)] [stb zj 57 [(.int .i64 z2.fNumbers.fSlow),(.int .i64 z2.fNumbers.fDelay),(.int .i64 z2.fNumbers.fStore),(.int .i64 z7),(.int .i64 z2.fLast),(.slice zf z2.fFrames.length zg)],stb zu 3 [(.int .i64 z7)]]) (fun w hw=>by have pz:=(hz.call hw ((.cons .h2 .nil) : Sel [stb zj 57 [(.int .i64 z2.fNumbers.fSlow),(.int .i64 z2.fNumbers.fDelay),(.int .i64 z2.fNumbers.fStore),(.int .i64 z7),(.int .i64 z2.fLast),(.slice zf z2.fFrames.length zg)],stb zu 3 [(.int .i64 z7)],row (.slice zf z2.fFrames.length zg) 67 2 (z2.fFrames.flatMap e67)] [row (.slice zf z2.fFrames.length zg) 67 2 (z2.fFrames.flatMap e67)] [stb zj 57 [(.int .i64 z2.fNumbers.fSlow),(.int .i64 z2.fNumbers.fDelay),(.int .i64 z2.fNumbers.fStore),(.int .i64 z7),(.int .i64 z2.fLast),(.slice zf z2.fFrames.length zg)],stb zu 3 [(.int .i64 z7)]])).lend hw ((.cons .h2 .nil) : Sel [stb zj 57 [(.int .i64 z2.fNumbers.fSlow),(.int .i64 z2.fNumbers.fDelay),(.int .i64 z2.fNumbers.fStore),(.int .i64 z7),(.int .i64 z2.fLast),(.slice zf z2.fFrames.length zg)],stb zu 3 [(.int .i64 z7)],row (.slice zf z2.fFrames.length zg) 67 2 (z2.fFrames.flatMap e67)] [row (.slice zf z2.fFrames.length zg) 67 2 (z2.fFrames.flatMap e67)] [stb zj 57 [(.int .i64 z2.fNumbers.fSlow),(.int .i64 z2.fNumbers.fDelay),(.int .i64 z2.fNumbers.fStore),(.int .i64 z7),(.int .i64 z2.fLast),(.slice zf z2.fFrames.length zg)],stb zu 3 [(.int .i64 z7)]]) (B:=[stb zu 3 [(.int .i64 z7)]]) (fun _ hx'=>((.cons .h1 .nil) : Sel _ [stb zu 3 [(.int .i64 z7)]] _).mem hx'); exact yN (Z:=_) (zK:=zf) (zL:=zg) (z1a:=25) (z1l:=[(.pointer (some ⟨zu,0,none⟩))]) (zq:=z2.fFrames) (zX:=(fun (y0 : Sport_frame)=>yK y0 z7)) (r:=zm) w pz Try.call25 (fun w' hz' y0  r  hr=>y22 (Z:=_) (z1M:=⟨zu,0,none⟩) (z16:=y0) (z1L:=z7) (r:=r) w' hz' ((hw.lent ((.cons .h2 .nil) : Sel [stb zj 57 [(.int .i64 z2.fNumbers.fSlow),(.int .i64 z2.fNumbers.fDelay),(.int .i64 z2.fNumbers.fStore),(.int .i64 z7),(.int .i64 z2.fLast),(.slice zf z2.fFrames.length zg)],stb zu 3 [(.int .i64 z7)],row (.slice zf z2.fFrames.length zg) 67 2 (z2.fFrames.flatMap e67)] [row (.slice zf z2.fFrames.length zg) 67 2 (z2.fFrames.flatMap e67)] [stb zj 57 [(.int .i64 z2.fNumbers.fSlow),(.int .i64 z2.fNumbers.fDelay),(.int .i64 z2.fNumbers.fStore),(.int .i64 z7),(.int .i64 z2.fLast),(.slice zf z2.fFrames.length zg)],stb zu 3 [(.int .i64 z7)]]) (B:=[stb zu 3 [(.int .i64 z7)]]) (fun _ hx'=>((.cons .h1 .nil) : Sel _ [stb zu 3 [(.int .i64 z7)]] _).mem hx') (.head _) _).stb) hr) z4y (hw.owns ((.cons .h2 .nil) : Sel [stb zj 57 [(.int .i64 z2.fNumbers.fSlow),(.int .i64 z2.fNumbers.fDelay),(.int .i64 z2.fNumbers.fStore),(.int .i64 z7),(.int .i64 z2.fLast),(.slice zf z2.fFrames.length zg)],stb zu 3 [(.int .i64 z7)],row (.slice zf z2.fFrames.length zg) 67 2 (z2.fFrames.flatMap e67)] [row (.slice zf z2.fFrames.length zg) 67 2 (z2.fFrames.flatMap e67)] [stb zj 57 [(.int .i64 z2.fNumbers.fSlow),(.int .i64 z2.fNumbers.fDelay),(.int .i64 z2.fNumbers.fStore),(.int .i64 z7),(.int .i64 z2.fLast),(.slice zf z2.fFrames.length zg)],stb zu 3 [(.int .i64 z7)]]))) ?_
   rintro zB zC _
   refine WL.a (d:=41) rfl rfl rfl (yd rfl) ?_
   refine WL.a (d:=42) rfl rfl rfl (y3 y1E rfl rfl) ?_
   refine WL.y1e rfl rfl (y16 (vs:=[(.slice zB zm.length zC)]) (ds:=[(.int .i64 z2.fNumbers.fSlow),(.int .i64 z2.fNumbers.fDelay),(.int .i64 z2.fNumbers.fStore),(.int .i64 z7),(.int .i64 z2.fLast),(.slice zB zm.length zC)]) y2X rfl rfl rfl rfl (yp rfl y12) .h1 (Nat.le_of_ble_eq_true rfl) rfl) ?_
   refine WL.nil ?_
   refine WX.a ?_
   refine WC.b ?_
   refine WC.b ?_
   obtain ⟨z2s,z4z,h⟩:=zz h
   refine WC.y1x (fun i=>[].contains i) [] rfl ?_
   refine WD.a (i:=0) (d:=43) (by kernel_rfl) rfl (za (by kernel_rfl)) (zb (by kernel_rfl)) rfl rfl rfl (fun _=>q_m rfl) ?_
   refine WD.e (i:=1) (d:=44) (by kernel_rfl) rfl (za (by kernel_rfl)) (zb (by kernel_rfl)) rfl rfl rfl (y7 yi rfl (yl .h2 rfl)) ?_
   refine WD.c (i:=2) (d:=45) (by kernel_rfl) rfl (za (by kernel_rfl)) (zb (by kernel_rfl)) rfl rfl rfl (zJ (l:=[.tmp 43,.tmp 44]) Try.call12 (.cons rfl (.cons rfl .nil))) (fun w hw=>by have pz:=(hz.call hw (.nil : Sel [stb zj 57 [(.int .i64 z2.fNumbers.fSlow),(.int .i64 z2.fNumbers.fDelay),(.int .i64 z2.fNumbers.fStore),(.int .i64 z7),(.int .i64 z2.fLast),(.slice zB zm.length zC)],row (.slice zB zm.length zC) 67 2 (zm.flatMap e67),stb zu 3 [(.int .i64 z7)]] [] [stb zj 57 [(.int .i64 z2.fNumbers.fSlow),(.int .i64 z2.fNumbers.fDelay),(.int .i64 z2.fNumbers.fStore),(.int .i64 z7),(.int .i64 z2.fLast),(.slice zB zm.length zC)],row (.slice zB zm.length zC) 67 2 (zm.flatMap e67),stb zu 3 [(.int .i64 z7)]])).lend hw (.nil : Sel [stb zj 57 [(.int .i64 z2.fNumbers.fSlow),(.int .i64 z2.fNumbers.fDelay),(.int .i64 z2.fNumbers.fStore),(.int .i64 z7),(.int .i64 z2.fLast),(.slice zB zm.length zC)],row (.slice zB zm.length zC) 67 2 (zm.flatMap e67),stb zu 3 [(.int .i64 z7)]] [] [stb zj 57 [(.int .i64 z2.fNumbers.fSlow),(.int .i64 z2.fNumbers.fDelay),(.int .i64 z2.fNumbers.fStore),(.int .i64 z7),(.int .i64 z2.fLast),(.slice zB zm.length zC)],row (.slice zB zm.length zC) 67 2 (zm.flatMap e67),stb zu 3 [(.int .i64 z7)]]) (B:=[stb zj 57 [(.int .i64 z2.fNumbers.fSlow),(.int .i64 z2.fNumbers.fDelay),(.int .i64 z2.fNumbers.fStore),(.int .i64 z7),(.int .i64 z2.fLast),(.slice zB zm.length zC)],row (.slice zB zm.length zC) 67 2 (zm.flatMap e67)]) (fun _ hx'=>((.cons .here (.cons .here .nil)) : Sel _ [stb zj 57 [(.int .i64 z2.fNumbers.fSlow),(.int .i64 z2.fNumbers.fDelay),(.int .i64 z2.fNumbers.fStore),(.int .i64 z7),(.int .i64 z2.fLast),(.slice zB zm.length zC)],row (.slice zB zm.length zC) 67 2 (zm.flatMap e67)] _).mem hx'); exact yL (Z:=_) (z1g:=⟨zj,0,none⟩) (z1s:=zB) (z1t:=zC) (zA:=(⟨z2.fNumbers,z7,z2.fLast,zm⟩ : Sport_Port)) (zD:=z7) (r:=z2s) w pz (ZA.row (hw.lent (.nil : Sel [stb zj 57 [(.int .i64 z2.fNumbers.fSlow),(.int .i64 z2.fNumbers.fDelay),(.int .i64 z2.fNumbers.fStore),(.int .i64 z7),(.int .i64 z2.fLast),(.slice zB zm.length zC)],row (.slice zB zm.length zC) 67 2 (zm.flatMap e67),stb zu 3 [(.int .i64 z7)]] [] [stb zj 57 [(.int .i64 z2.fNumbers.fSlow),(.int .i64 z2.fNumbers.fDelay),(.int .i64 z2.fNumbers.fStore),(.int .i64 z7),(.int .i64 z2.fLast),(.slice zB zm.length zC)],row (.slice zB zm.length zC) 67 2 (zm.flatMap e67),stb zu 3 [(.int .i64 z7)]]) (B:=[stb zj 57 [(.int .i64 z2.fNumbers.fSlow),(.int .i64 z2.fNumbers.fDelay),(.int .i64 z2.fNumbers.fStore),(.int .i64 z7),(.int .i64 z2.fLast),(.slice zB zm.length zC)],row (.slice zB zm.length zC) 67 2 (zm.flatMap e67)]) (fun _ hx'=>((.cons .here (.cons .here .nil)) : Sel _ [stb zj 57 [(.int .i64 z2.fNumbers.fSlow),(.int .i64 z2.fNumbers.fDelay),(.int .i64 z2.fNumbers.fStore),(.int .i64 z7),(.int .i64 z2.fLast),(.slice zB zm.length zC)],row (.slice zB zm.length zC) 67 2 (zm.flatMap e67)] _).mem hx') (.tail _ (.head _)) _) (RR.y17 (enc:=e67) (fun _=>rfl) _) ⟨w,pz.1⟩) ((hw.lent (.nil : Sel [stb zj 57 [(.int .i64 z2.fNumbers.fSlow),(.int .i64 z2.fNumbers.fDelay),(.int .i64 z2.fNumbers.fStore),(.int .i64 z7),(.int .i64 z2.fLast),(.slice zB zm.length zC)],row (.slice zB zm.length zC) 67 2 (zm.flatMap e67),stb zu 3 [(.int .i64 z7)]] [] [stb zj 57 [(.int .i64 z2.fNumbers.fSlow),(.int .i64 z2.fNumbers.fDelay),(.int .i64 z2.fNumbers.fStore),(.int .i64 z7),(.int .i64 z2.fLast),(.slice zB zm.length zC)],row (.slice zB zm.length zC) 67 2 (zm.flatMap e67),stb zu 3 [(.int .i64 z7)]]) (B:=[stb zj 57 [(.int .i64 z2.fNumbers.fSlow),(.int .i64 z2.fNumbers.fDelay),(.int .i64 z2.fNumbers.fStore),(.int .i64 z7),(.int .i64 z2.fLast),(.slice zB zm.length zC)],row (.slice zB zm.length zC) 67 2 (zm.flatMap e67)]) (fun _ hx'=>((.cons .here (.cons .here .nil)) : Sel _ [stb zj 57 [(.int .i64 z2.fNumbers.fSlow),(.int .i64 z2.fNumbers.fDelay),(.int .i64 z2.fNumbers.fStore),(.int .i64 z7),(.int .i64 z2.fLast),(.slice zB zm.length zC)],row (.slice zB zm.length zC) 67 2 (zm.flatMap e67)] _).mem hx') (.head _) _).stb) z4z) ?_
   refine WD.a (i:=3) (d:=46) (by kernel_rfl) rfl (za (by kernel_rfl)) (zb (by kernel_rfl)) rfl rfl rfl (fun _=>q_m rfl) ?_
   refine WD.a (i:=4) (d:=47) (by kernel_rfl) rfl (za (by kernel_rfl)) (zb (by kernel_rfl)) rfl rfl rfl (fun _=>y14 rfl rfl rfl) ?_
   refine WD.a (i:=5) (d:=48) (by kernel_rfl) rfl (za (by kernel_rfl)) (zb (by kernel_rfl)) rfl rfl rfl (fun _=>q_m rfl) ?_
   refine WD.a (i:=6) (d:=49) (by kernel_rfl) rfl (za (by kernel_rfl)) (zb (by kernel_rfl)) rfl rfl rfl (fun _=>yd rfl) ?_
   refine WD.a (i:=7) (d:=50) (by kernel_rfl) rfl (za (by kernel_rfl)) (zb (by kernel_rfl)) rfl rfl rfl (fun _=>y3 y21 rfl rfl) ?_
   refine WD.a (i:=8) (d:=51) (by kernel_rfl) rfl (za (by kernel_rfl)) (zb (by kernel_rfl)) rfl rfl rfl (fun _=>y3 fo_54_2 rfl rfl) ?_
   refine WD.e (i:=9) (d:=52) (by kernel_rfl) rfl (za (by kernel_rfl)) (zb (by kernel_rfl)) rfl rfl rfl (y7 yi rfl (yl .here rfl)) ?_
   refine WD.a (i:=10) (d:=53) (by kernel_rfl) rfl (za (by kernel_rfl)) (zb (by kernel_rfl)) rfl rfl rfl (fun _=>y1h rfl rfl) ?_
   refine WD.done (by kernel_rfl) ?_
   refine WX.a ?_
   refine WC.cond rfl (fun z2B=>?_) (fun z2B=>?_)
   ·replace h:=yq h z2B
    refine WC.b ?_
    refine WC.a ?_
    refine WL.a (d:=6) rfl rfl rfl (q_z rfl) ?_
    refine WL.a (d:=7) rfl rfl rfl (q_z rfl) ?_
    refine WL.nil ?_
    refine WX.a ?_
    refine WC.ret ?_
    refine WX.y9 ?_
    obtain rfl:=Option.some.inj h
    refine WX.y6 Try.results16 (.tmp rfl (.tmp rfl .nil)) (fun w hw=>?_)
    exact ⟨zB,zC,ret2 rfl rfl,trivial,hw.sub (.cons .here (.cons .here .nil))⟩
   ·replace h:=yr h z2B
    refine WC.skip ?_
    refine WX.a ?_
    refine WC.b ?_
    refine WC.y1x (fun i=>[23].contains i) [] rfl ?_
    refine WD.a (i:=0) (d:=54) (by kernel_rfl) rfl (za (by kernel_rfl)) (zb (by kernel_rfl)) rfl rfl rfl (fun _=>q_m rfl) ?_
    refine WD.e (i:=1) (d:=55) (by kernel_rfl) rfl (za (by kernel_rfl)) (zb (by kernel_rfl)) rfl rfl rfl (y7 yi rfl (yl .h2 rfl)) ?_
    refine WD.a (i:=2) (d:=56) (by kernel_rfl) rfl (za (by kernel_rfl)) (zb (by kernel_rfl)) rfl rfl rfl (fun _=>q_m rfl) ?_
    refine WD.a (i:=3) (d:=57) (by kernel_rfl) rfl (za (by kernel_rfl)) (zb (by kernel_rfl)) rfl rfl rfl (fun _=>yd rfl) ?_
    refine WD.a (i:=4) (d:=58) (by kernel_rfl) rfl (za (by kernel_rfl)) (zb (by kernel_rfl)) rfl rfl rfl (fun _=>y3 y21 rfl rfl) ?_
    refine WD.a (i:=5) (d:=59) (by kernel_rfl) rfl (za (by kernel_rfl)) (zb (by kernel_rfl)) rfl rfl rfl (fun _=>y3 fo_54_1 rfl rfl) ?_
    refine WD.e (i:=6) (d:=60) (by kernel_rfl) rfl (za (by kernel_rfl)) (zb (by kernel_rfl)) rfl rfl rfl (y7 yi rfl (yl .here rfl)) ?_
    refine WD.a (i:=7) (d:=61) (by kernel_rfl) rfl (za (by kernel_rfl)) (zb (by kernel_rfl)) rfl rfl rfl (fun _=>y14 rfl rfl rfl) ?_
    refine WD.a (i:=8) (d:=62) (by kernel_rfl) rfl (za (by kernel_rfl)) (zb (by kernel_rfl)) rfl rfl rfl (fun _=>q_m rfl) ?_
    refine WD.a (i:=9) (d:=63) (by kernel_rfl) rfl (za (by kernel_rfl)) (zb (by kernel_rfl)) rfl rfl rfl (fun _=>yd rfl) ?_
    refine WD.a (i:=10) (d:=64) (by kernel_rfl) rfl (za (by kernel_rfl)) (zb (by kernel_rfl)) rfl rfl rfl (fun _=>y3 y1F rfl rfl) ?_
    refine WD.e (i:=11) (d:=65) (by kernel_rfl) rfl (za (by kernel_rfl)) (zb (by kernel_rfl)) rfl rfl rfl (y7 yi rfl (yl .here rfl)) ?_
    refine WD.a (i:=12) (d:=66) (by kernel_rfl) rfl (za (by kernel_rfl)) (zb (by kernel_rfl)) rfl rfl rfl (fun _=>y2c rfl rfl rfl) ?_
    refine WD.a (i:=13) (d:=67) (by kernel_rfl) rfl (za (by kernel_rfl)) (zb (by kernel_rfl)) rfl rfl rfl (fun _=>q_m rfl) ?_
    refine WD.a (i:=14) (d:=68) (by kernel_rfl) rfl (za (by kernel_rfl)) (zb (by kernel_rfl)) rfl rfl rfl (fun _=>q_m rfl) ?_
    refine WD.a (i:=15) (d:=69) (by kernel_rfl) rfl (za (by kernel_rfl)) (zb (by kernel_rfl)) rfl rfl rfl (fun _=>yd rfl) ?_
    refine WD.a (i:=16) (d:=70) (by kernel_rfl) rfl (za (by kernel_rfl)) (zb (by kernel_rfl)) rfl rfl rfl (fun _=>y3 y21 rfl rfl) ?_
    refine WD.a (i:=17) (d:=71) (by kernel_rfl) rfl (za (by kernel_rfl)) (zb (by kernel_rfl)) rfl rfl rfl (fun _=>y3 y2V rfl rfl) ?_
    refine WD.e (i:=18) (d:=72) (by kernel_rfl) rfl (za (by kernel_rfl)) (zb (by kernel_rfl)) rfl rfl rfl (y7 yi rfl (yl .here rfl)) ?_
    refine WD.a (i:=19) (d:=73) (by kernel_rfl) rfl (za (by kernel_rfl)) (zb (by kernel_rfl)) rfl rfl rfl (fun _=>q_mul rfl rfl rfl) ?_
    refine WD.a (i:=20) (d:=74) (by kernel_rfl) rfl (za (by kernel_rfl)) (zb (by kernel_rfl)) rfl rfl rfl (fun _=>y14 rfl rfl rfl) ?_
    refine WD.a (i:=21) (d:=75) (by kernel_rfl) rfl (za (by kernel_rfl)) (zb (by kernel_rfl)) rfl rfl rfl (fun _=>yd rfl) ?_
    refine WD.a (i:=22) (d:=76) (by kernel_rfl) rfl (za (by kernel_rfl)) (zb (by kernel_rfl)) rfl rfl rfl (fun _=>y3 y1F rfl rfl) ?_
    refine WD.y24 (i:=23) rfl (by kernel_rfl) rfl rfl rfl (by kernel_rfl) (y16 (vs:=[(.int .i64 (i64 ((max (i64 (z7 + z2.fNumbers.fDelay)) z2.fLast) + (i64 (zh * z2.fNumbers.fSlow)))))]) (ds:=[(.int .i64 z2.fNumbers.fSlow),(.int .i64 z2.fNumbers.fDelay),(.int .i64 z2.fNumbers.fStore),(.int .i64 z7),(.int .i64 (i64 ((max (i64 (z7 + z2.fNumbers.fDelay)) z2.fLast) + (i64 (zh * z2.fNumbers.fSlow))))),(.slice zB zm.length zC)]) y2J rfl rfl rfl rfl (yp rfl y12) .here (Nat.le_of_ble_eq_true rfl) rfl) ?_
    refine WD.done (by kernel_rfl) ?_
    refine WX.a ?_
    refine WC.b ?_
    obtain ⟨z4A,h⟩:=yJ h
    refine WC.y1x (fun i=>[12,15].contains i) [] rfl ?_
    refine WD.a (i:=0) (d:=77) (by kernel_rfl) rfl (za (by kernel_rfl)) (zb (by kernel_rfl)) rfl rfl rfl (fun _=>q_m rfl) ?_
    refine WD.a (i:=1) (d:=78) (by kernel_rfl) rfl (za (by kernel_rfl)) (zb (by kernel_rfl)) rfl rfl rfl (fun _=>q_m rfl) ?_
    refine WD.a (i:=2) (d:=79) (by kernel_rfl) rfl (za (by kernel_rfl)) (zb (by kernel_rfl)) rfl rfl rfl (fun _=>yd rfl) ?_
    refine WD.a (i:=3) (d:=80) (by kernel_rfl) rfl (za (by kernel_rfl)) (zb (by kernel_rfl)) rfl rfl rfl (fun _=>y3 y1E rfl rfl) ?_
    refine WD.e (i:=4) (d:=81) (by kernel_rfl) rfl (za (by kernel_rfl)) (zb (by kernel_rfl)) rfl rfl rfl (y7 y2q rfl (yl .here rfl)) ?_
    refine WD.a (i:=5) (d:=82) (by kernel_rfl) rfl (za (by kernel_rfl)) (zb (by kernel_rfl)) rfl rfl rfl (fun _=>q_m rfl) ?_
    refine WD.a (i:=6) (d:=83) (by kernel_rfl) rfl (za (by kernel_rfl)) (zb (by kernel_rfl)) rfl rfl rfl (fun _=>q_m rfl) ?_
    refine WD.a (i:=7) (d:=84) (by kernel_rfl) rfl (za (by kernel_rfl)) (zb (by kernel_rfl)) rfl rfl rfl (fun _=>yd rfl) ?_
    refine WD.a (i:=8) (d:=85) (by kernel_rfl) rfl (za (by kernel_rfl)) (zb (by kernel_rfl)) rfl rfl rfl (fun _=>y3 y1F rfl rfl) ?_
    refine WD.e (i:=9) (d:=86) (by kernel_rfl) rfl (za (by kernel_rfl)) (zb (by kernel_rfl)) rfl rfl rfl (y7 yi rfl (yl .here rfl)) ?_
    refine WD.a (i:=10) (d:=87) (by kernel_rfl) rfl (za (by kernel_rfl)) (zb (by kernel_rfl)) rfl rfl rfl (fun _=>yF (v:=(.agg #[(.int .i64 zh),(.int .i64 (i64 ((max (i64 (z7 + z2.fNumbers.fDelay)) z2.fLast) + (i64 (zh * z2.fNumbers.fSlow)))))])) (Eos.parts (l:=[.tmp 82,.tmp 86]) (.cons rfl (.cons rfl .nil)) [0,1]) (fun _=>by kernel_rfl)) ?_
    refine WD.new (i:=11) (dd:=88) rfl (by kernel_rfl) rfl rfl rfl (y1q (cs:=([(⟨zh,i64 ((max (i64 (z7 + z2.fNumbers.fDelay)) z2.fLast) + (i64 (zh * z2.fNumbers.fSlow)))⟩ : Sport_frame)] : List Sport_frame).flatMap e67) y1c (Eos.parts (l:=[.tmp 87]) (.cons rfl .nil) [0]) (fun _=>by kernel_rfl) rfl (by unfold maxLen; omega)) (fun h'=>absurd h' (by decide)) ?_
    intro z5c _
    refine WD.old (i:=12) (dd:=89) rfl (by kernel_rfl) rfl rfl rfl rfl (fun _=>(Sin.of .nil)) (y36 (enc:=e67) (l1:=zm) (l2:=([(⟨zh,i64 ((max (i64 (z7 + z2.fNumbers.fDelay)) z2.fLast) + (i64 (zh * z2.fNumbers.fSlow)))⟩ : Sport_frame)] : List Sport_frame)) y1c rfl rfl .h2 (fun _=>rfl) rfl rfl (news_row .here) (y2Q e67_oc _) z4A) ?_
    rintro ⟨z2C,z2D⟩ _
    refine WD.a (i:=13) (d:=90) (by kernel_rfl) rfl (za (by kernel_rfl)) (zb (by kernel_rfl)) rfl rfl rfl (fun _=>yd rfl) ?_
    refine WD.a (i:=14) (d:=91) (by kernel_rfl) rfl (za (by kernel_rfl)) (zb (by kernel_rfl)) rfl rfl rfl (fun _=>y3 y1E rfl rfl) ?_
    refine WD.y24 (i:=15) rfl (by kernel_rfl) rfl rfl rfl (by kernel_rfl) (y16 (vs:=[(.slice z2C ((zm ++ ([(⟨zh,i64 ((max (i64 (z7 + z2.fNumbers.fDelay)) z2.fLast) + (i64 (zh * z2.fNumbers.fSlow)))⟩ : Sport_frame)] : List Sport_frame)).length) z2D)]) (ds:=[(.int .i64 z2.fNumbers.fSlow),(.int .i64 z2.fNumbers.fDelay),(.int .i64 z2.fNumbers.fStore),(.int .i64 z7),(.int .i64 (i64 ((max (i64 (z7 + z2.fNumbers.fDelay)) z2.fLast) + (i64 (zh * z2.fNumbers.fSlow))))),(.slice z2C ((zm ++ ([(⟨zh,i64 ((max (i64 (z7 + z2.fNumbers.fDelay)) z2.fLast) + (i64 (zh * z2.fNumbers.fSlow)))⟩ : Sport_frame)] : List Sport_frame)).length) z2D)]) y2X rfl rfl rfl rfl (yp rfl y12) .h2 (Nat.le_of_ble_eq_true rfl) rfl) ?_
    refine WD.done (by kernel_rfl) ?_
    refine WX.a ?_
    refine WC.b ?_
    refine WC.a ?_
    refine WL.a (d:=92) rfl rfl rfl (q_m rfl) ?_
    refine WL.a (d:=93) rfl rfl rfl (yd rfl) ?_
    refine WL.a (d:=94) rfl rfl rfl (y3 y1F rfl rfl) ?_
    refine WL.a (d:=95) rfl rfl rfl (y7 yi rfl (yl .here rfl)) ?_
    refine WL.a (d:=6) rfl rfl rfl (q_z rfl) ?_
    refine WL.a (d:=7) rfl rfl rfl (q_z rfl) ?_
    refine WL.nil ?_
    refine WX.a ?_
    refine WC.ret ?_
    obtain rfl:=Option.some.inj h
    refine WX.y6 Try.results16 (.tmp rfl (.tmp rfl .nil)) (fun w hw=>?_)
    exact ⟨z2C,z2D,ret2 rfl rfl,trivial,hw.sub (.cons .here (.cons .here .nil))⟩
def yy (zW : Sport_Port) : Option Int :=
 (yx zW).bind fun z2E=>if z2E then some 0 else some zW.fLast
set_option maxRecDepth 20000 in
theorem y1j (Z : Zp)  (z1z : Addr) (z1T : Option Addr) (z1U : Nat) (zW : Sport_Port) (r : Int) (w₀ : World) (hz : PZ [] w₀ Z)
  (z4B : ZS Z 2 (fun r x=>r = e67 x) z1T z1U zW.fFrames)
  (z39 : ZC Z z1z [(.int .i64 zW.fNumbers.fSlow),(.int .i64 zW.fNumbers.fDelay),(.int .i64 zW.fNumbers.fStore),(.int .i64 zW.fNow),(.int .i64 zW.fLast),(.slice z1T zW.fFrames.length z1U)])
  (h : yy zW = some r) :
  Calls Try.prog 14 #[(.pointer (some z1z))] w₀ fun e w'=>e = .returned (.int .i64 r) ∧ Hp [] w₀ w' []:=by
 unfold yy at h
 refine Calls.ya (vs:=[(.pointer (some z1z))]) (pre:=[]) (env:=[(0,(.pointer (some z1z)))]) Try.func14 rfl Try.ntmps14 rfl (Hp.nil w₀ _) rfl ?_
 refine WC.b ?_
 refine WC.a ?_
 refine WL.a (d:=2) rfl rfl rfl (q_z rfl) ?_
 refine WL.nil ?_
 refine WX.a ?_
 refine WC.b ?_
 refine WC.b ?_
 obtain ⟨z2E,z4C,h⟩:=zz h
 refine WC.a ?_
 refine WL.a (d:=3) rfl rfl rfl (q_m rfl) ?_
 refine WL.b (dd:=4) rfl rfl rfl (zJ (l:=[.tmp 3]) Try.call21 (.cons rfl .nil)) (.nil : Sel [] [] []) (fun w hw=>by have pz:=(hz.call hw (.nil : Sel [] [] [])); exact yZ (Z:=_) (A_74:=z1z) (ao_77:=z1T) (cap_78:=z1U) (p_76:=zW) (r:=z2E) w pz z4B z39 z4C) ?_
 refine WL.nil ?_
 refine WX.a ?_
 refine WC.cond rfl (fun z2F=>?_) (fun z2F=>?_)
 ·replace h:=yq h z2F
  refine WC.b ?_
  refine WC.a ?_
  refine WL.a (d:=2) rfl rfl rfl (q_z rfl) ?_
  refine WL.nil ?_
  refine WX.a ?_
  refine WC.ret ?_
  refine WX.y9 ?_
  obtain rfl:=Option.some.inj h
  refine WX.y6 Try.results14 (.tmp rfl .nil) (fun w hw=>?_)
  exact ⟨yM rfl,hw.sub .nil⟩
 ·replace h:=yr h z2F
  refine WC.skip ?_
  refine WX.a ?_
  refine WC.b ?_
  refine WC.a ?_
  refine WL.a (d:=5) rfl rfl rfl (q_m rfl) ?_
  refine WL.a (d:=6) rfl rfl rfl (yd rfl) ?_
  refine WL.a (d:=7) rfl rfl rfl (y3 y1F rfl rfl) ?_
  refine WL.a (d:=8) rfl rfl rfl (y7 yi rfl (y2h hz.pv z39 rfl)) ?_
  refine WL.a (d:=2) rfl rfl rfl (q_z rfl) ?_
  refine WL.nil ?_
  refine WX.a ?_
  refine WC.ret ?_
  obtain rfl:=Option.some.inj h
  refine WX.y6 Try.results14 (.tmp rfl .nil) (fun w hw=>?_)
  exact ⟨yM rfl,hw.sub .nil⟩
def ye (zy : Int) (zG : Int) (zS : Int) : Option Unit :=
 if (((((decide (zy < 1)) || (decide (zy > 16))) || (decide (zG < 0))) || (decide (zG > 1000))) || (decide (zS < 0))) || (decide (zS > 1073741824)) then some () else none
set_option maxRecDepth 20000 in
theorem y32 (Z : Zp)   (zy : Int) (zG : Int) (zS : Int) (r : Unit) (w₀ : World) (hz : PZ [] w₀ Z)
  (h : ye zy zG zS = some r) :
  Calls Try.prog 9 #[(.int .i64 zy),(.int .i64 zG),(.int .i64 zS)] w₀ fun e w'=>e = .returned (.tuple #[(.pointer none),(.int .i64 2)]) ∧ Hp [] w₀ w' []:=by
 unfold ye at h
 refine Calls.ya (vs:=[(.int .i64 zy),(.int .i64 zG),(.int .i64 zS)]) (pre:=[]) (env:=[(0,(.int .i64 zy)),(1,(.int .i64 zG)),(2,(.int .i64 zS))]) Try.func9 rfl Try.ntmps9 rfl (Hp.nil w₀ _) rfl ?_
 refine WC.b ?_
 refine WC.a ?_
 refine WL.a (d:=6) rfl rfl rfl (q_z rfl) ?_
 refine WL.a (d:=7) rfl rfl rfl (q_z rfl) ?_
 refine WL.nil ?_
 refine WX.a ?_
 refine WC.b ?_
 refine WC.b ?_
 refine WC.a ?_
 refine WL.a (d:=8) rfl rfl rfl (q_m rfl) ?_
 refine WL.a (d:=9) rfl rfl rfl (yO rfl rfl) ?_
 refine WL.a (d:=10) rfl rfl rfl (q_m rfl) ?_
 refine WL.yk True [(0,(.int .i64 zy)),(1,(.int .i64 zG)),(2,(.int .i64 zS)),(13,(.bool ((decide (zy < 1)) || (decide (zy > 16)))))] [] 3 ?_ (fun _=>?_)
 ·rcases Bool.eq_false_or_eq_true (decide (zy < 1)) with hb' | hb'
  ·have z3a:=hb'; clear hb'
   refine WL.pin (i:=10) rfl z3a ?_
   refine WL.e rfl rfl rfl ?_
   refine WL.e rfl rfl rfl ?_
   refine WL.a (d:=13) rfl rfl rfl (yf rfl rfl) ?_
   exact WL.y2 () trivial (.cons rfl (.cons rfl (.cons rfl (.cons (zp (y19 z3a)) .nil)))) .nil
  ·have z3b:=hb'; clear hb'
   refine WL.pin (i:=10) rfl z3b ?_
   refine WL.a (d:=11) rfl rfl rfl (q_m rfl) ?_
   refine WL.a (d:=12) rfl rfl rfl (y1h rfl rfl) ?_
   refine WL.a (d:=13) rfl rfl rfl (y8 rfl rfl) ?_
   exact WL.y2 () trivial (.cons rfl (.cons rfl (.cons rfl (.cons (zp (y1a z3b)) .nil)))) .nil
 ·skip
  refine WL.a (d:=14) rfl rfl rfl (q_m rfl) ?_
  refine WL.yk True [(0,(.int .i64 zy)),(1,(.int .i64 zG)),(2,(.int .i64 zS)),(17,(.bool (((decide (zy < 1)) || (decide (zy > 16))) || (decide (zG < 0)))))] [] 3 ?_ (fun _=>?_)
  ·rcases Bool.eq_false_or_eq_true ((decide (zy < 1)) || (decide (zy > 16))) with hb' | hb'
   ·have z3c:=hb'; clear hb'
    refine WL.pin (i:=14) rfl z3c ?_
    refine WL.e rfl rfl rfl ?_
    refine WL.e rfl rfl rfl ?_
    refine WL.a (d:=17) rfl rfl rfl (yf rfl rfl) ?_
    exact WL.y2 () trivial (.cons rfl (.cons rfl (.cons rfl (.cons (zp (y19 z3c)) .nil)))) .nil
   ·have z3d:=hb'; clear hb'
    refine WL.pin (i:=14) rfl z3d ?_
    refine WL.a (d:=15) rfl rfl rfl (q_m rfl) ?_
    refine WL.a (d:=16) rfl rfl rfl (yO rfl rfl) ?_
    refine WL.a (d:=17) rfl rfl rfl (y8 rfl rfl) ?_
    exact WL.y2 () trivial (.cons rfl (.cons rfl (.cons rfl (.cons (zp (y1a z3d)) .nil)))) .nil
  ·skip
   refine WL.a (d:=18) rfl rfl rfl (q_m rfl) ?_
   refine WL.yk True [(0,(.int .i64 zy)),(1,(.int .i64 zG)),(2,(.int .i64 zS)),(21,(.bool ((((decide (zy < 1)) || (decide (zy > 16))) || (decide (zG < 0))) || (decide (zG > 1000)))))] [] 3 ?_ (fun _=>?_)
   ·rcases Bool.eq_false_or_eq_true (((decide (zy < 1)) || (decide (zy > 16))) || (decide (zG < 0))) with hb' | hb'
    ·have z3e:=hb'; clear hb'
     refine WL.pin (i:=18) rfl z3e ?_
     refine WL.e rfl rfl rfl ?_
     refine WL.e rfl rfl rfl ?_
     refine WL.a (d:=21) rfl rfl rfl (yf rfl rfl) ?_
     exact WL.y2 () trivial (.cons rfl (.cons rfl (.cons rfl (.cons (zp (y19 z3e)) .nil)))) .nil
    ·have z3f:=hb'; clear hb'
     refine WL.pin (i:=18) rfl z3f ?_
     refine WL.a (d:=19) rfl rfl rfl (q_m rfl) ?_
     refine WL.a (d:=20) rfl rfl rfl (y1h rfl rfl) ?_
     refine WL.a (d:=21) rfl rfl rfl (y8 rfl rfl) ?_
     exact WL.y2 () trivial (.cons rfl (.cons rfl (.cons rfl (.cons (zp (y1a z3f)) .nil)))) .nil
   ·skip
    refine WL.a (d:=22) rfl rfl rfl (q_m rfl) ?_
    refine WL.yk True [(0,(.int .i64 zy)),(1,(.int .i64 zG)),(2,(.int .i64 zS)),(25,(.bool (((((decide (zy < 1)) || (decide (zy > 16))) || (decide (zG < 0))) || (decide (zG > 1000))) || (decide (zS < 0)))))] [] 3 ?_ (fun _=>?_)
    ·rcases Bool.eq_false_or_eq_true ((((decide (zy < 1)) || (decide (zy > 16))) || (decide (zG < 0))) || (decide (zG > 1000))) with hb' | hb'
     ·have z3g:=hb'; clear hb'
      refine WL.pin (i:=22) rfl z3g ?_
      refine WL.e rfl rfl rfl ?_
      refine WL.e rfl rfl rfl ?_
      refine WL.a (d:=25) rfl rfl rfl (yf rfl rfl) ?_
      exact WL.y2 () trivial (.cons rfl (.cons rfl (.cons rfl (.cons (zp (y19 z3g)) .nil)))) .nil
     ·have z3h:=hb'; clear hb'
      refine WL.pin (i:=22) rfl z3h ?_
      refine WL.a (d:=23) rfl rfl rfl (q_m rfl) ?_
      refine WL.a (d:=24) rfl rfl rfl (yO rfl rfl) ?_
      refine WL.a (d:=25) rfl rfl rfl (y8 rfl rfl) ?_
      exact WL.y2 () trivial (.cons rfl (.cons rfl (.cons rfl (.cons (zp (y1a z3h)) .nil)))) .nil
    ·skip
     refine WL.a (d:=26) rfl rfl rfl (q_m rfl) ?_
     refine WL.yk True [(0,(.int .i64 zy)),(1,(.int .i64 zG)),(2,(.int .i64 zS)),(29,(.bool ((((((decide (zy < 1)) || (decide (zy > 16))) || (decide (zG < 0))) || (decide (zG > 1000))) || (decide (zS < 0))) || (decide (zS > 1073741824)))))] [] 3 ?_ (fun _=>?_)
     ·rcases Bool.eq_false_or_eq_true (((((decide (zy < 1)) || (decide (zy > 16))) || (decide (zG < 0))) || (decide (zG > 1000))) || (decide (zS < 0))) with hb' | hb'
      ·have z3i:=hb'; clear hb'
       refine WL.pin (i:=26) rfl z3i ?_
       refine WL.e rfl rfl rfl ?_
       refine WL.e rfl rfl rfl ?_
       refine WL.a (d:=29) rfl rfl rfl (yf rfl rfl) ?_
       exact WL.y2 () trivial (.cons rfl (.cons rfl (.cons rfl (.cons (zp (y19 z3i)) .nil)))) .nil
      ·have z3j:=hb'; clear hb'
       refine WL.pin (i:=26) rfl z3j ?_
       refine WL.a (d:=27) rfl rfl rfl (q_m rfl) ?_
       refine WL.a (d:=28) rfl rfl rfl (y1h rfl rfl) ?_
       refine WL.a (d:=29) rfl rfl rfl (y8 rfl rfl) ?_
       exact WL.y2 () trivial (.cons rfl (.cons rfl (.cons rfl (.cons (zp (y1a z3j)) .nil)))) .nil
     ·skip
      refine WL.nil ?_
      refine WX.a ?_
      refine WC.cond rfl (fun z2G=>?_) (fun z2G=>?_)
      ·replace h:=yq h z2G
       refine WC.b ?_
       refine WC.a ?_
       refine WL.a (d:=6) rfl rfl rfl (q_z rfl) ?_
       refine WL.a (d:=7) rfl rfl rfl (q_z rfl) ?_
       refine WL.nil ?_
       refine WX.a ?_
       refine WC.ret ?_
       refine WX.y9 ?_
       skip
       refine WX.y6 Try.results9 (.tmp rfl (.tmp rfl .nil)) (fun w hw=>?_)
       exact ⟨ret2 rfl rfl,hw.sub .nil⟩
      ·replace h:=yr h z2G
       refine WC.skip ?_
       refine WX.a ?_
       refine WC.b ?_
       refine WC.a ?_
       refine WL.a (d:=30) rfl rfl rfl (q_m rfl) ?_
       refine WL.a (d:=31) rfl rfl rfl (q_m rfl) ?_
       refine WL.a (d:=32) rfl rfl rfl (q_m rfl) ?_
       refine WL.a (d:=33) rfl rfl rfl (yF (v:=(.agg #[(.int .i64 zy),(.int .i64 zG),(.int .i64 zS)])) (Eos.parts (l:=[.tmp 30,.tmp 31,.tmp 32]) (.cons rfl (.cons rfl (.cons rfl .nil))) [0,1,2]) (fun _=>by kernel_rfl)) ?_
       refine WL.a (d:=34) rfl rfl rfl (yF (v:=(.agg #[(.int .i64 zy),(.int .i64 zG),(.int .i64 zS),(.int .i64 0),(.int .i64 0),(.slice none 0 0)])) (Eos.parts (l:=[.tmp 33]) (.cons rfl .nil) [0]) (fun _=>by kernel_rfl)) ?_
       refine WL.new (dd:=35) rfl rfl rfl (y1n (cs:=[(.int .i64 zy),(.int .i64 zG),(.int .i64 zS),(.int .i64 0),(.int .i64 0),(.slice none 0 0)]) rfl rfl) ?_
       intro z5d _
       refine WL.a (d:=6) rfl rfl rfl (q_z rfl) ?_
       refine WL.a (d:=7) rfl rfl rfl (q_z rfl) ?_
       refine WL.nil ?_
       refine WX.a ?_
       refine WC.ret ?_
       cases h
def y1w (zx : Int) (zF : Int) (zR : Int) : Option Sport_Port :=
 if (((((decide (zx < 1)) || (decide (zx > 16))) || (decide (zF < 0))) || (decide (zF > 1000))) || (decide (zR < 0))) || (decide (zR > 1073741824)) then none else some (⟨(⟨zx,zF,zR⟩ : Sport_numbers),0,0,([] : List Sport_frame)⟩ : Sport_Port)
set_option maxRecDepth 20000 in
theorem y2M (Z : Zp)   (zx : Int) (zF : Int) (zR : Int) (r : Sport_Port) (w₀ : World) (hz : PZ [] w₀ Z)
  (h : y1w zx zF zR = some r) :
  Calls Try.prog 9 #[(.int .i64 zx),(.int .i64 zF),(.int .i64 zR)] w₀ fun e w'=>∃ z3k : Nat,∃ z3l : Option Addr,∃ z3m : Nat,e = .returned (.tuple #[(.pointer (some ⟨z3k,0,none⟩)),(.int .i64 0)]) ∧ True ∧ Hp [] w₀ w' [stb z3k 57 [(.int .i64 r.fNumbers.fSlow),(.int .i64 r.fNumbers.fDelay),(.int .i64 r.fNumbers.fStore),(.int .i64 r.fNow),(.int .i64 r.fLast),(.slice z3l r.fFrames.length z3m)],row (.slice z3l r.fFrames.length z3m) 67 2 (r.fFrames.flatMap e67)]:=by
 unfold y1w at h
 refine Calls.ya (vs:=[(.int .i64 zx),(.int .i64 zF),(.int .i64 zR)]) (pre:=[]) (env:=[(0,(.int .i64 zx)),(1,(.int .i64 zF)),(2,(.int .i64 zR))]) Try.func9 rfl Try.ntmps9 rfl (Hp.nil w₀ _) rfl ?_
 refine WC.b ?_
 refine WC.a ?_
 refine WL.a (d:=6) rfl rfl rfl (q_z rfl) ?_
 refine WL.a (d:=7) rfl rfl rfl (q_z rfl) ?_
 refine WL.nil ?_
 refine WX.a ?_
 refine WC.b ?_
 refine WC.b ?_
 refine WC.a ?_
 refine WL.a (d:=8) rfl rfl rfl (q_m rfl) ?_
 refine WL.a (d:=9) rfl rfl rfl (yO rfl rfl) ?_
 refine WL.a (d:=10) rfl rfl rfl (q_m rfl) ?_
 refine WL.yk True [(0,(.int .i64 zx)),(1,(.int .i64 zF)),(2,(.int .i64 zR)),(13,(.bool ((decide (zx < 1)) || (decide (zx > 16)))))] [] 3 ?_ (fun _=>?_)
 ·rcases Bool.eq_false_or_eq_true (decide (zx < 1)) with hb' | hb'
  ·have z3n:=hb'; clear hb'
   refine WL.pin (i:=10) rfl z3n ?_
   refine WL.e rfl rfl rfl ?_
   refine WL.e rfl rfl rfl ?_
   refine WL.a (d:=13) rfl rfl rfl (yf rfl rfl) ?_
   exact WL.y2 () trivial (.cons rfl (.cons rfl (.cons rfl (.cons (zp (y19 z3n)) .nil)))) .nil
  ·have z3o:=hb'; clear hb'
   refine WL.pin (i:=10) rfl z3o ?_
   refine WL.a (d:=11) rfl rfl rfl (q_m rfl) ?_
   refine WL.a (d:=12) rfl rfl rfl (y1h rfl rfl) ?_
   refine WL.a (d:=13) rfl rfl rfl (y8 rfl rfl) ?_
   exact WL.y2 () trivial (.cons rfl (.cons rfl (.cons rfl (.cons (zp (y1a z3o)) .nil)))) .nil
 ·skip
  refine WL.a (d:=14) rfl rfl rfl (q_m rfl) ?_
  refine WL.yk True [(0,(.int .i64 zx)),(1,(.int .i64 zF)),(2,(.int .i64 zR)),(17,(.bool (((decide (zx < 1)) || (decide (zx > 16))) || (decide (zF < 0)))))] [] 3 ?_ (fun _=>?_)
  ·rcases Bool.eq_false_or_eq_true ((decide (zx < 1)) || (decide (zx > 16))) with hb' | hb'
   ·have z3p:=hb'; clear hb'
    refine WL.pin (i:=14) rfl z3p ?_
    refine WL.e rfl rfl rfl ?_
    refine WL.e rfl rfl rfl ?_
    refine WL.a (d:=17) rfl rfl rfl (yf rfl rfl) ?_
    exact WL.y2 () trivial (.cons rfl (.cons rfl (.cons rfl (.cons (zp (y19 z3p)) .nil)))) .nil
   ·have z3q:=hb'; clear hb'
    refine WL.pin (i:=14) rfl z3q ?_
    refine WL.a (d:=15) rfl rfl rfl (q_m rfl) ?_
    refine WL.a (d:=16) rfl rfl rfl (yO rfl rfl) ?_
    refine WL.a (d:=17) rfl rfl rfl (y8 rfl rfl) ?_
    exact WL.y2 () trivial (.cons rfl (.cons rfl (.cons rfl (.cons (zp (y1a z3q)) .nil)))) .nil
  ·skip
   refine WL.a (d:=18) rfl rfl rfl (q_m rfl) ?_
   refine WL.yk True [(0,(.int .i64 zx)),(1,(.int .i64 zF)),(2,(.int .i64 zR)),(21,(.bool ((((decide (zx < 1)) || (decide (zx > 16))) || (decide (zF < 0))) || (decide (zF > 1000)))))] [] 3 ?_ (fun _=>?_)
   ·rcases Bool.eq_false_or_eq_true (((decide (zx < 1)) || (decide (zx > 16))) || (decide (zF < 0))) with hb' | hb'
    ·have z3r:=hb'; clear hb'
     refine WL.pin (i:=18) rfl z3r ?_
     refine WL.e rfl rfl rfl ?_
     refine WL.e rfl rfl rfl ?_
     refine WL.a (d:=21) rfl rfl rfl (yf rfl rfl) ?_
     exact WL.y2 () trivial (.cons rfl (.cons rfl (.cons rfl (.cons (zp (y19 z3r)) .nil)))) .nil
    ·have z3s:=hb'; clear hb'
     refine WL.pin (i:=18) rfl z3s ?_
     refine WL.a (d:=19) rfl rfl rfl (q_m rfl) ?_
     refine WL.a (d:=20) rfl rfl rfl (y1h rfl rfl) ?_
     refine WL.a (d:=21) rfl rfl rfl (y8 rfl rfl) ?_
     exact WL.y2 () trivial (.cons rfl (.cons rfl (.cons rfl (.cons (zp (y1a z3s)) .nil)))) .nil
   ·skip
    refine WL.a (d:=22) rfl rfl rfl (q_m rfl) ?_
    refine WL.yk True [(0,(.int .i64 zx)),(1,(.int .i64 zF)),(2,(.int .i64 zR)),(25,(.bool (((((decide (zx < 1)) || (decide (zx > 16))) || (decide (zF < 0))) || (decide (zF > 1000))) || (decide (zR < 0)))))] [] 3 ?_ (fun _=>?_)
    ·rcases Bool.eq_false_or_eq_true ((((decide (zx < 1)) || (decide (zx > 16))) || (decide (zF < 0))) || (decide (zF > 1000))) with hb' | hb'
     ·have z3t:=hb'; clear hb'
      refine WL.pin (i:=22) rfl z3t ?_
      refine WL.e rfl rfl rfl ?_
      refine WL.e rfl rfl rfl ?_
      refine WL.a (d:=25) rfl rfl rfl (yf rfl rfl) ?_
      exact WL.y2 () trivial (.cons rfl (.cons rfl (.cons rfl (.cons (zp (y19 z3t)) .nil)))) .nil
     ·have z3u:=hb'; clear hb'
      refine WL.pin (i:=22) rfl z3u ?_
      refine WL.a (d:=23) rfl rfl rfl (q_m rfl) ?_
      refine WL.a (d:=24) rfl rfl rfl (yO rfl rfl) ?_
      refine WL.a (d:=25) rfl rfl rfl (y8 rfl rfl) ?_
      exact WL.y2 () trivial (.cons rfl (.cons rfl (.cons rfl (.cons (zp (y1a z3u)) .nil)))) .nil
    ·skip
     refine WL.a (d:=26) rfl rfl rfl (q_m rfl) ?_
     refine WL.yk True [(0,(.int .i64 zx)),(1,(.int .i64 zF)),(2,(.int .i64 zR)),(29,(.bool ((((((decide (zx < 1)) || (decide (zx > 16))) || (decide (zF < 0))) || (decide (zF > 1000))) || (decide (zR < 0))) || (decide (zR > 1073741824)))))] [] 3 ?_ (fun _=>?_)
     ·rcases Bool.eq_false_or_eq_true (((((decide (zx < 1)) || (decide (zx > 16))) || (decide (zF < 0))) || (decide (zF > 1000))) || (decide (zR < 0))) with hb' | hb'
      ·have z3v:=hb'; clear hb'
       refine WL.pin (i:=26) rfl z3v ?_
       refine WL.e rfl rfl rfl ?_
       refine WL.e rfl rfl rfl ?_
       refine WL.a (d:=29) rfl rfl rfl (yf rfl rfl) ?_
       exact WL.y2 () trivial (.cons rfl (.cons rfl (.cons rfl (.cons (zp (y19 z3v)) .nil)))) .nil
      ·have z3w:=hb'; clear hb'
       refine WL.pin (i:=26) rfl z3w ?_
       refine WL.a (d:=27) rfl rfl rfl (q_m rfl) ?_
       refine WL.a (d:=28) rfl rfl rfl (y1h rfl rfl) ?_
       refine WL.a (d:=29) rfl rfl rfl (y8 rfl rfl) ?_
       exact WL.y2 () trivial (.cons rfl (.cons rfl (.cons rfl (.cons (zp (y1a z3w)) .nil)))) .nil
     ·skip
      refine WL.nil ?_
      refine WX.a ?_
      refine WC.cond rfl (fun z2H=>?_) (fun z2H=>?_)
      ·replace h:=yq h z2H
       refine WC.b ?_
       refine WC.a ?_
       refine WL.a (d:=6) rfl rfl rfl (q_z rfl) ?_
       refine WL.a (d:=7) rfl rfl rfl (q_z rfl) ?_
       refine WL.nil ?_
       refine WX.a ?_
       refine WC.ret ?_
       refine WX.y9 ?_
       cases h
      ·replace h:=yr h z2H
       refine WC.skip ?_
       refine WX.a ?_
       refine WC.b ?_
       refine WC.a ?_
       refine WL.a (d:=30) rfl rfl rfl (q_m rfl) ?_
       refine WL.a (d:=31) rfl rfl rfl (q_m rfl) ?_
       refine WL.a (d:=32) rfl rfl rfl (q_m rfl) ?_
       refine WL.a (d:=33) rfl rfl rfl (yF (v:=(.agg #[(.int .i64 zx),(.int .i64 zF),(.int .i64 zR)])) (Eos.parts (l:=[.tmp 30,.tmp 31,.tmp 32]) (.cons rfl (.cons rfl (.cons rfl .nil))) [0,1,2]) (fun _=>by kernel_rfl)) ?_
       refine WL.a (d:=34) rfl rfl rfl (yF (v:=(.agg #[(.int .i64 zx),(.int .i64 zF),(.int .i64 zR),(.int .i64 0),(.int .i64 0),(.slice none 0 0)])) (Eos.parts (l:=[.tmp 33]) (.cons rfl .nil) [0]) (fun _=>by kernel_rfl)) ?_
       refine WL.new (dd:=35) rfl rfl rfl (y1n (cs:=[(.int .i64 zx),(.int .i64 zF),(.int .i64 zR),(.int .i64 0),(.int .i64 0),(.slice none 0 0)]) rfl rfl) ?_
       intro z4D _
       refine WL.a (d:=6) rfl rfl rfl (q_z rfl) ?_
       refine WL.a (d:=7) rfl rfl rfl (q_z rfl) ?_
       refine WL.nil ?_
       refine WX.a ?_
       refine WC.ret ?_
       refine WX.nilRow 67 2 ?_
       obtain rfl:=Option.some.inj h
       refine WX.y6 Try.results9 (.tmp rfl (.tmp rfl .nil)) (fun w hw=>?_)
       exact ⟨z4D,none,0,ret2 rfl rfl,trivial,hw.sub (.cons .h1 (.cons .here .nil))⟩
def yU (z8 : Sport_Port) (z1d : Int) (z1e : Int) : Option (Int × Sport_Port) :=
 (yE z8 z1d z1e).bind fun z1A=>if decide (z1A.2.1 ≠ 0) then some ((i64 (0 - z1A.2.1)),z1A.2.2) else some (z1A.1,z1A.2.2)
set_option maxRecDepth 20000 in
theorem y1i (Z : Zp)  (zT : Nat) (zH : Option Addr) (zI : Nat) (z8 : Sport_Port) (z1d : Int) (z1e : Int) (r : Int × Sport_Port) (w₀ : World) (hz : PZ (fps [stb zT 57 [(.int .i64 z8.fNumbers.fSlow),(.int .i64 z8.fNumbers.fDelay),(.int .i64 z8.fNumbers.fStore),(.int .i64 z8.fNow),(.int .i64 z8.fLast),(.slice zH z8.fFrames.length zI)],row (.slice zH z8.fFrames.length zI) 67 2 (z8.fFrames.flatMap e67)]) w₀ Z)
  (h : yU z8 z1d z1e = some r)
  (hown : Hp (fps [stb zT 57 [(.int .i64 z8.fNumbers.fSlow),(.int .i64 z8.fNumbers.fDelay),(.int .i64 z8.fNumbers.fStore),(.int .i64 z8.fNow),(.int .i64 z8.fLast),(.slice zH z8.fFrames.length zI)],row (.slice zH z8.fFrames.length zI) 67 2 (z8.fFrames.flatMap e67)]) w₀ w₀ [stb zT 57 [(.int .i64 z8.fNumbers.fSlow),(.int .i64 z8.fNumbers.fDelay),(.int .i64 z8.fNumbers.fStore),(.int .i64 z8.fNow),(.int .i64 z8.fLast),(.slice zH z8.fFrames.length zI)],row (.slice zH z8.fFrames.length zI) 67 2 (z8.fFrames.flatMap e67)]) :
  Calls Try.prog 19 #[(.pointer (some ⟨zT,0,none⟩)),(.int .i64 z1d),(.int .i64 z1e)] w₀ fun e w'=>∃ z3x : Option Addr,∃ z3y : Nat,e = .returned (.int .i64 r.1) ∧ True ∧ Hp (fps [stb zT 57 [(.int .i64 z8.fNumbers.fSlow),(.int .i64 z8.fNumbers.fDelay),(.int .i64 z8.fNumbers.fStore),(.int .i64 z8.fNow),(.int .i64 z8.fLast),(.slice zH z8.fFrames.length zI)],row (.slice zH z8.fFrames.length zI) 67 2 (z8.fFrames.flatMap e67)]) w₀ w' [stb zT 57 [(.int .i64 r.2.fNumbers.fSlow),(.int .i64 r.2.fNumbers.fDelay),(.int .i64 r.2.fNumbers.fStore),(.int .i64 r.2.fNow),(.int .i64 r.2.fLast),(.slice z3x r.2.fFrames.length z3y)],row (.slice z3x r.2.fFrames.length z3y) 67 2 (r.2.fFrames.flatMap e67)]:=by
 unfold yU at h
 refine Calls.ya (vs:=[(.pointer (some ⟨zT,0,none⟩)),(.int .i64 z1d),(.int .i64 z1e)]) (pre:=[stb zT 57 [(.int .i64 z8.fNumbers.fSlow),(.int .i64 z8.fNumbers.fDelay),(.int .i64 z8.fNumbers.fStore),(.int .i64 z8.fNow),(.int .i64 z8.fLast),(.slice zH z8.fFrames.length zI)],row (.slice zH z8.fFrames.length zI) 67 2 (z8.fFrames.flatMap e67)]) (env:=[(0,(.pointer (some ⟨zT,0,none⟩))),(1,(.int .i64 z1d)),(2,(.int .i64 z1e))]) Try.func19 rfl Try.ntmps19 rfl (hown) rfl ?_
 refine WC.b ?_
 refine WC.a ?_
 refine WL.a (d:=6) rfl rfl rfl (q_z rfl) ?_
 refine WL.nil ?_
 refine WX.a ?_
 refine WC.b ?_
 obtain ⟨z1A,z4E,h⟩:=zz h
 refine WC.a ?_
 refine WL.a (d:=10) rfl rfl rfl (q_m rfl) ?_
 refine WL.a (d:=11) rfl rfl rfl (q_m rfl) ?_
 refine WL.a (d:=12) rfl rfl rfl (q_m rfl) ?_
 refine WL.yX (dd:=13) rfl rfl rfl (zJ (l:=[.tmp 10,.tmp 11,.tmp 12]) Try.call16 (.cons rfl (.cons rfl (.cons rfl .nil)))) ((.cons .here (.cons .here .nil)) : Sel [stb zT 57 [(.int .i64 z8.fNumbers.fSlow),(.int .i64 z8.fNumbers.fDelay),(.int .i64 z8.fNumbers.fStore),(.int .i64 z8.fNow),(.int .i64 z8.fLast),(.slice zH z8.fFrames.length zI)],row (.slice zH z8.fFrames.length zI) 67 2 (z8.fFrames.flatMap e67)] [stb zT 57 [(.int .i64 z8.fNumbers.fSlow),(.int .i64 z8.fNumbers.fDelay),(.int .i64 z8.fNumbers.fStore),(.int .i64 z8.fNow),(.int .i64 z8.fLast),(.slice zH z8.fFrames.length zI)],row (.slice zH z8.fFrames.length zI) 67 2 (z8.fFrames.flatMap e67)] []) (fun w hw=>by have pz:=(hz.call hw ((.cons .here (.cons .here .nil)) : Sel [stb zT 57 [(.int .i64 z8.fNumbers.fSlow),(.int .i64 z8.fNumbers.fDelay),(.int .i64 z8.fNumbers.fStore),(.int .i64 z8.fNow),(.int .i64 z8.fLast),(.slice zH z8.fFrames.length zI)],row (.slice zH z8.fFrames.length zI) 67 2 (z8.fFrames.flatMap e67)] [stb zT 57 [(.int .i64 z8.fNumbers.fSlow),(.int .i64 z8.fNumbers.fDelay),(.int .i64 z8.fNumbers.fStore),(.int .i64 z8.fNow),(.int .i64 z8.fLast),(.slice zH z8.fFrames.length zI)],row (.slice zH z8.fFrames.length zI) 67 2 (z8.fFrames.flatMap e67)] [])); exact y1s (Z:=_) (zj:=zT) (zf:=zH) (zg:=zI) (z2:=z8) (z7:=z1d) (zh:=z1e) (r:=z1A) w pz  z4E (hw.owns ((.cons .here (.cons .here .nil)) : Sel [stb zT 57 [(.int .i64 z8.fNumbers.fSlow),(.int .i64 z8.fNumbers.fDelay),(.int .i64 z8.fNumbers.fStore),(.int .i64 z8.fNow),(.int .i64 z8.fLast),(.slice zH z8.fFrames.length zI)],row (.slice zH z8.fFrames.length zI) 67 2 (z8.fFrames.flatMap e67)] [stb zT 57 [(.int .i64 z8.fNumbers.fSlow),(.int .i64 z8.fNumbers.fDelay),(.int .i64 z8.fNumbers.fStore),(.int .i64 z8.fNow),(.int .i64 z8.fLast),(.slice zH z8.fFrames.length zI)],row (.slice zH z8.fFrames.length zI) 67 2 (z8.fFrames.flatMap e67)] []))) ?_
 rintro z3z z3A _
 refine WL.a (d:=9) rfl rfl rfl (q_m rfl) ?_
 refine WL.a (d:=14) rfl rfl rfl (yz rfl rfl) ?_
 refine WL.a (d:=15) rfl rfl rfl (yz rfl rfl) ?_
 refine WL.a (d:=7) rfl rfl rfl (q_z rfl) ?_
 refine WL.a (d:=8) rfl rfl rfl (q_z rfl) ?_
 refine WL.nil ?_
 refine WX.a ?_
 refine WC.b ?_
 refine WC.b ?_
 refine WC.a ?_
 refine WL.a (d:=16) rfl rfl rfl (q_m rfl) ?_
 refine WL.a (d:=17) rfl rfl rfl (y18 rfl rfl) ?_
 refine WL.nil ?_
 refine WX.a ?_
 refine WC.cond rfl (fun z2I=>?_) (fun z2I=>?_)
 ·replace h:=yq h z2I
  refine WC.b ?_
  refine WC.a ?_
  refine WL.a (d:=18) rfl rfl rfl (q_m rfl) ?_
  refine WL.a (d:=19) rfl rfl rfl (q_neg rfl rfl) ?_
  refine WL.a (d:=6) rfl rfl rfl (q_z rfl) ?_
  refine WL.nil ?_
  refine WX.a ?_
  refine WC.ret ?_
  refine WX.y9 ?_
  obtain rfl:=Option.some.inj h
  refine WX.y6 Try.results19 (.tmp rfl .nil) (fun w hw=>?_)
  exact ⟨z3z,z3A,yM rfl,trivial,hw.sub (.cons .here (.cons .here .nil))⟩
 ·replace h:=yr h z2I
  refine WC.skip ?_
  refine WX.a ?_
  refine WC.b ?_
  refine WC.a ?_
  refine WL.a (d:=20) rfl rfl rfl (q_m rfl) ?_
  refine WL.a (d:=6) rfl rfl rfl (q_z rfl) ?_
  refine WL.nil ?_
  refine WX.a ?_
  refine WC.ret ?_
  obtain rfl:=Option.some.inj h
  refine WX.y6 Try.results19 (.tmp rfl .nil) (fun w hw=>?_)
  exact ⟨z3z,z3A,yM rfl,trivial,hw.sub (.cons .here (.cons .here .nil))⟩
def yT  : Option Bool :=
 (y1w 2 5 25).bind fun zo=>(yU zo 0 10).bind fun zi=>(yU zi.2 3 10).bind fun zk=>(yU zk.2 4 6).bind fun zl=>(yU zl.2 4 5).bind fun z1=>(if (((decide (zi.1 = 25)) && (decide (zk.1 = 45))) && (decide (zl.1 = (-4)))) && (decide (z1.1 = 55)) then (ym z1.2 24).bind fun z2J=>some (decide (z2J = 25)) else some false).bind fun z25=>(if z25 then (ym z1.2 25).bind fun z2K=>some (decide (z2K = 15)) else some false).bind fun z26=>(if z26 then (yy z1.2).bind fun z2L=>some (decide (z2L = 55)) else some false).bind fun z2M=>some z2M
set_option maxRecDepth 20000 in
theorem y2u (Z : Zp)    (r : Bool) (w₀ : World) (hz : PZ [] w₀ Z)
  (h : yT  = some r) :
  Calls Try.prog 11 #[] w₀ fun e w'=>e = .returned (.bool r) ∧ Hp [] w₀ w' []:=by
 unfold yT at h
 refine Calls.ya (vs:=[]) (pre:=[]) (env:=[]) Try.func11 rfl Try.ntmps11 rfl (Hp.nil w₀ _) rfl ?_
 refine WC.b ?_
 refine WC.a ?_
 refine WL.a (d:=0) rfl rfl rfl (q_z rfl) ?_
 refine WL.nil ?_
 refine WX.a ?_
 refine WC.b ?_
 obtain ⟨zo,z4F,h⟩:=zz h
 refine WC.a ?_
 refine WL.y33 (dd:=8) rfl rfl rfl (zJ (l:=[.const (.int .i64 2),.const (.int .i64 5),.const (.int .i64 25)]) Try.call9 (.cons rfl (.cons rfl (.cons rfl .nil)))) (.nil : Sel [] [] []) (fun w hw=>by have pz:=(hz.call hw (.nil : Sel [] [] [])); exact y2M (Z:=_)  (zx:=2) (zF:=5) (zR:=25) (r:=zo) w pz  z4F) ?_
 rintro z9 zY zZ _
 refine WL.a (d:=7) rfl rfl rfl (q_m rfl) ?_
 refine WL.a (d:=9) rfl rfl rfl (yz rfl rfl) ?_
 refine WL.a (d:=10) rfl rfl rfl (yz rfl rfl) ?_
 refine WL.a (d:=1) rfl rfl rfl (q_z rfl) ?_
 refine WL.a (d:=2) rfl rfl rfl (q_z rfl) ?_
 refine WL.nil ?_
 refine WX.a ?_
 refine WC.b ?_
 refine WC.b ?_
 refine WC.a ?_
 refine WL.a (d:=11) rfl rfl rfl (q_m rfl) ?_
 refine WL.a (d:=12) rfl rfl rfl (y18 rfl rfl) ?_
 refine WL.nil ?_
 refine WX.a ?_
 refine WC.cond rfl (fun h'=>(by cases h')) (fun h'=>?_)
 clear h'
 refine WC.skip ?_
 refine WX.a ?_
 refine WC.b ?_
 obtain ⟨zi,z4G,h⟩:=zz h
 obtain ⟨zk,z4H,h⟩:=zz h
 obtain ⟨zl,z4I,h⟩:=zz h
 obtain ⟨z1,z4J,h⟩:=zz h
 refine WC.a ?_
 refine WL.a (d:=13) rfl rfl rfl (q_m rfl) ?_
 refine WL.yX (dd:=14) rfl rfl rfl (zJ (l:=[.tmp 13,.const (.int .i64 0),.const (.int .i64 10)]) Try.call19 (.cons rfl (.cons rfl (.cons rfl .nil)))) ((.cons .here (.cons .here .nil)) : Sel [stb z9 57 [(.int .i64 zo.fNumbers.fSlow),(.int .i64 zo.fNumbers.fDelay),(.int .i64 zo.fNumbers.fStore),(.int .i64 zo.fNow),(.int .i64 zo.fLast),(.slice zY zo.fFrames.length zZ)],row (.slice zY zo.fFrames.length zZ) 67 2 (zo.fFrames.flatMap e67)] [stb z9 57 [(.int .i64 zo.fNumbers.fSlow),(.int .i64 zo.fNumbers.fDelay),(.int .i64 zo.fNumbers.fStore),(.int .i64 zo.fNow),(.int .i64 zo.fLast),(.slice zY zo.fFrames.length zZ)],row (.slice zY zo.fFrames.length zZ) 67 2 (zo.fFrames.flatMap e67)] []) (fun w hw=>by have pz:=(hz.call hw ((.cons .here (.cons .here .nil)) : Sel [stb z9 57 [(.int .i64 zo.fNumbers.fSlow),(.int .i64 zo.fNumbers.fDelay),(.int .i64 zo.fNumbers.fStore),(.int .i64 zo.fNow),(.int .i64 zo.fLast),(.slice zY zo.fFrames.length zZ)],row (.slice zY zo.fFrames.length zZ) 67 2 (zo.fFrames.flatMap e67)] [stb z9 57 [(.int .i64 zo.fNumbers.fSlow),(.int .i64 zo.fNumbers.fDelay),(.int .i64 zo.fNumbers.fStore),(.int .i64 zo.fNow),(.int .i64 zo.fLast),(.slice zY zo.fFrames.length zZ)],row (.slice zY zo.fFrames.length zZ) 67 2 (zo.fFrames.flatMap e67)] [])); exact y1i (Z:=_) (zT:=z9) (zH:=zY) (zI:=zZ) (z8:=zo) (z1d:=0) (z1e:=10) (r:=zi) w pz  z4G (hw.owns ((.cons .here (.cons .here .nil)) : Sel [stb z9 57 [(.int .i64 zo.fNumbers.fSlow),(.int .i64 zo.fNumbers.fDelay),(.int .i64 zo.fNumbers.fStore),(.int .i64 zo.fNow),(.int .i64 zo.fLast),(.slice zY zo.fFrames.length zZ)],row (.slice zY zo.fFrames.length zZ) 67 2 (zo.fFrames.flatMap e67)] [stb z9 57 [(.int .i64 zo.fNumbers.fSlow),(.int .i64 zo.fNumbers.fDelay),(.int .i64 zo.fNumbers.fStore),(.int .i64 zo.fNow),(.int .i64 zo.fLast),(.slice zY zo.fFrames.length zZ)],row (.slice zY zo.fFrames.length zZ) 67 2 (zo.fFrames.flatMap e67)] []))) ?_
 rintro z10 z11 _
 refine WL.a (d:=15) rfl rfl rfl (q_m rfl) ?_
 refine WL.yX (dd:=16) rfl rfl rfl (zJ (l:=[.tmp 15,.const (.int .i64 3),.const (.int .i64 10)]) Try.call19 (.cons rfl (.cons rfl (.cons rfl .nil)))) ((.cons .here (.cons .here .nil)) : Sel [stb z9 57 [(.int .i64 zi.2.fNumbers.fSlow),(.int .i64 zi.2.fNumbers.fDelay),(.int .i64 zi.2.fNumbers.fStore),(.int .i64 zi.2.fNow),(.int .i64 zi.2.fLast),(.slice z10 zi.2.fFrames.length z11)],row (.slice z10 zi.2.fFrames.length z11) 67 2 (zi.2.fFrames.flatMap e67)] [stb z9 57 [(.int .i64 zi.2.fNumbers.fSlow),(.int .i64 zi.2.fNumbers.fDelay),(.int .i64 zi.2.fNumbers.fStore),(.int .i64 zi.2.fNow),(.int .i64 zi.2.fLast),(.slice z10 zi.2.fFrames.length z11)],row (.slice z10 zi.2.fFrames.length z11) 67 2 (zi.2.fFrames.flatMap e67)] []) (fun w hw=>by have pz:=(hz.call hw ((.cons .here (.cons .here .nil)) : Sel [stb z9 57 [(.int .i64 zi.2.fNumbers.fSlow),(.int .i64 zi.2.fNumbers.fDelay),(.int .i64 zi.2.fNumbers.fStore),(.int .i64 zi.2.fNow),(.int .i64 zi.2.fLast),(.slice z10 zi.2.fFrames.length z11)],row (.slice z10 zi.2.fFrames.length z11) 67 2 (zi.2.fFrames.flatMap e67)] [stb z9 57 [(.int .i64 zi.2.fNumbers.fSlow),(.int .i64 zi.2.fNumbers.fDelay),(.int .i64 zi.2.fNumbers.fStore),(.int .i64 zi.2.fNow),(.int .i64 zi.2.fLast),(.slice z10 zi.2.fFrames.length z11)],row (.slice z10 zi.2.fFrames.length z11) 67 2 (zi.2.fFrames.flatMap e67)] [])); exact y1i (Z:=_) (zT:=z9) (zH:=z10) (zI:=z11) (z8:=zi.2) (z1d:=3) (z1e:=10) (r:=zk) w pz  z4H (hw.owns ((.cons .here (.cons .here .nil)) : Sel [stb z9 57 [(.int .i64 zi.2.fNumbers.fSlow),(.int .i64 zi.2.fNumbers.fDelay),(.int .i64 zi.2.fNumbers.fStore),(.int .i64 zi.2.fNow),(.int .i64 zi.2.fLast),(.slice z10 zi.2.fFrames.length z11)],row (.slice z10 zi.2.fFrames.length z11) 67 2 (zi.2.fFrames.flatMap e67)] [stb z9 57 [(.int .i64 zi.2.fNumbers.fSlow),(.int .i64 zi.2.fNumbers.fDelay),(.int .i64 zi.2.fNumbers.fStore),(.int .i64 zi.2.fNow),(.int .i64 zi.2.fLast),(.slice z10 zi.2.fFrames.length z11)],row (.slice z10 zi.2.fFrames.length z11) 67 2 (zi.2.fFrames.flatMap e67)] []))) ?_
 rintro z12 z13 _
 refine WL.a (d:=17) rfl rfl rfl (q_m rfl) ?_
 refine WL.yX (dd:=18) rfl rfl rfl (zJ (l:=[.tmp 17,.const (.int .i64 4),.const (.int .i64 6)]) Try.call19 (.cons rfl (.cons rfl (.cons rfl .nil)))) ((.cons .here (.cons .here .nil)) : Sel [stb z9 57 [(.int .i64 zk.2.fNumbers.fSlow),(.int .i64 zk.2.fNumbers.fDelay),(.int .i64 zk.2.fNumbers.fStore),(.int .i64 zk.2.fNow),(.int .i64 zk.2.fLast),(.slice z12 zk.2.fFrames.length z13)],row (.slice z12 zk.2.fFrames.length z13) 67 2 (zk.2.fFrames.flatMap e67)] [stb z9 57 [(.int .i64 zk.2.fNumbers.fSlow),(.int .i64 zk.2.fNumbers.fDelay),(.int .i64 zk.2.fNumbers.fStore),(.int .i64 zk.2.fNow),(.int .i64 zk.2.fLast),(.slice z12 zk.2.fFrames.length z13)],row (.slice z12 zk.2.fFrames.length z13) 67 2 (zk.2.fFrames.flatMap e67)] []) (fun w hw=>by have pz:=(hz.call hw ((.cons .here (.cons .here .nil)) : Sel [stb z9 57 [(.int .i64 zk.2.fNumbers.fSlow),(.int .i64 zk.2.fNumbers.fDelay),(.int .i64 zk.2.fNumbers.fStore),(.int .i64 zk.2.fNow),(.int .i64 zk.2.fLast),(.slice z12 zk.2.fFrames.length z13)],row (.slice z12 zk.2.fFrames.length z13) 67 2 (zk.2.fFrames.flatMap e67)] [stb z9 57 [(.int .i64 zk.2.fNumbers.fSlow),(.int .i64 zk.2.fNumbers.fDelay),(.int .i64 zk.2.fNumbers.fStore),(.int .i64 zk.2.fNow),(.int .i64 zk.2.fLast),(.slice z12 zk.2.fFrames.length z13)],row (.slice z12 zk.2.fFrames.length z13) 67 2 (zk.2.fFrames.flatMap e67)] [])); exact y1i (Z:=_) (zT:=z9) (zH:=z12) (zI:=z13) (z8:=zk.2) (z1d:=4) (z1e:=6) (r:=zl) w pz  z4I (hw.owns ((.cons .here (.cons .here .nil)) : Sel [stb z9 57 [(.int .i64 zk.2.fNumbers.fSlow),(.int .i64 zk.2.fNumbers.fDelay),(.int .i64 zk.2.fNumbers.fStore),(.int .i64 zk.2.fNow),(.int .i64 zk.2.fLast),(.slice z12 zk.2.fFrames.length z13)],row (.slice z12 zk.2.fFrames.length z13) 67 2 (zk.2.fFrames.flatMap e67)] [stb z9 57 [(.int .i64 zk.2.fNumbers.fSlow),(.int .i64 zk.2.fNumbers.fDelay),(.int .i64 zk.2.fNumbers.fStore),(.int .i64 zk.2.fNow),(.int .i64 zk.2.fLast),(.slice z12 zk.2.fFrames.length z13)],row (.slice z12 zk.2.fFrames.length z13) 67 2 (zk.2.fFrames.flatMap e67)] []))) ?_
 rintro z14 z15 _
 refine WL.a (d:=19) rfl rfl rfl (q_m rfl) ?_
 refine WL.yX (dd:=20) rfl rfl rfl (zJ (l:=[.tmp 19,.const (.int .i64 4),.const (.int .i64 5)]) Try.call19 (.cons rfl (.cons rfl (.cons rfl .nil)))) ((.cons .here (.cons .here .nil)) : Sel [stb z9 57 [(.int .i64 zl.2.fNumbers.fSlow),(.int .i64 zl.2.fNumbers.fDelay),(.int .i64 zl.2.fNumbers.fStore),(.int .i64 zl.2.fNow),(.int .i64 zl.2.fLast),(.slice z14 zl.2.fFrames.length z15)],row (.slice z14 zl.2.fFrames.length z15) 67 2 (zl.2.fFrames.flatMap e67)] [stb z9 57 [(.int .i64 zl.2.fNumbers.fSlow),(.int .i64 zl.2.fNumbers.fDelay),(.int .i64 zl.2.fNumbers.fStore),(.int .i64 zl.2.fNow),(.int .i64 zl.2.fLast),(.slice z14 zl.2.fFrames.length z15)],row (.slice z14 zl.2.fFrames.length z15) 67 2 (zl.2.fFrames.flatMap e67)] []) (fun w hw=>by have pz:=(hz.call hw ((.cons .here (.cons .here .nil)) : Sel [stb z9 57 [(.int .i64 zl.2.fNumbers.fSlow),(.int .i64 zl.2.fNumbers.fDelay),(.int .i64 zl.2.fNumbers.fStore),(.int .i64 zl.2.fNow),(.int .i64 zl.2.fLast),(.slice z14 zl.2.fFrames.length z15)],row (.slice z14 zl.2.fFrames.length z15) 67 2 (zl.2.fFrames.flatMap e67)] [stb z9 57 [(.int .i64 zl.2.fNumbers.fSlow),(.int .i64 zl.2.fNumbers.fDelay),(.int .i64 zl.2.fNumbers.fStore),(.int .i64 zl.2.fNow),(.int .i64 zl.2.fLast),(.slice z14 zl.2.fFrames.length z15)],row (.slice z14 zl.2.fFrames.length z15) 67 2 (zl.2.fFrames.flatMap e67)] [])); exact y1i (Z:=_) (zT:=z9) (zH:=z14) (zI:=z15) (z8:=zl.2) (z1d:=4) (z1e:=5) (r:=z1) w pz  z4J (hw.owns ((.cons .here (.cons .here .nil)) : Sel [stb z9 57 [(.int .i64 zl.2.fNumbers.fSlow),(.int .i64 zl.2.fNumbers.fDelay),(.int .i64 zl.2.fNumbers.fStore),(.int .i64 zl.2.fNow),(.int .i64 zl.2.fLast),(.slice z14 zl.2.fFrames.length z15)],row (.slice z14 zl.2.fFrames.length z15) 67 2 (zl.2.fFrames.flatMap e67)] [stb z9 57 [(.int .i64 zl.2.fNumbers.fSlow),(.int .i64 zl.2.fNumbers.fDelay),(.int .i64 zl.2.fNumbers.fStore),(.int .i64 zl.2.fNow),(.int .i64 zl.2.fLast),(.slice z14 zl.2.fFrames.length z15)],row (.slice z14 zl.2.fFrames.length z15) 67 2 (zl.2.fFrames.flatMap e67)] []))) ?_
 rintro z4 z5 _
 refine WL.a (d:=3) rfl rfl rfl (q_z rfl) ?_
 refine WL.a (d:=4) rfl rfl rfl (q_z rfl) ?_
 refine WL.a (d:=5) rfl rfl rfl (q_z rfl) ?_
 refine WL.a (d:=6) rfl rfl rfl (q_z rfl) ?_
 refine WL.nil ?_
 refine WX.a ?_
 refine WC.b ?_
 obtain ⟨z25,z3B,h⟩:=zz h
 obtain ⟨z26,z3C,h⟩:=zz h
 obtain ⟨z2M,z3D,h⟩:=zz h
 refine WC.a ?_
 refine WL.a (d:=21) rfl rfl rfl (q_m rfl) ?_
 refine WL.a (d:=22) rfl rfl rfl (y1m rfl rfl) ?_
 refine WL.a (d:=23) rfl rfl rfl (q_m rfl) ?_
 refine WL.yk True [(0,(.bool false)),(1,(.pointer (some ⟨z9,0,none⟩))),(5,(.int .i64 zl.1)),(6,(.int .i64 z1.1)),(26,(.bool ((decide (zi.1 = 25)) && (decide (zk.1 = 45)))))] [stb z9 57 [(.int .i64 z1.2.fNumbers.fSlow),(.int .i64 z1.2.fNumbers.fDelay),(.int .i64 z1.2.fNumbers.fStore),(.int .i64 z1.2.fNow),(.int .i64 z1.2.fLast),(.slice z4 z1.2.fFrames.length z5)],row (.slice z4 z1.2.fFrames.length z5) 67 2 (z1.2.fFrames.flatMap e67)] 3 ?_ (fun _=>?_)
 ·rcases Bool.eq_false_or_eq_true (decide (zi.1 = 25)) with hb' | hb'
  ·have z3E:=hb'; clear hb'
   refine WL.pin (i:=23) rfl z3E ?_
   refine WL.a (d:=24) rfl rfl rfl (q_m rfl) ?_
   refine WL.a (d:=25) rfl rfl rfl (y1m rfl rfl) ?_
   refine WL.a (d:=26) rfl rfl rfl (yf rfl rfl) ?_
   exact WL.y2 () trivial (.cons rfl (.cons rfl (.cons rfl (.cons rfl (.cons (zp (and_r z3E)) .nil))))) (.cons .here (.cons .here .nil))
  ·have z3F:=hb'; clear hb'
   refine WL.pin (i:=23) rfl z3F ?_
   refine WL.e rfl rfl rfl ?_
   refine WL.e rfl rfl rfl ?_
   refine WL.a (d:=26) rfl rfl rfl (y8 rfl rfl) ?_
   exact WL.y2 () trivial (.cons rfl (.cons rfl (.cons rfl (.cons rfl (.cons (zp (and_l z3F)) .nil))))) (.cons .here (.cons .here .nil))
 ·skip
  refine WL.a (d:=27) rfl rfl rfl (q_m rfl) ?_
  refine WL.yk True [(0,(.bool false)),(1,(.pointer (some ⟨z9,0,none⟩))),(6,(.int .i64 z1.1)),(30,(.bool (((decide (zi.1 = 25)) && (decide (zk.1 = 45))) && (decide (zl.1 = (-4))))))] [stb z9 57 [(.int .i64 z1.2.fNumbers.fSlow),(.int .i64 z1.2.fNumbers.fDelay),(.int .i64 z1.2.fNumbers.fStore),(.int .i64 z1.2.fNow),(.int .i64 z1.2.fLast),(.slice z4 z1.2.fFrames.length z5)],row (.slice z4 z1.2.fFrames.length z5) 67 2 (z1.2.fFrames.flatMap e67)] 3 ?_ (fun _=>?_)
  ·rcases Bool.eq_false_or_eq_true ((decide (zi.1 = 25)) && (decide (zk.1 = 45))) with hb' | hb'
   ·have z3G:=hb'; clear hb'
    refine WL.pin (i:=27) rfl z3G ?_
    refine WL.a (d:=28) rfl rfl rfl (q_m rfl) ?_
    refine WL.a (d:=29) rfl rfl rfl (y1m rfl rfl) ?_
    refine WL.a (d:=30) rfl rfl rfl (yf rfl rfl) ?_
    exact WL.y2 () trivial (.cons rfl (.cons rfl (.cons rfl (.cons (zp (and_r z3G)) .nil)))) (.cons .here (.cons .here .nil))
   ·have z3H:=hb'; clear hb'
    refine WL.pin (i:=27) rfl z3H ?_
    refine WL.e rfl rfl rfl ?_
    refine WL.e rfl rfl rfl ?_
    refine WL.a (d:=30) rfl rfl rfl (y8 rfl rfl) ?_
    exact WL.y2 () trivial (.cons rfl (.cons rfl (.cons rfl (.cons (zp (and_l z3H)) .nil)))) (.cons .here (.cons .here .nil))
  ·skip
   refine WL.a (d:=31) rfl rfl rfl (q_m rfl) ?_
   refine WL.yk True [(0,(.bool false)),(1,(.pointer (some ⟨z9,0,none⟩))),(34,(.bool ((((decide (zi.1 = 25)) && (decide (zk.1 = 45))) && (decide (zl.1 = (-4)))) && (decide (z1.1 = 55)))))] [stb z9 57 [(.int .i64 z1.2.fNumbers.fSlow),(.int .i64 z1.2.fNumbers.fDelay),(.int .i64 z1.2.fNumbers.fStore),(.int .i64 z1.2.fNow),(.int .i64 z1.2.fLast),(.slice z4 z1.2.fFrames.length z5)],row (.slice z4 z1.2.fFrames.length z5) 67 2 (z1.2.fFrames.flatMap e67)] 3 ?_ (fun _=>?_)
   ·rcases Bool.eq_false_or_eq_true (((decide (zi.1 = 25)) && (decide (zk.1 = 45))) && (decide (zl.1 = (-4)))) with hb' | hb'
    ·have z3I:=hb'; clear hb'
     refine WL.pin (i:=31) rfl z3I ?_
     refine WL.a (d:=32) rfl rfl rfl (q_m rfl) ?_
     refine WL.a (d:=33) rfl rfl rfl (y1m rfl rfl) ?_
     refine WL.a (d:=34) rfl rfl rfl (yf rfl rfl) ?_
     exact WL.y2 () trivial (.cons rfl (.cons rfl (.cons (zp (and_r z3I)) .nil))) (.cons .here (.cons .here .nil))
    ·have z3J:=hb'; clear hb'
     refine WL.pin (i:=31) rfl z3J ?_
     refine WL.e rfl rfl rfl ?_
     refine WL.e rfl rfl rfl ?_
     refine WL.a (d:=34) rfl rfl rfl (y8 rfl rfl) ?_
     exact WL.y2 () trivial (.cons rfl (.cons rfl (.cons (zp (and_l z3J)) .nil))) (.cons .here (.cons .here .nil))
   ·skip
    refine WL.a (d:=35) rfl rfl rfl (q_m rfl) ?_
    refine WL.yk True [(0,(.bool false)),(1,(.pointer (some ⟨z9,0,none⟩))),(39,(.bool z25))] [stb z9 57 [(.int .i64 z1.2.fNumbers.fSlow),(.int .i64 z1.2.fNumbers.fDelay),(.int .i64 z1.2.fNumbers.fStore),(.int .i64 z1.2.fNow),(.int .i64 z1.2.fLast),(.slice z4 z1.2.fFrames.length z5)],row (.slice z4 z1.2.fFrames.length z5) 67 2 (z1.2.fFrames.flatMap e67)] 4 ?_ (fun _=>?_)
    ·rcases Bool.eq_false_or_eq_true ((((decide (zi.1 = 25)) && (decide (zk.1 = 45))) && (decide (zl.1 = (-4)))) && (decide (z1.1 = 55))) with hb' | hb'
     ·have z3K:=hb'; clear hb'
      have z1V:=yq z3B z3K
      obtain ⟨z2J,z4K,z1V⟩:=zz z1V
      replace z1V:=Option.some.inj z1V
      refine WL.pin (i:=35) rfl z3K ?_
      refine WL.a (d:=36) rfl rfl rfl (q_m rfl) ?_
      refine WL.b (dd:=37) rfl rfl rfl (zJ (l:=[.tmp 36,.const (.int .i64 24)]) Try.call12 (.cons rfl (.cons rfl .nil))) (.nil : Sel [stb z9 57 [(.int .i64 z1.2.fNumbers.fSlow),(.int .i64 z1.2.fNumbers.fDelay),(.int .i64 z1.2.fNumbers.fStore),(.int .i64 z1.2.fNow),(.int .i64 z1.2.fLast),(.slice z4 z1.2.fFrames.length z5)],row (.slice z4 z1.2.fFrames.length z5) 67 2 (z1.2.fFrames.flatMap e67)] [] [stb z9 57 [(.int .i64 z1.2.fNumbers.fSlow),(.int .i64 z1.2.fNumbers.fDelay),(.int .i64 z1.2.fNumbers.fStore),(.int .i64 z1.2.fNow),(.int .i64 z1.2.fLast),(.slice z4 z1.2.fFrames.length z5)],row (.slice z4 z1.2.fFrames.length z5) 67 2 (z1.2.fFrames.flatMap e67)]) (fun w hw=>by have pz:=(hz.call hw (.nil : Sel [stb z9 57 [(.int .i64 z1.2.fNumbers.fSlow),(.int .i64 z1.2.fNumbers.fDelay),(.int .i64 z1.2.fNumbers.fStore),(.int .i64 z1.2.fNow),(.int .i64 z1.2.fLast),(.slice z4 z1.2.fFrames.length z5)],row (.slice z4 z1.2.fFrames.length z5) 67 2 (z1.2.fFrames.flatMap e67)] [] [stb z9 57 [(.int .i64 z1.2.fNumbers.fSlow),(.int .i64 z1.2.fNumbers.fDelay),(.int .i64 z1.2.fNumbers.fStore),(.int .i64 z1.2.fNow),(.int .i64 z1.2.fLast),(.slice z4 z1.2.fFrames.length z5)],row (.slice z4 z1.2.fFrames.length z5) 67 2 (z1.2.fFrames.flatMap e67)])).lend hw (.nil : Sel [stb z9 57 [(.int .i64 z1.2.fNumbers.fSlow),(.int .i64 z1.2.fNumbers.fDelay),(.int .i64 z1.2.fNumbers.fStore),(.int .i64 z1.2.fNow),(.int .i64 z1.2.fLast),(.slice z4 z1.2.fFrames.length z5)],row (.slice z4 z1.2.fFrames.length z5) 67 2 (z1.2.fFrames.flatMap e67)] [] [stb z9 57 [(.int .i64 z1.2.fNumbers.fSlow),(.int .i64 z1.2.fNumbers.fDelay),(.int .i64 z1.2.fNumbers.fStore),(.int .i64 z1.2.fNow),(.int .i64 z1.2.fLast),(.slice z4 z1.2.fFrames.length z5)],row (.slice z4 z1.2.fFrames.length z5) 67 2 (z1.2.fFrames.flatMap e67)]) (B:=[stb z9 57 [(.int .i64 z1.2.fNumbers.fSlow),(.int .i64 z1.2.fNumbers.fDelay),(.int .i64 z1.2.fNumbers.fStore),(.int .i64 z1.2.fNow),(.int .i64 z1.2.fLast),(.slice z4 z1.2.fFrames.length z5)],row (.slice z4 z1.2.fFrames.length z5) 67 2 (z1.2.fFrames.flatMap e67)]) (fun _ hx'=>((.cons .here (.cons .here .nil)) : Sel _ [stb z9 57 [(.int .i64 z1.2.fNumbers.fSlow),(.int .i64 z1.2.fNumbers.fDelay),(.int .i64 z1.2.fNumbers.fStore),(.int .i64 z1.2.fNow),(.int .i64 z1.2.fLast),(.slice z4 z1.2.fFrames.length z5)],row (.slice z4 z1.2.fFrames.length z5) 67 2 (z1.2.fFrames.flatMap e67)] _).mem hx'); exact yL (Z:=_) (z1g:=⟨z9,0,none⟩) (z1s:=z4) (z1t:=z5) (zA:=z1.2) (zD:=24) (r:=z2J) w pz (ZA.row (hw.lent (.nil : Sel [stb z9 57 [(.int .i64 z1.2.fNumbers.fSlow),(.int .i64 z1.2.fNumbers.fDelay),(.int .i64 z1.2.fNumbers.fStore),(.int .i64 z1.2.fNow),(.int .i64 z1.2.fLast),(.slice z4 z1.2.fFrames.length z5)],row (.slice z4 z1.2.fFrames.length z5) 67 2 (z1.2.fFrames.flatMap e67)] [] [stb z9 57 [(.int .i64 z1.2.fNumbers.fSlow),(.int .i64 z1.2.fNumbers.fDelay),(.int .i64 z1.2.fNumbers.fStore),(.int .i64 z1.2.fNow),(.int .i64 z1.2.fLast),(.slice z4 z1.2.fFrames.length z5)],row (.slice z4 z1.2.fFrames.length z5) 67 2 (z1.2.fFrames.flatMap e67)]) (B:=[stb z9 57 [(.int .i64 z1.2.fNumbers.fSlow),(.int .i64 z1.2.fNumbers.fDelay),(.int .i64 z1.2.fNumbers.fStore),(.int .i64 z1.2.fNow),(.int .i64 z1.2.fLast),(.slice z4 z1.2.fFrames.length z5)],row (.slice z4 z1.2.fFrames.length z5) 67 2 (z1.2.fFrames.flatMap e67)]) (fun _ hx'=>((.cons .here (.cons .here .nil)) : Sel _ [stb z9 57 [(.int .i64 z1.2.fNumbers.fSlow),(.int .i64 z1.2.fNumbers.fDelay),(.int .i64 z1.2.fNumbers.fStore),(.int .i64 z1.2.fNow),(.int .i64 z1.2.fLast),(.slice z4 z1.2.fFrames.length z5)],row (.slice z4 z1.2.fFrames.length z5) 67 2 (z1.2.fFrames.flatMap e67)] _).mem hx') (.tail _ (.head _)) _) (RR.y17 (enc:=e67) (fun _=>rfl) _) ⟨w,pz.1⟩) ((hw.lent (.nil : Sel [stb z9 57 [(.int .i64 z1.2.fNumbers.fSlow),(.int .i64 z1.2.fNumbers.fDelay),(.int .i64 z1.2.fNumbers.fStore),(.int .i64 z1.2.fNow),(.int .i64 z1.2.fLast),(.slice z4 z1.2.fFrames.length z5)],row (.slice z4 z1.2.fFrames.length z5) 67 2 (z1.2.fFrames.flatMap e67)] [] [stb z9 57 [(.int .i64 z1.2.fNumbers.fSlow),(.int .i64 z1.2.fNumbers.fDelay),(.int .i64 z1.2.fNumbers.fStore),(.int .i64 z1.2.fNow),(.int .i64 z1.2.fLast),(.slice z4 z1.2.fFrames.length z5)],row (.slice z4 z1.2.fFrames.length z5) 67 2 (z1.2.fFrames.flatMap e67)]) (B:=[stb z9 57 [(.int .i64 z1.2.fNumbers.fSlow),(.int .i64 z1.2.fNumbers.fDelay),(.int .i64 z1.2.fNumbers.fStore),(.int .i64 z1.2.fNow),(.int .i64 z1.2.fLast),(.slice z4 z1.2.fFrames.length z5)],row (.slice z4 z1.2.fFrames.length z5) 67 2 (z1.2.fFrames.flatMap e67)]) (fun _ hx'=>((.cons .here (.cons .here .nil)) : Sel _ [stb z9 57 [(.int .i64 z1.2.fNumbers.fSlow),(.int .i64 z1.2.fNumbers.fDelay),(.int .i64 z1.2.fNumbers.fStore),(.int .i64 z1.2.fNow),(.int .i64 z1.2.fLast),(.slice z4 z1.2.fFrames.length z5)],row (.slice z4 z1.2.fFrames.length z5) 67 2 (z1.2.fFrames.flatMap e67)] _).mem hx') (.head _) _).stb) z4K) ?_
      refine WL.a (d:=38) rfl rfl rfl (y1m rfl rfl) ?_
      refine WL.a (d:=39) rfl rfl rfl (yf rfl rfl) ?_
      exact WL.y2 () trivial (.cons rfl (.cons rfl (.cons (zp z1V) .nil))) (.cons .here (.cons .here .nil))
     ·have z3L:=hb'; clear hb'
      have z2N:=yr z3B z3L
      replace z2N:=Option.some.inj z2N
      refine WL.pin (i:=35) rfl z3L ?_
      refine WL.e rfl rfl rfl ?_
      refine WL.e rfl rfl rfl ?_
      refine WL.e rfl rfl rfl ?_
      refine WL.a (d:=39) rfl rfl rfl (y8 rfl rfl) ?_
      exact WL.y2 () trivial (.cons rfl (.cons rfl (.cons (zp z2N) .nil))) (.cons .here (.cons .here .nil))
    ·skip
     refine WL.a (d:=40) rfl rfl rfl (q_m rfl) ?_
     refine WL.yk True [(0,(.bool false)),(1,(.pointer (some ⟨z9,0,none⟩))),(44,(.bool z26))] [stb z9 57 [(.int .i64 z1.2.fNumbers.fSlow),(.int .i64 z1.2.fNumbers.fDelay),(.int .i64 z1.2.fNumbers.fStore),(.int .i64 z1.2.fNow),(.int .i64 z1.2.fLast),(.slice z4 z1.2.fFrames.length z5)],row (.slice z4 z1.2.fFrames.length z5) 67 2 (z1.2.fFrames.flatMap e67)] 4 ?_ (fun _=>?_)
     ·rcases Bool.eq_false_or_eq_true z25 with hb' | hb'
      ·have z3M:=hb'; clear hb'
       have z1W:=yq z3C z3M
       obtain ⟨z2K,z4L,z1W⟩:=zz z1W
       replace z1W:=Option.some.inj z1W
       refine WL.pin (i:=40) rfl z3M ?_
       refine WL.a (d:=41) rfl rfl rfl (q_m rfl) ?_
       refine WL.b (dd:=42) rfl rfl rfl (zJ (l:=[.tmp 41,.const (.int .i64 25)]) Try.call12 (.cons rfl (.cons rfl .nil))) (.nil : Sel [stb z9 57 [(.int .i64 z1.2.fNumbers.fSlow),(.int .i64 z1.2.fNumbers.fDelay),(.int .i64 z1.2.fNumbers.fStore),(.int .i64 z1.2.fNow),(.int .i64 z1.2.fLast),(.slice z4 z1.2.fFrames.length z5)],row (.slice z4 z1.2.fFrames.length z5) 67 2 (z1.2.fFrames.flatMap e67)] [] [stb z9 57 [(.int .i64 z1.2.fNumbers.fSlow),(.int .i64 z1.2.fNumbers.fDelay),(.int .i64 z1.2.fNumbers.fStore),(.int .i64 z1.2.fNow),(.int .i64 z1.2.fLast),(.slice z4 z1.2.fFrames.length z5)],row (.slice z4 z1.2.fFrames.length z5) 67 2 (z1.2.fFrames.flatMap e67)]) (fun w hw=>by have pz:=(hz.call hw (.nil : Sel [stb z9 57 [(.int .i64 z1.2.fNumbers.fSlow),(.int .i64 z1.2.fNumbers.fDelay),(.int .i64 z1.2.fNumbers.fStore),(.int .i64 z1.2.fNow),(.int .i64 z1.2.fLast),(.slice z4 z1.2.fFrames.length z5)],row (.slice z4 z1.2.fFrames.length z5) 67 2 (z1.2.fFrames.flatMap e67)] [] [stb z9 57 [(.int .i64 z1.2.fNumbers.fSlow),(.int .i64 z1.2.fNumbers.fDelay),(.int .i64 z1.2.fNumbers.fStore),(.int .i64 z1.2.fNow),(.int .i64 z1.2.fLast),(.slice z4 z1.2.fFrames.length z5)],row (.slice z4 z1.2.fFrames.length z5) 67 2 (z1.2.fFrames.flatMap e67)])).lend hw (.nil : Sel [stb z9 57 [(.int .i64 z1.2.fNumbers.fSlow),(.int .i64 z1.2.fNumbers.fDelay),(.int .i64 z1.2.fNumbers.fStore),(.int .i64 z1.2.fNow),(.int .i64 z1.2.fLast),(.slice z4 z1.2.fFrames.length z5)],row (.slice z4 z1.2.fFrames.length z5) 67 2 (z1.2.fFrames.flatMap e67)] [] [stb z9 57 [(.int .i64 z1.2.fNumbers.fSlow),(.int .i64 z1.2.fNumbers.fDelay),(.int .i64 z1.2.fNumbers.fStore),(.int .i64 z1.2.fNow),(.int .i64 z1.2.fLast),(.slice z4 z1.2.fFrames.length z5)],row (.slice z4 z1.2.fFrames.length z5) 67 2 (z1.2.fFrames.flatMap e67)]) (B:=[stb z9 57 [(.int .i64 z1.2.fNumbers.fSlow),(.int .i64 z1.2.fNumbers.fDelay),(.int .i64 z1.2.fNumbers.fStore),(.int .i64 z1.2.fNow),(.int .i64 z1.2.fLast),(.slice z4 z1.2.fFrames.length z5)],row (.slice z4 z1.2.fFrames.length z5) 67 2 (z1.2.fFrames.flatMap e67)]) (fun _ hx'=>((.cons .here (.cons .here .nil)) : Sel _ [stb z9 57 [(.int .i64 z1.2.fNumbers.fSlow),(.int .i64 z1.2.fNumbers.fDelay),(.int .i64 z1.2.fNumbers.fStore),(.int .i64 z1.2.fNow),(.int .i64 z1.2.fLast),(.slice z4 z1.2.fFrames.length z5)],row (.slice z4 z1.2.fFrames.length z5) 67 2 (z1.2.fFrames.flatMap e67)] _).mem hx'); exact yL (Z:=_) (z1g:=⟨z9,0,none⟩) (z1s:=z4) (z1t:=z5) (zA:=z1.2) (zD:=25) (r:=z2K) w pz (ZA.row (hw.lent (.nil : Sel [stb z9 57 [(.int .i64 z1.2.fNumbers.fSlow),(.int .i64 z1.2.fNumbers.fDelay),(.int .i64 z1.2.fNumbers.fStore),(.int .i64 z1.2.fNow),(.int .i64 z1.2.fLast),(.slice z4 z1.2.fFrames.length z5)],row (.slice z4 z1.2.fFrames.length z5) 67 2 (z1.2.fFrames.flatMap e67)] [] [stb z9 57 [(.int .i64 z1.2.fNumbers.fSlow),(.int .i64 z1.2.fNumbers.fDelay),(.int .i64 z1.2.fNumbers.fStore),(.int .i64 z1.2.fNow),(.int .i64 z1.2.fLast),(.slice z4 z1.2.fFrames.length z5)],row (.slice z4 z1.2.fFrames.length z5) 67 2 (z1.2.fFrames.flatMap e67)]) (B:=[stb z9 57 [(.int .i64 z1.2.fNumbers.fSlow),(.int .i64 z1.2.fNumbers.fDelay),(.int .i64 z1.2.fNumbers.fStore),(.int .i64 z1.2.fNow),(.int .i64 z1.2.fLast),(.slice z4 z1.2.fFrames.length z5)],row (.slice z4 z1.2.fFrames.length z5) 67 2 (z1.2.fFrames.flatMap e67)]) (fun _ hx'=>((.cons .here (.cons .here .nil)) : Sel _ [stb z9 57 [(.int .i64 z1.2.fNumbers.fSlow),(.int .i64 z1.2.fNumbers.fDelay),(.int .i64 z1.2.fNumbers.fStore),(.int .i64 z1.2.fNow),(.int .i64 z1.2.fLast),(.slice z4 z1.2.fFrames.length z5)],row (.slice z4 z1.2.fFrames.length z5) 67 2 (z1.2.fFrames.flatMap e67)] _).mem hx') (.tail _ (.head _)) _) (RR.y17 (enc:=e67) (fun _=>rfl) _) ⟨w,pz.1⟩) ((hw.lent (.nil : Sel [stb z9 57 [(.int .i64 z1.2.fNumbers.fSlow),(.int .i64 z1.2.fNumbers.fDelay),(.int .i64 z1.2.fNumbers.fStore),(.int .i64 z1.2.fNow),(.int .i64 z1.2.fLast),(.slice z4 z1.2.fFrames.length z5)],row (.slice z4 z1.2.fFrames.length z5) 67 2 (z1.2.fFrames.flatMap e67)] [] [stb z9 57 [(.int .i64 z1.2.fNumbers.fSlow),(.int .i64 z1.2.fNumbers.fDelay),(.int .i64 z1.2.fNumbers.fStore),(.int .i64 z1.2.fNow),(.int .i64 z1.2.fLast),(.slice z4 z1.2.fFrames.length z5)],row (.slice z4 z1.2.fFrames.length z5) 67 2 (z1.2.fFrames.flatMap e67)]) (B:=[stb z9 57 [(.int .i64 z1.2.fNumbers.fSlow),(.int .i64 z1.2.fNumbers.fDelay),(.int .i64 z1.2.fNumbers.fStore),(.int .i64 z1.2.fNow),(.int .i64 z1.2.fLast),(.slice z4 z1.2.fFrames.length z5)],row (.slice z4 z1.2.fFrames.length z5) 67 2 (z1.2.fFrames.flatMap e67)]) (fun _ hx'=>((.cons .here (.cons .here .nil)) : Sel _ [stb z9 57 [(.int .i64 z1.2.fNumbers.fSlow),(.int .i64 z1.2.fNumbers.fDelay),(.int .i64 z1.2.fNumbers.fStore),(.int .i64 z1.2.fNow),(.int .i64 z1.2.fLast),(.slice z4 z1.2.fFrames.length z5)],row (.slice z4 z1.2.fFrames.length z5) 67 2 (z1.2.fFrames.flatMap e67)] _).mem hx') (.head _) _).stb) z4L) ?_
       refine WL.a (d:=43) rfl rfl rfl (y1m rfl rfl) ?_
       refine WL.a (d:=44) rfl rfl rfl (yf rfl rfl) ?_
       exact WL.y2 () trivial (.cons rfl (.cons rfl (.cons (zp z1W) .nil))) (.cons .here (.cons .here .nil))
      ·have z3N:=hb'; clear hb'
       have z2O:=yr z3C z3N
       replace z2O:=Option.some.inj z2O
       refine WL.pin (i:=40) rfl z3N ?_
       refine WL.e rfl rfl rfl ?_
       refine WL.e rfl rfl rfl ?_
       refine WL.e rfl rfl rfl ?_
       refine WL.a (d:=44) rfl rfl rfl (y8 rfl rfl) ?_
       exact WL.y2 () trivial (.cons rfl (.cons rfl (.cons (zp z2O) .nil))) (.cons .here (.cons .here .nil))
     ·skip
      refine WL.a (d:=45) rfl rfl rfl (q_m rfl) ?_
      refine WL.yk True [(0,(.bool false)),(49,(.bool z2M))] [stb z9 57 [(.int .i64 z1.2.fNumbers.fSlow),(.int .i64 z1.2.fNumbers.fDelay),(.int .i64 z1.2.fNumbers.fStore),(.int .i64 z1.2.fNow),(.int .i64 z1.2.fLast),(.slice z4 z1.2.fFrames.length z5)],row (.slice z4 z1.2.fFrames.length z5) 67 2 (z1.2.fFrames.flatMap e67)] 4 ?_ (fun _=>?_)
      ·rcases Bool.eq_false_or_eq_true z26 with hb' | hb'
       ·have z3O:=hb'; clear hb'
        have z1X:=yq z3D z3O
        obtain ⟨z2L,z4M,z1X⟩:=zz z1X
        replace z1X:=Option.some.inj z1X
        refine WL.pin (i:=45) rfl z3O ?_
        refine WL.a (d:=46) rfl rfl rfl (q_m rfl) ?_
        refine WL.b (dd:=47) rfl rfl rfl (zJ (l:=[.tmp 46]) Try.call14 (.cons rfl .nil)) (.nil : Sel [stb z9 57 [(.int .i64 z1.2.fNumbers.fSlow),(.int .i64 z1.2.fNumbers.fDelay),(.int .i64 z1.2.fNumbers.fStore),(.int .i64 z1.2.fNow),(.int .i64 z1.2.fLast),(.slice z4 z1.2.fFrames.length z5)],row (.slice z4 z1.2.fFrames.length z5) 67 2 (z1.2.fFrames.flatMap e67)] [] [stb z9 57 [(.int .i64 z1.2.fNumbers.fSlow),(.int .i64 z1.2.fNumbers.fDelay),(.int .i64 z1.2.fNumbers.fStore),(.int .i64 z1.2.fNow),(.int .i64 z1.2.fLast),(.slice z4 z1.2.fFrames.length z5)],row (.slice z4 z1.2.fFrames.length z5) 67 2 (z1.2.fFrames.flatMap e67)]) (fun w hw=>by have pz:=(hz.call hw (.nil : Sel [stb z9 57 [(.int .i64 z1.2.fNumbers.fSlow),(.int .i64 z1.2.fNumbers.fDelay),(.int .i64 z1.2.fNumbers.fStore),(.int .i64 z1.2.fNow),(.int .i64 z1.2.fLast),(.slice z4 z1.2.fFrames.length z5)],row (.slice z4 z1.2.fFrames.length z5) 67 2 (z1.2.fFrames.flatMap e67)] [] [stb z9 57 [(.int .i64 z1.2.fNumbers.fSlow),(.int .i64 z1.2.fNumbers.fDelay),(.int .i64 z1.2.fNumbers.fStore),(.int .i64 z1.2.fNow),(.int .i64 z1.2.fLast),(.slice z4 z1.2.fFrames.length z5)],row (.slice z4 z1.2.fFrames.length z5) 67 2 (z1.2.fFrames.flatMap e67)])).lend hw (.nil : Sel [stb z9 57 [(.int .i64 z1.2.fNumbers.fSlow),(.int .i64 z1.2.fNumbers.fDelay),(.int .i64 z1.2.fNumbers.fStore),(.int .i64 z1.2.fNow),(.int .i64 z1.2.fLast),(.slice z4 z1.2.fFrames.length z5)],row (.slice z4 z1.2.fFrames.length z5) 67 2 (z1.2.fFrames.flatMap e67)] [] [stb z9 57 [(.int .i64 z1.2.fNumbers.fSlow),(.int .i64 z1.2.fNumbers.fDelay),(.int .i64 z1.2.fNumbers.fStore),(.int .i64 z1.2.fNow),(.int .i64 z1.2.fLast),(.slice z4 z1.2.fFrames.length z5)],row (.slice z4 z1.2.fFrames.length z5) 67 2 (z1.2.fFrames.flatMap e67)]) (B:=[stb z9 57 [(.int .i64 z1.2.fNumbers.fSlow),(.int .i64 z1.2.fNumbers.fDelay),(.int .i64 z1.2.fNumbers.fStore),(.int .i64 z1.2.fNow),(.int .i64 z1.2.fLast),(.slice z4 z1.2.fFrames.length z5)],row (.slice z4 z1.2.fFrames.length z5) 67 2 (z1.2.fFrames.flatMap e67)]) (fun _ hx'=>((.cons .here (.cons .here .nil)) : Sel _ [stb z9 57 [(.int .i64 z1.2.fNumbers.fSlow),(.int .i64 z1.2.fNumbers.fDelay),(.int .i64 z1.2.fNumbers.fStore),(.int .i64 z1.2.fNow),(.int .i64 z1.2.fLast),(.slice z4 z1.2.fFrames.length z5)],row (.slice z4 z1.2.fFrames.length z5) 67 2 (z1.2.fFrames.flatMap e67)] _).mem hx'); exact y1j (Z:=_) (z1z:=⟨z9,0,none⟩) (z1T:=z4) (z1U:=z5) (zW:=z1.2) (r:=z2L) w pz (ZA.row (hw.lent (.nil : Sel [stb z9 57 [(.int .i64 z1.2.fNumbers.fSlow),(.int .i64 z1.2.fNumbers.fDelay),(.int .i64 z1.2.fNumbers.fStore),(.int .i64 z1.2.fNow),(.int .i64 z1.2.fLast),(.slice z4 z1.2.fFrames.length z5)],row (.slice z4 z1.2.fFrames.length z5) 67 2 (z1.2.fFrames.flatMap e67)] [] [stb z9 57 [(.int .i64 z1.2.fNumbers.fSlow),(.int .i64 z1.2.fNumbers.fDelay),(.int .i64 z1.2.fNumbers.fStore),(.int .i64 z1.2.fNow),(.int .i64 z1.2.fLast),(.slice z4 z1.2.fFrames.length z5)],row (.slice z4 z1.2.fFrames.length z5) 67 2 (z1.2.fFrames.flatMap e67)]) (B:=[stb z9 57 [(.int .i64 z1.2.fNumbers.fSlow),(.int .i64 z1.2.fNumbers.fDelay),(.int .i64 z1.2.fNumbers.fStore),(.int .i64 z1.2.fNow),(.int .i64 z1.2.fLast),(.slice z4 z1.2.fFrames.length z5)],row (.slice z4 z1.2.fFrames.length z5) 67 2 (z1.2.fFrames.flatMap e67)]) (fun _ hx'=>((.cons .here (.cons .here .nil)) : Sel _ [stb z9 57 [(.int .i64 z1.2.fNumbers.fSlow),(.int .i64 z1.2.fNumbers.fDelay),(.int .i64 z1.2.fNumbers.fStore),(.int .i64 z1.2.fNow),(.int .i64 z1.2.fLast),(.slice z4 z1.2.fFrames.length z5)],row (.slice z4 z1.2.fFrames.length z5) 67 2 (z1.2.fFrames.flatMap e67)] _).mem hx') (.tail _ (.head _)) _) (RR.y17 (enc:=e67) (fun _=>rfl) _) ⟨w,pz.1⟩) ((hw.lent (.nil : Sel [stb z9 57 [(.int .i64 z1.2.fNumbers.fSlow),(.int .i64 z1.2.fNumbers.fDelay),(.int .i64 z1.2.fNumbers.fStore),(.int .i64 z1.2.fNow),(.int .i64 z1.2.fLast),(.slice z4 z1.2.fFrames.length z5)],row (.slice z4 z1.2.fFrames.length z5) 67 2 (z1.2.fFrames.flatMap e67)] [] [stb z9 57 [(.int .i64 z1.2.fNumbers.fSlow),(.int .i64 z1.2.fNumbers.fDelay),(.int .i64 z1.2.fNumbers.fStore),(.int .i64 z1.2.fNow),(.int .i64 z1.2.fLast),(.slice z4 z1.2.fFrames.length z5)],row (.slice z4 z1.2.fFrames.length z5) 67 2 (z1.2.fFrames.flatMap e67)]) (B:=[stb z9 57 [(.int .i64 z1.2.fNumbers.fSlow),(.int .i64 z1.2.fNumbers.fDelay),(.int .i64 z1.2.fNumbers.fStore),(.int .i64 z1.2.fNow),(.int .i64 z1.2.fLast),(.slice z4 z1.2.fFrames.length z5)],row (.slice z4 z1.2.fFrames.length z5) 67 2 (z1.2.fFrames.flatMap e67)]) (fun _ hx'=>((.cons .here (.cons .here .nil)) : Sel _ [stb z9 57 [(.int .i64 z1.2.fNumbers.fSlow),(.int .i64 z1.2.fNumbers.fDelay),(.int .i64 z1.2.fNumbers.fStore),(.int .i64 z1.2.fNow),(.int .i64 z1.2.fLast),(.slice z4 z1.2.fFrames.length z5)],row (.slice z4 z1.2.fFrames.length z5) 67 2 (z1.2.fFrames.flatMap e67)] _).mem hx') (.head _) _).stb) z4M) ?_
        refine WL.a (d:=48) rfl rfl rfl (y1m rfl rfl) ?_
        refine WL.a (d:=49) rfl rfl rfl (yf rfl rfl) ?_
        exact WL.y2 () trivial (.cons rfl (.cons (zp z1X) .nil)) (.cons .here (.cons .here .nil))
       ·have z3P:=hb'; clear hb'
        have z2P:=yr z3D z3P
        replace z2P:=Option.some.inj z2P
        refine WL.pin (i:=45) rfl z3P ?_
        refine WL.e rfl rfl rfl ?_
        refine WL.e rfl rfl rfl ?_
        refine WL.e rfl rfl rfl ?_
        refine WL.a (d:=49) rfl rfl rfl (y8 rfl rfl) ?_
        exact WL.y2 () trivial (.cons rfl (.cons (zp z2P) .nil)) (.cons .here (.cons .here .nil))
      ·skip
       refine WL.a (d:=0) rfl rfl rfl (q_z rfl) ?_
       refine WL.nil ?_
       refine WX.a ?_
       refine WC.ret ?_
       obtain rfl:=Option.some.inj h
       refine WX.y6 Try.results11 (.tmp rfl .nil) (fun w hw=>?_)
       exact ⟨yM rfl,hw.sub .nil⟩
end Go.Proofs.Ytahpdiojgdlmgaa
