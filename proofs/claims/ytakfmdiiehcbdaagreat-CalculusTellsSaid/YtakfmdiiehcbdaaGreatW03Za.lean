/- A part of this claim's proof: models of functions, walks, plain laws. No conditions. -/
import Derived.Test.YtakfmdiiehcbdaaGreatZSortF
import Derived.Test.YtakfmdiiehcbdaaGreatZFast
import Derived.Test.YtakfmdiiehcbdaaGreatShelf03Z
import Derived.Test.YtakfmdiiehcbdaaGreatProg
namespace Go.Proofs.YtakfmdiiehcbdaaGreat
open Go Go.RowKit Sep
set_option linter.all false
set_option maxRecDepth 30000
set_option maxHeartbeats 4000000
structure z1 where
 fN : Int
 fD : Int
 deriving Inhabited,DecidableEq
structure z2 where
 fB : z1
 fR : z1
 deriving Inhabited,DecidableEq
def e54 (x : z2) : List Value:=[(.int .i64 x.fB.fN),(.int .i64 x.fB.fD),(.int .i64 x.fR.fN),(.int .i64 x.fR.fD)]
theorem y7K : ∀ x,∀ u ∈ e54 x,u.oneCell' = true:=fun _=>ocB rfl
structure zSt where
 fTime : Int
 fVL : Int
 fSize : Int
 deriving Inhabited,DecidableEq
def e58 (x : zSt) : List Value:=[(.int .i64 x.fTime),(.int .i64 x.fVL),(.int .i64 x.fSize)]
structure S7 where
 fX : Int
 fY : Int
 fSigned : Bool
 fCode : Int
 deriving Inhabited,DecidableEq
structure S13 where
 fMsg : ByteArray
 fAddr : Int
 deriving Inhabited,DecidableEq
structure S41 where
 fR : z1
 fL : z1
 deriving Inhabited,DecidableEq
def p23 (Z : Zp) (r : List Value) (x : List z2) : Prop:=∃ (ao0 : Option Addr) (cap0 : Nat),r = [(.slice ao0 x.length cap0)] ∧ ZS Z 4 (fun r x=>r = e54 x) ao0 cap0 x
theorem yG {Z Z' : Zp} (k : Zle Z Z') {r : List Value} {x : List z2} (h : p23 Z r x) : p23 Z' r x:=by
 obtain ⟨ao0,cap0,hr,h0⟩:=h
 exact ⟨ao0,cap0,hr,h0.mono k⟩
def e40 (x : z1) : List Value:=[(.int .i64 x.fN),(.int .i64 x.fD)]
theorem y50 : ∀ x,∀ u ∈ e40 x,u.oneCell' = true:=fun _=>ocB rfl
structure zV where
 fE : Int
 deriving Inhabited,DecidableEq
def e3 (x : Int) : List Value:=[(.int .i64 x)]
theorem e3_oc : ∀ x,∀ u ∈ e3 x,u.oneCell' = true:=fun _=>ocB rfl
def e42 (x : S41) : List Value:=[(.int .i64 x.fR.fN),(.int .i64 x.fR.fD),(.int .i64 x.fL.fN),(.int .i64 x.fL.fD)]
theorem yo : y4m Tryz.prog 40 (.agg #[(.int .i64 0),(.int .i64 0)]):=y4y (i:=Tryz.t40) rfl rfl
theorem yh : y5Y Tryz.prog 40 2:=y4I (i:=Tryz.t40) rfl
theorem y5 : aggT Tryz.prog 40 2:=y7F (i:=Tryz.t40) Tryz.underlying40 rfl rfl
theorem y4A : y4m Tryz.prog 54 (.agg #[(.int .i64 0),(.int .i64 0),(.int .i64 0),(.int .i64 0)]):=y4y (i:=Tryz.t54) rfl rfl
theorem y4K : y5Y Tryz.prog 54 4:=y4I (i:=Tryz.t54) rfl
theorem y1q : aggT Tryz.prog 54 4:=y7F (i:=Tryz.t54) Tryz.underlying54 rfl rfl
theorem yS : elT Tryz.prog 23 54 4 32:=⟨Tryz.underlying23,⟨Tryz.t54,_,rfl,rfl,rfl,rfl,rfl⟩,by decide⟩
theorem y76 : y4m Tryz.prog 42 (.agg #[(.int .i64 0),(.int .i64 0),(.int .i64 0),(.int .i64 0)]):=y4y (i:=Tryz.t42) rfl rfl
theorem y4L : y5Y Tryz.prog 42 4:=y4I (i:=Tryz.t42) rfl
theorem y3X : elT Tryz.prog 38 23 1 24:=⟨Tryz.underlying38,⟨Tryz.t23,_,rfl,rfl,rfl,rfl,rfl⟩,by decide⟩
theorem y15 : aggT Tryz.prog 42 4:=y7F (i:=Tryz.t42) Tryz.underlying42 rfl rfl
theorem y47 : oneT Tryz.prog 38:=y6X Tryz.underlying38 rfl
theorem yaU : y4m Tryz.prog 67 (.agg #[(.slice none 0 0),(.int .i64 0),(.int .i64 0),(.int .i64 0),(.int .i64 0),.nilFunc,(.slice none 0 0)]):=y4y (i:=Tryz.t67) rfl rfl
theorem ybF : y5Y Tryz.prog 67 7:=y4I (i:=Tryz.t67) rfl
theorem y8S : y2q Tryz.prog 67 2 5:=y1T (i:=Tryz.t64) Tryz.underlying67 rfl rfl (by decide) rfl
theorem ybG : y5Y Tryz.prog 64 1:=y4I (i:=Tryz.t64) rfl
theorem y70 : aggT Tryz.prog 67 7:=y7F (i:=Tryz.t67) Tryz.underlying67 rfl rfl
theorem y5K : y2q Tryz.prog 67 0 0:=y1T (i:=Tryz.t38) Tryz.underlying67 rfl rfl (by decide) rfl
theorem y2B : y2q Tryz.prog 54 0 0:=y1T (i:=Tryz.t40) Tryz.underlying54 rfl rfl (by decide) rfl
theorem yN : y2q Tryz.prog 40 1 1:=y1T (i:=Tryz.t3) Tryz.underlying40 rfl rfl (by decide) rfl
theorem yr : oneT Tryz.prog 3:=y6X Tryz.underlying3 rfl
theorem yL : y2q Tryz.prog 40 0 0:=y1T (i:=Tryz.t3) Tryz.underlying40 rfl rfl (by decide) rfl
theorem y2T : y2q Tryz.prog 54 1 2:=y1T (i:=Tryz.t40) Tryz.underlying54 rfl rfl (by decide) rfl
theorem y3S : oneT Tryz.prog 23:=y6X Tryz.underlying23 rfl
theorem y8T : y2q Tryz.prog 67 1 1:=y1T (i:=Tryz.t42) Tryz.underlying67 rfl rfl (by decide) rfl
theorem y2U : y2q Tryz.prog 42 0 0:=y1T (i:=Tryz.t40) Tryz.underlying42 rfl rfl (by decide) rfl
theorem y3r : y2q Tryz.prog 42 1 2:=y1T (i:=Tryz.t40) Tryz.underlying42 rfl rfl (by decide) rfl
theorem y87 : y4m Tryz.prog 87 (.agg #[(.int .i64 0)]):=y4y (i:=Tryz.t87) rfl rfl
theorem yaV : y4m Tryz.prog 83 (.agg #[(.int .i64 0)]):=y4y (i:=Tryz.t83) rfl rfl
theorem y9o : y4m Tryz.prog 65 (.slice none 0 0):=y4y (i:=Tryz.t65) rfl rfl
theorem yaW : EqT Tryz.prog 54 e54:=⟨fun u v w=>by
 have i54_10000:=fun (w : World) (a b : Array Value)=>run_equalIn_agg (P:=Tryz.prog) w 9999 54 a b (by simp [Program.fieldsOf,Tryz.underlying54]) (by kernel_rfl)
 have i40_9999:=fun (w : World) (a b : Array Value)=>run_equalIn_agg (P:=Tryz.prog) w 9998 40 a b (by simp [Program.fieldsOf,Tryz.underlying40]) (by kernel_rfl)
 have i3_9998:=fun (w : World) (a b : Int)=>run_equalIn_int (P:=Tryz.prog) w 9997 3 .i64 .i64 a b Tryz.underlying3
 rw [i54_10000]
 simp [Program.fieldsOf,Op.eqFields,part,e54,i54_10000,Tryz.underlying54,i40_9999,Tryz.underlying40,i3_9998]
 rcases u with ⟨⟨u1,u2⟩,⟨u3,u4⟩⟩
 rcases v with ⟨⟨v1,v2⟩,⟨v3,v4⟩⟩
 by_cases h1 : u1 = v1 <;> by_cases h2 : u2 = v2 <;> by_cases h3 : u3 = v3 <;> by_cases h4 : u4 = v4 <;> simp [h1,h2,h3,h4],by kernel_rfl⟩
theorem y4r : oneT Tryz.prog 65:=y6X Tryz.underlying65 rfl
theorem y2V : KeyT Tryz.prog 9 Value.string:=keyT_str Tryz.underlying9
theorem zgH : y4m Tryz.prog 105 .nilFunc:=y4y (i:=Tryz.t105) rfl rfl
theorem sizT_3 : y5Y Tryz.prog 3 1:=y4I (i:=Tryz.t3) rfl
theorem y71 : y2q Tryz.prog 83 0 0:=y1T (i:=Tryz.t26) Tryz.underlying83 rfl rfl (by decide) rfl
theorem y3s : oneT Tryz.prog 26:=y6X Tryz.underlying26 rfl
theorem ya1 : y5Y Tryz.prog 26 1:=y4I (i:=Tryz.t26) rfl
theorem yK : elT Tryz.prog 65 40 2 16:=⟨Tryz.underlying65,⟨Tryz.t40,_,rfl,rfl,rfl,rfl,rfl⟩,by decide⟩
theorem ya2 : y5Y Tryz.prog 65 1:=y4I (i:=Tryz.t65) rfl
theorem y6v : EqT Tryz.prog 40 e40:=⟨fun u v w=>by
 have i40_10000:=fun (w : World) (a b : Array Value)=>run_equalIn_agg (P:=Tryz.prog) w 9999 40 a b (by simp [Program.fieldsOf,Tryz.underlying40]) (by kernel_rfl)
 have i3_9999:=fun (w : World) (a b : Int)=>run_equalIn_int (P:=Tryz.prog) w 9998 3 .i64 .i64 a b Tryz.underlying3
 rw [i40_10000]
 simp [Program.fieldsOf,Op.eqFields,part,e40,i40_10000,Tryz.underlying40,i3_9999]
 rcases u with ⟨u1,u2⟩
 rcases v with ⟨v1,v2⟩
 by_cases h1 : u1 = v1 <;> by_cases h2 : u2 = v2 <;> simp [h1,h2],by kernel_rfl⟩
theorem yco : fldT Tryz.prog 54 1 2 40:=fldT_of Tryz.underlying54 rfl rfl rfl
theorem y48 : y2q Tryz.prog 87 0 0:=y1T (i:=Tryz.t26) Tryz.underlying87 rfl rfl (by decide) rfl
theorem ybH : y2q Tryz.prog 67 3 6:=y1T (i:=Tryz.t65) Tryz.underlying67 rfl rfl (by decide) rfl
theorem ybI : oneT Tryz.prog 64:=y6X Tryz.underlying64 rfl
theorem y77 : elT Tryz.prog 24 58 3 24:=⟨Tryz.underlying24,⟨Tryz.t58,_,rfl,rfl,rfl,rfl,rfl⟩,by decide⟩
theorem ya3 : aggT Tryz.prog 58 3:=y7F (i:=Tryz.t58) Tryz.underlying58 rfl rfl
theorem y9p : y4m Tryz.prog 58 (.agg #[(.int .i64 0),(.int .i64 0),(.int .i64 0)]):=y4y (i:=Tryz.t58) rfl rfl
theorem ya4 : y5Y Tryz.prog 58 3:=y4I (i:=Tryz.t58) rfl
theorem y6h : y2q Tryz.prog 58 0 0:=y1T (i:=Tryz.t3) Tryz.underlying58 rfl rfl (by decide) rfl
theorem y8U : y2q Tryz.prog 58 2 2:=y1T (i:=Tryz.t3) Tryz.underlying58 rfl rfl (by decide) rfl
theorem y8B : elT Tryz.prog 31 3 1 8:=⟨Tryz.underlying31,⟨Tryz.t3,_,rfl,rfl,rfl,rfl,rfl⟩,by decide⟩
theorem eqT_42 : EqT Tryz.prog 42 e42:=⟨fun u v w=>by
 have i42_10000:=fun (w : World) (a b : Array Value)=>run_equalIn_agg (P:=Tryz.prog) w 9999 42 a b (by simp [Program.fieldsOf,Tryz.underlying42]) (by kernel_rfl)
 have i40_9999:=fun (w : World) (a b : Array Value)=>run_equalIn_agg (P:=Tryz.prog) w 9998 40 a b (by simp [Program.fieldsOf,Tryz.underlying40]) (by kernel_rfl)
 have i3_9998:=fun (w : World) (a b : Int)=>run_equalIn_int (P:=Tryz.prog) w 9997 3 .i64 .i64 a b Tryz.underlying3
 rw [i42_10000]
 simp [Program.fieldsOf,Op.eqFields,part,e42,i42_10000,Tryz.underlying42,i40_9999,Tryz.underlying40,i3_9998]
 rcases u with ⟨⟨u1,u2⟩,⟨u3,u4⟩⟩
 rcases v with ⟨⟨v1,v2⟩,⟨v3,v4⟩⟩
 by_cases h1 : u1 = v1 <;> by_cases h2 : u2 = v2 <;> by_cases h3 : u3 = v3 <;> by_cases h4 : u4 = v4 <;> simp [h1,h2,h3,h4],by kernel_rfl⟩
def y1u (n_14 : Int) (d_15 : Int) : Option z1 :=
 some (⟨n_14,d_15⟩ : z1)
set_option maxRecDepth 20000 in
theorem y1O (Z : Zp)  (n_14 : Int) (d_15 : Int) (r : z1)
  (h : y1u n_14 d_15 = some r) (w₀ : World) (hz : PZ [] w₀ Z) :
  Calls Tryz.prog 20 #[(.int .i64 n_14),(.int .i64 d_15)] w₀ fun e w'=>e = .returned (.agg #[(.int .i64 r.fN),(.int .i64 r.fD)]) ∧ Hp [] w₀ w' []:=by
 unfold y1u at h
 refine Calls.yg (vs:=[(.int .i64 n_14),(.int .i64 d_15)]) (pre:=[]) (env:=[(0,(.int .i64 n_14)),(1,(.int .i64 d_15))]) Tryz.func20 rfl Tryz.ntmps20 rfl (Hp.nil w₀ _) rfl ?_
 refine WC.b (WC.a ?_)
 refine WL.new (dd:=4) rfl rfl rfl (yk (cs:=[(.int .i64 0),(.int .i64 0)]) yo rfl) ?_
 intro b_20 _
 refine WL.nil (WX.a (WC.b (WC.a (WL.pu rfl (WL.pu rfl ?_)))))
 refine WL.a (d:=7) rfl rfl rfl (yz (v:=(.agg #[(.int .i64 n_14),(.int .i64 d_15)])) (Eos.parts (l:=[.tmp 5,.tmp 6]) (.cons rfl (.cons rfl .nil)) [0,1]) (fun _=>by kernel_rfl)) ?_
 refine WL.yb rfl rfl (ya yh rfl rfl rfl .here rfl rfl rfl) ?_
 refine WL.nil (WX.a (WC.ret ?_))
 obtain rfl:=Option.some.inj h
 refine WX.y8 Tryz.results20 (.agg rfl y5 rfl (y7 .here) .nil) (fun w hw=>?_)
 exact ⟨yD rfl,hw.sub .nil⟩
def y3t (b_25 : z1) (r_26 : z1) : Option z2 :=
 some (⟨b_25,r_26⟩ : z2)
set_option maxRecDepth 20000 in
theorem y4s (Z : Zp)  (b_25 : z1) (r_26 : z1) (r : z2)
  (h : y3t b_25 r_26 = some r) (w₀ : World) (hz : PZ [] w₀ Z) :
  Calls Tryz.prog 19 #[(.agg #[(.int .i64 b_25.fN),(.int .i64 b_25.fD)]),(.agg #[(.int .i64 r_26.fN),(.int .i64 r_26.fD)])] w₀ fun e w'=>e = .returned (.agg #[(.int .i64 r.fB.fN),(.int .i64 r.fB.fD),(.int .i64 r.fR.fN),(.int .i64 r.fR.fD)]) ∧ Hp [] w₀ w' []:=by
 unfold y3t at h
 refine Calls.yg (vs:=[(.agg #[(.int .i64 b_25.fN),(.int .i64 b_25.fD)]),(.agg #[(.int .i64 r_26.fN),(.int .i64 r_26.fD)])]) (pre:=[]) (env:=[(0,(.agg #[(.int .i64 b_25.fN),(.int .i64 b_25.fD)])),(1,(.agg #[(.int .i64 r_26.fN),(.int .i64 r_26.fD)]))]) Tryz.func19 rfl Tryz.ntmps19 rfl (Hp.nil w₀ _) rfl ?_
 refine WC.b (WC.a ?_)
 refine WL.new (dd:=2) rfl rfl rfl (yx (cs:=[(.int .i64 b_25.fN),(.int .i64 b_25.fD)]) rfl rfl) ?_
 intro b_37 _
 refine WL.new (dd:=3) rfl rfl rfl (yx (cs:=[(.int .i64 r_26.fN),(.int .i64 r_26.fD)]) rfl rfl) ?_
 intro b_38 _
 refine WL.new (dd:=4) rfl rfl rfl (yk (cs:=[(.int .i64 0),(.int .i64 0),(.int .i64 0),(.int .i64 0)]) y4A rfl) ?_
 intro b_39 _
 refine WL.nil (WX.a (WC.b (WC.a ?_)))
 refine WL.a (d:=5) rfl rfl rfl (y9 y5 rfl (y7 .h2) rfl) ?_
 refine WL.a (d:=6) rfl rfl rfl (y9 y5 rfl (y7 .h1) rfl) ?_
 refine WL.a (d:=7) rfl rfl rfl (yz (v:=(.agg #[(.int .i64 b_25.fN),(.int .i64 b_25.fD),(.int .i64 r_26.fN),(.int .i64 r_26.fD)])) (Eos.parts (l:=[.tmp 5,.tmp 6]) (.cons rfl (.cons rfl .nil)) [0,1]) (fun _=>by kernel_rfl)) ?_
 refine WL.yb rfl rfl (ya y4K rfl rfl rfl .here rfl rfl rfl) ?_
 refine WL.nil (WX.a (WC.ret ?_))
 obtain rfl:=Option.some.inj h
 refine WX.y8 Tryz.results19 (.agg rfl y1q rfl (y7 .here) .nil) (fun w hw=>?_)
 exact ⟨yD rfl,hw.sub .nil⟩
def y4f (z8V : Int) : Option Int :=
 if decide (z8V < 0) then some (u64 ((u64 (i64 (0 - (i64 (z8V + 1))))) + 1)) else some (u64 z8V)
set_option maxRecDepth 20000 in
theorem y6O (Z : Zp)  (z8V : Int) (r : Int)
  (h : y4f z8V = some r) (w₀ : World) (hz : PZ [] w₀ Z) :
  Calls Tryz.prog 63 #[(.int .i64 z8V)] w₀ fun e w'=>e = .returned (.int .u64 r) ∧ Hp [] w₀ w' []:=by
 unfold y4f at h
 refine Calls.yg (vs:=[(.int .i64 z8V)]) (pre:=[]) (env:=[(0,(.int .i64 z8V))]) Tryz.func63 rfl Tryz.ntmps63 rfl (Hp.nil w₀ _) rfl ?_
 refine WC.b (WC.a (WL.pu rfl (WL.nil (WX.a (WC.b (WC.b (WC.a (WL.pu rfl (WL.pu rfl (WL.nil (WX.a ?_)))))))))))
 refine WC.cond rfl (fun ziW=>?_) (fun ziW=>?_)
 ·replace h:=yd h ziW
  refine WC.b (WC.a (WL.pu rfl (WL.pu rfl ?_)))
  refine WL.a (d:=7) rfl rfl rfl (y9A rfl rfl) ?_
  refine WL.a (d:=8) rfl rfl rfl (y4p Tryz.underlying3 Tryz.underlying99 rfl rfl) ?_
  refine WL.pu rfl (WL.pu rfl (WL.nil (WX.a (WC.ret (WX.y6 ?_)))))
  obtain rfl:=Option.some.inj h
  refine WX.y8 Tryz.results63 (.tmp rfl .nil) (fun w hw=>?_)
  exact ⟨yD rfl,hw.sub .nil⟩
 ·replace h:=ye h ziW
  refine WC.skip (WX.a (WC.b (WC.a (WL.pu rfl ?_))))
  refine WL.a (d:=11) rfl rfl rfl (y4p Tryz.underlying3 Tryz.underlying99 rfl rfl) ?_
  refine WL.pu rfl (WL.nil (WX.a (WC.ret ?_)))
  obtain rfl:=Option.some.inj h
  refine WX.y8 Tryz.results63 (.tmp rfl .nil) (fun w hw=>?_)
  exact ⟨yD rfl,hw.sub .nil⟩
def y1D (z7c : Int → Option Int) : Nat → Int → Int → Option Int
 | 0,_,_=>none
 | ziX + 1,z59,z4e=>if decide (z4e ≠ 0) then chk ((z4e : Int) ≠ 0) (y1D z7c ziX z4e (Int.tmod z59 z4e)) else z7c z59
theorem y78 {n : Nat} {z7c : Int → Option Int} {z59 : Int} {z4e : Int} {r : Int} (h : y1D z7c n z59 z4e = some r) : ∃ m,n = m + 1:=by
 cases n with
 | zero=>cases h
 | succ m=>exact ⟨m,rfl⟩
def y3u (zaq : Int) (zar : Int) : Option Int :=
 jp1 (fun (z8W : Int)=>some z8W) fun z7c=>y1D z7c yu zaq zar
set_option maxRecDepth 20000 in
theorem y79 (Z : Zp)  (zaq : Int) (zar : Int) (r : Int)
  (h : y3u zaq zar = some r) (w₀ : World) (hz : PZ [] w₀ Z) :
  Calls Tryz.prog 62 #[(.int .u64 zaq),(.int .u64 zar)] w₀ fun e w'=>e = .returned (.int .u64 r) ∧ Hp [] w₀ w' []:=by
 unfold y3u at h
 refine Calls.yg (vs:=[(.int .u64 zaq),(.int .u64 zar)]) (pre:=[]) (env:=[(0,(.int .u64 zaq)),(1,(.int .u64 zar))]) Tryz.func62 rfl Tryz.ntmps62 rfl (Hp.nil w₀ _) rfl ?_
 refine WC.b (WC.a (WL.pu rfl (WL.nil (WX.a ?_))))
 obtain ⟨z7c,zvu,h⟩:=y12 h
 refine WC.y3w (fun (z8W : Int)=>(z7c z8W = some r)) (fun (z8W : Int)=>[(0,(.int .u64 z8W))]) (fun (z8W : Int)=>[]) ?_ ?_
 ·skip
  refine WC.block ?_
  refine WC.yaK (fun (zbR : Nat) (z59 : Int) (z4e : Int)=>(y1D z7c zbR z59 z4e = some r)) (fun (zbR : Nat) (z59 : Int) (z4e : Int)=>[(0,(.int .u64 z59)),(1,(.int .u64 z4e))]) (fun (zbR : Nat) (z59 : Int) (z4e : Int)=>[]) (fun (zbR : Nat) (z59 : Int) (z4e : Int)=>zbR) ⟨yu,zaq,zar⟩ h (.cons rfl (.cons rfl .nil)) .nil ?_
  rintro zbR z59 z4e h
  obtain ⟨ziX,rfl⟩:=y78 h
  rw [y1D] at h
  refine WC.b (WC.b (WC.a (WL.pu rfl (WL.pu rfl (WL.nil (WX.a ?_))))))
  refine WC.cond rfl (fun ziY=>?_) (fun ziY=>?_)
  ·replace h:=yd h ziY
   refine WC.skip (WX.a (WC.block ?_))
   obtain ⟨zvv,h⟩:=yj h
   refine WC.yH (fun i=>[].contains i) [] rfl ?_
   refine WD.a (i:=0) (d:=7) (by kernel_rfl) rfl z6 z7 rfl rfl rfl (fun _=>q_m rfl) ?_
   refine WD.a (i:=1) (d:=8) (by kernel_rfl) rfl z6 z7 rfl rfl rfl (fun _=>q_m rfl) ?_
   refine WD.a (i:=2) (d:=9) (by kernel_rfl) rfl z6 z7 rfl rfl rfl (fun _=>q_m rfl) ?_
   refine WD.a (i:=3) (d:=10) (by kernel_rfl) rfl z6 z7 rfl rfl rfl (fun _=>q_rem rfl rfl zvv rfl) ?_
   refine WD.a (i:=4) (d:=0) (by kernel_rfl) rfl z6 z7 rfl rfl rfl (fun _=>q_z rfl) ?_
   refine WD.a (i:=5) (d:=1) (by kernel_rfl) rfl z6 z7 rfl rfl rfl (fun _=>q_z rfl) ?_
   refine WD.done (by kernel_rfl) ?_
   refine WX.yi ?_
   exact WX.round (G:=Nat × Int × Int) ⟨ziX,z4e,(Int.tmod z59 z4e)⟩ h (Nat.lt_succ_self _) (.cons rfl (.cons rfl .nil)) .nil
  ·replace h:=ye h ziY
   refine WC.exit (WX.yf (WX.yf (WX.yv ?_)))
   exact WX.mid (G:=Int) z59 h (.cons rfl .nil) .nil
 ·rintro z8W h
  replace h:=(zvu z8W).symm.trans h
  refine WC.b (WC.a (WL.pu rfl (WL.pu rfl (WL.nil (WX.a (WC.ret ?_))))))
  obtain rfl:=Option.some.inj h
  refine WX.y8 Tryz.results62 (.tmp rfl .nil) (fun w hw=>?_)
  exact ⟨yD rfl,hw.sub .nil⟩
def y1m (zG : z1) : Option Bool :=
 (if (((decide (zG.fD ≥ 1)) && (decide (zG.fD ≤ 1073741824))) && (decide (zG.fN ≥ (-1073741824)))) && (decide (zG.fN ≤ 1073741824)) then (y4f zG.fN).bind fun zq5=>(y4f zG.fD).bind fun zq6=>(y3u zq5 zq6).bind fun zq7=>some (decide (zq7 = 1)) else some false).bind fun ziZ=>some ziZ
set_option maxRecDepth 20000 in
theorem y1P (Z : Zp)  (zG : z1) (r : Bool)
  (h : y1m zG = some r) (w₀ : World) (hz : PZ [] w₀ Z) :
  Calls Tryz.prog 44 #[(.agg #[(.int .i64 zG.fN),(.int .i64 zG.fD)])] w₀ fun e w'=>e = .returned (.bool r) ∧ Hp [] w₀ w' []:=by
 unfold y1m at h
 refine Calls.yg (vs:=[(.agg #[(.int .i64 zG.fN),(.int .i64 zG.fD)])]) (pre:=[]) (env:=[(0,(.agg #[(.int .i64 zG.fN),(.int .i64 zG.fD)]))]) Tryz.func44 rfl Tryz.ntmps44 rfl (Hp.nil w₀ _) rfl ?_
 refine WC.b (WC.a ?_)
 refine WL.new (dd:=1) rfl rfl rfl (yx (cs:=[(.int .i64 zG.fN),(.int .i64 zG.fD)]) rfl rfl) ?_
 intro zj0 _
 refine WL.pu rfl (WL.nil (WX.a (WC.b ?_)))
 obtain ⟨ziZ,zq8,h⟩:=z8 h
 refine WC.yH (fun i=>[].contains i) [] rfl ?_
 refine WD.a (i:=0) (d:=3) (by kernel_rfl) rfl z6 z7 rfl rfl rfl (fun _=>y4 yN rfl rfl) ?_
 refine WD.e (i:=1) (d:=4) (by kernel_rfl) rfl z6 z7 rfl rfl rfl (yc yr rfl (yp .here rfl)) ?_
 refine WD.a (i:=2) (d:=5) (by kernel_rfl) rfl z6 z7 rfl rfl rfl (fun _=>y9z rfl rfl) ?_
 refine WD.a (i:=3) (d:=6) (by kernel_rfl) rfl z6 z7 rfl rfl rfl (fun _=>q_m rfl) ?_
 refine WD.mid (fuel':=21) [(1,(.pointer (some ⟨zj0,0,none⟩))),(2,(.bool false)),(6,(.bool (decide (zG.fD ≥ 1)))),(10,(.bool ((decide (zG.fD ≥ 1)) && (decide (zG.fD ≤ 1073741824)))))] (yC 29 [7,6,5,4,3,2,1,0]) ?_ (fun zq9=>?_)
 rotate_left
 ·rcases Bool.eq_false_or_eq_true (decide (zG.fD ≥ 1)) with hb' | hb'
  ·have zj1:=hb'; clear hb'
   refine WD.pin (i:=6) rfl zj1 ?_
   refine WD.a (i:=4) (d:=7) (by kernel_rfl) rfl z6 z7 rfl rfl rfl (fun _=>y4 yN rfl rfl) ?_
   refine WD.e (i:=5) (d:=8) (by kernel_rfl) rfl z6 z7 rfl rfl rfl (yc yr rfl (yp .here rfl)) ?_
   refine WD.a (i:=6) (d:=9) (by kernel_rfl) rfl z6 z7 rfl rfl rfl (fun _=>y82 rfl rfl) ?_
   refine WD.a (i:=7) (d:=10) (by kernel_rfl) rfl z6 z7 rfl rfl rfl (fun _=>y18 rfl rfl) ?_
   refine WD.yt (.cons .here .nil) ?_ zq9
   exact (.cons rfl (.cons rfl (.cons (zf (Eq.symm zj1)) (.cons (zf (y31 zj1)) .nil))))
  ·have zj2:=hb'; clear hb'
   refine WD.pin (i:=6) rfl zj2 ?_
   refine WD.b (i:=4) (d:=7) (by kernel_rfl) rfl z6 z7 rfl rfl rfl ?_
   refine WD.b (i:=5) (d:=8) (by kernel_rfl) rfl z6 z7 rfl rfl rfl ?_
   refine WD.b (i:=6) (d:=9) (by kernel_rfl) rfl z6 z7 rfl rfl rfl ?_
   refine WD.a (i:=7) (d:=10) (by kernel_rfl) rfl z6 z7 rfl rfl rfl (fun _=>y19 rfl rfl) ?_
   refine WD.yt (.cons .here .nil) ?_ zq9
   exact (.cons rfl (.cons rfl (.cons (zf (Eq.symm zj2)) (.cons (zf (y30 zj2)) .nil))))
 refine WD.d #[true,true,true,true,true,true,true,true,false,false,false,false,false,false,false,false,false,false,false,false,false,false,false,false,false,false,false,false,false] (by kernel_rfl) ?_
 refine WD.a (i:=8) (d:=11) (by kernel_rfl) rfl z6 z7 rfl rfl rfl (fun _=>q_m rfl) ?_
 refine WD.mid (fuel':=16) [(1,(.pointer (some ⟨zj0,0,none⟩))),(2,(.bool false)),(11,(.bool ((decide (zG.fD ≥ 1)) && (decide (zG.fD ≤ 1073741824))))),(15,(.bool (((decide (zG.fD ≥ 1)) && (decide (zG.fD ≤ 1073741824))) && (decide (zG.fN ≥ (-1073741824))))))] (yC 29 [12,11,10,9,8,7,6,5,4,3,2,1,0]) ?_ (fun zqa=>?_)
 rotate_left
 ·rcases Bool.eq_false_or_eq_true ((decide (zG.fD ≥ 1)) && (decide (zG.fD ≤ 1073741824))) with hb' | hb'
  ·have zj3:=hb'; clear hb'
   refine WD.pin (i:=11) rfl zj3 ?_
   refine WD.a (i:=9) (d:=12) (by kernel_rfl) rfl z6 z7 rfl rfl rfl (fun _=>y4 yL rfl rfl) ?_
   refine WD.e (i:=10) (d:=13) (by kernel_rfl) rfl z6 z7 rfl rfl rfl (yc yr rfl (yp .here rfl)) ?_
   refine WD.a (i:=11) (d:=14) (by kernel_rfl) rfl z6 z7 rfl rfl rfl (fun _=>y9z rfl rfl) ?_
   refine WD.a (i:=12) (d:=15) (by kernel_rfl) rfl z6 z7 rfl rfl rfl (fun _=>y18 rfl rfl) ?_
   refine WD.yt (.cons .here .nil) ?_ zqa
   exact (.cons rfl (.cons rfl (.cons (zf (Eq.symm zj3)) (.cons (zf (y31 zj3)) .nil))))
  ·have zj4:=hb'; clear hb'
   refine WD.pin (i:=11) rfl zj4 ?_
   refine WD.b (i:=9) (d:=12) (by kernel_rfl) rfl z6 z7 rfl rfl rfl ?_
   refine WD.b (i:=10) (d:=13) (by kernel_rfl) rfl z6 z7 rfl rfl rfl ?_
   refine WD.b (i:=11) (d:=14) (by kernel_rfl) rfl z6 z7 rfl rfl rfl ?_
   refine WD.a (i:=12) (d:=15) (by kernel_rfl) rfl z6 z7 rfl rfl rfl (fun _=>y19 rfl rfl) ?_
   refine WD.yt (.cons .here .nil) ?_ zqa
   exact (.cons rfl (.cons rfl (.cons (zf (Eq.symm zj4)) (.cons (zf (y30 zj4)) .nil))))
 refine WD.d #[true,true,true,true,true,true,true,true,true,true,true,true,true,false,false,false,false,false,false,false,false,false,false,false,false,false,false,false,false] (by kernel_rfl) ?_
 refine WD.a (i:=13) (d:=16) (by kernel_rfl) rfl z6 z7 rfl rfl rfl (fun _=>q_m rfl) ?_
 refine WD.mid (fuel':=11) [(1,(.pointer (some ⟨zj0,0,none⟩))),(2,(.bool false)),(16,(.bool (((decide (zG.fD ≥ 1)) && (decide (zG.fD ≤ 1073741824))) && (decide (zG.fN ≥ (-1073741824)))))),(20,(.bool ((((decide (zG.fD ≥ 1)) && (decide (zG.fD ≤ 1073741824))) && (decide (zG.fN ≥ (-1073741824)))) && (decide (zG.fN ≤ 1073741824)))))] (yC 29 [17,16,15,14,13,12,11,10,9,8,7,6,5,4,3,2,1,0]) ?_ (fun zqb=>?_)
 rotate_left
 ·rcases Bool.eq_false_or_eq_true (((decide (zG.fD ≥ 1)) && (decide (zG.fD ≤ 1073741824))) && (decide (zG.fN ≥ (-1073741824)))) with hb' | hb'
  ·have zj5:=hb'; clear hb'
   refine WD.pin (i:=16) rfl zj5 ?_
   refine WD.a (i:=14) (d:=17) (by kernel_rfl) rfl z6 z7 rfl rfl rfl (fun _=>y4 yL rfl rfl) ?_
   refine WD.e (i:=15) (d:=18) (by kernel_rfl) rfl z6 z7 rfl rfl rfl (yc yr rfl (yp .here rfl)) ?_
   refine WD.a (i:=16) (d:=19) (by kernel_rfl) rfl z6 z7 rfl rfl rfl (fun _=>y82 rfl rfl) ?_
   refine WD.a (i:=17) (d:=20) (by kernel_rfl) rfl z6 z7 rfl rfl rfl (fun _=>y18 rfl rfl) ?_
   refine WD.yt (.cons .here .nil) ?_ zqb
   exact (.cons rfl (.cons rfl (.cons (zf (Eq.symm zj5)) (.cons (zf (y31 zj5)) .nil))))
  ·have zj6:=hb'; clear hb'
   refine WD.pin (i:=16) rfl zj6 ?_
   refine WD.b (i:=14) (d:=17) (by kernel_rfl) rfl z6 z7 rfl rfl rfl ?_
   refine WD.b (i:=15) (d:=18) (by kernel_rfl) rfl z6 z7 rfl rfl rfl ?_
   refine WD.b (i:=16) (d:=19) (by kernel_rfl) rfl z6 z7 rfl rfl rfl ?_
   refine WD.a (i:=17) (d:=20) (by kernel_rfl) rfl z6 z7 rfl rfl rfl (fun _=>y19 rfl rfl) ?_
   refine WD.yt (.cons .here .nil) ?_ zqb
   exact (.cons rfl (.cons rfl (.cons (zf (Eq.symm zj6)) (.cons (zf (y30 zj6)) .nil))))
 refine WD.d #[true,true,true,true,true,true,true,true,true,true,true,true,true,true,true,true,true,true,false,false,false,false,false,false,false,false,false,false,false] (by kernel_rfl) ?_
 refine WD.a (i:=18) (d:=21) (by kernel_rfl) rfl z6 z7 rfl rfl rfl (fun _=>q_m rfl) ?_
 refine WD.mid (fuel':=1) [(2,(.bool false)),(21,(.bool ((((decide (zG.fD ≥ 1)) && (decide (zG.fD ≤ 1073741824))) && (decide (zG.fN ≥ (-1073741824)))) && (decide (zG.fN ≤ 1073741824))))),(30,(.bool ziZ))] (yC 29 [27,26,25,24,23,22,21,20,19,18,17,16,15,14,13,12,11,10,9,8,7,6,5,4,3,2,1,0]) ?_ (fun zqc=>?_)
 rotate_left
 ·rcases Bool.eq_false_or_eq_true ((((decide (zG.fD ≥ 1)) && (decide (zG.fD ≤ 1073741824))) && (decide (zG.fN ≥ (-1073741824)))) && (decide (zG.fN ≤ 1073741824))) with hb' | hb'
  ·have zj7:=hb'; clear hb'
   have z7d:=yd zq8 zj7
   obtain ⟨zq5,zvw,z7d⟩:=z8 z7d
   obtain ⟨zq6,zvx,z7d⟩:=z8 z7d
   obtain ⟨zq7,zvy,z7d⟩:=z8 z7d
   replace z7d:=Option.some.inj z7d
   refine WD.pin (i:=21) rfl zj7 ?_
   refine WD.a (i:=19) (d:=22) (by kernel_rfl) rfl z6 z7 rfl rfl rfl (fun _=>y4 yL rfl rfl) ?_
   refine WD.e (i:=20) (d:=23) (by kernel_rfl) rfl z6 z7 rfl rfl rfl (yc yr rfl (yp .here rfl)) ?_
   refine WD.c (i:=21) (d:=24) (by kernel_rfl) rfl z6 z7 rfl rfl rfl (za (l:=[.tmp 23]) Tryz.call63 (.cons rfl .nil)) (cc hz .nil fun w pz ho=>y6O _ _ _ zvw w pz ) ?_
   refine WD.a (i:=22) (d:=25) (by kernel_rfl) rfl z6 z7 rfl rfl rfl (fun _=>y4 yN rfl rfl) ?_
   refine WD.e (i:=23) (d:=26) (by kernel_rfl) rfl z6 z7 rfl rfl rfl (yc yr rfl (yp .here rfl)) ?_
   refine WD.c (i:=24) (d:=27) (by kernel_rfl) rfl z6 z7 rfl rfl rfl (za (l:=[.tmp 26]) Tryz.call63 (.cons rfl .nil)) (cc hz .nil fun w pz ho=>y6O _ _ _ zvx w pz ) ?_
   refine WD.c (i:=25) (d:=28) (by kernel_rfl) rfl z6 z7 rfl rfl rfl (za (l:=[.tmp 24,.tmp 27]) Tryz.call62 (.cons rfl (.cons rfl .nil))) (cc hz .nil fun w pz ho=>y79 _ _ _ _ zvy w pz ) ?_
   refine WD.a (i:=26) (d:=29) (by kernel_rfl) rfl z6 z7 rfl rfl rfl (fun _=>y6M rfl rfl) ?_
   refine WD.a (i:=27) (d:=30) (by kernel_rfl) rfl z6 z7 rfl rfl rfl (fun _=>y18 rfl rfl) ?_
   refine WD.yt (.cons .here .nil) ?_ zqc
   exact (.cons rfl (.cons (zf (Eq.symm zj7)) (.cons (zf z7d) .nil)))
  ·have zj8:=hb'; clear hb'
   have zj9:=ye zq8 zj8
   replace zj9:=Option.some.inj zj9
   refine WD.pin (i:=21) rfl zj8 ?_
   refine WD.b (i:=19) (d:=22) (by kernel_rfl) rfl z6 z7 rfl rfl rfl ?_
   refine WD.b (i:=20) (d:=23) (by kernel_rfl) rfl z6 z7 rfl rfl rfl ?_
   refine WD.b (i:=21) (d:=24) (by kernel_rfl) rfl z6 z7 rfl rfl rfl ?_
   refine WD.b (i:=22) (d:=25) (by kernel_rfl) rfl z6 z7 rfl rfl rfl ?_
   refine WD.b (i:=23) (d:=26) (by kernel_rfl) rfl z6 z7 rfl rfl rfl ?_
   refine WD.b (i:=24) (d:=27) (by kernel_rfl) rfl z6 z7 rfl rfl rfl ?_
   refine WD.b (i:=25) (d:=28) (by kernel_rfl) rfl z6 z7 rfl rfl rfl ?_
   refine WD.b (i:=26) (d:=29) (by kernel_rfl) rfl z6 z7 rfl rfl rfl ?_
   refine WD.a (i:=27) (d:=30) (by kernel_rfl) rfl z6 z7 rfl rfl rfl (fun _=>y19 rfl rfl) ?_
   refine WD.yt (.cons .here .nil) ?_ zqc
   exact (.cons rfl (.cons (zf (Eq.symm zj8)) (.cons (zf zj9) .nil)))
 refine WD.d #[true,true,true,true,true,true,true,true,true,true,true,true,true,true,true,true,true,true,true,true,true,true,true,true,true,true,true,true,false] (by kernel_rfl) ?_
 refine WD.a (i:=28) (d:=2) (by kernel_rfl) rfl z6 z7 rfl rfl rfl (fun _=>q_z rfl) ?_
 refine WD.done (by kernel_rfl) ?_
 refine WX.a (WC.ret ?_)
 obtain rfl:=Option.some.inj h
 refine WX.y8 Tryz.results44 (.tmp rfl .nil) (fun w hw=>?_)
 exact ⟨yD rfl,hw.sub .nil⟩
def y3Y (z5a : z1) : Option Bool :=
 (y1m z5a).bind fun zja=>some (zja && (decide (z5a.fN ≥ 0)))
set_option maxRecDepth 20000 in
theorem y7a (Z : Zp)  (z5a : z1) (r : Bool)
  (h : y3Y z5a = some r) (w₀ : World) (hz : PZ [] w₀ Z) :
  Calls Tryz.prog 49 #[(.agg #[(.int .i64 z5a.fN),(.int .i64 z5a.fD)])] w₀ fun e w'=>e = .returned (.bool r) ∧ Hp [] w₀ w' []:=by
 unfold y3Y at h
 refine Calls.yg (vs:=[(.agg #[(.int .i64 z5a.fN),(.int .i64 z5a.fD)])]) (pre:=[]) (env:=[(0,(.agg #[(.int .i64 z5a.fN),(.int .i64 z5a.fD)]))]) Tryz.func49 rfl Tryz.ntmps49 rfl (Hp.nil w₀ _) rfl ?_
 refine WC.b (WC.a ?_)
 refine WL.new (dd:=1) rfl rfl rfl (yx (cs:=[(.int .i64 z5a.fN),(.int .i64 z5a.fD)]) rfl rfl) ?_
 intro zGQ _
 refine WL.pu rfl (WL.nil (WX.a (WC.b ?_)))
 obtain ⟨zja,zvz,h⟩:=z8 h
 refine WC.a ?_
 refine WL.a (d:=3) rfl rfl rfl (y9 y5 rfl (y7 .here) rfl) ?_
 refine WL.b (dd:=4) rfl rfl rfl (za (l:=[.tmp 3]) Tryz.call44 (.cons rfl .nil)) .nil (cc hz .nil fun w pz ho=>y1P _ _ _ zvz w pz ) ?_
 refine WL.pu rfl ?_
 refine WL.seg true 3 5 (B:=zja && (decide (z5a.fN ≥ 0))) rfl rfl rfl rfl rfl rfl (fun h=>(y30 h).symm) (fun _ zvA=>?_) ?_
 ·skip
  refine WL.a (d:=6) rfl rfl rfl (y4 yL rfl rfl) ?_
  refine WL.a (d:=7) rfl rfl rfl (yc yr rfl (yp .here rfl)) ?_
  refine WL.pu rfl (WL.pu rfl ?_)
  exact WL.yw (y31 zvA) rfl rfl .all
 refine WL.pu rfl (WL.nil (WX.a (WC.ret ?_)))
 obtain rfl:=Option.some.inj h
 refine WX.y8 Tryz.results49 (.tmp rfl .nil) (fun w hw=>?_)
 exact ⟨yD rfl,hw.sub .nil⟩
def y3C (z21 : z2) : Option Bool :=
 (y3Y z21.fB).bind fun zqd=>(if !zqd then some true else (y3Y z21.fR).bind fun zqe=>some (!zqe)).bind fun zjb=>some zjb
set_option maxRecDepth 20000 in
theorem y9G (Z : Zp)  (z21 : z2) (r : Bool)
  (h : y3C z21 = some r) (w₀ : World) (hz : PZ [] w₀ Z) :
  Calls Tryz.prog 48 #[(.agg #[(.int .i64 z21.fB.fN),(.int .i64 z21.fB.fD),(.int .i64 z21.fR.fN),(.int .i64 z21.fR.fD)])] w₀ fun e w'=>e = .returned (.bool r) ∧ Hp [] w₀ w' []:=by
 unfold y3C at h
 refine Calls.yg (vs:=[(.agg #[(.int .i64 z21.fB.fN),(.int .i64 z21.fB.fD),(.int .i64 z21.fR.fN),(.int .i64 z21.fR.fD)])]) (pre:=[]) (env:=[(0,(.agg #[(.int .i64 z21.fB.fN),(.int .i64 z21.fB.fD),(.int .i64 z21.fR.fN),(.int .i64 z21.fR.fD)]))]) Tryz.func48 rfl Tryz.ntmps48 rfl (Hp.nil w₀ _) rfl ?_
 refine WC.b (WC.a ?_)
 refine WL.new (dd:=1) rfl rfl rfl (yx (cs:=[(.int .i64 z21.fB.fN),(.int .i64 z21.fB.fD),(.int .i64 z21.fR.fN),(.int .i64 z21.fR.fD)]) rfl rfl) ?_
 intro zGR _
 refine WL.pu rfl (WL.nil (WX.a (WC.b ?_)))
 obtain ⟨zqd,zvB,h⟩:=z8 h
 obtain ⟨zjb,zqf,h⟩:=z8 h
 refine WC.a ?_
 refine WL.a (d:=3) rfl rfl rfl (y4 y2B rfl rfl) ?_
 refine WL.a (d:=4) rfl rfl rfl (ys (cs:=[(.int .i64 z21.fB.fN),(.int .i64 z21.fB.fD)]) y5 rfl rfl (yW (s:=2) .here rfl)) ?_
 refine WL.b (dd:=5) rfl rfl rfl (za (l:=[.tmp 4]) Tryz.call49 (.cons rfl .nil)) .nil (cc hz .nil fun w pz ho=>y7a _ _ _ zvB w pz ) ?_
 refine WL.pu rfl (WL.pu rfl ?_)
 refine WL.seg false 4 7 (B:=zjb) rfl rfl rfl rfl rfl rfl (fun h=>(Option.some.inj (yd zqf h)).symm) (fun _ zvC=>?_) ?_
 ·skip
  have zex:=ye zqf zvC
  obtain ⟨zqe,zvD,zex⟩:=z8 zex
  replace zex:=Option.some.inj zex
  refine WL.a (d:=8) rfl rfl rfl (y4 y2T rfl rfl) ?_
  refine WL.a (d:=9) rfl rfl rfl (ys (cs:=[(.int .i64 z21.fR.fN),(.int .i64 z21.fR.fD)]) y5 rfl rfl (yW (s:=2) .here rfl)) ?_
  refine WL.b (dd:=10) rfl rfl rfl (za (l:=[.tmp 9]) Tryz.call49 (.cons rfl .nil)) .nil (cc hz .nil fun w pz ho=>y7a _ _ _ zvD w pz ) ?_
  refine WL.pu rfl (WL.pu rfl ?_)
  exact WL.yw zex rfl rfl .all
 refine WL.pu rfl (WL.nil (WX.a (WC.ret ?_)))
 obtain rfl:=Option.some.inj h
 refine WX.y8 Tryz.results48 (.tmp rfl .nil) (fun w hw=>?_)
 exact ⟨yD rfl,hw.sub .nil⟩
def yT (z23 : List z2) (z60 : z2 → Option Bool) (z7e : Option Int) : Nat → Int → Option Int
 | 0,_=>none
 | zjc + 1,z2f=>if decide (z2f < ((z23.length : Nat) : Int)) then chk ((0 : Int) ≤ z2f ∧ z2f < ((z23.length : Nat) : Int)) ((z60 (⟨(⟨(((nth z23 z2f).fB).fN),(((nth z23 z2f).fB).fD)⟩ : z1),(⟨(((nth z23 z2f).fR).fN),(((nth z23 z2f).fR).fD)⟩ : z1)⟩ : z2)).bind fun zjd=>if zjd then some z2f else yT z23 z60 z7e zjc (i64 (z2f + 1))) else z7e
theorem y43 {n : Nat} {z23 : List z2} {z60 : z2 → Option Bool} {z7e : Option Int} {z2f : Int} {r : Int} (h : yT z23 z60 z7e n z2f = some r) : ∃ m,n = m + 1:=by
 cases n with
 | zero=>cases h
 | succ m=>exact ⟨m,rfl⟩
def y22 (z23 : List z2) (z60 : z2 → Option Bool) : Option Int :=
 jp0 (some (-1)) fun z7e=>yT z23 z60 z7e yu 0
set_option maxRecDepth 20000 in
theorem y4F (Z : Zp) (zey : Option Addr) (zez : Nat) (z7f : FuncId) (zas : List Value) (z23 : List z2) (z60 : z2 → Option Bool) (r : Int)
  (h : y22 z23 z60 = some r) (w₀ : World) (hz : PZ [] w₀ Z)
  (zvE : ZS Z 4 (fun r x=>r = e54 x) zey zez z23)
  (zvF : ∀ args w,(callFunc z7f args).run Tryz.prog w = .ok (.enter z7f args) w)
  (zvG : ∀ w : World,PZ [] w Z → ∀ (x0 : z2) (r : Bool),z60 x0 = some r → Calls Tryz.prog z7f (([(.agg #[(.int .i64 x0.fB.fN),(.int .i64 x0.fB.fD),(.int .i64 x0.fR.fN),(.int .i64 x0.fR.fD)])] : List Value) ++ zas).toArray w fun e w'=>e = .returned (.bool r) ∧ Hp [] w w' []) :
  Calls Tryz.prog 66 #[(.slice zey z23.length zez),(.func (.func z7f) #[] (zas).toArray)] w₀ fun e w'=>e = .returned (.int .i64 r) ∧ Hp [] w₀ w' []:=by
 unfold y22 at h
 refine Calls.yg (vs:=[(.slice zey z23.length zez),(.func (.func z7f) #[] (zas).toArray)]) (pre:=[]) (env:=[(0,(.slice zey z23.length zez)),(1,(.func (.func z7f) #[] (zas).toArray))]) Tryz.func66 rfl Tryz.ntmps66 rfl (Hp.nil w₀ _) rfl ?_
 refine WC.b (WC.a (WL.pu rfl (WL.nil (WX.a ?_))))
 obtain ⟨z7e,zvH,h⟩:=y3H h
 refine WC.y2J ((z7e = some r)) ([]) ([]) ?_ ?_
 ·skip
  refine WC.b (WC.a (WL.pu rfl ?_))
  refine WL.a (d:=7) rfl rfl rfl (yP Tryz.underlying23 rfl) ?_
  refine WL.pu rfl (WL.nil (WX.a (WC.block ?_)))
  refine WC.y35 (fun (zbS : Nat) (z2f : Int)=>(yT z23 z60 z7e zbS z2f = some r)) (fun (zbS : Nat) (z2f : Int)=>[(0,(.slice zey z23.length zez)),(1,(.func (.func z7f) #[] (zas).toArray)),(7,(.int .i64 ((z23.length : Nat) : Int))),(8,(.int .i64 z2f))]) (fun (zbS : Nat) (z2f : Int)=>[]) (fun (zbS : Nat) (z2f : Int)=>zbS) ⟨yu,0⟩ h (.cons rfl (.cons rfl (.cons rfl (.cons rfl .nil)))) .nil ?_
  rintro zbS z2f h
  obtain ⟨zjc,rfl⟩:=y43 h
  rw [yT] at h
  refine WC.b (WC.a (WL.pu rfl (WL.nil (WX.a (WC.b ?_)))))
  refine WC.cond rfl (fun zje=>?_) (fun zje=>?_)
  ·replace h:=yd h zje
   refine WC.skip (WX.a (WC.b (WC.block (WC.b (WC.a (WL.pu rfl (WL.pu rfl (WL.nil (WX.a (WC.b ?_))))))))))
   obtain ⟨zvI,h⟩:=yj h
   obtain ⟨zjd,zvJ,h⟩:=z8 h
   refine WC.a (WL.pu rfl (WL.pu rfl (WL.pu rfl ?_)))
   refine WL.znth (dd:=14) rfl rfl (Z:=Z) (Pr:=(fun r x=>r = e54 x)) yS rfl rfl zvE zvI ?_
   rintro zGS zGT zvK zGU rfl
   refine WL.a (d:=15) rfl rfl rfl (y9 y1q rfl (y2k hz.pv zvK) rfl) ?_
   refine WL.b (dd:=16) rfl rfl rfl (y3i (l:=[.tmp 15]) (f:=z7f) (caps:=zas) zvF rfl (.cons rfl .nil)) .nil (fun w hw=>zvG w (hz.now hw) (⟨(⟨(((nth z23 z2f).fB).fN),(((nth z23 z2f).fB).fD)⟩ : z1),(⟨(((nth z23 z2f).fR).fN),(((nth z23 z2f).fR).fD)⟩ : z1)⟩ : z2) zjd  zvJ) ?_
   refine WL.nil (WX.a ?_)
   refine WC.cond rfl (fun zjf=>?_) (fun zjf=>?_)
   ·replace h:=yd h zjf
    refine WC.b (WC.a (WL.pu rfl (WL.pu rfl (WL.nil (WX.a (WC.ret (WX.yl (WX.y6 (WX.y6 (WX.yl (WX.y6 ?_)))))))))))
    obtain rfl:=Option.some.inj h
    refine WX.y8 Tryz.results66 (.tmp rfl .nil) (fun w hw=>?_)
    exact ⟨yD rfl,hw.sub .nil⟩
   ·replace h:=ye h zjf
    refine WC.skip (WX.yi (WX.a (WC.a (WL.pu rfl (WL.pu rfl (WL.nil ?_))))))
    exact WX.round (G:=Nat × Int) ⟨zjc,(i64 (z2f + 1))⟩ h (Nat.lt_succ_self _) (.cons rfl (.cons rfl (.cons rfl (.cons rfl .nil)))) .nil
  ·replace h:=ye h zje
   refine WC.exit (WX.yf (WX.yf (WX.yv ?_)))
   exact WX.mid (G:=Unit) () h .nil .nil
 ·rintro  h
  replace h:=zvH.symm.trans h
  refine WC.b (WC.a (WL.pu rfl (WL.nil (WX.a (WC.ret ?_)))))
  obtain rfl:=Option.some.inj h
  refine WX.y8 Tryz.results66 (.tmp rfl .nil) (fun w hw=>?_)
  exact ⟨yD rfl,hw.sub .nil⟩
def y16 (zat : List z2) (zau : z2 → Option Bool) : Option Bool :=
 (y22 zat zau).bind fun zqg=>some (decide (zqg ≥ 0))
set_option maxRecDepth 20000 in
theorem y2W (Z : Zp) (zgI : Option Addr) (zgJ : Nat) (z7g : FuncId) (zav : List Value) (zat : List z2) (zau : z2 → Option Bool) (r : Bool)
  (h : y16 zat zau = some r) (w₀ : World) (hz : PZ [] w₀ Z)
  (zvL : ZS Z 4 (fun r x=>r = e54 x) zgI zgJ zat)
  (zvM : ∀ args w,(callFunc z7g args).run Tryz.prog w = .ok (.enter z7g args) w)
  (zvN : ∀ w : World,PZ [] w Z → ∀ (x0 : z2) (r : Bool),zau x0 = some r → Calls Tryz.prog z7g (([(.agg #[(.int .i64 x0.fB.fN),(.int .i64 x0.fB.fD),(.int .i64 x0.fR.fN),(.int .i64 x0.fR.fD)])] : List Value) ++ zav).toArray w fun e w'=>e = .returned (.bool r) ∧ Hp [] w w' []) :
  Calls Tryz.prog 47 #[(.slice zgI zat.length zgJ),(.func (.func z7g) #[] (zav).toArray)] w₀ fun e w'=>e = .returned (.bool r) ∧ Hp [] w₀ w' []:=by
 unfold y16 at h
 refine Calls.yg (vs:=[(.slice zgI zat.length zgJ),(.func (.func z7g) #[] (zav).toArray)]) (pre:=[]) (env:=[(0,(.slice zgI zat.length zgJ)),(1,(.func (.func z7g) #[] (zav).toArray))]) Tryz.func47 rfl Tryz.ntmps47 rfl (Hp.nil w₀ _) rfl ?_
 refine WC.b (WC.a (WL.pu rfl (WL.nil (WX.a (WC.b ?_)))))
 obtain ⟨zqg,zvO,h⟩:=z8 h
 refine WC.a (WL.pu rfl (WL.pu rfl ?_))
 refine WL.b (dd:=7) rfl rfl rfl (za (l:=[.tmp 5,.tmp 6]) Tryz.call66 (.cons rfl (.cons rfl .nil))) .nil (cc hz .nil fun w pz ho=>y4F _ _ _ (z7f:=z7g) (zas:=zav) _ (z60:=zau) _ zvO w pz zvL zvM zvN) ?_
 refine WL.pu rfl (WL.pu rfl (WL.nil (WX.a (WC.ret ?_))))
 obtain rfl:=Option.some.inj h
 refine WX.y8 Tryz.results47 (.tmp rfl .nil) (fun w hw=>?_)
 exact ⟨yD rfl,hw.sub .nil⟩
def y2K (z61 : List z2) : Option Bool :=
 (if (decide (((z61.length : Nat) : Int) ≥ 1)) && (decide (((z61.length : Nat) : Int) ≤ 32)) then (y16 z61 (fun (y0 : z2)=>y3C y0)).bind fun zqh=>some (!zqh) else some false).bind fun zjg=>some zjg
set_option maxRecDepth 20000 in
theorem y4G (Z : Zp) (zgK : Option Addr) (zgL : Nat) (z61 : List z2) (r : Bool)
  (h : y2K z61 = some r) (w₀ : World) (hz : PZ [] w₀ Z)
  (zvP : ZS Z 4 (fun r x=>r = e54 x) zgK zgL z61) :
  Calls Tryz.prog 21 #[(.slice zgK z61.length zgL)] w₀ fun e w'=>e = .returned (.bool r) ∧ Hp [] w₀ w' []:=by
 unfold y2K at h
 refine Calls.yg (vs:=[(.slice zgK z61.length zgL)]) (pre:=[]) (env:=[(0,(.slice zgK z61.length zgL))]) Tryz.func21 rfl Tryz.ntmps21 rfl (Hp.nil w₀ _) rfl ?_
 refine WC.b (WC.a (WL.pu rfl (WL.nil (WX.a (WC.b ?_)))))
 obtain ⟨zjg,zqi,h⟩:=z8 h
 refine WC.a (WL.pu rfl ?_)
 refine WL.a (d:=4) rfl rfl rfl (yP Tryz.underlying23 rfl) ?_
 refine WL.pu rfl (WL.pu rfl ?_)
 refine WL.seg true 3 6 (B:=(decide (((z61.length : Nat) : Int) ≥ 1)) && (decide (((z61.length : Nat) : Int) ≤ 32))) rfl rfl rfl rfl rfl rfl (fun h=>(y30 h).symm) (fun _ zvQ=>?_) ?_
 ·skip
  refine WL.pu rfl ?_
  refine WL.a (d:=8) rfl rfl rfl (yP Tryz.underlying23 rfl) ?_
  refine WL.pu rfl (WL.pu rfl ?_)
  exact WL.yw (y31 zvQ) rfl rfl .all
 refine WL.pu rfl ?_
 refine WL.seg true 3 11 (B:=zjg) rfl rfl rfl rfl rfl rfl (fun h=>(Option.some.inj (ye zqi h)).symm) (fun _ zvR=>?_) ?_
 ·skip
  have zeA:=yd zqi zvR
  obtain ⟨zqh,zvS,zeA⟩:=z8 zeA
  replace zeA:=Option.some.inj zeA
  refine WL.pu rfl ?_
  refine WL.b (dd:=13) rfl rfl rfl (za (l:=[.tmp 12,.func 48]) Tryz.call47 (.cons rfl (.cons rfl .nil))) .nil (cc hz .nil fun w pz ho=>y2W _ _ _ (z7g:=48) (zav:=[]) _ (zau:=(fun (y0 : z2)=>y3C y0)) _ zvS w pz zvP Tryz.call48 (fun w' hz' y0  r  hr=>y9G _ _ _ hr w' hz' )) ?_
  refine WL.pu rfl (WL.pu rfl ?_)
  exact WL.yw zeA rfl rfl .all
 refine WL.pu rfl (WL.nil (WX.a (WC.ret ?_)))
 obtain rfl:=Option.some.inj h
 refine WX.y8 Tryz.results21 (.tmp rfl .nil) (fun w hw=>?_)
 exact ⟨yD rfl,hw.sub .nil⟩
def y17 (zaw : List z2) : Option Bool :=
 (y2K zaw).bind fun zqj=>some (!zqj)
set_option maxRecDepth 20000 in
theorem y4S (Z : Zp) (zgM : Option Addr) (zgN : Nat) (zaw : List z2) (r : Bool)
  (h : y17 zaw = some r) (w₀ : World) (hz : PZ [] w₀ Z)
  (zvT : ZS Z 4 (fun r x=>r = e54 x) zgM zgN zaw) :
  Calls Tryz.prog 75 #[(.slice zgM zaw.length zgN)] w₀ fun e w'=>e = .returned (.bool r) ∧ Hp [] w₀ w' []:=by
 unfold y17 at h
 refine Calls.yg (vs:=[(.slice zgM zaw.length zgN)]) (pre:=[]) (env:=[(0,(.slice zgM zaw.length zgN))]) Tryz.func75 rfl Tryz.ntmps75 rfl (Hp.nil w₀ _) rfl ?_
 refine WC.b (WC.a (WL.pu rfl (WL.nil (WX.a (WC.b ?_)))))
 obtain ⟨zqj,zvU,h⟩:=z8 h
 refine WC.a (WL.pu rfl ?_)
 refine WL.b (dd:=4) rfl rfl rfl (za (l:=[.tmp 3]) Tryz.call21 (.cons rfl .nil)) .nil (cc hz .nil fun w pz ho=>y4G _ _ _ _ _ zvU w pz zvT) ?_
 refine WL.pu rfl (WL.pu rfl (WL.nil (WX.a (WC.ret ?_))))
 obtain rfl:=Option.some.inj h
 refine WX.y8 Tryz.results75 (.tmp rfl .nil) (fun w hw=>?_)
 exact ⟨yD rfl,hw.sub .nil⟩
def yI (z3w : List (List z2)) (z62 : (List z2) → Option Bool) (z7h : Option Int) : Nat → Int → Option Int
 | 0,_=>none
 | zjh + 1,z3G=>if decide (z3G < ((z3w.length : Nat) : Int)) then chk ((0 : Int) ≤ z3G ∧ z3G < ((z3w.length : Nat) : Int)) ((z62 (nth z3w z3G)).bind fun zji=>if zji then some z3G else yI z3w z62 z7h zjh (i64 (z3G + 1))) else z7h
theorem y44 {n : Nat} {z3w : List (List z2)} {z62 : (List z2) → Option Bool} {z7h : Option Int} {z3G : Int} {r : Int} (h : yI z3w z62 z7h n z3G = some r) : ∃ m,n = m + 1:=by
 cases n with
 | zero=>cases h
 | succ m=>exact ⟨m,rfl⟩
def y1E (z3w : List (List z2)) (z62 : (List z2) → Option Bool) : Option Int :=
 jp0 (some (-1)) fun z7h=>yI z3w z62 z7h yu 0
set_option maxRecDepth 20000 in
theorem y4M (Z : Zp) (zeB : Option Addr) (zeC : Nat) (z7i : FuncId) (zax : List Value) (z3w : List (List z2)) (z62 : (List z2) → Option Bool) (r : Int)
  (h : y1E z3w z62 = some r) (w₀ : World) (hz : PZ [] w₀ Z)
  (zvV : ZS Z 1 (p23 Z) zeB zeC z3w)
  (zvW : ∀ args w,(callFunc z7i args).run Tryz.prog w = .ok (.enter z7i args) w)
  (zvX : ∀ w : World,PZ [] w Z → ∀ (x0 : List z2) (ao0 : Option Addr) (cap0 : Nat) (r : Bool),ZS Z 4 (fun r x=>r = e54 x) ao0 cap0 x0 → z62 x0 = some r → Calls Tryz.prog z7i (([(.slice ao0 x0.length cap0)] : List Value) ++ zax).toArray w fun e w'=>e = .returned (.bool r) ∧ Hp [] w w' []) :
  Calls Tryz.prog 83 #[(.slice zeB z3w.length zeC),(.func (.func z7i) #[] (zax).toArray)] w₀ fun e w'=>e = .returned (.int .i64 r) ∧ Hp [] w₀ w' []:=by
 unfold y1E at h
 refine Calls.yg (vs:=[(.slice zeB z3w.length zeC),(.func (.func z7i) #[] (zax).toArray)]) (pre:=[]) (env:=[(0,(.slice zeB z3w.length zeC)),(1,(.func (.func z7i) #[] (zax).toArray))]) Tryz.func83 rfl Tryz.ntmps83 rfl (Hp.nil w₀ _) rfl ?_
 refine WC.b (WC.a (WL.pu rfl (WL.nil (WX.a ?_))))
 obtain ⟨z7h,zvY,h⟩:=y3H h
 refine WC.y2J ((z7h = some r)) ([]) ([]) ?_ ?_
 ·skip
  refine WC.b (WC.a (WL.pu rfl ?_))
  refine WL.a (d:=7) rfl rfl rfl (yP Tryz.underlying38 rfl) ?_
  refine WL.pu rfl (WL.nil (WX.a (WC.block ?_)))
  refine WC.y35 (fun (zbT : Nat) (z3G : Int)=>(yI z3w z62 z7h zbT z3G = some r)) (fun (zbT : Nat) (z3G : Int)=>[(0,(.slice zeB z3w.length zeC)),(1,(.func (.func z7i) #[] (zax).toArray)),(7,(.int .i64 ((z3w.length : Nat) : Int))),(8,(.int .i64 z3G))]) (fun (zbT : Nat) (z3G : Int)=>[]) (fun (zbT : Nat) (z3G : Int)=>zbT) ⟨yu,0⟩ h (.cons rfl (.cons rfl (.cons rfl (.cons rfl .nil)))) .nil ?_
  rintro zbT z3G h
  obtain ⟨zjh,rfl⟩:=y44 h
  rw [yI] at h
  refine WC.b (WC.a (WL.pu rfl (WL.nil (WX.a (WC.b ?_)))))
  refine WC.cond rfl (fun zjj=>?_) (fun zjj=>?_)
  ·replace h:=yd h zjj
   refine WC.skip (WX.a (WC.b (WC.block (WC.b (WC.a (WL.pu rfl (WL.pu rfl (WL.nil (WX.a (WC.b ?_))))))))))
   obtain ⟨zvZ,h⟩:=yj h
   obtain ⟨zji,zw0,h⟩:=z8 h
   refine WC.a (WL.pu rfl (WL.pu rfl (WL.pu rfl ?_)))
   refine WL.znth (dd:=14) rfl rfl (Z:=Z) (Pr:=(p23 Z)) y3X rfl rfl zvV zvZ ?_
   rintro zGV zGW zw1 zGX ⟨zw2,zw3,rfl,zw4⟩
   refine WL.a (d:=15) rfl rfl rfl (yc y3S rfl (y4X hz.pv zw1 rfl)) ?_
   refine WL.b (dd:=16) rfl rfl rfl (y3i (l:=[.tmp 15]) (f:=z7i) (caps:=zax) zvW rfl (.cons rfl .nil)) .nil (fun w hw=>zvX w (hz.now hw) (nth z3w z3G) zw2 zw3 zji zw4 zw0) ?_
   refine WL.nil (WX.a ?_)
   refine WC.cond rfl (fun zjk=>?_) (fun zjk=>?_)
   ·replace h:=yd h zjk
    refine WC.b (WC.a (WL.pu rfl (WL.pu rfl (WL.nil (WX.a (WC.ret (WX.yl (WX.y6 (WX.y6 (WX.yl (WX.y6 ?_)))))))))))
    obtain rfl:=Option.some.inj h
    refine WX.y8 Tryz.results83 (.tmp rfl .nil) (fun w hw=>?_)
    exact ⟨yD rfl,hw.sub .nil⟩
   ·replace h:=ye h zjk
    refine WC.skip (WX.yi (WX.a (WC.a (WL.pu rfl (WL.pu rfl (WL.nil ?_))))))
    exact WX.round (G:=Nat × Int) ⟨zjh,(i64 (z3G + 1))⟩ h (Nat.lt_succ_self _) (.cons rfl (.cons rfl (.cons rfl (.cons rfl .nil)))) .nil
  ·replace h:=ye h zjj
   refine WC.exit (WX.yf (WX.yf (WX.yv ?_)))
   exact WX.mid (G:=Unit) () h .nil .nil
 ·rintro  h
  replace h:=zvY.symm.trans h
  refine WC.b (WC.a (WL.pu rfl (WL.nil (WX.a (WC.ret ?_)))))
  obtain rfl:=Option.some.inj h
  refine WX.y8 Tryz.results83 (.tmp rfl .nil) (fun w hw=>?_)
  exact ⟨yD rfl,hw.sub .nil⟩
def yV (zay : List (List z2)) (zaz : (List z2) → Option Bool) : Option Bool :=
 (y1E zay zaz).bind fun zqk=>some (decide (zqk ≥ 0))
set_option maxRecDepth 20000 in
theorem y34 (Z : Zp) (zgO : Option Addr) (zgP : Nat) (z7j : FuncId) (zaA : List Value) (zay : List (List z2)) (zaz : (List z2) → Option Bool) (r : Bool)
  (h : yV zay zaz = some r) (w₀ : World) (hz : PZ [] w₀ Z)
  (zw5 : ZS Z 1 (p23 Z) zgO zgP zay)
  (zw6 : ∀ args w,(callFunc z7j args).run Tryz.prog w = .ok (.enter z7j args) w)
  (zw7 : ∀ w : World,PZ [] w Z → ∀ (x0 : List z2) (ao0 : Option Addr) (cap0 : Nat) (r : Bool),ZS Z 4 (fun r x=>r = e54 x) ao0 cap0 x0 → zaz x0 = some r → Calls Tryz.prog z7j (([(.slice ao0 x0.length cap0)] : List Value) ++ zaA).toArray w fun e w'=>e = .returned (.bool r) ∧ Hp [] w w' []) :
  Calls Tryz.prog 74 #[(.slice zgO zay.length zgP),(.func (.func z7j) #[] (zaA).toArray)] w₀ fun e w'=>e = .returned (.bool r) ∧ Hp [] w₀ w' []:=by
 unfold yV at h
 refine Calls.yg (vs:=[(.slice zgO zay.length zgP),(.func (.func z7j) #[] (zaA).toArray)]) (pre:=[]) (env:=[(0,(.slice zgO zay.length zgP)),(1,(.func (.func z7j) #[] (zaA).toArray))]) Tryz.func74 rfl Tryz.ntmps74 rfl (Hp.nil w₀ _) rfl ?_
 refine WC.b (WC.a (WL.pu rfl (WL.nil (WX.a (WC.b ?_)))))
 obtain ⟨zqk,zw8,h⟩:=z8 h
 refine WC.a (WL.pu rfl (WL.pu rfl ?_))
 refine WL.b (dd:=7) rfl rfl rfl (za (l:=[.tmp 5,.tmp 6]) Tryz.call83 (.cons rfl (.cons rfl .nil))) .nil (cc hz .nil fun w pz ho=>y4M _ _ _ (z7i:=z7j) (zax:=zaA) _ (z62:=zaz) _ zw8 w pz zw5 zw6 zw7) ?_
 refine WL.pu rfl (WL.pu rfl (WL.nil (WX.a (WC.ret ?_))))
 obtain rfl:=Option.some.inj h
 refine WX.y8 Tryz.results74 (.tmp rfl .nil) (fun w hw=>?_)
 exact ⟨yD rfl,hw.sub .nil⟩
def y1Y (z1B : S41) : Option Bool :=
 (y1m z1B.fR).bind fun zjl=>(if zjl && (decide (z1B.fR.fN > 0)) then (y1m z1B.fL).bind fun zql=>some zql else some false).bind fun zgQ=>some (zgQ && (decide (z1B.fL.fN ≥ 0)))
set_option maxRecDepth 20000 in
theorem y3Z (Z : Zp)  (z1B : S41) (r : Bool)
  (h : y1Y z1B = some r) (w₀ : World) (hz : PZ [] w₀ Z) :
  Calls Tryz.prog 17 #[(.agg #[(.int .i64 z1B.fR.fN),(.int .i64 z1B.fR.fD),(.int .i64 z1B.fL.fN),(.int .i64 z1B.fL.fD)])] w₀ fun e w'=>e = .returned (.bool r) ∧ Hp [] w₀ w' []:=by
 unfold y1Y at h
 refine Calls.yg (vs:=[(.agg #[(.int .i64 z1B.fR.fN),(.int .i64 z1B.fR.fD),(.int .i64 z1B.fL.fN),(.int .i64 z1B.fL.fD)])]) (pre:=[]) (env:=[(0,(.agg #[(.int .i64 z1B.fR.fN),(.int .i64 z1B.fR.fD),(.int .i64 z1B.fL.fN),(.int .i64 z1B.fL.fD)]))]) Tryz.func17 rfl Tryz.ntmps17 rfl (Hp.nil w₀ _) rfl ?_
 refine WC.b (WC.a ?_)
 refine WL.new (dd:=1) rfl rfl rfl (yx (cs:=[(.int .i64 z1B.fR.fN),(.int .i64 z1B.fR.fD),(.int .i64 z1B.fL.fN),(.int .i64 z1B.fL.fD)]) rfl rfl) ?_
 intro zGY _
 refine WL.pu rfl (WL.nil (WX.a (WC.b ?_)))
 obtain ⟨zjl,zw9,h⟩:=z8 h
 obtain ⟨zgQ,zqm,h⟩:=z8 h
 refine WC.a ?_
 refine WL.a (d:=3) rfl rfl rfl (y4 y2U rfl rfl) ?_
 refine WL.a (d:=4) rfl rfl rfl (ys (cs:=[(.int .i64 z1B.fR.fN),(.int .i64 z1B.fR.fD)]) y5 rfl rfl (yW (s:=2) .here rfl)) ?_
 refine WL.b (dd:=5) rfl rfl rfl (za (l:=[.tmp 4]) Tryz.call44 (.cons rfl .nil)) .nil (cc hz .nil fun w pz ho=>y1P _ _ _ zw9 w pz ) ?_
 refine WL.pu rfl ?_
 refine WL.seg true 4 6 (B:=zjl && (decide (z1B.fR.fN > 0))) rfl rfl rfl rfl rfl rfl (fun h=>(y30 h).symm) (fun _ zwa=>?_) ?_
 ·skip
  refine WL.a (d:=7) rfl rfl rfl (y4 y2U rfl rfl) ?_
  refine WL.a (d:=8) rfl rfl rfl (y4 yL rfl rfl) ?_
  refine WL.a (d:=9) rfl rfl rfl (yc yr rfl (yp .here rfl)) ?_
  refine WL.pu rfl (WL.pu rfl ?_)
  exact WL.yw (y31 zwa) rfl rfl .all
 refine WL.pu rfl ?_
 refine WL.seg true 3 12 (B:=zgQ) rfl rfl rfl rfl rfl rfl (fun h=>(Option.some.inj (ye zqm h)).symm) (fun _ zwb=>?_) ?_
 ·skip
  have zeD:=yd zqm zwb
  obtain ⟨zql,zwc,zeD⟩:=z8 zeD
  replace zeD:=Option.some.inj zeD
  refine WL.a (d:=13) rfl rfl rfl (y4 y3r rfl rfl) ?_
  refine WL.a (d:=14) rfl rfl rfl (ys (cs:=[(.int .i64 z1B.fL.fN),(.int .i64 z1B.fL.fD)]) y5 rfl rfl (yW (s:=2) .here rfl)) ?_
  refine WL.b (dd:=15) rfl rfl rfl (za (l:=[.tmp 14]) Tryz.call44 (.cons rfl .nil)) .nil (cc hz .nil fun w pz ho=>y1P _ _ _ zwc w pz ) ?_
  refine WL.pu rfl ?_
  exact WL.yw zeD rfl rfl .all
 refine WL.pu rfl ?_
 refine WL.seg true 4 17 (B:=zgQ && (decide (z1B.fL.fN ≥ 0))) rfl rfl rfl rfl rfl rfl (fun h=>(y30 h).symm) (fun _ zwd=>?_) ?_
 ·skip
  refine WL.a (d:=18) rfl rfl rfl (y4 y3r rfl rfl) ?_
  refine WL.a (d:=19) rfl rfl rfl (y4 yL rfl rfl) ?_
  refine WL.a (d:=20) rfl rfl rfl (yc yr rfl (yp .here rfl)) ?_
  refine WL.pu rfl (WL.pu rfl ?_)
  exact WL.yw (y31 zwd) rfl rfl .all
 refine WL.pu rfl (WL.nil (WX.a (WC.ret ?_)))
 obtain rfl:=Option.some.inj h
 refine WX.y8 Tryz.results17 (.tmp rfl .nil) (fun w hw=>?_)
 exact ⟨yD rfl,hw.sub .nil⟩
def y13 (zaB : Int) : Option z1 :=
 some (⟨zaB,1⟩ : z1)
set_option maxRecDepth 20000 in
theorem y1Z (Z : Zp)  (zaB : Int) (r : z1)
  (h : y13 zaB = some r) (w₀ : World) (hz : PZ [] w₀ Z) :
  Calls Tryz.prog 68 #[(.int .i64 zaB)] w₀ fun e w'=>e = .returned (.agg #[(.int .i64 r.fN),(.int .i64 r.fD)]) ∧ Hp [] w₀ w' []:=by
 unfold y13 at h
 refine Calls.yg (vs:=[(.int .i64 zaB)]) (pre:=[]) (env:=[(0,(.int .i64 zaB))]) Tryz.func68 rfl Tryz.ntmps68 rfl (Hp.nil w₀ _) rfl ?_
 refine WC.b (WC.a ?_)
 refine WL.new (dd:=2) rfl rfl rfl (yk (cs:=[(.int .i64 0),(.int .i64 0)]) yo rfl) ?_
 intro zGZ _
 refine WL.nil (WX.a (WC.b (WC.a (WL.pu rfl ?_))))
 refine WL.a (d:=4) rfl rfl rfl (yz (v:=(.agg #[(.int .i64 zaB),(.int .i64 1)])) (Eos.parts (l:=[.tmp 3,.const (.int .i64 1)]) (.cons rfl (.cons rfl .nil)) [0,1]) (fun _=>by kernel_rfl)) ?_
 refine WL.yb rfl rfl (ya yh rfl rfl rfl .here rfl rfl rfl) ?_
 refine WL.nil (WX.a (WC.ret ?_))
 obtain rfl:=Option.some.inj h
 refine WX.y8 Tryz.results68 (.agg rfl y5 rfl (y7 .here) .nil) (fun w hw=>?_)
 exact ⟨yD rfl,hw.sub .nil⟩
def y1U  : Option z1 :=
 (y13 0).bind fun zqn=>some zqn
set_option maxRecDepth 20000 in
theorem y37 (Z : Zp)  (r : z1)
  (h : y1U = some r) (w₀ : World) (hz : PZ [] w₀ Z) :
  Calls Tryz.prog 52 #[] w₀ fun e w'=>e = .returned (.agg #[(.int .i64 r.fN),(.int .i64 r.fD)]) ∧ Hp [] w₀ w' []:=by
 unfold y1U at h
 refine Calls.yg (vs:=[]) (pre:=[]) (env:=[]) Tryz.func52 rfl Tryz.ntmps52 rfl (Hp.nil w₀ _) rfl ?_
 refine WC.b (WC.a ?_)
 refine WL.new (dd:=0) rfl rfl rfl (yk (cs:=[(.int .i64 0),(.int .i64 0)]) yo rfl) ?_
 intro zH0 _
 refine WL.nil (WX.a (WC.b ?_))
 obtain ⟨zqn,zwe,h⟩:=z8 h
 refine WC.a ?_
 refine WL.b (dd:=1) rfl rfl rfl (za (l:=[.const (.int .i64 0)]) Tryz.call68 (.cons rfl .nil)) .nil (cc hz .nil fun w pz ho=>y1Z _ _ _ zwe w pz ) ?_
 refine WL.yb rfl rfl (ya yh rfl rfl rfl .here rfl rfl rfl) ?_
 refine WL.nil (WX.a (WC.ret ?_))
 obtain rfl:=Option.some.inj h
 refine WX.y8 Tryz.results52 (.agg rfl y5 rfl (y7 .here) .nil) (fun w hw=>?_)
 exact ⟨yD rfl,hw.sub .nil⟩
def yZ (z24 : List z2) (z1r : z2) (z7k : Option Int) : Nat → Int → Option Int
 | 0,_=>none
 | zjm + 1,z2g=>if decide (z2g < ((z24.length : Nat) : Int)) then chk ((0 : Int) ≤ z2g ∧ z2g < ((z24.length : Nat) : Int)) (if decide (z1r = (⟨(⟨(((nth z24 z2g).fB).fN),(((nth z24 z2g).fB).fD)⟩ : z1),(⟨(((nth z24 z2g).fR).fN),(((nth z24 z2g).fR).fD)⟩ : z1)⟩ : z2)) then some z2g else yZ z24 z1r z7k zjm (i64 (z2g + 1))) else z7k
theorem y4l {n : Nat} {z24 : List z2} {z1r : z2} {z7k : Option Int} {z2g : Int} {r : Int} (h : yZ z24 z1r z7k n z2g = some r) : ∃ m,n = m + 1:=by
 cases n with
 | zero=>cases h
 | succ m=>exact ⟨m,rfl⟩
def y2l (z24 : List z2) (z1r : z2) : Option Int :=
 jp0 (some (-1)) fun z7k=>yZ z24 z1r z7k yu 0
set_option maxRecDepth 20000 in
theorem y5c (Z : Zp) (zeE : Option Addr) (zeF : Nat) (z24 : List z2) (z1r : z2) (r : Int)
  (h : y2l z24 z1r = some r) (w₀ : World) (hz : PZ [] w₀ Z)
  (zwf : ZS Z 4 (fun r x=>r = e54 x) zeE zeF z24) :
  Calls Tryz.prog 99 #[(.slice zeE z24.length zeF),(.agg #[(.int .i64 z1r.fB.fN),(.int .i64 z1r.fB.fD),(.int .i64 z1r.fR.fN),(.int .i64 z1r.fR.fD)])] w₀ fun e w'=>e = .returned (.int .i64 r) ∧ Hp [] w₀ w' []:=by
 unfold y2l at h
 refine Calls.yg (vs:=[(.slice zeE z24.length zeF),(.agg #[(.int .i64 z1r.fB.fN),(.int .i64 z1r.fB.fD),(.int .i64 z1r.fR.fN),(.int .i64 z1r.fR.fD)])]) (pre:=[]) (env:=[(0,(.slice zeE z24.length zeF)),(1,(.agg #[(.int .i64 z1r.fB.fN),(.int .i64 z1r.fB.fD),(.int .i64 z1r.fR.fN),(.int .i64 z1r.fR.fD)]))]) Tryz.func99 rfl Tryz.ntmps99 rfl (Hp.nil w₀ _) rfl ?_
 refine WC.b (WC.a ?_)
 refine WL.new (dd:=3) rfl rfl rfl (yx (cs:=[(.int .i64 z1r.fB.fN),(.int .i64 z1r.fB.fD),(.int .i64 z1r.fR.fN),(.int .i64 z1r.fR.fD)]) rfl rfl) ?_
 intro zqo _
 refine WL.pu rfl (WL.nil (WX.a ?_))
 obtain ⟨z7k,zwg,h⟩:=y3H h
 refine WC.y2J ((z7k = some r)) ([]) ([]) ?_ ?_
 ·skip
  refine WC.b (WC.a (WL.pu rfl ?_))
  refine WL.a (d:=7) rfl rfl rfl (yP Tryz.underlying23 rfl) ?_
  refine WL.pu rfl (WL.nil (WX.a (WC.block ?_)))
  refine WC.y35 (fun (zbU : Nat) (z2g : Int)=>(yZ z24 z1r z7k zbU z2g = some r)) (fun (zbU : Nat) (z2g : Int)=>[(0,(.slice zeE z24.length zeF)),(3,(.pointer (some ⟨zqo,0,none⟩))),(7,(.int .i64 ((z24.length : Nat) : Int))),(8,(.int .i64 z2g))]) (fun (zbU : Nat) (z2g : Int)=>[stb zqo 54 [(.int .i64 z1r.fB.fN),(.int .i64 z1r.fB.fD),(.int .i64 z1r.fR.fN),(.int .i64 z1r.fR.fD)]]) (fun (zbU : Nat) (z2g : Int)=>zbU) ⟨yu,0⟩ h (.cons rfl (.cons rfl (.cons rfl (.cons rfl .nil)))) (.cons .here .nil) ?_
  rintro zbU z2g h
  obtain ⟨zjm,rfl⟩:=y4l h
  rw [yZ] at h
  refine WC.b (WC.a (WL.pu rfl (WL.nil (WX.a (WC.b ?_)))))
  refine WC.cond rfl (fun zjn=>?_) (fun zjn=>?_)
  ·replace h:=yd h zjn
   refine WC.skip (WX.a (WC.b (WC.block (WC.b (WC.a (WL.pu rfl (WL.pu rfl (WL.nil (WX.a (WC.b ?_))))))))))
   obtain ⟨zwh,h⟩:=yj h
   refine WC.yH (fun i=>[].contains i) [] rfl ?_
   refine WD.e (i:=0) (d:=11) (by kernel_rfl) rfl z6 z7 rfl rfl rfl (y9 y1q rfl (y7 .here) rfl) ?_
   refine WD.a (i:=1) (d:=12) (by kernel_rfl) rfl z6 z7 rfl rfl rfl (fun _=>q_m rfl) ?_
   refine WD.a (i:=2) (d:=13) (by kernel_rfl) rfl z6 z7 rfl rfl rfl (fun _=>q_m rfl) ?_
   refine WD.znth (j:=3) (dd:=14) (by kernel_rfl) rfl z6 z7 rfl rfl (Z:=Z) (Pr:=(fun r x=>r = e54 x)) yS rfl rfl zwf zwh ?_
   rintro zH1 zH2 zwi zH3 rfl
   refine WD.e (i:=4) (d:=15) (by kernel_rfl) rfl z6 z7 rfl rfl rfl (y9 y1q rfl (y2k hz.pv zwi) rfl) ?_
   refine WD.a (i:=5) (d:=16) (by kernel_rfl) rfl z6 z7 rfl rfl rfl (fun _=>y4j (enc:=e54) (a:=z1r) (b:=(⟨(⟨(((nth z24 z2g).fB).fN),(((nth z24 z2g).fB).fD)⟩ : z1),(⟨(((nth z24 z2g).fR).fN),(((nth z24 z2g).fR).fD)⟩ : z1)⟩ : z2)) yaW rfl rfl) ?_
   refine WD.done (by kernel_rfl) ?_
   refine WX.a ?_
   refine WC.cond rfl (fun zjo=>?_) (fun zjo=>?_)
   ·replace h:=yd h zjo
    refine WC.b (WC.a (WL.pu rfl (WL.pu rfl (WL.nil (WX.a (WC.ret (WX.yl (WX.y6 (WX.y6 (WX.yl (WX.y6 ?_)))))))))))
    obtain rfl:=Option.some.inj h
    refine WX.y8 Tryz.results99 (.tmp rfl .nil) (fun w hw=>?_)
    exact ⟨yD rfl,hw.sub .nil⟩
   ·replace h:=ye h zjo
    refine WC.skip (WX.yi (WX.a (WC.a (WL.pu rfl (WL.pu rfl (WL.nil ?_))))))
    exact WX.round (G:=Nat × Int) ⟨zjm,(i64 (z2g + 1))⟩ h (Nat.lt_succ_self _) (.cons rfl (.cons rfl (.cons rfl (.cons rfl .nil)))) (.cons .here .nil)
  ·replace h:=ye h zjn
   refine WC.exit (WX.yf (WX.yf (WX.yv ?_)))
   exact WX.mid (G:=Unit) () h .nil .nil
 ·rintro  h
  replace h:=zwg.symm.trans h
  refine WC.b (WC.a (WL.pu rfl (WL.nil (WX.a (WC.ret ?_)))))
  obtain rfl:=Option.some.inj h
  refine WX.y8 Tryz.results99 (.tmp rfl .nil) (fun w hw=>?_)
  exact ⟨yD rfl,hw.sub .nil⟩
def y1F (zaC : List z2) (z3e : z2) : Option Bool :=
 (y2l zaC z3e).bind fun zqp=>some (decide (zqp ≥ 0))
set_option maxRecDepth 20000 in
theorem y4N (Z : Zp) (zgR : Option Addr) (zgS : Nat) (zaC : List z2) (z3e : z2) (r : Bool)
  (h : y1F zaC z3e = some r) (w₀ : World) (hz : PZ [] w₀ Z)
  (zwj : ZS Z 4 (fun r x=>r = e54 x) zgR zgS zaC) :
  Calls Tryz.prog 91 #[(.slice zgR zaC.length zgS),(.agg #[(.int .i64 z3e.fB.fN),(.int .i64 z3e.fB.fD),(.int .i64 z3e.fR.fN),(.int .i64 z3e.fR.fD)])] w₀ fun e w'=>e = .returned (.bool r) ∧ Hp [] w₀ w' []:=by
 unfold y1F at h
 refine Calls.yg (vs:=[(.slice zgR zaC.length zgS),(.agg #[(.int .i64 z3e.fB.fN),(.int .i64 z3e.fB.fD),(.int .i64 z3e.fR.fN),(.int .i64 z3e.fR.fD)])]) (pre:=[]) (env:=[(0,(.slice zgR zaC.length zgS)),(1,(.agg #[(.int .i64 z3e.fB.fN),(.int .i64 z3e.fB.fD),(.int .i64 z3e.fR.fN),(.int .i64 z3e.fR.fD)]))]) Tryz.func91 rfl Tryz.ntmps91 rfl (Hp.nil w₀ _) rfl ?_
 refine WC.b (WC.a ?_)
 refine WL.new (dd:=3) rfl rfl rfl (yx (cs:=[(.int .i64 z3e.fB.fN),(.int .i64 z3e.fB.fD),(.int .i64 z3e.fR.fN),(.int .i64 z3e.fR.fD)]) rfl rfl) ?_
 intro zH4 _
 refine WL.pu rfl (WL.nil (WX.a (WC.b ?_)))
 obtain ⟨zqp,zwk,h⟩:=z8 h
 refine WC.a (WL.pu rfl ?_)
 refine WL.a (d:=6) rfl rfl rfl (y9 y1q rfl (y7 .here) rfl) ?_
 refine WL.b (dd:=7) rfl rfl rfl (za (l:=[.tmp 5,.tmp 6]) Tryz.call99 (.cons rfl (.cons rfl .nil))) .nil (cc hz .nil fun w pz ho=>y5c _ _ _ _ _ _ zwk w pz zwj) ?_
 refine WL.pu rfl (WL.pu rfl (WL.nil (WX.a (WC.ret ?_))))
 obtain rfl:=Option.some.inj h
 refine WX.y8 Tryz.results91 (.tmp rfl .nil) (fun w hw=>?_)
 exact ⟨yD rfl,hw.sub .nil⟩
def yM (z4f : z1) (z4g : z1) : Option Int :=
 (y1m z4f).bind fun zqq=>(if !zqq then some true else (y1m z4g).bind fun zqr=>some (!zqr)).bind fun zjp=>if zjp then some 0 else if decide ((i64 (z4f.fN * z4g.fD)) < (i64 (z4g.fN * z4f.fD))) then some (-1) else if decide ((i64 (z4f.fN * z4g.fD)) > (i64 (z4g.fN * z4f.fD))) then some 1 else some 0
set_option maxRecDepth 20000 in
theorem y2w (Z : Zp)  (z4f : z1) (z4g : z1) (r : Int)
  (h : yM z4f z4g = some r) (w₀ : World) (hz : PZ [] w₀ Z) :
  Calls Tryz.prog 24 #[(.agg #[(.int .i64 z4f.fN),(.int .i64 z4f.fD)]),(.agg #[(.int .i64 z4g.fN),(.int .i64 z4g.fD)])] w₀ fun e w'=>e = .returned (.int .i64 r) ∧ Hp [] w₀ w' []:=by
 unfold yM at h
 refine Calls.yg (vs:=[(.agg #[(.int .i64 z4f.fN),(.int .i64 z4f.fD)]),(.agg #[(.int .i64 z4g.fN),(.int .i64 z4g.fD)])]) (pre:=[]) (env:=[(0,(.agg #[(.int .i64 z4f.fN),(.int .i64 z4f.fD)])),(1,(.agg #[(.int .i64 z4g.fN),(.int .i64 z4g.fD)]))]) Tryz.func24 rfl Tryz.ntmps24 rfl (Hp.nil w₀ _) rfl ?_
 refine WC.b (WC.a ?_)
 refine WL.new (dd:=2) rfl rfl rfl (yx (cs:=[(.int .i64 z4f.fN),(.int .i64 z4f.fD)]) rfl rfl) ?_
 intro zH5 _
 refine WL.new (dd:=3) rfl rfl rfl (yx (cs:=[(.int .i64 z4g.fN),(.int .i64 z4g.fD)]) rfl rfl) ?_
 intro zH6 _
 refine WL.pu rfl (WL.nil (WX.a (WC.b (WC.b ?_))))
 obtain ⟨zqq,zwl,h⟩:=z8 h
 obtain ⟨zjp,zqs,h⟩:=z8 h
 refine WC.a ?_
 refine WL.a (d:=7) rfl rfl rfl (y9 y5 rfl (y7 .h1) rfl) ?_
 refine WL.b (dd:=8) rfl rfl rfl (za (l:=[.tmp 7]) Tryz.call44 (.cons rfl .nil)) .nil (cc hz .nil fun w pz ho=>y1P _ _ _ zwl w pz ) ?_
 refine WL.pu rfl (WL.pu rfl ?_)
 refine WL.seg false 3 10 (B:=zjp) rfl rfl rfl rfl rfl rfl (fun h=>(Option.some.inj (yd zqs h)).symm) (fun _ zwm=>?_) ?_
 ·skip
  have zeG:=ye zqs zwm
  obtain ⟨zqr,zwn,zeG⟩:=z8 zeG
  replace zeG:=Option.some.inj zeG
  refine WL.a (d:=11) rfl rfl rfl (y9 y5 rfl (y7 .here) rfl) ?_
  refine WL.b (dd:=12) rfl rfl rfl (za (l:=[.tmp 11]) Tryz.call44 (.cons rfl .nil)) .nil (cc hz .nil fun w pz ho=>y1P _ _ _ zwn w pz ) ?_
  refine WL.pu rfl (WL.pu rfl ?_)
  exact WL.yw zeG rfl rfl .all
 refine WL.nil (WX.a ?_)
 refine WC.cond rfl (fun zjq=>?_) (fun zjq=>?_)
 ·replace h:=yd h zjq
  refine WC.b (WC.a (WL.pu rfl (WL.nil (WX.a (WC.ret (WX.y6 ?_))))))
  obtain rfl:=Option.some.inj h
  refine WX.y8 Tryz.results24 (.tmp rfl .nil) (fun w hw=>?_)
  exact ⟨yD rfl,hw.sub .nil⟩
 ·replace h:=ye h zjq
  refine WC.skip (WX.a (WC.b (WC.b ?_)))
  refine WC.yH (fun i=>[].contains i) [] rfl ?_
  refine WD.a (i:=0) (d:=15) (by kernel_rfl) rfl z6 z7 rfl rfl rfl (fun _=>y4 yL rfl rfl) ?_
  refine WD.e (i:=1) (d:=16) (by kernel_rfl) rfl z6 z7 rfl rfl rfl (yc yr rfl (yp .h1 rfl)) ?_
  refine WD.a (i:=2) (d:=17) (by kernel_rfl) rfl z6 z7 rfl rfl rfl (fun _=>y4 yN rfl rfl) ?_
  refine WD.e (i:=3) (d:=18) (by kernel_rfl) rfl z6 z7 rfl rfl rfl (yc yr rfl (yp .here rfl)) ?_
  refine WD.a (i:=4) (d:=19) (by kernel_rfl) rfl z6 z7 rfl rfl rfl (fun _=>y58 rfl rfl rfl) ?_
  refine WD.a (i:=5) (d:=20) (by kernel_rfl) rfl z6 z7 rfl rfl rfl (fun _=>y4 yL rfl rfl) ?_
  refine WD.e (i:=6) (d:=21) (by kernel_rfl) rfl z6 z7 rfl rfl rfl (yc yr rfl (yp .here rfl)) ?_
  refine WD.a (i:=7) (d:=22) (by kernel_rfl) rfl z6 z7 rfl rfl rfl (fun _=>y4 yN rfl rfl) ?_
  refine WD.e (i:=8) (d:=23) (by kernel_rfl) rfl z6 z7 rfl rfl rfl (yc yr rfl (yp .h1 rfl)) ?_
  refine WD.a (i:=9) (d:=24) (by kernel_rfl) rfl z6 z7 rfl rfl rfl (fun _=>y58 rfl rfl rfl) ?_
  refine WD.a (i:=10) (d:=5) (by kernel_rfl) rfl z6 z7 rfl rfl rfl (fun _=>q_z rfl) ?_
  refine WD.a (i:=11) (d:=6) (by kernel_rfl) rfl z6 z7 rfl rfl rfl (fun _=>q_z rfl) ?_
  refine WD.done (by kernel_rfl) ?_
  refine WX.a (WC.block (WC.b (WC.a (WL.pu rfl (WL.pu rfl (WL.pu rfl (WL.pu rfl (WL.nil (WX.a ?_)))))))))
  refine WC.cond rfl (fun zjr=>?_) (fun zjr=>?_)
  ·replace h:=yd h zjr
   refine WC.b (WC.a (WL.pu rfl (WL.nil (WX.a (WC.ret (WX.yl (WX.y6 ?_)))))))
   obtain rfl:=Option.some.inj h
   refine WX.y8 Tryz.results24 (.tmp rfl .nil) (fun w hw=>?_)
   exact ⟨yD rfl,hw.sub .nil⟩
  ·replace h:=ye h zjr
   refine WC.b (WC.a (WL.pu rfl (WL.pu rfl (WL.pu rfl (WL.pu rfl (WL.nil (WX.a ?_)))))))
   refine WC.cond rfl (fun zjs=>?_) (fun zjs=>?_)
   ·replace h:=yd h zjs
    refine WC.b (WC.a (WL.pu rfl (WL.nil (WX.a (WC.ret (WX.yl (WX.y6 ?_)))))))
    obtain rfl:=Option.some.inj h
    refine WX.y8 Tryz.results24 (.tmp rfl .nil) (fun w hw=>?_)
    exact ⟨yD rfl,hw.sub .nil⟩
   ·replace h:=ye h zjs
    refine WC.skip (WX.yi (WX.a (WC.b (WC.a (WL.pu rfl (WL.nil (WX.a (WC.ret ?_))))))))
    obtain rfl:=Option.some.inj h
    refine WX.y8 Tryz.results24 (.tmp rfl .nil) (fun w hw=>?_)
    exact ⟨yD rfl,hw.sub .nil⟩
def y3M (z1N : z2) (z1O : z2) : Option Bool :=
 (if decide (z1N ≠ z1O) then (yM z1N.fB z1O.fB).bind fun zqt=>some (decide (zqt ≤ 0)) else some false).bind fun zjt=>(if zjt then (yM z1N.fR z1O.fR).bind fun zqu=>some (decide (zqu ≤ 0)) else some false).bind fun zju=>some zju
set_option maxRecDepth 20000 in
theorem y93 (Z : Zp)  (z1N : z2) (z1O : z2) (r : Bool)
  (h : y3M z1N z1O = some r) (w₀ : World) (hz : PZ [] w₀ Z) :
  Calls Tryz.prog 93 #[(.agg #[(.int .i64 z1N.fB.fN),(.int .i64 z1N.fB.fD),(.int .i64 z1N.fR.fN),(.int .i64 z1N.fR.fD)]),(.agg #[(.int .i64 z1O.fB.fN),(.int .i64 z1O.fB.fD),(.int .i64 z1O.fR.fN),(.int .i64 z1O.fR.fD)])] w₀ fun e w'=>e = .returned (.bool r) ∧ Hp [] w₀ w' []:=by
 unfold y3M at h
 refine Calls.yg (vs:=[(.agg #[(.int .i64 z1N.fB.fN),(.int .i64 z1N.fB.fD),(.int .i64 z1N.fR.fN),(.int .i64 z1N.fR.fD)]),(.agg #[(.int .i64 z1O.fB.fN),(.int .i64 z1O.fB.fD),(.int .i64 z1O.fR.fN),(.int .i64 z1O.fR.fD)])]) (pre:=[]) (env:=[(0,(.agg #[(.int .i64 z1N.fB.fN),(.int .i64 z1N.fB.fD),(.int .i64 z1N.fR.fN),(.int .i64 z1N.fR.fD)])),(1,(.agg #[(.int .i64 z1O.fB.fN),(.int .i64 z1O.fB.fD),(.int .i64 z1O.fR.fN),(.int .i64 z1O.fR.fD)]))]) Tryz.func93 rfl Tryz.ntmps93 rfl (Hp.nil w₀ _) rfl ?_
 refine WC.b (WC.a ?_)
 refine WL.new (dd:=2) rfl rfl rfl (yx (cs:=[(.int .i64 z1N.fB.fN),(.int .i64 z1N.fB.fD),(.int .i64 z1N.fR.fN),(.int .i64 z1N.fR.fD)]) rfl rfl) ?_
 intro zH7 _
 refine WL.new (dd:=3) rfl rfl rfl (yx (cs:=[(.int .i64 z1O.fB.fN),(.int .i64 z1O.fB.fD),(.int .i64 z1O.fR.fN),(.int .i64 z1O.fR.fD)]) rfl rfl) ?_
 intro zH8 _
 refine WL.pu rfl (WL.nil (WX.a (WC.b ?_)))
 obtain ⟨zjt,zqv,h⟩:=z8 h
 obtain ⟨zju,zqw,h⟩:=z8 h
 refine WC.a ?_
 refine WL.a (d:=5) rfl rfl rfl (y9 y1q rfl (y7 .h1) rfl) ?_
 refine WL.a (d:=6) rfl rfl rfl (y9 y1q rfl (y7 .here) rfl) ?_
 refine WL.a (d:=7) rfl rfl rfl (yaN (enc:=e54) (a:=z1N) (b:=z1O) yaW rfl rfl) ?_
 refine WL.pu rfl ?_
 refine WL.seg true 6 8 (B:=zjt) rfl rfl rfl rfl rfl rfl (fun h=>(Option.some.inj (ye zqv h)).symm) (fun _ zwo=>?_) ?_
 ·skip
  have zeH:=yd zqv zwo
  obtain ⟨zqt,zwp,zeH⟩:=z8 zeH
  replace zeH:=Option.some.inj zeH
  refine WL.a (d:=9) rfl rfl rfl (y4 y2B rfl rfl) ?_
  refine WL.a (d:=10) rfl rfl rfl (ys (cs:=[(.int .i64 z1N.fB.fN),(.int .i64 z1N.fB.fD)]) y5 rfl rfl (yW (s:=2) .h1 rfl)) ?_
  refine WL.a (d:=11) rfl rfl rfl (y4 y2B rfl rfl) ?_
  refine WL.a (d:=12) rfl rfl rfl (ys (cs:=[(.int .i64 z1O.fB.fN),(.int .i64 z1O.fB.fD)]) y5 rfl rfl (yW (s:=2) .here rfl)) ?_
  refine WL.b (dd:=13) rfl rfl rfl (za (l:=[.tmp 10,.tmp 12]) Tryz.call24 (.cons rfl (.cons rfl .nil))) .nil (cc hz .nil fun w pz ho=>y2w _ _ _ _ zwp w pz ) ?_
  refine WL.pu rfl (WL.pu rfl ?_)
  exact WL.yw zeH rfl rfl .all
 refine WL.pu rfl ?_
 refine WL.seg true 6 16 (B:=zju) rfl rfl rfl rfl rfl rfl (fun h=>(Option.some.inj (ye zqw h)).symm) (fun _ zwq=>?_) ?_
 ·skip
  have zeI:=yd zqw zwq
  obtain ⟨zqu,zwr,zeI⟩:=z8 zeI
  replace zeI:=Option.some.inj zeI
  refine WL.a (d:=17) rfl rfl rfl (y4 y2T rfl rfl) ?_
  refine WL.a (d:=18) rfl rfl rfl (ys (cs:=[(.int .i64 z1N.fR.fN),(.int .i64 z1N.fR.fD)]) y5 rfl rfl (yW (s:=2) .h1 rfl)) ?_
  refine WL.a (d:=19) rfl rfl rfl (y4 y2T rfl rfl) ?_
  refine WL.a (d:=20) rfl rfl rfl (ys (cs:=[(.int .i64 z1O.fR.fN),(.int .i64 z1O.fR.fD)]) y5 rfl rfl (yW (s:=2) .here rfl)) ?_
  refine WL.b (dd:=21) rfl rfl rfl (za (l:=[.tmp 18,.tmp 20]) Tryz.call24 (.cons rfl (.cons rfl .nil))) .nil (cc hz .nil fun w pz ho=>y2w _ _ _ _ zwr w pz ) ?_
  refine WL.pu rfl (WL.pu rfl ?_)
  exact WL.yw zeI rfl rfl .all
 refine WL.pu rfl (WL.nil (WX.a (WC.ret ?_)))
 obtain rfl:=Option.some.inj h
 refine WX.y8 Tryz.results93 (.tmp rfl .nil) (fun w hw=>?_)
 exact ⟨yD rfl,hw.sub .nil⟩
def y3T (z3f : z2) (zaD : z2) : Option Bool :=
 (y3M z3f zaD).bind fun zqx=>some zqx
set_option maxRecDepth 20000 in
theorem ya5 (Z : Zp) (zgT : Addr) (z3f : z2) (zaD : z2) (r : Bool)
  (h : y3T z3f zaD = some r) (w₀ : World) (hz : PZ [] w₀ Z)
  (zws : ZC Z zgT [(.int .i64 zaD.fB.fN),(.int .i64 zaD.fB.fD),(.int .i64 zaD.fR.fN),(.int .i64 zaD.fR.fD)]) :
  Calls Tryz.prog 92 #[(.agg #[(.int .i64 z3f.fB.fN),(.int .i64 z3f.fB.fD),(.int .i64 z3f.fR.fN),(.int .i64 z3f.fR.fD)]),(.pointer (some zgT))] w₀ fun e w'=>e = .returned (.bool r) ∧ Hp [] w₀ w' []:=by
 unfold y3T at h
 refine Calls.yg (vs:=[(.agg #[(.int .i64 z3f.fB.fN),(.int .i64 z3f.fB.fD),(.int .i64 z3f.fR.fN),(.int .i64 z3f.fR.fD)]),(.pointer (some zgT))]) (pre:=[]) (env:=[(0,(.agg #[(.int .i64 z3f.fB.fN),(.int .i64 z3f.fB.fD),(.int .i64 z3f.fR.fN),(.int .i64 z3f.fR.fD)])),(1,(.pointer (some zgT)))]) Tryz.func92 rfl Tryz.ntmps92 rfl (Hp.nil w₀ _) rfl ?_
 refine WC.b (WC.a ?_)
 refine WL.new (dd:=2) rfl rfl rfl (yx (cs:=[(.int .i64 z3f.fB.fN),(.int .i64 z3f.fB.fD),(.int .i64 z3f.fR.fN),(.int .i64 z3f.fR.fD)]) rfl rfl) ?_
 intro zH9 _
 refine WL.pu rfl (WL.nil (WX.a (WC.b ?_)))
 obtain ⟨zqx,zwt,h⟩:=z8 h
 refine WC.a ?_
 refine WL.a (d:=4) rfl rfl rfl (y9 y1q rfl (y7 .here) rfl) ?_
 refine WL.a (d:=5) rfl rfl rfl (y9 y1q rfl (y2k hz.pv zws) rfl) ?_
 refine WL.b (dd:=6) rfl rfl rfl (za (l:=[.tmp 4,.tmp 5]) Tryz.call93 (.cons rfl (.cons rfl .nil))) .nil (cc hz .nil fun w pz ho=>y93 _ _ _ _ zwt w pz ) ?_
 refine WL.pu rfl (WL.nil (WX.a (WC.ret ?_)))
 obtain rfl:=Option.some.inj h
 refine WX.y8 Tryz.results92 (.tmp rfl .nil) (fun w hw=>?_)
 exact ⟨yD rfl,hw.sub .nil⟩
def y4t (z2I : z2) (z2J : z2) : Option Int :=
 (yM z2I.fB z2J.fB).bind fun zqy=>some zqy
set_option maxRecDepth 20000 in
theorem ya6 (Z : Zp)  (z2I : z2) (z2J : z2) (r : Int)
  (h : y4t z2I z2J = some r) (w₀ : World) (hz : PZ [] w₀ Z) :
  Calls Tryz.prog 95 #[(.agg #[(.int .i64 z2I.fB.fN),(.int .i64 z2I.fB.fD),(.int .i64 z2I.fR.fN),(.int .i64 z2I.fR.fD)]),(.agg #[(.int .i64 z2J.fB.fN),(.int .i64 z2J.fB.fD),(.int .i64 z2J.fR.fN),(.int .i64 z2J.fR.fD)])] w₀ fun e w'=>e = .returned (.int .i64 r) ∧ Hp [] w₀ w' []:=by
 unfold y4t at h
 refine Calls.yg (vs:=[(.agg #[(.int .i64 z2I.fB.fN),(.int .i64 z2I.fB.fD),(.int .i64 z2I.fR.fN),(.int .i64 z2I.fR.fD)]),(.agg #[(.int .i64 z2J.fB.fN),(.int .i64 z2J.fB.fD),(.int .i64 z2J.fR.fN),(.int .i64 z2J.fR.fD)])]) (pre:=[]) (env:=[(0,(.agg #[(.int .i64 z2I.fB.fN),(.int .i64 z2I.fB.fD),(.int .i64 z2I.fR.fN),(.int .i64 z2I.fR.fD)])),(1,(.agg #[(.int .i64 z2J.fB.fN),(.int .i64 z2J.fB.fD),(.int .i64 z2J.fR.fN),(.int .i64 z2J.fR.fD)]))]) Tryz.func95 rfl Tryz.ntmps95 rfl (Hp.nil w₀ _) rfl ?_
 refine WC.b (WC.a ?_)
 refine WL.new (dd:=2) rfl rfl rfl (yx (cs:=[(.int .i64 z2I.fB.fN),(.int .i64 z2I.fB.fD),(.int .i64 z2I.fR.fN),(.int .i64 z2I.fR.fD)]) rfl rfl) ?_
 intro zHa _
 refine WL.new (dd:=3) rfl rfl rfl (yx (cs:=[(.int .i64 z2J.fB.fN),(.int .i64 z2J.fB.fD),(.int .i64 z2J.fR.fN),(.int .i64 z2J.fR.fD)]) rfl rfl) ?_
 intro zHb _
 refine WL.pu rfl (WL.nil (WX.a (WC.b ?_)))
 obtain ⟨zqy,zwu,h⟩:=z8 h
 refine WC.a ?_
 refine WL.a (d:=5) rfl rfl rfl (y4 y2B rfl rfl) ?_
 refine WL.a (d:=6) rfl rfl rfl (ys (cs:=[(.int .i64 z2I.fB.fN),(.int .i64 z2I.fB.fD)]) y5 rfl rfl (yW (s:=2) .h1 rfl)) ?_
 refine WL.a (d:=7) rfl rfl rfl (y4 y2B rfl rfl) ?_
 refine WL.a (d:=8) rfl rfl rfl (ys (cs:=[(.int .i64 z2J.fB.fN),(.int .i64 z2J.fB.fD)]) y5 rfl rfl (yW (s:=2) .here rfl)) ?_
 refine WL.b (dd:=9) rfl rfl rfl (za (l:=[.tmp 6,.tmp 8]) Tryz.call24 (.cons rfl (.cons rfl .nil))) .nil (cc hz .nil fun w pz ho=>y2w _ _ _ _ zwu w pz ) ?_
 refine WL.pu rfl (WL.nil (WX.a (WC.ret ?_)))
 obtain rfl:=Option.some.inj h
 refine WX.y8 Tryz.results95 (.tmp rfl .nil) (fun w hw=>?_)
 exact ⟨yD rfl,hw.sub .nil⟩
def y60 (z7l : Int) : Option Int:=chk ((0 : Int) ≤ z7l ∧ z7l ≤ 18446744073709551615) (some ((Go.Lib.bitLen (z7l).toNat : Nat) : Int))
theorem y9H (Z : Zp) (z7l : Int) (r : Int) (w₀ : World) (hz : PZ [] w₀ Z) (h : y60 z7l = some r) : Calls Tryz.prog 98 #[.int .u64 z7l] w₀ fun e w'=>e = .returned (.int .i64 r) ∧ Hp [] w₀ w' []:=by
 obtain ⟨h0,h⟩:=yj h
 obtain rfl:=Option.some.inj h
 refine (Tryz.bits_Len z7l w₀ h0.1 h0.2).mono ?_
 rintro e w' ⟨rfl,rfl⟩
 exact ⟨rfl,Hp.nil w' []⟩
theorem zwv : ∀ w,(isAgg (Tryz.y2d.t 24)).run Tryz.prog w = .ok true w:=fun _=>by kernel_rfl
theorem zww : ∀ w,(Go.sizeOf (Tryz.y2d.t 24)).run Tryz.prog w = .ok 4 w:=fun _=>by kernel_rfl
def y2s (z3H : List z2) (zeJ : Int) (zeK : Int) (zbV : Int) (zaE : z2 → z2 → Option Int) : Option (List z2):=chk ((zeJ = 0 ∧ zeK = ((z3H.length : Nat) : Int)) ∧ (0 ≤ zbV ∧ zbV < 4611686018427387904 ∧ z3H.length < 4611686018427387904)) (chk (ordB zaE (y1z zaE z3H) = true) (some (y1z zaE z3H)))
theorem y5o (Z : Zp) (zaF : Option Addr) (zaG : Nat) (zeL : FuncId) (zjv : List Value) (z3H : List z2) (zeJ : Int) (zeK : Int) (zbV : Int) (zaE : z2 → z2 → Option Int) (r : List z2) (w₀ : World) (hz : PZ (fps [row (.slice zaF z3H.length zaG) 54 4 (z3H.flatMap e54)]) w₀ Z)
  (zwx : ∀ args w,(callFunc zeL args).run Tryz.prog w = .ok (.enter zeL args) w)
  (zwy : ∀ w : World,PZ [] w Z → ∀ (x0 : z2) (x1 : z2) (r : Int),zaE x0 x1 = some r → Calls Tryz.prog zeL (([(.agg #[(.int .i64 x0.fB.fN),(.int .i64 x0.fB.fD),(.int .i64 x0.fR.fN),(.int .i64 x0.fR.fD)]),(.agg #[(.int .i64 x1.fB.fN),(.int .i64 x1.fB.fD),(.int .i64 x1.fR.fN),(.int .i64 x1.fR.fD)])] : List Value) ++ zjv).toArray w fun e w'=>e = .returned (.int .i64 r) ∧ Hp [] w w' [])
  (h : y2s z3H zeJ zeK zbV zaE = some r) (hown : Hp (fps [row (.slice zaF z3H.length zaG) 54 4 (z3H.flatMap e54)]) w₀ w₀ [row (.slice zaF z3H.length zaG) 54 4 (z3H.flatMap e54)]) :
  Calls Tryz.prog 100 #[(.slice zaF z3H.length zaG),(.int .i64 zeJ),(.int .i64 zeK),(.int .i64 zbV),(.func (.func zeL) #[] (zjv).toArray)] w₀ fun e w'=>e = .returned (.tuple #[]) ∧ (r.length = z3H.length) ∧ Hp (fps [row (.slice zaF z3H.length zaG) 54 4 (z3H.flatMap e54)]) w₀ w' [row (.slice zaF r.length zaG) 54 4 (r.flatMap e54)]:=by
 obtain ⟨h0,h⟩:=yj h
 obtain ⟨h1,h⟩:=yj h
 have hr:=(Option.some.inj h).symm
 exact yak (P:=Tryz.prog) (f:=100) (e:=54) (k:=4) (enc:=e54) (fun _=>rfl) (by decide) y7K (fun β _ enc cf g cb hO blk off cap d0 w0 eg hC R=>Tryz.y6f 4 zwv zww enc cf g cb hO blk off cap d0 w0 eg hC R) (Tryz.y69 (α:=Unit)) hz zwx zwy h0 h1 hr hown
def y10 (z2s : List z2) (zbW : z2 → z2 → Option Int) : Option (List z2) :=
 (y60 (u64 ((z2s.length : Nat) : Int))).bind fun zgU=>(y2s z2s 0 ((z2s.length : Nat) : Int) zgU zbW).bind fun zgV=>some zgV
set_option maxRecDepth 20000 in
theorem y4O (Z : Zp) (z63 : Option Addr) (z64 : Nat) (z8X : FuncId) (zbX : List Value) (z2s : List z2) (zbW : z2 → z2 → Option Int) (r : List z2)
  (h : y10 z2s zbW = some r) (w₀ : World) (hz : PZ (fps [row (.slice z63 z2s.length z64) 54 4 (z2s.flatMap e54)]) w₀ Z)
  (zwz : ∀ args w,(callFunc z8X args).run Tryz.prog w = .ok (.enter z8X args) w)
  (zwA : ∀ w : World,PZ [] w Z → ∀ (x0 : z2) (x1 : z2) (r : Int),zbW x0 x1 = some r → Calls Tryz.prog z8X (([(.agg #[(.int .i64 x0.fB.fN),(.int .i64 x0.fB.fD),(.int .i64 x0.fR.fN),(.int .i64 x0.fR.fD)]),(.agg #[(.int .i64 x1.fB.fN),(.int .i64 x1.fB.fD),(.int .i64 x1.fR.fN),(.int .i64 x1.fR.fD)])] : List Value) ++ zbX).toArray w fun e w'=>e = .returned (.int .i64 r) ∧ Hp [] w w' [])
  (hown : Hp (fps [row (.slice z63 z2s.length z64) 54 4 (z2s.flatMap e54)]) w₀ w₀ [row (.slice z63 z2s.length z64) 54 4 (z2s.flatMap e54)]) :
  Calls Tryz.prog 94 #[(.slice z63 z2s.length z64),(.func (.func z8X) #[] (zbX).toArray)] w₀ fun e w'=>e = .returned (.tuple #[]) ∧ (r.length = z2s.length) ∧ Hp (fps [row (.slice z63 z2s.length z64) 54 4 (z2s.flatMap e54)]) w₀ w' [row (.slice z63 r.length z64) 54 4 (r.flatMap e54)]:=by
 unfold y10 at h
 refine Calls.yg (vs:=[(.slice z63 z2s.length z64),(.func (.func z8X) #[] (zbX).toArray)]) (pre:=[row (.slice z63 z2s.length z64) 54 4 (z2s.flatMap e54)]) (env:=[(0,(.slice z63 z2s.length z64)),(1,(.func (.func z8X) #[] (zbX).toArray))]) Tryz.func94 rfl Tryz.ntmps94 rfl (hown) rfl ?_
 refine WC.b (WC.a (WL.pu rfl ?_))
 refine WL.a (d:=6) rfl rfl rfl (yP Tryz.underlying23 rfl) ?_
 refine WL.pu rfl (WL.nil (WX.a ?_))
 obtain ⟨zgU,zwB,h⟩:=z8 h
 obtain ⟨zgV,zwC,h⟩:=z8 h
 refine WC.a (WL.pu rfl (WL.pu rfl (WL.pu rfl ?_)))
 refine WL.a (d:=10) rfl rfl rfl (y4p Tryz.underlying3 Tryz.underlying128 rfl rfl) ?_
 refine WL.b (dd:=11) rfl rfl rfl (za (l:=[.tmp 10]) Tryz.call98 (.cons rfl .nil)) .nil (cc hz .nil fun w pz ho=>y9H (Z:=_)  (z7l:=(u64 ((z2s.length : Nat) : Int))) (r:=zgU) w pz  zwB) ?_
 refine WL.pu rfl ?_
 refine WL.y7r (dd:=13) rfl rfl rfl (za (l:=[.tmp 7,.const (.int .i64 0),.tmp 8,.tmp 11,.tmp 12]) Tryz.call100 (.cons rfl (.cons rfl (.cons rfl (.cons rfl (.cons rfl .nil)))))) (.cons .here .nil) (cc hz (.cons .here .nil) fun w pz ho=>y5o (Z:=_) (zaF:=z63) (zaG:=z64) (zeL:=z8X) (zjv:=zbX) (z3H:=z2s) (zeJ:=0) (zeK:=((z2s.length : Nat) : Int)) (zbV:=zgU) (zaE:=zbW) (r:=zgV) w pz zwz zwA zwC ho) ?_
 rintro  zqz
 refine WL.repin (i:=0) rfl (u:=(.slice z63 zgV.length z64)) (slen zqz.symm) ?_
 refine WL.nil ?_
 obtain rfl:=Option.some.inj h
 refine WX.y5t Tryz.results94 .nil (fun w hw=>?_)
 exact ⟨y6E,(zqz.trans rfl),hw.sub (.cons .here .nil)⟩
def y38 (zw : List z2) (z7m : (List z2) → Option (List z2)) : Nat → (List z2) → Int → Option (List z2)
 | 0,_,_=>none
 | zjw + 1,z2K,zA=>if decide (zA < ((zw.length : Nat) : Int)) then jp1 (fun (z65 : List z2)=>y38 zw z7m zjw z65 (i64 (zA + 1))) fun zgW=>chk ((0 : Int) ≤ zA ∧ zA < ((zw.length : Nat) : Int)) ((y1F z2K (⟨(⟨(((nth zw zA).fB).fN),(((nth zw zA).fB).fD)⟩ : z1),(⟨(((nth zw zA).fR).fN),(((nth zw zA).fR).fD)⟩ : z1)⟩ : z2)).bind fun zqA=>(if !zqA then (y16 zw (fun (y0 : z2)=>y3T y0 (⟨(⟨(((nth zw zA).fB).fN),(((nth zw zA).fB).fD)⟩ : z1),(⟨(((nth zw zA).fR).fN),(((nth zw zA).fR).fD)⟩ : z1)⟩ : z2))).bind fun zqB=>some (!zqB) else some false).bind fun zjx=>if zjx then chk ((((z2K ++ ([(⟨(⟨(((nth zw zA).fB).fN),(((nth zw zA).fB).fD)⟩ : z1),(⟨(((nth zw zA).fR).fN),(((nth zw zA).fR).fD)⟩ : z1)⟩ : z2)] : List z2)).length : Nat) : Int) * 32 ≤ 140737488355328 ∧ (((z2K ++ ([(⟨(⟨(((nth zw zA).fB).fN),(((nth zw zA).fB).fD)⟩ : z1),(⟨(((nth zw zA).fR).fN),(((nth zw zA).fR).fD)⟩ : z1)⟩ : z2)] : List z2)).length : Nat) : Int) ≤ 4611686018427387904) (zgW (z2K ++ ([(⟨(⟨(((nth zw zA).fB).fN),(((nth zw zA).fB).fD)⟩ : z1),(⟨(((nth zw zA).fR).fN),(((nth zw zA).fR).fD)⟩ : z1)⟩ : z2)] : List z2))) else zgW z2K) else z7m z2K
theorem y88 {n : Nat} {zw : List z2} {z7m : (List z2) → Option (List z2)} {z2K : List z2} {zA : Int} {r : List z2} (h : y38 zw z7m n z2K zA = some r) : ∃ m,n = m + 1:=by
 cases n with
 | zero=>cases h
 | succ m=>exact ⟨m,rfl⟩
def y51 (zw : List z2) : Option (List z2) :=
 jp1 (fun (z6z : List z2)=>(y10 z6z (fun (y0 : z2) (y1 : z2)=>y4t y0 y1)).bind fun zjy=>some zjy) fun z7m=>y38 zw z7m yu ([] : List z2) 0
set_option maxRecDepth 20000 in
theorem yaX (Z : Zp) (z8Y : Option Addr) (z8Z : Nat) (zw : List z2) (r : List z2)
  (h : y51 zw = some r) (w₀ : World) (hz : PZ [] w₀ Z)
  (zqC : ZS Z 4 (fun r x=>r = e54 x) z8Y z8Z zw) :
  Calls Tryz.prog 84 #[(.slice z8Y zw.length z8Z)] w₀ fun e w'=>∃ zqD : Option Addr,∃ zqE : Nat,e = .returned (.slice zqD r.length zqE) ∧ True ∧ Hp [] w₀ w' [row (.slice zqD r.length zqE) 54 4 (r.flatMap e54)]:=by
 unfold y51 at h
 refine Calls.yg (vs:=[(.slice z8Y zw.length z8Z)]) (pre:=[]) (env:=[(0,(.slice z8Y zw.length z8Z))]) Tryz.func84 rfl Tryz.ntmps84 rfl (Hp.nil w₀ _) rfl ?_
 refine WC.b (WC.a (WL.pu rfl (WL.nil (WX.a (WC.b (WC.a (WL.pu rfl (WL.nil (WX.a ?_)))))))))
 obtain ⟨z7m,zwD,h⟩:=y12 h
 refine WC.y3O (fun (z6z : List z2) (zaH : Option Addr) (zaI : Nat)=>(z7m z6z = some r)) (fun (z6z : List z2) (zaH : Option Addr) (zaI : Nat)=>[(3,(.slice zaH z6z.length zaI))]) (fun (z6z : List z2) (zaH : Option Addr) (zaI : Nat)=>[row (.slice zaH z6z.length zaI) 54 4 (z6z.flatMap e54)]) ?_ ?_
 ·skip
  refine WC.b (WC.a (WL.pu rfl ?_))
  refine WL.a (d:=7) rfl rfl rfl (yP Tryz.underlying23 rfl) ?_
  refine WL.pu rfl (WL.nil (WX.a (WC.block ?_)))
  refine WC.nilRow 54 4 ?_
  refine WC.y75 (fun (zbY : Nat) (z2K : List z2) (zA : Int) (z90 : Option Addr) (z91 : Nat)=>(y38 zw z7m zbY z2K zA = some r)) (fun (zbY : Nat) (z2K : List z2) (zA : Int) (z90 : Option Addr) (z91 : Nat)=>[(0,(.slice z8Y zw.length z8Z)),(3,(.slice z90 z2K.length z91)),(6,(.slice z8Y zw.length z8Z)),(7,(.int .i64 ((zw.length : Nat) : Int))),(8,(.int .i64 zA))]) (fun (zbY : Nat) (z2K : List z2) (zA : Int) (z90 : Option Addr) (z91 : Nat)=>[row (.slice z90 z2K.length z91) 54 4 (z2K.flatMap e54)]) (fun (zbY : Nat) (z2K : List z2) (zA : Int) (z90 : Option Addr) (z91 : Nat)=>zbY) ⟨yu,([] : List z2),0,none,0⟩ h (.cons rfl (.cons rfl (.cons rfl (.cons rfl (.cons rfl .nil))))) (.cons .here .nil) ?_
  rintro zbY z2K zA z90 z91 h
  obtain ⟨zjw,rfl⟩:=y88 h
  rw [y38] at h
  refine WC.b (WC.a (WL.pu rfl (WL.nil (WX.a (WC.b ?_)))))
  refine WC.cond rfl (fun zjz=>?_) (fun zjz=>?_)
  ·replace h:=yd h zjz
   refine WC.skip (WX.a ?_)
   obtain ⟨zgW,zwE,h⟩:=y12 h
   refine WC.y3O (fun (z65 : List z2) (zbZ : Option Addr) (zc0 : Nat)=>(zgW z65 = some r)) (fun (z65 : List z2) (zbZ : Option Addr) (zc0 : Nat)=>[(0,(.slice z8Y zw.length z8Z)),(3,(.slice zbZ z65.length zc0)),(6,(.slice z8Y zw.length z8Z)),(7,(.int .i64 ((zw.length : Nat) : Int))),(8,(.int .i64 zA))]) (fun (z65 : List z2) (zbZ : Option Addr) (zc0 : Nat)=>[row (.slice zbZ z65.length zc0) 54 4 (z65.flatMap e54)]) ?_ ?_
   ·skip
    refine WC.block (WC.b ?_)
    obtain ⟨zwF,h⟩:=yj h
    refine WC.a ?_
    refine WL.znth (dd:=10) rfl rfl (Z:=Z) (Pr:=(fun r x=>r = e54 x)) yS rfl rfl zqC zwF ?_
    rintro zHc zHd zwG zHe rfl
    refine WL.a (d:=11) rfl rfl rfl (y9 y1q rfl (y2k hz.pv zwG) rfl) ?_
    refine WL.new (dd:=5) rfl rfl rfl (yk (cs:=[(.int .i64 0),(.int .i64 0),(.int .i64 0),(.int .i64 0)]) y4A rfl) ?_
    intro zwH _
    refine WL.yb rfl rfl (ya y4K rfl rfl rfl .here rfl rfl rfl) ?_
    refine WL.nil (WX.a (WC.b ?_))
    obtain ⟨zqA,zwI,h⟩:=z8 h
    obtain ⟨zjx,zqF,h⟩:=z8 h
    refine WC.a (WL.pu rfl ?_)
    refine WL.a (d:=13) rfl rfl rfl (y9 y1q rfl (y7 .here) rfl) ?_
    refine WL.b (dd:=14) rfl rfl rfl (za (l:=[.tmp 12,.tmp 13]) Tryz.call91 (.cons rfl (.cons rfl .nil))) .nil (ccl hz .nil (.cons .h1 .nil) fun w pz ho la=>y4N _ _ _ _ _ _ zwI w pz (ZA.row (la _ (.head _) _) (RR.flat (enc:=e54) (fun _=>rfl) _) ⟨w,pz.1⟩)) ?_
    refine WL.pu rfl (WL.pu rfl ?_)
    refine WL.seg true 4 16 (B:=zjx) rfl rfl rfl rfl rfl rfl (fun h=>(Option.some.inj (ye zqF h)).symm) (fun _ zwJ=>?_) ?_
    ·skip
     have zeM:=yd zqF zwJ
     obtain ⟨zqB,zwK,zeM⟩:=z8 zeM
     replace zeM:=Option.some.inj zeM
     refine WL.pu rfl ?_
     refine WL.a (d:=18) rfl rfl rfl (y1i (Eos.caps (l:=[.tmp 5]) (.cons rfl .nil))) ?_
     refine WL.b (dd:=19) rfl rfl rfl (za (l:=[.tmp 17,.tmp 18]) Tryz.call47 (.cons rfl (.cons rfl .nil))) .nil (ccl hz .nil (.cons .here .nil) fun w pz ho la=>y2W _ _ _ (z7g:=92) (zav:=[(.pointer (some ⟨zwH,0,none⟩))]) _ (zau:=(fun (y0 : z2)=>y3T y0 (⟨(⟨(((nth zw zA).fB).fN),(((nth zw zA).fB).fD)⟩ : z1),(⟨(((nth zw zA).fR).fN),(((nth zw zA).fR).fD)⟩ : z1)⟩ : z2))) _ zwK w pz (zqC.mono (Zle.left _ _)) Tryz.call92 (fun w' hz' y0  r  hr=>ya5 _ _ _ _ _ hr w' hz' ((la _ (.head _) _).stb))) ?_
     refine WL.pu rfl (WL.pu rfl ?_)
     exact WL.yw zeM rfl rfl .all
    refine WL.nil (WX.a ?_)
    refine WC.cond rfl (fun zjA=>?_) (fun zjA=>?_)
    ·replace h:=yd h zjA
     obtain ⟨zwL,h⟩:=yj h
     refine WC.a (WL.pu rfl ?_)
     refine WL.a (d:=23) rfl rfl rfl (y9 y1q rfl (y7 .here) rfl) ?_
     refine WL.new (dd:=24) rfl rfl rfl (yA (cs:=([(⟨(⟨(((nth zw zA).fB).fN),(((nth zw zA).fB).fD)⟩ : z1),(⟨(((nth zw zA).fR).fN),(((nth zw zA).fR).fD)⟩ : z1)⟩ : z2)] : List z2).flatMap e54) yS (Eos.parts (l:=[.tmp 23]) (.cons rfl .nil) [0]) (fun _=>by kernel_rfl) rfl (by unfold maxLen; omega)) ?_
     intro zHf _
     refine WL.eff (d:=25) rfl rfl rfl (y2c (enc:=e54) (l1:=z2K) (l2:=([(⟨(⟨(((nth zw zA).fB).fN),(((nth zw zA).fB).fD)⟩ : z1),(⟨(((nth zw zA).fR).fN),(((nth zw zA).fR).fD)⟩ : z1)⟩ : z2)] : List z2)) yS rfl rfl .h2 (fun _=>rfl) rfl rfl (y4z .here) (y3g y7K _) zwL) ?_
     rintro ⟨zwM,zwN⟩ _
     refine WL.pu rfl (WL.nil (WX.yi ?_))
     exact WX.mid (G:=List z2 × Option Addr × Nat) ⟨(z2K ++ ([(⟨(⟨(((nth zw zA).fB).fN),(((nth zw zA).fB).fD)⟩ : z1),(⟨(((nth zw zA).fR).fN),(((nth zw zA).fR).fD)⟩ : z1)⟩ : z2)] : List z2)),zwM,zwN⟩ h (.cons rfl (.cons rfl (.cons rfl (.cons rfl (.cons rfl .nil))))) (.cons .here .nil)
    ·replace h:=ye h zjA
     refine WC.skip (WX.yi ?_)
     exact WX.mid (G:=List z2 × Option Addr × Nat) ⟨z2K,z90,z91⟩ h (.cons rfl (.cons rfl (.cons rfl (.cons rfl (.cons rfl .nil))))) (.cons .h1 .nil)
   ·rintro z65 zbZ zc0 h
    replace h:=(zwE z65).symm.trans h
    refine WC.a (WL.pu rfl (WL.pu rfl (WL.nil ?_)))
    exact WX.round (G:=Nat × List z2 × Int × Option Addr × Nat) ⟨zjw,z65,(i64 (zA + 1)),zbZ,zc0⟩ h (Nat.lt_succ_self _) (.cons rfl (.cons rfl (.cons rfl (.cons rfl (.cons rfl .nil))))) (.cons .here .nil)
  ·replace h:=ye h zjz
   refine WC.exit (WX.yf (WX.yf (WX.yv ?_)))
   exact WX.mid (G:=List z2 × Option Addr × Nat) ⟨z2K,z90,z91⟩ h (.cons rfl .nil) (.cons .here .nil)
 ·rintro z6z zaH zaI h
  replace h:=(zwD z6z).symm.trans h
  refine WC.b ?_
  obtain ⟨zjy,zwO,h⟩:=z8 h
  refine WC.a (WL.pu rfl ?_)
  refine WL.y7r (dd:=28) rfl rfl rfl (za (l:=[.tmp 27,.func 95]) Tryz.call94 (.cons rfl (.cons rfl .nil))) (.cons .here .nil) (cc hz (.cons .here .nil) fun w pz ho=>y4O _ _ _ (z8X:=95) (zbX:=[]) _ (zbW:=(fun (y0 : z2) (y1 : z2)=>y4t y0 y1)) _ zwO w pz Tryz.call95 (fun w' hz' y0 y1  r  hr=>ya6 _ _ _ _ hr w' hz' ) ho) ?_
  rintro  zwP
  refine WL.repin (i:=3) rfl (u:=(.slice zaH zjy.length zaI)) (slen zwP.symm) ?_
  refine WL.nil (WX.a (WC.b (WC.a (WL.pu rfl (WL.pu rfl (WL.nil (WX.a (WC.ret ?_))))))))
  obtain rfl:=Option.some.inj h
  refine WX.y8 Tryz.results84 (.tmp rfl .nil) (fun w hw=>?_)
  exact ⟨zaH,zaI,yD rfl,trivial,hw.sub (.cons .here .nil)⟩
def y4H (z92 : List z2) (z93 : List z2) : Option (List z2 × List z2) :=
 some (z92,z93)
set_option maxRecDepth 20000 in
theorem yaB (Z : Zp) (zc1 : Option Addr) (zc2 : Nat) (zc3 : Option Addr) (zc4 : Nat) (z92 : List z2) (z93 : List z2) (r : List z2 × List z2)
  (h : y4H z92 z93 = some r) (w₀ : World) (hz : PZ [] w₀ Z)
  (zwQ : ZS Z 4 (fun r x=>r = e54 x) zc1 zc2 z92)
  (zwR : ZS Z 4 (fun r x=>r = e54 x) zc3 zc4 z93) :
  Calls Tryz.prog 85 #[(.slice zc1 z92.length zc2),(.slice zc3 z93.length zc4)] w₀ fun e w'=>∃ zqG : Nat,∃ zqH : Nat,∃ zqI : Option Addr,∃ zqJ : Nat,∃ zqK : Option Addr,∃ zqL : Nat,e = .returned (.func (.func 96) #[] #[(.pointer (some ⟨zqG,0,none⟩)),(.pointer (some ⟨zqH,0,none⟩))]) ∧ ((ZS Z 4 (fun r x=>r = e54 x) zqI zqJ r.1) ∧ (ZS Z 4 (fun r x=>r = e54 x) zqK zqL r.2)) ∧ Hp [] w₀ w' [stb zqG 23 [(.slice zqI r.1.length zqJ)],stb zqH 23 [(.slice zqK r.2.length zqL)]]:=by
 unfold y4H at h
 refine Calls.yg (vs:=[(.slice zc1 z92.length zc2),(.slice zc3 z93.length zc4)]) (pre:=[]) (env:=[(0,(.slice zc1 z92.length zc2)),(1,(.slice zc3 z93.length zc4))]) Tryz.func85 rfl Tryz.ntmps85 rfl (Hp.nil w₀ _) rfl ?_
 refine WC.b (WC.a ?_)
 refine WL.new (dd:=2) rfl rfl rfl (yx (cs:=[(.slice zc1 z92.length zc2)]) rfl rfl) ?_
 intro zwS _
 refine WL.new (dd:=3) rfl rfl rfl (yx (cs:=[(.slice zc3 z93.length zc4)]) rfl rfl) ?_
 intro zwT _
 refine WL.pu rfl (WL.nil (WX.a (WC.b (WC.a ?_))))
 refine WL.a (d:=5) rfl rfl rfl (y1i (Eos.caps (l:=[.tmp 2,.tmp 3]) (.cons rfl (.cons rfl .nil)))) ?_
 refine WL.pu rfl (WL.nil (WX.a (WC.ret ?_)))
 obtain rfl:=Option.some.inj h
 refine WX.y8 Tryz.results85 (.tmp rfl .nil) (fun w hw=>?_)
 exact ⟨zwS,zwT,zc1,zc2,zc3,zc4,yD rfl,⟨zwQ,zwR⟩,hw.sub (.cons .h1 (.cons .here .nil))⟩
def y2e (zo : Type) (z1x : List z2) (z3I : (z2 × z2) → zo → Option (Bool × zo)) (z14 : List z2) (z1e : Int) (z7n : zo → Option zo) : Nat → Int → zo → Option zo
 | 0,_,_=>none
 | zjB + 1,z2t,z3T=>if decide (z2t < ((z1x.length : Nat) : Int)) then chk ((0 : Int) ≤ z2t ∧ z2t < ((z1x.length : Nat) : Int)) ((z3I ((⟨(⟨(((nth z14 z1e).fB).fN),(((nth z14 z1e).fB).fD)⟩ : z1),(⟨(((nth z14 z1e).fR).fN),(((nth z14 z1e).fR).fD)⟩ : z1)⟩ : z2),(⟨(⟨(((nth z1x z2t).fB).fN),(((nth z1x z2t).fB).fD)⟩ : z1),(⟨(((nth z1x z2t).fR).fN),(((nth z1x z2t).fR).fD)⟩ : z1)⟩ : z2)) z3T).bind fun zaJ=>if !zaJ.1 then some zaJ.2 else y2e zo z1x z3I z14 z1e z7n zjB (i64 (z2t + 1)) zaJ.2) else z7n z3T
theorem y7m {n : Nat} {zo : Type} {z1x : List z2} {z3I : (z2 × z2) → zo → Option (Bool × zo)} {z14 : List z2} {z1e : Int} {z7n : zo → Option zo} {z2t : Int} {z3T : zo} {r : zo} (h : y2e zo z1x z3I z14 z1e z7n n z2t z3T = some r) : ∃ m,n = m + 1:=by
 cases n with
 | zero=>cases h
 | succ m=>exact ⟨m,rfl⟩
def y2f (zo : Type) (z14 : List z2) (z1x : List z2) (z3I : (z2 × z2) → zo → Option (Bool × zo)) (z7o : zo → Option zo) : Nat → Int → zo → Option zo
 | 0,_,_=>none
 | zjC + 1,z1e,z4D=>if decide (z1e < ((z14.length : Nat) : Int)) then jp1 (fun (z6A : zo)=>y2f zo z14 z1x z3I z7o zjC (i64 (z1e + 1)) z6A) fun zjD=>chk ((0 : Int) ≤ z1e ∧ z1e < ((z14.length : Nat) : Int)) (jp1 (fun (z6B : zo)=>zjD z6B) fun z7n=>y2e zo z1x z3I z14 z1e z7n yu 0 z4D) else z7o z4D
theorem y7n {n : Nat} {zo : Type} {z14 : List z2} {z1x : List z2} {z3I : (z2 × z2) → zo → Option (Bool × zo)} {z7o : zo → Option zo} {z1e : Int} {z4D : zo} {r : zo} (h : y2f zo z14 z1x z3I z7o n z1e z4D = some r) : ∃ m,n = m + 1:=by
 cases n with
 | zero=>cases h
 | succ m=>exact ⟨m,rfl⟩
def y3D (zo : Type) (z3I : (z2 × z2) → zo → Option (Bool × zo)) (s0_2366 : zo) (z14 : List z2) (z1x : List z2) : Option zo :=
 jp1 (fun (z7p : zo)=>some z7p) fun z7o=>y2f zo z14 z1x z3I z7o yu 0 s0_2366
set_option maxRecDepth 20000 in
theorem y9I (Z : Zp) (zo : Type) (z7q : Nat) (z1C : Type) (z4h : z1C → zo → Asrt) (z7r : z1C → zo → Prop) (z94 : z1C) (zeN : Addr) (zaK : Option Addr) (zaL : Nat) (z7s : Addr) (zgX : Option Addr) (zgY : Nat) (z3I : (z2 × z2) → zo → Option (Bool × zo)) (s0_2366 : zo) (z14 : List z2) (z1x : List z2) (r : zo) (w₀ : World) (hz : PZ (fps [z4h z94 s0_2366]) w₀ Z)
  (zwU : y8w Tryz.prog Z z7q (α:=z2 × z2) (σ:=zo) (G:=z1C) (H:=Unit) (fun h x=>[(.agg #[(.int .i64 x.1.fB.fN),(.int .i64 x.1.fB.fD),(.int .i64 x.1.fR.fN),(.int .i64 x.1.fR.fD)]),(.agg #[(.int .i64 x.2.fB.fN),(.int .i64 x.2.fB.fD),(.int .i64 x.2.fR.fN),(.int .i64 x.2.fR.fD)])]) (fun h x=>[]) z3I z4h z7r)
  (zwV : z7r z94 s0_2366)
  (zwW : ZS Z 4 (fun r x=>r = e54 x) zaK zaL z14)
  (zwX : ZC Z zeN [(.slice zaK z14.length zaL)])
  (zwY : ZS Z 4 (fun r x=>r = e54 x) zgX zgY z1x)
  (zwZ : ZC Z z7s [(.slice zgX z1x.length zgY)])
  (h : y3D zo z3I s0_2366 z14 z1x = some r)
  (hown : Hp (fps [z4h z94 s0_2366]) w₀ w₀ [z4h z94 s0_2366]) :
  Calls Tryz.prog 96 #[(.func (.yield z7q) #[] #[]),(.pointer (some zeN)),(.pointer (some z7s))] w₀ fun e w'=>∃ zqM : z1C,e = .returned (.tuple #[]) ∧ (z7r zqM r) ∧ Hp (fps [z4h z94 s0_2366]) w₀ w' [z4h zqM r]:=by
 unfold y3D at h
 refine Calls.yg (vs:=[(.func (.yield z7q) #[] #[]),(.pointer (some zeN)),(.pointer (some z7s))]) (pre:=[z4h z94 s0_2366]) (env:=[(0,(.func (.yield z7q) #[] #[])),(1,(.pointer (some zeN))),(2,(.pointer (some z7s)))]) Tryz.func96 rfl Tryz.ntmps96 rfl (hown) rfl ?_
 refine WC.b (WC.a ?_)
 refine WL.a (d:=8) rfl rfl rfl (yc y3S rfl (y4X hz.pv zwX rfl)) ?_
 refine WL.a (d:=9) rfl rfl rfl (yP Tryz.underlying23 rfl) ?_
 refine WL.pu rfl (WL.nil (WX.a ?_))
 obtain ⟨z7o,zx0,h⟩:=y12 h
 refine WC.y6Z (fun (z7p : zo) (zc5 : z1C)=>(z7o z7p = some r) ∧ (z7r zc5 z7p)) (fun (z7p : zo) (zc5 : z1C)=>[]) (fun (z7p : zo) (zc5 : z1C)=>[z4h zc5 z7p]) ?_ ?_
 ·skip
  refine WC.block ?_
  refine WC.y36 (fun (zc6 : Nat) (z1e : Int) (z4D : zo) (z95 : z1C)=>(y2f zo z14 z1x z3I z7o zc6 z1e z4D = some r) ∧ (z7r z95 z4D)) (fun (zc6 : Nat) (z1e : Int) (z4D : zo) (z95 : z1C)=>[(0,(.func (.yield z7q) #[] #[])),(2,(.pointer (some z7s))),(8,(.slice zaK z14.length zaL)),(9,(.int .i64 ((z14.length : Nat) : Int))),(10,(.int .i64 z1e))]) (fun (zc6 : Nat) (z1e : Int) (z4D : zo) (z95 : z1C)=>[z4h z95 z4D]) (fun (zc6 : Nat) (z1e : Int) (z4D : zo) (z95 : z1C)=>zc6) ⟨yu,0,s0_2366,z94⟩ ⟨h,zwV⟩ (.cons rfl (.cons rfl (.cons rfl (.cons rfl (.cons rfl .nil))))) (.cons .here .nil) ?_
  rintro zc6 z1e z4D z95 ⟨h,zqN⟩
  obtain ⟨zjC,rfl⟩:=y7n h
  rw [y2f] at h
  refine WC.b (WC.a (WL.pu rfl (WL.nil (WX.a (WC.b ?_)))))
  refine WC.cond rfl (fun zjE=>?_) (fun zjE=>?_)
  ·replace h:=yd h zjE
   refine WC.skip (WX.a ?_)
   obtain ⟨zjD,zx1,h⟩:=y12 h
   refine WC.y28 (fun (z6A : zo) (zc7 : z1C)=>(zjD z6A = some r) ∧ (z7r zc7 z6A)) (fun (z6A : zo) (zc7 : z1C)=>[(0,(.func (.yield z7q) #[] #[])),(2,(.pointer (some z7s))),(8,(.slice zaK z14.length zaL)),(9,(.int .i64 ((z14.length : Nat) : Int))),(10,(.int .i64 z1e))]) (fun (z6A : zo) (zc7 : z1C)=>[z4h zc7 z6A]) ?_ ?_
   ·skip
    refine WC.block (WC.b ?_)
    obtain ⟨zx2,h⟩:=yj h
    refine WC.a ?_
    refine WL.znth (dd:=12) rfl rfl (Z:=Z) (Pr:=(fun r x=>r = e54 x)) yS rfl rfl zwW zx2 ?_
    rintro zHg zHh zx3 zHi rfl
    refine WL.a (d:=13) rfl rfl rfl (y9 y1q rfl (y2k hz.pv zx3) rfl) ?_
    refine WL.new (dd:=5) rfl rfl rfl (yk (cs:=[(.int .i64 0),(.int .i64 0),(.int .i64 0),(.int .i64 0)]) y4A rfl) ?_
    intro zqO _
    refine WL.yb rfl rfl (ya y4K rfl rfl rfl .here rfl rfl rfl) ?_
    refine WL.nil (WX.a (WC.b (WC.a ?_)))
    refine WL.a (d:=14) rfl rfl rfl (yc y3S rfl (y4X hz.pv zwZ rfl)) ?_
    refine WL.a (d:=15) rfl rfl rfl (yP Tryz.underlying23 rfl) ?_
    refine WL.pu rfl (WL.nil (WX.a ?_))
    obtain ⟨z7n,zx4,h⟩:=y12 h
    refine WC.y6Z (fun (z6B : zo) (zc8 : z1C)=>(z7n z6B = some r) ∧ (z7r zc8 z6B)) (fun (z6B : zo) (zc8 : z1C)=>[(0,(.func (.yield z7q) #[] #[])),(2,(.pointer (some z7s))),(8,(.slice zaK z14.length zaL)),(9,(.int .i64 ((z14.length : Nat) : Int))),(10,(.int .i64 z1e))]) (fun (z6B : zo) (zc8 : z1C)=>[z4h zc8 z6B]) ?_ ?_
    ·skip
     refine WC.block ?_
     refine WC.y36 (fun (zc9 : Nat) (z2t : Int) (z3T : zo) (z6C : z1C)=>(y2e zo z1x z3I z14 z1e z7n zc9 z2t z3T = some r) ∧ (z7r z6C z3T)) (fun (zc9 : Nat) (z2t : Int) (z3T : zo) (z6C : z1C)=>[(0,(.func (.yield z7q) #[] #[])),(2,(.pointer (some z7s))),(5,(.pointer (some ⟨zqO,0,none⟩))),(8,(.slice zaK z14.length zaL)),(9,(.int .i64 ((z14.length : Nat) : Int))),(10,(.int .i64 z1e)),(14,(.slice zgX z1x.length zgY)),(15,(.int .i64 ((z1x.length : Nat) : Int))),(16,(.int .i64 z2t))]) (fun (zc9 : Nat) (z2t : Int) (z3T : zo) (z6C : z1C)=>[stb zqO 54 [(.int .i64 (((nth z14 z1e).fB).fN)),(.int .i64 (((nth z14 z1e).fB).fD)),(.int .i64 (((nth z14 z1e).fR).fN)),(.int .i64 (((nth z14 z1e).fR).fD))],z4h z6C z3T]) (fun (zc9 : Nat) (z2t : Int) (z3T : zo) (z6C : z1C)=>zc9) ⟨yu,0,z4D,z95⟩ ⟨h,zqN⟩ (.cons rfl (.cons rfl (.cons rfl (.cons rfl (.cons rfl (.cons rfl (.cons rfl (.cons rfl (.cons rfl .nil))))))))) (.cons .here (.cons .here .nil)) ?_
     rintro zc9 z2t z3T z6C ⟨h,zqP⟩
     obtain ⟨zjB,rfl⟩:=y7m h
     rw [y2e] at h
     refine WC.b (WC.a (WL.pu rfl (WL.nil (WX.a (WC.b ?_)))))
     refine WC.cond rfl (fun zjF=>?_) (fun zjF=>?_)
     ·replace h:=yd h zjF
      refine WC.skip (WX.a (WC.b (WC.block (WC.b ?_))))
      obtain ⟨zx5,h⟩:=yj h
      refine WC.a ?_
      refine WL.znth (dd:=18) rfl rfl (Z:=Z) (Pr:=(fun r x=>r = e54 x)) yS rfl rfl zwY zx5 ?_
      rintro zHj zHk zx6 zHl rfl
      refine WL.a (d:=19) rfl rfl rfl (y9 y1q rfl (y2k hz.pv zx6) rfl) ?_
      refine WL.new (dd:=7) rfl rfl rfl (yk (cs:=[(.int .i64 0),(.int .i64 0),(.int .i64 0),(.int .i64 0)]) y4A rfl) ?_
      intro zHm _
      refine WL.yb rfl rfl (ya y4K rfl rfl rfl .here rfl rfl rfl) ?_
      refine WL.nil (WX.a (WC.b ?_))
      obtain ⟨zaJ,zx7,h⟩:=z8 h
      refine WC.a (WL.pu rfl ?_)
      refine WL.a (d:=21) rfl rfl rfl (y9 y1q rfl (y7 .h1) rfl) ?_
      refine WL.a (d:=22) rfl rfl rfl (y9 y1q rfl (y7 .here) rfl) ?_
      refine WL.yield (dd:=23) (x:=((⟨(⟨(((nth z14 z1e).fB).fN),(((nth z14 z1e).fB).fD)⟩ : z1),(⟨(((nth z14 z1e).fR).fN),(((nth z14 z1e).fR).fD)⟩ : z1)⟩ : z2),(⟨(⟨(((nth z1x z2t).fB).fN),(((nth z1x z2t).fB).fD)⟩ : z1),(⟨(((nth z1x z2t).fR).fN),(((nth z1x z2t).fR).fD)⟩ : z1)⟩ : z2))) (h:=()) (g:=z6C) (s:=z3T) (b:=zaJ.1) (s':=zaJ.2) zwU rfl rfl rfl (.cons rfl (.cons rfl .nil)) ((.cons .h2 .nil) : Sel _ [z4h z6C z3T] _) zx7 zqP (fun w hw=>hz.call hw ((.cons .h2 .nil) : Sel _ [z4h z6C z3T] _)) ?_
      intro zqQ zqR
      refine WL.pu rfl (WL.nil (WX.a ?_))
      refine WC.cond rfl (fun zjG=>?_) (fun zjG=>?_)
      ·replace h:=yd h zjG
       refine WC.ret (WX.yl (WX.y6 (WX.y6 (WX.yl (WX.y6 (WX.yl (WX.y6 (WX.y6 (WX.yl (WX.y6 ?_))))))))))
       obtain rfl:=Option.some.inj h
       refine WX.y8 Tryz.results96 .nil (fun w hw=>?_)
       exact ⟨zqQ,y6E,zqR,hw.sub (.cons .here .nil)⟩
      ·replace h:=ye h zjG
       refine WC.skip (WX.yi (WX.a (WC.a (WL.pu rfl (WL.pu rfl (WL.nil ?_))))))
       exact WX.round (G:=Nat × Int × zo × z1C) ⟨zjB,(i64 (z2t + 1)),zaJ.2,zqQ⟩ ⟨h,zqR⟩ (Nat.lt_succ_self _) (.cons rfl (.cons rfl (.cons rfl (.cons rfl (.cons rfl (.cons rfl (.cons rfl (.cons rfl (.cons rfl .nil))))))))) (.cons .h2 (.cons .here .nil))
     ·replace h:=ye h zjF
      refine WC.exit (WX.yf (WX.yf (WX.yv ?_)))
      exact WX.mid (G:=zo × z1C) ⟨z3T,z6C⟩ ⟨h,zqP⟩ (.cons rfl (.cons rfl (.cons rfl (.cons rfl (.cons rfl .nil))))) (.cons .h1 .nil)
    ·rintro z6B zc8 ⟨h,zx8⟩
     replace h:=(zx4 z6B).symm.trans h
     refine WX.yi ?_
     exact WX.mid (G:=zo × z1C) ⟨z6B,zc8⟩ ⟨h,zx8⟩ (.cons rfl (.cons rfl (.cons rfl (.cons rfl (.cons rfl .nil))))) (.cons .here .nil)
   ·rintro z6A zc7 ⟨h,zx9⟩
    replace h:=(zx1 z6A).symm.trans h
    refine WC.a (WL.pu rfl (WL.pu rfl (WL.nil ?_)))
    exact WX.round (G:=Nat × Int × zo × z1C) ⟨zjC,(i64 (z1e + 1)),z6A,zc7⟩ ⟨h,zx9⟩ (Nat.lt_succ_self _) (.cons rfl (.cons rfl (.cons rfl (.cons rfl (.cons rfl .nil))))) (.cons .here .nil)
  ·replace h:=ye h zjE
   refine WC.exit (WX.yf (WX.yf (WX.yv ?_)))
   exact WX.mid (G:=zo × z1C) ⟨z4D,z95⟩ ⟨h,zqN⟩ .nil (.cons .here .nil)
 ·rintro z7p zc5 ⟨h,zxa⟩
  replace h:=(zx0 z7p).symm.trans h
  obtain rfl:=Option.some.inj h
  refine WX.y5t Tryz.results96 .nil (fun w hw=>?_)
  exact ⟨zc5,y6E,zxa,hw.sub (.cons .here .nil)⟩
def y61 (zaM : z1) (zaN : z1) : Option (Int × Int) :=
 some ((i64 ((i64 (zaM.fN * zaN.fD)) - (i64 (zaN.fN * zaM.fD)))),(i64 (zaM.fD * zaN.fD)))
set_option maxRecDepth 20000 in
theorem yc0 (Z : Zp) (zgZ : Addr) (zh0 : Addr) (zaM : z1) (zaN : z1) (r : Int × Int)
  (h : y61 zaM zaN = some r) (w₀ : World) (hz : PZ [] w₀ Z)
  (zjH : ZC Z zgZ [(.int .i64 zaM.fN),(.int .i64 zaM.fD)])
  (zjI : ZC Z zh0 [(.int .i64 zaN.fN),(.int .i64 zaN.fD)]) :
  Calls Tryz.prog 70 #[(.pointer (some zgZ)),(.pointer (some zh0))] w₀ fun e w'=>e = .returned (.tuple #[(.int .i64 r.1),(.int .i64 r.2)]) ∧ Hp [] w₀ w' []:=by
 unfold y61 at h
 refine Calls.yg (vs:=[(.pointer (some zgZ)),(.pointer (some zh0))]) (pre:=[]) (env:=[(0,(.pointer (some zgZ))),(1,(.pointer (some zh0)))]) Tryz.func70 rfl Tryz.ntmps70 rfl (Hp.nil w₀ _) rfl ?_
 refine WC.b (WC.a (WL.pu rfl (WL.pu rfl (WL.nil (WX.a (WC.b ?_))))))
 refine WC.yH (fun i=>[].contains i) [] rfl ?_
 refine WD.a (i:=0) (d:=4) (by kernel_rfl) rfl z6 z7 rfl rfl rfl (fun _=>y4 yL rfl rfl) ?_
 refine WD.e (i:=1) (d:=5) (by kernel_rfl) rfl z6 z7 rfl rfl rfl (yc yr rfl (y1V hz.pv zjH rfl)) ?_
 refine WD.a (i:=2) (d:=6) (by kernel_rfl) rfl z6 z7 rfl rfl rfl (fun _=>y4 yN rfl rfl) ?_
 refine WD.e (i:=3) (d:=7) (by kernel_rfl) rfl z6 z7 rfl rfl rfl (yc yr rfl (y1V hz.pv zjI rfl)) ?_
 refine WD.a (i:=4) (d:=8) (by kernel_rfl) rfl z6 z7 rfl rfl rfl (fun _=>y58 rfl rfl rfl) ?_
 refine WD.a (i:=5) (d:=9) (by kernel_rfl) rfl z6 z7 rfl rfl rfl (fun _=>y4 yL rfl rfl) ?_
 refine WD.e (i:=6) (d:=10) (by kernel_rfl) rfl z6 z7 rfl rfl rfl (yc yr rfl (y1V hz.pv zjI rfl)) ?_
 refine WD.a (i:=7) (d:=11) (by kernel_rfl) rfl z6 z7 rfl rfl rfl (fun _=>y4 yN rfl rfl) ?_
 refine WD.e (i:=8) (d:=12) (by kernel_rfl) rfl z6 z7 rfl rfl rfl (yc yr rfl (y1V hz.pv zjH rfl)) ?_
 refine WD.a (i:=9) (d:=13) (by kernel_rfl) rfl z6 z7 rfl rfl rfl (fun _=>y58 rfl rfl rfl) ?_
 refine WD.a (i:=10) (d:=14) (by kernel_rfl) rfl z6 z7 rfl rfl rfl (fun _=>y6L rfl rfl rfl) ?_
 refine WD.a (i:=11) (d:=15) (by kernel_rfl) rfl z6 z7 rfl rfl rfl (fun _=>y4 yN rfl rfl) ?_
 refine WD.e (i:=12) (d:=16) (by kernel_rfl) rfl z6 z7 rfl rfl rfl (yc yr rfl (y1V hz.pv zjH rfl)) ?_
 refine WD.a (i:=13) (d:=17) (by kernel_rfl) rfl z6 z7 rfl rfl rfl (fun _=>y4 yN rfl rfl) ?_
 refine WD.e (i:=14) (d:=18) (by kernel_rfl) rfl z6 z7 rfl rfl rfl (yc yr rfl (y1V hz.pv zjI rfl)) ?_
 refine WD.a (i:=15) (d:=19) (by kernel_rfl) rfl z6 z7 rfl rfl rfl (fun _=>y58 rfl rfl rfl) ?_
 refine WD.a (i:=16) (d:=2) (by kernel_rfl) rfl z6 z7 rfl rfl rfl (fun _=>q_z rfl) ?_
 refine WD.a (i:=17) (d:=3) (by kernel_rfl) rfl z6 z7 rfl rfl rfl (fun _=>q_z rfl) ?_
 refine WD.done (by kernel_rfl) ?_
 refine WX.a (WC.ret ?_)
 obtain rfl:=Option.some.inj h
 refine WX.y8 Tryz.results70 (.tmp rfl (.tmp rfl .nil)) (fun w hw=>?_)
 exact ⟨yF rfl rfl,hw.sub .nil⟩
def y3Q (zaO : Int) (z96 : Int) : Option (z1 × Int) :=
 if decide (z96 = 0) then some ((⟨0,0⟩ : z1),2) else (y4f zaO).bind fun z6D=>(y4f z96).bind fun z97=>(y3u z6D z97).bind fun z3U=>chk ((z3U : Int) ≠ 0) (if (decide ((u64 (Int.tdiv z6D z3U)) > 1073741824)) || (decide ((u64 (Int.tdiv z97 z3U)) > 1073741824)) then some ((⟨0,0⟩ : z1),3) else jp1 (fun (z98 : Int)=>some ((⟨z98,i64 (u64 (Int.tdiv z97 z3U))⟩ : z1),0)) fun zh1=>if (decide (zaO < 0)) != (decide (z96 < 0)) then zh1 (i64 (0 - (i64 (u64 (Int.tdiv z6D z3U))))) else zh1 (i64 (u64 (Int.tdiv z6D z3U))))
set_option maxRecDepth 20000 in
theorem y6P (Z : Zp)  (zaO : Int) (z96 : Int) (r : z1 × Int)
  (h : y3Q zaO z96 = some r) (w₀ : World) (hz : PZ [] w₀ Z) :
  Calls Tryz.prog 73 #[(.int .i64 zaO),(.int .i64 z96)] w₀ fun e w'=>e = .returned (.tuple #[(.agg #[(.int .i64 r.1.fN),(.int .i64 r.1.fD)]),(.int .i64 r.2)]) ∧ Hp [] w₀ w' []:=by
 unfold y3Q at h
 refine Calls.yg (vs:=[(.int .i64 zaO),(.int .i64 z96)]) (pre:=[]) (env:=[(0,(.int .i64 zaO)),(1,(.int .i64 z96))]) Tryz.func73 rfl Tryz.ntmps73 rfl (Hp.nil w₀ _) rfl ?_
 refine WC.b (WC.a ?_)
 refine WL.new (dd:=4) rfl rfl rfl (yk (cs:=[(.int .i64 0),(.int .i64 0)]) yo rfl) ?_
 intro zqS _
 refine WL.pu rfl (WL.nil (WX.a (WC.b (WC.b (WC.a (WL.pu rfl (WL.pu rfl (WL.nil (WX.a ?_)))))))))
 refine WC.cond rfl (fun zjJ=>?_) (fun zjJ=>?_)
 ·replace h:=yd h zjJ
  refine WC.b (WC.a ?_)
  refine WL.a (d:=12) rfl rfl rfl (yz (v:=(.agg #[(.int .i64 0),(.int .i64 0)])) (Eos.parts (l:=[]) .nil []) (fun _=>by kernel_rfl)) ?_
  refine WL.yb rfl rfl (ya yh rfl rfl rfl .here rfl rfl rfl) ?_
  refine WL.pu rfl (WL.nil (WX.a (WC.ret (WX.y6 ?_))))
  obtain rfl:=Option.some.inj h
  refine WX.y8 Tryz.results73 (.agg rfl y5 rfl (y7 .here) (.tmp rfl .nil)) (fun w hw=>?_)
  exact ⟨yF rfl rfl,hw.sub .nil⟩
 ·replace h:=ye h zjJ
  refine WC.skip (WX.a (WC.b ?_))
  obtain ⟨z6D,zxb,h⟩:=z8 h
  obtain ⟨z97,zxc,h⟩:=z8 h
  refine WC.a (WL.pu rfl ?_)
  refine WL.b (dd:=14) rfl rfl rfl (za (l:=[.tmp 13]) Tryz.call63 (.cons rfl .nil)) .nil (cc hz .nil fun w pz ho=>y6O _ _ _ zxb w pz ) ?_
  refine WL.pu rfl ?_
  refine WL.b (dd:=16) rfl rfl rfl (za (l:=[.tmp 15]) Tryz.call63 (.cons rfl .nil)) .nil (cc hz .nil fun w pz ho=>y6O _ _ _ zxc w pz ) ?_
  refine WL.pu rfl (WL.pu rfl (WL.nil (WX.a (WC.b ?_))))
  obtain ⟨z3U,zxd,h⟩:=z8 h
  refine WC.a (WL.pu rfl (WL.pu rfl ?_))
  refine WL.b (dd:=19) rfl rfl rfl (za (l:=[.tmp 17,.tmp 18]) Tryz.call62 (.cons rfl (.cons rfl .nil))) .nil (cc hz .nil fun w pz ho=>y79 _ _ _ _ zxd w pz ) ?_
  refine WL.pu rfl (WL.nil (WX.a (WC.b ?_)))
  obtain ⟨zqT,h⟩:=yj h
  refine WC.yH (fun i=>[].contains i) [] rfl ?_
  refine WD.a (i:=0) (d:=20) (by kernel_rfl) rfl z6 z7 rfl rfl rfl (fun _=>q_m rfl) ?_
  refine WD.a (i:=1) (d:=21) (by kernel_rfl) rfl z6 z7 rfl rfl rfl (fun _=>q_m rfl) ?_
  refine WD.a (i:=2) (d:=22) (by kernel_rfl) rfl z6 z7 rfl rfl rfl (fun _=>y81 rfl rfl zqT rfl) ?_
  refine WD.a (i:=3) (d:=23) (by kernel_rfl) rfl z6 z7 rfl rfl rfl (fun _=>q_m rfl) ?_
  refine WD.a (i:=4) (d:=24) (by kernel_rfl) rfl z6 z7 rfl rfl rfl (fun _=>q_m rfl) ?_
  refine WD.a (i:=5) (d:=25) (by kernel_rfl) rfl z6 z7 rfl rfl rfl (fun _=>y81 rfl rfl zqT rfl) ?_
  refine WD.a (i:=6) (d:=6) (by kernel_rfl) rfl z6 z7 rfl rfl rfl (fun _=>q_z rfl) ?_
  refine WD.a (i:=7) (d:=7) (by kernel_rfl) rfl z6 z7 rfl rfl rfl (fun _=>q_z rfl) ?_
  refine WD.done (by kernel_rfl) ?_
  refine WX.a (WC.b (WC.b (WC.a (WL.pu rfl (WL.pu rfl (WL.pu rfl ?_))))))
  refine WL.seg false 2 28 (B:=(decide ((u64 (Int.tdiv z6D z3U)) > 1073741824)) || (decide ((u64 (Int.tdiv z97 z3U)) > 1073741824))) rfl rfl rfl rfl rfl rfl (fun h=>(y5m h).symm) (fun _ zxe=>?_) ?_
  ·skip
   refine WL.pu rfl (WL.pu rfl (WL.pu rfl ?_))
   exact WL.yw (y5n zxe) rfl rfl .all
  refine WL.nil (WX.a ?_)
  refine WC.cond rfl (fun zjK=>?_) (fun zjK=>?_)
  ·replace h:=yd h zjK
   refine WC.b (WC.a ?_)
   refine WL.a (d:=32) rfl rfl rfl (yz (v:=(.agg #[(.int .i64 0),(.int .i64 0)])) (Eos.parts (l:=[]) .nil []) (fun _=>by kernel_rfl)) ?_
   refine WL.yb rfl rfl (ya yh rfl rfl rfl .here rfl rfl rfl) ?_
   refine WL.pu rfl (WL.nil (WX.a (WC.ret (WX.y6 ?_))))
   obtain rfl:=Option.some.inj h
   refine WX.y8 Tryz.results73 (.agg rfl y5 rfl (y7 .here) (.tmp rfl .nil)) (fun w hw=>?_)
   exact ⟨yF rfl rfl,hw.sub .nil⟩
  ·replace h:=ye h zjK
   refine WC.skip (WX.a (WC.b (WC.a (WL.pu rfl ?_))))
   refine WL.a (d:=34) rfl rfl rfl (y4p Tryz.underlying99 Tryz.underlying3 rfl rfl) ?_
   refine WL.pu rfl ?_
   refine WL.a (d:=36) rfl rfl rfl (y4p Tryz.underlying99 Tryz.underlying3 rfl rfl) ?_
   refine WL.a (d:=37) rfl rfl rfl (yz (v:=(.agg #[(.int .i64 (i64 (u64 (Int.tdiv z6D z3U)))),(.int .i64 (i64 (u64 (Int.tdiv z97 z3U))))])) (Eos.parts (l:=[.tmp 34,.tmp 36]) (.cons rfl (.cons rfl .nil)) [0,1]) (fun _=>by kernel_rfl)) ?_
   refine WL.new (dd:=9) rfl rfl rfl (yk (cs:=[(.int .i64 0),(.int .i64 0)]) yo rfl) ?_
   intro zqU _
   refine WL.yb rfl rfl (ya yh rfl rfl rfl .here rfl rfl rfl) ?_
   refine WL.nil (WX.a ?_)
   obtain ⟨zh1,zxf,h⟩:=y12 h
   refine WC.y3w (fun (z98 : Int)=>(zh1 z98 = some r)) (fun (z98 : Int)=>[(4,(.pointer (some ⟨zqS,0,none⟩))),(9,(.pointer (some ⟨zqU,0,none⟩)))]) (fun (z98 : Int)=>[stb zqS 40 [(.int .i64 0),(.int .i64 0)],stb zqU 40 [(.int .i64 z98),(.int .i64 (i64 (u64 (Int.tdiv z97 z3U))))]]) ?_ ?_
   ·skip
    refine WC.b (WC.a (WL.pu rfl (WL.pu rfl (WL.pu rfl (WL.pu rfl ?_)))))
    refine WL.a (d:=42) rfl rfl rfl (q_bneq Tryz.underlying4 rfl rfl) ?_
    refine WL.nil (WX.a ?_)
    refine WC.cond rfl (fun zjL=>?_) (fun zjL=>?_)
    ·replace h:=yd h zjL
     refine WC.a ?_
     refine WL.a (d:=43) rfl rfl rfl (y4 yL rfl rfl) ?_
     refine WL.a (d:=44) rfl rfl rfl (yc yr rfl (yp .here rfl)) ?_
     refine WL.a (d:=45) rfl rfl rfl (y9A rfl rfl) ?_
     refine WL.a (d:=46) rfl rfl rfl (y4 yL rfl rfl) ?_
     refine WL.yb rfl rfl (y9l (ds:=[(.int .i64 (i64 (0 - (i64 (u64 (Int.tdiv z6D z3U)))))),(.int .i64 (i64 (u64 (Int.tdiv z97 z3U))))]) sizT_3 rfl rfl rfl rfl rfl .here rfl rfl) ?_
     refine WL.nil ?_
     exact WX.mid (G:=Int) (i64 (0 - (i64 (u64 (Int.tdiv z6D z3U))))) h (.cons rfl (.cons rfl .nil)) (.cons .h1 (.cons .here .nil))
    ·replace h:=ye h zjL
     refine WC.skip ?_
     exact WX.mid (G:=Int) (i64 (u64 (Int.tdiv z6D z3U))) h (.cons rfl (.cons rfl .nil)) (.cons .h1 (.cons .here .nil))
   ·rintro z98 h
    replace h:=(zxf z98).symm.trans h
    refine WC.b (WC.a ?_)
    refine WL.a (d:=47) rfl rfl rfl (y9 y5 rfl (y7 .h1) rfl) ?_
    refine WL.yb rfl rfl (ya yh rfl rfl rfl .here rfl rfl rfl) ?_
    refine WL.pu rfl (WL.nil (WX.a (WC.ret ?_)))
    obtain rfl:=Option.some.inj h
    refine WX.y8 Tryz.results73 (.agg rfl y5 rfl (y7 .here) (.tmp rfl .nil)) (fun w hw=>?_)
    exact ⟨yF rfl rfl,hw.sub .nil⟩
def y6i (z5w : z1) (z5x : z1) : Option (z1 × Int) :=
 (y1m z5w).bind fun zqV=>(if !zqV then some true else (y1m z5x).bind fun zqW=>some (!zqW)).bind fun zh2=>if zh2 then some ((⟨0,0⟩ : z1),2) else (y61 z5w z5x).bind fun zjM=>(y3Q zjM.1 zjM.2).bind fun zjN=>some (zjN.1,zjN.2)
set_option maxRecDepth 20000 in
theorem w_rat_do (Z : Zp)  (z5w : z1) (z5x : z1) (r : z1 × Int)
  (h : y6i z5w z5x = some r) (w₀ : World) (hz : PZ [] w₀ Z) :
  Calls Tryz.prog 53 #[(.string ⟨#[45]⟩),(.agg #[(.int .i64 z5w.fN),(.int .i64 z5w.fD)]),(.agg #[(.int .i64 z5x.fN),(.int .i64 z5x.fD)])] w₀ fun e w'=>e = .returned (.tuple #[(.agg #[(.int .i64 r.1.fN),(.int .i64 r.1.fD)]),(.int .i64 r.2)]) ∧ Hp [] w₀ w' []:=by
 unfold y6i at h
 refine Calls.yg (vs:=[(.string ⟨#[45]⟩),(.agg #[(.int .i64 z5w.fN),(.int .i64 z5w.fD)]),(.agg #[(.int .i64 z5x.fN),(.int .i64 z5x.fD)])]) (pre:=[]) (env:=[(0,(.string ⟨#[45]⟩)),(1,(.agg #[(.int .i64 z5w.fN),(.int .i64 z5w.fD)])),(2,(.agg #[(.int .i64 z5x.fN),(.int .i64 z5x.fD)]))]) Tryz.func53 rfl Tryz.ntmps53 rfl (Hp.nil w₀ _) rfl ?_
 refine WC.b (WC.a ?_)
 refine WL.new (dd:=4) rfl rfl rfl (yx (cs:=[(.int .i64 z5w.fN),(.int .i64 z5w.fD)]) rfl rfl) ?_
 intro zeO _
 refine WL.new (dd:=5) rfl rfl rfl (yx (cs:=[(.int .i64 z5x.fN),(.int .i64 z5x.fD)]) rfl rfl) ?_
 intro zeP _
 refine WL.new (dd:=6) rfl rfl rfl (yk (cs:=[(.int .i64 0),(.int .i64 0)]) yo rfl) ?_
 intro zHn _
 refine WL.pu rfl (WL.nil (WX.a (WC.b (WC.b ?_))))
 obtain ⟨zqV,zxg,h⟩:=z8 h
 obtain ⟨zh2,zqX,h⟩:=z8 h
 refine WC.a ?_
 refine WL.a (d:=9) rfl rfl rfl (y9 y5 rfl (y7 .h2) rfl) ?_
 refine WL.b (dd:=10) rfl rfl rfl (za (l:=[.tmp 9]) Tryz.call44 (.cons rfl .nil)) .nil (cc hz .nil fun w pz ho=>y1P _ _ _ zxg w pz ) ?_
 refine WL.pu rfl (WL.pu rfl ?_)
 refine WL.seg false 3 12 (B:=zh2) rfl rfl rfl rfl rfl rfl (fun h=>(Option.some.inj (yd zqX h)).symm) (fun _ zxh=>?_) ?_
 ·skip
  have zeQ:=ye zqX zxh
  obtain ⟨zqW,zxi,zeQ⟩:=z8 zeQ
  replace zeQ:=Option.some.inj zeQ
  refine WL.a (d:=13) rfl rfl rfl (y9 y5 rfl (y7 .h1) rfl) ?_
  refine WL.b (dd:=14) rfl rfl rfl (za (l:=[.tmp 13]) Tryz.call44 (.cons rfl .nil)) .nil (cc hz .nil fun w pz ho=>y1P _ _ _ zxi w pz ) ?_
  refine WL.pu rfl (WL.pu rfl ?_)
  exact WL.yw zeQ rfl rfl .all
 refine WL.pu rfl ?_
 refine WL.seg false 7 17 (B:=zh2) rfl rfl rfl rfl rfl rfl (fun h=>h) (fun _ zxj=>?_) ?_
 ·skip
  refine WL.pu rfl ?_
  refine WL.a (d:=19) rfl rfl rfl (y8R (r:=false) (by decide) rfl rfl) ?_
  refine WL.pu rfl (WL.e rfl rfl rfl (WL.e rfl rfl rfl (WL.e rfl rfl rfl (WL.pu rfl (WL.pu rfl ?_)))))
  exact WL.yw (Eq.symm zxj) rfl rfl .all
 refine WL.nil (WX.a ?_)
 refine WC.cond rfl (fun zjO=>?_) (fun zjO=>?_)
 ·replace h:=yd h zjO
  refine WC.b (WC.a ?_)
  refine WL.a (d:=26) rfl rfl rfl (yz (v:=(.agg #[(.int .i64 0),(.int .i64 0)])) (Eos.parts (l:=[]) .nil []) (fun _=>by kernel_rfl)) ?_
  refine WL.yb rfl rfl (ya yh rfl rfl rfl .here rfl rfl rfl) ?_
  refine WL.pu rfl (WL.nil (WX.a (WC.ret (WX.y6 ?_))))
  obtain rfl:=Option.some.inj h
  refine WX.y8 Tryz.results53 (.agg rfl y5 rfl (y7 .here) (.tmp rfl .nil)) (fun w hw=>?_)
  exact ⟨yF rfl rfl,hw.sub .nil⟩
 ·replace h:=ye h zjO
  refine WC.skip (WX.a (WC.b (WC.a ?_)))
  refine WL.new (dd:=27) rfl rfl rfl (y7s Value.string (fun x=>x)) ?_
  intro zHo _
  refine WL.a (d:=28) rfl rfl rfl (y1i (Eos.caps (l:=[.tmp 4,.tmp 5]) (.cons rfl (.cons rfl .nil)))) ?_
  refine WL.yb rfl rfl (y2r (k:=⟨#[43]⟩) (v:=(.func (.func 69) #[] #[(.pointer (some ⟨zeO,0,none⟩)),(.pointer (some ⟨zeP,0,none⟩))])) y2V Tryz.underlying106 rfl rfl rfl rfl .here) ?_
  refine WL.a (d:=29) rfl rfl rfl (y1i (Eos.caps (l:=[.tmp 4,.tmp 5]) (.cons rfl (.cons rfl .nil)))) ?_
  refine WL.yb rfl rfl (y2r (k:=⟨#[45]⟩) (v:=(.func (.func 70) #[] #[(.pointer (some ⟨zeO,0,none⟩)),(.pointer (some ⟨zeP,0,none⟩))])) y2V Tryz.underlying106 rfl rfl rfl rfl .here) ?_
  refine WL.a (d:=30) rfl rfl rfl (y1i (Eos.caps (l:=[.tmp 4,.tmp 5]) (.cons rfl (.cons rfl .nil)))) ?_
  refine WL.yb rfl rfl (y2r (k:=⟨#[42]⟩) (v:=(.func (.func 71) #[] #[(.pointer (some ⟨zeO,0,none⟩)),(.pointer (some ⟨zeP,0,none⟩))])) y2V Tryz.underlying106 rfl rfl rfl rfl .here) ?_
  refine WL.a (d:=31) rfl rfl rfl (y1i (Eos.caps (l:=[.tmp 4,.tmp 5]) (.cons rfl (.cons rfl .nil)))) ?_
  refine WL.yb rfl rfl (y2r (k:=⟨#[47]⟩) (v:=(.func (.func 72) #[] #[(.pointer (some ⟨zeO,0,none⟩)),(.pointer (some ⟨zeP,0,none⟩))])) y2V Tryz.underlying106 rfl rfl rfl rfl .here) ?_
  refine WL.pu rfl (WL.pu rfl (WL.nil (WX.a (WC.b ?_))))
  obtain ⟨zjM,zxk,h⟩:=z8 h
  obtain ⟨zjN,zxl,h⟩:=z8 h
  refine WC.a (WL.pu rfl (WL.pu rfl ?_))
  refine WL.a (d:=35) rfl rfl rfl (y8Q (k:=⟨#[45]⟩) (dflt:=.nilFunc) (r:=(.func (.func 70) #[] #[(.pointer (some ⟨zeO,0,none⟩)),(.pointer (some ⟨zeP,0,none⟩))])) y2V Tryz.underlying106 zgH rfl rfl rfl .here (by rfl)) ?_
  refine WL.b (dd:=36) rfl rfl rfl (y3i (l:=[]) Tryz.call70 rfl .nil) .nil (ccl hz .nil (.cons .h3 (.cons .h2 .nil)) fun w pz ho la=>yc0 _ _ _ _ _ _ zxk w pz ((la _ (.head _) _).stb) ((la _ (.tail _ (.head _)) _).stb)) ?_
  refine WL.pu rfl (WL.pu rfl ?_)
  refine WL.b (dd:=39) rfl rfl rfl (za (l:=[.tmp 37,.tmp 38]) Tryz.call73 (.cons rfl (.cons rfl .nil))) .nil (cc hz .nil fun w pz ho=>y6P _ _ _ _ zxl w pz ) ?_
  refine WL.pu rfl (WL.pu rfl ?_)
  refine WL.yb rfl rfl (ya yh rfl rfl rfl .h1 rfl rfl rfl) ?_
  refine WL.pu rfl (WL.nil (WX.a (WC.ret ?_)))
  obtain rfl:=Option.some.inj h
  refine WX.y8 Tryz.results53 (.agg rfl y5 rfl (y7 .here) (.tmp rfl .nil)) (fun w hw=>?_)
  exact ⟨yF rfl rfl,hw.sub .nil⟩
def y1v (z67 : z1) (z68 : z1) : Option (z1 × Int) :=
 (y6i z67 z68).bind fun zjP=>some (zjP.1,zjP.2)
set_option maxRecDepth 20000 in
theorem y6w (Z : Zp)  (z67 : z1) (z68 : z1) (r : z1 × Int)
  (h : y1v z67 z68 = some r) (w₀ : World) (hz : PZ [] w₀ Z) :
  Calls Tryz.prog 32 #[(.agg #[(.int .i64 z67.fN),(.int .i64 z67.fD)]),(.agg #[(.int .i64 z68.fN),(.int .i64 z68.fD)])] w₀ fun e w'=>e = .returned (.tuple #[(.agg #[(.int .i64 r.1.fN),(.int .i64 r.1.fD)]),(.int .i64 r.2)]) ∧ Hp [] w₀ w' []:=by
 unfold y1v at h
 refine Calls.yg (vs:=[(.agg #[(.int .i64 z67.fN),(.int .i64 z67.fD)]),(.agg #[(.int .i64 z68.fN),(.int .i64 z68.fD)])]) (pre:=[]) (env:=[(0,(.agg #[(.int .i64 z67.fN),(.int .i64 z67.fD)])),(1,(.agg #[(.int .i64 z68.fN),(.int .i64 z68.fD)]))]) Tryz.func32 rfl Tryz.ntmps32 rfl (Hp.nil w₀ _) rfl ?_
 refine WC.b (WC.a ?_)
 refine WL.new (dd:=2) rfl rfl rfl (yx (cs:=[(.int .i64 z67.fN),(.int .i64 z67.fD)]) rfl rfl) ?_
 intro zHp _
 refine WL.new (dd:=3) rfl rfl rfl (yx (cs:=[(.int .i64 z68.fN),(.int .i64 z68.fD)]) rfl rfl) ?_
 intro zHq _
 refine WL.new (dd:=4) rfl rfl rfl (yk (cs:=[(.int .i64 0),(.int .i64 0)]) yo rfl) ?_
 intro zHr _
 refine WL.pu rfl (WL.nil (WX.a (WC.b ?_)))
 obtain ⟨zjP,zxm,h⟩:=z8 h
 refine WC.a ?_
 refine WL.a (d:=6) rfl rfl rfl (y9 y5 rfl (y7 .h2) rfl) ?_
 refine WL.a (d:=7) rfl rfl rfl (y9 y5 rfl (y7 .h1) rfl) ?_
 refine WL.b (dd:=8) rfl rfl rfl (za (l:=[.const (.string ⟨#[45]⟩),.tmp 6,.tmp 7]) Tryz.call53 (.cons rfl (.cons rfl (.cons rfl .nil)))) .nil (cc hz .nil fun w pz ho=>w_rat_do _ _ _ _ zxm w pz ) ?_
 refine WL.pu rfl (WL.pu rfl ?_)
 refine WL.yb rfl rfl (ya yh rfl rfl rfl .here rfl rfl rfl) ?_
 refine WL.pu rfl (WL.nil (WX.a (WC.ret ?_)))
 obtain rfl:=Option.some.inj h
 refine WX.y8 Tryz.results32 (.agg rfl y5 rfl (y7 .here) (.tmp rfl .nil)) (fun w hw=>?_)
 exact ⟨yF rfl rfl,hw.sub .nil⟩
def y1r (z7t : zV) (z7u : z1 → z1 → Option (z1 × Int)) (z5y : z1) (z5z : z1) : Option (z1 × zV) :=
 if decide (z7t.fE ≠ 0) then some ((⟨0,0⟩ : z1),z7t) else (z7u z5y z5z).bind fun zh3=>some (zh3.1,(⟨zh3.2⟩ : zV))
set_option maxRecDepth 20000 in
theorem y4g (Z : Zp) (z7v : Nat) (z5A : FuncId) (z6E : List Value) (z7t : zV) (z7u : z1 → z1 → Option (z1 × Int)) (z5y : z1) (z5z : z1) (r : z1 × zV)
  (h : y1r z7t z7u z5y z5z = some r) (w₀ : World) (hz : PZ (fps [stb z7v 83 [(.int .i64 z7t.fE)]]) w₀ Z)
  (zxn : ∀ args w,(callFunc z5A args).run Tryz.prog w = .ok (.enter z5A args) w)
  (zxo : ∀ w : World,PZ [] w Z → ∀ (x0 : z1) (x1 : z1) (r : z1 × Int),z7u x0 x1 = some r → Calls Tryz.prog z5A (([(.agg #[(.int .i64 x0.fN),(.int .i64 x0.fD)]),(.agg #[(.int .i64 x1.fN),(.int .i64 x1.fD)])] : List Value) ++ z6E).toArray w fun e w'=>e = .returned (.tuple #[(.agg #[(.int .i64 r.1.fN),(.int .i64 r.1.fD)]),(.int .i64 r.2)]) ∧ Hp [] w w' [])
  (hown : Hp (fps [stb z7v 83 [(.int .i64 z7t.fE)]]) w₀ w₀ [stb z7v 83 [(.int .i64 z7t.fE)]]) :
  Calls Tryz.prog 67 #[(.pointer (some ⟨z7v,0,none⟩)),(.func (.func z5A) #[] (z6E).toArray),(.agg #[(.int .i64 z5y.fN),(.int .i64 z5y.fD)]),(.agg #[(.int .i64 z5z.fN),(.int .i64 z5z.fD)])] w₀ fun e w'=>e = .returned (.agg #[(.int .i64 r.1.fN),(.int .i64 r.1.fD)]) ∧ Hp (fps [stb z7v 83 [(.int .i64 z7t.fE)]]) w₀ w' [stb z7v 83 [(.int .i64 r.2.fE)]]:=by
 unfold y1r at h
 refine Calls.yg (vs:=[(.pointer (some ⟨z7v,0,none⟩)),(.func (.func z5A) #[] (z6E).toArray),(.agg #[(.int .i64 z5y.fN),(.int .i64 z5y.fD)]),(.agg #[(.int .i64 z5z.fN),(.int .i64 z5z.fD)])]) (pre:=[stb z7v 83 [(.int .i64 z7t.fE)]]) (env:=[(0,(.pointer (some ⟨z7v,0,none⟩))),(1,(.func (.func z5A) #[] (z6E).toArray)),(2,(.agg #[(.int .i64 z5y.fN),(.int .i64 z5y.fD)])),(3,(.agg #[(.int .i64 z5z.fN),(.int .i64 z5z.fD)]))]) Tryz.func67 rfl Tryz.ntmps67 rfl (hown) rfl ?_
 refine WC.b (WC.a ?_)
 refine WL.new (dd:=6) rfl rfl rfl (yx (cs:=[(.int .i64 z5y.fN),(.int .i64 z5y.fD)]) rfl rfl) ?_
 intro zHs _
 refine WL.new (dd:=7) rfl rfl rfl (yx (cs:=[(.int .i64 z5z.fN),(.int .i64 z5z.fD)]) rfl rfl) ?_
 intro zHt _
 refine WL.new (dd:=8) rfl rfl rfl (yk (cs:=[(.int .i64 0),(.int .i64 0)]) yo rfl) ?_
 intro zHu _
 refine WL.nil (WX.a (WC.b (WC.b (WC.a (WL.pu rfl ?_)))))
 refine WL.a (d:=12) rfl rfl rfl (y57 rfl) ?_
 refine WL.a (d:=13) rfl rfl rfl (y4 y71 rfl rfl) ?_
 refine WL.a (d:=14) rfl rfl rfl (yc y3s rfl (yp .h3 rfl)) ?_
 refine WL.pu rfl (WL.nil (WX.a ?_))
 refine WC.cond rfl (fun zjQ=>?_) (fun zjQ=>?_)
 ·replace h:=yd h zjQ
  refine WC.b (WC.a ?_)
  refine WL.a (d:=16) rfl rfl rfl (yz (v:=(.agg #[(.int .i64 0),(.int .i64 0)])) (Eos.parts (l:=[]) .nil []) (fun _=>by kernel_rfl)) ?_
  refine WL.yb rfl rfl (ya yh rfl rfl rfl .here rfl rfl rfl) ?_
  refine WL.nil (WX.a (WC.ret (WX.y6 ?_)))
  obtain rfl:=Option.some.inj h
  refine WX.y8 Tryz.results67 (.agg rfl y5 rfl (y7 .here) .nil) (fun w hw=>?_)
  exact ⟨yD rfl,hw.sub (.cons .h3 .nil)⟩
 ·replace h:=ye h zjQ
  refine WC.skip (WX.a (WC.b ?_))
  obtain ⟨zh3,zxp,h⟩:=z8 h
  refine WC.a (WL.pu rfl ?_)
  refine WL.a (d:=19) rfl rfl rfl (y9 y5 rfl (y7 .h2) rfl) ?_
  refine WL.a (d:=20) rfl rfl rfl (y9 y5 rfl (y7 .h1) rfl) ?_
  refine WL.b (dd:=21) rfl rfl rfl (y3i (l:=[.tmp 19,.tmp 20]) (f:=z5A) (caps:=z6E) zxn rfl (.cons rfl (.cons rfl .nil))) .nil (fun w hw=>zxo w (hz.now hw) z5y z5z zh3  zxp) ?_
  refine WL.pu rfl (WL.pu rfl (WL.pu rfl ?_))
  refine WL.new (dd:=9) rfl rfl rfl (yk (cs:=[(.int .i64 0),(.int .i64 0)]) yo rfl) ?_
  intro zHv _
  refine WL.yb rfl rfl (ya yh rfl rfl rfl .here rfl rfl rfl) ?_
  refine WL.pu rfl (WL.nil (WX.a (WC.b (WC.a (WL.pu rfl (WL.pu rfl ?_))))))
  refine WL.a (d:=26) rfl rfl rfl (y57 rfl) ?_
  refine WL.a (d:=27) rfl rfl rfl (y4 y71 rfl rfl) ?_
  refine WL.yb rfl rfl (ya ya1 rfl rfl rfl .h4 rfl rfl rfl) ?_
  refine WL.nil (WX.a (WC.b (WC.a ?_)))
  refine WL.a (d:=28) rfl rfl rfl (y9 y5 rfl (y7 .h1) rfl) ?_
  refine WL.yb rfl rfl (ya yh rfl rfl rfl .h2 rfl rfl rfl) ?_
  refine WL.nil (WX.a (WC.ret ?_))
  obtain rfl:=Option.some.inj h
  refine WX.y8 Tryz.results67 (.agg rfl y5 rfl (y7 .here) .nil) (fun w hw=>?_)
  exact ⟨yD rfl,hw.sub (.cons .h1 .nil)⟩
def y62 (zca : z1) (zcb : z1) : Option (Int × Int) :=
 some ((i64 (zca.fN * zcb.fD)),(i64 (zca.fD * zcb.fN)))
set_option maxRecDepth 20000 in
theorem yc1 (Z : Zp) (zh4 : Addr) (zh5 : Addr) (zca : z1) (zcb : z1) (r : Int × Int)
  (h : y62 zca zcb = some r) (w₀ : World) (hz : PZ [] w₀ Z)
  (zqY : ZC Z zh4 [(.int .i64 zca.fN),(.int .i64 zca.fD)])
  (zqZ : ZC Z zh5 [(.int .i64 zcb.fN),(.int .i64 zcb.fD)]) :
  Calls Tryz.prog 72 #[(.pointer (some zh4)),(.pointer (some zh5))] w₀ fun e w'=>e = .returned (.tuple #[(.int .i64 r.1),(.int .i64 r.2)]) ∧ Hp [] w₀ w' []:=by
 unfold y62 at h
 refine Calls.yg (vs:=[(.pointer (some zh4)),(.pointer (some zh5))]) (pre:=[]) (env:=[(0,(.pointer (some zh4))),(1,(.pointer (some zh5)))]) Tryz.func72 rfl Tryz.ntmps72 rfl (Hp.nil w₀ _) rfl ?_
 refine WC.b (WC.a (WL.pu rfl (WL.pu rfl (WL.nil (WX.a (WC.b ?_))))))
 refine WC.yH (fun i=>[].contains i) [] rfl ?_
 refine WD.a (i:=0) (d:=4) (by kernel_rfl) rfl z6 z7 rfl rfl rfl (fun _=>y4 yL rfl rfl) ?_
 refine WD.e (i:=1) (d:=5) (by kernel_rfl) rfl z6 z7 rfl rfl rfl (yc yr rfl (y1V hz.pv zqY rfl)) ?_
 refine WD.a (i:=2) (d:=6) (by kernel_rfl) rfl z6 z7 rfl rfl rfl (fun _=>y4 yN rfl rfl) ?_
 refine WD.e (i:=3) (d:=7) (by kernel_rfl) rfl z6 z7 rfl rfl rfl (yc yr rfl (y1V hz.pv zqZ rfl)) ?_
 refine WD.a (i:=4) (d:=8) (by kernel_rfl) rfl z6 z7 rfl rfl rfl (fun _=>y58 rfl rfl rfl) ?_
 refine WD.a (i:=5) (d:=9) (by kernel_rfl) rfl z6 z7 rfl rfl rfl (fun _=>y4 yN rfl rfl) ?_
 refine WD.e (i:=6) (d:=10) (by kernel_rfl) rfl z6 z7 rfl rfl rfl (yc yr rfl (y1V hz.pv zqY rfl)) ?_
 refine WD.a (i:=7) (d:=11) (by kernel_rfl) rfl z6 z7 rfl rfl rfl (fun _=>y4 yL rfl rfl) ?_
 refine WD.e (i:=8) (d:=12) (by kernel_rfl) rfl z6 z7 rfl rfl rfl (yc yr rfl (y1V hz.pv zqZ rfl)) ?_
 refine WD.a (i:=9) (d:=13) (by kernel_rfl) rfl z6 z7 rfl rfl rfl (fun _=>y58 rfl rfl rfl) ?_
 refine WD.a (i:=10) (d:=2) (by kernel_rfl) rfl z6 z7 rfl rfl rfl (fun _=>q_z rfl) ?_
 refine WD.a (i:=11) (d:=3) (by kernel_rfl) rfl z6 z7 rfl rfl rfl (fun _=>q_z rfl) ?_
 refine WD.done (by kernel_rfl) ?_
 refine WX.a (WC.ret ?_)
 obtain rfl:=Option.some.inj h
 refine WX.y8 Tryz.results72 (.tmp rfl (.tmp rfl .nil)) (fun w hw=>?_)
 exact ⟨yF rfl rfl,hw.sub .nil⟩
def y5L (z5B : z1) (z4E : z1) : Option (z1 × Int) :=
 (y1m z5B).bind fun zr0=>(if !zr0 then some true else (y1m z4E).bind fun zr1=>some (!zr1)).bind fun zh6=>if zh6 || (decide (z4E.fN = 0)) then some ((⟨0,0⟩ : z1),2) else (y62 z5B z4E).bind fun zjR=>(y3Q zjR.1 zjR.2).bind fun zjS=>some (zjS.1,zjS.2)
set_option maxRecDepth 20000 in
theorem ycp (Z : Zp)  (z5B : z1) (z4E : z1) (r : z1 × Int)
  (h : y5L z5B z4E = some r) (w₀ : World) (hz : PZ [] w₀ Z) :
  Calls Tryz.prog 53 #[(.string ⟨#[47]⟩),(.agg #[(.int .i64 z5B.fN),(.int .i64 z5B.fD)]),(.agg #[(.int .i64 z4E.fN),(.int .i64 z4E.fD)])] w₀ fun e w'=>e = .returned (.tuple #[(.agg #[(.int .i64 r.1.fN),(.int .i64 r.1.fD)]),(.int .i64 r.2)]) ∧ Hp [] w₀ w' []:=by
 unfold y5L at h
 refine Calls.yg (vs:=[(.string ⟨#[47]⟩),(.agg #[(.int .i64 z5B.fN),(.int .i64 z5B.fD)]),(.agg #[(.int .i64 z4E.fN),(.int .i64 z4E.fD)])]) (pre:=[]) (env:=[(0,(.string ⟨#[47]⟩)),(1,(.agg #[(.int .i64 z5B.fN),(.int .i64 z5B.fD)])),(2,(.agg #[(.int .i64 z4E.fN),(.int .i64 z4E.fD)]))]) Tryz.func53 rfl Tryz.ntmps53 rfl (Hp.nil w₀ _) rfl ?_
 refine WC.b (WC.a ?_)
 refine WL.new (dd:=4) rfl rfl rfl (yx (cs:=[(.int .i64 z5B.fN),(.int .i64 z5B.fD)]) rfl rfl) ?_
 intro zeR _
 refine WL.new (dd:=5) rfl rfl rfl (yx (cs:=[(.int .i64 z4E.fN),(.int .i64 z4E.fD)]) rfl rfl) ?_
 intro zeS _
 refine WL.new (dd:=6) rfl rfl rfl (yk (cs:=[(.int .i64 0),(.int .i64 0)]) yo rfl) ?_
 intro zHw _
 refine WL.pu rfl (WL.nil (WX.a (WC.b (WC.b ?_))))
 obtain ⟨zr0,zxq,h⟩:=z8 h
 obtain ⟨zh6,zr2,h⟩:=z8 h
 refine WC.a ?_
 refine WL.a (d:=9) rfl rfl rfl (y9 y5 rfl (y7 .h2) rfl) ?_
 refine WL.b (dd:=10) rfl rfl rfl (za (l:=[.tmp 9]) Tryz.call44 (.cons rfl .nil)) .nil (cc hz .nil fun w pz ho=>y1P _ _ _ zxq w pz ) ?_
 refine WL.pu rfl (WL.pu rfl ?_)
 refine WL.seg false 3 12 (B:=zh6) rfl rfl rfl rfl rfl rfl (fun h=>(Option.some.inj (yd zr2 h)).symm) (fun _ zxr=>?_) ?_
 ·skip
  have zeT:=ye zr2 zxr
  obtain ⟨zr1,zxs,zeT⟩:=z8 zeT
  replace zeT:=Option.some.inj zeT
  refine WL.a (d:=13) rfl rfl rfl (y9 y5 rfl (y7 .h1) rfl) ?_
  refine WL.b (dd:=14) rfl rfl rfl (za (l:=[.tmp 13]) Tryz.call44 (.cons rfl .nil)) .nil (cc hz .nil fun w pz ho=>y1P _ _ _ zxs w pz ) ?_
  refine WL.pu rfl (WL.pu rfl ?_)
  exact WL.yw zeT rfl rfl .all
 refine WL.pu rfl ?_
 refine WL.seg false 7 17 (B:=zh6 || (decide (z4E.fN = 0))) rfl rfl rfl rfl rfl rfl (fun h=>(y5m h).symm) (fun _ zxt=>?_) ?_
 ·skip
  refine WL.pu rfl ?_
  refine WL.a (d:=19) rfl rfl rfl (y8R (r:=true) (by decide) rfl rfl) ?_
  refine WL.pu rfl ?_
  refine WL.a (d:=21) rfl rfl rfl (y4 yL rfl rfl) ?_
  refine WL.a (d:=22) rfl rfl rfl (yc yr rfl (yp .h1 rfl)) ?_
  refine WL.pu rfl (WL.pu rfl (WL.pu rfl ?_))
  exact WL.yw (y5n zxt) rfl rfl .all
 refine WL.nil (WX.a ?_)
 refine WC.cond rfl (fun zjT=>?_) (fun zjT=>?_)
 ·replace h:=yd h zjT
  refine WC.b (WC.a ?_)
  refine WL.a (d:=26) rfl rfl rfl (yz (v:=(.agg #[(.int .i64 0),(.int .i64 0)])) (Eos.parts (l:=[]) .nil []) (fun _=>by kernel_rfl)) ?_
  refine WL.yb rfl rfl (ya yh rfl rfl rfl .here rfl rfl rfl) ?_
  refine WL.pu rfl (WL.nil (WX.a (WC.ret (WX.y6 ?_))))
  obtain rfl:=Option.some.inj h
  refine WX.y8 Tryz.results53 (.agg rfl y5 rfl (y7 .here) (.tmp rfl .nil)) (fun w hw=>?_)
  exact ⟨yF rfl rfl,hw.sub .nil⟩
 ·replace h:=ye h zjT
  refine WC.skip (WX.a (WC.b (WC.a ?_)))
  refine WL.new (dd:=27) rfl rfl rfl (y7s Value.string (fun x=>x)) ?_
  intro zHx _
  refine WL.a (d:=28) rfl rfl rfl (y1i (Eos.caps (l:=[.tmp 4,.tmp 5]) (.cons rfl (.cons rfl .nil)))) ?_
  refine WL.yb rfl rfl (y2r (k:=⟨#[43]⟩) (v:=(.func (.func 69) #[] #[(.pointer (some ⟨zeR,0,none⟩)),(.pointer (some ⟨zeS,0,none⟩))])) y2V Tryz.underlying106 rfl rfl rfl rfl .here) ?_
  refine WL.a (d:=29) rfl rfl rfl (y1i (Eos.caps (l:=[.tmp 4,.tmp 5]) (.cons rfl (.cons rfl .nil)))) ?_
  refine WL.yb rfl rfl (y2r (k:=⟨#[45]⟩) (v:=(.func (.func 70) #[] #[(.pointer (some ⟨zeR,0,none⟩)),(.pointer (some ⟨zeS,0,none⟩))])) y2V Tryz.underlying106 rfl rfl rfl rfl .here) ?_
  refine WL.a (d:=30) rfl rfl rfl (y1i (Eos.caps (l:=[.tmp 4,.tmp 5]) (.cons rfl (.cons rfl .nil)))) ?_
  refine WL.yb rfl rfl (y2r (k:=⟨#[42]⟩) (v:=(.func (.func 71) #[] #[(.pointer (some ⟨zeR,0,none⟩)),(.pointer (some ⟨zeS,0,none⟩))])) y2V Tryz.underlying106 rfl rfl rfl rfl .here) ?_
  refine WL.a (d:=31) rfl rfl rfl (y1i (Eos.caps (l:=[.tmp 4,.tmp 5]) (.cons rfl (.cons rfl .nil)))) ?_
  refine WL.yb rfl rfl (y2r (k:=⟨#[47]⟩) (v:=(.func (.func 72) #[] #[(.pointer (some ⟨zeR,0,none⟩)),(.pointer (some ⟨zeS,0,none⟩))])) y2V Tryz.underlying106 rfl rfl rfl rfl .here) ?_
  refine WL.pu rfl (WL.pu rfl (WL.nil (WX.a (WC.b ?_))))
  obtain ⟨zjR,zxu,h⟩:=z8 h
  obtain ⟨zjS,zxv,h⟩:=z8 h
  refine WC.a (WL.pu rfl (WL.pu rfl ?_))
  refine WL.a (d:=35) rfl rfl rfl (y8Q (k:=⟨#[47]⟩) (dflt:=.nilFunc) (r:=(.func (.func 72) #[] #[(.pointer (some ⟨zeR,0,none⟩)),(.pointer (some ⟨zeS,0,none⟩))])) y2V Tryz.underlying106 zgH rfl rfl rfl .here (by rfl)) ?_
  refine WL.b (dd:=36) rfl rfl rfl (y3i (l:=[]) Tryz.call72 rfl .nil) .nil (ccl hz .nil (.cons .h3 (.cons .h2 .nil)) fun w pz ho la=>yc1 _ _ _ _ _ _ zxu w pz ((la _ (.head _) _).stb) ((la _ (.tail _ (.head _)) _).stb)) ?_
  refine WL.pu rfl (WL.pu rfl ?_)
  refine WL.b (dd:=39) rfl rfl rfl (za (l:=[.tmp 37,.tmp 38]) Tryz.call73 (.cons rfl (.cons rfl .nil))) .nil (cc hz .nil fun w pz ho=>y6P _ _ _ _ zxv w pz ) ?_
  refine WL.pu rfl (WL.pu rfl ?_)
  refine WL.yb rfl rfl (ya yh rfl rfl rfl .h1 rfl rfl rfl) ?_
  refine WL.pu rfl (WL.nil (WX.a (WC.ret ?_)))
  obtain rfl:=Option.some.inj h
  refine WX.y8 Tryz.results53 (.agg rfl y5 rfl (y7 .here) (.tmp rfl .nil)) (fun w hw=>?_)
  exact ⟨yF rfl rfl,hw.sub .nil⟩
def y2g (z69 : z1) (z6a : z1) : Option (z1 × Int) :=
 (y5L z69 z6a).bind fun zjU=>some (zjU.1,zjU.2)
set_option maxRecDepth 20000 in
theorem yal (Z : Zp)  (z69 : z1) (z6a : z1) (r : z1 × Int)
  (h : y2g z69 z6a = some r) (w₀ : World) (hz : PZ [] w₀ Z) :
  Calls Tryz.prog 33 #[(.agg #[(.int .i64 z69.fN),(.int .i64 z69.fD)]),(.agg #[(.int .i64 z6a.fN),(.int .i64 z6a.fD)])] w₀ fun e w'=>e = .returned (.tuple #[(.agg #[(.int .i64 r.1.fN),(.int .i64 r.1.fD)]),(.int .i64 r.2)]) ∧ Hp [] w₀ w' []:=by
 unfold y2g at h
 refine Calls.yg (vs:=[(.agg #[(.int .i64 z69.fN),(.int .i64 z69.fD)]),(.agg #[(.int .i64 z6a.fN),(.int .i64 z6a.fD)])]) (pre:=[]) (env:=[(0,(.agg #[(.int .i64 z69.fN),(.int .i64 z69.fD)])),(1,(.agg #[(.int .i64 z6a.fN),(.int .i64 z6a.fD)]))]) Tryz.func33 rfl Tryz.ntmps33 rfl (Hp.nil w₀ _) rfl ?_
 refine WC.b (WC.a ?_)
 refine WL.new (dd:=2) rfl rfl rfl (yx (cs:=[(.int .i64 z69.fN),(.int .i64 z69.fD)]) rfl rfl) ?_
 intro zHy _
 refine WL.new (dd:=3) rfl rfl rfl (yx (cs:=[(.int .i64 z6a.fN),(.int .i64 z6a.fD)]) rfl rfl) ?_
 intro zHz _
 refine WL.new (dd:=4) rfl rfl rfl (yk (cs:=[(.int .i64 0),(.int .i64 0)]) yo rfl) ?_
 intro zHA _
 refine WL.pu rfl (WL.nil (WX.a (WC.b ?_)))
 obtain ⟨zjU,zxw,h⟩:=z8 h
 refine WC.a ?_
 refine WL.a (d:=6) rfl rfl rfl (y9 y5 rfl (y7 .h2) rfl) ?_
 refine WL.a (d:=7) rfl rfl rfl (y9 y5 rfl (y7 .h1) rfl) ?_
 refine WL.b (dd:=8) rfl rfl rfl (za (l:=[.const (.string ⟨#[47]⟩),.tmp 6,.tmp 7]) Tryz.call53 (.cons rfl (.cons rfl (.cons rfl .nil)))) .nil (cc hz .nil fun w pz ho=>ycp _ _ _ _ zxw w pz ) ?_
 refine WL.pu rfl (WL.pu rfl ?_)
 refine WL.yb rfl rfl (ya yh rfl rfl rfl .here rfl rfl rfl) ?_
 refine WL.pu rfl (WL.nil (WX.a (WC.ret ?_)))
 obtain rfl:=Option.some.inj h
 refine WX.y8 Tryz.results33 (.agg rfl y5 rfl (y7 .here) (.tmp rfl .nil)) (fun w hw=>?_)
 exact ⟨yF rfl rfl,hw.sub .nil⟩
theorem srtA_97 : ∀ w,(isAgg (Tryz.y2n.t 24)).run Tryz.prog w = .ok true w:=fun _=>by kernel_rfl
theorem srtZ_97 : ∀ w,(Go.sizeOf (Tryz.y2n.t 24)).run Tryz.prog w = .ok 2 w:=fun _=>by kernel_rfl
def y33 (z3J : List z1) (zeU : Int) (zeV : Int) (zcc : Int) (zaP : z1 → z1 → Option Int) : Option (List z1):=chk ((zeU = 0 ∧ zeV = ((z3J.length : Nat) : Int)) ∧ (0 ≤ zcc ∧ zcc < 4611686018427387904 ∧ z3J.length < 4611686018427387904)) (chk (ordB zaP (y1z zaP z3J) = true) (some (y1z zaP z3J)))
theorem y5U (Z : Zp) (zaQ : Option Addr) (zaR : Nat) (zeW : FuncId) (zjV : List Value) (z3J : List z1) (zeU : Int) (zeV : Int) (zcc : Int) (zaP : z1 → z1 → Option Int) (r : List z1) (w₀ : World) (hz : PZ (fps [row (.slice zaQ z3J.length zaR) 40 2 (z3J.flatMap e40)]) w₀ Z)
  (zxx : ∀ args w,(callFunc zeW args).run Tryz.prog w = .ok (.enter zeW args) w)
  (zxy : ∀ w : World,PZ [] w Z → ∀ (x0 : z1) (x1 : z1) (r : Int),zaP x0 x1 = some r → Calls Tryz.prog zeW (([(.agg #[(.int .i64 x0.fN),(.int .i64 x0.fD)]),(.agg #[(.int .i64 x1.fN),(.int .i64 x1.fD)])] : List Value) ++ zjV).toArray w fun e w'=>e = .returned (.int .i64 r) ∧ Hp [] w w' [])
  (h : y33 z3J zeU zeV zcc zaP = some r) (hown : Hp (fps [row (.slice zaQ z3J.length zaR) 40 2 (z3J.flatMap e40)]) w₀ w₀ [row (.slice zaQ z3J.length zaR) 40 2 (z3J.flatMap e40)]) :
  Calls Tryz.prog 97 #[(.slice zaQ z3J.length zaR),(.int .i64 zeU),(.int .i64 zeV),(.int .i64 zcc),(.func (.func zeW) #[] (zjV).toArray)] w₀ fun e w'=>e = .returned (.tuple #[]) ∧ (r.length = z3J.length) ∧ Hp (fps [row (.slice zaQ z3J.length zaR) 40 2 (z3J.flatMap e40)]) w₀ w' [row (.slice zaQ r.length zaR) 40 2 (r.flatMap e40)]:=by
 obtain ⟨h0,h⟩:=yj h
 obtain ⟨h1,h⟩:=yj h
 have hr:=(Option.some.inj h).symm
 exact yak (P:=Tryz.prog) (f:=97) (e:=40) (k:=2) (enc:=e40) (fun _=>rfl) (by decide) y50 (fun β _ enc cf g cb hO blk off cap d0 w0 eg hC R=>Tryz.y6u 2 srtA_97 srtZ_97 enc cf g cb hO blk off cap d0 w0 eg hC R) (Tryz.y6g (α:=Unit)) hz zxx zxy h0 h1 hr hown
def y1w (z2u : List z1) (zcd : z1 → z1 → Option Int) : Option (List z1) :=
 (y60 (u64 ((z2u.length : Nat) : Int))).bind fun zh7=>(y33 z2u 0 ((z2u.length : Nat) : Int) zh7 zcd).bind fun zh8=>some zh8
set_option maxRecDepth 20000 in
theorem y5u (Z : Zp) (z6b : Option Addr) (z6c : Nat) (z99 : FuncId) (zce : List Value) (z2u : List z1) (zcd : z1 → z1 → Option Int) (r : List z1)
  (h : y1w z2u zcd = some r) (w₀ : World) (hz : PZ (fps [row (.slice z6b z2u.length z6c) 40 2 (z2u.flatMap e40)]) w₀ Z)
  (zxz : ∀ args w,(callFunc z99 args).run Tryz.prog w = .ok (.enter z99 args) w)
  (zxA : ∀ w : World,PZ [] w Z → ∀ (x0 : z1) (x1 : z1) (r : Int),zcd x0 x1 = some r → Calls Tryz.prog z99 (([(.agg #[(.int .i64 x0.fN),(.int .i64 x0.fD)]),(.agg #[(.int .i64 x1.fN),(.int .i64 x1.fD)])] : List Value) ++ zce).toArray w fun e w'=>e = .returned (.int .i64 r) ∧ Hp [] w w' [])
  (hown : Hp (fps [row (.slice z6b z2u.length z6c) 40 2 (z2u.flatMap e40)]) w₀ w₀ [row (.slice z6b z2u.length z6c) 40 2 (z2u.flatMap e40)]) :
  Calls Tryz.prog 86 #[(.slice z6b z2u.length z6c),(.func (.func z99) #[] (zce).toArray)] w₀ fun e w'=>e = .returned (.tuple #[]) ∧ (r.length = z2u.length) ∧ Hp (fps [row (.slice z6b z2u.length z6c) 40 2 (z2u.flatMap e40)]) w₀ w' [row (.slice z6b r.length z6c) 40 2 (r.flatMap e40)]:=by
 unfold y1w at h
 refine Calls.yg (vs:=[(.slice z6b z2u.length z6c),(.func (.func z99) #[] (zce).toArray)]) (pre:=[row (.slice z6b z2u.length z6c) 40 2 (z2u.flatMap e40)]) (env:=[(0,(.slice z6b z2u.length z6c)),(1,(.func (.func z99) #[] (zce).toArray))]) Tryz.func86 rfl Tryz.ntmps86 rfl (hown) rfl ?_
 refine WC.b (WC.a (WL.pu rfl ?_))
 refine WL.a (d:=6) rfl rfl rfl (yP Tryz.underlying65 rfl) ?_
 refine WL.pu rfl (WL.nil (WX.a ?_))
 obtain ⟨zh7,zxB,h⟩:=z8 h
 obtain ⟨zh8,zxC,h⟩:=z8 h
 refine WC.a (WL.pu rfl (WL.pu rfl (WL.pu rfl ?_)))
 refine WL.a (d:=10) rfl rfl rfl (y4p Tryz.underlying3 Tryz.underlying128 rfl rfl) ?_
 refine WL.b (dd:=11) rfl rfl rfl (za (l:=[.tmp 10]) Tryz.call98 (.cons rfl .nil)) .nil (cc hz .nil fun w pz ho=>y9H (Z:=_)  (z7l:=(u64 ((z2u.length : Nat) : Int))) (r:=zh7) w pz  zxB) ?_
 refine WL.pu rfl ?_
 refine WL.y7r (dd:=13) rfl rfl rfl (za (l:=[.tmp 7,.const (.int .i64 0),.tmp 8,.tmp 11,.tmp 12]) Tryz.call97 (.cons rfl (.cons rfl (.cons rfl (.cons rfl (.cons rfl .nil)))))) (.cons .here .nil) (cc hz (.cons .here .nil) fun w pz ho=>y5U (Z:=_) (zaQ:=z6b) (zaR:=z6c) (zeW:=z99) (zjV:=zce) (z3J:=z2u) (zeU:=0) (zeV:=((z2u.length : Nat) : Int)) (zcc:=zh7) (zaP:=zcd) (r:=zh8) w pz zxz zxA zxC ho) ?_
 rintro  zr3
 refine WL.repin (i:=0) rfl (u:=(.slice z6b zh8.length z6c)) (slen zr3.symm) ?_
 refine WL.nil ?_
 obtain rfl:=Option.some.inj h
 refine WX.y5t Tryz.results86 .nil (fun w hw=>?_)
 exact ⟨y6E,(zr3.trans rfl),hw.sub (.cons .here .nil)⟩
def yX (zu : List z1) (zl : Int) (z7w : (List z1) → Int → Option (List z1)) : Nat → (List z1) → Int → Int → Option (List z1)
 | 0,_,_,_=>none
 | zjW + 1,zx,z2v,k2_11467=>if decide (k2_11467 < ((zu.length - (zl : Int).toNat : Nat) : Int)) then jp2 (fun (z5C : List z1) (z7x : Int)=>yX zu zl z7w zjW z5C z7x (i64 (k2_11467 + 1))) fun zh9=>chk ((0 : Int) ≤ k2_11467 ∧ k2_11467 < ((zu.length - (zl : Int).toNat : Nat) : Int)) (chk ((0 : Int) ≤ (i64 (k2_11467 - 1)) ∧ (i64 (k2_11467 - 1)) < ((zu.length - (zl : Int).toNat : Nat) : Int)) (if decide ((⟨((nth zx (zl + k2_11467)).fN),((nth zx (zl + k2_11467)).fD)⟩ : z1) ≠ (⟨((nth zx (zl + (i64 (k2_11467 - 1)))).fN),((nth zx (zl + (i64 (k2_11467 - 1)))).fD)⟩ : z1)) then chk ((0 : Int) ≤ k2_11467 ∧ k2_11467 < ((zu.length - (zl : Int).toNat : Nat) : Int)) (chk ((0 : Int) ≤ z2v ∧ z2v < ((zx.length : Nat) : Int)) (zh9 (zx.set (z2v : Int).toNat (⟨((nth zx (zl + k2_11467)).fN),((nth zx (zl + k2_11467)).fD)⟩ : z1)) (i64 (z2v + 1)))) else zh9 zx z2v)) else z7w zx z2v
theorem y4B {n : Nat} {zu : List z1} {zl : Int} {z7w : (List z1) → Int → Option (List z1)} {zx : List z1} {z2v : Int} {k2_11467 : Int} {r : List z1} (h : yX zu zl z7w n zx z2v k2_11467 = some r) : ∃ m,n = m + 1:=by
 cases n with
 | zero=>cases h
 | succ m=>exact ⟨m,rfl⟩
def yY (zu : List z1) (z7y : Option (List z1)) : Nat → Int → Option (List z1)
 | 0,_=>none
 | zjX + 1,zl=>if decide (zl < ((zu.length : Nat) : Int)) then jp0 (yY zu z7y zjX (i64 (zl + 1))) fun zjY=>chk ((0 : Int) ≤ zl ∧ zl < ((zu.length : Nat) : Int)) (chk ((0 : Int) ≤ (i64 (zl - 1)) ∧ (i64 (zl - 1)) < ((zu.length : Nat) : Int)) (if decide ((⟨((nth zu zl).fN),((nth zu zl).fD)⟩ : z1) = (⟨((nth zu (i64 (zl - 1))).fN),((nth zu (i64 (zl - 1))).fD)⟩ : z1)) then chk ((0 : Int) ≤ zl ∧ zl < ((zu.length : Nat) : Int)) (jp2 (fun (z2w : List z1) (z2x : Int)=>chk ((0 : Int) ≤ z2x ∧ z2x ≤ ((z2w.length : Nat) : Int)) (chk ((0 : Int) ≤ z2x ∧ z2x ≤ (((z2w.take (z2x : Int).toNat ++ List.replicate (z2w.length - (z2x : Int).toNat) ((⟨0,0⟩ : z1) : z1)).length : Nat) : Int)) (some ((z2w.take (z2x : Int).toNat ++ List.replicate (z2w.length - (z2x : Int).toNat) ((⟨0,0⟩ : z1) : z1)).take (z2x : Int).toNat)))) fun z7w=>yX zu zl z7w yu zu zl 1) else zjY)) else z7y
theorem y4C {n : Nat} {zu : List z1} {z7y : Option (List z1)} {zl : Int} {r : List z1} (h : yY zu z7y n zl = some r) : ∃ m,n = m + 1:=by
 cases n with
 | zero=>cases h
 | succ m=>exact ⟨m,rfl⟩
def y1A (zu : List z1) : Option (List z1) :=
 if decide (((zu.length : Nat) : Int) < 2) then some zu else jp0 (some zu) fun z7y=>yY zu z7y yu 1
set_option maxRecDepth 20000 in
theorem y5E (Z : Zp) (z3V : Option Addr) (z1D : Nat) (zu : List z1) (r : List z1)
  (h : y1A zu = some r) (w₀ : World) (hz : PZ (fps [row (.slice z3V zu.length z1D) 40 2 (zu.flatMap e40)]) w₀ Z)
  (hown : Hp (fps [row (.slice z3V zu.length z1D) 40 2 (zu.flatMap e40)]) w₀ w₀ [row (.slice z3V zu.length z1D) 40 2 (zu.flatMap e40)]) :
  Calls Tryz.prog 87 #[(.slice z3V zu.length z1D)] w₀ fun e w'=>∃ zr4 : Option Addr,∃ zr5 : Nat,e = .returned (.slice zr4 r.length zr5) ∧ True ∧ Hp (fps [row (.slice z3V zu.length z1D) 40 2 (zu.flatMap e40)]) w₀ w' [row (.slice zr4 r.length zr5) 40 2 (r.flatMap e40)]:=by
 unfold y1A at h
 refine Calls.yg (vs:=[(.slice z3V zu.length z1D)]) (pre:=[row (.slice z3V zu.length z1D) 40 2 (zu.flatMap e40)]) (env:=[(0,(.slice z3V zu.length z1D))]) Tryz.func87 rfl Tryz.ntmps87 rfl (hown) rfl ?_
 refine WC.b (WC.a (WL.pu rfl (WL.nil (WX.a (WC.b (WC.b (WC.a (WL.pu rfl ?_))))))))
 refine WL.a (d:=7) rfl rfl rfl (yP Tryz.underlying65 rfl) ?_
 refine WL.pu rfl (WL.nil (WX.a ?_))
 refine WC.cond rfl (fun zjZ=>?_) (fun zjZ=>?_)
 ·replace h:=yd h zjZ
  refine WC.b (WC.a (WL.pu rfl (WL.pu rfl (WL.nil (WX.a (WC.ret (WX.y6 ?_)))))))
  obtain rfl:=Option.some.inj h
  refine WX.y8 Tryz.results87 (.tmp rfl .nil) (fun w hw=>?_)
  exact ⟨z3V,z1D,yD rfl,trivial,hw.sub (.cons .here .nil)⟩
 ·replace h:=ye h zjZ
  refine WC.skip (WX.a ?_)
  obtain ⟨z7y,zxD,h⟩:=y3H h
  refine WC.y2J ((z7y = some r)) ([(0,(.slice z3V zu.length z1D))]) ([row (.slice z3V zu.length z1D) 40 2 (zu.flatMap e40)]) ?_ ?_
  ·skip
   refine WC.b (WC.a (WL.pu rfl (WL.nil (WX.a (WC.block ?_)))))
   refine WC.y35 (fun (zcf : Nat) (zl : Int)=>(yY zu z7y zcf zl = some r)) (fun (zcf : Nat) (zl : Int)=>[(0,(.slice z3V zu.length z1D)),(3,(.int .i64 zl))]) (fun (zcf : Nat) (zl : Int)=>[row (.slice z3V zu.length z1D) 40 2 (zu.flatMap e40)]) (fun (zcf : Nat) (zl : Int)=>zcf) ⟨yu,1⟩ h (.cons rfl (.cons rfl .nil)) (.cons .here .nil) ?_
   rintro zcf zl h
   obtain ⟨zjX,rfl⟩:=y4C h
   rw [yY] at h
   refine WC.b (WC.b (WC.a (WL.pu rfl (WL.pu rfl ?_))))
   refine WL.a (d:=12) rfl rfl rfl (yP Tryz.underlying65 rfl) ?_
   refine WL.pu rfl (WL.nil (WX.a ?_))
   refine WC.cond rfl (fun zk0=>?_) (fun zk0=>?_)
   ·replace h:=yd h zk0
    refine WC.skip (WX.a ?_)
    obtain ⟨zjY,zxE,h⟩:=y3H h
    refine WC.y2J ((zjY = some r)) ([(0,(.slice z3V zu.length z1D)),(3,(.int .i64 zl))]) ([row (.slice z3V zu.length z1D) 40 2 (zu.flatMap e40)]) ?_ ?_
    ·skip
     refine WC.block (WC.b ?_)
     obtain ⟨zeX,h⟩:=yj h
     obtain ⟨zha,h⟩:=yj h
     refine WC.yH (fun i=>[].contains i) [] rfl ?_
     refine WD.a (i:=0) (d:=16) (by kernel_rfl) rfl z6 z7 rfl rfl rfl (fun _=>q_m rfl) ?_
     refine WD.a (i:=1) (d:=17) (by kernel_rfl) rfl z6 z7 rfl rfl rfl (fun _=>q_m rfl) ?_
     refine WD.know (fun w hw=>Hp.y3y .here hw (by intro hz'; have:=zeX; rw [hz'] at this; omega)) ?_
     rintro ⟨z5D,rfl⟩
     refine WD.a (i:=2) (d:=18) (by kernel_rfl) rfl z6 z7 rfl rfl rfl (fun _=>y11 yK rfl rfl zeX.1 zeX.2 y3x) ?_
     refine WD.e (i:=3) (d:=19) (by kernel_rfl) rfl z6 z7 rfl rfl rfl (ys (cs:=(e40 (nth zu zl))) y5 rfl rfl (y3B .here (y2A (enc:=e40) (l:=zu) (i:=zl) (sz:=2) (fun _=>rfl) zeX.1 zeX.2))) ?_
     refine WD.a (i:=4) (d:=20) (by kernel_rfl) rfl z6 z7 rfl rfl rfl (fun _=>q_m rfl) ?_
     refine WD.a (i:=5) (d:=21) (by kernel_rfl) rfl z6 z7 rfl rfl rfl (fun _=>q_m rfl) ?_
     refine WD.a (i:=6) (d:=22) (by kernel_rfl) rfl z6 z7 rfl rfl rfl (fun _=>y6L rfl rfl rfl) ?_
     refine WD.a (i:=7) (d:=23) (by kernel_rfl) rfl z6 z7 rfl rfl rfl (fun _=>y11 yK rfl rfl zha.1 zha.2 y3x) ?_
     refine WD.e (i:=8) (d:=24) (by kernel_rfl) rfl z6 z7 rfl rfl rfl (ys (cs:=(e40 (nth zu (i64 (zl - 1))))) y5 rfl rfl (y3B .here (y2A (enc:=e40) (l:=zu) (i:=i64 (zl - 1)) (sz:=2) (fun _=>rfl) zha.1 zha.2))) ?_
     refine WD.a (i:=9) (d:=25) (by kernel_rfl) rfl z6 z7 rfl rfl rfl (fun _=>y4j (enc:=e40) (a:=(⟨((nth zu zl).fN),((nth zu zl).fD)⟩ : z1)) (b:=(⟨((nth zu (i64 (zl - 1))).fN),((nth zu (i64 (zl - 1))).fD)⟩ : z1)) y6v rfl rfl) ?_
     refine WD.done (by kernel_rfl) ?_
     refine WX.a ?_
     refine WC.cond rfl (fun zk1=>?_) (fun zk1=>?_)
     ·replace h:=yd h zk1
      refine WC.b ?_
      obtain ⟨zaS,h⟩:=yj h
      refine WC.a (WL.pu rfl (WL.pu rfl ?_))
      refine WL.ycm (dd:=28) rfl rfl yK rfl rfl .here zaS ?_
      refine WL.pu rfl (WL.nil (WX.a ?_))
      obtain ⟨z7w,zxF,h⟩:=y2b h
      refine WC.y28 (fun (z2w : List z1) (z2x : Int)=>(z7w z2w z2x = some r) ∧ (z2w.length = zu.length)) (fun (z2w : List z1) (z2x : Int)=>[(0,(.slice (some ⟨z5D,0,none⟩) z2w.length z1D)),(3,(.int .i64 z2x))]) (fun (z2w : List z1) (z2x : Int)=>[row (.slice (some ⟨z5D,0,none⟩) z2w.length z1D) 40 2 (z2w.flatMap e40)]) ?_ ?_
      ·skip
       refine WC.b (WC.a (WL.pu rfl (WL.nil (WX.a (WC.block ?_)))))
       refine WC.y36 (fun (zcg : Nat) (zx : List z1) (z2v : Int) (k2_11467 : Int)=>(yX zu zl z7w zcg zx z2v k2_11467 = some r) ∧ (zx.length = zu.length)) (fun (zcg : Nat) (zx : List z1) (z2v : Int) (k2_11467 : Int)=>[(0,(.slice (some ⟨z5D,0,none⟩) zx.length z1D)),(3,(.int .i64 z2v)),(4,(.slice (some ⟨z5D,(zl : Int).toNat * 2,none⟩) (zu.length - (zl : Int).toNat) (z1D - (zl : Int).toNat))),(5,(.int .i64 k2_11467))]) (fun (zcg : Nat) (zx : List z1) (z2v : Int) (k2_11467 : Int)=>[row (.slice (some ⟨z5D,0,none⟩) zx.length z1D) 40 2 (zx.flatMap e40)]) (fun (zcg : Nat) (zx : List z1) (z2v : Int) (k2_11467 : Int)=>zcg) ⟨yu,zu,zl,1⟩ ⟨h,rfl⟩ (.cons rfl (.cons rfl (.cons rfl (.cons rfl .nil)))) (.cons .here .nil) ?_
       rintro zcg zx z2v k2_11467 ⟨h,zch⟩
       obtain ⟨zjW,rfl⟩:=y4B h
       rw [yX] at h
       refine WC.b (WC.b (WC.a (WL.pu rfl (WL.pu rfl ?_))))
       refine WL.a (d:=31) rfl rfl rfl (yP Tryz.underlying65 rfl) ?_
       refine WL.pu rfl (WL.nil (WX.a ?_))
       refine WC.cond rfl (fun zk2=>?_) (fun zk2=>?_)
       ·replace h:=yd h zk2
        refine WC.skip (WX.a ?_)
        obtain ⟨zh9,zxG,h⟩:=y2b h
        refine WC.y28 (fun (z5C : List z1) (z7x : Int)=>(zh9 z5C z7x = some r) ∧ (z5C.length = zu.length)) (fun (z5C : List z1) (z7x : Int)=>[(0,(.slice (some ⟨z5D,0,none⟩) z5C.length z1D)),(3,(.int .i64 z7x)),(4,(.slice (some ⟨z5D,(zl : Int).toNat * 2,none⟩) (zu.length - (zl : Int).toNat) (z1D - (zl : Int).toNat))),(5,(.int .i64 k2_11467))]) (fun (z5C : List z1) (z7x : Int)=>[row (.slice (some ⟨z5D,0,none⟩) z5C.length z1D) 40 2 (z5C.flatMap e40)]) ?_ ?_
        ·skip
         refine WC.block (WC.b ?_)
         obtain ⟨zhb,h⟩:=yj h
         obtain ⟨zhc,h⟩:=yj h
         refine WC.yH (fun i=>[].contains i) [] rfl ?_
         refine WD.a (i:=0) (d:=35) (by kernel_rfl) rfl z6 z7 rfl rfl rfl (fun _=>q_m rfl) ?_
         refine WD.a (i:=1) (d:=36) (by kernel_rfl) rfl z6 z7 rfl rfl rfl (fun _=>q_m rfl) ?_
         have zr6 : (0 : Int) ≤ zl + k2_11467 ∧ zl + k2_11467 < ((zx.length : Nat) : Int):=by have h1:=zch; have h2:=zaS; have h3:=zhb; omega
         refine WD.a (i:=2) (d:=37) (by kernel_rfl) rfl z6 z7 rfl rfl rfl (fun _=>y11 yK rfl rfl zhb.1 zhb.2 (y9j zaS.1 zhb.1)) ?_
         refine WD.e (i:=3) (d:=38) (by kernel_rfl) rfl z6 z7 rfl rfl rfl (ys (cs:=(e40 (nth zx (zl + k2_11467)))) y5 rfl rfl (y3B .here (y2A (enc:=e40) (l:=zx) (i:=zl + k2_11467) (sz:=2) (fun _=>rfl) zr6.1 zr6.2))) ?_
         refine WD.a (i:=4) (d:=39) (by kernel_rfl) rfl z6 z7 rfl rfl rfl (fun _=>q_m rfl) ?_
         refine WD.a (i:=5) (d:=40) (by kernel_rfl) rfl z6 z7 rfl rfl rfl (fun _=>q_m rfl) ?_
         refine WD.a (i:=6) (d:=41) (by kernel_rfl) rfl z6 z7 rfl rfl rfl (fun _=>y6L rfl rfl rfl) ?_
         have zr7 : (0 : Int) ≤ zl + (i64 (k2_11467 - 1)) ∧ zl + (i64 (k2_11467 - 1)) < ((zx.length : Nat) : Int):=by have h1:=zch; have h2:=zaS; have h3:=zhc; omega
         refine WD.a (i:=7) (d:=42) (by kernel_rfl) rfl z6 z7 rfl rfl rfl (fun _=>y11 yK rfl rfl zhc.1 zhc.2 (y9j zaS.1 zhc.1)) ?_
         refine WD.e (i:=8) (d:=43) (by kernel_rfl) rfl z6 z7 rfl rfl rfl (ys (cs:=(e40 (nth zx (zl + (i64 (k2_11467 - 1)))))) y5 rfl rfl (y3B .here (y2A (enc:=e40) (l:=zx) (i:=zl + (i64 (k2_11467 - 1))) (sz:=2) (fun _=>rfl) zr7.1 zr7.2))) ?_
         refine WD.a (i:=9) (d:=44) (by kernel_rfl) rfl z6 z7 rfl rfl rfl (fun _=>yaN (enc:=e40) (a:=(⟨((nth zx (zl + k2_11467)).fN),((nth zx (zl + k2_11467)).fD)⟩ : z1)) (b:=(⟨((nth zx (zl + (i64 (k2_11467 - 1)))).fN),((nth zx (zl + (i64 (k2_11467 - 1)))).fD)⟩ : z1)) y6v rfl rfl) ?_
         refine WD.done (by kernel_rfl) ?_
         refine WX.a ?_
         refine WC.cond rfl (fun zk3=>?_) (fun zk3=>?_)
         ·replace h:=yd h zk3
          refine WC.b ?_
          obtain ⟨zhd,h⟩:=yj h
          obtain ⟨zci,h⟩:=yj h
          refine WC.a (WL.pu rfl (WL.pu rfl (WL.pu rfl (WL.pu rfl ?_))))
          have zr8 : (0 : Int) ≤ zl + k2_11467 ∧ zl + k2_11467 < ((zx.length : Nat) : Int):=by have h1:=zch; have h2:=zaS; have h3:=zhd; omega
          refine WL.a (d:=49) rfl rfl rfl (y11 yK rfl rfl zhd.1 zhd.2 (y9j zaS.1 zhd.1)) ?_
          refine WL.a (d:=50) rfl rfl rfl (ys (cs:=(e40 (nth zx (zl + k2_11467)))) y5 rfl rfl (y3B .here (y2A (enc:=e40) (l:=zx) (i:=zl + k2_11467) (sz:=2) (fun _=>rfl) zr8.1 zr8.2))) ?_
          refine WL.a (d:=51) rfl rfl rfl (y11 yK rfl rfl zci.1 zci.2 y3x) ?_
          refine WL.yb rfl rfl (ybV (vs:=[(.int .i64 ((nth zx (zl + k2_11467)).fN)),(.int .i64 ((nth zx (zl + k2_11467)).fD))]) (ds:=(zx.set (z2v : Int).toNat (⟨((nth zx (zl + k2_11467)).fN),((nth zx (zl + k2_11467)).fD)⟩ : z1)).flatMap e40) yh rfl rfl rfl rfl (ocB rfl) .here (flat_fit (enc:=e40) (sz:=2) (k:=0) (fun _=>rfl) zci.1 zci.2 (by decide)) (flat_put (enc:=e40) (l:=zx) (sz:=2) (vs:=[(.int .i64 ((nth zx (zl + k2_11467)).fN)),(.int .i64 ((nth zx (zl + k2_11467)).fD))]) (y:=(⟨((nth zx (zl + k2_11467)).fN),((nth zx (zl + k2_11467)).fD)⟩ : z1)) (k:=0) (fun _=>rfl) zci.1 zci.2 rfl (Nat.le_of_ble_eq_true rfl))) ?_
          refine WL.relen .here (u:=(.slice (some ⟨z5D,0,none⟩) ((zx.set (z2v : Int).toNat (⟨((nth zx (zl + k2_11467)).fN),((nth zx (zl + k2_11467)).fD)⟩ : z1)).length) z1D)) (slen (List.length_set).symm) ?_
          refine WL.repin (i:=0) rfl (u:=(.slice (some ⟨z5D,0,none⟩) ((zx.set (z2v : Int).toNat (⟨((nth zx (zl + k2_11467)).fN),((nth zx (zl + k2_11467)).fD)⟩ : z1)).length) z1D)) (slen (List.length_set).symm) ?_
          refine WL.nil (WX.a (WC.a (WL.pu rfl (WL.pu rfl (WL.pu rfl (WL.nil (WX.yi ?_)))))))
          exact WX.mid (G:=List z1 × Int) ⟨(zx.set (z2v : Int).toNat (⟨((nth zx (zl + k2_11467)).fN),((nth zx (zl + k2_11467)).fD)⟩ : z1)),(i64 (z2v + 1))⟩ ⟨h,((List.length_set).trans zch)⟩ (.cons rfl (.cons rfl (.cons rfl (.cons rfl .nil)))) (.cons .here .nil)
         ·replace h:=ye h zk3
          refine WC.skip (WX.yi ?_)
          exact WX.mid (G:=List z1 × Int) ⟨zx,z2v⟩ ⟨h,zch⟩ (.cons rfl (.cons rfl (.cons rfl (.cons rfl .nil)))) (.cons .here .nil)
        ·rintro z5C z7x ⟨h,zxH⟩
         replace h:=(zxG z5C z7x).symm.trans h
         refine WC.a (WL.pu rfl (WL.pu rfl (WL.pu rfl (WL.nil ?_))))
         exact WX.round (G:=Nat × List z1 × Int × Int) ⟨zjW,z5C,z7x,(i64 (k2_11467 + 1))⟩ ⟨h,zxH⟩ (Nat.lt_succ_self _) (.cons rfl (.cons rfl (.cons rfl (.cons rfl .nil)))) (.cons .here .nil)
       ·replace h:=ye h zk2
        refine WC.exit (WX.yf (WX.yf (WX.yv ?_)))
        exact WX.mid (G:=List z1 × Int) ⟨zx,z2v⟩ ⟨h,zch⟩ (.cons rfl (.cons rfl .nil)) (.cons .here .nil)
      ·rintro z2w z2x ⟨h,zHB⟩
       replace h:=(zxF z2w z2x).symm.trans h
       refine WC.b ?_
       obtain ⟨zhe,h⟩:=yj h
       refine WC.a (WL.pu rfl (WL.pu rfl ?_))
       refine WL.ycj (dd:=56) rfl rfl yK rfl rfl .here zhe ?_
       intro zHC zHD zxI
       refine WL.yb rfl rfl (yaM (enc:=e40) (z0:=((⟨0,0⟩ : z1) : z1)) (l:=z2w) yK yo rfl zxI zhe (fun _=>rfl) (by decide) rfl y50 .here) ?_
       refine WL.relen .here (u:=(.slice (some ⟨z5D,0,none⟩) ((z2w.take (z2x : Int).toNat ++ List.replicate (z2w.length - (z2x : Int).toNat) ((⟨0,0⟩ : z1) : z1)).length) z1D)) (slen (y8v zhe).symm) ?_
       refine WL.repin (i:=0) rfl (u:=(.slice (some ⟨z5D,0,none⟩) ((z2w.take (z2x : Int).toNat ++ List.replicate (z2w.length - (z2x : Int).toNat) ((⟨0,0⟩ : z1) : z1)).length) z1D)) (slen (y8v zhe).symm) ?_
       refine WL.nil (WX.a (WC.b ?_))
       obtain ⟨zxJ,h⟩:=yj h
       refine WC.a (WL.pu rfl (WL.pu rfl ?_))
       refine WL.yci (dd:=59) (enc:=e40) (ls:=z2w.take (z2x : Int).toNat ++ List.replicate (z2w.length - (z2x : Int).toNat) ((⟨0,0⟩ : z1) : z1)) rfl rfl yK rfl rfl .here (fun _=>rfl) zxJ ?_
       intro zxK zxL
       refine WL.pu rfl (WL.nil (WX.a (WC.ret (WX.yl (WX.y6 (WX.y6 (WX.yl (WX.y6 ?_))))))))
       obtain rfl:=Option.some.inj h
       refine WX.y8 Tryz.results87 (.tmp rfl .nil) (fun w hw=>?_)
       exact ⟨zxK,zxL,yD rfl,trivial,hw.sub (.cons .here .nil)⟩
     ·replace h:=ye h zk1
      refine WC.skip (WX.yi ?_)
      exact WX.mid (G:=Unit) () h (.cons rfl (.cons rfl .nil)) (.cons .here .nil)
    ·rintro  h
     replace h:=zxE.symm.trans h
     refine WC.a (WL.pu rfl (WL.pu rfl (WL.pu rfl (WL.nil ?_))))
     exact WX.round (G:=Nat × Int) ⟨zjX,(i64 (zl + 1))⟩ h (Nat.lt_succ_self _) (.cons rfl (.cons rfl .nil)) (.cons .here .nil)
   ·replace h:=ye h zk0
    refine WC.exit (WX.yf (WX.yf (WX.yv ?_)))
    exact WX.mid (G:=Unit) () h (.cons rfl .nil) (.cons .here .nil)
  ·rintro  h
   replace h:=zxD.symm.trans h
   refine WC.b (WC.a (WL.pu rfl (WL.pu rfl (WL.nil (WX.a (WC.ret ?_))))))
   obtain rfl:=Option.some.inj h
   refine WX.y8 Tryz.results87 (.tmp rfl .nil) (fun w hw=>?_)
   exact ⟨z3V,z1D,yD rfl,trivial,hw.sub (.cons .here .nil)⟩
end Go.Proofs.YtakfmdiiehcbdaaGreat
