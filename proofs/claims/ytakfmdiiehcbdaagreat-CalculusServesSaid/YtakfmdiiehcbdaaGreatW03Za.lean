/- A part of this claim's proof: models of functions, walks, plain laws. No conditions. -/
import Derived.Test.YtakfmdiiehcbdaaGreatZSortF
import Derived.Test.YtakfmdiiehcbdaaGreatZFast
import Derived.Test.YtakfmdiiehcbdaaGreatShelf03Z
import Derived.Test.YtakfmdiiehcbdaaGreatProg
namespace Go.Proofs.YtakfmdiiehcbdaaGreat
open Go Go.RowKit Sep
set_option linter.all false
set_option maxRecDepth 30000
set_option maxHeartbeats 4000000
structure z2 where
 fN : Int
 fD : Int
 deriving Inhabited,DecidableEq
structure z1 where
 fBurst : z2
 fRate : z2
 deriving Inhabited,DecidableEq
def e54 (x : z1) : List Value:=[(.int .i64 x.fBurst.fN),(.int .i64 x.fBurst.fD),(.int .i64 x.fRate.fN),(.int .i64 x.fRate.fD)]
theorem e54_oc : ∀ x,∀ u ∈ e54 x,u.oneCell' = true:=fun _=>(oc_cons rfl (oc_cons rfl (oc_cons rfl (oc_cons rfl oc_nil))))
structure Sapi_Sent where
 fTime : Int
 fVL : Int
 fSize : Int
 deriving Inhabited,DecidableEq
def e58 (x : Sapi_Sent) : List Value:=[(.int .i64 x.fTime),(.int .i64 x.fVL),(.int .i64 x.fSize)]
structure S7 where
 fX : Int
 fY : Int
 fSigned : Bool
 fCode : Int
 deriving Inhabited,DecidableEq
structure S13 where
 fMsg : ByteArray
 fAddr : Int
 deriving Inhabited,DecidableEq
structure S41 where
 fRate : z2
 fLatency : z2
 deriving Inhabited,DecidableEq
def p23 (Z : Zp) (r : List Value) (x : List z1) : Prop:=∃ (ao0 : Option Addr) (cap0 : Nat),r = [(.slice ao0 x.length cap0)] ∧ ZS Z 4 (fun r x=>r = e54 x) ao0 cap0 x
theorem p23_mono {Z Z' : Zp} (k : Zle Z Z') {r : List Value} {x : List z1} (h : p23 Z r x) : p23 Z' r x:=by
 obtain ⟨ao0,cap0,hr,h0⟩:=h
 exact ⟨ao0,cap0,hr,h0.mono k⟩
def e40 (x : z2) : List Value:=[(.int .i64 x.fN),(.int .i64 x.fD)]
theorem e40_oc : ∀ x,∀ u ∈ e40 x,u.oneCell' = true:=fun _=>(oc_cons rfl (oc_cons rfl oc_nil))
structure z2c where
 fE : Int
 deriving Inhabited,DecidableEq
def e3 (x : Int) : List Value:=[(.int .i64 x)]
theorem e3_oc : ∀ x,∀ u ∈ e3 x,u.oneCell' = true:=fun _=>(oc_cons rfl oc_nil)
theorem zeroT_40 : zeroT Tryz.prog 40 (.agg #[(.int .i64 0),(.int .i64 0)]):=zeroT_of (i:=Tryz.t40) rfl rfl
theorem sizT_40 : sizT Tryz.prog 40 2:=sizT_of (i:=Tryz.t40) rfl
theorem aggT_40 : aggT Tryz.prog 40 2:=aggT_of (i:=Tryz.t40) Tryz.underlying40 rfl rfl
theorem zeroT_54 : zeroT Tryz.prog 54 (.agg #[(.int .i64 0),(.int .i64 0),(.int .i64 0),(.int .i64 0)]):=zeroT_of (i:=Tryz.t54) rfl rfl
theorem sizT_54 : sizT Tryz.prog 54 4:=sizT_of (i:=Tryz.t54) rfl
theorem aggT_54 : aggT Tryz.prog 54 4:=aggT_of (i:=Tryz.t54) Tryz.underlying54 rfl rfl
theorem elT_23 : elT Tryz.prog 23 54 4 32:=⟨Tryz.underlying23,⟨Tryz.t54,_,rfl,rfl,rfl,rfl,rfl⟩,by decide⟩
theorem zeroT_42 : zeroT Tryz.prog 42 (.agg #[(.int .i64 0),(.int .i64 0),(.int .i64 0),(.int .i64 0)]):=zeroT_of (i:=Tryz.t42) rfl rfl
theorem sizT_42 : sizT Tryz.prog 42 4:=sizT_of (i:=Tryz.t42) rfl
theorem elT_38 : elT Tryz.prog 38 23 1 24:=⟨Tryz.underlying38,⟨Tryz.t23,_,rfl,rfl,rfl,rfl,rfl⟩,by decide⟩
theorem aggT_42 : aggT Tryz.prog 42 4:=aggT_of (i:=Tryz.t42) Tryz.underlying42 rfl rfl
theorem oneT_38 : oneT Tryz.prog 38:=oneT_of Tryz.underlying38 rfl
theorem zeroT_67 : zeroT Tryz.prog 67 (.agg #[(.slice none 0 0),(.int .i64 0),(.int .i64 0),(.int .i64 0),(.int .i64 0),.nilFunc,(.slice none 0 0)]):=zeroT_of (i:=Tryz.t67) rfl rfl
theorem sizT_67 : sizT Tryz.prog 67 7:=sizT_of (i:=Tryz.t67) rfl
theorem fo_67_2 : fieldOff Tryz.prog 67 2 5:=fieldOff_of (i:=Tryz.t64) Tryz.underlying67 rfl rfl (by decide) rfl
theorem sizT_64 : sizT Tryz.prog 64 1:=sizT_of (i:=Tryz.t64) rfl
theorem aggT_67 : aggT Tryz.prog 67 7:=aggT_of (i:=Tryz.t67) Tryz.underlying67 rfl rfl
theorem fo_67_0 : fieldOff Tryz.prog 67 0 0:=fieldOff_of (i:=Tryz.t38) Tryz.underlying67 rfl rfl (by decide) rfl
theorem fo_54_0 : fieldOff Tryz.prog 54 0 0:=fieldOff_of (i:=Tryz.t40) Tryz.underlying54 rfl rfl (by decide) rfl
theorem fo_40_1 : fieldOff Tryz.prog 40 1 1:=fieldOff_of (i:=Tryz.t3) Tryz.underlying40 rfl rfl (by decide) rfl
theorem oneT_3 : oneT Tryz.prog 3:=oneT_of Tryz.underlying3 rfl
theorem fo_40_0 : fieldOff Tryz.prog 40 0 0:=fieldOff_of (i:=Tryz.t3) Tryz.underlying40 rfl rfl (by decide) rfl
theorem fo_54_1 : fieldOff Tryz.prog 54 1 2:=fieldOff_of (i:=Tryz.t40) Tryz.underlying54 rfl rfl (by decide) rfl
theorem oneT_23 : oneT Tryz.prog 23:=oneT_of Tryz.underlying23 rfl
theorem fo_67_1 : fieldOff Tryz.prog 67 1 1:=fieldOff_of (i:=Tryz.t42) Tryz.underlying67 rfl rfl (by decide) rfl
theorem fo_42_0 : fieldOff Tryz.prog 42 0 0:=fieldOff_of (i:=Tryz.t40) Tryz.underlying42 rfl rfl (by decide) rfl
theorem fo_42_1 : fieldOff Tryz.prog 42 1 2:=fieldOff_of (i:=Tryz.t40) Tryz.underlying42 rfl rfl (by decide) rfl
theorem zeroT_87 : zeroT Tryz.prog 87 (.agg #[(.int .i64 0)]):=zeroT_of (i:=Tryz.t87) rfl rfl
theorem zeroT_83 : zeroT Tryz.prog 83 (.agg #[(.int .i64 0)]):=zeroT_of (i:=Tryz.t83) rfl rfl
theorem zeroT_65 : zeroT Tryz.prog 65 (.slice none 0 0):=zeroT_of (i:=Tryz.t65) rfl rfl
theorem eqT_54 : EqT Tryz.prog 54 e54:=⟨fun u v w=>by
 have i54_10000:=fun (w : World) (a b : Array Value)=>run_equalIn_agg (P:=Tryz.prog) w 9999 54 a b (by simp [Program.fieldsOf,Tryz.underlying54]) (by kernel_rfl)
 have i40_9999:=fun (w : World) (a b : Array Value)=>run_equalIn_agg (P:=Tryz.prog) w 9998 40 a b (by simp [Program.fieldsOf,Tryz.underlying40]) (by kernel_rfl)
 have i3_9998:=fun (w : World) (a b : Int)=>run_equalIn_int (P:=Tryz.prog) w 9997 3 .i64 .i64 a b Tryz.underlying3
 rw [i54_10000]
 simp [Program.fieldsOf,Op.eqFields,part,e54,i54_10000,Tryz.underlying54,i40_9999,Tryz.underlying40,i3_9998]
 rcases u with ⟨⟨u1,u2⟩,⟨u3,u4⟩⟩
 rcases v with ⟨⟨v1,v2⟩,⟨v3,v4⟩⟩
 by_cases h1 : u1 = v1 <;> by_cases h2 : u2 = v2 <;> by_cases h3 : u3 = v3 <;> by_cases h4 : u4 = v4 <;> simp [h1,h2,h3,h4],by kernel_rfl⟩
theorem oneT_65 : oneT Tryz.prog 65:=oneT_of Tryz.underlying65 rfl
theorem keyT_9 : KeyT Tryz.prog 9 Value.string:=keyT_str Tryz.underlying9
theorem zgZ : zeroT Tryz.prog 105 .nilFunc:=zeroT_of (i:=Tryz.t105) rfl rfl
theorem sizT_3 : sizT Tryz.prog 3 1:=sizT_of (i:=Tryz.t3) rfl
theorem fo_83_0 : fieldOff Tryz.prog 83 0 0:=fieldOff_of (i:=Tryz.t26) Tryz.underlying83 rfl rfl (by decide) rfl
theorem oneT_26 : oneT Tryz.prog 26:=oneT_of Tryz.underlying26 rfl
theorem sizT_26 : sizT Tryz.prog 26 1:=sizT_of (i:=Tryz.t26) rfl
theorem elT_65 : elT Tryz.prog 65 40 2 16:=⟨Tryz.underlying65,⟨Tryz.t40,_,rfl,rfl,rfl,rfl,rfl⟩,by decide⟩
theorem sizT_65 : sizT Tryz.prog 65 1:=sizT_of (i:=Tryz.t65) rfl
theorem eqT_40 : EqT Tryz.prog 40 e40:=⟨fun u v w=>by
 have i40_10000:=fun (w : World) (a b : Array Value)=>run_equalIn_agg (P:=Tryz.prog) w 9999 40 a b (by simp [Program.fieldsOf,Tryz.underlying40]) (by kernel_rfl)
 have i3_9999:=fun (w : World) (a b : Int)=>run_equalIn_int (P:=Tryz.prog) w 9998 3 .i64 .i64 a b Tryz.underlying3
 rw [i40_10000]
 simp [Program.fieldsOf,Op.eqFields,part,e40,i40_10000,Tryz.underlying40,i3_9999]
 rcases u with ⟨u1,u2⟩
 rcases v with ⟨v1,v2⟩
 by_cases h1 : u1 = v1 <;> by_cases h2 : u2 = v2 <;> simp [h1,h2],by kernel_rfl⟩
theorem fldT_54_1 : fldT Tryz.prog 54 1 2 40:=fldT_of Tryz.underlying54 rfl rfl rfl
theorem fo_87_0 : fieldOff Tryz.prog 87 0 0:=fieldOff_of (i:=Tryz.t26) Tryz.underlying87 rfl rfl (by decide) rfl
theorem fo_67_3 : fieldOff Tryz.prog 67 3 6:=fieldOff_of (i:=Tryz.t65) Tryz.underlying67 rfl rfl (by decide) rfl
theorem oneT_64 : oneT Tryz.prog 64:=oneT_of Tryz.underlying64 rfl
theorem elT_24 : elT Tryz.prog 24 58 3 24:=⟨Tryz.underlying24,⟨Tryz.t58,_,rfl,rfl,rfl,rfl,rfl⟩,by decide⟩
theorem aggT_58 : aggT Tryz.prog 58 3:=aggT_of (i:=Tryz.t58) Tryz.underlying58 rfl rfl
theorem zeroT_58 : zeroT Tryz.prog 58 (.agg #[(.int .i64 0),(.int .i64 0),(.int .i64 0)]):=zeroT_of (i:=Tryz.t58) rfl rfl
theorem sizT_58 : sizT Tryz.prog 58 3:=sizT_of (i:=Tryz.t58) rfl
theorem fo_58_0 : fieldOff Tryz.prog 58 0 0:=fieldOff_of (i:=Tryz.t3) Tryz.underlying58 rfl rfl (by decide) rfl
theorem fo_58_2 : fieldOff Tryz.prog 58 2 2:=fieldOff_of (i:=Tryz.t3) Tryz.underlying58 rfl rfl (by decide) rfl
theorem elT_31 : elT Tryz.prog 31 3 1 8:=⟨Tryz.underlying31,⟨Tryz.t3,_,rfl,rfl,rfl,rfl,rfl⟩,by decide⟩
def m_law03_num (n_16 : Int) (d_17 : Int) : Option z2 :=
 some (⟨n_16,d_17⟩ : z2)
set_option maxRecDepth 20000 in
theorem w_law03_num (Z : Zp)   (n_16 : Int) (d_17 : Int) (r : z2) (w₀ : World) (hz : PZ [] w₀ Z)
  (h : m_law03_num n_16 d_17 = some r) :
  Calls Tryz.prog 20 #[(.int .i64 n_16),(.int .i64 d_17)] w₀ fun e w'=>e = .returned (.agg #[(.int .i64 r.fN),(.int .i64 r.fD)]) ∧ Hp [] w₀ w' []:=by
 unfold m_law03_num at h
 refine Calls.ofWC (vs:=[(.int .i64 n_16),(.int .i64 d_17)]) (pre:=[]) (env:=[(0,(.int .i64 n_16)),(1,(.int .i64 d_17))]) Tryz.func20 rfl Tryz.ntmps20 rfl (Hp.nil w₀ _) rfl ?_
 refine WC.b ?_
 refine WC.a ?_
 refine WL.new (dd:=4) rfl rfl rfl (e_alloc (cs:=[(.int .i64 0),(.int .i64 0)]) zeroT_40 rfl) ?_
 intro b_22 _
 refine WL.nil ?_
 refine WX.a ?_
 refine WC.b ?_
 refine WC.a ?_
 refine WL.a (d:=5) rfl rfl rfl (q_m rfl) ?_
 refine WL.a (d:=6) rfl rfl rfl (q_m rfl) ?_
 refine WL.a (d:=7) rfl rfl rfl (q_build (v:=(.agg #[(.int .i64 n_16),(.int .i64 d_17)])) (Eos.parts (l:=[.tmp 5,.tmp 6]) (.cons rfl (.cons rfl .nil)) [0,1]) (fun _=>by kernel_rfl)) ?_
 refine WL.eff0 rfl rfl (e_store (vs:=[(.int .i64 n_16),(.int .i64 d_17)]) (ds:=[(.int .i64 n_16),(.int .i64 d_17)]) sizT_40 rfl rfl rfl rfl (oc_cons rfl (oc_cons rfl oc_nil)) .here (Nat.le_of_ble_eq_true rfl) rfl) ?_
 refine WL.nil ?_
 refine WX.a ?_
 refine WC.ret ?_
 obtain rfl:=Option.some.inj h
 refine WX.bpRet Tryz.results20 (.agg rfl aggT_40 rfl (rd_all .here) .nil) (fun w hw=>?_)
 exact ⟨ret1 rfl,hw.sub .nil⟩
def m_law03_bucket (b_27 : z2) (r_28 : z2) : Option z1 :=
 some (⟨b_27,r_28⟩ : z1)
set_option maxRecDepth 20000 in
theorem w_law03_bucket (Z : Zp)   (b_27 : z2) (r_28 : z2) (r : z1) (w₀ : World) (hz : PZ [] w₀ Z)
  (h : m_law03_bucket b_27 r_28 = some r) :
  Calls Tryz.prog 19 #[(.agg #[(.int .i64 b_27.fN),(.int .i64 b_27.fD)]),(.agg #[(.int .i64 r_28.fN),(.int .i64 r_28.fD)])] w₀ fun e w'=>e = .returned (.agg #[(.int .i64 r.fBurst.fN),(.int .i64 r.fBurst.fD),(.int .i64 r.fRate.fN),(.int .i64 r.fRate.fD)]) ∧ Hp [] w₀ w' []:=by
 unfold m_law03_bucket at h
 refine Calls.ofWC (vs:=[(.agg #[(.int .i64 b_27.fN),(.int .i64 b_27.fD)]),(.agg #[(.int .i64 r_28.fN),(.int .i64 r_28.fD)])]) (pre:=[]) (env:=[(0,(.agg #[(.int .i64 b_27.fN),(.int .i64 b_27.fD)])),(1,(.agg #[(.int .i64 r_28.fN),(.int .i64 r_28.fD)]))]) Tryz.func19 rfl Tryz.ntmps19 rfl (Hp.nil w₀ _) rfl ?_
 refine WC.b ?_
 refine WC.a ?_
 refine WL.new (dd:=2) rfl rfl rfl (e_box (cs:=[(.int .i64 b_27.fN),(.int .i64 b_27.fD)]) rfl rfl) ?_
 intro b_39 _
 refine WL.new (dd:=3) rfl rfl rfl (e_box (cs:=[(.int .i64 r_28.fN),(.int .i64 r_28.fD)]) rfl rfl) ?_
 intro b_40 _
 refine WL.new (dd:=4) rfl rfl rfl (e_alloc (cs:=[(.int .i64 0),(.int .i64 0),(.int .i64 0),(.int .i64 0)]) zeroT_54 rfl) ?_
 intro b_41 _
 refine WL.nil ?_
 refine WX.a ?_
 refine WC.b ?_
 refine WC.a ?_
 refine WL.a (d:=5) rfl rfl rfl (q_loadA (cs:=[(.int .i64 b_27.fN),(.int .i64 b_27.fD)]) aggT_40 rfl rfl (rd_all .h2)) ?_
 refine WL.a (d:=6) rfl rfl rfl (q_loadA (cs:=[(.int .i64 r_28.fN),(.int .i64 r_28.fD)]) aggT_40 rfl rfl (rd_all .h1)) ?_
 refine WL.a (d:=7) rfl rfl rfl (q_build (v:=(.agg #[(.int .i64 b_27.fN),(.int .i64 b_27.fD),(.int .i64 r_28.fN),(.int .i64 r_28.fD)])) (Eos.parts (l:=[.tmp 5,.tmp 6]) (.cons rfl (.cons rfl .nil)) [0,1]) (fun _=>by kernel_rfl)) ?_
 refine WL.eff0 rfl rfl (e_store (vs:=[(.int .i64 b_27.fN),(.int .i64 b_27.fD),(.int .i64 r_28.fN),(.int .i64 r_28.fD)]) (ds:=[(.int .i64 b_27.fN),(.int .i64 b_27.fD),(.int .i64 r_28.fN),(.int .i64 r_28.fD)]) sizT_54 rfl rfl rfl rfl (oc_cons rfl (oc_cons rfl (oc_cons rfl (oc_cons rfl oc_nil)))) .here (Nat.le_of_ble_eq_true rfl) rfl) ?_
 refine WL.nil ?_
 refine WX.a ?_
 refine WC.ret ?_
 obtain rfl:=Option.some.inj h
 refine WX.bpRet Tryz.results19 (.agg rfl aggT_54 rfl (rd_all .here) .nil) (fun w hw=>?_)
 exact ⟨ret1 rfl,hw.sub .nil⟩
def m_rat_size (z8c : Int) : Option Int :=
 if decide (z8c < 0) then some (u64 ((u64 (i64 (0 - (i64 (z8c + 1))))) + 1)) else some (u64 z8c)
set_option maxRecDepth 20000 in
theorem w_rat_size (Z : Zp)   (z8c : Int) (r : Int) (w₀ : World) (hz : PZ [] w₀ Z)
  (h : m_rat_size z8c = some r) :
  Calls Tryz.prog 63 #[(.int .i64 z8c)] w₀ fun e w'=>e = .returned (.int .u64 r) ∧ Hp [] w₀ w' []:=by
 unfold m_rat_size at h
 refine Calls.ofWC (vs:=[(.int .i64 z8c)]) (pre:=[]) (env:=[(0,(.int .i64 z8c))]) Tryz.func63 rfl Tryz.ntmps63 rfl (Hp.nil w₀ _) rfl ?_
 refine WC.b ?_
 refine WC.a ?_
 refine WL.a (d:=2) rfl rfl rfl (q_z rfl) ?_
 refine WL.nil ?_
 refine WX.a ?_
 refine WC.b ?_
 refine WC.b ?_
 refine WC.a ?_
 refine WL.a (d:=3) rfl rfl rfl (q_m rfl) ?_
 refine WL.a (d:=4) rfl rfl rfl (q_lss rfl rfl) ?_
 refine WL.nil ?_
 refine WX.a ?_
 refine WC.cond rfl (fun zjb=>?_) (fun zjb=>?_)
 ·replace h:=ite_t h zjb
  refine WC.b ?_
  refine WC.a ?_
  refine WL.a (d:=5) rfl rfl rfl (q_m rfl) ?_
  refine WL.a (d:=6) rfl rfl rfl (q_add rfl rfl rfl) ?_
  refine WL.a (d:=7) rfl rfl rfl (q_neg rfl rfl) ?_
  refine WL.a (d:=8) rfl rfl rfl (q_conv Tryz.underlying3 Tryz.underlying99 rfl rfl) ?_
  refine WL.a (d:=9) rfl rfl rfl (q_add rfl rfl rfl) ?_
  refine WL.a (d:=2) rfl rfl rfl (q_z rfl) ?_
  refine WL.nil ?_
  refine WX.a ?_
  refine WC.ret ?_
  refine WX.thenRet ?_
  obtain rfl:=Option.some.inj h
  refine WX.bpRet Tryz.results63 (.tmp rfl .nil) (fun w hw=>?_)
  exact ⟨ret1 rfl,hw.sub .nil⟩
 ·replace h:=ite_f h zjb
  refine WC.skip ?_
  refine WX.a ?_
  refine WC.b ?_
  refine WC.a ?_
  refine WL.a (d:=10) rfl rfl rfl (q_m rfl) ?_
  refine WL.a (d:=11) rfl rfl rfl (q_conv Tryz.underlying3 Tryz.underlying99 rfl rfl) ?_
  refine WL.a (d:=2) rfl rfl rfl (q_z rfl) ?_
  refine WL.nil ?_
  refine WX.a ?_
  refine WC.ret ?_
  obtain rfl:=Option.some.inj h
  refine WX.bpRet Tryz.results63 (.tmp rfl .nil) (fun w hw=>?_)
  exact ⟨ret1 rfl,hw.sub .nil⟩
def m_rat_gcd_uint64_L2 (z9U : Int → Option Int) : Nat → Int → Int → Option Int
 | 0,_,_=>none
 | zjc + 1,z7O,z7b=>if decide (z7b ≠ 0) then chk ((z7b : Int) ≠ 0) (m_rat_gcd_uint64_L2 z9U zjc z7b (Int.tmod z7O z7b)) else z9U z7O
theorem m_rat_gcd_uint64_L2_fuel {n : Nat} {z9U : Int → Option Int} {z7O : Int} {z7b : Int} {r : Int} (h : m_rat_gcd_uint64_L2 z9U n z7O z7b = some r) : ∃ m,n = m + 1:=by
 cases n with
 | zero=>cases h
 | succ m=>exact ⟨m,rfl⟩
def m_rat_gcd_uint64 (z9V : Int) (z9W : Int) : Option Int :=
 jp1 (fun (zbi : Int)=>some zbi) fun z9U=>m_rat_gcd_uint64_L2 z9U FUEL z9V z9W
set_option maxRecDepth 20000 in
theorem w_rat_gcd_uint64 (Z : Zp)   (z9V : Int) (z9W : Int) (r : Int) (w₀ : World) (hz : PZ [] w₀ Z)
  (h : m_rat_gcd_uint64 z9V z9W = some r) :
  Calls Tryz.prog 62 #[(.int .u64 z9V),(.int .u64 z9W)] w₀ fun e w'=>e = .returned (.int .u64 r) ∧ Hp [] w₀ w' []:=by
 unfold m_rat_gcd_uint64 at h
 refine Calls.ofWC (vs:=[(.int .u64 z9V),(.int .u64 z9W)]) (pre:=[]) (env:=[(0,(.int .u64 z9V)),(1,(.int .u64 z9W))]) Tryz.func62 rfl Tryz.ntmps62 rfl (Hp.nil w₀ _) rfl ?_
 refine WC.b ?_
 refine WC.a ?_
 refine WL.a (d:=4) rfl rfl rfl (q_z rfl) ?_
 refine WL.nil ?_
 refine WX.a ?_
 obtain ⟨z9U,ztx,h⟩:=jp1_elim h
 refine WC.seqMid1 (fun (zbi : Int)=>(z9U zbi = some r)) (fun (zbi : Int)=>[(0,(.int .u64 zbi))]) (fun (zbi : Int)=>[]) ?_ ?_
 ·skip
  refine WC.block ?_
  refine WC.loop3 (fun (zdC : Nat) (z7O : Int) (z7b : Int)=>(m_rat_gcd_uint64_L2 z9U zdC z7O z7b = some r)) (fun (zdC : Nat) (z7O : Int) (z7b : Int)=>[(0,(.int .u64 z7O)),(1,(.int .u64 z7b))]) (fun (zdC : Nat) (z7O : Int) (z7b : Int)=>[]) (fun (zdC : Nat) (z7O : Int) (z7b : Int)=>zdC) ⟨FUEL,z9V,z9W⟩ h (.cons rfl (.cons rfl .nil)) .nil ?_
  rintro zdC z7O z7b h
  obtain ⟨zjc,rfl⟩:=m_rat_gcd_uint64_L2_fuel h
  rw [m_rat_gcd_uint64_L2] at h
  refine WC.b ?_
  refine WC.b ?_
  refine WC.a ?_
  refine WL.a (d:=5) rfl rfl rfl (q_m rfl) ?_
  refine WL.a (d:=6) rfl rfl rfl (q_neq rfl rfl) ?_
  refine WL.nil ?_
  refine WX.a ?_
  refine WC.cond rfl (fun zjd=>?_) (fun zjd=>?_)
  ·replace h:=ite_t h zjd
   refine WC.skip ?_
   refine WX.a ?_
   refine WC.block ?_
   obtain ⟨zty,h⟩:=chk_elim h
   refine WC.draw (fun i=>[].contains i) [] rfl ?_
   refine WD.a (i:=0) (d:=7) (by kernel_rfl) rfl (z6 (by kernel_rfl)) (z7 (by kernel_rfl)) rfl rfl rfl (fun _=>q_m rfl) ?_
   refine WD.a (i:=1) (d:=8) (by kernel_rfl) rfl (z6 (by kernel_rfl)) (z7 (by kernel_rfl)) rfl rfl rfl (fun _=>q_m rfl) ?_
   refine WD.a (i:=2) (d:=9) (by kernel_rfl) rfl (z6 (by kernel_rfl)) (z7 (by kernel_rfl)) rfl rfl rfl (fun _=>q_m rfl) ?_
   refine WD.a (i:=3) (d:=10) (by kernel_rfl) rfl (z6 (by kernel_rfl)) (z7 (by kernel_rfl)) rfl rfl rfl (fun _=>q_rem rfl rfl zty rfl) ?_
   refine WD.a (i:=4) (d:=0) (by kernel_rfl) rfl (z6 (by kernel_rfl)) (z7 (by kernel_rfl)) rfl rfl rfl (fun _=>q_z rfl) ?_
   refine WD.a (i:=5) (d:=1) (by kernel_rfl) rfl (z6 (by kernel_rfl)) (z7 (by kernel_rfl)) rfl rfl rfl (fun _=>q_z rfl) ?_
   refine WD.done (by kernel_rfl) ?_
   refine WX.blockNormal ?_
   exact WX.round (G:=Nat × Int × Int) ⟨zjc,z7b,(Int.tmod z7O z7b)⟩ h (Nat.lt_succ_self _) (.cons rfl (.cons rfl .nil)) .nil
  ·replace h:=ite_f h zjd
   refine WC.exit ?_
   refine WX.thenExit ?_
   refine WX.thenExit ?_
   refine WX.blockHit ?_
   exact WX.mid (G:=Int) z7O h (.cons rfl .nil) .nil
 ·rintro zbi h
  replace h:=(ztx zbi).symm.trans h
  refine WC.b ?_
  refine WC.a ?_
  refine WL.a (d:=11) rfl rfl rfl (q_m rfl) ?_
  refine WL.a (d:=4) rfl rfl rfl (q_z rfl) ?_
  refine WL.nil ?_
  refine WX.a ?_
  refine WC.ret ?_
  obtain rfl:=Option.some.inj h
  refine WX.bpRet Tryz.results62 (.tmp rfl .nil) (fun w hw=>?_)
  exact ⟨ret1 rfl,hw.sub .nil⟩
def m_rat_Valid (z18 : z2) : Option Bool :=
 (if (((decide (z18.fD ≥ 1)) && (decide (z18.fD ≤ 1073741824))) && (decide (z18.fN ≥ (-1073741824)))) && (decide (z18.fN ≤ 1073741824)) then (m_rat_size z18.fN).bind fun zh0=>(m_rat_size z18.fD).bind fun zh1=>(m_rat_gcd_uint64 zh0 zh1).bind fun zje=>some (decide (zje = 1)) else some false).bind fun zjf=>some zjf
set_option maxRecDepth 20000 in
theorem w_rat_Valid (Z : Zp)   (z18 : z2) (r : Bool) (w₀ : World) (hz : PZ [] w₀ Z)
  (h : m_rat_Valid z18 = some r) :
  Calls Tryz.prog 44 #[(.agg #[(.int .i64 z18.fN),(.int .i64 z18.fD)])] w₀ fun e w'=>e = .returned (.bool r) ∧ Hp [] w₀ w' []:=by
 unfold m_rat_Valid at h
 refine Calls.ofWC (vs:=[(.agg #[(.int .i64 z18.fN),(.int .i64 z18.fD)])]) (pre:=[]) (env:=[(0,(.agg #[(.int .i64 z18.fN),(.int .i64 z18.fD)]))]) Tryz.func44 rfl Tryz.ntmps44 rfl (Hp.nil w₀ _) rfl ?_
 refine WC.b ?_
 refine WC.a ?_
 refine WL.new (dd:=1) rfl rfl rfl (e_box (cs:=[(.int .i64 z18.fN),(.int .i64 z18.fD)]) rfl rfl) ?_
 intro z9X _
 refine WL.a (d:=2) rfl rfl rfl (q_z rfl) ?_
 refine WL.nil ?_
 refine WX.a ?_
 refine WC.b ?_
 obtain ⟨zjf,zoX,h⟩:=z8 h
 refine WC.draw (fun i=>[].contains i) [] rfl ?_
 refine WD.a (i:=0) (d:=3) (by kernel_rfl) rfl (z6 (by kernel_rfl)) (z7 (by kernel_rfl)) rfl rfl rfl (fun _=>q_fieldAddr fo_40_1 rfl rfl) ?_
 refine WD.e (i:=1) (d:=4) (by kernel_rfl) rfl (z6 (by kernel_rfl)) (z7 (by kernel_rfl)) rfl rfl rfl (q_load1 oneT_3 rfl (rd_stb .here rfl)) ?_
 refine WD.a (i:=2) (d:=5) (by kernel_rfl) rfl (z6 (by kernel_rfl)) (z7 (by kernel_rfl)) rfl rfl rfl (fun _=>q_geq rfl rfl) ?_
 refine WD.a (i:=3) (d:=6) (by kernel_rfl) rfl (z6 (by kernel_rfl)) (z7 (by kernel_rfl)) rfl rfl rfl (fun _=>q_m rfl) ?_
 refine WD.mid (fuel':=21) [(1,(.pointer (some ⟨z9X,0,none⟩))),(2,(.bool false)),(6,(.bool (decide (z18.fD ≥ 1)))),(10,(.bool ((decide (z18.fD ≥ 1)) && (decide (z18.fD ≤ 1073741824)))))] (listedA 29 [7,6,5,4,3,2,1,0]) ?_ (fun zoY=>?_)
 rotate_left
 ·rcases Bool.eq_false_or_eq_true (decide (z18.fD ≥ 1)) with hb' | hb'
  ·have zjg:=hb'; clear hb'
   refine WD.pin (i:=6) rfl zjg ?_
   refine WD.a (i:=4) (d:=7) (by kernel_rfl) rfl (z6 (by kernel_rfl)) (z7 (by kernel_rfl)) rfl rfl rfl (fun _=>q_fieldAddr fo_40_1 rfl rfl) ?_
   refine WD.e (i:=5) (d:=8) (by kernel_rfl) rfl (z6 (by kernel_rfl)) (z7 (by kernel_rfl)) rfl rfl rfl (q_load1 oneT_3 rfl (rd_stb .here rfl)) ?_
   refine WD.a (i:=6) (d:=9) (by kernel_rfl) rfl (z6 (by kernel_rfl)) (z7 (by kernel_rfl)) rfl rfl rfl (fun _=>q_leq rfl rfl) ?_
   refine WD.a (i:=7) (d:=10) (by kernel_rfl) rfl (z6 (by kernel_rfl)) (z7 (by kernel_rfl)) rfl rfl rfl (fun _=>q_pickT rfl rfl) ?_
   refine WD.reL (.cons .here .nil) ?_ zoY
   exact (.cons rfl (.cons rfl (.cons (zf (Eq.symm zjg)) (.cons (zf (and_r zjg)) .nil))))
  ·have zjh:=hb'; clear hb'
   refine WD.pin (i:=6) rfl zjh ?_
   refine WD.b (i:=4) (d:=7) (by kernel_rfl) rfl (z6 (by kernel_rfl)) (z7 (by kernel_rfl)) rfl rfl rfl ?_
   refine WD.b (i:=5) (d:=8) (by kernel_rfl) rfl (z6 (by kernel_rfl)) (z7 (by kernel_rfl)) rfl rfl rfl ?_
   refine WD.b (i:=6) (d:=9) (by kernel_rfl) rfl (z6 (by kernel_rfl)) (z7 (by kernel_rfl)) rfl rfl rfl ?_
   refine WD.a (i:=7) (d:=10) (by kernel_rfl) rfl (z6 (by kernel_rfl)) (z7 (by kernel_rfl)) rfl rfl rfl (fun _=>q_pickF rfl rfl) ?_
   refine WD.reL (.cons .here .nil) ?_ zoY
   exact (.cons rfl (.cons rfl (.cons (zf (Eq.symm zjh)) (.cons (zf (and_l zjh)) .nil))))
 refine WD.d #[true,true,true,true,true,true,true,true,false,false,false,false,false,false,false,false,false,false,false,false,false,false,false,false,false,false,false,false,false] (by kernel_rfl) ?_
 refine WD.a (i:=8) (d:=11) (by kernel_rfl) rfl (z6 (by kernel_rfl)) (z7 (by kernel_rfl)) rfl rfl rfl (fun _=>q_m rfl) ?_
 refine WD.mid (fuel':=16) [(1,(.pointer (some ⟨z9X,0,none⟩))),(2,(.bool false)),(11,(.bool ((decide (z18.fD ≥ 1)) && (decide (z18.fD ≤ 1073741824))))),(15,(.bool (((decide (z18.fD ≥ 1)) && (decide (z18.fD ≤ 1073741824))) && (decide (z18.fN ≥ (-1073741824))))))] (listedA 29 [12,11,10,9,8,7,6,5,4,3,2,1,0]) ?_ (fun zoZ=>?_)
 rotate_left
 ·rcases Bool.eq_false_or_eq_true ((decide (z18.fD ≥ 1)) && (decide (z18.fD ≤ 1073741824))) with hb' | hb'
  ·have zji:=hb'; clear hb'
   refine WD.pin (i:=11) rfl zji ?_
   refine WD.a (i:=9) (d:=12) (by kernel_rfl) rfl (z6 (by kernel_rfl)) (z7 (by kernel_rfl)) rfl rfl rfl (fun _=>q_fieldAddr fo_40_0 rfl rfl) ?_
   refine WD.e (i:=10) (d:=13) (by kernel_rfl) rfl (z6 (by kernel_rfl)) (z7 (by kernel_rfl)) rfl rfl rfl (q_load1 oneT_3 rfl (rd_stb .here rfl)) ?_
   refine WD.a (i:=11) (d:=14) (by kernel_rfl) rfl (z6 (by kernel_rfl)) (z7 (by kernel_rfl)) rfl rfl rfl (fun _=>q_geq rfl rfl) ?_
   refine WD.a (i:=12) (d:=15) (by kernel_rfl) rfl (z6 (by kernel_rfl)) (z7 (by kernel_rfl)) rfl rfl rfl (fun _=>q_pickT rfl rfl) ?_
   refine WD.reL (.cons .here .nil) ?_ zoZ
   exact (.cons rfl (.cons rfl (.cons (zf (Eq.symm zji)) (.cons (zf (and_r zji)) .nil))))
  ·have zjj:=hb'; clear hb'
   refine WD.pin (i:=11) rfl zjj ?_
   refine WD.b (i:=9) (d:=12) (by kernel_rfl) rfl (z6 (by kernel_rfl)) (z7 (by kernel_rfl)) rfl rfl rfl ?_
   refine WD.b (i:=10) (d:=13) (by kernel_rfl) rfl (z6 (by kernel_rfl)) (z7 (by kernel_rfl)) rfl rfl rfl ?_
   refine WD.b (i:=11) (d:=14) (by kernel_rfl) rfl (z6 (by kernel_rfl)) (z7 (by kernel_rfl)) rfl rfl rfl ?_
   refine WD.a (i:=12) (d:=15) (by kernel_rfl) rfl (z6 (by kernel_rfl)) (z7 (by kernel_rfl)) rfl rfl rfl (fun _=>q_pickF rfl rfl) ?_
   refine WD.reL (.cons .here .nil) ?_ zoZ
   exact (.cons rfl (.cons rfl (.cons (zf (Eq.symm zjj)) (.cons (zf (and_l zjj)) .nil))))
 refine WD.d #[true,true,true,true,true,true,true,true,true,true,true,true,true,false,false,false,false,false,false,false,false,false,false,false,false,false,false,false,false] (by kernel_rfl) ?_
 refine WD.a (i:=13) (d:=16) (by kernel_rfl) rfl (z6 (by kernel_rfl)) (z7 (by kernel_rfl)) rfl rfl rfl (fun _=>q_m rfl) ?_
 refine WD.mid (fuel':=11) [(1,(.pointer (some ⟨z9X,0,none⟩))),(2,(.bool false)),(16,(.bool (((decide (z18.fD ≥ 1)) && (decide (z18.fD ≤ 1073741824))) && (decide (z18.fN ≥ (-1073741824)))))),(20,(.bool ((((decide (z18.fD ≥ 1)) && (decide (z18.fD ≤ 1073741824))) && (decide (z18.fN ≥ (-1073741824)))) && (decide (z18.fN ≤ 1073741824)))))] (listedA 29 [17,16,15,14,13,12,11,10,9,8,7,6,5,4,3,2,1,0]) ?_ (fun zp0=>?_)
 rotate_left
 ·rcases Bool.eq_false_or_eq_true (((decide (z18.fD ≥ 1)) && (decide (z18.fD ≤ 1073741824))) && (decide (z18.fN ≥ (-1073741824)))) with hb' | hb'
  ·have zjk:=hb'; clear hb'
   refine WD.pin (i:=16) rfl zjk ?_
   refine WD.a (i:=14) (d:=17) (by kernel_rfl) rfl (z6 (by kernel_rfl)) (z7 (by kernel_rfl)) rfl rfl rfl (fun _=>q_fieldAddr fo_40_0 rfl rfl) ?_
   refine WD.e (i:=15) (d:=18) (by kernel_rfl) rfl (z6 (by kernel_rfl)) (z7 (by kernel_rfl)) rfl rfl rfl (q_load1 oneT_3 rfl (rd_stb .here rfl)) ?_
   refine WD.a (i:=16) (d:=19) (by kernel_rfl) rfl (z6 (by kernel_rfl)) (z7 (by kernel_rfl)) rfl rfl rfl (fun _=>q_leq rfl rfl) ?_
   refine WD.a (i:=17) (d:=20) (by kernel_rfl) rfl (z6 (by kernel_rfl)) (z7 (by kernel_rfl)) rfl rfl rfl (fun _=>q_pickT rfl rfl) ?_
   refine WD.reL (.cons .here .nil) ?_ zp0
   exact (.cons rfl (.cons rfl (.cons (zf (Eq.symm zjk)) (.cons (zf (and_r zjk)) .nil))))
  ·have zjl:=hb'; clear hb'
   refine WD.pin (i:=16) rfl zjl ?_
   refine WD.b (i:=14) (d:=17) (by kernel_rfl) rfl (z6 (by kernel_rfl)) (z7 (by kernel_rfl)) rfl rfl rfl ?_
   refine WD.b (i:=15) (d:=18) (by kernel_rfl) rfl (z6 (by kernel_rfl)) (z7 (by kernel_rfl)) rfl rfl rfl ?_
   refine WD.b (i:=16) (d:=19) (by kernel_rfl) rfl (z6 (by kernel_rfl)) (z7 (by kernel_rfl)) rfl rfl rfl ?_
   refine WD.a (i:=17) (d:=20) (by kernel_rfl) rfl (z6 (by kernel_rfl)) (z7 (by kernel_rfl)) rfl rfl rfl (fun _=>q_pickF rfl rfl) ?_
   refine WD.reL (.cons .here .nil) ?_ zp0
   exact (.cons rfl (.cons rfl (.cons (zf (Eq.symm zjl)) (.cons (zf (and_l zjl)) .nil))))
 refine WD.d #[true,true,true,true,true,true,true,true,true,true,true,true,true,true,true,true,true,true,false,false,false,false,false,false,false,false,false,false,false] (by kernel_rfl) ?_
 refine WD.a (i:=18) (d:=21) (by kernel_rfl) rfl (z6 (by kernel_rfl)) (z7 (by kernel_rfl)) rfl rfl rfl (fun _=>q_m rfl) ?_
 refine WD.mid (fuel':=1) [(2,(.bool false)),(21,(.bool ((((decide (z18.fD ≥ 1)) && (decide (z18.fD ≤ 1073741824))) && (decide (z18.fN ≥ (-1073741824)))) && (decide (z18.fN ≤ 1073741824))))),(30,(.bool zjf))] (listedA 29 [27,26,25,24,23,22,21,20,19,18,17,16,15,14,13,12,11,10,9,8,7,6,5,4,3,2,1,0]) ?_ (fun zp1=>?_)
 rotate_left
 ·rcases Bool.eq_false_or_eq_true ((((decide (z18.fD ≥ 1)) && (decide (z18.fD ≤ 1073741824))) && (decide (z18.fN ≥ (-1073741824)))) && (decide (z18.fN ≤ 1073741824))) with hb' | hb'
  ·have zjm:=hb'; clear hb'
   have z9Y:=ite_t zoX zjm
   obtain ⟨zh0,ztz,z9Y⟩:=z8 z9Y
   obtain ⟨zh1,ztA,z9Y⟩:=z8 z9Y
   obtain ⟨zje,ztB,z9Y⟩:=z8 z9Y
   replace z9Y:=Option.some.inj z9Y
   refine WD.pin (i:=21) rfl zjm ?_
   refine WD.a (i:=19) (d:=22) (by kernel_rfl) rfl (z6 (by kernel_rfl)) (z7 (by kernel_rfl)) rfl rfl rfl (fun _=>q_fieldAddr fo_40_0 rfl rfl) ?_
   refine WD.e (i:=20) (d:=23) (by kernel_rfl) rfl (z6 (by kernel_rfl)) (z7 (by kernel_rfl)) rfl rfl rfl (q_load1 oneT_3 rfl (rd_stb .here rfl)) ?_
   refine WD.c (i:=21) (d:=24) (by kernel_rfl) rfl (z6 (by kernel_rfl)) (z7 (by kernel_rfl)) rfl rfl rfl (zi (l:=[.tmp 23]) Tryz.call63 (.cons rfl .nil)) (fun w hw=>by have pz:=(hz.call hw (.nil : Sel [stb z9X 40 [(.int .i64 z18.fN),(.int .i64 z18.fD)]] [] [stb z9X 40 [(.int .i64 z18.fN),(.int .i64 z18.fD)]])); exact w_rat_size (Z:=_)  (z8c:=z18.fN) (r:=zh0) w pz  ztz) ?_
   refine WD.a (i:=22) (d:=25) (by kernel_rfl) rfl (z6 (by kernel_rfl)) (z7 (by kernel_rfl)) rfl rfl rfl (fun _=>q_fieldAddr fo_40_1 rfl rfl) ?_
   refine WD.e (i:=23) (d:=26) (by kernel_rfl) rfl (z6 (by kernel_rfl)) (z7 (by kernel_rfl)) rfl rfl rfl (q_load1 oneT_3 rfl (rd_stb .here rfl)) ?_
   refine WD.c (i:=24) (d:=27) (by kernel_rfl) rfl (z6 (by kernel_rfl)) (z7 (by kernel_rfl)) rfl rfl rfl (zi (l:=[.tmp 26]) Tryz.call63 (.cons rfl .nil)) (fun w hw=>by have pz:=(hz.call hw (.nil : Sel [stb z9X 40 [(.int .i64 z18.fN),(.int .i64 z18.fD)]] [] [stb z9X 40 [(.int .i64 z18.fN),(.int .i64 z18.fD)]])); exact w_rat_size (Z:=_)  (z8c:=z18.fD) (r:=zh1) w pz  ztA) ?_
   refine WD.c (i:=25) (d:=28) (by kernel_rfl) rfl (z6 (by kernel_rfl)) (z7 (by kernel_rfl)) rfl rfl rfl (zi (l:=[.tmp 24,.tmp 27]) Tryz.call62 (.cons rfl (.cons rfl .nil))) (fun w hw=>by have pz:=(hz.call hw (.nil : Sel [stb z9X 40 [(.int .i64 z18.fN),(.int .i64 z18.fD)]] [] [stb z9X 40 [(.int .i64 z18.fN),(.int .i64 z18.fD)]])); exact w_rat_gcd_uint64 (Z:=_)  (z9V:=zh0) (z9W:=zh1) (r:=zje) w pz  ztB) ?_
   refine WD.a (i:=26) (d:=29) (by kernel_rfl) rfl (z6 (by kernel_rfl)) (z7 (by kernel_rfl)) rfl rfl rfl (fun _=>q_eql rfl rfl) ?_
   refine WD.a (i:=27) (d:=30) (by kernel_rfl) rfl (z6 (by kernel_rfl)) (z7 (by kernel_rfl)) rfl rfl rfl (fun _=>q_pickT rfl rfl) ?_
   refine WD.reL (.cons .here .nil) ?_ zp1
   exact (.cons rfl (.cons (zf (Eq.symm zjm)) (.cons (zf z9Y) .nil)))
  ·have zjn:=hb'; clear hb'
   have zjo:=ite_f zoX zjn
   replace zjo:=Option.some.inj zjo
   refine WD.pin (i:=21) rfl zjn ?_
   refine WD.b (i:=19) (d:=22) (by kernel_rfl) rfl (z6 (by kernel_rfl)) (z7 (by kernel_rfl)) rfl rfl rfl ?_
   refine WD.b (i:=20) (d:=23) (by kernel_rfl) rfl (z6 (by kernel_rfl)) (z7 (by kernel_rfl)) rfl rfl rfl ?_
   refine WD.b (i:=21) (d:=24) (by kernel_rfl) rfl (z6 (by kernel_rfl)) (z7 (by kernel_rfl)) rfl rfl rfl ?_
   refine WD.b (i:=22) (d:=25) (by kernel_rfl) rfl (z6 (by kernel_rfl)) (z7 (by kernel_rfl)) rfl rfl rfl ?_
   refine WD.b (i:=23) (d:=26) (by kernel_rfl) rfl (z6 (by kernel_rfl)) (z7 (by kernel_rfl)) rfl rfl rfl ?_
   refine WD.b (i:=24) (d:=27) (by kernel_rfl) rfl (z6 (by kernel_rfl)) (z7 (by kernel_rfl)) rfl rfl rfl ?_
   refine WD.b (i:=25) (d:=28) (by kernel_rfl) rfl (z6 (by kernel_rfl)) (z7 (by kernel_rfl)) rfl rfl rfl ?_
   refine WD.b (i:=26) (d:=29) (by kernel_rfl) rfl (z6 (by kernel_rfl)) (z7 (by kernel_rfl)) rfl rfl rfl ?_
   refine WD.a (i:=27) (d:=30) (by kernel_rfl) rfl (z6 (by kernel_rfl)) (z7 (by kernel_rfl)) rfl rfl rfl (fun _=>q_pickF rfl rfl) ?_
   refine WD.reL (.cons .here .nil) ?_ zp1
   exact (.cons rfl (.cons (zf (Eq.symm zjn)) (.cons (zf zjo) .nil)))
 refine WD.d #[true,true,true,true,true,true,true,true,true,true,true,true,true,true,true,true,true,true,true,true,true,true,true,true,true,true,true,true,false] (by kernel_rfl) ?_
 refine WD.a (i:=28) (d:=2) (by kernel_rfl) rfl (z6 (by kernel_rfl)) (z7 (by kernel_rfl)) rfl rfl rfl (fun _=>q_z rfl) ?_
 refine WD.done (by kernel_rfl) ?_
 refine WX.a ?_
 refine WC.ret ?_
 obtain rfl:=Option.some.inj h
 refine WX.bpRet Tryz.results44 (.tmp rfl .nil) (fun w hw=>?_)
 exact ⟨ret1 rfl,hw.sub .nil⟩
def m_curve_good (z3G : z2) : Option Bool :=
 (m_rat_Valid z3G).bind fun zf7=>some (zf7 && (decide (z3G.fN ≥ 0)))
set_option maxRecDepth 20000 in
theorem w_curve_good (Z : Zp)   (z3G : z2) (r : Bool) (w₀ : World) (hz : PZ [] w₀ Z)
  (h : m_curve_good z3G = some r) :
  Calls Tryz.prog 49 #[(.agg #[(.int .i64 z3G.fN),(.int .i64 z3G.fD)])] w₀ fun e w'=>e = .returned (.bool r) ∧ Hp [] w₀ w' []:=by
 unfold m_curve_good at h
 refine Calls.ofWC (vs:=[(.agg #[(.int .i64 z3G.fN),(.int .i64 z3G.fD)])]) (pre:=[]) (env:=[(0,(.agg #[(.int .i64 z3G.fN),(.int .i64 z3G.fD)]))]) Tryz.func49 rfl Tryz.ntmps49 rfl (Hp.nil w₀ _) rfl ?_
 refine WC.b ?_
 refine WC.a ?_
 refine WL.new (dd:=1) rfl rfl rfl (e_box (cs:=[(.int .i64 z3G.fN),(.int .i64 z3G.fD)]) rfl rfl) ?_
 intro zf8 _
 refine WL.a (d:=2) rfl rfl rfl (q_z rfl) ?_
 refine WL.nil ?_
 refine WX.a ?_
 refine WC.b ?_
 obtain ⟨zf7,ztC,h⟩:=z8 h
 refine WC.a ?_
 refine WL.a (d:=3) rfl rfl rfl (q_loadA (cs:=[(.int .i64 z3G.fN),(.int .i64 z3G.fD)]) aggT_40 rfl rfl (rd_all .here)) ?_
 refine WL.b (dd:=4) rfl rfl rfl (zi (l:=[.tmp 3]) Tryz.call44 (.cons rfl .nil)) (.nil : Sel [stb zf8 40 [(.int .i64 z3G.fN),(.int .i64 z3G.fD)]] [] [stb zf8 40 [(.int .i64 z3G.fN),(.int .i64 z3G.fD)]]) (fun w hw=>by have pz:=(hz.call hw (.nil : Sel [stb zf8 40 [(.int .i64 z3G.fN),(.int .i64 z3G.fD)]] [] [stb zf8 40 [(.int .i64 z3G.fN),(.int .i64 z3G.fD)]])); exact w_rat_Valid (Z:=_)  (z18:=z3G) (r:=zf7) w pz  ztC) ?_
 refine WL.a (d:=5) rfl rfl rfl (q_m rfl) ?_
 refine WL.cut0 True [(2,(.bool false)),(9,(.bool (zf7 && (decide (z3G.fN ≥ 0)))))] [stb zf8 40 [(.int .i64 z3G.fN),(.int .i64 z3G.fD)]] 4 ?_ (fun _=>?_)
 ·rcases Bool.eq_false_or_eq_true zf7 with hb' | hb'
  ·have zp2:=hb'; clear hb'
   refine WL.pin (i:=5) rfl zp2 ?_
   refine WL.a (d:=6) rfl rfl rfl (q_fieldAddr fo_40_0 rfl rfl) ?_
   refine WL.a (d:=7) rfl rfl rfl (q_load1 oneT_3 rfl (rd_stb .here rfl)) ?_
   refine WL.a (d:=8) rfl rfl rfl (q_geq rfl rfl) ?_
   refine WL.a (d:=9) rfl rfl rfl (q_pickT rfl rfl) ?_
   exact WL.cutEnd () trivial (.cons rfl (.cons (zf (and_r zp2)) .nil)) (.cons .here .nil)
  ·have zp3:=hb'; clear hb'
   refine WL.pin (i:=5) rfl zp3 ?_
   refine WL.e rfl rfl rfl ?_
   refine WL.e rfl rfl rfl ?_
   refine WL.e rfl rfl rfl ?_
   refine WL.a (d:=9) rfl rfl rfl (q_pickF rfl rfl) ?_
   exact WL.cutEnd () trivial (.cons rfl (.cons (zf (and_l zp3)) .nil)) (.cons .here .nil)
 ·skip
  refine WL.a (d:=2) rfl rfl rfl (q_z rfl) ?_
  refine WL.nil ?_
  refine WX.a ?_
  refine WC.ret ?_
  obtain rfl:=Option.some.inj h
  refine WX.bpRet Tryz.results49 (.tmp rfl .nil) (fun w hw=>?_)
  exact ⟨ret1 rfl,hw.sub .nil⟩
def m_curve_Valid_1 (z1C : z1) : Option Bool :=
 (m_curve_good z1C.fBurst).bind fun zh2=>(if !zh2 then some true else (m_curve_good z1C.fRate).bind fun zjp=>some (!zjp)).bind fun zjq=>some zjq
set_option maxRecDepth 20000 in
theorem w_curve_Valid_1 (Z : Zp)   (z1C : z1) (r : Bool) (w₀ : World) (hz : PZ [] w₀ Z)
  (h : m_curve_Valid_1 z1C = some r) :
  Calls Tryz.prog 48 #[(.agg #[(.int .i64 z1C.fBurst.fN),(.int .i64 z1C.fBurst.fD),(.int .i64 z1C.fRate.fN),(.int .i64 z1C.fRate.fD)])] w₀ fun e w'=>e = .returned (.bool r) ∧ Hp [] w₀ w' []:=by
 unfold m_curve_Valid_1 at h
 refine Calls.ofWC (vs:=[(.agg #[(.int .i64 z1C.fBurst.fN),(.int .i64 z1C.fBurst.fD),(.int .i64 z1C.fRate.fN),(.int .i64 z1C.fRate.fD)])]) (pre:=[]) (env:=[(0,(.agg #[(.int .i64 z1C.fBurst.fN),(.int .i64 z1C.fBurst.fD),(.int .i64 z1C.fRate.fN),(.int .i64 z1C.fRate.fD)]))]) Tryz.func48 rfl Tryz.ntmps48 rfl (Hp.nil w₀ _) rfl ?_
 refine WC.b ?_
 refine WC.a ?_
 refine WL.new (dd:=1) rfl rfl rfl (e_box (cs:=[(.int .i64 z1C.fBurst.fN),(.int .i64 z1C.fBurst.fD),(.int .i64 z1C.fRate.fN),(.int .i64 z1C.fRate.fD)]) rfl rfl) ?_
 intro z9Z _
 refine WL.a (d:=2) rfl rfl rfl (q_z rfl) ?_
 refine WL.nil ?_
 refine WX.a ?_
 refine WC.b ?_
 obtain ⟨zh2,ztD,h⟩:=z8 h
 obtain ⟨zjq,zp4,h⟩:=z8 h
 refine WC.a ?_
 refine WL.a (d:=3) rfl rfl rfl (q_fieldAddr fo_54_0 rfl rfl) ?_
 refine WL.a (d:=4) rfl rfl rfl (q_loadA (cs:=[(.int .i64 z1C.fBurst.fN),(.int .i64 z1C.fBurst.fD)]) aggT_40 rfl rfl (rd_sub (s:=2) .here rfl)) ?_
 refine WL.b (dd:=5) rfl rfl rfl (zi (l:=[.tmp 4]) Tryz.call49 (.cons rfl .nil)) (.nil : Sel [stb z9Z 54 [(.int .i64 z1C.fBurst.fN),(.int .i64 z1C.fBurst.fD),(.int .i64 z1C.fRate.fN),(.int .i64 z1C.fRate.fD)]] [] [stb z9Z 54 [(.int .i64 z1C.fBurst.fN),(.int .i64 z1C.fBurst.fD),(.int .i64 z1C.fRate.fN),(.int .i64 z1C.fRate.fD)]]) (fun w hw=>by have pz:=(hz.call hw (.nil : Sel [stb z9Z 54 [(.int .i64 z1C.fBurst.fN),(.int .i64 z1C.fBurst.fD),(.int .i64 z1C.fRate.fN),(.int .i64 z1C.fRate.fD)]] [] [stb z9Z 54 [(.int .i64 z1C.fBurst.fN),(.int .i64 z1C.fBurst.fD),(.int .i64 z1C.fRate.fN),(.int .i64 z1C.fRate.fD)]])); exact w_curve_good (Z:=_)  (z3G:=z1C.fBurst) (r:=zh2) w pz  ztD) ?_
 refine WL.a (d:=6) rfl rfl rfl (q_not rfl) ?_
 refine WL.a (d:=7) rfl rfl rfl (q_m rfl) ?_
 refine WL.cut0 True [(2,(.bool false)),(12,(.bool zjq))] [stb z9Z 54 [(.int .i64 z1C.fBurst.fN),(.int .i64 z1C.fBurst.fD),(.int .i64 z1C.fRate.fN),(.int .i64 z1C.fRate.fD)]] 5 ?_ (fun _=>?_)
 ·rcases Bool.eq_false_or_eq_true (!zh2) with hb' | hb'
  ·have zp5:=hb'; clear hb'
   have zjr:=ite_t zp4 zp5
   replace zjr:=Option.some.inj zjr
   refine WL.pin (i:=7) rfl zp5 ?_
   refine WL.e rfl rfl rfl ?_
   refine WL.e rfl rfl rfl ?_
   refine WL.e rfl rfl rfl ?_
   refine WL.e rfl rfl rfl ?_
   refine WL.a (d:=12) rfl rfl rfl (q_pickT rfl rfl) ?_
   exact WL.cutEnd () trivial (.cons rfl (.cons (zf zjr) .nil)) (.cons .here .nil)
  ·have zp6:=hb'; clear hb'
   have zf9:=ite_f zp4 zp6
   obtain ⟨zjp,ztE,zf9⟩:=z8 zf9
   replace zf9:=Option.some.inj zf9
   refine WL.pin (i:=7) rfl zp6 ?_
   refine WL.a (d:=8) rfl rfl rfl (q_fieldAddr fo_54_1 rfl rfl) ?_
   refine WL.a (d:=9) rfl rfl rfl (q_loadA (cs:=[(.int .i64 z1C.fRate.fN),(.int .i64 z1C.fRate.fD)]) aggT_40 rfl rfl (rd_sub (s:=2) .here rfl)) ?_
   refine WL.b (dd:=10) rfl rfl rfl (zi (l:=[.tmp 9]) Tryz.call49 (.cons rfl .nil)) (.nil : Sel [stb z9Z 54 [(.int .i64 z1C.fBurst.fN),(.int .i64 z1C.fBurst.fD),(.int .i64 z1C.fRate.fN),(.int .i64 z1C.fRate.fD)]] [] [stb z9Z 54 [(.int .i64 z1C.fBurst.fN),(.int .i64 z1C.fBurst.fD),(.int .i64 z1C.fRate.fN),(.int .i64 z1C.fRate.fD)]]) (fun w hw=>by have pz:=(hz.call hw (.nil : Sel [stb z9Z 54 [(.int .i64 z1C.fBurst.fN),(.int .i64 z1C.fBurst.fD),(.int .i64 z1C.fRate.fN),(.int .i64 z1C.fRate.fD)]] [] [stb z9Z 54 [(.int .i64 z1C.fBurst.fN),(.int .i64 z1C.fBurst.fD),(.int .i64 z1C.fRate.fN),(.int .i64 z1C.fRate.fD)]])); exact w_curve_good (Z:=_)  (z3G:=z1C.fRate) (r:=zjp) w pz  ztE) ?_
   refine WL.a (d:=11) rfl rfl rfl (q_not rfl) ?_
   refine WL.a (d:=12) rfl rfl rfl (q_pickF rfl rfl) ?_
   exact WL.cutEnd () trivial (.cons rfl (.cons (zf zf9) .nil)) (.cons .here .nil)
 ·skip
  refine WL.a (d:=2) rfl rfl rfl (q_z rfl) ?_
  refine WL.nil ?_
  refine WX.a ?_
  refine WC.ret ?_
  obtain rfl:=Option.some.inj h
  refine WX.bpRet Tryz.results48 (.tmp rfl .nil) (fun w hw=>?_)
  exact ⟨ret1 rfl,hw.sub .nil⟩
def m_slices_IndexFunc_api_Curve_api_Bucket_L2 (z3H : List z1) (z8Q : z1 → Option Bool) (za0 : Option Int) : Nat → Int → Option Int
 | 0,_=>none
 | zjs + 1,z40=>if decide (z40 < ((z3H.length : Nat) : Int)) then chk ((0 : Int) ≤ z40 ∧ z40 < ((z3H.length : Nat) : Int)) ((z8Q (⟨(⟨(((nth z3H z40).fBurst).fN),(((nth z3H z40).fBurst).fD)⟩ : z2),(⟨(((nth z3H z40).fRate).fN),(((nth z3H z40).fRate).fD)⟩ : z2)⟩ : z1)).bind fun zjt=>if zjt then some z40 else m_slices_IndexFunc_api_Curve_api_Bucket_L2 z3H z8Q za0 zjs (i64 (z40 + 1))) else za0
theorem m_slices_IndexFunc_api_Curve_api_Bucket_L2_fuel {n : Nat} {z3H : List z1} {z8Q : z1 → Option Bool} {za0 : Option Int} {z40 : Int} {r : Int} (h : m_slices_IndexFunc_api_Curve_api_Bucket_L2 z3H z8Q za0 n z40 = some r) : ∃ m,n = m + 1:=by
 cases n with
 | zero=>cases h
 | succ m=>exact ⟨m,rfl⟩
def m_slices_IndexFunc_api_Curve_api_Bucket (z3H : List z1) (z8Q : z1 → Option Bool) : Option Int :=
 jp0 (some (-1)) fun za0=>m_slices_IndexFunc_api_Curve_api_Bucket_L2 z3H z8Q za0 FUEL 0
set_option maxRecDepth 20000 in
theorem w_slices_IndexFunc_api_Curve_api_Bucket (Z : Zp)  (zdD : Option Addr) (zdE : Nat) (za1 : FuncId) (zce : List Value) (z3H : List z1) (z8Q : z1 → Option Bool) (r : Int) (w₀ : World) (hz : PZ [] w₀ Z)
  (ztF : ZS Z 4 (fun r x=>r = e54 x) zdD zdE z3H)
  (ztG : ∀ args w,(callFunc za1 args).run Tryz.prog w = .ok (.enter za1 args) w)
  (ztH : ∀ w : World,PZ [] w Z → ∀ (x0 : z1) (r : Bool),z8Q x0 = some r → Calls Tryz.prog za1 (([(.agg #[(.int .i64 x0.fBurst.fN),(.int .i64 x0.fBurst.fD),(.int .i64 x0.fRate.fN),(.int .i64 x0.fRate.fD)])] : List Value) ++ zce).toArray w fun e w'=>e = .returned (.bool r) ∧ Hp [] w w' [])
  (h : m_slices_IndexFunc_api_Curve_api_Bucket z3H z8Q = some r) :
  Calls Tryz.prog 66 #[(.slice zdD z3H.length zdE),(.func (.func za1) #[] (zce).toArray)] w₀ fun e w'=>e = .returned (.int .i64 r) ∧ Hp [] w₀ w' []:=by
 unfold m_slices_IndexFunc_api_Curve_api_Bucket at h
 refine Calls.ofWC (vs:=[(.slice zdD z3H.length zdE),(.func (.func za1) #[] (zce).toArray)]) (pre:=[]) (env:=[(0,(.slice zdD z3H.length zdE)),(1,(.func (.func za1) #[] (zce).toArray))]) Tryz.func66 rfl Tryz.ntmps66 rfl (Hp.nil w₀ _) rfl ?_
 refine WC.b ?_
 refine WC.a ?_
 refine WL.a (d:=4) rfl rfl rfl (q_z rfl) ?_
 refine WL.nil ?_
 refine WX.a ?_
 obtain ⟨za0,ztI,h⟩:=jp0_elim h
 refine WC.seqMid0 ((za0 = some r)) ([]) ([]) ?_ ?_
 ·skip
  refine WC.b ?_
  refine WC.a ?_
  refine WL.a (d:=6) rfl rfl rfl (q_m rfl) ?_
  refine WL.a (d:=7) rfl rfl rfl (q_len Tryz.underlying23 rfl) ?_
  refine WL.a (d:=8) rfl rfl rfl (q_m rfl) ?_
  refine WL.nil ?_
  refine WX.a ?_
  refine WC.block ?_
  refine WC.loop2 (fun (zdF : Nat) (z40 : Int)=>(m_slices_IndexFunc_api_Curve_api_Bucket_L2 z3H z8Q za0 zdF z40 = some r)) (fun (zdF : Nat) (z40 : Int)=>[(0,(.slice zdD z3H.length zdE)),(1,(.func (.func za1) #[] (zce).toArray)),(7,(.int .i64 ((z3H.length : Nat) : Int))),(8,(.int .i64 z40))]) (fun (zdF : Nat) (z40 : Int)=>[]) (fun (zdF : Nat) (z40 : Int)=>zdF) ⟨FUEL,0⟩ h (.cons rfl (.cons rfl (.cons rfl (.cons rfl .nil)))) .nil ?_
  rintro zdF z40 h
  obtain ⟨zjs,rfl⟩:=m_slices_IndexFunc_api_Curve_api_Bucket_L2_fuel h
  rw [m_slices_IndexFunc_api_Curve_api_Bucket_L2] at h
  refine WC.b ?_
  refine WC.a ?_
  refine WL.a (d:=9) rfl rfl rfl (q_lss rfl rfl) ?_
  refine WL.nil ?_
  refine WX.a ?_
  refine WC.b ?_
  refine WC.cond rfl (fun zju=>?_) (fun zju=>?_)
  ·replace h:=ite_t h zju
   refine WC.skip ?_
   refine WX.a ?_
   refine WC.b ?_
   refine WC.block ?_
   refine WC.b ?_
   refine WC.a ?_
   refine WL.a (d:=10) rfl rfl rfl (q_m rfl) ?_
   refine WL.a (d:=5) rfl rfl rfl (q_z rfl) ?_
   refine WL.nil ?_
   refine WX.a ?_
   refine WC.b ?_
   obtain ⟨ztJ,h⟩:=chk_elim h
   obtain ⟨zjt,ztK,h⟩:=z8 h
   refine WC.a ?_
   refine WL.a (d:=11) rfl rfl rfl (q_m rfl) ?_
   refine WL.a (d:=12) rfl rfl rfl (q_m rfl) ?_
   refine WL.a (d:=13) rfl rfl rfl (q_m rfl) ?_
   refine WL.znth (dd:=14) rfl rfl (Z:=Z) (Pr:=(fun r x=>r = e54 x)) elT_23 rfl rfl ztF ztJ ?_
   rintro zBZ zC0 ztL zC1 rfl
   refine WL.a (d:=15) rfl rfl rfl (q_loadA (cs:=[(.int .i64 (((nth z3H z40).fBurst).fN)),(.int .i64 (((nth z3H z40).fBurst).fD)),(.int .i64 (((nth z3H z40).fRate).fN)),(.int .i64 (((nth z3H z40).fRate).fD))]) aggT_54 rfl rfl (rd_zs hz.pv ztL)) ?_
   refine WL.b (dd:=16) rfl rfl rfl (run_callv (l:=[.tmp 15]) (f:=za1) (caps:=zce) ztG rfl (.cons rfl .nil)) .nil (fun w hw=>ztH w (hz.now hw) (⟨(⟨(((nth z3H z40).fBurst).fN),(((nth z3H z40).fBurst).fD)⟩ : z2),(⟨(((nth z3H z40).fRate).fN),(((nth z3H z40).fRate).fD)⟩ : z2)⟩ : z1) zjt  ztK) ?_
   refine WL.nil ?_
   refine WX.a ?_
   refine WC.cond rfl (fun zjv=>?_) (fun zjv=>?_)
   ·replace h:=ite_t h zjv
    refine WC.b ?_
    refine WC.a ?_
    refine WL.a (d:=17) rfl rfl rfl (q_m rfl) ?_
    refine WL.a (d:=4) rfl rfl rfl (q_z rfl) ?_
    refine WL.nil ?_
    refine WX.a ?_
    refine WC.ret ?_
    refine WX.blockRet ?_
    refine WX.thenRet ?_
    refine WX.thenRet ?_
    refine WX.blockRet ?_
    refine WX.thenRet ?_
    obtain rfl:=Option.some.inj h
    refine WX.bpRet Tryz.results66 (.tmp rfl .nil) (fun w hw=>?_)
    exact ⟨ret1 rfl,hw.sub .nil⟩
   ·replace h:=ite_f h zjv
    refine WC.skip ?_
    refine WX.blockNormal ?_
    refine WX.a ?_
    refine WC.a ?_
    refine WL.a (d:=18) rfl rfl rfl (q_add rfl rfl rfl) ?_
    refine WL.a (d:=8) rfl rfl rfl (q_m rfl) ?_
    refine WL.nil ?_
    exact WX.round (G:=Nat × Int) ⟨zjs,(i64 (z40 + 1))⟩ h (Nat.lt_succ_self _) (.cons rfl (.cons rfl (.cons rfl (.cons rfl .nil)))) .nil
  ·replace h:=ite_f h zju
   refine WC.exit ?_
   refine WX.thenExit ?_
   refine WX.thenExit ?_
   refine WX.blockHit ?_
   exact WX.mid (G:=Unit) () h .nil .nil
 ·rintro  h
  replace h:=ztI.symm.trans h
  refine WC.b ?_
  refine WC.a ?_
  refine WL.a (d:=4) rfl rfl rfl (q_z rfl) ?_
  refine WL.nil ?_
  refine WX.a ?_
  refine WC.ret ?_
  obtain rfl:=Option.some.inj h
  refine WX.bpRet Tryz.results66 (.tmp rfl .nil) (fun w hw=>?_)
  exact ⟨ret1 rfl,hw.sub .nil⟩
def m_slices_ContainsFunc_api_Curve_api_Bucket (z9l : List z1) (zcf : z1 → Option Bool) : Option Bool :=
 (m_slices_IndexFunc_api_Curve_api_Bucket z9l zcf).bind fun zjw=>some (decide (zjw ≥ 0))
set_option maxRecDepth 20000 in
theorem w_slices_ContainsFunc_api_Curve_api_Bucket (Z : Zp)  (zcg : Option Addr) (zch : Nat) (za2 : FuncId) (zci : List Value) (z9l : List z1) (zcf : z1 → Option Bool) (r : Bool) (w₀ : World) (hz : PZ [] w₀ Z)
  (ztM : ZS Z 4 (fun r x=>r = e54 x) zcg zch z9l)
  (ztN : ∀ args w,(callFunc za2 args).run Tryz.prog w = .ok (.enter za2 args) w)
  (ztO : ∀ w : World,PZ [] w Z → ∀ (x0 : z1) (r : Bool),zcf x0 = some r → Calls Tryz.prog za2 (([(.agg #[(.int .i64 x0.fBurst.fN),(.int .i64 x0.fBurst.fD),(.int .i64 x0.fRate.fN),(.int .i64 x0.fRate.fD)])] : List Value) ++ zci).toArray w fun e w'=>e = .returned (.bool r) ∧ Hp [] w w' [])
  (h : m_slices_ContainsFunc_api_Curve_api_Bucket z9l zcf = some r) :
  Calls Tryz.prog 47 #[(.slice zcg z9l.length zch),(.func (.func za2) #[] (zci).toArray)] w₀ fun e w'=>e = .returned (.bool r) ∧ Hp [] w₀ w' []:=by
 unfold m_slices_ContainsFunc_api_Curve_api_Bucket at h
 refine Calls.ofWC (vs:=[(.slice zcg z9l.length zch),(.func (.func za2) #[] (zci).toArray)]) (pre:=[]) (env:=[(0,(.slice zcg z9l.length zch)),(1,(.func (.func za2) #[] (zci).toArray))]) Tryz.func47 rfl Tryz.ntmps47 rfl (Hp.nil w₀ _) rfl ?_
 refine WC.b ?_
 refine WC.a ?_
 refine WL.a (d:=4) rfl rfl rfl (q_z rfl) ?_
 refine WL.nil ?_
 refine WX.a ?_
 refine WC.b ?_
 obtain ⟨zjw,ztP,h⟩:=z8 h
 refine WC.a ?_
 refine WL.a (d:=5) rfl rfl rfl (q_m rfl) ?_
 refine WL.a (d:=6) rfl rfl rfl (q_m rfl) ?_
 refine WL.b (dd:=7) rfl rfl rfl (zi (l:=[.tmp 5,.tmp 6]) Tryz.call66 (.cons rfl (.cons rfl .nil))) (.nil : Sel [] [] []) (fun w hw=>by have pz:=(hz.call hw (.nil : Sel [] [] [])); exact w_slices_IndexFunc_api_Curve_api_Bucket (Z:=_) (zdD:=zcg) (zdE:=zch) (za1:=za2) (zce:=zci) (z3H:=z9l) (z8Q:=zcf) (r:=zjw) w pz ztM ztN ztO ztP) ?_
 refine WL.a (d:=8) rfl rfl rfl (q_geq rfl rfl) ?_
 refine WL.a (d:=4) rfl rfl rfl (q_z rfl) ?_
 refine WL.nil ?_
 refine WX.a ?_
 refine WC.ret ?_
 obtain rfl:=Option.some.inj h
 refine WX.bpRet Tryz.results47 (.tmp rfl .nil) (fun w hw=>?_)
 exact ⟨ret1 rfl,hw.sub .nil⟩
def m_curve_Valid (z5q : List z1) : Option Bool :=
 (if (decide (((z5q.length : Nat) : Int) ≥ 1)) && (decide (((z5q.length : Nat) : Int) ≤ 32)) then (m_slices_ContainsFunc_api_Curve_api_Bucket z5q (fun (y0 : z1)=>m_curve_Valid_1 y0)).bind fun zjx=>some (!zjx) else some false).bind fun zjy=>some zjy
set_option maxRecDepth 20000 in
theorem w_curve_Valid (Z : Zp)  (z8R : Option Addr) (z8S : Nat) (z5q : List z1) (r : Bool) (w₀ : World) (hz : PZ [] w₀ Z)
  (ztQ : ZS Z 4 (fun r x=>r = e54 x) z8R z8S z5q)
  (h : m_curve_Valid z5q = some r) :
  Calls Tryz.prog 21 #[(.slice z8R z5q.length z8S)] w₀ fun e w'=>e = .returned (.bool r) ∧ Hp [] w₀ w' []:=by
 unfold m_curve_Valid at h
 refine Calls.ofWC (vs:=[(.slice z8R z5q.length z8S)]) (pre:=[]) (env:=[(0,(.slice z8R z5q.length z8S))]) Tryz.func21 rfl Tryz.ntmps21 rfl (Hp.nil w₀ _) rfl ?_
 refine WC.b ?_
 refine WC.a ?_
 refine WL.a (d:=2) rfl rfl rfl (q_z rfl) ?_
 refine WL.nil ?_
 refine WX.a ?_
 refine WC.b ?_
 obtain ⟨zjy,zp7,h⟩:=z8 h
 refine WC.a ?_
 refine WL.a (d:=3) rfl rfl rfl (q_m rfl) ?_
 refine WL.a (d:=4) rfl rfl rfl (q_len Tryz.underlying23 rfl) ?_
 refine WL.a (d:=5) rfl rfl rfl (q_geq rfl rfl) ?_
 refine WL.a (d:=6) rfl rfl rfl (q_m rfl) ?_
 refine WL.cut0 True [(0,(.slice z8R z5q.length z8S)),(2,(.bool false)),(10,(.bool ((decide (((z5q.length : Nat) : Int) ≥ 1)) && (decide (((z5q.length : Nat) : Int) ≤ 32)))))] [] 4 ?_ (fun _=>?_)
 ·rcases Bool.eq_false_or_eq_true (decide (((z5q.length : Nat) : Int) ≥ 1)) with hb' | hb'
  ·have zp8:=hb'; clear hb'
   refine WL.pin (i:=6) rfl zp8 ?_
   refine WL.a (d:=7) rfl rfl rfl (q_m rfl) ?_
   refine WL.a (d:=8) rfl rfl rfl (q_len Tryz.underlying23 rfl) ?_
   refine WL.a (d:=9) rfl rfl rfl (q_leq rfl rfl) ?_
   refine WL.a (d:=10) rfl rfl rfl (q_pickT rfl rfl) ?_
   exact WL.cutEnd () trivial (.cons rfl (.cons rfl (.cons (zf (and_r zp8)) .nil))) .nil
  ·have zp9:=hb'; clear hb'
   refine WL.pin (i:=6) rfl zp9 ?_
   refine WL.e rfl rfl rfl ?_
   refine WL.e rfl rfl rfl ?_
   refine WL.e rfl rfl rfl ?_
   refine WL.a (d:=10) rfl rfl rfl (q_pickF rfl rfl) ?_
   exact WL.cutEnd () trivial (.cons rfl (.cons rfl (.cons (zf (and_l zp9)) .nil))) .nil
 ·skip
  refine WL.a (d:=11) rfl rfl rfl (q_m rfl) ?_
  refine WL.cut0 True [(2,(.bool false)),(15,(.bool zjy))] [] 4 ?_ (fun _=>?_)
  ·rcases Bool.eq_false_or_eq_true ((decide (((z5q.length : Nat) : Int) ≥ 1)) && (decide (((z5q.length : Nat) : Int) ≤ 32))) with hb' | hb'
   ·have zpa:=hb'; clear hb'
    have zfa:=ite_t zp7 zpa
    obtain ⟨zjx,ztR,zfa⟩:=z8 zfa
    replace zfa:=Option.some.inj zfa
    refine WL.pin (i:=11) rfl zpa ?_
    refine WL.a (d:=12) rfl rfl rfl (q_m rfl) ?_
    refine WL.b (dd:=13) rfl rfl rfl (zi (l:=[.tmp 12,.func 48]) Tryz.call47 (.cons rfl (.cons rfl .nil))) (.nil : Sel [] [] []) (fun w hw=>by have pz:=(hz.call hw (.nil : Sel [] [] [])); exact w_slices_ContainsFunc_api_Curve_api_Bucket (Z:=_) (zcg:=z8R) (zch:=z8S) (za2:=48) (zci:=[]) (z9l:=z5q) (zcf:=(fun (y0 : z1)=>m_curve_Valid_1 y0)) (r:=zjx) w pz ztQ Tryz.call48 (fun w' hz' y0  r  hr=>w_curve_Valid_1 (Z:=_)  (z1C:=y0) (r:=r) w' hz'  hr) ztR) ?_
    refine WL.a (d:=14) rfl rfl rfl (q_not rfl) ?_
    refine WL.a (d:=15) rfl rfl rfl (q_pickT rfl rfl) ?_
    exact WL.cutEnd () trivial (.cons rfl (.cons (zf zfa) .nil)) .nil
   ·have zpb:=hb'; clear hb'
    have zjz:=ite_f zp7 zpb
    replace zjz:=Option.some.inj zjz
    refine WL.pin (i:=11) rfl zpb ?_
    refine WL.e rfl rfl rfl ?_
    refine WL.e rfl rfl rfl ?_
    refine WL.e rfl rfl rfl ?_
    refine WL.a (d:=15) rfl rfl rfl (q_pickF rfl rfl) ?_
    exact WL.cutEnd () trivial (.cons rfl (.cons (zf zjz) .nil)) .nil
  ·skip
   refine WL.a (d:=2) rfl rfl rfl (q_z rfl) ?_
   refine WL.nil ?_
   refine WX.a ?_
   refine WC.ret ?_
   obtain rfl:=Option.some.inj h
   refine WX.bpRet Tryz.results21 (.tmp rfl .nil) (fun w hw=>?_)
   exact ⟨ret1 rfl,hw.sub .nil⟩
def m_calculus_search_check_1 (z9m : List z1) : Option Bool :=
 (m_curve_Valid z9m).bind fun zjA=>some (!zjA)
set_option maxRecDepth 20000 in
theorem w_calculus_search_check_1 (Z : Zp)  (zcj : Option Addr) (zck : Nat) (z9m : List z1) (r : Bool) (w₀ : World) (hz : PZ [] w₀ Z)
  (ztS : ZS Z 4 (fun r x=>r = e54 x) zcj zck z9m)
  (h : m_calculus_search_check_1 z9m = some r) :
  Calls Tryz.prog 75 #[(.slice zcj z9m.length zck)] w₀ fun e w'=>e = .returned (.bool r) ∧ Hp [] w₀ w' []:=by
 unfold m_calculus_search_check_1 at h
 refine Calls.ofWC (vs:=[(.slice zcj z9m.length zck)]) (pre:=[]) (env:=[(0,(.slice zcj z9m.length zck))]) Tryz.func75 rfl Tryz.ntmps75 rfl (Hp.nil w₀ _) rfl ?_
 refine WC.b ?_
 refine WC.a ?_
 refine WL.a (d:=2) rfl rfl rfl (q_z rfl) ?_
 refine WL.nil ?_
 refine WX.a ?_
 refine WC.b ?_
 obtain ⟨zjA,ztT,h⟩:=z8 h
 refine WC.a ?_
 refine WL.a (d:=3) rfl rfl rfl (q_m rfl) ?_
 refine WL.b (dd:=4) rfl rfl rfl (zi (l:=[.tmp 3]) Tryz.call21 (.cons rfl .nil)) (.nil : Sel [] [] []) (fun w hw=>by have pz:=(hz.call hw (.nil : Sel [] [] [])); exact w_curve_Valid (Z:=_) (z8R:=zcj) (z8S:=zck) (z5q:=z9m) (r:=zjA) w pz ztS ztT) ?_
 refine WL.a (d:=5) rfl rfl rfl (q_not rfl) ?_
 refine WL.a (d:=2) rfl rfl rfl (q_z rfl) ?_
 refine WL.nil ?_
 refine WX.a ?_
 refine WC.ret ?_
 obtain rfl:=Option.some.inj h
 refine WX.bpRet Tryz.results75 (.tmp rfl .nil) (fun w hw=>?_)
 exact ⟨ret1 rfl,hw.sub .nil⟩
def m_slices_IndexFunc_api_Curve_api_Curve_L2 (z5H : List (List z1)) (z8T : (List z1) → Option Bool) (za3 : Option Int) : Nat → Int → Option Int
 | 0,_=>none
 | zjB + 1,z6x=>if decide (z6x < ((z5H.length : Nat) : Int)) then chk ((0 : Int) ≤ z6x ∧ z6x < ((z5H.length : Nat) : Int)) ((z8T (nth z5H z6x)).bind fun zjC=>if zjC then some z6x else m_slices_IndexFunc_api_Curve_api_Curve_L2 z5H z8T za3 zjB (i64 (z6x + 1))) else za3
theorem m_slices_IndexFunc_api_Curve_api_Curve_L2_fuel {n : Nat} {z5H : List (List z1)} {z8T : (List z1) → Option Bool} {za3 : Option Int} {z6x : Int} {r : Int} (h : m_slices_IndexFunc_api_Curve_api_Curve_L2 z5H z8T za3 n z6x = some r) : ∃ m,n = m + 1:=by
 cases n with
 | zero=>cases h
 | succ m=>exact ⟨m,rfl⟩
def m_slices_IndexFunc_api_Curve_api_Curve (z5H : List (List z1)) (z8T : (List z1) → Option Bool) : Option Int :=
 jp0 (some (-1)) fun za3=>m_slices_IndexFunc_api_Curve_api_Curve_L2 z5H z8T za3 FUEL 0
set_option maxRecDepth 20000 in
theorem w_slices_IndexFunc_api_Curve_api_Curve (Z : Zp)  (zdG : Option Addr) (zdH : Nat) (za4 : FuncId) (zcl : List Value) (z5H : List (List z1)) (z8T : (List z1) → Option Bool) (r : Int) (w₀ : World) (hz : PZ [] w₀ Z)
  (ztU : ZS Z 1 (p23 Z) zdG zdH z5H)
  (ztV : ∀ args w,(callFunc za4 args).run Tryz.prog w = .ok (.enter za4 args) w)
  (ztW : ∀ w : World,PZ [] w Z → ∀ (x0 : List z1) (ao0 : Option Addr) (cap0 : Nat) (r : Bool),ZS Z 4 (fun r x=>r = e54 x) ao0 cap0 x0 → z8T x0 = some r → Calls Tryz.prog za4 (([(.slice ao0 x0.length cap0)] : List Value) ++ zcl).toArray w fun e w'=>e = .returned (.bool r) ∧ Hp [] w w' [])
  (h : m_slices_IndexFunc_api_Curve_api_Curve z5H z8T = some r) :
  Calls Tryz.prog 83 #[(.slice zdG z5H.length zdH),(.func (.func za4) #[] (zcl).toArray)] w₀ fun e w'=>e = .returned (.int .i64 r) ∧ Hp [] w₀ w' []:=by
 unfold m_slices_IndexFunc_api_Curve_api_Curve at h
 refine Calls.ofWC (vs:=[(.slice zdG z5H.length zdH),(.func (.func za4) #[] (zcl).toArray)]) (pre:=[]) (env:=[(0,(.slice zdG z5H.length zdH)),(1,(.func (.func za4) #[] (zcl).toArray))]) Tryz.func83 rfl Tryz.ntmps83 rfl (Hp.nil w₀ _) rfl ?_
 refine WC.b ?_
 refine WC.a ?_
 refine WL.a (d:=4) rfl rfl rfl (q_z rfl) ?_
 refine WL.nil ?_
 refine WX.a ?_
 obtain ⟨za3,ztX,h⟩:=jp0_elim h
 refine WC.seqMid0 ((za3 = some r)) ([]) ([]) ?_ ?_
 ·skip
  refine WC.b ?_
  refine WC.a ?_
  refine WL.a (d:=6) rfl rfl rfl (q_m rfl) ?_
  refine WL.a (d:=7) rfl rfl rfl (q_len Tryz.underlying38 rfl) ?_
  refine WL.a (d:=8) rfl rfl rfl (q_m rfl) ?_
  refine WL.nil ?_
  refine WX.a ?_
  refine WC.block ?_
  refine WC.loop2 (fun (zdI : Nat) (z6x : Int)=>(m_slices_IndexFunc_api_Curve_api_Curve_L2 z5H z8T za3 zdI z6x = some r)) (fun (zdI : Nat) (z6x : Int)=>[(0,(.slice zdG z5H.length zdH)),(1,(.func (.func za4) #[] (zcl).toArray)),(7,(.int .i64 ((z5H.length : Nat) : Int))),(8,(.int .i64 z6x))]) (fun (zdI : Nat) (z6x : Int)=>[]) (fun (zdI : Nat) (z6x : Int)=>zdI) ⟨FUEL,0⟩ h (.cons rfl (.cons rfl (.cons rfl (.cons rfl .nil)))) .nil ?_
  rintro zdI z6x h
  obtain ⟨zjB,rfl⟩:=m_slices_IndexFunc_api_Curve_api_Curve_L2_fuel h
  rw [m_slices_IndexFunc_api_Curve_api_Curve_L2] at h
  refine WC.b ?_
  refine WC.a ?_
  refine WL.a (d:=9) rfl rfl rfl (q_lss rfl rfl) ?_
  refine WL.nil ?_
  refine WX.a ?_
  refine WC.b ?_
  refine WC.cond rfl (fun zjD=>?_) (fun zjD=>?_)
  ·replace h:=ite_t h zjD
   refine WC.skip ?_
   refine WX.a ?_
   refine WC.b ?_
   refine WC.block ?_
   refine WC.b ?_
   refine WC.a ?_
   refine WL.a (d:=10) rfl rfl rfl (q_m rfl) ?_
   refine WL.a (d:=5) rfl rfl rfl (q_z rfl) ?_
   refine WL.nil ?_
   refine WX.a ?_
   refine WC.b ?_
   obtain ⟨ztY,h⟩:=chk_elim h
   obtain ⟨zjC,ztZ,h⟩:=z8 h
   refine WC.a ?_
   refine WL.a (d:=11) rfl rfl rfl (q_m rfl) ?_
   refine WL.a (d:=12) rfl rfl rfl (q_m rfl) ?_
   refine WL.a (d:=13) rfl rfl rfl (q_m rfl) ?_
   refine WL.znth (dd:=14) rfl rfl (Z:=Z) (Pr:=(p23 Z)) elT_38 rfl rfl ztU ztY ?_
   rintro zC2 zC3 zu0 zC4 ⟨zu1,zu2,rfl,zu3⟩
   refine WL.a (d:=15) rfl rfl rfl (q_load1 oneT_23 rfl (rd_z hz.pv zu0 rfl)) ?_
   refine WL.b (dd:=16) rfl rfl rfl (run_callv (l:=[.tmp 15]) (f:=za4) (caps:=zcl) ztV rfl (.cons rfl .nil)) .nil (fun w hw=>ztW w (hz.now hw) (nth z5H z6x) zu1 zu2 zjC zu3 ztZ) ?_
   refine WL.nil ?_
   refine WX.a ?_
   refine WC.cond rfl (fun zjE=>?_) (fun zjE=>?_)
   ·replace h:=ite_t h zjE
    refine WC.b ?_
    refine WC.a ?_
    refine WL.a (d:=17) rfl rfl rfl (q_m rfl) ?_
    refine WL.a (d:=4) rfl rfl rfl (q_z rfl) ?_
    refine WL.nil ?_
    refine WX.a ?_
    refine WC.ret ?_
    refine WX.blockRet ?_
    refine WX.thenRet ?_
    refine WX.thenRet ?_
    refine WX.blockRet ?_
    refine WX.thenRet ?_
    obtain rfl:=Option.some.inj h
    refine WX.bpRet Tryz.results83 (.tmp rfl .nil) (fun w hw=>?_)
    exact ⟨ret1 rfl,hw.sub .nil⟩
   ·replace h:=ite_f h zjE
    refine WC.skip ?_
    refine WX.blockNormal ?_
    refine WX.a ?_
    refine WC.a ?_
    refine WL.a (d:=18) rfl rfl rfl (q_add rfl rfl rfl) ?_
    refine WL.a (d:=8) rfl rfl rfl (q_m rfl) ?_
    refine WL.nil ?_
    exact WX.round (G:=Nat × Int) ⟨zjB,(i64 (z6x + 1))⟩ h (Nat.lt_succ_self _) (.cons rfl (.cons rfl (.cons rfl (.cons rfl .nil)))) .nil
  ·replace h:=ite_f h zjD
   refine WC.exit ?_
   refine WX.thenExit ?_
   refine WX.thenExit ?_
   refine WX.blockHit ?_
   exact WX.mid (G:=Unit) () h .nil .nil
 ·rintro  h
  replace h:=ztX.symm.trans h
  refine WC.b ?_
  refine WC.a ?_
  refine WL.a (d:=4) rfl rfl rfl (q_z rfl) ?_
  refine WL.nil ?_
  refine WX.a ?_
  refine WC.ret ?_
  obtain rfl:=Option.some.inj h
  refine WX.bpRet Tryz.results83 (.tmp rfl .nil) (fun w hw=>?_)
  exact ⟨ret1 rfl,hw.sub .nil⟩
def m_slices_ContainsFunc_api_Curve_api_Curve (z9n : List (List z1)) (zcm : (List z1) → Option Bool) : Option Bool :=
 (m_slices_IndexFunc_api_Curve_api_Curve z9n zcm).bind fun zjF=>some (decide (zjF ≥ 0))
set_option maxRecDepth 20000 in
theorem w_slices_ContainsFunc_api_Curve_api_Curve (Z : Zp)  (zcn : Option Addr) (zco : Nat) (za5 : FuncId) (zcp : List Value) (z9n : List (List z1)) (zcm : (List z1) → Option Bool) (r : Bool) (w₀ : World) (hz : PZ [] w₀ Z)
  (zu4 : ZS Z 1 (p23 Z) zcn zco z9n)
  (zu5 : ∀ args w,(callFunc za5 args).run Tryz.prog w = .ok (.enter za5 args) w)
  (zu6 : ∀ w : World,PZ [] w Z → ∀ (x0 : List z1) (ao0 : Option Addr) (cap0 : Nat) (r : Bool),ZS Z 4 (fun r x=>r = e54 x) ao0 cap0 x0 → zcm x0 = some r → Calls Tryz.prog za5 (([(.slice ao0 x0.length cap0)] : List Value) ++ zcp).toArray w fun e w'=>e = .returned (.bool r) ∧ Hp [] w w' [])
  (h : m_slices_ContainsFunc_api_Curve_api_Curve z9n zcm = some r) :
  Calls Tryz.prog 74 #[(.slice zcn z9n.length zco),(.func (.func za5) #[] (zcp).toArray)] w₀ fun e w'=>e = .returned (.bool r) ∧ Hp [] w₀ w' []:=by
 unfold m_slices_ContainsFunc_api_Curve_api_Curve at h
 refine Calls.ofWC (vs:=[(.slice zcn z9n.length zco),(.func (.func za5) #[] (zcp).toArray)]) (pre:=[]) (env:=[(0,(.slice zcn z9n.length zco)),(1,(.func (.func za5) #[] (zcp).toArray))]) Tryz.func74 rfl Tryz.ntmps74 rfl (Hp.nil w₀ _) rfl ?_
 refine WC.b ?_
 refine WC.a ?_
 refine WL.a (d:=4) rfl rfl rfl (q_z rfl) ?_
 refine WL.nil ?_
 refine WX.a ?_
 refine WC.b ?_
 obtain ⟨zjF,zu7,h⟩:=z8 h
 refine WC.a ?_
 refine WL.a (d:=5) rfl rfl rfl (q_m rfl) ?_
 refine WL.a (d:=6) rfl rfl rfl (q_m rfl) ?_
 refine WL.b (dd:=7) rfl rfl rfl (zi (l:=[.tmp 5,.tmp 6]) Tryz.call83 (.cons rfl (.cons rfl .nil))) (.nil : Sel [] [] []) (fun w hw=>by have pz:=(hz.call hw (.nil : Sel [] [] [])); exact w_slices_IndexFunc_api_Curve_api_Curve (Z:=_) (zdG:=zcn) (zdH:=zco) (za4:=za5) (zcl:=zcp) (z5H:=z9n) (z8T:=zcm) (r:=zjF) w pz zu4 zu5 zu6 zu7) ?_
 refine WL.a (d:=8) rfl rfl rfl (q_geq rfl rfl) ?_
 refine WL.a (d:=4) rfl rfl rfl (q_z rfl) ?_
 refine WL.nil ?_
 refine WX.a ?_
 refine WC.ret ?_
 obtain rfl:=Option.some.inj h
 refine WX.bpRet Tryz.results74 (.tmp rfl .nil) (fun w hw=>?_)
 exact ⟨ret1 rfl,hw.sub .nil⟩
def m_calculus_Valid (zX : S41) : Option Bool :=
 (m_rat_Valid zX.fRate).bind fun zdJ=>(if zdJ && (decide (zX.fRate.fN > 0)) then (m_rat_Valid zX.fLatency).bind fun zjG=>some zjG else some false).bind fun zfb=>some (zfb && (decide (zX.fLatency.fN ≥ 0)))
set_option maxRecDepth 20000 in
theorem w_calculus_Valid (Z : Zp)   (zX : S41) (r : Bool) (w₀ : World) (hz : PZ [] w₀ Z)
  (h : m_calculus_Valid zX = some r) :
  Calls Tryz.prog 17 #[(.agg #[(.int .i64 zX.fRate.fN),(.int .i64 zX.fRate.fD),(.int .i64 zX.fLatency.fN),(.int .i64 zX.fLatency.fD)])] w₀ fun e w'=>e = .returned (.bool r) ∧ Hp [] w₀ w' []:=by
 unfold m_calculus_Valid at h
 refine Calls.ofWC (vs:=[(.agg #[(.int .i64 zX.fRate.fN),(.int .i64 zX.fRate.fD),(.int .i64 zX.fLatency.fN),(.int .i64 zX.fLatency.fD)])]) (pre:=[]) (env:=[(0,(.agg #[(.int .i64 zX.fRate.fN),(.int .i64 zX.fRate.fD),(.int .i64 zX.fLatency.fN),(.int .i64 zX.fLatency.fD)]))]) Tryz.func17 rfl Tryz.ntmps17 rfl (Hp.nil w₀ _) rfl ?_
 refine WC.b ?_
 refine WC.a ?_
 refine WL.new (dd:=1) rfl rfl rfl (e_box (cs:=[(.int .i64 zX.fRate.fN),(.int .i64 zX.fRate.fD),(.int .i64 zX.fLatency.fN),(.int .i64 zX.fLatency.fD)]) rfl rfl) ?_
 intro z7P _
 refine WL.a (d:=2) rfl rfl rfl (q_z rfl) ?_
 refine WL.nil ?_
 refine WX.a ?_
 refine WC.b ?_
 obtain ⟨zdJ,zu8,h⟩:=z8 h
 obtain ⟨zfb,zpc,h⟩:=z8 h
 refine WC.a ?_
 refine WL.a (d:=3) rfl rfl rfl (q_fieldAddr fo_42_0 rfl rfl) ?_
 refine WL.a (d:=4) rfl rfl rfl (q_loadA (cs:=[(.int .i64 zX.fRate.fN),(.int .i64 zX.fRate.fD)]) aggT_40 rfl rfl (rd_sub (s:=2) .here rfl)) ?_
 refine WL.b (dd:=5) rfl rfl rfl (zi (l:=[.tmp 4]) Tryz.call44 (.cons rfl .nil)) (.nil : Sel [stb z7P 42 [(.int .i64 zX.fRate.fN),(.int .i64 zX.fRate.fD),(.int .i64 zX.fLatency.fN),(.int .i64 zX.fLatency.fD)]] [] [stb z7P 42 [(.int .i64 zX.fRate.fN),(.int .i64 zX.fRate.fD),(.int .i64 zX.fLatency.fN),(.int .i64 zX.fLatency.fD)]]) (fun w hw=>by have pz:=(hz.call hw (.nil : Sel [stb z7P 42 [(.int .i64 zX.fRate.fN),(.int .i64 zX.fRate.fD),(.int .i64 zX.fLatency.fN),(.int .i64 zX.fLatency.fD)]] [] [stb z7P 42 [(.int .i64 zX.fRate.fN),(.int .i64 zX.fRate.fD),(.int .i64 zX.fLatency.fN),(.int .i64 zX.fLatency.fD)]])); exact w_rat_Valid (Z:=_)  (z18:=zX.fRate) (r:=zdJ) w pz  zu8) ?_
 refine WL.a (d:=6) rfl rfl rfl (q_m rfl) ?_
 refine WL.cut0 True [(1,(.pointer (some ⟨z7P,0,none⟩))),(2,(.bool false)),(11,(.bool (zdJ && (decide (zX.fRate.fN > 0)))))] [stb z7P 42 [(.int .i64 zX.fRate.fN),(.int .i64 zX.fRate.fD),(.int .i64 zX.fLatency.fN),(.int .i64 zX.fLatency.fD)]] 5 ?_ (fun _=>?_)
 ·rcases Bool.eq_false_or_eq_true zdJ with hb' | hb'
  ·have zpd:=hb'; clear hb'
   refine WL.pin (i:=6) rfl zpd ?_
   refine WL.a (d:=7) rfl rfl rfl (q_fieldAddr fo_42_0 rfl rfl) ?_
   refine WL.a (d:=8) rfl rfl rfl (q_fieldAddr fo_40_0 rfl rfl) ?_
   refine WL.a (d:=9) rfl rfl rfl (q_load1 oneT_3 rfl (rd_stb .here rfl)) ?_
   refine WL.a (d:=10) rfl rfl rfl (q_gtr rfl rfl) ?_
   refine WL.a (d:=11) rfl rfl rfl (q_pickT rfl rfl) ?_
   exact WL.cutEnd () trivial (.cons rfl (.cons rfl (.cons (zf (and_r zpd)) .nil))) (.cons .here .nil)
  ·have zpe:=hb'; clear hb'
   refine WL.pin (i:=6) rfl zpe ?_
   refine WL.e rfl rfl rfl ?_
   refine WL.e rfl rfl rfl ?_
   refine WL.e rfl rfl rfl ?_
   refine WL.e rfl rfl rfl ?_
   refine WL.a (d:=11) rfl rfl rfl (q_pickF rfl rfl) ?_
   exact WL.cutEnd () trivial (.cons rfl (.cons rfl (.cons (zf (and_l zpe)) .nil))) (.cons .here .nil)
 ·skip
  refine WL.a (d:=12) rfl rfl rfl (q_m rfl) ?_
  refine WL.cut0 True [(1,(.pointer (some ⟨z7P,0,none⟩))),(2,(.bool false)),(16,(.bool zfb))] [stb z7P 42 [(.int .i64 zX.fRate.fN),(.int .i64 zX.fRate.fD),(.int .i64 zX.fLatency.fN),(.int .i64 zX.fLatency.fD)]] 4 ?_ (fun _=>?_)
  ·rcases Bool.eq_false_or_eq_true (zdJ && (decide (zX.fRate.fN > 0))) with hb' | hb'
   ·have zpf:=hb'; clear hb'
    have zfc:=ite_t zpc zpf
    obtain ⟨zjG,zu9,zfc⟩:=z8 zfc
    replace zfc:=Option.some.inj zfc
    refine WL.pin (i:=12) rfl zpf ?_
    refine WL.a (d:=13) rfl rfl rfl (q_fieldAddr fo_42_1 rfl rfl) ?_
    refine WL.a (d:=14) rfl rfl rfl (q_loadA (cs:=[(.int .i64 zX.fLatency.fN),(.int .i64 zX.fLatency.fD)]) aggT_40 rfl rfl (rd_sub (s:=2) .here rfl)) ?_
    refine WL.b (dd:=15) rfl rfl rfl (zi (l:=[.tmp 14]) Tryz.call44 (.cons rfl .nil)) (.nil : Sel [stb z7P 42 [(.int .i64 zX.fRate.fN),(.int .i64 zX.fRate.fD),(.int .i64 zX.fLatency.fN),(.int .i64 zX.fLatency.fD)]] [] [stb z7P 42 [(.int .i64 zX.fRate.fN),(.int .i64 zX.fRate.fD),(.int .i64 zX.fLatency.fN),(.int .i64 zX.fLatency.fD)]]) (fun w hw=>by have pz:=(hz.call hw (.nil : Sel [stb z7P 42 [(.int .i64 zX.fRate.fN),(.int .i64 zX.fRate.fD),(.int .i64 zX.fLatency.fN),(.int .i64 zX.fLatency.fD)]] [] [stb z7P 42 [(.int .i64 zX.fRate.fN),(.int .i64 zX.fRate.fD),(.int .i64 zX.fLatency.fN),(.int .i64 zX.fLatency.fD)]])); exact w_rat_Valid (Z:=_)  (z18:=zX.fLatency) (r:=zjG) w pz  zu9) ?_
    refine WL.a (d:=16) rfl rfl rfl (q_pickT rfl rfl) ?_
    exact WL.cutEnd () trivial (.cons rfl (.cons rfl (.cons (zf zfc) .nil))) (.cons .here .nil)
   ·have zpg:=hb'; clear hb'
    have zjH:=ite_f zpc zpg
    replace zjH:=Option.some.inj zjH
    refine WL.pin (i:=12) rfl zpg ?_
    refine WL.e rfl rfl rfl ?_
    refine WL.e rfl rfl rfl ?_
    refine WL.e rfl rfl rfl ?_
    refine WL.a (d:=16) rfl rfl rfl (q_pickF rfl rfl) ?_
    exact WL.cutEnd () trivial (.cons rfl (.cons rfl (.cons (zf zjH) .nil))) (.cons .here .nil)
  ·skip
   refine WL.a (d:=17) rfl rfl rfl (q_m rfl) ?_
   refine WL.cut0 True [(2,(.bool false)),(22,(.bool (zfb && (decide (zX.fLatency.fN ≥ 0)))))] [stb z7P 42 [(.int .i64 zX.fRate.fN),(.int .i64 zX.fRate.fD),(.int .i64 zX.fLatency.fN),(.int .i64 zX.fLatency.fD)]] 5 ?_ (fun _=>?_)
   ·rcases Bool.eq_false_or_eq_true zfb with hb' | hb'
    ·have zph:=hb'; clear hb'
     refine WL.pin (i:=17) rfl zph ?_
     refine WL.a (d:=18) rfl rfl rfl (q_fieldAddr fo_42_1 rfl rfl) ?_
     refine WL.a (d:=19) rfl rfl rfl (q_fieldAddr fo_40_0 rfl rfl) ?_
     refine WL.a (d:=20) rfl rfl rfl (q_load1 oneT_3 rfl (rd_stb .here rfl)) ?_
     refine WL.a (d:=21) rfl rfl rfl (q_geq rfl rfl) ?_
     refine WL.a (d:=22) rfl rfl rfl (q_pickT rfl rfl) ?_
     exact WL.cutEnd () trivial (.cons rfl (.cons (zf (and_r zph)) .nil)) (.cons .here .nil)
    ·have zpi:=hb'; clear hb'
     refine WL.pin (i:=17) rfl zpi ?_
     refine WL.e rfl rfl rfl ?_
     refine WL.e rfl rfl rfl ?_
     refine WL.e rfl rfl rfl ?_
     refine WL.e rfl rfl rfl ?_
     refine WL.a (d:=22) rfl rfl rfl (q_pickF rfl rfl) ?_
     exact WL.cutEnd () trivial (.cons rfl (.cons (zf (and_l zpi)) .nil)) (.cons .here .nil)
   ·skip
    refine WL.a (d:=2) rfl rfl rfl (q_z rfl) ?_
    refine WL.nil ?_
    refine WX.a ?_
    refine WC.ret ?_
    obtain rfl:=Option.some.inj h
    refine WX.bpRet Tryz.results17 (.tmp rfl .nil) (fun w hw=>?_)
    exact ⟨ret1 rfl,hw.sub .nil⟩
def m_calculus_whole (z64 : Int) : Option z2 :=
 some (⟨z64,1⟩ : z2)
set_option maxRecDepth 20000 in
theorem w_calculus_whole (Z : Zp)   (z64 : Int) (r : z2) (w₀ : World) (hz : PZ [] w₀ Z)
  (h : m_calculus_whole z64 = some r) :
  Calls Tryz.prog 68 #[(.int .i64 z64)] w₀ fun e w'=>e = .returned (.agg #[(.int .i64 r.fN),(.int .i64 r.fD)]) ∧ Hp [] w₀ w' []:=by
 unfold m_calculus_whole at h
 refine Calls.ofWC (vs:=[(.int .i64 z64)]) (pre:=[]) (env:=[(0,(.int .i64 z64))]) Tryz.func68 rfl Tryz.ntmps68 rfl (Hp.nil w₀ _) rfl ?_
 refine WC.b ?_
 refine WC.a ?_
 refine WL.new (dd:=2) rfl rfl rfl (e_alloc (cs:=[(.int .i64 0),(.int .i64 0)]) zeroT_40 rfl) ?_
 intro zC5 _
 refine WL.nil ?_
 refine WX.a ?_
 refine WC.b ?_
 refine WC.a ?_
 refine WL.a (d:=3) rfl rfl rfl (q_m rfl) ?_
 refine WL.a (d:=4) rfl rfl rfl (q_build (v:=(.agg #[(.int .i64 z64),(.int .i64 1)])) (Eos.parts (l:=[.tmp 3,.const (.int .i64 1)]) (.cons rfl (.cons rfl .nil)) [0,1]) (fun _=>by kernel_rfl)) ?_
 refine WL.eff0 rfl rfl (e_store (vs:=[(.int .i64 z64),(.int .i64 1)]) (ds:=[(.int .i64 z64),(.int .i64 1)]) sizT_40 rfl rfl rfl rfl (oc_cons rfl (oc_cons rfl oc_nil)) .here (Nat.le_of_ble_eq_true rfl) rfl) ?_
 refine WL.nil ?_
 refine WX.a ?_
 refine WC.ret ?_
 obtain rfl:=Option.some.inj h
 refine WX.bpRet Tryz.results68 (.agg rfl aggT_40 rfl (rd_all .here) .nil) (fun w hw=>?_)
 exact ⟨ret1 rfl,hw.sub .nil⟩
def m_calculus_zero  : Option z2 :=
 (m_calculus_whole 0).bind fun zcq=>some zcq
set_option maxRecDepth 20000 in
theorem w_calculus_zero (Z : Zp)    (r : z2) (w₀ : World) (hz : PZ [] w₀ Z)
  (h : m_calculus_zero  = some r) :
  Calls Tryz.prog 52 #[] w₀ fun e w'=>e = .returned (.agg #[(.int .i64 r.fN),(.int .i64 r.fD)]) ∧ Hp [] w₀ w' []:=by
 unfold m_calculus_zero at h
 refine Calls.ofWC (vs:=[]) (pre:=[]) (env:=[]) Tryz.func52 rfl Tryz.ntmps52 rfl (Hp.nil w₀ _) rfl ?_
 refine WC.b ?_
 refine WC.a ?_
 refine WL.new (dd:=0) rfl rfl rfl (e_alloc (cs:=[(.int .i64 0),(.int .i64 0)]) zeroT_40 rfl) ?_
 intro zh3 _
 refine WL.nil ?_
 refine WX.a ?_
 refine WC.b ?_
 obtain ⟨zcq,zua,h⟩:=z8 h
 refine WC.a ?_
 refine WL.b (dd:=1) rfl rfl rfl (zi (l:=[.const (.int .i64 0)]) Tryz.call68 (.cons rfl .nil)) (.nil : Sel [stb zh3 40 [(.int .i64 0),(.int .i64 0)]] [] [stb zh3 40 [(.int .i64 0),(.int .i64 0)]]) (fun w hw=>by have pz:=(hz.call hw (.nil : Sel [stb zh3 40 [(.int .i64 0),(.int .i64 0)]] [] [stb zh3 40 [(.int .i64 0),(.int .i64 0)]])); exact w_calculus_whole (Z:=_)  (z64:=0) (r:=zcq) w pz  zua) ?_
 refine WL.eff0 rfl rfl (e_store (vs:=[(.int .i64 zcq.fN),(.int .i64 zcq.fD)]) (ds:=[(.int .i64 zcq.fN),(.int .i64 zcq.fD)]) sizT_40 rfl rfl rfl rfl (oc_cons rfl (oc_cons rfl oc_nil)) .here (Nat.le_of_ble_eq_true rfl) rfl) ?_
 refine WL.nil ?_
 refine WX.a ?_
 refine WC.ret ?_
 obtain rfl:=Option.some.inj h
 refine WX.bpRet Tryz.results52 (.agg rfl aggT_40 rfl (rd_all .here) .nil) (fun w hw=>?_)
 exact ⟨ret1 rfl,hw.sub .nil⟩
def m_slices_Index_api_Curve_api_Bucket_L2 (z3I : List z1) (z37 : z1) (za6 : Option Int) : Nat → Int → Option Int
 | 0,_=>none
 | zjI + 1,z41=>if decide (z41 < ((z3I.length : Nat) : Int)) then chk ((0 : Int) ≤ z41 ∧ z41 < ((z3I.length : Nat) : Int)) (if decide (z37 = (⟨(⟨(((nth z3I z41).fBurst).fN),(((nth z3I z41).fBurst).fD)⟩ : z2),(⟨(((nth z3I z41).fRate).fN),(((nth z3I z41).fRate).fD)⟩ : z2)⟩ : z1)) then some z41 else m_slices_Index_api_Curve_api_Bucket_L2 z3I z37 za6 zjI (i64 (z41 + 1))) else za6
theorem m_slices_Index_api_Curve_api_Bucket_L2_fuel {n : Nat} {z3I : List z1} {z37 : z1} {za6 : Option Int} {z41 : Int} {r : Int} (h : m_slices_Index_api_Curve_api_Bucket_L2 z3I z37 za6 n z41 = some r) : ∃ m,n = m + 1:=by
 cases n with
 | zero=>cases h
 | succ m=>exact ⟨m,rfl⟩
def m_slices_Index_api_Curve_api_Bucket (z3I : List z1) (z37 : z1) : Option Int :=
 jp0 (some (-1)) fun za6=>m_slices_Index_api_Curve_api_Bucket_L2 z3I z37 za6 FUEL 0
set_option maxRecDepth 20000 in
theorem w_slices_Index_api_Curve_api_Bucket (Z : Zp)  (zdK : Option Addr) (zdL : Nat) (z3I : List z1) (z37 : z1) (r : Int) (w₀ : World) (hz : PZ [] w₀ Z)
  (zub : ZS Z 4 (fun r x=>r = e54 x) zdK zdL z3I)
  (h : m_slices_Index_api_Curve_api_Bucket z3I z37 = some r) :
  Calls Tryz.prog 99 #[(.slice zdK z3I.length zdL),(.agg #[(.int .i64 z37.fBurst.fN),(.int .i64 z37.fBurst.fD),(.int .i64 z37.fRate.fN),(.int .i64 z37.fRate.fD)])] w₀ fun e w'=>e = .returned (.int .i64 r) ∧ Hp [] w₀ w' []:=by
 unfold m_slices_Index_api_Curve_api_Bucket at h
 refine Calls.ofWC (vs:=[(.slice zdK z3I.length zdL),(.agg #[(.int .i64 z37.fBurst.fN),(.int .i64 z37.fBurst.fD),(.int .i64 z37.fRate.fN),(.int .i64 z37.fRate.fD)])]) (pre:=[]) (env:=[(0,(.slice zdK z3I.length zdL)),(1,(.agg #[(.int .i64 z37.fBurst.fN),(.int .i64 z37.fBurst.fD),(.int .i64 z37.fRate.fN),(.int .i64 z37.fRate.fD)]))]) Tryz.func99 rfl Tryz.ntmps99 rfl (Hp.nil w₀ _) rfl ?_
 refine WC.b ?_
 refine WC.a ?_
 refine WL.new (dd:=3) rfl rfl rfl (e_box (cs:=[(.int .i64 z37.fBurst.fN),(.int .i64 z37.fBurst.fD),(.int .i64 z37.fRate.fN),(.int .i64 z37.fRate.fD)]) rfl rfl) ?_
 intro zpj _
 refine WL.a (d:=4) rfl rfl rfl (q_z rfl) ?_
 refine WL.nil ?_
 refine WX.a ?_
 obtain ⟨za6,zuc,h⟩:=jp0_elim h
 refine WC.seqMid0 ((za6 = some r)) ([]) ([]) ?_ ?_
 ·skip
  refine WC.b ?_
  refine WC.a ?_
  refine WL.a (d:=6) rfl rfl rfl (q_m rfl) ?_
  refine WL.a (d:=7) rfl rfl rfl (q_len Tryz.underlying23 rfl) ?_
  refine WL.a (d:=8) rfl rfl rfl (q_m rfl) ?_
  refine WL.nil ?_
  refine WX.a ?_
  refine WC.block ?_
  refine WC.loop2 (fun (zdM : Nat) (z41 : Int)=>(m_slices_Index_api_Curve_api_Bucket_L2 z3I z37 za6 zdM z41 = some r)) (fun (zdM : Nat) (z41 : Int)=>[(0,(.slice zdK z3I.length zdL)),(3,(.pointer (some ⟨zpj,0,none⟩))),(7,(.int .i64 ((z3I.length : Nat) : Int))),(8,(.int .i64 z41))]) (fun (zdM : Nat) (z41 : Int)=>[stb zpj 54 [(.int .i64 z37.fBurst.fN),(.int .i64 z37.fBurst.fD),(.int .i64 z37.fRate.fN),(.int .i64 z37.fRate.fD)]]) (fun (zdM : Nat) (z41 : Int)=>zdM) ⟨FUEL,0⟩ h (.cons rfl (.cons rfl (.cons rfl (.cons rfl .nil)))) (.cons .here .nil) ?_
  rintro zdM z41 h
  obtain ⟨zjI,rfl⟩:=m_slices_Index_api_Curve_api_Bucket_L2_fuel h
  rw [m_slices_Index_api_Curve_api_Bucket_L2] at h
  refine WC.b ?_
  refine WC.a ?_
  refine WL.a (d:=9) rfl rfl rfl (q_lss rfl rfl) ?_
  refine WL.nil ?_
  refine WX.a ?_
  refine WC.b ?_
  refine WC.cond rfl (fun zjJ=>?_) (fun zjJ=>?_)
  ·replace h:=ite_t h zjJ
   refine WC.skip ?_
   refine WX.a ?_
   refine WC.b ?_
   refine WC.block ?_
   refine WC.b ?_
   refine WC.a ?_
   refine WL.a (d:=10) rfl rfl rfl (q_m rfl) ?_
   refine WL.a (d:=5) rfl rfl rfl (q_z rfl) ?_
   refine WL.nil ?_
   refine WX.a ?_
   refine WC.b ?_
   obtain ⟨zud,h⟩:=chk_elim h
   refine WC.draw (fun i=>[].contains i) [] rfl ?_
   refine WD.e (i:=0) (d:=11) (by kernel_rfl) rfl (z6 (by kernel_rfl)) (z7 (by kernel_rfl)) rfl rfl rfl (q_loadA (cs:=[(.int .i64 z37.fBurst.fN),(.int .i64 z37.fBurst.fD),(.int .i64 z37.fRate.fN),(.int .i64 z37.fRate.fD)]) aggT_54 rfl rfl (rd_all .here)) ?_
   refine WD.a (i:=1) (d:=12) (by kernel_rfl) rfl (z6 (by kernel_rfl)) (z7 (by kernel_rfl)) rfl rfl rfl (fun _=>q_m rfl) ?_
   refine WD.a (i:=2) (d:=13) (by kernel_rfl) rfl (z6 (by kernel_rfl)) (z7 (by kernel_rfl)) rfl rfl rfl (fun _=>q_m rfl) ?_
   refine WD.znth (j:=3) (dd:=14) (by kernel_rfl) rfl (z6 (by kernel_rfl)) (z7 (by kernel_rfl)) rfl rfl (Z:=Z) (Pr:=(fun r x=>r = e54 x)) elT_23 rfl rfl zub zud ?_
   rintro zC6 zC7 zue zC8 rfl
   refine WD.e (i:=4) (d:=15) (by kernel_rfl) rfl (z6 (by kernel_rfl)) (z7 (by kernel_rfl)) rfl rfl rfl (q_loadA (cs:=[(.int .i64 (((nth z3I z41).fBurst).fN)),(.int .i64 (((nth z3I z41).fBurst).fD)),(.int .i64 (((nth z3I z41).fRate).fN)),(.int .i64 (((nth z3I z41).fRate).fD))]) aggT_54 rfl rfl (rd_zs hz.pv zue)) ?_
   refine WD.a (i:=5) (d:=16) (by kernel_rfl) rfl (z6 (by kernel_rfl)) (z7 (by kernel_rfl)) rfl rfl rfl (fun _=>q_aggeql (enc:=e54) (a:=z37) (b:=(⟨(⟨(((nth z3I z41).fBurst).fN),(((nth z3I z41).fBurst).fD)⟩ : z2),(⟨(((nth z3I z41).fRate).fN),(((nth z3I z41).fRate).fD)⟩ : z2)⟩ : z1)) eqT_54 rfl rfl) ?_
   refine WD.done (by kernel_rfl) ?_
   refine WX.a ?_
   refine WC.cond rfl (fun zjK=>?_) (fun zjK=>?_)
   ·replace h:=ite_t h zjK
    refine WC.b ?_
    refine WC.a ?_
    refine WL.a (d:=17) rfl rfl rfl (q_m rfl) ?_
    refine WL.a (d:=4) rfl rfl rfl (q_z rfl) ?_
    refine WL.nil ?_
    refine WX.a ?_
    refine WC.ret ?_
    refine WX.blockRet ?_
    refine WX.thenRet ?_
    refine WX.thenRet ?_
    refine WX.blockRet ?_
    refine WX.thenRet ?_
    obtain rfl:=Option.some.inj h
    refine WX.bpRet Tryz.results99 (.tmp rfl .nil) (fun w hw=>?_)
    exact ⟨ret1 rfl,hw.sub .nil⟩
   ·replace h:=ite_f h zjK
    refine WC.skip ?_
    refine WX.blockNormal ?_
    refine WX.a ?_
    refine WC.a ?_
    refine WL.a (d:=18) rfl rfl rfl (q_add rfl rfl rfl) ?_
    refine WL.a (d:=8) rfl rfl rfl (q_m rfl) ?_
    refine WL.nil ?_
    exact WX.round (G:=Nat × Int) ⟨zjI,(i64 (z41 + 1))⟩ h (Nat.lt_succ_self _) (.cons rfl (.cons rfl (.cons rfl (.cons rfl .nil)))) (.cons .here .nil)
  ·replace h:=ite_f h zjJ
   refine WC.exit ?_
   refine WX.thenExit ?_
   refine WX.thenExit ?_
   refine WX.blockHit ?_
   exact WX.mid (G:=Unit) () h .nil .nil
 ·rintro  h
  replace h:=zuc.symm.trans h
  refine WC.b ?_
  refine WC.a ?_
  refine WL.a (d:=4) rfl rfl rfl (q_z rfl) ?_
  refine WL.nil ?_
  refine WX.a ?_
  refine WC.ret ?_
  obtain rfl:=Option.some.inj h
  refine WX.bpRet Tryz.results99 (.tmp rfl .nil) (fun w hw=>?_)
  exact ⟨ret1 rfl,hw.sub .nil⟩
def m_slices_Contains_api_Curve_api_Bucket (za7 : List z1) (z2y : z1) : Option Bool :=
 (m_slices_Index_api_Curve_api_Bucket za7 z2y).bind fun zjL=>some (decide (zjL ≥ 0))
set_option maxRecDepth 20000 in
theorem w_slices_Contains_api_Curve_api_Bucket (Z : Zp)  (zdN : Option Addr) (zdO : Nat) (za7 : List z1) (z2y : z1) (r : Bool) (w₀ : World) (hz : PZ [] w₀ Z)
  (zuf : ZS Z 4 (fun r x=>r = e54 x) zdN zdO za7)
  (h : m_slices_Contains_api_Curve_api_Bucket za7 z2y = some r) :
  Calls Tryz.prog 91 #[(.slice zdN za7.length zdO),(.agg #[(.int .i64 z2y.fBurst.fN),(.int .i64 z2y.fBurst.fD),(.int .i64 z2y.fRate.fN),(.int .i64 z2y.fRate.fD)])] w₀ fun e w'=>e = .returned (.bool r) ∧ Hp [] w₀ w' []:=by
 unfold m_slices_Contains_api_Curve_api_Bucket at h
 refine Calls.ofWC (vs:=[(.slice zdN za7.length zdO),(.agg #[(.int .i64 z2y.fBurst.fN),(.int .i64 z2y.fBurst.fD),(.int .i64 z2y.fRate.fN),(.int .i64 z2y.fRate.fD)])]) (pre:=[]) (env:=[(0,(.slice zdN za7.length zdO)),(1,(.agg #[(.int .i64 z2y.fBurst.fN),(.int .i64 z2y.fBurst.fD),(.int .i64 z2y.fRate.fN),(.int .i64 z2y.fRate.fD)]))]) Tryz.func91 rfl Tryz.ntmps91 rfl (Hp.nil w₀ _) rfl ?_
 refine WC.b ?_
 refine WC.a ?_
 refine WL.new (dd:=3) rfl rfl rfl (e_box (cs:=[(.int .i64 z2y.fBurst.fN),(.int .i64 z2y.fBurst.fD),(.int .i64 z2y.fRate.fN),(.int .i64 z2y.fRate.fD)]) rfl rfl) ?_
 intro zh4 _
 refine WL.a (d:=4) rfl rfl rfl (q_z rfl) ?_
 refine WL.nil ?_
 refine WX.a ?_
 refine WC.b ?_
 obtain ⟨zjL,zug,h⟩:=z8 h
 refine WC.a ?_
 refine WL.a (d:=5) rfl rfl rfl (q_m rfl) ?_
 refine WL.a (d:=6) rfl rfl rfl (q_loadA (cs:=[(.int .i64 z2y.fBurst.fN),(.int .i64 z2y.fBurst.fD),(.int .i64 z2y.fRate.fN),(.int .i64 z2y.fRate.fD)]) aggT_54 rfl rfl (rd_all .here)) ?_
 refine WL.b (dd:=7) rfl rfl rfl (zi (l:=[.tmp 5,.tmp 6]) Tryz.call99 (.cons rfl (.cons rfl .nil))) (.nil : Sel [stb zh4 54 [(.int .i64 z2y.fBurst.fN),(.int .i64 z2y.fBurst.fD),(.int .i64 z2y.fRate.fN),(.int .i64 z2y.fRate.fD)]] [] [stb zh4 54 [(.int .i64 z2y.fBurst.fN),(.int .i64 z2y.fBurst.fD),(.int .i64 z2y.fRate.fN),(.int .i64 z2y.fRate.fD)]]) (fun w hw=>by have pz:=(hz.call hw (.nil : Sel [stb zh4 54 [(.int .i64 z2y.fBurst.fN),(.int .i64 z2y.fBurst.fD),(.int .i64 z2y.fRate.fN),(.int .i64 z2y.fRate.fD)]] [] [stb zh4 54 [(.int .i64 z2y.fBurst.fN),(.int .i64 z2y.fBurst.fD),(.int .i64 z2y.fRate.fN),(.int .i64 z2y.fRate.fD)]])); exact w_slices_Index_api_Curve_api_Bucket (Z:=_) (zdK:=zdN) (zdL:=zdO) (z3I:=za7) (z37:=z2y) (r:=zjL) w pz zuf zug) ?_
 refine WL.a (d:=8) rfl rfl rfl (q_geq rfl rfl) ?_
 refine WL.a (d:=4) rfl rfl rfl (q_z rfl) ?_
 refine WL.nil ?_
 refine WX.a ?_
 refine WC.ret ?_
 obtain rfl:=Option.some.inj h
 refine WX.bpRet Tryz.results91 (.tmp rfl .nil) (fun w hw=>?_)
 exact ⟨ret1 rfl,hw.sub .nil⟩
def m_rat_Cmp (z28 : z2) (z29 : z2) : Option Int :=
 (m_rat_Valid z28).bind fun zh5=>(if !zh5 then some true else (m_rat_Valid z29).bind fun zjM=>some (!zjM)).bind fun zjN=>if zjN then some 0 else if decide ((i64 (z28.fN * z29.fD)) < (i64 (z29.fN * z28.fD))) then some (-1) else if decide ((i64 (z28.fN * z29.fD)) > (i64 (z29.fN * z28.fD))) then some 1 else some 0
set_option maxRecDepth 20000 in
theorem w_rat_Cmp (Z : Zp)   (z28 : z2) (z29 : z2) (r : Int) (w₀ : World) (hz : PZ [] w₀ Z)
  (h : m_rat_Cmp z28 z29 = some r) :
  Calls Tryz.prog 24 #[(.agg #[(.int .i64 z28.fN),(.int .i64 z28.fD)]),(.agg #[(.int .i64 z29.fN),(.int .i64 z29.fD)])] w₀ fun e w'=>e = .returned (.int .i64 r) ∧ Hp [] w₀ w' []:=by
 unfold m_rat_Cmp at h
 refine Calls.ofWC (vs:=[(.agg #[(.int .i64 z28.fN),(.int .i64 z28.fD)]),(.agg #[(.int .i64 z29.fN),(.int .i64 z29.fD)])]) (pre:=[]) (env:=[(0,(.agg #[(.int .i64 z28.fN),(.int .i64 z28.fD)])),(1,(.agg #[(.int .i64 z29.fN),(.int .i64 z29.fD)]))]) Tryz.func24 rfl Tryz.ntmps24 rfl (Hp.nil w₀ _) rfl ?_
 refine WC.b ?_
 refine WC.a ?_
 refine WL.new (dd:=2) rfl rfl rfl (e_box (cs:=[(.int .i64 z28.fN),(.int .i64 z28.fD)]) rfl rfl) ?_
 intro z9o _
 refine WL.new (dd:=3) rfl rfl rfl (e_box (cs:=[(.int .i64 z29.fN),(.int .i64 z29.fD)]) rfl rfl) ?_
 intro z9p _
 refine WL.a (d:=4) rfl rfl rfl (q_z rfl) ?_
 refine WL.nil ?_
 refine WX.a ?_
 refine WC.b ?_
 refine WC.b ?_
 obtain ⟨zh5,zuh,h⟩:=z8 h
 obtain ⟨zjN,zpk,h⟩:=z8 h
 refine WC.a ?_
 refine WL.a (d:=7) rfl rfl rfl (q_loadA (cs:=[(.int .i64 z28.fN),(.int .i64 z28.fD)]) aggT_40 rfl rfl (rd_all .h1)) ?_
 refine WL.b (dd:=8) rfl rfl rfl (zi (l:=[.tmp 7]) Tryz.call44 (.cons rfl .nil)) (.nil : Sel [stb z9p 40 [(.int .i64 z29.fN),(.int .i64 z29.fD)],stb z9o 40 [(.int .i64 z28.fN),(.int .i64 z28.fD)]] [] [stb z9p 40 [(.int .i64 z29.fN),(.int .i64 z29.fD)],stb z9o 40 [(.int .i64 z28.fN),(.int .i64 z28.fD)]]) (fun w hw=>by have pz:=(hz.call hw (.nil : Sel [stb z9p 40 [(.int .i64 z29.fN),(.int .i64 z29.fD)],stb z9o 40 [(.int .i64 z28.fN),(.int .i64 z28.fD)]] [] [stb z9p 40 [(.int .i64 z29.fN),(.int .i64 z29.fD)],stb z9o 40 [(.int .i64 z28.fN),(.int .i64 z28.fD)]])); exact w_rat_Valid (Z:=_)  (z18:=z28) (r:=zh5) w pz  zuh) ?_
 refine WL.a (d:=9) rfl rfl rfl (q_not rfl) ?_
 refine WL.a (d:=10) rfl rfl rfl (q_m rfl) ?_
 refine WL.cut0 True [(2,(.pointer (some ⟨z9o,0,none⟩))),(3,(.pointer (some ⟨z9p,0,none⟩))),(14,(.bool zjN))] [stb z9p 40 [(.int .i64 z29.fN),(.int .i64 z29.fD)],stb z9o 40 [(.int .i64 z28.fN),(.int .i64 z28.fD)]] 4 ?_ (fun _=>?_)
 ·rcases Bool.eq_false_or_eq_true (!zh5) with hb' | hb'
  ·have zpl:=hb'; clear hb'
   have zjO:=ite_t zpk zpl
   replace zjO:=Option.some.inj zjO
   refine WL.pin (i:=10) rfl zpl ?_
   refine WL.e rfl rfl rfl ?_
   refine WL.e rfl rfl rfl ?_
   refine WL.e rfl rfl rfl ?_
   refine WL.a (d:=14) rfl rfl rfl (q_pickT rfl rfl) ?_
   exact WL.cutEnd () trivial (.cons rfl (.cons rfl (.cons (zf zjO) .nil))) (.cons .here (.cons .here .nil))
  ·have zpm:=hb'; clear hb'
   have zfd:=ite_f zpk zpm
   obtain ⟨zjM,zui,zfd⟩:=z8 zfd
   replace zfd:=Option.some.inj zfd
   refine WL.pin (i:=10) rfl zpm ?_
   refine WL.a (d:=11) rfl rfl rfl (q_loadA (cs:=[(.int .i64 z29.fN),(.int .i64 z29.fD)]) aggT_40 rfl rfl (rd_all .here)) ?_
   refine WL.b (dd:=12) rfl rfl rfl (zi (l:=[.tmp 11]) Tryz.call44 (.cons rfl .nil)) (.nil : Sel [stb z9p 40 [(.int .i64 z29.fN),(.int .i64 z29.fD)],stb z9o 40 [(.int .i64 z28.fN),(.int .i64 z28.fD)]] [] [stb z9p 40 [(.int .i64 z29.fN),(.int .i64 z29.fD)],stb z9o 40 [(.int .i64 z28.fN),(.int .i64 z28.fD)]]) (fun w hw=>by have pz:=(hz.call hw (.nil : Sel [stb z9p 40 [(.int .i64 z29.fN),(.int .i64 z29.fD)],stb z9o 40 [(.int .i64 z28.fN),(.int .i64 z28.fD)]] [] [stb z9p 40 [(.int .i64 z29.fN),(.int .i64 z29.fD)],stb z9o 40 [(.int .i64 z28.fN),(.int .i64 z28.fD)]])); exact w_rat_Valid (Z:=_)  (z18:=z29) (r:=zjM) w pz  zui) ?_
   refine WL.a (d:=13) rfl rfl rfl (q_not rfl) ?_
   refine WL.a (d:=14) rfl rfl rfl (q_pickF rfl rfl) ?_
   exact WL.cutEnd () trivial (.cons rfl (.cons rfl (.cons (zf zfd) .nil))) (.cons .here (.cons .here .nil))
 ·skip
  refine WL.nil ?_
  refine WX.a ?_
  refine WC.cond rfl (fun zjP=>?_) (fun zjP=>?_)
  ·replace h:=ite_t h zjP
   refine WC.b ?_
   refine WC.a ?_
   refine WL.a (d:=4) rfl rfl rfl (q_z rfl) ?_
   refine WL.nil ?_
   refine WX.a ?_
   refine WC.ret ?_
   refine WX.thenRet ?_
   obtain rfl:=Option.some.inj h
   refine WX.bpRet Tryz.results24 (.tmp rfl .nil) (fun w hw=>?_)
   exact ⟨ret1 rfl,hw.sub .nil⟩
  ·replace h:=ite_f h zjP
   refine WC.skip ?_
   refine WX.a ?_
   refine WC.b ?_
   refine WC.b ?_
   refine WC.draw (fun i=>[].contains i) [] rfl ?_
   refine WD.a (i:=0) (d:=15) (by kernel_rfl) rfl (z6 (by kernel_rfl)) (z7 (by kernel_rfl)) rfl rfl rfl (fun _=>q_fieldAddr fo_40_0 rfl rfl) ?_
   refine WD.e (i:=1) (d:=16) (by kernel_rfl) rfl (z6 (by kernel_rfl)) (z7 (by kernel_rfl)) rfl rfl rfl (q_load1 oneT_3 rfl (rd_stb .h1 rfl)) ?_
   refine WD.a (i:=2) (d:=17) (by kernel_rfl) rfl (z6 (by kernel_rfl)) (z7 (by kernel_rfl)) rfl rfl rfl (fun _=>q_fieldAddr fo_40_1 rfl rfl) ?_
   refine WD.e (i:=3) (d:=18) (by kernel_rfl) rfl (z6 (by kernel_rfl)) (z7 (by kernel_rfl)) rfl rfl rfl (q_load1 oneT_3 rfl (rd_stb .here rfl)) ?_
   refine WD.a (i:=4) (d:=19) (by kernel_rfl) rfl (z6 (by kernel_rfl)) (z7 (by kernel_rfl)) rfl rfl rfl (fun _=>q_mul rfl rfl rfl) ?_
   refine WD.a (i:=5) (d:=20) (by kernel_rfl) rfl (z6 (by kernel_rfl)) (z7 (by kernel_rfl)) rfl rfl rfl (fun _=>q_fieldAddr fo_40_0 rfl rfl) ?_
   refine WD.e (i:=6) (d:=21) (by kernel_rfl) rfl (z6 (by kernel_rfl)) (z7 (by kernel_rfl)) rfl rfl rfl (q_load1 oneT_3 rfl (rd_stb .here rfl)) ?_
   refine WD.a (i:=7) (d:=22) (by kernel_rfl) rfl (z6 (by kernel_rfl)) (z7 (by kernel_rfl)) rfl rfl rfl (fun _=>q_fieldAddr fo_40_1 rfl rfl) ?_
   refine WD.e (i:=8) (d:=23) (by kernel_rfl) rfl (z6 (by kernel_rfl)) (z7 (by kernel_rfl)) rfl rfl rfl (q_load1 oneT_3 rfl (rd_stb .h1 rfl)) ?_
   refine WD.a (i:=9) (d:=24) (by kernel_rfl) rfl (z6 (by kernel_rfl)) (z7 (by kernel_rfl)) rfl rfl rfl (fun _=>q_mul rfl rfl rfl) ?_
   refine WD.a (i:=10) (d:=5) (by kernel_rfl) rfl (z6 (by kernel_rfl)) (z7 (by kernel_rfl)) rfl rfl rfl (fun _=>q_z rfl) ?_
   refine WD.a (i:=11) (d:=6) (by kernel_rfl) rfl (z6 (by kernel_rfl)) (z7 (by kernel_rfl)) rfl rfl rfl (fun _=>q_z rfl) ?_
   refine WD.done (by kernel_rfl) ?_
   refine WX.a ?_
   refine WC.block ?_
   refine WC.b ?_
   refine WC.a ?_
   refine WL.a (d:=26) rfl rfl rfl (q_m rfl) ?_
   refine WL.a (d:=27) rfl rfl rfl (q_m rfl) ?_
   refine WL.a (d:=28) rfl rfl rfl (q_lss rfl rfl) ?_
   refine WL.a (d:=25) rfl rfl rfl (q_z rfl) ?_
   refine WL.nil ?_
   refine WX.a ?_
   refine WC.cond rfl (fun zjQ=>?_) (fun zjQ=>?_)
   ·replace h:=ite_t h zjQ
    refine WC.b ?_
    refine WC.a ?_
    refine WL.a (d:=4) rfl rfl rfl (q_z rfl) ?_
    refine WL.nil ?_
    refine WX.a ?_
    refine WC.ret ?_
    refine WX.blockRet ?_
    refine WX.thenRet ?_
    obtain rfl:=Option.some.inj h
    refine WX.bpRet Tryz.results24 (.tmp rfl .nil) (fun w hw=>?_)
    exact ⟨ret1 rfl,hw.sub .nil⟩
   ·replace h:=ite_f h zjQ
    refine WC.b ?_
    refine WC.a ?_
    refine WL.a (d:=30) rfl rfl rfl (q_m rfl) ?_
    refine WL.a (d:=31) rfl rfl rfl (q_m rfl) ?_
    refine WL.a (d:=32) rfl rfl rfl (q_gtr rfl rfl) ?_
    refine WL.a (d:=29) rfl rfl rfl (q_z rfl) ?_
    refine WL.nil ?_
    refine WX.a ?_
    refine WC.cond rfl (fun zjR=>?_) (fun zjR=>?_)
    ·replace h:=ite_t h zjR
     refine WC.b ?_
     refine WC.a ?_
     refine WL.a (d:=4) rfl rfl rfl (q_z rfl) ?_
     refine WL.nil ?_
     refine WX.a ?_
     refine WC.ret ?_
     refine WX.blockRet ?_
     refine WX.thenRet ?_
     obtain rfl:=Option.some.inj h
     refine WX.bpRet Tryz.results24 (.tmp rfl .nil) (fun w hw=>?_)
     exact ⟨ret1 rfl,hw.sub .nil⟩
    ·replace h:=ite_f h zjR
     refine WC.skip ?_
     refine WX.blockNormal ?_
     refine WX.a ?_
     refine WC.b ?_
     refine WC.a ?_
     refine WL.a (d:=4) rfl rfl rfl (q_z rfl) ?_
     refine WL.nil ?_
     refine WX.a ?_
     refine WC.ret ?_
     obtain rfl:=Option.some.inj h
     refine WX.bpRet Tryz.results24 (.tmp rfl .nil) (fun w hw=>?_)
     exact ⟨ret1 rfl,hw.sub .nil⟩
def m_curve_dominates (z19 : z1) (z1a : z1) : Option Bool :=
 (if decide (z19 ≠ z1a) then (m_rat_Cmp z19.fBurst z1a.fBurst).bind fun zjS=>some (decide (zjS ≤ 0)) else some false).bind fun zh6=>(if zh6 then (m_rat_Cmp z19.fRate z1a.fRate).bind fun zjT=>some (decide (zjT ≤ 0)) else some false).bind fun zjU=>some zjU
set_option maxRecDepth 20000 in
theorem w_curve_dominates (Z : Zp)   (z19 : z1) (z1a : z1) (r : Bool) (w₀ : World) (hz : PZ [] w₀ Z)
  (h : m_curve_dominates z19 z1a = some r) :
  Calls Tryz.prog 93 #[(.agg #[(.int .i64 z19.fBurst.fN),(.int .i64 z19.fBurst.fD),(.int .i64 z19.fRate.fN),(.int .i64 z19.fRate.fD)]),(.agg #[(.int .i64 z1a.fBurst.fN),(.int .i64 z1a.fBurst.fD),(.int .i64 z1a.fRate.fN),(.int .i64 z1a.fRate.fD)])] w₀ fun e w'=>e = .returned (.bool r) ∧ Hp [] w₀ w' []:=by
 unfold m_curve_dominates at h
 refine Calls.ofWC (vs:=[(.agg #[(.int .i64 z19.fBurst.fN),(.int .i64 z19.fBurst.fD),(.int .i64 z19.fRate.fN),(.int .i64 z19.fRate.fD)]),(.agg #[(.int .i64 z1a.fBurst.fN),(.int .i64 z1a.fBurst.fD),(.int .i64 z1a.fRate.fN),(.int .i64 z1a.fRate.fD)])]) (pre:=[]) (env:=[(0,(.agg #[(.int .i64 z19.fBurst.fN),(.int .i64 z19.fBurst.fD),(.int .i64 z19.fRate.fN),(.int .i64 z19.fRate.fD)])),(1,(.agg #[(.int .i64 z1a.fBurst.fN),(.int .i64 z1a.fBurst.fD),(.int .i64 z1a.fRate.fN),(.int .i64 z1a.fRate.fD)]))]) Tryz.func93 rfl Tryz.ntmps93 rfl (Hp.nil w₀ _) rfl ?_
 refine WC.b ?_
 refine WC.a ?_
 refine WL.new (dd:=2) rfl rfl rfl (e_box (cs:=[(.int .i64 z19.fBurst.fN),(.int .i64 z19.fBurst.fD),(.int .i64 z19.fRate.fN),(.int .i64 z19.fRate.fD)]) rfl rfl) ?_
 intro z8U _
 refine WL.new (dd:=3) rfl rfl rfl (e_box (cs:=[(.int .i64 z1a.fBurst.fN),(.int .i64 z1a.fBurst.fD),(.int .i64 z1a.fRate.fN),(.int .i64 z1a.fRate.fD)]) rfl rfl) ?_
 intro z8V _
 refine WL.a (d:=4) rfl rfl rfl (q_z rfl) ?_
 refine WL.nil ?_
 refine WX.a ?_
 refine WC.b ?_
 obtain ⟨zh6,zpn,h⟩:=z8 h
 obtain ⟨zjU,zpo,h⟩:=z8 h
 refine WC.a ?_
 refine WL.a (d:=5) rfl rfl rfl (q_loadA (cs:=[(.int .i64 z19.fBurst.fN),(.int .i64 z19.fBurst.fD),(.int .i64 z19.fRate.fN),(.int .i64 z19.fRate.fD)]) aggT_54 rfl rfl (rd_all .h1)) ?_
 refine WL.a (d:=6) rfl rfl rfl (q_loadA (cs:=[(.int .i64 z1a.fBurst.fN),(.int .i64 z1a.fBurst.fD),(.int .i64 z1a.fRate.fN),(.int .i64 z1a.fRate.fD)]) aggT_54 rfl rfl (rd_all .here)) ?_
 refine WL.a (d:=7) rfl rfl rfl (q_aggneq (enc:=e54) (a:=z19) (b:=z1a) eqT_54 rfl rfl) ?_
 refine WL.a (d:=8) rfl rfl rfl (q_m rfl) ?_
 refine WL.cut0 True [(2,(.pointer (some ⟨z8U,0,none⟩))),(3,(.pointer (some ⟨z8V,0,none⟩))),(4,(.bool false)),(15,(.bool zh6))] [stb z8V 54 [(.int .i64 z1a.fBurst.fN),(.int .i64 z1a.fBurst.fD),(.int .i64 z1a.fRate.fN),(.int .i64 z1a.fRate.fD)],stb z8U 54 [(.int .i64 z19.fBurst.fN),(.int .i64 z19.fBurst.fD),(.int .i64 z19.fRate.fN),(.int .i64 z19.fRate.fD)]] 7 ?_ (fun _=>?_)
 ·rcases Bool.eq_false_or_eq_true (decide (z19 ≠ z1a)) with hb' | hb'
  ·have zpp:=hb'; clear hb'
   have zfe:=ite_t zpn zpp
   obtain ⟨zjS,zuj,zfe⟩:=z8 zfe
   replace zfe:=Option.some.inj zfe
   refine WL.pin (i:=8) rfl zpp ?_
   refine WL.a (d:=9) rfl rfl rfl (q_fieldAddr fo_54_0 rfl rfl) ?_
   refine WL.a (d:=10) rfl rfl rfl (q_loadA (cs:=[(.int .i64 z19.fBurst.fN),(.int .i64 z19.fBurst.fD)]) aggT_40 rfl rfl (rd_sub (s:=2) .h1 rfl)) ?_
   refine WL.a (d:=11) rfl rfl rfl (q_fieldAddr fo_54_0 rfl rfl) ?_
   refine WL.a (d:=12) rfl rfl rfl (q_loadA (cs:=[(.int .i64 z1a.fBurst.fN),(.int .i64 z1a.fBurst.fD)]) aggT_40 rfl rfl (rd_sub (s:=2) .here rfl)) ?_
   refine WL.b (dd:=13) rfl rfl rfl (zi (l:=[.tmp 10,.tmp 12]) Tryz.call24 (.cons rfl (.cons rfl .nil))) (.nil : Sel [stb z8V 54 [(.int .i64 z1a.fBurst.fN),(.int .i64 z1a.fBurst.fD),(.int .i64 z1a.fRate.fN),(.int .i64 z1a.fRate.fD)],stb z8U 54 [(.int .i64 z19.fBurst.fN),(.int .i64 z19.fBurst.fD),(.int .i64 z19.fRate.fN),(.int .i64 z19.fRate.fD)]] [] [stb z8V 54 [(.int .i64 z1a.fBurst.fN),(.int .i64 z1a.fBurst.fD),(.int .i64 z1a.fRate.fN),(.int .i64 z1a.fRate.fD)],stb z8U 54 [(.int .i64 z19.fBurst.fN),(.int .i64 z19.fBurst.fD),(.int .i64 z19.fRate.fN),(.int .i64 z19.fRate.fD)]]) (fun w hw=>by have pz:=(hz.call hw (.nil : Sel [stb z8V 54 [(.int .i64 z1a.fBurst.fN),(.int .i64 z1a.fBurst.fD),(.int .i64 z1a.fRate.fN),(.int .i64 z1a.fRate.fD)],stb z8U 54 [(.int .i64 z19.fBurst.fN),(.int .i64 z19.fBurst.fD),(.int .i64 z19.fRate.fN),(.int .i64 z19.fRate.fD)]] [] [stb z8V 54 [(.int .i64 z1a.fBurst.fN),(.int .i64 z1a.fBurst.fD),(.int .i64 z1a.fRate.fN),(.int .i64 z1a.fRate.fD)],stb z8U 54 [(.int .i64 z19.fBurst.fN),(.int .i64 z19.fBurst.fD),(.int .i64 z19.fRate.fN),(.int .i64 z19.fRate.fD)]])); exact w_rat_Cmp (Z:=_)  (z28:=z19.fBurst) (z29:=z1a.fBurst) (r:=zjS) w pz  zuj) ?_
   refine WL.a (d:=14) rfl rfl rfl (q_leq rfl rfl) ?_
   refine WL.a (d:=15) rfl rfl rfl (q_pickT rfl rfl) ?_
   exact WL.cutEnd () trivial (.cons rfl (.cons rfl (.cons rfl (.cons (zf zfe) .nil)))) (.cons .here (.cons .here .nil))
  ·have zpq:=hb'; clear hb'
   have zjV:=ite_f zpn zpq
   replace zjV:=Option.some.inj zjV
   refine WL.pin (i:=8) rfl zpq ?_
   refine WL.e rfl rfl rfl ?_
   refine WL.e rfl rfl rfl ?_
   refine WL.e rfl rfl rfl ?_
   refine WL.e rfl rfl rfl ?_
   refine WL.e rfl rfl rfl ?_
   refine WL.e rfl rfl rfl ?_
   refine WL.a (d:=15) rfl rfl rfl (q_pickF rfl rfl) ?_
   exact WL.cutEnd () trivial (.cons rfl (.cons rfl (.cons rfl (.cons (zf zjV) .nil)))) (.cons .here (.cons .here .nil))
 ·skip
  refine WL.a (d:=16) rfl rfl rfl (q_m rfl) ?_
  refine WL.cut0 True [(4,(.bool false)),(23,(.bool zjU))] [stb z8V 54 [(.int .i64 z1a.fBurst.fN),(.int .i64 z1a.fBurst.fD),(.int .i64 z1a.fRate.fN),(.int .i64 z1a.fRate.fD)],stb z8U 54 [(.int .i64 z19.fBurst.fN),(.int .i64 z19.fBurst.fD),(.int .i64 z19.fRate.fN),(.int .i64 z19.fRate.fD)]] 7 ?_ (fun _=>?_)
  ·rcases Bool.eq_false_or_eq_true zh6 with hb' | hb'
   ·have zpr:=hb'; clear hb'
    have zff:=ite_t zpo zpr
    obtain ⟨zjT,zuk,zff⟩:=z8 zff
    replace zff:=Option.some.inj zff
    refine WL.pin (i:=16) rfl zpr ?_
    refine WL.a (d:=17) rfl rfl rfl (q_fieldAddr fo_54_1 rfl rfl) ?_
    refine WL.a (d:=18) rfl rfl rfl (q_loadA (cs:=[(.int .i64 z19.fRate.fN),(.int .i64 z19.fRate.fD)]) aggT_40 rfl rfl (rd_sub (s:=2) .h1 rfl)) ?_
    refine WL.a (d:=19) rfl rfl rfl (q_fieldAddr fo_54_1 rfl rfl) ?_
    refine WL.a (d:=20) rfl rfl rfl (q_loadA (cs:=[(.int .i64 z1a.fRate.fN),(.int .i64 z1a.fRate.fD)]) aggT_40 rfl rfl (rd_sub (s:=2) .here rfl)) ?_
    refine WL.b (dd:=21) rfl rfl rfl (zi (l:=[.tmp 18,.tmp 20]) Tryz.call24 (.cons rfl (.cons rfl .nil))) (.nil : Sel [stb z8V 54 [(.int .i64 z1a.fBurst.fN),(.int .i64 z1a.fBurst.fD),(.int .i64 z1a.fRate.fN),(.int .i64 z1a.fRate.fD)],stb z8U 54 [(.int .i64 z19.fBurst.fN),(.int .i64 z19.fBurst.fD),(.int .i64 z19.fRate.fN),(.int .i64 z19.fRate.fD)]] [] [stb z8V 54 [(.int .i64 z1a.fBurst.fN),(.int .i64 z1a.fBurst.fD),(.int .i64 z1a.fRate.fN),(.int .i64 z1a.fRate.fD)],stb z8U 54 [(.int .i64 z19.fBurst.fN),(.int .i64 z19.fBurst.fD),(.int .i64 z19.fRate.fN),(.int .i64 z19.fRate.fD)]]) (fun w hw=>by have pz:=(hz.call hw (.nil : Sel [stb z8V 54 [(.int .i64 z1a.fBurst.fN),(.int .i64 z1a.fBurst.fD),(.int .i64 z1a.fRate.fN),(.int .i64 z1a.fRate.fD)],stb z8U 54 [(.int .i64 z19.fBurst.fN),(.int .i64 z19.fBurst.fD),(.int .i64 z19.fRate.fN),(.int .i64 z19.fRate.fD)]] [] [stb z8V 54 [(.int .i64 z1a.fBurst.fN),(.int .i64 z1a.fBurst.fD),(.int .i64 z1a.fRate.fN),(.int .i64 z1a.fRate.fD)],stb z8U 54 [(.int .i64 z19.fBurst.fN),(.int .i64 z19.fBurst.fD),(.int .i64 z19.fRate.fN),(.int .i64 z19.fRate.fD)]])); exact w_rat_Cmp (Z:=_)  (z28:=z19.fRate) (z29:=z1a.fRate) (r:=zjT) w pz  zuk) ?_
    refine WL.a (d:=22) rfl rfl rfl (q_leq rfl rfl) ?_
    refine WL.a (d:=23) rfl rfl rfl (q_pickT rfl rfl) ?_
    exact WL.cutEnd () trivial (.cons rfl (.cons (zf zff) .nil)) (.cons .here (.cons .here .nil))
   ·have zps:=hb'; clear hb'
    have zjW:=ite_f zpo zps
    replace zjW:=Option.some.inj zjW
    refine WL.pin (i:=16) rfl zps ?_
    refine WL.e rfl rfl rfl ?_
    refine WL.e rfl rfl rfl ?_
    refine WL.e rfl rfl rfl ?_
    refine WL.e rfl rfl rfl ?_
    refine WL.e rfl rfl rfl ?_
    refine WL.e rfl rfl rfl ?_
    refine WL.a (d:=23) rfl rfl rfl (q_pickF rfl rfl) ?_
    exact WL.cutEnd () trivial (.cons rfl (.cons (zf zjW) .nil)) (.cons .here (.cons .here .nil))
  ·skip
   refine WL.a (d:=4) rfl rfl rfl (q_z rfl) ?_
   refine WL.nil ?_
   refine WX.a ?_
   refine WC.ret ?_
   obtain rfl:=Option.some.inj h
   refine WX.bpRet Tryz.results93 (.tmp rfl .nil) (fun w hw=>?_)
   exact ⟨ret1 rfl,hw.sub .nil⟩
def m_curve_norm_1 (z2z : z1) (z7Q : z1) : Option Bool :=
 (m_curve_dominates z2z z7Q).bind fun zjX=>some zjX
set_option maxRecDepth 20000 in
theorem w_curve_norm_1 (Z : Zp)  (zfg : Addr) (z2z : z1) (z7Q : z1) (r : Bool) (w₀ : World) (hz : PZ [] w₀ Z)
  (zul : ZC Z zfg [(.int .i64 z7Q.fBurst.fN),(.int .i64 z7Q.fBurst.fD),(.int .i64 z7Q.fRate.fN),(.int .i64 z7Q.fRate.fD)])
  (h : m_curve_norm_1 z2z z7Q = some r) :
  Calls Tryz.prog 92 #[(.agg #[(.int .i64 z2z.fBurst.fN),(.int .i64 z2z.fBurst.fD),(.int .i64 z2z.fRate.fN),(.int .i64 z2z.fRate.fD)]),(.pointer (some zfg))] w₀ fun e w'=>e = .returned (.bool r) ∧ Hp [] w₀ w' []:=by
 unfold m_curve_norm_1 at h
 refine Calls.ofWC (vs:=[(.agg #[(.int .i64 z2z.fBurst.fN),(.int .i64 z2z.fBurst.fD),(.int .i64 z2z.fRate.fN),(.int .i64 z2z.fRate.fD)]),(.pointer (some zfg))]) (pre:=[]) (env:=[(0,(.agg #[(.int .i64 z2z.fBurst.fN),(.int .i64 z2z.fBurst.fD),(.int .i64 z2z.fRate.fN),(.int .i64 z2z.fRate.fD)])),(1,(.pointer (some zfg)))]) Tryz.func92 rfl Tryz.ntmps92 rfl (Hp.nil w₀ _) rfl ?_
 refine WC.b ?_
 refine WC.a ?_
 refine WL.new (dd:=2) rfl rfl rfl (e_box (cs:=[(.int .i64 z2z.fBurst.fN),(.int .i64 z2z.fBurst.fD),(.int .i64 z2z.fRate.fN),(.int .i64 z2z.fRate.fD)]) rfl rfl) ?_
 intro zh7 _
 refine WL.a (d:=3) rfl rfl rfl (q_z rfl) ?_
 refine WL.nil ?_
 refine WX.a ?_
 refine WC.b ?_
 obtain ⟨zjX,zum,h⟩:=z8 h
 refine WC.a ?_
 refine WL.a (d:=4) rfl rfl rfl (q_loadA (cs:=[(.int .i64 z2z.fBurst.fN),(.int .i64 z2z.fBurst.fD),(.int .i64 z2z.fRate.fN),(.int .i64 z2z.fRate.fD)]) aggT_54 rfl rfl (rd_all .here)) ?_
 refine WL.a (d:=5) rfl rfl rfl (q_loadA (cs:=[(.int .i64 z7Q.fBurst.fN),(.int .i64 z7Q.fBurst.fD),(.int .i64 z7Q.fRate.fN),(.int .i64 z7Q.fRate.fD)]) aggT_54 rfl rfl (rd_zs hz.pv zul)) ?_
 refine WL.b (dd:=6) rfl rfl rfl (zi (l:=[.tmp 4,.tmp 5]) Tryz.call93 (.cons rfl (.cons rfl .nil))) (.nil : Sel [stb zh7 54 [(.int .i64 z2z.fBurst.fN),(.int .i64 z2z.fBurst.fD),(.int .i64 z2z.fRate.fN),(.int .i64 z2z.fRate.fD)]] [] [stb zh7 54 [(.int .i64 z2z.fBurst.fN),(.int .i64 z2z.fBurst.fD),(.int .i64 z2z.fRate.fN),(.int .i64 z2z.fRate.fD)]]) (fun w hw=>by have pz:=(hz.call hw (.nil : Sel [stb zh7 54 [(.int .i64 z2z.fBurst.fN),(.int .i64 z2z.fBurst.fD),(.int .i64 z2z.fRate.fN),(.int .i64 z2z.fRate.fD)]] [] [stb zh7 54 [(.int .i64 z2z.fBurst.fN),(.int .i64 z2z.fBurst.fD),(.int .i64 z2z.fRate.fN),(.int .i64 z2z.fRate.fD)]])); exact w_curve_dominates (Z:=_)  (z19:=z2z) (z1a:=z7Q) (r:=zjX) w pz  zum) ?_
 refine WL.a (d:=3) rfl rfl rfl (q_z rfl) ?_
 refine WL.nil ?_
 refine WX.a ?_
 refine WC.ret ?_
 obtain rfl:=Option.some.inj h
 refine WX.bpRet Tryz.results92 (.tmp rfl .nil) (fun w hw=>?_)
 exact ⟨ret1 rfl,hw.sub .nil⟩
def m_curve_norm_2 (z2L : z1) (z2M : z1) : Option Int :=
 (m_rat_Cmp z2L.fBurst z2M.fBurst).bind fun zjY=>some zjY
set_option maxRecDepth 20000 in
theorem w_curve_norm_2 (Z : Zp)   (z2L : z1) (z2M : z1) (r : Int) (w₀ : World) (hz : PZ [] w₀ Z)
  (h : m_curve_norm_2 z2L z2M = some r) :
  Calls Tryz.prog 95 #[(.agg #[(.int .i64 z2L.fBurst.fN),(.int .i64 z2L.fBurst.fD),(.int .i64 z2L.fRate.fN),(.int .i64 z2L.fRate.fD)]),(.agg #[(.int .i64 z2M.fBurst.fN),(.int .i64 z2M.fBurst.fD),(.int .i64 z2M.fRate.fN),(.int .i64 z2M.fRate.fD)])] w₀ fun e w'=>e = .returned (.int .i64 r) ∧ Hp [] w₀ w' []:=by
 unfold m_curve_norm_2 at h
 refine Calls.ofWC (vs:=[(.agg #[(.int .i64 z2L.fBurst.fN),(.int .i64 z2L.fBurst.fD),(.int .i64 z2L.fRate.fN),(.int .i64 z2L.fRate.fD)]),(.agg #[(.int .i64 z2M.fBurst.fN),(.int .i64 z2M.fBurst.fD),(.int .i64 z2M.fRate.fN),(.int .i64 z2M.fRate.fD)])]) (pre:=[]) (env:=[(0,(.agg #[(.int .i64 z2L.fBurst.fN),(.int .i64 z2L.fBurst.fD),(.int .i64 z2L.fRate.fN),(.int .i64 z2L.fRate.fD)])),(1,(.agg #[(.int .i64 z2M.fBurst.fN),(.int .i64 z2M.fBurst.fD),(.int .i64 z2M.fRate.fN),(.int .i64 z2M.fRate.fD)]))]) Tryz.func95 rfl Tryz.ntmps95 rfl (Hp.nil w₀ _) rfl ?_
 refine WC.b ?_
 refine WC.a ?_
 refine WL.new (dd:=2) rfl rfl rfl (e_box (cs:=[(.int .i64 z2L.fBurst.fN),(.int .i64 z2L.fBurst.fD),(.int .i64 z2L.fRate.fN),(.int .i64 z2L.fRate.fD)]) rfl rfl) ?_
 intro zh8 _
 refine WL.new (dd:=3) rfl rfl rfl (e_box (cs:=[(.int .i64 z2M.fBurst.fN),(.int .i64 z2M.fBurst.fD),(.int .i64 z2M.fRate.fN),(.int .i64 z2M.fRate.fD)]) rfl rfl) ?_
 intro zh9 _
 refine WL.a (d:=4) rfl rfl rfl (q_z rfl) ?_
 refine WL.nil ?_
 refine WX.a ?_
 refine WC.b ?_
 obtain ⟨zjY,zun,h⟩:=z8 h
 refine WC.a ?_
 refine WL.a (d:=5) rfl rfl rfl (q_fieldAddr fo_54_0 rfl rfl) ?_
 refine WL.a (d:=6) rfl rfl rfl (q_loadA (cs:=[(.int .i64 z2L.fBurst.fN),(.int .i64 z2L.fBurst.fD)]) aggT_40 rfl rfl (rd_sub (s:=2) .h1 rfl)) ?_
 refine WL.a (d:=7) rfl rfl rfl (q_fieldAddr fo_54_0 rfl rfl) ?_
 refine WL.a (d:=8) rfl rfl rfl (q_loadA (cs:=[(.int .i64 z2M.fBurst.fN),(.int .i64 z2M.fBurst.fD)]) aggT_40 rfl rfl (rd_sub (s:=2) .here rfl)) ?_
 refine WL.b (dd:=9) rfl rfl rfl (zi (l:=[.tmp 6,.tmp 8]) Tryz.call24 (.cons rfl (.cons rfl .nil))) (.nil : Sel [stb zh9 54 [(.int .i64 z2M.fBurst.fN),(.int .i64 z2M.fBurst.fD),(.int .i64 z2M.fRate.fN),(.int .i64 z2M.fRate.fD)],stb zh8 54 [(.int .i64 z2L.fBurst.fN),(.int .i64 z2L.fBurst.fD),(.int .i64 z2L.fRate.fN),(.int .i64 z2L.fRate.fD)]] [] [stb zh9 54 [(.int .i64 z2M.fBurst.fN),(.int .i64 z2M.fBurst.fD),(.int .i64 z2M.fRate.fN),(.int .i64 z2M.fRate.fD)],stb zh8 54 [(.int .i64 z2L.fBurst.fN),(.int .i64 z2L.fBurst.fD),(.int .i64 z2L.fRate.fN),(.int .i64 z2L.fRate.fD)]]) (fun w hw=>by have pz:=(hz.call hw (.nil : Sel [stb zh9 54 [(.int .i64 z2M.fBurst.fN),(.int .i64 z2M.fBurst.fD),(.int .i64 z2M.fRate.fN),(.int .i64 z2M.fRate.fD)],stb zh8 54 [(.int .i64 z2L.fBurst.fN),(.int .i64 z2L.fBurst.fD),(.int .i64 z2L.fRate.fN),(.int .i64 z2L.fRate.fD)]] [] [stb zh9 54 [(.int .i64 z2M.fBurst.fN),(.int .i64 z2M.fBurst.fD),(.int .i64 z2M.fRate.fN),(.int .i64 z2M.fRate.fD)],stb zh8 54 [(.int .i64 z2L.fBurst.fN),(.int .i64 z2L.fBurst.fD),(.int .i64 z2L.fRate.fN),(.int .i64 z2L.fRate.fD)]])); exact w_rat_Cmp (Z:=_)  (z28:=z2L.fBurst) (z29:=z2M.fBurst) (r:=zjY) w pz  zun) ?_
 refine WL.a (d:=4) rfl rfl rfl (q_z rfl) ?_
 refine WL.nil ?_
 refine WX.a ?_
 refine WC.ret ?_
 obtain rfl:=Option.some.inj h
 refine WX.bpRet Tryz.results95 (.tmp rfl .nil) (fun w hw=>?_)
 exact ⟨ret1 rfl,hw.sub .nil⟩
def m_bits_Len (za8 : Int) : Option Int:=chk ((0 : Int) ≤ za8 ∧ za8 ≤ 18446744073709551615) (some ((Go.Lib.bitLen (za8).toNat : Nat) : Int))
theorem w_bits_Len (Z : Zp) (za8 : Int) (r : Int) (w₀ : World) (hz : PZ [] w₀ Z) (h : m_bits_Len za8 = some r) : Calls Tryz.prog 98 #[.int .u64 za8] w₀ fun e w'=>e = .returned (.int .i64 r) ∧ Hp [] w₀ w' []:=by
 obtain ⟨h0,h⟩:=chk_elim h
 obtain rfl:=Option.some.inj h
 refine (Tryz.bits_Len za8 w₀ h0.1 h0.2).mono ?_
 rintro e w' ⟨rfl,rfl⟩
 exact ⟨rfl,Hp.nil w' []⟩
theorem zuo : ∀ w,(isAgg (Tryz.laysSlF014_f100_ren.t 24)).run Tryz.prog w = .ok true w:=fun _=>by kernel_rfl
theorem zup : ∀ w,(Go.sizeOf (Tryz.laysSlF014_f100_ren.t 24)).run Tryz.prog w = .ok 4 w:=fun _=>by kernel_rfl
def m_slices_pdqsortCmpFunc_api_Bucket (z6y : List z1) (zfh : Int) (zfi : Int) (zdP : Int) (zcr : z1 → z1 → Option Int) : Option (List z1):=chk ((zfh = 0 ∧ zfi = ((z6y.length : Nat) : Int)) ∧ (0 ≤ zdP ∧ zdP < 4611686018427387904 ∧ z6y.length < 4611686018427387904)) (chk (ordB zcr (sortBy zcr z6y) = true) (some (sortBy zcr z6y)))
theorem w_slices_pdqsortCmpFunc_api_Bucket (Z : Zp) (zcs : Option Addr) (zct : Nat) (zfj : FuncId) (zjZ : List Value) (z6y : List z1) (zfh : Int) (zfi : Int) (zdP : Int) (zcr : z1 → z1 → Option Int) (r : List z1) (w₀ : World) (hz : PZ (fps [row (.slice zcs z6y.length zct) 54 4 (z6y.flatMap e54)]) w₀ Z)
  (zuq : ∀ args w,(callFunc zfj args).run Tryz.prog w = .ok (.enter zfj args) w)
  (zur : ∀ w : World,PZ [] w Z → ∀ (x0 : z1) (x1 : z1) (r : Int),zcr x0 x1 = some r → Calls Tryz.prog zfj (([(.agg #[(.int .i64 x0.fBurst.fN),(.int .i64 x0.fBurst.fD),(.int .i64 x0.fRate.fN),(.int .i64 x0.fRate.fD)]),(.agg #[(.int .i64 x1.fBurst.fN),(.int .i64 x1.fBurst.fD),(.int .i64 x1.fRate.fN),(.int .i64 x1.fRate.fD)])] : List Value) ++ zjZ).toArray w fun e w'=>e = .returned (.int .i64 r) ∧ Hp [] w w' [])
  (h : m_slices_pdqsortCmpFunc_api_Bucket z6y zfh zfi zdP zcr = some r) (hown : Hp (fps [row (.slice zcs z6y.length zct) 54 4 (z6y.flatMap e54)]) w₀ w₀ [row (.slice zcs z6y.length zct) 54 4 (z6y.flatMap e54)]) :
  Calls Tryz.prog 100 #[(.slice zcs z6y.length zct),(.int .i64 zfh),(.int .i64 zfi),(.int .i64 zdP),(.func (.func zfj) #[] (zjZ).toArray)] w₀ fun e w'=>e = .returned (.tuple #[]) ∧ (r.length = z6y.length) ∧ Hp (fps [row (.slice zcs z6y.length zct) 54 4 (z6y.flatMap e54)]) w₀ w' [row (.slice zcs r.length zct) 54 4 (r.flatMap e54)]:=by
 obtain ⟨h0,h⟩:=chk_elim h
 obtain ⟨h1,h⟩:=chk_elim h
 have hr:=(Option.some.inj h).symm
 exact sort_func (P:=Tryz.prog) (f:=100) (e:=54) (k:=4) (enc:=e54) (fun _=>rfl) (by decide) e54_oc (fun β _ enc cf g cb hO blk off cap d0 w0 eg hC R=>Tryz.pdqsortCmpFunc_all_f100 4 zuo zup enc cf g cb hO blk off cap d0 w0 eg hC R) (Tryz.pdqsortCmpFunc_none_f100 (α:=Unit)) hz zuq zur h0 h1 hr hown
def m_slices_SortFunc_api_Curve_api_Bucket (z2j : List z1) (zdQ : z1 → z1 → Option Int) : Option (List z1) :=
 (m_bits_Len (u64 ((z2j.length : Nat) : Int))).bind fun zha=>(m_slices_pdqsortCmpFunc_api_Bucket z2j 0 ((z2j.length : Nat) : Int) zha zdQ).bind fun zhb=>some zhb
set_option maxRecDepth 20000 in
theorem w_slices_SortFunc_api_Curve_api_Bucket (Z : Zp)  (z58 : Option Addr) (z59 : Nat) (zbj : FuncId) (zdR : List Value) (z2j : List z1) (zdQ : z1 → z1 → Option Int) (r : List z1) (w₀ : World) (hz : PZ (fps [row (.slice z58 z2j.length z59) 54 4 (z2j.flatMap e54)]) w₀ Z)
  (zus : ∀ args w,(callFunc zbj args).run Tryz.prog w = .ok (.enter zbj args) w)
  (zut : ∀ w : World,PZ [] w Z → ∀ (x0 : z1) (x1 : z1) (r : Int),zdQ x0 x1 = some r → Calls Tryz.prog zbj (([(.agg #[(.int .i64 x0.fBurst.fN),(.int .i64 x0.fBurst.fD),(.int .i64 x0.fRate.fN),(.int .i64 x0.fRate.fD)]),(.agg #[(.int .i64 x1.fBurst.fN),(.int .i64 x1.fBurst.fD),(.int .i64 x1.fRate.fN),(.int .i64 x1.fRate.fD)])] : List Value) ++ zdR).toArray w fun e w'=>e = .returned (.int .i64 r) ∧ Hp [] w w' [])
  (h : m_slices_SortFunc_api_Curve_api_Bucket z2j zdQ = some r)
  (hown : Hp (fps [row (.slice z58 z2j.length z59) 54 4 (z2j.flatMap e54)]) w₀ w₀ [row (.slice z58 z2j.length z59) 54 4 (z2j.flatMap e54)]) :
  Calls Tryz.prog 94 #[(.slice z58 z2j.length z59),(.func (.func zbj) #[] (zdR).toArray)] w₀ fun e w'=>e = .returned (.tuple #[]) ∧ (r.length = z2j.length) ∧ Hp (fps [row (.slice z58 z2j.length z59) 54 4 (z2j.flatMap e54)]) w₀ w' [row (.slice z58 r.length z59) 54 4 (r.flatMap e54)]:=by
 unfold m_slices_SortFunc_api_Curve_api_Bucket at h
 refine Calls.ofWC (vs:=[(.slice z58 z2j.length z59),(.func (.func zbj) #[] (zdR).toArray)]) (pre:=[row (.slice z58 z2j.length z59) 54 4 (z2j.flatMap e54)]) (env:=[(0,(.slice z58 z2j.length z59)),(1,(.func (.func zbj) #[] (zdR).toArray))]) Tryz.func94 rfl Tryz.ntmps94 rfl (hown) rfl ?_
 refine WC.b ?_
 refine WC.a ?_
 refine WL.a (d:=5) rfl rfl rfl (q_m rfl) ?_
 refine WL.a (d:=6) rfl rfl rfl (q_len Tryz.underlying23 rfl) ?_
 refine WL.a (d:=4) rfl rfl rfl (q_z rfl) ?_
 refine WL.nil ?_
 refine WX.a ?_
 obtain ⟨zha,zuu,h⟩:=z8 h
 obtain ⟨zhb,zuv,h⟩:=z8 h
 refine WC.a ?_
 refine WL.a (d:=7) rfl rfl rfl (q_m rfl) ?_
 refine WL.a (d:=8) rfl rfl rfl (q_m rfl) ?_
 refine WL.a (d:=9) rfl rfl rfl (q_m rfl) ?_
 refine WL.a (d:=10) rfl rfl rfl (q_conv Tryz.underlying3 Tryz.underlying128 rfl rfl) ?_
 refine WL.b (dd:=11) rfl rfl rfl (zi (l:=[.tmp 10]) Tryz.call98 (.cons rfl .nil)) (.nil : Sel [row (.slice z58 z2j.length z59) 54 4 (z2j.flatMap e54)] [] [row (.slice z58 z2j.length z59) 54 4 (z2j.flatMap e54)]) (fun w hw=>by have pz:=(hz.call hw (.nil : Sel [row (.slice z58 z2j.length z59) 54 4 (z2j.flatMap e54)] [] [row (.slice z58 z2j.length z59) 54 4 (z2j.flatMap e54)])); exact w_bits_Len (Z:=_)  (za8:=(u64 ((z2j.length : Nat) : Int))) (r:=zha) w pz  zuu) ?_
 refine WL.a (d:=12) rfl rfl rfl (q_m rfl) ?_
 refine WL.enter0 (dd:=13) rfl rfl rfl (zi (l:=[.tmp 7,.const (.int .i64 0),.tmp 8,.tmp 11,.tmp 12]) Tryz.call100 (.cons rfl (.cons rfl (.cons rfl (.cons rfl (.cons rfl .nil)))))) ((.cons .here .nil) : Sel [row (.slice z58 z2j.length z59) 54 4 (z2j.flatMap e54)] [row (.slice z58 z2j.length z59) 54 4 (z2j.flatMap e54)] []) (fun w hw=>by have pz:=(hz.call hw ((.cons .here .nil) : Sel [row (.slice z58 z2j.length z59) 54 4 (z2j.flatMap e54)] [row (.slice z58 z2j.length z59) 54 4 (z2j.flatMap e54)] [])); exact w_slices_pdqsortCmpFunc_api_Bucket (Z:=_) (zcs:=z58) (zct:=z59) (zfj:=zbj) (zjZ:=zdR) (z6y:=z2j) (zfh:=0) (zfi:=((z2j.length : Nat) : Int)) (zdP:=zha) (zcr:=zdQ) (r:=zhb) w pz zus zut zuv (hw.owns ((.cons .here .nil) : Sel [row (.slice z58 z2j.length z59) 54 4 (z2j.flatMap e54)] [row (.slice z58 z2j.length z59) 54 4 (z2j.flatMap e54)] []))) ?_
 rintro  zpt
 refine WL.repin (i:=0) rfl (u:=(.slice z58 zhb.length z59)) (slen zpt.symm) ?_
 refine WL.nil ?_
 obtain rfl:=Option.some.inj h
 refine WX.bpNormal Tryz.results94 .nil (fun w hw=>?_)
 exact ⟨ret0,(zpt.trans rfl),hw.sub (.cons .here .nil)⟩
def m_curve_norm_L2 (zj : List z1) (za9 : (List z1) → Option (List z1)) : Nat → (List z1) → Int → Option (List z1)
 | 0,_,_=>none
 | zk0 + 1,z1z,zo=>if decide (zo < ((zj.length : Nat) : Int)) then jp1 (fun (z8W : List z1)=>m_curve_norm_L2 zj za9 zk0 z8W (i64 (zo + 1))) fun zhc=>chk ((0 : Int) ≤ zo ∧ zo < ((zj.length : Nat) : Int)) ((m_slices_Contains_api_Curve_api_Bucket z1z (⟨(⟨(((nth zj zo).fBurst).fN),(((nth zj zo).fBurst).fD)⟩ : z2),(⟨(((nth zj zo).fRate).fN),(((nth zj zo).fRate).fD)⟩ : z2)⟩ : z1)).bind fun zhd=>(if !zhd then (m_slices_ContainsFunc_api_Curve_api_Bucket zj (fun (y0 : z1)=>m_curve_norm_1 y0 (⟨(⟨(((nth zj zo).fBurst).fN),(((nth zj zo).fBurst).fD)⟩ : z2),(⟨(((nth zj zo).fRate).fN),(((nth zj zo).fRate).fD)⟩ : z2)⟩ : z1))).bind fun zk1=>some (!zk1) else some false).bind fun zk2=>if zk2 then chk ((((z1z ++ ([(⟨(⟨(((nth zj zo).fBurst).fN),(((nth zj zo).fBurst).fD)⟩ : z2),(⟨(((nth zj zo).fRate).fN),(((nth zj zo).fRate).fD)⟩ : z2)⟩ : z1)] : List z1)).length : Nat) : Int) * 32 ≤ 140737488355328 ∧ (((z1z ++ ([(⟨(⟨(((nth zj zo).fBurst).fN),(((nth zj zo).fBurst).fD)⟩ : z2),(⟨(((nth zj zo).fRate).fN),(((nth zj zo).fRate).fD)⟩ : z2)⟩ : z1)] : List z1)).length : Nat) : Int) ≤ 4611686018427387904) (zhc (z1z ++ ([(⟨(⟨(((nth zj zo).fBurst).fN),(((nth zj zo).fBurst).fD)⟩ : z2),(⟨(((nth zj zo).fRate).fN),(((nth zj zo).fRate).fD)⟩ : z2)⟩ : z1)] : List z1))) else zhc z1z) else za9 z1z
theorem m_curve_norm_L2_fuel {n : Nat} {zj : List z1} {za9 : (List z1) → Option (List z1)} {z1z : List z1} {zo : Int} {r : List z1} (h : m_curve_norm_L2 zj za9 n z1z zo = some r) : ∃ m,n = m + 1:=by
 cases n with
 | zero=>cases h
 | succ m=>exact ⟨m,rfl⟩
def m_curve_norm (zj : List z1) : Option (List z1) :=
 jp1 (fun (z4R : List z1)=>(m_slices_SortFunc_api_Curve_api_Bucket z4R (fun (y0 : z1) (y1 : z1)=>m_curve_norm_2 y0 y1)).bind fun zhe=>some zhe) fun za9=>m_curve_norm_L2 zj za9 FUEL ([] : List z1) 0
set_option maxRecDepth 20000 in
theorem w_curve_norm (Z : Zp)  (z8d : Option Addr) (z8e : Nat) (zj : List z1) (r : List z1) (w₀ : World) (hz : PZ [] w₀ Z)
  (zpu : ZS Z 4 (fun r x=>r = e54 x) z8d z8e zj)
  (h : m_curve_norm zj = some r) :
  Calls Tryz.prog 84 #[(.slice z8d zj.length z8e)] w₀ fun e w'=>∃ zpv : Option Addr,∃ zpw : Nat,e = .returned (.slice zpv r.length zpw) ∧ True ∧ Hp [] w₀ w' [row (.slice zpv r.length zpw) 54 4 (r.flatMap e54)]:=by
 unfold m_curve_norm at h
 refine Calls.ofWC (vs:=[(.slice z8d zj.length z8e)]) (pre:=[]) (env:=[(0,(.slice z8d zj.length z8e))]) Tryz.func84 rfl Tryz.ntmps84 rfl (Hp.nil w₀ _) rfl ?_
 refine WC.b ?_
 refine WC.a ?_
 refine WL.a (d:=2) rfl rfl rfl (q_z rfl) ?_
 refine WL.nil ?_
 refine WX.a ?_
 refine WC.b ?_
 refine WC.a ?_
 refine WL.a (d:=3) rfl rfl rfl (q_z rfl) ?_
 refine WL.nil ?_
 refine WX.a ?_
 obtain ⟨za9,zuw,h⟩:=jp1_elim h
 refine WC.seqMid3 (fun (z4R : List z1) (z7s : Option Addr) (z7t : Nat)=>(za9 z4R = some r)) (fun (z4R : List z1) (z7s : Option Addr) (z7t : Nat)=>[(3,(.slice z7s z4R.length z7t))]) (fun (z4R : List z1) (z7s : Option Addr) (z7t : Nat)=>[row (.slice z7s z4R.length z7t) 54 4 (z4R.flatMap e54)]) ?_ ?_
 ·skip
  refine WC.b ?_
  refine WC.a ?_
  refine WL.a (d:=6) rfl rfl rfl (q_m rfl) ?_
  refine WL.a (d:=7) rfl rfl rfl (q_len Tryz.underlying23 rfl) ?_
  refine WL.a (d:=8) rfl rfl rfl (q_m rfl) ?_
  refine WL.nil ?_
  refine WX.a ?_
  refine WC.block ?_
  refine WC.nilRow 54 4 ?_
  refine WC.loop5 (fun (zdS : Nat) (z1z : List z1) (zo : Int) (z3o : Option Addr) (z3p : Nat)=>(m_curve_norm_L2 zj za9 zdS z1z zo = some r)) (fun (zdS : Nat) (z1z : List z1) (zo : Int) (z3o : Option Addr) (z3p : Nat)=>[(0,(.slice z8d zj.length z8e)),(3,(.slice z3o z1z.length z3p)),(6,(.slice z8d zj.length z8e)),(7,(.int .i64 ((zj.length : Nat) : Int))),(8,(.int .i64 zo))]) (fun (zdS : Nat) (z1z : List z1) (zo : Int) (z3o : Option Addr) (z3p : Nat)=>[row (.slice z3o z1z.length z3p) 54 4 (z1z.flatMap e54)]) (fun (zdS : Nat) (z1z : List z1) (zo : Int) (z3o : Option Addr) (z3p : Nat)=>zdS) ⟨FUEL,([] : List z1),0,none,0⟩ h (.cons rfl (.cons rfl (.cons rfl (.cons rfl (.cons rfl .nil))))) (.cons .here .nil) ?_
  rintro zdS z1z zo z3o z3p h
  obtain ⟨zk0,rfl⟩:=m_curve_norm_L2_fuel h
  rw [m_curve_norm_L2] at h
  refine WC.b ?_
  refine WC.a ?_
  refine WL.a (d:=9) rfl rfl rfl (q_lss rfl rfl) ?_
  refine WL.nil ?_
  refine WX.a ?_
  refine WC.b ?_
  refine WC.cond rfl (fun zk3=>?_) (fun zk3=>?_)
  ·replace h:=ite_t h zk3
   refine WC.skip ?_
   refine WX.a ?_
   obtain ⟨zhc,zux,h⟩:=jp1_elim h
   refine WC.seqMid3 (fun (z8W : List z1) (zdT : Option Addr) (zdU : Nat)=>(zhc z8W = some r)) (fun (z8W : List z1) (zdT : Option Addr) (zdU : Nat)=>[(0,(.slice z8d zj.length z8e)),(3,(.slice zdT z8W.length zdU)),(6,(.slice z8d zj.length z8e)),(7,(.int .i64 ((zj.length : Nat) : Int))),(8,(.int .i64 zo))]) (fun (z8W : List z1) (zdT : Option Addr) (zdU : Nat)=>[row (.slice zdT z8W.length zdU) 54 4 (z8W.flatMap e54)]) ?_ ?_
   ·skip
    refine WC.block ?_
    refine WC.b ?_
    obtain ⟨zuy,h⟩:=chk_elim h
    refine WC.a ?_
    refine WL.znth (dd:=10) rfl rfl (Z:=Z) (Pr:=(fun r x=>r = e54 x)) elT_23 rfl rfl zpu zuy ?_
    rintro zC9 zCa zuz zCb rfl
    refine WL.a (d:=11) rfl rfl rfl (q_loadA (cs:=[(.int .i64 (((nth zj zo).fBurst).fN)),(.int .i64 (((nth zj zo).fBurst).fD)),(.int .i64 (((nth zj zo).fRate).fN)),(.int .i64 (((nth zj zo).fRate).fD))]) aggT_54 rfl rfl (rd_zs hz.pv zuz)) ?_
    refine WL.new (dd:=5) rfl rfl rfl (e_alloc (cs:=[(.int .i64 0),(.int .i64 0),(.int .i64 0),(.int .i64 0)]) zeroT_54 rfl) ?_
    intro z4A _
    refine WL.eff0 rfl rfl (e_store (vs:=[(.int .i64 (((nth zj zo).fBurst).fN)),(.int .i64 (((nth zj zo).fBurst).fD)),(.int .i64 (((nth zj zo).fRate).fN)),(.int .i64 (((nth zj zo).fRate).fD))]) (ds:=[(.int .i64 (((nth zj zo).fBurst).fN)),(.int .i64 (((nth zj zo).fBurst).fD)),(.int .i64 (((nth zj zo).fRate).fN)),(.int .i64 (((nth zj zo).fRate).fD))]) sizT_54 rfl rfl rfl rfl (oc_cons rfl (oc_cons rfl (oc_cons rfl (oc_cons rfl oc_nil)))) .here (Nat.le_of_ble_eq_true rfl) rfl) ?_
    refine WL.nil ?_
    refine WX.a ?_
    refine WC.b ?_
    obtain ⟨zhd,zuA,h⟩:=z8 h
    obtain ⟨zk2,zpx,h⟩:=z8 h
    refine WC.a ?_
    refine WL.a (d:=12) rfl rfl rfl (q_m rfl) ?_
    refine WL.a (d:=13) rfl rfl rfl (q_loadA (cs:=[(.int .i64 (((nth zj zo).fBurst).fN)),(.int .i64 (((nth zj zo).fBurst).fD)),(.int .i64 (((nth zj zo).fRate).fN)),(.int .i64 (((nth zj zo).fRate).fD))]) aggT_54 rfl rfl (rd_all .here)) ?_
    refine WL.b (dd:=14) rfl rfl rfl (zi (l:=[.tmp 12,.tmp 13]) Tryz.call91 (.cons rfl (.cons rfl .nil))) (.nil : Sel [stb z4A 54 [(.int .i64 (((nth zj zo).fBurst).fN)),(.int .i64 (((nth zj zo).fBurst).fD)),(.int .i64 (((nth zj zo).fRate).fN)),(.int .i64 (((nth zj zo).fRate).fD))],row (.slice z3o z1z.length z3p) 54 4 (z1z.flatMap e54)] [] [stb z4A 54 [(.int .i64 (((nth zj zo).fBurst).fN)),(.int .i64 (((nth zj zo).fBurst).fD)),(.int .i64 (((nth zj zo).fRate).fN)),(.int .i64 (((nth zj zo).fRate).fD))],row (.slice z3o z1z.length z3p) 54 4 (z1z.flatMap e54)]) (fun w hw=>by have pz:=(hz.call hw (.nil : Sel [stb z4A 54 [(.int .i64 (((nth zj zo).fBurst).fN)),(.int .i64 (((nth zj zo).fBurst).fD)),(.int .i64 (((nth zj zo).fRate).fN)),(.int .i64 (((nth zj zo).fRate).fD))],row (.slice z3o z1z.length z3p) 54 4 (z1z.flatMap e54)] [] [stb z4A 54 [(.int .i64 (((nth zj zo).fBurst).fN)),(.int .i64 (((nth zj zo).fBurst).fD)),(.int .i64 (((nth zj zo).fRate).fN)),(.int .i64 (((nth zj zo).fRate).fD))],row (.slice z3o z1z.length z3p) 54 4 (z1z.flatMap e54)])).lend hw (.nil : Sel [stb z4A 54 [(.int .i64 (((nth zj zo).fBurst).fN)),(.int .i64 (((nth zj zo).fBurst).fD)),(.int .i64 (((nth zj zo).fRate).fN)),(.int .i64 (((nth zj zo).fRate).fD))],row (.slice z3o z1z.length z3p) 54 4 (z1z.flatMap e54)] [] [stb z4A 54 [(.int .i64 (((nth zj zo).fBurst).fN)),(.int .i64 (((nth zj zo).fBurst).fD)),(.int .i64 (((nth zj zo).fRate).fN)),(.int .i64 (((nth zj zo).fRate).fD))],row (.slice z3o z1z.length z3p) 54 4 (z1z.flatMap e54)]) (B:=[row (.slice z3o z1z.length z3p) 54 4 (z1z.flatMap e54)]) (fun _ hx'=>((.cons .h1 .nil) : Sel _ [row (.slice z3o z1z.length z3p) 54 4 (z1z.flatMap e54)] _).mem hx'); exact w_slices_Contains_api_Curve_api_Bucket (Z:=_) (zdN:=z3o) (zdO:=z3p) (za7:=z1z) (z2y:=(⟨(⟨(((nth zj zo).fBurst).fN),(((nth zj zo).fBurst).fD)⟩ : z2),(⟨(((nth zj zo).fRate).fN),(((nth zj zo).fRate).fD)⟩ : z2)⟩ : z1)) (r:=zhd) w pz (ZA.row (hw.lent (.nil : Sel [stb z4A 54 [(.int .i64 (((nth zj zo).fBurst).fN)),(.int .i64 (((nth zj zo).fBurst).fD)),(.int .i64 (((nth zj zo).fRate).fN)),(.int .i64 (((nth zj zo).fRate).fD))],row (.slice z3o z1z.length z3p) 54 4 (z1z.flatMap e54)] [] [stb z4A 54 [(.int .i64 (((nth zj zo).fBurst).fN)),(.int .i64 (((nth zj zo).fBurst).fD)),(.int .i64 (((nth zj zo).fRate).fN)),(.int .i64 (((nth zj zo).fRate).fD))],row (.slice z3o z1z.length z3p) 54 4 (z1z.flatMap e54)]) (B:=[row (.slice z3o z1z.length z3p) 54 4 (z1z.flatMap e54)]) (fun _ hx'=>((.cons .h1 .nil) : Sel _ [row (.slice z3o z1z.length z3p) 54 4 (z1z.flatMap e54)] _).mem hx') (.head _) _) (RR.flat (enc:=e54) (fun _=>rfl) _) ⟨w,pz.1⟩) zuA) ?_
    refine WL.a (d:=15) rfl rfl rfl (q_not rfl) ?_
    refine WL.a (d:=16) rfl rfl rfl (q_m rfl) ?_
    refine WL.cut0 True [(0,(.slice z8d zj.length z8e)),(3,(.slice z3o z1z.length z3p)),(6,(.slice z8d zj.length z8e)),(7,(.int .i64 ((zj.length : Nat) : Int))),(8,(.int .i64 zo)),(5,(.pointer (some ⟨z4A,0,none⟩))),(21,(.bool zk2))] [stb z4A 54 [(.int .i64 (((nth zj zo).fBurst).fN)),(.int .i64 (((nth zj zo).fBurst).fD)),(.int .i64 (((nth zj zo).fRate).fN)),(.int .i64 (((nth zj zo).fRate).fD))],row (.slice z3o z1z.length z3p) 54 4 (z1z.flatMap e54)] 5 ?_ (fun _=>?_)
    ·rcases Bool.eq_false_or_eq_true (!zhd) with hb' | hb'
     ·have zpy:=hb'; clear hb'
      have zfk:=ite_t zpx zpy
      obtain ⟨zk1,zuB,zfk⟩:=z8 zfk
      replace zfk:=Option.some.inj zfk
      refine WL.pin (i:=16) rfl zpy ?_
      refine WL.a (d:=17) rfl rfl rfl (q_m rfl) ?_
      refine WL.a (d:=18) rfl rfl rfl (q_makeFunc (Eos.caps (l:=[.tmp 5]) (.cons rfl .nil))) ?_
      refine WL.b (dd:=19) rfl rfl rfl (zi (l:=[.tmp 17,.tmp 18]) Tryz.call47 (.cons rfl (.cons rfl .nil))) (.nil : Sel [stb z4A 54 [(.int .i64 (((nth zj zo).fBurst).fN)),(.int .i64 (((nth zj zo).fBurst).fD)),(.int .i64 (((nth zj zo).fRate).fN)),(.int .i64 (((nth zj zo).fRate).fD))],row (.slice z3o z1z.length z3p) 54 4 (z1z.flatMap e54)] [] [stb z4A 54 [(.int .i64 (((nth zj zo).fBurst).fN)),(.int .i64 (((nth zj zo).fBurst).fD)),(.int .i64 (((nth zj zo).fRate).fN)),(.int .i64 (((nth zj zo).fRate).fD))],row (.slice z3o z1z.length z3p) 54 4 (z1z.flatMap e54)]) (fun w hw=>by have pz:=(hz.call hw (.nil : Sel [stb z4A 54 [(.int .i64 (((nth zj zo).fBurst).fN)),(.int .i64 (((nth zj zo).fBurst).fD)),(.int .i64 (((nth zj zo).fRate).fN)),(.int .i64 (((nth zj zo).fRate).fD))],row (.slice z3o z1z.length z3p) 54 4 (z1z.flatMap e54)] [] [stb z4A 54 [(.int .i64 (((nth zj zo).fBurst).fN)),(.int .i64 (((nth zj zo).fBurst).fD)),(.int .i64 (((nth zj zo).fRate).fN)),(.int .i64 (((nth zj zo).fRate).fD))],row (.slice z3o z1z.length z3p) 54 4 (z1z.flatMap e54)])).lend hw (.nil : Sel [stb z4A 54 [(.int .i64 (((nth zj zo).fBurst).fN)),(.int .i64 (((nth zj zo).fBurst).fD)),(.int .i64 (((nth zj zo).fRate).fN)),(.int .i64 (((nth zj zo).fRate).fD))],row (.slice z3o z1z.length z3p) 54 4 (z1z.flatMap e54)] [] [stb z4A 54 [(.int .i64 (((nth zj zo).fBurst).fN)),(.int .i64 (((nth zj zo).fBurst).fD)),(.int .i64 (((nth zj zo).fRate).fN)),(.int .i64 (((nth zj zo).fRate).fD))],row (.slice z3o z1z.length z3p) 54 4 (z1z.flatMap e54)]) (B:=[stb z4A 54 [(.int .i64 (((nth zj zo).fBurst).fN)),(.int .i64 (((nth zj zo).fBurst).fD)),(.int .i64 (((nth zj zo).fRate).fN)),(.int .i64 (((nth zj zo).fRate).fD))]]) (fun _ hx'=>((.cons .here .nil) : Sel _ [stb z4A 54 [(.int .i64 (((nth zj zo).fBurst).fN)),(.int .i64 (((nth zj zo).fBurst).fD)),(.int .i64 (((nth zj zo).fRate).fN)),(.int .i64 (((nth zj zo).fRate).fD))]] _).mem hx'); exact w_slices_ContainsFunc_api_Curve_api_Bucket (Z:=_) (zcg:=z8d) (zch:=z8e) (za2:=92) (zci:=[(.pointer (some ⟨z4A,0,none⟩))]) (z9l:=zj) (zcf:=(fun (y0 : z1)=>m_curve_norm_1 y0 (⟨(⟨(((nth zj zo).fBurst).fN),(((nth zj zo).fBurst).fD)⟩ : z2),(⟨(((nth zj zo).fRate).fN),(((nth zj zo).fRate).fD)⟩ : z2)⟩ : z1))) (r:=zk1) w pz (zpu.mono (Zle.left _ _)) Tryz.call92 (fun w' hz' y0  r  hr=>w_curve_norm_1 (Z:=_) (zfg:=⟨z4A,0,none⟩) (z2z:=y0) (z7Q:=(⟨(⟨(((nth zj zo).fBurst).fN),(((nth zj zo).fBurst).fD)⟩ : z2),(⟨(((nth zj zo).fRate).fN),(((nth zj zo).fRate).fD)⟩ : z2)⟩ : z1)) (r:=r) w' hz' ((hw.lent (.nil : Sel [stb z4A 54 [(.int .i64 (((nth zj zo).fBurst).fN)),(.int .i64 (((nth zj zo).fBurst).fD)),(.int .i64 (((nth zj zo).fRate).fN)),(.int .i64 (((nth zj zo).fRate).fD))],row (.slice z3o z1z.length z3p) 54 4 (z1z.flatMap e54)] [] [stb z4A 54 [(.int .i64 (((nth zj zo).fBurst).fN)),(.int .i64 (((nth zj zo).fBurst).fD)),(.int .i64 (((nth zj zo).fRate).fN)),(.int .i64 (((nth zj zo).fRate).fD))],row (.slice z3o z1z.length z3p) 54 4 (z1z.flatMap e54)]) (B:=[stb z4A 54 [(.int .i64 (((nth zj zo).fBurst).fN)),(.int .i64 (((nth zj zo).fBurst).fD)),(.int .i64 (((nth zj zo).fRate).fN)),(.int .i64 (((nth zj zo).fRate).fD))]]) (fun _ hx'=>((.cons .here .nil) : Sel _ [stb z4A 54 [(.int .i64 (((nth zj zo).fBurst).fN)),(.int .i64 (((nth zj zo).fBurst).fD)),(.int .i64 (((nth zj zo).fRate).fN)),(.int .i64 (((nth zj zo).fRate).fD))]] _).mem hx') (.head _) _).stb) hr) zuB) ?_
      refine WL.a (d:=20) rfl rfl rfl (q_not rfl) ?_
      refine WL.a (d:=21) rfl rfl rfl (q_pickT rfl rfl) ?_
      exact WL.cutEnd () trivial (.cons rfl (.cons rfl (.cons rfl (.cons rfl (.cons rfl (.cons rfl (.cons (zf zfk) .nil))))))) (.cons .here (.cons .here .nil))
     ·have zpz:=hb'; clear hb'
      have zk4:=ite_f zpx zpz
      replace zk4:=Option.some.inj zk4
      refine WL.pin (i:=16) rfl zpz ?_
      refine WL.e rfl rfl rfl ?_
      refine WL.e rfl rfl rfl ?_
      refine WL.e rfl rfl rfl ?_
      refine WL.e rfl rfl rfl ?_
      refine WL.a (d:=21) rfl rfl rfl (q_pickF rfl rfl) ?_
      exact WL.cutEnd () trivial (.cons rfl (.cons rfl (.cons rfl (.cons rfl (.cons rfl (.cons rfl (.cons (zf zk4) .nil))))))) (.cons .here (.cons .here .nil))
    ·skip
     refine WL.nil ?_
     refine WX.a ?_
     refine WC.cond rfl (fun zk5=>?_) (fun zk5=>?_)
     ·replace h:=ite_t h zk5
      obtain ⟨zuC,h⟩:=chk_elim h
      refine WC.a ?_
      refine WL.a (d:=22) rfl rfl rfl (q_m rfl) ?_
      refine WL.a (d:=23) rfl rfl rfl (q_loadA (cs:=[(.int .i64 (((nth zj zo).fBurst).fN)),(.int .i64 (((nth zj zo).fBurst).fD)),(.int .i64 (((nth zj zo).fRate).fN)),(.int .i64 (((nth zj zo).fRate).fD))]) aggT_54 rfl rfl (rd_all .here)) ?_
      refine WL.new (dd:=24) rfl rfl rfl (e_buildSlice (cs:=([(⟨(⟨(((nth zj zo).fBurst).fN),(((nth zj zo).fBurst).fD)⟩ : z2),(⟨(((nth zj zo).fRate).fN),(((nth zj zo).fRate).fD)⟩ : z2)⟩ : z1)] : List z1).flatMap e54) elT_23 (Eos.parts (l:=[.tmp 23]) (.cons rfl .nil) [0]) (fun _=>by kernel_rfl) rfl (by unfold maxLen; omega)) ?_
      intro zCc _
      refine WL.eff (d:=25) rfl rfl rfl (e_appendF (enc:=e54) (l1:=z1z) (l2:=([(⟨(⟨(((nth zj zo).fBurst).fN),(((nth zj zo).fBurst).fD)⟩ : z2),(⟨(((nth zj zo).fRate).fN),(((nth zj zo).fRate).fD)⟩ : z2)⟩ : z1)] : List z1)) elT_23 rfl rfl .h2 (fun _=>rfl) rfl rfl (news_row .here) (oc_flat e54_oc _) zuC) ?_
      rintro ⟨zuD,zuE⟩ _
      refine WL.a (d:=3) rfl rfl rfl (q_z rfl) ?_
      refine WL.nil ?_
      refine WX.blockNormal ?_
      exact WX.mid (G:=List z1 × Option Addr × Nat) ⟨(z1z ++ ([(⟨(⟨(((nth zj zo).fBurst).fN),(((nth zj zo).fBurst).fD)⟩ : z2),(⟨(((nth zj zo).fRate).fN),(((nth zj zo).fRate).fD)⟩ : z2)⟩ : z1)] : List z1)),zuD,zuE⟩ h (.cons rfl (.cons rfl (.cons rfl (.cons rfl (.cons rfl .nil))))) (.cons .here .nil)
     ·replace h:=ite_f h zk5
      refine WC.skip ?_
      refine WX.blockNormal ?_
      exact WX.mid (G:=List z1 × Option Addr × Nat) ⟨z1z,z3o,z3p⟩ h (.cons rfl (.cons rfl (.cons rfl (.cons rfl (.cons rfl .nil))))) (.cons .h1 .nil)
   ·rintro z8W zdT zdU h
    replace h:=(zux z8W).symm.trans h
    refine WC.a ?_
    refine WL.a (d:=26) rfl rfl rfl (q_add rfl rfl rfl) ?_
    refine WL.a (d:=8) rfl rfl rfl (q_m rfl) ?_
    refine WL.nil ?_
    exact WX.round (G:=Nat × List z1 × Int × Option Addr × Nat) ⟨zk0,z8W,(i64 (zo + 1)),zdT,zdU⟩ h (Nat.lt_succ_self _) (.cons rfl (.cons rfl (.cons rfl (.cons rfl (.cons rfl .nil))))) (.cons .here .nil)
  ·replace h:=ite_f h zk3
   refine WC.exit ?_
   refine WX.thenExit ?_
   refine WX.thenExit ?_
   refine WX.blockHit ?_
   exact WX.mid (G:=List z1 × Option Addr × Nat) ⟨z1z,z3o,z3p⟩ h (.cons rfl .nil) (.cons .here .nil)
 ·rintro z4R z7s z7t h
  replace h:=(zuw z4R).symm.trans h
  refine WC.b ?_
  obtain ⟨zhe,zuF,h⟩:=z8 h
  refine WC.a ?_
  refine WL.a (d:=27) rfl rfl rfl (q_m rfl) ?_
  refine WL.enter0 (dd:=28) rfl rfl rfl (zi (l:=[.tmp 27,.func 95]) Tryz.call94 (.cons rfl (.cons rfl .nil))) ((.cons .here .nil) : Sel [row (.slice z7s z4R.length z7t) 54 4 (z4R.flatMap e54)] [row (.slice z7s z4R.length z7t) 54 4 (z4R.flatMap e54)] []) (fun w hw=>by have pz:=(hz.call hw ((.cons .here .nil) : Sel [row (.slice z7s z4R.length z7t) 54 4 (z4R.flatMap e54)] [row (.slice z7s z4R.length z7t) 54 4 (z4R.flatMap e54)] [])); exact w_slices_SortFunc_api_Curve_api_Bucket (Z:=_) (z58:=z7s) (z59:=z7t) (zbj:=95) (zdR:=[]) (z2j:=z4R) (zdQ:=(fun (y0 : z1) (y1 : z1)=>m_curve_norm_2 y0 y1)) (r:=zhe) w pz Tryz.call95 (fun w' hz' y0 y1  r  hr=>w_curve_norm_2 (Z:=_)  (z2L:=y0) (z2M:=y1) (r:=r) w' hz'  hr) zuF (hw.owns ((.cons .here .nil) : Sel [row (.slice z7s z4R.length z7t) 54 4 (z4R.flatMap e54)] [row (.slice z7s z4R.length z7t) 54 4 (z4R.flatMap e54)] []))) ?_
  rintro  zuG
  refine WL.repin (i:=3) rfl (u:=(.slice z7s zhe.length z7t)) (slen zuG.symm) ?_
  refine WL.nil ?_
  refine WX.a ?_
  refine WC.b ?_
  refine WC.a ?_
  refine WL.a (d:=29) rfl rfl rfl (q_m rfl) ?_
  refine WL.a (d:=2) rfl rfl rfl (q_z rfl) ?_
  refine WL.nil ?_
  refine WX.a ?_
  refine WC.ret ?_
  obtain rfl:=Option.some.inj h
  refine WX.bpRet Tryz.results84 (.tmp rfl .nil) (fun w hw=>?_)
  exact ⟨z7s,z7t,ret1 rfl,trivial,hw.sub (.cons .here .nil)⟩
def m_curve_pairs (zaa : List z1) (zab : List z1) : Option (List z1 × List z1) :=
 some (zaa,zab)
set_option maxRecDepth 20000 in
theorem w_curve_pairs (Z : Zp)  (zcu : Option Addr) (zcv : Nat) (zcw : Option Addr) (zcx : Nat) (zaa : List z1) (zab : List z1) (r : List z1 × List z1) (w₀ : World) (hz : PZ [] w₀ Z)
  (zuH : ZS Z 4 (fun r x=>r = e54 x) zcu zcv zaa)
  (zuI : ZS Z 4 (fun r x=>r = e54 x) zcw zcx zab)
  (h : m_curve_pairs zaa zab = some r) :
  Calls Tryz.prog 85 #[(.slice zcu zaa.length zcv),(.slice zcw zab.length zcx)] w₀ fun e w'=>∃ zpA : Nat,∃ zpB : Nat,∃ zpC : Option Addr,∃ zpD : Nat,∃ zpE : Option Addr,∃ zpF : Nat,e = .returned (.func (.func 96) #[] #[(.pointer (some ⟨zpA,0,none⟩)),(.pointer (some ⟨zpB,0,none⟩))]) ∧ ((ZS Z 4 (fun r x=>r = e54 x) zpC zpD r.1) ∧ (ZS Z 4 (fun r x=>r = e54 x) zpE zpF r.2)) ∧ Hp [] w₀ w' [stb zpA 23 [(.slice zpC r.1.length zpD)],stb zpB 23 [(.slice zpE r.2.length zpF)]]:=by
 unfold m_curve_pairs at h
 refine Calls.ofWC (vs:=[(.slice zcu zaa.length zcv),(.slice zcw zab.length zcx)]) (pre:=[]) (env:=[(0,(.slice zcu zaa.length zcv)),(1,(.slice zcw zab.length zcx))]) Tryz.func85 rfl Tryz.ntmps85 rfl (Hp.nil w₀ _) rfl ?_
 refine WC.b ?_
 refine WC.a ?_
 refine WL.new (dd:=2) rfl rfl rfl (e_box (cs:=[(.slice zcu zaa.length zcv)]) rfl rfl) ?_
 intro zuJ _
 refine WL.new (dd:=3) rfl rfl rfl (e_box (cs:=[(.slice zcw zab.length zcx)]) rfl rfl) ?_
 intro zuK _
 refine WL.a (d:=4) rfl rfl rfl (q_z rfl) ?_
 refine WL.nil ?_
 refine WX.a ?_
 refine WC.b ?_
 refine WC.a ?_
 refine WL.a (d:=5) rfl rfl rfl (q_makeFunc (Eos.caps (l:=[.tmp 2,.tmp 3]) (.cons rfl (.cons rfl .nil)))) ?_
 refine WL.a (d:=4) rfl rfl rfl (q_z rfl) ?_
 refine WL.nil ?_
 refine WX.a ?_
 refine WC.ret ?_
 obtain rfl:=Option.some.inj h
 refine WX.bpRet Tryz.results85 (.tmp rfl .nil) (fun w hw=>?_)
 exact ⟨zuJ,zuK,zcu,zcv,zcw,zcx,ret1 rfl,⟨zuH,zuI⟩,hw.sub (.cons .h1 (.cons .here .nil))⟩
def m_curve_pairs_1_L4 (z17 : Type) (z2h : List z1) (z6z : (z1 × z1) → z17 → Option (Bool × z17)) (z1Y : List z1) (z24 : Int) (zac : z17 → Option z17) : Nat → Int → z17 → Option z17
 | 0,_,_=>none
 | zk6 + 1,z2X,z6Q=>if decide (z2X < ((z2h.length : Nat) : Int)) then chk ((0 : Int) ≤ z2X ∧ z2X < ((z2h.length : Nat) : Int)) ((z6z ((⟨(⟨(((nth z1Y z24).fBurst).fN),(((nth z1Y z24).fBurst).fD)⟩ : z2),(⟨(((nth z1Y z24).fRate).fN),(((nth z1Y z24).fRate).fD)⟩ : z2)⟩ : z1),(⟨(⟨(((nth z2h z2X).fBurst).fN),(((nth z2h z2X).fBurst).fD)⟩ : z2),(⟨(((nth z2h z2X).fRate).fN),(((nth z2h z2X).fRate).fD)⟩ : z2)⟩ : z1)) z6Q).bind fun zcy=>if !zcy.1 then some zcy.2 else m_curve_pairs_1_L4 z17 z2h z6z z1Y z24 zac zk6 (i64 (z2X + 1)) zcy.2) else zac z6Q
theorem m_curve_pairs_1_L4_fuel {n : Nat} {z17 : Type} {z2h : List z1} {z6z : (z1 × z1) → z17 → Option (Bool × z17)} {z1Y : List z1} {z24 : Int} {zac : z17 → Option z17} {z2X : Int} {z6Q : z17} {r : z17} (h : m_curve_pairs_1_L4 z17 z2h z6z z1Y z24 zac n z2X z6Q = some r) : ∃ m,n = m + 1:=by
 cases n with
 | zero=>cases h
 | succ m=>exact ⟨m,rfl⟩
def m_curve_pairs_1_L3 (z17 : Type) (z1Y : List z1) (z2h : List z1) (z6z : (z1 × z1) → z17 → Option (Bool × z17)) (zad : z17 → Option z17) : Nat → Int → z17 → Option z17
 | 0,_,_=>none
 | zk7 + 1,z24,z7u=>if decide (z24 < ((z1Y.length : Nat) : Int)) then jp1 (fun (z9q : z17)=>m_curve_pairs_1_L3 z17 z1Y z2h z6z zad zk7 (i64 (z24 + 1)) z9q) fun zk8=>chk ((0 : Int) ≤ z24 ∧ z24 < ((z1Y.length : Nat) : Int)) (jp1 (fun (z9r : z17)=>zk8 z9r) fun zac=>m_curve_pairs_1_L4 z17 z2h z6z z1Y z24 zac FUEL 0 z7u) else zad z7u
theorem m_curve_pairs_1_L3_fuel {n : Nat} {z17 : Type} {z1Y : List z1} {z2h : List z1} {z6z : (z1 × z1) → z17 → Option (Bool × z17)} {zad : z17 → Option z17} {z24 : Int} {z7u : z17} {r : z17} (h : m_curve_pairs_1_L3 z17 z1Y z2h z6z zad n z24 z7u = some r) : ∃ m,n = m + 1:=by
 cases n with
 | zero=>cases h
 | succ m=>exact ⟨m,rfl⟩
def m_curve_pairs_1 (z17 : Type) (z6z : (z1 × z1) → z17 → Option (Bool × z17)) (s0_2452 : z17) (z1Y : List z1) (z2h : List z1) : Option z17 :=
 jp1 (fun (zae : z17)=>some zae) fun zad=>m_curve_pairs_1_L3 z17 z1Y z2h z6z zad FUEL 0 s0_2452
set_option maxRecDepth 20000 in
theorem w_curve_pairs_1 (Z : Zp) (z17 : Type) (zaf : Nat) (z3Q : Type) (z7c : z3Q → z17 → Asrt) (zag : z3Q → z17 → Prop) (zbk : z3Q) (zfl : Addr) (zcz : Option Addr) (zcA : Nat) (zah : Addr) (zhf : Option Addr) (zhg : Nat) (z6z : (z1 × z1) → z17 → Option (Bool × z17)) (s0_2452 : z17) (z1Y : List z1) (z2h : List z1) (r : z17) (w₀ : World) (hz : PZ (fps [z7c zbk s0_2452]) w₀ Z)
  (zuL : YieldP Tryz.prog Z zaf (α:=z1 × z1) (σ:=z17) (G:=z3Q) (H:=Unit) (fun h x=>[(.agg #[(.int .i64 x.1.fBurst.fN),(.int .i64 x.1.fBurst.fD),(.int .i64 x.1.fRate.fN),(.int .i64 x.1.fRate.fD)]),(.agg #[(.int .i64 x.2.fBurst.fN),(.int .i64 x.2.fBurst.fD),(.int .i64 x.2.fRate.fN),(.int .i64 x.2.fRate.fD)])]) (fun h x=>[]) z6z z7c zag)
  (zuM : zag zbk s0_2452)
  (zuN : ZS Z 4 (fun r x=>r = e54 x) zcz zcA z1Y)
  (zuO : ZC Z zfl [(.slice zcz z1Y.length zcA)])
  (zuP : ZS Z 4 (fun r x=>r = e54 x) zhf zhg z2h)
  (zuQ : ZC Z zah [(.slice zhf z2h.length zhg)])
  (h : m_curve_pairs_1 z17 z6z s0_2452 z1Y z2h = some r)
  (hown : Hp (fps [z7c zbk s0_2452]) w₀ w₀ [z7c zbk s0_2452]) :
  Calls Tryz.prog 96 #[(.func (.yield zaf) #[] #[]),(.pointer (some zfl)),(.pointer (some zah))] w₀ fun e w'=>∃ zpG : z3Q,e = .returned (.tuple #[]) ∧ (zag zpG r) ∧ Hp (fps [z7c zbk s0_2452]) w₀ w' [z7c zpG r]:=by
 unfold m_curve_pairs_1 at h
 refine Calls.ofWC (vs:=[(.func (.yield zaf) #[] #[]),(.pointer (some zfl)),(.pointer (some zah))]) (pre:=[z7c zbk s0_2452]) (env:=[(0,(.func (.yield zaf) #[] #[])),(1,(.pointer (some zfl))),(2,(.pointer (some zah)))]) Tryz.func96 rfl Tryz.ntmps96 rfl (hown) rfl ?_
 refine WC.b ?_
 refine WC.a ?_
 refine WL.a (d:=8) rfl rfl rfl (q_load1 oneT_23 rfl (rd_z hz.pv zuO rfl)) ?_
 refine WL.a (d:=9) rfl rfl rfl (q_len Tryz.underlying23 rfl) ?_
 refine WL.a (d:=10) rfl rfl rfl (q_m rfl) ?_
 refine WL.nil ?_
 refine WX.a ?_
 obtain ⟨zad,zuR,h⟩:=jp1_elim h
 refine WC.mid2 (fun (zae : z17) (zdV : z3Q)=>(zad zae = some r) ∧ (zag zdV zae)) (fun (zae : z17) (zdV : z3Q)=>[]) (fun (zae : z17) (zdV : z3Q)=>[z7c zdV zae]) ?_ ?_
 ·skip
  refine WC.block ?_
  refine WC.loop4 (fun (zdW : Nat) (z24 : Int) (z7u : z17) (zbl : z3Q)=>(m_curve_pairs_1_L3 z17 z1Y z2h z6z zad zdW z24 z7u = some r) ∧ (zag zbl z7u)) (fun (zdW : Nat) (z24 : Int) (z7u : z17) (zbl : z3Q)=>[(0,(.func (.yield zaf) #[] #[])),(2,(.pointer (some zah))),(8,(.slice zcz z1Y.length zcA)),(9,(.int .i64 ((z1Y.length : Nat) : Int))),(10,(.int .i64 z24))]) (fun (zdW : Nat) (z24 : Int) (z7u : z17) (zbl : z3Q)=>[z7c zbl z7u]) (fun (zdW : Nat) (z24 : Int) (z7u : z17) (zbl : z3Q)=>zdW) ⟨FUEL,0,s0_2452,zbk⟩ ⟨h,zuM⟩ (.cons rfl (.cons rfl (.cons rfl (.cons rfl (.cons rfl .nil))))) (.cons .here .nil) ?_
  rintro zdW z24 z7u zbl ⟨h,zpH⟩
  obtain ⟨zk7,rfl⟩:=m_curve_pairs_1_L3_fuel h
  rw [m_curve_pairs_1_L3] at h
  refine WC.b ?_
  refine WC.a ?_
  refine WL.a (d:=11) rfl rfl rfl (q_lss rfl rfl) ?_
  refine WL.nil ?_
  refine WX.a ?_
  refine WC.b ?_
  refine WC.cond rfl (fun zk9=>?_) (fun zk9=>?_)
  ·replace h:=ite_t h zk9
   refine WC.skip ?_
   refine WX.a ?_
   obtain ⟨zk8,zuS,h⟩:=jp1_elim h
   refine WC.seqMid2 (fun (z9q : z17) (zdX : z3Q)=>(zk8 z9q = some r) ∧ (zag zdX z9q)) (fun (z9q : z17) (zdX : z3Q)=>[(0,(.func (.yield zaf) #[] #[])),(2,(.pointer (some zah))),(8,(.slice zcz z1Y.length zcA)),(9,(.int .i64 ((z1Y.length : Nat) : Int))),(10,(.int .i64 z24))]) (fun (z9q : z17) (zdX : z3Q)=>[z7c zdX z9q]) ?_ ?_
   ·skip
    refine WC.block ?_
    refine WC.b ?_
    obtain ⟨zuT,h⟩:=chk_elim h
    refine WC.a ?_
    refine WL.znth (dd:=12) rfl rfl (Z:=Z) (Pr:=(fun r x=>r = e54 x)) elT_23 rfl rfl zuN zuT ?_
    rintro zCd zCe zuU zCf rfl
    refine WL.a (d:=13) rfl rfl rfl (q_loadA (cs:=[(.int .i64 (((nth z1Y z24).fBurst).fN)),(.int .i64 (((nth z1Y z24).fBurst).fD)),(.int .i64 (((nth z1Y z24).fRate).fN)),(.int .i64 (((nth z1Y z24).fRate).fD))]) aggT_54 rfl rfl (rd_zs hz.pv zuU)) ?_
    refine WL.new (dd:=5) rfl rfl rfl (e_alloc (cs:=[(.int .i64 0),(.int .i64 0),(.int .i64 0),(.int .i64 0)]) zeroT_54 rfl) ?_
    intro zpI _
    refine WL.eff0 rfl rfl (e_store (vs:=[(.int .i64 (((nth z1Y z24).fBurst).fN)),(.int .i64 (((nth z1Y z24).fBurst).fD)),(.int .i64 (((nth z1Y z24).fRate).fN)),(.int .i64 (((nth z1Y z24).fRate).fD))]) (ds:=[(.int .i64 (((nth z1Y z24).fBurst).fN)),(.int .i64 (((nth z1Y z24).fBurst).fD)),(.int .i64 (((nth z1Y z24).fRate).fN)),(.int .i64 (((nth z1Y z24).fRate).fD))]) sizT_54 rfl rfl rfl rfl (oc_cons rfl (oc_cons rfl (oc_cons rfl (oc_cons rfl oc_nil)))) .here (Nat.le_of_ble_eq_true rfl) rfl) ?_
    refine WL.nil ?_
    refine WX.a ?_
    refine WC.b ?_
    refine WC.a ?_
    refine WL.a (d:=14) rfl rfl rfl (q_load1 oneT_23 rfl (rd_z hz.pv zuQ rfl)) ?_
    refine WL.a (d:=15) rfl rfl rfl (q_len Tryz.underlying23 rfl) ?_
    refine WL.a (d:=16) rfl rfl rfl (q_m rfl) ?_
    refine WL.nil ?_
    refine WX.a ?_
    obtain ⟨zac,zuV,h⟩:=jp1_elim h
    refine WC.mid2 (fun (z9r : z17) (zdY : z3Q)=>(zac z9r = some r) ∧ (zag zdY z9r)) (fun (z9r : z17) (zdY : z3Q)=>[(0,(.func (.yield zaf) #[] #[])),(2,(.pointer (some zah))),(8,(.slice zcz z1Y.length zcA)),(9,(.int .i64 ((z1Y.length : Nat) : Int))),(10,(.int .i64 z24))]) (fun (z9r : z17) (zdY : z3Q)=>[z7c zdY z9r]) ?_ ?_
    ·skip
     refine WC.block ?_
     refine WC.loop4 (fun (zdZ : Nat) (z2X : Int) (z6Q : z17) (z9s : z3Q)=>(m_curve_pairs_1_L4 z17 z2h z6z z1Y z24 zac zdZ z2X z6Q = some r) ∧ (zag z9s z6Q)) (fun (zdZ : Nat) (z2X : Int) (z6Q : z17) (z9s : z3Q)=>[(0,(.func (.yield zaf) #[] #[])),(2,(.pointer (some zah))),(5,(.pointer (some ⟨zpI,0,none⟩))),(8,(.slice zcz z1Y.length zcA)),(9,(.int .i64 ((z1Y.length : Nat) : Int))),(10,(.int .i64 z24)),(14,(.slice zhf z2h.length zhg)),(15,(.int .i64 ((z2h.length : Nat) : Int))),(16,(.int .i64 z2X))]) (fun (zdZ : Nat) (z2X : Int) (z6Q : z17) (z9s : z3Q)=>[stb zpI 54 [(.int .i64 (((nth z1Y z24).fBurst).fN)),(.int .i64 (((nth z1Y z24).fBurst).fD)),(.int .i64 (((nth z1Y z24).fRate).fN)),(.int .i64 (((nth z1Y z24).fRate).fD))],z7c z9s z6Q]) (fun (zdZ : Nat) (z2X : Int) (z6Q : z17) (z9s : z3Q)=>zdZ) ⟨FUEL,0,z7u,zbl⟩ ⟨h,zpH⟩ (.cons rfl (.cons rfl (.cons rfl (.cons rfl (.cons rfl (.cons rfl (.cons rfl (.cons rfl (.cons rfl .nil))))))))) (.cons .here (.cons .here .nil)) ?_
     rintro zdZ z2X z6Q z9s ⟨h,zpJ⟩
     obtain ⟨zk6,rfl⟩:=m_curve_pairs_1_L4_fuel h
     rw [m_curve_pairs_1_L4] at h
     refine WC.b ?_
     refine WC.a ?_
     refine WL.a (d:=17) rfl rfl rfl (q_lss rfl rfl) ?_
     refine WL.nil ?_
     refine WX.a ?_
     refine WC.b ?_
     refine WC.cond rfl (fun zka=>?_) (fun zka=>?_)
     ·replace h:=ite_t h zka
      refine WC.skip ?_
      refine WX.a ?_
      refine WC.b ?_
      refine WC.block ?_
      refine WC.b ?_
      obtain ⟨zuW,h⟩:=chk_elim h
      refine WC.a ?_
      refine WL.znth (dd:=18) rfl rfl (Z:=Z) (Pr:=(fun r x=>r = e54 x)) elT_23 rfl rfl zuP zuW ?_
      rintro zCg zCh zuX zCi rfl
      refine WL.a (d:=19) rfl rfl rfl (q_loadA (cs:=[(.int .i64 (((nth z2h z2X).fBurst).fN)),(.int .i64 (((nth z2h z2X).fBurst).fD)),(.int .i64 (((nth z2h z2X).fRate).fN)),(.int .i64 (((nth z2h z2X).fRate).fD))]) aggT_54 rfl rfl (rd_zs hz.pv zuX)) ?_
      refine WL.new (dd:=7) rfl rfl rfl (e_alloc (cs:=[(.int .i64 0),(.int .i64 0),(.int .i64 0),(.int .i64 0)]) zeroT_54 rfl) ?_
      intro zCj _
      refine WL.eff0 rfl rfl (e_store (vs:=[(.int .i64 (((nth z2h z2X).fBurst).fN)),(.int .i64 (((nth z2h z2X).fBurst).fD)),(.int .i64 (((nth z2h z2X).fRate).fN)),(.int .i64 (((nth z2h z2X).fRate).fD))]) (ds:=[(.int .i64 (((nth z2h z2X).fBurst).fN)),(.int .i64 (((nth z2h z2X).fBurst).fD)),(.int .i64 (((nth z2h z2X).fRate).fN)),(.int .i64 (((nth z2h z2X).fRate).fD))]) sizT_54 rfl rfl rfl rfl (oc_cons rfl (oc_cons rfl (oc_cons rfl (oc_cons rfl oc_nil)))) .here (Nat.le_of_ble_eq_true rfl) rfl) ?_
      refine WL.nil ?_
      refine WX.a ?_
      refine WC.b ?_
      obtain ⟨zcy,zuY,h⟩:=z8 h
      refine WC.a ?_
      refine WL.a (d:=20) rfl rfl rfl (q_m rfl) ?_
      refine WL.a (d:=21) rfl rfl rfl (q_loadA (cs:=[(.int .i64 (((nth z1Y z24).fBurst).fN)),(.int .i64 (((nth z1Y z24).fBurst).fD)),(.int .i64 (((nth z1Y z24).fRate).fN)),(.int .i64 (((nth z1Y z24).fRate).fD))]) aggT_54 rfl rfl (rd_all .h1)) ?_
      refine WL.a (d:=22) rfl rfl rfl (q_loadA (cs:=[(.int .i64 (((nth z2h z2X).fBurst).fN)),(.int .i64 (((nth z2h z2X).fBurst).fD)),(.int .i64 (((nth z2h z2X).fRate).fN)),(.int .i64 (((nth z2h z2X).fRate).fD))]) aggT_54 rfl rfl (rd_all .here)) ?_
      refine WL.yield (dd:=23) (x:=((⟨(⟨(((nth z1Y z24).fBurst).fN),(((nth z1Y z24).fBurst).fD)⟩ : z2),(⟨(((nth z1Y z24).fRate).fN),(((nth z1Y z24).fRate).fD)⟩ : z2)⟩ : z1),(⟨(⟨(((nth z2h z2X).fBurst).fN),(((nth z2h z2X).fBurst).fD)⟩ : z2),(⟨(((nth z2h z2X).fRate).fN),(((nth z2h z2X).fRate).fD)⟩ : z2)⟩ : z1))) (h:=()) (g:=z9s) (s:=z6Q) (b:=zcy.1) (s':=zcy.2) zuL rfl rfl rfl (.cons rfl (.cons rfl .nil)) ((.cons .h2 .nil) : Sel _ [z7c z9s z6Q] _) zuY zpJ (fun w hw=>hz.call hw ((.cons .h2 .nil) : Sel _ [z7c z9s z6Q] _)) ?_
      intro zpK zpL
      refine WL.a (d:=24) rfl rfl rfl (q_not rfl) ?_
      refine WL.nil ?_
      refine WX.a ?_
      refine WC.cond rfl (fun zkb=>?_) (fun zkb=>?_)
      ·replace h:=ite_t h zkb
       refine WC.ret ?_
       refine WX.blockRet ?_
       refine WX.thenRet ?_
       refine WX.thenRet ?_
       refine WX.blockRet ?_
       refine WX.thenRet ?_
       refine WX.blockRet ?_
       refine WX.thenRet ?_
       refine WX.thenRet ?_
       refine WX.blockRet ?_
       refine WX.thenRet ?_
       obtain rfl:=Option.some.inj h
       refine WX.bpRet Tryz.results96 .nil (fun w hw=>?_)
       exact ⟨zpK,ret0,zpL,hw.sub (.cons .here .nil)⟩
      ·replace h:=ite_f h zkb
       refine WC.skip ?_
       refine WX.blockNormal ?_
       refine WX.a ?_
       refine WC.a ?_
       refine WL.a (d:=25) rfl rfl rfl (q_add rfl rfl rfl) ?_
       refine WL.a (d:=16) rfl rfl rfl (q_m rfl) ?_
       refine WL.nil ?_
       exact WX.round (G:=Nat × Int × z17 × z3Q) ⟨zk6,(i64 (z2X + 1)),zcy.2,zpK⟩ ⟨h,zpL⟩ (Nat.lt_succ_self _) (.cons rfl (.cons rfl (.cons rfl (.cons rfl (.cons rfl (.cons rfl (.cons rfl (.cons rfl (.cons rfl .nil))))))))) (.cons .h2 (.cons .here .nil))
     ·replace h:=ite_f h zka
      refine WC.exit ?_
      refine WX.thenExit ?_
      refine WX.thenExit ?_
      refine WX.blockHit ?_
      exact WX.mid (G:=z17 × z3Q) ⟨z6Q,z9s⟩ ⟨h,zpJ⟩ (.cons rfl (.cons rfl (.cons rfl (.cons rfl (.cons rfl .nil))))) (.cons .h1 .nil)
    ·rintro z9r zdY ⟨h,zuZ⟩
     replace h:=(zuV z9r).symm.trans h
     refine WX.blockNormal ?_
     exact WX.mid (G:=z17 × z3Q) ⟨z9r,zdY⟩ ⟨h,zuZ⟩ (.cons rfl (.cons rfl (.cons rfl (.cons rfl (.cons rfl .nil))))) (.cons .here .nil)
   ·rintro z9q zdX ⟨h,zv0⟩
    replace h:=(zuS z9q).symm.trans h
    refine WC.a ?_
    refine WL.a (d:=26) rfl rfl rfl (q_add rfl rfl rfl) ?_
    refine WL.a (d:=10) rfl rfl rfl (q_m rfl) ?_
    refine WL.nil ?_
    exact WX.round (G:=Nat × Int × z17 × z3Q) ⟨zk7,(i64 (z24 + 1)),z9q,zdX⟩ ⟨h,zv0⟩ (Nat.lt_succ_self _) (.cons rfl (.cons rfl (.cons rfl (.cons rfl (.cons rfl .nil))))) (.cons .here .nil)
  ·replace h:=ite_f h zk9
   refine WC.exit ?_
   refine WX.thenExit ?_
   refine WX.thenExit ?_
   refine WX.blockHit ?_
   exact WX.mid (G:=z17 × z3Q) ⟨z7u,zbl⟩ ⟨h,zpH⟩ .nil (.cons .here .nil)
 ·rintro zae zdV ⟨h,zv1⟩
  replace h:=(zuR zae).symm.trans h
  obtain rfl:=Option.some.inj h
  refine WX.bpNormal Tryz.results96 .nil (fun w hw=>?_)
  exact ⟨zdV,ret0,zv1,hw.sub (.cons .here .nil)⟩
def m_rat_do_2 (zbm : z2) (zbn : z2) : Option (Int × Int) :=
 some ((i64 ((i64 (zbm.fN * zbn.fD)) - (i64 (zbn.fN * zbm.fD)))),(i64 (zbm.fD * zbn.fD)))
set_option maxRecDepth 20000 in
theorem w_rat_do_2 (Z : Zp)  (zfm : Addr) (zfn : Addr) (zbm : z2) (zbn : z2) (r : Int × Int) (w₀ : World) (hz : PZ [] w₀ Z)
  (zkc : ZC Z zfm [(.int .i64 zbm.fN),(.int .i64 zbm.fD)])
  (zkd : ZC Z zfn [(.int .i64 zbn.fN),(.int .i64 zbn.fD)])
  (h : m_rat_do_2 zbm zbn = some r) :
  Calls Tryz.prog 70 #[(.pointer (some zfm)),(.pointer (some zfn))] w₀ fun e w'=>e = .returned (.tuple #[(.int .i64 r.1),(.int .i64 r.2)]) ∧ Hp [] w₀ w' []:=by
 unfold m_rat_do_2 at h
 refine Calls.ofWC (vs:=[(.pointer (some zfm)),(.pointer (some zfn))]) (pre:=[]) (env:=[(0,(.pointer (some zfm))),(1,(.pointer (some zfn)))]) Tryz.func70 rfl Tryz.ntmps70 rfl (Hp.nil w₀ _) rfl ?_
 refine WC.b ?_
 refine WC.a ?_
 refine WL.a (d:=2) rfl rfl rfl (q_z rfl) ?_
 refine WL.a (d:=3) rfl rfl rfl (q_z rfl) ?_
 refine WL.nil ?_
 refine WX.a ?_
 refine WC.b ?_
 refine WC.draw (fun i=>[].contains i) [] rfl ?_
 refine WD.a (i:=0) (d:=4) (by kernel_rfl) rfl (z6 (by kernel_rfl)) (z7 (by kernel_rfl)) rfl rfl rfl (fun _=>q_fieldAddr fo_40_0 rfl rfl) ?_
 refine WD.e (i:=1) (d:=5) (by kernel_rfl) rfl (z6 (by kernel_rfl)) (z7 (by kernel_rfl)) rfl rfl rfl (q_load1 oneT_3 rfl (rd_zAt hz.pv zkc rfl)) ?_
 refine WD.a (i:=2) (d:=6) (by kernel_rfl) rfl (z6 (by kernel_rfl)) (z7 (by kernel_rfl)) rfl rfl rfl (fun _=>q_fieldAddr fo_40_1 rfl rfl) ?_
 refine WD.e (i:=3) (d:=7) (by kernel_rfl) rfl (z6 (by kernel_rfl)) (z7 (by kernel_rfl)) rfl rfl rfl (q_load1 oneT_3 rfl (rd_zAt hz.pv zkd rfl)) ?_
 refine WD.a (i:=4) (d:=8) (by kernel_rfl) rfl (z6 (by kernel_rfl)) (z7 (by kernel_rfl)) rfl rfl rfl (fun _=>q_mul rfl rfl rfl) ?_
 refine WD.a (i:=5) (d:=9) (by kernel_rfl) rfl (z6 (by kernel_rfl)) (z7 (by kernel_rfl)) rfl rfl rfl (fun _=>q_fieldAddr fo_40_0 rfl rfl) ?_
 refine WD.e (i:=6) (d:=10) (by kernel_rfl) rfl (z6 (by kernel_rfl)) (z7 (by kernel_rfl)) rfl rfl rfl (q_load1 oneT_3 rfl (rd_zAt hz.pv zkd rfl)) ?_
 refine WD.a (i:=7) (d:=11) (by kernel_rfl) rfl (z6 (by kernel_rfl)) (z7 (by kernel_rfl)) rfl rfl rfl (fun _=>q_fieldAddr fo_40_1 rfl rfl) ?_
 refine WD.e (i:=8) (d:=12) (by kernel_rfl) rfl (z6 (by kernel_rfl)) (z7 (by kernel_rfl)) rfl rfl rfl (q_load1 oneT_3 rfl (rd_zAt hz.pv zkc rfl)) ?_
 refine WD.a (i:=9) (d:=13) (by kernel_rfl) rfl (z6 (by kernel_rfl)) (z7 (by kernel_rfl)) rfl rfl rfl (fun _=>q_mul rfl rfl rfl) ?_
 refine WD.a (i:=10) (d:=14) (by kernel_rfl) rfl (z6 (by kernel_rfl)) (z7 (by kernel_rfl)) rfl rfl rfl (fun _=>q_sub rfl rfl rfl) ?_
 refine WD.a (i:=11) (d:=15) (by kernel_rfl) rfl (z6 (by kernel_rfl)) (z7 (by kernel_rfl)) rfl rfl rfl (fun _=>q_fieldAddr fo_40_1 rfl rfl) ?_
 refine WD.e (i:=12) (d:=16) (by kernel_rfl) rfl (z6 (by kernel_rfl)) (z7 (by kernel_rfl)) rfl rfl rfl (q_load1 oneT_3 rfl (rd_zAt hz.pv zkc rfl)) ?_
 refine WD.a (i:=13) (d:=17) (by kernel_rfl) rfl (z6 (by kernel_rfl)) (z7 (by kernel_rfl)) rfl rfl rfl (fun _=>q_fieldAddr fo_40_1 rfl rfl) ?_
 refine WD.e (i:=14) (d:=18) (by kernel_rfl) rfl (z6 (by kernel_rfl)) (z7 (by kernel_rfl)) rfl rfl rfl (q_load1 oneT_3 rfl (rd_zAt hz.pv zkd rfl)) ?_
 refine WD.a (i:=15) (d:=19) (by kernel_rfl) rfl (z6 (by kernel_rfl)) (z7 (by kernel_rfl)) rfl rfl rfl (fun _=>q_mul rfl rfl rfl) ?_
 refine WD.a (i:=16) (d:=2) (by kernel_rfl) rfl (z6 (by kernel_rfl)) (z7 (by kernel_rfl)) rfl rfl rfl (fun _=>q_z rfl) ?_
 refine WD.a (i:=17) (d:=3) (by kernel_rfl) rfl (z6 (by kernel_rfl)) (z7 (by kernel_rfl)) rfl rfl rfl (fun _=>q_z rfl) ?_
 refine WD.done (by kernel_rfl) ?_
 refine WX.a ?_
 refine WC.ret ?_
 obtain rfl:=Option.some.inj h
 refine WX.bpRet Tryz.results70 (.tmp rfl (.tmp rfl .nil)) (fun w hw=>?_)
 exact ⟨ret2 rfl rfl,hw.sub .nil⟩
def m_rat_Make (z7R : Int) (z7v : Int) : Option (z2 × Int) :=
 if decide (z7v = 0) then some ((⟨0,0⟩ : z2),2) else (m_rat_size z7R).bind fun z6A=>(m_rat_size z7v).bind fun z6R=>(m_rat_gcd_uint64 z6A z6R).bind fun z3R=>chk ((z3R : Int) ≠ 0) (if (decide ((u64 (Int.tdiv z6A z3R)) > 1073741824)) || (decide ((u64 (Int.tdiv z6R z3R)) > 1073741824)) then some ((⟨0,0⟩ : z2),3) else jp1 (fun (z8X : Int)=>some ((⟨z8X,i64 (u64 (Int.tdiv z6R z3R))⟩ : z2),0)) fun zhh=>if (decide (z7R < 0)) != (decide (z7v < 0)) then zhh (i64 (0 - (i64 (u64 (Int.tdiv z6A z3R))))) else zhh (i64 (u64 (Int.tdiv z6A z3R))))
set_option maxRecDepth 20000 in
theorem w_rat_Make (Z : Zp)   (z7R : Int) (z7v : Int) (r : z2 × Int) (w₀ : World) (hz : PZ [] w₀ Z)
  (h : m_rat_Make z7R z7v = some r) :
  Calls Tryz.prog 73 #[(.int .i64 z7R),(.int .i64 z7v)] w₀ fun e w'=>e = .returned (.tuple #[(.agg #[(.int .i64 r.1.fN),(.int .i64 r.1.fD)]),(.int .i64 r.2)]) ∧ Hp [] w₀ w' []:=by
 unfold m_rat_Make at h
 refine Calls.ofWC (vs:=[(.int .i64 z7R),(.int .i64 z7v)]) (pre:=[]) (env:=[(0,(.int .i64 z7R)),(1,(.int .i64 z7v))]) Tryz.func73 rfl Tryz.ntmps73 rfl (Hp.nil w₀ _) rfl ?_
 refine WC.b ?_
 refine WC.a ?_
 refine WL.new (dd:=4) rfl rfl rfl (e_alloc (cs:=[(.int .i64 0),(.int .i64 0)]) zeroT_40 rfl) ?_
 intro z6S _
 refine WL.a (d:=5) rfl rfl rfl (q_z rfl) ?_
 refine WL.nil ?_
 refine WX.a ?_
 refine WC.b ?_
 refine WC.b ?_
 refine WC.a ?_
 refine WL.a (d:=10) rfl rfl rfl (q_m rfl) ?_
 refine WL.a (d:=11) rfl rfl rfl (q_eql rfl rfl) ?_
 refine WL.nil ?_
 refine WX.a ?_
 refine WC.cond rfl (fun zke=>?_) (fun zke=>?_)
 ·replace h:=ite_t h zke
  refine WC.b ?_
  refine WC.a ?_
  refine WL.a (d:=12) rfl rfl rfl (q_build (v:=(.agg #[(.int .i64 0),(.int .i64 0)])) (Eos.parts (l:=[]) .nil []) (fun _=>by kernel_rfl)) ?_
  refine WL.eff0 rfl rfl (e_store (vs:=[(.int .i64 0),(.int .i64 0)]) (ds:=[(.int .i64 0),(.int .i64 0)]) sizT_40 rfl rfl rfl rfl (oc_cons rfl (oc_cons rfl oc_nil)) .here (Nat.le_of_ble_eq_true rfl) rfl) ?_
  refine WL.a (d:=5) rfl rfl rfl (q_z rfl) ?_
  refine WL.nil ?_
  refine WX.a ?_
  refine WC.ret ?_
  refine WX.thenRet ?_
  obtain rfl:=Option.some.inj h
  refine WX.bpRet Tryz.results73 (.agg rfl aggT_40 rfl (rd_all .here) (.tmp rfl .nil)) (fun w hw=>?_)
  exact ⟨ret2 rfl rfl,hw.sub .nil⟩
 ·replace h:=ite_f h zke
  refine WC.skip ?_
  refine WX.a ?_
  refine WC.b ?_
  obtain ⟨z6A,zv2,h⟩:=z8 h
  obtain ⟨z6R,zv3,h⟩:=z8 h
  refine WC.a ?_
  refine WL.a (d:=13) rfl rfl rfl (q_m rfl) ?_
  refine WL.b (dd:=14) rfl rfl rfl (zi (l:=[.tmp 13]) Tryz.call63 (.cons rfl .nil)) (.nil : Sel [stb z6S 40 [(.int .i64 0),(.int .i64 0)]] [] [stb z6S 40 [(.int .i64 0),(.int .i64 0)]]) (fun w hw=>by have pz:=(hz.call hw (.nil : Sel [stb z6S 40 [(.int .i64 0),(.int .i64 0)]] [] [stb z6S 40 [(.int .i64 0),(.int .i64 0)]])); exact w_rat_size (Z:=_)  (z8c:=z7R) (r:=z6A) w pz  zv2) ?_
  refine WL.a (d:=15) rfl rfl rfl (q_m rfl) ?_
  refine WL.b (dd:=16) rfl rfl rfl (zi (l:=[.tmp 15]) Tryz.call63 (.cons rfl .nil)) (.nil : Sel [stb z6S 40 [(.int .i64 0),(.int .i64 0)]] [] [stb z6S 40 [(.int .i64 0),(.int .i64 0)]]) (fun w hw=>by have pz:=(hz.call hw (.nil : Sel [stb z6S 40 [(.int .i64 0),(.int .i64 0)]] [] [stb z6S 40 [(.int .i64 0),(.int .i64 0)]])); exact w_rat_size (Z:=_)  (z8c:=z7v) (r:=z6R) w pz  zv3) ?_
  refine WL.a (d:=6) rfl rfl rfl (q_z rfl) ?_
  refine WL.a (d:=7) rfl rfl rfl (q_z rfl) ?_
  refine WL.nil ?_
  refine WX.a ?_
  refine WC.b ?_
  obtain ⟨z3R,zv4,h⟩:=z8 h
  refine WC.a ?_
  refine WL.a (d:=17) rfl rfl rfl (q_m rfl) ?_
  refine WL.a (d:=18) rfl rfl rfl (q_m rfl) ?_
  refine WL.b (dd:=19) rfl rfl rfl (zi (l:=[.tmp 17,.tmp 18]) Tryz.call62 (.cons rfl (.cons rfl .nil))) (.nil : Sel [stb z6S 40 [(.int .i64 0),(.int .i64 0)]] [] [stb z6S 40 [(.int .i64 0),(.int .i64 0)]]) (fun w hw=>by have pz:=(hz.call hw (.nil : Sel [stb z6S 40 [(.int .i64 0),(.int .i64 0)]] [] [stb z6S 40 [(.int .i64 0),(.int .i64 0)]])); exact w_rat_gcd_uint64 (Z:=_)  (z9V:=z6A) (z9W:=z6R) (r:=z3R) w pz  zv4) ?_
  refine WL.a (d:=8) rfl rfl rfl (q_z rfl) ?_
  refine WL.nil ?_
  refine WX.a ?_
  refine WC.b ?_
  obtain ⟨zpM,h⟩:=chk_elim h
  refine WC.draw (fun i=>[].contains i) [] rfl ?_
  refine WD.a (i:=0) (d:=20) (by kernel_rfl) rfl (z6 (by kernel_rfl)) (z7 (by kernel_rfl)) rfl rfl rfl (fun _=>q_m rfl) ?_
  refine WD.a (i:=1) (d:=21) (by kernel_rfl) rfl (z6 (by kernel_rfl)) (z7 (by kernel_rfl)) rfl rfl rfl (fun _=>q_m rfl) ?_
  refine WD.a (i:=2) (d:=22) (by kernel_rfl) rfl (z6 (by kernel_rfl)) (z7 (by kernel_rfl)) rfl rfl rfl (fun _=>q_quo rfl rfl zpM rfl) ?_
  refine WD.a (i:=3) (d:=23) (by kernel_rfl) rfl (z6 (by kernel_rfl)) (z7 (by kernel_rfl)) rfl rfl rfl (fun _=>q_m rfl) ?_
  refine WD.a (i:=4) (d:=24) (by kernel_rfl) rfl (z6 (by kernel_rfl)) (z7 (by kernel_rfl)) rfl rfl rfl (fun _=>q_m rfl) ?_
  refine WD.a (i:=5) (d:=25) (by kernel_rfl) rfl (z6 (by kernel_rfl)) (z7 (by kernel_rfl)) rfl rfl rfl (fun _=>q_quo rfl rfl zpM rfl) ?_
  refine WD.a (i:=6) (d:=6) (by kernel_rfl) rfl (z6 (by kernel_rfl)) (z7 (by kernel_rfl)) rfl rfl rfl (fun _=>q_z rfl) ?_
  refine WD.a (i:=7) (d:=7) (by kernel_rfl) rfl (z6 (by kernel_rfl)) (z7 (by kernel_rfl)) rfl rfl rfl (fun _=>q_z rfl) ?_
  refine WD.done (by kernel_rfl) ?_
  refine WX.a ?_
  refine WC.b ?_
  refine WC.b ?_
  refine WC.a ?_
  refine WL.a (d:=26) rfl rfl rfl (q_m rfl) ?_
  refine WL.a (d:=27) rfl rfl rfl (q_gtr rfl rfl) ?_
  refine WL.a (d:=28) rfl rfl rfl (q_m rfl) ?_
  refine WL.cut0 True [(0,(.int .i64 z7R)),(1,(.int .i64 z7v)),(4,(.pointer (some ⟨z6S,0,none⟩))),(6,(.int .u64 (u64 (Int.tdiv z6A z3R)))),(7,(.int .u64 (u64 (Int.tdiv z6R z3R)))),(31,(.bool ((decide ((u64 (Int.tdiv z6A z3R)) > 1073741824)) || (decide ((u64 (Int.tdiv z6R z3R)) > 1073741824)))))] [stb z6S 40 [(.int .i64 0),(.int .i64 0)]] 3 ?_ (fun _=>?_)
  ·rcases Bool.eq_false_or_eq_true (decide ((u64 (Int.tdiv z6A z3R)) > 1073741824)) with hb' | hb'
   ·have zpN:=hb'; clear hb'
    refine WL.pin (i:=28) rfl zpN ?_
    refine WL.e rfl rfl rfl ?_
    refine WL.e rfl rfl rfl ?_
    refine WL.a (d:=31) rfl rfl rfl (q_pickT rfl rfl) ?_
    exact WL.cutEnd () trivial (.cons rfl (.cons rfl (.cons rfl (.cons rfl (.cons rfl (.cons (zf (or_l zpN)) .nil)))))) (.cons .here .nil)
   ·have zpO:=hb'; clear hb'
    refine WL.pin (i:=28) rfl zpO ?_
    refine WL.a (d:=29) rfl rfl rfl (q_m rfl) ?_
    refine WL.a (d:=30) rfl rfl rfl (q_gtr rfl rfl) ?_
    refine WL.a (d:=31) rfl rfl rfl (q_pickF rfl rfl) ?_
    exact WL.cutEnd () trivial (.cons rfl (.cons rfl (.cons rfl (.cons rfl (.cons rfl (.cons (zf (or_r zpO)) .nil)))))) (.cons .here .nil)
  ·skip
   refine WL.nil ?_
   refine WX.a ?_
   refine WC.cond rfl (fun zkf=>?_) (fun zkf=>?_)
   ·replace h:=ite_t h zkf
    refine WC.b ?_
    refine WC.a ?_
    refine WL.a (d:=32) rfl rfl rfl (q_build (v:=(.agg #[(.int .i64 0),(.int .i64 0)])) (Eos.parts (l:=[]) .nil []) (fun _=>by kernel_rfl)) ?_
    refine WL.eff0 rfl rfl (e_store (vs:=[(.int .i64 0),(.int .i64 0)]) (ds:=[(.int .i64 0),(.int .i64 0)]) sizT_40 rfl rfl rfl rfl (oc_cons rfl (oc_cons rfl oc_nil)) .here (Nat.le_of_ble_eq_true rfl) rfl) ?_
    refine WL.a (d:=5) rfl rfl rfl (q_z rfl) ?_
    refine WL.nil ?_
    refine WX.a ?_
    refine WC.ret ?_
    refine WX.thenRet ?_
    obtain rfl:=Option.some.inj h
    refine WX.bpRet Tryz.results73 (.agg rfl aggT_40 rfl (rd_all .here) (.tmp rfl .nil)) (fun w hw=>?_)
    exact ⟨ret2 rfl rfl,hw.sub .nil⟩
   ·replace h:=ite_f h zkf
    refine WC.skip ?_
    refine WX.a ?_
    refine WC.b ?_
    refine WC.a ?_
    refine WL.a (d:=33) rfl rfl rfl (q_m rfl) ?_
    refine WL.a (d:=34) rfl rfl rfl (q_conv Tryz.underlying99 Tryz.underlying3 rfl rfl) ?_
    refine WL.a (d:=35) rfl rfl rfl (q_m rfl) ?_
    refine WL.a (d:=36) rfl rfl rfl (q_conv Tryz.underlying99 Tryz.underlying3 rfl rfl) ?_
    refine WL.a (d:=37) rfl rfl rfl (q_build (v:=(.agg #[(.int .i64 (i64 (u64 (Int.tdiv z6A z3R)))),(.int .i64 (i64 (u64 (Int.tdiv z6R z3R))))])) (Eos.parts (l:=[.tmp 34,.tmp 36]) (.cons rfl (.cons rfl .nil)) [0,1]) (fun _=>by kernel_rfl)) ?_
    refine WL.new (dd:=9) rfl rfl rfl (e_alloc (cs:=[(.int .i64 0),(.int .i64 0)]) zeroT_40 rfl) ?_
    intro zpP _
    refine WL.eff0 rfl rfl (e_store (vs:=[(.int .i64 (i64 (u64 (Int.tdiv z6A z3R)))),(.int .i64 (i64 (u64 (Int.tdiv z6R z3R))))]) (ds:=[(.int .i64 (i64 (u64 (Int.tdiv z6A z3R)))),(.int .i64 (i64 (u64 (Int.tdiv z6R z3R))))]) sizT_40 rfl rfl rfl rfl (oc_cons rfl (oc_cons rfl oc_nil)) .here (Nat.le_of_ble_eq_true rfl) rfl) ?_
    refine WL.nil ?_
    refine WX.a ?_
    obtain ⟨zhh,zv5,h⟩:=jp1_elim h
    refine WC.seqMid1 (fun (z8X : Int)=>(zhh z8X = some r)) (fun (z8X : Int)=>[(4,(.pointer (some ⟨z6S,0,none⟩))),(9,(.pointer (some ⟨zpP,0,none⟩)))]) (fun (z8X : Int)=>[stb z6S 40 [(.int .i64 0),(.int .i64 0)],stb zpP 40 [(.int .i64 z8X),(.int .i64 (i64 (u64 (Int.tdiv z6R z3R))))]]) ?_ ?_
    ·skip
     refine WC.b ?_
     refine WC.a ?_
     refine WL.a (d:=38) rfl rfl rfl (q_m rfl) ?_
     refine WL.a (d:=39) rfl rfl rfl (q_lss rfl rfl) ?_
     refine WL.a (d:=40) rfl rfl rfl (q_m rfl) ?_
     refine WL.a (d:=41) rfl rfl rfl (q_lss rfl rfl) ?_
     refine WL.a (d:=42) rfl rfl rfl (q_bneq Tryz.underlying4 rfl rfl) ?_
     refine WL.nil ?_
     refine WX.a ?_
     refine WC.cond rfl (fun zkg=>?_) (fun zkg=>?_)
     ·replace h:=ite_t h zkg
      refine WC.a ?_
      refine WL.a (d:=43) rfl rfl rfl (q_fieldAddr fo_40_0 rfl rfl) ?_
      refine WL.a (d:=44) rfl rfl rfl (q_load1 oneT_3 rfl (rd_stb .here rfl)) ?_
      refine WL.a (d:=45) rfl rfl rfl (q_neg rfl rfl) ?_
      refine WL.a (d:=46) rfl rfl rfl (q_fieldAddr fo_40_0 rfl rfl) ?_
      refine WL.eff0 rfl rfl (e_store (vs:=[(.int .i64 (i64 (0 - (i64 (u64 (Int.tdiv z6A z3R))))))]) (ds:=[(.int .i64 (i64 (0 - (i64 (u64 (Int.tdiv z6A z3R)))))),(.int .i64 (i64 (u64 (Int.tdiv z6R z3R))))]) sizT_3 rfl rfl rfl rfl (oc_cons rfl oc_nil) .here (Nat.le_of_ble_eq_true rfl) rfl) ?_
      refine WL.nil ?_
      exact WX.mid (G:=Int) (i64 (0 - (i64 (u64 (Int.tdiv z6A z3R))))) h (.cons rfl (.cons rfl .nil)) (.cons .h1 (.cons .here .nil))
     ·replace h:=ite_f h zkg
      refine WC.skip ?_
      exact WX.mid (G:=Int) (i64 (u64 (Int.tdiv z6A z3R))) h (.cons rfl (.cons rfl .nil)) (.cons .h1 (.cons .here .nil))
    ·rintro z8X h
     replace h:=(zv5 z8X).symm.trans h
     refine WC.b ?_
     refine WC.a ?_
     refine WL.a (d:=47) rfl rfl rfl (q_loadA (cs:=[(.int .i64 z8X),(.int .i64 (i64 (u64 (Int.tdiv z6R z3R))))]) aggT_40 rfl rfl (rd_all .h1)) ?_
     refine WL.eff0 rfl rfl (e_store (vs:=[(.int .i64 z8X),(.int .i64 (i64 (u64 (Int.tdiv z6R z3R))))]) (ds:=[(.int .i64 z8X),(.int .i64 (i64 (u64 (Int.tdiv z6R z3R))))]) sizT_40 rfl rfl rfl rfl (oc_cons rfl (oc_cons rfl oc_nil)) .here (Nat.le_of_ble_eq_true rfl) rfl) ?_
     refine WL.a (d:=5) rfl rfl rfl (q_z rfl) ?_
     refine WL.nil ?_
     refine WX.a ?_
     refine WC.ret ?_
     obtain rfl:=Option.some.inj h
     refine WX.bpRet Tryz.results73 (.agg rfl aggT_40 rfl (rd_all .here) (.tmp rfl .nil)) (fun w hw=>?_)
     exact ⟨ret2 rfl rfl,hw.sub .nil⟩
def m_rat_do (zY : z2) (zZ : z2) : Option (z2 × Int) :=
 (m_rat_Valid zY).bind fun zhi=>(if !zhi then some true else (m_rat_Valid zZ).bind fun zkh=>some (!zkh)).bind fun zfo=>if zfo then some ((⟨0,0⟩ : z2),2) else (m_rat_do_2 zY zZ).bind fun ze0=>(m_rat_Make ze0.1 ze0.2).bind fun zbo=>some (zbo.1,zbo.2)
set_option maxRecDepth 20000 in
theorem w_rat_do (Z : Zp)   (zY : z2) (zZ : z2) (r : z2 × Int) (w₀ : World) (hz : PZ [] w₀ Z)
  (h : m_rat_do zY zZ = some r) :
  Calls Tryz.prog 53 #[(.string ⟨#[45]⟩),(.agg #[(.int .i64 zY.fN),(.int .i64 zY.fD)]),(.agg #[(.int .i64 zZ.fN),(.int .i64 zZ.fD)])] w₀ fun e w'=>e = .returned (.tuple #[(.agg #[(.int .i64 r.1.fN),(.int .i64 r.1.fD)]),(.int .i64 r.2)]) ∧ Hp [] w₀ w' []:=by
 unfold m_rat_do at h
 refine Calls.ofWC (vs:=[(.string ⟨#[45]⟩),(.agg #[(.int .i64 zY.fN),(.int .i64 zY.fD)]),(.agg #[(.int .i64 zZ.fN),(.int .i64 zZ.fD)])]) (pre:=[]) (env:=[(0,(.string ⟨#[45]⟩)),(1,(.agg #[(.int .i64 zY.fN),(.int .i64 zY.fD)])),(2,(.agg #[(.int .i64 zZ.fN),(.int .i64 zZ.fD)]))]) Tryz.func53 rfl Tryz.ntmps53 rfl (Hp.nil w₀ _) rfl ?_
 refine WC.b ?_
 refine WC.a ?_
 refine WL.new (dd:=4) rfl rfl rfl (e_box (cs:=[(.int .i64 zY.fN),(.int .i64 zY.fD)]) rfl rfl) ?_
 intro zA _
 refine WL.new (dd:=5) rfl rfl rfl (e_box (cs:=[(.int .i64 zZ.fN),(.int .i64 zZ.fD)]) rfl rfl) ?_
 intro zB _
 refine WL.new (dd:=6) rfl rfl rfl (e_alloc (cs:=[(.int .i64 0),(.int .i64 0)]) zeroT_40 rfl) ?_
 intro z4g _
 refine WL.a (d:=7) rfl rfl rfl (q_z rfl) ?_
 refine WL.nil ?_
 refine WX.a ?_
 refine WC.b ?_
 refine WC.b ?_
 obtain ⟨zhi,zv6,h⟩:=z8 h
 obtain ⟨zfo,zpQ,h⟩:=z8 h
 refine WC.a ?_
 refine WL.a (d:=9) rfl rfl rfl (q_loadA (cs:=[(.int .i64 zY.fN),(.int .i64 zY.fD)]) aggT_40 rfl rfl (rd_all .h2)) ?_
 refine WL.b (dd:=10) rfl rfl rfl (zi (l:=[.tmp 9]) Tryz.call44 (.cons rfl .nil)) (.nil : Sel [stb z4g 40 [(.int .i64 0),(.int .i64 0)],stb zB 40 [(.int .i64 zZ.fN),(.int .i64 zZ.fD)],stb zA 40 [(.int .i64 zY.fN),(.int .i64 zY.fD)]] [] [stb z4g 40 [(.int .i64 0),(.int .i64 0)],stb zB 40 [(.int .i64 zZ.fN),(.int .i64 zZ.fD)],stb zA 40 [(.int .i64 zY.fN),(.int .i64 zY.fD)]]) (fun w hw=>by have pz:=(hz.call hw (.nil : Sel [stb z4g 40 [(.int .i64 0),(.int .i64 0)],stb zB 40 [(.int .i64 zZ.fN),(.int .i64 zZ.fD)],stb zA 40 [(.int .i64 zY.fN),(.int .i64 zY.fD)]] [] [stb z4g 40 [(.int .i64 0),(.int .i64 0)],stb zB 40 [(.int .i64 zZ.fN),(.int .i64 zZ.fD)],stb zA 40 [(.int .i64 zY.fN),(.int .i64 zY.fD)]])); exact w_rat_Valid (Z:=_)  (z18:=zY) (r:=zhi) w pz  zv6) ?_
 refine WL.a (d:=11) rfl rfl rfl (q_not rfl) ?_
 refine WL.a (d:=12) rfl rfl rfl (q_m rfl) ?_
 refine WL.cut0 True [(0,(.string ⟨#[45]⟩)),(4,(.pointer (some ⟨zA,0,none⟩))),(5,(.pointer (some ⟨zB,0,none⟩))),(6,(.pointer (some ⟨z4g,0,none⟩))),(16,(.bool zfo))] [stb z4g 40 [(.int .i64 0),(.int .i64 0)],stb zB 40 [(.int .i64 zZ.fN),(.int .i64 zZ.fD)],stb zA 40 [(.int .i64 zY.fN),(.int .i64 zY.fD)]] 4 ?_ (fun _=>?_)
 ·rcases Bool.eq_false_or_eq_true (!zhi) with hb' | hb'
  ·have zpR:=hb'; clear hb'
   have zki:=ite_t zpQ zpR
   replace zki:=Option.some.inj zki
   refine WL.pin (i:=12) rfl zpR ?_
   refine WL.e rfl rfl rfl ?_
   refine WL.e rfl rfl rfl ?_
   refine WL.e rfl rfl rfl ?_
   refine WL.a (d:=16) rfl rfl rfl (q_pickT rfl rfl) ?_
   exact WL.cutEnd () trivial (.cons rfl (.cons rfl (.cons rfl (.cons rfl (.cons (zf zki) .nil))))) (.cons .here (.cons .here (.cons .here .nil)))
  ·have zpS:=hb'; clear hb'
   have zfp:=ite_f zpQ zpS
   obtain ⟨zkh,zv7,zfp⟩:=z8 zfp
   replace zfp:=Option.some.inj zfp
   refine WL.pin (i:=12) rfl zpS ?_
   refine WL.a (d:=13) rfl rfl rfl (q_loadA (cs:=[(.int .i64 zZ.fN),(.int .i64 zZ.fD)]) aggT_40 rfl rfl (rd_all .h1)) ?_
   refine WL.b (dd:=14) rfl rfl rfl (zi (l:=[.tmp 13]) Tryz.call44 (.cons rfl .nil)) (.nil : Sel [stb z4g 40 [(.int .i64 0),(.int .i64 0)],stb zB 40 [(.int .i64 zZ.fN),(.int .i64 zZ.fD)],stb zA 40 [(.int .i64 zY.fN),(.int .i64 zY.fD)]] [] [stb z4g 40 [(.int .i64 0),(.int .i64 0)],stb zB 40 [(.int .i64 zZ.fN),(.int .i64 zZ.fD)],stb zA 40 [(.int .i64 zY.fN),(.int .i64 zY.fD)]]) (fun w hw=>by have pz:=(hz.call hw (.nil : Sel [stb z4g 40 [(.int .i64 0),(.int .i64 0)],stb zB 40 [(.int .i64 zZ.fN),(.int .i64 zZ.fD)],stb zA 40 [(.int .i64 zY.fN),(.int .i64 zY.fD)]] [] [stb z4g 40 [(.int .i64 0),(.int .i64 0)],stb zB 40 [(.int .i64 zZ.fN),(.int .i64 zZ.fD)],stb zA 40 [(.int .i64 zY.fN),(.int .i64 zY.fD)]])); exact w_rat_Valid (Z:=_)  (z18:=zZ) (r:=zkh) w pz  zv7) ?_
   refine WL.a (d:=15) rfl rfl rfl (q_not rfl) ?_
   refine WL.a (d:=16) rfl rfl rfl (q_pickF rfl rfl) ?_
   exact WL.cutEnd () trivial (.cons rfl (.cons rfl (.cons rfl (.cons rfl (.cons (zf zfp) .nil))))) (.cons .here (.cons .here (.cons .here .nil)))
 ·skip
  refine WL.a (d:=17) rfl rfl rfl (q_m rfl) ?_
  refine WL.cut0 True [(0,(.string ⟨#[45]⟩)),(4,(.pointer (some ⟨zA,0,none⟩))),(5,(.pointer (some ⟨zB,0,none⟩))),(6,(.pointer (some ⟨z4g,0,none⟩))),(25,(.bool zfo))] [stb z4g 40 [(.int .i64 0),(.int .i64 0)],stb zB 40 [(.int .i64 zZ.fN),(.int .i64 zZ.fD)],stb zA 40 [(.int .i64 zY.fN),(.int .i64 zY.fD)]] 8 ?_ (fun _=>?_)
  ·rcases Bool.eq_false_or_eq_true zfo with hb' | hb'
   ·have zpT:=hb'; clear hb'
    refine WL.pin (i:=17) rfl zpT ?_
    refine WL.e rfl rfl rfl ?_
    refine WL.e rfl rfl rfl ?_
    refine WL.e rfl rfl rfl ?_
    refine WL.e rfl rfl rfl ?_
    refine WL.e rfl rfl rfl ?_
    refine WL.e rfl rfl rfl ?_
    refine WL.e rfl rfl rfl ?_
    refine WL.a (d:=25) rfl rfl rfl (q_pickT rfl rfl) ?_
    exact WL.cutEnd () trivial (.cons rfl (.cons rfl (.cons rfl (.cons rfl (.cons (zf (Eq.symm zpT)) .nil))))) (.cons .here (.cons .here (.cons .here .nil)))
   ·have zpU:=hb'; clear hb'
    refine WL.pin (i:=17) rfl zpU ?_
    refine WL.a (d:=18) rfl rfl rfl (q_m rfl) ?_
    refine WL.a (d:=19) rfl rfl rfl (q_seqlC (r:=false) (by decide) rfl rfl) ?_
    refine WL.a (d:=20) rfl rfl rfl (q_m rfl) ?_
    refine WL.e rfl rfl rfl ?_
    refine WL.e rfl rfl rfl ?_
    refine WL.e rfl rfl rfl ?_
    refine WL.a (d:=24) rfl rfl rfl (q_pickF rfl rfl) ?_
    refine WL.a (d:=25) rfl rfl rfl (q_pickF rfl rfl) ?_
    exact WL.cutEnd () trivial (.cons rfl (.cons rfl (.cons rfl (.cons rfl (.cons (zf (Eq.symm zpU)) .nil))))) (.cons .here (.cons .here (.cons .here .nil)))
  ·skip
   refine WL.nil ?_
   refine WX.a ?_
   refine WC.cond rfl (fun zkj=>?_) (fun zkj=>?_)
   ·replace h:=ite_t h zkj
    refine WC.b ?_
    refine WC.a ?_
    refine WL.a (d:=26) rfl rfl rfl (q_build (v:=(.agg #[(.int .i64 0),(.int .i64 0)])) (Eos.parts (l:=[]) .nil []) (fun _=>by kernel_rfl)) ?_
    refine WL.eff0 rfl rfl (e_store (vs:=[(.int .i64 0),(.int .i64 0)]) (ds:=[(.int .i64 0),(.int .i64 0)]) sizT_40 rfl rfl rfl rfl (oc_cons rfl (oc_cons rfl oc_nil)) .here (Nat.le_of_ble_eq_true rfl) rfl) ?_
    refine WL.a (d:=7) rfl rfl rfl (q_z rfl) ?_
    refine WL.nil ?_
    refine WX.a ?_
    refine WC.ret ?_
    refine WX.thenRet ?_
    obtain rfl:=Option.some.inj h
    refine WX.bpRet Tryz.results53 (.agg rfl aggT_40 rfl (rd_all .here) (.tmp rfl .nil)) (fun w hw=>?_)
    exact ⟨ret2 rfl rfl,hw.sub .nil⟩
   ·replace h:=ite_f h zkj
    refine WC.skip ?_
    refine WX.a ?_
    refine WC.b ?_
    refine WC.a ?_
    refine WL.new (dd:=27) rfl rfl rfl (e_makeMap Value.string (fun x=>x)) ?_
    intro z7w _
    refine WL.a (d:=28) rfl rfl rfl (q_makeFunc (Eos.caps (l:=[.tmp 4,.tmp 5]) (.cons rfl (.cons rfl .nil)))) ?_
    refine WL.eff0 rfl rfl (e_insert (k:=⟨#[43]⟩) (v:=(.func (.func 69) #[] #[(.pointer (some ⟨zA,0,none⟩)),(.pointer (some ⟨zB,0,none⟩))])) keyT_9 Tryz.underlying106 rfl rfl rfl rfl .here) ?_
    refine WL.a (d:=29) rfl rfl rfl (q_makeFunc (Eos.caps (l:=[.tmp 4,.tmp 5]) (.cons rfl (.cons rfl .nil)))) ?_
    refine WL.eff0 rfl rfl (e_insert (k:=⟨#[45]⟩) (v:=(.func (.func 70) #[] #[(.pointer (some ⟨zA,0,none⟩)),(.pointer (some ⟨zB,0,none⟩))])) keyT_9 Tryz.underlying106 rfl rfl rfl rfl .here) ?_
    refine WL.a (d:=30) rfl rfl rfl (q_makeFunc (Eos.caps (l:=[.tmp 4,.tmp 5]) (.cons rfl (.cons rfl .nil)))) ?_
    refine WL.eff0 rfl rfl (e_insert (k:=⟨#[42]⟩) (v:=(.func (.func 71) #[] #[(.pointer (some ⟨zA,0,none⟩)),(.pointer (some ⟨zB,0,none⟩))])) keyT_9 Tryz.underlying106 rfl rfl rfl rfl .here) ?_
    refine WL.a (d:=31) rfl rfl rfl (q_makeFunc (Eos.caps (l:=[.tmp 4,.tmp 5]) (.cons rfl (.cons rfl .nil)))) ?_
    refine WL.eff0 rfl rfl (e_insert (k:=⟨#[47]⟩) (v:=(.func (.func 72) #[] #[(.pointer (some ⟨zA,0,none⟩)),(.pointer (some ⟨zB,0,none⟩))])) keyT_9 Tryz.underlying106 rfl rfl rfl rfl .here) ?_
    refine WL.a (d:=32) rfl rfl rfl (q_m rfl) ?_
    refine WL.a (d:=8) rfl rfl rfl (q_z rfl) ?_
    refine WL.nil ?_
    refine WX.a ?_
    refine WC.b ?_
    obtain ⟨ze0,zv8,h⟩:=z8 h
    obtain ⟨zbo,zv9,h⟩:=z8 h
    refine WC.a ?_
    refine WL.a (d:=33) rfl rfl rfl (q_m rfl) ?_
    refine WL.a (d:=34) rfl rfl rfl (q_m rfl) ?_
    refine WL.a (d:=35) rfl rfl rfl (q_lookC (k:=⟨#[45]⟩) (dflt:=.nilFunc) (r:=(.func (.func 70) #[] #[(.pointer (some ⟨zA,0,none⟩)),(.pointer (some ⟨zB,0,none⟩))])) keyT_9 Tryz.underlying106 zgZ rfl rfl rfl .here (by rfl)) ?_
    refine WL.b (dd:=36) rfl rfl rfl (run_callv (l:=[]) Tryz.call70 rfl .nil) (.nil : Sel [mapA z7w Value.string (fun x=>x) [(⟨#[43]⟩,(.func (.func 69) #[] #[(.pointer (some ⟨zA,0,none⟩)),(.pointer (some ⟨zB,0,none⟩))])),(⟨#[45]⟩,(.func (.func 70) #[] #[(.pointer (some ⟨zA,0,none⟩)),(.pointer (some ⟨zB,0,none⟩))])),(⟨#[42]⟩,(.func (.func 71) #[] #[(.pointer (some ⟨zA,0,none⟩)),(.pointer (some ⟨zB,0,none⟩))])),(⟨#[47]⟩,(.func (.func 72) #[] #[(.pointer (some ⟨zA,0,none⟩)),(.pointer (some ⟨zB,0,none⟩))]))],stb z4g 40 [(.int .i64 0),(.int .i64 0)],stb zB 40 [(.int .i64 zZ.fN),(.int .i64 zZ.fD)],stb zA 40 [(.int .i64 zY.fN),(.int .i64 zY.fD)]] [] [mapA z7w Value.string (fun x=>x) [(⟨#[43]⟩,(.func (.func 69) #[] #[(.pointer (some ⟨zA,0,none⟩)),(.pointer (some ⟨zB,0,none⟩))])),(⟨#[45]⟩,(.func (.func 70) #[] #[(.pointer (some ⟨zA,0,none⟩)),(.pointer (some ⟨zB,0,none⟩))])),(⟨#[42]⟩,(.func (.func 71) #[] #[(.pointer (some ⟨zA,0,none⟩)),(.pointer (some ⟨zB,0,none⟩))])),(⟨#[47]⟩,(.func (.func 72) #[] #[(.pointer (some ⟨zA,0,none⟩)),(.pointer (some ⟨zB,0,none⟩))]))],stb z4g 40 [(.int .i64 0),(.int .i64 0)],stb zB 40 [(.int .i64 zZ.fN),(.int .i64 zZ.fD)],stb zA 40 [(.int .i64 zY.fN),(.int .i64 zY.fD)]]) (fun w hw=>by have pz:=(hz.call hw (.nil : Sel [mapA z7w Value.string (fun x=>x) [(⟨#[43]⟩,(.func (.func 69) #[] #[(.pointer (some ⟨zA,0,none⟩)),(.pointer (some ⟨zB,0,none⟩))])),(⟨#[45]⟩,(.func (.func 70) #[] #[(.pointer (some ⟨zA,0,none⟩)),(.pointer (some ⟨zB,0,none⟩))])),(⟨#[42]⟩,(.func (.func 71) #[] #[(.pointer (some ⟨zA,0,none⟩)),(.pointer (some ⟨zB,0,none⟩))])),(⟨#[47]⟩,(.func (.func 72) #[] #[(.pointer (some ⟨zA,0,none⟩)),(.pointer (some ⟨zB,0,none⟩))]))],stb z4g 40 [(.int .i64 0),(.int .i64 0)],stb zB 40 [(.int .i64 zZ.fN),(.int .i64 zZ.fD)],stb zA 40 [(.int .i64 zY.fN),(.int .i64 zY.fD)]] [] [mapA z7w Value.string (fun x=>x) [(⟨#[43]⟩,(.func (.func 69) #[] #[(.pointer (some ⟨zA,0,none⟩)),(.pointer (some ⟨zB,0,none⟩))])),(⟨#[45]⟩,(.func (.func 70) #[] #[(.pointer (some ⟨zA,0,none⟩)),(.pointer (some ⟨zB,0,none⟩))])),(⟨#[42]⟩,(.func (.func 71) #[] #[(.pointer (some ⟨zA,0,none⟩)),(.pointer (some ⟨zB,0,none⟩))])),(⟨#[47]⟩,(.func (.func 72) #[] #[(.pointer (some ⟨zA,0,none⟩)),(.pointer (some ⟨zB,0,none⟩))]))],stb z4g 40 [(.int .i64 0),(.int .i64 0)],stb zB 40 [(.int .i64 zZ.fN),(.int .i64 zZ.fD)],stb zA 40 [(.int .i64 zY.fN),(.int .i64 zY.fD)]])).lend hw (.nil : Sel [mapA z7w Value.string (fun x=>x) [(⟨#[43]⟩,(.func (.func 69) #[] #[(.pointer (some ⟨zA,0,none⟩)),(.pointer (some ⟨zB,0,none⟩))])),(⟨#[45]⟩,(.func (.func 70) #[] #[(.pointer (some ⟨zA,0,none⟩)),(.pointer (some ⟨zB,0,none⟩))])),(⟨#[42]⟩,(.func (.func 71) #[] #[(.pointer (some ⟨zA,0,none⟩)),(.pointer (some ⟨zB,0,none⟩))])),(⟨#[47]⟩,(.func (.func 72) #[] #[(.pointer (some ⟨zA,0,none⟩)),(.pointer (some ⟨zB,0,none⟩))]))],stb z4g 40 [(.int .i64 0),(.int .i64 0)],stb zB 40 [(.int .i64 zZ.fN),(.int .i64 zZ.fD)],stb zA 40 [(.int .i64 zY.fN),(.int .i64 zY.fD)]] [] [mapA z7w Value.string (fun x=>x) [(⟨#[43]⟩,(.func (.func 69) #[] #[(.pointer (some ⟨zA,0,none⟩)),(.pointer (some ⟨zB,0,none⟩))])),(⟨#[45]⟩,(.func (.func 70) #[] #[(.pointer (some ⟨zA,0,none⟩)),(.pointer (some ⟨zB,0,none⟩))])),(⟨#[42]⟩,(.func (.func 71) #[] #[(.pointer (some ⟨zA,0,none⟩)),(.pointer (some ⟨zB,0,none⟩))])),(⟨#[47]⟩,(.func (.func 72) #[] #[(.pointer (some ⟨zA,0,none⟩)),(.pointer (some ⟨zB,0,none⟩))]))],stb z4g 40 [(.int .i64 0),(.int .i64 0)],stb zB 40 [(.int .i64 zZ.fN),(.int .i64 zZ.fD)],stb zA 40 [(.int .i64 zY.fN),(.int .i64 zY.fD)]]) (B:=[stb zA 40 [(.int .i64 zY.fN),(.int .i64 zY.fD)],stb zB 40 [(.int .i64 zZ.fN),(.int .i64 zZ.fD)]]) (fun _ hx'=>((.cons .h3 (.cons .h2 .nil)) : Sel _ [stb zA 40 [(.int .i64 zY.fN),(.int .i64 zY.fD)],stb zB 40 [(.int .i64 zZ.fN),(.int .i64 zZ.fD)]] _).mem hx'); exact w_rat_do_2 (Z:=_) (zfm:=⟨zA,0,none⟩) (zfn:=⟨zB,0,none⟩) (zbm:=zY) (zbn:=zZ) (r:=ze0) w pz ((hw.lent (.nil : Sel [mapA z7w Value.string (fun x=>x) [(⟨#[43]⟩,(.func (.func 69) #[] #[(.pointer (some ⟨zA,0,none⟩)),(.pointer (some ⟨zB,0,none⟩))])),(⟨#[45]⟩,(.func (.func 70) #[] #[(.pointer (some ⟨zA,0,none⟩)),(.pointer (some ⟨zB,0,none⟩))])),(⟨#[42]⟩,(.func (.func 71) #[] #[(.pointer (some ⟨zA,0,none⟩)),(.pointer (some ⟨zB,0,none⟩))])),(⟨#[47]⟩,(.func (.func 72) #[] #[(.pointer (some ⟨zA,0,none⟩)),(.pointer (some ⟨zB,0,none⟩))]))],stb z4g 40 [(.int .i64 0),(.int .i64 0)],stb zB 40 [(.int .i64 zZ.fN),(.int .i64 zZ.fD)],stb zA 40 [(.int .i64 zY.fN),(.int .i64 zY.fD)]] [] [mapA z7w Value.string (fun x=>x) [(⟨#[43]⟩,(.func (.func 69) #[] #[(.pointer (some ⟨zA,0,none⟩)),(.pointer (some ⟨zB,0,none⟩))])),(⟨#[45]⟩,(.func (.func 70) #[] #[(.pointer (some ⟨zA,0,none⟩)),(.pointer (some ⟨zB,0,none⟩))])),(⟨#[42]⟩,(.func (.func 71) #[] #[(.pointer (some ⟨zA,0,none⟩)),(.pointer (some ⟨zB,0,none⟩))])),(⟨#[47]⟩,(.func (.func 72) #[] #[(.pointer (some ⟨zA,0,none⟩)),(.pointer (some ⟨zB,0,none⟩))]))],stb z4g 40 [(.int .i64 0),(.int .i64 0)],stb zB 40 [(.int .i64 zZ.fN),(.int .i64 zZ.fD)],stb zA 40 [(.int .i64 zY.fN),(.int .i64 zY.fD)]]) (B:=[stb zA 40 [(.int .i64 zY.fN),(.int .i64 zY.fD)],stb zB 40 [(.int .i64 zZ.fN),(.int .i64 zZ.fD)]]) (fun _ hx'=>((.cons .h3 (.cons .h2 .nil)) : Sel _ [stb zA 40 [(.int .i64 zY.fN),(.int .i64 zY.fD)],stb zB 40 [(.int .i64 zZ.fN),(.int .i64 zZ.fD)]] _).mem hx') (.head _) _).stb) ((hw.lent (.nil : Sel [mapA z7w Value.string (fun x=>x) [(⟨#[43]⟩,(.func (.func 69) #[] #[(.pointer (some ⟨zA,0,none⟩)),(.pointer (some ⟨zB,0,none⟩))])),(⟨#[45]⟩,(.func (.func 70) #[] #[(.pointer (some ⟨zA,0,none⟩)),(.pointer (some ⟨zB,0,none⟩))])),(⟨#[42]⟩,(.func (.func 71) #[] #[(.pointer (some ⟨zA,0,none⟩)),(.pointer (some ⟨zB,0,none⟩))])),(⟨#[47]⟩,(.func (.func 72) #[] #[(.pointer (some ⟨zA,0,none⟩)),(.pointer (some ⟨zB,0,none⟩))]))],stb z4g 40 [(.int .i64 0),(.int .i64 0)],stb zB 40 [(.int .i64 zZ.fN),(.int .i64 zZ.fD)],stb zA 40 [(.int .i64 zY.fN),(.int .i64 zY.fD)]] [] [mapA z7w Value.string (fun x=>x) [(⟨#[43]⟩,(.func (.func 69) #[] #[(.pointer (some ⟨zA,0,none⟩)),(.pointer (some ⟨zB,0,none⟩))])),(⟨#[45]⟩,(.func (.func 70) #[] #[(.pointer (some ⟨zA,0,none⟩)),(.pointer (some ⟨zB,0,none⟩))])),(⟨#[42]⟩,(.func (.func 71) #[] #[(.pointer (some ⟨zA,0,none⟩)),(.pointer (some ⟨zB,0,none⟩))])),(⟨#[47]⟩,(.func (.func 72) #[] #[(.pointer (some ⟨zA,0,none⟩)),(.pointer (some ⟨zB,0,none⟩))]))],stb z4g 40 [(.int .i64 0),(.int .i64 0)],stb zB 40 [(.int .i64 zZ.fN),(.int .i64 zZ.fD)],stb zA 40 [(.int .i64 zY.fN),(.int .i64 zY.fD)]]) (B:=[stb zA 40 [(.int .i64 zY.fN),(.int .i64 zY.fD)],stb zB 40 [(.int .i64 zZ.fN),(.int .i64 zZ.fD)]]) (fun _ hx'=>((.cons .h3 (.cons .h2 .nil)) : Sel _ [stb zA 40 [(.int .i64 zY.fN),(.int .i64 zY.fD)],stb zB 40 [(.int .i64 zZ.fN),(.int .i64 zZ.fD)]] _).mem hx') (.tail _ (.head _)) _).stb) zv8) ?_
    refine WL.a (d:=37) rfl rfl rfl (q_extract rfl rfl) ?_
    refine WL.a (d:=38) rfl rfl rfl (q_extract rfl rfl) ?_
    refine WL.b (dd:=39) rfl rfl rfl (zi (l:=[.tmp 37,.tmp 38]) Tryz.call73 (.cons rfl (.cons rfl .nil))) (.nil : Sel [mapA z7w Value.string (fun x=>x) [(⟨#[43]⟩,(.func (.func 69) #[] #[(.pointer (some ⟨zA,0,none⟩)),(.pointer (some ⟨zB,0,none⟩))])),(⟨#[45]⟩,(.func (.func 70) #[] #[(.pointer (some ⟨zA,0,none⟩)),(.pointer (some ⟨zB,0,none⟩))])),(⟨#[42]⟩,(.func (.func 71) #[] #[(.pointer (some ⟨zA,0,none⟩)),(.pointer (some ⟨zB,0,none⟩))])),(⟨#[47]⟩,(.func (.func 72) #[] #[(.pointer (some ⟨zA,0,none⟩)),(.pointer (some ⟨zB,0,none⟩))]))],stb z4g 40 [(.int .i64 0),(.int .i64 0)],stb zB 40 [(.int .i64 zZ.fN),(.int .i64 zZ.fD)],stb zA 40 [(.int .i64 zY.fN),(.int .i64 zY.fD)]] [] [mapA z7w Value.string (fun x=>x) [(⟨#[43]⟩,(.func (.func 69) #[] #[(.pointer (some ⟨zA,0,none⟩)),(.pointer (some ⟨zB,0,none⟩))])),(⟨#[45]⟩,(.func (.func 70) #[] #[(.pointer (some ⟨zA,0,none⟩)),(.pointer (some ⟨zB,0,none⟩))])),(⟨#[42]⟩,(.func (.func 71) #[] #[(.pointer (some ⟨zA,0,none⟩)),(.pointer (some ⟨zB,0,none⟩))])),(⟨#[47]⟩,(.func (.func 72) #[] #[(.pointer (some ⟨zA,0,none⟩)),(.pointer (some ⟨zB,0,none⟩))]))],stb z4g 40 [(.int .i64 0),(.int .i64 0)],stb zB 40 [(.int .i64 zZ.fN),(.int .i64 zZ.fD)],stb zA 40 [(.int .i64 zY.fN),(.int .i64 zY.fD)]]) (fun w hw=>by have pz:=(hz.call hw (.nil : Sel [mapA z7w Value.string (fun x=>x) [(⟨#[43]⟩,(.func (.func 69) #[] #[(.pointer (some ⟨zA,0,none⟩)),(.pointer (some ⟨zB,0,none⟩))])),(⟨#[45]⟩,(.func (.func 70) #[] #[(.pointer (some ⟨zA,0,none⟩)),(.pointer (some ⟨zB,0,none⟩))])),(⟨#[42]⟩,(.func (.func 71) #[] #[(.pointer (some ⟨zA,0,none⟩)),(.pointer (some ⟨zB,0,none⟩))])),(⟨#[47]⟩,(.func (.func 72) #[] #[(.pointer (some ⟨zA,0,none⟩)),(.pointer (some ⟨zB,0,none⟩))]))],stb z4g 40 [(.int .i64 0),(.int .i64 0)],stb zB 40 [(.int .i64 zZ.fN),(.int .i64 zZ.fD)],stb zA 40 [(.int .i64 zY.fN),(.int .i64 zY.fD)]] [] [mapA z7w Value.string (fun x=>x) [(⟨#[43]⟩,(.func (.func 69) #[] #[(.pointer (some ⟨zA,0,none⟩)),(.pointer (some ⟨zB,0,none⟩))])),(⟨#[45]⟩,(.func (.func 70) #[] #[(.pointer (some ⟨zA,0,none⟩)),(.pointer (some ⟨zB,0,none⟩))])),(⟨#[42]⟩,(.func (.func 71) #[] #[(.pointer (some ⟨zA,0,none⟩)),(.pointer (some ⟨zB,0,none⟩))])),(⟨#[47]⟩,(.func (.func 72) #[] #[(.pointer (some ⟨zA,0,none⟩)),(.pointer (some ⟨zB,0,none⟩))]))],stb z4g 40 [(.int .i64 0),(.int .i64 0)],stb zB 40 [(.int .i64 zZ.fN),(.int .i64 zZ.fD)],stb zA 40 [(.int .i64 zY.fN),(.int .i64 zY.fD)]])); exact w_rat_Make (Z:=_)  (z7R:=ze0.1) (z7v:=ze0.2) (r:=zbo) w pz  zv9) ?_
    refine WL.a (d:=40) rfl rfl rfl (q_extract rfl rfl) ?_
    refine WL.a (d:=41) rfl rfl rfl (q_extract rfl rfl) ?_
    refine WL.eff0 rfl rfl (e_store (vs:=[(.int .i64 zbo.1.fN),(.int .i64 zbo.1.fD)]) (ds:=[(.int .i64 zbo.1.fN),(.int .i64 zbo.1.fD)]) sizT_40 rfl rfl rfl rfl (oc_cons rfl (oc_cons rfl oc_nil)) .h1 (Nat.le_of_ble_eq_true rfl) rfl) ?_
    refine WL.a (d:=7) rfl rfl rfl (q_z rfl) ?_
    refine WL.nil ?_
    refine WX.a ?_
    refine WC.ret ?_
    obtain rfl:=Option.some.inj h
    refine WX.bpRet Tryz.results53 (.agg rfl aggT_40 rfl (rd_all .here) (.tmp rfl .nil)) (fun w hw=>?_)
    exact ⟨ret2 rfl rfl,hw.sub .nil⟩
def m_rat_Sub (z42 : z2) (z43 : z2) : Option (z2 × Int) :=
 (m_rat_do z42 z43).bind fun zbp=>some (zbp.1,zbp.2)
set_option maxRecDepth 20000 in
theorem w_rat_Sub (Z : Zp)   (z42 : z2) (z43 : z2) (r : z2 × Int) (w₀ : World) (hz : PZ [] w₀ Z)
  (h : m_rat_Sub z42 z43 = some r) :
  Calls Tryz.prog 32 #[(.agg #[(.int .i64 z42.fN),(.int .i64 z42.fD)]),(.agg #[(.int .i64 z43.fN),(.int .i64 z43.fD)])] w₀ fun e w'=>e = .returned (.tuple #[(.agg #[(.int .i64 r.1.fN),(.int .i64 r.1.fD)]),(.int .i64 r.2)]) ∧ Hp [] w₀ w' []:=by
 unfold m_rat_Sub at h
 refine Calls.ofWC (vs:=[(.agg #[(.int .i64 z42.fN),(.int .i64 z42.fD)]),(.agg #[(.int .i64 z43.fN),(.int .i64 z43.fD)])]) (pre:=[]) (env:=[(0,(.agg #[(.int .i64 z42.fN),(.int .i64 z42.fD)])),(1,(.agg #[(.int .i64 z43.fN),(.int .i64 z43.fD)]))]) Tryz.func32 rfl Tryz.ntmps32 rfl (Hp.nil w₀ _) rfl ?_
 refine WC.b ?_
 refine WC.a ?_
 refine WL.new (dd:=2) rfl rfl rfl (e_box (cs:=[(.int .i64 z42.fN),(.int .i64 z42.fD)]) rfl rfl) ?_
 intro zhj _
 refine WL.new (dd:=3) rfl rfl rfl (e_box (cs:=[(.int .i64 z43.fN),(.int .i64 z43.fD)]) rfl rfl) ?_
 intro zhk _
 refine WL.new (dd:=4) rfl rfl rfl (e_alloc (cs:=[(.int .i64 0),(.int .i64 0)]) zeroT_40 rfl) ?_
 intro zhl _
 refine WL.a (d:=5) rfl rfl rfl (q_z rfl) ?_
 refine WL.nil ?_
 refine WX.a ?_
 refine WC.b ?_
 obtain ⟨zbp,zva,h⟩:=z8 h
 refine WC.a ?_
 refine WL.a (d:=6) rfl rfl rfl (q_loadA (cs:=[(.int .i64 z42.fN),(.int .i64 z42.fD)]) aggT_40 rfl rfl (rd_all .h2)) ?_
 refine WL.a (d:=7) rfl rfl rfl (q_loadA (cs:=[(.int .i64 z43.fN),(.int .i64 z43.fD)]) aggT_40 rfl rfl (rd_all .h1)) ?_
 refine WL.b (dd:=8) rfl rfl rfl (zi (l:=[.const (.string ⟨#[45]⟩),.tmp 6,.tmp 7]) Tryz.call53 (.cons rfl (.cons rfl (.cons rfl .nil)))) (.nil : Sel [stb zhl 40 [(.int .i64 0),(.int .i64 0)],stb zhk 40 [(.int .i64 z43.fN),(.int .i64 z43.fD)],stb zhj 40 [(.int .i64 z42.fN),(.int .i64 z42.fD)]] [] [stb zhl 40 [(.int .i64 0),(.int .i64 0)],stb zhk 40 [(.int .i64 z43.fN),(.int .i64 z43.fD)],stb zhj 40 [(.int .i64 z42.fN),(.int .i64 z42.fD)]]) (fun w hw=>by have pz:=(hz.call hw (.nil : Sel [stb zhl 40 [(.int .i64 0),(.int .i64 0)],stb zhk 40 [(.int .i64 z43.fN),(.int .i64 z43.fD)],stb zhj 40 [(.int .i64 z42.fN),(.int .i64 z42.fD)]] [] [stb zhl 40 [(.int .i64 0),(.int .i64 0)],stb zhk 40 [(.int .i64 z43.fN),(.int .i64 z43.fD)],stb zhj 40 [(.int .i64 z42.fN),(.int .i64 z42.fD)]])); exact w_rat_do (Z:=_)  (zY:=z42) (zZ:=z43) (r:=zbp) w pz  zva) ?_
 refine WL.a (d:=9) rfl rfl rfl (q_extract rfl rfl) ?_
 refine WL.a (d:=10) rfl rfl rfl (q_extract rfl rfl) ?_
 refine WL.eff0 rfl rfl (e_store (vs:=[(.int .i64 zbp.1.fN),(.int .i64 zbp.1.fD)]) (ds:=[(.int .i64 zbp.1.fN),(.int .i64 zbp.1.fD)]) sizT_40 rfl rfl rfl rfl (oc_cons rfl (oc_cons rfl oc_nil)) .here (Nat.le_of_ble_eq_true rfl) rfl) ?_
 refine WL.a (d:=5) rfl rfl rfl (q_z rfl) ?_
 refine WL.nil ?_
 refine WX.a ?_
 refine WC.ret ?_
 obtain rfl:=Option.some.inj h
 refine WX.bpRet Tryz.results32 (.agg rfl aggT_40 rfl (rd_all .here) (.tmp rfl .nil)) (fun w hw=>?_)
 exact ⟨ret2 rfl rfl,hw.sub .nil⟩
end Go.Proofs.YtakfmdiiehcbdaaGreat
