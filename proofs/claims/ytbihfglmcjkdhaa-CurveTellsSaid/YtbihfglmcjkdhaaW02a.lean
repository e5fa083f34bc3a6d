/- A part of this claim's proof: models of functions, walks, plain laws. No conditions. -/
import Derived.Test.YtbihfglmcjkdhaaZSortF
import Derived.Test.YtbihfglmcjkdhaaZFast
import Derived.Test.YtbihfglmcjkdhaaShelf02
import Derived.Test.YtbihfglmcjkdhaaProg
namespace Go.Proofs.Ytbihfglmcjkdhaa
open Go Go.RowKit Sep
set_option linter.all false
set_option maxRecDepth 30000
set_option maxHeartbeats 4000000
structure z2 where
 fN : Int
 fD : Int
 deriving Inhabited,DecidableEq
structure S7 where
 fX : Int
 fY : Int
 fSigned : Bool
 fCode : Int
 deriving Inhabited,DecidableEq
structure S13 where
 fMsg : ByteArray
 fAddr : Int
 deriving Inhabited,DecidableEq
structure z1 where
 fBurst : z2
 fRate : z2
 deriving Inhabited,DecidableEq
def e42 (x : z1) : List Value:=[(.int .i64 x.fBurst.fN),(.int .i64 x.fBurst.fD),(.int .i64 x.fRate.fN),(.int .i64 x.fRate.fD)]
theorem e42_oc : ∀ x,∀ u ∈ e42 x,u.oneCell' = true:=fun _=>(oc_cons rfl (oc_cons rfl (oc_cons rfl (oc_cons rfl oc_nil))))
structure z5A where
 fE : Int
 deriving Inhabited,DecidableEq
def e28 (x : z2) : List Value:=[(.int .i64 x.fN),(.int .i64 x.fD)]
theorem e28_oc : ∀ x,∀ u ∈ e28 x,u.oneCell' = true:=fun _=>(oc_cons rfl (oc_cons rfl oc_nil))
def p25 (Z : Zp) (r : List Value) (x : List z1) : Prop:=∃ (ao0 : Option Addr) (cap0 : Nat),r = [(.slice ao0 x.length cap0)] ∧ ZS Z 4 (fun r x=>r = e42 x) ao0 cap0 x
theorem p25_mono {Z Z' : Zp} (k : Zle Z Z') {r : List Value} {x : List z1} (h : p25 Z r x) : p25 Z' r x:=by
 obtain ⟨ao0,cap0,hr,h0⟩:=h
 exact ⟨ao0,cap0,hr,h0.mono k⟩
theorem zeroT_28 : zeroT Try.prog 28 (.agg #[(.int .i64 0),(.int .i64 0)]):=zeroT_of (i:=Try.t28) rfl rfl
theorem sizT_28 : sizT Try.prog 28 2:=sizT_of (i:=Try.t28) rfl
theorem aggT_28 : aggT Try.prog 28 2:=aggT_of (i:=Try.t28) Try.underlying28 rfl rfl
theorem fo_28_0 : fieldOff Try.prog 28 0 0:=fieldOff_of (i:=Try.t3) Try.underlying28 rfl rfl (by decide) rfl
theorem oneT_3 : oneT Try.prog 3:=oneT_of Try.underlying3 rfl
theorem sizT_3 : sizT Try.prog 3 1:=sizT_of (i:=Try.t3) rfl
theorem elT_25 : elT Try.prog 25 42 4 32:=⟨Try.underlying25,⟨Try.t42,_,rfl,rfl,rfl,rfl,rfl⟩,by decide⟩
theorem fo_28_1 : fieldOff Try.prog 28 1 1:=fieldOff_of (i:=Try.t3) Try.underlying28 rfl rfl (by decide) rfl
theorem keyT_9 : KeyT Try.prog 9 Value.string:=keyT_str Try.underlying9
theorem zeroT_93 : zeroT Try.prog 93 .nilFunc:=zeroT_of (i:=Try.t93) rfl rfl
theorem fo_42_0 : fieldOff Try.prog 42 0 0:=fieldOff_of (i:=Try.t28) Try.underlying42 rfl rfl (by decide) rfl
theorem fo_42_1 : fieldOff Try.prog 42 1 2:=fieldOff_of (i:=Try.t28) Try.underlying42 rfl rfl (by decide) rfl
theorem aggT_42 : aggT Try.prog 42 4:=aggT_of (i:=Try.t42) Try.underlying42 rfl rfl
theorem zeroT_74 : zeroT Try.prog 74 (.agg #[(.int .i64 0)]):=zeroT_of (i:=Try.t74) rfl rfl
theorem zeroT_42 : zeroT Try.prog 42 (.agg #[(.int .i64 0),(.int .i64 0),(.int .i64 0),(.int .i64 0)]):=zeroT_of (i:=Try.t42) rfl rfl
theorem sizT_42 : sizT Try.prog 42 4:=sizT_of (i:=Try.t42) rfl
theorem fo_74_0 : fieldOff Try.prog 74 0 0:=fieldOff_of (i:=Try.t30) Try.underlying74 rfl rfl (by decide) rfl
theorem oneT_30 : oneT Try.prog 30:=oneT_of Try.underlying30 rfl
theorem sizT_30 : sizT Try.prog 30 1:=sizT_of (i:=Try.t30) rfl
theorem elT_44 : elT Try.prog 44 28 2 16:=⟨Try.underlying44,⟨Try.t28,_,rfl,rfl,rfl,rfl,rfl⟩,by decide⟩
theorem fldT_42_1 : fldT Try.prog 42 1 2 28:=fldT_of Try.underlying42 rfl rfl rfl
theorem eqT_42 : EqT Try.prog 42 e42:=⟨fun u v w=>by
 have i42_10000:=fun (w : World) (a b : Array Value)=>run_equalIn_agg (P:=Try.prog) w 9999 42 a b (by simp [Program.fieldsOf,Try.underlying42]) (by kernel_rfl)
 have i28_9999:=fun (w : World) (a b : Array Value)=>run_equalIn_agg (P:=Try.prog) w 9998 28 a b (by simp [Program.fieldsOf,Try.underlying28]) (by kernel_rfl)
 have i3_9998:=fun (w : World) (a b : Int)=>run_equalIn_int (P:=Try.prog) w 9997 3 .i64 .i64 a b Try.underlying3
 rw [i42_10000]
 simp [Program.fieldsOf,Op.eqFields,part,e42,i42_10000,Try.underlying42,i28_9999,Try.underlying28,i3_9998]
 rcases u with ⟨⟨u1,u2⟩,⟨u3,u4⟩⟩
 rcases v with ⟨⟨v1,v2⟩,⟨v3,v4⟩⟩
 by_cases h1 : u1 = v1 <;> by_cases h2 : u2 = v2 <;> by_cases h3 : u3 = v3 <;> by_cases h4 : u4 = v4 <;> simp [h1,h2,h3,h4],by kernel_rfl⟩
theorem zeroT_44 : zeroT Try.prog 44 (.slice none 0 0):=zeroT_of (i:=Try.t44) rfl rfl
theorem oneT_25 : oneT Try.prog 25:=oneT_of Try.underlying25 rfl
theorem oneT_44 : oneT Try.prog 44:=oneT_of Try.underlying44 rfl
theorem sizT_44 : sizT Try.prog 44 1:=sizT_of (i:=Try.t44) rfl
theorem eqT_28 : EqT Try.prog 28 e28:=⟨fun u v w=>by
 have i28_10000:=fun (w : World) (a b : Array Value)=>run_equalIn_agg (P:=Try.prog) w 9999 28 a b (by simp [Program.fieldsOf,Try.underlying28]) (by kernel_rfl)
 have i3_9999:=fun (w : World) (a b : Int)=>run_equalIn_int (P:=Try.prog) w 9998 3 .i64 .i64 a b Try.underlying3
 rw [i28_10000]
 simp [Program.fieldsOf,Op.eqFields,part,e28,i28_10000,Try.underlying28,i3_9999]
 rcases u with ⟨u1,u2⟩
 rcases v with ⟨v1,v2⟩
 by_cases h1 : u1 = v1 <;> by_cases h2 : u2 = v2 <;> simp [h1,h2],by kernel_rfl⟩
theorem zeroT_25 : zeroT Try.prog 25 (.slice none 0 0):=zeroT_of (i:=Try.t25) rfl rfl
theorem sizT_25 : sizT Try.prog 25 1:=sizT_of (i:=Try.t25) rfl
theorem zfW : elT Try.prog 105 25 1 24:=⟨Try.underlying105,⟨Try.t25,_,rfl,rfl,rfl,rfl,rfl⟩,by decide⟩
def m_rat_size (n_28 : Int) : Option Int :=
 if decide (n_28 < 0) then some (u64 ((u64 (i64 (0 - (i64 (n_28 + 1))))) + 1)) else some (u64 n_28)
set_option maxRecDepth 20000 in
theorem w_rat_size (Z : Zp)   (n_28 : Int) (r : Int) (w₀ : World) (hz : PZ [] w₀ Z)
  (h : m_rat_size n_28 = some r) :
  Calls Try.prog 62 #[(.int .i64 n_28)] w₀ fun e w'=>e = .returned (.int .u64 r) ∧ Hp [] w₀ w' []:=by
 unfold m_rat_size at h
 refine Calls.ofWC (vs:=[(.int .i64 n_28)]) (pre:=[]) (env:=[(0,(.int .i64 n_28))]) Try.func62 rfl Try.ntmps62 rfl (Hp.nil w₀ _) rfl ?_
 refine WC.seq ?_
 refine WC.region ?_
 refine WL.quiet (d:=2) rfl rfl rfl (q_assign rfl) ?_
 refine WL.nil ?_
 refine WX.then ?_
 refine WC.seq ?_
 refine WC.seq ?_
 refine WC.region ?_
 refine WL.quiet (d:=3) rfl rfl rfl (q_move rfl) ?_
 refine WL.quiet (d:=4) rfl rfl rfl (q_lss rfl rfl) ?_
 refine WL.nil ?_
 refine WX.then ?_
 refine WC.cond rfl (fun hb_33=>?_) (fun hb_33=>?_)
 ·replace h:=ite_t h hb_33
  refine WC.seq ?_
  refine WC.region ?_
  refine WL.quiet (d:=5) rfl rfl rfl (q_move rfl) ?_
  refine WL.quiet (d:=6) rfl rfl rfl (q_add rfl rfl rfl) ?_
  refine WL.quiet (d:=7) rfl rfl rfl (q_neg rfl rfl) ?_
  refine WL.quiet (d:=8) rfl rfl rfl (q_conv Try.underlying3 Try.underlying90 rfl rfl) ?_
  refine WL.quiet (d:=9) rfl rfl rfl (q_add rfl rfl rfl) ?_
  refine WL.quiet (d:=2) rfl rfl rfl (q_assign rfl) ?_
  refine WL.nil ?_
  refine WX.then ?_
  refine WC.ret ?_
  refine WX.thenRet ?_
  obtain rfl:=Option.some.inj h
  refine WX.bpRet Try.results62 (.tmp rfl .nil) (fun w hw=>?_)
  exact ⟨ret1 rfl,hw.sub .nil⟩
 ·replace h:=ite_f h hb_33
  refine WC.skip ?_
  refine WX.then ?_
  refine WC.seq ?_
  refine WC.region ?_
  refine WL.quiet (d:=10) rfl rfl rfl (q_move rfl) ?_
  refine WL.quiet (d:=11) rfl rfl rfl (q_conv Try.underlying3 Try.underlying90 rfl rfl) ?_
  refine WL.quiet (d:=2) rfl rfl rfl (q_assign rfl) ?_
  refine WL.nil ?_
  refine WX.then ?_
  refine WC.ret ?_
  obtain rfl:=Option.some.inj h
  refine WX.bpRet Try.results62 (.tmp rfl .nil) (fun w hw=>?_)
  exact ⟨ret1 rfl,hw.sub .nil⟩
def m_rat_gcd_uint64_L2 (k_87 : Int → Option Int) : Nat → Int → Int → Option Int
 | 0,_,_=>none
 | n_97 + 1,a_94,b_95=>if decide (b_95 ≠ 0) then chk ((b_95 : Int) ≠ 0) (m_rat_gcd_uint64_L2 k_87 n_97 b_95 (Int.tmod a_94 b_95)) else k_87 a_94
theorem m_rat_gcd_uint64_L2_fuel {n : Nat} {k_87 : Int → Option Int} {a_94 : Int} {b_95 : Int} {r : Int} (h : m_rat_gcd_uint64_L2 k_87 n a_94 b_95 = some r) : ∃ m,n = m + 1:=by
 cases n with
 | zero=>cases h
 | succ m=>exact ⟨m,rfl⟩
def m_rat_gcd_uint64 (a_38 : Int) (b_39 : Int) : Option Int :=
 jp1 (fun (a_86 : Int)=>some a_86) fun k_87=>m_rat_gcd_uint64_L2 k_87 FUEL a_38 b_39
set_option maxRecDepth 20000 in
theorem w_rat_gcd_uint64 (Z : Zp)   (a_38 : Int) (b_39 : Int) (r : Int) (w₀ : World) (hz : PZ [] w₀ Z)
  (h : m_rat_gcd_uint64 a_38 b_39 = some r) :
  Calls Try.prog 63 #[(.int .u64 a_38),(.int .u64 b_39)] w₀ fun e w'=>e = .returned (.int .u64 r) ∧ Hp [] w₀ w' []:=by
 unfold m_rat_gcd_uint64 at h
 refine Calls.ofWC (vs:=[(.int .u64 a_38),(.int .u64 b_39)]) (pre:=[]) (env:=[(0,(.int .u64 a_38)),(1,(.int .u64 b_39))]) Try.func63 rfl Try.ntmps63 rfl (Hp.nil w₀ _) rfl ?_
 refine WC.seq ?_
 refine WC.region ?_
 refine WL.quiet (d:=4) rfl rfl rfl (q_assign rfl) ?_
 refine WL.nil ?_
 refine WX.then ?_
 obtain ⟨k_87,hk_88,h⟩:=jp1_elim h
 refine WC.seqMid1 (fun (a_86 : Int)=>(k_87 a_86 = some r)) (fun (a_86 : Int)=>[(0,(.int .u64 a_86))]) (fun (a_86 : Int)=>[]) ?_ ?_
 ·skip
  refine WC.block ?_
  refine WC.loop3 (fun (n_96 : Nat) (a_94 : Int) (b_95 : Int)=>(m_rat_gcd_uint64_L2 k_87 n_96 a_94 b_95 = some r)) (fun (n_96 : Nat) (a_94 : Int) (b_95 : Int)=>[(0,(.int .u64 a_94)),(1,(.int .u64 b_95))]) (fun (n_96 : Nat) (a_94 : Int) (b_95 : Int)=>[]) (fun (n_96 : Nat) (a_94 : Int) (b_95 : Int)=>n_96) ⟨FUEL,a_38,b_39⟩ h (.cons rfl (.cons rfl .nil)) .nil ?_
  rintro n_96 a_94 b_95 h
  obtain ⟨n_97,rfl⟩:=m_rat_gcd_uint64_L2_fuel h
  rw [m_rat_gcd_uint64_L2] at h
  refine WC.seq ?_
  refine WC.seq ?_
  refine WC.region ?_
  refine WL.quiet (d:=5) rfl rfl rfl (q_move rfl) ?_
  refine WL.quiet (d:=6) rfl rfl rfl (q_neq rfl rfl) ?_
  refine WL.nil ?_
  refine WX.then ?_
  refine WC.cond rfl (fun hb_99=>?_) (fun hb_99=>?_)
  ·replace h:=ite_t h hb_99
   refine WC.skip ?_
   refine WX.then ?_
   refine WC.block ?_
   obtain ⟨zp2,h⟩:=chk_elim h
   refine WC.draw (fun i=>[].contains i) [] rfl ?_
   refine WD.pure (i:=0) (d:=7) (by kernel_rfl) rfl (z6 (by kernel_rfl)) (z7 (by kernel_rfl)) rfl rfl rfl (fun _=>q_move rfl) ?_
   refine WD.pure (i:=1) (d:=8) (by kernel_rfl) rfl (z6 (by kernel_rfl)) (z7 (by kernel_rfl)) rfl rfl rfl (fun _=>q_move rfl) ?_
   refine WD.pure (i:=2) (d:=9) (by kernel_rfl) rfl (z6 (by kernel_rfl)) (z7 (by kernel_rfl)) rfl rfl rfl (fun _=>q_move rfl) ?_
   refine WD.pure (i:=3) (d:=10) (by kernel_rfl) rfl (z6 (by kernel_rfl)) (z7 (by kernel_rfl)) rfl rfl rfl (fun _=>q_rem rfl rfl zp2 rfl) ?_
   refine WD.pure (i:=4) (d:=0) (by kernel_rfl) rfl (z6 (by kernel_rfl)) (z7 (by kernel_rfl)) rfl rfl rfl (fun _=>q_assign rfl) ?_
   refine WD.pure (i:=5) (d:=1) (by kernel_rfl) rfl (z6 (by kernel_rfl)) (z7 (by kernel_rfl)) rfl rfl rfl (fun _=>q_assign rfl) ?_
   refine WD.done (by kernel_rfl) ?_
   refine WX.blockNormal ?_
   exact WX.round (G:=Nat × Int × Int) ⟨n_97,b_95,(Int.tmod a_94 b_95)⟩ h (Nat.lt_succ_self _) (.cons rfl (.cons rfl .nil)) .nil
  ·replace h:=ite_f h hb_99
   refine WC.exit ?_
   refine WX.thenExit ?_
   refine WX.thenExit ?_
   refine WX.blockHit ?_
   exact WX.mid (G:=Int) a_94 h (.cons rfl .nil) .nil
 ·rintro a_86 h
  replace h:=(hk_88 a_86).symm.trans h
  refine WC.seq ?_
  refine WC.region ?_
  refine WL.quiet (d:=11) rfl rfl rfl (q_move rfl) ?_
  refine WL.quiet (d:=4) rfl rfl rfl (q_assign rfl) ?_
  refine WL.nil ?_
  refine WX.then ?_
  refine WC.ret ?_
  obtain rfl:=Option.some.inj h
  refine WX.bpRet Try.results63 (.tmp rfl .nil) (fun w hw=>?_)
  exact ⟨ret1 rfl,hw.sub .nil⟩
def m_rat_Make (n_22 : Int) (d_23 : Int) : Option (z2 × Int) :=
 if decide (d_23 = 0) then some ((⟨0,0⟩ : z2),2) else (m_rat_size n_22).bind fun z5B=>(m_rat_size d_23).bind fun z5Q=>(m_rat_gcd_uint64 z5B z5Q).bind fun z3B=>chk ((z3B : Int) ≠ 0) (if (decide ((u64 (Int.tdiv z5B z3B)) > 1073741824)) || (decide ((u64 (Int.tdiv z5Q z3B)) > 1073741824)) then some ((⟨0,0⟩ : z2),3) else jp1 (fun (z7m : Int)=>some ((⟨z7m,i64 (u64 (Int.tdiv z5Q z3B))⟩ : z2),0)) fun zei=>if (decide (n_22 < 0)) != (decide (d_23 < 0)) then zei (i64 (0 - (i64 (u64 (Int.tdiv z5B z3B))))) else zei (i64 (u64 (Int.tdiv z5B z3B))))
set_option maxRecDepth 20000 in
theorem w_rat_Make (Z : Zp)   (n_22 : Int) (d_23 : Int) (r : z2 × Int) (w₀ : World) (hz : PZ [] w₀ Z)
  (h : m_rat_Make n_22 d_23 = some r) :
  Calls Try.prog 38 #[(.int .i64 n_22),(.int .i64 d_23)] w₀ fun e w'=>e = .returned (.tuple #[(.agg #[(.int .i64 r.1.fN),(.int .i64 r.1.fD)]),(.int .i64 r.2)]) ∧ Hp [] w₀ w' []:=by
 unfold m_rat_Make at h
 refine Calls.ofWC (vs:=[(.int .i64 n_22),(.int .i64 d_23)]) (pre:=[]) (env:=[(0,(.int .i64 n_22)),(1,(.int .i64 d_23))]) Try.func38 rfl Try.ntmps38 rfl (Hp.nil w₀ _) rfl ?_
 refine WC.seq ?_
 refine WC.region ?_
 refine WL.new (dd:=4) rfl rfl rfl (e_alloc (cs:=[(.int .i64 0),(.int .i64 0)]) zeroT_28 rfl) ?_
 intro z5R _
 refine WL.quiet (d:=5) rfl rfl rfl (q_assign rfl) ?_
 refine WL.nil ?_
 refine WX.then ?_
 refine WC.seq ?_
 refine WC.seq ?_
 refine WC.region ?_
 refine WL.quiet (d:=10) rfl rfl rfl (q_move rfl) ?_
 refine WL.quiet (d:=11) rfl rfl rfl (q_eql rfl rfl) ?_
 refine WL.nil ?_
 refine WX.then ?_
 refine WC.cond rfl (fun zfX=>?_) (fun zfX=>?_)
 ·replace h:=ite_t h zfX
  refine WC.seq ?_
  refine WC.region ?_
  refine WL.quiet (d:=12) rfl rfl rfl (q_build (v:=(.agg #[(.int .i64 0),(.int .i64 0)])) (Eos.parts (l:=[]) .nil []) (fun _=>by kernel_rfl)) ?_
  refine WL.eff0 rfl rfl (e_store (vs:=[(.int .i64 0),(.int .i64 0)]) (ds:=[(.int .i64 0),(.int .i64 0)]) sizT_28 rfl rfl rfl rfl (oc_cons rfl (oc_cons rfl oc_nil)) .here (Nat.le_of_ble_eq_true rfl) rfl) ?_
  refine WL.quiet (d:=5) rfl rfl rfl (q_assign rfl) ?_
  refine WL.nil ?_
  refine WX.then ?_
  refine WC.ret ?_
  refine WX.thenRet ?_
  obtain rfl:=Option.some.inj h
  refine WX.bpRet Try.results38 (.agg rfl aggT_28 rfl (rd_all .here) (.tmp rfl .nil)) (fun w hw=>?_)
  exact ⟨ret2 rfl rfl,hw.sub .nil⟩
 ·replace h:=ite_f h zfX
  refine WC.skip ?_
  refine WX.then ?_
  refine WC.seq ?_
  obtain ⟨z5B,zp3,h⟩:=zb h
  obtain ⟨z5Q,zp4,h⟩:=zb h
  refine WC.region ?_
  refine WL.quiet (d:=13) rfl rfl rfl (q_move rfl) ?_
  refine WL.callD (dd:=14) rfl rfl rfl (zg (l:=[.tmp 13]) Try.call62 (.cons rfl .nil)) (.nil : Sel [stb z5R 28 [(.int .i64 0),(.int .i64 0)]] [] [stb z5R 28 [(.int .i64 0),(.int .i64 0)]]) (fun w hw=>by have pz:=(hz.call hw (.nil : Sel [stb z5R 28 [(.int .i64 0),(.int .i64 0)]] [] [stb z5R 28 [(.int .i64 0),(.int .i64 0)]])); exact w_rat_size (Z:=_)  (n_28:=n_22) (r:=z5B) w pz  zp3) ?_
  refine WL.quiet (d:=15) rfl rfl rfl (q_move rfl) ?_
  refine WL.callD (dd:=16) rfl rfl rfl (zg (l:=[.tmp 15]) Try.call62 (.cons rfl .nil)) (.nil : Sel [stb z5R 28 [(.int .i64 0),(.int .i64 0)]] [] [stb z5R 28 [(.int .i64 0),(.int .i64 0)]]) (fun w hw=>by have pz:=(hz.call hw (.nil : Sel [stb z5R 28 [(.int .i64 0),(.int .i64 0)]] [] [stb z5R 28 [(.int .i64 0),(.int .i64 0)]])); exact w_rat_size (Z:=_)  (n_28:=d_23) (r:=z5Q) w pz  zp4) ?_
  refine WL.quiet (d:=6) rfl rfl rfl (q_assign rfl) ?_
  refine WL.quiet (d:=7) rfl rfl rfl (q_assign rfl) ?_
  refine WL.nil ?_
  refine WX.then ?_
  refine WC.seq ?_
  obtain ⟨z3B,zp5,h⟩:=zb h
  refine WC.region ?_
  refine WL.quiet (d:=17) rfl rfl rfl (q_move rfl) ?_
  refine WL.quiet (d:=18) rfl rfl rfl (q_move rfl) ?_
  refine WL.callD (dd:=19) rfl rfl rfl (zg (l:=[.tmp 17,.tmp 18]) Try.call63 (.cons rfl (.cons rfl .nil))) (.nil : Sel [stb z5R 28 [(.int .i64 0),(.int .i64 0)]] [] [stb z5R 28 [(.int .i64 0),(.int .i64 0)]]) (fun w hw=>by have pz:=(hz.call hw (.nil : Sel [stb z5R 28 [(.int .i64 0),(.int .i64 0)]] [] [stb z5R 28 [(.int .i64 0),(.int .i64 0)]])); exact w_rat_gcd_uint64 (Z:=_)  (a_38:=z5B) (b_39:=z5Q) (r:=z3B) w pz  zp5) ?_
  refine WL.quiet (d:=8) rfl rfl rfl (q_assign rfl) ?_
  refine WL.nil ?_
  refine WX.then ?_
  refine WC.seq ?_
  obtain ⟨zl4,h⟩:=chk_elim h
  refine WC.draw (fun i=>[].contains i) [] rfl ?_
  refine WD.pure (i:=0) (d:=20) (by kernel_rfl) rfl (z6 (by kernel_rfl)) (z7 (by kernel_rfl)) rfl rfl rfl (fun _=>q_move rfl) ?_
  refine WD.pure (i:=1) (d:=21) (by kernel_rfl) rfl (z6 (by kernel_rfl)) (z7 (by kernel_rfl)) rfl rfl rfl (fun _=>q_move rfl) ?_
  refine WD.pure (i:=2) (d:=22) (by kernel_rfl) rfl (z6 (by kernel_rfl)) (z7 (by kernel_rfl)) rfl rfl rfl (fun _=>q_quo rfl rfl zl4 rfl) ?_
  refine WD.pure (i:=3) (d:=23) (by kernel_rfl) rfl (z6 (by kernel_rfl)) (z7 (by kernel_rfl)) rfl rfl rfl (fun _=>q_move rfl) ?_
  refine WD.pure (i:=4) (d:=24) (by kernel_rfl) rfl (z6 (by kernel_rfl)) (z7 (by kernel_rfl)) rfl rfl rfl (fun _=>q_move rfl) ?_
  refine WD.pure (i:=5) (d:=25) (by kernel_rfl) rfl (z6 (by kernel_rfl)) (z7 (by kernel_rfl)) rfl rfl rfl (fun _=>q_quo rfl rfl zl4 rfl) ?_
  refine WD.pure (i:=6) (d:=6) (by kernel_rfl) rfl (z6 (by kernel_rfl)) (z7 (by kernel_rfl)) rfl rfl rfl (fun _=>q_assign rfl) ?_
  refine WD.pure (i:=7) (d:=7) (by kernel_rfl) rfl (z6 (by kernel_rfl)) (z7 (by kernel_rfl)) rfl rfl rfl (fun _=>q_assign rfl) ?_
  refine WD.done (by kernel_rfl) ?_
  refine WX.then ?_
  refine WC.seq ?_
  refine WC.seq ?_
  refine WC.region ?_
  refine WL.quiet (d:=26) rfl rfl rfl (q_move rfl) ?_
  refine WL.quiet (d:=27) rfl rfl rfl (q_gtr rfl rfl) ?_
  refine WL.quiet (d:=28) rfl rfl rfl (q_move rfl) ?_
  refine WL.cut0 True [(0,(.int .i64 n_22)),(1,(.int .i64 d_23)),(4,(.pointer (some ⟨z5R,0,none⟩))),(6,(.int .u64 (u64 (Int.tdiv z5B z3B)))),(7,(.int .u64 (u64 (Int.tdiv z5Q z3B)))),(31,(.bool ((decide ((u64 (Int.tdiv z5B z3B)) > 1073741824)) || (decide ((u64 (Int.tdiv z5Q z3B)) > 1073741824)))))] [stb z5R 28 [(.int .i64 0),(.int .i64 0)]] 3 ?_ (fun _=>?_)
  ·rcases Bool.eq_false_or_eq_true (decide ((u64 (Int.tdiv z5B z3B)) > 1073741824)) with hb' | hb'
   ·have zl5:=hb'; clear hb'
    refine WL.pin (i:=28) rfl zl5 ?_
    refine WL.skip rfl rfl rfl ?_
    refine WL.skip rfl rfl rfl ?_
    refine WL.quiet (d:=31) rfl rfl rfl (q_pickT rfl rfl) ?_
    exact WL.cutEnd () trivial (.cons rfl (.cons rfl (.cons rfl (.cons rfl (.cons rfl (.cons (zl (or_l zl5)) .nil)))))) (.cons .here .nil)
   ·have zl6:=hb'; clear hb'
    refine WL.pin (i:=28) rfl zl6 ?_
    refine WL.quiet (d:=29) rfl rfl rfl (q_move rfl) ?_
    refine WL.quiet (d:=30) rfl rfl rfl (q_gtr rfl rfl) ?_
    refine WL.quiet (d:=31) rfl rfl rfl (q_pickF rfl rfl) ?_
    exact WL.cutEnd () trivial (.cons rfl (.cons rfl (.cons rfl (.cons rfl (.cons rfl (.cons (zl (or_r zl6)) .nil)))))) (.cons .here .nil)
  ·skip
   refine WL.nil ?_
   refine WX.then ?_
   refine WC.cond rfl (fun zfY=>?_) (fun zfY=>?_)
   ·replace h:=ite_t h zfY
    refine WC.seq ?_
    refine WC.region ?_
    refine WL.quiet (d:=32) rfl rfl rfl (q_build (v:=(.agg #[(.int .i64 0),(.int .i64 0)])) (Eos.parts (l:=[]) .nil []) (fun _=>by kernel_rfl)) ?_
    refine WL.eff0 rfl rfl (e_store (vs:=[(.int .i64 0),(.int .i64 0)]) (ds:=[(.int .i64 0),(.int .i64 0)]) sizT_28 rfl rfl rfl rfl (oc_cons rfl (oc_cons rfl oc_nil)) .here (Nat.le_of_ble_eq_true rfl) rfl) ?_
    refine WL.quiet (d:=5) rfl rfl rfl (q_assign rfl) ?_
    refine WL.nil ?_
    refine WX.then ?_
    refine WC.ret ?_
    refine WX.thenRet ?_
    obtain rfl:=Option.some.inj h
    refine WX.bpRet Try.results38 (.agg rfl aggT_28 rfl (rd_all .here) (.tmp rfl .nil)) (fun w hw=>?_)
    exact ⟨ret2 rfl rfl,hw.sub .nil⟩
   ·replace h:=ite_f h zfY
    refine WC.skip ?_
    refine WX.then ?_
    refine WC.seq ?_
    refine WC.region ?_
    refine WL.quiet (d:=33) rfl rfl rfl (q_move rfl) ?_
    refine WL.quiet (d:=34) rfl rfl rfl (q_conv Try.underlying90 Try.underlying3 rfl rfl) ?_
    refine WL.quiet (d:=35) rfl rfl rfl (q_move rfl) ?_
    refine WL.quiet (d:=36) rfl rfl rfl (q_conv Try.underlying90 Try.underlying3 rfl rfl) ?_
    refine WL.quiet (d:=37) rfl rfl rfl (q_build (v:=(.agg #[(.int .i64 (i64 (u64 (Int.tdiv z5B z3B)))),(.int .i64 (i64 (u64 (Int.tdiv z5Q z3B))))])) (Eos.parts (l:=[.tmp 34,.tmp 36]) (.cons rfl (.cons rfl .nil)) [0,1]) (fun _=>by kernel_rfl)) ?_
    refine WL.new (dd:=9) rfl rfl rfl (e_alloc (cs:=[(.int .i64 0),(.int .i64 0)]) zeroT_28 rfl) ?_
    intro zl7 _
    refine WL.eff0 rfl rfl (e_store (vs:=[(.int .i64 (i64 (u64 (Int.tdiv z5B z3B)))),(.int .i64 (i64 (u64 (Int.tdiv z5Q z3B))))]) (ds:=[(.int .i64 (i64 (u64 (Int.tdiv z5B z3B)))),(.int .i64 (i64 (u64 (Int.tdiv z5Q z3B))))]) sizT_28 rfl rfl rfl rfl (oc_cons rfl (oc_cons rfl oc_nil)) .here (Nat.le_of_ble_eq_true rfl) rfl) ?_
    refine WL.nil ?_
    refine WX.then ?_
    obtain ⟨zei,zp6,h⟩:=jp1_elim h
    refine WC.seqMid1 (fun (z7m : Int)=>(zei z7m = some r)) (fun (z7m : Int)=>[(4,(.pointer (some ⟨z5R,0,none⟩))),(9,(.pointer (some ⟨zl7,0,none⟩)))]) (fun (z7m : Int)=>[stb z5R 28 [(.int .i64 0),(.int .i64 0)],stb zl7 28 [(.int .i64 z7m),(.int .i64 (i64 (u64 (Int.tdiv z5Q z3B))))]]) ?_ ?_
    ·skip
     refine WC.seq ?_
     refine WC.region ?_
     refine WL.quiet (d:=38) rfl rfl rfl (q_move rfl) ?_
     refine WL.quiet (d:=39) rfl rfl rfl (q_lss rfl rfl) ?_
     refine WL.quiet (d:=40) rfl rfl rfl (q_move rfl) ?_
     refine WL.quiet (d:=41) rfl rfl rfl (q_lss rfl rfl) ?_
     refine WL.quiet (d:=42) rfl rfl rfl (q_bneq Try.underlying4 rfl rfl) ?_
     refine WL.nil ?_
     refine WX.then ?_
     refine WC.cond rfl (fun zfZ=>?_) (fun zfZ=>?_)
     ·replace h:=ite_t h zfZ
      refine WC.region ?_
      refine WL.quiet (d:=43) rfl rfl rfl (q_fieldAddr fo_28_0 rfl rfl) ?_
      refine WL.quiet (d:=44) rfl rfl rfl (q_load1 oneT_3 rfl (rd_stb .here rfl)) ?_
      refine WL.quiet (d:=45) rfl rfl rfl (q_neg rfl rfl) ?_
      refine WL.quiet (d:=46) rfl rfl rfl (q_fieldAddr fo_28_0 rfl rfl) ?_
      refine WL.eff0 rfl rfl (e_store (vs:=[(.int .i64 (i64 (0 - (i64 (u64 (Int.tdiv z5B z3B))))))]) (ds:=[(.int .i64 (i64 (0 - (i64 (u64 (Int.tdiv z5B z3B)))))),(.int .i64 (i64 (u64 (Int.tdiv z5Q z3B))))]) sizT_3 rfl rfl rfl rfl (oc_cons rfl oc_nil) .here (Nat.le_of_ble_eq_true rfl) rfl) ?_
      refine WL.nil ?_
      exact WX.mid (G:=Int) (i64 (0 - (i64 (u64 (Int.tdiv z5B z3B))))) h (.cons rfl (.cons rfl .nil)) (.cons (.there .here) (.cons .here .nil))
     ·replace h:=ite_f h zfZ
      refine WC.skip ?_
      exact WX.mid (G:=Int) (i64 (u64 (Int.tdiv z5B z3B))) h (.cons rfl (.cons rfl .nil)) (.cons (.there .here) (.cons .here .nil))
    ·rintro z7m h
     replace h:=(zp6 z7m).symm.trans h
     refine WC.seq ?_
     refine WC.region ?_
     refine WL.quiet (d:=47) rfl rfl rfl (q_loadA (cs:=[(.int .i64 z7m),(.int .i64 (i64 (u64 (Int.tdiv z5Q z3B))))]) aggT_28 rfl rfl (rd_all (.there .here))) ?_
     refine WL.eff0 rfl rfl (e_store (vs:=[(.int .i64 z7m),(.int .i64 (i64 (u64 (Int.tdiv z5Q z3B))))]) (ds:=[(.int .i64 z7m),(.int .i64 (i64 (u64 (Int.tdiv z5Q z3B))))]) sizT_28 rfl rfl rfl rfl (oc_cons rfl (oc_cons rfl oc_nil)) .here (Nat.le_of_ble_eq_true rfl) rfl) ?_
     refine WL.quiet (d:=5) rfl rfl rfl (q_assign rfl) ?_
     refine WL.nil ?_
     refine WX.then ?_
     refine WC.ret ?_
     obtain rfl:=Option.some.inj h
     refine WX.bpRet Try.results38 (.agg rfl aggT_28 rfl (rd_all .here) (.tmp rfl .nil)) (fun w hw=>?_)
     exact ⟨ret2 rfl rfl,hw.sub .nil⟩
def m_law02_num (z37 : Int) (z38 : Int) : Option z2 :=
 some (⟨z37,z38⟩ : z2)
set_option maxRecDepth 20000 in
theorem w_law02_num (Z : Zp)   (z37 : Int) (z38 : Int) (r : z2) (w₀ : World) (hz : PZ [] w₀ Z)
  (h : m_law02_num z37 z38 = some r) :
  Calls Try.prog 22 #[(.int .i64 z37),(.int .i64 z38)] w₀ fun e w'=>e = .returned (.agg #[(.int .i64 r.fN),(.int .i64 r.fD)]) ∧ Hp [] w₀ w' []:=by
 unfold m_law02_num at h
 refine Calls.ofWC (vs:=[(.int .i64 z37),(.int .i64 z38)]) (pre:=[]) (env:=[(0,(.int .i64 z37)),(1,(.int .i64 z38))]) Try.func22 rfl Try.ntmps22 rfl (Hp.nil w₀ _) rfl ?_
 refine WC.seq ?_
 refine WC.region ?_
 refine WL.new (dd:=4) rfl rfl rfl (e_alloc (cs:=[(.int .i64 0),(.int .i64 0)]) zeroT_28 rfl) ?_
 intro zwR _
 refine WL.nil ?_
 refine WX.then ?_
 refine WC.seq ?_
 refine WC.region ?_
 refine WL.quiet (d:=5) rfl rfl rfl (q_move rfl) ?_
 refine WL.quiet (d:=6) rfl rfl rfl (q_move rfl) ?_
 refine WL.quiet (d:=7) rfl rfl rfl (q_build (v:=(.agg #[(.int .i64 z37),(.int .i64 z38)])) (Eos.parts (l:=[.tmp 5,.tmp 6]) (.cons rfl (.cons rfl .nil)) [0,1]) (fun _=>by kernel_rfl)) ?_
 refine WL.eff0 rfl rfl (e_store (vs:=[(.int .i64 z37),(.int .i64 z38)]) (ds:=[(.int .i64 z37),(.int .i64 z38)]) sizT_28 rfl rfl rfl rfl (oc_cons rfl (oc_cons rfl oc_nil)) .here (Nat.le_of_ble_eq_true rfl) rfl) ?_
 refine WL.nil ?_
 refine WX.then ?_
 refine WC.ret ?_
 obtain rfl:=Option.some.inj h
 refine WX.bpRet Try.results22 (.agg rfl aggT_28 rfl (rd_all .here) .nil) (fun w hw=>?_)
 exact ⟨ret1 rfl,hw.sub .nil⟩
def m_rat_Valid (z1q : z2) : Option Bool :=
 (if (((decide (z1q.fD ≥ 1)) && (decide (z1q.fD ≤ 1073741824))) && (decide (z1q.fN ≥ (-1073741824)))) && (decide (z1q.fN ≤ 1073741824)) then (m_rat_size z1q.fN).bind fun zej=>(m_rat_size z1q.fD).bind fun zek=>(m_rat_gcd_uint64 zej zek).bind fun zg0=>some (decide (zg0 = 1)) else some false).bind fun zg1=>some zg1
set_option maxRecDepth 20000 in
theorem w_rat_Valid (Z : Zp)   (z1q : z2) (r : Bool) (w₀ : World) (hz : PZ [] w₀ Z)
  (h : m_rat_Valid z1q = some r) :
  Calls Try.prog 42 #[(.agg #[(.int .i64 z1q.fN),(.int .i64 z1q.fD)])] w₀ fun e w'=>e = .returned (.bool r) ∧ Hp [] w₀ w' []:=by
 unfold m_rat_Valid at h
 refine Calls.ofWC (vs:=[(.agg #[(.int .i64 z1q.fN),(.int .i64 z1q.fD)])]) (pre:=[]) (env:=[(0,(.agg #[(.int .i64 z1q.fN),(.int .i64 z1q.fD)]))]) Try.func42 rfl Try.ntmps42 rfl (Hp.nil w₀ _) rfl ?_
 refine WC.seq ?_
 refine WC.region ?_
 refine WL.new (dd:=1) rfl rfl rfl (e_box (cs:=[(.int .i64 z1q.fN),(.int .i64 z1q.fD)]) rfl rfl) ?_
 intro z8h _
 refine WL.quiet (d:=2) rfl rfl rfl (q_assign rfl) ?_
 refine WL.nil ?_
 refine WX.then ?_
 refine WC.seq ?_
 obtain ⟨zg1,zl8,h⟩:=zb h
 refine WC.draw (fun i=>[].contains i) [] rfl ?_
 refine WD.pure (i:=0) (d:=3) (by kernel_rfl) rfl (z6 (by kernel_rfl)) (z7 (by kernel_rfl)) rfl rfl rfl (fun _=>q_fieldAddr fo_28_1 rfl rfl) ?_
 refine WD.quiet (i:=1) (d:=4) (by kernel_rfl) rfl (z6 (by kernel_rfl)) (z7 (by kernel_rfl)) rfl rfl rfl (q_load1 oneT_3 rfl (rd_stb .here rfl)) ?_
 refine WD.pure (i:=2) (d:=5) (by kernel_rfl) rfl (z6 (by kernel_rfl)) (z7 (by kernel_rfl)) rfl rfl rfl (fun _=>q_geq rfl rfl) ?_
 refine WD.pure (i:=3) (d:=6) (by kernel_rfl) rfl (z6 (by kernel_rfl)) (z7 (by kernel_rfl)) rfl rfl rfl (fun _=>q_move rfl) ?_
 refine WD.mid (fuel':=21) [(1,(.pointer (some ⟨z8h,0,none⟩))),(2,(.bool false)),(6,(.bool (decide (z1q.fD ≥ 1)))),(10,(.bool ((decide (z1q.fD ≥ 1)) && (decide (z1q.fD ≤ 1073741824)))))] (listedA 29 [7,6,5,4,3,2,1,0]) ?_ (fun zl9=>?_)
 rotate_left
 ·rcases Bool.eq_false_or_eq_true (decide (z1q.fD ≥ 1)) with hb' | hb'
  ·have zg2:=hb'; clear hb'
   refine WD.pin (i:=6) rfl zg2 ?_
   refine WD.pure (i:=4) (d:=7) (by kernel_rfl) rfl (z6 (by kernel_rfl)) (z7 (by kernel_rfl)) rfl rfl rfl (fun _=>q_fieldAddr fo_28_1 rfl rfl) ?_
   refine WD.quiet (i:=5) (d:=8) (by kernel_rfl) rfl (z6 (by kernel_rfl)) (z7 (by kernel_rfl)) rfl rfl rfl (q_load1 oneT_3 rfl (rd_stb .here rfl)) ?_
   refine WD.pure (i:=6) (d:=9) (by kernel_rfl) rfl (z6 (by kernel_rfl)) (z7 (by kernel_rfl)) rfl rfl rfl (fun _=>q_leq rfl rfl) ?_
   refine WD.pure (i:=7) (d:=10) (by kernel_rfl) rfl (z6 (by kernel_rfl)) (z7 (by kernel_rfl)) rfl rfl rfl (fun _=>q_pickT rfl rfl) ?_
   refine WD.reL (.cons .here .nil) ?_ zl9
   exact (.cons rfl (.cons rfl (.cons (zl (Eq.symm zg2)) (.cons (zl (and_r zg2)) .nil))))
  ·have zg3:=hb'; clear hb'
   refine WD.pin (i:=6) rfl zg3 ?_
   refine WD.skip (i:=4) (d:=7) (by kernel_rfl) rfl (z6 (by kernel_rfl)) (z7 (by kernel_rfl)) rfl rfl rfl ?_
   refine WD.skip (i:=5) (d:=8) (by kernel_rfl) rfl (z6 (by kernel_rfl)) (z7 (by kernel_rfl)) rfl rfl rfl ?_
   refine WD.skip (i:=6) (d:=9) (by kernel_rfl) rfl (z6 (by kernel_rfl)) (z7 (by kernel_rfl)) rfl rfl rfl ?_
   refine WD.pure (i:=7) (d:=10) (by kernel_rfl) rfl (z6 (by kernel_rfl)) (z7 (by kernel_rfl)) rfl rfl rfl (fun _=>q_pickF rfl rfl) ?_
   refine WD.reL (.cons .here .nil) ?_ zl9
   exact (.cons rfl (.cons rfl (.cons (zl (Eq.symm zg3)) (.cons (zl (and_l zg3)) .nil))))
 refine WD.relist #[true,true,true,true,true,true,true,true,false,false,false,false,false,false,false,false,false,false,false,false,false,false,false,false,false,false,false,false,false] (by kernel_rfl) ?_
 refine WD.pure (i:=8) (d:=11) (by kernel_rfl) rfl (z6 (by kernel_rfl)) (z7 (by kernel_rfl)) rfl rfl rfl (fun _=>q_move rfl) ?_
 refine WD.mid (fuel':=16) [(1,(.pointer (some ⟨z8h,0,none⟩))),(2,(.bool false)),(11,(.bool ((decide (z1q.fD ≥ 1)) && (decide (z1q.fD ≤ 1073741824))))),(15,(.bool (((decide (z1q.fD ≥ 1)) && (decide (z1q.fD ≤ 1073741824))) && (decide (z1q.fN ≥ (-1073741824))))))] (listedA 29 [12,11,10,9,8,7,6,5,4,3,2,1,0]) ?_ (fun zla=>?_)
 rotate_left
 ·rcases Bool.eq_false_or_eq_true ((decide (z1q.fD ≥ 1)) && (decide (z1q.fD ≤ 1073741824))) with hb' | hb'
  ·have zg4:=hb'; clear hb'
   refine WD.pin (i:=11) rfl zg4 ?_
   refine WD.pure (i:=9) (d:=12) (by kernel_rfl) rfl (z6 (by kernel_rfl)) (z7 (by kernel_rfl)) rfl rfl rfl (fun _=>q_fieldAddr fo_28_0 rfl rfl) ?_
   refine WD.quiet (i:=10) (d:=13) (by kernel_rfl) rfl (z6 (by kernel_rfl)) (z7 (by kernel_rfl)) rfl rfl rfl (q_load1 oneT_3 rfl (rd_stb .here rfl)) ?_
   refine WD.pure (i:=11) (d:=14) (by kernel_rfl) rfl (z6 (by kernel_rfl)) (z7 (by kernel_rfl)) rfl rfl rfl (fun _=>q_geq rfl rfl) ?_
   refine WD.pure (i:=12) (d:=15) (by kernel_rfl) rfl (z6 (by kernel_rfl)) (z7 (by kernel_rfl)) rfl rfl rfl (fun _=>q_pickT rfl rfl) ?_
   refine WD.reL (.cons .here .nil) ?_ zla
   exact (.cons rfl (.cons rfl (.cons (zl (Eq.symm zg4)) (.cons (zl (and_r zg4)) .nil))))
  ·have zg5:=hb'; clear hb'
   refine WD.pin (i:=11) rfl zg5 ?_
   refine WD.skip (i:=9) (d:=12) (by kernel_rfl) rfl (z6 (by kernel_rfl)) (z7 (by kernel_rfl)) rfl rfl rfl ?_
   refine WD.skip (i:=10) (d:=13) (by kernel_rfl) rfl (z6 (by kernel_rfl)) (z7 (by kernel_rfl)) rfl rfl rfl ?_
   refine WD.skip (i:=11) (d:=14) (by kernel_rfl) rfl (z6 (by kernel_rfl)) (z7 (by kernel_rfl)) rfl rfl rfl ?_
   refine WD.pure (i:=12) (d:=15) (by kernel_rfl) rfl (z6 (by kernel_rfl)) (z7 (by kernel_rfl)) rfl rfl rfl (fun _=>q_pickF rfl rfl) ?_
   refine WD.reL (.cons .here .nil) ?_ zla
   exact (.cons rfl (.cons rfl (.cons (zl (Eq.symm zg5)) (.cons (zl (and_l zg5)) .nil))))
 refine WD.relist #[true,true,true,true,true,true,true,true,true,true,true,true,true,false,false,false,false,false,false,false,false,false,false,false,false,false,false,false,false] (by kernel_rfl) ?_
 refine WD.pure (i:=13) (d:=16) (by kernel_rfl) rfl (z6 (by kernel_rfl)) (z7 (by kernel_rfl)) rfl rfl rfl (fun _=>q_move rfl) ?_
 refine WD.mid (fuel':=11) [(1,(.pointer (some ⟨z8h,0,none⟩))),(2,(.bool false)),(16,(.bool (((decide (z1q.fD ≥ 1)) && (decide (z1q.fD ≤ 1073741824))) && (decide (z1q.fN ≥ (-1073741824)))))),(20,(.bool ((((decide (z1q.fD ≥ 1)) && (decide (z1q.fD ≤ 1073741824))) && (decide (z1q.fN ≥ (-1073741824)))) && (decide (z1q.fN ≤ 1073741824)))))] (listedA 29 [17,16,15,14,13,12,11,10,9,8,7,6,5,4,3,2,1,0]) ?_ (fun zlb=>?_)
 rotate_left
 ·rcases Bool.eq_false_or_eq_true (((decide (z1q.fD ≥ 1)) && (decide (z1q.fD ≤ 1073741824))) && (decide (z1q.fN ≥ (-1073741824)))) with hb' | hb'
  ·have zg6:=hb'; clear hb'
   refine WD.pin (i:=16) rfl zg6 ?_
   refine WD.pure (i:=14) (d:=17) (by kernel_rfl) rfl (z6 (by kernel_rfl)) (z7 (by kernel_rfl)) rfl rfl rfl (fun _=>q_fieldAddr fo_28_0 rfl rfl) ?_
   refine WD.quiet (i:=15) (d:=18) (by kernel_rfl) rfl (z6 (by kernel_rfl)) (z7 (by kernel_rfl)) rfl rfl rfl (q_load1 oneT_3 rfl (rd_stb .here rfl)) ?_
   refine WD.pure (i:=16) (d:=19) (by kernel_rfl) rfl (z6 (by kernel_rfl)) (z7 (by kernel_rfl)) rfl rfl rfl (fun _=>q_leq rfl rfl) ?_
   refine WD.pure (i:=17) (d:=20) (by kernel_rfl) rfl (z6 (by kernel_rfl)) (z7 (by kernel_rfl)) rfl rfl rfl (fun _=>q_pickT rfl rfl) ?_
   refine WD.reL (.cons .here .nil) ?_ zlb
   exact (.cons rfl (.cons rfl (.cons (zl (Eq.symm zg6)) (.cons (zl (and_r zg6)) .nil))))
  ·have zg7:=hb'; clear hb'
   refine WD.pin (i:=16) rfl zg7 ?_
   refine WD.skip (i:=14) (d:=17) (by kernel_rfl) rfl (z6 (by kernel_rfl)) (z7 (by kernel_rfl)) rfl rfl rfl ?_
   refine WD.skip (i:=15) (d:=18) (by kernel_rfl) rfl (z6 (by kernel_rfl)) (z7 (by kernel_rfl)) rfl rfl rfl ?_
   refine WD.skip (i:=16) (d:=19) (by kernel_rfl) rfl (z6 (by kernel_rfl)) (z7 (by kernel_rfl)) rfl rfl rfl ?_
   refine WD.pure (i:=17) (d:=20) (by kernel_rfl) rfl (z6 (by kernel_rfl)) (z7 (by kernel_rfl)) rfl rfl rfl (fun _=>q_pickF rfl rfl) ?_
   refine WD.reL (.cons .here .nil) ?_ zlb
   exact (.cons rfl (.cons rfl (.cons (zl (Eq.symm zg7)) (.cons (zl (and_l zg7)) .nil))))
 refine WD.relist #[true,true,true,true,true,true,true,true,true,true,true,true,true,true,true,true,true,true,false,false,false,false,false,false,false,false,false,false,false] (by kernel_rfl) ?_
 refine WD.pure (i:=18) (d:=21) (by kernel_rfl) rfl (z6 (by kernel_rfl)) (z7 (by kernel_rfl)) rfl rfl rfl (fun _=>q_move rfl) ?_
 refine WD.mid (fuel':=1) [(2,(.bool false)),(21,(.bool ((((decide (z1q.fD ≥ 1)) && (decide (z1q.fD ≤ 1073741824))) && (decide (z1q.fN ≥ (-1073741824)))) && (decide (z1q.fN ≤ 1073741824))))),(30,(.bool zg1))] (listedA 29 [27,26,25,24,23,22,21,20,19,18,17,16,15,14,13,12,11,10,9,8,7,6,5,4,3,2,1,0]) ?_ (fun zlc=>?_)
 rotate_left
 ·rcases Bool.eq_false_or_eq_true ((((decide (z1q.fD ≥ 1)) && (decide (z1q.fD ≤ 1073741824))) && (decide (z1q.fN ≥ (-1073741824)))) && (decide (z1q.fN ≤ 1073741824))) with hb' | hb'
  ·have zg8:=hb'; clear hb'
   have z8i:=ite_t zl8 zg8
   obtain ⟨zej,zp7,z8i⟩:=zb z8i
   obtain ⟨zek,zp8,z8i⟩:=zb z8i
   obtain ⟨zg0,zp9,z8i⟩:=zb z8i
   replace z8i:=Option.some.inj z8i
   refine WD.pin (i:=21) rfl zg8 ?_
   refine WD.pure (i:=19) (d:=22) (by kernel_rfl) rfl (z6 (by kernel_rfl)) (z7 (by kernel_rfl)) rfl rfl rfl (fun _=>q_fieldAddr fo_28_0 rfl rfl) ?_
   refine WD.quiet (i:=20) (d:=23) (by kernel_rfl) rfl (z6 (by kernel_rfl)) (z7 (by kernel_rfl)) rfl rfl rfl (q_load1 oneT_3 rfl (rd_stb .here rfl)) ?_
   refine WD.enter (i:=21) (d:=24) (by kernel_rfl) rfl (z6 (by kernel_rfl)) (z7 (by kernel_rfl)) rfl rfl rfl (zg (l:=[.tmp 23]) Try.call62 (.cons rfl .nil)) (fun w hw=>by have pz:=(hz.call hw (.nil : Sel [stb z8h 28 [(.int .i64 z1q.fN),(.int .i64 z1q.fD)]] [] [stb z8h 28 [(.int .i64 z1q.fN),(.int .i64 z1q.fD)]])); exact w_rat_size (Z:=_)  (n_28:=z1q.fN) (r:=zej) w pz  zp7) ?_
   refine WD.pure (i:=22) (d:=25) (by kernel_rfl) rfl (z6 (by kernel_rfl)) (z7 (by kernel_rfl)) rfl rfl rfl (fun _=>q_fieldAddr fo_28_1 rfl rfl) ?_
   refine WD.quiet (i:=23) (d:=26) (by kernel_rfl) rfl (z6 (by kernel_rfl)) (z7 (by kernel_rfl)) rfl rfl rfl (q_load1 oneT_3 rfl (rd_stb .here rfl)) ?_
   refine WD.enter (i:=24) (d:=27) (by kernel_rfl) rfl (z6 (by kernel_rfl)) (z7 (by kernel_rfl)) rfl rfl rfl (zg (l:=[.tmp 26]) Try.call62 (.cons rfl .nil)) (fun w hw=>by have pz:=(hz.call hw (.nil : Sel [stb z8h 28 [(.int .i64 z1q.fN),(.int .i64 z1q.fD)]] [] [stb z8h 28 [(.int .i64 z1q.fN),(.int .i64 z1q.fD)]])); exact w_rat_size (Z:=_)  (n_28:=z1q.fD) (r:=zek) w pz  zp8) ?_
   refine WD.enter (i:=25) (d:=28) (by kernel_rfl) rfl (z6 (by kernel_rfl)) (z7 (by kernel_rfl)) rfl rfl rfl (zg (l:=[.tmp 24,.tmp 27]) Try.call63 (.cons rfl (.cons rfl .nil))) (fun w hw=>by have pz:=(hz.call hw (.nil : Sel [stb z8h 28 [(.int .i64 z1q.fN),(.int .i64 z1q.fD)]] [] [stb z8h 28 [(.int .i64 z1q.fN),(.int .i64 z1q.fD)]])); exact w_rat_gcd_uint64 (Z:=_)  (a_38:=zej) (b_39:=zek) (r:=zg0) w pz  zp9) ?_
   refine WD.pure (i:=26) (d:=29) (by kernel_rfl) rfl (z6 (by kernel_rfl)) (z7 (by kernel_rfl)) rfl rfl rfl (fun _=>q_eql rfl rfl) ?_
   refine WD.pure (i:=27) (d:=30) (by kernel_rfl) rfl (z6 (by kernel_rfl)) (z7 (by kernel_rfl)) rfl rfl rfl (fun _=>q_pickT rfl rfl) ?_
   refine WD.reL (.cons .here .nil) ?_ zlc
   exact (.cons rfl (.cons (zl (Eq.symm zg8)) (.cons (zl z8i) .nil)))
  ·have zg9:=hb'; clear hb'
   have zga:=ite_f zl8 zg9
   replace zga:=Option.some.inj zga
   refine WD.pin (i:=21) rfl zg9 ?_
   refine WD.skip (i:=19) (d:=22) (by kernel_rfl) rfl (z6 (by kernel_rfl)) (z7 (by kernel_rfl)) rfl rfl rfl ?_
   refine WD.skip (i:=20) (d:=23) (by kernel_rfl) rfl (z6 (by kernel_rfl)) (z7 (by kernel_rfl)) rfl rfl rfl ?_
   refine WD.skip (i:=21) (d:=24) (by kernel_rfl) rfl (z6 (by kernel_rfl)) (z7 (by kernel_rfl)) rfl rfl rfl ?_
   refine WD.skip (i:=22) (d:=25) (by kernel_rfl) rfl (z6 (by kernel_rfl)) (z7 (by kernel_rfl)) rfl rfl rfl ?_
   refine WD.skip (i:=23) (d:=26) (by kernel_rfl) rfl (z6 (by kernel_rfl)) (z7 (by kernel_rfl)) rfl rfl rfl ?_
   refine WD.skip (i:=24) (d:=27) (by kernel_rfl) rfl (z6 (by kernel_rfl)) (z7 (by kernel_rfl)) rfl rfl rfl ?_
   refine WD.skip (i:=25) (d:=28) (by kernel_rfl) rfl (z6 (by kernel_rfl)) (z7 (by kernel_rfl)) rfl rfl rfl ?_
   refine WD.skip (i:=26) (d:=29) (by kernel_rfl) rfl (z6 (by kernel_rfl)) (z7 (by kernel_rfl)) rfl rfl rfl ?_
   refine WD.pure (i:=27) (d:=30) (by kernel_rfl) rfl (z6 (by kernel_rfl)) (z7 (by kernel_rfl)) rfl rfl rfl (fun _=>q_pickF rfl rfl) ?_
   refine WD.reL (.cons .here .nil) ?_ zlc
   exact (.cons rfl (.cons (zl (Eq.symm zg9)) (.cons (zl zga) .nil)))
 refine WD.relist #[true,true,true,true,true,true,true,true,true,true,true,true,true,true,true,true,true,true,true,true,true,true,true,true,true,true,true,true,false] (by kernel_rfl) ?_
 refine WD.pure (i:=28) (d:=2) (by kernel_rfl) rfl (z6 (by kernel_rfl)) (z7 (by kernel_rfl)) rfl rfl rfl (fun _=>q_assign rfl) ?_
 refine WD.done (by kernel_rfl) ?_
 refine WX.then ?_
 refine WC.ret ?_
 obtain rfl:=Option.some.inj h
 refine WX.bpRet Try.results42 (.tmp rfl .nil) (fun w hw=>?_)
 exact ⟨ret1 rfl,hw.sub .nil⟩
def m_rat_do_1 (z9s : z2) (z9t : z2) : Option (Int × Int) :=
 some ((i64 ((i64 (z9s.fN * z9t.fD)) + (i64 (z9t.fN * z9s.fD)))),(i64 (z9s.fD * z9t.fD)))
set_option maxRecDepth 20000 in
theorem w_rat_do_1 (Z : Zp)  (zcZ : Addr) (zd0 : Addr) (z9s : z2) (z9t : z2) (r : Int × Int) (w₀ : World) (hz : PZ [] w₀ Z)
  (zgb : ZC Z zcZ [(.int .i64 z9s.fN),(.int .i64 z9s.fD)])
  (zgc : ZC Z zd0 [(.int .i64 z9t.fN),(.int .i64 z9t.fD)])
  (h : m_rat_do_1 z9s z9t = some r) :
  Calls Try.prog 64 #[(.pointer (some zcZ)),(.pointer (some zd0))] w₀ fun e w'=>e = .returned (.tuple #[(.int .i64 r.1),(.int .i64 r.2)]) ∧ Hp [] w₀ w' []:=by
 unfold m_rat_do_1 at h
 refine Calls.ofWC (vs:=[(.pointer (some zcZ)),(.pointer (some zd0))]) (pre:=[]) (env:=[(0,(.pointer (some zcZ))),(1,(.pointer (some zd0)))]) Try.func64 rfl Try.ntmps64 rfl (Hp.nil w₀ _) rfl ?_
 refine WC.seq ?_
 refine WC.region ?_
 refine WL.quiet (d:=2) rfl rfl rfl (q_assign rfl) ?_
 refine WL.quiet (d:=3) rfl rfl rfl (q_assign rfl) ?_
 refine WL.nil ?_
 refine WX.then ?_
 refine WC.seq ?_
 refine WC.draw (fun i=>[].contains i) [] rfl ?_
 refine WD.pure (i:=0) (d:=4) (by kernel_rfl) rfl (z6 (by kernel_rfl)) (z7 (by kernel_rfl)) rfl rfl rfl (fun _=>q_fieldAddr fo_28_0 rfl rfl) ?_
 refine WD.quiet (i:=1) (d:=5) (by kernel_rfl) rfl (z6 (by kernel_rfl)) (z7 (by kernel_rfl)) rfl rfl rfl (q_load1 oneT_3 rfl (rd_zAt hz.pv zgb rfl)) ?_
 refine WD.pure (i:=2) (d:=6) (by kernel_rfl) rfl (z6 (by kernel_rfl)) (z7 (by kernel_rfl)) rfl rfl rfl (fun _=>q_fieldAddr fo_28_1 rfl rfl) ?_
 refine WD.quiet (i:=3) (d:=7) (by kernel_rfl) rfl (z6 (by kernel_rfl)) (z7 (by kernel_rfl)) rfl rfl rfl (q_load1 oneT_3 rfl (rd_zAt hz.pv zgc rfl)) ?_
 refine WD.pure (i:=4) (d:=8) (by kernel_rfl) rfl (z6 (by kernel_rfl)) (z7 (by kernel_rfl)) rfl rfl rfl (fun _=>q_mul rfl rfl rfl) ?_
 refine WD.pure (i:=5) (d:=9) (by kernel_rfl) rfl (z6 (by kernel_rfl)) (z7 (by kernel_rfl)) rfl rfl rfl (fun _=>q_fieldAddr fo_28_0 rfl rfl) ?_
 refine WD.quiet (i:=6) (d:=10) (by kernel_rfl) rfl (z6 (by kernel_rfl)) (z7 (by kernel_rfl)) rfl rfl rfl (q_load1 oneT_3 rfl (rd_zAt hz.pv zgc rfl)) ?_
 refine WD.pure (i:=7) (d:=11) (by kernel_rfl) rfl (z6 (by kernel_rfl)) (z7 (by kernel_rfl)) rfl rfl rfl (fun _=>q_fieldAddr fo_28_1 rfl rfl) ?_
 refine WD.quiet (i:=8) (d:=12) (by kernel_rfl) rfl (z6 (by kernel_rfl)) (z7 (by kernel_rfl)) rfl rfl rfl (q_load1 oneT_3 rfl (rd_zAt hz.pv zgb rfl)) ?_
 refine WD.pure (i:=9) (d:=13) (by kernel_rfl) rfl (z6 (by kernel_rfl)) (z7 (by kernel_rfl)) rfl rfl rfl (fun _=>q_mul rfl rfl rfl) ?_
 refine WD.pure (i:=10) (d:=14) (by kernel_rfl) rfl (z6 (by kernel_rfl)) (z7 (by kernel_rfl)) rfl rfl rfl (fun _=>q_add rfl rfl rfl) ?_
 refine WD.pure (i:=11) (d:=15) (by kernel_rfl) rfl (z6 (by kernel_rfl)) (z7 (by kernel_rfl)) rfl rfl rfl (fun _=>q_fieldAddr fo_28_1 rfl rfl) ?_
 refine WD.quiet (i:=12) (d:=16) (by kernel_rfl) rfl (z6 (by kernel_rfl)) (z7 (by kernel_rfl)) rfl rfl rfl (q_load1 oneT_3 rfl (rd_zAt hz.pv zgb rfl)) ?_
 refine WD.pure (i:=13) (d:=17) (by kernel_rfl) rfl (z6 (by kernel_rfl)) (z7 (by kernel_rfl)) rfl rfl rfl (fun _=>q_fieldAddr fo_28_1 rfl rfl) ?_
 refine WD.quiet (i:=14) (d:=18) (by kernel_rfl) rfl (z6 (by kernel_rfl)) (z7 (by kernel_rfl)) rfl rfl rfl (q_load1 oneT_3 rfl (rd_zAt hz.pv zgc rfl)) ?_
 refine WD.pure (i:=15) (d:=19) (by kernel_rfl) rfl (z6 (by kernel_rfl)) (z7 (by kernel_rfl)) rfl rfl rfl (fun _=>q_mul rfl rfl rfl) ?_
 refine WD.pure (i:=16) (d:=2) (by kernel_rfl) rfl (z6 (by kernel_rfl)) (z7 (by kernel_rfl)) rfl rfl rfl (fun _=>q_assign rfl) ?_
 refine WD.pure (i:=17) (d:=3) (by kernel_rfl) rfl (z6 (by kernel_rfl)) (z7 (by kernel_rfl)) rfl rfl rfl (fun _=>q_assign rfl) ?_
 refine WD.done (by kernel_rfl) ?_
 refine WX.then ?_
 refine WC.ret ?_
 obtain rfl:=Option.some.inj h
 refine WX.bpRet Try.results64 (.tmp rfl (.tmp rfl .nil)) (fun w hw=>?_)
 exact ⟨ret2 rfl rfl,hw.sub .nil⟩
def m_rat_do (z1b : z2) (z1c : z2) : Option (z2 × Int) :=
 (m_rat_Valid z1b).bind fun zel=>(if !zel then some true else (m_rat_Valid z1c).bind fun zgd=>some (!zgd)).bind fun zd1=>if zd1 then some ((⟨0,0⟩ : z2),2) else (m_rat_do_1 z1b z1c).bind fun zbi=>(m_rat_Make zbi.1 zbi.2).bind fun z9u=>some (z9u.1,z9u.2)
set_option maxRecDepth 20000 in
theorem w_rat_do (Z : Zp)   (z1b : z2) (z1c : z2) (r : z2 × Int) (w₀ : World) (hz : PZ [] w₀ Z)
  (h : m_rat_do z1b z1c = some r) :
  Calls Try.prog 39 #[(.string ⟨#[43]⟩),(.agg #[(.int .i64 z1b.fN),(.int .i64 z1b.fD)]),(.agg #[(.int .i64 z1c.fN),(.int .i64 z1c.fD)])] w₀ fun e w'=>e = .returned (.tuple #[(.agg #[(.int .i64 r.1.fN),(.int .i64 r.1.fD)]),(.int .i64 r.2)]) ∧ Hp [] w₀ w' []:=by
 unfold m_rat_do at h
 refine Calls.ofWC (vs:=[(.string ⟨#[43]⟩),(.agg #[(.int .i64 z1b.fN),(.int .i64 z1b.fD)]),(.agg #[(.int .i64 z1c.fN),(.int .i64 z1c.fD)])]) (pre:=[]) (env:=[(0,(.string ⟨#[43]⟩)),(1,(.agg #[(.int .i64 z1b.fN),(.int .i64 z1b.fD)])),(2,(.agg #[(.int .i64 z1c.fN),(.int .i64 z1c.fD)]))]) Try.func39 rfl Try.ntmps39 rfl (Hp.nil w₀ _) rfl ?_
 refine WC.seq ?_
 refine WC.region ?_
 refine WL.new (dd:=4) rfl rfl rfl (e_box (cs:=[(.int .i64 z1b.fN),(.int .i64 z1b.fD)]) rfl rfl) ?_
 intro zH _
 refine WL.new (dd:=5) rfl rfl rfl (e_box (cs:=[(.int .i64 z1c.fN),(.int .i64 z1c.fD)]) rfl rfl) ?_
 intro zI _
 refine WL.new (dd:=6) rfl rfl rfl (e_alloc (cs:=[(.int .i64 0),(.int .i64 0)]) zeroT_28 rfl) ?_
 intro z3R _
 refine WL.quiet (d:=7) rfl rfl rfl (q_assign rfl) ?_
 refine WL.nil ?_
 refine WX.then ?_
 refine WC.seq ?_
 refine WC.seq ?_
 obtain ⟨zel,zpa,h⟩:=zb h
 obtain ⟨zd1,zld,h⟩:=zb h
 refine WC.region ?_
 refine WL.quiet (d:=9) rfl rfl rfl (q_loadA (cs:=[(.int .i64 z1b.fN),(.int .i64 z1b.fD)]) aggT_28 rfl rfl (rd_all (.there (.there .here)))) ?_
 refine WL.callD (dd:=10) rfl rfl rfl (zg (l:=[.tmp 9]) Try.call42 (.cons rfl .nil)) (.nil : Sel [stb z3R 28 [(.int .i64 0),(.int .i64 0)],stb zI 28 [(.int .i64 z1c.fN),(.int .i64 z1c.fD)],stb zH 28 [(.int .i64 z1b.fN),(.int .i64 z1b.fD)]] [] [stb z3R 28 [(.int .i64 0),(.int .i64 0)],stb zI 28 [(.int .i64 z1c.fN),(.int .i64 z1c.fD)],stb zH 28 [(.int .i64 z1b.fN),(.int .i64 z1b.fD)]]) (fun w hw=>by have pz:=(hz.call hw (.nil : Sel [stb z3R 28 [(.int .i64 0),(.int .i64 0)],stb zI 28 [(.int .i64 z1c.fN),(.int .i64 z1c.fD)],stb zH 28 [(.int .i64 z1b.fN),(.int .i64 z1b.fD)]] [] [stb z3R 28 [(.int .i64 0),(.int .i64 0)],stb zI 28 [(.int .i64 z1c.fN),(.int .i64 z1c.fD)],stb zH 28 [(.int .i64 z1b.fN),(.int .i64 z1b.fD)]])); exact w_rat_Valid (Z:=_)  (z1q:=z1b) (r:=zel) w pz  zpa) ?_
 refine WL.quiet (d:=11) rfl rfl rfl (q_not rfl) ?_
 refine WL.quiet (d:=12) rfl rfl rfl (q_move rfl) ?_
 refine WL.cut0 True [(0,(.string ⟨#[43]⟩)),(4,(.pointer (some ⟨zH,0,none⟩))),(5,(.pointer (some ⟨zI,0,none⟩))),(6,(.pointer (some ⟨z3R,0,none⟩))),(16,(.bool zd1))] [stb z3R 28 [(.int .i64 0),(.int .i64 0)],stb zI 28 [(.int .i64 z1c.fN),(.int .i64 z1c.fD)],stb zH 28 [(.int .i64 z1b.fN),(.int .i64 z1b.fD)]] 4 ?_ (fun _=>?_)
 ·rcases Bool.eq_false_or_eq_true (!zel) with hb' | hb'
  ·have zle:=hb'; clear hb'
   have zge:=ite_t zld zle
   replace zge:=Option.some.inj zge
   refine WL.pin (i:=12) rfl zle ?_
   refine WL.skip rfl rfl rfl ?_
   refine WL.skip rfl rfl rfl ?_
   refine WL.skip rfl rfl rfl ?_
   refine WL.quiet (d:=16) rfl rfl rfl (q_pickT rfl rfl) ?_
   exact WL.cutEnd () trivial (.cons rfl (.cons rfl (.cons rfl (.cons rfl (.cons (zl zge) .nil))))) (.cons .here (.cons .here (.cons .here .nil)))
  ·have zlf:=hb'; clear hb'
   have zd2:=ite_f zld zlf
   obtain ⟨zgd,zpb,zd2⟩:=zb zd2
   replace zd2:=Option.some.inj zd2
   refine WL.pin (i:=12) rfl zlf ?_
   refine WL.quiet (d:=13) rfl rfl rfl (q_loadA (cs:=[(.int .i64 z1c.fN),(.int .i64 z1c.fD)]) aggT_28 rfl rfl (rd_all (.there .here))) ?_
   refine WL.callD (dd:=14) rfl rfl rfl (zg (l:=[.tmp 13]) Try.call42 (.cons rfl .nil)) (.nil : Sel [stb z3R 28 [(.int .i64 0),(.int .i64 0)],stb zI 28 [(.int .i64 z1c.fN),(.int .i64 z1c.fD)],stb zH 28 [(.int .i64 z1b.fN),(.int .i64 z1b.fD)]] [] [stb z3R 28 [(.int .i64 0),(.int .i64 0)],stb zI 28 [(.int .i64 z1c.fN),(.int .i64 z1c.fD)],stb zH 28 [(.int .i64 z1b.fN),(.int .i64 z1b.fD)]]) (fun w hw=>by have pz:=(hz.call hw (.nil : Sel [stb z3R 28 [(.int .i64 0),(.int .i64 0)],stb zI 28 [(.int .i64 z1c.fN),(.int .i64 z1c.fD)],stb zH 28 [(.int .i64 z1b.fN),(.int .i64 z1b.fD)]] [] [stb z3R 28 [(.int .i64 0),(.int .i64 0)],stb zI 28 [(.int .i64 z1c.fN),(.int .i64 z1c.fD)],stb zH 28 [(.int .i64 z1b.fN),(.int .i64 z1b.fD)]])); exact w_rat_Valid (Z:=_)  (z1q:=z1c) (r:=zgd) w pz  zpb) ?_
   refine WL.quiet (d:=15) rfl rfl rfl (q_not rfl) ?_
   refine WL.quiet (d:=16) rfl rfl rfl (q_pickF rfl rfl) ?_
   exact WL.cutEnd () trivial (.cons rfl (.cons rfl (.cons rfl (.cons rfl (.cons (zl zd2) .nil))))) (.cons .here (.cons .here (.cons .here .nil)))
 ·skip
  refine WL.quiet (d:=17) rfl rfl rfl (q_move rfl) ?_
  refine WL.cut0 True [(0,(.string ⟨#[43]⟩)),(4,(.pointer (some ⟨zH,0,none⟩))),(5,(.pointer (some ⟨zI,0,none⟩))),(6,(.pointer (some ⟨z3R,0,none⟩))),(25,(.bool zd1))] [stb z3R 28 [(.int .i64 0),(.int .i64 0)],stb zI 28 [(.int .i64 z1c.fN),(.int .i64 z1c.fD)],stb zH 28 [(.int .i64 z1b.fN),(.int .i64 z1b.fD)]] 8 ?_ (fun _=>?_)
  ·rcases Bool.eq_false_or_eq_true zd1 with hb' | hb'
   ·have zlg:=hb'; clear hb'
    refine WL.pin (i:=17) rfl zlg ?_
    refine WL.skip rfl rfl rfl ?_
    refine WL.skip rfl rfl rfl ?_
    refine WL.skip rfl rfl rfl ?_
    refine WL.skip rfl rfl rfl ?_
    refine WL.skip rfl rfl rfl ?_
    refine WL.skip rfl rfl rfl ?_
    refine WL.skip rfl rfl rfl ?_
    refine WL.quiet (d:=25) rfl rfl rfl (q_pickT rfl rfl) ?_
    exact WL.cutEnd () trivial (.cons rfl (.cons rfl (.cons rfl (.cons rfl (.cons (zl (Eq.symm zlg)) .nil))))) (.cons .here (.cons .here (.cons .here .nil)))
   ·have zlh:=hb'; clear hb'
    refine WL.pin (i:=17) rfl zlh ?_
    refine WL.quiet (d:=18) rfl rfl rfl (q_move rfl) ?_
    refine WL.quiet (d:=19) rfl rfl rfl (q_seqlC (r:=false) (by decide) rfl rfl) ?_
    refine WL.quiet (d:=20) rfl rfl rfl (q_move rfl) ?_
    refine WL.skip rfl rfl rfl ?_
    refine WL.skip rfl rfl rfl ?_
    refine WL.skip rfl rfl rfl ?_
    refine WL.quiet (d:=24) rfl rfl rfl (q_pickF rfl rfl) ?_
    refine WL.quiet (d:=25) rfl rfl rfl (q_pickF rfl rfl) ?_
    exact WL.cutEnd () trivial (.cons rfl (.cons rfl (.cons rfl (.cons rfl (.cons (zl (Eq.symm zlh)) .nil))))) (.cons .here (.cons .here (.cons .here .nil)))
  ·skip
   refine WL.nil ?_
   refine WX.then ?_
   refine WC.cond rfl (fun zgf=>?_) (fun zgf=>?_)
   ·replace h:=ite_t h zgf
    refine WC.seq ?_
    refine WC.region ?_
    refine WL.quiet (d:=26) rfl rfl rfl (q_build (v:=(.agg #[(.int .i64 0),(.int .i64 0)])) (Eos.parts (l:=[]) .nil []) (fun _=>by kernel_rfl)) ?_
    refine WL.eff0 rfl rfl (e_store (vs:=[(.int .i64 0),(.int .i64 0)]) (ds:=[(.int .i64 0),(.int .i64 0)]) sizT_28 rfl rfl rfl rfl (oc_cons rfl (oc_cons rfl oc_nil)) .here (Nat.le_of_ble_eq_true rfl) rfl) ?_
    refine WL.quiet (d:=7) rfl rfl rfl (q_assign rfl) ?_
    refine WL.nil ?_
    refine WX.then ?_
    refine WC.ret ?_
    refine WX.thenRet ?_
    obtain rfl:=Option.some.inj h
    refine WX.bpRet Try.results39 (.agg rfl aggT_28 rfl (rd_all .here) (.tmp rfl .nil)) (fun w hw=>?_)
    exact ⟨ret2 rfl rfl,hw.sub .nil⟩
   ·replace h:=ite_f h zgf
    refine WC.skip ?_
    refine WX.then ?_
    refine WC.seq ?_
    refine WC.region ?_
    refine WL.new (dd:=27) rfl rfl rfl (e_makeMap Value.string (fun x=>x)) ?_
    intro z6o _
    refine WL.quiet (d:=28) rfl rfl rfl (q_makeFunc (Eos.caps (l:=[.tmp 4,.tmp 5]) (.cons rfl (.cons rfl .nil)))) ?_
    refine WL.eff0 rfl rfl (e_insert (k:=⟨#[43]⟩) (v:=(.func (.func 64) #[] #[(.pointer (some ⟨zH,0,none⟩)),(.pointer (some ⟨zI,0,none⟩))])) keyT_9 Try.underlying94 rfl rfl rfl rfl .here) ?_
    refine WL.quiet (d:=29) rfl rfl rfl (q_makeFunc (Eos.caps (l:=[.tmp 4,.tmp 5]) (.cons rfl (.cons rfl .nil)))) ?_
    refine WL.eff0 rfl rfl (e_insert (k:=⟨#[45]⟩) (v:=(.func (.func 65) #[] #[(.pointer (some ⟨zH,0,none⟩)),(.pointer (some ⟨zI,0,none⟩))])) keyT_9 Try.underlying94 rfl rfl rfl rfl .here) ?_
    refine WL.quiet (d:=30) rfl rfl rfl (q_makeFunc (Eos.caps (l:=[.tmp 4,.tmp 5]) (.cons rfl (.cons rfl .nil)))) ?_
    refine WL.eff0 rfl rfl (e_insert (k:=⟨#[42]⟩) (v:=(.func (.func 66) #[] #[(.pointer (some ⟨zH,0,none⟩)),(.pointer (some ⟨zI,0,none⟩))])) keyT_9 Try.underlying94 rfl rfl rfl rfl .here) ?_
    refine WL.quiet (d:=31) rfl rfl rfl (q_makeFunc (Eos.caps (l:=[.tmp 4,.tmp 5]) (.cons rfl (.cons rfl .nil)))) ?_
    refine WL.eff0 rfl rfl (e_insert (k:=⟨#[47]⟩) (v:=(.func (.func 67) #[] #[(.pointer (some ⟨zH,0,none⟩)),(.pointer (some ⟨zI,0,none⟩))])) keyT_9 Try.underlying94 rfl rfl rfl rfl .here) ?_
    refine WL.quiet (d:=32) rfl rfl rfl (q_move rfl) ?_
    refine WL.quiet (d:=8) rfl rfl rfl (q_assign rfl) ?_
    refine WL.nil ?_
    refine WX.then ?_
    refine WC.seq ?_
    obtain ⟨zbi,zpc,h⟩:=zb h
    obtain ⟨z9u,zpd,h⟩:=zb h
    refine WC.region ?_
    refine WL.quiet (d:=33) rfl rfl rfl (q_move rfl) ?_
    refine WL.quiet (d:=34) rfl rfl rfl (q_move rfl) ?_
    refine WL.quiet (d:=35) rfl rfl rfl (q_lookC (k:=⟨#[43]⟩) (dflt:=.nilFunc) (r:=(.func (.func 64) #[] #[(.pointer (some ⟨zH,0,none⟩)),(.pointer (some ⟨zI,0,none⟩))])) keyT_9 Try.underlying94 zeroT_93 rfl rfl rfl .here (by rfl)) ?_
    refine WL.callD (dd:=36) rfl rfl rfl (run_callv (l:=[]) Try.call64 rfl .nil) (.nil : Sel [mapA z6o Value.string (fun x=>x) [(⟨#[43]⟩,(.func (.func 64) #[] #[(.pointer (some ⟨zH,0,none⟩)),(.pointer (some ⟨zI,0,none⟩))])),(⟨#[45]⟩,(.func (.func 65) #[] #[(.pointer (some ⟨zH,0,none⟩)),(.pointer (some ⟨zI,0,none⟩))])),(⟨#[42]⟩,(.func (.func 66) #[] #[(.pointer (some ⟨zH,0,none⟩)),(.pointer (some ⟨zI,0,none⟩))])),(⟨#[47]⟩,(.func (.func 67) #[] #[(.pointer (some ⟨zH,0,none⟩)),(.pointer (some ⟨zI,0,none⟩))]))],stb z3R 28 [(.int .i64 0),(.int .i64 0)],stb zI 28 [(.int .i64 z1c.fN),(.int .i64 z1c.fD)],stb zH 28 [(.int .i64 z1b.fN),(.int .i64 z1b.fD)]] [] [mapA z6o Value.string (fun x=>x) [(⟨#[43]⟩,(.func (.func 64) #[] #[(.pointer (some ⟨zH,0,none⟩)),(.pointer (some ⟨zI,0,none⟩))])),(⟨#[45]⟩,(.func (.func 65) #[] #[(.pointer (some ⟨zH,0,none⟩)),(.pointer (some ⟨zI,0,none⟩))])),(⟨#[42]⟩,(.func (.func 66) #[] #[(.pointer (some ⟨zH,0,none⟩)),(.pointer (some ⟨zI,0,none⟩))])),(⟨#[47]⟩,(.func (.func 67) #[] #[(.pointer (some ⟨zH,0,none⟩)),(.pointer (some ⟨zI,0,none⟩))]))],stb z3R 28 [(.int .i64 0),(.int .i64 0)],stb zI 28 [(.int .i64 z1c.fN),(.int .i64 z1c.fD)],stb zH 28 [(.int .i64 z1b.fN),(.int .i64 z1b.fD)]]) (fun w hw=>by have pz:=(hz.call hw (.nil : Sel [mapA z6o Value.string (fun x=>x) [(⟨#[43]⟩,(.func (.func 64) #[] #[(.pointer (some ⟨zH,0,none⟩)),(.pointer (some ⟨zI,0,none⟩))])),(⟨#[45]⟩,(.func (.func 65) #[] #[(.pointer (some ⟨zH,0,none⟩)),(.pointer (some ⟨zI,0,none⟩))])),(⟨#[42]⟩,(.func (.func 66) #[] #[(.pointer (some ⟨zH,0,none⟩)),(.pointer (some ⟨zI,0,none⟩))])),(⟨#[47]⟩,(.func (.func 67) #[] #[(.pointer (some ⟨zH,0,none⟩)),(.pointer (some ⟨zI,0,none⟩))]))],stb z3R 28 [(.int .i64 0),(.int .i64 0)],stb zI 28 [(.int .i64 z1c.fN),(.int .i64 z1c.fD)],stb zH 28 [(.int .i64 z1b.fN),(.int .i64 z1b.fD)]] [] [mapA z6o Value.string (fun x=>x) [(⟨#[43]⟩,(.func (.func 64) #[] #[(.pointer (some ⟨zH,0,none⟩)),(.pointer (some ⟨zI,0,none⟩))])),(⟨#[45]⟩,(.func (.func 65) #[] #[(.pointer (some ⟨zH,0,none⟩)),(.pointer (some ⟨zI,0,none⟩))])),(⟨#[42]⟩,(.func (.func 66) #[] #[(.pointer (some ⟨zH,0,none⟩)),(.pointer (some ⟨zI,0,none⟩))])),(⟨#[47]⟩,(.func (.func 67) #[] #[(.pointer (some ⟨zH,0,none⟩)),(.pointer (some ⟨zI,0,none⟩))]))],stb z3R 28 [(.int .i64 0),(.int .i64 0)],stb zI 28 [(.int .i64 z1c.fN),(.int .i64 z1c.fD)],stb zH 28 [(.int .i64 z1b.fN),(.int .i64 z1b.fD)]])).lend hw (.nil : Sel [mapA z6o Value.string (fun x=>x) [(⟨#[43]⟩,(.func (.func 64) #[] #[(.pointer (some ⟨zH,0,none⟩)),(.pointer (some ⟨zI,0,none⟩))])),(⟨#[45]⟩,(.func (.func 65) #[] #[(.pointer (some ⟨zH,0,none⟩)),(.pointer (some ⟨zI,0,none⟩))])),(⟨#[42]⟩,(.func (.func 66) #[] #[(.pointer (some ⟨zH,0,none⟩)),(.pointer (some ⟨zI,0,none⟩))])),(⟨#[47]⟩,(.func (.func 67) #[] #[(.pointer (some ⟨zH,0,none⟩)),(.pointer (some ⟨zI,0,none⟩))]))],stb z3R 28 [(.int .i64 0),(.int .i64 0)],stb zI 28 [(.int .i64 z1c.fN),(.int .i64 z1c.fD)],stb zH 28 [(.int .i64 z1b.fN),(.int .i64 z1b.fD)]] [] [mapA z6o Value.string (fun x=>x) [(⟨#[43]⟩,(.func (.func 64) #[] #[(.pointer (some ⟨zH,0,none⟩)),(.pointer (some ⟨zI,0,none⟩))])),(⟨#[45]⟩,(.func (.func 65) #[] #[(.pointer (some ⟨zH,0,none⟩)),(.pointer (some ⟨zI,0,none⟩))])),(⟨#[42]⟩,(.func (.func 66) #[] #[(.pointer (some ⟨zH,0,none⟩)),(.pointer (some ⟨zI,0,none⟩))])),(⟨#[47]⟩,(.func (.func 67) #[] #[(.pointer (some ⟨zH,0,none⟩)),(.pointer (some ⟨zI,0,none⟩))]))],stb z3R 28 [(.int .i64 0),(.int .i64 0)],stb zI 28 [(.int .i64 z1c.fN),(.int .i64 z1c.fD)],stb zH 28 [(.int .i64 z1b.fN),(.int .i64 z1b.fD)]]) (B:=[stb zH 28 [(.int .i64 z1b.fN),(.int .i64 z1b.fD)],stb zI 28 [(.int .i64 z1c.fN),(.int .i64 z1c.fD)]]) (fun _ hx'=>((.cons (.there (.there (.there .here))) (.cons (.there (.there .here)) .nil)) : Sel _ [stb zH 28 [(.int .i64 z1b.fN),(.int .i64 z1b.fD)],stb zI 28 [(.int .i64 z1c.fN),(.int .i64 z1c.fD)]] _).mem hx'); exact w_rat_do_1 (Z:=_) (zcZ:=⟨zH,0,none⟩) (zd0:=⟨zI,0,none⟩) (z9s:=z1b) (z9t:=z1c) (r:=zbi) w pz ((hw.lent (.nil : Sel [mapA z6o Value.string (fun x=>x) [(⟨#[43]⟩,(.func (.func 64) #[] #[(.pointer (some ⟨zH,0,none⟩)),(.pointer (some ⟨zI,0,none⟩))])),(⟨#[45]⟩,(.func (.func 65) #[] #[(.pointer (some ⟨zH,0,none⟩)),(.pointer (some ⟨zI,0,none⟩))])),(⟨#[42]⟩,(.func (.func 66) #[] #[(.pointer (some ⟨zH,0,none⟩)),(.pointer (some ⟨zI,0,none⟩))])),(⟨#[47]⟩,(.func (.func 67) #[] #[(.pointer (some ⟨zH,0,none⟩)),(.pointer (some ⟨zI,0,none⟩))]))],stb z3R 28 [(.int .i64 0),(.int .i64 0)],stb zI 28 [(.int .i64 z1c.fN),(.int .i64 z1c.fD)],stb zH 28 [(.int .i64 z1b.fN),(.int .i64 z1b.fD)]] [] [mapA z6o Value.string (fun x=>x) [(⟨#[43]⟩,(.func (.func 64) #[] #[(.pointer (some ⟨zH,0,none⟩)),(.pointer (some ⟨zI,0,none⟩))])),(⟨#[45]⟩,(.func (.func 65) #[] #[(.pointer (some ⟨zH,0,none⟩)),(.pointer (some ⟨zI,0,none⟩))])),(⟨#[42]⟩,(.func (.func 66) #[] #[(.pointer (some ⟨zH,0,none⟩)),(.pointer (some ⟨zI,0,none⟩))])),(⟨#[47]⟩,(.func (.func 67) #[] #[(.pointer (some ⟨zH,0,none⟩)),(.pointer (some ⟨zI,0,none⟩))]))],stb z3R 28 [(.int .i64 0),(.int .i64 0)],stb zI 28 [(.int .i64 z1c.fN),(.int .i64 z1c.fD)],stb zH 28 [(.int .i64 z1b.fN),(.int .i64 z1b.fD)]]) (B:=[stb zH 28 [(.int .i64 z1b.fN),(.int .i64 z1b.fD)],stb zI 28 [(.int .i64 z1c.fN),(.int .i64 z1c.fD)]]) (fun _ hx'=>((.cons (.there (.there (.there .here))) (.cons (.there (.there .here)) .nil)) : Sel _ [stb zH 28 [(.int .i64 z1b.fN),(.int .i64 z1b.fD)],stb zI 28 [(.int .i64 z1c.fN),(.int .i64 z1c.fD)]] _).mem hx') (.head _) _).stb) ((hw.lent (.nil : Sel [mapA z6o Value.string (fun x=>x) [(⟨#[43]⟩,(.func (.func 64) #[] #[(.pointer (some ⟨zH,0,none⟩)),(.pointer (some ⟨zI,0,none⟩))])),(⟨#[45]⟩,(.func (.func 65) #[] #[(.pointer (some ⟨zH,0,none⟩)),(.pointer (some ⟨zI,0,none⟩))])),(⟨#[42]⟩,(.func (.func 66) #[] #[(.pointer (some ⟨zH,0,none⟩)),(.pointer (some ⟨zI,0,none⟩))])),(⟨#[47]⟩,(.func (.func 67) #[] #[(.pointer (some ⟨zH,0,none⟩)),(.pointer (some ⟨zI,0,none⟩))]))],stb z3R 28 [(.int .i64 0),(.int .i64 0)],stb zI 28 [(.int .i64 z1c.fN),(.int .i64 z1c.fD)],stb zH 28 [(.int .i64 z1b.fN),(.int .i64 z1b.fD)]] [] [mapA z6o Value.string (fun x=>x) [(⟨#[43]⟩,(.func (.func 64) #[] #[(.pointer (some ⟨zH,0,none⟩)),(.pointer (some ⟨zI,0,none⟩))])),(⟨#[45]⟩,(.func (.func 65) #[] #[(.pointer (some ⟨zH,0,none⟩)),(.pointer (some ⟨zI,0,none⟩))])),(⟨#[42]⟩,(.func (.func 66) #[] #[(.pointer (some ⟨zH,0,none⟩)),(.pointer (some ⟨zI,0,none⟩))])),(⟨#[47]⟩,(.func (.func 67) #[] #[(.pointer (some ⟨zH,0,none⟩)),(.pointer (some ⟨zI,0,none⟩))]))],stb z3R 28 [(.int .i64 0),(.int .i64 0)],stb zI 28 [(.int .i64 z1c.fN),(.int .i64 z1c.fD)],stb zH 28 [(.int .i64 z1b.fN),(.int .i64 z1b.fD)]]) (B:=[stb zH 28 [(.int .i64 z1b.fN),(.int .i64 z1b.fD)],stb zI 28 [(.int .i64 z1c.fN),(.int .i64 z1c.fD)]]) (fun _ hx'=>((.cons (.there (.there (.there .here))) (.cons (.there (.there .here)) .nil)) : Sel _ [stb zH 28 [(.int .i64 z1b.fN),(.int .i64 z1b.fD)],stb zI 28 [(.int .i64 z1c.fN),(.int .i64 z1c.fD)]] _).mem hx') (.tail _ (.head _)) _).stb) zpc) ?_
    refine WL.quiet (d:=37) rfl rfl rfl (q_extract rfl rfl) ?_
    refine WL.quiet (d:=38) rfl rfl rfl (q_extract rfl rfl) ?_
    refine WL.callD (dd:=39) rfl rfl rfl (zg (l:=[.tmp 37,.tmp 38]) Try.call38 (.cons rfl (.cons rfl .nil))) (.nil : Sel [mapA z6o Value.string (fun x=>x) [(⟨#[43]⟩,(.func (.func 64) #[] #[(.pointer (some ⟨zH,0,none⟩)),(.pointer (some ⟨zI,0,none⟩))])),(⟨#[45]⟩,(.func (.func 65) #[] #[(.pointer (some ⟨zH,0,none⟩)),(.pointer (some ⟨zI,0,none⟩))])),(⟨#[42]⟩,(.func (.func 66) #[] #[(.pointer (some ⟨zH,0,none⟩)),(.pointer (some ⟨zI,0,none⟩))])),(⟨#[47]⟩,(.func (.func 67) #[] #[(.pointer (some ⟨zH,0,none⟩)),(.pointer (some ⟨zI,0,none⟩))]))],stb z3R 28 [(.int .i64 0),(.int .i64 0)],stb zI 28 [(.int .i64 z1c.fN),(.int .i64 z1c.fD)],stb zH 28 [(.int .i64 z1b.fN),(.int .i64 z1b.fD)]] [] [mapA z6o Value.string (fun x=>x) [(⟨#[43]⟩,(.func (.func 64) #[] #[(.pointer (some ⟨zH,0,none⟩)),(.pointer (some ⟨zI,0,none⟩))])),(⟨#[45]⟩,(.func (.func 65) #[] #[(.pointer (some ⟨zH,0,none⟩)),(.pointer (some ⟨zI,0,none⟩))])),(⟨#[42]⟩,(.func (.func 66) #[] #[(.pointer (some ⟨zH,0,none⟩)),(.pointer (some ⟨zI,0,none⟩))])),(⟨#[47]⟩,(.func (.func 67) #[] #[(.pointer (some ⟨zH,0,none⟩)),(.pointer (some ⟨zI,0,none⟩))]))],stb z3R 28 [(.int .i64 0),(.int .i64 0)],stb zI 28 [(.int .i64 z1c.fN),(.int .i64 z1c.fD)],stb zH 28 [(.int .i64 z1b.fN),(.int .i64 z1b.fD)]]) (fun w hw=>by have pz:=(hz.call hw (.nil : Sel [mapA z6o Value.string (fun x=>x) [(⟨#[43]⟩,(.func (.func 64) #[] #[(.pointer (some ⟨zH,0,none⟩)),(.pointer (some ⟨zI,0,none⟩))])),(⟨#[45]⟩,(.func (.func 65) #[] #[(.pointer (some ⟨zH,0,none⟩)),(.pointer (some ⟨zI,0,none⟩))])),(⟨#[42]⟩,(.func (.func 66) #[] #[(.pointer (some ⟨zH,0,none⟩)),(.pointer (some ⟨zI,0,none⟩))])),(⟨#[47]⟩,(.func (.func 67) #[] #[(.pointer (some ⟨zH,0,none⟩)),(.pointer (some ⟨zI,0,none⟩))]))],stb z3R 28 [(.int .i64 0),(.int .i64 0)],stb zI 28 [(.int .i64 z1c.fN),(.int .i64 z1c.fD)],stb zH 28 [(.int .i64 z1b.fN),(.int .i64 z1b.fD)]] [] [mapA z6o Value.string (fun x=>x) [(⟨#[43]⟩,(.func (.func 64) #[] #[(.pointer (some ⟨zH,0,none⟩)),(.pointer (some ⟨zI,0,none⟩))])),(⟨#[45]⟩,(.func (.func 65) #[] #[(.pointer (some ⟨zH,0,none⟩)),(.pointer (some ⟨zI,0,none⟩))])),(⟨#[42]⟩,(.func (.func 66) #[] #[(.pointer (some ⟨zH,0,none⟩)),(.pointer (some ⟨zI,0,none⟩))])),(⟨#[47]⟩,(.func (.func 67) #[] #[(.pointer (some ⟨zH,0,none⟩)),(.pointer (some ⟨zI,0,none⟩))]))],stb z3R 28 [(.int .i64 0),(.int .i64 0)],stb zI 28 [(.int .i64 z1c.fN),(.int .i64 z1c.fD)],stb zH 28 [(.int .i64 z1b.fN),(.int .i64 z1b.fD)]])); exact w_rat_Make (Z:=_)  (n_22:=zbi.1) (d_23:=zbi.2) (r:=z9u) w pz  zpd) ?_
    refine WL.quiet (d:=40) rfl rfl rfl (q_extract rfl rfl) ?_
    refine WL.quiet (d:=41) rfl rfl rfl (q_extract rfl rfl) ?_
    refine WL.eff0 rfl rfl (e_store (vs:=[(.int .i64 z9u.1.fN),(.int .i64 z9u.1.fD)]) (ds:=[(.int .i64 z9u.1.fN),(.int .i64 z9u.1.fD)]) sizT_28 rfl rfl rfl rfl (oc_cons rfl (oc_cons rfl oc_nil)) (.there .here) (Nat.le_of_ble_eq_true rfl) rfl) ?_
    refine WL.quiet (d:=7) rfl rfl rfl (q_assign rfl) ?_
    refine WL.nil ?_
    refine WX.then ?_
    refine WC.ret ?_
    obtain rfl:=Option.some.inj h
    refine WX.bpRet Try.results39 (.agg rfl aggT_28 rfl (rd_all .here) (.tmp rfl .nil)) (fun w hw=>?_)
    exact ⟨ret2 rfl rfl,hw.sub .nil⟩
def m_rat_Add (z41 : z2) (z42 : z2) : Option (z2 × Int) :=
 (m_rat_do z41 z42).bind fun z9v=>some (z9v.1,z9v.2)
set_option maxRecDepth 20000 in
theorem w_rat_Add (Z : Zp)   (z41 : z2) (z42 : z2) (r : z2 × Int) (w₀ : World) (hz : PZ [] w₀ Z)
  (h : m_rat_Add z41 z42 = some r) :
  Calls Try.prog 12 #[(.agg #[(.int .i64 z41.fN),(.int .i64 z41.fD)]),(.agg #[(.int .i64 z42.fN),(.int .i64 z42.fD)])] w₀ fun e w'=>e = .returned (.tuple #[(.agg #[(.int .i64 r.1.fN),(.int .i64 r.1.fD)]),(.int .i64 r.2)]) ∧ Hp [] w₀ w' []:=by
 unfold m_rat_Add at h
 refine Calls.ofWC (vs:=[(.agg #[(.int .i64 z41.fN),(.int .i64 z41.fD)]),(.agg #[(.int .i64 z42.fN),(.int .i64 z42.fD)])]) (pre:=[]) (env:=[(0,(.agg #[(.int .i64 z41.fN),(.int .i64 z41.fD)])),(1,(.agg #[(.int .i64 z42.fN),(.int .i64 z42.fD)]))]) Try.func12 rfl Try.ntmps12 rfl (Hp.nil w₀ _) rfl ?_
 refine WC.seq ?_
 refine WC.region ?_
 refine WL.new (dd:=2) rfl rfl rfl (e_box (cs:=[(.int .i64 z41.fN),(.int .i64 z41.fD)]) rfl rfl) ?_
 intro zem _
 refine WL.new (dd:=3) rfl rfl rfl (e_box (cs:=[(.int .i64 z42.fN),(.int .i64 z42.fD)]) rfl rfl) ?_
 intro zen _
 refine WL.new (dd:=4) rfl rfl rfl (e_alloc (cs:=[(.int .i64 0),(.int .i64 0)]) zeroT_28 rfl) ?_
 intro zeo _
 refine WL.quiet (d:=5) rfl rfl rfl (q_assign rfl) ?_
 refine WL.nil ?_
 refine WX.then ?_
 refine WC.seq ?_
 obtain ⟨z9v,zpe,h⟩:=zb h
 refine WC.region ?_
 refine WL.quiet (d:=6) rfl rfl rfl (q_loadA (cs:=[(.int .i64 z41.fN),(.int .i64 z41.fD)]) aggT_28 rfl rfl (rd_all (.there (.there .here)))) ?_
 refine WL.quiet (d:=7) rfl rfl rfl (q_loadA (cs:=[(.int .i64 z42.fN),(.int .i64 z42.fD)]) aggT_28 rfl rfl (rd_all (.there .here))) ?_
 refine WL.callD (dd:=8) rfl rfl rfl (zg (l:=[.const (.string ⟨#[43]⟩),.tmp 6,.tmp 7]) Try.call39 (.cons rfl (.cons rfl (.cons rfl .nil)))) (.nil : Sel [stb zeo 28 [(.int .i64 0),(.int .i64 0)],stb zen 28 [(.int .i64 z42.fN),(.int .i64 z42.fD)],stb zem 28 [(.int .i64 z41.fN),(.int .i64 z41.fD)]] [] [stb zeo 28 [(.int .i64 0),(.int .i64 0)],stb zen 28 [(.int .i64 z42.fN),(.int .i64 z42.fD)],stb zem 28 [(.int .i64 z41.fN),(.int .i64 z41.fD)]]) (fun w hw=>by have pz:=(hz.call hw (.nil : Sel [stb zeo 28 [(.int .i64 0),(.int .i64 0)],stb zen 28 [(.int .i64 z42.fN),(.int .i64 z42.fD)],stb zem 28 [(.int .i64 z41.fN),(.int .i64 z41.fD)]] [] [stb zeo 28 [(.int .i64 0),(.int .i64 0)],stb zen 28 [(.int .i64 z42.fN),(.int .i64 z42.fD)],stb zem 28 [(.int .i64 z41.fN),(.int .i64 z41.fD)]])); exact w_rat_do (Z:=_)  (z1b:=z41) (z1c:=z42) (r:=z9v) w pz  zpe) ?_
 refine WL.quiet (d:=9) rfl rfl rfl (q_extract rfl rfl) ?_
 refine WL.quiet (d:=10) rfl rfl rfl (q_extract rfl rfl) ?_
 refine WL.eff0 rfl rfl (e_store (vs:=[(.int .i64 z9v.1.fN),(.int .i64 z9v.1.fD)]) (ds:=[(.int .i64 z9v.1.fN),(.int .i64 z9v.1.fD)]) sizT_28 rfl rfl rfl rfl (oc_cons rfl (oc_cons rfl oc_nil)) .here (Nat.le_of_ble_eq_true rfl) rfl) ?_
 refine WL.quiet (d:=5) rfl rfl rfl (q_assign rfl) ?_
 refine WL.nil ?_
 refine WX.then ?_
 refine WC.ret ?_
 obtain rfl:=Option.some.inj h
 refine WX.bpRet Try.results12 (.agg rfl aggT_28 rfl (rd_all .here) (.tmp rfl .nil)) (fun w hw=>?_)
 exact ⟨ret2 rfl rfl,hw.sub .nil⟩
def m_curve_good (z3f : z2) : Option Bool :=
 (m_rat_Valid z3f).bind fun zd3=>some (zd3 && (decide (z3f.fN ≥ 0)))
set_option maxRecDepth 20000 in
theorem w_curve_good (Z : Zp)   (z3f : z2) (r : Bool) (w₀ : World) (hz : PZ [] w₀ Z)
  (h : m_curve_good z3f = some r) :
  Calls Try.prog 50 #[(.agg #[(.int .i64 z3f.fN),(.int .i64 z3f.fD)])] w₀ fun e w'=>e = .returned (.bool r) ∧ Hp [] w₀ w' []:=by
 unfold m_curve_good at h
 refine Calls.ofWC (vs:=[(.agg #[(.int .i64 z3f.fN),(.int .i64 z3f.fD)])]) (pre:=[]) (env:=[(0,(.agg #[(.int .i64 z3f.fN),(.int .i64 z3f.fD)]))]) Try.func50 rfl Try.ntmps50 rfl (Hp.nil w₀ _) rfl ?_
 refine WC.seq ?_
 refine WC.region ?_
 refine WL.new (dd:=1) rfl rfl rfl (e_box (cs:=[(.int .i64 z3f.fN),(.int .i64 z3f.fD)]) rfl rfl) ?_
 intro zd4 _
 refine WL.quiet (d:=2) rfl rfl rfl (q_assign rfl) ?_
 refine WL.nil ?_
 refine WX.then ?_
 refine WC.seq ?_
 obtain ⟨zd3,zpf,h⟩:=zb h
 refine WC.region ?_
 refine WL.quiet (d:=3) rfl rfl rfl (q_loadA (cs:=[(.int .i64 z3f.fN),(.int .i64 z3f.fD)]) aggT_28 rfl rfl (rd_all .here)) ?_
 refine WL.callD (dd:=4) rfl rfl rfl (zg (l:=[.tmp 3]) Try.call42 (.cons rfl .nil)) (.nil : Sel [stb zd4 28 [(.int .i64 z3f.fN),(.int .i64 z3f.fD)]] [] [stb zd4 28 [(.int .i64 z3f.fN),(.int .i64 z3f.fD)]]) (fun w hw=>by have pz:=(hz.call hw (.nil : Sel [stb zd4 28 [(.int .i64 z3f.fN),(.int .i64 z3f.fD)]] [] [stb zd4 28 [(.int .i64 z3f.fN),(.int .i64 z3f.fD)]])); exact w_rat_Valid (Z:=_)  (z1q:=z3f) (r:=zd3) w pz  zpf) ?_
 refine WL.quiet (d:=5) rfl rfl rfl (q_move rfl) ?_
 refine WL.cut0 True [(2,(.bool false)),(9,(.bool (zd3 && (decide (z3f.fN ≥ 0)))))] [stb zd4 28 [(.int .i64 z3f.fN),(.int .i64 z3f.fD)]] 4 ?_ (fun _=>?_)
 ·rcases Bool.eq_false_or_eq_true zd3 with hb' | hb'
  ·have zli:=hb'; clear hb'
   refine WL.pin (i:=5) rfl zli ?_
   refine WL.quiet (d:=6) rfl rfl rfl (q_fieldAddr fo_28_0 rfl rfl) ?_
   refine WL.quiet (d:=7) rfl rfl rfl (q_load1 oneT_3 rfl (rd_stb .here rfl)) ?_
   refine WL.quiet (d:=8) rfl rfl rfl (q_geq rfl rfl) ?_
   refine WL.quiet (d:=9) rfl rfl rfl (q_pickT rfl rfl) ?_
   exact WL.cutEnd () trivial (.cons rfl (.cons (zl (and_r zli)) .nil)) (.cons .here .nil)
  ·have zlj:=hb'; clear hb'
   refine WL.pin (i:=5) rfl zlj ?_
   refine WL.skip rfl rfl rfl ?_
   refine WL.skip rfl rfl rfl ?_
   refine WL.skip rfl rfl rfl ?_
   refine WL.quiet (d:=9) rfl rfl rfl (q_pickF rfl rfl) ?_
   exact WL.cutEnd () trivial (.cons rfl (.cons (zl (and_l zlj)) .nil)) (.cons .here .nil)
 ·skip
  refine WL.quiet (d:=2) rfl rfl rfl (q_assign rfl) ?_
  refine WL.nil ?_
  refine WX.then ?_
  refine WC.ret ?_
  obtain rfl:=Option.some.inj h
  refine WX.bpRet Try.results50 (.tmp rfl .nil) (fun w hw=>?_)
  exact ⟨ret1 rfl,hw.sub .nil⟩
def m_curve_Valid_1 (z1D : z1) : Option Bool :=
 (m_curve_good z1D.fBurst).bind fun zep=>(if !zep then some true else (m_curve_good z1D.fRate).bind fun zgg=>some (!zgg)).bind fun zgh=>some zgh
set_option maxRecDepth 20000 in
theorem w_curve_Valid_1 (Z : Zp)   (z1D : z1) (r : Bool) (w₀ : World) (hz : PZ [] w₀ Z)
  (h : m_curve_Valid_1 z1D = some r) :
  Calls Try.prog 57 #[(.agg #[(.int .i64 z1D.fBurst.fN),(.int .i64 z1D.fBurst.fD),(.int .i64 z1D.fRate.fN),(.int .i64 z1D.fRate.fD)])] w₀ fun e w'=>e = .returned (.bool r) ∧ Hp [] w₀ w' []:=by
 unfold m_curve_Valid_1 at h
 refine Calls.ofWC (vs:=[(.agg #[(.int .i64 z1D.fBurst.fN),(.int .i64 z1D.fBurst.fD),(.int .i64 z1D.fRate.fN),(.int .i64 z1D.fRate.fD)])]) (pre:=[]) (env:=[(0,(.agg #[(.int .i64 z1D.fBurst.fN),(.int .i64 z1D.fBurst.fD),(.int .i64 z1D.fRate.fN),(.int .i64 z1D.fRate.fD)]))]) Try.func57 rfl Try.ntmps57 rfl (Hp.nil w₀ _) rfl ?_
 refine WC.seq ?_
 refine WC.region ?_
 refine WL.new (dd:=1) rfl rfl rfl (e_box (cs:=[(.int .i64 z1D.fBurst.fN),(.int .i64 z1D.fBurst.fD),(.int .i64 z1D.fRate.fN),(.int .i64 z1D.fRate.fD)]) rfl rfl) ?_
 intro z8j _
 refine WL.quiet (d:=2) rfl rfl rfl (q_assign rfl) ?_
 refine WL.nil ?_
 refine WX.then ?_
 refine WC.seq ?_
 obtain ⟨zep,zpg,h⟩:=zb h
 obtain ⟨zgh,zlk,h⟩:=zb h
 refine WC.region ?_
 refine WL.quiet (d:=3) rfl rfl rfl (q_fieldAddr fo_42_0 rfl rfl) ?_
 refine WL.quiet (d:=4) rfl rfl rfl (q_loadA (cs:=[(.int .i64 z1D.fBurst.fN),(.int .i64 z1D.fBurst.fD)]) aggT_28 rfl rfl (rd_sub (s:=2) .here rfl)) ?_
 refine WL.callD (dd:=5) rfl rfl rfl (zg (l:=[.tmp 4]) Try.call50 (.cons rfl .nil)) (.nil : Sel [stb z8j 42 [(.int .i64 z1D.fBurst.fN),(.int .i64 z1D.fBurst.fD),(.int .i64 z1D.fRate.fN),(.int .i64 z1D.fRate.fD)]] [] [stb z8j 42 [(.int .i64 z1D.fBurst.fN),(.int .i64 z1D.fBurst.fD),(.int .i64 z1D.fRate.fN),(.int .i64 z1D.fRate.fD)]]) (fun w hw=>by have pz:=(hz.call hw (.nil : Sel [stb z8j 42 [(.int .i64 z1D.fBurst.fN),(.int .i64 z1D.fBurst.fD),(.int .i64 z1D.fRate.fN),(.int .i64 z1D.fRate.fD)]] [] [stb z8j 42 [(.int .i64 z1D.fBurst.fN),(.int .i64 z1D.fBurst.fD),(.int .i64 z1D.fRate.fN),(.int .i64 z1D.fRate.fD)]])); exact w_curve_good (Z:=_)  (z3f:=z1D.fBurst) (r:=zep) w pz  zpg) ?_
 refine WL.quiet (d:=6) rfl rfl rfl (q_not rfl) ?_
 refine WL.quiet (d:=7) rfl rfl rfl (q_move rfl) ?_
 refine WL.cut0 True [(2,(.bool false)),(12,(.bool zgh))] [stb z8j 42 [(.int .i64 z1D.fBurst.fN),(.int .i64 z1D.fBurst.fD),(.int .i64 z1D.fRate.fN),(.int .i64 z1D.fRate.fD)]] 5 ?_ (fun _=>?_)
 ·rcases Bool.eq_false_or_eq_true (!zep) with hb' | hb'
  ·have zll:=hb'; clear hb'
   have zgi:=ite_t zlk zll
   replace zgi:=Option.some.inj zgi
   refine WL.pin (i:=7) rfl zll ?_
   refine WL.skip rfl rfl rfl ?_
   refine WL.skip rfl rfl rfl ?_
   refine WL.skip rfl rfl rfl ?_
   refine WL.skip rfl rfl rfl ?_
   refine WL.quiet (d:=12) rfl rfl rfl (q_pickT rfl rfl) ?_
   exact WL.cutEnd () trivial (.cons rfl (.cons (zl zgi) .nil)) (.cons .here .nil)
  ·have zlm:=hb'; clear hb'
   have zd5:=ite_f zlk zlm
   obtain ⟨zgg,zph,zd5⟩:=zb zd5
   replace zd5:=Option.some.inj zd5
   refine WL.pin (i:=7) rfl zlm ?_
   refine WL.quiet (d:=8) rfl rfl rfl (q_fieldAddr fo_42_1 rfl rfl) ?_
   refine WL.quiet (d:=9) rfl rfl rfl (q_loadA (cs:=[(.int .i64 z1D.fRate.fN),(.int .i64 z1D.fRate.fD)]) aggT_28 rfl rfl (rd_sub (s:=2) .here rfl)) ?_
   refine WL.callD (dd:=10) rfl rfl rfl (zg (l:=[.tmp 9]) Try.call50 (.cons rfl .nil)) (.nil : Sel [stb z8j 42 [(.int .i64 z1D.fBurst.fN),(.int .i64 z1D.fBurst.fD),(.int .i64 z1D.fRate.fN),(.int .i64 z1D.fRate.fD)]] [] [stb z8j 42 [(.int .i64 z1D.fBurst.fN),(.int .i64 z1D.fBurst.fD),(.int .i64 z1D.fRate.fN),(.int .i64 z1D.fRate.fD)]]) (fun w hw=>by have pz:=(hz.call hw (.nil : Sel [stb z8j 42 [(.int .i64 z1D.fBurst.fN),(.int .i64 z1D.fBurst.fD),(.int .i64 z1D.fRate.fN),(.int .i64 z1D.fRate.fD)]] [] [stb z8j 42 [(.int .i64 z1D.fBurst.fN),(.int .i64 z1D.fBurst.fD),(.int .i64 z1D.fRate.fN),(.int .i64 z1D.fRate.fD)]])); exact w_curve_good (Z:=_)  (z3f:=z1D.fRate) (r:=zgg) w pz  zph) ?_
   refine WL.quiet (d:=11) rfl rfl rfl (q_not rfl) ?_
   refine WL.quiet (d:=12) rfl rfl rfl (q_pickF rfl rfl) ?_
   exact WL.cutEnd () trivial (.cons rfl (.cons (zl zd5) .nil)) (.cons .here .nil)
 ·skip
  refine WL.quiet (d:=2) rfl rfl rfl (q_assign rfl) ?_
  refine WL.nil ?_
  refine WX.then ?_
  refine WC.ret ?_
  obtain rfl:=Option.some.inj h
  refine WX.bpRet Try.results57 (.tmp rfl .nil) (fun w hw=>?_)
  exact ⟨ret1 rfl,hw.sub .nil⟩
def m_slices_IndexFunc_api_Curve_api_Bucket_L2 (z3v : List z1) (z7n : z1 → Option Bool) (z8k : Option Int) : Nat → Int → Option Int
 | 0,_=>none
 | zgj + 1,z3K=>if decide (z3K < ((z3v.length : Nat) : Int)) then chk ((0 : Int) ≤ z3K ∧ z3K < ((z3v.length : Nat) : Int)) ((z7n (⟨(⟨(((nth z3v z3K).fBurst).fN),(((nth z3v z3K).fBurst).fD)⟩ : z2),(⟨(((nth z3v z3K).fRate).fN),(((nth z3v z3K).fRate).fD)⟩ : z2)⟩ : z1)).bind fun zgk=>if zgk then some z3K else m_slices_IndexFunc_api_Curve_api_Bucket_L2 z3v z7n z8k zgj (i64 (z3K + 1))) else z8k
theorem m_slices_IndexFunc_api_Curve_api_Bucket_L2_fuel {n : Nat} {z3v : List z1} {z7n : z1 → Option Bool} {z8k : Option Int} {z3K : Int} {r : Int} (h : m_slices_IndexFunc_api_Curve_api_Bucket_L2 z3v z7n z8k n z3K = some r) : ∃ m,n = m + 1:=by
 cases n with
 | zero=>cases h
 | succ m=>exact ⟨m,rfl⟩
def m_slices_IndexFunc_api_Curve_api_Bucket (z3v : List z1) (z7n : z1 → Option Bool) : Option Int :=
 jp0 (some (-1)) fun z8k=>m_slices_IndexFunc_api_Curve_api_Bucket_L2 z3v z7n z8k FUEL 0
set_option maxRecDepth 20000 in
theorem w_slices_IndexFunc_api_Curve_api_Bucket (Z : Zp)  (zbj : Option Addr) (zbk : Nat) (z8l : FuncId) (zam : List Value) (z3v : List z1) (z7n : z1 → Option Bool) (r : Int) (w₀ : World) (hz : PZ [] w₀ Z)
  (zpi : ZS Z 4 (fun r x=>r = e42 x) zbj zbk z3v)
  (zpj : ∀ args w,(callFunc z8l args).run Try.prog w = .ok (.enter z8l args) w)
  (zpk : ∀ w : World,PZ [] w Z → ∀ (x0 : z1) (r : Bool),z7n x0 = some r → Calls Try.prog z8l (([(.agg #[(.int .i64 x0.fBurst.fN),(.int .i64 x0.fBurst.fD),(.int .i64 x0.fRate.fN),(.int .i64 x0.fRate.fD)])] : List Value) ++ zam).toArray w fun e w'=>e = .returned (.bool r) ∧ Hp [] w w' [])
  (h : m_slices_IndexFunc_api_Curve_api_Bucket z3v z7n = some r) :
  Calls Try.prog 77 #[(.slice zbj z3v.length zbk),(.func (.func z8l) #[] (zam).toArray)] w₀ fun e w'=>e = .returned (.int .i64 r) ∧ Hp [] w₀ w' []:=by
 unfold m_slices_IndexFunc_api_Curve_api_Bucket at h
 refine Calls.ofWC (vs:=[(.slice zbj z3v.length zbk),(.func (.func z8l) #[] (zam).toArray)]) (pre:=[]) (env:=[(0,(.slice zbj z3v.length zbk)),(1,(.func (.func z8l) #[] (zam).toArray))]) Try.func77 rfl Try.ntmps77 rfl (Hp.nil w₀ _) rfl ?_
 refine WC.seq ?_
 refine WC.region ?_
 refine WL.quiet (d:=4) rfl rfl rfl (q_assign rfl) ?_
 refine WL.nil ?_
 refine WX.then ?_
 obtain ⟨z8k,zpl,h⟩:=jp0_elim h
 refine WC.seqMid0 ((z8k = some r)) ([]) ([]) ?_ ?_
 ·skip
  refine WC.seq ?_
  refine WC.region ?_
  refine WL.quiet (d:=6) rfl rfl rfl (q_move rfl) ?_
  refine WL.quiet (d:=7) rfl rfl rfl (q_len Try.underlying25 rfl) ?_
  refine WL.quiet (d:=8) rfl rfl rfl (q_move rfl) ?_
  refine WL.nil ?_
  refine WX.then ?_
  refine WC.block ?_
  refine WC.loop2 (fun (zbl : Nat) (z3K : Int)=>(m_slices_IndexFunc_api_Curve_api_Bucket_L2 z3v z7n z8k zbl z3K = some r)) (fun (zbl : Nat) (z3K : Int)=>[(0,(.slice zbj z3v.length zbk)),(1,(.func (.func z8l) #[] (zam).toArray)),(7,(.int .i64 ((z3v.length : Nat) : Int))),(8,(.int .i64 z3K))]) (fun (zbl : Nat) (z3K : Int)=>[]) (fun (zbl : Nat) (z3K : Int)=>zbl) ⟨FUEL,0⟩ h (.cons rfl (.cons rfl (.cons rfl (.cons rfl .nil)))) .nil ?_
  rintro zbl z3K h
  obtain ⟨zgj,rfl⟩:=m_slices_IndexFunc_api_Curve_api_Bucket_L2_fuel h
  rw [m_slices_IndexFunc_api_Curve_api_Bucket_L2] at h
  refine WC.seq ?_
  refine WC.region ?_
  refine WL.quiet (d:=9) rfl rfl rfl (q_lss rfl rfl) ?_
  refine WL.nil ?_
  refine WX.then ?_
  refine WC.seq ?_
  refine WC.cond rfl (fun zgl=>?_) (fun zgl=>?_)
  ·replace h:=ite_t h zgl
   refine WC.skip ?_
   refine WX.then ?_
   refine WC.seq ?_
   refine WC.block ?_
   refine WC.seq ?_
   refine WC.region ?_
   refine WL.quiet (d:=10) rfl rfl rfl (q_move rfl) ?_
   refine WL.quiet (d:=5) rfl rfl rfl (q_assign rfl) ?_
   refine WL.nil ?_
   refine WX.then ?_
   refine WC.seq ?_
   obtain ⟨zpm,h⟩:=chk_elim h
   obtain ⟨zgk,zpn,h⟩:=zb h
   refine WC.region ?_
   refine WL.quiet (d:=11) rfl rfl rfl (q_move rfl) ?_
   refine WL.quiet (d:=12) rfl rfl rfl (q_move rfl) ?_
   refine WL.quiet (d:=13) rfl rfl rfl (q_move rfl) ?_
   refine WL.znth (dd:=14) rfl rfl (Z:=Z) (Pr:=(fun r x=>r = e42 x)) elT_25 rfl rfl zpi zpm ?_
   rintro zwS zwT zpo zwU rfl
   refine WL.quiet (d:=15) rfl rfl rfl (q_loadA (cs:=[(.int .i64 (((nth z3v z3K).fBurst).fN)),(.int .i64 (((nth z3v z3K).fBurst).fD)),(.int .i64 (((nth z3v z3K).fRate).fN)),(.int .i64 (((nth z3v z3K).fRate).fD))]) aggT_42 rfl rfl (rd_zs hz.pv zpo)) ?_
   refine WL.callD (dd:=16) rfl rfl rfl (run_callv (l:=[.tmp 15]) (f:=z8l) (caps:=zam) zpj rfl (.cons rfl .nil)) .nil (fun w hw=>zpk w (hz.now hw) (⟨(⟨(((nth z3v z3K).fBurst).fN),(((nth z3v z3K).fBurst).fD)⟩ : z2),(⟨(((nth z3v z3K).fRate).fN),(((nth z3v z3K).fRate).fD)⟩ : z2)⟩ : z1) zgk  zpn) ?_
   refine WL.nil ?_
   refine WX.then ?_
   refine WC.cond rfl (fun zgm=>?_) (fun zgm=>?_)
   ·replace h:=ite_t h zgm
    refine WC.seq ?_
    refine WC.region ?_
    refine WL.quiet (d:=17) rfl rfl rfl (q_move rfl) ?_
    refine WL.quiet (d:=4) rfl rfl rfl (q_assign rfl) ?_
    refine WL.nil ?_
    refine WX.then ?_
    refine WC.ret ?_
    refine WX.blockRet ?_
    refine WX.thenRet ?_
    refine WX.thenRet ?_
    refine WX.blockRet ?_
    refine WX.thenRet ?_
    obtain rfl:=Option.some.inj h
    refine WX.bpRet Try.results77 (.tmp rfl .nil) (fun w hw=>?_)
    exact ⟨ret1 rfl,hw.sub .nil⟩
   ·replace h:=ite_f h zgm
    refine WC.skip ?_
    refine WX.blockNormal ?_
    refine WX.then ?_
    refine WC.region ?_
    refine WL.quiet (d:=18) rfl rfl rfl (q_add rfl rfl rfl) ?_
    refine WL.quiet (d:=8) rfl rfl rfl (q_move rfl) ?_
    refine WL.nil ?_
    exact WX.round (G:=Nat × Int) ⟨zgj,(i64 (z3K + 1))⟩ h (Nat.lt_succ_self _) (.cons rfl (.cons rfl (.cons rfl (.cons rfl .nil)))) .nil
  ·replace h:=ite_f h zgl
   refine WC.exit ?_
   refine WX.thenExit ?_
   refine WX.thenExit ?_
   refine WX.blockHit ?_
   exact WX.mid (G:=Unit) () h .nil .nil
 ·rintro  h
  replace h:=zpl.symm.trans h
  refine WC.seq ?_
  refine WC.region ?_
  refine WL.quiet (d:=4) rfl rfl rfl (q_assign rfl) ?_
  refine WL.nil ?_
  refine WX.then ?_
  refine WC.ret ?_
  obtain rfl:=Option.some.inj h
  refine WX.bpRet Try.results77 (.tmp rfl .nil) (fun w hw=>?_)
  exact ⟨ret1 rfl,hw.sub .nil⟩
def m_slices_ContainsFunc_api_Curve_api_Bucket (z7Q : List z1) (zan : z1 → Option Bool) : Option Bool :=
 (m_slices_IndexFunc_api_Curve_api_Bucket z7Q zan).bind fun zgn=>some (decide (zgn ≥ 0))
set_option maxRecDepth 20000 in
theorem w_slices_ContainsFunc_api_Curve_api_Bucket (Z : Zp)  (zao : Option Addr) (zap : Nat) (z8m : FuncId) (zaq : List Value) (z7Q : List z1) (zan : z1 → Option Bool) (r : Bool) (w₀ : World) (hz : PZ [] w₀ Z)
  (zpp : ZS Z 4 (fun r x=>r = e42 x) zao zap z7Q)
  (zpq : ∀ args w,(callFunc z8m args).run Try.prog w = .ok (.enter z8m args) w)
  (zpr : ∀ w : World,PZ [] w Z → ∀ (x0 : z1) (r : Bool),zan x0 = some r → Calls Try.prog z8m (([(.agg #[(.int .i64 x0.fBurst.fN),(.int .i64 x0.fBurst.fD),(.int .i64 x0.fRate.fN),(.int .i64 x0.fRate.fD)])] : List Value) ++ zaq).toArray w fun e w'=>e = .returned (.bool r) ∧ Hp [] w w' [])
  (h : m_slices_ContainsFunc_api_Curve_api_Bucket z7Q zan = some r) :
  Calls Try.prog 56 #[(.slice zao z7Q.length zap),(.func (.func z8m) #[] (zaq).toArray)] w₀ fun e w'=>e = .returned (.bool r) ∧ Hp [] w₀ w' []:=by
 unfold m_slices_ContainsFunc_api_Curve_api_Bucket at h
 refine Calls.ofWC (vs:=[(.slice zao z7Q.length zap),(.func (.func z8m) #[] (zaq).toArray)]) (pre:=[]) (env:=[(0,(.slice zao z7Q.length zap)),(1,(.func (.func z8m) #[] (zaq).toArray))]) Try.func56 rfl Try.ntmps56 rfl (Hp.nil w₀ _) rfl ?_
 refine WC.seq ?_
 refine WC.region ?_
 refine WL.quiet (d:=4) rfl rfl rfl (q_assign rfl) ?_
 refine WL.nil ?_
 refine WX.then ?_
 refine WC.seq ?_
 obtain ⟨zgn,zps,h⟩:=zb h
 refine WC.region ?_
 refine WL.quiet (d:=5) rfl rfl rfl (q_move rfl) ?_
 refine WL.quiet (d:=6) rfl rfl rfl (q_move rfl) ?_
 refine WL.callD (dd:=7) rfl rfl rfl (zg (l:=[.tmp 5,.tmp 6]) Try.call77 (.cons rfl (.cons rfl .nil))) (.nil : Sel [] [] []) (fun w hw=>by have pz:=(hz.call hw (.nil : Sel [] [] [])); exact w_slices_IndexFunc_api_Curve_api_Bucket (Z:=_) (zbj:=zao) (zbk:=zap) (z8l:=z8m) (zam:=zaq) (z3v:=z7Q) (z7n:=zan) (r:=zgn) w pz zpp zpq zpr zps) ?_
 refine WL.quiet (d:=8) rfl rfl rfl (q_geq rfl rfl) ?_
 refine WL.quiet (d:=4) rfl rfl rfl (q_assign rfl) ?_
 refine WL.nil ?_
 refine WX.then ?_
 refine WC.ret ?_
 obtain rfl:=Option.some.inj h
 refine WX.bpRet Try.results56 (.tmp rfl .nil) (fun w hw=>?_)
 exact ⟨ret1 rfl,hw.sub .nil⟩
def m_curve_Valid (z3S : List z1) : Option Bool :=
 (if (decide (((z3S.length : Nat) : Int) ≥ 1)) && (decide (((z3S.length : Nat) : Int) ≤ 32)) then (m_slices_ContainsFunc_api_Curve_api_Bucket z3S (fun (y0 : z1)=>m_curve_Valid_1 y0)).bind fun zgo=>some (!zgo) else some false).bind fun zgp=>some zgp
set_option maxRecDepth 20000 in
theorem w_curve_Valid (Z : Zp)  (z5S : Option Addr) (z5T : Nat) (z3S : List z1) (r : Bool) (w₀ : World) (hz : PZ [] w₀ Z)
  (zpt : ZS Z 4 (fun r x=>r = e42 x) z5S z5T z3S)
  (h : m_curve_Valid z3S = some r) :
  Calls Try.prog 26 #[(.slice z5S z3S.length z5T)] w₀ fun e w'=>e = .returned (.bool r) ∧ Hp [] w₀ w' []:=by
 unfold m_curve_Valid at h
 refine Calls.ofWC (vs:=[(.slice z5S z3S.length z5T)]) (pre:=[]) (env:=[(0,(.slice z5S z3S.length z5T))]) Try.func26 rfl Try.ntmps26 rfl (Hp.nil w₀ _) rfl ?_
 refine WC.seq ?_
 refine WC.region ?_
 refine WL.quiet (d:=2) rfl rfl rfl (q_assign rfl) ?_
 refine WL.nil ?_
 refine WX.then ?_
 refine WC.seq ?_
 obtain ⟨zgp,zln,h⟩:=zb h
 refine WC.region ?_
 refine WL.quiet (d:=3) rfl rfl rfl (q_move rfl) ?_
 refine WL.quiet (d:=4) rfl rfl rfl (q_len Try.underlying25 rfl) ?_
 refine WL.quiet (d:=5) rfl rfl rfl (q_geq rfl rfl) ?_
 refine WL.quiet (d:=6) rfl rfl rfl (q_move rfl) ?_
 refine WL.cut0 True [(0,(.slice z5S z3S.length z5T)),(2,(.bool false)),(10,(.bool ((decide (((z3S.length : Nat) : Int) ≥ 1)) && (decide (((z3S.length : Nat) : Int) ≤ 32)))))] [] 4 ?_ (fun _=>?_)
 ·rcases Bool.eq_false_or_eq_true (decide (((z3S.length : Nat) : Int) ≥ 1)) with hb' | hb'
  ·have zlo:=hb'; clear hb'
   refine WL.pin (i:=6) rfl zlo ?_
   refine WL.quiet (d:=7) rfl rfl rfl (q_move rfl) ?_
   refine WL.quiet (d:=8) rfl rfl rfl (q_len Try.underlying25 rfl) ?_
   refine WL.quiet (d:=9) rfl rfl rfl (q_leq rfl rfl) ?_
   refine WL.quiet (d:=10) rfl rfl rfl (q_pickT rfl rfl) ?_
   exact WL.cutEnd () trivial (.cons rfl (.cons rfl (.cons (zl (and_r zlo)) .nil))) .nil
  ·have zlp:=hb'; clear hb'
   refine WL.pin (i:=6) rfl zlp ?_
   refine WL.skip rfl rfl rfl ?_
   refine WL.skip rfl rfl rfl ?_
   refine WL.skip rfl rfl rfl ?_
   refine WL.quiet (d:=10) rfl rfl rfl (q_pickF rfl rfl) ?_
   exact WL.cutEnd () trivial (.cons rfl (.cons rfl (.cons (zl (and_l zlp)) .nil))) .nil
 ·skip
  refine WL.quiet (d:=11) rfl rfl rfl (q_move rfl) ?_
  refine WL.cut0 True [(2,(.bool false)),(15,(.bool zgp))] [] 4 ?_ (fun _=>?_)
  ·rcases Bool.eq_false_or_eq_true ((decide (((z3S.length : Nat) : Int) ≥ 1)) && (decide (((z3S.length : Nat) : Int) ≤ 32))) with hb' | hb'
   ·have zlq:=hb'; clear hb'
    have zd6:=ite_t zln zlq
    obtain ⟨zgo,zpu,zd6⟩:=zb zd6
    replace zd6:=Option.some.inj zd6
    refine WL.pin (i:=11) rfl zlq ?_
    refine WL.quiet (d:=12) rfl rfl rfl (q_move rfl) ?_
    refine WL.callD (dd:=13) rfl rfl rfl (zg (l:=[.tmp 12,.func 57]) Try.call56 (.cons rfl (.cons rfl .nil))) (.nil : Sel [] [] []) (fun w hw=>by have pz:=(hz.call hw (.nil : Sel [] [] [])); exact w_slices_ContainsFunc_api_Curve_api_Bucket (Z:=_) (zao:=z5S) (zap:=z5T) (z8m:=57) (zaq:=[]) (z7Q:=z3S) (zan:=(fun (y0 : z1)=>m_curve_Valid_1 y0)) (r:=zgo) w pz zpt Try.call57 (fun w' hz' y0  r  hr=>w_curve_Valid_1 (Z:=_)  (z1D:=y0) (r:=r) w' hz'  hr) zpu) ?_
    refine WL.quiet (d:=14) rfl rfl rfl (q_not rfl) ?_
    refine WL.quiet (d:=15) rfl rfl rfl (q_pickT rfl rfl) ?_
    exact WL.cutEnd () trivial (.cons rfl (.cons (zl zd6) .nil)) .nil
   ·have zlr:=hb'; clear hb'
    have zgq:=ite_f zln zlr
    replace zgq:=Option.some.inj zgq
    refine WL.pin (i:=11) rfl zlr ?_
    refine WL.skip rfl rfl rfl ?_
    refine WL.skip rfl rfl rfl ?_
    refine WL.skip rfl rfl rfl ?_
    refine WL.quiet (d:=15) rfl rfl rfl (q_pickF rfl rfl) ?_
    exact WL.cutEnd () trivial (.cons rfl (.cons (zl zgq) .nil)) .nil
  ·skip
   refine WL.quiet (d:=2) rfl rfl rfl (q_assign rfl) ?_
   refine WL.nil ?_
   refine WX.then ?_
   refine WC.ret ?_
   obtain rfl:=Option.some.inj h
   refine WX.bpRet Try.results26 (.tmp rfl .nil) (fun w hw=>?_)
   exact ⟨ret1 rfl,hw.sub .nil⟩
def m_rat_do_3 (zar : z2) (zas : z2) : Option (Int × Int) :=
 some ((i64 (zar.fN * zas.fN)),(i64 (zar.fD * zas.fD)))
set_option maxRecDepth 20000 in
theorem w_rat_do_3 (Z : Zp)  (zd7 : Addr) (zd8 : Addr) (zar : z2) (zas : z2) (r : Int × Int) (w₀ : World) (hz : PZ [] w₀ Z)
  (zls : ZC Z zd7 [(.int .i64 zar.fN),(.int .i64 zar.fD)])
  (zlt : ZC Z zd8 [(.int .i64 zas.fN),(.int .i64 zas.fD)])
  (h : m_rat_do_3 zar zas = some r) :
  Calls Try.prog 66 #[(.pointer (some zd7)),(.pointer (some zd8))] w₀ fun e w'=>e = .returned (.tuple #[(.int .i64 r.1),(.int .i64 r.2)]) ∧ Hp [] w₀ w' []:=by
 unfold m_rat_do_3 at h
 refine Calls.ofWC (vs:=[(.pointer (some zd7)),(.pointer (some zd8))]) (pre:=[]) (env:=[(0,(.pointer (some zd7))),(1,(.pointer (some zd8)))]) Try.func66 rfl Try.ntmps66 rfl (Hp.nil w₀ _) rfl ?_
 refine WC.seq ?_
 refine WC.region ?_
 refine WL.quiet (d:=2) rfl rfl rfl (q_assign rfl) ?_
 refine WL.quiet (d:=3) rfl rfl rfl (q_assign rfl) ?_
 refine WL.nil ?_
 refine WX.then ?_
 refine WC.seq ?_
 refine WC.draw (fun i=>[].contains i) [] rfl ?_
 refine WD.pure (i:=0) (d:=4) (by kernel_rfl) rfl (z6 (by kernel_rfl)) (z7 (by kernel_rfl)) rfl rfl rfl (fun _=>q_fieldAddr fo_28_0 rfl rfl) ?_
 refine WD.quiet (i:=1) (d:=5) (by kernel_rfl) rfl (z6 (by kernel_rfl)) (z7 (by kernel_rfl)) rfl rfl rfl (q_load1 oneT_3 rfl (rd_zAt hz.pv zls rfl)) ?_
 refine WD.pure (i:=2) (d:=6) (by kernel_rfl) rfl (z6 (by kernel_rfl)) (z7 (by kernel_rfl)) rfl rfl rfl (fun _=>q_fieldAddr fo_28_0 rfl rfl) ?_
 refine WD.quiet (i:=3) (d:=7) (by kernel_rfl) rfl (z6 (by kernel_rfl)) (z7 (by kernel_rfl)) rfl rfl rfl (q_load1 oneT_3 rfl (rd_zAt hz.pv zlt rfl)) ?_
 refine WD.pure (i:=4) (d:=8) (by kernel_rfl) rfl (z6 (by kernel_rfl)) (z7 (by kernel_rfl)) rfl rfl rfl (fun _=>q_mul rfl rfl rfl) ?_
 refine WD.pure (i:=5) (d:=9) (by kernel_rfl) rfl (z6 (by kernel_rfl)) (z7 (by kernel_rfl)) rfl rfl rfl (fun _=>q_fieldAddr fo_28_1 rfl rfl) ?_
 refine WD.quiet (i:=6) (d:=10) (by kernel_rfl) rfl (z6 (by kernel_rfl)) (z7 (by kernel_rfl)) rfl rfl rfl (q_load1 oneT_3 rfl (rd_zAt hz.pv zls rfl)) ?_
 refine WD.pure (i:=7) (d:=11) (by kernel_rfl) rfl (z6 (by kernel_rfl)) (z7 (by kernel_rfl)) rfl rfl rfl (fun _=>q_fieldAddr fo_28_1 rfl rfl) ?_
 refine WD.quiet (i:=8) (d:=12) (by kernel_rfl) rfl (z6 (by kernel_rfl)) (z7 (by kernel_rfl)) rfl rfl rfl (q_load1 oneT_3 rfl (rd_zAt hz.pv zlt rfl)) ?_
 refine WD.pure (i:=9) (d:=13) (by kernel_rfl) rfl (z6 (by kernel_rfl)) (z7 (by kernel_rfl)) rfl rfl rfl (fun _=>q_mul rfl rfl rfl) ?_
 refine WD.pure (i:=10) (d:=2) (by kernel_rfl) rfl (z6 (by kernel_rfl)) (z7 (by kernel_rfl)) rfl rfl rfl (fun _=>q_assign rfl) ?_
 refine WD.pure (i:=11) (d:=3) (by kernel_rfl) rfl (z6 (by kernel_rfl)) (z7 (by kernel_rfl)) rfl rfl rfl (fun _=>q_assign rfl) ?_
 refine WD.done (by kernel_rfl) ?_
 refine WX.then ?_
 refine WC.ret ?_
 obtain rfl:=Option.some.inj h
 refine WX.bpRet Try.results66 (.tmp rfl (.tmp rfl .nil)) (fun w hw=>?_)
 exact ⟨ret2 rfl rfl,hw.sub .nil⟩
def m_rat_dob (z1d : z2) (z1e : z2) : Option (z2 × Int) :=
 (m_rat_Valid z1d).bind fun zeq=>(if !zeq then some true else (m_rat_Valid z1e).bind fun zgr=>some (!zgr)).bind fun zd9=>if zd9 then some ((⟨0,0⟩ : z2),2) else (m_rat_do_3 z1d z1e).bind fun zbm=>(m_rat_Make zbm.1 zbm.2).bind fun z9w=>some (z9w.1,z9w.2)
set_option maxRecDepth 20000 in
theorem w_rat_dob (Z : Zp)   (z1d : z2) (z1e : z2) (r : z2 × Int) (w₀ : World) (hz : PZ [] w₀ Z)
  (h : m_rat_dob z1d z1e = some r) :
  Calls Try.prog 39 #[(.string ⟨#[42]⟩),(.agg #[(.int .i64 z1d.fN),(.int .i64 z1d.fD)]),(.agg #[(.int .i64 z1e.fN),(.int .i64 z1e.fD)])] w₀ fun e w'=>e = .returned (.tuple #[(.agg #[(.int .i64 r.1.fN),(.int .i64 r.1.fD)]),(.int .i64 r.2)]) ∧ Hp [] w₀ w' []:=by
 unfold m_rat_dob at h
 refine Calls.ofWC (vs:=[(.string ⟨#[42]⟩),(.agg #[(.int .i64 z1d.fN),(.int .i64 z1d.fD)]),(.agg #[(.int .i64 z1e.fN),(.int .i64 z1e.fD)])]) (pre:=[]) (env:=[(0,(.string ⟨#[42]⟩)),(1,(.agg #[(.int .i64 z1d.fN),(.int .i64 z1d.fD)])),(2,(.agg #[(.int .i64 z1e.fN),(.int .i64 z1e.fD)]))]) Try.func39 rfl Try.ntmps39 rfl (Hp.nil w₀ _) rfl ?_
 refine WC.seq ?_
 refine WC.region ?_
 refine WL.new (dd:=4) rfl rfl rfl (e_box (cs:=[(.int .i64 z1d.fN),(.int .i64 z1d.fD)]) rfl rfl) ?_
 intro zJ _
 refine WL.new (dd:=5) rfl rfl rfl (e_box (cs:=[(.int .i64 z1e.fN),(.int .i64 z1e.fD)]) rfl rfl) ?_
 intro zK _
 refine WL.new (dd:=6) rfl rfl rfl (e_alloc (cs:=[(.int .i64 0),(.int .i64 0)]) zeroT_28 rfl) ?_
 intro z3T _
 refine WL.quiet (d:=7) rfl rfl rfl (q_assign rfl) ?_
 refine WL.nil ?_
 refine WX.then ?_
 refine WC.seq ?_
 refine WC.seq ?_
 obtain ⟨zeq,zpv,h⟩:=zb h
 obtain ⟨zd9,zlu,h⟩:=zb h
 refine WC.region ?_
 refine WL.quiet (d:=9) rfl rfl rfl (q_loadA (cs:=[(.int .i64 z1d.fN),(.int .i64 z1d.fD)]) aggT_28 rfl rfl (rd_all (.there (.there .here)))) ?_
 refine WL.callD (dd:=10) rfl rfl rfl (zg (l:=[.tmp 9]) Try.call42 (.cons rfl .nil)) (.nil : Sel [stb z3T 28 [(.int .i64 0),(.int .i64 0)],stb zK 28 [(.int .i64 z1e.fN),(.int .i64 z1e.fD)],stb zJ 28 [(.int .i64 z1d.fN),(.int .i64 z1d.fD)]] [] [stb z3T 28 [(.int .i64 0),(.int .i64 0)],stb zK 28 [(.int .i64 z1e.fN),(.int .i64 z1e.fD)],stb zJ 28 [(.int .i64 z1d.fN),(.int .i64 z1d.fD)]]) (fun w hw=>by have pz:=(hz.call hw (.nil : Sel [stb z3T 28 [(.int .i64 0),(.int .i64 0)],stb zK 28 [(.int .i64 z1e.fN),(.int .i64 z1e.fD)],stb zJ 28 [(.int .i64 z1d.fN),(.int .i64 z1d.fD)]] [] [stb z3T 28 [(.int .i64 0),(.int .i64 0)],stb zK 28 [(.int .i64 z1e.fN),(.int .i64 z1e.fD)],stb zJ 28 [(.int .i64 z1d.fN),(.int .i64 z1d.fD)]])); exact w_rat_Valid (Z:=_)  (z1q:=z1d) (r:=zeq) w pz  zpv) ?_
 refine WL.quiet (d:=11) rfl rfl rfl (q_not rfl) ?_
 refine WL.quiet (d:=12) rfl rfl rfl (q_move rfl) ?_
 refine WL.cut0 True [(0,(.string ⟨#[42]⟩)),(4,(.pointer (some ⟨zJ,0,none⟩))),(5,(.pointer (some ⟨zK,0,none⟩))),(6,(.pointer (some ⟨z3T,0,none⟩))),(16,(.bool zd9))] [stb z3T 28 [(.int .i64 0),(.int .i64 0)],stb zK 28 [(.int .i64 z1e.fN),(.int .i64 z1e.fD)],stb zJ 28 [(.int .i64 z1d.fN),(.int .i64 z1d.fD)]] 4 ?_ (fun _=>?_)
 ·rcases Bool.eq_false_or_eq_true (!zeq) with hb' | hb'
  ·have zlv:=hb'; clear hb'
   have zgs:=ite_t zlu zlv
   replace zgs:=Option.some.inj zgs
   refine WL.pin (i:=12) rfl zlv ?_
   refine WL.skip rfl rfl rfl ?_
   refine WL.skip rfl rfl rfl ?_
   refine WL.skip rfl rfl rfl ?_
   refine WL.quiet (d:=16) rfl rfl rfl (q_pickT rfl rfl) ?_
   exact WL.cutEnd () trivial (.cons rfl (.cons rfl (.cons rfl (.cons rfl (.cons (zl zgs) .nil))))) (.cons .here (.cons .here (.cons .here .nil)))
  ·have zlw:=hb'; clear hb'
   have zda:=ite_f zlu zlw
   obtain ⟨zgr,zpw,zda⟩:=zb zda
   replace zda:=Option.some.inj zda
   refine WL.pin (i:=12) rfl zlw ?_
   refine WL.quiet (d:=13) rfl rfl rfl (q_loadA (cs:=[(.int .i64 z1e.fN),(.int .i64 z1e.fD)]) aggT_28 rfl rfl (rd_all (.there .here))) ?_
   refine WL.callD (dd:=14) rfl rfl rfl (zg (l:=[.tmp 13]) Try.call42 (.cons rfl .nil)) (.nil : Sel [stb z3T 28 [(.int .i64 0),(.int .i64 0)],stb zK 28 [(.int .i64 z1e.fN),(.int .i64 z1e.fD)],stb zJ 28 [(.int .i64 z1d.fN),(.int .i64 z1d.fD)]] [] [stb z3T 28 [(.int .i64 0),(.int .i64 0)],stb zK 28 [(.int .i64 z1e.fN),(.int .i64 z1e.fD)],stb zJ 28 [(.int .i64 z1d.fN),(.int .i64 z1d.fD)]]) (fun w hw=>by have pz:=(hz.call hw (.nil : Sel [stb z3T 28 [(.int .i64 0),(.int .i64 0)],stb zK 28 [(.int .i64 z1e.fN),(.int .i64 z1e.fD)],stb zJ 28 [(.int .i64 z1d.fN),(.int .i64 z1d.fD)]] [] [stb z3T 28 [(.int .i64 0),(.int .i64 0)],stb zK 28 [(.int .i64 z1e.fN),(.int .i64 z1e.fD)],stb zJ 28 [(.int .i64 z1d.fN),(.int .i64 z1d.fD)]])); exact w_rat_Valid (Z:=_)  (z1q:=z1e) (r:=zgr) w pz  zpw) ?_
   refine WL.quiet (d:=15) rfl rfl rfl (q_not rfl) ?_
   refine WL.quiet (d:=16) rfl rfl rfl (q_pickF rfl rfl) ?_
   exact WL.cutEnd () trivial (.cons rfl (.cons rfl (.cons rfl (.cons rfl (.cons (zl zda) .nil))))) (.cons .here (.cons .here (.cons .here .nil)))
 ·skip
  refine WL.quiet (d:=17) rfl rfl rfl (q_move rfl) ?_
  refine WL.cut0 True [(0,(.string ⟨#[42]⟩)),(4,(.pointer (some ⟨zJ,0,none⟩))),(5,(.pointer (some ⟨zK,0,none⟩))),(6,(.pointer (some ⟨z3T,0,none⟩))),(25,(.bool zd9))] [stb z3T 28 [(.int .i64 0),(.int .i64 0)],stb zK 28 [(.int .i64 z1e.fN),(.int .i64 z1e.fD)],stb zJ 28 [(.int .i64 z1d.fN),(.int .i64 z1d.fD)]] 8 ?_ (fun _=>?_)
  ·rcases Bool.eq_false_or_eq_true zd9 with hb' | hb'
   ·have zlx:=hb'; clear hb'
    refine WL.pin (i:=17) rfl zlx ?_
    refine WL.skip rfl rfl rfl ?_
    refine WL.skip rfl rfl rfl ?_
    refine WL.skip rfl rfl rfl ?_
    refine WL.skip rfl rfl rfl ?_
    refine WL.skip rfl rfl rfl ?_
    refine WL.skip rfl rfl rfl ?_
    refine WL.skip rfl rfl rfl ?_
    refine WL.quiet (d:=25) rfl rfl rfl (q_pickT rfl rfl) ?_
    exact WL.cutEnd () trivial (.cons rfl (.cons rfl (.cons rfl (.cons rfl (.cons (zl (Eq.symm zlx)) .nil))))) (.cons .here (.cons .here (.cons .here .nil)))
   ·have zly:=hb'; clear hb'
    refine WL.pin (i:=17) rfl zly ?_
    refine WL.quiet (d:=18) rfl rfl rfl (q_move rfl) ?_
    refine WL.quiet (d:=19) rfl rfl rfl (q_seqlC (r:=false) (by decide) rfl rfl) ?_
    refine WL.quiet (d:=20) rfl rfl rfl (q_move rfl) ?_
    refine WL.skip rfl rfl rfl ?_
    refine WL.skip rfl rfl rfl ?_
    refine WL.skip rfl rfl rfl ?_
    refine WL.quiet (d:=24) rfl rfl rfl (q_pickF rfl rfl) ?_
    refine WL.quiet (d:=25) rfl rfl rfl (q_pickF rfl rfl) ?_
    exact WL.cutEnd () trivial (.cons rfl (.cons rfl (.cons rfl (.cons rfl (.cons (zl (Eq.symm zly)) .nil))))) (.cons .here (.cons .here (.cons .here .nil)))
  ·skip
   refine WL.nil ?_
   refine WX.then ?_
   refine WC.cond rfl (fun zgt=>?_) (fun zgt=>?_)
   ·replace h:=ite_t h zgt
    refine WC.seq ?_
    refine WC.region ?_
    refine WL.quiet (d:=26) rfl rfl rfl (q_build (v:=(.agg #[(.int .i64 0),(.int .i64 0)])) (Eos.parts (l:=[]) .nil []) (fun _=>by kernel_rfl)) ?_
    refine WL.eff0 rfl rfl (e_store (vs:=[(.int .i64 0),(.int .i64 0)]) (ds:=[(.int .i64 0),(.int .i64 0)]) sizT_28 rfl rfl rfl rfl (oc_cons rfl (oc_cons rfl oc_nil)) .here (Nat.le_of_ble_eq_true rfl) rfl) ?_
    refine WL.quiet (d:=7) rfl rfl rfl (q_assign rfl) ?_
    refine WL.nil ?_
    refine WX.then ?_
    refine WC.ret ?_
    refine WX.thenRet ?_
    obtain rfl:=Option.some.inj h
    refine WX.bpRet Try.results39 (.agg rfl aggT_28 rfl (rd_all .here) (.tmp rfl .nil)) (fun w hw=>?_)
    exact ⟨ret2 rfl rfl,hw.sub .nil⟩
   ·replace h:=ite_f h zgt
    refine WC.skip ?_
    refine WX.then ?_
    refine WC.seq ?_
    refine WC.region ?_
    refine WL.new (dd:=27) rfl rfl rfl (e_makeMap Value.string (fun x=>x)) ?_
    intro z6p _
    refine WL.quiet (d:=28) rfl rfl rfl (q_makeFunc (Eos.caps (l:=[.tmp 4,.tmp 5]) (.cons rfl (.cons rfl .nil)))) ?_
    refine WL.eff0 rfl rfl (e_insert (k:=⟨#[43]⟩) (v:=(.func (.func 64) #[] #[(.pointer (some ⟨zJ,0,none⟩)),(.pointer (some ⟨zK,0,none⟩))])) keyT_9 Try.underlying94 rfl rfl rfl rfl .here) ?_
    refine WL.quiet (d:=29) rfl rfl rfl (q_makeFunc (Eos.caps (l:=[.tmp 4,.tmp 5]) (.cons rfl (.cons rfl .nil)))) ?_
    refine WL.eff0 rfl rfl (e_insert (k:=⟨#[45]⟩) (v:=(.func (.func 65) #[] #[(.pointer (some ⟨zJ,0,none⟩)),(.pointer (some ⟨zK,0,none⟩))])) keyT_9 Try.underlying94 rfl rfl rfl rfl .here) ?_
    refine WL.quiet (d:=30) rfl rfl rfl (q_makeFunc (Eos.caps (l:=[.tmp 4,.tmp 5]) (.cons rfl (.cons rfl .nil)))) ?_
    refine WL.eff0 rfl rfl (e_insert (k:=⟨#[42]⟩) (v:=(.func (.func 66) #[] #[(.pointer (some ⟨zJ,0,none⟩)),(.pointer (some ⟨zK,0,none⟩))])) keyT_9 Try.underlying94 rfl rfl rfl rfl .here) ?_
    refine WL.quiet (d:=31) rfl rfl rfl (q_makeFunc (Eos.caps (l:=[.tmp 4,.tmp 5]) (.cons rfl (.cons rfl .nil)))) ?_
    refine WL.eff0 rfl rfl (e_insert (k:=⟨#[47]⟩) (v:=(.func (.func 67) #[] #[(.pointer (some ⟨zJ,0,none⟩)),(.pointer (some ⟨zK,0,none⟩))])) keyT_9 Try.underlying94 rfl rfl rfl rfl .here) ?_
    refine WL.quiet (d:=32) rfl rfl rfl (q_move rfl) ?_
    refine WL.quiet (d:=8) rfl rfl rfl (q_assign rfl) ?_
    refine WL.nil ?_
    refine WX.then ?_
    refine WC.seq ?_
    obtain ⟨zbm,zpx,h⟩:=zb h
    obtain ⟨z9w,zpy,h⟩:=zb h
    refine WC.region ?_
    refine WL.quiet (d:=33) rfl rfl rfl (q_move rfl) ?_
    refine WL.quiet (d:=34) rfl rfl rfl (q_move rfl) ?_
    refine WL.quiet (d:=35) rfl rfl rfl (q_lookC (k:=⟨#[42]⟩) (dflt:=.nilFunc) (r:=(.func (.func 66) #[] #[(.pointer (some ⟨zJ,0,none⟩)),(.pointer (some ⟨zK,0,none⟩))])) keyT_9 Try.underlying94 zeroT_93 rfl rfl rfl .here (by rfl)) ?_
    refine WL.callD (dd:=36) rfl rfl rfl (run_callv (l:=[]) Try.call66 rfl .nil) (.nil : Sel [mapA z6p Value.string (fun x=>x) [(⟨#[43]⟩,(.func (.func 64) #[] #[(.pointer (some ⟨zJ,0,none⟩)),(.pointer (some ⟨zK,0,none⟩))])),(⟨#[45]⟩,(.func (.func 65) #[] #[(.pointer (some ⟨zJ,0,none⟩)),(.pointer (some ⟨zK,0,none⟩))])),(⟨#[42]⟩,(.func (.func 66) #[] #[(.pointer (some ⟨zJ,0,none⟩)),(.pointer (some ⟨zK,0,none⟩))])),(⟨#[47]⟩,(.func (.func 67) #[] #[(.pointer (some ⟨zJ,0,none⟩)),(.pointer (some ⟨zK,0,none⟩))]))],stb z3T 28 [(.int .i64 0),(.int .i64 0)],stb zK 28 [(.int .i64 z1e.fN),(.int .i64 z1e.fD)],stb zJ 28 [(.int .i64 z1d.fN),(.int .i64 z1d.fD)]] [] [mapA z6p Value.string (fun x=>x) [(⟨#[43]⟩,(.func (.func 64) #[] #[(.pointer (some ⟨zJ,0,none⟩)),(.pointer (some ⟨zK,0,none⟩))])),(⟨#[45]⟩,(.func (.func 65) #[] #[(.pointer (some ⟨zJ,0,none⟩)),(.pointer (some ⟨zK,0,none⟩))])),(⟨#[42]⟩,(.func (.func 66) #[] #[(.pointer (some ⟨zJ,0,none⟩)),(.pointer (some ⟨zK,0,none⟩))])),(⟨#[47]⟩,(.func (.func 67) #[] #[(.pointer (some ⟨zJ,0,none⟩)),(.pointer (some ⟨zK,0,none⟩))]))],stb z3T 28 [(.int .i64 0),(.int .i64 0)],stb zK 28 [(.int .i64 z1e.fN),(.int .i64 z1e.fD)],stb zJ 28 [(.int .i64 z1d.fN),(.int .i64 z1d.fD)]]) (fun w hw=>by have pz:=(hz.call hw (.nil : Sel [mapA z6p Value.string (fun x=>x) [(⟨#[43]⟩,(.func (.func 64) #[] #[(.pointer (some ⟨zJ,0,none⟩)),(.pointer (some ⟨zK,0,none⟩))])),(⟨#[45]⟩,(.func (.func 65) #[] #[(.pointer (some ⟨zJ,0,none⟩)),(.pointer (some ⟨zK,0,none⟩))])),(⟨#[42]⟩,(.func (.func 66) #[] #[(.pointer (some ⟨zJ,0,none⟩)),(.pointer (some ⟨zK,0,none⟩))])),(⟨#[47]⟩,(.func (.func 67) #[] #[(.pointer (some ⟨zJ,0,none⟩)),(.pointer (some ⟨zK,0,none⟩))]))],stb z3T 28 [(.int .i64 0),(.int .i64 0)],stb zK 28 [(.int .i64 z1e.fN),(.int .i64 z1e.fD)],stb zJ 28 [(.int .i64 z1d.fN),(.int .i64 z1d.fD)]] [] [mapA z6p Value.string (fun x=>x) [(⟨#[43]⟩,(.func (.func 64) #[] #[(.pointer (some ⟨zJ,0,none⟩)),(.pointer (some ⟨zK,0,none⟩))])),(⟨#[45]⟩,(.func (.func 65) #[] #[(.pointer (some ⟨zJ,0,none⟩)),(.pointer (some ⟨zK,0,none⟩))])),(⟨#[42]⟩,(.func (.func 66) #[] #[(.pointer (some ⟨zJ,0,none⟩)),(.pointer (some ⟨zK,0,none⟩))])),(⟨#[47]⟩,(.func (.func 67) #[] #[(.pointer (some ⟨zJ,0,none⟩)),(.pointer (some ⟨zK,0,none⟩))]))],stb z3T 28 [(.int .i64 0),(.int .i64 0)],stb zK 28 [(.int .i64 z1e.fN),(.int .i64 z1e.fD)],stb zJ 28 [(.int .i64 z1d.fN),(.int .i64 z1d.fD)]])).lend hw (.nil : Sel [mapA z6p Value.string (fun x=>x) [(⟨#[43]⟩,(.func (.func 64) #[] #[(.pointer (some ⟨zJ,0,none⟩)),(.pointer (some ⟨zK,0,none⟩))])),(⟨#[45]⟩,(.func (.func 65) #[] #[(.pointer (some ⟨zJ,0,none⟩)),(.pointer (some ⟨zK,0,none⟩))])),(⟨#[42]⟩,(.func (.func 66) #[] #[(.pointer (some ⟨zJ,0,none⟩)),(.pointer (some ⟨zK,0,none⟩))])),(⟨#[47]⟩,(.func (.func 67) #[] #[(.pointer (some ⟨zJ,0,none⟩)),(.pointer (some ⟨zK,0,none⟩))]))],stb z3T 28 [(.int .i64 0),(.int .i64 0)],stb zK 28 [(.int .i64 z1e.fN),(.int .i64 z1e.fD)],stb zJ 28 [(.int .i64 z1d.fN),(.int .i64 z1d.fD)]] [] [mapA z6p Value.string (fun x=>x) [(⟨#[43]⟩,(.func (.func 64) #[] #[(.pointer (some ⟨zJ,0,none⟩)),(.pointer (some ⟨zK,0,none⟩))])),(⟨#[45]⟩,(.func (.func 65) #[] #[(.pointer (some ⟨zJ,0,none⟩)),(.pointer (some ⟨zK,0,none⟩))])),(⟨#[42]⟩,(.func (.func 66) #[] #[(.pointer (some ⟨zJ,0,none⟩)),(.pointer (some ⟨zK,0,none⟩))])),(⟨#[47]⟩,(.func (.func 67) #[] #[(.pointer (some ⟨zJ,0,none⟩)),(.pointer (some ⟨zK,0,none⟩))]))],stb z3T 28 [(.int .i64 0),(.int .i64 0)],stb zK 28 [(.int .i64 z1e.fN),(.int .i64 z1e.fD)],stb zJ 28 [(.int .i64 z1d.fN),(.int .i64 z1d.fD)]]) (B:=[stb zJ 28 [(.int .i64 z1d.fN),(.int .i64 z1d.fD)],stb zK 28 [(.int .i64 z1e.fN),(.int .i64 z1e.fD)]]) (fun _ hx'=>((.cons (.there (.there (.there .here))) (.cons (.there (.there .here)) .nil)) : Sel _ [stb zJ 28 [(.int .i64 z1d.fN),(.int .i64 z1d.fD)],stb zK 28 [(.int .i64 z1e.fN),(.int .i64 z1e.fD)]] _).mem hx'); exact w_rat_do_3 (Z:=_) (zd7:=⟨zJ,0,none⟩) (zd8:=⟨zK,0,none⟩) (zar:=z1d) (zas:=z1e) (r:=zbm) w pz ((hw.lent (.nil : Sel [mapA z6p Value.string (fun x=>x) [(⟨#[43]⟩,(.func (.func 64) #[] #[(.pointer (some ⟨zJ,0,none⟩)),(.pointer (some ⟨zK,0,none⟩))])),(⟨#[45]⟩,(.func (.func 65) #[] #[(.pointer (some ⟨zJ,0,none⟩)),(.pointer (some ⟨zK,0,none⟩))])),(⟨#[42]⟩,(.func (.func 66) #[] #[(.pointer (some ⟨zJ,0,none⟩)),(.pointer (some ⟨zK,0,none⟩))])),(⟨#[47]⟩,(.func (.func 67) #[] #[(.pointer (some ⟨zJ,0,none⟩)),(.pointer (some ⟨zK,0,none⟩))]))],stb z3T 28 [(.int .i64 0),(.int .i64 0)],stb zK 28 [(.int .i64 z1e.fN),(.int .i64 z1e.fD)],stb zJ 28 [(.int .i64 z1d.fN),(.int .i64 z1d.fD)]] [] [mapA z6p Value.string (fun x=>x) [(⟨#[43]⟩,(.func (.func 64) #[] #[(.pointer (some ⟨zJ,0,none⟩)),(.pointer (some ⟨zK,0,none⟩))])),(⟨#[45]⟩,(.func (.func 65) #[] #[(.pointer (some ⟨zJ,0,none⟩)),(.pointer (some ⟨zK,0,none⟩))])),(⟨#[42]⟩,(.func (.func 66) #[] #[(.pointer (some ⟨zJ,0,none⟩)),(.pointer (some ⟨zK,0,none⟩))])),(⟨#[47]⟩,(.func (.func 67) #[] #[(.pointer (some ⟨zJ,0,none⟩)),(.pointer (some ⟨zK,0,none⟩))]))],stb z3T 28 [(.int .i64 0),(.int .i64 0)],stb zK 28 [(.int .i64 z1e.fN),(.int .i64 z1e.fD)],stb zJ 28 [(.int .i64 z1d.fN),(.int .i64 z1d.fD)]]) (B:=[stb zJ 28 [(.int .i64 z1d.fN),(.int .i64 z1d.fD)],stb zK 28 [(.int .i64 z1e.fN),(.int .i64 z1e.fD)]]) (fun _ hx'=>((.cons (.there (.there (.there .here))) (.cons (.there (.there .here)) .nil)) : Sel _ [stb zJ 28 [(.int .i64 z1d.fN),(.int .i64 z1d.fD)],stb zK 28 [(.int .i64 z1e.fN),(.int .i64 z1e.fD)]] _).mem hx') (.head _) _).stb) ((hw.lent (.nil : Sel [mapA z6p Value.string (fun x=>x) [(⟨#[43]⟩,(.func (.func 64) #[] #[(.pointer (some ⟨zJ,0,none⟩)),(.pointer (some ⟨zK,0,none⟩))])),(⟨#[45]⟩,(.func (.func 65) #[] #[(.pointer (some ⟨zJ,0,none⟩)),(.pointer (some ⟨zK,0,none⟩))])),(⟨#[42]⟩,(.func (.func 66) #[] #[(.pointer (some ⟨zJ,0,none⟩)),(.pointer (some ⟨zK,0,none⟩))])),(⟨#[47]⟩,(.func (.func 67) #[] #[(.pointer (some ⟨zJ,0,none⟩)),(.pointer (some ⟨zK,0,none⟩))]))],stb z3T 28 [(.int .i64 0),(.int .i64 0)],stb zK 28 [(.int .i64 z1e.fN),(.int .i64 z1e.fD)],stb zJ 28 [(.int .i64 z1d.fN),(.int .i64 z1d.fD)]] [] [mapA z6p Value.string (fun x=>x) [(⟨#[43]⟩,(.func (.func 64) #[] #[(.pointer (some ⟨zJ,0,none⟩)),(.pointer (some ⟨zK,0,none⟩))])),(⟨#[45]⟩,(.func (.func 65) #[] #[(.pointer (some ⟨zJ,0,none⟩)),(.pointer (some ⟨zK,0,none⟩))])),(⟨#[42]⟩,(.func (.func 66) #[] #[(.pointer (some ⟨zJ,0,none⟩)),(.pointer (some ⟨zK,0,none⟩))])),(⟨#[47]⟩,(.func (.func 67) #[] #[(.pointer (some ⟨zJ,0,none⟩)),(.pointer (some ⟨zK,0,none⟩))]))],stb z3T 28 [(.int .i64 0),(.int .i64 0)],stb zK 28 [(.int .i64 z1e.fN),(.int .i64 z1e.fD)],stb zJ 28 [(.int .i64 z1d.fN),(.int .i64 z1d.fD)]]) (B:=[stb zJ 28 [(.int .i64 z1d.fN),(.int .i64 z1d.fD)],stb zK 28 [(.int .i64 z1e.fN),(.int .i64 z1e.fD)]]) (fun _ hx'=>((.cons (.there (.there (.there .here))) (.cons (.there (.there .here)) .nil)) : Sel _ [stb zJ 28 [(.int .i64 z1d.fN),(.int .i64 z1d.fD)],stb zK 28 [(.int .i64 z1e.fN),(.int .i64 z1e.fD)]] _).mem hx') (.tail _ (.head _)) _).stb) zpx) ?_
    refine WL.quiet (d:=37) rfl rfl rfl (q_extract rfl rfl) ?_
    refine WL.quiet (d:=38) rfl rfl rfl (q_extract rfl rfl) ?_
    refine WL.callD (dd:=39) rfl rfl rfl (zg (l:=[.tmp 37,.tmp 38]) Try.call38 (.cons rfl (.cons rfl .nil))) (.nil : Sel [mapA z6p Value.string (fun x=>x) [(⟨#[43]⟩,(.func (.func 64) #[] #[(.pointer (some ⟨zJ,0,none⟩)),(.pointer (some ⟨zK,0,none⟩))])),(⟨#[45]⟩,(.func (.func 65) #[] #[(.pointer (some ⟨zJ,0,none⟩)),(.pointer (some ⟨zK,0,none⟩))])),(⟨#[42]⟩,(.func (.func 66) #[] #[(.pointer (some ⟨zJ,0,none⟩)),(.pointer (some ⟨zK,0,none⟩))])),(⟨#[47]⟩,(.func (.func 67) #[] #[(.pointer (some ⟨zJ,0,none⟩)),(.pointer (some ⟨zK,0,none⟩))]))],stb z3T 28 [(.int .i64 0),(.int .i64 0)],stb zK 28 [(.int .i64 z1e.fN),(.int .i64 z1e.fD)],stb zJ 28 [(.int .i64 z1d.fN),(.int .i64 z1d.fD)]] [] [mapA z6p Value.string (fun x=>x) [(⟨#[43]⟩,(.func (.func 64) #[] #[(.pointer (some ⟨zJ,0,none⟩)),(.pointer (some ⟨zK,0,none⟩))])),(⟨#[45]⟩,(.func (.func 65) #[] #[(.pointer (some ⟨zJ,0,none⟩)),(.pointer (some ⟨zK,0,none⟩))])),(⟨#[42]⟩,(.func (.func 66) #[] #[(.pointer (some ⟨zJ,0,none⟩)),(.pointer (some ⟨zK,0,none⟩))])),(⟨#[47]⟩,(.func (.func 67) #[] #[(.pointer (some ⟨zJ,0,none⟩)),(.pointer (some ⟨zK,0,none⟩))]))],stb z3T 28 [(.int .i64 0),(.int .i64 0)],stb zK 28 [(.int .i64 z1e.fN),(.int .i64 z1e.fD)],stb zJ 28 [(.int .i64 z1d.fN),(.int .i64 z1d.fD)]]) (fun w hw=>by have pz:=(hz.call hw (.nil : Sel [mapA z6p Value.string (fun x=>x) [(⟨#[43]⟩,(.func (.func 64) #[] #[(.pointer (some ⟨zJ,0,none⟩)),(.pointer (some ⟨zK,0,none⟩))])),(⟨#[45]⟩,(.func (.func 65) #[] #[(.pointer (some ⟨zJ,0,none⟩)),(.pointer (some ⟨zK,0,none⟩))])),(⟨#[42]⟩,(.func (.func 66) #[] #[(.pointer (some ⟨zJ,0,none⟩)),(.pointer (some ⟨zK,0,none⟩))])),(⟨#[47]⟩,(.func (.func 67) #[] #[(.pointer (some ⟨zJ,0,none⟩)),(.pointer (some ⟨zK,0,none⟩))]))],stb z3T 28 [(.int .i64 0),(.int .i64 0)],stb zK 28 [(.int .i64 z1e.fN),(.int .i64 z1e.fD)],stb zJ 28 [(.int .i64 z1d.fN),(.int .i64 z1d.fD)]] [] [mapA z6p Value.string (fun x=>x) [(⟨#[43]⟩,(.func (.func 64) #[] #[(.pointer (some ⟨zJ,0,none⟩)),(.pointer (some ⟨zK,0,none⟩))])),(⟨#[45]⟩,(.func (.func 65) #[] #[(.pointer (some ⟨zJ,0,none⟩)),(.pointer (some ⟨zK,0,none⟩))])),(⟨#[42]⟩,(.func (.func 66) #[] #[(.pointer (some ⟨zJ,0,none⟩)),(.pointer (some ⟨zK,0,none⟩))])),(⟨#[47]⟩,(.func (.func 67) #[] #[(.pointer (some ⟨zJ,0,none⟩)),(.pointer (some ⟨zK,0,none⟩))]))],stb z3T 28 [(.int .i64 0),(.int .i64 0)],stb zK 28 [(.int .i64 z1e.fN),(.int .i64 z1e.fD)],stb zJ 28 [(.int .i64 z1d.fN),(.int .i64 z1d.fD)]])); exact w_rat_Make (Z:=_)  (n_22:=zbm.1) (d_23:=zbm.2) (r:=z9w) w pz  zpy) ?_
    refine WL.quiet (d:=40) rfl rfl rfl (q_extract rfl rfl) ?_
    refine WL.quiet (d:=41) rfl rfl rfl (q_extract rfl rfl) ?_
    refine WL.eff0 rfl rfl (e_store (vs:=[(.int .i64 z9w.1.fN),(.int .i64 z9w.1.fD)]) (ds:=[(.int .i64 z9w.1.fN),(.int .i64 z9w.1.fD)]) sizT_28 rfl rfl rfl rfl (oc_cons rfl (oc_cons rfl oc_nil)) (.there .here) (Nat.le_of_ble_eq_true rfl) rfl) ?_
    refine WL.quiet (d:=7) rfl rfl rfl (q_assign rfl) ?_
    refine WL.nil ?_
    refine WX.then ?_
    refine WC.ret ?_
    obtain rfl:=Option.some.inj h
    refine WX.bpRet Try.results39 (.agg rfl aggT_28 rfl (rd_all .here) (.tmp rfl .nil)) (fun w hw=>?_)
    exact ⟨ret2 rfl rfl,hw.sub .nil⟩
def m_rat_Mul (z4i : z2) (z4j : z2) : Option (z2 × Int) :=
 (m_rat_dob z4i z4j).bind fun z9x=>some (z9x.1,z9x.2)
set_option maxRecDepth 20000 in
theorem w_rat_Mul (Z : Zp)   (z4i : z2) (z4j : z2) (r : z2 × Int) (w₀ : World) (hz : PZ [] w₀ Z)
  (h : m_rat_Mul z4i z4j = some r) :
  Calls Try.prog 16 #[(.agg #[(.int .i64 z4i.fN),(.int .i64 z4i.fD)]),(.agg #[(.int .i64 z4j.fN),(.int .i64 z4j.fD)])] w₀ fun e w'=>e = .returned (.tuple #[(.agg #[(.int .i64 r.1.fN),(.int .i64 r.1.fD)]),(.int .i64 r.2)]) ∧ Hp [] w₀ w' []:=by
 unfold m_rat_Mul at h
 refine Calls.ofWC (vs:=[(.agg #[(.int .i64 z4i.fN),(.int .i64 z4i.fD)]),(.agg #[(.int .i64 z4j.fN),(.int .i64 z4j.fD)])]) (pre:=[]) (env:=[(0,(.agg #[(.int .i64 z4i.fN),(.int .i64 z4i.fD)])),(1,(.agg #[(.int .i64 z4j.fN),(.int .i64 z4j.fD)]))]) Try.func16 rfl Try.ntmps16 rfl (Hp.nil w₀ _) rfl ?_
 refine WC.seq ?_
 refine WC.region ?_
 refine WL.new (dd:=2) rfl rfl rfl (e_box (cs:=[(.int .i64 z4i.fN),(.int .i64 z4i.fD)]) rfl rfl) ?_
 intro zer _
 refine WL.new (dd:=3) rfl rfl rfl (e_box (cs:=[(.int .i64 z4j.fN),(.int .i64 z4j.fD)]) rfl rfl) ?_
 intro zes _
 refine WL.new (dd:=4) rfl rfl rfl (e_alloc (cs:=[(.int .i64 0),(.int .i64 0)]) zeroT_28 rfl) ?_
 intro zet _
 refine WL.quiet (d:=5) rfl rfl rfl (q_assign rfl) ?_
 refine WL.nil ?_
 refine WX.then ?_
 refine WC.seq ?_
 obtain ⟨z9x,zpz,h⟩:=zb h
 refine WC.region ?_
 refine WL.quiet (d:=6) rfl rfl rfl (q_loadA (cs:=[(.int .i64 z4i.fN),(.int .i64 z4i.fD)]) aggT_28 rfl rfl (rd_all (.there (.there .here)))) ?_
 refine WL.quiet (d:=7) rfl rfl rfl (q_loadA (cs:=[(.int .i64 z4j.fN),(.int .i64 z4j.fD)]) aggT_28 rfl rfl (rd_all (.there .here))) ?_
 refine WL.callD (dd:=8) rfl rfl rfl (zg (l:=[.const (.string ⟨#[42]⟩),.tmp 6,.tmp 7]) Try.call39 (.cons rfl (.cons rfl (.cons rfl .nil)))) (.nil : Sel [stb zet 28 [(.int .i64 0),(.int .i64 0)],stb zes 28 [(.int .i64 z4j.fN),(.int .i64 z4j.fD)],stb zer 28 [(.int .i64 z4i.fN),(.int .i64 z4i.fD)]] [] [stb zet 28 [(.int .i64 0),(.int .i64 0)],stb zes 28 [(.int .i64 z4j.fN),(.int .i64 z4j.fD)],stb zer 28 [(.int .i64 z4i.fN),(.int .i64 z4i.fD)]]) (fun w hw=>by have pz:=(hz.call hw (.nil : Sel [stb zet 28 [(.int .i64 0),(.int .i64 0)],stb zes 28 [(.int .i64 z4j.fN),(.int .i64 z4j.fD)],stb zer 28 [(.int .i64 z4i.fN),(.int .i64 z4i.fD)]] [] [stb zet 28 [(.int .i64 0),(.int .i64 0)],stb zes 28 [(.int .i64 z4j.fN),(.int .i64 z4j.fD)],stb zer 28 [(.int .i64 z4i.fN),(.int .i64 z4i.fD)]])); exact w_rat_dob (Z:=_)  (z1d:=z4i) (z1e:=z4j) (r:=z9x) w pz  zpz) ?_
 refine WL.quiet (d:=9) rfl rfl rfl (q_extract rfl rfl) ?_
 refine WL.quiet (d:=10) rfl rfl rfl (q_extract rfl rfl) ?_
 refine WL.eff0 rfl rfl (e_store (vs:=[(.int .i64 z9x.1.fN),(.int .i64 z9x.1.fD)]) (ds:=[(.int .i64 z9x.1.fN),(.int .i64 z9x.1.fD)]) sizT_28 rfl rfl rfl rfl (oc_cons rfl (oc_cons rfl oc_nil)) .here (Nat.le_of_ble_eq_true rfl) rfl) ?_
 refine WL.quiet (d:=5) rfl rfl rfl (q_assign rfl) ?_
 refine WL.nil ?_
 refine WX.then ?_
 refine WC.ret ?_
 obtain rfl:=Option.some.inj h
 refine WX.bpRet Try.results16 (.agg rfl aggT_28 rfl (rd_all .here) (.tmp rfl .nil)) (fun w hw=>?_)
 exact ⟨ret2 rfl rfl,hw.sub .nil⟩
def m_curve_calc_do (z5U : z5A) (z7o : z2 → z2 → Option (z2 × Int)) (z4P : z2) (z4Q : z2) : Option (z2 × z5A) :=
 if decide (z5U.fE ≠ 0) then some ((⟨0,0⟩ : z2),z5U) else (z7o z4P z4Q).bind fun z5V=>some (z5V.1,(⟨z5V.2⟩ : z5A))
set_option maxRecDepth 20000 in
theorem w_curve_calc_do (Z : Zp)  (z5W : Nat) (z6q : FuncId) (z6V : List Value) (z5U : z5A) (z7o : z2 → z2 → Option (z2 × Int)) (z4P : z2) (z4Q : z2) (r : z2 × z5A) (w₀ : World) (hz : PZ (fps [stb z5W 74 [(.int .i64 z5U.fE)]]) w₀ Z)
  (zpA : ∀ args w,(callFunc z6q args).run Try.prog w = .ok (.enter z6q args) w)
  (zpB : ∀ w : World,PZ [] w Z → ∀ (x0 : z2) (x1 : z2) (r : z2 × Int),z7o x0 x1 = some r → Calls Try.prog z6q (([(.agg #[(.int .i64 x0.fN),(.int .i64 x0.fD)]),(.agg #[(.int .i64 x1.fN),(.int .i64 x1.fD)])] : List Value) ++ z6V).toArray w fun e w'=>e = .returned (.tuple #[(.agg #[(.int .i64 r.1.fN),(.int .i64 r.1.fD)]),(.int .i64 r.2)]) ∧ Hp [] w w' [])
  (h : m_curve_calc_do z5U z7o z4P z4Q = some r)
  (hown : Hp (fps [stb z5W 74 [(.int .i64 z5U.fE)]]) w₀ w₀ [stb z5W 74 [(.int .i64 z5U.fE)]]) :
  Calls Try.prog 47 #[(.pointer (some ⟨z5W,0,none⟩)),(.func (.func z6q) #[] (z6V).toArray),(.agg #[(.int .i64 z4P.fN),(.int .i64 z4P.fD)]),(.agg #[(.int .i64 z4Q.fN),(.int .i64 z4Q.fD)])] w₀ fun e w'=>e = .returned (.agg #[(.int .i64 r.1.fN),(.int .i64 r.1.fD)]) ∧ Hp (fps [stb z5W 74 [(.int .i64 z5U.fE)]]) w₀ w' [stb z5W 74 [(.int .i64 r.2.fE)]]:=by
 unfold m_curve_calc_do at h
 refine Calls.ofWC (vs:=[(.pointer (some ⟨z5W,0,none⟩)),(.func (.func z6q) #[] (z6V).toArray),(.agg #[(.int .i64 z4P.fN),(.int .i64 z4P.fD)]),(.agg #[(.int .i64 z4Q.fN),(.int .i64 z4Q.fD)])]) (pre:=[stb z5W 74 [(.int .i64 z5U.fE)]]) (env:=[(0,(.pointer (some ⟨z5W,0,none⟩))),(1,(.func (.func z6q) #[] (z6V).toArray)),(2,(.agg #[(.int .i64 z4P.fN),(.int .i64 z4P.fD)])),(3,(.agg #[(.int .i64 z4Q.fN),(.int .i64 z4Q.fD)]))]) Try.func47 rfl Try.ntmps47 rfl (hown) rfl ?_
 refine WC.seq ?_
 refine WC.region ?_
 refine WL.new (dd:=6) rfl rfl rfl (e_box (cs:=[(.int .i64 z4P.fN),(.int .i64 z4P.fD)]) rfl rfl) ?_
 intro zwV _
 refine WL.new (dd:=7) rfl rfl rfl (e_box (cs:=[(.int .i64 z4Q.fN),(.int .i64 z4Q.fD)]) rfl rfl) ?_
 intro zwW _
 refine WL.new (dd:=8) rfl rfl rfl (e_alloc (cs:=[(.int .i64 0),(.int .i64 0)]) zeroT_28 rfl) ?_
 intro zwX _
 refine WL.nil ?_
 refine WX.then ?_
 refine WC.seq ?_
 refine WC.seq ?_
 refine WC.region ?_
 refine WL.quiet (d:=11) rfl rfl rfl (q_move rfl) ?_
 refine WL.quiet (d:=12) rfl rfl rfl (q_nilCheck rfl) ?_
 refine WL.quiet (d:=13) rfl rfl rfl (q_fieldAddr fo_74_0 rfl rfl) ?_
 refine WL.quiet (d:=14) rfl rfl rfl (q_load1 oneT_30 rfl (rd_stb (.there (.there (.there .here))) rfl)) ?_
 refine WL.quiet (d:=15) rfl rfl rfl (q_neq rfl rfl) ?_
 refine WL.nil ?_
 refine WX.then ?_
 refine WC.cond rfl (fun zgu=>?_) (fun zgu=>?_)
 ·replace h:=ite_t h zgu
  refine WC.seq ?_
  refine WC.region ?_
  refine WL.quiet (d:=16) rfl rfl rfl (q_build (v:=(.agg #[(.int .i64 0),(.int .i64 0)])) (Eos.parts (l:=[]) .nil []) (fun _=>by kernel_rfl)) ?_
  refine WL.eff0 rfl rfl (e_store (vs:=[(.int .i64 0),(.int .i64 0)]) (ds:=[(.int .i64 0),(.int .i64 0)]) sizT_28 rfl rfl rfl rfl (oc_cons rfl (oc_cons rfl oc_nil)) .here (Nat.le_of_ble_eq_true rfl) rfl) ?_
  refine WL.nil ?_
  refine WX.then ?_
  refine WC.ret ?_
  refine WX.thenRet ?_
  obtain rfl:=Option.some.inj h
  refine WX.bpRet Try.results47 (.agg rfl aggT_28 rfl (rd_all .here) .nil) (fun w hw=>?_)
  exact ⟨ret1 rfl,hw.sub (.cons (.there (.there (.there .here))) .nil)⟩
 ·replace h:=ite_f h zgu
  refine WC.skip ?_
  refine WX.then ?_
  refine WC.seq ?_
  obtain ⟨z5V,zpC,h⟩:=zb h
  refine WC.region ?_
  refine WL.quiet (d:=18) rfl rfl rfl (q_move rfl) ?_
  refine WL.quiet (d:=19) rfl rfl rfl (q_loadA (cs:=[(.int .i64 z4P.fN),(.int .i64 z4P.fD)]) aggT_28 rfl rfl (rd_all (.there (.there .here)))) ?_
  refine WL.quiet (d:=20) rfl rfl rfl (q_loadA (cs:=[(.int .i64 z4Q.fN),(.int .i64 z4Q.fD)]) aggT_28 rfl rfl (rd_all (.there .here))) ?_
  refine WL.callD (dd:=21) rfl rfl rfl (run_callv (l:=[.tmp 19,.tmp 20]) (f:=z6q) (caps:=z6V) zpA rfl (.cons rfl (.cons rfl .nil))) .nil (fun w hw=>zpB w (hz.now hw) z4P z4Q z5V  zpC) ?_
  refine WL.quiet (d:=17) rfl rfl rfl (q_move rfl) ?_
  refine WL.quiet (d:=22) rfl rfl rfl (q_extract rfl rfl) ?_
  refine WL.quiet (d:=23) rfl rfl rfl (q_extract rfl rfl) ?_
  refine WL.new (dd:=9) rfl rfl rfl (e_alloc (cs:=[(.int .i64 0),(.int .i64 0)]) zeroT_28 rfl) ?_
  intro zwY _
  refine WL.eff0 rfl rfl (e_store (vs:=[(.int .i64 z5V.1.fN),(.int .i64 z5V.1.fD)]) (ds:=[(.int .i64 z5V.1.fN),(.int .i64 z5V.1.fD)]) sizT_28 rfl rfl rfl rfl (oc_cons rfl (oc_cons rfl oc_nil)) .here (Nat.le_of_ble_eq_true rfl) rfl) ?_
  refine WL.quiet (d:=10) rfl rfl rfl (q_assign rfl) ?_
  refine WL.nil ?_
  refine WX.then ?_
  refine WC.seq ?_
  refine WC.region ?_
  refine WL.quiet (d:=24) rfl rfl rfl (q_move rfl) ?_
  refine WL.quiet (d:=25) rfl rfl rfl (q_move rfl) ?_
  refine WL.quiet (d:=26) rfl rfl rfl (q_nilCheck rfl) ?_
  refine WL.quiet (d:=27) rfl rfl rfl (q_fieldAddr fo_74_0 rfl rfl) ?_
  refine WL.eff0 rfl rfl (e_store (vs:=[(.int .i64 z5V.2)]) (ds:=[(.int .i64 z5V.2)]) sizT_30 rfl rfl rfl rfl (oc_cons rfl oc_nil) (.there (.there (.there (.there .here)))) (Nat.le_of_ble_eq_true rfl) rfl) ?_
  refine WL.nil ?_
  refine WX.then ?_
  refine WC.seq ?_
  refine WC.region ?_
  refine WL.quiet (d:=28) rfl rfl rfl (q_loadA (cs:=[(.int .i64 z5V.1.fN),(.int .i64 z5V.1.fD)]) aggT_28 rfl rfl (rd_all (.there .here))) ?_
  refine WL.eff0 rfl rfl (e_store (vs:=[(.int .i64 z5V.1.fN),(.int .i64 z5V.1.fD)]) (ds:=[(.int .i64 z5V.1.fN),(.int .i64 z5V.1.fD)]) sizT_28 rfl rfl rfl rfl (oc_cons rfl (oc_cons rfl oc_nil)) (.there (.there .here)) (Nat.le_of_ble_eq_true rfl) rfl) ?_
  refine WL.nil ?_
  refine WX.then ?_
  refine WC.ret ?_
  obtain rfl:=Option.some.inj h
  refine WX.bpRet Try.results47 (.agg rfl aggT_28 rfl (rd_all .here) .nil) (fun w hw=>?_)
  exact ⟨ret1 rfl,hw.sub (.cons (.there .here) .nil)⟩
def m_curve_calc_value (z5C : z5A) (z13 : z1) (z2D : z2) : Option (z2 × z5A) :=
 (m_curve_calc_do z5C (fun (y0 : z2) (y1 : z2)=>m_rat_Mul y0 y1) z13.fRate z2D).bind fun z6W=>(m_curve_calc_do z6W.2 (fun (y0 : z2) (y1 : z2)=>m_rat_Add y0 y1) z13.fBurst z6W.1).bind fun z9y=>some (z9y.1,z9y.2)
set_option maxRecDepth 20000 in
theorem w_curve_calc_value (Z : Zp)  (z43 : Nat) (z5C : z5A) (z13 : z1) (z2D : z2) (r : z2 × z5A) (w₀ : World) (hz : PZ (fps [stb z43 74 [(.int .i64 z5C.fE)]]) w₀ Z)
  (h : m_curve_calc_value z5C z13 z2D = some r)
  (hown : Hp (fps [stb z43 74 [(.int .i64 z5C.fE)]]) w₀ w₀ [stb z43 74 [(.int .i64 z5C.fE)]]) :
  Calls Try.prog 51 #[(.pointer (some ⟨z43,0,none⟩)),(.agg #[(.int .i64 z13.fBurst.fN),(.int .i64 z13.fBurst.fD),(.int .i64 z13.fRate.fN),(.int .i64 z13.fRate.fD)]),(.agg #[(.int .i64 z2D.fN),(.int .i64 z2D.fD)])] w₀ fun e w'=>e = .returned (.agg #[(.int .i64 r.1.fN),(.int .i64 r.1.fD)]) ∧ Hp (fps [stb z43 74 [(.int .i64 z5C.fE)]]) w₀ w' [stb z43 74 [(.int .i64 r.2.fE)]]:=by
 unfold m_curve_calc_value at h
 refine Calls.ofWC (vs:=[(.pointer (some ⟨z43,0,none⟩)),(.agg #[(.int .i64 z13.fBurst.fN),(.int .i64 z13.fBurst.fD),(.int .i64 z13.fRate.fN),(.int .i64 z13.fRate.fD)]),(.agg #[(.int .i64 z2D.fN),(.int .i64 z2D.fD)])]) (pre:=[stb z43 74 [(.int .i64 z5C.fE)]]) (env:=[(0,(.pointer (some ⟨z43,0,none⟩))),(1,(.agg #[(.int .i64 z13.fBurst.fN),(.int .i64 z13.fBurst.fD),(.int .i64 z13.fRate.fN),(.int .i64 z13.fRate.fD)])),(2,(.agg #[(.int .i64 z2D.fN),(.int .i64 z2D.fD)]))]) Try.func51 rfl Try.ntmps51 rfl (hown) rfl ?_
 refine WC.seq ?_
 refine WC.region ?_
 refine WL.new (dd:=4) rfl rfl rfl (e_box (cs:=[(.int .i64 z13.fBurst.fN),(.int .i64 z13.fBurst.fD),(.int .i64 z13.fRate.fN),(.int .i64 z13.fRate.fD)]) rfl rfl) ?_
 intro z6D _
 refine WL.new (dd:=5) rfl rfl rfl (e_box (cs:=[(.int .i64 z2D.fN),(.int .i64 z2D.fD)]) rfl rfl) ?_
 intro z6X _
 refine WL.new (dd:=6) rfl rfl rfl (e_alloc (cs:=[(.int .i64 0),(.int .i64 0)]) zeroT_28 rfl) ?_
 intro z6Y _
 refine WL.nil ?_
 refine WX.then ?_
 refine WC.seq ?_
 obtain ⟨z6W,zpD,h⟩:=zb h
 obtain ⟨z9y,zpE,h⟩:=zb h
 refine WC.draw (fun i=>[7,8,9].contains i) [stb z6D 42 [(.int .i64 z13.fBurst.fN),(.int .i64 z13.fBurst.fD),(.int .i64 z13.fRate.fN),(.int .i64 z13.fRate.fD)]] rfl ?_
 refine WD.pure (i:=0) (d:=7) (by kernel_rfl) rfl (z6 (by kernel_rfl)) (z7 (by kernel_rfl)) rfl rfl rfl (fun _=>q_move rfl) ?_
 refine WD.pure (i:=1) (d:=8) (by kernel_rfl) rfl (z6 (by kernel_rfl)) (z7 (by kernel_rfl)) rfl rfl rfl (fun _=>q_fieldAddr fo_42_0 rfl rfl) ?_
 refine WD.stable (i:=2) (d:=9) (by kernel_rfl) rfl (z6 (by kernel_rfl)) (z7 (by kernel_rfl)) rfl rfl rfl (Sin.of (.cons (.there (.there .here)) .nil)) (q_loadA (cs:=[(.int .i64 z13.fBurst.fN),(.int .i64 z13.fBurst.fD)]) aggT_28 rfl rfl (rd_sub (s:=2) .here rfl)) ?_
 refine WD.pure (i:=3) (d:=10) (by kernel_rfl) rfl (z6 (by kernel_rfl)) (z7 (by kernel_rfl)) rfl rfl rfl (fun _=>q_move rfl) ?_
 refine WD.pure (i:=4) (d:=11) (by kernel_rfl) rfl (z6 (by kernel_rfl)) (z7 (by kernel_rfl)) rfl rfl rfl (fun _=>q_fieldAddr fo_42_1 rfl rfl) ?_
 refine WD.quiet (i:=5) (d:=12) (by kernel_rfl) rfl (z6 (by kernel_rfl)) (z7 (by kernel_rfl)) rfl rfl rfl (q_loadA (cs:=[(.int .i64 z13.fRate.fN),(.int .i64 z13.fRate.fD)]) aggT_28 rfl rfl (rd_sub (s:=2) (.there (.there .here)) rfl)) ?_
 refine WD.quiet (i:=6) (d:=13) (by kernel_rfl) rfl (z6 (by kernel_rfl)) (z7 (by kernel_rfl)) rfl rfl rfl (q_loadA (cs:=[(.int .i64 z2D.fN),(.int .i64 z2D.fD)]) aggT_28 rfl rfl (rd_all (.there .here))) ?_
 refine WD.call0 (i:=7) (dd:=14) rfl (by kernel_rfl) rfl rfl rfl (.inl ⟨rfl,(Sin.of (.cons (.there (.there (.there .here))) .nil))⟩) (zg (l:=[.tmp 10,.func 16,.tmp 12,.tmp 13]) Try.call47 (.cons rfl (.cons rfl (.cons rfl (.cons rfl .nil))))) ((.cons (.there (.there (.there .here))) .nil) : Sel [stb z6Y 28 [(.int .i64 0),(.int .i64 0)],stb z6X 28 [(.int .i64 z2D.fN),(.int .i64 z2D.fD)],stb z6D 42 [(.int .i64 z13.fBurst.fN),(.int .i64 z13.fBurst.fD),(.int .i64 z13.fRate.fN),(.int .i64 z13.fRate.fD)],stb z43 74 [(.int .i64 z5C.fE)]] [stb z43 74 [(.int .i64 z5C.fE)]] [stb z6Y 28 [(.int .i64 0),(.int .i64 0)],stb z6X 28 [(.int .i64 z2D.fN),(.int .i64 z2D.fD)],stb z6D 42 [(.int .i64 z13.fBurst.fN),(.int .i64 z13.fBurst.fD),(.int .i64 z13.fRate.fN),(.int .i64 z13.fRate.fD)]]) (fun w hw=>by have pz:=(hz.call hw ((.cons (.there (.there (.there .here))) .nil) : Sel [stb z6Y 28 [(.int .i64 0),(.int .i64 0)],stb z6X 28 [(.int .i64 z2D.fN),(.int .i64 z2D.fD)],stb z6D 42 [(.int .i64 z13.fBurst.fN),(.int .i64 z13.fBurst.fD),(.int .i64 z13.fRate.fN),(.int .i64 z13.fRate.fD)],stb z43 74 [(.int .i64 z5C.fE)]] [stb z43 74 [(.int .i64 z5C.fE)]] [stb z6Y 28 [(.int .i64 0),(.int .i64 0)],stb z6X 28 [(.int .i64 z2D.fN),(.int .i64 z2D.fD)],stb z6D 42 [(.int .i64 z13.fBurst.fN),(.int .i64 z13.fBurst.fD),(.int .i64 z13.fRate.fN),(.int .i64 z13.fRate.fD)]])); exact Calls.mono (w_curve_calc_do (Z:=_) (z5W:=z43) (z6q:=16) (z6V:=[]) (z5U:=z5C) (z7o:=(fun (y0 : z2) (y1 : z2)=>m_rat_Mul y0 y1)) (z4P:=z13.fRate) (z4Q:=z2D) (r:=z6W) w pz Try.call16 (fun w' hz' y0 y1  r  hr=>w_rat_Mul (Z:=_)  (z4i:=y0) (z4j:=y1) (r:=r) w' hz'  hr) zpD (hw.owns ((.cons (.there (.there (.there .here))) .nil) : Sel [stb z6Y 28 [(.int .i64 0),(.int .i64 0)],stb z6X 28 [(.int .i64 z2D.fN),(.int .i64 z2D.fD)],stb z6D 42 [(.int .i64 z13.fBurst.fN),(.int .i64 z13.fBurst.fD),(.int .i64 z13.fRate.fN),(.int .i64 z13.fRate.fD)],stb z43 74 [(.int .i64 z5C.fE)]] [stb z43 74 [(.int .i64 z5C.fE)]] [stb z6Y 28 [(.int .i64 0),(.int .i64 0)],stb z6X 28 [(.int .i64 z2D.fN),(.int .i64 z2D.fD)],stb z6D 42 [(.int .i64 z13.fBurst.fN),(.int .i64 z13.fBurst.fD),(.int .i64 z13.fRate.fN),(.int .i64 z13.fRate.fD)]]))) (fun _ _ h'=>⟨h'.1,trivial,h'.2⟩)) ?_
 intro _
 refine WD.call0 (i:=8) (dd:=15) rfl (by kernel_rfl) rfl rfl rfl (.inl ⟨rfl,(Sin.of (.cons (.there (.there (.there .here))) .nil))⟩) (zg (l:=[.tmp 7,.func 12,.tmp 9,.tmp 14]) Try.call47 (.cons rfl (.cons rfl (.cons rfl (.cons rfl .nil))))) ((.cons .here .nil) : Sel [stb z43 74 [(.int .i64 z6W.2.fE)],stb z6Y 28 [(.int .i64 0),(.int .i64 0)],stb z6X 28 [(.int .i64 z2D.fN),(.int .i64 z2D.fD)],stb z6D 42 [(.int .i64 z13.fBurst.fN),(.int .i64 z13.fBurst.fD),(.int .i64 z13.fRate.fN),(.int .i64 z13.fRate.fD)]] [stb z43 74 [(.int .i64 z6W.2.fE)]] [stb z6Y 28 [(.int .i64 0),(.int .i64 0)],stb z6X 28 [(.int .i64 z2D.fN),(.int .i64 z2D.fD)],stb z6D 42 [(.int .i64 z13.fBurst.fN),(.int .i64 z13.fBurst.fD),(.int .i64 z13.fRate.fN),(.int .i64 z13.fRate.fD)]]) (fun w hw=>by have pz:=(hz.call hw ((.cons .here .nil) : Sel [stb z43 74 [(.int .i64 z6W.2.fE)],stb z6Y 28 [(.int .i64 0),(.int .i64 0)],stb z6X 28 [(.int .i64 z2D.fN),(.int .i64 z2D.fD)],stb z6D 42 [(.int .i64 z13.fBurst.fN),(.int .i64 z13.fBurst.fD),(.int .i64 z13.fRate.fN),(.int .i64 z13.fRate.fD)]] [stb z43 74 [(.int .i64 z6W.2.fE)]] [stb z6Y 28 [(.int .i64 0),(.int .i64 0)],stb z6X 28 [(.int .i64 z2D.fN),(.int .i64 z2D.fD)],stb z6D 42 [(.int .i64 z13.fBurst.fN),(.int .i64 z13.fBurst.fD),(.int .i64 z13.fRate.fN),(.int .i64 z13.fRate.fD)]])); exact Calls.mono (w_curve_calc_do (Z:=_) (z5W:=z43) (z6q:=12) (z6V:=[]) (z5U:=z6W.2) (z7o:=(fun (y0 : z2) (y1 : z2)=>m_rat_Add y0 y1)) (z4P:=z13.fBurst) (z4Q:=z6W.1) (r:=z9y) w pz Try.call12 (fun w' hz' y0 y1  r  hr=>w_rat_Add (Z:=_)  (z41:=y0) (z42:=y1) (r:=r) w' hz'  hr) zpE (hw.owns ((.cons .here .nil) : Sel [stb z43 74 [(.int .i64 z6W.2.fE)],stb z6Y 28 [(.int .i64 0),(.int .i64 0)],stb z6X 28 [(.int .i64 z2D.fN),(.int .i64 z2D.fD)],stb z6D 42 [(.int .i64 z13.fBurst.fN),(.int .i64 z13.fBurst.fD),(.int .i64 z13.fRate.fN),(.int .i64 z13.fRate.fD)]] [stb z43 74 [(.int .i64 z6W.2.fE)]] [stb z6Y 28 [(.int .i64 0),(.int .i64 0)],stb z6X 28 [(.int .i64 z2D.fN),(.int .i64 z2D.fD)],stb z6D 42 [(.int .i64 z13.fBurst.fN),(.int .i64 z13.fBurst.fD),(.int .i64 z13.fRate.fN),(.int .i64 z13.fRate.fD)]]))) (fun _ _ h'=>⟨h'.1,trivial,h'.2⟩)) ?_
 intro _
 refine WD.last0 (i:=9) rfl (by kernel_rfl) rfl rfl rfl (by kernel_rfl) (e_store (vs:=[(.int .i64 z9y.1.fN),(.int .i64 z9y.1.fD)]) (ds:=[(.int .i64 z9y.1.fN),(.int .i64 z9y.1.fD)]) sizT_28 rfl rfl rfl rfl (oc_cons rfl (oc_cons rfl oc_nil)) (.there .here) (Nat.le_of_ble_eq_true rfl) rfl) ?_
 refine WD.done (by kernel_rfl) ?_
 refine WX.then ?_
 refine WC.ret ?_
 obtain rfl:=Option.some.inj h
 refine WX.bpRet Try.results51 (.agg rfl aggT_28 rfl (rd_all .here) .nil) (fun w hw=>?_)
 exact ⟨ret1 rfl,hw.sub (.cons (.there .here) .nil)⟩
def m_rat_Cmp (z2s : z2) (z2t : z2) : Option Int :=
 (m_rat_Valid z2s).bind fun zeu=>(if !zeu then some true else (m_rat_Valid z2t).bind fun zgv=>some (!zgv)).bind fun zgw=>if zgw then some 0 else if decide ((i64 (z2s.fN * z2t.fD)) < (i64 (z2t.fN * z2s.fD))) then some (-1) else if decide ((i64 (z2s.fN * z2t.fD)) > (i64 (z2t.fN * z2s.fD))) then some 1 else some 0
set_option maxRecDepth 20000 in
theorem w_rat_Cmp (Z : Zp)   (z2s : z2) (z2t : z2) (r : Int) (w₀ : World) (hz : PZ [] w₀ Z)
  (h : m_rat_Cmp z2s z2t = some r) :
  Calls Try.prog 17 #[(.agg #[(.int .i64 z2s.fN),(.int .i64 z2s.fD)]),(.agg #[(.int .i64 z2t.fN),(.int .i64 z2t.fD)])] w₀ fun e w'=>e = .returned (.int .i64 r) ∧ Hp [] w₀ w' []:=by
 unfold m_rat_Cmp at h
 refine Calls.ofWC (vs:=[(.agg #[(.int .i64 z2s.fN),(.int .i64 z2s.fD)]),(.agg #[(.int .i64 z2t.fN),(.int .i64 z2t.fD)])]) (pre:=[]) (env:=[(0,(.agg #[(.int .i64 z2s.fN),(.int .i64 z2s.fD)])),(1,(.agg #[(.int .i64 z2t.fN),(.int .i64 z2t.fD)]))]) Try.func17 rfl Try.ntmps17 rfl (Hp.nil w₀ _) rfl ?_
 refine WC.seq ?_
 refine WC.region ?_
 refine WL.new (dd:=2) rfl rfl rfl (e_box (cs:=[(.int .i64 z2s.fN),(.int .i64 z2s.fD)]) rfl rfl) ?_
 intro z7R _
 refine WL.new (dd:=3) rfl rfl rfl (e_box (cs:=[(.int .i64 z2t.fN),(.int .i64 z2t.fD)]) rfl rfl) ?_
 intro z7S _
 refine WL.quiet (d:=4) rfl rfl rfl (q_assign rfl) ?_
 refine WL.nil ?_
 refine WX.then ?_
 refine WC.seq ?_
 refine WC.seq ?_
 obtain ⟨zeu,zpF,h⟩:=zb h
 obtain ⟨zgw,zlz,h⟩:=zb h
 refine WC.region ?_
 refine WL.quiet (d:=7) rfl rfl rfl (q_loadA (cs:=[(.int .i64 z2s.fN),(.int .i64 z2s.fD)]) aggT_28 rfl rfl (rd_all (.there .here))) ?_
 refine WL.callD (dd:=8) rfl rfl rfl (zg (l:=[.tmp 7]) Try.call42 (.cons rfl .nil)) (.nil : Sel [stb z7S 28 [(.int .i64 z2t.fN),(.int .i64 z2t.fD)],stb z7R 28 [(.int .i64 z2s.fN),(.int .i64 z2s.fD)]] [] [stb z7S 28 [(.int .i64 z2t.fN),(.int .i64 z2t.fD)],stb z7R 28 [(.int .i64 z2s.fN),(.int .i64 z2s.fD)]]) (fun w hw=>by have pz:=(hz.call hw (.nil : Sel [stb z7S 28 [(.int .i64 z2t.fN),(.int .i64 z2t.fD)],stb z7R 28 [(.int .i64 z2s.fN),(.int .i64 z2s.fD)]] [] [stb z7S 28 [(.int .i64 z2t.fN),(.int .i64 z2t.fD)],stb z7R 28 [(.int .i64 z2s.fN),(.int .i64 z2s.fD)]])); exact w_rat_Valid (Z:=_)  (z1q:=z2s) (r:=zeu) w pz  zpF) ?_
 refine WL.quiet (d:=9) rfl rfl rfl (q_not rfl) ?_
 refine WL.quiet (d:=10) rfl rfl rfl (q_move rfl) ?_
 refine WL.cut0 True [(2,(.pointer (some ⟨z7R,0,none⟩))),(3,(.pointer (some ⟨z7S,0,none⟩))),(14,(.bool zgw))] [stb z7S 28 [(.int .i64 z2t.fN),(.int .i64 z2t.fD)],stb z7R 28 [(.int .i64 z2s.fN),(.int .i64 z2s.fD)]] 4 ?_ (fun _=>?_)
 ·rcases Bool.eq_false_or_eq_true (!zeu) with hb' | hb'
  ·have zlA:=hb'; clear hb'
   have zgx:=ite_t zlz zlA
   replace zgx:=Option.some.inj zgx
   refine WL.pin (i:=10) rfl zlA ?_
   refine WL.skip rfl rfl rfl ?_
   refine WL.skip rfl rfl rfl ?_
   refine WL.skip rfl rfl rfl ?_
   refine WL.quiet (d:=14) rfl rfl rfl (q_pickT rfl rfl) ?_
   exact WL.cutEnd () trivial (.cons rfl (.cons rfl (.cons (zl zgx) .nil))) (.cons .here (.cons .here .nil))
  ·have zlB:=hb'; clear hb'
   have zdb:=ite_f zlz zlB
   obtain ⟨zgv,zpG,zdb⟩:=zb zdb
   replace zdb:=Option.some.inj zdb
   refine WL.pin (i:=10) rfl zlB ?_
   refine WL.quiet (d:=11) rfl rfl rfl (q_loadA (cs:=[(.int .i64 z2t.fN),(.int .i64 z2t.fD)]) aggT_28 rfl rfl (rd_all .here)) ?_
   refine WL.callD (dd:=12) rfl rfl rfl (zg (l:=[.tmp 11]) Try.call42 (.cons rfl .nil)) (.nil : Sel [stb z7S 28 [(.int .i64 z2t.fN),(.int .i64 z2t.fD)],stb z7R 28 [(.int .i64 z2s.fN),(.int .i64 z2s.fD)]] [] [stb z7S 28 [(.int .i64 z2t.fN),(.int .i64 z2t.fD)],stb z7R 28 [(.int .i64 z2s.fN),(.int .i64 z2s.fD)]]) (fun w hw=>by have pz:=(hz.call hw (.nil : Sel [stb z7S 28 [(.int .i64 z2t.fN),(.int .i64 z2t.fD)],stb z7R 28 [(.int .i64 z2s.fN),(.int .i64 z2s.fD)]] [] [stb z7S 28 [(.int .i64 z2t.fN),(.int .i64 z2t.fD)],stb z7R 28 [(.int .i64 z2s.fN),(.int .i64 z2s.fD)]])); exact w_rat_Valid (Z:=_)  (z1q:=z2t) (r:=zgv) w pz  zpG) ?_
   refine WL.quiet (d:=13) rfl rfl rfl (q_not rfl) ?_
   refine WL.quiet (d:=14) rfl rfl rfl (q_pickF rfl rfl) ?_
   exact WL.cutEnd () trivial (.cons rfl (.cons rfl (.cons (zl zdb) .nil))) (.cons .here (.cons .here .nil))
 ·skip
  refine WL.nil ?_
  refine WX.then ?_
  refine WC.cond rfl (fun zgy=>?_) (fun zgy=>?_)
  ·replace h:=ite_t h zgy
   refine WC.seq ?_
   refine WC.region ?_
   refine WL.quiet (d:=4) rfl rfl rfl (q_assign rfl) ?_
   refine WL.nil ?_
   refine WX.then ?_
   refine WC.ret ?_
   refine WX.thenRet ?_
   obtain rfl:=Option.some.inj h
   refine WX.bpRet Try.results17 (.tmp rfl .nil) (fun w hw=>?_)
   exact ⟨ret1 rfl,hw.sub .nil⟩
  ·replace h:=ite_f h zgy
   refine WC.skip ?_
   refine WX.then ?_
   refine WC.seq ?_
   refine WC.seq ?_
   refine WC.draw (fun i=>[].contains i) [] rfl ?_
   refine WD.pure (i:=0) (d:=15) (by kernel_rfl) rfl (z6 (by kernel_rfl)) (z7 (by kernel_rfl)) rfl rfl rfl (fun _=>q_fieldAddr fo_28_0 rfl rfl) ?_
   refine WD.quiet (i:=1) (d:=16) (by kernel_rfl) rfl (z6 (by kernel_rfl)) (z7 (by kernel_rfl)) rfl rfl rfl (q_load1 oneT_3 rfl (rd_stb (.there .here) rfl)) ?_
   refine WD.pure (i:=2) (d:=17) (by kernel_rfl) rfl (z6 (by kernel_rfl)) (z7 (by kernel_rfl)) rfl rfl rfl (fun _=>q_fieldAddr fo_28_1 rfl rfl) ?_
   refine WD.quiet (i:=3) (d:=18) (by kernel_rfl) rfl (z6 (by kernel_rfl)) (z7 (by kernel_rfl)) rfl rfl rfl (q_load1 oneT_3 rfl (rd_stb .here rfl)) ?_
   refine WD.pure (i:=4) (d:=19) (by kernel_rfl) rfl (z6 (by kernel_rfl)) (z7 (by kernel_rfl)) rfl rfl rfl (fun _=>q_mul rfl rfl rfl) ?_
   refine WD.pure (i:=5) (d:=20) (by kernel_rfl) rfl (z6 (by kernel_rfl)) (z7 (by kernel_rfl)) rfl rfl rfl (fun _=>q_fieldAddr fo_28_0 rfl rfl) ?_
   refine WD.quiet (i:=6) (d:=21) (by kernel_rfl) rfl (z6 (by kernel_rfl)) (z7 (by kernel_rfl)) rfl rfl rfl (q_load1 oneT_3 rfl (rd_stb .here rfl)) ?_
   refine WD.pure (i:=7) (d:=22) (by kernel_rfl) rfl (z6 (by kernel_rfl)) (z7 (by kernel_rfl)) rfl rfl rfl (fun _=>q_fieldAddr fo_28_1 rfl rfl) ?_
   refine WD.quiet (i:=8) (d:=23) (by kernel_rfl) rfl (z6 (by kernel_rfl)) (z7 (by kernel_rfl)) rfl rfl rfl (q_load1 oneT_3 rfl (rd_stb (.there .here) rfl)) ?_
   refine WD.pure (i:=9) (d:=24) (by kernel_rfl) rfl (z6 (by kernel_rfl)) (z7 (by kernel_rfl)) rfl rfl rfl (fun _=>q_mul rfl rfl rfl) ?_
   refine WD.pure (i:=10) (d:=5) (by kernel_rfl) rfl (z6 (by kernel_rfl)) (z7 (by kernel_rfl)) rfl rfl rfl (fun _=>q_assign rfl) ?_
   refine WD.pure (i:=11) (d:=6) (by kernel_rfl) rfl (z6 (by kernel_rfl)) (z7 (by kernel_rfl)) rfl rfl rfl (fun _=>q_assign rfl) ?_
   refine WD.done (by kernel_rfl) ?_
   refine WX.then ?_
   refine WC.block ?_
   refine WC.seq ?_
   refine WC.region ?_
   refine WL.quiet (d:=26) rfl rfl rfl (q_move rfl) ?_
   refine WL.quiet (d:=27) rfl rfl rfl (q_move rfl) ?_
   refine WL.quiet (d:=28) rfl rfl rfl (q_lss rfl rfl) ?_
   refine WL.quiet (d:=25) rfl rfl rfl (q_assign rfl) ?_
   refine WL.nil ?_
   refine WX.then ?_
   refine WC.cond rfl (fun zgz=>?_) (fun zgz=>?_)
   ·replace h:=ite_t h zgz
    refine WC.seq ?_
    refine WC.region ?_
    refine WL.quiet (d:=4) rfl rfl rfl (q_assign rfl) ?_
    refine WL.nil ?_
    refine WX.then ?_
    refine WC.ret ?_
    refine WX.blockRet ?_
    refine WX.thenRet ?_
    obtain rfl:=Option.some.inj h
    refine WX.bpRet Try.results17 (.tmp rfl .nil) (fun w hw=>?_)
    exact ⟨ret1 rfl,hw.sub .nil⟩
   ·replace h:=ite_f h zgz
    refine WC.seq ?_
    refine WC.region ?_
    refine WL.quiet (d:=30) rfl rfl rfl (q_move rfl) ?_
    refine WL.quiet (d:=31) rfl rfl rfl (q_move rfl) ?_
    refine WL.quiet (d:=32) rfl rfl rfl (q_gtr rfl rfl) ?_
    refine WL.quiet (d:=29) rfl rfl rfl (q_assign rfl) ?_
    refine WL.nil ?_
    refine WX.then ?_
    refine WC.cond rfl (fun zgA=>?_) (fun zgA=>?_)
    ·replace h:=ite_t h zgA
     refine WC.seq ?_
     refine WC.region ?_
     refine WL.quiet (d:=4) rfl rfl rfl (q_assign rfl) ?_
     refine WL.nil ?_
     refine WX.then ?_
     refine WC.ret ?_
     refine WX.blockRet ?_
     refine WX.thenRet ?_
     obtain rfl:=Option.some.inj h
     refine WX.bpRet Try.results17 (.tmp rfl .nil) (fun w hw=>?_)
     exact ⟨ret1 rfl,hw.sub .nil⟩
    ·replace h:=ite_f h zgA
     refine WC.skip ?_
     refine WX.blockNormal ?_
     refine WX.then ?_
     refine WC.seq ?_
     refine WC.region ?_
     refine WL.quiet (d:=4) rfl rfl rfl (q_assign rfl) ?_
     refine WL.nil ?_
     refine WX.then ?_
     refine WC.ret ?_
     obtain rfl:=Option.some.inj h
     refine WX.bpRet Try.results17 (.tmp rfl .nil) (fun w hw=>?_)
     exact ⟨ret1 rfl,hw.sub .nil⟩
def m_slices_MinFunc_api_Rat_api_Rat_L2 (z2e : List z2) (z7p : z2 → z2 → Option Int) (z8n : Int → Int → Option z2) : Nat → Int → Int → Int → Option z2
 | 0,_,_,_=>none
 | zgB + 1,z2R,z5X,z5Y=>if decide (z2R < ((z2e.length : Nat) : Int)) then jp2 (fun (z8o : Int) (z8p : Int)=>m_slices_MinFunc_api_Rat_api_Rat_L2 z2e z7p z8n zgB (i64 (z2R + 1)) z8o z8p) fun zev=>chk ((0 : Int) ≤ z2R ∧ z2R < ((z2e.length : Nat) : Int)) ((z7p (⟨((nth z2e z2R).fN),((nth z2e z2R).fD)⟩ : z2) (⟨z5X,z5Y⟩ : z2)).bind fun zgC=>if decide (zgC < 0) then chk ((0 : Int) ≤ z2R ∧ z2R < ((z2e.length : Nat) : Int)) (zev ((nth z2e z2R).fN) ((nth z2e z2R).fD)) else zev z5X z5Y) else z8n z5X z5Y
theorem m_slices_MinFunc_api_Rat_api_Rat_L2_fuel {n : Nat} {z2e : List z2} {z7p : z2 → z2 → Option Int} {z8n : Int → Int → Option z2} {z2R : Int} {z5X : Int} {z5Y : Int} {r : z2} (h : m_slices_MinFunc_api_Rat_api_Rat_L2 z2e z7p z8n n z2R z5X z5Y = some r) : ∃ m,n = m + 1:=by
 cases n with
 | zero=>cases h
 | succ m=>exact ⟨m,rfl⟩
def m_slices_MinFunc_api_Rat_api_Rat (z2e : List z2) (z7p : z2 → z2 → Option Int) : Option z2 :=
 if decide (((z2e.length : Nat) : Int) < 1) then none else chk ((0 : Int) ≤ 0 ∧ 0 < ((z2e.length : Nat) : Int)) (jp2 (fun (z7q : Int) (z7r : Int)=>some (⟨z7q,z7r⟩ : z2)) fun z8n=>m_slices_MinFunc_api_Rat_api_Rat_L2 z2e z7p z8n FUEL 1 ((nth z2e 0).fN) ((nth z2e 0).fD))
set_option maxRecDepth 20000 in
theorem w_slices_MinFunc_api_Rat_api_Rat (Z : Zp)  (zat : Option Addr) (zau : Nat) (z7T : FuncId) (z9z : List Value) (z2e : List z2) (z7p : z2 → z2 → Option Int) (r : z2) (w₀ : World) (hz : PZ [] w₀ Z)
  (zgD : ZS Z 2 (fun r x=>r = e28 x) zat zau z2e)
  (zpH : ∀ args w,(callFunc z7T args).run Try.prog w = .ok (.enter z7T args) w)
  (zpI : ∀ w : World,PZ [] w Z → ∀ (x0 : z2) (x1 : z2) (r : Int),z7p x0 x1 = some r → Calls Try.prog z7T (([(.agg #[(.int .i64 x0.fN),(.int .i64 x0.fD)]),(.agg #[(.int .i64 x1.fN),(.int .i64 x1.fD)])] : List Value) ++ z9z).toArray w fun e w'=>e = .returned (.int .i64 r) ∧ Hp [] w w' [])
  (h : m_slices_MinFunc_api_Rat_api_Rat z2e z7p = some r) :
  Calls Try.prog 52 #[(.slice zat z2e.length zau),(.func (.func z7T) #[] (z9z).toArray)] w₀ fun e w'=>e = .returned (.agg #[(.int .i64 r.fN),(.int .i64 r.fD)]) ∧ Hp [] w₀ w' []:=by
 unfold m_slices_MinFunc_api_Rat_api_Rat at h
 refine Calls.ofWC (vs:=[(.slice zat z2e.length zau),(.func (.func z7T) #[] (z9z).toArray)]) (pre:=[]) (env:=[(0,(.slice zat z2e.length zau)),(1,(.func (.func z7T) #[] (z9z).toArray))]) Try.func52 rfl Try.ntmps52 rfl (Hp.nil w₀ _) rfl ?_
 refine WC.seq ?_
 refine WC.region ?_
 refine WL.new (dd:=4) rfl rfl rfl (e_alloc (cs:=[(.int .i64 0),(.int .i64 0)]) zeroT_28 rfl) ?_
 intro zbn _
 refine WL.nil ?_
 refine WX.then ?_
 refine WC.seq ?_
 refine WC.seq ?_
 refine WC.region ?_
 refine WL.quiet (d:=7) rfl rfl rfl (q_move rfl) ?_
 refine WL.quiet (d:=8) rfl rfl rfl (q_len Try.underlying44 rfl) ?_
 refine WL.quiet (d:=9) rfl rfl rfl (q_lss rfl rfl) ?_
 refine WL.nil ?_
 refine WX.then ?_
 refine WC.cond rfl (fun zgE=>?_) (fun zgE=>?_)
 ·replace h:=ite_t h zgE
  cases h
 ·replace h:=ite_f h zgE
  refine WC.skip ?_
  refine WX.then ?_
  refine WC.seq ?_
  obtain ⟨zpJ,h⟩:=chk_elim h
  refine WC.region ?_
  refine WL.quiet (d:=11) rfl rfl rfl (q_move rfl) ?_
  refine WL.znth (dd:=12) rfl rfl (Z:=Z) (Pr:=(fun r x=>r = e28 x)) elT_44 rfl rfl zgD zpJ ?_
  rintro zwZ zx0 zpK zx1 rfl
  refine WL.quiet (d:=13) rfl rfl rfl (q_loadA (cs:=[(.int .i64 ((nth z2e 0).fN)),(.int .i64 ((nth z2e 0).fD))]) aggT_28 rfl rfl (rd_zs hz.pv zpK)) ?_
  refine WL.new (dd:=5) rfl rfl rfl (e_alloc (cs:=[(.int .i64 0),(.int .i64 0)]) zeroT_28 rfl) ?_
  intro zbo _
  refine WL.eff0 rfl rfl (e_store (vs:=[(.int .i64 ((nth z2e 0).fN)),(.int .i64 ((nth z2e 0).fD))]) (ds:=[(.int .i64 ((nth z2e 0).fN)),(.int .i64 ((nth z2e 0).fD))]) sizT_28 rfl rfl rfl rfl (oc_cons rfl (oc_cons rfl oc_nil)) .here (Nat.le_of_ble_eq_true rfl) rfl) ?_
  refine WL.nil ?_
  refine WX.then ?_
  obtain ⟨z8n,zpL,h⟩:=jp2_elim h
  refine WC.seqMid2 (fun (z7q : Int) (z7r : Int)=>(z8n z7q z7r = some r)) (fun (z7q : Int) (z7r : Int)=>[(4,(.pointer (some ⟨zbn,0,none⟩))),(5,(.pointer (some ⟨zbo,0,none⟩)))]) (fun (z7q : Int) (z7r : Int)=>[stb zbn 28 [(.int .i64 0),(.int .i64 0)],stb zbo 28 [(.int .i64 z7q),(.int .i64 z7r)]]) ?_ ?_
  ·skip
   refine WC.seq ?_
   refine WC.region ?_
   refine WL.quiet (d:=6) rfl rfl rfl (q_assign rfl) ?_
   refine WL.nil ?_
   refine WX.then ?_
   refine WC.block ?_
   refine WC.loop4 (fun (zbp : Nat) (z2R : Int) (z5X : Int) (z5Y : Int)=>(m_slices_MinFunc_api_Rat_api_Rat_L2 z2e z7p z8n zbp z2R z5X z5Y = some r)) (fun (zbp : Nat) (z2R : Int) (z5X : Int) (z5Y : Int)=>[(0,(.slice zat z2e.length zau)),(1,(.func (.func z7T) #[] (z9z).toArray)),(4,(.pointer (some ⟨zbn,0,none⟩))),(5,(.pointer (some ⟨zbo,0,none⟩))),(6,(.int .i64 z2R))]) (fun (zbp : Nat) (z2R : Int) (z5X : Int) (z5Y : Int)=>[stb zbn 28 [(.int .i64 0),(.int .i64 0)],stb zbo 28 [(.int .i64 z5X),(.int .i64 z5Y)]]) (fun (zbp : Nat) (z2R : Int) (z5X : Int) (z5Y : Int)=>zbp) ⟨FUEL,1,((nth z2e 0).fN),((nth z2e 0).fD)⟩ h (.cons rfl (.cons rfl (.cons rfl (.cons rfl (.cons rfl .nil))))) (.cons (.there .here) (.cons .here .nil)) ?_
   rintro zbp z2R z5X z5Y h
   obtain ⟨zgB,rfl⟩:=m_slices_MinFunc_api_Rat_api_Rat_L2_fuel h
   rw [m_slices_MinFunc_api_Rat_api_Rat_L2] at h
   refine WC.seq ?_
   refine WC.seq ?_
   refine WC.region ?_
   refine WL.quiet (d:=14) rfl rfl rfl (q_move rfl) ?_
   refine WL.quiet (d:=15) rfl rfl rfl (q_move rfl) ?_
   refine WL.quiet (d:=16) rfl rfl rfl (q_len Try.underlying44 rfl) ?_
   refine WL.quiet (d:=17) rfl rfl rfl (q_lss rfl rfl) ?_
   refine WL.nil ?_
   refine WX.then ?_
   refine WC.cond rfl (fun zgF=>?_) (fun zgF=>?_)
   ·replace h:=ite_t h zgF
    refine WC.skip ?_
    refine WX.then ?_
    obtain ⟨zev,zpM,h⟩:=jp2_elim h
    refine WC.seqMid2 (fun (z8o : Int) (z8p : Int)=>(zev z8o z8p = some r)) (fun (z8o : Int) (z8p : Int)=>[(0,(.slice zat z2e.length zau)),(1,(.func (.func z7T) #[] (z9z).toArray)),(4,(.pointer (some ⟨zbn,0,none⟩))),(5,(.pointer (some ⟨zbo,0,none⟩))),(6,(.int .i64 z2R))]) (fun (z8o : Int) (z8p : Int)=>[stb zbn 28 [(.int .i64 0),(.int .i64 0)],stb zbo 28 [(.int .i64 z8o),(.int .i64 z8p)]]) ?_ ?_
    ·skip
     refine WC.block ?_
     refine WC.seq ?_
     obtain ⟨zpN,h⟩:=chk_elim h
     obtain ⟨zgC,zpO,h⟩:=zb h
     refine WC.draw (fun i=>[].contains i) [] rfl ?_
     refine WD.pure (i:=0) (d:=20) (by kernel_rfl) rfl (z6 (by kernel_rfl)) (z7 (by kernel_rfl)) rfl rfl rfl (fun _=>q_move rfl) ?_
     refine WD.pure (i:=1) (d:=21) (by kernel_rfl) rfl (z6 (by kernel_rfl)) (z7 (by kernel_rfl)) rfl rfl rfl (fun _=>q_move rfl) ?_
     refine WD.pure (i:=2) (d:=22) (by kernel_rfl) rfl (z6 (by kernel_rfl)) (z7 (by kernel_rfl)) rfl rfl rfl (fun _=>q_move rfl) ?_
     refine WD.znth (j:=3) (dd:=23) (by kernel_rfl) rfl (z6 (by kernel_rfl)) (z7 (by kernel_rfl)) rfl rfl (Z:=Z) (Pr:=(fun r x=>r = e28 x)) elT_44 rfl rfl zgD zpN ?_
     rintro zx2 zx3 zpP zx4 rfl
     refine WD.quiet (i:=4) (d:=24) (by kernel_rfl) rfl (z6 (by kernel_rfl)) (z7 (by kernel_rfl)) rfl rfl rfl (q_loadA (cs:=[(.int .i64 ((nth z2e z2R).fN)),(.int .i64 ((nth z2e z2R).fD))]) aggT_28 rfl rfl (rd_zs hz.pv zpP)) ?_
     refine WD.quiet (i:=5) (d:=25) (by kernel_rfl) rfl (z6 (by kernel_rfl)) (z7 (by kernel_rfl)) rfl rfl rfl (q_loadA (cs:=[(.int .i64 z5X),(.int .i64 z5Y)]) aggT_28 rfl rfl (rd_all (.there .here))) ?_
     refine WD.enter (i:=6) (d:=26) (by kernel_rfl) rfl (z6 (by kernel_rfl)) (z7 (by kernel_rfl)) rfl rfl rfl (run_callv (l:=[.tmp 24,.tmp 25]) (f:=z7T) (caps:=z9z) zpH rfl (.cons rfl (.cons rfl .nil))) (fun w hw=>zpI w (hz.now hw) (⟨((nth z2e z2R).fN),((nth z2e z2R).fD)⟩ : z2) (⟨z5X,z5Y⟩ : z2) zgC  zpO) ?_
     refine WD.pure (i:=7) (d:=27) (by kernel_rfl) rfl (z6 (by kernel_rfl)) (z7 (by kernel_rfl)) rfl rfl rfl (fun _=>q_lss rfl rfl) ?_
     refine WD.done (by kernel_rfl) ?_
     refine WX.then ?_
     refine WC.cond rfl (fun zgG=>?_) (fun zgG=>?_)
     ·replace h:=ite_t h zgG
      obtain ⟨zpQ,h⟩:=chk_elim h
      refine WC.region ?_
      refine WL.quiet (d:=28) rfl rfl rfl (q_move rfl) ?_
      refine WL.quiet (d:=29) rfl rfl rfl (q_move rfl) ?_
      refine WL.znth (dd:=30) rfl rfl (Z:=Z) (Pr:=(fun r x=>r = e28 x)) elT_44 rfl rfl zgD zpQ ?_
      rintro zx5 zx6 zpR zx7 rfl
      refine WL.quiet (d:=31) rfl rfl rfl (q_loadA (cs:=[(.int .i64 ((nth z2e z2R).fN)),(.int .i64 ((nth z2e z2R).fD))]) aggT_28 rfl rfl (rd_zs hz.pv zpR)) ?_
      refine WL.eff0 rfl rfl (e_store (vs:=[(.int .i64 ((nth z2e z2R).fN)),(.int .i64 ((nth z2e z2R).fD))]) (ds:=[(.int .i64 ((nth z2e z2R).fN)),(.int .i64 ((nth z2e z2R).fD))]) sizT_28 rfl rfl rfl rfl (oc_cons rfl (oc_cons rfl oc_nil)) (.there .here) (Nat.le_of_ble_eq_true rfl) rfl) ?_
      refine WL.nil ?_
      refine WX.blockNormal ?_
      exact WX.mid (G:=Int × Int) ⟨((nth z2e z2R).fN),((nth z2e z2R).fD)⟩ h (.cons rfl (.cons rfl (.cons rfl (.cons rfl (.cons rfl .nil))))) (.cons (.there .here) (.cons .here .nil))
     ·replace h:=ite_f h zgG
      refine WC.skip ?_
      refine WX.blockNormal ?_
      exact WX.mid (G:=Int × Int) ⟨z5X,z5Y⟩ h (.cons rfl (.cons rfl (.cons rfl (.cons rfl (.cons rfl .nil))))) (.cons .here (.cons .here .nil))
    ·rintro z8o z8p h
     replace h:=(zpM z8o z8p).symm.trans h
     refine WC.region ?_
     refine WL.quiet (d:=18) rfl rfl rfl (q_move rfl) ?_
     refine WL.quiet (d:=19) rfl rfl rfl (q_add rfl rfl rfl) ?_
     refine WL.quiet (d:=6) rfl rfl rfl (q_assign rfl) ?_
     refine WL.nil ?_
     exact WX.round (G:=Nat × Int × Int × Int) ⟨zgB,(i64 (z2R + 1)),z8o,z8p⟩ h (Nat.lt_succ_self _) (.cons rfl (.cons rfl (.cons rfl (.cons rfl (.cons rfl .nil))))) (.cons .here (.cons .here .nil))
   ·replace h:=ite_f h zgF
    refine WC.exit ?_
    refine WX.thenExit ?_
    refine WX.thenExit ?_
    refine WX.blockHit ?_
    exact WX.mid (G:=Int × Int) ⟨z5X,z5Y⟩ h (.cons rfl (.cons rfl .nil)) (.cons .here (.cons .here .nil))
  ·rintro z7q z7r h
   replace h:=(zpL z7q z7r).symm.trans h
   refine WC.seq ?_
   refine WC.region ?_
   refine WL.quiet (d:=32) rfl rfl rfl (q_loadA (cs:=[(.int .i64 z7q),(.int .i64 z7r)]) aggT_28 rfl rfl (rd_all (.there .here))) ?_
   refine WL.eff0 rfl rfl (e_store (vs:=[(.int .i64 z7q),(.int .i64 z7r)]) (ds:=[(.int .i64 z7q),(.int .i64 z7r)]) sizT_28 rfl rfl rfl rfl (oc_cons rfl (oc_cons rfl oc_nil)) .here (Nat.le_of_ble_eq_true rfl) rfl) ?_
   refine WL.nil ?_
   refine WX.then ?_
   refine WC.ret ?_
   obtain rfl:=Option.some.inj h
   refine WX.bpRet Try.results52 (.agg rfl aggT_28 rfl (rd_all .here) .nil) (fun w hw=>?_)
   exact ⟨ret1 rfl,hw.sub .nil⟩
def m_curve_At_L2 (z1r : List z1) (z1N : z2) (z8q : (List z2) → Int → Option (z2 × Int)) : Nat → (List z2) → Int → Int → Option (z2 × Int)
 | 0,_,_,_=>none
 | zgH + 1,z3g,z1F,z59=>if decide (z1F < ((z1r.length : Nat) : Int)) then chk ((0 : Int) ≤ z1F ∧ z1F < ((z1r.length : Nat) : Int)) ((m_curve_calc_value (⟨z59⟩ : z5A) (⟨(⟨(((nth z1r z1F).fBurst).fN),(((nth z1r z1F).fBurst).fD)⟩ : z2),(⟨(((nth z1r z1F).fRate).fN),(((nth z1r z1F).fRate).fD)⟩ : z2)⟩ : z1) z1N).bind fun z7U=>chk ((((z3g ++ ([z7U.1] : List z2)).length : Nat) : Int) * 16 ≤ 140737488355328 ∧ (((z3g ++ ([z7U.1] : List z2)).length : Nat) : Int) ≤ 4611686018427387904) (m_curve_At_L2 z1r z1N z8q zgH (z3g ++ ([z7U.1] : List z2)) (i64 (z1F + 1)) z7U.2.fE)) else z8q z3g z59
theorem m_curve_At_L2_fuel {n : Nat} {z1r : List z1} {z1N : z2} {z8q : (List z2) → Int → Option (z2 × Int)} {z3g : List z2} {z1F : Int} {z59 : Int} {r : z2 × Int} (h : m_curve_At_L2 z1r z1N z8q n z3g z1F z59 = some r) : ∃ m,n = m + 1:=by
 cases n with
 | zero=>cases h
 | succ m=>exact ⟨m,rfl⟩
def m_curve_At (z1r : List z1) (z1N : z2) : Option (z2 × Int) :=
 (m_curve_Valid z1r).bind fun zew=>(if !zew then some true else (m_curve_good z1N).bind fun zgI=>some (!zgI)).bind fun zgJ=>if zgJ then some ((⟨0,0⟩ : z2),2) else jp2 (fun (z2O : List z2) (z5l : Int)=>if decide (z5l ≠ 0) then some ((⟨0,0⟩ : z2),z5l) else (m_slices_MinFunc_api_Rat_api_Rat z2O (fun (y0 : z2) (y1 : z2)=>m_rat_Cmp y0 y1)).bind fun zav=>some (zav,0)) fun z8q=>m_curve_At_L2 z1r z1N z8q FUEL ([] : List z2) 0 0
set_option maxRecDepth 20000 in
theorem w_curve_At (Z : Zp)  (z7V : Option Addr) (z7W : Nat) (z1r : List z1) (z1N : z2) (r : z2 × Int) (w₀ : World) (hz : PZ [] w₀ Z)
  (zlC : ZS Z 4 (fun r x=>r = e42 x) z7V z7W z1r)
  (h : m_curve_At z1r z1N = some r) :
  Calls Try.prog 23 #[(.slice z7V z1r.length z7W),(.agg #[(.int .i64 z1N.fN),(.int .i64 z1N.fD)])] w₀ fun e w'=>e = .returned (.tuple #[(.agg #[(.int .i64 r.1.fN),(.int .i64 r.1.fD)]),(.int .i64 r.2)]) ∧ Hp [] w₀ w' []:=by
 unfold m_curve_At at h
 refine Calls.ofWC (vs:=[(.slice z7V z1r.length z7W),(.agg #[(.int .i64 z1N.fN),(.int .i64 z1N.fD)])]) (pre:=[]) (env:=[(0,(.slice z7V z1r.length z7W)),(1,(.agg #[(.int .i64 z1N.fN),(.int .i64 z1N.fD)]))]) Try.func23 rfl Try.ntmps23 rfl (Hp.nil w₀ _) rfl ?_
 refine WC.seq ?_
 refine WC.region ?_
 refine WL.new (dd:=3) rfl rfl rfl (e_box (cs:=[(.int .i64 z1N.fN),(.int .i64 z1N.fD)]) rfl rfl) ?_
 intro z5m _
 refine WL.new (dd:=4) rfl rfl rfl (e_alloc (cs:=[(.int .i64 0),(.int .i64 0)]) zeroT_28 rfl) ?_
 intro z3C _
 refine WL.quiet (d:=5) rfl rfl rfl (q_assign rfl) ?_
 refine WL.nil ?_
 refine WX.then ?_
 refine WC.seq ?_
 refine WC.seq ?_
 obtain ⟨zew,zpS,h⟩:=zb h
 obtain ⟨zgJ,zlD,h⟩:=zb h
 refine WC.region ?_
 refine WL.quiet (d:=10) rfl rfl rfl (q_move rfl) ?_
 refine WL.callD (dd:=11) rfl rfl rfl (zg (l:=[.tmp 10]) Try.call26 (.cons rfl .nil)) (.nil : Sel [stb z3C 28 [(.int .i64 0),(.int .i64 0)],stb z5m 28 [(.int .i64 z1N.fN),(.int .i64 z1N.fD)]] [] [stb z3C 28 [(.int .i64 0),(.int .i64 0)],stb z5m 28 [(.int .i64 z1N.fN),(.int .i64 z1N.fD)]]) (fun w hw=>by have pz:=(hz.call hw (.nil : Sel [stb z3C 28 [(.int .i64 0),(.int .i64 0)],stb z5m 28 [(.int .i64 z1N.fN),(.int .i64 z1N.fD)]] [] [stb z3C 28 [(.int .i64 0),(.int .i64 0)],stb z5m 28 [(.int .i64 z1N.fN),(.int .i64 z1N.fD)]])); exact w_curve_Valid (Z:=_) (z5S:=z7V) (z5T:=z7W) (z3S:=z1r) (r:=zew) w pz zlC zpS) ?_
 refine WL.quiet (d:=12) rfl rfl rfl (q_not rfl) ?_
 refine WL.quiet (d:=13) rfl rfl rfl (q_move rfl) ?_
 refine WL.cut0 True [(0,(.slice z7V z1r.length z7W)),(3,(.pointer (some ⟨z5m,0,none⟩))),(4,(.pointer (some ⟨z3C,0,none⟩))),(17,(.bool zgJ))] [stb z3C 28 [(.int .i64 0),(.int .i64 0)],stb z5m 28 [(.int .i64 z1N.fN),(.int .i64 z1N.fD)]] 4 ?_ (fun _=>?_)
 ·rcases Bool.eq_false_or_eq_true (!zew) with hb' | hb'
  ·have zlE:=hb'; clear hb'
   have zgK:=ite_t zlD zlE
   replace zgK:=Option.some.inj zgK
   refine WL.pin (i:=13) rfl zlE ?_
   refine WL.skip rfl rfl rfl ?_
   refine WL.skip rfl rfl rfl ?_
   refine WL.skip rfl rfl rfl ?_
   refine WL.quiet (d:=17) rfl rfl rfl (q_pickT rfl rfl) ?_
   exact WL.cutEnd () trivial (.cons rfl (.cons rfl (.cons rfl (.cons (zl zgK) .nil)))) (.cons .here (.cons .here .nil))
  ·have zlF:=hb'; clear hb'
   have zdc:=ite_f zlD zlF
   obtain ⟨zgI,zpT,zdc⟩:=zb zdc
   replace zdc:=Option.some.inj zdc
   refine WL.pin (i:=13) rfl zlF ?_
   refine WL.quiet (d:=14) rfl rfl rfl (q_loadA (cs:=[(.int .i64 z1N.fN),(.int .i64 z1N.fD)]) aggT_28 rfl rfl (rd_all (.there .here))) ?_
   refine WL.callD (dd:=15) rfl rfl rfl (zg (l:=[.tmp 14]) Try.call50 (.cons rfl .nil)) (.nil : Sel [stb z3C 28 [(.int .i64 0),(.int .i64 0)],stb z5m 28 [(.int .i64 z1N.fN),(.int .i64 z1N.fD)]] [] [stb z3C 28 [(.int .i64 0),(.int .i64 0)],stb z5m 28 [(.int .i64 z1N.fN),(.int .i64 z1N.fD)]]) (fun w hw=>by have pz:=(hz.call hw (.nil : Sel [stb z3C 28 [(.int .i64 0),(.int .i64 0)],stb z5m 28 [(.int .i64 z1N.fN),(.int .i64 z1N.fD)]] [] [stb z3C 28 [(.int .i64 0),(.int .i64 0)],stb z5m 28 [(.int .i64 z1N.fN),(.int .i64 z1N.fD)]])); exact w_curve_good (Z:=_)  (z3f:=z1N) (r:=zgI) w pz  zpT) ?_
   refine WL.quiet (d:=16) rfl rfl rfl (q_not rfl) ?_
   refine WL.quiet (d:=17) rfl rfl rfl (q_pickF rfl rfl) ?_
   exact WL.cutEnd () trivial (.cons rfl (.cons rfl (.cons rfl (.cons (zl zdc) .nil)))) (.cons .here (.cons .here .nil))
 ·skip
  refine WL.nil ?_
  refine WX.then ?_
  refine WC.cond rfl (fun zgL=>?_) (fun zgL=>?_)
  ·replace h:=ite_t h zgL
   refine WC.seq ?_
   refine WC.region ?_
   refine WL.quiet (d:=18) rfl rfl rfl (q_build (v:=(.agg #[(.int .i64 0),(.int .i64 0)])) (Eos.parts (l:=[]) .nil []) (fun _=>by kernel_rfl)) ?_
   refine WL.eff0 rfl rfl (e_store (vs:=[(.int .i64 0),(.int .i64 0)]) (ds:=[(.int .i64 0),(.int .i64 0)]) sizT_28 rfl rfl rfl rfl (oc_cons rfl (oc_cons rfl oc_nil)) .here (Nat.le_of_ble_eq_true rfl) rfl) ?_
   refine WL.quiet (d:=5) rfl rfl rfl (q_assign rfl) ?_
   refine WL.nil ?_
   refine WX.then ?_
   refine WC.ret ?_
   refine WX.thenRet ?_
   obtain rfl:=Option.some.inj h
   refine WX.bpRet Try.results23 (.agg rfl aggT_28 rfl (rd_all .here) (.tmp rfl .nil)) (fun w hw=>?_)
   exact ⟨ret2 rfl rfl,hw.sub .nil⟩
  ·replace h:=ite_f h zgL
   refine WC.skip ?_
   refine WX.then ?_
   refine WC.seq ?_
   refine WC.region ?_
   refine WL.new (dd:=6) rfl rfl rfl (e_alloc (cs:=[(.int .i64 0)]) zeroT_74 rfl) ?_
   intro z54 _
   refine WL.nil ?_
   refine WX.then ?_
   refine WC.seq ?_
   refine WC.region ?_
   refine WL.quiet (d:=7) rfl rfl rfl (q_assign rfl) ?_
   refine WL.nil ?_
   refine WX.then ?_
   obtain ⟨z8q,zpU,h⟩:=jp2_elim h
   refine WC.seqMid4 (fun (z2O : List z2) (z5l : Int) (z5n : Option Addr) (z5o : Nat)=>(z8q z2O z5l = some r)) (fun (z2O : List z2) (z5l : Int) (z5n : Option Addr) (z5o : Nat)=>[(4,(.pointer (some ⟨z3C,0,none⟩))),(6,(.pointer (some ⟨z54,0,none⟩))),(7,(.slice z5n z2O.length z5o))]) (fun (z2O : List z2) (z5l : Int) (z5n : Option Addr) (z5o : Nat)=>[row (.slice z5n z2O.length z5o) 28 2 (z2O.flatMap e28),stb z3C 28 [(.int .i64 0),(.int .i64 0)],stb z54 74 [(.int .i64 z5l)]]) ?_ ?_
   ·skip
    refine WC.seq ?_
    refine WC.region ?_
    refine WL.quiet (d:=19) rfl rfl rfl (q_move rfl) ?_
    refine WL.quiet (d:=20) rfl rfl rfl (q_len Try.underlying25 rfl) ?_
    refine WL.quiet (d:=21) rfl rfl rfl (q_move rfl) ?_
    refine WL.nil ?_
    refine WX.then ?_
    refine WC.block ?_
    refine WC.nilRow 28 2 ?_
    refine WC.loop6 (fun (zbq : Nat) (z3g : List z2) (z1F : Int) (z59 : Int) (z6E : Option Addr) (z6F : Nat)=>(m_curve_At_L2 z1r z1N z8q zbq z3g z1F z59 = some r)) (fun (zbq : Nat) (z3g : List z2) (z1F : Int) (z59 : Int) (z6E : Option Addr) (z6F : Nat)=>[(3,(.pointer (some ⟨z5m,0,none⟩))),(4,(.pointer (some ⟨z3C,0,none⟩))),(6,(.pointer (some ⟨z54,0,none⟩))),(7,(.slice z6E z3g.length z6F)),(19,(.slice z7V z1r.length z7W)),(20,(.int .i64 ((z1r.length : Nat) : Int))),(21,(.int .i64 z1F))]) (fun (zbq : Nat) (z3g : List z2) (z1F : Int) (z59 : Int) (z6E : Option Addr) (z6F : Nat)=>[row (.slice z6E z3g.length z6F) 28 2 (z3g.flatMap e28),stb z5m 28 [(.int .i64 z1N.fN),(.int .i64 z1N.fD)],stb z3C 28 [(.int .i64 0),(.int .i64 0)],stb z54 74 [(.int .i64 z59)]]) (fun (zbq : Nat) (z3g : List z2) (z1F : Int) (z59 : Int) (z6E : Option Addr) (z6F : Nat)=>zbq) ⟨FUEL,([] : List z2),0,0,none,0⟩ h (.cons rfl (.cons rfl (.cons rfl (.cons rfl (.cons rfl (.cons rfl (.cons rfl .nil))))))) (.cons .here (.cons (.there (.there .here)) (.cons (.there .here) (.cons .here .nil)))) ?_
    rintro zbq z3g z1F z59 z6E z6F h
    obtain ⟨zgH,rfl⟩:=m_curve_At_L2_fuel h
    rw [m_curve_At_L2] at h
    refine WC.seq ?_
    refine WC.region ?_
    refine WL.quiet (d:=22) rfl rfl rfl (q_lss rfl rfl) ?_
    refine WL.nil ?_
    refine WX.then ?_
    refine WC.seq ?_
    refine WC.cond rfl (fun zgM=>?_) (fun zgM=>?_)
    ·replace h:=ite_t h zgM
     refine WC.skip ?_
     refine WX.then ?_
     refine WC.seq ?_
     refine WC.block ?_
     refine WC.seq ?_
     obtain ⟨zpV,h⟩:=chk_elim h
     refine WC.region ?_
     refine WL.znth (dd:=23) rfl rfl (Z:=Z) (Pr:=(fun r x=>r = e42 x)) elT_25 rfl rfl zlC zpV ?_
     rintro zx8 zx9 zpW zxa rfl
     refine WL.quiet (d:=24) rfl rfl rfl (q_loadA (cs:=[(.int .i64 (((nth z1r z1F).fBurst).fN)),(.int .i64 (((nth z1r z1F).fBurst).fD)),(.int .i64 (((nth z1r z1F).fRate).fN)),(.int .i64 (((nth z1r z1F).fRate).fD))]) aggT_42 rfl rfl (rd_zs hz.pv zpW)) ?_
     refine WL.new (dd:=9) rfl rfl rfl (e_alloc (cs:=[(.int .i64 0),(.int .i64 0),(.int .i64 0),(.int .i64 0)]) zeroT_42 rfl) ?_
     intro zbr _
     refine WL.eff0 rfl rfl (e_store (vs:=[(.int .i64 (((nth z1r z1F).fBurst).fN)),(.int .i64 (((nth z1r z1F).fBurst).fD)),(.int .i64 (((nth z1r z1F).fRate).fN)),(.int .i64 (((nth z1r z1F).fRate).fD))]) (ds:=[(.int .i64 (((nth z1r z1F).fBurst).fN)),(.int .i64 (((nth z1r z1F).fBurst).fD)),(.int .i64 (((nth z1r z1F).fRate).fN)),(.int .i64 (((nth z1r z1F).fRate).fD))]) sizT_42 rfl rfl rfl rfl (oc_cons rfl (oc_cons rfl (oc_cons rfl (oc_cons rfl oc_nil)))) .here (Nat.le_of_ble_eq_true rfl) rfl) ?_
     refine WL.nil ?_
     refine WX.then ?_
     obtain ⟨z7U,zpX,h⟩:=zb h
     obtain ⟨zpY,h⟩:=chk_elim h
     refine WC.region ?_
     refine WL.quiet (d:=25) rfl rfl rfl (q_move rfl) ?_
     refine WL.quiet (d:=26) rfl rfl rfl (q_loadA (cs:=[(.int .i64 (((nth z1r z1F).fBurst).fN)),(.int .i64 (((nth z1r z1F).fBurst).fD)),(.int .i64 (((nth z1r z1F).fRate).fN)),(.int .i64 (((nth z1r z1F).fRate).fD))]) aggT_42 rfl rfl (rd_all .here)) ?_
     refine WL.quiet (d:=27) rfl rfl rfl (q_loadA (cs:=[(.int .i64 z1N.fN),(.int .i64 z1N.fD)]) aggT_28 rfl rfl (rd_all (.there (.there .here)))) ?_
     refine WL.callD (dd:=28) rfl rfl rfl (zg (l:=[.tmp 6,.tmp 26,.tmp 27]) Try.call51 (.cons rfl (.cons rfl (.cons rfl .nil)))) ((.cons (.there (.there (.there (.there .here)))) .nil) : Sel [stb zbr 42 [(.int .i64 (((nth z1r z1F).fBurst).fN)),(.int .i64 (((nth z1r z1F).fBurst).fD)),(.int .i64 (((nth z1r z1F).fRate).fN)),(.int .i64 (((nth z1r z1F).fRate).fD))],row (.slice z6E z3g.length z6F) 28 2 (z3g.flatMap e28),stb z5m 28 [(.int .i64 z1N.fN),(.int .i64 z1N.fD)],stb z3C 28 [(.int .i64 0),(.int .i64 0)],stb z54 74 [(.int .i64 z59)]] [stb z54 74 [(.int .i64 z59)]] [stb zbr 42 [(.int .i64 (((nth z1r z1F).fBurst).fN)),(.int .i64 (((nth z1r z1F).fBurst).fD)),(.int .i64 (((nth z1r z1F).fRate).fN)),(.int .i64 (((nth z1r z1F).fRate).fD))],row (.slice z6E z3g.length z6F) 28 2 (z3g.flatMap e28),stb z5m 28 [(.int .i64 z1N.fN),(.int .i64 z1N.fD)],stb z3C 28 [(.int .i64 0),(.int .i64 0)]]) (fun w hw=>by have pz:=(hz.call hw ((.cons (.there (.there (.there (.there .here)))) .nil) : Sel [stb zbr 42 [(.int .i64 (((nth z1r z1F).fBurst).fN)),(.int .i64 (((nth z1r z1F).fBurst).fD)),(.int .i64 (((nth z1r z1F).fRate).fN)),(.int .i64 (((nth z1r z1F).fRate).fD))],row (.slice z6E z3g.length z6F) 28 2 (z3g.flatMap e28),stb z5m 28 [(.int .i64 z1N.fN),(.int .i64 z1N.fD)],stb z3C 28 [(.int .i64 0),(.int .i64 0)],stb z54 74 [(.int .i64 z59)]] [stb z54 74 [(.int .i64 z59)]] [stb zbr 42 [(.int .i64 (((nth z1r z1F).fBurst).fN)),(.int .i64 (((nth z1r z1F).fBurst).fD)),(.int .i64 (((nth z1r z1F).fRate).fN)),(.int .i64 (((nth z1r z1F).fRate).fD))],row (.slice z6E z3g.length z6F) 28 2 (z3g.flatMap e28),stb z5m 28 [(.int .i64 z1N.fN),(.int .i64 z1N.fD)],stb z3C 28 [(.int .i64 0),(.int .i64 0)]])); exact w_curve_calc_value (Z:=_) (z43:=z54) (z5C:=(⟨z59⟩ : z5A)) (z13:=(⟨(⟨(((nth z1r z1F).fBurst).fN),(((nth z1r z1F).fBurst).fD)⟩ : z2),(⟨(((nth z1r z1F).fRate).fN),(((nth z1r z1F).fRate).fD)⟩ : z2)⟩ : z1)) (z2D:=z1N) (r:=z7U) w pz  zpX (hw.owns ((.cons (.there (.there (.there (.there .here)))) .nil) : Sel [stb zbr 42 [(.int .i64 (((nth z1r z1F).fBurst).fN)),(.int .i64 (((nth z1r z1F).fBurst).fD)),(.int .i64 (((nth z1r z1F).fRate).fN)),(.int .i64 (((nth z1r z1F).fRate).fD))],row (.slice z6E z3g.length z6F) 28 2 (z3g.flatMap e28),stb z5m 28 [(.int .i64 z1N.fN),(.int .i64 z1N.fD)],stb z3C 28 [(.int .i64 0),(.int .i64 0)],stb z54 74 [(.int .i64 z59)]] [stb z54 74 [(.int .i64 z59)]] [stb zbr 42 [(.int .i64 (((nth z1r z1F).fBurst).fN)),(.int .i64 (((nth z1r z1F).fBurst).fD)),(.int .i64 (((nth z1r z1F).fRate).fN)),(.int .i64 (((nth z1r z1F).fRate).fD))],row (.slice z6E z3g.length z6F) 28 2 (z3g.flatMap e28),stb z5m 28 [(.int .i64 z1N.fN),(.int .i64 z1N.fD)],stb z3C 28 [(.int .i64 0),(.int .i64 0)]]))) ?_
     refine WL.new (dd:=29) rfl rfl rfl (e_buildSlice (cs:=([z7U.1] : List z2).flatMap e28) elT_44 (Eos.parts (l:=[.tmp 28]) (.cons rfl .nil) [0]) (fun _=>by kernel_rfl) rfl (by unfold maxLen; omega)) ?_
     intro zxb _
     refine WL.eff (d:=30) rfl rfl rfl (e_appendF (enc:=e28) (l1:=z3g) (l2:=([z7U.1] : List z2)) elT_44 rfl rfl (.there (.there (.there .here))) (fun _=>rfl) rfl rfl (news_row .here) (oc_flat e28_oc _) zpY) ?_
     rintro ⟨zpZ,zq0⟩ _
     refine WL.quiet (d:=7) rfl rfl rfl (q_assign rfl) ?_
     refine WL.nil ?_
     refine WX.blockNormal ?_
     refine WX.then ?_
     refine WC.region ?_
     refine WL.quiet (d:=31) rfl rfl rfl (q_add rfl rfl rfl) ?_
     refine WL.quiet (d:=21) rfl rfl rfl (q_move rfl) ?_
     refine WL.nil ?_
     exact WX.round (G:=Nat × List z2 × Int × Int × Option Addr × Nat) ⟨zgH,(z3g ++ ([z7U.1] : List z2)),(i64 (z1F + 1)),z7U.2.fE,zpZ,zq0⟩ h (Nat.lt_succ_self _) (.cons rfl (.cons rfl (.cons rfl (.cons rfl (.cons rfl (.cons rfl (.cons rfl .nil))))))) (.cons .here (.cons (.there (.there (.there .here))) (.cons (.there (.there (.there .here))) (.cons (.there .here) .nil))))
    ·replace h:=ite_f h zgM
     refine WC.exit ?_
     refine WX.thenExit ?_
     refine WX.thenExit ?_
     refine WX.blockHit ?_
     exact WX.mid (G:=List z2 × Int × Option Addr × Nat) ⟨z3g,z59,z6E,z6F⟩ h (.cons rfl (.cons rfl (.cons rfl .nil))) (.cons .here (.cons (.there .here) (.cons (.there .here) .nil)))
   ·rintro z2O z5l z5n z5o h
    replace h:=(zpU z2O z5l).symm.trans h
    refine WC.seq ?_
    refine WC.seq ?_
    refine WC.region ?_
    refine WL.quiet (d:=32) rfl rfl rfl (q_fieldAddr fo_74_0 rfl rfl) ?_
    refine WL.quiet (d:=33) rfl rfl rfl (q_load1 oneT_30 rfl (rd_stb (.there (.there .here)) rfl)) ?_
    refine WL.quiet (d:=34) rfl rfl rfl (q_neq rfl rfl) ?_
    refine WL.nil ?_
    refine WX.then ?_
    refine WC.cond rfl (fun zgN=>?_) (fun zgN=>?_)
    ·replace h:=ite_t h zgN
     refine WC.seq ?_
     refine WC.draw (fun i=>[3].contains i) [stbp z54 74 [(0,(.int .i64 z5l))]] rfl ?_
     refine WD.quiet (i:=0) (d:=35) (by kernel_rfl) rfl (z6 (by kernel_rfl)) (z7 (by kernel_rfl)) rfl rfl rfl (q_build (v:=(.agg #[(.int .i64 0),(.int .i64 0)])) (Eos.parts (l:=[]) .nil []) (fun _=>by kernel_rfl)) ?_
     refine WD.pure (i:=1) (d:=36) (by kernel_rfl) rfl (z6 (by kernel_rfl)) (z7 (by kernel_rfl)) rfl rfl rfl (fun _=>q_fieldAddr fo_74_0 rfl rfl) ?_
     refine WD.stable (i:=2) (d:=37) (by kernel_rfl) rfl (z6 (by kernel_rfl)) (z7 (by kernel_rfl)) rfl rfl rfl (Sin.wk (.cons (.there (.there .here)) .nil) (.stb (.cons rfl .nil) .nil)) (q_load1 oneT_30 rfl (rd_stbp .here (.head _))) ?_
     refine WD.forced0 (i:=3) rfl (by kernel_rfl) rfl rfl rfl (Sin.wk (.cons (.there (.there .here)) .nil) (.stb (.cons rfl .nil) .nil)) (e_store (vs:=[(.int .i64 0),(.int .i64 0)]) (ds:=[(.int .i64 0),(.int .i64 0)]) sizT_28 rfl rfl rfl rfl (oc_cons rfl (oc_cons rfl oc_nil)) (.there .here) (Nat.le_of_ble_eq_true rfl) rfl) ?_
     refine WD.pure (i:=4) (d:=5) (by kernel_rfl) rfl (z6 (by kernel_rfl)) (z7 (by kernel_rfl)) rfl rfl rfl (fun _=>q_assign rfl) ?_
     refine WD.done (by kernel_rfl) ?_
     refine WX.then ?_
     refine WC.ret ?_
     refine WX.thenRet ?_
     obtain rfl:=Option.some.inj h
     refine WX.bpRet Try.results23 (.agg rfl aggT_28 rfl (rd_all .here) (.tmp rfl .nil)) (fun w hw=>?_)
     exact ⟨ret2 rfl rfl,hw.sub .nil⟩
    ·replace h:=ite_f h zgN
     refine WC.skip ?_
     refine WX.then ?_
     refine WC.seq ?_
     obtain ⟨zav,zq1,h⟩:=zb h
     refine WC.region ?_
     refine WL.quiet (d:=38) rfl rfl rfl (q_move rfl) ?_
     refine WL.callD (dd:=39) rfl rfl rfl (zg (l:=[.tmp 38,.func 17]) Try.call52 (.cons rfl (.cons rfl .nil))) (.nil : Sel [row (.slice z5n z2O.length z5o) 28 2 (z2O.flatMap e28),stb z3C 28 [(.int .i64 0),(.int .i64 0)],stb z54 74 [(.int .i64 z5l)]] [] [row (.slice z5n z2O.length z5o) 28 2 (z2O.flatMap e28),stb z3C 28 [(.int .i64 0),(.int .i64 0)],stb z54 74 [(.int .i64 z5l)]]) (fun w hw=>by have pz:=(hz.call hw (.nil : Sel [row (.slice z5n z2O.length z5o) 28 2 (z2O.flatMap e28),stb z3C 28 [(.int .i64 0),(.int .i64 0)],stb z54 74 [(.int .i64 z5l)]] [] [row (.slice z5n z2O.length z5o) 28 2 (z2O.flatMap e28),stb z3C 28 [(.int .i64 0),(.int .i64 0)],stb z54 74 [(.int .i64 z5l)]])).lend hw (.nil : Sel [row (.slice z5n z2O.length z5o) 28 2 (z2O.flatMap e28),stb z3C 28 [(.int .i64 0),(.int .i64 0)],stb z54 74 [(.int .i64 z5l)]] [] [row (.slice z5n z2O.length z5o) 28 2 (z2O.flatMap e28),stb z3C 28 [(.int .i64 0),(.int .i64 0)],stb z54 74 [(.int .i64 z5l)]]) (B:=[row (.slice z5n z2O.length z5o) 28 2 (z2O.flatMap e28)]) (fun _ hx'=>((.cons .here .nil) : Sel _ [row (.slice z5n z2O.length z5o) 28 2 (z2O.flatMap e28)] _).mem hx'); exact w_slices_MinFunc_api_Rat_api_Rat (Z:=_) (zat:=z5n) (zau:=z5o) (z7T:=17) (z9z:=[]) (z2e:=z2O) (z7p:=(fun (y0 : z2) (y1 : z2)=>m_rat_Cmp y0 y1)) (r:=zav) w pz (ZA.row (hw.lent (.nil : Sel [row (.slice z5n z2O.length z5o) 28 2 (z2O.flatMap e28),stb z3C 28 [(.int .i64 0),(.int .i64 0)],stb z54 74 [(.int .i64 z5l)]] [] [row (.slice z5n z2O.length z5o) 28 2 (z2O.flatMap e28),stb z3C 28 [(.int .i64 0),(.int .i64 0)],stb z54 74 [(.int .i64 z5l)]]) (B:=[row (.slice z5n z2O.length z5o) 28 2 (z2O.flatMap e28)]) (fun _ hx'=>((.cons .here .nil) : Sel _ [row (.slice z5n z2O.length z5o) 28 2 (z2O.flatMap e28)] _).mem hx') (.head _) _) (RR.flat (enc:=e28) (fun _=>rfl) _) ⟨w,pz.1⟩) Try.call17 (fun w' hz' y0 y1  r  hr=>w_rat_Cmp (Z:=_)  (z2s:=y0) (z2t:=y1) (r:=r) w' hz'  hr) zq1) ?_
     refine WL.eff0 rfl rfl (e_store (vs:=[(.int .i64 zav.fN),(.int .i64 zav.fD)]) (ds:=[(.int .i64 zav.fN),(.int .i64 zav.fD)]) sizT_28 rfl rfl rfl rfl (oc_cons rfl (oc_cons rfl oc_nil)) (.there .here) (Nat.le_of_ble_eq_true rfl) rfl) ?_
     refine WL.quiet (d:=5) rfl rfl rfl (q_assign rfl) ?_
     refine WL.nil ?_
     refine WX.then ?_
     refine WC.ret ?_
     obtain rfl:=Option.some.inj h
     refine WX.bpRet Try.results23 (.agg rfl aggT_28 rfl (rd_all .here) (.tmp rfl .nil)) (fun w hw=>?_)
     exact ⟨ret2 rfl rfl,hw.sub .nil⟩
def m_rat_do_2 (z9A : z2) (z9B : z2) : Option (Int × Int) :=
 some ((i64 ((i64 (z9A.fN * z9B.fD)) - (i64 (z9B.fN * z9A.fD)))),(i64 (z9A.fD * z9B.fD)))
set_option maxRecDepth 20000 in
theorem w_rat_do_2 (Z : Zp)  (zdd : Addr) (zde : Addr) (z9A : z2) (z9B : z2) (r : Int × Int) (w₀ : World) (hz : PZ [] w₀ Z)
  (zgO : ZC Z zdd [(.int .i64 z9A.fN),(.int .i64 z9A.fD)])
  (zgP : ZC Z zde [(.int .i64 z9B.fN),(.int .i64 z9B.fD)])
  (h : m_rat_do_2 z9A z9B = some r) :
  Calls Try.prog 65 #[(.pointer (some zdd)),(.pointer (some zde))] w₀ fun e w'=>e = .returned (.tuple #[(.int .i64 r.1),(.int .i64 r.2)]) ∧ Hp [] w₀ w' []:=by
 unfold m_rat_do_2 at h
 refine Calls.ofWC (vs:=[(.pointer (some zdd)),(.pointer (some zde))]) (pre:=[]) (env:=[(0,(.pointer (some zdd))),(1,(.pointer (some zde)))]) Try.func65 rfl Try.ntmps65 rfl (Hp.nil w₀ _) rfl ?_
 refine WC.seq ?_
 refine WC.region ?_
 refine WL.quiet (d:=2) rfl rfl rfl (q_assign rfl) ?_
 refine WL.quiet (d:=3) rfl rfl rfl (q_assign rfl) ?_
 refine WL.nil ?_
 refine WX.then ?_
 refine WC.seq ?_
 refine WC.draw (fun i=>[].contains i) [] rfl ?_
 refine WD.pure (i:=0) (d:=4) (by kernel_rfl) rfl (z6 (by kernel_rfl)) (z7 (by kernel_rfl)) rfl rfl rfl (fun _=>q_fieldAddr fo_28_0 rfl rfl) ?_
 refine WD.quiet (i:=1) (d:=5) (by kernel_rfl) rfl (z6 (by kernel_rfl)) (z7 (by kernel_rfl)) rfl rfl rfl (q_load1 oneT_3 rfl (rd_zAt hz.pv zgO rfl)) ?_
 refine WD.pure (i:=2) (d:=6) (by kernel_rfl) rfl (z6 (by kernel_rfl)) (z7 (by kernel_rfl)) rfl rfl rfl (fun _=>q_fieldAddr fo_28_1 rfl rfl) ?_
 refine WD.quiet (i:=3) (d:=7) (by kernel_rfl) rfl (z6 (by kernel_rfl)) (z7 (by kernel_rfl)) rfl rfl rfl (q_load1 oneT_3 rfl (rd_zAt hz.pv zgP rfl)) ?_
 refine WD.pure (i:=4) (d:=8) (by kernel_rfl) rfl (z6 (by kernel_rfl)) (z7 (by kernel_rfl)) rfl rfl rfl (fun _=>q_mul rfl rfl rfl) ?_
 refine WD.pure (i:=5) (d:=9) (by kernel_rfl) rfl (z6 (by kernel_rfl)) (z7 (by kernel_rfl)) rfl rfl rfl (fun _=>q_fieldAddr fo_28_0 rfl rfl) ?_
 refine WD.quiet (i:=6) (d:=10) (by kernel_rfl) rfl (z6 (by kernel_rfl)) (z7 (by kernel_rfl)) rfl rfl rfl (q_load1 oneT_3 rfl (rd_zAt hz.pv zgP rfl)) ?_
 refine WD.pure (i:=7) (d:=11) (by kernel_rfl) rfl (z6 (by kernel_rfl)) (z7 (by kernel_rfl)) rfl rfl rfl (fun _=>q_fieldAddr fo_28_1 rfl rfl) ?_
 refine WD.quiet (i:=8) (d:=12) (by kernel_rfl) rfl (z6 (by kernel_rfl)) (z7 (by kernel_rfl)) rfl rfl rfl (q_load1 oneT_3 rfl (rd_zAt hz.pv zgO rfl)) ?_
 refine WD.pure (i:=9) (d:=13) (by kernel_rfl) rfl (z6 (by kernel_rfl)) (z7 (by kernel_rfl)) rfl rfl rfl (fun _=>q_mul rfl rfl rfl) ?_
 refine WD.pure (i:=10) (d:=14) (by kernel_rfl) rfl (z6 (by kernel_rfl)) (z7 (by kernel_rfl)) rfl rfl rfl (fun _=>q_sub rfl rfl rfl) ?_
 refine WD.pure (i:=11) (d:=15) (by kernel_rfl) rfl (z6 (by kernel_rfl)) (z7 (by kernel_rfl)) rfl rfl rfl (fun _=>q_fieldAddr fo_28_1 rfl rfl) ?_
 refine WD.quiet (i:=12) (d:=16) (by kernel_rfl) rfl (z6 (by kernel_rfl)) (z7 (by kernel_rfl)) rfl rfl rfl (q_load1 oneT_3 rfl (rd_zAt hz.pv zgO rfl)) ?_
 refine WD.pure (i:=13) (d:=17) (by kernel_rfl) rfl (z6 (by kernel_rfl)) (z7 (by kernel_rfl)) rfl rfl rfl (fun _=>q_fieldAddr fo_28_1 rfl rfl) ?_
 refine WD.quiet (i:=14) (d:=18) (by kernel_rfl) rfl (z6 (by kernel_rfl)) (z7 (by kernel_rfl)) rfl rfl rfl (q_load1 oneT_3 rfl (rd_zAt hz.pv zgP rfl)) ?_
 refine WD.pure (i:=15) (d:=19) (by kernel_rfl) rfl (z6 (by kernel_rfl)) (z7 (by kernel_rfl)) rfl rfl rfl (fun _=>q_mul rfl rfl rfl) ?_
 refine WD.pure (i:=16) (d:=2) (by kernel_rfl) rfl (z6 (by kernel_rfl)) (z7 (by kernel_rfl)) rfl rfl rfl (fun _=>q_assign rfl) ?_
 refine WD.pure (i:=17) (d:=3) (by kernel_rfl) rfl (z6 (by kernel_rfl)) (z7 (by kernel_rfl)) rfl rfl rfl (fun _=>q_assign rfl) ?_
 refine WD.done (by kernel_rfl) ?_
 refine WX.then ?_
 refine WC.ret ?_
 obtain rfl:=Option.some.inj h
 refine WX.bpRet Try.results65 (.tmp rfl (.tmp rfl .nil)) (fun w hw=>?_)
 exact ⟨ret2 rfl rfl,hw.sub .nil⟩
end Go.Proofs.Ytbihfglmcjkdhaa
