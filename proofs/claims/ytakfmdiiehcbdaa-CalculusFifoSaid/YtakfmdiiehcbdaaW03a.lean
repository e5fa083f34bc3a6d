/- A part of this claim's proof: models of functions, walks, plain laws. No conditions. -/
import Derived.Test.YtakfmdiiehcbdaaZSortF
import Derived.Test.YtakfmdiiehcbdaaZFast
import Derived.Test.YtakfmdiiehcbdaaShelf03
import Derived.Test.YtakfmdiiehcbdaaProg
namespace Go.Proofs.Ytakfmdiiehcbdaa
open Go Go.RowKit Sep
set_option linter.all false
set_option maxRecDepth 30000
set_option maxHeartbeats 4000000
def e5 (x : Int) : List Value:=[(.int .u8 x)]
structure Sapi_Sent where
 fTime : Int
 fVL : Int
 fSize : Int
 deriving Inhabited,DecidableEq
def e51 (x : Sapi_Sent) : List Value:=[(.int .i64 x.fTime),(.int .i64 x.fVL),(.int .i64 x.fSize)]
theorem e51_oc : ∀ x,∀ u ∈ e51 x,u.oneCell' = true:=fun _=>(oc_cons rfl (oc_cons rfl (oc_cons rfl oc_nil)))
def e3 (x : Int) : List Value:=[(.int .i64 x)]
theorem e3_oc : ∀ x,∀ u ∈ e3 x,u.oneCell' = true:=fun _=>(oc_cons rfl oc_nil)
structure z2 where
 fN : Int
 fD : Int
 deriving Inhabited,DecidableEq
structure S7 where
 fX : Int
 fY : Int
 fSigned : Bool
 fCode : Int
 deriving Inhabited,DecidableEq
structure S13 where
 fMsg : ByteArray
 fAddr : Int
 deriving Inhabited,DecidableEq
structure S27 where
 fF : List Sapi_Sent
 fGap : Int
 deriving Inhabited,DecidableEq
structure z1 where
 fBurst : z2
 fRate : z2
 deriving Inhabited,DecidableEq
def e35 (x : z1) : List Value:=[(.int .i64 x.fBurst.fN),(.int .i64 x.fBurst.fD),(.int .i64 x.fRate.fN),(.int .i64 x.fRate.fD)]
theorem e35_oc : ∀ x,∀ u ∈ e35 x,u.oneCell' = true:=fun _=>(oc_cons rfl (oc_cons rfl (oc_cons rfl (oc_cons rfl oc_nil))))
def p39 (Z : Zp) (r : List Value) (x : List z1) : Prop:=∃ (ao0 : Option Addr) (cap0 : Nat),r = [(.slice ao0 x.length cap0)] ∧ ZS Z 4 (fun r x=>r = e35 x) ao0 cap0 x
theorem p39_mono {Z Z' : Zp} (k : Zle Z Z') {r : List Value} {x : List z1} (h : p39 Z r x) : p39 Z' r x:=by
 obtain ⟨ao0,cap0,hr,h0⟩:=h
 exact ⟨ao0,cap0,hr,h0.mono k⟩
structure Sapi_Server where
 fRate : z2
 fLatency : z2
 deriving Inhabited,DecidableEq
def e30 (x : z2) : List Value:=[(.int .i64 x.fN),(.int .i64 x.fD)]
theorem e30_oc : ∀ x,∀ u ∈ e30 x,u.oneCell' = true:=fun _=>(oc_cons rfl (oc_cons rfl oc_nil))
structure z2a where
 fE : Int
 deriving Inhabited,DecidableEq
structure S62 where
 fL : List (List z1)
 fS : Sapi_Server
 deriving Inhabited,DecidableEq
theorem elT_22 : elT Try.prog 22 5 1 1:=⟨Try.underlying22,⟨Try.t5,_,rfl,rfl,rfl,rfl,rfl⟩,by decide⟩
theorem oneT_5 : oneT Try.prog 5:=oneT_of Try.underlying5 rfl
theorem elT_24 : elT Try.prog 24 51 3 24:=⟨Try.underlying24,⟨Try.t51,_,rfl,rfl,rfl,rfl,rfl⟩,by decide⟩
theorem aggT_51 : aggT Try.prog 51 3:=aggT_of (i:=Try.t51) Try.underlying51 rfl rfl
theorem zeroT_51 : zeroT Try.prog 51 (.agg #[(.int .i64 0),(.int .i64 0),(.int .i64 0)]):=zeroT_of (i:=Try.t51) rfl rfl
theorem sizT_51 : sizT Try.prog 51 3:=sizT_of (i:=Try.t51) rfl
theorem fo_51_0 : fieldOff Try.prog 51 0 0:=fieldOff_of (i:=Try.t3) Try.underlying51 rfl rfl (by decide) rfl
theorem oneT_3 : oneT Try.prog 3:=oneT_of Try.underlying3 rfl
theorem fo_51_2 : fieldOff Try.prog 51 2 2:=fieldOff_of (i:=Try.t3) Try.underlying51 rfl rfl (by decide) rfl
theorem elT_45 : elT Try.prog 45 3 1 8:=⟨Try.underlying45,⟨Try.t3,_,rfl,rfl,rfl,rfl,rfl⟩,by decide⟩
theorem zeroT_30 : zeroT Try.prog 30 (.agg #[(.int .i64 0),(.int .i64 0)]):=zeroT_of (i:=Try.t30) rfl rfl
theorem sizT_30 : sizT Try.prog 30 2:=sizT_of (i:=Try.t30) rfl
theorem aggT_30 : aggT Try.prog 30 2:=aggT_of (i:=Try.t30) Try.underlying30 rfl rfl
theorem zeroT_35 : zeroT Try.prog 35 (.agg #[(.int .i64 0),(.int .i64 0),(.int .i64 0),(.int .i64 0)]):=zeroT_of (i:=Try.t35) rfl rfl
theorem sizT_35 : sizT Try.prog 35 4:=sizT_of (i:=Try.t35) rfl
theorem aggT_35 : aggT Try.prog 35 4:=aggT_of (i:=Try.t35) Try.underlying35 rfl rfl
theorem elT_39 : elT Try.prog 39 35 4 32:=⟨Try.underlying39,⟨Try.t35,_,rfl,rfl,rfl,rfl,rfl⟩,by decide⟩
theorem zeroT_43 : zeroT Try.prog 43 (.agg #[(.int .i64 0),(.int .i64 0),(.int .i64 0),(.int .i64 0)]):=zeroT_of (i:=Try.t43) rfl rfl
theorem sizT_43 : sizT Try.prog 43 4:=sizT_of (i:=Try.t43) rfl
theorem elT_26 : elT Try.prog 26 39 1 24:=⟨Try.underlying26,⟨Try.t39,_,rfl,rfl,rfl,rfl,rfl⟩,by decide⟩
theorem aggT_43 : aggT Try.prog 43 4:=aggT_of (i:=Try.t43) Try.underlying43 rfl rfl
theorem oneT_26 : oneT Try.prog 26:=oneT_of Try.underlying26 rfl
theorem zeroT_79 : zeroT Try.prog 79 (.agg #[(.slice none 0 0),(.int .i64 0),(.int .i64 0),(.int .i64 0),(.int .i64 0),.nilFunc,(.slice none 0 0)]):=zeroT_of (i:=Try.t79) rfl rfl
theorem sizT_79 : sizT Try.prog 79 7:=sizT_of (i:=Try.t79) rfl
theorem fo_79_2 : fieldOff Try.prog 79 2 5:=fieldOff_of (i:=Try.t76) Try.underlying79 rfl rfl (by decide) rfl
theorem sizT_76 : sizT Try.prog 76 1:=sizT_of (i:=Try.t76) rfl
theorem aggT_79 : aggT Try.prog 79 7:=aggT_of (i:=Try.t79) Try.underlying79 rfl rfl
theorem fo_79_0 : fieldOff Try.prog 79 0 0:=fieldOff_of (i:=Try.t26) Try.underlying79 rfl rfl (by decide) rfl
theorem fo_35_0 : fieldOff Try.prog 35 0 0:=fieldOff_of (i:=Try.t30) Try.underlying35 rfl rfl (by decide) rfl
theorem fo_30_1 : fieldOff Try.prog 30 1 1:=fieldOff_of (i:=Try.t3) Try.underlying30 rfl rfl (by decide) rfl
theorem fo_30_0 : fieldOff Try.prog 30 0 0:=fieldOff_of (i:=Try.t3) Try.underlying30 rfl rfl (by decide) rfl
theorem fo_35_1 : fieldOff Try.prog 35 1 2:=fieldOff_of (i:=Try.t30) Try.underlying35 rfl rfl (by decide) rfl
theorem oneT_39 : oneT Try.prog 39:=oneT_of Try.underlying39 rfl
theorem fo_79_1 : fieldOff Try.prog 79 1 1:=fieldOff_of (i:=Try.t43) Try.underlying79 rfl rfl (by decide) rfl
theorem fo_43_0 : fieldOff Try.prog 43 0 0:=fieldOff_of (i:=Try.t30) Try.underlying43 rfl rfl (by decide) rfl
theorem fo_43_1 : fieldOff Try.prog 43 1 2:=fieldOff_of (i:=Try.t30) Try.underlying43 rfl rfl (by decide) rfl
theorem zeroT_98 : zeroT Try.prog 98 (.agg #[(.int .i64 0)]):=zeroT_of (i:=Try.t98) rfl rfl
theorem zeroT_90 : zeroT Try.prog 90 (.agg #[(.int .i64 0)]):=zeroT_of (i:=Try.t90) rfl rfl
theorem zeroT_77 : zeroT Try.prog 77 (.slice none 0 0):=zeroT_of (i:=Try.t77) rfl rfl
theorem eqT_35 : EqT Try.prog 35 e35:=⟨fun u v w=>by
 have i35_10000:=fun (w : World) (a b : Array Value)=>run_equalIn_agg (P:=Try.prog) w 9999 35 a b (by simp [Program.fieldsOf,Try.underlying35]) (by kernel_rfl)
 have i30_9999:=fun (w : World) (a b : Array Value)=>run_equalIn_agg (P:=Try.prog) w 9998 30 a b (by simp [Program.fieldsOf,Try.underlying30]) (by kernel_rfl)
 have i3_9998:=fun (w : World) (a b : Int)=>run_equalIn_int (P:=Try.prog) w 9997 3 .i64 .i64 a b Try.underlying3
 rw [i35_10000]
 simp [Program.fieldsOf,Op.eqFields,part,e35,i35_10000,Try.underlying35,i30_9999,Try.underlying30,i3_9998]
 rcases u with ⟨⟨u1,u2⟩,⟨u3,u4⟩⟩
 rcases v with ⟨⟨v1,v2⟩,⟨v3,v4⟩⟩
 by_cases h1 : u1 = v1 <;> by_cases h2 : u2 = v2 <;> by_cases h3 : u3 = v3 <;> by_cases h4 : u4 = v4 <;> simp [h1,h2,h3,h4],by kernel_rfl⟩
theorem oneT_77 : oneT Try.prog 77:=oneT_of Try.underlying77 rfl
theorem keyT_9 : KeyT Try.prog 9 Value.string:=keyT_str Try.underlying9
theorem zfp : zeroT Try.prog 104 .nilFunc:=zeroT_of (i:=Try.t104) rfl rfl
theorem sizT_3 : sizT Try.prog 3 1:=sizT_of (i:=Try.t3) rfl
theorem fo_90_0 : fieldOff Try.prog 90 0 0:=fieldOff_of (i:=Try.t31) Try.underlying90 rfl rfl (by decide) rfl
theorem oneT_31 : oneT Try.prog 31:=oneT_of Try.underlying31 rfl
theorem sizT_31 : sizT Try.prog 31 1:=sizT_of (i:=Try.t31) rfl
theorem elT_77 : elT Try.prog 77 30 2 16:=⟨Try.underlying77,⟨Try.t30,_,rfl,rfl,rfl,rfl,rfl⟩,by decide⟩
theorem sizT_77 : sizT Try.prog 77 1:=sizT_of (i:=Try.t77) rfl
theorem eqT_30 : EqT Try.prog 30 e30:=⟨fun u v w=>by
 have i30_10000:=fun (w : World) (a b : Array Value)=>run_equalIn_agg (P:=Try.prog) w 9999 30 a b (by simp [Program.fieldsOf,Try.underlying30]) (by kernel_rfl)
 have i3_9999:=fun (w : World) (a b : Int)=>run_equalIn_int (P:=Try.prog) w 9998 3 .i64 .i64 a b Try.underlying3
 rw [i30_10000]
 simp [Program.fieldsOf,Op.eqFields,part,e30,i30_10000,Try.underlying30,i3_9999]
 rcases u with ⟨u1,u2⟩
 rcases v with ⟨v1,v2⟩
 by_cases h1 : u1 = v1 <;> by_cases h2 : u2 = v2 <;> simp [h1,h2],by kernel_rfl⟩
theorem fldT_35_1 : fldT Try.prog 35 1 2 30:=fldT_of Try.underlying35 rfl rfl rfl
theorem fo_98_0 : fieldOff Try.prog 98 0 0:=fieldOff_of (i:=Try.t31) Try.underlying98 rfl rfl (by decide) rfl
theorem fo_79_3 : fieldOff Try.prog 79 3 6:=fieldOff_of (i:=Try.t77) Try.underlying79 rfl rfl (by decide) rfl
theorem oneT_76 : oneT Try.prog 76:=oneT_of Try.underlying76 rfl
def m_law03_Flow_L2 (sizes_11 : List Int) (vl_19 : Int) (gap_20 : Int) (waits_15 : List Int) (z8X : (List Sapi_Sent) → Option (List Sapi_Sent)) : Nat → (List Sapi_Sent) → Int → Int → Option (List Sapi_Sent)
 | 0,_,_,_=>none
 | zhl + 1,z4O,z7b,z3p=>if decide (z3p < (((sizes_11.take ((min ((sizes_11.length : Nat) : Int) 12) : Int).toNat).length : Nat) : Int)) then chk ((0 : Int) ≤ z3p ∧ z3p < (((sizes_11.take ((min ((sizes_11.length : Nat) : Int) 12) : Int).toNat).length : Nat) : Int)) (jp1 (fun (z6g : Int)=>chk ((((z4O ++ ([(⟨z6g,vl_19,i64 (1 + (Int.tmod (i64 (nth (sizes_11.take ((min ((sizes_11.length : Nat) : Int) 12) : Int).toNat) z3p)) 72))⟩ : Sapi_Sent)] : List Sapi_Sent)).length : Nat) : Int) * 24 ≤ 140737488355328 ∧ (((z4O ++ ([(⟨z6g,vl_19,i64 (1 + (Int.tmod (i64 (nth (sizes_11.take ((min ((sizes_11.length : Nat) : Int) 12) : Int).toNat) z3p)) 72))⟩ : Sapi_Sent)] : List Sapi_Sent)).length : Nat) : Int) ≤ 4611686018427387904) (m_law03_Flow_L2 sizes_11 vl_19 gap_20 waits_15 z8X zhl (z4O ++ ([(⟨z6g,vl_19,i64 (1 + (Int.tmod (i64 (nth (sizes_11.take ((min ((sizes_11.length : Nat) : Int) 12) : Int).toNat) z3p)) 72))⟩ : Sapi_Sent)] : List Sapi_Sent)) (i64 (z6g + gap_20)) (i64 (z3p + 1)))) fun zfq=>if decide (z3p < ((waits_15.length : Nat) : Int)) then chk ((0 : Int) ≤ z3p ∧ z3p < ((waits_15.length : Nat) : Int)) (zfq (i64 (z7b + (i64 (nth waits_15 z3p))))) else zfq z7b) else z8X z4O
theorem m_law03_Flow_L2_fuel {n : Nat} {sizes_11 : List Int} {vl_19 : Int} {gap_20 : Int} {waits_15 : List Int} {z8X : (List Sapi_Sent) → Option (List Sapi_Sent)} {z4O : List Sapi_Sent} {z7b : Int} {z3p : Int} {r : List Sapi_Sent} (h : m_law03_Flow_L2 sizes_11 vl_19 gap_20 waits_15 z8X n z4O z7b z3p = some r) : ∃ m,n = m + 1:=by
 cases n with
 | zero=>cases h
 | succ m=>exact ⟨m,rfl⟩
def m_law03_Flow (sizes_11 : List Int) (waits_15 : List Int) (vl_19 : Int) (gap_20 : Int) : Option (List Sapi_Sent) :=
 jp1 (fun (z8r : List Sapi_Sent)=>some z8r) fun z8X=>chk ((0 : Int) ≤ 0 ∧ (0 : Int) ≤ (min ((sizes_11.length : Nat) : Int) 12) ∧ (min ((sizes_11.length : Nat) : Int) 12) ≤ ((sizes_11.length : Nat) : Int)) (m_law03_Flow_L2 sizes_11 vl_19 gap_20 waits_15 z8X FUEL ([] : List Sapi_Sent) 0 0)
set_option maxRecDepth 20000 in
theorem w_law03_Flow (Z : Zp)  (ao_12 : Option Addr) (cap_13 : Nat) (ao_16 : Option Addr) (cap_17 : Nat) (sizes_11 : List Int) (waits_15 : List Int) (vl_19 : Int) (gap_20 : Int) (r : List Sapi_Sent) (w₀ : World) (hz : PZ [] w₀ Z)
  (hs_14 : ZS Z 1 (fun r x=>r = e5 x) ao_12 cap_13 sizes_11)
  (hs_18 : ZS Z 1 (fun r x=>r = e5 x) ao_16 cap_17 waits_15)
  (h : m_law03_Flow sizes_11 waits_15 vl_19 gap_20 = some r) :
  Calls Try.prog 8 #[(.slice ao_12 sizes_11.length cap_13),(.slice ao_16 waits_15.length cap_17),(.int .i64 vl_19),(.int .i64 gap_20)] w₀ fun e w'=>∃ zm4 : Option Addr,∃ zm5 : Nat,e = .returned (.slice zm4 r.length zm5) ∧ True ∧ Hp [] w₀ w' [row (.slice zm4 r.length zm5) 51 3 (r.flatMap e51)]:=by
 unfold m_law03_Flow at h
 refine Calls.ofWC (vs:=[(.slice ao_12 sizes_11.length cap_13),(.slice ao_16 waits_15.length cap_17),(.int .i64 vl_19),(.int .i64 gap_20)]) (pre:=[]) (env:=[(0,(.slice ao_12 sizes_11.length cap_13)),(1,(.slice ao_16 waits_15.length cap_17)),(2,(.int .i64 vl_19)),(3,(.int .i64 gap_20))]) Try.func8 rfl Try.ntmps8 rfl (Hp.nil w₀ _) rfl ?_
 refine WC.seq ?_
 refine WC.region ?_
 refine WL.quiet (d:=8) rfl rfl rfl (q_assign rfl) ?_
 refine WL.nil ?_
 refine WX.then ?_
 refine WC.seq ?_
 refine WC.region ?_
 refine WL.quiet (d:=9) rfl rfl rfl (q_assign rfl) ?_
 refine WL.nil ?_
 refine WX.then ?_
 refine WC.seq ?_
 refine WC.region ?_
 refine WL.quiet (d:=10) rfl rfl rfl (q_assign rfl) ?_
 refine WL.nil ?_
 refine WX.then ?_
 obtain ⟨z8X,zpB,h⟩:=jp1_elim h
 refine WC.seqMid3 (fun (z8r : List Sapi_Sent) (zcf : Option Addr) (zcg : Nat)=>(z8X z8r = some r)) (fun (z8r : List Sapi_Sent) (zcf : Option Addr) (zcg : Nat)=>[(9,(.slice zcf z8r.length zcg))]) (fun (z8r : List Sapi_Sent) (zcf : Option Addr) (zcg : Nat)=>[row (.slice zcf z8r.length zcg) 51 3 (z8r.flatMap e51)]) ?_ ?_
 ·skip
  refine WC.seq ?_
  obtain ⟨zpC,h⟩:=chk_elim h
  refine WC.region ?_
  refine WL.quiet (d:=13) rfl rfl rfl (q_move rfl) ?_
  refine WL.quiet (d:=14) rfl rfl rfl (q_move rfl) ?_
  refine WL.quiet (d:=15) rfl rfl rfl (q_len Try.underlying22 rfl) ?_
  refine WL.quiet (d:=16) rfl rfl rfl (q_min rfl rfl rfl) ?_
  refine WL.zsub (dd:=17) rfl rfl (Z:=Z) (Pr:=(fun r x=>r = e5 x)) elT_22 rfl hs_14 ixn (ixo rfl) rfl rfl zpC (List.drop_zero).symm ?_
  rintro zm6 zm7 zpD
  refine WL.quiet (d:=18) rfl rfl rfl (q_len Try.underlying22 rfl) ?_
  refine WL.quiet (d:=19) rfl rfl rfl (q_move rfl) ?_
  refine WL.nil ?_
  refine WX.then ?_
  refine WC.block ?_
  refine WC.nilRow 51 3 ?_
  refine WC.loop6 (fun (zch : Nat) (z4O : List Sapi_Sent) (z7b : Int) (z3p : Int) (z8Y : Option Addr) (z8Z : Nat)=>(m_law03_Flow_L2 sizes_11 vl_19 gap_20 waits_15 z8X zch z4O z7b z3p = some r)) (fun (zch : Nat) (z4O : List Sapi_Sent) (z7b : Int) (z3p : Int) (z8Y : Option Addr) (z8Z : Nat)=>[(1,(.slice ao_16 waits_15.length cap_17)),(2,(.int .i64 vl_19)),(3,(.int .i64 gap_20)),(9,(.slice z8Y z4O.length z8Z)),(10,(.int .i64 z7b)),(17,(.slice zm6 ((sizes_11.take ((min ((sizes_11.length : Nat) : Int) 12) : Int).toNat).length) zm7)),(18,(.int .i64 (((sizes_11.take ((min ((sizes_11.length : Nat) : Int) 12) : Int).toNat).length : Nat) : Int))),(19,(.int .i64 z3p))]) (fun (zch : Nat) (z4O : List Sapi_Sent) (z7b : Int) (z3p : Int) (z8Y : Option Addr) (z8Z : Nat)=>[row (.slice z8Y z4O.length z8Z) 51 3 (z4O.flatMap e51)]) (fun (zch : Nat) (z4O : List Sapi_Sent) (z7b : Int) (z3p : Int) (z8Y : Option Addr) (z8Z : Nat)=>zch) ⟨FUEL,([] : List Sapi_Sent),0,0,none,0⟩ h (.cons rfl (.cons rfl (.cons rfl (.cons rfl (.cons rfl (.cons rfl (.cons rfl (.cons rfl .nil)))))))) (.cons .here .nil) ?_
  rintro zch z4O z7b z3p z8Y z8Z h
  obtain ⟨zhl,rfl⟩:=m_law03_Flow_L2_fuel h
  rw [m_law03_Flow_L2] at h
  refine WC.seq ?_
  refine WC.region ?_
  refine WL.quiet (d:=20) rfl rfl rfl (q_lss rfl rfl) ?_
  refine WL.nil ?_
  refine WX.then ?_
  refine WC.seq ?_
  refine WC.cond rfl (fun zhm=>?_) (fun zhm=>?_)
  ·replace h:=ite_t h zhm
   refine WC.skip ?_
   refine WX.then ?_
   refine WC.seq ?_
   refine WC.block ?_
   refine WC.seq ?_
   obtain ⟨zpE,h⟩:=chk_elim h
   refine WC.region ?_
   refine WL.quiet (d:=21) rfl rfl rfl (q_move rfl) ?_
   refine WL.znth (dd:=22) rfl rfl (Z:=Z) (Pr:=(fun r x=>r = e5 x)) elT_22 rfl rfl zpD zpE ?_
   rintro zwV zwW zpF zwX rfl
   refine WL.quiet (d:=23) rfl rfl rfl (q_load1 oneT_5 rfl (rd_z hz.pv zpF rfl)) ?_
   refine WL.quiet (d:=11) rfl rfl rfl (q_assign rfl) ?_
   refine WL.quiet (d:=12) rfl rfl rfl (q_assign rfl) ?_
   refine WL.nil ?_
   refine WX.then ?_
   obtain ⟨zfq,zpG,h⟩:=jp1_elim h
   refine WC.seqMid1 (fun (z6g : Int)=>(zfq z6g = some r)) (fun (z6g : Int)=>[(1,(.slice ao_16 waits_15.length cap_17)),(2,(.int .i64 vl_19)),(3,(.int .i64 gap_20)),(9,(.slice z8Y z4O.length z8Z)),(10,(.int .i64 z6g)),(12,(.int .u8 (nth (sizes_11.take ((min ((sizes_11.length : Nat) : Int) 12) : Int).toNat) z3p))),(17,(.slice zm6 ((sizes_11.take ((min ((sizes_11.length : Nat) : Int) 12) : Int).toNat).length) zm7)),(18,(.int .i64 (((sizes_11.take ((min ((sizes_11.length : Nat) : Int) 12) : Int).toNat).length : Nat) : Int))),(19,(.int .i64 z3p))]) (fun (z6g : Int)=>[row (.slice z8Y z4O.length z8Z) 51 3 (z4O.flatMap e51)]) ?_ ?_
   ·skip
    refine WC.seq ?_
    refine WC.region ?_
    refine WL.quiet (d:=24) rfl rfl rfl (q_move rfl) ?_
    refine WL.quiet (d:=25) rfl rfl rfl (q_move rfl) ?_
    refine WL.quiet (d:=26) rfl rfl rfl (q_len Try.underlying22 rfl) ?_
    refine WL.quiet (d:=27) rfl rfl rfl (q_lss rfl rfl) ?_
    refine WL.nil ?_
    refine WX.then ?_
    refine WC.cond rfl (fun zhn=>?_) (fun zhn=>?_)
    ·replace h:=ite_t h zhn
     obtain ⟨zpH,h⟩:=chk_elim h
     refine WC.region ?_
     refine WL.quiet (d:=28) rfl rfl rfl (q_move rfl) ?_
     refine WL.quiet (d:=29) rfl rfl rfl (q_move rfl) ?_
     refine WL.quiet (d:=30) rfl rfl rfl (q_move rfl) ?_
     refine WL.znth (dd:=31) rfl rfl (Z:=Z) (Pr:=(fun r x=>r = e5 x)) elT_22 rfl rfl hs_18 zpH ?_
     rintro zwY zwZ zpI zx0 rfl
     refine WL.quiet (d:=32) rfl rfl rfl (q_load1 oneT_5 rfl (rd_z hz.pv zpI rfl)) ?_
     refine WL.quiet (d:=33) rfl rfl rfl (q_conv Try.underlying5 Try.underlying3 rfl rfl) ?_
     refine WL.quiet (d:=34) rfl rfl rfl (q_add rfl rfl rfl) ?_
     refine WL.quiet (d:=10) rfl rfl rfl (q_assign rfl) ?_
     refine WL.nil ?_
     exact WX.mid (G:=Int) (i64 (z7b + (i64 (nth waits_15 z3p)))) h (.cons rfl (.cons rfl (.cons rfl (.cons rfl (.cons rfl (.cons rfl (.cons rfl (.cons rfl (.cons rfl .nil))))))))) (.cons .here .nil)
    ·replace h:=ite_f h zhn
     refine WC.skip ?_
     exact WX.mid (G:=Int) z7b h (.cons rfl (.cons rfl (.cons rfl (.cons rfl (.cons rfl (.cons rfl (.cons rfl (.cons rfl (.cons rfl .nil))))))))) (.cons .here .nil)
   ·rintro z6g h
    replace h:=(zpG z6g).symm.trans h
    refine WC.seq ?_
    obtain ⟨zpJ,h⟩:=chk_elim h
    refine WC.region ?_
    refine WL.quiet (d:=35) rfl rfl rfl (q_move rfl) ?_
    refine WL.quiet (d:=36) rfl rfl rfl (q_move rfl) ?_
    refine WL.quiet (d:=37) rfl rfl rfl (q_move rfl) ?_
    refine WL.quiet (d:=38) rfl rfl rfl (q_move rfl) ?_
    refine WL.quiet (d:=39) rfl rfl rfl (q_conv Try.underlying5 Try.underlying3 rfl rfl) ?_
    refine WL.quiet (d:=40) rfl rfl rfl (q_rem rfl rfl (by decide) rfl) ?_
    refine WL.quiet (d:=41) rfl rfl rfl (q_add rfl rfl rfl) ?_
    refine WL.quiet (d:=42) rfl rfl rfl (q_build (v:=(.agg #[(.int .i64 z6g),(.int .i64 vl_19),(.int .i64 (i64 (1 + (Int.tmod (i64 (nth (sizes_11.take ((min ((sizes_11.length : Nat) : Int) 12) : Int).toNat) z3p)) 72))))])) (Eos.parts (l:=[.tmp 36,.tmp 37,.tmp 41]) (.cons rfl (.cons rfl (.cons rfl .nil))) [0,1,2]) (fun _=>by kernel_rfl)) ?_
    refine WL.new (dd:=43) rfl rfl rfl (e_buildSlice (cs:=([(⟨z6g,vl_19,i64 (1 + (Int.tmod (i64 (nth (sizes_11.take ((min ((sizes_11.length : Nat) : Int) 12) : Int).toNat) z3p)) 72))⟩ : Sapi_Sent)] : List Sapi_Sent).flatMap e51) elT_24 (Eos.parts (l:=[.tmp 42]) (.cons rfl .nil) [0]) (fun _=>by kernel_rfl) rfl (by unfold maxLen; omega)) ?_
    intro zx1 _
    refine WL.eff (d:=44) rfl rfl rfl (e_appendF (enc:=e51) (l1:=z4O) (l2:=([(⟨z6g,vl_19,i64 (1 + (Int.tmod (i64 (nth (sizes_11.take ((min ((sizes_11.length : Nat) : Int) 12) : Int).toNat) z3p)) 72))⟩ : Sapi_Sent)] : List Sapi_Sent)) elT_24 rfl rfl (.there .here) (fun _=>rfl) rfl rfl (news_row .here) (oc_flat e51_oc _) zpJ) ?_
    rintro ⟨zpK,zpL⟩ _
    refine WL.quiet (d:=9) rfl rfl rfl (q_assign rfl) ?_
    refine WL.nil ?_
    refine WX.then ?_
    refine WC.region ?_
    refine WL.quiet (d:=45) rfl rfl rfl (q_move rfl) ?_
    refine WL.quiet (d:=46) rfl rfl rfl (q_move rfl) ?_
    refine WL.quiet (d:=47) rfl rfl rfl (q_add rfl rfl rfl) ?_
    refine WL.quiet (d:=10) rfl rfl rfl (q_assign rfl) ?_
    refine WL.nil ?_
    refine WX.blockNormal ?_
    refine WX.then ?_
    refine WC.region ?_
    refine WL.quiet (d:=48) rfl rfl rfl (q_add rfl rfl rfl) ?_
    refine WL.quiet (d:=19) rfl rfl rfl (q_move rfl) ?_
    refine WL.nil ?_
    exact WX.round (G:=Nat × List Sapi_Sent × Int × Int × Option Addr × Nat) ⟨zhl,(z4O ++ ([(⟨z6g,vl_19,i64 (1 + (Int.tmod (i64 (nth (sizes_11.take ((min ((sizes_11.length : Nat) : Int) 12) : Int).toNat) z3p)) 72))⟩ : Sapi_Sent)] : List Sapi_Sent)),(i64 (z6g + gap_20)),(i64 (z3p + 1)),zpK,zpL⟩ h (Nat.lt_succ_self _) (.cons rfl (.cons rfl (.cons rfl (.cons rfl (.cons rfl (.cons rfl (.cons rfl (.cons rfl .nil)))))))) (.cons .here .nil)
  ·replace h:=ite_f h zhm
   refine WC.exit ?_
   refine WX.thenExit ?_
   refine WX.thenExit ?_
   refine WX.blockHit ?_
   exact WX.mid (G:=List Sapi_Sent × Option Addr × Nat) ⟨z4O,z8Y,z8Z⟩ h (.cons rfl .nil) (.cons .here .nil)
 ·rintro z8r zcf zcg h
  replace h:=(zpB z8r).symm.trans h
  refine WC.seq ?_
  refine WC.region ?_
  refine WL.quiet (d:=49) rfl rfl rfl (q_move rfl) ?_
  refine WL.quiet (d:=8) rfl rfl rfl (q_assign rfl) ?_
  refine WL.nil ?_
  refine WX.then ?_
  refine WC.ret ?_
  obtain rfl:=Option.some.inj h
  refine WX.bpRet Try.results8 (.tmp rfl .nil) (fun w hw=>?_)
  exact ⟨zcf,zcg,ret1 rfl,trivial,hw.sub (.cons .here .nil)⟩
def m_calculus_frames_L2 (zL : List Sapi_Sent) (z90 : Option Bool) : Nat → Int → Option Bool
 | 0,_=>none
 | zho + 1,zM=>if decide (zM < ((zL.length : Nat) : Int)) then chk ((0 : Int) ≤ zM ∧ zM < ((zL.length : Nat) : Int)) (chk (((((decide (((nth zL zM).fTime) < 0)) || (decide (((nth zL zM).fTime) > 1073741824))) || (decide (((nth zL zM).fSize) < 1))) || (decide (((nth zL zM).fSize) > 72))) = false → ((decide (zM > 0)) = true → ((0 : Int) ≤ (i64 (zM - 1)) ∧ (i64 (zM - 1)) < ((zL.length : Nat) : Int)))) (if ((((decide (((nth zL zM).fTime) < 0)) || (decide (((nth zL zM).fTime) > 1073741824))) || (decide (((nth zL zM).fSize) < 1))) || (decide (((nth zL zM).fSize) > 72))) || ((decide (zM > 0)) && (decide (((nth zL (i64 (zM - 1))).fTime) > ((nth zL zM).fTime)))) then some false else m_calculus_frames_L2 zL z90 zho (i64 (zM + 1)))) else z90
theorem m_calculus_frames_L2_fuel {n : Nat} {zL : List Sapi_Sent} {z90 : Option Bool} {zM : Int} {r : Bool} (h : m_calculus_frames_L2 zL z90 n zM = some r) : ∃ m,n = m + 1:=by
 cases n with
 | zero=>cases h
 | succ m=>exact ⟨m,rfl⟩
def m_calculus_frames (zL : List Sapi_Sent) : Option Bool :=
 jp0 (some (decide (((zL.length : Nat) : Int) ≤ 4000))) fun z90=>m_calculus_frames_L2 zL z90 FUEL 0
set_option maxRecDepth 20000 in
theorem w_calculus_frames (Z : Zp)  (z57 : Option Addr) (z58 : Nat) (zL : List Sapi_Sent) (r : Bool) (w₀ : World) (hz : PZ [] w₀ Z)
  (zm8 : ZS Z 3 (fun r x=>r = e51 x) z57 z58 zL)
  (h : m_calculus_frames zL = some r) :
  Calls Try.prog 31 #[(.slice z57 zL.length z58)] w₀ fun e w'=>e = .returned (.bool r) ∧ Hp [] w₀ w' []:=by
 unfold m_calculus_frames at h
 refine Calls.ofWC (vs:=[(.slice z57 zL.length z58)]) (pre:=[]) (env:=[(0,(.slice z57 zL.length z58))]) Try.func31 rfl Try.ntmps31 rfl (Hp.nil w₀ _) rfl ?_
 refine WC.seq ?_
 refine WC.region ?_
 refine WL.quiet (d:=2) rfl rfl rfl (q_assign rfl) ?_
 refine WL.nil ?_
 refine WX.then ?_
 obtain ⟨z90,zpM,h⟩:=jp0_elim h
 refine WC.seqMid0 ((z90 = some r)) ([(0,(.slice z57 zL.length z58))]) ([]) ?_ ?_
 ·skip
  refine WC.seq ?_
  refine WC.region ?_
  refine WL.quiet (d:=5) rfl rfl rfl (q_move rfl) ?_
  refine WL.quiet (d:=6) rfl rfl rfl (q_len Try.underlying24 rfl) ?_
  refine WL.quiet (d:=7) rfl rfl rfl (q_move rfl) ?_
  refine WL.nil ?_
  refine WX.then ?_
  refine WC.block ?_
  refine WC.loop2 (fun (zci : Nat) (zM : Int)=>(m_calculus_frames_L2 zL z90 zci zM = some r)) (fun (zci : Nat) (zM : Int)=>[(0,(.slice z57 zL.length z58)),(5,(.slice z57 zL.length z58)),(6,(.int .i64 ((zL.length : Nat) : Int))),(7,(.int .i64 zM))]) (fun (zci : Nat) (zM : Int)=>[]) (fun (zci : Nat) (zM : Int)=>zci) ⟨FUEL,0⟩ h (.cons rfl (.cons rfl (.cons rfl (.cons rfl .nil)))) .nil ?_
  rintro zci zM h
  obtain ⟨zho,rfl⟩:=m_calculus_frames_L2_fuel h
  rw [m_calculus_frames_L2] at h
  refine WC.seq ?_
  refine WC.region ?_
  refine WL.quiet (d:=8) rfl rfl rfl (q_lss rfl rfl) ?_
  refine WL.nil ?_
  refine WX.then ?_
  refine WC.seq ?_
  refine WC.cond rfl (fun zhp=>?_) (fun zhp=>?_)
  ·replace h:=ite_t h zhp
   refine WC.skip ?_
   refine WX.then ?_
   refine WC.seq ?_
   refine WC.block ?_
   refine WC.seq ?_
   obtain ⟨zpN,h⟩:=chk_elim h
   refine WC.region ?_
   refine WL.quiet (d:=9) rfl rfl rfl (q_move rfl) ?_
   refine WL.znth (dd:=10) rfl rfl (Z:=Z) (Pr:=(fun r x=>r = e51 x)) elT_24 rfl rfl zm8 zpN ?_
   rintro zx2 zx3 zpO zx4 rfl
   refine WL.quiet (d:=11) rfl rfl rfl (q_loadA (cs:=[(.int .i64 ((nth zL zM).fTime)),(.int .i64 ((nth zL zM).fVL)),(.int .i64 ((nth zL zM).fSize))]) aggT_51 rfl rfl (rd_zs hz.pv zpO)) ?_
   refine WL.new (dd:=4) rfl rfl rfl (e_alloc (cs:=[(.int .i64 0),(.int .i64 0),(.int .i64 0)]) zeroT_51 rfl) ?_
   intro zhq _
   refine WL.quiet (d:=3) rfl rfl rfl (q_assign rfl) ?_
   refine WL.eff0 rfl rfl (e_store (vs:=[(.int .i64 ((nth zL zM).fTime)),(.int .i64 ((nth zL zM).fVL)),(.int .i64 ((nth zL zM).fSize))]) (ds:=[(.int .i64 ((nth zL zM).fTime)),(.int .i64 ((nth zL zM).fVL)),(.int .i64 ((nth zL zM).fSize))]) sizT_51 rfl rfl rfl rfl (oc_cons rfl (oc_cons rfl (oc_cons rfl oc_nil))) .here (Nat.le_of_ble_eq_true rfl) rfl) ?_
   refine WL.nil ?_
   refine WX.then ?_
   refine WC.seq ?_
   obtain ⟨zpP,h⟩:=chk_elim h
   refine WC.draw (fun i=>[].contains i) [] rfl ?_
   refine WD.pure (i:=0) (d:=12) (by kernel_rfl) rfl (z6 (by kernel_rfl)) (z7 (by kernel_rfl)) rfl rfl rfl (fun _=>q_fieldAddr fo_51_0 rfl rfl) ?_
   refine WD.quiet (i:=1) (d:=13) (by kernel_rfl) rfl (z6 (by kernel_rfl)) (z7 (by kernel_rfl)) rfl rfl rfl (q_load1 oneT_3 rfl (rd_stb .here rfl)) ?_
   refine WD.pure (i:=2) (d:=14) (by kernel_rfl) rfl (z6 (by kernel_rfl)) (z7 (by kernel_rfl)) rfl rfl rfl (fun _=>q_lss rfl rfl) ?_
   refine WD.pure (i:=3) (d:=15) (by kernel_rfl) rfl (z6 (by kernel_rfl)) (z7 (by kernel_rfl)) rfl rfl rfl (fun _=>q_move rfl) ?_
   refine WD.mid (fuel':=25) [(0,(.slice z57 zL.length z58)),(5,(.slice z57 zL.length z58)),(6,(.int .i64 ((zL.length : Nat) : Int))),(7,(.int .i64 zM)),(4,(.pointer (some ⟨zhq,0,none⟩))),(3,(.int .i64 zM)),(15,(.bool (decide (((nth zL zM).fTime) < 0)))),(19,(.bool ((decide (((nth zL zM).fTime) < 0)) || (decide (((nth zL zM).fTime) > 1073741824)))))] (listedA 33 [7,6,5,4,3,2,1,0]) ?_ (fun zm9=>?_)
   rotate_left
   ·rcases Bool.eq_false_or_eq_true (decide (((nth zL zM).fTime) < 0)) with hb' | hb'
    ·have zhr:=hb'; clear hb'
     refine WD.pin (i:=15) rfl zhr ?_
     refine WD.skip (i:=4) (d:=16) (by kernel_rfl) rfl (z6 (by kernel_rfl)) (z7 (by kernel_rfl)) rfl rfl rfl ?_
     refine WD.skip (i:=5) (d:=17) (by kernel_rfl) rfl (z6 (by kernel_rfl)) (z7 (by kernel_rfl)) rfl rfl rfl ?_
     refine WD.skip (i:=6) (d:=18) (by kernel_rfl) rfl (z6 (by kernel_rfl)) (z7 (by kernel_rfl)) rfl rfl rfl ?_
     refine WD.pure (i:=7) (d:=19) (by kernel_rfl) rfl (z6 (by kernel_rfl)) (z7 (by kernel_rfl)) rfl rfl rfl (fun _=>q_pickT rfl rfl) ?_
     refine WD.reL (.cons .here .nil) ?_ zm9
     exact (.cons rfl (.cons rfl (.cons rfl (.cons rfl (.cons rfl (.cons rfl (.cons (zp (Eq.symm zhr)) (.cons (zp (or_l zhr)) .nil))))))))
    ·have zhs:=hb'; clear hb'
     refine WD.pin (i:=15) rfl zhs ?_
     refine WD.pure (i:=4) (d:=16) (by kernel_rfl) rfl (z6 (by kernel_rfl)) (z7 (by kernel_rfl)) rfl rfl rfl (fun _=>q_fieldAddr fo_51_0 rfl rfl) ?_
     refine WD.quiet (i:=5) (d:=17) (by kernel_rfl) rfl (z6 (by kernel_rfl)) (z7 (by kernel_rfl)) rfl rfl rfl (q_load1 oneT_3 rfl (rd_stb .here rfl)) ?_
     refine WD.pure (i:=6) (d:=18) (by kernel_rfl) rfl (z6 (by kernel_rfl)) (z7 (by kernel_rfl)) rfl rfl rfl (fun _=>q_gtr rfl rfl) ?_
     refine WD.pure (i:=7) (d:=19) (by kernel_rfl) rfl (z6 (by kernel_rfl)) (z7 (by kernel_rfl)) rfl rfl rfl (fun _=>q_pickF rfl rfl) ?_
     refine WD.reL (.cons .here .nil) ?_ zm9
     exact (.cons rfl (.cons rfl (.cons rfl (.cons rfl (.cons rfl (.cons rfl (.cons (zp (Eq.symm zhs)) (.cons (zp (or_r zhs)) .nil))))))))
   refine WD.relist #[true,true,true,true,true,true,true,true,false,false,false,false,false,false,false,false,false,false,false,false,false,false,false,false,false,false,false,false,false,false,false,false,false] (by kernel_rfl) ?_
   refine WD.pure (i:=8) (d:=20) (by kernel_rfl) rfl (z6 (by kernel_rfl)) (z7 (by kernel_rfl)) rfl rfl rfl (fun _=>q_move rfl) ?_
   refine WD.mid (fuel':=20) [(0,(.slice z57 zL.length z58)),(5,(.slice z57 zL.length z58)),(6,(.int .i64 ((zL.length : Nat) : Int))),(7,(.int .i64 zM)),(4,(.pointer (some ⟨zhq,0,none⟩))),(3,(.int .i64 zM)),(20,(.bool ((decide (((nth zL zM).fTime) < 0)) || (decide (((nth zL zM).fTime) > 1073741824))))),(24,(.bool (((decide (((nth zL zM).fTime) < 0)) || (decide (((nth zL zM).fTime) > 1073741824))) || (decide (((nth zL zM).fSize) < 1)))))] (listedA 33 [12,11,10,9,8,7,6,5,4,3,2,1,0]) ?_ (fun zma=>?_)
   rotate_left
   ·rcases Bool.eq_false_or_eq_true ((decide (((nth zL zM).fTime) < 0)) || (decide (((nth zL zM).fTime) > 1073741824))) with hb' | hb'
    ·have zht:=hb'; clear hb'
     refine WD.pin (i:=20) rfl zht ?_
     refine WD.skip (i:=9) (d:=21) (by kernel_rfl) rfl (z6 (by kernel_rfl)) (z7 (by kernel_rfl)) rfl rfl rfl ?_
     refine WD.skip (i:=10) (d:=22) (by kernel_rfl) rfl (z6 (by kernel_rfl)) (z7 (by kernel_rfl)) rfl rfl rfl ?_
     refine WD.skip (i:=11) (d:=23) (by kernel_rfl) rfl (z6 (by kernel_rfl)) (z7 (by kernel_rfl)) rfl rfl rfl ?_
     refine WD.pure (i:=12) (d:=24) (by kernel_rfl) rfl (z6 (by kernel_rfl)) (z7 (by kernel_rfl)) rfl rfl rfl (fun _=>q_pickT rfl rfl) ?_
     refine WD.reL (.cons .here .nil) ?_ zma
     exact (.cons rfl (.cons rfl (.cons rfl (.cons rfl (.cons rfl (.cons rfl (.cons (zp (Eq.symm zht)) (.cons (zp (or_l zht)) .nil))))))))
    ·have zhu:=hb'; clear hb'
     refine WD.pin (i:=20) rfl zhu ?_
     refine WD.pure (i:=9) (d:=21) (by kernel_rfl) rfl (z6 (by kernel_rfl)) (z7 (by kernel_rfl)) rfl rfl rfl (fun _=>q_fieldAddr fo_51_2 rfl rfl) ?_
     refine WD.quiet (i:=10) (d:=22) (by kernel_rfl) rfl (z6 (by kernel_rfl)) (z7 (by kernel_rfl)) rfl rfl rfl (q_load1 oneT_3 rfl (rd_stb .here rfl)) ?_
     refine WD.pure (i:=11) (d:=23) (by kernel_rfl) rfl (z6 (by kernel_rfl)) (z7 (by kernel_rfl)) rfl rfl rfl (fun _=>q_lss rfl rfl) ?_
     refine WD.pure (i:=12) (d:=24) (by kernel_rfl) rfl (z6 (by kernel_rfl)) (z7 (by kernel_rfl)) rfl rfl rfl (fun _=>q_pickF rfl rfl) ?_
     refine WD.reL (.cons .here .nil) ?_ zma
     exact (.cons rfl (.cons rfl (.cons rfl (.cons rfl (.cons rfl (.cons rfl (.cons (zp (Eq.symm zhu)) (.cons (zp (or_r zhu)) .nil))))))))
   refine WD.relist #[true,true,true,true,true,true,true,true,true,true,true,true,true,false,false,false,false,false,false,false,false,false,false,false,false,false,false,false,false,false,false,false,false] (by kernel_rfl) ?_
   refine WD.pure (i:=13) (d:=25) (by kernel_rfl) rfl (z6 (by kernel_rfl)) (z7 (by kernel_rfl)) rfl rfl rfl (fun _=>q_move rfl) ?_
   refine WD.mid (fuel':=15) [(0,(.slice z57 zL.length z58)),(5,(.slice z57 zL.length z58)),(6,(.int .i64 ((zL.length : Nat) : Int))),(7,(.int .i64 zM)),(4,(.pointer (some ⟨zhq,0,none⟩))),(3,(.int .i64 zM)),(25,(.bool (((decide (((nth zL zM).fTime) < 0)) || (decide (((nth zL zM).fTime) > 1073741824))) || (decide (((nth zL zM).fSize) < 1))))),(29,(.bool ((((decide (((nth zL zM).fTime) < 0)) || (decide (((nth zL zM).fTime) > 1073741824))) || (decide (((nth zL zM).fSize) < 1))) || (decide (((nth zL zM).fSize) > 72)))))] (listedA 33 [17,16,15,14,13,12,11,10,9,8,7,6,5,4,3,2,1,0]) ?_ (fun zmb=>?_)
   rotate_left
   ·rcases Bool.eq_false_or_eq_true (((decide (((nth zL zM).fTime) < 0)) || (decide (((nth zL zM).fTime) > 1073741824))) || (decide (((nth zL zM).fSize) < 1))) with hb' | hb'
    ·have zhv:=hb'; clear hb'
     refine WD.pin (i:=25) rfl zhv ?_
     refine WD.skip (i:=14) (d:=26) (by kernel_rfl) rfl (z6 (by kernel_rfl)) (z7 (by kernel_rfl)) rfl rfl rfl ?_
     refine WD.skip (i:=15) (d:=27) (by kernel_rfl) rfl (z6 (by kernel_rfl)) (z7 (by kernel_rfl)) rfl rfl rfl ?_
     refine WD.skip (i:=16) (d:=28) (by kernel_rfl) rfl (z6 (by kernel_rfl)) (z7 (by kernel_rfl)) rfl rfl rfl ?_
     refine WD.pure (i:=17) (d:=29) (by kernel_rfl) rfl (z6 (by kernel_rfl)) (z7 (by kernel_rfl)) rfl rfl rfl (fun _=>q_pickT rfl rfl) ?_
     refine WD.reL (.cons .here .nil) ?_ zmb
     exact (.cons rfl (.cons rfl (.cons rfl (.cons rfl (.cons rfl (.cons rfl (.cons (zp (Eq.symm zhv)) (.cons (zp (or_l zhv)) .nil))))))))
    ·have zhw:=hb'; clear hb'
     refine WD.pin (i:=25) rfl zhw ?_
     refine WD.pure (i:=14) (d:=26) (by kernel_rfl) rfl (z6 (by kernel_rfl)) (z7 (by kernel_rfl)) rfl rfl rfl (fun _=>q_fieldAddr fo_51_2 rfl rfl) ?_
     refine WD.quiet (i:=15) (d:=27) (by kernel_rfl) rfl (z6 (by kernel_rfl)) (z7 (by kernel_rfl)) rfl rfl rfl (q_load1 oneT_3 rfl (rd_stb .here rfl)) ?_
     refine WD.pure (i:=16) (d:=28) (by kernel_rfl) rfl (z6 (by kernel_rfl)) (z7 (by kernel_rfl)) rfl rfl rfl (fun _=>q_gtr rfl rfl) ?_
     refine WD.pure (i:=17) (d:=29) (by kernel_rfl) rfl (z6 (by kernel_rfl)) (z7 (by kernel_rfl)) rfl rfl rfl (fun _=>q_pickF rfl rfl) ?_
     refine WD.reL (.cons .here .nil) ?_ zmb
     exact (.cons rfl (.cons rfl (.cons rfl (.cons rfl (.cons rfl (.cons rfl (.cons (zp (Eq.symm zhw)) (.cons (zp (or_r zhw)) .nil))))))))
   refine WD.relist #[true,true,true,true,true,true,true,true,true,true,true,true,true,true,true,true,true,true,false,false,false,false,false,false,false,false,false,false,false,false,false,false,false] (by kernel_rfl) ?_
   refine WD.pure (i:=18) (d:=30) (by kernel_rfl) rfl (z6 (by kernel_rfl)) (z7 (by kernel_rfl)) rfl rfl rfl (fun _=>q_move rfl) ?_
   refine WD.mid (fuel':=0) [(0,(.slice z57 zL.length z58)),(5,(.slice z57 zL.length z58)),(6,(.int .i64 ((zL.length : Nat) : Int))),(7,(.int .i64 zM)),(30,(.bool ((((decide (((nth zL zM).fTime) < 0)) || (decide (((nth zL zM).fTime) > 1073741824))) || (decide (((nth zL zM).fSize) < 1))) || (decide (((nth zL zM).fSize) > 72))))),(44,(.bool (((((decide (((nth zL zM).fTime) < 0)) || (decide (((nth zL zM).fTime) > 1073741824))) || (decide (((nth zL zM).fSize) < 1))) || (decide (((nth zL zM).fSize) > 72))) || ((decide (zM > 0)) && (decide (((nth zL (i64 (zM - 1))).fTime) > ((nth zL zM).fTime)))))))] (listedA 33 [32,31,30,29,28,27,26,25,24,23,22,21,20,19,18,17,16,15,14,13,12,11,10,9,8,7,6,5,4,3,2,1,0]) ?_ (fun zmc=>?_)
   rotate_left
   ·rcases Bool.eq_false_or_eq_true ((((decide (((nth zL zM).fTime) < 0)) || (decide (((nth zL zM).fTime) > 1073741824))) || (decide (((nth zL zM).fSize) < 1))) || (decide (((nth zL zM).fSize) > 72))) with hb' | hb'
    ·have zhx:=hb'; clear hb'
     refine WD.pin (i:=30) rfl zhx ?_
     refine WD.skip (i:=19) (d:=31) (by kernel_rfl) rfl (z6 (by kernel_rfl)) (z7 (by kernel_rfl)) rfl rfl rfl ?_
     refine WD.skip (i:=20) (d:=32) (by kernel_rfl) rfl (z6 (by kernel_rfl)) (z7 (by kernel_rfl)) rfl rfl rfl ?_
     refine WD.skip (i:=21) (d:=33) (by kernel_rfl) rfl (z6 (by kernel_rfl)) (z7 (by kernel_rfl)) rfl rfl rfl ?_
     refine WD.skip (i:=22) (d:=34) (by kernel_rfl) rfl (z6 (by kernel_rfl)) (z7 (by kernel_rfl)) rfl rfl rfl ?_
     refine WD.skip (i:=23) (d:=35) (by kernel_rfl) rfl (z6 (by kernel_rfl)) (z7 (by kernel_rfl)) rfl rfl rfl ?_
     refine WD.skip (i:=24) (d:=36) (by kernel_rfl) rfl (z6 (by kernel_rfl)) (z7 (by kernel_rfl)) rfl rfl rfl ?_
     refine WD.skip (i:=25) (d:=37) (by kernel_rfl) rfl (z6 (by kernel_rfl)) (z7 (by kernel_rfl)) rfl rfl rfl ?_
     refine WD.skip (i:=26) (d:=38) (by kernel_rfl) rfl (z6 (by kernel_rfl)) (z7 (by kernel_rfl)) rfl rfl rfl ?_
     refine WD.skip (i:=27) (d:=39) (by kernel_rfl) rfl (z6 (by kernel_rfl)) (z7 (by kernel_rfl)) rfl rfl rfl ?_
     refine WD.skip (i:=28) (d:=40) (by kernel_rfl) rfl (z6 (by kernel_rfl)) (z7 (by kernel_rfl)) rfl rfl rfl ?_
     refine WD.skip (i:=29) (d:=41) (by kernel_rfl) rfl (z6 (by kernel_rfl)) (z7 (by kernel_rfl)) rfl rfl rfl ?_
     refine WD.skip (i:=30) (d:=42) (by kernel_rfl) rfl (z6 (by kernel_rfl)) (z7 (by kernel_rfl)) rfl rfl rfl ?_
     refine WD.skip (i:=31) (d:=43) (by kernel_rfl) rfl (z6 (by kernel_rfl)) (z7 (by kernel_rfl)) rfl rfl rfl ?_
     refine WD.pure (i:=32) (d:=44) (by kernel_rfl) rfl (z6 (by kernel_rfl)) (z7 (by kernel_rfl)) rfl rfl rfl (fun _=>q_pickT rfl rfl) ?_
     refine WD.reL (.cons .here .nil) ?_ zmc
     exact (.cons rfl (.cons rfl (.cons rfl (.cons rfl (.cons (zp (Eq.symm zhx)) (.cons (zp (or_l zhx)) .nil))))))
    ·have zfr:=hb'; clear hb'
     have zpQ:=zpP zfr
     refine WD.pin (i:=30) rfl zfr ?_
     refine WD.pure (i:=19) (d:=31) (by kernel_rfl) rfl (z6 (by kernel_rfl)) (z7 (by kernel_rfl)) rfl rfl rfl (fun _=>q_move rfl) ?_
     refine WD.pure (i:=20) (d:=32) (by kernel_rfl) rfl (z6 (by kernel_rfl)) (z7 (by kernel_rfl)) rfl rfl rfl (fun _=>q_gtr rfl rfl) ?_
     refine WD.pure (i:=21) (d:=33) (by kernel_rfl) rfl (z6 (by kernel_rfl)) (z7 (by kernel_rfl)) rfl rfl rfl (fun _=>q_move rfl) ?_
     refine WD.mid (fuel':=1) [(0,(.slice z57 zL.length z58)),(5,(.slice z57 zL.length z58)),(6,(.int .i64 ((zL.length : Nat) : Int))),(7,(.int .i64 zM)),(30,(.bool false)),(33,(.bool (decide (zM > 0)))),(43,(.bool ((decide (zM > 0)) && (decide (((nth zL (i64 (zM - 1))).fTime) > ((nth zL zM).fTime))))))] (listedA 33 [31,30,29,28,27,26,25,24,23,22,21,20,19,18,17,16,15,14,13,12,11,10,9,8,7,6,5,4,3,2,1,0]) ?_ (fun zmd=>?_)
     rotate_left
     ·rcases Bool.eq_false_or_eq_true (decide (zM > 0)) with hb' | hb'
      ·have zfs:=hb'; clear hb'
       have zpR:=zpQ zfs
       refine WD.pin (i:=33) rfl zfs ?_
       refine WD.pure (i:=22) (d:=34) (by kernel_rfl) rfl (z6 (by kernel_rfl)) (z7 (by kernel_rfl)) rfl rfl rfl (fun _=>q_move rfl) ?_
       refine WD.pure (i:=23) (d:=35) (by kernel_rfl) rfl (z6 (by kernel_rfl)) (z7 (by kernel_rfl)) rfl rfl rfl (fun _=>q_move rfl) ?_
       refine WD.pure (i:=24) (d:=36) (by kernel_rfl) rfl (z6 (by kernel_rfl)) (z7 (by kernel_rfl)) rfl rfl rfl (fun _=>q_sub rfl rfl rfl) ?_
       refine WD.znth (j:=25) (dd:=37) (by kernel_rfl) rfl (z6 (by kernel_rfl)) (z7 (by kernel_rfl)) rfl rfl (Z:=Z) (Pr:=(fun r x=>r = e51 x)) elT_24 rfl rfl zm8 zpR ?_
       rintro zx5 zx6 zpS zx7 rfl
       refine WD.pure (i:=26) (d:=38) (by kernel_rfl) rfl (z6 (by kernel_rfl)) (z7 (by kernel_rfl)) rfl rfl rfl (fun _=>q_fieldAddr fo_51_0 rfl rfl) ?_
       refine WD.quiet (i:=27) (d:=39) (by kernel_rfl) rfl (z6 (by kernel_rfl)) (z7 (by kernel_rfl)) rfl rfl rfl (q_load1 oneT_3 rfl (rd_zAt hz.pv zpS rfl)) ?_
       refine WD.pure (i:=28) (d:=40) (by kernel_rfl) rfl (z6 (by kernel_rfl)) (z7 (by kernel_rfl)) rfl rfl rfl (fun _=>q_fieldAddr fo_51_0 rfl rfl) ?_
       refine WD.quiet (i:=29) (d:=41) (by kernel_rfl) rfl (z6 (by kernel_rfl)) (z7 (by kernel_rfl)) rfl rfl rfl (q_load1 oneT_3 rfl (rd_stb .here rfl)) ?_
       refine WD.pure (i:=30) (d:=42) (by kernel_rfl) rfl (z6 (by kernel_rfl)) (z7 (by kernel_rfl)) rfl rfl rfl (fun _=>q_gtr rfl rfl) ?_
       refine WD.pure (i:=31) (d:=43) (by kernel_rfl) rfl (z6 (by kernel_rfl)) (z7 (by kernel_rfl)) rfl rfl rfl (fun _=>q_pickT rfl rfl) ?_
       refine WD.reL (.cons .here .nil) ?_ zmd
       exact (.cons rfl (.cons rfl (.cons rfl (.cons rfl (.cons rfl (.cons (zp (Eq.symm zfs)) (.cons (zp (and_r zfs)) .nil)))))))
      ·have zhy:=hb'; clear hb'
       refine WD.pin (i:=33) rfl zhy ?_
       refine WD.skip (i:=22) (d:=34) (by kernel_rfl) rfl (z6 (by kernel_rfl)) (z7 (by kernel_rfl)) rfl rfl rfl ?_
       refine WD.skip (i:=23) (d:=35) (by kernel_rfl) rfl (z6 (by kernel_rfl)) (z7 (by kernel_rfl)) rfl rfl rfl ?_
       refine WD.skip (i:=24) (d:=36) (by kernel_rfl) rfl (z6 (by kernel_rfl)) (z7 (by kernel_rfl)) rfl rfl rfl ?_
       refine WD.skip (i:=25) (d:=37) (by kernel_rfl) rfl (z6 (by kernel_rfl)) (z7 (by kernel_rfl)) rfl rfl rfl ?_
       refine WD.skip (i:=26) (d:=38) (by kernel_rfl) rfl (z6 (by kernel_rfl)) (z7 (by kernel_rfl)) rfl rfl rfl ?_
       refine WD.skip (i:=27) (d:=39) (by kernel_rfl) rfl (z6 (by kernel_rfl)) (z7 (by kernel_rfl)) rfl rfl rfl ?_
       refine WD.skip (i:=28) (d:=40) (by kernel_rfl) rfl (z6 (by kernel_rfl)) (z7 (by kernel_rfl)) rfl rfl rfl ?_
       refine WD.skip (i:=29) (d:=41) (by kernel_rfl) rfl (z6 (by kernel_rfl)) (z7 (by kernel_rfl)) rfl rfl rfl ?_
       refine WD.skip (i:=30) (d:=42) (by kernel_rfl) rfl (z6 (by kernel_rfl)) (z7 (by kernel_rfl)) rfl rfl rfl ?_
       refine WD.pure (i:=31) (d:=43) (by kernel_rfl) rfl (z6 (by kernel_rfl)) (z7 (by kernel_rfl)) rfl rfl rfl (fun _=>q_pickF rfl rfl) ?_
       refine WD.reL (.cons .here .nil) ?_ zmd
       exact (.cons rfl (.cons rfl (.cons rfl (.cons rfl (.cons rfl (.cons (zp (Eq.symm zhy)) (.cons (zp (and_l zhy)) .nil)))))))
     refine WD.relist #[true,true,true,true,true,true,true,true,true,true,true,true,true,true,true,true,true,true,true,true,true,true,true,true,true,true,true,true,true,true,true,true,false] (by kernel_rfl) ?_
     refine WD.pure (i:=32) (d:=44) (by kernel_rfl) rfl (z6 (by kernel_rfl)) (z7 (by kernel_rfl)) rfl rfl rfl (fun _=>q_pickF rfl rfl) ?_
     refine WD.reL (.cons .here .nil) ?_ zmc
     exact (.cons rfl (.cons rfl (.cons rfl (.cons rfl (.cons (zp (Eq.symm zfr)) (.cons (zp (or_r zfr)) .nil))))))
   refine WD.relist #[true,true,true,true,true,true,true,true,true,true,true,true,true,true,true,true,true,true,true,true,true,true,true,true,true,true,true,true,true,true,true,true,true] (by kernel_rfl) ?_
   refine WD.done (by kernel_rfl) ?_
   refine WX.then ?_
   refine WC.cond rfl (fun zhz=>?_) (fun zhz=>?_)
   ·replace h:=ite_t h zhz
    refine WC.seq ?_
    refine WC.region ?_
    refine WL.quiet (d:=2) rfl rfl rfl (q_assign rfl) ?_
    refine WL.nil ?_
    refine WX.then ?_
    refine WC.ret ?_
    refine WX.blockRet ?_
    refine WX.thenRet ?_
    refine WX.thenRet ?_
    refine WX.blockRet ?_
    refine WX.thenRet ?_
    obtain rfl:=Option.some.inj h
    refine WX.bpRet Try.results31 (.tmp rfl .nil) (fun w hw=>?_)
    exact ⟨ret1 rfl,hw.sub .nil⟩
   ·replace h:=ite_f h zhz
    refine WC.skip ?_
    refine WX.blockNormal ?_
    refine WX.then ?_
    refine WC.region ?_
    refine WL.quiet (d:=45) rfl rfl rfl (q_add rfl rfl rfl) ?_
    refine WL.quiet (d:=7) rfl rfl rfl (q_move rfl) ?_
    refine WL.nil ?_
    exact WX.round (G:=Nat × Int) ⟨zho,(i64 (zM + 1))⟩ h (Nat.lt_succ_self _) (.cons rfl (.cons rfl (.cons rfl (.cons rfl .nil)))) .nil
  ·replace h:=ite_f h zhp
   refine WC.exit ?_
   refine WX.thenExit ?_
   refine WX.thenExit ?_
   refine WX.blockHit ?_
   exact WX.mid (G:=Unit) () h (.cons rfl .nil) .nil
 ·rintro  h
  replace h:=zpM.symm.trans h
  refine WC.seq ?_
  refine WC.region ?_
  refine WL.quiet (d:=46) rfl rfl rfl (q_move rfl) ?_
  refine WL.quiet (d:=47) rfl rfl rfl (q_len Try.underlying24 rfl) ?_
  refine WL.quiet (d:=48) rfl rfl rfl (q_leq rfl rfl) ?_
  refine WL.quiet (d:=2) rfl rfl rfl (q_assign rfl) ?_
  refine WL.nil ?_
  refine WX.then ?_
  refine WC.ret ?_
  obtain rfl:=Option.some.inj h
  refine WX.bpRet Try.results31 (.tmp rfl .nil) (fun w hw=>?_)
  exact ⟨ret1 rfl,hw.sub .nil⟩
def m_calculus_Serve_L2 (z20 : List Sapi_Sent) (z33 : Int) (z2A : Int) (z91 : (List Int) → Option (List Int × Int)) : Nat → (List Int) → Int → Int → Option (List Int × Int)
 | 0,_,_,_=>none
 | zhA + 1,z5u,z5V,z2C=>if decide (z2C < ((z20.length : Nat) : Int)) then chk ((0 : Int) ≤ z2C ∧ z2C < ((z20.length : Nat) : Int)) (chk ((((z5u ++ ([i64 ((max z5V (i64 (((nth z20 z2C).fTime) + z33))) + (i64 (((nth z20 z2C).fSize) * z2A)))] : List Int)).length : Nat) : Int) * 8 ≤ 140737488355328 ∧ (((z5u ++ ([i64 ((max z5V (i64 (((nth z20 z2C).fTime) + z33))) + (i64 (((nth z20 z2C).fSize) * z2A)))] : List Int)).length : Nat) : Int) ≤ 4611686018427387904) (m_calculus_Serve_L2 z20 z33 z2A z91 zhA (z5u ++ ([i64 ((max z5V (i64 (((nth z20 z2C).fTime) + z33))) + (i64 (((nth z20 z2C).fSize) * z2A)))] : List Int)) (i64 ((max z5V (i64 (((nth z20 z2C).fTime) + z33))) + (i64 (((nth z20 z2C).fSize) * z2A)))) (i64 (z2C + 1)))) else z91 z5u
theorem m_calculus_Serve_L2_fuel {n : Nat} {z20 : List Sapi_Sent} {z33 : Int} {z2A : Int} {z91 : (List Int) → Option (List Int × Int)} {z5u : List Int} {z5V : Int} {z2C : Int} {r : List Int × Int} (h : m_calculus_Serve_L2 z20 z33 z2A z91 n z5u z5V z2C = some r) : ∃ m,n = m + 1:=by
 cases n with
 | zero=>cases h
 | succ m=>exact ⟨m,rfl⟩
def m_calculus_Serve (z20 : List Sapi_Sent) (z2A : Int) (z33 : Int) : Option (List Int × Int) :=
 (m_calculus_frames z20).bind fun z80=>if ((((!z80) || (decide (z2A < 1))) || (decide (z2A > 16))) || (decide (z33 < 0))) || (decide (z33 > 1000)) then some (([] : List Int),2) else jp1 (fun (z8s : List Int)=>some (z8s,0)) fun z91=>m_calculus_Serve_L2 z20 z33 z2A z91 FUEL ([] : List Int) 0 0
set_option maxRecDepth 20000 in
theorem w_calculus_Serve (Z : Zp)  (z7u : Option Addr) (z7v : Nat) (z20 : List Sapi_Sent) (z2A : Int) (z33 : Int) (r : List Int × Int) (w₀ : World) (hz : PZ [] w₀ Z)
  (zme : ZS Z 3 (fun r x=>r = e51 x) z7u z7v z20)
  (h : m_calculus_Serve z20 z2A z33 = some r) :
  Calls Try.prog 14 #[(.slice z7u z20.length z7v),(.int .i64 z2A),(.int .i64 z33)] w₀ fun e w'=>∃ zmf : Option Addr,∃ zmg : Nat,e = .returned (.tuple #[(.slice zmf r.1.length zmg),(.int .i64 r.2)]) ∧ True ∧ Hp [] w₀ w' [row (.slice zmf r.1.length zmg) 3 1 (r.1.flatMap e3)]:=by
 unfold m_calculus_Serve at h
 refine Calls.ofWC (vs:=[(.slice z7u z20.length z7v),(.int .i64 z2A),(.int .i64 z33)]) (pre:=[]) (env:=[(0,(.slice z7u z20.length z7v)),(1,(.int .i64 z2A)),(2,(.int .i64 z33))]) Try.func14 rfl Try.ntmps14 rfl (Hp.nil w₀ _) rfl ?_
 refine WC.seq ?_
 refine WC.region ?_
 refine WL.quiet (d:=6) rfl rfl rfl (q_assign rfl) ?_
 refine WL.quiet (d:=7) rfl rfl rfl (q_assign rfl) ?_
 refine WL.nil ?_
 refine WX.then ?_
 refine WC.seq ?_
 refine WC.seq ?_
 obtain ⟨z80,zpT,h⟩:=ze h
 refine WC.region ?_
 refine WL.quiet (d:=12) rfl rfl rfl (q_move rfl) ?_
 refine WL.callD (dd:=13) rfl rfl rfl (zn (l:=[.tmp 12]) Try.call31 (.cons rfl .nil)) (.nil : Sel [] [] []) (fun w hw=>by have pz:=(hz.call hw (.nil : Sel [] [] [])); exact w_calculus_frames (Z:=_) (z57:=z7u) (z58:=z7v) (zL:=z20) (r:=z80) w pz zme zpT) ?_
 refine WL.quiet (d:=14) rfl rfl rfl (q_not rfl) ?_
 refine WL.quiet (d:=15) rfl rfl rfl (q_move rfl) ?_
 refine WL.cut0 True [(0,(.slice z7u z20.length z7v)),(1,(.int .i64 z2A)),(2,(.int .i64 z33)),(18,(.bool ((!z80) || (decide (z2A < 1)))))] [] 3 ?_ (fun _=>?_)
 ·rcases Bool.eq_false_or_eq_true (!z80) with hb' | hb'
  ·have zmh:=hb'; clear hb'
   refine WL.pin (i:=15) rfl zmh ?_
   refine WL.skip rfl rfl rfl ?_
   refine WL.skip rfl rfl rfl ?_
   refine WL.quiet (d:=18) rfl rfl rfl (q_pickT rfl rfl) ?_
   exact WL.cutEnd () trivial (.cons rfl (.cons rfl (.cons rfl (.cons (zp (or_l zmh)) .nil)))) .nil
  ·have zmi:=hb'; clear hb'
   refine WL.pin (i:=15) rfl zmi ?_
   refine WL.quiet (d:=16) rfl rfl rfl (q_move rfl) ?_
   refine WL.quiet (d:=17) rfl rfl rfl (q_lss rfl rfl) ?_
   refine WL.quiet (d:=18) rfl rfl rfl (q_pickF rfl rfl) ?_
   exact WL.cutEnd () trivial (.cons rfl (.cons rfl (.cons rfl (.cons (zp (or_r zmi)) .nil)))) .nil
 ·skip
  refine WL.quiet (d:=19) rfl rfl rfl (q_move rfl) ?_
  refine WL.cut0 True [(0,(.slice z7u z20.length z7v)),(1,(.int .i64 z2A)),(2,(.int .i64 z33)),(22,(.bool (((!z80) || (decide (z2A < 1))) || (decide (z2A > 16)))))] [] 3 ?_ (fun _=>?_)
  ·rcases Bool.eq_false_or_eq_true ((!z80) || (decide (z2A < 1))) with hb' | hb'
   ·have zmj:=hb'; clear hb'
    refine WL.pin (i:=19) rfl zmj ?_
    refine WL.skip rfl rfl rfl ?_
    refine WL.skip rfl rfl rfl ?_
    refine WL.quiet (d:=22) rfl rfl rfl (q_pickT rfl rfl) ?_
    exact WL.cutEnd () trivial (.cons rfl (.cons rfl (.cons rfl (.cons (zp (or_l zmj)) .nil)))) .nil
   ·have zmk:=hb'; clear hb'
    refine WL.pin (i:=19) rfl zmk ?_
    refine WL.quiet (d:=20) rfl rfl rfl (q_move rfl) ?_
    refine WL.quiet (d:=21) rfl rfl rfl (q_gtr rfl rfl) ?_
    refine WL.quiet (d:=22) rfl rfl rfl (q_pickF rfl rfl) ?_
    exact WL.cutEnd () trivial (.cons rfl (.cons rfl (.cons rfl (.cons (zp (or_r zmk)) .nil)))) .nil
  ·skip
   refine WL.quiet (d:=23) rfl rfl rfl (q_move rfl) ?_
   refine WL.cut0 True [(0,(.slice z7u z20.length z7v)),(1,(.int .i64 z2A)),(2,(.int .i64 z33)),(26,(.bool ((((!z80) || (decide (z2A < 1))) || (decide (z2A > 16))) || (decide (z33 < 0)))))] [] 3 ?_ (fun _=>?_)
   ·rcases Bool.eq_false_or_eq_true (((!z80) || (decide (z2A < 1))) || (decide (z2A > 16))) with hb' | hb'
    ·have zml:=hb'; clear hb'
     refine WL.pin (i:=23) rfl zml ?_
     refine WL.skip rfl rfl rfl ?_
     refine WL.skip rfl rfl rfl ?_
     refine WL.quiet (d:=26) rfl rfl rfl (q_pickT rfl rfl) ?_
     exact WL.cutEnd () trivial (.cons rfl (.cons rfl (.cons rfl (.cons (zp (or_l zml)) .nil)))) .nil
    ·have zmm:=hb'; clear hb'
     refine WL.pin (i:=23) rfl zmm ?_
     refine WL.quiet (d:=24) rfl rfl rfl (q_move rfl) ?_
     refine WL.quiet (d:=25) rfl rfl rfl (q_lss rfl rfl) ?_
     refine WL.quiet (d:=26) rfl rfl rfl (q_pickF rfl rfl) ?_
     exact WL.cutEnd () trivial (.cons rfl (.cons rfl (.cons rfl (.cons (zp (or_r zmm)) .nil)))) .nil
   ·skip
    refine WL.quiet (d:=27) rfl rfl rfl (q_move rfl) ?_
    refine WL.cut0 True [(0,(.slice z7u z20.length z7v)),(1,(.int .i64 z2A)),(2,(.int .i64 z33)),(30,(.bool (((((!z80) || (decide (z2A < 1))) || (decide (z2A > 16))) || (decide (z33 < 0))) || (decide (z33 > 1000)))))] [] 3 ?_ (fun _=>?_)
    ·rcases Bool.eq_false_or_eq_true ((((!z80) || (decide (z2A < 1))) || (decide (z2A > 16))) || (decide (z33 < 0))) with hb' | hb'
     ·have zmn:=hb'; clear hb'
      refine WL.pin (i:=27) rfl zmn ?_
      refine WL.skip rfl rfl rfl ?_
      refine WL.skip rfl rfl rfl ?_
      refine WL.quiet (d:=30) rfl rfl rfl (q_pickT rfl rfl) ?_
      exact WL.cutEnd () trivial (.cons rfl (.cons rfl (.cons rfl (.cons (zp (or_l zmn)) .nil)))) .nil
     ·have zmo:=hb'; clear hb'
      refine WL.pin (i:=27) rfl zmo ?_
      refine WL.quiet (d:=28) rfl rfl rfl (q_move rfl) ?_
      refine WL.quiet (d:=29) rfl rfl rfl (q_gtr rfl rfl) ?_
      refine WL.quiet (d:=30) rfl rfl rfl (q_pickF rfl rfl) ?_
      exact WL.cutEnd () trivial (.cons rfl (.cons rfl (.cons rfl (.cons (zp (or_r zmo)) .nil)))) .nil
    ·skip
     refine WL.nil ?_
     refine WX.then ?_
     refine WC.cond rfl (fun zhB=>?_) (fun zhB=>?_)
     ·replace h:=ite_t h zhB
      refine WC.seq ?_
      refine WC.region ?_
      refine WL.quiet (d:=6) rfl rfl rfl (q_assign rfl) ?_
      refine WL.quiet (d:=7) rfl rfl rfl (q_assign rfl) ?_
      refine WL.nil ?_
      refine WX.then ?_
      refine WC.ret ?_
      refine WX.thenRet ?_
      refine WX.nilRow 3 1 ?_
      obtain rfl:=Option.some.inj h
      refine WX.bpRet Try.results14 (.tmp rfl (.tmp rfl .nil)) (fun w hw=>?_)
      exact ⟨none,0,ret2 rfl rfl,trivial,hw.sub (.cons .here .nil)⟩
     ·replace h:=ite_f h zhB
      refine WC.skip ?_
      refine WX.then ?_
      refine WC.seq ?_
      refine WC.region ?_
      refine WL.quiet (d:=8) rfl rfl rfl (q_assign rfl) ?_
      refine WL.nil ?_
      refine WX.then ?_
      refine WC.seq ?_
      refine WC.region ?_
      refine WL.quiet (d:=9) rfl rfl rfl (q_assign rfl) ?_
      refine WL.nil ?_
      refine WX.then ?_
      obtain ⟨z91,zpU,h⟩:=jp1_elim h
      refine WC.seqMid3 (fun (z8s : List Int) (zcj : Option Addr) (zck : Nat)=>(z91 z8s = some r)) (fun (z8s : List Int) (zcj : Option Addr) (zck : Nat)=>[(8,(.slice zcj z8s.length zck))]) (fun (z8s : List Int) (zcj : Option Addr) (zck : Nat)=>[row (.slice zcj z8s.length zck) 3 1 (z8s.flatMap e3)]) ?_ ?_
      ·skip
       refine WC.seq ?_
       refine WC.region ?_
       refine WL.quiet (d:=31) rfl rfl rfl (q_move rfl) ?_
       refine WL.quiet (d:=32) rfl rfl rfl (q_len Try.underlying24 rfl) ?_
       refine WL.quiet (d:=33) rfl rfl rfl (q_move rfl) ?_
       refine WL.nil ?_
       refine WX.then ?_
       refine WC.block ?_
       refine WC.nilRow 3 1 ?_
       refine WC.loop6 (fun (zcl : Nat) (z5u : List Int) (z5V : Int) (z2C : Int) (zaX : Option Addr) (zaY : Nat)=>(m_calculus_Serve_L2 z20 z33 z2A z91 zcl z5u z5V z2C = some r)) (fun (zcl : Nat) (z5u : List Int) (z5V : Int) (z2C : Int) (zaX : Option Addr) (zaY : Nat)=>[(1,(.int .i64 z2A)),(2,(.int .i64 z33)),(8,(.slice zaX z5u.length zaY)),(9,(.int .i64 z5V)),(31,(.slice z7u z20.length z7v)),(32,(.int .i64 ((z20.length : Nat) : Int))),(33,(.int .i64 z2C))]) (fun (zcl : Nat) (z5u : List Int) (z5V : Int) (z2C : Int) (zaX : Option Addr) (zaY : Nat)=>[row (.slice zaX z5u.length zaY) 3 1 (z5u.flatMap e3)]) (fun (zcl : Nat) (z5u : List Int) (z5V : Int) (z2C : Int) (zaX : Option Addr) (zaY : Nat)=>zcl) ⟨FUEL,([] : List Int),0,0,none,0⟩ h (.cons rfl (.cons rfl (.cons rfl (.cons rfl (.cons rfl (.cons rfl (.cons rfl .nil))))))) (.cons .here .nil) ?_
       rintro zcl z5u z5V z2C zaX zaY h
       obtain ⟨zhA,rfl⟩:=m_calculus_Serve_L2_fuel h
       rw [m_calculus_Serve_L2] at h
       refine WC.seq ?_
       refine WC.region ?_
       refine WL.quiet (d:=34) rfl rfl rfl (q_lss rfl rfl) ?_
       refine WL.nil ?_
       refine WX.then ?_
       refine WC.seq ?_
       refine WC.cond rfl (fun zhC=>?_) (fun zhC=>?_)
       ·replace h:=ite_t h zhC
        refine WC.skip ?_
        refine WX.then ?_
        refine WC.seq ?_
        refine WC.block ?_
        refine WC.seq ?_
        obtain ⟨zpV,h⟩:=chk_elim h
        refine WC.region ?_
        refine WL.znth (dd:=35) rfl rfl (Z:=Z) (Pr:=(fun r x=>r = e51 x)) elT_24 rfl rfl zme zpV ?_
        rintro zx8 zx9 zpW zxa rfl
        refine WL.quiet (d:=36) rfl rfl rfl (q_loadA (cs:=[(.int .i64 ((nth z20 z2C).fTime)),(.int .i64 ((nth z20 z2C).fVL)),(.int .i64 ((nth z20 z2C).fSize))]) aggT_51 rfl rfl (rd_zs hz.pv zpW)) ?_
        refine WL.new (dd:=11) rfl rfl rfl (e_alloc (cs:=[(.int .i64 0),(.int .i64 0),(.int .i64 0)]) zeroT_51 rfl) ?_
        intro zxb _
        refine WL.eff0 rfl rfl (e_store (vs:=[(.int .i64 ((nth z20 z2C).fTime)),(.int .i64 ((nth z20 z2C).fVL)),(.int .i64 ((nth z20 z2C).fSize))]) (ds:=[(.int .i64 ((nth z20 z2C).fTime)),(.int .i64 ((nth z20 z2C).fVL)),(.int .i64 ((nth z20 z2C).fSize))]) sizT_51 rfl rfl rfl rfl (oc_cons rfl (oc_cons rfl (oc_cons rfl oc_nil))) .here (Nat.le_of_ble_eq_true rfl) rfl) ?_
        refine WL.nil ?_
        refine WX.then ?_
        refine WC.seq ?_
        refine WC.region ?_
        refine WL.quiet (d:=37) rfl rfl rfl (q_move rfl) ?_
        refine WL.quiet (d:=38) rfl rfl rfl (q_fieldAddr fo_51_0 rfl rfl) ?_
        refine WL.quiet (d:=39) rfl rfl rfl (q_load1 oneT_3 rfl (rd_stb .here rfl)) ?_
        refine WL.quiet (d:=40) rfl rfl rfl (q_move rfl) ?_
        refine WL.quiet (d:=41) rfl rfl rfl (q_add rfl rfl rfl) ?_
        refine WL.quiet (d:=42) rfl rfl rfl (q_max rfl rfl rfl) ?_
        refine WL.quiet (d:=43) rfl rfl rfl (q_fieldAddr fo_51_2 rfl rfl) ?_
        refine WL.quiet (d:=44) rfl rfl rfl (q_load1 oneT_3 rfl (rd_stb .here rfl)) ?_
        refine WL.quiet (d:=45) rfl rfl rfl (q_move rfl) ?_
        refine WL.quiet (d:=46) rfl rfl rfl (q_mul rfl rfl rfl) ?_
        refine WL.quiet (d:=47) rfl rfl rfl (q_add rfl rfl rfl) ?_
        refine WL.quiet (d:=9) rfl rfl rfl (q_assign rfl) ?_
        refine WL.nil ?_
        refine WX.then ?_
        obtain ⟨zpX,h⟩:=chk_elim h
        refine WC.region ?_
        refine WL.quiet (d:=48) rfl rfl rfl (q_move rfl) ?_
        refine WL.quiet (d:=49) rfl rfl rfl (q_move rfl) ?_
        refine WL.new (dd:=50) rfl rfl rfl (e_buildSlice (cs:=([i64 ((max z5V (i64 (((nth z20 z2C).fTime) + z33))) + (i64 (((nth z20 z2C).fSize) * z2A)))] : List Int).flatMap e3) elT_45 (Eos.parts (l:=[.tmp 49]) (.cons rfl .nil) [0]) (fun _=>by kernel_rfl) rfl (by unfold maxLen; omega)) ?_
        intro zxc _
        refine WL.eff (d:=51) rfl rfl rfl (e_appendF (enc:=e3) (l1:=z5u) (l2:=([i64 ((max z5V (i64 (((nth z20 z2C).fTime) + z33))) + (i64 (((nth z20 z2C).fSize) * z2A)))] : List Int)) elT_45 rfl rfl (.there (.there .here)) (fun _=>rfl) rfl rfl (news_row .here) (oc_flat e3_oc _) zpX) ?_
        rintro ⟨zpY,zpZ⟩ _
        refine WL.quiet (d:=8) rfl rfl rfl (q_assign rfl) ?_
        refine WL.nil ?_
        refine WX.blockNormal ?_
        refine WX.then ?_
        refine WC.region ?_
        refine WL.quiet (d:=52) rfl rfl rfl (q_add rfl rfl rfl) ?_
        refine WL.quiet (d:=33) rfl rfl rfl (q_move rfl) ?_
        refine WL.nil ?_
        exact WX.round (G:=Nat × List Int × Int × Int × Option Addr × Nat) ⟨zhA,(z5u ++ ([i64 ((max z5V (i64 (((nth z20 z2C).fTime) + z33))) + (i64 (((nth z20 z2C).fSize) * z2A)))] : List Int)),(i64 ((max z5V (i64 (((nth z20 z2C).fTime) + z33))) + (i64 (((nth z20 z2C).fSize) * z2A)))),(i64 (z2C + 1)),zpY,zpZ⟩ h (Nat.lt_succ_self _) (.cons rfl (.cons rfl (.cons rfl (.cons rfl (.cons rfl (.cons rfl (.cons rfl .nil))))))) (.cons .here .nil)
       ·replace h:=ite_f h zhC
        refine WC.exit ?_
        refine WX.thenExit ?_
        refine WX.thenExit ?_
        refine WX.blockHit ?_
        exact WX.mid (G:=List Int × Option Addr × Nat) ⟨z5u,zaX,zaY⟩ h (.cons rfl .nil) (.cons .here .nil)
      ·rintro z8s zcj zck h
       replace h:=(zpU z8s).symm.trans h
       refine WC.seq ?_
       refine WC.region ?_
       refine WL.quiet (d:=53) rfl rfl rfl (q_move rfl) ?_
       refine WL.quiet (d:=6) rfl rfl rfl (q_assign rfl) ?_
       refine WL.quiet (d:=7) rfl rfl rfl (q_assign rfl) ?_
       refine WL.nil ?_
       refine WX.then ?_
       refine WC.ret ?_
       obtain rfl:=Option.some.inj h
       refine WX.bpRet Try.results14 (.tmp rfl (.tmp rfl .nil)) (fun w hw=>?_)
       exact ⟨zcj,zck,ret2 rfl rfl,trivial,hw.sub (.cons .here .nil)⟩
def m_law03_num (z47 : Int) (z48 : Int) : Option z2 :=
 some (⟨z47,z48⟩ : z2)
set_option maxRecDepth 20000 in
theorem w_law03_num (Z : Zp)   (z47 : Int) (z48 : Int) (r : z2) (w₀ : World) (hz : PZ [] w₀ Z)
  (h : m_law03_num z47 z48 = some r) :
  Calls Try.prog 11 #[(.int .i64 z47),(.int .i64 z48)] w₀ fun e w'=>e = .returned (.agg #[(.int .i64 r.fN),(.int .i64 r.fD)]) ∧ Hp [] w₀ w' []:=by
 unfold m_law03_num at h
 refine Calls.ofWC (vs:=[(.int .i64 z47),(.int .i64 z48)]) (pre:=[]) (env:=[(0,(.int .i64 z47)),(1,(.int .i64 z48))]) Try.func11 rfl Try.ntmps11 rfl (Hp.nil w₀ _) rfl ?_
 refine WC.seq ?_
 refine WC.region ?_
 refine WL.new (dd:=4) rfl rfl rfl (e_alloc (cs:=[(.int .i64 0),(.int .i64 0)]) zeroT_30 rfl) ?_
 intro zxd _
 refine WL.nil ?_
 refine WX.then ?_
 refine WC.seq ?_
 refine WC.region ?_
 refine WL.quiet (d:=5) rfl rfl rfl (q_move rfl) ?_
 refine WL.quiet (d:=6) rfl rfl rfl (q_move rfl) ?_
 refine WL.quiet (d:=7) rfl rfl rfl (q_build (v:=(.agg #[(.int .i64 z47),(.int .i64 z48)])) (Eos.parts (l:=[.tmp 5,.tmp 6]) (.cons rfl (.cons rfl .nil)) [0,1]) (fun _=>by kernel_rfl)) ?_
 refine WL.eff0 rfl rfl (e_store (vs:=[(.int .i64 z47),(.int .i64 z48)]) (ds:=[(.int .i64 z47),(.int .i64 z48)]) sizT_30 rfl rfl rfl rfl (oc_cons rfl (oc_cons rfl oc_nil)) .here (Nat.le_of_ble_eq_true rfl) rfl) ?_
 refine WL.nil ?_
 refine WX.then ?_
 refine WC.ret ?_
 obtain rfl:=Option.some.inj h
 refine WX.bpRet Try.results11 (.agg rfl aggT_30 rfl (rd_all .here) .nil) (fun w hw=>?_)
 exact ⟨ret1 rfl,hw.sub .nil⟩
def m_law03_bucket (z49 : z2) (z4a : z2) : Option z1 :=
 some (⟨z49,z4a⟩ : z1)
set_option maxRecDepth 20000 in
theorem w_law03_bucket (Z : Zp)   (z49 : z2) (z4a : z2) (r : z1) (w₀ : World) (hz : PZ [] w₀ Z)
  (h : m_law03_bucket z49 z4a = some r) :
  Calls Try.prog 10 #[(.agg #[(.int .i64 z49.fN),(.int .i64 z49.fD)]),(.agg #[(.int .i64 z4a.fN),(.int .i64 z4a.fD)])] w₀ fun e w'=>e = .returned (.agg #[(.int .i64 r.fBurst.fN),(.int .i64 r.fBurst.fD),(.int .i64 r.fRate.fN),(.int .i64 r.fRate.fD)]) ∧ Hp [] w₀ w' []:=by
 unfold m_law03_bucket at h
 refine Calls.ofWC (vs:=[(.agg #[(.int .i64 z49.fN),(.int .i64 z49.fD)]),(.agg #[(.int .i64 z4a.fN),(.int .i64 z4a.fD)])]) (pre:=[]) (env:=[(0,(.agg #[(.int .i64 z49.fN),(.int .i64 z49.fD)])),(1,(.agg #[(.int .i64 z4a.fN),(.int .i64 z4a.fD)]))]) Try.func10 rfl Try.ntmps10 rfl (Hp.nil w₀ _) rfl ?_
 refine WC.seq ?_
 refine WC.region ?_
 refine WL.new (dd:=2) rfl rfl rfl (e_box (cs:=[(.int .i64 z49.fN),(.int .i64 z49.fD)]) rfl rfl) ?_
 intro zxe _
 refine WL.new (dd:=3) rfl rfl rfl (e_box (cs:=[(.int .i64 z4a.fN),(.int .i64 z4a.fD)]) rfl rfl) ?_
 intro zxf _
 refine WL.new (dd:=4) rfl rfl rfl (e_alloc (cs:=[(.int .i64 0),(.int .i64 0),(.int .i64 0),(.int .i64 0)]) zeroT_35 rfl) ?_
 intro zxg _
 refine WL.nil ?_
 refine WX.then ?_
 refine WC.seq ?_
 refine WC.region ?_
 refine WL.quiet (d:=5) rfl rfl rfl (q_loadA (cs:=[(.int .i64 z49.fN),(.int .i64 z49.fD)]) aggT_30 rfl rfl (rd_all (.there (.there .here)))) ?_
 refine WL.quiet (d:=6) rfl rfl rfl (q_loadA (cs:=[(.int .i64 z4a.fN),(.int .i64 z4a.fD)]) aggT_30 rfl rfl (rd_all (.there .here))) ?_
 refine WL.quiet (d:=7) rfl rfl rfl (q_build (v:=(.agg #[(.int .i64 z49.fN),(.int .i64 z49.fD),(.int .i64 z4a.fN),(.int .i64 z4a.fD)])) (Eos.parts (l:=[.tmp 5,.tmp 6]) (.cons rfl (.cons rfl .nil)) [0,1]) (fun _=>by kernel_rfl)) ?_
 refine WL.eff0 rfl rfl (e_store (vs:=[(.int .i64 z49.fN),(.int .i64 z49.fD),(.int .i64 z4a.fN),(.int .i64 z4a.fD)]) (ds:=[(.int .i64 z49.fN),(.int .i64 z49.fD),(.int .i64 z4a.fN),(.int .i64 z4a.fD)]) sizT_35 rfl rfl rfl rfl (oc_cons rfl (oc_cons rfl (oc_cons rfl (oc_cons rfl oc_nil)))) .here (Nat.le_of_ble_eq_true rfl) rfl) ?_
 refine WL.nil ?_
 refine WX.then ?_
 refine WC.ret ?_
 obtain rfl:=Option.some.inj h
 refine WX.bpRet Try.results10 (.agg rfl aggT_35 rfl (rd_all .here) .nil) (fun w hw=>?_)
 exact ⟨ret1 rfl,hw.sub .nil⟩
def m_rat_size (z7w : Int) : Option Int :=
 if decide (z7w < 0) then some (u64 ((u64 (i64 (0 - (i64 (z7w + 1))))) + 1)) else some (u64 z7w)
set_option maxRecDepth 20000 in
theorem w_rat_size (Z : Zp)   (z7w : Int) (r : Int) (w₀ : World) (hz : PZ [] w₀ Z)
  (h : m_rat_size z7w = some r) :
  Calls Try.prog 28 #[(.int .i64 z7w)] w₀ fun e w'=>e = .returned (.int .u64 r) ∧ Hp [] w₀ w' []:=by
 unfold m_rat_size at h
 refine Calls.ofWC (vs:=[(.int .i64 z7w)]) (pre:=[]) (env:=[(0,(.int .i64 z7w))]) Try.func28 rfl Try.ntmps28 rfl (Hp.nil w₀ _) rfl ?_
 refine WC.seq ?_
 refine WC.region ?_
 refine WL.quiet (d:=2) rfl rfl rfl (q_assign rfl) ?_
 refine WL.nil ?_
 refine WX.then ?_
 refine WC.seq ?_
 refine WC.seq ?_
 refine WC.region ?_
 refine WL.quiet (d:=3) rfl rfl rfl (q_move rfl) ?_
 refine WL.quiet (d:=4) rfl rfl rfl (q_lss rfl rfl) ?_
 refine WL.nil ?_
 refine WX.then ?_
 refine WC.cond rfl (fun zhD=>?_) (fun zhD=>?_)
 ·replace h:=ite_t h zhD
  refine WC.seq ?_
  refine WC.region ?_
  refine WL.quiet (d:=5) rfl rfl rfl (q_move rfl) ?_
  refine WL.quiet (d:=6) rfl rfl rfl (q_add rfl rfl rfl) ?_
  refine WL.quiet (d:=7) rfl rfl rfl (q_neg rfl rfl) ?_
  refine WL.quiet (d:=8) rfl rfl rfl (q_conv Try.underlying3 Try.underlying71 rfl rfl) ?_
  refine WL.quiet (d:=9) rfl rfl rfl (q_add rfl rfl rfl) ?_
  refine WL.quiet (d:=2) rfl rfl rfl (q_assign rfl) ?_
  refine WL.nil ?_
  refine WX.then ?_
  refine WC.ret ?_
  refine WX.thenRet ?_
  obtain rfl:=Option.some.inj h
  refine WX.bpRet Try.results28 (.tmp rfl .nil) (fun w hw=>?_)
  exact ⟨ret1 rfl,hw.sub .nil⟩
 ·replace h:=ite_f h zhD
  refine WC.skip ?_
  refine WX.then ?_
  refine WC.seq ?_
  refine WC.region ?_
  refine WL.quiet (d:=10) rfl rfl rfl (q_move rfl) ?_
  refine WL.quiet (d:=11) rfl rfl rfl (q_conv Try.underlying3 Try.underlying71 rfl rfl) ?_
  refine WL.quiet (d:=2) rfl rfl rfl (q_assign rfl) ?_
  refine WL.nil ?_
  refine WX.then ?_
  refine WC.ret ?_
  obtain rfl:=Option.some.inj h
  refine WX.bpRet Try.results28 (.tmp rfl .nil) (fun w hw=>?_)
  exact ⟨ret1 rfl,hw.sub .nil⟩
def m_rat_gcd_uint64_L2 (z92 : Int → Option Int) : Nat → Int → Int → Option Int
 | 0,_,_=>none
 | zhE + 1,z7c,z6z=>if decide (z6z ≠ 0) then chk ((z6z : Int) ≠ 0) (m_rat_gcd_uint64_L2 z92 zhE z6z (Int.tmod z7c z6z)) else z92 z7c
theorem m_rat_gcd_uint64_L2_fuel {n : Nat} {z92 : Int → Option Int} {z7c : Int} {z6z : Int} {r : Int} (h : m_rat_gcd_uint64_L2 z92 n z7c z6z = some r) : ∃ m,n = m + 1:=by
 cases n with
 | zero=>cases h
 | succ m=>exact ⟨m,rfl⟩
def m_rat_gcd_uint64 (z93 : Int) (z94 : Int) : Option Int :=
 jp1 (fun (zaa : Int)=>some zaa) fun z92=>m_rat_gcd_uint64_L2 z92 FUEL z93 z94
set_option maxRecDepth 20000 in
theorem w_rat_gcd_uint64 (Z : Zp)   (z93 : Int) (z94 : Int) (r : Int) (w₀ : World) (hz : PZ [] w₀ Z)
  (h : m_rat_gcd_uint64 z93 z94 = some r) :
  Calls Try.prog 29 #[(.int .u64 z93),(.int .u64 z94)] w₀ fun e w'=>e = .returned (.int .u64 r) ∧ Hp [] w₀ w' []:=by
 unfold m_rat_gcd_uint64 at h
 refine Calls.ofWC (vs:=[(.int .u64 z93),(.int .u64 z94)]) (pre:=[]) (env:=[(0,(.int .u64 z93)),(1,(.int .u64 z94))]) Try.func29 rfl Try.ntmps29 rfl (Hp.nil w₀ _) rfl ?_
 refine WC.seq ?_
 refine WC.region ?_
 refine WL.quiet (d:=4) rfl rfl rfl (q_assign rfl) ?_
 refine WL.nil ?_
 refine WX.then ?_
 obtain ⟨z92,zq0,h⟩:=jp1_elim h
 refine WC.seqMid1 (fun (zaa : Int)=>(z92 zaa = some r)) (fun (zaa : Int)=>[(0,(.int .u64 zaa))]) (fun (zaa : Int)=>[]) ?_ ?_
 ·skip
  refine WC.block ?_
  refine WC.loop3 (fun (zcm : Nat) (z7c : Int) (z6z : Int)=>(m_rat_gcd_uint64_L2 z92 zcm z7c z6z = some r)) (fun (zcm : Nat) (z7c : Int) (z6z : Int)=>[(0,(.int .u64 z7c)),(1,(.int .u64 z6z))]) (fun (zcm : Nat) (z7c : Int) (z6z : Int)=>[]) (fun (zcm : Nat) (z7c : Int) (z6z : Int)=>zcm) ⟨FUEL,z93,z94⟩ h (.cons rfl (.cons rfl .nil)) .nil ?_
  rintro zcm z7c z6z h
  obtain ⟨zhE,rfl⟩:=m_rat_gcd_uint64_L2_fuel h
  rw [m_rat_gcd_uint64_L2] at h
  refine WC.seq ?_
  refine WC.seq ?_
  refine WC.region ?_
  refine WL.quiet (d:=5) rfl rfl rfl (q_move rfl) ?_
  refine WL.quiet (d:=6) rfl rfl rfl (q_neq rfl rfl) ?_
  refine WL.nil ?_
  refine WX.then ?_
  refine WC.cond rfl (fun zhF=>?_) (fun zhF=>?_)
  ·replace h:=ite_t h zhF
   refine WC.skip ?_
   refine WX.then ?_
   refine WC.block ?_
   obtain ⟨zq1,h⟩:=chk_elim h
   refine WC.draw (fun i=>[].contains i) [] rfl ?_
   refine WD.pure (i:=0) (d:=7) (by kernel_rfl) rfl (z6 (by kernel_rfl)) (z7 (by kernel_rfl)) rfl rfl rfl (fun _=>q_move rfl) ?_
   refine WD.pure (i:=1) (d:=8) (by kernel_rfl) rfl (z6 (by kernel_rfl)) (z7 (by kernel_rfl)) rfl rfl rfl (fun _=>q_move rfl) ?_
   refine WD.pure (i:=2) (d:=9) (by kernel_rfl) rfl (z6 (by kernel_rfl)) (z7 (by kernel_rfl)) rfl rfl rfl (fun _=>q_move rfl) ?_
   refine WD.pure (i:=3) (d:=10) (by kernel_rfl) rfl (z6 (by kernel_rfl)) (z7 (by kernel_rfl)) rfl rfl rfl (fun _=>q_rem rfl rfl zq1 rfl) ?_
   refine WD.pure (i:=4) (d:=0) (by kernel_rfl) rfl (z6 (by kernel_rfl)) (z7 (by kernel_rfl)) rfl rfl rfl (fun _=>q_assign rfl) ?_
   refine WD.pure (i:=5) (d:=1) (by kernel_rfl) rfl (z6 (by kernel_rfl)) (z7 (by kernel_rfl)) rfl rfl rfl (fun _=>q_assign rfl) ?_
   refine WD.done (by kernel_rfl) ?_
   refine WX.blockNormal ?_
   exact WX.round (G:=Nat × Int × Int) ⟨zhE,z6z,(Int.tmod z7c z6z)⟩ h (Nat.lt_succ_self _) (.cons rfl (.cons rfl .nil)) .nil
  ·replace h:=ite_f h zhF
   refine WC.exit ?_
   refine WX.thenExit ?_
   refine WX.thenExit ?_
   refine WX.blockHit ?_
   exact WX.mid (G:=Int) z7c h (.cons rfl .nil) .nil
 ·rintro zaa h
  replace h:=(zq0 zaa).symm.trans h
  refine WC.seq ?_
  refine WC.region ?_
  refine WL.quiet (d:=11) rfl rfl rfl (q_move rfl) ?_
  refine WL.quiet (d:=4) rfl rfl rfl (q_assign rfl) ?_
  refine WL.nil ?_
  refine WX.then ?_
  refine WC.ret ?_
  obtain rfl:=Option.some.inj h
  refine WX.bpRet Try.results29 (.tmp rfl .nil) (fun w hw=>?_)
  exact ⟨ret1 rfl,hw.sub .nil⟩
def m_rat_Valid (z16 : z2) : Option Bool :=
 (if (((decide (z16.fD ≥ 1)) && (decide (z16.fD ≤ 1073741824))) && (decide (z16.fN ≥ (-1073741824)))) && (decide (z16.fN ≤ 1073741824)) then (m_rat_size z16.fN).bind fun zft=>(m_rat_size z16.fD).bind fun zfu=>(m_rat_gcd_uint64 zft zfu).bind fun zhG=>some (decide (zhG = 1)) else some false).bind fun zhH=>some zhH
set_option maxRecDepth 20000 in
theorem w_rat_Valid (Z : Zp)   (z16 : z2) (r : Bool) (w₀ : World) (hz : PZ [] w₀ Z)
  (h : m_rat_Valid z16 = some r) :
  Calls Try.prog 39 #[(.agg #[(.int .i64 z16.fN),(.int .i64 z16.fD)])] w₀ fun e w'=>e = .returned (.bool r) ∧ Hp [] w₀ w' []:=by
 unfold m_rat_Valid at h
 refine Calls.ofWC (vs:=[(.agg #[(.int .i64 z16.fN),(.int .i64 z16.fD)])]) (pre:=[]) (env:=[(0,(.agg #[(.int .i64 z16.fN),(.int .i64 z16.fD)]))]) Try.func39 rfl Try.ntmps39 rfl (Hp.nil w₀ _) rfl ?_
 refine WC.seq ?_
 refine WC.region ?_
 refine WL.new (dd:=1) rfl rfl rfl (e_box (cs:=[(.int .i64 z16.fN),(.int .i64 z16.fD)]) rfl rfl) ?_
 intro z95 _
 refine WL.quiet (d:=2) rfl rfl rfl (q_assign rfl) ?_
 refine WL.nil ?_
 refine WX.then ?_
 refine WC.seq ?_
 obtain ⟨zhH,zmp,h⟩:=ze h
 refine WC.draw (fun i=>[].contains i) [] rfl ?_
 refine WD.pure (i:=0) (d:=3) (by kernel_rfl) rfl (z6 (by kernel_rfl)) (z7 (by kernel_rfl)) rfl rfl rfl (fun _=>q_fieldAddr fo_30_1 rfl rfl) ?_
 refine WD.quiet (i:=1) (d:=4) (by kernel_rfl) rfl (z6 (by kernel_rfl)) (z7 (by kernel_rfl)) rfl rfl rfl (q_load1 oneT_3 rfl (rd_stb .here rfl)) ?_
 refine WD.pure (i:=2) (d:=5) (by kernel_rfl) rfl (z6 (by kernel_rfl)) (z7 (by kernel_rfl)) rfl rfl rfl (fun _=>q_geq rfl rfl) ?_
 refine WD.pure (i:=3) (d:=6) (by kernel_rfl) rfl (z6 (by kernel_rfl)) (z7 (by kernel_rfl)) rfl rfl rfl (fun _=>q_move rfl) ?_
 refine WD.mid (fuel':=21) [(1,(.pointer (some ⟨z95,0,none⟩))),(2,(.bool false)),(6,(.bool (decide (z16.fD ≥ 1)))),(10,(.bool ((decide (z16.fD ≥ 1)) && (decide (z16.fD ≤ 1073741824)))))] (listedA 29 [7,6,5,4,3,2,1,0]) ?_ (fun zmq=>?_)
 rotate_left
 ·rcases Bool.eq_false_or_eq_true (decide (z16.fD ≥ 1)) with hb' | hb'
  ·have zhI:=hb'; clear hb'
   refine WD.pin (i:=6) rfl zhI ?_
   refine WD.pure (i:=4) (d:=7) (by kernel_rfl) rfl (z6 (by kernel_rfl)) (z7 (by kernel_rfl)) rfl rfl rfl (fun _=>q_fieldAddr fo_30_1 rfl rfl) ?_
   refine WD.quiet (i:=5) (d:=8) (by kernel_rfl) rfl (z6 (by kernel_rfl)) (z7 (by kernel_rfl)) rfl rfl rfl (q_load1 oneT_3 rfl (rd_stb .here rfl)) ?_
   refine WD.pure (i:=6) (d:=9) (by kernel_rfl) rfl (z6 (by kernel_rfl)) (z7 (by kernel_rfl)) rfl rfl rfl (fun _=>q_leq rfl rfl) ?_
   refine WD.pure (i:=7) (d:=10) (by kernel_rfl) rfl (z6 (by kernel_rfl)) (z7 (by kernel_rfl)) rfl rfl rfl (fun _=>q_pickT rfl rfl) ?_
   refine WD.reL (.cons .here .nil) ?_ zmq
   exact (.cons rfl (.cons rfl (.cons (zp (Eq.symm zhI)) (.cons (zp (and_r zhI)) .nil))))
  ·have zhJ:=hb'; clear hb'
   refine WD.pin (i:=6) rfl zhJ ?_
   refine WD.skip (i:=4) (d:=7) (by kernel_rfl) rfl (z6 (by kernel_rfl)) (z7 (by kernel_rfl)) rfl rfl rfl ?_
   refine WD.skip (i:=5) (d:=8) (by kernel_rfl) rfl (z6 (by kernel_rfl)) (z7 (by kernel_rfl)) rfl rfl rfl ?_
   refine WD.skip (i:=6) (d:=9) (by kernel_rfl) rfl (z6 (by kernel_rfl)) (z7 (by kernel_rfl)) rfl rfl rfl ?_
   refine WD.pure (i:=7) (d:=10) (by kernel_rfl) rfl (z6 (by kernel_rfl)) (z7 (by kernel_rfl)) rfl rfl rfl (fun _=>q_pickF rfl rfl) ?_
   refine WD.reL (.cons .here .nil) ?_ zmq
   exact (.cons rfl (.cons rfl (.cons (zp (Eq.symm zhJ)) (.cons (zp (and_l zhJ)) .nil))))
 refine WD.relist #[true,true,true,true,true,true,true,true,false,false,false,false,false,false,false,false,false,false,false,false,false,false,false,false,false,false,false,false,false] (by kernel_rfl) ?_
 refine WD.pure (i:=8) (d:=11) (by kernel_rfl) rfl (z6 (by kernel_rfl)) (z7 (by kernel_rfl)) rfl rfl rfl (fun _=>q_move rfl) ?_
 refine WD.mid (fuel':=16) [(1,(.pointer (some ⟨z95,0,none⟩))),(2,(.bool false)),(11,(.bool ((decide (z16.fD ≥ 1)) && (decide (z16.fD ≤ 1073741824))))),(15,(.bool (((decide (z16.fD ≥ 1)) && (decide (z16.fD ≤ 1073741824))) && (decide (z16.fN ≥ (-1073741824))))))] (listedA 29 [12,11,10,9,8,7,6,5,4,3,2,1,0]) ?_ (fun zmr=>?_)
 rotate_left
 ·rcases Bool.eq_false_or_eq_true ((decide (z16.fD ≥ 1)) && (decide (z16.fD ≤ 1073741824))) with hb' | hb'
  ·have zhK:=hb'; clear hb'
   refine WD.pin (i:=11) rfl zhK ?_
   refine WD.pure (i:=9) (d:=12) (by kernel_rfl) rfl (z6 (by kernel_rfl)) (z7 (by kernel_rfl)) rfl rfl rfl (fun _=>q_fieldAddr fo_30_0 rfl rfl) ?_
   refine WD.quiet (i:=10) (d:=13) (by kernel_rfl) rfl (z6 (by kernel_rfl)) (z7 (by kernel_rfl)) rfl rfl rfl (q_load1 oneT_3 rfl (rd_stb .here rfl)) ?_
   refine WD.pure (i:=11) (d:=14) (by kernel_rfl) rfl (z6 (by kernel_rfl)) (z7 (by kernel_rfl)) rfl rfl rfl (fun _=>q_geq rfl rfl) ?_
   refine WD.pure (i:=12) (d:=15) (by kernel_rfl) rfl (z6 (by kernel_rfl)) (z7 (by kernel_rfl)) rfl rfl rfl (fun _=>q_pickT rfl rfl) ?_
   refine WD.reL (.cons .here .nil) ?_ zmr
   exact (.cons rfl (.cons rfl (.cons (zp (Eq.symm zhK)) (.cons (zp (and_r zhK)) .nil))))
  ·have zhL:=hb'; clear hb'
   refine WD.pin (i:=11) rfl zhL ?_
   refine WD.skip (i:=9) (d:=12) (by kernel_rfl) rfl (z6 (by kernel_rfl)) (z7 (by kernel_rfl)) rfl rfl rfl ?_
   refine WD.skip (i:=10) (d:=13) (by kernel_rfl) rfl (z6 (by kernel_rfl)) (z7 (by kernel_rfl)) rfl rfl rfl ?_
   refine WD.skip (i:=11) (d:=14) (by kernel_rfl) rfl (z6 (by kernel_rfl)) (z7 (by kernel_rfl)) rfl rfl rfl ?_
   refine WD.pure (i:=12) (d:=15) (by kernel_rfl) rfl (z6 (by kernel_rfl)) (z7 (by kernel_rfl)) rfl rfl rfl (fun _=>q_pickF rfl rfl) ?_
   refine WD.reL (.cons .here .nil) ?_ zmr
   exact (.cons rfl (.cons rfl (.cons (zp (Eq.symm zhL)) (.cons (zp (and_l zhL)) .nil))))
 refine WD.relist #[true,true,true,true,true,true,true,true,true,true,true,true,true,false,false,false,false,false,false,false,false,false,false,false,false,false,false,false,false] (by kernel_rfl) ?_
 refine WD.pure (i:=13) (d:=16) (by kernel_rfl) rfl (z6 (by kernel_rfl)) (z7 (by kernel_rfl)) rfl rfl rfl (fun _=>q_move rfl) ?_
 refine WD.mid (fuel':=11) [(1,(.pointer (some ⟨z95,0,none⟩))),(2,(.bool false)),(16,(.bool (((decide (z16.fD ≥ 1)) && (decide (z16.fD ≤ 1073741824))) && (decide (z16.fN ≥ (-1073741824)))))),(20,(.bool ((((decide (z16.fD ≥ 1)) && (decide (z16.fD ≤ 1073741824))) && (decide (z16.fN ≥ (-1073741824)))) && (decide (z16.fN ≤ 1073741824)))))] (listedA 29 [17,16,15,14,13,12,11,10,9,8,7,6,5,4,3,2,1,0]) ?_ (fun zms=>?_)
 rotate_left
 ·rcases Bool.eq_false_or_eq_true (((decide (z16.fD ≥ 1)) && (decide (z16.fD ≤ 1073741824))) && (decide (z16.fN ≥ (-1073741824)))) with hb' | hb'
  ·have zhM:=hb'; clear hb'
   refine WD.pin (i:=16) rfl zhM ?_
   refine WD.pure (i:=14) (d:=17) (by kernel_rfl) rfl (z6 (by kernel_rfl)) (z7 (by kernel_rfl)) rfl rfl rfl (fun _=>q_fieldAddr fo_30_0 rfl rfl) ?_
   refine WD.quiet (i:=15) (d:=18) (by kernel_rfl) rfl (z6 (by kernel_rfl)) (z7 (by kernel_rfl)) rfl rfl rfl (q_load1 oneT_3 rfl (rd_stb .here rfl)) ?_
   refine WD.pure (i:=16) (d:=19) (by kernel_rfl) rfl (z6 (by kernel_rfl)) (z7 (by kernel_rfl)) rfl rfl rfl (fun _=>q_leq rfl rfl) ?_
   refine WD.pure (i:=17) (d:=20) (by kernel_rfl) rfl (z6 (by kernel_rfl)) (z7 (by kernel_rfl)) rfl rfl rfl (fun _=>q_pickT rfl rfl) ?_
   refine WD.reL (.cons .here .nil) ?_ zms
   exact (.cons rfl (.cons rfl (.cons (zp (Eq.symm zhM)) (.cons (zp (and_r zhM)) .nil))))
  ·have zhN:=hb'; clear hb'
   refine WD.pin (i:=16) rfl zhN ?_
   refine WD.skip (i:=14) (d:=17) (by kernel_rfl) rfl (z6 (by kernel_rfl)) (z7 (by kernel_rfl)) rfl rfl rfl ?_
   refine WD.skip (i:=15) (d:=18) (by kernel_rfl) rfl (z6 (by kernel_rfl)) (z7 (by kernel_rfl)) rfl rfl rfl ?_
   refine WD.skip (i:=16) (d:=19) (by kernel_rfl) rfl (z6 (by kernel_rfl)) (z7 (by kernel_rfl)) rfl rfl rfl ?_
   refine WD.pure (i:=17) (d:=20) (by kernel_rfl) rfl (z6 (by kernel_rfl)) (z7 (by kernel_rfl)) rfl rfl rfl (fun _=>q_pickF rfl rfl) ?_
   refine WD.reL (.cons .here .nil) ?_ zms
   exact (.cons rfl (.cons rfl (.cons (zp (Eq.symm zhN)) (.cons (zp (and_l zhN)) .nil))))
 refine WD.relist #[true,true,true,true,true,true,true,true,true,true,true,true,true,true,true,true,true,true,false,false,false,false,false,false,false,false,false,false,false] (by kernel_rfl) ?_
 refine WD.pure (i:=18) (d:=21) (by kernel_rfl) rfl (z6 (by kernel_rfl)) (z7 (by kernel_rfl)) rfl rfl rfl (fun _=>q_move rfl) ?_
 refine WD.mid (fuel':=1) [(2,(.bool false)),(21,(.bool ((((decide (z16.fD ≥ 1)) && (decide (z16.fD ≤ 1073741824))) && (decide (z16.fN ≥ (-1073741824)))) && (decide (z16.fN ≤ 1073741824))))),(30,(.bool zhH))] (listedA 29 [27,26,25,24,23,22,21,20,19,18,17,16,15,14,13,12,11,10,9,8,7,6,5,4,3,2,1,0]) ?_ (fun zmt=>?_)
 rotate_left
 ·rcases Bool.eq_false_or_eq_true ((((decide (z16.fD ≥ 1)) && (decide (z16.fD ≤ 1073741824))) && (decide (z16.fN ≥ (-1073741824)))) && (decide (z16.fN ≤ 1073741824))) with hb' | hb'
  ·have zhO:=hb'; clear hb'
   have z96:=ite_t zmp zhO
   obtain ⟨zft,zq2,z96⟩:=ze z96
   obtain ⟨zfu,zq3,z96⟩:=ze z96
   obtain ⟨zhG,zq4,z96⟩:=ze z96
   replace z96:=Option.some.inj z96
   refine WD.pin (i:=21) rfl zhO ?_
   refine WD.pure (i:=19) (d:=22) (by kernel_rfl) rfl (z6 (by kernel_rfl)) (z7 (by kernel_rfl)) rfl rfl rfl (fun _=>q_fieldAddr fo_30_0 rfl rfl) ?_
   refine WD.quiet (i:=20) (d:=23) (by kernel_rfl) rfl (z6 (by kernel_rfl)) (z7 (by kernel_rfl)) rfl rfl rfl (q_load1 oneT_3 rfl (rd_stb .here rfl)) ?_
   refine WD.enter (i:=21) (d:=24) (by kernel_rfl) rfl (z6 (by kernel_rfl)) (z7 (by kernel_rfl)) rfl rfl rfl (zn (l:=[.tmp 23]) Try.call28 (.cons rfl .nil)) (fun w hw=>by have pz:=(hz.call hw (.nil : Sel [stb z95 30 [(.int .i64 z16.fN),(.int .i64 z16.fD)]] [] [stb z95 30 [(.int .i64 z16.fN),(.int .i64 z16.fD)]])); exact w_rat_size (Z:=_)  (z7w:=z16.fN) (r:=zft) w pz  zq2) ?_
   refine WD.pure (i:=22) (d:=25) (by kernel_rfl) rfl (z6 (by kernel_rfl)) (z7 (by kernel_rfl)) rfl rfl rfl (fun _=>q_fieldAddr fo_30_1 rfl rfl) ?_
   refine WD.quiet (i:=23) (d:=26) (by kernel_rfl) rfl (z6 (by kernel_rfl)) (z7 (by kernel_rfl)) rfl rfl rfl (q_load1 oneT_3 rfl (rd_stb .here rfl)) ?_
   refine WD.enter (i:=24) (d:=27) (by kernel_rfl) rfl (z6 (by kernel_rfl)) (z7 (by kernel_rfl)) rfl rfl rfl (zn (l:=[.tmp 26]) Try.call28 (.cons rfl .nil)) (fun w hw=>by have pz:=(hz.call hw (.nil : Sel [stb z95 30 [(.int .i64 z16.fN),(.int .i64 z16.fD)]] [] [stb z95 30 [(.int .i64 z16.fN),(.int .i64 z16.fD)]])); exact w_rat_size (Z:=_)  (z7w:=z16.fD) (r:=zfu) w pz  zq3) ?_
   refine WD.enter (i:=25) (d:=28) (by kernel_rfl) rfl (z6 (by kernel_rfl)) (z7 (by kernel_rfl)) rfl rfl rfl (zn (l:=[.tmp 24,.tmp 27]) Try.call29 (.cons rfl (.cons rfl .nil))) (fun w hw=>by have pz:=(hz.call hw (.nil : Sel [stb z95 30 [(.int .i64 z16.fN),(.int .i64 z16.fD)]] [] [stb z95 30 [(.int .i64 z16.fN),(.int .i64 z16.fD)]])); exact w_rat_gcd_uint64 (Z:=_)  (z93:=zft) (z94:=zfu) (r:=zhG) w pz  zq4) ?_
   refine WD.pure (i:=26) (d:=29) (by kernel_rfl) rfl (z6 (by kernel_rfl)) (z7 (by kernel_rfl)) rfl rfl rfl (fun _=>q_eql rfl rfl) ?_
   refine WD.pure (i:=27) (d:=30) (by kernel_rfl) rfl (z6 (by kernel_rfl)) (z7 (by kernel_rfl)) rfl rfl rfl (fun _=>q_pickT rfl rfl) ?_
   refine WD.reL (.cons .here .nil) ?_ zmt
   exact (.cons rfl (.cons (zp (Eq.symm zhO)) (.cons (zp z96) .nil)))
  ·have zhP:=hb'; clear hb'
   have zhQ:=ite_f zmp zhP
   replace zhQ:=Option.some.inj zhQ
   refine WD.pin (i:=21) rfl zhP ?_
   refine WD.skip (i:=19) (d:=22) (by kernel_rfl) rfl (z6 (by kernel_rfl)) (z7 (by kernel_rfl)) rfl rfl rfl ?_
   refine WD.skip (i:=20) (d:=23) (by kernel_rfl) rfl (z6 (by kernel_rfl)) (z7 (by kernel_rfl)) rfl rfl rfl ?_
   refine WD.skip (i:=21) (d:=24) (by kernel_rfl) rfl (z6 (by kernel_rfl)) (z7 (by kernel_rfl)) rfl rfl rfl ?_
   refine WD.skip (i:=22) (d:=25) (by kernel_rfl) rfl (z6 (by kernel_rfl)) (z7 (by kernel_rfl)) rfl rfl rfl ?_
   refine WD.skip (i:=23) (d:=26) (by kernel_rfl) rfl (z6 (by kernel_rfl)) (z7 (by kernel_rfl)) rfl rfl rfl ?_
   refine WD.skip (i:=24) (d:=27) (by kernel_rfl) rfl (z6 (by kernel_rfl)) (z7 (by kernel_rfl)) rfl rfl rfl ?_
   refine WD.skip (i:=25) (d:=28) (by kernel_rfl) rfl (z6 (by kernel_rfl)) (z7 (by kernel_rfl)) rfl rfl rfl ?_
   refine WD.skip (i:=26) (d:=29) (by kernel_rfl) rfl (z6 (by kernel_rfl)) (z7 (by kernel_rfl)) rfl rfl rfl ?_
   refine WD.pure (i:=27) (d:=30) (by kernel_rfl) rfl (z6 (by kernel_rfl)) (z7 (by kernel_rfl)) rfl rfl rfl (fun _=>q_pickF rfl rfl) ?_
   refine WD.reL (.cons .here .nil) ?_ zmt
   exact (.cons rfl (.cons (zp (Eq.symm zhP)) (.cons (zp zhQ) .nil)))
 refine WD.relist #[true,true,true,true,true,true,true,true,true,true,true,true,true,true,true,true,true,true,true,true,true,true,true,true,true,true,true,true,false] (by kernel_rfl) ?_
 refine WD.pure (i:=28) (d:=2) (by kernel_rfl) rfl (z6 (by kernel_rfl)) (z7 (by kernel_rfl)) rfl rfl rfl (fun _=>q_assign rfl) ?_
 refine WD.done (by kernel_rfl) ?_
 refine WX.then ?_
 refine WC.ret ?_
 obtain rfl:=Option.some.inj h
 refine WX.bpRet Try.results39 (.tmp rfl .nil) (fun w hw=>?_)
 exact ⟨ret1 rfl,hw.sub .nil⟩
def m_curve_good (z3j : z2) : Option Bool :=
 (m_rat_Valid z3j).bind fun zdM=>some (zdM && (decide (z3j.fN ≥ 0)))
set_option maxRecDepth 20000 in
theorem w_curve_good (Z : Zp)   (z3j : z2) (r : Bool) (w₀ : World) (hz : PZ [] w₀ Z)
  (h : m_curve_good z3j = some r) :
  Calls Try.prog 44 #[(.agg #[(.int .i64 z3j.fN),(.int .i64 z3j.fD)])] w₀ fun e w'=>e = .returned (.bool r) ∧ Hp [] w₀ w' []:=by
 unfold m_curve_good at h
 refine Calls.ofWC (vs:=[(.agg #[(.int .i64 z3j.fN),(.int .i64 z3j.fD)])]) (pre:=[]) (env:=[(0,(.agg #[(.int .i64 z3j.fN),(.int .i64 z3j.fD)]))]) Try.func44 rfl Try.ntmps44 rfl (Hp.nil w₀ _) rfl ?_
 refine WC.seq ?_
 refine WC.region ?_
 refine WL.new (dd:=1) rfl rfl rfl (e_box (cs:=[(.int .i64 z3j.fN),(.int .i64 z3j.fD)]) rfl rfl) ?_
 intro zdN _
 refine WL.quiet (d:=2) rfl rfl rfl (q_assign rfl) ?_
 refine WL.nil ?_
 refine WX.then ?_
 refine WC.seq ?_
 obtain ⟨zdM,zq5,h⟩:=ze h
 refine WC.region ?_
 refine WL.quiet (d:=3) rfl rfl rfl (q_loadA (cs:=[(.int .i64 z3j.fN),(.int .i64 z3j.fD)]) aggT_30 rfl rfl (rd_all .here)) ?_
 refine WL.callD (dd:=4) rfl rfl rfl (zn (l:=[.tmp 3]) Try.call39 (.cons rfl .nil)) (.nil : Sel [stb zdN 30 [(.int .i64 z3j.fN),(.int .i64 z3j.fD)]] [] [stb zdN 30 [(.int .i64 z3j.fN),(.int .i64 z3j.fD)]]) (fun w hw=>by have pz:=(hz.call hw (.nil : Sel [stb zdN 30 [(.int .i64 z3j.fN),(.int .i64 z3j.fD)]] [] [stb zdN 30 [(.int .i64 z3j.fN),(.int .i64 z3j.fD)]])); exact w_rat_Valid (Z:=_)  (z16:=z3j) (r:=zdM) w pz  zq5) ?_
 refine WL.quiet (d:=5) rfl rfl rfl (q_move rfl) ?_
 refine WL.cut0 True [(2,(.bool false)),(9,(.bool (zdM && (decide (z3j.fN ≥ 0)))))] [stb zdN 30 [(.int .i64 z3j.fN),(.int .i64 z3j.fD)]] 4 ?_ (fun _=>?_)
 ·rcases Bool.eq_false_or_eq_true zdM with hb' | hb'
  ·have zmu:=hb'; clear hb'
   refine WL.pin (i:=5) rfl zmu ?_
   refine WL.quiet (d:=6) rfl rfl rfl (q_fieldAddr fo_30_0 rfl rfl) ?_
   refine WL.quiet (d:=7) rfl rfl rfl (q_load1 oneT_3 rfl (rd_stb .here rfl)) ?_
   refine WL.quiet (d:=8) rfl rfl rfl (q_geq rfl rfl) ?_
   refine WL.quiet (d:=9) rfl rfl rfl (q_pickT rfl rfl) ?_
   exact WL.cutEnd () trivial (.cons rfl (.cons (zp (and_r zmu)) .nil)) (.cons .here .nil)
  ·have zmv:=hb'; clear hb'
   refine WL.pin (i:=5) rfl zmv ?_
   refine WL.skip rfl rfl rfl ?_
   refine WL.skip rfl rfl rfl ?_
   refine WL.skip rfl rfl rfl ?_
   refine WL.quiet (d:=9) rfl rfl rfl (q_pickF rfl rfl) ?_
   exact WL.cutEnd () trivial (.cons rfl (.cons (zp (and_l zmv)) .nil)) (.cons .here .nil)
 ·skip
  refine WL.quiet (d:=2) rfl rfl rfl (q_assign rfl) ?_
  refine WL.nil ?_
  refine WX.then ?_
  refine WC.ret ?_
  obtain rfl:=Option.some.inj h
  refine WX.bpRet Try.results44 (.tmp rfl .nil) (fun w hw=>?_)
  exact ⟨ret1 rfl,hw.sub .nil⟩
def m_curve_Valid_1 (z1A : z1) : Option Bool :=
 (m_curve_good z1A.fBurst).bind fun zfv=>(if !zfv then some true else (m_curve_good z1A.fRate).bind fun zhR=>some (!zhR)).bind fun zhS=>some zhS
set_option maxRecDepth 20000 in
theorem w_curve_Valid_1 (Z : Zp)   (z1A : z1) (r : Bool) (w₀ : World) (hz : PZ [] w₀ Z)
  (h : m_curve_Valid_1 z1A = some r) :
  Calls Try.prog 50 #[(.agg #[(.int .i64 z1A.fBurst.fN),(.int .i64 z1A.fBurst.fD),(.int .i64 z1A.fRate.fN),(.int .i64 z1A.fRate.fD)])] w₀ fun e w'=>e = .returned (.bool r) ∧ Hp [] w₀ w' []:=by
 unfold m_curve_Valid_1 at h
 refine Calls.ofWC (vs:=[(.agg #[(.int .i64 z1A.fBurst.fN),(.int .i64 z1A.fBurst.fD),(.int .i64 z1A.fRate.fN),(.int .i64 z1A.fRate.fD)])]) (pre:=[]) (env:=[(0,(.agg #[(.int .i64 z1A.fBurst.fN),(.int .i64 z1A.fBurst.fD),(.int .i64 z1A.fRate.fN),(.int .i64 z1A.fRate.fD)]))]) Try.func50 rfl Try.ntmps50 rfl (Hp.nil w₀ _) rfl ?_
 refine WC.seq ?_
 refine WC.region ?_
 refine WL.new (dd:=1) rfl rfl rfl (e_box (cs:=[(.int .i64 z1A.fBurst.fN),(.int .i64 z1A.fBurst.fD),(.int .i64 z1A.fRate.fN),(.int .i64 z1A.fRate.fD)]) rfl rfl) ?_
 intro z97 _
 refine WL.quiet (d:=2) rfl rfl rfl (q_assign rfl) ?_
 refine WL.nil ?_
 refine WX.then ?_
 refine WC.seq ?_
 obtain ⟨zfv,zq6,h⟩:=ze h
 obtain ⟨zhS,zmw,h⟩:=ze h
 refine WC.region ?_
 refine WL.quiet (d:=3) rfl rfl rfl (q_fieldAddr fo_35_0 rfl rfl) ?_
 refine WL.quiet (d:=4) rfl rfl rfl (q_loadA (cs:=[(.int .i64 z1A.fBurst.fN),(.int .i64 z1A.fBurst.fD)]) aggT_30 rfl rfl (rd_sub (s:=2) .here rfl)) ?_
 refine WL.callD (dd:=5) rfl rfl rfl (zn (l:=[.tmp 4]) Try.call44 (.cons rfl .nil)) (.nil : Sel [stb z97 35 [(.int .i64 z1A.fBurst.fN),(.int .i64 z1A.fBurst.fD),(.int .i64 z1A.fRate.fN),(.int .i64 z1A.fRate.fD)]] [] [stb z97 35 [(.int .i64 z1A.fBurst.fN),(.int .i64 z1A.fBurst.fD),(.int .i64 z1A.fRate.fN),(.int .i64 z1A.fRate.fD)]]) (fun w hw=>by have pz:=(hz.call hw (.nil : Sel [stb z97 35 [(.int .i64 z1A.fBurst.fN),(.int .i64 z1A.fBurst.fD),(.int .i64 z1A.fRate.fN),(.int .i64 z1A.fRate.fD)]] [] [stb z97 35 [(.int .i64 z1A.fBurst.fN),(.int .i64 z1A.fBurst.fD),(.int .i64 z1A.fRate.fN),(.int .i64 z1A.fRate.fD)]])); exact w_curve_good (Z:=_)  (z3j:=z1A.fBurst) (r:=zfv) w pz  zq6) ?_
 refine WL.quiet (d:=6) rfl rfl rfl (q_not rfl) ?_
 refine WL.quiet (d:=7) rfl rfl rfl (q_move rfl) ?_
 refine WL.cut0 True [(2,(.bool false)),(12,(.bool zhS))] [stb z97 35 [(.int .i64 z1A.fBurst.fN),(.int .i64 z1A.fBurst.fD),(.int .i64 z1A.fRate.fN),(.int .i64 z1A.fRate.fD)]] 5 ?_ (fun _=>?_)
 ·rcases Bool.eq_false_or_eq_true (!zfv) with hb' | hb'
  ·have zmx:=hb'; clear hb'
   have zhT:=ite_t zmw zmx
   replace zhT:=Option.some.inj zhT
   refine WL.pin (i:=7) rfl zmx ?_
   refine WL.skip rfl rfl rfl ?_
   refine WL.skip rfl rfl rfl ?_
   refine WL.skip rfl rfl rfl ?_
   refine WL.skip rfl rfl rfl ?_
   refine WL.quiet (d:=12) rfl rfl rfl (q_pickT rfl rfl) ?_
   exact WL.cutEnd () trivial (.cons rfl (.cons (zp zhT) .nil)) (.cons .here .nil)
  ·have zmy:=hb'; clear hb'
   have zdO:=ite_f zmw zmy
   obtain ⟨zhR,zq7,zdO⟩:=ze zdO
   replace zdO:=Option.some.inj zdO
   refine WL.pin (i:=7) rfl zmy ?_
   refine WL.quiet (d:=8) rfl rfl rfl (q_fieldAddr fo_35_1 rfl rfl) ?_
   refine WL.quiet (d:=9) rfl rfl rfl (q_loadA (cs:=[(.int .i64 z1A.fRate.fN),(.int .i64 z1A.fRate.fD)]) aggT_30 rfl rfl (rd_sub (s:=2) .here rfl)) ?_
   refine WL.callD (dd:=10) rfl rfl rfl (zn (l:=[.tmp 9]) Try.call44 (.cons rfl .nil)) (.nil : Sel [stb z97 35 [(.int .i64 z1A.fBurst.fN),(.int .i64 z1A.fBurst.fD),(.int .i64 z1A.fRate.fN),(.int .i64 z1A.fRate.fD)]] [] [stb z97 35 [(.int .i64 z1A.fBurst.fN),(.int .i64 z1A.fBurst.fD),(.int .i64 z1A.fRate.fN),(.int .i64 z1A.fRate.fD)]]) (fun w hw=>by have pz:=(hz.call hw (.nil : Sel [stb z97 35 [(.int .i64 z1A.fBurst.fN),(.int .i64 z1A.fBurst.fD),(.int .i64 z1A.fRate.fN),(.int .i64 z1A.fRate.fD)]] [] [stb z97 35 [(.int .i64 z1A.fBurst.fN),(.int .i64 z1A.fBurst.fD),(.int .i64 z1A.fRate.fN),(.int .i64 z1A.fRate.fD)]])); exact w_curve_good (Z:=_)  (z3j:=z1A.fRate) (r:=zhR) w pz  zq7) ?_
   refine WL.quiet (d:=11) rfl rfl rfl (q_not rfl) ?_
   refine WL.quiet (d:=12) rfl rfl rfl (q_pickF rfl rfl) ?_
   exact WL.cutEnd () trivial (.cons rfl (.cons (zp zdO) .nil)) (.cons .here .nil)
 ·skip
  refine WL.quiet (d:=2) rfl rfl rfl (q_assign rfl) ?_
  refine WL.nil ?_
  refine WX.then ?_
  refine WC.ret ?_
  obtain rfl:=Option.some.inj h
  refine WX.bpRet Try.results50 (.tmp rfl .nil) (fun w hw=>?_)
  exact ⟨ret1 rfl,hw.sub .nil⟩
def m_slices_IndexFunc_api_Curve_api_Bucket_L2 (z3k : List z1) (z81 : z1 → Option Bool) (z98 : Option Int) : Nat → Int → Option Int
 | 0,_=>none
 | zhU + 1,z3A=>if decide (z3A < ((z3k.length : Nat) : Int)) then chk ((0 : Int) ≤ z3A ∧ z3A < ((z3k.length : Nat) : Int)) ((z81 (⟨(⟨(((nth z3k z3A).fBurst).fN),(((nth z3k z3A).fBurst).fD)⟩ : z2),(⟨(((nth z3k z3A).fRate).fN),(((nth z3k z3A).fRate).fD)⟩ : z2)⟩ : z1)).bind fun zhV=>if zhV then some z3A else m_slices_IndexFunc_api_Curve_api_Bucket_L2 z3k z81 z98 zhU (i64 (z3A + 1))) else z98
theorem m_slices_IndexFunc_api_Curve_api_Bucket_L2_fuel {n : Nat} {z3k : List z1} {z81 : z1 → Option Bool} {z98 : Option Int} {z3A : Int} {r : Int} (h : m_slices_IndexFunc_api_Curve_api_Bucket_L2 z3k z81 z98 n z3A = some r) : ∃ m,n = m + 1:=by
 cases n with
 | zero=>cases h
 | succ m=>exact ⟨m,rfl⟩
def m_slices_IndexFunc_api_Curve_api_Bucket (z3k : List z1) (z81 : z1 → Option Bool) : Option Int :=
 jp0 (some (-1)) fun z98=>m_slices_IndexFunc_api_Curve_api_Bucket_L2 z3k z81 z98 FUEL 0
set_option maxRecDepth 20000 in
theorem w_slices_IndexFunc_api_Curve_api_Bucket (Z : Zp)  (zcn : Option Addr) (zco : Nat) (z99 : FuncId) (zaZ : List Value) (z3k : List z1) (z81 : z1 → Option Bool) (r : Int) (w₀ : World) (hz : PZ [] w₀ Z)
  (zq8 : ZS Z 4 (fun r x=>r = e35 x) zcn zco z3k)
  (zq9 : ∀ args w,(callFunc z99 args).run Try.prog w = .ok (.enter z99 args) w)
  (zqa : ∀ w : World,PZ [] w Z → ∀ (x0 : z1) (r : Bool),z81 x0 = some r → Calls Try.prog z99 (([(.agg #[(.int .i64 x0.fBurst.fN),(.int .i64 x0.fBurst.fD),(.int .i64 x0.fRate.fN),(.int .i64 x0.fRate.fD)])] : List Value) ++ zaZ).toArray w fun e w'=>e = .returned (.bool r) ∧ Hp [] w w' [])
  (h : m_slices_IndexFunc_api_Curve_api_Bucket z3k z81 = some r) :
  Calls Try.prog 64 #[(.slice zcn z3k.length zco),(.func (.func z99) #[] (zaZ).toArray)] w₀ fun e w'=>e = .returned (.int .i64 r) ∧ Hp [] w₀ w' []:=by
 unfold m_slices_IndexFunc_api_Curve_api_Bucket at h
 refine Calls.ofWC (vs:=[(.slice zcn z3k.length zco),(.func (.func z99) #[] (zaZ).toArray)]) (pre:=[]) (env:=[(0,(.slice zcn z3k.length zco)),(1,(.func (.func z99) #[] (zaZ).toArray))]) Try.func64 rfl Try.ntmps64 rfl (Hp.nil w₀ _) rfl ?_
 refine WC.seq ?_
 refine WC.region ?_
 refine WL.quiet (d:=4) rfl rfl rfl (q_assign rfl) ?_
 refine WL.nil ?_
 refine WX.then ?_
 obtain ⟨z98,zqb,h⟩:=jp0_elim h
 refine WC.seqMid0 ((z98 = some r)) ([]) ([]) ?_ ?_
 ·skip
  refine WC.seq ?_
  refine WC.region ?_
  refine WL.quiet (d:=6) rfl rfl rfl (q_move rfl) ?_
  refine WL.quiet (d:=7) rfl rfl rfl (q_len Try.underlying39 rfl) ?_
  refine WL.quiet (d:=8) rfl rfl rfl (q_move rfl) ?_
  refine WL.nil ?_
  refine WX.then ?_
  refine WC.block ?_
  refine WC.loop2 (fun (zcp : Nat) (z3A : Int)=>(m_slices_IndexFunc_api_Curve_api_Bucket_L2 z3k z81 z98 zcp z3A = some r)) (fun (zcp : Nat) (z3A : Int)=>[(0,(.slice zcn z3k.length zco)),(1,(.func (.func z99) #[] (zaZ).toArray)),(7,(.int .i64 ((z3k.length : Nat) : Int))),(8,(.int .i64 z3A))]) (fun (zcp : Nat) (z3A : Int)=>[]) (fun (zcp : Nat) (z3A : Int)=>zcp) ⟨FUEL,0⟩ h (.cons rfl (.cons rfl (.cons rfl (.cons rfl .nil)))) .nil ?_
  rintro zcp z3A h
  obtain ⟨zhU,rfl⟩:=m_slices_IndexFunc_api_Curve_api_Bucket_L2_fuel h
  rw [m_slices_IndexFunc_api_Curve_api_Bucket_L2] at h
  refine WC.seq ?_
  refine WC.region ?_
  refine WL.quiet (d:=9) rfl rfl rfl (q_lss rfl rfl) ?_
  refine WL.nil ?_
  refine WX.then ?_
  refine WC.seq ?_
  refine WC.cond rfl (fun zhW=>?_) (fun zhW=>?_)
  ·replace h:=ite_t h zhW
   refine WC.skip ?_
   refine WX.then ?_
   refine WC.seq ?_
   refine WC.block ?_
   refine WC.seq ?_
   refine WC.region ?_
   refine WL.quiet (d:=10) rfl rfl rfl (q_move rfl) ?_
   refine WL.quiet (d:=5) rfl rfl rfl (q_assign rfl) ?_
   refine WL.nil ?_
   refine WX.then ?_
   refine WC.seq ?_
   obtain ⟨zqc,h⟩:=chk_elim h
   obtain ⟨zhV,zqd,h⟩:=ze h
   refine WC.region ?_
   refine WL.quiet (d:=11) rfl rfl rfl (q_move rfl) ?_
   refine WL.quiet (d:=12) rfl rfl rfl (q_move rfl) ?_
   refine WL.quiet (d:=13) rfl rfl rfl (q_move rfl) ?_
   refine WL.znth (dd:=14) rfl rfl (Z:=Z) (Pr:=(fun r x=>r = e35 x)) elT_39 rfl rfl zq8 zqc ?_
   rintro zxh zxi zqe zxj rfl
   refine WL.quiet (d:=15) rfl rfl rfl (q_loadA (cs:=[(.int .i64 (((nth z3k z3A).fBurst).fN)),(.int .i64 (((nth z3k z3A).fBurst).fD)),(.int .i64 (((nth z3k z3A).fRate).fN)),(.int .i64 (((nth z3k z3A).fRate).fD))]) aggT_35 rfl rfl (rd_zs hz.pv zqe)) ?_
   refine WL.callD (dd:=16) rfl rfl rfl (run_callv (l:=[.tmp 15]) (f:=z99) (caps:=zaZ) zq9 rfl (.cons rfl .nil)) .nil (fun w hw=>zqa w (hz.now hw) (⟨(⟨(((nth z3k z3A).fBurst).fN),(((nth z3k z3A).fBurst).fD)⟩ : z2),(⟨(((nth z3k z3A).fRate).fN),(((nth z3k z3A).fRate).fD)⟩ : z2)⟩ : z1) zhV  zqd) ?_
   refine WL.nil ?_
   refine WX.then ?_
   refine WC.cond rfl (fun zhX=>?_) (fun zhX=>?_)
   ·replace h:=ite_t h zhX
    refine WC.seq ?_
    refine WC.region ?_
    refine WL.quiet (d:=17) rfl rfl rfl (q_move rfl) ?_
    refine WL.quiet (d:=4) rfl rfl rfl (q_assign rfl) ?_
    refine WL.nil ?_
    refine WX.then ?_
    refine WC.ret ?_
    refine WX.blockRet ?_
    refine WX.thenRet ?_
    refine WX.thenRet ?_
    refine WX.blockRet ?_
    refine WX.thenRet ?_
    obtain rfl:=Option.some.inj h
    refine WX.bpRet Try.results64 (.tmp rfl .nil) (fun w hw=>?_)
    exact ⟨ret1 rfl,hw.sub .nil⟩
   ·replace h:=ite_f h zhX
    refine WC.skip ?_
    refine WX.blockNormal ?_
    refine WX.then ?_
    refine WC.region ?_
    refine WL.quiet (d:=18) rfl rfl rfl (q_add rfl rfl rfl) ?_
    refine WL.quiet (d:=8) rfl rfl rfl (q_move rfl) ?_
    refine WL.nil ?_
    exact WX.round (G:=Nat × Int) ⟨zhU,(i64 (z3A + 1))⟩ h (Nat.lt_succ_self _) (.cons rfl (.cons rfl (.cons rfl (.cons rfl .nil)))) .nil
  ·replace h:=ite_f h zhW
   refine WC.exit ?_
   refine WX.thenExit ?_
   refine WX.thenExit ?_
   refine WX.blockHit ?_
   exact WX.mid (G:=Unit) () h .nil .nil
 ·rintro  h
  replace h:=zqb.symm.trans h
  refine WC.seq ?_
  refine WC.region ?_
  refine WL.quiet (d:=4) rfl rfl rfl (q_assign rfl) ?_
  refine WL.nil ?_
  refine WX.then ?_
  refine WC.ret ?_
  obtain rfl:=Option.some.inj h
  refine WX.bpRet Try.results64 (.tmp rfl .nil) (fun w hw=>?_)
  exact ⟨ret1 rfl,hw.sub .nil⟩
def m_slices_ContainsFunc_api_Curve_api_Bucket (z8t : List z1) (zb0 : z1 → Option Bool) : Option Bool :=
 (m_slices_IndexFunc_api_Curve_api_Bucket z8t zb0).bind fun zhY=>some (decide (zhY ≥ 0))
set_option maxRecDepth 20000 in
theorem w_slices_ContainsFunc_api_Curve_api_Bucket (Z : Zp)  (zb1 : Option Addr) (zb2 : Nat) (z9a : FuncId) (zb3 : List Value) (z8t : List z1) (zb0 : z1 → Option Bool) (r : Bool) (w₀ : World) (hz : PZ [] w₀ Z)
  (zqf : ZS Z 4 (fun r x=>r = e35 x) zb1 zb2 z8t)
  (zqg : ∀ args w,(callFunc z9a args).run Try.prog w = .ok (.enter z9a args) w)
  (zqh : ∀ w : World,PZ [] w Z → ∀ (x0 : z1) (r : Bool),zb0 x0 = some r → Calls Try.prog z9a (([(.agg #[(.int .i64 x0.fBurst.fN),(.int .i64 x0.fBurst.fD),(.int .i64 x0.fRate.fN),(.int .i64 x0.fRate.fD)])] : List Value) ++ zb3).toArray w fun e w'=>e = .returned (.bool r) ∧ Hp [] w w' [])
  (h : m_slices_ContainsFunc_api_Curve_api_Bucket z8t zb0 = some r) :
  Calls Try.prog 49 #[(.slice zb1 z8t.length zb2),(.func (.func z9a) #[] (zb3).toArray)] w₀ fun e w'=>e = .returned (.bool r) ∧ Hp [] w₀ w' []:=by
 unfold m_slices_ContainsFunc_api_Curve_api_Bucket at h
 refine Calls.ofWC (vs:=[(.slice zb1 z8t.length zb2),(.func (.func z9a) #[] (zb3).toArray)]) (pre:=[]) (env:=[(0,(.slice zb1 z8t.length zb2)),(1,(.func (.func z9a) #[] (zb3).toArray))]) Try.func49 rfl Try.ntmps49 rfl (Hp.nil w₀ _) rfl ?_
 refine WC.seq ?_
 refine WC.region ?_
 refine WL.quiet (d:=4) rfl rfl rfl (q_assign rfl) ?_
 refine WL.nil ?_
 refine WX.then ?_
 refine WC.seq ?_
 obtain ⟨zhY,zqi,h⟩:=ze h
 refine WC.region ?_
 refine WL.quiet (d:=5) rfl rfl rfl (q_move rfl) ?_
 refine WL.quiet (d:=6) rfl rfl rfl (q_move rfl) ?_
 refine WL.callD (dd:=7) rfl rfl rfl (zn (l:=[.tmp 5,.tmp 6]) Try.call64 (.cons rfl (.cons rfl .nil))) (.nil : Sel [] [] []) (fun w hw=>by have pz:=(hz.call hw (.nil : Sel [] [] [])); exact w_slices_IndexFunc_api_Curve_api_Bucket (Z:=_) (zcn:=zb1) (zco:=zb2) (z99:=z9a) (zaZ:=zb3) (z3k:=z8t) (z81:=zb0) (r:=zhY) w pz zqf zqg zqh zqi) ?_
 refine WL.quiet (d:=8) rfl rfl rfl (q_geq rfl rfl) ?_
 refine WL.quiet (d:=4) rfl rfl rfl (q_assign rfl) ?_
 refine WL.nil ?_
 refine WX.then ?_
 refine WC.ret ?_
 obtain rfl:=Option.some.inj h
 refine WX.bpRet Try.results49 (.tmp rfl .nil) (fun w hw=>?_)
 exact ⟨ret1 rfl,hw.sub .nil⟩
def m_curve_Valid (z4P : List z1) : Option Bool :=
 (if (decide (((z4P.length : Nat) : Int) ≥ 1)) && (decide (((z4P.length : Nat) : Int) ≤ 32)) then (m_slices_ContainsFunc_api_Curve_api_Bucket z4P (fun (y0 : z1)=>m_curve_Valid_1 y0)).bind fun zhZ=>some (!zhZ) else some false).bind fun zi0=>some zi0
set_option maxRecDepth 20000 in
theorem w_curve_Valid (Z : Zp)  (z82 : Option Addr) (z83 : Nat) (z4P : List z1) (r : Bool) (w₀ : World) (hz : PZ [] w₀ Z)
  (zqj : ZS Z 4 (fun r x=>r = e35 x) z82 z83 z4P)
  (h : m_curve_Valid z4P = some r) :
  Calls Try.prog 30 #[(.slice z82 z4P.length z83)] w₀ fun e w'=>e = .returned (.bool r) ∧ Hp [] w₀ w' []:=by
 unfold m_curve_Valid at h
 refine Calls.ofWC (vs:=[(.slice z82 z4P.length z83)]) (pre:=[]) (env:=[(0,(.slice z82 z4P.length z83))]) Try.func30 rfl Try.ntmps30 rfl (Hp.nil w₀ _) rfl ?_
 refine WC.seq ?_
 refine WC.region ?_
 refine WL.quiet (d:=2) rfl rfl rfl (q_assign rfl) ?_
 refine WL.nil ?_
 refine WX.then ?_
 refine WC.seq ?_
 obtain ⟨zi0,zmz,h⟩:=ze h
 refine WC.region ?_
 refine WL.quiet (d:=3) rfl rfl rfl (q_move rfl) ?_
 refine WL.quiet (d:=4) rfl rfl rfl (q_len Try.underlying39 rfl) ?_
 refine WL.quiet (d:=5) rfl rfl rfl (q_geq rfl rfl) ?_
 refine WL.quiet (d:=6) rfl rfl rfl (q_move rfl) ?_
 refine WL.cut0 True [(0,(.slice z82 z4P.length z83)),(2,(.bool false)),(10,(.bool ((decide (((z4P.length : Nat) : Int) ≥ 1)) && (decide (((z4P.length : Nat) : Int) ≤ 32)))))] [] 4 ?_ (fun _=>?_)
 ·rcases Bool.eq_false_or_eq_true (decide (((z4P.length : Nat) : Int) ≥ 1)) with hb' | hb'
  ·have zmA:=hb'; clear hb'
   refine WL.pin (i:=6) rfl zmA ?_
   refine WL.quiet (d:=7) rfl rfl rfl (q_move rfl) ?_
   refine WL.quiet (d:=8) rfl rfl rfl (q_len Try.underlying39 rfl) ?_
   refine WL.quiet (d:=9) rfl rfl rfl (q_leq rfl rfl) ?_
   refine WL.quiet (d:=10) rfl rfl rfl (q_pickT rfl rfl) ?_
   exact WL.cutEnd () trivial (.cons rfl (.cons rfl (.cons (zp (and_r zmA)) .nil))) .nil
  ·have zmB:=hb'; clear hb'
   refine WL.pin (i:=6) rfl zmB ?_
   refine WL.skip rfl rfl rfl ?_
   refine WL.skip rfl rfl rfl ?_
   refine WL.skip rfl rfl rfl ?_
   refine WL.quiet (d:=10) rfl rfl rfl (q_pickF rfl rfl) ?_
   exact WL.cutEnd () trivial (.cons rfl (.cons rfl (.cons (zp (and_l zmB)) .nil))) .nil
 ·skip
  refine WL.quiet (d:=11) rfl rfl rfl (q_move rfl) ?_
  refine WL.cut0 True [(2,(.bool false)),(15,(.bool zi0))] [] 4 ?_ (fun _=>?_)
  ·rcases Bool.eq_false_or_eq_true ((decide (((z4P.length : Nat) : Int) ≥ 1)) && (decide (((z4P.length : Nat) : Int) ≤ 32))) with hb' | hb'
   ·have zmC:=hb'; clear hb'
    have zdP:=ite_t zmz zmC
    obtain ⟨zhZ,zqk,zdP⟩:=ze zdP
    replace zdP:=Option.some.inj zdP
    refine WL.pin (i:=11) rfl zmC ?_
    refine WL.quiet (d:=12) rfl rfl rfl (q_move rfl) ?_
    refine WL.callD (dd:=13) rfl rfl rfl (zn (l:=[.tmp 12,.func 50]) Try.call49 (.cons rfl (.cons rfl .nil))) (.nil : Sel [] [] []) (fun w hw=>by have pz:=(hz.call hw (.nil : Sel [] [] [])); exact w_slices_ContainsFunc_api_Curve_api_Bucket (Z:=_) (zb1:=z82) (zb2:=z83) (z9a:=50) (zb3:=[]) (z8t:=z4P) (zb0:=(fun (y0 : z1)=>m_curve_Valid_1 y0)) (r:=zhZ) w pz zqj Try.call50 (fun w' hz' y0  r  hr=>w_curve_Valid_1 (Z:=_)  (z1A:=y0) (r:=r) w' hz'  hr) zqk) ?_
    refine WL.quiet (d:=14) rfl rfl rfl (q_not rfl) ?_
    refine WL.quiet (d:=15) rfl rfl rfl (q_pickT rfl rfl) ?_
    exact WL.cutEnd () trivial (.cons rfl (.cons (zp zdP) .nil)) .nil
   ·have zmD:=hb'; clear hb'
    have zi1:=ite_f zmz zmD
    replace zi1:=Option.some.inj zi1
    refine WL.pin (i:=11) rfl zmD ?_
    refine WL.skip rfl rfl rfl ?_
    refine WL.skip rfl rfl rfl ?_
    refine WL.skip rfl rfl rfl ?_
    refine WL.quiet (d:=15) rfl rfl rfl (q_pickF rfl rfl) ?_
    exact WL.cutEnd () trivial (.cons rfl (.cons (zp zi1) .nil)) .nil
  ·skip
   refine WL.quiet (d:=2) rfl rfl rfl (q_assign rfl) ?_
   refine WL.nil ?_
   refine WX.then ?_
   refine WC.ret ?_
   obtain rfl:=Option.some.inj h
   refine WX.bpRet Try.results30 (.tmp rfl .nil) (fun w hw=>?_)
   exact ⟨ret1 rfl,hw.sub .nil⟩
def m_calculus_search_check_1 (z8u : List z1) : Option Bool :=
 (m_curve_Valid z8u).bind fun zi2=>some (!zi2)
set_option maxRecDepth 20000 in
theorem w_calculus_search_check_1 (Z : Zp)  (zb4 : Option Addr) (zb5 : Nat) (z8u : List z1) (r : Bool) (w₀ : World) (hz : PZ [] w₀ Z)
  (zql : ZS Z 4 (fun r x=>r = e35 x) zb4 zb5 z8u)
  (h : m_calculus_search_check_1 z8u = some r) :
  Calls Try.prog 67 #[(.slice zb4 z8u.length zb5)] w₀ fun e w'=>e = .returned (.bool r) ∧ Hp [] w₀ w' []:=by
 unfold m_calculus_search_check_1 at h
 refine Calls.ofWC (vs:=[(.slice zb4 z8u.length zb5)]) (pre:=[]) (env:=[(0,(.slice zb4 z8u.length zb5))]) Try.func67 rfl Try.ntmps67 rfl (Hp.nil w₀ _) rfl ?_
 refine WC.seq ?_
 refine WC.region ?_
 refine WL.quiet (d:=2) rfl rfl rfl (q_assign rfl) ?_
 refine WL.nil ?_
 refine WX.then ?_
 refine WC.seq ?_
 obtain ⟨zi2,zqm,h⟩:=ze h
 refine WC.region ?_
 refine WL.quiet (d:=3) rfl rfl rfl (q_move rfl) ?_
 refine WL.callD (dd:=4) rfl rfl rfl (zn (l:=[.tmp 3]) Try.call30 (.cons rfl .nil)) (.nil : Sel [] [] []) (fun w hw=>by have pz:=(hz.call hw (.nil : Sel [] [] [])); exact w_curve_Valid (Z:=_) (z82:=zb4) (z83:=zb5) (z4P:=z8u) (r:=zi2) w pz zql zqm) ?_
 refine WL.quiet (d:=5) rfl rfl rfl (q_not rfl) ?_
 refine WL.quiet (d:=2) rfl rfl rfl (q_assign rfl) ?_
 refine WL.nil ?_
 refine WX.then ?_
 refine WC.ret ?_
 obtain rfl:=Option.some.inj h
 refine WX.bpRet Try.results67 (.tmp rfl .nil) (fun w hw=>?_)
 exact ⟨ret1 rfl,hw.sub .nil⟩
def m_slices_IndexFunc_api_Curve_api_Curve_L2 (z59 : List (List z1)) (z84 : (List z1) → Option Bool) (z9b : Option Int) : Nat → Int → Option Int
 | 0,_=>none
 | zi3 + 1,z5W=>if decide (z5W < ((z59.length : Nat) : Int)) then chk ((0 : Int) ≤ z5W ∧ z5W < ((z59.length : Nat) : Int)) ((z84 (nth z59 z5W)).bind fun zi4=>if zi4 then some z5W else m_slices_IndexFunc_api_Curve_api_Curve_L2 z59 z84 z9b zi3 (i64 (z5W + 1))) else z9b
theorem m_slices_IndexFunc_api_Curve_api_Curve_L2_fuel {n : Nat} {z59 : List (List z1)} {z84 : (List z1) → Option Bool} {z9b : Option Int} {z5W : Int} {r : Int} (h : m_slices_IndexFunc_api_Curve_api_Curve_L2 z59 z84 z9b n z5W = some r) : ∃ m,n = m + 1:=by
 cases n with
 | zero=>cases h
 | succ m=>exact ⟨m,rfl⟩
def m_slices_IndexFunc_api_Curve_api_Curve (z59 : List (List z1)) (z84 : (List z1) → Option Bool) : Option Int :=
 jp0 (some (-1)) fun z9b=>m_slices_IndexFunc_api_Curve_api_Curve_L2 z59 z84 z9b FUEL 0
set_option maxRecDepth 20000 in
theorem w_slices_IndexFunc_api_Curve_api_Curve (Z : Zp)  (zcq : Option Addr) (zcr : Nat) (z9c : FuncId) (zb6 : List Value) (z59 : List (List z1)) (z84 : (List z1) → Option Bool) (r : Int) (w₀ : World) (hz : PZ [] w₀ Z)
  (zqn : ZS Z 1 (p39 Z) zcq zcr z59)
  (zqo : ∀ args w,(callFunc z9c args).run Try.prog w = .ok (.enter z9c args) w)
  (zqp : ∀ w : World,PZ [] w Z → ∀ (x0 : List z1) (ao0 : Option Addr) (cap0 : Nat) (r : Bool),ZS Z 4 (fun r x=>r = e35 x) ao0 cap0 x0 → z84 x0 = some r → Calls Try.prog z9c (([(.slice ao0 x0.length cap0)] : List Value) ++ zb6).toArray w fun e w'=>e = .returned (.bool r) ∧ Hp [] w w' [])
  (h : m_slices_IndexFunc_api_Curve_api_Curve z59 z84 = some r) :
  Calls Try.prog 75 #[(.slice zcq z59.length zcr),(.func (.func z9c) #[] (zb6).toArray)] w₀ fun e w'=>e = .returned (.int .i64 r) ∧ Hp [] w₀ w' []:=by
 unfold m_slices_IndexFunc_api_Curve_api_Curve at h
 refine Calls.ofWC (vs:=[(.slice zcq z59.length zcr),(.func (.func z9c) #[] (zb6).toArray)]) (pre:=[]) (env:=[(0,(.slice zcq z59.length zcr)),(1,(.func (.func z9c) #[] (zb6).toArray))]) Try.func75 rfl Try.ntmps75 rfl (Hp.nil w₀ _) rfl ?_
 refine WC.seq ?_
 refine WC.region ?_
 refine WL.quiet (d:=4) rfl rfl rfl (q_assign rfl) ?_
 refine WL.nil ?_
 refine WX.then ?_
 obtain ⟨z9b,zqq,h⟩:=jp0_elim h
 refine WC.seqMid0 ((z9b = some r)) ([]) ([]) ?_ ?_
 ·skip
  refine WC.seq ?_
  refine WC.region ?_
  refine WL.quiet (d:=6) rfl rfl rfl (q_move rfl) ?_
  refine WL.quiet (d:=7) rfl rfl rfl (q_len Try.underlying26 rfl) ?_
  refine WL.quiet (d:=8) rfl rfl rfl (q_move rfl) ?_
  refine WL.nil ?_
  refine WX.then ?_
  refine WC.block ?_
  refine WC.loop2 (fun (zcs : Nat) (z5W : Int)=>(m_slices_IndexFunc_api_Curve_api_Curve_L2 z59 z84 z9b zcs z5W = some r)) (fun (zcs : Nat) (z5W : Int)=>[(0,(.slice zcq z59.length zcr)),(1,(.func (.func z9c) #[] (zb6).toArray)),(7,(.int .i64 ((z59.length : Nat) : Int))),(8,(.int .i64 z5W))]) (fun (zcs : Nat) (z5W : Int)=>[]) (fun (zcs : Nat) (z5W : Int)=>zcs) ⟨FUEL,0⟩ h (.cons rfl (.cons rfl (.cons rfl (.cons rfl .nil)))) .nil ?_
  rintro zcs z5W h
  obtain ⟨zi3,rfl⟩:=m_slices_IndexFunc_api_Curve_api_Curve_L2_fuel h
  rw [m_slices_IndexFunc_api_Curve_api_Curve_L2] at h
  refine WC.seq ?_
  refine WC.region ?_
  refine WL.quiet (d:=9) rfl rfl rfl (q_lss rfl rfl) ?_
  refine WL.nil ?_
  refine WX.then ?_
  refine WC.seq ?_
  refine WC.cond rfl (fun zi5=>?_) (fun zi5=>?_)
  ·replace h:=ite_t h zi5
   refine WC.skip ?_
   refine WX.then ?_
   refine WC.seq ?_
   refine WC.block ?_
   refine WC.seq ?_
   refine WC.region ?_
   refine WL.quiet (d:=10) rfl rfl rfl (q_move rfl) ?_
   refine WL.quiet (d:=5) rfl rfl rfl (q_assign rfl) ?_
   refine WL.nil ?_
   refine WX.then ?_
   refine WC.seq ?_
   obtain ⟨zqr,h⟩:=chk_elim h
   obtain ⟨zi4,zqs,h⟩:=ze h
   refine WC.region ?_
   refine WL.quiet (d:=11) rfl rfl rfl (q_move rfl) ?_
   refine WL.quiet (d:=12) rfl rfl rfl (q_move rfl) ?_
   refine WL.quiet (d:=13) rfl rfl rfl (q_move rfl) ?_
   refine WL.znth (dd:=14) rfl rfl (Z:=Z) (Pr:=(p39 Z)) elT_26 rfl rfl zqn zqr ?_
   rintro zxk zxl zqt zxm ⟨zqu,zqv,rfl,zqw⟩
   refine WL.quiet (d:=15) rfl rfl rfl (q_load1 oneT_39 rfl (rd_z hz.pv zqt rfl)) ?_
   refine WL.callD (dd:=16) rfl rfl rfl (run_callv (l:=[.tmp 15]) (f:=z9c) (caps:=zb6) zqo rfl (.cons rfl .nil)) .nil (fun w hw=>zqp w (hz.now hw) (nth z59 z5W) zqu zqv zi4 zqw zqs) ?_
   refine WL.nil ?_
   refine WX.then ?_
   refine WC.cond rfl (fun zi6=>?_) (fun zi6=>?_)
   ·replace h:=ite_t h zi6
    refine WC.seq ?_
    refine WC.region ?_
    refine WL.quiet (d:=17) rfl rfl rfl (q_move rfl) ?_
    refine WL.quiet (d:=4) rfl rfl rfl (q_assign rfl) ?_
    refine WL.nil ?_
    refine WX.then ?_
    refine WC.ret ?_
    refine WX.blockRet ?_
    refine WX.thenRet ?_
    refine WX.thenRet ?_
    refine WX.blockRet ?_
    refine WX.thenRet ?_
    obtain rfl:=Option.some.inj h
    refine WX.bpRet Try.results75 (.tmp rfl .nil) (fun w hw=>?_)
    exact ⟨ret1 rfl,hw.sub .nil⟩
   ·replace h:=ite_f h zi6
    refine WC.skip ?_
    refine WX.blockNormal ?_
    refine WX.then ?_
    refine WC.region ?_
    refine WL.quiet (d:=18) rfl rfl rfl (q_add rfl rfl rfl) ?_
    refine WL.quiet (d:=8) rfl rfl rfl (q_move rfl) ?_
    refine WL.nil ?_
    exact WX.round (G:=Nat × Int) ⟨zi3,(i64 (z5W + 1))⟩ h (Nat.lt_succ_self _) (.cons rfl (.cons rfl (.cons rfl (.cons rfl .nil)))) .nil
  ·replace h:=ite_f h zi5
   refine WC.exit ?_
   refine WX.thenExit ?_
   refine WX.thenExit ?_
   refine WX.blockHit ?_
   exact WX.mid (G:=Unit) () h .nil .nil
 ·rintro  h
  replace h:=zqq.symm.trans h
  refine WC.seq ?_
  refine WC.region ?_
  refine WL.quiet (d:=4) rfl rfl rfl (q_assign rfl) ?_
  refine WL.nil ?_
  refine WX.then ?_
  refine WC.ret ?_
  obtain rfl:=Option.some.inj h
  refine WX.bpRet Try.results75 (.tmp rfl .nil) (fun w hw=>?_)
  exact ⟨ret1 rfl,hw.sub .nil⟩
def m_slices_ContainsFunc_api_Curve_api_Curve (z8v : List (List z1)) (zb7 : (List z1) → Option Bool) : Option Bool :=
 (m_slices_IndexFunc_api_Curve_api_Curve z8v zb7).bind fun zi7=>some (decide (zi7 ≥ 0))
set_option maxRecDepth 20000 in
theorem w_slices_ContainsFunc_api_Curve_api_Curve (Z : Zp)  (zb8 : Option Addr) (zb9 : Nat) (z9d : FuncId) (zba : List Value) (z8v : List (List z1)) (zb7 : (List z1) → Option Bool) (r : Bool) (w₀ : World) (hz : PZ [] w₀ Z)
  (zqx : ZS Z 1 (p39 Z) zb8 zb9 z8v)
  (zqy : ∀ args w,(callFunc z9d args).run Try.prog w = .ok (.enter z9d args) w)
  (zqz : ∀ w : World,PZ [] w Z → ∀ (x0 : List z1) (ao0 : Option Addr) (cap0 : Nat) (r : Bool),ZS Z 4 (fun r x=>r = e35 x) ao0 cap0 x0 → zb7 x0 = some r → Calls Try.prog z9d (([(.slice ao0 x0.length cap0)] : List Value) ++ zba).toArray w fun e w'=>e = .returned (.bool r) ∧ Hp [] w w' [])
  (h : m_slices_ContainsFunc_api_Curve_api_Curve z8v zb7 = some r) :
  Calls Try.prog 66 #[(.slice zb8 z8v.length zb9),(.func (.func z9d) #[] (zba).toArray)] w₀ fun e w'=>e = .returned (.bool r) ∧ Hp [] w₀ w' []:=by
 unfold m_slices_ContainsFunc_api_Curve_api_Curve at h
 refine Calls.ofWC (vs:=[(.slice zb8 z8v.length zb9),(.func (.func z9d) #[] (zba).toArray)]) (pre:=[]) (env:=[(0,(.slice zb8 z8v.length zb9)),(1,(.func (.func z9d) #[] (zba).toArray))]) Try.func66 rfl Try.ntmps66 rfl (Hp.nil w₀ _) rfl ?_
 refine WC.seq ?_
 refine WC.region ?_
 refine WL.quiet (d:=4) rfl rfl rfl (q_assign rfl) ?_
 refine WL.nil ?_
 refine WX.then ?_
 refine WC.seq ?_
 obtain ⟨zi7,zqA,h⟩:=ze h
 refine WC.region ?_
 refine WL.quiet (d:=5) rfl rfl rfl (q_move rfl) ?_
 refine WL.quiet (d:=6) rfl rfl rfl (q_move rfl) ?_
 refine WL.callD (dd:=7) rfl rfl rfl (zn (l:=[.tmp 5,.tmp 6]) Try.call75 (.cons rfl (.cons rfl .nil))) (.nil : Sel [] [] []) (fun w hw=>by have pz:=(hz.call hw (.nil : Sel [] [] [])); exact w_slices_IndexFunc_api_Curve_api_Curve (Z:=_) (zcq:=zb8) (zcr:=zb9) (z9c:=z9d) (zb6:=zba) (z59:=z8v) (z84:=zb7) (r:=zi7) w pz zqx zqy zqz zqA) ?_
 refine WL.quiet (d:=8) rfl rfl rfl (q_geq rfl rfl) ?_
 refine WL.quiet (d:=4) rfl rfl rfl (q_assign rfl) ?_
 refine WL.nil ?_
 refine WX.then ?_
 refine WC.ret ?_
 obtain rfl:=Option.some.inj h
 refine WX.bpRet Try.results66 (.tmp rfl .nil) (fun w hw=>?_)
 exact ⟨ret1 rfl,hw.sub .nil⟩
def m_calculus_Valid (zV : Sapi_Server) : Option Bool :=
 (m_rat_Valid zV.fRate).bind fun zct=>(if zct && (decide (zV.fRate.fN > 0)) then (m_rat_Valid zV.fLatency).bind fun zi8=>some zi8 else some false).bind fun zdQ=>some (zdQ && (decide (zV.fLatency.fN ≥ 0)))
set_option maxRecDepth 20000 in
theorem w_calculus_Valid (Z : Zp)   (zV : Sapi_Server) (r : Bool) (w₀ : World) (hz : PZ [] w₀ Z)
  (h : m_calculus_Valid zV = some r) :
  Calls Try.prog 47 #[(.agg #[(.int .i64 zV.fRate.fN),(.int .i64 zV.fRate.fD),(.int .i64 zV.fLatency.fN),(.int .i64 zV.fLatency.fD)])] w₀ fun e w'=>e = .returned (.bool r) ∧ Hp [] w₀ w' []:=by
 unfold m_calculus_Valid at h
 refine Calls.ofWC (vs:=[(.agg #[(.int .i64 zV.fRate.fN),(.int .i64 zV.fRate.fD),(.int .i64 zV.fLatency.fN),(.int .i64 zV.fLatency.fD)])]) (pre:=[]) (env:=[(0,(.agg #[(.int .i64 zV.fRate.fN),(.int .i64 zV.fRate.fD),(.int .i64 zV.fLatency.fN),(.int .i64 zV.fLatency.fD)]))]) Try.func47 rfl Try.ntmps47 rfl (Hp.nil w₀ _) rfl ?_
 refine WC.seq ?_
 refine WC.region ?_
 refine WL.new (dd:=1) rfl rfl rfl (e_box (cs:=[(.int .i64 zV.fRate.fN),(.int .i64 zV.fRate.fD),(.int .i64 zV.fLatency.fN),(.int .i64 zV.fLatency.fD)]) rfl rfl) ?_
 intro z7d _
 refine WL.quiet (d:=2) rfl rfl rfl (q_assign rfl) ?_
 refine WL.nil ?_
 refine WX.then ?_
 refine WC.seq ?_
 obtain ⟨zct,zqB,h⟩:=ze h
 obtain ⟨zdQ,zmE,h⟩:=ze h
 refine WC.region ?_
 refine WL.quiet (d:=3) rfl rfl rfl (q_fieldAddr fo_43_0 rfl rfl) ?_
 refine WL.quiet (d:=4) rfl rfl rfl (q_loadA (cs:=[(.int .i64 zV.fRate.fN),(.int .i64 zV.fRate.fD)]) aggT_30 rfl rfl (rd_sub (s:=2) .here rfl)) ?_
 refine WL.callD (dd:=5) rfl rfl rfl (zn (l:=[.tmp 4]) Try.call39 (.cons rfl .nil)) (.nil : Sel [stb z7d 43 [(.int .i64 zV.fRate.fN),(.int .i64 zV.fRate.fD),(.int .i64 zV.fLatency.fN),(.int .i64 zV.fLatency.fD)]] [] [stb z7d 43 [(.int .i64 zV.fRate.fN),(.int .i64 zV.fRate.fD),(.int .i64 zV.fLatency.fN),(.int .i64 zV.fLatency.fD)]]) (fun w hw=>by have pz:=(hz.call hw (.nil : Sel [stb z7d 43 [(.int .i64 zV.fRate.fN),(.int .i64 zV.fRate.fD),(.int .i64 zV.fLatency.fN),(.int .i64 zV.fLatency.fD)]] [] [stb z7d 43 [(.int .i64 zV.fRate.fN),(.int .i64 zV.fRate.fD),(.int .i64 zV.fLatency.fN),(.int .i64 zV.fLatency.fD)]])); exact w_rat_Valid (Z:=_)  (z16:=zV.fRate) (r:=zct) w pz  zqB) ?_
 refine WL.quiet (d:=6) rfl rfl rfl (q_move rfl) ?_
 refine WL.cut0 True [(1,(.pointer (some ⟨z7d,0,none⟩))),(2,(.bool false)),(11,(.bool (zct && (decide (zV.fRate.fN > 0)))))] [stb z7d 43 [(.int .i64 zV.fRate.fN),(.int .i64 zV.fRate.fD),(.int .i64 zV.fLatency.fN),(.int .i64 zV.fLatency.fD)]] 5 ?_ (fun _=>?_)
 ·rcases Bool.eq_false_or_eq_true zct with hb' | hb'
  ·have zmF:=hb'; clear hb'
   refine WL.pin (i:=6) rfl zmF ?_
   refine WL.quiet (d:=7) rfl rfl rfl (q_fieldAddr fo_43_0 rfl rfl) ?_
   refine WL.quiet (d:=8) rfl rfl rfl (q_fieldAddr fo_30_0 rfl rfl) ?_
   refine WL.quiet (d:=9) rfl rfl rfl (q_load1 oneT_3 rfl (rd_stb .here rfl)) ?_
   refine WL.quiet (d:=10) rfl rfl rfl (q_gtr rfl rfl) ?_
   refine WL.quiet (d:=11) rfl rfl rfl (q_pickT rfl rfl) ?_
   exact WL.cutEnd () trivial (.cons rfl (.cons rfl (.cons (zp (and_r zmF)) .nil))) (.cons .here .nil)
  ·have zmG:=hb'; clear hb'
   refine WL.pin (i:=6) rfl zmG ?_
   refine WL.skip rfl rfl rfl ?_
   refine WL.skip rfl rfl rfl ?_
   refine WL.skip rfl rfl rfl ?_
   refine WL.skip rfl rfl rfl ?_
   refine WL.quiet (d:=11) rfl rfl rfl (q_pickF rfl rfl) ?_
   exact WL.cutEnd () trivial (.cons rfl (.cons rfl (.cons (zp (and_l zmG)) .nil))) (.cons .here .nil)
 ·skip
  refine WL.quiet (d:=12) rfl rfl rfl (q_move rfl) ?_
  refine WL.cut0 True [(1,(.pointer (some ⟨z7d,0,none⟩))),(2,(.bool false)),(16,(.bool zdQ))] [stb z7d 43 [(.int .i64 zV.fRate.fN),(.int .i64 zV.fRate.fD),(.int .i64 zV.fLatency.fN),(.int .i64 zV.fLatency.fD)]] 4 ?_ (fun _=>?_)
  ·rcases Bool.eq_false_or_eq_true (zct && (decide (zV.fRate.fN > 0))) with hb' | hb'
   ·have zmH:=hb'; clear hb'
    have zdR:=ite_t zmE zmH
    obtain ⟨zi8,zqC,zdR⟩:=ze zdR
    replace zdR:=Option.some.inj zdR
    refine WL.pin (i:=12) rfl zmH ?_
    refine WL.quiet (d:=13) rfl rfl rfl (q_fieldAddr fo_43_1 rfl rfl) ?_
    refine WL.quiet (d:=14) rfl rfl rfl (q_loadA (cs:=[(.int .i64 zV.fLatency.fN),(.int .i64 zV.fLatency.fD)]) aggT_30 rfl rfl (rd_sub (s:=2) .here rfl)) ?_
    refine WL.callD (dd:=15) rfl rfl rfl (zn (l:=[.tmp 14]) Try.call39 (.cons rfl .nil)) (.nil : Sel [stb z7d 43 [(.int .i64 zV.fRate.fN),(.int .i64 zV.fRate.fD),(.int .i64 zV.fLatency.fN),(.int .i64 zV.fLatency.fD)]] [] [stb z7d 43 [(.int .i64 zV.fRate.fN),(.int .i64 zV.fRate.fD),(.int .i64 zV.fLatency.fN),(.int .i64 zV.fLatency.fD)]]) (fun w hw=>by have pz:=(hz.call hw (.nil : Sel [stb z7d 43 [(.int .i64 zV.fRate.fN),(.int .i64 zV.fRate.fD),(.int .i64 zV.fLatency.fN),(.int .i64 zV.fLatency.fD)]] [] [stb z7d 43 [(.int .i64 zV.fRate.fN),(.int .i64 zV.fRate.fD),(.int .i64 zV.fLatency.fN),(.int .i64 zV.fLatency.fD)]])); exact w_rat_Valid (Z:=_)  (z16:=zV.fLatency) (r:=zi8) w pz  zqC) ?_
    refine WL.quiet (d:=16) rfl rfl rfl (q_pickT rfl rfl) ?_
    exact WL.cutEnd () trivial (.cons rfl (.cons rfl (.cons (zp zdR) .nil))) (.cons .here .nil)
   ·have zmI:=hb'; clear hb'
    have zi9:=ite_f zmE zmI
    replace zi9:=Option.some.inj zi9
    refine WL.pin (i:=12) rfl zmI ?_
    refine WL.skip rfl rfl rfl ?_
    refine WL.skip rfl rfl rfl ?_
    refine WL.skip rfl rfl rfl ?_
    refine WL.quiet (d:=16) rfl rfl rfl (q_pickF rfl rfl) ?_
    exact WL.cutEnd () trivial (.cons rfl (.cons rfl (.cons (zp zi9) .nil))) (.cons .here .nil)
  ·skip
   refine WL.quiet (d:=17) rfl rfl rfl (q_move rfl) ?_
   refine WL.cut0 True [(2,(.bool false)),(22,(.bool (zdQ && (decide (zV.fLatency.fN ≥ 0)))))] [stb z7d 43 [(.int .i64 zV.fRate.fN),(.int .i64 zV.fRate.fD),(.int .i64 zV.fLatency.fN),(.int .i64 zV.fLatency.fD)]] 5 ?_ (fun _=>?_)
   ·rcases Bool.eq_false_or_eq_true zdQ with hb' | hb'
    ·have zmJ:=hb'; clear hb'
     refine WL.pin (i:=17) rfl zmJ ?_
     refine WL.quiet (d:=18) rfl rfl rfl (q_fieldAddr fo_43_1 rfl rfl) ?_
     refine WL.quiet (d:=19) rfl rfl rfl (q_fieldAddr fo_30_0 rfl rfl) ?_
     refine WL.quiet (d:=20) rfl rfl rfl (q_load1 oneT_3 rfl (rd_stb .here rfl)) ?_
     refine WL.quiet (d:=21) rfl rfl rfl (q_geq rfl rfl) ?_
     refine WL.quiet (d:=22) rfl rfl rfl (q_pickT rfl rfl) ?_
     exact WL.cutEnd () trivial (.cons rfl (.cons (zp (and_r zmJ)) .nil)) (.cons .here .nil)
    ·have zmK:=hb'; clear hb'
     refine WL.pin (i:=17) rfl zmK ?_
     refine WL.skip rfl rfl rfl ?_
     refine WL.skip rfl rfl rfl ?_
     refine WL.skip rfl rfl rfl ?_
     refine WL.skip rfl rfl rfl ?_
     refine WL.quiet (d:=22) rfl rfl rfl (q_pickF rfl rfl) ?_
     exact WL.cutEnd () trivial (.cons rfl (.cons (zp (and_l zmK)) .nil)) (.cons .here .nil)
   ·skip
    refine WL.quiet (d:=2) rfl rfl rfl (q_assign rfl) ?_
    refine WL.nil ?_
    refine WX.then ?_
    refine WC.ret ?_
    obtain rfl:=Option.some.inj h
    refine WX.bpRet Try.results47 (.tmp rfl .nil) (fun w hw=>?_)
    exact ⟨ret1 rfl,hw.sub .nil⟩
def m_calculus_whole (z5v : Int) : Option z2 :=
 some (⟨z5v,1⟩ : z2)
set_option maxRecDepth 20000 in
theorem w_calculus_whole (Z : Zp)   (z5v : Int) (r : z2) (w₀ : World) (hz : PZ [] w₀ Z)
  (h : m_calculus_whole z5v = some r) :
  Calls Try.prog 65 #[(.int .i64 z5v)] w₀ fun e w'=>e = .returned (.agg #[(.int .i64 r.fN),(.int .i64 r.fD)]) ∧ Hp [] w₀ w' []:=by
 unfold m_calculus_whole at h
 refine Calls.ofWC (vs:=[(.int .i64 z5v)]) (pre:=[]) (env:=[(0,(.int .i64 z5v))]) Try.func65 rfl Try.ntmps65 rfl (Hp.nil w₀ _) rfl ?_
 refine WC.seq ?_
 refine WC.region ?_
 refine WL.new (dd:=2) rfl rfl rfl (e_alloc (cs:=[(.int .i64 0),(.int .i64 0)]) zeroT_30 rfl) ?_
 intro zxn _
 refine WL.nil ?_
 refine WX.then ?_
 refine WC.seq ?_
 refine WC.region ?_
 refine WL.quiet (d:=3) rfl rfl rfl (q_move rfl) ?_
 refine WL.quiet (d:=4) rfl rfl rfl (q_build (v:=(.agg #[(.int .i64 z5v),(.int .i64 1)])) (Eos.parts (l:=[.tmp 3,.const (.int .i64 1)]) (.cons rfl (.cons rfl .nil)) [0,1]) (fun _=>by kernel_rfl)) ?_
 refine WL.eff0 rfl rfl (e_store (vs:=[(.int .i64 z5v),(.int .i64 1)]) (ds:=[(.int .i64 z5v),(.int .i64 1)]) sizT_30 rfl rfl rfl rfl (oc_cons rfl (oc_cons rfl oc_nil)) .here (Nat.le_of_ble_eq_true rfl) rfl) ?_
 refine WL.nil ?_
 refine WX.then ?_
 refine WC.ret ?_
 obtain rfl:=Option.some.inj h
 refine WX.bpRet Try.results65 (.agg rfl aggT_30 rfl (rd_all .here) .nil) (fun w hw=>?_)
 exact ⟨ret1 rfl,hw.sub .nil⟩
def m_calculus_zero  : Option z2 :=
 (m_calculus_whole 0).bind fun zbb=>some zbb
set_option maxRecDepth 20000 in
theorem w_calculus_zero (Z : Zp)    (r : z2) (w₀ : World) (hz : PZ [] w₀ Z)
  (h : m_calculus_zero  = some r) :
  Calls Try.prog 51 #[] w₀ fun e w'=>e = .returned (.agg #[(.int .i64 r.fN),(.int .i64 r.fD)]) ∧ Hp [] w₀ w' []:=by
 unfold m_calculus_zero at h
 refine Calls.ofWC (vs:=[]) (pre:=[]) (env:=[]) Try.func51 rfl Try.ntmps51 rfl (Hp.nil w₀ _) rfl ?_
 refine WC.seq ?_
 refine WC.region ?_
 refine WL.new (dd:=0) rfl rfl rfl (e_alloc (cs:=[(.int .i64 0),(.int .i64 0)]) zeroT_30 rfl) ?_
 intro zfw _
 refine WL.nil ?_
 refine WX.then ?_
 refine WC.seq ?_
 obtain ⟨zbb,zqD,h⟩:=ze h
 refine WC.region ?_
 refine WL.callD (dd:=1) rfl rfl rfl (zn (l:=[.const (.int .i64 0)]) Try.call65 (.cons rfl .nil)) (.nil : Sel [stb zfw 30 [(.int .i64 0),(.int .i64 0)]] [] [stb zfw 30 [(.int .i64 0),(.int .i64 0)]]) (fun w hw=>by have pz:=(hz.call hw (.nil : Sel [stb zfw 30 [(.int .i64 0),(.int .i64 0)]] [] [stb zfw 30 [(.int .i64 0),(.int .i64 0)]])); exact w_calculus_whole (Z:=_)  (z5v:=0) (r:=zbb) w pz  zqD) ?_
 refine WL.eff0 rfl rfl (e_store (vs:=[(.int .i64 zbb.fN),(.int .i64 zbb.fD)]) (ds:=[(.int .i64 zbb.fN),(.int .i64 zbb.fD)]) sizT_30 rfl rfl rfl rfl (oc_cons rfl (oc_cons rfl oc_nil)) .here (Nat.le_of_ble_eq_true rfl) rfl) ?_
 refine WL.nil ?_
 refine WX.then ?_
 refine WC.ret ?_
 obtain rfl:=Option.some.inj h
 refine WX.bpRet Try.results51 (.agg rfl aggT_30 rfl (rd_all .here) .nil) (fun w hw=>?_)
 exact ⟨ret1 rfl,hw.sub .nil⟩
def m_slices_Index_api_Curve_api_Bucket_L2 (z3l : List z1) (z2V : z1) (z9e : Option Int) : Nat → Int → Option Int
 | 0,_=>none
 | zia + 1,z3B=>if decide (z3B < ((z3l.length : Nat) : Int)) then chk ((0 : Int) ≤ z3B ∧ z3B < ((z3l.length : Nat) : Int)) (if decide (z2V = (⟨(⟨(((nth z3l z3B).fBurst).fN),(((nth z3l z3B).fBurst).fD)⟩ : z2),(⟨(((nth z3l z3B).fRate).fN),(((nth z3l z3B).fRate).fD)⟩ : z2)⟩ : z1)) then some z3B else m_slices_Index_api_Curve_api_Bucket_L2 z3l z2V z9e zia (i64 (z3B + 1))) else z9e
theorem m_slices_Index_api_Curve_api_Bucket_L2_fuel {n : Nat} {z3l : List z1} {z2V : z1} {z9e : Option Int} {z3B : Int} {r : Int} (h : m_slices_Index_api_Curve_api_Bucket_L2 z3l z2V z9e n z3B = some r) : ∃ m,n = m + 1:=by
 cases n with
 | zero=>cases h
 | succ m=>exact ⟨m,rfl⟩
def m_slices_Index_api_Curve_api_Bucket (z3l : List z1) (z2V : z1) : Option Int :=
 jp0 (some (-1)) fun z9e=>m_slices_Index_api_Curve_api_Bucket_L2 z3l z2V z9e FUEL 0
set_option maxRecDepth 20000 in
theorem w_slices_Index_api_Curve_api_Bucket (Z : Zp)  (zcu : Option Addr) (zcv : Nat) (z3l : List z1) (z2V : z1) (r : Int) (w₀ : World) (hz : PZ [] w₀ Z)
  (zqE : ZS Z 4 (fun r x=>r = e35 x) zcu zcv z3l)
  (h : m_slices_Index_api_Curve_api_Bucket z3l z2V = some r) :
  Calls Try.prog 72 #[(.slice zcu z3l.length zcv),(.agg #[(.int .i64 z2V.fBurst.fN),(.int .i64 z2V.fBurst.fD),(.int .i64 z2V.fRate.fN),(.int .i64 z2V.fRate.fD)])] w₀ fun e w'=>e = .returned (.int .i64 r) ∧ Hp [] w₀ w' []:=by
 unfold m_slices_Index_api_Curve_api_Bucket at h
 refine Calls.ofWC (vs:=[(.slice zcu z3l.length zcv),(.agg #[(.int .i64 z2V.fBurst.fN),(.int .i64 z2V.fBurst.fD),(.int .i64 z2V.fRate.fN),(.int .i64 z2V.fRate.fD)])]) (pre:=[]) (env:=[(0,(.slice zcu z3l.length zcv)),(1,(.agg #[(.int .i64 z2V.fBurst.fN),(.int .i64 z2V.fBurst.fD),(.int .i64 z2V.fRate.fN),(.int .i64 z2V.fRate.fD)]))]) Try.func72 rfl Try.ntmps72 rfl (Hp.nil w₀ _) rfl ?_
 refine WC.seq ?_
 refine WC.region ?_
 refine WL.new (dd:=3) rfl rfl rfl (e_box (cs:=[(.int .i64 z2V.fBurst.fN),(.int .i64 z2V.fBurst.fD),(.int .i64 z2V.fRate.fN),(.int .i64 z2V.fRate.fD)]) rfl rfl) ?_
 intro zmL _
 refine WL.quiet (d:=4) rfl rfl rfl (q_assign rfl) ?_
 refine WL.nil ?_
 refine WX.then ?_
 obtain ⟨z9e,zqF,h⟩:=jp0_elim h
 refine WC.seqMid0 ((z9e = some r)) ([]) ([]) ?_ ?_
 ·skip
  refine WC.seq ?_
  refine WC.region ?_
  refine WL.quiet (d:=6) rfl rfl rfl (q_move rfl) ?_
  refine WL.quiet (d:=7) rfl rfl rfl (q_len Try.underlying39 rfl) ?_
  refine WL.quiet (d:=8) rfl rfl rfl (q_move rfl) ?_
  refine WL.nil ?_
  refine WX.then ?_
  refine WC.block ?_
  refine WC.loop2 (fun (zcw : Nat) (z3B : Int)=>(m_slices_Index_api_Curve_api_Bucket_L2 z3l z2V z9e zcw z3B = some r)) (fun (zcw : Nat) (z3B : Int)=>[(0,(.slice zcu z3l.length zcv)),(3,(.pointer (some ⟨zmL,0,none⟩))),(7,(.int .i64 ((z3l.length : Nat) : Int))),(8,(.int .i64 z3B))]) (fun (zcw : Nat) (z3B : Int)=>[stb zmL 35 [(.int .i64 z2V.fBurst.fN),(.int .i64 z2V.fBurst.fD),(.int .i64 z2V.fRate.fN),(.int .i64 z2V.fRate.fD)]]) (fun (zcw : Nat) (z3B : Int)=>zcw) ⟨FUEL,0⟩ h (.cons rfl (.cons rfl (.cons rfl (.cons rfl .nil)))) (.cons .here .nil) ?_
  rintro zcw z3B h
  obtain ⟨zia,rfl⟩:=m_slices_Index_api_Curve_api_Bucket_L2_fuel h
  rw [m_slices_Index_api_Curve_api_Bucket_L2] at h
  refine WC.seq ?_
  refine WC.region ?_
  refine WL.quiet (d:=9) rfl rfl rfl (q_lss rfl rfl) ?_
  refine WL.nil ?_
  refine WX.then ?_
  refine WC.seq ?_
  refine WC.cond rfl (fun zib=>?_) (fun zib=>?_)
  ·replace h:=ite_t h zib
   refine WC.skip ?_
   refine WX.then ?_
   refine WC.seq ?_
   refine WC.block ?_
   refine WC.seq ?_
   refine WC.region ?_
   refine WL.quiet (d:=10) rfl rfl rfl (q_move rfl) ?_
   refine WL.quiet (d:=5) rfl rfl rfl (q_assign rfl) ?_
   refine WL.nil ?_
   refine WX.then ?_
   refine WC.seq ?_
   obtain ⟨zqG,h⟩:=chk_elim h
   refine WC.draw (fun i=>[].contains i) [] rfl ?_
   refine WD.quiet (i:=0) (d:=11) (by kernel_rfl) rfl (z6 (by kernel_rfl)) (z7 (by kernel_rfl)) rfl rfl rfl (q_loadA (cs:=[(.int .i64 z2V.fBurst.fN),(.int .i64 z2V.fBurst.fD),(.int .i64 z2V.fRate.fN),(.int .i64 z2V.fRate.fD)]) aggT_35 rfl rfl (rd_all .here)) ?_
   refine WD.pure (i:=1) (d:=12) (by kernel_rfl) rfl (z6 (by kernel_rfl)) (z7 (by kernel_rfl)) rfl rfl rfl (fun _=>q_move rfl) ?_
   refine WD.pure (i:=2) (d:=13) (by kernel_rfl) rfl (z6 (by kernel_rfl)) (z7 (by kernel_rfl)) rfl rfl rfl (fun _=>q_move rfl) ?_
   refine WD.znth (j:=3) (dd:=14) (by kernel_rfl) rfl (z6 (by kernel_rfl)) (z7 (by kernel_rfl)) rfl rfl (Z:=Z) (Pr:=(fun r x=>r = e35 x)) elT_39 rfl rfl zqE zqG ?_
   rintro zxo zxp zqH zxq rfl
   refine WD.quiet (i:=4) (d:=15) (by kernel_rfl) rfl (z6 (by kernel_rfl)) (z7 (by kernel_rfl)) rfl rfl rfl (q_loadA (cs:=[(.int .i64 (((nth z3l z3B).fBurst).fN)),(.int .i64 (((nth z3l z3B).fBurst).fD)),(.int .i64 (((nth z3l z3B).fRate).fN)),(.int .i64 (((nth z3l z3B).fRate).fD))]) aggT_35 rfl rfl (rd_zs hz.pv zqH)) ?_
   refine WD.pure (i:=5) (d:=16) (by kernel_rfl) rfl (z6 (by kernel_rfl)) (z7 (by kernel_rfl)) rfl rfl rfl (fun _=>q_aggeql (enc:=e35) (a:=z2V) (b:=(⟨(⟨(((nth z3l z3B).fBurst).fN),(((nth z3l z3B).fBurst).fD)⟩ : z2),(⟨(((nth z3l z3B).fRate).fN),(((nth z3l z3B).fRate).fD)⟩ : z2)⟩ : z1)) eqT_35 rfl rfl) ?_
   refine WD.done (by kernel_rfl) ?_
   refine WX.then ?_
   refine WC.cond rfl (fun zic=>?_) (fun zic=>?_)
   ·replace h:=ite_t h zic
    refine WC.seq ?_
    refine WC.region ?_
    refine WL.quiet (d:=17) rfl rfl rfl (q_move rfl) ?_
    refine WL.quiet (d:=4) rfl rfl rfl (q_assign rfl) ?_
    refine WL.nil ?_
    refine WX.then ?_
    refine WC.ret ?_
    refine WX.blockRet ?_
    refine WX.thenRet ?_
    refine WX.thenRet ?_
    refine WX.blockRet ?_
    refine WX.thenRet ?_
    obtain rfl:=Option.some.inj h
    refine WX.bpRet Try.results72 (.tmp rfl .nil) (fun w hw=>?_)
    exact ⟨ret1 rfl,hw.sub .nil⟩
   ·replace h:=ite_f h zic
    refine WC.skip ?_
    refine WX.blockNormal ?_
    refine WX.then ?_
    refine WC.region ?_
    refine WL.quiet (d:=18) rfl rfl rfl (q_add rfl rfl rfl) ?_
    refine WL.quiet (d:=8) rfl rfl rfl (q_move rfl) ?_
    refine WL.nil ?_
    exact WX.round (G:=Nat × Int) ⟨zia,(i64 (z3B + 1))⟩ h (Nat.lt_succ_self _) (.cons rfl (.cons rfl (.cons rfl (.cons rfl .nil)))) (.cons .here .nil)
  ·replace h:=ite_f h zib
   refine WC.exit ?_
   refine WX.thenExit ?_
   refine WX.thenExit ?_
   refine WX.blockHit ?_
   exact WX.mid (G:=Unit) () h .nil .nil
 ·rintro  h
  replace h:=zqF.symm.trans h
  refine WC.seq ?_
  refine WC.region ?_
  refine WL.quiet (d:=4) rfl rfl rfl (q_assign rfl) ?_
  refine WL.nil ?_
  refine WX.then ?_
  refine WC.ret ?_
  obtain rfl:=Option.some.inj h
  refine WX.bpRet Try.results72 (.tmp rfl .nil) (fun w hw=>?_)
  exact ⟨ret1 rfl,hw.sub .nil⟩
def m_slices_Contains_api_Curve_api_Bucket (z9f : List z1) (z2p : z1) : Option Bool :=
 (m_slices_Index_api_Curve_api_Bucket z9f z2p).bind fun zid=>some (decide (zid ≥ 0))
set_option maxRecDepth 20000 in
theorem w_slices_Contains_api_Curve_api_Bucket (Z : Zp)  (zcx : Option Addr) (zcy : Nat) (z9f : List z1) (z2p : z1) (r : Bool) (w₀ : World) (hz : PZ [] w₀ Z)
  (zqI : ZS Z 4 (fun r x=>r = e35 x) zcx zcy z9f)
  (h : m_slices_Contains_api_Curve_api_Bucket z9f z2p = some r) :
  Calls Try.prog 59 #[(.slice zcx z9f.length zcy),(.agg #[(.int .i64 z2p.fBurst.fN),(.int .i64 z2p.fBurst.fD),(.int .i64 z2p.fRate.fN),(.int .i64 z2p.fRate.fD)])] w₀ fun e w'=>e = .returned (.bool r) ∧ Hp [] w₀ w' []:=by
 unfold m_slices_Contains_api_Curve_api_Bucket at h
 refine Calls.ofWC (vs:=[(.slice zcx z9f.length zcy),(.agg #[(.int .i64 z2p.fBurst.fN),(.int .i64 z2p.fBurst.fD),(.int .i64 z2p.fRate.fN),(.int .i64 z2p.fRate.fD)])]) (pre:=[]) (env:=[(0,(.slice zcx z9f.length zcy)),(1,(.agg #[(.int .i64 z2p.fBurst.fN),(.int .i64 z2p.fBurst.fD),(.int .i64 z2p.fRate.fN),(.int .i64 z2p.fRate.fD)]))]) Try.func59 rfl Try.ntmps59 rfl (Hp.nil w₀ _) rfl ?_
 refine WC.seq ?_
 refine WC.region ?_
 refine WL.new (dd:=3) rfl rfl rfl (e_box (cs:=[(.int .i64 z2p.fBurst.fN),(.int .i64 z2p.fBurst.fD),(.int .i64 z2p.fRate.fN),(.int .i64 z2p.fRate.fD)]) rfl rfl) ?_
 intro zfx _
 refine WL.quiet (d:=4) rfl rfl rfl (q_assign rfl) ?_
 refine WL.nil ?_
 refine WX.then ?_
 refine WC.seq ?_
 obtain ⟨zid,zqJ,h⟩:=ze h
 refine WC.region ?_
 refine WL.quiet (d:=5) rfl rfl rfl (q_move rfl) ?_
 refine WL.quiet (d:=6) rfl rfl rfl (q_loadA (cs:=[(.int .i64 z2p.fBurst.fN),(.int .i64 z2p.fBurst.fD),(.int .i64 z2p.fRate.fN),(.int .i64 z2p.fRate.fD)]) aggT_35 rfl rfl (rd_all .here)) ?_
 refine WL.callD (dd:=7) rfl rfl rfl (zn (l:=[.tmp 5,.tmp 6]) Try.call72 (.cons rfl (.cons rfl .nil))) (.nil : Sel [stb zfx 35 [(.int .i64 z2p.fBurst.fN),(.int .i64 z2p.fBurst.fD),(.int .i64 z2p.fRate.fN),(.int .i64 z2p.fRate.fD)]] [] [stb zfx 35 [(.int .i64 z2p.fBurst.fN),(.int .i64 z2p.fBurst.fD),(.int .i64 z2p.fRate.fN),(.int .i64 z2p.fRate.fD)]]) (fun w hw=>by have pz:=(hz.call hw (.nil : Sel [stb zfx 35 [(.int .i64 z2p.fBurst.fN),(.int .i64 z2p.fBurst.fD),(.int .i64 z2p.fRate.fN),(.int .i64 z2p.fRate.fD)]] [] [stb zfx 35 [(.int .i64 z2p.fBurst.fN),(.int .i64 z2p.fBurst.fD),(.int .i64 z2p.fRate.fN),(.int .i64 z2p.fRate.fD)]])); exact w_slices_Index_api_Curve_api_Bucket (Z:=_) (zcu:=zcx) (zcv:=zcy) (z3l:=z9f) (z2V:=z2p) (r:=zid) w pz zqI zqJ) ?_
 refine WL.quiet (d:=8) rfl rfl rfl (q_geq rfl rfl) ?_
 refine WL.quiet (d:=4) rfl rfl rfl (q_assign rfl) ?_
 refine WL.nil ?_
 refine WX.then ?_
 refine WC.ret ?_
 obtain rfl:=Option.some.inj h
 refine WX.bpRet Try.results59 (.tmp rfl .nil) (fun w hw=>?_)
 exact ⟨ret1 rfl,hw.sub .nil⟩
def m_rat_Cmp (z21 : z2) (z23 : z2) : Option Int :=
 (m_rat_Valid z21).bind fun zfy=>(if !zfy then some true else (m_rat_Valid z23).bind fun zie=>some (!zie)).bind fun zif=>if zif then some 0 else if decide ((i64 (z21.fN * z23.fD)) < (i64 (z23.fN * z21.fD))) then some (-1) else if decide ((i64 (z21.fN * z23.fD)) > (i64 (z23.fN * z21.fD))) then some 1 else some 0
set_option maxRecDepth 20000 in
theorem w_rat_Cmp (Z : Zp)   (z21 : z2) (z23 : z2) (r : Int) (w₀ : World) (hz : PZ [] w₀ Z)
  (h : m_rat_Cmp z21 z23 = some r) :
  Calls Try.prog 18 #[(.agg #[(.int .i64 z21.fN),(.int .i64 z21.fD)]),(.agg #[(.int .i64 z23.fN),(.int .i64 z23.fD)])] w₀ fun e w'=>e = .returned (.int .i64 r) ∧ Hp [] w₀ w' []:=by
 unfold m_rat_Cmp at h
 refine Calls.ofWC (vs:=[(.agg #[(.int .i64 z21.fN),(.int .i64 z21.fD)]),(.agg #[(.int .i64 z23.fN),(.int .i64 z23.fD)])]) (pre:=[]) (env:=[(0,(.agg #[(.int .i64 z21.fN),(.int .i64 z21.fD)])),(1,(.agg #[(.int .i64 z23.fN),(.int .i64 z23.fD)]))]) Try.func18 rfl Try.ntmps18 rfl (Hp.nil w₀ _) rfl ?_
 refine WC.seq ?_
 refine WC.region ?_
 refine WL.new (dd:=2) rfl rfl rfl (e_box (cs:=[(.int .i64 z21.fN),(.int .i64 z21.fD)]) rfl rfl) ?_
 intro z8w _
 refine WL.new (dd:=3) rfl rfl rfl (e_box (cs:=[(.int .i64 z23.fN),(.int .i64 z23.fD)]) rfl rfl) ?_
 intro z8x _
 refine WL.quiet (d:=4) rfl rfl rfl (q_assign rfl) ?_
 refine WL.nil ?_
 refine WX.then ?_
 refine WC.seq ?_
 refine WC.seq ?_
 obtain ⟨zfy,zqK,h⟩:=ze h
 obtain ⟨zif,zmM,h⟩:=ze h
 refine WC.region ?_
 refine WL.quiet (d:=7) rfl rfl rfl (q_loadA (cs:=[(.int .i64 z21.fN),(.int .i64 z21.fD)]) aggT_30 rfl rfl (rd_all (.there .here))) ?_
 refine WL.callD (dd:=8) rfl rfl rfl (zn (l:=[.tmp 7]) Try.call39 (.cons rfl .nil)) (.nil : Sel [stb z8x 30 [(.int .i64 z23.fN),(.int .i64 z23.fD)],stb z8w 30 [(.int .i64 z21.fN),(.int .i64 z21.fD)]] [] [stb z8x 30 [(.int .i64 z23.fN),(.int .i64 z23.fD)],stb z8w 30 [(.int .i64 z21.fN),(.int .i64 z21.fD)]]) (fun w hw=>by have pz:=(hz.call hw (.nil : Sel [stb z8x 30 [(.int .i64 z23.fN),(.int .i64 z23.fD)],stb z8w 30 [(.int .i64 z21.fN),(.int .i64 z21.fD)]] [] [stb z8x 30 [(.int .i64 z23.fN),(.int .i64 z23.fD)],stb z8w 30 [(.int .i64 z21.fN),(.int .i64 z21.fD)]])); exact w_rat_Valid (Z:=_)  (z16:=z21) (r:=zfy) w pz  zqK) ?_
 refine WL.quiet (d:=9) rfl rfl rfl (q_not rfl) ?_
 refine WL.quiet (d:=10) rfl rfl rfl (q_move rfl) ?_
 refine WL.cut0 True [(2,(.pointer (some ⟨z8w,0,none⟩))),(3,(.pointer (some ⟨z8x,0,none⟩))),(14,(.bool zif))] [stb z8x 30 [(.int .i64 z23.fN),(.int .i64 z23.fD)],stb z8w 30 [(.int .i64 z21.fN),(.int .i64 z21.fD)]] 4 ?_ (fun _=>?_)
 ·rcases Bool.eq_false_or_eq_true (!zfy) with hb' | hb'
  ·have zmN:=hb'; clear hb'
   have zig:=ite_t zmM zmN
   replace zig:=Option.some.inj zig
   refine WL.pin (i:=10) rfl zmN ?_
   refine WL.skip rfl rfl rfl ?_
   refine WL.skip rfl rfl rfl ?_
   refine WL.skip rfl rfl rfl ?_
   refine WL.quiet (d:=14) rfl rfl rfl (q_pickT rfl rfl) ?_
   exact WL.cutEnd () trivial (.cons rfl (.cons rfl (.cons (zp zig) .nil))) (.cons .here (.cons .here .nil))
  ·have zmO:=hb'; clear hb'
   have zdS:=ite_f zmM zmO
   obtain ⟨zie,zqL,zdS⟩:=ze zdS
   replace zdS:=Option.some.inj zdS
   refine WL.pin (i:=10) rfl zmO ?_
   refine WL.quiet (d:=11) rfl rfl rfl (q_loadA (cs:=[(.int .i64 z23.fN),(.int .i64 z23.fD)]) aggT_30 rfl rfl (rd_all .here)) ?_
   refine WL.callD (dd:=12) rfl rfl rfl (zn (l:=[.tmp 11]) Try.call39 (.cons rfl .nil)) (.nil : Sel [stb z8x 30 [(.int .i64 z23.fN),(.int .i64 z23.fD)],stb z8w 30 [(.int .i64 z21.fN),(.int .i64 z21.fD)]] [] [stb z8x 30 [(.int .i64 z23.fN),(.int .i64 z23.fD)],stb z8w 30 [(.int .i64 z21.fN),(.int .i64 z21.fD)]]) (fun w hw=>by have pz:=(hz.call hw (.nil : Sel [stb z8x 30 [(.int .i64 z23.fN),(.int .i64 z23.fD)],stb z8w 30 [(.int .i64 z21.fN),(.int .i64 z21.fD)]] [] [stb z8x 30 [(.int .i64 z23.fN),(.int .i64 z23.fD)],stb z8w 30 [(.int .i64 z21.fN),(.int .i64 z21.fD)]])); exact w_rat_Valid (Z:=_)  (z16:=z23) (r:=zie) w pz  zqL) ?_
   refine WL.quiet (d:=13) rfl rfl rfl (q_not rfl) ?_
   refine WL.quiet (d:=14) rfl rfl rfl (q_pickF rfl rfl) ?_
   exact WL.cutEnd () trivial (.cons rfl (.cons rfl (.cons (zp zdS) .nil))) (.cons .here (.cons .here .nil))
 ·skip
  refine WL.nil ?_
  refine WX.then ?_
  refine WC.cond rfl (fun zih=>?_) (fun zih=>?_)
  ·replace h:=ite_t h zih
   refine WC.seq ?_
   refine WC.region ?_
   refine WL.quiet (d:=4) rfl rfl rfl (q_assign rfl) ?_
   refine WL.nil ?_
   refine WX.then ?_
   refine WC.ret ?_
   refine WX.thenRet ?_
   obtain rfl:=Option.some.inj h
   refine WX.bpRet Try.results18 (.tmp rfl .nil) (fun w hw=>?_)
   exact ⟨ret1 rfl,hw.sub .nil⟩
  ·replace h:=ite_f h zih
   refine WC.skip ?_
   refine WX.then ?_
   refine WC.seq ?_
   refine WC.seq ?_
   refine WC.draw (fun i=>[].contains i) [] rfl ?_
   refine WD.pure (i:=0) (d:=15) (by kernel_rfl) rfl (z6 (by kernel_rfl)) (z7 (by kernel_rfl)) rfl rfl rfl (fun _=>q_fieldAddr fo_30_0 rfl rfl) ?_
   refine WD.quiet (i:=1) (d:=16) (by kernel_rfl) rfl (z6 (by kernel_rfl)) (z7 (by kernel_rfl)) rfl rfl rfl (q_load1 oneT_3 rfl (rd_stb (.there .here) rfl)) ?_
   refine WD.pure (i:=2) (d:=17) (by kernel_rfl) rfl (z6 (by kernel_rfl)) (z7 (by kernel_rfl)) rfl rfl rfl (fun _=>q_fieldAddr fo_30_1 rfl rfl) ?_
   refine WD.quiet (i:=3) (d:=18) (by kernel_rfl) rfl (z6 (by kernel_rfl)) (z7 (by kernel_rfl)) rfl rfl rfl (q_load1 oneT_3 rfl (rd_stb .here rfl)) ?_
   refine WD.pure (i:=4) (d:=19) (by kernel_rfl) rfl (z6 (by kernel_rfl)) (z7 (by kernel_rfl)) rfl rfl rfl (fun _=>q_mul rfl rfl rfl) ?_
   refine WD.pure (i:=5) (d:=20) (by kernel_rfl) rfl (z6 (by kernel_rfl)) (z7 (by kernel_rfl)) rfl rfl rfl (fun _=>q_fieldAddr fo_30_0 rfl rfl) ?_
   refine WD.quiet (i:=6) (d:=21) (by kernel_rfl) rfl (z6 (by kernel_rfl)) (z7 (by kernel_rfl)) rfl rfl rfl (q_load1 oneT_3 rfl (rd_stb .here rfl)) ?_
   refine WD.pure (i:=7) (d:=22) (by kernel_rfl) rfl (z6 (by kernel_rfl)) (z7 (by kernel_rfl)) rfl rfl rfl (fun _=>q_fieldAddr fo_30_1 rfl rfl) ?_
   refine WD.quiet (i:=8) (d:=23) (by kernel_rfl) rfl (z6 (by kernel_rfl)) (z7 (by kernel_rfl)) rfl rfl rfl (q_load1 oneT_3 rfl (rd_stb (.there .here) rfl)) ?_
   refine WD.pure (i:=9) (d:=24) (by kernel_rfl) rfl (z6 (by kernel_rfl)) (z7 (by kernel_rfl)) rfl rfl rfl (fun _=>q_mul rfl rfl rfl) ?_
   refine WD.pure (i:=10) (d:=5) (by kernel_rfl) rfl (z6 (by kernel_rfl)) (z7 (by kernel_rfl)) rfl rfl rfl (fun _=>q_assign rfl) ?_
   refine WD.pure (i:=11) (d:=6) (by kernel_rfl) rfl (z6 (by kernel_rfl)) (z7 (by kernel_rfl)) rfl rfl rfl (fun _=>q_assign rfl) ?_
   refine WD.done (by kernel_rfl) ?_
   refine WX.then ?_
   refine WC.block ?_
   refine WC.seq ?_
   refine WC.region ?_
   refine WL.quiet (d:=26) rfl rfl rfl (q_move rfl) ?_
   refine WL.quiet (d:=27) rfl rfl rfl (q_move rfl) ?_
   refine WL.quiet (d:=28) rfl rfl rfl (q_lss rfl rfl) ?_
   refine WL.quiet (d:=25) rfl rfl rfl (q_assign rfl) ?_
   refine WL.nil ?_
   refine WX.then ?_
   refine WC.cond rfl (fun zii=>?_) (fun zii=>?_)
   ·replace h:=ite_t h zii
    refine WC.seq ?_
    refine WC.region ?_
    refine WL.quiet (d:=4) rfl rfl rfl (q_assign rfl) ?_
    refine WL.nil ?_
    refine WX.then ?_
    refine WC.ret ?_
    refine WX.blockRet ?_
    refine WX.thenRet ?_
    obtain rfl:=Option.some.inj h
    refine WX.bpRet Try.results18 (.tmp rfl .nil) (fun w hw=>?_)
    exact ⟨ret1 rfl,hw.sub .nil⟩
   ·replace h:=ite_f h zii
    refine WC.seq ?_
    refine WC.region ?_
    refine WL.quiet (d:=30) rfl rfl rfl (q_move rfl) ?_
    refine WL.quiet (d:=31) rfl rfl rfl (q_move rfl) ?_
    refine WL.quiet (d:=32) rfl rfl rfl (q_gtr rfl rfl) ?_
    refine WL.quiet (d:=29) rfl rfl rfl (q_assign rfl) ?_
    refine WL.nil ?_
    refine WX.then ?_
    refine WC.cond rfl (fun zij=>?_) (fun zij=>?_)
    ·replace h:=ite_t h zij
     refine WC.seq ?_
     refine WC.region ?_
     refine WL.quiet (d:=4) rfl rfl rfl (q_assign rfl) ?_
     refine WL.nil ?_
     refine WX.then ?_
     refine WC.ret ?_
     refine WX.blockRet ?_
     refine WX.thenRet ?_
     obtain rfl:=Option.some.inj h
     refine WX.bpRet Try.results18 (.tmp rfl .nil) (fun w hw=>?_)
     exact ⟨ret1 rfl,hw.sub .nil⟩
    ·replace h:=ite_f h zij
     refine WC.skip ?_
     refine WX.blockNormal ?_
     refine WX.then ?_
     refine WC.seq ?_
     refine WC.region ?_
     refine WL.quiet (d:=4) rfl rfl rfl (q_assign rfl) ?_
     refine WL.nil ?_
     refine WX.then ?_
     refine WC.ret ?_
     obtain rfl:=Option.some.inj h
     refine WX.bpRet Try.results18 (.tmp rfl .nil) (fun w hw=>?_)
     exact ⟨ret1 rfl,hw.sub .nil⟩
def m_curve_dominates (z17 : z1) (z18 : z1) : Option Bool :=
 (if decide (z17 ≠ z18) then (m_rat_Cmp z17.fBurst z18.fBurst).bind fun zik=>some (decide (zik ≤ 0)) else some false).bind fun zfz=>(if zfz then (m_rat_Cmp z17.fRate z18.fRate).bind fun zil=>some (decide (zil ≤ 0)) else some false).bind fun zim=>some zim
set_option maxRecDepth 20000 in
theorem w_curve_dominates (Z : Zp)   (z17 : z1) (z18 : z1) (r : Bool) (w₀ : World) (hz : PZ [] w₀ Z)
  (h : m_curve_dominates z17 z18 = some r) :
  Calls Try.prog 61 #[(.agg #[(.int .i64 z17.fBurst.fN),(.int .i64 z17.fBurst.fD),(.int .i64 z17.fRate.fN),(.int .i64 z17.fRate.fD)]),(.agg #[(.int .i64 z18.fBurst.fN),(.int .i64 z18.fBurst.fD),(.int .i64 z18.fRate.fN),(.int .i64 z18.fRate.fD)])] w₀ fun e w'=>e = .returned (.bool r) ∧ Hp [] w₀ w' []:=by
 unfold m_curve_dominates at h
 refine Calls.ofWC (vs:=[(.agg #[(.int .i64 z17.fBurst.fN),(.int .i64 z17.fBurst.fD),(.int .i64 z17.fRate.fN),(.int .i64 z17.fRate.fD)]),(.agg #[(.int .i64 z18.fBurst.fN),(.int .i64 z18.fBurst.fD),(.int .i64 z18.fRate.fN),(.int .i64 z18.fRate.fD)])]) (pre:=[]) (env:=[(0,(.agg #[(.int .i64 z17.fBurst.fN),(.int .i64 z17.fBurst.fD),(.int .i64 z17.fRate.fN),(.int .i64 z17.fRate.fD)])),(1,(.agg #[(.int .i64 z18.fBurst.fN),(.int .i64 z18.fBurst.fD),(.int .i64 z18.fRate.fN),(.int .i64 z18.fRate.fD)]))]) Try.func61 rfl Try.ntmps61 rfl (Hp.nil w₀ _) rfl ?_
 refine WC.seq ?_
 refine WC.region ?_
 refine WL.new (dd:=2) rfl rfl rfl (e_box (cs:=[(.int .i64 z17.fBurst.fN),(.int .i64 z17.fBurst.fD),(.int .i64 z17.fRate.fN),(.int .i64 z17.fRate.fD)]) rfl rfl) ?_
 intro z85 _
 refine WL.new (dd:=3) rfl rfl rfl (e_box (cs:=[(.int .i64 z18.fBurst.fN),(.int .i64 z18.fBurst.fD),(.int .i64 z18.fRate.fN),(.int .i64 z18.fRate.fD)]) rfl rfl) ?_
 intro z86 _
 refine WL.quiet (d:=4) rfl rfl rfl (q_assign rfl) ?_
 refine WL.nil ?_
 refine WX.then ?_
 refine WC.seq ?_
 obtain ⟨zfz,zmP,h⟩:=ze h
 obtain ⟨zim,zmQ,h⟩:=ze h
 refine WC.region ?_
 refine WL.quiet (d:=5) rfl rfl rfl (q_loadA (cs:=[(.int .i64 z17.fBurst.fN),(.int .i64 z17.fBurst.fD),(.int .i64 z17.fRate.fN),(.int .i64 z17.fRate.fD)]) aggT_35 rfl rfl (rd_all (.there .here))) ?_
 refine WL.quiet (d:=6) rfl rfl rfl (q_loadA (cs:=[(.int .i64 z18.fBurst.fN),(.int .i64 z18.fBurst.fD),(.int .i64 z18.fRate.fN),(.int .i64 z18.fRate.fD)]) aggT_35 rfl rfl (rd_all .here)) ?_
 refine WL.quiet (d:=7) rfl rfl rfl (q_aggneq (enc:=e35) (a:=z17) (b:=z18) eqT_35 rfl rfl) ?_
 refine WL.quiet (d:=8) rfl rfl rfl (q_move rfl) ?_
 refine WL.cut0 True [(2,(.pointer (some ⟨z85,0,none⟩))),(3,(.pointer (some ⟨z86,0,none⟩))),(4,(.bool false)),(15,(.bool zfz))] [stb z86 35 [(.int .i64 z18.fBurst.fN),(.int .i64 z18.fBurst.fD),(.int .i64 z18.fRate.fN),(.int .i64 z18.fRate.fD)],stb z85 35 [(.int .i64 z17.fBurst.fN),(.int .i64 z17.fBurst.fD),(.int .i64 z17.fRate.fN),(.int .i64 z17.fRate.fD)]] 7 ?_ (fun _=>?_)
 ·rcases Bool.eq_false_or_eq_true (decide (z17 ≠ z18)) with hb' | hb'
  ·have zmR:=hb'; clear hb'
   have zdT:=ite_t zmP zmR
   obtain ⟨zik,zqM,zdT⟩:=ze zdT
   replace zdT:=Option.some.inj zdT
   refine WL.pin (i:=8) rfl zmR ?_
   refine WL.quiet (d:=9) rfl rfl rfl (q_fieldAddr fo_35_0 rfl rfl) ?_
   refine WL.quiet (d:=10) rfl rfl rfl (q_loadA (cs:=[(.int .i64 z17.fBurst.fN),(.int .i64 z17.fBurst.fD)]) aggT_30 rfl rfl (rd_sub (s:=2) (.there .here) rfl)) ?_
   refine WL.quiet (d:=11) rfl rfl rfl (q_fieldAddr fo_35_0 rfl rfl) ?_
   refine WL.quiet (d:=12) rfl rfl rfl (q_loadA (cs:=[(.int .i64 z18.fBurst.fN),(.int .i64 z18.fBurst.fD)]) aggT_30 rfl rfl (rd_sub (s:=2) .here rfl)) ?_
   refine WL.callD (dd:=13) rfl rfl rfl (zn (l:=[.tmp 10,.tmp 12]) Try.call18 (.cons rfl (.cons rfl .nil))) (.nil : Sel [stb z86 35 [(.int .i64 z18.fBurst.fN),(.int .i64 z18.fBurst.fD),(.int .i64 z18.fRate.fN),(.int .i64 z18.fRate.fD)],stb z85 35 [(.int .i64 z17.fBurst.fN),(.int .i64 z17.fBurst.fD),(.int .i64 z17.fRate.fN),(.int .i64 z17.fRate.fD)]] [] [stb z86 35 [(.int .i64 z18.fBurst.fN),(.int .i64 z18.fBurst.fD),(.int .i64 z18.fRate.fN),(.int .i64 z18.fRate.fD)],stb z85 35 [(.int .i64 z17.fBurst.fN),(.int .i64 z17.fBurst.fD),(.int .i64 z17.fRate.fN),(.int .i64 z17.fRate.fD)]]) (fun w hw=>by have pz:=(hz.call hw (.nil : Sel [stb z86 35 [(.int .i64 z18.fBurst.fN),(.int .i64 z18.fBurst.fD),(.int .i64 z18.fRate.fN),(.int .i64 z18.fRate.fD)],stb z85 35 [(.int .i64 z17.fBurst.fN),(.int .i64 z17.fBurst.fD),(.int .i64 z17.fRate.fN),(.int .i64 z17.fRate.fD)]] [] [stb z86 35 [(.int .i64 z18.fBurst.fN),(.int .i64 z18.fBurst.fD),(.int .i64 z18.fRate.fN),(.int .i64 z18.fRate.fD)],stb z85 35 [(.int .i64 z17.fBurst.fN),(.int .i64 z17.fBurst.fD),(.int .i64 z17.fRate.fN),(.int .i64 z17.fRate.fD)]])); exact w_rat_Cmp (Z:=_)  (z21:=z17.fBurst) (z23:=z18.fBurst) (r:=zik) w pz  zqM) ?_
   refine WL.quiet (d:=14) rfl rfl rfl (q_leq rfl rfl) ?_
   refine WL.quiet (d:=15) rfl rfl rfl (q_pickT rfl rfl) ?_
   exact WL.cutEnd () trivial (.cons rfl (.cons rfl (.cons rfl (.cons (zp zdT) .nil)))) (.cons .here (.cons .here .nil))
  ·have zmS:=hb'; clear hb'
   have zin:=ite_f zmP zmS
   replace zin:=Option.some.inj zin
   refine WL.pin (i:=8) rfl zmS ?_
   refine WL.skip rfl rfl rfl ?_
   refine WL.skip rfl rfl rfl ?_
   refine WL.skip rfl rfl rfl ?_
   refine WL.skip rfl rfl rfl ?_
   refine WL.skip rfl rfl rfl ?_
   refine WL.skip rfl rfl rfl ?_
   refine WL.quiet (d:=15) rfl rfl rfl (q_pickF rfl rfl) ?_
   exact WL.cutEnd () trivial (.cons rfl (.cons rfl (.cons rfl (.cons (zp zin) .nil)))) (.cons .here (.cons .here .nil))
 ·skip
  refine WL.quiet (d:=16) rfl rfl rfl (q_move rfl) ?_
  refine WL.cut0 True [(4,(.bool false)),(23,(.bool zim))] [stb z86 35 [(.int .i64 z18.fBurst.fN),(.int .i64 z18.fBurst.fD),(.int .i64 z18.fRate.fN),(.int .i64 z18.fRate.fD)],stb z85 35 [(.int .i64 z17.fBurst.fN),(.int .i64 z17.fBurst.fD),(.int .i64 z17.fRate.fN),(.int .i64 z17.fRate.fD)]] 7 ?_ (fun _=>?_)
  ·rcases Bool.eq_false_or_eq_true zfz with hb' | hb'
   ·have zmT:=hb'; clear hb'
    have zdU:=ite_t zmQ zmT
    obtain ⟨zil,zqN,zdU⟩:=ze zdU
    replace zdU:=Option.some.inj zdU
    refine WL.pin (i:=16) rfl zmT ?_
    refine WL.quiet (d:=17) rfl rfl rfl (q_fieldAddr fo_35_1 rfl rfl) ?_
    refine WL.quiet (d:=18) rfl rfl rfl (q_loadA (cs:=[(.int .i64 z17.fRate.fN),(.int .i64 z17.fRate.fD)]) aggT_30 rfl rfl (rd_sub (s:=2) (.there .here) rfl)) ?_
    refine WL.quiet (d:=19) rfl rfl rfl (q_fieldAddr fo_35_1 rfl rfl) ?_
    refine WL.quiet (d:=20) rfl rfl rfl (q_loadA (cs:=[(.int .i64 z18.fRate.fN),(.int .i64 z18.fRate.fD)]) aggT_30 rfl rfl (rd_sub (s:=2) .here rfl)) ?_
    refine WL.callD (dd:=21) rfl rfl rfl (zn (l:=[.tmp 18,.tmp 20]) Try.call18 (.cons rfl (.cons rfl .nil))) (.nil : Sel [stb z86 35 [(.int .i64 z18.fBurst.fN),(.int .i64 z18.fBurst.fD),(.int .i64 z18.fRate.fN),(.int .i64 z18.fRate.fD)],stb z85 35 [(.int .i64 z17.fBurst.fN),(.int .i64 z17.fBurst.fD),(.int .i64 z17.fRate.fN),(.int .i64 z17.fRate.fD)]] [] [stb z86 35 [(.int .i64 z18.fBurst.fN),(.int .i64 z18.fBurst.fD),(.int .i64 z18.fRate.fN),(.int .i64 z18.fRate.fD)],stb z85 35 [(.int .i64 z17.fBurst.fN),(.int .i64 z17.fBurst.fD),(.int .i64 z17.fRate.fN),(.int .i64 z17.fRate.fD)]]) (fun w hw=>by have pz:=(hz.call hw (.nil : Sel [stb z86 35 [(.int .i64 z18.fBurst.fN),(.int .i64 z18.fBurst.fD),(.int .i64 z18.fRate.fN),(.int .i64 z18.fRate.fD)],stb z85 35 [(.int .i64 z17.fBurst.fN),(.int .i64 z17.fBurst.fD),(.int .i64 z17.fRate.fN),(.int .i64 z17.fRate.fD)]] [] [stb z86 35 [(.int .i64 z18.fBurst.fN),(.int .i64 z18.fBurst.fD),(.int .i64 z18.fRate.fN),(.int .i64 z18.fRate.fD)],stb z85 35 [(.int .i64 z17.fBurst.fN),(.int .i64 z17.fBurst.fD),(.int .i64 z17.fRate.fN),(.int .i64 z17.fRate.fD)]])); exact w_rat_Cmp (Z:=_)  (z21:=z17.fRate) (z23:=z18.fRate) (r:=zil) w pz  zqN) ?_
    refine WL.quiet (d:=22) rfl rfl rfl (q_leq rfl rfl) ?_
    refine WL.quiet (d:=23) rfl rfl rfl (q_pickT rfl rfl) ?_
    exact WL.cutEnd () trivial (.cons rfl (.cons (zp zdU) .nil)) (.cons .here (.cons .here .nil))
   ·have zmU:=hb'; clear hb'
    have zio:=ite_f zmQ zmU
    replace zio:=Option.some.inj zio
    refine WL.pin (i:=16) rfl zmU ?_
    refine WL.skip rfl rfl rfl ?_
    refine WL.skip rfl rfl rfl ?_
    refine WL.skip rfl rfl rfl ?_
    refine WL.skip rfl rfl rfl ?_
    refine WL.skip rfl rfl rfl ?_
    refine WL.skip rfl rfl rfl ?_
    refine WL.quiet (d:=23) rfl rfl rfl (q_pickF rfl rfl) ?_
    exact WL.cutEnd () trivial (.cons rfl (.cons (zp zio) .nil)) (.cons .here (.cons .here .nil))
  ·skip
   refine WL.quiet (d:=4) rfl rfl rfl (q_assign rfl) ?_
   refine WL.nil ?_
   refine WX.then ?_
   refine WC.ret ?_
   obtain rfl:=Option.some.inj h
   refine WX.bpRet Try.results61 (.tmp rfl .nil) (fun w hw=>?_)
   exact ⟨ret1 rfl,hw.sub .nil⟩
def m_curve_norm_1 (z2q : z1) (z7e : z1) : Option Bool :=
 (m_curve_dominates z2q z7e).bind fun ziq=>some ziq
set_option maxRecDepth 20000 in
theorem w_curve_norm_1 (Z : Zp)  (zdV : Addr) (z2q : z1) (z7e : z1) (r : Bool) (w₀ : World) (hz : PZ [] w₀ Z)
  (zqO : ZC Z zdV [(.int .i64 z7e.fBurst.fN),(.int .i64 z7e.fBurst.fD),(.int .i64 z7e.fRate.fN),(.int .i64 z7e.fRate.fD)])
  (h : m_curve_norm_1 z2q z7e = some r) :
  Calls Try.prog 60 #[(.agg #[(.int .i64 z2q.fBurst.fN),(.int .i64 z2q.fBurst.fD),(.int .i64 z2q.fRate.fN),(.int .i64 z2q.fRate.fD)]),(.pointer (some zdV))] w₀ fun e w'=>e = .returned (.bool r) ∧ Hp [] w₀ w' []:=by
 unfold m_curve_norm_1 at h
 refine Calls.ofWC (vs:=[(.agg #[(.int .i64 z2q.fBurst.fN),(.int .i64 z2q.fBurst.fD),(.int .i64 z2q.fRate.fN),(.int .i64 z2q.fRate.fD)]),(.pointer (some zdV))]) (pre:=[]) (env:=[(0,(.agg #[(.int .i64 z2q.fBurst.fN),(.int .i64 z2q.fBurst.fD),(.int .i64 z2q.fRate.fN),(.int .i64 z2q.fRate.fD)])),(1,(.pointer (some zdV)))]) Try.func60 rfl Try.ntmps60 rfl (Hp.nil w₀ _) rfl ?_
 refine WC.seq ?_
 refine WC.region ?_
 refine WL.new (dd:=2) rfl rfl rfl (e_box (cs:=[(.int .i64 z2q.fBurst.fN),(.int .i64 z2q.fBurst.fD),(.int .i64 z2q.fRate.fN),(.int .i64 z2q.fRate.fD)]) rfl rfl) ?_
 intro zfA _
 refine WL.quiet (d:=3) rfl rfl rfl (q_assign rfl) ?_
 refine WL.nil ?_
 refine WX.then ?_
 refine WC.seq ?_
 obtain ⟨ziq,zqP,h⟩:=ze h
 refine WC.region ?_
 refine WL.quiet (d:=4) rfl rfl rfl (q_loadA (cs:=[(.int .i64 z2q.fBurst.fN),(.int .i64 z2q.fBurst.fD),(.int .i64 z2q.fRate.fN),(.int .i64 z2q.fRate.fD)]) aggT_35 rfl rfl (rd_all .here)) ?_
 refine WL.quiet (d:=5) rfl rfl rfl (q_loadA (cs:=[(.int .i64 z7e.fBurst.fN),(.int .i64 z7e.fBurst.fD),(.int .i64 z7e.fRate.fN),(.int .i64 z7e.fRate.fD)]) aggT_35 rfl rfl (rd_zs hz.pv zqO)) ?_
 refine WL.callD (dd:=6) rfl rfl rfl (zn (l:=[.tmp 4,.tmp 5]) Try.call61 (.cons rfl (.cons rfl .nil))) (.nil : Sel [stb zfA 35 [(.int .i64 z2q.fBurst.fN),(.int .i64 z2q.fBurst.fD),(.int .i64 z2q.fRate.fN),(.int .i64 z2q.fRate.fD)]] [] [stb zfA 35 [(.int .i64 z2q.fBurst.fN),(.int .i64 z2q.fBurst.fD),(.int .i64 z2q.fRate.fN),(.int .i64 z2q.fRate.fD)]]) (fun w hw=>by have pz:=(hz.call hw (.nil : Sel [stb zfA 35 [(.int .i64 z2q.fBurst.fN),(.int .i64 z2q.fBurst.fD),(.int .i64 z2q.fRate.fN),(.int .i64 z2q.fRate.fD)]] [] [stb zfA 35 [(.int .i64 z2q.fBurst.fN),(.int .i64 z2q.fBurst.fD),(.int .i64 z2q.fRate.fN),(.int .i64 z2q.fRate.fD)]])); exact w_curve_dominates (Z:=_)  (z17:=z2q) (z18:=z7e) (r:=ziq) w pz  zqP) ?_
 refine WL.quiet (d:=3) rfl rfl rfl (q_assign rfl) ?_
 refine WL.nil ?_
 refine WX.then ?_
 refine WC.ret ?_
 obtain rfl:=Option.some.inj h
 refine WX.bpRet Try.results60 (.tmp rfl .nil) (fun w hw=>?_)
 exact ⟨ret1 rfl,hw.sub .nil⟩
def m_curve_norm_2 (z2D : z1) (z2E : z1) : Option Int :=
 (m_rat_Cmp z2D.fBurst z2E.fBurst).bind fun zir=>some zir
set_option maxRecDepth 20000 in
theorem w_curve_norm_2 (Z : Zp)   (z2D : z1) (z2E : z1) (r : Int) (w₀ : World) (hz : PZ [] w₀ Z)
  (h : m_curve_norm_2 z2D z2E = some r) :
  Calls Try.prog 63 #[(.agg #[(.int .i64 z2D.fBurst.fN),(.int .i64 z2D.fBurst.fD),(.int .i64 z2D.fRate.fN),(.int .i64 z2D.fRate.fD)]),(.agg #[(.int .i64 z2E.fBurst.fN),(.int .i64 z2E.fBurst.fD),(.int .i64 z2E.fRate.fN),(.int .i64 z2E.fRate.fD)])] w₀ fun e w'=>e = .returned (.int .i64 r) ∧ Hp [] w₀ w' []:=by
 unfold m_curve_norm_2 at h
 refine Calls.ofWC (vs:=[(.agg #[(.int .i64 z2D.fBurst.fN),(.int .i64 z2D.fBurst.fD),(.int .i64 z2D.fRate.fN),(.int .i64 z2D.fRate.fD)]),(.agg #[(.int .i64 z2E.fBurst.fN),(.int .i64 z2E.fBurst.fD),(.int .i64 z2E.fRate.fN),(.int .i64 z2E.fRate.fD)])]) (pre:=[]) (env:=[(0,(.agg #[(.int .i64 z2D.fBurst.fN),(.int .i64 z2D.fBurst.fD),(.int .i64 z2D.fRate.fN),(.int .i64 z2D.fRate.fD)])),(1,(.agg #[(.int .i64 z2E.fBurst.fN),(.int .i64 z2E.fBurst.fD),(.int .i64 z2E.fRate.fN),(.int .i64 z2E.fRate.fD)]))]) Try.func63 rfl Try.ntmps63 rfl (Hp.nil w₀ _) rfl ?_
 refine WC.seq ?_
 refine WC.region ?_
 refine WL.new (dd:=2) rfl rfl rfl (e_box (cs:=[(.int .i64 z2D.fBurst.fN),(.int .i64 z2D.fBurst.fD),(.int .i64 z2D.fRate.fN),(.int .i64 z2D.fRate.fD)]) rfl rfl) ?_
 intro zfB _
 refine WL.new (dd:=3) rfl rfl rfl (e_box (cs:=[(.int .i64 z2E.fBurst.fN),(.int .i64 z2E.fBurst.fD),(.int .i64 z2E.fRate.fN),(.int .i64 z2E.fRate.fD)]) rfl rfl) ?_
 intro zfC _
 refine WL.quiet (d:=4) rfl rfl rfl (q_assign rfl) ?_
 refine WL.nil ?_
 refine WX.then ?_
 refine WC.seq ?_
 obtain ⟨zir,zqQ,h⟩:=ze h
 refine WC.region ?_
 refine WL.quiet (d:=5) rfl rfl rfl (q_fieldAddr fo_35_0 rfl rfl) ?_
 refine WL.quiet (d:=6) rfl rfl rfl (q_loadA (cs:=[(.int .i64 z2D.fBurst.fN),(.int .i64 z2D.fBurst.fD)]) aggT_30 rfl rfl (rd_sub (s:=2) (.there .here) rfl)) ?_
 refine WL.quiet (d:=7) rfl rfl rfl (q_fieldAddr fo_35_0 rfl rfl) ?_
 refine WL.quiet (d:=8) rfl rfl rfl (q_loadA (cs:=[(.int .i64 z2E.fBurst.fN),(.int .i64 z2E.fBurst.fD)]) aggT_30 rfl rfl (rd_sub (s:=2) .here rfl)) ?_
 refine WL.callD (dd:=9) rfl rfl rfl (zn (l:=[.tmp 6,.tmp 8]) Try.call18 (.cons rfl (.cons rfl .nil))) (.nil : Sel [stb zfC 35 [(.int .i64 z2E.fBurst.fN),(.int .i64 z2E.fBurst.fD),(.int .i64 z2E.fRate.fN),(.int .i64 z2E.fRate.fD)],stb zfB 35 [(.int .i64 z2D.fBurst.fN),(.int .i64 z2D.fBurst.fD),(.int .i64 z2D.fRate.fN),(.int .i64 z2D.fRate.fD)]] [] [stb zfC 35 [(.int .i64 z2E.fBurst.fN),(.int .i64 z2E.fBurst.fD),(.int .i64 z2E.fRate.fN),(.int .i64 z2E.fRate.fD)],stb zfB 35 [(.int .i64 z2D.fBurst.fN),(.int .i64 z2D.fBurst.fD),(.int .i64 z2D.fRate.fN),(.int .i64 z2D.fRate.fD)]]) (fun w hw=>by have pz:=(hz.call hw (.nil : Sel [stb zfC 35 [(.int .i64 z2E.fBurst.fN),(.int .i64 z2E.fBurst.fD),(.int .i64 z2E.fRate.fN),(.int .i64 z2E.fRate.fD)],stb zfB 35 [(.int .i64 z2D.fBurst.fN),(.int .i64 z2D.fBurst.fD),(.int .i64 z2D.fRate.fN),(.int .i64 z2D.fRate.fD)]] [] [stb zfC 35 [(.int .i64 z2E.fBurst.fN),(.int .i64 z2E.fBurst.fD),(.int .i64 z2E.fRate.fN),(.int .i64 z2E.fRate.fD)],stb zfB 35 [(.int .i64 z2D.fBurst.fN),(.int .i64 z2D.fBurst.fD),(.int .i64 z2D.fRate.fN),(.int .i64 z2D.fRate.fD)]])); exact w_rat_Cmp (Z:=_)  (z21:=z2D.fBurst) (z23:=z2E.fBurst) (r:=zir) w pz  zqQ) ?_
 refine WL.quiet (d:=4) rfl rfl rfl (q_assign rfl) ?_
 refine WL.nil ?_
 refine WX.then ?_
 refine WC.ret ?_
 obtain rfl:=Option.some.inj h
 refine WX.bpRet Try.results63 (.tmp rfl .nil) (fun w hw=>?_)
 exact ⟨ret1 rfl,hw.sub .nil⟩
def m_bits_Len (z9g : Int) : Option Int:=chk ((0 : Int) ≤ z9g ∧ z9g ≤ 18446744073709551615) (some ((Go.Lib.bitLen (z9g).toNat : Nat) : Int))
theorem w_bits_Len (Z : Zp) (z9g : Int) (r : Int) (w₀ : World) (hz : PZ [] w₀ Z) (h : m_bits_Len z9g = some r) : Calls Try.prog 74 #[.int .u64 z9g] w₀ fun e w'=>e = .returned (.int .i64 r) ∧ Hp [] w₀ w' []:=by
 obtain ⟨h0,h⟩:=chk_elim h
 obtain rfl:=Option.some.inj h
 refine (Try.bits_Len z9g w₀ h0.1 h0.2).mono ?_
 rintro e w' ⟨rfl,rfl⟩
 exact ⟨rfl,Hp.nil w' []⟩
theorem srtA_73 : ∀ w,(isAgg (Try.laysSlF014_f73_ren.t 24)).run Try.prog w = .ok true w:=fun _=>by kernel_rfl
theorem srtZ_73 : ∀ w,(Go.sizeOf (Try.laysSlF014_f73_ren.t 24)).run Try.prog w = .ok 4 w:=fun _=>by kernel_rfl
def m_slices_pdqsortCmpFunc_api_Bucket (z5X : List z1) (zdW : Int) (zdX : Int) (zcz : Int) (zbc : z1 → z1 → Option Int) : Option (List z1):=chk ((zdW = 0 ∧ zdX = ((z5X.length : Nat) : Int)) ∧ (0 ≤ zcz ∧ zcz < 4611686018427387904 ∧ z5X.length < 4611686018427387904)) (chk (ordB zbc (sortBy zbc z5X) = true) (some (sortBy zbc z5X)))
theorem w_slices_pdqsortCmpFunc_api_Bucket (Z : Zp) (zbd : Option Addr) (zbe : Nat) (zdY : FuncId) (zis : List Value) (z5X : List z1) (zdW : Int) (zdX : Int) (zcz : Int) (zbc : z1 → z1 → Option Int) (r : List z1) (w₀ : World) (hz : PZ (fps [row (.slice zbd z5X.length zbe) 35 4 (z5X.flatMap e35)]) w₀ Z)
  (zqR : ∀ args w,(callFunc zdY args).run Try.prog w = .ok (.enter zdY args) w)
  (zqS : ∀ w : World,PZ [] w Z → ∀ (x0 : z1) (x1 : z1) (r : Int),zbc x0 x1 = some r → Calls Try.prog zdY (([(.agg #[(.int .i64 x0.fBurst.fN),(.int .i64 x0.fBurst.fD),(.int .i64 x0.fRate.fN),(.int .i64 x0.fRate.fD)]),(.agg #[(.int .i64 x1.fBurst.fN),(.int .i64 x1.fBurst.fD),(.int .i64 x1.fRate.fN),(.int .i64 x1.fRate.fD)])] : List Value) ++ zis).toArray w fun e w'=>e = .returned (.int .i64 r) ∧ Hp [] w w' [])
  (h : m_slices_pdqsortCmpFunc_api_Bucket z5X zdW zdX zcz zbc = some r) (hown : Hp (fps [row (.slice zbd z5X.length zbe) 35 4 (z5X.flatMap e35)]) w₀ w₀ [row (.slice zbd z5X.length zbe) 35 4 (z5X.flatMap e35)]) :
  Calls Try.prog 73 #[(.slice zbd z5X.length zbe),(.int .i64 zdW),(.int .i64 zdX),(.int .i64 zcz),(.func (.func zdY) #[] (zis).toArray)] w₀ fun e w'=>e = .returned (.tuple #[]) ∧ (r.length = z5X.length) ∧ Hp (fps [row (.slice zbd z5X.length zbe) 35 4 (z5X.flatMap e35)]) w₀ w' [row (.slice zbd r.length zbe) 35 4 (r.flatMap e35)]:=by
 obtain ⟨h0,h⟩:=chk_elim h
 obtain ⟨h1,h⟩:=chk_elim h
 have hr:=(Option.some.inj h).symm
 exact sort_func (P:=Try.prog) (f:=73) (e:=35) (k:=4) (enc:=e35) (fun _=>rfl) (by decide) e35_oc (fun β _ enc cf g cb hO blk off cap d0 w0 eg hC R=>Try.pdqsortCmpFunc_all_f73 4 srtA_73 srtZ_73 enc cf g cb hO blk off cap d0 w0 eg hC R) (Try.pdqsortCmpFunc_none_f73 (α:=Unit)) hz zqR zqS h0 h1 hr hown
def m_slices_SortFunc_api_Curve_api_Bucket (z2d : List z1) (zcA : z1 → z1 → Option Int) : Option (List z1) :=
 (m_bits_Len (u64 ((z2d.length : Nat) : Int))).bind fun zfD=>(m_slices_pdqsortCmpFunc_api_Bucket z2d 0 ((z2d.length : Nat) : Int) zfD zcA).bind fun zfE=>some zfE
set_option maxRecDepth 20000 in
theorem w_slices_SortFunc_api_Curve_api_Bucket (Z : Zp)  (z4y : Option Addr) (z4z : Nat) (zab : FuncId) (zcB : List Value) (z2d : List z1) (zcA : z1 → z1 → Option Int) (r : List z1) (w₀ : World) (hz : PZ (fps [row (.slice z4y z2d.length z4z) 35 4 (z2d.flatMap e35)]) w₀ Z)
  (zqT : ∀ args w,(callFunc zab args).run Try.prog w = .ok (.enter zab args) w)
  (zqU : ∀ w : World,PZ [] w Z → ∀ (x0 : z1) (x1 : z1) (r : Int),zcA x0 x1 = some r → Calls Try.prog zab (([(.agg #[(.int .i64 x0.fBurst.fN),(.int .i64 x0.fBurst.fD),(.int .i64 x0.fRate.fN),(.int .i64 x0.fRate.fD)]),(.agg #[(.int .i64 x1.fBurst.fN),(.int .i64 x1.fBurst.fD),(.int .i64 x1.fRate.fN),(.int .i64 x1.fRate.fD)])] : List Value) ++ zcB).toArray w fun e w'=>e = .returned (.int .i64 r) ∧ Hp [] w w' [])
  (h : m_slices_SortFunc_api_Curve_api_Bucket z2d zcA = some r)
  (hown : Hp (fps [row (.slice z4y z2d.length z4z) 35 4 (z2d.flatMap e35)]) w₀ w₀ [row (.slice z4y z2d.length z4z) 35 4 (z2d.flatMap e35)]) :
  Calls Try.prog 62 #[(.slice z4y z2d.length z4z),(.func (.func zab) #[] (zcB).toArray)] w₀ fun e w'=>e = .returned (.tuple #[]) ∧ (r.length = z2d.length) ∧ Hp (fps [row (.slice z4y z2d.length z4z) 35 4 (z2d.flatMap e35)]) w₀ w' [row (.slice z4y r.length z4z) 35 4 (r.flatMap e35)]:=by
 unfold m_slices_SortFunc_api_Curve_api_Bucket at h
 refine Calls.ofWC (vs:=[(.slice z4y z2d.length z4z),(.func (.func zab) #[] (zcB).toArray)]) (pre:=[row (.slice z4y z2d.length z4z) 35 4 (z2d.flatMap e35)]) (env:=[(0,(.slice z4y z2d.length z4z)),(1,(.func (.func zab) #[] (zcB).toArray))]) Try.func62 rfl Try.ntmps62 rfl (hown) rfl ?_
 refine WC.seq ?_
 refine WC.region ?_
 refine WL.quiet (d:=5) rfl rfl rfl (q_move rfl) ?_
 refine WL.quiet (d:=6) rfl rfl rfl (q_len Try.underlying39 rfl) ?_
 refine WL.quiet (d:=4) rfl rfl rfl (q_assign rfl) ?_
 refine WL.nil ?_
 refine WX.then ?_
 obtain ⟨zfD,zqV,h⟩:=ze h
 obtain ⟨zfE,zqW,h⟩:=ze h
 refine WC.region ?_
 refine WL.quiet (d:=7) rfl rfl rfl (q_move rfl) ?_
 refine WL.quiet (d:=8) rfl rfl rfl (q_move rfl) ?_
 refine WL.quiet (d:=9) rfl rfl rfl (q_move rfl) ?_
 refine WL.quiet (d:=10) rfl rfl rfl (q_conv Try.underlying3 Try.underlying120 rfl rfl) ?_
 refine WL.callD (dd:=11) rfl rfl rfl (zn (l:=[.tmp 10]) Try.call74 (.cons rfl .nil)) (.nil : Sel [row (.slice z4y z2d.length z4z) 35 4 (z2d.flatMap e35)] [] [row (.slice z4y z2d.length z4z) 35 4 (z2d.flatMap e35)]) (fun w hw=>by have pz:=(hz.call hw (.nil : Sel [row (.slice z4y z2d.length z4z) 35 4 (z2d.flatMap e35)] [] [row (.slice z4y z2d.length z4z) 35 4 (z2d.flatMap e35)])); exact w_bits_Len (Z:=_)  (z9g:=(u64 ((z2d.length : Nat) : Int))) (r:=zfD) w pz  zqV) ?_
 refine WL.quiet (d:=12) rfl rfl rfl (q_move rfl) ?_
 refine WL.enter0 (dd:=13) rfl rfl rfl (zn (l:=[.tmp 7,.const (.int .i64 0),.tmp 8,.tmp 11,.tmp 12]) Try.call73 (.cons rfl (.cons rfl (.cons rfl (.cons rfl (.cons rfl .nil)))))) ((.cons .here .nil) : Sel [row (.slice z4y z2d.length z4z) 35 4 (z2d.flatMap e35)] [row (.slice z4y z2d.length z4z) 35 4 (z2d.flatMap e35)] []) (fun w hw=>by have pz:=(hz.call hw ((.cons .here .nil) : Sel [row (.slice z4y z2d.length z4z) 35 4 (z2d.flatMap e35)] [row (.slice z4y z2d.length z4z) 35 4 (z2d.flatMap e35)] [])); exact w_slices_pdqsortCmpFunc_api_Bucket (Z:=_) (zbd:=z4y) (zbe:=z4z) (zdY:=zab) (zis:=zcB) (z5X:=z2d) (zdW:=0) (zdX:=((z2d.length : Nat) : Int)) (zcz:=zfD) (zbc:=zcA) (r:=zfE) w pz zqT zqU zqW (hw.owns ((.cons .here .nil) : Sel [row (.slice z4y z2d.length z4z) 35 4 (z2d.flatMap e35)] [row (.slice z4y z2d.length z4z) 35 4 (z2d.flatMap e35)] []))) ?_
 rintro  zmV
 refine WL.repin (i:=0) rfl (u:=(.slice z4y zfE.length z4z)) (slen zmV.symm) ?_
 refine WL.nil ?_
 obtain rfl:=Option.some.inj h
 refine WX.bpNormal Try.results62 .nil (fun w hw=>?_)
 exact ⟨ret0,(zmV.trans rfl),hw.sub (.cons .here .nil)⟩
def m_curve_norm_L2 (zh : List z1) (z9h : (List z1) → Option (List z1)) : Nat → (List z1) → Int → Option (List z1)
 | 0,_,_=>none
 | zit + 1,z1x,zm=>if decide (zm < ((zh.length : Nat) : Int)) then jp1 (fun (z87 : List z1)=>m_curve_norm_L2 zh z9h zit z87 (i64 (zm + 1))) fun zfF=>chk ((0 : Int) ≤ zm ∧ zm < ((zh.length : Nat) : Int)) ((m_slices_Contains_api_Curve_api_Bucket z1x (⟨(⟨(((nth zh zm).fBurst).fN),(((nth zh zm).fBurst).fD)⟩ : z2),(⟨(((nth zh zm).fRate).fN),(((nth zh zm).fRate).fD)⟩ : z2)⟩ : z1)).bind fun zfG=>(if !zfG then (m_slices_ContainsFunc_api_Curve_api_Bucket zh (fun (y0 : z1)=>m_curve_norm_1 y0 (⟨(⟨(((nth zh zm).fBurst).fN),(((nth zh zm).fBurst).fD)⟩ : z2),(⟨(((nth zh zm).fRate).fN),(((nth zh zm).fRate).fD)⟩ : z2)⟩ : z1))).bind fun ziu=>some (!ziu) else some false).bind fun ziv=>if ziv then chk ((((z1x ++ ([(⟨(⟨(((nth zh zm).fBurst).fN),(((nth zh zm).fBurst).fD)⟩ : z2),(⟨(((nth zh zm).fRate).fN),(((nth zh zm).fRate).fD)⟩ : z2)⟩ : z1)] : List z1)).length : Nat) : Int) * 32 ≤ 140737488355328 ∧ (((z1x ++ ([(⟨(⟨(((nth zh zm).fBurst).fN),(((nth zh zm).fBurst).fD)⟩ : z2),(⟨(((nth zh zm).fRate).fN),(((nth zh zm).fRate).fD)⟩ : z2)⟩ : z1)] : List z1)).length : Nat) : Int) ≤ 4611686018427387904) (zfF (z1x ++ ([(⟨(⟨(((nth zh zm).fBurst).fN),(((nth zh zm).fBurst).fD)⟩ : z2),(⟨(((nth zh zm).fRate).fN),(((nth zh zm).fRate).fD)⟩ : z2)⟩ : z1)] : List z1))) else zfF z1x) else z9h z1x
theorem m_curve_norm_L2_fuel {n : Nat} {zh : List z1} {z9h : (List z1) → Option (List z1)} {z1x : List z1} {zm : Int} {r : List z1} (h : m_curve_norm_L2 zh z9h n z1x zm = some r) : ∃ m,n = m + 1:=by
 cases n with
 | zero=>cases h
 | succ m=>exact ⟨m,rfl⟩
def m_curve_norm (zh : List z1) : Option (List z1) :=
 jp1 (fun (z4o : List z1)=>(m_slices_SortFunc_api_Curve_api_Bucket z4o (fun (y0 : z1) (y1 : z1)=>m_curve_norm_2 y0 y1)).bind fun zfH=>some zfH) fun z9h=>m_curve_norm_L2 zh z9h FUEL ([] : List z1) 0
set_option maxRecDepth 20000 in
theorem w_curve_norm (Z : Zp)  (z7x : Option Addr) (z7y : Nat) (zh : List z1) (r : List z1) (w₀ : World) (hz : PZ [] w₀ Z)
  (zmW : ZS Z 4 (fun r x=>r = e35 x) z7x z7y zh)
  (h : m_curve_norm zh = some r) :
  Calls Try.prog 48 #[(.slice z7x zh.length z7y)] w₀ fun e w'=>∃ zmX : Option Addr,∃ zmY : Nat,e = .returned (.slice zmX r.length zmY) ∧ True ∧ Hp [] w₀ w' [row (.slice zmX r.length zmY) 35 4 (r.flatMap e35)]:=by
 unfold m_curve_norm at h
 refine Calls.ofWC (vs:=[(.slice z7x zh.length z7y)]) (pre:=[]) (env:=[(0,(.slice z7x zh.length z7y))]) Try.func48 rfl Try.ntmps48 rfl (Hp.nil w₀ _) rfl ?_
 refine WC.seq ?_
 refine WC.region ?_
 refine WL.quiet (d:=2) rfl rfl rfl (q_assign rfl) ?_
 refine WL.nil ?_
 refine WX.then ?_
 refine WC.seq ?_
 refine WC.region ?_
 refine WL.quiet (d:=3) rfl rfl rfl (q_assign rfl) ?_
 refine WL.nil ?_
 refine WX.then ?_
 obtain ⟨z9h,zqX,h⟩:=jp1_elim h
 refine WC.seqMid3 (fun (z4o : List z1) (z6N : Option Addr) (z6O : Nat)=>(z9h z4o = some r)) (fun (z4o : List z1) (z6N : Option Addr) (z6O : Nat)=>[(3,(.slice z6N z4o.length z6O))]) (fun (z4o : List z1) (z6N : Option Addr) (z6O : Nat)=>[row (.slice z6N z4o.length z6O) 35 4 (z4o.flatMap e35)]) ?_ ?_
 ·skip
  refine WC.seq ?_
  refine WC.region ?_
  refine WL.quiet (d:=6) rfl rfl rfl (q_move rfl) ?_
  refine WL.quiet (d:=7) rfl rfl rfl (q_len Try.underlying39 rfl) ?_
  refine WL.quiet (d:=8) rfl rfl rfl (q_move rfl) ?_
  refine WL.nil ?_
  refine WX.then ?_
  refine WC.block ?_
  refine WC.nilRow 35 4 ?_
  refine WC.loop5 (fun (zcC : Nat) (z1x : List z1) (zm : Int) (z38 : Option Addr) (z3a : Nat)=>(m_curve_norm_L2 zh z9h zcC z1x zm = some r)) (fun (zcC : Nat) (z1x : List z1) (zm : Int) (z38 : Option Addr) (z3a : Nat)=>[(0,(.slice z7x zh.length z7y)),(3,(.slice z38 z1x.length z3a)),(6,(.slice z7x zh.length z7y)),(7,(.int .i64 ((zh.length : Nat) : Int))),(8,(.int .i64 zm))]) (fun (zcC : Nat) (z1x : List z1) (zm : Int) (z38 : Option Addr) (z3a : Nat)=>[row (.slice z38 z1x.length z3a) 35 4 (z1x.flatMap e35)]) (fun (zcC : Nat) (z1x : List z1) (zm : Int) (z38 : Option Addr) (z3a : Nat)=>zcC) ⟨FUEL,([] : List z1),0,none,0⟩ h (.cons rfl (.cons rfl (.cons rfl (.cons rfl (.cons rfl .nil))))) (.cons .here .nil) ?_
  rintro zcC z1x zm z38 z3a h
  obtain ⟨zit,rfl⟩:=m_curve_norm_L2_fuel h
  rw [m_curve_norm_L2] at h
  refine WC.seq ?_
  refine WC.region ?_
  refine WL.quiet (d:=9) rfl rfl rfl (q_lss rfl rfl) ?_
  refine WL.nil ?_
  refine WX.then ?_
  refine WC.seq ?_
  refine WC.cond rfl (fun ziw=>?_) (fun ziw=>?_)
  ·replace h:=ite_t h ziw
   refine WC.skip ?_
   refine WX.then ?_
   obtain ⟨zfF,zqY,h⟩:=jp1_elim h
   refine WC.seqMid3 (fun (z87 : List z1) (zcD : Option Addr) (zcE : Nat)=>(zfF z87 = some r)) (fun (z87 : List z1) (zcD : Option Addr) (zcE : Nat)=>[(0,(.slice z7x zh.length z7y)),(3,(.slice zcD z87.length zcE)),(6,(.slice z7x zh.length z7y)),(7,(.int .i64 ((zh.length : Nat) : Int))),(8,(.int .i64 zm))]) (fun (z87 : List z1) (zcD : Option Addr) (zcE : Nat)=>[row (.slice zcD z87.length zcE) 35 4 (z87.flatMap e35)]) ?_ ?_
   ·skip
    refine WC.block ?_
    refine WC.seq ?_
    obtain ⟨zqZ,h⟩:=chk_elim h
    refine WC.region ?_
    refine WL.znth (dd:=10) rfl rfl (Z:=Z) (Pr:=(fun r x=>r = e35 x)) elT_39 rfl rfl zmW zqZ ?_
    rintro zxr zxs zr0 zxt rfl
    refine WL.quiet (d:=11) rfl rfl rfl (q_loadA (cs:=[(.int .i64 (((nth zh zm).fBurst).fN)),(.int .i64 (((nth zh zm).fBurst).fD)),(.int .i64 (((nth zh zm).fRate).fN)),(.int .i64 (((nth zh zm).fRate).fD))]) aggT_35 rfl rfl (rd_zs hz.pv zr0)) ?_
    refine WL.new (dd:=5) rfl rfl rfl (e_alloc (cs:=[(.int .i64 0),(.int .i64 0),(.int .i64 0),(.int .i64 0)]) zeroT_35 rfl) ?_
    intro z4b _
    refine WL.eff0 rfl rfl (e_store (vs:=[(.int .i64 (((nth zh zm).fBurst).fN)),(.int .i64 (((nth zh zm).fBurst).fD)),(.int .i64 (((nth zh zm).fRate).fN)),(.int .i64 (((nth zh zm).fRate).fD))]) (ds:=[(.int .i64 (((nth zh zm).fBurst).fN)),(.int .i64 (((nth zh zm).fBurst).fD)),(.int .i64 (((nth zh zm).fRate).fN)),(.int .i64 (((nth zh zm).fRate).fD))]) sizT_35 rfl rfl rfl rfl (oc_cons rfl (oc_cons rfl (oc_cons rfl (oc_cons rfl oc_nil)))) .here (Nat.le_of_ble_eq_true rfl) rfl) ?_
    refine WL.nil ?_
    refine WX.then ?_
    refine WC.seq ?_
    obtain ⟨zfG,zr1,h⟩:=ze h
    obtain ⟨ziv,zmZ,h⟩:=ze h
    refine WC.region ?_
    refine WL.quiet (d:=12) rfl rfl rfl (q_move rfl) ?_
    refine WL.quiet (d:=13) rfl rfl rfl (q_loadA (cs:=[(.int .i64 (((nth zh zm).fBurst).fN)),(.int .i64 (((nth zh zm).fBurst).fD)),(.int .i64 (((nth zh zm).fRate).fN)),(.int .i64 (((nth zh zm).fRate).fD))]) aggT_35 rfl rfl (rd_all .here)) ?_
    refine WL.callD (dd:=14) rfl rfl rfl (zn (l:=[.tmp 12,.tmp 13]) Try.call59 (.cons rfl (.cons rfl .nil))) (.nil : Sel [stb z4b 35 [(.int .i64 (((nth zh zm).fBurst).fN)),(.int .i64 (((nth zh zm).fBurst).fD)),(.int .i64 (((nth zh zm).fRate).fN)),(.int .i64 (((nth zh zm).fRate).fD))],row (.slice z38 z1x.length z3a) 35 4 (z1x.flatMap e35)] [] [stb z4b 35 [(.int .i64 (((nth zh zm).fBurst).fN)),(.int .i64 (((nth zh zm).fBurst).fD)),(.int .i64 (((nth zh zm).fRate).fN)),(.int .i64 (((nth zh zm).fRate).fD))],row (.slice z38 z1x.length z3a) 35 4 (z1x.flatMap e35)]) (fun w hw=>by have pz:=(hz.call hw (.nil : Sel [stb z4b 35 [(.int .i64 (((nth zh zm).fBurst).fN)),(.int .i64 (((nth zh zm).fBurst).fD)),(.int .i64 (((nth zh zm).fRate).fN)),(.int .i64 (((nth zh zm).fRate).fD))],row (.slice z38 z1x.length z3a) 35 4 (z1x.flatMap e35)] [] [stb z4b 35 [(.int .i64 (((nth zh zm).fBurst).fN)),(.int .i64 (((nth zh zm).fBurst).fD)),(.int .i64 (((nth zh zm).fRate).fN)),(.int .i64 (((nth zh zm).fRate).fD))],row (.slice z38 z1x.length z3a) 35 4 (z1x.flatMap e35)])).lend hw (.nil : Sel [stb z4b 35 [(.int .i64 (((nth zh zm).fBurst).fN)),(.int .i64 (((nth zh zm).fBurst).fD)),(.int .i64 (((nth zh zm).fRate).fN)),(.int .i64 (((nth zh zm).fRate).fD))],row (.slice z38 z1x.length z3a) 35 4 (z1x.flatMap e35)] [] [stb z4b 35 [(.int .i64 (((nth zh zm).fBurst).fN)),(.int .i64 (((nth zh zm).fBurst).fD)),(.int .i64 (((nth zh zm).fRate).fN)),(.int .i64 (((nth zh zm).fRate).fD))],row (.slice z38 z1x.length z3a) 35 4 (z1x.flatMap e35)]) (B:=[row (.slice z38 z1x.length z3a) 35 4 (z1x.flatMap e35)]) (fun _ hx'=>((.cons (.there .here) .nil) : Sel _ [row (.slice z38 z1x.length z3a) 35 4 (z1x.flatMap e35)] _).mem hx'); exact w_slices_Contains_api_Curve_api_Bucket (Z:=_) (zcx:=z38) (zcy:=z3a) (z9f:=z1x) (z2p:=(⟨(⟨(((nth zh zm).fBurst).fN),(((nth zh zm).fBurst).fD)⟩ : z2),(⟨(((nth zh zm).fRate).fN),(((nth zh zm).fRate).fD)⟩ : z2)⟩ : z1)) (r:=zfG) w pz (ZA.row (hw.lent (.nil : Sel [stb z4b 35 [(.int .i64 (((nth zh zm).fBurst).fN)),(.int .i64 (((nth zh zm).fBurst).fD)),(.int .i64 (((nth zh zm).fRate).fN)),(.int .i64 (((nth zh zm).fRate).fD))],row (.slice z38 z1x.length z3a) 35 4 (z1x.flatMap e35)] [] [stb z4b 35 [(.int .i64 (((nth zh zm).fBurst).fN)),(.int .i64 (((nth zh zm).fBurst).fD)),(.int .i64 (((nth zh zm).fRate).fN)),(.int .i64 (((nth zh zm).fRate).fD))],row (.slice z38 z1x.length z3a) 35 4 (z1x.flatMap e35)]) (B:=[row (.slice z38 z1x.length z3a) 35 4 (z1x.flatMap e35)]) (fun _ hx'=>((.cons (.there .here) .nil) : Sel _ [row (.slice z38 z1x.length z3a) 35 4 (z1x.flatMap e35)] _).mem hx') (.head _) _) (RR.flat (enc:=e35) (fun _=>rfl) _) ⟨w,pz.1⟩) zr1) ?_
    refine WL.quiet (d:=15) rfl rfl rfl (q_not rfl) ?_
    refine WL.quiet (d:=16) rfl rfl rfl (q_move rfl) ?_
    refine WL.cut0 True [(0,(.slice z7x zh.length z7y)),(3,(.slice z38 z1x.length z3a)),(6,(.slice z7x zh.length z7y)),(7,(.int .i64 ((zh.length : Nat) : Int))),(8,(.int .i64 zm)),(5,(.pointer (some ⟨z4b,0,none⟩))),(21,(.bool ziv))] [stb z4b 35 [(.int .i64 (((nth zh zm).fBurst).fN)),(.int .i64 (((nth zh zm).fBurst).fD)),(.int .i64 (((nth zh zm).fRate).fN)),(.int .i64 (((nth zh zm).fRate).fD))],row (.slice z38 z1x.length z3a) 35 4 (z1x.flatMap e35)] 5 ?_ (fun _=>?_)
    ·rcases Bool.eq_false_or_eq_true (!zfG) with hb' | hb'
     ·have zn0:=hb'; clear hb'
      have zdZ:=ite_t zmZ zn0
      obtain ⟨ziu,zr2,zdZ⟩:=ze zdZ
      replace zdZ:=Option.some.inj zdZ
      refine WL.pin (i:=16) rfl zn0 ?_
      refine WL.quiet (d:=17) rfl rfl rfl (q_move rfl) ?_
      refine WL.quiet (d:=18) rfl rfl rfl (q_makeFunc (Eos.caps (l:=[.tmp 5]) (.cons rfl .nil))) ?_
      refine WL.callD (dd:=19) rfl rfl rfl (zn (l:=[.tmp 17,.tmp 18]) Try.call49 (.cons rfl (.cons rfl .nil))) (.nil : Sel [stb z4b 35 [(.int .i64 (((nth zh zm).fBurst).fN)),(.int .i64 (((nth zh zm).fBurst).fD)),(.int .i64 (((nth zh zm).fRate).fN)),(.int .i64 (((nth zh zm).fRate).fD))],row (.slice z38 z1x.length z3a) 35 4 (z1x.flatMap e35)] [] [stb z4b 35 [(.int .i64 (((nth zh zm).fBurst).fN)),(.int .i64 (((nth zh zm).fBurst).fD)),(.int .i64 (((nth zh zm).fRate).fN)),(.int .i64 (((nth zh zm).fRate).fD))],row (.slice z38 z1x.length z3a) 35 4 (z1x.flatMap e35)]) (fun w hw=>by have pz:=(hz.call hw (.nil : Sel [stb z4b 35 [(.int .i64 (((nth zh zm).fBurst).fN)),(.int .i64 (((nth zh zm).fBurst).fD)),(.int .i64 (((nth zh zm).fRate).fN)),(.int .i64 (((nth zh zm).fRate).fD))],row (.slice z38 z1x.length z3a) 35 4 (z1x.flatMap e35)] [] [stb z4b 35 [(.int .i64 (((nth zh zm).fBurst).fN)),(.int .i64 (((nth zh zm).fBurst).fD)),(.int .i64 (((nth zh zm).fRate).fN)),(.int .i64 (((nth zh zm).fRate).fD))],row (.slice z38 z1x.length z3a) 35 4 (z1x.flatMap e35)])).lend hw (.nil : Sel [stb z4b 35 [(.int .i64 (((nth zh zm).fBurst).fN)),(.int .i64 (((nth zh zm).fBurst).fD)),(.int .i64 (((nth zh zm).fRate).fN)),(.int .i64 (((nth zh zm).fRate).fD))],row (.slice z38 z1x.length z3a) 35 4 (z1x.flatMap e35)] [] [stb z4b 35 [(.int .i64 (((nth zh zm).fBurst).fN)),(.int .i64 (((nth zh zm).fBurst).fD)),(.int .i64 (((nth zh zm).fRate).fN)),(.int .i64 (((nth zh zm).fRate).fD))],row (.slice z38 z1x.length z3a) 35 4 (z1x.flatMap e35)]) (B:=[stb z4b 35 [(.int .i64 (((nth zh zm).fBurst).fN)),(.int .i64 (((nth zh zm).fBurst).fD)),(.int .i64 (((nth zh zm).fRate).fN)),(.int .i64 (((nth zh zm).fRate).fD))]]) (fun _ hx'=>((.cons .here .nil) : Sel _ [stb z4b 35 [(.int .i64 (((nth zh zm).fBurst).fN)),(.int .i64 (((nth zh zm).fBurst).fD)),(.int .i64 (((nth zh zm).fRate).fN)),(.int .i64 (((nth zh zm).fRate).fD))]] _).mem hx'); exact w_slices_ContainsFunc_api_Curve_api_Bucket (Z:=_) (zb1:=z7x) (zb2:=z7y) (z9a:=60) (zb3:=[(.pointer (some ⟨z4b,0,none⟩))]) (z8t:=zh) (zb0:=(fun (y0 : z1)=>m_curve_norm_1 y0 (⟨(⟨(((nth zh zm).fBurst).fN),(((nth zh zm).fBurst).fD)⟩ : z2),(⟨(((nth zh zm).fRate).fN),(((nth zh zm).fRate).fD)⟩ : z2)⟩ : z1))) (r:=ziu) w pz (zmW.mono (Zle.left _ _)) Try.call60 (fun w' hz' y0  r  hr=>w_curve_norm_1 (Z:=_) (zdV:=⟨z4b,0,none⟩) (z2q:=y0) (z7e:=(⟨(⟨(((nth zh zm).fBurst).fN),(((nth zh zm).fBurst).fD)⟩ : z2),(⟨(((nth zh zm).fRate).fN),(((nth zh zm).fRate).fD)⟩ : z2)⟩ : z1)) (r:=r) w' hz' ((hw.lent (.nil : Sel [stb z4b 35 [(.int .i64 (((nth zh zm).fBurst).fN)),(.int .i64 (((nth zh zm).fBurst).fD)),(.int .i64 (((nth zh zm).fRate).fN)),(.int .i64 (((nth zh zm).fRate).fD))],row (.slice z38 z1x.length z3a) 35 4 (z1x.flatMap e35)] [] [stb z4b 35 [(.int .i64 (((nth zh zm).fBurst).fN)),(.int .i64 (((nth zh zm).fBurst).fD)),(.int .i64 (((nth zh zm).fRate).fN)),(.int .i64 (((nth zh zm).fRate).fD))],row (.slice z38 z1x.length z3a) 35 4 (z1x.flatMap e35)]) (B:=[stb z4b 35 [(.int .i64 (((nth zh zm).fBurst).fN)),(.int .i64 (((nth zh zm).fBurst).fD)),(.int .i64 (((nth zh zm).fRate).fN)),(.int .i64 (((nth zh zm).fRate).fD))]]) (fun _ hx'=>((.cons .here .nil) : Sel _ [stb z4b 35 [(.int .i64 (((nth zh zm).fBurst).fN)),(.int .i64 (((nth zh zm).fBurst).fD)),(.int .i64 (((nth zh zm).fRate).fN)),(.int .i64 (((nth zh zm).fRate).fD))]] _).mem hx') (.head _) _).stb) hr) zr2) ?_
      refine WL.quiet (d:=20) rfl rfl rfl (q_not rfl) ?_
      refine WL.quiet (d:=21) rfl rfl rfl (q_pickT rfl rfl) ?_
      exact WL.cutEnd () trivial (.cons rfl (.cons rfl (.cons rfl (.cons rfl (.cons rfl (.cons rfl (.cons (zp zdZ) .nil))))))) (.cons .here (.cons .here .nil))
     ·have zn1:=hb'; clear hb'
      have zix:=ite_f zmZ zn1
      replace zix:=Option.some.inj zix
      refine WL.pin (i:=16) rfl zn1 ?_
      refine WL.skip rfl rfl rfl ?_
      refine WL.skip rfl rfl rfl ?_
      refine WL.skip rfl rfl rfl ?_
      refine WL.skip rfl rfl rfl ?_
      refine WL.quiet (d:=21) rfl rfl rfl (q_pickF rfl rfl) ?_
      exact WL.cutEnd () trivial (.cons rfl (.cons rfl (.cons rfl (.cons rfl (.cons rfl (.cons rfl (.cons (zp zix) .nil))))))) (.cons .here (.cons .here .nil))
    ·skip
     refine WL.nil ?_
     refine WX.then ?_
     refine WC.cond rfl (fun ziy=>?_) (fun ziy=>?_)
     ·replace h:=ite_t h ziy
      obtain ⟨zr3,h⟩:=chk_elim h
      refine WC.region ?_
      refine WL.quiet (d:=22) rfl rfl rfl (q_move rfl) ?_
      refine WL.quiet (d:=23) rfl rfl rfl (q_loadA (cs:=[(.int .i64 (((nth zh zm).fBurst).fN)),(.int .i64 (((nth zh zm).fBurst).fD)),(.int .i64 (((nth zh zm).fRate).fN)),(.int .i64 (((nth zh zm).fRate).fD))]) aggT_35 rfl rfl (rd_all .here)) ?_
      refine WL.new (dd:=24) rfl rfl rfl (e_buildSlice (cs:=([(⟨(⟨(((nth zh zm).fBurst).fN),(((nth zh zm).fBurst).fD)⟩ : z2),(⟨(((nth zh zm).fRate).fN),(((nth zh zm).fRate).fD)⟩ : z2)⟩ : z1)] : List z1).flatMap e35) elT_39 (Eos.parts (l:=[.tmp 23]) (.cons rfl .nil) [0]) (fun _=>by kernel_rfl) rfl (by unfold maxLen; omega)) ?_
      intro zxu _
      refine WL.eff (d:=25) rfl rfl rfl (e_appendF (enc:=e35) (l1:=z1x) (l2:=([(⟨(⟨(((nth zh zm).fBurst).fN),(((nth zh zm).fBurst).fD)⟩ : z2),(⟨(((nth zh zm).fRate).fN),(((nth zh zm).fRate).fD)⟩ : z2)⟩ : z1)] : List z1)) elT_39 rfl rfl (.there (.there .here)) (fun _=>rfl) rfl rfl (news_row .here) (oc_flat e35_oc _) zr3) ?_
      rintro ⟨zr4,zr5⟩ _
      refine WL.quiet (d:=3) rfl rfl rfl (q_assign rfl) ?_
      refine WL.nil ?_
      refine WX.blockNormal ?_
      exact WX.mid (G:=List z1 × Option Addr × Nat) ⟨(z1x ++ ([(⟨(⟨(((nth zh zm).fBurst).fN),(((nth zh zm).fBurst).fD)⟩ : z2),(⟨(((nth zh zm).fRate).fN),(((nth zh zm).fRate).fD)⟩ : z2)⟩ : z1)] : List z1)),zr4,zr5⟩ h (.cons rfl (.cons rfl (.cons rfl (.cons rfl (.cons rfl .nil))))) (.cons .here .nil)
     ·replace h:=ite_f h ziy
      refine WC.skip ?_
      refine WX.blockNormal ?_
      exact WX.mid (G:=List z1 × Option Addr × Nat) ⟨z1x,z38,z3a⟩ h (.cons rfl (.cons rfl (.cons rfl (.cons rfl (.cons rfl .nil))))) (.cons (.there .here) .nil)
   ·rintro z87 zcD zcE h
    replace h:=(zqY z87).symm.trans h
    refine WC.region ?_
    refine WL.quiet (d:=26) rfl rfl rfl (q_add rfl rfl rfl) ?_
    refine WL.quiet (d:=8) rfl rfl rfl (q_move rfl) ?_
    refine WL.nil ?_
    exact WX.round (G:=Nat × List z1 × Int × Option Addr × Nat) ⟨zit,z87,(i64 (zm + 1)),zcD,zcE⟩ h (Nat.lt_succ_self _) (.cons rfl (.cons rfl (.cons rfl (.cons rfl (.cons rfl .nil))))) (.cons .here .nil)
  ·replace h:=ite_f h ziw
   refine WC.exit ?_
   refine WX.thenExit ?_
   refine WX.thenExit ?_
   refine WX.blockHit ?_
   exact WX.mid (G:=List z1 × Option Addr × Nat) ⟨z1x,z38,z3a⟩ h (.cons rfl .nil) (.cons .here .nil)
 ·rintro z4o z6N z6O h
  replace h:=(zqX z4o).symm.trans h
  refine WC.seq ?_
  obtain ⟨zfH,zr6,h⟩:=ze h
  refine WC.region ?_
  refine WL.quiet (d:=27) rfl rfl rfl (q_move rfl) ?_
  refine WL.enter0 (dd:=28) rfl rfl rfl (zn (l:=[.tmp 27,.func 63]) Try.call62 (.cons rfl (.cons rfl .nil))) ((.cons .here .nil) : Sel [row (.slice z6N z4o.length z6O) 35 4 (z4o.flatMap e35)] [row (.slice z6N z4o.length z6O) 35 4 (z4o.flatMap e35)] []) (fun w hw=>by have pz:=(hz.call hw ((.cons .here .nil) : Sel [row (.slice z6N z4o.length z6O) 35 4 (z4o.flatMap e35)] [row (.slice z6N z4o.length z6O) 35 4 (z4o.flatMap e35)] [])); exact w_slices_SortFunc_api_Curve_api_Bucket (Z:=_) (z4y:=z6N) (z4z:=z6O) (zab:=63) (zcB:=[]) (z2d:=z4o) (zcA:=(fun (y0 : z1) (y1 : z1)=>m_curve_norm_2 y0 y1)) (r:=zfH) w pz Try.call63 (fun w' hz' y0 y1  r  hr=>w_curve_norm_2 (Z:=_)  (z2D:=y0) (z2E:=y1) (r:=r) w' hz'  hr) zr6 (hw.owns ((.cons .here .nil) : Sel [row (.slice z6N z4o.length z6O) 35 4 (z4o.flatMap e35)] [row (.slice z6N z4o.length z6O) 35 4 (z4o.flatMap e35)] []))) ?_
  rintro  zr7
  refine WL.repin (i:=3) rfl (u:=(.slice z6N zfH.length z6O)) (slen zr7.symm) ?_
  refine WL.nil ?_
  refine WX.then ?_
  refine WC.seq ?_
  refine WC.region ?_
  refine WL.quiet (d:=29) rfl rfl rfl (q_move rfl) ?_
  refine WL.quiet (d:=2) rfl rfl rfl (q_assign rfl) ?_
  refine WL.nil ?_
  refine WX.then ?_
  refine WC.ret ?_
  obtain rfl:=Option.some.inj h
  refine WX.bpRet Try.results48 (.tmp rfl .nil) (fun w hw=>?_)
  exact ⟨z6N,z6O,ret1 rfl,trivial,hw.sub (.cons .here .nil)⟩
def m_curve_pairs (z9i : List z1) (z9j : List z1) : Option (List z1 × List z1) :=
 some (z9i,z9j)
set_option maxRecDepth 20000 in
theorem w_curve_pairs (Z : Zp)  (zbf : Option Addr) (zbg : Nat) (zbh : Option Addr) (zbi : Nat) (z9i : List z1) (z9j : List z1) (r : List z1 × List z1) (w₀ : World) (hz : PZ [] w₀ Z)
  (zr8 : ZS Z 4 (fun r x=>r = e35 x) zbf zbg z9i)
  (zr9 : ZS Z 4 (fun r x=>r = e35 x) zbh zbi z9j)
  (h : m_curve_pairs z9i z9j = some r) :
  Calls Try.prog 76 #[(.slice zbf z9i.length zbg),(.slice zbh z9j.length zbi)] w₀ fun e w'=>∃ zn2 : Nat,∃ zn3 : Nat,∃ zn4 : Option Addr,∃ zn5 : Nat,∃ zn6 : Option Addr,∃ zn7 : Nat,e = .returned (.func (.func 89) #[] #[(.pointer (some ⟨zn2,0,none⟩)),(.pointer (some ⟨zn3,0,none⟩))]) ∧ ((ZS Z 4 (fun r x=>r = e35 x) zn4 zn5 r.1) ∧ (ZS Z 4 (fun r x=>r = e35 x) zn6 zn7 r.2)) ∧ Hp [] w₀ w' [stb zn2 39 [(.slice zn4 r.1.length zn5)],stb zn3 39 [(.slice zn6 r.2.length zn7)]]:=by
 unfold m_curve_pairs at h
 refine Calls.ofWC (vs:=[(.slice zbf z9i.length zbg),(.slice zbh z9j.length zbi)]) (pre:=[]) (env:=[(0,(.slice zbf z9i.length zbg)),(1,(.slice zbh z9j.length zbi))]) Try.func76 rfl Try.ntmps76 rfl (Hp.nil w₀ _) rfl ?_
 refine WC.seq ?_
 refine WC.region ?_
 refine WL.new (dd:=2) rfl rfl rfl (e_box (cs:=[(.slice zbf z9i.length zbg)]) rfl rfl) ?_
 intro zra _
 refine WL.new (dd:=3) rfl rfl rfl (e_box (cs:=[(.slice zbh z9j.length zbi)]) rfl rfl) ?_
 intro zrb _
 refine WL.quiet (d:=4) rfl rfl rfl (q_assign rfl) ?_
 refine WL.nil ?_
 refine WX.then ?_
 refine WC.seq ?_
 refine WC.region ?_
 refine WL.quiet (d:=5) rfl rfl rfl (q_makeFunc (Eos.caps (l:=[.tmp 2,.tmp 3]) (.cons rfl (.cons rfl .nil)))) ?_
 refine WL.quiet (d:=4) rfl rfl rfl (q_assign rfl) ?_
 refine WL.nil ?_
 refine WX.then ?_
 refine WC.ret ?_
 obtain rfl:=Option.some.inj h
 refine WX.bpRet Try.results76 (.tmp rfl .nil) (fun w hw=>?_)
 exact ⟨zra,zrb,zbf,zbg,zbh,zbi,ret1 rfl,⟨zr8,zr9⟩,hw.sub (.cons (.there .here) (.cons .here .nil))⟩
end Go.Proofs.Ytakfmdiiehcbdaa
