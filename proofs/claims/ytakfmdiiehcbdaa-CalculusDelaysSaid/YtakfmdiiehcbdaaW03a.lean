/- A part of this claim's proof: models of functions, walks, plain laws. No conditions. -/
import Derived.Test.YtakfmdiiehcbdaaZSortF
import Derived.Test.YtakfmdiiehcbdaaZFast
import Derived.Test.YtakfmdiiehcbdaaShelf03
import Derived.Test.YtakfmdiiehcbdaaProg
namespace Go.Proofs.Ytakfmdiiehcbdaa
open Go Go.RowKit Sep
set_option linter.all false
set_option maxRecDepth 30000
set_option maxHeartbeats 4000000
def e5 (x : Int) : List Value:=[(.int .u8 x)]
structure zSt where
 fTime : Int
 fVL : Int
 fSize : Int
 deriving Inhabited,DecidableEq
def e51 (x : zSt) : List Value:=[(.int .i64 x.fTime),(.int .i64 x.fVL),(.int .i64 x.fSize)]
theorem y8Z : ∀ x,∀ u ∈ e51 x,u.oneCell' = true:=fun _=>(y2 rfl (y2 rfl (y2 rfl yk)))
def e3 (x : Int) : List Value:=[(.int .i64 x)]
theorem e3_oc : ∀ x,∀ u ∈ e3 x,u.oneCell' = true:=fun _=>(y2 rfl yk)
structure z7 where
 fN : Int
 fD : Int
 deriving Inhabited,DecidableEq
structure S7 where
 fX : Int
 fY : Int
 fSigned : Bool
 fCode : Int
 deriving Inhabited,DecidableEq
structure S13 where
 fMsg : ByteArray
 fAddr : Int
 deriving Inhabited,DecidableEq
structure S27 where
 fF : List zSt
 fGap : Int
 deriving Inhabited,DecidableEq
structure z6 where
 fB : z7
 fR : z7
 deriving Inhabited,DecidableEq
def e35 (x : z6) : List Value:=[(.int .i64 x.fB.fN),(.int .i64 x.fB.fD),(.int .i64 x.fR.fN),(.int .i64 x.fR.fD)]
theorem e35_oc : ∀ x,∀ u ∈ e35 x,u.oneCell' = true:=fun _=>(y2 rfl (y2 rfl (y2 rfl (y2 rfl yk))))
def p39 (Z : Zp) (r : List Value) (x : List z6) : Prop:=∃ (ao0 : Option Addr) (cap0 : Nat),r = [(.slice ao0 x.length cap0)] ∧ ZS Z 4 (fun r x=>r = e35 x) ao0 cap0 x
theorem yL {Z Z' : Zp} (k : Zle Z Z') {r : List Value} {x : List z6} (h : p39 Z r x) : p39 Z' r x:=by
 obtain ⟨ao0,cap0,hr,h0⟩:=h
 exact ⟨ao0,cap0,hr,h0.mono k⟩
structure zSv where
 fR : z7
 fLatency : z7
 deriving Inhabited,DecidableEq
def e30 (x : z7) : List Value:=[(.int .i64 x.fN),(.int .i64 x.fD)]
theorem y81 : ∀ x,∀ u ∈ e30 x,u.oneCell' = true:=fun _=>(y2 rfl (y2 rfl yk))
structure z2h where
 fE : Int
 deriving Inhabited,DecidableEq
structure S62 where
 fL : List (List z6)
 fS : zSv
 deriving Inhabited,DecidableEq
def p27 (Z : Zp) (r : List Value) (x : S27) : Prop:=∃ (ao0 : Option Addr) (cap0 : Nat),r = [(.slice ao0 x.fF.length cap0),(.int .i64 x.fGap)] ∧ ZS Z 3 (fun r x=>r = e51 x) ao0 cap0 x.fF
theorem p27_mono {Z Z' : Zp} (k : Zle Z Z') {r : List Value} {x : S27} (h : p27 Z r x) : p27 Z' r x:=by
 obtain ⟨ao0,cap0,hr,h0⟩:=h
 exact ⟨ao0,cap0,hr,h0.mono k⟩
theorem y90 : elT Try.prog 22 5 1 1:=⟨Try.underlying22,⟨Try.t5,_,rfl,rfl,rfl,rfl,rfl⟩,by decide⟩
theorem oneT_5 : y5Y Try.prog 5:=y4K Try.underlying5 rfl
theorem y2l : elT Try.prog 24 51 3 24:=⟨Try.underlying24,⟨Try.t51,_,rfl,rfl,rfl,rfl,rfl⟩,by decide⟩
theorem y5Q : aggT Try.prog 51 3:=y5N (i:=Try.t51) Try.underlying51 rfl rfl
theorem y6V : y3i Try.prog 51 (.agg #[(.int .i64 0),(.int .i64 0),(.int .i64 0)]):=y3q (i:=Try.t51) rfl rfl
theorem y7z : y5a Try.prog 51 3:=y3w (i:=Try.t51) rfl
theorem y3y : y21 Try.prog 51 0 0:=y1z (i:=Try.t3) Try.underlying51 rfl rfl (by decide) rfl
theorem yw : y5Y Try.prog 3:=y4K Try.underlying3 rfl
theorem y6G : y21 Try.prog 51 2 2:=y1z (i:=Try.t3) Try.underlying51 rfl rfl (by decide) rfl
theorem y62 : elT Try.prog 45 3 1 8:=⟨Try.underlying45,⟨Try.t3,_,rfl,rfl,rfl,rfl,rfl⟩,by decide⟩
theorem yt : y3i Try.prog 30 (.agg #[(.int .i64 0),(.int .i64 0)]):=y3q (i:=Try.t30) rfl rfl
theorem yo : y5a Try.prog 30 2:=y3w (i:=Try.t30) rfl
theorem y5 : aggT Try.prog 30 2:=y5N (i:=Try.t30) Try.underlying30 rfl rfl
theorem y3J : y3i Try.prog 35 (.agg #[(.int .i64 0),(.int .i64 0),(.int .i64 0),(.int .i64 0)]):=y3q (i:=Try.t35) rfl rfl
theorem y3X : y5a Try.prog 35 4:=y3w (i:=Try.t35) rfl
theorem y1D : aggT Try.prog 35 4:=y5N (i:=Try.t35) Try.underlying35 rfl rfl
theorem y2w : elT Try.prog 39 35 4 32:=⟨Try.underlying39,⟨Try.t35,_,rfl,rfl,rfl,rfl,rfl⟩,by decide⟩
theorem y91 : y3i Try.prog 43 (.agg #[(.int .i64 0),(.int .i64 0),(.int .i64 0),(.int .i64 0)]):=y3q (i:=Try.t43) rfl rfl
theorem y9G : y5a Try.prog 43 4:=y3w (i:=Try.t43) rfl
theorem y3Q : elT Try.prog 26 39 1 24:=⟨Try.underlying26,⟨Try.t39,_,rfl,rfl,rfl,rfl,rfl⟩,by decide⟩
theorem y4k : aggT Try.prog 43 4:=y5N (i:=Try.t43) Try.underlying43 rfl rfl
theorem y3f : y5Y Try.prog 26:=y4K Try.underlying26 rfl
theorem y92 : y3i Try.prog 79 (.agg #[(.slice none 0 0),(.int .i64 0),(.int .i64 0),(.int .i64 0),(.int .i64 0),.nilFunc,(.slice none 0 0)]):=y3q (i:=Try.t79) rfl rfl
theorem y9H : y5a Try.prog 79 7:=y3w (i:=Try.t79) rfl
theorem y7A : y21 Try.prog 79 2 5:=y1z (i:=Try.t76) Try.underlying79 rfl rfl (by decide) rfl
theorem y9I : y5a Try.prog 76 1:=y3w (i:=Try.t76) rfl
theorem y5R : aggT Try.prog 79 7:=y5N (i:=Try.t79) Try.underlying79 rfl rfl
theorem y4O : y21 Try.prog 79 0 0:=y1z (i:=Try.t26) Try.underlying79 rfl rfl (by decide) rfl
theorem y3Y : y21 Try.prog 35 0 0:=y1z (i:=Try.t30) Try.underlying35 rfl rfl (by decide) rfl
theorem y24 : y21 Try.prog 30 1 1:=y1z (i:=Try.t3) Try.underlying30 rfl rfl (by decide) rfl
theorem y1Q : y21 Try.prog 30 0 0:=y1z (i:=Try.t3) Try.underlying30 rfl rfl (by decide) rfl
theorem y4P : y21 Try.prog 35 1 2:=y1z (i:=Try.t30) Try.underlying35 rfl rfl (by decide) rfl
theorem y4Q : y5Y Try.prog 39:=y4K Try.underlying39 rfl
theorem y7B : y21 Try.prog 79 1 1:=y1z (i:=Try.t43) Try.underlying79 rfl rfl (by decide) rfl
theorem y5S : y21 Try.prog 43 0 0:=y1z (i:=Try.t30) Try.underlying43 rfl rfl (by decide) rfl
theorem y5T : y21 Try.prog 43 1 2:=y1z (i:=Try.t30) Try.underlying43 rfl rfl (by decide) rfl
theorem y6W : y3i Try.prog 98 (.agg #[(.int .i64 0)]):=y3q (i:=Try.t98) rfl rfl
theorem y93 : y3i Try.prog 90 (.agg #[(.int .i64 0)]):=y3q (i:=Try.t90) rfl rfl
theorem y7S : y3i Try.prog 77 (.slice none 0 0):=y3q (i:=Try.t77) rfl rfl
theorem eqT_35 : EqT Try.prog 35 e35:=⟨fun u v w=>by
 have i35_10000:=fun (w : World) (a b : Array Value)=>run_equalIn_agg (P:=Try.prog) w 9999 35 a b (by simp [Program.fieldsOf,Try.underlying35]) (by kernel_rfl)
 have i30_9999:=fun (w : World) (a b : Array Value)=>run_equalIn_agg (P:=Try.prog) w 9998 30 a b (by simp [Program.fieldsOf,Try.underlying30]) (by kernel_rfl)
 have i3_9998:=fun (w : World) (a b : Int)=>run_equalIn_int (P:=Try.prog) w 9997 3 .i64 .i64 a b Try.underlying3
 rw [i35_10000]
 simp [Program.fieldsOf,Op.eqFields,part,e35,i35_10000,Try.underlying35,i30_9999,Try.underlying30,i3_9998]
 rcases u with ⟨⟨u1,u2⟩,⟨u3,u4⟩⟩
 rcases v with ⟨⟨v1,v2⟩,⟨v3,v4⟩⟩
 by_cases h1 : u1 = v1 <;> by_cases h2 : u2 = v2 <;> by_cases h3 : u3 = v3 <;> by_cases h4 : u4 = v4 <;> simp [h1,h2,h3,h4],by kernel_rfl⟩
theorem y3z : y5Y Try.prog 77:=y4K Try.underlying77 rfl
theorem y2q : KeyT Try.prog 9 Value.string:=keyT_str Try.underlying9
theorem zgZ : y3i Try.prog 104 .nilFunc:=y3q (i:=Try.t104) rfl rfl
theorem sizT_3 : y5a Try.prog 3 1:=y3w (i:=Try.t3) rfl
theorem y5U : y21 Try.prog 90 0 0:=y1z (i:=Try.t31) Try.underlying90 rfl rfl (by decide) rfl
theorem y2K : y5Y Try.prog 31:=y4K Try.underlying31 rfl
theorem y8g : y5a Try.prog 31 1:=y3w (i:=Try.t31) rfl
theorem y1K : elT Try.prog 77 30 2 16:=⟨Try.underlying77,⟨Try.t30,_,rfl,rfl,rfl,rfl,rfl⟩,by decide⟩
theorem y8h : y5a Try.prog 77 1:=y3w (i:=Try.t77) rfl
theorem y7i : EqT Try.prog 30 e30:=⟨fun u v w=>by
 have i30_10000:=fun (w : World) (a b : Array Value)=>run_equalIn_agg (P:=Try.prog) w 9999 30 a b (by simp [Program.fieldsOf,Try.underlying30]) (by kernel_rfl)
 have i3_9999:=fun (w : World) (a b : Int)=>run_equalIn_int (P:=Try.prog) w 9998 3 .i64 .i64 a b Try.underlying3
 rw [i30_10000]
 simp [Program.fieldsOf,Op.eqFields,part,e30,i30_10000,Try.underlying30,i3_9999]
 rcases u with ⟨u1,u2⟩
 rcases v with ⟨v1,v2⟩
 by_cases h1 : u1 = v1 <;> by_cases h2 : u2 = v2 <;> simp [h1,h2],by kernel_rfl⟩
theorem yam : fldT Try.prog 35 1 2 30:=fldT_of Try.underlying35 rfl rfl rfl
theorem y3g : y21 Try.prog 98 0 0:=y1z (i:=Try.t31) Try.underlying98 rfl rfl (by decide) rfl
theorem y9J : y21 Try.prog 79 3 6:=y1z (i:=Try.t77) Try.underlying79 rfl rfl (by decide) rfl
theorem y9K : y5Y Try.prog 76:=y4K Try.underlying76 rfl
theorem elT_28 : elT Try.prog 28 27 2 32:=⟨Try.underlying28,⟨Try.t27,_,rfl,rfl,rfl,rfl,rfl⟩,by decide⟩
theorem aggT_27 : aggT Try.prog 27 2:=y5N (i:=Try.t27) Try.underlying27 rfl rfl
theorem zeroT_27 : y3i Try.prog 27 (.agg #[(.slice none 0 0),(.int .i64 0)]):=y3q (i:=Try.t27) rfl rfl
theorem sizT_27 : y5a Try.prog 27 2:=y3w (i:=Try.t27) rfl
theorem fo_27_1 : y21 Try.prog 27 1 1:=y1z (i:=Try.t3) Try.underlying27 rfl rfl (by decide) rfl
theorem fo_27_0 : y21 Try.prog 27 0 0:=y1z (i:=Try.t24) Try.underlying27 rfl rfl (by decide) rfl
theorem oneT_24 : y5Y Try.prog 24:=y4K Try.underlying24 rfl
def y2x (sizes_11 : List Int) (vl_19 : Int) (gap_20 : Int) (waits_15 : List Int) (z9S : (List zSt) → Option (List zSt)) : Nat → (List zSt) → Int → Int → Option (List zSt)
 | 0,_,_,_=>none
 | zj6 + 1,z5A,z80,z3Q=>if decide (z3Q < (((sizes_11.take ((min ((sizes_11.length : Nat) : Int) 12) : Int).toNat).length : Nat) : Int)) then chk ((0 : Int) ≤ z3Q ∧ z3Q < (((sizes_11.take ((min ((sizes_11.length : Nat) : Int) 12) : Int).toNat).length : Nat) : Int)) (jp1 (fun (z71 : Int)=>chk ((((z5A ++ ([(⟨z71,vl_19,i64 (1 + (Int.tmod (i64 (nth (sizes_11.take ((min ((sizes_11.length : Nat) : Int) 12) : Int).toNat) z3Q)) 72))⟩ : zSt)] : List zSt)).length : Nat) : Int) * 24 ≤ 140737488355328 ∧ (((z5A ++ ([(⟨z71,vl_19,i64 (1 + (Int.tmod (i64 (nth (sizes_11.take ((min ((sizes_11.length : Nat) : Int) 12) : Int).toNat) z3Q)) 72))⟩ : zSt)] : List zSt)).length : Nat) : Int) ≤ 4611686018427387904) (y2x sizes_11 vl_19 gap_20 waits_15 z9S zj6 (z5A ++ ([(⟨z71,vl_19,i64 (1 + (Int.tmod (i64 (nth (sizes_11.take ((min ((sizes_11.length : Nat) : Int) 12) : Int).toNat) z3Q)) 72))⟩ : zSt)] : List zSt)) (i64 (z71 + gap_20)) (i64 (z3Q + 1)))) fun zh0=>if decide (z3Q < ((waits_15.length : Nat) : Int)) then chk ((0 : Int) ≤ z3Q ∧ z3Q < ((waits_15.length : Nat) : Int)) (zh0 (i64 (z80 + (i64 (nth waits_15 z3Q))))) else zh0 z80) else z9S z5A
theorem y6X {n : Nat} {sizes_11 : List Int} {vl_19 : Int} {gap_20 : Int} {waits_15 : List Int} {z9S : (List zSt) → Option (List zSt)} {z5A : List zSt} {z80 : Int} {z3Q : Int} {r : List zSt} (h : y2x sizes_11 vl_19 gap_20 waits_15 z9S n z5A z80 z3Q = some r) : ∃ m,n = m + 1:=by
 cases n with
 | zero=>cases h
 | succ m=>exact ⟨m,rfl⟩
def y2U (sizes_11 : List Int) (waits_15 : List Int) (vl_19 : Int) (gap_20 : Int) : Option (List zSt) :=
 jp1 (fun (z9h : List zSt)=>some z9h) fun z9S=>chk ((0 : Int) ≤ 0 ∧ (0 : Int) ≤ (min ((sizes_11.length : Nat) : Int) 12) ∧ (min ((sizes_11.length : Nat) : Int) 12) ≤ ((sizes_11.length : Nat) : Int)) (y2x sizes_11 vl_19 gap_20 waits_15 z9S yu ([] : List zSt) 0 0)
set_option maxRecDepth 20000 in
theorem y7j (Z : Zp)  (ao_12 : Option Addr) (cap_13 : Nat) (ao_16 : Option Addr) (cap_17 : Nat) (sizes_11 : List Int) (waits_15 : List Int) (vl_19 : Int) (gap_20 : Int) (r : List zSt) (w₀ : World) (hz : PZ [] w₀ Z)
  (hs_14 : ZS Z 1 (fun r x=>r = e5 x) ao_12 cap_13 sizes_11)
  (hs_18 : ZS Z 1 (fun r x=>r = e5 x) ao_16 cap_17 waits_15)
  (h : y2U sizes_11 waits_15 vl_19 gap_20 = some r) :
  Calls Try.prog 8 #[(.slice ao_12 sizes_11.length cap_13),(.slice ao_16 waits_15.length cap_17),(.int .i64 vl_19),(.int .i64 gap_20)] w₀ fun e w'=>∃ zo5 : Option Addr,∃ zo6 : Nat,e = .returned (.slice zo5 r.length zo6) ∧ True ∧ Hp [] w₀ w' [row (.slice zo5 r.length zo6) 51 3 (r.flatMap e51)]:=by
 unfold y2U at h
 refine Calls.yd (vs:=[(.slice ao_12 sizes_11.length cap_13),(.slice ao_16 waits_15.length cap_17),(.int .i64 vl_19),(.int .i64 gap_20)]) (pre:=[]) (env:=[(0,(.slice ao_12 sizes_11.length cap_13)),(1,(.slice ao_16 waits_15.length cap_17)),(2,(.int .i64 vl_19)),(3,(.int .i64 gap_20))]) Try.func8 rfl Try.ntmps8 rfl (Hp.nil w₀ _) rfl ?_
 refine WC.b ?_
 refine WC.a ?_
 refine WL.a (d:=8) rfl rfl rfl (q_z rfl) ?_
 refine WL.nil ?_
 refine WX.a ?_
 refine WC.b ?_
 refine WC.a ?_
 refine WL.a (d:=9) rfl rfl rfl (q_z rfl) ?_
 refine WL.nil ?_
 refine WX.a ?_
 refine WC.b ?_
 refine WC.a ?_
 refine WL.a (d:=10) rfl rfl rfl (q_z rfl) ?_
 refine WL.nil ?_
 refine WX.a ?_
 obtain ⟨z9S,zrX,h⟩:=y1h h
 refine WC.y2O (fun (z9h : List zSt) (zdp : Option Addr) (zdq : Nat)=>(z9S z9h = some r)) (fun (z9h : List zSt) (zdp : Option Addr) (zdq : Nat)=>[(9,(.slice zdp z9h.length zdq))]) (fun (z9h : List zSt) (zdp : Option Addr) (zdq : Nat)=>[row (.slice zdp z9h.length zdq) 51 3 (z9h.flatMap e51)]) ?_ ?_
 ·skip
  refine WC.b ?_
  obtain ⟨zrY,h⟩:=yl h
  refine WC.a ?_
  refine WL.a (d:=13) rfl rfl rfl (q_m rfl) ?_
  refine WL.a (d:=14) rfl rfl rfl (q_m rfl) ?_
  refine WL.a (d:=15) rfl rfl rfl (y10 Try.underlying22 rfl) ?_
  refine WL.a (d:=16) rfl rfl rfl (q_min rfl rfl rfl) ?_
  refine WL.zsub (dd:=17) rfl rfl (Z:=Z) (Pr:=(fun r x=>r = e5 x)) y90 rfl hs_14 ixn (ixo rfl) rfl rfl zrY (List.drop_zero).symm ?_
  rintro zo7 zo8 zrZ
  refine WL.a (d:=18) rfl rfl rfl (y10 Try.underlying22 rfl) ?_
  refine WL.a (d:=19) rfl rfl rfl (q_m rfl) ?_
  refine WL.nil ?_
  refine WX.a ?_
  refine WC.block ?_
  refine WC.nilRow 51 3 ?_
  refine WC.y3H (fun (zdr : Nat) (z5A : List zSt) (z80 : Int) (z3Q : Int) (z9T : Option Addr) (z9U : Nat)=>(y2x sizes_11 vl_19 gap_20 waits_15 z9S zdr z5A z80 z3Q = some r)) (fun (zdr : Nat) (z5A : List zSt) (z80 : Int) (z3Q : Int) (z9T : Option Addr) (z9U : Nat)=>[(1,(.slice ao_16 waits_15.length cap_17)),(2,(.int .i64 vl_19)),(3,(.int .i64 gap_20)),(9,(.slice z9T z5A.length z9U)),(10,(.int .i64 z80)),(17,(.slice zo7 ((sizes_11.take ((min ((sizes_11.length : Nat) : Int) 12) : Int).toNat).length) zo8)),(18,(.int .i64 (((sizes_11.take ((min ((sizes_11.length : Nat) : Int) 12) : Int).toNat).length : Nat) : Int))),(19,(.int .i64 z3Q))]) (fun (zdr : Nat) (z5A : List zSt) (z80 : Int) (z3Q : Int) (z9T : Option Addr) (z9U : Nat)=>[row (.slice z9T z5A.length z9U) 51 3 (z5A.flatMap e51)]) (fun (zdr : Nat) (z5A : List zSt) (z80 : Int) (z3Q : Int) (z9T : Option Addr) (z9U : Nat)=>zdr) ⟨yu,([] : List zSt),0,0,none,0⟩ h (.cons rfl (.cons rfl (.cons rfl (.cons rfl (.cons rfl (.cons rfl (.cons rfl (.cons rfl .nil)))))))) (.cons .here .nil) ?_
  rintro zdr z5A z80 z3Q z9T z9U h
  obtain ⟨zj6,rfl⟩:=y6X h
  rw [y2x] at h
  refine WC.b ?_
  refine WC.a ?_
  refine WL.a (d:=20) rfl rfl rfl (y1c rfl rfl) ?_
  refine WL.nil ?_
  refine WX.a ?_
  refine WC.b ?_
  refine WC.cond rfl (fun zj7=>?_) (fun zj7=>?_)
  ·replace h:=yh h zj7
   refine WC.skip ?_
   refine WX.a ?_
   refine WC.b ?_
   refine WC.block ?_
   refine WC.b ?_
   obtain ⟨zs0,h⟩:=yl h
   refine WC.a ?_
   refine WL.a (d:=21) rfl rfl rfl (q_m rfl) ?_
   refine WL.znth (dd:=22) rfl rfl (Z:=Z) (Pr:=(fun r x=>r = e5 x)) y90 rfl rfl zrZ zs0 ?_
   rintro zAg zAh zs1 zAi rfl
   refine WL.a (d:=23) rfl rfl rfl (ya oneT_5 rfl (y4Z hz.pv zs1 rfl)) ?_
   refine WL.a (d:=11) rfl rfl rfl (q_z rfl) ?_
   refine WL.a (d:=12) rfl rfl rfl (q_z rfl) ?_
   refine WL.nil ?_
   refine WX.a ?_
   obtain ⟨zh0,zs2,h⟩:=y1h h
   refine WC.y34 (fun (z71 : Int)=>(zh0 z71 = some r)) (fun (z71 : Int)=>[(1,(.slice ao_16 waits_15.length cap_17)),(2,(.int .i64 vl_19)),(3,(.int .i64 gap_20)),(9,(.slice z9T z5A.length z9U)),(10,(.int .i64 z71)),(12,(.int .u8 (nth (sizes_11.take ((min ((sizes_11.length : Nat) : Int) 12) : Int).toNat) z3Q))),(17,(.slice zo7 ((sizes_11.take ((min ((sizes_11.length : Nat) : Int) 12) : Int).toNat).length) zo8)),(18,(.int .i64 (((sizes_11.take ((min ((sizes_11.length : Nat) : Int) 12) : Int).toNat).length : Nat) : Int))),(19,(.int .i64 z3Q))]) (fun (z71 : Int)=>[row (.slice z9T z5A.length z9U) 51 3 (z5A.flatMap e51)]) ?_ ?_
   ·skip
    refine WC.b ?_
    refine WC.a ?_
    refine WL.a (d:=24) rfl rfl rfl (q_m rfl) ?_
    refine WL.a (d:=25) rfl rfl rfl (q_m rfl) ?_
    refine WL.a (d:=26) rfl rfl rfl (y10 Try.underlying22 rfl) ?_
    refine WL.a (d:=27) rfl rfl rfl (y1c rfl rfl) ?_
    refine WL.nil ?_
    refine WX.a ?_
    refine WC.cond rfl (fun zj8=>?_) (fun zj8=>?_)
    ·replace h:=yh h zj8
     obtain ⟨zs3,h⟩:=yl h
     refine WC.a ?_
     refine WL.a (d:=28) rfl rfl rfl (q_m rfl) ?_
     refine WL.a (d:=29) rfl rfl rfl (q_m rfl) ?_
     refine WL.a (d:=30) rfl rfl rfl (q_m rfl) ?_
     refine WL.znth (dd:=31) rfl rfl (Z:=Z) (Pr:=(fun r x=>r = e5 x)) y90 rfl rfl hs_18 zs3 ?_
     rintro zAj zAk zs4 zAl rfl
     refine WL.a (d:=32) rfl rfl rfl (ya oneT_5 rfl (y4Z hz.pv zs4 rfl)) ?_
     refine WL.a (d:=33) rfl rfl rfl (y3v Try.underlying5 Try.underlying3 rfl rfl) ?_
     refine WL.a (d:=34) rfl rfl rfl (yW rfl rfl rfl) ?_
     refine WL.a (d:=10) rfl rfl rfl (q_z rfl) ?_
     refine WL.nil ?_
     exact WX.mid (G:=Int) (i64 (z80 + (i64 (nth waits_15 z3Q)))) h (.cons rfl (.cons rfl (.cons rfl (.cons rfl (.cons rfl (.cons rfl (.cons rfl (.cons rfl (.cons rfl .nil))))))))) (.cons .here .nil)
    ·replace h:=yi h zj8
     refine WC.skip ?_
     exact WX.mid (G:=Int) z80 h (.cons rfl (.cons rfl (.cons rfl (.cons rfl (.cons rfl (.cons rfl (.cons rfl (.cons rfl (.cons rfl .nil))))))))) (.cons .here .nil)
   ·rintro z71 h
    replace h:=(zs2 z71).symm.trans h
    refine WC.b ?_
    obtain ⟨zs5,h⟩:=yl h
    refine WC.a ?_
    refine WL.a (d:=35) rfl rfl rfl (q_m rfl) ?_
    refine WL.a (d:=36) rfl rfl rfl (q_m rfl) ?_
    refine WL.a (d:=37) rfl rfl rfl (q_m rfl) ?_
    refine WL.a (d:=38) rfl rfl rfl (q_m rfl) ?_
    refine WL.a (d:=39) rfl rfl rfl (y3v Try.underlying5 Try.underlying3 rfl rfl) ?_
    refine WL.a (d:=40) rfl rfl rfl (y7t rfl rfl (by decide) rfl) ?_
    refine WL.a (d:=41) rfl rfl rfl (yW rfl rfl rfl) ?_
    refine WL.a (d:=42) rfl rfl rfl (y1g (v:=(.agg #[(.int .i64 z71),(.int .i64 vl_19),(.int .i64 (i64 (1 + (Int.tmod (i64 (nth (sizes_11.take ((min ((sizes_11.length : Nat) : Int) 12) : Int).toNat) z3Q)) 72))))])) (Eos.parts (l:=[.tmp 36,.tmp 37,.tmp 41]) (.cons rfl (.cons rfl (.cons rfl .nil))) [0,1,2]) (fun _=>by kernel_rfl)) ?_
    refine WL.new (dd:=43) rfl rfl rfl (yB (cs:=([(⟨z71,vl_19,i64 (1 + (Int.tmod (i64 (nth (sizes_11.take ((min ((sizes_11.length : Nat) : Int) 12) : Int).toNat) z3Q)) 72))⟩ : zSt)] : List zSt).flatMap e51) y2l (Eos.parts (l:=[.tmp 42]) (.cons rfl .nil) [0]) (fun _=>by kernel_rfl) rfl (by unfold maxLen; omega)) ?_
    intro zAm _
    refine WL.eff (d:=44) rfl rfl rfl (y4c (enc:=e51) (l1:=z5A) (l2:=([(⟨z71,vl_19,i64 (1 + (Int.tmod (i64 (nth (sizes_11.take ((min ((sizes_11.length : Nat) : Int) 12) : Int).toNat) z3Q)) 72))⟩ : zSt)] : List zSt)) y2l rfl rfl .h1 (fun _=>rfl) rfl rfl (y4a .here) (y4L y8Z _) zs5) ?_
    rintro ⟨zs6,zs7⟩ _
    refine WL.a (d:=9) rfl rfl rfl (q_z rfl) ?_
    refine WL.nil ?_
    refine WX.a ?_
    refine WC.a ?_
    refine WL.a (d:=45) rfl rfl rfl (q_m rfl) ?_
    refine WL.a (d:=46) rfl rfl rfl (q_m rfl) ?_
    refine WL.a (d:=47) rfl rfl rfl (yW rfl rfl rfl) ?_
    refine WL.a (d:=10) rfl rfl rfl (q_z rfl) ?_
    refine WL.nil ?_
    refine WX.yg ?_
    refine WX.a ?_
    refine WC.a ?_
    refine WL.a (d:=48) rfl rfl rfl (yW rfl rfl rfl) ?_
    refine WL.a (d:=19) rfl rfl rfl (q_m rfl) ?_
    refine WL.nil ?_
    exact WX.round (G:=Nat × List zSt × Int × Int × Option Addr × Nat) ⟨zj6,(z5A ++ ([(⟨z71,vl_19,i64 (1 + (Int.tmod (i64 (nth (sizes_11.take ((min ((sizes_11.length : Nat) : Int) 12) : Int).toNat) z3Q)) 72))⟩ : zSt)] : List zSt)),(i64 (z71 + gap_20)),(i64 (z3Q + 1)),zs6,zs7⟩ h (Nat.lt_succ_self _) (.cons rfl (.cons rfl (.cons rfl (.cons rfl (.cons rfl (.cons rfl (.cons rfl (.cons rfl .nil)))))))) (.cons .here .nil)
  ·replace h:=yi h zj7
   refine WC.exit ?_
   refine WX.ye ?_
   refine WX.ye ?_
   refine WX.yx ?_
   exact WX.mid (G:=List zSt × Option Addr × Nat) ⟨z5A,z9T,z9U⟩ h (.cons rfl .nil) (.cons .here .nil)
 ·rintro z9h zdp zdq h
  replace h:=(zrX z9h).symm.trans h
  refine WC.b ?_
  refine WC.a ?_
  refine WL.a (d:=49) rfl rfl rfl (q_m rfl) ?_
  refine WL.a (d:=8) rfl rfl rfl (q_z rfl) ?_
  refine WL.nil ?_
  refine WX.a ?_
  refine WC.ret ?_
  obtain rfl:=Option.some.inj h
  refine WX.y7 Try.results8 (.tmp rfl .nil) (fun w hw=>?_)
  exact ⟨zdp,zdq,yD rfl,trivial,hw.sub (.cons .here .nil)⟩
def y1E (zN : List zSt) (z9V : Option Bool) : Nat → Int → Option Bool
 | 0,_=>none
 | zj9 + 1,zP=>if decide (zP < ((zN.length : Nat) : Int)) then chk ((0 : Int) ≤ zP ∧ zP < ((zN.length : Nat) : Int)) (chk (((((decide (((nth zN zP).fTime) < 0)) || (decide (((nth zN zP).fTime) > 1073741824))) || (decide (((nth zN zP).fSize) < 1))) || (decide (((nth zN zP).fSize) > 72))) = false → ((decide (zP > 0)) = true → ((0 : Int) ≤ (i64 (zP - 1)) ∧ (i64 (zP - 1)) < ((zN.length : Nat) : Int)))) (if ((((decide (((nth zN zP).fTime) < 0)) || (decide (((nth zN zP).fTime) > 1073741824))) || (decide (((nth zN zP).fSize) < 1))) || (decide (((nth zN zP).fSize) > 72))) || ((decide (zP > 0)) && (decide (((nth zN (i64 (zP - 1))).fTime) > ((nth zN zP).fTime)))) then some false else y1E zN z9V zj9 (i64 (zP + 1)))) else z9V
theorem y5D {n : Nat} {zN : List zSt} {z9V : Option Bool} {zP : Int} {r : Bool} (h : y1E zN z9V n zP = some r) : ∃ m,n = m + 1:=by
 cases n with
 | zero=>cases h
 | succ m=>exact ⟨m,rfl⟩
def y2h (zN : List zSt) : Option Bool :=
 jp0 (some (decide (((zN.length : Nat) : Int) ≤ 4000))) fun z9V=>y1E zN z9V yu 0
set_option maxRecDepth 20000 in
theorem y5z (Z : Zp)  (z5T : Option Addr) (z5U : Nat) (zN : List zSt) (r : Bool) (w₀ : World) (hz : PZ [] w₀ Z)
  (zo9 : ZS Z 3 (fun r x=>r = e51 x) z5T z5U zN)
  (h : y2h zN = some r) :
  Calls Try.prog 31 #[(.slice z5T zN.length z5U)] w₀ fun e w'=>e = .returned (.bool r) ∧ Hp [] w₀ w' []:=by
 unfold y2h at h
 refine Calls.yd (vs:=[(.slice z5T zN.length z5U)]) (pre:=[]) (env:=[(0,(.slice z5T zN.length z5U))]) Try.func31 rfl Try.ntmps31 rfl (Hp.nil w₀ _) rfl ?_
 refine WC.b ?_
 refine WC.a ?_
 refine WL.a (d:=2) rfl rfl rfl (q_z rfl) ?_
 refine WL.nil ?_
 refine WX.a ?_
 obtain ⟨z9V,zs8,h⟩:=y3I h
 refine WC.y4h ((z9V = some r)) ([(0,(.slice z5T zN.length z5U))]) ([]) ?_ ?_
 ·skip
  refine WC.b ?_
  refine WC.a ?_
  refine WL.a (d:=5) rfl rfl rfl (q_m rfl) ?_
  refine WL.a (d:=6) rfl rfl rfl (y10 Try.underlying24 rfl) ?_
  refine WL.a (d:=7) rfl rfl rfl (q_m rfl) ?_
  refine WL.nil ?_
  refine WX.a ?_
  refine WC.block ?_
  refine WC.y60 (fun (zds : Nat) (zP : Int)=>(y1E zN z9V zds zP = some r)) (fun (zds : Nat) (zP : Int)=>[(0,(.slice z5T zN.length z5U)),(5,(.slice z5T zN.length z5U)),(6,(.int .i64 ((zN.length : Nat) : Int))),(7,(.int .i64 zP))]) (fun (zds : Nat) (zP : Int)=>[]) (fun (zds : Nat) (zP : Int)=>zds) ⟨yu,0⟩ h (.cons rfl (.cons rfl (.cons rfl (.cons rfl .nil)))) .nil ?_
  rintro zds zP h
  obtain ⟨zj9,rfl⟩:=y5D h
  rw [y1E] at h
  refine WC.b ?_
  refine WC.a ?_
  refine WL.a (d:=8) rfl rfl rfl (y1c rfl rfl) ?_
  refine WL.nil ?_
  refine WX.a ?_
  refine WC.b ?_
  refine WC.cond rfl (fun zja=>?_) (fun zja=>?_)
  ·replace h:=yh h zja
   refine WC.skip ?_
   refine WX.a ?_
   refine WC.b ?_
   refine WC.block ?_
   refine WC.b ?_
   obtain ⟨zs9,h⟩:=yl h
   refine WC.a ?_
   refine WL.a (d:=9) rfl rfl rfl (q_m rfl) ?_
   refine WL.znth (dd:=10) rfl rfl (Z:=Z) (Pr:=(fun r x=>r = e51 x)) y2l rfl rfl zo9 zs9 ?_
   rintro zAn zAo zsa zAp rfl
   refine WL.a (d:=11) rfl rfl rfl (y4 (cs:=[(.int .i64 ((nth zN zP).fTime)),(.int .i64 ((nth zN zP).fVL)),(.int .i64 ((nth zN zP).fSize))]) y5Q rfl rfl (y2P hz.pv zsa)) ?_
   refine WL.new (dd:=4) rfl rfl rfl (ym (cs:=[(.int .i64 0),(.int .i64 0),(.int .i64 0)]) y6V rfl) ?_
   intro zjb _
   refine WL.a (d:=3) rfl rfl rfl (q_z rfl) ?_
   refine WL.yb rfl rfl (yc (vs:=[(.int .i64 ((nth zN zP).fTime)),(.int .i64 ((nth zN zP).fVL)),(.int .i64 ((nth zN zP).fSize))]) (ds:=[(.int .i64 ((nth zN zP).fTime)),(.int .i64 ((nth zN zP).fVL)),(.int .i64 ((nth zN zP).fSize))]) y7z rfl rfl rfl rfl (y2 rfl (y2 rfl (y2 rfl yk))) .here (Nat.le_of_ble_eq_true rfl) rfl) ?_
   refine WL.nil ?_
   refine WX.a ?_
   refine WC.b ?_
   obtain ⟨zsb,h⟩:=yl h
   refine WC.yY (fun i=>[].contains i) [] rfl ?_
   refine WD.a (i:=0) (d:=12) (by kernel_rfl) rfl (z8 (by kernel_rfl)) (za (by kernel_rfl)) rfl rfl rfl (fun _=>y3 y3y rfl rfl) ?_
   refine WD.e (i:=1) (d:=13) (by kernel_rfl) rfl (z8 (by kernel_rfl)) (za (by kernel_rfl)) rfl rfl rfl (ya yw rfl (yv .here rfl)) ?_
   refine WD.a (i:=2) (d:=14) (by kernel_rfl) rfl (z8 (by kernel_rfl)) (za (by kernel_rfl)) rfl rfl rfl (fun _=>y1c rfl rfl) ?_
   refine WD.a (i:=3) (d:=15) (by kernel_rfl) rfl (z8 (by kernel_rfl)) (za (by kernel_rfl)) rfl rfl rfl (fun _=>q_m rfl) ?_
   refine WD.mid (fuel':=25) [(0,(.slice z5T zN.length z5U)),(5,(.slice z5T zN.length z5U)),(6,(.int .i64 ((zN.length : Nat) : Int))),(7,(.int .i64 zP)),(4,(.pointer (some ⟨zjb,0,none⟩))),(3,(.int .i64 zP)),(15,(.bool (decide (((nth zN zP).fTime) < 0)))),(19,(.bool ((decide (((nth zN zP).fTime) < 0)) || (decide (((nth zN zP).fTime) > 1073741824)))))] (y1n 33 [7,6,5,4,3,2,1,0]) ?_ (fun zoa=>?_)
   rotate_left
   ·rcases Bool.eq_false_or_eq_true (decide (((nth zN zP).fTime) < 0)) with hb' | hb'
    ·have zjc:=hb'; clear hb'
     refine WD.pin (i:=15) rfl zjc ?_
     refine WD.b (i:=4) (d:=16) (by kernel_rfl) rfl (z8 (by kernel_rfl)) (za (by kernel_rfl)) rfl rfl rfl ?_
     refine WD.b (i:=5) (d:=17) (by kernel_rfl) rfl (z8 (by kernel_rfl)) (za (by kernel_rfl)) rfl rfl rfl ?_
     refine WD.b (i:=6) (d:=18) (by kernel_rfl) rfl (z8 (by kernel_rfl)) (za (by kernel_rfl)) rfl rfl rfl ?_
     refine WD.a (i:=7) (d:=19) (by kernel_rfl) rfl (z8 (by kernel_rfl)) (za (by kernel_rfl)) rfl rfl rfl (fun _=>ys rfl rfl) ?_
     refine WD.yC (.cons .here .nil) ?_ zoa
     exact (.cons rfl (.cons rfl (.cons rfl (.cons rfl (.cons rfl (.cons rfl (.cons (zr (Eq.symm zjc)) (.cons (zr (y4s zjc)) .nil))))))))
    ·have zjd:=hb'; clear hb'
     refine WD.pin (i:=15) rfl zjd ?_
     refine WD.a (i:=4) (d:=16) (by kernel_rfl) rfl (z8 (by kernel_rfl)) (za (by kernel_rfl)) rfl rfl rfl (fun _=>y3 y3y rfl rfl) ?_
     refine WD.e (i:=5) (d:=17) (by kernel_rfl) rfl (z8 (by kernel_rfl)) (za (by kernel_rfl)) rfl rfl rfl (ya yw rfl (yv .here rfl)) ?_
     refine WD.a (i:=6) (d:=18) (by kernel_rfl) rfl (z8 (by kernel_rfl)) (za (by kernel_rfl)) rfl rfl rfl (fun _=>y2F rfl rfl) ?_
     refine WD.a (i:=7) (d:=19) (by kernel_rfl) rfl (z8 (by kernel_rfl)) (za (by kernel_rfl)) rfl rfl rfl (fun _=>yr rfl rfl) ?_
     refine WD.yC (.cons .here .nil) ?_ zoa
     exact (.cons rfl (.cons rfl (.cons rfl (.cons rfl (.cons rfl (.cons rfl (.cons (zr (Eq.symm zjd)) (.cons (zr (y4t zjd)) .nil))))))))
   refine WD.d #[true,true,true,true,true,true,true,true,false,false,false,false,false,false,false,false,false,false,false,false,false,false,false,false,false,false,false,false,false,false,false,false,false] (by kernel_rfl) ?_
   refine WD.a (i:=8) (d:=20) (by kernel_rfl) rfl (z8 (by kernel_rfl)) (za (by kernel_rfl)) rfl rfl rfl (fun _=>q_m rfl) ?_
   refine WD.mid (fuel':=20) [(0,(.slice z5T zN.length z5U)),(5,(.slice z5T zN.length z5U)),(6,(.int .i64 ((zN.length : Nat) : Int))),(7,(.int .i64 zP)),(4,(.pointer (some ⟨zjb,0,none⟩))),(3,(.int .i64 zP)),(20,(.bool ((decide (((nth zN zP).fTime) < 0)) || (decide (((nth zN zP).fTime) > 1073741824))))),(24,(.bool (((decide (((nth zN zP).fTime) < 0)) || (decide (((nth zN zP).fTime) > 1073741824))) || (decide (((nth zN zP).fSize) < 1)))))] (y1n 33 [12,11,10,9,8,7,6,5,4,3,2,1,0]) ?_ (fun zob=>?_)
   rotate_left
   ·rcases Bool.eq_false_or_eq_true ((decide (((nth zN zP).fTime) < 0)) || (decide (((nth zN zP).fTime) > 1073741824))) with hb' | hb'
    ·have zje:=hb'; clear hb'
     refine WD.pin (i:=20) rfl zje ?_
     refine WD.b (i:=9) (d:=21) (by kernel_rfl) rfl (z8 (by kernel_rfl)) (za (by kernel_rfl)) rfl rfl rfl ?_
     refine WD.b (i:=10) (d:=22) (by kernel_rfl) rfl (z8 (by kernel_rfl)) (za (by kernel_rfl)) rfl rfl rfl ?_
     refine WD.b (i:=11) (d:=23) (by kernel_rfl) rfl (z8 (by kernel_rfl)) (za (by kernel_rfl)) rfl rfl rfl ?_
     refine WD.a (i:=12) (d:=24) (by kernel_rfl) rfl (z8 (by kernel_rfl)) (za (by kernel_rfl)) rfl rfl rfl (fun _=>ys rfl rfl) ?_
     refine WD.yC (.cons .here .nil) ?_ zob
     exact (.cons rfl (.cons rfl (.cons rfl (.cons rfl (.cons rfl (.cons rfl (.cons (zr (Eq.symm zje)) (.cons (zr (y4s zje)) .nil))))))))
    ·have zjf:=hb'; clear hb'
     refine WD.pin (i:=20) rfl zjf ?_
     refine WD.a (i:=9) (d:=21) (by kernel_rfl) rfl (z8 (by kernel_rfl)) (za (by kernel_rfl)) rfl rfl rfl (fun _=>y3 y6G rfl rfl) ?_
     refine WD.e (i:=10) (d:=22) (by kernel_rfl) rfl (z8 (by kernel_rfl)) (za (by kernel_rfl)) rfl rfl rfl (ya yw rfl (yv .here rfl)) ?_
     refine WD.a (i:=11) (d:=23) (by kernel_rfl) rfl (z8 (by kernel_rfl)) (za (by kernel_rfl)) rfl rfl rfl (fun _=>y1c rfl rfl) ?_
     refine WD.a (i:=12) (d:=24) (by kernel_rfl) rfl (z8 (by kernel_rfl)) (za (by kernel_rfl)) rfl rfl rfl (fun _=>yr rfl rfl) ?_
     refine WD.yC (.cons .here .nil) ?_ zob
     exact (.cons rfl (.cons rfl (.cons rfl (.cons rfl (.cons rfl (.cons rfl (.cons (zr (Eq.symm zjf)) (.cons (zr (y4t zjf)) .nil))))))))
   refine WD.d #[true,true,true,true,true,true,true,true,true,true,true,true,true,false,false,false,false,false,false,false,false,false,false,false,false,false,false,false,false,false,false,false,false] (by kernel_rfl) ?_
   refine WD.a (i:=13) (d:=25) (by kernel_rfl) rfl (z8 (by kernel_rfl)) (za (by kernel_rfl)) rfl rfl rfl (fun _=>q_m rfl) ?_
   refine WD.mid (fuel':=15) [(0,(.slice z5T zN.length z5U)),(5,(.slice z5T zN.length z5U)),(6,(.int .i64 ((zN.length : Nat) : Int))),(7,(.int .i64 zP)),(4,(.pointer (some ⟨zjb,0,none⟩))),(3,(.int .i64 zP)),(25,(.bool (((decide (((nth zN zP).fTime) < 0)) || (decide (((nth zN zP).fTime) > 1073741824))) || (decide (((nth zN zP).fSize) < 1))))),(29,(.bool ((((decide (((nth zN zP).fTime) < 0)) || (decide (((nth zN zP).fTime) > 1073741824))) || (decide (((nth zN zP).fSize) < 1))) || (decide (((nth zN zP).fSize) > 72)))))] (y1n 33 [17,16,15,14,13,12,11,10,9,8,7,6,5,4,3,2,1,0]) ?_ (fun zoc=>?_)
   rotate_left
   ·rcases Bool.eq_false_or_eq_true (((decide (((nth zN zP).fTime) < 0)) || (decide (((nth zN zP).fTime) > 1073741824))) || (decide (((nth zN zP).fSize) < 1))) with hb' | hb'
    ·have zjg:=hb'; clear hb'
     refine WD.pin (i:=25) rfl zjg ?_
     refine WD.b (i:=14) (d:=26) (by kernel_rfl) rfl (z8 (by kernel_rfl)) (za (by kernel_rfl)) rfl rfl rfl ?_
     refine WD.b (i:=15) (d:=27) (by kernel_rfl) rfl (z8 (by kernel_rfl)) (za (by kernel_rfl)) rfl rfl rfl ?_
     refine WD.b (i:=16) (d:=28) (by kernel_rfl) rfl (z8 (by kernel_rfl)) (za (by kernel_rfl)) rfl rfl rfl ?_
     refine WD.a (i:=17) (d:=29) (by kernel_rfl) rfl (z8 (by kernel_rfl)) (za (by kernel_rfl)) rfl rfl rfl (fun _=>ys rfl rfl) ?_
     refine WD.yC (.cons .here .nil) ?_ zoc
     exact (.cons rfl (.cons rfl (.cons rfl (.cons rfl (.cons rfl (.cons rfl (.cons (zr (Eq.symm zjg)) (.cons (zr (y4s zjg)) .nil))))))))
    ·have zjh:=hb'; clear hb'
     refine WD.pin (i:=25) rfl zjh ?_
     refine WD.a (i:=14) (d:=26) (by kernel_rfl) rfl (z8 (by kernel_rfl)) (za (by kernel_rfl)) rfl rfl rfl (fun _=>y3 y6G rfl rfl) ?_
     refine WD.e (i:=15) (d:=27) (by kernel_rfl) rfl (z8 (by kernel_rfl)) (za (by kernel_rfl)) rfl rfl rfl (ya yw rfl (yv .here rfl)) ?_
     refine WD.a (i:=16) (d:=28) (by kernel_rfl) rfl (z8 (by kernel_rfl)) (za (by kernel_rfl)) rfl rfl rfl (fun _=>y2F rfl rfl) ?_
     refine WD.a (i:=17) (d:=29) (by kernel_rfl) rfl (z8 (by kernel_rfl)) (za (by kernel_rfl)) rfl rfl rfl (fun _=>yr rfl rfl) ?_
     refine WD.yC (.cons .here .nil) ?_ zoc
     exact (.cons rfl (.cons rfl (.cons rfl (.cons rfl (.cons rfl (.cons rfl (.cons (zr (Eq.symm zjh)) (.cons (zr (y4t zjh)) .nil))))))))
   refine WD.d #[true,true,true,true,true,true,true,true,true,true,true,true,true,true,true,true,true,true,false,false,false,false,false,false,false,false,false,false,false,false,false,false,false] (by kernel_rfl) ?_
   refine WD.a (i:=18) (d:=30) (by kernel_rfl) rfl (z8 (by kernel_rfl)) (za (by kernel_rfl)) rfl rfl rfl (fun _=>q_m rfl) ?_
   refine WD.mid (fuel':=0) [(0,(.slice z5T zN.length z5U)),(5,(.slice z5T zN.length z5U)),(6,(.int .i64 ((zN.length : Nat) : Int))),(7,(.int .i64 zP)),(30,(.bool ((((decide (((nth zN zP).fTime) < 0)) || (decide (((nth zN zP).fTime) > 1073741824))) || (decide (((nth zN zP).fSize) < 1))) || (decide (((nth zN zP).fSize) > 72))))),(44,(.bool (((((decide (((nth zN zP).fTime) < 0)) || (decide (((nth zN zP).fTime) > 1073741824))) || (decide (((nth zN zP).fSize) < 1))) || (decide (((nth zN zP).fSize) > 72))) || ((decide (zP > 0)) && (decide (((nth zN (i64 (zP - 1))).fTime) > ((nth zN zP).fTime)))))))] (y1n 33 [32,31,30,29,28,27,26,25,24,23,22,21,20,19,18,17,16,15,14,13,12,11,10,9,8,7,6,5,4,3,2,1,0]) ?_ (fun zod=>?_)
   rotate_left
   ·rcases Bool.eq_false_or_eq_true ((((decide (((nth zN zP).fTime) < 0)) || (decide (((nth zN zP).fTime) > 1073741824))) || (decide (((nth zN zP).fSize) < 1))) || (decide (((nth zN zP).fSize) > 72))) with hb' | hb'
    ·have zji:=hb'; clear hb'
     refine WD.pin (i:=30) rfl zji ?_
     refine WD.b (i:=19) (d:=31) (by kernel_rfl) rfl (z8 (by kernel_rfl)) (za (by kernel_rfl)) rfl rfl rfl ?_
     refine WD.b (i:=20) (d:=32) (by kernel_rfl) rfl (z8 (by kernel_rfl)) (za (by kernel_rfl)) rfl rfl rfl ?_
     refine WD.b (i:=21) (d:=33) (by kernel_rfl) rfl (z8 (by kernel_rfl)) (za (by kernel_rfl)) rfl rfl rfl ?_
     refine WD.b (i:=22) (d:=34) (by kernel_rfl) rfl (z8 (by kernel_rfl)) (za (by kernel_rfl)) rfl rfl rfl ?_
     refine WD.b (i:=23) (d:=35) (by kernel_rfl) rfl (z8 (by kernel_rfl)) (za (by kernel_rfl)) rfl rfl rfl ?_
     refine WD.b (i:=24) (d:=36) (by kernel_rfl) rfl (z8 (by kernel_rfl)) (za (by kernel_rfl)) rfl rfl rfl ?_
     refine WD.b (i:=25) (d:=37) (by kernel_rfl) rfl (z8 (by kernel_rfl)) (za (by kernel_rfl)) rfl rfl rfl ?_
     refine WD.b (i:=26) (d:=38) (by kernel_rfl) rfl (z8 (by kernel_rfl)) (za (by kernel_rfl)) rfl rfl rfl ?_
     refine WD.b (i:=27) (d:=39) (by kernel_rfl) rfl (z8 (by kernel_rfl)) (za (by kernel_rfl)) rfl rfl rfl ?_
     refine WD.b (i:=28) (d:=40) (by kernel_rfl) rfl (z8 (by kernel_rfl)) (za (by kernel_rfl)) rfl rfl rfl ?_
     refine WD.b (i:=29) (d:=41) (by kernel_rfl) rfl (z8 (by kernel_rfl)) (za (by kernel_rfl)) rfl rfl rfl ?_
     refine WD.b (i:=30) (d:=42) (by kernel_rfl) rfl (z8 (by kernel_rfl)) (za (by kernel_rfl)) rfl rfl rfl ?_
     refine WD.b (i:=31) (d:=43) (by kernel_rfl) rfl (z8 (by kernel_rfl)) (za (by kernel_rfl)) rfl rfl rfl ?_
     refine WD.a (i:=32) (d:=44) (by kernel_rfl) rfl (z8 (by kernel_rfl)) (za (by kernel_rfl)) rfl rfl rfl (fun _=>ys rfl rfl) ?_
     refine WD.yC (.cons .here .nil) ?_ zod
     exact (.cons rfl (.cons rfl (.cons rfl (.cons rfl (.cons (zr (Eq.symm zji)) (.cons (zr (y4s zji)) .nil))))))
    ·have zh1:=hb'; clear hb'
     have zsc:=zsb zh1
     refine WD.pin (i:=30) rfl zh1 ?_
     refine WD.a (i:=19) (d:=31) (by kernel_rfl) rfl (z8 (by kernel_rfl)) (za (by kernel_rfl)) rfl rfl rfl (fun _=>q_m rfl) ?_
     refine WD.a (i:=20) (d:=32) (by kernel_rfl) rfl (z8 (by kernel_rfl)) (za (by kernel_rfl)) rfl rfl rfl (fun _=>y2F rfl rfl) ?_
     refine WD.a (i:=21) (d:=33) (by kernel_rfl) rfl (z8 (by kernel_rfl)) (za (by kernel_rfl)) rfl rfl rfl (fun _=>q_m rfl) ?_
     refine WD.mid (fuel':=1) [(0,(.slice z5T zN.length z5U)),(5,(.slice z5T zN.length z5U)),(6,(.int .i64 ((zN.length : Nat) : Int))),(7,(.int .i64 zP)),(30,(.bool false)),(33,(.bool (decide (zP > 0)))),(43,(.bool ((decide (zP > 0)) && (decide (((nth zN (i64 (zP - 1))).fTime) > ((nth zN zP).fTime))))))] (y1n 33 [31,30,29,28,27,26,25,24,23,22,21,20,19,18,17,16,15,14,13,12,11,10,9,8,7,6,5,4,3,2,1,0]) ?_ (fun zoe=>?_)
     rotate_left
     ·rcases Bool.eq_false_or_eq_true (decide (zP > 0)) with hb' | hb'
      ·have zh2:=hb'; clear hb'
       have zsd:=zsc zh2
       refine WD.pin (i:=33) rfl zh2 ?_
       refine WD.a (i:=22) (d:=34) (by kernel_rfl) rfl (z8 (by kernel_rfl)) (za (by kernel_rfl)) rfl rfl rfl (fun _=>q_m rfl) ?_
       refine WD.a (i:=23) (d:=35) (by kernel_rfl) rfl (z8 (by kernel_rfl)) (za (by kernel_rfl)) rfl rfl rfl (fun _=>q_m rfl) ?_
       refine WD.a (i:=24) (d:=36) (by kernel_rfl) rfl (z8 (by kernel_rfl)) (za (by kernel_rfl)) rfl rfl rfl (fun _=>y6Q rfl rfl rfl) ?_
       refine WD.znth (j:=25) (dd:=37) (by kernel_rfl) rfl (z8 (by kernel_rfl)) (za (by kernel_rfl)) rfl rfl (Z:=Z) (Pr:=(fun r x=>r = e51 x)) y2l rfl rfl zo9 zsd ?_
       rintro zAq zAr zse zAs rfl
       refine WD.a (i:=26) (d:=38) (by kernel_rfl) rfl (z8 (by kernel_rfl)) (za (by kernel_rfl)) rfl rfl rfl (fun _=>y3 y3y rfl rfl) ?_
       refine WD.e (i:=27) (d:=39) (by kernel_rfl) rfl (z8 (by kernel_rfl)) (za (by kernel_rfl)) rfl rfl rfl (ya yw rfl (y1J hz.pv zse rfl)) ?_
       refine WD.a (i:=28) (d:=40) (by kernel_rfl) rfl (z8 (by kernel_rfl)) (za (by kernel_rfl)) rfl rfl rfl (fun _=>y3 y3y rfl rfl) ?_
       refine WD.e (i:=29) (d:=41) (by kernel_rfl) rfl (z8 (by kernel_rfl)) (za (by kernel_rfl)) rfl rfl rfl (ya yw rfl (yv .here rfl)) ?_
       refine WD.a (i:=30) (d:=42) (by kernel_rfl) rfl (z8 (by kernel_rfl)) (za (by kernel_rfl)) rfl rfl rfl (fun _=>y2F rfl rfl) ?_
       refine WD.a (i:=31) (d:=43) (by kernel_rfl) rfl (z8 (by kernel_rfl)) (za (by kernel_rfl)) rfl rfl rfl (fun _=>ys rfl rfl) ?_
       refine WD.yC (.cons .here .nil) ?_ zoe
       exact (.cons rfl (.cons rfl (.cons rfl (.cons rfl (.cons rfl (.cons (zr (Eq.symm zh2)) (.cons (zr (y4E zh2)) .nil)))))))
      ·have zjj:=hb'; clear hb'
       refine WD.pin (i:=33) rfl zjj ?_
       refine WD.b (i:=22) (d:=34) (by kernel_rfl) rfl (z8 (by kernel_rfl)) (za (by kernel_rfl)) rfl rfl rfl ?_
       refine WD.b (i:=23) (d:=35) (by kernel_rfl) rfl (z8 (by kernel_rfl)) (za (by kernel_rfl)) rfl rfl rfl ?_
       refine WD.b (i:=24) (d:=36) (by kernel_rfl) rfl (z8 (by kernel_rfl)) (za (by kernel_rfl)) rfl rfl rfl ?_
       refine WD.b (i:=25) (d:=37) (by kernel_rfl) rfl (z8 (by kernel_rfl)) (za (by kernel_rfl)) rfl rfl rfl ?_
       refine WD.b (i:=26) (d:=38) (by kernel_rfl) rfl (z8 (by kernel_rfl)) (za (by kernel_rfl)) rfl rfl rfl ?_
       refine WD.b (i:=27) (d:=39) (by kernel_rfl) rfl (z8 (by kernel_rfl)) (za (by kernel_rfl)) rfl rfl rfl ?_
       refine WD.b (i:=28) (d:=40) (by kernel_rfl) rfl (z8 (by kernel_rfl)) (za (by kernel_rfl)) rfl rfl rfl ?_
       refine WD.b (i:=29) (d:=41) (by kernel_rfl) rfl (z8 (by kernel_rfl)) (za (by kernel_rfl)) rfl rfl rfl ?_
       refine WD.b (i:=30) (d:=42) (by kernel_rfl) rfl (z8 (by kernel_rfl)) (za (by kernel_rfl)) rfl rfl rfl ?_
       refine WD.a (i:=31) (d:=43) (by kernel_rfl) rfl (z8 (by kernel_rfl)) (za (by kernel_rfl)) rfl rfl rfl (fun _=>yr rfl rfl) ?_
       refine WD.yC (.cons .here .nil) ?_ zoe
       exact (.cons rfl (.cons rfl (.cons rfl (.cons rfl (.cons rfl (.cons (zr (Eq.symm zjj)) (.cons (zr (y4D zjj)) .nil)))))))
     refine WD.d #[true,true,true,true,true,true,true,true,true,true,true,true,true,true,true,true,true,true,true,true,true,true,true,true,true,true,true,true,true,true,true,true,false] (by kernel_rfl) ?_
     refine WD.a (i:=32) (d:=44) (by kernel_rfl) rfl (z8 (by kernel_rfl)) (za (by kernel_rfl)) rfl rfl rfl (fun _=>yr rfl rfl) ?_
     refine WD.yC (.cons .here .nil) ?_ zod
     exact (.cons rfl (.cons rfl (.cons rfl (.cons rfl (.cons (zr (Eq.symm zh1)) (.cons (zr (y4t zh1)) .nil))))))
   refine WD.d #[true,true,true,true,true,true,true,true,true,true,true,true,true,true,true,true,true,true,true,true,true,true,true,true,true,true,true,true,true,true,true,true,true] (by kernel_rfl) ?_
   refine WD.done (by kernel_rfl) ?_
   refine WX.a ?_
   refine WC.cond rfl (fun zjk=>?_) (fun zjk=>?_)
   ·replace h:=yh h zjk
    refine WC.b ?_
    refine WC.a ?_
    refine WL.a (d:=2) rfl rfl rfl (q_z rfl) ?_
    refine WL.nil ?_
    refine WX.a ?_
    refine WC.ret ?_
    refine WX.yq ?_
    refine WX.y6 ?_
    refine WX.y6 ?_
    refine WX.yq ?_
    refine WX.y6 ?_
    obtain rfl:=Option.some.inj h
    refine WX.y7 Try.results31 (.tmp rfl .nil) (fun w hw=>?_)
    exact ⟨yD rfl,hw.sub .nil⟩
   ·replace h:=yi h zjk
    refine WC.skip ?_
    refine WX.yg ?_
    refine WX.a ?_
    refine WC.a ?_
    refine WL.a (d:=45) rfl rfl rfl (yW rfl rfl rfl) ?_
    refine WL.a (d:=7) rfl rfl rfl (q_m rfl) ?_
    refine WL.nil ?_
    exact WX.round (G:=Nat × Int) ⟨zj9,(i64 (zP + 1))⟩ h (Nat.lt_succ_self _) (.cons rfl (.cons rfl (.cons rfl (.cons rfl .nil)))) .nil
  ·replace h:=yi h zja
   refine WC.exit ?_
   refine WX.ye ?_
   refine WX.ye ?_
   refine WX.yx ?_
   exact WX.mid (G:=Unit) () h (.cons rfl .nil) .nil
 ·rintro  h
  replace h:=zs8.symm.trans h
  refine WC.b ?_
  refine WC.a ?_
  refine WL.a (d:=46) rfl rfl rfl (q_m rfl) ?_
  refine WL.a (d:=47) rfl rfl rfl (y10 Try.underlying24 rfl) ?_
  refine WL.a (d:=48) rfl rfl rfl (y5A rfl rfl) ?_
  refine WL.a (d:=2) rfl rfl rfl (q_z rfl) ?_
  refine WL.nil ?_
  refine WX.a ?_
  refine WC.ret ?_
  obtain rfl:=Option.some.inj h
  refine WX.y7 Try.results31 (.tmp rfl .nil) (fun w hw=>?_)
  exact ⟨yD rfl,hw.sub .nil⟩
def y22 (z2e : List zSt) (z3r : Int) (z2N : Int) (z9W : (List Int) → Option (List Int × Int)) : Nat → (List Int) → Int → Int → Option (List Int × Int)
 | 0,_,_,_=>none
 | zjl + 1,z6f,z6J,z2P=>if decide (z2P < ((z2e.length : Nat) : Int)) then chk ((0 : Int) ≤ z2P ∧ z2P < ((z2e.length : Nat) : Int)) (chk ((((z6f ++ ([i64 ((max z6J (i64 (((nth z2e z2P).fTime) + z3r))) + (i64 (((nth z2e z2P).fSize) * z2N)))] : List Int)).length : Nat) : Int) * 8 ≤ 140737488355328 ∧ (((z6f ++ ([i64 ((max z6J (i64 (((nth z2e z2P).fTime) + z3r))) + (i64 (((nth z2e z2P).fSize) * z2N)))] : List Int)).length : Nat) : Int) ≤ 4611686018427387904) (y22 z2e z3r z2N z9W zjl (z6f ++ ([i64 ((max z6J (i64 (((nth z2e z2P).fTime) + z3r))) + (i64 (((nth z2e z2P).fSize) * z2N)))] : List Int)) (i64 ((max z6J (i64 (((nth z2e z2P).fTime) + z3r))) + (i64 (((nth z2e z2P).fSize) * z2N)))) (i64 (z2P + 1)))) else z9W z6f
theorem y63 {n : Nat} {z2e : List zSt} {z3r : Int} {z2N : Int} {z9W : (List Int) → Option (List Int × Int)} {z6f : List Int} {z6J : Int} {z2P : Int} {r : List Int × Int} (h : y22 z2e z3r z2N z9W n z6f z6J z2P = some r) : ∃ m,n = m + 1:=by
 cases n with
 | zero=>cases h
 | succ m=>exact ⟨m,rfl⟩
def y2L (z2e : List zSt) (z2N : Int) (z3r : Int) : Option (List Int × Int) :=
 (y2h z2e).bind fun z8S=>if ((((!z8S) || (decide (z2N < 1))) || (decide (z2N > 16))) || (decide (z3r < 0))) || (decide (z3r > 1000)) then some (([] : List Int),2) else jp1 (fun (z9i : List Int)=>some (z9i,0)) fun z9W=>y22 z2e z3r z2N z9W yu ([] : List Int) 0 0
set_option maxRecDepth 20000 in
theorem y64 (Z : Zp)  (z8k : Option Addr) (z8l : Nat) (z2e : List zSt) (z2N : Int) (z3r : Int) (r : List Int × Int) (w₀ : World) (hz : PZ [] w₀ Z)
  (zof : ZS Z 3 (fun r x=>r = e51 x) z8k z8l z2e)
  (h : y2L z2e z2N z3r = some r) :
  Calls Try.prog 14 #[(.slice z8k z2e.length z8l),(.int .i64 z2N),(.int .i64 z3r)] w₀ fun e w'=>∃ zog : Option Addr,∃ zoh : Nat,e = .returned (.tuple #[(.slice zog r.1.length zoh),(.int .i64 r.2)]) ∧ True ∧ Hp [] w₀ w' [row (.slice zog r.1.length zoh) 3 1 (r.1.flatMap e3)]:=by
 unfold y2L at h
 refine Calls.yd (vs:=[(.slice z8k z2e.length z8l),(.int .i64 z2N),(.int .i64 z3r)]) (pre:=[]) (env:=[(0,(.slice z8k z2e.length z8l)),(1,(.int .i64 z2N)),(2,(.int .i64 z3r))]) Try.func14 rfl Try.ntmps14 rfl (Hp.nil w₀ _) rfl ?_
 refine WC.b ?_
 refine WC.a ?_
 refine WL.a (d:=6) rfl rfl rfl (q_z rfl) ?_
 refine WL.a (d:=7) rfl rfl rfl (q_z rfl) ?_
 refine WL.nil ?_
 refine WX.a ?_
 refine WC.b ?_
 refine WC.b ?_
 obtain ⟨z8S,zsf,h⟩:=ze h
 refine WC.a ?_
 refine WL.a (d:=12) rfl rfl rfl (q_m rfl) ?_
 refine WL.b (dd:=13) rfl rfl rfl (zj (l:=[.tmp 12]) Try.call31 (.cons rfl .nil)) (.nil : Sel [] [] []) (fun w hw=>by have pz:=(hz.call hw (.nil : Sel [] [] [])); exact y5z (Z:=_) (z5T:=z8k) (z5U:=z8l) (zN:=z2e) (r:=z8S) w pz zof zsf) ?_
 refine WL.a (d:=14) rfl rfl rfl (y1m rfl) ?_
 refine WL.a (d:=15) rfl rfl rfl (q_m rfl) ?_
 refine WL.yN True [(0,(.slice z8k z2e.length z8l)),(1,(.int .i64 z2N)),(2,(.int .i64 z3r)),(18,(.bool ((!z8S) || (decide (z2N < 1)))))] [] 3 ?_ (fun _=>?_)
 ·rcases Bool.eq_false_or_eq_true (!z8S) with hb' | hb'
  ·have zoi:=hb'; clear hb'
   refine WL.pin (i:=15) rfl zoi ?_
   refine WL.e rfl rfl rfl ?_
   refine WL.e rfl rfl rfl ?_
   refine WL.a (d:=18) rfl rfl rfl (ys rfl rfl) ?_
   exact WL.y9 () trivial (.cons rfl (.cons rfl (.cons rfl (.cons (zr (y4s zoi)) .nil)))) .nil
  ·have zoj:=hb'; clear hb'
   refine WL.pin (i:=15) rfl zoj ?_
   refine WL.a (d:=16) rfl rfl rfl (q_m rfl) ?_
   refine WL.a (d:=17) rfl rfl rfl (y1c rfl rfl) ?_
   refine WL.a (d:=18) rfl rfl rfl (yr rfl rfl) ?_
   exact WL.y9 () trivial (.cons rfl (.cons rfl (.cons rfl (.cons (zr (y4t zoj)) .nil)))) .nil
 ·skip
  refine WL.a (d:=19) rfl rfl rfl (q_m rfl) ?_
  refine WL.yN True [(0,(.slice z8k z2e.length z8l)),(1,(.int .i64 z2N)),(2,(.int .i64 z3r)),(22,(.bool (((!z8S) || (decide (z2N < 1))) || (decide (z2N > 16)))))] [] 3 ?_ (fun _=>?_)
  ·rcases Bool.eq_false_or_eq_true ((!z8S) || (decide (z2N < 1))) with hb' | hb'
   ·have zol:=hb'; clear hb'
    refine WL.pin (i:=19) rfl zol ?_
    refine WL.e rfl rfl rfl ?_
    refine WL.e rfl rfl rfl ?_
    refine WL.a (d:=22) rfl rfl rfl (ys rfl rfl) ?_
    exact WL.y9 () trivial (.cons rfl (.cons rfl (.cons rfl (.cons (zr (y4s zol)) .nil)))) .nil
   ·have zom:=hb'; clear hb'
    refine WL.pin (i:=19) rfl zom ?_
    refine WL.a (d:=20) rfl rfl rfl (q_m rfl) ?_
    refine WL.a (d:=21) rfl rfl rfl (y2F rfl rfl) ?_
    refine WL.a (d:=22) rfl rfl rfl (yr rfl rfl) ?_
    exact WL.y9 () trivial (.cons rfl (.cons rfl (.cons rfl (.cons (zr (y4t zom)) .nil)))) .nil
  ·skip
   refine WL.a (d:=23) rfl rfl rfl (q_m rfl) ?_
   refine WL.yN True [(0,(.slice z8k z2e.length z8l)),(1,(.int .i64 z2N)),(2,(.int .i64 z3r)),(26,(.bool ((((!z8S) || (decide (z2N < 1))) || (decide (z2N > 16))) || (decide (z3r < 0)))))] [] 3 ?_ (fun _=>?_)
   ·rcases Bool.eq_false_or_eq_true (((!z8S) || (decide (z2N < 1))) || (decide (z2N > 16))) with hb' | hb'
    ·have zon:=hb'; clear hb'
     refine WL.pin (i:=23) rfl zon ?_
     refine WL.e rfl rfl rfl ?_
     refine WL.e rfl rfl rfl ?_
     refine WL.a (d:=26) rfl rfl rfl (ys rfl rfl) ?_
     exact WL.y9 () trivial (.cons rfl (.cons rfl (.cons rfl (.cons (zr (y4s zon)) .nil)))) .nil
    ·have zoo:=hb'; clear hb'
     refine WL.pin (i:=23) rfl zoo ?_
     refine WL.a (d:=24) rfl rfl rfl (q_m rfl) ?_
     refine WL.a (d:=25) rfl rfl rfl (y1c rfl rfl) ?_
     refine WL.a (d:=26) rfl rfl rfl (yr rfl rfl) ?_
     exact WL.y9 () trivial (.cons rfl (.cons rfl (.cons rfl (.cons (zr (y4t zoo)) .nil)))) .nil
   ·skip
    refine WL.a (d:=27) rfl rfl rfl (q_m rfl) ?_
    refine WL.yN True [(0,(.slice z8k z2e.length z8l)),(1,(.int .i64 z2N)),(2,(.int .i64 z3r)),(30,(.bool (((((!z8S) || (decide (z2N < 1))) || (decide (z2N > 16))) || (decide (z3r < 0))) || (decide (z3r > 1000)))))] [] 3 ?_ (fun _=>?_)
    ·rcases Bool.eq_false_or_eq_true ((((!z8S) || (decide (z2N < 1))) || (decide (z2N > 16))) || (decide (z3r < 0))) with hb' | hb'
     ·have zop:=hb'; clear hb'
      refine WL.pin (i:=27) rfl zop ?_
      refine WL.e rfl rfl rfl ?_
      refine WL.e rfl rfl rfl ?_
      refine WL.a (d:=30) rfl rfl rfl (ys rfl rfl) ?_
      exact WL.y9 () trivial (.cons rfl (.cons rfl (.cons rfl (.cons (zr (y4s zop)) .nil)))) .nil
     ·have zoq:=hb'; clear hb'
      refine WL.pin (i:=27) rfl zoq ?_
      refine WL.a (d:=28) rfl rfl rfl (q_m rfl) ?_
      refine WL.a (d:=29) rfl rfl rfl (y2F rfl rfl) ?_
      refine WL.a (d:=30) rfl rfl rfl (yr rfl rfl) ?_
      exact WL.y9 () trivial (.cons rfl (.cons rfl (.cons rfl (.cons (zr (y4t zoq)) .nil)))) .nil
    ·skip
     refine WL.nil ?_
     refine WX.a ?_
     refine WC.cond rfl (fun zjm=>?_) (fun zjm=>?_)
     ·replace h:=yh h zjm
      refine WC.b ?_
      refine WC.a ?_
      refine WL.a (d:=6) rfl rfl rfl (q_z rfl) ?_
      refine WL.a (d:=7) rfl rfl rfl (q_z rfl) ?_
      refine WL.nil ?_
      refine WX.a ?_
      refine WC.ret ?_
      refine WX.y6 ?_
      refine WX.nilRow 3 1 ?_
      obtain rfl:=Option.some.inj h
      refine WX.y7 Try.results14 (.tmp rfl (.tmp rfl .nil)) (fun w hw=>?_)
      exact ⟨none,0,y1M rfl rfl,trivial,hw.sub (.cons .here .nil)⟩
     ·replace h:=yi h zjm
      refine WC.skip ?_
      refine WX.a ?_
      refine WC.b ?_
      refine WC.a ?_
      refine WL.a (d:=8) rfl rfl rfl (q_z rfl) ?_
      refine WL.nil ?_
      refine WX.a ?_
      refine WC.b ?_
      refine WC.a ?_
      refine WL.a (d:=9) rfl rfl rfl (q_z rfl) ?_
      refine WL.nil ?_
      refine WX.a ?_
      obtain ⟨z9W,zsg,h⟩:=y1h h
      refine WC.y2O (fun (z9i : List Int) (zdt : Option Addr) (zdu : Nat)=>(z9W z9i = some r)) (fun (z9i : List Int) (zdt : Option Addr) (zdu : Nat)=>[(8,(.slice zdt z9i.length zdu))]) (fun (z9i : List Int) (zdt : Option Addr) (zdu : Nat)=>[row (.slice zdt z9i.length zdu) 3 1 (z9i.flatMap e3)]) ?_ ?_
      ·skip
       refine WC.b ?_
       refine WC.a ?_
       refine WL.a (d:=31) rfl rfl rfl (q_m rfl) ?_
       refine WL.a (d:=32) rfl rfl rfl (y10 Try.underlying24 rfl) ?_
       refine WL.a (d:=33) rfl rfl rfl (q_m rfl) ?_
       refine WL.nil ?_
       refine WX.a ?_
       refine WC.block ?_
       refine WC.nilRow 3 1 ?_
       refine WC.y3H (fun (zdv : Nat) (z6f : List Int) (z6J : Int) (z2P : Int) (zc4 : Option Addr) (zc5 : Nat)=>(y22 z2e z3r z2N z9W zdv z6f z6J z2P = some r)) (fun (zdv : Nat) (z6f : List Int) (z6J : Int) (z2P : Int) (zc4 : Option Addr) (zc5 : Nat)=>[(1,(.int .i64 z2N)),(2,(.int .i64 z3r)),(8,(.slice zc4 z6f.length zc5)),(9,(.int .i64 z6J)),(31,(.slice z8k z2e.length z8l)),(32,(.int .i64 ((z2e.length : Nat) : Int))),(33,(.int .i64 z2P))]) (fun (zdv : Nat) (z6f : List Int) (z6J : Int) (z2P : Int) (zc4 : Option Addr) (zc5 : Nat)=>[row (.slice zc4 z6f.length zc5) 3 1 (z6f.flatMap e3)]) (fun (zdv : Nat) (z6f : List Int) (z6J : Int) (z2P : Int) (zc4 : Option Addr) (zc5 : Nat)=>zdv) ⟨yu,([] : List Int),0,0,none,0⟩ h (.cons rfl (.cons rfl (.cons rfl (.cons rfl (.cons rfl (.cons rfl (.cons rfl .nil))))))) (.cons .here .nil) ?_
       rintro zdv z6f z6J z2P zc4 zc5 h
       obtain ⟨zjl,rfl⟩:=y63 h
       rw [y22] at h
       refine WC.b ?_
       refine WC.a ?_
       refine WL.a (d:=34) rfl rfl rfl (y1c rfl rfl) ?_
       refine WL.nil ?_
       refine WX.a ?_
       refine WC.b ?_
       refine WC.cond rfl (fun zjn=>?_) (fun zjn=>?_)
       ·replace h:=yh h zjn
        refine WC.skip ?_
        refine WX.a ?_
        refine WC.b ?_
        refine WC.block ?_
        refine WC.b ?_
        obtain ⟨zsh,h⟩:=yl h
        refine WC.a ?_
        refine WL.znth (dd:=35) rfl rfl (Z:=Z) (Pr:=(fun r x=>r = e51 x)) y2l rfl rfl zof zsh ?_
        rintro zAt zAu zsi zAv rfl
        refine WL.a (d:=36) rfl rfl rfl (y4 (cs:=[(.int .i64 ((nth z2e z2P).fTime)),(.int .i64 ((nth z2e z2P).fVL)),(.int .i64 ((nth z2e z2P).fSize))]) y5Q rfl rfl (y2P hz.pv zsi)) ?_
        refine WL.new (dd:=11) rfl rfl rfl (ym (cs:=[(.int .i64 0),(.int .i64 0),(.int .i64 0)]) y6V rfl) ?_
        intro zAw _
        refine WL.yb rfl rfl (yc (vs:=[(.int .i64 ((nth z2e z2P).fTime)),(.int .i64 ((nth z2e z2P).fVL)),(.int .i64 ((nth z2e z2P).fSize))]) (ds:=[(.int .i64 ((nth z2e z2P).fTime)),(.int .i64 ((nth z2e z2P).fVL)),(.int .i64 ((nth z2e z2P).fSize))]) y7z rfl rfl rfl rfl (y2 rfl (y2 rfl (y2 rfl yk))) .here (Nat.le_of_ble_eq_true rfl) rfl) ?_
        refine WL.nil ?_
        refine WX.a ?_
        refine WC.b ?_
        refine WC.a ?_
        refine WL.a (d:=37) rfl rfl rfl (q_m rfl) ?_
        refine WL.a (d:=38) rfl rfl rfl (y3 y3y rfl rfl) ?_
        refine WL.a (d:=39) rfl rfl rfl (ya yw rfl (yv .here rfl)) ?_
        refine WL.a (d:=40) rfl rfl rfl (q_m rfl) ?_
        refine WL.a (d:=41) rfl rfl rfl (yW rfl rfl rfl) ?_
        refine WL.a (d:=42) rfl rfl rfl (q_max rfl rfl rfl) ?_
        refine WL.a (d:=43) rfl rfl rfl (y3 y6G rfl rfl) ?_
        refine WL.a (d:=44) rfl rfl rfl (ya yw rfl (yv .here rfl)) ?_
        refine WL.a (d:=45) rfl rfl rfl (q_m rfl) ?_
        refine WL.a (d:=46) rfl rfl rfl (y3t rfl rfl rfl) ?_
        refine WL.a (d:=47) rfl rfl rfl (yW rfl rfl rfl) ?_
        refine WL.a (d:=9) rfl rfl rfl (q_z rfl) ?_
        refine WL.nil ?_
        refine WX.a ?_
        obtain ⟨zsj,h⟩:=yl h
        refine WC.a ?_
        refine WL.a (d:=48) rfl rfl rfl (q_m rfl) ?_
        refine WL.a (d:=49) rfl rfl rfl (q_m rfl) ?_
        refine WL.new (dd:=50) rfl rfl rfl (yB (cs:=([i64 ((max z6J (i64 (((nth z2e z2P).fTime) + z3r))) + (i64 (((nth z2e z2P).fSize) * z2N)))] : List Int).flatMap e3) y62 (Eos.parts (l:=[.tmp 49]) (.cons rfl .nil) [0]) (fun _=>by kernel_rfl) rfl (by unfold maxLen; omega)) ?_
        intro zAx _
        refine WL.eff (d:=51) rfl rfl rfl (y4c (enc:=e3) (l1:=z6f) (l2:=([i64 ((max z6J (i64 (((nth z2e z2P).fTime) + z3r))) + (i64 (((nth z2e z2P).fSize) * z2N)))] : List Int)) y62 rfl rfl .h2 (fun _=>rfl) rfl rfl (y4a .here) (y4L e3_oc _) zsj) ?_
        rintro ⟨zsk,zsl⟩ _
        refine WL.a (d:=8) rfl rfl rfl (q_z rfl) ?_
        refine WL.nil ?_
        refine WX.yg ?_
        refine WX.a ?_
        refine WC.a ?_
        refine WL.a (d:=52) rfl rfl rfl (yW rfl rfl rfl) ?_
        refine WL.a (d:=33) rfl rfl rfl (q_m rfl) ?_
        refine WL.nil ?_
        exact WX.round (G:=Nat × List Int × Int × Int × Option Addr × Nat) ⟨zjl,(z6f ++ ([i64 ((max z6J (i64 (((nth z2e z2P).fTime) + z3r))) + (i64 (((nth z2e z2P).fSize) * z2N)))] : List Int)),(i64 ((max z6J (i64 (((nth z2e z2P).fTime) + z3r))) + (i64 (((nth z2e z2P).fSize) * z2N)))),(i64 (z2P + 1)),zsk,zsl⟩ h (Nat.lt_succ_self _) (.cons rfl (.cons rfl (.cons rfl (.cons rfl (.cons rfl (.cons rfl (.cons rfl .nil))))))) (.cons .here .nil)
       ·replace h:=yi h zjn
        refine WC.exit ?_
        refine WX.ye ?_
        refine WX.ye ?_
        refine WX.yx ?_
        exact WX.mid (G:=List Int × Option Addr × Nat) ⟨z6f,zc4,zc5⟩ h (.cons rfl .nil) (.cons .here .nil)
      ·rintro z9i zdt zdu h
       replace h:=(zsg z9i).symm.trans h
       refine WC.b ?_
       refine WC.a ?_
       refine WL.a (d:=53) rfl rfl rfl (q_m rfl) ?_
       refine WL.a (d:=6) rfl rfl rfl (q_z rfl) ?_
       refine WL.a (d:=7) rfl rfl rfl (q_z rfl) ?_
       refine WL.nil ?_
       refine WX.a ?_
       refine WC.ret ?_
       obtain rfl:=Option.some.inj h
       refine WX.y7 Try.results14 (.tmp rfl (.tmp rfl .nil)) (fun w hw=>?_)
       exact ⟨zdt,zdu,y1M rfl rfl,trivial,hw.sub (.cons .here .nil)⟩
def yG (z3E : Int) (z3F : Int) : Option z7 :=
 some (⟨z3E,z3F⟩ : z7)
set_option maxRecDepth 20000 in
theorem y15 (Z : Zp)   (z3E : Int) (z3F : Int) (r : z7) (w₀ : World) (hz : PZ [] w₀ Z)
  (h : yG z3E z3F = some r) :
  Calls Try.prog 11 #[(.int .i64 z3E),(.int .i64 z3F)] w₀ fun e w'=>e = .returned (.agg #[(.int .i64 r.fN),(.int .i64 r.fD)]) ∧ Hp [] w₀ w' []:=by
 unfold yG at h
 refine Calls.yd (vs:=[(.int .i64 z3E),(.int .i64 z3F)]) (pre:=[]) (env:=[(0,(.int .i64 z3E)),(1,(.int .i64 z3F))]) Try.func11 rfl Try.ntmps11 rfl (Hp.nil w₀ _) rfl ?_
 refine WC.b ?_
 refine WC.a ?_
 refine WL.new (dd:=4) rfl rfl rfl (ym (cs:=[(.int .i64 0),(.int .i64 0)]) yt rfl) ?_
 intro zAy _
 refine WL.nil ?_
 refine WX.a ?_
 refine WC.b ?_
 refine WC.a ?_
 refine WL.a (d:=5) rfl rfl rfl (q_m rfl) ?_
 refine WL.a (d:=6) rfl rfl rfl (q_m rfl) ?_
 refine WL.a (d:=7) rfl rfl rfl (y1g (v:=(.agg #[(.int .i64 z3E),(.int .i64 z3F)])) (Eos.parts (l:=[.tmp 5,.tmp 6]) (.cons rfl (.cons rfl .nil)) [0,1]) (fun _=>by kernel_rfl)) ?_
 refine WL.yb rfl rfl (yc (vs:=[(.int .i64 z3E),(.int .i64 z3F)]) (ds:=[(.int .i64 z3E),(.int .i64 z3F)]) yo rfl rfl rfl rfl (y2 rfl (y2 rfl yk)) .here (Nat.le_of_ble_eq_true rfl) rfl) ?_
 refine WL.nil ?_
 refine WX.a ?_
 refine WC.ret ?_
 obtain rfl:=Option.some.inj h
 refine WX.y7 Try.results11 (.agg rfl y5 rfl (y8 .here) .nil) (fun w hw=>?_)
 exact ⟨yD rfl,hw.sub .nil⟩
def y2b (z4w : z7) (z4x : z7) : Option z6 :=
 some (⟨z4w,z4x⟩ : z6)
set_option maxRecDepth 20000 in
theorem y37 (Z : Zp)   (z4w : z7) (z4x : z7) (r : z6) (w₀ : World) (hz : PZ [] w₀ Z)
  (h : y2b z4w z4x = some r) :
  Calls Try.prog 10 #[(.agg #[(.int .i64 z4w.fN),(.int .i64 z4w.fD)]),(.agg #[(.int .i64 z4x.fN),(.int .i64 z4x.fD)])] w₀ fun e w'=>e = .returned (.agg #[(.int .i64 r.fB.fN),(.int .i64 r.fB.fD),(.int .i64 r.fR.fN),(.int .i64 r.fR.fD)]) ∧ Hp [] w₀ w' []:=by
 unfold y2b at h
 refine Calls.yd (vs:=[(.agg #[(.int .i64 z4w.fN),(.int .i64 z4w.fD)]),(.agg #[(.int .i64 z4x.fN),(.int .i64 z4x.fD)])]) (pre:=[]) (env:=[(0,(.agg #[(.int .i64 z4w.fN),(.int .i64 z4w.fD)])),(1,(.agg #[(.int .i64 z4x.fN),(.int .i64 z4x.fD)]))]) Try.func10 rfl Try.ntmps10 rfl (Hp.nil w₀ _) rfl ?_
 refine WC.b ?_
 refine WC.a ?_
 refine WL.new (dd:=2) rfl rfl rfl (yI (cs:=[(.int .i64 z4w.fN),(.int .i64 z4w.fD)]) rfl rfl) ?_
 intro zAz _
 refine WL.new (dd:=3) rfl rfl rfl (yI (cs:=[(.int .i64 z4x.fN),(.int .i64 z4x.fD)]) rfl rfl) ?_
 intro zAA _
 refine WL.new (dd:=4) rfl rfl rfl (ym (cs:=[(.int .i64 0),(.int .i64 0),(.int .i64 0),(.int .i64 0)]) y3J rfl) ?_
 intro zAB _
 refine WL.nil ?_
 refine WX.a ?_
 refine WC.b ?_
 refine WC.a ?_
 refine WL.a (d:=5) rfl rfl rfl (y4 (cs:=[(.int .i64 z4w.fN),(.int .i64 z4w.fD)]) y5 rfl rfl (y8 .h2)) ?_
 refine WL.a (d:=6) rfl rfl rfl (y4 (cs:=[(.int .i64 z4x.fN),(.int .i64 z4x.fD)]) y5 rfl rfl (y8 .h1)) ?_
 refine WL.a (d:=7) rfl rfl rfl (y1g (v:=(.agg #[(.int .i64 z4w.fN),(.int .i64 z4w.fD),(.int .i64 z4x.fN),(.int .i64 z4x.fD)])) (Eos.parts (l:=[.tmp 5,.tmp 6]) (.cons rfl (.cons rfl .nil)) [0,1]) (fun _=>by kernel_rfl)) ?_
 refine WL.yb rfl rfl (yc (vs:=[(.int .i64 z4w.fN),(.int .i64 z4w.fD),(.int .i64 z4x.fN),(.int .i64 z4x.fD)]) (ds:=[(.int .i64 z4w.fN),(.int .i64 z4w.fD),(.int .i64 z4x.fN),(.int .i64 z4x.fD)]) y3X rfl rfl rfl rfl (y2 rfl (y2 rfl (y2 rfl (y2 rfl yk)))) .here (Nat.le_of_ble_eq_true rfl) rfl) ?_
 refine WL.nil ?_
 refine WX.a ?_
 refine WC.ret ?_
 obtain rfl:=Option.some.inj h
 refine WX.y7 Try.results10 (.agg rfl y1D rfl (y8 .here) .nil) (fun w hw=>?_)
 exact ⟨yD rfl,hw.sub .nil⟩
def y3k (z8m : Int) : Option Int :=
 if decide (z8m < 0) then some (u64 ((u64 (i64 (0 - (i64 (z8m + 1))))) + 1)) else some (u64 z8m)
set_option maxRecDepth 20000 in
theorem y5E (Z : Zp)   (z8m : Int) (r : Int) (w₀ : World) (hz : PZ [] w₀ Z)
  (h : y3k z8m = some r) :
  Calls Try.prog 28 #[(.int .i64 z8m)] w₀ fun e w'=>e = .returned (.int .u64 r) ∧ Hp [] w₀ w' []:=by
 unfold y3k at h
 refine Calls.yd (vs:=[(.int .i64 z8m)]) (pre:=[]) (env:=[(0,(.int .i64 z8m))]) Try.func28 rfl Try.ntmps28 rfl (Hp.nil w₀ _) rfl ?_
 refine WC.b ?_
 refine WC.a ?_
 refine WL.a (d:=2) rfl rfl rfl (q_z rfl) ?_
 refine WL.nil ?_
 refine WX.a ?_
 refine WC.b ?_
 refine WC.b ?_
 refine WC.a ?_
 refine WL.a (d:=3) rfl rfl rfl (q_m rfl) ?_
 refine WL.a (d:=4) rfl rfl rfl (y1c rfl rfl) ?_
 refine WL.nil ?_
 refine WX.a ?_
 refine WC.cond rfl (fun zjo=>?_) (fun zjo=>?_)
 ·replace h:=yh h zjo
  refine WC.b ?_
  refine WC.a ?_
  refine WL.a (d:=5) rfl rfl rfl (q_m rfl) ?_
  refine WL.a (d:=6) rfl rfl rfl (yW rfl rfl rfl) ?_
  refine WL.a (d:=7) rfl rfl rfl (q_neg rfl rfl) ?_
  refine WL.a (d:=8) rfl rfl rfl (y3v Try.underlying3 Try.underlying71 rfl rfl) ?_
  refine WL.a (d:=9) rfl rfl rfl (yW rfl rfl rfl) ?_
  refine WL.a (d:=2) rfl rfl rfl (q_z rfl) ?_
  refine WL.nil ?_
  refine WX.a ?_
  refine WC.ret ?_
  refine WX.y6 ?_
  obtain rfl:=Option.some.inj h
  refine WX.y7 Try.results28 (.tmp rfl .nil) (fun w hw=>?_)
  exact ⟨yD rfl,hw.sub .nil⟩
 ·replace h:=yi h zjo
  refine WC.skip ?_
  refine WX.a ?_
  refine WC.b ?_
  refine WC.a ?_
  refine WL.a (d:=10) rfl rfl rfl (q_m rfl) ?_
  refine WL.a (d:=11) rfl rfl rfl (y3v Try.underlying3 Try.underlying71 rfl rfl) ?_
  refine WL.a (d:=2) rfl rfl rfl (q_z rfl) ?_
  refine WL.nil ?_
  refine WX.a ?_
  refine WC.ret ?_
  obtain rfl:=Option.some.inj h
  refine WX.y7 Try.results28 (.tmp rfl .nil) (fun w hw=>?_)
  exact ⟨yD rfl,hw.sub .nil⟩
def y1x (z9X : Int → Option Int) : Nat → Int → Int → Option Int
 | 0,_,_=>none
 | zjp + 1,z81,z7k=>if decide (z7k ≠ 0) then chk ((z7k : Int) ≠ 0) (y1x z9X zjp z7k (Int.tmod z81 z7k)) else z9X z81
theorem y65 {n : Nat} {z9X : Int → Option Int} {z81 : Int} {z7k : Int} {r : Int} (h : y1x z9X n z81 z7k = some r) : ∃ m,n = m + 1:=by
 cases n with
 | zero=>cases h
 | succ m=>exact ⟨m,rfl⟩
def y2M (z9Y : Int) (z9Z : Int) : Option Int :=
 jp1 (fun (zbh : Int)=>some zbh) fun z9X=>y1x z9X yu z9Y z9Z
set_option maxRecDepth 20000 in
theorem y66 (Z : Zp)   (z9Y : Int) (z9Z : Int) (r : Int) (w₀ : World) (hz : PZ [] w₀ Z)
  (h : y2M z9Y z9Z = some r) :
  Calls Try.prog 29 #[(.int .u64 z9Y),(.int .u64 z9Z)] w₀ fun e w'=>e = .returned (.int .u64 r) ∧ Hp [] w₀ w' []:=by
 unfold y2M at h
 refine Calls.yd (vs:=[(.int .u64 z9Y),(.int .u64 z9Z)]) (pre:=[]) (env:=[(0,(.int .u64 z9Y)),(1,(.int .u64 z9Z))]) Try.func29 rfl Try.ntmps29 rfl (Hp.nil w₀ _) rfl ?_
 refine WC.b ?_
 refine WC.a ?_
 refine WL.a (d:=4) rfl rfl rfl (q_z rfl) ?_
 refine WL.nil ?_
 refine WX.a ?_
 obtain ⟨z9X,zsm,h⟩:=y1h h
 refine WC.y34 (fun (zbh : Int)=>(z9X zbh = some r)) (fun (zbh : Int)=>[(0,(.int .u64 zbh))]) (fun (zbh : Int)=>[]) ?_ ?_
 ·skip
  refine WC.block ?_
  refine WC.y7O (fun (zdw : Nat) (z81 : Int) (z7k : Int)=>(y1x z9X zdw z81 z7k = some r)) (fun (zdw : Nat) (z81 : Int) (z7k : Int)=>[(0,(.int .u64 z81)),(1,(.int .u64 z7k))]) (fun (zdw : Nat) (z81 : Int) (z7k : Int)=>[]) (fun (zdw : Nat) (z81 : Int) (z7k : Int)=>zdw) ⟨yu,z9Y,z9Z⟩ h (.cons rfl (.cons rfl .nil)) .nil ?_
  rintro zdw z81 z7k h
  obtain ⟨zjp,rfl⟩:=y65 h
  rw [y1x] at h
  refine WC.b ?_
  refine WC.b ?_
  refine WC.a ?_
  refine WL.a (d:=5) rfl rfl rfl (q_m rfl) ?_
  refine WL.a (d:=6) rfl rfl rfl (y2G rfl rfl) ?_
  refine WL.nil ?_
  refine WX.a ?_
  refine WC.cond rfl (fun zjq=>?_) (fun zjq=>?_)
  ·replace h:=yh h zjq
   refine WC.skip ?_
   refine WX.a ?_
   refine WC.block ?_
   obtain ⟨zsn,h⟩:=yl h
   refine WC.yY (fun i=>[].contains i) [] rfl ?_
   refine WD.a (i:=0) (d:=7) (by kernel_rfl) rfl (z8 (by kernel_rfl)) (za (by kernel_rfl)) rfl rfl rfl (fun _=>q_m rfl) ?_
   refine WD.a (i:=1) (d:=8) (by kernel_rfl) rfl (z8 (by kernel_rfl)) (za (by kernel_rfl)) rfl rfl rfl (fun _=>q_m rfl) ?_
   refine WD.a (i:=2) (d:=9) (by kernel_rfl) rfl (z8 (by kernel_rfl)) (za (by kernel_rfl)) rfl rfl rfl (fun _=>q_m rfl) ?_
   refine WD.a (i:=3) (d:=10) (by kernel_rfl) rfl (z8 (by kernel_rfl)) (za (by kernel_rfl)) rfl rfl rfl (fun _=>y7t rfl rfl zsn rfl) ?_
   refine WD.a (i:=4) (d:=0) (by kernel_rfl) rfl (z8 (by kernel_rfl)) (za (by kernel_rfl)) rfl rfl rfl (fun _=>q_z rfl) ?_
   refine WD.a (i:=5) (d:=1) (by kernel_rfl) rfl (z8 (by kernel_rfl)) (za (by kernel_rfl)) rfl rfl rfl (fun _=>q_z rfl) ?_
   refine WD.done (by kernel_rfl) ?_
   refine WX.yg ?_
   exact WX.round (G:=Nat × Int × Int) ⟨zjp,z7k,(Int.tmod z81 z7k)⟩ h (Nat.lt_succ_self _) (.cons rfl (.cons rfl .nil)) .nil
  ·replace h:=yi h zjq
   refine WC.exit ?_
   refine WX.ye ?_
   refine WX.ye ?_
   refine WX.yx ?_
   exact WX.mid (G:=Int) z81 h (.cons rfl .nil) .nil
 ·rintro zbh h
  replace h:=(zsm zbh).symm.trans h
  refine WC.b ?_
  refine WC.a ?_
  refine WL.a (d:=11) rfl rfl rfl (q_m rfl) ?_
  refine WL.a (d:=4) rfl rfl rfl (q_z rfl) ?_
  refine WL.nil ?_
  refine WX.a ?_
  refine WC.ret ?_
  obtain rfl:=Option.some.inj h
  refine WX.y7 Try.results29 (.tmp rfl .nil) (fun w hw=>?_)
  exact ⟨yD rfl,hw.sub .nil⟩
def y1f (z1b : z7) : Option Bool :=
 (if (((decide (z1b.fD ≥ 1)) && (decide (z1b.fD ≤ 1073741824))) && (decide (z1b.fN ≥ (-1073741824)))) && (decide (z1b.fN ≤ 1073741824)) then (y3k z1b.fN).bind fun zh3=>(y3k z1b.fD).bind fun zh4=>(y2M zh3 zh4).bind fun zjr=>some (decide (zjr = 1)) else some false).bind fun zjs=>some zjs
set_option maxRecDepth 20000 in
theorem y1G (Z : Zp)   (z1b : z7) (r : Bool) (w₀ : World) (hz : PZ [] w₀ Z)
  (h : y1f z1b = some r) :
  Calls Try.prog 39 #[(.agg #[(.int .i64 z1b.fN),(.int .i64 z1b.fD)])] w₀ fun e w'=>e = .returned (.bool r) ∧ Hp [] w₀ w' []:=by
 unfold y1f at h
 refine Calls.yd (vs:=[(.agg #[(.int .i64 z1b.fN),(.int .i64 z1b.fD)])]) (pre:=[]) (env:=[(0,(.agg #[(.int .i64 z1b.fN),(.int .i64 z1b.fD)]))]) Try.func39 rfl Try.ntmps39 rfl (Hp.nil w₀ _) rfl ?_
 refine WC.b ?_
 refine WC.a ?_
 refine WL.new (dd:=1) rfl rfl rfl (yI (cs:=[(.int .i64 z1b.fN),(.int .i64 z1b.fD)]) rfl rfl) ?_
 intro za0 _
 refine WL.a (d:=2) rfl rfl rfl (q_z rfl) ?_
 refine WL.nil ?_
 refine WX.a ?_
 refine WC.b ?_
 obtain ⟨zjs,zor,h⟩:=ze h
 refine WC.yY (fun i=>[].contains i) [] rfl ?_
 refine WD.a (i:=0) (d:=3) (by kernel_rfl) rfl (z8 (by kernel_rfl)) (za (by kernel_rfl)) rfl rfl rfl (fun _=>y3 y24 rfl rfl) ?_
 refine WD.e (i:=1) (d:=4) (by kernel_rfl) rfl (z8 (by kernel_rfl)) (za (by kernel_rfl)) rfl rfl rfl (ya yw rfl (yv .here rfl)) ?_
 refine WD.a (i:=2) (d:=5) (by kernel_rfl) rfl (z8 (by kernel_rfl)) (za (by kernel_rfl)) rfl rfl rfl (fun _=>y6l rfl rfl) ?_
 refine WD.a (i:=3) (d:=6) (by kernel_rfl) rfl (z8 (by kernel_rfl)) (za (by kernel_rfl)) rfl rfl rfl (fun _=>q_m rfl) ?_
 refine WD.mid (fuel':=21) [(1,(.pointer (some ⟨za0,0,none⟩))),(2,(.bool false)),(6,(.bool (decide (z1b.fD ≥ 1)))),(10,(.bool ((decide (z1b.fD ≥ 1)) && (decide (z1b.fD ≤ 1073741824)))))] (y1n 29 [7,6,5,4,3,2,1,0]) ?_ (fun zos=>?_)
 rotate_left
 ·rcases Bool.eq_false_or_eq_true (decide (z1b.fD ≥ 1)) with hb' | hb'
  ·have zjt:=hb'; clear hb'
   refine WD.pin (i:=6) rfl zjt ?_
   refine WD.a (i:=4) (d:=7) (by kernel_rfl) rfl (z8 (by kernel_rfl)) (za (by kernel_rfl)) rfl rfl rfl (fun _=>y3 y24 rfl rfl) ?_
   refine WD.e (i:=5) (d:=8) (by kernel_rfl) rfl (z8 (by kernel_rfl)) (za (by kernel_rfl)) rfl rfl rfl (ya yw rfl (yv .here rfl)) ?_
   refine WD.a (i:=6) (d:=9) (by kernel_rfl) rfl (z8 (by kernel_rfl)) (za (by kernel_rfl)) rfl rfl rfl (fun _=>y5A rfl rfl) ?_
   refine WD.a (i:=7) (d:=10) (by kernel_rfl) rfl (z8 (by kernel_rfl)) (za (by kernel_rfl)) rfl rfl rfl (fun _=>ys rfl rfl) ?_
   refine WD.yC (.cons .here .nil) ?_ zos
   exact (.cons rfl (.cons rfl (.cons (zr (Eq.symm zjt)) (.cons (zr (y4E zjt)) .nil))))
  ·have zju:=hb'; clear hb'
   refine WD.pin (i:=6) rfl zju ?_
   refine WD.b (i:=4) (d:=7) (by kernel_rfl) rfl (z8 (by kernel_rfl)) (za (by kernel_rfl)) rfl rfl rfl ?_
   refine WD.b (i:=5) (d:=8) (by kernel_rfl) rfl (z8 (by kernel_rfl)) (za (by kernel_rfl)) rfl rfl rfl ?_
   refine WD.b (i:=6) (d:=9) (by kernel_rfl) rfl (z8 (by kernel_rfl)) (za (by kernel_rfl)) rfl rfl rfl ?_
   refine WD.a (i:=7) (d:=10) (by kernel_rfl) rfl (z8 (by kernel_rfl)) (za (by kernel_rfl)) rfl rfl rfl (fun _=>yr rfl rfl) ?_
   refine WD.yC (.cons .here .nil) ?_ zos
   exact (.cons rfl (.cons rfl (.cons (zr (Eq.symm zju)) (.cons (zr (y4D zju)) .nil))))
 refine WD.d #[true,true,true,true,true,true,true,true,false,false,false,false,false,false,false,false,false,false,false,false,false,false,false,false,false,false,false,false,false] (by kernel_rfl) ?_
 refine WD.a (i:=8) (d:=11) (by kernel_rfl) rfl (z8 (by kernel_rfl)) (za (by kernel_rfl)) rfl rfl rfl (fun _=>q_m rfl) ?_
 refine WD.mid (fuel':=16) [(1,(.pointer (some ⟨za0,0,none⟩))),(2,(.bool false)),(11,(.bool ((decide (z1b.fD ≥ 1)) && (decide (z1b.fD ≤ 1073741824))))),(15,(.bool (((decide (z1b.fD ≥ 1)) && (decide (z1b.fD ≤ 1073741824))) && (decide (z1b.fN ≥ (-1073741824))))))] (y1n 29 [12,11,10,9,8,7,6,5,4,3,2,1,0]) ?_ (fun zot=>?_)
 rotate_left
 ·rcases Bool.eq_false_or_eq_true ((decide (z1b.fD ≥ 1)) && (decide (z1b.fD ≤ 1073741824))) with hb' | hb'
  ·have zjv:=hb'; clear hb'
   refine WD.pin (i:=11) rfl zjv ?_
   refine WD.a (i:=9) (d:=12) (by kernel_rfl) rfl (z8 (by kernel_rfl)) (za (by kernel_rfl)) rfl rfl rfl (fun _=>y3 y1Q rfl rfl) ?_
   refine WD.e (i:=10) (d:=13) (by kernel_rfl) rfl (z8 (by kernel_rfl)) (za (by kernel_rfl)) rfl rfl rfl (ya yw rfl (yv .here rfl)) ?_
   refine WD.a (i:=11) (d:=14) (by kernel_rfl) rfl (z8 (by kernel_rfl)) (za (by kernel_rfl)) rfl rfl rfl (fun _=>y6l rfl rfl) ?_
   refine WD.a (i:=12) (d:=15) (by kernel_rfl) rfl (z8 (by kernel_rfl)) (za (by kernel_rfl)) rfl rfl rfl (fun _=>ys rfl rfl) ?_
   refine WD.yC (.cons .here .nil) ?_ zot
   exact (.cons rfl (.cons rfl (.cons (zr (Eq.symm zjv)) (.cons (zr (y4E zjv)) .nil))))
  ·have zjw:=hb'; clear hb'
   refine WD.pin (i:=11) rfl zjw ?_
   refine WD.b (i:=9) (d:=12) (by kernel_rfl) rfl (z8 (by kernel_rfl)) (za (by kernel_rfl)) rfl rfl rfl ?_
   refine WD.b (i:=10) (d:=13) (by kernel_rfl) rfl (z8 (by kernel_rfl)) (za (by kernel_rfl)) rfl rfl rfl ?_
   refine WD.b (i:=11) (d:=14) (by kernel_rfl) rfl (z8 (by kernel_rfl)) (za (by kernel_rfl)) rfl rfl rfl ?_
   refine WD.a (i:=12) (d:=15) (by kernel_rfl) rfl (z8 (by kernel_rfl)) (za (by kernel_rfl)) rfl rfl rfl (fun _=>yr rfl rfl) ?_
   refine WD.yC (.cons .here .nil) ?_ zot
   exact (.cons rfl (.cons rfl (.cons (zr (Eq.symm zjw)) (.cons (zr (y4D zjw)) .nil))))
 refine WD.d #[true,true,true,true,true,true,true,true,true,true,true,true,true,false,false,false,false,false,false,false,false,false,false,false,false,false,false,false,false] (by kernel_rfl) ?_
 refine WD.a (i:=13) (d:=16) (by kernel_rfl) rfl (z8 (by kernel_rfl)) (za (by kernel_rfl)) rfl rfl rfl (fun _=>q_m rfl) ?_
 refine WD.mid (fuel':=11) [(1,(.pointer (some ⟨za0,0,none⟩))),(2,(.bool false)),(16,(.bool (((decide (z1b.fD ≥ 1)) && (decide (z1b.fD ≤ 1073741824))) && (decide (z1b.fN ≥ (-1073741824)))))),(20,(.bool ((((decide (z1b.fD ≥ 1)) && (decide (z1b.fD ≤ 1073741824))) && (decide (z1b.fN ≥ (-1073741824)))) && (decide (z1b.fN ≤ 1073741824)))))] (y1n 29 [17,16,15,14,13,12,11,10,9,8,7,6,5,4,3,2,1,0]) ?_ (fun zou=>?_)
 rotate_left
 ·rcases Bool.eq_false_or_eq_true (((decide (z1b.fD ≥ 1)) && (decide (z1b.fD ≤ 1073741824))) && (decide (z1b.fN ≥ (-1073741824)))) with hb' | hb'
  ·have zjx:=hb'; clear hb'
   refine WD.pin (i:=16) rfl zjx ?_
   refine WD.a (i:=14) (d:=17) (by kernel_rfl) rfl (z8 (by kernel_rfl)) (za (by kernel_rfl)) rfl rfl rfl (fun _=>y3 y1Q rfl rfl) ?_
   refine WD.e (i:=15) (d:=18) (by kernel_rfl) rfl (z8 (by kernel_rfl)) (za (by kernel_rfl)) rfl rfl rfl (ya yw rfl (yv .here rfl)) ?_
   refine WD.a (i:=16) (d:=19) (by kernel_rfl) rfl (z8 (by kernel_rfl)) (za (by kernel_rfl)) rfl rfl rfl (fun _=>y5A rfl rfl) ?_
   refine WD.a (i:=17) (d:=20) (by kernel_rfl) rfl (z8 (by kernel_rfl)) (za (by kernel_rfl)) rfl rfl rfl (fun _=>ys rfl rfl) ?_
   refine WD.yC (.cons .here .nil) ?_ zou
   exact (.cons rfl (.cons rfl (.cons (zr (Eq.symm zjx)) (.cons (zr (y4E zjx)) .nil))))
  ·have zjy:=hb'; clear hb'
   refine WD.pin (i:=16) rfl zjy ?_
   refine WD.b (i:=14) (d:=17) (by kernel_rfl) rfl (z8 (by kernel_rfl)) (za (by kernel_rfl)) rfl rfl rfl ?_
   refine WD.b (i:=15) (d:=18) (by kernel_rfl) rfl (z8 (by kernel_rfl)) (za (by kernel_rfl)) rfl rfl rfl ?_
   refine WD.b (i:=16) (d:=19) (by kernel_rfl) rfl (z8 (by kernel_rfl)) (za (by kernel_rfl)) rfl rfl rfl ?_
   refine WD.a (i:=17) (d:=20) (by kernel_rfl) rfl (z8 (by kernel_rfl)) (za (by kernel_rfl)) rfl rfl rfl (fun _=>yr rfl rfl) ?_
   refine WD.yC (.cons .here .nil) ?_ zou
   exact (.cons rfl (.cons rfl (.cons (zr (Eq.symm zjy)) (.cons (zr (y4D zjy)) .nil))))
 refine WD.d #[true,true,true,true,true,true,true,true,true,true,true,true,true,true,true,true,true,true,false,false,false,false,false,false,false,false,false,false,false] (by kernel_rfl) ?_
 refine WD.a (i:=18) (d:=21) (by kernel_rfl) rfl (z8 (by kernel_rfl)) (za (by kernel_rfl)) rfl rfl rfl (fun _=>q_m rfl) ?_
 refine WD.mid (fuel':=1) [(2,(.bool false)),(21,(.bool ((((decide (z1b.fD ≥ 1)) && (decide (z1b.fD ≤ 1073741824))) && (decide (z1b.fN ≥ (-1073741824)))) && (decide (z1b.fN ≤ 1073741824))))),(30,(.bool zjs))] (y1n 29 [27,26,25,24,23,22,21,20,19,18,17,16,15,14,13,12,11,10,9,8,7,6,5,4,3,2,1,0]) ?_ (fun zov=>?_)
 rotate_left
 ·rcases Bool.eq_false_or_eq_true ((((decide (z1b.fD ≥ 1)) && (decide (z1b.fD ≤ 1073741824))) && (decide (z1b.fN ≥ (-1073741824)))) && (decide (z1b.fN ≤ 1073741824))) with hb' | hb'
  ·have zjz:=hb'; clear hb'
   have za1:=yh zor zjz
   obtain ⟨zh3,zso,za1⟩:=ze za1
   obtain ⟨zh4,zsp,za1⟩:=ze za1
   obtain ⟨zjr,zsq,za1⟩:=ze za1
   replace za1:=Option.some.inj za1
   refine WD.pin (i:=21) rfl zjz ?_
   refine WD.a (i:=19) (d:=22) (by kernel_rfl) rfl (z8 (by kernel_rfl)) (za (by kernel_rfl)) rfl rfl rfl (fun _=>y3 y1Q rfl rfl) ?_
   refine WD.e (i:=20) (d:=23) (by kernel_rfl) rfl (z8 (by kernel_rfl)) (za (by kernel_rfl)) rfl rfl rfl (ya yw rfl (yv .here rfl)) ?_
   refine WD.c (i:=21) (d:=24) (by kernel_rfl) rfl (z8 (by kernel_rfl)) (za (by kernel_rfl)) rfl rfl rfl (zj (l:=[.tmp 23]) Try.call28 (.cons rfl .nil)) (fun w hw=>by have pz:=(hz.call hw (.nil : Sel [stb za0 30 [(.int .i64 z1b.fN),(.int .i64 z1b.fD)]] [] [stb za0 30 [(.int .i64 z1b.fN),(.int .i64 z1b.fD)]])); exact y5E (Z:=_)  (z8m:=z1b.fN) (r:=zh3) w pz  zso) ?_
   refine WD.a (i:=22) (d:=25) (by kernel_rfl) rfl (z8 (by kernel_rfl)) (za (by kernel_rfl)) rfl rfl rfl (fun _=>y3 y24 rfl rfl) ?_
   refine WD.e (i:=23) (d:=26) (by kernel_rfl) rfl (z8 (by kernel_rfl)) (za (by kernel_rfl)) rfl rfl rfl (ya yw rfl (yv .here rfl)) ?_
   refine WD.c (i:=24) (d:=27) (by kernel_rfl) rfl (z8 (by kernel_rfl)) (za (by kernel_rfl)) rfl rfl rfl (zj (l:=[.tmp 26]) Try.call28 (.cons rfl .nil)) (fun w hw=>by have pz:=(hz.call hw (.nil : Sel [stb za0 30 [(.int .i64 z1b.fN),(.int .i64 z1b.fD)]] [] [stb za0 30 [(.int .i64 z1b.fN),(.int .i64 z1b.fD)]])); exact y5E (Z:=_)  (z8m:=z1b.fD) (r:=zh4) w pz  zsp) ?_
   refine WD.c (i:=25) (d:=28) (by kernel_rfl) rfl (z8 (by kernel_rfl)) (za (by kernel_rfl)) rfl rfl rfl (zj (l:=[.tmp 24,.tmp 27]) Try.call29 (.cons rfl (.cons rfl .nil))) (fun w hw=>by have pz:=(hz.call hw (.nil : Sel [stb za0 30 [(.int .i64 z1b.fN),(.int .i64 z1b.fD)]] [] [stb za0 30 [(.int .i64 z1b.fN),(.int .i64 z1b.fD)]])); exact y66 (Z:=_)  (z9Y:=zh3) (z9Z:=zh4) (r:=zjr) w pz  zsq) ?_
   refine WD.a (i:=26) (d:=29) (by kernel_rfl) rfl (z8 (by kernel_rfl)) (za (by kernel_rfl)) rfl rfl rfl (fun _=>y4C rfl rfl) ?_
   refine WD.a (i:=27) (d:=30) (by kernel_rfl) rfl (z8 (by kernel_rfl)) (za (by kernel_rfl)) rfl rfl rfl (fun _=>ys rfl rfl) ?_
   refine WD.yC (.cons .here .nil) ?_ zov
   exact (.cons rfl (.cons (zr (Eq.symm zjz)) (.cons (zr za1) .nil)))
  ·have zjA:=hb'; clear hb'
   have zjB:=yi zor zjA
   replace zjB:=Option.some.inj zjB
   refine WD.pin (i:=21) rfl zjA ?_
   refine WD.b (i:=19) (d:=22) (by kernel_rfl) rfl (z8 (by kernel_rfl)) (za (by kernel_rfl)) rfl rfl rfl ?_
   refine WD.b (i:=20) (d:=23) (by kernel_rfl) rfl (z8 (by kernel_rfl)) (za (by kernel_rfl)) rfl rfl rfl ?_
   refine WD.b (i:=21) (d:=24) (by kernel_rfl) rfl (z8 (by kernel_rfl)) (za (by kernel_rfl)) rfl rfl rfl ?_
   refine WD.b (i:=22) (d:=25) (by kernel_rfl) rfl (z8 (by kernel_rfl)) (za (by kernel_rfl)) rfl rfl rfl ?_
   refine WD.b (i:=23) (d:=26) (by kernel_rfl) rfl (z8 (by kernel_rfl)) (za (by kernel_rfl)) rfl rfl rfl ?_
   refine WD.b (i:=24) (d:=27) (by kernel_rfl) rfl (z8 (by kernel_rfl)) (za (by kernel_rfl)) rfl rfl rfl ?_
   refine WD.b (i:=25) (d:=28) (by kernel_rfl) rfl (z8 (by kernel_rfl)) (za (by kernel_rfl)) rfl rfl rfl ?_
   refine WD.b (i:=26) (d:=29) (by kernel_rfl) rfl (z8 (by kernel_rfl)) (za (by kernel_rfl)) rfl rfl rfl ?_
   refine WD.a (i:=27) (d:=30) (by kernel_rfl) rfl (z8 (by kernel_rfl)) (za (by kernel_rfl)) rfl rfl rfl (fun _=>yr rfl rfl) ?_
   refine WD.yC (.cons .here .nil) ?_ zov
   exact (.cons rfl (.cons (zr (Eq.symm zjA)) (.cons (zr zjB) .nil)))
 refine WD.d #[true,true,true,true,true,true,true,true,true,true,true,true,true,true,true,true,true,true,true,true,true,true,true,true,true,true,true,true,false] (by kernel_rfl) ?_
 refine WD.a (i:=28) (d:=2) (by kernel_rfl) rfl (z8 (by kernel_rfl)) (za (by kernel_rfl)) rfl rfl rfl (fun _=>q_z rfl) ?_
 refine WD.done (by kernel_rfl) ?_
 refine WX.a ?_
 refine WC.ret ?_
 obtain rfl:=Option.some.inj h
 refine WX.y7 Try.results39 (.tmp rfl .nil) (fun w hw=>?_)
 exact ⟨yD rfl,hw.sub .nil⟩
def y3a (z3J : z7) : Option Bool :=
 (y1f z3J).bind fun zfg=>some (zfg && (decide (z3J.fN ≥ 0)))
set_option maxRecDepth 20000 in
theorem y67 (Z : Zp)   (z3J : z7) (r : Bool) (w₀ : World) (hz : PZ [] w₀ Z)
  (h : y3a z3J = some r) :
  Calls Try.prog 44 #[(.agg #[(.int .i64 z3J.fN),(.int .i64 z3J.fD)])] w₀ fun e w'=>e = .returned (.bool r) ∧ Hp [] w₀ w' []:=by
 unfold y3a at h
 refine Calls.yd (vs:=[(.agg #[(.int .i64 z3J.fN),(.int .i64 z3J.fD)])]) (pre:=[]) (env:=[(0,(.agg #[(.int .i64 z3J.fN),(.int .i64 z3J.fD)]))]) Try.func44 rfl Try.ntmps44 rfl (Hp.nil w₀ _) rfl ?_
 refine WC.b ?_
 refine WC.a ?_
 refine WL.new (dd:=1) rfl rfl rfl (yI (cs:=[(.int .i64 z3J.fN),(.int .i64 z3J.fD)]) rfl rfl) ?_
 intro zfh _
 refine WL.a (d:=2) rfl rfl rfl (q_z rfl) ?_
 refine WL.nil ?_
 refine WX.a ?_
 refine WC.b ?_
 obtain ⟨zfg,zsr,h⟩:=ze h
 refine WC.a ?_
 refine WL.a (d:=3) rfl rfl rfl (y4 (cs:=[(.int .i64 z3J.fN),(.int .i64 z3J.fD)]) y5 rfl rfl (y8 .here)) ?_
 refine WL.b (dd:=4) rfl rfl rfl (zj (l:=[.tmp 3]) Try.call39 (.cons rfl .nil)) (.nil : Sel [stb zfh 30 [(.int .i64 z3J.fN),(.int .i64 z3J.fD)]] [] [stb zfh 30 [(.int .i64 z3J.fN),(.int .i64 z3J.fD)]]) (fun w hw=>by have pz:=(hz.call hw (.nil : Sel [stb zfh 30 [(.int .i64 z3J.fN),(.int .i64 z3J.fD)]] [] [stb zfh 30 [(.int .i64 z3J.fN),(.int .i64 z3J.fD)]])); exact y1G (Z:=_)  (z1b:=z3J) (r:=zfg) w pz  zsr) ?_
 refine WL.a (d:=5) rfl rfl rfl (q_m rfl) ?_
 refine WL.yN True [(2,(.bool false)),(9,(.bool (zfg && (decide (z3J.fN ≥ 0)))))] [stb zfh 30 [(.int .i64 z3J.fN),(.int .i64 z3J.fD)]] 4 ?_ (fun _=>?_)
 ·rcases Bool.eq_false_or_eq_true zfg with hb' | hb'
  ·have zow:=hb'; clear hb'
   refine WL.pin (i:=5) rfl zow ?_
   refine WL.a (d:=6) rfl rfl rfl (y3 y1Q rfl rfl) ?_
   refine WL.a (d:=7) rfl rfl rfl (ya yw rfl (yv .here rfl)) ?_
   refine WL.a (d:=8) rfl rfl rfl (y6l rfl rfl) ?_
   refine WL.a (d:=9) rfl rfl rfl (ys rfl rfl) ?_
   exact WL.y9 () trivial (.cons rfl (.cons (zr (y4E zow)) .nil)) (.cons .here .nil)
  ·have zox:=hb'; clear hb'
   refine WL.pin (i:=5) rfl zox ?_
   refine WL.e rfl rfl rfl ?_
   refine WL.e rfl rfl rfl ?_
   refine WL.e rfl rfl rfl ?_
   refine WL.a (d:=9) rfl rfl rfl (yr rfl rfl) ?_
   exact WL.y9 () trivial (.cons rfl (.cons (zr (y4D zox)) .nil)) (.cons .here .nil)
 ·skip
  refine WL.a (d:=2) rfl rfl rfl (q_z rfl) ?_
  refine WL.nil ?_
  refine WX.a ?_
  refine WC.ret ?_
  obtain rfl:=Option.some.inj h
  refine WX.y7 Try.results44 (.tmp rfl .nil) (fun w hw=>?_)
  exact ⟨yD rfl,hw.sub .nil⟩
def y2Z (z1I : z6) : Option Bool :=
 (y3a z1I.fB).bind fun zh5=>(if !zh5 then some true else (y3a z1I.fR).bind fun zjC=>some (!zjC)).bind fun zjD=>some zjD
set_option maxRecDepth 20000 in
theorem y82 (Z : Zp)   (z1I : z6) (r : Bool) (w₀ : World) (hz : PZ [] w₀ Z)
  (h : y2Z z1I = some r) :
  Calls Try.prog 50 #[(.agg #[(.int .i64 z1I.fB.fN),(.int .i64 z1I.fB.fD),(.int .i64 z1I.fR.fN),(.int .i64 z1I.fR.fD)])] w₀ fun e w'=>e = .returned (.bool r) ∧ Hp [] w₀ w' []:=by
 unfold y2Z at h
 refine Calls.yd (vs:=[(.agg #[(.int .i64 z1I.fB.fN),(.int .i64 z1I.fB.fD),(.int .i64 z1I.fR.fN),(.int .i64 z1I.fR.fD)])]) (pre:=[]) (env:=[(0,(.agg #[(.int .i64 z1I.fB.fN),(.int .i64 z1I.fB.fD),(.int .i64 z1I.fR.fN),(.int .i64 z1I.fR.fD)]))]) Try.func50 rfl Try.ntmps50 rfl (Hp.nil w₀ _) rfl ?_
 refine WC.b ?_
 refine WC.a ?_
 refine WL.new (dd:=1) rfl rfl rfl (yI (cs:=[(.int .i64 z1I.fB.fN),(.int .i64 z1I.fB.fD),(.int .i64 z1I.fR.fN),(.int .i64 z1I.fR.fD)]) rfl rfl) ?_
 intro za2 _
 refine WL.a (d:=2) rfl rfl rfl (q_z rfl) ?_
 refine WL.nil ?_
 refine WX.a ?_
 refine WC.b ?_
 obtain ⟨zh5,zss,h⟩:=ze h
 obtain ⟨zjD,zoy,h⟩:=ze h
 refine WC.a ?_
 refine WL.a (d:=3) rfl rfl rfl (y3 y3Y rfl rfl) ?_
 refine WL.a (d:=4) rfl rfl rfl (y4 (cs:=[(.int .i64 z1I.fB.fN),(.int .i64 z1I.fB.fD)]) y5 rfl rfl (y1U (s:=2) .here rfl)) ?_
 refine WL.b (dd:=5) rfl rfl rfl (zj (l:=[.tmp 4]) Try.call44 (.cons rfl .nil)) (.nil : Sel [stb za2 35 [(.int .i64 z1I.fB.fN),(.int .i64 z1I.fB.fD),(.int .i64 z1I.fR.fN),(.int .i64 z1I.fR.fD)]] [] [stb za2 35 [(.int .i64 z1I.fB.fN),(.int .i64 z1I.fB.fD),(.int .i64 z1I.fR.fN),(.int .i64 z1I.fR.fD)]]) (fun w hw=>by have pz:=(hz.call hw (.nil : Sel [stb za2 35 [(.int .i64 z1I.fB.fN),(.int .i64 z1I.fB.fD),(.int .i64 z1I.fR.fN),(.int .i64 z1I.fR.fD)]] [] [stb za2 35 [(.int .i64 z1I.fB.fN),(.int .i64 z1I.fB.fD),(.int .i64 z1I.fR.fN),(.int .i64 z1I.fR.fD)]])); exact y67 (Z:=_)  (z3J:=z1I.fB) (r:=zh5) w pz  zss) ?_
 refine WL.a (d:=6) rfl rfl rfl (y1m rfl) ?_
 refine WL.a (d:=7) rfl rfl rfl (q_m rfl) ?_
 refine WL.yN True [(2,(.bool false)),(12,(.bool zjD))] [stb za2 35 [(.int .i64 z1I.fB.fN),(.int .i64 z1I.fB.fD),(.int .i64 z1I.fR.fN),(.int .i64 z1I.fR.fD)]] 5 ?_ (fun _=>?_)
 ·rcases Bool.eq_false_or_eq_true (!zh5) with hb' | hb'
  ·have zoz:=hb'; clear hb'
   have zjE:=yh zoy zoz
   replace zjE:=Option.some.inj zjE
   refine WL.pin (i:=7) rfl zoz ?_
   refine WL.e rfl rfl rfl ?_
   refine WL.e rfl rfl rfl ?_
   refine WL.e rfl rfl rfl ?_
   refine WL.e rfl rfl rfl ?_
   refine WL.a (d:=12) rfl rfl rfl (ys rfl rfl) ?_
   exact WL.y9 () trivial (.cons rfl (.cons (zr zjE) .nil)) (.cons .here .nil)
  ·have zoA:=hb'; clear hb'
   have zfi:=yi zoy zoA
   obtain ⟨zjC,zst,zfi⟩:=ze zfi
   replace zfi:=Option.some.inj zfi
   refine WL.pin (i:=7) rfl zoA ?_
   refine WL.a (d:=8) rfl rfl rfl (y3 y4P rfl rfl) ?_
   refine WL.a (d:=9) rfl rfl rfl (y4 (cs:=[(.int .i64 z1I.fR.fN),(.int .i64 z1I.fR.fD)]) y5 rfl rfl (y1U (s:=2) .here rfl)) ?_
   refine WL.b (dd:=10) rfl rfl rfl (zj (l:=[.tmp 9]) Try.call44 (.cons rfl .nil)) (.nil : Sel [stb za2 35 [(.int .i64 z1I.fB.fN),(.int .i64 z1I.fB.fD),(.int .i64 z1I.fR.fN),(.int .i64 z1I.fR.fD)]] [] [stb za2 35 [(.int .i64 z1I.fB.fN),(.int .i64 z1I.fB.fD),(.int .i64 z1I.fR.fN),(.int .i64 z1I.fR.fD)]]) (fun w hw=>by have pz:=(hz.call hw (.nil : Sel [stb za2 35 [(.int .i64 z1I.fB.fN),(.int .i64 z1I.fB.fD),(.int .i64 z1I.fR.fN),(.int .i64 z1I.fR.fD)]] [] [stb za2 35 [(.int .i64 z1I.fB.fN),(.int .i64 z1I.fB.fD),(.int .i64 z1I.fR.fN),(.int .i64 z1I.fR.fD)]])); exact y67 (Z:=_)  (z3J:=z1I.fR) (r:=zjC) w pz  zst) ?_
   refine WL.a (d:=11) rfl rfl rfl (y1m rfl) ?_
   refine WL.a (d:=12) rfl rfl rfl (yr rfl rfl) ?_
   exact WL.y9 () trivial (.cons rfl (.cons (zr zfi) .nil)) (.cons .here .nil)
 ·skip
  refine WL.a (d:=2) rfl rfl rfl (q_z rfl) ?_
  refine WL.nil ?_
  refine WX.a ?_
  refine WC.ret ?_
  obtain rfl:=Option.some.inj h
  refine WX.y7 Try.results50 (.tmp rfl .nil) (fun w hw=>?_)
  exact ⟨yD rfl,hw.sub .nil⟩
def yH (z3K : List z6) (z8T : z6 → Option Bool) (za3 : Option Int) : Nat → Int → Option Int
 | 0,_=>none
 | zjF + 1,z47=>if decide (z47 < ((z3K.length : Nat) : Int)) then chk ((0 : Int) ≤ z47 ∧ z47 < ((z3K.length : Nat) : Int)) ((z8T (⟨(⟨(((nth z3K z47).fB).fN),(((nth z3K z47).fB).fD)⟩ : z7),(⟨(((nth z3K z47).fR).fN),(((nth z3K z47).fR).fD)⟩ : z7)⟩ : z6)).bind fun zjG=>if zjG then some z47 else yH z3K z8T za3 zjF (i64 (z47 + 1))) else za3
theorem y3d {n : Nat} {z3K : List z6} {z8T : z6 → Option Bool} {za3 : Option Int} {z47 : Int} {r : Int} (h : yH z3K z8T za3 n z47 = some r) : ∃ m,n = m + 1:=by
 cases n with
 | zero=>cases h
 | succ m=>exact ⟨m,rfl⟩
def y1V (z3K : List z6) (z8T : z6 → Option Bool) : Option Int :=
 jp0 (some (-1)) fun za3=>yH z3K z8T za3 yu 0
set_option maxRecDepth 20000 in
theorem y3R (Z : Zp)  (zdx : Option Addr) (zdy : Nat) (za4 : FuncId) (zc6 : List Value) (z3K : List z6) (z8T : z6 → Option Bool) (r : Int) (w₀ : World) (hz : PZ [] w₀ Z)
  (zsu : ZS Z 4 (fun r x=>r = e35 x) zdx zdy z3K)
  (zsv : ∀ args w,(callFunc za4 args).run Try.prog w = .ok (.enter za4 args) w)
  (zsw : ∀ w : World,PZ [] w Z → ∀ (x0 : z6) (r : Bool),z8T x0 = some r → Calls Try.prog za4 (([(.agg #[(.int .i64 x0.fB.fN),(.int .i64 x0.fB.fD),(.int .i64 x0.fR.fN),(.int .i64 x0.fR.fD)])] : List Value) ++ zc6).toArray w fun e w'=>e = .returned (.bool r) ∧ Hp [] w w' [])
  (h : y1V z3K z8T = some r) :
  Calls Try.prog 64 #[(.slice zdx z3K.length zdy),(.func (.func za4) #[] (zc6).toArray)] w₀ fun e w'=>e = .returned (.int .i64 r) ∧ Hp [] w₀ w' []:=by
 unfold y1V at h
 refine Calls.yd (vs:=[(.slice zdx z3K.length zdy),(.func (.func za4) #[] (zc6).toArray)]) (pre:=[]) (env:=[(0,(.slice zdx z3K.length zdy)),(1,(.func (.func za4) #[] (zc6).toArray))]) Try.func64 rfl Try.ntmps64 rfl (Hp.nil w₀ _) rfl ?_
 refine WC.b ?_
 refine WC.a ?_
 refine WL.a (d:=4) rfl rfl rfl (q_z rfl) ?_
 refine WL.nil ?_
 refine WX.a ?_
 obtain ⟨za3,zsx,h⟩:=y3I h
 refine WC.y4h ((za3 = some r)) ([]) ([]) ?_ ?_
 ·skip
  refine WC.b ?_
  refine WC.a ?_
  refine WL.a (d:=6) rfl rfl rfl (q_m rfl) ?_
  refine WL.a (d:=7) rfl rfl rfl (y10 Try.underlying39 rfl) ?_
  refine WL.a (d:=8) rfl rfl rfl (q_m rfl) ?_
  refine WL.nil ?_
  refine WX.a ?_
  refine WC.block ?_
  refine WC.y60 (fun (zdz : Nat) (z47 : Int)=>(yH z3K z8T za3 zdz z47 = some r)) (fun (zdz : Nat) (z47 : Int)=>[(0,(.slice zdx z3K.length zdy)),(1,(.func (.func za4) #[] (zc6).toArray)),(7,(.int .i64 ((z3K.length : Nat) : Int))),(8,(.int .i64 z47))]) (fun (zdz : Nat) (z47 : Int)=>[]) (fun (zdz : Nat) (z47 : Int)=>zdz) ⟨yu,0⟩ h (.cons rfl (.cons rfl (.cons rfl (.cons rfl .nil)))) .nil ?_
  rintro zdz z47 h
  obtain ⟨zjF,rfl⟩:=y3d h
  rw [yH] at h
  refine WC.b ?_
  refine WC.a ?_
  refine WL.a (d:=9) rfl rfl rfl (y1c rfl rfl) ?_
  refine WL.nil ?_
  refine WX.a ?_
  refine WC.b ?_
  refine WC.cond rfl (fun zjH=>?_) (fun zjH=>?_)
  ·replace h:=yh h zjH
   refine WC.skip ?_
   refine WX.a ?_
   refine WC.b ?_
   refine WC.block ?_
   refine WC.b ?_
   refine WC.a ?_
   refine WL.a (d:=10) rfl rfl rfl (q_m rfl) ?_
   refine WL.a (d:=5) rfl rfl rfl (q_z rfl) ?_
   refine WL.nil ?_
   refine WX.a ?_
   refine WC.b ?_
   obtain ⟨zsy,h⟩:=yl h
   obtain ⟨zjG,zsz,h⟩:=ze h
   refine WC.a ?_
   refine WL.a (d:=11) rfl rfl rfl (q_m rfl) ?_
   refine WL.a (d:=12) rfl rfl rfl (q_m rfl) ?_
   refine WL.a (d:=13) rfl rfl rfl (q_m rfl) ?_
   refine WL.znth (dd:=14) rfl rfl (Z:=Z) (Pr:=(fun r x=>r = e35 x)) y2w rfl rfl zsu zsy ?_
   rintro zAC zAD zsA zAE rfl
   refine WL.a (d:=15) rfl rfl rfl (y4 (cs:=[(.int .i64 (((nth z3K z47).fB).fN)),(.int .i64 (((nth z3K z47).fB).fD)),(.int .i64 (((nth z3K z47).fR).fN)),(.int .i64 (((nth z3K z47).fR).fD))]) y1D rfl rfl (y2P hz.pv zsA)) ?_
   refine WL.b (dd:=16) rfl rfl rfl (y2C (l:=[.tmp 15]) (f:=za4) (caps:=zc6) zsv rfl (.cons rfl .nil)) .nil (fun w hw=>zsw w (hz.now hw) (⟨(⟨(((nth z3K z47).fB).fN),(((nth z3K z47).fB).fD)⟩ : z7),(⟨(((nth z3K z47).fR).fN),(((nth z3K z47).fR).fD)⟩ : z7)⟩ : z6) zjG  zsz) ?_
   refine WL.nil ?_
   refine WX.a ?_
   refine WC.cond rfl (fun zjI=>?_) (fun zjI=>?_)
   ·replace h:=yh h zjI
    refine WC.b ?_
    refine WC.a ?_
    refine WL.a (d:=17) rfl rfl rfl (q_m rfl) ?_
    refine WL.a (d:=4) rfl rfl rfl (q_z rfl) ?_
    refine WL.nil ?_
    refine WX.a ?_
    refine WC.ret ?_
    refine WX.yq ?_
    refine WX.y6 ?_
    refine WX.y6 ?_
    refine WX.yq ?_
    refine WX.y6 ?_
    obtain rfl:=Option.some.inj h
    refine WX.y7 Try.results64 (.tmp rfl .nil) (fun w hw=>?_)
    exact ⟨yD rfl,hw.sub .nil⟩
   ·replace h:=yi h zjI
    refine WC.skip ?_
    refine WX.yg ?_
    refine WX.a ?_
    refine WC.a ?_
    refine WL.a (d:=18) rfl rfl rfl (yW rfl rfl rfl) ?_
    refine WL.a (d:=8) rfl rfl rfl (q_m rfl) ?_
    refine WL.nil ?_
    exact WX.round (G:=Nat × Int) ⟨zjF,(i64 (z47 + 1))⟩ h (Nat.lt_succ_self _) (.cons rfl (.cons rfl (.cons rfl (.cons rfl .nil)))) .nil
  ·replace h:=yi h zjH
   refine WC.exit ?_
   refine WX.ye ?_
   refine WX.ye ?_
   refine WX.yx ?_
   exact WX.mid (G:=Unit) () h .nil .nil
 ·rintro  h
  replace h:=zsx.symm.trans h
  refine WC.b ?_
  refine WC.a ?_
  refine WL.a (d:=4) rfl rfl rfl (q_z rfl) ?_
  refine WL.nil ?_
  refine WX.a ?_
  refine WC.ret ?_
  obtain rfl:=Option.some.inj h
  refine WX.y7 Try.results64 (.tmp rfl .nil) (fun w hw=>?_)
  exact ⟨yD rfl,hw.sub .nil⟩
def y11 (z9j : List z6) (zc7 : z6 → Option Bool) : Option Bool :=
 (y1V z9j zc7).bind fun zjJ=>some (decide (zjJ ≥ 0))
set_option maxRecDepth 20000 in
theorem y2r (Z : Zp)  (zc8 : Option Addr) (zc9 : Nat) (za5 : FuncId) (zca : List Value) (z9j : List z6) (zc7 : z6 → Option Bool) (r : Bool) (w₀ : World) (hz : PZ [] w₀ Z)
  (zsB : ZS Z 4 (fun r x=>r = e35 x) zc8 zc9 z9j)
  (zsC : ∀ args w,(callFunc za5 args).run Try.prog w = .ok (.enter za5 args) w)
  (zsD : ∀ w : World,PZ [] w Z → ∀ (x0 : z6) (r : Bool),zc7 x0 = some r → Calls Try.prog za5 (([(.agg #[(.int .i64 x0.fB.fN),(.int .i64 x0.fB.fD),(.int .i64 x0.fR.fN),(.int .i64 x0.fR.fD)])] : List Value) ++ zca).toArray w fun e w'=>e = .returned (.bool r) ∧ Hp [] w w' [])
  (h : y11 z9j zc7 = some r) :
  Calls Try.prog 49 #[(.slice zc8 z9j.length zc9),(.func (.func za5) #[] (zca).toArray)] w₀ fun e w'=>e = .returned (.bool r) ∧ Hp [] w₀ w' []:=by
 unfold y11 at h
 refine Calls.yd (vs:=[(.slice zc8 z9j.length zc9),(.func (.func za5) #[] (zca).toArray)]) (pre:=[]) (env:=[(0,(.slice zc8 z9j.length zc9)),(1,(.func (.func za5) #[] (zca).toArray))]) Try.func49 rfl Try.ntmps49 rfl (Hp.nil w₀ _) rfl ?_
 refine WC.b ?_
 refine WC.a ?_
 refine WL.a (d:=4) rfl rfl rfl (q_z rfl) ?_
 refine WL.nil ?_
 refine WX.a ?_
 refine WC.b ?_
 obtain ⟨zjJ,zsE,h⟩:=ze h
 refine WC.a ?_
 refine WL.a (d:=5) rfl rfl rfl (q_m rfl) ?_
 refine WL.a (d:=6) rfl rfl rfl (q_m rfl) ?_
 refine WL.b (dd:=7) rfl rfl rfl (zj (l:=[.tmp 5,.tmp 6]) Try.call64 (.cons rfl (.cons rfl .nil))) (.nil : Sel [] [] []) (fun w hw=>by have pz:=(hz.call hw (.nil : Sel [] [] [])); exact y3R (Z:=_) (zdx:=zc8) (zdy:=zc9) (za4:=za5) (zc6:=zca) (z3K:=z9j) (z8T:=zc7) (r:=zjJ) w pz zsB zsC zsD zsE) ?_
 refine WL.a (d:=8) rfl rfl rfl (y6l rfl rfl) ?_
 refine WL.a (d:=4) rfl rfl rfl (q_z rfl) ?_
 refine WL.nil ?_
 refine WX.a ?_
 refine WC.ret ?_
 obtain rfl:=Option.some.inj h
 refine WX.y7 Try.results49 (.tmp rfl .nil) (fun w hw=>?_)
 exact ⟨yD rfl,hw.sub .nil⟩
def y2n (z5B : List z6) : Option Bool :=
 (if (decide (((z5B.length : Nat) : Int) ≥ 1)) && (decide (((z5B.length : Nat) : Int) ≤ 32)) then (y11 z5B (fun (y0 : z6)=>y2Z y0)).bind fun zjK=>some (!zjK) else some false).bind fun zjL=>some zjL
set_option maxRecDepth 20000 in
theorem y3S (Z : Zp)  (z8U : Option Addr) (z8V : Nat) (z5B : List z6) (r : Bool) (w₀ : World) (hz : PZ [] w₀ Z)
  (zsF : ZS Z 4 (fun r x=>r = e35 x) z8U z8V z5B)
  (h : y2n z5B = some r) :
  Calls Try.prog 30 #[(.slice z8U z5B.length z8V)] w₀ fun e w'=>e = .returned (.bool r) ∧ Hp [] w₀ w' []:=by
 unfold y2n at h
 refine Calls.yd (vs:=[(.slice z8U z5B.length z8V)]) (pre:=[]) (env:=[(0,(.slice z8U z5B.length z8V))]) Try.func30 rfl Try.ntmps30 rfl (Hp.nil w₀ _) rfl ?_
 refine WC.b ?_
 refine WC.a ?_
 refine WL.a (d:=2) rfl rfl rfl (q_z rfl) ?_
 refine WL.nil ?_
 refine WX.a ?_
 refine WC.b ?_
 obtain ⟨zjL,zoB,h⟩:=ze h
 refine WC.a ?_
 refine WL.a (d:=3) rfl rfl rfl (q_m rfl) ?_
 refine WL.a (d:=4) rfl rfl rfl (y10 Try.underlying39 rfl) ?_
 refine WL.a (d:=5) rfl rfl rfl (y6l rfl rfl) ?_
 refine WL.a (d:=6) rfl rfl rfl (q_m rfl) ?_
 refine WL.yN True [(0,(.slice z8U z5B.length z8V)),(2,(.bool false)),(10,(.bool ((decide (((z5B.length : Nat) : Int) ≥ 1)) && (decide (((z5B.length : Nat) : Int) ≤ 32)))))] [] 4 ?_ (fun _=>?_)
 ·rcases Bool.eq_false_or_eq_true (decide (((z5B.length : Nat) : Int) ≥ 1)) with hb' | hb'
  ·have zoC:=hb'; clear hb'
   refine WL.pin (i:=6) rfl zoC ?_
   refine WL.a (d:=7) rfl rfl rfl (q_m rfl) ?_
   refine WL.a (d:=8) rfl rfl rfl (y10 Try.underlying39 rfl) ?_
   refine WL.a (d:=9) rfl rfl rfl (y5A rfl rfl) ?_
   refine WL.a (d:=10) rfl rfl rfl (ys rfl rfl) ?_
   exact WL.y9 () trivial (.cons rfl (.cons rfl (.cons (zr (y4E zoC)) .nil))) .nil
  ·have zoD:=hb'; clear hb'
   refine WL.pin (i:=6) rfl zoD ?_
   refine WL.e rfl rfl rfl ?_
   refine WL.e rfl rfl rfl ?_
   refine WL.e rfl rfl rfl ?_
   refine WL.a (d:=10) rfl rfl rfl (yr rfl rfl) ?_
   exact WL.y9 () trivial (.cons rfl (.cons rfl (.cons (zr (y4D zoD)) .nil))) .nil
 ·skip
  refine WL.a (d:=11) rfl rfl rfl (q_m rfl) ?_
  refine WL.yN True [(2,(.bool false)),(15,(.bool zjL))] [] 4 ?_ (fun _=>?_)
  ·rcases Bool.eq_false_or_eq_true ((decide (((z5B.length : Nat) : Int) ≥ 1)) && (decide (((z5B.length : Nat) : Int) ≤ 32))) with hb' | hb'
   ·have zoE:=hb'; clear hb'
    have zfj:=yh zoB zoE
    obtain ⟨zjK,zsG,zfj⟩:=ze zfj
    replace zfj:=Option.some.inj zfj
    refine WL.pin (i:=11) rfl zoE ?_
    refine WL.a (d:=12) rfl rfl rfl (q_m rfl) ?_
    refine WL.b (dd:=13) rfl rfl rfl (zj (l:=[.tmp 12,.func 50]) Try.call49 (.cons rfl (.cons rfl .nil))) (.nil : Sel [] [] []) (fun w hw=>by have pz:=(hz.call hw (.nil : Sel [] [] [])); exact y2r (Z:=_) (zc8:=z8U) (zc9:=z8V) (za5:=50) (zca:=[]) (z9j:=z5B) (zc7:=(fun (y0 : z6)=>y2Z y0)) (r:=zjK) w pz zsF Try.call50 (fun w' hz' y0  r  hr=>y82 (Z:=_)  (z1I:=y0) (r:=r) w' hz'  hr) zsG) ?_
    refine WL.a (d:=14) rfl rfl rfl (y1m rfl) ?_
    refine WL.a (d:=15) rfl rfl rfl (ys rfl rfl) ?_
    exact WL.y9 () trivial (.cons rfl (.cons (zr zfj) .nil)) .nil
   ·have zoF:=hb'; clear hb'
    have zjM:=yi zoB zoF
    replace zjM:=Option.some.inj zjM
    refine WL.pin (i:=11) rfl zoF ?_
    refine WL.e rfl rfl rfl ?_
    refine WL.e rfl rfl rfl ?_
    refine WL.e rfl rfl rfl ?_
    refine WL.a (d:=15) rfl rfl rfl (yr rfl rfl) ?_
    exact WL.y9 () trivial (.cons rfl (.cons (zr zjM) .nil)) .nil
  ·skip
   refine WL.a (d:=2) rfl rfl rfl (q_z rfl) ?_
   refine WL.nil ?_
   refine WX.a ?_
   refine WC.ret ?_
   obtain rfl:=Option.some.inj h
   refine WX.y7 Try.results30 (.tmp rfl .nil) (fun w hw=>?_)
   exact ⟨yD rfl,hw.sub .nil⟩
def yz (z9k : List z6) : Option Bool :=
 (y2n z9k).bind fun zjN=>some (!zjN)
set_option maxRecDepth 20000 in
theorem y46 (Z : Zp)  (zcb : Option Addr) (zcc : Nat) (z9k : List z6) (r : Bool) (w₀ : World) (hz : PZ [] w₀ Z)
  (zsH : ZS Z 4 (fun r x=>r = e35 x) zcb zcc z9k)
  (h : yz z9k = some r) :
  Calls Try.prog 67 #[(.slice zcb z9k.length zcc)] w₀ fun e w'=>e = .returned (.bool r) ∧ Hp [] w₀ w' []:=by
 unfold yz at h
 refine Calls.yd (vs:=[(.slice zcb z9k.length zcc)]) (pre:=[]) (env:=[(0,(.slice zcb z9k.length zcc))]) Try.func67 rfl Try.ntmps67 rfl (Hp.nil w₀ _) rfl ?_
 refine WC.b ?_
 refine WC.a ?_
 refine WL.a (d:=2) rfl rfl rfl (q_z rfl) ?_
 refine WL.nil ?_
 refine WX.a ?_
 refine WC.b ?_
 obtain ⟨zjN,zsI,h⟩:=ze h
 refine WC.a ?_
 refine WL.a (d:=3) rfl rfl rfl (q_m rfl) ?_
 refine WL.b (dd:=4) rfl rfl rfl (zj (l:=[.tmp 3]) Try.call30 (.cons rfl .nil)) (.nil : Sel [] [] []) (fun w hw=>by have pz:=(hz.call hw (.nil : Sel [] [] [])); exact y3S (Z:=_) (z8U:=zcb) (z8V:=zcc) (z5B:=z9k) (r:=zjN) w pz zsH zsI) ?_
 refine WL.a (d:=5) rfl rfl rfl (y1m rfl) ?_
 refine WL.a (d:=2) rfl rfl rfl (q_z rfl) ?_
 refine WL.nil ?_
 refine WX.a ?_
 refine WC.ret ?_
 obtain rfl:=Option.some.inj h
 refine WX.y7 Try.results67 (.tmp rfl .nil) (fun w hw=>?_)
 exact ⟨yD rfl,hw.sub .nil⟩
def yy (z5V : List (List z6)) (z8W : (List z6) → Option Bool) (za6 : Option Int) : Nat → Int → Option Int
 | 0,_=>none
 | zjO + 1,z6K=>if decide (z6K < ((z5V.length : Nat) : Int)) then chk ((0 : Int) ≤ z6K ∧ z6K < ((z5V.length : Nat) : Int)) ((z8W (nth z5V z6K)).bind fun zjP=>if zjP then some z6K else yy z5V z8W za6 zjO (i64 (z6K + 1))) else za6
theorem y3e {n : Nat} {z5V : List (List z6)} {z8W : (List z6) → Option Bool} {za6 : Option Int} {z6K : Int} {r : Int} (h : yy z5V z8W za6 n z6K = some r) : ∃ m,n = m + 1:=by
 cases n with
 | zero=>cases h
 | succ m=>exact ⟨m,rfl⟩
def y23 (z5V : List (List z6)) (z8W : (List z6) → Option Bool) : Option Int :=
 jp0 (some (-1)) fun za6=>yy z5V z8W za6 yu 0
set_option maxRecDepth 20000 in
theorem y40 (Z : Zp)  (zdA : Option Addr) (zdB : Nat) (za7 : FuncId) (zcd : List Value) (z5V : List (List z6)) (z8W : (List z6) → Option Bool) (r : Int) (w₀ : World) (hz : PZ [] w₀ Z)
  (zsJ : ZS Z 1 (p39 Z) zdA zdB z5V)
  (zsK : ∀ args w,(callFunc za7 args).run Try.prog w = .ok (.enter za7 args) w)
  (zsL : ∀ w : World,PZ [] w Z → ∀ (x0 : List z6) (ao0 : Option Addr) (cap0 : Nat) (r : Bool),ZS Z 4 (fun r x=>r = e35 x) ao0 cap0 x0 → z8W x0 = some r → Calls Try.prog za7 (([(.slice ao0 x0.length cap0)] : List Value) ++ zcd).toArray w fun e w'=>e = .returned (.bool r) ∧ Hp [] w w' [])
  (h : y23 z5V z8W = some r) :
  Calls Try.prog 75 #[(.slice zdA z5V.length zdB),(.func (.func za7) #[] (zcd).toArray)] w₀ fun e w'=>e = .returned (.int .i64 r) ∧ Hp [] w₀ w' []:=by
 unfold y23 at h
 refine Calls.yd (vs:=[(.slice zdA z5V.length zdB),(.func (.func za7) #[] (zcd).toArray)]) (pre:=[]) (env:=[(0,(.slice zdA z5V.length zdB)),(1,(.func (.func za7) #[] (zcd).toArray))]) Try.func75 rfl Try.ntmps75 rfl (Hp.nil w₀ _) rfl ?_
 refine WC.b ?_
 refine WC.a ?_
 refine WL.a (d:=4) rfl rfl rfl (q_z rfl) ?_
 refine WL.nil ?_
 refine WX.a ?_
 obtain ⟨za6,zsM,h⟩:=y3I h
 refine WC.y4h ((za6 = some r)) ([]) ([]) ?_ ?_
 ·skip
  refine WC.b ?_
  refine WC.a ?_
  refine WL.a (d:=6) rfl rfl rfl (q_m rfl) ?_
  refine WL.a (d:=7) rfl rfl rfl (y10 Try.underlying26 rfl) ?_
  refine WL.a (d:=8) rfl rfl rfl (q_m rfl) ?_
  refine WL.nil ?_
  refine WX.a ?_
  refine WC.block ?_
  refine WC.y60 (fun (zdC : Nat) (z6K : Int)=>(yy z5V z8W za6 zdC z6K = some r)) (fun (zdC : Nat) (z6K : Int)=>[(0,(.slice zdA z5V.length zdB)),(1,(.func (.func za7) #[] (zcd).toArray)),(7,(.int .i64 ((z5V.length : Nat) : Int))),(8,(.int .i64 z6K))]) (fun (zdC : Nat) (z6K : Int)=>[]) (fun (zdC : Nat) (z6K : Int)=>zdC) ⟨yu,0⟩ h (.cons rfl (.cons rfl (.cons rfl (.cons rfl .nil)))) .nil ?_
  rintro zdC z6K h
  obtain ⟨zjO,rfl⟩:=y3e h
  rw [yy] at h
  refine WC.b ?_
  refine WC.a ?_
  refine WL.a (d:=9) rfl rfl rfl (y1c rfl rfl) ?_
  refine WL.nil ?_
  refine WX.a ?_
  refine WC.b ?_
  refine WC.cond rfl (fun zjQ=>?_) (fun zjQ=>?_)
  ·replace h:=yh h zjQ
   refine WC.skip ?_
   refine WX.a ?_
   refine WC.b ?_
   refine WC.block ?_
   refine WC.b ?_
   refine WC.a ?_
   refine WL.a (d:=10) rfl rfl rfl (q_m rfl) ?_
   refine WL.a (d:=5) rfl rfl rfl (q_z rfl) ?_
   refine WL.nil ?_
   refine WX.a ?_
   refine WC.b ?_
   obtain ⟨zsN,h⟩:=yl h
   obtain ⟨zjP,zsO,h⟩:=ze h
   refine WC.a ?_
   refine WL.a (d:=11) rfl rfl rfl (q_m rfl) ?_
   refine WL.a (d:=12) rfl rfl rfl (q_m rfl) ?_
   refine WL.a (d:=13) rfl rfl rfl (q_m rfl) ?_
   refine WL.znth (dd:=14) rfl rfl (Z:=Z) (Pr:=(p39 Z)) y3Q rfl rfl zsJ zsN ?_
   rintro zAF zAG zsP zAH ⟨zsQ,zsR,rfl,zsS⟩
   refine WL.a (d:=15) rfl rfl rfl (ya y4Q rfl (y4Z hz.pv zsP rfl)) ?_
   refine WL.b (dd:=16) rfl rfl rfl (y2C (l:=[.tmp 15]) (f:=za7) (caps:=zcd) zsK rfl (.cons rfl .nil)) .nil (fun w hw=>zsL w (hz.now hw) (nth z5V z6K) zsQ zsR zjP zsS zsO) ?_
   refine WL.nil ?_
   refine WX.a ?_
   refine WC.cond rfl (fun zjR=>?_) (fun zjR=>?_)
   ·replace h:=yh h zjR
    refine WC.b ?_
    refine WC.a ?_
    refine WL.a (d:=17) rfl rfl rfl (q_m rfl) ?_
    refine WL.a (d:=4) rfl rfl rfl (q_z rfl) ?_
    refine WL.nil ?_
    refine WX.a ?_
    refine WC.ret ?_
    refine WX.yq ?_
    refine WX.y6 ?_
    refine WX.y6 ?_
    refine WX.yq ?_
    refine WX.y6 ?_
    obtain rfl:=Option.some.inj h
    refine WX.y7 Try.results75 (.tmp rfl .nil) (fun w hw=>?_)
    exact ⟨yD rfl,hw.sub .nil⟩
   ·replace h:=yi h zjR
    refine WC.skip ?_
    refine WX.yg ?_
    refine WX.a ?_
    refine WC.a ?_
    refine WL.a (d:=18) rfl rfl rfl (yW rfl rfl rfl) ?_
    refine WL.a (d:=8) rfl rfl rfl (q_m rfl) ?_
    refine WL.nil ?_
    exact WX.round (G:=Nat × Int) ⟨zjO,(i64 (z6K + 1))⟩ h (Nat.lt_succ_self _) (.cons rfl (.cons rfl (.cons rfl (.cons rfl .nil)))) .nil
  ·replace h:=yi h zjQ
   refine WC.exit ?_
   refine WX.ye ?_
   refine WX.ye ?_
   refine WX.yx ?_
   exact WX.mid (G:=Unit) () h .nil .nil
 ·rintro  h
  replace h:=zsM.symm.trans h
  refine WC.b ?_
  refine WC.a ?_
  refine WL.a (d:=4) rfl rfl rfl (q_z rfl) ?_
  refine WL.nil ?_
  refine WX.a ?_
  refine WC.ret ?_
  obtain rfl:=Option.some.inj h
  refine WX.y7 Try.results75 (.tmp rfl .nil) (fun w hw=>?_)
  exact ⟨yD rfl,hw.sub .nil⟩
def yM (z9l : List (List z6)) (zce : (List z6) → Option Bool) : Option Bool :=
 (y23 z9l zce).bind fun zjS=>some (decide (zjS ≥ 0))
set_option maxRecDepth 20000 in
theorem y2v (Z : Zp)  (zcf : Option Addr) (zcg : Nat) (za8 : FuncId) (zch : List Value) (z9l : List (List z6)) (zce : (List z6) → Option Bool) (r : Bool) (w₀ : World) (hz : PZ [] w₀ Z)
  (zsT : ZS Z 1 (p39 Z) zcf zcg z9l)
  (zsU : ∀ args w,(callFunc za8 args).run Try.prog w = .ok (.enter za8 args) w)
  (zsV : ∀ w : World,PZ [] w Z → ∀ (x0 : List z6) (ao0 : Option Addr) (cap0 : Nat) (r : Bool),ZS Z 4 (fun r x=>r = e35 x) ao0 cap0 x0 → zce x0 = some r → Calls Try.prog za8 (([(.slice ao0 x0.length cap0)] : List Value) ++ zch).toArray w fun e w'=>e = .returned (.bool r) ∧ Hp [] w w' [])
  (h : yM z9l zce = some r) :
  Calls Try.prog 66 #[(.slice zcf z9l.length zcg),(.func (.func za8) #[] (zch).toArray)] w₀ fun e w'=>e = .returned (.bool r) ∧ Hp [] w₀ w' []:=by
 unfold yM at h
 refine Calls.yd (vs:=[(.slice zcf z9l.length zcg),(.func (.func za8) #[] (zch).toArray)]) (pre:=[]) (env:=[(0,(.slice zcf z9l.length zcg)),(1,(.func (.func za8) #[] (zch).toArray))]) Try.func66 rfl Try.ntmps66 rfl (Hp.nil w₀ _) rfl ?_
 refine WC.b ?_
 refine WC.a ?_
 refine WL.a (d:=4) rfl rfl rfl (q_z rfl) ?_
 refine WL.nil ?_
 refine WX.a ?_
 refine WC.b ?_
 obtain ⟨zjS,zsW,h⟩:=ze h
 refine WC.a ?_
 refine WL.a (d:=5) rfl rfl rfl (q_m rfl) ?_
 refine WL.a (d:=6) rfl rfl rfl (q_m rfl) ?_
 refine WL.b (dd:=7) rfl rfl rfl (zj (l:=[.tmp 5,.tmp 6]) Try.call75 (.cons rfl (.cons rfl .nil))) (.nil : Sel [] [] []) (fun w hw=>by have pz:=(hz.call hw (.nil : Sel [] [] [])); exact y40 (Z:=_) (zdA:=zcf) (zdB:=zcg) (za7:=za8) (zcd:=zch) (z5V:=z9l) (z8W:=zce) (r:=zjS) w pz zsT zsU zsV zsW) ?_
 refine WL.a (d:=8) rfl rfl rfl (y6l rfl rfl) ?_
 refine WL.a (d:=4) rfl rfl rfl (q_z rfl) ?_
 refine WL.nil ?_
 refine WX.a ?_
 refine WC.ret ?_
 obtain rfl:=Option.some.inj h
 refine WX.y7 Try.results66 (.tmp rfl .nil) (fun w hw=>?_)
 exact ⟨yD rfl,hw.sub .nil⟩
def y2N (z10 : zSv) : Option Bool :=
 (y1f z10.fR).bind fun zdD=>(if zdD && (decide (z10.fR.fN > 0)) then (y1f z10.fLatency).bind fun zjT=>some zjT else some false).bind fun zfk=>some (zfk && (decide (z10.fLatency.fN ≥ 0)))
set_option maxRecDepth 20000 in
theorem y68 (Z : Zp)   (z10 : zSv) (r : Bool) (w₀ : World) (hz : PZ [] w₀ Z)
  (h : y2N z10 = some r) :
  Calls Try.prog 47 #[(.agg #[(.int .i64 z10.fR.fN),(.int .i64 z10.fR.fD),(.int .i64 z10.fLatency.fN),(.int .i64 z10.fLatency.fD)])] w₀ fun e w'=>e = .returned (.bool r) ∧ Hp [] w₀ w' []:=by
 unfold y2N at h
 refine Calls.yd (vs:=[(.agg #[(.int .i64 z10.fR.fN),(.int .i64 z10.fR.fD),(.int .i64 z10.fLatency.fN),(.int .i64 z10.fLatency.fD)])]) (pre:=[]) (env:=[(0,(.agg #[(.int .i64 z10.fR.fN),(.int .i64 z10.fR.fD),(.int .i64 z10.fLatency.fN),(.int .i64 z10.fLatency.fD)]))]) Try.func47 rfl Try.ntmps47 rfl (Hp.nil w₀ _) rfl ?_
 refine WC.b ?_
 refine WC.a ?_
 refine WL.new (dd:=1) rfl rfl rfl (yI (cs:=[(.int .i64 z10.fR.fN),(.int .i64 z10.fR.fD),(.int .i64 z10.fLatency.fN),(.int .i64 z10.fLatency.fD)]) rfl rfl) ?_
 intro z82 _
 refine WL.a (d:=2) rfl rfl rfl (q_z rfl) ?_
 refine WL.nil ?_
 refine WX.a ?_
 refine WC.b ?_
 obtain ⟨zdD,zsX,h⟩:=ze h
 obtain ⟨zfk,zoG,h⟩:=ze h
 refine WC.a ?_
 refine WL.a (d:=3) rfl rfl rfl (y3 y5S rfl rfl) ?_
 refine WL.a (d:=4) rfl rfl rfl (y4 (cs:=[(.int .i64 z10.fR.fN),(.int .i64 z10.fR.fD)]) y5 rfl rfl (y1U (s:=2) .here rfl)) ?_
 refine WL.b (dd:=5) rfl rfl rfl (zj (l:=[.tmp 4]) Try.call39 (.cons rfl .nil)) (.nil : Sel [stb z82 43 [(.int .i64 z10.fR.fN),(.int .i64 z10.fR.fD),(.int .i64 z10.fLatency.fN),(.int .i64 z10.fLatency.fD)]] [] [stb z82 43 [(.int .i64 z10.fR.fN),(.int .i64 z10.fR.fD),(.int .i64 z10.fLatency.fN),(.int .i64 z10.fLatency.fD)]]) (fun w hw=>by have pz:=(hz.call hw (.nil : Sel [stb z82 43 [(.int .i64 z10.fR.fN),(.int .i64 z10.fR.fD),(.int .i64 z10.fLatency.fN),(.int .i64 z10.fLatency.fD)]] [] [stb z82 43 [(.int .i64 z10.fR.fN),(.int .i64 z10.fR.fD),(.int .i64 z10.fLatency.fN),(.int .i64 z10.fLatency.fD)]])); exact y1G (Z:=_)  (z1b:=z10.fR) (r:=zdD) w pz  zsX) ?_
 refine WL.a (d:=6) rfl rfl rfl (q_m rfl) ?_
 refine WL.yN True [(1,(.pointer (some ⟨z82,0,none⟩))),(2,(.bool false)),(11,(.bool (zdD && (decide (z10.fR.fN > 0)))))] [stb z82 43 [(.int .i64 z10.fR.fN),(.int .i64 z10.fR.fD),(.int .i64 z10.fLatency.fN),(.int .i64 z10.fLatency.fD)]] 5 ?_ (fun _=>?_)
 ·rcases Bool.eq_false_or_eq_true zdD with hb' | hb'
  ·have zoH:=hb'; clear hb'
   refine WL.pin (i:=6) rfl zoH ?_
   refine WL.a (d:=7) rfl rfl rfl (y3 y5S rfl rfl) ?_
   refine WL.a (d:=8) rfl rfl rfl (y3 y1Q rfl rfl) ?_
   refine WL.a (d:=9) rfl rfl rfl (ya yw rfl (yv .here rfl)) ?_
   refine WL.a (d:=10) rfl rfl rfl (y2F rfl rfl) ?_
   refine WL.a (d:=11) rfl rfl rfl (ys rfl rfl) ?_
   exact WL.y9 () trivial (.cons rfl (.cons rfl (.cons (zr (y4E zoH)) .nil))) (.cons .here .nil)
  ·have zoI:=hb'; clear hb'
   refine WL.pin (i:=6) rfl zoI ?_
   refine WL.e rfl rfl rfl ?_
   refine WL.e rfl rfl rfl ?_
   refine WL.e rfl rfl rfl ?_
   refine WL.e rfl rfl rfl ?_
   refine WL.a (d:=11) rfl rfl rfl (yr rfl rfl) ?_
   exact WL.y9 () trivial (.cons rfl (.cons rfl (.cons (zr (y4D zoI)) .nil))) (.cons .here .nil)
 ·skip
  refine WL.a (d:=12) rfl rfl rfl (q_m rfl) ?_
  refine WL.yN True [(1,(.pointer (some ⟨z82,0,none⟩))),(2,(.bool false)),(16,(.bool zfk))] [stb z82 43 [(.int .i64 z10.fR.fN),(.int .i64 z10.fR.fD),(.int .i64 z10.fLatency.fN),(.int .i64 z10.fLatency.fD)]] 4 ?_ (fun _=>?_)
  ·rcases Bool.eq_false_or_eq_true (zdD && (decide (z10.fR.fN > 0))) with hb' | hb'
   ·have zoJ:=hb'; clear hb'
    have zfl:=yh zoG zoJ
    obtain ⟨zjT,zsY,zfl⟩:=ze zfl
    replace zfl:=Option.some.inj zfl
    refine WL.pin (i:=12) rfl zoJ ?_
    refine WL.a (d:=13) rfl rfl rfl (y3 y5T rfl rfl) ?_
    refine WL.a (d:=14) rfl rfl rfl (y4 (cs:=[(.int .i64 z10.fLatency.fN),(.int .i64 z10.fLatency.fD)]) y5 rfl rfl (y1U (s:=2) .here rfl)) ?_
    refine WL.b (dd:=15) rfl rfl rfl (zj (l:=[.tmp 14]) Try.call39 (.cons rfl .nil)) (.nil : Sel [stb z82 43 [(.int .i64 z10.fR.fN),(.int .i64 z10.fR.fD),(.int .i64 z10.fLatency.fN),(.int .i64 z10.fLatency.fD)]] [] [stb z82 43 [(.int .i64 z10.fR.fN),(.int .i64 z10.fR.fD),(.int .i64 z10.fLatency.fN),(.int .i64 z10.fLatency.fD)]]) (fun w hw=>by have pz:=(hz.call hw (.nil : Sel [stb z82 43 [(.int .i64 z10.fR.fN),(.int .i64 z10.fR.fD),(.int .i64 z10.fLatency.fN),(.int .i64 z10.fLatency.fD)]] [] [stb z82 43 [(.int .i64 z10.fR.fN),(.int .i64 z10.fR.fD),(.int .i64 z10.fLatency.fN),(.int .i64 z10.fLatency.fD)]])); exact y1G (Z:=_)  (z1b:=z10.fLatency) (r:=zjT) w pz  zsY) ?_
    refine WL.a (d:=16) rfl rfl rfl (ys rfl rfl) ?_
    exact WL.y9 () trivial (.cons rfl (.cons rfl (.cons (zr zfl) .nil))) (.cons .here .nil)
   ·have zoK:=hb'; clear hb'
    have zjU:=yi zoG zoK
    replace zjU:=Option.some.inj zjU
    refine WL.pin (i:=12) rfl zoK ?_
    refine WL.e rfl rfl rfl ?_
    refine WL.e rfl rfl rfl ?_
    refine WL.e rfl rfl rfl ?_
    refine WL.a (d:=16) rfl rfl rfl (yr rfl rfl) ?_
    exact WL.y9 () trivial (.cons rfl (.cons rfl (.cons (zr zjU) .nil))) (.cons .here .nil)
  ·skip
   refine WL.a (d:=17) rfl rfl rfl (q_m rfl) ?_
   refine WL.yN True [(2,(.bool false)),(22,(.bool (zfk && (decide (z10.fLatency.fN ≥ 0)))))] [stb z82 43 [(.int .i64 z10.fR.fN),(.int .i64 z10.fR.fD),(.int .i64 z10.fLatency.fN),(.int .i64 z10.fLatency.fD)]] 5 ?_ (fun _=>?_)
   ·rcases Bool.eq_false_or_eq_true zfk with hb' | hb'
    ·have zoL:=hb'; clear hb'
     refine WL.pin (i:=17) rfl zoL ?_
     refine WL.a (d:=18) rfl rfl rfl (y3 y5T rfl rfl) ?_
     refine WL.a (d:=19) rfl rfl rfl (y3 y1Q rfl rfl) ?_
     refine WL.a (d:=20) rfl rfl rfl (ya yw rfl (yv .here rfl)) ?_
     refine WL.a (d:=21) rfl rfl rfl (y6l rfl rfl) ?_
     refine WL.a (d:=22) rfl rfl rfl (ys rfl rfl) ?_
     exact WL.y9 () trivial (.cons rfl (.cons (zr (y4E zoL)) .nil)) (.cons .here .nil)
    ·have zoM:=hb'; clear hb'
     refine WL.pin (i:=17) rfl zoM ?_
     refine WL.e rfl rfl rfl ?_
     refine WL.e rfl rfl rfl ?_
     refine WL.e rfl rfl rfl ?_
     refine WL.e rfl rfl rfl ?_
     refine WL.a (d:=22) rfl rfl rfl (yr rfl rfl) ?_
     exact WL.y9 () trivial (.cons rfl (.cons (zr (y4D zoM)) .nil)) (.cons .here .nil)
   ·skip
    refine WL.a (d:=2) rfl rfl rfl (q_z rfl) ?_
    refine WL.nil ?_
    refine WX.a ?_
    refine WC.ret ?_
    obtain rfl:=Option.some.inj h
    refine WX.y7 Try.results47 (.tmp rfl .nil) (fun w hw=>?_)
    exact ⟨yD rfl,hw.sub .nil⟩
def y1k (z6g : Int) : Option z7 :=
 some (⟨z6g,1⟩ : z7)
set_option maxRecDepth 20000 in
theorem y1S (Z : Zp)   (z6g : Int) (r : z7) (w₀ : World) (hz : PZ [] w₀ Z)
  (h : y1k z6g = some r) :
  Calls Try.prog 65 #[(.int .i64 z6g)] w₀ fun e w'=>e = .returned (.agg #[(.int .i64 r.fN),(.int .i64 r.fD)]) ∧ Hp [] w₀ w' []:=by
 unfold y1k at h
 refine Calls.yd (vs:=[(.int .i64 z6g)]) (pre:=[]) (env:=[(0,(.int .i64 z6g))]) Try.func65 rfl Try.ntmps65 rfl (Hp.nil w₀ _) rfl ?_
 refine WC.b ?_
 refine WC.a ?_
 refine WL.new (dd:=2) rfl rfl rfl (ym (cs:=[(.int .i64 0),(.int .i64 0)]) yt rfl) ?_
 intro zAI _
 refine WL.nil ?_
 refine WX.a ?_
 refine WC.b ?_
 refine WC.a ?_
 refine WL.a (d:=3) rfl rfl rfl (q_m rfl) ?_
 refine WL.a (d:=4) rfl rfl rfl (y1g (v:=(.agg #[(.int .i64 z6g),(.int .i64 1)])) (Eos.parts (l:=[.tmp 3,.const (.int .i64 1)]) (.cons rfl (.cons rfl .nil)) [0,1]) (fun _=>by kernel_rfl)) ?_
 refine WL.yb rfl rfl (yc (vs:=[(.int .i64 z6g),(.int .i64 1)]) (ds:=[(.int .i64 z6g),(.int .i64 1)]) yo rfl rfl rfl rfl (y2 rfl (y2 rfl yk)) .here (Nat.le_of_ble_eq_true rfl) rfl) ?_
 refine WL.nil ?_
 refine WX.a ?_
 refine WC.ret ?_
 obtain rfl:=Option.some.inj h
 refine WX.y7 Try.results65 (.agg rfl y5 rfl (y8 .here) .nil) (fun w hw=>?_)
 exact ⟨yD rfl,hw.sub .nil⟩
def y1L  : Option z7 :=
 (y1k 0).bind fun zci=>some zci
set_option maxRecDepth 20000 in
theorem y2y (Z : Zp)    (r : z7) (w₀ : World) (hz : PZ [] w₀ Z)
  (h : y1L  = some r) :
  Calls Try.prog 51 #[] w₀ fun e w'=>e = .returned (.agg #[(.int .i64 r.fN),(.int .i64 r.fD)]) ∧ Hp [] w₀ w' []:=by
 unfold y1L at h
 refine Calls.yd (vs:=[]) (pre:=[]) (env:=[]) Try.func51 rfl Try.ntmps51 rfl (Hp.nil w₀ _) rfl ?_
 refine WC.b ?_
 refine WC.a ?_
 refine WL.new (dd:=0) rfl rfl rfl (ym (cs:=[(.int .i64 0),(.int .i64 0)]) yt rfl) ?_
 intro zh6 _
 refine WL.nil ?_
 refine WX.a ?_
 refine WC.b ?_
 obtain ⟨zci,zsZ,h⟩:=ze h
 refine WC.a ?_
 refine WL.b (dd:=1) rfl rfl rfl (zj (l:=[.const (.int .i64 0)]) Try.call65 (.cons rfl .nil)) (.nil : Sel [stb zh6 30 [(.int .i64 0),(.int .i64 0)]] [] [stb zh6 30 [(.int .i64 0),(.int .i64 0)]]) (fun w hw=>by have pz:=(hz.call hw (.nil : Sel [stb zh6 30 [(.int .i64 0),(.int .i64 0)]] [] [stb zh6 30 [(.int .i64 0),(.int .i64 0)]])); exact y1S (Z:=_)  (z6g:=0) (r:=zci) w pz  zsZ) ?_
 refine WL.yb rfl rfl (yc (vs:=[(.int .i64 zci.fN),(.int .i64 zci.fD)]) (ds:=[(.int .i64 zci.fN),(.int .i64 zci.fD)]) yo rfl rfl rfl rfl (y2 rfl (y2 rfl yk)) .here (Nat.le_of_ble_eq_true rfl) rfl) ?_
 refine WL.nil ?_
 refine WX.a ?_
 refine WC.ret ?_
 obtain rfl:=Option.some.inj h
 refine WX.y7 Try.results51 (.agg rfl y5 rfl (y8 .here) .nil) (fun w hw=>?_)
 exact ⟨yD rfl,hw.sub .nil⟩
def yT (z3L : List z6) (z3e : z6) (za9 : Option Int) : Nat → Int → Option Int
 | 0,_=>none
 | zjV + 1,z48=>if decide (z48 < ((z3L.length : Nat) : Int)) then chk ((0 : Int) ≤ z48 ∧ z48 < ((z3L.length : Nat) : Int)) (if decide (z3e = (⟨(⟨(((nth z3L z48).fB).fN),(((nth z3L z48).fB).fD)⟩ : z7),(⟨(((nth z3L z48).fR).fN),(((nth z3L z48).fR).fD)⟩ : z7)⟩ : z6)) then some z48 else yT z3L z3e za9 zjV (i64 (z48 + 1))) else za9
theorem y3s {n : Nat} {z3L : List z6} {z3e : z6} {za9 : Option Int} {z48 : Int} {r : Int} (h : yT z3L z3e za9 n z48 = some r) : ∃ m,n = m + 1:=by
 cases n with
 | zero=>cases h
 | succ m=>exact ⟨m,rfl⟩
def y2c (z3L : List z6) (z3e : z6) : Option Int :=
 jp0 (some (-1)) fun za9=>yT z3L z3e za9 yu 0
set_option maxRecDepth 20000 in
theorem y4l (Z : Zp)  (zdE : Option Addr) (zdF : Nat) (z3L : List z6) (z3e : z6) (r : Int) (w₀ : World) (hz : PZ [] w₀ Z)
  (zt0 : ZS Z 4 (fun r x=>r = e35 x) zdE zdF z3L)
  (h : y2c z3L z3e = some r) :
  Calls Try.prog 72 #[(.slice zdE z3L.length zdF),(.agg #[(.int .i64 z3e.fB.fN),(.int .i64 z3e.fB.fD),(.int .i64 z3e.fR.fN),(.int .i64 z3e.fR.fD)])] w₀ fun e w'=>e = .returned (.int .i64 r) ∧ Hp [] w₀ w' []:=by
 unfold y2c at h
 refine Calls.yd (vs:=[(.slice zdE z3L.length zdF),(.agg #[(.int .i64 z3e.fB.fN),(.int .i64 z3e.fB.fD),(.int .i64 z3e.fR.fN),(.int .i64 z3e.fR.fD)])]) (pre:=[]) (env:=[(0,(.slice zdE z3L.length zdF)),(1,(.agg #[(.int .i64 z3e.fB.fN),(.int .i64 z3e.fB.fD),(.int .i64 z3e.fR.fN),(.int .i64 z3e.fR.fD)]))]) Try.func72 rfl Try.ntmps72 rfl (Hp.nil w₀ _) rfl ?_
 refine WC.b ?_
 refine WC.a ?_
 refine WL.new (dd:=3) rfl rfl rfl (yI (cs:=[(.int .i64 z3e.fB.fN),(.int .i64 z3e.fB.fD),(.int .i64 z3e.fR.fN),(.int .i64 z3e.fR.fD)]) rfl rfl) ?_
 intro zoN _
 refine WL.a (d:=4) rfl rfl rfl (q_z rfl) ?_
 refine WL.nil ?_
 refine WX.a ?_
 obtain ⟨za9,zt1,h⟩:=y3I h
 refine WC.y4h ((za9 = some r)) ([]) ([]) ?_ ?_
 ·skip
  refine WC.b ?_
  refine WC.a ?_
  refine WL.a (d:=6) rfl rfl rfl (q_m rfl) ?_
  refine WL.a (d:=7) rfl rfl rfl (y10 Try.underlying39 rfl) ?_
  refine WL.a (d:=8) rfl rfl rfl (q_m rfl) ?_
  refine WL.nil ?_
  refine WX.a ?_
  refine WC.block ?_
  refine WC.y60 (fun (zdG : Nat) (z48 : Int)=>(yT z3L z3e za9 zdG z48 = some r)) (fun (zdG : Nat) (z48 : Int)=>[(0,(.slice zdE z3L.length zdF)),(3,(.pointer (some ⟨zoN,0,none⟩))),(7,(.int .i64 ((z3L.length : Nat) : Int))),(8,(.int .i64 z48))]) (fun (zdG : Nat) (z48 : Int)=>[stb zoN 35 [(.int .i64 z3e.fB.fN),(.int .i64 z3e.fB.fD),(.int .i64 z3e.fR.fN),(.int .i64 z3e.fR.fD)]]) (fun (zdG : Nat) (z48 : Int)=>zdG) ⟨yu,0⟩ h (.cons rfl (.cons rfl (.cons rfl (.cons rfl .nil)))) (.cons .here .nil) ?_
  rintro zdG z48 h
  obtain ⟨zjV,rfl⟩:=y3s h
  rw [yT] at h
  refine WC.b ?_
  refine WC.a ?_
  refine WL.a (d:=9) rfl rfl rfl (y1c rfl rfl) ?_
  refine WL.nil ?_
  refine WX.a ?_
  refine WC.b ?_
  refine WC.cond rfl (fun zjW=>?_) (fun zjW=>?_)
  ·replace h:=yh h zjW
   refine WC.skip ?_
   refine WX.a ?_
   refine WC.b ?_
   refine WC.block ?_
   refine WC.b ?_
   refine WC.a ?_
   refine WL.a (d:=10) rfl rfl rfl (q_m rfl) ?_
   refine WL.a (d:=5) rfl rfl rfl (q_z rfl) ?_
   refine WL.nil ?_
   refine WX.a ?_
   refine WC.b ?_
   obtain ⟨zt2,h⟩:=yl h
   refine WC.yY (fun i=>[].contains i) [] rfl ?_
   refine WD.e (i:=0) (d:=11) (by kernel_rfl) rfl (z8 (by kernel_rfl)) (za (by kernel_rfl)) rfl rfl rfl (y4 (cs:=[(.int .i64 z3e.fB.fN),(.int .i64 z3e.fB.fD),(.int .i64 z3e.fR.fN),(.int .i64 z3e.fR.fD)]) y1D rfl rfl (y8 .here)) ?_
   refine WD.a (i:=1) (d:=12) (by kernel_rfl) rfl (z8 (by kernel_rfl)) (za (by kernel_rfl)) rfl rfl rfl (fun _=>q_m rfl) ?_
   refine WD.a (i:=2) (d:=13) (by kernel_rfl) rfl (z8 (by kernel_rfl)) (za (by kernel_rfl)) rfl rfl rfl (fun _=>q_m rfl) ?_
   refine WD.znth (j:=3) (dd:=14) (by kernel_rfl) rfl (z8 (by kernel_rfl)) (za (by kernel_rfl)) rfl rfl (Z:=Z) (Pr:=(fun r x=>r = e35 x)) y2w rfl rfl zt0 zt2 ?_
   rintro zAJ zAK zt3 zAL rfl
   refine WD.e (i:=4) (d:=15) (by kernel_rfl) rfl (z8 (by kernel_rfl)) (za (by kernel_rfl)) rfl rfl rfl (y4 (cs:=[(.int .i64 (((nth z3L z48).fB).fN)),(.int .i64 (((nth z3L z48).fB).fD)),(.int .i64 (((nth z3L z48).fR).fN)),(.int .i64 (((nth z3L z48).fR).fD))]) y1D rfl rfl (y2P hz.pv zt3)) ?_
   refine WD.a (i:=5) (d:=16) (by kernel_rfl) rfl (z8 (by kernel_rfl)) (za (by kernel_rfl)) rfl rfl rfl (fun _=>y61 (enc:=e35) (a:=z3e) (b:=(⟨(⟨(((nth z3L z48).fB).fN),(((nth z3L z48).fB).fD)⟩ : z7),(⟨(((nth z3L z48).fR).fN),(((nth z3L z48).fR).fD)⟩ : z7)⟩ : z6)) eqT_35 rfl rfl) ?_
   refine WD.done (by kernel_rfl) ?_
   refine WX.a ?_
   refine WC.cond rfl (fun zjX=>?_) (fun zjX=>?_)
   ·replace h:=yh h zjX
    refine WC.b ?_
    refine WC.a ?_
    refine WL.a (d:=17) rfl rfl rfl (q_m rfl) ?_
    refine WL.a (d:=4) rfl rfl rfl (q_z rfl) ?_
    refine WL.nil ?_
    refine WX.a ?_
    refine WC.ret ?_
    refine WX.yq ?_
    refine WX.y6 ?_
    refine WX.y6 ?_
    refine WX.yq ?_
    refine WX.y6 ?_
    obtain rfl:=Option.some.inj h
    refine WX.y7 Try.results72 (.tmp rfl .nil) (fun w hw=>?_)
    exact ⟨yD rfl,hw.sub .nil⟩
   ·replace h:=yi h zjX
    refine WC.skip ?_
    refine WX.yg ?_
    refine WX.a ?_
    refine WC.a ?_
    refine WL.a (d:=18) rfl rfl rfl (yW rfl rfl rfl) ?_
    refine WL.a (d:=8) rfl rfl rfl (q_m rfl) ?_
    refine WL.nil ?_
    exact WX.round (G:=Nat × Int) ⟨zjV,(i64 (z48 + 1))⟩ h (Nat.lt_succ_self _) (.cons rfl (.cons rfl (.cons rfl (.cons rfl .nil)))) (.cons .here .nil)
  ·replace h:=yi h zjW
   refine WC.exit ?_
   refine WX.ye ?_
   refine WX.ye ?_
   refine WX.yx ?_
   exact WX.mid (G:=Unit) () h .nil .nil
 ·rintro  h
  replace h:=zt1.symm.trans h
  refine WC.b ?_
  refine WC.a ?_
  refine WL.a (d:=4) rfl rfl rfl (q_z rfl) ?_
  refine WL.nil ?_
  refine WX.a ?_
  refine WC.ret ?_
  obtain rfl:=Option.some.inj h
  refine WX.y7 Try.results72 (.tmp rfl .nil) (fun w hw=>?_)
  exact ⟨yD rfl,hw.sub .nil⟩
def y1y (zaa : List z6) (z2B : z6) : Option Bool :=
 (y2c zaa z2B).bind fun zjY=>some (decide (zjY ≥ 0))
set_option maxRecDepth 20000 in
theorem y41 (Z : Zp)  (zdH : Option Addr) (zdI : Nat) (zaa : List z6) (z2B : z6) (r : Bool) (w₀ : World) (hz : PZ [] w₀ Z)
  (zt4 : ZS Z 4 (fun r x=>r = e35 x) zdH zdI zaa)
  (h : y1y zaa z2B = some r) :
  Calls Try.prog 59 #[(.slice zdH zaa.length zdI),(.agg #[(.int .i64 z2B.fB.fN),(.int .i64 z2B.fB.fD),(.int .i64 z2B.fR.fN),(.int .i64 z2B.fR.fD)])] w₀ fun e w'=>e = .returned (.bool r) ∧ Hp [] w₀ w' []:=by
 unfold y1y at h
 refine Calls.yd (vs:=[(.slice zdH zaa.length zdI),(.agg #[(.int .i64 z2B.fB.fN),(.int .i64 z2B.fB.fD),(.int .i64 z2B.fR.fN),(.int .i64 z2B.fR.fD)])]) (pre:=[]) (env:=[(0,(.slice zdH zaa.length zdI)),(1,(.agg #[(.int .i64 z2B.fB.fN),(.int .i64 z2B.fB.fD),(.int .i64 z2B.fR.fN),(.int .i64 z2B.fR.fD)]))]) Try.func59 rfl Try.ntmps59 rfl (Hp.nil w₀ _) rfl ?_
 refine WC.b ?_
 refine WC.a ?_
 refine WL.new (dd:=3) rfl rfl rfl (yI (cs:=[(.int .i64 z2B.fB.fN),(.int .i64 z2B.fB.fD),(.int .i64 z2B.fR.fN),(.int .i64 z2B.fR.fD)]) rfl rfl) ?_
 intro zh7 _
 refine WL.a (d:=4) rfl rfl rfl (q_z rfl) ?_
 refine WL.nil ?_
 refine WX.a ?_
 refine WC.b ?_
 obtain ⟨zjY,zt5,h⟩:=ze h
 refine WC.a ?_
 refine WL.a (d:=5) rfl rfl rfl (q_m rfl) ?_
 refine WL.a (d:=6) rfl rfl rfl (y4 (cs:=[(.int .i64 z2B.fB.fN),(.int .i64 z2B.fB.fD),(.int .i64 z2B.fR.fN),(.int .i64 z2B.fR.fD)]) y1D rfl rfl (y8 .here)) ?_
 refine WL.b (dd:=7) rfl rfl rfl (zj (l:=[.tmp 5,.tmp 6]) Try.call72 (.cons rfl (.cons rfl .nil))) (.nil : Sel [stb zh7 35 [(.int .i64 z2B.fB.fN),(.int .i64 z2B.fB.fD),(.int .i64 z2B.fR.fN),(.int .i64 z2B.fR.fD)]] [] [stb zh7 35 [(.int .i64 z2B.fB.fN),(.int .i64 z2B.fB.fD),(.int .i64 z2B.fR.fN),(.int .i64 z2B.fR.fD)]]) (fun w hw=>by have pz:=(hz.call hw (.nil : Sel [stb zh7 35 [(.int .i64 z2B.fB.fN),(.int .i64 z2B.fB.fD),(.int .i64 z2B.fR.fN),(.int .i64 z2B.fR.fD)]] [] [stb zh7 35 [(.int .i64 z2B.fB.fN),(.int .i64 z2B.fB.fD),(.int .i64 z2B.fR.fN),(.int .i64 z2B.fR.fD)]])); exact y4l (Z:=_) (zdE:=zdH) (zdF:=zdI) (z3L:=zaa) (z3e:=z2B) (r:=zjY) w pz zt4 zt5) ?_
 refine WL.a (d:=8) rfl rfl rfl (y6l rfl rfl) ?_
 refine WL.a (d:=4) rfl rfl rfl (q_z rfl) ?_
 refine WL.nil ?_
 refine WX.a ?_
 refine WC.ret ?_
 obtain rfl:=Option.some.inj h
 refine WX.y7 Try.results59 (.tmp rfl .nil) (fun w hw=>?_)
 exact ⟨yD rfl,hw.sub .nil⟩
def yV (z29 : z7) (z2a : z7) : Option Int :=
 (y1f z29).bind fun zh8=>(if !zh8 then some true else (y1f z2a).bind fun zjZ=>some (!zjZ)).bind fun zk0=>if zk0 then some 0 else if decide ((i64 (z29.fN * z2a.fD)) < (i64 (z2a.fN * z29.fD))) then some (-1) else if decide ((i64 (z29.fN * z2a.fD)) > (i64 (z2a.fN * z29.fD))) then some 1 else some 0
set_option maxRecDepth 20000 in
theorem y26 (Z : Zp)   (z29 : z7) (z2a : z7) (r : Int) (w₀ : World) (hz : PZ [] w₀ Z)
  (h : yV z29 z2a = some r) :
  Calls Try.prog 18 #[(.agg #[(.int .i64 z29.fN),(.int .i64 z29.fD)]),(.agg #[(.int .i64 z2a.fN),(.int .i64 z2a.fD)])] w₀ fun e w'=>e = .returned (.int .i64 r) ∧ Hp [] w₀ w' []:=by
 unfold yV at h
 refine Calls.yd (vs:=[(.agg #[(.int .i64 z29.fN),(.int .i64 z29.fD)]),(.agg #[(.int .i64 z2a.fN),(.int .i64 z2a.fD)])]) (pre:=[]) (env:=[(0,(.agg #[(.int .i64 z29.fN),(.int .i64 z29.fD)])),(1,(.agg #[(.int .i64 z2a.fN),(.int .i64 z2a.fD)]))]) Try.func18 rfl Try.ntmps18 rfl (Hp.nil w₀ _) rfl ?_
 refine WC.b ?_
 refine WC.a ?_
 refine WL.new (dd:=2) rfl rfl rfl (yI (cs:=[(.int .i64 z29.fN),(.int .i64 z29.fD)]) rfl rfl) ?_
 intro z9m _
 refine WL.new (dd:=3) rfl rfl rfl (yI (cs:=[(.int .i64 z2a.fN),(.int .i64 z2a.fD)]) rfl rfl) ?_
 intro z9n _
 refine WL.a (d:=4) rfl rfl rfl (q_z rfl) ?_
 refine WL.nil ?_
 refine WX.a ?_
 refine WC.b ?_
 refine WC.b ?_
 obtain ⟨zh8,zt6,h⟩:=ze h
 obtain ⟨zk0,zoO,h⟩:=ze h
 refine WC.a ?_
 refine WL.a (d:=7) rfl rfl rfl (y4 (cs:=[(.int .i64 z29.fN),(.int .i64 z29.fD)]) y5 rfl rfl (y8 .h1)) ?_
 refine WL.b (dd:=8) rfl rfl rfl (zj (l:=[.tmp 7]) Try.call39 (.cons rfl .nil)) (.nil : Sel [stb z9n 30 [(.int .i64 z2a.fN),(.int .i64 z2a.fD)],stb z9m 30 [(.int .i64 z29.fN),(.int .i64 z29.fD)]] [] [stb z9n 30 [(.int .i64 z2a.fN),(.int .i64 z2a.fD)],stb z9m 30 [(.int .i64 z29.fN),(.int .i64 z29.fD)]]) (fun w hw=>by have pz:=(hz.call hw (.nil : Sel [stb z9n 30 [(.int .i64 z2a.fN),(.int .i64 z2a.fD)],stb z9m 30 [(.int .i64 z29.fN),(.int .i64 z29.fD)]] [] [stb z9n 30 [(.int .i64 z2a.fN),(.int .i64 z2a.fD)],stb z9m 30 [(.int .i64 z29.fN),(.int .i64 z29.fD)]])); exact y1G (Z:=_)  (z1b:=z29) (r:=zh8) w pz  zt6) ?_
 refine WL.a (d:=9) rfl rfl rfl (y1m rfl) ?_
 refine WL.a (d:=10) rfl rfl rfl (q_m rfl) ?_
 refine WL.yN True [(2,(.pointer (some ⟨z9m,0,none⟩))),(3,(.pointer (some ⟨z9n,0,none⟩))),(14,(.bool zk0))] [stb z9n 30 [(.int .i64 z2a.fN),(.int .i64 z2a.fD)],stb z9m 30 [(.int .i64 z29.fN),(.int .i64 z29.fD)]] 4 ?_ (fun _=>?_)
 ·rcases Bool.eq_false_or_eq_true (!zh8) with hb' | hb'
  ·have zoP:=hb'; clear hb'
   have zk1:=yh zoO zoP
   replace zk1:=Option.some.inj zk1
   refine WL.pin (i:=10) rfl zoP ?_
   refine WL.e rfl rfl rfl ?_
   refine WL.e rfl rfl rfl ?_
   refine WL.e rfl rfl rfl ?_
   refine WL.a (d:=14) rfl rfl rfl (ys rfl rfl) ?_
   exact WL.y9 () trivial (.cons rfl (.cons rfl (.cons (zr zk1) .nil))) (.cons .here (.cons .here .nil))
  ·have zoQ:=hb'; clear hb'
   have zfm:=yi zoO zoQ
   obtain ⟨zjZ,zt7,zfm⟩:=ze zfm
   replace zfm:=Option.some.inj zfm
   refine WL.pin (i:=10) rfl zoQ ?_
   refine WL.a (d:=11) rfl rfl rfl (y4 (cs:=[(.int .i64 z2a.fN),(.int .i64 z2a.fD)]) y5 rfl rfl (y8 .here)) ?_
   refine WL.b (dd:=12) rfl rfl rfl (zj (l:=[.tmp 11]) Try.call39 (.cons rfl .nil)) (.nil : Sel [stb z9n 30 [(.int .i64 z2a.fN),(.int .i64 z2a.fD)],stb z9m 30 [(.int .i64 z29.fN),(.int .i64 z29.fD)]] [] [stb z9n 30 [(.int .i64 z2a.fN),(.int .i64 z2a.fD)],stb z9m 30 [(.int .i64 z29.fN),(.int .i64 z29.fD)]]) (fun w hw=>by have pz:=(hz.call hw (.nil : Sel [stb z9n 30 [(.int .i64 z2a.fN),(.int .i64 z2a.fD)],stb z9m 30 [(.int .i64 z29.fN),(.int .i64 z29.fD)]] [] [stb z9n 30 [(.int .i64 z2a.fN),(.int .i64 z2a.fD)],stb z9m 30 [(.int .i64 z29.fN),(.int .i64 z29.fD)]])); exact y1G (Z:=_)  (z1b:=z2a) (r:=zjZ) w pz  zt7) ?_
   refine WL.a (d:=13) rfl rfl rfl (y1m rfl) ?_
   refine WL.a (d:=14) rfl rfl rfl (yr rfl rfl) ?_
   exact WL.y9 () trivial (.cons rfl (.cons rfl (.cons (zr zfm) .nil))) (.cons .here (.cons .here .nil))
 ·skip
  refine WL.nil ?_
  refine WX.a ?_
  refine WC.cond rfl (fun zk2=>?_) (fun zk2=>?_)
  ·replace h:=yh h zk2
   refine WC.b ?_
   refine WC.a ?_
   refine WL.a (d:=4) rfl rfl rfl (q_z rfl) ?_
   refine WL.nil ?_
   refine WX.a ?_
   refine WC.ret ?_
   refine WX.y6 ?_
   obtain rfl:=Option.some.inj h
   refine WX.y7 Try.results18 (.tmp rfl .nil) (fun w hw=>?_)
   exact ⟨yD rfl,hw.sub .nil⟩
  ·replace h:=yi h zk2
   refine WC.skip ?_
   refine WX.a ?_
   refine WC.b ?_
   refine WC.b ?_
   refine WC.yY (fun i=>[].contains i) [] rfl ?_
   refine WD.a (i:=0) (d:=15) (by kernel_rfl) rfl (z8 (by kernel_rfl)) (za (by kernel_rfl)) rfl rfl rfl (fun _=>y3 y1Q rfl rfl) ?_
   refine WD.e (i:=1) (d:=16) (by kernel_rfl) rfl (z8 (by kernel_rfl)) (za (by kernel_rfl)) rfl rfl rfl (ya yw rfl (yv .h1 rfl)) ?_
   refine WD.a (i:=2) (d:=17) (by kernel_rfl) rfl (z8 (by kernel_rfl)) (za (by kernel_rfl)) rfl rfl rfl (fun _=>y3 y24 rfl rfl) ?_
   refine WD.e (i:=3) (d:=18) (by kernel_rfl) rfl (z8 (by kernel_rfl)) (za (by kernel_rfl)) rfl rfl rfl (ya yw rfl (yv .here rfl)) ?_
   refine WD.a (i:=4) (d:=19) (by kernel_rfl) rfl (z8 (by kernel_rfl)) (za (by kernel_rfl)) rfl rfl rfl (fun _=>y3t rfl rfl rfl) ?_
   refine WD.a (i:=5) (d:=20) (by kernel_rfl) rfl (z8 (by kernel_rfl)) (za (by kernel_rfl)) rfl rfl rfl (fun _=>y3 y1Q rfl rfl) ?_
   refine WD.e (i:=6) (d:=21) (by kernel_rfl) rfl (z8 (by kernel_rfl)) (za (by kernel_rfl)) rfl rfl rfl (ya yw rfl (yv .here rfl)) ?_
   refine WD.a (i:=7) (d:=22) (by kernel_rfl) rfl (z8 (by kernel_rfl)) (za (by kernel_rfl)) rfl rfl rfl (fun _=>y3 y24 rfl rfl) ?_
   refine WD.e (i:=8) (d:=23) (by kernel_rfl) rfl (z8 (by kernel_rfl)) (za (by kernel_rfl)) rfl rfl rfl (ya yw rfl (yv .h1 rfl)) ?_
   refine WD.a (i:=9) (d:=24) (by kernel_rfl) rfl (z8 (by kernel_rfl)) (za (by kernel_rfl)) rfl rfl rfl (fun _=>y3t rfl rfl rfl) ?_
   refine WD.a (i:=10) (d:=5) (by kernel_rfl) rfl (z8 (by kernel_rfl)) (za (by kernel_rfl)) rfl rfl rfl (fun _=>q_z rfl) ?_
   refine WD.a (i:=11) (d:=6) (by kernel_rfl) rfl (z8 (by kernel_rfl)) (za (by kernel_rfl)) rfl rfl rfl (fun _=>q_z rfl) ?_
   refine WD.done (by kernel_rfl) ?_
   refine WX.a ?_
   refine WC.block ?_
   refine WC.b ?_
   refine WC.a ?_
   refine WL.a (d:=26) rfl rfl rfl (q_m rfl) ?_
   refine WL.a (d:=27) rfl rfl rfl (q_m rfl) ?_
   refine WL.a (d:=28) rfl rfl rfl (y1c rfl rfl) ?_
   refine WL.a (d:=25) rfl rfl rfl (q_z rfl) ?_
   refine WL.nil ?_
   refine WX.a ?_
   refine WC.cond rfl (fun zk3=>?_) (fun zk3=>?_)
   ·replace h:=yh h zk3
    refine WC.b ?_
    refine WC.a ?_
    refine WL.a (d:=4) rfl rfl rfl (q_z rfl) ?_
    refine WL.nil ?_
    refine WX.a ?_
    refine WC.ret ?_
    refine WX.yq ?_
    refine WX.y6 ?_
    obtain rfl:=Option.some.inj h
    refine WX.y7 Try.results18 (.tmp rfl .nil) (fun w hw=>?_)
    exact ⟨yD rfl,hw.sub .nil⟩
   ·replace h:=yi h zk3
    refine WC.b ?_
    refine WC.a ?_
    refine WL.a (d:=30) rfl rfl rfl (q_m rfl) ?_
    refine WL.a (d:=31) rfl rfl rfl (q_m rfl) ?_
    refine WL.a (d:=32) rfl rfl rfl (y2F rfl rfl) ?_
    refine WL.a (d:=29) rfl rfl rfl (q_z rfl) ?_
    refine WL.nil ?_
    refine WX.a ?_
    refine WC.cond rfl (fun zk4=>?_) (fun zk4=>?_)
    ·replace h:=yh h zk4
     refine WC.b ?_
     refine WC.a ?_
     refine WL.a (d:=4) rfl rfl rfl (q_z rfl) ?_
     refine WL.nil ?_
     refine WX.a ?_
     refine WC.ret ?_
     refine WX.yq ?_
     refine WX.y6 ?_
     obtain rfl:=Option.some.inj h
     refine WX.y7 Try.results18 (.tmp rfl .nil) (fun w hw=>?_)
     exact ⟨yD rfl,hw.sub .nil⟩
    ·replace h:=yi h zk4
     refine WC.skip ?_
     refine WX.yg ?_
     refine WX.a ?_
     refine WC.b ?_
     refine WC.a ?_
     refine WL.a (d:=4) rfl rfl rfl (q_z rfl) ?_
     refine WL.nil ?_
     refine WX.a ?_
     refine WC.ret ?_
     obtain rfl:=Option.some.inj h
     refine WX.y7 Try.results18 (.tmp rfl .nil) (fun w hw=>?_)
     exact ⟨yD rfl,hw.sub .nil⟩
def y33 (z1c : z6) (z1d : z6) : Option Bool :=
 (if decide (z1c ≠ z1d) then (yV z1c.fB z1d.fB).bind fun zk5=>some (decide (zk5 ≤ 0)) else some false).bind fun zh9=>(if zh9 then (yV z1c.fR z1d.fR).bind fun zk6=>some (decide (zk6 ≤ 0)) else some false).bind fun zk7=>some zk7
set_option maxRecDepth 20000 in
theorem y7F (Z : Zp)   (z1c : z6) (z1d : z6) (r : Bool) (w₀ : World) (hz : PZ [] w₀ Z)
  (h : y33 z1c z1d = some r) :
  Calls Try.prog 61 #[(.agg #[(.int .i64 z1c.fB.fN),(.int .i64 z1c.fB.fD),(.int .i64 z1c.fR.fN),(.int .i64 z1c.fR.fD)]),(.agg #[(.int .i64 z1d.fB.fN),(.int .i64 z1d.fB.fD),(.int .i64 z1d.fR.fN),(.int .i64 z1d.fR.fD)])] w₀ fun e w'=>e = .returned (.bool r) ∧ Hp [] w₀ w' []:=by
 unfold y33 at h
 refine Calls.yd (vs:=[(.agg #[(.int .i64 z1c.fB.fN),(.int .i64 z1c.fB.fD),(.int .i64 z1c.fR.fN),(.int .i64 z1c.fR.fD)]),(.agg #[(.int .i64 z1d.fB.fN),(.int .i64 z1d.fB.fD),(.int .i64 z1d.fR.fN),(.int .i64 z1d.fR.fD)])]) (pre:=[]) (env:=[(0,(.agg #[(.int .i64 z1c.fB.fN),(.int .i64 z1c.fB.fD),(.int .i64 z1c.fR.fN),(.int .i64 z1c.fR.fD)])),(1,(.agg #[(.int .i64 z1d.fB.fN),(.int .i64 z1d.fB.fD),(.int .i64 z1d.fR.fN),(.int .i64 z1d.fR.fD)]))]) Try.func61 rfl Try.ntmps61 rfl (Hp.nil w₀ _) rfl ?_
 refine WC.b ?_
 refine WC.a ?_
 refine WL.new (dd:=2) rfl rfl rfl (yI (cs:=[(.int .i64 z1c.fB.fN),(.int .i64 z1c.fB.fD),(.int .i64 z1c.fR.fN),(.int .i64 z1c.fR.fD)]) rfl rfl) ?_
 intro z8X _
 refine WL.new (dd:=3) rfl rfl rfl (yI (cs:=[(.int .i64 z1d.fB.fN),(.int .i64 z1d.fB.fD),(.int .i64 z1d.fR.fN),(.int .i64 z1d.fR.fD)]) rfl rfl) ?_
 intro z8Y _
 refine WL.a (d:=4) rfl rfl rfl (q_z rfl) ?_
 refine WL.nil ?_
 refine WX.a ?_
 refine WC.b ?_
 obtain ⟨zh9,zoR,h⟩:=ze h
 obtain ⟨zk7,zoS,h⟩:=ze h
 refine WC.a ?_
 refine WL.a (d:=5) rfl rfl rfl (y4 (cs:=[(.int .i64 z1c.fB.fN),(.int .i64 z1c.fB.fD),(.int .i64 z1c.fR.fN),(.int .i64 z1c.fR.fD)]) y1D rfl rfl (y8 .h1)) ?_
 refine WL.a (d:=6) rfl rfl rfl (y4 (cs:=[(.int .i64 z1d.fB.fN),(.int .i64 z1d.fB.fD),(.int .i64 z1d.fR.fN),(.int .i64 z1d.fR.fD)]) y1D rfl rfl (y8 .here)) ?_
 refine WL.a (d:=7) rfl rfl rfl (y8V (enc:=e35) (a:=z1c) (b:=z1d) eqT_35 rfl rfl) ?_
 refine WL.a (d:=8) rfl rfl rfl (q_m rfl) ?_
 refine WL.yN True [(2,(.pointer (some ⟨z8X,0,none⟩))),(3,(.pointer (some ⟨z8Y,0,none⟩))),(4,(.bool false)),(15,(.bool zh9))] [stb z8Y 35 [(.int .i64 z1d.fB.fN),(.int .i64 z1d.fB.fD),(.int .i64 z1d.fR.fN),(.int .i64 z1d.fR.fD)],stb z8X 35 [(.int .i64 z1c.fB.fN),(.int .i64 z1c.fB.fD),(.int .i64 z1c.fR.fN),(.int .i64 z1c.fR.fD)]] 7 ?_ (fun _=>?_)
 ·rcases Bool.eq_false_or_eq_true (decide (z1c ≠ z1d)) with hb' | hb'
  ·have zoT:=hb'; clear hb'
   have zfn:=yh zoR zoT
   obtain ⟨zk5,zt8,zfn⟩:=ze zfn
   replace zfn:=Option.some.inj zfn
   refine WL.pin (i:=8) rfl zoT ?_
   refine WL.a (d:=9) rfl rfl rfl (y3 y3Y rfl rfl) ?_
   refine WL.a (d:=10) rfl rfl rfl (y4 (cs:=[(.int .i64 z1c.fB.fN),(.int .i64 z1c.fB.fD)]) y5 rfl rfl (y1U (s:=2) .h1 rfl)) ?_
   refine WL.a (d:=11) rfl rfl rfl (y3 y3Y rfl rfl) ?_
   refine WL.a (d:=12) rfl rfl rfl (y4 (cs:=[(.int .i64 z1d.fB.fN),(.int .i64 z1d.fB.fD)]) y5 rfl rfl (y1U (s:=2) .here rfl)) ?_
   refine WL.b (dd:=13) rfl rfl rfl (zj (l:=[.tmp 10,.tmp 12]) Try.call18 (.cons rfl (.cons rfl .nil))) (.nil : Sel [stb z8Y 35 [(.int .i64 z1d.fB.fN),(.int .i64 z1d.fB.fD),(.int .i64 z1d.fR.fN),(.int .i64 z1d.fR.fD)],stb z8X 35 [(.int .i64 z1c.fB.fN),(.int .i64 z1c.fB.fD),(.int .i64 z1c.fR.fN),(.int .i64 z1c.fR.fD)]] [] [stb z8Y 35 [(.int .i64 z1d.fB.fN),(.int .i64 z1d.fB.fD),(.int .i64 z1d.fR.fN),(.int .i64 z1d.fR.fD)],stb z8X 35 [(.int .i64 z1c.fB.fN),(.int .i64 z1c.fB.fD),(.int .i64 z1c.fR.fN),(.int .i64 z1c.fR.fD)]]) (fun w hw=>by have pz:=(hz.call hw (.nil : Sel [stb z8Y 35 [(.int .i64 z1d.fB.fN),(.int .i64 z1d.fB.fD),(.int .i64 z1d.fR.fN),(.int .i64 z1d.fR.fD)],stb z8X 35 [(.int .i64 z1c.fB.fN),(.int .i64 z1c.fB.fD),(.int .i64 z1c.fR.fN),(.int .i64 z1c.fR.fD)]] [] [stb z8Y 35 [(.int .i64 z1d.fB.fN),(.int .i64 z1d.fB.fD),(.int .i64 z1d.fR.fN),(.int .i64 z1d.fR.fD)],stb z8X 35 [(.int .i64 z1c.fB.fN),(.int .i64 z1c.fB.fD),(.int .i64 z1c.fR.fN),(.int .i64 z1c.fR.fD)]])); exact y26 (Z:=_)  (z29:=z1c.fB) (z2a:=z1d.fB) (r:=zk5) w pz  zt8) ?_
   refine WL.a (d:=14) rfl rfl rfl (y5A rfl rfl) ?_
   refine WL.a (d:=15) rfl rfl rfl (ys rfl rfl) ?_
   exact WL.y9 () trivial (.cons rfl (.cons rfl (.cons rfl (.cons (zr zfn) .nil)))) (.cons .here (.cons .here .nil))
  ·have zoU:=hb'; clear hb'
   have zk8:=yi zoR zoU
   replace zk8:=Option.some.inj zk8
   refine WL.pin (i:=8) rfl zoU ?_
   refine WL.e rfl rfl rfl ?_
   refine WL.e rfl rfl rfl ?_
   refine WL.e rfl rfl rfl ?_
   refine WL.e rfl rfl rfl ?_
   refine WL.e rfl rfl rfl ?_
   refine WL.e rfl rfl rfl ?_
   refine WL.a (d:=15) rfl rfl rfl (yr rfl rfl) ?_
   exact WL.y9 () trivial (.cons rfl (.cons rfl (.cons rfl (.cons (zr zk8) .nil)))) (.cons .here (.cons .here .nil))
 ·skip
  refine WL.a (d:=16) rfl rfl rfl (q_m rfl) ?_
  refine WL.yN True [(4,(.bool false)),(23,(.bool zk7))] [stb z8Y 35 [(.int .i64 z1d.fB.fN),(.int .i64 z1d.fB.fD),(.int .i64 z1d.fR.fN),(.int .i64 z1d.fR.fD)],stb z8X 35 [(.int .i64 z1c.fB.fN),(.int .i64 z1c.fB.fD),(.int .i64 z1c.fR.fN),(.int .i64 z1c.fR.fD)]] 7 ?_ (fun _=>?_)
  ·rcases Bool.eq_false_or_eq_true zh9 with hb' | hb'
   ·have zoV:=hb'; clear hb'
    have zfo:=yh zoS zoV
    obtain ⟨zk6,zt9,zfo⟩:=ze zfo
    replace zfo:=Option.some.inj zfo
    refine WL.pin (i:=16) rfl zoV ?_
    refine WL.a (d:=17) rfl rfl rfl (y3 y4P rfl rfl) ?_
    refine WL.a (d:=18) rfl rfl rfl (y4 (cs:=[(.int .i64 z1c.fR.fN),(.int .i64 z1c.fR.fD)]) y5 rfl rfl (y1U (s:=2) .h1 rfl)) ?_
    refine WL.a (d:=19) rfl rfl rfl (y3 y4P rfl rfl) ?_
    refine WL.a (d:=20) rfl rfl rfl (y4 (cs:=[(.int .i64 z1d.fR.fN),(.int .i64 z1d.fR.fD)]) y5 rfl rfl (y1U (s:=2) .here rfl)) ?_
    refine WL.b (dd:=21) rfl rfl rfl (zj (l:=[.tmp 18,.tmp 20]) Try.call18 (.cons rfl (.cons rfl .nil))) (.nil : Sel [stb z8Y 35 [(.int .i64 z1d.fB.fN),(.int .i64 z1d.fB.fD),(.int .i64 z1d.fR.fN),(.int .i64 z1d.fR.fD)],stb z8X 35 [(.int .i64 z1c.fB.fN),(.int .i64 z1c.fB.fD),(.int .i64 z1c.fR.fN),(.int .i64 z1c.fR.fD)]] [] [stb z8Y 35 [(.int .i64 z1d.fB.fN),(.int .i64 z1d.fB.fD),(.int .i64 z1d.fR.fN),(.int .i64 z1d.fR.fD)],stb z8X 35 [(.int .i64 z1c.fB.fN),(.int .i64 z1c.fB.fD),(.int .i64 z1c.fR.fN),(.int .i64 z1c.fR.fD)]]) (fun w hw=>by have pz:=(hz.call hw (.nil : Sel [stb z8Y 35 [(.int .i64 z1d.fB.fN),(.int .i64 z1d.fB.fD),(.int .i64 z1d.fR.fN),(.int .i64 z1d.fR.fD)],stb z8X 35 [(.int .i64 z1c.fB.fN),(.int .i64 z1c.fB.fD),(.int .i64 z1c.fR.fN),(.int .i64 z1c.fR.fD)]] [] [stb z8Y 35 [(.int .i64 z1d.fB.fN),(.int .i64 z1d.fB.fD),(.int .i64 z1d.fR.fN),(.int .i64 z1d.fR.fD)],stb z8X 35 [(.int .i64 z1c.fB.fN),(.int .i64 z1c.fB.fD),(.int .i64 z1c.fR.fN),(.int .i64 z1c.fR.fD)]])); exact y26 (Z:=_)  (z29:=z1c.fR) (z2a:=z1d.fR) (r:=zk6) w pz  zt9) ?_
    refine WL.a (d:=22) rfl rfl rfl (y5A rfl rfl) ?_
    refine WL.a (d:=23) rfl rfl rfl (ys rfl rfl) ?_
    exact WL.y9 () trivial (.cons rfl (.cons (zr zfo) .nil)) (.cons .here (.cons .here .nil))
   ·have zoW:=hb'; clear hb'
    have zk9:=yi zoS zoW
    replace zk9:=Option.some.inj zk9
    refine WL.pin (i:=16) rfl zoW ?_
    refine WL.e rfl rfl rfl ?_
    refine WL.e rfl rfl rfl ?_
    refine WL.e rfl rfl rfl ?_
    refine WL.e rfl rfl rfl ?_
    refine WL.e rfl rfl rfl ?_
    refine WL.e rfl rfl rfl ?_
    refine WL.a (d:=23) rfl rfl rfl (yr rfl rfl) ?_
    exact WL.y9 () trivial (.cons rfl (.cons (zr zk9) .nil)) (.cons .here (.cons .here .nil))
  ·skip
   refine WL.a (d:=4) rfl rfl rfl (q_z rfl) ?_
   refine WL.nil ?_
   refine WX.a ?_
   refine WC.ret ?_
   obtain rfl:=Option.some.inj h
   refine WX.y7 Try.results61 (.tmp rfl .nil) (fun w hw=>?_)
   exact ⟨yD rfl,hw.sub .nil⟩
def y38 (z2C : z6) (z83 : z6) : Option Bool :=
 (y33 z2C z83).bind fun zka=>some zka
set_option maxRecDepth 20000 in
theorem y8i (Z : Zp)  (zfp : Addr) (z2C : z6) (z83 : z6) (r : Bool) (w₀ : World) (hz : PZ [] w₀ Z)
  (zta : ZC Z zfp [(.int .i64 z83.fB.fN),(.int .i64 z83.fB.fD),(.int .i64 z83.fR.fN),(.int .i64 z83.fR.fD)])
  (h : y38 z2C z83 = some r) :
  Calls Try.prog 60 #[(.agg #[(.int .i64 z2C.fB.fN),(.int .i64 z2C.fB.fD),(.int .i64 z2C.fR.fN),(.int .i64 z2C.fR.fD)]),(.pointer (some zfp))] w₀ fun e w'=>e = .returned (.bool r) ∧ Hp [] w₀ w' []:=by
 unfold y38 at h
 refine Calls.yd (vs:=[(.agg #[(.int .i64 z2C.fB.fN),(.int .i64 z2C.fB.fD),(.int .i64 z2C.fR.fN),(.int .i64 z2C.fR.fD)]),(.pointer (some zfp))]) (pre:=[]) (env:=[(0,(.agg #[(.int .i64 z2C.fB.fN),(.int .i64 z2C.fB.fD),(.int .i64 z2C.fR.fN),(.int .i64 z2C.fR.fD)])),(1,(.pointer (some zfp)))]) Try.func60 rfl Try.ntmps60 rfl (Hp.nil w₀ _) rfl ?_
 refine WC.b ?_
 refine WC.a ?_
 refine WL.new (dd:=2) rfl rfl rfl (yI (cs:=[(.int .i64 z2C.fB.fN),(.int .i64 z2C.fB.fD),(.int .i64 z2C.fR.fN),(.int .i64 z2C.fR.fD)]) rfl rfl) ?_
 intro zha _
 refine WL.a (d:=3) rfl rfl rfl (q_z rfl) ?_
 refine WL.nil ?_
 refine WX.a ?_
 refine WC.b ?_
 obtain ⟨zka,ztb,h⟩:=ze h
 refine WC.a ?_
 refine WL.a (d:=4) rfl rfl rfl (y4 (cs:=[(.int .i64 z2C.fB.fN),(.int .i64 z2C.fB.fD),(.int .i64 z2C.fR.fN),(.int .i64 z2C.fR.fD)]) y1D rfl rfl (y8 .here)) ?_
 refine WL.a (d:=5) rfl rfl rfl (y4 (cs:=[(.int .i64 z83.fB.fN),(.int .i64 z83.fB.fD),(.int .i64 z83.fR.fN),(.int .i64 z83.fR.fD)]) y1D rfl rfl (y2P hz.pv zta)) ?_
 refine WL.b (dd:=6) rfl rfl rfl (zj (l:=[.tmp 4,.tmp 5]) Try.call61 (.cons rfl (.cons rfl .nil))) (.nil : Sel [stb zha 35 [(.int .i64 z2C.fB.fN),(.int .i64 z2C.fB.fD),(.int .i64 z2C.fR.fN),(.int .i64 z2C.fR.fD)]] [] [stb zha 35 [(.int .i64 z2C.fB.fN),(.int .i64 z2C.fB.fD),(.int .i64 z2C.fR.fN),(.int .i64 z2C.fR.fD)]]) (fun w hw=>by have pz:=(hz.call hw (.nil : Sel [stb zha 35 [(.int .i64 z2C.fB.fN),(.int .i64 z2C.fB.fD),(.int .i64 z2C.fR.fN),(.int .i64 z2C.fR.fD)]] [] [stb zha 35 [(.int .i64 z2C.fB.fN),(.int .i64 z2C.fB.fD),(.int .i64 z2C.fR.fN),(.int .i64 z2C.fR.fD)]])); exact y7F (Z:=_)  (z1c:=z2C) (z1d:=z83) (r:=zka) w pz  ztb) ?_
 refine WL.a (d:=3) rfl rfl rfl (q_z rfl) ?_
 refine WL.nil ?_
 refine WX.a ?_
 refine WC.ret ?_
 obtain rfl:=Option.some.inj h
 refine WX.y7 Try.results60 (.tmp rfl .nil) (fun w hw=>?_)
 exact ⟨yD rfl,hw.sub .nil⟩
def y3A (z2Q : z6) (z2R : z6) : Option Int :=
 (yV z2Q.fB z2R.fB).bind fun zkb=>some zkb
set_option maxRecDepth 20000 in
theorem y8j (Z : Zp)   (z2Q : z6) (z2R : z6) (r : Int) (w₀ : World) (hz : PZ [] w₀ Z)
  (h : y3A z2Q z2R = some r) :
  Calls Try.prog 63 #[(.agg #[(.int .i64 z2Q.fB.fN),(.int .i64 z2Q.fB.fD),(.int .i64 z2Q.fR.fN),(.int .i64 z2Q.fR.fD)]),(.agg #[(.int .i64 z2R.fB.fN),(.int .i64 z2R.fB.fD),(.int .i64 z2R.fR.fN),(.int .i64 z2R.fR.fD)])] w₀ fun e w'=>e = .returned (.int .i64 r) ∧ Hp [] w₀ w' []:=by
 unfold y3A at h
 refine Calls.yd (vs:=[(.agg #[(.int .i64 z2Q.fB.fN),(.int .i64 z2Q.fB.fD),(.int .i64 z2Q.fR.fN),(.int .i64 z2Q.fR.fD)]),(.agg #[(.int .i64 z2R.fB.fN),(.int .i64 z2R.fB.fD),(.int .i64 z2R.fR.fN),(.int .i64 z2R.fR.fD)])]) (pre:=[]) (env:=[(0,(.agg #[(.int .i64 z2Q.fB.fN),(.int .i64 z2Q.fB.fD),(.int .i64 z2Q.fR.fN),(.int .i64 z2Q.fR.fD)])),(1,(.agg #[(.int .i64 z2R.fB.fN),(.int .i64 z2R.fB.fD),(.int .i64 z2R.fR.fN),(.int .i64 z2R.fR.fD)]))]) Try.func63 rfl Try.ntmps63 rfl (Hp.nil w₀ _) rfl ?_
 refine WC.b ?_
 refine WC.a ?_
 refine WL.new (dd:=2) rfl rfl rfl (yI (cs:=[(.int .i64 z2Q.fB.fN),(.int .i64 z2Q.fB.fD),(.int .i64 z2Q.fR.fN),(.int .i64 z2Q.fR.fD)]) rfl rfl) ?_
 intro zhb _
 refine WL.new (dd:=3) rfl rfl rfl (yI (cs:=[(.int .i64 z2R.fB.fN),(.int .i64 z2R.fB.fD),(.int .i64 z2R.fR.fN),(.int .i64 z2R.fR.fD)]) rfl rfl) ?_
 intro zhc _
 refine WL.a (d:=4) rfl rfl rfl (q_z rfl) ?_
 refine WL.nil ?_
 refine WX.a ?_
 refine WC.b ?_
 obtain ⟨zkb,ztc,h⟩:=ze h
 refine WC.a ?_
 refine WL.a (d:=5) rfl rfl rfl (y3 y3Y rfl rfl) ?_
 refine WL.a (d:=6) rfl rfl rfl (y4 (cs:=[(.int .i64 z2Q.fB.fN),(.int .i64 z2Q.fB.fD)]) y5 rfl rfl (y1U (s:=2) .h1 rfl)) ?_
 refine WL.a (d:=7) rfl rfl rfl (y3 y3Y rfl rfl) ?_
 refine WL.a (d:=8) rfl rfl rfl (y4 (cs:=[(.int .i64 z2R.fB.fN),(.int .i64 z2R.fB.fD)]) y5 rfl rfl (y1U (s:=2) .here rfl)) ?_
 refine WL.b (dd:=9) rfl rfl rfl (zj (l:=[.tmp 6,.tmp 8]) Try.call18 (.cons rfl (.cons rfl .nil))) (.nil : Sel [stb zhc 35 [(.int .i64 z2R.fB.fN),(.int .i64 z2R.fB.fD),(.int .i64 z2R.fR.fN),(.int .i64 z2R.fR.fD)],stb zhb 35 [(.int .i64 z2Q.fB.fN),(.int .i64 z2Q.fB.fD),(.int .i64 z2Q.fR.fN),(.int .i64 z2Q.fR.fD)]] [] [stb zhc 35 [(.int .i64 z2R.fB.fN),(.int .i64 z2R.fB.fD),(.int .i64 z2R.fR.fN),(.int .i64 z2R.fR.fD)],stb zhb 35 [(.int .i64 z2Q.fB.fN),(.int .i64 z2Q.fB.fD),(.int .i64 z2Q.fR.fN),(.int .i64 z2Q.fR.fD)]]) (fun w hw=>by have pz:=(hz.call hw (.nil : Sel [stb zhc 35 [(.int .i64 z2R.fB.fN),(.int .i64 z2R.fB.fD),(.int .i64 z2R.fR.fN),(.int .i64 z2R.fR.fD)],stb zhb 35 [(.int .i64 z2Q.fB.fN),(.int .i64 z2Q.fB.fD),(.int .i64 z2Q.fR.fN),(.int .i64 z2Q.fR.fD)]] [] [stb zhc 35 [(.int .i64 z2R.fB.fN),(.int .i64 z2R.fB.fD),(.int .i64 z2R.fR.fN),(.int .i64 z2R.fR.fD)],stb zhb 35 [(.int .i64 z2Q.fB.fN),(.int .i64 z2Q.fB.fD),(.int .i64 z2Q.fR.fN),(.int .i64 z2Q.fR.fD)]])); exact y26 (Z:=_)  (z29:=z2Q.fB) (z2a:=z2R.fB) (r:=zkb) w pz  ztc) ?_
 refine WL.a (d:=4) rfl rfl rfl (q_z rfl) ?_
 refine WL.nil ?_
 refine WX.a ?_
 refine WC.ret ?_
 obtain rfl:=Option.some.inj h
 refine WX.y7 Try.results63 (.tmp rfl .nil) (fun w hw=>?_)
 exact ⟨yD rfl,hw.sub .nil⟩
def y50 (zab : Int) : Option Int:=chk ((0 : Int) ≤ zab ∧ zab ≤ 18446744073709551615) (some ((Go.Lib.bitLen (zab).toNat : Nat) : Int))
theorem y83 (Z : Zp) (zab : Int) (r : Int) (w₀ : World) (hz : PZ [] w₀ Z) (h : y50 zab = some r) : Calls Try.prog 74 #[.int .u64 zab] w₀ fun e w'=>e = .returned (.int .i64 r) ∧ Hp [] w₀ w' []:=by
 obtain ⟨h0,h⟩:=yl h
 obtain rfl:=Option.some.inj h
 refine (Try.bits_Len zab w₀ h0.1 h0.2).mono ?_
 rintro e w' ⟨rfl,rfl⟩
 exact ⟨rfl,Hp.nil w' []⟩
theorem srtA_73 : ∀ w,(isAgg (Try.y2j.t 24)).run Try.prog w = .ok true w:=fun _=>by kernel_rfl
theorem srtZ_73 : ∀ w,(Go.sizeOf (Try.y2j.t 24)).run Try.prog w = .ok 4 w:=fun _=>by kernel_rfl
def y2i (z6L : List z6) (zfq : Int) (zfr : Int) (zdJ : Int) (zcj : z6 → z6 → Option Int) : Option (List z6):=chk ((zfq = 0 ∧ zfr = ((z6L.length : Nat) : Int)) ∧ (0 ≤ zdJ ∧ zdJ < 4611686018427387904 ∧ z6L.length < 4611686018427387904)) (chk (ordB zcj (y1t zcj z6L) = true) (some (y1t zcj z6L)))
theorem y4u (Z : Zp) (zck : Option Addr) (zcl : Nat) (zfs : FuncId) (zkc : List Value) (z6L : List z6) (zfq : Int) (zfr : Int) (zdJ : Int) (zcj : z6 → z6 → Option Int) (r : List z6) (w₀ : World) (hz : PZ (fps [row (.slice zck z6L.length zcl) 35 4 (z6L.flatMap e35)]) w₀ Z)
  (ztd : ∀ args w,(callFunc zfs args).run Try.prog w = .ok (.enter zfs args) w)
  (zte : ∀ w : World,PZ [] w Z → ∀ (x0 : z6) (x1 : z6) (r : Int),zcj x0 x1 = some r → Calls Try.prog zfs (([(.agg #[(.int .i64 x0.fB.fN),(.int .i64 x0.fB.fD),(.int .i64 x0.fR.fN),(.int .i64 x0.fR.fD)]),(.agg #[(.int .i64 x1.fB.fN),(.int .i64 x1.fB.fD),(.int .i64 x1.fR.fN),(.int .i64 x1.fR.fD)])] : List Value) ++ zkc).toArray w fun e w'=>e = .returned (.int .i64 r) ∧ Hp [] w w' [])
  (h : y2i z6L zfq zfr zdJ zcj = some r) (hown : Hp (fps [row (.slice zck z6L.length zcl) 35 4 (z6L.flatMap e35)]) w₀ w₀ [row (.slice zck z6L.length zcl) 35 4 (z6L.flatMap e35)]) :
  Calls Try.prog 73 #[(.slice zck z6L.length zcl),(.int .i64 zfq),(.int .i64 zfr),(.int .i64 zdJ),(.func (.func zfs) #[] (zkc).toArray)] w₀ fun e w'=>e = .returned (.tuple #[]) ∧ (r.length = z6L.length) ∧ Hp (fps [row (.slice zck z6L.length zcl) 35 4 (z6L.flatMap e35)]) w₀ w' [row (.slice zck r.length zcl) 35 4 (r.flatMap e35)]:=by
 obtain ⟨h0,h⟩:=yl h
 obtain ⟨h1,h⟩:=yl h
 have hr:=(Option.some.inj h).symm
 exact y8v (P:=Try.prog) (f:=73) (e:=35) (k:=4) (enc:=e35) (fun _=>rfl) (by decide) e35_oc (fun β _ enc cf g cb hO blk off cap d0 w0 eg hC R=>Try.y5u 4 srtA_73 srtZ_73 enc cf g cb hO blk off cap d0 w0 eg hC R) (Try.y5l (α:=Unit)) hz ztd zte h0 h1 hr hown
def yU (z2o : List z6) (zdK : z6 → z6 → Option Int) : Option (List z6) :=
 (y50 (u64 ((z2o.length : Nat) : Int))).bind fun zhd=>(y2i z2o 0 ((z2o.length : Nat) : Int) zhd zdK).bind fun zhe=>some zhe
set_option maxRecDepth 20000 in
theorem y42 (Z : Zp)  (z5f : Option Addr) (z5g : Nat) (zbi : FuncId) (zdL : List Value) (z2o : List z6) (zdK : z6 → z6 → Option Int) (r : List z6) (w₀ : World) (hz : PZ (fps [row (.slice z5f z2o.length z5g) 35 4 (z2o.flatMap e35)]) w₀ Z)
  (ztf : ∀ args w,(callFunc zbi args).run Try.prog w = .ok (.enter zbi args) w)
  (ztg : ∀ w : World,PZ [] w Z → ∀ (x0 : z6) (x1 : z6) (r : Int),zdK x0 x1 = some r → Calls Try.prog zbi (([(.agg #[(.int .i64 x0.fB.fN),(.int .i64 x0.fB.fD),(.int .i64 x0.fR.fN),(.int .i64 x0.fR.fD)]),(.agg #[(.int .i64 x1.fB.fN),(.int .i64 x1.fB.fD),(.int .i64 x1.fR.fN),(.int .i64 x1.fR.fD)])] : List Value) ++ zdL).toArray w fun e w'=>e = .returned (.int .i64 r) ∧ Hp [] w w' [])
  (h : yU z2o zdK = some r)
  (hown : Hp (fps [row (.slice z5f z2o.length z5g) 35 4 (z2o.flatMap e35)]) w₀ w₀ [row (.slice z5f z2o.length z5g) 35 4 (z2o.flatMap e35)]) :
  Calls Try.prog 62 #[(.slice z5f z2o.length z5g),(.func (.func zbi) #[] (zdL).toArray)] w₀ fun e w'=>e = .returned (.tuple #[]) ∧ (r.length = z2o.length) ∧ Hp (fps [row (.slice z5f z2o.length z5g) 35 4 (z2o.flatMap e35)]) w₀ w' [row (.slice z5f r.length z5g) 35 4 (r.flatMap e35)]:=by
 unfold yU at h
 refine Calls.yd (vs:=[(.slice z5f z2o.length z5g),(.func (.func zbi) #[] (zdL).toArray)]) (pre:=[row (.slice z5f z2o.length z5g) 35 4 (z2o.flatMap e35)]) (env:=[(0,(.slice z5f z2o.length z5g)),(1,(.func (.func zbi) #[] (zdL).toArray))]) Try.func62 rfl Try.ntmps62 rfl (hown) rfl ?_
 refine WC.b ?_
 refine WC.a ?_
 refine WL.a (d:=5) rfl rfl rfl (q_m rfl) ?_
 refine WL.a (d:=6) rfl rfl rfl (y10 Try.underlying39 rfl) ?_
 refine WL.a (d:=4) rfl rfl rfl (q_z rfl) ?_
 refine WL.nil ?_
 refine WX.a ?_
 obtain ⟨zhd,zth,h⟩:=ze h
 obtain ⟨zhe,zti,h⟩:=ze h
 refine WC.a ?_
 refine WL.a (d:=7) rfl rfl rfl (q_m rfl) ?_
 refine WL.a (d:=8) rfl rfl rfl (q_m rfl) ?_
 refine WL.a (d:=9) rfl rfl rfl (q_m rfl) ?_
 refine WL.a (d:=10) rfl rfl rfl (y3v Try.underlying3 Try.underlying120 rfl rfl) ?_
 refine WL.b (dd:=11) rfl rfl rfl (zj (l:=[.tmp 10]) Try.call74 (.cons rfl .nil)) (.nil : Sel [row (.slice z5f z2o.length z5g) 35 4 (z2o.flatMap e35)] [] [row (.slice z5f z2o.length z5g) 35 4 (z2o.flatMap e35)]) (fun w hw=>by have pz:=(hz.call hw (.nil : Sel [row (.slice z5f z2o.length z5g) 35 4 (z2o.flatMap e35)] [] [row (.slice z5f z2o.length z5g) 35 4 (z2o.flatMap e35)])); exact y83 (Z:=_)  (zab:=(u64 ((z2o.length : Nat) : Int))) (r:=zhd) w pz  zth) ?_
 refine WL.a (d:=12) rfl rfl rfl (q_m rfl) ?_
 refine WL.y6m (dd:=13) rfl rfl rfl (zj (l:=[.tmp 7,.const (.int .i64 0),.tmp 8,.tmp 11,.tmp 12]) Try.call73 (.cons rfl (.cons rfl (.cons rfl (.cons rfl (.cons rfl .nil)))))) ((.cons .here .nil) : Sel [row (.slice z5f z2o.length z5g) 35 4 (z2o.flatMap e35)] [row (.slice z5f z2o.length z5g) 35 4 (z2o.flatMap e35)] []) (fun w hw=>by have pz:=(hz.call hw ((.cons .here .nil) : Sel [row (.slice z5f z2o.length z5g) 35 4 (z2o.flatMap e35)] [row (.slice z5f z2o.length z5g) 35 4 (z2o.flatMap e35)] [])); exact y4u (Z:=_) (zck:=z5f) (zcl:=z5g) (zfs:=zbi) (zkc:=zdL) (z6L:=z2o) (zfq:=0) (zfr:=((z2o.length : Nat) : Int)) (zdJ:=zhd) (zcj:=zdK) (r:=zhe) w pz ztf ztg zti (hw.owns ((.cons .here .nil) : Sel [row (.slice z5f z2o.length z5g) 35 4 (z2o.flatMap e35)] [row (.slice z5f z2o.length z5g) 35 4 (z2o.flatMap e35)] []))) ?_
 rintro  zoX
 refine WL.repin (i:=0) rfl (u:=(.slice z5f zhe.length z5g)) (slen zoX.symm) ?_
 refine WL.nil ?_
 obtain rfl:=Option.some.inj h
 refine WX.y4z Try.results62 .nil (fun w hw=>?_)
 exact ⟨y5s,(zoX.trans rfl),hw.sub (.cons .here .nil)⟩
def y2z (zk : List z6) (zac : (List z6) → Option (List z6)) : Nat → (List z6) → Int → Option (List z6)
 | 0,_,_=>none
 | zkd + 1,z1F,zq=>if decide (zq < ((zk.length : Nat) : Int)) then jp1 (fun (z8Z : List z6)=>y2z zk zac zkd z8Z (i64 (zq + 1))) fun zhf=>chk ((0 : Int) ≤ zq ∧ zq < ((zk.length : Nat) : Int)) ((y1y z1F (⟨(⟨(((nth zk zq).fB).fN),(((nth zk zq).fB).fD)⟩ : z7),(⟨(((nth zk zq).fR).fN),(((nth zk zq).fR).fD)⟩ : z7)⟩ : z6)).bind fun zhg=>(if !zhg then (y11 zk (fun (y0 : z6)=>y38 y0 (⟨(⟨(((nth zk zq).fB).fN),(((nth zk zq).fB).fD)⟩ : z7),(⟨(((nth zk zq).fR).fN),(((nth zk zq).fR).fD)⟩ : z7)⟩ : z6))).bind fun zke=>some (!zke) else some false).bind fun zkf=>if zkf then chk ((((z1F ++ ([(⟨(⟨(((nth zk zq).fB).fN),(((nth zk zq).fB).fD)⟩ : z7),(⟨(((nth zk zq).fR).fN),(((nth zk zq).fR).fD)⟩ : z7)⟩ : z6)] : List z6)).length : Nat) : Int) * 32 ≤ 140737488355328 ∧ (((z1F ++ ([(⟨(⟨(((nth zk zq).fB).fN),(((nth zk zq).fB).fD)⟩ : z7),(⟨(((nth zk zq).fR).fN),(((nth zk zq).fR).fD)⟩ : z7)⟩ : z6)] : List z6)).length : Nat) : Int) ≤ 4611686018427387904) (zhf (z1F ++ ([(⟨(⟨(((nth zk zq).fB).fN),(((nth zk zq).fB).fD)⟩ : z7),(⟨(((nth zk zq).fR).fN),(((nth zk zq).fR).fD)⟩ : z7)⟩ : z6)] : List z6))) else zhf z1F) else zac z1F
theorem y6Y {n : Nat} {zk : List z6} {zac : (List z6) → Option (List z6)} {z1F : List z6} {zq : Int} {r : List z6} (h : y2z zk zac n z1F zq = some r) : ∃ m,n = m + 1:=by
 cases n with
 | zero=>cases h
 | succ m=>exact ⟨m,rfl⟩
def y4e (zk : List z6) : Option (List z6) :=
 jp1 (fun (z54 : List z6)=>(yU z54 (fun (y0 : z6) (y1 : z6)=>y3A y0 y1)).bind fun zhh=>some zhh) fun zac=>y2z zk zac yu ([] : List z6) 0
set_option maxRecDepth 20000 in
theorem y94 (Z : Zp)  (z8n : Option Addr) (z8o : Nat) (zk : List z6) (r : List z6) (w₀ : World) (hz : PZ [] w₀ Z)
  (zoY : ZS Z 4 (fun r x=>r = e35 x) z8n z8o zk)
  (h : y4e zk = some r) :
  Calls Try.prog 48 #[(.slice z8n zk.length z8o)] w₀ fun e w'=>∃ zoZ : Option Addr,∃ zp0 : Nat,e = .returned (.slice zoZ r.length zp0) ∧ True ∧ Hp [] w₀ w' [row (.slice zoZ r.length zp0) 35 4 (r.flatMap e35)]:=by
 unfold y4e at h
 refine Calls.yd (vs:=[(.slice z8n zk.length z8o)]) (pre:=[]) (env:=[(0,(.slice z8n zk.length z8o))]) Try.func48 rfl Try.ntmps48 rfl (Hp.nil w₀ _) rfl ?_
 refine WC.b ?_
 refine WC.a ?_
 refine WL.a (d:=2) rfl rfl rfl (q_z rfl) ?_
 refine WL.nil ?_
 refine WX.a ?_
 refine WC.b ?_
 refine WC.a ?_
 refine WL.a (d:=3) rfl rfl rfl (q_z rfl) ?_
 refine WL.nil ?_
 refine WX.a ?_
 obtain ⟨zac,ztj,h⟩:=y1h h
 refine WC.y2O (fun (z54 : List z6) (z7C : Option Addr) (z7D : Nat)=>(zac z54 = some r)) (fun (z54 : List z6) (z7C : Option Addr) (z7D : Nat)=>[(3,(.slice z7C z54.length z7D))]) (fun (z54 : List z6) (z7C : Option Addr) (z7D : Nat)=>[row (.slice z7C z54.length z7D) 35 4 (z54.flatMap e35)]) ?_ ?_
 ·skip
  refine WC.b ?_
  refine WC.a ?_
  refine WL.a (d:=6) rfl rfl rfl (q_m rfl) ?_
  refine WL.a (d:=7) rfl rfl rfl (y10 Try.underlying39 rfl) ?_
  refine WL.a (d:=8) rfl rfl rfl (q_m rfl) ?_
  refine WL.nil ?_
  refine WX.a ?_
  refine WC.block ?_
  refine WC.nilRow 35 4 ?_
  refine WC.y6R (fun (zdM : Nat) (z1F : List z6) (zq : Int) (z3w : Option Addr) (z3x : Nat)=>(y2z zk zac zdM z1F zq = some r)) (fun (zdM : Nat) (z1F : List z6) (zq : Int) (z3w : Option Addr) (z3x : Nat)=>[(0,(.slice z8n zk.length z8o)),(3,(.slice z3w z1F.length z3x)),(6,(.slice z8n zk.length z8o)),(7,(.int .i64 ((zk.length : Nat) : Int))),(8,(.int .i64 zq))]) (fun (zdM : Nat) (z1F : List z6) (zq : Int) (z3w : Option Addr) (z3x : Nat)=>[row (.slice z3w z1F.length z3x) 35 4 (z1F.flatMap e35)]) (fun (zdM : Nat) (z1F : List z6) (zq : Int) (z3w : Option Addr) (z3x : Nat)=>zdM) ⟨yu,([] : List z6),0,none,0⟩ h (.cons rfl (.cons rfl (.cons rfl (.cons rfl (.cons rfl .nil))))) (.cons .here .nil) ?_
  rintro zdM z1F zq z3w z3x h
  obtain ⟨zkd,rfl⟩:=y6Y h
  rw [y2z] at h
  refine WC.b ?_
  refine WC.a ?_
  refine WL.a (d:=9) rfl rfl rfl (y1c rfl rfl) ?_
  refine WL.nil ?_
  refine WX.a ?_
  refine WC.b ?_
  refine WC.cond rfl (fun zkg=>?_) (fun zkg=>?_)
  ·replace h:=yh h zkg
   refine WC.skip ?_
   refine WX.a ?_
   obtain ⟨zhf,ztk,h⟩:=y1h h
   refine WC.y2O (fun (z8Z : List z6) (zdN : Option Addr) (zdO : Nat)=>(zhf z8Z = some r)) (fun (z8Z : List z6) (zdN : Option Addr) (zdO : Nat)=>[(0,(.slice z8n zk.length z8o)),(3,(.slice zdN z8Z.length zdO)),(6,(.slice z8n zk.length z8o)),(7,(.int .i64 ((zk.length : Nat) : Int))),(8,(.int .i64 zq))]) (fun (z8Z : List z6) (zdN : Option Addr) (zdO : Nat)=>[row (.slice zdN z8Z.length zdO) 35 4 (z8Z.flatMap e35)]) ?_ ?_
   ·skip
    refine WC.block ?_
    refine WC.b ?_
    obtain ⟨ztl,h⟩:=yl h
    refine WC.a ?_
    refine WL.znth (dd:=10) rfl rfl (Z:=Z) (Pr:=(fun r x=>r = e35 x)) y2w rfl rfl zoY ztl ?_
    rintro zAM zAN ztm zAO rfl
    refine WL.a (d:=11) rfl rfl rfl (y4 (cs:=[(.int .i64 (((nth zk zq).fB).fN)),(.int .i64 (((nth zk zq).fB).fD)),(.int .i64 (((nth zk zq).fR).fN)),(.int .i64 (((nth zk zq).fR).fD))]) y1D rfl rfl (y2P hz.pv ztm)) ?_
    refine WL.new (dd:=5) rfl rfl rfl (ym (cs:=[(.int .i64 0),(.int .i64 0),(.int .i64 0),(.int .i64 0)]) y3J rfl) ?_
    intro z4M _
    refine WL.yb rfl rfl (yc (vs:=[(.int .i64 (((nth zk zq).fB).fN)),(.int .i64 (((nth zk zq).fB).fD)),(.int .i64 (((nth zk zq).fR).fN)),(.int .i64 (((nth zk zq).fR).fD))]) (ds:=[(.int .i64 (((nth zk zq).fB).fN)),(.int .i64 (((nth zk zq).fB).fD)),(.int .i64 (((nth zk zq).fR).fN)),(.int .i64 (((nth zk zq).fR).fD))]) y3X rfl rfl rfl rfl (y2 rfl (y2 rfl (y2 rfl (y2 rfl yk)))) .here (Nat.le_of_ble_eq_true rfl) rfl) ?_
    refine WL.nil ?_
    refine WX.a ?_
    refine WC.b ?_
    obtain ⟨zhg,ztn,h⟩:=ze h
    obtain ⟨zkf,zp1,h⟩:=ze h
    refine WC.a ?_
    refine WL.a (d:=12) rfl rfl rfl (q_m rfl) ?_
    refine WL.a (d:=13) rfl rfl rfl (y4 (cs:=[(.int .i64 (((nth zk zq).fB).fN)),(.int .i64 (((nth zk zq).fB).fD)),(.int .i64 (((nth zk zq).fR).fN)),(.int .i64 (((nth zk zq).fR).fD))]) y1D rfl rfl (y8 .here)) ?_
    refine WL.b (dd:=14) rfl rfl rfl (zj (l:=[.tmp 12,.tmp 13]) Try.call59 (.cons rfl (.cons rfl .nil))) (.nil : Sel [stb z4M 35 [(.int .i64 (((nth zk zq).fB).fN)),(.int .i64 (((nth zk zq).fB).fD)),(.int .i64 (((nth zk zq).fR).fN)),(.int .i64 (((nth zk zq).fR).fD))],row (.slice z3w z1F.length z3x) 35 4 (z1F.flatMap e35)] [] [stb z4M 35 [(.int .i64 (((nth zk zq).fB).fN)),(.int .i64 (((nth zk zq).fB).fD)),(.int .i64 (((nth zk zq).fR).fN)),(.int .i64 (((nth zk zq).fR).fD))],row (.slice z3w z1F.length z3x) 35 4 (z1F.flatMap e35)]) (fun w hw=>by have pz:=(hz.call hw (.nil : Sel [stb z4M 35 [(.int .i64 (((nth zk zq).fB).fN)),(.int .i64 (((nth zk zq).fB).fD)),(.int .i64 (((nth zk zq).fR).fN)),(.int .i64 (((nth zk zq).fR).fD))],row (.slice z3w z1F.length z3x) 35 4 (z1F.flatMap e35)] [] [stb z4M 35 [(.int .i64 (((nth zk zq).fB).fN)),(.int .i64 (((nth zk zq).fB).fD)),(.int .i64 (((nth zk zq).fR).fN)),(.int .i64 (((nth zk zq).fR).fD))],row (.slice z3w z1F.length z3x) 35 4 (z1F.flatMap e35)])).lend hw (.nil : Sel [stb z4M 35 [(.int .i64 (((nth zk zq).fB).fN)),(.int .i64 (((nth zk zq).fB).fD)),(.int .i64 (((nth zk zq).fR).fN)),(.int .i64 (((nth zk zq).fR).fD))],row (.slice z3w z1F.length z3x) 35 4 (z1F.flatMap e35)] [] [stb z4M 35 [(.int .i64 (((nth zk zq).fB).fN)),(.int .i64 (((nth zk zq).fB).fD)),(.int .i64 (((nth zk zq).fR).fN)),(.int .i64 (((nth zk zq).fR).fD))],row (.slice z3w z1F.length z3x) 35 4 (z1F.flatMap e35)]) (B:=[row (.slice z3w z1F.length z3x) 35 4 (z1F.flatMap e35)]) (fun _ hx'=>((.cons .h1 .nil) : Sel _ [row (.slice z3w z1F.length z3x) 35 4 (z1F.flatMap e35)] _).mem hx'); exact y41 (Z:=_) (zdH:=z3w) (zdI:=z3x) (zaa:=z1F) (z2B:=(⟨(⟨(((nth zk zq).fB).fN),(((nth zk zq).fB).fD)⟩ : z7),(⟨(((nth zk zq).fR).fN),(((nth zk zq).fR).fD)⟩ : z7)⟩ : z6)) (r:=zhg) w pz (ZA.row (hw.lent (.nil : Sel [stb z4M 35 [(.int .i64 (((nth zk zq).fB).fN)),(.int .i64 (((nth zk zq).fB).fD)),(.int .i64 (((nth zk zq).fR).fN)),(.int .i64 (((nth zk zq).fR).fD))],row (.slice z3w z1F.length z3x) 35 4 (z1F.flatMap e35)] [] [stb z4M 35 [(.int .i64 (((nth zk zq).fB).fN)),(.int .i64 (((nth zk zq).fB).fD)),(.int .i64 (((nth zk zq).fR).fN)),(.int .i64 (((nth zk zq).fR).fD))],row (.slice z3w z1F.length z3x) 35 4 (z1F.flatMap e35)]) (B:=[row (.slice z3w z1F.length z3x) 35 4 (z1F.flatMap e35)]) (fun _ hx'=>((.cons .h1 .nil) : Sel _ [row (.slice z3w z1F.length z3x) 35 4 (z1F.flatMap e35)] _).mem hx') (.head _) _) (RR.flat (enc:=e35) (fun _=>rfl) _) ⟨w,pz.1⟩) ztn) ?_
    refine WL.a (d:=15) rfl rfl rfl (y1m rfl) ?_
    refine WL.a (d:=16) rfl rfl rfl (q_m rfl) ?_
    refine WL.yN True [(0,(.slice z8n zk.length z8o)),(3,(.slice z3w z1F.length z3x)),(6,(.slice z8n zk.length z8o)),(7,(.int .i64 ((zk.length : Nat) : Int))),(8,(.int .i64 zq)),(5,(.pointer (some ⟨z4M,0,none⟩))),(21,(.bool zkf))] [stb z4M 35 [(.int .i64 (((nth zk zq).fB).fN)),(.int .i64 (((nth zk zq).fB).fD)),(.int .i64 (((nth zk zq).fR).fN)),(.int .i64 (((nth zk zq).fR).fD))],row (.slice z3w z1F.length z3x) 35 4 (z1F.flatMap e35)] 5 ?_ (fun _=>?_)
    ·rcases Bool.eq_false_or_eq_true (!zhg) with hb' | hb'
     ·have zp2:=hb'; clear hb'
      have zft:=yh zp1 zp2
      obtain ⟨zke,zto,zft⟩:=ze zft
      replace zft:=Option.some.inj zft
      refine WL.pin (i:=16) rfl zp2 ?_
      refine WL.a (d:=17) rfl rfl rfl (q_m rfl) ?_
      refine WL.a (d:=18) rfl rfl rfl (y1d (Eos.caps (l:=[.tmp 5]) (.cons rfl .nil))) ?_
      refine WL.b (dd:=19) rfl rfl rfl (zj (l:=[.tmp 17,.tmp 18]) Try.call49 (.cons rfl (.cons rfl .nil))) (.nil : Sel [stb z4M 35 [(.int .i64 (((nth zk zq).fB).fN)),(.int .i64 (((nth zk zq).fB).fD)),(.int .i64 (((nth zk zq).fR).fN)),(.int .i64 (((nth zk zq).fR).fD))],row (.slice z3w z1F.length z3x) 35 4 (z1F.flatMap e35)] [] [stb z4M 35 [(.int .i64 (((nth zk zq).fB).fN)),(.int .i64 (((nth zk zq).fB).fD)),(.int .i64 (((nth zk zq).fR).fN)),(.int .i64 (((nth zk zq).fR).fD))],row (.slice z3w z1F.length z3x) 35 4 (z1F.flatMap e35)]) (fun w hw=>by have pz:=(hz.call hw (.nil : Sel [stb z4M 35 [(.int .i64 (((nth zk zq).fB).fN)),(.int .i64 (((nth zk zq).fB).fD)),(.int .i64 (((nth zk zq).fR).fN)),(.int .i64 (((nth zk zq).fR).fD))],row (.slice z3w z1F.length z3x) 35 4 (z1F.flatMap e35)] [] [stb z4M 35 [(.int .i64 (((nth zk zq).fB).fN)),(.int .i64 (((nth zk zq).fB).fD)),(.int .i64 (((nth zk zq).fR).fN)),(.int .i64 (((nth zk zq).fR).fD))],row (.slice z3w z1F.length z3x) 35 4 (z1F.flatMap e35)])).lend hw (.nil : Sel [stb z4M 35 [(.int .i64 (((nth zk zq).fB).fN)),(.int .i64 (((nth zk zq).fB).fD)),(.int .i64 (((nth zk zq).fR).fN)),(.int .i64 (((nth zk zq).fR).fD))],row (.slice z3w z1F.length z3x) 35 4 (z1F.flatMap e35)] [] [stb z4M 35 [(.int .i64 (((nth zk zq).fB).fN)),(.int .i64 (((nth zk zq).fB).fD)),(.int .i64 (((nth zk zq).fR).fN)),(.int .i64 (((nth zk zq).fR).fD))],row (.slice z3w z1F.length z3x) 35 4 (z1F.flatMap e35)]) (B:=[stb z4M 35 [(.int .i64 (((nth zk zq).fB).fN)),(.int .i64 (((nth zk zq).fB).fD)),(.int .i64 (((nth zk zq).fR).fN)),(.int .i64 (((nth zk zq).fR).fD))]]) (fun _ hx'=>((.cons .here .nil) : Sel _ [stb z4M 35 [(.int .i64 (((nth zk zq).fB).fN)),(.int .i64 (((nth zk zq).fB).fD)),(.int .i64 (((nth zk zq).fR).fN)),(.int .i64 (((nth zk zq).fR).fD))]] _).mem hx'); exact y2r (Z:=_) (zc8:=z8n) (zc9:=z8o) (za5:=60) (zca:=[(.pointer (some ⟨z4M,0,none⟩))]) (z9j:=zk) (zc7:=(fun (y0 : z6)=>y38 y0 (⟨(⟨(((nth zk zq).fB).fN),(((nth zk zq).fB).fD)⟩ : z7),(⟨(((nth zk zq).fR).fN),(((nth zk zq).fR).fD)⟩ : z7)⟩ : z6))) (r:=zke) w pz (zoY.mono (Zle.left _ _)) Try.call60 (fun w' hz' y0  r  hr=>y8i (Z:=_) (zfp:=⟨z4M,0,none⟩) (z2C:=y0) (z83:=(⟨(⟨(((nth zk zq).fB).fN),(((nth zk zq).fB).fD)⟩ : z7),(⟨(((nth zk zq).fR).fN),(((nth zk zq).fR).fD)⟩ : z7)⟩ : z6)) (r:=r) w' hz' ((hw.lent (.nil : Sel [stb z4M 35 [(.int .i64 (((nth zk zq).fB).fN)),(.int .i64 (((nth zk zq).fB).fD)),(.int .i64 (((nth zk zq).fR).fN)),(.int .i64 (((nth zk zq).fR).fD))],row (.slice z3w z1F.length z3x) 35 4 (z1F.flatMap e35)] [] [stb z4M 35 [(.int .i64 (((nth zk zq).fB).fN)),(.int .i64 (((nth zk zq).fB).fD)),(.int .i64 (((nth zk zq).fR).fN)),(.int .i64 (((nth zk zq).fR).fD))],row (.slice z3w z1F.length z3x) 35 4 (z1F.flatMap e35)]) (B:=[stb z4M 35 [(.int .i64 (((nth zk zq).fB).fN)),(.int .i64 (((nth zk zq).fB).fD)),(.int .i64 (((nth zk zq).fR).fN)),(.int .i64 (((nth zk zq).fR).fD))]]) (fun _ hx'=>((.cons .here .nil) : Sel _ [stb z4M 35 [(.int .i64 (((nth zk zq).fB).fN)),(.int .i64 (((nth zk zq).fB).fD)),(.int .i64 (((nth zk zq).fR).fN)),(.int .i64 (((nth zk zq).fR).fD))]] _).mem hx') (.head _) _).stb) hr) zto) ?_
      refine WL.a (d:=20) rfl rfl rfl (y1m rfl) ?_
      refine WL.a (d:=21) rfl rfl rfl (ys rfl rfl) ?_
      exact WL.y9 () trivial (.cons rfl (.cons rfl (.cons rfl (.cons rfl (.cons rfl (.cons rfl (.cons (zr zft) .nil))))))) (.cons .here (.cons .here .nil))
     ·have zp3:=hb'; clear hb'
      have zkh:=yi zp1 zp3
      replace zkh:=Option.some.inj zkh
      refine WL.pin (i:=16) rfl zp3 ?_
      refine WL.e rfl rfl rfl ?_
      refine WL.e rfl rfl rfl ?_
      refine WL.e rfl rfl rfl ?_
      refine WL.e rfl rfl rfl ?_
      refine WL.a (d:=21) rfl rfl rfl (yr rfl rfl) ?_
      exact WL.y9 () trivial (.cons rfl (.cons rfl (.cons rfl (.cons rfl (.cons rfl (.cons rfl (.cons (zr zkh) .nil))))))) (.cons .here (.cons .here .nil))
    ·skip
     refine WL.nil ?_
     refine WX.a ?_
     refine WC.cond rfl (fun zki=>?_) (fun zki=>?_)
     ·replace h:=yh h zki
      obtain ⟨ztp,h⟩:=yl h
      refine WC.a ?_
      refine WL.a (d:=22) rfl rfl rfl (q_m rfl) ?_
      refine WL.a (d:=23) rfl rfl rfl (y4 (cs:=[(.int .i64 (((nth zk zq).fB).fN)),(.int .i64 (((nth zk zq).fB).fD)),(.int .i64 (((nth zk zq).fR).fN)),(.int .i64 (((nth zk zq).fR).fD))]) y1D rfl rfl (y8 .here)) ?_
      refine WL.new (dd:=24) rfl rfl rfl (yB (cs:=([(⟨(⟨(((nth zk zq).fB).fN),(((nth zk zq).fB).fD)⟩ : z7),(⟨(((nth zk zq).fR).fN),(((nth zk zq).fR).fD)⟩ : z7)⟩ : z6)] : List z6).flatMap e35) y2w (Eos.parts (l:=[.tmp 23]) (.cons rfl .nil) [0]) (fun _=>by kernel_rfl) rfl (by unfold maxLen; omega)) ?_
      intro zAP _
      refine WL.eff (d:=25) rfl rfl rfl (y4c (enc:=e35) (l1:=z1F) (l2:=([(⟨(⟨(((nth zk zq).fB).fN),(((nth zk zq).fB).fD)⟩ : z7),(⟨(((nth zk zq).fR).fN),(((nth zk zq).fR).fD)⟩ : z7)⟩ : z6)] : List z6)) y2w rfl rfl .h2 (fun _=>rfl) rfl rfl (y4a .here) (y4L e35_oc _) ztp) ?_
      rintro ⟨ztq,ztr⟩ _
      refine WL.a (d:=3) rfl rfl rfl (q_z rfl) ?_
      refine WL.nil ?_
      refine WX.yg ?_
      exact WX.mid (G:=List z6 × Option Addr × Nat) ⟨(z1F ++ ([(⟨(⟨(((nth zk zq).fB).fN),(((nth zk zq).fB).fD)⟩ : z7),(⟨(((nth zk zq).fR).fN),(((nth zk zq).fR).fD)⟩ : z7)⟩ : z6)] : List z6)),ztq,ztr⟩ h (.cons rfl (.cons rfl (.cons rfl (.cons rfl (.cons rfl .nil))))) (.cons .here .nil)
     ·replace h:=yi h zki
      refine WC.skip ?_
      refine WX.yg ?_
      exact WX.mid (G:=List z6 × Option Addr × Nat) ⟨z1F,z3w,z3x⟩ h (.cons rfl (.cons rfl (.cons rfl (.cons rfl (.cons rfl .nil))))) (.cons .h1 .nil)
   ·rintro z8Z zdN zdO h
    replace h:=(ztk z8Z).symm.trans h
    refine WC.a ?_
    refine WL.a (d:=26) rfl rfl rfl (yW rfl rfl rfl) ?_
    refine WL.a (d:=8) rfl rfl rfl (q_m rfl) ?_
    refine WL.nil ?_
    exact WX.round (G:=Nat × List z6 × Int × Option Addr × Nat) ⟨zkd,z8Z,(i64 (zq + 1)),zdN,zdO⟩ h (Nat.lt_succ_self _) (.cons rfl (.cons rfl (.cons rfl (.cons rfl (.cons rfl .nil))))) (.cons .here .nil)
  ·replace h:=yi h zkg
   refine WC.exit ?_
   refine WX.ye ?_
   refine WX.ye ?_
   refine WX.yx ?_
   exact WX.mid (G:=List z6 × Option Addr × Nat) ⟨z1F,z3w,z3x⟩ h (.cons rfl .nil) (.cons .here .nil)
 ·rintro z54 z7C z7D h
  replace h:=(ztj z54).symm.trans h
  refine WC.b ?_
  obtain ⟨zhh,zts,h⟩:=ze h
  refine WC.a ?_
  refine WL.a (d:=27) rfl rfl rfl (q_m rfl) ?_
  refine WL.y6m (dd:=28) rfl rfl rfl (zj (l:=[.tmp 27,.func 63]) Try.call62 (.cons rfl (.cons rfl .nil))) ((.cons .here .nil) : Sel [row (.slice z7C z54.length z7D) 35 4 (z54.flatMap e35)] [row (.slice z7C z54.length z7D) 35 4 (z54.flatMap e35)] []) (fun w hw=>by have pz:=(hz.call hw ((.cons .here .nil) : Sel [row (.slice z7C z54.length z7D) 35 4 (z54.flatMap e35)] [row (.slice z7C z54.length z7D) 35 4 (z54.flatMap e35)] [])); exact y42 (Z:=_) (z5f:=z7C) (z5g:=z7D) (zbi:=63) (zdL:=[]) (z2o:=z54) (zdK:=(fun (y0 : z6) (y1 : z6)=>y3A y0 y1)) (r:=zhh) w pz Try.call63 (fun w' hz' y0 y1  r  hr=>y8j (Z:=_)  (z2Q:=y0) (z2R:=y1) (r:=r) w' hz'  hr) zts (hw.owns ((.cons .here .nil) : Sel [row (.slice z7C z54.length z7D) 35 4 (z54.flatMap e35)] [row (.slice z7C z54.length z7D) 35 4 (z54.flatMap e35)] []))) ?_
  rintro  ztt
  refine WL.repin (i:=3) rfl (u:=(.slice z7C zhh.length z7D)) (slen ztt.symm) ?_
  refine WL.nil ?_
  refine WX.a ?_
  refine WC.b ?_
  refine WC.a ?_
  refine WL.a (d:=29) rfl rfl rfl (q_m rfl) ?_
  refine WL.a (d:=2) rfl rfl rfl (q_z rfl) ?_
  refine WL.nil ?_
  refine WX.a ?_
  refine WC.ret ?_
  obtain rfl:=Option.some.inj h
  refine WX.y7 Try.results48 (.tmp rfl .nil) (fun w hw=>?_)
  exact ⟨z7C,z7D,yD rfl,trivial,hw.sub (.cons .here .nil)⟩
def y3T (zad : List z6) (zae : List z6) : Option (List z6 × List z6) :=
 some (zad,zae)
set_option maxRecDepth 20000 in
theorem y8K (Z : Zp)  (zcm : Option Addr) (zcn : Nat) (zco : Option Addr) (zcp : Nat) (zad : List z6) (zae : List z6) (r : List z6 × List z6) (w₀ : World) (hz : PZ [] w₀ Z)
  (ztu : ZS Z 4 (fun r x=>r = e35 x) zcm zcn zad)
  (ztv : ZS Z 4 (fun r x=>r = e35 x) zco zcp zae)
  (h : y3T zad zae = some r) :
  Calls Try.prog 76 #[(.slice zcm zad.length zcn),(.slice zco zae.length zcp)] w₀ fun e w'=>∃ zp4 : Nat,∃ zp5 : Nat,∃ zp6 : Option Addr,∃ zp7 : Nat,∃ zp8 : Option Addr,∃ zp9 : Nat,e = .returned (.func (.func 89) #[] #[(.pointer (some ⟨zp4,0,none⟩)),(.pointer (some ⟨zp5,0,none⟩))]) ∧ ((ZS Z 4 (fun r x=>r = e35 x) zp6 zp7 r.1) ∧ (ZS Z 4 (fun r x=>r = e35 x) zp8 zp9 r.2)) ∧ Hp [] w₀ w' [stb zp4 39 [(.slice zp6 r.1.length zp7)],stb zp5 39 [(.slice zp8 r.2.length zp9)]]:=by
 unfold y3T at h
 refine Calls.yd (vs:=[(.slice zcm zad.length zcn),(.slice zco zae.length zcp)]) (pre:=[]) (env:=[(0,(.slice zcm zad.length zcn)),(1,(.slice zco zae.length zcp))]) Try.func76 rfl Try.ntmps76 rfl (Hp.nil w₀ _) rfl ?_
 refine WC.b ?_
 refine WC.a ?_
 refine WL.new (dd:=2) rfl rfl rfl (yI (cs:=[(.slice zcm zad.length zcn)]) rfl rfl) ?_
 intro ztw _
 refine WL.new (dd:=3) rfl rfl rfl (yI (cs:=[(.slice zco zae.length zcp)]) rfl rfl) ?_
 intro ztx _
 refine WL.a (d:=4) rfl rfl rfl (q_z rfl) ?_
 refine WL.nil ?_
 refine WX.a ?_
 refine WC.b ?_
 refine WC.a ?_
 refine WL.a (d:=5) rfl rfl rfl (y1d (Eos.caps (l:=[.tmp 2,.tmp 3]) (.cons rfl (.cons rfl .nil)))) ?_
 refine WL.a (d:=4) rfl rfl rfl (q_z rfl) ?_
 refine WL.nil ?_
 refine WX.a ?_
 refine WC.ret ?_
 obtain rfl:=Option.some.inj h
 refine WX.y7 Try.results76 (.tmp rfl .nil) (fun w hw=>?_)
 exact ⟨ztw,ztx,zcm,zcn,zco,zcp,yD rfl,⟨ztu,ztv⟩,hw.sub (.cons .h1 (.cons .here .nil))⟩
end Go.Proofs.Ytakfmdiiehcbdaa
