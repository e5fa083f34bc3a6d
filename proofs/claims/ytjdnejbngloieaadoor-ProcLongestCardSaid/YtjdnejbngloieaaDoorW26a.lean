/- A part of this claim's proof: models of functions, walks, plain laws. No conditions. -/
import Derived.Test.YtjdnejbngloieaaDoorZSortF
import Derived.Test.YtjdnejbngloieaaDoorZSort
import Derived.Test.YtjdnejbngloieaaDoorZUnroll
import Derived.Test.YtjdnejbngloieaaDoorZArr
import Derived.Test.YtjdnejbngloieaaDoorShelf26
import Derived.Test.YtjdnejbngloieaaDoorProg
namespace Go.Proofs.YtjdnejbngloieaaDoor
open Go Go.RowKit Sep
set_option linter.all false
set_option maxRecDepth 30000
set_option maxHeartbeats 4000000
structure S34 where
 a0 : Int
 a1 : Int
 a2 : Int
 a3 : Int
 deriving Inhabited,DecidableEq
def e5 (x : Int) : List Value:=[(.int .u8 x)]
theorem e5_oc : ∀ x,∀ u ∈ e5 x,u.oneCell' = true:=fun _=>ocB rfl
def e3 (x : Int) : List Value:=[(.int .i64 x)]
theorem y6A : ∀ x,∀ u ∈ e3 x,u.oneCell' = true:=fun _=>ocB rfl
structure Sapi_Ins where
 fOp : Int
 fA : Int
 fB : Int
 fC : Int
 deriving Inhabited,DecidableEq
structure S7 where
 fX : Int
 fY : Int
 fSigned : Bool
 fCode : Int
 deriving Inhabited,DecidableEq
structure S13 where
 fMsg : ByteArray
 fAddr : Int
 deriving Inhabited,DecidableEq
def e33 (x : Sapi_Ins) : List Value:=[(.int .u8 x.fOp),(.int .i64 x.fA),(.int .i64 x.fB),(.int .i64 x.fC)]
structure Sproc_State where
 fPc : Int
 fLeft : Int
 fRegs : S34
 deriving Inhabited,DecidableEq
def e76 (x : Int) : List Value:=[(.int .u8 x)]
def p74 (Z : Zp) (r : List Value) (x : List Int) : Prop:=∃ (ao0 : Option Addr) (cap0 : Nat),r = [(.slice ao0 x.length cap0)] ∧ ZS Z 1 (fun r x=>r = e76 x) ao0 cap0 x
theorem y12 {Z Z' : Zp} (k : Zle Z Z') {r : List Value} {x : List Int} (h : p74 Z r x) : p74 Z' r x:=by
 obtain ⟨ao0,cap0,hr,h0⟩:=h
 exact ⟨ao0,cap0,hr,h0.mono k⟩
def y17 : List (List Int):=[[],[1],[2,3],[2,2],[2,2],[2,4,2],[2,4,2],[6,2,5],[6,2,2],[6],[6],[6],[6],[6],[6,2],[6,2],[6,2],[6,2],[6],[],[7],[2,7],[2,2,7],[2,2],[3],[]]
structure Sproc_Act where
 fKind : Int
 fA : Int
 fB : Int
 fData : List Int
 deriving Inhabited,DecidableEq
structure Sproc_execution where
 fState : Sproc_State
 fX : Sapi_Ins
 fMem : List Int
 fAct : Sproc_Act
 deriving Inhabited,DecidableEq
def y67 : List Value:=[.nilFunc,.func (.func 84) #[] #[],.func (.func 85) #[] #[],.func (.func 82) #[] #[],.func (.func 86) #[] #[],.func (.func 87) #[] #[],.func (.func 88) #[] #[],.func (.func 89) #[] #[],.func (.func 90) #[] #[],.func (.func 91) #[] #[],.func (.func 92) #[] #[],.func (.func 93) #[] #[],.func (.func 94) #[] #[],.func (.func 95) #[] #[],.func (.func 96) #[] #[],.func (.func 97) #[] #[],.func (.func 98) #[] #[],.func (.func 99) #[] #[],.func (.func 100) #[] #[],.func (.func 101) #[] #[],.func (.func 102) #[] #[],.func (.func 103) #[] #[],.func (.func 104) #[] #[],.func (.func 105) #[] #[],.func (.func 106) #[] #[],.func (.func 107) #[] #[]]
def e39 (x : Sproc_State) : List Value:=[(.int .i64 x.fPc),(.int .i64 x.fLeft),(.int .u8 x.fRegs.a0),(.int .u8 x.fRegs.a1),(.int .u8 x.fRegs.a2),(.int .u8 x.fRegs.a3)]
def e34 (x : S34) : List Value:=[(.int .u8 x.a0),(.int .u8 x.a1),(.int .u8 x.a2),(.int .u8 x.a3)]
theorem yU : elT Tryd.prog 30 3 1 8:=⟨Tryd.underlying30,⟨Tryd.t3,_,rfl,rfl,rfl,rfl,rfl⟩,by decide⟩
theorem y3W : y2r Tryd.prog 33 (.agg #[(.int .u8 0),(.int .i64 0),(.int .i64 0),(.int .i64 0)]):=y3e (i:=Tryd.t33) rfl rfl
theorem yd : y41 Tryd.prog 3:=y3j Tryd.underlying3 rfl
theorem y3X : y3M Tryd.prog 33 4:=y3k (i:=Tryd.t33) rfl
theorem y3p : aggT Tryd.prog 33 4:=y64 (i:=Tryd.t33) Tryd.underlying33 rfl rfl
theorem y3P : elT Tryd.prog 22 33 4 32:=⟨Tryd.underlying22,⟨Tryd.t33,_,rfl,rfl,rfl,rfl,rfl⟩,by decide⟩
theorem y68 : y2r Tryd.prog 5 (.int .u8 0):=y3e (i:=Tryd.t5) rfl rfl
theorem y1v : elT Tryd.prog 35 5 1 1:=⟨Tryd.underlying35,⟨Tryd.t5,_,rfl,rfl,rfl,rfl,rfl⟩,by decide⟩
theorem y1z : y2r Tryd.prog 39 (.agg #[(.int .i64 0),(.int .i64 0),(.int .u8 0),(.int .u8 0),(.int .u8 0),(.int .u8 0)]):=y3e (i:=Tryd.t39) rfl rfl
theorem y1p : y3M Tryd.prog 39 6:=y3k (i:=Tryd.t39) rfl
theorem y13 : aggT Tryd.prog 39 6:=y64 (i:=Tryd.t39) Tryd.underlying39 rfl rfl
theorem y2g : y2r Tryd.prog 41 (.agg #[(.int .u8 0),(.int .i64 0),(.int .i64 0),(.slice none 0 0)]):=y3e (i:=Tryd.t41) rfl rfl
theorem y1c : y1k Tryd.prog 39 0 0:=y11 (i:=Tryd.t3) Tryd.underlying39 rfl rfl (by decide) rfl
theorem y2C : y1k Tryd.prog 33 0 0:=y11 (i:=Tryd.t5) Tryd.underlying33 rfl rfl (by decide) rfl
theorem yB : y41 Tryd.prog 5:=y3j Tryd.underlying5 rfl
theorem yS : y1k Tryd.prog 33 1 1:=y11 (i:=Tryd.t3) Tryd.underlying33 rfl rfl (by decide) rfl
theorem y14 : y1k Tryd.prog 33 2 2:=y11 (i:=Tryd.t3) Tryd.underlying33 rfl rfl (by decide) rfl
theorem y3q : y1k Tryd.prog 33 3 3:=y11 (i:=Tryd.t3) Tryd.underlying33 rfl rfl (by decide) rfl
theorem zeroT_73 : y2r Tryd.prog 73 (.agg #[(.int .i64 0),(.int .i64 0),(.int .i64 0)]):=y3e (i:=Tryd.t73) rfl rfl
theorem sizT_73 : y3M Tryd.prog 73 3:=y3k (i:=Tryd.t73) rfl
theorem arT_75 : arT Tryd.prog 75 74 26 1:=y6y Tryd.underlying75 (inf:=Tryd.t74) rfl rfl rfl
theorem oneT_74 : y41 Tryd.prog 74:=y3j Tryd.underlying74 rfl
theorem elT_74 : elT Tryd.prog 74 76 1 1:=⟨Tryd.underlying74,⟨Tryd.t76,_,rfl,rfl,rfl,rfl,rfl⟩,by decide⟩
theorem oneT_76 : y41 Tryd.prog 76:=y3j Tryd.underlying76 rfl
theorem arT_73 : arT Tryd.prog 73 3 3 1:=y6y Tryd.underlying73 (inf:=Tryd.t3) rfl rfl rfl
theorem y1g : y3M Tryd.prog 41 4:=y3k (i:=Tryd.t41) rfl
theorem y35 : aggT Tryd.prog 41 4:=y64 (i:=Tryd.t41) Tryd.underlying41 rfl rfl
theorem yI : y1k Tryd.prog 65 0 0:=y11 (i:=Tryd.t39) Tryd.underlying65 rfl rfl (by decide) rfl
theorem y20 : y3M Tryd.prog 3 1:=y3k (i:=Tryd.t3) rfl
theorem arT_67 : arT Tryd.prog 67 66 26 1:=y6y Tryd.underlying67 (inf:=Tryd.t66) rfl rfl rfl
theorem y36 : y1k Tryd.prog 39 1 1:=y11 (i:=Tryd.t3) Tryd.underlying39 rfl rfl (by decide) rfl
theorem yo : y1k Tryd.prog 65 1 6:=y11 (i:=Tryd.t33) Tryd.underlying65 rfl rfl (by decide) rfl
theorem yq : y41 Tryd.prog 66:=y3j Tryd.underlying66 rfl
theorem y51 : y1k Tryd.prog 39 2 2:=y11 (i:=Tryd.t34) Tryd.underlying39 rfl rfl (by decide) rfl
theorem y60 : arT Tryd.prog 34 5 4 1:=y6y Tryd.underlying34 (inf:=Tryd.t5) rfl rfl rfl
theorem y2h : y3M Tryd.prog 5 1:=y3k (i:=Tryd.t5) rfl
theorem y69 : y1k Tryd.prog 65 2 10:=y11 (i:=Tryd.t35) Tryd.underlying65 rfl rfl (by decide) rfl
theorem y49 : y41 Tryd.prog 35:=y3j Tryd.underlying35 rfl
theorem y2e : y1k Tryd.prog 65 3 11:=y11 (i:=Tryd.t41) Tryd.underlying65 rfl rfl (by decide) rfl
theorem y6a : y1k Tryd.prog 41 0 0:=y11 (i:=Tryd.t5) Tryd.underlying41 rfl rfl (by decide) rfl
theorem eqT_39 : EqT Tryd.prog 39 e39:=⟨fun u v w=>by
 have i39_10000:=fun (w : World) (a b : Array Value)=>run_equalIn_agg (P:=Tryd.prog) w 9999 39 a b (by simp [Program.fieldsOf,Tryd.underlying39]) (by kernel_rfl)
 have i3_9999:=fun (w : World) (a b : Int)=>run_equalIn_int (P:=Tryd.prog) w 9998 3 .i64 .i64 a b Tryd.underlying3
 have i5_9998:=fun (w : World) (a b : Int)=>run_equalIn_int (P:=Tryd.prog) w 9997 5 .u8 .u8 a b Tryd.underlying5
 have i34_9999 : ∀ (w : World) (a0 a1 a2 a3 b0 b1 b2 b3 : Int),(Op.equalIn 9999 34 (.agg #[.int .u8 a0,.int .u8 a1,.int .u8 a2,.int .u8 a3]) (.agg #[.int .u8 b0,.int .u8 b1,.int .u8 b2,.int .u8 b3])).run Tryd.prog w = .ok (decide (a0 = b0 ∧ a1 = b1 ∧ a2 = b2 ∧ a3 = b3)) w:=fun w a0 a1 a2 a3 b0 b1 b2 b3=>by
  rw [show (9999 : Nat) = 9998 + 1 from rfl,Op.equalIn]
  simp [run_underlying Tryd.underlying34,part,i5_9998,List.range',Std.Legacy.Range.forIn_eq_forIn_range',Std.Legacy.Range.size]
  by_cases h0 : a0 = b0 <;> by_cases h1 : a1 = b1 <;> by_cases h2 : a2 = b2 <;> by_cases h3 : a3 = b3 <;> simp [h0,h1,h2,h3]
 rw [i39_10000]
 simp [Program.fieldsOf,Op.eqFields,part,e39,i39_10000,Tryd.underlying39,i3_9999,i5_9998,i34_9999]
 rcases u with ⟨u1,u2,⟨u3,u4,u5,u6⟩⟩
 rcases v with ⟨v1,v2,⟨v3,v4,v5,v6⟩⟩
 by_cases h1 : u1 = v1 <;> by_cases h2 : u2 = v2 <;> by_cases h3 : u3 = v3 <;> by_cases h4 : u4 = v4 <;> by_cases h5 : u5 = v5 <;> by_cases h6 : u6 = v6 <;> simp [h1,h2,h3,h4,h5,h6],by kernel_rfl⟩
theorem y3I : y41 Tryd.prog 22:=y3j Tryd.underlying22 rfl
theorem y4g : KeyT Tryd.prog 3 (Value.int .i64):=keyT_int Tryd.underlying3
theorem zeroT_54 : y2r Tryd.prog 54 (.map none):=y3e (i:=Tryd.t54) rfl rfl
theorem sizT_54 : y3M Tryd.prog 54 1:=y3k (i:=Tryd.t54) rfl
theorem zeroT_55 : y2r Tryd.prog 55 .nilFunc:=y3e (i:=Tryd.t55) rfl rfl
theorem sizT_55 : y3M Tryd.prog 55 1:=y3k (i:=Tryd.t55) rfl
theorem y7I : y41 Tryd.prog 55:=y3j Tryd.underlying55 rfl
theorem y4a : y41 Tryd.prog 54:=y3j Tryd.underlying54 rfl
theorem y6b : y2r Tryd.prog 3 (.int .i64 0):=y3e (i:=Tryd.t3) rfl rfl
theorem y6N : y1k Tryd.prog 41 1 1:=y11 (i:=Tryd.t3) Tryd.underlying41 rfl rfl (by decide) rfl
theorem y6O : y1k Tryd.prog 41 2 2:=y11 (i:=Tryd.t3) Tryd.underlying41 rfl rfl (by decide) rfl
theorem y7J : y1k Tryd.prog 41 3 3:=y11 (i:=Tryd.t35) Tryd.underlying41 rfl rfl (by decide) rfl
theorem aggT_34 : aggT Tryd.prog 34 4:=y64 (i:=Tryd.t34) Tryd.underlying34 rfl rfl
def y2o (l : List Int) : Option (List Int):=chk (0 < l.length ∧ l.length < 4611686018427387904) (some (y4y l))
theorem y74 (Z : Zp) (ao : Option Addr) (cap : Nat) (l : List Int) (r : List Int) (w₀ : World) (hz : PZ (fps [row (.slice ao l.length cap) 3 1 (l.flatMap e3)]) w₀ Z)
  (h : y2o l = some r) (hown : Hp (fps [row (.slice ao l.length cap) 3 1 (l.flatMap e3)]) w₀ w₀ [row (.slice ao l.length cap) 3 1 (l.flatMap e3)]) :
  Calls Tryd.prog 34 #[.slice ao l.length cap] w₀ fun e w'=>e = .returned (.tuple #[]) ∧ (r.length = l.length) ∧ Hp (fps [row (.slice ao l.length cap) 3 1 (l.flatMap e3)]) w₀ w' [row (.slice ao r.length cap) 3 1 (r.flatMap e3)]:=by
 obtain ⟨h0,h⟩:=ya h
 exact sort_int (fun _=>rfl) Tryd.slices_Sort_int ao cap l r w₀ h0 ((Option.some.inj h).symm.trans (y7g l).symm) hown
def y1l (op_10 : Int) (l_11 : List Int) : Option Sapi_Ins :=
 chk ((((([] : List Int) ++ l_11).length : Nat) : Int) * 8 ≤ 140737488355328 ∧ (((([] : List Int) ++ l_11).length : Nat) : Int) ≤ 4611686018427387904) (chk (((((([] : List Int) ++ l_11) ++ ([0,0,0] : List Int)).length : Nat) : Int) * 8 ≤ 140737488355328 ∧ ((((([] : List Int) ++ l_11) ++ ([0,0,0] : List Int)).length : Nat) : Int) ≤ 4611686018427387904) (chk ((0 : Int) ≤ 0 ∧ 0 < ((((([] : List Int) ++ l_11) ++ ([0,0,0] : List Int)).length : Nat) : Int)) (chk ((0 : Int) ≤ 1 ∧ 1 < ((((([] : List Int) ++ l_11) ++ ([0,0,0] : List Int)).length : Nat) : Int)) (chk ((0 : Int) ≤ 2 ∧ 2 < ((((([] : List Int) ++ l_11) ++ ([0,0,0] : List Int)).length : Nat) : Int)) (some (⟨op_10,(nth ((([] : List Int) ++ l_11) ++ ([0,0,0] : List Int)) 0),(nth ((([] : List Int) ++ l_11) ++ ([0,0,0] : List Int)) 1),(nth ((([] : List Int) ++ l_11) ++ ([0,0,0] : List Int)) 2)⟩ : Sapi_Ins))))))
set_option maxRecDepth 20000 in
theorem y1y (Z : Zp) (ao_12 : Option Addr) (cap_13 : Nat) (op_10 : Int) (l_11 : List Int) (r : Sapi_Ins)
  (h : y1l op_10 l_11 = some r) (w₀ : World) (hz : PZ [] w₀ Z)
  (hs_14 : ZS Z 1 (fun r x=>r = e3 x) ao_12 cap_13 l_11) :
  Calls Tryd.prog 17 #[(.int .u8 op_10),(.slice ao_12 l_11.length cap_13)] w₀ fun e w'=>e = .returned (.agg #[(.int .u8 r.fOp),(.int .i64 r.fA),(.int .i64 r.fB),(.int .i64 r.fC)]) ∧ Hp [] w₀ w' []:=by
 unfold y1l at h
 refine Calls.y8 (vs:=[(.int .u8 op_10),(.slice ao_12 l_11.length cap_13)]) (pre:=[]) (env:=[(0,(.int .u8 op_10)),(1,(.slice ao_12 l_11.length cap_13))]) Tryd.func17 rfl Tryd.ntmps17 rfl (Hp.nil w₀ _) rfl ?_
 refine WC.b (WC.a ?_)
 refine WL.new (dd:=4) rfl rfl rfl (yE (cs:=[(.int .u8 0),(.int .i64 0),(.int .i64 0),(.int .i64 0)]) y3W rfl) ?_
 intro b_39 _
 refine WL.nil (WX.a (WC.b ?_))
 obtain ⟨c_41,h⟩:=ya h
 obtain ⟨c_45,h⟩:=ya h
 refine WC.a ?_
 refine WL.new (dd:=5) rfl rfl rfl (yy (cs:=([] : List Int).flatMap e3) yU (Eos.parts (l:=[]) .nil []) (fun _=>by kernel_rfl) rfl (by unfold maxLen; omega)) ?_
 intro b_48 _
 refine WL.pu rfl ?_
 refine WL.eff (d:=7) rfl rfl rfl (y40 (enc:=e3) (l1:=([] : List Int)) (l2:=l_11) yU rfl rfl .here (fun _=>rfl) rfl rfl (news_z hz.pv hs_14) (y46 y6A _) c_41) ?_
 rintro ⟨ao_49,cap_50⟩ _
 refine WL.new (dd:=8) rfl rfl rfl (yy (cs:=([0,0,0] : List Int).flatMap e3) yU (Eos.parts (l:=[.const (.int .i64 0),.const (.int .i64 0),.const (.int .i64 0)]) (.cons rfl (.cons rfl (.cons rfl .nil))) [0,1,2]) (fun _=>by kernel_rfl) rfl (by unfold maxLen; omega)) ?_
 intro b_51 _
 refine WL.eff (d:=9) rfl rfl rfl (y40 (enc:=e3) (l1:=([] : List Int) ++ l_11) (l2:=([0,0,0] : List Int)) yU rfl rfl .h1 (fun _=>rfl) rfl rfl (y6j .here) (y46 y6A _) c_45) ?_
 rintro ⟨ao_52,cap_53⟩ _
 refine WL.pu rfl (WL.nil (WX.a (WC.b ?_)))
 obtain ⟨c_54,h⟩:=ya h
 obtain ⟨c_56,h⟩:=ya h
 obtain ⟨c_57,h⟩:=ya h
 refine WC.yX (fun i=>[11].contains i) [] rfl ?_
 refine WD.a (i:=0) (d:=10) (by kernel_rfl) rfl z2 z6 rfl rfl rfl (fun _=>q_m rfl) ?_
 refine WD.a (i:=1) (d:=11) (by kernel_rfl) rfl z2 z6 rfl rfl rfl (fun _=>q_m rfl) ?_
 refine WD.know (fun w hw=>Hp.y3Z .here hw (by intro hz'; have:=c_54; rw [hz'] at this; omega)) ?_
 rintro ⟨b_59,rfl⟩
 refine WD.a (i:=2) (d:=12) (by kernel_rfl) rfl z2 z6 rfl rfl rfl (fun _=>yT yU rfl rfl c_54.1 c_54.2 y3f) ?_
 refine WD.e (i:=3) (d:=13) (by kernel_rfl) rfl z2 z6 rfl rfl rfl (y5 yd rfl (y3x .here ((y33 (enc:=e3) (l:=(([] : List Int) ++ l_11) ++ ([0,0,0] : List Int)) (i:=0) (sz:=1) (fun _=>rfl) c_54.1 c_54.2) 0 _ rfl))) ?_
 refine WD.a (i:=4) (d:=14) (by kernel_rfl) rfl z2 z6 rfl rfl rfl (fun _=>q_m rfl) ?_
 refine WD.a (i:=5) (d:=15) (by kernel_rfl) rfl z2 z6 rfl rfl rfl (fun _=>yT yU rfl rfl c_56.1 c_56.2 y3f) ?_
 refine WD.e (i:=6) (d:=16) (by kernel_rfl) rfl z2 z6 rfl rfl rfl (y5 yd rfl (y3x .here ((y33 (enc:=e3) (l:=(([] : List Int) ++ l_11) ++ ([0,0,0] : List Int)) (i:=1) (sz:=1) (fun _=>rfl) c_56.1 c_56.2) 0 _ rfl))) ?_
 refine WD.a (i:=7) (d:=17) (by kernel_rfl) rfl z2 z6 rfl rfl rfl (fun _=>q_m rfl) ?_
 refine WD.a (i:=8) (d:=18) (by kernel_rfl) rfl z2 z6 rfl rfl rfl (fun _=>yT yU rfl rfl c_57.1 c_57.2 y3f) ?_
 refine WD.e (i:=9) (d:=19) (by kernel_rfl) rfl z2 z6 rfl rfl rfl (y5 yd rfl (y3x .here ((y33 (enc:=e3) (l:=(([] : List Int) ++ l_11) ++ ([0,0,0] : List Int)) (i:=2) (sz:=1) (fun _=>rfl) c_57.1 c_57.2) 0 _ rfl))) ?_
 refine WD.a (i:=10) (d:=20) (by kernel_rfl) rfl z2 z6 rfl rfl rfl (fun _=>yR (v:=(.agg #[(.int .u8 op_10),(.int .i64 (nth ((([] : List Int) ++ l_11) ++ ([0,0,0] : List Int)) 0)),(.int .i64 (nth ((([] : List Int) ++ l_11) ++ ([0,0,0] : List Int)) 1)),(.int .i64 (nth ((([] : List Int) ++ l_11) ++ ([0,0,0] : List Int)) 2))])) (Eos.parts (l:=[.tmp 10,.tmp 13,.tmp 16,.tmp 19]) (.cons rfl (.cons rfl (.cons rfl (.cons rfl .nil)))) [0,1,2,3]) (fun _=>by kernel_rfl)) ?_
 refine WD.y1t (i:=11) rfl (by kernel_rfl) rfl rfl rfl (by kernel_rfl) (yu y3X rfl rfl rfl .h2 rfl rfl rfl) ?_
 refine WD.done (by kernel_rfl) ?_
 refine WX.a (WC.ret ?_)
 obtain rfl:=Option.some.inj h
 refine WX.yh Tryd.results17 (.agg rfl y3p rfl (yJ .here) .nil) (fun w hw=>?_)
 exact ⟨y1a rfl,hw.sub .nil⟩
def y1I (z5s : Int) (z5t : Int) (zbw : Int) : Option Bool :=
 jp2 (fun (z89 : Int) (z8a : Int)=>some ((decide (z5t ≥ z89)) && (decide (z5t ≤ z8a)))) fun z7l=>if decide (z5s = 1) then z7l 1 2000 else if decide (z5s = 2) then z7l 0 3 else if decide (z5s = 3) then z7l 0 255 else if decide (z5s = 4) then z7l 0 4095 else if decide (z5s = 5) then z7l 1 64 else if decide (z5s = 6) then z7l 0 z5t else if decide (z5s = 7) then z7l 0 (i64 (zbw - 1)) else z7l 0 0
set_option maxRecDepth 20000 in
theorem y5L (Z : Zp)  (z5s : Int) (z5t : Int) (zbw : Int) (r : Bool)
  (h : y1I z5s z5t zbw = some r) (w₀ : World) (hz : PZ [] w₀ Z) :
  Calls Tryd.prog 43 #[(.int .u8 z5s),(.int .i64 z5t),(.int .i64 zbw)] w₀ fun e w'=>e = .returned (.bool r) ∧ Hp [] w₀ w' []:=by
 unfold y1I at h
 refine Calls.y8 (vs:=[(.int .u8 z5s),(.int .i64 z5t),(.int .i64 zbw)]) (pre:=[]) (env:=[(0,(.int .u8 z5s)),(1,(.int .i64 z5t)),(2,(.int .i64 zbw))]) Tryd.func43 rfl Tryd.ntmps43 rfl (Hp.nil w₀ _) rfl ?_
 refine WC.b (WC.a (WL.pu rfl (WL.nil (WX.a (WC.b (WC.a (WL.pu rfl (WL.pu rfl (WL.nil (WX.a ?_))))))))))
 obtain ⟨z7l,zld,h⟩:=y5t h
 refine WC.y44 (fun (z89 : Int) (z8a : Int)=>(z7l z89 z8a = some r)) (fun (z89 : Int) (z8a : Int)=>[(1,(.int .i64 z5t)),(7,(.int .i64 z89)),(8,(.int .i64 z8a))]) (fun (z89 : Int) (z8a : Int)=>[]) ?_ ?_
 ·skip
  refine WC.b (WC.a (WL.pu rfl (WL.nil (WX.a (WC.block (WC.b (WC.a (WL.pu rfl (WL.pu rfl (WL.nil (WX.a ?_)))))))))))
  refine WC.cond rfl (fun zff=>?_) (fun zff=>?_)
  ·replace h:=yl h zff
   refine WC.a (WL.pu rfl (WL.pu rfl (WL.nil (WX.yk ?_))))
   exact WX.mid (G:=Int × Int) ⟨1,2000⟩ h (.cons rfl (.cons rfl (.cons rfl .nil))) .nil
  ·replace h:=ym h zff
   refine WC.b (WC.a (WL.pu rfl (WL.pu rfl (WL.nil (WX.a ?_)))))
   refine WC.cond rfl (fun zfg=>?_) (fun zfg=>?_)
   ·replace h:=yl h zfg
    refine WC.a (WL.pu rfl (WL.nil (WX.yk ?_)))
    exact WX.mid (G:=Int × Int) ⟨0,3⟩ h (.cons rfl (.cons rfl (.cons rfl .nil))) .nil
   ·replace h:=ym h zfg
    refine WC.b (WC.a (WL.pu rfl (WL.pu rfl (WL.nil (WX.a ?_)))))
    refine WC.cond rfl (fun zfh=>?_) (fun zfh=>?_)
    ·replace h:=yl h zfh
     refine WC.a (WL.pu rfl (WL.nil (WX.yk ?_)))
     exact WX.mid (G:=Int × Int) ⟨0,255⟩ h (.cons rfl (.cons rfl (.cons rfl .nil))) .nil
    ·replace h:=ym h zfh
     refine WC.b (WC.a (WL.pu rfl (WL.pu rfl (WL.nil (WX.a ?_)))))
     refine WC.cond rfl (fun zfi=>?_) (fun zfi=>?_)
     ·replace h:=yl h zfi
      refine WC.a (WL.pu rfl (WL.nil (WX.yk ?_)))
      exact WX.mid (G:=Int × Int) ⟨0,4095⟩ h (.cons rfl (.cons rfl (.cons rfl .nil))) .nil
     ·replace h:=ym h zfi
      refine WC.b (WC.a (WL.pu rfl (WL.pu rfl (WL.nil (WX.a ?_)))))
      refine WC.cond rfl (fun zfj=>?_) (fun zfj=>?_)
      ·replace h:=yl h zfj
       refine WC.a (WL.pu rfl (WL.pu rfl (WL.nil (WX.yk ?_))))
       exact WX.mid (G:=Int × Int) ⟨1,64⟩ h (.cons rfl (.cons rfl (.cons rfl .nil))) .nil
      ·replace h:=ym h zfj
       refine WC.b (WC.a (WL.pu rfl (WL.pu rfl (WL.nil (WX.a ?_)))))
       refine WC.cond rfl (fun zfk=>?_) (fun zfk=>?_)
       ·replace h:=yl h zfk
        refine WC.a (WL.pu rfl (WL.pu rfl (WL.nil (WX.yk ?_))))
        exact WX.mid (G:=Int × Int) ⟨0,z5t⟩ h (.cons rfl (.cons rfl (.cons rfl .nil))) .nil
       ·replace h:=ym h zfk
        refine WC.b (WC.a (WL.pu rfl (WL.pu rfl (WL.nil (WX.a ?_)))))
        refine WC.cond rfl (fun zfl=>?_) (fun zfl=>?_)
        ·replace h:=yl h zfl
         refine WC.a (WL.pu rfl (WL.pu rfl (WL.pu rfl (WL.nil (WX.yk ?_)))))
         exact WX.mid (G:=Int × Int) ⟨0,(i64 (zbw - 1))⟩ h (.cons rfl (.cons rfl (.cons rfl .nil))) .nil
        ·replace h:=ym h zfl
         refine WC.skip (WX.yk ?_)
         exact WX.mid (G:=Int × Int) ⟨0,0⟩ h (.cons rfl (.cons rfl (.cons rfl .nil))) .nil
 ·rintro z89 z8a h
  replace h:=(zld z89 z8a).symm.trans h
  refine WC.b (WC.a (WL.pu rfl (WL.pu rfl (WL.pu rfl (WL.pu rfl ?_)))))
  refine WL.seg true 3 30 (B:=(decide (z5t ≥ z89)) && (decide (z5t ≤ z8a))) rfl rfl rfl rfl rfl rfl (fun h=>(y3A h).symm) (fun _ zle=>?_) ?_
  ·skip
   refine WL.pu rfl (WL.pu rfl (WL.pu rfl (WL.pu rfl ?_)))
   exact WL.yN (y3B zle) rfl rfl .all
  refine WL.pu rfl (WL.nil (WX.a (WC.ret ?_)))
  obtain rfl:=Option.some.inj h
  refine WX.yh Tryd.results43 (.tmp rfl .nil) (fun w hw=>?_)
  exact ⟨y1a rfl,hw.sub .nil⟩
def y18 (z19 : Sapi_Ins) (z4U : Int) (z8b : Option Bool) : Nat → Int → Option Bool
 | 0,_=>none
 | zfm + 1,z45=>if decide (z45 < (((nth y17 z19.fOp).length : Nat) : Int)) then chk ((0 : Int) ≤ z45 ∧ z45 < (((nth y17 z19.fOp).length : Nat) : Int)) (chk ((0 : Int) ≤ z45 ∧ z45 < 3) ((y1I (nth (nth y17 z19.fOp) z45) (nth ([z19.fA,z19.fB,z19.fC] : List Int) z45) z4U).bind fun zhB=>if !zhB then some false else y18 z19 z4U z8b zfm (i64 (z45 + 1)))) else z8b
theorem y5w {n : Nat} {z19 : Sapi_Ins} {z4U : Int} {z8b : Option Bool} {z45 : Int} {r : Bool} (h : y18 z19 z4U z8b n z45 = some r) : ∃ m,n = m + 1:=by
 cases n with
 | zero=>cases h
 | succ m=>exact ⟨m,rfl⟩
def y2D (z19 : Sapi_Ins) (z4U : Int) : Option Bool :=
 if (decide (z19.fOp < 1)) || (decide (z19.fOp > 25)) then some false else jp0 (some true) fun z8b=>chk ((0 : Int) ≤ z19.fOp ∧ z19.fOp < 26) (y18 z19 z4U z8b y1K 0)
set_option maxRecDepth 20000 in
theorem y61 (Z : Zp)  (z19 : Sapi_Ins) (z4U : Int) (r : Bool)
  (h : y2D z19 z4U = some r) (w₀ : World) (hz : PZ [] w₀ Z)
  (hG1 : ZS Z 1 (p74 Z) (some ⟨1,0,none⟩) 26 y17) :
  Calls Tryd.prog 32 #[(.agg #[(.int .u8 z19.fOp),(.int .i64 z19.fA),(.int .i64 z19.fB),(.int .i64 z19.fC)]),(.int .i64 z4U)] w₀ fun e w'=>e = .returned (.bool r) ∧ Hp [] w₀ w' []:=by
 unfold y2D at h
 refine Calls.y8 (vs:=[(.agg #[(.int .u8 z19.fOp),(.int .i64 z19.fA),(.int .i64 z19.fB),(.int .i64 z19.fC)]),(.int .i64 z4U)]) (pre:=[]) (env:=[(0,(.agg #[(.int .u8 z19.fOp),(.int .i64 z19.fA),(.int .i64 z19.fB),(.int .i64 z19.fC)])),(1,(.int .i64 z4U))]) Tryd.func32 rfl Tryd.ntmps32 rfl (Hp.nil w₀ _) rfl ?_
 refine WC.b (WC.a ?_)
 refine WL.new (dd:=2) rfl rfl rfl (y3m (cs:=[(.int .u8 z19.fOp),(.int .i64 z19.fA),(.int .i64 z19.fB),(.int .i64 z19.fC)]) rfl rfl) ?_
 intro zwP _
 refine WL.pu rfl (WL.nil (WX.a (WC.b (WC.b (WC.a ?_)))))
 refine WL.a (d:=8) rfl rfl rfl (y4 y2C rfl rfl) ?_
 refine WL.a (d:=9) rfl rfl rfl (y5 yB rfl (yb .here rfl)) ?_
 refine WL.pu rfl (WL.pu rfl ?_)
 refine WL.seg false 3 11 (B:=(decide (z19.fOp < 1)) || (decide (z19.fOp > 25))) rfl rfl rfl rfl rfl rfl (fun h=>(or_l h).symm) (fun _ zlf=>?_) ?_
 ·skip
  refine WL.a (d:=12) rfl rfl rfl (y4 y2C rfl rfl) ?_
  refine WL.a (d:=13) rfl rfl rfl (y5 yB rfl (yb .here rfl)) ?_
  refine WL.pu rfl (WL.pu rfl ?_)
  exact WL.yN (or_r zlf) rfl rfl .all
 refine WL.nil (WX.a ?_)
 refine WC.cond rfl (fun zfn=>?_) (fun zfn=>?_)
 ·replace h:=yl h zfn
  refine WC.b (WC.a (WL.pu rfl (WL.nil (WX.a (WC.ret (WX.yf ?_))))))
  obtain rfl:=Option.some.inj h
  refine WX.yh Tryd.results32 (.tmp rfl .nil) (fun w hw=>?_)
  exact ⟨y1a rfl,hw.sub .nil⟩
 ·replace h:=ym h zfn
  refine WC.skip (WX.a (WC.b (WC.a ?_)))
  refine WL.a (d:=16) rfl rfl rfl (y4 yS rfl rfl) ?_
  refine WL.a (d:=17) rfl rfl rfl (y5 yd rfl (yb .here rfl)) ?_
  refine WL.a (d:=18) rfl rfl rfl (y4 y14 rfl rfl) ?_
  refine WL.a (d:=19) rfl rfl rfl (y5 yd rfl (yb .here rfl)) ?_
  refine WL.a (d:=20) rfl rfl rfl (y4 y3q rfl rfl) ?_
  refine WL.a (d:=21) rfl rfl rfl (y5 yd rfl (yb .here rfl)) ?_
  refine WL.a (d:=22) rfl rfl rfl (yR (v:=(.agg #[(.int .i64 z19.fA),(.int .i64 z19.fB),(.int .i64 z19.fC)])) (Eos.parts (l:=[.tmp 17,.tmp 19,.tmp 21]) (.cons rfl (.cons rfl (.cons rfl .nil))) [0,1,2]) (fun _=>by kernel_rfl)) ?_
  refine WL.new (dd:=5) rfl rfl rfl (yE (cs:=[(.int .i64 0),(.int .i64 0),(.int .i64 0)]) zeroT_73 rfl) ?_
  intro zhC _
  refine WL.yg rfl rfl (yu sizT_73 rfl rfl rfl .here rfl rfl rfl) ?_
  refine WL.nil (WX.a ?_)
  obtain ⟨z8b,zlg,h⟩:=y3U h
  refine WC.y3n ((z8b = some r)) ([]) ([]) ?_ ?_
  ·skip
   refine WC.b ?_
   obtain ⟨zlh,h⟩:=ya h
   refine WC.a ?_
   refine WL.a (d:=23) rfl rfl rfl (y4 y2C rfl rfl) ?_
   refine WL.a (d:=24) rfl rfl rfl (y5 yB rfl (yb .h1 rfl)) ?_
   refine WL.gnth (dd:=25) rfl rfl (ls:=y17) (Z:=Z) (Pr:=(p74 Z)) arT_75 rfl rfl hG1 zlh ?_
   rintro zwQ zwR zli zwS ⟨zlj,zlk,rfl,zll⟩
   refine WL.a (d:=26) rfl rfl rfl (y5 oneT_74 rfl (y3u hz.pv zli rfl)) ?_
   refine WL.a (d:=27) rfl rfl rfl (y1s Tryd.underlying74 rfl) ?_
   refine WL.pu rfl (WL.nil (WX.a (WC.block ?_)))
   refine WC.y5q (fun (zcf : Nat) (z45 : Int)=>(y18 z19 z4U z8b zcf z45 = some r)) (fun (zcf : Nat) (z45 : Int)=>[(1,(.int .i64 z4U)),(5,(.pointer (some ⟨zhC,0,none⟩))),(26,(.slice zlj ((nth y17 z19.fOp).length) zlk)),(27,(.int .i64 (((nth y17 z19.fOp).length : Nat) : Int))),(28,(.int .i64 z45))]) (fun (zcf : Nat) (z45 : Int)=>[stb zhC 73 [(.int .i64 z19.fA),(.int .i64 z19.fB),(.int .i64 z19.fC)]]) (fun (zcf : Nat) (z45 : Int)=>zcf) ⟨y1K,0⟩ h (.cons rfl (.cons rfl (.cons rfl (.cons rfl (.cons rfl .nil))))) (.cons .here .nil) ?_
   rintro zcf z45 h
   obtain ⟨zfm,rfl⟩:=y5w h
   rw [y18] at h
   refine WC.b (WC.a (WL.pu rfl (WL.nil (WX.a (WC.b ?_)))))
   refine WC.cond rfl (fun zfo=>?_) (fun zfo=>?_)
   ·replace h:=yl h zfo
    refine WC.skip (WX.a (WC.b (WC.block (WC.b ?_))))
    obtain ⟨zlm,h⟩:=ya h
    refine WC.a (WL.pu rfl ?_)
    refine WL.znth (dd:=31) rfl rfl (Z:=Z) (Pr:=(fun r x=>r = e76 x)) elT_74 rfl rfl zll zlm ?_
    rintro zwT zwU zln zwV rfl
    refine WL.a (d:=32) rfl rfl rfl (y5 oneT_76 rfl (y3u hz.pv zln rfl)) ?_
    refine WL.pu rfl (WL.pu rfl (WL.nil (WX.a (WC.b ?_))))
    obtain ⟨zhD,h⟩:=ya h
    obtain ⟨zhB,zlo,h⟩:=zd h
    refine WC.a (WL.pu rfl (WL.pu rfl ?_))
    refine WL.a (d:=35) rfl rfl rfl (y2s arT_73 rfl rfl zhD y4z) ?_
    refine WL.a (d:=36) rfl rfl rfl (y5 yd rfl (yZ (l:=([z19.fA,z19.fB,z19.fC] : List Int)) (f:=Value.int .i64) (k:=0) (m:=3) .here rfl rfl zhD)) ?_
    refine WL.pu rfl ?_
    refine WL.b (dd:=38) rfl rfl rfl (zl (l:=[.tmp 33,.tmp 36,.tmp 37]) Tryd.call43 (.cons rfl (.cons rfl (.cons rfl .nil)))) .nil (cc hz .nil fun w pz ho=>y5L _ _ _ _ _ zlo w pz ) ?_
    refine WL.pu rfl (WL.nil (WX.a ?_))
    refine WC.cond rfl (fun zfp=>?_) (fun zfp=>?_)
    ·replace h:=yl h zfp
     refine WC.b (WC.a (WL.pu rfl (WL.nil (WX.a (WC.ret (WX.yL (WX.yf (WX.yf (WX.yL (WX.yf ?_))))))))))
     obtain rfl:=Option.some.inj h
     refine WX.yh Tryd.results32 (.tmp rfl .nil) (fun w hw=>?_)
     exact ⟨y1a rfl,hw.sub .nil⟩
    ·replace h:=ym h zfp
     refine WC.skip (WX.yk (WX.a (WC.a (WL.pu rfl (WL.pu rfl (WL.nil ?_))))))
     exact WX.round (G:=Nat × Int) ⟨zfm,(i64 (z45 + 1))⟩ h (Nat.lt_succ_self _) (.cons rfl (.cons rfl (.cons rfl (.cons rfl (.cons rfl .nil))))) (.cons .here .nil)
   ·replace h:=ym h zfo
    refine WC.exit (WX.yQ (WX.yQ (WX.y1L ?_)))
    exact WX.mid (G:=Unit) () h .nil .nil
  ·rintro  h
   replace h:=zlg.symm.trans h
   refine WC.b (WC.a (WL.pu rfl (WL.nil (WX.a (WC.ret ?_)))))
   obtain rfl:=Option.some.inj h
   refine WX.yh Tryd.results32 (.tmp rfl .nil) (fun w hw=>?_)
   exact ⟨y1a rfl,hw.sub .nil⟩
def y2U (z3W : List Sapi_Ins) (z3g : Int) : Option (Sapi_Ins × Bool) :=
 (if (decide (z3g < 0)) || (decide (z3g ≥ ((z3W.length : Nat) : Int))) then some true else chk ((0 : Int) ≤ z3g ∧ z3g < ((z3W.length : Nat) : Int)) ((y2D (⟨((nth z3W z3g).fOp),((nth z3W z3g).fA),((nth z3W z3g).fB),((nth z3W z3g).fC)⟩ : Sapi_Ins) ((z3W.length : Nat) : Int)).bind fun zhE=>some (!zhE))).bind fun zfq=>if zfq then some ((⟨0,0,0,0⟩ : Sapi_Ins),false) else chk ((0 : Int) ≤ z3g ∧ z3g < ((z3W.length : Nat) : Int)) (some ((⟨((nth z3W z3g).fOp),((nth z3W z3g).fA),((nth z3W z3g).fB),((nth z3W z3g).fC)⟩ : Sapi_Ins),true))
set_option maxRecDepth 20000 in
theorem y4B (Z : Zp) (zey : Option Addr) (zez : Nat) (z3W : List Sapi_Ins) (z3g : Int) (r : Sapi_Ins × Bool)
  (h : y2U z3W z3g = some r) (w₀ : World) (hz : PZ [] w₀ Z)
  (hG1 : ZS Z 1 (p74 Z) (some ⟨1,0,none⟩) 26 y17)
  (zhF : ZS Z 4 (fun r x=>r = e33 x) zey zez z3W) :
  Calls Tryd.prog 33 #[(.slice zey z3W.length zez),(.int .i64 z3g)] w₀ fun e w'=>e = .returned (.tuple #[(.agg #[(.int .u8 r.1.fOp),(.int .i64 r.1.fA),(.int .i64 r.1.fB),(.int .i64 r.1.fC)]),(.bool r.2)]) ∧ Hp [] w₀ w' []:=by
 unfold y2U at h
 refine Calls.y8 (vs:=[(.slice zey z3W.length zez),(.int .i64 z3g)]) (pre:=[]) (env:=[(0,(.slice zey z3W.length zez)),(1,(.int .i64 z3g))]) Tryd.func33 rfl Tryd.ntmps33 rfl (Hp.nil w₀ _) rfl ?_
 refine WC.b (WC.a ?_)
 refine WL.new (dd:=4) rfl rfl rfl (yE (cs:=[(.int .u8 0),(.int .i64 0),(.int .i64 0),(.int .i64 0)]) y3W rfl) ?_
 intro zwW _
 refine WL.pu rfl (WL.nil (WX.a (WC.b (WC.b ?_))))
 obtain ⟨zfq,zhG,h⟩:=zd h
 refine WC.a (WL.pu rfl (WL.pu rfl (WL.pu rfl ?_)))
 refine WL.seg false 4 8 (B:=(decide (z3g < 0)) || (decide (z3g ≥ ((z3W.length : Nat) : Int)))) rfl rfl rfl rfl rfl rfl (fun h=>(or_l h).symm) (fun _ zlp=>?_) ?_
 ·skip
  refine WL.pu rfl (WL.pu rfl ?_)
  refine WL.a (d:=11) rfl rfl rfl (y1s Tryd.underlying22 rfl) ?_
  refine WL.pu rfl (WL.pu rfl ?_)
  exact WL.yN (or_r zlp) rfl rfl .all
 refine WL.pu rfl ?_
 refine WL.seg false 8 14 (B:=zfq) rfl rfl rfl rfl rfl rfl (fun h=>(Option.some.inj (yl zhG h)).symm) (fun _ zlq=>?_) ?_
 ·skip
  have zbx:=ym zhG zlq
  obtain ⟨zlr,zbx⟩:=ya zbx
  obtain ⟨zhE,zls,zbx⟩:=zd zbx
  replace zbx:=Option.some.inj zbx
  refine WL.pu rfl (WL.pu rfl ?_)
  refine WL.znth (dd:=17) rfl rfl (Z:=Z) (Pr:=(fun r x=>r = e33 x)) y3P rfl rfl zhF zlr ?_
  rintro zwX zwY zlt zwZ rfl
  refine WL.a (d:=18) rfl rfl rfl (yV y3p rfl (rd_zs hz.pv zlt) rfl) ?_
  refine WL.pu rfl ?_
  refine WL.a (d:=20) rfl rfl rfl (y1s Tryd.underlying22 rfl) ?_
  refine WL.b (dd:=21) rfl rfl rfl (zl (l:=[.tmp 18,.tmp 20]) Tryd.call32 (.cons rfl (.cons rfl .nil))) .nil (cc hz .nil fun w pz ho=>y61 _ _ _ _ zls w pz hG1) ?_
  refine WL.pu rfl (WL.pu rfl ?_)
  exact WL.yN zbx rfl rfl .all
 refine WL.nil (WX.a ?_)
 refine WC.cond rfl (fun zfr=>?_) (fun zfr=>?_)
 ·replace h:=yl h zfr
  refine WC.b (WC.a ?_)
  refine WL.a (d:=24) rfl rfl rfl (yR (v:=(.agg #[(.int .u8 0),(.int .i64 0),(.int .i64 0),(.int .i64 0)])) (Eos.parts (l:=[]) .nil []) (fun _=>by kernel_rfl)) ?_
  refine WL.yg rfl rfl (yu y3X rfl rfl rfl .here rfl rfl rfl) ?_
  refine WL.pu rfl (WL.nil (WX.a (WC.ret (WX.yf ?_))))
  obtain rfl:=Option.some.inj h
  refine WX.yh Tryd.results33 (.agg rfl y3p rfl (yJ .here) (.tmp rfl .nil)) (fun w hw=>?_)
  exact ⟨y3T rfl rfl,hw.sub .nil⟩
 ·replace h:=ym h zfr
  refine WC.skip (WX.a (WC.b ?_))
  obtain ⟨zlu,h⟩:=ya h
  refine WC.a (WL.pu rfl (WL.pu rfl ?_))
  refine WL.znth (dd:=27) rfl rfl (Z:=Z) (Pr:=(fun r x=>r = e33 x)) y3P rfl rfl zhF zlu ?_
  rintro zx0 zx1 zlv zx2 rfl
  refine WL.a (d:=28) rfl rfl rfl (yV y3p rfl (rd_zs hz.pv zlv) rfl) ?_
  refine WL.yg rfl rfl (yu y3X rfl rfl rfl .here rfl rfl rfl) ?_
  refine WL.pu rfl (WL.nil (WX.a (WC.ret ?_)))
  obtain rfl:=Option.some.inj h
  refine WX.yh Tryd.results33 (.agg rfl y3p rfl (yJ .here) (.tmp rfl .nil)) (fun w hw=>?_)
  exact ⟨y3T rfl rfl,hw.sub .nil⟩
def y2E (zi : Sproc_execution) : Option Sproc_execution :=
 jp1 (fun (z5u : Int)=>if decide ((i64 (z5u - 1)) ≠ 0) then some (⟨(⟨i64 (zi.fState.fPc - 1),i64 (z5u - 1),zi.fState.fRegs⟩ : Sproc_State),zi.fX,zi.fMem,zi.fAct⟩ : Sproc_execution) else some (⟨(⟨zi.fState.fPc,i64 (z5u - 1),zi.fState.fRegs⟩ : Sproc_State),zi.fX,zi.fMem,zi.fAct⟩ : Sproc_execution)) fun zeA=>if decide (zi.fState.fLeft = 0) then zeA zi.fX.fA else zeA zi.fState.fLeft
set_option maxRecDepth 20000 in
theorem y52 (Z : Zp) (z6y : Nat) (z5v : Option Addr) (z5w : Nat) (z5x : Option Addr) (z5y : Nat) (zi : Sproc_execution) (r : Sproc_execution)
  (h : y2E zi = some r) (w₀ : World) (hz : PZ (fps [stb z6y 65 [(.int .i64 zi.fState.fPc),(.int .i64 zi.fState.fLeft),(.int .u8 zi.fState.fRegs.a0),(.int .u8 zi.fState.fRegs.a1),(.int .u8 zi.fState.fRegs.a2),(.int .u8 zi.fState.fRegs.a3),(.int .u8 zi.fX.fOp),(.int .i64 zi.fX.fA),(.int .i64 zi.fX.fB),(.int .i64 zi.fX.fC),(.slice z5v zi.fMem.length z5w),(.int .u8 zi.fAct.fKind),(.int .i64 zi.fAct.fA),(.int .i64 zi.fAct.fB),(.slice z5x zi.fAct.fData.length z5y)]]) w₀ Z)
  (zhH : ZS Z 1 (fun r x=>r = e5 x) z5v z5w zi.fMem)
  (zhI : ZS Z 1 (fun r x=>r = e5 x) z5x z5y zi.fAct.fData)
  (hown : Hp (fps [stb z6y 65 [(.int .i64 zi.fState.fPc),(.int .i64 zi.fState.fLeft),(.int .u8 zi.fState.fRegs.a0),(.int .u8 zi.fState.fRegs.a1),(.int .u8 zi.fState.fRegs.a2),(.int .u8 zi.fState.fRegs.a3),(.int .u8 zi.fX.fOp),(.int .i64 zi.fX.fA),(.int .i64 zi.fX.fB),(.int .i64 zi.fX.fC),(.slice z5v zi.fMem.length z5w),(.int .u8 zi.fAct.fKind),(.int .i64 zi.fAct.fA),(.int .i64 zi.fAct.fB),(.slice z5x zi.fAct.fData.length z5y)]]) w₀ w₀ [stb z6y 65 [(.int .i64 zi.fState.fPc),(.int .i64 zi.fState.fLeft),(.int .u8 zi.fState.fRegs.a0),(.int .u8 zi.fState.fRegs.a1),(.int .u8 zi.fState.fRegs.a2),(.int .u8 zi.fState.fRegs.a3),(.int .u8 zi.fX.fOp),(.int .i64 zi.fX.fA),(.int .i64 zi.fX.fB),(.int .i64 zi.fX.fC),(.slice z5v zi.fMem.length z5w),(.int .u8 zi.fAct.fKind),(.int .i64 zi.fAct.fA),(.int .i64 zi.fAct.fB),(.slice z5x zi.fAct.fData.length z5y)]]) :
  Calls Tryd.prog 84 #[(.pointer (some ⟨z6y,0,none⟩))] w₀ fun e w'=>∃ zhJ : Option Addr,∃ zhK : Nat,∃ zhL : Option Addr,∃ zhM : Nat,e = .returned (.tuple #[]) ∧ ((ZS Z 1 (fun r x=>r = e5 x) zhJ zhK r.fMem) ∧ (ZS Z 1 (fun r x=>r = e5 x) zhL zhM r.fAct.fData)) ∧ Hp (fps [stb z6y 65 [(.int .i64 zi.fState.fPc),(.int .i64 zi.fState.fLeft),(.int .u8 zi.fState.fRegs.a0),(.int .u8 zi.fState.fRegs.a1),(.int .u8 zi.fState.fRegs.a2),(.int .u8 zi.fState.fRegs.a3),(.int .u8 zi.fX.fOp),(.int .i64 zi.fX.fA),(.int .i64 zi.fX.fB),(.int .i64 zi.fX.fC),(.slice z5v zi.fMem.length z5w),(.int .u8 zi.fAct.fKind),(.int .i64 zi.fAct.fA),(.int .i64 zi.fAct.fB),(.slice z5x zi.fAct.fData.length z5y)]]) w₀ w' [stb z6y 65 [(.int .i64 r.fState.fPc),(.int .i64 r.fState.fLeft),(.int .u8 r.fState.fRegs.a0),(.int .u8 r.fState.fRegs.a1),(.int .u8 r.fState.fRegs.a2),(.int .u8 r.fState.fRegs.a3),(.int .u8 r.fX.fOp),(.int .i64 r.fX.fA),(.int .i64 r.fX.fB),(.int .i64 r.fX.fC),(.slice zhJ r.fMem.length zhK),(.int .u8 r.fAct.fKind),(.int .i64 r.fAct.fA),(.int .i64 r.fAct.fB),(.slice zhL r.fAct.fData.length zhM)]]:=by
 unfold y2E at h
 refine Calls.y8 (vs:=[(.pointer (some ⟨z6y,0,none⟩))]) (pre:=[stb z6y 65 [(.int .i64 zi.fState.fPc),(.int .i64 zi.fState.fLeft),(.int .u8 zi.fState.fRegs.a0),(.int .u8 zi.fState.fRegs.a1),(.int .u8 zi.fState.fRegs.a2),(.int .u8 zi.fState.fRegs.a3),(.int .u8 zi.fX.fOp),(.int .i64 zi.fX.fA),(.int .i64 zi.fX.fB),(.int .i64 zi.fX.fC),(.slice z5v zi.fMem.length z5w),(.int .u8 zi.fAct.fKind),(.int .i64 zi.fAct.fA),(.int .i64 zi.fAct.fB),(.slice z5x zi.fAct.fData.length z5y)]]) (env:=[(0,(.pointer (some ⟨z6y,0,none⟩)))]) Tryd.func84 rfl Tryd.ntmps84 rfl (hown) rfl ?_
 obtain ⟨zeA,zlw,h⟩:=y3g h
 refine WC.y2V (fun (z5u : Int)=>(zeA z5u = some r)) (fun (z5u : Int)=>[(0,(.pointer (some ⟨z6y,0,none⟩)))]) (fun (z5u : Int)=>[stb z6y 65 [(.int .i64 zi.fState.fPc),(.int .i64 z5u),(.int .u8 zi.fState.fRegs.a0),(.int .u8 zi.fState.fRegs.a1),(.int .u8 zi.fState.fRegs.a2),(.int .u8 zi.fState.fRegs.a3),(.int .u8 zi.fX.fOp),(.int .i64 zi.fX.fA),(.int .i64 zi.fX.fB),(.int .i64 zi.fX.fC),(.slice z5v zi.fMem.length z5w),(.int .u8 zi.fAct.fKind),(.int .i64 zi.fAct.fA),(.int .i64 zi.fAct.fB),(.slice z5x zi.fAct.fData.length z5y)]]) ?_ ?_
 ·skip
  refine WC.b (WC.a (WL.pu rfl ?_))
  refine WL.a (d:=3) rfl rfl rfl (y6 rfl) ?_
  refine WL.a (d:=4) rfl rfl rfl (y4 yI rfl rfl) ?_
  refine WL.a (d:=5) rfl rfl rfl (y4 y36 rfl rfl) ?_
  refine WL.a (d:=6) rfl rfl rfl (y5 yd rfl (yb .here rfl)) ?_
  refine WL.pu rfl (WL.nil (WX.a ?_))
  refine WC.cond rfl (fun zfs=>?_) (fun zfs=>?_)
  ·replace h:=yl h zfs
   refine WC.a (WL.pu rfl (WL.pu rfl ?_))
   refine WL.a (d:=10) rfl rfl rfl (y6 rfl) ?_
   refine WL.a (d:=11) rfl rfl rfl (y4 yo rfl rfl) ?_
   refine WL.a (d:=12) rfl rfl rfl (y4 yS rfl rfl) ?_
   refine WL.a (d:=13) rfl rfl rfl (y5 yd rfl (yb .here rfl)) ?_
   refine WL.a (d:=14) rfl rfl rfl (y6 rfl) ?_
   refine WL.a (d:=15) rfl rfl rfl (y4 yI rfl rfl) ?_
   refine WL.a (d:=16) rfl rfl rfl (y4 y36 rfl rfl) ?_
   refine WL.yg rfl rfl (yK (ds:=[(.int .i64 zi.fState.fPc),(.int .i64 zi.fX.fA),(.int .u8 zi.fState.fRegs.a0),(.int .u8 zi.fState.fRegs.a1),(.int .u8 zi.fState.fRegs.a2),(.int .u8 zi.fState.fRegs.a3),(.int .u8 zi.fX.fOp),(.int .i64 zi.fX.fA),(.int .i64 zi.fX.fB),(.int .i64 zi.fX.fC),(.slice z5v zi.fMem.length z5w),(.int .u8 zi.fAct.fKind),(.int .i64 zi.fAct.fA),(.int .i64 zi.fAct.fB),(.slice z5x zi.fAct.fData.length z5y)]) y20 rfl rfl rfl rfl rfl .here rfl rfl) ?_
   refine WL.nil ?_
   exact WX.mid (G:=Int) zi.fX.fA h (.cons rfl .nil) (.cons .here .nil)
  ·replace h:=ym h zfs
   refine WC.skip ?_
   exact WX.mid (G:=Int) zi.fState.fLeft h (.cons rfl .nil) (.cons .here .nil)
 ·rintro z5u h
  replace h:=(zlw z5u).symm.trans h
  refine WC.b (WC.a (WL.pu rfl ?_))
  refine WL.a (d:=18) rfl rfl rfl (y6 rfl) ?_
  refine WL.a (d:=19) rfl rfl rfl (y4 yI rfl rfl) ?_
  refine WL.a (d:=20) rfl rfl rfl (y4 y36 rfl rfl) ?_
  refine WL.a (d:=21) rfl rfl rfl (y5 yd rfl (yb .here rfl)) ?_
  refine WL.pu rfl ?_
  refine WL.a (d:=23) rfl rfl rfl (y6 rfl) ?_
  refine WL.a (d:=24) rfl rfl rfl (y4 yI rfl rfl) ?_
  refine WL.a (d:=25) rfl rfl rfl (y4 y36 rfl rfl) ?_
  refine WL.yg rfl rfl (yK (ds:=[(.int .i64 zi.fState.fPc),(.int .i64 (i64 (z5u - 1))),(.int .u8 zi.fState.fRegs.a0),(.int .u8 zi.fState.fRegs.a1),(.int .u8 zi.fState.fRegs.a2),(.int .u8 zi.fState.fRegs.a3),(.int .u8 zi.fX.fOp),(.int .i64 zi.fX.fA),(.int .i64 zi.fX.fB),(.int .i64 zi.fX.fC),(.slice z5v zi.fMem.length z5w),(.int .u8 zi.fAct.fKind),(.int .i64 zi.fAct.fA),(.int .i64 zi.fAct.fB),(.slice z5x zi.fAct.fData.length z5y)]) y20 rfl rfl rfl rfl rfl .here rfl rfl) ?_
  refine WL.nil (WX.a (WC.b (WC.a (WL.pu rfl ?_))))
  refine WL.a (d:=27) rfl rfl rfl (y6 rfl) ?_
  refine WL.a (d:=28) rfl rfl rfl (y4 yI rfl rfl) ?_
  refine WL.a (d:=29) rfl rfl rfl (y4 y36 rfl rfl) ?_
  refine WL.a (d:=30) rfl rfl rfl (y5 yd rfl (yb .here rfl)) ?_
  refine WL.pu rfl (WL.nil (WX.a ?_))
  refine WC.cond rfl (fun zft=>?_) (fun zft=>?_)
  ·replace h:=yl h zft
   refine WC.a (WL.pu rfl ?_)
   refine WL.a (d:=33) rfl rfl rfl (y6 rfl) ?_
   refine WL.a (d:=34) rfl rfl rfl (y4 yI rfl rfl) ?_
   refine WL.a (d:=35) rfl rfl rfl (y4 y1c rfl rfl) ?_
   refine WL.a (d:=36) rfl rfl rfl (y5 yd rfl (yb .here rfl)) ?_
   refine WL.pu rfl ?_
   refine WL.a (d:=38) rfl rfl rfl (y6 rfl) ?_
   refine WL.a (d:=39) rfl rfl rfl (y4 yI rfl rfl) ?_
   refine WL.a (d:=40) rfl rfl rfl (y4 y1c rfl rfl) ?_
   refine WL.yg rfl rfl (yK (ds:=[(.int .i64 (i64 (zi.fState.fPc - 1))),(.int .i64 (i64 (z5u - 1))),(.int .u8 zi.fState.fRegs.a0),(.int .u8 zi.fState.fRegs.a1),(.int .u8 zi.fState.fRegs.a2),(.int .u8 zi.fState.fRegs.a3),(.int .u8 zi.fX.fOp),(.int .i64 zi.fX.fA),(.int .i64 zi.fX.fB),(.int .i64 zi.fX.fC),(.slice z5v zi.fMem.length z5w),(.int .u8 zi.fAct.fKind),(.int .i64 zi.fAct.fA),(.int .i64 zi.fAct.fB),(.slice z5x zi.fAct.fData.length z5y)]) y20 rfl rfl rfl rfl rfl .here rfl rfl) ?_
   refine WL.nil ?_
   obtain rfl:=Option.some.inj h
   refine WX.y9 Tryd.results84 .nil (fun w hw=>?_)
   exact ⟨z5v,z5w,z5x,z5y,yC,⟨zhH,zhI⟩,hw.sub (.cons .here .nil)⟩
  ·replace h:=ym h zft
   refine WC.skip ?_
   obtain rfl:=Option.some.inj h
   refine WX.y9 Tryd.results84 .nil (fun w hw=>?_)
   exact ⟨z5v,z5w,z5x,z5y,yC,⟨zhH,zhI⟩,hw.sub (.cons .here .nil)⟩
def yn (z3X : Sproc_execution) (z9N : Int) : Option Unit :=
 chk ((0 : Int) ≤ z9N ∧ z9N < 4) (some ())
set_option maxRecDepth 20000 in
theorem yt (Z : Zp) (zdG : Addr) (zhN : Option Addr) (zhO : Nat) (zhP : Option Addr) (zhQ : Nat) (z3X : Sproc_execution) (z9N : Int) (r : Unit)
  (h : yn z3X z9N = some r) (w₀ : World) (hz : PZ [] w₀ Z)
  (zx3 : ZS Z 1 (fun r x=>r = e5 x) zhN zhO z3X.fMem)
  (zx4 : ZS Z 1 (fun r x=>r = e5 x) zhP zhQ z3X.fAct.fData)
  (zx5 : ZC Z zdG [(.int .i64 z3X.fState.fPc),(.int .i64 z3X.fState.fLeft),(.int .u8 z3X.fState.fRegs.a0),(.int .u8 z3X.fState.fRegs.a1),(.int .u8 z3X.fState.fRegs.a2),(.int .u8 z3X.fState.fRegs.a3),(.int .u8 z3X.fX.fOp),(.int .i64 z3X.fX.fA),(.int .i64 z3X.fX.fB),(.int .i64 z3X.fX.fC),(.slice zhN z3X.fMem.length zhO),(.int .u8 z3X.fAct.fKind),(.int .i64 z3X.fAct.fA),(.int .i64 z3X.fAct.fB),(.slice zhP z3X.fAct.fData.length zhQ)]) :
  Calls Tryd.prog 108 #[(.pointer (some zdG)),(.int .i64 z9N)] w₀ fun e w'=>e = .returned (.pointer (some (Addr.add zdG (2 + (z9N : Int).toNat)))) ∧ Hp [] w₀ w' []:=by
 unfold yn at h
 refine Calls.y8 (vs:=[(.pointer (some zdG)),(.int .i64 z9N)]) (pre:=[]) (env:=[(0,(.pointer (some zdG))),(1,(.int .i64 z9N))]) Tryd.func108 rfl Tryd.ntmps108 rfl (Hp.nil w₀ _) rfl ?_
 refine WC.b (WC.a (WL.pu rfl (WL.nil (WX.a (WC.b ?_)))))
 obtain ⟨zlx,h⟩:=ya h
 refine WC.a (WL.pu rfl (WL.pu rfl ?_))
 refine WL.a (d:=7) rfl rfl rfl (y6 rfl) ?_
 refine WL.a (d:=8) rfl rfl rfl (y4 yI rfl rfl) ?_
 refine WL.a (d:=9) rfl rfl rfl (y4 y51 rfl rfl) ?_
 refine WL.a (d:=10) rfl rfl rfl (y2s y60 rfl rfl zlx add_z1) ?_
 refine WL.pu rfl (WL.nil (WX.a (WC.ret ?_)))
 skip
 refine WX.yh Tryd.results108 (.tmp rfl .nil) (fun w hw=>?_)
 exact ⟨y1a rfl,hw.sub .nil⟩
def y2X (zh : Sproc_execution) : Option Sproc_execution :=
 (yn zh zh.fX.fA).bind fun zly=>chk ((0 : Int) ≤ zh.fX.fA ∧ zh.fX.fA < 4) (some (⟨(⟨zh.fState.fPc,zh.fState.fLeft,(⟨nth (([zh.fState.fRegs.a0,zh.fState.fRegs.a1,zh.fState.fRegs.a2,zh.fState.fRegs.a3] : List Int).set (zh.fX.fA : Int).toNat (u8 zh.fX.fB)) 0,nth (([zh.fState.fRegs.a0,zh.fState.fRegs.a1,zh.fState.fRegs.a2,zh.fState.fRegs.a3] : List Int).set (zh.fX.fA : Int).toNat (u8 zh.fX.fB)) 1,nth (([zh.fState.fRegs.a0,zh.fState.fRegs.a1,zh.fState.fRegs.a2,zh.fState.fRegs.a3] : List Int).set (zh.fX.fA : Int).toNat (u8 zh.fX.fB)) 2,nth (([zh.fState.fRegs.a0,zh.fState.fRegs.a1,zh.fState.fRegs.a2,zh.fState.fRegs.a3] : List Int).set (zh.fX.fA : Int).toNat (u8 zh.fX.fB)) 3⟩ : S34)⟩ : Sproc_State),zh.fX,zh.fMem,zh.fAct⟩ : Sproc_execution))
set_option maxRecDepth 20000 in
theorem y5x (Z : Zp) (z8c : Nat) (z9O : Option Addr) (z9P : Nat) (z9Q : Option Addr) (z9R : Nat) (zh : Sproc_execution) (r : Sproc_execution)
  (h : y2X zh = some r) (w₀ : World) (hz : PZ (fps [stb z8c 65 [(.int .i64 zh.fState.fPc),(.int .i64 zh.fState.fLeft),(.int .u8 zh.fState.fRegs.a0),(.int .u8 zh.fState.fRegs.a1),(.int .u8 zh.fState.fRegs.a2),(.int .u8 zh.fState.fRegs.a3),(.int .u8 zh.fX.fOp),(.int .i64 zh.fX.fA),(.int .i64 zh.fX.fB),(.int .i64 zh.fX.fC),(.slice z9O zh.fMem.length z9P),(.int .u8 zh.fAct.fKind),(.int .i64 zh.fAct.fA),(.int .i64 zh.fAct.fB),(.slice z9Q zh.fAct.fData.length z9R)]]) w₀ Z)
  (zhR : ZS Z 1 (fun r x=>r = e5 x) z9O z9P zh.fMem)
  (zhS : ZS Z 1 (fun r x=>r = e5 x) z9Q z9R zh.fAct.fData)
  (hown : Hp (fps [stb z8c 65 [(.int .i64 zh.fState.fPc),(.int .i64 zh.fState.fLeft),(.int .u8 zh.fState.fRegs.a0),(.int .u8 zh.fState.fRegs.a1),(.int .u8 zh.fState.fRegs.a2),(.int .u8 zh.fState.fRegs.a3),(.int .u8 zh.fX.fOp),(.int .i64 zh.fX.fA),(.int .i64 zh.fX.fB),(.int .i64 zh.fX.fC),(.slice z9O zh.fMem.length z9P),(.int .u8 zh.fAct.fKind),(.int .i64 zh.fAct.fA),(.int .i64 zh.fAct.fB),(.slice z9Q zh.fAct.fData.length z9R)]]) w₀ w₀ [stb z8c 65 [(.int .i64 zh.fState.fPc),(.int .i64 zh.fState.fLeft),(.int .u8 zh.fState.fRegs.a0),(.int .u8 zh.fState.fRegs.a1),(.int .u8 zh.fState.fRegs.a2),(.int .u8 zh.fState.fRegs.a3),(.int .u8 zh.fX.fOp),(.int .i64 zh.fX.fA),(.int .i64 zh.fX.fB),(.int .i64 zh.fX.fC),(.slice z9O zh.fMem.length z9P),(.int .u8 zh.fAct.fKind),(.int .i64 zh.fAct.fA),(.int .i64 zh.fAct.fB),(.slice z9Q zh.fAct.fData.length z9R)]]) :
  Calls Tryd.prog 85 #[(.pointer (some ⟨z8c,0,none⟩))] w₀ fun e w'=>∃ zhT : Option Addr,∃ zhU : Nat,∃ zhV : Option Addr,∃ zhW : Nat,e = .returned (.tuple #[]) ∧ ((ZS Z 1 (fun r x=>r = e5 x) zhT zhU r.fMem) ∧ (ZS Z 1 (fun r x=>r = e5 x) zhV zhW r.fAct.fData)) ∧ Hp (fps [stb z8c 65 [(.int .i64 zh.fState.fPc),(.int .i64 zh.fState.fLeft),(.int .u8 zh.fState.fRegs.a0),(.int .u8 zh.fState.fRegs.a1),(.int .u8 zh.fState.fRegs.a2),(.int .u8 zh.fState.fRegs.a3),(.int .u8 zh.fX.fOp),(.int .i64 zh.fX.fA),(.int .i64 zh.fX.fB),(.int .i64 zh.fX.fC),(.slice z9O zh.fMem.length z9P),(.int .u8 zh.fAct.fKind),(.int .i64 zh.fAct.fA),(.int .i64 zh.fAct.fB),(.slice z9Q zh.fAct.fData.length z9R)]]) w₀ w' [stb z8c 65 [(.int .i64 r.fState.fPc),(.int .i64 r.fState.fLeft),(.int .u8 r.fState.fRegs.a0),(.int .u8 r.fState.fRegs.a1),(.int .u8 r.fState.fRegs.a2),(.int .u8 r.fState.fRegs.a3),(.int .u8 r.fX.fOp),(.int .i64 r.fX.fA),(.int .i64 r.fX.fB),(.int .i64 r.fX.fC),(.slice zhT r.fMem.length zhU),(.int .u8 r.fAct.fKind),(.int .i64 r.fAct.fA),(.int .i64 r.fAct.fB),(.slice zhV r.fAct.fData.length zhW)]]:=by
 unfold y2X at h
 refine Calls.y8 (vs:=[(.pointer (some ⟨z8c,0,none⟩))]) (pre:=[stb z8c 65 [(.int .i64 zh.fState.fPc),(.int .i64 zh.fState.fLeft),(.int .u8 zh.fState.fRegs.a0),(.int .u8 zh.fState.fRegs.a1),(.int .u8 zh.fState.fRegs.a2),(.int .u8 zh.fState.fRegs.a3),(.int .u8 zh.fX.fOp),(.int .i64 zh.fX.fA),(.int .i64 zh.fX.fB),(.int .i64 zh.fX.fC),(.slice z9O zh.fMem.length z9P),(.int .u8 zh.fAct.fKind),(.int .i64 zh.fAct.fA),(.int .i64 zh.fAct.fB),(.slice z9Q zh.fAct.fData.length z9R)]]) (env:=[(0,(.pointer (some ⟨z8c,0,none⟩)))]) Tryd.func85 rfl Tryd.ntmps85 rfl (hown) rfl ?_
 obtain ⟨zly,zlz,h⟩:=zd h
 obtain ⟨zlA,h⟩:=ya h
 refine WC.yX (fun i=>[14].contains i) [] rfl ?_
 refine WD.a (i:=0) (d:=2) (by kernel_rfl) rfl z2 z6 rfl rfl rfl (fun _=>q_m rfl) ?_
 refine WD.a (i:=1) (d:=3) (by kernel_rfl) rfl z2 z6 rfl rfl rfl (fun _=>q_m rfl) ?_
 refine WD.a (i:=2) (d:=4) (by kernel_rfl) rfl z2 z6 rfl rfl rfl (fun _=>y6 rfl) ?_
 refine WD.a (i:=3) (d:=5) (by kernel_rfl) rfl z2 z6 rfl rfl rfl (fun _=>y4 yo rfl rfl) ?_
 refine WD.a (i:=4) (d:=6) (by kernel_rfl) rfl z2 z6 rfl rfl rfl (fun _=>y4 yS rfl rfl) ?_
 refine WD.e (i:=5) (d:=7) (by kernel_rfl) rfl z2 z6 rfl rfl rfl (y5 yd rfl (yb .here rfl)) ?_
 refine WD.c (i:=6) (d:=8) (by kernel_rfl) rfl z2 z6 rfl rfl rfl (zl (l:=[.tmp 2,.tmp 7]) Tryd.call108 (.cons rfl (.cons rfl .nil))) (ccl hz .nil (.cons .here .nil) fun w pz ho la=>yt _ _ _ _ _ _ _ _ _ zlz w pz (zhR.mono (Zle.left _ _)) (zhS.mono (Zle.left _ _)) ((la _ (.head _) _).stb)) ?_
 refine WD.a (i:=7) (d:=9) (by kernel_rfl) rfl z2 z6 rfl rfl rfl (fun _=>q_m rfl) ?_
 refine WD.a (i:=8) (d:=10) (by kernel_rfl) rfl z2 z6 rfl rfl rfl (fun _=>y6 rfl) ?_
 refine WD.a (i:=9) (d:=11) (by kernel_rfl) rfl z2 z6 rfl rfl rfl (fun _=>y4 yo rfl rfl) ?_
 refine WD.a (i:=10) (d:=12) (by kernel_rfl) rfl z2 z6 rfl rfl rfl (fun _=>y4 y14 rfl rfl) ?_
 refine WD.e (i:=11) (d:=13) (by kernel_rfl) rfl z2 z6 rfl rfl rfl (y5 yd rfl (yb .here rfl)) ?_
 refine WD.a (i:=12) (d:=14) (by kernel_rfl) rfl z2 z6 rfl rfl rfl (fun _=>y3d Tryd.underlying3 Tryd.underlying5 rfl rfl) ?_
 refine WD.a (i:=13) (d:=15) (by kernel_rfl) rfl z2 z6 rfl rfl rfl (fun _=>y6 rfl) ?_
 refine WD.y1t (i:=14) rfl (by kernel_rfl) rfl rfl rfl (by kernel_rfl) (y1m (l:=([zh.fState.fRegs.a0,zh.fState.fRegs.a1,zh.fState.fRegs.a2,zh.fState.fRegs.a3] : List Int)) (f:=Value.int .u8) (u:=u8 zh.fX.fB) (k:=2) (m:=6) (j:=4) (ds:=[(.int .i64 zh.fState.fPc),(.int .i64 zh.fState.fLeft),(.int .u8 (nth (([zh.fState.fRegs.a0,zh.fState.fRegs.a1,zh.fState.fRegs.a2,zh.fState.fRegs.a3] : List Int).set (zh.fX.fA : Int).toNat (u8 zh.fX.fB)) 0)),(.int .u8 (nth (([zh.fState.fRegs.a0,zh.fState.fRegs.a1,zh.fState.fRegs.a2,zh.fState.fRegs.a3] : List Int).set (zh.fX.fA : Int).toNat (u8 zh.fX.fB)) 1)),(.int .u8 (nth (([zh.fState.fRegs.a0,zh.fState.fRegs.a1,zh.fState.fRegs.a2,zh.fState.fRegs.a3] : List Int).set (zh.fX.fA : Int).toNat (u8 zh.fX.fB)) 2)),(.int .u8 (nth (([zh.fState.fRegs.a0,zh.fState.fRegs.a1,zh.fState.fRegs.a2,zh.fState.fRegs.a3] : List Int).set (zh.fX.fA : Int).toNat (u8 zh.fX.fB)) 3)),(.int .u8 zh.fX.fOp),(.int .i64 zh.fX.fA),(.int .i64 zh.fX.fB),(.int .i64 zh.fX.fC),(.slice z9O zh.fMem.length z9P),(.int .u8 zh.fAct.fKind),(.int .i64 zh.fAct.fA),(.int .i64 zh.fAct.fB),(.slice z9Q zh.fAct.fData.length z9R)]) y2h rfl rfl rfl rfl .here rfl rfl zlA rfl rfl) ?_
 refine WD.done (by kernel_rfl) ?_
 obtain rfl:=Option.some.inj h
 refine WX.y9 Tryd.results85 .nil (fun w hw=>?_)
 exact ⟨z9O,z9P,z9Q,z9R,yC,⟨zhR,zhS⟩,hw.sub (.cons .here .nil)⟩
def y2Y (za : Sproc_execution) : Option Sproc_execution :=
 (yn za za.fX.fA).bind fun zlB=>chk ((0 : Int) ≤ za.fX.fA ∧ za.fX.fA < 4) ((yn za za.fX.fB).bind fun zlC=>chk ((0 : Int) ≤ za.fX.fB ∧ za.fX.fB < 4) (some (⟨(⟨za.fState.fPc,za.fState.fLeft,(⟨nth (([za.fState.fRegs.a0,za.fState.fRegs.a1,za.fState.fRegs.a2,za.fState.fRegs.a3] : List Int).set (za.fX.fA : Int).toNat (u8 ((nth ([za.fState.fRegs.a0,za.fState.fRegs.a1,za.fState.fRegs.a2,za.fState.fRegs.a3] : List Int) za.fX.fA) + (nth ([za.fState.fRegs.a0,za.fState.fRegs.a1,za.fState.fRegs.a2,za.fState.fRegs.a3] : List Int) za.fX.fB)))) 0,nth (([za.fState.fRegs.a0,za.fState.fRegs.a1,za.fState.fRegs.a2,za.fState.fRegs.a3] : List Int).set (za.fX.fA : Int).toNat (u8 ((nth ([za.fState.fRegs.a0,za.fState.fRegs.a1,za.fState.fRegs.a2,za.fState.fRegs.a3] : List Int) za.fX.fA) + (nth ([za.fState.fRegs.a0,za.fState.fRegs.a1,za.fState.fRegs.a2,za.fState.fRegs.a3] : List Int) za.fX.fB)))) 1,nth (([za.fState.fRegs.a0,za.fState.fRegs.a1,za.fState.fRegs.a2,za.fState.fRegs.a3] : List Int).set (za.fX.fA : Int).toNat (u8 ((nth ([za.fState.fRegs.a0,za.fState.fRegs.a1,za.fState.fRegs.a2,za.fState.fRegs.a3] : List Int) za.fX.fA) + (nth ([za.fState.fRegs.a0,za.fState.fRegs.a1,za.fState.fRegs.a2,za.fState.fRegs.a3] : List Int) za.fX.fB)))) 2,nth (([za.fState.fRegs.a0,za.fState.fRegs.a1,za.fState.fRegs.a2,za.fState.fRegs.a3] : List Int).set (za.fX.fA : Int).toNat (u8 ((nth ([za.fState.fRegs.a0,za.fState.fRegs.a1,za.fState.fRegs.a2,za.fState.fRegs.a3] : List Int) za.fX.fA) + (nth ([za.fState.fRegs.a0,za.fState.fRegs.a1,za.fState.fRegs.a2,za.fState.fRegs.a3] : List Int) za.fX.fB)))) 3⟩ : S34)⟩ : Sproc_State),za.fX,za.fMem,za.fAct⟩ : Sproc_execution)))
set_option maxRecDepth 20000 in
theorem y5y (Z : Zp) (z8d : Nat) (z9S : Option Addr) (z9T : Nat) (z9U : Option Addr) (z9V : Nat) (za : Sproc_execution) (r : Sproc_execution)
  (h : y2Y za = some r) (w₀ : World) (hz : PZ (fps [stb z8d 65 [(.int .i64 za.fState.fPc),(.int .i64 za.fState.fLeft),(.int .u8 za.fState.fRegs.a0),(.int .u8 za.fState.fRegs.a1),(.int .u8 za.fState.fRegs.a2),(.int .u8 za.fState.fRegs.a3),(.int .u8 za.fX.fOp),(.int .i64 za.fX.fA),(.int .i64 za.fX.fB),(.int .i64 za.fX.fC),(.slice z9S za.fMem.length z9T),(.int .u8 za.fAct.fKind),(.int .i64 za.fAct.fA),(.int .i64 za.fAct.fB),(.slice z9U za.fAct.fData.length z9V)]]) w₀ Z)
  (zfu : ZS Z 1 (fun r x=>r = e5 x) z9S z9T za.fMem)
  (zfv : ZS Z 1 (fun r x=>r = e5 x) z9U z9V za.fAct.fData)
  (hown : Hp (fps [stb z8d 65 [(.int .i64 za.fState.fPc),(.int .i64 za.fState.fLeft),(.int .u8 za.fState.fRegs.a0),(.int .u8 za.fState.fRegs.a1),(.int .u8 za.fState.fRegs.a2),(.int .u8 za.fState.fRegs.a3),(.int .u8 za.fX.fOp),(.int .i64 za.fX.fA),(.int .i64 za.fX.fB),(.int .i64 za.fX.fC),(.slice z9S za.fMem.length z9T),(.int .u8 za.fAct.fKind),(.int .i64 za.fAct.fA),(.int .i64 za.fAct.fB),(.slice z9U za.fAct.fData.length z9V)]]) w₀ w₀ [stb z8d 65 [(.int .i64 za.fState.fPc),(.int .i64 za.fState.fLeft),(.int .u8 za.fState.fRegs.a0),(.int .u8 za.fState.fRegs.a1),(.int .u8 za.fState.fRegs.a2),(.int .u8 za.fState.fRegs.a3),(.int .u8 za.fX.fOp),(.int .i64 za.fX.fA),(.int .i64 za.fX.fB),(.int .i64 za.fX.fC),(.slice z9S za.fMem.length z9T),(.int .u8 za.fAct.fKind),(.int .i64 za.fAct.fA),(.int .i64 za.fAct.fB),(.slice z9U za.fAct.fData.length z9V)]]) :
  Calls Tryd.prog 82 #[(.pointer (some ⟨z8d,0,none⟩))] w₀ fun e w'=>∃ zhX : Option Addr,∃ zhY : Nat,∃ zhZ : Option Addr,∃ zi0 : Nat,e = .returned (.tuple #[]) ∧ ((ZS Z 1 (fun r x=>r = e5 x) zhX zhY r.fMem) ∧ (ZS Z 1 (fun r x=>r = e5 x) zhZ zi0 r.fAct.fData)) ∧ Hp (fps [stb z8d 65 [(.int .i64 za.fState.fPc),(.int .i64 za.fState.fLeft),(.int .u8 za.fState.fRegs.a0),(.int .u8 za.fState.fRegs.a1),(.int .u8 za.fState.fRegs.a2),(.int .u8 za.fState.fRegs.a3),(.int .u8 za.fX.fOp),(.int .i64 za.fX.fA),(.int .i64 za.fX.fB),(.int .i64 za.fX.fC),(.slice z9S za.fMem.length z9T),(.int .u8 za.fAct.fKind),(.int .i64 za.fAct.fA),(.int .i64 za.fAct.fB),(.slice z9U za.fAct.fData.length z9V)]]) w₀ w' [stb z8d 65 [(.int .i64 r.fState.fPc),(.int .i64 r.fState.fLeft),(.int .u8 r.fState.fRegs.a0),(.int .u8 r.fState.fRegs.a1),(.int .u8 r.fState.fRegs.a2),(.int .u8 r.fState.fRegs.a3),(.int .u8 r.fX.fOp),(.int .i64 r.fX.fA),(.int .i64 r.fX.fB),(.int .i64 r.fX.fC),(.slice zhX r.fMem.length zhY),(.int .u8 r.fAct.fKind),(.int .i64 r.fAct.fA),(.int .i64 r.fAct.fB),(.slice zhZ r.fAct.fData.length zi0)]]:=by
 unfold y2Y at h
 refine Calls.y8 (vs:=[(.pointer (some ⟨z8d,0,none⟩))]) (pre:=[stb z8d 65 [(.int .i64 za.fState.fPc),(.int .i64 za.fState.fLeft),(.int .u8 za.fState.fRegs.a0),(.int .u8 za.fState.fRegs.a1),(.int .u8 za.fState.fRegs.a2),(.int .u8 za.fState.fRegs.a3),(.int .u8 za.fX.fOp),(.int .i64 za.fX.fA),(.int .i64 za.fX.fB),(.int .i64 za.fX.fC),(.slice z9S za.fMem.length z9T),(.int .u8 za.fAct.fKind),(.int .i64 za.fAct.fA),(.int .i64 za.fAct.fB),(.slice z9U za.fAct.fData.length z9V)]]) (env:=[(0,(.pointer (some ⟨z8d,0,none⟩)))]) Tryd.func82 rfl Tryd.ntmps82 rfl (hown) rfl ?_
 obtain ⟨zlB,zlD,h⟩:=zd h
 obtain ⟨zi1,h⟩:=ya h
 obtain ⟨zlC,zlE,h⟩:=zd h
 obtain ⟨zlF,h⟩:=ya h
 refine WC.yX (fun i=>[20].contains i) [] rfl ?_
 refine WD.a (i:=0) (d:=2) (by kernel_rfl) rfl z2 z6 rfl rfl rfl (fun _=>q_m rfl) ?_
 refine WD.a (i:=1) (d:=3) (by kernel_rfl) rfl z2 z6 rfl rfl rfl (fun _=>q_m rfl) ?_
 refine WD.a (i:=2) (d:=4) (by kernel_rfl) rfl z2 z6 rfl rfl rfl (fun _=>y6 rfl) ?_
 refine WD.a (i:=3) (d:=5) (by kernel_rfl) rfl z2 z6 rfl rfl rfl (fun _=>y4 yo rfl rfl) ?_
 refine WD.a (i:=4) (d:=6) (by kernel_rfl) rfl z2 z6 rfl rfl rfl (fun _=>y4 yS rfl rfl) ?_
 refine WD.e (i:=5) (d:=7) (by kernel_rfl) rfl z2 z6 rfl rfl rfl (y5 yd rfl (yb .here rfl)) ?_
 refine WD.c (i:=6) (d:=8) (by kernel_rfl) rfl z2 z6 rfl rfl rfl (zl (l:=[.tmp 2,.tmp 7]) Tryd.call108 (.cons rfl (.cons rfl .nil))) (ccl hz .nil (.cons .here .nil) fun w pz ho la=>yt _ _ _ _ _ _ _ _ _ zlD w pz (zfu.mono (Zle.left _ _)) (zfv.mono (Zle.left _ _)) ((la _ (.head _) _).stb)) ?_
 refine WD.a (i:=7) (d:=9) (by kernel_rfl) rfl z2 z6 rfl rfl rfl (fun _=>y6 rfl) ?_
 refine WD.e (i:=8) (d:=10) (by kernel_rfl) rfl z2 z6 rfl rfl rfl (y5 yB rfl (yZ (l:=([za.fState.fRegs.a0,za.fState.fRegs.a1,za.fState.fRegs.a2,za.fState.fRegs.a3] : List Int)) (f:=Value.int .u8) (k:=2) (m:=6) .here rfl rfl zi1)) ?_
 refine WD.a (i:=9) (d:=11) (by kernel_rfl) rfl z2 z6 rfl rfl rfl (fun _=>q_m rfl) ?_
 refine WD.a (i:=10) (d:=12) (by kernel_rfl) rfl z2 z6 rfl rfl rfl (fun _=>q_m rfl) ?_
 refine WD.a (i:=11) (d:=13) (by kernel_rfl) rfl z2 z6 rfl rfl rfl (fun _=>y6 rfl) ?_
 refine WD.a (i:=12) (d:=14) (by kernel_rfl) rfl z2 z6 rfl rfl rfl (fun _=>y4 yo rfl rfl) ?_
 refine WD.a (i:=13) (d:=15) (by kernel_rfl) rfl z2 z6 rfl rfl rfl (fun _=>y4 y14 rfl rfl) ?_
 refine WD.e (i:=14) (d:=16) (by kernel_rfl) rfl z2 z6 rfl rfl rfl (y5 yd rfl (yb .here rfl)) ?_
 refine WD.c (i:=15) (d:=17) (by kernel_rfl) rfl z2 z6 rfl rfl rfl (zl (l:=[.tmp 11,.tmp 16]) Tryd.call108 (.cons rfl (.cons rfl .nil))) (ccl hz .nil (.cons .here .nil) fun w pz ho la=>yt _ _ _ _ _ _ _ _ _ zlE w pz (zfu.mono (Zle.left _ _)) (zfv.mono (Zle.left _ _)) ((la _ (.head _) _).stb)) ?_
 refine WD.a (i:=16) (d:=18) (by kernel_rfl) rfl z2 z6 rfl rfl rfl (fun _=>y6 rfl) ?_
 refine WD.e (i:=17) (d:=19) (by kernel_rfl) rfl z2 z6 rfl rfl rfl (y5 yB rfl (yZ (l:=([za.fState.fRegs.a0,za.fState.fRegs.a1,za.fState.fRegs.a2,za.fState.fRegs.a3] : List Int)) (f:=Value.int .u8) (k:=2) (m:=6) .here rfl rfl zlF)) ?_
 refine WD.a (i:=18) (d:=20) (by kernel_rfl) rfl z2 z6 rfl rfl rfl (fun _=>y4v rfl rfl rfl) ?_
 refine WD.a (i:=19) (d:=21) (by kernel_rfl) rfl z2 z6 rfl rfl rfl (fun _=>y6 rfl) ?_
 refine WD.y1t (i:=20) rfl (by kernel_rfl) rfl rfl rfl (by kernel_rfl) (y1m (l:=([za.fState.fRegs.a0,za.fState.fRegs.a1,za.fState.fRegs.a2,za.fState.fRegs.a3] : List Int)) (f:=Value.int .u8) (u:=u8 ((nth ([za.fState.fRegs.a0,za.fState.fRegs.a1,za.fState.fRegs.a2,za.fState.fRegs.a3] : List Int) za.fX.fA) + (nth ([za.fState.fRegs.a0,za.fState.fRegs.a1,za.fState.fRegs.a2,za.fState.fRegs.a3] : List Int) za.fX.fB))) (k:=2) (m:=6) (j:=4) (ds:=[(.int .i64 za.fState.fPc),(.int .i64 za.fState.fLeft),(.int .u8 (nth (([za.fState.fRegs.a0,za.fState.fRegs.a1,za.fState.fRegs.a2,za.fState.fRegs.a3] : List Int).set (za.fX.fA : Int).toNat (u8 ((nth ([za.fState.fRegs.a0,za.fState.fRegs.a1,za.fState.fRegs.a2,za.fState.fRegs.a3] : List Int) za.fX.fA) + (nth ([za.fState.fRegs.a0,za.fState.fRegs.a1,za.fState.fRegs.a2,za.fState.fRegs.a3] : List Int) za.fX.fB)))) 0)),(.int .u8 (nth (([za.fState.fRegs.a0,za.fState.fRegs.a1,za.fState.fRegs.a2,za.fState.fRegs.a3] : List Int).set (za.fX.fA : Int).toNat (u8 ((nth ([za.fState.fRegs.a0,za.fState.fRegs.a1,za.fState.fRegs.a2,za.fState.fRegs.a3] : List Int) za.fX.fA) + (nth ([za.fState.fRegs.a0,za.fState.fRegs.a1,za.fState.fRegs.a2,za.fState.fRegs.a3] : List Int) za.fX.fB)))) 1)),(.int .u8 (nth (([za.fState.fRegs.a0,za.fState.fRegs.a1,za.fState.fRegs.a2,za.fState.fRegs.a3] : List Int).set (za.fX.fA : Int).toNat (u8 ((nth ([za.fState.fRegs.a0,za.fState.fRegs.a1,za.fState.fRegs.a2,za.fState.fRegs.a3] : List Int) za.fX.fA) + (nth ([za.fState.fRegs.a0,za.fState.fRegs.a1,za.fState.fRegs.a2,za.fState.fRegs.a3] : List Int) za.fX.fB)))) 2)),(.int .u8 (nth (([za.fState.fRegs.a0,za.fState.fRegs.a1,za.fState.fRegs.a2,za.fState.fRegs.a3] : List Int).set (za.fX.fA : Int).toNat (u8 ((nth ([za.fState.fRegs.a0,za.fState.fRegs.a1,za.fState.fRegs.a2,za.fState.fRegs.a3] : List Int) za.fX.fA) + (nth ([za.fState.fRegs.a0,za.fState.fRegs.a1,za.fState.fRegs.a2,za.fState.fRegs.a3] : List Int) za.fX.fB)))) 3)),(.int .u8 za.fX.fOp),(.int .i64 za.fX.fA),(.int .i64 za.fX.fB),(.int .i64 za.fX.fC),(.slice z9S za.fMem.length z9T),(.int .u8 za.fAct.fKind),(.int .i64 za.fAct.fA),(.int .i64 za.fAct.fB),(.slice z9U za.fAct.fData.length z9V)]) y2h rfl rfl rfl rfl .here rfl rfl zi1 rfl rfl) ?_
 refine WD.done (by kernel_rfl) ?_
 obtain rfl:=Option.some.inj h
 refine WX.y9 Tryd.results82 .nil (fun w hw=>?_)
 exact ⟨z9S,z9T,z9U,z9V,yC,⟨zfu,zfv⟩,hw.sub (.cons .here .nil)⟩
def y2Z (zb : Sproc_execution) : Option Sproc_execution :=
 (yn zb zb.fX.fA).bind fun zlG=>chk ((0 : Int) ≤ zb.fX.fA ∧ zb.fX.fA < 4) ((yn zb zb.fX.fB).bind fun zlH=>chk ((0 : Int) ≤ zb.fX.fB ∧ zb.fX.fB < 4) (some (⟨(⟨zb.fState.fPc,zb.fState.fLeft,(⟨nth (([zb.fState.fRegs.a0,zb.fState.fRegs.a1,zb.fState.fRegs.a2,zb.fState.fRegs.a3] : List Int).set (zb.fX.fA : Int).toNat (u8 ((nth ([zb.fState.fRegs.a0,zb.fState.fRegs.a1,zb.fState.fRegs.a2,zb.fState.fRegs.a3] : List Int) zb.fX.fA) - (nth ([zb.fState.fRegs.a0,zb.fState.fRegs.a1,zb.fState.fRegs.a2,zb.fState.fRegs.a3] : List Int) zb.fX.fB)))) 0,nth (([zb.fState.fRegs.a0,zb.fState.fRegs.a1,zb.fState.fRegs.a2,zb.fState.fRegs.a3] : List Int).set (zb.fX.fA : Int).toNat (u8 ((nth ([zb.fState.fRegs.a0,zb.fState.fRegs.a1,zb.fState.fRegs.a2,zb.fState.fRegs.a3] : List Int) zb.fX.fA) - (nth ([zb.fState.fRegs.a0,zb.fState.fRegs.a1,zb.fState.fRegs.a2,zb.fState.fRegs.a3] : List Int) zb.fX.fB)))) 1,nth (([zb.fState.fRegs.a0,zb.fState.fRegs.a1,zb.fState.fRegs.a2,zb.fState.fRegs.a3] : List Int).set (zb.fX.fA : Int).toNat (u8 ((nth ([zb.fState.fRegs.a0,zb.fState.fRegs.a1,zb.fState.fRegs.a2,zb.fState.fRegs.a3] : List Int) zb.fX.fA) - (nth ([zb.fState.fRegs.a0,zb.fState.fRegs.a1,zb.fState.fRegs.a2,zb.fState.fRegs.a3] : List Int) zb.fX.fB)))) 2,nth (([zb.fState.fRegs.a0,zb.fState.fRegs.a1,zb.fState.fRegs.a2,zb.fState.fRegs.a3] : List Int).set (zb.fX.fA : Int).toNat (u8 ((nth ([zb.fState.fRegs.a0,zb.fState.fRegs.a1,zb.fState.fRegs.a2,zb.fState.fRegs.a3] : List Int) zb.fX.fA) - (nth ([zb.fState.fRegs.a0,zb.fState.fRegs.a1,zb.fState.fRegs.a2,zb.fState.fRegs.a3] : List Int) zb.fX.fB)))) 3⟩ : S34)⟩ : Sproc_State),zb.fX,zb.fMem,zb.fAct⟩ : Sproc_execution)))
set_option maxRecDepth 20000 in
theorem y5z (Z : Zp) (z8e : Nat) (z9W : Option Addr) (z9X : Nat) (z9Y : Option Addr) (z9Z : Nat) (zb : Sproc_execution) (r : Sproc_execution)
  (h : y2Z zb = some r) (w₀ : World) (hz : PZ (fps [stb z8e 65 [(.int .i64 zb.fState.fPc),(.int .i64 zb.fState.fLeft),(.int .u8 zb.fState.fRegs.a0),(.int .u8 zb.fState.fRegs.a1),(.int .u8 zb.fState.fRegs.a2),(.int .u8 zb.fState.fRegs.a3),(.int .u8 zb.fX.fOp),(.int .i64 zb.fX.fA),(.int .i64 zb.fX.fB),(.int .i64 zb.fX.fC),(.slice z9W zb.fMem.length z9X),(.int .u8 zb.fAct.fKind),(.int .i64 zb.fAct.fA),(.int .i64 zb.fAct.fB),(.slice z9Y zb.fAct.fData.length z9Z)]]) w₀ Z)
  (zfw : ZS Z 1 (fun r x=>r = e5 x) z9W z9X zb.fMem)
  (zfx : ZS Z 1 (fun r x=>r = e5 x) z9Y z9Z zb.fAct.fData)
  (hown : Hp (fps [stb z8e 65 [(.int .i64 zb.fState.fPc),(.int .i64 zb.fState.fLeft),(.int .u8 zb.fState.fRegs.a0),(.int .u8 zb.fState.fRegs.a1),(.int .u8 zb.fState.fRegs.a2),(.int .u8 zb.fState.fRegs.a3),(.int .u8 zb.fX.fOp),(.int .i64 zb.fX.fA),(.int .i64 zb.fX.fB),(.int .i64 zb.fX.fC),(.slice z9W zb.fMem.length z9X),(.int .u8 zb.fAct.fKind),(.int .i64 zb.fAct.fA),(.int .i64 zb.fAct.fB),(.slice z9Y zb.fAct.fData.length z9Z)]]) w₀ w₀ [stb z8e 65 [(.int .i64 zb.fState.fPc),(.int .i64 zb.fState.fLeft),(.int .u8 zb.fState.fRegs.a0),(.int .u8 zb.fState.fRegs.a1),(.int .u8 zb.fState.fRegs.a2),(.int .u8 zb.fState.fRegs.a3),(.int .u8 zb.fX.fOp),(.int .i64 zb.fX.fA),(.int .i64 zb.fX.fB),(.int .i64 zb.fX.fC),(.slice z9W zb.fMem.length z9X),(.int .u8 zb.fAct.fKind),(.int .i64 zb.fAct.fA),(.int .i64 zb.fAct.fB),(.slice z9Y zb.fAct.fData.length z9Z)]]) :
  Calls Tryd.prog 86 #[(.pointer (some ⟨z8e,0,none⟩))] w₀ fun e w'=>∃ zi2 : Option Addr,∃ zi3 : Nat,∃ zi4 : Option Addr,∃ zi5 : Nat,e = .returned (.tuple #[]) ∧ ((ZS Z 1 (fun r x=>r = e5 x) zi2 zi3 r.fMem) ∧ (ZS Z 1 (fun r x=>r = e5 x) zi4 zi5 r.fAct.fData)) ∧ Hp (fps [stb z8e 65 [(.int .i64 zb.fState.fPc),(.int .i64 zb.fState.fLeft),(.int .u8 zb.fState.fRegs.a0),(.int .u8 zb.fState.fRegs.a1),(.int .u8 zb.fState.fRegs.a2),(.int .u8 zb.fState.fRegs.a3),(.int .u8 zb.fX.fOp),(.int .i64 zb.fX.fA),(.int .i64 zb.fX.fB),(.int .i64 zb.fX.fC),(.slice z9W zb.fMem.length z9X),(.int .u8 zb.fAct.fKind),(.int .i64 zb.fAct.fA),(.int .i64 zb.fAct.fB),(.slice z9Y zb.fAct.fData.length z9Z)]]) w₀ w' [stb z8e 65 [(.int .i64 r.fState.fPc),(.int .i64 r.fState.fLeft),(.int .u8 r.fState.fRegs.a0),(.int .u8 r.fState.fRegs.a1),(.int .u8 r.fState.fRegs.a2),(.int .u8 r.fState.fRegs.a3),(.int .u8 r.fX.fOp),(.int .i64 r.fX.fA),(.int .i64 r.fX.fB),(.int .i64 r.fX.fC),(.slice zi2 r.fMem.length zi3),(.int .u8 r.fAct.fKind),(.int .i64 r.fAct.fA),(.int .i64 r.fAct.fB),(.slice zi4 r.fAct.fData.length zi5)]]:=by
 unfold y2Z at h
 refine Calls.y8 (vs:=[(.pointer (some ⟨z8e,0,none⟩))]) (pre:=[stb z8e 65 [(.int .i64 zb.fState.fPc),(.int .i64 zb.fState.fLeft),(.int .u8 zb.fState.fRegs.a0),(.int .u8 zb.fState.fRegs.a1),(.int .u8 zb.fState.fRegs.a2),(.int .u8 zb.fState.fRegs.a3),(.int .u8 zb.fX.fOp),(.int .i64 zb.fX.fA),(.int .i64 zb.fX.fB),(.int .i64 zb.fX.fC),(.slice z9W zb.fMem.length z9X),(.int .u8 zb.fAct.fKind),(.int .i64 zb.fAct.fA),(.int .i64 zb.fAct.fB),(.slice z9Y zb.fAct.fData.length z9Z)]]) (env:=[(0,(.pointer (some ⟨z8e,0,none⟩)))]) Tryd.func86 rfl Tryd.ntmps86 rfl (hown) rfl ?_
 obtain ⟨zlG,zlI,h⟩:=zd h
 obtain ⟨zi6,h⟩:=ya h
 obtain ⟨zlH,zlJ,h⟩:=zd h
 obtain ⟨zlK,h⟩:=ya h
 refine WC.yX (fun i=>[20].contains i) [] rfl ?_
 refine WD.a (i:=0) (d:=2) (by kernel_rfl) rfl z2 z6 rfl rfl rfl (fun _=>q_m rfl) ?_
 refine WD.a (i:=1) (d:=3) (by kernel_rfl) rfl z2 z6 rfl rfl rfl (fun _=>q_m rfl) ?_
 refine WD.a (i:=2) (d:=4) (by kernel_rfl) rfl z2 z6 rfl rfl rfl (fun _=>y6 rfl) ?_
 refine WD.a (i:=3) (d:=5) (by kernel_rfl) rfl z2 z6 rfl rfl rfl (fun _=>y4 yo rfl rfl) ?_
 refine WD.a (i:=4) (d:=6) (by kernel_rfl) rfl z2 z6 rfl rfl rfl (fun _=>y4 yS rfl rfl) ?_
 refine WD.e (i:=5) (d:=7) (by kernel_rfl) rfl z2 z6 rfl rfl rfl (y5 yd rfl (yb .here rfl)) ?_
 refine WD.c (i:=6) (d:=8) (by kernel_rfl) rfl z2 z6 rfl rfl rfl (zl (l:=[.tmp 2,.tmp 7]) Tryd.call108 (.cons rfl (.cons rfl .nil))) (ccl hz .nil (.cons .here .nil) fun w pz ho la=>yt _ _ _ _ _ _ _ _ _ zlI w pz (zfw.mono (Zle.left _ _)) (zfx.mono (Zle.left _ _)) ((la _ (.head _) _).stb)) ?_
 refine WD.a (i:=7) (d:=9) (by kernel_rfl) rfl z2 z6 rfl rfl rfl (fun _=>y6 rfl) ?_
 refine WD.e (i:=8) (d:=10) (by kernel_rfl) rfl z2 z6 rfl rfl rfl (y5 yB rfl (yZ (l:=([zb.fState.fRegs.a0,zb.fState.fRegs.a1,zb.fState.fRegs.a2,zb.fState.fRegs.a3] : List Int)) (f:=Value.int .u8) (k:=2) (m:=6) .here rfl rfl zi6)) ?_
 refine WD.a (i:=9) (d:=11) (by kernel_rfl) rfl z2 z6 rfl rfl rfl (fun _=>q_m rfl) ?_
 refine WD.a (i:=10) (d:=12) (by kernel_rfl) rfl z2 z6 rfl rfl rfl (fun _=>q_m rfl) ?_
 refine WD.a (i:=11) (d:=13) (by kernel_rfl) rfl z2 z6 rfl rfl rfl (fun _=>y6 rfl) ?_
 refine WD.a (i:=12) (d:=14) (by kernel_rfl) rfl z2 z6 rfl rfl rfl (fun _=>y4 yo rfl rfl) ?_
 refine WD.a (i:=13) (d:=15) (by kernel_rfl) rfl z2 z6 rfl rfl rfl (fun _=>y4 y14 rfl rfl) ?_
 refine WD.e (i:=14) (d:=16) (by kernel_rfl) rfl z2 z6 rfl rfl rfl (y5 yd rfl (yb .here rfl)) ?_
 refine WD.c (i:=15) (d:=17) (by kernel_rfl) rfl z2 z6 rfl rfl rfl (zl (l:=[.tmp 11,.tmp 16]) Tryd.call108 (.cons rfl (.cons rfl .nil))) (ccl hz .nil (.cons .here .nil) fun w pz ho la=>yt _ _ _ _ _ _ _ _ _ zlJ w pz (zfw.mono (Zle.left _ _)) (zfx.mono (Zle.left _ _)) ((la _ (.head _) _).stb)) ?_
 refine WD.a (i:=16) (d:=18) (by kernel_rfl) rfl z2 z6 rfl rfl rfl (fun _=>y6 rfl) ?_
 refine WD.e (i:=17) (d:=19) (by kernel_rfl) rfl z2 z6 rfl rfl rfl (y5 yB rfl (yZ (l:=([zb.fState.fRegs.a0,zb.fState.fRegs.a1,zb.fState.fRegs.a2,zb.fState.fRegs.a3] : List Int)) (f:=Value.int .u8) (k:=2) (m:=6) .here rfl rfl zlK)) ?_
 refine WD.a (i:=18) (d:=20) (by kernel_rfl) rfl z2 z6 rfl rfl rfl (fun _=>y6t rfl rfl rfl) ?_
 refine WD.a (i:=19) (d:=21) (by kernel_rfl) rfl z2 z6 rfl rfl rfl (fun _=>y6 rfl) ?_
 refine WD.y1t (i:=20) rfl (by kernel_rfl) rfl rfl rfl (by kernel_rfl) (y1m (l:=([zb.fState.fRegs.a0,zb.fState.fRegs.a1,zb.fState.fRegs.a2,zb.fState.fRegs.a3] : List Int)) (f:=Value.int .u8) (u:=u8 ((nth ([zb.fState.fRegs.a0,zb.fState.fRegs.a1,zb.fState.fRegs.a2,zb.fState.fRegs.a3] : List Int) zb.fX.fA) - (nth ([zb.fState.fRegs.a0,zb.fState.fRegs.a1,zb.fState.fRegs.a2,zb.fState.fRegs.a3] : List Int) zb.fX.fB))) (k:=2) (m:=6) (j:=4) (ds:=[(.int .i64 zb.fState.fPc),(.int .i64 zb.fState.fLeft),(.int .u8 (nth (([zb.fState.fRegs.a0,zb.fState.fRegs.a1,zb.fState.fRegs.a2,zb.fState.fRegs.a3] : List Int).set (zb.fX.fA : Int).toNat (u8 ((nth ([zb.fState.fRegs.a0,zb.fState.fRegs.a1,zb.fState.fRegs.a2,zb.fState.fRegs.a3] : List Int) zb.fX.fA) - (nth ([zb.fState.fRegs.a0,zb.fState.fRegs.a1,zb.fState.fRegs.a2,zb.fState.fRegs.a3] : List Int) zb.fX.fB)))) 0)),(.int .u8 (nth (([zb.fState.fRegs.a0,zb.fState.fRegs.a1,zb.fState.fRegs.a2,zb.fState.fRegs.a3] : List Int).set (zb.fX.fA : Int).toNat (u8 ((nth ([zb.fState.fRegs.a0,zb.fState.fRegs.a1,zb.fState.fRegs.a2,zb.fState.fRegs.a3] : List Int) zb.fX.fA) - (nth ([zb.fState.fRegs.a0,zb.fState.fRegs.a1,zb.fState.fRegs.a2,zb.fState.fRegs.a3] : List Int) zb.fX.fB)))) 1)),(.int .u8 (nth (([zb.fState.fRegs.a0,zb.fState.fRegs.a1,zb.fState.fRegs.a2,zb.fState.fRegs.a3] : List Int).set (zb.fX.fA : Int).toNat (u8 ((nth ([zb.fState.fRegs.a0,zb.fState.fRegs.a1,zb.fState.fRegs.a2,zb.fState.fRegs.a3] : List Int) zb.fX.fA) - (nth ([zb.fState.fRegs.a0,zb.fState.fRegs.a1,zb.fState.fRegs.a2,zb.fState.fRegs.a3] : List Int) zb.fX.fB)))) 2)),(.int .u8 (nth (([zb.fState.fRegs.a0,zb.fState.fRegs.a1,zb.fState.fRegs.a2,zb.fState.fRegs.a3] : List Int).set (zb.fX.fA : Int).toNat (u8 ((nth ([zb.fState.fRegs.a0,zb.fState.fRegs.a1,zb.fState.fRegs.a2,zb.fState.fRegs.a3] : List Int) zb.fX.fA) - (nth ([zb.fState.fRegs.a0,zb.fState.fRegs.a1,zb.fState.fRegs.a2,zb.fState.fRegs.a3] : List Int) zb.fX.fB)))) 3)),(.int .u8 zb.fX.fOp),(.int .i64 zb.fX.fA),(.int .i64 zb.fX.fB),(.int .i64 zb.fX.fC),(.slice z9W zb.fMem.length z9X),(.int .u8 zb.fAct.fKind),(.int .i64 zb.fAct.fA),(.int .i64 zb.fAct.fB),(.slice z9Y zb.fAct.fData.length z9Z)]) y2h rfl rfl rfl rfl .here rfl rfl zi6 rfl rfl) ?_
 refine WD.done (by kernel_rfl) ?_
 obtain rfl:=Option.some.inj h
 refine WX.y9 Tryd.results86 .nil (fun w hw=>?_)
 exact ⟨z9W,z9X,z9Y,z9Z,yC,⟨zfw,zfx⟩,hw.sub (.cons .here .nil)⟩
def y1w (zx : Sproc_execution) (za0 : Int) (za1 : Int) : Option Sproc_execution :=
 some (⟨zx.fState,zx.fX,zx.fMem,(⟨15,i64 za0,za1,([] : List Int)⟩ : Sproc_Act)⟩ : Sproc_execution)
set_option maxRecDepth 20000 in
theorem y2F (Z : Zp) (z8f : Nat) (za2 : Option Addr) (za3 : Nat) (zcg : Option Addr) (zch : Nat) (zx : Sproc_execution) (za0 : Int) (za1 : Int) (r : Sproc_execution)
  (h : y1w zx za0 za1 = some r) (w₀ : World) (hz : PZ (fps [stb z8f 65 [(.int .i64 zx.fState.fPc),(.int .i64 zx.fState.fLeft),(.int .u8 zx.fState.fRegs.a0),(.int .u8 zx.fState.fRegs.a1),(.int .u8 zx.fState.fRegs.a2),(.int .u8 zx.fState.fRegs.a3),(.int .u8 zx.fX.fOp),(.int .i64 zx.fX.fA),(.int .i64 zx.fX.fB),(.int .i64 zx.fX.fC),(.slice za2 zx.fMem.length za3),(.int .u8 zx.fAct.fKind),(.int .i64 zx.fAct.fA),(.int .i64 zx.fAct.fB),(.slice zcg zx.fAct.fData.length zch)]]) w₀ Z)
  (zlL : ZS Z 1 (fun r x=>r = e5 x) za2 za3 zx.fMem)
  (zx6 : ZS Z 1 (fun r x=>r = e5 x) zcg zch zx.fAct.fData)
  (hown : Hp (fps [stb z8f 65 [(.int .i64 zx.fState.fPc),(.int .i64 zx.fState.fLeft),(.int .u8 zx.fState.fRegs.a0),(.int .u8 zx.fState.fRegs.a1),(.int .u8 zx.fState.fRegs.a2),(.int .u8 zx.fState.fRegs.a3),(.int .u8 zx.fX.fOp),(.int .i64 zx.fX.fA),(.int .i64 zx.fX.fB),(.int .i64 zx.fX.fC),(.slice za2 zx.fMem.length za3),(.int .u8 zx.fAct.fKind),(.int .i64 zx.fAct.fA),(.int .i64 zx.fAct.fB),(.slice zcg zx.fAct.fData.length zch)]]) w₀ w₀ [stb z8f 65 [(.int .i64 zx.fState.fPc),(.int .i64 zx.fState.fLeft),(.int .u8 zx.fState.fRegs.a0),(.int .u8 zx.fState.fRegs.a1),(.int .u8 zx.fState.fRegs.a2),(.int .u8 zx.fState.fRegs.a3),(.int .u8 zx.fX.fOp),(.int .i64 zx.fX.fA),(.int .i64 zx.fX.fB),(.int .i64 zx.fX.fC),(.slice za2 zx.fMem.length za3),(.int .u8 zx.fAct.fKind),(.int .i64 zx.fAct.fA),(.int .i64 zx.fAct.fB),(.slice zcg zx.fAct.fData.length zch)]]) :
  Calls Tryd.prog 112 #[(.pointer (some ⟨z8f,0,none⟩)),(.int .u8 za0),(.int .i64 za1)] w₀ fun e w'=>∃ zi7 : Option Addr,∃ zi8 : Nat,∃ zi9 : Option Addr,∃ zia : Nat,e = .returned (.tuple #[]) ∧ (ZS Z 1 (fun r x=>r = e5 x) zi7 zi8 r.fMem) ∧ Hp (fps [stb z8f 65 [(.int .i64 zx.fState.fPc),(.int .i64 zx.fState.fLeft),(.int .u8 zx.fState.fRegs.a0),(.int .u8 zx.fState.fRegs.a1),(.int .u8 zx.fState.fRegs.a2),(.int .u8 zx.fState.fRegs.a3),(.int .u8 zx.fX.fOp),(.int .i64 zx.fX.fA),(.int .i64 zx.fX.fB),(.int .i64 zx.fX.fC),(.slice za2 zx.fMem.length za3),(.int .u8 zx.fAct.fKind),(.int .i64 zx.fAct.fA),(.int .i64 zx.fAct.fB),(.slice zcg zx.fAct.fData.length zch)]]) w₀ w' [stb z8f 65 [(.int .i64 r.fState.fPc),(.int .i64 r.fState.fLeft),(.int .u8 r.fState.fRegs.a0),(.int .u8 r.fState.fRegs.a1),(.int .u8 r.fState.fRegs.a2),(.int .u8 r.fState.fRegs.a3),(.int .u8 r.fX.fOp),(.int .i64 r.fX.fA),(.int .i64 r.fX.fB),(.int .i64 r.fX.fC),(.slice zi7 r.fMem.length zi8),(.int .u8 r.fAct.fKind),(.int .i64 r.fAct.fA),(.int .i64 r.fAct.fB),(.slice zi9 r.fAct.fData.length zia)],row (.slice zi9 r.fAct.fData.length zia) 5 1 (r.fAct.fData.flatMap e5)]:=by
 unfold y1w at h
 refine Calls.y8 (vs:=[(.pointer (some ⟨z8f,0,none⟩)),(.int .u8 za0),(.int .i64 za1)]) (pre:=[stb z8f 65 [(.int .i64 zx.fState.fPc),(.int .i64 zx.fState.fLeft),(.int .u8 zx.fState.fRegs.a0),(.int .u8 zx.fState.fRegs.a1),(.int .u8 zx.fState.fRegs.a2),(.int .u8 zx.fState.fRegs.a3),(.int .u8 zx.fX.fOp),(.int .i64 zx.fX.fA),(.int .i64 zx.fX.fB),(.int .i64 zx.fX.fC),(.slice za2 zx.fMem.length za3),(.int .u8 zx.fAct.fKind),(.int .i64 zx.fAct.fA),(.int .i64 zx.fAct.fB),(.slice zcg zx.fAct.fData.length zch)]]) (env:=[(0,(.pointer (some ⟨z8f,0,none⟩))),(1,(.int .u8 za0)),(2,(.int .i64 za1))]) Tryd.func112 rfl Tryd.ntmps112 rfl (hown) rfl ?_
 refine WC.a (WL.pu rfl (WL.pu rfl ?_))
 refine WL.a (d:=8) rfl rfl rfl (y3d Tryd.underlying5 Tryd.underlying3 rfl rfl) ?_
 refine WL.pu rfl ?_
 refine WL.a (d:=10) rfl rfl rfl (yR (v:=(.agg #[(.int .u8 15),(.int .i64 (i64 za0)),(.int .i64 za1),(.slice none 0 0)])) (Eos.parts (l:=[.const (.int .u8 15),.tmp 8,.tmp 9]) (.cons rfl (.cons rfl (.cons rfl .nil))) [0,1,2]) (fun _=>by kernel_rfl)) ?_
 refine WL.a (d:=11) rfl rfl rfl (y6 rfl) ?_
 refine WL.a (d:=12) rfl rfl rfl (y4 y2e rfl rfl) ?_
 refine WL.yg rfl rfl (yK (ds:=[(.int .i64 zx.fState.fPc),(.int .i64 zx.fState.fLeft),(.int .u8 zx.fState.fRegs.a0),(.int .u8 zx.fState.fRegs.a1),(.int .u8 zx.fState.fRegs.a2),(.int .u8 zx.fState.fRegs.a3),(.int .u8 zx.fX.fOp),(.int .i64 zx.fX.fA),(.int .i64 zx.fX.fB),(.int .i64 zx.fX.fC),(.slice za2 zx.fMem.length za3),(.int .u8 15),(.int .i64 (i64 za0)),(.int .i64 za1),(.slice none 0 0)]) y1g rfl rfl rfl rfl rfl .here rfl rfl) ?_
 refine WL.nil ?_
 refine WX.nilRow 5 1 ?_
 obtain rfl:=Option.some.inj h
 refine WX.y9 Tryd.results112 .nil (fun w hw=>?_)
 exact ⟨za2,za3,none,0,yC,zlL,hw.sub (.cons .h1 (.cons .here .nil))⟩
def y1M (zr : Sproc_execution) : Option (Int × Bool × Sproc_execution) :=
 (yn zr zr.fX.fC).bind fun zlM=>chk ((0 : Int) ≤ zr.fX.fC ∧ zr.fX.fC < 4) (if decide ((i64 (zr.fX.fB + (i64 (nth ([zr.fState.fRegs.a0,zr.fState.fRegs.a1,zr.fState.fRegs.a2,zr.fState.fRegs.a3] : List Int) zr.fX.fC)))) ≥ ((zr.fMem.length : Nat) : Int)) then (y1w zr 2 0).bind fun zfy=>some (0,false,zfy) else some ((i64 (zr.fX.fB + (i64 (nth ([zr.fState.fRegs.a0,zr.fState.fRegs.a1,zr.fState.fRegs.a2,zr.fState.fRegs.a3] : List Int) zr.fX.fC)))),true,zr))
set_option maxRecDepth 20000 in
theorem y3z (Z : Zp) (z8g : Nat) (zby : Option Addr) (zbz : Nat) (zbA : Option Addr) (zbB : Nat) (zr : Sproc_execution) (r : Int × Bool × Sproc_execution)
  (h : y1M zr = some r) (w₀ : World) (hz : PZ (fps [stb z8g 65 [(.int .i64 zr.fState.fPc),(.int .i64 zr.fState.fLeft),(.int .u8 zr.fState.fRegs.a0),(.int .u8 zr.fState.fRegs.a1),(.int .u8 zr.fState.fRegs.a2),(.int .u8 zr.fState.fRegs.a3),(.int .u8 zr.fX.fOp),(.int .i64 zr.fX.fA),(.int .i64 zr.fX.fB),(.int .i64 zr.fX.fC),(.slice zby zr.fMem.length zbz),(.int .u8 zr.fAct.fKind),(.int .i64 zr.fAct.fA),(.int .i64 zr.fAct.fB),(.slice zbA zr.fAct.fData.length zbB)]]) w₀ Z)
  (zfz : ZS Z 1 (fun r x=>r = e5 x) zby zbz zr.fMem)
  (zfA : ZS Z 1 (fun r x=>r = e5 x) zbA zbB zr.fAct.fData)
  (hown : Hp (fps [stb z8g 65 [(.int .i64 zr.fState.fPc),(.int .i64 zr.fState.fLeft),(.int .u8 zr.fState.fRegs.a0),(.int .u8 zr.fState.fRegs.a1),(.int .u8 zr.fState.fRegs.a2),(.int .u8 zr.fState.fRegs.a3),(.int .u8 zr.fX.fOp),(.int .i64 zr.fX.fA),(.int .i64 zr.fX.fB),(.int .i64 zr.fX.fC),(.slice zby zr.fMem.length zbz),(.int .u8 zr.fAct.fKind),(.int .i64 zr.fAct.fA),(.int .i64 zr.fAct.fB),(.slice zbA zr.fAct.fData.length zbB)]]) w₀ w₀ [stb z8g 65 [(.int .i64 zr.fState.fPc),(.int .i64 zr.fState.fLeft),(.int .u8 zr.fState.fRegs.a0),(.int .u8 zr.fState.fRegs.a1),(.int .u8 zr.fState.fRegs.a2),(.int .u8 zr.fState.fRegs.a3),(.int .u8 zr.fX.fOp),(.int .i64 zr.fX.fA),(.int .i64 zr.fX.fB),(.int .i64 zr.fX.fC),(.slice zby zr.fMem.length zbz),(.int .u8 zr.fAct.fKind),(.int .i64 zr.fAct.fA),(.int .i64 zr.fAct.fB),(.slice zbA zr.fAct.fData.length zbB)]]) :
  Calls Tryd.prog 109 #[(.pointer (some ⟨z8g,0,none⟩))] w₀ fun e w'=>∃ Zn : Zp,∃ zib : Option Addr,∃ zic : Nat,∃ zid : Option Addr,∃ zie : Nat,e = .returned (.tuple #[(.int .i64 r.1),(.bool r.2.1)]) ∧ ((ZS (Z ++ Zn) 1 (fun r x=>r = e5 x) zib zic r.2.2.fMem) ∧ (ZS (Z ++ Zn) 1 (fun r x=>r = e5 x) zid zie r.2.2.fAct.fData)) ∧ Hp (fps [stb z8g 65 [(.int .i64 zr.fState.fPc),(.int .i64 zr.fState.fLeft),(.int .u8 zr.fState.fRegs.a0),(.int .u8 zr.fState.fRegs.a1),(.int .u8 zr.fState.fRegs.a2),(.int .u8 zr.fState.fRegs.a3),(.int .u8 zr.fX.fOp),(.int .i64 zr.fX.fA),(.int .i64 zr.fX.fB),(.int .i64 zr.fX.fC),(.slice zby zr.fMem.length zbz),(.int .u8 zr.fAct.fKind),(.int .i64 zr.fAct.fA),(.int .i64 zr.fAct.fB),(.slice zbA zr.fAct.fData.length zbB)]]) w₀ w' [fz Zn,stb z8g 65 [(.int .i64 r.2.2.fState.fPc),(.int .i64 r.2.2.fState.fLeft),(.int .u8 r.2.2.fState.fRegs.a0),(.int .u8 r.2.2.fState.fRegs.a1),(.int .u8 r.2.2.fState.fRegs.a2),(.int .u8 r.2.2.fState.fRegs.a3),(.int .u8 r.2.2.fX.fOp),(.int .i64 r.2.2.fX.fA),(.int .i64 r.2.2.fX.fB),(.int .i64 r.2.2.fX.fC),(.slice zib r.2.2.fMem.length zic),(.int .u8 r.2.2.fAct.fKind),(.int .i64 r.2.2.fAct.fA),(.int .i64 r.2.2.fAct.fB),(.slice zid r.2.2.fAct.fData.length zie)]]:=by
 unfold y1M at h
 refine Calls.y8 (vs:=[(.pointer (some ⟨z8g,0,none⟩))]) (pre:=[stb z8g 65 [(.int .i64 zr.fState.fPc),(.int .i64 zr.fState.fLeft),(.int .u8 zr.fState.fRegs.a0),(.int .u8 zr.fState.fRegs.a1),(.int .u8 zr.fState.fRegs.a2),(.int .u8 zr.fState.fRegs.a3),(.int .u8 zr.fX.fOp),(.int .i64 zr.fX.fA),(.int .i64 zr.fX.fB),(.int .i64 zr.fX.fC),(.slice zby zr.fMem.length zbz),(.int .u8 zr.fAct.fKind),(.int .i64 zr.fAct.fA),(.int .i64 zr.fAct.fB),(.slice zbA zr.fAct.fData.length zbB)]]) (env:=[(0,(.pointer (some ⟨z8g,0,none⟩)))]) Tryd.func109 rfl Tryd.ntmps109 rfl (hown) rfl ?_
 refine WC.pool (WC.b (WC.a (WL.pu rfl (WL.pu rfl (WL.nil (WX.a (WC.b ?_)))))))
 obtain ⟨zlM,zlN,h⟩:=zd h
 obtain ⟨zlO,h⟩:=ya h
 refine WC.yX (fun i=>[].contains i) [] rfl ?_
 refine WD.a (i:=0) (d:=5) (by kernel_rfl) rfl z2 z6 rfl rfl rfl (fun _=>q_m rfl) ?_
 refine WD.a (i:=1) (d:=6) (by kernel_rfl) rfl z2 z6 rfl rfl rfl (fun _=>y6 rfl) ?_
 refine WD.a (i:=2) (d:=7) (by kernel_rfl) rfl z2 z6 rfl rfl rfl (fun _=>y4 yo rfl rfl) ?_
 refine WD.a (i:=3) (d:=8) (by kernel_rfl) rfl z2 z6 rfl rfl rfl (fun _=>y4 y14 rfl rfl) ?_
 refine WD.e (i:=4) (d:=9) (by kernel_rfl) rfl z2 z6 rfl rfl rfl (y5 yd rfl (yb .h1 rfl)) ?_
 refine WD.a (i:=5) (d:=10) (by kernel_rfl) rfl z2 z6 rfl rfl rfl (fun _=>q_m rfl) ?_
 refine WD.a (i:=6) (d:=11) (by kernel_rfl) rfl z2 z6 rfl rfl rfl (fun _=>q_m rfl) ?_
 refine WD.a (i:=7) (d:=12) (by kernel_rfl) rfl z2 z6 rfl rfl rfl (fun _=>y6 rfl) ?_
 refine WD.a (i:=8) (d:=13) (by kernel_rfl) rfl z2 z6 rfl rfl rfl (fun _=>y4 yo rfl rfl) ?_
 refine WD.a (i:=9) (d:=14) (by kernel_rfl) rfl z2 z6 rfl rfl rfl (fun _=>y4 y3q rfl rfl) ?_
 refine WD.e (i:=10) (d:=15) (by kernel_rfl) rfl z2 z6 rfl rfl rfl (y5 yd rfl (yb .h1 rfl)) ?_
 refine WD.c (i:=11) (d:=16) (by kernel_rfl) rfl z2 z6 rfl rfl rfl (zl (l:=[.tmp 10,.tmp 15]) Tryd.call108 (.cons rfl (.cons rfl .nil))) (y2W hz .nil .here (.cons .h1 .nil) fun w pz ho la=>yt _ _ _ _ _ _ _ _ _ zlN w pz ((zfz.mono (Zle.left _ _)).mono (Zle.left _ _)) ((zfA.mono (Zle.left _ _)).mono (Zle.left _ _)) ((la _ (.head _) _).stb)) ?_
 refine WD.a (i:=12) (d:=17) (by kernel_rfl) rfl z2 z6 rfl rfl rfl (fun _=>y6 rfl) ?_
 refine WD.e (i:=13) (d:=18) (by kernel_rfl) rfl z2 z6 rfl rfl rfl (y5 yB rfl (yZ (l:=([zr.fState.fRegs.a0,zr.fState.fRegs.a1,zr.fState.fRegs.a2,zr.fState.fRegs.a3] : List Int)) (f:=Value.int .u8) (k:=2) (m:=6) .h1 rfl rfl zlO)) ?_
 refine WD.a (i:=14) (d:=19) (by kernel_rfl) rfl z2 z6 rfl rfl rfl (fun _=>y3d Tryd.underlying5 Tryd.underlying3 rfl rfl) ?_
 refine WD.a (i:=15) (d:=20) (by kernel_rfl) rfl z2 z6 rfl rfl rfl (fun _=>y4v rfl rfl rfl) ?_
 refine WD.a (i:=16) (d:=4) (by kernel_rfl) rfl z2 z6 rfl rfl rfl (fun _=>q_z rfl) ?_
 refine WD.done (by kernel_rfl) ?_
 refine WX.a (WC.b (WC.b (WC.a (WL.pu rfl (WL.pu rfl ?_)))))
 refine WL.a (d:=23) rfl rfl rfl (y6 rfl) ?_
 refine WL.a (d:=24) rfl rfl rfl (y4 y69 rfl rfl) ?_
 refine WL.a (d:=25) rfl rfl rfl (y5 y49 rfl (yb .h1 rfl)) ?_
 refine WL.a (d:=26) rfl rfl rfl (y1s Tryd.underlying35 rfl) ?_
 refine WL.pu rfl (WL.nil (WX.a ?_))
 refine WC.cond rfl (fun zfB=>?_) (fun zfB=>?_)
 ·replace h:=yl h zfB
  refine WC.b ?_
  obtain ⟨zfy,zlP,h⟩:=zd h
  refine WC.a (WL.pu rfl ?_)
  refine WL.yw (dd:=29) rfl rfl rfl (zl (l:=[.tmp 28,.const (.int .u8 2),.const (.int .i64 0)]) Tryd.call112 (.cons rfl (.cons rfl (.cons rfl .nil)))) (.cons .h1 .nil) (ccz hz (.cons .h1 .nil) .here fun w pz ho=>y2F _ _ _ _ _ _ _ _ _ _ zlP w pz (zfz.mono (Zle.left _ _)) (zfA.mono (Zle.left _ _)) ho) ?_
  rintro zlQ zlR zlS zlT zlU
  refine WL.nil (WX.a (WC.b (WC.a (WL.pu rfl (WL.pu rfl (WL.nil (WX.a (WC.ret (WX.yf ?_)))))))))
  refine WX.freezeS (ls:=zfy.fAct.fData) .h1 .h1 hz (RR.y1b (enc:=e5) (fun _=>rfl) _) ?_
  intro zlV zlW zlX
  obtain rfl:=Option.some.inj h
  refine WX.yh Tryd.results109 (.tmp rfl (.tmp rfl .nil)) (fun w hw=>?_)
  exact ⟨zlV,zlQ,zlR,zlS,zlT,y3T rfl rfl,⟨(zlU.mono zlW),zlX⟩,hw.sub (.cons .here (.cons .here .nil))⟩
 ·replace h:=ym h zfB
  refine WC.skip (WX.a (WC.b (WC.a (WL.pu rfl (WL.pu rfl (WL.pu rfl (WL.nil (WX.a (WC.ret ?_)))))))))
  obtain rfl:=Option.some.inj h
  refine WX.yh Tryd.results109 (.tmp rfl (.tmp rfl .nil)) (fun w hw=>?_)
  exact ⟨[],zby,zbz,zbA,zbB,y3T rfl rfl,⟨(zfz.mono (Zle.left _ _)),(zfA.mono (Zle.left _ _))⟩,hw.sub (.cons .here (.cons .here .nil))⟩
def y2G (zD : Sproc_execution) : Option Sproc_execution :=
 (y1M zD).bind fun zB=>if zB.2.1 then (yn zB.2.2 zB.2.2.fX.fA).bind fun zlY=>chk ((0 : Int) ≤ zB.1 ∧ zB.1 < ((zB.2.2.fMem.length : Nat) : Int)) (chk ((0 : Int) ≤ zB.2.2.fX.fA ∧ zB.2.2.fX.fA < 4) (some (⟨(⟨zB.2.2.fState.fPc,zB.2.2.fState.fLeft,(⟨nth (([zB.2.2.fState.fRegs.a0,zB.2.2.fState.fRegs.a1,zB.2.2.fState.fRegs.a2,zB.2.2.fState.fRegs.a3] : List Int).set (zB.2.2.fX.fA : Int).toNat (nth zB.2.2.fMem zB.1)) 0,nth (([zB.2.2.fState.fRegs.a0,zB.2.2.fState.fRegs.a1,zB.2.2.fState.fRegs.a2,zB.2.2.fState.fRegs.a3] : List Int).set (zB.2.2.fX.fA : Int).toNat (nth zB.2.2.fMem zB.1)) 1,nth (([zB.2.2.fState.fRegs.a0,zB.2.2.fState.fRegs.a1,zB.2.2.fState.fRegs.a2,zB.2.2.fState.fRegs.a3] : List Int).set (zB.2.2.fX.fA : Int).toNat (nth zB.2.2.fMem zB.1)) 2,nth (([zB.2.2.fState.fRegs.a0,zB.2.2.fState.fRegs.a1,zB.2.2.fState.fRegs.a2,zB.2.2.fState.fRegs.a3] : List Int).set (zB.2.2.fX.fA : Int).toNat (nth zB.2.2.fMem zB.1)) 3⟩ : S34)⟩ : Sproc_State),zB.2.2.fX,zB.2.2.fMem,zB.2.2.fAct⟩ : Sproc_execution))) else some zB.2.2
set_option maxRecDepth 20000 in
theorem y53 (Z : Zp) (z8h : Nat) (zci : Option Addr) (zcj : Nat) (zck : Option Addr) (zcl : Nat) (zD : Sproc_execution) (r : Sproc_execution)
  (h : y2G zD = some r) (w₀ : World) (hz : PZ (fps [stb z8h 65 [(.int .i64 zD.fState.fPc),(.int .i64 zD.fState.fLeft),(.int .u8 zD.fState.fRegs.a0),(.int .u8 zD.fState.fRegs.a1),(.int .u8 zD.fState.fRegs.a2),(.int .u8 zD.fState.fRegs.a3),(.int .u8 zD.fX.fOp),(.int .i64 zD.fX.fA),(.int .i64 zD.fX.fB),(.int .i64 zD.fX.fC),(.slice zci zD.fMem.length zcj),(.int .u8 zD.fAct.fKind),(.int .i64 zD.fAct.fA),(.int .i64 zD.fAct.fB),(.slice zck zD.fAct.fData.length zcl)]]) w₀ Z)
  (zlZ : ZS Z 1 (fun r x=>r = e5 x) zci zcj zD.fMem)
  (zm0 : ZS Z 1 (fun r x=>r = e5 x) zck zcl zD.fAct.fData)
  (hown : Hp (fps [stb z8h 65 [(.int .i64 zD.fState.fPc),(.int .i64 zD.fState.fLeft),(.int .u8 zD.fState.fRegs.a0),(.int .u8 zD.fState.fRegs.a1),(.int .u8 zD.fState.fRegs.a2),(.int .u8 zD.fState.fRegs.a3),(.int .u8 zD.fX.fOp),(.int .i64 zD.fX.fA),(.int .i64 zD.fX.fB),(.int .i64 zD.fX.fC),(.slice zci zD.fMem.length zcj),(.int .u8 zD.fAct.fKind),(.int .i64 zD.fAct.fA),(.int .i64 zD.fAct.fB),(.slice zck zD.fAct.fData.length zcl)]]) w₀ w₀ [stb z8h 65 [(.int .i64 zD.fState.fPc),(.int .i64 zD.fState.fLeft),(.int .u8 zD.fState.fRegs.a0),(.int .u8 zD.fState.fRegs.a1),(.int .u8 zD.fState.fRegs.a2),(.int .u8 zD.fState.fRegs.a3),(.int .u8 zD.fX.fOp),(.int .i64 zD.fX.fA),(.int .i64 zD.fX.fB),(.int .i64 zD.fX.fC),(.slice zci zD.fMem.length zcj),(.int .u8 zD.fAct.fKind),(.int .i64 zD.fAct.fA),(.int .i64 zD.fAct.fB),(.slice zck zD.fAct.fData.length zcl)]]) :
  Calls Tryd.prog 87 #[(.pointer (some ⟨z8h,0,none⟩))] w₀ fun e w'=>∃ Zn : Zp,∃ zif : Option Addr,∃ zig : Nat,∃ zih : Option Addr,∃ zii : Nat,e = .returned (.tuple #[]) ∧ ((ZS (Z ++ Zn) 1 (fun r x=>r = e5 x) zif zig r.fMem) ∧ (ZS (Z ++ Zn) 1 (fun r x=>r = e5 x) zih zii r.fAct.fData)) ∧ Hp (fps [stb z8h 65 [(.int .i64 zD.fState.fPc),(.int .i64 zD.fState.fLeft),(.int .u8 zD.fState.fRegs.a0),(.int .u8 zD.fState.fRegs.a1),(.int .u8 zD.fState.fRegs.a2),(.int .u8 zD.fState.fRegs.a3),(.int .u8 zD.fX.fOp),(.int .i64 zD.fX.fA),(.int .i64 zD.fX.fB),(.int .i64 zD.fX.fC),(.slice zci zD.fMem.length zcj),(.int .u8 zD.fAct.fKind),(.int .i64 zD.fAct.fA),(.int .i64 zD.fAct.fB),(.slice zck zD.fAct.fData.length zcl)]]) w₀ w' [fz Zn,stb z8h 65 [(.int .i64 r.fState.fPc),(.int .i64 r.fState.fLeft),(.int .u8 r.fState.fRegs.a0),(.int .u8 r.fState.fRegs.a1),(.int .u8 r.fState.fRegs.a2),(.int .u8 r.fState.fRegs.a3),(.int .u8 r.fX.fOp),(.int .i64 r.fX.fA),(.int .i64 r.fX.fB),(.int .i64 r.fX.fC),(.slice zif r.fMem.length zig),(.int .u8 r.fAct.fKind),(.int .i64 r.fAct.fA),(.int .i64 r.fAct.fB),(.slice zih r.fAct.fData.length zii)]]:=by
 unfold y2G at h
 refine Calls.y8 (vs:=[(.pointer (some ⟨z8h,0,none⟩))]) (pre:=[stb z8h 65 [(.int .i64 zD.fState.fPc),(.int .i64 zD.fState.fLeft),(.int .u8 zD.fState.fRegs.a0),(.int .u8 zD.fState.fRegs.a1),(.int .u8 zD.fState.fRegs.a2),(.int .u8 zD.fState.fRegs.a3),(.int .u8 zD.fX.fOp),(.int .i64 zD.fX.fA),(.int .i64 zD.fX.fB),(.int .i64 zD.fX.fC),(.slice zci zD.fMem.length zcj),(.int .u8 zD.fAct.fKind),(.int .i64 zD.fAct.fA),(.int .i64 zD.fAct.fB),(.slice zck zD.fAct.fData.length zcl)]]) (env:=[(0,(.pointer (some ⟨z8h,0,none⟩)))]) Tryd.func87 rfl Tryd.ntmps87 rfl (hown) rfl ?_
 refine WC.pool (WC.b ?_)
 obtain ⟨zB,zm1,h⟩:=zd h
 refine WC.a (WL.pu rfl ?_)
 refine WL.y2T (dd:=6) rfl rfl rfl (zl (l:=[.tmp 5]) Tryd.call109 (.cons rfl .nil)) (.cons .h1 .nil) (ccz hz (.cons .h1 .nil) .here fun w pz ho=>y3z _ _ _ _ _ _ _ _ zm1 w pz (zlZ.mono (Zle.left _ _)) (zm0.mono (Zle.left _ _)) ho) ?_
 rintro zfC zfD zfE zfF zfG ⟨zeB,zfH⟩
 refine WL.merge .here .h1 ?_
 refine WL.pu rfl (WL.pu rfl (WL.pu rfl (WL.pu rfl (WL.pu rfl (WL.nil (WX.a (WC.b (WC.a (WL.pu rfl (WL.nil (WX.a ?_)))))))))))
 refine WC.cond rfl (fun zfI=>?_) (fun zfI=>?_)
 ·replace h:=yl h zfI
  obtain ⟨zlY,zm2,h⟩:=zd h
  obtain ⟨zm3,h⟩:=ya h
  obtain ⟨zm4,h⟩:=ya h
  refine WC.yX (fun i=>[15].contains i) [] rfl ?_
  refine WD.a (i:=0) (d:=10) (by kernel_rfl) rfl z2 z6 rfl rfl rfl (fun _=>q_m rfl) ?_
  refine WD.a (i:=1) (d:=11) (by kernel_rfl) rfl z2 z6 rfl rfl rfl (fun _=>q_m rfl) ?_
  refine WD.a (i:=2) (d:=12) (by kernel_rfl) rfl z2 z6 rfl rfl rfl (fun _=>y6 rfl) ?_
  refine WD.a (i:=3) (d:=13) (by kernel_rfl) rfl z2 z6 rfl rfl rfl (fun _=>y4 yo rfl rfl) ?_
  refine WD.a (i:=4) (d:=14) (by kernel_rfl) rfl z2 z6 rfl rfl rfl (fun _=>y4 yS rfl rfl) ?_
  refine WD.e (i:=5) (d:=15) (by kernel_rfl) rfl z2 z6 rfl rfl rfl (y5 yd rfl (yb .h1 rfl)) ?_
  refine WD.c (i:=6) (d:=16) (by kernel_rfl) rfl z2 z6 rfl rfl rfl (zl (l:=[.tmp 10,.tmp 15]) Tryd.call108 (.cons rfl (.cons rfl .nil))) (y2W hz .nil .here (.cons .h1 .nil) fun w pz ho la=>yt _ _ _ _ _ _ _ _ _ zm2 w pz ((zeB.mono (Zle.y7 _ _ _)).mono (Zle.left _ _)) ((zfH.mono (Zle.y7 _ _ _)).mono (Zle.left _ _)) ((la _ (.head _) _).stb)) ?_
  refine WD.a (i:=7) (d:=17) (by kernel_rfl) rfl z2 z6 rfl rfl rfl (fun _=>q_m rfl) ?_
  refine WD.a (i:=8) (d:=18) (by kernel_rfl) rfl z2 z6 rfl rfl rfl (fun _=>y6 rfl) ?_
  refine WD.a (i:=9) (d:=19) (by kernel_rfl) rfl z2 z6 rfl rfl rfl (fun _=>y4 y69 rfl rfl) ?_
  refine WD.e (i:=10) (d:=20) (by kernel_rfl) rfl z2 z6 rfl rfl rfl (y5 y49 rfl (yb .h1 rfl)) ?_
  refine WD.a (i:=11) (d:=21) (by kernel_rfl) rfl z2 z6 rfl rfl rfl (fun _=>q_m rfl) ?_
  refine WD.znth (j:=12) (dd:=22) (by kernel_rfl) rfl z2 z6 rfl rfl (Z:=(Z ++ ([] ++ zfC))) (Pr:=(fun r x=>r = e5 x)) y1v rfl rfl (zeB.mono (Zle.y7 _ _ _)) zm3 ?_
  rintro zx7 zx8 zm5 zx9 rfl
  refine WD.e (i:=13) (d:=23) (by kernel_rfl) rfl z2 z6 rfl rfl rfl (y5 yB rfl (y3u (hz.pv2 .here) zm5 rfl)) ?_
  refine WD.a (i:=14) (d:=24) (by kernel_rfl) rfl z2 z6 rfl rfl rfl (fun _=>y6 rfl) ?_
  refine WD.y1t (i:=15) rfl (by kernel_rfl) rfl rfl rfl (by kernel_rfl) (y1m (l:=([zB.2.2.fState.fRegs.a0,zB.2.2.fState.fRegs.a1,zB.2.2.fState.fRegs.a2,zB.2.2.fState.fRegs.a3] : List Int)) (f:=Value.int .u8) (u:=(nth zB.2.2.fMem zB.1)) (k:=2) (m:=6) (j:=4) (ds:=[(.int .i64 zB.2.2.fState.fPc),(.int .i64 zB.2.2.fState.fLeft),(.int .u8 (nth (([zB.2.2.fState.fRegs.a0,zB.2.2.fState.fRegs.a1,zB.2.2.fState.fRegs.a2,zB.2.2.fState.fRegs.a3] : List Int).set (zB.2.2.fX.fA : Int).toNat (nth zB.2.2.fMem zB.1)) 0)),(.int .u8 (nth (([zB.2.2.fState.fRegs.a0,zB.2.2.fState.fRegs.a1,zB.2.2.fState.fRegs.a2,zB.2.2.fState.fRegs.a3] : List Int).set (zB.2.2.fX.fA : Int).toNat (nth zB.2.2.fMem zB.1)) 1)),(.int .u8 (nth (([zB.2.2.fState.fRegs.a0,zB.2.2.fState.fRegs.a1,zB.2.2.fState.fRegs.a2,zB.2.2.fState.fRegs.a3] : List Int).set (zB.2.2.fX.fA : Int).toNat (nth zB.2.2.fMem zB.1)) 2)),(.int .u8 (nth (([zB.2.2.fState.fRegs.a0,zB.2.2.fState.fRegs.a1,zB.2.2.fState.fRegs.a2,zB.2.2.fState.fRegs.a3] : List Int).set (zB.2.2.fX.fA : Int).toNat (nth zB.2.2.fMem zB.1)) 3)),(.int .u8 zB.2.2.fX.fOp),(.int .i64 zB.2.2.fX.fA),(.int .i64 zB.2.2.fX.fB),(.int .i64 zB.2.2.fX.fC),(.slice zfD zB.2.2.fMem.length zfE),(.int .u8 zB.2.2.fAct.fKind),(.int .i64 zB.2.2.fAct.fA),(.int .i64 zB.2.2.fAct.fB),(.slice zfF zB.2.2.fAct.fData.length zfG)]) y2h rfl rfl rfl rfl .h1 rfl rfl zm4 rfl rfl) ?_
  refine WD.done (by kernel_rfl) ?_
  obtain rfl:=Option.some.inj h
  refine WX.y9 Tryd.results87 .nil (fun w hw=>?_)
  exact ⟨([] ++ zfC),zfD,zfE,zfF,zfG,yC,⟨(zeB.mono (Zle.y7 _ _ _)),(zfH.mono (Zle.y7 _ _ _))⟩,hw.sub (.cons .h1 (.cons .here .nil))⟩
 ·replace h:=ym h zfI
  refine WC.skip ?_
  obtain rfl:=Option.some.inj h
  refine WX.y9 Tryd.results87 .nil (fun w hw=>?_)
  exact ⟨([] ++ zfC),zfD,zfE,zfF,zfG,yC,⟨(zeB.mono (Zle.y7 _ _ _)),(zfH.mono (Zle.y7 _ _ _))⟩,hw.sub (.cons .here (.cons .here .nil))⟩
def y2u (zE : Sproc_execution) : Option Sproc_execution :=
 (y1M zE).bind fun z1g=>if z1g.2.1 then (yn z1g.2.2 z1g.2.2.fX.fA).bind fun zm6=>chk ((0 : Int) ≤ z1g.2.2.fX.fA ∧ z1g.2.2.fX.fA < 4) (some (⟨z1g.2.2.fState,z1g.2.2.fX,z1g.2.2.fMem,(⟨1,z1g.1,i64 (nth ([z1g.2.2.fState.fRegs.a0,z1g.2.2.fState.fRegs.a1,z1g.2.2.fState.fRegs.a2,z1g.2.2.fState.fRegs.a3] : List Int) z1g.2.2.fX.fA),[]⟩ : Sproc_Act)⟩ : Sproc_execution)) else some z1g.2.2
set_option maxRecDepth 20000 in
theorem y4D (Z : Zp) (z8i : Nat) (zcm : Option Addr) (zcn : Nat) (zco : Option Addr) (zcp : Nat) (zE : Sproc_execution) (r : Sproc_execution)
  (h : y2u zE = some r) (w₀ : World) (hz : PZ (fps [stb z8i 65 [(.int .i64 zE.fState.fPc),(.int .i64 zE.fState.fLeft),(.int .u8 zE.fState.fRegs.a0),(.int .u8 zE.fState.fRegs.a1),(.int .u8 zE.fState.fRegs.a2),(.int .u8 zE.fState.fRegs.a3),(.int .u8 zE.fX.fOp),(.int .i64 zE.fX.fA),(.int .i64 zE.fX.fB),(.int .i64 zE.fX.fC),(.slice zcm zE.fMem.length zcn),(.int .u8 zE.fAct.fKind),(.int .i64 zE.fAct.fA),(.int .i64 zE.fAct.fB),(.slice zco zE.fAct.fData.length zcp)]]) w₀ Z)
  (zm7 : ZS Z 1 (fun r x=>r = e5 x) zcm zcn zE.fMem)
  (zm8 : ZS Z 1 (fun r x=>r = e5 x) zco zcp zE.fAct.fData)
  (hown : Hp (fps [stb z8i 65 [(.int .i64 zE.fState.fPc),(.int .i64 zE.fState.fLeft),(.int .u8 zE.fState.fRegs.a0),(.int .u8 zE.fState.fRegs.a1),(.int .u8 zE.fState.fRegs.a2),(.int .u8 zE.fState.fRegs.a3),(.int .u8 zE.fX.fOp),(.int .i64 zE.fX.fA),(.int .i64 zE.fX.fB),(.int .i64 zE.fX.fC),(.slice zcm zE.fMem.length zcn),(.int .u8 zE.fAct.fKind),(.int .i64 zE.fAct.fA),(.int .i64 zE.fAct.fB),(.slice zco zE.fAct.fData.length zcp)]]) w₀ w₀ [stb z8i 65 [(.int .i64 zE.fState.fPc),(.int .i64 zE.fState.fLeft),(.int .u8 zE.fState.fRegs.a0),(.int .u8 zE.fState.fRegs.a1),(.int .u8 zE.fState.fRegs.a2),(.int .u8 zE.fState.fRegs.a3),(.int .u8 zE.fX.fOp),(.int .i64 zE.fX.fA),(.int .i64 zE.fX.fB),(.int .i64 zE.fX.fC),(.slice zcm zE.fMem.length zcn),(.int .u8 zE.fAct.fKind),(.int .i64 zE.fAct.fA),(.int .i64 zE.fAct.fB),(.slice zco zE.fAct.fData.length zcp)]]) :
  Calls Tryd.prog 88 #[(.pointer (some ⟨z8i,0,none⟩))] w₀ fun e w'=>∃ Zn : Zp,∃ zij : Option Addr,∃ zik : Nat,∃ zil : Option Addr,∃ zim : Nat,e = .returned (.tuple #[]) ∧ ((ZS (Z ++ Zn) 1 (fun r x=>r = e5 x) zij zik r.fMem) ∧ (ZS (Z ++ Zn) 1 (fun r x=>r = e5 x) zil zim r.fAct.fData)) ∧ Hp (fps [stb z8i 65 [(.int .i64 zE.fState.fPc),(.int .i64 zE.fState.fLeft),(.int .u8 zE.fState.fRegs.a0),(.int .u8 zE.fState.fRegs.a1),(.int .u8 zE.fState.fRegs.a2),(.int .u8 zE.fState.fRegs.a3),(.int .u8 zE.fX.fOp),(.int .i64 zE.fX.fA),(.int .i64 zE.fX.fB),(.int .i64 zE.fX.fC),(.slice zcm zE.fMem.length zcn),(.int .u8 zE.fAct.fKind),(.int .i64 zE.fAct.fA),(.int .i64 zE.fAct.fB),(.slice zco zE.fAct.fData.length zcp)]]) w₀ w' [fz Zn,stb z8i 65 [(.int .i64 r.fState.fPc),(.int .i64 r.fState.fLeft),(.int .u8 r.fState.fRegs.a0),(.int .u8 r.fState.fRegs.a1),(.int .u8 r.fState.fRegs.a2),(.int .u8 r.fState.fRegs.a3),(.int .u8 r.fX.fOp),(.int .i64 r.fX.fA),(.int .i64 r.fX.fB),(.int .i64 r.fX.fC),(.slice zij r.fMem.length zik),(.int .u8 r.fAct.fKind),(.int .i64 r.fAct.fA),(.int .i64 r.fAct.fB),(.slice zil r.fAct.fData.length zim)]]:=by
 unfold y2u at h
 refine Calls.y8 (vs:=[(.pointer (some ⟨z8i,0,none⟩))]) (pre:=[stb z8i 65 [(.int .i64 zE.fState.fPc),(.int .i64 zE.fState.fLeft),(.int .u8 zE.fState.fRegs.a0),(.int .u8 zE.fState.fRegs.a1),(.int .u8 zE.fState.fRegs.a2),(.int .u8 zE.fState.fRegs.a3),(.int .u8 zE.fX.fOp),(.int .i64 zE.fX.fA),(.int .i64 zE.fX.fB),(.int .i64 zE.fX.fC),(.slice zcm zE.fMem.length zcn),(.int .u8 zE.fAct.fKind),(.int .i64 zE.fAct.fA),(.int .i64 zE.fAct.fB),(.slice zco zE.fAct.fData.length zcp)]]) (env:=[(0,(.pointer (some ⟨z8i,0,none⟩)))]) Tryd.func88 rfl Tryd.ntmps88 rfl (hown) rfl ?_
 refine WC.pool (WC.b ?_)
 obtain ⟨z1g,zm9,h⟩:=zd h
 refine WC.a (WL.pu rfl ?_)
 refine WL.y2T (dd:=6) rfl rfl rfl (zl (l:=[.tmp 5]) Tryd.call109 (.cons rfl .nil)) (.cons .h1 .nil) (ccz hz (.cons .h1 .nil) .here fun w pz ho=>y3z _ _ _ _ _ _ _ _ zm9 w pz (zm7.mono (Zle.left _ _)) (zm8.mono (Zle.left _ _)) ho) ?_
 rintro zin zfJ zfK zma zmb ⟨zfL,zio⟩
 refine WL.merge .here .h1 ?_
 refine WL.pu rfl (WL.pu rfl (WL.pu rfl (WL.pu rfl (WL.pu rfl (WL.nil (WX.a (WC.b (WC.a (WL.pu rfl (WL.nil (WX.a ?_)))))))))))
 refine WC.cond rfl (fun zfM=>?_) (fun zfM=>?_)
 ·replace h:=yl h zfM
  obtain ⟨zm6,zmc,h⟩:=zd h
  obtain ⟨zmd,h⟩:=ya h
  refine WC.a (WL.pu rfl (WL.pu rfl (WL.pu rfl (WL.pu rfl ?_))))
  refine WL.a (d:=14) rfl rfl rfl (y6 rfl) ?_
  refine WL.a (d:=15) rfl rfl rfl (y4 yo rfl rfl) ?_
  refine WL.a (d:=16) rfl rfl rfl (y4 yS rfl rfl) ?_
  refine WL.a (d:=17) rfl rfl rfl (y5 yd rfl (yb .h1 rfl)) ?_
  refine WL.b (dd:=18) rfl rfl rfl (zl (l:=[.tmp 12,.tmp 17]) Tryd.call108 (.cons rfl (.cons rfl .nil))) .nil (y2W hz .nil .here (.cons .h1 .nil) fun w pz ho la=>yt _ _ _ _ _ _ _ _ _ zmc w pz ((zfL.mono (Zle.y7 _ _ _)).mono (Zle.left _ _)) ((zio.mono (Zle.y7 _ _ _)).mono (Zle.left _ _)) ((la _ (.head _) _).stb)) ?_
  refine WL.a (d:=19) rfl rfl rfl (y6 rfl) ?_
  refine WL.a (d:=20) rfl rfl rfl (y5 yB rfl (yZ (l:=([z1g.2.2.fState.fRegs.a0,z1g.2.2.fState.fRegs.a1,z1g.2.2.fState.fRegs.a2,z1g.2.2.fState.fRegs.a3] : List Int)) (f:=Value.int .u8) (k:=2) (m:=6) .h1 rfl rfl zmd)) ?_
  refine WL.a (d:=21) rfl rfl rfl (y3d Tryd.underlying5 Tryd.underlying3 rfl rfl) ?_
  refine WL.a (d:=22) rfl rfl rfl (yR (v:=(.agg #[(.int .u8 1),(.int .i64 z1g.1),(.int .i64 (i64 (nth ([z1g.2.2.fState.fRegs.a0,z1g.2.2.fState.fRegs.a1,z1g.2.2.fState.fRegs.a2,z1g.2.2.fState.fRegs.a3] : List Int) z1g.2.2.fX.fA))),(.slice none 0 0)])) (Eos.parts (l:=[.const (.int .u8 1),.tmp 11,.tmp 21]) (.cons rfl (.cons rfl (.cons rfl .nil))) [0,1,2]) (fun _=>by kernel_rfl)) ?_
  refine WL.a (d:=23) rfl rfl rfl (y6 rfl) ?_
  refine WL.a (d:=24) rfl rfl rfl (y4 y2e rfl rfl) ?_
  refine WL.yg rfl rfl (yK (ds:=[(.int .i64 z1g.2.2.fState.fPc),(.int .i64 z1g.2.2.fState.fLeft),(.int .u8 z1g.2.2.fState.fRegs.a0),(.int .u8 z1g.2.2.fState.fRegs.a1),(.int .u8 z1g.2.2.fState.fRegs.a2),(.int .u8 z1g.2.2.fState.fRegs.a3),(.int .u8 z1g.2.2.fX.fOp),(.int .i64 z1g.2.2.fX.fA),(.int .i64 z1g.2.2.fX.fB),(.int .i64 z1g.2.2.fX.fC),(.slice zfJ z1g.2.2.fMem.length zfK),(.int .u8 1),(.int .i64 z1g.1),(.int .i64 (i64 (nth ([z1g.2.2.fState.fRegs.a0,z1g.2.2.fState.fRegs.a1,z1g.2.2.fState.fRegs.a2,z1g.2.2.fState.fRegs.a3] : List Int) z1g.2.2.fX.fA))),(.slice none 0 0)]) y1g rfl rfl rfl rfl rfl .h1 rfl rfl) ?_
  refine WL.nil ?_
  obtain rfl:=Option.some.inj h
  refine WX.y9 Tryd.results88 .nil (fun w hw=>?_)
  exact ⟨([] ++ zin),zfJ,zfK,none,0,yC,⟨(zfL.mono (Zle.y7 _ _ _)),(ZS.nil _ _ _)⟩,hw.sub (.cons .h1 (.cons .here .nil))⟩
 ·replace h:=ym h zfM
  refine WC.skip ?_
  obtain rfl:=Option.some.inj h
  refine WX.y9 Tryd.results88 .nil (fun w hw=>?_)
  exact ⟨([] ++ zin),zfJ,zfK,zma,zmb,yC,⟨(zfL.mono (Zle.y7 _ _ _)),(zio.mono (Zle.y7 _ _ _))⟩,hw.sub (.cons .here (.cons .here .nil))⟩
def y1A (z2h : Int) (z3A : Int) (z8j : (List Int) → Option (List Int)) : Nat → (List Int) → Int → Option (List Int)
 | 0,_,_=>none
 | zfN + 1,z3B,z2m=>if decide (z2m < (((List.replicate (z2h : Int).toNat (0 : Int)).length : Nat) : Int)) then chk ((0 : Int) ≤ z2m ∧ z2m < ((z3B.length : Nat) : Int)) (y1A z2h z3A z8j zfN (z3B.set (z2m : Int).toNat (u8 (z3A + (u8 z2m)))) (i64 (z2m + 1))) else z8j z3B
theorem y5A {n : Nat} {z2h : Int} {z3A : Int} {z8j : (List Int) → Option (List Int)} {z3B : List Int} {z2m : Int} {r : List Int} (h : y1A z2h z3A z8j n z3B z2m = some r) : ∃ m,n = m + 1:=by
 cases n with
 | zero=>cases h
 | succ m=>exact ⟨m,rfl⟩
def y2H (z3A : Int) (z2h : Int) : Option (List Int) :=
 chk ((0 : Int) ≤ z2h ∧ (z2h : Int) ≤ z2h ∧ (z2h : Int) * 1 ≤ 140737488355328 ∧ (z2h : Int) ≤ 4611686018427387904) (jp1 (fun (z7m : List Int)=>some z7m) fun z8j=>y1A z2h z3A z8j y1K (List.replicate (z2h : Int).toNat (0 : Int)) 0)
set_option maxRecDepth 20000 in
theorem y62 (Z : Zp)  (z3A : Int) (z2h : Int) (r : List Int)
  (h : y2H z3A z2h = some r) (w₀ : World) (hz : PZ [] w₀ Z) :
  Calls Tryd.prog 111 #[(.int .u8 z3A),(.int .i64 z2h)] w₀ fun e w'=>∃ ziq : Option Addr,∃ zir : Nat,e = .returned (.slice ziq r.length zir) ∧ True ∧ Hp [] w₀ w' [row (.slice ziq r.length zir) 5 1 (r.flatMap e5)]:=by
 unfold y2H at h
 refine Calls.y8 (vs:=[(.int .u8 z3A),(.int .i64 z2h)]) (pre:=[]) (env:=[(0,(.int .u8 z3A)),(1,(.int .i64 z2h))]) Tryd.func111 rfl Tryd.ntmps111 rfl (Hp.nil w₀ _) rfl ?_
 refine WC.b (WC.a (WL.pu rfl (WL.nil (WX.a (WC.b ?_)))))
 obtain ⟨zme,h⟩:=ya h
 refine WC.a (WL.pu rfl ?_)
 refine WL.new (dd:=8) rfl rfl rfl (y3Y (r:=[(.int .u8 0)]) (z0:=(0 : Int)) y1v y68 rfl rfl rfl rfl zme) ?_
 intro zbC _
 refine WL.rowEqD .here (cs':=(List.replicate (z2h : Int).toNat (0 : Int)).flatMap e5) (y5u (enc:=e5) (0 : Int) _) ?_
 refine WL.pu rfl (WL.nil (WX.a ?_))
 obtain ⟨z8j,zmf,h⟩:=y3g h
 refine WC.y2V (fun (z7m : List Int)=>(z8j z7m = some r)) (fun (z7m : List Int)=>[(5,(.slice (some ⟨zbC,0,none⟩) z7m.length ((z2h : Int).toNat)))]) (fun (z7m : List Int)=>[row (.slice (some ⟨zbC,0,none⟩) z7m.length ((z2h : Int).toNat)) 5 1 (z7m.flatMap e5)]) ?_ ?_
 ·skip
  refine WC.b (WC.a (WL.pu rfl ?_))
  refine WL.a (d:=10) rfl rfl rfl (y1s Tryd.underlying35 rfl) ?_
  refine WL.pu rfl (WL.nil (WX.a (WC.block ?_)))
  refine WC.loop3 (fun (zcq : Nat) (z3B : List Int) (z2m : Int)=>(y1A z2h z3A z8j zcq z3B z2m = some r)) (fun (zcq : Nat) (z3B : List Int) (z2m : Int)=>[(0,(.int .u8 z3A)),(5,(.slice (some ⟨zbC,0,none⟩) z3B.length ((z2h : Int).toNat))),(10,(.int .i64 (((List.replicate (z2h : Int).toNat (0 : Int)).length : Nat) : Int))),(11,(.int .i64 z2m))]) (fun (zcq : Nat) (z3B : List Int) (z2m : Int)=>[row (.slice (some ⟨zbC,0,none⟩) z3B.length ((z2h : Int).toNat)) 5 1 (z3B.flatMap e5)]) (fun (zcq : Nat) (z3B : List Int) (z2m : Int)=>zcq) ⟨y1K,(List.replicate (z2h : Int).toNat (0 : Int)),0⟩ h (.cons rfl (.cons rfl (.cons rfl (.cons rfl .nil)))) (.cons .here .nil) ?_
  rintro zcq z3B z2m h
  obtain ⟨zfN,rfl⟩:=y5A h
  rw [y1A] at h
  refine WC.b (WC.a (WL.pu rfl (WL.nil (WX.a (WC.b ?_)))))
  refine WC.cond rfl (fun zfO=>?_) (fun zfO=>?_)
  ·replace h:=yl h zfO
   refine WC.skip (WX.a (WC.b (WC.block (WC.b (WC.a (WL.pu rfl (WL.pu rfl (WL.nil (WX.a ?_)))))))))
   obtain ⟨zcr,h⟩:=ya h
   refine WC.a (WL.pu rfl (WL.pu rfl (WL.pu rfl (WL.pu rfl ?_))))
   refine WL.a (d:=18) rfl rfl rfl (y3d Tryd.underlying3 Tryd.underlying5 rfl rfl) ?_
   refine WL.pu rfl ?_
   refine WL.a (d:=20) rfl rfl rfl (yT y1v rfl rfl zcr.1 zcr.2 y3f) ?_
   refine WL.yg rfl rfl (y5p (vs:=[(.int .u8 (u8 (z3A + (u8 z2m))))]) (ds:=(z3B.set (z2m : Int).toNat (u8 (z3A + (u8 z2m)))).flatMap e5) y2h rfl rfl rfl rfl (y6I rfl y7b) .here (y6m (enc:=e5) (sz:=1) (k:=0) (fun _=>rfl) zcr.1 zcr.2 (by decide)) (y6l (enc:=e5) (l:=z3B) (sz:=1) (vs:=[(.int .u8 (u8 (z3A + (u8 z2m))))]) (y:=u8 (z3A + (u8 z2m))) (k:=0) (fun _=>rfl) zcr.1 zcr.2 rfl (Nat.le_of_ble_eq_true rfl))) ?_
   refine WL.relen .here (u:=(.slice (some ⟨zbC,0,none⟩) ((z3B.set (z2m : Int).toNat (u8 (z3A + (u8 z2m)))).length) ((z2h : Int).toNat))) (slen (List.length_set).symm) ?_
   refine WL.repin (i:=5) rfl (u:=(.slice (some ⟨zbC,0,none⟩) ((z3B.set (z2m : Int).toNat (u8 (z3A + (u8 z2m)))).length) ((z2h : Int).toNat))) (slen (List.length_set).symm) ?_
   refine WL.nil (WX.yk (WX.a (WC.a (WL.pu rfl (WL.pu rfl (WL.nil ?_))))))
   exact WX.round (G:=Nat × List Int × Int) ⟨zfN,(z3B.set (z2m : Int).toNat (u8 (z3A + (u8 z2m)))),(i64 (z2m + 1))⟩ h (Nat.lt_succ_self _) (.cons rfl (.cons rfl (.cons rfl (.cons rfl .nil)))) (.cons .here .nil)
  ·replace h:=ym h zfO
   refine WC.exit (WX.yQ (WX.yQ (WX.y1L ?_)))
   exact WX.mid (G:=List Int) z3B h (.cons rfl .nil) (.cons .here .nil)
 ·rintro z7m h
  replace h:=(zmf z7m).symm.trans h
  refine WC.b (WC.a (WL.pu rfl (WL.pu rfl (WL.nil (WX.a (WC.ret ?_))))))
  obtain rfl:=Option.some.inj h
  refine WX.yh Tryd.results111 (.tmp rfl .nil) (fun w hw=>?_)
  exact ⟨(some ⟨zbC,0,none⟩),((z2h : Int).toNat),y1a rfl,trivial,hw.sub (.cons .here .nil)⟩
def ys (zu : Sproc_execution) (za4 : Int) (z8k : List Int) : Option Sproc_execution :=
 some (⟨zu.fState,zu.fX,zu.fMem,(⟨za4,zu.fX.fA,0,z8k⟩ : Sproc_Act)⟩ : Sproc_execution)
set_option maxRecDepth 20000 in
theorem yz (Z : Zp) (z8l : Nat) (za5 : Option Addr) (za6 : Nat) (zcs : Option Addr) (zct : Nat) (zbD : Option Addr) (zbE : Nat) (zu : Sproc_execution) (za4 : Int) (z8k : List Int) (r : Sproc_execution)
  (h : ys zu za4 z8k = some r) (w₀ : World) (hz : PZ (fps [stb z8l 65 [(.int .i64 zu.fState.fPc),(.int .i64 zu.fState.fLeft),(.int .u8 zu.fState.fRegs.a0),(.int .u8 zu.fState.fRegs.a1),(.int .u8 zu.fState.fRegs.a2),(.int .u8 zu.fState.fRegs.a3),(.int .u8 zu.fX.fOp),(.int .i64 zu.fX.fA),(.int .i64 zu.fX.fB),(.int .i64 zu.fX.fC),(.slice za5 zu.fMem.length za6),(.int .u8 zu.fAct.fKind),(.int .i64 zu.fAct.fA),(.int .i64 zu.fAct.fB),(.slice zcs zu.fAct.fData.length zct)]]) w₀ Z)
  (zmg : ZS Z 1 (fun r x=>r = e5 x) za5 za6 zu.fMem)
  (zxa : ZS Z 1 (fun r x=>r = e5 x) zcs zct zu.fAct.fData)
  (zmh : ZS Z 1 (fun r x=>r = e5 x) zbD zbE z8k)
  (hown : Hp (fps [stb z8l 65 [(.int .i64 zu.fState.fPc),(.int .i64 zu.fState.fLeft),(.int .u8 zu.fState.fRegs.a0),(.int .u8 zu.fState.fRegs.a1),(.int .u8 zu.fState.fRegs.a2),(.int .u8 zu.fState.fRegs.a3),(.int .u8 zu.fX.fOp),(.int .i64 zu.fX.fA),(.int .i64 zu.fX.fB),(.int .i64 zu.fX.fC),(.slice za5 zu.fMem.length za6),(.int .u8 zu.fAct.fKind),(.int .i64 zu.fAct.fA),(.int .i64 zu.fAct.fB),(.slice zcs zu.fAct.fData.length zct)]]) w₀ w₀ [stb z8l 65 [(.int .i64 zu.fState.fPc),(.int .i64 zu.fState.fLeft),(.int .u8 zu.fState.fRegs.a0),(.int .u8 zu.fState.fRegs.a1),(.int .u8 zu.fState.fRegs.a2),(.int .u8 zu.fState.fRegs.a3),(.int .u8 zu.fX.fOp),(.int .i64 zu.fX.fA),(.int .i64 zu.fX.fB),(.int .i64 zu.fX.fC),(.slice za5 zu.fMem.length za6),(.int .u8 zu.fAct.fKind),(.int .i64 zu.fAct.fA),(.int .i64 zu.fAct.fB),(.slice zcs zu.fAct.fData.length zct)]]) :
  Calls Tryd.prog 110 #[(.pointer (some ⟨z8l,0,none⟩)),(.int .u8 za4),(.slice zbD z8k.length zbE)] w₀ fun e w'=>∃ zis : Option Addr,∃ zit : Nat,∃ ziu : Option Addr,∃ ziv : Nat,e = .returned (.tuple #[]) ∧ ((ZS Z 1 (fun r x=>r = e5 x) zis zit r.fMem) ∧ (ZS Z 1 (fun r x=>r = e5 x) ziu ziv r.fAct.fData)) ∧ Hp (fps [stb z8l 65 [(.int .i64 zu.fState.fPc),(.int .i64 zu.fState.fLeft),(.int .u8 zu.fState.fRegs.a0),(.int .u8 zu.fState.fRegs.a1),(.int .u8 zu.fState.fRegs.a2),(.int .u8 zu.fState.fRegs.a3),(.int .u8 zu.fX.fOp),(.int .i64 zu.fX.fA),(.int .i64 zu.fX.fB),(.int .i64 zu.fX.fC),(.slice za5 zu.fMem.length za6),(.int .u8 zu.fAct.fKind),(.int .i64 zu.fAct.fA),(.int .i64 zu.fAct.fB),(.slice zcs zu.fAct.fData.length zct)]]) w₀ w' [stb z8l 65 [(.int .i64 r.fState.fPc),(.int .i64 r.fState.fLeft),(.int .u8 r.fState.fRegs.a0),(.int .u8 r.fState.fRegs.a1),(.int .u8 r.fState.fRegs.a2),(.int .u8 r.fState.fRegs.a3),(.int .u8 r.fX.fOp),(.int .i64 r.fX.fA),(.int .i64 r.fX.fB),(.int .i64 r.fX.fC),(.slice zis r.fMem.length zit),(.int .u8 r.fAct.fKind),(.int .i64 r.fAct.fA),(.int .i64 r.fAct.fB),(.slice ziu r.fAct.fData.length ziv)]]:=by
 unfold ys at h
 refine Calls.y8 (vs:=[(.pointer (some ⟨z8l,0,none⟩)),(.int .u8 za4),(.slice zbD z8k.length zbE)]) (pre:=[stb z8l 65 [(.int .i64 zu.fState.fPc),(.int .i64 zu.fState.fLeft),(.int .u8 zu.fState.fRegs.a0),(.int .u8 zu.fState.fRegs.a1),(.int .u8 zu.fState.fRegs.a2),(.int .u8 zu.fState.fRegs.a3),(.int .u8 zu.fX.fOp),(.int .i64 zu.fX.fA),(.int .i64 zu.fX.fB),(.int .i64 zu.fX.fC),(.slice za5 zu.fMem.length za6),(.int .u8 zu.fAct.fKind),(.int .i64 zu.fAct.fA),(.int .i64 zu.fAct.fB),(.slice zcs zu.fAct.fData.length zct)]]) (env:=[(0,(.pointer (some ⟨z8l,0,none⟩))),(1,(.int .u8 za4)),(2,(.slice zbD z8k.length zbE))]) Tryd.func110 rfl Tryd.ntmps110 rfl (hown) rfl ?_
 refine WC.a (WL.pu rfl (WL.pu rfl (WL.pu rfl ?_)))
 refine WL.a (d:=9) rfl rfl rfl (y6 rfl) ?_
 refine WL.a (d:=10) rfl rfl rfl (y4 yo rfl rfl) ?_
 refine WL.a (d:=11) rfl rfl rfl (y4 yS rfl rfl) ?_
 refine WL.a (d:=12) rfl rfl rfl (y5 yd rfl (yb .here rfl)) ?_
 refine WL.pu rfl ?_
 refine WL.a (d:=14) rfl rfl rfl (yR (v:=(.agg #[(.int .u8 za4),(.int .i64 zu.fX.fA),(.int .i64 0),(.slice zbD z8k.length zbE)])) (Eos.parts (l:=[.tmp 7,.tmp 12,.tmp 13]) (.cons rfl (.cons rfl (.cons rfl .nil))) [0,1,3]) (fun _=>by kernel_rfl)) ?_
 refine WL.a (d:=15) rfl rfl rfl (y6 rfl) ?_
 refine WL.a (d:=16) rfl rfl rfl (y4 y2e rfl rfl) ?_
 refine WL.yg rfl rfl (yK (ds:=[(.int .i64 zu.fState.fPc),(.int .i64 zu.fState.fLeft),(.int .u8 zu.fState.fRegs.a0),(.int .u8 zu.fState.fRegs.a1),(.int .u8 zu.fState.fRegs.a2),(.int .u8 zu.fState.fRegs.a3),(.int .u8 zu.fX.fOp),(.int .i64 zu.fX.fA),(.int .i64 zu.fX.fB),(.int .i64 zu.fX.fC),(.slice za5 zu.fMem.length za6),(.int .u8 za4),(.int .i64 zu.fX.fA),(.int .i64 0),(.slice zbD z8k.length zbE)]) y1g rfl rfl rfl rfl rfl .here rfl rfl) ?_
 refine WL.nil ?_
 obtain rfl:=Option.some.inj h
 refine WX.y9 Tryd.results110 .nil (fun w hw=>?_)
 exact ⟨za5,za6,zbD,zbE,yC,⟨zmg,zmh⟩,hw.sub (.cons .here .nil)⟩
def y2I (zw : Sproc_execution) : Option Sproc_execution :=
 (yn zw zw.fX.fB).bind fun zmi=>chk ((0 : Int) ≤ zw.fX.fB ∧ zw.fX.fB < 4) ((y2H (nth ([zw.fState.fRegs.a0,zw.fState.fRegs.a1,zw.fState.fRegs.a2,zw.fState.fRegs.a3] : List Int) zw.fX.fB) zw.fX.fC).bind fun zfP=>(ys zw 2 zfP).bind fun ziw=>some ziw)
set_option maxRecDepth 20000 in
theorem y54 (Z : Zp) (z8m : Nat) (zcu : Option Addr) (zcv : Nat) (zcw : Option Addr) (zcx : Nat) (zw : Sproc_execution) (r : Sproc_execution)
  (h : y2I zw = some r) (w₀ : World) (hz : PZ (fps [stb z8m 65 [(.int .i64 zw.fState.fPc),(.int .i64 zw.fState.fLeft),(.int .u8 zw.fState.fRegs.a0),(.int .u8 zw.fState.fRegs.a1),(.int .u8 zw.fState.fRegs.a2),(.int .u8 zw.fState.fRegs.a3),(.int .u8 zw.fX.fOp),(.int .i64 zw.fX.fA),(.int .i64 zw.fX.fB),(.int .i64 zw.fX.fC),(.slice zcu zw.fMem.length zcv),(.int .u8 zw.fAct.fKind),(.int .i64 zw.fAct.fA),(.int .i64 zw.fAct.fB),(.slice zcw zw.fAct.fData.length zcx)]]) w₀ Z)
  (zix : ZS Z 1 (fun r x=>r = e5 x) zcu zcv zw.fMem)
  (ziy : ZS Z 1 (fun r x=>r = e5 x) zcw zcx zw.fAct.fData)
  (hown : Hp (fps [stb z8m 65 [(.int .i64 zw.fState.fPc),(.int .i64 zw.fState.fLeft),(.int .u8 zw.fState.fRegs.a0),(.int .u8 zw.fState.fRegs.a1),(.int .u8 zw.fState.fRegs.a2),(.int .u8 zw.fState.fRegs.a3),(.int .u8 zw.fX.fOp),(.int .i64 zw.fX.fA),(.int .i64 zw.fX.fB),(.int .i64 zw.fX.fC),(.slice zcu zw.fMem.length zcv),(.int .u8 zw.fAct.fKind),(.int .i64 zw.fAct.fA),(.int .i64 zw.fAct.fB),(.slice zcw zw.fAct.fData.length zcx)]]) w₀ w₀ [stb z8m 65 [(.int .i64 zw.fState.fPc),(.int .i64 zw.fState.fLeft),(.int .u8 zw.fState.fRegs.a0),(.int .u8 zw.fState.fRegs.a1),(.int .u8 zw.fState.fRegs.a2),(.int .u8 zw.fState.fRegs.a3),(.int .u8 zw.fX.fOp),(.int .i64 zw.fX.fA),(.int .i64 zw.fX.fB),(.int .i64 zw.fX.fC),(.slice zcu zw.fMem.length zcv),(.int .u8 zw.fAct.fKind),(.int .i64 zw.fAct.fA),(.int .i64 zw.fAct.fB),(.slice zcw zw.fAct.fData.length zcx)]]) :
  Calls Tryd.prog 89 #[(.pointer (some ⟨z8m,0,none⟩))] w₀ fun e w'=>∃ Zn : Zp,∃ ziz : Option Addr,∃ ziA : Nat,∃ ziB : Option Addr,∃ ziC : Nat,e = .returned (.tuple #[]) ∧ ((ZS (Z ++ Zn) 1 (fun r x=>r = e5 x) ziz ziA r.fMem) ∧ (ZS (Z ++ Zn) 1 (fun r x=>r = e5 x) ziB ziC r.fAct.fData)) ∧ Hp (fps [stb z8m 65 [(.int .i64 zw.fState.fPc),(.int .i64 zw.fState.fLeft),(.int .u8 zw.fState.fRegs.a0),(.int .u8 zw.fState.fRegs.a1),(.int .u8 zw.fState.fRegs.a2),(.int .u8 zw.fState.fRegs.a3),(.int .u8 zw.fX.fOp),(.int .i64 zw.fX.fA),(.int .i64 zw.fX.fB),(.int .i64 zw.fX.fC),(.slice zcu zw.fMem.length zcv),(.int .u8 zw.fAct.fKind),(.int .i64 zw.fAct.fA),(.int .i64 zw.fAct.fB),(.slice zcw zw.fAct.fData.length zcx)]]) w₀ w' [fz Zn,stb z8m 65 [(.int .i64 r.fState.fPc),(.int .i64 r.fState.fLeft),(.int .u8 r.fState.fRegs.a0),(.int .u8 r.fState.fRegs.a1),(.int .u8 r.fState.fRegs.a2),(.int .u8 r.fState.fRegs.a3),(.int .u8 r.fX.fOp),(.int .i64 r.fX.fA),(.int .i64 r.fX.fB),(.int .i64 r.fX.fC),(.slice ziz r.fMem.length ziA),(.int .u8 r.fAct.fKind),(.int .i64 r.fAct.fA),(.int .i64 r.fAct.fB),(.slice ziB r.fAct.fData.length ziC)]]:=by
 unfold y2I at h
 refine Calls.y8 (vs:=[(.pointer (some ⟨z8m,0,none⟩))]) (pre:=[stb z8m 65 [(.int .i64 zw.fState.fPc),(.int .i64 zw.fState.fLeft),(.int .u8 zw.fState.fRegs.a0),(.int .u8 zw.fState.fRegs.a1),(.int .u8 zw.fState.fRegs.a2),(.int .u8 zw.fState.fRegs.a3),(.int .u8 zw.fX.fOp),(.int .i64 zw.fX.fA),(.int .i64 zw.fX.fB),(.int .i64 zw.fX.fC),(.slice zcu zw.fMem.length zcv),(.int .u8 zw.fAct.fKind),(.int .i64 zw.fAct.fA),(.int .i64 zw.fAct.fB),(.slice zcw zw.fAct.fData.length zcx)]]) (env:=[(0,(.pointer (some ⟨z8m,0,none⟩)))]) Tryd.func89 rfl Tryd.ntmps89 rfl (hown) rfl ?_
 refine WC.pool ?_
 obtain ⟨zmi,zmj,h⟩:=zd h
 obtain ⟨zmk,h⟩:=ya h
 obtain ⟨zfP,zml,h⟩:=zd h
 obtain ⟨ziw,zmm,h⟩:=zd h
 refine WC.yX (fun i=>[16].contains i) [] rfl ?_
 refine WD.a (i:=0) (d:=2) (by kernel_rfl) rfl z2 z6 rfl rfl rfl (fun _=>q_m rfl) ?_
 refine WD.a (i:=1) (d:=3) (by kernel_rfl) rfl z2 z6 rfl rfl rfl (fun _=>q_m rfl) ?_
 refine WD.a (i:=2) (d:=4) (by kernel_rfl) rfl z2 z6 rfl rfl rfl (fun _=>q_m rfl) ?_
 refine WD.a (i:=3) (d:=5) (by kernel_rfl) rfl z2 z6 rfl rfl rfl (fun _=>y6 rfl) ?_
 refine WD.a (i:=4) (d:=6) (by kernel_rfl) rfl z2 z6 rfl rfl rfl (fun _=>y4 yo rfl rfl) ?_
 refine WD.a (i:=5) (d:=7) (by kernel_rfl) rfl z2 z6 rfl rfl rfl (fun _=>y4 y14 rfl rfl) ?_
 refine WD.e (i:=6) (d:=8) (by kernel_rfl) rfl z2 z6 rfl rfl rfl (y5 yd rfl (yb .h1 rfl)) ?_
 refine WD.c (i:=7) (d:=9) (by kernel_rfl) rfl z2 z6 rfl rfl rfl (zl (l:=[.tmp 3,.tmp 8]) Tryd.call108 (.cons rfl (.cons rfl .nil))) (y2W hz .nil .here (.cons .h1 .nil) fun w pz ho la=>yt _ _ _ _ _ _ _ _ _ zmj w pz ((zix.mono (Zle.left _ _)).mono (Zle.left _ _)) ((ziy.mono (Zle.left _ _)).mono (Zle.left _ _)) ((la _ (.head _) _).stb)) ?_
 refine WD.a (i:=8) (d:=10) (by kernel_rfl) rfl z2 z6 rfl rfl rfl (fun _=>y6 rfl) ?_
 refine WD.e (i:=9) (d:=11) (by kernel_rfl) rfl z2 z6 rfl rfl rfl (y5 yB rfl (yZ (l:=([zw.fState.fRegs.a0,zw.fState.fRegs.a1,zw.fState.fRegs.a2,zw.fState.fRegs.a3] : List Int)) (f:=Value.int .u8) (k:=2) (m:=6) .h1 rfl rfl zmk)) ?_
 refine WD.a (i:=10) (d:=12) (by kernel_rfl) rfl z2 z6 rfl rfl rfl (fun _=>q_m rfl) ?_
 refine WD.a (i:=11) (d:=13) (by kernel_rfl) rfl z2 z6 rfl rfl rfl (fun _=>y6 rfl) ?_
 refine WD.a (i:=12) (d:=14) (by kernel_rfl) rfl z2 z6 rfl rfl rfl (fun _=>y4 yo rfl rfl) ?_
 refine WD.a (i:=13) (d:=15) (by kernel_rfl) rfl z2 z6 rfl rfl rfl (fun _=>y4 y3q rfl rfl) ?_
 refine WD.e (i:=14) (d:=16) (by kernel_rfl) rfl z2 z6 rfl rfl rfl (y5 yd rfl (yb .h1 rfl)) ?_
 refine WD.call2 (i:=15) (dd:=17) rfl (by kernel_rfl) rfl rfl rfl (.inr rfl) (zl (l:=[.tmp 11,.tmp 16]) Tryd.call111 (.cons rfl (.cons rfl .nil))) .nil (ccz hz .nil .here fun w pz ho=>y62 _ _ _ _ zml w pz ) ?_
 rintro zxb zxc _
 refine WD.freezeS (ls:=zfP) .here .here hz (RR.y1b (enc:=e5) (fun _=>rfl) _) ?_
 intro zmn ziD zmo
 refine WD.call4 (i:=16) (dd:=18) rfl (by kernel_rfl) rfl rfl rfl (.inl ⟨rfl,fun _ _ _ _=>(Sin.of .nil)⟩) (zl (l:=[.tmp 2,.const (.int .u8 2),.tmp 17]) Tryd.call110 (.cons rfl (.cons rfl (.cons rfl .nil)))) (.cons .h1 .nil) (ccz hz (.cons .h1 .nil) .here fun w pz ho=>yz _ _ _ _ _ _ _ _ _ _ _ _ zmm w pz (zix.mono ((Zle.left _ _).trans ziD)) (ziy.mono ((Zle.left _ _).trans ziD)) zmo ho) ?_
 rintro zmp zmq zmr zms ⟨zmt,zmu⟩
 refine WD.done (by kernel_rfl) ?_
 obtain rfl:=Option.some.inj h
 refine WX.y9 Tryd.results89 .nil (fun w hw=>?_)
 exact ⟨zmn,zmp,zmq,zmr,zms,yC,⟨zmt,zmu⟩,hw.sub (.cons .h1 (.cons .here .nil))⟩
def y2J (zF : Sproc_execution) : Option Sproc_execution :=
 (ys zF 3 []).bind fun ziE=>some ziE
set_option maxRecDepth 20000 in
theorem y55 (Z : Zp) (z8n : Nat) (zcy : Option Addr) (zcz : Nat) (zcA : Option Addr) (zcB : Nat) (zF : Sproc_execution) (r : Sproc_execution)
  (h : y2J zF = some r) (w₀ : World) (hz : PZ (fps [stb z8n 65 [(.int .i64 zF.fState.fPc),(.int .i64 zF.fState.fLeft),(.int .u8 zF.fState.fRegs.a0),(.int .u8 zF.fState.fRegs.a1),(.int .u8 zF.fState.fRegs.a2),(.int .u8 zF.fState.fRegs.a3),(.int .u8 zF.fX.fOp),(.int .i64 zF.fX.fA),(.int .i64 zF.fX.fB),(.int .i64 zF.fX.fC),(.slice zcy zF.fMem.length zcz),(.int .u8 zF.fAct.fKind),(.int .i64 zF.fAct.fA),(.int .i64 zF.fAct.fB),(.slice zcA zF.fAct.fData.length zcB)]]) w₀ Z)
  (zmv : ZS Z 1 (fun r x=>r = e5 x) zcy zcz zF.fMem)
  (zmw : ZS Z 1 (fun r x=>r = e5 x) zcA zcB zF.fAct.fData)
  (hown : Hp (fps [stb z8n 65 [(.int .i64 zF.fState.fPc),(.int .i64 zF.fState.fLeft),(.int .u8 zF.fState.fRegs.a0),(.int .u8 zF.fState.fRegs.a1),(.int .u8 zF.fState.fRegs.a2),(.int .u8 zF.fState.fRegs.a3),(.int .u8 zF.fX.fOp),(.int .i64 zF.fX.fA),(.int .i64 zF.fX.fB),(.int .i64 zF.fX.fC),(.slice zcy zF.fMem.length zcz),(.int .u8 zF.fAct.fKind),(.int .i64 zF.fAct.fA),(.int .i64 zF.fAct.fB),(.slice zcA zF.fAct.fData.length zcB)]]) w₀ w₀ [stb z8n 65 [(.int .i64 zF.fState.fPc),(.int .i64 zF.fState.fLeft),(.int .u8 zF.fState.fRegs.a0),(.int .u8 zF.fState.fRegs.a1),(.int .u8 zF.fState.fRegs.a2),(.int .u8 zF.fState.fRegs.a3),(.int .u8 zF.fX.fOp),(.int .i64 zF.fX.fA),(.int .i64 zF.fX.fB),(.int .i64 zF.fX.fC),(.slice zcy zF.fMem.length zcz),(.int .u8 zF.fAct.fKind),(.int .i64 zF.fAct.fA),(.int .i64 zF.fAct.fB),(.slice zcA zF.fAct.fData.length zcB)]]) :
  Calls Tryd.prog 90 #[(.pointer (some ⟨z8n,0,none⟩))] w₀ fun e w'=>∃ ziF : Option Addr,∃ ziG : Nat,∃ ziH : Option Addr,∃ ziI : Nat,e = .returned (.tuple #[]) ∧ ((ZS Z 1 (fun r x=>r = e5 x) ziF ziG r.fMem) ∧ (ZS Z 1 (fun r x=>r = e5 x) ziH ziI r.fAct.fData)) ∧ Hp (fps [stb z8n 65 [(.int .i64 zF.fState.fPc),(.int .i64 zF.fState.fLeft),(.int .u8 zF.fState.fRegs.a0),(.int .u8 zF.fState.fRegs.a1),(.int .u8 zF.fState.fRegs.a2),(.int .u8 zF.fState.fRegs.a3),(.int .u8 zF.fX.fOp),(.int .i64 zF.fX.fA),(.int .i64 zF.fX.fB),(.int .i64 zF.fX.fC),(.slice zcy zF.fMem.length zcz),(.int .u8 zF.fAct.fKind),(.int .i64 zF.fAct.fA),(.int .i64 zF.fAct.fB),(.slice zcA zF.fAct.fData.length zcB)]]) w₀ w' [stb z8n 65 [(.int .i64 r.fState.fPc),(.int .i64 r.fState.fLeft),(.int .u8 r.fState.fRegs.a0),(.int .u8 r.fState.fRegs.a1),(.int .u8 r.fState.fRegs.a2),(.int .u8 r.fState.fRegs.a3),(.int .u8 r.fX.fOp),(.int .i64 r.fX.fA),(.int .i64 r.fX.fB),(.int .i64 r.fX.fC),(.slice ziF r.fMem.length ziG),(.int .u8 r.fAct.fKind),(.int .i64 r.fAct.fA),(.int .i64 r.fAct.fB),(.slice ziH r.fAct.fData.length ziI)]]:=by
 unfold y2J at h
 refine Calls.y8 (vs:=[(.pointer (some ⟨z8n,0,none⟩))]) (pre:=[stb z8n 65 [(.int .i64 zF.fState.fPc),(.int .i64 zF.fState.fLeft),(.int .u8 zF.fState.fRegs.a0),(.int .u8 zF.fState.fRegs.a1),(.int .u8 zF.fState.fRegs.a2),(.int .u8 zF.fState.fRegs.a3),(.int .u8 zF.fX.fOp),(.int .i64 zF.fX.fA),(.int .i64 zF.fX.fB),(.int .i64 zF.fX.fC),(.slice zcy zF.fMem.length zcz),(.int .u8 zF.fAct.fKind),(.int .i64 zF.fAct.fA),(.int .i64 zF.fAct.fB),(.slice zcA zF.fAct.fData.length zcB)]]) (env:=[(0,(.pointer (some ⟨z8n,0,none⟩)))]) Tryd.func90 rfl Tryd.ntmps90 rfl (hown) rfl ?_
 obtain ⟨ziE,zmx,h⟩:=zd h
 refine WC.a (WL.pu rfl ?_)
 refine WL.yw (dd:=3) rfl rfl rfl (zl (l:=[.tmp 2,.const (.int .u8 3),.const (.slice none 0 0)]) Tryd.call110 (.cons rfl (.cons rfl (.cons rfl .nil)))) (.cons .here .nil) (cc hz (.cons .here .nil) fun w pz ho=>yz _ _ _ _ _ _ _ _ _ _ _ _ zmx w pz zmv zmw (ZS.nil _ _ _) ho) ?_
 rintro zmy zmz zmA zmB ⟨zmC,zmD⟩
 refine WL.nil ?_
 obtain rfl:=Option.some.inj h
 refine WX.y9 Tryd.results90 .nil (fun w hw=>?_)
 exact ⟨zmy,zmz,zmA,zmB,yC,⟨zmC,zmD⟩,hw.sub (.cons .here .nil)⟩
def y2K (zG : Sproc_execution) : Option Sproc_execution :=
 (ys zG 4 []).bind fun ziJ=>some ziJ
set_option maxRecDepth 20000 in
theorem y56 (Z : Zp) (z8o : Nat) (zcC : Option Addr) (zcD : Nat) (zcE : Option Addr) (zcF : Nat) (zG : Sproc_execution) (r : Sproc_execution)
  (h : y2K zG = some r) (w₀ : World) (hz : PZ (fps [stb z8o 65 [(.int .i64 zG.fState.fPc),(.int .i64 zG.fState.fLeft),(.int .u8 zG.fState.fRegs.a0),(.int .u8 zG.fState.fRegs.a1),(.int .u8 zG.fState.fRegs.a2),(.int .u8 zG.fState.fRegs.a3),(.int .u8 zG.fX.fOp),(.int .i64 zG.fX.fA),(.int .i64 zG.fX.fB),(.int .i64 zG.fX.fC),(.slice zcC zG.fMem.length zcD),(.int .u8 zG.fAct.fKind),(.int .i64 zG.fAct.fA),(.int .i64 zG.fAct.fB),(.slice zcE zG.fAct.fData.length zcF)]]) w₀ Z)
  (zmE : ZS Z 1 (fun r x=>r = e5 x) zcC zcD zG.fMem)
  (zmF : ZS Z 1 (fun r x=>r = e5 x) zcE zcF zG.fAct.fData)
  (hown : Hp (fps [stb z8o 65 [(.int .i64 zG.fState.fPc),(.int .i64 zG.fState.fLeft),(.int .u8 zG.fState.fRegs.a0),(.int .u8 zG.fState.fRegs.a1),(.int .u8 zG.fState.fRegs.a2),(.int .u8 zG.fState.fRegs.a3),(.int .u8 zG.fX.fOp),(.int .i64 zG.fX.fA),(.int .i64 zG.fX.fB),(.int .i64 zG.fX.fC),(.slice zcC zG.fMem.length zcD),(.int .u8 zG.fAct.fKind),(.int .i64 zG.fAct.fA),(.int .i64 zG.fAct.fB),(.slice zcE zG.fAct.fData.length zcF)]]) w₀ w₀ [stb z8o 65 [(.int .i64 zG.fState.fPc),(.int .i64 zG.fState.fLeft),(.int .u8 zG.fState.fRegs.a0),(.int .u8 zG.fState.fRegs.a1),(.int .u8 zG.fState.fRegs.a2),(.int .u8 zG.fState.fRegs.a3),(.int .u8 zG.fX.fOp),(.int .i64 zG.fX.fA),(.int .i64 zG.fX.fB),(.int .i64 zG.fX.fC),(.slice zcC zG.fMem.length zcD),(.int .u8 zG.fAct.fKind),(.int .i64 zG.fAct.fA),(.int .i64 zG.fAct.fB),(.slice zcE zG.fAct.fData.length zcF)]]) :
  Calls Tryd.prog 91 #[(.pointer (some ⟨z8o,0,none⟩))] w₀ fun e w'=>∃ ziK : Option Addr,∃ ziL : Nat,∃ ziM : Option Addr,∃ ziN : Nat,e = .returned (.tuple #[]) ∧ ((ZS Z 1 (fun r x=>r = e5 x) ziK ziL r.fMem) ∧ (ZS Z 1 (fun r x=>r = e5 x) ziM ziN r.fAct.fData)) ∧ Hp (fps [stb z8o 65 [(.int .i64 zG.fState.fPc),(.int .i64 zG.fState.fLeft),(.int .u8 zG.fState.fRegs.a0),(.int .u8 zG.fState.fRegs.a1),(.int .u8 zG.fState.fRegs.a2),(.int .u8 zG.fState.fRegs.a3),(.int .u8 zG.fX.fOp),(.int .i64 zG.fX.fA),(.int .i64 zG.fX.fB),(.int .i64 zG.fX.fC),(.slice zcC zG.fMem.length zcD),(.int .u8 zG.fAct.fKind),(.int .i64 zG.fAct.fA),(.int .i64 zG.fAct.fB),(.slice zcE zG.fAct.fData.length zcF)]]) w₀ w' [stb z8o 65 [(.int .i64 r.fState.fPc),(.int .i64 r.fState.fLeft),(.int .u8 r.fState.fRegs.a0),(.int .u8 r.fState.fRegs.a1),(.int .u8 r.fState.fRegs.a2),(.int .u8 r.fState.fRegs.a3),(.int .u8 r.fX.fOp),(.int .i64 r.fX.fA),(.int .i64 r.fX.fB),(.int .i64 r.fX.fC),(.slice ziK r.fMem.length ziL),(.int .u8 r.fAct.fKind),(.int .i64 r.fAct.fA),(.int .i64 r.fAct.fB),(.slice ziM r.fAct.fData.length ziN)]]:=by
 unfold y2K at h
 refine Calls.y8 (vs:=[(.pointer (some ⟨z8o,0,none⟩))]) (pre:=[stb z8o 65 [(.int .i64 zG.fState.fPc),(.int .i64 zG.fState.fLeft),(.int .u8 zG.fState.fRegs.a0),(.int .u8 zG.fState.fRegs.a1),(.int .u8 zG.fState.fRegs.a2),(.int .u8 zG.fState.fRegs.a3),(.int .u8 zG.fX.fOp),(.int .i64 zG.fX.fA),(.int .i64 zG.fX.fB),(.int .i64 zG.fX.fC),(.slice zcC zG.fMem.length zcD),(.int .u8 zG.fAct.fKind),(.int .i64 zG.fAct.fA),(.int .i64 zG.fAct.fB),(.slice zcE zG.fAct.fData.length zcF)]]) (env:=[(0,(.pointer (some ⟨z8o,0,none⟩)))]) Tryd.func91 rfl Tryd.ntmps91 rfl (hown) rfl ?_
 obtain ⟨ziJ,zmG,h⟩:=zd h
 refine WC.a (WL.pu rfl ?_)
 refine WL.yw (dd:=3) rfl rfl rfl (zl (l:=[.tmp 2,.const (.int .u8 4),.const (.slice none 0 0)]) Tryd.call110 (.cons rfl (.cons rfl (.cons rfl .nil)))) (.cons .here .nil) (cc hz (.cons .here .nil) fun w pz ho=>yz _ _ _ _ _ _ _ _ _ _ _ _ zmG w pz zmE zmF (ZS.nil _ _ _) ho) ?_
 rintro zmH zmI zmJ zmK ⟨zmL,zmM⟩
 refine WL.nil ?_
 obtain rfl:=Option.some.inj h
 refine WX.y9 Tryd.results91 .nil (fun w hw=>?_)
 exact ⟨zmH,zmI,zmJ,zmK,yC,⟨zmL,zmM⟩,hw.sub (.cons .here .nil)⟩
def y2n (zH : Sproc_execution) : Option Sproc_execution :=
 (ys zH 5 []).bind fun ziO=>some ziO
set_option maxRecDepth 20000 in
theorem y4m (Z : Zp) (z8p : Nat) (zcG : Option Addr) (zcH : Nat) (zcI : Option Addr) (zcJ : Nat) (zH : Sproc_execution) (r : Sproc_execution)
  (h : y2n zH = some r) (w₀ : World) (hz : PZ (fps [stb z8p 65 [(.int .i64 zH.fState.fPc),(.int .i64 zH.fState.fLeft),(.int .u8 zH.fState.fRegs.a0),(.int .u8 zH.fState.fRegs.a1),(.int .u8 zH.fState.fRegs.a2),(.int .u8 zH.fState.fRegs.a3),(.int .u8 zH.fX.fOp),(.int .i64 zH.fX.fA),(.int .i64 zH.fX.fB),(.int .i64 zH.fX.fC),(.slice zcG zH.fMem.length zcH),(.int .u8 zH.fAct.fKind),(.int .i64 zH.fAct.fA),(.int .i64 zH.fAct.fB),(.slice zcI zH.fAct.fData.length zcJ)]]) w₀ Z)
  (zmN : ZS Z 1 (fun r x=>r = e5 x) zcG zcH zH.fMem)
  (zmO : ZS Z 1 (fun r x=>r = e5 x) zcI zcJ zH.fAct.fData)
  (hown : Hp (fps [stb z8p 65 [(.int .i64 zH.fState.fPc),(.int .i64 zH.fState.fLeft),(.int .u8 zH.fState.fRegs.a0),(.int .u8 zH.fState.fRegs.a1),(.int .u8 zH.fState.fRegs.a2),(.int .u8 zH.fState.fRegs.a3),(.int .u8 zH.fX.fOp),(.int .i64 zH.fX.fA),(.int .i64 zH.fX.fB),(.int .i64 zH.fX.fC),(.slice zcG zH.fMem.length zcH),(.int .u8 zH.fAct.fKind),(.int .i64 zH.fAct.fA),(.int .i64 zH.fAct.fB),(.slice zcI zH.fAct.fData.length zcJ)]]) w₀ w₀ [stb z8p 65 [(.int .i64 zH.fState.fPc),(.int .i64 zH.fState.fLeft),(.int .u8 zH.fState.fRegs.a0),(.int .u8 zH.fState.fRegs.a1),(.int .u8 zH.fState.fRegs.a2),(.int .u8 zH.fState.fRegs.a3),(.int .u8 zH.fX.fOp),(.int .i64 zH.fX.fA),(.int .i64 zH.fX.fB),(.int .i64 zH.fX.fC),(.slice zcG zH.fMem.length zcH),(.int .u8 zH.fAct.fKind),(.int .i64 zH.fAct.fA),(.int .i64 zH.fAct.fB),(.slice zcI zH.fAct.fData.length zcJ)]]) :
  Calls Tryd.prog 92 #[(.pointer (some ⟨z8p,0,none⟩))] w₀ fun e w'=>∃ ziP : Option Addr,∃ ziQ : Nat,∃ ziR : Option Addr,∃ ziS : Nat,e = .returned (.tuple #[]) ∧ ((ZS Z 1 (fun r x=>r = e5 x) ziP ziQ r.fMem) ∧ (ZS Z 1 (fun r x=>r = e5 x) ziR ziS r.fAct.fData)) ∧ Hp (fps [stb z8p 65 [(.int .i64 zH.fState.fPc),(.int .i64 zH.fState.fLeft),(.int .u8 zH.fState.fRegs.a0),(.int .u8 zH.fState.fRegs.a1),(.int .u8 zH.fState.fRegs.a2),(.int .u8 zH.fState.fRegs.a3),(.int .u8 zH.fX.fOp),(.int .i64 zH.fX.fA),(.int .i64 zH.fX.fB),(.int .i64 zH.fX.fC),(.slice zcG zH.fMem.length zcH),(.int .u8 zH.fAct.fKind),(.int .i64 zH.fAct.fA),(.int .i64 zH.fAct.fB),(.slice zcI zH.fAct.fData.length zcJ)]]) w₀ w' [stb z8p 65 [(.int .i64 r.fState.fPc),(.int .i64 r.fState.fLeft),(.int .u8 r.fState.fRegs.a0),(.int .u8 r.fState.fRegs.a1),(.int .u8 r.fState.fRegs.a2),(.int .u8 r.fState.fRegs.a3),(.int .u8 r.fX.fOp),(.int .i64 r.fX.fA),(.int .i64 r.fX.fB),(.int .i64 r.fX.fC),(.slice ziP r.fMem.length ziQ),(.int .u8 r.fAct.fKind),(.int .i64 r.fAct.fA),(.int .i64 r.fAct.fB),(.slice ziR r.fAct.fData.length ziS)]]:=by
 unfold y2n at h
 refine Calls.y8 (vs:=[(.pointer (some ⟨z8p,0,none⟩))]) (pre:=[stb z8p 65 [(.int .i64 zH.fState.fPc),(.int .i64 zH.fState.fLeft),(.int .u8 zH.fState.fRegs.a0),(.int .u8 zH.fState.fRegs.a1),(.int .u8 zH.fState.fRegs.a2),(.int .u8 zH.fState.fRegs.a3),(.int .u8 zH.fX.fOp),(.int .i64 zH.fX.fA),(.int .i64 zH.fX.fB),(.int .i64 zH.fX.fC),(.slice zcG zH.fMem.length zcH),(.int .u8 zH.fAct.fKind),(.int .i64 zH.fAct.fA),(.int .i64 zH.fAct.fB),(.slice zcI zH.fAct.fData.length zcJ)]]) (env:=[(0,(.pointer (some ⟨z8p,0,none⟩)))]) Tryd.func92 rfl Tryd.ntmps92 rfl (hown) rfl ?_
 obtain ⟨ziO,zmP,h⟩:=zd h
 refine WC.a (WL.pu rfl ?_)
 refine WL.yw (dd:=3) rfl rfl rfl (zl (l:=[.tmp 2,.const (.int .u8 5),.const (.slice none 0 0)]) Tryd.call110 (.cons rfl (.cons rfl (.cons rfl .nil)))) (.cons .here .nil) (cc hz (.cons .here .nil) fun w pz ho=>yz _ _ _ _ _ _ _ _ _ _ _ _ zmP w pz zmN zmO (ZS.nil _ _ _) ho) ?_
 rintro zmQ zmR zmS zmT ⟨zmU,zmV⟩
 refine WL.nil ?_
 obtain rfl:=Option.some.inj h
 refine WX.y9 Tryd.results92 .nil (fun w hw=>?_)
 exact ⟨zmQ,zmR,zmS,zmT,yC,⟨zmU,zmV⟩,hw.sub (.cons .here .nil)⟩
def y2v (zI : Sproc_execution) : Option Sproc_execution :=
 (ys zI 6 []).bind fun ziT=>some ziT
set_option maxRecDepth 20000 in
theorem y4E (Z : Zp) (z8q : Nat) (zcK : Option Addr) (zcL : Nat) (zcM : Option Addr) (zcN : Nat) (zI : Sproc_execution) (r : Sproc_execution)
  (h : y2v zI = some r) (w₀ : World) (hz : PZ (fps [stb z8q 65 [(.int .i64 zI.fState.fPc),(.int .i64 zI.fState.fLeft),(.int .u8 zI.fState.fRegs.a0),(.int .u8 zI.fState.fRegs.a1),(.int .u8 zI.fState.fRegs.a2),(.int .u8 zI.fState.fRegs.a3),(.int .u8 zI.fX.fOp),(.int .i64 zI.fX.fA),(.int .i64 zI.fX.fB),(.int .i64 zI.fX.fC),(.slice zcK zI.fMem.length zcL),(.int .u8 zI.fAct.fKind),(.int .i64 zI.fAct.fA),(.int .i64 zI.fAct.fB),(.slice zcM zI.fAct.fData.length zcN)]]) w₀ Z)
  (zmW : ZS Z 1 (fun r x=>r = e5 x) zcK zcL zI.fMem)
  (zmX : ZS Z 1 (fun r x=>r = e5 x) zcM zcN zI.fAct.fData)
  (hown : Hp (fps [stb z8q 65 [(.int .i64 zI.fState.fPc),(.int .i64 zI.fState.fLeft),(.int .u8 zI.fState.fRegs.a0),(.int .u8 zI.fState.fRegs.a1),(.int .u8 zI.fState.fRegs.a2),(.int .u8 zI.fState.fRegs.a3),(.int .u8 zI.fX.fOp),(.int .i64 zI.fX.fA),(.int .i64 zI.fX.fB),(.int .i64 zI.fX.fC),(.slice zcK zI.fMem.length zcL),(.int .u8 zI.fAct.fKind),(.int .i64 zI.fAct.fA),(.int .i64 zI.fAct.fB),(.slice zcM zI.fAct.fData.length zcN)]]) w₀ w₀ [stb z8q 65 [(.int .i64 zI.fState.fPc),(.int .i64 zI.fState.fLeft),(.int .u8 zI.fState.fRegs.a0),(.int .u8 zI.fState.fRegs.a1),(.int .u8 zI.fState.fRegs.a2),(.int .u8 zI.fState.fRegs.a3),(.int .u8 zI.fX.fOp),(.int .i64 zI.fX.fA),(.int .i64 zI.fX.fB),(.int .i64 zI.fX.fC),(.slice zcK zI.fMem.length zcL),(.int .u8 zI.fAct.fKind),(.int .i64 zI.fAct.fA),(.int .i64 zI.fAct.fB),(.slice zcM zI.fAct.fData.length zcN)]]) :
  Calls Tryd.prog 93 #[(.pointer (some ⟨z8q,0,none⟩))] w₀ fun e w'=>∃ ziU : Option Addr,∃ ziV : Nat,∃ ziW : Option Addr,∃ ziX : Nat,e = .returned (.tuple #[]) ∧ ((ZS Z 1 (fun r x=>r = e5 x) ziU ziV r.fMem) ∧ (ZS Z 1 (fun r x=>r = e5 x) ziW ziX r.fAct.fData)) ∧ Hp (fps [stb z8q 65 [(.int .i64 zI.fState.fPc),(.int .i64 zI.fState.fLeft),(.int .u8 zI.fState.fRegs.a0),(.int .u8 zI.fState.fRegs.a1),(.int .u8 zI.fState.fRegs.a2),(.int .u8 zI.fState.fRegs.a3),(.int .u8 zI.fX.fOp),(.int .i64 zI.fX.fA),(.int .i64 zI.fX.fB),(.int .i64 zI.fX.fC),(.slice zcK zI.fMem.length zcL),(.int .u8 zI.fAct.fKind),(.int .i64 zI.fAct.fA),(.int .i64 zI.fAct.fB),(.slice zcM zI.fAct.fData.length zcN)]]) w₀ w' [stb z8q 65 [(.int .i64 r.fState.fPc),(.int .i64 r.fState.fLeft),(.int .u8 r.fState.fRegs.a0),(.int .u8 r.fState.fRegs.a1),(.int .u8 r.fState.fRegs.a2),(.int .u8 r.fState.fRegs.a3),(.int .u8 r.fX.fOp),(.int .i64 r.fX.fA),(.int .i64 r.fX.fB),(.int .i64 r.fX.fC),(.slice ziU r.fMem.length ziV),(.int .u8 r.fAct.fKind),(.int .i64 r.fAct.fA),(.int .i64 r.fAct.fB),(.slice ziW r.fAct.fData.length ziX)]]:=by
 unfold y2v at h
 refine Calls.y8 (vs:=[(.pointer (some ⟨z8q,0,none⟩))]) (pre:=[stb z8q 65 [(.int .i64 zI.fState.fPc),(.int .i64 zI.fState.fLeft),(.int .u8 zI.fState.fRegs.a0),(.int .u8 zI.fState.fRegs.a1),(.int .u8 zI.fState.fRegs.a2),(.int .u8 zI.fState.fRegs.a3),(.int .u8 zI.fX.fOp),(.int .i64 zI.fX.fA),(.int .i64 zI.fX.fB),(.int .i64 zI.fX.fC),(.slice zcK zI.fMem.length zcL),(.int .u8 zI.fAct.fKind),(.int .i64 zI.fAct.fA),(.int .i64 zI.fAct.fB),(.slice zcM zI.fAct.fData.length zcN)]]) (env:=[(0,(.pointer (some ⟨z8q,0,none⟩)))]) Tryd.func93 rfl Tryd.ntmps93 rfl (hown) rfl ?_
 obtain ⟨ziT,zmY,h⟩:=zd h
 refine WC.a (WL.pu rfl ?_)
 refine WL.yw (dd:=3) rfl rfl rfl (zl (l:=[.tmp 2,.const (.int .u8 6),.const (.slice none 0 0)]) Tryd.call110 (.cons rfl (.cons rfl (.cons rfl .nil)))) (.cons .here .nil) (cc hz (.cons .here .nil) fun w pz ho=>yz _ _ _ _ _ _ _ _ _ _ _ _ zmY w pz zmW zmX (ZS.nil _ _ _) ho) ?_
 rintro zmZ zn0 zn1 zn2 ⟨zn3,zn4⟩
 refine WL.nil ?_
 obtain rfl:=Option.some.inj h
 refine WX.y9 Tryd.results93 .nil (fun w hw=>?_)
 exact ⟨zmZ,zn0,zn1,zn2,yC,⟨zn3,zn4⟩,hw.sub (.cons .here .nil)⟩
def y2w (zJ : Sproc_execution) : Option Sproc_execution :=
 (ys zJ 7 []).bind fun ziY=>some ziY
set_option maxRecDepth 20000 in
theorem y4F (Z : Zp) (z8r : Nat) (zcO : Option Addr) (zcP : Nat) (zcQ : Option Addr) (zcR : Nat) (zJ : Sproc_execution) (r : Sproc_execution)
  (h : y2w zJ = some r) (w₀ : World) (hz : PZ (fps [stb z8r 65 [(.int .i64 zJ.fState.fPc),(.int .i64 zJ.fState.fLeft),(.int .u8 zJ.fState.fRegs.a0),(.int .u8 zJ.fState.fRegs.a1),(.int .u8 zJ.fState.fRegs.a2),(.int .u8 zJ.fState.fRegs.a3),(.int .u8 zJ.fX.fOp),(.int .i64 zJ.fX.fA),(.int .i64 zJ.fX.fB),(.int .i64 zJ.fX.fC),(.slice zcO zJ.fMem.length zcP),(.int .u8 zJ.fAct.fKind),(.int .i64 zJ.fAct.fA),(.int .i64 zJ.fAct.fB),(.slice zcQ zJ.fAct.fData.length zcR)]]) w₀ Z)
  (zn5 : ZS Z 1 (fun r x=>r = e5 x) zcO zcP zJ.fMem)
  (zn6 : ZS Z 1 (fun r x=>r = e5 x) zcQ zcR zJ.fAct.fData)
  (hown : Hp (fps [stb z8r 65 [(.int .i64 zJ.fState.fPc),(.int .i64 zJ.fState.fLeft),(.int .u8 zJ.fState.fRegs.a0),(.int .u8 zJ.fState.fRegs.a1),(.int .u8 zJ.fState.fRegs.a2),(.int .u8 zJ.fState.fRegs.a3),(.int .u8 zJ.fX.fOp),(.int .i64 zJ.fX.fA),(.int .i64 zJ.fX.fB),(.int .i64 zJ.fX.fC),(.slice zcO zJ.fMem.length zcP),(.int .u8 zJ.fAct.fKind),(.int .i64 zJ.fAct.fA),(.int .i64 zJ.fAct.fB),(.slice zcQ zJ.fAct.fData.length zcR)]]) w₀ w₀ [stb z8r 65 [(.int .i64 zJ.fState.fPc),(.int .i64 zJ.fState.fLeft),(.int .u8 zJ.fState.fRegs.a0),(.int .u8 zJ.fState.fRegs.a1),(.int .u8 zJ.fState.fRegs.a2),(.int .u8 zJ.fState.fRegs.a3),(.int .u8 zJ.fX.fOp),(.int .i64 zJ.fX.fA),(.int .i64 zJ.fX.fB),(.int .i64 zJ.fX.fC),(.slice zcO zJ.fMem.length zcP),(.int .u8 zJ.fAct.fKind),(.int .i64 zJ.fAct.fA),(.int .i64 zJ.fAct.fB),(.slice zcQ zJ.fAct.fData.length zcR)]]) :
  Calls Tryd.prog 94 #[(.pointer (some ⟨z8r,0,none⟩))] w₀ fun e w'=>∃ ziZ : Option Addr,∃ zj0 : Nat,∃ zj1 : Option Addr,∃ zj2 : Nat,e = .returned (.tuple #[]) ∧ ((ZS Z 1 (fun r x=>r = e5 x) ziZ zj0 r.fMem) ∧ (ZS Z 1 (fun r x=>r = e5 x) zj1 zj2 r.fAct.fData)) ∧ Hp (fps [stb z8r 65 [(.int .i64 zJ.fState.fPc),(.int .i64 zJ.fState.fLeft),(.int .u8 zJ.fState.fRegs.a0),(.int .u8 zJ.fState.fRegs.a1),(.int .u8 zJ.fState.fRegs.a2),(.int .u8 zJ.fState.fRegs.a3),(.int .u8 zJ.fX.fOp),(.int .i64 zJ.fX.fA),(.int .i64 zJ.fX.fB),(.int .i64 zJ.fX.fC),(.slice zcO zJ.fMem.length zcP),(.int .u8 zJ.fAct.fKind),(.int .i64 zJ.fAct.fA),(.int .i64 zJ.fAct.fB),(.slice zcQ zJ.fAct.fData.length zcR)]]) w₀ w' [stb z8r 65 [(.int .i64 r.fState.fPc),(.int .i64 r.fState.fLeft),(.int .u8 r.fState.fRegs.a0),(.int .u8 r.fState.fRegs.a1),(.int .u8 r.fState.fRegs.a2),(.int .u8 r.fState.fRegs.a3),(.int .u8 r.fX.fOp),(.int .i64 r.fX.fA),(.int .i64 r.fX.fB),(.int .i64 r.fX.fC),(.slice ziZ r.fMem.length zj0),(.int .u8 r.fAct.fKind),(.int .i64 r.fAct.fA),(.int .i64 r.fAct.fB),(.slice zj1 r.fAct.fData.length zj2)]]:=by
 unfold y2w at h
 refine Calls.y8 (vs:=[(.pointer (some ⟨z8r,0,none⟩))]) (pre:=[stb z8r 65 [(.int .i64 zJ.fState.fPc),(.int .i64 zJ.fState.fLeft),(.int .u8 zJ.fState.fRegs.a0),(.int .u8 zJ.fState.fRegs.a1),(.int .u8 zJ.fState.fRegs.a2),(.int .u8 zJ.fState.fRegs.a3),(.int .u8 zJ.fX.fOp),(.int .i64 zJ.fX.fA),(.int .i64 zJ.fX.fB),(.int .i64 zJ.fX.fC),(.slice zcO zJ.fMem.length zcP),(.int .u8 zJ.fAct.fKind),(.int .i64 zJ.fAct.fA),(.int .i64 zJ.fAct.fB),(.slice zcQ zJ.fAct.fData.length zcR)]]) (env:=[(0,(.pointer (some ⟨z8r,0,none⟩)))]) Tryd.func94 rfl Tryd.ntmps94 rfl (hown) rfl ?_
 obtain ⟨ziY,zn7,h⟩:=zd h
 refine WC.a (WL.pu rfl ?_)
 refine WL.yw (dd:=3) rfl rfl rfl (zl (l:=[.tmp 2,.const (.int .u8 7),.const (.slice none 0 0)]) Tryd.call110 (.cons rfl (.cons rfl (.cons rfl .nil)))) (.cons .here .nil) (cc hz (.cons .here .nil) fun w pz ho=>yz _ _ _ _ _ _ _ _ _ _ _ _ zn7 w pz zn5 zn6 (ZS.nil _ _ _) ho) ?_
 rintro zn8 zn9 zna znb ⟨znc,znd⟩
 refine WL.nil ?_
 obtain rfl:=Option.some.inj h
 refine WX.y9 Tryd.results94 .nil (fun w hw=>?_)
 exact ⟨zn8,zn9,zna,znb,yC,⟨znc,znd⟩,hw.sub (.cons .here .nil)⟩
def y2x (zK : Sproc_execution) : Option Sproc_execution :=
 (ys zK 8 []).bind fun zj3=>some zj3
set_option maxRecDepth 20000 in
theorem y4G (Z : Zp) (z8s : Nat) (zcS : Option Addr) (zcT : Nat) (zcU : Option Addr) (zcV : Nat) (zK : Sproc_execution) (r : Sproc_execution)
  (h : y2x zK = some r) (w₀ : World) (hz : PZ (fps [stb z8s 65 [(.int .i64 zK.fState.fPc),(.int .i64 zK.fState.fLeft),(.int .u8 zK.fState.fRegs.a0),(.int .u8 zK.fState.fRegs.a1),(.int .u8 zK.fState.fRegs.a2),(.int .u8 zK.fState.fRegs.a3),(.int .u8 zK.fX.fOp),(.int .i64 zK.fX.fA),(.int .i64 zK.fX.fB),(.int .i64 zK.fX.fC),(.slice zcS zK.fMem.length zcT),(.int .u8 zK.fAct.fKind),(.int .i64 zK.fAct.fA),(.int .i64 zK.fAct.fB),(.slice zcU zK.fAct.fData.length zcV)]]) w₀ Z)
  (zne : ZS Z 1 (fun r x=>r = e5 x) zcS zcT zK.fMem)
  (znf : ZS Z 1 (fun r x=>r = e5 x) zcU zcV zK.fAct.fData)
  (hown : Hp (fps [stb z8s 65 [(.int .i64 zK.fState.fPc),(.int .i64 zK.fState.fLeft),(.int .u8 zK.fState.fRegs.a0),(.int .u8 zK.fState.fRegs.a1),(.int .u8 zK.fState.fRegs.a2),(.int .u8 zK.fState.fRegs.a3),(.int .u8 zK.fX.fOp),(.int .i64 zK.fX.fA),(.int .i64 zK.fX.fB),(.int .i64 zK.fX.fC),(.slice zcS zK.fMem.length zcT),(.int .u8 zK.fAct.fKind),(.int .i64 zK.fAct.fA),(.int .i64 zK.fAct.fB),(.slice zcU zK.fAct.fData.length zcV)]]) w₀ w₀ [stb z8s 65 [(.int .i64 zK.fState.fPc),(.int .i64 zK.fState.fLeft),(.int .u8 zK.fState.fRegs.a0),(.int .u8 zK.fState.fRegs.a1),(.int .u8 zK.fState.fRegs.a2),(.int .u8 zK.fState.fRegs.a3),(.int .u8 zK.fX.fOp),(.int .i64 zK.fX.fA),(.int .i64 zK.fX.fB),(.int .i64 zK.fX.fC),(.slice zcS zK.fMem.length zcT),(.int .u8 zK.fAct.fKind),(.int .i64 zK.fAct.fA),(.int .i64 zK.fAct.fB),(.slice zcU zK.fAct.fData.length zcV)]]) :
  Calls Tryd.prog 95 #[(.pointer (some ⟨z8s,0,none⟩))] w₀ fun e w'=>∃ zj4 : Option Addr,∃ zj5 : Nat,∃ zj6 : Option Addr,∃ zj7 : Nat,e = .returned (.tuple #[]) ∧ ((ZS Z 1 (fun r x=>r = e5 x) zj4 zj5 r.fMem) ∧ (ZS Z 1 (fun r x=>r = e5 x) zj6 zj7 r.fAct.fData)) ∧ Hp (fps [stb z8s 65 [(.int .i64 zK.fState.fPc),(.int .i64 zK.fState.fLeft),(.int .u8 zK.fState.fRegs.a0),(.int .u8 zK.fState.fRegs.a1),(.int .u8 zK.fState.fRegs.a2),(.int .u8 zK.fState.fRegs.a3),(.int .u8 zK.fX.fOp),(.int .i64 zK.fX.fA),(.int .i64 zK.fX.fB),(.int .i64 zK.fX.fC),(.slice zcS zK.fMem.length zcT),(.int .u8 zK.fAct.fKind),(.int .i64 zK.fAct.fA),(.int .i64 zK.fAct.fB),(.slice zcU zK.fAct.fData.length zcV)]]) w₀ w' [stb z8s 65 [(.int .i64 r.fState.fPc),(.int .i64 r.fState.fLeft),(.int .u8 r.fState.fRegs.a0),(.int .u8 r.fState.fRegs.a1),(.int .u8 r.fState.fRegs.a2),(.int .u8 r.fState.fRegs.a3),(.int .u8 r.fX.fOp),(.int .i64 r.fX.fA),(.int .i64 r.fX.fB),(.int .i64 r.fX.fC),(.slice zj4 r.fMem.length zj5),(.int .u8 r.fAct.fKind),(.int .i64 r.fAct.fA),(.int .i64 r.fAct.fB),(.slice zj6 r.fAct.fData.length zj7)]]:=by
 unfold y2x at h
 refine Calls.y8 (vs:=[(.pointer (some ⟨z8s,0,none⟩))]) (pre:=[stb z8s 65 [(.int .i64 zK.fState.fPc),(.int .i64 zK.fState.fLeft),(.int .u8 zK.fState.fRegs.a0),(.int .u8 zK.fState.fRegs.a1),(.int .u8 zK.fState.fRegs.a2),(.int .u8 zK.fState.fRegs.a3),(.int .u8 zK.fX.fOp),(.int .i64 zK.fX.fA),(.int .i64 zK.fX.fB),(.int .i64 zK.fX.fC),(.slice zcS zK.fMem.length zcT),(.int .u8 zK.fAct.fKind),(.int .i64 zK.fAct.fA),(.int .i64 zK.fAct.fB),(.slice zcU zK.fAct.fData.length zcV)]]) (env:=[(0,(.pointer (some ⟨z8s,0,none⟩)))]) Tryd.func95 rfl Tryd.ntmps95 rfl (hown) rfl ?_
 obtain ⟨zj3,zng,h⟩:=zd h
 refine WC.a (WL.pu rfl ?_)
 refine WL.yw (dd:=3) rfl rfl rfl (zl (l:=[.tmp 2,.const (.int .u8 8),.const (.slice none 0 0)]) Tryd.call110 (.cons rfl (.cons rfl (.cons rfl .nil)))) (.cons .here .nil) (cc hz (.cons .here .nil) fun w pz ho=>yz _ _ _ _ _ _ _ _ _ _ _ _ zng w pz zne znf (ZS.nil _ _ _) ho) ?_
 rintro znh zni znj znk ⟨znl,znm⟩
 refine WL.nil ?_
 obtain rfl:=Option.some.inj h
 refine WX.y9 Tryd.results95 .nil (fun w hw=>?_)
 exact ⟨znh,zni,znj,znk,yC,⟨znl,znm⟩,hw.sub (.cons .here .nil)⟩
def y30 (zp : Sproc_execution) : Option Sproc_execution :=
 (yn zp zp.fX.fB).bind fun znn=>chk ((0 : Int) ≤ zp.fX.fB ∧ zp.fX.fB < 4) ((ys zp 9 ([nth ([zp.fState.fRegs.a0,zp.fState.fRegs.a1,zp.fState.fRegs.a2,zp.fState.fRegs.a3] : List Int) zp.fX.fB] : List Int)).bind fun zj8=>some zj8)
set_option maxRecDepth 20000 in
theorem y5B (Z : Zp) (z8t : Nat) (zcW : Option Addr) (zcX : Nat) (zcY : Option Addr) (zcZ : Nat) (zp : Sproc_execution) (r : Sproc_execution)
  (h : y30 zp = some r) (w₀ : World) (hz : PZ (fps [stb z8t 65 [(.int .i64 zp.fState.fPc),(.int .i64 zp.fState.fLeft),(.int .u8 zp.fState.fRegs.a0),(.int .u8 zp.fState.fRegs.a1),(.int .u8 zp.fState.fRegs.a2),(.int .u8 zp.fState.fRegs.a3),(.int .u8 zp.fX.fOp),(.int .i64 zp.fX.fA),(.int .i64 zp.fX.fB),(.int .i64 zp.fX.fC),(.slice zcW zp.fMem.length zcX),(.int .u8 zp.fAct.fKind),(.int .i64 zp.fAct.fA),(.int .i64 zp.fAct.fB),(.slice zcY zp.fAct.fData.length zcZ)]]) w₀ Z)
  (zj9 : ZS Z 1 (fun r x=>r = e5 x) zcW zcX zp.fMem)
  (zja : ZS Z 1 (fun r x=>r = e5 x) zcY zcZ zp.fAct.fData)
  (hown : Hp (fps [stb z8t 65 [(.int .i64 zp.fState.fPc),(.int .i64 zp.fState.fLeft),(.int .u8 zp.fState.fRegs.a0),(.int .u8 zp.fState.fRegs.a1),(.int .u8 zp.fState.fRegs.a2),(.int .u8 zp.fState.fRegs.a3),(.int .u8 zp.fX.fOp),(.int .i64 zp.fX.fA),(.int .i64 zp.fX.fB),(.int .i64 zp.fX.fC),(.slice zcW zp.fMem.length zcX),(.int .u8 zp.fAct.fKind),(.int .i64 zp.fAct.fA),(.int .i64 zp.fAct.fB),(.slice zcY zp.fAct.fData.length zcZ)]]) w₀ w₀ [stb z8t 65 [(.int .i64 zp.fState.fPc),(.int .i64 zp.fState.fLeft),(.int .u8 zp.fState.fRegs.a0),(.int .u8 zp.fState.fRegs.a1),(.int .u8 zp.fState.fRegs.a2),(.int .u8 zp.fState.fRegs.a3),(.int .u8 zp.fX.fOp),(.int .i64 zp.fX.fA),(.int .i64 zp.fX.fB),(.int .i64 zp.fX.fC),(.slice zcW zp.fMem.length zcX),(.int .u8 zp.fAct.fKind),(.int .i64 zp.fAct.fA),(.int .i64 zp.fAct.fB),(.slice zcY zp.fAct.fData.length zcZ)]]) :
  Calls Tryd.prog 96 #[(.pointer (some ⟨z8t,0,none⟩))] w₀ fun e w'=>∃ Zn : Zp,∃ zjb : Option Addr,∃ zjc : Nat,∃ zjd : Option Addr,∃ zje : Nat,e = .returned (.tuple #[]) ∧ ((ZS (Z ++ Zn) 1 (fun r x=>r = e5 x) zjb zjc r.fMem) ∧ (ZS (Z ++ Zn) 1 (fun r x=>r = e5 x) zjd zje r.fAct.fData)) ∧ Hp (fps [stb z8t 65 [(.int .i64 zp.fState.fPc),(.int .i64 zp.fState.fLeft),(.int .u8 zp.fState.fRegs.a0),(.int .u8 zp.fState.fRegs.a1),(.int .u8 zp.fState.fRegs.a2),(.int .u8 zp.fState.fRegs.a3),(.int .u8 zp.fX.fOp),(.int .i64 zp.fX.fA),(.int .i64 zp.fX.fB),(.int .i64 zp.fX.fC),(.slice zcW zp.fMem.length zcX),(.int .u8 zp.fAct.fKind),(.int .i64 zp.fAct.fA),(.int .i64 zp.fAct.fB),(.slice zcY zp.fAct.fData.length zcZ)]]) w₀ w' [fz Zn,stb z8t 65 [(.int .i64 r.fState.fPc),(.int .i64 r.fState.fLeft),(.int .u8 r.fState.fRegs.a0),(.int .u8 r.fState.fRegs.a1),(.int .u8 r.fState.fRegs.a2),(.int .u8 r.fState.fRegs.a3),(.int .u8 r.fX.fOp),(.int .i64 r.fX.fA),(.int .i64 r.fX.fB),(.int .i64 r.fX.fC),(.slice zjb r.fMem.length zjc),(.int .u8 r.fAct.fKind),(.int .i64 r.fAct.fA),(.int .i64 r.fAct.fB),(.slice zjd r.fAct.fData.length zje)]]:=by
 unfold y30 at h
 refine Calls.y8 (vs:=[(.pointer (some ⟨z8t,0,none⟩))]) (pre:=[stb z8t 65 [(.int .i64 zp.fState.fPc),(.int .i64 zp.fState.fLeft),(.int .u8 zp.fState.fRegs.a0),(.int .u8 zp.fState.fRegs.a1),(.int .u8 zp.fState.fRegs.a2),(.int .u8 zp.fState.fRegs.a3),(.int .u8 zp.fX.fOp),(.int .i64 zp.fX.fA),(.int .i64 zp.fX.fB),(.int .i64 zp.fX.fC),(.slice zcW zp.fMem.length zcX),(.int .u8 zp.fAct.fKind),(.int .i64 zp.fAct.fA),(.int .i64 zp.fAct.fB),(.slice zcY zp.fAct.fData.length zcZ)]]) (env:=[(0,(.pointer (some ⟨z8t,0,none⟩)))]) Tryd.func96 rfl Tryd.ntmps96 rfl (hown) rfl ?_
 refine WC.pool ?_
 obtain ⟨znn,zno,h⟩:=zd h
 obtain ⟨znp,h⟩:=ya h
 obtain ⟨zj8,znq,h⟩:=zd h
 refine WC.a (WL.pu rfl (WL.pu rfl (WL.pu rfl ?_)))
 refine WL.a (d:=5) rfl rfl rfl (y6 rfl) ?_
 refine WL.a (d:=6) rfl rfl rfl (y4 yo rfl rfl) ?_
 refine WL.a (d:=7) rfl rfl rfl (y4 y14 rfl rfl) ?_
 refine WL.a (d:=8) rfl rfl rfl (y5 yd rfl (yb .h1 rfl)) ?_
 refine WL.b (dd:=9) rfl rfl rfl (zl (l:=[.tmp 3,.tmp 8]) Tryd.call108 (.cons rfl (.cons rfl .nil))) .nil (y2W hz .nil .here (.cons .h1 .nil) fun w pz ho la=>yt _ _ _ _ _ _ _ _ _ zno w pz ((zj9.mono (Zle.left _ _)).mono (Zle.left _ _)) ((zja.mono (Zle.left _ _)).mono (Zle.left _ _)) ((la _ (.head _) _).stb)) ?_
 refine WL.a (d:=10) rfl rfl rfl (y6 rfl) ?_
 refine WL.a (d:=11) rfl rfl rfl (y5 yB rfl (yZ (l:=([zp.fState.fRegs.a0,zp.fState.fRegs.a1,zp.fState.fRegs.a2,zp.fState.fRegs.a3] : List Int)) (f:=Value.int .u8) (k:=2) (m:=6) .h1 rfl rfl znp)) ?_
 refine WL.new (dd:=12) rfl rfl rfl (yy (cs:=([nth ([zp.fState.fRegs.a0,zp.fState.fRegs.a1,zp.fState.fRegs.a2,zp.fState.fRegs.a3] : List Int) zp.fX.fB] : List Int).flatMap e5) y1v (Eos.parts (l:=[.tmp 11]) (.cons rfl .nil) [0]) (fun _=>by kernel_rfl) rfl (by unfold maxLen; omega)) ?_
 intro zxd _
 refine WL.freezeS (ls:=([nth ([zp.fState.fRegs.a0,zp.fState.fRegs.a1,zp.fState.fRegs.a2,zp.fState.fRegs.a3] : List Int) zp.fX.fB] : List Int)) .here .here hz (RR.y1b (enc:=e5) (fun _=>rfl) _) ?_
 intro znr zjf zns
 refine WL.yw (dd:=13) rfl rfl rfl (zl (l:=[.tmp 2,.const (.int .u8 9),.tmp 12]) Tryd.call110 (.cons rfl (.cons rfl (.cons rfl .nil)))) (.cons .h1 .nil) (ccz hz (.cons .h1 .nil) .here fun w pz ho=>yz _ _ _ _ _ _ _ _ _ _ _ _ znq w pz (zj9.mono ((Zle.left _ _).trans zjf)) (zja.mono ((Zle.left _ _).trans zjf)) zns ho) ?_
 rintro znt znu znv znw ⟨znx,zny⟩
 refine WL.nil ?_
 obtain rfl:=Option.some.inj h
 refine WX.y9 Tryd.results96 .nil (fun w hw=>?_)
 exact ⟨znr,znt,znu,znv,znw,yC,⟨znx,zny⟩,hw.sub (.cons .h1 (.cons .here .nil))⟩
def y31 (zL : Sproc_execution) : Option Sproc_execution :=
 (ys zL 10 []).bind fun zjg=>some zjg
set_option maxRecDepth 20000 in
theorem y5C (Z : Zp) (z8u : Nat) (zd0 : Option Addr) (zd1 : Nat) (zd2 : Option Addr) (zd3 : Nat) (zL : Sproc_execution) (r : Sproc_execution)
  (h : y31 zL = some r) (w₀ : World) (hz : PZ (fps [stb z8u 65 [(.int .i64 zL.fState.fPc),(.int .i64 zL.fState.fLeft),(.int .u8 zL.fState.fRegs.a0),(.int .u8 zL.fState.fRegs.a1),(.int .u8 zL.fState.fRegs.a2),(.int .u8 zL.fState.fRegs.a3),(.int .u8 zL.fX.fOp),(.int .i64 zL.fX.fA),(.int .i64 zL.fX.fB),(.int .i64 zL.fX.fC),(.slice zd0 zL.fMem.length zd1),(.int .u8 zL.fAct.fKind),(.int .i64 zL.fAct.fA),(.int .i64 zL.fAct.fB),(.slice zd2 zL.fAct.fData.length zd3)]]) w₀ Z)
  (znz : ZS Z 1 (fun r x=>r = e5 x) zd0 zd1 zL.fMem)
  (znA : ZS Z 1 (fun r x=>r = e5 x) zd2 zd3 zL.fAct.fData)
  (hown : Hp (fps [stb z8u 65 [(.int .i64 zL.fState.fPc),(.int .i64 zL.fState.fLeft),(.int .u8 zL.fState.fRegs.a0),(.int .u8 zL.fState.fRegs.a1),(.int .u8 zL.fState.fRegs.a2),(.int .u8 zL.fState.fRegs.a3),(.int .u8 zL.fX.fOp),(.int .i64 zL.fX.fA),(.int .i64 zL.fX.fB),(.int .i64 zL.fX.fC),(.slice zd0 zL.fMem.length zd1),(.int .u8 zL.fAct.fKind),(.int .i64 zL.fAct.fA),(.int .i64 zL.fAct.fB),(.slice zd2 zL.fAct.fData.length zd3)]]) w₀ w₀ [stb z8u 65 [(.int .i64 zL.fState.fPc),(.int .i64 zL.fState.fLeft),(.int .u8 zL.fState.fRegs.a0),(.int .u8 zL.fState.fRegs.a1),(.int .u8 zL.fState.fRegs.a2),(.int .u8 zL.fState.fRegs.a3),(.int .u8 zL.fX.fOp),(.int .i64 zL.fX.fA),(.int .i64 zL.fX.fB),(.int .i64 zL.fX.fC),(.slice zd0 zL.fMem.length zd1),(.int .u8 zL.fAct.fKind),(.int .i64 zL.fAct.fA),(.int .i64 zL.fAct.fB),(.slice zd2 zL.fAct.fData.length zd3)]]) :
  Calls Tryd.prog 97 #[(.pointer (some ⟨z8u,0,none⟩))] w₀ fun e w'=>∃ zjh : Option Addr,∃ zji : Nat,∃ zjj : Option Addr,∃ zjk : Nat,e = .returned (.tuple #[]) ∧ ((ZS Z 1 (fun r x=>r = e5 x) zjh zji r.fMem) ∧ (ZS Z 1 (fun r x=>r = e5 x) zjj zjk r.fAct.fData)) ∧ Hp (fps [stb z8u 65 [(.int .i64 zL.fState.fPc),(.int .i64 zL.fState.fLeft),(.int .u8 zL.fState.fRegs.a0),(.int .u8 zL.fState.fRegs.a1),(.int .u8 zL.fState.fRegs.a2),(.int .u8 zL.fState.fRegs.a3),(.int .u8 zL.fX.fOp),(.int .i64 zL.fX.fA),(.int .i64 zL.fX.fB),(.int .i64 zL.fX.fC),(.slice zd0 zL.fMem.length zd1),(.int .u8 zL.fAct.fKind),(.int .i64 zL.fAct.fA),(.int .i64 zL.fAct.fB),(.slice zd2 zL.fAct.fData.length zd3)]]) w₀ w' [stb z8u 65 [(.int .i64 r.fState.fPc),(.int .i64 r.fState.fLeft),(.int .u8 r.fState.fRegs.a0),(.int .u8 r.fState.fRegs.a1),(.int .u8 r.fState.fRegs.a2),(.int .u8 r.fState.fRegs.a3),(.int .u8 r.fX.fOp),(.int .i64 r.fX.fA),(.int .i64 r.fX.fB),(.int .i64 r.fX.fC),(.slice zjh r.fMem.length zji),(.int .u8 r.fAct.fKind),(.int .i64 r.fAct.fA),(.int .i64 r.fAct.fB),(.slice zjj r.fAct.fData.length zjk)]]:=by
 unfold y31 at h
 refine Calls.y8 (vs:=[(.pointer (some ⟨z8u,0,none⟩))]) (pre:=[stb z8u 65 [(.int .i64 zL.fState.fPc),(.int .i64 zL.fState.fLeft),(.int .u8 zL.fState.fRegs.a0),(.int .u8 zL.fState.fRegs.a1),(.int .u8 zL.fState.fRegs.a2),(.int .u8 zL.fState.fRegs.a3),(.int .u8 zL.fX.fOp),(.int .i64 zL.fX.fA),(.int .i64 zL.fX.fB),(.int .i64 zL.fX.fC),(.slice zd0 zL.fMem.length zd1),(.int .u8 zL.fAct.fKind),(.int .i64 zL.fAct.fA),(.int .i64 zL.fAct.fB),(.slice zd2 zL.fAct.fData.length zd3)]]) (env:=[(0,(.pointer (some ⟨z8u,0,none⟩)))]) Tryd.func97 rfl Tryd.ntmps97 rfl (hown) rfl ?_
 obtain ⟨zjg,znB,h⟩:=zd h
 refine WC.a (WL.pu rfl ?_)
 refine WL.yw (dd:=3) rfl rfl rfl (zl (l:=[.tmp 2,.const (.int .u8 10),.const (.slice none 0 0)]) Tryd.call110 (.cons rfl (.cons rfl (.cons rfl .nil)))) (.cons .here .nil) (cc hz (.cons .here .nil) fun w pz ho=>yz _ _ _ _ _ _ _ _ _ _ _ _ znB w pz znz znA (ZS.nil _ _ _) ho) ?_
 rintro znC znD znE znF ⟨znG,znH⟩
 refine WL.nil ?_
 obtain rfl:=Option.some.inj h
 refine WX.y9 Tryd.results97 .nil (fun w hw=>?_)
 exact ⟨znC,znD,znE,znF,yC,⟨znG,znH⟩,hw.sub (.cons .here .nil)⟩
def y2L (zq : Sproc_execution) : Option Sproc_execution :=
 (yn zq zq.fX.fB).bind fun znI=>chk ((0 : Int) ≤ zq.fX.fB ∧ zq.fX.fB < 4) ((ys zq 11 ([nth ([zq.fState.fRegs.a0,zq.fState.fRegs.a1,zq.fState.fRegs.a2,zq.fState.fRegs.a3] : List Int) zq.fX.fB] : List Int)).bind fun zjl=>some zjl)
set_option maxRecDepth 20000 in
theorem y57 (Z : Zp) (z8v : Nat) (zd4 : Option Addr) (zd5 : Nat) (zd6 : Option Addr) (zd7 : Nat) (zq : Sproc_execution) (r : Sproc_execution)
  (h : y2L zq = some r) (w₀ : World) (hz : PZ (fps [stb z8v 65 [(.int .i64 zq.fState.fPc),(.int .i64 zq.fState.fLeft),(.int .u8 zq.fState.fRegs.a0),(.int .u8 zq.fState.fRegs.a1),(.int .u8 zq.fState.fRegs.a2),(.int .u8 zq.fState.fRegs.a3),(.int .u8 zq.fX.fOp),(.int .i64 zq.fX.fA),(.int .i64 zq.fX.fB),(.int .i64 zq.fX.fC),(.slice zd4 zq.fMem.length zd5),(.int .u8 zq.fAct.fKind),(.int .i64 zq.fAct.fA),(.int .i64 zq.fAct.fB),(.slice zd6 zq.fAct.fData.length zd7)]]) w₀ Z)
  (zjm : ZS Z 1 (fun r x=>r = e5 x) zd4 zd5 zq.fMem)
  (zjn : ZS Z 1 (fun r x=>r = e5 x) zd6 zd7 zq.fAct.fData)
  (hown : Hp (fps [stb z8v 65 [(.int .i64 zq.fState.fPc),(.int .i64 zq.fState.fLeft),(.int .u8 zq.fState.fRegs.a0),(.int .u8 zq.fState.fRegs.a1),(.int .u8 zq.fState.fRegs.a2),(.int .u8 zq.fState.fRegs.a3),(.int .u8 zq.fX.fOp),(.int .i64 zq.fX.fA),(.int .i64 zq.fX.fB),(.int .i64 zq.fX.fC),(.slice zd4 zq.fMem.length zd5),(.int .u8 zq.fAct.fKind),(.int .i64 zq.fAct.fA),(.int .i64 zq.fAct.fB),(.slice zd6 zq.fAct.fData.length zd7)]]) w₀ w₀ [stb z8v 65 [(.int .i64 zq.fState.fPc),(.int .i64 zq.fState.fLeft),(.int .u8 zq.fState.fRegs.a0),(.int .u8 zq.fState.fRegs.a1),(.int .u8 zq.fState.fRegs.a2),(.int .u8 zq.fState.fRegs.a3),(.int .u8 zq.fX.fOp),(.int .i64 zq.fX.fA),(.int .i64 zq.fX.fB),(.int .i64 zq.fX.fC),(.slice zd4 zq.fMem.length zd5),(.int .u8 zq.fAct.fKind),(.int .i64 zq.fAct.fA),(.int .i64 zq.fAct.fB),(.slice zd6 zq.fAct.fData.length zd7)]]) :
  Calls Tryd.prog 98 #[(.pointer (some ⟨z8v,0,none⟩))] w₀ fun e w'=>∃ Zn : Zp,∃ zjo : Option Addr,∃ zjp : Nat,∃ zjq : Option Addr,∃ zjr : Nat,e = .returned (.tuple #[]) ∧ ((ZS (Z ++ Zn) 1 (fun r x=>r = e5 x) zjo zjp r.fMem) ∧ (ZS (Z ++ Zn) 1 (fun r x=>r = e5 x) zjq zjr r.fAct.fData)) ∧ Hp (fps [stb z8v 65 [(.int .i64 zq.fState.fPc),(.int .i64 zq.fState.fLeft),(.int .u8 zq.fState.fRegs.a0),(.int .u8 zq.fState.fRegs.a1),(.int .u8 zq.fState.fRegs.a2),(.int .u8 zq.fState.fRegs.a3),(.int .u8 zq.fX.fOp),(.int .i64 zq.fX.fA),(.int .i64 zq.fX.fB),(.int .i64 zq.fX.fC),(.slice zd4 zq.fMem.length zd5),(.int .u8 zq.fAct.fKind),(.int .i64 zq.fAct.fA),(.int .i64 zq.fAct.fB),(.slice zd6 zq.fAct.fData.length zd7)]]) w₀ w' [fz Zn,stb z8v 65 [(.int .i64 r.fState.fPc),(.int .i64 r.fState.fLeft),(.int .u8 r.fState.fRegs.a0),(.int .u8 r.fState.fRegs.a1),(.int .u8 r.fState.fRegs.a2),(.int .u8 r.fState.fRegs.a3),(.int .u8 r.fX.fOp),(.int .i64 r.fX.fA),(.int .i64 r.fX.fB),(.int .i64 r.fX.fC),(.slice zjo r.fMem.length zjp),(.int .u8 r.fAct.fKind),(.int .i64 r.fAct.fA),(.int .i64 r.fAct.fB),(.slice zjq r.fAct.fData.length zjr)]]:=by
 unfold y2L at h
 refine Calls.y8 (vs:=[(.pointer (some ⟨z8v,0,none⟩))]) (pre:=[stb z8v 65 [(.int .i64 zq.fState.fPc),(.int .i64 zq.fState.fLeft),(.int .u8 zq.fState.fRegs.a0),(.int .u8 zq.fState.fRegs.a1),(.int .u8 zq.fState.fRegs.a2),(.int .u8 zq.fState.fRegs.a3),(.int .u8 zq.fX.fOp),(.int .i64 zq.fX.fA),(.int .i64 zq.fX.fB),(.int .i64 zq.fX.fC),(.slice zd4 zq.fMem.length zd5),(.int .u8 zq.fAct.fKind),(.int .i64 zq.fAct.fA),(.int .i64 zq.fAct.fB),(.slice zd6 zq.fAct.fData.length zd7)]]) (env:=[(0,(.pointer (some ⟨z8v,0,none⟩)))]) Tryd.func98 rfl Tryd.ntmps98 rfl (hown) rfl ?_
 refine WC.pool ?_
 obtain ⟨znI,znJ,h⟩:=zd h
 obtain ⟨znK,h⟩:=ya h
 obtain ⟨zjl,znL,h⟩:=zd h
 refine WC.a (WL.pu rfl (WL.pu rfl (WL.pu rfl ?_)))
 refine WL.a (d:=5) rfl rfl rfl (y6 rfl) ?_
 refine WL.a (d:=6) rfl rfl rfl (y4 yo rfl rfl) ?_
 refine WL.a (d:=7) rfl rfl rfl (y4 y14 rfl rfl) ?_
 refine WL.a (d:=8) rfl rfl rfl (y5 yd rfl (yb .h1 rfl)) ?_
 refine WL.b (dd:=9) rfl rfl rfl (zl (l:=[.tmp 3,.tmp 8]) Tryd.call108 (.cons rfl (.cons rfl .nil))) .nil (y2W hz .nil .here (.cons .h1 .nil) fun w pz ho la=>yt _ _ _ _ _ _ _ _ _ znJ w pz ((zjm.mono (Zle.left _ _)).mono (Zle.left _ _)) ((zjn.mono (Zle.left _ _)).mono (Zle.left _ _)) ((la _ (.head _) _).stb)) ?_
 refine WL.a (d:=10) rfl rfl rfl (y6 rfl) ?_
 refine WL.a (d:=11) rfl rfl rfl (y5 yB rfl (yZ (l:=([zq.fState.fRegs.a0,zq.fState.fRegs.a1,zq.fState.fRegs.a2,zq.fState.fRegs.a3] : List Int)) (f:=Value.int .u8) (k:=2) (m:=6) .h1 rfl rfl znK)) ?_
 refine WL.new (dd:=12) rfl rfl rfl (yy (cs:=([nth ([zq.fState.fRegs.a0,zq.fState.fRegs.a1,zq.fState.fRegs.a2,zq.fState.fRegs.a3] : List Int) zq.fX.fB] : List Int).flatMap e5) y1v (Eos.parts (l:=[.tmp 11]) (.cons rfl .nil) [0]) (fun _=>by kernel_rfl) rfl (by unfold maxLen; omega)) ?_
 intro zxe _
 refine WL.freezeS (ls:=([nth ([zq.fState.fRegs.a0,zq.fState.fRegs.a1,zq.fState.fRegs.a2,zq.fState.fRegs.a3] : List Int) zq.fX.fB] : List Int)) .here .here hz (RR.y1b (enc:=e5) (fun _=>rfl) _) ?_
 intro znM zjs znN
 refine WL.yw (dd:=13) rfl rfl rfl (zl (l:=[.tmp 2,.const (.int .u8 11),.tmp 12]) Tryd.call110 (.cons rfl (.cons rfl (.cons rfl .nil)))) (.cons .h1 .nil) (ccz hz (.cons .h1 .nil) .here fun w pz ho=>yz _ _ _ _ _ _ _ _ _ _ _ _ znL w pz (zjm.mono ((Zle.left _ _).trans zjs)) (zjn.mono ((Zle.left _ _).trans zjs)) znN ho) ?_
 rintro znO znP znQ znR ⟨znS,znT⟩
 refine WL.nil ?_
 obtain rfl:=Option.some.inj h
 refine WX.y9 Tryd.results98 .nil (fun w hw=>?_)
 exact ⟨znM,znO,znP,znQ,znR,yC,⟨znS,znT⟩,hw.sub (.cons .h1 (.cons .here .nil))⟩
def y2M (zM : Sproc_execution) : Option Sproc_execution :=
 (ys zM 12 []).bind fun zjt=>some zjt
set_option maxRecDepth 20000 in
theorem y58 (Z : Zp) (z8w : Nat) (zd8 : Option Addr) (zd9 : Nat) (zda : Option Addr) (zdb : Nat) (zM : Sproc_execution) (r : Sproc_execution)
  (h : y2M zM = some r) (w₀ : World) (hz : PZ (fps [stb z8w 65 [(.int .i64 zM.fState.fPc),(.int .i64 zM.fState.fLeft),(.int .u8 zM.fState.fRegs.a0),(.int .u8 zM.fState.fRegs.a1),(.int .u8 zM.fState.fRegs.a2),(.int .u8 zM.fState.fRegs.a3),(.int .u8 zM.fX.fOp),(.int .i64 zM.fX.fA),(.int .i64 zM.fX.fB),(.int .i64 zM.fX.fC),(.slice zd8 zM.fMem.length zd9),(.int .u8 zM.fAct.fKind),(.int .i64 zM.fAct.fA),(.int .i64 zM.fAct.fB),(.slice zda zM.fAct.fData.length zdb)]]) w₀ Z)
  (znU : ZS Z 1 (fun r x=>r = e5 x) zd8 zd9 zM.fMem)
  (znV : ZS Z 1 (fun r x=>r = e5 x) zda zdb zM.fAct.fData)
  (hown : Hp (fps [stb z8w 65 [(.int .i64 zM.fState.fPc),(.int .i64 zM.fState.fLeft),(.int .u8 zM.fState.fRegs.a0),(.int .u8 zM.fState.fRegs.a1),(.int .u8 zM.fState.fRegs.a2),(.int .u8 zM.fState.fRegs.a3),(.int .u8 zM.fX.fOp),(.int .i64 zM.fX.fA),(.int .i64 zM.fX.fB),(.int .i64 zM.fX.fC),(.slice zd8 zM.fMem.length zd9),(.int .u8 zM.fAct.fKind),(.int .i64 zM.fAct.fA),(.int .i64 zM.fAct.fB),(.slice zda zM.fAct.fData.length zdb)]]) w₀ w₀ [stb z8w 65 [(.int .i64 zM.fState.fPc),(.int .i64 zM.fState.fLeft),(.int .u8 zM.fState.fRegs.a0),(.int .u8 zM.fState.fRegs.a1),(.int .u8 zM.fState.fRegs.a2),(.int .u8 zM.fState.fRegs.a3),(.int .u8 zM.fX.fOp),(.int .i64 zM.fX.fA),(.int .i64 zM.fX.fB),(.int .i64 zM.fX.fC),(.slice zd8 zM.fMem.length zd9),(.int .u8 zM.fAct.fKind),(.int .i64 zM.fAct.fA),(.int .i64 zM.fAct.fB),(.slice zda zM.fAct.fData.length zdb)]]) :
  Calls Tryd.prog 99 #[(.pointer (some ⟨z8w,0,none⟩))] w₀ fun e w'=>∃ zju : Option Addr,∃ zjv : Nat,∃ zjw : Option Addr,∃ zjx : Nat,e = .returned (.tuple #[]) ∧ ((ZS Z 1 (fun r x=>r = e5 x) zju zjv r.fMem) ∧ (ZS Z 1 (fun r x=>r = e5 x) zjw zjx r.fAct.fData)) ∧ Hp (fps [stb z8w 65 [(.int .i64 zM.fState.fPc),(.int .i64 zM.fState.fLeft),(.int .u8 zM.fState.fRegs.a0),(.int .u8 zM.fState.fRegs.a1),(.int .u8 zM.fState.fRegs.a2),(.int .u8 zM.fState.fRegs.a3),(.int .u8 zM.fX.fOp),(.int .i64 zM.fX.fA),(.int .i64 zM.fX.fB),(.int .i64 zM.fX.fC),(.slice zd8 zM.fMem.length zd9),(.int .u8 zM.fAct.fKind),(.int .i64 zM.fAct.fA),(.int .i64 zM.fAct.fB),(.slice zda zM.fAct.fData.length zdb)]]) w₀ w' [stb z8w 65 [(.int .i64 r.fState.fPc),(.int .i64 r.fState.fLeft),(.int .u8 r.fState.fRegs.a0),(.int .u8 r.fState.fRegs.a1),(.int .u8 r.fState.fRegs.a2),(.int .u8 r.fState.fRegs.a3),(.int .u8 r.fX.fOp),(.int .i64 r.fX.fA),(.int .i64 r.fX.fB),(.int .i64 r.fX.fC),(.slice zju r.fMem.length zjv),(.int .u8 r.fAct.fKind),(.int .i64 r.fAct.fA),(.int .i64 r.fAct.fB),(.slice zjw r.fAct.fData.length zjx)]]:=by
 unfold y2M at h
 refine Calls.y8 (vs:=[(.pointer (some ⟨z8w,0,none⟩))]) (pre:=[stb z8w 65 [(.int .i64 zM.fState.fPc),(.int .i64 zM.fState.fLeft),(.int .u8 zM.fState.fRegs.a0),(.int .u8 zM.fState.fRegs.a1),(.int .u8 zM.fState.fRegs.a2),(.int .u8 zM.fState.fRegs.a3),(.int .u8 zM.fX.fOp),(.int .i64 zM.fX.fA),(.int .i64 zM.fX.fB),(.int .i64 zM.fX.fC),(.slice zd8 zM.fMem.length zd9),(.int .u8 zM.fAct.fKind),(.int .i64 zM.fAct.fA),(.int .i64 zM.fAct.fB),(.slice zda zM.fAct.fData.length zdb)]]) (env:=[(0,(.pointer (some ⟨z8w,0,none⟩)))]) Tryd.func99 rfl Tryd.ntmps99 rfl (hown) rfl ?_
 obtain ⟨zjt,znW,h⟩:=zd h
 refine WC.a (WL.pu rfl ?_)
 refine WL.yw (dd:=3) rfl rfl rfl (zl (l:=[.tmp 2,.const (.int .u8 12),.const (.slice none 0 0)]) Tryd.call110 (.cons rfl (.cons rfl (.cons rfl .nil)))) (.cons .here .nil) (cc hz (.cons .here .nil) fun w pz ho=>yz _ _ _ _ _ _ _ _ _ _ _ _ znW w pz znU znV (ZS.nil _ _ _) ho) ?_
 rintro znX znY znZ zo0 ⟨zo1,zo2⟩
 refine WL.nil ?_
 obtain rfl:=Option.some.inj h
 refine WX.y9 Tryd.results99 .nil (fun w hw=>?_)
 exact ⟨znX,znY,znZ,zo0,yC,⟨zo1,zo2⟩,hw.sub (.cons .here .nil)⟩
def y2y (zN : Sproc_execution) : Option Sproc_execution :=
 (ys zN 13 []).bind fun zjy=>some zjy
set_option maxRecDepth 20000 in
theorem y4H (Z : Zp) (z8x : Nat) (zdc : Option Addr) (zdd : Nat) (zde : Option Addr) (zdf : Nat) (zN : Sproc_execution) (r : Sproc_execution)
  (h : y2y zN = some r) (w₀ : World) (hz : PZ (fps [stb z8x 65 [(.int .i64 zN.fState.fPc),(.int .i64 zN.fState.fLeft),(.int .u8 zN.fState.fRegs.a0),(.int .u8 zN.fState.fRegs.a1),(.int .u8 zN.fState.fRegs.a2),(.int .u8 zN.fState.fRegs.a3),(.int .u8 zN.fX.fOp),(.int .i64 zN.fX.fA),(.int .i64 zN.fX.fB),(.int .i64 zN.fX.fC),(.slice zdc zN.fMem.length zdd),(.int .u8 zN.fAct.fKind),(.int .i64 zN.fAct.fA),(.int .i64 zN.fAct.fB),(.slice zde zN.fAct.fData.length zdf)]]) w₀ Z)
  (zo3 : ZS Z 1 (fun r x=>r = e5 x) zdc zdd zN.fMem)
  (zo4 : ZS Z 1 (fun r x=>r = e5 x) zde zdf zN.fAct.fData)
  (hown : Hp (fps [stb z8x 65 [(.int .i64 zN.fState.fPc),(.int .i64 zN.fState.fLeft),(.int .u8 zN.fState.fRegs.a0),(.int .u8 zN.fState.fRegs.a1),(.int .u8 zN.fState.fRegs.a2),(.int .u8 zN.fState.fRegs.a3),(.int .u8 zN.fX.fOp),(.int .i64 zN.fX.fA),(.int .i64 zN.fX.fB),(.int .i64 zN.fX.fC),(.slice zdc zN.fMem.length zdd),(.int .u8 zN.fAct.fKind),(.int .i64 zN.fAct.fA),(.int .i64 zN.fAct.fB),(.slice zde zN.fAct.fData.length zdf)]]) w₀ w₀ [stb z8x 65 [(.int .i64 zN.fState.fPc),(.int .i64 zN.fState.fLeft),(.int .u8 zN.fState.fRegs.a0),(.int .u8 zN.fState.fRegs.a1),(.int .u8 zN.fState.fRegs.a2),(.int .u8 zN.fState.fRegs.a3),(.int .u8 zN.fX.fOp),(.int .i64 zN.fX.fA),(.int .i64 zN.fX.fB),(.int .i64 zN.fX.fC),(.slice zdc zN.fMem.length zdd),(.int .u8 zN.fAct.fKind),(.int .i64 zN.fAct.fA),(.int .i64 zN.fAct.fB),(.slice zde zN.fAct.fData.length zdf)]]) :
  Calls Tryd.prog 100 #[(.pointer (some ⟨z8x,0,none⟩))] w₀ fun e w'=>∃ zjz : Option Addr,∃ zjA : Nat,∃ zjB : Option Addr,∃ zjC : Nat,e = .returned (.tuple #[]) ∧ ((ZS Z 1 (fun r x=>r = e5 x) zjz zjA r.fMem) ∧ (ZS Z 1 (fun r x=>r = e5 x) zjB zjC r.fAct.fData)) ∧ Hp (fps [stb z8x 65 [(.int .i64 zN.fState.fPc),(.int .i64 zN.fState.fLeft),(.int .u8 zN.fState.fRegs.a0),(.int .u8 zN.fState.fRegs.a1),(.int .u8 zN.fState.fRegs.a2),(.int .u8 zN.fState.fRegs.a3),(.int .u8 zN.fX.fOp),(.int .i64 zN.fX.fA),(.int .i64 zN.fX.fB),(.int .i64 zN.fX.fC),(.slice zdc zN.fMem.length zdd),(.int .u8 zN.fAct.fKind),(.int .i64 zN.fAct.fA),(.int .i64 zN.fAct.fB),(.slice zde zN.fAct.fData.length zdf)]]) w₀ w' [stb z8x 65 [(.int .i64 r.fState.fPc),(.int .i64 r.fState.fLeft),(.int .u8 r.fState.fRegs.a0),(.int .u8 r.fState.fRegs.a1),(.int .u8 r.fState.fRegs.a2),(.int .u8 r.fState.fRegs.a3),(.int .u8 r.fX.fOp),(.int .i64 r.fX.fA),(.int .i64 r.fX.fB),(.int .i64 r.fX.fC),(.slice zjz r.fMem.length zjA),(.int .u8 r.fAct.fKind),(.int .i64 r.fAct.fA),(.int .i64 r.fAct.fB),(.slice zjB r.fAct.fData.length zjC)]]:=by
 unfold y2y at h
 refine Calls.y8 (vs:=[(.pointer (some ⟨z8x,0,none⟩))]) (pre:=[stb z8x 65 [(.int .i64 zN.fState.fPc),(.int .i64 zN.fState.fLeft),(.int .u8 zN.fState.fRegs.a0),(.int .u8 zN.fState.fRegs.a1),(.int .u8 zN.fState.fRegs.a2),(.int .u8 zN.fState.fRegs.a3),(.int .u8 zN.fX.fOp),(.int .i64 zN.fX.fA),(.int .i64 zN.fX.fB),(.int .i64 zN.fX.fC),(.slice zdc zN.fMem.length zdd),(.int .u8 zN.fAct.fKind),(.int .i64 zN.fAct.fA),(.int .i64 zN.fAct.fB),(.slice zde zN.fAct.fData.length zdf)]]) (env:=[(0,(.pointer (some ⟨z8x,0,none⟩)))]) Tryd.func100 rfl Tryd.ntmps100 rfl (hown) rfl ?_
 obtain ⟨zjy,zo5,h⟩:=zd h
 refine WC.a (WL.pu rfl ?_)
 refine WL.yw (dd:=3) rfl rfl rfl (zl (l:=[.tmp 2,.const (.int .u8 13),.const (.slice none 0 0)]) Tryd.call110 (.cons rfl (.cons rfl (.cons rfl .nil)))) (.cons .here .nil) (cc hz (.cons .here .nil) fun w pz ho=>yz _ _ _ _ _ _ _ _ _ _ _ _ zo5 w pz zo3 zo4 (ZS.nil _ _ _) ho) ?_
 rintro zo6 zo7 zo8 zo9 ⟨zoa,zob⟩
 refine WL.nil ?_
 obtain rfl:=Option.some.inj h
 refine WX.y9 Tryd.results100 .nil (fun w hw=>?_)
 exact ⟨zo6,zo7,zo8,zo9,yC,⟨zoa,zob⟩,hw.sub (.cons .here .nil)⟩
def y2N (zy : Sproc_execution) : Option Sproc_execution :=
 some (⟨zy.fState,zy.fX,zy.fMem,(⟨14,0,0,([] : List Int)⟩ : Sproc_Act)⟩ : Sproc_execution)
set_option maxRecDepth 20000 in
theorem y59 (Z : Zp) (z8y : Nat) (za7 : Option Addr) (za8 : Nat) (zdg : Option Addr) (zdh : Nat) (zy : Sproc_execution) (r : Sproc_execution)
  (h : y2N zy = some r) (w₀ : World) (hz : PZ (fps [stb z8y 65 [(.int .i64 zy.fState.fPc),(.int .i64 zy.fState.fLeft),(.int .u8 zy.fState.fRegs.a0),(.int .u8 zy.fState.fRegs.a1),(.int .u8 zy.fState.fRegs.a2),(.int .u8 zy.fState.fRegs.a3),(.int .u8 zy.fX.fOp),(.int .i64 zy.fX.fA),(.int .i64 zy.fX.fB),(.int .i64 zy.fX.fC),(.slice za7 zy.fMem.length za8),(.int .u8 zy.fAct.fKind),(.int .i64 zy.fAct.fA),(.int .i64 zy.fAct.fB),(.slice zdg zy.fAct.fData.length zdh)]]) w₀ Z)
  (zoc : ZS Z 1 (fun r x=>r = e5 x) za7 za8 zy.fMem)
  (zxf : ZS Z 1 (fun r x=>r = e5 x) zdg zdh zy.fAct.fData)
  (hown : Hp (fps [stb z8y 65 [(.int .i64 zy.fState.fPc),(.int .i64 zy.fState.fLeft),(.int .u8 zy.fState.fRegs.a0),(.int .u8 zy.fState.fRegs.a1),(.int .u8 zy.fState.fRegs.a2),(.int .u8 zy.fState.fRegs.a3),(.int .u8 zy.fX.fOp),(.int .i64 zy.fX.fA),(.int .i64 zy.fX.fB),(.int .i64 zy.fX.fC),(.slice za7 zy.fMem.length za8),(.int .u8 zy.fAct.fKind),(.int .i64 zy.fAct.fA),(.int .i64 zy.fAct.fB),(.slice zdg zy.fAct.fData.length zdh)]]) w₀ w₀ [stb z8y 65 [(.int .i64 zy.fState.fPc),(.int .i64 zy.fState.fLeft),(.int .u8 zy.fState.fRegs.a0),(.int .u8 zy.fState.fRegs.a1),(.int .u8 zy.fState.fRegs.a2),(.int .u8 zy.fState.fRegs.a3),(.int .u8 zy.fX.fOp),(.int .i64 zy.fX.fA),(.int .i64 zy.fX.fB),(.int .i64 zy.fX.fC),(.slice za7 zy.fMem.length za8),(.int .u8 zy.fAct.fKind),(.int .i64 zy.fAct.fA),(.int .i64 zy.fAct.fB),(.slice zdg zy.fAct.fData.length zdh)]]) :
  Calls Tryd.prog 101 #[(.pointer (some ⟨z8y,0,none⟩))] w₀ fun e w'=>∃ zjD : Option Addr,∃ zjE : Nat,∃ zjF : Option Addr,∃ zjG : Nat,e = .returned (.tuple #[]) ∧ (ZS Z 1 (fun r x=>r = e5 x) zjD zjE r.fMem) ∧ Hp (fps [stb z8y 65 [(.int .i64 zy.fState.fPc),(.int .i64 zy.fState.fLeft),(.int .u8 zy.fState.fRegs.a0),(.int .u8 zy.fState.fRegs.a1),(.int .u8 zy.fState.fRegs.a2),(.int .u8 zy.fState.fRegs.a3),(.int .u8 zy.fX.fOp),(.int .i64 zy.fX.fA),(.int .i64 zy.fX.fB),(.int .i64 zy.fX.fC),(.slice za7 zy.fMem.length za8),(.int .u8 zy.fAct.fKind),(.int .i64 zy.fAct.fA),(.int .i64 zy.fAct.fB),(.slice zdg zy.fAct.fData.length zdh)]]) w₀ w' [stb z8y 65 [(.int .i64 r.fState.fPc),(.int .i64 r.fState.fLeft),(.int .u8 r.fState.fRegs.a0),(.int .u8 r.fState.fRegs.a1),(.int .u8 r.fState.fRegs.a2),(.int .u8 r.fState.fRegs.a3),(.int .u8 r.fX.fOp),(.int .i64 r.fX.fA),(.int .i64 r.fX.fB),(.int .i64 r.fX.fC),(.slice zjD r.fMem.length zjE),(.int .u8 r.fAct.fKind),(.int .i64 r.fAct.fA),(.int .i64 r.fAct.fB),(.slice zjF r.fAct.fData.length zjG)],row (.slice zjF r.fAct.fData.length zjG) 5 1 (r.fAct.fData.flatMap e5)]:=by
 unfold y2N at h
 refine Calls.y8 (vs:=[(.pointer (some ⟨z8y,0,none⟩))]) (pre:=[stb z8y 65 [(.int .i64 zy.fState.fPc),(.int .i64 zy.fState.fLeft),(.int .u8 zy.fState.fRegs.a0),(.int .u8 zy.fState.fRegs.a1),(.int .u8 zy.fState.fRegs.a2),(.int .u8 zy.fState.fRegs.a3),(.int .u8 zy.fX.fOp),(.int .i64 zy.fX.fA),(.int .i64 zy.fX.fB),(.int .i64 zy.fX.fC),(.slice za7 zy.fMem.length za8),(.int .u8 zy.fAct.fKind),(.int .i64 zy.fAct.fA),(.int .i64 zy.fAct.fB),(.slice zdg zy.fAct.fData.length zdh)]]) (env:=[(0,(.pointer (some ⟨z8y,0,none⟩)))]) Tryd.func101 rfl Tryd.ntmps101 rfl (hown) rfl ?_
 refine WC.a (WL.pu rfl ?_)
 refine WL.a (d:=3) rfl rfl rfl (yR (v:=(.agg #[(.int .u8 14),(.int .i64 0),(.int .i64 0),(.slice none 0 0)])) (Eos.parts (l:=[.const (.int .u8 14)]) (.cons rfl .nil) [0]) (fun _=>by kernel_rfl)) ?_
 refine WL.a (d:=4) rfl rfl rfl (y6 rfl) ?_
 refine WL.a (d:=5) rfl rfl rfl (y4 y2e rfl rfl) ?_
 refine WL.yg rfl rfl (yK (ds:=[(.int .i64 zy.fState.fPc),(.int .i64 zy.fState.fLeft),(.int .u8 zy.fState.fRegs.a0),(.int .u8 zy.fState.fRegs.a1),(.int .u8 zy.fState.fRegs.a2),(.int .u8 zy.fState.fRegs.a3),(.int .u8 zy.fX.fOp),(.int .i64 zy.fX.fA),(.int .i64 zy.fX.fB),(.int .i64 zy.fX.fC),(.slice za7 zy.fMem.length za8),(.int .u8 14),(.int .i64 0),(.int .i64 0),(.slice none 0 0)]) y1g rfl rfl rfl rfl rfl .here rfl rfl) ?_
 refine WL.nil ?_
 refine WX.nilRow 5 1 ?_
 obtain rfl:=Option.some.inj h
 refine WX.y9 Tryd.results101 .nil (fun w hw=>?_)
 exact ⟨za7,za8,none,0,yC,zoc,hw.sub (.cons .h1 (.cons .here .nil))⟩
def y2O (zt : Sproc_execution) : Option Sproc_execution :=
 some (⟨(⟨zt.fX.fA,zt.fState.fLeft,zt.fState.fRegs⟩ : Sproc_State),zt.fX,zt.fMem,zt.fAct⟩ : Sproc_execution)
set_option maxRecDepth 20000 in
theorem y5a (Z : Zp) (z8z : Nat) (za9 : Option Addr) (zaa : Nat) (zab : Option Addr) (zac : Nat) (zt : Sproc_execution) (r : Sproc_execution)
  (h : y2O zt = some r) (w₀ : World) (hz : PZ (fps [stb z8z 65 [(.int .i64 zt.fState.fPc),(.int .i64 zt.fState.fLeft),(.int .u8 zt.fState.fRegs.a0),(.int .u8 zt.fState.fRegs.a1),(.int .u8 zt.fState.fRegs.a2),(.int .u8 zt.fState.fRegs.a3),(.int .u8 zt.fX.fOp),(.int .i64 zt.fX.fA),(.int .i64 zt.fX.fB),(.int .i64 zt.fX.fC),(.slice za9 zt.fMem.length zaa),(.int .u8 zt.fAct.fKind),(.int .i64 zt.fAct.fA),(.int .i64 zt.fAct.fB),(.slice zab zt.fAct.fData.length zac)]]) w₀ Z)
  (zod : ZS Z 1 (fun r x=>r = e5 x) za9 zaa zt.fMem)
  (zoe : ZS Z 1 (fun r x=>r = e5 x) zab zac zt.fAct.fData)
  (hown : Hp (fps [stb z8z 65 [(.int .i64 zt.fState.fPc),(.int .i64 zt.fState.fLeft),(.int .u8 zt.fState.fRegs.a0),(.int .u8 zt.fState.fRegs.a1),(.int .u8 zt.fState.fRegs.a2),(.int .u8 zt.fState.fRegs.a3),(.int .u8 zt.fX.fOp),(.int .i64 zt.fX.fA),(.int .i64 zt.fX.fB),(.int .i64 zt.fX.fC),(.slice za9 zt.fMem.length zaa),(.int .u8 zt.fAct.fKind),(.int .i64 zt.fAct.fA),(.int .i64 zt.fAct.fB),(.slice zab zt.fAct.fData.length zac)]]) w₀ w₀ [stb z8z 65 [(.int .i64 zt.fState.fPc),(.int .i64 zt.fState.fLeft),(.int .u8 zt.fState.fRegs.a0),(.int .u8 zt.fState.fRegs.a1),(.int .u8 zt.fState.fRegs.a2),(.int .u8 zt.fState.fRegs.a3),(.int .u8 zt.fX.fOp),(.int .i64 zt.fX.fA),(.int .i64 zt.fX.fB),(.int .i64 zt.fX.fC),(.slice za9 zt.fMem.length zaa),(.int .u8 zt.fAct.fKind),(.int .i64 zt.fAct.fA),(.int .i64 zt.fAct.fB),(.slice zab zt.fAct.fData.length zac)]]) :
  Calls Tryd.prog 102 #[(.pointer (some ⟨z8z,0,none⟩))] w₀ fun e w'=>∃ zjH : Option Addr,∃ zjI : Nat,∃ zjJ : Option Addr,∃ zjK : Nat,e = .returned (.tuple #[]) ∧ ((ZS Z 1 (fun r x=>r = e5 x) zjH zjI r.fMem) ∧ (ZS Z 1 (fun r x=>r = e5 x) zjJ zjK r.fAct.fData)) ∧ Hp (fps [stb z8z 65 [(.int .i64 zt.fState.fPc),(.int .i64 zt.fState.fLeft),(.int .u8 zt.fState.fRegs.a0),(.int .u8 zt.fState.fRegs.a1),(.int .u8 zt.fState.fRegs.a2),(.int .u8 zt.fState.fRegs.a3),(.int .u8 zt.fX.fOp),(.int .i64 zt.fX.fA),(.int .i64 zt.fX.fB),(.int .i64 zt.fX.fC),(.slice za9 zt.fMem.length zaa),(.int .u8 zt.fAct.fKind),(.int .i64 zt.fAct.fA),(.int .i64 zt.fAct.fB),(.slice zab zt.fAct.fData.length zac)]]) w₀ w' [stb z8z 65 [(.int .i64 r.fState.fPc),(.int .i64 r.fState.fLeft),(.int .u8 r.fState.fRegs.a0),(.int .u8 r.fState.fRegs.a1),(.int .u8 r.fState.fRegs.a2),(.int .u8 r.fState.fRegs.a3),(.int .u8 r.fX.fOp),(.int .i64 r.fX.fA),(.int .i64 r.fX.fB),(.int .i64 r.fX.fC),(.slice zjH r.fMem.length zjI),(.int .u8 r.fAct.fKind),(.int .i64 r.fAct.fA),(.int .i64 r.fAct.fB),(.slice zjJ r.fAct.fData.length zjK)]]:=by
 unfold y2O at h
 refine Calls.y8 (vs:=[(.pointer (some ⟨z8z,0,none⟩))]) (pre:=[stb z8z 65 [(.int .i64 zt.fState.fPc),(.int .i64 zt.fState.fLeft),(.int .u8 zt.fState.fRegs.a0),(.int .u8 zt.fState.fRegs.a1),(.int .u8 zt.fState.fRegs.a2),(.int .u8 zt.fState.fRegs.a3),(.int .u8 zt.fX.fOp),(.int .i64 zt.fX.fA),(.int .i64 zt.fX.fB),(.int .i64 zt.fX.fC),(.slice za9 zt.fMem.length zaa),(.int .u8 zt.fAct.fKind),(.int .i64 zt.fAct.fA),(.int .i64 zt.fAct.fB),(.slice zab zt.fAct.fData.length zac)]]) (env:=[(0,(.pointer (some ⟨z8z,0,none⟩)))]) Tryd.func102 rfl Tryd.ntmps102 rfl (hown) rfl ?_
 refine WC.a (WL.pu rfl (WL.pu rfl ?_))
 refine WL.a (d:=4) rfl rfl rfl (y6 rfl) ?_
 refine WL.a (d:=5) rfl rfl rfl (y4 yo rfl rfl) ?_
 refine WL.a (d:=6) rfl rfl rfl (y4 yS rfl rfl) ?_
 refine WL.a (d:=7) rfl rfl rfl (y5 yd rfl (yb .here rfl)) ?_
 refine WL.a (d:=8) rfl rfl rfl (y6 rfl) ?_
 refine WL.a (d:=9) rfl rfl rfl (y4 yI rfl rfl) ?_
 refine WL.a (d:=10) rfl rfl rfl (y4 y1c rfl rfl) ?_
 refine WL.yg rfl rfl (yK (ds:=[(.int .i64 zt.fX.fA),(.int .i64 zt.fState.fLeft),(.int .u8 zt.fState.fRegs.a0),(.int .u8 zt.fState.fRegs.a1),(.int .u8 zt.fState.fRegs.a2),(.int .u8 zt.fState.fRegs.a3),(.int .u8 zt.fX.fOp),(.int .i64 zt.fX.fA),(.int .i64 zt.fX.fB),(.int .i64 zt.fX.fC),(.slice za9 zt.fMem.length zaa),(.int .u8 zt.fAct.fKind),(.int .i64 zt.fAct.fA),(.int .i64 zt.fAct.fB),(.slice zab zt.fAct.fData.length zac)]) y20 rfl rfl rfl rfl rfl .here rfl rfl) ?_
 refine WL.nil ?_
 obtain rfl:=Option.some.inj h
 refine WX.y9 Tryd.results102 .nil (fun w hw=>?_)
 exact ⟨za9,zaa,zab,zac,yC,⟨zod,zoe⟩,hw.sub (.cons .here .nil)⟩
def y2P (zm : Sproc_execution) : Option Sproc_execution :=
 (yn zm zm.fX.fA).bind fun zof=>chk ((0 : Int) ≤ zm.fX.fA ∧ zm.fX.fA < 4) (if decide ((nth ([zm.fState.fRegs.a0,zm.fState.fRegs.a1,zm.fState.fRegs.a2,zm.fState.fRegs.a3] : List Int) zm.fX.fA) = 0) then some (⟨(⟨zm.fX.fB,zm.fState.fLeft,zm.fState.fRegs⟩ : Sproc_State),zm.fX,zm.fMem,zm.fAct⟩ : Sproc_execution) else some zm)
set_option maxRecDepth 20000 in
theorem y5b (Z : Zp) (z8A : Nat) (z8B : Option Addr) (z8C : Nat) (z8D : Option Addr) (z8E : Nat) (zm : Sproc_execution) (r : Sproc_execution)
  (h : y2P zm = some r) (w₀ : World) (hz : PZ (fps [stb z8A 65 [(.int .i64 zm.fState.fPc),(.int .i64 zm.fState.fLeft),(.int .u8 zm.fState.fRegs.a0),(.int .u8 zm.fState.fRegs.a1),(.int .u8 zm.fState.fRegs.a2),(.int .u8 zm.fState.fRegs.a3),(.int .u8 zm.fX.fOp),(.int .i64 zm.fX.fA),(.int .i64 zm.fX.fB),(.int .i64 zm.fX.fC),(.slice z8B zm.fMem.length z8C),(.int .u8 zm.fAct.fKind),(.int .i64 zm.fAct.fA),(.int .i64 zm.fAct.fB),(.slice z8D zm.fAct.fData.length z8E)]]) w₀ Z)
  (zfQ : ZS Z 1 (fun r x=>r = e5 x) z8B z8C zm.fMem)
  (zfR : ZS Z 1 (fun r x=>r = e5 x) z8D z8E zm.fAct.fData)
  (hown : Hp (fps [stb z8A 65 [(.int .i64 zm.fState.fPc),(.int .i64 zm.fState.fLeft),(.int .u8 zm.fState.fRegs.a0),(.int .u8 zm.fState.fRegs.a1),(.int .u8 zm.fState.fRegs.a2),(.int .u8 zm.fState.fRegs.a3),(.int .u8 zm.fX.fOp),(.int .i64 zm.fX.fA),(.int .i64 zm.fX.fB),(.int .i64 zm.fX.fC),(.slice z8B zm.fMem.length z8C),(.int .u8 zm.fAct.fKind),(.int .i64 zm.fAct.fA),(.int .i64 zm.fAct.fB),(.slice z8D zm.fAct.fData.length z8E)]]) w₀ w₀ [stb z8A 65 [(.int .i64 zm.fState.fPc),(.int .i64 zm.fState.fLeft),(.int .u8 zm.fState.fRegs.a0),(.int .u8 zm.fState.fRegs.a1),(.int .u8 zm.fState.fRegs.a2),(.int .u8 zm.fState.fRegs.a3),(.int .u8 zm.fX.fOp),(.int .i64 zm.fX.fA),(.int .i64 zm.fX.fB),(.int .i64 zm.fX.fC),(.slice z8B zm.fMem.length z8C),(.int .u8 zm.fAct.fKind),(.int .i64 zm.fAct.fA),(.int .i64 zm.fAct.fB),(.slice z8D zm.fAct.fData.length z8E)]]) :
  Calls Tryd.prog 103 #[(.pointer (some ⟨z8A,0,none⟩))] w₀ fun e w'=>∃ zjL : Option Addr,∃ zjM : Nat,∃ zjN : Option Addr,∃ zjO : Nat,e = .returned (.tuple #[]) ∧ ((ZS Z 1 (fun r x=>r = e5 x) zjL zjM r.fMem) ∧ (ZS Z 1 (fun r x=>r = e5 x) zjN zjO r.fAct.fData)) ∧ Hp (fps [stb z8A 65 [(.int .i64 zm.fState.fPc),(.int .i64 zm.fState.fLeft),(.int .u8 zm.fState.fRegs.a0),(.int .u8 zm.fState.fRegs.a1),(.int .u8 zm.fState.fRegs.a2),(.int .u8 zm.fState.fRegs.a3),(.int .u8 zm.fX.fOp),(.int .i64 zm.fX.fA),(.int .i64 zm.fX.fB),(.int .i64 zm.fX.fC),(.slice z8B zm.fMem.length z8C),(.int .u8 zm.fAct.fKind),(.int .i64 zm.fAct.fA),(.int .i64 zm.fAct.fB),(.slice z8D zm.fAct.fData.length z8E)]]) w₀ w' [stb z8A 65 [(.int .i64 r.fState.fPc),(.int .i64 r.fState.fLeft),(.int .u8 r.fState.fRegs.a0),(.int .u8 r.fState.fRegs.a1),(.int .u8 r.fState.fRegs.a2),(.int .u8 r.fState.fRegs.a3),(.int .u8 r.fX.fOp),(.int .i64 r.fX.fA),(.int .i64 r.fX.fB),(.int .i64 r.fX.fC),(.slice zjL r.fMem.length zjM),(.int .u8 r.fAct.fKind),(.int .i64 r.fAct.fA),(.int .i64 r.fAct.fB),(.slice zjN r.fAct.fData.length zjO)]]:=by
 unfold y2P at h
 refine Calls.y8 (vs:=[(.pointer (some ⟨z8A,0,none⟩))]) (pre:=[stb z8A 65 [(.int .i64 zm.fState.fPc),(.int .i64 zm.fState.fLeft),(.int .u8 zm.fState.fRegs.a0),(.int .u8 zm.fState.fRegs.a1),(.int .u8 zm.fState.fRegs.a2),(.int .u8 zm.fState.fRegs.a3),(.int .u8 zm.fX.fOp),(.int .i64 zm.fX.fA),(.int .i64 zm.fX.fB),(.int .i64 zm.fX.fC),(.slice z8B zm.fMem.length z8C),(.int .u8 zm.fAct.fKind),(.int .i64 zm.fAct.fA),(.int .i64 zm.fAct.fB),(.slice z8D zm.fAct.fData.length z8E)]]) (env:=[(0,(.pointer (some ⟨z8A,0,none⟩)))]) Tryd.func103 rfl Tryd.ntmps103 rfl (hown) rfl ?_
 refine WC.b ?_
 obtain ⟨zof,zog,h⟩:=zd h
 obtain ⟨zoh,h⟩:=ya h
 refine WC.a (WL.pu rfl (WL.pu rfl ?_))
 refine WL.a (d:=4) rfl rfl rfl (y6 rfl) ?_
 refine WL.a (d:=5) rfl rfl rfl (y4 yo rfl rfl) ?_
 refine WL.a (d:=6) rfl rfl rfl (y4 yS rfl rfl) ?_
 refine WL.a (d:=7) rfl rfl rfl (y5 yd rfl (yb .here rfl)) ?_
 refine WL.b (dd:=8) rfl rfl rfl (zl (l:=[.tmp 2,.tmp 7]) Tryd.call108 (.cons rfl (.cons rfl .nil))) .nil (ccl hz .nil (.cons .here .nil) fun w pz ho la=>yt _ _ _ _ _ _ _ _ _ zog w pz (zfQ.mono (Zle.left _ _)) (zfR.mono (Zle.left _ _)) ((la _ (.head _) _).stb)) ?_
 refine WL.a (d:=9) rfl rfl rfl (y6 rfl) ?_
 refine WL.a (d:=10) rfl rfl rfl (y5 yB rfl (yZ (l:=([zm.fState.fRegs.a0,zm.fState.fRegs.a1,zm.fState.fRegs.a2,zm.fState.fRegs.a3] : List Int)) (f:=Value.int .u8) (k:=2) (m:=6) .here rfl rfl zoh)) ?_
 refine WL.pu rfl (WL.nil (WX.a ?_))
 refine WC.cond rfl (fun zfS=>?_) (fun zfS=>?_)
 ·replace h:=yl h zfS
  refine WC.a (WL.pu rfl (WL.pu rfl ?_))
  refine WL.a (d:=14) rfl rfl rfl (y6 rfl) ?_
  refine WL.a (d:=15) rfl rfl rfl (y4 yo rfl rfl) ?_
  refine WL.a (d:=16) rfl rfl rfl (y4 y14 rfl rfl) ?_
  refine WL.a (d:=17) rfl rfl rfl (y5 yd rfl (yb .here rfl)) ?_
  refine WL.a (d:=18) rfl rfl rfl (y6 rfl) ?_
  refine WL.a (d:=19) rfl rfl rfl (y4 yI rfl rfl) ?_
  refine WL.a (d:=20) rfl rfl rfl (y4 y1c rfl rfl) ?_
  refine WL.yg rfl rfl (yK (ds:=[(.int .i64 zm.fX.fB),(.int .i64 zm.fState.fLeft),(.int .u8 zm.fState.fRegs.a0),(.int .u8 zm.fState.fRegs.a1),(.int .u8 zm.fState.fRegs.a2),(.int .u8 zm.fState.fRegs.a3),(.int .u8 zm.fX.fOp),(.int .i64 zm.fX.fA),(.int .i64 zm.fX.fB),(.int .i64 zm.fX.fC),(.slice z8B zm.fMem.length z8C),(.int .u8 zm.fAct.fKind),(.int .i64 zm.fAct.fA),(.int .i64 zm.fAct.fB),(.slice z8D zm.fAct.fData.length z8E)]) y20 rfl rfl rfl rfl rfl .here rfl rfl) ?_
  refine WL.nil ?_
  obtain rfl:=Option.some.inj h
  refine WX.y9 Tryd.results103 .nil (fun w hw=>?_)
  exact ⟨z8B,z8C,z8D,z8E,yC,⟨zfQ,zfR⟩,hw.sub (.cons .here .nil)⟩
 ·replace h:=ym h zfS
  refine WC.skip ?_
  obtain rfl:=Option.some.inj h
  refine WX.y9 Tryd.results103 .nil (fun w hw=>?_)
  exact ⟨z8B,z8C,z8D,z8E,yC,⟨zfQ,zfR⟩,hw.sub (.cons .here .nil)⟩
end Go.Proofs.YtjdnejbngloieaaDoor
