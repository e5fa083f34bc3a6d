/- A part of this claim's proof: models of functions, walks, plain laws. No conditions. -/
import Derived.Test.YtjdnejbngloieaaDoorZSortF
import Derived.Test.YtjdnejbngloieaaDoorZSort
import Derived.Test.YtjdnejbngloieaaDoorZUnroll
import Derived.Test.YtjdnejbngloieaaDoorZArr
import Derived.Test.YtjdnejbngloieaaDoorShelf26
import Derived.Test.YtjdnejbngloieaaDoorProg
namespace Go.Proofs.YtjdnejbngloieaaDoor
open Go Go.RowKit Sep
set_option linter.all false
set_option maxRecDepth 30000
set_option maxHeartbeats 4000000
structure S34 where
 a0 : Int
 a1 : Int
 a2 : Int
 a3 : Int
 deriving Inhabited,DecidableEq
def e5 (x : Int) : List Value:=[(.int .u8 x)]
def e3 (x : Int) : List Value:=[(.int .i64 x)]
theorem y5b : ∀ x,∀ u ∈ e3 x,u.oneCell' = true:=fun _=>ocB rfl
structure Sapi_Ins where
 fOp : Int
 fA : Int
 fB : Int
 fC : Int
 deriving Inhabited,DecidableEq
structure S7 where
 fX : Int
 fY : Int
 fSigned : Bool
 fCode : Int
 deriving Inhabited,DecidableEq
structure S13 where
 fMsg : ByteArray
 fAddr : Int
 deriving Inhabited,DecidableEq
def e33 (x : Sapi_Ins) : List Value:=[(.int .u8 x.fOp),(.int .i64 x.fA),(.int .i64 x.fB),(.int .i64 x.fC)]
structure Sproc_State where
 fPc : Int
 fLeft : Int
 fRegs : S34
 deriving Inhabited,DecidableEq
def e76 (x : Int) : List Value:=[(.int .u8 x)]
def p74 (Z : Zp) (r : List Value) (x : List Int) : Prop:=∃ (ao0 : Option Addr) (cap0 : Nat),r = [(.slice ao0 x.length cap0)] ∧ ZS Z 1 (fun r x=>r = e76 x) ao0 cap0 x
theorem yV {Z Z' : Zp} (k : Zle Z Z') {r : List Value} {x : List Int} (h : p74 Z r x) : p74 Z' r x:=by
 obtain ⟨ao0,cap0,hr,h0⟩:=h
 exact ⟨ao0,cap0,hr,h0.mono k⟩
def yP : List (List Int):=[[],[1],[2,3],[2,2],[2,2],[2,4,2],[2,4,2],[6,2,5],[6,2,2],[6],[6],[6],[6],[6],[6,2],[6,2],[6,2],[6,2],[6],[],[7],[2,7],[2,2,7],[2,2],[3],[]]
structure Sproc_Act where
 fKind : Int
 fA : Int
 fB : Int
 fData : List Int
 deriving Inhabited,DecidableEq
structure Sproc_execution where
 fState : Sproc_State
 fX : Sapi_Ins
 fMem : List Int
 fAct : Sproc_Act
 deriving Inhabited,DecidableEq
def tabG0 : List Value:=[.nilFunc,.func (.func 84) #[] #[],.func (.func 85) #[] #[],.func (.func 82) #[] #[],.func (.func 86) #[] #[],.func (.func 87) #[] #[],.func (.func 88) #[] #[],.func (.func 89) #[] #[],.func (.func 90) #[] #[],.func (.func 91) #[] #[],.func (.func 92) #[] #[],.func (.func 93) #[] #[],.func (.func 94) #[] #[],.func (.func 95) #[] #[],.func (.func 96) #[] #[],.func (.func 97) #[] #[],.func (.func 98) #[] #[],.func (.func 99) #[] #[],.func (.func 100) #[] #[],.func (.func 101) #[] #[],.func (.func 102) #[] #[],.func (.func 103) #[] #[],.func (.func 104) #[] #[],.func (.func 105) #[] #[],.func (.func 106) #[] #[],.func (.func 107) #[] #[]]
def e39 (x : Sproc_State) : List Value:=[(.int .i64 x.fPc),(.int .i64 x.fLeft),(.int .u8 x.fRegs.a0),(.int .u8 x.fRegs.a1),(.int .u8 x.fRegs.a2),(.int .u8 x.fRegs.a3)]
def e34 (x : S34) : List Value:=[(.int .u8 x.a0),(.int .u8 x.a1),(.int .u8 x.a2),(.int .u8 x.a3)]
theorem yC : elT Tryd.prog 30 3 1 8:=⟨Tryd.underlying30,⟨Tryd.t3,_,rfl,rfl,rfl,rfl,rfl⟩,by decide⟩
theorem y4e : y26 Tryd.prog 33 (.agg #[(.int .u8 0),(.int .i64 0),(.int .i64 0),(.int .i64 0)]):=y2r (i:=Tryd.t33) rfl rfl
theorem yg : y3b Tryd.prog 3:=y2v Tryd.underlying3 rfl
theorem y3N : y2T Tryd.prog 33 4:=y2w (i:=Tryd.t33) rfl
theorem y2M : aggT Tryd.prog 33 4:=y4N (i:=Tryd.t33) Tryd.underlying33 rfl rfl
theorem y2E : elT Tryd.prog 22 33 4 32:=⟨Tryd.underlying22,⟨Tryd.t33,_,rfl,rfl,rfl,rfl,rfl⟩,by decide⟩
theorem y4Q : y26 Tryd.prog 5 (.int .u8 0):=y2r (i:=Tryd.t5) rfl rfl
theorem y2k : elT Tryd.prog 35 5 1 1:=⟨Tryd.underlying35,⟨Tryd.t5,_,rfl,rfl,rfl,rfl,rfl⟩,by decide⟩
theorem y1q : y26 Tryd.prog 39 (.agg #[(.int .i64 0),(.int .i64 0),(.int .u8 0),(.int .u8 0),(.int .u8 0),(.int .u8 0)]):=y2r (i:=Tryd.t39) rfl rfl
theorem y1V : y2T Tryd.prog 39 6:=y2w (i:=Tryd.t39) rfl
theorem y1W : aggT Tryd.prog 39 6:=y4N (i:=Tryd.t39) Tryd.underlying39 rfl rfl
theorem y2b : y26 Tryd.prog 41 (.agg #[(.int .u8 0),(.int .i64 0),(.int .i64 0),(.slice none 0 0)]):=y2r (i:=Tryd.t41) rfl rfl
theorem y1X : y16 Tryd.prog 39 0 0:=yK (i:=Tryd.t3) Tryd.underlying39 rfl rfl (by decide) rfl
theorem y3h : y16 Tryd.prog 33 0 0:=yK (i:=Tryd.t5) Tryd.underlying33 rfl rfl (by decide) rfl
theorem yS : y3b Tryd.prog 5:=y2v Tryd.underlying5 rfl
theorem y1r : y16 Tryd.prog 33 1 1:=yK (i:=Tryd.t3) Tryd.underlying33 rfl rfl (by decide) rfl
theorem y23 : y16 Tryd.prog 33 2 2:=yK (i:=Tryd.t3) Tryd.underlying33 rfl rfl (by decide) rfl
theorem y3O : y16 Tryd.prog 33 3 3:=yK (i:=Tryd.t3) Tryd.underlying33 rfl rfl (by decide) rfl
theorem zeroT_73 : y26 Tryd.prog 73 (.agg #[(.int .i64 0),(.int .i64 0),(.int .i64 0)]):=y2r (i:=Tryd.t73) rfl rfl
theorem sizT_73 : y2T Tryd.prog 73 3:=y2w (i:=Tryd.t73) rfl
theorem arT_75 : arT Tryd.prog 75 74 26 1:=y59 Tryd.underlying75 (inf:=Tryd.t74) rfl rfl rfl
theorem oneT_74 : y3b Tryd.prog 74:=y2v Tryd.underlying74 rfl
theorem elT_74 : elT Tryd.prog 74 76 1 1:=⟨Tryd.underlying74,⟨Tryd.t76,_,rfl,rfl,rfl,rfl,rfl⟩,by decide⟩
theorem oneT_76 : y3b Tryd.prog 76:=y2v Tryd.underlying76 rfl
theorem arT_73 : arT Tryd.prog 73 3 3 1:=y59 Tryd.underlying73 (inf:=Tryd.t3) rfl rfl rfl
theorem y1Y : y2T Tryd.prog 41 4:=y2w (i:=Tryd.t41) rfl
theorem y2N : aggT Tryd.prog 41 4:=y4N (i:=Tryd.t41) Tryd.underlying41 rfl rfl
theorem y1j : y16 Tryd.prog 65 0 0:=yK (i:=Tryd.t39) Tryd.underlying65 rfl rfl (by decide) rfl
theorem y33 : y2T Tryd.prog 3 1:=y2w (i:=Tryd.t3) rfl
theorem arT_67 : arT Tryd.prog 67 66 26 1:=y59 Tryd.underlying67 (inf:=Tryd.t66) rfl rfl rfl
theorem y38 : y16 Tryd.prog 39 1 1:=yK (i:=Tryd.t3) Tryd.underlying39 rfl rfl (by decide) rfl
theorem yH : y16 Tryd.prog 65 1 6:=yK (i:=Tryd.t33) Tryd.underlying65 rfl rfl (by decide) rfl
theorem yI : y3b Tryd.prog 66:=y2v Tryd.underlying66 rfl
theorem y6m : y16 Tryd.prog 39 2 2:=yK (i:=Tryd.t34) Tryd.underlying39 rfl rfl (by decide) rfl
theorem arT_34 : arT Tryd.prog 34 5 4 1:=y59 Tryd.underlying34 (inf:=Tryd.t5) rfl rfl rfl
theorem y3P : y2T Tryd.prog 5 1:=y2w (i:=Tryd.t5) rfl
theorem y6n : y16 Tryd.prog 65 2 10:=yK (i:=Tryd.t35) Tryd.underlying65 rfl rfl (by decide) rfl
theorem y4R : y3b Tryd.prog 35:=y2v Tryd.underlying35 rfl
theorem y3i : y16 Tryd.prog 65 3 11:=yK (i:=Tryd.t41) Tryd.underlying65 rfl rfl (by decide) rfl
theorem y5m : y16 Tryd.prog 41 0 0:=yK (i:=Tryd.t5) Tryd.underlying41 rfl rfl (by decide) rfl
theorem eqT_39 : EqT Tryd.prog 39 e39:=⟨fun u v w=>by
 have i39_10000:=fun (w : World) (a b : Array Value)=>run_equalIn_agg (P:=Tryd.prog) w 9999 39 a b (by simp [Program.fieldsOf,Tryd.underlying39]) (by kernel_rfl)
 have i3_9999:=fun (w : World) (a b : Int)=>run_equalIn_int (P:=Tryd.prog) w 9998 3 .i64 .i64 a b Tryd.underlying3
 have i5_9998:=fun (w : World) (a b : Int)=>run_equalIn_int (P:=Tryd.prog) w 9997 5 .u8 .u8 a b Tryd.underlying5
 have i34_9999 : ∀ (w : World) (a0 a1 a2 a3 b0 b1 b2 b3 : Int),(Op.equalIn 9999 34 (.agg #[.int .u8 a0,.int .u8 a1,.int .u8 a2,.int .u8 a3]) (.agg #[.int .u8 b0,.int .u8 b1,.int .u8 b2,.int .u8 b3])).run Tryd.prog w = .ok (decide (a0 = b0 ∧ a1 = b1 ∧ a2 = b2 ∧ a3 = b3)) w:=fun w a0 a1 a2 a3 b0 b1 b2 b3=>by
  rw [show (9999 : Nat) = 9998 + 1 from rfl,Op.equalIn]
  simp [run_underlying Tryd.underlying34,part,i5_9998,List.range',Std.Legacy.Range.forIn_eq_forIn_range',Std.Legacy.Range.size]
  by_cases h0 : a0 = b0 <;> by_cases h1 : a1 = b1 <;> by_cases h2 : a2 = b2 <;> by_cases h3 : a3 = b3 <;> simp [h0,h1,h2,h3]
 rw [i39_10000]
 simp [Program.fieldsOf,Op.eqFields,part,e39,i39_10000,Tryd.underlying39,i3_9999,i5_9998,i34_9999]
 rcases u with ⟨u1,u2,⟨u3,u4,u5,u6⟩⟩
 rcases v with ⟨v1,v2,⟨v3,v4,v5,v6⟩⟩
 by_cases h1 : u1 = v1 <;> by_cases h2 : u2 = v2 <;> by_cases h3 : u3 = v3 <;> by_cases h4 : u4 = v4 <;> by_cases h5 : u5 = v5 <;> by_cases h6 : u6 = v6 <;> simp [h1,h2,h3,h4,h5,h6],by kernel_rfl⟩
theorem y2O : y3b Tryd.prog 22:=y2v Tryd.underlying22 rfl
theorem y3p : KeyT Tryd.prog 3 (Value.int .i64):=keyT_int Tryd.underlying3
theorem zeroT_54 : y26 Tryd.prog 54 (.map none):=y2r (i:=Tryd.t54) rfl rfl
theorem sizT_54 : y2T Tryd.prog 54 1:=y2w (i:=Tryd.t54) rfl
theorem zeroT_55 : y26 Tryd.prog 55 .nilFunc:=y2r (i:=Tryd.t55) rfl rfl
theorem sizT_55 : y2T Tryd.prog 55 1:=y2w (i:=Tryd.t55) rfl
theorem y6o : y3b Tryd.prog 55:=y2v Tryd.underlying55 rfl
theorem y3j : y3b Tryd.prog 54:=y2v Tryd.underlying54 rfl
theorem y4S : y26 Tryd.prog 3 (.int .i64 0):=y2r (i:=Tryd.t3) rfl rfl
theorem y6p : y16 Tryd.prog 41 1 1:=yK (i:=Tryd.t3) Tryd.underlying41 rfl rfl (by decide) rfl
theorem y6q : y16 Tryd.prog 41 2 2:=yK (i:=Tryd.t3) Tryd.underlying41 rfl rfl (by decide) rfl
theorem y6r : y16 Tryd.prog 41 3 3:=yK (i:=Tryd.t35) Tryd.underlying41 rfl rfl (by decide) rfl
theorem y5n : aggT Tryd.prog 34 4:=y4N (i:=Tryd.t34) Tryd.underlying34 rfl rfl
theorem eqT_34 : EqT Tryd.prog 34 e34:=⟨fun u v w=>by
 have i5_9999:=fun (w : World) (a b : Int)=>run_equalIn_int (P:=Tryd.prog) w 9998 5 .u8 .u8 a b Tryd.underlying5
 have i34_10000 : ∀ (w : World) (a0 a1 a2 a3 b0 b1 b2 b3 : Int),(Op.equalIn 10000 34 (.agg #[.int .u8 a0,.int .u8 a1,.int .u8 a2,.int .u8 a3]) (.agg #[.int .u8 b0,.int .u8 b1,.int .u8 b2,.int .u8 b3])).run Tryd.prog w = .ok (decide (a0 = b0 ∧ a1 = b1 ∧ a2 = b2 ∧ a3 = b3)) w:=fun w a0 a1 a2 a3 b0 b1 b2 b3=>by
  rw [show (10000 : Nat) = 9999 + 1 from rfl,Op.equalIn]
  simp [run_underlying Tryd.underlying34,part,i5_9999,List.range',Std.Legacy.Range.forIn_eq_forIn_range',Std.Legacy.Range.size]
  by_cases h0 : a0 = b0 <;> by_cases h1 : a1 = b1 <;> by_cases h2 : a2 = b2 <;> by_cases h3 : a3 = b3 <;> simp [h0,h1,h2,h3]
 refine (i34_10000 w _ _ _ _ _ _ _ _).trans ?_
 rcases u with ⟨u1,u2,u3,u4⟩
 rcases v with ⟨v1,v2,v3,v4⟩
 by_cases h1 : u1 = v1 <;> by_cases h2 : u2 = v2 <;> by_cases h3 : u3 = v3 <;> by_cases h4 : u4 = v4 <;> simp [h1,h2,h3,h4],by kernel_rfl⟩
def y24 (l : List Int) : Option (List Int):=chk (0 < l.length ∧ l.length < 4611686018427387904) (some (y3z l))
theorem y5E (Z : Zp) (ao : Option Addr) (cap : Nat) (l : List Int) (r : List Int) (w₀ : World) (hz : PZ (fps [row (.slice ao l.length cap) 3 1 (l.flatMap e3)]) w₀ Z)
  (h : y24 l = some r) (hown : Hp (fps [row (.slice ao l.length cap) 3 1 (l.flatMap e3)]) w₀ w₀ [row (.slice ao l.length cap) 3 1 (l.flatMap e3)]) :
  Calls Tryd.prog 34 #[.slice ao l.length cap] w₀ fun e w'=>e = .returned (.tuple #[]) ∧ (r.length = l.length) ∧ Hp (fps [row (.slice ao l.length cap) 3 1 (l.flatMap e3)]) w₀ w' [row (.slice ao r.length cap) 3 1 (r.flatMap e3)]:=by
 obtain ⟨h0,h⟩:=ya h
 exact sort_int (fun _=>rfl) Tryd.slices_Sort_int ao cap l r w₀ h0 ((Option.some.inj h).symm.trans (y5S l).symm) hown
def yB (op_10 : Int) (l_11 : List Int) : Option Sapi_Ins :=
 chk ((((([] : List Int) ++ l_11).length : Nat) : Int) * 8 ≤ 140737488355328 ∧ (((([] : List Int) ++ l_11).length : Nat) : Int) ≤ 4611686018427387904) (chk (((((([] : List Int) ++ l_11) ++ ([0,0,0] : List Int)).length : Nat) : Int) * 8 ≤ 140737488355328 ∧ ((((([] : List Int) ++ l_11) ++ ([0,0,0] : List Int)).length : Nat) : Int) ≤ 4611686018427387904) (chk ((0 : Int) ≤ 0 ∧ 0 < ((((([] : List Int) ++ l_11) ++ ([0,0,0] : List Int)).length : Nat) : Int)) (chk ((0 : Int) ≤ 1 ∧ 1 < ((((([] : List Int) ++ l_11) ++ ([0,0,0] : List Int)).length : Nat) : Int)) (chk ((0 : Int) ≤ 2 ∧ 2 < ((((([] : List Int) ++ l_11) ++ ([0,0,0] : List Int)).length : Nat) : Int)) (some (⟨op_10,(nth ((([] : List Int) ++ l_11) ++ ([0,0,0] : List Int)) 0),(nth ((([] : List Int) ++ l_11) ++ ([0,0,0] : List Int)) 1),(nth ((([] : List Int) ++ l_11) ++ ([0,0,0] : List Int)) 2)⟩ : Sapi_Ins))))))
set_option maxRecDepth 20000 in
theorem y19 (Z : Zp) (ao_12 : Option Addr) (cap_13 : Nat) (op_10 : Int) (l_11 : List Int) (r : Sapi_Ins)
  (h : yB op_10 l_11 = some r) (w₀ : World) (hz : PZ [] w₀ Z)
  (hs_14 : ZS Z 1 (fun r x=>r = e3 x) ao_12 cap_13 l_11) :
  Calls Tryd.prog 17 #[(.int .u8 op_10),(.slice ao_12 l_11.length cap_13)] w₀ fun e w'=>e = .returned (.agg #[(.int .u8 r.fOp),(.int .i64 r.fA),(.int .i64 r.fB),(.int .i64 r.fC)]) ∧ Hp [] w₀ w' []:=by
 unfold yB at h
 refine Calls.y9 (vs:=[(.int .u8 op_10),(.slice ao_12 l_11.length cap_13)]) (pre:=[]) (env:=[(0,(.int .u8 op_10)),(1,(.slice ao_12 l_11.length cap_13))]) Tryd.func17 rfl Tryd.ntmps17 rfl (Hp.nil w₀ _) rfl ?_
 refine WC.b (WC.a ?_)
 refine WL.new (dd:=4) rfl rfl rfl (yw (cs:=[(.int .u8 0),(.int .i64 0),(.int .i64 0),(.int .i64 0)]) y4e rfl) ?_
 intro b_39 _
 refine WL.nil (WX.a (WC.b ?_))
 obtain ⟨c_41,h⟩:=ya h
 obtain ⟨c_45,h⟩:=ya h
 refine WC.a ?_
 refine WL.new (dd:=5) rfl rfl rfl (yp (cs:=([] : List Int).flatMap e3) yC (Eos.parts (l:=[]) .nil []) (fun _=>by kernel_rfl) rfl (by unfold maxLen; omega)) ?_
 intro b_48 _
 refine WL.pu rfl ?_
 refine WL.eff (d:=7) rfl rfl rfl (y3y (enc:=e3) (l1:=([] : List Int)) (l2:=l_11) yC rfl rfl .here (fun _=>rfl) rfl rfl (news_z hz.pv hs_14) (y3M y5b _) c_41) ?_
 rintro ⟨ao_49,cap_50⟩ _
 refine WL.new (dd:=8) rfl rfl rfl (yp (cs:=([0,0,0] : List Int).flatMap e3) yC (Eos.parts (l:=[.const (.int .i64 0),.const (.int .i64 0),.const (.int .i64 0)]) (.cons rfl (.cons rfl (.cons rfl .nil))) [0,1,2]) (fun _=>by kernel_rfl) rfl (by unfold maxLen; omega)) ?_
 intro b_51 _
 refine WL.eff (d:=9) rfl rfl rfl (y3y (enc:=e3) (l1:=([] : List Int) ++ l_11) (l2:=([0,0,0] : List Int)) yC rfl rfl .h1 (fun _=>rfl) rfl rfl (y4X .here) (y3M y5b _) c_45) ?_
 rintro ⟨ao_52,cap_53⟩ _
 refine WL.pu rfl (WL.nil (WX.a (WC.b ?_)))
 obtain ⟨c_54,h⟩:=ya h
 obtain ⟨c_56,h⟩:=ya h
 obtain ⟨c_57,h⟩:=ya h
 refine WC.y1n (fun i=>[11].contains i) [] rfl ?_
 refine WD.a (i:=0) (d:=10) (by kernel_rfl) rfl z7 z8 rfl rfl rfl (fun _=>q_m rfl) ?_
 refine WD.a (i:=1) (d:=11) (by kernel_rfl) rfl z7 z8 rfl rfl rfl (fun _=>q_m rfl) ?_
 refine WD.know (fun w hw=>Hp.y4B .here hw (by intro hz'; have:=c_54; rw [hz'] at this; omega)) ?_
 rintro ⟨b_59,rfl⟩
 refine WD.a (i:=2) (d:=12) (by kernel_rfl) rfl z7 z8 rfl rfl rfl (fun _=>yL yC rfl rfl c_54.1 c_54.2 y30) ?_
 refine WD.e (i:=3) (d:=13) (by kernel_rfl) rfl z7 z8 rfl rfl rfl (y6 yg rfl (y2V .here ((y2y (enc:=e3) (l:=(([] : List Int) ++ l_11) ++ ([0,0,0] : List Int)) (i:=0) (sz:=1) (fun _=>rfl) c_54.1 c_54.2) 0 _ rfl))) ?_
 refine WD.a (i:=4) (d:=14) (by kernel_rfl) rfl z7 z8 rfl rfl rfl (fun _=>q_m rfl) ?_
 refine WD.a (i:=5) (d:=15) (by kernel_rfl) rfl z7 z8 rfl rfl rfl (fun _=>yL yC rfl rfl c_56.1 c_56.2 y30) ?_
 refine WD.e (i:=6) (d:=16) (by kernel_rfl) rfl z7 z8 rfl rfl rfl (y6 yg rfl (y2V .here ((y2y (enc:=e3) (l:=(([] : List Int) ++ l_11) ++ ([0,0,0] : List Int)) (i:=1) (sz:=1) (fun _=>rfl) c_56.1 c_56.2) 0 _ rfl))) ?_
 refine WD.a (i:=7) (d:=17) (by kernel_rfl) rfl z7 z8 rfl rfl rfl (fun _=>q_m rfl) ?_
 refine WD.a (i:=8) (d:=18) (by kernel_rfl) rfl z7 z8 rfl rfl rfl (fun _=>yL yC rfl rfl c_57.1 c_57.2 y30) ?_
 refine WD.e (i:=9) (d:=19) (by kernel_rfl) rfl z7 z8 rfl rfl rfl (y6 yg rfl (y2V .here ((y2y (enc:=e3) (l:=(([] : List Int) ++ l_11) ++ ([0,0,0] : List Int)) (i:=2) (sz:=1) (fun _=>rfl) c_57.1 c_57.2) 0 _ rfl))) ?_
 refine WD.a (i:=10) (d:=20) (by kernel_rfl) rfl z7 z8 rfl rfl rfl (fun _=>yX (v:=(.agg #[(.int .u8 op_10),(.int .i64 (nth ((([] : List Int) ++ l_11) ++ ([0,0,0] : List Int)) 0)),(.int .i64 (nth ((([] : List Int) ++ l_11) ++ ([0,0,0] : List Int)) 1)),(.int .i64 (nth ((([] : List Int) ++ l_11) ++ ([0,0,0] : List Int)) 2))])) (Eos.parts (l:=[.tmp 10,.tmp 13,.tmp 16,.tmp 19]) (.cons rfl (.cons rfl (.cons rfl (.cons rfl .nil)))) [0,1,2,3]) (fun _=>by kernel_rfl)) ?_
 refine WD.y2q (i:=11) rfl (by kernel_rfl) rfl rfl rfl (by kernel_rfl) (yu y3N rfl rfl rfl .h2 rfl rfl rfl) ?_
 refine WD.done (by kernel_rfl) ?_
 refine WX.a (WC.ret ?_)
 obtain rfl:=Option.some.inj h
 refine WX.yf Tryd.results17 (.agg rfl y2M rfl (yR .here) .nil) (fun w hw=>?_)
 exact ⟨y17 rfl,hw.sub .nil⟩
def y1l (z2r : Int) (z2s : Int) (z4Z : Int) : Option Bool :=
 jp2 (fun (z3d : Int) (z3e : Int)=>some ((decide (z2s ≥ z3d)) && (decide (z2s ≤ z3e)))) fun z2W=>if decide (z2r = 1) then z2W 1 2000 else if decide (z2r = 2) then z2W 0 3 else if decide (z2r = 3) then z2W 0 255 else if decide (z2r = 4) then z2W 0 4095 else if decide (z2r = 5) then z2W 1 64 else if decide (z2r = 6) then z2W 0 z2s else if decide (z2r = 7) then z2W 0 (i64 (z4Z - 1)) else z2W 0 0
set_option maxRecDepth 20000 in
theorem y4t (Z : Zp)  (z2r : Int) (z2s : Int) (z4Z : Int) (r : Bool)
  (h : y1l z2r z2s z4Z = some r) (w₀ : World) (hz : PZ [] w₀ Z) :
  Calls Tryd.prog 43 #[(.int .u8 z2r),(.int .i64 z2s),(.int .i64 z4Z)] w₀ fun e w'=>e = .returned (.bool r) ∧ Hp [] w₀ w' []:=by
 unfold y1l at h
 refine Calls.y9 (vs:=[(.int .u8 z2r),(.int .i64 z2s),(.int .i64 z4Z)]) (pre:=[]) (env:=[(0,(.int .u8 z2r)),(1,(.int .i64 z2s)),(2,(.int .i64 z4Z))]) Tryd.func43 rfl Tryd.ntmps43 rfl (Hp.nil w₀ _) rfl ?_
 refine WC.b (WC.a (WL.pu rfl (WL.nil (WX.a (WC.b (WC.a (WL.pu rfl (WL.pu rfl (WL.nil (WX.a ?_))))))))))
 obtain ⟨z2W,zcN,h⟩:=y4b h
 refine WC.y3f (fun (z3d : Int) (z3e : Int)=>(z2W z3d z3e = some r)) (fun (z3d : Int) (z3e : Int)=>[(1,(.int .i64 z2s)),(7,(.int .i64 z3d)),(8,(.int .i64 z3e))]) (fun (z3d : Int) (z3e : Int)=>[]) ?_ ?_
 ·skip
  refine WC.b (WC.a (WL.pu rfl (WL.nil (WX.a (WC.block (WC.b (WC.a (WL.pu rfl (WL.pu rfl (WL.nil (WX.a ?_)))))))))))
  refine WC.cond rfl (fun z80=>?_) (fun z80=>?_)
  ·replace h:=yn h z80
   refine WC.a (WL.pu rfl (WL.pu rfl (WL.nil (WX.yi ?_))))
   exact WX.mid (G:=Int × Int) ⟨1,2000⟩ h (.cons rfl (.cons rfl (.cons rfl .nil))) .nil
  ·replace h:=yo h z80
   refine WC.b (WC.a (WL.pu rfl (WL.pu rfl (WL.nil (WX.a ?_)))))
   refine WC.cond rfl (fun z81=>?_) (fun z81=>?_)
   ·replace h:=yn h z81
    refine WC.a (WL.pu rfl (WL.nil (WX.yi ?_)))
    exact WX.mid (G:=Int × Int) ⟨0,3⟩ h (.cons rfl (.cons rfl (.cons rfl .nil))) .nil
   ·replace h:=yo h z81
    refine WC.b (WC.a (WL.pu rfl (WL.pu rfl (WL.nil (WX.a ?_)))))
    refine WC.cond rfl (fun z82=>?_) (fun z82=>?_)
    ·replace h:=yn h z82
     refine WC.a (WL.pu rfl (WL.nil (WX.yi ?_)))
     exact WX.mid (G:=Int × Int) ⟨0,255⟩ h (.cons rfl (.cons rfl (.cons rfl .nil))) .nil
    ·replace h:=yo h z82
     refine WC.b (WC.a (WL.pu rfl (WL.pu rfl (WL.nil (WX.a ?_)))))
     refine WC.cond rfl (fun z83=>?_) (fun z83=>?_)
     ·replace h:=yn h z83
      refine WC.a (WL.pu rfl (WL.nil (WX.yi ?_)))
      exact WX.mid (G:=Int × Int) ⟨0,4095⟩ h (.cons rfl (.cons rfl (.cons rfl .nil))) .nil
     ·replace h:=yo h z83
      refine WC.b (WC.a (WL.pu rfl (WL.pu rfl (WL.nil (WX.a ?_)))))
      refine WC.cond rfl (fun z84=>?_) (fun z84=>?_)
      ·replace h:=yn h z84
       refine WC.a (WL.pu rfl (WL.pu rfl (WL.nil (WX.yi ?_))))
       exact WX.mid (G:=Int × Int) ⟨1,64⟩ h (.cons rfl (.cons rfl (.cons rfl .nil))) .nil
      ·replace h:=yo h z84
       refine WC.b (WC.a (WL.pu rfl (WL.pu rfl (WL.nil (WX.a ?_)))))
       refine WC.cond rfl (fun z85=>?_) (fun z85=>?_)
       ·replace h:=yn h z85
        refine WC.a (WL.pu rfl (WL.pu rfl (WL.nil (WX.yi ?_))))
        exact WX.mid (G:=Int × Int) ⟨0,z2s⟩ h (.cons rfl (.cons rfl (.cons rfl .nil))) .nil
       ·replace h:=yo h z85
        refine WC.b (WC.a (WL.pu rfl (WL.pu rfl (WL.nil (WX.a ?_)))))
        refine WC.cond rfl (fun z86=>?_) (fun z86=>?_)
        ·replace h:=yn h z86
         refine WC.a (WL.pu rfl (WL.pu rfl (WL.pu rfl (WL.nil (WX.yi ?_)))))
         exact WX.mid (G:=Int × Int) ⟨0,(i64 (z4Z - 1))⟩ h (.cons rfl (.cons rfl (.cons rfl .nil))) .nil
        ·replace h:=yo h z86
         refine WC.skip (WX.yi ?_)
         exact WX.mid (G:=Int × Int) ⟨0,0⟩ h (.cons rfl (.cons rfl (.cons rfl .nil))) .nil
 ·rintro z3d z3e h
  replace h:=(zcN z3d z3e).symm.trans h
  refine WC.b (WC.a (WL.pu rfl (WL.pu rfl (WL.pu rfl (WL.pu rfl ?_)))))
  refine WL.seg true 3 30 (B:=(decide (z2s ≥ z3d)) && (decide (z2s ≤ z3e))) rfl rfl rfl rfl rfl rfl (fun h=>(y2W h).symm) (fun _ zcO=>?_) ?_
  ·skip
   refine WL.pu rfl (WL.pu rfl (WL.pu rfl (WL.pu rfl ?_)))
   exact WL.yv (y2X zcO) rfl rfl .all
  refine WL.pu rfl (WL.nil (WX.a (WC.ret ?_)))
  obtain rfl:=Option.some.inj h
  refine WX.yf Tryd.results43 (.tmp rfl .nil) (fun w hw=>?_)
  exact ⟨y17 rfl,hw.sub .nil⟩
def yQ (zL : Sapi_Ins) (z2n : Int) (z3f : Option Bool) : Nat → Int → Option Bool
 | 0,_=>none
 | z87 + 1,z1Y=>if decide (z1Y < (((nth yP zL.fOp).length : Nat) : Int)) then chk ((0 : Int) ≤ z1Y ∧ z1Y < (((nth yP zL.fOp).length : Nat) : Int)) (chk ((0 : Int) ≤ z1Y ∧ z1Y < 3) ((y1l (nth (nth yP zL.fOp) z1Y) (nth ([zL.fA,zL.fB,zL.fC] : List Int) z1Y) z2n).bind fun z9D=>if !z9D then some false else yQ zL z2n z3f z87 (i64 (z1Y + 1)))) else z3f
theorem y4f {n : Nat} {zL : Sapi_Ins} {z2n : Int} {z3f : Option Bool} {z1Y : Int} {r : Bool} (h : yQ zL z2n z3f n z1Y = some r) : ∃ m,n = m + 1:=by
 cases n with
 | zero=>cases h
 | succ m=>exact ⟨m,rfl⟩
def y2d (zL : Sapi_Ins) (z2n : Int) : Option Bool :=
 if (decide (zL.fOp < 1)) || (decide (zL.fOp > 25)) then some false else jp0 (some true) fun z3f=>chk ((0 : Int) ≤ zL.fOp ∧ zL.fOp < 26) (yQ zL z2n z3f y1o 0)
set_option maxRecDepth 20000 in
theorem y4L (Z : Zp)  (zL : Sapi_Ins) (z2n : Int) (r : Bool)
  (h : y2d zL z2n = some r) (w₀ : World) (hz : PZ [] w₀ Z)
  (hG1 : ZS Z 1 (p74 Z) (some ⟨1,0,none⟩) 26 yP) :
  Calls Tryd.prog 32 #[(.agg #[(.int .u8 zL.fOp),(.int .i64 zL.fA),(.int .i64 zL.fB),(.int .i64 zL.fC)]),(.int .i64 z2n)] w₀ fun e w'=>e = .returned (.bool r) ∧ Hp [] w₀ w' []:=by
 unfold y2d at h
 refine Calls.y9 (vs:=[(.agg #[(.int .u8 zL.fOp),(.int .i64 zL.fA),(.int .i64 zL.fB),(.int .i64 zL.fC)]),(.int .i64 z2n)]) (pre:=[]) (env:=[(0,(.agg #[(.int .u8 zL.fOp),(.int .i64 zL.fA),(.int .i64 zL.fB),(.int .i64 zL.fC)])),(1,(.int .i64 z2n))]) Tryd.func32 rfl Tryd.ntmps32 rfl (Hp.nil w₀ _) rfl ?_
 refine WC.b (WC.a ?_)
 refine WL.new (dd:=2) rfl rfl rfl (y3e (cs:=[(.int .u8 zL.fOp),(.int .i64 zL.fA),(.int .i64 zL.fB),(.int .i64 zL.fC)]) rfl rfl) ?_
 intro zm0 _
 refine WL.pu rfl (WL.nil (WX.a (WC.b (WC.b (WC.a ?_)))))
 refine WL.a (d:=8) rfl rfl rfl (y4 y3h rfl rfl) ?_
 refine WL.a (d:=9) rfl rfl rfl (y6 yS rfl (yb .here rfl)) ?_
 refine WL.pu rfl (WL.pu rfl ?_)
 refine WL.seg false 3 11 (B:=(decide (zL.fOp < 1)) || (decide (zL.fOp > 25))) rfl rfl rfl rfl rfl rfl (fun h=>(or_l h).symm) (fun _ zcP=>?_) ?_
 ·skip
  refine WL.a (d:=12) rfl rfl rfl (y4 y3h rfl rfl) ?_
  refine WL.a (d:=13) rfl rfl rfl (y6 yS rfl (yb .here rfl)) ?_
  refine WL.pu rfl (WL.pu rfl ?_)
  exact WL.yv (or_r zcP) rfl rfl .all
 refine WL.nil (WX.a ?_)
 refine WC.cond rfl (fun z88=>?_) (fun z88=>?_)
 ·replace h:=yn h z88
  refine WC.b (WC.a (WL.pu rfl (WL.nil (WX.a (WC.ret (WX.yd ?_))))))
  obtain rfl:=Option.some.inj h
  refine WX.yf Tryd.results32 (.tmp rfl .nil) (fun w hw=>?_)
  exact ⟨y17 rfl,hw.sub .nil⟩
 ·replace h:=yo h z88
  refine WC.skip (WX.a (WC.b (WC.a ?_)))
  refine WL.a (d:=16) rfl rfl rfl (y4 y1r rfl rfl) ?_
  refine WL.a (d:=17) rfl rfl rfl (y6 yg rfl (yb .here rfl)) ?_
  refine WL.a (d:=18) rfl rfl rfl (y4 y23 rfl rfl) ?_
  refine WL.a (d:=19) rfl rfl rfl (y6 yg rfl (yb .here rfl)) ?_
  refine WL.a (d:=20) rfl rfl rfl (y4 y3O rfl rfl) ?_
  refine WL.a (d:=21) rfl rfl rfl (y6 yg rfl (yb .here rfl)) ?_
  refine WL.a (d:=22) rfl rfl rfl (yX (v:=(.agg #[(.int .i64 zL.fA),(.int .i64 zL.fB),(.int .i64 zL.fC)])) (Eos.parts (l:=[.tmp 17,.tmp 19,.tmp 21]) (.cons rfl (.cons rfl (.cons rfl .nil))) [0,1,2]) (fun _=>by kernel_rfl)) ?_
  refine WL.new (dd:=5) rfl rfl rfl (yw (cs:=[(.int .i64 0),(.int .i64 0),(.int .i64 0)]) zeroT_73 rfl) ?_
  intro z9E _
  refine WL.yk rfl rfl (yu sizT_73 rfl rfl rfl .here rfl rfl rfl) ?_
  refine WL.nil (WX.a ?_)
  obtain ⟨z3f,zcQ,h⟩:=y3n h
  refine WC.y2Y ((z3f = some r)) ([]) ([]) ?_ ?_
  ·skip
   refine WC.b ?_
   obtain ⟨zcR,h⟩:=ya h
   refine WC.a ?_
   refine WL.a (d:=23) rfl rfl rfl (y4 y3h rfl rfl) ?_
   refine WL.a (d:=24) rfl rfl rfl (y6 yS rfl (yb .h1 rfl)) ?_
   refine WL.gnth (dd:=25) rfl rfl (ls:=yP) (Z:=Z) (Pr:=(p74 Z)) arT_75 rfl rfl hG1 zcR ?_
   rintro zm1 zm2 zcS zm3 ⟨zcT,zcU,rfl,zcV⟩
   refine WL.a (d:=26) rfl rfl rfl (y6 oneT_74 rfl (y2H hz.pv zcS rfl)) ?_
   refine WL.a (d:=27) rfl rfl rfl (y27 Tryd.underlying74 rfl) ?_
   refine WL.pu rfl (WL.nil (WX.a (WC.block ?_)))
   refine WC.y48 (fun (z5u : Nat) (z1Y : Int)=>(yQ zL z2n z3f z5u z1Y = some r)) (fun (z5u : Nat) (z1Y : Int)=>[(1,(.int .i64 z2n)),(5,(.pointer (some ⟨z9E,0,none⟩))),(26,(.slice zcT ((nth yP zL.fOp).length) zcU)),(27,(.int .i64 (((nth yP zL.fOp).length : Nat) : Int))),(28,(.int .i64 z1Y))]) (fun (z5u : Nat) (z1Y : Int)=>[stb z9E 73 [(.int .i64 zL.fA),(.int .i64 zL.fB),(.int .i64 zL.fC)]]) (fun (z5u : Nat) (z1Y : Int)=>z5u) ⟨y1o,0⟩ h (.cons rfl (.cons rfl (.cons rfl (.cons rfl (.cons rfl .nil))))) (.cons .here .nil) ?_
   rintro z5u z1Y h
   obtain ⟨z87,rfl⟩:=y4f h
   rw [yQ] at h
   refine WC.b (WC.a (WL.pu rfl (WL.nil (WX.a (WC.b ?_)))))
   refine WC.cond rfl (fun z89=>?_) (fun z89=>?_)
   ·replace h:=yn h z89
    refine WC.skip (WX.a (WC.b (WC.block (WC.b ?_))))
    obtain ⟨zcW,h⟩:=ya h
    refine WC.a (WL.pu rfl ?_)
    refine WL.znth (dd:=31) rfl rfl (Z:=Z) (Pr:=(fun r x=>r = e76 x)) elT_74 rfl rfl zcV zcW ?_
    rintro zm4 zm5 zcX zm6 rfl
    refine WL.a (d:=32) rfl rfl rfl (y6 oneT_76 rfl (y2H hz.pv zcX rfl)) ?_
    refine WL.pu rfl (WL.pu rfl (WL.nil (WX.a (WC.b ?_))))
    obtain ⟨z9F,h⟩:=ya h
    obtain ⟨z9D,zcY,h⟩:=zh h
    refine WC.a (WL.pu rfl (WL.pu rfl ?_))
    refine WL.a (d:=35) rfl rfl rfl (y3A arT_73 rfl rfl z9F y6U) ?_
    refine WL.a (d:=36) rfl rfl rfl (y6 yg rfl (y20 (l:=([zL.fA,zL.fB,zL.fC] : List Int)) (f:=Value.int .i64) (k:=0) (m:=3) .here rfl rfl z9F)) ?_
    refine WL.pu rfl ?_
    refine WL.b (dd:=38) rfl rfl rfl (zI (l:=[.tmp 33,.tmp 36,.tmp 37]) Tryd.call43 (.cons rfl (.cons rfl (.cons rfl .nil)))) .nil (cc hz .nil fun w pz ho=>y4t _ _ _ _ _ zcY w pz ) ?_
    refine WL.pu rfl (WL.nil (WX.a ?_))
    refine WC.cond rfl (fun z8a=>?_) (fun z8a=>?_)
    ·replace h:=yn h z8a
     refine WC.b (WC.a (WL.pu rfl (WL.nil (WX.a (WC.ret (WX.yD (WX.yd (WX.yd (WX.yD (WX.yd ?_))))))))))
     obtain rfl:=Option.some.inj h
     refine WX.yf Tryd.results32 (.tmp rfl .nil) (fun w hw=>?_)
     exact ⟨y17 rfl,hw.sub .nil⟩
    ·replace h:=yo h z8a
     refine WC.skip (WX.yi (WX.a (WC.a (WL.pu rfl (WL.pu rfl (WL.nil ?_))))))
     exact WX.round (G:=Nat × Int) ⟨z87,(i64 (z1Y + 1))⟩ h (Nat.lt_succ_self _) (.cons rfl (.cons rfl (.cons rfl (.cons rfl (.cons rfl .nil))))) (.cons .here .nil)
   ·replace h:=yo h z89
    refine WC.exit (WX.yA (WX.yA (WX.y1s ?_)))
    exact WX.mid (G:=Unit) () h .nil .nil
  ·rintro  h
   replace h:=zcQ.symm.trans h
   refine WC.b (WC.a (WL.pu rfl (WL.nil (WX.a (WC.ret ?_)))))
   obtain rfl:=Option.some.inj h
   refine WX.yf Tryd.results32 (.tmp rfl .nil) (fun w hw=>?_)
   exact ⟨y17 rfl,hw.sub .nil⟩
def y2P (z1S : List Sapi_Ins) (z1J : Int) : Option (Sapi_Ins × Bool) :=
 (if (decide (z1J < 0)) || (decide (z1J ≥ ((z1S.length : Nat) : Int))) then some true else chk ((0 : Int) ≤ z1J ∧ z1J < ((z1S.length : Nat) : Int)) ((y2d (⟨((nth z1S z1J).fOp),((nth z1S z1J).fA),((nth z1S z1J).fB),((nth z1S z1J).fC)⟩ : Sapi_Ins) ((z1S.length : Nat) : Int)).bind fun z9G=>some (!z9G))).bind fun z8b=>if z8b then some ((⟨0,0,0,0⟩ : Sapi_Ins),false) else chk ((0 : Int) ≤ z1J ∧ z1J < ((z1S.length : Nat) : Int)) (some ((⟨((nth z1S z1J).fOp),((nth z1S z1J).fA),((nth z1S z1J).fB),((nth z1S z1J).fC)⟩ : Sapi_Ins),true))
set_option maxRecDepth 20000 in
theorem y5u (Z : Zp) (z7u : Option Addr) (z7v : Nat) (z1S : List Sapi_Ins) (z1J : Int) (r : Sapi_Ins × Bool)
  (h : y2P z1S z1J = some r) (w₀ : World) (hz : PZ [] w₀ Z)
  (hG1 : ZS Z 1 (p74 Z) (some ⟨1,0,none⟩) 26 yP)
  (z9H : ZS Z 4 (fun r x=>r = e33 x) z7u z7v z1S) :
  Calls Tryd.prog 33 #[(.slice z7u z1S.length z7v),(.int .i64 z1J)] w₀ fun e w'=>e = .returned (.tuple #[(.agg #[(.int .u8 r.1.fOp),(.int .i64 r.1.fA),(.int .i64 r.1.fB),(.int .i64 r.1.fC)]),(.bool r.2)]) ∧ Hp [] w₀ w' []:=by
 unfold y2P at h
 refine Calls.y9 (vs:=[(.slice z7u z1S.length z7v),(.int .i64 z1J)]) (pre:=[]) (env:=[(0,(.slice z7u z1S.length z7v)),(1,(.int .i64 z1J))]) Tryd.func33 rfl Tryd.ntmps33 rfl (Hp.nil w₀ _) rfl ?_
 refine WC.b (WC.a ?_)
 refine WL.new (dd:=4) rfl rfl rfl (yw (cs:=[(.int .u8 0),(.int .i64 0),(.int .i64 0),(.int .i64 0)]) y4e rfl) ?_
 intro zm7 _
 refine WL.pu rfl (WL.nil (WX.a (WC.b (WC.b ?_))))
 obtain ⟨z8b,z9I,h⟩:=zh h
 refine WC.a (WL.pu rfl (WL.pu rfl (WL.pu rfl ?_)))
 refine WL.seg false 4 8 (B:=(decide (z1J < 0)) || (decide (z1J ≥ ((z1S.length : Nat) : Int)))) rfl rfl rfl rfl rfl rfl (fun h=>(or_l h).symm) (fun _ zcZ=>?_) ?_
 ·skip
  refine WL.pu rfl (WL.pu rfl ?_)
  refine WL.a (d:=11) rfl rfl rfl (y27 Tryd.underlying22 rfl) ?_
  refine WL.pu rfl (WL.pu rfl ?_)
  exact WL.yv (or_r zcZ) rfl rfl .all
 refine WL.pu rfl ?_
 refine WL.seg false 8 14 (B:=z8b) rfl rfl rfl rfl rfl rfl (fun h=>(Option.some.inj (yn z9I h)).symm) (fun _ zd0=>?_) ?_
 ·skip
  have z50:=yo z9I zd0
  obtain ⟨zd1,z50⟩:=ya z50
  obtain ⟨z9G,zd2,z50⟩:=zh z50
  replace z50:=Option.some.inj z50
  refine WL.pu rfl (WL.pu rfl ?_)
  refine WL.znth (dd:=17) rfl rfl (Z:=Z) (Pr:=(fun r x=>r = e33 x)) y2E rfl rfl z9H zd1 ?_
  rintro zm8 zm9 zd3 zma rfl
  refine WL.a (d:=18) rfl rfl rfl (yT y2M rfl (rd_zs hz.pv zd3) rfl) ?_
  refine WL.pu rfl ?_
  refine WL.a (d:=20) rfl rfl rfl (y27 Tryd.underlying22 rfl) ?_
  refine WL.b (dd:=21) rfl rfl rfl (zI (l:=[.tmp 18,.tmp 20]) Tryd.call32 (.cons rfl (.cons rfl .nil))) .nil (cc hz .nil fun w pz ho=>y4L _ _ _ _ zd2 w pz hG1) ?_
  refine WL.pu rfl (WL.pu rfl ?_)
  exact WL.yv z50 rfl rfl .all
 refine WL.nil (WX.a ?_)
 refine WC.cond rfl (fun z8c=>?_) (fun z8c=>?_)
 ·replace h:=yn h z8c
  refine WC.b (WC.a ?_)
  refine WL.a (d:=24) rfl rfl rfl (yX (v:=(.agg #[(.int .u8 0),(.int .i64 0),(.int .i64 0),(.int .i64 0)])) (Eos.parts (l:=[]) .nil []) (fun _=>by kernel_rfl)) ?_
  refine WL.yk rfl rfl (yu y3N rfl rfl rfl .here rfl rfl rfl) ?_
  refine WL.pu rfl (WL.nil (WX.a (WC.ret (WX.yd ?_))))
  obtain rfl:=Option.some.inj h
  refine WX.yf Tryd.results33 (.agg rfl y2M rfl (yR .here) (.tmp rfl .nil)) (fun w hw=>?_)
  exact ⟨ret2 rfl rfl,hw.sub .nil⟩
 ·replace h:=yo h z8c
  refine WC.skip (WX.a (WC.b ?_))
  obtain ⟨zd4,h⟩:=ya h
  refine WC.a (WL.pu rfl (WL.pu rfl ?_))
  refine WL.znth (dd:=27) rfl rfl (Z:=Z) (Pr:=(fun r x=>r = e33 x)) y2E rfl rfl z9H zd4 ?_
  rintro zmb zmc zd5 zmd rfl
  refine WL.a (d:=28) rfl rfl rfl (yT y2M rfl (rd_zs hz.pv zd5) rfl) ?_
  refine WL.yk rfl rfl (yu y3N rfl rfl rfl .here rfl rfl rfl) ?_
  refine WL.pu rfl (WL.nil (WX.a (WC.ret ?_)))
  obtain rfl:=Option.some.inj h
  refine WX.yf Tryd.results33 (.agg rfl y2M rfl (yR .here) (.tmp rfl .nil)) (fun w hw=>?_)
  exact ⟨ret2 rfl rfl,hw.sub .nil⟩
def y1B (zb : Sproc_execution) : Option Sproc_execution :=
 jp1 (fun (z2t : Int)=>if decide ((i64 (z2t - 1)) ≠ 0) then some (⟨(⟨i64 (zb.fState.fPc - 1),i64 (z2t - 1),zb.fState.fRegs⟩ : Sproc_State),zb.fX,zb.fMem,zb.fAct⟩ : Sproc_execution) else some (⟨(⟨zb.fState.fPc,i64 (z2t - 1),zb.fState.fRegs⟩ : Sproc_State),zb.fX,zb.fMem,zb.fAct⟩ : Sproc_execution)) fun z7w=>if decide (zb.fState.fLeft = 0) then z7w zb.fX.fA else z7w zb.fState.fLeft
set_option maxRecDepth 20000 in
theorem y3Q (Z : Zp) (z2O : Nat) (z2u : Option Addr) (z2v : Nat) (z2w : Option Addr) (z2x : Nat) (zb : Sproc_execution) (r : Sproc_execution)
  (h : y1B zb = some r) (w₀ : World) (hz : PZ (fps [stb z2O 65 [(.int .i64 zb.fState.fPc),(.int .i64 zb.fState.fLeft),(.int .u8 zb.fState.fRegs.a0),(.int .u8 zb.fState.fRegs.a1),(.int .u8 zb.fState.fRegs.a2),(.int .u8 zb.fState.fRegs.a3),(.int .u8 zb.fX.fOp),(.int .i64 zb.fX.fA),(.int .i64 zb.fX.fB),(.int .i64 zb.fX.fC),(.slice z2u zb.fMem.length z2v),(.int .u8 zb.fAct.fKind),(.int .i64 zb.fAct.fA),(.int .i64 zb.fAct.fB),(.slice z2w zb.fAct.fData.length z2x)]]) w₀ Z)
  (z9J : ZS Z 1 (fun r x=>r = e5 x) z2u z2v zb.fMem)
  (z9K : ZS Z 1 (fun r x=>r = e5 x) z2w z2x zb.fAct.fData)
  (hown : Hp (fps [stb z2O 65 [(.int .i64 zb.fState.fPc),(.int .i64 zb.fState.fLeft),(.int .u8 zb.fState.fRegs.a0),(.int .u8 zb.fState.fRegs.a1),(.int .u8 zb.fState.fRegs.a2),(.int .u8 zb.fState.fRegs.a3),(.int .u8 zb.fX.fOp),(.int .i64 zb.fX.fA),(.int .i64 zb.fX.fB),(.int .i64 zb.fX.fC),(.slice z2u zb.fMem.length z2v),(.int .u8 zb.fAct.fKind),(.int .i64 zb.fAct.fA),(.int .i64 zb.fAct.fB),(.slice z2w zb.fAct.fData.length z2x)]]) w₀ w₀ [stb z2O 65 [(.int .i64 zb.fState.fPc),(.int .i64 zb.fState.fLeft),(.int .u8 zb.fState.fRegs.a0),(.int .u8 zb.fState.fRegs.a1),(.int .u8 zb.fState.fRegs.a2),(.int .u8 zb.fState.fRegs.a3),(.int .u8 zb.fX.fOp),(.int .i64 zb.fX.fA),(.int .i64 zb.fX.fB),(.int .i64 zb.fX.fC),(.slice z2u zb.fMem.length z2v),(.int .u8 zb.fAct.fKind),(.int .i64 zb.fAct.fA),(.int .i64 zb.fAct.fB),(.slice z2w zb.fAct.fData.length z2x)]]) :
  Calls Tryd.prog 84 #[(.pointer (some ⟨z2O,0,none⟩))] w₀ fun e w'=>∃ z9L : Option Addr,∃ z9M : Nat,∃ z9N : Option Addr,∃ z9O : Nat,e = .returned (.tuple #[]) ∧ ((ZS Z 1 (fun r x=>r = e5 x) z9L z9M r.fMem) ∧ (ZS Z 1 (fun r x=>r = e5 x) z9N z9O r.fAct.fData)) ∧ Hp (fps [stb z2O 65 [(.int .i64 zb.fState.fPc),(.int .i64 zb.fState.fLeft),(.int .u8 zb.fState.fRegs.a0),(.int .u8 zb.fState.fRegs.a1),(.int .u8 zb.fState.fRegs.a2),(.int .u8 zb.fState.fRegs.a3),(.int .u8 zb.fX.fOp),(.int .i64 zb.fX.fA),(.int .i64 zb.fX.fB),(.int .i64 zb.fX.fC),(.slice z2u zb.fMem.length z2v),(.int .u8 zb.fAct.fKind),(.int .i64 zb.fAct.fA),(.int .i64 zb.fAct.fB),(.slice z2w zb.fAct.fData.length z2x)]]) w₀ w' [stb z2O 65 [(.int .i64 r.fState.fPc),(.int .i64 r.fState.fLeft),(.int .u8 r.fState.fRegs.a0),(.int .u8 r.fState.fRegs.a1),(.int .u8 r.fState.fRegs.a2),(.int .u8 r.fState.fRegs.a3),(.int .u8 r.fX.fOp),(.int .i64 r.fX.fA),(.int .i64 r.fX.fB),(.int .i64 r.fX.fC),(.slice z9L r.fMem.length z9M),(.int .u8 r.fAct.fKind),(.int .i64 r.fAct.fA),(.int .i64 r.fAct.fB),(.slice z9N r.fAct.fData.length z9O)]]:=by
 unfold y1B at h
 refine Calls.y9 (vs:=[(.pointer (some ⟨z2O,0,none⟩))]) (pre:=[stb z2O 65 [(.int .i64 zb.fState.fPc),(.int .i64 zb.fState.fLeft),(.int .u8 zb.fState.fRegs.a0),(.int .u8 zb.fState.fRegs.a1),(.int .u8 zb.fState.fRegs.a2),(.int .u8 zb.fState.fRegs.a3),(.int .u8 zb.fX.fOp),(.int .i64 zb.fX.fA),(.int .i64 zb.fX.fB),(.int .i64 zb.fX.fC),(.slice z2u zb.fMem.length z2v),(.int .u8 zb.fAct.fKind),(.int .i64 zb.fAct.fA),(.int .i64 zb.fAct.fB),(.slice z2w zb.fAct.fData.length z2x)]]) (env:=[(0,(.pointer (some ⟨z2O,0,none⟩)))]) Tryd.func84 rfl Tryd.ntmps84 rfl (hown) rfl ?_
 obtain ⟨z7w,zd6,h⟩:=y35 h
 refine WC.y2Z (fun (z2t : Int)=>(z7w z2t = some r)) (fun (z2t : Int)=>[(0,(.pointer (some ⟨z2O,0,none⟩)))]) (fun (z2t : Int)=>[stb z2O 65 [(.int .i64 zb.fState.fPc),(.int .i64 z2t),(.int .u8 zb.fState.fRegs.a0),(.int .u8 zb.fState.fRegs.a1),(.int .u8 zb.fState.fRegs.a2),(.int .u8 zb.fState.fRegs.a3),(.int .u8 zb.fX.fOp),(.int .i64 zb.fX.fA),(.int .i64 zb.fX.fB),(.int .i64 zb.fX.fC),(.slice z2u zb.fMem.length z2v),(.int .u8 zb.fAct.fKind),(.int .i64 zb.fAct.fA),(.int .i64 zb.fAct.fB),(.slice z2w zb.fAct.fData.length z2x)]]) ?_ ?_
 ·skip
  refine WC.b (WC.a (WL.pu rfl ?_))
  refine WL.a (d:=3) rfl rfl rfl (y7 rfl) ?_
  refine WL.a (d:=4) rfl rfl rfl (y4 y1j rfl rfl) ?_
  refine WL.a (d:=5) rfl rfl rfl (y4 y38 rfl rfl) ?_
  refine WL.a (d:=6) rfl rfl rfl (y6 yg rfl (yb .here rfl)) ?_
  refine WL.pu rfl (WL.nil (WX.a ?_))
  refine WC.cond rfl (fun z8d=>?_) (fun z8d=>?_)
  ·replace h:=yn h z8d
   refine WC.a (WL.pu rfl (WL.pu rfl ?_))
   refine WL.a (d:=10) rfl rfl rfl (y7 rfl) ?_
   refine WL.a (d:=11) rfl rfl rfl (y4 yH rfl rfl) ?_
   refine WL.a (d:=12) rfl rfl rfl (y4 y1r rfl rfl) ?_
   refine WL.a (d:=13) rfl rfl rfl (y6 yg rfl (yb .here rfl)) ?_
   refine WL.a (d:=14) rfl rfl rfl (y7 rfl) ?_
   refine WL.a (d:=15) rfl rfl rfl (y4 y1j rfl rfl) ?_
   refine WL.a (d:=16) rfl rfl rfl (y4 y38 rfl rfl) ?_
   refine WL.yk rfl rfl (y1p (ds:=[(.int .i64 zb.fState.fPc),(.int .i64 zb.fX.fA),(.int .u8 zb.fState.fRegs.a0),(.int .u8 zb.fState.fRegs.a1),(.int .u8 zb.fState.fRegs.a2),(.int .u8 zb.fState.fRegs.a3),(.int .u8 zb.fX.fOp),(.int .i64 zb.fX.fA),(.int .i64 zb.fX.fB),(.int .i64 zb.fX.fC),(.slice z2u zb.fMem.length z2v),(.int .u8 zb.fAct.fKind),(.int .i64 zb.fAct.fA),(.int .i64 zb.fAct.fB),(.slice z2w zb.fAct.fData.length z2x)]) y33 rfl rfl rfl rfl rfl .here rfl rfl) ?_
   refine WL.nil ?_
   exact WX.mid (G:=Int) zb.fX.fA h (.cons rfl .nil) (.cons .here .nil)
  ·replace h:=yo h z8d
   refine WC.skip ?_
   exact WX.mid (G:=Int) zb.fState.fLeft h (.cons rfl .nil) (.cons .here .nil)
 ·rintro z2t h
  replace h:=(zd6 z2t).symm.trans h
  refine WC.b (WC.a (WL.pu rfl ?_))
  refine WL.a (d:=18) rfl rfl rfl (y7 rfl) ?_
  refine WL.a (d:=19) rfl rfl rfl (y4 y1j rfl rfl) ?_
  refine WL.a (d:=20) rfl rfl rfl (y4 y38 rfl rfl) ?_
  refine WL.a (d:=21) rfl rfl rfl (y6 yg rfl (yb .here rfl)) ?_
  refine WL.pu rfl ?_
  refine WL.a (d:=23) rfl rfl rfl (y7 rfl) ?_
  refine WL.a (d:=24) rfl rfl rfl (y4 y1j rfl rfl) ?_
  refine WL.a (d:=25) rfl rfl rfl (y4 y38 rfl rfl) ?_
  refine WL.yk rfl rfl (y1p (ds:=[(.int .i64 zb.fState.fPc),(.int .i64 (i64 (z2t - 1))),(.int .u8 zb.fState.fRegs.a0),(.int .u8 zb.fState.fRegs.a1),(.int .u8 zb.fState.fRegs.a2),(.int .u8 zb.fState.fRegs.a3),(.int .u8 zb.fX.fOp),(.int .i64 zb.fX.fA),(.int .i64 zb.fX.fB),(.int .i64 zb.fX.fC),(.slice z2u zb.fMem.length z2v),(.int .u8 zb.fAct.fKind),(.int .i64 zb.fAct.fA),(.int .i64 zb.fAct.fB),(.slice z2w zb.fAct.fData.length z2x)]) y33 rfl rfl rfl rfl rfl .here rfl rfl) ?_
  refine WL.nil (WX.a (WC.b (WC.a (WL.pu rfl ?_))))
  refine WL.a (d:=27) rfl rfl rfl (y7 rfl) ?_
  refine WL.a (d:=28) rfl rfl rfl (y4 y1j rfl rfl) ?_
  refine WL.a (d:=29) rfl rfl rfl (y4 y38 rfl rfl) ?_
  refine WL.a (d:=30) rfl rfl rfl (y6 yg rfl (yb .here rfl)) ?_
  refine WL.pu rfl (WL.nil (WX.a ?_))
  refine WC.cond rfl (fun z8e=>?_) (fun z8e=>?_)
  ·replace h:=yn h z8e
   refine WC.a (WL.pu rfl ?_)
   refine WL.a (d:=33) rfl rfl rfl (y7 rfl) ?_
   refine WL.a (d:=34) rfl rfl rfl (y4 y1j rfl rfl) ?_
   refine WL.a (d:=35) rfl rfl rfl (y4 y1X rfl rfl) ?_
   refine WL.a (d:=36) rfl rfl rfl (y6 yg rfl (yb .here rfl)) ?_
   refine WL.pu rfl ?_
   refine WL.a (d:=38) rfl rfl rfl (y7 rfl) ?_
   refine WL.a (d:=39) rfl rfl rfl (y4 y1j rfl rfl) ?_
   refine WL.a (d:=40) rfl rfl rfl (y4 y1X rfl rfl) ?_
   refine WL.yk rfl rfl (y1p (ds:=[(.int .i64 (i64 (zb.fState.fPc - 1))),(.int .i64 (i64 (z2t - 1))),(.int .u8 zb.fState.fRegs.a0),(.int .u8 zb.fState.fRegs.a1),(.int .u8 zb.fState.fRegs.a2),(.int .u8 zb.fState.fRegs.a3),(.int .u8 zb.fX.fOp),(.int .i64 zb.fX.fA),(.int .i64 zb.fX.fB),(.int .i64 zb.fX.fC),(.slice z2u zb.fMem.length z2v),(.int .u8 zb.fAct.fKind),(.int .i64 zb.fAct.fA),(.int .i64 zb.fAct.fB),(.slice z2w zb.fAct.fData.length z2x)]) y33 rfl rfl rfl rfl rfl .here rfl rfl) ?_
   refine WL.nil ?_
   obtain rfl:=Option.some.inj h
   refine WX.ye Tryd.results84 .nil (fun w hw=>?_)
   exact ⟨z2u,z2v,z2w,z2x,y1b,⟨z9J,z9K⟩,hw.sub (.cons .here .nil)⟩
  ·replace h:=yo h z8e
   refine WC.skip ?_
   obtain rfl:=Option.some.inj h
   refine WX.ye Tryd.results84 .nil (fun w hw=>?_)
   exact ⟨z2u,z2v,z2w,z2x,y1b,⟨z9J,z9K⟩,hw.sub (.cons .here .nil)⟩
def yc (z1T : Sproc_execution) (z4b : Int) : Option Unit :=
 chk ((0 : Int) ≤ z4b ∧ z4b < 4) (some ())
set_option maxRecDepth 20000 in
theorem yh (Z : Zp) (z6W : Addr) (z9P : Option Addr) (z9Q : Nat) (z9R : Option Addr) (z9S : Nat) (z1T : Sproc_execution) (z4b : Int) (r : Unit)
  (h : yc z1T z4b = some r) (w₀ : World) (hz : PZ [] w₀ Z)
  (zme : ZS Z 1 (fun r x=>r = e5 x) z9P z9Q z1T.fMem)
  (zmf : ZS Z 1 (fun r x=>r = e5 x) z9R z9S z1T.fAct.fData)
  (zmg : ZC Z z6W [(.int .i64 z1T.fState.fPc),(.int .i64 z1T.fState.fLeft),(.int .u8 z1T.fState.fRegs.a0),(.int .u8 z1T.fState.fRegs.a1),(.int .u8 z1T.fState.fRegs.a2),(.int .u8 z1T.fState.fRegs.a3),(.int .u8 z1T.fX.fOp),(.int .i64 z1T.fX.fA),(.int .i64 z1T.fX.fB),(.int .i64 z1T.fX.fC),(.slice z9P z1T.fMem.length z9Q),(.int .u8 z1T.fAct.fKind),(.int .i64 z1T.fAct.fA),(.int .i64 z1T.fAct.fB),(.slice z9R z1T.fAct.fData.length z9S)]) :
  Calls Tryd.prog 108 #[(.pointer (some z6W)),(.int .i64 z4b)] w₀ fun e w'=>e = .returned (.pointer (some (Addr.add z6W (2 + (z4b : Int).toNat)))) ∧ Hp [] w₀ w' []:=by
 unfold yc at h
 refine Calls.y9 (vs:=[(.pointer (some z6W)),(.int .i64 z4b)]) (pre:=[]) (env:=[(0,(.pointer (some z6W))),(1,(.int .i64 z4b))]) Tryd.func108 rfl Tryd.ntmps108 rfl (Hp.nil w₀ _) rfl ?_
 refine WC.b (WC.a (WL.pu rfl (WL.nil (WX.a (WC.b ?_)))))
 obtain ⟨zd7,h⟩:=ya h
 refine WC.a (WL.pu rfl (WL.pu rfl ?_))
 refine WL.a (d:=7) rfl rfl rfl (y7 rfl) ?_
 refine WL.a (d:=8) rfl rfl rfl (y4 y1j rfl rfl) ?_
 refine WL.a (d:=9) rfl rfl rfl (y4 y6m rfl rfl) ?_
 refine WL.a (d:=10) rfl rfl rfl (y3A arT_34 rfl rfl zd7 add_z1) ?_
 refine WL.pu rfl (WL.nil (WX.a (WC.ret ?_)))
 skip
 refine WX.yf Tryd.results108 (.tmp rfl .nil) (fun w hw=>?_)
 exact ⟨y17 rfl,hw.sub .nil⟩
def y1P (za : Sproc_execution) : Option Sproc_execution :=
 (yc za za.fX.fA).bind fun zd8=>chk ((0 : Int) ≤ za.fX.fA ∧ za.fX.fA < 4) (some (⟨(⟨za.fState.fPc,za.fState.fLeft,(⟨nth (([za.fState.fRegs.a0,za.fState.fRegs.a1,za.fState.fRegs.a2,za.fState.fRegs.a3] : List Int).set (za.fX.fA : Int).toNat (u8 za.fX.fB)) 0,nth (([za.fState.fRegs.a0,za.fState.fRegs.a1,za.fState.fRegs.a2,za.fState.fRegs.a3] : List Int).set (za.fX.fA : Int).toNat (u8 za.fX.fB)) 1,nth (([za.fState.fRegs.a0,za.fState.fRegs.a1,za.fState.fRegs.a2,za.fState.fRegs.a3] : List Int).set (za.fX.fA : Int).toNat (u8 za.fX.fB)) 2,nth (([za.fState.fRegs.a0,za.fState.fRegs.a1,za.fState.fRegs.a2,za.fState.fRegs.a3] : List Int).set (za.fX.fA : Int).toNat (u8 za.fX.fB)) 3⟩ : S34)⟩ : Sproc_State),za.fX,za.fMem,za.fAct⟩ : Sproc_execution))
set_option maxRecDepth 20000 in
theorem y4g (Z : Zp) (z3g : Nat) (z4c : Option Addr) (z4d : Nat) (z4e : Option Addr) (z4f : Nat) (za : Sproc_execution) (r : Sproc_execution)
  (h : y1P za = some r) (w₀ : World) (hz : PZ (fps [stb z3g 65 [(.int .i64 za.fState.fPc),(.int .i64 za.fState.fLeft),(.int .u8 za.fState.fRegs.a0),(.int .u8 za.fState.fRegs.a1),(.int .u8 za.fState.fRegs.a2),(.int .u8 za.fState.fRegs.a3),(.int .u8 za.fX.fOp),(.int .i64 za.fX.fA),(.int .i64 za.fX.fB),(.int .i64 za.fX.fC),(.slice z4c za.fMem.length z4d),(.int .u8 za.fAct.fKind),(.int .i64 za.fAct.fA),(.int .i64 za.fAct.fB),(.slice z4e za.fAct.fData.length z4f)]]) w₀ Z)
  (z9T : ZS Z 1 (fun r x=>r = e5 x) z4c z4d za.fMem)
  (z9U : ZS Z 1 (fun r x=>r = e5 x) z4e z4f za.fAct.fData)
  (hown : Hp (fps [stb z3g 65 [(.int .i64 za.fState.fPc),(.int .i64 za.fState.fLeft),(.int .u8 za.fState.fRegs.a0),(.int .u8 za.fState.fRegs.a1),(.int .u8 za.fState.fRegs.a2),(.int .u8 za.fState.fRegs.a3),(.int .u8 za.fX.fOp),(.int .i64 za.fX.fA),(.int .i64 za.fX.fB),(.int .i64 za.fX.fC),(.slice z4c za.fMem.length z4d),(.int .u8 za.fAct.fKind),(.int .i64 za.fAct.fA),(.int .i64 za.fAct.fB),(.slice z4e za.fAct.fData.length z4f)]]) w₀ w₀ [stb z3g 65 [(.int .i64 za.fState.fPc),(.int .i64 za.fState.fLeft),(.int .u8 za.fState.fRegs.a0),(.int .u8 za.fState.fRegs.a1),(.int .u8 za.fState.fRegs.a2),(.int .u8 za.fState.fRegs.a3),(.int .u8 za.fX.fOp),(.int .i64 za.fX.fA),(.int .i64 za.fX.fB),(.int .i64 za.fX.fC),(.slice z4c za.fMem.length z4d),(.int .u8 za.fAct.fKind),(.int .i64 za.fAct.fA),(.int .i64 za.fAct.fB),(.slice z4e za.fAct.fData.length z4f)]]) :
  Calls Tryd.prog 85 #[(.pointer (some ⟨z3g,0,none⟩))] w₀ fun e w'=>∃ z9V : Option Addr,∃ z9W : Nat,∃ z9X : Option Addr,∃ z9Y : Nat,e = .returned (.tuple #[]) ∧ ((ZS Z 1 (fun r x=>r = e5 x) z9V z9W r.fMem) ∧ (ZS Z 1 (fun r x=>r = e5 x) z9X z9Y r.fAct.fData)) ∧ Hp (fps [stb z3g 65 [(.int .i64 za.fState.fPc),(.int .i64 za.fState.fLeft),(.int .u8 za.fState.fRegs.a0),(.int .u8 za.fState.fRegs.a1),(.int .u8 za.fState.fRegs.a2),(.int .u8 za.fState.fRegs.a3),(.int .u8 za.fX.fOp),(.int .i64 za.fX.fA),(.int .i64 za.fX.fB),(.int .i64 za.fX.fC),(.slice z4c za.fMem.length z4d),(.int .u8 za.fAct.fKind),(.int .i64 za.fAct.fA),(.int .i64 za.fAct.fB),(.slice z4e za.fAct.fData.length z4f)]]) w₀ w' [stb z3g 65 [(.int .i64 r.fState.fPc),(.int .i64 r.fState.fLeft),(.int .u8 r.fState.fRegs.a0),(.int .u8 r.fState.fRegs.a1),(.int .u8 r.fState.fRegs.a2),(.int .u8 r.fState.fRegs.a3),(.int .u8 r.fX.fOp),(.int .i64 r.fX.fA),(.int .i64 r.fX.fB),(.int .i64 r.fX.fC),(.slice z9V r.fMem.length z9W),(.int .u8 r.fAct.fKind),(.int .i64 r.fAct.fA),(.int .i64 r.fAct.fB),(.slice z9X r.fAct.fData.length z9Y)]]:=by
 unfold y1P at h
 refine Calls.y9 (vs:=[(.pointer (some ⟨z3g,0,none⟩))]) (pre:=[stb z3g 65 [(.int .i64 za.fState.fPc),(.int .i64 za.fState.fLeft),(.int .u8 za.fState.fRegs.a0),(.int .u8 za.fState.fRegs.a1),(.int .u8 za.fState.fRegs.a2),(.int .u8 za.fState.fRegs.a3),(.int .u8 za.fX.fOp),(.int .i64 za.fX.fA),(.int .i64 za.fX.fB),(.int .i64 za.fX.fC),(.slice z4c za.fMem.length z4d),(.int .u8 za.fAct.fKind),(.int .i64 za.fAct.fA),(.int .i64 za.fAct.fB),(.slice z4e za.fAct.fData.length z4f)]]) (env:=[(0,(.pointer (some ⟨z3g,0,none⟩)))]) Tryd.func85 rfl Tryd.ntmps85 rfl (hown) rfl ?_
 obtain ⟨zd8,zd9,h⟩:=zh h
 obtain ⟨zda,h⟩:=ya h
 refine WC.y1n (fun i=>[14].contains i) [] rfl ?_
 refine WD.a (i:=0) (d:=2) (by kernel_rfl) rfl z7 z8 rfl rfl rfl (fun _=>q_m rfl) ?_
 refine WD.a (i:=1) (d:=3) (by kernel_rfl) rfl z7 z8 rfl rfl rfl (fun _=>q_m rfl) ?_
 refine WD.a (i:=2) (d:=4) (by kernel_rfl) rfl z7 z8 rfl rfl rfl (fun _=>y7 rfl) ?_
 refine WD.a (i:=3) (d:=5) (by kernel_rfl) rfl z7 z8 rfl rfl rfl (fun _=>y4 yH rfl rfl) ?_
 refine WD.a (i:=4) (d:=6) (by kernel_rfl) rfl z7 z8 rfl rfl rfl (fun _=>y4 y1r rfl rfl) ?_
 refine WD.e (i:=5) (d:=7) (by kernel_rfl) rfl z7 z8 rfl rfl rfl (y6 yg rfl (yb .here rfl)) ?_
 refine WD.c (i:=6) (d:=8) (by kernel_rfl) rfl z7 z8 rfl rfl rfl (zI (l:=[.tmp 2,.tmp 7]) Tryd.call108 (.cons rfl (.cons rfl .nil))) (ccl hz .nil (.cons .here .nil) fun w pz ho la=>yh _ _ _ _ _ _ _ _ _ zd9 w pz (z9T.mono (Zle.left _ _)) (z9U.mono (Zle.left _ _)) ((la _ (.head _) _).stb)) ?_
 refine WD.a (i:=7) (d:=9) (by kernel_rfl) rfl z7 z8 rfl rfl rfl (fun _=>q_m rfl) ?_
 refine WD.a (i:=8) (d:=10) (by kernel_rfl) rfl z7 z8 rfl rfl rfl (fun _=>y7 rfl) ?_
 refine WD.a (i:=9) (d:=11) (by kernel_rfl) rfl z7 z8 rfl rfl rfl (fun _=>y4 yH rfl rfl) ?_
 refine WD.a (i:=10) (d:=12) (by kernel_rfl) rfl z7 z8 rfl rfl rfl (fun _=>y4 y23 rfl rfl) ?_
 refine WD.e (i:=11) (d:=13) (by kernel_rfl) rfl z7 z8 rfl rfl rfl (y6 yg rfl (yb .here rfl)) ?_
 refine WD.a (i:=12) (d:=14) (by kernel_rfl) rfl z7 z8 rfl rfl rfl (fun _=>y4y Tryd.underlying3 Tryd.underlying5 rfl rfl) ?_
 refine WD.a (i:=13) (d:=15) (by kernel_rfl) rfl z7 z8 rfl rfl rfl (fun _=>y7 rfl) ?_
 refine WD.y2q (i:=14) rfl (by kernel_rfl) rfl rfl rfl (by kernel_rfl) (y32 (l:=([za.fState.fRegs.a0,za.fState.fRegs.a1,za.fState.fRegs.a2,za.fState.fRegs.a3] : List Int)) (f:=Value.int .u8) (u:=u8 za.fX.fB) (k:=2) (m:=6) (j:=4) (ds:=[(.int .i64 za.fState.fPc),(.int .i64 za.fState.fLeft),(.int .u8 (nth (([za.fState.fRegs.a0,za.fState.fRegs.a1,za.fState.fRegs.a2,za.fState.fRegs.a3] : List Int).set (za.fX.fA : Int).toNat (u8 za.fX.fB)) 0)),(.int .u8 (nth (([za.fState.fRegs.a0,za.fState.fRegs.a1,za.fState.fRegs.a2,za.fState.fRegs.a3] : List Int).set (za.fX.fA : Int).toNat (u8 za.fX.fB)) 1)),(.int .u8 (nth (([za.fState.fRegs.a0,za.fState.fRegs.a1,za.fState.fRegs.a2,za.fState.fRegs.a3] : List Int).set (za.fX.fA : Int).toNat (u8 za.fX.fB)) 2)),(.int .u8 (nth (([za.fState.fRegs.a0,za.fState.fRegs.a1,za.fState.fRegs.a2,za.fState.fRegs.a3] : List Int).set (za.fX.fA : Int).toNat (u8 za.fX.fB)) 3)),(.int .u8 za.fX.fOp),(.int .i64 za.fX.fA),(.int .i64 za.fX.fB),(.int .i64 za.fX.fC),(.slice z4c za.fMem.length z4d),(.int .u8 za.fAct.fKind),(.int .i64 za.fAct.fA),(.int .i64 za.fAct.fB),(.slice z4e za.fAct.fData.length z4f)]) y3P rfl rfl rfl rfl .here rfl rfl zda rfl rfl) ?_
 refine WD.done (by kernel_rfl) ?_
 obtain rfl:=Option.some.inj h
 refine WX.ye Tryd.results85 .nil (fun w hw=>?_)
 exact ⟨z4c,z4d,z4e,z4f,y1b,⟨z9T,z9U⟩,hw.sub (.cons .here .nil)⟩
def y1Q (z2 : Sproc_execution) : Option Sproc_execution :=
 (yc z2 z2.fX.fA).bind fun zdb=>chk ((0 : Int) ≤ z2.fX.fA ∧ z2.fX.fA < 4) ((yc z2 z2.fX.fB).bind fun zdc=>chk ((0 : Int) ≤ z2.fX.fB ∧ z2.fX.fB < 4) (some (⟨(⟨z2.fState.fPc,z2.fState.fLeft,(⟨nth (([z2.fState.fRegs.a0,z2.fState.fRegs.a1,z2.fState.fRegs.a2,z2.fState.fRegs.a3] : List Int).set (z2.fX.fA : Int).toNat (u8 ((nth ([z2.fState.fRegs.a0,z2.fState.fRegs.a1,z2.fState.fRegs.a2,z2.fState.fRegs.a3] : List Int) z2.fX.fA) + (nth ([z2.fState.fRegs.a0,z2.fState.fRegs.a1,z2.fState.fRegs.a2,z2.fState.fRegs.a3] : List Int) z2.fX.fB)))) 0,nth (([z2.fState.fRegs.a0,z2.fState.fRegs.a1,z2.fState.fRegs.a2,z2.fState.fRegs.a3] : List Int).set (z2.fX.fA : Int).toNat (u8 ((nth ([z2.fState.fRegs.a0,z2.fState.fRegs.a1,z2.fState.fRegs.a2,z2.fState.fRegs.a3] : List Int) z2.fX.fA) + (nth ([z2.fState.fRegs.a0,z2.fState.fRegs.a1,z2.fState.fRegs.a2,z2.fState.fRegs.a3] : List Int) z2.fX.fB)))) 1,nth (([z2.fState.fRegs.a0,z2.fState.fRegs.a1,z2.fState.fRegs.a2,z2.fState.fRegs.a3] : List Int).set (z2.fX.fA : Int).toNat (u8 ((nth ([z2.fState.fRegs.a0,z2.fState.fRegs.a1,z2.fState.fRegs.a2,z2.fState.fRegs.a3] : List Int) z2.fX.fA) + (nth ([z2.fState.fRegs.a0,z2.fState.fRegs.a1,z2.fState.fRegs.a2,z2.fState.fRegs.a3] : List Int) z2.fX.fB)))) 2,nth (([z2.fState.fRegs.a0,z2.fState.fRegs.a1,z2.fState.fRegs.a2,z2.fState.fRegs.a3] : List Int).set (z2.fX.fA : Int).toNat (u8 ((nth ([z2.fState.fRegs.a0,z2.fState.fRegs.a1,z2.fState.fRegs.a2,z2.fState.fRegs.a3] : List Int) z2.fX.fA) + (nth ([z2.fState.fRegs.a0,z2.fState.fRegs.a1,z2.fState.fRegs.a2,z2.fState.fRegs.a3] : List Int) z2.fX.fB)))) 3⟩ : S34)⟩ : Sproc_State),z2.fX,z2.fMem,z2.fAct⟩ : Sproc_execution)))
set_option maxRecDepth 20000 in
theorem y4h (Z : Zp) (z3h : Nat) (z4g : Option Addr) (z4h : Nat) (z4i : Option Addr) (z4j : Nat) (z2 : Sproc_execution) (r : Sproc_execution)
  (h : y1Q z2 = some r) (w₀ : World) (hz : PZ (fps [stb z3h 65 [(.int .i64 z2.fState.fPc),(.int .i64 z2.fState.fLeft),(.int .u8 z2.fState.fRegs.a0),(.int .u8 z2.fState.fRegs.a1),(.int .u8 z2.fState.fRegs.a2),(.int .u8 z2.fState.fRegs.a3),(.int .u8 z2.fX.fOp),(.int .i64 z2.fX.fA),(.int .i64 z2.fX.fB),(.int .i64 z2.fX.fC),(.slice z4g z2.fMem.length z4h),(.int .u8 z2.fAct.fKind),(.int .i64 z2.fAct.fA),(.int .i64 z2.fAct.fB),(.slice z4i z2.fAct.fData.length z4j)]]) w₀ Z)
  (z8f : ZS Z 1 (fun r x=>r = e5 x) z4g z4h z2.fMem)
  (z8g : ZS Z 1 (fun r x=>r = e5 x) z4i z4j z2.fAct.fData)
  (hown : Hp (fps [stb z3h 65 [(.int .i64 z2.fState.fPc),(.int .i64 z2.fState.fLeft),(.int .u8 z2.fState.fRegs.a0),(.int .u8 z2.fState.fRegs.a1),(.int .u8 z2.fState.fRegs.a2),(.int .u8 z2.fState.fRegs.a3),(.int .u8 z2.fX.fOp),(.int .i64 z2.fX.fA),(.int .i64 z2.fX.fB),(.int .i64 z2.fX.fC),(.slice z4g z2.fMem.length z4h),(.int .u8 z2.fAct.fKind),(.int .i64 z2.fAct.fA),(.int .i64 z2.fAct.fB),(.slice z4i z2.fAct.fData.length z4j)]]) w₀ w₀ [stb z3h 65 [(.int .i64 z2.fState.fPc),(.int .i64 z2.fState.fLeft),(.int .u8 z2.fState.fRegs.a0),(.int .u8 z2.fState.fRegs.a1),(.int .u8 z2.fState.fRegs.a2),(.int .u8 z2.fState.fRegs.a3),(.int .u8 z2.fX.fOp),(.int .i64 z2.fX.fA),(.int .i64 z2.fX.fB),(.int .i64 z2.fX.fC),(.slice z4g z2.fMem.length z4h),(.int .u8 z2.fAct.fKind),(.int .i64 z2.fAct.fA),(.int .i64 z2.fAct.fB),(.slice z4i z2.fAct.fData.length z4j)]]) :
  Calls Tryd.prog 82 #[(.pointer (some ⟨z3h,0,none⟩))] w₀ fun e w'=>∃ z9Z : Option Addr,∃ za0 : Nat,∃ za1 : Option Addr,∃ za2 : Nat,e = .returned (.tuple #[]) ∧ ((ZS Z 1 (fun r x=>r = e5 x) z9Z za0 r.fMem) ∧ (ZS Z 1 (fun r x=>r = e5 x) za1 za2 r.fAct.fData)) ∧ Hp (fps [stb z3h 65 [(.int .i64 z2.fState.fPc),(.int .i64 z2.fState.fLeft),(.int .u8 z2.fState.fRegs.a0),(.int .u8 z2.fState.fRegs.a1),(.int .u8 z2.fState.fRegs.a2),(.int .u8 z2.fState.fRegs.a3),(.int .u8 z2.fX.fOp),(.int .i64 z2.fX.fA),(.int .i64 z2.fX.fB),(.int .i64 z2.fX.fC),(.slice z4g z2.fMem.length z4h),(.int .u8 z2.fAct.fKind),(.int .i64 z2.fAct.fA),(.int .i64 z2.fAct.fB),(.slice z4i z2.fAct.fData.length z4j)]]) w₀ w' [stb z3h 65 [(.int .i64 r.fState.fPc),(.int .i64 r.fState.fLeft),(.int .u8 r.fState.fRegs.a0),(.int .u8 r.fState.fRegs.a1),(.int .u8 r.fState.fRegs.a2),(.int .u8 r.fState.fRegs.a3),(.int .u8 r.fX.fOp),(.int .i64 r.fX.fA),(.int .i64 r.fX.fB),(.int .i64 r.fX.fC),(.slice z9Z r.fMem.length za0),(.int .u8 r.fAct.fKind),(.int .i64 r.fAct.fA),(.int .i64 r.fAct.fB),(.slice za1 r.fAct.fData.length za2)]]:=by
 unfold y1Q at h
 refine Calls.y9 (vs:=[(.pointer (some ⟨z3h,0,none⟩))]) (pre:=[stb z3h 65 [(.int .i64 z2.fState.fPc),(.int .i64 z2.fState.fLeft),(.int .u8 z2.fState.fRegs.a0),(.int .u8 z2.fState.fRegs.a1),(.int .u8 z2.fState.fRegs.a2),(.int .u8 z2.fState.fRegs.a3),(.int .u8 z2.fX.fOp),(.int .i64 z2.fX.fA),(.int .i64 z2.fX.fB),(.int .i64 z2.fX.fC),(.slice z4g z2.fMem.length z4h),(.int .u8 z2.fAct.fKind),(.int .i64 z2.fAct.fA),(.int .i64 z2.fAct.fB),(.slice z4i z2.fAct.fData.length z4j)]]) (env:=[(0,(.pointer (some ⟨z3h,0,none⟩)))]) Tryd.func82 rfl Tryd.ntmps82 rfl (hown) rfl ?_
 obtain ⟨zdb,zdd,h⟩:=zh h
 obtain ⟨za3,h⟩:=ya h
 obtain ⟨zdc,zde,h⟩:=zh h
 obtain ⟨zdf,h⟩:=ya h
 refine WC.y1n (fun i=>[20].contains i) [] rfl ?_
 refine WD.a (i:=0) (d:=2) (by kernel_rfl) rfl z7 z8 rfl rfl rfl (fun _=>q_m rfl) ?_
 refine WD.a (i:=1) (d:=3) (by kernel_rfl) rfl z7 z8 rfl rfl rfl (fun _=>q_m rfl) ?_
 refine WD.a (i:=2) (d:=4) (by kernel_rfl) rfl z7 z8 rfl rfl rfl (fun _=>y7 rfl) ?_
 refine WD.a (i:=3) (d:=5) (by kernel_rfl) rfl z7 z8 rfl rfl rfl (fun _=>y4 yH rfl rfl) ?_
 refine WD.a (i:=4) (d:=6) (by kernel_rfl) rfl z7 z8 rfl rfl rfl (fun _=>y4 y1r rfl rfl) ?_
 refine WD.e (i:=5) (d:=7) (by kernel_rfl) rfl z7 z8 rfl rfl rfl (y6 yg rfl (yb .here rfl)) ?_
 refine WD.c (i:=6) (d:=8) (by kernel_rfl) rfl z7 z8 rfl rfl rfl (zI (l:=[.tmp 2,.tmp 7]) Tryd.call108 (.cons rfl (.cons rfl .nil))) (ccl hz .nil (.cons .here .nil) fun w pz ho la=>yh _ _ _ _ _ _ _ _ _ zdd w pz (z8f.mono (Zle.left _ _)) (z8g.mono (Zle.left _ _)) ((la _ (.head _) _).stb)) ?_
 refine WD.a (i:=7) (d:=9) (by kernel_rfl) rfl z7 z8 rfl rfl rfl (fun _=>y7 rfl) ?_
 refine WD.e (i:=8) (d:=10) (by kernel_rfl) rfl z7 z8 rfl rfl rfl (y6 yS rfl (y20 (l:=([z2.fState.fRegs.a0,z2.fState.fRegs.a1,z2.fState.fRegs.a2,z2.fState.fRegs.a3] : List Int)) (f:=Value.int .u8) (k:=2) (m:=6) .here rfl rfl za3)) ?_
 refine WD.a (i:=9) (d:=11) (by kernel_rfl) rfl z7 z8 rfl rfl rfl (fun _=>q_m rfl) ?_
 refine WD.a (i:=10) (d:=12) (by kernel_rfl) rfl z7 z8 rfl rfl rfl (fun _=>q_m rfl) ?_
 refine WD.a (i:=11) (d:=13) (by kernel_rfl) rfl z7 z8 rfl rfl rfl (fun _=>y7 rfl) ?_
 refine WD.a (i:=12) (d:=14) (by kernel_rfl) rfl z7 z8 rfl rfl rfl (fun _=>y4 yH rfl rfl) ?_
 refine WD.a (i:=13) (d:=15) (by kernel_rfl) rfl z7 z8 rfl rfl rfl (fun _=>y4 y23 rfl rfl) ?_
 refine WD.e (i:=14) (d:=16) (by kernel_rfl) rfl z7 z8 rfl rfl rfl (y6 yg rfl (yb .here rfl)) ?_
 refine WD.c (i:=15) (d:=17) (by kernel_rfl) rfl z7 z8 rfl rfl rfl (zI (l:=[.tmp 11,.tmp 16]) Tryd.call108 (.cons rfl (.cons rfl .nil))) (ccl hz .nil (.cons .here .nil) fun w pz ho la=>yh _ _ _ _ _ _ _ _ _ zde w pz (z8f.mono (Zle.left _ _)) (z8g.mono (Zle.left _ _)) ((la _ (.head _) _).stb)) ?_
 refine WD.a (i:=16) (d:=18) (by kernel_rfl) rfl z7 z8 rfl rfl rfl (fun _=>y7 rfl) ?_
 refine WD.e (i:=17) (d:=19) (by kernel_rfl) rfl z7 z8 rfl rfl rfl (y6 yS rfl (y20 (l:=([z2.fState.fRegs.a0,z2.fState.fRegs.a1,z2.fState.fRegs.a2,z2.fState.fRegs.a3] : List Int)) (f:=Value.int .u8) (k:=2) (m:=6) .here rfl rfl zdf)) ?_
 refine WD.a (i:=18) (d:=20) (by kernel_rfl) rfl z7 z8 rfl rfl rfl (fun _=>q_add rfl rfl rfl) ?_
 refine WD.a (i:=19) (d:=21) (by kernel_rfl) rfl z7 z8 rfl rfl rfl (fun _=>y7 rfl) ?_
 refine WD.y2q (i:=20) rfl (by kernel_rfl) rfl rfl rfl (by kernel_rfl) (y32 (l:=([z2.fState.fRegs.a0,z2.fState.fRegs.a1,z2.fState.fRegs.a2,z2.fState.fRegs.a3] : List Int)) (f:=Value.int .u8) (u:=u8 ((nth ([z2.fState.fRegs.a0,z2.fState.fRegs.a1,z2.fState.fRegs.a2,z2.fState.fRegs.a3] : List Int) z2.fX.fA) + (nth ([z2.fState.fRegs.a0,z2.fState.fRegs.a1,z2.fState.fRegs.a2,z2.fState.fRegs.a3] : List Int) z2.fX.fB))) (k:=2) (m:=6) (j:=4) (ds:=[(.int .i64 z2.fState.fPc),(.int .i64 z2.fState.fLeft),(.int .u8 (nth (([z2.fState.fRegs.a0,z2.fState.fRegs.a1,z2.fState.fRegs.a2,z2.fState.fRegs.a3] : List Int).set (z2.fX.fA : Int).toNat (u8 ((nth ([z2.fState.fRegs.a0,z2.fState.fRegs.a1,z2.fState.fRegs.a2,z2.fState.fRegs.a3] : List Int) z2.fX.fA) + (nth ([z2.fState.fRegs.a0,z2.fState.fRegs.a1,z2.fState.fRegs.a2,z2.fState.fRegs.a3] : List Int) z2.fX.fB)))) 0)),(.int .u8 (nth (([z2.fState.fRegs.a0,z2.fState.fRegs.a1,z2.fState.fRegs.a2,z2.fState.fRegs.a3] : List Int).set (z2.fX.fA : Int).toNat (u8 ((nth ([z2.fState.fRegs.a0,z2.fState.fRegs.a1,z2.fState.fRegs.a2,z2.fState.fRegs.a3] : List Int) z2.fX.fA) + (nth ([z2.fState.fRegs.a0,z2.fState.fRegs.a1,z2.fState.fRegs.a2,z2.fState.fRegs.a3] : List Int) z2.fX.fB)))) 1)),(.int .u8 (nth (([z2.fState.fRegs.a0,z2.fState.fRegs.a1,z2.fState.fRegs.a2,z2.fState.fRegs.a3] : List Int).set (z2.fX.fA : Int).toNat (u8 ((nth ([z2.fState.fRegs.a0,z2.fState.fRegs.a1,z2.fState.fRegs.a2,z2.fState.fRegs.a3] : List Int) z2.fX.fA) + (nth ([z2.fState.fRegs.a0,z2.fState.fRegs.a1,z2.fState.fRegs.a2,z2.fState.fRegs.a3] : List Int) z2.fX.fB)))) 2)),(.int .u8 (nth (([z2.fState.fRegs.a0,z2.fState.fRegs.a1,z2.fState.fRegs.a2,z2.fState.fRegs.a3] : List Int).set (z2.fX.fA : Int).toNat (u8 ((nth ([z2.fState.fRegs.a0,z2.fState.fRegs.a1,z2.fState.fRegs.a2,z2.fState.fRegs.a3] : List Int) z2.fX.fA) + (nth ([z2.fState.fRegs.a0,z2.fState.fRegs.a1,z2.fState.fRegs.a2,z2.fState.fRegs.a3] : List Int) z2.fX.fB)))) 3)),(.int .u8 z2.fX.fOp),(.int .i64 z2.fX.fA),(.int .i64 z2.fX.fB),(.int .i64 z2.fX.fC),(.slice z4g z2.fMem.length z4h),(.int .u8 z2.fAct.fKind),(.int .i64 z2.fAct.fA),(.int .i64 z2.fAct.fB),(.slice z4i z2.fAct.fData.length z4j)]) y3P rfl rfl rfl rfl .here rfl rfl za3 rfl rfl) ?_
 refine WD.done (by kernel_rfl) ?_
 obtain rfl:=Option.some.inj h
 refine WX.ye Tryd.results82 .nil (fun w hw=>?_)
 exact ⟨z4g,z4h,z4i,z4j,y1b,⟨z8f,z8g⟩,hw.sub (.cons .here .nil)⟩
def y1R (z6 : Sproc_execution) : Option Sproc_execution :=
 (yc z6 z6.fX.fA).bind fun zdg=>chk ((0 : Int) ≤ z6.fX.fA ∧ z6.fX.fA < 4) ((yc z6 z6.fX.fB).bind fun zdh=>chk ((0 : Int) ≤ z6.fX.fB ∧ z6.fX.fB < 4) (some (⟨(⟨z6.fState.fPc,z6.fState.fLeft,(⟨nth (([z6.fState.fRegs.a0,z6.fState.fRegs.a1,z6.fState.fRegs.a2,z6.fState.fRegs.a3] : List Int).set (z6.fX.fA : Int).toNat (u8 ((nth ([z6.fState.fRegs.a0,z6.fState.fRegs.a1,z6.fState.fRegs.a2,z6.fState.fRegs.a3] : List Int) z6.fX.fA) - (nth ([z6.fState.fRegs.a0,z6.fState.fRegs.a1,z6.fState.fRegs.a2,z6.fState.fRegs.a3] : List Int) z6.fX.fB)))) 0,nth (([z6.fState.fRegs.a0,z6.fState.fRegs.a1,z6.fState.fRegs.a2,z6.fState.fRegs.a3] : List Int).set (z6.fX.fA : Int).toNat (u8 ((nth ([z6.fState.fRegs.a0,z6.fState.fRegs.a1,z6.fState.fRegs.a2,z6.fState.fRegs.a3] : List Int) z6.fX.fA) - (nth ([z6.fState.fRegs.a0,z6.fState.fRegs.a1,z6.fState.fRegs.a2,z6.fState.fRegs.a3] : List Int) z6.fX.fB)))) 1,nth (([z6.fState.fRegs.a0,z6.fState.fRegs.a1,z6.fState.fRegs.a2,z6.fState.fRegs.a3] : List Int).set (z6.fX.fA : Int).toNat (u8 ((nth ([z6.fState.fRegs.a0,z6.fState.fRegs.a1,z6.fState.fRegs.a2,z6.fState.fRegs.a3] : List Int) z6.fX.fA) - (nth ([z6.fState.fRegs.a0,z6.fState.fRegs.a1,z6.fState.fRegs.a2,z6.fState.fRegs.a3] : List Int) z6.fX.fB)))) 2,nth (([z6.fState.fRegs.a0,z6.fState.fRegs.a1,z6.fState.fRegs.a2,z6.fState.fRegs.a3] : List Int).set (z6.fX.fA : Int).toNat (u8 ((nth ([z6.fState.fRegs.a0,z6.fState.fRegs.a1,z6.fState.fRegs.a2,z6.fState.fRegs.a3] : List Int) z6.fX.fA) - (nth ([z6.fState.fRegs.a0,z6.fState.fRegs.a1,z6.fState.fRegs.a2,z6.fState.fRegs.a3] : List Int) z6.fX.fB)))) 3⟩ : S34)⟩ : Sproc_State),z6.fX,z6.fMem,z6.fAct⟩ : Sproc_execution)))
set_option maxRecDepth 20000 in
theorem y4i (Z : Zp) (z3i : Nat) (z4k : Option Addr) (z4l : Nat) (z4m : Option Addr) (z4n : Nat) (z6 : Sproc_execution) (r : Sproc_execution)
  (h : y1R z6 = some r) (w₀ : World) (hz : PZ (fps [stb z3i 65 [(.int .i64 z6.fState.fPc),(.int .i64 z6.fState.fLeft),(.int .u8 z6.fState.fRegs.a0),(.int .u8 z6.fState.fRegs.a1),(.int .u8 z6.fState.fRegs.a2),(.int .u8 z6.fState.fRegs.a3),(.int .u8 z6.fX.fOp),(.int .i64 z6.fX.fA),(.int .i64 z6.fX.fB),(.int .i64 z6.fX.fC),(.slice z4k z6.fMem.length z4l),(.int .u8 z6.fAct.fKind),(.int .i64 z6.fAct.fA),(.int .i64 z6.fAct.fB),(.slice z4m z6.fAct.fData.length z4n)]]) w₀ Z)
  (z8h : ZS Z 1 (fun r x=>r = e5 x) z4k z4l z6.fMem)
  (z8i : ZS Z 1 (fun r x=>r = e5 x) z4m z4n z6.fAct.fData)
  (hown : Hp (fps [stb z3i 65 [(.int .i64 z6.fState.fPc),(.int .i64 z6.fState.fLeft),(.int .u8 z6.fState.fRegs.a0),(.int .u8 z6.fState.fRegs.a1),(.int .u8 z6.fState.fRegs.a2),(.int .u8 z6.fState.fRegs.a3),(.int .u8 z6.fX.fOp),(.int .i64 z6.fX.fA),(.int .i64 z6.fX.fB),(.int .i64 z6.fX.fC),(.slice z4k z6.fMem.length z4l),(.int .u8 z6.fAct.fKind),(.int .i64 z6.fAct.fA),(.int .i64 z6.fAct.fB),(.slice z4m z6.fAct.fData.length z4n)]]) w₀ w₀ [stb z3i 65 [(.int .i64 z6.fState.fPc),(.int .i64 z6.fState.fLeft),(.int .u8 z6.fState.fRegs.a0),(.int .u8 z6.fState.fRegs.a1),(.int .u8 z6.fState.fRegs.a2),(.int .u8 z6.fState.fRegs.a3),(.int .u8 z6.fX.fOp),(.int .i64 z6.fX.fA),(.int .i64 z6.fX.fB),(.int .i64 z6.fX.fC),(.slice z4k z6.fMem.length z4l),(.int .u8 z6.fAct.fKind),(.int .i64 z6.fAct.fA),(.int .i64 z6.fAct.fB),(.slice z4m z6.fAct.fData.length z4n)]]) :
  Calls Tryd.prog 86 #[(.pointer (some ⟨z3i,0,none⟩))] w₀ fun e w'=>∃ za4 : Option Addr,∃ za5 : Nat,∃ za6 : Option Addr,∃ za7 : Nat,e = .returned (.tuple #[]) ∧ ((ZS Z 1 (fun r x=>r = e5 x) za4 za5 r.fMem) ∧ (ZS Z 1 (fun r x=>r = e5 x) za6 za7 r.fAct.fData)) ∧ Hp (fps [stb z3i 65 [(.int .i64 z6.fState.fPc),(.int .i64 z6.fState.fLeft),(.int .u8 z6.fState.fRegs.a0),(.int .u8 z6.fState.fRegs.a1),(.int .u8 z6.fState.fRegs.a2),(.int .u8 z6.fState.fRegs.a3),(.int .u8 z6.fX.fOp),(.int .i64 z6.fX.fA),(.int .i64 z6.fX.fB),(.int .i64 z6.fX.fC),(.slice z4k z6.fMem.length z4l),(.int .u8 z6.fAct.fKind),(.int .i64 z6.fAct.fA),(.int .i64 z6.fAct.fB),(.slice z4m z6.fAct.fData.length z4n)]]) w₀ w' [stb z3i 65 [(.int .i64 r.fState.fPc),(.int .i64 r.fState.fLeft),(.int .u8 r.fState.fRegs.a0),(.int .u8 r.fState.fRegs.a1),(.int .u8 r.fState.fRegs.a2),(.int .u8 r.fState.fRegs.a3),(.int .u8 r.fX.fOp),(.int .i64 r.fX.fA),(.int .i64 r.fX.fB),(.int .i64 r.fX.fC),(.slice za4 r.fMem.length za5),(.int .u8 r.fAct.fKind),(.int .i64 r.fAct.fA),(.int .i64 r.fAct.fB),(.slice za6 r.fAct.fData.length za7)]]:=by
 unfold y1R at h
 refine Calls.y9 (vs:=[(.pointer (some ⟨z3i,0,none⟩))]) (pre:=[stb z3i 65 [(.int .i64 z6.fState.fPc),(.int .i64 z6.fState.fLeft),(.int .u8 z6.fState.fRegs.a0),(.int .u8 z6.fState.fRegs.a1),(.int .u8 z6.fState.fRegs.a2),(.int .u8 z6.fState.fRegs.a3),(.int .u8 z6.fX.fOp),(.int .i64 z6.fX.fA),(.int .i64 z6.fX.fB),(.int .i64 z6.fX.fC),(.slice z4k z6.fMem.length z4l),(.int .u8 z6.fAct.fKind),(.int .i64 z6.fAct.fA),(.int .i64 z6.fAct.fB),(.slice z4m z6.fAct.fData.length z4n)]]) (env:=[(0,(.pointer (some ⟨z3i,0,none⟩)))]) Tryd.func86 rfl Tryd.ntmps86 rfl (hown) rfl ?_
 obtain ⟨zdg,zdi,h⟩:=zh h
 obtain ⟨za8,h⟩:=ya h
 obtain ⟨zdh,zdj,h⟩:=zh h
 obtain ⟨zdk,h⟩:=ya h
 refine WC.y1n (fun i=>[20].contains i) [] rfl ?_
 refine WD.a (i:=0) (d:=2) (by kernel_rfl) rfl z7 z8 rfl rfl rfl (fun _=>q_m rfl) ?_
 refine WD.a (i:=1) (d:=3) (by kernel_rfl) rfl z7 z8 rfl rfl rfl (fun _=>q_m rfl) ?_
 refine WD.a (i:=2) (d:=4) (by kernel_rfl) rfl z7 z8 rfl rfl rfl (fun _=>y7 rfl) ?_
 refine WD.a (i:=3) (d:=5) (by kernel_rfl) rfl z7 z8 rfl rfl rfl (fun _=>y4 yH rfl rfl) ?_
 refine WD.a (i:=4) (d:=6) (by kernel_rfl) rfl z7 z8 rfl rfl rfl (fun _=>y4 y1r rfl rfl) ?_
 refine WD.e (i:=5) (d:=7) (by kernel_rfl) rfl z7 z8 rfl rfl rfl (y6 yg rfl (yb .here rfl)) ?_
 refine WD.c (i:=6) (d:=8) (by kernel_rfl) rfl z7 z8 rfl rfl rfl (zI (l:=[.tmp 2,.tmp 7]) Tryd.call108 (.cons rfl (.cons rfl .nil))) (ccl hz .nil (.cons .here .nil) fun w pz ho la=>yh _ _ _ _ _ _ _ _ _ zdi w pz (z8h.mono (Zle.left _ _)) (z8i.mono (Zle.left _ _)) ((la _ (.head _) _).stb)) ?_
 refine WD.a (i:=7) (d:=9) (by kernel_rfl) rfl z7 z8 rfl rfl rfl (fun _=>y7 rfl) ?_
 refine WD.e (i:=8) (d:=10) (by kernel_rfl) rfl z7 z8 rfl rfl rfl (y6 yS rfl (y20 (l:=([z6.fState.fRegs.a0,z6.fState.fRegs.a1,z6.fState.fRegs.a2,z6.fState.fRegs.a3] : List Int)) (f:=Value.int .u8) (k:=2) (m:=6) .here rfl rfl za8)) ?_
 refine WD.a (i:=9) (d:=11) (by kernel_rfl) rfl z7 z8 rfl rfl rfl (fun _=>q_m rfl) ?_
 refine WD.a (i:=10) (d:=12) (by kernel_rfl) rfl z7 z8 rfl rfl rfl (fun _=>q_m rfl) ?_
 refine WD.a (i:=11) (d:=13) (by kernel_rfl) rfl z7 z8 rfl rfl rfl (fun _=>y7 rfl) ?_
 refine WD.a (i:=12) (d:=14) (by kernel_rfl) rfl z7 z8 rfl rfl rfl (fun _=>y4 yH rfl rfl) ?_
 refine WD.a (i:=13) (d:=15) (by kernel_rfl) rfl z7 z8 rfl rfl rfl (fun _=>y4 y23 rfl rfl) ?_
 refine WD.e (i:=14) (d:=16) (by kernel_rfl) rfl z7 z8 rfl rfl rfl (y6 yg rfl (yb .here rfl)) ?_
 refine WD.c (i:=15) (d:=17) (by kernel_rfl) rfl z7 z8 rfl rfl rfl (zI (l:=[.tmp 11,.tmp 16]) Tryd.call108 (.cons rfl (.cons rfl .nil))) (ccl hz .nil (.cons .here .nil) fun w pz ho la=>yh _ _ _ _ _ _ _ _ _ zdj w pz (z8h.mono (Zle.left _ _)) (z8i.mono (Zle.left _ _)) ((la _ (.head _) _).stb)) ?_
 refine WD.a (i:=16) (d:=18) (by kernel_rfl) rfl z7 z8 rfl rfl rfl (fun _=>y7 rfl) ?_
 refine WD.e (i:=17) (d:=19) (by kernel_rfl) rfl z7 z8 rfl rfl rfl (y6 yS rfl (y20 (l:=([z6.fState.fRegs.a0,z6.fState.fRegs.a1,z6.fState.fRegs.a2,z6.fState.fRegs.a3] : List Int)) (f:=Value.int .u8) (k:=2) (m:=6) .here rfl rfl zdk)) ?_
 refine WD.a (i:=18) (d:=20) (by kernel_rfl) rfl z7 z8 rfl rfl rfl (fun _=>q_sub rfl rfl rfl) ?_
 refine WD.a (i:=19) (d:=21) (by kernel_rfl) rfl z7 z8 rfl rfl rfl (fun _=>y7 rfl) ?_
 refine WD.y2q (i:=20) rfl (by kernel_rfl) rfl rfl rfl (by kernel_rfl) (y32 (l:=([z6.fState.fRegs.a0,z6.fState.fRegs.a1,z6.fState.fRegs.a2,z6.fState.fRegs.a3] : List Int)) (f:=Value.int .u8) (u:=u8 ((nth ([z6.fState.fRegs.a0,z6.fState.fRegs.a1,z6.fState.fRegs.a2,z6.fState.fRegs.a3] : List Int) z6.fX.fA) - (nth ([z6.fState.fRegs.a0,z6.fState.fRegs.a1,z6.fState.fRegs.a2,z6.fState.fRegs.a3] : List Int) z6.fX.fB))) (k:=2) (m:=6) (j:=4) (ds:=[(.int .i64 z6.fState.fPc),(.int .i64 z6.fState.fLeft),(.int .u8 (nth (([z6.fState.fRegs.a0,z6.fState.fRegs.a1,z6.fState.fRegs.a2,z6.fState.fRegs.a3] : List Int).set (z6.fX.fA : Int).toNat (u8 ((nth ([z6.fState.fRegs.a0,z6.fState.fRegs.a1,z6.fState.fRegs.a2,z6.fState.fRegs.a3] : List Int) z6.fX.fA) - (nth ([z6.fState.fRegs.a0,z6.fState.fRegs.a1,z6.fState.fRegs.a2,z6.fState.fRegs.a3] : List Int) z6.fX.fB)))) 0)),(.int .u8 (nth (([z6.fState.fRegs.a0,z6.fState.fRegs.a1,z6.fState.fRegs.a2,z6.fState.fRegs.a3] : List Int).set (z6.fX.fA : Int).toNat (u8 ((nth ([z6.fState.fRegs.a0,z6.fState.fRegs.a1,z6.fState.fRegs.a2,z6.fState.fRegs.a3] : List Int) z6.fX.fA) - (nth ([z6.fState.fRegs.a0,z6.fState.fRegs.a1,z6.fState.fRegs.a2,z6.fState.fRegs.a3] : List Int) z6.fX.fB)))) 1)),(.int .u8 (nth (([z6.fState.fRegs.a0,z6.fState.fRegs.a1,z6.fState.fRegs.a2,z6.fState.fRegs.a3] : List Int).set (z6.fX.fA : Int).toNat (u8 ((nth ([z6.fState.fRegs.a0,z6.fState.fRegs.a1,z6.fState.fRegs.a2,z6.fState.fRegs.a3] : List Int) z6.fX.fA) - (nth ([z6.fState.fRegs.a0,z6.fState.fRegs.a1,z6.fState.fRegs.a2,z6.fState.fRegs.a3] : List Int) z6.fX.fB)))) 2)),(.int .u8 (nth (([z6.fState.fRegs.a0,z6.fState.fRegs.a1,z6.fState.fRegs.a2,z6.fState.fRegs.a3] : List Int).set (z6.fX.fA : Int).toNat (u8 ((nth ([z6.fState.fRegs.a0,z6.fState.fRegs.a1,z6.fState.fRegs.a2,z6.fState.fRegs.a3] : List Int) z6.fX.fA) - (nth ([z6.fState.fRegs.a0,z6.fState.fRegs.a1,z6.fState.fRegs.a2,z6.fState.fRegs.a3] : List Int) z6.fX.fB)))) 3)),(.int .u8 z6.fX.fOp),(.int .i64 z6.fX.fA),(.int .i64 z6.fX.fB),(.int .i64 z6.fX.fC),(.slice z4k z6.fMem.length z4l),(.int .u8 z6.fAct.fKind),(.int .i64 z6.fAct.fA),(.int .i64 z6.fAct.fB),(.slice z4m z6.fAct.fData.length z4n)]) y3P rfl rfl rfl rfl .here rfl rfl za8 rfl rfl) ?_
 refine WD.done (by kernel_rfl) ?_
 obtain rfl:=Option.some.inj h
 refine WX.ye Tryd.results86 .nil (fun w hw=>?_)
 exact ⟨z4k,z4l,z4m,z4n,y1b,⟨z8h,z8i⟩,hw.sub (.cons .here .nil)⟩
def yz (zo : Sproc_execution) (z4o : Int) (z4p : Int) : Option Sproc_execution :=
 some (⟨zo.fState,zo.fX,zo.fMem,(⟨15,i64 z4o,z4p,([] : List Int)⟩ : Sproc_Act)⟩ : Sproc_execution)
set_option maxRecDepth 20000 in
theorem y2e (Z : Zp) (z3j : Nat) (z4q : Option Addr) (z4r : Nat) (z5v : Option Addr) (z5w : Nat) (zo : Sproc_execution) (z4o : Int) (z4p : Int) (r : Sproc_execution)
  (h : yz zo z4o z4p = some r) (w₀ : World) (hz : PZ (fps [stb z3j 65 [(.int .i64 zo.fState.fPc),(.int .i64 zo.fState.fLeft),(.int .u8 zo.fState.fRegs.a0),(.int .u8 zo.fState.fRegs.a1),(.int .u8 zo.fState.fRegs.a2),(.int .u8 zo.fState.fRegs.a3),(.int .u8 zo.fX.fOp),(.int .i64 zo.fX.fA),(.int .i64 zo.fX.fB),(.int .i64 zo.fX.fC),(.slice z4q zo.fMem.length z4r),(.int .u8 zo.fAct.fKind),(.int .i64 zo.fAct.fA),(.int .i64 zo.fAct.fB),(.slice z5v zo.fAct.fData.length z5w)]]) w₀ Z)
  (zdl : ZS Z 1 (fun r x=>r = e5 x) z4q z4r zo.fMem)
  (zmh : ZS Z 1 (fun r x=>r = e5 x) z5v z5w zo.fAct.fData)
  (hown : Hp (fps [stb z3j 65 [(.int .i64 zo.fState.fPc),(.int .i64 zo.fState.fLeft),(.int .u8 zo.fState.fRegs.a0),(.int .u8 zo.fState.fRegs.a1),(.int .u8 zo.fState.fRegs.a2),(.int .u8 zo.fState.fRegs.a3),(.int .u8 zo.fX.fOp),(.int .i64 zo.fX.fA),(.int .i64 zo.fX.fB),(.int .i64 zo.fX.fC),(.slice z4q zo.fMem.length z4r),(.int .u8 zo.fAct.fKind),(.int .i64 zo.fAct.fA),(.int .i64 zo.fAct.fB),(.slice z5v zo.fAct.fData.length z5w)]]) w₀ w₀ [stb z3j 65 [(.int .i64 zo.fState.fPc),(.int .i64 zo.fState.fLeft),(.int .u8 zo.fState.fRegs.a0),(.int .u8 zo.fState.fRegs.a1),(.int .u8 zo.fState.fRegs.a2),(.int .u8 zo.fState.fRegs.a3),(.int .u8 zo.fX.fOp),(.int .i64 zo.fX.fA),(.int .i64 zo.fX.fB),(.int .i64 zo.fX.fC),(.slice z4q zo.fMem.length z4r),(.int .u8 zo.fAct.fKind),(.int .i64 zo.fAct.fA),(.int .i64 zo.fAct.fB),(.slice z5v zo.fAct.fData.length z5w)]]) :
  Calls Tryd.prog 112 #[(.pointer (some ⟨z3j,0,none⟩)),(.int .u8 z4o),(.int .i64 z4p)] w₀ fun e w'=>∃ za9 : Option Addr,∃ zaa : Nat,∃ zab : Option Addr,∃ zac : Nat,e = .returned (.tuple #[]) ∧ (ZS Z 1 (fun r x=>r = e5 x) za9 zaa r.fMem) ∧ Hp (fps [stb z3j 65 [(.int .i64 zo.fState.fPc),(.int .i64 zo.fState.fLeft),(.int .u8 zo.fState.fRegs.a0),(.int .u8 zo.fState.fRegs.a1),(.int .u8 zo.fState.fRegs.a2),(.int .u8 zo.fState.fRegs.a3),(.int .u8 zo.fX.fOp),(.int .i64 zo.fX.fA),(.int .i64 zo.fX.fB),(.int .i64 zo.fX.fC),(.slice z4q zo.fMem.length z4r),(.int .u8 zo.fAct.fKind),(.int .i64 zo.fAct.fA),(.int .i64 zo.fAct.fB),(.slice z5v zo.fAct.fData.length z5w)]]) w₀ w' [stb z3j 65 [(.int .i64 r.fState.fPc),(.int .i64 r.fState.fLeft),(.int .u8 r.fState.fRegs.a0),(.int .u8 r.fState.fRegs.a1),(.int .u8 r.fState.fRegs.a2),(.int .u8 r.fState.fRegs.a3),(.int .u8 r.fX.fOp),(.int .i64 r.fX.fA),(.int .i64 r.fX.fB),(.int .i64 r.fX.fC),(.slice za9 r.fMem.length zaa),(.int .u8 r.fAct.fKind),(.int .i64 r.fAct.fA),(.int .i64 r.fAct.fB),(.slice zab r.fAct.fData.length zac)],row (.slice zab r.fAct.fData.length zac) 5 1 (r.fAct.fData.flatMap e5)]:=by
 unfold yz at h
 refine Calls.y9 (vs:=[(.pointer (some ⟨z3j,0,none⟩)),(.int .u8 z4o),(.int .i64 z4p)]) (pre:=[stb z3j 65 [(.int .i64 zo.fState.fPc),(.int .i64 zo.fState.fLeft),(.int .u8 zo.fState.fRegs.a0),(.int .u8 zo.fState.fRegs.a1),(.int .u8 zo.fState.fRegs.a2),(.int .u8 zo.fState.fRegs.a3),(.int .u8 zo.fX.fOp),(.int .i64 zo.fX.fA),(.int .i64 zo.fX.fB),(.int .i64 zo.fX.fC),(.slice z4q zo.fMem.length z4r),(.int .u8 zo.fAct.fKind),(.int .i64 zo.fAct.fA),(.int .i64 zo.fAct.fB),(.slice z5v zo.fAct.fData.length z5w)]]) (env:=[(0,(.pointer (some ⟨z3j,0,none⟩))),(1,(.int .u8 z4o)),(2,(.int .i64 z4p))]) Tryd.func112 rfl Tryd.ntmps112 rfl (hown) rfl ?_
 refine WC.a (WL.pu rfl (WL.pu rfl ?_))
 refine WL.a (d:=8) rfl rfl rfl (y4y Tryd.underlying5 Tryd.underlying3 rfl rfl) ?_
 refine WL.pu rfl ?_
 refine WL.a (d:=10) rfl rfl rfl (yX (v:=(.agg #[(.int .u8 15),(.int .i64 (i64 z4o)),(.int .i64 z4p),(.slice none 0 0)])) (Eos.parts (l:=[.const (.int .u8 15),.tmp 8,.tmp 9]) (.cons rfl (.cons rfl (.cons rfl .nil))) [0,1,2]) (fun _=>by kernel_rfl)) ?_
 refine WL.a (d:=11) rfl rfl rfl (y7 rfl) ?_
 refine WL.a (d:=12) rfl rfl rfl (y4 y3i rfl rfl) ?_
 refine WL.yk rfl rfl (y1p (ds:=[(.int .i64 zo.fState.fPc),(.int .i64 zo.fState.fLeft),(.int .u8 zo.fState.fRegs.a0),(.int .u8 zo.fState.fRegs.a1),(.int .u8 zo.fState.fRegs.a2),(.int .u8 zo.fState.fRegs.a3),(.int .u8 zo.fX.fOp),(.int .i64 zo.fX.fA),(.int .i64 zo.fX.fB),(.int .i64 zo.fX.fC),(.slice z4q zo.fMem.length z4r),(.int .u8 15),(.int .i64 (i64 z4o)),(.int .i64 z4p),(.slice none 0 0)]) y1Y rfl rfl rfl rfl rfl .here rfl rfl) ?_
 refine WL.nil ?_
 refine WX.nilRow 5 1 ?_
 obtain rfl:=Option.some.inj h
 refine WX.ye Tryd.results112 .nil (fun w hw=>?_)
 exact ⟨z4q,z4r,none,0,y1b,zdl,hw.sub (.cons .h1 (.cons .here .nil))⟩
def yY (zk : Sproc_execution) : Option (Int × Bool × Sproc_execution) :=
 (yc zk zk.fX.fC).bind fun zdm=>chk ((0 : Int) ≤ zk.fX.fC ∧ zk.fX.fC < 4) (if decide ((i64 (zk.fX.fB + (i64 (nth ([zk.fState.fRegs.a0,zk.fState.fRegs.a1,zk.fState.fRegs.a2,zk.fState.fRegs.a3] : List Int) zk.fX.fC)))) ≥ ((zk.fMem.length : Nat) : Int)) then (yz zk 2 0).bind fun z8j=>some (0,false,z8j) else some ((i64 (zk.fX.fB + (i64 (nth ([zk.fState.fRegs.a0,zk.fState.fRegs.a1,zk.fState.fRegs.a2,zk.fState.fRegs.a3] : List Int) zk.fX.fC)))),true,zk))
set_option maxRecDepth 20000 in
theorem y2F (Z : Zp) (z3k : Nat) (z52 : Option Addr) (z54 : Nat) (z55 : Option Addr) (z56 : Nat) (zk : Sproc_execution) (r : Int × Bool × Sproc_execution)
  (h : yY zk = some r) (w₀ : World) (hz : PZ (fps [stb z3k 65 [(.int .i64 zk.fState.fPc),(.int .i64 zk.fState.fLeft),(.int .u8 zk.fState.fRegs.a0),(.int .u8 zk.fState.fRegs.a1),(.int .u8 zk.fState.fRegs.a2),(.int .u8 zk.fState.fRegs.a3),(.int .u8 zk.fX.fOp),(.int .i64 zk.fX.fA),(.int .i64 zk.fX.fB),(.int .i64 zk.fX.fC),(.slice z52 zk.fMem.length z54),(.int .u8 zk.fAct.fKind),(.int .i64 zk.fAct.fA),(.int .i64 zk.fAct.fB),(.slice z55 zk.fAct.fData.length z56)]]) w₀ Z)
  (z8k : ZS Z 1 (fun r x=>r = e5 x) z52 z54 zk.fMem)
  (z8l : ZS Z 1 (fun r x=>r = e5 x) z55 z56 zk.fAct.fData)
  (hown : Hp (fps [stb z3k 65 [(.int .i64 zk.fState.fPc),(.int .i64 zk.fState.fLeft),(.int .u8 zk.fState.fRegs.a0),(.int .u8 zk.fState.fRegs.a1),(.int .u8 zk.fState.fRegs.a2),(.int .u8 zk.fState.fRegs.a3),(.int .u8 zk.fX.fOp),(.int .i64 zk.fX.fA),(.int .i64 zk.fX.fB),(.int .i64 zk.fX.fC),(.slice z52 zk.fMem.length z54),(.int .u8 zk.fAct.fKind),(.int .i64 zk.fAct.fA),(.int .i64 zk.fAct.fB),(.slice z55 zk.fAct.fData.length z56)]]) w₀ w₀ [stb z3k 65 [(.int .i64 zk.fState.fPc),(.int .i64 zk.fState.fLeft),(.int .u8 zk.fState.fRegs.a0),(.int .u8 zk.fState.fRegs.a1),(.int .u8 zk.fState.fRegs.a2),(.int .u8 zk.fState.fRegs.a3),(.int .u8 zk.fX.fOp),(.int .i64 zk.fX.fA),(.int .i64 zk.fX.fB),(.int .i64 zk.fX.fC),(.slice z52 zk.fMem.length z54),(.int .u8 zk.fAct.fKind),(.int .i64 zk.fAct.fA),(.int .i64 zk.fAct.fB),(.slice z55 zk.fAct.fData.length z56)]]) :
  Calls Tryd.prog 109 #[(.pointer (some ⟨z3k,0,none⟩))] w₀ fun e w'=>∃ Zn : Zp,∃ zad : Option Addr,∃ zae : Nat,∃ zaf : Option Addr,∃ zag : Nat,e = .returned (.tuple #[(.int .i64 r.1),(.bool r.2.1)]) ∧ ((ZS (Z ++ Zn) 1 (fun r x=>r = e5 x) zad zae r.2.2.fMem) ∧ (ZS (Z ++ Zn) 1 (fun r x=>r = e5 x) zaf zag r.2.2.fAct.fData)) ∧ Hp (fps [stb z3k 65 [(.int .i64 zk.fState.fPc),(.int .i64 zk.fState.fLeft),(.int .u8 zk.fState.fRegs.a0),(.int .u8 zk.fState.fRegs.a1),(.int .u8 zk.fState.fRegs.a2),(.int .u8 zk.fState.fRegs.a3),(.int .u8 zk.fX.fOp),(.int .i64 zk.fX.fA),(.int .i64 zk.fX.fB),(.int .i64 zk.fX.fC),(.slice z52 zk.fMem.length z54),(.int .u8 zk.fAct.fKind),(.int .i64 zk.fAct.fA),(.int .i64 zk.fAct.fB),(.slice z55 zk.fAct.fData.length z56)]]) w₀ w' [fz Zn,stb z3k 65 [(.int .i64 r.2.2.fState.fPc),(.int .i64 r.2.2.fState.fLeft),(.int .u8 r.2.2.fState.fRegs.a0),(.int .u8 r.2.2.fState.fRegs.a1),(.int .u8 r.2.2.fState.fRegs.a2),(.int .u8 r.2.2.fState.fRegs.a3),(.int .u8 r.2.2.fX.fOp),(.int .i64 r.2.2.fX.fA),(.int .i64 r.2.2.fX.fB),(.int .i64 r.2.2.fX.fC),(.slice zad r.2.2.fMem.length zae),(.int .u8 r.2.2.fAct.fKind),(.int .i64 r.2.2.fAct.fA),(.int .i64 r.2.2.fAct.fB),(.slice zaf r.2.2.fAct.fData.length zag)]]:=by
 unfold yY at h
 refine Calls.y9 (vs:=[(.pointer (some ⟨z3k,0,none⟩))]) (pre:=[stb z3k 65 [(.int .i64 zk.fState.fPc),(.int .i64 zk.fState.fLeft),(.int .u8 zk.fState.fRegs.a0),(.int .u8 zk.fState.fRegs.a1),(.int .u8 zk.fState.fRegs.a2),(.int .u8 zk.fState.fRegs.a3),(.int .u8 zk.fX.fOp),(.int .i64 zk.fX.fA),(.int .i64 zk.fX.fB),(.int .i64 zk.fX.fC),(.slice z52 zk.fMem.length z54),(.int .u8 zk.fAct.fKind),(.int .i64 zk.fAct.fA),(.int .i64 zk.fAct.fB),(.slice z55 zk.fAct.fData.length z56)]]) (env:=[(0,(.pointer (some ⟨z3k,0,none⟩)))]) Tryd.func109 rfl Tryd.ntmps109 rfl (hown) rfl ?_
 refine WC.pool (WC.b (WC.a (WL.pu rfl (WL.pu rfl (WL.nil (WX.a (WC.b ?_)))))))
 obtain ⟨zdm,zdn,h⟩:=zh h
 obtain ⟨zdo,h⟩:=ya h
 refine WC.y1n (fun i=>[].contains i) [] rfl ?_
 refine WD.a (i:=0) (d:=5) (by kernel_rfl) rfl z7 z8 rfl rfl rfl (fun _=>q_m rfl) ?_
 refine WD.a (i:=1) (d:=6) (by kernel_rfl) rfl z7 z8 rfl rfl rfl (fun _=>y7 rfl) ?_
 refine WD.a (i:=2) (d:=7) (by kernel_rfl) rfl z7 z8 rfl rfl rfl (fun _=>y4 yH rfl rfl) ?_
 refine WD.a (i:=3) (d:=8) (by kernel_rfl) rfl z7 z8 rfl rfl rfl (fun _=>y4 y23 rfl rfl) ?_
 refine WD.e (i:=4) (d:=9) (by kernel_rfl) rfl z7 z8 rfl rfl rfl (y6 yg rfl (yb .h1 rfl)) ?_
 refine WD.a (i:=5) (d:=10) (by kernel_rfl) rfl z7 z8 rfl rfl rfl (fun _=>q_m rfl) ?_
 refine WD.a (i:=6) (d:=11) (by kernel_rfl) rfl z7 z8 rfl rfl rfl (fun _=>q_m rfl) ?_
 refine WD.a (i:=7) (d:=12) (by kernel_rfl) rfl z7 z8 rfl rfl rfl (fun _=>y7 rfl) ?_
 refine WD.a (i:=8) (d:=13) (by kernel_rfl) rfl z7 z8 rfl rfl rfl (fun _=>y4 yH rfl rfl) ?_
 refine WD.a (i:=9) (d:=14) (by kernel_rfl) rfl z7 z8 rfl rfl rfl (fun _=>y4 y3O rfl rfl) ?_
 refine WD.e (i:=10) (d:=15) (by kernel_rfl) rfl z7 z8 rfl rfl rfl (y6 yg rfl (yb .h1 rfl)) ?_
 refine WD.c (i:=11) (d:=16) (by kernel_rfl) rfl z7 z8 rfl rfl rfl (zI (l:=[.tmp 10,.tmp 15]) Tryd.call108 (.cons rfl (.cons rfl .nil))) (y2c hz .nil .here (.cons .h1 .nil) fun w pz ho la=>yh _ _ _ _ _ _ _ _ _ zdn w pz ((z8k.mono (Zle.left _ _)).mono (Zle.left _ _)) ((z8l.mono (Zle.left _ _)).mono (Zle.left _ _)) ((la _ (.head _) _).stb)) ?_
 refine WD.a (i:=12) (d:=17) (by kernel_rfl) rfl z7 z8 rfl rfl rfl (fun _=>y7 rfl) ?_
 refine WD.e (i:=13) (d:=18) (by kernel_rfl) rfl z7 z8 rfl rfl rfl (y6 yS rfl (y20 (l:=([zk.fState.fRegs.a0,zk.fState.fRegs.a1,zk.fState.fRegs.a2,zk.fState.fRegs.a3] : List Int)) (f:=Value.int .u8) (k:=2) (m:=6) .h1 rfl rfl zdo)) ?_
 refine WD.a (i:=14) (d:=19) (by kernel_rfl) rfl z7 z8 rfl rfl rfl (fun _=>y4y Tryd.underlying5 Tryd.underlying3 rfl rfl) ?_
 refine WD.a (i:=15) (d:=20) (by kernel_rfl) rfl z7 z8 rfl rfl rfl (fun _=>q_add rfl rfl rfl) ?_
 refine WD.a (i:=16) (d:=4) (by kernel_rfl) rfl z7 z8 rfl rfl rfl (fun _=>q_z rfl) ?_
 refine WD.done (by kernel_rfl) ?_
 refine WX.a (WC.b (WC.b (WC.a (WL.pu rfl (WL.pu rfl ?_)))))
 refine WL.a (d:=23) rfl rfl rfl (y7 rfl) ?_
 refine WL.a (d:=24) rfl rfl rfl (y4 y6n rfl rfl) ?_
 refine WL.a (d:=25) rfl rfl rfl (y6 y4R rfl (yb .h1 rfl)) ?_
 refine WL.a (d:=26) rfl rfl rfl (y27 Tryd.underlying35 rfl) ?_
 refine WL.pu rfl (WL.nil (WX.a ?_))
 refine WC.cond rfl (fun z8m=>?_) (fun z8m=>?_)
 ·replace h:=yn h z8m
  refine WC.b ?_
  obtain ⟨z8j,zdp,h⟩:=zh h
  refine WC.a (WL.pu rfl ?_)
  refine WL.yj (dd:=29) rfl rfl rfl (zI (l:=[.tmp 28,.const (.int .u8 2),.const (.int .i64 0)]) Tryd.call112 (.cons rfl (.cons rfl (.cons rfl .nil)))) (.cons .h1 .nil) (ccz hz (.cons .h1 .nil) .here fun w pz ho=>y2e _ _ _ _ _ _ _ _ _ _ zdp w pz (z8k.mono (Zle.left _ _)) (z8l.mono (Zle.left _ _)) ho) ?_
  rintro zdq zdr zds zdt zdu
  refine WL.nil (WX.a (WC.b (WC.a (WL.pu rfl (WL.pu rfl (WL.nil (WX.a (WC.ret (WX.yd ?_)))))))))
  refine WX.freezeS (ls:=z8j.fAct.fData) .h1 .h1 hz (RR.yM (enc:=e5) (fun _=>rfl) _) ?_
  intro zdv zdw zdx
  obtain rfl:=Option.some.inj h
  refine WX.yf Tryd.results109 (.tmp rfl (.tmp rfl .nil)) (fun w hw=>?_)
  exact ⟨zdv,zdq,zdr,zds,zdt,ret2 rfl rfl,⟨(zdu.mono zdw),zdx⟩,hw.sub (.cons .here (.cons .here .nil))⟩
 ·replace h:=yo h z8m
  refine WC.skip (WX.a (WC.b (WC.a (WL.pu rfl (WL.pu rfl (WL.pu rfl (WL.nil (WX.a (WC.ret ?_)))))))))
  obtain rfl:=Option.some.inj h
  refine WX.yf Tryd.results109 (.tmp rfl (.tmp rfl .nil)) (fun w hw=>?_)
  exact ⟨[],z52,z54,z55,z56,ret2 rfl rfl,⟨(z8k.mono (Zle.left _ _)),(z8l.mono (Zle.left _ _))⟩,hw.sub (.cons .here (.cons .here .nil))⟩
def y1C (zw : Sproc_execution) : Option Sproc_execution :=
 (yY zw).bind fun zt=>if zt.2.1 then (yc zt.2.2 zt.2.2.fX.fA).bind fun zdy=>chk ((0 : Int) ≤ zt.1 ∧ zt.1 < ((zt.2.2.fMem.length : Nat) : Int)) (chk ((0 : Int) ≤ zt.2.2.fX.fA ∧ zt.2.2.fX.fA < 4) (some (⟨(⟨zt.2.2.fState.fPc,zt.2.2.fState.fLeft,(⟨nth (([zt.2.2.fState.fRegs.a0,zt.2.2.fState.fRegs.a1,zt.2.2.fState.fRegs.a2,zt.2.2.fState.fRegs.a3] : List Int).set (zt.2.2.fX.fA : Int).toNat (nth zt.2.2.fMem zt.1)) 0,nth (([zt.2.2.fState.fRegs.a0,zt.2.2.fState.fRegs.a1,zt.2.2.fState.fRegs.a2,zt.2.2.fState.fRegs.a3] : List Int).set (zt.2.2.fX.fA : Int).toNat (nth zt.2.2.fMem zt.1)) 1,nth (([zt.2.2.fState.fRegs.a0,zt.2.2.fState.fRegs.a1,zt.2.2.fState.fRegs.a2,zt.2.2.fState.fRegs.a3] : List Int).set (zt.2.2.fX.fA : Int).toNat (nth zt.2.2.fMem zt.1)) 2,nth (([zt.2.2.fState.fRegs.a0,zt.2.2.fState.fRegs.a1,zt.2.2.fState.fRegs.a2,zt.2.2.fState.fRegs.a3] : List Int).set (zt.2.2.fX.fA : Int).toNat (nth zt.2.2.fMem zt.1)) 3⟩ : S34)⟩ : Sproc_State),zt.2.2.fX,zt.2.2.fMem,zt.2.2.fAct⟩ : Sproc_execution))) else some zt.2.2
set_option maxRecDepth 20000 in
theorem y3R (Z : Zp) (z3l : Nat) (z5x : Option Addr) (z5y : Nat) (z5z : Option Addr) (z5A : Nat) (zw : Sproc_execution) (r : Sproc_execution)
  (h : y1C zw = some r) (w₀ : World) (hz : PZ (fps [stb z3l 65 [(.int .i64 zw.fState.fPc),(.int .i64 zw.fState.fLeft),(.int .u8 zw.fState.fRegs.a0),(.int .u8 zw.fState.fRegs.a1),(.int .u8 zw.fState.fRegs.a2),(.int .u8 zw.fState.fRegs.a3),(.int .u8 zw.fX.fOp),(.int .i64 zw.fX.fA),(.int .i64 zw.fX.fB),(.int .i64 zw.fX.fC),(.slice z5x zw.fMem.length z5y),(.int .u8 zw.fAct.fKind),(.int .i64 zw.fAct.fA),(.int .i64 zw.fAct.fB),(.slice z5z zw.fAct.fData.length z5A)]]) w₀ Z)
  (zdz : ZS Z 1 (fun r x=>r = e5 x) z5x z5y zw.fMem)
  (zdA : ZS Z 1 (fun r x=>r = e5 x) z5z z5A zw.fAct.fData)
  (hown : Hp (fps [stb z3l 65 [(.int .i64 zw.fState.fPc),(.int .i64 zw.fState.fLeft),(.int .u8 zw.fState.fRegs.a0),(.int .u8 zw.fState.fRegs.a1),(.int .u8 zw.fState.fRegs.a2),(.int .u8 zw.fState.fRegs.a3),(.int .u8 zw.fX.fOp),(.int .i64 zw.fX.fA),(.int .i64 zw.fX.fB),(.int .i64 zw.fX.fC),(.slice z5x zw.fMem.length z5y),(.int .u8 zw.fAct.fKind),(.int .i64 zw.fAct.fA),(.int .i64 zw.fAct.fB),(.slice z5z zw.fAct.fData.length z5A)]]) w₀ w₀ [stb z3l 65 [(.int .i64 zw.fState.fPc),(.int .i64 zw.fState.fLeft),(.int .u8 zw.fState.fRegs.a0),(.int .u8 zw.fState.fRegs.a1),(.int .u8 zw.fState.fRegs.a2),(.int .u8 zw.fState.fRegs.a3),(.int .u8 zw.fX.fOp),(.int .i64 zw.fX.fA),(.int .i64 zw.fX.fB),(.int .i64 zw.fX.fC),(.slice z5x zw.fMem.length z5y),(.int .u8 zw.fAct.fKind),(.int .i64 zw.fAct.fA),(.int .i64 zw.fAct.fB),(.slice z5z zw.fAct.fData.length z5A)]]) :
  Calls Tryd.prog 87 #[(.pointer (some ⟨z3l,0,none⟩))] w₀ fun e w'=>∃ Zn : Zp,∃ zah : Option Addr,∃ zai : Nat,∃ zaj : Option Addr,∃ zak : Nat,e = .returned (.tuple #[]) ∧ ((ZS (Z ++ Zn) 1 (fun r x=>r = e5 x) zah zai r.fMem) ∧ (ZS (Z ++ Zn) 1 (fun r x=>r = e5 x) zaj zak r.fAct.fData)) ∧ Hp (fps [stb z3l 65 [(.int .i64 zw.fState.fPc),(.int .i64 zw.fState.fLeft),(.int .u8 zw.fState.fRegs.a0),(.int .u8 zw.fState.fRegs.a1),(.int .u8 zw.fState.fRegs.a2),(.int .u8 zw.fState.fRegs.a3),(.int .u8 zw.fX.fOp),(.int .i64 zw.fX.fA),(.int .i64 zw.fX.fB),(.int .i64 zw.fX.fC),(.slice z5x zw.fMem.length z5y),(.int .u8 zw.fAct.fKind),(.int .i64 zw.fAct.fA),(.int .i64 zw.fAct.fB),(.slice z5z zw.fAct.fData.length z5A)]]) w₀ w' [fz Zn,stb z3l 65 [(.int .i64 r.fState.fPc),(.int .i64 r.fState.fLeft),(.int .u8 r.fState.fRegs.a0),(.int .u8 r.fState.fRegs.a1),(.int .u8 r.fState.fRegs.a2),(.int .u8 r.fState.fRegs.a3),(.int .u8 r.fX.fOp),(.int .i64 r.fX.fA),(.int .i64 r.fX.fB),(.int .i64 r.fX.fC),(.slice zah r.fMem.length zai),(.int .u8 r.fAct.fKind),(.int .i64 r.fAct.fA),(.int .i64 r.fAct.fB),(.slice zaj r.fAct.fData.length zak)]]:=by
 unfold y1C at h
 refine Calls.y9 (vs:=[(.pointer (some ⟨z3l,0,none⟩))]) (pre:=[stb z3l 65 [(.int .i64 zw.fState.fPc),(.int .i64 zw.fState.fLeft),(.int .u8 zw.fState.fRegs.a0),(.int .u8 zw.fState.fRegs.a1),(.int .u8 zw.fState.fRegs.a2),(.int .u8 zw.fState.fRegs.a3),(.int .u8 zw.fX.fOp),(.int .i64 zw.fX.fA),(.int .i64 zw.fX.fB),(.int .i64 zw.fX.fC),(.slice z5x zw.fMem.length z5y),(.int .u8 zw.fAct.fKind),(.int .i64 zw.fAct.fA),(.int .i64 zw.fAct.fB),(.slice z5z zw.fAct.fData.length z5A)]]) (env:=[(0,(.pointer (some ⟨z3l,0,none⟩)))]) Tryd.func87 rfl Tryd.ntmps87 rfl (hown) rfl ?_
 refine WC.pool (WC.b ?_)
 obtain ⟨zt,zdB,h⟩:=zh h
 refine WC.a (WL.pu rfl ?_)
 refine WL.y2g (dd:=6) rfl rfl rfl (zI (l:=[.tmp 5]) Tryd.call109 (.cons rfl .nil)) (.cons .h1 .nil) (ccz hz (.cons .h1 .nil) .here fun w pz ho=>y2F _ _ _ _ _ _ _ _ zdB w pz (zdz.mono (Zle.left _ _)) (zdA.mono (Zle.left _ _)) ho) ?_
 rintro z8n z8o z8p z8q z8r ⟨z7x,z8s⟩
 refine WL.merge .here .h1 ?_
 refine WL.pu rfl (WL.pu rfl (WL.pu rfl (WL.pu rfl (WL.pu rfl (WL.nil (WX.a (WC.b (WC.a (WL.pu rfl (WL.nil (WX.a ?_)))))))))))
 refine WC.cond rfl (fun z8t=>?_) (fun z8t=>?_)
 ·replace h:=yn h z8t
  obtain ⟨zdy,zdC,h⟩:=zh h
  obtain ⟨zdD,h⟩:=ya h
  obtain ⟨zdE,h⟩:=ya h
  refine WC.y1n (fun i=>[15].contains i) [] rfl ?_
  refine WD.a (i:=0) (d:=10) (by kernel_rfl) rfl z7 z8 rfl rfl rfl (fun _=>q_m rfl) ?_
  refine WD.a (i:=1) (d:=11) (by kernel_rfl) rfl z7 z8 rfl rfl rfl (fun _=>q_m rfl) ?_
  refine WD.a (i:=2) (d:=12) (by kernel_rfl) rfl z7 z8 rfl rfl rfl (fun _=>y7 rfl) ?_
  refine WD.a (i:=3) (d:=13) (by kernel_rfl) rfl z7 z8 rfl rfl rfl (fun _=>y4 yH rfl rfl) ?_
  refine WD.a (i:=4) (d:=14) (by kernel_rfl) rfl z7 z8 rfl rfl rfl (fun _=>y4 y1r rfl rfl) ?_
  refine WD.e (i:=5) (d:=15) (by kernel_rfl) rfl z7 z8 rfl rfl rfl (y6 yg rfl (yb .h1 rfl)) ?_
  refine WD.c (i:=6) (d:=16) (by kernel_rfl) rfl z7 z8 rfl rfl rfl (zI (l:=[.tmp 10,.tmp 15]) Tryd.call108 (.cons rfl (.cons rfl .nil))) (y2c hz .nil .here (.cons .h1 .nil) fun w pz ho la=>yh _ _ _ _ _ _ _ _ _ zdC w pz ((z7x.mono (Zle.y5 _ _ _)).mono (Zle.left _ _)) ((z8s.mono (Zle.y5 _ _ _)).mono (Zle.left _ _)) ((la _ (.head _) _).stb)) ?_
  refine WD.a (i:=7) (d:=17) (by kernel_rfl) rfl z7 z8 rfl rfl rfl (fun _=>q_m rfl) ?_
  refine WD.a (i:=8) (d:=18) (by kernel_rfl) rfl z7 z8 rfl rfl rfl (fun _=>y7 rfl) ?_
  refine WD.a (i:=9) (d:=19) (by kernel_rfl) rfl z7 z8 rfl rfl rfl (fun _=>y4 y6n rfl rfl) ?_
  refine WD.e (i:=10) (d:=20) (by kernel_rfl) rfl z7 z8 rfl rfl rfl (y6 y4R rfl (yb .h1 rfl)) ?_
  refine WD.a (i:=11) (d:=21) (by kernel_rfl) rfl z7 z8 rfl rfl rfl (fun _=>q_m rfl) ?_
  refine WD.znth (j:=12) (dd:=22) (by kernel_rfl) rfl z7 z8 rfl rfl (Z:=(Z ++ ([] ++ z8n))) (Pr:=(fun r x=>r = e5 x)) y2k rfl rfl (z7x.mono (Zle.y5 _ _ _)) zdD ?_
  rintro zmi zmj zdF zmk rfl
  refine WD.e (i:=13) (d:=23) (by kernel_rfl) rfl z7 z8 rfl rfl rfl (y6 yS rfl (y2H (hz.pv2 .here) zdF rfl)) ?_
  refine WD.a (i:=14) (d:=24) (by kernel_rfl) rfl z7 z8 rfl rfl rfl (fun _=>y7 rfl) ?_
  refine WD.y2q (i:=15) rfl (by kernel_rfl) rfl rfl rfl (by kernel_rfl) (y32 (l:=([zt.2.2.fState.fRegs.a0,zt.2.2.fState.fRegs.a1,zt.2.2.fState.fRegs.a2,zt.2.2.fState.fRegs.a3] : List Int)) (f:=Value.int .u8) (u:=(nth zt.2.2.fMem zt.1)) (k:=2) (m:=6) (j:=4) (ds:=[(.int .i64 zt.2.2.fState.fPc),(.int .i64 zt.2.2.fState.fLeft),(.int .u8 (nth (([zt.2.2.fState.fRegs.a0,zt.2.2.fState.fRegs.a1,zt.2.2.fState.fRegs.a2,zt.2.2.fState.fRegs.a3] : List Int).set (zt.2.2.fX.fA : Int).toNat (nth zt.2.2.fMem zt.1)) 0)),(.int .u8 (nth (([zt.2.2.fState.fRegs.a0,zt.2.2.fState.fRegs.a1,zt.2.2.fState.fRegs.a2,zt.2.2.fState.fRegs.a3] : List Int).set (zt.2.2.fX.fA : Int).toNat (nth zt.2.2.fMem zt.1)) 1)),(.int .u8 (nth (([zt.2.2.fState.fRegs.a0,zt.2.2.fState.fRegs.a1,zt.2.2.fState.fRegs.a2,zt.2.2.fState.fRegs.a3] : List Int).set (zt.2.2.fX.fA : Int).toNat (nth zt.2.2.fMem zt.1)) 2)),(.int .u8 (nth (([zt.2.2.fState.fRegs.a0,zt.2.2.fState.fRegs.a1,zt.2.2.fState.fRegs.a2,zt.2.2.fState.fRegs.a3] : List Int).set (zt.2.2.fX.fA : Int).toNat (nth zt.2.2.fMem zt.1)) 3)),(.int .u8 zt.2.2.fX.fOp),(.int .i64 zt.2.2.fX.fA),(.int .i64 zt.2.2.fX.fB),(.int .i64 zt.2.2.fX.fC),(.slice z8o zt.2.2.fMem.length z8p),(.int .u8 zt.2.2.fAct.fKind),(.int .i64 zt.2.2.fAct.fA),(.int .i64 zt.2.2.fAct.fB),(.slice z8q zt.2.2.fAct.fData.length z8r)]) y3P rfl rfl rfl rfl .h1 rfl rfl zdE rfl rfl) ?_
  refine WD.done (by kernel_rfl) ?_
  obtain rfl:=Option.some.inj h
  refine WX.ye Tryd.results87 .nil (fun w hw=>?_)
  exact ⟨([] ++ z8n),z8o,z8p,z8q,z8r,y1b,⟨(z7x.mono (Zle.y5 _ _ _)),(z8s.mono (Zle.y5 _ _ _))⟩,hw.sub (.cons .h1 (.cons .here .nil))⟩
 ·replace h:=yo h z8t
  refine WC.skip ?_
  obtain rfl:=Option.some.inj h
  refine WX.ye Tryd.results87 .nil (fun w hw=>?_)
  exact ⟨([] ++ z8n),z8o,z8p,z8q,z8r,y1b,⟨(z7x.mono (Zle.y5 _ _ _)),(z8s.mono (Zle.y5 _ _ _))⟩,hw.sub (.cons .here (.cons .here .nil))⟩
def y1t (zx : Sproc_execution) : Option Sproc_execution :=
 (yY zx).bind fun zN=>if zN.2.1 then (yc zN.2.2 zN.2.2.fX.fA).bind fun zdG=>chk ((0 : Int) ≤ zN.2.2.fX.fA ∧ zN.2.2.fX.fA < 4) (some (⟨zN.2.2.fState,zN.2.2.fX,zN.2.2.fMem,(⟨1,zN.1,i64 (nth ([zN.2.2.fState.fRegs.a0,zN.2.2.fState.fRegs.a1,zN.2.2.fState.fRegs.a2,zN.2.2.fState.fRegs.a3] : List Int) zN.2.2.fX.fA),[]⟩ : Sproc_Act)⟩ : Sproc_execution)) else some zN.2.2
set_option maxRecDepth 20000 in
theorem y3E (Z : Zp) (z3m : Nat) (z5B : Option Addr) (z5C : Nat) (z5D : Option Addr) (z5E : Nat) (zx : Sproc_execution) (r : Sproc_execution)
  (h : y1t zx = some r) (w₀ : World) (hz : PZ (fps [stb z3m 65 [(.int .i64 zx.fState.fPc),(.int .i64 zx.fState.fLeft),(.int .u8 zx.fState.fRegs.a0),(.int .u8 zx.fState.fRegs.a1),(.int .u8 zx.fState.fRegs.a2),(.int .u8 zx.fState.fRegs.a3),(.int .u8 zx.fX.fOp),(.int .i64 zx.fX.fA),(.int .i64 zx.fX.fB),(.int .i64 zx.fX.fC),(.slice z5B zx.fMem.length z5C),(.int .u8 zx.fAct.fKind),(.int .i64 zx.fAct.fA),(.int .i64 zx.fAct.fB),(.slice z5D zx.fAct.fData.length z5E)]]) w₀ Z)
  (zdH : ZS Z 1 (fun r x=>r = e5 x) z5B z5C zx.fMem)
  (zdI : ZS Z 1 (fun r x=>r = e5 x) z5D z5E zx.fAct.fData)
  (hown : Hp (fps [stb z3m 65 [(.int .i64 zx.fState.fPc),(.int .i64 zx.fState.fLeft),(.int .u8 zx.fState.fRegs.a0),(.int .u8 zx.fState.fRegs.a1),(.int .u8 zx.fState.fRegs.a2),(.int .u8 zx.fState.fRegs.a3),(.int .u8 zx.fX.fOp),(.int .i64 zx.fX.fA),(.int .i64 zx.fX.fB),(.int .i64 zx.fX.fC),(.slice z5B zx.fMem.length z5C),(.int .u8 zx.fAct.fKind),(.int .i64 zx.fAct.fA),(.int .i64 zx.fAct.fB),(.slice z5D zx.fAct.fData.length z5E)]]) w₀ w₀ [stb z3m 65 [(.int .i64 zx.fState.fPc),(.int .i64 zx.fState.fLeft),(.int .u8 zx.fState.fRegs.a0),(.int .u8 zx.fState.fRegs.a1),(.int .u8 zx.fState.fRegs.a2),(.int .u8 zx.fState.fRegs.a3),(.int .u8 zx.fX.fOp),(.int .i64 zx.fX.fA),(.int .i64 zx.fX.fB),(.int .i64 zx.fX.fC),(.slice z5B zx.fMem.length z5C),(.int .u8 zx.fAct.fKind),(.int .i64 zx.fAct.fA),(.int .i64 zx.fAct.fB),(.slice z5D zx.fAct.fData.length z5E)]]) :
  Calls Tryd.prog 88 #[(.pointer (some ⟨z3m,0,none⟩))] w₀ fun e w'=>∃ Zn : Zp,∃ zal : Option Addr,∃ zam : Nat,∃ zan : Option Addr,∃ zao : Nat,e = .returned (.tuple #[]) ∧ ((ZS (Z ++ Zn) 1 (fun r x=>r = e5 x) zal zam r.fMem) ∧ (ZS (Z ++ Zn) 1 (fun r x=>r = e5 x) zan zao r.fAct.fData)) ∧ Hp (fps [stb z3m 65 [(.int .i64 zx.fState.fPc),(.int .i64 zx.fState.fLeft),(.int .u8 zx.fState.fRegs.a0),(.int .u8 zx.fState.fRegs.a1),(.int .u8 zx.fState.fRegs.a2),(.int .u8 zx.fState.fRegs.a3),(.int .u8 zx.fX.fOp),(.int .i64 zx.fX.fA),(.int .i64 zx.fX.fB),(.int .i64 zx.fX.fC),(.slice z5B zx.fMem.length z5C),(.int .u8 zx.fAct.fKind),(.int .i64 zx.fAct.fA),(.int .i64 zx.fAct.fB),(.slice z5D zx.fAct.fData.length z5E)]]) w₀ w' [fz Zn,stb z3m 65 [(.int .i64 r.fState.fPc),(.int .i64 r.fState.fLeft),(.int .u8 r.fState.fRegs.a0),(.int .u8 r.fState.fRegs.a1),(.int .u8 r.fState.fRegs.a2),(.int .u8 r.fState.fRegs.a3),(.int .u8 r.fX.fOp),(.int .i64 r.fX.fA),(.int .i64 r.fX.fB),(.int .i64 r.fX.fC),(.slice zal r.fMem.length zam),(.int .u8 r.fAct.fKind),(.int .i64 r.fAct.fA),(.int .i64 r.fAct.fB),(.slice zan r.fAct.fData.length zao)]]:=by
 unfold y1t at h
 refine Calls.y9 (vs:=[(.pointer (some ⟨z3m,0,none⟩))]) (pre:=[stb z3m 65 [(.int .i64 zx.fState.fPc),(.int .i64 zx.fState.fLeft),(.int .u8 zx.fState.fRegs.a0),(.int .u8 zx.fState.fRegs.a1),(.int .u8 zx.fState.fRegs.a2),(.int .u8 zx.fState.fRegs.a3),(.int .u8 zx.fX.fOp),(.int .i64 zx.fX.fA),(.int .i64 zx.fX.fB),(.int .i64 zx.fX.fC),(.slice z5B zx.fMem.length z5C),(.int .u8 zx.fAct.fKind),(.int .i64 zx.fAct.fA),(.int .i64 zx.fAct.fB),(.slice z5D zx.fAct.fData.length z5E)]]) (env:=[(0,(.pointer (some ⟨z3m,0,none⟩)))]) Tryd.func88 rfl Tryd.ntmps88 rfl (hown) rfl ?_
 refine WC.pool (WC.b ?_)
 obtain ⟨zN,zdJ,h⟩:=zh h
 refine WC.a (WL.pu rfl ?_)
 refine WL.y2g (dd:=6) rfl rfl rfl (zI (l:=[.tmp 5]) Tryd.call109 (.cons rfl .nil)) (.cons .h1 .nil) (ccz hz (.cons .h1 .nil) .here fun w pz ho=>y2F _ _ _ _ _ _ _ _ zdJ w pz (zdH.mono (Zle.left _ _)) (zdI.mono (Zle.left _ _)) ho) ?_
 rintro zap z8u z8v zdK zdL ⟨z8w,zaq⟩
 refine WL.merge .here .h1 ?_
 refine WL.pu rfl (WL.pu rfl (WL.pu rfl (WL.pu rfl (WL.pu rfl (WL.nil (WX.a (WC.b (WC.a (WL.pu rfl (WL.nil (WX.a ?_)))))))))))
 refine WC.cond rfl (fun z8x=>?_) (fun z8x=>?_)
 ·replace h:=yn h z8x
  obtain ⟨zdG,zdM,h⟩:=zh h
  obtain ⟨zdN,h⟩:=ya h
  refine WC.a (WL.pu rfl (WL.pu rfl (WL.pu rfl (WL.pu rfl ?_))))
  refine WL.a (d:=14) rfl rfl rfl (y7 rfl) ?_
  refine WL.a (d:=15) rfl rfl rfl (y4 yH rfl rfl) ?_
  refine WL.a (d:=16) rfl rfl rfl (y4 y1r rfl rfl) ?_
  refine WL.a (d:=17) rfl rfl rfl (y6 yg rfl (yb .h1 rfl)) ?_
  refine WL.b (dd:=18) rfl rfl rfl (zI (l:=[.tmp 12,.tmp 17]) Tryd.call108 (.cons rfl (.cons rfl .nil))) .nil (y2c hz .nil .here (.cons .h1 .nil) fun w pz ho la=>yh _ _ _ _ _ _ _ _ _ zdM w pz ((z8w.mono (Zle.y5 _ _ _)).mono (Zle.left _ _)) ((zaq.mono (Zle.y5 _ _ _)).mono (Zle.left _ _)) ((la _ (.head _) _).stb)) ?_
  refine WL.a (d:=19) rfl rfl rfl (y7 rfl) ?_
  refine WL.a (d:=20) rfl rfl rfl (y6 yS rfl (y20 (l:=([zN.2.2.fState.fRegs.a0,zN.2.2.fState.fRegs.a1,zN.2.2.fState.fRegs.a2,zN.2.2.fState.fRegs.a3] : List Int)) (f:=Value.int .u8) (k:=2) (m:=6) .h1 rfl rfl zdN)) ?_
  refine WL.a (d:=21) rfl rfl rfl (y4y Tryd.underlying5 Tryd.underlying3 rfl rfl) ?_
  refine WL.a (d:=22) rfl rfl rfl (yX (v:=(.agg #[(.int .u8 1),(.int .i64 zN.1),(.int .i64 (i64 (nth ([zN.2.2.fState.fRegs.a0,zN.2.2.fState.fRegs.a1,zN.2.2.fState.fRegs.a2,zN.2.2.fState.fRegs.a3] : List Int) zN.2.2.fX.fA))),(.slice none 0 0)])) (Eos.parts (l:=[.const (.int .u8 1),.tmp 11,.tmp 21]) (.cons rfl (.cons rfl (.cons rfl .nil))) [0,1,2]) (fun _=>by kernel_rfl)) ?_
  refine WL.a (d:=23) rfl rfl rfl (y7 rfl) ?_
  refine WL.a (d:=24) rfl rfl rfl (y4 y3i rfl rfl) ?_
  refine WL.yk rfl rfl (y1p (ds:=[(.int .i64 zN.2.2.fState.fPc),(.int .i64 zN.2.2.fState.fLeft),(.int .u8 zN.2.2.fState.fRegs.a0),(.int .u8 zN.2.2.fState.fRegs.a1),(.int .u8 zN.2.2.fState.fRegs.a2),(.int .u8 zN.2.2.fState.fRegs.a3),(.int .u8 zN.2.2.fX.fOp),(.int .i64 zN.2.2.fX.fA),(.int .i64 zN.2.2.fX.fB),(.int .i64 zN.2.2.fX.fC),(.slice z8u zN.2.2.fMem.length z8v),(.int .u8 1),(.int .i64 zN.1),(.int .i64 (i64 (nth ([zN.2.2.fState.fRegs.a0,zN.2.2.fState.fRegs.a1,zN.2.2.fState.fRegs.a2,zN.2.2.fState.fRegs.a3] : List Int) zN.2.2.fX.fA))),(.slice none 0 0)]) y1Y rfl rfl rfl rfl rfl .h1 rfl rfl) ?_
  refine WL.nil ?_
  obtain rfl:=Option.some.inj h
  refine WX.ye Tryd.results88 .nil (fun w hw=>?_)
  exact ⟨([] ++ zap),z8u,z8v,none,0,y1b,⟨(z8w.mono (Zle.y5 _ _ _)),(ZS.nil _ _ _)⟩,hw.sub (.cons .h1 (.cons .here .nil))⟩
 ·replace h:=yo h z8x
  refine WC.skip ?_
  obtain rfl:=Option.some.inj h
  refine WX.ye Tryd.results88 .nil (fun w hw=>?_)
  exact ⟨([] ++ zap),z8u,z8v,zdK,zdL,y1b,⟨(z8w.mono (Zle.y5 _ _ _)),(zaq.mono (Zle.y5 _ _ _))⟩,hw.sub (.cons .here (.cons .here .nil))⟩
def y1g (z1k : Int) (z1K : Int) (z3n : (List Int) → Option (List Int)) : Nat → (List Int) → Int → Option (List Int)
 | 0,_,_=>none
 | z8y + 1,z1L,z1o=>if decide (z1o < (((List.replicate (z1k : Int).toNat (0 : Int)).length : Nat) : Int)) then chk ((0 : Int) ≤ z1o ∧ z1o < ((z1L.length : Nat) : Int)) (y1g z1k z1K z3n z8y (z1L.set (z1o : Int).toNat (u8 (z1K + (u8 z1o)))) (i64 (z1o + 1))) else z3n z1L
theorem y4j {n : Nat} {z1k : Int} {z1K : Int} {z3n : (List Int) → Option (List Int)} {z1L : List Int} {z1o : Int} {r : List Int} (h : y1g z1k z1K z3n n z1L z1o = some r) : ∃ m,n = m + 1:=by
 cases n with
 | zero=>cases h
 | succ m=>exact ⟨m,rfl⟩
def y2t (z1K : Int) (z1k : Int) : Option (List Int) :=
 chk ((0 : Int) ≤ z1k ∧ (z1k : Int) ≤ z1k ∧ (z1k : Int) * 1 ≤ 140737488355328 ∧ (z1k : Int) ≤ 4611686018427387904) (jp1 (fun (z2X : List Int)=>some z2X) fun z3n=>y1g z1k z1K z3n y1o (List.replicate (z1k : Int).toNat (0 : Int)) 0)
set_option maxRecDepth 20000 in
theorem y5Y (Z : Zp)  (z1K : Int) (z1k : Int) (r : List Int)
  (h : y2t z1K z1k = some r) (w₀ : World) (hz : PZ [] w₀ Z) :
  Calls Tryd.prog 111 #[(.int .u8 z1K),(.int .i64 z1k)] w₀ fun e w'=>∃ zar : Option Addr,∃ zas : Nat,e = .returned (.slice zar r.length zas) ∧ True ∧ Hp [] w₀ w' [row (.slice zar r.length zas) 5 1 (r.flatMap e5)]:=by
 unfold y2t at h
 refine Calls.y9 (vs:=[(.int .u8 z1K),(.int .i64 z1k)]) (pre:=[]) (env:=[(0,(.int .u8 z1K)),(1,(.int .i64 z1k))]) Tryd.func111 rfl Tryd.ntmps111 rfl (Hp.nil w₀ _) rfl ?_
 refine WC.b (WC.a (WL.pu rfl (WL.nil (WX.a (WC.b ?_)))))
 obtain ⟨zdO,h⟩:=ya h
 refine WC.a (WL.pu rfl ?_)
 refine WL.new (dd:=8) rfl rfl rfl (y39 (r:=[(.int .u8 0)]) (z0:=(0 : Int)) y2k y4Q rfl rfl rfl rfl zdO) ?_
 intro z57 _
 refine WL.rowEqD .here (cs':=(List.replicate (z1k : Int).toNat (0 : Int)).flatMap e5) (y4c (enc:=e5) (0 : Int) _) ?_
 refine WL.pu rfl (WL.nil (WX.a ?_))
 obtain ⟨z3n,zdP,h⟩:=y35 h
 refine WC.y2Z (fun (z2X : List Int)=>(z3n z2X = some r)) (fun (z2X : List Int)=>[(5,(.slice (some ⟨z57,0,none⟩) z2X.length ((z1k : Int).toNat)))]) (fun (z2X : List Int)=>[row (.slice (some ⟨z57,0,none⟩) z2X.length ((z1k : Int).toNat)) 5 1 (z2X.flatMap e5)]) ?_ ?_
 ·skip
  refine WC.b (WC.a (WL.pu rfl ?_))
  refine WL.a (d:=10) rfl rfl rfl (y27 Tryd.underlying35 rfl) ?_
  refine WL.pu rfl (WL.nil (WX.a (WC.block ?_)))
  refine WC.loop3 (fun (z5F : Nat) (z1L : List Int) (z1o : Int)=>(y1g z1k z1K z3n z5F z1L z1o = some r)) (fun (z5F : Nat) (z1L : List Int) (z1o : Int)=>[(0,(.int .u8 z1K)),(5,(.slice (some ⟨z57,0,none⟩) z1L.length ((z1k : Int).toNat))),(10,(.int .i64 (((List.replicate (z1k : Int).toNat (0 : Int)).length : Nat) : Int))),(11,(.int .i64 z1o))]) (fun (z5F : Nat) (z1L : List Int) (z1o : Int)=>[row (.slice (some ⟨z57,0,none⟩) z1L.length ((z1k : Int).toNat)) 5 1 (z1L.flatMap e5)]) (fun (z5F : Nat) (z1L : List Int) (z1o : Int)=>z5F) ⟨y1o,(List.replicate (z1k : Int).toNat (0 : Int)),0⟩ h (.cons rfl (.cons rfl (.cons rfl (.cons rfl .nil)))) (.cons .here .nil) ?_
  rintro z5F z1L z1o h
  obtain ⟨z8y,rfl⟩:=y4j h
  rw [y1g] at h
  refine WC.b (WC.a (WL.pu rfl (WL.nil (WX.a (WC.b ?_)))))
  refine WC.cond rfl (fun z8z=>?_) (fun z8z=>?_)
  ·replace h:=yn h z8z
   refine WC.skip (WX.a (WC.b (WC.block (WC.b (WC.a (WL.pu rfl (WL.pu rfl (WL.nil (WX.a ?_)))))))))
   obtain ⟨z5G,h⟩:=ya h
   refine WC.a (WL.pu rfl (WL.pu rfl (WL.pu rfl (WL.pu rfl ?_))))
   refine WL.a (d:=18) rfl rfl rfl (y4y Tryd.underlying3 Tryd.underlying5 rfl rfl) ?_
   refine WL.pu rfl ?_
   refine WL.a (d:=20) rfl rfl rfl (yL y2k rfl rfl z5G.1 z5G.2 y30) ?_
   refine WL.yk rfl rfl (y57 (vs:=[(.int .u8 (u8 (z1K + (u8 z1o))))]) (ds:=(z1L.set (z1o : Int).toNat (u8 (z1K + (u8 z1o)))).flatMap e5) y3P rfl rfl rfl rfl (y6i rfl oc_nil) .here (y5P (enc:=e5) (sz:=1) (k:=0) (fun _=>rfl) z5G.1 z5G.2 (by decide)) (y5M (enc:=e5) (l:=z1L) (sz:=1) (vs:=[(.int .u8 (u8 (z1K + (u8 z1o))))]) (y:=u8 (z1K + (u8 z1o))) (k:=0) (fun _=>rfl) z5G.1 z5G.2 rfl (Nat.le_of_ble_eq_true rfl))) ?_
   refine WL.relen .here (u:=(.slice (some ⟨z57,0,none⟩) ((z1L.set (z1o : Int).toNat (u8 (z1K + (u8 z1o)))).length) ((z1k : Int).toNat))) (slen (List.length_set).symm) ?_
   refine WL.repin (i:=5) rfl (u:=(.slice (some ⟨z57,0,none⟩) ((z1L.set (z1o : Int).toNat (u8 (z1K + (u8 z1o)))).length) ((z1k : Int).toNat))) (slen (List.length_set).symm) ?_
   refine WL.nil (WX.yi (WX.a (WC.a (WL.pu rfl (WL.pu rfl (WL.nil ?_))))))
   exact WX.round (G:=Nat × List Int × Int) ⟨z8y,(z1L.set (z1o : Int).toNat (u8 (z1K + (u8 z1o)))),(i64 (z1o + 1))⟩ h (Nat.lt_succ_self _) (.cons rfl (.cons rfl (.cons rfl (.cons rfl .nil)))) (.cons .here .nil)
  ·replace h:=yo h z8z
   refine WC.exit (WX.yA (WX.yA (WX.y1s ?_)))
   exact WX.mid (G:=List Int) z1L h (.cons rfl .nil) (.cons .here .nil)
 ·rintro z2X h
  replace h:=(zdP z2X).symm.trans h
  refine WC.b (WC.a (WL.pu rfl (WL.pu rfl (WL.nil (WX.a (WC.ret ?_))))))
  obtain rfl:=Option.some.inj h
  refine WX.yf Tryd.results111 (.tmp rfl .nil) (fun w hw=>?_)
  exact ⟨(some ⟨z57,0,none⟩),((z1k : Int).toNat),y17 rfl,trivial,hw.sub (.cons .here .nil)⟩
def y8 (zm : Sproc_execution) (z4s : Int) (z3o : List Int) : Option Sproc_execution :=
 some (⟨zm.fState,zm.fX,zm.fMem,(⟨z4s,zm.fX.fA,0,z3o⟩ : Sproc_Act)⟩ : Sproc_execution)
set_option maxRecDepth 20000 in
theorem yl (Z : Zp) (z3p : Nat) (z4t : Option Addr) (z4u : Nat) (z5H : Option Addr) (z5I : Nat) (z58 : Option Addr) (z59 : Nat) (zm : Sproc_execution) (z4s : Int) (z3o : List Int) (r : Sproc_execution)
  (h : y8 zm z4s z3o = some r) (w₀ : World) (hz : PZ (fps [stb z3p 65 [(.int .i64 zm.fState.fPc),(.int .i64 zm.fState.fLeft),(.int .u8 zm.fState.fRegs.a0),(.int .u8 zm.fState.fRegs.a1),(.int .u8 zm.fState.fRegs.a2),(.int .u8 zm.fState.fRegs.a3),(.int .u8 zm.fX.fOp),(.int .i64 zm.fX.fA),(.int .i64 zm.fX.fB),(.int .i64 zm.fX.fC),(.slice z4t zm.fMem.length z4u),(.int .u8 zm.fAct.fKind),(.int .i64 zm.fAct.fA),(.int .i64 zm.fAct.fB),(.slice z5H zm.fAct.fData.length z5I)]]) w₀ Z)
  (zdQ : ZS Z 1 (fun r x=>r = e5 x) z4t z4u zm.fMem)
  (zml : ZS Z 1 (fun r x=>r = e5 x) z5H z5I zm.fAct.fData)
  (zdR : ZS Z 1 (fun r x=>r = e5 x) z58 z59 z3o)
  (hown : Hp (fps [stb z3p 65 [(.int .i64 zm.fState.fPc),(.int .i64 zm.fState.fLeft),(.int .u8 zm.fState.fRegs.a0),(.int .u8 zm.fState.fRegs.a1),(.int .u8 zm.fState.fRegs.a2),(.int .u8 zm.fState.fRegs.a3),(.int .u8 zm.fX.fOp),(.int .i64 zm.fX.fA),(.int .i64 zm.fX.fB),(.int .i64 zm.fX.fC),(.slice z4t zm.fMem.length z4u),(.int .u8 zm.fAct.fKind),(.int .i64 zm.fAct.fA),(.int .i64 zm.fAct.fB),(.slice z5H zm.fAct.fData.length z5I)]]) w₀ w₀ [stb z3p 65 [(.int .i64 zm.fState.fPc),(.int .i64 zm.fState.fLeft),(.int .u8 zm.fState.fRegs.a0),(.int .u8 zm.fState.fRegs.a1),(.int .u8 zm.fState.fRegs.a2),(.int .u8 zm.fState.fRegs.a3),(.int .u8 zm.fX.fOp),(.int .i64 zm.fX.fA),(.int .i64 zm.fX.fB),(.int .i64 zm.fX.fC),(.slice z4t zm.fMem.length z4u),(.int .u8 zm.fAct.fKind),(.int .i64 zm.fAct.fA),(.int .i64 zm.fAct.fB),(.slice z5H zm.fAct.fData.length z5I)]]) :
  Calls Tryd.prog 110 #[(.pointer (some ⟨z3p,0,none⟩)),(.int .u8 z4s),(.slice z58 z3o.length z59)] w₀ fun e w'=>∃ zat : Option Addr,∃ zau : Nat,∃ zav : Option Addr,∃ zaw : Nat,e = .returned (.tuple #[]) ∧ ((ZS Z 1 (fun r x=>r = e5 x) zat zau r.fMem) ∧ (ZS Z 1 (fun r x=>r = e5 x) zav zaw r.fAct.fData)) ∧ Hp (fps [stb z3p 65 [(.int .i64 zm.fState.fPc),(.int .i64 zm.fState.fLeft),(.int .u8 zm.fState.fRegs.a0),(.int .u8 zm.fState.fRegs.a1),(.int .u8 zm.fState.fRegs.a2),(.int .u8 zm.fState.fRegs.a3),(.int .u8 zm.fX.fOp),(.int .i64 zm.fX.fA),(.int .i64 zm.fX.fB),(.int .i64 zm.fX.fC),(.slice z4t zm.fMem.length z4u),(.int .u8 zm.fAct.fKind),(.int .i64 zm.fAct.fA),(.int .i64 zm.fAct.fB),(.slice z5H zm.fAct.fData.length z5I)]]) w₀ w' [stb z3p 65 [(.int .i64 r.fState.fPc),(.int .i64 r.fState.fLeft),(.int .u8 r.fState.fRegs.a0),(.int .u8 r.fState.fRegs.a1),(.int .u8 r.fState.fRegs.a2),(.int .u8 r.fState.fRegs.a3),(.int .u8 r.fX.fOp),(.int .i64 r.fX.fA),(.int .i64 r.fX.fB),(.int .i64 r.fX.fC),(.slice zat r.fMem.length zau),(.int .u8 r.fAct.fKind),(.int .i64 r.fAct.fA),(.int .i64 r.fAct.fB),(.slice zav r.fAct.fData.length zaw)]]:=by
 unfold y8 at h
 refine Calls.y9 (vs:=[(.pointer (some ⟨z3p,0,none⟩)),(.int .u8 z4s),(.slice z58 z3o.length z59)]) (pre:=[stb z3p 65 [(.int .i64 zm.fState.fPc),(.int .i64 zm.fState.fLeft),(.int .u8 zm.fState.fRegs.a0),(.int .u8 zm.fState.fRegs.a1),(.int .u8 zm.fState.fRegs.a2),(.int .u8 zm.fState.fRegs.a3),(.int .u8 zm.fX.fOp),(.int .i64 zm.fX.fA),(.int .i64 zm.fX.fB),(.int .i64 zm.fX.fC),(.slice z4t zm.fMem.length z4u),(.int .u8 zm.fAct.fKind),(.int .i64 zm.fAct.fA),(.int .i64 zm.fAct.fB),(.slice z5H zm.fAct.fData.length z5I)]]) (env:=[(0,(.pointer (some ⟨z3p,0,none⟩))),(1,(.int .u8 z4s)),(2,(.slice z58 z3o.length z59))]) Tryd.func110 rfl Tryd.ntmps110 rfl (hown) rfl ?_
 refine WC.a (WL.pu rfl (WL.pu rfl (WL.pu rfl ?_)))
 refine WL.a (d:=9) rfl rfl rfl (y7 rfl) ?_
 refine WL.a (d:=10) rfl rfl rfl (y4 yH rfl rfl) ?_
 refine WL.a (d:=11) rfl rfl rfl (y4 y1r rfl rfl) ?_
 refine WL.a (d:=12) rfl rfl rfl (y6 yg rfl (yb .here rfl)) ?_
 refine WL.pu rfl ?_
 refine WL.a (d:=14) rfl rfl rfl (yX (v:=(.agg #[(.int .u8 z4s),(.int .i64 zm.fX.fA),(.int .i64 0),(.slice z58 z3o.length z59)])) (Eos.parts (l:=[.tmp 7,.tmp 12,.tmp 13]) (.cons rfl (.cons rfl (.cons rfl .nil))) [0,1,3]) (fun _=>by kernel_rfl)) ?_
 refine WL.a (d:=15) rfl rfl rfl (y7 rfl) ?_
 refine WL.a (d:=16) rfl rfl rfl (y4 y3i rfl rfl) ?_
 refine WL.yk rfl rfl (y1p (ds:=[(.int .i64 zm.fState.fPc),(.int .i64 zm.fState.fLeft),(.int .u8 zm.fState.fRegs.a0),(.int .u8 zm.fState.fRegs.a1),(.int .u8 zm.fState.fRegs.a2),(.int .u8 zm.fState.fRegs.a3),(.int .u8 zm.fX.fOp),(.int .i64 zm.fX.fA),(.int .i64 zm.fX.fB),(.int .i64 zm.fX.fC),(.slice z4t zm.fMem.length z4u),(.int .u8 z4s),(.int .i64 zm.fX.fA),(.int .i64 0),(.slice z58 z3o.length z59)]) y1Y rfl rfl rfl rfl rfl .here rfl rfl) ?_
 refine WL.nil ?_
 obtain rfl:=Option.some.inj h
 refine WX.ye Tryd.results110 .nil (fun w hw=>?_)
 exact ⟨z4t,z4u,z58,z59,y1b,⟨zdQ,zdR⟩,hw.sub (.cons .here .nil)⟩
def y1D (zn : Sproc_execution) : Option Sproc_execution :=
 (yc zn zn.fX.fB).bind fun zdS=>chk ((0 : Int) ≤ zn.fX.fB ∧ zn.fX.fB < 4) ((y2t (nth ([zn.fState.fRegs.a0,zn.fState.fRegs.a1,zn.fState.fRegs.a2,zn.fState.fRegs.a3] : List Int) zn.fX.fB) zn.fX.fC).bind fun z8A=>(y8 zn 2 z8A).bind fun zax=>some zax)
set_option maxRecDepth 20000 in
theorem y3S (Z : Zp) (z3q : Nat) (z5J : Option Addr) (z5K : Nat) (z5L : Option Addr) (z5M : Nat) (zn : Sproc_execution) (r : Sproc_execution)
  (h : y1D zn = some r) (w₀ : World) (hz : PZ (fps [stb z3q 65 [(.int .i64 zn.fState.fPc),(.int .i64 zn.fState.fLeft),(.int .u8 zn.fState.fRegs.a0),(.int .u8 zn.fState.fRegs.a1),(.int .u8 zn.fState.fRegs.a2),(.int .u8 zn.fState.fRegs.a3),(.int .u8 zn.fX.fOp),(.int .i64 zn.fX.fA),(.int .i64 zn.fX.fB),(.int .i64 zn.fX.fC),(.slice z5J zn.fMem.length z5K),(.int .u8 zn.fAct.fKind),(.int .i64 zn.fAct.fA),(.int .i64 zn.fAct.fB),(.slice z5L zn.fAct.fData.length z5M)]]) w₀ Z)
  (zay : ZS Z 1 (fun r x=>r = e5 x) z5J z5K zn.fMem)
  (zaz : ZS Z 1 (fun r x=>r = e5 x) z5L z5M zn.fAct.fData)
  (hown : Hp (fps [stb z3q 65 [(.int .i64 zn.fState.fPc),(.int .i64 zn.fState.fLeft),(.int .u8 zn.fState.fRegs.a0),(.int .u8 zn.fState.fRegs.a1),(.int .u8 zn.fState.fRegs.a2),(.int .u8 zn.fState.fRegs.a3),(.int .u8 zn.fX.fOp),(.int .i64 zn.fX.fA),(.int .i64 zn.fX.fB),(.int .i64 zn.fX.fC),(.slice z5J zn.fMem.length z5K),(.int .u8 zn.fAct.fKind),(.int .i64 zn.fAct.fA),(.int .i64 zn.fAct.fB),(.slice z5L zn.fAct.fData.length z5M)]]) w₀ w₀ [stb z3q 65 [(.int .i64 zn.fState.fPc),(.int .i64 zn.fState.fLeft),(.int .u8 zn.fState.fRegs.a0),(.int .u8 zn.fState.fRegs.a1),(.int .u8 zn.fState.fRegs.a2),(.int .u8 zn.fState.fRegs.a3),(.int .u8 zn.fX.fOp),(.int .i64 zn.fX.fA),(.int .i64 zn.fX.fB),(.int .i64 zn.fX.fC),(.slice z5J zn.fMem.length z5K),(.int .u8 zn.fAct.fKind),(.int .i64 zn.fAct.fA),(.int .i64 zn.fAct.fB),(.slice z5L zn.fAct.fData.length z5M)]]) :
  Calls Tryd.prog 89 #[(.pointer (some ⟨z3q,0,none⟩))] w₀ fun e w'=>∃ Zn : Zp,∃ zaA : Option Addr,∃ zaB : Nat,∃ zaC : Option Addr,∃ zaD : Nat,e = .returned (.tuple #[]) ∧ ((ZS (Z ++ Zn) 1 (fun r x=>r = e5 x) zaA zaB r.fMem) ∧ (ZS (Z ++ Zn) 1 (fun r x=>r = e5 x) zaC zaD r.fAct.fData)) ∧ Hp (fps [stb z3q 65 [(.int .i64 zn.fState.fPc),(.int .i64 zn.fState.fLeft),(.int .u8 zn.fState.fRegs.a0),(.int .u8 zn.fState.fRegs.a1),(.int .u8 zn.fState.fRegs.a2),(.int .u8 zn.fState.fRegs.a3),(.int .u8 zn.fX.fOp),(.int .i64 zn.fX.fA),(.int .i64 zn.fX.fB),(.int .i64 zn.fX.fC),(.slice z5J zn.fMem.length z5K),(.int .u8 zn.fAct.fKind),(.int .i64 zn.fAct.fA),(.int .i64 zn.fAct.fB),(.slice z5L zn.fAct.fData.length z5M)]]) w₀ w' [fz Zn,stb z3q 65 [(.int .i64 r.fState.fPc),(.int .i64 r.fState.fLeft),(.int .u8 r.fState.fRegs.a0),(.int .u8 r.fState.fRegs.a1),(.int .u8 r.fState.fRegs.a2),(.int .u8 r.fState.fRegs.a3),(.int .u8 r.fX.fOp),(.int .i64 r.fX.fA),(.int .i64 r.fX.fB),(.int .i64 r.fX.fC),(.slice zaA r.fMem.length zaB),(.int .u8 r.fAct.fKind),(.int .i64 r.fAct.fA),(.int .i64 r.fAct.fB),(.slice zaC r.fAct.fData.length zaD)]]:=by
 unfold y1D at h
 refine Calls.y9 (vs:=[(.pointer (some ⟨z3q,0,none⟩))]) (pre:=[stb z3q 65 [(.int .i64 zn.fState.fPc),(.int .i64 zn.fState.fLeft),(.int .u8 zn.fState.fRegs.a0),(.int .u8 zn.fState.fRegs.a1),(.int .u8 zn.fState.fRegs.a2),(.int .u8 zn.fState.fRegs.a3),(.int .u8 zn.fX.fOp),(.int .i64 zn.fX.fA),(.int .i64 zn.fX.fB),(.int .i64 zn.fX.fC),(.slice z5J zn.fMem.length z5K),(.int .u8 zn.fAct.fKind),(.int .i64 zn.fAct.fA),(.int .i64 zn.fAct.fB),(.slice z5L zn.fAct.fData.length z5M)]]) (env:=[(0,(.pointer (some ⟨z3q,0,none⟩)))]) Tryd.func89 rfl Tryd.ntmps89 rfl (hown) rfl ?_
 refine WC.pool ?_
 obtain ⟨zdS,zdT,h⟩:=zh h
 obtain ⟨zdU,h⟩:=ya h
 obtain ⟨z8A,zdV,h⟩:=zh h
 obtain ⟨zax,zdW,h⟩:=zh h
 refine WC.y1n (fun i=>[16].contains i) [] rfl ?_
 refine WD.a (i:=0) (d:=2) (by kernel_rfl) rfl z7 z8 rfl rfl rfl (fun _=>q_m rfl) ?_
 refine WD.a (i:=1) (d:=3) (by kernel_rfl) rfl z7 z8 rfl rfl rfl (fun _=>q_m rfl) ?_
 refine WD.a (i:=2) (d:=4) (by kernel_rfl) rfl z7 z8 rfl rfl rfl (fun _=>q_m rfl) ?_
 refine WD.a (i:=3) (d:=5) (by kernel_rfl) rfl z7 z8 rfl rfl rfl (fun _=>y7 rfl) ?_
 refine WD.a (i:=4) (d:=6) (by kernel_rfl) rfl z7 z8 rfl rfl rfl (fun _=>y4 yH rfl rfl) ?_
 refine WD.a (i:=5) (d:=7) (by kernel_rfl) rfl z7 z8 rfl rfl rfl (fun _=>y4 y23 rfl rfl) ?_
 refine WD.e (i:=6) (d:=8) (by kernel_rfl) rfl z7 z8 rfl rfl rfl (y6 yg rfl (yb .h1 rfl)) ?_
 refine WD.c (i:=7) (d:=9) (by kernel_rfl) rfl z7 z8 rfl rfl rfl (zI (l:=[.tmp 3,.tmp 8]) Tryd.call108 (.cons rfl (.cons rfl .nil))) (y2c hz .nil .here (.cons .h1 .nil) fun w pz ho la=>yh _ _ _ _ _ _ _ _ _ zdT w pz ((zay.mono (Zle.left _ _)).mono (Zle.left _ _)) ((zaz.mono (Zle.left _ _)).mono (Zle.left _ _)) ((la _ (.head _) _).stb)) ?_
 refine WD.a (i:=8) (d:=10) (by kernel_rfl) rfl z7 z8 rfl rfl rfl (fun _=>y7 rfl) ?_
 refine WD.e (i:=9) (d:=11) (by kernel_rfl) rfl z7 z8 rfl rfl rfl (y6 yS rfl (y20 (l:=([zn.fState.fRegs.a0,zn.fState.fRegs.a1,zn.fState.fRegs.a2,zn.fState.fRegs.a3] : List Int)) (f:=Value.int .u8) (k:=2) (m:=6) .h1 rfl rfl zdU)) ?_
 refine WD.a (i:=10) (d:=12) (by kernel_rfl) rfl z7 z8 rfl rfl rfl (fun _=>q_m rfl) ?_
 refine WD.a (i:=11) (d:=13) (by kernel_rfl) rfl z7 z8 rfl rfl rfl (fun _=>y7 rfl) ?_
 refine WD.a (i:=12) (d:=14) (by kernel_rfl) rfl z7 z8 rfl rfl rfl (fun _=>y4 yH rfl rfl) ?_
 refine WD.a (i:=13) (d:=15) (by kernel_rfl) rfl z7 z8 rfl rfl rfl (fun _=>y4 y3O rfl rfl) ?_
 refine WD.e (i:=14) (d:=16) (by kernel_rfl) rfl z7 z8 rfl rfl rfl (y6 yg rfl (yb .h1 rfl)) ?_
 refine WD.call2 (i:=15) (dd:=17) rfl (by kernel_rfl) rfl rfl rfl (.inr rfl) (zI (l:=[.tmp 11,.tmp 16]) Tryd.call111 (.cons rfl (.cons rfl .nil))) .nil (ccz hz .nil .here fun w pz ho=>y5Y _ _ _ _ zdV w pz ) ?_
 rintro zmm zmn _
 refine WD.freezeS (ls:=z8A) .here .here hz (RR.yM (enc:=e5) (fun _=>rfl) _) ?_
 intro zdX zaE zdY
 refine WD.call4 (i:=16) (dd:=18) rfl (by kernel_rfl) rfl rfl rfl (.inl ⟨rfl,fun _ _ _ _=>(Sin.of .nil)⟩) (zI (l:=[.tmp 2,.const (.int .u8 2),.tmp 17]) Tryd.call110 (.cons rfl (.cons rfl (.cons rfl .nil)))) (.cons .h1 .nil) (ccz hz (.cons .h1 .nil) .here fun w pz ho=>yl _ _ _ _ _ _ _ _ _ _ _ _ zdW w pz (zay.mono ((Zle.left _ _).trans zaE)) (zaz.mono ((Zle.left _ _).trans zaE)) zdY ho) ?_
 rintro zdZ ze0 ze1 ze2 ⟨ze3,ze4⟩
 refine WD.done (by kernel_rfl) ?_
 obtain rfl:=Option.some.inj h
 refine WX.ye Tryd.results89 .nil (fun w hw=>?_)
 exact ⟨zdX,zdZ,ze0,ze1,ze2,y1b,⟨ze3,ze4⟩,hw.sub (.cons .h1 (.cons .here .nil))⟩
def y1E (zy : Sproc_execution) : Option Sproc_execution :=
 (y8 zy 3 []).bind fun zaF=>some zaF
set_option maxRecDepth 20000 in
theorem y3T (Z : Zp) (z3r : Nat) (z5N : Option Addr) (z5O : Nat) (z5P : Option Addr) (z5Q : Nat) (zy : Sproc_execution) (r : Sproc_execution)
  (h : y1E zy = some r) (w₀ : World) (hz : PZ (fps [stb z3r 65 [(.int .i64 zy.fState.fPc),(.int .i64 zy.fState.fLeft),(.int .u8 zy.fState.fRegs.a0),(.int .u8 zy.fState.fRegs.a1),(.int .u8 zy.fState.fRegs.a2),(.int .u8 zy.fState.fRegs.a3),(.int .u8 zy.fX.fOp),(.int .i64 zy.fX.fA),(.int .i64 zy.fX.fB),(.int .i64 zy.fX.fC),(.slice z5N zy.fMem.length z5O),(.int .u8 zy.fAct.fKind),(.int .i64 zy.fAct.fA),(.int .i64 zy.fAct.fB),(.slice z5P zy.fAct.fData.length z5Q)]]) w₀ Z)
  (ze5 : ZS Z 1 (fun r x=>r = e5 x) z5N z5O zy.fMem)
  (ze6 : ZS Z 1 (fun r x=>r = e5 x) z5P z5Q zy.fAct.fData)
  (hown : Hp (fps [stb z3r 65 [(.int .i64 zy.fState.fPc),(.int .i64 zy.fState.fLeft),(.int .u8 zy.fState.fRegs.a0),(.int .u8 zy.fState.fRegs.a1),(.int .u8 zy.fState.fRegs.a2),(.int .u8 zy.fState.fRegs.a3),(.int .u8 zy.fX.fOp),(.int .i64 zy.fX.fA),(.int .i64 zy.fX.fB),(.int .i64 zy.fX.fC),(.slice z5N zy.fMem.length z5O),(.int .u8 zy.fAct.fKind),(.int .i64 zy.fAct.fA),(.int .i64 zy.fAct.fB),(.slice z5P zy.fAct.fData.length z5Q)]]) w₀ w₀ [stb z3r 65 [(.int .i64 zy.fState.fPc),(.int .i64 zy.fState.fLeft),(.int .u8 zy.fState.fRegs.a0),(.int .u8 zy.fState.fRegs.a1),(.int .u8 zy.fState.fRegs.a2),(.int .u8 zy.fState.fRegs.a3),(.int .u8 zy.fX.fOp),(.int .i64 zy.fX.fA),(.int .i64 zy.fX.fB),(.int .i64 zy.fX.fC),(.slice z5N zy.fMem.length z5O),(.int .u8 zy.fAct.fKind),(.int .i64 zy.fAct.fA),(.int .i64 zy.fAct.fB),(.slice z5P zy.fAct.fData.length z5Q)]]) :
  Calls Tryd.prog 90 #[(.pointer (some ⟨z3r,0,none⟩))] w₀ fun e w'=>∃ zaG : Option Addr,∃ zaH : Nat,∃ zaI : Option Addr,∃ zaJ : Nat,e = .returned (.tuple #[]) ∧ ((ZS Z 1 (fun r x=>r = e5 x) zaG zaH r.fMem) ∧ (ZS Z 1 (fun r x=>r = e5 x) zaI zaJ r.fAct.fData)) ∧ Hp (fps [stb z3r 65 [(.int .i64 zy.fState.fPc),(.int .i64 zy.fState.fLeft),(.int .u8 zy.fState.fRegs.a0),(.int .u8 zy.fState.fRegs.a1),(.int .u8 zy.fState.fRegs.a2),(.int .u8 zy.fState.fRegs.a3),(.int .u8 zy.fX.fOp),(.int .i64 zy.fX.fA),(.int .i64 zy.fX.fB),(.int .i64 zy.fX.fC),(.slice z5N zy.fMem.length z5O),(.int .u8 zy.fAct.fKind),(.int .i64 zy.fAct.fA),(.int .i64 zy.fAct.fB),(.slice z5P zy.fAct.fData.length z5Q)]]) w₀ w' [stb z3r 65 [(.int .i64 r.fState.fPc),(.int .i64 r.fState.fLeft),(.int .u8 r.fState.fRegs.a0),(.int .u8 r.fState.fRegs.a1),(.int .u8 r.fState.fRegs.a2),(.int .u8 r.fState.fRegs.a3),(.int .u8 r.fX.fOp),(.int .i64 r.fX.fA),(.int .i64 r.fX.fB),(.int .i64 r.fX.fC),(.slice zaG r.fMem.length zaH),(.int .u8 r.fAct.fKind),(.int .i64 r.fAct.fA),(.int .i64 r.fAct.fB),(.slice zaI r.fAct.fData.length zaJ)]]:=by
 unfold y1E at h
 refine Calls.y9 (vs:=[(.pointer (some ⟨z3r,0,none⟩))]) (pre:=[stb z3r 65 [(.int .i64 zy.fState.fPc),(.int .i64 zy.fState.fLeft),(.int .u8 zy.fState.fRegs.a0),(.int .u8 zy.fState.fRegs.a1),(.int .u8 zy.fState.fRegs.a2),(.int .u8 zy.fState.fRegs.a3),(.int .u8 zy.fX.fOp),(.int .i64 zy.fX.fA),(.int .i64 zy.fX.fB),(.int .i64 zy.fX.fC),(.slice z5N zy.fMem.length z5O),(.int .u8 zy.fAct.fKind),(.int .i64 zy.fAct.fA),(.int .i64 zy.fAct.fB),(.slice z5P zy.fAct.fData.length z5Q)]]) (env:=[(0,(.pointer (some ⟨z3r,0,none⟩)))]) Tryd.func90 rfl Tryd.ntmps90 rfl (hown) rfl ?_
 obtain ⟨zaF,ze7,h⟩:=zh h
 refine WC.a (WL.pu rfl ?_)
 refine WL.yj (dd:=3) rfl rfl rfl (zI (l:=[.tmp 2,.const (.int .u8 3),.const (.slice none 0 0)]) Tryd.call110 (.cons rfl (.cons rfl (.cons rfl .nil)))) (.cons .here .nil) (cc hz (.cons .here .nil) fun w pz ho=>yl _ _ _ _ _ _ _ _ _ _ _ _ ze7 w pz ze5 ze6 (ZS.nil _ _ _) ho) ?_
 rintro ze8 ze9 zea zeb ⟨zec,zed⟩
 refine WL.nil ?_
 obtain rfl:=Option.some.inj h
 refine WX.ye Tryd.results90 .nil (fun w hw=>?_)
 exact ⟨ze8,ze9,zea,zeb,y1b,⟨zec,zed⟩,hw.sub (.cons .here .nil)⟩
def y1F (zz : Sproc_execution) : Option Sproc_execution :=
 (y8 zz 4 []).bind fun zaK=>some zaK
set_option maxRecDepth 20000 in
theorem y3U (Z : Zp) (z3s : Nat) (z5R : Option Addr) (z5S : Nat) (z5T : Option Addr) (z5U : Nat) (zz : Sproc_execution) (r : Sproc_execution)
  (h : y1F zz = some r) (w₀ : World) (hz : PZ (fps [stb z3s 65 [(.int .i64 zz.fState.fPc),(.int .i64 zz.fState.fLeft),(.int .u8 zz.fState.fRegs.a0),(.int .u8 zz.fState.fRegs.a1),(.int .u8 zz.fState.fRegs.a2),(.int .u8 zz.fState.fRegs.a3),(.int .u8 zz.fX.fOp),(.int .i64 zz.fX.fA),(.int .i64 zz.fX.fB),(.int .i64 zz.fX.fC),(.slice z5R zz.fMem.length z5S),(.int .u8 zz.fAct.fKind),(.int .i64 zz.fAct.fA),(.int .i64 zz.fAct.fB),(.slice z5T zz.fAct.fData.length z5U)]]) w₀ Z)
  (zee : ZS Z 1 (fun r x=>r = e5 x) z5R z5S zz.fMem)
  (zef : ZS Z 1 (fun r x=>r = e5 x) z5T z5U zz.fAct.fData)
  (hown : Hp (fps [stb z3s 65 [(.int .i64 zz.fState.fPc),(.int .i64 zz.fState.fLeft),(.int .u8 zz.fState.fRegs.a0),(.int .u8 zz.fState.fRegs.a1),(.int .u8 zz.fState.fRegs.a2),(.int .u8 zz.fState.fRegs.a3),(.int .u8 zz.fX.fOp),(.int .i64 zz.fX.fA),(.int .i64 zz.fX.fB),(.int .i64 zz.fX.fC),(.slice z5R zz.fMem.length z5S),(.int .u8 zz.fAct.fKind),(.int .i64 zz.fAct.fA),(.int .i64 zz.fAct.fB),(.slice z5T zz.fAct.fData.length z5U)]]) w₀ w₀ [stb z3s 65 [(.int .i64 zz.fState.fPc),(.int .i64 zz.fState.fLeft),(.int .u8 zz.fState.fRegs.a0),(.int .u8 zz.fState.fRegs.a1),(.int .u8 zz.fState.fRegs.a2),(.int .u8 zz.fState.fRegs.a3),(.int .u8 zz.fX.fOp),(.int .i64 zz.fX.fA),(.int .i64 zz.fX.fB),(.int .i64 zz.fX.fC),(.slice z5R zz.fMem.length z5S),(.int .u8 zz.fAct.fKind),(.int .i64 zz.fAct.fA),(.int .i64 zz.fAct.fB),(.slice z5T zz.fAct.fData.length z5U)]]) :
  Calls Tryd.prog 91 #[(.pointer (some ⟨z3s,0,none⟩))] w₀ fun e w'=>∃ zaL : Option Addr,∃ zaM : Nat,∃ zaN : Option Addr,∃ zaO : Nat,e = .returned (.tuple #[]) ∧ ((ZS Z 1 (fun r x=>r = e5 x) zaL zaM r.fMem) ∧ (ZS Z 1 (fun r x=>r = e5 x) zaN zaO r.fAct.fData)) ∧ Hp (fps [stb z3s 65 [(.int .i64 zz.fState.fPc),(.int .i64 zz.fState.fLeft),(.int .u8 zz.fState.fRegs.a0),(.int .u8 zz.fState.fRegs.a1),(.int .u8 zz.fState.fRegs.a2),(.int .u8 zz.fState.fRegs.a3),(.int .u8 zz.fX.fOp),(.int .i64 zz.fX.fA),(.int .i64 zz.fX.fB),(.int .i64 zz.fX.fC),(.slice z5R zz.fMem.length z5S),(.int .u8 zz.fAct.fKind),(.int .i64 zz.fAct.fA),(.int .i64 zz.fAct.fB),(.slice z5T zz.fAct.fData.length z5U)]]) w₀ w' [stb z3s 65 [(.int .i64 r.fState.fPc),(.int .i64 r.fState.fLeft),(.int .u8 r.fState.fRegs.a0),(.int .u8 r.fState.fRegs.a1),(.int .u8 r.fState.fRegs.a2),(.int .u8 r.fState.fRegs.a3),(.int .u8 r.fX.fOp),(.int .i64 r.fX.fA),(.int .i64 r.fX.fB),(.int .i64 r.fX.fC),(.slice zaL r.fMem.length zaM),(.int .u8 r.fAct.fKind),(.int .i64 r.fAct.fA),(.int .i64 r.fAct.fB),(.slice zaN r.fAct.fData.length zaO)]]:=by
 unfold y1F at h
 refine Calls.y9 (vs:=[(.pointer (some ⟨z3s,0,none⟩))]) (pre:=[stb z3s 65 [(.int .i64 zz.fState.fPc),(.int .i64 zz.fState.fLeft),(.int .u8 zz.fState.fRegs.a0),(.int .u8 zz.fState.fRegs.a1),(.int .u8 zz.fState.fRegs.a2),(.int .u8 zz.fState.fRegs.a3),(.int .u8 zz.fX.fOp),(.int .i64 zz.fX.fA),(.int .i64 zz.fX.fB),(.int .i64 zz.fX.fC),(.slice z5R zz.fMem.length z5S),(.int .u8 zz.fAct.fKind),(.int .i64 zz.fAct.fA),(.int .i64 zz.fAct.fB),(.slice z5T zz.fAct.fData.length z5U)]]) (env:=[(0,(.pointer (some ⟨z3s,0,none⟩)))]) Tryd.func91 rfl Tryd.ntmps91 rfl (hown) rfl ?_
 obtain ⟨zaK,zeg,h⟩:=zh h
 refine WC.a (WL.pu rfl ?_)
 refine WL.yj (dd:=3) rfl rfl rfl (zI (l:=[.tmp 2,.const (.int .u8 4),.const (.slice none 0 0)]) Tryd.call110 (.cons rfl (.cons rfl (.cons rfl .nil)))) (.cons .here .nil) (cc hz (.cons .here .nil) fun w pz ho=>yl _ _ _ _ _ _ _ _ _ _ _ _ zeg w pz zee zef (ZS.nil _ _ _) ho) ?_
 rintro zeh zei zej zek ⟨zel,zem⟩
 refine WL.nil ?_
 obtain rfl:=Option.some.inj h
 refine WX.ye Tryd.results91 .nil (fun w hw=>?_)
 exact ⟨zeh,zei,zej,zek,y1b,⟨zel,zem⟩,hw.sub (.cons .here .nil)⟩
def y1k (zA : Sproc_execution) : Option Sproc_execution :=
 (y8 zA 5 []).bind fun zaP=>some zaP
set_option maxRecDepth 20000 in
theorem y3u (Z : Zp) (z3t : Nat) (z5V : Option Addr) (z5W : Nat) (z5X : Option Addr) (z5Y : Nat) (zA : Sproc_execution) (r : Sproc_execution)
  (h : y1k zA = some r) (w₀ : World) (hz : PZ (fps [stb z3t 65 [(.int .i64 zA.fState.fPc),(.int .i64 zA.fState.fLeft),(.int .u8 zA.fState.fRegs.a0),(.int .u8 zA.fState.fRegs.a1),(.int .u8 zA.fState.fRegs.a2),(.int .u8 zA.fState.fRegs.a3),(.int .u8 zA.fX.fOp),(.int .i64 zA.fX.fA),(.int .i64 zA.fX.fB),(.int .i64 zA.fX.fC),(.slice z5V zA.fMem.length z5W),(.int .u8 zA.fAct.fKind),(.int .i64 zA.fAct.fA),(.int .i64 zA.fAct.fB),(.slice z5X zA.fAct.fData.length z5Y)]]) w₀ Z)
  (zen : ZS Z 1 (fun r x=>r = e5 x) z5V z5W zA.fMem)
  (zeo : ZS Z 1 (fun r x=>r = e5 x) z5X z5Y zA.fAct.fData)
  (hown : Hp (fps [stb z3t 65 [(.int .i64 zA.fState.fPc),(.int .i64 zA.fState.fLeft),(.int .u8 zA.fState.fRegs.a0),(.int .u8 zA.fState.fRegs.a1),(.int .u8 zA.fState.fRegs.a2),(.int .u8 zA.fState.fRegs.a3),(.int .u8 zA.fX.fOp),(.int .i64 zA.fX.fA),(.int .i64 zA.fX.fB),(.int .i64 zA.fX.fC),(.slice z5V zA.fMem.length z5W),(.int .u8 zA.fAct.fKind),(.int .i64 zA.fAct.fA),(.int .i64 zA.fAct.fB),(.slice z5X zA.fAct.fData.length z5Y)]]) w₀ w₀ [stb z3t 65 [(.int .i64 zA.fState.fPc),(.int .i64 zA.fState.fLeft),(.int .u8 zA.fState.fRegs.a0),(.int .u8 zA.fState.fRegs.a1),(.int .u8 zA.fState.fRegs.a2),(.int .u8 zA.fState.fRegs.a3),(.int .u8 zA.fX.fOp),(.int .i64 zA.fX.fA),(.int .i64 zA.fX.fB),(.int .i64 zA.fX.fC),(.slice z5V zA.fMem.length z5W),(.int .u8 zA.fAct.fKind),(.int .i64 zA.fAct.fA),(.int .i64 zA.fAct.fB),(.slice z5X zA.fAct.fData.length z5Y)]]) :
  Calls Tryd.prog 92 #[(.pointer (some ⟨z3t,0,none⟩))] w₀ fun e w'=>∃ zaQ : Option Addr,∃ zaR : Nat,∃ zaS : Option Addr,∃ zaT : Nat,e = .returned (.tuple #[]) ∧ ((ZS Z 1 (fun r x=>r = e5 x) zaQ zaR r.fMem) ∧ (ZS Z 1 (fun r x=>r = e5 x) zaS zaT r.fAct.fData)) ∧ Hp (fps [stb z3t 65 [(.int .i64 zA.fState.fPc),(.int .i64 zA.fState.fLeft),(.int .u8 zA.fState.fRegs.a0),(.int .u8 zA.fState.fRegs.a1),(.int .u8 zA.fState.fRegs.a2),(.int .u8 zA.fState.fRegs.a3),(.int .u8 zA.fX.fOp),(.int .i64 zA.fX.fA),(.int .i64 zA.fX.fB),(.int .i64 zA.fX.fC),(.slice z5V zA.fMem.length z5W),(.int .u8 zA.fAct.fKind),(.int .i64 zA.fAct.fA),(.int .i64 zA.fAct.fB),(.slice z5X zA.fAct.fData.length z5Y)]]) w₀ w' [stb z3t 65 [(.int .i64 r.fState.fPc),(.int .i64 r.fState.fLeft),(.int .u8 r.fState.fRegs.a0),(.int .u8 r.fState.fRegs.a1),(.int .u8 r.fState.fRegs.a2),(.int .u8 r.fState.fRegs.a3),(.int .u8 r.fX.fOp),(.int .i64 r.fX.fA),(.int .i64 r.fX.fB),(.int .i64 r.fX.fC),(.slice zaQ r.fMem.length zaR),(.int .u8 r.fAct.fKind),(.int .i64 r.fAct.fA),(.int .i64 r.fAct.fB),(.slice zaS r.fAct.fData.length zaT)]]:=by
 unfold y1k at h
 refine Calls.y9 (vs:=[(.pointer (some ⟨z3t,0,none⟩))]) (pre:=[stb z3t 65 [(.int .i64 zA.fState.fPc),(.int .i64 zA.fState.fLeft),(.int .u8 zA.fState.fRegs.a0),(.int .u8 zA.fState.fRegs.a1),(.int .u8 zA.fState.fRegs.a2),(.int .u8 zA.fState.fRegs.a3),(.int .u8 zA.fX.fOp),(.int .i64 zA.fX.fA),(.int .i64 zA.fX.fB),(.int .i64 zA.fX.fC),(.slice z5V zA.fMem.length z5W),(.int .u8 zA.fAct.fKind),(.int .i64 zA.fAct.fA),(.int .i64 zA.fAct.fB),(.slice z5X zA.fAct.fData.length z5Y)]]) (env:=[(0,(.pointer (some ⟨z3t,0,none⟩)))]) Tryd.func92 rfl Tryd.ntmps92 rfl (hown) rfl ?_
 obtain ⟨zaP,zep,h⟩:=zh h
 refine WC.a (WL.pu rfl ?_)
 refine WL.yj (dd:=3) rfl rfl rfl (zI (l:=[.tmp 2,.const (.int .u8 5),.const (.slice none 0 0)]) Tryd.call110 (.cons rfl (.cons rfl (.cons rfl .nil)))) (.cons .here .nil) (cc hz (.cons .here .nil) fun w pz ho=>yl _ _ _ _ _ _ _ _ _ _ _ _ zep w pz zen zeo (ZS.nil _ _ _) ho) ?_
 rintro zeq zer zes zet ⟨zeu,zev⟩
 refine WL.nil ?_
 obtain rfl:=Option.some.inj h
 refine WX.ye Tryd.results92 .nil (fun w hw=>?_)
 exact ⟨zeq,zer,zes,zet,y1b,⟨zeu,zev⟩,hw.sub (.cons .here .nil)⟩
def y1u (zB : Sproc_execution) : Option Sproc_execution :=
 (y8 zB 6 []).bind fun zaU=>some zaU
set_option maxRecDepth 20000 in
theorem y3F (Z : Zp) (z3u : Nat) (z5Z : Option Addr) (z60 : Nat) (z61 : Option Addr) (z62 : Nat) (zB : Sproc_execution) (r : Sproc_execution)
  (h : y1u zB = some r) (w₀ : World) (hz : PZ (fps [stb z3u 65 [(.int .i64 zB.fState.fPc),(.int .i64 zB.fState.fLeft),(.int .u8 zB.fState.fRegs.a0),(.int .u8 zB.fState.fRegs.a1),(.int .u8 zB.fState.fRegs.a2),(.int .u8 zB.fState.fRegs.a3),(.int .u8 zB.fX.fOp),(.int .i64 zB.fX.fA),(.int .i64 zB.fX.fB),(.int .i64 zB.fX.fC),(.slice z5Z zB.fMem.length z60),(.int .u8 zB.fAct.fKind),(.int .i64 zB.fAct.fA),(.int .i64 zB.fAct.fB),(.slice z61 zB.fAct.fData.length z62)]]) w₀ Z)
  (zew : ZS Z 1 (fun r x=>r = e5 x) z5Z z60 zB.fMem)
  (zex : ZS Z 1 (fun r x=>r = e5 x) z61 z62 zB.fAct.fData)
  (hown : Hp (fps [stb z3u 65 [(.int .i64 zB.fState.fPc),(.int .i64 zB.fState.fLeft),(.int .u8 zB.fState.fRegs.a0),(.int .u8 zB.fState.fRegs.a1),(.int .u8 zB.fState.fRegs.a2),(.int .u8 zB.fState.fRegs.a3),(.int .u8 zB.fX.fOp),(.int .i64 zB.fX.fA),(.int .i64 zB.fX.fB),(.int .i64 zB.fX.fC),(.slice z5Z zB.fMem.length z60),(.int .u8 zB.fAct.fKind),(.int .i64 zB.fAct.fA),(.int .i64 zB.fAct.fB),(.slice z61 zB.fAct.fData.length z62)]]) w₀ w₀ [stb z3u 65 [(.int .i64 zB.fState.fPc),(.int .i64 zB.fState.fLeft),(.int .u8 zB.fState.fRegs.a0),(.int .u8 zB.fState.fRegs.a1),(.int .u8 zB.fState.fRegs.a2),(.int .u8 zB.fState.fRegs.a3),(.int .u8 zB.fX.fOp),(.int .i64 zB.fX.fA),(.int .i64 zB.fX.fB),(.int .i64 zB.fX.fC),(.slice z5Z zB.fMem.length z60),(.int .u8 zB.fAct.fKind),(.int .i64 zB.fAct.fA),(.int .i64 zB.fAct.fB),(.slice z61 zB.fAct.fData.length z62)]]) :
  Calls Tryd.prog 93 #[(.pointer (some ⟨z3u,0,none⟩))] w₀ fun e w'=>∃ zaV : Option Addr,∃ zaW : Nat,∃ zaX : Option Addr,∃ zaY : Nat,e = .returned (.tuple #[]) ∧ ((ZS Z 1 (fun r x=>r = e5 x) zaV zaW r.fMem) ∧ (ZS Z 1 (fun r x=>r = e5 x) zaX zaY r.fAct.fData)) ∧ Hp (fps [stb z3u 65 [(.int .i64 zB.fState.fPc),(.int .i64 zB.fState.fLeft),(.int .u8 zB.fState.fRegs.a0),(.int .u8 zB.fState.fRegs.a1),(.int .u8 zB.fState.fRegs.a2),(.int .u8 zB.fState.fRegs.a3),(.int .u8 zB.fX.fOp),(.int .i64 zB.fX.fA),(.int .i64 zB.fX.fB),(.int .i64 zB.fX.fC),(.slice z5Z zB.fMem.length z60),(.int .u8 zB.fAct.fKind),(.int .i64 zB.fAct.fA),(.int .i64 zB.fAct.fB),(.slice z61 zB.fAct.fData.length z62)]]) w₀ w' [stb z3u 65 [(.int .i64 r.fState.fPc),(.int .i64 r.fState.fLeft),(.int .u8 r.fState.fRegs.a0),(.int .u8 r.fState.fRegs.a1),(.int .u8 r.fState.fRegs.a2),(.int .u8 r.fState.fRegs.a3),(.int .u8 r.fX.fOp),(.int .i64 r.fX.fA),(.int .i64 r.fX.fB),(.int .i64 r.fX.fC),(.slice zaV r.fMem.length zaW),(.int .u8 r.fAct.fKind),(.int .i64 r.fAct.fA),(.int .i64 r.fAct.fB),(.slice zaX r.fAct.fData.length zaY)]]:=by
 unfold y1u at h
 refine Calls.y9 (vs:=[(.pointer (some ⟨z3u,0,none⟩))]) (pre:=[stb z3u 65 [(.int .i64 zB.fState.fPc),(.int .i64 zB.fState.fLeft),(.int .u8 zB.fState.fRegs.a0),(.int .u8 zB.fState.fRegs.a1),(.int .u8 zB.fState.fRegs.a2),(.int .u8 zB.fState.fRegs.a3),(.int .u8 zB.fX.fOp),(.int .i64 zB.fX.fA),(.int .i64 zB.fX.fB),(.int .i64 zB.fX.fC),(.slice z5Z zB.fMem.length z60),(.int .u8 zB.fAct.fKind),(.int .i64 zB.fAct.fA),(.int .i64 zB.fAct.fB),(.slice z61 zB.fAct.fData.length z62)]]) (env:=[(0,(.pointer (some ⟨z3u,0,none⟩)))]) Tryd.func93 rfl Tryd.ntmps93 rfl (hown) rfl ?_
 obtain ⟨zaU,zey,h⟩:=zh h
 refine WC.a (WL.pu rfl ?_)
 refine WL.yj (dd:=3) rfl rfl rfl (zI (l:=[.tmp 2,.const (.int .u8 6),.const (.slice none 0 0)]) Tryd.call110 (.cons rfl (.cons rfl (.cons rfl .nil)))) (.cons .here .nil) (cc hz (.cons .here .nil) fun w pz ho=>yl _ _ _ _ _ _ _ _ _ _ _ _ zey w pz zew zex (ZS.nil _ _ _) ho) ?_
 rintro zez zeA zeB zeC ⟨zeD,zeE⟩
 refine WL.nil ?_
 obtain rfl:=Option.some.inj h
 refine WX.ye Tryd.results93 .nil (fun w hw=>?_)
 exact ⟨zez,zeA,zeB,zeC,y1b,⟨zeD,zeE⟩,hw.sub (.cons .here .nil)⟩
def y1v (zC : Sproc_execution) : Option Sproc_execution :=
 (y8 zC 7 []).bind fun zaZ=>some zaZ
set_option maxRecDepth 20000 in
theorem y3G (Z : Zp) (z3v : Nat) (z63 : Option Addr) (z64 : Nat) (z65 : Option Addr) (z66 : Nat) (zC : Sproc_execution) (r : Sproc_execution)
  (h : y1v zC = some r) (w₀ : World) (hz : PZ (fps [stb z3v 65 [(.int .i64 zC.fState.fPc),(.int .i64 zC.fState.fLeft),(.int .u8 zC.fState.fRegs.a0),(.int .u8 zC.fState.fRegs.a1),(.int .u8 zC.fState.fRegs.a2),(.int .u8 zC.fState.fRegs.a3),(.int .u8 zC.fX.fOp),(.int .i64 zC.fX.fA),(.int .i64 zC.fX.fB),(.int .i64 zC.fX.fC),(.slice z63 zC.fMem.length z64),(.int .u8 zC.fAct.fKind),(.int .i64 zC.fAct.fA),(.int .i64 zC.fAct.fB),(.slice z65 zC.fAct.fData.length z66)]]) w₀ Z)
  (zeF : ZS Z 1 (fun r x=>r = e5 x) z63 z64 zC.fMem)
  (zeG : ZS Z 1 (fun r x=>r = e5 x) z65 z66 zC.fAct.fData)
  (hown : Hp (fps [stb z3v 65 [(.int .i64 zC.fState.fPc),(.int .i64 zC.fState.fLeft),(.int .u8 zC.fState.fRegs.a0),(.int .u8 zC.fState.fRegs.a1),(.int .u8 zC.fState.fRegs.a2),(.int .u8 zC.fState.fRegs.a3),(.int .u8 zC.fX.fOp),(.int .i64 zC.fX.fA),(.int .i64 zC.fX.fB),(.int .i64 zC.fX.fC),(.slice z63 zC.fMem.length z64),(.int .u8 zC.fAct.fKind),(.int .i64 zC.fAct.fA),(.int .i64 zC.fAct.fB),(.slice z65 zC.fAct.fData.length z66)]]) w₀ w₀ [stb z3v 65 [(.int .i64 zC.fState.fPc),(.int .i64 zC.fState.fLeft),(.int .u8 zC.fState.fRegs.a0),(.int .u8 zC.fState.fRegs.a1),(.int .u8 zC.fState.fRegs.a2),(.int .u8 zC.fState.fRegs.a3),(.int .u8 zC.fX.fOp),(.int .i64 zC.fX.fA),(.int .i64 zC.fX.fB),(.int .i64 zC.fX.fC),(.slice z63 zC.fMem.length z64),(.int .u8 zC.fAct.fKind),(.int .i64 zC.fAct.fA),(.int .i64 zC.fAct.fB),(.slice z65 zC.fAct.fData.length z66)]]) :
  Calls Tryd.prog 94 #[(.pointer (some ⟨z3v,0,none⟩))] w₀ fun e w'=>∃ zb0 : Option Addr,∃ zb1 : Nat,∃ zb2 : Option Addr,∃ zb3 : Nat,e = .returned (.tuple #[]) ∧ ((ZS Z 1 (fun r x=>r = e5 x) zb0 zb1 r.fMem) ∧ (ZS Z 1 (fun r x=>r = e5 x) zb2 zb3 r.fAct.fData)) ∧ Hp (fps [stb z3v 65 [(.int .i64 zC.fState.fPc),(.int .i64 zC.fState.fLeft),(.int .u8 zC.fState.fRegs.a0),(.int .u8 zC.fState.fRegs.a1),(.int .u8 zC.fState.fRegs.a2),(.int .u8 zC.fState.fRegs.a3),(.int .u8 zC.fX.fOp),(.int .i64 zC.fX.fA),(.int .i64 zC.fX.fB),(.int .i64 zC.fX.fC),(.slice z63 zC.fMem.length z64),(.int .u8 zC.fAct.fKind),(.int .i64 zC.fAct.fA),(.int .i64 zC.fAct.fB),(.slice z65 zC.fAct.fData.length z66)]]) w₀ w' [stb z3v 65 [(.int .i64 r.fState.fPc),(.int .i64 r.fState.fLeft),(.int .u8 r.fState.fRegs.a0),(.int .u8 r.fState.fRegs.a1),(.int .u8 r.fState.fRegs.a2),(.int .u8 r.fState.fRegs.a3),(.int .u8 r.fX.fOp),(.int .i64 r.fX.fA),(.int .i64 r.fX.fB),(.int .i64 r.fX.fC),(.slice zb0 r.fMem.length zb1),(.int .u8 r.fAct.fKind),(.int .i64 r.fAct.fA),(.int .i64 r.fAct.fB),(.slice zb2 r.fAct.fData.length zb3)]]:=by
 unfold y1v at h
 refine Calls.y9 (vs:=[(.pointer (some ⟨z3v,0,none⟩))]) (pre:=[stb z3v 65 [(.int .i64 zC.fState.fPc),(.int .i64 zC.fState.fLeft),(.int .u8 zC.fState.fRegs.a0),(.int .u8 zC.fState.fRegs.a1),(.int .u8 zC.fState.fRegs.a2),(.int .u8 zC.fState.fRegs.a3),(.int .u8 zC.fX.fOp),(.int .i64 zC.fX.fA),(.int .i64 zC.fX.fB),(.int .i64 zC.fX.fC),(.slice z63 zC.fMem.length z64),(.int .u8 zC.fAct.fKind),(.int .i64 zC.fAct.fA),(.int .i64 zC.fAct.fB),(.slice z65 zC.fAct.fData.length z66)]]) (env:=[(0,(.pointer (some ⟨z3v,0,none⟩)))]) Tryd.func94 rfl Tryd.ntmps94 rfl (hown) rfl ?_
 obtain ⟨zaZ,zeH,h⟩:=zh h
 refine WC.a (WL.pu rfl ?_)
 refine WL.yj (dd:=3) rfl rfl rfl (zI (l:=[.tmp 2,.const (.int .u8 7),.const (.slice none 0 0)]) Tryd.call110 (.cons rfl (.cons rfl (.cons rfl .nil)))) (.cons .here .nil) (cc hz (.cons .here .nil) fun w pz ho=>yl _ _ _ _ _ _ _ _ _ _ _ _ zeH w pz zeF zeG (ZS.nil _ _ _) ho) ?_
 rintro zeI zeJ zeK zeL ⟨zeM,zeN⟩
 refine WL.nil ?_
 obtain rfl:=Option.some.inj h
 refine WX.ye Tryd.results94 .nil (fun w hw=>?_)
 exact ⟨zeI,zeJ,zeK,zeL,y1b,⟨zeM,zeN⟩,hw.sub (.cons .here .nil)⟩
def y1w (zD : Sproc_execution) : Option Sproc_execution :=
 (y8 zD 8 []).bind fun zb4=>some zb4
set_option maxRecDepth 20000 in
theorem y3H (Z : Zp) (z3w : Nat) (z67 : Option Addr) (z68 : Nat) (z69 : Option Addr) (z6a : Nat) (zD : Sproc_execution) (r : Sproc_execution)
  (h : y1w zD = some r) (w₀ : World) (hz : PZ (fps [stb z3w 65 [(.int .i64 zD.fState.fPc),(.int .i64 zD.fState.fLeft),(.int .u8 zD.fState.fRegs.a0),(.int .u8 zD.fState.fRegs.a1),(.int .u8 zD.fState.fRegs.a2),(.int .u8 zD.fState.fRegs.a3),(.int .u8 zD.fX.fOp),(.int .i64 zD.fX.fA),(.int .i64 zD.fX.fB),(.int .i64 zD.fX.fC),(.slice z67 zD.fMem.length z68),(.int .u8 zD.fAct.fKind),(.int .i64 zD.fAct.fA),(.int .i64 zD.fAct.fB),(.slice z69 zD.fAct.fData.length z6a)]]) w₀ Z)
  (zeO : ZS Z 1 (fun r x=>r = e5 x) z67 z68 zD.fMem)
  (zeP : ZS Z 1 (fun r x=>r = e5 x) z69 z6a zD.fAct.fData)
  (hown : Hp (fps [stb z3w 65 [(.int .i64 zD.fState.fPc),(.int .i64 zD.fState.fLeft),(.int .u8 zD.fState.fRegs.a0),(.int .u8 zD.fState.fRegs.a1),(.int .u8 zD.fState.fRegs.a2),(.int .u8 zD.fState.fRegs.a3),(.int .u8 zD.fX.fOp),(.int .i64 zD.fX.fA),(.int .i64 zD.fX.fB),(.int .i64 zD.fX.fC),(.slice z67 zD.fMem.length z68),(.int .u8 zD.fAct.fKind),(.int .i64 zD.fAct.fA),(.int .i64 zD.fAct.fB),(.slice z69 zD.fAct.fData.length z6a)]]) w₀ w₀ [stb z3w 65 [(.int .i64 zD.fState.fPc),(.int .i64 zD.fState.fLeft),(.int .u8 zD.fState.fRegs.a0),(.int .u8 zD.fState.fRegs.a1),(.int .u8 zD.fState.fRegs.a2),(.int .u8 zD.fState.fRegs.a3),(.int .u8 zD.fX.fOp),(.int .i64 zD.fX.fA),(.int .i64 zD.fX.fB),(.int .i64 zD.fX.fC),(.slice z67 zD.fMem.length z68),(.int .u8 zD.fAct.fKind),(.int .i64 zD.fAct.fA),(.int .i64 zD.fAct.fB),(.slice z69 zD.fAct.fData.length z6a)]]) :
  Calls Tryd.prog 95 #[(.pointer (some ⟨z3w,0,none⟩))] w₀ fun e w'=>∃ zb5 : Option Addr,∃ zb6 : Nat,∃ zb7 : Option Addr,∃ zb8 : Nat,e = .returned (.tuple #[]) ∧ ((ZS Z 1 (fun r x=>r = e5 x) zb5 zb6 r.fMem) ∧ (ZS Z 1 (fun r x=>r = e5 x) zb7 zb8 r.fAct.fData)) ∧ Hp (fps [stb z3w 65 [(.int .i64 zD.fState.fPc),(.int .i64 zD.fState.fLeft),(.int .u8 zD.fState.fRegs.a0),(.int .u8 zD.fState.fRegs.a1),(.int .u8 zD.fState.fRegs.a2),(.int .u8 zD.fState.fRegs.a3),(.int .u8 zD.fX.fOp),(.int .i64 zD.fX.fA),(.int .i64 zD.fX.fB),(.int .i64 zD.fX.fC),(.slice z67 zD.fMem.length z68),(.int .u8 zD.fAct.fKind),(.int .i64 zD.fAct.fA),(.int .i64 zD.fAct.fB),(.slice z69 zD.fAct.fData.length z6a)]]) w₀ w' [stb z3w 65 [(.int .i64 r.fState.fPc),(.int .i64 r.fState.fLeft),(.int .u8 r.fState.fRegs.a0),(.int .u8 r.fState.fRegs.a1),(.int .u8 r.fState.fRegs.a2),(.int .u8 r.fState.fRegs.a3),(.int .u8 r.fX.fOp),(.int .i64 r.fX.fA),(.int .i64 r.fX.fB),(.int .i64 r.fX.fC),(.slice zb5 r.fMem.length zb6),(.int .u8 r.fAct.fKind),(.int .i64 r.fAct.fA),(.int .i64 r.fAct.fB),(.slice zb7 r.fAct.fData.length zb8)]]:=by
 unfold y1w at h
 refine Calls.y9 (vs:=[(.pointer (some ⟨z3w,0,none⟩))]) (pre:=[stb z3w 65 [(.int .i64 zD.fState.fPc),(.int .i64 zD.fState.fLeft),(.int .u8 zD.fState.fRegs.a0),(.int .u8 zD.fState.fRegs.a1),(.int .u8 zD.fState.fRegs.a2),(.int .u8 zD.fState.fRegs.a3),(.int .u8 zD.fX.fOp),(.int .i64 zD.fX.fA),(.int .i64 zD.fX.fB),(.int .i64 zD.fX.fC),(.slice z67 zD.fMem.length z68),(.int .u8 zD.fAct.fKind),(.int .i64 zD.fAct.fA),(.int .i64 zD.fAct.fB),(.slice z69 zD.fAct.fData.length z6a)]]) (env:=[(0,(.pointer (some ⟨z3w,0,none⟩)))]) Tryd.func95 rfl Tryd.ntmps95 rfl (hown) rfl ?_
 obtain ⟨zb4,zeQ,h⟩:=zh h
 refine WC.a (WL.pu rfl ?_)
 refine WL.yj (dd:=3) rfl rfl rfl (zI (l:=[.tmp 2,.const (.int .u8 8),.const (.slice none 0 0)]) Tryd.call110 (.cons rfl (.cons rfl (.cons rfl .nil)))) (.cons .here .nil) (cc hz (.cons .here .nil) fun w pz ho=>yl _ _ _ _ _ _ _ _ _ _ _ _ zeQ w pz zeO zeP (ZS.nil _ _ _) ho) ?_
 rintro zeR zeS zeT zeU ⟨zeV,zeW⟩
 refine WL.nil ?_
 obtain rfl:=Option.some.inj h
 refine WX.ye Tryd.results95 .nil (fun w hw=>?_)
 exact ⟨zeR,zeS,zeT,zeU,y1b,⟨zeV,zeW⟩,hw.sub (.cons .here .nil)⟩
def y1S (zi : Sproc_execution) : Option Sproc_execution :=
 (yc zi zi.fX.fB).bind fun zeX=>chk ((0 : Int) ≤ zi.fX.fB ∧ zi.fX.fB < 4) ((y8 zi 9 ([nth ([zi.fState.fRegs.a0,zi.fState.fRegs.a1,zi.fState.fRegs.a2,zi.fState.fRegs.a3] : List Int) zi.fX.fB] : List Int)).bind fun zb9=>some zb9)
set_option maxRecDepth 20000 in
theorem y4k (Z : Zp) (z3x : Nat) (z6b : Option Addr) (z6c : Nat) (z6d : Option Addr) (z6e : Nat) (zi : Sproc_execution) (r : Sproc_execution)
  (h : y1S zi = some r) (w₀ : World) (hz : PZ (fps [stb z3x 65 [(.int .i64 zi.fState.fPc),(.int .i64 zi.fState.fLeft),(.int .u8 zi.fState.fRegs.a0),(.int .u8 zi.fState.fRegs.a1),(.int .u8 zi.fState.fRegs.a2),(.int .u8 zi.fState.fRegs.a3),(.int .u8 zi.fX.fOp),(.int .i64 zi.fX.fA),(.int .i64 zi.fX.fB),(.int .i64 zi.fX.fC),(.slice z6b zi.fMem.length z6c),(.int .u8 zi.fAct.fKind),(.int .i64 zi.fAct.fA),(.int .i64 zi.fAct.fB),(.slice z6d zi.fAct.fData.length z6e)]]) w₀ Z)
  (zba : ZS Z 1 (fun r x=>r = e5 x) z6b z6c zi.fMem)
  (zbb : ZS Z 1 (fun r x=>r = e5 x) z6d z6e zi.fAct.fData)
  (hown : Hp (fps [stb z3x 65 [(.int .i64 zi.fState.fPc),(.int .i64 zi.fState.fLeft),(.int .u8 zi.fState.fRegs.a0),(.int .u8 zi.fState.fRegs.a1),(.int .u8 zi.fState.fRegs.a2),(.int .u8 zi.fState.fRegs.a3),(.int .u8 zi.fX.fOp),(.int .i64 zi.fX.fA),(.int .i64 zi.fX.fB),(.int .i64 zi.fX.fC),(.slice z6b zi.fMem.length z6c),(.int .u8 zi.fAct.fKind),(.int .i64 zi.fAct.fA),(.int .i64 zi.fAct.fB),(.slice z6d zi.fAct.fData.length z6e)]]) w₀ w₀ [stb z3x 65 [(.int .i64 zi.fState.fPc),(.int .i64 zi.fState.fLeft),(.int .u8 zi.fState.fRegs.a0),(.int .u8 zi.fState.fRegs.a1),(.int .u8 zi.fState.fRegs.a2),(.int .u8 zi.fState.fRegs.a3),(.int .u8 zi.fX.fOp),(.int .i64 zi.fX.fA),(.int .i64 zi.fX.fB),(.int .i64 zi.fX.fC),(.slice z6b zi.fMem.length z6c),(.int .u8 zi.fAct.fKind),(.int .i64 zi.fAct.fA),(.int .i64 zi.fAct.fB),(.slice z6d zi.fAct.fData.length z6e)]]) :
  Calls Tryd.prog 96 #[(.pointer (some ⟨z3x,0,none⟩))] w₀ fun e w'=>∃ Zn : Zp,∃ zbc : Option Addr,∃ zbd : Nat,∃ zbe : Option Addr,∃ zbf : Nat,e = .returned (.tuple #[]) ∧ ((ZS (Z ++ Zn) 1 (fun r x=>r = e5 x) zbc zbd r.fMem) ∧ (ZS (Z ++ Zn) 1 (fun r x=>r = e5 x) zbe zbf r.fAct.fData)) ∧ Hp (fps [stb z3x 65 [(.int .i64 zi.fState.fPc),(.int .i64 zi.fState.fLeft),(.int .u8 zi.fState.fRegs.a0),(.int .u8 zi.fState.fRegs.a1),(.int .u8 zi.fState.fRegs.a2),(.int .u8 zi.fState.fRegs.a3),(.int .u8 zi.fX.fOp),(.int .i64 zi.fX.fA),(.int .i64 zi.fX.fB),(.int .i64 zi.fX.fC),(.slice z6b zi.fMem.length z6c),(.int .u8 zi.fAct.fKind),(.int .i64 zi.fAct.fA),(.int .i64 zi.fAct.fB),(.slice z6d zi.fAct.fData.length z6e)]]) w₀ w' [fz Zn,stb z3x 65 [(.int .i64 r.fState.fPc),(.int .i64 r.fState.fLeft),(.int .u8 r.fState.fRegs.a0),(.int .u8 r.fState.fRegs.a1),(.int .u8 r.fState.fRegs.a2),(.int .u8 r.fState.fRegs.a3),(.int .u8 r.fX.fOp),(.int .i64 r.fX.fA),(.int .i64 r.fX.fB),(.int .i64 r.fX.fC),(.slice zbc r.fMem.length zbd),(.int .u8 r.fAct.fKind),(.int .i64 r.fAct.fA),(.int .i64 r.fAct.fB),(.slice zbe r.fAct.fData.length zbf)]]:=by
 unfold y1S at h
 refine Calls.y9 (vs:=[(.pointer (some ⟨z3x,0,none⟩))]) (pre:=[stb z3x 65 [(.int .i64 zi.fState.fPc),(.int .i64 zi.fState.fLeft),(.int .u8 zi.fState.fRegs.a0),(.int .u8 zi.fState.fRegs.a1),(.int .u8 zi.fState.fRegs.a2),(.int .u8 zi.fState.fRegs.a3),(.int .u8 zi.fX.fOp),(.int .i64 zi.fX.fA),(.int .i64 zi.fX.fB),(.int .i64 zi.fX.fC),(.slice z6b zi.fMem.length z6c),(.int .u8 zi.fAct.fKind),(.int .i64 zi.fAct.fA),(.int .i64 zi.fAct.fB),(.slice z6d zi.fAct.fData.length z6e)]]) (env:=[(0,(.pointer (some ⟨z3x,0,none⟩)))]) Tryd.func96 rfl Tryd.ntmps96 rfl (hown) rfl ?_
 refine WC.pool ?_
 obtain ⟨zeX,zeY,h⟩:=zh h
 obtain ⟨zeZ,h⟩:=ya h
 obtain ⟨zb9,zf0,h⟩:=zh h
 refine WC.a (WL.pu rfl (WL.pu rfl (WL.pu rfl ?_)))
 refine WL.a (d:=5) rfl rfl rfl (y7 rfl) ?_
 refine WL.a (d:=6) rfl rfl rfl (y4 yH rfl rfl) ?_
 refine WL.a (d:=7) rfl rfl rfl (y4 y23 rfl rfl) ?_
 refine WL.a (d:=8) rfl rfl rfl (y6 yg rfl (yb .h1 rfl)) ?_
 refine WL.b (dd:=9) rfl rfl rfl (zI (l:=[.tmp 3,.tmp 8]) Tryd.call108 (.cons rfl (.cons rfl .nil))) .nil (y2c hz .nil .here (.cons .h1 .nil) fun w pz ho la=>yh _ _ _ _ _ _ _ _ _ zeY w pz ((zba.mono (Zle.left _ _)).mono (Zle.left _ _)) ((zbb.mono (Zle.left _ _)).mono (Zle.left _ _)) ((la _ (.head _) _).stb)) ?_
 refine WL.a (d:=10) rfl rfl rfl (y7 rfl) ?_
 refine WL.a (d:=11) rfl rfl rfl (y6 yS rfl (y20 (l:=([zi.fState.fRegs.a0,zi.fState.fRegs.a1,zi.fState.fRegs.a2,zi.fState.fRegs.a3] : List Int)) (f:=Value.int .u8) (k:=2) (m:=6) .h1 rfl rfl zeZ)) ?_
 refine WL.new (dd:=12) rfl rfl rfl (yp (cs:=([nth ([zi.fState.fRegs.a0,zi.fState.fRegs.a1,zi.fState.fRegs.a2,zi.fState.fRegs.a3] : List Int) zi.fX.fB] : List Int).flatMap e5) y2k (Eos.parts (l:=[.tmp 11]) (.cons rfl .nil) [0]) (fun _=>by kernel_rfl) rfl (by unfold maxLen; omega)) ?_
 intro zmo _
 refine WL.freezeS (ls:=([nth ([zi.fState.fRegs.a0,zi.fState.fRegs.a1,zi.fState.fRegs.a2,zi.fState.fRegs.a3] : List Int) zi.fX.fB] : List Int)) .here .here hz (RR.yM (enc:=e5) (fun _=>rfl) _) ?_
 intro zf1 zbg zf2
 refine WL.yj (dd:=13) rfl rfl rfl (zI (l:=[.tmp 2,.const (.int .u8 9),.tmp 12]) Tryd.call110 (.cons rfl (.cons rfl (.cons rfl .nil)))) (.cons .h1 .nil) (ccz hz (.cons .h1 .nil) .here fun w pz ho=>yl _ _ _ _ _ _ _ _ _ _ _ _ zf0 w pz (zba.mono ((Zle.left _ _).trans zbg)) (zbb.mono ((Zle.left _ _).trans zbg)) zf2 ho) ?_
 rintro zf3 zf4 zf5 zf6 ⟨zf7,zf8⟩
 refine WL.nil ?_
 obtain rfl:=Option.some.inj h
 refine WX.ye Tryd.results96 .nil (fun w hw=>?_)
 exact ⟨zf1,zf3,zf4,zf5,zf6,y1b,⟨zf7,zf8⟩,hw.sub (.cons .h1 (.cons .here .nil))⟩
def y1T (zE : Sproc_execution) : Option Sproc_execution :=
 (y8 zE 10 []).bind fun zbh=>some zbh
set_option maxRecDepth 20000 in
theorem y4l (Z : Zp) (z3y : Nat) (z6f : Option Addr) (z6g : Nat) (z6h : Option Addr) (z6i : Nat) (zE : Sproc_execution) (r : Sproc_execution)
  (h : y1T zE = some r) (w₀ : World) (hz : PZ (fps [stb z3y 65 [(.int .i64 zE.fState.fPc),(.int .i64 zE.fState.fLeft),(.int .u8 zE.fState.fRegs.a0),(.int .u8 zE.fState.fRegs.a1),(.int .u8 zE.fState.fRegs.a2),(.int .u8 zE.fState.fRegs.a3),(.int .u8 zE.fX.fOp),(.int .i64 zE.fX.fA),(.int .i64 zE.fX.fB),(.int .i64 zE.fX.fC),(.slice z6f zE.fMem.length z6g),(.int .u8 zE.fAct.fKind),(.int .i64 zE.fAct.fA),(.int .i64 zE.fAct.fB),(.slice z6h zE.fAct.fData.length z6i)]]) w₀ Z)
  (zf9 : ZS Z 1 (fun r x=>r = e5 x) z6f z6g zE.fMem)
  (zfa : ZS Z 1 (fun r x=>r = e5 x) z6h z6i zE.fAct.fData)
  (hown : Hp (fps [stb z3y 65 [(.int .i64 zE.fState.fPc),(.int .i64 zE.fState.fLeft),(.int .u8 zE.fState.fRegs.a0),(.int .u8 zE.fState.fRegs.a1),(.int .u8 zE.fState.fRegs.a2),(.int .u8 zE.fState.fRegs.a3),(.int .u8 zE.fX.fOp),(.int .i64 zE.fX.fA),(.int .i64 zE.fX.fB),(.int .i64 zE.fX.fC),(.slice z6f zE.fMem.length z6g),(.int .u8 zE.fAct.fKind),(.int .i64 zE.fAct.fA),(.int .i64 zE.fAct.fB),(.slice z6h zE.fAct.fData.length z6i)]]) w₀ w₀ [stb z3y 65 [(.int .i64 zE.fState.fPc),(.int .i64 zE.fState.fLeft),(.int .u8 zE.fState.fRegs.a0),(.int .u8 zE.fState.fRegs.a1),(.int .u8 zE.fState.fRegs.a2),(.int .u8 zE.fState.fRegs.a3),(.int .u8 zE.fX.fOp),(.int .i64 zE.fX.fA),(.int .i64 zE.fX.fB),(.int .i64 zE.fX.fC),(.slice z6f zE.fMem.length z6g),(.int .u8 zE.fAct.fKind),(.int .i64 zE.fAct.fA),(.int .i64 zE.fAct.fB),(.slice z6h zE.fAct.fData.length z6i)]]) :
  Calls Tryd.prog 97 #[(.pointer (some ⟨z3y,0,none⟩))] w₀ fun e w'=>∃ zbi : Option Addr,∃ zbj : Nat,∃ zbk : Option Addr,∃ zbl : Nat,e = .returned (.tuple #[]) ∧ ((ZS Z 1 (fun r x=>r = e5 x) zbi zbj r.fMem) ∧ (ZS Z 1 (fun r x=>r = e5 x) zbk zbl r.fAct.fData)) ∧ Hp (fps [stb z3y 65 [(.int .i64 zE.fState.fPc),(.int .i64 zE.fState.fLeft),(.int .u8 zE.fState.fRegs.a0),(.int .u8 zE.fState.fRegs.a1),(.int .u8 zE.fState.fRegs.a2),(.int .u8 zE.fState.fRegs.a3),(.int .u8 zE.fX.fOp),(.int .i64 zE.fX.fA),(.int .i64 zE.fX.fB),(.int .i64 zE.fX.fC),(.slice z6f zE.fMem.length z6g),(.int .u8 zE.fAct.fKind),(.int .i64 zE.fAct.fA),(.int .i64 zE.fAct.fB),(.slice z6h zE.fAct.fData.length z6i)]]) w₀ w' [stb z3y 65 [(.int .i64 r.fState.fPc),(.int .i64 r.fState.fLeft),(.int .u8 r.fState.fRegs.a0),(.int .u8 r.fState.fRegs.a1),(.int .u8 r.fState.fRegs.a2),(.int .u8 r.fState.fRegs.a3),(.int .u8 r.fX.fOp),(.int .i64 r.fX.fA),(.int .i64 r.fX.fB),(.int .i64 r.fX.fC),(.slice zbi r.fMem.length zbj),(.int .u8 r.fAct.fKind),(.int .i64 r.fAct.fA),(.int .i64 r.fAct.fB),(.slice zbk r.fAct.fData.length zbl)]]:=by
 unfold y1T at h
 refine Calls.y9 (vs:=[(.pointer (some ⟨z3y,0,none⟩))]) (pre:=[stb z3y 65 [(.int .i64 zE.fState.fPc),(.int .i64 zE.fState.fLeft),(.int .u8 zE.fState.fRegs.a0),(.int .u8 zE.fState.fRegs.a1),(.int .u8 zE.fState.fRegs.a2),(.int .u8 zE.fState.fRegs.a3),(.int .u8 zE.fX.fOp),(.int .i64 zE.fX.fA),(.int .i64 zE.fX.fB),(.int .i64 zE.fX.fC),(.slice z6f zE.fMem.length z6g),(.int .u8 zE.fAct.fKind),(.int .i64 zE.fAct.fA),(.int .i64 zE.fAct.fB),(.slice z6h zE.fAct.fData.length z6i)]]) (env:=[(0,(.pointer (some ⟨z3y,0,none⟩)))]) Tryd.func97 rfl Tryd.ntmps97 rfl (hown) rfl ?_
 obtain ⟨zbh,zfb,h⟩:=zh h
 refine WC.a (WL.pu rfl ?_)
 refine WL.yj (dd:=3) rfl rfl rfl (zI (l:=[.tmp 2,.const (.int .u8 10),.const (.slice none 0 0)]) Tryd.call110 (.cons rfl (.cons rfl (.cons rfl .nil)))) (.cons .here .nil) (cc hz (.cons .here .nil) fun w pz ho=>yl _ _ _ _ _ _ _ _ _ _ _ _ zfb w pz zf9 zfa (ZS.nil _ _ _) ho) ?_
 rintro zfc zfd zfe zff ⟨zfg,zfh⟩
 refine WL.nil ?_
 obtain rfl:=Option.some.inj h
 refine WX.ye Tryd.results97 .nil (fun w hw=>?_)
 exact ⟨zfc,zfd,zfe,zff,y1b,⟨zfg,zfh⟩,hw.sub (.cons .here .nil)⟩
def y1G (zj : Sproc_execution) : Option Sproc_execution :=
 (yc zj zj.fX.fB).bind fun zfi=>chk ((0 : Int) ≤ zj.fX.fB ∧ zj.fX.fB < 4) ((y8 zj 11 ([nth ([zj.fState.fRegs.a0,zj.fState.fRegs.a1,zj.fState.fRegs.a2,zj.fState.fRegs.a3] : List Int) zj.fX.fB] : List Int)).bind fun zbm=>some zbm)
set_option maxRecDepth 20000 in
theorem y3V (Z : Zp) (z3z : Nat) (z6j : Option Addr) (z6k : Nat) (z6l : Option Addr) (z6m : Nat) (zj : Sproc_execution) (r : Sproc_execution)
  (h : y1G zj = some r) (w₀ : World) (hz : PZ (fps [stb z3z 65 [(.int .i64 zj.fState.fPc),(.int .i64 zj.fState.fLeft),(.int .u8 zj.fState.fRegs.a0),(.int .u8 zj.fState.fRegs.a1),(.int .u8 zj.fState.fRegs.a2),(.int .u8 zj.fState.fRegs.a3),(.int .u8 zj.fX.fOp),(.int .i64 zj.fX.fA),(.int .i64 zj.fX.fB),(.int .i64 zj.fX.fC),(.slice z6j zj.fMem.length z6k),(.int .u8 zj.fAct.fKind),(.int .i64 zj.fAct.fA),(.int .i64 zj.fAct.fB),(.slice z6l zj.fAct.fData.length z6m)]]) w₀ Z)
  (zbn : ZS Z 1 (fun r x=>r = e5 x) z6j z6k zj.fMem)
  (zbo : ZS Z 1 (fun r x=>r = e5 x) z6l z6m zj.fAct.fData)
  (hown : Hp (fps [stb z3z 65 [(.int .i64 zj.fState.fPc),(.int .i64 zj.fState.fLeft),(.int .u8 zj.fState.fRegs.a0),(.int .u8 zj.fState.fRegs.a1),(.int .u8 zj.fState.fRegs.a2),(.int .u8 zj.fState.fRegs.a3),(.int .u8 zj.fX.fOp),(.int .i64 zj.fX.fA),(.int .i64 zj.fX.fB),(.int .i64 zj.fX.fC),(.slice z6j zj.fMem.length z6k),(.int .u8 zj.fAct.fKind),(.int .i64 zj.fAct.fA),(.int .i64 zj.fAct.fB),(.slice z6l zj.fAct.fData.length z6m)]]) w₀ w₀ [stb z3z 65 [(.int .i64 zj.fState.fPc),(.int .i64 zj.fState.fLeft),(.int .u8 zj.fState.fRegs.a0),(.int .u8 zj.fState.fRegs.a1),(.int .u8 zj.fState.fRegs.a2),(.int .u8 zj.fState.fRegs.a3),(.int .u8 zj.fX.fOp),(.int .i64 zj.fX.fA),(.int .i64 zj.fX.fB),(.int .i64 zj.fX.fC),(.slice z6j zj.fMem.length z6k),(.int .u8 zj.fAct.fKind),(.int .i64 zj.fAct.fA),(.int .i64 zj.fAct.fB),(.slice z6l zj.fAct.fData.length z6m)]]) :
  Calls Tryd.prog 98 #[(.pointer (some ⟨z3z,0,none⟩))] w₀ fun e w'=>∃ Zn : Zp,∃ zbp : Option Addr,∃ zbq : Nat,∃ zbr : Option Addr,∃ zbs : Nat,e = .returned (.tuple #[]) ∧ ((ZS (Z ++ Zn) 1 (fun r x=>r = e5 x) zbp zbq r.fMem) ∧ (ZS (Z ++ Zn) 1 (fun r x=>r = e5 x) zbr zbs r.fAct.fData)) ∧ Hp (fps [stb z3z 65 [(.int .i64 zj.fState.fPc),(.int .i64 zj.fState.fLeft),(.int .u8 zj.fState.fRegs.a0),(.int .u8 zj.fState.fRegs.a1),(.int .u8 zj.fState.fRegs.a2),(.int .u8 zj.fState.fRegs.a3),(.int .u8 zj.fX.fOp),(.int .i64 zj.fX.fA),(.int .i64 zj.fX.fB),(.int .i64 zj.fX.fC),(.slice z6j zj.fMem.length z6k),(.int .u8 zj.fAct.fKind),(.int .i64 zj.fAct.fA),(.int .i64 zj.fAct.fB),(.slice z6l zj.fAct.fData.length z6m)]]) w₀ w' [fz Zn,stb z3z 65 [(.int .i64 r.fState.fPc),(.int .i64 r.fState.fLeft),(.int .u8 r.fState.fRegs.a0),(.int .u8 r.fState.fRegs.a1),(.int .u8 r.fState.fRegs.a2),(.int .u8 r.fState.fRegs.a3),(.int .u8 r.fX.fOp),(.int .i64 r.fX.fA),(.int .i64 r.fX.fB),(.int .i64 r.fX.fC),(.slice zbp r.fMem.length zbq),(.int .u8 r.fAct.fKind),(.int .i64 r.fAct.fA),(.int .i64 r.fAct.fB),(.slice zbr r.fAct.fData.length zbs)]]:=by
 unfold y1G at h
 refine Calls.y9 (vs:=[(.pointer (some ⟨z3z,0,none⟩))]) (pre:=[stb z3z 65 [(.int .i64 zj.fState.fPc),(.int .i64 zj.fState.fLeft),(.int .u8 zj.fState.fRegs.a0),(.int .u8 zj.fState.fRegs.a1),(.int .u8 zj.fState.fRegs.a2),(.int .u8 zj.fState.fRegs.a3),(.int .u8 zj.fX.fOp),(.int .i64 zj.fX.fA),(.int .i64 zj.fX.fB),(.int .i64 zj.fX.fC),(.slice z6j zj.fMem.length z6k),(.int .u8 zj.fAct.fKind),(.int .i64 zj.fAct.fA),(.int .i64 zj.fAct.fB),(.slice z6l zj.fAct.fData.length z6m)]]) (env:=[(0,(.pointer (some ⟨z3z,0,none⟩)))]) Tryd.func98 rfl Tryd.ntmps98 rfl (hown) rfl ?_
 refine WC.pool ?_
 obtain ⟨zfi,zfj,h⟩:=zh h
 obtain ⟨zfk,h⟩:=ya h
 obtain ⟨zbm,zfl,h⟩:=zh h
 refine WC.a (WL.pu rfl (WL.pu rfl (WL.pu rfl ?_)))
 refine WL.a (d:=5) rfl rfl rfl (y7 rfl) ?_
 refine WL.a (d:=6) rfl rfl rfl (y4 yH rfl rfl) ?_
 refine WL.a (d:=7) rfl rfl rfl (y4 y23 rfl rfl) ?_
 refine WL.a (d:=8) rfl rfl rfl (y6 yg rfl (yb .h1 rfl)) ?_
 refine WL.b (dd:=9) rfl rfl rfl (zI (l:=[.tmp 3,.tmp 8]) Tryd.call108 (.cons rfl (.cons rfl .nil))) .nil (y2c hz .nil .here (.cons .h1 .nil) fun w pz ho la=>yh _ _ _ _ _ _ _ _ _ zfj w pz ((zbn.mono (Zle.left _ _)).mono (Zle.left _ _)) ((zbo.mono (Zle.left _ _)).mono (Zle.left _ _)) ((la _ (.head _) _).stb)) ?_
 refine WL.a (d:=10) rfl rfl rfl (y7 rfl) ?_
 refine WL.a (d:=11) rfl rfl rfl (y6 yS rfl (y20 (l:=([zj.fState.fRegs.a0,zj.fState.fRegs.a1,zj.fState.fRegs.a2,zj.fState.fRegs.a3] : List Int)) (f:=Value.int .u8) (k:=2) (m:=6) .h1 rfl rfl zfk)) ?_
 refine WL.new (dd:=12) rfl rfl rfl (yp (cs:=([nth ([zj.fState.fRegs.a0,zj.fState.fRegs.a1,zj.fState.fRegs.a2,zj.fState.fRegs.a3] : List Int) zj.fX.fB] : List Int).flatMap e5) y2k (Eos.parts (l:=[.tmp 11]) (.cons rfl .nil) [0]) (fun _=>by kernel_rfl) rfl (by unfold maxLen; omega)) ?_
 intro zmp _
 refine WL.freezeS (ls:=([nth ([zj.fState.fRegs.a0,zj.fState.fRegs.a1,zj.fState.fRegs.a2,zj.fState.fRegs.a3] : List Int) zj.fX.fB] : List Int)) .here .here hz (RR.yM (enc:=e5) (fun _=>rfl) _) ?_
 intro zfm zbt zfn
 refine WL.yj (dd:=13) rfl rfl rfl (zI (l:=[.tmp 2,.const (.int .u8 11),.tmp 12]) Tryd.call110 (.cons rfl (.cons rfl (.cons rfl .nil)))) (.cons .h1 .nil) (ccz hz (.cons .h1 .nil) .here fun w pz ho=>yl _ _ _ _ _ _ _ _ _ _ _ _ zfl w pz (zbn.mono ((Zle.left _ _).trans zbt)) (zbo.mono ((Zle.left _ _).trans zbt)) zfn ho) ?_
 rintro zfo zfp zfq zfr ⟨zfs,zft⟩
 refine WL.nil ?_
 obtain rfl:=Option.some.inj h
 refine WX.ye Tryd.results98 .nil (fun w hw=>?_)
 exact ⟨zfm,zfo,zfp,zfq,zfr,y1b,⟨zfs,zft⟩,hw.sub (.cons .h1 (.cons .here .nil))⟩
def y1H (zF : Sproc_execution) : Option Sproc_execution :=
 (y8 zF 12 []).bind fun zbu=>some zbu
set_option maxRecDepth 20000 in
theorem y3W (Z : Zp) (z3A : Nat) (z6n : Option Addr) (z6o : Nat) (z6p : Option Addr) (z6q : Nat) (zF : Sproc_execution) (r : Sproc_execution)
  (h : y1H zF = some r) (w₀ : World) (hz : PZ (fps [stb z3A 65 [(.int .i64 zF.fState.fPc),(.int .i64 zF.fState.fLeft),(.int .u8 zF.fState.fRegs.a0),(.int .u8 zF.fState.fRegs.a1),(.int .u8 zF.fState.fRegs.a2),(.int .u8 zF.fState.fRegs.a3),(.int .u8 zF.fX.fOp),(.int .i64 zF.fX.fA),(.int .i64 zF.fX.fB),(.int .i64 zF.fX.fC),(.slice z6n zF.fMem.length z6o),(.int .u8 zF.fAct.fKind),(.int .i64 zF.fAct.fA),(.int .i64 zF.fAct.fB),(.slice z6p zF.fAct.fData.length z6q)]]) w₀ Z)
  (zfu : ZS Z 1 (fun r x=>r = e5 x) z6n z6o zF.fMem)
  (zfv : ZS Z 1 (fun r x=>r = e5 x) z6p z6q zF.fAct.fData)
  (hown : Hp (fps [stb z3A 65 [(.int .i64 zF.fState.fPc),(.int .i64 zF.fState.fLeft),(.int .u8 zF.fState.fRegs.a0),(.int .u8 zF.fState.fRegs.a1),(.int .u8 zF.fState.fRegs.a2),(.int .u8 zF.fState.fRegs.a3),(.int .u8 zF.fX.fOp),(.int .i64 zF.fX.fA),(.int .i64 zF.fX.fB),(.int .i64 zF.fX.fC),(.slice z6n zF.fMem.length z6o),(.int .u8 zF.fAct.fKind),(.int .i64 zF.fAct.fA),(.int .i64 zF.fAct.fB),(.slice z6p zF.fAct.fData.length z6q)]]) w₀ w₀ [stb z3A 65 [(.int .i64 zF.fState.fPc),(.int .i64 zF.fState.fLeft),(.int .u8 zF.fState.fRegs.a0),(.int .u8 zF.fState.fRegs.a1),(.int .u8 zF.fState.fRegs.a2),(.int .u8 zF.fState.fRegs.a3),(.int .u8 zF.fX.fOp),(.int .i64 zF.fX.fA),(.int .i64 zF.fX.fB),(.int .i64 zF.fX.fC),(.slice z6n zF.fMem.length z6o),(.int .u8 zF.fAct.fKind),(.int .i64 zF.fAct.fA),(.int .i64 zF.fAct.fB),(.slice z6p zF.fAct.fData.length z6q)]]) :
  Calls Tryd.prog 99 #[(.pointer (some ⟨z3A,0,none⟩))] w₀ fun e w'=>∃ zbv : Option Addr,∃ zbw : Nat,∃ zbx : Option Addr,∃ zby : Nat,e = .returned (.tuple #[]) ∧ ((ZS Z 1 (fun r x=>r = e5 x) zbv zbw r.fMem) ∧ (ZS Z 1 (fun r x=>r = e5 x) zbx zby r.fAct.fData)) ∧ Hp (fps [stb z3A 65 [(.int .i64 zF.fState.fPc),(.int .i64 zF.fState.fLeft),(.int .u8 zF.fState.fRegs.a0),(.int .u8 zF.fState.fRegs.a1),(.int .u8 zF.fState.fRegs.a2),(.int .u8 zF.fState.fRegs.a3),(.int .u8 zF.fX.fOp),(.int .i64 zF.fX.fA),(.int .i64 zF.fX.fB),(.int .i64 zF.fX.fC),(.slice z6n zF.fMem.length z6o),(.int .u8 zF.fAct.fKind),(.int .i64 zF.fAct.fA),(.int .i64 zF.fAct.fB),(.slice z6p zF.fAct.fData.length z6q)]]) w₀ w' [stb z3A 65 [(.int .i64 r.fState.fPc),(.int .i64 r.fState.fLeft),(.int .u8 r.fState.fRegs.a0),(.int .u8 r.fState.fRegs.a1),(.int .u8 r.fState.fRegs.a2),(.int .u8 r.fState.fRegs.a3),(.int .u8 r.fX.fOp),(.int .i64 r.fX.fA),(.int .i64 r.fX.fB),(.int .i64 r.fX.fC),(.slice zbv r.fMem.length zbw),(.int .u8 r.fAct.fKind),(.int .i64 r.fAct.fA),(.int .i64 r.fAct.fB),(.slice zbx r.fAct.fData.length zby)]]:=by
 unfold y1H at h
 refine Calls.y9 (vs:=[(.pointer (some ⟨z3A,0,none⟩))]) (pre:=[stb z3A 65 [(.int .i64 zF.fState.fPc),(.int .i64 zF.fState.fLeft),(.int .u8 zF.fState.fRegs.a0),(.int .u8 zF.fState.fRegs.a1),(.int .u8 zF.fState.fRegs.a2),(.int .u8 zF.fState.fRegs.a3),(.int .u8 zF.fX.fOp),(.int .i64 zF.fX.fA),(.int .i64 zF.fX.fB),(.int .i64 zF.fX.fC),(.slice z6n zF.fMem.length z6o),(.int .u8 zF.fAct.fKind),(.int .i64 zF.fAct.fA),(.int .i64 zF.fAct.fB),(.slice z6p zF.fAct.fData.length z6q)]]) (env:=[(0,(.pointer (some ⟨z3A,0,none⟩)))]) Tryd.func99 rfl Tryd.ntmps99 rfl (hown) rfl ?_
 obtain ⟨zbu,zfw,h⟩:=zh h
 refine WC.a (WL.pu rfl ?_)
 refine WL.yj (dd:=3) rfl rfl rfl (zI (l:=[.tmp 2,.const (.int .u8 12),.const (.slice none 0 0)]) Tryd.call110 (.cons rfl (.cons rfl (.cons rfl .nil)))) (.cons .here .nil) (cc hz (.cons .here .nil) fun w pz ho=>yl _ _ _ _ _ _ _ _ _ _ _ _ zfw w pz zfu zfv (ZS.nil _ _ _) ho) ?_
 rintro zfx zfy zfz zfA ⟨zfB,zfC⟩
 refine WL.nil ?_
 obtain rfl:=Option.some.inj h
 refine WX.ye Tryd.results99 .nil (fun w hw=>?_)
 exact ⟨zfx,zfy,zfz,zfA,y1b,⟨zfB,zfC⟩,hw.sub (.cons .here .nil)⟩
def y1x (zG : Sproc_execution) : Option Sproc_execution :=
 (y8 zG 13 []).bind fun zbz=>some zbz
set_option maxRecDepth 20000 in
theorem y3I (Z : Zp) (z3B : Nat) (z6r : Option Addr) (z6s : Nat) (z6t : Option Addr) (z6u : Nat) (zG : Sproc_execution) (r : Sproc_execution)
  (h : y1x zG = some r) (w₀ : World) (hz : PZ (fps [stb z3B 65 [(.int .i64 zG.fState.fPc),(.int .i64 zG.fState.fLeft),(.int .u8 zG.fState.fRegs.a0),(.int .u8 zG.fState.fRegs.a1),(.int .u8 zG.fState.fRegs.a2),(.int .u8 zG.fState.fRegs.a3),(.int .u8 zG.fX.fOp),(.int .i64 zG.fX.fA),(.int .i64 zG.fX.fB),(.int .i64 zG.fX.fC),(.slice z6r zG.fMem.length z6s),(.int .u8 zG.fAct.fKind),(.int .i64 zG.fAct.fA),(.int .i64 zG.fAct.fB),(.slice z6t zG.fAct.fData.length z6u)]]) w₀ Z)
  (zfD : ZS Z 1 (fun r x=>r = e5 x) z6r z6s zG.fMem)
  (zfE : ZS Z 1 (fun r x=>r = e5 x) z6t z6u zG.fAct.fData)
  (hown : Hp (fps [stb z3B 65 [(.int .i64 zG.fState.fPc),(.int .i64 zG.fState.fLeft),(.int .u8 zG.fState.fRegs.a0),(.int .u8 zG.fState.fRegs.a1),(.int .u8 zG.fState.fRegs.a2),(.int .u8 zG.fState.fRegs.a3),(.int .u8 zG.fX.fOp),(.int .i64 zG.fX.fA),(.int .i64 zG.fX.fB),(.int .i64 zG.fX.fC),(.slice z6r zG.fMem.length z6s),(.int .u8 zG.fAct.fKind),(.int .i64 zG.fAct.fA),(.int .i64 zG.fAct.fB),(.slice z6t zG.fAct.fData.length z6u)]]) w₀ w₀ [stb z3B 65 [(.int .i64 zG.fState.fPc),(.int .i64 zG.fState.fLeft),(.int .u8 zG.fState.fRegs.a0),(.int .u8 zG.fState.fRegs.a1),(.int .u8 zG.fState.fRegs.a2),(.int .u8 zG.fState.fRegs.a3),(.int .u8 zG.fX.fOp),(.int .i64 zG.fX.fA),(.int .i64 zG.fX.fB),(.int .i64 zG.fX.fC),(.slice z6r zG.fMem.length z6s),(.int .u8 zG.fAct.fKind),(.int .i64 zG.fAct.fA),(.int .i64 zG.fAct.fB),(.slice z6t zG.fAct.fData.length z6u)]]) :
  Calls Tryd.prog 100 #[(.pointer (some ⟨z3B,0,none⟩))] w₀ fun e w'=>∃ zbA : Option Addr,∃ zbB : Nat,∃ zbC : Option Addr,∃ zbD : Nat,e = .returned (.tuple #[]) ∧ ((ZS Z 1 (fun r x=>r = e5 x) zbA zbB r.fMem) ∧ (ZS Z 1 (fun r x=>r = e5 x) zbC zbD r.fAct.fData)) ∧ Hp (fps [stb z3B 65 [(.int .i64 zG.fState.fPc),(.int .i64 zG.fState.fLeft),(.int .u8 zG.fState.fRegs.a0),(.int .u8 zG.fState.fRegs.a1),(.int .u8 zG.fState.fRegs.a2),(.int .u8 zG.fState.fRegs.a3),(.int .u8 zG.fX.fOp),(.int .i64 zG.fX.fA),(.int .i64 zG.fX.fB),(.int .i64 zG.fX.fC),(.slice z6r zG.fMem.length z6s),(.int .u8 zG.fAct.fKind),(.int .i64 zG.fAct.fA),(.int .i64 zG.fAct.fB),(.slice z6t zG.fAct.fData.length z6u)]]) w₀ w' [stb z3B 65 [(.int .i64 r.fState.fPc),(.int .i64 r.fState.fLeft),(.int .u8 r.fState.fRegs.a0),(.int .u8 r.fState.fRegs.a1),(.int .u8 r.fState.fRegs.a2),(.int .u8 r.fState.fRegs.a3),(.int .u8 r.fX.fOp),(.int .i64 r.fX.fA),(.int .i64 r.fX.fB),(.int .i64 r.fX.fC),(.slice zbA r.fMem.length zbB),(.int .u8 r.fAct.fKind),(.int .i64 r.fAct.fA),(.int .i64 r.fAct.fB),(.slice zbC r.fAct.fData.length zbD)]]:=by
 unfold y1x at h
 refine Calls.y9 (vs:=[(.pointer (some ⟨z3B,0,none⟩))]) (pre:=[stb z3B 65 [(.int .i64 zG.fState.fPc),(.int .i64 zG.fState.fLeft),(.int .u8 zG.fState.fRegs.a0),(.int .u8 zG.fState.fRegs.a1),(.int .u8 zG.fState.fRegs.a2),(.int .u8 zG.fState.fRegs.a3),(.int .u8 zG.fX.fOp),(.int .i64 zG.fX.fA),(.int .i64 zG.fX.fB),(.int .i64 zG.fX.fC),(.slice z6r zG.fMem.length z6s),(.int .u8 zG.fAct.fKind),(.int .i64 zG.fAct.fA),(.int .i64 zG.fAct.fB),(.slice z6t zG.fAct.fData.length z6u)]]) (env:=[(0,(.pointer (some ⟨z3B,0,none⟩)))]) Tryd.func100 rfl Tryd.ntmps100 rfl (hown) rfl ?_
 obtain ⟨zbz,zfF,h⟩:=zh h
 refine WC.a (WL.pu rfl ?_)
 refine WL.yj (dd:=3) rfl rfl rfl (zI (l:=[.tmp 2,.const (.int .u8 13),.const (.slice none 0 0)]) Tryd.call110 (.cons rfl (.cons rfl (.cons rfl .nil)))) (.cons .here .nil) (cc hz (.cons .here .nil) fun w pz ho=>yl _ _ _ _ _ _ _ _ _ _ _ _ zfF w pz zfD zfE (ZS.nil _ _ _) ho) ?_
 rintro zfG zfH zfI zfJ ⟨zfK,zfL⟩
 refine WL.nil ?_
 obtain rfl:=Option.some.inj h
 refine WX.ye Tryd.results100 .nil (fun w hw=>?_)
 exact ⟨zfG,zfH,zfI,zfJ,y1b,⟨zfK,zfL⟩,hw.sub (.cons .here .nil)⟩
def y1I (zp : Sproc_execution) : Option Sproc_execution :=
 some (⟨zp.fState,zp.fX,zp.fMem,(⟨14,0,0,([] : List Int)⟩ : Sproc_Act)⟩ : Sproc_execution)
set_option maxRecDepth 20000 in
theorem y3X (Z : Zp) (z3C : Nat) (z4v : Option Addr) (z4w : Nat) (z6v : Option Addr) (z6w : Nat) (zp : Sproc_execution) (r : Sproc_execution)
  (h : y1I zp = some r) (w₀ : World) (hz : PZ (fps [stb z3C 65 [(.int .i64 zp.fState.fPc),(.int .i64 zp.fState.fLeft),(.int .u8 zp.fState.fRegs.a0),(.int .u8 zp.fState.fRegs.a1),(.int .u8 zp.fState.fRegs.a2),(.int .u8 zp.fState.fRegs.a3),(.int .u8 zp.fX.fOp),(.int .i64 zp.fX.fA),(.int .i64 zp.fX.fB),(.int .i64 zp.fX.fC),(.slice z4v zp.fMem.length z4w),(.int .u8 zp.fAct.fKind),(.int .i64 zp.fAct.fA),(.int .i64 zp.fAct.fB),(.slice z6v zp.fAct.fData.length z6w)]]) w₀ Z)
  (zfM : ZS Z 1 (fun r x=>r = e5 x) z4v z4w zp.fMem)
  (zmq : ZS Z 1 (fun r x=>r = e5 x) z6v z6w zp.fAct.fData)
  (hown : Hp (fps [stb z3C 65 [(.int .i64 zp.fState.fPc),(.int .i64 zp.fState.fLeft),(.int .u8 zp.fState.fRegs.a0),(.int .u8 zp.fState.fRegs.a1),(.int .u8 zp.fState.fRegs.a2),(.int .u8 zp.fState.fRegs.a3),(.int .u8 zp.fX.fOp),(.int .i64 zp.fX.fA),(.int .i64 zp.fX.fB),(.int .i64 zp.fX.fC),(.slice z4v zp.fMem.length z4w),(.int .u8 zp.fAct.fKind),(.int .i64 zp.fAct.fA),(.int .i64 zp.fAct.fB),(.slice z6v zp.fAct.fData.length z6w)]]) w₀ w₀ [stb z3C 65 [(.int .i64 zp.fState.fPc),(.int .i64 zp.fState.fLeft),(.int .u8 zp.fState.fRegs.a0),(.int .u8 zp.fState.fRegs.a1),(.int .u8 zp.fState.fRegs.a2),(.int .u8 zp.fState.fRegs.a3),(.int .u8 zp.fX.fOp),(.int .i64 zp.fX.fA),(.int .i64 zp.fX.fB),(.int .i64 zp.fX.fC),(.slice z4v zp.fMem.length z4w),(.int .u8 zp.fAct.fKind),(.int .i64 zp.fAct.fA),(.int .i64 zp.fAct.fB),(.slice z6v zp.fAct.fData.length z6w)]]) :
  Calls Tryd.prog 101 #[(.pointer (some ⟨z3C,0,none⟩))] w₀ fun e w'=>∃ zbE : Option Addr,∃ zbF : Nat,∃ zbG : Option Addr,∃ zbH : Nat,e = .returned (.tuple #[]) ∧ (ZS Z 1 (fun r x=>r = e5 x) zbE zbF r.fMem) ∧ Hp (fps [stb z3C 65 [(.int .i64 zp.fState.fPc),(.int .i64 zp.fState.fLeft),(.int .u8 zp.fState.fRegs.a0),(.int .u8 zp.fState.fRegs.a1),(.int .u8 zp.fState.fRegs.a2),(.int .u8 zp.fState.fRegs.a3),(.int .u8 zp.fX.fOp),(.int .i64 zp.fX.fA),(.int .i64 zp.fX.fB),(.int .i64 zp.fX.fC),(.slice z4v zp.fMem.length z4w),(.int .u8 zp.fAct.fKind),(.int .i64 zp.fAct.fA),(.int .i64 zp.fAct.fB),(.slice z6v zp.fAct.fData.length z6w)]]) w₀ w' [stb z3C 65 [(.int .i64 r.fState.fPc),(.int .i64 r.fState.fLeft),(.int .u8 r.fState.fRegs.a0),(.int .u8 r.fState.fRegs.a1),(.int .u8 r.fState.fRegs.a2),(.int .u8 r.fState.fRegs.a3),(.int .u8 r.fX.fOp),(.int .i64 r.fX.fA),(.int .i64 r.fX.fB),(.int .i64 r.fX.fC),(.slice zbE r.fMem.length zbF),(.int .u8 r.fAct.fKind),(.int .i64 r.fAct.fA),(.int .i64 r.fAct.fB),(.slice zbG r.fAct.fData.length zbH)],row (.slice zbG r.fAct.fData.length zbH) 5 1 (r.fAct.fData.flatMap e5)]:=by
 unfold y1I at h
 refine Calls.y9 (vs:=[(.pointer (some ⟨z3C,0,none⟩))]) (pre:=[stb z3C 65 [(.int .i64 zp.fState.fPc),(.int .i64 zp.fState.fLeft),(.int .u8 zp.fState.fRegs.a0),(.int .u8 zp.fState.fRegs.a1),(.int .u8 zp.fState.fRegs.a2),(.int .u8 zp.fState.fRegs.a3),(.int .u8 zp.fX.fOp),(.int .i64 zp.fX.fA),(.int .i64 zp.fX.fB),(.int .i64 zp.fX.fC),(.slice z4v zp.fMem.length z4w),(.int .u8 zp.fAct.fKind),(.int .i64 zp.fAct.fA),(.int .i64 zp.fAct.fB),(.slice z6v zp.fAct.fData.length z6w)]]) (env:=[(0,(.pointer (some ⟨z3C,0,none⟩)))]) Tryd.func101 rfl Tryd.ntmps101 rfl (hown) rfl ?_
 refine WC.a (WL.pu rfl ?_)
 refine WL.a (d:=3) rfl rfl rfl (yX (v:=(.agg #[(.int .u8 14),(.int .i64 0),(.int .i64 0),(.slice none 0 0)])) (Eos.parts (l:=[.const (.int .u8 14)]) (.cons rfl .nil) [0]) (fun _=>by kernel_rfl)) ?_
 refine WL.a (d:=4) rfl rfl rfl (y7 rfl) ?_
 refine WL.a (d:=5) rfl rfl rfl (y4 y3i rfl rfl) ?_
 refine WL.yk rfl rfl (y1p (ds:=[(.int .i64 zp.fState.fPc),(.int .i64 zp.fState.fLeft),(.int .u8 zp.fState.fRegs.a0),(.int .u8 zp.fState.fRegs.a1),(.int .u8 zp.fState.fRegs.a2),(.int .u8 zp.fState.fRegs.a3),(.int .u8 zp.fX.fOp),(.int .i64 zp.fX.fA),(.int .i64 zp.fX.fB),(.int .i64 zp.fX.fC),(.slice z4v zp.fMem.length z4w),(.int .u8 14),(.int .i64 0),(.int .i64 0),(.slice none 0 0)]) y1Y rfl rfl rfl rfl rfl .here rfl rfl) ?_
 refine WL.nil ?_
 refine WX.nilRow 5 1 ?_
 obtain rfl:=Option.some.inj h
 refine WX.ye Tryd.results101 .nil (fun w hw=>?_)
 exact ⟨z4v,z4w,none,0,y1b,zfM,hw.sub (.cons .h1 (.cons .here .nil))⟩
def y1J (zl : Sproc_execution) : Option Sproc_execution :=
 some (⟨(⟨zl.fX.fA,zl.fState.fLeft,zl.fState.fRegs⟩ : Sproc_State),zl.fX,zl.fMem,zl.fAct⟩ : Sproc_execution)
set_option maxRecDepth 20000 in
theorem y3Y (Z : Zp) (z3D : Nat) (z4x : Option Addr) (z4y : Nat) (z4z : Option Addr) (z4A : Nat) (zl : Sproc_execution) (r : Sproc_execution)
  (h : y1J zl = some r) (w₀ : World) (hz : PZ (fps [stb z3D 65 [(.int .i64 zl.fState.fPc),(.int .i64 zl.fState.fLeft),(.int .u8 zl.fState.fRegs.a0),(.int .u8 zl.fState.fRegs.a1),(.int .u8 zl.fState.fRegs.a2),(.int .u8 zl.fState.fRegs.a3),(.int .u8 zl.fX.fOp),(.int .i64 zl.fX.fA),(.int .i64 zl.fX.fB),(.int .i64 zl.fX.fC),(.slice z4x zl.fMem.length z4y),(.int .u8 zl.fAct.fKind),(.int .i64 zl.fAct.fA),(.int .i64 zl.fAct.fB),(.slice z4z zl.fAct.fData.length z4A)]]) w₀ Z)
  (zfN : ZS Z 1 (fun r x=>r = e5 x) z4x z4y zl.fMem)
  (zfO : ZS Z 1 (fun r x=>r = e5 x) z4z z4A zl.fAct.fData)
  (hown : Hp (fps [stb z3D 65 [(.int .i64 zl.fState.fPc),(.int .i64 zl.fState.fLeft),(.int .u8 zl.fState.fRegs.a0),(.int .u8 zl.fState.fRegs.a1),(.int .u8 zl.fState.fRegs.a2),(.int .u8 zl.fState.fRegs.a3),(.int .u8 zl.fX.fOp),(.int .i64 zl.fX.fA),(.int .i64 zl.fX.fB),(.int .i64 zl.fX.fC),(.slice z4x zl.fMem.length z4y),(.int .u8 zl.fAct.fKind),(.int .i64 zl.fAct.fA),(.int .i64 zl.fAct.fB),(.slice z4z zl.fAct.fData.length z4A)]]) w₀ w₀ [stb z3D 65 [(.int .i64 zl.fState.fPc),(.int .i64 zl.fState.fLeft),(.int .u8 zl.fState.fRegs.a0),(.int .u8 zl.fState.fRegs.a1),(.int .u8 zl.fState.fRegs.a2),(.int .u8 zl.fState.fRegs.a3),(.int .u8 zl.fX.fOp),(.int .i64 zl.fX.fA),(.int .i64 zl.fX.fB),(.int .i64 zl.fX.fC),(.slice z4x zl.fMem.length z4y),(.int .u8 zl.fAct.fKind),(.int .i64 zl.fAct.fA),(.int .i64 zl.fAct.fB),(.slice z4z zl.fAct.fData.length z4A)]]) :
  Calls Tryd.prog 102 #[(.pointer (some ⟨z3D,0,none⟩))] w₀ fun e w'=>∃ zbI : Option Addr,∃ zbJ : Nat,∃ zbK : Option Addr,∃ zbL : Nat,e = .returned (.tuple #[]) ∧ ((ZS Z 1 (fun r x=>r = e5 x) zbI zbJ r.fMem) ∧ (ZS Z 1 (fun r x=>r = e5 x) zbK zbL r.fAct.fData)) ∧ Hp (fps [stb z3D 65 [(.int .i64 zl.fState.fPc),(.int .i64 zl.fState.fLeft),(.int .u8 zl.fState.fRegs.a0),(.int .u8 zl.fState.fRegs.a1),(.int .u8 zl.fState.fRegs.a2),(.int .u8 zl.fState.fRegs.a3),(.int .u8 zl.fX.fOp),(.int .i64 zl.fX.fA),(.int .i64 zl.fX.fB),(.int .i64 zl.fX.fC),(.slice z4x zl.fMem.length z4y),(.int .u8 zl.fAct.fKind),(.int .i64 zl.fAct.fA),(.int .i64 zl.fAct.fB),(.slice z4z zl.fAct.fData.length z4A)]]) w₀ w' [stb z3D 65 [(.int .i64 r.fState.fPc),(.int .i64 r.fState.fLeft),(.int .u8 r.fState.fRegs.a0),(.int .u8 r.fState.fRegs.a1),(.int .u8 r.fState.fRegs.a2),(.int .u8 r.fState.fRegs.a3),(.int .u8 r.fX.fOp),(.int .i64 r.fX.fA),(.int .i64 r.fX.fB),(.int .i64 r.fX.fC),(.slice zbI r.fMem.length zbJ),(.int .u8 r.fAct.fKind),(.int .i64 r.fAct.fA),(.int .i64 r.fAct.fB),(.slice zbK r.fAct.fData.length zbL)]]:=by
 unfold y1J at h
 refine Calls.y9 (vs:=[(.pointer (some ⟨z3D,0,none⟩))]) (pre:=[stb z3D 65 [(.int .i64 zl.fState.fPc),(.int .i64 zl.fState.fLeft),(.int .u8 zl.fState.fRegs.a0),(.int .u8 zl.fState.fRegs.a1),(.int .u8 zl.fState.fRegs.a2),(.int .u8 zl.fState.fRegs.a3),(.int .u8 zl.fX.fOp),(.int .i64 zl.fX.fA),(.int .i64 zl.fX.fB),(.int .i64 zl.fX.fC),(.slice z4x zl.fMem.length z4y),(.int .u8 zl.fAct.fKind),(.int .i64 zl.fAct.fA),(.int .i64 zl.fAct.fB),(.slice z4z zl.fAct.fData.length z4A)]]) (env:=[(0,(.pointer (some ⟨z3D,0,none⟩)))]) Tryd.func102 rfl Tryd.ntmps102 rfl (hown) rfl ?_
 refine WC.a (WL.pu rfl (WL.pu rfl ?_))
 refine WL.a (d:=4) rfl rfl rfl (y7 rfl) ?_
 refine WL.a (d:=5) rfl rfl rfl (y4 yH rfl rfl) ?_
 refine WL.a (d:=6) rfl rfl rfl (y4 y1r rfl rfl) ?_
 refine WL.a (d:=7) rfl rfl rfl (y6 yg rfl (yb .here rfl)) ?_
 refine WL.a (d:=8) rfl rfl rfl (y7 rfl) ?_
 refine WL.a (d:=9) rfl rfl rfl (y4 y1j rfl rfl) ?_
 refine WL.a (d:=10) rfl rfl rfl (y4 y1X rfl rfl) ?_
 refine WL.yk rfl rfl (y1p (ds:=[(.int .i64 zl.fX.fA),(.int .i64 zl.fState.fLeft),(.int .u8 zl.fState.fRegs.a0),(.int .u8 zl.fState.fRegs.a1),(.int .u8 zl.fState.fRegs.a2),(.int .u8 zl.fState.fRegs.a3),(.int .u8 zl.fX.fOp),(.int .i64 zl.fX.fA),(.int .i64 zl.fX.fB),(.int .i64 zl.fX.fC),(.slice z4x zl.fMem.length z4y),(.int .u8 zl.fAct.fKind),(.int .i64 zl.fAct.fA),(.int .i64 zl.fAct.fB),(.slice z4z zl.fAct.fData.length z4A)]) y33 rfl rfl rfl rfl rfl .here rfl rfl) ?_
 refine WL.nil ?_
 obtain rfl:=Option.some.inj h
 refine WX.ye Tryd.results102 .nil (fun w hw=>?_)
 exact ⟨z4x,z4y,z4z,z4A,y1b,⟨zfN,zfO⟩,hw.sub (.cons .here .nil)⟩
def y1K (zf : Sproc_execution) : Option Sproc_execution :=
 (yc zf zf.fX.fA).bind fun zfP=>chk ((0 : Int) ≤ zf.fX.fA ∧ zf.fX.fA < 4) (if decide ((nth ([zf.fState.fRegs.a0,zf.fState.fRegs.a1,zf.fState.fRegs.a2,zf.fState.fRegs.a3] : List Int) zf.fX.fA) = 0) then some (⟨(⟨zf.fX.fB,zf.fState.fLeft,zf.fState.fRegs⟩ : Sproc_State),zf.fX,zf.fMem,zf.fAct⟩ : Sproc_execution) else some zf)
set_option maxRecDepth 20000 in
theorem y3Z (Z : Zp) (z3E : Nat) (z3F : Option Addr) (z3G : Nat) (z3H : Option Addr) (z3I : Nat) (zf : Sproc_execution) (r : Sproc_execution)
  (h : y1K zf = some r) (w₀ : World) (hz : PZ (fps [stb z3E 65 [(.int .i64 zf.fState.fPc),(.int .i64 zf.fState.fLeft),(.int .u8 zf.fState.fRegs.a0),(.int .u8 zf.fState.fRegs.a1),(.int .u8 zf.fState.fRegs.a2),(.int .u8 zf.fState.fRegs.a3),(.int .u8 zf.fX.fOp),(.int .i64 zf.fX.fA),(.int .i64 zf.fX.fB),(.int .i64 zf.fX.fC),(.slice z3F zf.fMem.length z3G),(.int .u8 zf.fAct.fKind),(.int .i64 zf.fAct.fA),(.int .i64 zf.fAct.fB),(.slice z3H zf.fAct.fData.length z3I)]]) w₀ Z)
  (z8B : ZS Z 1 (fun r x=>r = e5 x) z3F z3G zf.fMem)
  (z8C : ZS Z 1 (fun r x=>r = e5 x) z3H z3I zf.fAct.fData)
  (hown : Hp (fps [stb z3E 65 [(.int .i64 zf.fState.fPc),(.int .i64 zf.fState.fLeft),(.int .u8 zf.fState.fRegs.a0),(.int .u8 zf.fState.fRegs.a1),(.int .u8 zf.fState.fRegs.a2),(.int .u8 zf.fState.fRegs.a3),(.int .u8 zf.fX.fOp),(.int .i64 zf.fX.fA),(.int .i64 zf.fX.fB),(.int .i64 zf.fX.fC),(.slice z3F zf.fMem.length z3G),(.int .u8 zf.fAct.fKind),(.int .i64 zf.fAct.fA),(.int .i64 zf.fAct.fB),(.slice z3H zf.fAct.fData.length z3I)]]) w₀ w₀ [stb z3E 65 [(.int .i64 zf.fState.fPc),(.int .i64 zf.fState.fLeft),(.int .u8 zf.fState.fRegs.a0),(.int .u8 zf.fState.fRegs.a1),(.int .u8 zf.fState.fRegs.a2),(.int .u8 zf.fState.fRegs.a3),(.int .u8 zf.fX.fOp),(.int .i64 zf.fX.fA),(.int .i64 zf.fX.fB),(.int .i64 zf.fX.fC),(.slice z3F zf.fMem.length z3G),(.int .u8 zf.fAct.fKind),(.int .i64 zf.fAct.fA),(.int .i64 zf.fAct.fB),(.slice z3H zf.fAct.fData.length z3I)]]) :
  Calls Tryd.prog 103 #[(.pointer (some ⟨z3E,0,none⟩))] w₀ fun e w'=>∃ zbM : Option Addr,∃ zbN : Nat,∃ zbO : Option Addr,∃ zbP : Nat,e = .returned (.tuple #[]) ∧ ((ZS Z 1 (fun r x=>r = e5 x) zbM zbN r.fMem) ∧ (ZS Z 1 (fun r x=>r = e5 x) zbO zbP r.fAct.fData)) ∧ Hp (fps [stb z3E 65 [(.int .i64 zf.fState.fPc),(.int .i64 zf.fState.fLeft),(.int .u8 zf.fState.fRegs.a0),(.int .u8 zf.fState.fRegs.a1),(.int .u8 zf.fState.fRegs.a2),(.int .u8 zf.fState.fRegs.a3),(.int .u8 zf.fX.fOp),(.int .i64 zf.fX.fA),(.int .i64 zf.fX.fB),(.int .i64 zf.fX.fC),(.slice z3F zf.fMem.length z3G),(.int .u8 zf.fAct.fKind),(.int .i64 zf.fAct.fA),(.int .i64 zf.fAct.fB),(.slice z3H zf.fAct.fData.length z3I)]]) w₀ w' [stb z3E 65 [(.int .i64 r.fState.fPc),(.int .i64 r.fState.fLeft),(.int .u8 r.fState.fRegs.a0),(.int .u8 r.fState.fRegs.a1),(.int .u8 r.fState.fRegs.a2),(.int .u8 r.fState.fRegs.a3),(.int .u8 r.fX.fOp),(.int .i64 r.fX.fA),(.int .i64 r.fX.fB),(.int .i64 r.fX.fC),(.slice zbM r.fMem.length zbN),(.int .u8 r.fAct.fKind),(.int .i64 r.fAct.fA),(.int .i64 r.fAct.fB),(.slice zbO r.fAct.fData.length zbP)]]:=by
 unfold y1K at h
 refine Calls.y9 (vs:=[(.pointer (some ⟨z3E,0,none⟩))]) (pre:=[stb z3E 65 [(.int .i64 zf.fState.fPc),(.int .i64 zf.fState.fLeft),(.int .u8 zf.fState.fRegs.a0),(.int .u8 zf.fState.fRegs.a1),(.int .u8 zf.fState.fRegs.a2),(.int .u8 zf.fState.fRegs.a3),(.int .u8 zf.fX.fOp),(.int .i64 zf.fX.fA),(.int .i64 zf.fX.fB),(.int .i64 zf.fX.fC),(.slice z3F zf.fMem.length z3G),(.int .u8 zf.fAct.fKind),(.int .i64 zf.fAct.fA),(.int .i64 zf.fAct.fB),(.slice z3H zf.fAct.fData.length z3I)]]) (env:=[(0,(.pointer (some ⟨z3E,0,none⟩)))]) Tryd.func103 rfl Tryd.ntmps103 rfl (hown) rfl ?_
 refine WC.b ?_
 obtain ⟨zfP,zfQ,h⟩:=zh h
 obtain ⟨zfR,h⟩:=ya h
 refine WC.a (WL.pu rfl (WL.pu rfl ?_))
 refine WL.a (d:=4) rfl rfl rfl (y7 rfl) ?_
 refine WL.a (d:=5) rfl rfl rfl (y4 yH rfl rfl) ?_
 refine WL.a (d:=6) rfl rfl rfl (y4 y1r rfl rfl) ?_
 refine WL.a (d:=7) rfl rfl rfl (y6 yg rfl (yb .here rfl)) ?_
 refine WL.b (dd:=8) rfl rfl rfl (zI (l:=[.tmp 2,.tmp 7]) Tryd.call108 (.cons rfl (.cons rfl .nil))) .nil (ccl hz .nil (.cons .here .nil) fun w pz ho la=>yh _ _ _ _ _ _ _ _ _ zfQ w pz (z8B.mono (Zle.left _ _)) (z8C.mono (Zle.left _ _)) ((la _ (.head _) _).stb)) ?_
 refine WL.a (d:=9) rfl rfl rfl (y7 rfl) ?_
 refine WL.a (d:=10) rfl rfl rfl (y6 yS rfl (y20 (l:=([zf.fState.fRegs.a0,zf.fState.fRegs.a1,zf.fState.fRegs.a2,zf.fState.fRegs.a3] : List Int)) (f:=Value.int .u8) (k:=2) (m:=6) .here rfl rfl zfR)) ?_
 refine WL.pu rfl (WL.nil (WX.a ?_))
 refine WC.cond rfl (fun z8D=>?_) (fun z8D=>?_)
 ·replace h:=yn h z8D
  refine WC.a (WL.pu rfl (WL.pu rfl ?_))
  refine WL.a (d:=14) rfl rfl rfl (y7 rfl) ?_
  refine WL.a (d:=15) rfl rfl rfl (y4 yH rfl rfl) ?_
  refine WL.a (d:=16) rfl rfl rfl (y4 y23 rfl rfl) ?_
  refine WL.a (d:=17) rfl rfl rfl (y6 yg rfl (yb .here rfl)) ?_
  refine WL.a (d:=18) rfl rfl rfl (y7 rfl) ?_
  refine WL.a (d:=19) rfl rfl rfl (y4 y1j rfl rfl) ?_
  refine WL.a (d:=20) rfl rfl rfl (y4 y1X rfl rfl) ?_
  refine WL.yk rfl rfl (y1p (ds:=[(.int .i64 zf.fX.fB),(.int .i64 zf.fState.fLeft),(.int .u8 zf.fState.fRegs.a0),(.int .u8 zf.fState.fRegs.a1),(.int .u8 zf.fState.fRegs.a2),(.int .u8 zf.fState.fRegs.a3),(.int .u8 zf.fX.fOp),(.int .i64 zf.fX.fA),(.int .i64 zf.fX.fB),(.int .i64 zf.fX.fC),(.slice z3F zf.fMem.length z3G),(.int .u8 zf.fAct.fKind),(.int .i64 zf.fAct.fA),(.int .i64 zf.fAct.fB),(.slice z3H zf.fAct.fData.length z3I)]) y33 rfl rfl rfl rfl rfl .here rfl rfl) ?_
  refine WL.nil ?_
  obtain rfl:=Option.some.inj h
  refine WX.ye Tryd.results103 .nil (fun w hw=>?_)
  exact ⟨z3F,z3G,z3H,z3I,y1b,⟨z8B,z8C⟩,hw.sub (.cons .here .nil)⟩
 ·replace h:=yo h z8D
  refine WC.skip ?_
  obtain rfl:=Option.some.inj h
  refine WX.ye Tryd.results103 .nil (fun w hw=>?_)
  exact ⟨z3F,z3G,z3H,z3I,y1b,⟨z8B,z8C⟩,hw.sub (.cons .here .nil)⟩
end Go.Proofs.YtjdnejbngloieaaDoor
