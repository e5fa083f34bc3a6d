/- A part of this claim's proof: models of functions, walks, plain laws. No conditions. -/
import Derived.Test.YtjdnejbngloieaaDoorZSortF
import Derived.Test.YtjdnejbngloieaaDoorZSort
import Derived.Test.YtjdnejbngloieaaDoorZUnroll
import Derived.Test.YtjdnejbngloieaaDoorZArr
import Derived.Test.YtjdnejbngloieaaDoorShelf26
import Derived.Test.YtjdnejbngloieaaDoorProg
namespace Go.Proofs.YtjdnejbngloieaaDoor
open Go Go.RowKit Sep
set_option linter.all false
set_option maxRecDepth 30000
set_option maxHeartbeats 4000000
structure S34 where
 a0 : Int
 a1 : Int
 a2 : Int
 a3 : Int
 deriving Inhabited,DecidableEq
def e5 (x : Int) : List Value:=[(.int .u8 x)]
def e3 (x : Int) : List Value:=[(.int .i64 x)]
theorem y59 : ∀ x,∀ u ∈ e3 x,u.oneCell' = true:=fun _=>ocB rfl
structure Sapi_Ins where
 fOp : Int
 fA : Int
 fB : Int
 fC : Int
 deriving Inhabited,DecidableEq
structure S7 where
 fX : Int
 fY : Int
 fSigned : Bool
 fCode : Int
 deriving Inhabited,DecidableEq
structure S13 where
 fMsg : ByteArray
 fAddr : Int
 deriving Inhabited,DecidableEq
def e33 (x : Sapi_Ins) : List Value:=[(.int .u8 x.fOp),(.int .i64 x.fA),(.int .i64 x.fB),(.int .i64 x.fC)]
structure Sproc_State where
 fPc : Int
 fLeft : Int
 fRegs : S34
 deriving Inhabited,DecidableEq
def e76 (x : Int) : List Value:=[(.int .u8 x)]
def p74 (Z : Zp) (r : List Value) (x : List Int) : Prop:=∃ (ao0 : Option Addr) (cap0 : Nat),r = [(.slice ao0 x.length cap0)] ∧ ZS Z 1 (fun r x=>r = e76 x) ao0 cap0 x
theorem yQ {Z Z' : Zp} (k : Zle Z Z') {r : List Value} {x : List Int} (h : p74 Z r x) : p74 Z' r x:=by
 obtain ⟨ao0,cap0,hr,h0⟩:=h
 exact ⟨ao0,cap0,hr,h0.mono k⟩
def yX : List (List Int):=[[],[1],[2,3],[2,2],[2,2],[2,4,2],[2,4,2],[6,2,5],[6,2,2],[6],[6],[6],[6],[6],[6,2],[6,2],[6,2],[6,2],[6],[],[7],[2,7],[2,2,7],[2,2],[3],[]]
structure Sproc_Act where
 fKind : Int
 fA : Int
 fB : Int
 fData : List Int
 deriving Inhabited,DecidableEq
structure Sproc_execution where
 fState : Sproc_State
 fX : Sapi_Ins
 fMem : List Int
 fAct : Sproc_Act
 deriving Inhabited,DecidableEq
def tabG0 : List Value:=[.nilFunc,.func (.func 84) #[] #[],.func (.func 85) #[] #[],.func (.func 82) #[] #[],.func (.func 86) #[] #[],.func (.func 87) #[] #[],.func (.func 88) #[] #[],.func (.func 89) #[] #[],.func (.func 90) #[] #[],.func (.func 91) #[] #[],.func (.func 92) #[] #[],.func (.func 93) #[] #[],.func (.func 94) #[] #[],.func (.func 95) #[] #[],.func (.func 96) #[] #[],.func (.func 97) #[] #[],.func (.func 98) #[] #[],.func (.func 99) #[] #[],.func (.func 100) #[] #[],.func (.func 101) #[] #[],.func (.func 102) #[] #[],.func (.func 103) #[] #[],.func (.func 104) #[] #[],.func (.func 105) #[] #[],.func (.func 106) #[] #[],.func (.func 107) #[] #[]]
def e39 (x : Sproc_State) : List Value:=[(.int .i64 x.fPc),(.int .i64 x.fLeft),(.int .u8 x.fRegs.a0),(.int .u8 x.fRegs.a1),(.int .u8 x.fRegs.a2),(.int .u8 x.fRegs.a3)]
def e34 (x : S34) : List Value:=[(.int .u8 x.a0),(.int .u8 x.a1),(.int .u8 x.a2),(.int .u8 x.a3)]
theorem yA : elT Tryd.prog 30 3 1 8:=⟨Tryd.underlying30,⟨Tryd.t3,_,rfl,rfl,rfl,rfl,rfl⟩,by decide⟩
theorem y4a : y24 Tryd.prog 33 (.agg #[(.int .u8 0),(.int .i64 0),(.int .i64 0),(.int .i64 0)]):=y2o (i:=Tryd.t33) rfl rfl
theorem ye : y38 Tryd.prog 3:=y2s Tryd.underlying3 rfl
theorem y3K : y2T Tryd.prog 33 4:=y2t (i:=Tryd.t33) rfl
theorem y2M : aggT Tryd.prog 33 4:=y5d (i:=Tryd.t33) Tryd.underlying33 rfl rfl
theorem y2E : elT Tryd.prog 22 33 4 32:=⟨Tryd.underlying22,⟨Tryd.t33,_,rfl,rfl,rfl,rfl,rfl⟩,by decide⟩
theorem y3L : y24 Tryd.prog 5 (.int .u8 0):=y2o (i:=Tryd.t5) rfl rfl
theorem y1W : elT Tryd.prog 35 5 1 1:=⟨Tryd.underlying35,⟨Tryd.t5,_,rfl,rfl,rfl,rfl,rfl⟩,by decide⟩
theorem y1o : y24 Tryd.prog 39 (.agg #[(.int .i64 0),(.int .i64 0),(.int .u8 0),(.int .u8 0),(.int .u8 0),(.int .u8 0)]):=y2o (i:=Tryd.t39) rfl rfl
theorem y21 : y2T Tryd.prog 39 6:=y2t (i:=Tryd.t39) rfl
theorem y1p : aggT Tryd.prog 39 6:=y5d (i:=Tryd.t39) Tryd.underlying39 rfl rfl
theorem y1X : y24 Tryd.prog 41 (.agg #[(.int .u8 0),(.int .i64 0),(.int .i64 0),(.slice none 0 0)]):=y2o (i:=Tryd.t41) rfl rfl
theorem y1V : yY Tryd.prog 39 0 0:=yG (i:=Tryd.t3) Tryd.underlying39 rfl rfl (by decide) rfl
theorem y36 : yY Tryd.prog 33 0 0:=yG (i:=Tryd.t5) Tryd.underlying33 rfl rfl (by decide) rfl
theorem yx : y38 Tryd.prog 5:=y2s Tryd.underlying5 rfl
theorem y1q : yY Tryd.prog 33 1 1:=yG (i:=Tryd.t3) Tryd.underlying33 rfl rfl (by decide) rfl
theorem y22 : yY Tryd.prog 33 2 2:=yG (i:=Tryd.t3) Tryd.underlying33 rfl rfl (by decide) rfl
theorem y3M : yY Tryd.prog 33 3 3:=yG (i:=Tryd.t3) Tryd.underlying33 rfl rfl (by decide) rfl
theorem zeroT_73 : y24 Tryd.prog 73 (.agg #[(.int .i64 0),(.int .i64 0),(.int .i64 0)]):=y2o (i:=Tryd.t73) rfl rfl
theorem sizT_73 : y2T Tryd.prog 73 3:=y2t (i:=Tryd.t73) rfl
theorem arT_75 : arT Tryd.prog 75 74 26 1:=y57 Tryd.underlying75 (inf:=Tryd.t74) rfl rfl rfl
theorem oneT_74 : y38 Tryd.prog 74:=y2s Tryd.underlying74 rfl
theorem elT_74 : elT Tryd.prog 74 76 1 1:=⟨Tryd.underlying74,⟨Tryd.t76,_,rfl,rfl,rfl,rfl,rfl⟩,by decide⟩
theorem oneT_76 : y38 Tryd.prog 76:=y2s Tryd.underlying76 rfl
theorem arT_73 : arT Tryd.prog 73 3 3 1:=y57 Tryd.underlying73 (inf:=Tryd.t3) rfl rfl rfl
theorem y1z : y2T Tryd.prog 41 4:=y2t (i:=Tryd.t41) rfl
theorem y2x : aggT Tryd.prog 41 4:=y5d (i:=Tryd.t41) Tryd.underlying41 rfl rfl
theorem y1i : yY Tryd.prog 65 0 0:=yG (i:=Tryd.t39) Tryd.underlying65 rfl rfl (by decide) rfl
theorem y33 : y2T Tryd.prog 3 1:=y2t (i:=Tryd.t3) rfl
theorem arT_67 : arT Tryd.prog 67 66 26 1:=y57 Tryd.underlying67 (inf:=Tryd.t66) rfl rfl rfl
theorem y3N : yY Tryd.prog 39 1 1:=yG (i:=Tryd.t3) Tryd.underlying39 rfl rfl (by decide) rfl
theorem yE : yY Tryd.prog 65 1 6:=yG (i:=Tryd.t33) Tryd.underlying65 rfl rfl (by decide) rfl
theorem yF : y38 Tryd.prog 66:=y2s Tryd.underlying66 rfl
theorem y5k : yY Tryd.prog 39 2 2:=yG (i:=Tryd.t34) Tryd.underlying39 rfl rfl (by decide) rfl
theorem y5P : arT Tryd.prog 34 5 4 1:=y57 Tryd.underlying34 (inf:=Tryd.t5) rfl rfl rfl
theorem y3o : y2T Tryd.prog 5 1:=y2t (i:=Tryd.t5) rfl
theorem y69 : yY Tryd.prog 65 2 10:=yG (i:=Tryd.t35) Tryd.underlying65 rfl rfl (by decide) rfl
theorem y3g : y38 Tryd.prog 35:=y2s Tryd.underlying35 rfl
theorem y3h : yY Tryd.prog 65 3 11:=yG (i:=Tryd.t41) Tryd.underlying65 rfl rfl (by decide) rfl
theorem y2N : yY Tryd.prog 41 0 0:=yG (i:=Tryd.t5) Tryd.underlying41 rfl rfl (by decide) rfl
theorem eqT_39 : EqT Tryd.prog 39 e39:=⟨fun u v w=>by
 have i39_10000:=fun (w : World) (a b : Array Value)=>run_equalIn_agg (P:=Tryd.prog) w 9999 39 a b (by simp [Program.fieldsOf,Tryd.underlying39]) (by kernel_rfl)
 have i3_9999:=fun (w : World) (a b : Int)=>run_equalIn_int (P:=Tryd.prog) w 9998 3 .i64 .i64 a b Tryd.underlying3
 have i5_9998:=fun (w : World) (a b : Int)=>run_equalIn_int (P:=Tryd.prog) w 9997 5 .u8 .u8 a b Tryd.underlying5
 have i34_9999 : ∀ (w : World) (a0 a1 a2 a3 b0 b1 b2 b3 : Int),(Op.equalIn 9999 34 (.agg #[.int .u8 a0,.int .u8 a1,.int .u8 a2,.int .u8 a3]) (.agg #[.int .u8 b0,.int .u8 b1,.int .u8 b2,.int .u8 b3])).run Tryd.prog w = .ok (decide (a0 = b0 ∧ a1 = b1 ∧ a2 = b2 ∧ a3 = b3)) w:=fun w a0 a1 a2 a3 b0 b1 b2 b3=>by
  rw [show (9999 : Nat) = 9998 + 1 from rfl,Op.equalIn]
  simp [run_underlying Tryd.underlying34,part,i5_9998,List.range',Std.Legacy.Range.forIn_eq_forIn_range',Std.Legacy.Range.size]
  by_cases h0 : a0 = b0 <;> by_cases h1 : a1 = b1 <;> by_cases h2 : a2 = b2 <;> by_cases h3 : a3 = b3 <;> simp [h0,h1,h2,h3]
 rw [i39_10000]
 simp [Program.fieldsOf,Op.eqFields,part,e39,i39_10000,Tryd.underlying39,i3_9999,i5_9998,i34_9999]
 rcases u with ⟨u1,u2,⟨u3,u4,u5,u6⟩⟩
 rcases v with ⟨v1,v2,⟨v3,v4,v5,v6⟩⟩
 by_cases h1 : u1 = v1 <;> by_cases h2 : u2 = v2 <;> by_cases h3 : u3 = v3 <;> by_cases h4 : u4 = v4 <;> by_cases h5 : u5 = v5 <;> by_cases h6 : u6 = v6 <;> simp [h1,h2,h3,h4,h5,h6],by kernel_rfl⟩
theorem y2O : y38 Tryd.prog 22:=y2s Tryd.underlying22 rfl
theorem y3p : KeyT Tryd.prog 3 (Value.int .i64):=keyT_int Tryd.underlying3
theorem zeroT_54 : y24 Tryd.prog 54 (.map none):=y2o (i:=Tryd.t54) rfl rfl
theorem sizT_54 : y2T Tryd.prog 54 1:=y2t (i:=Tryd.t54) rfl
theorem zeroT_55 : y24 Tryd.prog 55 .nilFunc:=y2o (i:=Tryd.t55) rfl rfl
theorem sizT_55 : y2T Tryd.prog 55 1:=y2t (i:=Tryd.t55) rfl
theorem y6a : y38 Tryd.prog 55:=y2s Tryd.underlying55 rfl
theorem y3i : y38 Tryd.prog 54:=y2s Tryd.underlying54 rfl
theorem y4L : y24 Tryd.prog 3 (.int .i64 0):=y2o (i:=Tryd.t3) rfl rfl
theorem y3j : yY Tryd.prog 41 1 1:=yG (i:=Tryd.t3) Tryd.underlying41 rfl rfl (by decide) rfl
theorem y4M : yY Tryd.prog 41 2 2:=yG (i:=Tryd.t3) Tryd.underlying41 rfl rfl (by decide) rfl
theorem y4N : yY Tryd.prog 41 3 3:=yG (i:=Tryd.t35) Tryd.underlying41 rfl rfl (by decide) rfl
def y4o (l : List Int) : Option (List Int):=chk (0 < l.length ∧ l.length < 4611686018427387904) (some (y4J l))
theorem y5y (Z : Zp) (ao : Option Addr) (cap : Nat) (l : List Int) (r : List Int) (w₀ : World) (hz : PZ (fps [row (.slice ao l.length cap) 3 1 (l.flatMap e3)]) w₀ Z)
  (h : y4o l = some r) (hown : Hp (fps [row (.slice ao l.length cap) 3 1 (l.flatMap e3)]) w₀ w₀ [row (.slice ao l.length cap) 3 1 (l.flatMap e3)]) :
  Calls Tryd.prog 34 #[.slice ao l.length cap] w₀ fun e w'=>e = .returned (.tuple #[]) ∧ (r.length = l.length) ∧ Hp (fps [row (.slice ao l.length cap) 3 1 (l.flatMap e3)]) w₀ w' [row (.slice ao r.length cap) 3 1 (r.flatMap e3)]:=by
 obtain ⟨h0,h⟩:=yb h
 exact sort_int (fun _=>rfl) Tryd.slices_Sort_int ao cap l r w₀ h0 ((Option.some.inj h).symm.trans (y5J l).symm) hown
def y11 (op_10 : Int) (l_11 : List Int) : Option Sapi_Ins :=
 chk ((((([] : List Int) ++ l_11).length : Nat) : Int) * 8 ≤ 140737488355328 ∧ (((([] : List Int) ++ l_11).length : Nat) : Int) ≤ 4611686018427387904) (chk (((((([] : List Int) ++ l_11) ++ ([0,0,0] : List Int)).length : Nat) : Int) * 8 ≤ 140737488355328 ∧ ((((([] : List Int) ++ l_11) ++ ([0,0,0] : List Int)).length : Nat) : Int) ≤ 4611686018427387904) (chk ((0 : Int) ≤ 0 ∧ 0 < ((((([] : List Int) ++ l_11) ++ ([0,0,0] : List Int)).length : Nat) : Int)) (chk ((0 : Int) ≤ 1 ∧ 1 < ((((([] : List Int) ++ l_11) ++ ([0,0,0] : List Int)).length : Nat) : Int)) (chk ((0 : Int) ≤ 2 ∧ 2 < ((((([] : List Int) ++ l_11) ++ ([0,0,0] : List Int)).length : Nat) : Int)) (some (⟨op_10,(nth ((([] : List Int) ++ l_11) ++ ([0,0,0] : List Int)) 0),(nth ((([] : List Int) ++ l_11) ++ ([0,0,0] : List Int)) 1),(nth ((([] : List Int) ++ l_11) ++ ([0,0,0] : List Int)) 2)⟩ : Sapi_Ins))))))
set_option maxRecDepth 20000 in
theorem y1c (Z : Zp) (ao_12 : Option Addr) (cap_13 : Nat) (op_10 : Int) (l_11 : List Int) (r : Sapi_Ins)
  (h : y11 op_10 l_11 = some r) (w₀ : World) (hz : PZ [] w₀ Z)
  (hs_14 : ZS Z 1 (fun r x=>r = e3 x) ao_12 cap_13 l_11) :
  Calls Tryd.prog 17 #[(.int .u8 op_10),(.slice ao_12 l_11.length cap_13)] w₀ fun e w'=>e = .returned (.agg #[(.int .u8 r.fOp),(.int .i64 r.fA),(.int .i64 r.fB),(.int .i64 r.fC)]) ∧ Hp [] w₀ w' []:=by
 unfold y11 at h
 refine Calls.y9 (vs:=[(.int .u8 op_10),(.slice ao_12 l_11.length cap_13)]) (pre:=[]) (env:=[(0,(.int .u8 op_10)),(1,(.slice ao_12 l_11.length cap_13))]) Tryd.func17 rfl Tryd.ntmps17 rfl (Hp.nil w₀ _) rfl ?_
 refine WC.b (WC.a ?_)
 refine WL.new (dd:=4) rfl rfl rfl (yv (cs:=[(.int .u8 0),(.int .i64 0),(.int .i64 0),(.int .i64 0)]) y4a rfl) ?_
 intro b_39 _
 refine WL.nil (WX.a (WC.b ?_))
 obtain ⟨c_41,h⟩:=yb h
 obtain ⟨c_45,h⟩:=yb h
 refine WC.a ?_
 refine WL.new (dd:=5) rfl rfl rfl (yp (cs:=([] : List Int).flatMap e3) yA (Eos.parts (l:=[]) .nil []) (fun _=>by kernel_rfl) rfl (by unfold maxLen; omega)) ?_
 intro b_48 _
 refine WL.pu rfl ?_
 refine WL.eff (d:=7) rfl rfl rfl (y3y (enc:=e3) (l1:=([] : List Int)) (l2:=l_11) yA rfl rfl .here (fun _=>rfl) rfl rfl (news_z hz.pv hs_14) (y3J y59 _) c_41) ?_
 rintro ⟨ao_49,cap_50⟩ _
 refine WL.new (dd:=8) rfl rfl rfl (yp (cs:=([0,0,0] : List Int).flatMap e3) yA (Eos.parts (l:=[.const (.int .i64 0),.const (.int .i64 0),.const (.int .i64 0)]) (.cons rfl (.cons rfl (.cons rfl .nil))) [0,1,2]) (fun _=>by kernel_rfl) rfl (by unfold maxLen; omega)) ?_
 intro b_51 _
 refine WL.eff (d:=9) rfl rfl rfl (y3y (enc:=e3) (l1:=([] : List Int) ++ l_11) (l2:=([0,0,0] : List Int)) yA rfl rfl .h1 (fun _=>rfl) rfl rfl (y4V .here) (y3J y59 _) c_45) ?_
 rintro ⟨ao_52,cap_53⟩ _
 refine WL.pu rfl (WL.nil (WX.a (WC.b ?_)))
 obtain ⟨c_54,h⟩:=yb h
 obtain ⟨c_56,h⟩:=yb h
 obtain ⟨c_57,h⟩:=yb h
 refine WC.y1h (fun i=>[11].contains i) [] rfl ?_
 refine WD.a (i:=0) (d:=10) (by kernel_rfl) rfl z7 z8 rfl rfl rfl (fun _=>q_m rfl) ?_
 refine WD.a (i:=1) (d:=11) (by kernel_rfl) rfl z7 z8 rfl rfl rfl (fun _=>q_m rfl) ?_
 refine WD.know (fun w hw=>Hp.y4x .here hw (by intro hz'; have:=c_54; rw [hz'] at this; omega)) ?_
 rintro ⟨b_59,rfl⟩
 refine WD.a (i:=2) (d:=12) (by kernel_rfl) rfl z7 z8 rfl rfl rfl (fun _=>yB yA rfl rfl c_54.1 c_54.2 y2C) ?_
 refine WD.e (i:=3) (d:=13) (by kernel_rfl) rfl z7 z8 rfl rfl rfl (y6 ye rfl (y2V .here ((y2v (enc:=e3) (l:=(([] : List Int) ++ l_11) ++ ([0,0,0] : List Int)) (i:=0) (sz:=1) (fun _=>rfl) c_54.1 c_54.2) 0 _ rfl))) ?_
 refine WD.a (i:=4) (d:=14) (by kernel_rfl) rfl z7 z8 rfl rfl rfl (fun _=>q_m rfl) ?_
 refine WD.a (i:=5) (d:=15) (by kernel_rfl) rfl z7 z8 rfl rfl rfl (fun _=>yB yA rfl rfl c_56.1 c_56.2 y2C) ?_
 refine WD.e (i:=6) (d:=16) (by kernel_rfl) rfl z7 z8 rfl rfl rfl (y6 ye rfl (y2V .here ((y2v (enc:=e3) (l:=(([] : List Int) ++ l_11) ++ ([0,0,0] : List Int)) (i:=1) (sz:=1) (fun _=>rfl) c_56.1 c_56.2) 0 _ rfl))) ?_
 refine WD.a (i:=7) (d:=17) (by kernel_rfl) rfl z7 z8 rfl rfl rfl (fun _=>q_m rfl) ?_
 refine WD.a (i:=8) (d:=18) (by kernel_rfl) rfl z7 z8 rfl rfl rfl (fun _=>yB yA rfl rfl c_57.1 c_57.2 y2C) ?_
 refine WD.e (i:=9) (d:=19) (by kernel_rfl) rfl z7 z8 rfl rfl rfl (y6 ye rfl (y2V .here ((y2v (enc:=e3) (l:=(([] : List Int) ++ l_11) ++ ([0,0,0] : List Int)) (i:=2) (sz:=1) (fun _=>rfl) c_57.1 c_57.2) 0 _ rfl))) ?_
 refine WD.a (i:=10) (d:=20) (by kernel_rfl) rfl z7 z8 rfl rfl rfl (fun _=>y13 (v:=(.agg #[(.int .u8 op_10),(.int .i64 (nth ((([] : List Int) ++ l_11) ++ ([0,0,0] : List Int)) 0)),(.int .i64 (nth ((([] : List Int) ++ l_11) ++ ([0,0,0] : List Int)) 1)),(.int .i64 (nth ((([] : List Int) ++ l_11) ++ ([0,0,0] : List Int)) 2))])) (Eos.parts (l:=[.tmp 10,.tmp 13,.tmp 16,.tmp 19]) (.cons rfl (.cons rfl (.cons rfl (.cons rfl .nil)))) [0,1,2,3]) (fun _=>by kernel_rfl)) ?_
 refine WD.y2n (i:=11) rfl (by kernel_rfl) rfl rfl rfl (by kernel_rfl) (ys y3K rfl rfl rfl .h2 rfl rfl rfl) ?_
 refine WD.done (by kernel_rfl) ?_
 refine WX.a (WC.ret ?_)
 obtain rfl:=Option.some.inj h
 refine WX.yg Tryd.results17 (.agg rfl y2M rfl (yH .here) .nil) (fun w hw=>?_)
 exact ⟨yZ rfl,hw.sub .nil⟩
def y1k (z2t : Int) (z2u : Int) (z50 : Int) : Option Bool :=
 jp2 (fun (z3d : Int) (z3e : Int)=>some ((decide (z2u ≥ z3d)) && (decide (z2u ≤ z3e)))) fun z2U=>if decide (z2t = 1) then z2U 1 2000 else if decide (z2t = 2) then z2U 0 3 else if decide (z2t = 3) then z2U 0 255 else if decide (z2t = 4) then z2U 0 4095 else if decide (z2t = 5) then z2U 1 64 else if decide (z2t = 6) then z2U 0 z2u else if decide (z2t = 7) then z2U 0 (i64 (z50 - 1)) else z2U 0 0
set_option maxRecDepth 20000 in
theorem y4p (Z : Zp)  (z2t : Int) (z2u : Int) (z50 : Int) (r : Bool)
  (h : y1k z2t z2u z50 = some r) (w₀ : World) (hz : PZ [] w₀ Z) :
  Calls Tryd.prog 43 #[(.int .u8 z2t),(.int .i64 z2u),(.int .i64 z50)] w₀ fun e w'=>e = .returned (.bool r) ∧ Hp [] w₀ w' []:=by
 unfold y1k at h
 refine Calls.y9 (vs:=[(.int .u8 z2t),(.int .i64 z2u),(.int .i64 z50)]) (pre:=[]) (env:=[(0,(.int .u8 z2t)),(1,(.int .i64 z2u)),(2,(.int .i64 z50))]) Tryd.func43 rfl Tryd.ntmps43 rfl (Hp.nil w₀ _) rfl ?_
 refine WC.b (WC.a (WL.pu rfl (WL.nil (WX.a (WC.b (WC.a (WL.pu rfl (WL.pu rfl (WL.nil (WX.a ?_))))))))))
 obtain ⟨z2U,zcK,h⟩:=y48 h
 refine WC.y3c (fun (z3d : Int) (z3e : Int)=>(z2U z3d z3e = some r)) (fun (z3d : Int) (z3e : Int)=>[(1,(.int .i64 z2u)),(7,(.int .i64 z3d)),(8,(.int .i64 z3e))]) (fun (z3d : Int) (z3e : Int)=>[]) ?_ ?_
 ·skip
  refine WC.b (WC.a (WL.pu rfl (WL.nil (WX.a (WC.block (WC.b (WC.a (WL.pu rfl (WL.pu rfl (WL.nil (WX.a ?_)))))))))))
  refine WC.cond rfl (fun z7U=>?_) (fun z7U=>?_)
  ·replace h:=ym h z7U
   refine WC.a (WL.pu rfl (WL.pu rfl (WL.nil (WX.yi ?_))))
   exact WX.mid (G:=Int × Int) ⟨1,2000⟩ h (.cons rfl (.cons rfl (.cons rfl .nil))) .nil
  ·replace h:=yn h z7U
   refine WC.b (WC.a (WL.pu rfl (WL.pu rfl (WL.nil (WX.a ?_)))))
   refine WC.cond rfl (fun z7V=>?_) (fun z7V=>?_)
   ·replace h:=ym h z7V
    refine WC.a (WL.pu rfl (WL.nil (WX.yi ?_)))
    exact WX.mid (G:=Int × Int) ⟨0,3⟩ h (.cons rfl (.cons rfl (.cons rfl .nil))) .nil
   ·replace h:=yn h z7V
    refine WC.b (WC.a (WL.pu rfl (WL.pu rfl (WL.nil (WX.a ?_)))))
    refine WC.cond rfl (fun z7W=>?_) (fun z7W=>?_)
    ·replace h:=ym h z7W
     refine WC.a (WL.pu rfl (WL.nil (WX.yi ?_)))
     exact WX.mid (G:=Int × Int) ⟨0,255⟩ h (.cons rfl (.cons rfl (.cons rfl .nil))) .nil
    ·replace h:=yn h z7W
     refine WC.b (WC.a (WL.pu rfl (WL.pu rfl (WL.nil (WX.a ?_)))))
     refine WC.cond rfl (fun z7X=>?_) (fun z7X=>?_)
     ·replace h:=ym h z7X
      refine WC.a (WL.pu rfl (WL.nil (WX.yi ?_)))
      exact WX.mid (G:=Int × Int) ⟨0,4095⟩ h (.cons rfl (.cons rfl (.cons rfl .nil))) .nil
     ·replace h:=yn h z7X
      refine WC.b (WC.a (WL.pu rfl (WL.pu rfl (WL.nil (WX.a ?_)))))
      refine WC.cond rfl (fun z7Y=>?_) (fun z7Y=>?_)
      ·replace h:=ym h z7Y
       refine WC.a (WL.pu rfl (WL.pu rfl (WL.nil (WX.yi ?_))))
       exact WX.mid (G:=Int × Int) ⟨1,64⟩ h (.cons rfl (.cons rfl (.cons rfl .nil))) .nil
      ·replace h:=yn h z7Y
       refine WC.b (WC.a (WL.pu rfl (WL.pu rfl (WL.nil (WX.a ?_)))))
       refine WC.cond rfl (fun z7Z=>?_) (fun z7Z=>?_)
       ·replace h:=ym h z7Z
        refine WC.a (WL.pu rfl (WL.pu rfl (WL.nil (WX.yi ?_))))
        exact WX.mid (G:=Int × Int) ⟨0,z2u⟩ h (.cons rfl (.cons rfl (.cons rfl .nil))) .nil
       ·replace h:=yn h z7Z
        refine WC.b (WC.a (WL.pu rfl (WL.pu rfl (WL.nil (WX.a ?_)))))
        refine WC.cond rfl (fun z80=>?_) (fun z80=>?_)
        ·replace h:=ym h z80
         refine WC.a (WL.pu rfl (WL.pu rfl (WL.pu rfl (WL.nil (WX.yi ?_)))))
         exact WX.mid (G:=Int × Int) ⟨0,(i64 (z50 - 1))⟩ h (.cons rfl (.cons rfl (.cons rfl .nil))) .nil
        ·replace h:=yn h z80
         refine WC.skip (WX.yi ?_)
         exact WX.mid (G:=Int × Int) ⟨0,0⟩ h (.cons rfl (.cons rfl (.cons rfl .nil))) .nil
 ·rintro z3d z3e h
  replace h:=(zcK z3d z3e).symm.trans h
  refine WC.b (WC.a (WL.pu rfl (WL.pu rfl (WL.pu rfl (WL.pu rfl ?_)))))
  refine WL.seg true 3 30 (B:=(decide (z2u ≥ z3d)) && (decide (z2u ≤ z3e))) rfl rfl rfl rfl rfl rfl (fun h=>(y2j h).symm) (fun _ zcL=>?_) ?_
  ·skip
   refine WL.pu rfl (WL.pu rfl (WL.pu rfl (WL.pu rfl ?_)))
   exact WL.yj (y2k zcL) rfl rfl .all
  refine WL.pu rfl (WL.nil (WX.a (WC.ret ?_)))
  obtain rfl:=Option.some.inj h
  refine WX.yg Tryd.results43 (.tmp rfl .nil) (fun w hw=>?_)
  exact ⟨yZ rfl,hw.sub .nil⟩
def yL (zO : Sapi_Ins) (z2o : Int) (z3f : Option Bool) : Nat → Int → Option Bool
 | 0,_=>none
 | z81 + 1,z1Z=>if decide (z1Z < (((nth yX zO.fOp).length : Nat) : Int)) then chk ((0 : Int) ≤ z1Z ∧ z1Z < (((nth yX zO.fOp).length : Nat) : Int)) (chk ((0 : Int) ≤ z1Z ∧ z1Z < 3) ((y1k (nth (nth yX zO.fOp) z1Z) (nth ([zO.fA,zO.fB,zO.fC] : List Int) z1Z) z2o).bind fun z9A=>if !z9A then some false else yL zO z2o z3f z81 (i64 (z1Z + 1)))) else z3f
theorem y4b {n : Nat} {zO : Sapi_Ins} {z2o : Int} {z3f : Option Bool} {z1Z : Int} {r : Bool} (h : yL zO z2o z3f n z1Z = some r) : ∃ m,n = m + 1:=by
 cases n with
 | zero=>cases h
 | succ m=>exact ⟨m,rfl⟩
def y28 (zO : Sapi_Ins) (z2o : Int) : Option Bool :=
 if (decide (zO.fOp < 1)) || (decide (zO.fOp > 25)) then some false else jp0 (some true) fun z3f=>chk ((0 : Int) ≤ zO.fOp ∧ zO.fOp < 26) (yL zO z2o z3f y1M 0)
set_option maxRecDepth 20000 in
theorem y4H (Z : Zp)  (zO : Sapi_Ins) (z2o : Int) (r : Bool)
  (h : y28 zO z2o = some r) (w₀ : World) (hz : PZ [] w₀ Z)
  (hG1 : ZS Z 1 (p74 Z) (some ⟨1,0,none⟩) 26 yX) :
  Calls Tryd.prog 32 #[(.agg #[(.int .u8 zO.fOp),(.int .i64 zO.fA),(.int .i64 zO.fB),(.int .i64 zO.fC)]),(.int .i64 z2o)] w₀ fun e w'=>e = .returned (.bool r) ∧ Hp [] w₀ w' []:=by
 unfold y28 at h
 refine Calls.y9 (vs:=[(.agg #[(.int .u8 zO.fOp),(.int .i64 zO.fA),(.int .i64 zO.fB),(.int .i64 zO.fC)]),(.int .i64 z2o)]) (pre:=[]) (env:=[(0,(.agg #[(.int .u8 zO.fOp),(.int .i64 zO.fA),(.int .i64 zO.fB),(.int .i64 zO.fC)])),(1,(.int .i64 z2o))]) Tryd.func32 rfl Tryd.ntmps32 rfl (Hp.nil w₀ _) rfl ?_
 refine WC.b (WC.a ?_)
 refine WL.new (dd:=2) rfl rfl rfl (y3b (cs:=[(.int .u8 zO.fOp),(.int .i64 zO.fA),(.int .i64 zO.fB),(.int .i64 zO.fC)]) rfl rfl) ?_
 intro zm7 _
 refine WL.pu rfl (WL.nil (WX.a (WC.b (WC.b (WC.a ?_)))))
 refine WL.a (d:=8) rfl rfl rfl (y4 y36 rfl rfl) ?_
 refine WL.a (d:=9) rfl rfl rfl (y6 yx rfl (ya .here rfl)) ?_
 refine WL.pu rfl (WL.pu rfl ?_)
 refine WL.seg false 3 11 (B:=(decide (zO.fOp < 1)) || (decide (zO.fOp > 25))) rfl rfl rfl rfl rfl rfl (fun h=>(y2X h).symm) (fun _ zcM=>?_) ?_
 ·skip
  refine WL.a (d:=12) rfl rfl rfl (y4 y36 rfl rfl) ?_
  refine WL.a (d:=13) rfl rfl rfl (y6 yx rfl (ya .here rfl)) ?_
  refine WL.pu rfl (WL.pu rfl ?_)
  exact WL.yj (y2Y zcM) rfl rfl .all
 refine WL.nil (WX.a ?_)
 refine WC.cond rfl (fun z82=>?_) (fun z82=>?_)
 ·replace h:=ym h z82
  refine WC.b (WC.a (WL.pu rfl (WL.nil (WX.a (WC.ret (WX.yd ?_))))))
  obtain rfl:=Option.some.inj h
  refine WX.yg Tryd.results32 (.tmp rfl .nil) (fun w hw=>?_)
  exact ⟨yZ rfl,hw.sub .nil⟩
 ·replace h:=yn h z82
  refine WC.skip (WX.a (WC.b (WC.a ?_)))
  refine WL.a (d:=16) rfl rfl rfl (y4 y1q rfl rfl) ?_
  refine WL.a (d:=17) rfl rfl rfl (y6 ye rfl (ya .here rfl)) ?_
  refine WL.a (d:=18) rfl rfl rfl (y4 y22 rfl rfl) ?_
  refine WL.a (d:=19) rfl rfl rfl (y6 ye rfl (ya .here rfl)) ?_
  refine WL.a (d:=20) rfl rfl rfl (y4 y3M rfl rfl) ?_
  refine WL.a (d:=21) rfl rfl rfl (y6 ye rfl (ya .here rfl)) ?_
  refine WL.a (d:=22) rfl rfl rfl (y13 (v:=(.agg #[(.int .i64 zO.fA),(.int .i64 zO.fB),(.int .i64 zO.fC)])) (Eos.parts (l:=[.tmp 17,.tmp 19,.tmp 21]) (.cons rfl (.cons rfl (.cons rfl .nil))) [0,1,2]) (fun _=>by kernel_rfl)) ?_
  refine WL.new (dd:=5) rfl rfl rfl (yv (cs:=[(.int .i64 0),(.int .i64 0),(.int .i64 0)]) zeroT_73 rfl) ?_
  intro z9B _
  refine WL.yk rfl rfl (ys sizT_73 rfl rfl rfl .here rfl rfl rfl) ?_
  refine WL.nil (WX.a ?_)
  obtain ⟨z3f,zcN,h⟩:=y3m h
  refine WC.y2Z ((z3f = some r)) ([]) ([]) ?_ ?_
  ·skip
   refine WC.b ?_
   obtain ⟨zcO,h⟩:=yb h
   refine WC.a ?_
   refine WL.a (d:=23) rfl rfl rfl (y4 y36 rfl rfl) ?_
   refine WL.a (d:=24) rfl rfl rfl (y6 yx rfl (ya .h1 rfl)) ?_
   refine WL.gnth (dd:=25) rfl rfl (ls:=yX) (Z:=Z) (Pr:=(p74 Z)) arT_75 rfl rfl hG1 zcO ?_
   rintro zm8 zm9 zcP zma ⟨zcQ,zcR,rfl,zcS⟩
   refine WL.a (d:=26) rfl rfl rfl (y6 oneT_74 rfl (y2z hz.pv zcP rfl)) ?_
   refine WL.a (d:=27) rfl rfl rfl (y1a Tryd.underlying74 rfl) ?_
   refine WL.pu rfl (WL.nil (WX.a (WC.block ?_)))
   refine WC.y45 (fun (z5o : Nat) (z1Z : Int)=>(yL zO z2o z3f z5o z1Z = some r)) (fun (z5o : Nat) (z1Z : Int)=>[(1,(.int .i64 z2o)),(5,(.pointer (some ⟨z9B,0,none⟩))),(26,(.slice zcQ ((nth yX zO.fOp).length) zcR)),(27,(.int .i64 (((nth yX zO.fOp).length : Nat) : Int))),(28,(.int .i64 z1Z))]) (fun (z5o : Nat) (z1Z : Int)=>[stb z9B 73 [(.int .i64 zO.fA),(.int .i64 zO.fB),(.int .i64 zO.fC)]]) (fun (z5o : Nat) (z1Z : Int)=>z5o) ⟨y1M,0⟩ h (.cons rfl (.cons rfl (.cons rfl (.cons rfl (.cons rfl .nil))))) (.cons .here .nil) ?_
   rintro z5o z1Z h
   obtain ⟨z81,rfl⟩:=y4b h
   rw [yL] at h
   refine WC.b (WC.a (WL.pu rfl (WL.nil (WX.a (WC.b ?_)))))
   refine WC.cond rfl (fun z83=>?_) (fun z83=>?_)
   ·replace h:=ym h z83
    refine WC.skip (WX.a (WC.b (WC.block (WC.b ?_))))
    obtain ⟨zcT,h⟩:=yb h
    refine WC.a (WL.pu rfl ?_)
    refine WL.znth (dd:=31) rfl rfl (Z:=Z) (Pr:=(fun r x=>r = e76 x)) elT_74 rfl rfl zcS zcT ?_
    rintro zmb zmc zcU zmd rfl
    refine WL.a (d:=32) rfl rfl rfl (y6 oneT_76 rfl (y2z hz.pv zcU rfl)) ?_
    refine WL.pu rfl (WL.pu rfl (WL.nil (WX.a (WC.b ?_))))
    obtain ⟨z9C,h⟩:=yb h
    obtain ⟨z9A,zcV,h⟩:=zi h
    refine WC.a (WL.pu rfl (WL.pu rfl ?_))
    refine WL.a (d:=35) rfl rfl rfl (y2L arT_73 rfl rfl z9C y4G) ?_
    refine WL.a (d:=36) rfl rfl rfl (y6 ye rfl (y1x (l:=([zO.fA,zO.fB,zO.fC] : List Int)) (f:=Value.int .i64) (k:=0) (m:=3) .here rfl rfl z9C)) ?_
    refine WL.pu rfl ?_
    refine WL.b (dd:=38) rfl rfl rfl (zK (l:=[.tmp 33,.tmp 36,.tmp 37]) Tryd.call43 (.cons rfl (.cons rfl (.cons rfl .nil)))) .nil (cc hz .nil fun w pz ho=>y4p _ _ _ _ _ zcV w pz ) ?_
    refine WL.pu rfl (WL.nil (WX.a ?_))
    refine WC.cond rfl (fun z84=>?_) (fun z84=>?_)
    ·replace h:=ym h z84
     refine WC.b (WC.a (WL.pu rfl (WL.nil (WX.a (WC.ret (WX.yK (WX.yd (WX.yd (WX.yK (WX.yd ?_))))))))))
     obtain rfl:=Option.some.inj h
     refine WX.yg Tryd.results32 (.tmp rfl .nil) (fun w hw=>?_)
     exact ⟨yZ rfl,hw.sub .nil⟩
    ·replace h:=yn h z84
     refine WC.skip (WX.yi (WX.a (WC.a (WL.pu rfl (WL.pu rfl (WL.nil ?_))))))
     exact WX.round (G:=Nat × Int) ⟨z81,(i64 (z1Z + 1))⟩ h (Nat.lt_succ_self _) (.cons rfl (.cons rfl (.cons rfl (.cons rfl (.cons rfl .nil))))) (.cons .here .nil)
   ·replace h:=yn h z83
    refine WC.exit (WX.yu (WX.yu (WX.y1b ?_)))
    exact WX.mid (G:=Unit) () h .nil .nil
  ·rintro  h
   replace h:=zcN.symm.trans h
   refine WC.b (WC.a (WL.pu rfl (WL.nil (WX.a (WC.ret ?_)))))
   obtain rfl:=Option.some.inj h
   refine WX.yg Tryd.results32 (.tmp rfl .nil) (fun w hw=>?_)
   exact ⟨yZ rfl,hw.sub .nil⟩
def y2P (z1V : List Sapi_Ins) (z1L : Int) : Option (Sapi_Ins × Bool) :=
 (if (decide (z1L < 0)) || (decide (z1L ≥ ((z1V.length : Nat) : Int))) then some true else chk ((0 : Int) ≤ z1L ∧ z1L < ((z1V.length : Nat) : Int)) ((y28 (⟨((nth z1V z1L).fOp),((nth z1V z1L).fA),((nth z1V z1L).fB),((nth z1V z1L).fC)⟩ : Sapi_Ins) ((z1V.length : Nat) : Int)).bind fun z9D=>some (!z9D))).bind fun z85=>if z85 then some ((⟨0,0,0,0⟩ : Sapi_Ins),false) else chk ((0 : Int) ≤ z1L ∧ z1L < ((z1V.length : Nat) : Int)) (some ((⟨((nth z1V z1L).fOp),((nth z1V z1L).fA),((nth z1V z1L).fB),((nth z1V z1L).fC)⟩ : Sapi_Ins),true))
set_option maxRecDepth 20000 in
theorem y5s (Z : Zp) (z7n : Option Addr) (z7o : Nat) (z1V : List Sapi_Ins) (z1L : Int) (r : Sapi_Ins × Bool)
  (h : y2P z1V z1L = some r) (w₀ : World) (hz : PZ [] w₀ Z)
  (hG1 : ZS Z 1 (p74 Z) (some ⟨1,0,none⟩) 26 yX)
  (z9E : ZS Z 4 (fun r x=>r = e33 x) z7n z7o z1V) :
  Calls Tryd.prog 33 #[(.slice z7n z1V.length z7o),(.int .i64 z1L)] w₀ fun e w'=>e = .returned (.tuple #[(.agg #[(.int .u8 r.1.fOp),(.int .i64 r.1.fA),(.int .i64 r.1.fB),(.int .i64 r.1.fC)]),(.bool r.2)]) ∧ Hp [] w₀ w' []:=by
 unfold y2P at h
 refine Calls.y9 (vs:=[(.slice z7n z1V.length z7o),(.int .i64 z1L)]) (pre:=[]) (env:=[(0,(.slice z7n z1V.length z7o)),(1,(.int .i64 z1L))]) Tryd.func33 rfl Tryd.ntmps33 rfl (Hp.nil w₀ _) rfl ?_
 refine WC.b (WC.a ?_)
 refine WL.new (dd:=4) rfl rfl rfl (yv (cs:=[(.int .u8 0),(.int .i64 0),(.int .i64 0),(.int .i64 0)]) y4a rfl) ?_
 intro zme _
 refine WL.pu rfl (WL.nil (WX.a (WC.b (WC.b ?_))))
 obtain ⟨z85,z9F,h⟩:=zi h
 refine WC.a (WL.pu rfl (WL.pu rfl (WL.pu rfl ?_)))
 refine WL.seg false 4 8 (B:=(decide (z1L < 0)) || (decide (z1L ≥ ((z1V.length : Nat) : Int)))) rfl rfl rfl rfl rfl rfl (fun h=>(y2X h).symm) (fun _ zcW=>?_) ?_
 ·skip
  refine WL.pu rfl (WL.pu rfl ?_)
  refine WL.a (d:=11) rfl rfl rfl (y1a Tryd.underlying22 rfl) ?_
  refine WL.pu rfl (WL.pu rfl ?_)
  exact WL.yj (y2Y zcW) rfl rfl .all
 refine WL.pu rfl ?_
 refine WL.seg false 8 14 (B:=z85) rfl rfl rfl rfl rfl rfl (fun h=>(Option.some.inj (ym z9F h)).symm) (fun _ zcX=>?_) ?_
 ·skip
  have z52:=yn z9F zcX
  obtain ⟨zcY,z52⟩:=yb z52
  obtain ⟨z9D,zcZ,z52⟩:=zi z52
  replace z52:=Option.some.inj z52
  refine WL.pu rfl (WL.pu rfl ?_)
  refine WL.znth (dd:=17) rfl rfl (Z:=Z) (Pr:=(fun r x=>r = e33 x)) y2E rfl rfl z9E zcY ?_
  rintro zmf zmg zd0 zmh rfl
  refine WL.a (d:=18) rfl rfl rfl (yJ y2M rfl (rd_zs hz.pv zd0) rfl) ?_
  refine WL.pu rfl ?_
  refine WL.a (d:=20) rfl rfl rfl (y1a Tryd.underlying22 rfl) ?_
  refine WL.b (dd:=21) rfl rfl rfl (zK (l:=[.tmp 18,.tmp 20]) Tryd.call32 (.cons rfl (.cons rfl .nil))) .nil (cc hz .nil fun w pz ho=>y4H _ _ _ _ zcZ w pz hG1) ?_
  refine WL.pu rfl (WL.pu rfl ?_)
  exact WL.yj z52 rfl rfl .all
 refine WL.nil (WX.a ?_)
 refine WC.cond rfl (fun z86=>?_) (fun z86=>?_)
 ·replace h:=ym h z86
  refine WC.b (WC.a ?_)
  refine WL.a (d:=24) rfl rfl rfl (y13 (v:=(.agg #[(.int .u8 0),(.int .i64 0),(.int .i64 0),(.int .i64 0)])) (Eos.parts (l:=[]) .nil []) (fun _=>by kernel_rfl)) ?_
  refine WL.yk rfl rfl (ys y3K rfl rfl rfl .here rfl rfl rfl) ?_
  refine WL.pu rfl (WL.nil (WX.a (WC.ret (WX.yd ?_))))
  obtain rfl:=Option.some.inj h
  refine WX.yg Tryd.results33 (.agg rfl y2M rfl (yH .here) (.tmp rfl .nil)) (fun w hw=>?_)
  exact ⟨ret2 rfl rfl,hw.sub .nil⟩
 ·replace h:=yn h z86
  refine WC.skip (WX.a (WC.b ?_))
  obtain ⟨zd1,h⟩:=yb h
  refine WC.a (WL.pu rfl (WL.pu rfl ?_))
  refine WL.znth (dd:=27) rfl rfl (Z:=Z) (Pr:=(fun r x=>r = e33 x)) y2E rfl rfl z9E zd1 ?_
  rintro zmi zmj zd2 zmk rfl
  refine WL.a (d:=28) rfl rfl rfl (yJ y2M rfl (rd_zs hz.pv zd2) rfl) ?_
  refine WL.yk rfl rfl (ys y3K rfl rfl rfl .here rfl rfl rfl) ?_
  refine WL.pu rfl (WL.nil (WX.a (WC.ret ?_)))
  obtain rfl:=Option.some.inj h
  refine WX.yg Tryd.results33 (.agg rfl y2M rfl (yH .here) (.tmp rfl .nil)) (fun w hw=>?_)
  exact ⟨ret2 rfl rfl,hw.sub .nil⟩
def y1A (zb : Sproc_execution) : Option Sproc_execution :=
 jp1 (fun (z2v : Int)=>if decide ((i64 (z2v - 1)) ≠ 0) then some (⟨(⟨i64 (zb.fState.fPc - 1),i64 (z2v - 1),zb.fState.fRegs⟩ : Sproc_State),zb.fX,zb.fMem,zb.fAct⟩ : Sproc_execution) else some (⟨(⟨zb.fState.fPc,i64 (z2v - 1),zb.fState.fRegs⟩ : Sproc_State),zb.fX,zb.fMem,zb.fAct⟩ : Sproc_execution)) fun z7p=>if decide (zb.fState.fLeft = 0) then z7p zb.fX.fA else z7p zb.fState.fLeft
set_option maxRecDepth 20000 in
theorem y3O (Z : Zp) (z2L : Nat) (z2w : Option Addr) (z2x : Nat) (z2y : Option Addr) (z2z : Nat) (zb : Sproc_execution) (r : Sproc_execution)
  (h : y1A zb = some r) (w₀ : World) (hz : PZ (fps [stb z2L 65 [(.int .i64 zb.fState.fPc),(.int .i64 zb.fState.fLeft),(.int .u8 zb.fState.fRegs.a0),(.int .u8 zb.fState.fRegs.a1),(.int .u8 zb.fState.fRegs.a2),(.int .u8 zb.fState.fRegs.a3),(.int .u8 zb.fX.fOp),(.int .i64 zb.fX.fA),(.int .i64 zb.fX.fB),(.int .i64 zb.fX.fC),(.slice z2w zb.fMem.length z2x),(.int .u8 zb.fAct.fKind),(.int .i64 zb.fAct.fA),(.int .i64 zb.fAct.fB),(.slice z2y zb.fAct.fData.length z2z)]]) w₀ Z)
  (z9G : ZS Z 1 (fun r x=>r = e5 x) z2w z2x zb.fMem)
  (z9H : ZS Z 1 (fun r x=>r = e5 x) z2y z2z zb.fAct.fData)
  (hown : Hp (fps [stb z2L 65 [(.int .i64 zb.fState.fPc),(.int .i64 zb.fState.fLeft),(.int .u8 zb.fState.fRegs.a0),(.int .u8 zb.fState.fRegs.a1),(.int .u8 zb.fState.fRegs.a2),(.int .u8 zb.fState.fRegs.a3),(.int .u8 zb.fX.fOp),(.int .i64 zb.fX.fA),(.int .i64 zb.fX.fB),(.int .i64 zb.fX.fC),(.slice z2w zb.fMem.length z2x),(.int .u8 zb.fAct.fKind),(.int .i64 zb.fAct.fA),(.int .i64 zb.fAct.fB),(.slice z2y zb.fAct.fData.length z2z)]]) w₀ w₀ [stb z2L 65 [(.int .i64 zb.fState.fPc),(.int .i64 zb.fState.fLeft),(.int .u8 zb.fState.fRegs.a0),(.int .u8 zb.fState.fRegs.a1),(.int .u8 zb.fState.fRegs.a2),(.int .u8 zb.fState.fRegs.a3),(.int .u8 zb.fX.fOp),(.int .i64 zb.fX.fA),(.int .i64 zb.fX.fB),(.int .i64 zb.fX.fC),(.slice z2w zb.fMem.length z2x),(.int .u8 zb.fAct.fKind),(.int .i64 zb.fAct.fA),(.int .i64 zb.fAct.fB),(.slice z2y zb.fAct.fData.length z2z)]]) :
  Calls Tryd.prog 84 #[(.pointer (some ⟨z2L,0,none⟩))] w₀ fun e w'=>∃ z9I : Option Addr,∃ z9J : Nat,∃ z9K : Option Addr,∃ z9L : Nat,e = .returned (.tuple #[]) ∧ ((ZS Z 1 (fun r x=>r = e5 x) z9I z9J r.fMem) ∧ (ZS Z 1 (fun r x=>r = e5 x) z9K z9L r.fAct.fData)) ∧ Hp (fps [stb z2L 65 [(.int .i64 zb.fState.fPc),(.int .i64 zb.fState.fLeft),(.int .u8 zb.fState.fRegs.a0),(.int .u8 zb.fState.fRegs.a1),(.int .u8 zb.fState.fRegs.a2),(.int .u8 zb.fState.fRegs.a3),(.int .u8 zb.fX.fOp),(.int .i64 zb.fX.fA),(.int .i64 zb.fX.fB),(.int .i64 zb.fX.fC),(.slice z2w zb.fMem.length z2x),(.int .u8 zb.fAct.fKind),(.int .i64 zb.fAct.fA),(.int .i64 zb.fAct.fB),(.slice z2y zb.fAct.fData.length z2z)]]) w₀ w' [stb z2L 65 [(.int .i64 r.fState.fPc),(.int .i64 r.fState.fLeft),(.int .u8 r.fState.fRegs.a0),(.int .u8 r.fState.fRegs.a1),(.int .u8 r.fState.fRegs.a2),(.int .u8 r.fState.fRegs.a3),(.int .u8 r.fX.fOp),(.int .i64 r.fX.fA),(.int .i64 r.fX.fB),(.int .i64 r.fX.fC),(.slice z9I r.fMem.length z9J),(.int .u8 r.fAct.fKind),(.int .i64 r.fAct.fA),(.int .i64 r.fAct.fB),(.slice z9K r.fAct.fData.length z9L)]]:=by
 unfold y1A at h
 refine Calls.y9 (vs:=[(.pointer (some ⟨z2L,0,none⟩))]) (pre:=[stb z2L 65 [(.int .i64 zb.fState.fPc),(.int .i64 zb.fState.fLeft),(.int .u8 zb.fState.fRegs.a0),(.int .u8 zb.fState.fRegs.a1),(.int .u8 zb.fState.fRegs.a2),(.int .u8 zb.fState.fRegs.a3),(.int .u8 zb.fX.fOp),(.int .i64 zb.fX.fA),(.int .i64 zb.fX.fB),(.int .i64 zb.fX.fC),(.slice z2w zb.fMem.length z2x),(.int .u8 zb.fAct.fKind),(.int .i64 zb.fAct.fA),(.int .i64 zb.fAct.fB),(.slice z2y zb.fAct.fData.length z2z)]]) (env:=[(0,(.pointer (some ⟨z2L,0,none⟩)))]) Tryd.func84 rfl Tryd.ntmps84 rfl (hown) rfl ?_
 obtain ⟨z7p,zd3,h⟩:=y2p h
 refine WC.y2d (fun (z2v : Int)=>(z7p z2v = some r)) (fun (z2v : Int)=>[(0,(.pointer (some ⟨z2L,0,none⟩)))]) (fun (z2v : Int)=>[stb z2L 65 [(.int .i64 zb.fState.fPc),(.int .i64 z2v),(.int .u8 zb.fState.fRegs.a0),(.int .u8 zb.fState.fRegs.a1),(.int .u8 zb.fState.fRegs.a2),(.int .u8 zb.fState.fRegs.a3),(.int .u8 zb.fX.fOp),(.int .i64 zb.fX.fA),(.int .i64 zb.fX.fB),(.int .i64 zb.fX.fC),(.slice z2w zb.fMem.length z2x),(.int .u8 zb.fAct.fKind),(.int .i64 zb.fAct.fA),(.int .i64 zb.fAct.fB),(.slice z2y zb.fAct.fData.length z2z)]]) ?_ ?_
 ·skip
  refine WC.b (WC.a (WL.pu rfl ?_))
  refine WL.a (d:=3) rfl rfl rfl (y7 rfl) ?_
  refine WL.a (d:=4) rfl rfl rfl (y4 y1i rfl rfl) ?_
  refine WL.a (d:=5) rfl rfl rfl (y4 y3N rfl rfl) ?_
  refine WL.a (d:=6) rfl rfl rfl (y6 ye rfl (ya .here rfl)) ?_
  refine WL.pu rfl (WL.nil (WX.a ?_))
  refine WC.cond rfl (fun z87=>?_) (fun z87=>?_)
  ·replace h:=ym h z87
   refine WC.a (WL.pu rfl (WL.pu rfl ?_))
   refine WL.a (d:=10) rfl rfl rfl (y7 rfl) ?_
   refine WL.a (d:=11) rfl rfl rfl (y4 yE rfl rfl) ?_
   refine WL.a (d:=12) rfl rfl rfl (y4 y1q rfl rfl) ?_
   refine WL.a (d:=13) rfl rfl rfl (y6 ye rfl (ya .here rfl)) ?_
   refine WL.a (d:=14) rfl rfl rfl (y7 rfl) ?_
   refine WL.a (d:=15) rfl rfl rfl (y4 y1i rfl rfl) ?_
   refine WL.a (d:=16) rfl rfl rfl (y4 y3N rfl rfl) ?_
   refine WL.yk rfl rfl (y1n (ds:=[(.int .i64 zb.fState.fPc),(.int .i64 zb.fX.fA),(.int .u8 zb.fState.fRegs.a0),(.int .u8 zb.fState.fRegs.a1),(.int .u8 zb.fState.fRegs.a2),(.int .u8 zb.fState.fRegs.a3),(.int .u8 zb.fX.fOp),(.int .i64 zb.fX.fA),(.int .i64 zb.fX.fB),(.int .i64 zb.fX.fC),(.slice z2w zb.fMem.length z2x),(.int .u8 zb.fAct.fKind),(.int .i64 zb.fAct.fA),(.int .i64 zb.fAct.fB),(.slice z2y zb.fAct.fData.length z2z)]) y33 rfl rfl rfl rfl rfl .here rfl rfl) ?_
   refine WL.nil ?_
   exact WX.mid (G:=Int) zb.fX.fA h (.cons rfl .nil) (.cons .here .nil)
  ·replace h:=yn h z87
   refine WC.skip ?_
   exact WX.mid (G:=Int) zb.fState.fLeft h (.cons rfl .nil) (.cons .here .nil)
 ·rintro z2v h
  replace h:=(zd3 z2v).symm.trans h
  refine WC.b (WC.a (WL.pu rfl ?_))
  refine WL.a (d:=18) rfl rfl rfl (y7 rfl) ?_
  refine WL.a (d:=19) rfl rfl rfl (y4 y1i rfl rfl) ?_
  refine WL.a (d:=20) rfl rfl rfl (y4 y3N rfl rfl) ?_
  refine WL.a (d:=21) rfl rfl rfl (y6 ye rfl (ya .here rfl)) ?_
  refine WL.pu rfl ?_
  refine WL.a (d:=23) rfl rfl rfl (y7 rfl) ?_
  refine WL.a (d:=24) rfl rfl rfl (y4 y1i rfl rfl) ?_
  refine WL.a (d:=25) rfl rfl rfl (y4 y3N rfl rfl) ?_
  refine WL.yk rfl rfl (y1n (ds:=[(.int .i64 zb.fState.fPc),(.int .i64 (i64 (z2v - 1))),(.int .u8 zb.fState.fRegs.a0),(.int .u8 zb.fState.fRegs.a1),(.int .u8 zb.fState.fRegs.a2),(.int .u8 zb.fState.fRegs.a3),(.int .u8 zb.fX.fOp),(.int .i64 zb.fX.fA),(.int .i64 zb.fX.fB),(.int .i64 zb.fX.fC),(.slice z2w zb.fMem.length z2x),(.int .u8 zb.fAct.fKind),(.int .i64 zb.fAct.fA),(.int .i64 zb.fAct.fB),(.slice z2y zb.fAct.fData.length z2z)]) y33 rfl rfl rfl rfl rfl .here rfl rfl) ?_
  refine WL.nil (WX.a (WC.b (WC.a (WL.pu rfl ?_))))
  refine WL.a (d:=27) rfl rfl rfl (y7 rfl) ?_
  refine WL.a (d:=28) rfl rfl rfl (y4 y1i rfl rfl) ?_
  refine WL.a (d:=29) rfl rfl rfl (y4 y3N rfl rfl) ?_
  refine WL.a (d:=30) rfl rfl rfl (y6 ye rfl (ya .here rfl)) ?_
  refine WL.pu rfl (WL.nil (WX.a ?_))
  refine WC.cond rfl (fun z88=>?_) (fun z88=>?_)
  ·replace h:=ym h z88
   refine WC.a (WL.pu rfl ?_)
   refine WL.a (d:=33) rfl rfl rfl (y7 rfl) ?_
   refine WL.a (d:=34) rfl rfl rfl (y4 y1i rfl rfl) ?_
   refine WL.a (d:=35) rfl rfl rfl (y4 y1V rfl rfl) ?_
   refine WL.a (d:=36) rfl rfl rfl (y6 ye rfl (ya .here rfl)) ?_
   refine WL.pu rfl ?_
   refine WL.a (d:=38) rfl rfl rfl (y7 rfl) ?_
   refine WL.a (d:=39) rfl rfl rfl (y4 y1i rfl rfl) ?_
   refine WL.a (d:=40) rfl rfl rfl (y4 y1V rfl rfl) ?_
   refine WL.yk rfl rfl (y1n (ds:=[(.int .i64 (i64 (zb.fState.fPc - 1))),(.int .i64 (i64 (z2v - 1))),(.int .u8 zb.fState.fRegs.a0),(.int .u8 zb.fState.fRegs.a1),(.int .u8 zb.fState.fRegs.a2),(.int .u8 zb.fState.fRegs.a3),(.int .u8 zb.fX.fOp),(.int .i64 zb.fX.fA),(.int .i64 zb.fX.fB),(.int .i64 zb.fX.fC),(.slice z2w zb.fMem.length z2x),(.int .u8 zb.fAct.fKind),(.int .i64 zb.fAct.fA),(.int .i64 zb.fAct.fB),(.slice z2y zb.fAct.fData.length z2z)]) y33 rfl rfl rfl rfl rfl .here rfl rfl) ?_
   refine WL.nil ?_
   obtain rfl:=Option.some.inj h
   refine WX.yf Tryd.results84 .nil (fun w hw=>?_)
   exact ⟨z2w,z2x,z2y,z2z,y15,⟨z9G,z9H⟩,hw.sub (.cons .here .nil)⟩
  ·replace h:=yn h z88
   refine WC.skip ?_
   obtain rfl:=Option.some.inj h
   refine WX.yf Tryd.results84 .nil (fun w hw=>?_)
   exact ⟨z2w,z2x,z2y,z2z,y15,⟨z9G,z9H⟩,hw.sub (.cons .here .nil)⟩
def yc (z1W : Sproc_execution) (z4e : Int) : Option Unit :=
 chk ((0 : Int) ≤ z4e ∧ z4e < 4) (some ())
set_option maxRecDepth 20000 in
theorem yh (Z : Zp) (z6P : Addr) (z9M : Option Addr) (z9N : Nat) (z9O : Option Addr) (z9P : Nat) (z1W : Sproc_execution) (z4e : Int) (r : Unit)
  (h : yc z1W z4e = some r) (w₀ : World) (hz : PZ [] w₀ Z)
  (zml : ZS Z 1 (fun r x=>r = e5 x) z9M z9N z1W.fMem)
  (zmm : ZS Z 1 (fun r x=>r = e5 x) z9O z9P z1W.fAct.fData)
  (zmn : ZC Z z6P [(.int .i64 z1W.fState.fPc),(.int .i64 z1W.fState.fLeft),(.int .u8 z1W.fState.fRegs.a0),(.int .u8 z1W.fState.fRegs.a1),(.int .u8 z1W.fState.fRegs.a2),(.int .u8 z1W.fState.fRegs.a3),(.int .u8 z1W.fX.fOp),(.int .i64 z1W.fX.fA),(.int .i64 z1W.fX.fB),(.int .i64 z1W.fX.fC),(.slice z9M z1W.fMem.length z9N),(.int .u8 z1W.fAct.fKind),(.int .i64 z1W.fAct.fA),(.int .i64 z1W.fAct.fB),(.slice z9O z1W.fAct.fData.length z9P)]) :
  Calls Tryd.prog 108 #[(.pointer (some z6P)),(.int .i64 z4e)] w₀ fun e w'=>e = .returned (.pointer (some (Addr.add z6P (2 + (z4e : Int).toNat)))) ∧ Hp [] w₀ w' []:=by
 unfold yc at h
 refine Calls.y9 (vs:=[(.pointer (some z6P)),(.int .i64 z4e)]) (pre:=[]) (env:=[(0,(.pointer (some z6P))),(1,(.int .i64 z4e))]) Tryd.func108 rfl Tryd.ntmps108 rfl (Hp.nil w₀ _) rfl ?_
 refine WC.b (WC.a (WL.pu rfl (WL.nil (WX.a (WC.b ?_)))))
 obtain ⟨zd4,h⟩:=yb h
 refine WC.a (WL.pu rfl (WL.pu rfl ?_))
 refine WL.a (d:=7) rfl rfl rfl (y7 rfl) ?_
 refine WL.a (d:=8) rfl rfl rfl (y4 y1i rfl rfl) ?_
 refine WL.a (d:=9) rfl rfl rfl (y4 y5k rfl rfl) ?_
 refine WL.a (d:=10) rfl rfl rfl (y2L y5P rfl rfl zd4 add_z1) ?_
 refine WL.pu rfl (WL.nil (WX.a (WC.ret ?_)))
 skip
 refine WX.yg Tryd.results108 (.tmp rfl .nil) (fun w hw=>?_)
 exact ⟨yZ rfl,hw.sub .nil⟩
def y1P (za : Sproc_execution) : Option Sproc_execution :=
 (yc za za.fX.fA).bind fun zd5=>chk ((0 : Int) ≤ za.fX.fA ∧ za.fX.fA < 4) (some (⟨(⟨za.fState.fPc,za.fState.fLeft,(⟨nth (([za.fState.fRegs.a0,za.fState.fRegs.a1,za.fState.fRegs.a2,za.fState.fRegs.a3] : List Int).set (za.fX.fA : Int).toNat (u8 za.fX.fB)) 0,nth (([za.fState.fRegs.a0,za.fState.fRegs.a1,za.fState.fRegs.a2,za.fState.fRegs.a3] : List Int).set (za.fX.fA : Int).toNat (u8 za.fX.fB)) 1,nth (([za.fState.fRegs.a0,za.fState.fRegs.a1,za.fState.fRegs.a2,za.fState.fRegs.a3] : List Int).set (za.fX.fA : Int).toNat (u8 za.fX.fB)) 2,nth (([za.fState.fRegs.a0,za.fState.fRegs.a1,za.fState.fRegs.a2,za.fState.fRegs.a3] : List Int).set (za.fX.fA : Int).toNat (u8 za.fX.fB)) 3⟩ : S34)⟩ : Sproc_State),za.fX,za.fMem,za.fAct⟩ : Sproc_execution))
set_option maxRecDepth 20000 in
theorem y4c (Z : Zp) (z3g : Nat) (z4f : Option Addr) (z4g : Nat) (z4h : Option Addr) (z4i : Nat) (za : Sproc_execution) (r : Sproc_execution)
  (h : y1P za = some r) (w₀ : World) (hz : PZ (fps [stb z3g 65 [(.int .i64 za.fState.fPc),(.int .i64 za.fState.fLeft),(.int .u8 za.fState.fRegs.a0),(.int .u8 za.fState.fRegs.a1),(.int .u8 za.fState.fRegs.a2),(.int .u8 za.fState.fRegs.a3),(.int .u8 za.fX.fOp),(.int .i64 za.fX.fA),(.int .i64 za.fX.fB),(.int .i64 za.fX.fC),(.slice z4f za.fMem.length z4g),(.int .u8 za.fAct.fKind),(.int .i64 za.fAct.fA),(.int .i64 za.fAct.fB),(.slice z4h za.fAct.fData.length z4i)]]) w₀ Z)
  (z9Q : ZS Z 1 (fun r x=>r = e5 x) z4f z4g za.fMem)
  (z9R : ZS Z 1 (fun r x=>r = e5 x) z4h z4i za.fAct.fData)
  (hown : Hp (fps [stb z3g 65 [(.int .i64 za.fState.fPc),(.int .i64 za.fState.fLeft),(.int .u8 za.fState.fRegs.a0),(.int .u8 za.fState.fRegs.a1),(.int .u8 za.fState.fRegs.a2),(.int .u8 za.fState.fRegs.a3),(.int .u8 za.fX.fOp),(.int .i64 za.fX.fA),(.int .i64 za.fX.fB),(.int .i64 za.fX.fC),(.slice z4f za.fMem.length z4g),(.int .u8 za.fAct.fKind),(.int .i64 za.fAct.fA),(.int .i64 za.fAct.fB),(.slice z4h za.fAct.fData.length z4i)]]) w₀ w₀ [stb z3g 65 [(.int .i64 za.fState.fPc),(.int .i64 za.fState.fLeft),(.int .u8 za.fState.fRegs.a0),(.int .u8 za.fState.fRegs.a1),(.int .u8 za.fState.fRegs.a2),(.int .u8 za.fState.fRegs.a3),(.int .u8 za.fX.fOp),(.int .i64 za.fX.fA),(.int .i64 za.fX.fB),(.int .i64 za.fX.fC),(.slice z4f za.fMem.length z4g),(.int .u8 za.fAct.fKind),(.int .i64 za.fAct.fA),(.int .i64 za.fAct.fB),(.slice z4h za.fAct.fData.length z4i)]]) :
  Calls Tryd.prog 85 #[(.pointer (some ⟨z3g,0,none⟩))] w₀ fun e w'=>∃ z9S : Option Addr,∃ z9T : Nat,∃ z9U : Option Addr,∃ z9V : Nat,e = .returned (.tuple #[]) ∧ ((ZS Z 1 (fun r x=>r = e5 x) z9S z9T r.fMem) ∧ (ZS Z 1 (fun r x=>r = e5 x) z9U z9V r.fAct.fData)) ∧ Hp (fps [stb z3g 65 [(.int .i64 za.fState.fPc),(.int .i64 za.fState.fLeft),(.int .u8 za.fState.fRegs.a0),(.int .u8 za.fState.fRegs.a1),(.int .u8 za.fState.fRegs.a2),(.int .u8 za.fState.fRegs.a3),(.int .u8 za.fX.fOp),(.int .i64 za.fX.fA),(.int .i64 za.fX.fB),(.int .i64 za.fX.fC),(.slice z4f za.fMem.length z4g),(.int .u8 za.fAct.fKind),(.int .i64 za.fAct.fA),(.int .i64 za.fAct.fB),(.slice z4h za.fAct.fData.length z4i)]]) w₀ w' [stb z3g 65 [(.int .i64 r.fState.fPc),(.int .i64 r.fState.fLeft),(.int .u8 r.fState.fRegs.a0),(.int .u8 r.fState.fRegs.a1),(.int .u8 r.fState.fRegs.a2),(.int .u8 r.fState.fRegs.a3),(.int .u8 r.fX.fOp),(.int .i64 r.fX.fA),(.int .i64 r.fX.fB),(.int .i64 r.fX.fC),(.slice z9S r.fMem.length z9T),(.int .u8 r.fAct.fKind),(.int .i64 r.fAct.fA),(.int .i64 r.fAct.fB),(.slice z9U r.fAct.fData.length z9V)]]:=by
 unfold y1P at h
 refine Calls.y9 (vs:=[(.pointer (some ⟨z3g,0,none⟩))]) (pre:=[stb z3g 65 [(.int .i64 za.fState.fPc),(.int .i64 za.fState.fLeft),(.int .u8 za.fState.fRegs.a0),(.int .u8 za.fState.fRegs.a1),(.int .u8 za.fState.fRegs.a2),(.int .u8 za.fState.fRegs.a3),(.int .u8 za.fX.fOp),(.int .i64 za.fX.fA),(.int .i64 za.fX.fB),(.int .i64 za.fX.fC),(.slice z4f za.fMem.length z4g),(.int .u8 za.fAct.fKind),(.int .i64 za.fAct.fA),(.int .i64 za.fAct.fB),(.slice z4h za.fAct.fData.length z4i)]]) (env:=[(0,(.pointer (some ⟨z3g,0,none⟩)))]) Tryd.func85 rfl Tryd.ntmps85 rfl (hown) rfl ?_
 obtain ⟨zd5,zd6,h⟩:=zi h
 obtain ⟨zd7,h⟩:=yb h
 refine WC.y1h (fun i=>[14].contains i) [] rfl ?_
 refine WD.a (i:=0) (d:=2) (by kernel_rfl) rfl z7 z8 rfl rfl rfl (fun _=>q_m rfl) ?_
 refine WD.a (i:=1) (d:=3) (by kernel_rfl) rfl z7 z8 rfl rfl rfl (fun _=>q_m rfl) ?_
 refine WD.a (i:=2) (d:=4) (by kernel_rfl) rfl z7 z8 rfl rfl rfl (fun _=>y7 rfl) ?_
 refine WD.a (i:=3) (d:=5) (by kernel_rfl) rfl z7 z8 rfl rfl rfl (fun _=>y4 yE rfl rfl) ?_
 refine WD.a (i:=4) (d:=6) (by kernel_rfl) rfl z7 z8 rfl rfl rfl (fun _=>y4 y1q rfl rfl) ?_
 refine WD.e (i:=5) (d:=7) (by kernel_rfl) rfl z7 z8 rfl rfl rfl (y6 ye rfl (ya .here rfl)) ?_
 refine WD.c (i:=6) (d:=8) (by kernel_rfl) rfl z7 z8 rfl rfl rfl (zK (l:=[.tmp 2,.tmp 7]) Tryd.call108 (.cons rfl (.cons rfl .nil))) (ccl hz .nil (.cons .here .nil) fun w pz ho la=>yh _ _ _ _ _ _ _ _ _ zd6 w pz (z9Q.mono (Zle.left _ _)) (z9R.mono (Zle.left _ _)) ((la _ (.head _) _).stb)) ?_
 refine WD.a (i:=7) (d:=9) (by kernel_rfl) rfl z7 z8 rfl rfl rfl (fun _=>q_m rfl) ?_
 refine WD.a (i:=8) (d:=10) (by kernel_rfl) rfl z7 z8 rfl rfl rfl (fun _=>y7 rfl) ?_
 refine WD.a (i:=9) (d:=11) (by kernel_rfl) rfl z7 z8 rfl rfl rfl (fun _=>y4 yE rfl rfl) ?_
 refine WD.a (i:=10) (d:=12) (by kernel_rfl) rfl z7 z8 rfl rfl rfl (fun _=>y4 y22 rfl rfl) ?_
 refine WD.e (i:=11) (d:=13) (by kernel_rfl) rfl z7 z8 rfl rfl rfl (y6 ye rfl (ya .here rfl)) ?_
 refine WD.a (i:=12) (d:=14) (by kernel_rfl) rfl z7 z8 rfl rfl rfl (fun _=>y4u Tryd.underlying3 Tryd.underlying5 rfl rfl) ?_
 refine WD.a (i:=13) (d:=15) (by kernel_rfl) rfl z7 z8 rfl rfl rfl (fun _=>y7 rfl) ?_
 refine WD.y2n (i:=14) rfl (by kernel_rfl) rfl rfl rfl (by kernel_rfl) (y32 (l:=([za.fState.fRegs.a0,za.fState.fRegs.a1,za.fState.fRegs.a2,za.fState.fRegs.a3] : List Int)) (f:=Value.int .u8) (u:=u8 za.fX.fB) (k:=2) (m:=6) (j:=4) (ds:=[(.int .i64 za.fState.fPc),(.int .i64 za.fState.fLeft),(.int .u8 (nth (([za.fState.fRegs.a0,za.fState.fRegs.a1,za.fState.fRegs.a2,za.fState.fRegs.a3] : List Int).set (za.fX.fA : Int).toNat (u8 za.fX.fB)) 0)),(.int .u8 (nth (([za.fState.fRegs.a0,za.fState.fRegs.a1,za.fState.fRegs.a2,za.fState.fRegs.a3] : List Int).set (za.fX.fA : Int).toNat (u8 za.fX.fB)) 1)),(.int .u8 (nth (([za.fState.fRegs.a0,za.fState.fRegs.a1,za.fState.fRegs.a2,za.fState.fRegs.a3] : List Int).set (za.fX.fA : Int).toNat (u8 za.fX.fB)) 2)),(.int .u8 (nth (([za.fState.fRegs.a0,za.fState.fRegs.a1,za.fState.fRegs.a2,za.fState.fRegs.a3] : List Int).set (za.fX.fA : Int).toNat (u8 za.fX.fB)) 3)),(.int .u8 za.fX.fOp),(.int .i64 za.fX.fA),(.int .i64 za.fX.fB),(.int .i64 za.fX.fC),(.slice z4f za.fMem.length z4g),(.int .u8 za.fAct.fKind),(.int .i64 za.fAct.fA),(.int .i64 za.fAct.fB),(.slice z4h za.fAct.fData.length z4i)]) y3o rfl rfl rfl rfl .here rfl rfl zd7 rfl rfl) ?_
 refine WD.done (by kernel_rfl) ?_
 obtain rfl:=Option.some.inj h
 refine WX.yf Tryd.results85 .nil (fun w hw=>?_)
 exact ⟨z4f,z4g,z4h,z4i,y15,⟨z9Q,z9R⟩,hw.sub (.cons .here .nil)⟩
def y1Q (z2 : Sproc_execution) : Option Sproc_execution :=
 (yc z2 z2.fX.fA).bind fun zd8=>chk ((0 : Int) ≤ z2.fX.fA ∧ z2.fX.fA < 4) ((yc z2 z2.fX.fB).bind fun zd9=>chk ((0 : Int) ≤ z2.fX.fB ∧ z2.fX.fB < 4) (some (⟨(⟨z2.fState.fPc,z2.fState.fLeft,(⟨nth (([z2.fState.fRegs.a0,z2.fState.fRegs.a1,z2.fState.fRegs.a2,z2.fState.fRegs.a3] : List Int).set (z2.fX.fA : Int).toNat (u8 ((nth ([z2.fState.fRegs.a0,z2.fState.fRegs.a1,z2.fState.fRegs.a2,z2.fState.fRegs.a3] : List Int) z2.fX.fA) + (nth ([z2.fState.fRegs.a0,z2.fState.fRegs.a1,z2.fState.fRegs.a2,z2.fState.fRegs.a3] : List Int) z2.fX.fB)))) 0,nth (([z2.fState.fRegs.a0,z2.fState.fRegs.a1,z2.fState.fRegs.a2,z2.fState.fRegs.a3] : List Int).set (z2.fX.fA : Int).toNat (u8 ((nth ([z2.fState.fRegs.a0,z2.fState.fRegs.a1,z2.fState.fRegs.a2,z2.fState.fRegs.a3] : List Int) z2.fX.fA) + (nth ([z2.fState.fRegs.a0,z2.fState.fRegs.a1,z2.fState.fRegs.a2,z2.fState.fRegs.a3] : List Int) z2.fX.fB)))) 1,nth (([z2.fState.fRegs.a0,z2.fState.fRegs.a1,z2.fState.fRegs.a2,z2.fState.fRegs.a3] : List Int).set (z2.fX.fA : Int).toNat (u8 ((nth ([z2.fState.fRegs.a0,z2.fState.fRegs.a1,z2.fState.fRegs.a2,z2.fState.fRegs.a3] : List Int) z2.fX.fA) + (nth ([z2.fState.fRegs.a0,z2.fState.fRegs.a1,z2.fState.fRegs.a2,z2.fState.fRegs.a3] : List Int) z2.fX.fB)))) 2,nth (([z2.fState.fRegs.a0,z2.fState.fRegs.a1,z2.fState.fRegs.a2,z2.fState.fRegs.a3] : List Int).set (z2.fX.fA : Int).toNat (u8 ((nth ([z2.fState.fRegs.a0,z2.fState.fRegs.a1,z2.fState.fRegs.a2,z2.fState.fRegs.a3] : List Int) z2.fX.fA) + (nth ([z2.fState.fRegs.a0,z2.fState.fRegs.a1,z2.fState.fRegs.a2,z2.fState.fRegs.a3] : List Int) z2.fX.fB)))) 3⟩ : S34)⟩ : Sproc_State),z2.fX,z2.fMem,z2.fAct⟩ : Sproc_execution)))
set_option maxRecDepth 20000 in
theorem y4d (Z : Zp) (z3h : Nat) (z4j : Option Addr) (z4k : Nat) (z4l : Option Addr) (z4m : Nat) (z2 : Sproc_execution) (r : Sproc_execution)
  (h : y1Q z2 = some r) (w₀ : World) (hz : PZ (fps [stb z3h 65 [(.int .i64 z2.fState.fPc),(.int .i64 z2.fState.fLeft),(.int .u8 z2.fState.fRegs.a0),(.int .u8 z2.fState.fRegs.a1),(.int .u8 z2.fState.fRegs.a2),(.int .u8 z2.fState.fRegs.a3),(.int .u8 z2.fX.fOp),(.int .i64 z2.fX.fA),(.int .i64 z2.fX.fB),(.int .i64 z2.fX.fC),(.slice z4j z2.fMem.length z4k),(.int .u8 z2.fAct.fKind),(.int .i64 z2.fAct.fA),(.int .i64 z2.fAct.fB),(.slice z4l z2.fAct.fData.length z4m)]]) w₀ Z)
  (z89 : ZS Z 1 (fun r x=>r = e5 x) z4j z4k z2.fMem)
  (z8a : ZS Z 1 (fun r x=>r = e5 x) z4l z4m z2.fAct.fData)
  (hown : Hp (fps [stb z3h 65 [(.int .i64 z2.fState.fPc),(.int .i64 z2.fState.fLeft),(.int .u8 z2.fState.fRegs.a0),(.int .u8 z2.fState.fRegs.a1),(.int .u8 z2.fState.fRegs.a2),(.int .u8 z2.fState.fRegs.a3),(.int .u8 z2.fX.fOp),(.int .i64 z2.fX.fA),(.int .i64 z2.fX.fB),(.int .i64 z2.fX.fC),(.slice z4j z2.fMem.length z4k),(.int .u8 z2.fAct.fKind),(.int .i64 z2.fAct.fA),(.int .i64 z2.fAct.fB),(.slice z4l z2.fAct.fData.length z4m)]]) w₀ w₀ [stb z3h 65 [(.int .i64 z2.fState.fPc),(.int .i64 z2.fState.fLeft),(.int .u8 z2.fState.fRegs.a0),(.int .u8 z2.fState.fRegs.a1),(.int .u8 z2.fState.fRegs.a2),(.int .u8 z2.fState.fRegs.a3),(.int .u8 z2.fX.fOp),(.int .i64 z2.fX.fA),(.int .i64 z2.fX.fB),(.int .i64 z2.fX.fC),(.slice z4j z2.fMem.length z4k),(.int .u8 z2.fAct.fKind),(.int .i64 z2.fAct.fA),(.int .i64 z2.fAct.fB),(.slice z4l z2.fAct.fData.length z4m)]]) :
  Calls Tryd.prog 82 #[(.pointer (some ⟨z3h,0,none⟩))] w₀ fun e w'=>∃ z9W : Option Addr,∃ z9X : Nat,∃ z9Y : Option Addr,∃ z9Z : Nat,e = .returned (.tuple #[]) ∧ ((ZS Z 1 (fun r x=>r = e5 x) z9W z9X r.fMem) ∧ (ZS Z 1 (fun r x=>r = e5 x) z9Y z9Z r.fAct.fData)) ∧ Hp (fps [stb z3h 65 [(.int .i64 z2.fState.fPc),(.int .i64 z2.fState.fLeft),(.int .u8 z2.fState.fRegs.a0),(.int .u8 z2.fState.fRegs.a1),(.int .u8 z2.fState.fRegs.a2),(.int .u8 z2.fState.fRegs.a3),(.int .u8 z2.fX.fOp),(.int .i64 z2.fX.fA),(.int .i64 z2.fX.fB),(.int .i64 z2.fX.fC),(.slice z4j z2.fMem.length z4k),(.int .u8 z2.fAct.fKind),(.int .i64 z2.fAct.fA),(.int .i64 z2.fAct.fB),(.slice z4l z2.fAct.fData.length z4m)]]) w₀ w' [stb z3h 65 [(.int .i64 r.fState.fPc),(.int .i64 r.fState.fLeft),(.int .u8 r.fState.fRegs.a0),(.int .u8 r.fState.fRegs.a1),(.int .u8 r.fState.fRegs.a2),(.int .u8 r.fState.fRegs.a3),(.int .u8 r.fX.fOp),(.int .i64 r.fX.fA),(.int .i64 r.fX.fB),(.int .i64 r.fX.fC),(.slice z9W r.fMem.length z9X),(.int .u8 r.fAct.fKind),(.int .i64 r.fAct.fA),(.int .i64 r.fAct.fB),(.slice z9Y r.fAct.fData.length z9Z)]]:=by
 unfold y1Q at h
 refine Calls.y9 (vs:=[(.pointer (some ⟨z3h,0,none⟩))]) (pre:=[stb z3h 65 [(.int .i64 z2.fState.fPc),(.int .i64 z2.fState.fLeft),(.int .u8 z2.fState.fRegs.a0),(.int .u8 z2.fState.fRegs.a1),(.int .u8 z2.fState.fRegs.a2),(.int .u8 z2.fState.fRegs.a3),(.int .u8 z2.fX.fOp),(.int .i64 z2.fX.fA),(.int .i64 z2.fX.fB),(.int .i64 z2.fX.fC),(.slice z4j z2.fMem.length z4k),(.int .u8 z2.fAct.fKind),(.int .i64 z2.fAct.fA),(.int .i64 z2.fAct.fB),(.slice z4l z2.fAct.fData.length z4m)]]) (env:=[(0,(.pointer (some ⟨z3h,0,none⟩)))]) Tryd.func82 rfl Tryd.ntmps82 rfl (hown) rfl ?_
 obtain ⟨zd8,zda,h⟩:=zi h
 obtain ⟨za0,h⟩:=yb h
 obtain ⟨zd9,zdb,h⟩:=zi h
 obtain ⟨zdc,h⟩:=yb h
 refine WC.y1h (fun i=>[20].contains i) [] rfl ?_
 refine WD.a (i:=0) (d:=2) (by kernel_rfl) rfl z7 z8 rfl rfl rfl (fun _=>q_m rfl) ?_
 refine WD.a (i:=1) (d:=3) (by kernel_rfl) rfl z7 z8 rfl rfl rfl (fun _=>q_m rfl) ?_
 refine WD.a (i:=2) (d:=4) (by kernel_rfl) rfl z7 z8 rfl rfl rfl (fun _=>y7 rfl) ?_
 refine WD.a (i:=3) (d:=5) (by kernel_rfl) rfl z7 z8 rfl rfl rfl (fun _=>y4 yE rfl rfl) ?_
 refine WD.a (i:=4) (d:=6) (by kernel_rfl) rfl z7 z8 rfl rfl rfl (fun _=>y4 y1q rfl rfl) ?_
 refine WD.e (i:=5) (d:=7) (by kernel_rfl) rfl z7 z8 rfl rfl rfl (y6 ye rfl (ya .here rfl)) ?_
 refine WD.c (i:=6) (d:=8) (by kernel_rfl) rfl z7 z8 rfl rfl rfl (zK (l:=[.tmp 2,.tmp 7]) Tryd.call108 (.cons rfl (.cons rfl .nil))) (ccl hz .nil (.cons .here .nil) fun w pz ho la=>yh _ _ _ _ _ _ _ _ _ zda w pz (z89.mono (Zle.left _ _)) (z8a.mono (Zle.left _ _)) ((la _ (.head _) _).stb)) ?_
 refine WD.a (i:=7) (d:=9) (by kernel_rfl) rfl z7 z8 rfl rfl rfl (fun _=>y7 rfl) ?_
 refine WD.e (i:=8) (d:=10) (by kernel_rfl) rfl z7 z8 rfl rfl rfl (y6 yx rfl (y1x (l:=([z2.fState.fRegs.a0,z2.fState.fRegs.a1,z2.fState.fRegs.a2,z2.fState.fRegs.a3] : List Int)) (f:=Value.int .u8) (k:=2) (m:=6) .here rfl rfl za0)) ?_
 refine WD.a (i:=9) (d:=11) (by kernel_rfl) rfl z7 z8 rfl rfl rfl (fun _=>q_m rfl) ?_
 refine WD.a (i:=10) (d:=12) (by kernel_rfl) rfl z7 z8 rfl rfl rfl (fun _=>q_m rfl) ?_
 refine WD.a (i:=11) (d:=13) (by kernel_rfl) rfl z7 z8 rfl rfl rfl (fun _=>y7 rfl) ?_
 refine WD.a (i:=12) (d:=14) (by kernel_rfl) rfl z7 z8 rfl rfl rfl (fun _=>y4 yE rfl rfl) ?_
 refine WD.a (i:=13) (d:=15) (by kernel_rfl) rfl z7 z8 rfl rfl rfl (fun _=>y4 y22 rfl rfl) ?_
 refine WD.e (i:=14) (d:=16) (by kernel_rfl) rfl z7 z8 rfl rfl rfl (y6 ye rfl (ya .here rfl)) ?_
 refine WD.c (i:=15) (d:=17) (by kernel_rfl) rfl z7 z8 rfl rfl rfl (zK (l:=[.tmp 11,.tmp 16]) Tryd.call108 (.cons rfl (.cons rfl .nil))) (ccl hz .nil (.cons .here .nil) fun w pz ho la=>yh _ _ _ _ _ _ _ _ _ zdb w pz (z89.mono (Zle.left _ _)) (z8a.mono (Zle.left _ _)) ((la _ (.head _) _).stb)) ?_
 refine WD.a (i:=16) (d:=18) (by kernel_rfl) rfl z7 z8 rfl rfl rfl (fun _=>y7 rfl) ?_
 refine WD.e (i:=17) (d:=19) (by kernel_rfl) rfl z7 z8 rfl rfl rfl (y6 yx rfl (y1x (l:=([z2.fState.fRegs.a0,z2.fState.fRegs.a1,z2.fState.fRegs.a2,z2.fState.fRegs.a3] : List Int)) (f:=Value.int .u8) (k:=2) (m:=6) .here rfl rfl zdc)) ?_
 refine WD.a (i:=18) (d:=20) (by kernel_rfl) rfl z7 z8 rfl rfl rfl (fun _=>q_add rfl rfl rfl) ?_
 refine WD.a (i:=19) (d:=21) (by kernel_rfl) rfl z7 z8 rfl rfl rfl (fun _=>y7 rfl) ?_
 refine WD.y2n (i:=20) rfl (by kernel_rfl) rfl rfl rfl (by kernel_rfl) (y32 (l:=([z2.fState.fRegs.a0,z2.fState.fRegs.a1,z2.fState.fRegs.a2,z2.fState.fRegs.a3] : List Int)) (f:=Value.int .u8) (u:=u8 ((nth ([z2.fState.fRegs.a0,z2.fState.fRegs.a1,z2.fState.fRegs.a2,z2.fState.fRegs.a3] : List Int) z2.fX.fA) + (nth ([z2.fState.fRegs.a0,z2.fState.fRegs.a1,z2.fState.fRegs.a2,z2.fState.fRegs.a3] : List Int) z2.fX.fB))) (k:=2) (m:=6) (j:=4) (ds:=[(.int .i64 z2.fState.fPc),(.int .i64 z2.fState.fLeft),(.int .u8 (nth (([z2.fState.fRegs.a0,z2.fState.fRegs.a1,z2.fState.fRegs.a2,z2.fState.fRegs.a3] : List Int).set (z2.fX.fA : Int).toNat (u8 ((nth ([z2.fState.fRegs.a0,z2.fState.fRegs.a1,z2.fState.fRegs.a2,z2.fState.fRegs.a3] : List Int) z2.fX.fA) + (nth ([z2.fState.fRegs.a0,z2.fState.fRegs.a1,z2.fState.fRegs.a2,z2.fState.fRegs.a3] : List Int) z2.fX.fB)))) 0)),(.int .u8 (nth (([z2.fState.fRegs.a0,z2.fState.fRegs.a1,z2.fState.fRegs.a2,z2.fState.fRegs.a3] : List Int).set (z2.fX.fA : Int).toNat (u8 ((nth ([z2.fState.fRegs.a0,z2.fState.fRegs.a1,z2.fState.fRegs.a2,z2.fState.fRegs.a3] : List Int) z2.fX.fA) + (nth ([z2.fState.fRegs.a0,z2.fState.fRegs.a1,z2.fState.fRegs.a2,z2.fState.fRegs.a3] : List Int) z2.fX.fB)))) 1)),(.int .u8 (nth (([z2.fState.fRegs.a0,z2.fState.fRegs.a1,z2.fState.fRegs.a2,z2.fState.fRegs.a3] : List Int).set (z2.fX.fA : Int).toNat (u8 ((nth ([z2.fState.fRegs.a0,z2.fState.fRegs.a1,z2.fState.fRegs.a2,z2.fState.fRegs.a3] : List Int) z2.fX.fA) + (nth ([z2.fState.fRegs.a0,z2.fState.fRegs.a1,z2.fState.fRegs.a2,z2.fState.fRegs.a3] : List Int) z2.fX.fB)))) 2)),(.int .u8 (nth (([z2.fState.fRegs.a0,z2.fState.fRegs.a1,z2.fState.fRegs.a2,z2.fState.fRegs.a3] : List Int).set (z2.fX.fA : Int).toNat (u8 ((nth ([z2.fState.fRegs.a0,z2.fState.fRegs.a1,z2.fState.fRegs.a2,z2.fState.fRegs.a3] : List Int) z2.fX.fA) + (nth ([z2.fState.fRegs.a0,z2.fState.fRegs.a1,z2.fState.fRegs.a2,z2.fState.fRegs.a3] : List Int) z2.fX.fB)))) 3)),(.int .u8 z2.fX.fOp),(.int .i64 z2.fX.fA),(.int .i64 z2.fX.fB),(.int .i64 z2.fX.fC),(.slice z4j z2.fMem.length z4k),(.int .u8 z2.fAct.fKind),(.int .i64 z2.fAct.fA),(.int .i64 z2.fAct.fB),(.slice z4l z2.fAct.fData.length z4m)]) y3o rfl rfl rfl rfl .here rfl rfl za0 rfl rfl) ?_
 refine WD.done (by kernel_rfl) ?_
 obtain rfl:=Option.some.inj h
 refine WX.yf Tryd.results82 .nil (fun w hw=>?_)
 exact ⟨z4j,z4k,z4l,z4m,y15,⟨z89,z8a⟩,hw.sub (.cons .here .nil)⟩
def y1R (z6 : Sproc_execution) : Option Sproc_execution :=
 (yc z6 z6.fX.fA).bind fun zdd=>chk ((0 : Int) ≤ z6.fX.fA ∧ z6.fX.fA < 4) ((yc z6 z6.fX.fB).bind fun zde=>chk ((0 : Int) ≤ z6.fX.fB ∧ z6.fX.fB < 4) (some (⟨(⟨z6.fState.fPc,z6.fState.fLeft,(⟨nth (([z6.fState.fRegs.a0,z6.fState.fRegs.a1,z6.fState.fRegs.a2,z6.fState.fRegs.a3] : List Int).set (z6.fX.fA : Int).toNat (u8 ((nth ([z6.fState.fRegs.a0,z6.fState.fRegs.a1,z6.fState.fRegs.a2,z6.fState.fRegs.a3] : List Int) z6.fX.fA) - (nth ([z6.fState.fRegs.a0,z6.fState.fRegs.a1,z6.fState.fRegs.a2,z6.fState.fRegs.a3] : List Int) z6.fX.fB)))) 0,nth (([z6.fState.fRegs.a0,z6.fState.fRegs.a1,z6.fState.fRegs.a2,z6.fState.fRegs.a3] : List Int).set (z6.fX.fA : Int).toNat (u8 ((nth ([z6.fState.fRegs.a0,z6.fState.fRegs.a1,z6.fState.fRegs.a2,z6.fState.fRegs.a3] : List Int) z6.fX.fA) - (nth ([z6.fState.fRegs.a0,z6.fState.fRegs.a1,z6.fState.fRegs.a2,z6.fState.fRegs.a3] : List Int) z6.fX.fB)))) 1,nth (([z6.fState.fRegs.a0,z6.fState.fRegs.a1,z6.fState.fRegs.a2,z6.fState.fRegs.a3] : List Int).set (z6.fX.fA : Int).toNat (u8 ((nth ([z6.fState.fRegs.a0,z6.fState.fRegs.a1,z6.fState.fRegs.a2,z6.fState.fRegs.a3] : List Int) z6.fX.fA) - (nth ([z6.fState.fRegs.a0,z6.fState.fRegs.a1,z6.fState.fRegs.a2,z6.fState.fRegs.a3] : List Int) z6.fX.fB)))) 2,nth (([z6.fState.fRegs.a0,z6.fState.fRegs.a1,z6.fState.fRegs.a2,z6.fState.fRegs.a3] : List Int).set (z6.fX.fA : Int).toNat (u8 ((nth ([z6.fState.fRegs.a0,z6.fState.fRegs.a1,z6.fState.fRegs.a2,z6.fState.fRegs.a3] : List Int) z6.fX.fA) - (nth ([z6.fState.fRegs.a0,z6.fState.fRegs.a1,z6.fState.fRegs.a2,z6.fState.fRegs.a3] : List Int) z6.fX.fB)))) 3⟩ : S34)⟩ : Sproc_State),z6.fX,z6.fMem,z6.fAct⟩ : Sproc_execution)))
set_option maxRecDepth 20000 in
theorem y4e (Z : Zp) (z3i : Nat) (z4n : Option Addr) (z4o : Nat) (z4p : Option Addr) (z4q : Nat) (z6 : Sproc_execution) (r : Sproc_execution)
  (h : y1R z6 = some r) (w₀ : World) (hz : PZ (fps [stb z3i 65 [(.int .i64 z6.fState.fPc),(.int .i64 z6.fState.fLeft),(.int .u8 z6.fState.fRegs.a0),(.int .u8 z6.fState.fRegs.a1),(.int .u8 z6.fState.fRegs.a2),(.int .u8 z6.fState.fRegs.a3),(.int .u8 z6.fX.fOp),(.int .i64 z6.fX.fA),(.int .i64 z6.fX.fB),(.int .i64 z6.fX.fC),(.slice z4n z6.fMem.length z4o),(.int .u8 z6.fAct.fKind),(.int .i64 z6.fAct.fA),(.int .i64 z6.fAct.fB),(.slice z4p z6.fAct.fData.length z4q)]]) w₀ Z)
  (z8b : ZS Z 1 (fun r x=>r = e5 x) z4n z4o z6.fMem)
  (z8c : ZS Z 1 (fun r x=>r = e5 x) z4p z4q z6.fAct.fData)
  (hown : Hp (fps [stb z3i 65 [(.int .i64 z6.fState.fPc),(.int .i64 z6.fState.fLeft),(.int .u8 z6.fState.fRegs.a0),(.int .u8 z6.fState.fRegs.a1),(.int .u8 z6.fState.fRegs.a2),(.int .u8 z6.fState.fRegs.a3),(.int .u8 z6.fX.fOp),(.int .i64 z6.fX.fA),(.int .i64 z6.fX.fB),(.int .i64 z6.fX.fC),(.slice z4n z6.fMem.length z4o),(.int .u8 z6.fAct.fKind),(.int .i64 z6.fAct.fA),(.int .i64 z6.fAct.fB),(.slice z4p z6.fAct.fData.length z4q)]]) w₀ w₀ [stb z3i 65 [(.int .i64 z6.fState.fPc),(.int .i64 z6.fState.fLeft),(.int .u8 z6.fState.fRegs.a0),(.int .u8 z6.fState.fRegs.a1),(.int .u8 z6.fState.fRegs.a2),(.int .u8 z6.fState.fRegs.a3),(.int .u8 z6.fX.fOp),(.int .i64 z6.fX.fA),(.int .i64 z6.fX.fB),(.int .i64 z6.fX.fC),(.slice z4n z6.fMem.length z4o),(.int .u8 z6.fAct.fKind),(.int .i64 z6.fAct.fA),(.int .i64 z6.fAct.fB),(.slice z4p z6.fAct.fData.length z4q)]]) :
  Calls Tryd.prog 86 #[(.pointer (some ⟨z3i,0,none⟩))] w₀ fun e w'=>∃ za1 : Option Addr,∃ za2 : Nat,∃ za3 : Option Addr,∃ za4 : Nat,e = .returned (.tuple #[]) ∧ ((ZS Z 1 (fun r x=>r = e5 x) za1 za2 r.fMem) ∧ (ZS Z 1 (fun r x=>r = e5 x) za3 za4 r.fAct.fData)) ∧ Hp (fps [stb z3i 65 [(.int .i64 z6.fState.fPc),(.int .i64 z6.fState.fLeft),(.int .u8 z6.fState.fRegs.a0),(.int .u8 z6.fState.fRegs.a1),(.int .u8 z6.fState.fRegs.a2),(.int .u8 z6.fState.fRegs.a3),(.int .u8 z6.fX.fOp),(.int .i64 z6.fX.fA),(.int .i64 z6.fX.fB),(.int .i64 z6.fX.fC),(.slice z4n z6.fMem.length z4o),(.int .u8 z6.fAct.fKind),(.int .i64 z6.fAct.fA),(.int .i64 z6.fAct.fB),(.slice z4p z6.fAct.fData.length z4q)]]) w₀ w' [stb z3i 65 [(.int .i64 r.fState.fPc),(.int .i64 r.fState.fLeft),(.int .u8 r.fState.fRegs.a0),(.int .u8 r.fState.fRegs.a1),(.int .u8 r.fState.fRegs.a2),(.int .u8 r.fState.fRegs.a3),(.int .u8 r.fX.fOp),(.int .i64 r.fX.fA),(.int .i64 r.fX.fB),(.int .i64 r.fX.fC),(.slice za1 r.fMem.length za2),(.int .u8 r.fAct.fKind),(.int .i64 r.fAct.fA),(.int .i64 r.fAct.fB),(.slice za3 r.fAct.fData.length za4)]]:=by
 unfold y1R at h
 refine Calls.y9 (vs:=[(.pointer (some ⟨z3i,0,none⟩))]) (pre:=[stb z3i 65 [(.int .i64 z6.fState.fPc),(.int .i64 z6.fState.fLeft),(.int .u8 z6.fState.fRegs.a0),(.int .u8 z6.fState.fRegs.a1),(.int .u8 z6.fState.fRegs.a2),(.int .u8 z6.fState.fRegs.a3),(.int .u8 z6.fX.fOp),(.int .i64 z6.fX.fA),(.int .i64 z6.fX.fB),(.int .i64 z6.fX.fC),(.slice z4n z6.fMem.length z4o),(.int .u8 z6.fAct.fKind),(.int .i64 z6.fAct.fA),(.int .i64 z6.fAct.fB),(.slice z4p z6.fAct.fData.length z4q)]]) (env:=[(0,(.pointer (some ⟨z3i,0,none⟩)))]) Tryd.func86 rfl Tryd.ntmps86 rfl (hown) rfl ?_
 obtain ⟨zdd,zdf,h⟩:=zi h
 obtain ⟨za5,h⟩:=yb h
 obtain ⟨zde,zdg,h⟩:=zi h
 obtain ⟨zdh,h⟩:=yb h
 refine WC.y1h (fun i=>[20].contains i) [] rfl ?_
 refine WD.a (i:=0) (d:=2) (by kernel_rfl) rfl z7 z8 rfl rfl rfl (fun _=>q_m rfl) ?_
 refine WD.a (i:=1) (d:=3) (by kernel_rfl) rfl z7 z8 rfl rfl rfl (fun _=>q_m rfl) ?_
 refine WD.a (i:=2) (d:=4) (by kernel_rfl) rfl z7 z8 rfl rfl rfl (fun _=>y7 rfl) ?_
 refine WD.a (i:=3) (d:=5) (by kernel_rfl) rfl z7 z8 rfl rfl rfl (fun _=>y4 yE rfl rfl) ?_
 refine WD.a (i:=4) (d:=6) (by kernel_rfl) rfl z7 z8 rfl rfl rfl (fun _=>y4 y1q rfl rfl) ?_
 refine WD.e (i:=5) (d:=7) (by kernel_rfl) rfl z7 z8 rfl rfl rfl (y6 ye rfl (ya .here rfl)) ?_
 refine WD.c (i:=6) (d:=8) (by kernel_rfl) rfl z7 z8 rfl rfl rfl (zK (l:=[.tmp 2,.tmp 7]) Tryd.call108 (.cons rfl (.cons rfl .nil))) (ccl hz .nil (.cons .here .nil) fun w pz ho la=>yh _ _ _ _ _ _ _ _ _ zdf w pz (z8b.mono (Zle.left _ _)) (z8c.mono (Zle.left _ _)) ((la _ (.head _) _).stb)) ?_
 refine WD.a (i:=7) (d:=9) (by kernel_rfl) rfl z7 z8 rfl rfl rfl (fun _=>y7 rfl) ?_
 refine WD.e (i:=8) (d:=10) (by kernel_rfl) rfl z7 z8 rfl rfl rfl (y6 yx rfl (y1x (l:=([z6.fState.fRegs.a0,z6.fState.fRegs.a1,z6.fState.fRegs.a2,z6.fState.fRegs.a3] : List Int)) (f:=Value.int .u8) (k:=2) (m:=6) .here rfl rfl za5)) ?_
 refine WD.a (i:=9) (d:=11) (by kernel_rfl) rfl z7 z8 rfl rfl rfl (fun _=>q_m rfl) ?_
 refine WD.a (i:=10) (d:=12) (by kernel_rfl) rfl z7 z8 rfl rfl rfl (fun _=>q_m rfl) ?_
 refine WD.a (i:=11) (d:=13) (by kernel_rfl) rfl z7 z8 rfl rfl rfl (fun _=>y7 rfl) ?_
 refine WD.a (i:=12) (d:=14) (by kernel_rfl) rfl z7 z8 rfl rfl rfl (fun _=>y4 yE rfl rfl) ?_
 refine WD.a (i:=13) (d:=15) (by kernel_rfl) rfl z7 z8 rfl rfl rfl (fun _=>y4 y22 rfl rfl) ?_
 refine WD.e (i:=14) (d:=16) (by kernel_rfl) rfl z7 z8 rfl rfl rfl (y6 ye rfl (ya .here rfl)) ?_
 refine WD.c (i:=15) (d:=17) (by kernel_rfl) rfl z7 z8 rfl rfl rfl (zK (l:=[.tmp 11,.tmp 16]) Tryd.call108 (.cons rfl (.cons rfl .nil))) (ccl hz .nil (.cons .here .nil) fun w pz ho la=>yh _ _ _ _ _ _ _ _ _ zdg w pz (z8b.mono (Zle.left _ _)) (z8c.mono (Zle.left _ _)) ((la _ (.head _) _).stb)) ?_
 refine WD.a (i:=16) (d:=18) (by kernel_rfl) rfl z7 z8 rfl rfl rfl (fun _=>y7 rfl) ?_
 refine WD.e (i:=17) (d:=19) (by kernel_rfl) rfl z7 z8 rfl rfl rfl (y6 yx rfl (y1x (l:=([z6.fState.fRegs.a0,z6.fState.fRegs.a1,z6.fState.fRegs.a2,z6.fState.fRegs.a3] : List Int)) (f:=Value.int .u8) (k:=2) (m:=6) .here rfl rfl zdh)) ?_
 refine WD.a (i:=18) (d:=20) (by kernel_rfl) rfl z7 z8 rfl rfl rfl (fun _=>q_sub rfl rfl rfl) ?_
 refine WD.a (i:=19) (d:=21) (by kernel_rfl) rfl z7 z8 rfl rfl rfl (fun _=>y7 rfl) ?_
 refine WD.y2n (i:=20) rfl (by kernel_rfl) rfl rfl rfl (by kernel_rfl) (y32 (l:=([z6.fState.fRegs.a0,z6.fState.fRegs.a1,z6.fState.fRegs.a2,z6.fState.fRegs.a3] : List Int)) (f:=Value.int .u8) (u:=u8 ((nth ([z6.fState.fRegs.a0,z6.fState.fRegs.a1,z6.fState.fRegs.a2,z6.fState.fRegs.a3] : List Int) z6.fX.fA) - (nth ([z6.fState.fRegs.a0,z6.fState.fRegs.a1,z6.fState.fRegs.a2,z6.fState.fRegs.a3] : List Int) z6.fX.fB))) (k:=2) (m:=6) (j:=4) (ds:=[(.int .i64 z6.fState.fPc),(.int .i64 z6.fState.fLeft),(.int .u8 (nth (([z6.fState.fRegs.a0,z6.fState.fRegs.a1,z6.fState.fRegs.a2,z6.fState.fRegs.a3] : List Int).set (z6.fX.fA : Int).toNat (u8 ((nth ([z6.fState.fRegs.a0,z6.fState.fRegs.a1,z6.fState.fRegs.a2,z6.fState.fRegs.a3] : List Int) z6.fX.fA) - (nth ([z6.fState.fRegs.a0,z6.fState.fRegs.a1,z6.fState.fRegs.a2,z6.fState.fRegs.a3] : List Int) z6.fX.fB)))) 0)),(.int .u8 (nth (([z6.fState.fRegs.a0,z6.fState.fRegs.a1,z6.fState.fRegs.a2,z6.fState.fRegs.a3] : List Int).set (z6.fX.fA : Int).toNat (u8 ((nth ([z6.fState.fRegs.a0,z6.fState.fRegs.a1,z6.fState.fRegs.a2,z6.fState.fRegs.a3] : List Int) z6.fX.fA) - (nth ([z6.fState.fRegs.a0,z6.fState.fRegs.a1,z6.fState.fRegs.a2,z6.fState.fRegs.a3] : List Int) z6.fX.fB)))) 1)),(.int .u8 (nth (([z6.fState.fRegs.a0,z6.fState.fRegs.a1,z6.fState.fRegs.a2,z6.fState.fRegs.a3] : List Int).set (z6.fX.fA : Int).toNat (u8 ((nth ([z6.fState.fRegs.a0,z6.fState.fRegs.a1,z6.fState.fRegs.a2,z6.fState.fRegs.a3] : List Int) z6.fX.fA) - (nth ([z6.fState.fRegs.a0,z6.fState.fRegs.a1,z6.fState.fRegs.a2,z6.fState.fRegs.a3] : List Int) z6.fX.fB)))) 2)),(.int .u8 (nth (([z6.fState.fRegs.a0,z6.fState.fRegs.a1,z6.fState.fRegs.a2,z6.fState.fRegs.a3] : List Int).set (z6.fX.fA : Int).toNat (u8 ((nth ([z6.fState.fRegs.a0,z6.fState.fRegs.a1,z6.fState.fRegs.a2,z6.fState.fRegs.a3] : List Int) z6.fX.fA) - (nth ([z6.fState.fRegs.a0,z6.fState.fRegs.a1,z6.fState.fRegs.a2,z6.fState.fRegs.a3] : List Int) z6.fX.fB)))) 3)),(.int .u8 z6.fX.fOp),(.int .i64 z6.fX.fA),(.int .i64 z6.fX.fB),(.int .i64 z6.fX.fC),(.slice z4n z6.fMem.length z4o),(.int .u8 z6.fAct.fKind),(.int .i64 z6.fAct.fA),(.int .i64 z6.fAct.fB),(.slice z4p z6.fAct.fData.length z4q)]) y3o rfl rfl rfl rfl .here rfl rfl za5 rfl rfl) ?_
 refine WD.done (by kernel_rfl) ?_
 obtain rfl:=Option.some.inj h
 refine WX.yf Tryd.results86 .nil (fun w hw=>?_)
 exact ⟨z4n,z4o,z4p,z4q,y15,⟨z8b,z8c⟩,hw.sub (.cons .here .nil)⟩
def yz (zp : Sproc_execution) (z4r : Int) (z4s : Int) : Option Sproc_execution :=
 some (⟨zp.fState,zp.fX,zp.fMem,(⟨15,i64 z4r,z4s,([] : List Int)⟩ : Sproc_Act)⟩ : Sproc_execution)
set_option maxRecDepth 20000 in
theorem y29 (Z : Zp) (z3j : Nat) (z4t : Option Addr) (z4u : Nat) (z5p : Option Addr) (z5q : Nat) (zp : Sproc_execution) (z4r : Int) (z4s : Int) (r : Sproc_execution)
  (h : yz zp z4r z4s = some r) (w₀ : World) (hz : PZ (fps [stb z3j 65 [(.int .i64 zp.fState.fPc),(.int .i64 zp.fState.fLeft),(.int .u8 zp.fState.fRegs.a0),(.int .u8 zp.fState.fRegs.a1),(.int .u8 zp.fState.fRegs.a2),(.int .u8 zp.fState.fRegs.a3),(.int .u8 zp.fX.fOp),(.int .i64 zp.fX.fA),(.int .i64 zp.fX.fB),(.int .i64 zp.fX.fC),(.slice z4t zp.fMem.length z4u),(.int .u8 zp.fAct.fKind),(.int .i64 zp.fAct.fA),(.int .i64 zp.fAct.fB),(.slice z5p zp.fAct.fData.length z5q)]]) w₀ Z)
  (zdi : ZS Z 1 (fun r x=>r = e5 x) z4t z4u zp.fMem)
  (zmo : ZS Z 1 (fun r x=>r = e5 x) z5p z5q zp.fAct.fData)
  (hown : Hp (fps [stb z3j 65 [(.int .i64 zp.fState.fPc),(.int .i64 zp.fState.fLeft),(.int .u8 zp.fState.fRegs.a0),(.int .u8 zp.fState.fRegs.a1),(.int .u8 zp.fState.fRegs.a2),(.int .u8 zp.fState.fRegs.a3),(.int .u8 zp.fX.fOp),(.int .i64 zp.fX.fA),(.int .i64 zp.fX.fB),(.int .i64 zp.fX.fC),(.slice z4t zp.fMem.length z4u),(.int .u8 zp.fAct.fKind),(.int .i64 zp.fAct.fA),(.int .i64 zp.fAct.fB),(.slice z5p zp.fAct.fData.length z5q)]]) w₀ w₀ [stb z3j 65 [(.int .i64 zp.fState.fPc),(.int .i64 zp.fState.fLeft),(.int .u8 zp.fState.fRegs.a0),(.int .u8 zp.fState.fRegs.a1),(.int .u8 zp.fState.fRegs.a2),(.int .u8 zp.fState.fRegs.a3),(.int .u8 zp.fX.fOp),(.int .i64 zp.fX.fA),(.int .i64 zp.fX.fB),(.int .i64 zp.fX.fC),(.slice z4t zp.fMem.length z4u),(.int .u8 zp.fAct.fKind),(.int .i64 zp.fAct.fA),(.int .i64 zp.fAct.fB),(.slice z5p zp.fAct.fData.length z5q)]]) :
  Calls Tryd.prog 112 #[(.pointer (some ⟨z3j,0,none⟩)),(.int .u8 z4r),(.int .i64 z4s)] w₀ fun e w'=>∃ za6 : Option Addr,∃ za7 : Nat,∃ za8 : Option Addr,∃ za9 : Nat,e = .returned (.tuple #[]) ∧ (ZS Z 1 (fun r x=>r = e5 x) za6 za7 r.fMem) ∧ Hp (fps [stb z3j 65 [(.int .i64 zp.fState.fPc),(.int .i64 zp.fState.fLeft),(.int .u8 zp.fState.fRegs.a0),(.int .u8 zp.fState.fRegs.a1),(.int .u8 zp.fState.fRegs.a2),(.int .u8 zp.fState.fRegs.a3),(.int .u8 zp.fX.fOp),(.int .i64 zp.fX.fA),(.int .i64 zp.fX.fB),(.int .i64 zp.fX.fC),(.slice z4t zp.fMem.length z4u),(.int .u8 zp.fAct.fKind),(.int .i64 zp.fAct.fA),(.int .i64 zp.fAct.fB),(.slice z5p zp.fAct.fData.length z5q)]]) w₀ w' [stb z3j 65 [(.int .i64 r.fState.fPc),(.int .i64 r.fState.fLeft),(.int .u8 r.fState.fRegs.a0),(.int .u8 r.fState.fRegs.a1),(.int .u8 r.fState.fRegs.a2),(.int .u8 r.fState.fRegs.a3),(.int .u8 r.fX.fOp),(.int .i64 r.fX.fA),(.int .i64 r.fX.fB),(.int .i64 r.fX.fC),(.slice za6 r.fMem.length za7),(.int .u8 r.fAct.fKind),(.int .i64 r.fAct.fA),(.int .i64 r.fAct.fB),(.slice za8 r.fAct.fData.length za9)],row (.slice za8 r.fAct.fData.length za9) 5 1 (r.fAct.fData.flatMap e5)]:=by
 unfold yz at h
 refine Calls.y9 (vs:=[(.pointer (some ⟨z3j,0,none⟩)),(.int .u8 z4r),(.int .i64 z4s)]) (pre:=[stb z3j 65 [(.int .i64 zp.fState.fPc),(.int .i64 zp.fState.fLeft),(.int .u8 zp.fState.fRegs.a0),(.int .u8 zp.fState.fRegs.a1),(.int .u8 zp.fState.fRegs.a2),(.int .u8 zp.fState.fRegs.a3),(.int .u8 zp.fX.fOp),(.int .i64 zp.fX.fA),(.int .i64 zp.fX.fB),(.int .i64 zp.fX.fC),(.slice z4t zp.fMem.length z4u),(.int .u8 zp.fAct.fKind),(.int .i64 zp.fAct.fA),(.int .i64 zp.fAct.fB),(.slice z5p zp.fAct.fData.length z5q)]]) (env:=[(0,(.pointer (some ⟨z3j,0,none⟩))),(1,(.int .u8 z4r)),(2,(.int .i64 z4s))]) Tryd.func112 rfl Tryd.ntmps112 rfl (hown) rfl ?_
 refine WC.a (WL.pu rfl (WL.pu rfl ?_))
 refine WL.a (d:=8) rfl rfl rfl (y4u Tryd.underlying5 Tryd.underlying3 rfl rfl) ?_
 refine WL.pu rfl ?_
 refine WL.a (d:=10) rfl rfl rfl (y13 (v:=(.agg #[(.int .u8 15),(.int .i64 (i64 z4r)),(.int .i64 z4s),(.slice none 0 0)])) (Eos.parts (l:=[.const (.int .u8 15),.tmp 8,.tmp 9]) (.cons rfl (.cons rfl (.cons rfl .nil))) [0,1,2]) (fun _=>by kernel_rfl)) ?_
 refine WL.a (d:=11) rfl rfl rfl (y7 rfl) ?_
 refine WL.a (d:=12) rfl rfl rfl (y4 y3h rfl rfl) ?_
 refine WL.yk rfl rfl (y1n (ds:=[(.int .i64 zp.fState.fPc),(.int .i64 zp.fState.fLeft),(.int .u8 zp.fState.fRegs.a0),(.int .u8 zp.fState.fRegs.a1),(.int .u8 zp.fState.fRegs.a2),(.int .u8 zp.fState.fRegs.a3),(.int .u8 zp.fX.fOp),(.int .i64 zp.fX.fA),(.int .i64 zp.fX.fB),(.int .i64 zp.fX.fC),(.slice z4t zp.fMem.length z4u),(.int .u8 15),(.int .i64 (i64 z4r)),(.int .i64 z4s),(.slice none 0 0)]) y1z rfl rfl rfl rfl rfl .here rfl rfl) ?_
 refine WL.nil ?_
 refine WX.nilRow 5 1 ?_
 obtain rfl:=Option.some.inj h
 refine WX.yf Tryd.results112 .nil (fun w hw=>?_)
 exact ⟨z4t,z4u,none,0,y15,zdi,hw.sub (.cons .h1 (.cons .here .nil))⟩
def yU (zl : Sproc_execution) : Option (Int × Bool × Sproc_execution) :=
 (yc zl zl.fX.fC).bind fun zdj=>chk ((0 : Int) ≤ zl.fX.fC ∧ zl.fX.fC < 4) (if decide ((i64 (zl.fX.fB + (i64 (nth ([zl.fState.fRegs.a0,zl.fState.fRegs.a1,zl.fState.fRegs.a2,zl.fState.fRegs.a3] : List Int) zl.fX.fC)))) ≥ ((zl.fMem.length : Nat) : Int)) then (yz zl 2 0).bind fun z8d=>some (0,false,z8d) else some ((i64 (zl.fX.fB + (i64 (nth ([zl.fState.fRegs.a0,zl.fState.fRegs.a1,zl.fState.fRegs.a2,zl.fState.fRegs.a3] : List Int) zl.fX.fC)))),true,zl))
set_option maxRecDepth 20000 in
theorem y2F (Z : Zp) (z3k : Nat) (z54 : Option Addr) (z55 : Nat) (z56 : Option Addr) (z57 : Nat) (zl : Sproc_execution) (r : Int × Bool × Sproc_execution)
  (h : yU zl = some r) (w₀ : World) (hz : PZ (fps [stb z3k 65 [(.int .i64 zl.fState.fPc),(.int .i64 zl.fState.fLeft),(.int .u8 zl.fState.fRegs.a0),(.int .u8 zl.fState.fRegs.a1),(.int .u8 zl.fState.fRegs.a2),(.int .u8 zl.fState.fRegs.a3),(.int .u8 zl.fX.fOp),(.int .i64 zl.fX.fA),(.int .i64 zl.fX.fB),(.int .i64 zl.fX.fC),(.slice z54 zl.fMem.length z55),(.int .u8 zl.fAct.fKind),(.int .i64 zl.fAct.fA),(.int .i64 zl.fAct.fB),(.slice z56 zl.fAct.fData.length z57)]]) w₀ Z)
  (z8e : ZS Z 1 (fun r x=>r = e5 x) z54 z55 zl.fMem)
  (z8f : ZS Z 1 (fun r x=>r = e5 x) z56 z57 zl.fAct.fData)
  (hown : Hp (fps [stb z3k 65 [(.int .i64 zl.fState.fPc),(.int .i64 zl.fState.fLeft),(.int .u8 zl.fState.fRegs.a0),(.int .u8 zl.fState.fRegs.a1),(.int .u8 zl.fState.fRegs.a2),(.int .u8 zl.fState.fRegs.a3),(.int .u8 zl.fX.fOp),(.int .i64 zl.fX.fA),(.int .i64 zl.fX.fB),(.int .i64 zl.fX.fC),(.slice z54 zl.fMem.length z55),(.int .u8 zl.fAct.fKind),(.int .i64 zl.fAct.fA),(.int .i64 zl.fAct.fB),(.slice z56 zl.fAct.fData.length z57)]]) w₀ w₀ [stb z3k 65 [(.int .i64 zl.fState.fPc),(.int .i64 zl.fState.fLeft),(.int .u8 zl.fState.fRegs.a0),(.int .u8 zl.fState.fRegs.a1),(.int .u8 zl.fState.fRegs.a2),(.int .u8 zl.fState.fRegs.a3),(.int .u8 zl.fX.fOp),(.int .i64 zl.fX.fA),(.int .i64 zl.fX.fB),(.int .i64 zl.fX.fC),(.slice z54 zl.fMem.length z55),(.int .u8 zl.fAct.fKind),(.int .i64 zl.fAct.fA),(.int .i64 zl.fAct.fB),(.slice z56 zl.fAct.fData.length z57)]]) :
  Calls Tryd.prog 109 #[(.pointer (some ⟨z3k,0,none⟩))] w₀ fun e w'=>∃ Zn : Zp,∃ zaa : Option Addr,∃ zab : Nat,∃ zac : Option Addr,∃ zad : Nat,e = .returned (.tuple #[(.int .i64 r.1),(.bool r.2.1)]) ∧ ((ZS (Z ++ Zn) 1 (fun r x=>r = e5 x) zaa zab r.2.2.fMem) ∧ (ZS (Z ++ Zn) 1 (fun r x=>r = e5 x) zac zad r.2.2.fAct.fData)) ∧ Hp (fps [stb z3k 65 [(.int .i64 zl.fState.fPc),(.int .i64 zl.fState.fLeft),(.int .u8 zl.fState.fRegs.a0),(.int .u8 zl.fState.fRegs.a1),(.int .u8 zl.fState.fRegs.a2),(.int .u8 zl.fState.fRegs.a3),(.int .u8 zl.fX.fOp),(.int .i64 zl.fX.fA),(.int .i64 zl.fX.fB),(.int .i64 zl.fX.fC),(.slice z54 zl.fMem.length z55),(.int .u8 zl.fAct.fKind),(.int .i64 zl.fAct.fA),(.int .i64 zl.fAct.fB),(.slice z56 zl.fAct.fData.length z57)]]) w₀ w' [fz Zn,stb z3k 65 [(.int .i64 r.2.2.fState.fPc),(.int .i64 r.2.2.fState.fLeft),(.int .u8 r.2.2.fState.fRegs.a0),(.int .u8 r.2.2.fState.fRegs.a1),(.int .u8 r.2.2.fState.fRegs.a2),(.int .u8 r.2.2.fState.fRegs.a3),(.int .u8 r.2.2.fX.fOp),(.int .i64 r.2.2.fX.fA),(.int .i64 r.2.2.fX.fB),(.int .i64 r.2.2.fX.fC),(.slice zaa r.2.2.fMem.length zab),(.int .u8 r.2.2.fAct.fKind),(.int .i64 r.2.2.fAct.fA),(.int .i64 r.2.2.fAct.fB),(.slice zac r.2.2.fAct.fData.length zad)]]:=by
 unfold yU at h
 refine Calls.y9 (vs:=[(.pointer (some ⟨z3k,0,none⟩))]) (pre:=[stb z3k 65 [(.int .i64 zl.fState.fPc),(.int .i64 zl.fState.fLeft),(.int .u8 zl.fState.fRegs.a0),(.int .u8 zl.fState.fRegs.a1),(.int .u8 zl.fState.fRegs.a2),(.int .u8 zl.fState.fRegs.a3),(.int .u8 zl.fX.fOp),(.int .i64 zl.fX.fA),(.int .i64 zl.fX.fB),(.int .i64 zl.fX.fC),(.slice z54 zl.fMem.length z55),(.int .u8 zl.fAct.fKind),(.int .i64 zl.fAct.fA),(.int .i64 zl.fAct.fB),(.slice z56 zl.fAct.fData.length z57)]]) (env:=[(0,(.pointer (some ⟨z3k,0,none⟩)))]) Tryd.func109 rfl Tryd.ntmps109 rfl (hown) rfl ?_
 refine WC.pool (WC.b (WC.a (WL.pu rfl (WL.pu rfl (WL.nil (WX.a (WC.b ?_)))))))
 obtain ⟨zdj,zdk,h⟩:=zi h
 obtain ⟨zdl,h⟩:=yb h
 refine WC.y1h (fun i=>[].contains i) [] rfl ?_
 refine WD.a (i:=0) (d:=5) (by kernel_rfl) rfl z7 z8 rfl rfl rfl (fun _=>q_m rfl) ?_
 refine WD.a (i:=1) (d:=6) (by kernel_rfl) rfl z7 z8 rfl rfl rfl (fun _=>y7 rfl) ?_
 refine WD.a (i:=2) (d:=7) (by kernel_rfl) rfl z7 z8 rfl rfl rfl (fun _=>y4 yE rfl rfl) ?_
 refine WD.a (i:=3) (d:=8) (by kernel_rfl) rfl z7 z8 rfl rfl rfl (fun _=>y4 y22 rfl rfl) ?_
 refine WD.e (i:=4) (d:=9) (by kernel_rfl) rfl z7 z8 rfl rfl rfl (y6 ye rfl (ya .h1 rfl)) ?_
 refine WD.a (i:=5) (d:=10) (by kernel_rfl) rfl z7 z8 rfl rfl rfl (fun _=>q_m rfl) ?_
 refine WD.a (i:=6) (d:=11) (by kernel_rfl) rfl z7 z8 rfl rfl rfl (fun _=>q_m rfl) ?_
 refine WD.a (i:=7) (d:=12) (by kernel_rfl) rfl z7 z8 rfl rfl rfl (fun _=>y7 rfl) ?_
 refine WD.a (i:=8) (d:=13) (by kernel_rfl) rfl z7 z8 rfl rfl rfl (fun _=>y4 yE rfl rfl) ?_
 refine WD.a (i:=9) (d:=14) (by kernel_rfl) rfl z7 z8 rfl rfl rfl (fun _=>y4 y3M rfl rfl) ?_
 refine WD.e (i:=10) (d:=15) (by kernel_rfl) rfl z7 z8 rfl rfl rfl (y6 ye rfl (ya .h1 rfl)) ?_
 refine WD.c (i:=11) (d:=16) (by kernel_rfl) rfl z7 z8 rfl rfl rfl (zK (l:=[.tmp 10,.tmp 15]) Tryd.call108 (.cons rfl (.cons rfl .nil))) (y2f hz .nil .here (.cons .h1 .nil) fun w pz ho la=>yh _ _ _ _ _ _ _ _ _ zdk w pz ((z8e.mono (Zle.left _ _)).mono (Zle.left _ _)) ((z8f.mono (Zle.left _ _)).mono (Zle.left _ _)) ((la _ (.head _) _).stb)) ?_
 refine WD.a (i:=12) (d:=17) (by kernel_rfl) rfl z7 z8 rfl rfl rfl (fun _=>y7 rfl) ?_
 refine WD.e (i:=13) (d:=18) (by kernel_rfl) rfl z7 z8 rfl rfl rfl (y6 yx rfl (y1x (l:=([zl.fState.fRegs.a0,zl.fState.fRegs.a1,zl.fState.fRegs.a2,zl.fState.fRegs.a3] : List Int)) (f:=Value.int .u8) (k:=2) (m:=6) .h1 rfl rfl zdl)) ?_
 refine WD.a (i:=14) (d:=19) (by kernel_rfl) rfl z7 z8 rfl rfl rfl (fun _=>y4u Tryd.underlying5 Tryd.underlying3 rfl rfl) ?_
 refine WD.a (i:=15) (d:=20) (by kernel_rfl) rfl z7 z8 rfl rfl rfl (fun _=>q_add rfl rfl rfl) ?_
 refine WD.a (i:=16) (d:=4) (by kernel_rfl) rfl z7 z8 rfl rfl rfl (fun _=>q_z rfl) ?_
 refine WD.done (by kernel_rfl) ?_
 refine WX.a (WC.b (WC.b (WC.a (WL.pu rfl (WL.pu rfl ?_)))))
 refine WL.a (d:=23) rfl rfl rfl (y7 rfl) ?_
 refine WL.a (d:=24) rfl rfl rfl (y4 y69 rfl rfl) ?_
 refine WL.a (d:=25) rfl rfl rfl (y6 y3g rfl (ya .h1 rfl)) ?_
 refine WL.a (d:=26) rfl rfl rfl (y1a Tryd.underlying35 rfl) ?_
 refine WL.pu rfl (WL.nil (WX.a ?_))
 refine WC.cond rfl (fun z8g=>?_) (fun z8g=>?_)
 ·replace h:=ym h z8g
  refine WC.b ?_
  obtain ⟨z8d,zdm,h⟩:=zi h
  refine WC.a (WL.pu rfl ?_)
  refine WL.yl (dd:=29) rfl rfl rfl (zK (l:=[.tmp 28,.const (.int .u8 2),.const (.int .i64 0)]) Tryd.call112 (.cons rfl (.cons rfl (.cons rfl .nil)))) (.cons .h1 .nil) (ccz hz (.cons .h1 .nil) .here fun w pz ho=>y29 _ _ _ _ _ _ _ _ _ _ zdm w pz (z8e.mono (Zle.left _ _)) (z8f.mono (Zle.left _ _)) ho) ?_
  rintro zdn zdo zdp zdq zdr
  refine WL.nil (WX.a (WC.b (WC.a (WL.pu rfl (WL.pu rfl (WL.nil (WX.a (WC.ret (WX.yd ?_)))))))))
  refine WX.freezeS (ls:=z8d.fAct.fData) .h1 .h1 hz (RR.yI (enc:=e5) (fun _=>rfl) _) ?_
  intro zds zdt zdu
  obtain rfl:=Option.some.inj h
  refine WX.yg Tryd.results109 (.tmp rfl (.tmp rfl .nil)) (fun w hw=>?_)
  exact ⟨zds,zdn,zdo,zdp,zdq,ret2 rfl rfl,⟨(zdr.mono zdt),zdu⟩,hw.sub (.cons .here (.cons .here .nil))⟩
 ·replace h:=yn h z8g
  refine WC.skip (WX.a (WC.b (WC.a (WL.pu rfl (WL.pu rfl (WL.pu rfl (WL.nil (WX.a (WC.ret ?_)))))))))
  obtain rfl:=Option.some.inj h
  refine WX.yg Tryd.results109 (.tmp rfl (.tmp rfl .nil)) (fun w hw=>?_)
  exact ⟨[],z54,z55,z56,z57,ret2 rfl rfl,⟨(z8e.mono (Zle.left _ _)),(z8f.mono (Zle.left _ _))⟩,hw.sub (.cons .here (.cons .here .nil))⟩
def y1B (zy : Sproc_execution) : Option Sproc_execution :=
 (yU zy).bind fun zu=>if zu.2.1 then (yc zu.2.2 zu.2.2.fX.fA).bind fun zdv=>chk ((0 : Int) ≤ zu.1 ∧ zu.1 < ((zu.2.2.fMem.length : Nat) : Int)) (chk ((0 : Int) ≤ zu.2.2.fX.fA ∧ zu.2.2.fX.fA < 4) (some (⟨(⟨zu.2.2.fState.fPc,zu.2.2.fState.fLeft,(⟨nth (([zu.2.2.fState.fRegs.a0,zu.2.2.fState.fRegs.a1,zu.2.2.fState.fRegs.a2,zu.2.2.fState.fRegs.a3] : List Int).set (zu.2.2.fX.fA : Int).toNat (nth zu.2.2.fMem zu.1)) 0,nth (([zu.2.2.fState.fRegs.a0,zu.2.2.fState.fRegs.a1,zu.2.2.fState.fRegs.a2,zu.2.2.fState.fRegs.a3] : List Int).set (zu.2.2.fX.fA : Int).toNat (nth zu.2.2.fMem zu.1)) 1,nth (([zu.2.2.fState.fRegs.a0,zu.2.2.fState.fRegs.a1,zu.2.2.fState.fRegs.a2,zu.2.2.fState.fRegs.a3] : List Int).set (zu.2.2.fX.fA : Int).toNat (nth zu.2.2.fMem zu.1)) 2,nth (([zu.2.2.fState.fRegs.a0,zu.2.2.fState.fRegs.a1,zu.2.2.fState.fRegs.a2,zu.2.2.fState.fRegs.a3] : List Int).set (zu.2.2.fX.fA : Int).toNat (nth zu.2.2.fMem zu.1)) 3⟩ : S34)⟩ : Sproc_State),zu.2.2.fX,zu.2.2.fMem,zu.2.2.fAct⟩ : Sproc_execution))) else some zu.2.2
set_option maxRecDepth 20000 in
theorem y3P (Z : Zp) (z3l : Nat) (z5r : Option Addr) (z5s : Nat) (z5t : Option Addr) (z5u : Nat) (zy : Sproc_execution) (r : Sproc_execution)
  (h : y1B zy = some r) (w₀ : World) (hz : PZ (fps [stb z3l 65 [(.int .i64 zy.fState.fPc),(.int .i64 zy.fState.fLeft),(.int .u8 zy.fState.fRegs.a0),(.int .u8 zy.fState.fRegs.a1),(.int .u8 zy.fState.fRegs.a2),(.int .u8 zy.fState.fRegs.a3),(.int .u8 zy.fX.fOp),(.int .i64 zy.fX.fA),(.int .i64 zy.fX.fB),(.int .i64 zy.fX.fC),(.slice z5r zy.fMem.length z5s),(.int .u8 zy.fAct.fKind),(.int .i64 zy.fAct.fA),(.int .i64 zy.fAct.fB),(.slice z5t zy.fAct.fData.length z5u)]]) w₀ Z)
  (zdw : ZS Z 1 (fun r x=>r = e5 x) z5r z5s zy.fMem)
  (zdx : ZS Z 1 (fun r x=>r = e5 x) z5t z5u zy.fAct.fData)
  (hown : Hp (fps [stb z3l 65 [(.int .i64 zy.fState.fPc),(.int .i64 zy.fState.fLeft),(.int .u8 zy.fState.fRegs.a0),(.int .u8 zy.fState.fRegs.a1),(.int .u8 zy.fState.fRegs.a2),(.int .u8 zy.fState.fRegs.a3),(.int .u8 zy.fX.fOp),(.int .i64 zy.fX.fA),(.int .i64 zy.fX.fB),(.int .i64 zy.fX.fC),(.slice z5r zy.fMem.length z5s),(.int .u8 zy.fAct.fKind),(.int .i64 zy.fAct.fA),(.int .i64 zy.fAct.fB),(.slice z5t zy.fAct.fData.length z5u)]]) w₀ w₀ [stb z3l 65 [(.int .i64 zy.fState.fPc),(.int .i64 zy.fState.fLeft),(.int .u8 zy.fState.fRegs.a0),(.int .u8 zy.fState.fRegs.a1),(.int .u8 zy.fState.fRegs.a2),(.int .u8 zy.fState.fRegs.a3),(.int .u8 zy.fX.fOp),(.int .i64 zy.fX.fA),(.int .i64 zy.fX.fB),(.int .i64 zy.fX.fC),(.slice z5r zy.fMem.length z5s),(.int .u8 zy.fAct.fKind),(.int .i64 zy.fAct.fA),(.int .i64 zy.fAct.fB),(.slice z5t zy.fAct.fData.length z5u)]]) :
  Calls Tryd.prog 87 #[(.pointer (some ⟨z3l,0,none⟩))] w₀ fun e w'=>∃ Zn : Zp,∃ zae : Option Addr,∃ zaf : Nat,∃ zag : Option Addr,∃ zah : Nat,e = .returned (.tuple #[]) ∧ ((ZS (Z ++ Zn) 1 (fun r x=>r = e5 x) zae zaf r.fMem) ∧ (ZS (Z ++ Zn) 1 (fun r x=>r = e5 x) zag zah r.fAct.fData)) ∧ Hp (fps [stb z3l 65 [(.int .i64 zy.fState.fPc),(.int .i64 zy.fState.fLeft),(.int .u8 zy.fState.fRegs.a0),(.int .u8 zy.fState.fRegs.a1),(.int .u8 zy.fState.fRegs.a2),(.int .u8 zy.fState.fRegs.a3),(.int .u8 zy.fX.fOp),(.int .i64 zy.fX.fA),(.int .i64 zy.fX.fB),(.int .i64 zy.fX.fC),(.slice z5r zy.fMem.length z5s),(.int .u8 zy.fAct.fKind),(.int .i64 zy.fAct.fA),(.int .i64 zy.fAct.fB),(.slice z5t zy.fAct.fData.length z5u)]]) w₀ w' [fz Zn,stb z3l 65 [(.int .i64 r.fState.fPc),(.int .i64 r.fState.fLeft),(.int .u8 r.fState.fRegs.a0),(.int .u8 r.fState.fRegs.a1),(.int .u8 r.fState.fRegs.a2),(.int .u8 r.fState.fRegs.a3),(.int .u8 r.fX.fOp),(.int .i64 r.fX.fA),(.int .i64 r.fX.fB),(.int .i64 r.fX.fC),(.slice zae r.fMem.length zaf),(.int .u8 r.fAct.fKind),(.int .i64 r.fAct.fA),(.int .i64 r.fAct.fB),(.slice zag r.fAct.fData.length zah)]]:=by
 unfold y1B at h
 refine Calls.y9 (vs:=[(.pointer (some ⟨z3l,0,none⟩))]) (pre:=[stb z3l 65 [(.int .i64 zy.fState.fPc),(.int .i64 zy.fState.fLeft),(.int .u8 zy.fState.fRegs.a0),(.int .u8 zy.fState.fRegs.a1),(.int .u8 zy.fState.fRegs.a2),(.int .u8 zy.fState.fRegs.a3),(.int .u8 zy.fX.fOp),(.int .i64 zy.fX.fA),(.int .i64 zy.fX.fB),(.int .i64 zy.fX.fC),(.slice z5r zy.fMem.length z5s),(.int .u8 zy.fAct.fKind),(.int .i64 zy.fAct.fA),(.int .i64 zy.fAct.fB),(.slice z5t zy.fAct.fData.length z5u)]]) (env:=[(0,(.pointer (some ⟨z3l,0,none⟩)))]) Tryd.func87 rfl Tryd.ntmps87 rfl (hown) rfl ?_
 refine WC.pool (WC.b ?_)
 obtain ⟨zu,zdy,h⟩:=zi h
 refine WC.a (WL.pu rfl ?_)
 refine WL.y2c (dd:=6) rfl rfl rfl (zK (l:=[.tmp 5]) Tryd.call109 (.cons rfl .nil)) (.cons .h1 .nil) (ccz hz (.cons .h1 .nil) .here fun w pz ho=>y2F _ _ _ _ _ _ _ _ zdy w pz (zdw.mono (Zle.left _ _)) (zdx.mono (Zle.left _ _)) ho) ?_
 rintro z8h z8i z8j z8k z8l ⟨z7q,z8m⟩
 refine WL.merge .here .h1 ?_
 refine WL.pu rfl (WL.pu rfl (WL.pu rfl (WL.pu rfl (WL.pu rfl (WL.nil (WX.a (WC.b (WC.a (WL.pu rfl (WL.nil (WX.a ?_)))))))))))
 refine WC.cond rfl (fun z8n=>?_) (fun z8n=>?_)
 ·replace h:=ym h z8n
  obtain ⟨zdv,zdz,h⟩:=zi h
  obtain ⟨zdA,h⟩:=yb h
  obtain ⟨zdB,h⟩:=yb h
  refine WC.y1h (fun i=>[15].contains i) [] rfl ?_
  refine WD.a (i:=0) (d:=10) (by kernel_rfl) rfl z7 z8 rfl rfl rfl (fun _=>q_m rfl) ?_
  refine WD.a (i:=1) (d:=11) (by kernel_rfl) rfl z7 z8 rfl rfl rfl (fun _=>q_m rfl) ?_
  refine WD.a (i:=2) (d:=12) (by kernel_rfl) rfl z7 z8 rfl rfl rfl (fun _=>y7 rfl) ?_
  refine WD.a (i:=3) (d:=13) (by kernel_rfl) rfl z7 z8 rfl rfl rfl (fun _=>y4 yE rfl rfl) ?_
  refine WD.a (i:=4) (d:=14) (by kernel_rfl) rfl z7 z8 rfl rfl rfl (fun _=>y4 y1q rfl rfl) ?_
  refine WD.e (i:=5) (d:=15) (by kernel_rfl) rfl z7 z8 rfl rfl rfl (y6 ye rfl (ya .h1 rfl)) ?_
  refine WD.c (i:=6) (d:=16) (by kernel_rfl) rfl z7 z8 rfl rfl rfl (zK (l:=[.tmp 10,.tmp 15]) Tryd.call108 (.cons rfl (.cons rfl .nil))) (y2f hz .nil .here (.cons .h1 .nil) fun w pz ho la=>yh _ _ _ _ _ _ _ _ _ zdz w pz ((z7q.mono (Zle.y5 _ _ _)).mono (Zle.left _ _)) ((z8m.mono (Zle.y5 _ _ _)).mono (Zle.left _ _)) ((la _ (.head _) _).stb)) ?_
  refine WD.a (i:=7) (d:=17) (by kernel_rfl) rfl z7 z8 rfl rfl rfl (fun _=>q_m rfl) ?_
  refine WD.a (i:=8) (d:=18) (by kernel_rfl) rfl z7 z8 rfl rfl rfl (fun _=>y7 rfl) ?_
  refine WD.a (i:=9) (d:=19) (by kernel_rfl) rfl z7 z8 rfl rfl rfl (fun _=>y4 y69 rfl rfl) ?_
  refine WD.e (i:=10) (d:=20) (by kernel_rfl) rfl z7 z8 rfl rfl rfl (y6 y3g rfl (ya .h1 rfl)) ?_
  refine WD.a (i:=11) (d:=21) (by kernel_rfl) rfl z7 z8 rfl rfl rfl (fun _=>q_m rfl) ?_
  refine WD.znth (j:=12) (dd:=22) (by kernel_rfl) rfl z7 z8 rfl rfl (Z:=(Z ++ ([] ++ z8h))) (Pr:=(fun r x=>r = e5 x)) y1W rfl rfl (z7q.mono (Zle.y5 _ _ _)) zdA ?_
  rintro zmp zmq zdC zmr rfl
  refine WD.e (i:=13) (d:=23) (by kernel_rfl) rfl z7 z8 rfl rfl rfl (y6 yx rfl (y2z (hz.pv2 .here) zdC rfl)) ?_
  refine WD.a (i:=14) (d:=24) (by kernel_rfl) rfl z7 z8 rfl rfl rfl (fun _=>y7 rfl) ?_
  refine WD.y2n (i:=15) rfl (by kernel_rfl) rfl rfl rfl (by kernel_rfl) (y32 (l:=([zu.2.2.fState.fRegs.a0,zu.2.2.fState.fRegs.a1,zu.2.2.fState.fRegs.a2,zu.2.2.fState.fRegs.a3] : List Int)) (f:=Value.int .u8) (u:=(nth zu.2.2.fMem zu.1)) (k:=2) (m:=6) (j:=4) (ds:=[(.int .i64 zu.2.2.fState.fPc),(.int .i64 zu.2.2.fState.fLeft),(.int .u8 (nth (([zu.2.2.fState.fRegs.a0,zu.2.2.fState.fRegs.a1,zu.2.2.fState.fRegs.a2,zu.2.2.fState.fRegs.a3] : List Int).set (zu.2.2.fX.fA : Int).toNat (nth zu.2.2.fMem zu.1)) 0)),(.int .u8 (nth (([zu.2.2.fState.fRegs.a0,zu.2.2.fState.fRegs.a1,zu.2.2.fState.fRegs.a2,zu.2.2.fState.fRegs.a3] : List Int).set (zu.2.2.fX.fA : Int).toNat (nth zu.2.2.fMem zu.1)) 1)),(.int .u8 (nth (([zu.2.2.fState.fRegs.a0,zu.2.2.fState.fRegs.a1,zu.2.2.fState.fRegs.a2,zu.2.2.fState.fRegs.a3] : List Int).set (zu.2.2.fX.fA : Int).toNat (nth zu.2.2.fMem zu.1)) 2)),(.int .u8 (nth (([zu.2.2.fState.fRegs.a0,zu.2.2.fState.fRegs.a1,zu.2.2.fState.fRegs.a2,zu.2.2.fState.fRegs.a3] : List Int).set (zu.2.2.fX.fA : Int).toNat (nth zu.2.2.fMem zu.1)) 3)),(.int .u8 zu.2.2.fX.fOp),(.int .i64 zu.2.2.fX.fA),(.int .i64 zu.2.2.fX.fB),(.int .i64 zu.2.2.fX.fC),(.slice z8i zu.2.2.fMem.length z8j),(.int .u8 zu.2.2.fAct.fKind),(.int .i64 zu.2.2.fAct.fA),(.int .i64 zu.2.2.fAct.fB),(.slice z8k zu.2.2.fAct.fData.length z8l)]) y3o rfl rfl rfl rfl .h1 rfl rfl zdB rfl rfl) ?_
  refine WD.done (by kernel_rfl) ?_
  obtain rfl:=Option.some.inj h
  refine WX.yf Tryd.results87 .nil (fun w hw=>?_)
  exact ⟨([] ++ z8h),z8i,z8j,z8k,z8l,y15,⟨(z7q.mono (Zle.y5 _ _ _)),(z8m.mono (Zle.y5 _ _ _))⟩,hw.sub (.cons .h1 (.cons .here .nil))⟩
 ·replace h:=yn h z8n
  refine WC.skip ?_
  obtain rfl:=Option.some.inj h
  refine WX.yf Tryd.results87 .nil (fun w hw=>?_)
  exact ⟨([] ++ z8h),z8i,z8j,z8k,z8l,y15,⟨(z7q.mono (Zle.y5 _ _ _)),(z8m.mono (Zle.y5 _ _ _))⟩,hw.sub (.cons .here (.cons .here .nil))⟩
def y1r (zz : Sproc_execution) : Option Sproc_execution :=
 (yU zz).bind fun zP=>if zP.2.1 then (yc zP.2.2 zP.2.2.fX.fA).bind fun zdD=>chk ((0 : Int) ≤ zP.2.2.fX.fA ∧ zP.2.2.fX.fA < 4) (some (⟨zP.2.2.fState,zP.2.2.fX,zP.2.2.fMem,(⟨1,zP.1,i64 (nth ([zP.2.2.fState.fRegs.a0,zP.2.2.fState.fRegs.a1,zP.2.2.fState.fRegs.a2,zP.2.2.fState.fRegs.a3] : List Int) zP.2.2.fX.fA),[]⟩ : Sproc_Act)⟩ : Sproc_execution)) else some zP.2.2
set_option maxRecDepth 20000 in
theorem y3B (Z : Zp) (z3m : Nat) (z5v : Option Addr) (z5w : Nat) (z5x : Option Addr) (z5y : Nat) (zz : Sproc_execution) (r : Sproc_execution)
  (h : y1r zz = some r) (w₀ : World) (hz : PZ (fps [stb z3m 65 [(.int .i64 zz.fState.fPc),(.int .i64 zz.fState.fLeft),(.int .u8 zz.fState.fRegs.a0),(.int .u8 zz.fState.fRegs.a1),(.int .u8 zz.fState.fRegs.a2),(.int .u8 zz.fState.fRegs.a3),(.int .u8 zz.fX.fOp),(.int .i64 zz.fX.fA),(.int .i64 zz.fX.fB),(.int .i64 zz.fX.fC),(.slice z5v zz.fMem.length z5w),(.int .u8 zz.fAct.fKind),(.int .i64 zz.fAct.fA),(.int .i64 zz.fAct.fB),(.slice z5x zz.fAct.fData.length z5y)]]) w₀ Z)
  (zdE : ZS Z 1 (fun r x=>r = e5 x) z5v z5w zz.fMem)
  (zdF : ZS Z 1 (fun r x=>r = e5 x) z5x z5y zz.fAct.fData)
  (hown : Hp (fps [stb z3m 65 [(.int .i64 zz.fState.fPc),(.int .i64 zz.fState.fLeft),(.int .u8 zz.fState.fRegs.a0),(.int .u8 zz.fState.fRegs.a1),(.int .u8 zz.fState.fRegs.a2),(.int .u8 zz.fState.fRegs.a3),(.int .u8 zz.fX.fOp),(.int .i64 zz.fX.fA),(.int .i64 zz.fX.fB),(.int .i64 zz.fX.fC),(.slice z5v zz.fMem.length z5w),(.int .u8 zz.fAct.fKind),(.int .i64 zz.fAct.fA),(.int .i64 zz.fAct.fB),(.slice z5x zz.fAct.fData.length z5y)]]) w₀ w₀ [stb z3m 65 [(.int .i64 zz.fState.fPc),(.int .i64 zz.fState.fLeft),(.int .u8 zz.fState.fRegs.a0),(.int .u8 zz.fState.fRegs.a1),(.int .u8 zz.fState.fRegs.a2),(.int .u8 zz.fState.fRegs.a3),(.int .u8 zz.fX.fOp),(.int .i64 zz.fX.fA),(.int .i64 zz.fX.fB),(.int .i64 zz.fX.fC),(.slice z5v zz.fMem.length z5w),(.int .u8 zz.fAct.fKind),(.int .i64 zz.fAct.fA),(.int .i64 zz.fAct.fB),(.slice z5x zz.fAct.fData.length z5y)]]) :
  Calls Tryd.prog 88 #[(.pointer (some ⟨z3m,0,none⟩))] w₀ fun e w'=>∃ Zn : Zp,∃ zai : Option Addr,∃ zaj : Nat,∃ zak : Option Addr,∃ zal : Nat,e = .returned (.tuple #[]) ∧ ((ZS (Z ++ Zn) 1 (fun r x=>r = e5 x) zai zaj r.fMem) ∧ (ZS (Z ++ Zn) 1 (fun r x=>r = e5 x) zak zal r.fAct.fData)) ∧ Hp (fps [stb z3m 65 [(.int .i64 zz.fState.fPc),(.int .i64 zz.fState.fLeft),(.int .u8 zz.fState.fRegs.a0),(.int .u8 zz.fState.fRegs.a1),(.int .u8 zz.fState.fRegs.a2),(.int .u8 zz.fState.fRegs.a3),(.int .u8 zz.fX.fOp),(.int .i64 zz.fX.fA),(.int .i64 zz.fX.fB),(.int .i64 zz.fX.fC),(.slice z5v zz.fMem.length z5w),(.int .u8 zz.fAct.fKind),(.int .i64 zz.fAct.fA),(.int .i64 zz.fAct.fB),(.slice z5x zz.fAct.fData.length z5y)]]) w₀ w' [fz Zn,stb z3m 65 [(.int .i64 r.fState.fPc),(.int .i64 r.fState.fLeft),(.int .u8 r.fState.fRegs.a0),(.int .u8 r.fState.fRegs.a1),(.int .u8 r.fState.fRegs.a2),(.int .u8 r.fState.fRegs.a3),(.int .u8 r.fX.fOp),(.int .i64 r.fX.fA),(.int .i64 r.fX.fB),(.int .i64 r.fX.fC),(.slice zai r.fMem.length zaj),(.int .u8 r.fAct.fKind),(.int .i64 r.fAct.fA),(.int .i64 r.fAct.fB),(.slice zak r.fAct.fData.length zal)]]:=by
 unfold y1r at h
 refine Calls.y9 (vs:=[(.pointer (some ⟨z3m,0,none⟩))]) (pre:=[stb z3m 65 [(.int .i64 zz.fState.fPc),(.int .i64 zz.fState.fLeft),(.int .u8 zz.fState.fRegs.a0),(.int .u8 zz.fState.fRegs.a1),(.int .u8 zz.fState.fRegs.a2),(.int .u8 zz.fState.fRegs.a3),(.int .u8 zz.fX.fOp),(.int .i64 zz.fX.fA),(.int .i64 zz.fX.fB),(.int .i64 zz.fX.fC),(.slice z5v zz.fMem.length z5w),(.int .u8 zz.fAct.fKind),(.int .i64 zz.fAct.fA),(.int .i64 zz.fAct.fB),(.slice z5x zz.fAct.fData.length z5y)]]) (env:=[(0,(.pointer (some ⟨z3m,0,none⟩)))]) Tryd.func88 rfl Tryd.ntmps88 rfl (hown) rfl ?_
 refine WC.pool (WC.b ?_)
 obtain ⟨zP,zdG,h⟩:=zi h
 refine WC.a (WL.pu rfl ?_)
 refine WL.y2c (dd:=6) rfl rfl rfl (zK (l:=[.tmp 5]) Tryd.call109 (.cons rfl .nil)) (.cons .h1 .nil) (ccz hz (.cons .h1 .nil) .here fun w pz ho=>y2F _ _ _ _ _ _ _ _ zdG w pz (zdE.mono (Zle.left _ _)) (zdF.mono (Zle.left _ _)) ho) ?_
 rintro zam z8o z8p zdH zdI ⟨z8q,zan⟩
 refine WL.merge .here .h1 ?_
 refine WL.pu rfl (WL.pu rfl (WL.pu rfl (WL.pu rfl (WL.pu rfl (WL.nil (WX.a (WC.b (WC.a (WL.pu rfl (WL.nil (WX.a ?_)))))))))))
 refine WC.cond rfl (fun z8r=>?_) (fun z8r=>?_)
 ·replace h:=ym h z8r
  obtain ⟨zdD,zdJ,h⟩:=zi h
  obtain ⟨zdK,h⟩:=yb h
  refine WC.a (WL.pu rfl (WL.pu rfl (WL.pu rfl (WL.pu rfl ?_))))
  refine WL.a (d:=14) rfl rfl rfl (y7 rfl) ?_
  refine WL.a (d:=15) rfl rfl rfl (y4 yE rfl rfl) ?_
  refine WL.a (d:=16) rfl rfl rfl (y4 y1q rfl rfl) ?_
  refine WL.a (d:=17) rfl rfl rfl (y6 ye rfl (ya .h1 rfl)) ?_
  refine WL.b (dd:=18) rfl rfl rfl (zK (l:=[.tmp 12,.tmp 17]) Tryd.call108 (.cons rfl (.cons rfl .nil))) .nil (y2f hz .nil .here (.cons .h1 .nil) fun w pz ho la=>yh _ _ _ _ _ _ _ _ _ zdJ w pz ((z8q.mono (Zle.y5 _ _ _)).mono (Zle.left _ _)) ((zan.mono (Zle.y5 _ _ _)).mono (Zle.left _ _)) ((la _ (.head _) _).stb)) ?_
  refine WL.a (d:=19) rfl rfl rfl (y7 rfl) ?_
  refine WL.a (d:=20) rfl rfl rfl (y6 yx rfl (y1x (l:=([zP.2.2.fState.fRegs.a0,zP.2.2.fState.fRegs.a1,zP.2.2.fState.fRegs.a2,zP.2.2.fState.fRegs.a3] : List Int)) (f:=Value.int .u8) (k:=2) (m:=6) .h1 rfl rfl zdK)) ?_
  refine WL.a (d:=21) rfl rfl rfl (y4u Tryd.underlying5 Tryd.underlying3 rfl rfl) ?_
  refine WL.a (d:=22) rfl rfl rfl (y13 (v:=(.agg #[(.int .u8 1),(.int .i64 zP.1),(.int .i64 (i64 (nth ([zP.2.2.fState.fRegs.a0,zP.2.2.fState.fRegs.a1,zP.2.2.fState.fRegs.a2,zP.2.2.fState.fRegs.a3] : List Int) zP.2.2.fX.fA))),(.slice none 0 0)])) (Eos.parts (l:=[.const (.int .u8 1),.tmp 11,.tmp 21]) (.cons rfl (.cons rfl (.cons rfl .nil))) [0,1,2]) (fun _=>by kernel_rfl)) ?_
  refine WL.a (d:=23) rfl rfl rfl (y7 rfl) ?_
  refine WL.a (d:=24) rfl rfl rfl (y4 y3h rfl rfl) ?_
  refine WL.yk rfl rfl (y1n (ds:=[(.int .i64 zP.2.2.fState.fPc),(.int .i64 zP.2.2.fState.fLeft),(.int .u8 zP.2.2.fState.fRegs.a0),(.int .u8 zP.2.2.fState.fRegs.a1),(.int .u8 zP.2.2.fState.fRegs.a2),(.int .u8 zP.2.2.fState.fRegs.a3),(.int .u8 zP.2.2.fX.fOp),(.int .i64 zP.2.2.fX.fA),(.int .i64 zP.2.2.fX.fB),(.int .i64 zP.2.2.fX.fC),(.slice z8o zP.2.2.fMem.length z8p),(.int .u8 1),(.int .i64 zP.1),(.int .i64 (i64 (nth ([zP.2.2.fState.fRegs.a0,zP.2.2.fState.fRegs.a1,zP.2.2.fState.fRegs.a2,zP.2.2.fState.fRegs.a3] : List Int) zP.2.2.fX.fA))),(.slice none 0 0)]) y1z rfl rfl rfl rfl rfl .h1 rfl rfl) ?_
  refine WL.nil ?_
  obtain rfl:=Option.some.inj h
  refine WX.yf Tryd.results88 .nil (fun w hw=>?_)
  exact ⟨([] ++ zam),z8o,z8p,none,0,y15,⟨(z8q.mono (Zle.y5 _ _ _)),(ZS.nil _ _ _)⟩,hw.sub (.cons .h1 (.cons .here .nil))⟩
 ·replace h:=yn h z8r
  refine WC.skip ?_
  obtain rfl:=Option.some.inj h
  refine WX.yf Tryd.results88 .nil (fun w hw=>?_)
  exact ⟨([] ++ zam),z8o,z8p,zdH,zdI,y15,⟨(z8q.mono (Zle.y5 _ _ _)),(zan.mono (Zle.y5 _ _ _))⟩,hw.sub (.cons .here (.cons .here .nil))⟩
def y1e (z1m : Int) (z1M : Int) (z3n : (List Int) → Option (List Int)) : Nat → (List Int) → Int → Option (List Int)
 | 0,_,_=>none
 | z8s + 1,z1N,z1q=>if decide (z1q < (((List.replicate (z1m : Int).toNat (0 : Int)).length : Nat) : Int)) then chk ((0 : Int) ≤ z1q ∧ z1q < ((z1N.length : Nat) : Int)) (y1e z1m z1M z3n z8s (z1N.set (z1q : Int).toNat (u8 (z1M + (u8 z1q)))) (i64 (z1q + 1))) else z3n z1N
theorem y4f {n : Nat} {z1m : Int} {z1M : Int} {z3n : (List Int) → Option (List Int)} {z1N : List Int} {z1q : Int} {r : List Int} (h : y1e z1m z1M z3n n z1N z1q = some r) : ∃ m,n = m + 1:=by
 cases n with
 | zero=>cases h
 | succ m=>exact ⟨m,rfl⟩
def y2r (z1M : Int) (z1m : Int) : Option (List Int) :=
 chk ((0 : Int) ≤ z1m ∧ (z1m : Int) ≤ z1m ∧ (z1m : Int) * 1 ≤ 140737488355328 ∧ (z1m : Int) ≤ 4611686018427387904) (jp1 (fun (z2V : List Int)=>some z2V) fun z3n=>y1e z1m z1M z3n y1M (List.replicate (z1m : Int).toNat (0 : Int)) 0)
set_option maxRecDepth 20000 in
theorem y5Q (Z : Zp)  (z1M : Int) (z1m : Int) (r : List Int)
  (h : y2r z1M z1m = some r) (w₀ : World) (hz : PZ [] w₀ Z) :
  Calls Tryd.prog 111 #[(.int .u8 z1M),(.int .i64 z1m)] w₀ fun e w'=>∃ zao : Option Addr,∃ zap : Nat,e = .returned (.slice zao r.length zap) ∧ True ∧ Hp [] w₀ w' [row (.slice zao r.length zap) 5 1 (r.flatMap e5)]:=by
 unfold y2r at h
 refine Calls.y9 (vs:=[(.int .u8 z1M),(.int .i64 z1m)]) (pre:=[]) (env:=[(0,(.int .u8 z1M)),(1,(.int .i64 z1m))]) Tryd.func111 rfl Tryd.ntmps111 rfl (Hp.nil w₀ _) rfl ?_
 refine WC.b (WC.a (WL.pu rfl (WL.nil (WX.a (WC.b ?_)))))
 obtain ⟨zdL,h⟩:=yb h
 refine WC.a (WL.pu rfl ?_)
 refine WL.new (dd:=8) rfl rfl rfl (y2D (r:=[(.int .u8 0)]) (z0:=(0 : Int)) y1W y3L rfl rfl rfl rfl zdL) ?_
 intro z58 _
 refine WL.rowEqD .here (cs':=(List.replicate (z1m : Int).toNat (0 : Int)).flatMap e5) (y3n (enc:=e5) (0 : Int) _) ?_
 refine WL.pu rfl (WL.nil (WX.a ?_))
 obtain ⟨z3n,zdM,h⟩:=y2p h
 refine WC.y2d (fun (z2V : List Int)=>(z3n z2V = some r)) (fun (z2V : List Int)=>[(5,(.slice (some ⟨z58,0,none⟩) z2V.length ((z1m : Int).toNat)))]) (fun (z2V : List Int)=>[row (.slice (some ⟨z58,0,none⟩) z2V.length ((z1m : Int).toNat)) 5 1 (z2V.flatMap e5)]) ?_ ?_
 ·skip
  refine WC.b (WC.a (WL.pu rfl ?_))
  refine WL.a (d:=10) rfl rfl rfl (y1a Tryd.underlying35 rfl) ?_
  refine WL.pu rfl (WL.nil (WX.a (WC.block ?_)))
  refine WC.y4S (fun (z5z : Nat) (z1N : List Int) (z1q : Int)=>(y1e z1m z1M z3n z5z z1N z1q = some r)) (fun (z5z : Nat) (z1N : List Int) (z1q : Int)=>[(0,(.int .u8 z1M)),(5,(.slice (some ⟨z58,0,none⟩) z1N.length ((z1m : Int).toNat))),(10,(.int .i64 (((List.replicate (z1m : Int).toNat (0 : Int)).length : Nat) : Int))),(11,(.int .i64 z1q))]) (fun (z5z : Nat) (z1N : List Int) (z1q : Int)=>[row (.slice (some ⟨z58,0,none⟩) z1N.length ((z1m : Int).toNat)) 5 1 (z1N.flatMap e5)]) (fun (z5z : Nat) (z1N : List Int) (z1q : Int)=>z5z) ⟨y1M,(List.replicate (z1m : Int).toNat (0 : Int)),0⟩ h (.cons rfl (.cons rfl (.cons rfl (.cons rfl .nil)))) (.cons .here .nil) ?_
  rintro z5z z1N z1q h
  obtain ⟨z8s,rfl⟩:=y4f h
  rw [y1e] at h
  refine WC.b (WC.a (WL.pu rfl (WL.nil (WX.a (WC.b ?_)))))
  refine WC.cond rfl (fun z8t=>?_) (fun z8t=>?_)
  ·replace h:=ym h z8t
   refine WC.skip (WX.a (WC.b (WC.block (WC.b (WC.a (WL.pu rfl (WL.pu rfl (WL.nil (WX.a ?_)))))))))
   obtain ⟨z5A,h⟩:=yb h
   refine WC.a (WL.pu rfl (WL.pu rfl (WL.pu rfl (WL.pu rfl ?_))))
   refine WL.a (d:=18) rfl rfl rfl (y4u Tryd.underlying3 Tryd.underlying5 rfl rfl) ?_
   refine WL.pu rfl ?_
   refine WL.a (d:=20) rfl rfl rfl (yB y1W rfl rfl z5A.1 z5A.2 y2C) ?_
   refine WL.yk rfl rfl (y44 (vs:=[(.int .u8 (u8 (z1M + (u8 z1q))))]) (ds:=(z1N.set (z1q : Int).toNat (u8 (z1M + (u8 z1q)))).flatMap e5) y3o rfl rfl rfl rfl (y5g rfl y5G) .here (y4Y (enc:=e5) (sz:=1) (k:=0) (fun _=>rfl) z5A.1 z5A.2 (by decide)) (y4X (enc:=e5) (l:=z1N) (sz:=1) (vs:=[(.int .u8 (u8 (z1M + (u8 z1q))))]) (y:=u8 (z1M + (u8 z1q))) (k:=0) (fun _=>rfl) z5A.1 z5A.2 rfl (Nat.le_of_ble_eq_true rfl))) ?_
   refine WL.relen .here (u:=(.slice (some ⟨z58,0,none⟩) ((z1N.set (z1q : Int).toNat (u8 (z1M + (u8 z1q)))).length) ((z1m : Int).toNat))) (slen (List.length_set).symm) ?_
   refine WL.repin (i:=5) rfl (u:=(.slice (some ⟨z58,0,none⟩) ((z1N.set (z1q : Int).toNat (u8 (z1M + (u8 z1q)))).length) ((z1m : Int).toNat))) (slen (List.length_set).symm) ?_
   refine WL.nil (WX.yi (WX.a (WC.a (WL.pu rfl (WL.pu rfl (WL.nil ?_))))))
   exact WX.round (G:=Nat × List Int × Int) ⟨z8s,(z1N.set (z1q : Int).toNat (u8 (z1M + (u8 z1q)))),(i64 (z1q + 1))⟩ h (Nat.lt_succ_self _) (.cons rfl (.cons rfl (.cons rfl (.cons rfl .nil)))) (.cons .here .nil)
  ·replace h:=yn h z8t
   refine WC.exit (WX.yu (WX.yu (WX.y1b ?_)))
   exact WX.mid (G:=List Int) z1N h (.cons rfl .nil) (.cons .here .nil)
 ·rintro z2V h
  replace h:=(zdM z2V).symm.trans h
  refine WC.b (WC.a (WL.pu rfl (WL.pu rfl (WL.nil (WX.a (WC.ret ?_))))))
  obtain rfl:=Option.some.inj h
  refine WX.yg Tryd.results111 (.tmp rfl .nil) (fun w hw=>?_)
  exact ⟨(some ⟨z58,0,none⟩),((z1m : Int).toNat),yZ rfl,trivial,hw.sub (.cons .here .nil)⟩
def y8 (zn : Sproc_execution) (z4v : Int) (z3o : List Int) : Option Sproc_execution :=
 some (⟨zn.fState,zn.fX,zn.fMem,(⟨z4v,zn.fX.fA,0,z3o⟩ : Sproc_Act)⟩ : Sproc_execution)
set_option maxRecDepth 20000 in
theorem yo (Z : Zp) (z3p : Nat) (z4w : Option Addr) (z4x : Nat) (z5B : Option Addr) (z5C : Nat) (z59 : Option Addr) (z5a : Nat) (zn : Sproc_execution) (z4v : Int) (z3o : List Int) (r : Sproc_execution)
  (h : y8 zn z4v z3o = some r) (w₀ : World) (hz : PZ (fps [stb z3p 65 [(.int .i64 zn.fState.fPc),(.int .i64 zn.fState.fLeft),(.int .u8 zn.fState.fRegs.a0),(.int .u8 zn.fState.fRegs.a1),(.int .u8 zn.fState.fRegs.a2),(.int .u8 zn.fState.fRegs.a3),(.int .u8 zn.fX.fOp),(.int .i64 zn.fX.fA),(.int .i64 zn.fX.fB),(.int .i64 zn.fX.fC),(.slice z4w zn.fMem.length z4x),(.int .u8 zn.fAct.fKind),(.int .i64 zn.fAct.fA),(.int .i64 zn.fAct.fB),(.slice z5B zn.fAct.fData.length z5C)]]) w₀ Z)
  (zdN : ZS Z 1 (fun r x=>r = e5 x) z4w z4x zn.fMem)
  (zms : ZS Z 1 (fun r x=>r = e5 x) z5B z5C zn.fAct.fData)
  (zdO : ZS Z 1 (fun r x=>r = e5 x) z59 z5a z3o)
  (hown : Hp (fps [stb z3p 65 [(.int .i64 zn.fState.fPc),(.int .i64 zn.fState.fLeft),(.int .u8 zn.fState.fRegs.a0),(.int .u8 zn.fState.fRegs.a1),(.int .u8 zn.fState.fRegs.a2),(.int .u8 zn.fState.fRegs.a3),(.int .u8 zn.fX.fOp),(.int .i64 zn.fX.fA),(.int .i64 zn.fX.fB),(.int .i64 zn.fX.fC),(.slice z4w zn.fMem.length z4x),(.int .u8 zn.fAct.fKind),(.int .i64 zn.fAct.fA),(.int .i64 zn.fAct.fB),(.slice z5B zn.fAct.fData.length z5C)]]) w₀ w₀ [stb z3p 65 [(.int .i64 zn.fState.fPc),(.int .i64 zn.fState.fLeft),(.int .u8 zn.fState.fRegs.a0),(.int .u8 zn.fState.fRegs.a1),(.int .u8 zn.fState.fRegs.a2),(.int .u8 zn.fState.fRegs.a3),(.int .u8 zn.fX.fOp),(.int .i64 zn.fX.fA),(.int .i64 zn.fX.fB),(.int .i64 zn.fX.fC),(.slice z4w zn.fMem.length z4x),(.int .u8 zn.fAct.fKind),(.int .i64 zn.fAct.fA),(.int .i64 zn.fAct.fB),(.slice z5B zn.fAct.fData.length z5C)]]) :
  Calls Tryd.prog 110 #[(.pointer (some ⟨z3p,0,none⟩)),(.int .u8 z4v),(.slice z59 z3o.length z5a)] w₀ fun e w'=>∃ zaq : Option Addr,∃ zar : Nat,∃ zas : Option Addr,∃ zat : Nat,e = .returned (.tuple #[]) ∧ ((ZS Z 1 (fun r x=>r = e5 x) zaq zar r.fMem) ∧ (ZS Z 1 (fun r x=>r = e5 x) zas zat r.fAct.fData)) ∧ Hp (fps [stb z3p 65 [(.int .i64 zn.fState.fPc),(.int .i64 zn.fState.fLeft),(.int .u8 zn.fState.fRegs.a0),(.int .u8 zn.fState.fRegs.a1),(.int .u8 zn.fState.fRegs.a2),(.int .u8 zn.fState.fRegs.a3),(.int .u8 zn.fX.fOp),(.int .i64 zn.fX.fA),(.int .i64 zn.fX.fB),(.int .i64 zn.fX.fC),(.slice z4w zn.fMem.length z4x),(.int .u8 zn.fAct.fKind),(.int .i64 zn.fAct.fA),(.int .i64 zn.fAct.fB),(.slice z5B zn.fAct.fData.length z5C)]]) w₀ w' [stb z3p 65 [(.int .i64 r.fState.fPc),(.int .i64 r.fState.fLeft),(.int .u8 r.fState.fRegs.a0),(.int .u8 r.fState.fRegs.a1),(.int .u8 r.fState.fRegs.a2),(.int .u8 r.fState.fRegs.a3),(.int .u8 r.fX.fOp),(.int .i64 r.fX.fA),(.int .i64 r.fX.fB),(.int .i64 r.fX.fC),(.slice zaq r.fMem.length zar),(.int .u8 r.fAct.fKind),(.int .i64 r.fAct.fA),(.int .i64 r.fAct.fB),(.slice zas r.fAct.fData.length zat)]]:=by
 unfold y8 at h
 refine Calls.y9 (vs:=[(.pointer (some ⟨z3p,0,none⟩)),(.int .u8 z4v),(.slice z59 z3o.length z5a)]) (pre:=[stb z3p 65 [(.int .i64 zn.fState.fPc),(.int .i64 zn.fState.fLeft),(.int .u8 zn.fState.fRegs.a0),(.int .u8 zn.fState.fRegs.a1),(.int .u8 zn.fState.fRegs.a2),(.int .u8 zn.fState.fRegs.a3),(.int .u8 zn.fX.fOp),(.int .i64 zn.fX.fA),(.int .i64 zn.fX.fB),(.int .i64 zn.fX.fC),(.slice z4w zn.fMem.length z4x),(.int .u8 zn.fAct.fKind),(.int .i64 zn.fAct.fA),(.int .i64 zn.fAct.fB),(.slice z5B zn.fAct.fData.length z5C)]]) (env:=[(0,(.pointer (some ⟨z3p,0,none⟩))),(1,(.int .u8 z4v)),(2,(.slice z59 z3o.length z5a))]) Tryd.func110 rfl Tryd.ntmps110 rfl (hown) rfl ?_
 refine WC.a (WL.pu rfl (WL.pu rfl (WL.pu rfl ?_)))
 refine WL.a (d:=9) rfl rfl rfl (y7 rfl) ?_
 refine WL.a (d:=10) rfl rfl rfl (y4 yE rfl rfl) ?_
 refine WL.a (d:=11) rfl rfl rfl (y4 y1q rfl rfl) ?_
 refine WL.a (d:=12) rfl rfl rfl (y6 ye rfl (ya .here rfl)) ?_
 refine WL.pu rfl ?_
 refine WL.a (d:=14) rfl rfl rfl (y13 (v:=(.agg #[(.int .u8 z4v),(.int .i64 zn.fX.fA),(.int .i64 0),(.slice z59 z3o.length z5a)])) (Eos.parts (l:=[.tmp 7,.tmp 12,.tmp 13]) (.cons rfl (.cons rfl (.cons rfl .nil))) [0,1,3]) (fun _=>by kernel_rfl)) ?_
 refine WL.a (d:=15) rfl rfl rfl (y7 rfl) ?_
 refine WL.a (d:=16) rfl rfl rfl (y4 y3h rfl rfl) ?_
 refine WL.yk rfl rfl (y1n (ds:=[(.int .i64 zn.fState.fPc),(.int .i64 zn.fState.fLeft),(.int .u8 zn.fState.fRegs.a0),(.int .u8 zn.fState.fRegs.a1),(.int .u8 zn.fState.fRegs.a2),(.int .u8 zn.fState.fRegs.a3),(.int .u8 zn.fX.fOp),(.int .i64 zn.fX.fA),(.int .i64 zn.fX.fB),(.int .i64 zn.fX.fC),(.slice z4w zn.fMem.length z4x),(.int .u8 z4v),(.int .i64 zn.fX.fA),(.int .i64 0),(.slice z59 z3o.length z5a)]) y1z rfl rfl rfl rfl rfl .here rfl rfl) ?_
 refine WL.nil ?_
 obtain rfl:=Option.some.inj h
 refine WX.yf Tryd.results110 .nil (fun w hw=>?_)
 exact ⟨z4w,z4x,z59,z5a,y15,⟨zdN,zdO⟩,hw.sub (.cons .here .nil)⟩
def y1C (zo : Sproc_execution) : Option Sproc_execution :=
 (yc zo zo.fX.fB).bind fun zdP=>chk ((0 : Int) ≤ zo.fX.fB ∧ zo.fX.fB < 4) ((y2r (nth ([zo.fState.fRegs.a0,zo.fState.fRegs.a1,zo.fState.fRegs.a2,zo.fState.fRegs.a3] : List Int) zo.fX.fB) zo.fX.fC).bind fun z8u=>(y8 zo 2 z8u).bind fun zau=>some zau)
set_option maxRecDepth 20000 in
theorem y3Q (Z : Zp) (z3q : Nat) (z5D : Option Addr) (z5E : Nat) (z5F : Option Addr) (z5G : Nat) (zo : Sproc_execution) (r : Sproc_execution)
  (h : y1C zo = some r) (w₀ : World) (hz : PZ (fps [stb z3q 65 [(.int .i64 zo.fState.fPc),(.int .i64 zo.fState.fLeft),(.int .u8 zo.fState.fRegs.a0),(.int .u8 zo.fState.fRegs.a1),(.int .u8 zo.fState.fRegs.a2),(.int .u8 zo.fState.fRegs.a3),(.int .u8 zo.fX.fOp),(.int .i64 zo.fX.fA),(.int .i64 zo.fX.fB),(.int .i64 zo.fX.fC),(.slice z5D zo.fMem.length z5E),(.int .u8 zo.fAct.fKind),(.int .i64 zo.fAct.fA),(.int .i64 zo.fAct.fB),(.slice z5F zo.fAct.fData.length z5G)]]) w₀ Z)
  (zav : ZS Z 1 (fun r x=>r = e5 x) z5D z5E zo.fMem)
  (zaw : ZS Z 1 (fun r x=>r = e5 x) z5F z5G zo.fAct.fData)
  (hown : Hp (fps [stb z3q 65 [(.int .i64 zo.fState.fPc),(.int .i64 zo.fState.fLeft),(.int .u8 zo.fState.fRegs.a0),(.int .u8 zo.fState.fRegs.a1),(.int .u8 zo.fState.fRegs.a2),(.int .u8 zo.fState.fRegs.a3),(.int .u8 zo.fX.fOp),(.int .i64 zo.fX.fA),(.int .i64 zo.fX.fB),(.int .i64 zo.fX.fC),(.slice z5D zo.fMem.length z5E),(.int .u8 zo.fAct.fKind),(.int .i64 zo.fAct.fA),(.int .i64 zo.fAct.fB),(.slice z5F zo.fAct.fData.length z5G)]]) w₀ w₀ [stb z3q 65 [(.int .i64 zo.fState.fPc),(.int .i64 zo.fState.fLeft),(.int .u8 zo.fState.fRegs.a0),(.int .u8 zo.fState.fRegs.a1),(.int .u8 zo.fState.fRegs.a2),(.int .u8 zo.fState.fRegs.a3),(.int .u8 zo.fX.fOp),(.int .i64 zo.fX.fA),(.int .i64 zo.fX.fB),(.int .i64 zo.fX.fC),(.slice z5D zo.fMem.length z5E),(.int .u8 zo.fAct.fKind),(.int .i64 zo.fAct.fA),(.int .i64 zo.fAct.fB),(.slice z5F zo.fAct.fData.length z5G)]]) :
  Calls Tryd.prog 89 #[(.pointer (some ⟨z3q,0,none⟩))] w₀ fun e w'=>∃ Zn : Zp,∃ zax : Option Addr,∃ zay : Nat,∃ zaz : Option Addr,∃ zaA : Nat,e = .returned (.tuple #[]) ∧ ((ZS (Z ++ Zn) 1 (fun r x=>r = e5 x) zax zay r.fMem) ∧ (ZS (Z ++ Zn) 1 (fun r x=>r = e5 x) zaz zaA r.fAct.fData)) ∧ Hp (fps [stb z3q 65 [(.int .i64 zo.fState.fPc),(.int .i64 zo.fState.fLeft),(.int .u8 zo.fState.fRegs.a0),(.int .u8 zo.fState.fRegs.a1),(.int .u8 zo.fState.fRegs.a2),(.int .u8 zo.fState.fRegs.a3),(.int .u8 zo.fX.fOp),(.int .i64 zo.fX.fA),(.int .i64 zo.fX.fB),(.int .i64 zo.fX.fC),(.slice z5D zo.fMem.length z5E),(.int .u8 zo.fAct.fKind),(.int .i64 zo.fAct.fA),(.int .i64 zo.fAct.fB),(.slice z5F zo.fAct.fData.length z5G)]]) w₀ w' [fz Zn,stb z3q 65 [(.int .i64 r.fState.fPc),(.int .i64 r.fState.fLeft),(.int .u8 r.fState.fRegs.a0),(.int .u8 r.fState.fRegs.a1),(.int .u8 r.fState.fRegs.a2),(.int .u8 r.fState.fRegs.a3),(.int .u8 r.fX.fOp),(.int .i64 r.fX.fA),(.int .i64 r.fX.fB),(.int .i64 r.fX.fC),(.slice zax r.fMem.length zay),(.int .u8 r.fAct.fKind),(.int .i64 r.fAct.fA),(.int .i64 r.fAct.fB),(.slice zaz r.fAct.fData.length zaA)]]:=by
 unfold y1C at h
 refine Calls.y9 (vs:=[(.pointer (some ⟨z3q,0,none⟩))]) (pre:=[stb z3q 65 [(.int .i64 zo.fState.fPc),(.int .i64 zo.fState.fLeft),(.int .u8 zo.fState.fRegs.a0),(.int .u8 zo.fState.fRegs.a1),(.int .u8 zo.fState.fRegs.a2),(.int .u8 zo.fState.fRegs.a3),(.int .u8 zo.fX.fOp),(.int .i64 zo.fX.fA),(.int .i64 zo.fX.fB),(.int .i64 zo.fX.fC),(.slice z5D zo.fMem.length z5E),(.int .u8 zo.fAct.fKind),(.int .i64 zo.fAct.fA),(.int .i64 zo.fAct.fB),(.slice z5F zo.fAct.fData.length z5G)]]) (env:=[(0,(.pointer (some ⟨z3q,0,none⟩)))]) Tryd.func89 rfl Tryd.ntmps89 rfl (hown) rfl ?_
 refine WC.pool ?_
 obtain ⟨zdP,zdQ,h⟩:=zi h
 obtain ⟨zdR,h⟩:=yb h
 obtain ⟨z8u,zdS,h⟩:=zi h
 obtain ⟨zau,zdT,h⟩:=zi h
 refine WC.y1h (fun i=>[16].contains i) [] rfl ?_
 refine WD.a (i:=0) (d:=2) (by kernel_rfl) rfl z7 z8 rfl rfl rfl (fun _=>q_m rfl) ?_
 refine WD.a (i:=1) (d:=3) (by kernel_rfl) rfl z7 z8 rfl rfl rfl (fun _=>q_m rfl) ?_
 refine WD.a (i:=2) (d:=4) (by kernel_rfl) rfl z7 z8 rfl rfl rfl (fun _=>q_m rfl) ?_
 refine WD.a (i:=3) (d:=5) (by kernel_rfl) rfl z7 z8 rfl rfl rfl (fun _=>y7 rfl) ?_
 refine WD.a (i:=4) (d:=6) (by kernel_rfl) rfl z7 z8 rfl rfl rfl (fun _=>y4 yE rfl rfl) ?_
 refine WD.a (i:=5) (d:=7) (by kernel_rfl) rfl z7 z8 rfl rfl rfl (fun _=>y4 y22 rfl rfl) ?_
 refine WD.e (i:=6) (d:=8) (by kernel_rfl) rfl z7 z8 rfl rfl rfl (y6 ye rfl (ya .h1 rfl)) ?_
 refine WD.c (i:=7) (d:=9) (by kernel_rfl) rfl z7 z8 rfl rfl rfl (zK (l:=[.tmp 3,.tmp 8]) Tryd.call108 (.cons rfl (.cons rfl .nil))) (y2f hz .nil .here (.cons .h1 .nil) fun w pz ho la=>yh _ _ _ _ _ _ _ _ _ zdQ w pz ((zav.mono (Zle.left _ _)).mono (Zle.left _ _)) ((zaw.mono (Zle.left _ _)).mono (Zle.left _ _)) ((la _ (.head _) _).stb)) ?_
 refine WD.a (i:=8) (d:=10) (by kernel_rfl) rfl z7 z8 rfl rfl rfl (fun _=>y7 rfl) ?_
 refine WD.e (i:=9) (d:=11) (by kernel_rfl) rfl z7 z8 rfl rfl rfl (y6 yx rfl (y1x (l:=([zo.fState.fRegs.a0,zo.fState.fRegs.a1,zo.fState.fRegs.a2,zo.fState.fRegs.a3] : List Int)) (f:=Value.int .u8) (k:=2) (m:=6) .h1 rfl rfl zdR)) ?_
 refine WD.a (i:=10) (d:=12) (by kernel_rfl) rfl z7 z8 rfl rfl rfl (fun _=>q_m rfl) ?_
 refine WD.a (i:=11) (d:=13) (by kernel_rfl) rfl z7 z8 rfl rfl rfl (fun _=>y7 rfl) ?_
 refine WD.a (i:=12) (d:=14) (by kernel_rfl) rfl z7 z8 rfl rfl rfl (fun _=>y4 yE rfl rfl) ?_
 refine WD.a (i:=13) (d:=15) (by kernel_rfl) rfl z7 z8 rfl rfl rfl (fun _=>y4 y3M rfl rfl) ?_
 refine WD.e (i:=14) (d:=16) (by kernel_rfl) rfl z7 z8 rfl rfl rfl (y6 ye rfl (ya .h1 rfl)) ?_
 refine WD.call2 (i:=15) (dd:=17) rfl (by kernel_rfl) rfl rfl rfl (.inr rfl) (zK (l:=[.tmp 11,.tmp 16]) Tryd.call111 (.cons rfl (.cons rfl .nil))) .nil (ccz hz .nil .here fun w pz ho=>y5Q _ _ _ _ zdS w pz ) ?_
 rintro zmt zmu _
 refine WD.freezeS (ls:=z8u) .here .here hz (RR.yI (enc:=e5) (fun _=>rfl) _) ?_
 intro zdU zaB zdV
 refine WD.call4 (i:=16) (dd:=18) rfl (by kernel_rfl) rfl rfl rfl (.inl ⟨rfl,fun _ _ _ _=>(Sin.of .nil)⟩) (zK (l:=[.tmp 2,.const (.int .u8 2),.tmp 17]) Tryd.call110 (.cons rfl (.cons rfl (.cons rfl .nil)))) (.cons .h1 .nil) (ccz hz (.cons .h1 .nil) .here fun w pz ho=>yo _ _ _ _ _ _ _ _ _ _ _ _ zdT w pz (zav.mono ((Zle.left _ _).trans zaB)) (zaw.mono ((Zle.left _ _).trans zaB)) zdV ho) ?_
 rintro zdW zdX zdY zdZ ⟨ze0,ze1⟩
 refine WD.done (by kernel_rfl) ?_
 obtain rfl:=Option.some.inj h
 refine WX.yf Tryd.results89 .nil (fun w hw=>?_)
 exact ⟨zdU,zdW,zdX,zdY,zdZ,y15,⟨ze0,ze1⟩,hw.sub (.cons .h1 (.cons .here .nil))⟩
def y1D (zA : Sproc_execution) : Option Sproc_execution :=
 (y8 zA 3 []).bind fun zaC=>some zaC
set_option maxRecDepth 20000 in
theorem y3R (Z : Zp) (z3r : Nat) (z5H : Option Addr) (z5I : Nat) (z5J : Option Addr) (z5K : Nat) (zA : Sproc_execution) (r : Sproc_execution)
  (h : y1D zA = some r) (w₀ : World) (hz : PZ (fps [stb z3r 65 [(.int .i64 zA.fState.fPc),(.int .i64 zA.fState.fLeft),(.int .u8 zA.fState.fRegs.a0),(.int .u8 zA.fState.fRegs.a1),(.int .u8 zA.fState.fRegs.a2),(.int .u8 zA.fState.fRegs.a3),(.int .u8 zA.fX.fOp),(.int .i64 zA.fX.fA),(.int .i64 zA.fX.fB),(.int .i64 zA.fX.fC),(.slice z5H zA.fMem.length z5I),(.int .u8 zA.fAct.fKind),(.int .i64 zA.fAct.fA),(.int .i64 zA.fAct.fB),(.slice z5J zA.fAct.fData.length z5K)]]) w₀ Z)
  (ze2 : ZS Z 1 (fun r x=>r = e5 x) z5H z5I zA.fMem)
  (ze3 : ZS Z 1 (fun r x=>r = e5 x) z5J z5K zA.fAct.fData)
  (hown : Hp (fps [stb z3r 65 [(.int .i64 zA.fState.fPc),(.int .i64 zA.fState.fLeft),(.int .u8 zA.fState.fRegs.a0),(.int .u8 zA.fState.fRegs.a1),(.int .u8 zA.fState.fRegs.a2),(.int .u8 zA.fState.fRegs.a3),(.int .u8 zA.fX.fOp),(.int .i64 zA.fX.fA),(.int .i64 zA.fX.fB),(.int .i64 zA.fX.fC),(.slice z5H zA.fMem.length z5I),(.int .u8 zA.fAct.fKind),(.int .i64 zA.fAct.fA),(.int .i64 zA.fAct.fB),(.slice z5J zA.fAct.fData.length z5K)]]) w₀ w₀ [stb z3r 65 [(.int .i64 zA.fState.fPc),(.int .i64 zA.fState.fLeft),(.int .u8 zA.fState.fRegs.a0),(.int .u8 zA.fState.fRegs.a1),(.int .u8 zA.fState.fRegs.a2),(.int .u8 zA.fState.fRegs.a3),(.int .u8 zA.fX.fOp),(.int .i64 zA.fX.fA),(.int .i64 zA.fX.fB),(.int .i64 zA.fX.fC),(.slice z5H zA.fMem.length z5I),(.int .u8 zA.fAct.fKind),(.int .i64 zA.fAct.fA),(.int .i64 zA.fAct.fB),(.slice z5J zA.fAct.fData.length z5K)]]) :
  Calls Tryd.prog 90 #[(.pointer (some ⟨z3r,0,none⟩))] w₀ fun e w'=>∃ zaD : Option Addr,∃ zaE : Nat,∃ zaF : Option Addr,∃ zaG : Nat,e = .returned (.tuple #[]) ∧ ((ZS Z 1 (fun r x=>r = e5 x) zaD zaE r.fMem) ∧ (ZS Z 1 (fun r x=>r = e5 x) zaF zaG r.fAct.fData)) ∧ Hp (fps [stb z3r 65 [(.int .i64 zA.fState.fPc),(.int .i64 zA.fState.fLeft),(.int .u8 zA.fState.fRegs.a0),(.int .u8 zA.fState.fRegs.a1),(.int .u8 zA.fState.fRegs.a2),(.int .u8 zA.fState.fRegs.a3),(.int .u8 zA.fX.fOp),(.int .i64 zA.fX.fA),(.int .i64 zA.fX.fB),(.int .i64 zA.fX.fC),(.slice z5H zA.fMem.length z5I),(.int .u8 zA.fAct.fKind),(.int .i64 zA.fAct.fA),(.int .i64 zA.fAct.fB),(.slice z5J zA.fAct.fData.length z5K)]]) w₀ w' [stb z3r 65 [(.int .i64 r.fState.fPc),(.int .i64 r.fState.fLeft),(.int .u8 r.fState.fRegs.a0),(.int .u8 r.fState.fRegs.a1),(.int .u8 r.fState.fRegs.a2),(.int .u8 r.fState.fRegs.a3),(.int .u8 r.fX.fOp),(.int .i64 r.fX.fA),(.int .i64 r.fX.fB),(.int .i64 r.fX.fC),(.slice zaD r.fMem.length zaE),(.int .u8 r.fAct.fKind),(.int .i64 r.fAct.fA),(.int .i64 r.fAct.fB),(.slice zaF r.fAct.fData.length zaG)]]:=by
 unfold y1D at h
 refine Calls.y9 (vs:=[(.pointer (some ⟨z3r,0,none⟩))]) (pre:=[stb z3r 65 [(.int .i64 zA.fState.fPc),(.int .i64 zA.fState.fLeft),(.int .u8 zA.fState.fRegs.a0),(.int .u8 zA.fState.fRegs.a1),(.int .u8 zA.fState.fRegs.a2),(.int .u8 zA.fState.fRegs.a3),(.int .u8 zA.fX.fOp),(.int .i64 zA.fX.fA),(.int .i64 zA.fX.fB),(.int .i64 zA.fX.fC),(.slice z5H zA.fMem.length z5I),(.int .u8 zA.fAct.fKind),(.int .i64 zA.fAct.fA),(.int .i64 zA.fAct.fB),(.slice z5J zA.fAct.fData.length z5K)]]) (env:=[(0,(.pointer (some ⟨z3r,0,none⟩)))]) Tryd.func90 rfl Tryd.ntmps90 rfl (hown) rfl ?_
 obtain ⟨zaC,ze4,h⟩:=zi h
 refine WC.a (WL.pu rfl ?_)
 refine WL.yl (dd:=3) rfl rfl rfl (zK (l:=[.tmp 2,.const (.int .u8 3),.const (.slice none 0 0)]) Tryd.call110 (.cons rfl (.cons rfl (.cons rfl .nil)))) (.cons .here .nil) (cc hz (.cons .here .nil) fun w pz ho=>yo _ _ _ _ _ _ _ _ _ _ _ _ ze4 w pz ze2 ze3 (ZS.nil _ _ _) ho) ?_
 rintro ze5 ze6 ze7 ze8 ⟨ze9,zea⟩
 refine WL.nil ?_
 obtain rfl:=Option.some.inj h
 refine WX.yf Tryd.results90 .nil (fun w hw=>?_)
 exact ⟨ze5,ze6,ze7,ze8,y15,⟨ze9,zea⟩,hw.sub (.cons .here .nil)⟩
def y1E (zB : Sproc_execution) : Option Sproc_execution :=
 (y8 zB 4 []).bind fun zaH=>some zaH
set_option maxRecDepth 20000 in
theorem y3S (Z : Zp) (z3s : Nat) (z5L : Option Addr) (z5M : Nat) (z5N : Option Addr) (z5O : Nat) (zB : Sproc_execution) (r : Sproc_execution)
  (h : y1E zB = some r) (w₀ : World) (hz : PZ (fps [stb z3s 65 [(.int .i64 zB.fState.fPc),(.int .i64 zB.fState.fLeft),(.int .u8 zB.fState.fRegs.a0),(.int .u8 zB.fState.fRegs.a1),(.int .u8 zB.fState.fRegs.a2),(.int .u8 zB.fState.fRegs.a3),(.int .u8 zB.fX.fOp),(.int .i64 zB.fX.fA),(.int .i64 zB.fX.fB),(.int .i64 zB.fX.fC),(.slice z5L zB.fMem.length z5M),(.int .u8 zB.fAct.fKind),(.int .i64 zB.fAct.fA),(.int .i64 zB.fAct.fB),(.slice z5N zB.fAct.fData.length z5O)]]) w₀ Z)
  (zeb : ZS Z 1 (fun r x=>r = e5 x) z5L z5M zB.fMem)
  (zec : ZS Z 1 (fun r x=>r = e5 x) z5N z5O zB.fAct.fData)
  (hown : Hp (fps [stb z3s 65 [(.int .i64 zB.fState.fPc),(.int .i64 zB.fState.fLeft),(.int .u8 zB.fState.fRegs.a0),(.int .u8 zB.fState.fRegs.a1),(.int .u8 zB.fState.fRegs.a2),(.int .u8 zB.fState.fRegs.a3),(.int .u8 zB.fX.fOp),(.int .i64 zB.fX.fA),(.int .i64 zB.fX.fB),(.int .i64 zB.fX.fC),(.slice z5L zB.fMem.length z5M),(.int .u8 zB.fAct.fKind),(.int .i64 zB.fAct.fA),(.int .i64 zB.fAct.fB),(.slice z5N zB.fAct.fData.length z5O)]]) w₀ w₀ [stb z3s 65 [(.int .i64 zB.fState.fPc),(.int .i64 zB.fState.fLeft),(.int .u8 zB.fState.fRegs.a0),(.int .u8 zB.fState.fRegs.a1),(.int .u8 zB.fState.fRegs.a2),(.int .u8 zB.fState.fRegs.a3),(.int .u8 zB.fX.fOp),(.int .i64 zB.fX.fA),(.int .i64 zB.fX.fB),(.int .i64 zB.fX.fC),(.slice z5L zB.fMem.length z5M),(.int .u8 zB.fAct.fKind),(.int .i64 zB.fAct.fA),(.int .i64 zB.fAct.fB),(.slice z5N zB.fAct.fData.length z5O)]]) :
  Calls Tryd.prog 91 #[(.pointer (some ⟨z3s,0,none⟩))] w₀ fun e w'=>∃ zaI : Option Addr,∃ zaJ : Nat,∃ zaK : Option Addr,∃ zaL : Nat,e = .returned (.tuple #[]) ∧ ((ZS Z 1 (fun r x=>r = e5 x) zaI zaJ r.fMem) ∧ (ZS Z 1 (fun r x=>r = e5 x) zaK zaL r.fAct.fData)) ∧ Hp (fps [stb z3s 65 [(.int .i64 zB.fState.fPc),(.int .i64 zB.fState.fLeft),(.int .u8 zB.fState.fRegs.a0),(.int .u8 zB.fState.fRegs.a1),(.int .u8 zB.fState.fRegs.a2),(.int .u8 zB.fState.fRegs.a3),(.int .u8 zB.fX.fOp),(.int .i64 zB.fX.fA),(.int .i64 zB.fX.fB),(.int .i64 zB.fX.fC),(.slice z5L zB.fMem.length z5M),(.int .u8 zB.fAct.fKind),(.int .i64 zB.fAct.fA),(.int .i64 zB.fAct.fB),(.slice z5N zB.fAct.fData.length z5O)]]) w₀ w' [stb z3s 65 [(.int .i64 r.fState.fPc),(.int .i64 r.fState.fLeft),(.int .u8 r.fState.fRegs.a0),(.int .u8 r.fState.fRegs.a1),(.int .u8 r.fState.fRegs.a2),(.int .u8 r.fState.fRegs.a3),(.int .u8 r.fX.fOp),(.int .i64 r.fX.fA),(.int .i64 r.fX.fB),(.int .i64 r.fX.fC),(.slice zaI r.fMem.length zaJ),(.int .u8 r.fAct.fKind),(.int .i64 r.fAct.fA),(.int .i64 r.fAct.fB),(.slice zaK r.fAct.fData.length zaL)]]:=by
 unfold y1E at h
 refine Calls.y9 (vs:=[(.pointer (some ⟨z3s,0,none⟩))]) (pre:=[stb z3s 65 [(.int .i64 zB.fState.fPc),(.int .i64 zB.fState.fLeft),(.int .u8 zB.fState.fRegs.a0),(.int .u8 zB.fState.fRegs.a1),(.int .u8 zB.fState.fRegs.a2),(.int .u8 zB.fState.fRegs.a3),(.int .u8 zB.fX.fOp),(.int .i64 zB.fX.fA),(.int .i64 zB.fX.fB),(.int .i64 zB.fX.fC),(.slice z5L zB.fMem.length z5M),(.int .u8 zB.fAct.fKind),(.int .i64 zB.fAct.fA),(.int .i64 zB.fAct.fB),(.slice z5N zB.fAct.fData.length z5O)]]) (env:=[(0,(.pointer (some ⟨z3s,0,none⟩)))]) Tryd.func91 rfl Tryd.ntmps91 rfl (hown) rfl ?_
 obtain ⟨zaH,zed,h⟩:=zi h
 refine WC.a (WL.pu rfl ?_)
 refine WL.yl (dd:=3) rfl rfl rfl (zK (l:=[.tmp 2,.const (.int .u8 4),.const (.slice none 0 0)]) Tryd.call110 (.cons rfl (.cons rfl (.cons rfl .nil)))) (.cons .here .nil) (cc hz (.cons .here .nil) fun w pz ho=>yo _ _ _ _ _ _ _ _ _ _ _ _ zed w pz zeb zec (ZS.nil _ _ _) ho) ?_
 rintro zee zef zeg zeh ⟨zei,zej⟩
 refine WL.nil ?_
 obtain rfl:=Option.some.inj h
 refine WX.yf Tryd.results91 .nil (fun w hw=>?_)
 exact ⟨zee,zef,zeg,zeh,y15,⟨zei,zej⟩,hw.sub (.cons .here .nil)⟩
def y1j (zC : Sproc_execution) : Option Sproc_execution :=
 (y8 zC 5 []).bind fun zaM=>some zaM
set_option maxRecDepth 20000 in
theorem y3v (Z : Zp) (z3t : Nat) (z5P : Option Addr) (z5Q : Nat) (z5R : Option Addr) (z5S : Nat) (zC : Sproc_execution) (r : Sproc_execution)
  (h : y1j zC = some r) (w₀ : World) (hz : PZ (fps [stb z3t 65 [(.int .i64 zC.fState.fPc),(.int .i64 zC.fState.fLeft),(.int .u8 zC.fState.fRegs.a0),(.int .u8 zC.fState.fRegs.a1),(.int .u8 zC.fState.fRegs.a2),(.int .u8 zC.fState.fRegs.a3),(.int .u8 zC.fX.fOp),(.int .i64 zC.fX.fA),(.int .i64 zC.fX.fB),(.int .i64 zC.fX.fC),(.slice z5P zC.fMem.length z5Q),(.int .u8 zC.fAct.fKind),(.int .i64 zC.fAct.fA),(.int .i64 zC.fAct.fB),(.slice z5R zC.fAct.fData.length z5S)]]) w₀ Z)
  (zek : ZS Z 1 (fun r x=>r = e5 x) z5P z5Q zC.fMem)
  (zel : ZS Z 1 (fun r x=>r = e5 x) z5R z5S zC.fAct.fData)
  (hown : Hp (fps [stb z3t 65 [(.int .i64 zC.fState.fPc),(.int .i64 zC.fState.fLeft),(.int .u8 zC.fState.fRegs.a0),(.int .u8 zC.fState.fRegs.a1),(.int .u8 zC.fState.fRegs.a2),(.int .u8 zC.fState.fRegs.a3),(.int .u8 zC.fX.fOp),(.int .i64 zC.fX.fA),(.int .i64 zC.fX.fB),(.int .i64 zC.fX.fC),(.slice z5P zC.fMem.length z5Q),(.int .u8 zC.fAct.fKind),(.int .i64 zC.fAct.fA),(.int .i64 zC.fAct.fB),(.slice z5R zC.fAct.fData.length z5S)]]) w₀ w₀ [stb z3t 65 [(.int .i64 zC.fState.fPc),(.int .i64 zC.fState.fLeft),(.int .u8 zC.fState.fRegs.a0),(.int .u8 zC.fState.fRegs.a1),(.int .u8 zC.fState.fRegs.a2),(.int .u8 zC.fState.fRegs.a3),(.int .u8 zC.fX.fOp),(.int .i64 zC.fX.fA),(.int .i64 zC.fX.fB),(.int .i64 zC.fX.fC),(.slice z5P zC.fMem.length z5Q),(.int .u8 zC.fAct.fKind),(.int .i64 zC.fAct.fA),(.int .i64 zC.fAct.fB),(.slice z5R zC.fAct.fData.length z5S)]]) :
  Calls Tryd.prog 92 #[(.pointer (some ⟨z3t,0,none⟩))] w₀ fun e w'=>∃ zaN : Option Addr,∃ zaO : Nat,∃ zaP : Option Addr,∃ zaQ : Nat,e = .returned (.tuple #[]) ∧ ((ZS Z 1 (fun r x=>r = e5 x) zaN zaO r.fMem) ∧ (ZS Z 1 (fun r x=>r = e5 x) zaP zaQ r.fAct.fData)) ∧ Hp (fps [stb z3t 65 [(.int .i64 zC.fState.fPc),(.int .i64 zC.fState.fLeft),(.int .u8 zC.fState.fRegs.a0),(.int .u8 zC.fState.fRegs.a1),(.int .u8 zC.fState.fRegs.a2),(.int .u8 zC.fState.fRegs.a3),(.int .u8 zC.fX.fOp),(.int .i64 zC.fX.fA),(.int .i64 zC.fX.fB),(.int .i64 zC.fX.fC),(.slice z5P zC.fMem.length z5Q),(.int .u8 zC.fAct.fKind),(.int .i64 zC.fAct.fA),(.int .i64 zC.fAct.fB),(.slice z5R zC.fAct.fData.length z5S)]]) w₀ w' [stb z3t 65 [(.int .i64 r.fState.fPc),(.int .i64 r.fState.fLeft),(.int .u8 r.fState.fRegs.a0),(.int .u8 r.fState.fRegs.a1),(.int .u8 r.fState.fRegs.a2),(.int .u8 r.fState.fRegs.a3),(.int .u8 r.fX.fOp),(.int .i64 r.fX.fA),(.int .i64 r.fX.fB),(.int .i64 r.fX.fC),(.slice zaN r.fMem.length zaO),(.int .u8 r.fAct.fKind),(.int .i64 r.fAct.fA),(.int .i64 r.fAct.fB),(.slice zaP r.fAct.fData.length zaQ)]]:=by
 unfold y1j at h
 refine Calls.y9 (vs:=[(.pointer (some ⟨z3t,0,none⟩))]) (pre:=[stb z3t 65 [(.int .i64 zC.fState.fPc),(.int .i64 zC.fState.fLeft),(.int .u8 zC.fState.fRegs.a0),(.int .u8 zC.fState.fRegs.a1),(.int .u8 zC.fState.fRegs.a2),(.int .u8 zC.fState.fRegs.a3),(.int .u8 zC.fX.fOp),(.int .i64 zC.fX.fA),(.int .i64 zC.fX.fB),(.int .i64 zC.fX.fC),(.slice z5P zC.fMem.length z5Q),(.int .u8 zC.fAct.fKind),(.int .i64 zC.fAct.fA),(.int .i64 zC.fAct.fB),(.slice z5R zC.fAct.fData.length z5S)]]) (env:=[(0,(.pointer (some ⟨z3t,0,none⟩)))]) Tryd.func92 rfl Tryd.ntmps92 rfl (hown) rfl ?_
 obtain ⟨zaM,zem,h⟩:=zi h
 refine WC.a (WL.pu rfl ?_)
 refine WL.yl (dd:=3) rfl rfl rfl (zK (l:=[.tmp 2,.const (.int .u8 5),.const (.slice none 0 0)]) Tryd.call110 (.cons rfl (.cons rfl (.cons rfl .nil)))) (.cons .here .nil) (cc hz (.cons .here .nil) fun w pz ho=>yo _ _ _ _ _ _ _ _ _ _ _ _ zem w pz zek zel (ZS.nil _ _ _) ho) ?_
 rintro zen zeo zep zeq ⟨zer,zes⟩
 refine WL.nil ?_
 obtain rfl:=Option.some.inj h
 refine WX.yf Tryd.results92 .nil (fun w hw=>?_)
 exact ⟨zen,zeo,zep,zeq,y15,⟨zer,zes⟩,hw.sub (.cons .here .nil)⟩
def y1s (zD : Sproc_execution) : Option Sproc_execution :=
 (y8 zD 6 []).bind fun zaR=>some zaR
set_option maxRecDepth 20000 in
theorem y3C (Z : Zp) (z3u : Nat) (z5T : Option Addr) (z5U : Nat) (z5V : Option Addr) (z5W : Nat) (zD : Sproc_execution) (r : Sproc_execution)
  (h : y1s zD = some r) (w₀ : World) (hz : PZ (fps [stb z3u 65 [(.int .i64 zD.fState.fPc),(.int .i64 zD.fState.fLeft),(.int .u8 zD.fState.fRegs.a0),(.int .u8 zD.fState.fRegs.a1),(.int .u8 zD.fState.fRegs.a2),(.int .u8 zD.fState.fRegs.a3),(.int .u8 zD.fX.fOp),(.int .i64 zD.fX.fA),(.int .i64 zD.fX.fB),(.int .i64 zD.fX.fC),(.slice z5T zD.fMem.length z5U),(.int .u8 zD.fAct.fKind),(.int .i64 zD.fAct.fA),(.int .i64 zD.fAct.fB),(.slice z5V zD.fAct.fData.length z5W)]]) w₀ Z)
  (zet : ZS Z 1 (fun r x=>r = e5 x) z5T z5U zD.fMem)
  (zeu : ZS Z 1 (fun r x=>r = e5 x) z5V z5W zD.fAct.fData)
  (hown : Hp (fps [stb z3u 65 [(.int .i64 zD.fState.fPc),(.int .i64 zD.fState.fLeft),(.int .u8 zD.fState.fRegs.a0),(.int .u8 zD.fState.fRegs.a1),(.int .u8 zD.fState.fRegs.a2),(.int .u8 zD.fState.fRegs.a3),(.int .u8 zD.fX.fOp),(.int .i64 zD.fX.fA),(.int .i64 zD.fX.fB),(.int .i64 zD.fX.fC),(.slice z5T zD.fMem.length z5U),(.int .u8 zD.fAct.fKind),(.int .i64 zD.fAct.fA),(.int .i64 zD.fAct.fB),(.slice z5V zD.fAct.fData.length z5W)]]) w₀ w₀ [stb z3u 65 [(.int .i64 zD.fState.fPc),(.int .i64 zD.fState.fLeft),(.int .u8 zD.fState.fRegs.a0),(.int .u8 zD.fState.fRegs.a1),(.int .u8 zD.fState.fRegs.a2),(.int .u8 zD.fState.fRegs.a3),(.int .u8 zD.fX.fOp),(.int .i64 zD.fX.fA),(.int .i64 zD.fX.fB),(.int .i64 zD.fX.fC),(.slice z5T zD.fMem.length z5U),(.int .u8 zD.fAct.fKind),(.int .i64 zD.fAct.fA),(.int .i64 zD.fAct.fB),(.slice z5V zD.fAct.fData.length z5W)]]) :
  Calls Tryd.prog 93 #[(.pointer (some ⟨z3u,0,none⟩))] w₀ fun e w'=>∃ zaS : Option Addr,∃ zaT : Nat,∃ zaU : Option Addr,∃ zaV : Nat,e = .returned (.tuple #[]) ∧ ((ZS Z 1 (fun r x=>r = e5 x) zaS zaT r.fMem) ∧ (ZS Z 1 (fun r x=>r = e5 x) zaU zaV r.fAct.fData)) ∧ Hp (fps [stb z3u 65 [(.int .i64 zD.fState.fPc),(.int .i64 zD.fState.fLeft),(.int .u8 zD.fState.fRegs.a0),(.int .u8 zD.fState.fRegs.a1),(.int .u8 zD.fState.fRegs.a2),(.int .u8 zD.fState.fRegs.a3),(.int .u8 zD.fX.fOp),(.int .i64 zD.fX.fA),(.int .i64 zD.fX.fB),(.int .i64 zD.fX.fC),(.slice z5T zD.fMem.length z5U),(.int .u8 zD.fAct.fKind),(.int .i64 zD.fAct.fA),(.int .i64 zD.fAct.fB),(.slice z5V zD.fAct.fData.length z5W)]]) w₀ w' [stb z3u 65 [(.int .i64 r.fState.fPc),(.int .i64 r.fState.fLeft),(.int .u8 r.fState.fRegs.a0),(.int .u8 r.fState.fRegs.a1),(.int .u8 r.fState.fRegs.a2),(.int .u8 r.fState.fRegs.a3),(.int .u8 r.fX.fOp),(.int .i64 r.fX.fA),(.int .i64 r.fX.fB),(.int .i64 r.fX.fC),(.slice zaS r.fMem.length zaT),(.int .u8 r.fAct.fKind),(.int .i64 r.fAct.fA),(.int .i64 r.fAct.fB),(.slice zaU r.fAct.fData.length zaV)]]:=by
 unfold y1s at h
 refine Calls.y9 (vs:=[(.pointer (some ⟨z3u,0,none⟩))]) (pre:=[stb z3u 65 [(.int .i64 zD.fState.fPc),(.int .i64 zD.fState.fLeft),(.int .u8 zD.fState.fRegs.a0),(.int .u8 zD.fState.fRegs.a1),(.int .u8 zD.fState.fRegs.a2),(.int .u8 zD.fState.fRegs.a3),(.int .u8 zD.fX.fOp),(.int .i64 zD.fX.fA),(.int .i64 zD.fX.fB),(.int .i64 zD.fX.fC),(.slice z5T zD.fMem.length z5U),(.int .u8 zD.fAct.fKind),(.int .i64 zD.fAct.fA),(.int .i64 zD.fAct.fB),(.slice z5V zD.fAct.fData.length z5W)]]) (env:=[(0,(.pointer (some ⟨z3u,0,none⟩)))]) Tryd.func93 rfl Tryd.ntmps93 rfl (hown) rfl ?_
 obtain ⟨zaR,zev,h⟩:=zi h
 refine WC.a (WL.pu rfl ?_)
 refine WL.yl (dd:=3) rfl rfl rfl (zK (l:=[.tmp 2,.const (.int .u8 6),.const (.slice none 0 0)]) Tryd.call110 (.cons rfl (.cons rfl (.cons rfl .nil)))) (.cons .here .nil) (cc hz (.cons .here .nil) fun w pz ho=>yo _ _ _ _ _ _ _ _ _ _ _ _ zev w pz zet zeu (ZS.nil _ _ _) ho) ?_
 rintro zew zex zey zez ⟨zeA,zeB⟩
 refine WL.nil ?_
 obtain rfl:=Option.some.inj h
 refine WX.yf Tryd.results93 .nil (fun w hw=>?_)
 exact ⟨zew,zex,zey,zez,y15,⟨zeA,zeB⟩,hw.sub (.cons .here .nil)⟩
def y1t (zE : Sproc_execution) : Option Sproc_execution :=
 (y8 zE 7 []).bind fun zaW=>some zaW
set_option maxRecDepth 20000 in
theorem y3D (Z : Zp) (z3v : Nat) (z5X : Option Addr) (z5Y : Nat) (z5Z : Option Addr) (z60 : Nat) (zE : Sproc_execution) (r : Sproc_execution)
  (h : y1t zE = some r) (w₀ : World) (hz : PZ (fps [stb z3v 65 [(.int .i64 zE.fState.fPc),(.int .i64 zE.fState.fLeft),(.int .u8 zE.fState.fRegs.a0),(.int .u8 zE.fState.fRegs.a1),(.int .u8 zE.fState.fRegs.a2),(.int .u8 zE.fState.fRegs.a3),(.int .u8 zE.fX.fOp),(.int .i64 zE.fX.fA),(.int .i64 zE.fX.fB),(.int .i64 zE.fX.fC),(.slice z5X zE.fMem.length z5Y),(.int .u8 zE.fAct.fKind),(.int .i64 zE.fAct.fA),(.int .i64 zE.fAct.fB),(.slice z5Z zE.fAct.fData.length z60)]]) w₀ Z)
  (zeC : ZS Z 1 (fun r x=>r = e5 x) z5X z5Y zE.fMem)
  (zeD : ZS Z 1 (fun r x=>r = e5 x) z5Z z60 zE.fAct.fData)
  (hown : Hp (fps [stb z3v 65 [(.int .i64 zE.fState.fPc),(.int .i64 zE.fState.fLeft),(.int .u8 zE.fState.fRegs.a0),(.int .u8 zE.fState.fRegs.a1),(.int .u8 zE.fState.fRegs.a2),(.int .u8 zE.fState.fRegs.a3),(.int .u8 zE.fX.fOp),(.int .i64 zE.fX.fA),(.int .i64 zE.fX.fB),(.int .i64 zE.fX.fC),(.slice z5X zE.fMem.length z5Y),(.int .u8 zE.fAct.fKind),(.int .i64 zE.fAct.fA),(.int .i64 zE.fAct.fB),(.slice z5Z zE.fAct.fData.length z60)]]) w₀ w₀ [stb z3v 65 [(.int .i64 zE.fState.fPc),(.int .i64 zE.fState.fLeft),(.int .u8 zE.fState.fRegs.a0),(.int .u8 zE.fState.fRegs.a1),(.int .u8 zE.fState.fRegs.a2),(.int .u8 zE.fState.fRegs.a3),(.int .u8 zE.fX.fOp),(.int .i64 zE.fX.fA),(.int .i64 zE.fX.fB),(.int .i64 zE.fX.fC),(.slice z5X zE.fMem.length z5Y),(.int .u8 zE.fAct.fKind),(.int .i64 zE.fAct.fA),(.int .i64 zE.fAct.fB),(.slice z5Z zE.fAct.fData.length z60)]]) :
  Calls Tryd.prog 94 #[(.pointer (some ⟨z3v,0,none⟩))] w₀ fun e w'=>∃ zaX : Option Addr,∃ zaY : Nat,∃ zaZ : Option Addr,∃ zb0 : Nat,e = .returned (.tuple #[]) ∧ ((ZS Z 1 (fun r x=>r = e5 x) zaX zaY r.fMem) ∧ (ZS Z 1 (fun r x=>r = e5 x) zaZ zb0 r.fAct.fData)) ∧ Hp (fps [stb z3v 65 [(.int .i64 zE.fState.fPc),(.int .i64 zE.fState.fLeft),(.int .u8 zE.fState.fRegs.a0),(.int .u8 zE.fState.fRegs.a1),(.int .u8 zE.fState.fRegs.a2),(.int .u8 zE.fState.fRegs.a3),(.int .u8 zE.fX.fOp),(.int .i64 zE.fX.fA),(.int .i64 zE.fX.fB),(.int .i64 zE.fX.fC),(.slice z5X zE.fMem.length z5Y),(.int .u8 zE.fAct.fKind),(.int .i64 zE.fAct.fA),(.int .i64 zE.fAct.fB),(.slice z5Z zE.fAct.fData.length z60)]]) w₀ w' [stb z3v 65 [(.int .i64 r.fState.fPc),(.int .i64 r.fState.fLeft),(.int .u8 r.fState.fRegs.a0),(.int .u8 r.fState.fRegs.a1),(.int .u8 r.fState.fRegs.a2),(.int .u8 r.fState.fRegs.a3),(.int .u8 r.fX.fOp),(.int .i64 r.fX.fA),(.int .i64 r.fX.fB),(.int .i64 r.fX.fC),(.slice zaX r.fMem.length zaY),(.int .u8 r.fAct.fKind),(.int .i64 r.fAct.fA),(.int .i64 r.fAct.fB),(.slice zaZ r.fAct.fData.length zb0)]]:=by
 unfold y1t at h
 refine Calls.y9 (vs:=[(.pointer (some ⟨z3v,0,none⟩))]) (pre:=[stb z3v 65 [(.int .i64 zE.fState.fPc),(.int .i64 zE.fState.fLeft),(.int .u8 zE.fState.fRegs.a0),(.int .u8 zE.fState.fRegs.a1),(.int .u8 zE.fState.fRegs.a2),(.int .u8 zE.fState.fRegs.a3),(.int .u8 zE.fX.fOp),(.int .i64 zE.fX.fA),(.int .i64 zE.fX.fB),(.int .i64 zE.fX.fC),(.slice z5X zE.fMem.length z5Y),(.int .u8 zE.fAct.fKind),(.int .i64 zE.fAct.fA),(.int .i64 zE.fAct.fB),(.slice z5Z zE.fAct.fData.length z60)]]) (env:=[(0,(.pointer (some ⟨z3v,0,none⟩)))]) Tryd.func94 rfl Tryd.ntmps94 rfl (hown) rfl ?_
 obtain ⟨zaW,zeE,h⟩:=zi h
 refine WC.a (WL.pu rfl ?_)
 refine WL.yl (dd:=3) rfl rfl rfl (zK (l:=[.tmp 2,.const (.int .u8 7),.const (.slice none 0 0)]) Tryd.call110 (.cons rfl (.cons rfl (.cons rfl .nil)))) (.cons .here .nil) (cc hz (.cons .here .nil) fun w pz ho=>yo _ _ _ _ _ _ _ _ _ _ _ _ zeE w pz zeC zeD (ZS.nil _ _ _) ho) ?_
 rintro zeF zeG zeH zeI ⟨zeJ,zeK⟩
 refine WL.nil ?_
 obtain rfl:=Option.some.inj h
 refine WX.yf Tryd.results94 .nil (fun w hw=>?_)
 exact ⟨zeF,zeG,zeH,zeI,y15,⟨zeJ,zeK⟩,hw.sub (.cons .here .nil)⟩
def y1u (zF : Sproc_execution) : Option Sproc_execution :=
 (y8 zF 8 []).bind fun zb1=>some zb1
set_option maxRecDepth 20000 in
theorem y3E (Z : Zp) (z3w : Nat) (z61 : Option Addr) (z62 : Nat) (z63 : Option Addr) (z64 : Nat) (zF : Sproc_execution) (r : Sproc_execution)
  (h : y1u zF = some r) (w₀ : World) (hz : PZ (fps [stb z3w 65 [(.int .i64 zF.fState.fPc),(.int .i64 zF.fState.fLeft),(.int .u8 zF.fState.fRegs.a0),(.int .u8 zF.fState.fRegs.a1),(.int .u8 zF.fState.fRegs.a2),(.int .u8 zF.fState.fRegs.a3),(.int .u8 zF.fX.fOp),(.int .i64 zF.fX.fA),(.int .i64 zF.fX.fB),(.int .i64 zF.fX.fC),(.slice z61 zF.fMem.length z62),(.int .u8 zF.fAct.fKind),(.int .i64 zF.fAct.fA),(.int .i64 zF.fAct.fB),(.slice z63 zF.fAct.fData.length z64)]]) w₀ Z)
  (zeL : ZS Z 1 (fun r x=>r = e5 x) z61 z62 zF.fMem)
  (zeM : ZS Z 1 (fun r x=>r = e5 x) z63 z64 zF.fAct.fData)
  (hown : Hp (fps [stb z3w 65 [(.int .i64 zF.fState.fPc),(.int .i64 zF.fState.fLeft),(.int .u8 zF.fState.fRegs.a0),(.int .u8 zF.fState.fRegs.a1),(.int .u8 zF.fState.fRegs.a2),(.int .u8 zF.fState.fRegs.a3),(.int .u8 zF.fX.fOp),(.int .i64 zF.fX.fA),(.int .i64 zF.fX.fB),(.int .i64 zF.fX.fC),(.slice z61 zF.fMem.length z62),(.int .u8 zF.fAct.fKind),(.int .i64 zF.fAct.fA),(.int .i64 zF.fAct.fB),(.slice z63 zF.fAct.fData.length z64)]]) w₀ w₀ [stb z3w 65 [(.int .i64 zF.fState.fPc),(.int .i64 zF.fState.fLeft),(.int .u8 zF.fState.fRegs.a0),(.int .u8 zF.fState.fRegs.a1),(.int .u8 zF.fState.fRegs.a2),(.int .u8 zF.fState.fRegs.a3),(.int .u8 zF.fX.fOp),(.int .i64 zF.fX.fA),(.int .i64 zF.fX.fB),(.int .i64 zF.fX.fC),(.slice z61 zF.fMem.length z62),(.int .u8 zF.fAct.fKind),(.int .i64 zF.fAct.fA),(.int .i64 zF.fAct.fB),(.slice z63 zF.fAct.fData.length z64)]]) :
  Calls Tryd.prog 95 #[(.pointer (some ⟨z3w,0,none⟩))] w₀ fun e w'=>∃ zb2 : Option Addr,∃ zb3 : Nat,∃ zb4 : Option Addr,∃ zb5 : Nat,e = .returned (.tuple #[]) ∧ ((ZS Z 1 (fun r x=>r = e5 x) zb2 zb3 r.fMem) ∧ (ZS Z 1 (fun r x=>r = e5 x) zb4 zb5 r.fAct.fData)) ∧ Hp (fps [stb z3w 65 [(.int .i64 zF.fState.fPc),(.int .i64 zF.fState.fLeft),(.int .u8 zF.fState.fRegs.a0),(.int .u8 zF.fState.fRegs.a1),(.int .u8 zF.fState.fRegs.a2),(.int .u8 zF.fState.fRegs.a3),(.int .u8 zF.fX.fOp),(.int .i64 zF.fX.fA),(.int .i64 zF.fX.fB),(.int .i64 zF.fX.fC),(.slice z61 zF.fMem.length z62),(.int .u8 zF.fAct.fKind),(.int .i64 zF.fAct.fA),(.int .i64 zF.fAct.fB),(.slice z63 zF.fAct.fData.length z64)]]) w₀ w' [stb z3w 65 [(.int .i64 r.fState.fPc),(.int .i64 r.fState.fLeft),(.int .u8 r.fState.fRegs.a0),(.int .u8 r.fState.fRegs.a1),(.int .u8 r.fState.fRegs.a2),(.int .u8 r.fState.fRegs.a3),(.int .u8 r.fX.fOp),(.int .i64 r.fX.fA),(.int .i64 r.fX.fB),(.int .i64 r.fX.fC),(.slice zb2 r.fMem.length zb3),(.int .u8 r.fAct.fKind),(.int .i64 r.fAct.fA),(.int .i64 r.fAct.fB),(.slice zb4 r.fAct.fData.length zb5)]]:=by
 unfold y1u at h
 refine Calls.y9 (vs:=[(.pointer (some ⟨z3w,0,none⟩))]) (pre:=[stb z3w 65 [(.int .i64 zF.fState.fPc),(.int .i64 zF.fState.fLeft),(.int .u8 zF.fState.fRegs.a0),(.int .u8 zF.fState.fRegs.a1),(.int .u8 zF.fState.fRegs.a2),(.int .u8 zF.fState.fRegs.a3),(.int .u8 zF.fX.fOp),(.int .i64 zF.fX.fA),(.int .i64 zF.fX.fB),(.int .i64 zF.fX.fC),(.slice z61 zF.fMem.length z62),(.int .u8 zF.fAct.fKind),(.int .i64 zF.fAct.fA),(.int .i64 zF.fAct.fB),(.slice z63 zF.fAct.fData.length z64)]]) (env:=[(0,(.pointer (some ⟨z3w,0,none⟩)))]) Tryd.func95 rfl Tryd.ntmps95 rfl (hown) rfl ?_
 obtain ⟨zb1,zeN,h⟩:=zi h
 refine WC.a (WL.pu rfl ?_)
 refine WL.yl (dd:=3) rfl rfl rfl (zK (l:=[.tmp 2,.const (.int .u8 8),.const (.slice none 0 0)]) Tryd.call110 (.cons rfl (.cons rfl (.cons rfl .nil)))) (.cons .here .nil) (cc hz (.cons .here .nil) fun w pz ho=>yo _ _ _ _ _ _ _ _ _ _ _ _ zeN w pz zeL zeM (ZS.nil _ _ _) ho) ?_
 rintro zeO zeP zeQ zeR ⟨zeS,zeT⟩
 refine WL.nil ?_
 obtain rfl:=Option.some.inj h
 refine WX.yf Tryd.results95 .nil (fun w hw=>?_)
 exact ⟨zeO,zeP,zeQ,zeR,y15,⟨zeS,zeT⟩,hw.sub (.cons .here .nil)⟩
def y1S (zj : Sproc_execution) : Option Sproc_execution :=
 (yc zj zj.fX.fB).bind fun zeU=>chk ((0 : Int) ≤ zj.fX.fB ∧ zj.fX.fB < 4) ((y8 zj 9 ([nth ([zj.fState.fRegs.a0,zj.fState.fRegs.a1,zj.fState.fRegs.a2,zj.fState.fRegs.a3] : List Int) zj.fX.fB] : List Int)).bind fun zb6=>some zb6)
set_option maxRecDepth 20000 in
theorem y4g (Z : Zp) (z3x : Nat) (z65 : Option Addr) (z66 : Nat) (z67 : Option Addr) (z68 : Nat) (zj : Sproc_execution) (r : Sproc_execution)
  (h : y1S zj = some r) (w₀ : World) (hz : PZ (fps [stb z3x 65 [(.int .i64 zj.fState.fPc),(.int .i64 zj.fState.fLeft),(.int .u8 zj.fState.fRegs.a0),(.int .u8 zj.fState.fRegs.a1),(.int .u8 zj.fState.fRegs.a2),(.int .u8 zj.fState.fRegs.a3),(.int .u8 zj.fX.fOp),(.int .i64 zj.fX.fA),(.int .i64 zj.fX.fB),(.int .i64 zj.fX.fC),(.slice z65 zj.fMem.length z66),(.int .u8 zj.fAct.fKind),(.int .i64 zj.fAct.fA),(.int .i64 zj.fAct.fB),(.slice z67 zj.fAct.fData.length z68)]]) w₀ Z)
  (zb7 : ZS Z 1 (fun r x=>r = e5 x) z65 z66 zj.fMem)
  (zb8 : ZS Z 1 (fun r x=>r = e5 x) z67 z68 zj.fAct.fData)
  (hown : Hp (fps [stb z3x 65 [(.int .i64 zj.fState.fPc),(.int .i64 zj.fState.fLeft),(.int .u8 zj.fState.fRegs.a0),(.int .u8 zj.fState.fRegs.a1),(.int .u8 zj.fState.fRegs.a2),(.int .u8 zj.fState.fRegs.a3),(.int .u8 zj.fX.fOp),(.int .i64 zj.fX.fA),(.int .i64 zj.fX.fB),(.int .i64 zj.fX.fC),(.slice z65 zj.fMem.length z66),(.int .u8 zj.fAct.fKind),(.int .i64 zj.fAct.fA),(.int .i64 zj.fAct.fB),(.slice z67 zj.fAct.fData.length z68)]]) w₀ w₀ [stb z3x 65 [(.int .i64 zj.fState.fPc),(.int .i64 zj.fState.fLeft),(.int .u8 zj.fState.fRegs.a0),(.int .u8 zj.fState.fRegs.a1),(.int .u8 zj.fState.fRegs.a2),(.int .u8 zj.fState.fRegs.a3),(.int .u8 zj.fX.fOp),(.int .i64 zj.fX.fA),(.int .i64 zj.fX.fB),(.int .i64 zj.fX.fC),(.slice z65 zj.fMem.length z66),(.int .u8 zj.fAct.fKind),(.int .i64 zj.fAct.fA),(.int .i64 zj.fAct.fB),(.slice z67 zj.fAct.fData.length z68)]]) :
  Calls Tryd.prog 96 #[(.pointer (some ⟨z3x,0,none⟩))] w₀ fun e w'=>∃ Zn : Zp,∃ zb9 : Option Addr,∃ zba : Nat,∃ zbb : Option Addr,∃ zbc : Nat,e = .returned (.tuple #[]) ∧ ((ZS (Z ++ Zn) 1 (fun r x=>r = e5 x) zb9 zba r.fMem) ∧ (ZS (Z ++ Zn) 1 (fun r x=>r = e5 x) zbb zbc r.fAct.fData)) ∧ Hp (fps [stb z3x 65 [(.int .i64 zj.fState.fPc),(.int .i64 zj.fState.fLeft),(.int .u8 zj.fState.fRegs.a0),(.int .u8 zj.fState.fRegs.a1),(.int .u8 zj.fState.fRegs.a2),(.int .u8 zj.fState.fRegs.a3),(.int .u8 zj.fX.fOp),(.int .i64 zj.fX.fA),(.int .i64 zj.fX.fB),(.int .i64 zj.fX.fC),(.slice z65 zj.fMem.length z66),(.int .u8 zj.fAct.fKind),(.int .i64 zj.fAct.fA),(.int .i64 zj.fAct.fB),(.slice z67 zj.fAct.fData.length z68)]]) w₀ w' [fz Zn,stb z3x 65 [(.int .i64 r.fState.fPc),(.int .i64 r.fState.fLeft),(.int .u8 r.fState.fRegs.a0),(.int .u8 r.fState.fRegs.a1),(.int .u8 r.fState.fRegs.a2),(.int .u8 r.fState.fRegs.a3),(.int .u8 r.fX.fOp),(.int .i64 r.fX.fA),(.int .i64 r.fX.fB),(.int .i64 r.fX.fC),(.slice zb9 r.fMem.length zba),(.int .u8 r.fAct.fKind),(.int .i64 r.fAct.fA),(.int .i64 r.fAct.fB),(.slice zbb r.fAct.fData.length zbc)]]:=by
 unfold y1S at h
 refine Calls.y9 (vs:=[(.pointer (some ⟨z3x,0,none⟩))]) (pre:=[stb z3x 65 [(.int .i64 zj.fState.fPc),(.int .i64 zj.fState.fLeft),(.int .u8 zj.fState.fRegs.a0),(.int .u8 zj.fState.fRegs.a1),(.int .u8 zj.fState.fRegs.a2),(.int .u8 zj.fState.fRegs.a3),(.int .u8 zj.fX.fOp),(.int .i64 zj.fX.fA),(.int .i64 zj.fX.fB),(.int .i64 zj.fX.fC),(.slice z65 zj.fMem.length z66),(.int .u8 zj.fAct.fKind),(.int .i64 zj.fAct.fA),(.int .i64 zj.fAct.fB),(.slice z67 zj.fAct.fData.length z68)]]) (env:=[(0,(.pointer (some ⟨z3x,0,none⟩)))]) Tryd.func96 rfl Tryd.ntmps96 rfl (hown) rfl ?_
 refine WC.pool ?_
 obtain ⟨zeU,zeV,h⟩:=zi h
 obtain ⟨zeW,h⟩:=yb h
 obtain ⟨zb6,zeX,h⟩:=zi h
 refine WC.a (WL.pu rfl (WL.pu rfl (WL.pu rfl ?_)))
 refine WL.a (d:=5) rfl rfl rfl (y7 rfl) ?_
 refine WL.a (d:=6) rfl rfl rfl (y4 yE rfl rfl) ?_
 refine WL.a (d:=7) rfl rfl rfl (y4 y22 rfl rfl) ?_
 refine WL.a (d:=8) rfl rfl rfl (y6 ye rfl (ya .h1 rfl)) ?_
 refine WL.b (dd:=9) rfl rfl rfl (zK (l:=[.tmp 3,.tmp 8]) Tryd.call108 (.cons rfl (.cons rfl .nil))) .nil (y2f hz .nil .here (.cons .h1 .nil) fun w pz ho la=>yh _ _ _ _ _ _ _ _ _ zeV w pz ((zb7.mono (Zle.left _ _)).mono (Zle.left _ _)) ((zb8.mono (Zle.left _ _)).mono (Zle.left _ _)) ((la _ (.head _) _).stb)) ?_
 refine WL.a (d:=10) rfl rfl rfl (y7 rfl) ?_
 refine WL.a (d:=11) rfl rfl rfl (y6 yx rfl (y1x (l:=([zj.fState.fRegs.a0,zj.fState.fRegs.a1,zj.fState.fRegs.a2,zj.fState.fRegs.a3] : List Int)) (f:=Value.int .u8) (k:=2) (m:=6) .h1 rfl rfl zeW)) ?_
 refine WL.new (dd:=12) rfl rfl rfl (yp (cs:=([nth ([zj.fState.fRegs.a0,zj.fState.fRegs.a1,zj.fState.fRegs.a2,zj.fState.fRegs.a3] : List Int) zj.fX.fB] : List Int).flatMap e5) y1W (Eos.parts (l:=[.tmp 11]) (.cons rfl .nil) [0]) (fun _=>by kernel_rfl) rfl (by unfold maxLen; omega)) ?_
 intro zmv _
 refine WL.freezeS (ls:=([nth ([zj.fState.fRegs.a0,zj.fState.fRegs.a1,zj.fState.fRegs.a2,zj.fState.fRegs.a3] : List Int) zj.fX.fB] : List Int)) .here .here hz (RR.yI (enc:=e5) (fun _=>rfl) _) ?_
 intro zeY zbd zeZ
 refine WL.yl (dd:=13) rfl rfl rfl (zK (l:=[.tmp 2,.const (.int .u8 9),.tmp 12]) Tryd.call110 (.cons rfl (.cons rfl (.cons rfl .nil)))) (.cons .h1 .nil) (ccz hz (.cons .h1 .nil) .here fun w pz ho=>yo _ _ _ _ _ _ _ _ _ _ _ _ zeX w pz (zb7.mono ((Zle.left _ _).trans zbd)) (zb8.mono ((Zle.left _ _).trans zbd)) zeZ ho) ?_
 rintro zf0 zf1 zf2 zf3 ⟨zf4,zf5⟩
 refine WL.nil ?_
 obtain rfl:=Option.some.inj h
 refine WX.yf Tryd.results96 .nil (fun w hw=>?_)
 exact ⟨zeY,zf0,zf1,zf2,zf3,y15,⟨zf4,zf5⟩,hw.sub (.cons .h1 (.cons .here .nil))⟩
def y1T (zG : Sproc_execution) : Option Sproc_execution :=
 (y8 zG 10 []).bind fun zbe=>some zbe
set_option maxRecDepth 20000 in
theorem y4h (Z : Zp) (z3y : Nat) (z69 : Option Addr) (z6a : Nat) (z6b : Option Addr) (z6c : Nat) (zG : Sproc_execution) (r : Sproc_execution)
  (h : y1T zG = some r) (w₀ : World) (hz : PZ (fps [stb z3y 65 [(.int .i64 zG.fState.fPc),(.int .i64 zG.fState.fLeft),(.int .u8 zG.fState.fRegs.a0),(.int .u8 zG.fState.fRegs.a1),(.int .u8 zG.fState.fRegs.a2),(.int .u8 zG.fState.fRegs.a3),(.int .u8 zG.fX.fOp),(.int .i64 zG.fX.fA),(.int .i64 zG.fX.fB),(.int .i64 zG.fX.fC),(.slice z69 zG.fMem.length z6a),(.int .u8 zG.fAct.fKind),(.int .i64 zG.fAct.fA),(.int .i64 zG.fAct.fB),(.slice z6b zG.fAct.fData.length z6c)]]) w₀ Z)
  (zf6 : ZS Z 1 (fun r x=>r = e5 x) z69 z6a zG.fMem)
  (zf7 : ZS Z 1 (fun r x=>r = e5 x) z6b z6c zG.fAct.fData)
  (hown : Hp (fps [stb z3y 65 [(.int .i64 zG.fState.fPc),(.int .i64 zG.fState.fLeft),(.int .u8 zG.fState.fRegs.a0),(.int .u8 zG.fState.fRegs.a1),(.int .u8 zG.fState.fRegs.a2),(.int .u8 zG.fState.fRegs.a3),(.int .u8 zG.fX.fOp),(.int .i64 zG.fX.fA),(.int .i64 zG.fX.fB),(.int .i64 zG.fX.fC),(.slice z69 zG.fMem.length z6a),(.int .u8 zG.fAct.fKind),(.int .i64 zG.fAct.fA),(.int .i64 zG.fAct.fB),(.slice z6b zG.fAct.fData.length z6c)]]) w₀ w₀ [stb z3y 65 [(.int .i64 zG.fState.fPc),(.int .i64 zG.fState.fLeft),(.int .u8 zG.fState.fRegs.a0),(.int .u8 zG.fState.fRegs.a1),(.int .u8 zG.fState.fRegs.a2),(.int .u8 zG.fState.fRegs.a3),(.int .u8 zG.fX.fOp),(.int .i64 zG.fX.fA),(.int .i64 zG.fX.fB),(.int .i64 zG.fX.fC),(.slice z69 zG.fMem.length z6a),(.int .u8 zG.fAct.fKind),(.int .i64 zG.fAct.fA),(.int .i64 zG.fAct.fB),(.slice z6b zG.fAct.fData.length z6c)]]) :
  Calls Tryd.prog 97 #[(.pointer (some ⟨z3y,0,none⟩))] w₀ fun e w'=>∃ zbf : Option Addr,∃ zbg : Nat,∃ zbh : Option Addr,∃ zbi : Nat,e = .returned (.tuple #[]) ∧ ((ZS Z 1 (fun r x=>r = e5 x) zbf zbg r.fMem) ∧ (ZS Z 1 (fun r x=>r = e5 x) zbh zbi r.fAct.fData)) ∧ Hp (fps [stb z3y 65 [(.int .i64 zG.fState.fPc),(.int .i64 zG.fState.fLeft),(.int .u8 zG.fState.fRegs.a0),(.int .u8 zG.fState.fRegs.a1),(.int .u8 zG.fState.fRegs.a2),(.int .u8 zG.fState.fRegs.a3),(.int .u8 zG.fX.fOp),(.int .i64 zG.fX.fA),(.int .i64 zG.fX.fB),(.int .i64 zG.fX.fC),(.slice z69 zG.fMem.length z6a),(.int .u8 zG.fAct.fKind),(.int .i64 zG.fAct.fA),(.int .i64 zG.fAct.fB),(.slice z6b zG.fAct.fData.length z6c)]]) w₀ w' [stb z3y 65 [(.int .i64 r.fState.fPc),(.int .i64 r.fState.fLeft),(.int .u8 r.fState.fRegs.a0),(.int .u8 r.fState.fRegs.a1),(.int .u8 r.fState.fRegs.a2),(.int .u8 r.fState.fRegs.a3),(.int .u8 r.fX.fOp),(.int .i64 r.fX.fA),(.int .i64 r.fX.fB),(.int .i64 r.fX.fC),(.slice zbf r.fMem.length zbg),(.int .u8 r.fAct.fKind),(.int .i64 r.fAct.fA),(.int .i64 r.fAct.fB),(.slice zbh r.fAct.fData.length zbi)]]:=by
 unfold y1T at h
 refine Calls.y9 (vs:=[(.pointer (some ⟨z3y,0,none⟩))]) (pre:=[stb z3y 65 [(.int .i64 zG.fState.fPc),(.int .i64 zG.fState.fLeft),(.int .u8 zG.fState.fRegs.a0),(.int .u8 zG.fState.fRegs.a1),(.int .u8 zG.fState.fRegs.a2),(.int .u8 zG.fState.fRegs.a3),(.int .u8 zG.fX.fOp),(.int .i64 zG.fX.fA),(.int .i64 zG.fX.fB),(.int .i64 zG.fX.fC),(.slice z69 zG.fMem.length z6a),(.int .u8 zG.fAct.fKind),(.int .i64 zG.fAct.fA),(.int .i64 zG.fAct.fB),(.slice z6b zG.fAct.fData.length z6c)]]) (env:=[(0,(.pointer (some ⟨z3y,0,none⟩)))]) Tryd.func97 rfl Tryd.ntmps97 rfl (hown) rfl ?_
 obtain ⟨zbe,zf8,h⟩:=zi h
 refine WC.a (WL.pu rfl ?_)
 refine WL.yl (dd:=3) rfl rfl rfl (zK (l:=[.tmp 2,.const (.int .u8 10),.const (.slice none 0 0)]) Tryd.call110 (.cons rfl (.cons rfl (.cons rfl .nil)))) (.cons .here .nil) (cc hz (.cons .here .nil) fun w pz ho=>yo _ _ _ _ _ _ _ _ _ _ _ _ zf8 w pz zf6 zf7 (ZS.nil _ _ _) ho) ?_
 rintro zf9 zfa zfb zfc ⟨zfd,zfe⟩
 refine WL.nil ?_
 obtain rfl:=Option.some.inj h
 refine WX.yf Tryd.results97 .nil (fun w hw=>?_)
 exact ⟨zf9,zfa,zfb,zfc,y15,⟨zfd,zfe⟩,hw.sub (.cons .here .nil)⟩
def y1F (zk : Sproc_execution) : Option Sproc_execution :=
 (yc zk zk.fX.fB).bind fun zff=>chk ((0 : Int) ≤ zk.fX.fB ∧ zk.fX.fB < 4) ((y8 zk 11 ([nth ([zk.fState.fRegs.a0,zk.fState.fRegs.a1,zk.fState.fRegs.a2,zk.fState.fRegs.a3] : List Int) zk.fX.fB] : List Int)).bind fun zbj=>some zbj)
set_option maxRecDepth 20000 in
theorem y3T (Z : Zp) (z3z : Nat) (z6d : Option Addr) (z6e : Nat) (z6f : Option Addr) (z6g : Nat) (zk : Sproc_execution) (r : Sproc_execution)
  (h : y1F zk = some r) (w₀ : World) (hz : PZ (fps [stb z3z 65 [(.int .i64 zk.fState.fPc),(.int .i64 zk.fState.fLeft),(.int .u8 zk.fState.fRegs.a0),(.int .u8 zk.fState.fRegs.a1),(.int .u8 zk.fState.fRegs.a2),(.int .u8 zk.fState.fRegs.a3),(.int .u8 zk.fX.fOp),(.int .i64 zk.fX.fA),(.int .i64 zk.fX.fB),(.int .i64 zk.fX.fC),(.slice z6d zk.fMem.length z6e),(.int .u8 zk.fAct.fKind),(.int .i64 zk.fAct.fA),(.int .i64 zk.fAct.fB),(.slice z6f zk.fAct.fData.length z6g)]]) w₀ Z)
  (zbk : ZS Z 1 (fun r x=>r = e5 x) z6d z6e zk.fMem)
  (zbl : ZS Z 1 (fun r x=>r = e5 x) z6f z6g zk.fAct.fData)
  (hown : Hp (fps [stb z3z 65 [(.int .i64 zk.fState.fPc),(.int .i64 zk.fState.fLeft),(.int .u8 zk.fState.fRegs.a0),(.int .u8 zk.fState.fRegs.a1),(.int .u8 zk.fState.fRegs.a2),(.int .u8 zk.fState.fRegs.a3),(.int .u8 zk.fX.fOp),(.int .i64 zk.fX.fA),(.int .i64 zk.fX.fB),(.int .i64 zk.fX.fC),(.slice z6d zk.fMem.length z6e),(.int .u8 zk.fAct.fKind),(.int .i64 zk.fAct.fA),(.int .i64 zk.fAct.fB),(.slice z6f zk.fAct.fData.length z6g)]]) w₀ w₀ [stb z3z 65 [(.int .i64 zk.fState.fPc),(.int .i64 zk.fState.fLeft),(.int .u8 zk.fState.fRegs.a0),(.int .u8 zk.fState.fRegs.a1),(.int .u8 zk.fState.fRegs.a2),(.int .u8 zk.fState.fRegs.a3),(.int .u8 zk.fX.fOp),(.int .i64 zk.fX.fA),(.int .i64 zk.fX.fB),(.int .i64 zk.fX.fC),(.slice z6d zk.fMem.length z6e),(.int .u8 zk.fAct.fKind),(.int .i64 zk.fAct.fA),(.int .i64 zk.fAct.fB),(.slice z6f zk.fAct.fData.length z6g)]]) :
  Calls Tryd.prog 98 #[(.pointer (some ⟨z3z,0,none⟩))] w₀ fun e w'=>∃ Zn : Zp,∃ zbm : Option Addr,∃ zbn : Nat,∃ zbo : Option Addr,∃ zbp : Nat,e = .returned (.tuple #[]) ∧ ((ZS (Z ++ Zn) 1 (fun r x=>r = e5 x) zbm zbn r.fMem) ∧ (ZS (Z ++ Zn) 1 (fun r x=>r = e5 x) zbo zbp r.fAct.fData)) ∧ Hp (fps [stb z3z 65 [(.int .i64 zk.fState.fPc),(.int .i64 zk.fState.fLeft),(.int .u8 zk.fState.fRegs.a0),(.int .u8 zk.fState.fRegs.a1),(.int .u8 zk.fState.fRegs.a2),(.int .u8 zk.fState.fRegs.a3),(.int .u8 zk.fX.fOp),(.int .i64 zk.fX.fA),(.int .i64 zk.fX.fB),(.int .i64 zk.fX.fC),(.slice z6d zk.fMem.length z6e),(.int .u8 zk.fAct.fKind),(.int .i64 zk.fAct.fA),(.int .i64 zk.fAct.fB),(.slice z6f zk.fAct.fData.length z6g)]]) w₀ w' [fz Zn,stb z3z 65 [(.int .i64 r.fState.fPc),(.int .i64 r.fState.fLeft),(.int .u8 r.fState.fRegs.a0),(.int .u8 r.fState.fRegs.a1),(.int .u8 r.fState.fRegs.a2),(.int .u8 r.fState.fRegs.a3),(.int .u8 r.fX.fOp),(.int .i64 r.fX.fA),(.int .i64 r.fX.fB),(.int .i64 r.fX.fC),(.slice zbm r.fMem.length zbn),(.int .u8 r.fAct.fKind),(.int .i64 r.fAct.fA),(.int .i64 r.fAct.fB),(.slice zbo r.fAct.fData.length zbp)]]:=by
 unfold y1F at h
 refine Calls.y9 (vs:=[(.pointer (some ⟨z3z,0,none⟩))]) (pre:=[stb z3z 65 [(.int .i64 zk.fState.fPc),(.int .i64 zk.fState.fLeft),(.int .u8 zk.fState.fRegs.a0),(.int .u8 zk.fState.fRegs.a1),(.int .u8 zk.fState.fRegs.a2),(.int .u8 zk.fState.fRegs.a3),(.int .u8 zk.fX.fOp),(.int .i64 zk.fX.fA),(.int .i64 zk.fX.fB),(.int .i64 zk.fX.fC),(.slice z6d zk.fMem.length z6e),(.int .u8 zk.fAct.fKind),(.int .i64 zk.fAct.fA),(.int .i64 zk.fAct.fB),(.slice z6f zk.fAct.fData.length z6g)]]) (env:=[(0,(.pointer (some ⟨z3z,0,none⟩)))]) Tryd.func98 rfl Tryd.ntmps98 rfl (hown) rfl ?_
 refine WC.pool ?_
 obtain ⟨zff,zfg,h⟩:=zi h
 obtain ⟨zfh,h⟩:=yb h
 obtain ⟨zbj,zfi,h⟩:=zi h
 refine WC.a (WL.pu rfl (WL.pu rfl (WL.pu rfl ?_)))
 refine WL.a (d:=5) rfl rfl rfl (y7 rfl) ?_
 refine WL.a (d:=6) rfl rfl rfl (y4 yE rfl rfl) ?_
 refine WL.a (d:=7) rfl rfl rfl (y4 y22 rfl rfl) ?_
 refine WL.a (d:=8) rfl rfl rfl (y6 ye rfl (ya .h1 rfl)) ?_
 refine WL.b (dd:=9) rfl rfl rfl (zK (l:=[.tmp 3,.tmp 8]) Tryd.call108 (.cons rfl (.cons rfl .nil))) .nil (y2f hz .nil .here (.cons .h1 .nil) fun w pz ho la=>yh _ _ _ _ _ _ _ _ _ zfg w pz ((zbk.mono (Zle.left _ _)).mono (Zle.left _ _)) ((zbl.mono (Zle.left _ _)).mono (Zle.left _ _)) ((la _ (.head _) _).stb)) ?_
 refine WL.a (d:=10) rfl rfl rfl (y7 rfl) ?_
 refine WL.a (d:=11) rfl rfl rfl (y6 yx rfl (y1x (l:=([zk.fState.fRegs.a0,zk.fState.fRegs.a1,zk.fState.fRegs.a2,zk.fState.fRegs.a3] : List Int)) (f:=Value.int .u8) (k:=2) (m:=6) .h1 rfl rfl zfh)) ?_
 refine WL.new (dd:=12) rfl rfl rfl (yp (cs:=([nth ([zk.fState.fRegs.a0,zk.fState.fRegs.a1,zk.fState.fRegs.a2,zk.fState.fRegs.a3] : List Int) zk.fX.fB] : List Int).flatMap e5) y1W (Eos.parts (l:=[.tmp 11]) (.cons rfl .nil) [0]) (fun _=>by kernel_rfl) rfl (by unfold maxLen; omega)) ?_
 intro zmw _
 refine WL.freezeS (ls:=([nth ([zk.fState.fRegs.a0,zk.fState.fRegs.a1,zk.fState.fRegs.a2,zk.fState.fRegs.a3] : List Int) zk.fX.fB] : List Int)) .here .here hz (RR.yI (enc:=e5) (fun _=>rfl) _) ?_
 intro zfj zbq zfk
 refine WL.yl (dd:=13) rfl rfl rfl (zK (l:=[.tmp 2,.const (.int .u8 11),.tmp 12]) Tryd.call110 (.cons rfl (.cons rfl (.cons rfl .nil)))) (.cons .h1 .nil) (ccz hz (.cons .h1 .nil) .here fun w pz ho=>yo _ _ _ _ _ _ _ _ _ _ _ _ zfi w pz (zbk.mono ((Zle.left _ _).trans zbq)) (zbl.mono ((Zle.left _ _).trans zbq)) zfk ho) ?_
 rintro zfl zfm zfn zfo ⟨zfp,zfq⟩
 refine WL.nil ?_
 obtain rfl:=Option.some.inj h
 refine WX.yf Tryd.results98 .nil (fun w hw=>?_)
 exact ⟨zfj,zfl,zfm,zfn,zfo,y15,⟨zfp,zfq⟩,hw.sub (.cons .h1 (.cons .here .nil))⟩
def y1G (zH : Sproc_execution) : Option Sproc_execution :=
 (y8 zH 12 []).bind fun zbr=>some zbr
set_option maxRecDepth 20000 in
theorem y3U (Z : Zp) (z3A : Nat) (z6h : Option Addr) (z6i : Nat) (z6j : Option Addr) (z6k : Nat) (zH : Sproc_execution) (r : Sproc_execution)
  (h : y1G zH = some r) (w₀ : World) (hz : PZ (fps [stb z3A 65 [(.int .i64 zH.fState.fPc),(.int .i64 zH.fState.fLeft),(.int .u8 zH.fState.fRegs.a0),(.int .u8 zH.fState.fRegs.a1),(.int .u8 zH.fState.fRegs.a2),(.int .u8 zH.fState.fRegs.a3),(.int .u8 zH.fX.fOp),(.int .i64 zH.fX.fA),(.int .i64 zH.fX.fB),(.int .i64 zH.fX.fC),(.slice z6h zH.fMem.length z6i),(.int .u8 zH.fAct.fKind),(.int .i64 zH.fAct.fA),(.int .i64 zH.fAct.fB),(.slice z6j zH.fAct.fData.length z6k)]]) w₀ Z)
  (zfr : ZS Z 1 (fun r x=>r = e5 x) z6h z6i zH.fMem)
  (zfs : ZS Z 1 (fun r x=>r = e5 x) z6j z6k zH.fAct.fData)
  (hown : Hp (fps [stb z3A 65 [(.int .i64 zH.fState.fPc),(.int .i64 zH.fState.fLeft),(.int .u8 zH.fState.fRegs.a0),(.int .u8 zH.fState.fRegs.a1),(.int .u8 zH.fState.fRegs.a2),(.int .u8 zH.fState.fRegs.a3),(.int .u8 zH.fX.fOp),(.int .i64 zH.fX.fA),(.int .i64 zH.fX.fB),(.int .i64 zH.fX.fC),(.slice z6h zH.fMem.length z6i),(.int .u8 zH.fAct.fKind),(.int .i64 zH.fAct.fA),(.int .i64 zH.fAct.fB),(.slice z6j zH.fAct.fData.length z6k)]]) w₀ w₀ [stb z3A 65 [(.int .i64 zH.fState.fPc),(.int .i64 zH.fState.fLeft),(.int .u8 zH.fState.fRegs.a0),(.int .u8 zH.fState.fRegs.a1),(.int .u8 zH.fState.fRegs.a2),(.int .u8 zH.fState.fRegs.a3),(.int .u8 zH.fX.fOp),(.int .i64 zH.fX.fA),(.int .i64 zH.fX.fB),(.int .i64 zH.fX.fC),(.slice z6h zH.fMem.length z6i),(.int .u8 zH.fAct.fKind),(.int .i64 zH.fAct.fA),(.int .i64 zH.fAct.fB),(.slice z6j zH.fAct.fData.length z6k)]]) :
  Calls Tryd.prog 99 #[(.pointer (some ⟨z3A,0,none⟩))] w₀ fun e w'=>∃ zbs : Option Addr,∃ zbt : Nat,∃ zbu : Option Addr,∃ zbv : Nat,e = .returned (.tuple #[]) ∧ ((ZS Z 1 (fun r x=>r = e5 x) zbs zbt r.fMem) ∧ (ZS Z 1 (fun r x=>r = e5 x) zbu zbv r.fAct.fData)) ∧ Hp (fps [stb z3A 65 [(.int .i64 zH.fState.fPc),(.int .i64 zH.fState.fLeft),(.int .u8 zH.fState.fRegs.a0),(.int .u8 zH.fState.fRegs.a1),(.int .u8 zH.fState.fRegs.a2),(.int .u8 zH.fState.fRegs.a3),(.int .u8 zH.fX.fOp),(.int .i64 zH.fX.fA),(.int .i64 zH.fX.fB),(.int .i64 zH.fX.fC),(.slice z6h zH.fMem.length z6i),(.int .u8 zH.fAct.fKind),(.int .i64 zH.fAct.fA),(.int .i64 zH.fAct.fB),(.slice z6j zH.fAct.fData.length z6k)]]) w₀ w' [stb z3A 65 [(.int .i64 r.fState.fPc),(.int .i64 r.fState.fLeft),(.int .u8 r.fState.fRegs.a0),(.int .u8 r.fState.fRegs.a1),(.int .u8 r.fState.fRegs.a2),(.int .u8 r.fState.fRegs.a3),(.int .u8 r.fX.fOp),(.int .i64 r.fX.fA),(.int .i64 r.fX.fB),(.int .i64 r.fX.fC),(.slice zbs r.fMem.length zbt),(.int .u8 r.fAct.fKind),(.int .i64 r.fAct.fA),(.int .i64 r.fAct.fB),(.slice zbu r.fAct.fData.length zbv)]]:=by
 unfold y1G at h
 refine Calls.y9 (vs:=[(.pointer (some ⟨z3A,0,none⟩))]) (pre:=[stb z3A 65 [(.int .i64 zH.fState.fPc),(.int .i64 zH.fState.fLeft),(.int .u8 zH.fState.fRegs.a0),(.int .u8 zH.fState.fRegs.a1),(.int .u8 zH.fState.fRegs.a2),(.int .u8 zH.fState.fRegs.a3),(.int .u8 zH.fX.fOp),(.int .i64 zH.fX.fA),(.int .i64 zH.fX.fB),(.int .i64 zH.fX.fC),(.slice z6h zH.fMem.length z6i),(.int .u8 zH.fAct.fKind),(.int .i64 zH.fAct.fA),(.int .i64 zH.fAct.fB),(.slice z6j zH.fAct.fData.length z6k)]]) (env:=[(0,(.pointer (some ⟨z3A,0,none⟩)))]) Tryd.func99 rfl Tryd.ntmps99 rfl (hown) rfl ?_
 obtain ⟨zbr,zft,h⟩:=zi h
 refine WC.a (WL.pu rfl ?_)
 refine WL.yl (dd:=3) rfl rfl rfl (zK (l:=[.tmp 2,.const (.int .u8 12),.const (.slice none 0 0)]) Tryd.call110 (.cons rfl (.cons rfl (.cons rfl .nil)))) (.cons .here .nil) (cc hz (.cons .here .nil) fun w pz ho=>yo _ _ _ _ _ _ _ _ _ _ _ _ zft w pz zfr zfs (ZS.nil _ _ _) ho) ?_
 rintro zfu zfv zfw zfx ⟨zfy,zfz⟩
 refine WL.nil ?_
 obtain rfl:=Option.some.inj h
 refine WX.yf Tryd.results99 .nil (fun w hw=>?_)
 exact ⟨zfu,zfv,zfw,zfx,y15,⟨zfy,zfz⟩,hw.sub (.cons .here .nil)⟩
def y1v (zI : Sproc_execution) : Option Sproc_execution :=
 (y8 zI 13 []).bind fun zbw=>some zbw
set_option maxRecDepth 20000 in
theorem y3F (Z : Zp) (z3B : Nat) (z6l : Option Addr) (z6m : Nat) (z6n : Option Addr) (z6o : Nat) (zI : Sproc_execution) (r : Sproc_execution)
  (h : y1v zI = some r) (w₀ : World) (hz : PZ (fps [stb z3B 65 [(.int .i64 zI.fState.fPc),(.int .i64 zI.fState.fLeft),(.int .u8 zI.fState.fRegs.a0),(.int .u8 zI.fState.fRegs.a1),(.int .u8 zI.fState.fRegs.a2),(.int .u8 zI.fState.fRegs.a3),(.int .u8 zI.fX.fOp),(.int .i64 zI.fX.fA),(.int .i64 zI.fX.fB),(.int .i64 zI.fX.fC),(.slice z6l zI.fMem.length z6m),(.int .u8 zI.fAct.fKind),(.int .i64 zI.fAct.fA),(.int .i64 zI.fAct.fB),(.slice z6n zI.fAct.fData.length z6o)]]) w₀ Z)
  (zfA : ZS Z 1 (fun r x=>r = e5 x) z6l z6m zI.fMem)
  (zfB : ZS Z 1 (fun r x=>r = e5 x) z6n z6o zI.fAct.fData)
  (hown : Hp (fps [stb z3B 65 [(.int .i64 zI.fState.fPc),(.int .i64 zI.fState.fLeft),(.int .u8 zI.fState.fRegs.a0),(.int .u8 zI.fState.fRegs.a1),(.int .u8 zI.fState.fRegs.a2),(.int .u8 zI.fState.fRegs.a3),(.int .u8 zI.fX.fOp),(.int .i64 zI.fX.fA),(.int .i64 zI.fX.fB),(.int .i64 zI.fX.fC),(.slice z6l zI.fMem.length z6m),(.int .u8 zI.fAct.fKind),(.int .i64 zI.fAct.fA),(.int .i64 zI.fAct.fB),(.slice z6n zI.fAct.fData.length z6o)]]) w₀ w₀ [stb z3B 65 [(.int .i64 zI.fState.fPc),(.int .i64 zI.fState.fLeft),(.int .u8 zI.fState.fRegs.a0),(.int .u8 zI.fState.fRegs.a1),(.int .u8 zI.fState.fRegs.a2),(.int .u8 zI.fState.fRegs.a3),(.int .u8 zI.fX.fOp),(.int .i64 zI.fX.fA),(.int .i64 zI.fX.fB),(.int .i64 zI.fX.fC),(.slice z6l zI.fMem.length z6m),(.int .u8 zI.fAct.fKind),(.int .i64 zI.fAct.fA),(.int .i64 zI.fAct.fB),(.slice z6n zI.fAct.fData.length z6o)]]) :
  Calls Tryd.prog 100 #[(.pointer (some ⟨z3B,0,none⟩))] w₀ fun e w'=>∃ zbx : Option Addr,∃ zby : Nat,∃ zbz : Option Addr,∃ zbA : Nat,e = .returned (.tuple #[]) ∧ ((ZS Z 1 (fun r x=>r = e5 x) zbx zby r.fMem) ∧ (ZS Z 1 (fun r x=>r = e5 x) zbz zbA r.fAct.fData)) ∧ Hp (fps [stb z3B 65 [(.int .i64 zI.fState.fPc),(.int .i64 zI.fState.fLeft),(.int .u8 zI.fState.fRegs.a0),(.int .u8 zI.fState.fRegs.a1),(.int .u8 zI.fState.fRegs.a2),(.int .u8 zI.fState.fRegs.a3),(.int .u8 zI.fX.fOp),(.int .i64 zI.fX.fA),(.int .i64 zI.fX.fB),(.int .i64 zI.fX.fC),(.slice z6l zI.fMem.length z6m),(.int .u8 zI.fAct.fKind),(.int .i64 zI.fAct.fA),(.int .i64 zI.fAct.fB),(.slice z6n zI.fAct.fData.length z6o)]]) w₀ w' [stb z3B 65 [(.int .i64 r.fState.fPc),(.int .i64 r.fState.fLeft),(.int .u8 r.fState.fRegs.a0),(.int .u8 r.fState.fRegs.a1),(.int .u8 r.fState.fRegs.a2),(.int .u8 r.fState.fRegs.a3),(.int .u8 r.fX.fOp),(.int .i64 r.fX.fA),(.int .i64 r.fX.fB),(.int .i64 r.fX.fC),(.slice zbx r.fMem.length zby),(.int .u8 r.fAct.fKind),(.int .i64 r.fAct.fA),(.int .i64 r.fAct.fB),(.slice zbz r.fAct.fData.length zbA)]]:=by
 unfold y1v at h
 refine Calls.y9 (vs:=[(.pointer (some ⟨z3B,0,none⟩))]) (pre:=[stb z3B 65 [(.int .i64 zI.fState.fPc),(.int .i64 zI.fState.fLeft),(.int .u8 zI.fState.fRegs.a0),(.int .u8 zI.fState.fRegs.a1),(.int .u8 zI.fState.fRegs.a2),(.int .u8 zI.fState.fRegs.a3),(.int .u8 zI.fX.fOp),(.int .i64 zI.fX.fA),(.int .i64 zI.fX.fB),(.int .i64 zI.fX.fC),(.slice z6l zI.fMem.length z6m),(.int .u8 zI.fAct.fKind),(.int .i64 zI.fAct.fA),(.int .i64 zI.fAct.fB),(.slice z6n zI.fAct.fData.length z6o)]]) (env:=[(0,(.pointer (some ⟨z3B,0,none⟩)))]) Tryd.func100 rfl Tryd.ntmps100 rfl (hown) rfl ?_
 obtain ⟨zbw,zfC,h⟩:=zi h
 refine WC.a (WL.pu rfl ?_)
 refine WL.yl (dd:=3) rfl rfl rfl (zK (l:=[.tmp 2,.const (.int .u8 13),.const (.slice none 0 0)]) Tryd.call110 (.cons rfl (.cons rfl (.cons rfl .nil)))) (.cons .here .nil) (cc hz (.cons .here .nil) fun w pz ho=>yo _ _ _ _ _ _ _ _ _ _ _ _ zfC w pz zfA zfB (ZS.nil _ _ _) ho) ?_
 rintro zfD zfE zfF zfG ⟨zfH,zfI⟩
 refine WL.nil ?_
 obtain rfl:=Option.some.inj h
 refine WX.yf Tryd.results100 .nil (fun w hw=>?_)
 exact ⟨zfD,zfE,zfF,zfG,y15,⟨zfH,zfI⟩,hw.sub (.cons .here .nil)⟩
def y1H (zq : Sproc_execution) : Option Sproc_execution :=
 some (⟨zq.fState,zq.fX,zq.fMem,(⟨14,0,0,([] : List Int)⟩ : Sproc_Act)⟩ : Sproc_execution)
set_option maxRecDepth 20000 in
theorem y3V (Z : Zp) (z3C : Nat) (z4y : Option Addr) (z4z : Nat) (z6p : Option Addr) (z6q : Nat) (zq : Sproc_execution) (r : Sproc_execution)
  (h : y1H zq = some r) (w₀ : World) (hz : PZ (fps [stb z3C 65 [(.int .i64 zq.fState.fPc),(.int .i64 zq.fState.fLeft),(.int .u8 zq.fState.fRegs.a0),(.int .u8 zq.fState.fRegs.a1),(.int .u8 zq.fState.fRegs.a2),(.int .u8 zq.fState.fRegs.a3),(.int .u8 zq.fX.fOp),(.int .i64 zq.fX.fA),(.int .i64 zq.fX.fB),(.int .i64 zq.fX.fC),(.slice z4y zq.fMem.length z4z),(.int .u8 zq.fAct.fKind),(.int .i64 zq.fAct.fA),(.int .i64 zq.fAct.fB),(.slice z6p zq.fAct.fData.length z6q)]]) w₀ Z)
  (zfJ : ZS Z 1 (fun r x=>r = e5 x) z4y z4z zq.fMem)
  (zmx : ZS Z 1 (fun r x=>r = e5 x) z6p z6q zq.fAct.fData)
  (hown : Hp (fps [stb z3C 65 [(.int .i64 zq.fState.fPc),(.int .i64 zq.fState.fLeft),(.int .u8 zq.fState.fRegs.a0),(.int .u8 zq.fState.fRegs.a1),(.int .u8 zq.fState.fRegs.a2),(.int .u8 zq.fState.fRegs.a3),(.int .u8 zq.fX.fOp),(.int .i64 zq.fX.fA),(.int .i64 zq.fX.fB),(.int .i64 zq.fX.fC),(.slice z4y zq.fMem.length z4z),(.int .u8 zq.fAct.fKind),(.int .i64 zq.fAct.fA),(.int .i64 zq.fAct.fB),(.slice z6p zq.fAct.fData.length z6q)]]) w₀ w₀ [stb z3C 65 [(.int .i64 zq.fState.fPc),(.int .i64 zq.fState.fLeft),(.int .u8 zq.fState.fRegs.a0),(.int .u8 zq.fState.fRegs.a1),(.int .u8 zq.fState.fRegs.a2),(.int .u8 zq.fState.fRegs.a3),(.int .u8 zq.fX.fOp),(.int .i64 zq.fX.fA),(.int .i64 zq.fX.fB),(.int .i64 zq.fX.fC),(.slice z4y zq.fMem.length z4z),(.int .u8 zq.fAct.fKind),(.int .i64 zq.fAct.fA),(.int .i64 zq.fAct.fB),(.slice z6p zq.fAct.fData.length z6q)]]) :
  Calls Tryd.prog 101 #[(.pointer (some ⟨z3C,0,none⟩))] w₀ fun e w'=>∃ zbB : Option Addr,∃ zbC : Nat,∃ zbD : Option Addr,∃ zbE : Nat,e = .returned (.tuple #[]) ∧ (ZS Z 1 (fun r x=>r = e5 x) zbB zbC r.fMem) ∧ Hp (fps [stb z3C 65 [(.int .i64 zq.fState.fPc),(.int .i64 zq.fState.fLeft),(.int .u8 zq.fState.fRegs.a0),(.int .u8 zq.fState.fRegs.a1),(.int .u8 zq.fState.fRegs.a2),(.int .u8 zq.fState.fRegs.a3),(.int .u8 zq.fX.fOp),(.int .i64 zq.fX.fA),(.int .i64 zq.fX.fB),(.int .i64 zq.fX.fC),(.slice z4y zq.fMem.length z4z),(.int .u8 zq.fAct.fKind),(.int .i64 zq.fAct.fA),(.int .i64 zq.fAct.fB),(.slice z6p zq.fAct.fData.length z6q)]]) w₀ w' [stb z3C 65 [(.int .i64 r.fState.fPc),(.int .i64 r.fState.fLeft),(.int .u8 r.fState.fRegs.a0),(.int .u8 r.fState.fRegs.a1),(.int .u8 r.fState.fRegs.a2),(.int .u8 r.fState.fRegs.a3),(.int .u8 r.fX.fOp),(.int .i64 r.fX.fA),(.int .i64 r.fX.fB),(.int .i64 r.fX.fC),(.slice zbB r.fMem.length zbC),(.int .u8 r.fAct.fKind),(.int .i64 r.fAct.fA),(.int .i64 r.fAct.fB),(.slice zbD r.fAct.fData.length zbE)],row (.slice zbD r.fAct.fData.length zbE) 5 1 (r.fAct.fData.flatMap e5)]:=by
 unfold y1H at h
 refine Calls.y9 (vs:=[(.pointer (some ⟨z3C,0,none⟩))]) (pre:=[stb z3C 65 [(.int .i64 zq.fState.fPc),(.int .i64 zq.fState.fLeft),(.int .u8 zq.fState.fRegs.a0),(.int .u8 zq.fState.fRegs.a1),(.int .u8 zq.fState.fRegs.a2),(.int .u8 zq.fState.fRegs.a3),(.int .u8 zq.fX.fOp),(.int .i64 zq.fX.fA),(.int .i64 zq.fX.fB),(.int .i64 zq.fX.fC),(.slice z4y zq.fMem.length z4z),(.int .u8 zq.fAct.fKind),(.int .i64 zq.fAct.fA),(.int .i64 zq.fAct.fB),(.slice z6p zq.fAct.fData.length z6q)]]) (env:=[(0,(.pointer (some ⟨z3C,0,none⟩)))]) Tryd.func101 rfl Tryd.ntmps101 rfl (hown) rfl ?_
 refine WC.a (WL.pu rfl ?_)
 refine WL.a (d:=3) rfl rfl rfl (y13 (v:=(.agg #[(.int .u8 14),(.int .i64 0),(.int .i64 0),(.slice none 0 0)])) (Eos.parts (l:=[.const (.int .u8 14)]) (.cons rfl .nil) [0]) (fun _=>by kernel_rfl)) ?_
 refine WL.a (d:=4) rfl rfl rfl (y7 rfl) ?_
 refine WL.a (d:=5) rfl rfl rfl (y4 y3h rfl rfl) ?_
 refine WL.yk rfl rfl (y1n (ds:=[(.int .i64 zq.fState.fPc),(.int .i64 zq.fState.fLeft),(.int .u8 zq.fState.fRegs.a0),(.int .u8 zq.fState.fRegs.a1),(.int .u8 zq.fState.fRegs.a2),(.int .u8 zq.fState.fRegs.a3),(.int .u8 zq.fX.fOp),(.int .i64 zq.fX.fA),(.int .i64 zq.fX.fB),(.int .i64 zq.fX.fC),(.slice z4y zq.fMem.length z4z),(.int .u8 14),(.int .i64 0),(.int .i64 0),(.slice none 0 0)]) y1z rfl rfl rfl rfl rfl .here rfl rfl) ?_
 refine WL.nil ?_
 refine WX.nilRow 5 1 ?_
 obtain rfl:=Option.some.inj h
 refine WX.yf Tryd.results101 .nil (fun w hw=>?_)
 exact ⟨z4y,z4z,none,0,y15,zfJ,hw.sub (.cons .h1 (.cons .here .nil))⟩
def y1I (zm : Sproc_execution) : Option Sproc_execution :=
 some (⟨(⟨zm.fX.fA,zm.fState.fLeft,zm.fState.fRegs⟩ : Sproc_State),zm.fX,zm.fMem,zm.fAct⟩ : Sproc_execution)
set_option maxRecDepth 20000 in
theorem y3W (Z : Zp) (z3D : Nat) (z4A : Option Addr) (z4B : Nat) (z4C : Option Addr) (z4D : Nat) (zm : Sproc_execution) (r : Sproc_execution)
  (h : y1I zm = some r) (w₀ : World) (hz : PZ (fps [stb z3D 65 [(.int .i64 zm.fState.fPc),(.int .i64 zm.fState.fLeft),(.int .u8 zm.fState.fRegs.a0),(.int .u8 zm.fState.fRegs.a1),(.int .u8 zm.fState.fRegs.a2),(.int .u8 zm.fState.fRegs.a3),(.int .u8 zm.fX.fOp),(.int .i64 zm.fX.fA),(.int .i64 zm.fX.fB),(.int .i64 zm.fX.fC),(.slice z4A zm.fMem.length z4B),(.int .u8 zm.fAct.fKind),(.int .i64 zm.fAct.fA),(.int .i64 zm.fAct.fB),(.slice z4C zm.fAct.fData.length z4D)]]) w₀ Z)
  (zfK : ZS Z 1 (fun r x=>r = e5 x) z4A z4B zm.fMem)
  (zfL : ZS Z 1 (fun r x=>r = e5 x) z4C z4D zm.fAct.fData)
  (hown : Hp (fps [stb z3D 65 [(.int .i64 zm.fState.fPc),(.int .i64 zm.fState.fLeft),(.int .u8 zm.fState.fRegs.a0),(.int .u8 zm.fState.fRegs.a1),(.int .u8 zm.fState.fRegs.a2),(.int .u8 zm.fState.fRegs.a3),(.int .u8 zm.fX.fOp),(.int .i64 zm.fX.fA),(.int .i64 zm.fX.fB),(.int .i64 zm.fX.fC),(.slice z4A zm.fMem.length z4B),(.int .u8 zm.fAct.fKind),(.int .i64 zm.fAct.fA),(.int .i64 zm.fAct.fB),(.slice z4C zm.fAct.fData.length z4D)]]) w₀ w₀ [stb z3D 65 [(.int .i64 zm.fState.fPc),(.int .i64 zm.fState.fLeft),(.int .u8 zm.fState.fRegs.a0),(.int .u8 zm.fState.fRegs.a1),(.int .u8 zm.fState.fRegs.a2),(.int .u8 zm.fState.fRegs.a3),(.int .u8 zm.fX.fOp),(.int .i64 zm.fX.fA),(.int .i64 zm.fX.fB),(.int .i64 zm.fX.fC),(.slice z4A zm.fMem.length z4B),(.int .u8 zm.fAct.fKind),(.int .i64 zm.fAct.fA),(.int .i64 zm.fAct.fB),(.slice z4C zm.fAct.fData.length z4D)]]) :
  Calls Tryd.prog 102 #[(.pointer (some ⟨z3D,0,none⟩))] w₀ fun e w'=>∃ zbF : Option Addr,∃ zbG : Nat,∃ zbH : Option Addr,∃ zbI : Nat,e = .returned (.tuple #[]) ∧ ((ZS Z 1 (fun r x=>r = e5 x) zbF zbG r.fMem) ∧ (ZS Z 1 (fun r x=>r = e5 x) zbH zbI r.fAct.fData)) ∧ Hp (fps [stb z3D 65 [(.int .i64 zm.fState.fPc),(.int .i64 zm.fState.fLeft),(.int .u8 zm.fState.fRegs.a0),(.int .u8 zm.fState.fRegs.a1),(.int .u8 zm.fState.fRegs.a2),(.int .u8 zm.fState.fRegs.a3),(.int .u8 zm.fX.fOp),(.int .i64 zm.fX.fA),(.int .i64 zm.fX.fB),(.int .i64 zm.fX.fC),(.slice z4A zm.fMem.length z4B),(.int .u8 zm.fAct.fKind),(.int .i64 zm.fAct.fA),(.int .i64 zm.fAct.fB),(.slice z4C zm.fAct.fData.length z4D)]]) w₀ w' [stb z3D 65 [(.int .i64 r.fState.fPc),(.int .i64 r.fState.fLeft),(.int .u8 r.fState.fRegs.a0),(.int .u8 r.fState.fRegs.a1),(.int .u8 r.fState.fRegs.a2),(.int .u8 r.fState.fRegs.a3),(.int .u8 r.fX.fOp),(.int .i64 r.fX.fA),(.int .i64 r.fX.fB),(.int .i64 r.fX.fC),(.slice zbF r.fMem.length zbG),(.int .u8 r.fAct.fKind),(.int .i64 r.fAct.fA),(.int .i64 r.fAct.fB),(.slice zbH r.fAct.fData.length zbI)]]:=by
 unfold y1I at h
 refine Calls.y9 (vs:=[(.pointer (some ⟨z3D,0,none⟩))]) (pre:=[stb z3D 65 [(.int .i64 zm.fState.fPc),(.int .i64 zm.fState.fLeft),(.int .u8 zm.fState.fRegs.a0),(.int .u8 zm.fState.fRegs.a1),(.int .u8 zm.fState.fRegs.a2),(.int .u8 zm.fState.fRegs.a3),(.int .u8 zm.fX.fOp),(.int .i64 zm.fX.fA),(.int .i64 zm.fX.fB),(.int .i64 zm.fX.fC),(.slice z4A zm.fMem.length z4B),(.int .u8 zm.fAct.fKind),(.int .i64 zm.fAct.fA),(.int .i64 zm.fAct.fB),(.slice z4C zm.fAct.fData.length z4D)]]) (env:=[(0,(.pointer (some ⟨z3D,0,none⟩)))]) Tryd.func102 rfl Tryd.ntmps102 rfl (hown) rfl ?_
 refine WC.a (WL.pu rfl (WL.pu rfl ?_))
 refine WL.a (d:=4) rfl rfl rfl (y7 rfl) ?_
 refine WL.a (d:=5) rfl rfl rfl (y4 yE rfl rfl) ?_
 refine WL.a (d:=6) rfl rfl rfl (y4 y1q rfl rfl) ?_
 refine WL.a (d:=7) rfl rfl rfl (y6 ye rfl (ya .here rfl)) ?_
 refine WL.a (d:=8) rfl rfl rfl (y7 rfl) ?_
 refine WL.a (d:=9) rfl rfl rfl (y4 y1i rfl rfl) ?_
 refine WL.a (d:=10) rfl rfl rfl (y4 y1V rfl rfl) ?_
 refine WL.yk rfl rfl (y1n (ds:=[(.int .i64 zm.fX.fA),(.int .i64 zm.fState.fLeft),(.int .u8 zm.fState.fRegs.a0),(.int .u8 zm.fState.fRegs.a1),(.int .u8 zm.fState.fRegs.a2),(.int .u8 zm.fState.fRegs.a3),(.int .u8 zm.fX.fOp),(.int .i64 zm.fX.fA),(.int .i64 zm.fX.fB),(.int .i64 zm.fX.fC),(.slice z4A zm.fMem.length z4B),(.int .u8 zm.fAct.fKind),(.int .i64 zm.fAct.fA),(.int .i64 zm.fAct.fB),(.slice z4C zm.fAct.fData.length z4D)]) y33 rfl rfl rfl rfl rfl .here rfl rfl) ?_
 refine WL.nil ?_
 obtain rfl:=Option.some.inj h
 refine WX.yf Tryd.results102 .nil (fun w hw=>?_)
 exact ⟨z4A,z4B,z4C,z4D,y15,⟨zfK,zfL⟩,hw.sub (.cons .here .nil)⟩
def y1J (zg : Sproc_execution) : Option Sproc_execution :=
 (yc zg zg.fX.fA).bind fun zfM=>chk ((0 : Int) ≤ zg.fX.fA ∧ zg.fX.fA < 4) (if decide ((nth ([zg.fState.fRegs.a0,zg.fState.fRegs.a1,zg.fState.fRegs.a2,zg.fState.fRegs.a3] : List Int) zg.fX.fA) = 0) then some (⟨(⟨zg.fX.fB,zg.fState.fLeft,zg.fState.fRegs⟩ : Sproc_State),zg.fX,zg.fMem,zg.fAct⟩ : Sproc_execution) else some zg)
set_option maxRecDepth 20000 in
theorem y3X (Z : Zp) (z3E : Nat) (z3F : Option Addr) (z3G : Nat) (z3H : Option Addr) (z3I : Nat) (zg : Sproc_execution) (r : Sproc_execution)
  (h : y1J zg = some r) (w₀ : World) (hz : PZ (fps [stb z3E 65 [(.int .i64 zg.fState.fPc),(.int .i64 zg.fState.fLeft),(.int .u8 zg.fState.fRegs.a0),(.int .u8 zg.fState.fRegs.a1),(.int .u8 zg.fState.fRegs.a2),(.int .u8 zg.fState.fRegs.a3),(.int .u8 zg.fX.fOp),(.int .i64 zg.fX.fA),(.int .i64 zg.fX.fB),(.int .i64 zg.fX.fC),(.slice z3F zg.fMem.length z3G),(.int .u8 zg.fAct.fKind),(.int .i64 zg.fAct.fA),(.int .i64 zg.fAct.fB),(.slice z3H zg.fAct.fData.length z3I)]]) w₀ Z)
  (z8v : ZS Z 1 (fun r x=>r = e5 x) z3F z3G zg.fMem)
  (z8w : ZS Z 1 (fun r x=>r = e5 x) z3H z3I zg.fAct.fData)
  (hown : Hp (fps [stb z3E 65 [(.int .i64 zg.fState.fPc),(.int .i64 zg.fState.fLeft),(.int .u8 zg.fState.fRegs.a0),(.int .u8 zg.fState.fRegs.a1),(.int .u8 zg.fState.fRegs.a2),(.int .u8 zg.fState.fRegs.a3),(.int .u8 zg.fX.fOp),(.int .i64 zg.fX.fA),(.int .i64 zg.fX.fB),(.int .i64 zg.fX.fC),(.slice z3F zg.fMem.length z3G),(.int .u8 zg.fAct.fKind),(.int .i64 zg.fAct.fA),(.int .i64 zg.fAct.fB),(.slice z3H zg.fAct.fData.length z3I)]]) w₀ w₀ [stb z3E 65 [(.int .i64 zg.fState.fPc),(.int .i64 zg.fState.fLeft),(.int .u8 zg.fState.fRegs.a0),(.int .u8 zg.fState.fRegs.a1),(.int .u8 zg.fState.fRegs.a2),(.int .u8 zg.fState.fRegs.a3),(.int .u8 zg.fX.fOp),(.int .i64 zg.fX.fA),(.int .i64 zg.fX.fB),(.int .i64 zg.fX.fC),(.slice z3F zg.fMem.length z3G),(.int .u8 zg.fAct.fKind),(.int .i64 zg.fAct.fA),(.int .i64 zg.fAct.fB),(.slice z3H zg.fAct.fData.length z3I)]]) :
  Calls Tryd.prog 103 #[(.pointer (some ⟨z3E,0,none⟩))] w₀ fun e w'=>∃ zbJ : Option Addr,∃ zbK : Nat,∃ zbL : Option Addr,∃ zbM : Nat,e = .returned (.tuple #[]) ∧ ((ZS Z 1 (fun r x=>r = e5 x) zbJ zbK r.fMem) ∧ (ZS Z 1 (fun r x=>r = e5 x) zbL zbM r.fAct.fData)) ∧ Hp (fps [stb z3E 65 [(.int .i64 zg.fState.fPc),(.int .i64 zg.fState.fLeft),(.int .u8 zg.fState.fRegs.a0),(.int .u8 zg.fState.fRegs.a1),(.int .u8 zg.fState.fRegs.a2),(.int .u8 zg.fState.fRegs.a3),(.int .u8 zg.fX.fOp),(.int .i64 zg.fX.fA),(.int .i64 zg.fX.fB),(.int .i64 zg.fX.fC),(.slice z3F zg.fMem.length z3G),(.int .u8 zg.fAct.fKind),(.int .i64 zg.fAct.fA),(.int .i64 zg.fAct.fB),(.slice z3H zg.fAct.fData.length z3I)]]) w₀ w' [stb z3E 65 [(.int .i64 r.fState.fPc),(.int .i64 r.fState.fLeft),(.int .u8 r.fState.fRegs.a0),(.int .u8 r.fState.fRegs.a1),(.int .u8 r.fState.fRegs.a2),(.int .u8 r.fState.fRegs.a3),(.int .u8 r.fX.fOp),(.int .i64 r.fX.fA),(.int .i64 r.fX.fB),(.int .i64 r.fX.fC),(.slice zbJ r.fMem.length zbK),(.int .u8 r.fAct.fKind),(.int .i64 r.fAct.fA),(.int .i64 r.fAct.fB),(.slice zbL r.fAct.fData.length zbM)]]:=by
 unfold y1J at h
 refine Calls.y9 (vs:=[(.pointer (some ⟨z3E,0,none⟩))]) (pre:=[stb z3E 65 [(.int .i64 zg.fState.fPc),(.int .i64 zg.fState.fLeft),(.int .u8 zg.fState.fRegs.a0),(.int .u8 zg.fState.fRegs.a1),(.int .u8 zg.fState.fRegs.a2),(.int .u8 zg.fState.fRegs.a3),(.int .u8 zg.fX.fOp),(.int .i64 zg.fX.fA),(.int .i64 zg.fX.fB),(.int .i64 zg.fX.fC),(.slice z3F zg.fMem.length z3G),(.int .u8 zg.fAct.fKind),(.int .i64 zg.fAct.fA),(.int .i64 zg.fAct.fB),(.slice z3H zg.fAct.fData.length z3I)]]) (env:=[(0,(.pointer (some ⟨z3E,0,none⟩)))]) Tryd.func103 rfl Tryd.ntmps103 rfl (hown) rfl ?_
 refine WC.b ?_
 obtain ⟨zfM,zfN,h⟩:=zi h
 obtain ⟨zfO,h⟩:=yb h
 refine WC.a (WL.pu rfl (WL.pu rfl ?_))
 refine WL.a (d:=4) rfl rfl rfl (y7 rfl) ?_
 refine WL.a (d:=5) rfl rfl rfl (y4 yE rfl rfl) ?_
 refine WL.a (d:=6) rfl rfl rfl (y4 y1q rfl rfl) ?_
 refine WL.a (d:=7) rfl rfl rfl (y6 ye rfl (ya .here rfl)) ?_
 refine WL.b (dd:=8) rfl rfl rfl (zK (l:=[.tmp 2,.tmp 7]) Tryd.call108 (.cons rfl (.cons rfl .nil))) .nil (ccl hz .nil (.cons .here .nil) fun w pz ho la=>yh _ _ _ _ _ _ _ _ _ zfN w pz (z8v.mono (Zle.left _ _)) (z8w.mono (Zle.left _ _)) ((la _ (.head _) _).stb)) ?_
 refine WL.a (d:=9) rfl rfl rfl (y7 rfl) ?_
 refine WL.a (d:=10) rfl rfl rfl (y6 yx rfl (y1x (l:=([zg.fState.fRegs.a0,zg.fState.fRegs.a1,zg.fState.fRegs.a2,zg.fState.fRegs.a3] : List Int)) (f:=Value.int .u8) (k:=2) (m:=6) .here rfl rfl zfO)) ?_
 refine WL.pu rfl (WL.nil (WX.a ?_))
 refine WC.cond rfl (fun z8x=>?_) (fun z8x=>?_)
 ·replace h:=ym h z8x
  refine WC.a (WL.pu rfl (WL.pu rfl ?_))
  refine WL.a (d:=14) rfl rfl rfl (y7 rfl) ?_
  refine WL.a (d:=15) rfl rfl rfl (y4 yE rfl rfl) ?_
  refine WL.a (d:=16) rfl rfl rfl (y4 y22 rfl rfl) ?_
  refine WL.a (d:=17) rfl rfl rfl (y6 ye rfl (ya .here rfl)) ?_
  refine WL.a (d:=18) rfl rfl rfl (y7 rfl) ?_
  refine WL.a (d:=19) rfl rfl rfl (y4 y1i rfl rfl) ?_
  refine WL.a (d:=20) rfl rfl rfl (y4 y1V rfl rfl) ?_
  refine WL.yk rfl rfl (y1n (ds:=[(.int .i64 zg.fX.fB),(.int .i64 zg.fState.fLeft),(.int .u8 zg.fState.fRegs.a0),(.int .u8 zg.fState.fRegs.a1),(.int .u8 zg.fState.fRegs.a2),(.int .u8 zg.fState.fRegs.a3),(.int .u8 zg.fX.fOp),(.int .i64 zg.fX.fA),(.int .i64 zg.fX.fB),(.int .i64 zg.fX.fC),(.slice z3F zg.fMem.length z3G),(.int .u8 zg.fAct.fKind),(.int .i64 zg.fAct.fA),(.int .i64 zg.fAct.fB),(.slice z3H zg.fAct.fData.length z3I)]) y33 rfl rfl rfl rfl rfl .here rfl rfl) ?_
  refine WL.nil ?_
  obtain rfl:=Option.some.inj h
  refine WX.yf Tryd.results103 .nil (fun w hw=>?_)
  exact ⟨z3F,z3G,z3H,z3I,y15,⟨z8v,z8w⟩,hw.sub (.cons .here .nil)⟩
 ·replace h:=yn h z8x
  refine WC.skip ?_
  obtain rfl:=Option.some.inj h
  refine WX.yf Tryd.results103 .nil (fun w hw=>?_)
  exact ⟨z3F,z3G,z3H,z3I,y15,⟨z8v,z8w⟩,hw.sub (.cons .here .nil)⟩
end Go.Proofs.YtjdnejbngloieaaDoor
