/- A part of this claim's proof: models of functions, walks, plain laws. No conditions. -/
import Derived.Test.YtjdnejbngloieaaDoorZSortF
import Derived.Test.YtjdnejbngloieaaDoorZSort
import Derived.Test.YtjdnejbngloieaaDoorZUnroll
import Derived.Test.YtjdnejbngloieaaDoorZArr
import Derived.Test.YtjdnejbngloieaaDoorShelf26
import Derived.Test.YtjdnejbngloieaaDoorProg
namespace Go.Proofs.YtjdnejbngloieaaDoor
open Go Go.RowKit Sep
set_option linter.all false
set_option maxRecDepth 30000
set_option maxHeartbeats 4000000
structure S34 where
 a0 : Int
 a1 : Int
 a2 : Int
 a3 : Int
 deriving Inhabited,DecidableEq
def e5 (x : Int) : List Value:=[(.int .u8 x)]
theorem e5_oc : ∀ x,∀ u ∈ e5 x,u.oneCell' = true:=fun _=>ocB rfl
def e3 (x : Int) : List Value:=[(.int .i64 x)]
theorem y6r : ∀ x,∀ u ∈ e3 x,u.oneCell' = true:=fun _=>ocB rfl
structure Sapi_Ins where
 fOp : Int
 fA : Int
 fB : Int
 fC : Int
 deriving Inhabited,DecidableEq
structure S7 where
 fX : Int
 fY : Int
 fSigned : Bool
 fCode : Int
 deriving Inhabited,DecidableEq
structure S13 where
 fMsg : ByteArray
 fAddr : Int
 deriving Inhabited,DecidableEq
def e33 (x : Sapi_Ins) : List Value:=[(.int .u8 x.fOp),(.int .i64 x.fA),(.int .i64 x.fB),(.int .i64 x.fC)]
structure Sproc_State where
 fPc : Int
 fLeft : Int
 fRegs : S34
 deriving Inhabited,DecidableEq
def e76 (x : Int) : List Value:=[(.int .u8 x)]
def p74 (Z : Zp) (r : List Value) (x : List Int) : Prop:=∃ (ao0 : Option Addr) (cap0 : Nat),r = [(.slice ao0 x.length cap0)] ∧ ZS Z 1 (fun r x=>r = e76 x) ao0 cap0 x
theorem y10 {Z Z' : Zp} (k : Zle Z Z') {r : List Value} {x : List Int} (h : p74 Z r x) : p74 Z' r x:=by
 obtain ⟨ao0,cap0,hr,h0⟩:=h
 exact ⟨ao0,cap0,hr,h0.mono k⟩
def y19 : List (List Int):=[[],[1],[2,3],[2,2],[2,2],[2,4,2],[2,4,2],[6,2,5],[6,2,2],[6],[6],[6],[6],[6],[6,2],[6,2],[6,2],[6,2],[6],[],[7],[2,7],[2,2,7],[2,2],[3],[]]
structure Sproc_Act where
 fKind : Int
 fA : Int
 fB : Int
 fData : List Int
 deriving Inhabited,DecidableEq
structure Sproc_execution where
 fState : Sproc_State
 fX : Sapi_Ins
 fMem : List Int
 fAct : Sproc_Act
 deriving Inhabited,DecidableEq
def y60 : List Value:=[.nilFunc,.func (.func 84) #[] #[],.func (.func 85) #[] #[],.func (.func 82) #[] #[],.func (.func 86) #[] #[],.func (.func 87) #[] #[],.func (.func 88) #[] #[],.func (.func 89) #[] #[],.func (.func 90) #[] #[],.func (.func 91) #[] #[],.func (.func 92) #[] #[],.func (.func 93) #[] #[],.func (.func 94) #[] #[],.func (.func 95) #[] #[],.func (.func 96) #[] #[],.func (.func 97) #[] #[],.func (.func 98) #[] #[],.func (.func 99) #[] #[],.func (.func 100) #[] #[],.func (.func 101) #[] #[],.func (.func 102) #[] #[],.func (.func 103) #[] #[],.func (.func 104) #[] #[],.func (.func 105) #[] #[],.func (.func 106) #[] #[],.func (.func 107) #[] #[]]
def e39 (x : Sproc_State) : List Value:=[(.int .i64 x.fPc),(.int .i64 x.fLeft),(.int .u8 x.fRegs.a0),(.int .u8 x.fRegs.a1),(.int .u8 x.fRegs.a2),(.int .u8 x.fRegs.a3)]
def e34 (x : S34) : List Value:=[(.int .u8 x.a0),(.int .u8 x.a1),(.int .u8 x.a2),(.int .u8 x.a3)]
theorem yU : elT Tryd.prog 30 3 1 8:=⟨Tryd.underlying30,⟨Tryd.t3,_,rfl,rfl,rfl,rfl,rfl⟩,by decide⟩
theorem y49 : y2o Tryd.prog 33 (.agg #[(.int .u8 0),(.int .i64 0),(.int .i64 0),(.int .i64 0)]):=y38 (i:=Tryd.t33) rfl rfl
theorem yd : y3V Tryd.prog 3:=y3d Tryd.underlying3 rfl
theorem y43 : y3A Tryd.prog 33 4:=y3e (i:=Tryd.t33) rfl
theorem y3h : aggT Tryd.prog 33 4:=y6v (i:=Tryd.t33) Tryd.underlying33 rfl rfl
theorem y3J : elT Tryd.prog 22 33 4 32:=⟨Tryd.underlying22,⟨Tryd.t33,_,rfl,rfl,rfl,rfl,rfl⟩,by decide⟩
theorem y61 : y2o Tryd.prog 5 (.int .u8 0):=y38 (i:=Tryd.t5) rfl rfl
theorem y1F : elT Tryd.prog 35 5 1 1:=⟨Tryd.underlying35,⟨Tryd.t5,_,rfl,rfl,rfl,rfl,rfl⟩,by decide⟩
theorem y1i : y2o Tryd.prog 39 (.agg #[(.int .i64 0),(.int .i64 0),(.int .u8 0),(.int .u8 0),(.int .u8 0),(.int .u8 0)]):=y38 (i:=Tryd.t39) rfl rfl
theorem y1l : y3A Tryd.prog 39 6:=y3e (i:=Tryd.t39) rfl
theorem yQ : aggT Tryd.prog 39 6:=y6v (i:=Tryd.t39) Tryd.underlying39 rfl rfl
theorem y1o : y2o Tryd.prog 41 (.agg #[(.int .u8 0),(.int .i64 0),(.int .i64 0),(.slice none 0 0)]):=y38 (i:=Tryd.t41) rfl rfl
theorem y1d : y1e Tryd.prog 39 0 0:=yZ (i:=Tryd.t3) Tryd.underlying39 rfl rfl (by decide) rfl
theorem y3P : y1e Tryd.prog 33 0 0:=yZ (i:=Tryd.t5) Tryd.underlying33 rfl rfl (by decide) rfl
theorem yC : y3V Tryd.prog 5:=y3d Tryd.underlying5 rfl
theorem yR : y1e Tryd.prog 33 1 1:=yZ (i:=Tryd.t3) Tryd.underlying33 rfl rfl (by decide) rfl
theorem y16 : y1e Tryd.prog 33 2 2:=yZ (i:=Tryd.t3) Tryd.underlying33 rfl rfl (by decide) rfl
theorem y3v : y1e Tryd.prog 33 3 3:=yZ (i:=Tryd.t3) Tryd.underlying33 rfl rfl (by decide) rfl
theorem zeroT_73 : y2o Tryd.prog 73 (.agg #[(.int .i64 0),(.int .i64 0),(.int .i64 0)]):=y38 (i:=Tryd.t73) rfl rfl
theorem sizT_73 : y3A Tryd.prog 73 3:=y3e (i:=Tryd.t73) rfl
theorem arT_75 : arT Tryd.prog 75 74 26 1:=y6p Tryd.underlying75 (inf:=Tryd.t74) rfl rfl rfl
theorem oneT_74 : y3V Tryd.prog 74:=y3d Tryd.underlying74 rfl
theorem elT_74 : elT Tryd.prog 74 76 1 1:=⟨Tryd.underlying74,⟨Tryd.t76,_,rfl,rfl,rfl,rfl,rfl⟩,by decide⟩
theorem oneT_76 : y3V Tryd.prog 76:=y3d Tryd.underlying76 rfl
theorem arT_73 : arT Tryd.prog 73 3 3 1:=y6p Tryd.underlying73 (inf:=Tryd.t3) rfl rfl rfl
theorem yV : y3A Tryd.prog 41 4:=y3e (i:=Tryd.t41) rfl
theorem y1q : aggT Tryd.prog 41 4:=y6v (i:=Tryd.t41) Tryd.underlying41 rfl rfl
theorem yH : y1e Tryd.prog 65 0 0:=yZ (i:=Tryd.t39) Tryd.underlying65 rfl rfl (by decide) rfl
theorem y20 : y3A Tryd.prog 3 1:=y3e (i:=Tryd.t3) rfl
theorem arT_67 : arT Tryd.prog 67 66 26 1:=y6p Tryd.underlying67 (inf:=Tryd.t66) rfl rfl rfl
theorem y33 : y1e Tryd.prog 39 1 1:=yZ (i:=Tryd.t3) Tryd.underlying39 rfl rfl (by decide) rfl
theorem yl : y1e Tryd.prog 65 1 6:=yZ (i:=Tryd.t33) Tryd.underlying65 rfl rfl (by decide) rfl
theorem yp : y3V Tryd.prog 66:=y3d Tryd.underlying66 rfl
theorem y7v : y1e Tryd.prog 39 2 2:=yZ (i:=Tryd.t34) Tryd.underlying39 rfl rfl (by decide) rfl
theorem arT_34 : arT Tryd.prog 34 5 4 1:=y6p Tryd.underlying34 (inf:=Tryd.t5) rfl rfl rfl
theorem y30 : y3A Tryd.prog 5 1:=y3e (i:=Tryd.t5) rfl
theorem y62 : y1e Tryd.prog 65 2 10:=yZ (i:=Tryd.t35) Tryd.underlying65 rfl rfl (by decide) rfl
theorem y44 : y3V Tryd.prog 35:=y3d Tryd.underlying35 rfl
theorem y2f : y1e Tryd.prog 65 3 11:=yZ (i:=Tryd.t41) Tryd.underlying65 rfl rfl (by decide) rfl
theorem y4T : y1e Tryd.prog 41 0 0:=yZ (i:=Tryd.t5) Tryd.underlying41 rfl rfl (by decide) rfl
theorem y79 : EqT Tryd.prog 39 e39:=⟨fun u v w=>by
 have i39_10000:=fun (w : World) (a b : Array Value)=>run_equalIn_agg (P:=Tryd.prog) w 9999 39 a b (by simp [Program.fieldsOf,Tryd.underlying39]) (by kernel_rfl)
 have i3_9999:=fun (w : World) (a b : Int)=>run_equalIn_int (P:=Tryd.prog) w 9998 3 .i64 .i64 a b Tryd.underlying3
 have i5_9998:=fun (w : World) (a b : Int)=>run_equalIn_int (P:=Tryd.prog) w 9997 5 .u8 .u8 a b Tryd.underlying5
 have i34_9999 : ∀ (w : World) (a0 a1 a2 a3 b0 b1 b2 b3 : Int),(Op.equalIn 9999 34 (.agg #[.int .u8 a0,.int .u8 a1,.int .u8 a2,.int .u8 a3]) (.agg #[.int .u8 b0,.int .u8 b1,.int .u8 b2,.int .u8 b3])).run Tryd.prog w = .ok (decide (a0 = b0 ∧ a1 = b1 ∧ a2 = b2 ∧ a3 = b3)) w:=fun w a0 a1 a2 a3 b0 b1 b2 b3=>by
  rw [show (9999 : Nat) = 9998 + 1 from rfl,Op.equalIn]
  simp [run_underlying Tryd.underlying34,part,i5_9998,List.range',Std.Legacy.Range.forIn_eq_forIn_range',Std.Legacy.Range.size]
  by_cases h0 : a0 = b0 <;> by_cases h1 : a1 = b1 <;> by_cases h2 : a2 = b2 <;> by_cases h3 : a3 = b3 <;> simp [h0,h1,h2,h3]
 rw [i39_10000]
 simp [Program.fieldsOf,Op.eqFields,part,e39,i39_10000,Tryd.underlying39,i3_9999,i5_9998,i34_9999]
 rcases u with ⟨u1,u2,⟨u3,u4,u5,u6⟩⟩
 rcases v with ⟨v1,v2,⟨v3,v4,v5,v6⟩⟩
 by_cases h1 : u1 = v1 <;> by_cases h2 : u2 = v2 <;> by_cases h3 : u3 = v3 <;> by_cases h4 : u4 = v4 <;> by_cases h5 : u5 = v5 <;> by_cases h6 : u6 = v6 <;> simp [h1,h2,h3,h4,h5,h6],by kernel_rfl⟩
theorem y3w : y3V Tryd.prog 22:=y3d Tryd.underlying22 rfl
theorem y4a : KeyT Tryd.prog 3 (Value.int .i64):=keyT_int Tryd.underlying3
theorem zeroT_54 : y2o Tryd.prog 54 (.map none):=y38 (i:=Tryd.t54) rfl rfl
theorem sizT_54 : y3A Tryd.prog 54 1:=y3e (i:=Tryd.t54) rfl
theorem zeroT_55 : y2o Tryd.prog 55 .nilFunc:=y38 (i:=Tryd.t55) rfl rfl
theorem sizT_55 : y3A Tryd.prog 55 1:=y3e (i:=Tryd.t55) rfl
theorem y7w : y3V Tryd.prog 55:=y3d Tryd.underlying55 rfl
theorem y45 : y3V Tryd.prog 54:=y3d Tryd.underlying54 rfl
theorem y63 : y2o Tryd.prog 3 (.int .i64 0):=y38 (i:=Tryd.t3) rfl rfl
theorem y6B : y1e Tryd.prog 41 1 1:=yZ (i:=Tryd.t3) Tryd.underlying41 rfl rfl (by decide) rfl
theorem y6C : y1e Tryd.prog 41 2 2:=yZ (i:=Tryd.t3) Tryd.underlying41 rfl rfl (by decide) rfl
theorem y7x : y1e Tryd.prog 41 3 3:=yZ (i:=Tryd.t35) Tryd.underlying41 rfl rfl (by decide) rfl
def y5D (l : List Int) : Option (List Int):=chk (0 < l.length ∧ l.length < 4611686018427387904) (some (y5X l))
theorem y6Q (Z : Zp) (ao : Option Addr) (cap : Nat) (l : List Int) (r : List Int) (w₀ : World) (hz : PZ (fps [row (.slice ao l.length cap) 3 1 (l.flatMap e3)]) w₀ Z)
  (h : y5D l = some r) (hown : Hp (fps [row (.slice ao l.length cap) 3 1 (l.flatMap e3)]) w₀ w₀ [row (.slice ao l.length cap) 3 1 (l.flatMap e3)]) :
  Calls Tryd.prog 34 #[.slice ao l.length cap] w₀ fun e w'=>e = .returned (.tuple #[]) ∧ (r.length = l.length) ∧ Hp (fps [row (.slice ao l.length cap) 3 1 (l.flatMap e3)]) w₀ w' [row (.slice ao r.length cap) 3 1 (r.flatMap e3)]:=by
 obtain ⟨h0,h⟩:=ya h
 exact sort_int (fun _=>rfl) Tryd.slices_Sort_int ao cap l r w₀ h0 ((Option.some.inj h).symm.trans (y73 l).symm) hown
def y1g (op_10 : Int) (l_11 : List Int) : Option Sapi_Ins :=
 chk ((((([] : List Int) ++ l_11).length : Nat) : Int) * 8 ≤ 140737488355328 ∧ (((([] : List Int) ++ l_11).length : Nat) : Int) ≤ 4611686018427387904) (chk (((((([] : List Int) ++ l_11) ++ ([0,0,0] : List Int)).length : Nat) : Int) * 8 ≤ 140737488355328 ∧ ((((([] : List Int) ++ l_11) ++ ([0,0,0] : List Int)).length : Nat) : Int) ≤ 4611686018427387904) (chk ((0 : Int) ≤ 0 ∧ 0 < ((((([] : List Int) ++ l_11) ++ ([0,0,0] : List Int)).length : Nat) : Int)) (chk ((0 : Int) ≤ 1 ∧ 1 < ((((([] : List Int) ++ l_11) ++ ([0,0,0] : List Int)).length : Nat) : Int)) (chk ((0 : Int) ≤ 2 ∧ 2 < ((((([] : List Int) ++ l_11) ++ ([0,0,0] : List Int)).length : Nat) : Int)) (some (⟨op_10,(nth ((([] : List Int) ++ l_11) ++ ([0,0,0] : List Int)) 0),(nth ((([] : List Int) ++ l_11) ++ ([0,0,0] : List Int)) 1),(nth ((([] : List Int) ++ l_11) ++ ([0,0,0] : List Int)) 2)⟩ : Sapi_Ins))))))
set_option maxRecDepth 20000 in
theorem y1t (Z : Zp) (ao_12 : Option Addr) (cap_13 : Nat) (op_10 : Int) (l_11 : List Int) (r : Sapi_Ins)
  (h : y1g op_10 l_11 = some r) (w₀ : World) (hz : PZ [] w₀ Z)
  (hs_14 : ZS Z 1 (fun r x=>r = e3 x) ao_12 cap_13 l_11) :
  Calls Tryd.prog 17 #[(.int .u8 op_10),(.slice ao_12 l_11.length cap_13)] w₀ fun e w'=>e = .returned (.agg #[(.int .u8 r.fOp),(.int .i64 r.fA),(.int .i64 r.fB),(.int .i64 r.fC)]) ∧ Hp [] w₀ w' []:=by
 unfold y1g at h
 refine Calls.y8 (vs:=[(.int .u8 op_10),(.slice ao_12 l_11.length cap_13)]) (pre:=[]) (env:=[(0,(.int .u8 op_10)),(1,(.slice ao_12 l_11.length cap_13))]) Tryd.func17 rfl Tryd.ntmps17 rfl (Hp.nil w₀ _) rfl ?_
 refine WC.b (WC.a ?_)
 refine WL.new (dd:=4) rfl rfl rfl (yA (cs:=[(.int .u8 0),(.int .i64 0),(.int .i64 0),(.int .i64 0)]) y49 rfl) ?_
 intro b_39 _
 refine WL.nil (WX.a (WC.b ?_))
 obtain ⟨c_41,h⟩:=ya h
 obtain ⟨c_45,h⟩:=ya h
 refine WC.a ?_
 refine WL.new (dd:=5) rfl rfl rfl (yx (cs:=([] : List Int).flatMap e3) yU (Eos.parts (l:=[]) .nil []) (fun _=>by kernel_rfl) rfl (by unfold maxLen; omega)) ?_
 intro b_48 _
 refine WL.pu rfl ?_
 refine WL.eff (d:=7) rfl rfl rfl (y3U (enc:=e3) (l1:=([] : List Int)) (l2:=l_11) yU rfl rfl .here (fun _=>rfl) rfl rfl (news_z hz.pv hs_14) (y41 y6r _) c_41) ?_
 rintro ⟨ao_49,cap_50⟩ _
 refine WL.new (dd:=8) rfl rfl rfl (yx (cs:=([0,0,0] : List Int).flatMap e3) yU (Eos.parts (l:=[.const (.int .i64 0),.const (.int .i64 0),.const (.int .i64 0)]) (.cons rfl (.cons rfl (.cons rfl .nil))) [0,1,2]) (fun _=>by kernel_rfl) rfl (by unfold maxLen; omega)) ?_
 intro b_51 _
 refine WL.eff (d:=9) rfl rfl rfl (y3U (enc:=e3) (l1:=([] : List Int) ++ l_11) (l2:=([0,0,0] : List Int)) yU rfl rfl .h1 (fun _=>rfl) rfl rfl (y69 .here) (y41 y6r _) c_45) ?_
 rintro ⟨ao_52,cap_53⟩ _
 refine WL.pu rfl (WL.nil (WX.a (WC.b ?_)))
 obtain ⟨c_54,h⟩:=ya h
 obtain ⟨c_56,h⟩:=ya h
 obtain ⟨c_57,h⟩:=ya h
 refine WC.y11 (fun i=>[11].contains i) [] rfl ?_
 refine WD.a (i:=0) (d:=10) (by kernel_rfl) rfl z2 z6 rfl rfl rfl (fun _=>q_m rfl) ?_
 refine WD.a (i:=1) (d:=11) (by kernel_rfl) rfl z2 z6 rfl rfl rfl (fun _=>q_m rfl) ?_
 refine WD.know (fun w hw=>Hp.y3T .here hw (by intro hz'; have:=c_54; rw [hz'] at this; omega)) ?_
 rintro ⟨b_59,rfl⟩
 refine WD.a (i:=2) (d:=12) (by kernel_rfl) rfl z2 z6 rfl rfl rfl (fun _=>yT yU rfl rfl c_54.1 c_54.2 y39) ?_
 refine WD.e (i:=3) (d:=13) (by kernel_rfl) rfl z2 z6 rfl rfl rfl (y5 yd rfl (y3n .here ((y31 (enc:=e3) (l:=(([] : List Int) ++ l_11) ++ ([0,0,0] : List Int)) (i:=0) (sz:=1) (fun _=>rfl) c_54.1 c_54.2) 0 _ rfl))) ?_
 refine WD.a (i:=4) (d:=14) (by kernel_rfl) rfl z2 z6 rfl rfl rfl (fun _=>q_m rfl) ?_
 refine WD.a (i:=5) (d:=15) (by kernel_rfl) rfl z2 z6 rfl rfl rfl (fun _=>yT yU rfl rfl c_56.1 c_56.2 y39) ?_
 refine WD.e (i:=6) (d:=16) (by kernel_rfl) rfl z2 z6 rfl rfl rfl (y5 yd rfl (y3n .here ((y31 (enc:=e3) (l:=(([] : List Int) ++ l_11) ++ ([0,0,0] : List Int)) (i:=1) (sz:=1) (fun _=>rfl) c_56.1 c_56.2) 0 _ rfl))) ?_
 refine WD.a (i:=7) (d:=17) (by kernel_rfl) rfl z2 z6 rfl rfl rfl (fun _=>q_m rfl) ?_
 refine WD.a (i:=8) (d:=18) (by kernel_rfl) rfl z2 z6 rfl rfl rfl (fun _=>yT yU rfl rfl c_57.1 c_57.2 y39) ?_
 refine WD.e (i:=9) (d:=19) (by kernel_rfl) rfl z2 z6 rfl rfl rfl (y5 yd rfl (y3n .here ((y31 (enc:=e3) (l:=(([] : List Int) ++ l_11) ++ ([0,0,0] : List Int)) (i:=2) (sz:=1) (fun _=>rfl) c_57.1 c_57.2) 0 _ rfl))) ?_
 refine WD.a (i:=10) (d:=20) (by kernel_rfl) rfl z2 z6 rfl rfl rfl (fun _=>yP (v:=(.agg #[(.int .u8 op_10),(.int .i64 (nth ((([] : List Int) ++ l_11) ++ ([0,0,0] : List Int)) 0)),(.int .i64 (nth ((([] : List Int) ++ l_11) ++ ([0,0,0] : List Int)) 1)),(.int .i64 (nth ((([] : List Int) ++ l_11) ++ ([0,0,0] : List Int)) 2))])) (Eos.parts (l:=[.tmp 10,.tmp 13,.tmp 16,.tmp 19]) (.cons rfl (.cons rfl (.cons rfl (.cons rfl .nil)))) [0,1,2,3]) (fun _=>by kernel_rfl)) ?_
 refine WD.y1J (i:=11) rfl (by kernel_rfl) rfl rfl rfl (by kernel_rfl) (yt y43 rfl rfl rfl .h2 rfl rfl rfl) ?_
 refine WD.done (by kernel_rfl) ?_
 refine WX.a (WC.ret ?_)
 obtain rfl:=Option.some.inj h
 refine WX.yi Tryd.results17 (.agg rfl y3h rfl (yz .here) .nil) (fun w hw=>?_)
 exact ⟨y1a rfl,hw.sub .nil⟩
def y1G (z5l : Int) (z5m : Int) (zbm : Int) : Option Bool :=
 jp2 (fun (z82 : Int) (z83 : Int)=>some ((decide (z5m ≥ z82)) && (decide (z5m ≤ z83)))) fun z7j=>if decide (z5l = 1) then z7j 1 2000 else if decide (z5l = 2) then z7j 0 3 else if decide (z5l = 3) then z7j 0 255 else if decide (z5l = 4) then z7j 0 4095 else if decide (z5l = 5) then z7j 1 64 else if decide (z5l = 6) then z7j 0 z5m else if decide (z5l = 7) then z7j 0 (i64 (zbm - 1)) else z7j 0 0
set_option maxRecDepth 20000 in
theorem y5E (Z : Zp)  (z5l : Int) (z5m : Int) (zbm : Int) (r : Bool)
  (h : y1G z5l z5m zbm = some r) (w₀ : World) (hz : PZ [] w₀ Z) :
  Calls Tryd.prog 43 #[(.int .u8 z5l),(.int .i64 z5m),(.int .i64 zbm)] w₀ fun e w'=>e = .returned (.bool r) ∧ Hp [] w₀ w' []:=by
 unfold y1G at h
 refine Calls.y8 (vs:=[(.int .u8 z5l),(.int .i64 z5m),(.int .i64 zbm)]) (pre:=[]) (env:=[(0,(.int .u8 z5l)),(1,(.int .i64 z5m)),(2,(.int .i64 zbm))]) Tryd.func43 rfl Tryd.ntmps43 rfl (Hp.nil w₀ _) rfl ?_
 refine WC.b (WC.a (WL.pu rfl (WL.nil (WX.a (WC.b (WC.a (WL.pu rfl (WL.pu rfl (WL.nil (WX.a ?_))))))))))
 obtain ⟨z7j,zl3,h⟩:=y5m h
 refine WC.y3Y (fun (z82 : Int) (z83 : Int)=>(z7j z82 z83 = some r)) (fun (z82 : Int) (z83 : Int)=>[(1,(.int .i64 z5m)),(7,(.int .i64 z82)),(8,(.int .i64 z83))]) (fun (z82 : Int) (z83 : Int)=>[]) ?_ ?_
 ·skip
  refine WC.b (WC.a (WL.pu rfl (WL.nil (WX.a (WC.block (WC.b (WC.a (WL.pu rfl (WL.pu rfl (WL.nil (WX.a ?_)))))))))))
  refine WC.cond rfl (fun zf3=>?_) (fun zf3=>?_)
  ·replace h:=ym h zf3
   refine WC.a (WL.pu rfl (WL.pu rfl (WL.nil (WX.yr ?_))))
   exact WX.mid (G:=Int × Int) ⟨1,2000⟩ h (.cons rfl (.cons rfl (.cons rfl .nil))) .nil
  ·replace h:=yn h zf3
   refine WC.b (WC.a (WL.pu rfl (WL.pu rfl (WL.nil (WX.a ?_)))))
   refine WC.cond rfl (fun zf4=>?_) (fun zf4=>?_)
   ·replace h:=ym h zf4
    refine WC.a (WL.pu rfl (WL.nil (WX.yr ?_)))
    exact WX.mid (G:=Int × Int) ⟨0,3⟩ h (.cons rfl (.cons rfl (.cons rfl .nil))) .nil
   ·replace h:=yn h zf4
    refine WC.b (WC.a (WL.pu rfl (WL.pu rfl (WL.nil (WX.a ?_)))))
    refine WC.cond rfl (fun zf5=>?_) (fun zf5=>?_)
    ·replace h:=ym h zf5
     refine WC.a (WL.pu rfl (WL.nil (WX.yr ?_)))
     exact WX.mid (G:=Int × Int) ⟨0,255⟩ h (.cons rfl (.cons rfl (.cons rfl .nil))) .nil
    ·replace h:=yn h zf5
     refine WC.b (WC.a (WL.pu rfl (WL.pu rfl (WL.nil (WX.a ?_)))))
     refine WC.cond rfl (fun zf6=>?_) (fun zf6=>?_)
     ·replace h:=ym h zf6
      refine WC.a (WL.pu rfl (WL.nil (WX.yr ?_)))
      exact WX.mid (G:=Int × Int) ⟨0,4095⟩ h (.cons rfl (.cons rfl (.cons rfl .nil))) .nil
     ·replace h:=yn h zf6
      refine WC.b (WC.a (WL.pu rfl (WL.pu rfl (WL.nil (WX.a ?_)))))
      refine WC.cond rfl (fun zf7=>?_) (fun zf7=>?_)
      ·replace h:=ym h zf7
       refine WC.a (WL.pu rfl (WL.pu rfl (WL.nil (WX.yr ?_))))
       exact WX.mid (G:=Int × Int) ⟨1,64⟩ h (.cons rfl (.cons rfl (.cons rfl .nil))) .nil
      ·replace h:=yn h zf7
       refine WC.b (WC.a (WL.pu rfl (WL.pu rfl (WL.nil (WX.a ?_)))))
       refine WC.cond rfl (fun zf8=>?_) (fun zf8=>?_)
       ·replace h:=ym h zf8
        refine WC.a (WL.pu rfl (WL.pu rfl (WL.nil (WX.yr ?_))))
        exact WX.mid (G:=Int × Int) ⟨0,z5m⟩ h (.cons rfl (.cons rfl (.cons rfl .nil))) .nil
       ·replace h:=yn h zf8
        refine WC.b (WC.a (WL.pu rfl (WL.pu rfl (WL.nil (WX.a ?_)))))
        refine WC.cond rfl (fun zf9=>?_) (fun zf9=>?_)
        ·replace h:=ym h zf9
         refine WC.a (WL.pu rfl (WL.pu rfl (WL.pu rfl (WL.nil (WX.yr ?_)))))
         exact WX.mid (G:=Int × Int) ⟨0,(i64 (zbm - 1))⟩ h (.cons rfl (.cons rfl (.cons rfl .nil))) .nil
        ·replace h:=yn h zf9
         refine WC.skip (WX.yr ?_)
         exact WX.mid (G:=Int × Int) ⟨0,0⟩ h (.cons rfl (.cons rfl (.cons rfl .nil))) .nil
 ·rintro z82 z83 h
  replace h:=(zl3 z82 z83).symm.trans h
  refine WC.b (WC.a (WL.pu rfl (WL.pu rfl (WL.pu rfl (WL.pu rfl ?_)))))
  refine WL.seg true 3 30 (B:=(decide (z5m ≥ z82)) && (decide (z5m ≤ z83))) rfl rfl rfl rfl rfl rfl (fun h=>(y3D h).symm) (fun _ zl4=>?_) ?_
  ·skip
   refine WL.pu rfl (WL.pu rfl (WL.pu rfl (WL.pu rfl ?_)))
   exact WL.yD (y3E zl4) rfl rfl .all
  refine WL.pu rfl (WL.nil (WX.a (WC.ret ?_)))
  obtain rfl:=Option.some.inj h
  refine WX.yi Tryd.results43 (.tmp rfl .nil) (fun w hw=>?_)
  exact ⟨y1a rfl,hw.sub .nil⟩
def y12 (z17 : Sapi_Ins) (z4P : Int) (z84 : Option Bool) : Nat → Int → Option Bool
 | 0,_=>none
 | zfa + 1,z3U=>if decide (z3U < (((nth y19 z17.fOp).length : Nat) : Int)) then chk ((0 : Int) ≤ z3U ∧ z3U < (((nth y19 z17.fOp).length : Nat) : Int)) (chk ((0 : Int) ≤ z3U ∧ z3U < 3) ((y1G (nth (nth y19 z17.fOp) z3U) (nth ([z17.fA,z17.fB,z17.fC] : List Int) z3U) z4P).bind fun zhi=>if !zhi then some false else y12 z17 z4P z84 zfa (i64 (z3U + 1)))) else z84
theorem y5p {n : Nat} {z17 : Sapi_Ins} {z4P : Int} {z84 : Option Bool} {z3U : Int} {r : Bool} (h : y12 z17 z4P z84 n z3U = some r) : ∃ m,n = m + 1:=by
 cases n with
 | zero=>cases h
 | succ m=>exact ⟨m,rfl⟩
def y2y (z17 : Sapi_Ins) (z4P : Int) : Option Bool :=
 if (decide (z17.fOp < 1)) || (decide (z17.fOp > 25)) then some false else jp0 (some true) fun z84=>chk ((0 : Int) ≤ z17.fOp ∧ z17.fOp < 26) (y12 z17 z4P z84 y2g 0)
set_option maxRecDepth 20000 in
theorem y5R (Z : Zp)  (z17 : Sapi_Ins) (z4P : Int) (r : Bool)
  (h : y2y z17 z4P = some r) (w₀ : World) (hz : PZ [] w₀ Z)
  (hG1 : ZS Z 1 (p74 Z) (some ⟨1,0,none⟩) 26 y19) :
  Calls Tryd.prog 32 #[(.agg #[(.int .u8 z17.fOp),(.int .i64 z17.fA),(.int .i64 z17.fB),(.int .i64 z17.fC)]),(.int .i64 z4P)] w₀ fun e w'=>e = .returned (.bool r) ∧ Hp [] w₀ w' []:=by
 unfold y2y at h
 refine Calls.y8 (vs:=[(.agg #[(.int .u8 z17.fOp),(.int .i64 z17.fA),(.int .i64 z17.fB),(.int .i64 z17.fC)]),(.int .i64 z4P)]) (pre:=[]) (env:=[(0,(.agg #[(.int .u8 z17.fOp),(.int .i64 z17.fA),(.int .i64 z17.fB),(.int .i64 z17.fC)])),(1,(.int .i64 z4P))]) Tryd.func32 rfl Tryd.ntmps32 rfl (Hp.nil w₀ _) rfl ?_
 refine WC.b (WC.a ?_)
 refine WL.new (dd:=2) rfl rfl rfl (y3p (cs:=[(.int .u8 z17.fOp),(.int .i64 z17.fA),(.int .i64 z17.fB),(.int .i64 z17.fC)]) rfl rfl) ?_
 intro zwB _
 refine WL.pu rfl (WL.nil (WX.a (WC.b (WC.b (WC.a ?_)))))
 refine WL.a (d:=8) rfl rfl rfl (y4 y3P rfl rfl) ?_
 refine WL.a (d:=9) rfl rfl rfl (y5 yC rfl (yb .here rfl)) ?_
 refine WL.pu rfl (WL.pu rfl ?_)
 refine WL.seg false 3 11 (B:=(decide (z17.fOp < 1)) || (decide (z17.fOp > 25))) rfl rfl rfl rfl rfl rfl (fun h=>(or_l h).symm) (fun _ zl5=>?_) ?_
 ·skip
  refine WL.a (d:=12) rfl rfl rfl (y4 y3P rfl rfl) ?_
  refine WL.a (d:=13) rfl rfl rfl (y5 yC rfl (yb .here rfl)) ?_
  refine WL.pu rfl (WL.pu rfl ?_)
  exact WL.yD (or_r zl5) rfl rfl .all
 refine WL.nil (WX.a ?_)
 refine WC.cond rfl (fun zfb=>?_) (fun zfb=>?_)
 ·replace h:=ym h zfb
  refine WC.b (WC.a (WL.pu rfl (WL.nil (WX.a (WC.ret (WX.yh ?_))))))
  obtain rfl:=Option.some.inj h
  refine WX.yi Tryd.results32 (.tmp rfl .nil) (fun w hw=>?_)
  exact ⟨y1a rfl,hw.sub .nil⟩
 ·replace h:=yn h zfb
  refine WC.skip (WX.a (WC.b (WC.a ?_)))
  refine WL.a (d:=16) rfl rfl rfl (y4 yR rfl rfl) ?_
  refine WL.a (d:=17) rfl rfl rfl (y5 yd rfl (yb .here rfl)) ?_
  refine WL.a (d:=18) rfl rfl rfl (y4 y16 rfl rfl) ?_
  refine WL.a (d:=19) rfl rfl rfl (y5 yd rfl (yb .here rfl)) ?_
  refine WL.a (d:=20) rfl rfl rfl (y4 y3v rfl rfl) ?_
  refine WL.a (d:=21) rfl rfl rfl (y5 yd rfl (yb .here rfl)) ?_
  refine WL.a (d:=22) rfl rfl rfl (yP (v:=(.agg #[(.int .i64 z17.fA),(.int .i64 z17.fB),(.int .i64 z17.fC)])) (Eos.parts (l:=[.tmp 17,.tmp 19,.tmp 21]) (.cons rfl (.cons rfl (.cons rfl .nil))) [0,1,2]) (fun _=>by kernel_rfl)) ?_
  refine WL.new (dd:=5) rfl rfl rfl (yA (cs:=[(.int .i64 0),(.int .i64 0),(.int .i64 0)]) zeroT_73 rfl) ?_
  intro zhj _
  refine WL.yf rfl rfl (yt sizT_73 rfl rfl rfl .here rfl rfl rfl) ?_
  refine WL.nil (WX.a ?_)
  obtain ⟨z84,zl6,h⟩:=y48 h
  refine WC.y3F ((z84 = some r)) ([]) ([]) ?_ ?_
  ·skip
   refine WC.b ?_
   obtain ⟨zl7,h⟩:=ya h
   refine WC.a ?_
   refine WL.a (d:=23) rfl rfl rfl (y4 y3P rfl rfl) ?_
   refine WL.a (d:=24) rfl rfl rfl (y5 yC rfl (yb .h1 rfl)) ?_
   refine WL.gnth (dd:=25) rfl rfl (ls:=y19) (Z:=Z) (Pr:=(p74 Z)) arT_75 rfl rfl hG1 zl7 ?_
   rintro zwC zwD zl8 zwE ⟨zl9,zla,rfl,zlb⟩
   refine WL.a (d:=26) rfl rfl rfl (y5 oneT_74 rfl (y3r hz.pv zl8 rfl)) ?_
   refine WL.a (d:=27) rfl rfl rfl (y1L Tryd.underlying74 rfl) ?_
   refine WL.pu rfl (WL.nil (WX.a (WC.block ?_)))
   refine WC.y5j (fun (zc2 : Nat) (z3U : Int)=>(y12 z17 z4P z84 zc2 z3U = some r)) (fun (zc2 : Nat) (z3U : Int)=>[(1,(.int .i64 z4P)),(5,(.pointer (some ⟨zhj,0,none⟩))),(26,(.slice zl9 ((nth y19 z17.fOp).length) zla)),(27,(.int .i64 (((nth y19 z17.fOp).length : Nat) : Int))),(28,(.int .i64 z3U))]) (fun (zc2 : Nat) (z3U : Int)=>[stb zhj 73 [(.int .i64 z17.fA),(.int .i64 z17.fB),(.int .i64 z17.fC)]]) (fun (zc2 : Nat) (z3U : Int)=>zc2) ⟨y2g,0⟩ h (.cons rfl (.cons rfl (.cons rfl (.cons rfl (.cons rfl .nil))))) (.cons .here .nil) ?_
   rintro zc2 z3U h
   obtain ⟨zfa,rfl⟩:=y5p h
   rw [y12] at h
   refine WC.b (WC.a (WL.pu rfl (WL.nil (WX.a (WC.b ?_)))))
   refine WC.cond rfl (fun zfc=>?_) (fun zfc=>?_)
   ·replace h:=ym h zfc
    refine WC.skip (WX.a (WC.b (WC.block (WC.b ?_))))
    obtain ⟨zlc,h⟩:=ya h
    refine WC.a (WL.pu rfl ?_)
    refine WL.znth (dd:=31) rfl rfl (Z:=Z) (Pr:=(fun r x=>r = e76 x)) elT_74 rfl rfl zlb zlc ?_
    rintro zwF zwG zld zwH rfl
    refine WL.a (d:=32) rfl rfl rfl (y5 oneT_76 rfl (y3r hz.pv zld rfl)) ?_
    refine WL.pu rfl (WL.pu rfl (WL.nil (WX.a (WC.b ?_))))
    obtain ⟨zhk,h⟩:=ya h
    obtain ⟨zhi,zle,h⟩:=zb h
    refine WC.a (WL.pu rfl (WL.pu rfl ?_))
    refine WL.a (d:=35) rfl rfl rfl (y3u arT_73 rfl rfl zhk y7X) ?_
    refine WL.a (d:=36) rfl rfl rfl (y5 yd rfl (yY (l:=([z17.fA,z17.fB,z17.fC] : List Int)) (f:=Value.int .i64) (k:=0) (m:=3) .here rfl rfl zhk)) ?_
    refine WL.pu rfl ?_
    refine WL.b (dd:=38) rfl rfl rfl (zk (l:=[.tmp 33,.tmp 36,.tmp 37]) Tryd.call43 (.cons rfl (.cons rfl (.cons rfl .nil)))) .nil (cc hz .nil fun w pz ho=>y5E _ _ _ _ _ zle w pz ) ?_
    refine WL.pu rfl (WL.nil (WX.a ?_))
    refine WC.cond rfl (fun zfd=>?_) (fun zfd=>?_)
    ·replace h:=ym h zfd
     refine WC.b (WC.a (WL.pu rfl (WL.nil (WX.a (WC.ret (WX.yS (WX.yh (WX.yh (WX.yS (WX.yh ?_))))))))))
     obtain rfl:=Option.some.inj h
     refine WX.yi Tryd.results32 (.tmp rfl .nil) (fun w hw=>?_)
     exact ⟨y1a rfl,hw.sub .nil⟩
    ·replace h:=yn h zfd
     refine WC.skip (WX.yr (WX.a (WC.a (WL.pu rfl (WL.pu rfl (WL.nil ?_))))))
     exact WX.round (G:=Nat × Int) ⟨zfa,(i64 (z3U + 1))⟩ h (Nat.lt_succ_self _) (.cons rfl (.cons rfl (.cons rfl (.cons rfl (.cons rfl .nil))))) (.cons .here .nil)
   ·replace h:=yn h zfc
    refine WC.exit (WX.yO (WX.yO (WX.y1K ?_)))
    exact WX.mid (G:=Unit) () h .nil .nil
  ·rintro  h
   replace h:=zl6.symm.trans h
   refine WC.b (WC.a (WL.pu rfl (WL.nil (WX.a (WC.ret ?_)))))
   obtain rfl:=Option.some.inj h
   refine WX.yi Tryd.results32 (.tmp rfl .nil) (fun w hw=>?_)
   exact ⟨y1a rfl,hw.sub .nil⟩
def y3b (z3M : List Sapi_Ins) (z37 : Int) : Option (Sapi_Ins × Bool) :=
 (if (decide (z37 < 0)) || (decide (z37 ≥ ((z3M.length : Nat) : Int))) then some true else chk ((0 : Int) ≤ z37 ∧ z37 < ((z3M.length : Nat) : Int)) ((y2y (⟨((nth z3M z37).fOp),((nth z3M z37).fA),((nth z3M z37).fB),((nth z3M z37).fC)⟩ : Sapi_Ins) ((z3M.length : Nat) : Int)).bind fun zhl=>some (!zhl))).bind fun zfe=>if zfe then some ((⟨0,0,0,0⟩ : Sapi_Ins),false) else chk ((0 : Int) ≤ z37 ∧ z37 < ((z3M.length : Nat) : Int)) (some ((⟨((nth z3M z37).fOp),((nth z3M z37).fA),((nth z3M z37).fB),((nth z3M z37).fC)⟩ : Sapi_Ins),true))
set_option maxRecDepth 20000 in
theorem y5S (Z : Zp) (zer : Option Addr) (zes : Nat) (z3M : List Sapi_Ins) (z37 : Int) (r : Sapi_Ins × Bool)
  (h : y3b z3M z37 = some r) (w₀ : World) (hz : PZ [] w₀ Z)
  (hG1 : ZS Z 1 (p74 Z) (some ⟨1,0,none⟩) 26 y19)
  (zhm : ZS Z 4 (fun r x=>r = e33 x) zer zes z3M) :
  Calls Tryd.prog 33 #[(.slice zer z3M.length zes),(.int .i64 z37)] w₀ fun e w'=>e = .returned (.tuple #[(.agg #[(.int .u8 r.1.fOp),(.int .i64 r.1.fA),(.int .i64 r.1.fB),(.int .i64 r.1.fC)]),(.bool r.2)]) ∧ Hp [] w₀ w' []:=by
 unfold y3b at h
 refine Calls.y8 (vs:=[(.slice zer z3M.length zes),(.int .i64 z37)]) (pre:=[]) (env:=[(0,(.slice zer z3M.length zes)),(1,(.int .i64 z37))]) Tryd.func33 rfl Tryd.ntmps33 rfl (Hp.nil w₀ _) rfl ?_
 refine WC.b (WC.a ?_)
 refine WL.new (dd:=4) rfl rfl rfl (yA (cs:=[(.int .u8 0),(.int .i64 0),(.int .i64 0),(.int .i64 0)]) y49 rfl) ?_
 intro zwI _
 refine WL.pu rfl (WL.nil (WX.a (WC.b (WC.b ?_))))
 obtain ⟨zfe,zhn,h⟩:=zb h
 refine WC.a (WL.pu rfl (WL.pu rfl (WL.pu rfl ?_)))
 refine WL.seg false 4 8 (B:=(decide (z37 < 0)) || (decide (z37 ≥ ((z3M.length : Nat) : Int)))) rfl rfl rfl rfl rfl rfl (fun h=>(or_l h).symm) (fun _ zlf=>?_) ?_
 ·skip
  refine WL.pu rfl (WL.pu rfl ?_)
  refine WL.a (d:=11) rfl rfl rfl (y1L Tryd.underlying22 rfl) ?_
  refine WL.pu rfl (WL.pu rfl ?_)
  exact WL.yD (or_r zlf) rfl rfl .all
 refine WL.pu rfl ?_
 refine WL.seg false 8 14 (B:=zfe) rfl rfl rfl rfl rfl rfl (fun h=>(Option.some.inj (ym zhn h)).symm) (fun _ zlg=>?_) ?_
 ·skip
  have zbn:=yn zhn zlg
  obtain ⟨zlh,zbn⟩:=ya zbn
  obtain ⟨zhl,zli,zbn⟩:=zb zbn
  replace zbn:=Option.some.inj zbn
  refine WL.pu rfl (WL.pu rfl ?_)
  refine WL.znth (dd:=17) rfl rfl (Z:=Z) (Pr:=(fun r x=>r = e33 x)) y3J rfl rfl zhm zlh ?_
  rintro zwJ zwK zlj zwL rfl
  refine WL.a (d:=18) rfl rfl rfl (yE y3h rfl (rd_zs hz.pv zlj) rfl) ?_
  refine WL.pu rfl ?_
  refine WL.a (d:=20) rfl rfl rfl (y1L Tryd.underlying22 rfl) ?_
  refine WL.b (dd:=21) rfl rfl rfl (zk (l:=[.tmp 18,.tmp 20]) Tryd.call32 (.cons rfl (.cons rfl .nil))) .nil (cc hz .nil fun w pz ho=>y5R _ _ _ _ zli w pz hG1) ?_
  refine WL.pu rfl (WL.pu rfl ?_)
  exact WL.yD zbn rfl rfl .all
 refine WL.nil (WX.a ?_)
 refine WC.cond rfl (fun zff=>?_) (fun zff=>?_)
 ·replace h:=ym h zff
  refine WC.b (WC.a ?_)
  refine WL.a (d:=24) rfl rfl rfl (yP (v:=(.agg #[(.int .u8 0),(.int .i64 0),(.int .i64 0),(.int .i64 0)])) (Eos.parts (l:=[]) .nil []) (fun _=>by kernel_rfl)) ?_
  refine WL.yf rfl rfl (yt y43 rfl rfl rfl .here rfl rfl rfl) ?_
  refine WL.pu rfl (WL.nil (WX.a (WC.ret (WX.yh ?_))))
  obtain rfl:=Option.some.inj h
  refine WX.yi Tryd.results33 (.agg rfl y3h rfl (yz .here) (.tmp rfl .nil)) (fun w hw=>?_)
  exact ⟨y3M rfl rfl,hw.sub .nil⟩
 ·replace h:=yn h zff
  refine WC.skip (WX.a (WC.b ?_))
  obtain ⟨zlk,h⟩:=ya h
  refine WC.a (WL.pu rfl (WL.pu rfl ?_))
  refine WL.znth (dd:=27) rfl rfl (Z:=Z) (Pr:=(fun r x=>r = e33 x)) y3J rfl rfl zhm zlk ?_
  rintro zwM zwN zll zwO rfl
  refine WL.a (d:=28) rfl rfl rfl (yE y3h rfl (rd_zs hz.pv zll) rfl) ?_
  refine WL.yf rfl rfl (yt y43 rfl rfl rfl .here rfl rfl rfl) ?_
  refine WL.pu rfl (WL.nil (WX.a (WC.ret ?_)))
  obtain rfl:=Option.some.inj h
  refine WX.yi Tryd.results33 (.agg rfl y3h rfl (yz .here) (.tmp rfl .nil)) (fun w hw=>?_)
  exact ⟨y3M rfl rfl,hw.sub .nil⟩
def y2z (zh : Sproc_execution) : Option Sproc_execution :=
 jp1 (fun (z5n : Int)=>if decide ((i64 (z5n - 1)) ≠ 0) then some (⟨(⟨i64 (zh.fState.fPc - 1),i64 (z5n - 1),zh.fState.fRegs⟩ : Sproc_State),zh.fX,zh.fMem,zh.fAct⟩ : Sproc_execution) else some (⟨(⟨zh.fState.fPc,i64 (z5n - 1),zh.fState.fRegs⟩ : Sproc_State),zh.fX,zh.fMem,zh.fAct⟩ : Sproc_execution)) fun zet=>if decide (zh.fState.fLeft = 0) then zet zh.fX.fA else zet zh.fState.fLeft
set_option maxRecDepth 20000 in
theorem y4U (Z : Zp) (z6y : Nat) (z5o : Option Addr) (z5p : Nat) (z5q : Option Addr) (z5r : Nat) (zh : Sproc_execution) (r : Sproc_execution)
  (h : y2z zh = some r) (w₀ : World) (hz : PZ (fps [stb z6y 65 [(.int .i64 zh.fState.fPc),(.int .i64 zh.fState.fLeft),(.int .u8 zh.fState.fRegs.a0),(.int .u8 zh.fState.fRegs.a1),(.int .u8 zh.fState.fRegs.a2),(.int .u8 zh.fState.fRegs.a3),(.int .u8 zh.fX.fOp),(.int .i64 zh.fX.fA),(.int .i64 zh.fX.fB),(.int .i64 zh.fX.fC),(.slice z5o zh.fMem.length z5p),(.int .u8 zh.fAct.fKind),(.int .i64 zh.fAct.fA),(.int .i64 zh.fAct.fB),(.slice z5q zh.fAct.fData.length z5r)]]) w₀ Z)
  (zho : ZS Z 1 (fun r x=>r = e5 x) z5o z5p zh.fMem)
  (zhp : ZS Z 1 (fun r x=>r = e5 x) z5q z5r zh.fAct.fData)
  (hown : Hp (fps [stb z6y 65 [(.int .i64 zh.fState.fPc),(.int .i64 zh.fState.fLeft),(.int .u8 zh.fState.fRegs.a0),(.int .u8 zh.fState.fRegs.a1),(.int .u8 zh.fState.fRegs.a2),(.int .u8 zh.fState.fRegs.a3),(.int .u8 zh.fX.fOp),(.int .i64 zh.fX.fA),(.int .i64 zh.fX.fB),(.int .i64 zh.fX.fC),(.slice z5o zh.fMem.length z5p),(.int .u8 zh.fAct.fKind),(.int .i64 zh.fAct.fA),(.int .i64 zh.fAct.fB),(.slice z5q zh.fAct.fData.length z5r)]]) w₀ w₀ [stb z6y 65 [(.int .i64 zh.fState.fPc),(.int .i64 zh.fState.fLeft),(.int .u8 zh.fState.fRegs.a0),(.int .u8 zh.fState.fRegs.a1),(.int .u8 zh.fState.fRegs.a2),(.int .u8 zh.fState.fRegs.a3),(.int .u8 zh.fX.fOp),(.int .i64 zh.fX.fA),(.int .i64 zh.fX.fB),(.int .i64 zh.fX.fC),(.slice z5o zh.fMem.length z5p),(.int .u8 zh.fAct.fKind),(.int .i64 zh.fAct.fA),(.int .i64 zh.fAct.fB),(.slice z5q zh.fAct.fData.length z5r)]]) :
  Calls Tryd.prog 84 #[(.pointer (some ⟨z6y,0,none⟩))] w₀ fun e w'=>∃ zhq : Option Addr,∃ zhr : Nat,∃ zhs : Option Addr,∃ zht : Nat,e = .returned (.tuple #[]) ∧ ((ZS Z 1 (fun r x=>r = e5 x) zhq zhr r.fMem) ∧ (ZS Z 1 (fun r x=>r = e5 x) zhs zht r.fAct.fData)) ∧ Hp (fps [stb z6y 65 [(.int .i64 zh.fState.fPc),(.int .i64 zh.fState.fLeft),(.int .u8 zh.fState.fRegs.a0),(.int .u8 zh.fState.fRegs.a1),(.int .u8 zh.fState.fRegs.a2),(.int .u8 zh.fState.fRegs.a3),(.int .u8 zh.fX.fOp),(.int .i64 zh.fX.fA),(.int .i64 zh.fX.fB),(.int .i64 zh.fX.fC),(.slice z5o zh.fMem.length z5p),(.int .u8 zh.fAct.fKind),(.int .i64 zh.fAct.fA),(.int .i64 zh.fAct.fB),(.slice z5q zh.fAct.fData.length z5r)]]) w₀ w' [stb z6y 65 [(.int .i64 r.fState.fPc),(.int .i64 r.fState.fLeft),(.int .u8 r.fState.fRegs.a0),(.int .u8 r.fState.fRegs.a1),(.int .u8 r.fState.fRegs.a2),(.int .u8 r.fState.fRegs.a3),(.int .u8 r.fX.fOp),(.int .i64 r.fX.fA),(.int .i64 r.fX.fB),(.int .i64 r.fX.fC),(.slice zhq r.fMem.length zhr),(.int .u8 r.fAct.fKind),(.int .i64 r.fAct.fA),(.int .i64 r.fAct.fB),(.slice zhs r.fAct.fData.length zht)]]:=by
 unfold y2z at h
 refine Calls.y8 (vs:=[(.pointer (some ⟨z6y,0,none⟩))]) (pre:=[stb z6y 65 [(.int .i64 zh.fState.fPc),(.int .i64 zh.fState.fLeft),(.int .u8 zh.fState.fRegs.a0),(.int .u8 zh.fState.fRegs.a1),(.int .u8 zh.fState.fRegs.a2),(.int .u8 zh.fState.fRegs.a3),(.int .u8 zh.fX.fOp),(.int .i64 zh.fX.fA),(.int .i64 zh.fX.fB),(.int .i64 zh.fX.fC),(.slice z5o zh.fMem.length z5p),(.int .u8 zh.fAct.fKind),(.int .i64 zh.fAct.fA),(.int .i64 zh.fAct.fB),(.slice z5q zh.fAct.fData.length z5r)]]) (env:=[(0,(.pointer (some ⟨z6y,0,none⟩)))]) Tryd.func84 rfl Tryd.ntmps84 rfl (hown) rfl ?_
 obtain ⟨zet,zlm,h⟩:=y3N h
 refine WC.y3G (fun (z5n : Int)=>(zet z5n = some r)) (fun (z5n : Int)=>[(0,(.pointer (some ⟨z6y,0,none⟩)))]) (fun (z5n : Int)=>[stb z6y 65 [(.int .i64 zh.fState.fPc),(.int .i64 z5n),(.int .u8 zh.fState.fRegs.a0),(.int .u8 zh.fState.fRegs.a1),(.int .u8 zh.fState.fRegs.a2),(.int .u8 zh.fState.fRegs.a3),(.int .u8 zh.fX.fOp),(.int .i64 zh.fX.fA),(.int .i64 zh.fX.fB),(.int .i64 zh.fX.fC),(.slice z5o zh.fMem.length z5p),(.int .u8 zh.fAct.fKind),(.int .i64 zh.fAct.fA),(.int .i64 zh.fAct.fB),(.slice z5q zh.fAct.fData.length z5r)]]) ?_ ?_
 ·skip
  refine WC.b (WC.a (WL.pu rfl ?_))
  refine WL.a (d:=3) rfl rfl rfl (y6 rfl) ?_
  refine WL.a (d:=4) rfl rfl rfl (y4 yH rfl rfl) ?_
  refine WL.a (d:=5) rfl rfl rfl (y4 y33 rfl rfl) ?_
  refine WL.a (d:=6) rfl rfl rfl (y5 yd rfl (yb .here rfl)) ?_
  refine WL.pu rfl (WL.nil (WX.a ?_))
  refine WC.cond rfl (fun zfg=>?_) (fun zfg=>?_)
  ·replace h:=ym h zfg
   refine WC.a (WL.pu rfl (WL.pu rfl ?_))
   refine WL.a (d:=10) rfl rfl rfl (y6 rfl) ?_
   refine WL.a (d:=11) rfl rfl rfl (y4 yl rfl rfl) ?_
   refine WL.a (d:=12) rfl rfl rfl (y4 yR rfl rfl) ?_
   refine WL.a (d:=13) rfl rfl rfl (y5 yd rfl (yb .here rfl)) ?_
   refine WL.a (d:=14) rfl rfl rfl (y6 rfl) ?_
   refine WL.a (d:=15) rfl rfl rfl (y4 yH rfl rfl) ?_
   refine WL.a (d:=16) rfl rfl rfl (y4 y33 rfl rfl) ?_
   refine WL.yf rfl rfl (yK (ds:=[(.int .i64 zh.fState.fPc),(.int .i64 zh.fX.fA),(.int .u8 zh.fState.fRegs.a0),(.int .u8 zh.fState.fRegs.a1),(.int .u8 zh.fState.fRegs.a2),(.int .u8 zh.fState.fRegs.a3),(.int .u8 zh.fX.fOp),(.int .i64 zh.fX.fA),(.int .i64 zh.fX.fB),(.int .i64 zh.fX.fC),(.slice z5o zh.fMem.length z5p),(.int .u8 zh.fAct.fKind),(.int .i64 zh.fAct.fA),(.int .i64 zh.fAct.fB),(.slice z5q zh.fAct.fData.length z5r)]) y20 rfl rfl rfl rfl rfl .here rfl rfl) ?_
   refine WL.nil ?_
   exact WX.mid (G:=Int) zh.fX.fA h (.cons rfl .nil) (.cons .here .nil)
  ·replace h:=yn h zfg
   refine WC.skip ?_
   exact WX.mid (G:=Int) zh.fState.fLeft h (.cons rfl .nil) (.cons .here .nil)
 ·rintro z5n h
  replace h:=(zlm z5n).symm.trans h
  refine WC.b (WC.a (WL.pu rfl ?_))
  refine WL.a (d:=18) rfl rfl rfl (y6 rfl) ?_
  refine WL.a (d:=19) rfl rfl rfl (y4 yH rfl rfl) ?_
  refine WL.a (d:=20) rfl rfl rfl (y4 y33 rfl rfl) ?_
  refine WL.a (d:=21) rfl rfl rfl (y5 yd rfl (yb .here rfl)) ?_
  refine WL.pu rfl ?_
  refine WL.a (d:=23) rfl rfl rfl (y6 rfl) ?_
  refine WL.a (d:=24) rfl rfl rfl (y4 yH rfl rfl) ?_
  refine WL.a (d:=25) rfl rfl rfl (y4 y33 rfl rfl) ?_
  refine WL.yf rfl rfl (yK (ds:=[(.int .i64 zh.fState.fPc),(.int .i64 (i64 (z5n - 1))),(.int .u8 zh.fState.fRegs.a0),(.int .u8 zh.fState.fRegs.a1),(.int .u8 zh.fState.fRegs.a2),(.int .u8 zh.fState.fRegs.a3),(.int .u8 zh.fX.fOp),(.int .i64 zh.fX.fA),(.int .i64 zh.fX.fB),(.int .i64 zh.fX.fC),(.slice z5o zh.fMem.length z5p),(.int .u8 zh.fAct.fKind),(.int .i64 zh.fAct.fA),(.int .i64 zh.fAct.fB),(.slice z5q zh.fAct.fData.length z5r)]) y20 rfl rfl rfl rfl rfl .here rfl rfl) ?_
  refine WL.nil (WX.a (WC.b (WC.a (WL.pu rfl ?_))))
  refine WL.a (d:=27) rfl rfl rfl (y6 rfl) ?_
  refine WL.a (d:=28) rfl rfl rfl (y4 yH rfl rfl) ?_
  refine WL.a (d:=29) rfl rfl rfl (y4 y33 rfl rfl) ?_
  refine WL.a (d:=30) rfl rfl rfl (y5 yd rfl (yb .here rfl)) ?_
  refine WL.pu rfl (WL.nil (WX.a ?_))
  refine WC.cond rfl (fun zfh=>?_) (fun zfh=>?_)
  ·replace h:=ym h zfh
   refine WC.a (WL.pu rfl ?_)
   refine WL.a (d:=33) rfl rfl rfl (y6 rfl) ?_
   refine WL.a (d:=34) rfl rfl rfl (y4 yH rfl rfl) ?_
   refine WL.a (d:=35) rfl rfl rfl (y4 y1d rfl rfl) ?_
   refine WL.a (d:=36) rfl rfl rfl (y5 yd rfl (yb .here rfl)) ?_
   refine WL.pu rfl ?_
   refine WL.a (d:=38) rfl rfl rfl (y6 rfl) ?_
   refine WL.a (d:=39) rfl rfl rfl (y4 yH rfl rfl) ?_
   refine WL.a (d:=40) rfl rfl rfl (y4 y1d rfl rfl) ?_
   refine WL.yf rfl rfl (yK (ds:=[(.int .i64 (i64 (zh.fState.fPc - 1))),(.int .i64 (i64 (z5n - 1))),(.int .u8 zh.fState.fRegs.a0),(.int .u8 zh.fState.fRegs.a1),(.int .u8 zh.fState.fRegs.a2),(.int .u8 zh.fState.fRegs.a3),(.int .u8 zh.fX.fOp),(.int .i64 zh.fX.fA),(.int .i64 zh.fX.fB),(.int .i64 zh.fX.fC),(.slice z5o zh.fMem.length z5p),(.int .u8 zh.fAct.fKind),(.int .i64 zh.fAct.fA),(.int .i64 zh.fAct.fB),(.slice z5q zh.fAct.fData.length z5r)]) y20 rfl rfl rfl rfl rfl .here rfl rfl) ?_
   refine WL.nil ?_
   obtain rfl:=Option.some.inj h
   refine WX.y9 Tryd.results84 .nil (fun w hw=>?_)
   exact ⟨z5o,z5p,z5q,z5r,yB,⟨zho,zhp⟩,hw.sub (.cons .here .nil)⟩
  ·replace h:=yn h zfh
   refine WC.skip ?_
   obtain rfl:=Option.some.inj h
   refine WX.y9 Tryd.results84 .nil (fun w hw=>?_)
   exact ⟨z5o,z5p,z5q,z5r,yB,⟨zho,zhp⟩,hw.sub (.cons .here .nil)⟩
def yk (z3N : Sproc_execution) (z9G : Int) : Option Unit :=
 chk ((0 : Int) ≤ z9G ∧ z9G < 4) (some ())
set_option maxRecDepth 20000 in
theorem yu (Z : Zp) (zdw : Addr) (zhu : Option Addr) (zhv : Nat) (zhw : Option Addr) (zhx : Nat) (z3N : Sproc_execution) (z9G : Int) (r : Unit)
  (h : yk z3N z9G = some r) (w₀ : World) (hz : PZ [] w₀ Z)
  (zwP : ZS Z 1 (fun r x=>r = e5 x) zhu zhv z3N.fMem)
  (zwQ : ZS Z 1 (fun r x=>r = e5 x) zhw zhx z3N.fAct.fData)
  (zwR : ZC Z zdw [(.int .i64 z3N.fState.fPc),(.int .i64 z3N.fState.fLeft),(.int .u8 z3N.fState.fRegs.a0),(.int .u8 z3N.fState.fRegs.a1),(.int .u8 z3N.fState.fRegs.a2),(.int .u8 z3N.fState.fRegs.a3),(.int .u8 z3N.fX.fOp),(.int .i64 z3N.fX.fA),(.int .i64 z3N.fX.fB),(.int .i64 z3N.fX.fC),(.slice zhu z3N.fMem.length zhv),(.int .u8 z3N.fAct.fKind),(.int .i64 z3N.fAct.fA),(.int .i64 z3N.fAct.fB),(.slice zhw z3N.fAct.fData.length zhx)]) :
  Calls Tryd.prog 108 #[(.pointer (some zdw)),(.int .i64 z9G)] w₀ fun e w'=>e = .returned (.pointer (some (Addr.add zdw (2 + (z9G : Int).toNat)))) ∧ Hp [] w₀ w' []:=by
 unfold yk at h
 refine Calls.y8 (vs:=[(.pointer (some zdw)),(.int .i64 z9G)]) (pre:=[]) (env:=[(0,(.pointer (some zdw))),(1,(.int .i64 z9G))]) Tryd.func108 rfl Tryd.ntmps108 rfl (Hp.nil w₀ _) rfl ?_
 refine WC.b (WC.a (WL.pu rfl (WL.nil (WX.a (WC.b ?_)))))
 obtain ⟨zln,h⟩:=ya h
 refine WC.a (WL.pu rfl (WL.pu rfl ?_))
 refine WL.a (d:=7) rfl rfl rfl (y6 rfl) ?_
 refine WL.a (d:=8) rfl rfl rfl (y4 yH rfl rfl) ?_
 refine WL.a (d:=9) rfl rfl rfl (y4 y7v rfl rfl) ?_
 refine WL.a (d:=10) rfl rfl rfl (y3u arT_34 rfl rfl zln add_z1) ?_
 refine WL.pu rfl (WL.nil (WX.a (WC.ret ?_)))
 skip
 refine WX.yi Tryd.results108 (.tmp rfl .nil) (fun w hw=>?_)
 exact ⟨y1a rfl,hw.sub .nil⟩
def y2S (zg : Sproc_execution) : Option Sproc_execution :=
 (yk zg zg.fX.fA).bind fun zlo=>chk ((0 : Int) ≤ zg.fX.fA ∧ zg.fX.fA < 4) (some (⟨(⟨zg.fState.fPc,zg.fState.fLeft,(⟨nth (([zg.fState.fRegs.a0,zg.fState.fRegs.a1,zg.fState.fRegs.a2,zg.fState.fRegs.a3] : List Int).set (zg.fX.fA : Int).toNat (u8 zg.fX.fB)) 0,nth (([zg.fState.fRegs.a0,zg.fState.fRegs.a1,zg.fState.fRegs.a2,zg.fState.fRegs.a3] : List Int).set (zg.fX.fA : Int).toNat (u8 zg.fX.fB)) 1,nth (([zg.fState.fRegs.a0,zg.fState.fRegs.a1,zg.fState.fRegs.a2,zg.fState.fRegs.a3] : List Int).set (zg.fX.fA : Int).toNat (u8 zg.fX.fB)) 2,nth (([zg.fState.fRegs.a0,zg.fState.fRegs.a1,zg.fState.fRegs.a2,zg.fState.fRegs.a3] : List Int).set (zg.fX.fA : Int).toNat (u8 zg.fX.fB)) 3⟩ : S34)⟩ : Sproc_State),zg.fX,zg.fMem,zg.fAct⟩ : Sproc_execution))
set_option maxRecDepth 20000 in
theorem y5q (Z : Zp) (z85 : Nat) (z9H : Option Addr) (z9I : Nat) (z9J : Option Addr) (z9K : Nat) (zg : Sproc_execution) (r : Sproc_execution)
  (h : y2S zg = some r) (w₀ : World) (hz : PZ (fps [stb z85 65 [(.int .i64 zg.fState.fPc),(.int .i64 zg.fState.fLeft),(.int .u8 zg.fState.fRegs.a0),(.int .u8 zg.fState.fRegs.a1),(.int .u8 zg.fState.fRegs.a2),(.int .u8 zg.fState.fRegs.a3),(.int .u8 zg.fX.fOp),(.int .i64 zg.fX.fA),(.int .i64 zg.fX.fB),(.int .i64 zg.fX.fC),(.slice z9H zg.fMem.length z9I),(.int .u8 zg.fAct.fKind),(.int .i64 zg.fAct.fA),(.int .i64 zg.fAct.fB),(.slice z9J zg.fAct.fData.length z9K)]]) w₀ Z)
  (zhy : ZS Z 1 (fun r x=>r = e5 x) z9H z9I zg.fMem)
  (zhz : ZS Z 1 (fun r x=>r = e5 x) z9J z9K zg.fAct.fData)
  (hown : Hp (fps [stb z85 65 [(.int .i64 zg.fState.fPc),(.int .i64 zg.fState.fLeft),(.int .u8 zg.fState.fRegs.a0),(.int .u8 zg.fState.fRegs.a1),(.int .u8 zg.fState.fRegs.a2),(.int .u8 zg.fState.fRegs.a3),(.int .u8 zg.fX.fOp),(.int .i64 zg.fX.fA),(.int .i64 zg.fX.fB),(.int .i64 zg.fX.fC),(.slice z9H zg.fMem.length z9I),(.int .u8 zg.fAct.fKind),(.int .i64 zg.fAct.fA),(.int .i64 zg.fAct.fB),(.slice z9J zg.fAct.fData.length z9K)]]) w₀ w₀ [stb z85 65 [(.int .i64 zg.fState.fPc),(.int .i64 zg.fState.fLeft),(.int .u8 zg.fState.fRegs.a0),(.int .u8 zg.fState.fRegs.a1),(.int .u8 zg.fState.fRegs.a2),(.int .u8 zg.fState.fRegs.a3),(.int .u8 zg.fX.fOp),(.int .i64 zg.fX.fA),(.int .i64 zg.fX.fB),(.int .i64 zg.fX.fC),(.slice z9H zg.fMem.length z9I),(.int .u8 zg.fAct.fKind),(.int .i64 zg.fAct.fA),(.int .i64 zg.fAct.fB),(.slice z9J zg.fAct.fData.length z9K)]]) :
  Calls Tryd.prog 85 #[(.pointer (some ⟨z85,0,none⟩))] w₀ fun e w'=>∃ zhA : Option Addr,∃ zhB : Nat,∃ zhC : Option Addr,∃ zhD : Nat,e = .returned (.tuple #[]) ∧ ((ZS Z 1 (fun r x=>r = e5 x) zhA zhB r.fMem) ∧ (ZS Z 1 (fun r x=>r = e5 x) zhC zhD r.fAct.fData)) ∧ Hp (fps [stb z85 65 [(.int .i64 zg.fState.fPc),(.int .i64 zg.fState.fLeft),(.int .u8 zg.fState.fRegs.a0),(.int .u8 zg.fState.fRegs.a1),(.int .u8 zg.fState.fRegs.a2),(.int .u8 zg.fState.fRegs.a3),(.int .u8 zg.fX.fOp),(.int .i64 zg.fX.fA),(.int .i64 zg.fX.fB),(.int .i64 zg.fX.fC),(.slice z9H zg.fMem.length z9I),(.int .u8 zg.fAct.fKind),(.int .i64 zg.fAct.fA),(.int .i64 zg.fAct.fB),(.slice z9J zg.fAct.fData.length z9K)]]) w₀ w' [stb z85 65 [(.int .i64 r.fState.fPc),(.int .i64 r.fState.fLeft),(.int .u8 r.fState.fRegs.a0),(.int .u8 r.fState.fRegs.a1),(.int .u8 r.fState.fRegs.a2),(.int .u8 r.fState.fRegs.a3),(.int .u8 r.fX.fOp),(.int .i64 r.fX.fA),(.int .i64 r.fX.fB),(.int .i64 r.fX.fC),(.slice zhA r.fMem.length zhB),(.int .u8 r.fAct.fKind),(.int .i64 r.fAct.fA),(.int .i64 r.fAct.fB),(.slice zhC r.fAct.fData.length zhD)]]:=by
 unfold y2S at h
 refine Calls.y8 (vs:=[(.pointer (some ⟨z85,0,none⟩))]) (pre:=[stb z85 65 [(.int .i64 zg.fState.fPc),(.int .i64 zg.fState.fLeft),(.int .u8 zg.fState.fRegs.a0),(.int .u8 zg.fState.fRegs.a1),(.int .u8 zg.fState.fRegs.a2),(.int .u8 zg.fState.fRegs.a3),(.int .u8 zg.fX.fOp),(.int .i64 zg.fX.fA),(.int .i64 zg.fX.fB),(.int .i64 zg.fX.fC),(.slice z9H zg.fMem.length z9I),(.int .u8 zg.fAct.fKind),(.int .i64 zg.fAct.fA),(.int .i64 zg.fAct.fB),(.slice z9J zg.fAct.fData.length z9K)]]) (env:=[(0,(.pointer (some ⟨z85,0,none⟩)))]) Tryd.func85 rfl Tryd.ntmps85 rfl (hown) rfl ?_
 obtain ⟨zlo,zlp,h⟩:=zb h
 obtain ⟨zlq,h⟩:=ya h
 refine WC.y11 (fun i=>[14].contains i) [] rfl ?_
 refine WD.a (i:=0) (d:=2) (by kernel_rfl) rfl z2 z6 rfl rfl rfl (fun _=>q_m rfl) ?_
 refine WD.a (i:=1) (d:=3) (by kernel_rfl) rfl z2 z6 rfl rfl rfl (fun _=>q_m rfl) ?_
 refine WD.a (i:=2) (d:=4) (by kernel_rfl) rfl z2 z6 rfl rfl rfl (fun _=>y6 rfl) ?_
 refine WD.a (i:=3) (d:=5) (by kernel_rfl) rfl z2 z6 rfl rfl rfl (fun _=>y4 yl rfl rfl) ?_
 refine WD.a (i:=4) (d:=6) (by kernel_rfl) rfl z2 z6 rfl rfl rfl (fun _=>y4 yR rfl rfl) ?_
 refine WD.e (i:=5) (d:=7) (by kernel_rfl) rfl z2 z6 rfl rfl rfl (y5 yd rfl (yb .here rfl)) ?_
 refine WD.c (i:=6) (d:=8) (by kernel_rfl) rfl z2 z6 rfl rfl rfl (zk (l:=[.tmp 2,.tmp 7]) Tryd.call108 (.cons rfl (.cons rfl .nil))) (ccl hz .nil (.cons .here .nil) fun w pz ho la=>yu _ _ _ _ _ _ _ _ _ zlp w pz (zhy.mono (Zle.left _ _)) (zhz.mono (Zle.left _ _)) ((la _ (.head _) _).stb)) ?_
 refine WD.a (i:=7) (d:=9) (by kernel_rfl) rfl z2 z6 rfl rfl rfl (fun _=>q_m rfl) ?_
 refine WD.a (i:=8) (d:=10) (by kernel_rfl) rfl z2 z6 rfl rfl rfl (fun _=>y6 rfl) ?_
 refine WD.a (i:=9) (d:=11) (by kernel_rfl) rfl z2 z6 rfl rfl rfl (fun _=>y4 yl rfl rfl) ?_
 refine WD.a (i:=10) (d:=12) (by kernel_rfl) rfl z2 z6 rfl rfl rfl (fun _=>y4 y16 rfl rfl) ?_
 refine WD.e (i:=11) (d:=13) (by kernel_rfl) rfl z2 z6 rfl rfl rfl (y5 yd rfl (yb .here rfl)) ?_
 refine WD.a (i:=12) (d:=14) (by kernel_rfl) rfl z2 z6 rfl rfl rfl (fun _=>y2Z Tryd.underlying3 Tryd.underlying5 rfl rfl) ?_
 refine WD.a (i:=13) (d:=15) (by kernel_rfl) rfl z2 z6 rfl rfl rfl (fun _=>y6 rfl) ?_
 refine WD.y1J (i:=14) rfl (by kernel_rfl) rfl rfl rfl (by kernel_rfl) (y1M (l:=([zg.fState.fRegs.a0,zg.fState.fRegs.a1,zg.fState.fRegs.a2,zg.fState.fRegs.a3] : List Int)) (f:=Value.int .u8) (u:=u8 zg.fX.fB) (k:=2) (m:=6) (j:=4) (ds:=[(.int .i64 zg.fState.fPc),(.int .i64 zg.fState.fLeft),(.int .u8 (nth (([zg.fState.fRegs.a0,zg.fState.fRegs.a1,zg.fState.fRegs.a2,zg.fState.fRegs.a3] : List Int).set (zg.fX.fA : Int).toNat (u8 zg.fX.fB)) 0)),(.int .u8 (nth (([zg.fState.fRegs.a0,zg.fState.fRegs.a1,zg.fState.fRegs.a2,zg.fState.fRegs.a3] : List Int).set (zg.fX.fA : Int).toNat (u8 zg.fX.fB)) 1)),(.int .u8 (nth (([zg.fState.fRegs.a0,zg.fState.fRegs.a1,zg.fState.fRegs.a2,zg.fState.fRegs.a3] : List Int).set (zg.fX.fA : Int).toNat (u8 zg.fX.fB)) 2)),(.int .u8 (nth (([zg.fState.fRegs.a0,zg.fState.fRegs.a1,zg.fState.fRegs.a2,zg.fState.fRegs.a3] : List Int).set (zg.fX.fA : Int).toNat (u8 zg.fX.fB)) 3)),(.int .u8 zg.fX.fOp),(.int .i64 zg.fX.fA),(.int .i64 zg.fX.fB),(.int .i64 zg.fX.fC),(.slice z9H zg.fMem.length z9I),(.int .u8 zg.fAct.fKind),(.int .i64 zg.fAct.fA),(.int .i64 zg.fAct.fB),(.slice z9J zg.fAct.fData.length z9K)]) y30 rfl rfl rfl rfl .here rfl rfl zlq rfl rfl) ?_
 refine WD.done (by kernel_rfl) ?_
 obtain rfl:=Option.some.inj h
 refine WX.y9 Tryd.results85 .nil (fun w hw=>?_)
 exact ⟨z9H,z9I,z9J,z9K,yB,⟨zhy,zhz⟩,hw.sub (.cons .here .nil)⟩
def y2T (z8 : Sproc_execution) : Option Sproc_execution :=
 (yk z8 z8.fX.fA).bind fun zlr=>chk ((0 : Int) ≤ z8.fX.fA ∧ z8.fX.fA < 4) ((yk z8 z8.fX.fB).bind fun zls=>chk ((0 : Int) ≤ z8.fX.fB ∧ z8.fX.fB < 4) (some (⟨(⟨z8.fState.fPc,z8.fState.fLeft,(⟨nth (([z8.fState.fRegs.a0,z8.fState.fRegs.a1,z8.fState.fRegs.a2,z8.fState.fRegs.a3] : List Int).set (z8.fX.fA : Int).toNat (u8 ((nth ([z8.fState.fRegs.a0,z8.fState.fRegs.a1,z8.fState.fRegs.a2,z8.fState.fRegs.a3] : List Int) z8.fX.fA) + (nth ([z8.fState.fRegs.a0,z8.fState.fRegs.a1,z8.fState.fRegs.a2,z8.fState.fRegs.a3] : List Int) z8.fX.fB)))) 0,nth (([z8.fState.fRegs.a0,z8.fState.fRegs.a1,z8.fState.fRegs.a2,z8.fState.fRegs.a3] : List Int).set (z8.fX.fA : Int).toNat (u8 ((nth ([z8.fState.fRegs.a0,z8.fState.fRegs.a1,z8.fState.fRegs.a2,z8.fState.fRegs.a3] : List Int) z8.fX.fA) + (nth ([z8.fState.fRegs.a0,z8.fState.fRegs.a1,z8.fState.fRegs.a2,z8.fState.fRegs.a3] : List Int) z8.fX.fB)))) 1,nth (([z8.fState.fRegs.a0,z8.fState.fRegs.a1,z8.fState.fRegs.a2,z8.fState.fRegs.a3] : List Int).set (z8.fX.fA : Int).toNat (u8 ((nth ([z8.fState.fRegs.a0,z8.fState.fRegs.a1,z8.fState.fRegs.a2,z8.fState.fRegs.a3] : List Int) z8.fX.fA) + (nth ([z8.fState.fRegs.a0,z8.fState.fRegs.a1,z8.fState.fRegs.a2,z8.fState.fRegs.a3] : List Int) z8.fX.fB)))) 2,nth (([z8.fState.fRegs.a0,z8.fState.fRegs.a1,z8.fState.fRegs.a2,z8.fState.fRegs.a3] : List Int).set (z8.fX.fA : Int).toNat (u8 ((nth ([z8.fState.fRegs.a0,z8.fState.fRegs.a1,z8.fState.fRegs.a2,z8.fState.fRegs.a3] : List Int) z8.fX.fA) + (nth ([z8.fState.fRegs.a0,z8.fState.fRegs.a1,z8.fState.fRegs.a2,z8.fState.fRegs.a3] : List Int) z8.fX.fB)))) 3⟩ : S34)⟩ : Sproc_State),z8.fX,z8.fMem,z8.fAct⟩ : Sproc_execution)))
set_option maxRecDepth 20000 in
theorem y5r (Z : Zp) (z86 : Nat) (z9L : Option Addr) (z9M : Nat) (z9N : Option Addr) (z9O : Nat) (z8 : Sproc_execution) (r : Sproc_execution)
  (h : y2T z8 = some r) (w₀ : World) (hz : PZ (fps [stb z86 65 [(.int .i64 z8.fState.fPc),(.int .i64 z8.fState.fLeft),(.int .u8 z8.fState.fRegs.a0),(.int .u8 z8.fState.fRegs.a1),(.int .u8 z8.fState.fRegs.a2),(.int .u8 z8.fState.fRegs.a3),(.int .u8 z8.fX.fOp),(.int .i64 z8.fX.fA),(.int .i64 z8.fX.fB),(.int .i64 z8.fX.fC),(.slice z9L z8.fMem.length z9M),(.int .u8 z8.fAct.fKind),(.int .i64 z8.fAct.fA),(.int .i64 z8.fAct.fB),(.slice z9N z8.fAct.fData.length z9O)]]) w₀ Z)
  (zfi : ZS Z 1 (fun r x=>r = e5 x) z9L z9M z8.fMem)
  (zfj : ZS Z 1 (fun r x=>r = e5 x) z9N z9O z8.fAct.fData)
  (hown : Hp (fps [stb z86 65 [(.int .i64 z8.fState.fPc),(.int .i64 z8.fState.fLeft),(.int .u8 z8.fState.fRegs.a0),(.int .u8 z8.fState.fRegs.a1),(.int .u8 z8.fState.fRegs.a2),(.int .u8 z8.fState.fRegs.a3),(.int .u8 z8.fX.fOp),(.int .i64 z8.fX.fA),(.int .i64 z8.fX.fB),(.int .i64 z8.fX.fC),(.slice z9L z8.fMem.length z9M),(.int .u8 z8.fAct.fKind),(.int .i64 z8.fAct.fA),(.int .i64 z8.fAct.fB),(.slice z9N z8.fAct.fData.length z9O)]]) w₀ w₀ [stb z86 65 [(.int .i64 z8.fState.fPc),(.int .i64 z8.fState.fLeft),(.int .u8 z8.fState.fRegs.a0),(.int .u8 z8.fState.fRegs.a1),(.int .u8 z8.fState.fRegs.a2),(.int .u8 z8.fState.fRegs.a3),(.int .u8 z8.fX.fOp),(.int .i64 z8.fX.fA),(.int .i64 z8.fX.fB),(.int .i64 z8.fX.fC),(.slice z9L z8.fMem.length z9M),(.int .u8 z8.fAct.fKind),(.int .i64 z8.fAct.fA),(.int .i64 z8.fAct.fB),(.slice z9N z8.fAct.fData.length z9O)]]) :
  Calls Tryd.prog 82 #[(.pointer (some ⟨z86,0,none⟩))] w₀ fun e w'=>∃ zhE : Option Addr,∃ zhF : Nat,∃ zhG : Option Addr,∃ zhH : Nat,e = .returned (.tuple #[]) ∧ ((ZS Z 1 (fun r x=>r = e5 x) zhE zhF r.fMem) ∧ (ZS Z 1 (fun r x=>r = e5 x) zhG zhH r.fAct.fData)) ∧ Hp (fps [stb z86 65 [(.int .i64 z8.fState.fPc),(.int .i64 z8.fState.fLeft),(.int .u8 z8.fState.fRegs.a0),(.int .u8 z8.fState.fRegs.a1),(.int .u8 z8.fState.fRegs.a2),(.int .u8 z8.fState.fRegs.a3),(.int .u8 z8.fX.fOp),(.int .i64 z8.fX.fA),(.int .i64 z8.fX.fB),(.int .i64 z8.fX.fC),(.slice z9L z8.fMem.length z9M),(.int .u8 z8.fAct.fKind),(.int .i64 z8.fAct.fA),(.int .i64 z8.fAct.fB),(.slice z9N z8.fAct.fData.length z9O)]]) w₀ w' [stb z86 65 [(.int .i64 r.fState.fPc),(.int .i64 r.fState.fLeft),(.int .u8 r.fState.fRegs.a0),(.int .u8 r.fState.fRegs.a1),(.int .u8 r.fState.fRegs.a2),(.int .u8 r.fState.fRegs.a3),(.int .u8 r.fX.fOp),(.int .i64 r.fX.fA),(.int .i64 r.fX.fB),(.int .i64 r.fX.fC),(.slice zhE r.fMem.length zhF),(.int .u8 r.fAct.fKind),(.int .i64 r.fAct.fA),(.int .i64 r.fAct.fB),(.slice zhG r.fAct.fData.length zhH)]]:=by
 unfold y2T at h
 refine Calls.y8 (vs:=[(.pointer (some ⟨z86,0,none⟩))]) (pre:=[stb z86 65 [(.int .i64 z8.fState.fPc),(.int .i64 z8.fState.fLeft),(.int .u8 z8.fState.fRegs.a0),(.int .u8 z8.fState.fRegs.a1),(.int .u8 z8.fState.fRegs.a2),(.int .u8 z8.fState.fRegs.a3),(.int .u8 z8.fX.fOp),(.int .i64 z8.fX.fA),(.int .i64 z8.fX.fB),(.int .i64 z8.fX.fC),(.slice z9L z8.fMem.length z9M),(.int .u8 z8.fAct.fKind),(.int .i64 z8.fAct.fA),(.int .i64 z8.fAct.fB),(.slice z9N z8.fAct.fData.length z9O)]]) (env:=[(0,(.pointer (some ⟨z86,0,none⟩)))]) Tryd.func82 rfl Tryd.ntmps82 rfl (hown) rfl ?_
 obtain ⟨zlr,zlt,h⟩:=zb h
 obtain ⟨zhI,h⟩:=ya h
 obtain ⟨zls,zlu,h⟩:=zb h
 obtain ⟨zlv,h⟩:=ya h
 refine WC.y11 (fun i=>[20].contains i) [] rfl ?_
 refine WD.a (i:=0) (d:=2) (by kernel_rfl) rfl z2 z6 rfl rfl rfl (fun _=>q_m rfl) ?_
 refine WD.a (i:=1) (d:=3) (by kernel_rfl) rfl z2 z6 rfl rfl rfl (fun _=>q_m rfl) ?_
 refine WD.a (i:=2) (d:=4) (by kernel_rfl) rfl z2 z6 rfl rfl rfl (fun _=>y6 rfl) ?_
 refine WD.a (i:=3) (d:=5) (by kernel_rfl) rfl z2 z6 rfl rfl rfl (fun _=>y4 yl rfl rfl) ?_
 refine WD.a (i:=4) (d:=6) (by kernel_rfl) rfl z2 z6 rfl rfl rfl (fun _=>y4 yR rfl rfl) ?_
 refine WD.e (i:=5) (d:=7) (by kernel_rfl) rfl z2 z6 rfl rfl rfl (y5 yd rfl (yb .here rfl)) ?_
 refine WD.c (i:=6) (d:=8) (by kernel_rfl) rfl z2 z6 rfl rfl rfl (zk (l:=[.tmp 2,.tmp 7]) Tryd.call108 (.cons rfl (.cons rfl .nil))) (ccl hz .nil (.cons .here .nil) fun w pz ho la=>yu _ _ _ _ _ _ _ _ _ zlt w pz (zfi.mono (Zle.left _ _)) (zfj.mono (Zle.left _ _)) ((la _ (.head _) _).stb)) ?_
 refine WD.a (i:=7) (d:=9) (by kernel_rfl) rfl z2 z6 rfl rfl rfl (fun _=>y6 rfl) ?_
 refine WD.e (i:=8) (d:=10) (by kernel_rfl) rfl z2 z6 rfl rfl rfl (y5 yC rfl (yY (l:=([z8.fState.fRegs.a0,z8.fState.fRegs.a1,z8.fState.fRegs.a2,z8.fState.fRegs.a3] : List Int)) (f:=Value.int .u8) (k:=2) (m:=6) .here rfl rfl zhI)) ?_
 refine WD.a (i:=9) (d:=11) (by kernel_rfl) rfl z2 z6 rfl rfl rfl (fun _=>q_m rfl) ?_
 refine WD.a (i:=10) (d:=12) (by kernel_rfl) rfl z2 z6 rfl rfl rfl (fun _=>q_m rfl) ?_
 refine WD.a (i:=11) (d:=13) (by kernel_rfl) rfl z2 z6 rfl rfl rfl (fun _=>y6 rfl) ?_
 refine WD.a (i:=12) (d:=14) (by kernel_rfl) rfl z2 z6 rfl rfl rfl (fun _=>y4 yl rfl rfl) ?_
 refine WD.a (i:=13) (d:=15) (by kernel_rfl) rfl z2 z6 rfl rfl rfl (fun _=>y4 y16 rfl rfl) ?_
 refine WD.e (i:=14) (d:=16) (by kernel_rfl) rfl z2 z6 rfl rfl rfl (y5 yd rfl (yb .here rfl)) ?_
 refine WD.c (i:=15) (d:=17) (by kernel_rfl) rfl z2 z6 rfl rfl rfl (zk (l:=[.tmp 11,.tmp 16]) Tryd.call108 (.cons rfl (.cons rfl .nil))) (ccl hz .nil (.cons .here .nil) fun w pz ho la=>yu _ _ _ _ _ _ _ _ _ zlu w pz (zfi.mono (Zle.left _ _)) (zfj.mono (Zle.left _ _)) ((la _ (.head _) _).stb)) ?_
 refine WD.a (i:=16) (d:=18) (by kernel_rfl) rfl z2 z6 rfl rfl rfl (fun _=>y6 rfl) ?_
 refine WD.e (i:=17) (d:=19) (by kernel_rfl) rfl z2 z6 rfl rfl rfl (y5 yC rfl (yY (l:=([z8.fState.fRegs.a0,z8.fState.fRegs.a1,z8.fState.fRegs.a2,z8.fState.fRegs.a3] : List Int)) (f:=Value.int .u8) (k:=2) (m:=6) .here rfl rfl zlv)) ?_
 refine WD.a (i:=18) (d:=20) (by kernel_rfl) rfl z2 z6 rfl rfl rfl (fun _=>y5h rfl rfl rfl) ?_
 refine WD.a (i:=19) (d:=21) (by kernel_rfl) rfl z2 z6 rfl rfl rfl (fun _=>y6 rfl) ?_
 refine WD.y1J (i:=20) rfl (by kernel_rfl) rfl rfl rfl (by kernel_rfl) (y1M (l:=([z8.fState.fRegs.a0,z8.fState.fRegs.a1,z8.fState.fRegs.a2,z8.fState.fRegs.a3] : List Int)) (f:=Value.int .u8) (u:=u8 ((nth ([z8.fState.fRegs.a0,z8.fState.fRegs.a1,z8.fState.fRegs.a2,z8.fState.fRegs.a3] : List Int) z8.fX.fA) + (nth ([z8.fState.fRegs.a0,z8.fState.fRegs.a1,z8.fState.fRegs.a2,z8.fState.fRegs.a3] : List Int) z8.fX.fB))) (k:=2) (m:=6) (j:=4) (ds:=[(.int .i64 z8.fState.fPc),(.int .i64 z8.fState.fLeft),(.int .u8 (nth (([z8.fState.fRegs.a0,z8.fState.fRegs.a1,z8.fState.fRegs.a2,z8.fState.fRegs.a3] : List Int).set (z8.fX.fA : Int).toNat (u8 ((nth ([z8.fState.fRegs.a0,z8.fState.fRegs.a1,z8.fState.fRegs.a2,z8.fState.fRegs.a3] : List Int) z8.fX.fA) + (nth ([z8.fState.fRegs.a0,z8.fState.fRegs.a1,z8.fState.fRegs.a2,z8.fState.fRegs.a3] : List Int) z8.fX.fB)))) 0)),(.int .u8 (nth (([z8.fState.fRegs.a0,z8.fState.fRegs.a1,z8.fState.fRegs.a2,z8.fState.fRegs.a3] : List Int).set (z8.fX.fA : Int).toNat (u8 ((nth ([z8.fState.fRegs.a0,z8.fState.fRegs.a1,z8.fState.fRegs.a2,z8.fState.fRegs.a3] : List Int) z8.fX.fA) + (nth ([z8.fState.fRegs.a0,z8.fState.fRegs.a1,z8.fState.fRegs.a2,z8.fState.fRegs.a3] : List Int) z8.fX.fB)))) 1)),(.int .u8 (nth (([z8.fState.fRegs.a0,z8.fState.fRegs.a1,z8.fState.fRegs.a2,z8.fState.fRegs.a3] : List Int).set (z8.fX.fA : Int).toNat (u8 ((nth ([z8.fState.fRegs.a0,z8.fState.fRegs.a1,z8.fState.fRegs.a2,z8.fState.fRegs.a3] : List Int) z8.fX.fA) + (nth ([z8.fState.fRegs.a0,z8.fState.fRegs.a1,z8.fState.fRegs.a2,z8.fState.fRegs.a3] : List Int) z8.fX.fB)))) 2)),(.int .u8 (nth (([z8.fState.fRegs.a0,z8.fState.fRegs.a1,z8.fState.fRegs.a2,z8.fState.fRegs.a3] : List Int).set (z8.fX.fA : Int).toNat (u8 ((nth ([z8.fState.fRegs.a0,z8.fState.fRegs.a1,z8.fState.fRegs.a2,z8.fState.fRegs.a3] : List Int) z8.fX.fA) + (nth ([z8.fState.fRegs.a0,z8.fState.fRegs.a1,z8.fState.fRegs.a2,z8.fState.fRegs.a3] : List Int) z8.fX.fB)))) 3)),(.int .u8 z8.fX.fOp),(.int .i64 z8.fX.fA),(.int .i64 z8.fX.fB),(.int .i64 z8.fX.fC),(.slice z9L z8.fMem.length z9M),(.int .u8 z8.fAct.fKind),(.int .i64 z8.fAct.fA),(.int .i64 z8.fAct.fB),(.slice z9N z8.fAct.fData.length z9O)]) y30 rfl rfl rfl rfl .here rfl rfl zhI rfl rfl) ?_
 refine WD.done (by kernel_rfl) ?_
 obtain rfl:=Option.some.inj h
 refine WX.y9 Tryd.results82 .nil (fun w hw=>?_)
 exact ⟨z9L,z9M,z9N,z9O,yB,⟨zfi,zfj⟩,hw.sub (.cons .here .nil)⟩
def y2U (za : Sproc_execution) : Option Sproc_execution :=
 (yk za za.fX.fA).bind fun zlw=>chk ((0 : Int) ≤ za.fX.fA ∧ za.fX.fA < 4) ((yk za za.fX.fB).bind fun zlx=>chk ((0 : Int) ≤ za.fX.fB ∧ za.fX.fB < 4) (some (⟨(⟨za.fState.fPc,za.fState.fLeft,(⟨nth (([za.fState.fRegs.a0,za.fState.fRegs.a1,za.fState.fRegs.a2,za.fState.fRegs.a3] : List Int).set (za.fX.fA : Int).toNat (u8 ((nth ([za.fState.fRegs.a0,za.fState.fRegs.a1,za.fState.fRegs.a2,za.fState.fRegs.a3] : List Int) za.fX.fA) - (nth ([za.fState.fRegs.a0,za.fState.fRegs.a1,za.fState.fRegs.a2,za.fState.fRegs.a3] : List Int) za.fX.fB)))) 0,nth (([za.fState.fRegs.a0,za.fState.fRegs.a1,za.fState.fRegs.a2,za.fState.fRegs.a3] : List Int).set (za.fX.fA : Int).toNat (u8 ((nth ([za.fState.fRegs.a0,za.fState.fRegs.a1,za.fState.fRegs.a2,za.fState.fRegs.a3] : List Int) za.fX.fA) - (nth ([za.fState.fRegs.a0,za.fState.fRegs.a1,za.fState.fRegs.a2,za.fState.fRegs.a3] : List Int) za.fX.fB)))) 1,nth (([za.fState.fRegs.a0,za.fState.fRegs.a1,za.fState.fRegs.a2,za.fState.fRegs.a3] : List Int).set (za.fX.fA : Int).toNat (u8 ((nth ([za.fState.fRegs.a0,za.fState.fRegs.a1,za.fState.fRegs.a2,za.fState.fRegs.a3] : List Int) za.fX.fA) - (nth ([za.fState.fRegs.a0,za.fState.fRegs.a1,za.fState.fRegs.a2,za.fState.fRegs.a3] : List Int) za.fX.fB)))) 2,nth (([za.fState.fRegs.a0,za.fState.fRegs.a1,za.fState.fRegs.a2,za.fState.fRegs.a3] : List Int).set (za.fX.fA : Int).toNat (u8 ((nth ([za.fState.fRegs.a0,za.fState.fRegs.a1,za.fState.fRegs.a2,za.fState.fRegs.a3] : List Int) za.fX.fA) - (nth ([za.fState.fRegs.a0,za.fState.fRegs.a1,za.fState.fRegs.a2,za.fState.fRegs.a3] : List Int) za.fX.fB)))) 3⟩ : S34)⟩ : Sproc_State),za.fX,za.fMem,za.fAct⟩ : Sproc_execution)))
set_option maxRecDepth 20000 in
theorem y5s (Z : Zp) (z87 : Nat) (z9P : Option Addr) (z9Q : Nat) (z9R : Option Addr) (z9S : Nat) (za : Sproc_execution) (r : Sproc_execution)
  (h : y2U za = some r) (w₀ : World) (hz : PZ (fps [stb z87 65 [(.int .i64 za.fState.fPc),(.int .i64 za.fState.fLeft),(.int .u8 za.fState.fRegs.a0),(.int .u8 za.fState.fRegs.a1),(.int .u8 za.fState.fRegs.a2),(.int .u8 za.fState.fRegs.a3),(.int .u8 za.fX.fOp),(.int .i64 za.fX.fA),(.int .i64 za.fX.fB),(.int .i64 za.fX.fC),(.slice z9P za.fMem.length z9Q),(.int .u8 za.fAct.fKind),(.int .i64 za.fAct.fA),(.int .i64 za.fAct.fB),(.slice z9R za.fAct.fData.length z9S)]]) w₀ Z)
  (zfk : ZS Z 1 (fun r x=>r = e5 x) z9P z9Q za.fMem)
  (zfl : ZS Z 1 (fun r x=>r = e5 x) z9R z9S za.fAct.fData)
  (hown : Hp (fps [stb z87 65 [(.int .i64 za.fState.fPc),(.int .i64 za.fState.fLeft),(.int .u8 za.fState.fRegs.a0),(.int .u8 za.fState.fRegs.a1),(.int .u8 za.fState.fRegs.a2),(.int .u8 za.fState.fRegs.a3),(.int .u8 za.fX.fOp),(.int .i64 za.fX.fA),(.int .i64 za.fX.fB),(.int .i64 za.fX.fC),(.slice z9P za.fMem.length z9Q),(.int .u8 za.fAct.fKind),(.int .i64 za.fAct.fA),(.int .i64 za.fAct.fB),(.slice z9R za.fAct.fData.length z9S)]]) w₀ w₀ [stb z87 65 [(.int .i64 za.fState.fPc),(.int .i64 za.fState.fLeft),(.int .u8 za.fState.fRegs.a0),(.int .u8 za.fState.fRegs.a1),(.int .u8 za.fState.fRegs.a2),(.int .u8 za.fState.fRegs.a3),(.int .u8 za.fX.fOp),(.int .i64 za.fX.fA),(.int .i64 za.fX.fB),(.int .i64 za.fX.fC),(.slice z9P za.fMem.length z9Q),(.int .u8 za.fAct.fKind),(.int .i64 za.fAct.fA),(.int .i64 za.fAct.fB),(.slice z9R za.fAct.fData.length z9S)]]) :
  Calls Tryd.prog 86 #[(.pointer (some ⟨z87,0,none⟩))] w₀ fun e w'=>∃ zhJ : Option Addr,∃ zhK : Nat,∃ zhL : Option Addr,∃ zhM : Nat,e = .returned (.tuple #[]) ∧ ((ZS Z 1 (fun r x=>r = e5 x) zhJ zhK r.fMem) ∧ (ZS Z 1 (fun r x=>r = e5 x) zhL zhM r.fAct.fData)) ∧ Hp (fps [stb z87 65 [(.int .i64 za.fState.fPc),(.int .i64 za.fState.fLeft),(.int .u8 za.fState.fRegs.a0),(.int .u8 za.fState.fRegs.a1),(.int .u8 za.fState.fRegs.a2),(.int .u8 za.fState.fRegs.a3),(.int .u8 za.fX.fOp),(.int .i64 za.fX.fA),(.int .i64 za.fX.fB),(.int .i64 za.fX.fC),(.slice z9P za.fMem.length z9Q),(.int .u8 za.fAct.fKind),(.int .i64 za.fAct.fA),(.int .i64 za.fAct.fB),(.slice z9R za.fAct.fData.length z9S)]]) w₀ w' [stb z87 65 [(.int .i64 r.fState.fPc),(.int .i64 r.fState.fLeft),(.int .u8 r.fState.fRegs.a0),(.int .u8 r.fState.fRegs.a1),(.int .u8 r.fState.fRegs.a2),(.int .u8 r.fState.fRegs.a3),(.int .u8 r.fX.fOp),(.int .i64 r.fX.fA),(.int .i64 r.fX.fB),(.int .i64 r.fX.fC),(.slice zhJ r.fMem.length zhK),(.int .u8 r.fAct.fKind),(.int .i64 r.fAct.fA),(.int .i64 r.fAct.fB),(.slice zhL r.fAct.fData.length zhM)]]:=by
 unfold y2U at h
 refine Calls.y8 (vs:=[(.pointer (some ⟨z87,0,none⟩))]) (pre:=[stb z87 65 [(.int .i64 za.fState.fPc),(.int .i64 za.fState.fLeft),(.int .u8 za.fState.fRegs.a0),(.int .u8 za.fState.fRegs.a1),(.int .u8 za.fState.fRegs.a2),(.int .u8 za.fState.fRegs.a3),(.int .u8 za.fX.fOp),(.int .i64 za.fX.fA),(.int .i64 za.fX.fB),(.int .i64 za.fX.fC),(.slice z9P za.fMem.length z9Q),(.int .u8 za.fAct.fKind),(.int .i64 za.fAct.fA),(.int .i64 za.fAct.fB),(.slice z9R za.fAct.fData.length z9S)]]) (env:=[(0,(.pointer (some ⟨z87,0,none⟩)))]) Tryd.func86 rfl Tryd.ntmps86 rfl (hown) rfl ?_
 obtain ⟨zlw,zly,h⟩:=zb h
 obtain ⟨zhN,h⟩:=ya h
 obtain ⟨zlx,zlz,h⟩:=zb h
 obtain ⟨zlA,h⟩:=ya h
 refine WC.y11 (fun i=>[20].contains i) [] rfl ?_
 refine WD.a (i:=0) (d:=2) (by kernel_rfl) rfl z2 z6 rfl rfl rfl (fun _=>q_m rfl) ?_
 refine WD.a (i:=1) (d:=3) (by kernel_rfl) rfl z2 z6 rfl rfl rfl (fun _=>q_m rfl) ?_
 refine WD.a (i:=2) (d:=4) (by kernel_rfl) rfl z2 z6 rfl rfl rfl (fun _=>y6 rfl) ?_
 refine WD.a (i:=3) (d:=5) (by kernel_rfl) rfl z2 z6 rfl rfl rfl (fun _=>y4 yl rfl rfl) ?_
 refine WD.a (i:=4) (d:=6) (by kernel_rfl) rfl z2 z6 rfl rfl rfl (fun _=>y4 yR rfl rfl) ?_
 refine WD.e (i:=5) (d:=7) (by kernel_rfl) rfl z2 z6 rfl rfl rfl (y5 yd rfl (yb .here rfl)) ?_
 refine WD.c (i:=6) (d:=8) (by kernel_rfl) rfl z2 z6 rfl rfl rfl (zk (l:=[.tmp 2,.tmp 7]) Tryd.call108 (.cons rfl (.cons rfl .nil))) (ccl hz .nil (.cons .here .nil) fun w pz ho la=>yu _ _ _ _ _ _ _ _ _ zly w pz (zfk.mono (Zle.left _ _)) (zfl.mono (Zle.left _ _)) ((la _ (.head _) _).stb)) ?_
 refine WD.a (i:=7) (d:=9) (by kernel_rfl) rfl z2 z6 rfl rfl rfl (fun _=>y6 rfl) ?_
 refine WD.e (i:=8) (d:=10) (by kernel_rfl) rfl z2 z6 rfl rfl rfl (y5 yC rfl (yY (l:=([za.fState.fRegs.a0,za.fState.fRegs.a1,za.fState.fRegs.a2,za.fState.fRegs.a3] : List Int)) (f:=Value.int .u8) (k:=2) (m:=6) .here rfl rfl zhN)) ?_
 refine WD.a (i:=9) (d:=11) (by kernel_rfl) rfl z2 z6 rfl rfl rfl (fun _=>q_m rfl) ?_
 refine WD.a (i:=10) (d:=12) (by kernel_rfl) rfl z2 z6 rfl rfl rfl (fun _=>q_m rfl) ?_
 refine WD.a (i:=11) (d:=13) (by kernel_rfl) rfl z2 z6 rfl rfl rfl (fun _=>y6 rfl) ?_
 refine WD.a (i:=12) (d:=14) (by kernel_rfl) rfl z2 z6 rfl rfl rfl (fun _=>y4 yl rfl rfl) ?_
 refine WD.a (i:=13) (d:=15) (by kernel_rfl) rfl z2 z6 rfl rfl rfl (fun _=>y4 y16 rfl rfl) ?_
 refine WD.e (i:=14) (d:=16) (by kernel_rfl) rfl z2 z6 rfl rfl rfl (y5 yd rfl (yb .here rfl)) ?_
 refine WD.c (i:=15) (d:=17) (by kernel_rfl) rfl z2 z6 rfl rfl rfl (zk (l:=[.tmp 11,.tmp 16]) Tryd.call108 (.cons rfl (.cons rfl .nil))) (ccl hz .nil (.cons .here .nil) fun w pz ho la=>yu _ _ _ _ _ _ _ _ _ zlz w pz (zfk.mono (Zle.left _ _)) (zfl.mono (Zle.left _ _)) ((la _ (.head _) _).stb)) ?_
 refine WD.a (i:=16) (d:=18) (by kernel_rfl) rfl z2 z6 rfl rfl rfl (fun _=>y6 rfl) ?_
 refine WD.e (i:=17) (d:=19) (by kernel_rfl) rfl z2 z6 rfl rfl rfl (y5 yC rfl (yY (l:=([za.fState.fRegs.a0,za.fState.fRegs.a1,za.fState.fRegs.a2,za.fState.fRegs.a3] : List Int)) (f:=Value.int .u8) (k:=2) (m:=6) .here rfl rfl zlA)) ?_
 refine WD.a (i:=18) (d:=20) (by kernel_rfl) rfl z2 z6 rfl rfl rfl (fun _=>y6k rfl rfl rfl) ?_
 refine WD.a (i:=19) (d:=21) (by kernel_rfl) rfl z2 z6 rfl rfl rfl (fun _=>y6 rfl) ?_
 refine WD.y1J (i:=20) rfl (by kernel_rfl) rfl rfl rfl (by kernel_rfl) (y1M (l:=([za.fState.fRegs.a0,za.fState.fRegs.a1,za.fState.fRegs.a2,za.fState.fRegs.a3] : List Int)) (f:=Value.int .u8) (u:=u8 ((nth ([za.fState.fRegs.a0,za.fState.fRegs.a1,za.fState.fRegs.a2,za.fState.fRegs.a3] : List Int) za.fX.fA) - (nth ([za.fState.fRegs.a0,za.fState.fRegs.a1,za.fState.fRegs.a2,za.fState.fRegs.a3] : List Int) za.fX.fB))) (k:=2) (m:=6) (j:=4) (ds:=[(.int .i64 za.fState.fPc),(.int .i64 za.fState.fLeft),(.int .u8 (nth (([za.fState.fRegs.a0,za.fState.fRegs.a1,za.fState.fRegs.a2,za.fState.fRegs.a3] : List Int).set (za.fX.fA : Int).toNat (u8 ((nth ([za.fState.fRegs.a0,za.fState.fRegs.a1,za.fState.fRegs.a2,za.fState.fRegs.a3] : List Int) za.fX.fA) - (nth ([za.fState.fRegs.a0,za.fState.fRegs.a1,za.fState.fRegs.a2,za.fState.fRegs.a3] : List Int) za.fX.fB)))) 0)),(.int .u8 (nth (([za.fState.fRegs.a0,za.fState.fRegs.a1,za.fState.fRegs.a2,za.fState.fRegs.a3] : List Int).set (za.fX.fA : Int).toNat (u8 ((nth ([za.fState.fRegs.a0,za.fState.fRegs.a1,za.fState.fRegs.a2,za.fState.fRegs.a3] : List Int) za.fX.fA) - (nth ([za.fState.fRegs.a0,za.fState.fRegs.a1,za.fState.fRegs.a2,za.fState.fRegs.a3] : List Int) za.fX.fB)))) 1)),(.int .u8 (nth (([za.fState.fRegs.a0,za.fState.fRegs.a1,za.fState.fRegs.a2,za.fState.fRegs.a3] : List Int).set (za.fX.fA : Int).toNat (u8 ((nth ([za.fState.fRegs.a0,za.fState.fRegs.a1,za.fState.fRegs.a2,za.fState.fRegs.a3] : List Int) za.fX.fA) - (nth ([za.fState.fRegs.a0,za.fState.fRegs.a1,za.fState.fRegs.a2,za.fState.fRegs.a3] : List Int) za.fX.fB)))) 2)),(.int .u8 (nth (([za.fState.fRegs.a0,za.fState.fRegs.a1,za.fState.fRegs.a2,za.fState.fRegs.a3] : List Int).set (za.fX.fA : Int).toNat (u8 ((nth ([za.fState.fRegs.a0,za.fState.fRegs.a1,za.fState.fRegs.a2,za.fState.fRegs.a3] : List Int) za.fX.fA) - (nth ([za.fState.fRegs.a0,za.fState.fRegs.a1,za.fState.fRegs.a2,za.fState.fRegs.a3] : List Int) za.fX.fB)))) 3)),(.int .u8 za.fX.fOp),(.int .i64 za.fX.fA),(.int .i64 za.fX.fB),(.int .i64 za.fX.fC),(.slice z9P za.fMem.length z9Q),(.int .u8 za.fAct.fKind),(.int .i64 za.fAct.fA),(.int .i64 za.fAct.fB),(.slice z9R za.fAct.fData.length z9S)]) y30 rfl rfl rfl rfl .here rfl rfl zhN rfl rfl) ?_
 refine WD.done (by kernel_rfl) ?_
 obtain rfl:=Option.some.inj h
 refine WX.y9 Tryd.results86 .nil (fun w hw=>?_)
 exact ⟨z9P,z9Q,z9R,z9S,yB,⟨zfk,zfl⟩,hw.sub (.cons .here .nil)⟩
def y1r (zu : Sproc_execution) (z9T : Int) (z9U : Int) : Option Sproc_execution :=
 some (⟨zu.fState,zu.fX,zu.fMem,(⟨15,i64 z9T,z9U,([] : List Int)⟩ : Sproc_Act)⟩ : Sproc_execution)
set_option maxRecDepth 20000 in
theorem y2A (Z : Zp) (z88 : Nat) (z9V : Option Addr) (z9W : Nat) (zc3 : Option Addr) (zc4 : Nat) (zu : Sproc_execution) (z9T : Int) (z9U : Int) (r : Sproc_execution)
  (h : y1r zu z9T z9U = some r) (w₀ : World) (hz : PZ (fps [stb z88 65 [(.int .i64 zu.fState.fPc),(.int .i64 zu.fState.fLeft),(.int .u8 zu.fState.fRegs.a0),(.int .u8 zu.fState.fRegs.a1),(.int .u8 zu.fState.fRegs.a2),(.int .u8 zu.fState.fRegs.a3),(.int .u8 zu.fX.fOp),(.int .i64 zu.fX.fA),(.int .i64 zu.fX.fB),(.int .i64 zu.fX.fC),(.slice z9V zu.fMem.length z9W),(.int .u8 zu.fAct.fKind),(.int .i64 zu.fAct.fA),(.int .i64 zu.fAct.fB),(.slice zc3 zu.fAct.fData.length zc4)]]) w₀ Z)
  (zlB : ZS Z 1 (fun r x=>r = e5 x) z9V z9W zu.fMem)
  (zwS : ZS Z 1 (fun r x=>r = e5 x) zc3 zc4 zu.fAct.fData)
  (hown : Hp (fps [stb z88 65 [(.int .i64 zu.fState.fPc),(.int .i64 zu.fState.fLeft),(.int .u8 zu.fState.fRegs.a0),(.int .u8 zu.fState.fRegs.a1),(.int .u8 zu.fState.fRegs.a2),(.int .u8 zu.fState.fRegs.a3),(.int .u8 zu.fX.fOp),(.int .i64 zu.fX.fA),(.int .i64 zu.fX.fB),(.int .i64 zu.fX.fC),(.slice z9V zu.fMem.length z9W),(.int .u8 zu.fAct.fKind),(.int .i64 zu.fAct.fA),(.int .i64 zu.fAct.fB),(.slice zc3 zu.fAct.fData.length zc4)]]) w₀ w₀ [stb z88 65 [(.int .i64 zu.fState.fPc),(.int .i64 zu.fState.fLeft),(.int .u8 zu.fState.fRegs.a0),(.int .u8 zu.fState.fRegs.a1),(.int .u8 zu.fState.fRegs.a2),(.int .u8 zu.fState.fRegs.a3),(.int .u8 zu.fX.fOp),(.int .i64 zu.fX.fA),(.int .i64 zu.fX.fB),(.int .i64 zu.fX.fC),(.slice z9V zu.fMem.length z9W),(.int .u8 zu.fAct.fKind),(.int .i64 zu.fAct.fA),(.int .i64 zu.fAct.fB),(.slice zc3 zu.fAct.fData.length zc4)]]) :
  Calls Tryd.prog 112 #[(.pointer (some ⟨z88,0,none⟩)),(.int .u8 z9T),(.int .i64 z9U)] w₀ fun e w'=>∃ zhO : Option Addr,∃ zhP : Nat,∃ zhQ : Option Addr,∃ zhR : Nat,e = .returned (.tuple #[]) ∧ (ZS Z 1 (fun r x=>r = e5 x) zhO zhP r.fMem) ∧ Hp (fps [stb z88 65 [(.int .i64 zu.fState.fPc),(.int .i64 zu.fState.fLeft),(.int .u8 zu.fState.fRegs.a0),(.int .u8 zu.fState.fRegs.a1),(.int .u8 zu.fState.fRegs.a2),(.int .u8 zu.fState.fRegs.a3),(.int .u8 zu.fX.fOp),(.int .i64 zu.fX.fA),(.int .i64 zu.fX.fB),(.int .i64 zu.fX.fC),(.slice z9V zu.fMem.length z9W),(.int .u8 zu.fAct.fKind),(.int .i64 zu.fAct.fA),(.int .i64 zu.fAct.fB),(.slice zc3 zu.fAct.fData.length zc4)]]) w₀ w' [stb z88 65 [(.int .i64 r.fState.fPc),(.int .i64 r.fState.fLeft),(.int .u8 r.fState.fRegs.a0),(.int .u8 r.fState.fRegs.a1),(.int .u8 r.fState.fRegs.a2),(.int .u8 r.fState.fRegs.a3),(.int .u8 r.fX.fOp),(.int .i64 r.fX.fA),(.int .i64 r.fX.fB),(.int .i64 r.fX.fC),(.slice zhO r.fMem.length zhP),(.int .u8 r.fAct.fKind),(.int .i64 r.fAct.fA),(.int .i64 r.fAct.fB),(.slice zhQ r.fAct.fData.length zhR)],row (.slice zhQ r.fAct.fData.length zhR) 5 1 (r.fAct.fData.flatMap e5)]:=by
 unfold y1r at h
 refine Calls.y8 (vs:=[(.pointer (some ⟨z88,0,none⟩)),(.int .u8 z9T),(.int .i64 z9U)]) (pre:=[stb z88 65 [(.int .i64 zu.fState.fPc),(.int .i64 zu.fState.fLeft),(.int .u8 zu.fState.fRegs.a0),(.int .u8 zu.fState.fRegs.a1),(.int .u8 zu.fState.fRegs.a2),(.int .u8 zu.fState.fRegs.a3),(.int .u8 zu.fX.fOp),(.int .i64 zu.fX.fA),(.int .i64 zu.fX.fB),(.int .i64 zu.fX.fC),(.slice z9V zu.fMem.length z9W),(.int .u8 zu.fAct.fKind),(.int .i64 zu.fAct.fA),(.int .i64 zu.fAct.fB),(.slice zc3 zu.fAct.fData.length zc4)]]) (env:=[(0,(.pointer (some ⟨z88,0,none⟩))),(1,(.int .u8 z9T)),(2,(.int .i64 z9U))]) Tryd.func112 rfl Tryd.ntmps112 rfl (hown) rfl ?_
 refine WC.a (WL.pu rfl (WL.pu rfl ?_))
 refine WL.a (d:=8) rfl rfl rfl (y2Z Tryd.underlying5 Tryd.underlying3 rfl rfl) ?_
 refine WL.pu rfl ?_
 refine WL.a (d:=10) rfl rfl rfl (yP (v:=(.agg #[(.int .u8 15),(.int .i64 (i64 z9T)),(.int .i64 z9U),(.slice none 0 0)])) (Eos.parts (l:=[.const (.int .u8 15),.tmp 8,.tmp 9]) (.cons rfl (.cons rfl (.cons rfl .nil))) [0,1,2]) (fun _=>by kernel_rfl)) ?_
 refine WL.a (d:=11) rfl rfl rfl (y6 rfl) ?_
 refine WL.a (d:=12) rfl rfl rfl (y4 y2f rfl rfl) ?_
 refine WL.yf rfl rfl (yK (ds:=[(.int .i64 zu.fState.fPc),(.int .i64 zu.fState.fLeft),(.int .u8 zu.fState.fRegs.a0),(.int .u8 zu.fState.fRegs.a1),(.int .u8 zu.fState.fRegs.a2),(.int .u8 zu.fState.fRegs.a3),(.int .u8 zu.fX.fOp),(.int .i64 zu.fX.fA),(.int .i64 zu.fX.fB),(.int .i64 zu.fX.fC),(.slice z9V zu.fMem.length z9W),(.int .u8 15),(.int .i64 (i64 z9T)),(.int .i64 z9U),(.slice none 0 0)]) yV rfl rfl rfl rfl rfl .here rfl rfl) ?_
 refine WL.nil ?_
 refine WX.nilRow 5 1 ?_
 obtain rfl:=Option.some.inj h
 refine WX.y9 Tryd.results112 .nil (fun w hw=>?_)
 exact ⟨z9V,z9W,none,0,yB,zlB,hw.sub (.cons .h1 (.cons .here .nil))⟩
def y1N (zp : Sproc_execution) : Option (Int × Bool × Sproc_execution) :=
 (yk zp zp.fX.fC).bind fun zlC=>chk ((0 : Int) ≤ zp.fX.fC ∧ zp.fX.fC < 4) (if decide ((i64 (zp.fX.fB + (i64 (nth ([zp.fState.fRegs.a0,zp.fState.fRegs.a1,zp.fState.fRegs.a2,zp.fState.fRegs.a3] : List Int) zp.fX.fC)))) ≥ ((zp.fMem.length : Nat) : Int)) then (y1r zp 2 0).bind fun zfm=>some (0,false,zfm) else some ((i64 (zp.fX.fB + (i64 (nth ([zp.fState.fRegs.a0,zp.fState.fRegs.a1,zp.fState.fRegs.a2,zp.fState.fRegs.a3] : List Int) zp.fX.fC)))),true,zp))
set_option maxRecDepth 20000 in
theorem y3o (Z : Zp) (z89 : Nat) (zbo : Option Addr) (zbp : Nat) (zbq : Option Addr) (zbr : Nat) (zp : Sproc_execution) (r : Int × Bool × Sproc_execution)
  (h : y1N zp = some r) (w₀ : World) (hz : PZ (fps [stb z89 65 [(.int .i64 zp.fState.fPc),(.int .i64 zp.fState.fLeft),(.int .u8 zp.fState.fRegs.a0),(.int .u8 zp.fState.fRegs.a1),(.int .u8 zp.fState.fRegs.a2),(.int .u8 zp.fState.fRegs.a3),(.int .u8 zp.fX.fOp),(.int .i64 zp.fX.fA),(.int .i64 zp.fX.fB),(.int .i64 zp.fX.fC),(.slice zbo zp.fMem.length zbp),(.int .u8 zp.fAct.fKind),(.int .i64 zp.fAct.fA),(.int .i64 zp.fAct.fB),(.slice zbq zp.fAct.fData.length zbr)]]) w₀ Z)
  (zfn : ZS Z 1 (fun r x=>r = e5 x) zbo zbp zp.fMem)
  (zfo : ZS Z 1 (fun r x=>r = e5 x) zbq zbr zp.fAct.fData)
  (hown : Hp (fps [stb z89 65 [(.int .i64 zp.fState.fPc),(.int .i64 zp.fState.fLeft),(.int .u8 zp.fState.fRegs.a0),(.int .u8 zp.fState.fRegs.a1),(.int .u8 zp.fState.fRegs.a2),(.int .u8 zp.fState.fRegs.a3),(.int .u8 zp.fX.fOp),(.int .i64 zp.fX.fA),(.int .i64 zp.fX.fB),(.int .i64 zp.fX.fC),(.slice zbo zp.fMem.length zbp),(.int .u8 zp.fAct.fKind),(.int .i64 zp.fAct.fA),(.int .i64 zp.fAct.fB),(.slice zbq zp.fAct.fData.length zbr)]]) w₀ w₀ [stb z89 65 [(.int .i64 zp.fState.fPc),(.int .i64 zp.fState.fLeft),(.int .u8 zp.fState.fRegs.a0),(.int .u8 zp.fState.fRegs.a1),(.int .u8 zp.fState.fRegs.a2),(.int .u8 zp.fState.fRegs.a3),(.int .u8 zp.fX.fOp),(.int .i64 zp.fX.fA),(.int .i64 zp.fX.fB),(.int .i64 zp.fX.fC),(.slice zbo zp.fMem.length zbp),(.int .u8 zp.fAct.fKind),(.int .i64 zp.fAct.fA),(.int .i64 zp.fAct.fB),(.slice zbq zp.fAct.fData.length zbr)]]) :
  Calls Tryd.prog 109 #[(.pointer (some ⟨z89,0,none⟩))] w₀ fun e w'=>∃ Zn : Zp,∃ zhS : Option Addr,∃ zhT : Nat,∃ zhU : Option Addr,∃ zhV : Nat,e = .returned (.tuple #[(.int .i64 r.1),(.bool r.2.1)]) ∧ ((ZS (Z ++ Zn) 1 (fun r x=>r = e5 x) zhS zhT r.2.2.fMem) ∧ (ZS (Z ++ Zn) 1 (fun r x=>r = e5 x) zhU zhV r.2.2.fAct.fData)) ∧ Hp (fps [stb z89 65 [(.int .i64 zp.fState.fPc),(.int .i64 zp.fState.fLeft),(.int .u8 zp.fState.fRegs.a0),(.int .u8 zp.fState.fRegs.a1),(.int .u8 zp.fState.fRegs.a2),(.int .u8 zp.fState.fRegs.a3),(.int .u8 zp.fX.fOp),(.int .i64 zp.fX.fA),(.int .i64 zp.fX.fB),(.int .i64 zp.fX.fC),(.slice zbo zp.fMem.length zbp),(.int .u8 zp.fAct.fKind),(.int .i64 zp.fAct.fA),(.int .i64 zp.fAct.fB),(.slice zbq zp.fAct.fData.length zbr)]]) w₀ w' [fz Zn,stb z89 65 [(.int .i64 r.2.2.fState.fPc),(.int .i64 r.2.2.fState.fLeft),(.int .u8 r.2.2.fState.fRegs.a0),(.int .u8 r.2.2.fState.fRegs.a1),(.int .u8 r.2.2.fState.fRegs.a2),(.int .u8 r.2.2.fState.fRegs.a3),(.int .u8 r.2.2.fX.fOp),(.int .i64 r.2.2.fX.fA),(.int .i64 r.2.2.fX.fB),(.int .i64 r.2.2.fX.fC),(.slice zhS r.2.2.fMem.length zhT),(.int .u8 r.2.2.fAct.fKind),(.int .i64 r.2.2.fAct.fA),(.int .i64 r.2.2.fAct.fB),(.slice zhU r.2.2.fAct.fData.length zhV)]]:=by
 unfold y1N at h
 refine Calls.y8 (vs:=[(.pointer (some ⟨z89,0,none⟩))]) (pre:=[stb z89 65 [(.int .i64 zp.fState.fPc),(.int .i64 zp.fState.fLeft),(.int .u8 zp.fState.fRegs.a0),(.int .u8 zp.fState.fRegs.a1),(.int .u8 zp.fState.fRegs.a2),(.int .u8 zp.fState.fRegs.a3),(.int .u8 zp.fX.fOp),(.int .i64 zp.fX.fA),(.int .i64 zp.fX.fB),(.int .i64 zp.fX.fC),(.slice zbo zp.fMem.length zbp),(.int .u8 zp.fAct.fKind),(.int .i64 zp.fAct.fA),(.int .i64 zp.fAct.fB),(.slice zbq zp.fAct.fData.length zbr)]]) (env:=[(0,(.pointer (some ⟨z89,0,none⟩)))]) Tryd.func109 rfl Tryd.ntmps109 rfl (hown) rfl ?_
 refine WC.pool (WC.b (WC.a (WL.pu rfl (WL.pu rfl (WL.nil (WX.a (WC.b ?_)))))))
 obtain ⟨zlC,zlD,h⟩:=zb h
 obtain ⟨zlE,h⟩:=ya h
 refine WC.y11 (fun i=>[].contains i) [] rfl ?_
 refine WD.a (i:=0) (d:=5) (by kernel_rfl) rfl z2 z6 rfl rfl rfl (fun _=>q_m rfl) ?_
 refine WD.a (i:=1) (d:=6) (by kernel_rfl) rfl z2 z6 rfl rfl rfl (fun _=>y6 rfl) ?_
 refine WD.a (i:=2) (d:=7) (by kernel_rfl) rfl z2 z6 rfl rfl rfl (fun _=>y4 yl rfl rfl) ?_
 refine WD.a (i:=3) (d:=8) (by kernel_rfl) rfl z2 z6 rfl rfl rfl (fun _=>y4 y16 rfl rfl) ?_
 refine WD.e (i:=4) (d:=9) (by kernel_rfl) rfl z2 z6 rfl rfl rfl (y5 yd rfl (yb .h1 rfl)) ?_
 refine WD.a (i:=5) (d:=10) (by kernel_rfl) rfl z2 z6 rfl rfl rfl (fun _=>q_m rfl) ?_
 refine WD.a (i:=6) (d:=11) (by kernel_rfl) rfl z2 z6 rfl rfl rfl (fun _=>q_m rfl) ?_
 refine WD.a (i:=7) (d:=12) (by kernel_rfl) rfl z2 z6 rfl rfl rfl (fun _=>y6 rfl) ?_
 refine WD.a (i:=8) (d:=13) (by kernel_rfl) rfl z2 z6 rfl rfl rfl (fun _=>y4 yl rfl rfl) ?_
 refine WD.a (i:=9) (d:=14) (by kernel_rfl) rfl z2 z6 rfl rfl rfl (fun _=>y4 y3v rfl rfl) ?_
 refine WD.e (i:=10) (d:=15) (by kernel_rfl) rfl z2 z6 rfl rfl rfl (y5 yd rfl (yb .h1 rfl)) ?_
 refine WD.c (i:=11) (d:=16) (by kernel_rfl) rfl z2 z6 rfl rfl rfl (zk (l:=[.tmp 10,.tmp 15]) Tryd.call108 (.cons rfl (.cons rfl .nil))) (y2c hz .nil .here (.cons .h1 .nil) fun w pz ho la=>yu _ _ _ _ _ _ _ _ _ zlD w pz ((zfn.mono (Zle.left _ _)).mono (Zle.left _ _)) ((zfo.mono (Zle.left _ _)).mono (Zle.left _ _)) ((la _ (.head _) _).stb)) ?_
 refine WD.a (i:=12) (d:=17) (by kernel_rfl) rfl z2 z6 rfl rfl rfl (fun _=>y6 rfl) ?_
 refine WD.e (i:=13) (d:=18) (by kernel_rfl) rfl z2 z6 rfl rfl rfl (y5 yC rfl (yY (l:=([zp.fState.fRegs.a0,zp.fState.fRegs.a1,zp.fState.fRegs.a2,zp.fState.fRegs.a3] : List Int)) (f:=Value.int .u8) (k:=2) (m:=6) .h1 rfl rfl zlE)) ?_
 refine WD.a (i:=14) (d:=19) (by kernel_rfl) rfl z2 z6 rfl rfl rfl (fun _=>y2Z Tryd.underlying5 Tryd.underlying3 rfl rfl) ?_
 refine WD.a (i:=15) (d:=20) (by kernel_rfl) rfl z2 z6 rfl rfl rfl (fun _=>y5h rfl rfl rfl) ?_
 refine WD.a (i:=16) (d:=4) (by kernel_rfl) rfl z2 z6 rfl rfl rfl (fun _=>q_z rfl) ?_
 refine WD.done (by kernel_rfl) ?_
 refine WX.a (WC.b (WC.b (WC.a (WL.pu rfl (WL.pu rfl ?_)))))
 refine WL.a (d:=23) rfl rfl rfl (y6 rfl) ?_
 refine WL.a (d:=24) rfl rfl rfl (y4 y62 rfl rfl) ?_
 refine WL.a (d:=25) rfl rfl rfl (y5 y44 rfl (yb .h1 rfl)) ?_
 refine WL.a (d:=26) rfl rfl rfl (y1L Tryd.underlying35 rfl) ?_
 refine WL.pu rfl (WL.nil (WX.a ?_))
 refine WC.cond rfl (fun zfp=>?_) (fun zfp=>?_)
 ·replace h:=ym h zfp
  refine WC.b ?_
  obtain ⟨zfm,zlF,h⟩:=zb h
  refine WC.a (WL.pu rfl ?_)
  refine WL.yv (dd:=29) rfl rfl rfl (zk (l:=[.tmp 28,.const (.int .u8 2),.const (.int .i64 0)]) Tryd.call112 (.cons rfl (.cons rfl (.cons rfl .nil)))) (.cons .h1 .nil) (ccz hz (.cons .h1 .nil) .here fun w pz ho=>y2A _ _ _ _ _ _ _ _ _ _ zlF w pz (zfn.mono (Zle.left _ _)) (zfo.mono (Zle.left _ _)) ho) ?_
  rintro zlG zlH zlI zlJ zlK
  refine WL.nil (WX.a (WC.b (WC.a (WL.pu rfl (WL.pu rfl (WL.nil (WX.a (WC.ret (WX.yh ?_)))))))))
  refine WX.freezeS (ls:=zfm.fAct.fData) .h1 .h1 hz (RR.yI (enc:=e5) (fun _=>rfl) _) ?_
  intro zlL zlM zlN
  obtain rfl:=Option.some.inj h
  refine WX.yi Tryd.results109 (.tmp rfl (.tmp rfl .nil)) (fun w hw=>?_)
  exact ⟨zlL,zlG,zlH,zlI,zlJ,y3M rfl rfl,⟨(zlK.mono zlM),zlN⟩,hw.sub (.cons .here (.cons .here .nil))⟩
 ·replace h:=yn h zfp
  refine WC.skip (WX.a (WC.b (WC.a (WL.pu rfl (WL.pu rfl (WL.pu rfl (WL.nil (WX.a (WC.ret ?_)))))))))
  obtain rfl:=Option.some.inj h
  refine WX.yi Tryd.results109 (.tmp rfl (.tmp rfl .nil)) (fun w hw=>?_)
  exact ⟨[],zbo,zbp,zbq,zbr,y3M rfl rfl,⟨(zfn.mono (Zle.left _ _)),(zfo.mono (Zle.left _ _))⟩,hw.sub (.cons .here (.cons .here .nil))⟩
def y2B (zB : Sproc_execution) : Option Sproc_execution :=
 (y1N zB).bind fun zz=>if zz.2.1 then (yk zz.2.2 zz.2.2.fX.fA).bind fun zlO=>chk ((0 : Int) ≤ zz.1 ∧ zz.1 < ((zz.2.2.fMem.length : Nat) : Int)) (chk ((0 : Int) ≤ zz.2.2.fX.fA ∧ zz.2.2.fX.fA < 4) (some (⟨(⟨zz.2.2.fState.fPc,zz.2.2.fState.fLeft,(⟨nth (([zz.2.2.fState.fRegs.a0,zz.2.2.fState.fRegs.a1,zz.2.2.fState.fRegs.a2,zz.2.2.fState.fRegs.a3] : List Int).set (zz.2.2.fX.fA : Int).toNat (nth zz.2.2.fMem zz.1)) 0,nth (([zz.2.2.fState.fRegs.a0,zz.2.2.fState.fRegs.a1,zz.2.2.fState.fRegs.a2,zz.2.2.fState.fRegs.a3] : List Int).set (zz.2.2.fX.fA : Int).toNat (nth zz.2.2.fMem zz.1)) 1,nth (([zz.2.2.fState.fRegs.a0,zz.2.2.fState.fRegs.a1,zz.2.2.fState.fRegs.a2,zz.2.2.fState.fRegs.a3] : List Int).set (zz.2.2.fX.fA : Int).toNat (nth zz.2.2.fMem zz.1)) 2,nth (([zz.2.2.fState.fRegs.a0,zz.2.2.fState.fRegs.a1,zz.2.2.fState.fRegs.a2,zz.2.2.fState.fRegs.a3] : List Int).set (zz.2.2.fX.fA : Int).toNat (nth zz.2.2.fMem zz.1)) 3⟩ : S34)⟩ : Sproc_State),zz.2.2.fX,zz.2.2.fMem,zz.2.2.fAct⟩ : Sproc_execution))) else some zz.2.2
set_option maxRecDepth 20000 in
theorem y4V (Z : Zp) (z8a : Nat) (zc5 : Option Addr) (zc6 : Nat) (zc7 : Option Addr) (zc8 : Nat) (zB : Sproc_execution) (r : Sproc_execution)
  (h : y2B zB = some r) (w₀ : World) (hz : PZ (fps [stb z8a 65 [(.int .i64 zB.fState.fPc),(.int .i64 zB.fState.fLeft),(.int .u8 zB.fState.fRegs.a0),(.int .u8 zB.fState.fRegs.a1),(.int .u8 zB.fState.fRegs.a2),(.int .u8 zB.fState.fRegs.a3),(.int .u8 zB.fX.fOp),(.int .i64 zB.fX.fA),(.int .i64 zB.fX.fB),(.int .i64 zB.fX.fC),(.slice zc5 zB.fMem.length zc6),(.int .u8 zB.fAct.fKind),(.int .i64 zB.fAct.fA),(.int .i64 zB.fAct.fB),(.slice zc7 zB.fAct.fData.length zc8)]]) w₀ Z)
  (zlP : ZS Z 1 (fun r x=>r = e5 x) zc5 zc6 zB.fMem)
  (zlQ : ZS Z 1 (fun r x=>r = e5 x) zc7 zc8 zB.fAct.fData)
  (hown : Hp (fps [stb z8a 65 [(.int .i64 zB.fState.fPc),(.int .i64 zB.fState.fLeft),(.int .u8 zB.fState.fRegs.a0),(.int .u8 zB.fState.fRegs.a1),(.int .u8 zB.fState.fRegs.a2),(.int .u8 zB.fState.fRegs.a3),(.int .u8 zB.fX.fOp),(.int .i64 zB.fX.fA),(.int .i64 zB.fX.fB),(.int .i64 zB.fX.fC),(.slice zc5 zB.fMem.length zc6),(.int .u8 zB.fAct.fKind),(.int .i64 zB.fAct.fA),(.int .i64 zB.fAct.fB),(.slice zc7 zB.fAct.fData.length zc8)]]) w₀ w₀ [stb z8a 65 [(.int .i64 zB.fState.fPc),(.int .i64 zB.fState.fLeft),(.int .u8 zB.fState.fRegs.a0),(.int .u8 zB.fState.fRegs.a1),(.int .u8 zB.fState.fRegs.a2),(.int .u8 zB.fState.fRegs.a3),(.int .u8 zB.fX.fOp),(.int .i64 zB.fX.fA),(.int .i64 zB.fX.fB),(.int .i64 zB.fX.fC),(.slice zc5 zB.fMem.length zc6),(.int .u8 zB.fAct.fKind),(.int .i64 zB.fAct.fA),(.int .i64 zB.fAct.fB),(.slice zc7 zB.fAct.fData.length zc8)]]) :
  Calls Tryd.prog 87 #[(.pointer (some ⟨z8a,0,none⟩))] w₀ fun e w'=>∃ Zn : Zp,∃ zhW : Option Addr,∃ zhX : Nat,∃ zhY : Option Addr,∃ zhZ : Nat,e = .returned (.tuple #[]) ∧ ((ZS (Z ++ Zn) 1 (fun r x=>r = e5 x) zhW zhX r.fMem) ∧ (ZS (Z ++ Zn) 1 (fun r x=>r = e5 x) zhY zhZ r.fAct.fData)) ∧ Hp (fps [stb z8a 65 [(.int .i64 zB.fState.fPc),(.int .i64 zB.fState.fLeft),(.int .u8 zB.fState.fRegs.a0),(.int .u8 zB.fState.fRegs.a1),(.int .u8 zB.fState.fRegs.a2),(.int .u8 zB.fState.fRegs.a3),(.int .u8 zB.fX.fOp),(.int .i64 zB.fX.fA),(.int .i64 zB.fX.fB),(.int .i64 zB.fX.fC),(.slice zc5 zB.fMem.length zc6),(.int .u8 zB.fAct.fKind),(.int .i64 zB.fAct.fA),(.int .i64 zB.fAct.fB),(.slice zc7 zB.fAct.fData.length zc8)]]) w₀ w' [fz Zn,stb z8a 65 [(.int .i64 r.fState.fPc),(.int .i64 r.fState.fLeft),(.int .u8 r.fState.fRegs.a0),(.int .u8 r.fState.fRegs.a1),(.int .u8 r.fState.fRegs.a2),(.int .u8 r.fState.fRegs.a3),(.int .u8 r.fX.fOp),(.int .i64 r.fX.fA),(.int .i64 r.fX.fB),(.int .i64 r.fX.fC),(.slice zhW r.fMem.length zhX),(.int .u8 r.fAct.fKind),(.int .i64 r.fAct.fA),(.int .i64 r.fAct.fB),(.slice zhY r.fAct.fData.length zhZ)]]:=by
 unfold y2B at h
 refine Calls.y8 (vs:=[(.pointer (some ⟨z8a,0,none⟩))]) (pre:=[stb z8a 65 [(.int .i64 zB.fState.fPc),(.int .i64 zB.fState.fLeft),(.int .u8 zB.fState.fRegs.a0),(.int .u8 zB.fState.fRegs.a1),(.int .u8 zB.fState.fRegs.a2),(.int .u8 zB.fState.fRegs.a3),(.int .u8 zB.fX.fOp),(.int .i64 zB.fX.fA),(.int .i64 zB.fX.fB),(.int .i64 zB.fX.fC),(.slice zc5 zB.fMem.length zc6),(.int .u8 zB.fAct.fKind),(.int .i64 zB.fAct.fA),(.int .i64 zB.fAct.fB),(.slice zc7 zB.fAct.fData.length zc8)]]) (env:=[(0,(.pointer (some ⟨z8a,0,none⟩)))]) Tryd.func87 rfl Tryd.ntmps87 rfl (hown) rfl ?_
 refine WC.pool (WC.b ?_)
 obtain ⟨zz,zlR,h⟩:=zb h
 refine WC.a (WL.pu rfl ?_)
 refine WL.y2Q (dd:=6) rfl rfl rfl (zk (l:=[.tmp 5]) Tryd.call109 (.cons rfl .nil)) (.cons .h1 .nil) (ccz hz (.cons .h1 .nil) .here fun w pz ho=>y3o _ _ _ _ _ _ _ _ zlR w pz (zlP.mono (Zle.left _ _)) (zlQ.mono (Zle.left _ _)) ho) ?_
 rintro zfq zfr zfs zft zfu ⟨zeu,zfv⟩
 refine WL.merge .here .h1 ?_
 refine WL.pu rfl (WL.pu rfl (WL.pu rfl (WL.pu rfl (WL.pu rfl (WL.nil (WX.a (WC.b (WC.a (WL.pu rfl (WL.nil (WX.a ?_)))))))))))
 refine WC.cond rfl (fun zfw=>?_) (fun zfw=>?_)
 ·replace h:=ym h zfw
  obtain ⟨zlO,zlS,h⟩:=zb h
  obtain ⟨zlT,h⟩:=ya h
  obtain ⟨zlU,h⟩:=ya h
  refine WC.y11 (fun i=>[15].contains i) [] rfl ?_
  refine WD.a (i:=0) (d:=10) (by kernel_rfl) rfl z2 z6 rfl rfl rfl (fun _=>q_m rfl) ?_
  refine WD.a (i:=1) (d:=11) (by kernel_rfl) rfl z2 z6 rfl rfl rfl (fun _=>q_m rfl) ?_
  refine WD.a (i:=2) (d:=12) (by kernel_rfl) rfl z2 z6 rfl rfl rfl (fun _=>y6 rfl) ?_
  refine WD.a (i:=3) (d:=13) (by kernel_rfl) rfl z2 z6 rfl rfl rfl (fun _=>y4 yl rfl rfl) ?_
  refine WD.a (i:=4) (d:=14) (by kernel_rfl) rfl z2 z6 rfl rfl rfl (fun _=>y4 yR rfl rfl) ?_
  refine WD.e (i:=5) (d:=15) (by kernel_rfl) rfl z2 z6 rfl rfl rfl (y5 yd rfl (yb .h1 rfl)) ?_
  refine WD.c (i:=6) (d:=16) (by kernel_rfl) rfl z2 z6 rfl rfl rfl (zk (l:=[.tmp 10,.tmp 15]) Tryd.call108 (.cons rfl (.cons rfl .nil))) (y2c hz .nil .here (.cons .h1 .nil) fun w pz ho la=>yu _ _ _ _ _ _ _ _ _ zlS w pz ((zeu.mono (Zle.y7 _ _ _)).mono (Zle.left _ _)) ((zfv.mono (Zle.y7 _ _ _)).mono (Zle.left _ _)) ((la _ (.head _) _).stb)) ?_
  refine WD.a (i:=7) (d:=17) (by kernel_rfl) rfl z2 z6 rfl rfl rfl (fun _=>q_m rfl) ?_
  refine WD.a (i:=8) (d:=18) (by kernel_rfl) rfl z2 z6 rfl rfl rfl (fun _=>y6 rfl) ?_
  refine WD.a (i:=9) (d:=19) (by kernel_rfl) rfl z2 z6 rfl rfl rfl (fun _=>y4 y62 rfl rfl) ?_
  refine WD.e (i:=10) (d:=20) (by kernel_rfl) rfl z2 z6 rfl rfl rfl (y5 y44 rfl (yb .h1 rfl)) ?_
  refine WD.a (i:=11) (d:=21) (by kernel_rfl) rfl z2 z6 rfl rfl rfl (fun _=>q_m rfl) ?_
  refine WD.znth (j:=12) (dd:=22) (by kernel_rfl) rfl z2 z6 rfl rfl (Z:=(Z ++ ([] ++ zfq))) (Pr:=(fun r x=>r = e5 x)) y1F rfl rfl (zeu.mono (Zle.y7 _ _ _)) zlT ?_
  rintro zwT zwU zlV zwV rfl
  refine WD.e (i:=13) (d:=23) (by kernel_rfl) rfl z2 z6 rfl rfl rfl (y5 yC rfl (y3r (hz.pv2 .here) zlV rfl)) ?_
  refine WD.a (i:=14) (d:=24) (by kernel_rfl) rfl z2 z6 rfl rfl rfl (fun _=>y6 rfl) ?_
  refine WD.y1J (i:=15) rfl (by kernel_rfl) rfl rfl rfl (by kernel_rfl) (y1M (l:=([zz.2.2.fState.fRegs.a0,zz.2.2.fState.fRegs.a1,zz.2.2.fState.fRegs.a2,zz.2.2.fState.fRegs.a3] : List Int)) (f:=Value.int .u8) (u:=(nth zz.2.2.fMem zz.1)) (k:=2) (m:=6) (j:=4) (ds:=[(.int .i64 zz.2.2.fState.fPc),(.int .i64 zz.2.2.fState.fLeft),(.int .u8 (nth (([zz.2.2.fState.fRegs.a0,zz.2.2.fState.fRegs.a1,zz.2.2.fState.fRegs.a2,zz.2.2.fState.fRegs.a3] : List Int).set (zz.2.2.fX.fA : Int).toNat (nth zz.2.2.fMem zz.1)) 0)),(.int .u8 (nth (([zz.2.2.fState.fRegs.a0,zz.2.2.fState.fRegs.a1,zz.2.2.fState.fRegs.a2,zz.2.2.fState.fRegs.a3] : List Int).set (zz.2.2.fX.fA : Int).toNat (nth zz.2.2.fMem zz.1)) 1)),(.int .u8 (nth (([zz.2.2.fState.fRegs.a0,zz.2.2.fState.fRegs.a1,zz.2.2.fState.fRegs.a2,zz.2.2.fState.fRegs.a3] : List Int).set (zz.2.2.fX.fA : Int).toNat (nth zz.2.2.fMem zz.1)) 2)),(.int .u8 (nth (([zz.2.2.fState.fRegs.a0,zz.2.2.fState.fRegs.a1,zz.2.2.fState.fRegs.a2,zz.2.2.fState.fRegs.a3] : List Int).set (zz.2.2.fX.fA : Int).toNat (nth zz.2.2.fMem zz.1)) 3)),(.int .u8 zz.2.2.fX.fOp),(.int .i64 zz.2.2.fX.fA),(.int .i64 zz.2.2.fX.fB),(.int .i64 zz.2.2.fX.fC),(.slice zfr zz.2.2.fMem.length zfs),(.int .u8 zz.2.2.fAct.fKind),(.int .i64 zz.2.2.fAct.fA),(.int .i64 zz.2.2.fAct.fB),(.slice zft zz.2.2.fAct.fData.length zfu)]) y30 rfl rfl rfl rfl .h1 rfl rfl zlU rfl rfl) ?_
  refine WD.done (by kernel_rfl) ?_
  obtain rfl:=Option.some.inj h
  refine WX.y9 Tryd.results87 .nil (fun w hw=>?_)
  exact ⟨([] ++ zfq),zfr,zfs,zft,zfu,yB,⟨(zeu.mono (Zle.y7 _ _ _)),(zfv.mono (Zle.y7 _ _ _))⟩,hw.sub (.cons .h1 (.cons .here .nil))⟩
 ·replace h:=yn h zfw
  refine WC.skip ?_
  obtain rfl:=Option.some.inj h
  refine WX.y9 Tryd.results87 .nil (fun w hw=>?_)
  exact ⟨([] ++ zfq),zfr,zfs,zft,zfu,yB,⟨(zeu.mono (Zle.y7 _ _ _)),(zfv.mono (Zle.y7 _ _ _))⟩,hw.sub (.cons .here (.cons .here .nil))⟩
def y2q (zC : Sproc_execution) : Option Sproc_execution :=
 (y1N zC).bind fun z1e=>if z1e.2.1 then (yk z1e.2.2 z1e.2.2.fX.fA).bind fun zlW=>chk ((0 : Int) ≤ z1e.2.2.fX.fA ∧ z1e.2.2.fX.fA < 4) (some (⟨z1e.2.2.fState,z1e.2.2.fX,z1e.2.2.fMem,(⟨1,z1e.1,i64 (nth ([z1e.2.2.fState.fRegs.a0,z1e.2.2.fState.fRegs.a1,z1e.2.2.fState.fRegs.a2,z1e.2.2.fState.fRegs.a3] : List Int) z1e.2.2.fX.fA),[]⟩ : Sproc_Act)⟩ : Sproc_execution)) else some z1e.2.2
set_option maxRecDepth 20000 in
theorem y4w (Z : Zp) (z8b : Nat) (zc9 : Option Addr) (zca : Nat) (zcb : Option Addr) (zcc : Nat) (zC : Sproc_execution) (r : Sproc_execution)
  (h : y2q zC = some r) (w₀ : World) (hz : PZ (fps [stb z8b 65 [(.int .i64 zC.fState.fPc),(.int .i64 zC.fState.fLeft),(.int .u8 zC.fState.fRegs.a0),(.int .u8 zC.fState.fRegs.a1),(.int .u8 zC.fState.fRegs.a2),(.int .u8 zC.fState.fRegs.a3),(.int .u8 zC.fX.fOp),(.int .i64 zC.fX.fA),(.int .i64 zC.fX.fB),(.int .i64 zC.fX.fC),(.slice zc9 zC.fMem.length zca),(.int .u8 zC.fAct.fKind),(.int .i64 zC.fAct.fA),(.int .i64 zC.fAct.fB),(.slice zcb zC.fAct.fData.length zcc)]]) w₀ Z)
  (zlX : ZS Z 1 (fun r x=>r = e5 x) zc9 zca zC.fMem)
  (zlY : ZS Z 1 (fun r x=>r = e5 x) zcb zcc zC.fAct.fData)
  (hown : Hp (fps [stb z8b 65 [(.int .i64 zC.fState.fPc),(.int .i64 zC.fState.fLeft),(.int .u8 zC.fState.fRegs.a0),(.int .u8 zC.fState.fRegs.a1),(.int .u8 zC.fState.fRegs.a2),(.int .u8 zC.fState.fRegs.a3),(.int .u8 zC.fX.fOp),(.int .i64 zC.fX.fA),(.int .i64 zC.fX.fB),(.int .i64 zC.fX.fC),(.slice zc9 zC.fMem.length zca),(.int .u8 zC.fAct.fKind),(.int .i64 zC.fAct.fA),(.int .i64 zC.fAct.fB),(.slice zcb zC.fAct.fData.length zcc)]]) w₀ w₀ [stb z8b 65 [(.int .i64 zC.fState.fPc),(.int .i64 zC.fState.fLeft),(.int .u8 zC.fState.fRegs.a0),(.int .u8 zC.fState.fRegs.a1),(.int .u8 zC.fState.fRegs.a2),(.int .u8 zC.fState.fRegs.a3),(.int .u8 zC.fX.fOp),(.int .i64 zC.fX.fA),(.int .i64 zC.fX.fB),(.int .i64 zC.fX.fC),(.slice zc9 zC.fMem.length zca),(.int .u8 zC.fAct.fKind),(.int .i64 zC.fAct.fA),(.int .i64 zC.fAct.fB),(.slice zcb zC.fAct.fData.length zcc)]]) :
  Calls Tryd.prog 88 #[(.pointer (some ⟨z8b,0,none⟩))] w₀ fun e w'=>∃ Zn : Zp,∃ zi0 : Option Addr,∃ zi1 : Nat,∃ zi2 : Option Addr,∃ zi3 : Nat,e = .returned (.tuple #[]) ∧ ((ZS (Z ++ Zn) 1 (fun r x=>r = e5 x) zi0 zi1 r.fMem) ∧ (ZS (Z ++ Zn) 1 (fun r x=>r = e5 x) zi2 zi3 r.fAct.fData)) ∧ Hp (fps [stb z8b 65 [(.int .i64 zC.fState.fPc),(.int .i64 zC.fState.fLeft),(.int .u8 zC.fState.fRegs.a0),(.int .u8 zC.fState.fRegs.a1),(.int .u8 zC.fState.fRegs.a2),(.int .u8 zC.fState.fRegs.a3),(.int .u8 zC.fX.fOp),(.int .i64 zC.fX.fA),(.int .i64 zC.fX.fB),(.int .i64 zC.fX.fC),(.slice zc9 zC.fMem.length zca),(.int .u8 zC.fAct.fKind),(.int .i64 zC.fAct.fA),(.int .i64 zC.fAct.fB),(.slice zcb zC.fAct.fData.length zcc)]]) w₀ w' [fz Zn,stb z8b 65 [(.int .i64 r.fState.fPc),(.int .i64 r.fState.fLeft),(.int .u8 r.fState.fRegs.a0),(.int .u8 r.fState.fRegs.a1),(.int .u8 r.fState.fRegs.a2),(.int .u8 r.fState.fRegs.a3),(.int .u8 r.fX.fOp),(.int .i64 r.fX.fA),(.int .i64 r.fX.fB),(.int .i64 r.fX.fC),(.slice zi0 r.fMem.length zi1),(.int .u8 r.fAct.fKind),(.int .i64 r.fAct.fA),(.int .i64 r.fAct.fB),(.slice zi2 r.fAct.fData.length zi3)]]:=by
 unfold y2q at h
 refine Calls.y8 (vs:=[(.pointer (some ⟨z8b,0,none⟩))]) (pre:=[stb z8b 65 [(.int .i64 zC.fState.fPc),(.int .i64 zC.fState.fLeft),(.int .u8 zC.fState.fRegs.a0),(.int .u8 zC.fState.fRegs.a1),(.int .u8 zC.fState.fRegs.a2),(.int .u8 zC.fState.fRegs.a3),(.int .u8 zC.fX.fOp),(.int .i64 zC.fX.fA),(.int .i64 zC.fX.fB),(.int .i64 zC.fX.fC),(.slice zc9 zC.fMem.length zca),(.int .u8 zC.fAct.fKind),(.int .i64 zC.fAct.fA),(.int .i64 zC.fAct.fB),(.slice zcb zC.fAct.fData.length zcc)]]) (env:=[(0,(.pointer (some ⟨z8b,0,none⟩)))]) Tryd.func88 rfl Tryd.ntmps88 rfl (hown) rfl ?_
 refine WC.pool (WC.b ?_)
 obtain ⟨z1e,zlZ,h⟩:=zb h
 refine WC.a (WL.pu rfl ?_)
 refine WL.y2Q (dd:=6) rfl rfl rfl (zk (l:=[.tmp 5]) Tryd.call109 (.cons rfl .nil)) (.cons .h1 .nil) (ccz hz (.cons .h1 .nil) .here fun w pz ho=>y3o _ _ _ _ _ _ _ _ zlZ w pz (zlX.mono (Zle.left _ _)) (zlY.mono (Zle.left _ _)) ho) ?_
 rintro zi4 zfx zfy zm0 zm1 ⟨zfz,zi5⟩
 refine WL.merge .here .h1 ?_
 refine WL.pu rfl (WL.pu rfl (WL.pu rfl (WL.pu rfl (WL.pu rfl (WL.nil (WX.a (WC.b (WC.a (WL.pu rfl (WL.nil (WX.a ?_)))))))))))
 refine WC.cond rfl (fun zfA=>?_) (fun zfA=>?_)
 ·replace h:=ym h zfA
  obtain ⟨zlW,zm2,h⟩:=zb h
  obtain ⟨zm3,h⟩:=ya h
  refine WC.a (WL.pu rfl (WL.pu rfl (WL.pu rfl (WL.pu rfl ?_))))
  refine WL.a (d:=14) rfl rfl rfl (y6 rfl) ?_
  refine WL.a (d:=15) rfl rfl rfl (y4 yl rfl rfl) ?_
  refine WL.a (d:=16) rfl rfl rfl (y4 yR rfl rfl) ?_
  refine WL.a (d:=17) rfl rfl rfl (y5 yd rfl (yb .h1 rfl)) ?_
  refine WL.b (dd:=18) rfl rfl rfl (zk (l:=[.tmp 12,.tmp 17]) Tryd.call108 (.cons rfl (.cons rfl .nil))) .nil (y2c hz .nil .here (.cons .h1 .nil) fun w pz ho la=>yu _ _ _ _ _ _ _ _ _ zm2 w pz ((zfz.mono (Zle.y7 _ _ _)).mono (Zle.left _ _)) ((zi5.mono (Zle.y7 _ _ _)).mono (Zle.left _ _)) ((la _ (.head _) _).stb)) ?_
  refine WL.a (d:=19) rfl rfl rfl (y6 rfl) ?_
  refine WL.a (d:=20) rfl rfl rfl (y5 yC rfl (yY (l:=([z1e.2.2.fState.fRegs.a0,z1e.2.2.fState.fRegs.a1,z1e.2.2.fState.fRegs.a2,z1e.2.2.fState.fRegs.a3] : List Int)) (f:=Value.int .u8) (k:=2) (m:=6) .h1 rfl rfl zm3)) ?_
  refine WL.a (d:=21) rfl rfl rfl (y2Z Tryd.underlying5 Tryd.underlying3 rfl rfl) ?_
  refine WL.a (d:=22) rfl rfl rfl (yP (v:=(.agg #[(.int .u8 1),(.int .i64 z1e.1),(.int .i64 (i64 (nth ([z1e.2.2.fState.fRegs.a0,z1e.2.2.fState.fRegs.a1,z1e.2.2.fState.fRegs.a2,z1e.2.2.fState.fRegs.a3] : List Int) z1e.2.2.fX.fA))),(.slice none 0 0)])) (Eos.parts (l:=[.const (.int .u8 1),.tmp 11,.tmp 21]) (.cons rfl (.cons rfl (.cons rfl .nil))) [0,1,2]) (fun _=>by kernel_rfl)) ?_
  refine WL.a (d:=23) rfl rfl rfl (y6 rfl) ?_
  refine WL.a (d:=24) rfl rfl rfl (y4 y2f rfl rfl) ?_
  refine WL.yf rfl rfl (yK (ds:=[(.int .i64 z1e.2.2.fState.fPc),(.int .i64 z1e.2.2.fState.fLeft),(.int .u8 z1e.2.2.fState.fRegs.a0),(.int .u8 z1e.2.2.fState.fRegs.a1),(.int .u8 z1e.2.2.fState.fRegs.a2),(.int .u8 z1e.2.2.fState.fRegs.a3),(.int .u8 z1e.2.2.fX.fOp),(.int .i64 z1e.2.2.fX.fA),(.int .i64 z1e.2.2.fX.fB),(.int .i64 z1e.2.2.fX.fC),(.slice zfx z1e.2.2.fMem.length zfy),(.int .u8 1),(.int .i64 z1e.1),(.int .i64 (i64 (nth ([z1e.2.2.fState.fRegs.a0,z1e.2.2.fState.fRegs.a1,z1e.2.2.fState.fRegs.a2,z1e.2.2.fState.fRegs.a3] : List Int) z1e.2.2.fX.fA))),(.slice none 0 0)]) yV rfl rfl rfl rfl rfl .h1 rfl rfl) ?_
  refine WL.nil ?_
  obtain rfl:=Option.some.inj h
  refine WX.y9 Tryd.results88 .nil (fun w hw=>?_)
  exact ⟨([] ++ zi4),zfx,zfy,none,0,yB,⟨(zfz.mono (Zle.y7 _ _ _)),(ZS.nil _ _ _)⟩,hw.sub (.cons .h1 (.cons .here .nil))⟩
 ·replace h:=yn h zfA
  refine WC.skip ?_
  obtain rfl:=Option.some.inj h
  refine WX.y9 Tryd.results88 .nil (fun w hw=>?_)
  exact ⟨([] ++ zi4),zfx,zfy,zm0,zm1,yB,⟨(zfz.mono (Zle.y7 _ _ _)),(zi5.mono (Zle.y7 _ _ _))⟩,hw.sub (.cons .here (.cons .here .nil))⟩
def y1u (z2d : Int) (z3r : Int) (z8c : (List Int) → Option (List Int)) : Nat → (List Int) → Int → Option (List Int)
 | 0,_,_=>none
 | zfB + 1,z3s,z2i=>if decide (z2i < (((List.replicate (z2d : Int).toNat (0 : Int)).length : Nat) : Int)) then chk ((0 : Int) ≤ z2i ∧ z2i < ((z3s.length : Nat) : Int)) (y1u z2d z3r z8c zfB (z3s.set (z2i : Int).toNat (u8 (z3r + (u8 z2i)))) (i64 (z2i + 1))) else z8c z3s
theorem y5t {n : Nat} {z2d : Int} {z3r : Int} {z8c : (List Int) → Option (List Int)} {z3s : List Int} {z2i : Int} {r : List Int} (h : y1u z2d z3r z8c n z3s z2i = some r) : ∃ m,n = m + 1:=by
 cases n with
 | zero=>cases h
 | succ m=>exact ⟨m,rfl⟩
def y2C (z3r : Int) (z2d : Int) : Option (List Int) :=
 chk ((0 : Int) ≤ z2d ∧ (z2d : Int) ≤ z2d ∧ (z2d : Int) * 1 ≤ 140737488355328 ∧ (z2d : Int) ≤ 4611686018427387904) (jp1 (fun (z7k : List Int)=>some z7k) fun z8c=>y1u z2d z3r z8c y2g (List.replicate (z2d : Int).toNat (0 : Int)) 0)
set_option maxRecDepth 20000 in
theorem y5T (Z : Zp)  (z3r : Int) (z2d : Int) (r : List Int)
  (h : y2C z3r z2d = some r) (w₀ : World) (hz : PZ [] w₀ Z) :
  Calls Tryd.prog 111 #[(.int .u8 z3r),(.int .i64 z2d)] w₀ fun e w'=>∃ zi6 : Option Addr,∃ zi7 : Nat,e = .returned (.slice zi6 r.length zi7) ∧ True ∧ Hp [] w₀ w' [row (.slice zi6 r.length zi7) 5 1 (r.flatMap e5)]:=by
 unfold y2C at h
 refine Calls.y8 (vs:=[(.int .u8 z3r),(.int .i64 z2d)]) (pre:=[]) (env:=[(0,(.int .u8 z3r)),(1,(.int .i64 z2d))]) Tryd.func111 rfl Tryd.ntmps111 rfl (Hp.nil w₀ _) rfl ?_
 refine WC.b (WC.a (WL.pu rfl (WL.nil (WX.a (WC.b ?_)))))
 obtain ⟨zm4,h⟩:=ya h
 refine WC.a (WL.pu rfl ?_)
 refine WL.new (dd:=8) rfl rfl rfl (y3S (r:=[(.int .u8 0)]) (z0:=(0 : Int)) y1F y61 rfl rfl rfl rfl zm4) ?_
 intro zbs _
 refine WL.rowEqD .here (cs':=(List.replicate (z2d : Int).toNat (0 : Int)).flatMap e5) (y5n (enc:=e5) (0 : Int) _) ?_
 refine WL.pu rfl (WL.nil (WX.a ?_))
 obtain ⟨z8c,zm5,h⟩:=y3N h
 refine WC.y3G (fun (z7k : List Int)=>(z8c z7k = some r)) (fun (z7k : List Int)=>[(5,(.slice (some ⟨zbs,0,none⟩) z7k.length ((z2d : Int).toNat)))]) (fun (z7k : List Int)=>[row (.slice (some ⟨zbs,0,none⟩) z7k.length ((z2d : Int).toNat)) 5 1 (z7k.flatMap e5)]) ?_ ?_
 ·skip
  refine WC.b (WC.a (WL.pu rfl ?_))
  refine WL.a (d:=10) rfl rfl rfl (y1L Tryd.underlying35 rfl) ?_
  refine WL.pu rfl (WL.nil (WX.a (WC.block ?_)))
  refine WC.loop3 (fun (zcd : Nat) (z3s : List Int) (z2i : Int)=>(y1u z2d z3r z8c zcd z3s z2i = some r)) (fun (zcd : Nat) (z3s : List Int) (z2i : Int)=>[(0,(.int .u8 z3r)),(5,(.slice (some ⟨zbs,0,none⟩) z3s.length ((z2d : Int).toNat))),(10,(.int .i64 (((List.replicate (z2d : Int).toNat (0 : Int)).length : Nat) : Int))),(11,(.int .i64 z2i))]) (fun (zcd : Nat) (z3s : List Int) (z2i : Int)=>[row (.slice (some ⟨zbs,0,none⟩) z3s.length ((z2d : Int).toNat)) 5 1 (z3s.flatMap e5)]) (fun (zcd : Nat) (z3s : List Int) (z2i : Int)=>zcd) ⟨y2g,(List.replicate (z2d : Int).toNat (0 : Int)),0⟩ h (.cons rfl (.cons rfl (.cons rfl (.cons rfl .nil)))) (.cons .here .nil) ?_
  rintro zcd z3s z2i h
  obtain ⟨zfB,rfl⟩:=y5t h
  rw [y1u] at h
  refine WC.b (WC.a (WL.pu rfl (WL.nil (WX.a (WC.b ?_)))))
  refine WC.cond rfl (fun zfC=>?_) (fun zfC=>?_)
  ·replace h:=ym h zfC
   refine WC.skip (WX.a (WC.b (WC.block (WC.b (WC.a (WL.pu rfl (WL.pu rfl (WL.nil (WX.a ?_)))))))))
   obtain ⟨zce,h⟩:=ya h
   refine WC.a (WL.pu rfl (WL.pu rfl (WL.pu rfl (WL.pu rfl ?_))))
   refine WL.a (d:=18) rfl rfl rfl (y2Z Tryd.underlying3 Tryd.underlying5 rfl rfl) ?_
   refine WL.pu rfl ?_
   refine WL.a (d:=20) rfl rfl rfl (yT y1F rfl rfl zce.1 zce.2 y39) ?_
   refine WL.yf rfl rfl (y5i (vs:=[(.int .u8 (u8 (z3r + (u8 z2i))))]) (ds:=(z3s.set (z2i : Int).toNat (u8 (z3r + (u8 z2i)))).flatMap e5) y30 rfl rfl rfl rfl (y6x rfl y6X) .here (y6c (enc:=e5) (sz:=1) (k:=0) (fun _=>rfl) zce.1 zce.2 (by decide)) (y6b (enc:=e5) (l:=z3s) (sz:=1) (vs:=[(.int .u8 (u8 (z3r + (u8 z2i))))]) (y:=u8 (z3r + (u8 z2i))) (k:=0) (fun _=>rfl) zce.1 zce.2 rfl (Nat.le_of_ble_eq_true rfl))) ?_
   refine WL.relen .here (u:=(.slice (some ⟨zbs,0,none⟩) ((z3s.set (z2i : Int).toNat (u8 (z3r + (u8 z2i)))).length) ((z2d : Int).toNat))) (slen (List.length_set).symm) ?_
   refine WL.repin (i:=5) rfl (u:=(.slice (some ⟨zbs,0,none⟩) ((z3s.set (z2i : Int).toNat (u8 (z3r + (u8 z2i)))).length) ((z2d : Int).toNat))) (slen (List.length_set).symm) ?_
   refine WL.nil (WX.yr (WX.a (WC.a (WL.pu rfl (WL.pu rfl (WL.nil ?_))))))
   exact WX.round (G:=Nat × List Int × Int) ⟨zfB,(z3s.set (z2i : Int).toNat (u8 (z3r + (u8 z2i)))),(i64 (z2i + 1))⟩ h (Nat.lt_succ_self _) (.cons rfl (.cons rfl (.cons rfl (.cons rfl .nil)))) (.cons .here .nil)
  ·replace h:=yn h zfC
   refine WC.exit (WX.yO (WX.yO (WX.y1K ?_)))
   exact WX.mid (G:=List Int) z3s h (.cons rfl .nil) (.cons .here .nil)
 ·rintro z7k h
  replace h:=(zm5 z7k).symm.trans h
  refine WC.b (WC.a (WL.pu rfl (WL.pu rfl (WL.nil (WX.a (WC.ret ?_))))))
  obtain rfl:=Option.some.inj h
  refine WX.yi Tryd.results111 (.tmp rfl .nil) (fun w hw=>?_)
  exact ⟨(some ⟨zbs,0,none⟩),((z2d : Int).toNat),y1a rfl,trivial,hw.sub (.cons .here .nil)⟩
def ys (zr : Sproc_execution) (z9X : Int) (z8d : List Int) : Option Sproc_execution :=
 some (⟨zr.fState,zr.fX,zr.fMem,(⟨z9X,zr.fX.fA,0,z8d⟩ : Sproc_Act)⟩ : Sproc_execution)
set_option maxRecDepth 20000 in
theorem yy (Z : Zp) (z8e : Nat) (z9Y : Option Addr) (z9Z : Nat) (zcf : Option Addr) (zcg : Nat) (zbt : Option Addr) (zbu : Nat) (zr : Sproc_execution) (z9X : Int) (z8d : List Int) (r : Sproc_execution)
  (h : ys zr z9X z8d = some r) (w₀ : World) (hz : PZ (fps [stb z8e 65 [(.int .i64 zr.fState.fPc),(.int .i64 zr.fState.fLeft),(.int .u8 zr.fState.fRegs.a0),(.int .u8 zr.fState.fRegs.a1),(.int .u8 zr.fState.fRegs.a2),(.int .u8 zr.fState.fRegs.a3),(.int .u8 zr.fX.fOp),(.int .i64 zr.fX.fA),(.int .i64 zr.fX.fB),(.int .i64 zr.fX.fC),(.slice z9Y zr.fMem.length z9Z),(.int .u8 zr.fAct.fKind),(.int .i64 zr.fAct.fA),(.int .i64 zr.fAct.fB),(.slice zcf zr.fAct.fData.length zcg)]]) w₀ Z)
  (zm6 : ZS Z 1 (fun r x=>r = e5 x) z9Y z9Z zr.fMem)
  (zwW : ZS Z 1 (fun r x=>r = e5 x) zcf zcg zr.fAct.fData)
  (zm7 : ZS Z 1 (fun r x=>r = e5 x) zbt zbu z8d)
  (hown : Hp (fps [stb z8e 65 [(.int .i64 zr.fState.fPc),(.int .i64 zr.fState.fLeft),(.int .u8 zr.fState.fRegs.a0),(.int .u8 zr.fState.fRegs.a1),(.int .u8 zr.fState.fRegs.a2),(.int .u8 zr.fState.fRegs.a3),(.int .u8 zr.fX.fOp),(.int .i64 zr.fX.fA),(.int .i64 zr.fX.fB),(.int .i64 zr.fX.fC),(.slice z9Y zr.fMem.length z9Z),(.int .u8 zr.fAct.fKind),(.int .i64 zr.fAct.fA),(.int .i64 zr.fAct.fB),(.slice zcf zr.fAct.fData.length zcg)]]) w₀ w₀ [stb z8e 65 [(.int .i64 zr.fState.fPc),(.int .i64 zr.fState.fLeft),(.int .u8 zr.fState.fRegs.a0),(.int .u8 zr.fState.fRegs.a1),(.int .u8 zr.fState.fRegs.a2),(.int .u8 zr.fState.fRegs.a3),(.int .u8 zr.fX.fOp),(.int .i64 zr.fX.fA),(.int .i64 zr.fX.fB),(.int .i64 zr.fX.fC),(.slice z9Y zr.fMem.length z9Z),(.int .u8 zr.fAct.fKind),(.int .i64 zr.fAct.fA),(.int .i64 zr.fAct.fB),(.slice zcf zr.fAct.fData.length zcg)]]) :
  Calls Tryd.prog 110 #[(.pointer (some ⟨z8e,0,none⟩)),(.int .u8 z9X),(.slice zbt z8d.length zbu)] w₀ fun e w'=>∃ zi8 : Option Addr,∃ zi9 : Nat,∃ zia : Option Addr,∃ zib : Nat,e = .returned (.tuple #[]) ∧ ((ZS Z 1 (fun r x=>r = e5 x) zi8 zi9 r.fMem) ∧ (ZS Z 1 (fun r x=>r = e5 x) zia zib r.fAct.fData)) ∧ Hp (fps [stb z8e 65 [(.int .i64 zr.fState.fPc),(.int .i64 zr.fState.fLeft),(.int .u8 zr.fState.fRegs.a0),(.int .u8 zr.fState.fRegs.a1),(.int .u8 zr.fState.fRegs.a2),(.int .u8 zr.fState.fRegs.a3),(.int .u8 zr.fX.fOp),(.int .i64 zr.fX.fA),(.int .i64 zr.fX.fB),(.int .i64 zr.fX.fC),(.slice z9Y zr.fMem.length z9Z),(.int .u8 zr.fAct.fKind),(.int .i64 zr.fAct.fA),(.int .i64 zr.fAct.fB),(.slice zcf zr.fAct.fData.length zcg)]]) w₀ w' [stb z8e 65 [(.int .i64 r.fState.fPc),(.int .i64 r.fState.fLeft),(.int .u8 r.fState.fRegs.a0),(.int .u8 r.fState.fRegs.a1),(.int .u8 r.fState.fRegs.a2),(.int .u8 r.fState.fRegs.a3),(.int .u8 r.fX.fOp),(.int .i64 r.fX.fA),(.int .i64 r.fX.fB),(.int .i64 r.fX.fC),(.slice zi8 r.fMem.length zi9),(.int .u8 r.fAct.fKind),(.int .i64 r.fAct.fA),(.int .i64 r.fAct.fB),(.slice zia r.fAct.fData.length zib)]]:=by
 unfold ys at h
 refine Calls.y8 (vs:=[(.pointer (some ⟨z8e,0,none⟩)),(.int .u8 z9X),(.slice zbt z8d.length zbu)]) (pre:=[stb z8e 65 [(.int .i64 zr.fState.fPc),(.int .i64 zr.fState.fLeft),(.int .u8 zr.fState.fRegs.a0),(.int .u8 zr.fState.fRegs.a1),(.int .u8 zr.fState.fRegs.a2),(.int .u8 zr.fState.fRegs.a3),(.int .u8 zr.fX.fOp),(.int .i64 zr.fX.fA),(.int .i64 zr.fX.fB),(.int .i64 zr.fX.fC),(.slice z9Y zr.fMem.length z9Z),(.int .u8 zr.fAct.fKind),(.int .i64 zr.fAct.fA),(.int .i64 zr.fAct.fB),(.slice zcf zr.fAct.fData.length zcg)]]) (env:=[(0,(.pointer (some ⟨z8e,0,none⟩))),(1,(.int .u8 z9X)),(2,(.slice zbt z8d.length zbu))]) Tryd.func110 rfl Tryd.ntmps110 rfl (hown) rfl ?_
 refine WC.a (WL.pu rfl (WL.pu rfl (WL.pu rfl ?_)))
 refine WL.a (d:=9) rfl rfl rfl (y6 rfl) ?_
 refine WL.a (d:=10) rfl rfl rfl (y4 yl rfl rfl) ?_
 refine WL.a (d:=11) rfl rfl rfl (y4 yR rfl rfl) ?_
 refine WL.a (d:=12) rfl rfl rfl (y5 yd rfl (yb .here rfl)) ?_
 refine WL.pu rfl ?_
 refine WL.a (d:=14) rfl rfl rfl (yP (v:=(.agg #[(.int .u8 z9X),(.int .i64 zr.fX.fA),(.int .i64 0),(.slice zbt z8d.length zbu)])) (Eos.parts (l:=[.tmp 7,.tmp 12,.tmp 13]) (.cons rfl (.cons rfl (.cons rfl .nil))) [0,1,3]) (fun _=>by kernel_rfl)) ?_
 refine WL.a (d:=15) rfl rfl rfl (y6 rfl) ?_
 refine WL.a (d:=16) rfl rfl rfl (y4 y2f rfl rfl) ?_
 refine WL.yf rfl rfl (yK (ds:=[(.int .i64 zr.fState.fPc),(.int .i64 zr.fState.fLeft),(.int .u8 zr.fState.fRegs.a0),(.int .u8 zr.fState.fRegs.a1),(.int .u8 zr.fState.fRegs.a2),(.int .u8 zr.fState.fRegs.a3),(.int .u8 zr.fX.fOp),(.int .i64 zr.fX.fA),(.int .i64 zr.fX.fB),(.int .i64 zr.fX.fC),(.slice z9Y zr.fMem.length z9Z),(.int .u8 z9X),(.int .i64 zr.fX.fA),(.int .i64 0),(.slice zbt z8d.length zbu)]) yV rfl rfl rfl rfl rfl .here rfl rfl) ?_
 refine WL.nil ?_
 obtain rfl:=Option.some.inj h
 refine WX.y9 Tryd.results110 .nil (fun w hw=>?_)
 exact ⟨z9Y,z9Z,zbt,zbu,yB,⟨zm6,zm7⟩,hw.sub (.cons .here .nil)⟩
def y2D (zt : Sproc_execution) : Option Sproc_execution :=
 (yk zt zt.fX.fB).bind fun zm8=>chk ((0 : Int) ≤ zt.fX.fB ∧ zt.fX.fB < 4) ((y2C (nth ([zt.fState.fRegs.a0,zt.fState.fRegs.a1,zt.fState.fRegs.a2,zt.fState.fRegs.a3] : List Int) zt.fX.fB) zt.fX.fC).bind fun zfD=>(ys zt 2 zfD).bind fun zic=>some zic)
set_option maxRecDepth 20000 in
theorem y4W (Z : Zp) (z8f : Nat) (zch : Option Addr) (zci : Nat) (zcj : Option Addr) (zck : Nat) (zt : Sproc_execution) (r : Sproc_execution)
  (h : y2D zt = some r) (w₀ : World) (hz : PZ (fps [stb z8f 65 [(.int .i64 zt.fState.fPc),(.int .i64 zt.fState.fLeft),(.int .u8 zt.fState.fRegs.a0),(.int .u8 zt.fState.fRegs.a1),(.int .u8 zt.fState.fRegs.a2),(.int .u8 zt.fState.fRegs.a3),(.int .u8 zt.fX.fOp),(.int .i64 zt.fX.fA),(.int .i64 zt.fX.fB),(.int .i64 zt.fX.fC),(.slice zch zt.fMem.length zci),(.int .u8 zt.fAct.fKind),(.int .i64 zt.fAct.fA),(.int .i64 zt.fAct.fB),(.slice zcj zt.fAct.fData.length zck)]]) w₀ Z)
  (zid : ZS Z 1 (fun r x=>r = e5 x) zch zci zt.fMem)
  (zie : ZS Z 1 (fun r x=>r = e5 x) zcj zck zt.fAct.fData)
  (hown : Hp (fps [stb z8f 65 [(.int .i64 zt.fState.fPc),(.int .i64 zt.fState.fLeft),(.int .u8 zt.fState.fRegs.a0),(.int .u8 zt.fState.fRegs.a1),(.int .u8 zt.fState.fRegs.a2),(.int .u8 zt.fState.fRegs.a3),(.int .u8 zt.fX.fOp),(.int .i64 zt.fX.fA),(.int .i64 zt.fX.fB),(.int .i64 zt.fX.fC),(.slice zch zt.fMem.length zci),(.int .u8 zt.fAct.fKind),(.int .i64 zt.fAct.fA),(.int .i64 zt.fAct.fB),(.slice zcj zt.fAct.fData.length zck)]]) w₀ w₀ [stb z8f 65 [(.int .i64 zt.fState.fPc),(.int .i64 zt.fState.fLeft),(.int .u8 zt.fState.fRegs.a0),(.int .u8 zt.fState.fRegs.a1),(.int .u8 zt.fState.fRegs.a2),(.int .u8 zt.fState.fRegs.a3),(.int .u8 zt.fX.fOp),(.int .i64 zt.fX.fA),(.int .i64 zt.fX.fB),(.int .i64 zt.fX.fC),(.slice zch zt.fMem.length zci),(.int .u8 zt.fAct.fKind),(.int .i64 zt.fAct.fA),(.int .i64 zt.fAct.fB),(.slice zcj zt.fAct.fData.length zck)]]) :
  Calls Tryd.prog 89 #[(.pointer (some ⟨z8f,0,none⟩))] w₀ fun e w'=>∃ Zn : Zp,∃ zif : Option Addr,∃ zig : Nat,∃ zih : Option Addr,∃ zii : Nat,e = .returned (.tuple #[]) ∧ ((ZS (Z ++ Zn) 1 (fun r x=>r = e5 x) zif zig r.fMem) ∧ (ZS (Z ++ Zn) 1 (fun r x=>r = e5 x) zih zii r.fAct.fData)) ∧ Hp (fps [stb z8f 65 [(.int .i64 zt.fState.fPc),(.int .i64 zt.fState.fLeft),(.int .u8 zt.fState.fRegs.a0),(.int .u8 zt.fState.fRegs.a1),(.int .u8 zt.fState.fRegs.a2),(.int .u8 zt.fState.fRegs.a3),(.int .u8 zt.fX.fOp),(.int .i64 zt.fX.fA),(.int .i64 zt.fX.fB),(.int .i64 zt.fX.fC),(.slice zch zt.fMem.length zci),(.int .u8 zt.fAct.fKind),(.int .i64 zt.fAct.fA),(.int .i64 zt.fAct.fB),(.slice zcj zt.fAct.fData.length zck)]]) w₀ w' [fz Zn,stb z8f 65 [(.int .i64 r.fState.fPc),(.int .i64 r.fState.fLeft),(.int .u8 r.fState.fRegs.a0),(.int .u8 r.fState.fRegs.a1),(.int .u8 r.fState.fRegs.a2),(.int .u8 r.fState.fRegs.a3),(.int .u8 r.fX.fOp),(.int .i64 r.fX.fA),(.int .i64 r.fX.fB),(.int .i64 r.fX.fC),(.slice zif r.fMem.length zig),(.int .u8 r.fAct.fKind),(.int .i64 r.fAct.fA),(.int .i64 r.fAct.fB),(.slice zih r.fAct.fData.length zii)]]:=by
 unfold y2D at h
 refine Calls.y8 (vs:=[(.pointer (some ⟨z8f,0,none⟩))]) (pre:=[stb z8f 65 [(.int .i64 zt.fState.fPc),(.int .i64 zt.fState.fLeft),(.int .u8 zt.fState.fRegs.a0),(.int .u8 zt.fState.fRegs.a1),(.int .u8 zt.fState.fRegs.a2),(.int .u8 zt.fState.fRegs.a3),(.int .u8 zt.fX.fOp),(.int .i64 zt.fX.fA),(.int .i64 zt.fX.fB),(.int .i64 zt.fX.fC),(.slice zch zt.fMem.length zci),(.int .u8 zt.fAct.fKind),(.int .i64 zt.fAct.fA),(.int .i64 zt.fAct.fB),(.slice zcj zt.fAct.fData.length zck)]]) (env:=[(0,(.pointer (some ⟨z8f,0,none⟩)))]) Tryd.func89 rfl Tryd.ntmps89 rfl (hown) rfl ?_
 refine WC.pool ?_
 obtain ⟨zm8,zm9,h⟩:=zb h
 obtain ⟨zma,h⟩:=ya h
 obtain ⟨zfD,zmb,h⟩:=zb h
 obtain ⟨zic,zmc,h⟩:=zb h
 refine WC.y11 (fun i=>[16].contains i) [] rfl ?_
 refine WD.a (i:=0) (d:=2) (by kernel_rfl) rfl z2 z6 rfl rfl rfl (fun _=>q_m rfl) ?_
 refine WD.a (i:=1) (d:=3) (by kernel_rfl) rfl z2 z6 rfl rfl rfl (fun _=>q_m rfl) ?_
 refine WD.a (i:=2) (d:=4) (by kernel_rfl) rfl z2 z6 rfl rfl rfl (fun _=>q_m rfl) ?_
 refine WD.a (i:=3) (d:=5) (by kernel_rfl) rfl z2 z6 rfl rfl rfl (fun _=>y6 rfl) ?_
 refine WD.a (i:=4) (d:=6) (by kernel_rfl) rfl z2 z6 rfl rfl rfl (fun _=>y4 yl rfl rfl) ?_
 refine WD.a (i:=5) (d:=7) (by kernel_rfl) rfl z2 z6 rfl rfl rfl (fun _=>y4 y16 rfl rfl) ?_
 refine WD.e (i:=6) (d:=8) (by kernel_rfl) rfl z2 z6 rfl rfl rfl (y5 yd rfl (yb .h1 rfl)) ?_
 refine WD.c (i:=7) (d:=9) (by kernel_rfl) rfl z2 z6 rfl rfl rfl (zk (l:=[.tmp 3,.tmp 8]) Tryd.call108 (.cons rfl (.cons rfl .nil))) (y2c hz .nil .here (.cons .h1 .nil) fun w pz ho la=>yu _ _ _ _ _ _ _ _ _ zm9 w pz ((zid.mono (Zle.left _ _)).mono (Zle.left _ _)) ((zie.mono (Zle.left _ _)).mono (Zle.left _ _)) ((la _ (.head _) _).stb)) ?_
 refine WD.a (i:=8) (d:=10) (by kernel_rfl) rfl z2 z6 rfl rfl rfl (fun _=>y6 rfl) ?_
 refine WD.e (i:=9) (d:=11) (by kernel_rfl) rfl z2 z6 rfl rfl rfl (y5 yC rfl (yY (l:=([zt.fState.fRegs.a0,zt.fState.fRegs.a1,zt.fState.fRegs.a2,zt.fState.fRegs.a3] : List Int)) (f:=Value.int .u8) (k:=2) (m:=6) .h1 rfl rfl zma)) ?_
 refine WD.a (i:=10) (d:=12) (by kernel_rfl) rfl z2 z6 rfl rfl rfl (fun _=>q_m rfl) ?_
 refine WD.a (i:=11) (d:=13) (by kernel_rfl) rfl z2 z6 rfl rfl rfl (fun _=>y6 rfl) ?_
 refine WD.a (i:=12) (d:=14) (by kernel_rfl) rfl z2 z6 rfl rfl rfl (fun _=>y4 yl rfl rfl) ?_
 refine WD.a (i:=13) (d:=15) (by kernel_rfl) rfl z2 z6 rfl rfl rfl (fun _=>y4 y3v rfl rfl) ?_
 refine WD.e (i:=14) (d:=16) (by kernel_rfl) rfl z2 z6 rfl rfl rfl (y5 yd rfl (yb .h1 rfl)) ?_
 refine WD.call2 (i:=15) (dd:=17) rfl (by kernel_rfl) rfl rfl rfl (.inr rfl) (zk (l:=[.tmp 11,.tmp 16]) Tryd.call111 (.cons rfl (.cons rfl .nil))) .nil (ccz hz .nil .here fun w pz ho=>y5T _ _ _ _ zmb w pz ) ?_
 rintro zwX zwY _
 refine WD.freezeS (ls:=zfD) .here .here hz (RR.yI (enc:=e5) (fun _=>rfl) _) ?_
 intro zmd zij zme
 refine WD.call4 (i:=16) (dd:=18) rfl (by kernel_rfl) rfl rfl rfl (.inl ⟨rfl,fun _ _ _ _=>(Sin.of .nil)⟩) (zk (l:=[.tmp 2,.const (.int .u8 2),.tmp 17]) Tryd.call110 (.cons rfl (.cons rfl (.cons rfl .nil)))) (.cons .h1 .nil) (ccz hz (.cons .h1 .nil) .here fun w pz ho=>yy _ _ _ _ _ _ _ _ _ _ _ _ zmc w pz (zid.mono ((Zle.left _ _).trans zij)) (zie.mono ((Zle.left _ _).trans zij)) zme ho) ?_
 rintro zmf zmg zmh zmi ⟨zmj,zmk⟩
 refine WD.done (by kernel_rfl) ?_
 obtain rfl:=Option.some.inj h
 refine WX.y9 Tryd.results89 .nil (fun w hw=>?_)
 exact ⟨zmd,zmf,zmg,zmh,zmi,yB,⟨zmj,zmk⟩,hw.sub (.cons .h1 (.cons .here .nil))⟩
def y2E (zD : Sproc_execution) : Option Sproc_execution :=
 (ys zD 3 []).bind fun zik=>some zik
set_option maxRecDepth 20000 in
theorem y4X (Z : Zp) (z8g : Nat) (zcl : Option Addr) (zcm : Nat) (zcn : Option Addr) (zco : Nat) (zD : Sproc_execution) (r : Sproc_execution)
  (h : y2E zD = some r) (w₀ : World) (hz : PZ (fps [stb z8g 65 [(.int .i64 zD.fState.fPc),(.int .i64 zD.fState.fLeft),(.int .u8 zD.fState.fRegs.a0),(.int .u8 zD.fState.fRegs.a1),(.int .u8 zD.fState.fRegs.a2),(.int .u8 zD.fState.fRegs.a3),(.int .u8 zD.fX.fOp),(.int .i64 zD.fX.fA),(.int .i64 zD.fX.fB),(.int .i64 zD.fX.fC),(.slice zcl zD.fMem.length zcm),(.int .u8 zD.fAct.fKind),(.int .i64 zD.fAct.fA),(.int .i64 zD.fAct.fB),(.slice zcn zD.fAct.fData.length zco)]]) w₀ Z)
  (zml : ZS Z 1 (fun r x=>r = e5 x) zcl zcm zD.fMem)
  (zmm : ZS Z 1 (fun r x=>r = e5 x) zcn zco zD.fAct.fData)
  (hown : Hp (fps [stb z8g 65 [(.int .i64 zD.fState.fPc),(.int .i64 zD.fState.fLeft),(.int .u8 zD.fState.fRegs.a0),(.int .u8 zD.fState.fRegs.a1),(.int .u8 zD.fState.fRegs.a2),(.int .u8 zD.fState.fRegs.a3),(.int .u8 zD.fX.fOp),(.int .i64 zD.fX.fA),(.int .i64 zD.fX.fB),(.int .i64 zD.fX.fC),(.slice zcl zD.fMem.length zcm),(.int .u8 zD.fAct.fKind),(.int .i64 zD.fAct.fA),(.int .i64 zD.fAct.fB),(.slice zcn zD.fAct.fData.length zco)]]) w₀ w₀ [stb z8g 65 [(.int .i64 zD.fState.fPc),(.int .i64 zD.fState.fLeft),(.int .u8 zD.fState.fRegs.a0),(.int .u8 zD.fState.fRegs.a1),(.int .u8 zD.fState.fRegs.a2),(.int .u8 zD.fState.fRegs.a3),(.int .u8 zD.fX.fOp),(.int .i64 zD.fX.fA),(.int .i64 zD.fX.fB),(.int .i64 zD.fX.fC),(.slice zcl zD.fMem.length zcm),(.int .u8 zD.fAct.fKind),(.int .i64 zD.fAct.fA),(.int .i64 zD.fAct.fB),(.slice zcn zD.fAct.fData.length zco)]]) :
  Calls Tryd.prog 90 #[(.pointer (some ⟨z8g,0,none⟩))] w₀ fun e w'=>∃ zil : Option Addr,∃ zim : Nat,∃ zin : Option Addr,∃ zio : Nat,e = .returned (.tuple #[]) ∧ ((ZS Z 1 (fun r x=>r = e5 x) zil zim r.fMem) ∧ (ZS Z 1 (fun r x=>r = e5 x) zin zio r.fAct.fData)) ∧ Hp (fps [stb z8g 65 [(.int .i64 zD.fState.fPc),(.int .i64 zD.fState.fLeft),(.int .u8 zD.fState.fRegs.a0),(.int .u8 zD.fState.fRegs.a1),(.int .u8 zD.fState.fRegs.a2),(.int .u8 zD.fState.fRegs.a3),(.int .u8 zD.fX.fOp),(.int .i64 zD.fX.fA),(.int .i64 zD.fX.fB),(.int .i64 zD.fX.fC),(.slice zcl zD.fMem.length zcm),(.int .u8 zD.fAct.fKind),(.int .i64 zD.fAct.fA),(.int .i64 zD.fAct.fB),(.slice zcn zD.fAct.fData.length zco)]]) w₀ w' [stb z8g 65 [(.int .i64 r.fState.fPc),(.int .i64 r.fState.fLeft),(.int .u8 r.fState.fRegs.a0),(.int .u8 r.fState.fRegs.a1),(.int .u8 r.fState.fRegs.a2),(.int .u8 r.fState.fRegs.a3),(.int .u8 r.fX.fOp),(.int .i64 r.fX.fA),(.int .i64 r.fX.fB),(.int .i64 r.fX.fC),(.slice zil r.fMem.length zim),(.int .u8 r.fAct.fKind),(.int .i64 r.fAct.fA),(.int .i64 r.fAct.fB),(.slice zin r.fAct.fData.length zio)]]:=by
 unfold y2E at h
 refine Calls.y8 (vs:=[(.pointer (some ⟨z8g,0,none⟩))]) (pre:=[stb z8g 65 [(.int .i64 zD.fState.fPc),(.int .i64 zD.fState.fLeft),(.int .u8 zD.fState.fRegs.a0),(.int .u8 zD.fState.fRegs.a1),(.int .u8 zD.fState.fRegs.a2),(.int .u8 zD.fState.fRegs.a3),(.int .u8 zD.fX.fOp),(.int .i64 zD.fX.fA),(.int .i64 zD.fX.fB),(.int .i64 zD.fX.fC),(.slice zcl zD.fMem.length zcm),(.int .u8 zD.fAct.fKind),(.int .i64 zD.fAct.fA),(.int .i64 zD.fAct.fB),(.slice zcn zD.fAct.fData.length zco)]]) (env:=[(0,(.pointer (some ⟨z8g,0,none⟩)))]) Tryd.func90 rfl Tryd.ntmps90 rfl (hown) rfl ?_
 obtain ⟨zik,zmn,h⟩:=zb h
 refine WC.a (WL.pu rfl ?_)
 refine WL.yv (dd:=3) rfl rfl rfl (zk (l:=[.tmp 2,.const (.int .u8 3),.const (.slice none 0 0)]) Tryd.call110 (.cons rfl (.cons rfl (.cons rfl .nil)))) (.cons .here .nil) (cc hz (.cons .here .nil) fun w pz ho=>yy _ _ _ _ _ _ _ _ _ _ _ _ zmn w pz zml zmm (ZS.nil _ _ _) ho) ?_
 rintro zmo zmp zmq zmr ⟨zms,zmt⟩
 refine WL.nil ?_
 obtain rfl:=Option.some.inj h
 refine WX.y9 Tryd.results90 .nil (fun w hw=>?_)
 exact ⟨zmo,zmp,zmq,zmr,yB,⟨zms,zmt⟩,hw.sub (.cons .here .nil)⟩
def y2F (zE : Sproc_execution) : Option Sproc_execution :=
 (ys zE 4 []).bind fun ziq=>some ziq
set_option maxRecDepth 20000 in
theorem y4Y (Z : Zp) (z8h : Nat) (zcp : Option Addr) (zcq : Nat) (zcr : Option Addr) (zcs : Nat) (zE : Sproc_execution) (r : Sproc_execution)
  (h : y2F zE = some r) (w₀ : World) (hz : PZ (fps [stb z8h 65 [(.int .i64 zE.fState.fPc),(.int .i64 zE.fState.fLeft),(.int .u8 zE.fState.fRegs.a0),(.int .u8 zE.fState.fRegs.a1),(.int .u8 zE.fState.fRegs.a2),(.int .u8 zE.fState.fRegs.a3),(.int .u8 zE.fX.fOp),(.int .i64 zE.fX.fA),(.int .i64 zE.fX.fB),(.int .i64 zE.fX.fC),(.slice zcp zE.fMem.length zcq),(.int .u8 zE.fAct.fKind),(.int .i64 zE.fAct.fA),(.int .i64 zE.fAct.fB),(.slice zcr zE.fAct.fData.length zcs)]]) w₀ Z)
  (zmu : ZS Z 1 (fun r x=>r = e5 x) zcp zcq zE.fMem)
  (zmv : ZS Z 1 (fun r x=>r = e5 x) zcr zcs zE.fAct.fData)
  (hown : Hp (fps [stb z8h 65 [(.int .i64 zE.fState.fPc),(.int .i64 zE.fState.fLeft),(.int .u8 zE.fState.fRegs.a0),(.int .u8 zE.fState.fRegs.a1),(.int .u8 zE.fState.fRegs.a2),(.int .u8 zE.fState.fRegs.a3),(.int .u8 zE.fX.fOp),(.int .i64 zE.fX.fA),(.int .i64 zE.fX.fB),(.int .i64 zE.fX.fC),(.slice zcp zE.fMem.length zcq),(.int .u8 zE.fAct.fKind),(.int .i64 zE.fAct.fA),(.int .i64 zE.fAct.fB),(.slice zcr zE.fAct.fData.length zcs)]]) w₀ w₀ [stb z8h 65 [(.int .i64 zE.fState.fPc),(.int .i64 zE.fState.fLeft),(.int .u8 zE.fState.fRegs.a0),(.int .u8 zE.fState.fRegs.a1),(.int .u8 zE.fState.fRegs.a2),(.int .u8 zE.fState.fRegs.a3),(.int .u8 zE.fX.fOp),(.int .i64 zE.fX.fA),(.int .i64 zE.fX.fB),(.int .i64 zE.fX.fC),(.slice zcp zE.fMem.length zcq),(.int .u8 zE.fAct.fKind),(.int .i64 zE.fAct.fA),(.int .i64 zE.fAct.fB),(.slice zcr zE.fAct.fData.length zcs)]]) :
  Calls Tryd.prog 91 #[(.pointer (some ⟨z8h,0,none⟩))] w₀ fun e w'=>∃ zir : Option Addr,∃ zis : Nat,∃ zit : Option Addr,∃ ziu : Nat,e = .returned (.tuple #[]) ∧ ((ZS Z 1 (fun r x=>r = e5 x) zir zis r.fMem) ∧ (ZS Z 1 (fun r x=>r = e5 x) zit ziu r.fAct.fData)) ∧ Hp (fps [stb z8h 65 [(.int .i64 zE.fState.fPc),(.int .i64 zE.fState.fLeft),(.int .u8 zE.fState.fRegs.a0),(.int .u8 zE.fState.fRegs.a1),(.int .u8 zE.fState.fRegs.a2),(.int .u8 zE.fState.fRegs.a3),(.int .u8 zE.fX.fOp),(.int .i64 zE.fX.fA),(.int .i64 zE.fX.fB),(.int .i64 zE.fX.fC),(.slice zcp zE.fMem.length zcq),(.int .u8 zE.fAct.fKind),(.int .i64 zE.fAct.fA),(.int .i64 zE.fAct.fB),(.slice zcr zE.fAct.fData.length zcs)]]) w₀ w' [stb z8h 65 [(.int .i64 r.fState.fPc),(.int .i64 r.fState.fLeft),(.int .u8 r.fState.fRegs.a0),(.int .u8 r.fState.fRegs.a1),(.int .u8 r.fState.fRegs.a2),(.int .u8 r.fState.fRegs.a3),(.int .u8 r.fX.fOp),(.int .i64 r.fX.fA),(.int .i64 r.fX.fB),(.int .i64 r.fX.fC),(.slice zir r.fMem.length zis),(.int .u8 r.fAct.fKind),(.int .i64 r.fAct.fA),(.int .i64 r.fAct.fB),(.slice zit r.fAct.fData.length ziu)]]:=by
 unfold y2F at h
 refine Calls.y8 (vs:=[(.pointer (some ⟨z8h,0,none⟩))]) (pre:=[stb z8h 65 [(.int .i64 zE.fState.fPc),(.int .i64 zE.fState.fLeft),(.int .u8 zE.fState.fRegs.a0),(.int .u8 zE.fState.fRegs.a1),(.int .u8 zE.fState.fRegs.a2),(.int .u8 zE.fState.fRegs.a3),(.int .u8 zE.fX.fOp),(.int .i64 zE.fX.fA),(.int .i64 zE.fX.fB),(.int .i64 zE.fX.fC),(.slice zcp zE.fMem.length zcq),(.int .u8 zE.fAct.fKind),(.int .i64 zE.fAct.fA),(.int .i64 zE.fAct.fB),(.slice zcr zE.fAct.fData.length zcs)]]) (env:=[(0,(.pointer (some ⟨z8h,0,none⟩)))]) Tryd.func91 rfl Tryd.ntmps91 rfl (hown) rfl ?_
 obtain ⟨ziq,zmw,h⟩:=zb h
 refine WC.a (WL.pu rfl ?_)
 refine WL.yv (dd:=3) rfl rfl rfl (zk (l:=[.tmp 2,.const (.int .u8 4),.const (.slice none 0 0)]) Tryd.call110 (.cons rfl (.cons rfl (.cons rfl .nil)))) (.cons .here .nil) (cc hz (.cons .here .nil) fun w pz ho=>yy _ _ _ _ _ _ _ _ _ _ _ _ zmw w pz zmu zmv (ZS.nil _ _ _) ho) ?_
 rintro zmx zmy zmz zmA ⟨zmB,zmC⟩
 refine WL.nil ?_
 obtain rfl:=Option.some.inj h
 refine WX.y9 Tryd.results91 .nil (fun w hw=>?_)
 exact ⟨zmx,zmy,zmz,zmA,yB,⟨zmB,zmC⟩,hw.sub (.cons .here .nil)⟩
def y2m (zF : Sproc_execution) : Option Sproc_execution :=
 (ys zF 5 []).bind fun ziv=>some ziv
set_option maxRecDepth 20000 in
theorem y4j (Z : Zp) (z8i : Nat) (zct : Option Addr) (zcu : Nat) (zcv : Option Addr) (zcw : Nat) (zF : Sproc_execution) (r : Sproc_execution)
  (h : y2m zF = some r) (w₀ : World) (hz : PZ (fps [stb z8i 65 [(.int .i64 zF.fState.fPc),(.int .i64 zF.fState.fLeft),(.int .u8 zF.fState.fRegs.a0),(.int .u8 zF.fState.fRegs.a1),(.int .u8 zF.fState.fRegs.a2),(.int .u8 zF.fState.fRegs.a3),(.int .u8 zF.fX.fOp),(.int .i64 zF.fX.fA),(.int .i64 zF.fX.fB),(.int .i64 zF.fX.fC),(.slice zct zF.fMem.length zcu),(.int .u8 zF.fAct.fKind),(.int .i64 zF.fAct.fA),(.int .i64 zF.fAct.fB),(.slice zcv zF.fAct.fData.length zcw)]]) w₀ Z)
  (zmD : ZS Z 1 (fun r x=>r = e5 x) zct zcu zF.fMem)
  (zmE : ZS Z 1 (fun r x=>r = e5 x) zcv zcw zF.fAct.fData)
  (hown : Hp (fps [stb z8i 65 [(.int .i64 zF.fState.fPc),(.int .i64 zF.fState.fLeft),(.int .u8 zF.fState.fRegs.a0),(.int .u8 zF.fState.fRegs.a1),(.int .u8 zF.fState.fRegs.a2),(.int .u8 zF.fState.fRegs.a3),(.int .u8 zF.fX.fOp),(.int .i64 zF.fX.fA),(.int .i64 zF.fX.fB),(.int .i64 zF.fX.fC),(.slice zct zF.fMem.length zcu),(.int .u8 zF.fAct.fKind),(.int .i64 zF.fAct.fA),(.int .i64 zF.fAct.fB),(.slice zcv zF.fAct.fData.length zcw)]]) w₀ w₀ [stb z8i 65 [(.int .i64 zF.fState.fPc),(.int .i64 zF.fState.fLeft),(.int .u8 zF.fState.fRegs.a0),(.int .u8 zF.fState.fRegs.a1),(.int .u8 zF.fState.fRegs.a2),(.int .u8 zF.fState.fRegs.a3),(.int .u8 zF.fX.fOp),(.int .i64 zF.fX.fA),(.int .i64 zF.fX.fB),(.int .i64 zF.fX.fC),(.slice zct zF.fMem.length zcu),(.int .u8 zF.fAct.fKind),(.int .i64 zF.fAct.fA),(.int .i64 zF.fAct.fB),(.slice zcv zF.fAct.fData.length zcw)]]) :
  Calls Tryd.prog 92 #[(.pointer (some ⟨z8i,0,none⟩))] w₀ fun e w'=>∃ ziw : Option Addr,∃ zix : Nat,∃ ziy : Option Addr,∃ ziz : Nat,e = .returned (.tuple #[]) ∧ ((ZS Z 1 (fun r x=>r = e5 x) ziw zix r.fMem) ∧ (ZS Z 1 (fun r x=>r = e5 x) ziy ziz r.fAct.fData)) ∧ Hp (fps [stb z8i 65 [(.int .i64 zF.fState.fPc),(.int .i64 zF.fState.fLeft),(.int .u8 zF.fState.fRegs.a0),(.int .u8 zF.fState.fRegs.a1),(.int .u8 zF.fState.fRegs.a2),(.int .u8 zF.fState.fRegs.a3),(.int .u8 zF.fX.fOp),(.int .i64 zF.fX.fA),(.int .i64 zF.fX.fB),(.int .i64 zF.fX.fC),(.slice zct zF.fMem.length zcu),(.int .u8 zF.fAct.fKind),(.int .i64 zF.fAct.fA),(.int .i64 zF.fAct.fB),(.slice zcv zF.fAct.fData.length zcw)]]) w₀ w' [stb z8i 65 [(.int .i64 r.fState.fPc),(.int .i64 r.fState.fLeft),(.int .u8 r.fState.fRegs.a0),(.int .u8 r.fState.fRegs.a1),(.int .u8 r.fState.fRegs.a2),(.int .u8 r.fState.fRegs.a3),(.int .u8 r.fX.fOp),(.int .i64 r.fX.fA),(.int .i64 r.fX.fB),(.int .i64 r.fX.fC),(.slice ziw r.fMem.length zix),(.int .u8 r.fAct.fKind),(.int .i64 r.fAct.fA),(.int .i64 r.fAct.fB),(.slice ziy r.fAct.fData.length ziz)]]:=by
 unfold y2m at h
 refine Calls.y8 (vs:=[(.pointer (some ⟨z8i,0,none⟩))]) (pre:=[stb z8i 65 [(.int .i64 zF.fState.fPc),(.int .i64 zF.fState.fLeft),(.int .u8 zF.fState.fRegs.a0),(.int .u8 zF.fState.fRegs.a1),(.int .u8 zF.fState.fRegs.a2),(.int .u8 zF.fState.fRegs.a3),(.int .u8 zF.fX.fOp),(.int .i64 zF.fX.fA),(.int .i64 zF.fX.fB),(.int .i64 zF.fX.fC),(.slice zct zF.fMem.length zcu),(.int .u8 zF.fAct.fKind),(.int .i64 zF.fAct.fA),(.int .i64 zF.fAct.fB),(.slice zcv zF.fAct.fData.length zcw)]]) (env:=[(0,(.pointer (some ⟨z8i,0,none⟩)))]) Tryd.func92 rfl Tryd.ntmps92 rfl (hown) rfl ?_
 obtain ⟨ziv,zmF,h⟩:=zb h
 refine WC.a (WL.pu rfl ?_)
 refine WL.yv (dd:=3) rfl rfl rfl (zk (l:=[.tmp 2,.const (.int .u8 5),.const (.slice none 0 0)]) Tryd.call110 (.cons rfl (.cons rfl (.cons rfl .nil)))) (.cons .here .nil) (cc hz (.cons .here .nil) fun w pz ho=>yy _ _ _ _ _ _ _ _ _ _ _ _ zmF w pz zmD zmE (ZS.nil _ _ _) ho) ?_
 rintro zmG zmH zmI zmJ ⟨zmK,zmL⟩
 refine WL.nil ?_
 obtain rfl:=Option.some.inj h
 refine WX.y9 Tryd.results92 .nil (fun w hw=>?_)
 exact ⟨zmG,zmH,zmI,zmJ,yB,⟨zmK,zmL⟩,hw.sub (.cons .here .nil)⟩
def y2r (zG : Sproc_execution) : Option Sproc_execution :=
 (ys zG 6 []).bind fun ziA=>some ziA
set_option maxRecDepth 20000 in
theorem y4x (Z : Zp) (z8j : Nat) (zcx : Option Addr) (zcy : Nat) (zcz : Option Addr) (zcA : Nat) (zG : Sproc_execution) (r : Sproc_execution)
  (h : y2r zG = some r) (w₀ : World) (hz : PZ (fps [stb z8j 65 [(.int .i64 zG.fState.fPc),(.int .i64 zG.fState.fLeft),(.int .u8 zG.fState.fRegs.a0),(.int .u8 zG.fState.fRegs.a1),(.int .u8 zG.fState.fRegs.a2),(.int .u8 zG.fState.fRegs.a3),(.int .u8 zG.fX.fOp),(.int .i64 zG.fX.fA),(.int .i64 zG.fX.fB),(.int .i64 zG.fX.fC),(.slice zcx zG.fMem.length zcy),(.int .u8 zG.fAct.fKind),(.int .i64 zG.fAct.fA),(.int .i64 zG.fAct.fB),(.slice zcz zG.fAct.fData.length zcA)]]) w₀ Z)
  (zmM : ZS Z 1 (fun r x=>r = e5 x) zcx zcy zG.fMem)
  (zmN : ZS Z 1 (fun r x=>r = e5 x) zcz zcA zG.fAct.fData)
  (hown : Hp (fps [stb z8j 65 [(.int .i64 zG.fState.fPc),(.int .i64 zG.fState.fLeft),(.int .u8 zG.fState.fRegs.a0),(.int .u8 zG.fState.fRegs.a1),(.int .u8 zG.fState.fRegs.a2),(.int .u8 zG.fState.fRegs.a3),(.int .u8 zG.fX.fOp),(.int .i64 zG.fX.fA),(.int .i64 zG.fX.fB),(.int .i64 zG.fX.fC),(.slice zcx zG.fMem.length zcy),(.int .u8 zG.fAct.fKind),(.int .i64 zG.fAct.fA),(.int .i64 zG.fAct.fB),(.slice zcz zG.fAct.fData.length zcA)]]) w₀ w₀ [stb z8j 65 [(.int .i64 zG.fState.fPc),(.int .i64 zG.fState.fLeft),(.int .u8 zG.fState.fRegs.a0),(.int .u8 zG.fState.fRegs.a1),(.int .u8 zG.fState.fRegs.a2),(.int .u8 zG.fState.fRegs.a3),(.int .u8 zG.fX.fOp),(.int .i64 zG.fX.fA),(.int .i64 zG.fX.fB),(.int .i64 zG.fX.fC),(.slice zcx zG.fMem.length zcy),(.int .u8 zG.fAct.fKind),(.int .i64 zG.fAct.fA),(.int .i64 zG.fAct.fB),(.slice zcz zG.fAct.fData.length zcA)]]) :
  Calls Tryd.prog 93 #[(.pointer (some ⟨z8j,0,none⟩))] w₀ fun e w'=>∃ ziB : Option Addr,∃ ziC : Nat,∃ ziD : Option Addr,∃ ziE : Nat,e = .returned (.tuple #[]) ∧ ((ZS Z 1 (fun r x=>r = e5 x) ziB ziC r.fMem) ∧ (ZS Z 1 (fun r x=>r = e5 x) ziD ziE r.fAct.fData)) ∧ Hp (fps [stb z8j 65 [(.int .i64 zG.fState.fPc),(.int .i64 zG.fState.fLeft),(.int .u8 zG.fState.fRegs.a0),(.int .u8 zG.fState.fRegs.a1),(.int .u8 zG.fState.fRegs.a2),(.int .u8 zG.fState.fRegs.a3),(.int .u8 zG.fX.fOp),(.int .i64 zG.fX.fA),(.int .i64 zG.fX.fB),(.int .i64 zG.fX.fC),(.slice zcx zG.fMem.length zcy),(.int .u8 zG.fAct.fKind),(.int .i64 zG.fAct.fA),(.int .i64 zG.fAct.fB),(.slice zcz zG.fAct.fData.length zcA)]]) w₀ w' [stb z8j 65 [(.int .i64 r.fState.fPc),(.int .i64 r.fState.fLeft),(.int .u8 r.fState.fRegs.a0),(.int .u8 r.fState.fRegs.a1),(.int .u8 r.fState.fRegs.a2),(.int .u8 r.fState.fRegs.a3),(.int .u8 r.fX.fOp),(.int .i64 r.fX.fA),(.int .i64 r.fX.fB),(.int .i64 r.fX.fC),(.slice ziB r.fMem.length ziC),(.int .u8 r.fAct.fKind),(.int .i64 r.fAct.fA),(.int .i64 r.fAct.fB),(.slice ziD r.fAct.fData.length ziE)]]:=by
 unfold y2r at h
 refine Calls.y8 (vs:=[(.pointer (some ⟨z8j,0,none⟩))]) (pre:=[stb z8j 65 [(.int .i64 zG.fState.fPc),(.int .i64 zG.fState.fLeft),(.int .u8 zG.fState.fRegs.a0),(.int .u8 zG.fState.fRegs.a1),(.int .u8 zG.fState.fRegs.a2),(.int .u8 zG.fState.fRegs.a3),(.int .u8 zG.fX.fOp),(.int .i64 zG.fX.fA),(.int .i64 zG.fX.fB),(.int .i64 zG.fX.fC),(.slice zcx zG.fMem.length zcy),(.int .u8 zG.fAct.fKind),(.int .i64 zG.fAct.fA),(.int .i64 zG.fAct.fB),(.slice zcz zG.fAct.fData.length zcA)]]) (env:=[(0,(.pointer (some ⟨z8j,0,none⟩)))]) Tryd.func93 rfl Tryd.ntmps93 rfl (hown) rfl ?_
 obtain ⟨ziA,zmO,h⟩:=zb h
 refine WC.a (WL.pu rfl ?_)
 refine WL.yv (dd:=3) rfl rfl rfl (zk (l:=[.tmp 2,.const (.int .u8 6),.const (.slice none 0 0)]) Tryd.call110 (.cons rfl (.cons rfl (.cons rfl .nil)))) (.cons .here .nil) (cc hz (.cons .here .nil) fun w pz ho=>yy _ _ _ _ _ _ _ _ _ _ _ _ zmO w pz zmM zmN (ZS.nil _ _ _) ho) ?_
 rintro zmP zmQ zmR zmS ⟨zmT,zmU⟩
 refine WL.nil ?_
 obtain rfl:=Option.some.inj h
 refine WX.y9 Tryd.results93 .nil (fun w hw=>?_)
 exact ⟨zmP,zmQ,zmR,zmS,yB,⟨zmT,zmU⟩,hw.sub (.cons .here .nil)⟩
def y2s (zH : Sproc_execution) : Option Sproc_execution :=
 (ys zH 7 []).bind fun ziF=>some ziF
set_option maxRecDepth 20000 in
theorem y4y (Z : Zp) (z8k : Nat) (zcB : Option Addr) (zcC : Nat) (zcD : Option Addr) (zcE : Nat) (zH : Sproc_execution) (r : Sproc_execution)
  (h : y2s zH = some r) (w₀ : World) (hz : PZ (fps [stb z8k 65 [(.int .i64 zH.fState.fPc),(.int .i64 zH.fState.fLeft),(.int .u8 zH.fState.fRegs.a0),(.int .u8 zH.fState.fRegs.a1),(.int .u8 zH.fState.fRegs.a2),(.int .u8 zH.fState.fRegs.a3),(.int .u8 zH.fX.fOp),(.int .i64 zH.fX.fA),(.int .i64 zH.fX.fB),(.int .i64 zH.fX.fC),(.slice zcB zH.fMem.length zcC),(.int .u8 zH.fAct.fKind),(.int .i64 zH.fAct.fA),(.int .i64 zH.fAct.fB),(.slice zcD zH.fAct.fData.length zcE)]]) w₀ Z)
  (zmV : ZS Z 1 (fun r x=>r = e5 x) zcB zcC zH.fMem)
  (zmW : ZS Z 1 (fun r x=>r = e5 x) zcD zcE zH.fAct.fData)
  (hown : Hp (fps [stb z8k 65 [(.int .i64 zH.fState.fPc),(.int .i64 zH.fState.fLeft),(.int .u8 zH.fState.fRegs.a0),(.int .u8 zH.fState.fRegs.a1),(.int .u8 zH.fState.fRegs.a2),(.int .u8 zH.fState.fRegs.a3),(.int .u8 zH.fX.fOp),(.int .i64 zH.fX.fA),(.int .i64 zH.fX.fB),(.int .i64 zH.fX.fC),(.slice zcB zH.fMem.length zcC),(.int .u8 zH.fAct.fKind),(.int .i64 zH.fAct.fA),(.int .i64 zH.fAct.fB),(.slice zcD zH.fAct.fData.length zcE)]]) w₀ w₀ [stb z8k 65 [(.int .i64 zH.fState.fPc),(.int .i64 zH.fState.fLeft),(.int .u8 zH.fState.fRegs.a0),(.int .u8 zH.fState.fRegs.a1),(.int .u8 zH.fState.fRegs.a2),(.int .u8 zH.fState.fRegs.a3),(.int .u8 zH.fX.fOp),(.int .i64 zH.fX.fA),(.int .i64 zH.fX.fB),(.int .i64 zH.fX.fC),(.slice zcB zH.fMem.length zcC),(.int .u8 zH.fAct.fKind),(.int .i64 zH.fAct.fA),(.int .i64 zH.fAct.fB),(.slice zcD zH.fAct.fData.length zcE)]]) :
  Calls Tryd.prog 94 #[(.pointer (some ⟨z8k,0,none⟩))] w₀ fun e w'=>∃ ziG : Option Addr,∃ ziH : Nat,∃ ziI : Option Addr,∃ ziJ : Nat,e = .returned (.tuple #[]) ∧ ((ZS Z 1 (fun r x=>r = e5 x) ziG ziH r.fMem) ∧ (ZS Z 1 (fun r x=>r = e5 x) ziI ziJ r.fAct.fData)) ∧ Hp (fps [stb z8k 65 [(.int .i64 zH.fState.fPc),(.int .i64 zH.fState.fLeft),(.int .u8 zH.fState.fRegs.a0),(.int .u8 zH.fState.fRegs.a1),(.int .u8 zH.fState.fRegs.a2),(.int .u8 zH.fState.fRegs.a3),(.int .u8 zH.fX.fOp),(.int .i64 zH.fX.fA),(.int .i64 zH.fX.fB),(.int .i64 zH.fX.fC),(.slice zcB zH.fMem.length zcC),(.int .u8 zH.fAct.fKind),(.int .i64 zH.fAct.fA),(.int .i64 zH.fAct.fB),(.slice zcD zH.fAct.fData.length zcE)]]) w₀ w' [stb z8k 65 [(.int .i64 r.fState.fPc),(.int .i64 r.fState.fLeft),(.int .u8 r.fState.fRegs.a0),(.int .u8 r.fState.fRegs.a1),(.int .u8 r.fState.fRegs.a2),(.int .u8 r.fState.fRegs.a3),(.int .u8 r.fX.fOp),(.int .i64 r.fX.fA),(.int .i64 r.fX.fB),(.int .i64 r.fX.fC),(.slice ziG r.fMem.length ziH),(.int .u8 r.fAct.fKind),(.int .i64 r.fAct.fA),(.int .i64 r.fAct.fB),(.slice ziI r.fAct.fData.length ziJ)]]:=by
 unfold y2s at h
 refine Calls.y8 (vs:=[(.pointer (some ⟨z8k,0,none⟩))]) (pre:=[stb z8k 65 [(.int .i64 zH.fState.fPc),(.int .i64 zH.fState.fLeft),(.int .u8 zH.fState.fRegs.a0),(.int .u8 zH.fState.fRegs.a1),(.int .u8 zH.fState.fRegs.a2),(.int .u8 zH.fState.fRegs.a3),(.int .u8 zH.fX.fOp),(.int .i64 zH.fX.fA),(.int .i64 zH.fX.fB),(.int .i64 zH.fX.fC),(.slice zcB zH.fMem.length zcC),(.int .u8 zH.fAct.fKind),(.int .i64 zH.fAct.fA),(.int .i64 zH.fAct.fB),(.slice zcD zH.fAct.fData.length zcE)]]) (env:=[(0,(.pointer (some ⟨z8k,0,none⟩)))]) Tryd.func94 rfl Tryd.ntmps94 rfl (hown) rfl ?_
 obtain ⟨ziF,zmX,h⟩:=zb h
 refine WC.a (WL.pu rfl ?_)
 refine WL.yv (dd:=3) rfl rfl rfl (zk (l:=[.tmp 2,.const (.int .u8 7),.const (.slice none 0 0)]) Tryd.call110 (.cons rfl (.cons rfl (.cons rfl .nil)))) (.cons .here .nil) (cc hz (.cons .here .nil) fun w pz ho=>yy _ _ _ _ _ _ _ _ _ _ _ _ zmX w pz zmV zmW (ZS.nil _ _ _) ho) ?_
 rintro zmY zmZ zn0 zn1 ⟨zn2,zn3⟩
 refine WL.nil ?_
 obtain rfl:=Option.some.inj h
 refine WX.y9 Tryd.results94 .nil (fun w hw=>?_)
 exact ⟨zmY,zmZ,zn0,zn1,yB,⟨zn2,zn3⟩,hw.sub (.cons .here .nil)⟩
def y2t (zI : Sproc_execution) : Option Sproc_execution :=
 (ys zI 8 []).bind fun ziK=>some ziK
set_option maxRecDepth 20000 in
theorem y4z (Z : Zp) (z8l : Nat) (zcF : Option Addr) (zcG : Nat) (zcH : Option Addr) (zcI : Nat) (zI : Sproc_execution) (r : Sproc_execution)
  (h : y2t zI = some r) (w₀ : World) (hz : PZ (fps [stb z8l 65 [(.int .i64 zI.fState.fPc),(.int .i64 zI.fState.fLeft),(.int .u8 zI.fState.fRegs.a0),(.int .u8 zI.fState.fRegs.a1),(.int .u8 zI.fState.fRegs.a2),(.int .u8 zI.fState.fRegs.a3),(.int .u8 zI.fX.fOp),(.int .i64 zI.fX.fA),(.int .i64 zI.fX.fB),(.int .i64 zI.fX.fC),(.slice zcF zI.fMem.length zcG),(.int .u8 zI.fAct.fKind),(.int .i64 zI.fAct.fA),(.int .i64 zI.fAct.fB),(.slice zcH zI.fAct.fData.length zcI)]]) w₀ Z)
  (zn4 : ZS Z 1 (fun r x=>r = e5 x) zcF zcG zI.fMem)
  (zn5 : ZS Z 1 (fun r x=>r = e5 x) zcH zcI zI.fAct.fData)
  (hown : Hp (fps [stb z8l 65 [(.int .i64 zI.fState.fPc),(.int .i64 zI.fState.fLeft),(.int .u8 zI.fState.fRegs.a0),(.int .u8 zI.fState.fRegs.a1),(.int .u8 zI.fState.fRegs.a2),(.int .u8 zI.fState.fRegs.a3),(.int .u8 zI.fX.fOp),(.int .i64 zI.fX.fA),(.int .i64 zI.fX.fB),(.int .i64 zI.fX.fC),(.slice zcF zI.fMem.length zcG),(.int .u8 zI.fAct.fKind),(.int .i64 zI.fAct.fA),(.int .i64 zI.fAct.fB),(.slice zcH zI.fAct.fData.length zcI)]]) w₀ w₀ [stb z8l 65 [(.int .i64 zI.fState.fPc),(.int .i64 zI.fState.fLeft),(.int .u8 zI.fState.fRegs.a0),(.int .u8 zI.fState.fRegs.a1),(.int .u8 zI.fState.fRegs.a2),(.int .u8 zI.fState.fRegs.a3),(.int .u8 zI.fX.fOp),(.int .i64 zI.fX.fA),(.int .i64 zI.fX.fB),(.int .i64 zI.fX.fC),(.slice zcF zI.fMem.length zcG),(.int .u8 zI.fAct.fKind),(.int .i64 zI.fAct.fA),(.int .i64 zI.fAct.fB),(.slice zcH zI.fAct.fData.length zcI)]]) :
  Calls Tryd.prog 95 #[(.pointer (some ⟨z8l,0,none⟩))] w₀ fun e w'=>∃ ziL : Option Addr,∃ ziM : Nat,∃ ziN : Option Addr,∃ ziO : Nat,e = .returned (.tuple #[]) ∧ ((ZS Z 1 (fun r x=>r = e5 x) ziL ziM r.fMem) ∧ (ZS Z 1 (fun r x=>r = e5 x) ziN ziO r.fAct.fData)) ∧ Hp (fps [stb z8l 65 [(.int .i64 zI.fState.fPc),(.int .i64 zI.fState.fLeft),(.int .u8 zI.fState.fRegs.a0),(.int .u8 zI.fState.fRegs.a1),(.int .u8 zI.fState.fRegs.a2),(.int .u8 zI.fState.fRegs.a3),(.int .u8 zI.fX.fOp),(.int .i64 zI.fX.fA),(.int .i64 zI.fX.fB),(.int .i64 zI.fX.fC),(.slice zcF zI.fMem.length zcG),(.int .u8 zI.fAct.fKind),(.int .i64 zI.fAct.fA),(.int .i64 zI.fAct.fB),(.slice zcH zI.fAct.fData.length zcI)]]) w₀ w' [stb z8l 65 [(.int .i64 r.fState.fPc),(.int .i64 r.fState.fLeft),(.int .u8 r.fState.fRegs.a0),(.int .u8 r.fState.fRegs.a1),(.int .u8 r.fState.fRegs.a2),(.int .u8 r.fState.fRegs.a3),(.int .u8 r.fX.fOp),(.int .i64 r.fX.fA),(.int .i64 r.fX.fB),(.int .i64 r.fX.fC),(.slice ziL r.fMem.length ziM),(.int .u8 r.fAct.fKind),(.int .i64 r.fAct.fA),(.int .i64 r.fAct.fB),(.slice ziN r.fAct.fData.length ziO)]]:=by
 unfold y2t at h
 refine Calls.y8 (vs:=[(.pointer (some ⟨z8l,0,none⟩))]) (pre:=[stb z8l 65 [(.int .i64 zI.fState.fPc),(.int .i64 zI.fState.fLeft),(.int .u8 zI.fState.fRegs.a0),(.int .u8 zI.fState.fRegs.a1),(.int .u8 zI.fState.fRegs.a2),(.int .u8 zI.fState.fRegs.a3),(.int .u8 zI.fX.fOp),(.int .i64 zI.fX.fA),(.int .i64 zI.fX.fB),(.int .i64 zI.fX.fC),(.slice zcF zI.fMem.length zcG),(.int .u8 zI.fAct.fKind),(.int .i64 zI.fAct.fA),(.int .i64 zI.fAct.fB),(.slice zcH zI.fAct.fData.length zcI)]]) (env:=[(0,(.pointer (some ⟨z8l,0,none⟩)))]) Tryd.func95 rfl Tryd.ntmps95 rfl (hown) rfl ?_
 obtain ⟨ziK,zn6,h⟩:=zb h
 refine WC.a (WL.pu rfl ?_)
 refine WL.yv (dd:=3) rfl rfl rfl (zk (l:=[.tmp 2,.const (.int .u8 8),.const (.slice none 0 0)]) Tryd.call110 (.cons rfl (.cons rfl (.cons rfl .nil)))) (.cons .here .nil) (cc hz (.cons .here .nil) fun w pz ho=>yy _ _ _ _ _ _ _ _ _ _ _ _ zn6 w pz zn4 zn5 (ZS.nil _ _ _) ho) ?_
 rintro zn7 zn8 zn9 zna ⟨znb,znc⟩
 refine WL.nil ?_
 obtain rfl:=Option.some.inj h
 refine WX.y9 Tryd.results95 .nil (fun w hw=>?_)
 exact ⟨zn7,zn8,zn9,zna,yB,⟨znb,znc⟩,hw.sub (.cons .here .nil)⟩
def y2V (zn : Sproc_execution) : Option Sproc_execution :=
 (yk zn zn.fX.fB).bind fun znd=>chk ((0 : Int) ≤ zn.fX.fB ∧ zn.fX.fB < 4) ((ys zn 9 ([nth ([zn.fState.fRegs.a0,zn.fState.fRegs.a1,zn.fState.fRegs.a2,zn.fState.fRegs.a3] : List Int) zn.fX.fB] : List Int)).bind fun ziP=>some ziP)
set_option maxRecDepth 20000 in
theorem y5u (Z : Zp) (z8m : Nat) (zcJ : Option Addr) (zcK : Nat) (zcL : Option Addr) (zcM : Nat) (zn : Sproc_execution) (r : Sproc_execution)
  (h : y2V zn = some r) (w₀ : World) (hz : PZ (fps [stb z8m 65 [(.int .i64 zn.fState.fPc),(.int .i64 zn.fState.fLeft),(.int .u8 zn.fState.fRegs.a0),(.int .u8 zn.fState.fRegs.a1),(.int .u8 zn.fState.fRegs.a2),(.int .u8 zn.fState.fRegs.a3),(.int .u8 zn.fX.fOp),(.int .i64 zn.fX.fA),(.int .i64 zn.fX.fB),(.int .i64 zn.fX.fC),(.slice zcJ zn.fMem.length zcK),(.int .u8 zn.fAct.fKind),(.int .i64 zn.fAct.fA),(.int .i64 zn.fAct.fB),(.slice zcL zn.fAct.fData.length zcM)]]) w₀ Z)
  (ziQ : ZS Z 1 (fun r x=>r = e5 x) zcJ zcK zn.fMem)
  (ziR : ZS Z 1 (fun r x=>r = e5 x) zcL zcM zn.fAct.fData)
  (hown : Hp (fps [stb z8m 65 [(.int .i64 zn.fState.fPc),(.int .i64 zn.fState.fLeft),(.int .u8 zn.fState.fRegs.a0),(.int .u8 zn.fState.fRegs.a1),(.int .u8 zn.fState.fRegs.a2),(.int .u8 zn.fState.fRegs.a3),(.int .u8 zn.fX.fOp),(.int .i64 zn.fX.fA),(.int .i64 zn.fX.fB),(.int .i64 zn.fX.fC),(.slice zcJ zn.fMem.length zcK),(.int .u8 zn.fAct.fKind),(.int .i64 zn.fAct.fA),(.int .i64 zn.fAct.fB),(.slice zcL zn.fAct.fData.length zcM)]]) w₀ w₀ [stb z8m 65 [(.int .i64 zn.fState.fPc),(.int .i64 zn.fState.fLeft),(.int .u8 zn.fState.fRegs.a0),(.int .u8 zn.fState.fRegs.a1),(.int .u8 zn.fState.fRegs.a2),(.int .u8 zn.fState.fRegs.a3),(.int .u8 zn.fX.fOp),(.int .i64 zn.fX.fA),(.int .i64 zn.fX.fB),(.int .i64 zn.fX.fC),(.slice zcJ zn.fMem.length zcK),(.int .u8 zn.fAct.fKind),(.int .i64 zn.fAct.fA),(.int .i64 zn.fAct.fB),(.slice zcL zn.fAct.fData.length zcM)]]) :
  Calls Tryd.prog 96 #[(.pointer (some ⟨z8m,0,none⟩))] w₀ fun e w'=>∃ Zn : Zp,∃ ziS : Option Addr,∃ ziT : Nat,∃ ziU : Option Addr,∃ ziV : Nat,e = .returned (.tuple #[]) ∧ ((ZS (Z ++ Zn) 1 (fun r x=>r = e5 x) ziS ziT r.fMem) ∧ (ZS (Z ++ Zn) 1 (fun r x=>r = e5 x) ziU ziV r.fAct.fData)) ∧ Hp (fps [stb z8m 65 [(.int .i64 zn.fState.fPc),(.int .i64 zn.fState.fLeft),(.int .u8 zn.fState.fRegs.a0),(.int .u8 zn.fState.fRegs.a1),(.int .u8 zn.fState.fRegs.a2),(.int .u8 zn.fState.fRegs.a3),(.int .u8 zn.fX.fOp),(.int .i64 zn.fX.fA),(.int .i64 zn.fX.fB),(.int .i64 zn.fX.fC),(.slice zcJ zn.fMem.length zcK),(.int .u8 zn.fAct.fKind),(.int .i64 zn.fAct.fA),(.int .i64 zn.fAct.fB),(.slice zcL zn.fAct.fData.length zcM)]]) w₀ w' [fz Zn,stb z8m 65 [(.int .i64 r.fState.fPc),(.int .i64 r.fState.fLeft),(.int .u8 r.fState.fRegs.a0),(.int .u8 r.fState.fRegs.a1),(.int .u8 r.fState.fRegs.a2),(.int .u8 r.fState.fRegs.a3),(.int .u8 r.fX.fOp),(.int .i64 r.fX.fA),(.int .i64 r.fX.fB),(.int .i64 r.fX.fC),(.slice ziS r.fMem.length ziT),(.int .u8 r.fAct.fKind),(.int .i64 r.fAct.fA),(.int .i64 r.fAct.fB),(.slice ziU r.fAct.fData.length ziV)]]:=by
 unfold y2V at h
 refine Calls.y8 (vs:=[(.pointer (some ⟨z8m,0,none⟩))]) (pre:=[stb z8m 65 [(.int .i64 zn.fState.fPc),(.int .i64 zn.fState.fLeft),(.int .u8 zn.fState.fRegs.a0),(.int .u8 zn.fState.fRegs.a1),(.int .u8 zn.fState.fRegs.a2),(.int .u8 zn.fState.fRegs.a3),(.int .u8 zn.fX.fOp),(.int .i64 zn.fX.fA),(.int .i64 zn.fX.fB),(.int .i64 zn.fX.fC),(.slice zcJ zn.fMem.length zcK),(.int .u8 zn.fAct.fKind),(.int .i64 zn.fAct.fA),(.int .i64 zn.fAct.fB),(.slice zcL zn.fAct.fData.length zcM)]]) (env:=[(0,(.pointer (some ⟨z8m,0,none⟩)))]) Tryd.func96 rfl Tryd.ntmps96 rfl (hown) rfl ?_
 refine WC.pool ?_
 obtain ⟨znd,zne,h⟩:=zb h
 obtain ⟨znf,h⟩:=ya h
 obtain ⟨ziP,zng,h⟩:=zb h
 refine WC.a (WL.pu rfl (WL.pu rfl (WL.pu rfl ?_)))
 refine WL.a (d:=5) rfl rfl rfl (y6 rfl) ?_
 refine WL.a (d:=6) rfl rfl rfl (y4 yl rfl rfl) ?_
 refine WL.a (d:=7) rfl rfl rfl (y4 y16 rfl rfl) ?_
 refine WL.a (d:=8) rfl rfl rfl (y5 yd rfl (yb .h1 rfl)) ?_
 refine WL.b (dd:=9) rfl rfl rfl (zk (l:=[.tmp 3,.tmp 8]) Tryd.call108 (.cons rfl (.cons rfl .nil))) .nil (y2c hz .nil .here (.cons .h1 .nil) fun w pz ho la=>yu _ _ _ _ _ _ _ _ _ zne w pz ((ziQ.mono (Zle.left _ _)).mono (Zle.left _ _)) ((ziR.mono (Zle.left _ _)).mono (Zle.left _ _)) ((la _ (.head _) _).stb)) ?_
 refine WL.a (d:=10) rfl rfl rfl (y6 rfl) ?_
 refine WL.a (d:=11) rfl rfl rfl (y5 yC rfl (yY (l:=([zn.fState.fRegs.a0,zn.fState.fRegs.a1,zn.fState.fRegs.a2,zn.fState.fRegs.a3] : List Int)) (f:=Value.int .u8) (k:=2) (m:=6) .h1 rfl rfl znf)) ?_
 refine WL.new (dd:=12) rfl rfl rfl (yx (cs:=([nth ([zn.fState.fRegs.a0,zn.fState.fRegs.a1,zn.fState.fRegs.a2,zn.fState.fRegs.a3] : List Int) zn.fX.fB] : List Int).flatMap e5) y1F (Eos.parts (l:=[.tmp 11]) (.cons rfl .nil) [0]) (fun _=>by kernel_rfl) rfl (by unfold maxLen; omega)) ?_
 intro zwZ _
 refine WL.freezeS (ls:=([nth ([zn.fState.fRegs.a0,zn.fState.fRegs.a1,zn.fState.fRegs.a2,zn.fState.fRegs.a3] : List Int) zn.fX.fB] : List Int)) .here .here hz (RR.yI (enc:=e5) (fun _=>rfl) _) ?_
 intro znh ziW zni
 refine WL.yv (dd:=13) rfl rfl rfl (zk (l:=[.tmp 2,.const (.int .u8 9),.tmp 12]) Tryd.call110 (.cons rfl (.cons rfl (.cons rfl .nil)))) (.cons .h1 .nil) (ccz hz (.cons .h1 .nil) .here fun w pz ho=>yy _ _ _ _ _ _ _ _ _ _ _ _ zng w pz (ziQ.mono ((Zle.left _ _).trans ziW)) (ziR.mono ((Zle.left _ _).trans ziW)) zni ho) ?_
 rintro znj znk znl znm ⟨znn,zno⟩
 refine WL.nil ?_
 obtain rfl:=Option.some.inj h
 refine WX.y9 Tryd.results96 .nil (fun w hw=>?_)
 exact ⟨znh,znj,znk,znl,znm,yB,⟨znn,zno⟩,hw.sub (.cons .h1 (.cons .here .nil))⟩
def y2W (zJ : Sproc_execution) : Option Sproc_execution :=
 (ys zJ 10 []).bind fun ziX=>some ziX
set_option maxRecDepth 20000 in
theorem y5v (Z : Zp) (z8n : Nat) (zcN : Option Addr) (zcO : Nat) (zcP : Option Addr) (zcQ : Nat) (zJ : Sproc_execution) (r : Sproc_execution)
  (h : y2W zJ = some r) (w₀ : World) (hz : PZ (fps [stb z8n 65 [(.int .i64 zJ.fState.fPc),(.int .i64 zJ.fState.fLeft),(.int .u8 zJ.fState.fRegs.a0),(.int .u8 zJ.fState.fRegs.a1),(.int .u8 zJ.fState.fRegs.a2),(.int .u8 zJ.fState.fRegs.a3),(.int .u8 zJ.fX.fOp),(.int .i64 zJ.fX.fA),(.int .i64 zJ.fX.fB),(.int .i64 zJ.fX.fC),(.slice zcN zJ.fMem.length zcO),(.int .u8 zJ.fAct.fKind),(.int .i64 zJ.fAct.fA),(.int .i64 zJ.fAct.fB),(.slice zcP zJ.fAct.fData.length zcQ)]]) w₀ Z)
  (znp : ZS Z 1 (fun r x=>r = e5 x) zcN zcO zJ.fMem)
  (znq : ZS Z 1 (fun r x=>r = e5 x) zcP zcQ zJ.fAct.fData)
  (hown : Hp (fps [stb z8n 65 [(.int .i64 zJ.fState.fPc),(.int .i64 zJ.fState.fLeft),(.int .u8 zJ.fState.fRegs.a0),(.int .u8 zJ.fState.fRegs.a1),(.int .u8 zJ.fState.fRegs.a2),(.int .u8 zJ.fState.fRegs.a3),(.int .u8 zJ.fX.fOp),(.int .i64 zJ.fX.fA),(.int .i64 zJ.fX.fB),(.int .i64 zJ.fX.fC),(.slice zcN zJ.fMem.length zcO),(.int .u8 zJ.fAct.fKind),(.int .i64 zJ.fAct.fA),(.int .i64 zJ.fAct.fB),(.slice zcP zJ.fAct.fData.length zcQ)]]) w₀ w₀ [stb z8n 65 [(.int .i64 zJ.fState.fPc),(.int .i64 zJ.fState.fLeft),(.int .u8 zJ.fState.fRegs.a0),(.int .u8 zJ.fState.fRegs.a1),(.int .u8 zJ.fState.fRegs.a2),(.int .u8 zJ.fState.fRegs.a3),(.int .u8 zJ.fX.fOp),(.int .i64 zJ.fX.fA),(.int .i64 zJ.fX.fB),(.int .i64 zJ.fX.fC),(.slice zcN zJ.fMem.length zcO),(.int .u8 zJ.fAct.fKind),(.int .i64 zJ.fAct.fA),(.int .i64 zJ.fAct.fB),(.slice zcP zJ.fAct.fData.length zcQ)]]) :
  Calls Tryd.prog 97 #[(.pointer (some ⟨z8n,0,none⟩))] w₀ fun e w'=>∃ ziY : Option Addr,∃ ziZ : Nat,∃ zj0 : Option Addr,∃ zj1 : Nat,e = .returned (.tuple #[]) ∧ ((ZS Z 1 (fun r x=>r = e5 x) ziY ziZ r.fMem) ∧ (ZS Z 1 (fun r x=>r = e5 x) zj0 zj1 r.fAct.fData)) ∧ Hp (fps [stb z8n 65 [(.int .i64 zJ.fState.fPc),(.int .i64 zJ.fState.fLeft),(.int .u8 zJ.fState.fRegs.a0),(.int .u8 zJ.fState.fRegs.a1),(.int .u8 zJ.fState.fRegs.a2),(.int .u8 zJ.fState.fRegs.a3),(.int .u8 zJ.fX.fOp),(.int .i64 zJ.fX.fA),(.int .i64 zJ.fX.fB),(.int .i64 zJ.fX.fC),(.slice zcN zJ.fMem.length zcO),(.int .u8 zJ.fAct.fKind),(.int .i64 zJ.fAct.fA),(.int .i64 zJ.fAct.fB),(.slice zcP zJ.fAct.fData.length zcQ)]]) w₀ w' [stb z8n 65 [(.int .i64 r.fState.fPc),(.int .i64 r.fState.fLeft),(.int .u8 r.fState.fRegs.a0),(.int .u8 r.fState.fRegs.a1),(.int .u8 r.fState.fRegs.a2),(.int .u8 r.fState.fRegs.a3),(.int .u8 r.fX.fOp),(.int .i64 r.fX.fA),(.int .i64 r.fX.fB),(.int .i64 r.fX.fC),(.slice ziY r.fMem.length ziZ),(.int .u8 r.fAct.fKind),(.int .i64 r.fAct.fA),(.int .i64 r.fAct.fB),(.slice zj0 r.fAct.fData.length zj1)]]:=by
 unfold y2W at h
 refine Calls.y8 (vs:=[(.pointer (some ⟨z8n,0,none⟩))]) (pre:=[stb z8n 65 [(.int .i64 zJ.fState.fPc),(.int .i64 zJ.fState.fLeft),(.int .u8 zJ.fState.fRegs.a0),(.int .u8 zJ.fState.fRegs.a1),(.int .u8 zJ.fState.fRegs.a2),(.int .u8 zJ.fState.fRegs.a3),(.int .u8 zJ.fX.fOp),(.int .i64 zJ.fX.fA),(.int .i64 zJ.fX.fB),(.int .i64 zJ.fX.fC),(.slice zcN zJ.fMem.length zcO),(.int .u8 zJ.fAct.fKind),(.int .i64 zJ.fAct.fA),(.int .i64 zJ.fAct.fB),(.slice zcP zJ.fAct.fData.length zcQ)]]) (env:=[(0,(.pointer (some ⟨z8n,0,none⟩)))]) Tryd.func97 rfl Tryd.ntmps97 rfl (hown) rfl ?_
 obtain ⟨ziX,znr,h⟩:=zb h
 refine WC.a (WL.pu rfl ?_)
 refine WL.yv (dd:=3) rfl rfl rfl (zk (l:=[.tmp 2,.const (.int .u8 10),.const (.slice none 0 0)]) Tryd.call110 (.cons rfl (.cons rfl (.cons rfl .nil)))) (.cons .here .nil) (cc hz (.cons .here .nil) fun w pz ho=>yy _ _ _ _ _ _ _ _ _ _ _ _ znr w pz znp znq (ZS.nil _ _ _) ho) ?_
 rintro zns znt znu znv ⟨znw,znx⟩
 refine WL.nil ?_
 obtain rfl:=Option.some.inj h
 refine WX.y9 Tryd.results97 .nil (fun w hw=>?_)
 exact ⟨zns,znt,znu,znv,yB,⟨znw,znx⟩,hw.sub (.cons .here .nil)⟩
def y2G (zo : Sproc_execution) : Option Sproc_execution :=
 (yk zo zo.fX.fB).bind fun zny=>chk ((0 : Int) ≤ zo.fX.fB ∧ zo.fX.fB < 4) ((ys zo 11 ([nth ([zo.fState.fRegs.a0,zo.fState.fRegs.a1,zo.fState.fRegs.a2,zo.fState.fRegs.a3] : List Int) zo.fX.fB] : List Int)).bind fun zj2=>some zj2)
set_option maxRecDepth 20000 in
theorem y4Z (Z : Zp) (z8o : Nat) (zcR : Option Addr) (zcS : Nat) (zcT : Option Addr) (zcU : Nat) (zo : Sproc_execution) (r : Sproc_execution)
  (h : y2G zo = some r) (w₀ : World) (hz : PZ (fps [stb z8o 65 [(.int .i64 zo.fState.fPc),(.int .i64 zo.fState.fLeft),(.int .u8 zo.fState.fRegs.a0),(.int .u8 zo.fState.fRegs.a1),(.int .u8 zo.fState.fRegs.a2),(.int .u8 zo.fState.fRegs.a3),(.int .u8 zo.fX.fOp),(.int .i64 zo.fX.fA),(.int .i64 zo.fX.fB),(.int .i64 zo.fX.fC),(.slice zcR zo.fMem.length zcS),(.int .u8 zo.fAct.fKind),(.int .i64 zo.fAct.fA),(.int .i64 zo.fAct.fB),(.slice zcT zo.fAct.fData.length zcU)]]) w₀ Z)
  (zj3 : ZS Z 1 (fun r x=>r = e5 x) zcR zcS zo.fMem)
  (zj4 : ZS Z 1 (fun r x=>r = e5 x) zcT zcU zo.fAct.fData)
  (hown : Hp (fps [stb z8o 65 [(.int .i64 zo.fState.fPc),(.int .i64 zo.fState.fLeft),(.int .u8 zo.fState.fRegs.a0),(.int .u8 zo.fState.fRegs.a1),(.int .u8 zo.fState.fRegs.a2),(.int .u8 zo.fState.fRegs.a3),(.int .u8 zo.fX.fOp),(.int .i64 zo.fX.fA),(.int .i64 zo.fX.fB),(.int .i64 zo.fX.fC),(.slice zcR zo.fMem.length zcS),(.int .u8 zo.fAct.fKind),(.int .i64 zo.fAct.fA),(.int .i64 zo.fAct.fB),(.slice zcT zo.fAct.fData.length zcU)]]) w₀ w₀ [stb z8o 65 [(.int .i64 zo.fState.fPc),(.int .i64 zo.fState.fLeft),(.int .u8 zo.fState.fRegs.a0),(.int .u8 zo.fState.fRegs.a1),(.int .u8 zo.fState.fRegs.a2),(.int .u8 zo.fState.fRegs.a3),(.int .u8 zo.fX.fOp),(.int .i64 zo.fX.fA),(.int .i64 zo.fX.fB),(.int .i64 zo.fX.fC),(.slice zcR zo.fMem.length zcS),(.int .u8 zo.fAct.fKind),(.int .i64 zo.fAct.fA),(.int .i64 zo.fAct.fB),(.slice zcT zo.fAct.fData.length zcU)]]) :
  Calls Tryd.prog 98 #[(.pointer (some ⟨z8o,0,none⟩))] w₀ fun e w'=>∃ Zn : Zp,∃ zj5 : Option Addr,∃ zj6 : Nat,∃ zj7 : Option Addr,∃ zj8 : Nat,e = .returned (.tuple #[]) ∧ ((ZS (Z ++ Zn) 1 (fun r x=>r = e5 x) zj5 zj6 r.fMem) ∧ (ZS (Z ++ Zn) 1 (fun r x=>r = e5 x) zj7 zj8 r.fAct.fData)) ∧ Hp (fps [stb z8o 65 [(.int .i64 zo.fState.fPc),(.int .i64 zo.fState.fLeft),(.int .u8 zo.fState.fRegs.a0),(.int .u8 zo.fState.fRegs.a1),(.int .u8 zo.fState.fRegs.a2),(.int .u8 zo.fState.fRegs.a3),(.int .u8 zo.fX.fOp),(.int .i64 zo.fX.fA),(.int .i64 zo.fX.fB),(.int .i64 zo.fX.fC),(.slice zcR zo.fMem.length zcS),(.int .u8 zo.fAct.fKind),(.int .i64 zo.fAct.fA),(.int .i64 zo.fAct.fB),(.slice zcT zo.fAct.fData.length zcU)]]) w₀ w' [fz Zn,stb z8o 65 [(.int .i64 r.fState.fPc),(.int .i64 r.fState.fLeft),(.int .u8 r.fState.fRegs.a0),(.int .u8 r.fState.fRegs.a1),(.int .u8 r.fState.fRegs.a2),(.int .u8 r.fState.fRegs.a3),(.int .u8 r.fX.fOp),(.int .i64 r.fX.fA),(.int .i64 r.fX.fB),(.int .i64 r.fX.fC),(.slice zj5 r.fMem.length zj6),(.int .u8 r.fAct.fKind),(.int .i64 r.fAct.fA),(.int .i64 r.fAct.fB),(.slice zj7 r.fAct.fData.length zj8)]]:=by
 unfold y2G at h
 refine Calls.y8 (vs:=[(.pointer (some ⟨z8o,0,none⟩))]) (pre:=[stb z8o 65 [(.int .i64 zo.fState.fPc),(.int .i64 zo.fState.fLeft),(.int .u8 zo.fState.fRegs.a0),(.int .u8 zo.fState.fRegs.a1),(.int .u8 zo.fState.fRegs.a2),(.int .u8 zo.fState.fRegs.a3),(.int .u8 zo.fX.fOp),(.int .i64 zo.fX.fA),(.int .i64 zo.fX.fB),(.int .i64 zo.fX.fC),(.slice zcR zo.fMem.length zcS),(.int .u8 zo.fAct.fKind),(.int .i64 zo.fAct.fA),(.int .i64 zo.fAct.fB),(.slice zcT zo.fAct.fData.length zcU)]]) (env:=[(0,(.pointer (some ⟨z8o,0,none⟩)))]) Tryd.func98 rfl Tryd.ntmps98 rfl (hown) rfl ?_
 refine WC.pool ?_
 obtain ⟨zny,znz,h⟩:=zb h
 obtain ⟨znA,h⟩:=ya h
 obtain ⟨zj2,znB,h⟩:=zb h
 refine WC.a (WL.pu rfl (WL.pu rfl (WL.pu rfl ?_)))
 refine WL.a (d:=5) rfl rfl rfl (y6 rfl) ?_
 refine WL.a (d:=6) rfl rfl rfl (y4 yl rfl rfl) ?_
 refine WL.a (d:=7) rfl rfl rfl (y4 y16 rfl rfl) ?_
 refine WL.a (d:=8) rfl rfl rfl (y5 yd rfl (yb .h1 rfl)) ?_
 refine WL.b (dd:=9) rfl rfl rfl (zk (l:=[.tmp 3,.tmp 8]) Tryd.call108 (.cons rfl (.cons rfl .nil))) .nil (y2c hz .nil .here (.cons .h1 .nil) fun w pz ho la=>yu _ _ _ _ _ _ _ _ _ znz w pz ((zj3.mono (Zle.left _ _)).mono (Zle.left _ _)) ((zj4.mono (Zle.left _ _)).mono (Zle.left _ _)) ((la _ (.head _) _).stb)) ?_
 refine WL.a (d:=10) rfl rfl rfl (y6 rfl) ?_
 refine WL.a (d:=11) rfl rfl rfl (y5 yC rfl (yY (l:=([zo.fState.fRegs.a0,zo.fState.fRegs.a1,zo.fState.fRegs.a2,zo.fState.fRegs.a3] : List Int)) (f:=Value.int .u8) (k:=2) (m:=6) .h1 rfl rfl znA)) ?_
 refine WL.new (dd:=12) rfl rfl rfl (yx (cs:=([nth ([zo.fState.fRegs.a0,zo.fState.fRegs.a1,zo.fState.fRegs.a2,zo.fState.fRegs.a3] : List Int) zo.fX.fB] : List Int).flatMap e5) y1F (Eos.parts (l:=[.tmp 11]) (.cons rfl .nil) [0]) (fun _=>by kernel_rfl) rfl (by unfold maxLen; omega)) ?_
 intro zx0 _
 refine WL.freezeS (ls:=([nth ([zo.fState.fRegs.a0,zo.fState.fRegs.a1,zo.fState.fRegs.a2,zo.fState.fRegs.a3] : List Int) zo.fX.fB] : List Int)) .here .here hz (RR.yI (enc:=e5) (fun _=>rfl) _) ?_
 intro znC zj9 znD
 refine WL.yv (dd:=13) rfl rfl rfl (zk (l:=[.tmp 2,.const (.int .u8 11),.tmp 12]) Tryd.call110 (.cons rfl (.cons rfl (.cons rfl .nil)))) (.cons .h1 .nil) (ccz hz (.cons .h1 .nil) .here fun w pz ho=>yy _ _ _ _ _ _ _ _ _ _ _ _ znB w pz (zj3.mono ((Zle.left _ _).trans zj9)) (zj4.mono ((Zle.left _ _).trans zj9)) znD ho) ?_
 rintro znE znF znG znH ⟨znI,znJ⟩
 refine WL.nil ?_
 obtain rfl:=Option.some.inj h
 refine WX.y9 Tryd.results98 .nil (fun w hw=>?_)
 exact ⟨znC,znE,znF,znG,znH,yB,⟨znI,znJ⟩,hw.sub (.cons .h1 (.cons .here .nil))⟩
def y2H (zK : Sproc_execution) : Option Sproc_execution :=
 (ys zK 12 []).bind fun zja=>some zja
set_option maxRecDepth 20000 in
theorem y50 (Z : Zp) (z8p : Nat) (zcV : Option Addr) (zcW : Nat) (zcX : Option Addr) (zcY : Nat) (zK : Sproc_execution) (r : Sproc_execution)
  (h : y2H zK = some r) (w₀ : World) (hz : PZ (fps [stb z8p 65 [(.int .i64 zK.fState.fPc),(.int .i64 zK.fState.fLeft),(.int .u8 zK.fState.fRegs.a0),(.int .u8 zK.fState.fRegs.a1),(.int .u8 zK.fState.fRegs.a2),(.int .u8 zK.fState.fRegs.a3),(.int .u8 zK.fX.fOp),(.int .i64 zK.fX.fA),(.int .i64 zK.fX.fB),(.int .i64 zK.fX.fC),(.slice zcV zK.fMem.length zcW),(.int .u8 zK.fAct.fKind),(.int .i64 zK.fAct.fA),(.int .i64 zK.fAct.fB),(.slice zcX zK.fAct.fData.length zcY)]]) w₀ Z)
  (znK : ZS Z 1 (fun r x=>r = e5 x) zcV zcW zK.fMem)
  (znL : ZS Z 1 (fun r x=>r = e5 x) zcX zcY zK.fAct.fData)
  (hown : Hp (fps [stb z8p 65 [(.int .i64 zK.fState.fPc),(.int .i64 zK.fState.fLeft),(.int .u8 zK.fState.fRegs.a0),(.int .u8 zK.fState.fRegs.a1),(.int .u8 zK.fState.fRegs.a2),(.int .u8 zK.fState.fRegs.a3),(.int .u8 zK.fX.fOp),(.int .i64 zK.fX.fA),(.int .i64 zK.fX.fB),(.int .i64 zK.fX.fC),(.slice zcV zK.fMem.length zcW),(.int .u8 zK.fAct.fKind),(.int .i64 zK.fAct.fA),(.int .i64 zK.fAct.fB),(.slice zcX zK.fAct.fData.length zcY)]]) w₀ w₀ [stb z8p 65 [(.int .i64 zK.fState.fPc),(.int .i64 zK.fState.fLeft),(.int .u8 zK.fState.fRegs.a0),(.int .u8 zK.fState.fRegs.a1),(.int .u8 zK.fState.fRegs.a2),(.int .u8 zK.fState.fRegs.a3),(.int .u8 zK.fX.fOp),(.int .i64 zK.fX.fA),(.int .i64 zK.fX.fB),(.int .i64 zK.fX.fC),(.slice zcV zK.fMem.length zcW),(.int .u8 zK.fAct.fKind),(.int .i64 zK.fAct.fA),(.int .i64 zK.fAct.fB),(.slice zcX zK.fAct.fData.length zcY)]]) :
  Calls Tryd.prog 99 #[(.pointer (some ⟨z8p,0,none⟩))] w₀ fun e w'=>∃ zjb : Option Addr,∃ zjc : Nat,∃ zjd : Option Addr,∃ zje : Nat,e = .returned (.tuple #[]) ∧ ((ZS Z 1 (fun r x=>r = e5 x) zjb zjc r.fMem) ∧ (ZS Z 1 (fun r x=>r = e5 x) zjd zje r.fAct.fData)) ∧ Hp (fps [stb z8p 65 [(.int .i64 zK.fState.fPc),(.int .i64 zK.fState.fLeft),(.int .u8 zK.fState.fRegs.a0),(.int .u8 zK.fState.fRegs.a1),(.int .u8 zK.fState.fRegs.a2),(.int .u8 zK.fState.fRegs.a3),(.int .u8 zK.fX.fOp),(.int .i64 zK.fX.fA),(.int .i64 zK.fX.fB),(.int .i64 zK.fX.fC),(.slice zcV zK.fMem.length zcW),(.int .u8 zK.fAct.fKind),(.int .i64 zK.fAct.fA),(.int .i64 zK.fAct.fB),(.slice zcX zK.fAct.fData.length zcY)]]) w₀ w' [stb z8p 65 [(.int .i64 r.fState.fPc),(.int .i64 r.fState.fLeft),(.int .u8 r.fState.fRegs.a0),(.int .u8 r.fState.fRegs.a1),(.int .u8 r.fState.fRegs.a2),(.int .u8 r.fState.fRegs.a3),(.int .u8 r.fX.fOp),(.int .i64 r.fX.fA),(.int .i64 r.fX.fB),(.int .i64 r.fX.fC),(.slice zjb r.fMem.length zjc),(.int .u8 r.fAct.fKind),(.int .i64 r.fAct.fA),(.int .i64 r.fAct.fB),(.slice zjd r.fAct.fData.length zje)]]:=by
 unfold y2H at h
 refine Calls.y8 (vs:=[(.pointer (some ⟨z8p,0,none⟩))]) (pre:=[stb z8p 65 [(.int .i64 zK.fState.fPc),(.int .i64 zK.fState.fLeft),(.int .u8 zK.fState.fRegs.a0),(.int .u8 zK.fState.fRegs.a1),(.int .u8 zK.fState.fRegs.a2),(.int .u8 zK.fState.fRegs.a3),(.int .u8 zK.fX.fOp),(.int .i64 zK.fX.fA),(.int .i64 zK.fX.fB),(.int .i64 zK.fX.fC),(.slice zcV zK.fMem.length zcW),(.int .u8 zK.fAct.fKind),(.int .i64 zK.fAct.fA),(.int .i64 zK.fAct.fB),(.slice zcX zK.fAct.fData.length zcY)]]) (env:=[(0,(.pointer (some ⟨z8p,0,none⟩)))]) Tryd.func99 rfl Tryd.ntmps99 rfl (hown) rfl ?_
 obtain ⟨zja,znM,h⟩:=zb h
 refine WC.a (WL.pu rfl ?_)
 refine WL.yv (dd:=3) rfl rfl rfl (zk (l:=[.tmp 2,.const (.int .u8 12),.const (.slice none 0 0)]) Tryd.call110 (.cons rfl (.cons rfl (.cons rfl .nil)))) (.cons .here .nil) (cc hz (.cons .here .nil) fun w pz ho=>yy _ _ _ _ _ _ _ _ _ _ _ _ znM w pz znK znL (ZS.nil _ _ _) ho) ?_
 rintro znN znO znP znQ ⟨znR,znS⟩
 refine WL.nil ?_
 obtain rfl:=Option.some.inj h
 refine WX.y9 Tryd.results99 .nil (fun w hw=>?_)
 exact ⟨znN,znO,znP,znQ,yB,⟨znR,znS⟩,hw.sub (.cons .here .nil)⟩
def y2u (zL : Sproc_execution) : Option Sproc_execution :=
 (ys zL 13 []).bind fun zjf=>some zjf
set_option maxRecDepth 20000 in
theorem y4A (Z : Zp) (z8q : Nat) (zcZ : Option Addr) (zd0 : Nat) (zd1 : Option Addr) (zd2 : Nat) (zL : Sproc_execution) (r : Sproc_execution)
  (h : y2u zL = some r) (w₀ : World) (hz : PZ (fps [stb z8q 65 [(.int .i64 zL.fState.fPc),(.int .i64 zL.fState.fLeft),(.int .u8 zL.fState.fRegs.a0),(.int .u8 zL.fState.fRegs.a1),(.int .u8 zL.fState.fRegs.a2),(.int .u8 zL.fState.fRegs.a3),(.int .u8 zL.fX.fOp),(.int .i64 zL.fX.fA),(.int .i64 zL.fX.fB),(.int .i64 zL.fX.fC),(.slice zcZ zL.fMem.length zd0),(.int .u8 zL.fAct.fKind),(.int .i64 zL.fAct.fA),(.int .i64 zL.fAct.fB),(.slice zd1 zL.fAct.fData.length zd2)]]) w₀ Z)
  (znT : ZS Z 1 (fun r x=>r = e5 x) zcZ zd0 zL.fMem)
  (znU : ZS Z 1 (fun r x=>r = e5 x) zd1 zd2 zL.fAct.fData)
  (hown : Hp (fps [stb z8q 65 [(.int .i64 zL.fState.fPc),(.int .i64 zL.fState.fLeft),(.int .u8 zL.fState.fRegs.a0),(.int .u8 zL.fState.fRegs.a1),(.int .u8 zL.fState.fRegs.a2),(.int .u8 zL.fState.fRegs.a3),(.int .u8 zL.fX.fOp),(.int .i64 zL.fX.fA),(.int .i64 zL.fX.fB),(.int .i64 zL.fX.fC),(.slice zcZ zL.fMem.length zd0),(.int .u8 zL.fAct.fKind),(.int .i64 zL.fAct.fA),(.int .i64 zL.fAct.fB),(.slice zd1 zL.fAct.fData.length zd2)]]) w₀ w₀ [stb z8q 65 [(.int .i64 zL.fState.fPc),(.int .i64 zL.fState.fLeft),(.int .u8 zL.fState.fRegs.a0),(.int .u8 zL.fState.fRegs.a1),(.int .u8 zL.fState.fRegs.a2),(.int .u8 zL.fState.fRegs.a3),(.int .u8 zL.fX.fOp),(.int .i64 zL.fX.fA),(.int .i64 zL.fX.fB),(.int .i64 zL.fX.fC),(.slice zcZ zL.fMem.length zd0),(.int .u8 zL.fAct.fKind),(.int .i64 zL.fAct.fA),(.int .i64 zL.fAct.fB),(.slice zd1 zL.fAct.fData.length zd2)]]) :
  Calls Tryd.prog 100 #[(.pointer (some ⟨z8q,0,none⟩))] w₀ fun e w'=>∃ zjg : Option Addr,∃ zjh : Nat,∃ zji : Option Addr,∃ zjj : Nat,e = .returned (.tuple #[]) ∧ ((ZS Z 1 (fun r x=>r = e5 x) zjg zjh r.fMem) ∧ (ZS Z 1 (fun r x=>r = e5 x) zji zjj r.fAct.fData)) ∧ Hp (fps [stb z8q 65 [(.int .i64 zL.fState.fPc),(.int .i64 zL.fState.fLeft),(.int .u8 zL.fState.fRegs.a0),(.int .u8 zL.fState.fRegs.a1),(.int .u8 zL.fState.fRegs.a2),(.int .u8 zL.fState.fRegs.a3),(.int .u8 zL.fX.fOp),(.int .i64 zL.fX.fA),(.int .i64 zL.fX.fB),(.int .i64 zL.fX.fC),(.slice zcZ zL.fMem.length zd0),(.int .u8 zL.fAct.fKind),(.int .i64 zL.fAct.fA),(.int .i64 zL.fAct.fB),(.slice zd1 zL.fAct.fData.length zd2)]]) w₀ w' [stb z8q 65 [(.int .i64 r.fState.fPc),(.int .i64 r.fState.fLeft),(.int .u8 r.fState.fRegs.a0),(.int .u8 r.fState.fRegs.a1),(.int .u8 r.fState.fRegs.a2),(.int .u8 r.fState.fRegs.a3),(.int .u8 r.fX.fOp),(.int .i64 r.fX.fA),(.int .i64 r.fX.fB),(.int .i64 r.fX.fC),(.slice zjg r.fMem.length zjh),(.int .u8 r.fAct.fKind),(.int .i64 r.fAct.fA),(.int .i64 r.fAct.fB),(.slice zji r.fAct.fData.length zjj)]]:=by
 unfold y2u at h
 refine Calls.y8 (vs:=[(.pointer (some ⟨z8q,0,none⟩))]) (pre:=[stb z8q 65 [(.int .i64 zL.fState.fPc),(.int .i64 zL.fState.fLeft),(.int .u8 zL.fState.fRegs.a0),(.int .u8 zL.fState.fRegs.a1),(.int .u8 zL.fState.fRegs.a2),(.int .u8 zL.fState.fRegs.a3),(.int .u8 zL.fX.fOp),(.int .i64 zL.fX.fA),(.int .i64 zL.fX.fB),(.int .i64 zL.fX.fC),(.slice zcZ zL.fMem.length zd0),(.int .u8 zL.fAct.fKind),(.int .i64 zL.fAct.fA),(.int .i64 zL.fAct.fB),(.slice zd1 zL.fAct.fData.length zd2)]]) (env:=[(0,(.pointer (some ⟨z8q,0,none⟩)))]) Tryd.func100 rfl Tryd.ntmps100 rfl (hown) rfl ?_
 obtain ⟨zjf,znV,h⟩:=zb h
 refine WC.a (WL.pu rfl ?_)
 refine WL.yv (dd:=3) rfl rfl rfl (zk (l:=[.tmp 2,.const (.int .u8 13),.const (.slice none 0 0)]) Tryd.call110 (.cons rfl (.cons rfl (.cons rfl .nil)))) (.cons .here .nil) (cc hz (.cons .here .nil) fun w pz ho=>yy _ _ _ _ _ _ _ _ _ _ _ _ znV w pz znT znU (ZS.nil _ _ _) ho) ?_
 rintro znW znX znY znZ ⟨zo0,zo1⟩
 refine WL.nil ?_
 obtain rfl:=Option.some.inj h
 refine WX.y9 Tryd.results100 .nil (fun w hw=>?_)
 exact ⟨znW,znX,znY,znZ,yB,⟨zo0,zo1⟩,hw.sub (.cons .here .nil)⟩
def y2I (zw : Sproc_execution) : Option Sproc_execution :=
 some (⟨zw.fState,zw.fX,zw.fMem,(⟨14,0,0,([] : List Int)⟩ : Sproc_Act)⟩ : Sproc_execution)
set_option maxRecDepth 20000 in
theorem y51 (Z : Zp) (z8r : Nat) (za0 : Option Addr) (za1 : Nat) (zd3 : Option Addr) (zd4 : Nat) (zw : Sproc_execution) (r : Sproc_execution)
  (h : y2I zw = some r) (w₀ : World) (hz : PZ (fps [stb z8r 65 [(.int .i64 zw.fState.fPc),(.int .i64 zw.fState.fLeft),(.int .u8 zw.fState.fRegs.a0),(.int .u8 zw.fState.fRegs.a1),(.int .u8 zw.fState.fRegs.a2),(.int .u8 zw.fState.fRegs.a3),(.int .u8 zw.fX.fOp),(.int .i64 zw.fX.fA),(.int .i64 zw.fX.fB),(.int .i64 zw.fX.fC),(.slice za0 zw.fMem.length za1),(.int .u8 zw.fAct.fKind),(.int .i64 zw.fAct.fA),(.int .i64 zw.fAct.fB),(.slice zd3 zw.fAct.fData.length zd4)]]) w₀ Z)
  (zo2 : ZS Z 1 (fun r x=>r = e5 x) za0 za1 zw.fMem)
  (zx1 : ZS Z 1 (fun r x=>r = e5 x) zd3 zd4 zw.fAct.fData)
  (hown : Hp (fps [stb z8r 65 [(.int .i64 zw.fState.fPc),(.int .i64 zw.fState.fLeft),(.int .u8 zw.fState.fRegs.a0),(.int .u8 zw.fState.fRegs.a1),(.int .u8 zw.fState.fRegs.a2),(.int .u8 zw.fState.fRegs.a3),(.int .u8 zw.fX.fOp),(.int .i64 zw.fX.fA),(.int .i64 zw.fX.fB),(.int .i64 zw.fX.fC),(.slice za0 zw.fMem.length za1),(.int .u8 zw.fAct.fKind),(.int .i64 zw.fAct.fA),(.int .i64 zw.fAct.fB),(.slice zd3 zw.fAct.fData.length zd4)]]) w₀ w₀ [stb z8r 65 [(.int .i64 zw.fState.fPc),(.int .i64 zw.fState.fLeft),(.int .u8 zw.fState.fRegs.a0),(.int .u8 zw.fState.fRegs.a1),(.int .u8 zw.fState.fRegs.a2),(.int .u8 zw.fState.fRegs.a3),(.int .u8 zw.fX.fOp),(.int .i64 zw.fX.fA),(.int .i64 zw.fX.fB),(.int .i64 zw.fX.fC),(.slice za0 zw.fMem.length za1),(.int .u8 zw.fAct.fKind),(.int .i64 zw.fAct.fA),(.int .i64 zw.fAct.fB),(.slice zd3 zw.fAct.fData.length zd4)]]) :
  Calls Tryd.prog 101 #[(.pointer (some ⟨z8r,0,none⟩))] w₀ fun e w'=>∃ zjk : Option Addr,∃ zjl : Nat,∃ zjm : Option Addr,∃ zjn : Nat,e = .returned (.tuple #[]) ∧ (ZS Z 1 (fun r x=>r = e5 x) zjk zjl r.fMem) ∧ Hp (fps [stb z8r 65 [(.int .i64 zw.fState.fPc),(.int .i64 zw.fState.fLeft),(.int .u8 zw.fState.fRegs.a0),(.int .u8 zw.fState.fRegs.a1),(.int .u8 zw.fState.fRegs.a2),(.int .u8 zw.fState.fRegs.a3),(.int .u8 zw.fX.fOp),(.int .i64 zw.fX.fA),(.int .i64 zw.fX.fB),(.int .i64 zw.fX.fC),(.slice za0 zw.fMem.length za1),(.int .u8 zw.fAct.fKind),(.int .i64 zw.fAct.fA),(.int .i64 zw.fAct.fB),(.slice zd3 zw.fAct.fData.length zd4)]]) w₀ w' [stb z8r 65 [(.int .i64 r.fState.fPc),(.int .i64 r.fState.fLeft),(.int .u8 r.fState.fRegs.a0),(.int .u8 r.fState.fRegs.a1),(.int .u8 r.fState.fRegs.a2),(.int .u8 r.fState.fRegs.a3),(.int .u8 r.fX.fOp),(.int .i64 r.fX.fA),(.int .i64 r.fX.fB),(.int .i64 r.fX.fC),(.slice zjk r.fMem.length zjl),(.int .u8 r.fAct.fKind),(.int .i64 r.fAct.fA),(.int .i64 r.fAct.fB),(.slice zjm r.fAct.fData.length zjn)],row (.slice zjm r.fAct.fData.length zjn) 5 1 (r.fAct.fData.flatMap e5)]:=by
 unfold y2I at h
 refine Calls.y8 (vs:=[(.pointer (some ⟨z8r,0,none⟩))]) (pre:=[stb z8r 65 [(.int .i64 zw.fState.fPc),(.int .i64 zw.fState.fLeft),(.int .u8 zw.fState.fRegs.a0),(.int .u8 zw.fState.fRegs.a1),(.int .u8 zw.fState.fRegs.a2),(.int .u8 zw.fState.fRegs.a3),(.int .u8 zw.fX.fOp),(.int .i64 zw.fX.fA),(.int .i64 zw.fX.fB),(.int .i64 zw.fX.fC),(.slice za0 zw.fMem.length za1),(.int .u8 zw.fAct.fKind),(.int .i64 zw.fAct.fA),(.int .i64 zw.fAct.fB),(.slice zd3 zw.fAct.fData.length zd4)]]) (env:=[(0,(.pointer (some ⟨z8r,0,none⟩)))]) Tryd.func101 rfl Tryd.ntmps101 rfl (hown) rfl ?_
 refine WC.a (WL.pu rfl ?_)
 refine WL.a (d:=3) rfl rfl rfl (yP (v:=(.agg #[(.int .u8 14),(.int .i64 0),(.int .i64 0),(.slice none 0 0)])) (Eos.parts (l:=[.const (.int .u8 14)]) (.cons rfl .nil) [0]) (fun _=>by kernel_rfl)) ?_
 refine WL.a (d:=4) rfl rfl rfl (y6 rfl) ?_
 refine WL.a (d:=5) rfl rfl rfl (y4 y2f rfl rfl) ?_
 refine WL.yf rfl rfl (yK (ds:=[(.int .i64 zw.fState.fPc),(.int .i64 zw.fState.fLeft),(.int .u8 zw.fState.fRegs.a0),(.int .u8 zw.fState.fRegs.a1),(.int .u8 zw.fState.fRegs.a2),(.int .u8 zw.fState.fRegs.a3),(.int .u8 zw.fX.fOp),(.int .i64 zw.fX.fA),(.int .i64 zw.fX.fB),(.int .i64 zw.fX.fC),(.slice za0 zw.fMem.length za1),(.int .u8 14),(.int .i64 0),(.int .i64 0),(.slice none 0 0)]) yV rfl rfl rfl rfl rfl .here rfl rfl) ?_
 refine WL.nil ?_
 refine WX.nilRow 5 1 ?_
 obtain rfl:=Option.some.inj h
 refine WX.y9 Tryd.results101 .nil (fun w hw=>?_)
 exact ⟨za0,za1,none,0,yB,zo2,hw.sub (.cons .h1 (.cons .here .nil))⟩
def y2J (zq : Sproc_execution) : Option Sproc_execution :=
 some (⟨(⟨zq.fX.fA,zq.fState.fLeft,zq.fState.fRegs⟩ : Sproc_State),zq.fX,zq.fMem,zq.fAct⟩ : Sproc_execution)
set_option maxRecDepth 20000 in
theorem y52 (Z : Zp) (z8s : Nat) (za2 : Option Addr) (za3 : Nat) (za4 : Option Addr) (za5 : Nat) (zq : Sproc_execution) (r : Sproc_execution)
  (h : y2J zq = some r) (w₀ : World) (hz : PZ (fps [stb z8s 65 [(.int .i64 zq.fState.fPc),(.int .i64 zq.fState.fLeft),(.int .u8 zq.fState.fRegs.a0),(.int .u8 zq.fState.fRegs.a1),(.int .u8 zq.fState.fRegs.a2),(.int .u8 zq.fState.fRegs.a3),(.int .u8 zq.fX.fOp),(.int .i64 zq.fX.fA),(.int .i64 zq.fX.fB),(.int .i64 zq.fX.fC),(.slice za2 zq.fMem.length za3),(.int .u8 zq.fAct.fKind),(.int .i64 zq.fAct.fA),(.int .i64 zq.fAct.fB),(.slice za4 zq.fAct.fData.length za5)]]) w₀ Z)
  (zo3 : ZS Z 1 (fun r x=>r = e5 x) za2 za3 zq.fMem)
  (zo4 : ZS Z 1 (fun r x=>r = e5 x) za4 za5 zq.fAct.fData)
  (hown : Hp (fps [stb z8s 65 [(.int .i64 zq.fState.fPc),(.int .i64 zq.fState.fLeft),(.int .u8 zq.fState.fRegs.a0),(.int .u8 zq.fState.fRegs.a1),(.int .u8 zq.fState.fRegs.a2),(.int .u8 zq.fState.fRegs.a3),(.int .u8 zq.fX.fOp),(.int .i64 zq.fX.fA),(.int .i64 zq.fX.fB),(.int .i64 zq.fX.fC),(.slice za2 zq.fMem.length za3),(.int .u8 zq.fAct.fKind),(.int .i64 zq.fAct.fA),(.int .i64 zq.fAct.fB),(.slice za4 zq.fAct.fData.length za5)]]) w₀ w₀ [stb z8s 65 [(.int .i64 zq.fState.fPc),(.int .i64 zq.fState.fLeft),(.int .u8 zq.fState.fRegs.a0),(.int .u8 zq.fState.fRegs.a1),(.int .u8 zq.fState.fRegs.a2),(.int .u8 zq.fState.fRegs.a3),(.int .u8 zq.fX.fOp),(.int .i64 zq.fX.fA),(.int .i64 zq.fX.fB),(.int .i64 zq.fX.fC),(.slice za2 zq.fMem.length za3),(.int .u8 zq.fAct.fKind),(.int .i64 zq.fAct.fA),(.int .i64 zq.fAct.fB),(.slice za4 zq.fAct.fData.length za5)]]) :
  Calls Tryd.prog 102 #[(.pointer (some ⟨z8s,0,none⟩))] w₀ fun e w'=>∃ zjo : Option Addr,∃ zjp : Nat,∃ zjq : Option Addr,∃ zjr : Nat,e = .returned (.tuple #[]) ∧ ((ZS Z 1 (fun r x=>r = e5 x) zjo zjp r.fMem) ∧ (ZS Z 1 (fun r x=>r = e5 x) zjq zjr r.fAct.fData)) ∧ Hp (fps [stb z8s 65 [(.int .i64 zq.fState.fPc),(.int .i64 zq.fState.fLeft),(.int .u8 zq.fState.fRegs.a0),(.int .u8 zq.fState.fRegs.a1),(.int .u8 zq.fState.fRegs.a2),(.int .u8 zq.fState.fRegs.a3),(.int .u8 zq.fX.fOp),(.int .i64 zq.fX.fA),(.int .i64 zq.fX.fB),(.int .i64 zq.fX.fC),(.slice za2 zq.fMem.length za3),(.int .u8 zq.fAct.fKind),(.int .i64 zq.fAct.fA),(.int .i64 zq.fAct.fB),(.slice za4 zq.fAct.fData.length za5)]]) w₀ w' [stb z8s 65 [(.int .i64 r.fState.fPc),(.int .i64 r.fState.fLeft),(.int .u8 r.fState.fRegs.a0),(.int .u8 r.fState.fRegs.a1),(.int .u8 r.fState.fRegs.a2),(.int .u8 r.fState.fRegs.a3),(.int .u8 r.fX.fOp),(.int .i64 r.fX.fA),(.int .i64 r.fX.fB),(.int .i64 r.fX.fC),(.slice zjo r.fMem.length zjp),(.int .u8 r.fAct.fKind),(.int .i64 r.fAct.fA),(.int .i64 r.fAct.fB),(.slice zjq r.fAct.fData.length zjr)]]:=by
 unfold y2J at h
 refine Calls.y8 (vs:=[(.pointer (some ⟨z8s,0,none⟩))]) (pre:=[stb z8s 65 [(.int .i64 zq.fState.fPc),(.int .i64 zq.fState.fLeft),(.int .u8 zq.fState.fRegs.a0),(.int .u8 zq.fState.fRegs.a1),(.int .u8 zq.fState.fRegs.a2),(.int .u8 zq.fState.fRegs.a3),(.int .u8 zq.fX.fOp),(.int .i64 zq.fX.fA),(.int .i64 zq.fX.fB),(.int .i64 zq.fX.fC),(.slice za2 zq.fMem.length za3),(.int .u8 zq.fAct.fKind),(.int .i64 zq.fAct.fA),(.int .i64 zq.fAct.fB),(.slice za4 zq.fAct.fData.length za5)]]) (env:=[(0,(.pointer (some ⟨z8s,0,none⟩)))]) Tryd.func102 rfl Tryd.ntmps102 rfl (hown) rfl ?_
 refine WC.a (WL.pu rfl (WL.pu rfl ?_))
 refine WL.a (d:=4) rfl rfl rfl (y6 rfl) ?_
 refine WL.a (d:=5) rfl rfl rfl (y4 yl rfl rfl) ?_
 refine WL.a (d:=6) rfl rfl rfl (y4 yR rfl rfl) ?_
 refine WL.a (d:=7) rfl rfl rfl (y5 yd rfl (yb .here rfl)) ?_
 refine WL.a (d:=8) rfl rfl rfl (y6 rfl) ?_
 refine WL.a (d:=9) rfl rfl rfl (y4 yH rfl rfl) ?_
 refine WL.a (d:=10) rfl rfl rfl (y4 y1d rfl rfl) ?_
 refine WL.yf rfl rfl (yK (ds:=[(.int .i64 zq.fX.fA),(.int .i64 zq.fState.fLeft),(.int .u8 zq.fState.fRegs.a0),(.int .u8 zq.fState.fRegs.a1),(.int .u8 zq.fState.fRegs.a2),(.int .u8 zq.fState.fRegs.a3),(.int .u8 zq.fX.fOp),(.int .i64 zq.fX.fA),(.int .i64 zq.fX.fB),(.int .i64 zq.fX.fC),(.slice za2 zq.fMem.length za3),(.int .u8 zq.fAct.fKind),(.int .i64 zq.fAct.fA),(.int .i64 zq.fAct.fB),(.slice za4 zq.fAct.fData.length za5)]) y20 rfl rfl rfl rfl rfl .here rfl rfl) ?_
 refine WL.nil ?_
 obtain rfl:=Option.some.inj h
 refine WX.y9 Tryd.results102 .nil (fun w hw=>?_)
 exact ⟨za2,za3,za4,za5,yB,⟨zo3,zo4⟩,hw.sub (.cons .here .nil)⟩
def y2K (zl : Sproc_execution) : Option Sproc_execution :=
 (yk zl zl.fX.fA).bind fun zo5=>chk ((0 : Int) ≤ zl.fX.fA ∧ zl.fX.fA < 4) (if decide ((nth ([zl.fState.fRegs.a0,zl.fState.fRegs.a1,zl.fState.fRegs.a2,zl.fState.fRegs.a3] : List Int) zl.fX.fA) = 0) then some (⟨(⟨zl.fX.fB,zl.fState.fLeft,zl.fState.fRegs⟩ : Sproc_State),zl.fX,zl.fMem,zl.fAct⟩ : Sproc_execution) else some zl)
set_option maxRecDepth 20000 in
theorem y53 (Z : Zp) (z8t : Nat) (z8u : Option Addr) (z8v : Nat) (z8w : Option Addr) (z8x : Nat) (zl : Sproc_execution) (r : Sproc_execution)
  (h : y2K zl = some r) (w₀ : World) (hz : PZ (fps [stb z8t 65 [(.int .i64 zl.fState.fPc),(.int .i64 zl.fState.fLeft),(.int .u8 zl.fState.fRegs.a0),(.int .u8 zl.fState.fRegs.a1),(.int .u8 zl.fState.fRegs.a2),(.int .u8 zl.fState.fRegs.a3),(.int .u8 zl.fX.fOp),(.int .i64 zl.fX.fA),(.int .i64 zl.fX.fB),(.int .i64 zl.fX.fC),(.slice z8u zl.fMem.length z8v),(.int .u8 zl.fAct.fKind),(.int .i64 zl.fAct.fA),(.int .i64 zl.fAct.fB),(.slice z8w zl.fAct.fData.length z8x)]]) w₀ Z)
  (zfE : ZS Z 1 (fun r x=>r = e5 x) z8u z8v zl.fMem)
  (zfF : ZS Z 1 (fun r x=>r = e5 x) z8w z8x zl.fAct.fData)
  (hown : Hp (fps [stb z8t 65 [(.int .i64 zl.fState.fPc),(.int .i64 zl.fState.fLeft),(.int .u8 zl.fState.fRegs.a0),(.int .u8 zl.fState.fRegs.a1),(.int .u8 zl.fState.fRegs.a2),(.int .u8 zl.fState.fRegs.a3),(.int .u8 zl.fX.fOp),(.int .i64 zl.fX.fA),(.int .i64 zl.fX.fB),(.int .i64 zl.fX.fC),(.slice z8u zl.fMem.length z8v),(.int .u8 zl.fAct.fKind),(.int .i64 zl.fAct.fA),(.int .i64 zl.fAct.fB),(.slice z8w zl.fAct.fData.length z8x)]]) w₀ w₀ [stb z8t 65 [(.int .i64 zl.fState.fPc),(.int .i64 zl.fState.fLeft),(.int .u8 zl.fState.fRegs.a0),(.int .u8 zl.fState.fRegs.a1),(.int .u8 zl.fState.fRegs.a2),(.int .u8 zl.fState.fRegs.a3),(.int .u8 zl.fX.fOp),(.int .i64 zl.fX.fA),(.int .i64 zl.fX.fB),(.int .i64 zl.fX.fC),(.slice z8u zl.fMem.length z8v),(.int .u8 zl.fAct.fKind),(.int .i64 zl.fAct.fA),(.int .i64 zl.fAct.fB),(.slice z8w zl.fAct.fData.length z8x)]]) :
  Calls Tryd.prog 103 #[(.pointer (some ⟨z8t,0,none⟩))] w₀ fun e w'=>∃ zjs : Option Addr,∃ zjt : Nat,∃ zju : Option Addr,∃ zjv : Nat,e = .returned (.tuple #[]) ∧ ((ZS Z 1 (fun r x=>r = e5 x) zjs zjt r.fMem) ∧ (ZS Z 1 (fun r x=>r = e5 x) zju zjv r.fAct.fData)) ∧ Hp (fps [stb z8t 65 [(.int .i64 zl.fState.fPc),(.int .i64 zl.fState.fLeft),(.int .u8 zl.fState.fRegs.a0),(.int .u8 zl.fState.fRegs.a1),(.int .u8 zl.fState.fRegs.a2),(.int .u8 zl.fState.fRegs.a3),(.int .u8 zl.fX.fOp),(.int .i64 zl.fX.fA),(.int .i64 zl.fX.fB),(.int .i64 zl.fX.fC),(.slice z8u zl.fMem.length z8v),(.int .u8 zl.fAct.fKind),(.int .i64 zl.fAct.fA),(.int .i64 zl.fAct.fB),(.slice z8w zl.fAct.fData.length z8x)]]) w₀ w' [stb z8t 65 [(.int .i64 r.fState.fPc),(.int .i64 r.fState.fLeft),(.int .u8 r.fState.fRegs.a0),(.int .u8 r.fState.fRegs.a1),(.int .u8 r.fState.fRegs.a2),(.int .u8 r.fState.fRegs.a3),(.int .u8 r.fX.fOp),(.int .i64 r.fX.fA),(.int .i64 r.fX.fB),(.int .i64 r.fX.fC),(.slice zjs r.fMem.length zjt),(.int .u8 r.fAct.fKind),(.int .i64 r.fAct.fA),(.int .i64 r.fAct.fB),(.slice zju r.fAct.fData.length zjv)]]:=by
 unfold y2K at h
 refine Calls.y8 (vs:=[(.pointer (some ⟨z8t,0,none⟩))]) (pre:=[stb z8t 65 [(.int .i64 zl.fState.fPc),(.int .i64 zl.fState.fLeft),(.int .u8 zl.fState.fRegs.a0),(.int .u8 zl.fState.fRegs.a1),(.int .u8 zl.fState.fRegs.a2),(.int .u8 zl.fState.fRegs.a3),(.int .u8 zl.fX.fOp),(.int .i64 zl.fX.fA),(.int .i64 zl.fX.fB),(.int .i64 zl.fX.fC),(.slice z8u zl.fMem.length z8v),(.int .u8 zl.fAct.fKind),(.int .i64 zl.fAct.fA),(.int .i64 zl.fAct.fB),(.slice z8w zl.fAct.fData.length z8x)]]) (env:=[(0,(.pointer (some ⟨z8t,0,none⟩)))]) Tryd.func103 rfl Tryd.ntmps103 rfl (hown) rfl ?_
 refine WC.b ?_
 obtain ⟨zo5,zo6,h⟩:=zb h
 obtain ⟨zo7,h⟩:=ya h
 refine WC.a (WL.pu rfl (WL.pu rfl ?_))
 refine WL.a (d:=4) rfl rfl rfl (y6 rfl) ?_
 refine WL.a (d:=5) rfl rfl rfl (y4 yl rfl rfl) ?_
 refine WL.a (d:=6) rfl rfl rfl (y4 yR rfl rfl) ?_
 refine WL.a (d:=7) rfl rfl rfl (y5 yd rfl (yb .here rfl)) ?_
 refine WL.b (dd:=8) rfl rfl rfl (zk (l:=[.tmp 2,.tmp 7]) Tryd.call108 (.cons rfl (.cons rfl .nil))) .nil (ccl hz .nil (.cons .here .nil) fun w pz ho la=>yu _ _ _ _ _ _ _ _ _ zo6 w pz (zfE.mono (Zle.left _ _)) (zfF.mono (Zle.left _ _)) ((la _ (.head _) _).stb)) ?_
 refine WL.a (d:=9) rfl rfl rfl (y6 rfl) ?_
 refine WL.a (d:=10) rfl rfl rfl (y5 yC rfl (yY (l:=([zl.fState.fRegs.a0,zl.fState.fRegs.a1,zl.fState.fRegs.a2,zl.fState.fRegs.a3] : List Int)) (f:=Value.int .u8) (k:=2) (m:=6) .here rfl rfl zo7)) ?_
 refine WL.pu rfl (WL.nil (WX.a ?_))
 refine WC.cond rfl (fun zfG=>?_) (fun zfG=>?_)
 ·replace h:=ym h zfG
  refine WC.a (WL.pu rfl (WL.pu rfl ?_))
  refine WL.a (d:=14) rfl rfl rfl (y6 rfl) ?_
  refine WL.a (d:=15) rfl rfl rfl (y4 yl rfl rfl) ?_
  refine WL.a (d:=16) rfl rfl rfl (y4 y16 rfl rfl) ?_
  refine WL.a (d:=17) rfl rfl rfl (y5 yd rfl (yb .here rfl)) ?_
  refine WL.a (d:=18) rfl rfl rfl (y6 rfl) ?_
  refine WL.a (d:=19) rfl rfl rfl (y4 yH rfl rfl) ?_
  refine WL.a (d:=20) rfl rfl rfl (y4 y1d rfl rfl) ?_
  refine WL.yf rfl rfl (yK (ds:=[(.int .i64 zl.fX.fB),(.int .i64 zl.fState.fLeft),(.int .u8 zl.fState.fRegs.a0),(.int .u8 zl.fState.fRegs.a1),(.int .u8 zl.fState.fRegs.a2),(.int .u8 zl.fState.fRegs.a3),(.int .u8 zl.fX.fOp),(.int .i64 zl.fX.fA),(.int .i64 zl.fX.fB),(.int .i64 zl.fX.fC),(.slice z8u zl.fMem.length z8v),(.int .u8 zl.fAct.fKind),(.int .i64 zl.fAct.fA),(.int .i64 zl.fAct.fB),(.slice z8w zl.fAct.fData.length z8x)]) y20 rfl rfl rfl rfl rfl .here rfl rfl) ?_
  refine WL.nil ?_
  obtain rfl:=Option.some.inj h
  refine WX.y9 Tryd.results103 .nil (fun w hw=>?_)
  exact ⟨z8u,z8v,z8w,z8x,yB,⟨zfE,zfF⟩,hw.sub (.cons .here .nil)⟩
 ·replace h:=yn h zfG
  refine WC.skip ?_
  obtain rfl:=Option.some.inj h
  refine WX.y9 Tryd.results103 .nil (fun w hw=>?_)
  exact ⟨z8u,z8v,z8w,z8x,yB,⟨zfE,zfF⟩,hw.sub (.cons .here .nil)⟩
end Go.Proofs.YtjdnejbngloieaaDoor
