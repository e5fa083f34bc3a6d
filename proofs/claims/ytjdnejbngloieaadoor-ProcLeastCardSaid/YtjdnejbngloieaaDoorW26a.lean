/- A part of this claim's proof: models of functions, walks, plain laws. No conditions. -/
import Derived.Test.YtjdnejbngloieaaDoorZSortF
import Derived.Test.YtjdnejbngloieaaDoorZSort
import Derived.Test.YtjdnejbngloieaaDoorZUnroll
import Derived.Test.YtjdnejbngloieaaDoorZArr
import Derived.Test.YtjdnejbngloieaaDoorShelf26
import Derived.Test.YtjdnejbngloieaaDoorProg
namespace Go.Proofs.YtjdnejbngloieaaDoor
open Go Go.RowKit Sep
set_option linter.all false
set_option maxRecDepth 30000
set_option maxHeartbeats 4000000
structure S34 where
 a0 : Int
 a1 : Int
 a2 : Int
 a3 : Int
 deriving Inhabited,DecidableEq
def e5 (x : Int) : List Value:=[(.int .u8 x)]
def e3 (x : Int) : List Value:=[(.int .i64 x)]
theorem y5e : ∀ x,∀ u ∈ e3 x,u.oneCell' = true:=fun _=>ocB rfl
structure Sapi_Ins where
 fOp : Int
 fA : Int
 fB : Int
 fC : Int
 deriving Inhabited,DecidableEq
structure S7 where
 fX : Int
 fY : Int
 fSigned : Bool
 fCode : Int
 deriving Inhabited,DecidableEq
structure S13 where
 fMsg : ByteArray
 fAddr : Int
 deriving Inhabited,DecidableEq
def e33 (x : Sapi_Ins) : List Value:=[(.int .u8 x.fOp),(.int .i64 x.fA),(.int .i64 x.fB),(.int .i64 x.fC)]
structure Sproc_State where
 fPc : Int
 fLeft : Int
 fRegs : S34
 deriving Inhabited,DecidableEq
def e76 (x : Int) : List Value:=[(.int .u8 x)]
def p74 (Z : Zp) (r : List Value) (x : List Int) : Prop:=∃ (ao0 : Option Addr) (cap0 : Nat),r = [(.slice ao0 x.length cap0)] ∧ ZS Z 1 (fun r x=>r = e76 x) ao0 cap0 x
theorem yE {Z Z' : Zp} (k : Zle Z Z') {r : List Value} {x : List Int} (h : p74 Z r x) : p74 Z' r x:=by
 obtain ⟨ao0,cap0,hr,h0⟩:=h
 exact ⟨ao0,cap0,hr,h0.mono k⟩
def y18 : List (List Int):=[[],[1],[2,3],[2,2],[2,2],[2,4,2],[2,4,2],[6,2,5],[6,2,2],[6],[6],[6],[6],[6],[6,2],[6,2],[6,2],[6,2],[6],[],[7],[2,7],[2,2,7],[2,2],[3],[]]
structure Sproc_Act where
 fKind : Int
 fA : Int
 fB : Int
 fData : List Int
 deriving Inhabited,DecidableEq
structure Sproc_execution where
 fState : Sproc_State
 fX : Sapi_Ins
 fMem : List Int
 fAct : Sproc_Act
 deriving Inhabited,DecidableEq
def tabG0 : List Value:=[.nilFunc,.func (.func 84) #[] #[],.func (.func 85) #[] #[],.func (.func 82) #[] #[],.func (.func 86) #[] #[],.func (.func 87) #[] #[],.func (.func 88) #[] #[],.func (.func 89) #[] #[],.func (.func 90) #[] #[],.func (.func 91) #[] #[],.func (.func 92) #[] #[],.func (.func 93) #[] #[],.func (.func 94) #[] #[],.func (.func 95) #[] #[],.func (.func 96) #[] #[],.func (.func 97) #[] #[],.func (.func 98) #[] #[],.func (.func 99) #[] #[],.func (.func 100) #[] #[],.func (.func 101) #[] #[],.func (.func 102) #[] #[],.func (.func 103) #[] #[],.func (.func 104) #[] #[],.func (.func 105) #[] #[],.func (.func 106) #[] #[],.func (.func 107) #[] #[]]
def e39 (x : Sproc_State) : List Value:=[(.int .i64 x.fPc),(.int .i64 x.fLeft),(.int .u8 x.fRegs.a0),(.int .u8 x.fRegs.a1),(.int .u8 x.fRegs.a2),(.int .u8 x.fRegs.a3)]
theorem yu : elT Tryd.prog 30 3 1 8:=⟨Tryd.underlying30,⟨Tryd.t3,_,rfl,rfl,rfl,rfl,rfl⟩,by decide⟩
theorem y4e : y1B Tryd.prog 33 (.agg #[(.int .u8 0),(.int .i64 0),(.int .i64 0),(.int .i64 0)]):=y2q (i:=Tryd.t33) rfl rfl
theorem yf : y35 Tryd.prog 3:=y2t Tryd.underlying3 rfl
theorem y3N : y2Q Tryd.prog 33 4:=y2u (i:=Tryd.t33) rfl
theorem y2L : aggT Tryd.prog 33 4:=y5i (i:=Tryd.t33) Tryd.underlying33 rfl rfl
theorem y2s : elT Tryd.prog 22 33 4 32:=⟨Tryd.underlying22,⟨Tryd.t33,_,rfl,rfl,rfl,rfl,rfl⟩,by decide⟩
theorem y4S : y1B Tryd.prog 5 (.int .u8 0):=y2q (i:=Tryd.t5) rfl rfl
theorem y2g : elT Tryd.prog 35 5 1 1:=⟨Tryd.underlying35,⟨Tryd.t5,_,rfl,rfl,rfl,rfl,rfl⟩,by decide⟩
theorem y1s : y1B Tryd.prog 39 (.agg #[(.int .i64 0),(.int .i64 0),(.int .u8 0),(.int .u8 0),(.int .u8 0),(.int .u8 0)]):=y2q (i:=Tryd.t39) rfl rfl
theorem y2i : y2Q Tryd.prog 39 6:=y2u (i:=Tryd.t39) rfl
theorem y1P : aggT Tryd.prog 39 6:=y5i (i:=Tryd.t39) Tryd.underlying39 rfl rfl
theorem y28 : y1B Tryd.prog 41 (.agg #[(.int .u8 0),(.int .i64 0),(.int .i64 0),(.slice none 0 0)]):=y2q (i:=Tryd.t41) rfl rfl
theorem y2j : yW Tryd.prog 39 0 0:=yK (i:=Tryd.t3) Tryd.underlying39 rfl rfl (by decide) rfl
theorem y31 : yW Tryd.prog 33 0 0:=yK (i:=Tryd.t5) Tryd.underlying33 rfl rfl (by decide) rfl
theorem yN : y35 Tryd.prog 5:=y2t Tryd.underlying5 rfl
theorem y1b : yW Tryd.prog 33 1 1:=yK (i:=Tryd.t3) Tryd.underlying33 rfl rfl (by decide) rfl
theorem y1x : yW Tryd.prog 33 2 2:=yK (i:=Tryd.t3) Tryd.underlying33 rfl rfl (by decide) rfl
theorem y3O : yW Tryd.prog 33 3 3:=yK (i:=Tryd.t3) Tryd.underlying33 rfl rfl (by decide) rfl
theorem zeroT_73 : y1B Tryd.prog 73 (.agg #[(.int .i64 0),(.int .i64 0),(.int .i64 0)]):=y2q (i:=Tryd.t73) rfl rfl
theorem sizT_73 : y2Q Tryd.prog 73 3:=y2u (i:=Tryd.t73) rfl
theorem arT_75 : arT Tryd.prog 75 74 26 1:=y5c Tryd.underlying75 (inf:=Tryd.t74) rfl rfl rfl
theorem oneT_74 : y35 Tryd.prog 74:=y2t Tryd.underlying74 rfl
theorem elT_74 : elT Tryd.prog 74 76 1 1:=⟨Tryd.underlying74,⟨Tryd.t76,_,rfl,rfl,rfl,rfl,rfl⟩,by decide⟩
theorem oneT_76 : y35 Tryd.prog 76:=y2t Tryd.underlying76 rfl
theorem arT_73 : arT Tryd.prog 73 3 3 1:=y5c Tryd.underlying73 (inf:=Tryd.t3) rfl rfl rfl
theorem y1y : y2Q Tryd.prog 41 4:=y2u (i:=Tryd.t41) rfl
theorem y32 : aggT Tryd.prog 41 4:=y5i (i:=Tryd.t41) Tryd.underlying41 rfl rfl
theorem y1c : yW Tryd.prog 65 0 0:=yK (i:=Tryd.t39) Tryd.underlying65 rfl rfl (by decide) rfl
theorem y2V : y2Q Tryd.prog 3 1:=y2u (i:=Tryd.t3) rfl
theorem arT_67 : arT Tryd.prog 67 66 26 1:=y5c Tryd.underlying67 (inf:=Tryd.t66) rfl rfl rfl
theorem y3P : yW Tryd.prog 39 1 1:=yK (i:=Tryd.t3) Tryd.underlying39 rfl rfl (by decide) rfl
theorem yH : yW Tryd.prog 65 1 6:=yK (i:=Tryd.t33) Tryd.underlying65 rfl rfl (by decide) rfl
theorem yI : y35 Tryd.prog 66:=y2t Tryd.underlying66 rfl
theorem fo_39_2 : yW Tryd.prog 39 2 2:=yK (i:=Tryd.t34) Tryd.underlying39 rfl rfl (by decide) rfl
theorem arT_34 : arT Tryd.prog 34 5 4 1:=y5c Tryd.underlying34 (inf:=Tryd.t5) rfl rfl rfl
theorem y3Q : y2Q Tryd.prog 5 1:=y2u (i:=Tryd.t5) rfl
theorem y6e : yW Tryd.prog 65 2 10:=yK (i:=Tryd.t35) Tryd.underlying65 rfl rfl (by decide) rfl
theorem y4T : y35 Tryd.prog 35:=y2t Tryd.underlying35 rfl
theorem y3e : yW Tryd.prog 65 3 11:=yK (i:=Tryd.t41) Tryd.underlying65 rfl rfl (by decide) rfl
theorem y5o : yW Tryd.prog 41 0 0:=yK (i:=Tryd.t5) Tryd.underlying41 rfl rfl (by decide) rfl
theorem eqT_39 : EqT Tryd.prog 39 e39:=⟨fun u v w=>by
 have i39_10000:=fun (w : World) (a b : Array Value)=>run_equalIn_agg (P:=Tryd.prog) w 9999 39 a b (by simp [Program.fieldsOf,Tryd.underlying39]) (by kernel_rfl)
 have i3_9999:=fun (w : World) (a b : Int)=>run_equalIn_int (P:=Tryd.prog) w 9998 3 .i64 .i64 a b Tryd.underlying3
 have i5_9998:=fun (w : World) (a b : Int)=>run_equalIn_int (P:=Tryd.prog) w 9997 5 .u8 .u8 a b Tryd.underlying5
 have i34_9999 : ∀ (w : World) (a0 a1 a2 a3 b0 b1 b2 b3 : Int),(Op.equalIn 9999 34 (.agg #[.int .u8 a0,.int .u8 a1,.int .u8 a2,.int .u8 a3]) (.agg #[.int .u8 b0,.int .u8 b1,.int .u8 b2,.int .u8 b3])).run Tryd.prog w = .ok (decide (a0 = b0 ∧ a1 = b1 ∧ a2 = b2 ∧ a3 = b3)) w:=fun w a0 a1 a2 a3 b0 b1 b2 b3=>by
  rw [show (9999 : Nat) = 9998 + 1 from rfl,Op.equalIn]
  simp [run_underlying Tryd.underlying34,part,i5_9998,List.range',Std.Legacy.Range.forIn_eq_forIn_range',Std.Legacy.Range.size]
  by_cases h0 : a0 = b0 <;> by_cases h1 : a1 = b1 <;> by_cases h2 : a2 = b2 <;> by_cases h3 : a3 = b3 <;> simp [h0,h1,h2,h3]
 rw [i39_10000]
 simp [Program.fieldsOf,Op.eqFields,part,e39,i39_10000,Tryd.underlying39,i3_9999,i5_9998,i34_9999]
 rcases u with ⟨u1,u2,⟨u3,u4,u5,u6⟩⟩
 rcases v with ⟨v1,v2,⟨v3,v4,v5,v6⟩⟩
 by_cases h1 : u1 = v1 <;> by_cases h2 : u2 = v2 <;> by_cases h3 : u3 = v3 <;> by_cases h4 : u4 = v4 <;> by_cases h5 : u5 = v5 <;> by_cases h6 : u6 = v6 <;> simp [h1,h2,h3,h4,h5,h6],by kernel_rfl⟩
theorem y2M : y35 Tryd.prog 22:=y2t Tryd.underlying22 rfl
theorem y3m : KeyT Tryd.prog 3 (Value.int .i64):=keyT_int Tryd.underlying3
theorem zeroT_54 : y1B Tryd.prog 54 (.map none):=y2q (i:=Tryd.t54) rfl rfl
theorem sizT_54 : y2Q Tryd.prog 54 1:=y2u (i:=Tryd.t54) rfl
theorem zeroT_55 : y1B Tryd.prog 55 .nilFunc:=y2q (i:=Tryd.t55) rfl rfl
theorem sizT_55 : y2Q Tryd.prog 55 1:=y2u (i:=Tryd.t55) rfl
theorem y6f : y35 Tryd.prog 55:=y2t Tryd.underlying55 rfl
theorem y3f : y35 Tryd.prog 54:=y2t Tryd.underlying54 rfl
theorem y4U : y1B Tryd.prog 3 (.int .i64 0):=y2q (i:=Tryd.t3) rfl rfl
theorem y6g : yW Tryd.prog 41 1 1:=yK (i:=Tryd.t3) Tryd.underlying41 rfl rfl (by decide) rfl
theorem y6h : yW Tryd.prog 41 2 2:=yK (i:=Tryd.t3) Tryd.underlying41 rfl rfl (by decide) rfl
theorem y6i : yW Tryd.prog 41 3 3:=yK (i:=Tryd.t35) Tryd.underlying41 rfl rfl (by decide) rfl
def y1z (l : List Int) : Option (List Int):=chk (0 < l.length ∧ l.length < 4611686018427387904) (some (y3A l))
theorem y5F (Z : Zp) (ao : Option Addr) (cap : Nat) (l : List Int) (r : List Int) (w₀ : World) (hz : PZ (fps [row (.slice ao l.length cap) 3 1 (l.flatMap e3)]) w₀ Z)
  (h : y1z l = some r) (hown : Hp (fps [row (.slice ao l.length cap) 3 1 (l.flatMap e3)]) w₀ w₀ [row (.slice ao l.length cap) 3 1 (l.flatMap e3)]) :
  Calls Tryd.prog 34 #[.slice ao l.length cap] w₀ fun e w'=>e = .returned (.tuple #[]) ∧ (r.length = l.length) ∧ Hp (fps [row (.slice ao l.length cap) 3 1 (l.flatMap e3)]) w₀ w' [row (.slice ao r.length cap) 3 1 (r.flatMap e3)]:=by
 obtain ⟨h0,h⟩:=y9 h
 exact sort_int (fun _=>rfl) Tryd.slices_Sort_int ao cap l r w₀ h0 ((Option.some.inj h).symm.trans (y5S l).symm) hown
def yY (op_10 : Int) (l_11 : List Int) : Option Sapi_Ins :=
 chk ((((([] : List Int) ++ l_11).length : Nat) : Int) * 8 ≤ 140737488355328 ∧ (((([] : List Int) ++ l_11).length : Nat) : Int) ≤ 4611686018427387904) (chk (((((([] : List Int) ++ l_11) ++ ([0,0,0] : List Int)).length : Nat) : Int) * 8 ≤ 140737488355328 ∧ ((((([] : List Int) ++ l_11) ++ ([0,0,0] : List Int)).length : Nat) : Int) ≤ 4611686018427387904) (chk ((0 : Int) ≤ 0 ∧ 0 < ((((([] : List Int) ++ l_11) ++ ([0,0,0] : List Int)).length : Nat) : Int)) (chk ((0 : Int) ≤ 1 ∧ 1 < ((((([] : List Int) ++ l_11) ++ ([0,0,0] : List Int)).length : Nat) : Int)) (chk ((0 : Int) ≤ 2 ∧ 2 < ((((([] : List Int) ++ l_11) ++ ([0,0,0] : List Int)).length : Nat) : Int)) (some (⟨op_10,(nth ((([] : List Int) ++ l_11) ++ ([0,0,0] : List Int)) 0),(nth ((([] : List Int) ++ l_11) ++ ([0,0,0] : List Int)) 1),(nth ((([] : List Int) ++ l_11) ++ ([0,0,0] : List Int)) 2)⟩ : Sapi_Ins))))))
set_option maxRecDepth 20000 in
theorem y19 (Z : Zp) (ao_12 : Option Addr) (cap_13 : Nat) (op_10 : Int) (l_11 : List Int) (r : Sapi_Ins)
  (h : yY op_10 l_11 = some r) (w₀ : World) (hz : PZ [] w₀ Z)
  (hs_14 : ZS Z 1 (fun r x=>r = e3 x) ao_12 cap_13 l_11) :
  Calls Tryd.prog 17 #[(.int .u8 op_10),(.slice ao_12 l_11.length cap_13)] w₀ fun e w'=>e = .returned (.agg #[(.int .u8 r.fOp),(.int .i64 r.fA),(.int .i64 r.fB),(.int .i64 r.fC)]) ∧ Hp [] w₀ w' []:=by
 unfold yY at h
 refine Calls.y8 (vs:=[(.int .u8 op_10),(.slice ao_12 l_11.length cap_13)]) (pre:=[]) (env:=[(0,(.int .u8 op_10)),(1,(.slice ao_12 l_11.length cap_13))]) Tryd.func17 rfl Tryd.ntmps17 rfl (Hp.nil w₀ _) rfl ?_
 refine WC.b (WC.a ?_)
 refine WL.new (dd:=4) rfl rfl rfl (yA (cs:=[(.int .u8 0),(.int .i64 0),(.int .i64 0),(.int .i64 0)]) y4e rfl) ?_
 intro b_39 _
 refine WL.nil (WX.a (WC.b ?_))
 obtain ⟨c_41,h⟩:=y9 h
 obtain ⟨c_45,h⟩:=y9 h
 refine WC.a ?_
 refine WL.new (dd:=5) rfl rfl rfl (yp (cs:=([] : List Int).flatMap e3) yu (Eos.parts (l:=[]) .nil []) (fun _=>by kernel_rfl) rfl (by unfold maxLen; omega)) ?_
 intro b_48 _
 refine WL.pu rfl ?_
 refine WL.eff (d:=7) rfl rfl rfl (y3z (enc:=e3) (l1:=([] : List Int)) (l2:=l_11) yu rfl rfl .here (fun _=>rfl) rfl rfl (news_z hz.pv hs_14) (y3L y5e _) c_41) ?_
 rintro ⟨ao_49,cap_50⟩ _
 refine WL.new (dd:=8) rfl rfl rfl (yp (cs:=([0,0,0] : List Int).flatMap e3) yu (Eos.parts (l:=[.const (.int .i64 0),.const (.int .i64 0),.const (.int .i64 0)]) (.cons rfl (.cons rfl (.cons rfl .nil))) [0,1,2]) (fun _=>by kernel_rfl) rfl (by unfold maxLen; omega)) ?_
 intro b_51 _
 refine WL.eff (d:=9) rfl rfl rfl (y3z (enc:=e3) (l1:=([] : List Int) ++ l_11) (l2:=([0,0,0] : List Int)) yu rfl rfl .h1 (fun _=>rfl) rfl rfl (y4Z .here) (y3L y5e _) c_45) ?_
 rintro ⟨ao_52,cap_53⟩ _
 refine WL.pu rfl (WL.nil (WX.a (WC.b ?_)))
 obtain ⟨c_54,h⟩:=y9 h
 obtain ⟨c_56,h⟩:=y9 h
 obtain ⟨c_57,h⟩:=y9 h
 refine WC.y1a (fun i=>[11].contains i) [] rfl ?_
 refine WD.a (i:=0) (d:=10) (by kernel_rfl) rfl z1 z2 rfl rfl rfl (fun _=>q_m rfl) ?_
 refine WD.a (i:=1) (d:=11) (by kernel_rfl) rfl z1 z2 rfl rfl rfl (fun _=>q_m rfl) ?_
 refine WD.know (fun w hw=>Hp.y3x .here hw (by intro hz'; have:=c_54; rw [hz'] at this; omega)) ?_
 rintro ⟨b_59,rfl⟩
 refine WD.a (i:=2) (d:=12) (by kernel_rfl) rfl z1 z2 rfl rfl rfl (fun _=>yt yu rfl rfl c_54.1 c_54.2 y1D) ?_
 refine WD.e (i:=3) (d:=13) (by kernel_rfl) rfl z1 z2 rfl rfl rfl (y6 yf rfl (y1C .here ((y1m (enc:=e3) (l:=(([] : List Int) ++ l_11) ++ ([0,0,0] : List Int)) (i:=0) (sz:=1) (fun _=>rfl) c_54.1 c_54.2) 0 _ rfl))) ?_
 refine WD.a (i:=4) (d:=14) (by kernel_rfl) rfl z1 z2 rfl rfl rfl (fun _=>q_m rfl) ?_
 refine WD.a (i:=5) (d:=15) (by kernel_rfl) rfl z1 z2 rfl rfl rfl (fun _=>yt yu rfl rfl c_56.1 c_56.2 y1D) ?_
 refine WD.e (i:=6) (d:=16) (by kernel_rfl) rfl z1 z2 rfl rfl rfl (y6 yf rfl (y1C .here ((y1m (enc:=e3) (l:=(([] : List Int) ++ l_11) ++ ([0,0,0] : List Int)) (i:=1) (sz:=1) (fun _=>rfl) c_56.1 c_56.2) 0 _ rfl))) ?_
 refine WD.a (i:=7) (d:=17) (by kernel_rfl) rfl z1 z2 rfl rfl rfl (fun _=>q_m rfl) ?_
 refine WD.a (i:=8) (d:=18) (by kernel_rfl) rfl z1 z2 rfl rfl rfl (fun _=>yt yu rfl rfl c_57.1 c_57.2 y1D) ?_
 refine WD.e (i:=9) (d:=19) (by kernel_rfl) rfl z1 z2 rfl rfl rfl (y6 yf rfl (y1C .here ((y1m (enc:=e3) (l:=(([] : List Int) ++ l_11) ++ ([0,0,0] : List Int)) (i:=2) (sz:=1) (fun _=>rfl) c_57.1 c_57.2) 0 _ rfl))) ?_
 refine WD.a (i:=10) (d:=20) (by kernel_rfl) rfl z1 z2 rfl rfl rfl (fun _=>yZ (v:=(.agg #[(.int .u8 op_10),(.int .i64 (nth ((([] : List Int) ++ l_11) ++ ([0,0,0] : List Int)) 0)),(.int .i64 (nth ((([] : List Int) ++ l_11) ++ ([0,0,0] : List Int)) 1)),(.int .i64 (nth ((([] : List Int) ++ l_11) ++ ([0,0,0] : List Int)) 2))])) (Eos.parts (l:=[.tmp 10,.tmp 13,.tmp 16,.tmp 19]) (.cons rfl (.cons rfl (.cons rfl (.cons rfl .nil)))) [0,1,2,3]) (fun _=>by kernel_rfl)) ?_
 refine WD.y2p (i:=11) rfl (by kernel_rfl) rfl rfl rfl (by kernel_rfl) (yy y3N rfl rfl rfl .h2 rfl rfl rfl) ?_
 refine WD.done (by kernel_rfl) ?_
 refine WX.a (WC.ret ?_)
 obtain rfl:=Option.some.inj h
 refine WX.ye Tryd.results17 (.agg rfl y2L rfl (y13 .here) .nil) (fun w hw=>?_)
 exact ⟨yX rfl,hw.sub .nil⟩
def y1e (z2s : Int) (z2t : Int) (z4S : Int) : Option Bool :=
 jp2 (fun (z39 : Int) (z3a : Int)=>some ((decide (z2t ≥ z39)) && (decide (z2t ≤ z3a)))) fun z2U=>if decide (z2s = 1) then z2U 1 2000 else if decide (z2s = 2) then z2U 0 3 else if decide (z2s = 3) then z2U 0 255 else if decide (z2s = 4) then z2U 0 4095 else if decide (z2s = 5) then z2U 1 64 else if decide (z2s = 6) then z2U 0 z2t else if decide (z2s = 7) then z2U 0 (i64 (z4S - 1)) else z2U 0 0
set_option maxRecDepth 20000 in
theorem y4v (Z : Zp)  (z2s : Int) (z2t : Int) (z4S : Int) (r : Bool)
  (h : y1e z2s z2t z4S = some r) (w₀ : World) (hz : PZ [] w₀ Z) :
  Calls Tryd.prog 43 #[(.int .u8 z2s),(.int .i64 z2t),(.int .i64 z4S)] w₀ fun e w'=>e = .returned (.bool r) ∧ Hp [] w₀ w' []:=by
 unfold y1e at h
 refine Calls.y8 (vs:=[(.int .u8 z2s),(.int .i64 z2t),(.int .i64 z4S)]) (pre:=[]) (env:=[(0,(.int .u8 z2s)),(1,(.int .i64 z2t)),(2,(.int .i64 z4S))]) Tryd.func43 rfl Tryd.ntmps43 rfl (Hp.nil w₀ _) rfl ?_
 refine WC.b (WC.a (WL.pu rfl (WL.nil (WX.a (WC.b (WC.a (WL.pu rfl (WL.pu rfl (WL.nil (WX.a ?_))))))))))
 obtain ⟨z2U,zcL,h⟩:=y4b h
 refine WC.y39 (fun (z39 : Int) (z3a : Int)=>(z2U z39 z3a = some r)) (fun (z39 : Int) (z3a : Int)=>[(1,(.int .i64 z2t)),(7,(.int .i64 z39)),(8,(.int .i64 z3a))]) (fun (z39 : Int) (z3a : Int)=>[]) ?_ ?_
 ·skip
  refine WC.b (WC.a (WL.pu rfl (WL.nil (WX.a (WC.block (WC.b (WC.a (WL.pu rfl (WL.pu rfl (WL.nil (WX.a ?_)))))))))))
  refine WC.cond rfl (fun z7O=>?_) (fun z7O=>?_)
  ·replace h:=ym h z7O
   refine WC.a (WL.pu rfl (WL.pu rfl (WL.nil (WX.yi ?_))))
   exact WX.mid (G:=Int × Int) ⟨1,2000⟩ h (.cons rfl (.cons rfl (.cons rfl .nil))) .nil
  ·replace h:=yn h z7O
   refine WC.b (WC.a (WL.pu rfl (WL.pu rfl (WL.nil (WX.a ?_)))))
   refine WC.cond rfl (fun z7P=>?_) (fun z7P=>?_)
   ·replace h:=ym h z7P
    refine WC.a (WL.pu rfl (WL.nil (WX.yi ?_)))
    exact WX.mid (G:=Int × Int) ⟨0,3⟩ h (.cons rfl (.cons rfl (.cons rfl .nil))) .nil
   ·replace h:=yn h z7P
    refine WC.b (WC.a (WL.pu rfl (WL.pu rfl (WL.nil (WX.a ?_)))))
    refine WC.cond rfl (fun z7Q=>?_) (fun z7Q=>?_)
    ·replace h:=ym h z7Q
     refine WC.a (WL.pu rfl (WL.nil (WX.yi ?_)))
     exact WX.mid (G:=Int × Int) ⟨0,255⟩ h (.cons rfl (.cons rfl (.cons rfl .nil))) .nil
    ·replace h:=yn h z7Q
     refine WC.b (WC.a (WL.pu rfl (WL.pu rfl (WL.nil (WX.a ?_)))))
     refine WC.cond rfl (fun z7R=>?_) (fun z7R=>?_)
     ·replace h:=ym h z7R
      refine WC.a (WL.pu rfl (WL.nil (WX.yi ?_)))
      exact WX.mid (G:=Int × Int) ⟨0,4095⟩ h (.cons rfl (.cons rfl (.cons rfl .nil))) .nil
     ·replace h:=yn h z7R
      refine WC.b (WC.a (WL.pu rfl (WL.pu rfl (WL.nil (WX.a ?_)))))
      refine WC.cond rfl (fun z7S=>?_) (fun z7S=>?_)
      ·replace h:=ym h z7S
       refine WC.a (WL.pu rfl (WL.pu rfl (WL.nil (WX.yi ?_))))
       exact WX.mid (G:=Int × Int) ⟨1,64⟩ h (.cons rfl (.cons rfl (.cons rfl .nil))) .nil
      ·replace h:=yn h z7S
       refine WC.b (WC.a (WL.pu rfl (WL.pu rfl (WL.nil (WX.a ?_)))))
       refine WC.cond rfl (fun z7T=>?_) (fun z7T=>?_)
       ·replace h:=ym h z7T
        refine WC.a (WL.pu rfl (WL.pu rfl (WL.nil (WX.yi ?_))))
        exact WX.mid (G:=Int × Int) ⟨0,z2t⟩ h (.cons rfl (.cons rfl (.cons rfl .nil))) .nil
       ·replace h:=yn h z7T
        refine WC.b (WC.a (WL.pu rfl (WL.pu rfl (WL.nil (WX.a ?_)))))
        refine WC.cond rfl (fun z7U=>?_) (fun z7U=>?_)
        ·replace h:=ym h z7U
         refine WC.a (WL.pu rfl (WL.pu rfl (WL.pu rfl (WL.nil (WX.yi ?_)))))
         exact WX.mid (G:=Int × Int) ⟨0,(i64 (z4S - 1))⟩ h (.cons rfl (.cons rfl (.cons rfl .nil))) .nil
        ·replace h:=yn h z7U
         refine WC.skip (WX.yi ?_)
         exact WX.mid (G:=Int × Int) ⟨0,0⟩ h (.cons rfl (.cons rfl (.cons rfl .nil))) .nil
 ·rintro z39 z3a h
  replace h:=(zcL z39 z3a).symm.trans h
  refine WC.b (WC.a (WL.pu rfl (WL.pu rfl (WL.pu rfl (WL.pu rfl ?_)))))
  refine WL.seg true 3 30 (B:=(decide (z2t ≥ z39)) && (decide (z2t ≤ z3a))) rfl rfl rfl rfl rfl rfl (fun h=>(y2w h).symm) (fun _ zcM=>?_) ?_
  ·skip
   refine WL.pu rfl (WL.pu rfl (WL.pu rfl (WL.pu rfl ?_)))
   exact WL.yz (y2x zcM) rfl rfl .all
  refine WL.pu rfl (WL.nil (WX.a (WC.ret ?_)))
  obtain rfl:=Option.some.inj h
  refine WX.ye Tryd.results43 (.tmp rfl .nil) (fun w hw=>?_)
  exact ⟨yX rfl,hw.sub .nil⟩
def yO (zO : Sapi_Ins) (z2o : Int) (z3b : Option Bool) : Nat → Int → Option Bool
 | 0,_=>none
 | z7V + 1,z21=>if decide (z21 < (((nth y18 zO.fOp).length : Nat) : Int)) then chk ((0 : Int) ≤ z21 ∧ z21 < (((nth y18 zO.fOp).length : Nat) : Int)) (chk ((0 : Int) ≤ z21 ∧ z21 < 3) ((y1e (nth (nth y18 zO.fOp) z21) (nth ([zO.fA,zO.fB,zO.fC] : List Int) z21) z2o).bind fun z9x=>if !z9x then some false else yO zO z2o z3b z7V (i64 (z21 + 1)))) else z3b
theorem y4f {n : Nat} {zO : Sapi_Ins} {z2o : Int} {z3b : Option Bool} {z21 : Int} {r : Bool} (h : yO zO z2o z3b n z21 = some r) : ∃ m,n = m + 1:=by
 cases n with
 | zero=>cases h
 | succ m=>exact ⟨m,rfl⟩
def y1Q (zO : Sapi_Ins) (z2o : Int) : Option Bool :=
 if (decide (zO.fOp < 1)) || (decide (zO.fOp > 25)) then some false else jp0 (some true) fun z3b=>chk ((0 : Int) ≤ zO.fOp ∧ zO.fOp < 26) (yO zO z2o z3b y1k 0)
set_option maxRecDepth 20000 in
theorem y4N (Z : Zp)  (zO : Sapi_Ins) (z2o : Int) (r : Bool)
  (h : y1Q zO z2o = some r) (w₀ : World) (hz : PZ [] w₀ Z)
  (hG1 : ZS Z 1 (p74 Z) (some ⟨1,0,none⟩) 26 y18) :
  Calls Tryd.prog 32 #[(.agg #[(.int .u8 zO.fOp),(.int .i64 zO.fA),(.int .i64 zO.fB),(.int .i64 zO.fC)]),(.int .i64 z2o)] w₀ fun e w'=>e = .returned (.bool r) ∧ Hp [] w₀ w' []:=by
 unfold y1Q at h
 refine Calls.y8 (vs:=[(.agg #[(.int .u8 zO.fOp),(.int .i64 zO.fA),(.int .i64 zO.fB),(.int .i64 zO.fC)]),(.int .i64 z2o)]) (pre:=[]) (env:=[(0,(.agg #[(.int .u8 zO.fOp),(.int .i64 zO.fA),(.int .i64 zO.fB),(.int .i64 zO.fC)])),(1,(.int .i64 z2o))]) Tryd.func32 rfl Tryd.ntmps32 rfl (Hp.nil w₀ _) rfl ?_
 refine WC.b (WC.a ?_)
 refine WL.new (dd:=2) rfl rfl rfl (y3v (cs:=[(.int .u8 zO.fOp),(.int .i64 zO.fA),(.int .i64 zO.fB),(.int .i64 zO.fC)]) rfl rfl) ?_
 intro zlX _
 refine WL.pu rfl (WL.nil (WX.a (WC.b (WC.b (WC.a ?_)))))
 refine WL.a (d:=8) rfl rfl rfl (y4 y31 rfl rfl) ?_
 refine WL.a (d:=9) rfl rfl rfl (y6 yN rfl (yc .here rfl)) ?_
 refine WL.pu rfl (WL.pu rfl ?_)
 refine WL.seg false 3 11 (B:=(decide (zO.fOp < 1)) || (decide (zO.fOp > 25))) rfl rfl rfl rfl rfl rfl (fun h=>(or_l h).symm) (fun _ zcN=>?_) ?_
 ·skip
  refine WL.a (d:=12) rfl rfl rfl (y4 y31 rfl rfl) ?_
  refine WL.a (d:=13) rfl rfl rfl (y6 yN rfl (yc .here rfl)) ?_
  refine WL.pu rfl (WL.pu rfl ?_)
  exact WL.yz (or_r zcN) rfl rfl .all
 refine WL.nil (WX.a ?_)
 refine WC.cond rfl (fun z7W=>?_) (fun z7W=>?_)
 ·replace h:=ym h z7W
  refine WC.b (WC.a (WL.pu rfl (WL.nil (WX.a (WC.ret (WX.ya ?_))))))
  obtain rfl:=Option.some.inj h
  refine WX.ye Tryd.results32 (.tmp rfl .nil) (fun w hw=>?_)
  exact ⟨yX rfl,hw.sub .nil⟩
 ·replace h:=yn h z7W
  refine WC.skip (WX.a (WC.b (WC.a ?_)))
  refine WL.a (d:=16) rfl rfl rfl (y4 y1b rfl rfl) ?_
  refine WL.a (d:=17) rfl rfl rfl (y6 yf rfl (yc .here rfl)) ?_
  refine WL.a (d:=18) rfl rfl rfl (y4 y1x rfl rfl) ?_
  refine WL.a (d:=19) rfl rfl rfl (y6 yf rfl (yc .here rfl)) ?_
  refine WL.a (d:=20) rfl rfl rfl (y4 y3O rfl rfl) ?_
  refine WL.a (d:=21) rfl rfl rfl (y6 yf rfl (yc .here rfl)) ?_
  refine WL.a (d:=22) rfl rfl rfl (yZ (v:=(.agg #[(.int .i64 zO.fA),(.int .i64 zO.fB),(.int .i64 zO.fC)])) (Eos.parts (l:=[.tmp 17,.tmp 19,.tmp 21]) (.cons rfl (.cons rfl (.cons rfl .nil))) [0,1,2]) (fun _=>by kernel_rfl)) ?_
  refine WL.new (dd:=5) rfl rfl rfl (yA (cs:=[(.int .i64 0),(.int .i64 0),(.int .i64 0)]) zeroT_73 rfl) ?_
  intro z9y _
  refine WL.yo rfl rfl (yy sizT_73 rfl rfl rfl .here rfl rfl rfl) ?_
  refine WL.nil (WX.a ?_)
  obtain ⟨z3b,zcO,h⟩:=y3k h
  refine WC.y2S ((z3b = some r)) ([]) ([]) ?_ ?_
  ·skip
   refine WC.b ?_
   obtain ⟨zcP,h⟩:=y9 h
   refine WC.a ?_
   refine WL.a (d:=23) rfl rfl rfl (y4 y31 rfl rfl) ?_
   refine WL.a (d:=24) rfl rfl rfl (y6 yN rfl (yc .h1 rfl)) ?_
   refine WL.gnth (dd:=25) rfl rfl (ls:=y18) (Z:=Z) (Pr:=(p74 Z)) arT_75 rfl rfl hG1 zcP ?_
   rintro zlY zlZ zcQ zm0 ⟨zcR,zcS,rfl,zcT⟩
   refine WL.a (d:=26) rfl rfl rfl (y6 oneT_74 rfl (y2F hz.pv zcQ rfl)) ?_
   refine WL.a (d:=27) rfl rfl rfl (y1i Tryd.underlying74 rfl) ?_
   refine WL.pu rfl (WL.nil (WX.a (WC.block ?_)))
   refine WC.y48 (fun (z5i : Nat) (z21 : Int)=>(yO zO z2o z3b z5i z21 = some r)) (fun (z5i : Nat) (z21 : Int)=>[(1,(.int .i64 z2o)),(5,(.pointer (some ⟨z9y,0,none⟩))),(26,(.slice zcR ((nth y18 zO.fOp).length) zcS)),(27,(.int .i64 (((nth y18 zO.fOp).length : Nat) : Int))),(28,(.int .i64 z21))]) (fun (z5i : Nat) (z21 : Int)=>[stb z9y 73 [(.int .i64 zO.fA),(.int .i64 zO.fB),(.int .i64 zO.fC)]]) (fun (z5i : Nat) (z21 : Int)=>z5i) ⟨y1k,0⟩ h (.cons rfl (.cons rfl (.cons rfl (.cons rfl (.cons rfl .nil))))) (.cons .here .nil) ?_
   rintro z5i z21 h
   obtain ⟨z7V,rfl⟩:=y4f h
   rw [yO] at h
   refine WC.b (WC.a (WL.pu rfl (WL.nil (WX.a (WC.b ?_)))))
   refine WC.cond rfl (fun z7X=>?_) (fun z7X=>?_)
   ·replace h:=ym h z7X
    refine WC.skip (WX.a (WC.b (WC.block (WC.b ?_))))
    obtain ⟨zcU,h⟩:=y9 h
    refine WC.a (WL.pu rfl ?_)
    refine WL.znth (dd:=31) rfl rfl (Z:=Z) (Pr:=(fun r x=>r = e76 x)) elT_74 rfl rfl zcT zcU ?_
    rintro zm1 zm2 zcV zm3 rfl
    refine WL.a (d:=32) rfl rfl rfl (y6 oneT_76 rfl (y2F hz.pv zcV rfl)) ?_
    refine WL.pu rfl (WL.pu rfl (WL.nil (WX.a (WC.b ?_))))
    obtain ⟨z9z,h⟩:=y9 h
    obtain ⟨z9x,zcW,h⟩:=zh h
    refine WC.a (WL.pu rfl (WL.pu rfl ?_))
    refine WL.a (d:=35) rfl rfl rfl (y3B arT_73 rfl rfl z9z y6I) ?_
    refine WL.a (d:=36) rfl rfl rfl (y6 yf rfl (y1r (l:=([zO.fA,zO.fB,zO.fC] : List Int)) (f:=Value.int .i64) (k:=0) (m:=3) .here rfl rfl z9z)) ?_
    refine WL.pu rfl ?_
    refine WL.b (dd:=38) rfl rfl rfl (zI (l:=[.tmp 33,.tmp 36,.tmp 37]) Tryd.call43 (.cons rfl (.cons rfl (.cons rfl .nil)))) .nil (cc hz .nil fun w pz ho=>y4v _ _ _ _ _ zcW w pz ) ?_
    refine WL.pu rfl (WL.nil (WX.a ?_))
    refine WC.cond rfl (fun z7Y=>?_) (fun z7Y=>?_)
    ·replace h:=ym h z7Y
     refine WC.b (WC.a (WL.pu rfl (WL.nil (WX.a (WC.ret (WX.yC (WX.ya (WX.ya (WX.yC (WX.ya ?_))))))))))
     obtain rfl:=Option.some.inj h
     refine WX.ye Tryd.results32 (.tmp rfl .nil) (fun w hw=>?_)
     exact ⟨yX rfl,hw.sub .nil⟩
    ·replace h:=yn h z7Y
     refine WC.skip (WX.yi (WX.a (WC.a (WL.pu rfl (WL.pu rfl (WL.nil ?_))))))
     exact WX.round (G:=Nat × Int) ⟨z7V,(i64 (z21 + 1))⟩ h (Nat.lt_succ_self _) (.cons rfl (.cons rfl (.cons rfl (.cons rfl (.cons rfl .nil))))) (.cons .here .nil)
   ·replace h:=yn h z7X
    refine WC.exit (WX.yx (WX.yx (WX.y1h ?_)))
    exact WX.mid (G:=Unit) () h .nil .nil
  ·rintro  h
   replace h:=zcO.symm.trans h
   refine WC.b (WC.a (WL.pu rfl (WL.nil (WX.a (WC.ret ?_)))))
   obtain rfl:=Option.some.inj h
   refine WX.ye Tryd.results32 (.tmp rfl .nil) (fun w hw=>?_)
   exact ⟨yX rfl,hw.sub .nil⟩
def y2N (z1W : List Sapi_Ins) (z1M : Int) : Option (Sapi_Ins × Bool) :=
 (if (decide (z1M < 0)) || (decide (z1M ≥ ((z1W.length : Nat) : Int))) then some true else chk ((0 : Int) ≤ z1M ∧ z1M < ((z1W.length : Nat) : Int)) ((y1Q (⟨((nth z1W z1M).fOp),((nth z1W z1M).fA),((nth z1W z1M).fB),((nth z1W z1M).fC)⟩ : Sapi_Ins) ((z1W.length : Nat) : Int)).bind fun z9A=>some (!z9A))).bind fun z7Z=>if z7Z then some ((⟨0,0,0,0⟩ : Sapi_Ins),false) else chk ((0 : Int) ≤ z1M ∧ z1M < ((z1W.length : Nat) : Int)) (some ((⟨((nth z1W z1M).fOp),((nth z1W z1M).fA),((nth z1W z1M).fB),((nth z1W z1M).fC)⟩ : Sapi_Ins),true))
set_option maxRecDepth 20000 in
theorem y5v (Z : Zp) (z7d : Option Addr) (z7e : Nat) (z1W : List Sapi_Ins) (z1M : Int) (r : Sapi_Ins × Bool)
  (h : y2N z1W z1M = some r) (w₀ : World) (hz : PZ [] w₀ Z)
  (hG1 : ZS Z 1 (p74 Z) (some ⟨1,0,none⟩) 26 y18)
  (z9B : ZS Z 4 (fun r x=>r = e33 x) z7d z7e z1W) :
  Calls Tryd.prog 33 #[(.slice z7d z1W.length z7e),(.int .i64 z1M)] w₀ fun e w'=>e = .returned (.tuple #[(.agg #[(.int .u8 r.1.fOp),(.int .i64 r.1.fA),(.int .i64 r.1.fB),(.int .i64 r.1.fC)]),(.bool r.2)]) ∧ Hp [] w₀ w' []:=by
 unfold y2N at h
 refine Calls.y8 (vs:=[(.slice z7d z1W.length z7e),(.int .i64 z1M)]) (pre:=[]) (env:=[(0,(.slice z7d z1W.length z7e)),(1,(.int .i64 z1M))]) Tryd.func33 rfl Tryd.ntmps33 rfl (Hp.nil w₀ _) rfl ?_
 refine WC.b (WC.a ?_)
 refine WL.new (dd:=4) rfl rfl rfl (yA (cs:=[(.int .u8 0),(.int .i64 0),(.int .i64 0),(.int .i64 0)]) y4e rfl) ?_
 intro zm4 _
 refine WL.pu rfl (WL.nil (WX.a (WC.b (WC.b ?_))))
 obtain ⟨z7Z,z9C,h⟩:=zh h
 refine WC.a (WL.pu rfl (WL.pu rfl (WL.pu rfl ?_)))
 refine WL.seg false 4 8 (B:=(decide (z1M < 0)) || (decide (z1M ≥ ((z1W.length : Nat) : Int)))) rfl rfl rfl rfl rfl rfl (fun h=>(or_l h).symm) (fun _ zcX=>?_) ?_
 ·skip
  refine WL.pu rfl (WL.pu rfl ?_)
  refine WL.a (d:=11) rfl rfl rfl (y1i Tryd.underlying22 rfl) ?_
  refine WL.pu rfl (WL.pu rfl ?_)
  exact WL.yz (or_r zcX) rfl rfl .all
 refine WL.pu rfl ?_
 refine WL.seg false 8 14 (B:=z7Z) rfl rfl rfl rfl rfl rfl (fun h=>(Option.some.inj (ym z9C h)).symm) (fun _ zcY=>?_) ?_
 ·skip
  have z4T:=yn z9C zcY
  obtain ⟨zcZ,z4T⟩:=y9 z4T
  obtain ⟨z9A,zd0,z4T⟩:=zh z4T
  replace z4T:=Option.some.inj z4T
  refine WL.pu rfl (WL.pu rfl ?_)
  refine WL.znth (dd:=17) rfl rfl (Z:=Z) (Pr:=(fun r x=>r = e33 x)) y2s rfl rfl z9B zcZ ?_
  rintro zm5 zm6 zd1 zm7 rfl
  refine WL.a (d:=18) rfl rfl rfl (y16 y2L rfl (rd_zs hz.pv zd1) rfl) ?_
  refine WL.pu rfl ?_
  refine WL.a (d:=20) rfl rfl rfl (y1i Tryd.underlying22 rfl) ?_
  refine WL.b (dd:=21) rfl rfl rfl (zI (l:=[.tmp 18,.tmp 20]) Tryd.call32 (.cons rfl (.cons rfl .nil))) .nil (cc hz .nil fun w pz ho=>y4N _ _ _ _ zd0 w pz hG1) ?_
  refine WL.pu rfl (WL.pu rfl ?_)
  exact WL.yz z4T rfl rfl .all
 refine WL.nil (WX.a ?_)
 refine WC.cond rfl (fun z80=>?_) (fun z80=>?_)
 ·replace h:=ym h z80
  refine WC.b (WC.a ?_)
  refine WL.a (d:=24) rfl rfl rfl (yZ (v:=(.agg #[(.int .u8 0),(.int .i64 0),(.int .i64 0),(.int .i64 0)])) (Eos.parts (l:=[]) .nil []) (fun _=>by kernel_rfl)) ?_
  refine WL.yo rfl rfl (yy y3N rfl rfl rfl .here rfl rfl rfl) ?_
  refine WL.pu rfl (WL.nil (WX.a (WC.ret (WX.ya ?_))))
  obtain rfl:=Option.some.inj h
  refine WX.ye Tryd.results33 (.agg rfl y2L rfl (y13 .here) (.tmp rfl .nil)) (fun w hw=>?_)
  exact ⟨ret2 rfl rfl,hw.sub .nil⟩
 ·replace h:=yn h z80
  refine WC.skip (WX.a (WC.b ?_))
  obtain ⟨zd2,h⟩:=y9 h
  refine WC.a (WL.pu rfl (WL.pu rfl ?_))
  refine WL.znth (dd:=27) rfl rfl (Z:=Z) (Pr:=(fun r x=>r = e33 x)) y2s rfl rfl z9B zd2 ?_
  rintro zm8 zm9 zd3 zma rfl
  refine WL.a (d:=28) rfl rfl rfl (y16 y2L rfl (rd_zs hz.pv zd3) rfl) ?_
  refine WL.yo rfl rfl (yy y3N rfl rfl rfl .here rfl rfl rfl) ?_
  refine WL.pu rfl (WL.nil (WX.a (WC.ret ?_)))
  obtain rfl:=Option.some.inj h
  refine WX.ye Tryd.results33 (.agg rfl y2L rfl (y13 .here) (.tmp rfl .nil)) (fun w hw=>?_)
  exact ⟨ret2 rfl rfl,hw.sub .nil⟩
def y1R (zb : Sproc_execution) : Option Sproc_execution :=
 jp1 (fun (z2u : Int)=>if decide ((i64 (z2u - 1)) ≠ 0) then some (⟨(⟨i64 (zb.fState.fPc - 1),i64 (z2u - 1),zb.fState.fRegs⟩ : Sproc_State),zb.fX,zb.fMem,zb.fAct⟩ : Sproc_execution) else some (⟨(⟨zb.fState.fPc,i64 (z2u - 1),zb.fState.fRegs⟩ : Sproc_State),zb.fX,zb.fMem,zb.fAct⟩ : Sproc_execution)) fun z7f=>if decide (zb.fState.fLeft = 0) then z7f zb.fX.fA else z7f zb.fState.fLeft
set_option maxRecDepth 20000 in
theorem y3R (Z : Zp) (z2L : Nat) (z2v : Option Addr) (z2w : Nat) (z2x : Option Addr) (z2y : Nat) (zb : Sproc_execution) (r : Sproc_execution)
  (h : y1R zb = some r) (w₀ : World) (hz : PZ (fps [stb z2L 65 [(.int .i64 zb.fState.fPc),(.int .i64 zb.fState.fLeft),(.int .u8 zb.fState.fRegs.a0),(.int .u8 zb.fState.fRegs.a1),(.int .u8 zb.fState.fRegs.a2),(.int .u8 zb.fState.fRegs.a3),(.int .u8 zb.fX.fOp),(.int .i64 zb.fX.fA),(.int .i64 zb.fX.fB),(.int .i64 zb.fX.fC),(.slice z2v zb.fMem.length z2w),(.int .u8 zb.fAct.fKind),(.int .i64 zb.fAct.fA),(.int .i64 zb.fAct.fB),(.slice z2x zb.fAct.fData.length z2y)]]) w₀ Z)
  (z9D : ZS Z 1 (fun r x=>r = e5 x) z2v z2w zb.fMem)
  (z9E : ZS Z 1 (fun r x=>r = e5 x) z2x z2y zb.fAct.fData)
  (hown : Hp (fps [stb z2L 65 [(.int .i64 zb.fState.fPc),(.int .i64 zb.fState.fLeft),(.int .u8 zb.fState.fRegs.a0),(.int .u8 zb.fState.fRegs.a1),(.int .u8 zb.fState.fRegs.a2),(.int .u8 zb.fState.fRegs.a3),(.int .u8 zb.fX.fOp),(.int .i64 zb.fX.fA),(.int .i64 zb.fX.fB),(.int .i64 zb.fX.fC),(.slice z2v zb.fMem.length z2w),(.int .u8 zb.fAct.fKind),(.int .i64 zb.fAct.fA),(.int .i64 zb.fAct.fB),(.slice z2x zb.fAct.fData.length z2y)]]) w₀ w₀ [stb z2L 65 [(.int .i64 zb.fState.fPc),(.int .i64 zb.fState.fLeft),(.int .u8 zb.fState.fRegs.a0),(.int .u8 zb.fState.fRegs.a1),(.int .u8 zb.fState.fRegs.a2),(.int .u8 zb.fState.fRegs.a3),(.int .u8 zb.fX.fOp),(.int .i64 zb.fX.fA),(.int .i64 zb.fX.fB),(.int .i64 zb.fX.fC),(.slice z2v zb.fMem.length z2w),(.int .u8 zb.fAct.fKind),(.int .i64 zb.fAct.fA),(.int .i64 zb.fAct.fB),(.slice z2x zb.fAct.fData.length z2y)]]) :
  Calls Tryd.prog 84 #[(.pointer (some ⟨z2L,0,none⟩))] w₀ fun e w'=>∃ z9F : Option Addr,∃ z9G : Nat,∃ z9H : Option Addr,∃ z9I : Nat,e = .returned (.tuple #[]) ∧ ((ZS Z 1 (fun r x=>r = e5 x) z9F z9G r.fMem) ∧ (ZS Z 1 (fun r x=>r = e5 x) z9H z9I r.fAct.fData)) ∧ Hp (fps [stb z2L 65 [(.int .i64 zb.fState.fPc),(.int .i64 zb.fState.fLeft),(.int .u8 zb.fState.fRegs.a0),(.int .u8 zb.fState.fRegs.a1),(.int .u8 zb.fState.fRegs.a2),(.int .u8 zb.fState.fRegs.a3),(.int .u8 zb.fX.fOp),(.int .i64 zb.fX.fA),(.int .i64 zb.fX.fB),(.int .i64 zb.fX.fC),(.slice z2v zb.fMem.length z2w),(.int .u8 zb.fAct.fKind),(.int .i64 zb.fAct.fA),(.int .i64 zb.fAct.fB),(.slice z2x zb.fAct.fData.length z2y)]]) w₀ w' [stb z2L 65 [(.int .i64 r.fState.fPc),(.int .i64 r.fState.fLeft),(.int .u8 r.fState.fRegs.a0),(.int .u8 r.fState.fRegs.a1),(.int .u8 r.fState.fRegs.a2),(.int .u8 r.fState.fRegs.a3),(.int .u8 r.fX.fOp),(.int .i64 r.fX.fA),(.int .i64 r.fX.fB),(.int .i64 r.fX.fC),(.slice z9F r.fMem.length z9G),(.int .u8 r.fAct.fKind),(.int .i64 r.fAct.fA),(.int .i64 r.fAct.fB),(.slice z9H r.fAct.fData.length z9I)]]:=by
 unfold y1R at h
 refine Calls.y8 (vs:=[(.pointer (some ⟨z2L,0,none⟩))]) (pre:=[stb z2L 65 [(.int .i64 zb.fState.fPc),(.int .i64 zb.fState.fLeft),(.int .u8 zb.fState.fRegs.a0),(.int .u8 zb.fState.fRegs.a1),(.int .u8 zb.fState.fRegs.a2),(.int .u8 zb.fState.fRegs.a3),(.int .u8 zb.fX.fOp),(.int .i64 zb.fX.fA),(.int .i64 zb.fX.fB),(.int .i64 zb.fX.fC),(.slice z2v zb.fMem.length z2w),(.int .u8 zb.fAct.fKind),(.int .i64 zb.fAct.fA),(.int .i64 zb.fAct.fB),(.slice z2x zb.fAct.fData.length z2y)]]) (env:=[(0,(.pointer (some ⟨z2L,0,none⟩)))]) Tryd.func84 rfl Tryd.ntmps84 rfl (hown) rfl ?_
 obtain ⟨z7f,zd4,h⟩:=y2G h
 refine WC.y2y (fun (z2u : Int)=>(z7f z2u = some r)) (fun (z2u : Int)=>[(0,(.pointer (some ⟨z2L,0,none⟩)))]) (fun (z2u : Int)=>[stb z2L 65 [(.int .i64 zb.fState.fPc),(.int .i64 z2u),(.int .u8 zb.fState.fRegs.a0),(.int .u8 zb.fState.fRegs.a1),(.int .u8 zb.fState.fRegs.a2),(.int .u8 zb.fState.fRegs.a3),(.int .u8 zb.fX.fOp),(.int .i64 zb.fX.fA),(.int .i64 zb.fX.fB),(.int .i64 zb.fX.fC),(.slice z2v zb.fMem.length z2w),(.int .u8 zb.fAct.fKind),(.int .i64 zb.fAct.fA),(.int .i64 zb.fAct.fB),(.slice z2x zb.fAct.fData.length z2y)]]) ?_ ?_
 ·skip
  refine WC.b (WC.a (WL.pu rfl ?_))
  refine WL.a (d:=3) rfl rfl rfl (y7 rfl) ?_
  refine WL.a (d:=4) rfl rfl rfl (y4 y1c rfl rfl) ?_
  refine WL.a (d:=5) rfl rfl rfl (y4 y3P rfl rfl) ?_
  refine WL.a (d:=6) rfl rfl rfl (y6 yf rfl (yc .here rfl)) ?_
  refine WL.pu rfl (WL.nil (WX.a ?_))
  refine WC.cond rfl (fun z81=>?_) (fun z81=>?_)
  ·replace h:=ym h z81
   refine WC.a (WL.pu rfl (WL.pu rfl ?_))
   refine WL.a (d:=10) rfl rfl rfl (y7 rfl) ?_
   refine WL.a (d:=11) rfl rfl rfl (y4 yH rfl rfl) ?_
   refine WL.a (d:=12) rfl rfl rfl (y4 y1b rfl rfl) ?_
   refine WL.a (d:=13) rfl rfl rfl (y6 yf rfl (yc .here rfl)) ?_
   refine WL.a (d:=14) rfl rfl rfl (y7 rfl) ?_
   refine WL.a (d:=15) rfl rfl rfl (y4 y1c rfl rfl) ?_
   refine WL.a (d:=16) rfl rfl rfl (y4 y3P rfl rfl) ?_
   refine WL.yo rfl rfl (y1g (ds:=[(.int .i64 zb.fState.fPc),(.int .i64 zb.fX.fA),(.int .u8 zb.fState.fRegs.a0),(.int .u8 zb.fState.fRegs.a1),(.int .u8 zb.fState.fRegs.a2),(.int .u8 zb.fState.fRegs.a3),(.int .u8 zb.fX.fOp),(.int .i64 zb.fX.fA),(.int .i64 zb.fX.fB),(.int .i64 zb.fX.fC),(.slice z2v zb.fMem.length z2w),(.int .u8 zb.fAct.fKind),(.int .i64 zb.fAct.fA),(.int .i64 zb.fAct.fB),(.slice z2x zb.fAct.fData.length z2y)]) y2V rfl rfl rfl rfl rfl .here rfl rfl) ?_
   refine WL.nil ?_
   exact WX.mid (G:=Int) zb.fX.fA h (.cons rfl .nil) (.cons .here .nil)
  ·replace h:=yn h z81
   refine WC.skip ?_
   exact WX.mid (G:=Int) zb.fState.fLeft h (.cons rfl .nil) (.cons .here .nil)
 ·rintro z2u h
  replace h:=(zd4 z2u).symm.trans h
  refine WC.b (WC.a (WL.pu rfl ?_))
  refine WL.a (d:=18) rfl rfl rfl (y7 rfl) ?_
  refine WL.a (d:=19) rfl rfl rfl (y4 y1c rfl rfl) ?_
  refine WL.a (d:=20) rfl rfl rfl (y4 y3P rfl rfl) ?_
  refine WL.a (d:=21) rfl rfl rfl (y6 yf rfl (yc .here rfl)) ?_
  refine WL.pu rfl ?_
  refine WL.a (d:=23) rfl rfl rfl (y7 rfl) ?_
  refine WL.a (d:=24) rfl rfl rfl (y4 y1c rfl rfl) ?_
  refine WL.a (d:=25) rfl rfl rfl (y4 y3P rfl rfl) ?_
  refine WL.yo rfl rfl (y1g (ds:=[(.int .i64 zb.fState.fPc),(.int .i64 (i64 (z2u - 1))),(.int .u8 zb.fState.fRegs.a0),(.int .u8 zb.fState.fRegs.a1),(.int .u8 zb.fState.fRegs.a2),(.int .u8 zb.fState.fRegs.a3),(.int .u8 zb.fX.fOp),(.int .i64 zb.fX.fA),(.int .i64 zb.fX.fB),(.int .i64 zb.fX.fC),(.slice z2v zb.fMem.length z2w),(.int .u8 zb.fAct.fKind),(.int .i64 zb.fAct.fA),(.int .i64 zb.fAct.fB),(.slice z2x zb.fAct.fData.length z2y)]) y2V rfl rfl rfl rfl rfl .here rfl rfl) ?_
  refine WL.nil (WX.a (WC.b (WC.a (WL.pu rfl ?_))))
  refine WL.a (d:=27) rfl rfl rfl (y7 rfl) ?_
  refine WL.a (d:=28) rfl rfl rfl (y4 y1c rfl rfl) ?_
  refine WL.a (d:=29) rfl rfl rfl (y4 y3P rfl rfl) ?_
  refine WL.a (d:=30) rfl rfl rfl (y6 yf rfl (yc .here rfl)) ?_
  refine WL.pu rfl (WL.nil (WX.a ?_))
  refine WC.cond rfl (fun z82=>?_) (fun z82=>?_)
  ·replace h:=ym h z82
   refine WC.a (WL.pu rfl ?_)
   refine WL.a (d:=33) rfl rfl rfl (y7 rfl) ?_
   refine WL.a (d:=34) rfl rfl rfl (y4 y1c rfl rfl) ?_
   refine WL.a (d:=35) rfl rfl rfl (y4 y2j rfl rfl) ?_
   refine WL.a (d:=36) rfl rfl rfl (y6 yf rfl (yc .here rfl)) ?_
   refine WL.pu rfl ?_
   refine WL.a (d:=38) rfl rfl rfl (y7 rfl) ?_
   refine WL.a (d:=39) rfl rfl rfl (y4 y1c rfl rfl) ?_
   refine WL.a (d:=40) rfl rfl rfl (y4 y2j rfl rfl) ?_
   refine WL.yo rfl rfl (y1g (ds:=[(.int .i64 (i64 (zb.fState.fPc - 1))),(.int .i64 (i64 (z2u - 1))),(.int .u8 zb.fState.fRegs.a0),(.int .u8 zb.fState.fRegs.a1),(.int .u8 zb.fState.fRegs.a2),(.int .u8 zb.fState.fRegs.a3),(.int .u8 zb.fX.fOp),(.int .i64 zb.fX.fA),(.int .i64 zb.fX.fB),(.int .i64 zb.fX.fC),(.slice z2v zb.fMem.length z2w),(.int .u8 zb.fAct.fKind),(.int .i64 zb.fAct.fA),(.int .i64 zb.fAct.fB),(.slice z2x zb.fAct.fData.length z2y)]) y2V rfl rfl rfl rfl rfl .here rfl rfl) ?_
   refine WL.nil ?_
   obtain rfl:=Option.some.inj h
   refine WX.yd Tryd.results84 .nil (fun w hw=>?_)
   exact ⟨z2v,z2w,z2x,z2y,y12,⟨z9D,z9E⟩,hw.sub (.cons .here .nil)⟩
  ·replace h:=yn h z82
   refine WC.skip ?_
   obtain rfl:=Option.some.inj h
   refine WX.yd Tryd.results84 .nil (fun w hw=>?_)
   exact ⟨z2v,z2w,z2x,z2y,y12,⟨z9D,z9E⟩,hw.sub (.cons .here .nil)⟩
def yb (z1X : Sproc_execution) (z47 : Int) : Option Unit :=
 chk ((0 : Int) ≤ z47 ∧ z47 < 4) (some ())
set_option maxRecDepth 20000 in
theorem yh (Z : Zp) (z6G : Addr) (z9J : Option Addr) (z9K : Nat) (z9L : Option Addr) (z9M : Nat) (z1X : Sproc_execution) (z47 : Int) (r : Unit)
  (h : yb z1X z47 = some r) (w₀ : World) (hz : PZ [] w₀ Z)
  (zmb : ZS Z 1 (fun r x=>r = e5 x) z9J z9K z1X.fMem)
  (zmc : ZS Z 1 (fun r x=>r = e5 x) z9L z9M z1X.fAct.fData)
  (zmd : ZC Z z6G [(.int .i64 z1X.fState.fPc),(.int .i64 z1X.fState.fLeft),(.int .u8 z1X.fState.fRegs.a0),(.int .u8 z1X.fState.fRegs.a1),(.int .u8 z1X.fState.fRegs.a2),(.int .u8 z1X.fState.fRegs.a3),(.int .u8 z1X.fX.fOp),(.int .i64 z1X.fX.fA),(.int .i64 z1X.fX.fB),(.int .i64 z1X.fX.fC),(.slice z9J z1X.fMem.length z9K),(.int .u8 z1X.fAct.fKind),(.int .i64 z1X.fAct.fA),(.int .i64 z1X.fAct.fB),(.slice z9L z1X.fAct.fData.length z9M)]) :
  Calls Tryd.prog 108 #[(.pointer (some z6G)),(.int .i64 z47)] w₀ fun e w'=>e = .returned (.pointer (some (Addr.add z6G (2 + (z47 : Int).toNat)))) ∧ Hp [] w₀ w' []:=by
 unfold yb at h
 refine Calls.y8 (vs:=[(.pointer (some z6G)),(.int .i64 z47)]) (pre:=[]) (env:=[(0,(.pointer (some z6G))),(1,(.int .i64 z47))]) Tryd.func108 rfl Tryd.ntmps108 rfl (Hp.nil w₀ _) rfl ?_
 refine WC.b (WC.a (WL.pu rfl (WL.nil (WX.a (WC.b ?_)))))
 obtain ⟨zd5,h⟩:=y9 h
 refine WC.a (WL.pu rfl (WL.pu rfl ?_))
 refine WL.a (d:=7) rfl rfl rfl (y7 rfl) ?_
 refine WL.a (d:=8) rfl rfl rfl (y4 y1c rfl rfl) ?_
 refine WL.a (d:=9) rfl rfl rfl (y4 fo_39_2 rfl rfl) ?_
 refine WL.a (d:=10) rfl rfl rfl (y3B arT_34 rfl rfl zd5 add_z1) ?_
 refine WL.pu rfl (WL.nil (WX.a (WC.ret ?_)))
 skip
 refine WX.ye Tryd.results108 (.tmp rfl .nil) (fun w hw=>?_)
 exact ⟨yX rfl,hw.sub .nil⟩
def y29 (za : Sproc_execution) : Option Sproc_execution :=
 (yb za za.fX.fA).bind fun zd6=>chk ((0 : Int) ≤ za.fX.fA ∧ za.fX.fA < 4) (some (⟨(⟨za.fState.fPc,za.fState.fLeft,(⟨nth (([za.fState.fRegs.a0,za.fState.fRegs.a1,za.fState.fRegs.a2,za.fState.fRegs.a3] : List Int).set (za.fX.fA : Int).toNat (u8 za.fX.fB)) 0,nth (([za.fState.fRegs.a0,za.fState.fRegs.a1,za.fState.fRegs.a2,za.fState.fRegs.a3] : List Int).set (za.fX.fA : Int).toNat (u8 za.fX.fB)) 1,nth (([za.fState.fRegs.a0,za.fState.fRegs.a1,za.fState.fRegs.a2,za.fState.fRegs.a3] : List Int).set (za.fX.fA : Int).toNat (u8 za.fX.fB)) 2,nth (([za.fState.fRegs.a0,za.fState.fRegs.a1,za.fState.fRegs.a2,za.fState.fRegs.a3] : List Int).set (za.fX.fA : Int).toNat (u8 za.fX.fB)) 3⟩ : S34)⟩ : Sproc_State),za.fX,za.fMem,za.fAct⟩ : Sproc_execution))
set_option maxRecDepth 20000 in
theorem y4g (Z : Zp) (z3c : Nat) (z48 : Option Addr) (z49 : Nat) (z4a : Option Addr) (z4b : Nat) (za : Sproc_execution) (r : Sproc_execution)
  (h : y29 za = some r) (w₀ : World) (hz : PZ (fps [stb z3c 65 [(.int .i64 za.fState.fPc),(.int .i64 za.fState.fLeft),(.int .u8 za.fState.fRegs.a0),(.int .u8 za.fState.fRegs.a1),(.int .u8 za.fState.fRegs.a2),(.int .u8 za.fState.fRegs.a3),(.int .u8 za.fX.fOp),(.int .i64 za.fX.fA),(.int .i64 za.fX.fB),(.int .i64 za.fX.fC),(.slice z48 za.fMem.length z49),(.int .u8 za.fAct.fKind),(.int .i64 za.fAct.fA),(.int .i64 za.fAct.fB),(.slice z4a za.fAct.fData.length z4b)]]) w₀ Z)
  (z9N : ZS Z 1 (fun r x=>r = e5 x) z48 z49 za.fMem)
  (z9O : ZS Z 1 (fun r x=>r = e5 x) z4a z4b za.fAct.fData)
  (hown : Hp (fps [stb z3c 65 [(.int .i64 za.fState.fPc),(.int .i64 za.fState.fLeft),(.int .u8 za.fState.fRegs.a0),(.int .u8 za.fState.fRegs.a1),(.int .u8 za.fState.fRegs.a2),(.int .u8 za.fState.fRegs.a3),(.int .u8 za.fX.fOp),(.int .i64 za.fX.fA),(.int .i64 za.fX.fB),(.int .i64 za.fX.fC),(.slice z48 za.fMem.length z49),(.int .u8 za.fAct.fKind),(.int .i64 za.fAct.fA),(.int .i64 za.fAct.fB),(.slice z4a za.fAct.fData.length z4b)]]) w₀ w₀ [stb z3c 65 [(.int .i64 za.fState.fPc),(.int .i64 za.fState.fLeft),(.int .u8 za.fState.fRegs.a0),(.int .u8 za.fState.fRegs.a1),(.int .u8 za.fState.fRegs.a2),(.int .u8 za.fState.fRegs.a3),(.int .u8 za.fX.fOp),(.int .i64 za.fX.fA),(.int .i64 za.fX.fB),(.int .i64 za.fX.fC),(.slice z48 za.fMem.length z49),(.int .u8 za.fAct.fKind),(.int .i64 za.fAct.fA),(.int .i64 za.fAct.fB),(.slice z4a za.fAct.fData.length z4b)]]) :
  Calls Tryd.prog 85 #[(.pointer (some ⟨z3c,0,none⟩))] w₀ fun e w'=>∃ z9P : Option Addr,∃ z9Q : Nat,∃ z9R : Option Addr,∃ z9S : Nat,e = .returned (.tuple #[]) ∧ ((ZS Z 1 (fun r x=>r = e5 x) z9P z9Q r.fMem) ∧ (ZS Z 1 (fun r x=>r = e5 x) z9R z9S r.fAct.fData)) ∧ Hp (fps [stb z3c 65 [(.int .i64 za.fState.fPc),(.int .i64 za.fState.fLeft),(.int .u8 za.fState.fRegs.a0),(.int .u8 za.fState.fRegs.a1),(.int .u8 za.fState.fRegs.a2),(.int .u8 za.fState.fRegs.a3),(.int .u8 za.fX.fOp),(.int .i64 za.fX.fA),(.int .i64 za.fX.fB),(.int .i64 za.fX.fC),(.slice z48 za.fMem.length z49),(.int .u8 za.fAct.fKind),(.int .i64 za.fAct.fA),(.int .i64 za.fAct.fB),(.slice z4a za.fAct.fData.length z4b)]]) w₀ w' [stb z3c 65 [(.int .i64 r.fState.fPc),(.int .i64 r.fState.fLeft),(.int .u8 r.fState.fRegs.a0),(.int .u8 r.fState.fRegs.a1),(.int .u8 r.fState.fRegs.a2),(.int .u8 r.fState.fRegs.a3),(.int .u8 r.fX.fOp),(.int .i64 r.fX.fA),(.int .i64 r.fX.fB),(.int .i64 r.fX.fC),(.slice z9P r.fMem.length z9Q),(.int .u8 r.fAct.fKind),(.int .i64 r.fAct.fA),(.int .i64 r.fAct.fB),(.slice z9R r.fAct.fData.length z9S)]]:=by
 unfold y29 at h
 refine Calls.y8 (vs:=[(.pointer (some ⟨z3c,0,none⟩))]) (pre:=[stb z3c 65 [(.int .i64 za.fState.fPc),(.int .i64 za.fState.fLeft),(.int .u8 za.fState.fRegs.a0),(.int .u8 za.fState.fRegs.a1),(.int .u8 za.fState.fRegs.a2),(.int .u8 za.fState.fRegs.a3),(.int .u8 za.fX.fOp),(.int .i64 za.fX.fA),(.int .i64 za.fX.fB),(.int .i64 za.fX.fC),(.slice z48 za.fMem.length z49),(.int .u8 za.fAct.fKind),(.int .i64 za.fAct.fA),(.int .i64 za.fAct.fB),(.slice z4a za.fAct.fData.length z4b)]]) (env:=[(0,(.pointer (some ⟨z3c,0,none⟩)))]) Tryd.func85 rfl Tryd.ntmps85 rfl (hown) rfl ?_
 obtain ⟨zd6,zd7,h⟩:=zh h
 obtain ⟨zd8,h⟩:=y9 h
 refine WC.y1a (fun i=>[14].contains i) [] rfl ?_
 refine WD.a (i:=0) (d:=2) (by kernel_rfl) rfl z1 z2 rfl rfl rfl (fun _=>q_m rfl) ?_
 refine WD.a (i:=1) (d:=3) (by kernel_rfl) rfl z1 z2 rfl rfl rfl (fun _=>q_m rfl) ?_
 refine WD.a (i:=2) (d:=4) (by kernel_rfl) rfl z1 z2 rfl rfl rfl (fun _=>y7 rfl) ?_
 refine WD.a (i:=3) (d:=5) (by kernel_rfl) rfl z1 z2 rfl rfl rfl (fun _=>y4 yH rfl rfl) ?_
 refine WD.a (i:=4) (d:=6) (by kernel_rfl) rfl z1 z2 rfl rfl rfl (fun _=>y4 y1b rfl rfl) ?_
 refine WD.e (i:=5) (d:=7) (by kernel_rfl) rfl z1 z2 rfl rfl rfl (y6 yf rfl (yc .here rfl)) ?_
 refine WD.c (i:=6) (d:=8) (by kernel_rfl) rfl z1 z2 rfl rfl rfl (zI (l:=[.tmp 2,.tmp 7]) Tryd.call108 (.cons rfl (.cons rfl .nil))) (ccl hz .nil (.cons .here .nil) fun w pz ho la=>yh _ _ _ _ _ _ _ _ _ zd7 w pz (z9N.mono (Zle.left _ _)) (z9O.mono (Zle.left _ _)) ((la _ (.head _) _).stb)) ?_
 refine WD.a (i:=7) (d:=9) (by kernel_rfl) rfl z1 z2 rfl rfl rfl (fun _=>q_m rfl) ?_
 refine WD.a (i:=8) (d:=10) (by kernel_rfl) rfl z1 z2 rfl rfl rfl (fun _=>y7 rfl) ?_
 refine WD.a (i:=9) (d:=11) (by kernel_rfl) rfl z1 z2 rfl rfl rfl (fun _=>y4 yH rfl rfl) ?_
 refine WD.a (i:=10) (d:=12) (by kernel_rfl) rfl z1 z2 rfl rfl rfl (fun _=>y4 y1x rfl rfl) ?_
 refine WD.e (i:=11) (d:=13) (by kernel_rfl) rfl z1 z2 rfl rfl rfl (y6 yf rfl (yc .here rfl)) ?_
 refine WD.a (i:=12) (d:=14) (by kernel_rfl) rfl z1 z2 rfl rfl rfl (fun _=>y4A Tryd.underlying3 Tryd.underlying5 rfl rfl) ?_
 refine WD.a (i:=13) (d:=15) (by kernel_rfl) rfl z1 z2 rfl rfl rfl (fun _=>y7 rfl) ?_
 refine WD.y2p (i:=14) rfl (by kernel_rfl) rfl rfl rfl (by kernel_rfl) (y2U (l:=([za.fState.fRegs.a0,za.fState.fRegs.a1,za.fState.fRegs.a2,za.fState.fRegs.a3] : List Int)) (f:=Value.int .u8) (u:=u8 za.fX.fB) (k:=2) (m:=6) (j:=4) (ds:=[(.int .i64 za.fState.fPc),(.int .i64 za.fState.fLeft),(.int .u8 (nth (([za.fState.fRegs.a0,za.fState.fRegs.a1,za.fState.fRegs.a2,za.fState.fRegs.a3] : List Int).set (za.fX.fA : Int).toNat (u8 za.fX.fB)) 0)),(.int .u8 (nth (([za.fState.fRegs.a0,za.fState.fRegs.a1,za.fState.fRegs.a2,za.fState.fRegs.a3] : List Int).set (za.fX.fA : Int).toNat (u8 za.fX.fB)) 1)),(.int .u8 (nth (([za.fState.fRegs.a0,za.fState.fRegs.a1,za.fState.fRegs.a2,za.fState.fRegs.a3] : List Int).set (za.fX.fA : Int).toNat (u8 za.fX.fB)) 2)),(.int .u8 (nth (([za.fState.fRegs.a0,za.fState.fRegs.a1,za.fState.fRegs.a2,za.fState.fRegs.a3] : List Int).set (za.fX.fA : Int).toNat (u8 za.fX.fB)) 3)),(.int .u8 za.fX.fOp),(.int .i64 za.fX.fA),(.int .i64 za.fX.fB),(.int .i64 za.fX.fC),(.slice z48 za.fMem.length z49),(.int .u8 za.fAct.fKind),(.int .i64 za.fAct.fA),(.int .i64 za.fAct.fB),(.slice z4a za.fAct.fData.length z4b)]) y3Q rfl rfl rfl rfl .here rfl rfl zd8 rfl rfl) ?_
 refine WD.done (by kernel_rfl) ?_
 obtain rfl:=Option.some.inj h
 refine WX.yd Tryd.results85 .nil (fun w hw=>?_)
 exact ⟨z48,z49,z4a,z4b,y12,⟨z9N,z9O⟩,hw.sub (.cons .here .nil)⟩
def y2a (z7 : Sproc_execution) : Option Sproc_execution :=
 (yb z7 z7.fX.fA).bind fun zd9=>chk ((0 : Int) ≤ z7.fX.fA ∧ z7.fX.fA < 4) ((yb z7 z7.fX.fB).bind fun zda=>chk ((0 : Int) ≤ z7.fX.fB ∧ z7.fX.fB < 4) (some (⟨(⟨z7.fState.fPc,z7.fState.fLeft,(⟨nth (([z7.fState.fRegs.a0,z7.fState.fRegs.a1,z7.fState.fRegs.a2,z7.fState.fRegs.a3] : List Int).set (z7.fX.fA : Int).toNat (u8 ((nth ([z7.fState.fRegs.a0,z7.fState.fRegs.a1,z7.fState.fRegs.a2,z7.fState.fRegs.a3] : List Int) z7.fX.fA) + (nth ([z7.fState.fRegs.a0,z7.fState.fRegs.a1,z7.fState.fRegs.a2,z7.fState.fRegs.a3] : List Int) z7.fX.fB)))) 0,nth (([z7.fState.fRegs.a0,z7.fState.fRegs.a1,z7.fState.fRegs.a2,z7.fState.fRegs.a3] : List Int).set (z7.fX.fA : Int).toNat (u8 ((nth ([z7.fState.fRegs.a0,z7.fState.fRegs.a1,z7.fState.fRegs.a2,z7.fState.fRegs.a3] : List Int) z7.fX.fA) + (nth ([z7.fState.fRegs.a0,z7.fState.fRegs.a1,z7.fState.fRegs.a2,z7.fState.fRegs.a3] : List Int) z7.fX.fB)))) 1,nth (([z7.fState.fRegs.a0,z7.fState.fRegs.a1,z7.fState.fRegs.a2,z7.fState.fRegs.a3] : List Int).set (z7.fX.fA : Int).toNat (u8 ((nth ([z7.fState.fRegs.a0,z7.fState.fRegs.a1,z7.fState.fRegs.a2,z7.fState.fRegs.a3] : List Int) z7.fX.fA) + (nth ([z7.fState.fRegs.a0,z7.fState.fRegs.a1,z7.fState.fRegs.a2,z7.fState.fRegs.a3] : List Int) z7.fX.fB)))) 2,nth (([z7.fState.fRegs.a0,z7.fState.fRegs.a1,z7.fState.fRegs.a2,z7.fState.fRegs.a3] : List Int).set (z7.fX.fA : Int).toNat (u8 ((nth ([z7.fState.fRegs.a0,z7.fState.fRegs.a1,z7.fState.fRegs.a2,z7.fState.fRegs.a3] : List Int) z7.fX.fA) + (nth ([z7.fState.fRegs.a0,z7.fState.fRegs.a1,z7.fState.fRegs.a2,z7.fState.fRegs.a3] : List Int) z7.fX.fB)))) 3⟩ : S34)⟩ : Sproc_State),z7.fX,z7.fMem,z7.fAct⟩ : Sproc_execution)))
set_option maxRecDepth 20000 in
theorem y4h (Z : Zp) (z3d : Nat) (z4c : Option Addr) (z4d : Nat) (z4e : Option Addr) (z4f : Nat) (z7 : Sproc_execution) (r : Sproc_execution)
  (h : y2a z7 = some r) (w₀ : World) (hz : PZ (fps [stb z3d 65 [(.int .i64 z7.fState.fPc),(.int .i64 z7.fState.fLeft),(.int .u8 z7.fState.fRegs.a0),(.int .u8 z7.fState.fRegs.a1),(.int .u8 z7.fState.fRegs.a2),(.int .u8 z7.fState.fRegs.a3),(.int .u8 z7.fX.fOp),(.int .i64 z7.fX.fA),(.int .i64 z7.fX.fB),(.int .i64 z7.fX.fC),(.slice z4c z7.fMem.length z4d),(.int .u8 z7.fAct.fKind),(.int .i64 z7.fAct.fA),(.int .i64 z7.fAct.fB),(.slice z4e z7.fAct.fData.length z4f)]]) w₀ Z)
  (z83 : ZS Z 1 (fun r x=>r = e5 x) z4c z4d z7.fMem)
  (z84 : ZS Z 1 (fun r x=>r = e5 x) z4e z4f z7.fAct.fData)
  (hown : Hp (fps [stb z3d 65 [(.int .i64 z7.fState.fPc),(.int .i64 z7.fState.fLeft),(.int .u8 z7.fState.fRegs.a0),(.int .u8 z7.fState.fRegs.a1),(.int .u8 z7.fState.fRegs.a2),(.int .u8 z7.fState.fRegs.a3),(.int .u8 z7.fX.fOp),(.int .i64 z7.fX.fA),(.int .i64 z7.fX.fB),(.int .i64 z7.fX.fC),(.slice z4c z7.fMem.length z4d),(.int .u8 z7.fAct.fKind),(.int .i64 z7.fAct.fA),(.int .i64 z7.fAct.fB),(.slice z4e z7.fAct.fData.length z4f)]]) w₀ w₀ [stb z3d 65 [(.int .i64 z7.fState.fPc),(.int .i64 z7.fState.fLeft),(.int .u8 z7.fState.fRegs.a0),(.int .u8 z7.fState.fRegs.a1),(.int .u8 z7.fState.fRegs.a2),(.int .u8 z7.fState.fRegs.a3),(.int .u8 z7.fX.fOp),(.int .i64 z7.fX.fA),(.int .i64 z7.fX.fB),(.int .i64 z7.fX.fC),(.slice z4c z7.fMem.length z4d),(.int .u8 z7.fAct.fKind),(.int .i64 z7.fAct.fA),(.int .i64 z7.fAct.fB),(.slice z4e z7.fAct.fData.length z4f)]]) :
  Calls Tryd.prog 82 #[(.pointer (some ⟨z3d,0,none⟩))] w₀ fun e w'=>∃ z9T : Option Addr,∃ z9U : Nat,∃ z9V : Option Addr,∃ z9W : Nat,e = .returned (.tuple #[]) ∧ ((ZS Z 1 (fun r x=>r = e5 x) z9T z9U r.fMem) ∧ (ZS Z 1 (fun r x=>r = e5 x) z9V z9W r.fAct.fData)) ∧ Hp (fps [stb z3d 65 [(.int .i64 z7.fState.fPc),(.int .i64 z7.fState.fLeft),(.int .u8 z7.fState.fRegs.a0),(.int .u8 z7.fState.fRegs.a1),(.int .u8 z7.fState.fRegs.a2),(.int .u8 z7.fState.fRegs.a3),(.int .u8 z7.fX.fOp),(.int .i64 z7.fX.fA),(.int .i64 z7.fX.fB),(.int .i64 z7.fX.fC),(.slice z4c z7.fMem.length z4d),(.int .u8 z7.fAct.fKind),(.int .i64 z7.fAct.fA),(.int .i64 z7.fAct.fB),(.slice z4e z7.fAct.fData.length z4f)]]) w₀ w' [stb z3d 65 [(.int .i64 r.fState.fPc),(.int .i64 r.fState.fLeft),(.int .u8 r.fState.fRegs.a0),(.int .u8 r.fState.fRegs.a1),(.int .u8 r.fState.fRegs.a2),(.int .u8 r.fState.fRegs.a3),(.int .u8 r.fX.fOp),(.int .i64 r.fX.fA),(.int .i64 r.fX.fB),(.int .i64 r.fX.fC),(.slice z9T r.fMem.length z9U),(.int .u8 r.fAct.fKind),(.int .i64 r.fAct.fA),(.int .i64 r.fAct.fB),(.slice z9V r.fAct.fData.length z9W)]]:=by
 unfold y2a at h
 refine Calls.y8 (vs:=[(.pointer (some ⟨z3d,0,none⟩))]) (pre:=[stb z3d 65 [(.int .i64 z7.fState.fPc),(.int .i64 z7.fState.fLeft),(.int .u8 z7.fState.fRegs.a0),(.int .u8 z7.fState.fRegs.a1),(.int .u8 z7.fState.fRegs.a2),(.int .u8 z7.fState.fRegs.a3),(.int .u8 z7.fX.fOp),(.int .i64 z7.fX.fA),(.int .i64 z7.fX.fB),(.int .i64 z7.fX.fC),(.slice z4c z7.fMem.length z4d),(.int .u8 z7.fAct.fKind),(.int .i64 z7.fAct.fA),(.int .i64 z7.fAct.fB),(.slice z4e z7.fAct.fData.length z4f)]]) (env:=[(0,(.pointer (some ⟨z3d,0,none⟩)))]) Tryd.func82 rfl Tryd.ntmps82 rfl (hown) rfl ?_
 obtain ⟨zd9,zdb,h⟩:=zh h
 obtain ⟨z9X,h⟩:=y9 h
 obtain ⟨zda,zdc,h⟩:=zh h
 obtain ⟨zdd,h⟩:=y9 h
 refine WC.y1a (fun i=>[20].contains i) [] rfl ?_
 refine WD.a (i:=0) (d:=2) (by kernel_rfl) rfl z1 z2 rfl rfl rfl (fun _=>q_m rfl) ?_
 refine WD.a (i:=1) (d:=3) (by kernel_rfl) rfl z1 z2 rfl rfl rfl (fun _=>q_m rfl) ?_
 refine WD.a (i:=2) (d:=4) (by kernel_rfl) rfl z1 z2 rfl rfl rfl (fun _=>y7 rfl) ?_
 refine WD.a (i:=3) (d:=5) (by kernel_rfl) rfl z1 z2 rfl rfl rfl (fun _=>y4 yH rfl rfl) ?_
 refine WD.a (i:=4) (d:=6) (by kernel_rfl) rfl z1 z2 rfl rfl rfl (fun _=>y4 y1b rfl rfl) ?_
 refine WD.e (i:=5) (d:=7) (by kernel_rfl) rfl z1 z2 rfl rfl rfl (y6 yf rfl (yc .here rfl)) ?_
 refine WD.c (i:=6) (d:=8) (by kernel_rfl) rfl z1 z2 rfl rfl rfl (zI (l:=[.tmp 2,.tmp 7]) Tryd.call108 (.cons rfl (.cons rfl .nil))) (ccl hz .nil (.cons .here .nil) fun w pz ho la=>yh _ _ _ _ _ _ _ _ _ zdb w pz (z83.mono (Zle.left _ _)) (z84.mono (Zle.left _ _)) ((la _ (.head _) _).stb)) ?_
 refine WD.a (i:=7) (d:=9) (by kernel_rfl) rfl z1 z2 rfl rfl rfl (fun _=>y7 rfl) ?_
 refine WD.e (i:=8) (d:=10) (by kernel_rfl) rfl z1 z2 rfl rfl rfl (y6 yN rfl (y1r (l:=([z7.fState.fRegs.a0,z7.fState.fRegs.a1,z7.fState.fRegs.a2,z7.fState.fRegs.a3] : List Int)) (f:=Value.int .u8) (k:=2) (m:=6) .here rfl rfl z9X)) ?_
 refine WD.a (i:=9) (d:=11) (by kernel_rfl) rfl z1 z2 rfl rfl rfl (fun _=>q_m rfl) ?_
 refine WD.a (i:=10) (d:=12) (by kernel_rfl) rfl z1 z2 rfl rfl rfl (fun _=>q_m rfl) ?_
 refine WD.a (i:=11) (d:=13) (by kernel_rfl) rfl z1 z2 rfl rfl rfl (fun _=>y7 rfl) ?_
 refine WD.a (i:=12) (d:=14) (by kernel_rfl) rfl z1 z2 rfl rfl rfl (fun _=>y4 yH rfl rfl) ?_
 refine WD.a (i:=13) (d:=15) (by kernel_rfl) rfl z1 z2 rfl rfl rfl (fun _=>y4 y1x rfl rfl) ?_
 refine WD.e (i:=14) (d:=16) (by kernel_rfl) rfl z1 z2 rfl rfl rfl (y6 yf rfl (yc .here rfl)) ?_
 refine WD.c (i:=15) (d:=17) (by kernel_rfl) rfl z1 z2 rfl rfl rfl (zI (l:=[.tmp 11,.tmp 16]) Tryd.call108 (.cons rfl (.cons rfl .nil))) (ccl hz .nil (.cons .here .nil) fun w pz ho la=>yh _ _ _ _ _ _ _ _ _ zdc w pz (z83.mono (Zle.left _ _)) (z84.mono (Zle.left _ _)) ((la _ (.head _) _).stb)) ?_
 refine WD.a (i:=16) (d:=18) (by kernel_rfl) rfl z1 z2 rfl rfl rfl (fun _=>y7 rfl) ?_
 refine WD.e (i:=17) (d:=19) (by kernel_rfl) rfl z1 z2 rfl rfl rfl (y6 yN rfl (y1r (l:=([z7.fState.fRegs.a0,z7.fState.fRegs.a1,z7.fState.fRegs.a2,z7.fState.fRegs.a3] : List Int)) (f:=Value.int .u8) (k:=2) (m:=6) .here rfl rfl zdd)) ?_
 refine WD.a (i:=18) (d:=20) (by kernel_rfl) rfl z1 z2 rfl rfl rfl (fun _=>q_add rfl rfl rfl) ?_
 refine WD.a (i:=19) (d:=21) (by kernel_rfl) rfl z1 z2 rfl rfl rfl (fun _=>y7 rfl) ?_
 refine WD.y2p (i:=20) rfl (by kernel_rfl) rfl rfl rfl (by kernel_rfl) (y2U (l:=([z7.fState.fRegs.a0,z7.fState.fRegs.a1,z7.fState.fRegs.a2,z7.fState.fRegs.a3] : List Int)) (f:=Value.int .u8) (u:=u8 ((nth ([z7.fState.fRegs.a0,z7.fState.fRegs.a1,z7.fState.fRegs.a2,z7.fState.fRegs.a3] : List Int) z7.fX.fA) + (nth ([z7.fState.fRegs.a0,z7.fState.fRegs.a1,z7.fState.fRegs.a2,z7.fState.fRegs.a3] : List Int) z7.fX.fB))) (k:=2) (m:=6) (j:=4) (ds:=[(.int .i64 z7.fState.fPc),(.int .i64 z7.fState.fLeft),(.int .u8 (nth (([z7.fState.fRegs.a0,z7.fState.fRegs.a1,z7.fState.fRegs.a2,z7.fState.fRegs.a3] : List Int).set (z7.fX.fA : Int).toNat (u8 ((nth ([z7.fState.fRegs.a0,z7.fState.fRegs.a1,z7.fState.fRegs.a2,z7.fState.fRegs.a3] : List Int) z7.fX.fA) + (nth ([z7.fState.fRegs.a0,z7.fState.fRegs.a1,z7.fState.fRegs.a2,z7.fState.fRegs.a3] : List Int) z7.fX.fB)))) 0)),(.int .u8 (nth (([z7.fState.fRegs.a0,z7.fState.fRegs.a1,z7.fState.fRegs.a2,z7.fState.fRegs.a3] : List Int).set (z7.fX.fA : Int).toNat (u8 ((nth ([z7.fState.fRegs.a0,z7.fState.fRegs.a1,z7.fState.fRegs.a2,z7.fState.fRegs.a3] : List Int) z7.fX.fA) + (nth ([z7.fState.fRegs.a0,z7.fState.fRegs.a1,z7.fState.fRegs.a2,z7.fState.fRegs.a3] : List Int) z7.fX.fB)))) 1)),(.int .u8 (nth (([z7.fState.fRegs.a0,z7.fState.fRegs.a1,z7.fState.fRegs.a2,z7.fState.fRegs.a3] : List Int).set (z7.fX.fA : Int).toNat (u8 ((nth ([z7.fState.fRegs.a0,z7.fState.fRegs.a1,z7.fState.fRegs.a2,z7.fState.fRegs.a3] : List Int) z7.fX.fA) + (nth ([z7.fState.fRegs.a0,z7.fState.fRegs.a1,z7.fState.fRegs.a2,z7.fState.fRegs.a3] : List Int) z7.fX.fB)))) 2)),(.int .u8 (nth (([z7.fState.fRegs.a0,z7.fState.fRegs.a1,z7.fState.fRegs.a2,z7.fState.fRegs.a3] : List Int).set (z7.fX.fA : Int).toNat (u8 ((nth ([z7.fState.fRegs.a0,z7.fState.fRegs.a1,z7.fState.fRegs.a2,z7.fState.fRegs.a3] : List Int) z7.fX.fA) + (nth ([z7.fState.fRegs.a0,z7.fState.fRegs.a1,z7.fState.fRegs.a2,z7.fState.fRegs.a3] : List Int) z7.fX.fB)))) 3)),(.int .u8 z7.fX.fOp),(.int .i64 z7.fX.fA),(.int .i64 z7.fX.fB),(.int .i64 z7.fX.fC),(.slice z4c z7.fMem.length z4d),(.int .u8 z7.fAct.fKind),(.int .i64 z7.fAct.fA),(.int .i64 z7.fAct.fB),(.slice z4e z7.fAct.fData.length z4f)]) y3Q rfl rfl rfl rfl .here rfl rfl z9X rfl rfl) ?_
 refine WD.done (by kernel_rfl) ?_
 obtain rfl:=Option.some.inj h
 refine WX.yd Tryd.results82 .nil (fun w hw=>?_)
 exact ⟨z4c,z4d,z4e,z4f,y12,⟨z83,z84⟩,hw.sub (.cons .here .nil)⟩
def y2b (z8 : Sproc_execution) : Option Sproc_execution :=
 (yb z8 z8.fX.fA).bind fun zde=>chk ((0 : Int) ≤ z8.fX.fA ∧ z8.fX.fA < 4) ((yb z8 z8.fX.fB).bind fun zdf=>chk ((0 : Int) ≤ z8.fX.fB ∧ z8.fX.fB < 4) (some (⟨(⟨z8.fState.fPc,z8.fState.fLeft,(⟨nth (([z8.fState.fRegs.a0,z8.fState.fRegs.a1,z8.fState.fRegs.a2,z8.fState.fRegs.a3] : List Int).set (z8.fX.fA : Int).toNat (u8 ((nth ([z8.fState.fRegs.a0,z8.fState.fRegs.a1,z8.fState.fRegs.a2,z8.fState.fRegs.a3] : List Int) z8.fX.fA) - (nth ([z8.fState.fRegs.a0,z8.fState.fRegs.a1,z8.fState.fRegs.a2,z8.fState.fRegs.a3] : List Int) z8.fX.fB)))) 0,nth (([z8.fState.fRegs.a0,z8.fState.fRegs.a1,z8.fState.fRegs.a2,z8.fState.fRegs.a3] : List Int).set (z8.fX.fA : Int).toNat (u8 ((nth ([z8.fState.fRegs.a0,z8.fState.fRegs.a1,z8.fState.fRegs.a2,z8.fState.fRegs.a3] : List Int) z8.fX.fA) - (nth ([z8.fState.fRegs.a0,z8.fState.fRegs.a1,z8.fState.fRegs.a2,z8.fState.fRegs.a3] : List Int) z8.fX.fB)))) 1,nth (([z8.fState.fRegs.a0,z8.fState.fRegs.a1,z8.fState.fRegs.a2,z8.fState.fRegs.a3] : List Int).set (z8.fX.fA : Int).toNat (u8 ((nth ([z8.fState.fRegs.a0,z8.fState.fRegs.a1,z8.fState.fRegs.a2,z8.fState.fRegs.a3] : List Int) z8.fX.fA) - (nth ([z8.fState.fRegs.a0,z8.fState.fRegs.a1,z8.fState.fRegs.a2,z8.fState.fRegs.a3] : List Int) z8.fX.fB)))) 2,nth (([z8.fState.fRegs.a0,z8.fState.fRegs.a1,z8.fState.fRegs.a2,z8.fState.fRegs.a3] : List Int).set (z8.fX.fA : Int).toNat (u8 ((nth ([z8.fState.fRegs.a0,z8.fState.fRegs.a1,z8.fState.fRegs.a2,z8.fState.fRegs.a3] : List Int) z8.fX.fA) - (nth ([z8.fState.fRegs.a0,z8.fState.fRegs.a1,z8.fState.fRegs.a2,z8.fState.fRegs.a3] : List Int) z8.fX.fB)))) 3⟩ : S34)⟩ : Sproc_State),z8.fX,z8.fMem,z8.fAct⟩ : Sproc_execution)))
set_option maxRecDepth 20000 in
theorem y4i (Z : Zp) (z3e : Nat) (z4g : Option Addr) (z4h : Nat) (z4i : Option Addr) (z4j : Nat) (z8 : Sproc_execution) (r : Sproc_execution)
  (h : y2b z8 = some r) (w₀ : World) (hz : PZ (fps [stb z3e 65 [(.int .i64 z8.fState.fPc),(.int .i64 z8.fState.fLeft),(.int .u8 z8.fState.fRegs.a0),(.int .u8 z8.fState.fRegs.a1),(.int .u8 z8.fState.fRegs.a2),(.int .u8 z8.fState.fRegs.a3),(.int .u8 z8.fX.fOp),(.int .i64 z8.fX.fA),(.int .i64 z8.fX.fB),(.int .i64 z8.fX.fC),(.slice z4g z8.fMem.length z4h),(.int .u8 z8.fAct.fKind),(.int .i64 z8.fAct.fA),(.int .i64 z8.fAct.fB),(.slice z4i z8.fAct.fData.length z4j)]]) w₀ Z)
  (z85 : ZS Z 1 (fun r x=>r = e5 x) z4g z4h z8.fMem)
  (z86 : ZS Z 1 (fun r x=>r = e5 x) z4i z4j z8.fAct.fData)
  (hown : Hp (fps [stb z3e 65 [(.int .i64 z8.fState.fPc),(.int .i64 z8.fState.fLeft),(.int .u8 z8.fState.fRegs.a0),(.int .u8 z8.fState.fRegs.a1),(.int .u8 z8.fState.fRegs.a2),(.int .u8 z8.fState.fRegs.a3),(.int .u8 z8.fX.fOp),(.int .i64 z8.fX.fA),(.int .i64 z8.fX.fB),(.int .i64 z8.fX.fC),(.slice z4g z8.fMem.length z4h),(.int .u8 z8.fAct.fKind),(.int .i64 z8.fAct.fA),(.int .i64 z8.fAct.fB),(.slice z4i z8.fAct.fData.length z4j)]]) w₀ w₀ [stb z3e 65 [(.int .i64 z8.fState.fPc),(.int .i64 z8.fState.fLeft),(.int .u8 z8.fState.fRegs.a0),(.int .u8 z8.fState.fRegs.a1),(.int .u8 z8.fState.fRegs.a2),(.int .u8 z8.fState.fRegs.a3),(.int .u8 z8.fX.fOp),(.int .i64 z8.fX.fA),(.int .i64 z8.fX.fB),(.int .i64 z8.fX.fC),(.slice z4g z8.fMem.length z4h),(.int .u8 z8.fAct.fKind),(.int .i64 z8.fAct.fA),(.int .i64 z8.fAct.fB),(.slice z4i z8.fAct.fData.length z4j)]]) :
  Calls Tryd.prog 86 #[(.pointer (some ⟨z3e,0,none⟩))] w₀ fun e w'=>∃ z9Y : Option Addr,∃ z9Z : Nat,∃ za0 : Option Addr,∃ za1 : Nat,e = .returned (.tuple #[]) ∧ ((ZS Z 1 (fun r x=>r = e5 x) z9Y z9Z r.fMem) ∧ (ZS Z 1 (fun r x=>r = e5 x) za0 za1 r.fAct.fData)) ∧ Hp (fps [stb z3e 65 [(.int .i64 z8.fState.fPc),(.int .i64 z8.fState.fLeft),(.int .u8 z8.fState.fRegs.a0),(.int .u8 z8.fState.fRegs.a1),(.int .u8 z8.fState.fRegs.a2),(.int .u8 z8.fState.fRegs.a3),(.int .u8 z8.fX.fOp),(.int .i64 z8.fX.fA),(.int .i64 z8.fX.fB),(.int .i64 z8.fX.fC),(.slice z4g z8.fMem.length z4h),(.int .u8 z8.fAct.fKind),(.int .i64 z8.fAct.fA),(.int .i64 z8.fAct.fB),(.slice z4i z8.fAct.fData.length z4j)]]) w₀ w' [stb z3e 65 [(.int .i64 r.fState.fPc),(.int .i64 r.fState.fLeft),(.int .u8 r.fState.fRegs.a0),(.int .u8 r.fState.fRegs.a1),(.int .u8 r.fState.fRegs.a2),(.int .u8 r.fState.fRegs.a3),(.int .u8 r.fX.fOp),(.int .i64 r.fX.fA),(.int .i64 r.fX.fB),(.int .i64 r.fX.fC),(.slice z9Y r.fMem.length z9Z),(.int .u8 r.fAct.fKind),(.int .i64 r.fAct.fA),(.int .i64 r.fAct.fB),(.slice za0 r.fAct.fData.length za1)]]:=by
 unfold y2b at h
 refine Calls.y8 (vs:=[(.pointer (some ⟨z3e,0,none⟩))]) (pre:=[stb z3e 65 [(.int .i64 z8.fState.fPc),(.int .i64 z8.fState.fLeft),(.int .u8 z8.fState.fRegs.a0),(.int .u8 z8.fState.fRegs.a1),(.int .u8 z8.fState.fRegs.a2),(.int .u8 z8.fState.fRegs.a3),(.int .u8 z8.fX.fOp),(.int .i64 z8.fX.fA),(.int .i64 z8.fX.fB),(.int .i64 z8.fX.fC),(.slice z4g z8.fMem.length z4h),(.int .u8 z8.fAct.fKind),(.int .i64 z8.fAct.fA),(.int .i64 z8.fAct.fB),(.slice z4i z8.fAct.fData.length z4j)]]) (env:=[(0,(.pointer (some ⟨z3e,0,none⟩)))]) Tryd.func86 rfl Tryd.ntmps86 rfl (hown) rfl ?_
 obtain ⟨zde,zdg,h⟩:=zh h
 obtain ⟨za2,h⟩:=y9 h
 obtain ⟨zdf,zdh,h⟩:=zh h
 obtain ⟨zdi,h⟩:=y9 h
 refine WC.y1a (fun i=>[20].contains i) [] rfl ?_
 refine WD.a (i:=0) (d:=2) (by kernel_rfl) rfl z1 z2 rfl rfl rfl (fun _=>q_m rfl) ?_
 refine WD.a (i:=1) (d:=3) (by kernel_rfl) rfl z1 z2 rfl rfl rfl (fun _=>q_m rfl) ?_
 refine WD.a (i:=2) (d:=4) (by kernel_rfl) rfl z1 z2 rfl rfl rfl (fun _=>y7 rfl) ?_
 refine WD.a (i:=3) (d:=5) (by kernel_rfl) rfl z1 z2 rfl rfl rfl (fun _=>y4 yH rfl rfl) ?_
 refine WD.a (i:=4) (d:=6) (by kernel_rfl) rfl z1 z2 rfl rfl rfl (fun _=>y4 y1b rfl rfl) ?_
 refine WD.e (i:=5) (d:=7) (by kernel_rfl) rfl z1 z2 rfl rfl rfl (y6 yf rfl (yc .here rfl)) ?_
 refine WD.c (i:=6) (d:=8) (by kernel_rfl) rfl z1 z2 rfl rfl rfl (zI (l:=[.tmp 2,.tmp 7]) Tryd.call108 (.cons rfl (.cons rfl .nil))) (ccl hz .nil (.cons .here .nil) fun w pz ho la=>yh _ _ _ _ _ _ _ _ _ zdg w pz (z85.mono (Zle.left _ _)) (z86.mono (Zle.left _ _)) ((la _ (.head _) _).stb)) ?_
 refine WD.a (i:=7) (d:=9) (by kernel_rfl) rfl z1 z2 rfl rfl rfl (fun _=>y7 rfl) ?_
 refine WD.e (i:=8) (d:=10) (by kernel_rfl) rfl z1 z2 rfl rfl rfl (y6 yN rfl (y1r (l:=([z8.fState.fRegs.a0,z8.fState.fRegs.a1,z8.fState.fRegs.a2,z8.fState.fRegs.a3] : List Int)) (f:=Value.int .u8) (k:=2) (m:=6) .here rfl rfl za2)) ?_
 refine WD.a (i:=9) (d:=11) (by kernel_rfl) rfl z1 z2 rfl rfl rfl (fun _=>q_m rfl) ?_
 refine WD.a (i:=10) (d:=12) (by kernel_rfl) rfl z1 z2 rfl rfl rfl (fun _=>q_m rfl) ?_
 refine WD.a (i:=11) (d:=13) (by kernel_rfl) rfl z1 z2 rfl rfl rfl (fun _=>y7 rfl) ?_
 refine WD.a (i:=12) (d:=14) (by kernel_rfl) rfl z1 z2 rfl rfl rfl (fun _=>y4 yH rfl rfl) ?_
 refine WD.a (i:=13) (d:=15) (by kernel_rfl) rfl z1 z2 rfl rfl rfl (fun _=>y4 y1x rfl rfl) ?_
 refine WD.e (i:=14) (d:=16) (by kernel_rfl) rfl z1 z2 rfl rfl rfl (y6 yf rfl (yc .here rfl)) ?_
 refine WD.c (i:=15) (d:=17) (by kernel_rfl) rfl z1 z2 rfl rfl rfl (zI (l:=[.tmp 11,.tmp 16]) Tryd.call108 (.cons rfl (.cons rfl .nil))) (ccl hz .nil (.cons .here .nil) fun w pz ho la=>yh _ _ _ _ _ _ _ _ _ zdh w pz (z85.mono (Zle.left _ _)) (z86.mono (Zle.left _ _)) ((la _ (.head _) _).stb)) ?_
 refine WD.a (i:=16) (d:=18) (by kernel_rfl) rfl z1 z2 rfl rfl rfl (fun _=>y7 rfl) ?_
 refine WD.e (i:=17) (d:=19) (by kernel_rfl) rfl z1 z2 rfl rfl rfl (y6 yN rfl (y1r (l:=([z8.fState.fRegs.a0,z8.fState.fRegs.a1,z8.fState.fRegs.a2,z8.fState.fRegs.a3] : List Int)) (f:=Value.int .u8) (k:=2) (m:=6) .here rfl rfl zdi)) ?_
 refine WD.a (i:=18) (d:=20) (by kernel_rfl) rfl z1 z2 rfl rfl rfl (fun _=>y58 rfl rfl rfl) ?_
 refine WD.a (i:=19) (d:=21) (by kernel_rfl) rfl z1 z2 rfl rfl rfl (fun _=>y7 rfl) ?_
 refine WD.y2p (i:=20) rfl (by kernel_rfl) rfl rfl rfl (by kernel_rfl) (y2U (l:=([z8.fState.fRegs.a0,z8.fState.fRegs.a1,z8.fState.fRegs.a2,z8.fState.fRegs.a3] : List Int)) (f:=Value.int .u8) (u:=u8 ((nth ([z8.fState.fRegs.a0,z8.fState.fRegs.a1,z8.fState.fRegs.a2,z8.fState.fRegs.a3] : List Int) z8.fX.fA) - (nth ([z8.fState.fRegs.a0,z8.fState.fRegs.a1,z8.fState.fRegs.a2,z8.fState.fRegs.a3] : List Int) z8.fX.fB))) (k:=2) (m:=6) (j:=4) (ds:=[(.int .i64 z8.fState.fPc),(.int .i64 z8.fState.fLeft),(.int .u8 (nth (([z8.fState.fRegs.a0,z8.fState.fRegs.a1,z8.fState.fRegs.a2,z8.fState.fRegs.a3] : List Int).set (z8.fX.fA : Int).toNat (u8 ((nth ([z8.fState.fRegs.a0,z8.fState.fRegs.a1,z8.fState.fRegs.a2,z8.fState.fRegs.a3] : List Int) z8.fX.fA) - (nth ([z8.fState.fRegs.a0,z8.fState.fRegs.a1,z8.fState.fRegs.a2,z8.fState.fRegs.a3] : List Int) z8.fX.fB)))) 0)),(.int .u8 (nth (([z8.fState.fRegs.a0,z8.fState.fRegs.a1,z8.fState.fRegs.a2,z8.fState.fRegs.a3] : List Int).set (z8.fX.fA : Int).toNat (u8 ((nth ([z8.fState.fRegs.a0,z8.fState.fRegs.a1,z8.fState.fRegs.a2,z8.fState.fRegs.a3] : List Int) z8.fX.fA) - (nth ([z8.fState.fRegs.a0,z8.fState.fRegs.a1,z8.fState.fRegs.a2,z8.fState.fRegs.a3] : List Int) z8.fX.fB)))) 1)),(.int .u8 (nth (([z8.fState.fRegs.a0,z8.fState.fRegs.a1,z8.fState.fRegs.a2,z8.fState.fRegs.a3] : List Int).set (z8.fX.fA : Int).toNat (u8 ((nth ([z8.fState.fRegs.a0,z8.fState.fRegs.a1,z8.fState.fRegs.a2,z8.fState.fRegs.a3] : List Int) z8.fX.fA) - (nth ([z8.fState.fRegs.a0,z8.fState.fRegs.a1,z8.fState.fRegs.a2,z8.fState.fRegs.a3] : List Int) z8.fX.fB)))) 2)),(.int .u8 (nth (([z8.fState.fRegs.a0,z8.fState.fRegs.a1,z8.fState.fRegs.a2,z8.fState.fRegs.a3] : List Int).set (z8.fX.fA : Int).toNat (u8 ((nth ([z8.fState.fRegs.a0,z8.fState.fRegs.a1,z8.fState.fRegs.a2,z8.fState.fRegs.a3] : List Int) z8.fX.fA) - (nth ([z8.fState.fRegs.a0,z8.fState.fRegs.a1,z8.fState.fRegs.a2,z8.fState.fRegs.a3] : List Int) z8.fX.fB)))) 3)),(.int .u8 z8.fX.fOp),(.int .i64 z8.fX.fA),(.int .i64 z8.fX.fB),(.int .i64 z8.fX.fC),(.slice z4g z8.fMem.length z4h),(.int .u8 z8.fAct.fKind),(.int .i64 z8.fAct.fA),(.int .i64 z8.fAct.fB),(.slice z4i z8.fAct.fData.length z4j)]) y3Q rfl rfl rfl rfl .here rfl rfl za2 rfl rfl) ?_
 refine WD.done (by kernel_rfl) ?_
 obtain rfl:=Option.some.inj h
 refine WX.yd Tryd.results86 .nil (fun w hw=>?_)
 exact ⟨z4g,z4h,z4i,z4j,y12,⟨z85,z86⟩,hw.sub (.cons .here .nil)⟩
def y17 (zo : Sproc_execution) (z4k : Int) (z4l : Int) : Option Sproc_execution :=
 some (⟨zo.fState,zo.fX,zo.fMem,(⟨15,i64 z4k,z4l,([] : List Int)⟩ : Sproc_Act)⟩ : Sproc_execution)
set_option maxRecDepth 20000 in
theorem y1S (Z : Zp) (z3f : Nat) (z4m : Option Addr) (z4n : Nat) (z5j : Option Addr) (z5k : Nat) (zo : Sproc_execution) (z4k : Int) (z4l : Int) (r : Sproc_execution)
  (h : y17 zo z4k z4l = some r) (w₀ : World) (hz : PZ (fps [stb z3f 65 [(.int .i64 zo.fState.fPc),(.int .i64 zo.fState.fLeft),(.int .u8 zo.fState.fRegs.a0),(.int .u8 zo.fState.fRegs.a1),(.int .u8 zo.fState.fRegs.a2),(.int .u8 zo.fState.fRegs.a3),(.int .u8 zo.fX.fOp),(.int .i64 zo.fX.fA),(.int .i64 zo.fX.fB),(.int .i64 zo.fX.fC),(.slice z4m zo.fMem.length z4n),(.int .u8 zo.fAct.fKind),(.int .i64 zo.fAct.fA),(.int .i64 zo.fAct.fB),(.slice z5j zo.fAct.fData.length z5k)]]) w₀ Z)
  (zdj : ZS Z 1 (fun r x=>r = e5 x) z4m z4n zo.fMem)
  (zme : ZS Z 1 (fun r x=>r = e5 x) z5j z5k zo.fAct.fData)
  (hown : Hp (fps [stb z3f 65 [(.int .i64 zo.fState.fPc),(.int .i64 zo.fState.fLeft),(.int .u8 zo.fState.fRegs.a0),(.int .u8 zo.fState.fRegs.a1),(.int .u8 zo.fState.fRegs.a2),(.int .u8 zo.fState.fRegs.a3),(.int .u8 zo.fX.fOp),(.int .i64 zo.fX.fA),(.int .i64 zo.fX.fB),(.int .i64 zo.fX.fC),(.slice z4m zo.fMem.length z4n),(.int .u8 zo.fAct.fKind),(.int .i64 zo.fAct.fA),(.int .i64 zo.fAct.fB),(.slice z5j zo.fAct.fData.length z5k)]]) w₀ w₀ [stb z3f 65 [(.int .i64 zo.fState.fPc),(.int .i64 zo.fState.fLeft),(.int .u8 zo.fState.fRegs.a0),(.int .u8 zo.fState.fRegs.a1),(.int .u8 zo.fState.fRegs.a2),(.int .u8 zo.fState.fRegs.a3),(.int .u8 zo.fX.fOp),(.int .i64 zo.fX.fA),(.int .i64 zo.fX.fB),(.int .i64 zo.fX.fC),(.slice z4m zo.fMem.length z4n),(.int .u8 zo.fAct.fKind),(.int .i64 zo.fAct.fA),(.int .i64 zo.fAct.fB),(.slice z5j zo.fAct.fData.length z5k)]]) :
  Calls Tryd.prog 112 #[(.pointer (some ⟨z3f,0,none⟩)),(.int .u8 z4k),(.int .i64 z4l)] w₀ fun e w'=>∃ za3 : Option Addr,∃ za4 : Nat,∃ za5 : Option Addr,∃ za6 : Nat,e = .returned (.tuple #[]) ∧ (ZS Z 1 (fun r x=>r = e5 x) za3 za4 r.fMem) ∧ Hp (fps [stb z3f 65 [(.int .i64 zo.fState.fPc),(.int .i64 zo.fState.fLeft),(.int .u8 zo.fState.fRegs.a0),(.int .u8 zo.fState.fRegs.a1),(.int .u8 zo.fState.fRegs.a2),(.int .u8 zo.fState.fRegs.a3),(.int .u8 zo.fX.fOp),(.int .i64 zo.fX.fA),(.int .i64 zo.fX.fB),(.int .i64 zo.fX.fC),(.slice z4m zo.fMem.length z4n),(.int .u8 zo.fAct.fKind),(.int .i64 zo.fAct.fA),(.int .i64 zo.fAct.fB),(.slice z5j zo.fAct.fData.length z5k)]]) w₀ w' [stb z3f 65 [(.int .i64 r.fState.fPc),(.int .i64 r.fState.fLeft),(.int .u8 r.fState.fRegs.a0),(.int .u8 r.fState.fRegs.a1),(.int .u8 r.fState.fRegs.a2),(.int .u8 r.fState.fRegs.a3),(.int .u8 r.fX.fOp),(.int .i64 r.fX.fA),(.int .i64 r.fX.fB),(.int .i64 r.fX.fC),(.slice za3 r.fMem.length za4),(.int .u8 r.fAct.fKind),(.int .i64 r.fAct.fA),(.int .i64 r.fAct.fB),(.slice za5 r.fAct.fData.length za6)],row (.slice za5 r.fAct.fData.length za6) 5 1 (r.fAct.fData.flatMap e5)]:=by
 unfold y17 at h
 refine Calls.y8 (vs:=[(.pointer (some ⟨z3f,0,none⟩)),(.int .u8 z4k),(.int .i64 z4l)]) (pre:=[stb z3f 65 [(.int .i64 zo.fState.fPc),(.int .i64 zo.fState.fLeft),(.int .u8 zo.fState.fRegs.a0),(.int .u8 zo.fState.fRegs.a1),(.int .u8 zo.fState.fRegs.a2),(.int .u8 zo.fState.fRegs.a3),(.int .u8 zo.fX.fOp),(.int .i64 zo.fX.fA),(.int .i64 zo.fX.fB),(.int .i64 zo.fX.fC),(.slice z4m zo.fMem.length z4n),(.int .u8 zo.fAct.fKind),(.int .i64 zo.fAct.fA),(.int .i64 zo.fAct.fB),(.slice z5j zo.fAct.fData.length z5k)]]) (env:=[(0,(.pointer (some ⟨z3f,0,none⟩))),(1,(.int .u8 z4k)),(2,(.int .i64 z4l))]) Tryd.func112 rfl Tryd.ntmps112 rfl (hown) rfl ?_
 refine WC.a (WL.pu rfl (WL.pu rfl ?_))
 refine WL.a (d:=8) rfl rfl rfl (y4A Tryd.underlying5 Tryd.underlying3 rfl rfl) ?_
 refine WL.pu rfl ?_
 refine WL.a (d:=10) rfl rfl rfl (yZ (v:=(.agg #[(.int .u8 15),(.int .i64 (i64 z4k)),(.int .i64 z4l),(.slice none 0 0)])) (Eos.parts (l:=[.const (.int .u8 15),.tmp 8,.tmp 9]) (.cons rfl (.cons rfl (.cons rfl .nil))) [0,1,2]) (fun _=>by kernel_rfl)) ?_
 refine WL.a (d:=11) rfl rfl rfl (y7 rfl) ?_
 refine WL.a (d:=12) rfl rfl rfl (y4 y3e rfl rfl) ?_
 refine WL.yo rfl rfl (y1g (ds:=[(.int .i64 zo.fState.fPc),(.int .i64 zo.fState.fLeft),(.int .u8 zo.fState.fRegs.a0),(.int .u8 zo.fState.fRegs.a1),(.int .u8 zo.fState.fRegs.a2),(.int .u8 zo.fState.fRegs.a3),(.int .u8 zo.fX.fOp),(.int .i64 zo.fX.fA),(.int .i64 zo.fX.fB),(.int .i64 zo.fX.fC),(.slice z4m zo.fMem.length z4n),(.int .u8 15),(.int .i64 (i64 z4k)),(.int .i64 z4l),(.slice none 0 0)]) y1y rfl rfl rfl rfl rfl .here rfl rfl) ?_
 refine WL.nil ?_
 refine WX.nilRow 5 1 ?_
 obtain rfl:=Option.some.inj h
 refine WX.yd Tryd.results112 .nil (fun w hw=>?_)
 exact ⟨z4m,z4n,none,0,y12,zdj,hw.sub (.cons .h1 (.cons .here .nil))⟩
def y1j (zk : Sproc_execution) : Option (Int × Bool × Sproc_execution) :=
 (yb zk zk.fX.fC).bind fun zdk=>chk ((0 : Int) ≤ zk.fX.fC ∧ zk.fX.fC < 4) (if decide ((i64 (zk.fX.fB + (i64 (nth ([zk.fState.fRegs.a0,zk.fState.fRegs.a1,zk.fState.fRegs.a2,zk.fState.fRegs.a3] : List Int) zk.fX.fC)))) ≥ ((zk.fMem.length : Nat) : Int)) then (y17 zk 2 0).bind fun z87=>some (0,false,z87) else some ((i64 (zk.fX.fB + (i64 (nth ([zk.fState.fRegs.a0,zk.fState.fRegs.a1,zk.fState.fRegs.a2,zk.fState.fRegs.a3] : List Int) zk.fX.fC)))),true,zk))
set_option maxRecDepth 20000 in
theorem y2D (Z : Zp) (z3g : Nat) (z4U : Option Addr) (z4V : Nat) (z4W : Option Addr) (z4X : Nat) (zk : Sproc_execution) (r : Int × Bool × Sproc_execution)
  (h : y1j zk = some r) (w₀ : World) (hz : PZ (fps [stb z3g 65 [(.int .i64 zk.fState.fPc),(.int .i64 zk.fState.fLeft),(.int .u8 zk.fState.fRegs.a0),(.int .u8 zk.fState.fRegs.a1),(.int .u8 zk.fState.fRegs.a2),(.int .u8 zk.fState.fRegs.a3),(.int .u8 zk.fX.fOp),(.int .i64 zk.fX.fA),(.int .i64 zk.fX.fB),(.int .i64 zk.fX.fC),(.slice z4U zk.fMem.length z4V),(.int .u8 zk.fAct.fKind),(.int .i64 zk.fAct.fA),(.int .i64 zk.fAct.fB),(.slice z4W zk.fAct.fData.length z4X)]]) w₀ Z)
  (z88 : ZS Z 1 (fun r x=>r = e5 x) z4U z4V zk.fMem)
  (z89 : ZS Z 1 (fun r x=>r = e5 x) z4W z4X zk.fAct.fData)
  (hown : Hp (fps [stb z3g 65 [(.int .i64 zk.fState.fPc),(.int .i64 zk.fState.fLeft),(.int .u8 zk.fState.fRegs.a0),(.int .u8 zk.fState.fRegs.a1),(.int .u8 zk.fState.fRegs.a2),(.int .u8 zk.fState.fRegs.a3),(.int .u8 zk.fX.fOp),(.int .i64 zk.fX.fA),(.int .i64 zk.fX.fB),(.int .i64 zk.fX.fC),(.slice z4U zk.fMem.length z4V),(.int .u8 zk.fAct.fKind),(.int .i64 zk.fAct.fA),(.int .i64 zk.fAct.fB),(.slice z4W zk.fAct.fData.length z4X)]]) w₀ w₀ [stb z3g 65 [(.int .i64 zk.fState.fPc),(.int .i64 zk.fState.fLeft),(.int .u8 zk.fState.fRegs.a0),(.int .u8 zk.fState.fRegs.a1),(.int .u8 zk.fState.fRegs.a2),(.int .u8 zk.fState.fRegs.a3),(.int .u8 zk.fX.fOp),(.int .i64 zk.fX.fA),(.int .i64 zk.fX.fB),(.int .i64 zk.fX.fC),(.slice z4U zk.fMem.length z4V),(.int .u8 zk.fAct.fKind),(.int .i64 zk.fAct.fA),(.int .i64 zk.fAct.fB),(.slice z4W zk.fAct.fData.length z4X)]]) :
  Calls Tryd.prog 109 #[(.pointer (some ⟨z3g,0,none⟩))] w₀ fun e w'=>∃ Zn : Zp,∃ za7 : Option Addr,∃ za8 : Nat,∃ za9 : Option Addr,∃ zaa : Nat,e = .returned (.tuple #[(.int .i64 r.1),(.bool r.2.1)]) ∧ ((ZS (Z ++ Zn) 1 (fun r x=>r = e5 x) za7 za8 r.2.2.fMem) ∧ (ZS (Z ++ Zn) 1 (fun r x=>r = e5 x) za9 zaa r.2.2.fAct.fData)) ∧ Hp (fps [stb z3g 65 [(.int .i64 zk.fState.fPc),(.int .i64 zk.fState.fLeft),(.int .u8 zk.fState.fRegs.a0),(.int .u8 zk.fState.fRegs.a1),(.int .u8 zk.fState.fRegs.a2),(.int .u8 zk.fState.fRegs.a3),(.int .u8 zk.fX.fOp),(.int .i64 zk.fX.fA),(.int .i64 zk.fX.fB),(.int .i64 zk.fX.fC),(.slice z4U zk.fMem.length z4V),(.int .u8 zk.fAct.fKind),(.int .i64 zk.fAct.fA),(.int .i64 zk.fAct.fB),(.slice z4W zk.fAct.fData.length z4X)]]) w₀ w' [fz Zn,stb z3g 65 [(.int .i64 r.2.2.fState.fPc),(.int .i64 r.2.2.fState.fLeft),(.int .u8 r.2.2.fState.fRegs.a0),(.int .u8 r.2.2.fState.fRegs.a1),(.int .u8 r.2.2.fState.fRegs.a2),(.int .u8 r.2.2.fState.fRegs.a3),(.int .u8 r.2.2.fX.fOp),(.int .i64 r.2.2.fX.fA),(.int .i64 r.2.2.fX.fB),(.int .i64 r.2.2.fX.fC),(.slice za7 r.2.2.fMem.length za8),(.int .u8 r.2.2.fAct.fKind),(.int .i64 r.2.2.fAct.fA),(.int .i64 r.2.2.fAct.fB),(.slice za9 r.2.2.fAct.fData.length zaa)]]:=by
 unfold y1j at h
 refine Calls.y8 (vs:=[(.pointer (some ⟨z3g,0,none⟩))]) (pre:=[stb z3g 65 [(.int .i64 zk.fState.fPc),(.int .i64 zk.fState.fLeft),(.int .u8 zk.fState.fRegs.a0),(.int .u8 zk.fState.fRegs.a1),(.int .u8 zk.fState.fRegs.a2),(.int .u8 zk.fState.fRegs.a3),(.int .u8 zk.fX.fOp),(.int .i64 zk.fX.fA),(.int .i64 zk.fX.fB),(.int .i64 zk.fX.fC),(.slice z4U zk.fMem.length z4V),(.int .u8 zk.fAct.fKind),(.int .i64 zk.fAct.fA),(.int .i64 zk.fAct.fB),(.slice z4W zk.fAct.fData.length z4X)]]) (env:=[(0,(.pointer (some ⟨z3g,0,none⟩)))]) Tryd.func109 rfl Tryd.ntmps109 rfl (hown) rfl ?_
 refine WC.pool (WC.b (WC.a (WL.pu rfl (WL.pu rfl (WL.nil (WX.a (WC.b ?_)))))))
 obtain ⟨zdk,zdl,h⟩:=zh h
 obtain ⟨zdm,h⟩:=y9 h
 refine WC.y1a (fun i=>[].contains i) [] rfl ?_
 refine WD.a (i:=0) (d:=5) (by kernel_rfl) rfl z1 z2 rfl rfl rfl (fun _=>q_m rfl) ?_
 refine WD.a (i:=1) (d:=6) (by kernel_rfl) rfl z1 z2 rfl rfl rfl (fun _=>y7 rfl) ?_
 refine WD.a (i:=2) (d:=7) (by kernel_rfl) rfl z1 z2 rfl rfl rfl (fun _=>y4 yH rfl rfl) ?_
 refine WD.a (i:=3) (d:=8) (by kernel_rfl) rfl z1 z2 rfl rfl rfl (fun _=>y4 y1x rfl rfl) ?_
 refine WD.e (i:=4) (d:=9) (by kernel_rfl) rfl z1 z2 rfl rfl rfl (y6 yf rfl (yc .h1 rfl)) ?_
 refine WD.a (i:=5) (d:=10) (by kernel_rfl) rfl z1 z2 rfl rfl rfl (fun _=>q_m rfl) ?_
 refine WD.a (i:=6) (d:=11) (by kernel_rfl) rfl z1 z2 rfl rfl rfl (fun _=>q_m rfl) ?_
 refine WD.a (i:=7) (d:=12) (by kernel_rfl) rfl z1 z2 rfl rfl rfl (fun _=>y7 rfl) ?_
 refine WD.a (i:=8) (d:=13) (by kernel_rfl) rfl z1 z2 rfl rfl rfl (fun _=>y4 yH rfl rfl) ?_
 refine WD.a (i:=9) (d:=14) (by kernel_rfl) rfl z1 z2 rfl rfl rfl (fun _=>y4 y3O rfl rfl) ?_
 refine WD.e (i:=10) (d:=15) (by kernel_rfl) rfl z1 z2 rfl rfl rfl (y6 yf rfl (yc .h1 rfl)) ?_
 refine WD.c (i:=11) (d:=16) (by kernel_rfl) rfl z1 z2 rfl rfl rfl (zI (l:=[.tmp 10,.tmp 15]) Tryd.call108 (.cons rfl (.cons rfl .nil))) (y27 hz .nil .here (.cons .h1 .nil) fun w pz ho la=>yh _ _ _ _ _ _ _ _ _ zdl w pz ((z88.mono (Zle.left _ _)).mono (Zle.left _ _)) ((z89.mono (Zle.left _ _)).mono (Zle.left _ _)) ((la _ (.head _) _).stb)) ?_
 refine WD.a (i:=12) (d:=17) (by kernel_rfl) rfl z1 z2 rfl rfl rfl (fun _=>y7 rfl) ?_
 refine WD.e (i:=13) (d:=18) (by kernel_rfl) rfl z1 z2 rfl rfl rfl (y6 yN rfl (y1r (l:=([zk.fState.fRegs.a0,zk.fState.fRegs.a1,zk.fState.fRegs.a2,zk.fState.fRegs.a3] : List Int)) (f:=Value.int .u8) (k:=2) (m:=6) .h1 rfl rfl zdm)) ?_
 refine WD.a (i:=14) (d:=19) (by kernel_rfl) rfl z1 z2 rfl rfl rfl (fun _=>y4A Tryd.underlying5 Tryd.underlying3 rfl rfl) ?_
 refine WD.a (i:=15) (d:=20) (by kernel_rfl) rfl z1 z2 rfl rfl rfl (fun _=>q_add rfl rfl rfl) ?_
 refine WD.a (i:=16) (d:=4) (by kernel_rfl) rfl z1 z2 rfl rfl rfl (fun _=>q_z rfl) ?_
 refine WD.done (by kernel_rfl) ?_
 refine WX.a (WC.b (WC.b (WC.a (WL.pu rfl (WL.pu rfl ?_)))))
 refine WL.a (d:=23) rfl rfl rfl (y7 rfl) ?_
 refine WL.a (d:=24) rfl rfl rfl (y4 y6e rfl rfl) ?_
 refine WL.a (d:=25) rfl rfl rfl (y6 y4T rfl (yc .h1 rfl)) ?_
 refine WL.a (d:=26) rfl rfl rfl (y1i Tryd.underlying35 rfl) ?_
 refine WL.pu rfl (WL.nil (WX.a ?_))
 refine WC.cond rfl (fun z8a=>?_) (fun z8a=>?_)
 ·replace h:=ym h z8a
  refine WC.b ?_
  obtain ⟨z87,zdn,h⟩:=zh h
  refine WC.a (WL.pu rfl ?_)
  refine WL.yj (dd:=29) rfl rfl rfl (zI (l:=[.tmp 28,.const (.int .u8 2),.const (.int .i64 0)]) Tryd.call112 (.cons rfl (.cons rfl (.cons rfl .nil)))) (.cons .h1 .nil) (ccz hz (.cons .h1 .nil) .here fun w pz ho=>y1S _ _ _ _ _ _ _ _ _ _ zdn w pz (z88.mono (Zle.left _ _)) (z89.mono (Zle.left _ _)) ho) ?_
  rintro zdo zdp zdq zdr zds
  refine WL.nil (WX.a (WC.b (WC.a (WL.pu rfl (WL.pu rfl (WL.nil (WX.a (WC.ret (WX.ya ?_)))))))))
  refine WX.freezeS (ls:=z87.fAct.fData) .h1 .h1 hz (RR.yP (enc:=e5) (fun _=>rfl) _) ?_
  intro zdt zdu zdv
  obtain rfl:=Option.some.inj h
  refine WX.ye Tryd.results109 (.tmp rfl (.tmp rfl .nil)) (fun w hw=>?_)
  exact ⟨zdt,zdo,zdp,zdq,zdr,ret2 rfl rfl,⟨(zds.mono zdu),zdv⟩,hw.sub (.cons .here (.cons .here .nil))⟩
 ·replace h:=yn h z8a
  refine WC.skip (WX.a (WC.b (WC.a (WL.pu rfl (WL.pu rfl (WL.pu rfl (WL.nil (WX.a (WC.ret ?_)))))))))
  obtain rfl:=Option.some.inj h
  refine WX.ye Tryd.results109 (.tmp rfl (.tmp rfl .nil)) (fun w hw=>?_)
  exact ⟨[],z4U,z4V,z4W,z4X,ret2 rfl rfl,⟨(z88.mono (Zle.left _ _)),(z89.mono (Zle.left _ _))⟩,hw.sub (.cons .here (.cons .here .nil))⟩
def y1T (zw : Sproc_execution) : Option Sproc_execution :=
 (y1j zw).bind fun zt=>if zt.2.1 then (yb zt.2.2 zt.2.2.fX.fA).bind fun zdw=>chk ((0 : Int) ≤ zt.1 ∧ zt.1 < ((zt.2.2.fMem.length : Nat) : Int)) (chk ((0 : Int) ≤ zt.2.2.fX.fA ∧ zt.2.2.fX.fA < 4) (some (⟨(⟨zt.2.2.fState.fPc,zt.2.2.fState.fLeft,(⟨nth (([zt.2.2.fState.fRegs.a0,zt.2.2.fState.fRegs.a1,zt.2.2.fState.fRegs.a2,zt.2.2.fState.fRegs.a3] : List Int).set (zt.2.2.fX.fA : Int).toNat (nth zt.2.2.fMem zt.1)) 0,nth (([zt.2.2.fState.fRegs.a0,zt.2.2.fState.fRegs.a1,zt.2.2.fState.fRegs.a2,zt.2.2.fState.fRegs.a3] : List Int).set (zt.2.2.fX.fA : Int).toNat (nth zt.2.2.fMem zt.1)) 1,nth (([zt.2.2.fState.fRegs.a0,zt.2.2.fState.fRegs.a1,zt.2.2.fState.fRegs.a2,zt.2.2.fState.fRegs.a3] : List Int).set (zt.2.2.fX.fA : Int).toNat (nth zt.2.2.fMem zt.1)) 2,nth (([zt.2.2.fState.fRegs.a0,zt.2.2.fState.fRegs.a1,zt.2.2.fState.fRegs.a2,zt.2.2.fState.fRegs.a3] : List Int).set (zt.2.2.fX.fA : Int).toNat (nth zt.2.2.fMem zt.1)) 3⟩ : S34)⟩ : Sproc_State),zt.2.2.fX,zt.2.2.fMem,zt.2.2.fAct⟩ : Sproc_execution))) else some zt.2.2
set_option maxRecDepth 20000 in
theorem y3S (Z : Zp) (z3h : Nat) (z5l : Option Addr) (z5m : Nat) (z5n : Option Addr) (z5o : Nat) (zw : Sproc_execution) (r : Sproc_execution)
  (h : y1T zw = some r) (w₀ : World) (hz : PZ (fps [stb z3h 65 [(.int .i64 zw.fState.fPc),(.int .i64 zw.fState.fLeft),(.int .u8 zw.fState.fRegs.a0),(.int .u8 zw.fState.fRegs.a1),(.int .u8 zw.fState.fRegs.a2),(.int .u8 zw.fState.fRegs.a3),(.int .u8 zw.fX.fOp),(.int .i64 zw.fX.fA),(.int .i64 zw.fX.fB),(.int .i64 zw.fX.fC),(.slice z5l zw.fMem.length z5m),(.int .u8 zw.fAct.fKind),(.int .i64 zw.fAct.fA),(.int .i64 zw.fAct.fB),(.slice z5n zw.fAct.fData.length z5o)]]) w₀ Z)
  (zdx : ZS Z 1 (fun r x=>r = e5 x) z5l z5m zw.fMem)
  (zdy : ZS Z 1 (fun r x=>r = e5 x) z5n z5o zw.fAct.fData)
  (hown : Hp (fps [stb z3h 65 [(.int .i64 zw.fState.fPc),(.int .i64 zw.fState.fLeft),(.int .u8 zw.fState.fRegs.a0),(.int .u8 zw.fState.fRegs.a1),(.int .u8 zw.fState.fRegs.a2),(.int .u8 zw.fState.fRegs.a3),(.int .u8 zw.fX.fOp),(.int .i64 zw.fX.fA),(.int .i64 zw.fX.fB),(.int .i64 zw.fX.fC),(.slice z5l zw.fMem.length z5m),(.int .u8 zw.fAct.fKind),(.int .i64 zw.fAct.fA),(.int .i64 zw.fAct.fB),(.slice z5n zw.fAct.fData.length z5o)]]) w₀ w₀ [stb z3h 65 [(.int .i64 zw.fState.fPc),(.int .i64 zw.fState.fLeft),(.int .u8 zw.fState.fRegs.a0),(.int .u8 zw.fState.fRegs.a1),(.int .u8 zw.fState.fRegs.a2),(.int .u8 zw.fState.fRegs.a3),(.int .u8 zw.fX.fOp),(.int .i64 zw.fX.fA),(.int .i64 zw.fX.fB),(.int .i64 zw.fX.fC),(.slice z5l zw.fMem.length z5m),(.int .u8 zw.fAct.fKind),(.int .i64 zw.fAct.fA),(.int .i64 zw.fAct.fB),(.slice z5n zw.fAct.fData.length z5o)]]) :
  Calls Tryd.prog 87 #[(.pointer (some ⟨z3h,0,none⟩))] w₀ fun e w'=>∃ Zn : Zp,∃ zab : Option Addr,∃ zac : Nat,∃ zad : Option Addr,∃ zae : Nat,e = .returned (.tuple #[]) ∧ ((ZS (Z ++ Zn) 1 (fun r x=>r = e5 x) zab zac r.fMem) ∧ (ZS (Z ++ Zn) 1 (fun r x=>r = e5 x) zad zae r.fAct.fData)) ∧ Hp (fps [stb z3h 65 [(.int .i64 zw.fState.fPc),(.int .i64 zw.fState.fLeft),(.int .u8 zw.fState.fRegs.a0),(.int .u8 zw.fState.fRegs.a1),(.int .u8 zw.fState.fRegs.a2),(.int .u8 zw.fState.fRegs.a3),(.int .u8 zw.fX.fOp),(.int .i64 zw.fX.fA),(.int .i64 zw.fX.fB),(.int .i64 zw.fX.fC),(.slice z5l zw.fMem.length z5m),(.int .u8 zw.fAct.fKind),(.int .i64 zw.fAct.fA),(.int .i64 zw.fAct.fB),(.slice z5n zw.fAct.fData.length z5o)]]) w₀ w' [fz Zn,stb z3h 65 [(.int .i64 r.fState.fPc),(.int .i64 r.fState.fLeft),(.int .u8 r.fState.fRegs.a0),(.int .u8 r.fState.fRegs.a1),(.int .u8 r.fState.fRegs.a2),(.int .u8 r.fState.fRegs.a3),(.int .u8 r.fX.fOp),(.int .i64 r.fX.fA),(.int .i64 r.fX.fB),(.int .i64 r.fX.fC),(.slice zab r.fMem.length zac),(.int .u8 r.fAct.fKind),(.int .i64 r.fAct.fA),(.int .i64 r.fAct.fB),(.slice zad r.fAct.fData.length zae)]]:=by
 unfold y1T at h
 refine Calls.y8 (vs:=[(.pointer (some ⟨z3h,0,none⟩))]) (pre:=[stb z3h 65 [(.int .i64 zw.fState.fPc),(.int .i64 zw.fState.fLeft),(.int .u8 zw.fState.fRegs.a0),(.int .u8 zw.fState.fRegs.a1),(.int .u8 zw.fState.fRegs.a2),(.int .u8 zw.fState.fRegs.a3),(.int .u8 zw.fX.fOp),(.int .i64 zw.fX.fA),(.int .i64 zw.fX.fB),(.int .i64 zw.fX.fC),(.slice z5l zw.fMem.length z5m),(.int .u8 zw.fAct.fKind),(.int .i64 zw.fAct.fA),(.int .i64 zw.fAct.fB),(.slice z5n zw.fAct.fData.length z5o)]]) (env:=[(0,(.pointer (some ⟨z3h,0,none⟩)))]) Tryd.func87 rfl Tryd.ntmps87 rfl (hown) rfl ?_
 refine WC.pool (WC.b ?_)
 obtain ⟨zt,zdz,h⟩:=zh h
 refine WC.a (WL.pu rfl ?_)
 refine WL.y26 (dd:=6) rfl rfl rfl (zI (l:=[.tmp 5]) Tryd.call109 (.cons rfl .nil)) (.cons .h1 .nil) (ccz hz (.cons .h1 .nil) .here fun w pz ho=>y2D _ _ _ _ _ _ _ _ zdz w pz (zdx.mono (Zle.left _ _)) (zdy.mono (Zle.left _ _)) ho) ?_
 rintro z8b z8c z8d z8e z8f ⟨z7g,z8g⟩
 refine WL.merge .here .h1 ?_
 refine WL.pu rfl (WL.pu rfl (WL.pu rfl (WL.pu rfl (WL.pu rfl (WL.nil (WX.a (WC.b (WC.a (WL.pu rfl (WL.nil (WX.a ?_)))))))))))
 refine WC.cond rfl (fun z8h=>?_) (fun z8h=>?_)
 ·replace h:=ym h z8h
  obtain ⟨zdw,zdA,h⟩:=zh h
  obtain ⟨zdB,h⟩:=y9 h
  obtain ⟨zdC,h⟩:=y9 h
  refine WC.y1a (fun i=>[15].contains i) [] rfl ?_
  refine WD.a (i:=0) (d:=10) (by kernel_rfl) rfl z1 z2 rfl rfl rfl (fun _=>q_m rfl) ?_
  refine WD.a (i:=1) (d:=11) (by kernel_rfl) rfl z1 z2 rfl rfl rfl (fun _=>q_m rfl) ?_
  refine WD.a (i:=2) (d:=12) (by kernel_rfl) rfl z1 z2 rfl rfl rfl (fun _=>y7 rfl) ?_
  refine WD.a (i:=3) (d:=13) (by kernel_rfl) rfl z1 z2 rfl rfl rfl (fun _=>y4 yH rfl rfl) ?_
  refine WD.a (i:=4) (d:=14) (by kernel_rfl) rfl z1 z2 rfl rfl rfl (fun _=>y4 y1b rfl rfl) ?_
  refine WD.e (i:=5) (d:=15) (by kernel_rfl) rfl z1 z2 rfl rfl rfl (y6 yf rfl (yc .h1 rfl)) ?_
  refine WD.c (i:=6) (d:=16) (by kernel_rfl) rfl z1 z2 rfl rfl rfl (zI (l:=[.tmp 10,.tmp 15]) Tryd.call108 (.cons rfl (.cons rfl .nil))) (y27 hz .nil .here (.cons .h1 .nil) fun w pz ho la=>yh _ _ _ _ _ _ _ _ _ zdA w pz ((z7g.mono (Zle.y5 _ _ _)).mono (Zle.left _ _)) ((z8g.mono (Zle.y5 _ _ _)).mono (Zle.left _ _)) ((la _ (.head _) _).stb)) ?_
  refine WD.a (i:=7) (d:=17) (by kernel_rfl) rfl z1 z2 rfl rfl rfl (fun _=>q_m rfl) ?_
  refine WD.a (i:=8) (d:=18) (by kernel_rfl) rfl z1 z2 rfl rfl rfl (fun _=>y7 rfl) ?_
  refine WD.a (i:=9) (d:=19) (by kernel_rfl) rfl z1 z2 rfl rfl rfl (fun _=>y4 y6e rfl rfl) ?_
  refine WD.e (i:=10) (d:=20) (by kernel_rfl) rfl z1 z2 rfl rfl rfl (y6 y4T rfl (yc .h1 rfl)) ?_
  refine WD.a (i:=11) (d:=21) (by kernel_rfl) rfl z1 z2 rfl rfl rfl (fun _=>q_m rfl) ?_
  refine WD.znth (j:=12) (dd:=22) (by kernel_rfl) rfl z1 z2 rfl rfl (Z:=(Z ++ ([] ++ z8b))) (Pr:=(fun r x=>r = e5 x)) y2g rfl rfl (z7g.mono (Zle.y5 _ _ _)) zdB ?_
  rintro zmf zmg zdD zmh rfl
  refine WD.e (i:=13) (d:=23) (by kernel_rfl) rfl z1 z2 rfl rfl rfl (y6 yN rfl (y2F (hz.pv2 .here) zdD rfl)) ?_
  refine WD.a (i:=14) (d:=24) (by kernel_rfl) rfl z1 z2 rfl rfl rfl (fun _=>y7 rfl) ?_
  refine WD.y2p (i:=15) rfl (by kernel_rfl) rfl rfl rfl (by kernel_rfl) (y2U (l:=([zt.2.2.fState.fRegs.a0,zt.2.2.fState.fRegs.a1,zt.2.2.fState.fRegs.a2,zt.2.2.fState.fRegs.a3] : List Int)) (f:=Value.int .u8) (u:=(nth zt.2.2.fMem zt.1)) (k:=2) (m:=6) (j:=4) (ds:=[(.int .i64 zt.2.2.fState.fPc),(.int .i64 zt.2.2.fState.fLeft),(.int .u8 (nth (([zt.2.2.fState.fRegs.a0,zt.2.2.fState.fRegs.a1,zt.2.2.fState.fRegs.a2,zt.2.2.fState.fRegs.a3] : List Int).set (zt.2.2.fX.fA : Int).toNat (nth zt.2.2.fMem zt.1)) 0)),(.int .u8 (nth (([zt.2.2.fState.fRegs.a0,zt.2.2.fState.fRegs.a1,zt.2.2.fState.fRegs.a2,zt.2.2.fState.fRegs.a3] : List Int).set (zt.2.2.fX.fA : Int).toNat (nth zt.2.2.fMem zt.1)) 1)),(.int .u8 (nth (([zt.2.2.fState.fRegs.a0,zt.2.2.fState.fRegs.a1,zt.2.2.fState.fRegs.a2,zt.2.2.fState.fRegs.a3] : List Int).set (zt.2.2.fX.fA : Int).toNat (nth zt.2.2.fMem zt.1)) 2)),(.int .u8 (nth (([zt.2.2.fState.fRegs.a0,zt.2.2.fState.fRegs.a1,zt.2.2.fState.fRegs.a2,zt.2.2.fState.fRegs.a3] : List Int).set (zt.2.2.fX.fA : Int).toNat (nth zt.2.2.fMem zt.1)) 3)),(.int .u8 zt.2.2.fX.fOp),(.int .i64 zt.2.2.fX.fA),(.int .i64 zt.2.2.fX.fB),(.int .i64 zt.2.2.fX.fC),(.slice z8c zt.2.2.fMem.length z8d),(.int .u8 zt.2.2.fAct.fKind),(.int .i64 zt.2.2.fAct.fA),(.int .i64 zt.2.2.fAct.fB),(.slice z8e zt.2.2.fAct.fData.length z8f)]) y3Q rfl rfl rfl rfl .h1 rfl rfl zdC rfl rfl) ?_
  refine WD.done (by kernel_rfl) ?_
  obtain rfl:=Option.some.inj h
  refine WX.yd Tryd.results87 .nil (fun w hw=>?_)
  exact ⟨([] ++ z8b),z8c,z8d,z8e,z8f,y12,⟨(z7g.mono (Zle.y5 _ _ _)),(z8g.mono (Zle.y5 _ _ _))⟩,hw.sub (.cons .h1 (.cons .here .nil))⟩
 ·replace h:=yn h z8h
  refine WC.skip ?_
  obtain rfl:=Option.some.inj h
  refine WX.yd Tryd.results87 .nil (fun w hw=>?_)
  exact ⟨([] ++ z8b),z8c,z8d,z8e,z8f,y12,⟨(z7g.mono (Zle.y5 _ _ _)),(z8g.mono (Zle.y5 _ _ _))⟩,hw.sub (.cons .here (.cons .here .nil))⟩
def y1G (zx : Sproc_execution) : Option Sproc_execution :=
 (y1j zx).bind fun zP=>if zP.2.1 then (yb zP.2.2 zP.2.2.fX.fA).bind fun zdE=>chk ((0 : Int) ≤ zP.2.2.fX.fA ∧ zP.2.2.fX.fA < 4) (some (⟨zP.2.2.fState,zP.2.2.fX,zP.2.2.fMem,(⟨1,zP.1,i64 (nth ([zP.2.2.fState.fRegs.a0,zP.2.2.fState.fRegs.a1,zP.2.2.fState.fRegs.a2,zP.2.2.fState.fRegs.a3] : List Int) zP.2.2.fX.fA),[]⟩ : Sproc_Act)⟩ : Sproc_execution)) else some zP.2.2
set_option maxRecDepth 20000 in
theorem y3D (Z : Zp) (z3i : Nat) (z5p : Option Addr) (z5q : Nat) (z5r : Option Addr) (z5s : Nat) (zx : Sproc_execution) (r : Sproc_execution)
  (h : y1G zx = some r) (w₀ : World) (hz : PZ (fps [stb z3i 65 [(.int .i64 zx.fState.fPc),(.int .i64 zx.fState.fLeft),(.int .u8 zx.fState.fRegs.a0),(.int .u8 zx.fState.fRegs.a1),(.int .u8 zx.fState.fRegs.a2),(.int .u8 zx.fState.fRegs.a3),(.int .u8 zx.fX.fOp),(.int .i64 zx.fX.fA),(.int .i64 zx.fX.fB),(.int .i64 zx.fX.fC),(.slice z5p zx.fMem.length z5q),(.int .u8 zx.fAct.fKind),(.int .i64 zx.fAct.fA),(.int .i64 zx.fAct.fB),(.slice z5r zx.fAct.fData.length z5s)]]) w₀ Z)
  (zdF : ZS Z 1 (fun r x=>r = e5 x) z5p z5q zx.fMem)
  (zdG : ZS Z 1 (fun r x=>r = e5 x) z5r z5s zx.fAct.fData)
  (hown : Hp (fps [stb z3i 65 [(.int .i64 zx.fState.fPc),(.int .i64 zx.fState.fLeft),(.int .u8 zx.fState.fRegs.a0),(.int .u8 zx.fState.fRegs.a1),(.int .u8 zx.fState.fRegs.a2),(.int .u8 zx.fState.fRegs.a3),(.int .u8 zx.fX.fOp),(.int .i64 zx.fX.fA),(.int .i64 zx.fX.fB),(.int .i64 zx.fX.fC),(.slice z5p zx.fMem.length z5q),(.int .u8 zx.fAct.fKind),(.int .i64 zx.fAct.fA),(.int .i64 zx.fAct.fB),(.slice z5r zx.fAct.fData.length z5s)]]) w₀ w₀ [stb z3i 65 [(.int .i64 zx.fState.fPc),(.int .i64 zx.fState.fLeft),(.int .u8 zx.fState.fRegs.a0),(.int .u8 zx.fState.fRegs.a1),(.int .u8 zx.fState.fRegs.a2),(.int .u8 zx.fState.fRegs.a3),(.int .u8 zx.fX.fOp),(.int .i64 zx.fX.fA),(.int .i64 zx.fX.fB),(.int .i64 zx.fX.fC),(.slice z5p zx.fMem.length z5q),(.int .u8 zx.fAct.fKind),(.int .i64 zx.fAct.fA),(.int .i64 zx.fAct.fB),(.slice z5r zx.fAct.fData.length z5s)]]) :
  Calls Tryd.prog 88 #[(.pointer (some ⟨z3i,0,none⟩))] w₀ fun e w'=>∃ Zn : Zp,∃ zaf : Option Addr,∃ zag : Nat,∃ zah : Option Addr,∃ zai : Nat,e = .returned (.tuple #[]) ∧ ((ZS (Z ++ Zn) 1 (fun r x=>r = e5 x) zaf zag r.fMem) ∧ (ZS (Z ++ Zn) 1 (fun r x=>r = e5 x) zah zai r.fAct.fData)) ∧ Hp (fps [stb z3i 65 [(.int .i64 zx.fState.fPc),(.int .i64 zx.fState.fLeft),(.int .u8 zx.fState.fRegs.a0),(.int .u8 zx.fState.fRegs.a1),(.int .u8 zx.fState.fRegs.a2),(.int .u8 zx.fState.fRegs.a3),(.int .u8 zx.fX.fOp),(.int .i64 zx.fX.fA),(.int .i64 zx.fX.fB),(.int .i64 zx.fX.fC),(.slice z5p zx.fMem.length z5q),(.int .u8 zx.fAct.fKind),(.int .i64 zx.fAct.fA),(.int .i64 zx.fAct.fB),(.slice z5r zx.fAct.fData.length z5s)]]) w₀ w' [fz Zn,stb z3i 65 [(.int .i64 r.fState.fPc),(.int .i64 r.fState.fLeft),(.int .u8 r.fState.fRegs.a0),(.int .u8 r.fState.fRegs.a1),(.int .u8 r.fState.fRegs.a2),(.int .u8 r.fState.fRegs.a3),(.int .u8 r.fX.fOp),(.int .i64 r.fX.fA),(.int .i64 r.fX.fB),(.int .i64 r.fX.fC),(.slice zaf r.fMem.length zag),(.int .u8 r.fAct.fKind),(.int .i64 r.fAct.fA),(.int .i64 r.fAct.fB),(.slice zah r.fAct.fData.length zai)]]:=by
 unfold y1G at h
 refine Calls.y8 (vs:=[(.pointer (some ⟨z3i,0,none⟩))]) (pre:=[stb z3i 65 [(.int .i64 zx.fState.fPc),(.int .i64 zx.fState.fLeft),(.int .u8 zx.fState.fRegs.a0),(.int .u8 zx.fState.fRegs.a1),(.int .u8 zx.fState.fRegs.a2),(.int .u8 zx.fState.fRegs.a3),(.int .u8 zx.fX.fOp),(.int .i64 zx.fX.fA),(.int .i64 zx.fX.fB),(.int .i64 zx.fX.fC),(.slice z5p zx.fMem.length z5q),(.int .u8 zx.fAct.fKind),(.int .i64 zx.fAct.fA),(.int .i64 zx.fAct.fB),(.slice z5r zx.fAct.fData.length z5s)]]) (env:=[(0,(.pointer (some ⟨z3i,0,none⟩)))]) Tryd.func88 rfl Tryd.ntmps88 rfl (hown) rfl ?_
 refine WC.pool (WC.b ?_)
 obtain ⟨zP,zdH,h⟩:=zh h
 refine WC.a (WL.pu rfl ?_)
 refine WL.y26 (dd:=6) rfl rfl rfl (zI (l:=[.tmp 5]) Tryd.call109 (.cons rfl .nil)) (.cons .h1 .nil) (ccz hz (.cons .h1 .nil) .here fun w pz ho=>y2D _ _ _ _ _ _ _ _ zdH w pz (zdF.mono (Zle.left _ _)) (zdG.mono (Zle.left _ _)) ho) ?_
 rintro zaj z8i z8j zdI zdJ ⟨z8k,zak⟩
 refine WL.merge .here .h1 ?_
 refine WL.pu rfl (WL.pu rfl (WL.pu rfl (WL.pu rfl (WL.pu rfl (WL.nil (WX.a (WC.b (WC.a (WL.pu rfl (WL.nil (WX.a ?_)))))))))))
 refine WC.cond rfl (fun z8l=>?_) (fun z8l=>?_)
 ·replace h:=ym h z8l
  obtain ⟨zdE,zdK,h⟩:=zh h
  obtain ⟨zdL,h⟩:=y9 h
  refine WC.a (WL.pu rfl (WL.pu rfl (WL.pu rfl (WL.pu rfl ?_))))
  refine WL.a (d:=14) rfl rfl rfl (y7 rfl) ?_
  refine WL.a (d:=15) rfl rfl rfl (y4 yH rfl rfl) ?_
  refine WL.a (d:=16) rfl rfl rfl (y4 y1b rfl rfl) ?_
  refine WL.a (d:=17) rfl rfl rfl (y6 yf rfl (yc .h1 rfl)) ?_
  refine WL.b (dd:=18) rfl rfl rfl (zI (l:=[.tmp 12,.tmp 17]) Tryd.call108 (.cons rfl (.cons rfl .nil))) .nil (y27 hz .nil .here (.cons .h1 .nil) fun w pz ho la=>yh _ _ _ _ _ _ _ _ _ zdK w pz ((z8k.mono (Zle.y5 _ _ _)).mono (Zle.left _ _)) ((zak.mono (Zle.y5 _ _ _)).mono (Zle.left _ _)) ((la _ (.head _) _).stb)) ?_
  refine WL.a (d:=19) rfl rfl rfl (y7 rfl) ?_
  refine WL.a (d:=20) rfl rfl rfl (y6 yN rfl (y1r (l:=([zP.2.2.fState.fRegs.a0,zP.2.2.fState.fRegs.a1,zP.2.2.fState.fRegs.a2,zP.2.2.fState.fRegs.a3] : List Int)) (f:=Value.int .u8) (k:=2) (m:=6) .h1 rfl rfl zdL)) ?_
  refine WL.a (d:=21) rfl rfl rfl (y4A Tryd.underlying5 Tryd.underlying3 rfl rfl) ?_
  refine WL.a (d:=22) rfl rfl rfl (yZ (v:=(.agg #[(.int .u8 1),(.int .i64 zP.1),(.int .i64 (i64 (nth ([zP.2.2.fState.fRegs.a0,zP.2.2.fState.fRegs.a1,zP.2.2.fState.fRegs.a2,zP.2.2.fState.fRegs.a3] : List Int) zP.2.2.fX.fA))),(.slice none 0 0)])) (Eos.parts (l:=[.const (.int .u8 1),.tmp 11,.tmp 21]) (.cons rfl (.cons rfl (.cons rfl .nil))) [0,1,2]) (fun _=>by kernel_rfl)) ?_
  refine WL.a (d:=23) rfl rfl rfl (y7 rfl) ?_
  refine WL.a (d:=24) rfl rfl rfl (y4 y3e rfl rfl) ?_
  refine WL.yo rfl rfl (y1g (ds:=[(.int .i64 zP.2.2.fState.fPc),(.int .i64 zP.2.2.fState.fLeft),(.int .u8 zP.2.2.fState.fRegs.a0),(.int .u8 zP.2.2.fState.fRegs.a1),(.int .u8 zP.2.2.fState.fRegs.a2),(.int .u8 zP.2.2.fState.fRegs.a3),(.int .u8 zP.2.2.fX.fOp),(.int .i64 zP.2.2.fX.fA),(.int .i64 zP.2.2.fX.fB),(.int .i64 zP.2.2.fX.fC),(.slice z8i zP.2.2.fMem.length z8j),(.int .u8 1),(.int .i64 zP.1),(.int .i64 (i64 (nth ([zP.2.2.fState.fRegs.a0,zP.2.2.fState.fRegs.a1,zP.2.2.fState.fRegs.a2,zP.2.2.fState.fRegs.a3] : List Int) zP.2.2.fX.fA))),(.slice none 0 0)]) y1y rfl rfl rfl rfl rfl .h1 rfl rfl) ?_
  refine WL.nil ?_
  obtain rfl:=Option.some.inj h
  refine WX.yd Tryd.results88 .nil (fun w hw=>?_)
  exact ⟨([] ++ zaj),z8i,z8j,none,0,y12,⟨(z8k.mono (Zle.y5 _ _ _)),(ZS.nil _ _ _)⟩,hw.sub (.cons .h1 (.cons .here .nil))⟩
 ·replace h:=yn h z8l
  refine WC.skip ?_
  obtain rfl:=Option.some.inj h
  refine WX.yd Tryd.results88 .nil (fun w hw=>?_)
  exact ⟨([] ++ zaj),z8i,z8j,zdI,zdJ,y12,⟨(z8k.mono (Zle.y5 _ _ _)),(zak.mono (Zle.y5 _ _ _))⟩,hw.sub (.cons .here (.cons .here .nil))⟩
def y1E (z1n : Int) (z1N : Int) (z3j : (List Int) → Option (List Int)) : Nat → (List Int) → Int → Option (List Int)
 | 0,_,_=>none
 | z8m + 1,z1O,z1r=>if decide (z1r < (((List.replicate (z1n : Int).toNat (0 : Int)).length : Nat) : Int)) then chk ((0 : Int) ≤ z1r ∧ z1r < ((z1O.length : Nat) : Int)) (y1E z1n z1N z3j z8m (z1O.set (z1r : Int).toNat (u8 (z1N + (u8 z1r)))) (i64 (z1r + 1))) else z3j z1O
theorem y4j {n : Nat} {z1n : Int} {z1N : Int} {z3j : (List Int) → Option (List Int)} {z1O : List Int} {z1r : Int} {r : List Int} (h : y1E z1n z1N z3j n z1O z1r = some r) : ∃ m,n = m + 1:=by
 cases n with
 | zero=>cases h
 | succ m=>exact ⟨m,rfl⟩
def y3n (z1N : Int) (z1n : Int) : Option (List Int) :=
 chk ((0 : Int) ≤ z1n ∧ (z1n : Int) ≤ z1n ∧ (z1n : Int) * 1 ≤ 140737488355328 ∧ (z1n : Int) ≤ 4611686018427387904) (jp1 (fun (z2V : List Int)=>some z2V) fun z3j=>y1E z1n z1N z3j y1k (List.replicate (z1n : Int).toNat (0 : Int)) 0)
set_option maxRecDepth 20000 in
theorem y5Y (Z : Zp)  (z1N : Int) (z1n : Int) (r : List Int)
  (h : y3n z1N z1n = some r) (w₀ : World) (hz : PZ [] w₀ Z) :
  Calls Tryd.prog 111 #[(.int .u8 z1N),(.int .i64 z1n)] w₀ fun e w'=>∃ zal : Option Addr,∃ zam : Nat,e = .returned (.slice zal r.length zam) ∧ True ∧ Hp [] w₀ w' [row (.slice zal r.length zam) 5 1 (r.flatMap e5)]:=by
 unfold y3n at h
 refine Calls.y8 (vs:=[(.int .u8 z1N),(.int .i64 z1n)]) (pre:=[]) (env:=[(0,(.int .u8 z1N)),(1,(.int .i64 z1n))]) Tryd.func111 rfl Tryd.ntmps111 rfl (Hp.nil w₀ _) rfl ?_
 refine WC.b (WC.a (WL.pu rfl (WL.nil (WX.a (WC.b ?_)))))
 obtain ⟨zdM,h⟩:=y9 h
 refine WC.a (WL.pu rfl ?_)
 refine WL.new (dd:=8) rfl rfl rfl (y33 (r:=[(.int .u8 0)]) (z0:=(0 : Int)) y2g y4S rfl rfl rfl rfl zdM) ?_
 intro z4Y _
 refine WL.rowEqD .here (cs':=(List.replicate (z1n : Int).toNat (0 : Int)).flatMap e5) (y4c (enc:=e5) (0 : Int) _) ?_
 refine WL.pu rfl (WL.nil (WX.a ?_))
 obtain ⟨z3j,zdN,h⟩:=y2G h
 refine WC.y2y (fun (z2V : List Int)=>(z3j z2V = some r)) (fun (z2V : List Int)=>[(5,(.slice (some ⟨z4Y,0,none⟩) z2V.length ((z1n : Int).toNat)))]) (fun (z2V : List Int)=>[row (.slice (some ⟨z4Y,0,none⟩) z2V.length ((z1n : Int).toNat)) 5 1 (z2V.flatMap e5)]) ?_ ?_
 ·skip
  refine WC.b (WC.a (WL.pu rfl ?_))
  refine WL.a (d:=10) rfl rfl rfl (y1i Tryd.underlying35 rfl) ?_
  refine WL.pu rfl (WL.nil (WX.a (WC.block ?_)))
  refine WC.y5L (fun (z5t : Nat) (z1O : List Int) (z1r : Int)=>(y1E z1n z1N z3j z5t z1O z1r = some r)) (fun (z5t : Nat) (z1O : List Int) (z1r : Int)=>[(0,(.int .u8 z1N)),(5,(.slice (some ⟨z4Y,0,none⟩) z1O.length ((z1n : Int).toNat))),(10,(.int .i64 (((List.replicate (z1n : Int).toNat (0 : Int)).length : Nat) : Int))),(11,(.int .i64 z1r))]) (fun (z5t : Nat) (z1O : List Int) (z1r : Int)=>[row (.slice (some ⟨z4Y,0,none⟩) z1O.length ((z1n : Int).toNat)) 5 1 (z1O.flatMap e5)]) (fun (z5t : Nat) (z1O : List Int) (z1r : Int)=>z5t) ⟨y1k,(List.replicate (z1n : Int).toNat (0 : Int)),0⟩ h (.cons rfl (.cons rfl (.cons rfl (.cons rfl .nil)))) (.cons .here .nil) ?_
  rintro z5t z1O z1r h
  obtain ⟨z8m,rfl⟩:=y4j h
  rw [y1E] at h
  refine WC.b (WC.a (WL.pu rfl (WL.nil (WX.a (WC.b ?_)))))
  refine WC.cond rfl (fun z8n=>?_) (fun z8n=>?_)
  ·replace h:=ym h z8n
   refine WC.skip (WX.a (WC.b (WC.block (WC.b (WC.a (WL.pu rfl (WL.pu rfl (WL.nil (WX.a ?_)))))))))
   obtain ⟨z5u,h⟩:=y9 h
   refine WC.a (WL.pu rfl (WL.pu rfl (WL.pu rfl (WL.pu rfl ?_))))
   refine WL.a (d:=18) rfl rfl rfl (y4A Tryd.underlying3 Tryd.underlying5 rfl rfl) ?_
   refine WL.pu rfl ?_
   refine WL.a (d:=20) rfl rfl rfl (yt y2g rfl rfl z5u.1 z5u.2 y1D) ?_
   refine WL.yo rfl rfl (y5a (vs:=[(.int .u8 (u8 (z1N + (u8 z1r))))]) (ds:=(z1O.set (z1r : Int).toNat (u8 (z1N + (u8 z1r)))).flatMap e5) y3Q rfl rfl rfl rfl (y6a rfl oc_nil) .here (y5Q (enc:=e5) (sz:=1) (k:=0) (fun _=>rfl) z5u.1 z5u.2 (by decide)) (y5O (enc:=e5) (l:=z1O) (sz:=1) (vs:=[(.int .u8 (u8 (z1N + (u8 z1r))))]) (y:=u8 (z1N + (u8 z1r))) (k:=0) (fun _=>rfl) z5u.1 z5u.2 rfl (Nat.le_of_ble_eq_true rfl))) ?_
   refine WL.relen .here (u:=(.slice (some ⟨z4Y,0,none⟩) ((z1O.set (z1r : Int).toNat (u8 (z1N + (u8 z1r)))).length) ((z1n : Int).toNat))) (slen (List.length_set).symm) ?_
   refine WL.repin (i:=5) rfl (u:=(.slice (some ⟨z4Y,0,none⟩) ((z1O.set (z1r : Int).toNat (u8 (z1N + (u8 z1r)))).length) ((z1n : Int).toNat))) (slen (List.length_set).symm) ?_
   refine WL.nil (WX.yi (WX.a (WC.a (WL.pu rfl (WL.pu rfl (WL.nil ?_))))))
   exact WX.round (G:=Nat × List Int × Int) ⟨z8m,(z1O.set (z1r : Int).toNat (u8 (z1N + (u8 z1r)))),(i64 (z1r + 1))⟩ h (Nat.lt_succ_self _) (.cons rfl (.cons rfl (.cons rfl (.cons rfl .nil)))) (.cons .here .nil)
  ·replace h:=yn h z8n
   refine WC.exit (WX.yx (WX.yx (WX.y1h ?_)))
   exact WX.mid (G:=List Int) z1O h (.cons rfl .nil) (.cons .here .nil)
 ·rintro z2V h
  replace h:=(zdN z2V).symm.trans h
  refine WC.b (WC.a (WL.pu rfl (WL.pu rfl (WL.nil (WX.a (WC.ret ?_))))))
  obtain rfl:=Option.some.inj h
  refine WX.ye Tryd.results111 (.tmp rfl .nil) (fun w hw=>?_)
  exact ⟨(some ⟨z4Y,0,none⟩),((z1n : Int).toNat),yX rfl,trivial,hw.sub (.cons .here .nil)⟩
def yg (zm : Sproc_execution) (z4o : Int) (z3k : List Int) : Option Sproc_execution :=
 some (⟨zm.fState,zm.fX,zm.fMem,(⟨z4o,zm.fX.fA,0,z3k⟩ : Sproc_Act)⟩ : Sproc_execution)
set_option maxRecDepth 20000 in
theorem yk (Z : Zp) (z3l : Nat) (z4p : Option Addr) (z4q : Nat) (z5v : Option Addr) (z5w : Nat) (z4Z : Option Addr) (z50 : Nat) (zm : Sproc_execution) (z4o : Int) (z3k : List Int) (r : Sproc_execution)
  (h : yg zm z4o z3k = some r) (w₀ : World) (hz : PZ (fps [stb z3l 65 [(.int .i64 zm.fState.fPc),(.int .i64 zm.fState.fLeft),(.int .u8 zm.fState.fRegs.a0),(.int .u8 zm.fState.fRegs.a1),(.int .u8 zm.fState.fRegs.a2),(.int .u8 zm.fState.fRegs.a3),(.int .u8 zm.fX.fOp),(.int .i64 zm.fX.fA),(.int .i64 zm.fX.fB),(.int .i64 zm.fX.fC),(.slice z4p zm.fMem.length z4q),(.int .u8 zm.fAct.fKind),(.int .i64 zm.fAct.fA),(.int .i64 zm.fAct.fB),(.slice z5v zm.fAct.fData.length z5w)]]) w₀ Z)
  (zdO : ZS Z 1 (fun r x=>r = e5 x) z4p z4q zm.fMem)
  (zmi : ZS Z 1 (fun r x=>r = e5 x) z5v z5w zm.fAct.fData)
  (zdP : ZS Z 1 (fun r x=>r = e5 x) z4Z z50 z3k)
  (hown : Hp (fps [stb z3l 65 [(.int .i64 zm.fState.fPc),(.int .i64 zm.fState.fLeft),(.int .u8 zm.fState.fRegs.a0),(.int .u8 zm.fState.fRegs.a1),(.int .u8 zm.fState.fRegs.a2),(.int .u8 zm.fState.fRegs.a3),(.int .u8 zm.fX.fOp),(.int .i64 zm.fX.fA),(.int .i64 zm.fX.fB),(.int .i64 zm.fX.fC),(.slice z4p zm.fMem.length z4q),(.int .u8 zm.fAct.fKind),(.int .i64 zm.fAct.fA),(.int .i64 zm.fAct.fB),(.slice z5v zm.fAct.fData.length z5w)]]) w₀ w₀ [stb z3l 65 [(.int .i64 zm.fState.fPc),(.int .i64 zm.fState.fLeft),(.int .u8 zm.fState.fRegs.a0),(.int .u8 zm.fState.fRegs.a1),(.int .u8 zm.fState.fRegs.a2),(.int .u8 zm.fState.fRegs.a3),(.int .u8 zm.fX.fOp),(.int .i64 zm.fX.fA),(.int .i64 zm.fX.fB),(.int .i64 zm.fX.fC),(.slice z4p zm.fMem.length z4q),(.int .u8 zm.fAct.fKind),(.int .i64 zm.fAct.fA),(.int .i64 zm.fAct.fB),(.slice z5v zm.fAct.fData.length z5w)]]) :
  Calls Tryd.prog 110 #[(.pointer (some ⟨z3l,0,none⟩)),(.int .u8 z4o),(.slice z4Z z3k.length z50)] w₀ fun e w'=>∃ zan : Option Addr,∃ zao : Nat,∃ zap : Option Addr,∃ zaq : Nat,e = .returned (.tuple #[]) ∧ ((ZS Z 1 (fun r x=>r = e5 x) zan zao r.fMem) ∧ (ZS Z 1 (fun r x=>r = e5 x) zap zaq r.fAct.fData)) ∧ Hp (fps [stb z3l 65 [(.int .i64 zm.fState.fPc),(.int .i64 zm.fState.fLeft),(.int .u8 zm.fState.fRegs.a0),(.int .u8 zm.fState.fRegs.a1),(.int .u8 zm.fState.fRegs.a2),(.int .u8 zm.fState.fRegs.a3),(.int .u8 zm.fX.fOp),(.int .i64 zm.fX.fA),(.int .i64 zm.fX.fB),(.int .i64 zm.fX.fC),(.slice z4p zm.fMem.length z4q),(.int .u8 zm.fAct.fKind),(.int .i64 zm.fAct.fA),(.int .i64 zm.fAct.fB),(.slice z5v zm.fAct.fData.length z5w)]]) w₀ w' [stb z3l 65 [(.int .i64 r.fState.fPc),(.int .i64 r.fState.fLeft),(.int .u8 r.fState.fRegs.a0),(.int .u8 r.fState.fRegs.a1),(.int .u8 r.fState.fRegs.a2),(.int .u8 r.fState.fRegs.a3),(.int .u8 r.fX.fOp),(.int .i64 r.fX.fA),(.int .i64 r.fX.fB),(.int .i64 r.fX.fC),(.slice zan r.fMem.length zao),(.int .u8 r.fAct.fKind),(.int .i64 r.fAct.fA),(.int .i64 r.fAct.fB),(.slice zap r.fAct.fData.length zaq)]]:=by
 unfold yg at h
 refine Calls.y8 (vs:=[(.pointer (some ⟨z3l,0,none⟩)),(.int .u8 z4o),(.slice z4Z z3k.length z50)]) (pre:=[stb z3l 65 [(.int .i64 zm.fState.fPc),(.int .i64 zm.fState.fLeft),(.int .u8 zm.fState.fRegs.a0),(.int .u8 zm.fState.fRegs.a1),(.int .u8 zm.fState.fRegs.a2),(.int .u8 zm.fState.fRegs.a3),(.int .u8 zm.fX.fOp),(.int .i64 zm.fX.fA),(.int .i64 zm.fX.fB),(.int .i64 zm.fX.fC),(.slice z4p zm.fMem.length z4q),(.int .u8 zm.fAct.fKind),(.int .i64 zm.fAct.fA),(.int .i64 zm.fAct.fB),(.slice z5v zm.fAct.fData.length z5w)]]) (env:=[(0,(.pointer (some ⟨z3l,0,none⟩))),(1,(.int .u8 z4o)),(2,(.slice z4Z z3k.length z50))]) Tryd.func110 rfl Tryd.ntmps110 rfl (hown) rfl ?_
 refine WC.a (WL.pu rfl (WL.pu rfl (WL.pu rfl ?_)))
 refine WL.a (d:=9) rfl rfl rfl (y7 rfl) ?_
 refine WL.a (d:=10) rfl rfl rfl (y4 yH rfl rfl) ?_
 refine WL.a (d:=11) rfl rfl rfl (y4 y1b rfl rfl) ?_
 refine WL.a (d:=12) rfl rfl rfl (y6 yf rfl (yc .here rfl)) ?_
 refine WL.pu rfl ?_
 refine WL.a (d:=14) rfl rfl rfl (yZ (v:=(.agg #[(.int .u8 z4o),(.int .i64 zm.fX.fA),(.int .i64 0),(.slice z4Z z3k.length z50)])) (Eos.parts (l:=[.tmp 7,.tmp 12,.tmp 13]) (.cons rfl (.cons rfl (.cons rfl .nil))) [0,1,3]) (fun _=>by kernel_rfl)) ?_
 refine WL.a (d:=15) rfl rfl rfl (y7 rfl) ?_
 refine WL.a (d:=16) rfl rfl rfl (y4 y3e rfl rfl) ?_
 refine WL.yo rfl rfl (y1g (ds:=[(.int .i64 zm.fState.fPc),(.int .i64 zm.fState.fLeft),(.int .u8 zm.fState.fRegs.a0),(.int .u8 zm.fState.fRegs.a1),(.int .u8 zm.fState.fRegs.a2),(.int .u8 zm.fState.fRegs.a3),(.int .u8 zm.fX.fOp),(.int .i64 zm.fX.fA),(.int .i64 zm.fX.fB),(.int .i64 zm.fX.fC),(.slice z4p zm.fMem.length z4q),(.int .u8 z4o),(.int .i64 zm.fX.fA),(.int .i64 0),(.slice z4Z z3k.length z50)]) y1y rfl rfl rfl rfl rfl .here rfl rfl) ?_
 refine WL.nil ?_
 obtain rfl:=Option.some.inj h
 refine WX.yd Tryd.results110 .nil (fun w hw=>?_)
 exact ⟨z4p,z4q,z4Z,z50,y12,⟨zdO,zdP⟩,hw.sub (.cons .here .nil)⟩
def y1U (zn : Sproc_execution) : Option Sproc_execution :=
 (yb zn zn.fX.fB).bind fun zdQ=>chk ((0 : Int) ≤ zn.fX.fB ∧ zn.fX.fB < 4) ((y3n (nth ([zn.fState.fRegs.a0,zn.fState.fRegs.a1,zn.fState.fRegs.a2,zn.fState.fRegs.a3] : List Int) zn.fX.fB) zn.fX.fC).bind fun z8o=>(yg zn 2 z8o).bind fun zar=>some zar)
set_option maxRecDepth 20000 in
theorem y3T (Z : Zp) (z3m : Nat) (z5x : Option Addr) (z5y : Nat) (z5z : Option Addr) (z5A : Nat) (zn : Sproc_execution) (r : Sproc_execution)
  (h : y1U zn = some r) (w₀ : World) (hz : PZ (fps [stb z3m 65 [(.int .i64 zn.fState.fPc),(.int .i64 zn.fState.fLeft),(.int .u8 zn.fState.fRegs.a0),(.int .u8 zn.fState.fRegs.a1),(.int .u8 zn.fState.fRegs.a2),(.int .u8 zn.fState.fRegs.a3),(.int .u8 zn.fX.fOp),(.int .i64 zn.fX.fA),(.int .i64 zn.fX.fB),(.int .i64 zn.fX.fC),(.slice z5x zn.fMem.length z5y),(.int .u8 zn.fAct.fKind),(.int .i64 zn.fAct.fA),(.int .i64 zn.fAct.fB),(.slice z5z zn.fAct.fData.length z5A)]]) w₀ Z)
  (zas : ZS Z 1 (fun r x=>r = e5 x) z5x z5y zn.fMem)
  (zat : ZS Z 1 (fun r x=>r = e5 x) z5z z5A zn.fAct.fData)
  (hown : Hp (fps [stb z3m 65 [(.int .i64 zn.fState.fPc),(.int .i64 zn.fState.fLeft),(.int .u8 zn.fState.fRegs.a0),(.int .u8 zn.fState.fRegs.a1),(.int .u8 zn.fState.fRegs.a2),(.int .u8 zn.fState.fRegs.a3),(.int .u8 zn.fX.fOp),(.int .i64 zn.fX.fA),(.int .i64 zn.fX.fB),(.int .i64 zn.fX.fC),(.slice z5x zn.fMem.length z5y),(.int .u8 zn.fAct.fKind),(.int .i64 zn.fAct.fA),(.int .i64 zn.fAct.fB),(.slice z5z zn.fAct.fData.length z5A)]]) w₀ w₀ [stb z3m 65 [(.int .i64 zn.fState.fPc),(.int .i64 zn.fState.fLeft),(.int .u8 zn.fState.fRegs.a0),(.int .u8 zn.fState.fRegs.a1),(.int .u8 zn.fState.fRegs.a2),(.int .u8 zn.fState.fRegs.a3),(.int .u8 zn.fX.fOp),(.int .i64 zn.fX.fA),(.int .i64 zn.fX.fB),(.int .i64 zn.fX.fC),(.slice z5x zn.fMem.length z5y),(.int .u8 zn.fAct.fKind),(.int .i64 zn.fAct.fA),(.int .i64 zn.fAct.fB),(.slice z5z zn.fAct.fData.length z5A)]]) :
  Calls Tryd.prog 89 #[(.pointer (some ⟨z3m,0,none⟩))] w₀ fun e w'=>∃ Zn : Zp,∃ zau : Option Addr,∃ zav : Nat,∃ zaw : Option Addr,∃ zax : Nat,e = .returned (.tuple #[]) ∧ ((ZS (Z ++ Zn) 1 (fun r x=>r = e5 x) zau zav r.fMem) ∧ (ZS (Z ++ Zn) 1 (fun r x=>r = e5 x) zaw zax r.fAct.fData)) ∧ Hp (fps [stb z3m 65 [(.int .i64 zn.fState.fPc),(.int .i64 zn.fState.fLeft),(.int .u8 zn.fState.fRegs.a0),(.int .u8 zn.fState.fRegs.a1),(.int .u8 zn.fState.fRegs.a2),(.int .u8 zn.fState.fRegs.a3),(.int .u8 zn.fX.fOp),(.int .i64 zn.fX.fA),(.int .i64 zn.fX.fB),(.int .i64 zn.fX.fC),(.slice z5x zn.fMem.length z5y),(.int .u8 zn.fAct.fKind),(.int .i64 zn.fAct.fA),(.int .i64 zn.fAct.fB),(.slice z5z zn.fAct.fData.length z5A)]]) w₀ w' [fz Zn,stb z3m 65 [(.int .i64 r.fState.fPc),(.int .i64 r.fState.fLeft),(.int .u8 r.fState.fRegs.a0),(.int .u8 r.fState.fRegs.a1),(.int .u8 r.fState.fRegs.a2),(.int .u8 r.fState.fRegs.a3),(.int .u8 r.fX.fOp),(.int .i64 r.fX.fA),(.int .i64 r.fX.fB),(.int .i64 r.fX.fC),(.slice zau r.fMem.length zav),(.int .u8 r.fAct.fKind),(.int .i64 r.fAct.fA),(.int .i64 r.fAct.fB),(.slice zaw r.fAct.fData.length zax)]]:=by
 unfold y1U at h
 refine Calls.y8 (vs:=[(.pointer (some ⟨z3m,0,none⟩))]) (pre:=[stb z3m 65 [(.int .i64 zn.fState.fPc),(.int .i64 zn.fState.fLeft),(.int .u8 zn.fState.fRegs.a0),(.int .u8 zn.fState.fRegs.a1),(.int .u8 zn.fState.fRegs.a2),(.int .u8 zn.fState.fRegs.a3),(.int .u8 zn.fX.fOp),(.int .i64 zn.fX.fA),(.int .i64 zn.fX.fB),(.int .i64 zn.fX.fC),(.slice z5x zn.fMem.length z5y),(.int .u8 zn.fAct.fKind),(.int .i64 zn.fAct.fA),(.int .i64 zn.fAct.fB),(.slice z5z zn.fAct.fData.length z5A)]]) (env:=[(0,(.pointer (some ⟨z3m,0,none⟩)))]) Tryd.func89 rfl Tryd.ntmps89 rfl (hown) rfl ?_
 refine WC.pool ?_
 obtain ⟨zdQ,zdR,h⟩:=zh h
 obtain ⟨zdS,h⟩:=y9 h
 obtain ⟨z8o,zdT,h⟩:=zh h
 obtain ⟨zar,zdU,h⟩:=zh h
 refine WC.y1a (fun i=>[16].contains i) [] rfl ?_
 refine WD.a (i:=0) (d:=2) (by kernel_rfl) rfl z1 z2 rfl rfl rfl (fun _=>q_m rfl) ?_
 refine WD.a (i:=1) (d:=3) (by kernel_rfl) rfl z1 z2 rfl rfl rfl (fun _=>q_m rfl) ?_
 refine WD.a (i:=2) (d:=4) (by kernel_rfl) rfl z1 z2 rfl rfl rfl (fun _=>q_m rfl) ?_
 refine WD.a (i:=3) (d:=5) (by kernel_rfl) rfl z1 z2 rfl rfl rfl (fun _=>y7 rfl) ?_
 refine WD.a (i:=4) (d:=6) (by kernel_rfl) rfl z1 z2 rfl rfl rfl (fun _=>y4 yH rfl rfl) ?_
 refine WD.a (i:=5) (d:=7) (by kernel_rfl) rfl z1 z2 rfl rfl rfl (fun _=>y4 y1x rfl rfl) ?_
 refine WD.e (i:=6) (d:=8) (by kernel_rfl) rfl z1 z2 rfl rfl rfl (y6 yf rfl (yc .h1 rfl)) ?_
 refine WD.c (i:=7) (d:=9) (by kernel_rfl) rfl z1 z2 rfl rfl rfl (zI (l:=[.tmp 3,.tmp 8]) Tryd.call108 (.cons rfl (.cons rfl .nil))) (y27 hz .nil .here (.cons .h1 .nil) fun w pz ho la=>yh _ _ _ _ _ _ _ _ _ zdR w pz ((zas.mono (Zle.left _ _)).mono (Zle.left _ _)) ((zat.mono (Zle.left _ _)).mono (Zle.left _ _)) ((la _ (.head _) _).stb)) ?_
 refine WD.a (i:=8) (d:=10) (by kernel_rfl) rfl z1 z2 rfl rfl rfl (fun _=>y7 rfl) ?_
 refine WD.e (i:=9) (d:=11) (by kernel_rfl) rfl z1 z2 rfl rfl rfl (y6 yN rfl (y1r (l:=([zn.fState.fRegs.a0,zn.fState.fRegs.a1,zn.fState.fRegs.a2,zn.fState.fRegs.a3] : List Int)) (f:=Value.int .u8) (k:=2) (m:=6) .h1 rfl rfl zdS)) ?_
 refine WD.a (i:=10) (d:=12) (by kernel_rfl) rfl z1 z2 rfl rfl rfl (fun _=>q_m rfl) ?_
 refine WD.a (i:=11) (d:=13) (by kernel_rfl) rfl z1 z2 rfl rfl rfl (fun _=>y7 rfl) ?_
 refine WD.a (i:=12) (d:=14) (by kernel_rfl) rfl z1 z2 rfl rfl rfl (fun _=>y4 yH rfl rfl) ?_
 refine WD.a (i:=13) (d:=15) (by kernel_rfl) rfl z1 z2 rfl rfl rfl (fun _=>y4 y3O rfl rfl) ?_
 refine WD.e (i:=14) (d:=16) (by kernel_rfl) rfl z1 z2 rfl rfl rfl (y6 yf rfl (yc .h1 rfl)) ?_
 refine WD.call2 (i:=15) (dd:=17) rfl (by kernel_rfl) rfl rfl rfl (.inr rfl) (zI (l:=[.tmp 11,.tmp 16]) Tryd.call111 (.cons rfl (.cons rfl .nil))) .nil (ccz hz .nil .here fun w pz ho=>y5Y _ _ _ _ zdT w pz ) ?_
 rintro zmj zmk _
 refine WD.freezeS (ls:=z8o) .here .here hz (RR.yP (enc:=e5) (fun _=>rfl) _) ?_
 intro zdV zay zdW
 refine WD.call4 (i:=16) (dd:=18) rfl (by kernel_rfl) rfl rfl rfl (.inl ⟨rfl,fun _ _ _ _=>(Sin.of .nil)⟩) (zI (l:=[.tmp 2,.const (.int .u8 2),.tmp 17]) Tryd.call110 (.cons rfl (.cons rfl (.cons rfl .nil)))) (.cons .h1 .nil) (ccz hz (.cons .h1 .nil) .here fun w pz ho=>yk _ _ _ _ _ _ _ _ _ _ _ _ zdU w pz (zas.mono ((Zle.left _ _).trans zay)) (zat.mono ((Zle.left _ _).trans zay)) zdW ho) ?_
 rintro zdX zdY zdZ ze0 ⟨ze1,ze2⟩
 refine WD.done (by kernel_rfl) ?_
 obtain rfl:=Option.some.inj h
 refine WX.yd Tryd.results89 .nil (fun w hw=>?_)
 exact ⟨zdV,zdX,zdY,zdZ,ze0,y12,⟨ze1,ze2⟩,hw.sub (.cons .h1 (.cons .here .nil))⟩
def y1V (zy : Sproc_execution) : Option Sproc_execution :=
 (yg zy 3 []).bind fun zaz=>some zaz
set_option maxRecDepth 20000 in
theorem y3U (Z : Zp) (z3n : Nat) (z5B : Option Addr) (z5C : Nat) (z5D : Option Addr) (z5E : Nat) (zy : Sproc_execution) (r : Sproc_execution)
  (h : y1V zy = some r) (w₀ : World) (hz : PZ (fps [stb z3n 65 [(.int .i64 zy.fState.fPc),(.int .i64 zy.fState.fLeft),(.int .u8 zy.fState.fRegs.a0),(.int .u8 zy.fState.fRegs.a1),(.int .u8 zy.fState.fRegs.a2),(.int .u8 zy.fState.fRegs.a3),(.int .u8 zy.fX.fOp),(.int .i64 zy.fX.fA),(.int .i64 zy.fX.fB),(.int .i64 zy.fX.fC),(.slice z5B zy.fMem.length z5C),(.int .u8 zy.fAct.fKind),(.int .i64 zy.fAct.fA),(.int .i64 zy.fAct.fB),(.slice z5D zy.fAct.fData.length z5E)]]) w₀ Z)
  (ze3 : ZS Z 1 (fun r x=>r = e5 x) z5B z5C zy.fMem)
  (ze4 : ZS Z 1 (fun r x=>r = e5 x) z5D z5E zy.fAct.fData)
  (hown : Hp (fps [stb z3n 65 [(.int .i64 zy.fState.fPc),(.int .i64 zy.fState.fLeft),(.int .u8 zy.fState.fRegs.a0),(.int .u8 zy.fState.fRegs.a1),(.int .u8 zy.fState.fRegs.a2),(.int .u8 zy.fState.fRegs.a3),(.int .u8 zy.fX.fOp),(.int .i64 zy.fX.fA),(.int .i64 zy.fX.fB),(.int .i64 zy.fX.fC),(.slice z5B zy.fMem.length z5C),(.int .u8 zy.fAct.fKind),(.int .i64 zy.fAct.fA),(.int .i64 zy.fAct.fB),(.slice z5D zy.fAct.fData.length z5E)]]) w₀ w₀ [stb z3n 65 [(.int .i64 zy.fState.fPc),(.int .i64 zy.fState.fLeft),(.int .u8 zy.fState.fRegs.a0),(.int .u8 zy.fState.fRegs.a1),(.int .u8 zy.fState.fRegs.a2),(.int .u8 zy.fState.fRegs.a3),(.int .u8 zy.fX.fOp),(.int .i64 zy.fX.fA),(.int .i64 zy.fX.fB),(.int .i64 zy.fX.fC),(.slice z5B zy.fMem.length z5C),(.int .u8 zy.fAct.fKind),(.int .i64 zy.fAct.fA),(.int .i64 zy.fAct.fB),(.slice z5D zy.fAct.fData.length z5E)]]) :
  Calls Tryd.prog 90 #[(.pointer (some ⟨z3n,0,none⟩))] w₀ fun e w'=>∃ zaA : Option Addr,∃ zaB : Nat,∃ zaC : Option Addr,∃ zaD : Nat,e = .returned (.tuple #[]) ∧ ((ZS Z 1 (fun r x=>r = e5 x) zaA zaB r.fMem) ∧ (ZS Z 1 (fun r x=>r = e5 x) zaC zaD r.fAct.fData)) ∧ Hp (fps [stb z3n 65 [(.int .i64 zy.fState.fPc),(.int .i64 zy.fState.fLeft),(.int .u8 zy.fState.fRegs.a0),(.int .u8 zy.fState.fRegs.a1),(.int .u8 zy.fState.fRegs.a2),(.int .u8 zy.fState.fRegs.a3),(.int .u8 zy.fX.fOp),(.int .i64 zy.fX.fA),(.int .i64 zy.fX.fB),(.int .i64 zy.fX.fC),(.slice z5B zy.fMem.length z5C),(.int .u8 zy.fAct.fKind),(.int .i64 zy.fAct.fA),(.int .i64 zy.fAct.fB),(.slice z5D zy.fAct.fData.length z5E)]]) w₀ w' [stb z3n 65 [(.int .i64 r.fState.fPc),(.int .i64 r.fState.fLeft),(.int .u8 r.fState.fRegs.a0),(.int .u8 r.fState.fRegs.a1),(.int .u8 r.fState.fRegs.a2),(.int .u8 r.fState.fRegs.a3),(.int .u8 r.fX.fOp),(.int .i64 r.fX.fA),(.int .i64 r.fX.fB),(.int .i64 r.fX.fC),(.slice zaA r.fMem.length zaB),(.int .u8 r.fAct.fKind),(.int .i64 r.fAct.fA),(.int .i64 r.fAct.fB),(.slice zaC r.fAct.fData.length zaD)]]:=by
 unfold y1V at h
 refine Calls.y8 (vs:=[(.pointer (some ⟨z3n,0,none⟩))]) (pre:=[stb z3n 65 [(.int .i64 zy.fState.fPc),(.int .i64 zy.fState.fLeft),(.int .u8 zy.fState.fRegs.a0),(.int .u8 zy.fState.fRegs.a1),(.int .u8 zy.fState.fRegs.a2),(.int .u8 zy.fState.fRegs.a3),(.int .u8 zy.fX.fOp),(.int .i64 zy.fX.fA),(.int .i64 zy.fX.fB),(.int .i64 zy.fX.fC),(.slice z5B zy.fMem.length z5C),(.int .u8 zy.fAct.fKind),(.int .i64 zy.fAct.fA),(.int .i64 zy.fAct.fB),(.slice z5D zy.fAct.fData.length z5E)]]) (env:=[(0,(.pointer (some ⟨z3n,0,none⟩)))]) Tryd.func90 rfl Tryd.ntmps90 rfl (hown) rfl ?_
 obtain ⟨zaz,ze5,h⟩:=zh h
 refine WC.a (WL.pu rfl ?_)
 refine WL.yj (dd:=3) rfl rfl rfl (zI (l:=[.tmp 2,.const (.int .u8 3),.const (.slice none 0 0)]) Tryd.call110 (.cons rfl (.cons rfl (.cons rfl .nil)))) (.cons .here .nil) (cc hz (.cons .here .nil) fun w pz ho=>yk _ _ _ _ _ _ _ _ _ _ _ _ ze5 w pz ze3 ze4 (ZS.nil _ _ _) ho) ?_
 rintro ze6 ze7 ze8 ze9 ⟨zea,zeb⟩
 refine WL.nil ?_
 obtain rfl:=Option.some.inj h
 refine WX.yd Tryd.results90 .nil (fun w hw=>?_)
 exact ⟨ze6,ze7,ze8,ze9,y12,⟨zea,zeb⟩,hw.sub (.cons .here .nil)⟩
def y1W (zz : Sproc_execution) : Option Sproc_execution :=
 (yg zz 4 []).bind fun zaE=>some zaE
set_option maxRecDepth 20000 in
theorem y3V (Z : Zp) (z3o : Nat) (z5F : Option Addr) (z5G : Nat) (z5H : Option Addr) (z5I : Nat) (zz : Sproc_execution) (r : Sproc_execution)
  (h : y1W zz = some r) (w₀ : World) (hz : PZ (fps [stb z3o 65 [(.int .i64 zz.fState.fPc),(.int .i64 zz.fState.fLeft),(.int .u8 zz.fState.fRegs.a0),(.int .u8 zz.fState.fRegs.a1),(.int .u8 zz.fState.fRegs.a2),(.int .u8 zz.fState.fRegs.a3),(.int .u8 zz.fX.fOp),(.int .i64 zz.fX.fA),(.int .i64 zz.fX.fB),(.int .i64 zz.fX.fC),(.slice z5F zz.fMem.length z5G),(.int .u8 zz.fAct.fKind),(.int .i64 zz.fAct.fA),(.int .i64 zz.fAct.fB),(.slice z5H zz.fAct.fData.length z5I)]]) w₀ Z)
  (zec : ZS Z 1 (fun r x=>r = e5 x) z5F z5G zz.fMem)
  (zed : ZS Z 1 (fun r x=>r = e5 x) z5H z5I zz.fAct.fData)
  (hown : Hp (fps [stb z3o 65 [(.int .i64 zz.fState.fPc),(.int .i64 zz.fState.fLeft),(.int .u8 zz.fState.fRegs.a0),(.int .u8 zz.fState.fRegs.a1),(.int .u8 zz.fState.fRegs.a2),(.int .u8 zz.fState.fRegs.a3),(.int .u8 zz.fX.fOp),(.int .i64 zz.fX.fA),(.int .i64 zz.fX.fB),(.int .i64 zz.fX.fC),(.slice z5F zz.fMem.length z5G),(.int .u8 zz.fAct.fKind),(.int .i64 zz.fAct.fA),(.int .i64 zz.fAct.fB),(.slice z5H zz.fAct.fData.length z5I)]]) w₀ w₀ [stb z3o 65 [(.int .i64 zz.fState.fPc),(.int .i64 zz.fState.fLeft),(.int .u8 zz.fState.fRegs.a0),(.int .u8 zz.fState.fRegs.a1),(.int .u8 zz.fState.fRegs.a2),(.int .u8 zz.fState.fRegs.a3),(.int .u8 zz.fX.fOp),(.int .i64 zz.fX.fA),(.int .i64 zz.fX.fB),(.int .i64 zz.fX.fC),(.slice z5F zz.fMem.length z5G),(.int .u8 zz.fAct.fKind),(.int .i64 zz.fAct.fA),(.int .i64 zz.fAct.fB),(.slice z5H zz.fAct.fData.length z5I)]]) :
  Calls Tryd.prog 91 #[(.pointer (some ⟨z3o,0,none⟩))] w₀ fun e w'=>∃ zaF : Option Addr,∃ zaG : Nat,∃ zaH : Option Addr,∃ zaI : Nat,e = .returned (.tuple #[]) ∧ ((ZS Z 1 (fun r x=>r = e5 x) zaF zaG r.fMem) ∧ (ZS Z 1 (fun r x=>r = e5 x) zaH zaI r.fAct.fData)) ∧ Hp (fps [stb z3o 65 [(.int .i64 zz.fState.fPc),(.int .i64 zz.fState.fLeft),(.int .u8 zz.fState.fRegs.a0),(.int .u8 zz.fState.fRegs.a1),(.int .u8 zz.fState.fRegs.a2),(.int .u8 zz.fState.fRegs.a3),(.int .u8 zz.fX.fOp),(.int .i64 zz.fX.fA),(.int .i64 zz.fX.fB),(.int .i64 zz.fX.fC),(.slice z5F zz.fMem.length z5G),(.int .u8 zz.fAct.fKind),(.int .i64 zz.fAct.fA),(.int .i64 zz.fAct.fB),(.slice z5H zz.fAct.fData.length z5I)]]) w₀ w' [stb z3o 65 [(.int .i64 r.fState.fPc),(.int .i64 r.fState.fLeft),(.int .u8 r.fState.fRegs.a0),(.int .u8 r.fState.fRegs.a1),(.int .u8 r.fState.fRegs.a2),(.int .u8 r.fState.fRegs.a3),(.int .u8 r.fX.fOp),(.int .i64 r.fX.fA),(.int .i64 r.fX.fB),(.int .i64 r.fX.fC),(.slice zaF r.fMem.length zaG),(.int .u8 r.fAct.fKind),(.int .i64 r.fAct.fA),(.int .i64 r.fAct.fB),(.slice zaH r.fAct.fData.length zaI)]]:=by
 unfold y1W at h
 refine Calls.y8 (vs:=[(.pointer (some ⟨z3o,0,none⟩))]) (pre:=[stb z3o 65 [(.int .i64 zz.fState.fPc),(.int .i64 zz.fState.fLeft),(.int .u8 zz.fState.fRegs.a0),(.int .u8 zz.fState.fRegs.a1),(.int .u8 zz.fState.fRegs.a2),(.int .u8 zz.fState.fRegs.a3),(.int .u8 zz.fX.fOp),(.int .i64 zz.fX.fA),(.int .i64 zz.fX.fB),(.int .i64 zz.fX.fC),(.slice z5F zz.fMem.length z5G),(.int .u8 zz.fAct.fKind),(.int .i64 zz.fAct.fA),(.int .i64 zz.fAct.fB),(.slice z5H zz.fAct.fData.length z5I)]]) (env:=[(0,(.pointer (some ⟨z3o,0,none⟩)))]) Tryd.func91 rfl Tryd.ntmps91 rfl (hown) rfl ?_
 obtain ⟨zaE,zee,h⟩:=zh h
 refine WC.a (WL.pu rfl ?_)
 refine WL.yj (dd:=3) rfl rfl rfl (zI (l:=[.tmp 2,.const (.int .u8 4),.const (.slice none 0 0)]) Tryd.call110 (.cons rfl (.cons rfl (.cons rfl .nil)))) (.cons .here .nil) (cc hz (.cons .here .nil) fun w pz ho=>yk _ _ _ _ _ _ _ _ _ _ _ _ zee w pz zec zed (ZS.nil _ _ _) ho) ?_
 rintro zef zeg zeh zei ⟨zej,zek⟩
 refine WL.nil ?_
 obtain rfl:=Option.some.inj h
 refine WX.yd Tryd.results91 .nil (fun w hw=>?_)
 exact ⟨zef,zeg,zeh,zei,y12,⟨zej,zek⟩,hw.sub (.cons .here .nil)⟩
def y1w (zA : Sproc_execution) : Option Sproc_execution :=
 (yg zA 5 []).bind fun zaJ=>some zaJ
set_option maxRecDepth 20000 in
theorem y3s (Z : Zp) (z3p : Nat) (z5J : Option Addr) (z5K : Nat) (z5L : Option Addr) (z5M : Nat) (zA : Sproc_execution) (r : Sproc_execution)
  (h : y1w zA = some r) (w₀ : World) (hz : PZ (fps [stb z3p 65 [(.int .i64 zA.fState.fPc),(.int .i64 zA.fState.fLeft),(.int .u8 zA.fState.fRegs.a0),(.int .u8 zA.fState.fRegs.a1),(.int .u8 zA.fState.fRegs.a2),(.int .u8 zA.fState.fRegs.a3),(.int .u8 zA.fX.fOp),(.int .i64 zA.fX.fA),(.int .i64 zA.fX.fB),(.int .i64 zA.fX.fC),(.slice z5J zA.fMem.length z5K),(.int .u8 zA.fAct.fKind),(.int .i64 zA.fAct.fA),(.int .i64 zA.fAct.fB),(.slice z5L zA.fAct.fData.length z5M)]]) w₀ Z)
  (zel : ZS Z 1 (fun r x=>r = e5 x) z5J z5K zA.fMem)
  (zem : ZS Z 1 (fun r x=>r = e5 x) z5L z5M zA.fAct.fData)
  (hown : Hp (fps [stb z3p 65 [(.int .i64 zA.fState.fPc),(.int .i64 zA.fState.fLeft),(.int .u8 zA.fState.fRegs.a0),(.int .u8 zA.fState.fRegs.a1),(.int .u8 zA.fState.fRegs.a2),(.int .u8 zA.fState.fRegs.a3),(.int .u8 zA.fX.fOp),(.int .i64 zA.fX.fA),(.int .i64 zA.fX.fB),(.int .i64 zA.fX.fC),(.slice z5J zA.fMem.length z5K),(.int .u8 zA.fAct.fKind),(.int .i64 zA.fAct.fA),(.int .i64 zA.fAct.fB),(.slice z5L zA.fAct.fData.length z5M)]]) w₀ w₀ [stb z3p 65 [(.int .i64 zA.fState.fPc),(.int .i64 zA.fState.fLeft),(.int .u8 zA.fState.fRegs.a0),(.int .u8 zA.fState.fRegs.a1),(.int .u8 zA.fState.fRegs.a2),(.int .u8 zA.fState.fRegs.a3),(.int .u8 zA.fX.fOp),(.int .i64 zA.fX.fA),(.int .i64 zA.fX.fB),(.int .i64 zA.fX.fC),(.slice z5J zA.fMem.length z5K),(.int .u8 zA.fAct.fKind),(.int .i64 zA.fAct.fA),(.int .i64 zA.fAct.fB),(.slice z5L zA.fAct.fData.length z5M)]]) :
  Calls Tryd.prog 92 #[(.pointer (some ⟨z3p,0,none⟩))] w₀ fun e w'=>∃ zaK : Option Addr,∃ zaL : Nat,∃ zaM : Option Addr,∃ zaN : Nat,e = .returned (.tuple #[]) ∧ ((ZS Z 1 (fun r x=>r = e5 x) zaK zaL r.fMem) ∧ (ZS Z 1 (fun r x=>r = e5 x) zaM zaN r.fAct.fData)) ∧ Hp (fps [stb z3p 65 [(.int .i64 zA.fState.fPc),(.int .i64 zA.fState.fLeft),(.int .u8 zA.fState.fRegs.a0),(.int .u8 zA.fState.fRegs.a1),(.int .u8 zA.fState.fRegs.a2),(.int .u8 zA.fState.fRegs.a3),(.int .u8 zA.fX.fOp),(.int .i64 zA.fX.fA),(.int .i64 zA.fX.fB),(.int .i64 zA.fX.fC),(.slice z5J zA.fMem.length z5K),(.int .u8 zA.fAct.fKind),(.int .i64 zA.fAct.fA),(.int .i64 zA.fAct.fB),(.slice z5L zA.fAct.fData.length z5M)]]) w₀ w' [stb z3p 65 [(.int .i64 r.fState.fPc),(.int .i64 r.fState.fLeft),(.int .u8 r.fState.fRegs.a0),(.int .u8 r.fState.fRegs.a1),(.int .u8 r.fState.fRegs.a2),(.int .u8 r.fState.fRegs.a3),(.int .u8 r.fX.fOp),(.int .i64 r.fX.fA),(.int .i64 r.fX.fB),(.int .i64 r.fX.fC),(.slice zaK r.fMem.length zaL),(.int .u8 r.fAct.fKind),(.int .i64 r.fAct.fA),(.int .i64 r.fAct.fB),(.slice zaM r.fAct.fData.length zaN)]]:=by
 unfold y1w at h
 refine Calls.y8 (vs:=[(.pointer (some ⟨z3p,0,none⟩))]) (pre:=[stb z3p 65 [(.int .i64 zA.fState.fPc),(.int .i64 zA.fState.fLeft),(.int .u8 zA.fState.fRegs.a0),(.int .u8 zA.fState.fRegs.a1),(.int .u8 zA.fState.fRegs.a2),(.int .u8 zA.fState.fRegs.a3),(.int .u8 zA.fX.fOp),(.int .i64 zA.fX.fA),(.int .i64 zA.fX.fB),(.int .i64 zA.fX.fC),(.slice z5J zA.fMem.length z5K),(.int .u8 zA.fAct.fKind),(.int .i64 zA.fAct.fA),(.int .i64 zA.fAct.fB),(.slice z5L zA.fAct.fData.length z5M)]]) (env:=[(0,(.pointer (some ⟨z3p,0,none⟩)))]) Tryd.func92 rfl Tryd.ntmps92 rfl (hown) rfl ?_
 obtain ⟨zaJ,zen,h⟩:=zh h
 refine WC.a (WL.pu rfl ?_)
 refine WL.yj (dd:=3) rfl rfl rfl (zI (l:=[.tmp 2,.const (.int .u8 5),.const (.slice none 0 0)]) Tryd.call110 (.cons rfl (.cons rfl (.cons rfl .nil)))) (.cons .here .nil) (cc hz (.cons .here .nil) fun w pz ho=>yk _ _ _ _ _ _ _ _ _ _ _ _ zen w pz zel zem (ZS.nil _ _ _) ho) ?_
 rintro zeo zep zeq zer ⟨zes,zet⟩
 refine WL.nil ?_
 obtain rfl:=Option.some.inj h
 refine WX.yd Tryd.results92 .nil (fun w hw=>?_)
 exact ⟨zeo,zep,zeq,zer,y12,⟨zes,zet⟩,hw.sub (.cons .here .nil)⟩
def y1H (zB : Sproc_execution) : Option Sproc_execution :=
 (yg zB 6 []).bind fun zaO=>some zaO
set_option maxRecDepth 20000 in
theorem y3E (Z : Zp) (z3q : Nat) (z5N : Option Addr) (z5O : Nat) (z5P : Option Addr) (z5Q : Nat) (zB : Sproc_execution) (r : Sproc_execution)
  (h : y1H zB = some r) (w₀ : World) (hz : PZ (fps [stb z3q 65 [(.int .i64 zB.fState.fPc),(.int .i64 zB.fState.fLeft),(.int .u8 zB.fState.fRegs.a0),(.int .u8 zB.fState.fRegs.a1),(.int .u8 zB.fState.fRegs.a2),(.int .u8 zB.fState.fRegs.a3),(.int .u8 zB.fX.fOp),(.int .i64 zB.fX.fA),(.int .i64 zB.fX.fB),(.int .i64 zB.fX.fC),(.slice z5N zB.fMem.length z5O),(.int .u8 zB.fAct.fKind),(.int .i64 zB.fAct.fA),(.int .i64 zB.fAct.fB),(.slice z5P zB.fAct.fData.length z5Q)]]) w₀ Z)
  (zeu : ZS Z 1 (fun r x=>r = e5 x) z5N z5O zB.fMem)
  (zev : ZS Z 1 (fun r x=>r = e5 x) z5P z5Q zB.fAct.fData)
  (hown : Hp (fps [stb z3q 65 [(.int .i64 zB.fState.fPc),(.int .i64 zB.fState.fLeft),(.int .u8 zB.fState.fRegs.a0),(.int .u8 zB.fState.fRegs.a1),(.int .u8 zB.fState.fRegs.a2),(.int .u8 zB.fState.fRegs.a3),(.int .u8 zB.fX.fOp),(.int .i64 zB.fX.fA),(.int .i64 zB.fX.fB),(.int .i64 zB.fX.fC),(.slice z5N zB.fMem.length z5O),(.int .u8 zB.fAct.fKind),(.int .i64 zB.fAct.fA),(.int .i64 zB.fAct.fB),(.slice z5P zB.fAct.fData.length z5Q)]]) w₀ w₀ [stb z3q 65 [(.int .i64 zB.fState.fPc),(.int .i64 zB.fState.fLeft),(.int .u8 zB.fState.fRegs.a0),(.int .u8 zB.fState.fRegs.a1),(.int .u8 zB.fState.fRegs.a2),(.int .u8 zB.fState.fRegs.a3),(.int .u8 zB.fX.fOp),(.int .i64 zB.fX.fA),(.int .i64 zB.fX.fB),(.int .i64 zB.fX.fC),(.slice z5N zB.fMem.length z5O),(.int .u8 zB.fAct.fKind),(.int .i64 zB.fAct.fA),(.int .i64 zB.fAct.fB),(.slice z5P zB.fAct.fData.length z5Q)]]) :
  Calls Tryd.prog 93 #[(.pointer (some ⟨z3q,0,none⟩))] w₀ fun e w'=>∃ zaP : Option Addr,∃ zaQ : Nat,∃ zaR : Option Addr,∃ zaS : Nat,e = .returned (.tuple #[]) ∧ ((ZS Z 1 (fun r x=>r = e5 x) zaP zaQ r.fMem) ∧ (ZS Z 1 (fun r x=>r = e5 x) zaR zaS r.fAct.fData)) ∧ Hp (fps [stb z3q 65 [(.int .i64 zB.fState.fPc),(.int .i64 zB.fState.fLeft),(.int .u8 zB.fState.fRegs.a0),(.int .u8 zB.fState.fRegs.a1),(.int .u8 zB.fState.fRegs.a2),(.int .u8 zB.fState.fRegs.a3),(.int .u8 zB.fX.fOp),(.int .i64 zB.fX.fA),(.int .i64 zB.fX.fB),(.int .i64 zB.fX.fC),(.slice z5N zB.fMem.length z5O),(.int .u8 zB.fAct.fKind),(.int .i64 zB.fAct.fA),(.int .i64 zB.fAct.fB),(.slice z5P zB.fAct.fData.length z5Q)]]) w₀ w' [stb z3q 65 [(.int .i64 r.fState.fPc),(.int .i64 r.fState.fLeft),(.int .u8 r.fState.fRegs.a0),(.int .u8 r.fState.fRegs.a1),(.int .u8 r.fState.fRegs.a2),(.int .u8 r.fState.fRegs.a3),(.int .u8 r.fX.fOp),(.int .i64 r.fX.fA),(.int .i64 r.fX.fB),(.int .i64 r.fX.fC),(.slice zaP r.fMem.length zaQ),(.int .u8 r.fAct.fKind),(.int .i64 r.fAct.fA),(.int .i64 r.fAct.fB),(.slice zaR r.fAct.fData.length zaS)]]:=by
 unfold y1H at h
 refine Calls.y8 (vs:=[(.pointer (some ⟨z3q,0,none⟩))]) (pre:=[stb z3q 65 [(.int .i64 zB.fState.fPc),(.int .i64 zB.fState.fLeft),(.int .u8 zB.fState.fRegs.a0),(.int .u8 zB.fState.fRegs.a1),(.int .u8 zB.fState.fRegs.a2),(.int .u8 zB.fState.fRegs.a3),(.int .u8 zB.fX.fOp),(.int .i64 zB.fX.fA),(.int .i64 zB.fX.fB),(.int .i64 zB.fX.fC),(.slice z5N zB.fMem.length z5O),(.int .u8 zB.fAct.fKind),(.int .i64 zB.fAct.fA),(.int .i64 zB.fAct.fB),(.slice z5P zB.fAct.fData.length z5Q)]]) (env:=[(0,(.pointer (some ⟨z3q,0,none⟩)))]) Tryd.func93 rfl Tryd.ntmps93 rfl (hown) rfl ?_
 obtain ⟨zaO,zew,h⟩:=zh h
 refine WC.a (WL.pu rfl ?_)
 refine WL.yj (dd:=3) rfl rfl rfl (zI (l:=[.tmp 2,.const (.int .u8 6),.const (.slice none 0 0)]) Tryd.call110 (.cons rfl (.cons rfl (.cons rfl .nil)))) (.cons .here .nil) (cc hz (.cons .here .nil) fun w pz ho=>yk _ _ _ _ _ _ _ _ _ _ _ _ zew w pz zeu zev (ZS.nil _ _ _) ho) ?_
 rintro zex zey zez zeA ⟨zeB,zeC⟩
 refine WL.nil ?_
 obtain rfl:=Option.some.inj h
 refine WX.yd Tryd.results93 .nil (fun w hw=>?_)
 exact ⟨zex,zey,zez,zeA,y12,⟨zeB,zeC⟩,hw.sub (.cons .here .nil)⟩
def y1I (zC : Sproc_execution) : Option Sproc_execution :=
 (yg zC 7 []).bind fun zaT=>some zaT
set_option maxRecDepth 20000 in
theorem y3F (Z : Zp) (z3r : Nat) (z5R : Option Addr) (z5S : Nat) (z5T : Option Addr) (z5U : Nat) (zC : Sproc_execution) (r : Sproc_execution)
  (h : y1I zC = some r) (w₀ : World) (hz : PZ (fps [stb z3r 65 [(.int .i64 zC.fState.fPc),(.int .i64 zC.fState.fLeft),(.int .u8 zC.fState.fRegs.a0),(.int .u8 zC.fState.fRegs.a1),(.int .u8 zC.fState.fRegs.a2),(.int .u8 zC.fState.fRegs.a3),(.int .u8 zC.fX.fOp),(.int .i64 zC.fX.fA),(.int .i64 zC.fX.fB),(.int .i64 zC.fX.fC),(.slice z5R zC.fMem.length z5S),(.int .u8 zC.fAct.fKind),(.int .i64 zC.fAct.fA),(.int .i64 zC.fAct.fB),(.slice z5T zC.fAct.fData.length z5U)]]) w₀ Z)
  (zeD : ZS Z 1 (fun r x=>r = e5 x) z5R z5S zC.fMem)
  (zeE : ZS Z 1 (fun r x=>r = e5 x) z5T z5U zC.fAct.fData)
  (hown : Hp (fps [stb z3r 65 [(.int .i64 zC.fState.fPc),(.int .i64 zC.fState.fLeft),(.int .u8 zC.fState.fRegs.a0),(.int .u8 zC.fState.fRegs.a1),(.int .u8 zC.fState.fRegs.a2),(.int .u8 zC.fState.fRegs.a3),(.int .u8 zC.fX.fOp),(.int .i64 zC.fX.fA),(.int .i64 zC.fX.fB),(.int .i64 zC.fX.fC),(.slice z5R zC.fMem.length z5S),(.int .u8 zC.fAct.fKind),(.int .i64 zC.fAct.fA),(.int .i64 zC.fAct.fB),(.slice z5T zC.fAct.fData.length z5U)]]) w₀ w₀ [stb z3r 65 [(.int .i64 zC.fState.fPc),(.int .i64 zC.fState.fLeft),(.int .u8 zC.fState.fRegs.a0),(.int .u8 zC.fState.fRegs.a1),(.int .u8 zC.fState.fRegs.a2),(.int .u8 zC.fState.fRegs.a3),(.int .u8 zC.fX.fOp),(.int .i64 zC.fX.fA),(.int .i64 zC.fX.fB),(.int .i64 zC.fX.fC),(.slice z5R zC.fMem.length z5S),(.int .u8 zC.fAct.fKind),(.int .i64 zC.fAct.fA),(.int .i64 zC.fAct.fB),(.slice z5T zC.fAct.fData.length z5U)]]) :
  Calls Tryd.prog 94 #[(.pointer (some ⟨z3r,0,none⟩))] w₀ fun e w'=>∃ zaU : Option Addr,∃ zaV : Nat,∃ zaW : Option Addr,∃ zaX : Nat,e = .returned (.tuple #[]) ∧ ((ZS Z 1 (fun r x=>r = e5 x) zaU zaV r.fMem) ∧ (ZS Z 1 (fun r x=>r = e5 x) zaW zaX r.fAct.fData)) ∧ Hp (fps [stb z3r 65 [(.int .i64 zC.fState.fPc),(.int .i64 zC.fState.fLeft),(.int .u8 zC.fState.fRegs.a0),(.int .u8 zC.fState.fRegs.a1),(.int .u8 zC.fState.fRegs.a2),(.int .u8 zC.fState.fRegs.a3),(.int .u8 zC.fX.fOp),(.int .i64 zC.fX.fA),(.int .i64 zC.fX.fB),(.int .i64 zC.fX.fC),(.slice z5R zC.fMem.length z5S),(.int .u8 zC.fAct.fKind),(.int .i64 zC.fAct.fA),(.int .i64 zC.fAct.fB),(.slice z5T zC.fAct.fData.length z5U)]]) w₀ w' [stb z3r 65 [(.int .i64 r.fState.fPc),(.int .i64 r.fState.fLeft),(.int .u8 r.fState.fRegs.a0),(.int .u8 r.fState.fRegs.a1),(.int .u8 r.fState.fRegs.a2),(.int .u8 r.fState.fRegs.a3),(.int .u8 r.fX.fOp),(.int .i64 r.fX.fA),(.int .i64 r.fX.fB),(.int .i64 r.fX.fC),(.slice zaU r.fMem.length zaV),(.int .u8 r.fAct.fKind),(.int .i64 r.fAct.fA),(.int .i64 r.fAct.fB),(.slice zaW r.fAct.fData.length zaX)]]:=by
 unfold y1I at h
 refine Calls.y8 (vs:=[(.pointer (some ⟨z3r,0,none⟩))]) (pre:=[stb z3r 65 [(.int .i64 zC.fState.fPc),(.int .i64 zC.fState.fLeft),(.int .u8 zC.fState.fRegs.a0),(.int .u8 zC.fState.fRegs.a1),(.int .u8 zC.fState.fRegs.a2),(.int .u8 zC.fState.fRegs.a3),(.int .u8 zC.fX.fOp),(.int .i64 zC.fX.fA),(.int .i64 zC.fX.fB),(.int .i64 zC.fX.fC),(.slice z5R zC.fMem.length z5S),(.int .u8 zC.fAct.fKind),(.int .i64 zC.fAct.fA),(.int .i64 zC.fAct.fB),(.slice z5T zC.fAct.fData.length z5U)]]) (env:=[(0,(.pointer (some ⟨z3r,0,none⟩)))]) Tryd.func94 rfl Tryd.ntmps94 rfl (hown) rfl ?_
 obtain ⟨zaT,zeF,h⟩:=zh h
 refine WC.a (WL.pu rfl ?_)
 refine WL.yj (dd:=3) rfl rfl rfl (zI (l:=[.tmp 2,.const (.int .u8 7),.const (.slice none 0 0)]) Tryd.call110 (.cons rfl (.cons rfl (.cons rfl .nil)))) (.cons .here .nil) (cc hz (.cons .here .nil) fun w pz ho=>yk _ _ _ _ _ _ _ _ _ _ _ _ zeF w pz zeD zeE (ZS.nil _ _ _) ho) ?_
 rintro zeG zeH zeI zeJ ⟨zeK,zeL⟩
 refine WL.nil ?_
 obtain rfl:=Option.some.inj h
 refine WX.yd Tryd.results94 .nil (fun w hw=>?_)
 exact ⟨zeG,zeH,zeI,zeJ,y12,⟨zeK,zeL⟩,hw.sub (.cons .here .nil)⟩
def y1J (zD : Sproc_execution) : Option Sproc_execution :=
 (yg zD 8 []).bind fun zaY=>some zaY
set_option maxRecDepth 20000 in
theorem y3G (Z : Zp) (z3s : Nat) (z5V : Option Addr) (z5W : Nat) (z5X : Option Addr) (z5Y : Nat) (zD : Sproc_execution) (r : Sproc_execution)
  (h : y1J zD = some r) (w₀ : World) (hz : PZ (fps [stb z3s 65 [(.int .i64 zD.fState.fPc),(.int .i64 zD.fState.fLeft),(.int .u8 zD.fState.fRegs.a0),(.int .u8 zD.fState.fRegs.a1),(.int .u8 zD.fState.fRegs.a2),(.int .u8 zD.fState.fRegs.a3),(.int .u8 zD.fX.fOp),(.int .i64 zD.fX.fA),(.int .i64 zD.fX.fB),(.int .i64 zD.fX.fC),(.slice z5V zD.fMem.length z5W),(.int .u8 zD.fAct.fKind),(.int .i64 zD.fAct.fA),(.int .i64 zD.fAct.fB),(.slice z5X zD.fAct.fData.length z5Y)]]) w₀ Z)
  (zeM : ZS Z 1 (fun r x=>r = e5 x) z5V z5W zD.fMem)
  (zeN : ZS Z 1 (fun r x=>r = e5 x) z5X z5Y zD.fAct.fData)
  (hown : Hp (fps [stb z3s 65 [(.int .i64 zD.fState.fPc),(.int .i64 zD.fState.fLeft),(.int .u8 zD.fState.fRegs.a0),(.int .u8 zD.fState.fRegs.a1),(.int .u8 zD.fState.fRegs.a2),(.int .u8 zD.fState.fRegs.a3),(.int .u8 zD.fX.fOp),(.int .i64 zD.fX.fA),(.int .i64 zD.fX.fB),(.int .i64 zD.fX.fC),(.slice z5V zD.fMem.length z5W),(.int .u8 zD.fAct.fKind),(.int .i64 zD.fAct.fA),(.int .i64 zD.fAct.fB),(.slice z5X zD.fAct.fData.length z5Y)]]) w₀ w₀ [stb z3s 65 [(.int .i64 zD.fState.fPc),(.int .i64 zD.fState.fLeft),(.int .u8 zD.fState.fRegs.a0),(.int .u8 zD.fState.fRegs.a1),(.int .u8 zD.fState.fRegs.a2),(.int .u8 zD.fState.fRegs.a3),(.int .u8 zD.fX.fOp),(.int .i64 zD.fX.fA),(.int .i64 zD.fX.fB),(.int .i64 zD.fX.fC),(.slice z5V zD.fMem.length z5W),(.int .u8 zD.fAct.fKind),(.int .i64 zD.fAct.fA),(.int .i64 zD.fAct.fB),(.slice z5X zD.fAct.fData.length z5Y)]]) :
  Calls Tryd.prog 95 #[(.pointer (some ⟨z3s,0,none⟩))] w₀ fun e w'=>∃ zaZ : Option Addr,∃ zb0 : Nat,∃ zb1 : Option Addr,∃ zb2 : Nat,e = .returned (.tuple #[]) ∧ ((ZS Z 1 (fun r x=>r = e5 x) zaZ zb0 r.fMem) ∧ (ZS Z 1 (fun r x=>r = e5 x) zb1 zb2 r.fAct.fData)) ∧ Hp (fps [stb z3s 65 [(.int .i64 zD.fState.fPc),(.int .i64 zD.fState.fLeft),(.int .u8 zD.fState.fRegs.a0),(.int .u8 zD.fState.fRegs.a1),(.int .u8 zD.fState.fRegs.a2),(.int .u8 zD.fState.fRegs.a3),(.int .u8 zD.fX.fOp),(.int .i64 zD.fX.fA),(.int .i64 zD.fX.fB),(.int .i64 zD.fX.fC),(.slice z5V zD.fMem.length z5W),(.int .u8 zD.fAct.fKind),(.int .i64 zD.fAct.fA),(.int .i64 zD.fAct.fB),(.slice z5X zD.fAct.fData.length z5Y)]]) w₀ w' [stb z3s 65 [(.int .i64 r.fState.fPc),(.int .i64 r.fState.fLeft),(.int .u8 r.fState.fRegs.a0),(.int .u8 r.fState.fRegs.a1),(.int .u8 r.fState.fRegs.a2),(.int .u8 r.fState.fRegs.a3),(.int .u8 r.fX.fOp),(.int .i64 r.fX.fA),(.int .i64 r.fX.fB),(.int .i64 r.fX.fC),(.slice zaZ r.fMem.length zb0),(.int .u8 r.fAct.fKind),(.int .i64 r.fAct.fA),(.int .i64 r.fAct.fB),(.slice zb1 r.fAct.fData.length zb2)]]:=by
 unfold y1J at h
 refine Calls.y8 (vs:=[(.pointer (some ⟨z3s,0,none⟩))]) (pre:=[stb z3s 65 [(.int .i64 zD.fState.fPc),(.int .i64 zD.fState.fLeft),(.int .u8 zD.fState.fRegs.a0),(.int .u8 zD.fState.fRegs.a1),(.int .u8 zD.fState.fRegs.a2),(.int .u8 zD.fState.fRegs.a3),(.int .u8 zD.fX.fOp),(.int .i64 zD.fX.fA),(.int .i64 zD.fX.fB),(.int .i64 zD.fX.fC),(.slice z5V zD.fMem.length z5W),(.int .u8 zD.fAct.fKind),(.int .i64 zD.fAct.fA),(.int .i64 zD.fAct.fB),(.slice z5X zD.fAct.fData.length z5Y)]]) (env:=[(0,(.pointer (some ⟨z3s,0,none⟩)))]) Tryd.func95 rfl Tryd.ntmps95 rfl (hown) rfl ?_
 obtain ⟨zaY,zeO,h⟩:=zh h
 refine WC.a (WL.pu rfl ?_)
 refine WL.yj (dd:=3) rfl rfl rfl (zI (l:=[.tmp 2,.const (.int .u8 8),.const (.slice none 0 0)]) Tryd.call110 (.cons rfl (.cons rfl (.cons rfl .nil)))) (.cons .here .nil) (cc hz (.cons .here .nil) fun w pz ho=>yk _ _ _ _ _ _ _ _ _ _ _ _ zeO w pz zeM zeN (ZS.nil _ _ _) ho) ?_
 rintro zeP zeQ zeR zeS ⟨zeT,zeU⟩
 refine WL.nil ?_
 obtain rfl:=Option.some.inj h
 refine WX.yd Tryd.results95 .nil (fun w hw=>?_)
 exact ⟨zeP,zeQ,zeR,zeS,y12,⟨zeT,zeU⟩,hw.sub (.cons .here .nil)⟩
def y2c (zi : Sproc_execution) : Option Sproc_execution :=
 (yb zi zi.fX.fB).bind fun zeV=>chk ((0 : Int) ≤ zi.fX.fB ∧ zi.fX.fB < 4) ((yg zi 9 ([nth ([zi.fState.fRegs.a0,zi.fState.fRegs.a1,zi.fState.fRegs.a2,zi.fState.fRegs.a3] : List Int) zi.fX.fB] : List Int)).bind fun zb3=>some zb3)
set_option maxRecDepth 20000 in
theorem y4k (Z : Zp) (z3t : Nat) (z5Z : Option Addr) (z60 : Nat) (z61 : Option Addr) (z62 : Nat) (zi : Sproc_execution) (r : Sproc_execution)
  (h : y2c zi = some r) (w₀ : World) (hz : PZ (fps [stb z3t 65 [(.int .i64 zi.fState.fPc),(.int .i64 zi.fState.fLeft),(.int .u8 zi.fState.fRegs.a0),(.int .u8 zi.fState.fRegs.a1),(.int .u8 zi.fState.fRegs.a2),(.int .u8 zi.fState.fRegs.a3),(.int .u8 zi.fX.fOp),(.int .i64 zi.fX.fA),(.int .i64 zi.fX.fB),(.int .i64 zi.fX.fC),(.slice z5Z zi.fMem.length z60),(.int .u8 zi.fAct.fKind),(.int .i64 zi.fAct.fA),(.int .i64 zi.fAct.fB),(.slice z61 zi.fAct.fData.length z62)]]) w₀ Z)
  (zb4 : ZS Z 1 (fun r x=>r = e5 x) z5Z z60 zi.fMem)
  (zb5 : ZS Z 1 (fun r x=>r = e5 x) z61 z62 zi.fAct.fData)
  (hown : Hp (fps [stb z3t 65 [(.int .i64 zi.fState.fPc),(.int .i64 zi.fState.fLeft),(.int .u8 zi.fState.fRegs.a0),(.int .u8 zi.fState.fRegs.a1),(.int .u8 zi.fState.fRegs.a2),(.int .u8 zi.fState.fRegs.a3),(.int .u8 zi.fX.fOp),(.int .i64 zi.fX.fA),(.int .i64 zi.fX.fB),(.int .i64 zi.fX.fC),(.slice z5Z zi.fMem.length z60),(.int .u8 zi.fAct.fKind),(.int .i64 zi.fAct.fA),(.int .i64 zi.fAct.fB),(.slice z61 zi.fAct.fData.length z62)]]) w₀ w₀ [stb z3t 65 [(.int .i64 zi.fState.fPc),(.int .i64 zi.fState.fLeft),(.int .u8 zi.fState.fRegs.a0),(.int .u8 zi.fState.fRegs.a1),(.int .u8 zi.fState.fRegs.a2),(.int .u8 zi.fState.fRegs.a3),(.int .u8 zi.fX.fOp),(.int .i64 zi.fX.fA),(.int .i64 zi.fX.fB),(.int .i64 zi.fX.fC),(.slice z5Z zi.fMem.length z60),(.int .u8 zi.fAct.fKind),(.int .i64 zi.fAct.fA),(.int .i64 zi.fAct.fB),(.slice z61 zi.fAct.fData.length z62)]]) :
  Calls Tryd.prog 96 #[(.pointer (some ⟨z3t,0,none⟩))] w₀ fun e w'=>∃ Zn : Zp,∃ zb6 : Option Addr,∃ zb7 : Nat,∃ zb8 : Option Addr,∃ zb9 : Nat,e = .returned (.tuple #[]) ∧ ((ZS (Z ++ Zn) 1 (fun r x=>r = e5 x) zb6 zb7 r.fMem) ∧ (ZS (Z ++ Zn) 1 (fun r x=>r = e5 x) zb8 zb9 r.fAct.fData)) ∧ Hp (fps [stb z3t 65 [(.int .i64 zi.fState.fPc),(.int .i64 zi.fState.fLeft),(.int .u8 zi.fState.fRegs.a0),(.int .u8 zi.fState.fRegs.a1),(.int .u8 zi.fState.fRegs.a2),(.int .u8 zi.fState.fRegs.a3),(.int .u8 zi.fX.fOp),(.int .i64 zi.fX.fA),(.int .i64 zi.fX.fB),(.int .i64 zi.fX.fC),(.slice z5Z zi.fMem.length z60),(.int .u8 zi.fAct.fKind),(.int .i64 zi.fAct.fA),(.int .i64 zi.fAct.fB),(.slice z61 zi.fAct.fData.length z62)]]) w₀ w' [fz Zn,stb z3t 65 [(.int .i64 r.fState.fPc),(.int .i64 r.fState.fLeft),(.int .u8 r.fState.fRegs.a0),(.int .u8 r.fState.fRegs.a1),(.int .u8 r.fState.fRegs.a2),(.int .u8 r.fState.fRegs.a3),(.int .u8 r.fX.fOp),(.int .i64 r.fX.fA),(.int .i64 r.fX.fB),(.int .i64 r.fX.fC),(.slice zb6 r.fMem.length zb7),(.int .u8 r.fAct.fKind),(.int .i64 r.fAct.fA),(.int .i64 r.fAct.fB),(.slice zb8 r.fAct.fData.length zb9)]]:=by
 unfold y2c at h
 refine Calls.y8 (vs:=[(.pointer (some ⟨z3t,0,none⟩))]) (pre:=[stb z3t 65 [(.int .i64 zi.fState.fPc),(.int .i64 zi.fState.fLeft),(.int .u8 zi.fState.fRegs.a0),(.int .u8 zi.fState.fRegs.a1),(.int .u8 zi.fState.fRegs.a2),(.int .u8 zi.fState.fRegs.a3),(.int .u8 zi.fX.fOp),(.int .i64 zi.fX.fA),(.int .i64 zi.fX.fB),(.int .i64 zi.fX.fC),(.slice z5Z zi.fMem.length z60),(.int .u8 zi.fAct.fKind),(.int .i64 zi.fAct.fA),(.int .i64 zi.fAct.fB),(.slice z61 zi.fAct.fData.length z62)]]) (env:=[(0,(.pointer (some ⟨z3t,0,none⟩)))]) Tryd.func96 rfl Tryd.ntmps96 rfl (hown) rfl ?_
 refine WC.pool ?_
 obtain ⟨zeV,zeW,h⟩:=zh h
 obtain ⟨zeX,h⟩:=y9 h
 obtain ⟨zb3,zeY,h⟩:=zh h
 refine WC.a (WL.pu rfl (WL.pu rfl (WL.pu rfl ?_)))
 refine WL.a (d:=5) rfl rfl rfl (y7 rfl) ?_
 refine WL.a (d:=6) rfl rfl rfl (y4 yH rfl rfl) ?_
 refine WL.a (d:=7) rfl rfl rfl (y4 y1x rfl rfl) ?_
 refine WL.a (d:=8) rfl rfl rfl (y6 yf rfl (yc .h1 rfl)) ?_
 refine WL.b (dd:=9) rfl rfl rfl (zI (l:=[.tmp 3,.tmp 8]) Tryd.call108 (.cons rfl (.cons rfl .nil))) .nil (y27 hz .nil .here (.cons .h1 .nil) fun w pz ho la=>yh _ _ _ _ _ _ _ _ _ zeW w pz ((zb4.mono (Zle.left _ _)).mono (Zle.left _ _)) ((zb5.mono (Zle.left _ _)).mono (Zle.left _ _)) ((la _ (.head _) _).stb)) ?_
 refine WL.a (d:=10) rfl rfl rfl (y7 rfl) ?_
 refine WL.a (d:=11) rfl rfl rfl (y6 yN rfl (y1r (l:=([zi.fState.fRegs.a0,zi.fState.fRegs.a1,zi.fState.fRegs.a2,zi.fState.fRegs.a3] : List Int)) (f:=Value.int .u8) (k:=2) (m:=6) .h1 rfl rfl zeX)) ?_
 refine WL.new (dd:=12) rfl rfl rfl (yp (cs:=([nth ([zi.fState.fRegs.a0,zi.fState.fRegs.a1,zi.fState.fRegs.a2,zi.fState.fRegs.a3] : List Int) zi.fX.fB] : List Int).flatMap e5) y2g (Eos.parts (l:=[.tmp 11]) (.cons rfl .nil) [0]) (fun _=>by kernel_rfl) rfl (by unfold maxLen; omega)) ?_
 intro zml _
 refine WL.freezeS (ls:=([nth ([zi.fState.fRegs.a0,zi.fState.fRegs.a1,zi.fState.fRegs.a2,zi.fState.fRegs.a3] : List Int) zi.fX.fB] : List Int)) .here .here hz (RR.yP (enc:=e5) (fun _=>rfl) _) ?_
 intro zeZ zba zf0
 refine WL.yj (dd:=13) rfl rfl rfl (zI (l:=[.tmp 2,.const (.int .u8 9),.tmp 12]) Tryd.call110 (.cons rfl (.cons rfl (.cons rfl .nil)))) (.cons .h1 .nil) (ccz hz (.cons .h1 .nil) .here fun w pz ho=>yk _ _ _ _ _ _ _ _ _ _ _ _ zeY w pz (zb4.mono ((Zle.left _ _).trans zba)) (zb5.mono ((Zle.left _ _).trans zba)) zf0 ho) ?_
 rintro zf1 zf2 zf3 zf4 ⟨zf5,zf6⟩
 refine WL.nil ?_
 obtain rfl:=Option.some.inj h
 refine WX.yd Tryd.results96 .nil (fun w hw=>?_)
 exact ⟨zeZ,zf1,zf2,zf3,zf4,y12,⟨zf5,zf6⟩,hw.sub (.cons .h1 (.cons .here .nil))⟩
def y2d (zE : Sproc_execution) : Option Sproc_execution :=
 (yg zE 10 []).bind fun zbb=>some zbb
set_option maxRecDepth 20000 in
theorem y4l (Z : Zp) (z3u : Nat) (z63 : Option Addr) (z64 : Nat) (z65 : Option Addr) (z66 : Nat) (zE : Sproc_execution) (r : Sproc_execution)
  (h : y2d zE = some r) (w₀ : World) (hz : PZ (fps [stb z3u 65 [(.int .i64 zE.fState.fPc),(.int .i64 zE.fState.fLeft),(.int .u8 zE.fState.fRegs.a0),(.int .u8 zE.fState.fRegs.a1),(.int .u8 zE.fState.fRegs.a2),(.int .u8 zE.fState.fRegs.a3),(.int .u8 zE.fX.fOp),(.int .i64 zE.fX.fA),(.int .i64 zE.fX.fB),(.int .i64 zE.fX.fC),(.slice z63 zE.fMem.length z64),(.int .u8 zE.fAct.fKind),(.int .i64 zE.fAct.fA),(.int .i64 zE.fAct.fB),(.slice z65 zE.fAct.fData.length z66)]]) w₀ Z)
  (zf7 : ZS Z 1 (fun r x=>r = e5 x) z63 z64 zE.fMem)
  (zf8 : ZS Z 1 (fun r x=>r = e5 x) z65 z66 zE.fAct.fData)
  (hown : Hp (fps [stb z3u 65 [(.int .i64 zE.fState.fPc),(.int .i64 zE.fState.fLeft),(.int .u8 zE.fState.fRegs.a0),(.int .u8 zE.fState.fRegs.a1),(.int .u8 zE.fState.fRegs.a2),(.int .u8 zE.fState.fRegs.a3),(.int .u8 zE.fX.fOp),(.int .i64 zE.fX.fA),(.int .i64 zE.fX.fB),(.int .i64 zE.fX.fC),(.slice z63 zE.fMem.length z64),(.int .u8 zE.fAct.fKind),(.int .i64 zE.fAct.fA),(.int .i64 zE.fAct.fB),(.slice z65 zE.fAct.fData.length z66)]]) w₀ w₀ [stb z3u 65 [(.int .i64 zE.fState.fPc),(.int .i64 zE.fState.fLeft),(.int .u8 zE.fState.fRegs.a0),(.int .u8 zE.fState.fRegs.a1),(.int .u8 zE.fState.fRegs.a2),(.int .u8 zE.fState.fRegs.a3),(.int .u8 zE.fX.fOp),(.int .i64 zE.fX.fA),(.int .i64 zE.fX.fB),(.int .i64 zE.fX.fC),(.slice z63 zE.fMem.length z64),(.int .u8 zE.fAct.fKind),(.int .i64 zE.fAct.fA),(.int .i64 zE.fAct.fB),(.slice z65 zE.fAct.fData.length z66)]]) :
  Calls Tryd.prog 97 #[(.pointer (some ⟨z3u,0,none⟩))] w₀ fun e w'=>∃ zbc : Option Addr,∃ zbd : Nat,∃ zbe : Option Addr,∃ zbf : Nat,e = .returned (.tuple #[]) ∧ ((ZS Z 1 (fun r x=>r = e5 x) zbc zbd r.fMem) ∧ (ZS Z 1 (fun r x=>r = e5 x) zbe zbf r.fAct.fData)) ∧ Hp (fps [stb z3u 65 [(.int .i64 zE.fState.fPc),(.int .i64 zE.fState.fLeft),(.int .u8 zE.fState.fRegs.a0),(.int .u8 zE.fState.fRegs.a1),(.int .u8 zE.fState.fRegs.a2),(.int .u8 zE.fState.fRegs.a3),(.int .u8 zE.fX.fOp),(.int .i64 zE.fX.fA),(.int .i64 zE.fX.fB),(.int .i64 zE.fX.fC),(.slice z63 zE.fMem.length z64),(.int .u8 zE.fAct.fKind),(.int .i64 zE.fAct.fA),(.int .i64 zE.fAct.fB),(.slice z65 zE.fAct.fData.length z66)]]) w₀ w' [stb z3u 65 [(.int .i64 r.fState.fPc),(.int .i64 r.fState.fLeft),(.int .u8 r.fState.fRegs.a0),(.int .u8 r.fState.fRegs.a1),(.int .u8 r.fState.fRegs.a2),(.int .u8 r.fState.fRegs.a3),(.int .u8 r.fX.fOp),(.int .i64 r.fX.fA),(.int .i64 r.fX.fB),(.int .i64 r.fX.fC),(.slice zbc r.fMem.length zbd),(.int .u8 r.fAct.fKind),(.int .i64 r.fAct.fA),(.int .i64 r.fAct.fB),(.slice zbe r.fAct.fData.length zbf)]]:=by
 unfold y2d at h
 refine Calls.y8 (vs:=[(.pointer (some ⟨z3u,0,none⟩))]) (pre:=[stb z3u 65 [(.int .i64 zE.fState.fPc),(.int .i64 zE.fState.fLeft),(.int .u8 zE.fState.fRegs.a0),(.int .u8 zE.fState.fRegs.a1),(.int .u8 zE.fState.fRegs.a2),(.int .u8 zE.fState.fRegs.a3),(.int .u8 zE.fX.fOp),(.int .i64 zE.fX.fA),(.int .i64 zE.fX.fB),(.int .i64 zE.fX.fC),(.slice z63 zE.fMem.length z64),(.int .u8 zE.fAct.fKind),(.int .i64 zE.fAct.fA),(.int .i64 zE.fAct.fB),(.slice z65 zE.fAct.fData.length z66)]]) (env:=[(0,(.pointer (some ⟨z3u,0,none⟩)))]) Tryd.func97 rfl Tryd.ntmps97 rfl (hown) rfl ?_
 obtain ⟨zbb,zf9,h⟩:=zh h
 refine WC.a (WL.pu rfl ?_)
 refine WL.yj (dd:=3) rfl rfl rfl (zI (l:=[.tmp 2,.const (.int .u8 10),.const (.slice none 0 0)]) Tryd.call110 (.cons rfl (.cons rfl (.cons rfl .nil)))) (.cons .here .nil) (cc hz (.cons .here .nil) fun w pz ho=>yk _ _ _ _ _ _ _ _ _ _ _ _ zf9 w pz zf7 zf8 (ZS.nil _ _ _) ho) ?_
 rintro zfa zfb zfc zfd ⟨zfe,zff⟩
 refine WL.nil ?_
 obtain rfl:=Option.some.inj h
 refine WX.yd Tryd.results97 .nil (fun w hw=>?_)
 exact ⟨zfa,zfb,zfc,zfd,y12,⟨zfe,zff⟩,hw.sub (.cons .here .nil)⟩
def y1X (zj : Sproc_execution) : Option Sproc_execution :=
 (yb zj zj.fX.fB).bind fun zfg=>chk ((0 : Int) ≤ zj.fX.fB ∧ zj.fX.fB < 4) ((yg zj 11 ([nth ([zj.fState.fRegs.a0,zj.fState.fRegs.a1,zj.fState.fRegs.a2,zj.fState.fRegs.a3] : List Int) zj.fX.fB] : List Int)).bind fun zbg=>some zbg)
set_option maxRecDepth 20000 in
theorem y3W (Z : Zp) (z3v : Nat) (z67 : Option Addr) (z68 : Nat) (z69 : Option Addr) (z6a : Nat) (zj : Sproc_execution) (r : Sproc_execution)
  (h : y1X zj = some r) (w₀ : World) (hz : PZ (fps [stb z3v 65 [(.int .i64 zj.fState.fPc),(.int .i64 zj.fState.fLeft),(.int .u8 zj.fState.fRegs.a0),(.int .u8 zj.fState.fRegs.a1),(.int .u8 zj.fState.fRegs.a2),(.int .u8 zj.fState.fRegs.a3),(.int .u8 zj.fX.fOp),(.int .i64 zj.fX.fA),(.int .i64 zj.fX.fB),(.int .i64 zj.fX.fC),(.slice z67 zj.fMem.length z68),(.int .u8 zj.fAct.fKind),(.int .i64 zj.fAct.fA),(.int .i64 zj.fAct.fB),(.slice z69 zj.fAct.fData.length z6a)]]) w₀ Z)
  (zbh : ZS Z 1 (fun r x=>r = e5 x) z67 z68 zj.fMem)
  (zbi : ZS Z 1 (fun r x=>r = e5 x) z69 z6a zj.fAct.fData)
  (hown : Hp (fps [stb z3v 65 [(.int .i64 zj.fState.fPc),(.int .i64 zj.fState.fLeft),(.int .u8 zj.fState.fRegs.a0),(.int .u8 zj.fState.fRegs.a1),(.int .u8 zj.fState.fRegs.a2),(.int .u8 zj.fState.fRegs.a3),(.int .u8 zj.fX.fOp),(.int .i64 zj.fX.fA),(.int .i64 zj.fX.fB),(.int .i64 zj.fX.fC),(.slice z67 zj.fMem.length z68),(.int .u8 zj.fAct.fKind),(.int .i64 zj.fAct.fA),(.int .i64 zj.fAct.fB),(.slice z69 zj.fAct.fData.length z6a)]]) w₀ w₀ [stb z3v 65 [(.int .i64 zj.fState.fPc),(.int .i64 zj.fState.fLeft),(.int .u8 zj.fState.fRegs.a0),(.int .u8 zj.fState.fRegs.a1),(.int .u8 zj.fState.fRegs.a2),(.int .u8 zj.fState.fRegs.a3),(.int .u8 zj.fX.fOp),(.int .i64 zj.fX.fA),(.int .i64 zj.fX.fB),(.int .i64 zj.fX.fC),(.slice z67 zj.fMem.length z68),(.int .u8 zj.fAct.fKind),(.int .i64 zj.fAct.fA),(.int .i64 zj.fAct.fB),(.slice z69 zj.fAct.fData.length z6a)]]) :
  Calls Tryd.prog 98 #[(.pointer (some ⟨z3v,0,none⟩))] w₀ fun e w'=>∃ Zn : Zp,∃ zbj : Option Addr,∃ zbk : Nat,∃ zbl : Option Addr,∃ zbm : Nat,e = .returned (.tuple #[]) ∧ ((ZS (Z ++ Zn) 1 (fun r x=>r = e5 x) zbj zbk r.fMem) ∧ (ZS (Z ++ Zn) 1 (fun r x=>r = e5 x) zbl zbm r.fAct.fData)) ∧ Hp (fps [stb z3v 65 [(.int .i64 zj.fState.fPc),(.int .i64 zj.fState.fLeft),(.int .u8 zj.fState.fRegs.a0),(.int .u8 zj.fState.fRegs.a1),(.int .u8 zj.fState.fRegs.a2),(.int .u8 zj.fState.fRegs.a3),(.int .u8 zj.fX.fOp),(.int .i64 zj.fX.fA),(.int .i64 zj.fX.fB),(.int .i64 zj.fX.fC),(.slice z67 zj.fMem.length z68),(.int .u8 zj.fAct.fKind),(.int .i64 zj.fAct.fA),(.int .i64 zj.fAct.fB),(.slice z69 zj.fAct.fData.length z6a)]]) w₀ w' [fz Zn,stb z3v 65 [(.int .i64 r.fState.fPc),(.int .i64 r.fState.fLeft),(.int .u8 r.fState.fRegs.a0),(.int .u8 r.fState.fRegs.a1),(.int .u8 r.fState.fRegs.a2),(.int .u8 r.fState.fRegs.a3),(.int .u8 r.fX.fOp),(.int .i64 r.fX.fA),(.int .i64 r.fX.fB),(.int .i64 r.fX.fC),(.slice zbj r.fMem.length zbk),(.int .u8 r.fAct.fKind),(.int .i64 r.fAct.fA),(.int .i64 r.fAct.fB),(.slice zbl r.fAct.fData.length zbm)]]:=by
 unfold y1X at h
 refine Calls.y8 (vs:=[(.pointer (some ⟨z3v,0,none⟩))]) (pre:=[stb z3v 65 [(.int .i64 zj.fState.fPc),(.int .i64 zj.fState.fLeft),(.int .u8 zj.fState.fRegs.a0),(.int .u8 zj.fState.fRegs.a1),(.int .u8 zj.fState.fRegs.a2),(.int .u8 zj.fState.fRegs.a3),(.int .u8 zj.fX.fOp),(.int .i64 zj.fX.fA),(.int .i64 zj.fX.fB),(.int .i64 zj.fX.fC),(.slice z67 zj.fMem.length z68),(.int .u8 zj.fAct.fKind),(.int .i64 zj.fAct.fA),(.int .i64 zj.fAct.fB),(.slice z69 zj.fAct.fData.length z6a)]]) (env:=[(0,(.pointer (some ⟨z3v,0,none⟩)))]) Tryd.func98 rfl Tryd.ntmps98 rfl (hown) rfl ?_
 refine WC.pool ?_
 obtain ⟨zfg,zfh,h⟩:=zh h
 obtain ⟨zfi,h⟩:=y9 h
 obtain ⟨zbg,zfj,h⟩:=zh h
 refine WC.a (WL.pu rfl (WL.pu rfl (WL.pu rfl ?_)))
 refine WL.a (d:=5) rfl rfl rfl (y7 rfl) ?_
 refine WL.a (d:=6) rfl rfl rfl (y4 yH rfl rfl) ?_
 refine WL.a (d:=7) rfl rfl rfl (y4 y1x rfl rfl) ?_
 refine WL.a (d:=8) rfl rfl rfl (y6 yf rfl (yc .h1 rfl)) ?_
 refine WL.b (dd:=9) rfl rfl rfl (zI (l:=[.tmp 3,.tmp 8]) Tryd.call108 (.cons rfl (.cons rfl .nil))) .nil (y27 hz .nil .here (.cons .h1 .nil) fun w pz ho la=>yh _ _ _ _ _ _ _ _ _ zfh w pz ((zbh.mono (Zle.left _ _)).mono (Zle.left _ _)) ((zbi.mono (Zle.left _ _)).mono (Zle.left _ _)) ((la _ (.head _) _).stb)) ?_
 refine WL.a (d:=10) rfl rfl rfl (y7 rfl) ?_
 refine WL.a (d:=11) rfl rfl rfl (y6 yN rfl (y1r (l:=([zj.fState.fRegs.a0,zj.fState.fRegs.a1,zj.fState.fRegs.a2,zj.fState.fRegs.a3] : List Int)) (f:=Value.int .u8) (k:=2) (m:=6) .h1 rfl rfl zfi)) ?_
 refine WL.new (dd:=12) rfl rfl rfl (yp (cs:=([nth ([zj.fState.fRegs.a0,zj.fState.fRegs.a1,zj.fState.fRegs.a2,zj.fState.fRegs.a3] : List Int) zj.fX.fB] : List Int).flatMap e5) y2g (Eos.parts (l:=[.tmp 11]) (.cons rfl .nil) [0]) (fun _=>by kernel_rfl) rfl (by unfold maxLen; omega)) ?_
 intro zmm _
 refine WL.freezeS (ls:=([nth ([zj.fState.fRegs.a0,zj.fState.fRegs.a1,zj.fState.fRegs.a2,zj.fState.fRegs.a3] : List Int) zj.fX.fB] : List Int)) .here .here hz (RR.yP (enc:=e5) (fun _=>rfl) _) ?_
 intro zfk zbn zfl
 refine WL.yj (dd:=13) rfl rfl rfl (zI (l:=[.tmp 2,.const (.int .u8 11),.tmp 12]) Tryd.call110 (.cons rfl (.cons rfl (.cons rfl .nil)))) (.cons .h1 .nil) (ccz hz (.cons .h1 .nil) .here fun w pz ho=>yk _ _ _ _ _ _ _ _ _ _ _ _ zfj w pz (zbh.mono ((Zle.left _ _).trans zbn)) (zbi.mono ((Zle.left _ _).trans zbn)) zfl ho) ?_
 rintro zfm zfn zfo zfp ⟨zfq,zfr⟩
 refine WL.nil ?_
 obtain rfl:=Option.some.inj h
 refine WX.yd Tryd.results98 .nil (fun w hw=>?_)
 exact ⟨zfk,zfm,zfn,zfo,zfp,y12,⟨zfq,zfr⟩,hw.sub (.cons .h1 (.cons .here .nil))⟩
def y1Y (zF : Sproc_execution) : Option Sproc_execution :=
 (yg zF 12 []).bind fun zbo=>some zbo
set_option maxRecDepth 20000 in
theorem y3X (Z : Zp) (z3w : Nat) (z6b : Option Addr) (z6c : Nat) (z6d : Option Addr) (z6e : Nat) (zF : Sproc_execution) (r : Sproc_execution)
  (h : y1Y zF = some r) (w₀ : World) (hz : PZ (fps [stb z3w 65 [(.int .i64 zF.fState.fPc),(.int .i64 zF.fState.fLeft),(.int .u8 zF.fState.fRegs.a0),(.int .u8 zF.fState.fRegs.a1),(.int .u8 zF.fState.fRegs.a2),(.int .u8 zF.fState.fRegs.a3),(.int .u8 zF.fX.fOp),(.int .i64 zF.fX.fA),(.int .i64 zF.fX.fB),(.int .i64 zF.fX.fC),(.slice z6b zF.fMem.length z6c),(.int .u8 zF.fAct.fKind),(.int .i64 zF.fAct.fA),(.int .i64 zF.fAct.fB),(.slice z6d zF.fAct.fData.length z6e)]]) w₀ Z)
  (zfs : ZS Z 1 (fun r x=>r = e5 x) z6b z6c zF.fMem)
  (zft : ZS Z 1 (fun r x=>r = e5 x) z6d z6e zF.fAct.fData)
  (hown : Hp (fps [stb z3w 65 [(.int .i64 zF.fState.fPc),(.int .i64 zF.fState.fLeft),(.int .u8 zF.fState.fRegs.a0),(.int .u8 zF.fState.fRegs.a1),(.int .u8 zF.fState.fRegs.a2),(.int .u8 zF.fState.fRegs.a3),(.int .u8 zF.fX.fOp),(.int .i64 zF.fX.fA),(.int .i64 zF.fX.fB),(.int .i64 zF.fX.fC),(.slice z6b zF.fMem.length z6c),(.int .u8 zF.fAct.fKind),(.int .i64 zF.fAct.fA),(.int .i64 zF.fAct.fB),(.slice z6d zF.fAct.fData.length z6e)]]) w₀ w₀ [stb z3w 65 [(.int .i64 zF.fState.fPc),(.int .i64 zF.fState.fLeft),(.int .u8 zF.fState.fRegs.a0),(.int .u8 zF.fState.fRegs.a1),(.int .u8 zF.fState.fRegs.a2),(.int .u8 zF.fState.fRegs.a3),(.int .u8 zF.fX.fOp),(.int .i64 zF.fX.fA),(.int .i64 zF.fX.fB),(.int .i64 zF.fX.fC),(.slice z6b zF.fMem.length z6c),(.int .u8 zF.fAct.fKind),(.int .i64 zF.fAct.fA),(.int .i64 zF.fAct.fB),(.slice z6d zF.fAct.fData.length z6e)]]) :
  Calls Tryd.prog 99 #[(.pointer (some ⟨z3w,0,none⟩))] w₀ fun e w'=>∃ zbp : Option Addr,∃ zbq : Nat,∃ zbr : Option Addr,∃ zbs : Nat,e = .returned (.tuple #[]) ∧ ((ZS Z 1 (fun r x=>r = e5 x) zbp zbq r.fMem) ∧ (ZS Z 1 (fun r x=>r = e5 x) zbr zbs r.fAct.fData)) ∧ Hp (fps [stb z3w 65 [(.int .i64 zF.fState.fPc),(.int .i64 zF.fState.fLeft),(.int .u8 zF.fState.fRegs.a0),(.int .u8 zF.fState.fRegs.a1),(.int .u8 zF.fState.fRegs.a2),(.int .u8 zF.fState.fRegs.a3),(.int .u8 zF.fX.fOp),(.int .i64 zF.fX.fA),(.int .i64 zF.fX.fB),(.int .i64 zF.fX.fC),(.slice z6b zF.fMem.length z6c),(.int .u8 zF.fAct.fKind),(.int .i64 zF.fAct.fA),(.int .i64 zF.fAct.fB),(.slice z6d zF.fAct.fData.length z6e)]]) w₀ w' [stb z3w 65 [(.int .i64 r.fState.fPc),(.int .i64 r.fState.fLeft),(.int .u8 r.fState.fRegs.a0),(.int .u8 r.fState.fRegs.a1),(.int .u8 r.fState.fRegs.a2),(.int .u8 r.fState.fRegs.a3),(.int .u8 r.fX.fOp),(.int .i64 r.fX.fA),(.int .i64 r.fX.fB),(.int .i64 r.fX.fC),(.slice zbp r.fMem.length zbq),(.int .u8 r.fAct.fKind),(.int .i64 r.fAct.fA),(.int .i64 r.fAct.fB),(.slice zbr r.fAct.fData.length zbs)]]:=by
 unfold y1Y at h
 refine Calls.y8 (vs:=[(.pointer (some ⟨z3w,0,none⟩))]) (pre:=[stb z3w 65 [(.int .i64 zF.fState.fPc),(.int .i64 zF.fState.fLeft),(.int .u8 zF.fState.fRegs.a0),(.int .u8 zF.fState.fRegs.a1),(.int .u8 zF.fState.fRegs.a2),(.int .u8 zF.fState.fRegs.a3),(.int .u8 zF.fX.fOp),(.int .i64 zF.fX.fA),(.int .i64 zF.fX.fB),(.int .i64 zF.fX.fC),(.slice z6b zF.fMem.length z6c),(.int .u8 zF.fAct.fKind),(.int .i64 zF.fAct.fA),(.int .i64 zF.fAct.fB),(.slice z6d zF.fAct.fData.length z6e)]]) (env:=[(0,(.pointer (some ⟨z3w,0,none⟩)))]) Tryd.func99 rfl Tryd.ntmps99 rfl (hown) rfl ?_
 obtain ⟨zbo,zfu,h⟩:=zh h
 refine WC.a (WL.pu rfl ?_)
 refine WL.yj (dd:=3) rfl rfl rfl (zI (l:=[.tmp 2,.const (.int .u8 12),.const (.slice none 0 0)]) Tryd.call110 (.cons rfl (.cons rfl (.cons rfl .nil)))) (.cons .here .nil) (cc hz (.cons .here .nil) fun w pz ho=>yk _ _ _ _ _ _ _ _ _ _ _ _ zfu w pz zfs zft (ZS.nil _ _ _) ho) ?_
 rintro zfv zfw zfx zfy ⟨zfz,zfA⟩
 refine WL.nil ?_
 obtain rfl:=Option.some.inj h
 refine WX.yd Tryd.results99 .nil (fun w hw=>?_)
 exact ⟨zfv,zfw,zfx,zfy,y12,⟨zfz,zfA⟩,hw.sub (.cons .here .nil)⟩
def y1K (zG : Sproc_execution) : Option Sproc_execution :=
 (yg zG 13 []).bind fun zbt=>some zbt
set_option maxRecDepth 20000 in
theorem y3H (Z : Zp) (z3x : Nat) (z6f : Option Addr) (z6g : Nat) (z6h : Option Addr) (z6i : Nat) (zG : Sproc_execution) (r : Sproc_execution)
  (h : y1K zG = some r) (w₀ : World) (hz : PZ (fps [stb z3x 65 [(.int .i64 zG.fState.fPc),(.int .i64 zG.fState.fLeft),(.int .u8 zG.fState.fRegs.a0),(.int .u8 zG.fState.fRegs.a1),(.int .u8 zG.fState.fRegs.a2),(.int .u8 zG.fState.fRegs.a3),(.int .u8 zG.fX.fOp),(.int .i64 zG.fX.fA),(.int .i64 zG.fX.fB),(.int .i64 zG.fX.fC),(.slice z6f zG.fMem.length z6g),(.int .u8 zG.fAct.fKind),(.int .i64 zG.fAct.fA),(.int .i64 zG.fAct.fB),(.slice z6h zG.fAct.fData.length z6i)]]) w₀ Z)
  (zfB : ZS Z 1 (fun r x=>r = e5 x) z6f z6g zG.fMem)
  (zfC : ZS Z 1 (fun r x=>r = e5 x) z6h z6i zG.fAct.fData)
  (hown : Hp (fps [stb z3x 65 [(.int .i64 zG.fState.fPc),(.int .i64 zG.fState.fLeft),(.int .u8 zG.fState.fRegs.a0),(.int .u8 zG.fState.fRegs.a1),(.int .u8 zG.fState.fRegs.a2),(.int .u8 zG.fState.fRegs.a3),(.int .u8 zG.fX.fOp),(.int .i64 zG.fX.fA),(.int .i64 zG.fX.fB),(.int .i64 zG.fX.fC),(.slice z6f zG.fMem.length z6g),(.int .u8 zG.fAct.fKind),(.int .i64 zG.fAct.fA),(.int .i64 zG.fAct.fB),(.slice z6h zG.fAct.fData.length z6i)]]) w₀ w₀ [stb z3x 65 [(.int .i64 zG.fState.fPc),(.int .i64 zG.fState.fLeft),(.int .u8 zG.fState.fRegs.a0),(.int .u8 zG.fState.fRegs.a1),(.int .u8 zG.fState.fRegs.a2),(.int .u8 zG.fState.fRegs.a3),(.int .u8 zG.fX.fOp),(.int .i64 zG.fX.fA),(.int .i64 zG.fX.fB),(.int .i64 zG.fX.fC),(.slice z6f zG.fMem.length z6g),(.int .u8 zG.fAct.fKind),(.int .i64 zG.fAct.fA),(.int .i64 zG.fAct.fB),(.slice z6h zG.fAct.fData.length z6i)]]) :
  Calls Tryd.prog 100 #[(.pointer (some ⟨z3x,0,none⟩))] w₀ fun e w'=>∃ zbu : Option Addr,∃ zbv : Nat,∃ zbw : Option Addr,∃ zbx : Nat,e = .returned (.tuple #[]) ∧ ((ZS Z 1 (fun r x=>r = e5 x) zbu zbv r.fMem) ∧ (ZS Z 1 (fun r x=>r = e5 x) zbw zbx r.fAct.fData)) ∧ Hp (fps [stb z3x 65 [(.int .i64 zG.fState.fPc),(.int .i64 zG.fState.fLeft),(.int .u8 zG.fState.fRegs.a0),(.int .u8 zG.fState.fRegs.a1),(.int .u8 zG.fState.fRegs.a2),(.int .u8 zG.fState.fRegs.a3),(.int .u8 zG.fX.fOp),(.int .i64 zG.fX.fA),(.int .i64 zG.fX.fB),(.int .i64 zG.fX.fC),(.slice z6f zG.fMem.length z6g),(.int .u8 zG.fAct.fKind),(.int .i64 zG.fAct.fA),(.int .i64 zG.fAct.fB),(.slice z6h zG.fAct.fData.length z6i)]]) w₀ w' [stb z3x 65 [(.int .i64 r.fState.fPc),(.int .i64 r.fState.fLeft),(.int .u8 r.fState.fRegs.a0),(.int .u8 r.fState.fRegs.a1),(.int .u8 r.fState.fRegs.a2),(.int .u8 r.fState.fRegs.a3),(.int .u8 r.fX.fOp),(.int .i64 r.fX.fA),(.int .i64 r.fX.fB),(.int .i64 r.fX.fC),(.slice zbu r.fMem.length zbv),(.int .u8 r.fAct.fKind),(.int .i64 r.fAct.fA),(.int .i64 r.fAct.fB),(.slice zbw r.fAct.fData.length zbx)]]:=by
 unfold y1K at h
 refine Calls.y8 (vs:=[(.pointer (some ⟨z3x,0,none⟩))]) (pre:=[stb z3x 65 [(.int .i64 zG.fState.fPc),(.int .i64 zG.fState.fLeft),(.int .u8 zG.fState.fRegs.a0),(.int .u8 zG.fState.fRegs.a1),(.int .u8 zG.fState.fRegs.a2),(.int .u8 zG.fState.fRegs.a3),(.int .u8 zG.fX.fOp),(.int .i64 zG.fX.fA),(.int .i64 zG.fX.fB),(.int .i64 zG.fX.fC),(.slice z6f zG.fMem.length z6g),(.int .u8 zG.fAct.fKind),(.int .i64 zG.fAct.fA),(.int .i64 zG.fAct.fB),(.slice z6h zG.fAct.fData.length z6i)]]) (env:=[(0,(.pointer (some ⟨z3x,0,none⟩)))]) Tryd.func100 rfl Tryd.ntmps100 rfl (hown) rfl ?_
 obtain ⟨zbt,zfD,h⟩:=zh h
 refine WC.a (WL.pu rfl ?_)
 refine WL.yj (dd:=3) rfl rfl rfl (zI (l:=[.tmp 2,.const (.int .u8 13),.const (.slice none 0 0)]) Tryd.call110 (.cons rfl (.cons rfl (.cons rfl .nil)))) (.cons .here .nil) (cc hz (.cons .here .nil) fun w pz ho=>yk _ _ _ _ _ _ _ _ _ _ _ _ zfD w pz zfB zfC (ZS.nil _ _ _) ho) ?_
 rintro zfE zfF zfG zfH ⟨zfI,zfJ⟩
 refine WL.nil ?_
 obtain rfl:=Option.some.inj h
 refine WX.yd Tryd.results100 .nil (fun w hw=>?_)
 exact ⟨zfE,zfF,zfG,zfH,y12,⟨zfI,zfJ⟩,hw.sub (.cons .here .nil)⟩
def y1Z (zp : Sproc_execution) : Option Sproc_execution :=
 some (⟨zp.fState,zp.fX,zp.fMem,(⟨14,0,0,([] : List Int)⟩ : Sproc_Act)⟩ : Sproc_execution)
set_option maxRecDepth 20000 in
theorem y3Y (Z : Zp) (z3y : Nat) (z4r : Option Addr) (z4s : Nat) (z6j : Option Addr) (z6k : Nat) (zp : Sproc_execution) (r : Sproc_execution)
  (h : y1Z zp = some r) (w₀ : World) (hz : PZ (fps [stb z3y 65 [(.int .i64 zp.fState.fPc),(.int .i64 zp.fState.fLeft),(.int .u8 zp.fState.fRegs.a0),(.int .u8 zp.fState.fRegs.a1),(.int .u8 zp.fState.fRegs.a2),(.int .u8 zp.fState.fRegs.a3),(.int .u8 zp.fX.fOp),(.int .i64 zp.fX.fA),(.int .i64 zp.fX.fB),(.int .i64 zp.fX.fC),(.slice z4r zp.fMem.length z4s),(.int .u8 zp.fAct.fKind),(.int .i64 zp.fAct.fA),(.int .i64 zp.fAct.fB),(.slice z6j zp.fAct.fData.length z6k)]]) w₀ Z)
  (zfK : ZS Z 1 (fun r x=>r = e5 x) z4r z4s zp.fMem)
  (zmn : ZS Z 1 (fun r x=>r = e5 x) z6j z6k zp.fAct.fData)
  (hown : Hp (fps [stb z3y 65 [(.int .i64 zp.fState.fPc),(.int .i64 zp.fState.fLeft),(.int .u8 zp.fState.fRegs.a0),(.int .u8 zp.fState.fRegs.a1),(.int .u8 zp.fState.fRegs.a2),(.int .u8 zp.fState.fRegs.a3),(.int .u8 zp.fX.fOp),(.int .i64 zp.fX.fA),(.int .i64 zp.fX.fB),(.int .i64 zp.fX.fC),(.slice z4r zp.fMem.length z4s),(.int .u8 zp.fAct.fKind),(.int .i64 zp.fAct.fA),(.int .i64 zp.fAct.fB),(.slice z6j zp.fAct.fData.length z6k)]]) w₀ w₀ [stb z3y 65 [(.int .i64 zp.fState.fPc),(.int .i64 zp.fState.fLeft),(.int .u8 zp.fState.fRegs.a0),(.int .u8 zp.fState.fRegs.a1),(.int .u8 zp.fState.fRegs.a2),(.int .u8 zp.fState.fRegs.a3),(.int .u8 zp.fX.fOp),(.int .i64 zp.fX.fA),(.int .i64 zp.fX.fB),(.int .i64 zp.fX.fC),(.slice z4r zp.fMem.length z4s),(.int .u8 zp.fAct.fKind),(.int .i64 zp.fAct.fA),(.int .i64 zp.fAct.fB),(.slice z6j zp.fAct.fData.length z6k)]]) :
  Calls Tryd.prog 101 #[(.pointer (some ⟨z3y,0,none⟩))] w₀ fun e w'=>∃ zby : Option Addr,∃ zbz : Nat,∃ zbA : Option Addr,∃ zbB : Nat,e = .returned (.tuple #[]) ∧ (ZS Z 1 (fun r x=>r = e5 x) zby zbz r.fMem) ∧ Hp (fps [stb z3y 65 [(.int .i64 zp.fState.fPc),(.int .i64 zp.fState.fLeft),(.int .u8 zp.fState.fRegs.a0),(.int .u8 zp.fState.fRegs.a1),(.int .u8 zp.fState.fRegs.a2),(.int .u8 zp.fState.fRegs.a3),(.int .u8 zp.fX.fOp),(.int .i64 zp.fX.fA),(.int .i64 zp.fX.fB),(.int .i64 zp.fX.fC),(.slice z4r zp.fMem.length z4s),(.int .u8 zp.fAct.fKind),(.int .i64 zp.fAct.fA),(.int .i64 zp.fAct.fB),(.slice z6j zp.fAct.fData.length z6k)]]) w₀ w' [stb z3y 65 [(.int .i64 r.fState.fPc),(.int .i64 r.fState.fLeft),(.int .u8 r.fState.fRegs.a0),(.int .u8 r.fState.fRegs.a1),(.int .u8 r.fState.fRegs.a2),(.int .u8 r.fState.fRegs.a3),(.int .u8 r.fX.fOp),(.int .i64 r.fX.fA),(.int .i64 r.fX.fB),(.int .i64 r.fX.fC),(.slice zby r.fMem.length zbz),(.int .u8 r.fAct.fKind),(.int .i64 r.fAct.fA),(.int .i64 r.fAct.fB),(.slice zbA r.fAct.fData.length zbB)],row (.slice zbA r.fAct.fData.length zbB) 5 1 (r.fAct.fData.flatMap e5)]:=by
 unfold y1Z at h
 refine Calls.y8 (vs:=[(.pointer (some ⟨z3y,0,none⟩))]) (pre:=[stb z3y 65 [(.int .i64 zp.fState.fPc),(.int .i64 zp.fState.fLeft),(.int .u8 zp.fState.fRegs.a0),(.int .u8 zp.fState.fRegs.a1),(.int .u8 zp.fState.fRegs.a2),(.int .u8 zp.fState.fRegs.a3),(.int .u8 zp.fX.fOp),(.int .i64 zp.fX.fA),(.int .i64 zp.fX.fB),(.int .i64 zp.fX.fC),(.slice z4r zp.fMem.length z4s),(.int .u8 zp.fAct.fKind),(.int .i64 zp.fAct.fA),(.int .i64 zp.fAct.fB),(.slice z6j zp.fAct.fData.length z6k)]]) (env:=[(0,(.pointer (some ⟨z3y,0,none⟩)))]) Tryd.func101 rfl Tryd.ntmps101 rfl (hown) rfl ?_
 refine WC.a (WL.pu rfl ?_)
 refine WL.a (d:=3) rfl rfl rfl (yZ (v:=(.agg #[(.int .u8 14),(.int .i64 0),(.int .i64 0),(.slice none 0 0)])) (Eos.parts (l:=[.const (.int .u8 14)]) (.cons rfl .nil) [0]) (fun _=>by kernel_rfl)) ?_
 refine WL.a (d:=4) rfl rfl rfl (y7 rfl) ?_
 refine WL.a (d:=5) rfl rfl rfl (y4 y3e rfl rfl) ?_
 refine WL.yo rfl rfl (y1g (ds:=[(.int .i64 zp.fState.fPc),(.int .i64 zp.fState.fLeft),(.int .u8 zp.fState.fRegs.a0),(.int .u8 zp.fState.fRegs.a1),(.int .u8 zp.fState.fRegs.a2),(.int .u8 zp.fState.fRegs.a3),(.int .u8 zp.fX.fOp),(.int .i64 zp.fX.fA),(.int .i64 zp.fX.fB),(.int .i64 zp.fX.fC),(.slice z4r zp.fMem.length z4s),(.int .u8 14),(.int .i64 0),(.int .i64 0),(.slice none 0 0)]) y1y rfl rfl rfl rfl rfl .here rfl rfl) ?_
 refine WL.nil ?_
 refine WX.nilRow 5 1 ?_
 obtain rfl:=Option.some.inj h
 refine WX.yd Tryd.results101 .nil (fun w hw=>?_)
 exact ⟨z4r,z4s,none,0,y12,zfK,hw.sub (.cons .h1 (.cons .here .nil))⟩
def y20 (zl : Sproc_execution) : Option Sproc_execution :=
 some (⟨(⟨zl.fX.fA,zl.fState.fLeft,zl.fState.fRegs⟩ : Sproc_State),zl.fX,zl.fMem,zl.fAct⟩ : Sproc_execution)
set_option maxRecDepth 20000 in
theorem y3Z (Z : Zp) (z3z : Nat) (z4t : Option Addr) (z4u : Nat) (z4v : Option Addr) (z4w : Nat) (zl : Sproc_execution) (r : Sproc_execution)
  (h : y20 zl = some r) (w₀ : World) (hz : PZ (fps [stb z3z 65 [(.int .i64 zl.fState.fPc),(.int .i64 zl.fState.fLeft),(.int .u8 zl.fState.fRegs.a0),(.int .u8 zl.fState.fRegs.a1),(.int .u8 zl.fState.fRegs.a2),(.int .u8 zl.fState.fRegs.a3),(.int .u8 zl.fX.fOp),(.int .i64 zl.fX.fA),(.int .i64 zl.fX.fB),(.int .i64 zl.fX.fC),(.slice z4t zl.fMem.length z4u),(.int .u8 zl.fAct.fKind),(.int .i64 zl.fAct.fA),(.int .i64 zl.fAct.fB),(.slice z4v zl.fAct.fData.length z4w)]]) w₀ Z)
  (zfL : ZS Z 1 (fun r x=>r = e5 x) z4t z4u zl.fMem)
  (zfM : ZS Z 1 (fun r x=>r = e5 x) z4v z4w zl.fAct.fData)
  (hown : Hp (fps [stb z3z 65 [(.int .i64 zl.fState.fPc),(.int .i64 zl.fState.fLeft),(.int .u8 zl.fState.fRegs.a0),(.int .u8 zl.fState.fRegs.a1),(.int .u8 zl.fState.fRegs.a2),(.int .u8 zl.fState.fRegs.a3),(.int .u8 zl.fX.fOp),(.int .i64 zl.fX.fA),(.int .i64 zl.fX.fB),(.int .i64 zl.fX.fC),(.slice z4t zl.fMem.length z4u),(.int .u8 zl.fAct.fKind),(.int .i64 zl.fAct.fA),(.int .i64 zl.fAct.fB),(.slice z4v zl.fAct.fData.length z4w)]]) w₀ w₀ [stb z3z 65 [(.int .i64 zl.fState.fPc),(.int .i64 zl.fState.fLeft),(.int .u8 zl.fState.fRegs.a0),(.int .u8 zl.fState.fRegs.a1),(.int .u8 zl.fState.fRegs.a2),(.int .u8 zl.fState.fRegs.a3),(.int .u8 zl.fX.fOp),(.int .i64 zl.fX.fA),(.int .i64 zl.fX.fB),(.int .i64 zl.fX.fC),(.slice z4t zl.fMem.length z4u),(.int .u8 zl.fAct.fKind),(.int .i64 zl.fAct.fA),(.int .i64 zl.fAct.fB),(.slice z4v zl.fAct.fData.length z4w)]]) :
  Calls Tryd.prog 102 #[(.pointer (some ⟨z3z,0,none⟩))] w₀ fun e w'=>∃ zbC : Option Addr,∃ zbD : Nat,∃ zbE : Option Addr,∃ zbF : Nat,e = .returned (.tuple #[]) ∧ ((ZS Z 1 (fun r x=>r = e5 x) zbC zbD r.fMem) ∧ (ZS Z 1 (fun r x=>r = e5 x) zbE zbF r.fAct.fData)) ∧ Hp (fps [stb z3z 65 [(.int .i64 zl.fState.fPc),(.int .i64 zl.fState.fLeft),(.int .u8 zl.fState.fRegs.a0),(.int .u8 zl.fState.fRegs.a1),(.int .u8 zl.fState.fRegs.a2),(.int .u8 zl.fState.fRegs.a3),(.int .u8 zl.fX.fOp),(.int .i64 zl.fX.fA),(.int .i64 zl.fX.fB),(.int .i64 zl.fX.fC),(.slice z4t zl.fMem.length z4u),(.int .u8 zl.fAct.fKind),(.int .i64 zl.fAct.fA),(.int .i64 zl.fAct.fB),(.slice z4v zl.fAct.fData.length z4w)]]) w₀ w' [stb z3z 65 [(.int .i64 r.fState.fPc),(.int .i64 r.fState.fLeft),(.int .u8 r.fState.fRegs.a0),(.int .u8 r.fState.fRegs.a1),(.int .u8 r.fState.fRegs.a2),(.int .u8 r.fState.fRegs.a3),(.int .u8 r.fX.fOp),(.int .i64 r.fX.fA),(.int .i64 r.fX.fB),(.int .i64 r.fX.fC),(.slice zbC r.fMem.length zbD),(.int .u8 r.fAct.fKind),(.int .i64 r.fAct.fA),(.int .i64 r.fAct.fB),(.slice zbE r.fAct.fData.length zbF)]]:=by
 unfold y20 at h
 refine Calls.y8 (vs:=[(.pointer (some ⟨z3z,0,none⟩))]) (pre:=[stb z3z 65 [(.int .i64 zl.fState.fPc),(.int .i64 zl.fState.fLeft),(.int .u8 zl.fState.fRegs.a0),(.int .u8 zl.fState.fRegs.a1),(.int .u8 zl.fState.fRegs.a2),(.int .u8 zl.fState.fRegs.a3),(.int .u8 zl.fX.fOp),(.int .i64 zl.fX.fA),(.int .i64 zl.fX.fB),(.int .i64 zl.fX.fC),(.slice z4t zl.fMem.length z4u),(.int .u8 zl.fAct.fKind),(.int .i64 zl.fAct.fA),(.int .i64 zl.fAct.fB),(.slice z4v zl.fAct.fData.length z4w)]]) (env:=[(0,(.pointer (some ⟨z3z,0,none⟩)))]) Tryd.func102 rfl Tryd.ntmps102 rfl (hown) rfl ?_
 refine WC.a (WL.pu rfl (WL.pu rfl ?_))
 refine WL.a (d:=4) rfl rfl rfl (y7 rfl) ?_
 refine WL.a (d:=5) rfl rfl rfl (y4 yH rfl rfl) ?_
 refine WL.a (d:=6) rfl rfl rfl (y4 y1b rfl rfl) ?_
 refine WL.a (d:=7) rfl rfl rfl (y6 yf rfl (yc .here rfl)) ?_
 refine WL.a (d:=8) rfl rfl rfl (y7 rfl) ?_
 refine WL.a (d:=9) rfl rfl rfl (y4 y1c rfl rfl) ?_
 refine WL.a (d:=10) rfl rfl rfl (y4 y2j rfl rfl) ?_
 refine WL.yo rfl rfl (y1g (ds:=[(.int .i64 zl.fX.fA),(.int .i64 zl.fState.fLeft),(.int .u8 zl.fState.fRegs.a0),(.int .u8 zl.fState.fRegs.a1),(.int .u8 zl.fState.fRegs.a2),(.int .u8 zl.fState.fRegs.a3),(.int .u8 zl.fX.fOp),(.int .i64 zl.fX.fA),(.int .i64 zl.fX.fB),(.int .i64 zl.fX.fC),(.slice z4t zl.fMem.length z4u),(.int .u8 zl.fAct.fKind),(.int .i64 zl.fAct.fA),(.int .i64 zl.fAct.fB),(.slice z4v zl.fAct.fData.length z4w)]) y2V rfl rfl rfl rfl rfl .here rfl rfl) ?_
 refine WL.nil ?_
 obtain rfl:=Option.some.inj h
 refine WX.yd Tryd.results102 .nil (fun w hw=>?_)
 exact ⟨z4t,z4u,z4v,z4w,y12,⟨zfL,zfM⟩,hw.sub (.cons .here .nil)⟩
def y21 (zf : Sproc_execution) : Option Sproc_execution :=
 (yb zf zf.fX.fA).bind fun zfN=>chk ((0 : Int) ≤ zf.fX.fA ∧ zf.fX.fA < 4) (if decide ((nth ([zf.fState.fRegs.a0,zf.fState.fRegs.a1,zf.fState.fRegs.a2,zf.fState.fRegs.a3] : List Int) zf.fX.fA) = 0) then some (⟨(⟨zf.fX.fB,zf.fState.fLeft,zf.fState.fRegs⟩ : Sproc_State),zf.fX,zf.fMem,zf.fAct⟩ : Sproc_execution) else some zf)
set_option maxRecDepth 20000 in
theorem y40 (Z : Zp) (z3A : Nat) (z3B : Option Addr) (z3C : Nat) (z3D : Option Addr) (z3E : Nat) (zf : Sproc_execution) (r : Sproc_execution)
  (h : y21 zf = some r) (w₀ : World) (hz : PZ (fps [stb z3A 65 [(.int .i64 zf.fState.fPc),(.int .i64 zf.fState.fLeft),(.int .u8 zf.fState.fRegs.a0),(.int .u8 zf.fState.fRegs.a1),(.int .u8 zf.fState.fRegs.a2),(.int .u8 zf.fState.fRegs.a3),(.int .u8 zf.fX.fOp),(.int .i64 zf.fX.fA),(.int .i64 zf.fX.fB),(.int .i64 zf.fX.fC),(.slice z3B zf.fMem.length z3C),(.int .u8 zf.fAct.fKind),(.int .i64 zf.fAct.fA),(.int .i64 zf.fAct.fB),(.slice z3D zf.fAct.fData.length z3E)]]) w₀ Z)
  (z8p : ZS Z 1 (fun r x=>r = e5 x) z3B z3C zf.fMem)
  (z8q : ZS Z 1 (fun r x=>r = e5 x) z3D z3E zf.fAct.fData)
  (hown : Hp (fps [stb z3A 65 [(.int .i64 zf.fState.fPc),(.int .i64 zf.fState.fLeft),(.int .u8 zf.fState.fRegs.a0),(.int .u8 zf.fState.fRegs.a1),(.int .u8 zf.fState.fRegs.a2),(.int .u8 zf.fState.fRegs.a3),(.int .u8 zf.fX.fOp),(.int .i64 zf.fX.fA),(.int .i64 zf.fX.fB),(.int .i64 zf.fX.fC),(.slice z3B zf.fMem.length z3C),(.int .u8 zf.fAct.fKind),(.int .i64 zf.fAct.fA),(.int .i64 zf.fAct.fB),(.slice z3D zf.fAct.fData.length z3E)]]) w₀ w₀ [stb z3A 65 [(.int .i64 zf.fState.fPc),(.int .i64 zf.fState.fLeft),(.int .u8 zf.fState.fRegs.a0),(.int .u8 zf.fState.fRegs.a1),(.int .u8 zf.fState.fRegs.a2),(.int .u8 zf.fState.fRegs.a3),(.int .u8 zf.fX.fOp),(.int .i64 zf.fX.fA),(.int .i64 zf.fX.fB),(.int .i64 zf.fX.fC),(.slice z3B zf.fMem.length z3C),(.int .u8 zf.fAct.fKind),(.int .i64 zf.fAct.fA),(.int .i64 zf.fAct.fB),(.slice z3D zf.fAct.fData.length z3E)]]) :
  Calls Tryd.prog 103 #[(.pointer (some ⟨z3A,0,none⟩))] w₀ fun e w'=>∃ zbG : Option Addr,∃ zbH : Nat,∃ zbI : Option Addr,∃ zbJ : Nat,e = .returned (.tuple #[]) ∧ ((ZS Z 1 (fun r x=>r = e5 x) zbG zbH r.fMem) ∧ (ZS Z 1 (fun r x=>r = e5 x) zbI zbJ r.fAct.fData)) ∧ Hp (fps [stb z3A 65 [(.int .i64 zf.fState.fPc),(.int .i64 zf.fState.fLeft),(.int .u8 zf.fState.fRegs.a0),(.int .u8 zf.fState.fRegs.a1),(.int .u8 zf.fState.fRegs.a2),(.int .u8 zf.fState.fRegs.a3),(.int .u8 zf.fX.fOp),(.int .i64 zf.fX.fA),(.int .i64 zf.fX.fB),(.int .i64 zf.fX.fC),(.slice z3B zf.fMem.length z3C),(.int .u8 zf.fAct.fKind),(.int .i64 zf.fAct.fA),(.int .i64 zf.fAct.fB),(.slice z3D zf.fAct.fData.length z3E)]]) w₀ w' [stb z3A 65 [(.int .i64 r.fState.fPc),(.int .i64 r.fState.fLeft),(.int .u8 r.fState.fRegs.a0),(.int .u8 r.fState.fRegs.a1),(.int .u8 r.fState.fRegs.a2),(.int .u8 r.fState.fRegs.a3),(.int .u8 r.fX.fOp),(.int .i64 r.fX.fA),(.int .i64 r.fX.fB),(.int .i64 r.fX.fC),(.slice zbG r.fMem.length zbH),(.int .u8 r.fAct.fKind),(.int .i64 r.fAct.fA),(.int .i64 r.fAct.fB),(.slice zbI r.fAct.fData.length zbJ)]]:=by
 unfold y21 at h
 refine Calls.y8 (vs:=[(.pointer (some ⟨z3A,0,none⟩))]) (pre:=[stb z3A 65 [(.int .i64 zf.fState.fPc),(.int .i64 zf.fState.fLeft),(.int .u8 zf.fState.fRegs.a0),(.int .u8 zf.fState.fRegs.a1),(.int .u8 zf.fState.fRegs.a2),(.int .u8 zf.fState.fRegs.a3),(.int .u8 zf.fX.fOp),(.int .i64 zf.fX.fA),(.int .i64 zf.fX.fB),(.int .i64 zf.fX.fC),(.slice z3B zf.fMem.length z3C),(.int .u8 zf.fAct.fKind),(.int .i64 zf.fAct.fA),(.int .i64 zf.fAct.fB),(.slice z3D zf.fAct.fData.length z3E)]]) (env:=[(0,(.pointer (some ⟨z3A,0,none⟩)))]) Tryd.func103 rfl Tryd.ntmps103 rfl (hown) rfl ?_
 refine WC.b ?_
 obtain ⟨zfN,zfO,h⟩:=zh h
 obtain ⟨zfP,h⟩:=y9 h
 refine WC.a (WL.pu rfl (WL.pu rfl ?_))
 refine WL.a (d:=4) rfl rfl rfl (y7 rfl) ?_
 refine WL.a (d:=5) rfl rfl rfl (y4 yH rfl rfl) ?_
 refine WL.a (d:=6) rfl rfl rfl (y4 y1b rfl rfl) ?_
 refine WL.a (d:=7) rfl rfl rfl (y6 yf rfl (yc .here rfl)) ?_
 refine WL.b (dd:=8) rfl rfl rfl (zI (l:=[.tmp 2,.tmp 7]) Tryd.call108 (.cons rfl (.cons rfl .nil))) .nil (ccl hz .nil (.cons .here .nil) fun w pz ho la=>yh _ _ _ _ _ _ _ _ _ zfO w pz (z8p.mono (Zle.left _ _)) (z8q.mono (Zle.left _ _)) ((la _ (.head _) _).stb)) ?_
 refine WL.a (d:=9) rfl rfl rfl (y7 rfl) ?_
 refine WL.a (d:=10) rfl rfl rfl (y6 yN rfl (y1r (l:=([zf.fState.fRegs.a0,zf.fState.fRegs.a1,zf.fState.fRegs.a2,zf.fState.fRegs.a3] : List Int)) (f:=Value.int .u8) (k:=2) (m:=6) .here rfl rfl zfP)) ?_
 refine WL.pu rfl (WL.nil (WX.a ?_))
 refine WC.cond rfl (fun z8r=>?_) (fun z8r=>?_)
 ·replace h:=ym h z8r
  refine WC.a (WL.pu rfl (WL.pu rfl ?_))
  refine WL.a (d:=14) rfl rfl rfl (y7 rfl) ?_
  refine WL.a (d:=15) rfl rfl rfl (y4 yH rfl rfl) ?_
  refine WL.a (d:=16) rfl rfl rfl (y4 y1x rfl rfl) ?_
  refine WL.a (d:=17) rfl rfl rfl (y6 yf rfl (yc .here rfl)) ?_
  refine WL.a (d:=18) rfl rfl rfl (y7 rfl) ?_
  refine WL.a (d:=19) rfl rfl rfl (y4 y1c rfl rfl) ?_
  refine WL.a (d:=20) rfl rfl rfl (y4 y2j rfl rfl) ?_
  refine WL.yo rfl rfl (y1g (ds:=[(.int .i64 zf.fX.fB),(.int .i64 zf.fState.fLeft),(.int .u8 zf.fState.fRegs.a0),(.int .u8 zf.fState.fRegs.a1),(.int .u8 zf.fState.fRegs.a2),(.int .u8 zf.fState.fRegs.a3),(.int .u8 zf.fX.fOp),(.int .i64 zf.fX.fA),(.int .i64 zf.fX.fB),(.int .i64 zf.fX.fC),(.slice z3B zf.fMem.length z3C),(.int .u8 zf.fAct.fKind),(.int .i64 zf.fAct.fA),(.int .i64 zf.fAct.fB),(.slice z3D zf.fAct.fData.length z3E)]) y2V rfl rfl rfl rfl rfl .here rfl rfl) ?_
  refine WL.nil ?_
  obtain rfl:=Option.some.inj h
  refine WX.yd Tryd.results103 .nil (fun w hw=>?_)
  exact ⟨z3B,z3C,z3D,z3E,y12,⟨z8p,z8q⟩,hw.sub (.cons .here .nil)⟩
 ·replace h:=yn h z8r
  refine WC.skip ?_
  obtain rfl:=Option.some.inj h
  refine WX.yd Tryd.results103 .nil (fun w hw=>?_)
  exact ⟨z3B,z3C,z3D,z3E,y12,⟨z8p,z8q⟩,hw.sub (.cons .here .nil)⟩
end Go.Proofs.YtjdnejbngloieaaDoor
