/- A part of this claim's proof: models of functions, walks, plain laws. No conditions. -/
import Derived.Test.YtjdnejbngloieaaDoorZSortF
import Derived.Test.YtjdnejbngloieaaDoorZSort
import Derived.Test.YtjdnejbngloieaaDoorZUnroll
import Derived.Test.YtjdnejbngloieaaDoorZArr
import Derived.Test.YtjdnejbngloieaaDoorZStr
import Derived.Test.YtjdnejbngloieaaDoorShelf26
import Derived.Test.YtjdnejbngloieaaDoorProg
namespace Go.Proofs.YtjdnejbngloieaaDoor
open Go Go.RowKit Sep
set_option linter.all false
set_option maxRecDepth 30000
set_option maxHeartbeats 4000000
structure Sapi_Ins where
 fOp : Int
 fA : Int
 fB : Int
 fC : Int
 deriving Inhabited,DecidableEq
def e33 (x : Sapi_Ins) : List Value:=[(.int .u8 x.fOp),(.int .i64 x.fA),(.int .i64 x.fB),(.int .i64 x.fC)]
theorem e33_oc : ∀ x,∀ u ∈ e33 x,u.oneCell' = true:=fun _=>ocB rfl
def e3 (x : Int) : List Value:=[(.int .i64 x)]
theorem y6i : ∀ x,∀ u ∈ e3 x,u.oneCell' = true:=fun _=>ocB rfl
structure S7 where
 fX : Int
 fY : Int
 fSigned : Bool
 fCode : Int
 deriving Inhabited,DecidableEq
structure S13 where
 fMsg : ByteArray
 fAddr : Int
 deriving Inhabited,DecidableEq
def e5 (x : Int) : List Value:=[(.int .u8 x)]
structure S34 where
 a0 : Int
 a1 : Int
 a2 : Int
 a3 : Int
 deriving Inhabited,DecidableEq
structure Sproc_State where
 fPc : Int
 fLeft : Int
 fRegs : S34
 deriving Inhabited,DecidableEq
def e76 (x : Int) : List Value:=[(.int .u8 x)]
def p74 (Z : Zp) (r : List Value) (x : List Int) : Prop:=∃ (ao0 : Option Addr) (cap0 : Nat),r = [(.slice ao0 x.length cap0)] ∧ ZS Z 1 (fun r x=>r = e76 x) ao0 cap0 x
theorem y13 {Z Z' : Zp} (k : Zle Z Z') {r : List Value} {x : List Int} (h : p74 Z r x) : p74 Z' r x:=by
 obtain ⟨ao0,cap0,hr,h0⟩:=h
 exact ⟨ao0,cap0,hr,h0.mono k⟩
def y18 : List (List Int):=[[],[1],[2,3],[2,2],[2,2],[2,4,2],[2,4,2],[6,2,5],[6,2,2],[6],[6],[6],[6],[6],[6,2],[6,2],[6,2],[6,2],[6],[],[7],[2,7],[2,2,7],[2,2],[3],[]]
structure Sproc_Act where
 fKind : Int
 fA : Int
 fB : Int
 fData : List Int
 deriving Inhabited,DecidableEq
structure Sproc_execution where
 fState : Sproc_State
 fX : Sapi_Ins
 fMem : List Int
 fAct : Sproc_Act
 deriving Inhabited,DecidableEq
def tabG0 : List Value:=[.nilFunc,.func (.func 84) #[] #[],.func (.func 85) #[] #[],.func (.func 82) #[] #[],.func (.func 86) #[] #[],.func (.func 87) #[] #[],.func (.func 88) #[] #[],.func (.func 89) #[] #[],.func (.func 90) #[] #[],.func (.func 91) #[] #[],.func (.func 92) #[] #[],.func (.func 93) #[] #[],.func (.func 94) #[] #[],.func (.func 95) #[] #[],.func (.func 96) #[] #[],.func (.func 97) #[] #[],.func (.func 98) #[] #[],.func (.func 99) #[] #[],.func (.func 100) #[] #[],.func (.func 101) #[] #[],.func (.func 102) #[] #[],.func (.func 103) #[] #[],.func (.func 104) #[] #[],.func (.func 105) #[] #[],.func (.func 106) #[] #[],.func (.func 107) #[] #[]]
def e39 (x : Sproc_State) : List Value:=[(.int .i64 x.fPc),(.int .i64 x.fLeft),(.int .u8 x.fRegs.a0),(.int .u8 x.fRegs.a1),(.int .u8 x.fRegs.a2),(.int .u8 x.fRegs.a3)]
theorem yu : elT Tryd.prog 30 3 1 8:=⟨Tryd.underlying30,⟨Tryd.t3,_,rfl,rfl,rfl,rfl,rfl⟩,by decide⟩
theorem y3m : y22 Tryd.prog 33 (.agg #[(.int .u8 0),(.int .i64 0),(.int .i64 0),(.int .i64 0)]):=y31 (i:=Tryd.t33) rfl rfl
theorem yh : y3Q Tryd.prog 3:=y39 Tryd.underlying3 rfl
theorem y3K : y3x Tryd.prog 33 4:=y3a (i:=Tryd.t33) rfl
theorem y1N : aggT Tryd.prog 33 4:=y6o (i:=Tryd.t33) Tryd.underlying33 rfl rfl
theorem y15 : elT Tryd.prog 22 33 4 32:=⟨Tryd.underlying22,⟨Tryd.t33,_,rfl,rfl,rfl,rfl,rfl⟩,by decide⟩
theorem y5S : y22 Tryd.prog 5 (.int .u8 0):=y31 (i:=Tryd.t5) rfl rfl
theorem y2L : elT Tryd.prog 35 5 1 1:=⟨Tryd.underlying35,⟨Tryd.t5,_,rfl,rfl,rfl,rfl,rfl⟩,by decide⟩
theorem y1R : y22 Tryd.prog 39 (.agg #[(.int .i64 0),(.int .i64 0),(.int .u8 0),(.int .u8 0),(.int .u8 0),(.int .u8 0)]):=y31 (i:=Tryd.t39) rfl rfl
theorem y2S : y3x Tryd.prog 39 6:=y3a (i:=Tryd.t39) rfl
theorem y2h : aggT Tryd.prog 39 6:=y6o (i:=Tryd.t39) Tryd.underlying39 rfl rfl
theorem y2D : y22 Tryd.prog 41 (.agg #[(.int .u8 0),(.int .i64 0),(.int .i64 0),(.slice none 0 0)]):=y31 (i:=Tryd.t41) rfl rfl
theorem y2T : y1c Tryd.prog 39 0 0:=yR (i:=Tryd.t3) Tryd.underlying39 rfl rfl (by decide) rfl
theorem y3d : y1c Tryd.prog 33 0 0:=yR (i:=Tryd.t5) Tryd.underlying33 rfl rfl (by decide) rfl
theorem yP : y3Q Tryd.prog 5:=y39 Tryd.underlying5 rfl
theorem y1p : y1c Tryd.prog 33 1 1:=yR (i:=Tryd.t3) Tryd.underlying33 rfl rfl (by decide) rfl
theorem y1J : y1c Tryd.prog 33 2 2:=yR (i:=Tryd.t3) Tryd.underlying33 rfl rfl (by decide) rfl
theorem y3L : y1c Tryd.prog 33 3 3:=yR (i:=Tryd.t3) Tryd.underlying33 rfl rfl (by decide) rfl
theorem zeroT_73 : y22 Tryd.prog 73 (.agg #[(.int .i64 0),(.int .i64 0),(.int .i64 0)]):=y31 (i:=Tryd.t73) rfl rfl
theorem sizT_73 : y3x Tryd.prog 73 3:=y3a (i:=Tryd.t73) rfl
theorem arT_75 : arT Tryd.prog 75 74 26 1:=y6g Tryd.underlying75 (inf:=Tryd.t74) rfl rfl rfl
theorem oneT_74 : y3Q Tryd.prog 74:=y39 Tryd.underlying74 rfl
theorem elT_74 : elT Tryd.prog 74 76 1 1:=⟨Tryd.underlying74,⟨Tryd.t76,_,rfl,rfl,rfl,rfl,rfl⟩,by decide⟩
theorem oneT_76 : y3Q Tryd.prog 76:=y39 Tryd.underlying76 rfl
theorem arT_73 : arT Tryd.prog 73 3 3 1:=y6g Tryd.underlying73 (inf:=Tryd.t3) rfl rfl rfl
theorem y1X : y3x Tryd.prog 41 4:=y3a (i:=Tryd.t41) rfl
theorem y3M : aggT Tryd.prog 41 4:=y6o (i:=Tryd.t41) Tryd.underlying41 rfl rfl
theorem y1x : y1c Tryd.prog 65 0 0:=yR (i:=Tryd.t39) Tryd.underlying65 rfl rfl (by decide) rfl
theorem y36 : y3x Tryd.prog 3 1:=y3a (i:=Tryd.t3) rfl
theorem arT_67 : arT Tryd.prog 67 66 26 1:=y6g Tryd.underlying67 (inf:=Tryd.t66) rfl rfl rfl
theorem y4F : y1c Tryd.prog 39 1 1:=yR (i:=Tryd.t3) Tryd.underlying39 rfl rfl (by decide) rfl
theorem yM : y1c Tryd.prog 65 1 6:=yR (i:=Tryd.t33) Tryd.underlying65 rfl rfl (by decide) rfl
theorem yN : y3Q Tryd.prog 66:=y39 Tryd.underlying66 rfl
theorem fo_39_2 : y1c Tryd.prog 39 2 2:=yR (i:=Tryd.t34) Tryd.underlying39 rfl rfl (by decide) rfl
theorem arT_34 : arT Tryd.prog 34 5 4 1:=y6g Tryd.underlying34 (inf:=Tryd.t5) rfl rfl rfl
theorem y4G : y3x Tryd.prog 5 1:=y3a (i:=Tryd.t5) rfl
theorem y7y : y1c Tryd.prog 65 2 10:=yR (i:=Tryd.t35) Tryd.underlying65 rfl rfl (by decide) rfl
theorem y5T : y3Q Tryd.prog 35:=y39 Tryd.underlying35 rfl
theorem y3Y : y1c Tryd.prog 65 3 11:=yR (i:=Tryd.t41) Tryd.underlying65 rfl rfl (by decide) rfl
theorem y6u : y1c Tryd.prog 41 0 0:=yR (i:=Tryd.t5) Tryd.underlying41 rfl rfl (by decide) rfl
theorem eqT_39 : EqT Tryd.prog 39 e39:=⟨fun u v w=>by
 have i39_10000:=fun (w : World) (a b : Array Value)=>run_equalIn_agg (P:=Tryd.prog) w 9999 39 a b (by simp [Program.fieldsOf,Tryd.underlying39]) (by kernel_rfl)
 have i3_9999:=fun (w : World) (a b : Int)=>run_equalIn_int (P:=Tryd.prog) w 9998 3 .i64 .i64 a b Tryd.underlying3
 have i5_9998:=fun (w : World) (a b : Int)=>run_equalIn_int (P:=Tryd.prog) w 9997 5 .u8 .u8 a b Tryd.underlying5
 have i34_9999 : ∀ (w : World) (a0 a1 a2 a3 b0 b1 b2 b3 : Int),(Op.equalIn 9999 34 (.agg #[.int .u8 a0,.int .u8 a1,.int .u8 a2,.int .u8 a3]) (.agg #[.int .u8 b0,.int .u8 b1,.int .u8 b2,.int .u8 b3])).run Tryd.prog w = .ok (decide (a0 = b0 ∧ a1 = b1 ∧ a2 = b2 ∧ a3 = b3)) w:=fun w a0 a1 a2 a3 b0 b1 b2 b3=>by
  rw [show (9999 : Nat) = 9998 + 1 from rfl,Op.equalIn]
  simp [run_underlying Tryd.underlying34,part,i5_9998,List.range',Std.Legacy.Range.forIn_eq_forIn_range',Std.Legacy.Range.size]
  by_cases h0 : a0 = b0 <;> by_cases h1 : a1 = b1 <;> by_cases h2 : a2 = b2 <;> by_cases h3 : a3 = b3 <;> simp [h0,h1,h2,h3]
 rw [i39_10000]
 simp [Program.fieldsOf,Op.eqFields,part,e39,i39_10000,Tryd.underlying39,i3_9999,i5_9998,i34_9999]
 rcases u with ⟨u1,u2,⟨u3,u4,u5,u6⟩⟩
 rcases v with ⟨v1,v2,⟨v3,v4,v5,v6⟩⟩
 by_cases h1 : u1 = v1 <;> by_cases h2 : u2 = v2 <;> by_cases h3 : u3 = v3 <;> by_cases h4 : u4 = v4 <;> by_cases h5 : u5 = v5 <;> by_cases h6 : u6 = v6 <;> simp [h1,h2,h3,h4,h5,h6],by kernel_rfl⟩
theorem y3t : y3Q Tryd.prog 22:=y39 Tryd.underlying22 rfl
theorem y47 : KeyT Tryd.prog 3 (Value.int .i64):=keyT_int Tryd.underlying3
theorem zeroT_54 : y22 Tryd.prog 54 (.map none):=y31 (i:=Tryd.t54) rfl rfl
theorem sizT_54 : y3x Tryd.prog 54 1:=y3a (i:=Tryd.t54) rfl
theorem zeroT_55 : y22 Tryd.prog 55 .nilFunc:=y31 (i:=Tryd.t55) rfl rfl
theorem sizT_55 : y3x Tryd.prog 55 1:=y3a (i:=Tryd.t55) rfl
theorem y7z : y3Q Tryd.prog 55:=y39 Tryd.underlying55 rfl
theorem y3Z : y3Q Tryd.prog 54:=y39 Tryd.underlying54 rfl
theorem y4H : y22 Tryd.prog 3 (.int .i64 0):=y31 (i:=Tryd.t3) rfl rfl
theorem y7A : y1c Tryd.prog 41 1 1:=yR (i:=Tryd.t3) Tryd.underlying41 rfl rfl (by decide) rfl
theorem y7B : y1c Tryd.prog 41 2 2:=yR (i:=Tryd.t3) Tryd.underlying41 rfl rfl (by decide) rfl
theorem y7C : y1c Tryd.prog 41 3 3:=yR (i:=Tryd.t35) Tryd.underlying41 rfl rfl (by decide) rfl
theorem eqT_33 : EqT Tryd.prog 33 e33:=⟨fun u v w=>by
 have i33_10000:=fun (w : World) (a b : Array Value)=>run_equalIn_agg (P:=Tryd.prog) w 9999 33 a b (by simp [Program.fieldsOf,Tryd.underlying33]) (by kernel_rfl)
 have i5_9999:=fun (w : World) (a b : Int)=>run_equalIn_int (P:=Tryd.prog) w 9998 5 .u8 .u8 a b Tryd.underlying5
 have i3_9999:=fun (w : World) (a b : Int)=>run_equalIn_int (P:=Tryd.prog) w 9998 3 .i64 .i64 a b Tryd.underlying3
 rw [i33_10000]
 simp [Program.fieldsOf,Op.eqFields,part,e33,i33_10000,Tryd.underlying33,i5_9999,i3_9999]
 rcases u with ⟨u1,u2,u3,u4⟩
 rcases v with ⟨v1,v2,v3,v4⟩
 by_cases h1 : u1 = v1 <;> by_cases h2 : u2 = v2 <;> by_cases h3 : u3 = v3 <;> by_cases h4 : u4 = v4 <;> simp [h1,h2,h3,h4],by kernel_rfl⟩
def y1Y (l : List Int) : Option (List Int):=chk (0 < l.length ∧ l.length < 4611686018427387904) (some (y4l l))
theorem y6R (Z : Zp) (ao : Option Addr) (cap : Nat) (l : List Int) (r : List Int) (w₀ : World) (hz : PZ (fps [row (.slice ao l.length cap) 3 1 (l.flatMap e3)]) w₀ Z)
  (h : y1Y l = some r) (hown : Hp (fps [row (.slice ao l.length cap) 3 1 (l.flatMap e3)]) w₀ w₀ [row (.slice ao l.length cap) 3 1 (l.flatMap e3)]) :
  Calls Tryd.prog 34 #[.slice ao l.length cap] w₀ fun e w'=>e = .returned (.tuple #[]) ∧ (r.length = l.length) ∧ Hp (fps [row (.slice ao l.length cap) 3 1 (l.flatMap e3)]) w₀ w' [row (.slice ao r.length cap) 3 1 (r.flatMap e3)]:=by
 obtain ⟨h0,h⟩:=yb h
 exact sort_int (fun _=>rfl) Tryd.slices_Sort_int ao cap l r w₀ h0 ((Option.some.inj h).symm.trans (y73 l).symm) hown
def y1i (op_8 : Int) (l_9 : List Int) : Option Sapi_Ins :=
 chk ((((([] : List Int) ++ l_9).length : Nat) : Int) * 8 ≤ 140737488355328 ∧ (((([] : List Int) ++ l_9).length : Nat) : Int) ≤ 4611686018427387904) (chk (((((([] : List Int) ++ l_9) ++ ([0,0,0] : List Int)).length : Nat) : Int) * 8 ≤ 140737488355328 ∧ ((((([] : List Int) ++ l_9) ++ ([0,0,0] : List Int)).length : Nat) : Int) ≤ 4611686018427387904) (chk ((0 : Int) ≤ 0 ∧ 0 < ((((([] : List Int) ++ l_9) ++ ([0,0,0] : List Int)).length : Nat) : Int)) (chk ((0 : Int) ≤ 1 ∧ 1 < ((((([] : List Int) ++ l_9) ++ ([0,0,0] : List Int)).length : Nat) : Int)) (chk ((0 : Int) ≤ 2 ∧ 2 < ((((([] : List Int) ++ l_9) ++ ([0,0,0] : List Int)).length : Nat) : Int)) (some (⟨op_8,(nth ((([] : List Int) ++ l_9) ++ ([0,0,0] : List Int)) 0),(nth ((([] : List Int) ++ l_9) ++ ([0,0,0] : List Int)) 1),(nth ((([] : List Int) ++ l_9) ++ ([0,0,0] : List Int)) 2)⟩ : Sapi_Ins))))))
set_option maxRecDepth 20000 in
theorem y1u (Z : Zp) (ao_10 : Option Addr) (cap_11 : Nat) (op_8 : Int) (l_9 : List Int) (r : Sapi_Ins)
  (h : y1i op_8 l_9 = some r) (w₀ : World) (hz : PZ [] w₀ Z)
  (hs_12 : ZS Z 1 (fun r x=>r = e3 x) ao_10 cap_11 l_9) :
  Calls Tryd.prog 17 #[(.int .u8 op_8),(.slice ao_10 l_9.length cap_11)] w₀ fun e w'=>e = .returned (.agg #[(.int .u8 r.fOp),(.int .i64 r.fA),(.int .i64 r.fB),(.int .i64 r.fC)]) ∧ Hp [] w₀ w' []:=by
 unfold y1i at h
 refine Calls.ya (vs:=[(.int .u8 op_8),(.slice ao_10 l_9.length cap_11)]) (pre:=[]) (env:=[(0,(.int .u8 op_8)),(1,(.slice ao_10 l_9.length cap_11))]) Tryd.func17 rfl Tryd.ntmps17 rfl (Hp.nil w₀ _) rfl ?_
 refine WC.b (WC.a ?_)
 refine WL.new (dd:=4) rfl rfl rfl (yG (cs:=[(.int .u8 0),(.int .i64 0),(.int .i64 0),(.int .i64 0)]) y3m rfl) ?_
 intro b_37 _
 refine WL.nil (WX.a (WC.b ?_))
 obtain ⟨c_39,h⟩:=yb h
 obtain ⟨c_43,h⟩:=yb h
 refine WC.a ?_
 refine WL.new (dd:=5) rfl rfl rfl (yo (cs:=([] : List Int).flatMap e3) yu (Eos.parts (l:=[]) .nil []) (fun _=>by kernel_rfl) rfl (by unfold maxLen; omega)) ?_
 intro b_46 _
 refine WL.pu rfl ?_
 refine WL.eff (d:=7) rfl rfl rfl (y3s (enc:=e3) (l1:=([] : List Int)) (l2:=l_9) yu rfl rfl .here (fun _=>rfl) rfl rfl (news_z hz.pv hs_12) (y3G y6i _) c_39) ?_
 rintro ⟨ao_47,cap_48⟩ _
 refine WL.new (dd:=8) rfl rfl rfl (yo (cs:=([0,0,0] : List Int).flatMap e3) yu (Eos.parts (l:=[.const (.int .i64 0),.const (.int .i64 0),.const (.int .i64 0)]) (.cons rfl (.cons rfl (.cons rfl .nil))) [0,1,2]) (fun _=>by kernel_rfl) rfl (by unfold maxLen; omega)) ?_
 intro b_49 _
 refine WL.eff (d:=9) rfl rfl rfl (y3s (enc:=e3) (l1:=([] : List Int) ++ l_9) (l2:=([0,0,0] : List Int)) yu rfl rfl .h1 (fun _=>rfl) rfl rfl (y52 .here) (y3G y6i _) c_43) ?_
 rintro ⟨ao_50,cap_51⟩ _
 refine WL.pu rfl (WL.nil (WX.a (WC.b ?_)))
 obtain ⟨c_52,h⟩:=yb h
 obtain ⟨c_54,h⟩:=yb h
 obtain ⟨c_55,h⟩:=yb h
 refine WC.y1j (fun i=>[11].contains i) [] rfl ?_
 refine WD.a (i:=0) (d:=10) (by kernel_rfl) rfl z1 z2 rfl rfl rfl (fun _=>q_m rfl) ?_
 refine WD.a (i:=1) (d:=11) (by kernel_rfl) rfl z1 z2 rfl rfl rfl (fun _=>q_m rfl) ?_
 refine WD.know (fun w hw=>Hp.y32 .here hw (by intro hz'; have:=c_52; rw [hz'] at this; omega)) ?_
 rintro ⟨b_57,rfl⟩
 refine WD.a (i:=2) (d:=12) (by kernel_rfl) rfl z1 z2 rfl rfl rfl (fun _=>yw yu rfl rfl c_52.1 c_52.2 y1H) ?_
 refine WD.e (i:=3) (d:=13) (by kernel_rfl) rfl z1 z2 rfl rfl rfl (y6 yh rfl (y1P .here ((y1C (enc:=e3) (l:=(([] : List Int) ++ l_9) ++ ([0,0,0] : List Int)) (i:=0) (sz:=1) (fun _=>rfl) c_52.1 c_52.2) 0 _ rfl))) ?_
 refine WD.a (i:=4) (d:=14) (by kernel_rfl) rfl z1 z2 rfl rfl rfl (fun _=>q_m rfl) ?_
 refine WD.a (i:=5) (d:=15) (by kernel_rfl) rfl z1 z2 rfl rfl rfl (fun _=>yw yu rfl rfl c_54.1 c_54.2 y1H) ?_
 refine WD.e (i:=6) (d:=16) (by kernel_rfl) rfl z1 z2 rfl rfl rfl (y6 yh rfl (y1P .here ((y1C (enc:=e3) (l:=(([] : List Int) ++ l_9) ++ ([0,0,0] : List Int)) (i:=1) (sz:=1) (fun _=>rfl) c_54.1 c_54.2) 0 _ rfl))) ?_
 refine WD.a (i:=7) (d:=17) (by kernel_rfl) rfl z1 z2 rfl rfl rfl (fun _=>q_m rfl) ?_
 refine WD.a (i:=8) (d:=18) (by kernel_rfl) rfl z1 z2 rfl rfl rfl (fun _=>yw yu rfl rfl c_55.1 c_55.2 y1H) ?_
 refine WD.e (i:=9) (d:=19) (by kernel_rfl) rfl z1 z2 rfl rfl rfl (y6 yh rfl (y1P .here ((y1C (enc:=e3) (l:=(([] : List Int) ++ l_9) ++ ([0,0,0] : List Int)) (i:=2) (sz:=1) (fun _=>rfl) c_55.1 c_55.2) 0 _ rfl))) ?_
 refine WD.a (i:=10) (d:=20) (by kernel_rfl) rfl z1 z2 rfl rfl rfl (fun _=>y1b (v:=(.agg #[(.int .u8 op_8),(.int .i64 (nth ((([] : List Int) ++ l_9) ++ ([0,0,0] : List Int)) 0)),(.int .i64 (nth ((([] : List Int) ++ l_9) ++ ([0,0,0] : List Int)) 1)),(.int .i64 (nth ((([] : List Int) ++ l_9) ++ ([0,0,0] : List Int)) 2))])) (Eos.parts (l:=[.tmp 10,.tmp 13,.tmp 16,.tmp 19]) (.cons rfl (.cons rfl (.cons rfl (.cons rfl .nil)))) [0,1,2,3]) (fun _=>by kernel_rfl)) ?_
 refine WD.y30 (i:=11) rfl (by kernel_rfl) rfl rfl rfl (by kernel_rfl) (yC y3K rfl rfl rfl .h2 rfl rfl rfl) ?_
 refine WD.done (by kernel_rfl) ?_
 refine WX.a (WC.ret ?_)
 obtain rfl:=Option.some.inj h
 refine WX.y8 Tryd.results17 (.agg rfl y1N rfl (y1l .here) .nil) (fun w hw=>?_)
 exact ⟨yx rfl,hw.sub .nil⟩
def y1z (z30 : Int) (z31 : Int) (z61 : Int) : Option Bool :=
 jp2 (fun (z3P : Int) (z3Q : Int)=>some ((decide (z31 ≥ z3P)) && (decide (z31 ≤ z3Q)))) fun z3B=>if decide (z30 = 1) then z3B 1 2000 else if decide (z30 = 2) then z3B 0 3 else if decide (z30 = 3) then z3B 0 255 else if decide (z30 = 4) then z3B 0 4095 else if decide (z30 = 5) then z3B 1 64 else if decide (z30 = 6) then z3B 0 z31 else if decide (z30 = 7) then z3B 0 (i64 (z61 - 1)) else z3B 0 0
set_option maxRecDepth 20000 in
theorem y5r (Z : Zp)  (z30 : Int) (z31 : Int) (z61 : Int) (r : Bool)
  (h : y1z z30 z31 z61 = some r) (w₀ : World) (hz : PZ [] w₀ Z) :
  Calls Tryd.prog 43 #[(.int .u8 z30),(.int .i64 z31),(.int .i64 z61)] w₀ fun e w'=>e = .returned (.bool r) ∧ Hp [] w₀ w' []:=by
 unfold y1z at h
 refine Calls.ya (vs:=[(.int .u8 z30),(.int .i64 z31),(.int .i64 z61)]) (pre:=[]) (env:=[(0,(.int .u8 z30)),(1,(.int .i64 z31)),(2,(.int .i64 z61))]) Tryd.func43 rfl Tryd.ntmps43 rfl (Hp.nil w₀ _) rfl ?_
 refine WC.b (WC.a (WL.pu rfl (WL.nil (WX.a (WC.b (WC.a (WL.pu rfl (WL.pu rfl (WL.nil (WX.a ?_))))))))))
 obtain ⟨z3B,zgV,h⟩:=y57 h
 refine WC.y3V (fun (z3P : Int) (z3Q : Int)=>(z3B z3P z3Q = some r)) (fun (z3P : Int) (z3Q : Int)=>[(1,(.int .i64 z31)),(7,(.int .i64 z3P)),(8,(.int .i64 z3Q))]) (fun (z3P : Int) (z3Q : Int)=>[]) ?_ ?_
 ·skip
  refine WC.b (WC.a (WL.pu rfl (WL.nil (WX.a (WC.block (WC.b (WC.a (WL.pu rfl (WL.pu rfl (WL.nil (WX.a ?_)))))))))))
  refine WC.cond rfl (fun za4=>?_) (fun za4=>?_)
  ·replace h:=yc h za4
   refine WC.a (WL.pu rfl (WL.pu rfl (WL.nil (WX.ye ?_))))
   exact WX.mid (G:=Int × Int) ⟨1,2000⟩ h (.cons rfl (.cons rfl (.cons rfl .nil))) .nil
  ·replace h:=yd h za4
   refine WC.b (WC.a (WL.pu rfl (WL.pu rfl (WL.nil (WX.a ?_)))))
   refine WC.cond rfl (fun za5=>?_) (fun za5=>?_)
   ·replace h:=yc h za5
    refine WC.a (WL.pu rfl (WL.nil (WX.ye ?_)))
    exact WX.mid (G:=Int × Int) ⟨0,3⟩ h (.cons rfl (.cons rfl (.cons rfl .nil))) .nil
   ·replace h:=yd h za5
    refine WC.b (WC.a (WL.pu rfl (WL.pu rfl (WL.nil (WX.a ?_)))))
    refine WC.cond rfl (fun za6=>?_) (fun za6=>?_)
    ·replace h:=yc h za6
     refine WC.a (WL.pu rfl (WL.nil (WX.ye ?_)))
     exact WX.mid (G:=Int × Int) ⟨0,255⟩ h (.cons rfl (.cons rfl (.cons rfl .nil))) .nil
    ·replace h:=yd h za6
     refine WC.b (WC.a (WL.pu rfl (WL.pu rfl (WL.nil (WX.a ?_)))))
     refine WC.cond rfl (fun za7=>?_) (fun za7=>?_)
     ·replace h:=yc h za7
      refine WC.a (WL.pu rfl (WL.nil (WX.ye ?_)))
      exact WX.mid (G:=Int × Int) ⟨0,4095⟩ h (.cons rfl (.cons rfl (.cons rfl .nil))) .nil
     ·replace h:=yd h za7
      refine WC.b (WC.a (WL.pu rfl (WL.pu rfl (WL.nil (WX.a ?_)))))
      refine WC.cond rfl (fun za8=>?_) (fun za8=>?_)
      ·replace h:=yc h za8
       refine WC.a (WL.pu rfl (WL.pu rfl (WL.nil (WX.ye ?_))))
       exact WX.mid (G:=Int × Int) ⟨1,64⟩ h (.cons rfl (.cons rfl (.cons rfl .nil))) .nil
      ·replace h:=yd h za8
       refine WC.b (WC.a (WL.pu rfl (WL.pu rfl (WL.nil (WX.a ?_)))))
       refine WC.cond rfl (fun za9=>?_) (fun za9=>?_)
       ·replace h:=yc h za9
        refine WC.a (WL.pu rfl (WL.pu rfl (WL.nil (WX.ye ?_))))
        exact WX.mid (G:=Int × Int) ⟨0,z31⟩ h (.cons rfl (.cons rfl (.cons rfl .nil))) .nil
       ·replace h:=yd h za9
        refine WC.b (WC.a (WL.pu rfl (WL.pu rfl (WL.nil (WX.a ?_)))))
        refine WC.cond rfl (fun zaa=>?_) (fun zaa=>?_)
        ·replace h:=yc h zaa
         refine WC.a (WL.pu rfl (WL.pu rfl (WL.pu rfl (WL.nil (WX.ye ?_)))))
         exact WX.mid (G:=Int × Int) ⟨0,(i64 (z61 - 1))⟩ h (.cons rfl (.cons rfl (.cons rfl .nil))) .nil
        ·replace h:=yd h zaa
         refine WC.skip (WX.ye ?_)
         exact WX.mid (G:=Int × Int) ⟨0,0⟩ h (.cons rfl (.cons rfl (.cons rfl .nil))) .nil
 ·rintro z3P z3Q h
  replace h:=(zgV z3P z3Q).symm.trans h
  refine WC.b (WC.a (WL.pu rfl (WL.pu rfl (WL.pu rfl (WL.pu rfl ?_)))))
  refine WL.seg true 3 30 (B:=(decide (z31 ≥ z3P)) && (decide (z31 ≤ z3Q))) rfl rfl rfl rfl rfl rfl (fun h=>(y1T h).symm) (fun _ zgW=>?_) ?_
  ·skip
   refine WL.pu rfl (WL.pu rfl (WL.pu rfl (WL.pu rfl ?_)))
   exact WL.ys (y1U zgW) rfl rfl .all
  refine WL.pu rfl (WL.nil (WX.a (WC.ret ?_)))
  obtain rfl:=Option.some.inj h
  refine WX.y8 Tryd.results43 (.tmp rfl .nil) (fun w hw=>?_)
  exact ⟨yx rfl,hw.sub .nil⟩
def y10 (zQ : Sapi_Ins) (z2S : Int) (z3R : Option Bool) : Nat → Int → Option Bool
 | 0,_=>none
 | zab + 1,z2i=>if decide (z2i < (((nth y18 zQ.fOp).length : Nat) : Int)) then chk ((0 : Int) ≤ z2i ∧ z2i < (((nth y18 zQ.fOp).length : Nat) : Int)) (chk ((0 : Int) ≤ z2i ∧ z2i < 3) ((y1z (nth (nth y18 zQ.fOp) z2i) (nth ([zQ.fA,zQ.fB,zQ.fC] : List Int) z2i) z2S).bind fun zd7=>if !zd7 then some false else y10 zQ z2S z3R zab (i64 (z2i + 1)))) else z3R
theorem y5a {n : Nat} {zQ : Sapi_Ins} {z2S : Int} {z3R : Option Bool} {z2i : Int} {r : Bool} (h : y10 zQ z2S z3R n z2i = some r) : ∃ m,n = m + 1:=by
 cases n with
 | zero=>cases h
 | succ m=>exact ⟨m,rfl⟩
def y2i (zQ : Sapi_Ins) (z2S : Int) : Option Bool :=
 if (decide (zQ.fOp < 1)) || (decide (zQ.fOp > 25)) then some false else jp0 (some true) fun z3R=>chk ((0 : Int) ≤ zQ.fOp ∧ zQ.fOp < 26) (y10 zQ z2S z3R yB 0)
set_option maxRecDepth 20000 in
theorem y5J (Z : Zp)  (zQ : Sapi_Ins) (z2S : Int) (r : Bool)
  (h : y2i zQ z2S = some r) (w₀ : World) (hz : PZ [] w₀ Z)
  (hG1 : ZS Z 1 (p74 Z) (some ⟨1,0,none⟩) 26 y18) :
  Calls Tryd.prog 32 #[(.agg #[(.int .u8 zQ.fOp),(.int .i64 zQ.fA),(.int .i64 zQ.fB),(.int .i64 zQ.fC)]),(.int .i64 z2S)] w₀ fun e w'=>e = .returned (.bool r) ∧ Hp [] w₀ w' []:=by
 unfold y2i at h
 refine Calls.ya (vs:=[(.agg #[(.int .u8 zQ.fOp),(.int .i64 zQ.fA),(.int .i64 zQ.fB),(.int .i64 zQ.fC)]),(.int .i64 z2S)]) (pre:=[]) (env:=[(0,(.agg #[(.int .u8 zQ.fOp),(.int .i64 zQ.fA),(.int .i64 zQ.fB),(.int .i64 zQ.fC)])),(1,(.int .i64 z2S))]) Tryd.func32 rfl Tryd.ntmps32 rfl (Hp.nil w₀ _) rfl ?_
 refine WC.b (WC.a ?_)
 refine WL.new (dd:=2) rfl rfl rfl (y4k (cs:=[(.int .u8 zQ.fOp),(.int .i64 zQ.fA),(.int .i64 zQ.fB),(.int .i64 zQ.fC)]) rfl rfl) ?_
 intro zrD _
 refine WL.pu rfl (WL.nil (WX.a (WC.b (WC.b (WC.a ?_)))))
 refine WL.a (d:=8) rfl rfl rfl (y4 y3d rfl rfl) ?_
 refine WL.a (d:=9) rfl rfl rfl (y6 yP rfl (yi .here rfl)) ?_
 refine WL.pu rfl (WL.pu rfl ?_)
 refine WL.seg false 3 11 (B:=(decide (zQ.fOp < 1)) || (decide (zQ.fOp > 25))) rfl rfl rfl rfl rfl rfl (fun h=>(or_l h).symm) (fun _ zgX=>?_) ?_
 ·skip
  refine WL.a (d:=12) rfl rfl rfl (y4 y3d rfl rfl) ?_
  refine WL.a (d:=13) rfl rfl rfl (y6 yP rfl (yi .here rfl)) ?_
  refine WL.pu rfl (WL.pu rfl ?_)
  exact WL.ys (or_r zgX) rfl rfl .all
 refine WL.nil (WX.a ?_)
 refine WC.cond rfl (fun zac=>?_) (fun zac=>?_)
 ·replace h:=yc h zac
  refine WC.b (WC.a (WL.pu rfl (WL.nil (WX.a (WC.ret (WX.y7 ?_))))))
  obtain rfl:=Option.some.inj h
  refine WX.y8 Tryd.results32 (.tmp rfl .nil) (fun w hw=>?_)
  exact ⟨yx rfl,hw.sub .nil⟩
 ·replace h:=yd h zac
  refine WC.skip (WX.a (WC.b (WC.a ?_)))
  refine WL.a (d:=16) rfl rfl rfl (y4 y1p rfl rfl) ?_
  refine WL.a (d:=17) rfl rfl rfl (y6 yh rfl (yi .here rfl)) ?_
  refine WL.a (d:=18) rfl rfl rfl (y4 y1J rfl rfl) ?_
  refine WL.a (d:=19) rfl rfl rfl (y6 yh rfl (yi .here rfl)) ?_
  refine WL.a (d:=20) rfl rfl rfl (y4 y3L rfl rfl) ?_
  refine WL.a (d:=21) rfl rfl rfl (y6 yh rfl (yi .here rfl)) ?_
  refine WL.a (d:=22) rfl rfl rfl (y1b (v:=(.agg #[(.int .i64 zQ.fA),(.int .i64 zQ.fB),(.int .i64 zQ.fC)])) (Eos.parts (l:=[.tmp 17,.tmp 19,.tmp 21]) (.cons rfl (.cons rfl (.cons rfl .nil))) [0,1,2]) (fun _=>by kernel_rfl)) ?_
  refine WL.new (dd:=5) rfl rfl rfl (yG (cs:=[(.int .i64 0),(.int .i64 0),(.int .i64 0)]) zeroT_73 rfl) ?_
  intro zd8 _
  refine WL.yq rfl rfl (yC sizT_73 rfl rfl rfl .here rfl rfl rfl) ?_
  refine WL.nil (WX.a ?_)
  obtain ⟨z3R,zgY,h⟩:=y27 h
  refine WC.y1F ((z3R = some r)) ([]) ([]) ?_ ?_
  ·skip
   refine WC.b ?_
   obtain ⟨zgZ,h⟩:=yb h
   refine WC.a ?_
   refine WL.a (d:=23) rfl rfl rfl (y4 y3d rfl rfl) ?_
   refine WL.a (d:=24) rfl rfl rfl (y6 yP rfl (yi .h1 rfl)) ?_
   refine WL.gnth (dd:=25) rfl rfl (ls:=y18) (Z:=Z) (Pr:=(p74 Z)) arT_75 rfl rfl hG1 zgZ ?_
   rintro zrE zrF zh0 zrG ⟨zh1,zh2,rfl,zh3⟩
   refine WL.a (d:=26) rfl rfl rfl (y6 oneT_74 rfl (y33 hz.pv zh0 rfl)) ?_
   refine WL.a (d:=27) rfl rfl rfl (yH Tryd.underlying74 rfl) ?_
   refine WL.pu rfl (WL.nil (WX.a (WC.block ?_)))
   refine WC.y2B (fun (z6x : Nat) (z2i : Int)=>(y10 zQ z2S z3R z6x z2i = some r)) (fun (z6x : Nat) (z2i : Int)=>[(1,(.int .i64 z2S)),(5,(.pointer (some ⟨zd8,0,none⟩))),(26,(.slice zh1 ((nth y18 zQ.fOp).length) zh2)),(27,(.int .i64 (((nth y18 zQ.fOp).length : Nat) : Int))),(28,(.int .i64 z2i))]) (fun (z6x : Nat) (z2i : Int)=>[stb zd8 73 [(.int .i64 zQ.fA),(.int .i64 zQ.fB),(.int .i64 zQ.fC)]]) (fun (z6x : Nat) (z2i : Int)=>z6x) ⟨yB,0⟩ h (.cons rfl (.cons rfl (.cons rfl (.cons rfl (.cons rfl .nil))))) (.cons .here .nil) ?_
   rintro z6x z2i h
   obtain ⟨zab,rfl⟩:=y5a h
   rw [y10] at h
   refine WC.b (WC.a (WL.pu rfl (WL.nil (WX.a (WC.b ?_)))))
   refine WC.cond rfl (fun zad=>?_) (fun zad=>?_)
   ·replace h:=yc h zad
    refine WC.skip (WX.a (WC.b (WC.block (WC.b ?_))))
    obtain ⟨zh4,h⟩:=yb h
    refine WC.a (WL.pu rfl ?_)
    refine WL.znth (dd:=31) rfl rfl (Z:=Z) (Pr:=(fun r x=>r = e76 x)) elT_74 rfl rfl zh3 zh4 ?_
    rintro zrH zrI zh5 zrJ rfl
    refine WL.a (d:=32) rfl rfl rfl (y6 oneT_76 rfl (y33 hz.pv zh5 rfl)) ?_
    refine WL.pu rfl (WL.pu rfl (WL.nil (WX.a (WC.b ?_))))
    obtain ⟨zd9,h⟩:=yb h
    obtain ⟨zd7,zh6,h⟩:=zd h
    refine WC.a (WL.pu rfl (WL.pu rfl ?_))
    refine WL.a (d:=35) rfl rfl rfl (y4m arT_73 rfl rfl zd9 y87) ?_
    refine WL.a (d:=36) rfl rfl rfl (y6 yh rfl (y1Q (l:=([zQ.fA,zQ.fB,zQ.fC] : List Int)) (f:=Value.int .i64) (k:=0) (m:=3) .here rfl rfl zd9)) ?_
    refine WL.pu rfl ?_
    refine WL.b (dd:=38) rfl rfl rfl (zm (l:=[.tmp 33,.tmp 36,.tmp 37]) Tryd.call43 (.cons rfl (.cons rfl (.cons rfl .nil)))) .nil (cc hz .nil fun w pz ho=>y5r _ _ _ _ _ zh6 w pz ) ?_
    refine WL.pu rfl (WL.nil (WX.a ?_))
    refine WC.cond rfl (fun zae=>?_) (fun zae=>?_)
    ·replace h:=yc h zae
     refine WC.b (WC.a (WL.pu rfl (WL.nil (WX.a (WC.ret (WX.yf (WX.y7 (WX.y7 (WX.yf (WX.y7 ?_))))))))))
     obtain rfl:=Option.some.inj h
     refine WX.y8 Tryd.results32 (.tmp rfl .nil) (fun w hw=>?_)
     exact ⟨yx rfl,hw.sub .nil⟩
    ·replace h:=yd h zae
     refine WC.skip (WX.ye (WX.a (WC.a (WL.pu rfl (WL.pu rfl (WL.nil ?_))))))
     exact WX.round (G:=Nat × Int) ⟨zab,(i64 (z2i + 1))⟩ h (Nat.lt_succ_self _) (.cons rfl (.cons rfl (.cons rfl (.cons rfl (.cons rfl .nil))))) (.cons .here .nil)
   ·replace h:=yd h zad
    refine WC.exit (WX.yg (WX.yg (WX.yD ?_)))
    exact WX.mid (G:=Unit) () h .nil .nil
  ·rintro  h
   replace h:=zgY.symm.trans h
   refine WC.b (WC.a (WL.pu rfl (WL.nil (WX.a (WC.ret ?_)))))
   obtain rfl:=Option.some.inj h
   refine WX.y8 Tryd.results32 (.tmp rfl .nil) (fun w hw=>?_)
   exact ⟨yx rfl,hw.sub .nil⟩
def y3u (z2c : List Sapi_Ins) (z1X : Int) : Option (Sapi_Ins × Bool) :=
 (if (decide (z1X < 0)) || (decide (z1X ≥ ((z2c.length : Nat) : Int))) then some true else chk ((0 : Int) ≤ z1X ∧ z1X < ((z2c.length : Nat) : Int)) ((y2i (⟨((nth z2c z1X).fOp),((nth z2c z1X).fA),((nth z2c z1X).fB),((nth z2c z1X).fC)⟩ : Sapi_Ins) ((z2c.length : Nat) : Int)).bind fun zda=>some (!zda))).bind fun zaf=>if zaf then some ((⟨0,0,0,0⟩ : Sapi_Ins),false) else chk ((0 : Int) ≤ z1X ∧ z1X < ((z2c.length : Nat) : Int)) (some ((⟨((nth z2c z1X).fOp),((nth z2c z1X).fA),((nth z2c z1X).fB),((nth z2c z1X).fC)⟩ : Sapi_Ins),true))
set_option maxRecDepth 20000 in
theorem y6H (Z : Zp) (z99 : Option Addr) (z9a : Nat) (z2c : List Sapi_Ins) (z1X : Int) (r : Sapi_Ins × Bool)
  (h : y3u z2c z1X = some r) (w₀ : World) (hz : PZ [] w₀ Z)
  (hG1 : ZS Z 1 (p74 Z) (some ⟨1,0,none⟩) 26 y18)
  (zdb : ZS Z 4 (fun r x=>r = e33 x) z99 z9a z2c) :
  Calls Tryd.prog 33 #[(.slice z99 z2c.length z9a),(.int .i64 z1X)] w₀ fun e w'=>e = .returned (.tuple #[(.agg #[(.int .u8 r.1.fOp),(.int .i64 r.1.fA),(.int .i64 r.1.fB),(.int .i64 r.1.fC)]),(.bool r.2)]) ∧ Hp [] w₀ w' []:=by
 unfold y3u at h
 refine Calls.ya (vs:=[(.slice z99 z2c.length z9a),(.int .i64 z1X)]) (pre:=[]) (env:=[(0,(.slice z99 z2c.length z9a)),(1,(.int .i64 z1X))]) Tryd.func33 rfl Tryd.ntmps33 rfl (Hp.nil w₀ _) rfl ?_
 refine WC.b (WC.a ?_)
 refine WL.new (dd:=4) rfl rfl rfl (yG (cs:=[(.int .u8 0),(.int .i64 0),(.int .i64 0),(.int .i64 0)]) y3m rfl) ?_
 intro zrK _
 refine WL.pu rfl (WL.nil (WX.a (WC.b (WC.b ?_))))
 obtain ⟨zaf,zdc,h⟩:=zd h
 refine WC.a (WL.pu rfl (WL.pu rfl (WL.pu rfl ?_)))
 refine WL.seg false 4 8 (B:=(decide (z1X < 0)) || (decide (z1X ≥ ((z2c.length : Nat) : Int)))) rfl rfl rfl rfl rfl rfl (fun h=>(or_l h).symm) (fun _ zh7=>?_) ?_
 ·skip
  refine WL.pu rfl (WL.pu rfl ?_)
  refine WL.a (d:=11) rfl rfl rfl (yH Tryd.underlying22 rfl) ?_
  refine WL.pu rfl (WL.pu rfl ?_)
  exact WL.ys (or_r zh7) rfl rfl .all
 refine WL.pu rfl ?_
 refine WL.seg false 8 14 (B:=zaf) rfl rfl rfl rfl rfl rfl (fun h=>(Option.some.inj (yc zdc h)).symm) (fun _ zh8=>?_) ?_
 ·skip
  have z62:=yd zdc zh8
  obtain ⟨zh9,z62⟩:=yb z62
  obtain ⟨zda,zha,z62⟩:=zd z62
  replace z62:=Option.some.inj z62
  refine WL.pu rfl (WL.pu rfl ?_)
  refine WL.znth (dd:=17) rfl rfl (Z:=Z) (Pr:=(fun r x=>r = e33 x)) y15 rfl rfl zdb zh9 ?_
  rintro zrL zrM zhb zrN rfl
  refine WL.a (d:=18) rfl rfl rfl (y16 y1N rfl (y56 hz.pv zhb) rfl) ?_
  refine WL.pu rfl ?_
  refine WL.a (d:=20) rfl rfl rfl (yH Tryd.underlying22 rfl) ?_
  refine WL.b (dd:=21) rfl rfl rfl (zm (l:=[.tmp 18,.tmp 20]) Tryd.call32 (.cons rfl (.cons rfl .nil))) .nil (cc hz .nil fun w pz ho=>y5J _ _ _ _ zha w pz hG1) ?_
  refine WL.pu rfl (WL.pu rfl ?_)
  exact WL.ys z62 rfl rfl .all
 refine WL.nil (WX.a ?_)
 refine WC.cond rfl (fun zag=>?_) (fun zag=>?_)
 ·replace h:=yc h zag
  refine WC.b (WC.a ?_)
  refine WL.a (d:=24) rfl rfl rfl (y1b (v:=(.agg #[(.int .u8 0),(.int .i64 0),(.int .i64 0),(.int .i64 0)])) (Eos.parts (l:=[]) .nil []) (fun _=>by kernel_rfl)) ?_
  refine WL.yq rfl rfl (yC y3K rfl rfl rfl .here rfl rfl rfl) ?_
  refine WL.pu rfl (WL.nil (WX.a (WC.ret (WX.y7 ?_))))
  obtain rfl:=Option.some.inj h
  refine WX.y8 Tryd.results33 (.agg rfl y1N rfl (y1l .here) (.tmp rfl .nil)) (fun w hw=>?_)
  exact ⟨y1B rfl rfl,hw.sub .nil⟩
 ·replace h:=yd h zag
  refine WC.skip (WX.a (WC.b ?_))
  obtain ⟨zhc,h⟩:=yb h
  refine WC.a (WL.pu rfl (WL.pu rfl ?_))
  refine WL.znth (dd:=27) rfl rfl (Z:=Z) (Pr:=(fun r x=>r = e33 x)) y15 rfl rfl zdb zhc ?_
  rintro zrO zrP zhd zrQ rfl
  refine WL.a (d:=28) rfl rfl rfl (y16 y1N rfl (y56 hz.pv zhd) rfl) ?_
  refine WL.yq rfl rfl (yC y3K rfl rfl rfl .here rfl rfl rfl) ?_
  refine WL.pu rfl (WL.nil (WX.a (WC.ret ?_)))
  obtain rfl:=Option.some.inj h
  refine WX.y8 Tryd.results33 (.agg rfl y1N rfl (y1l .here) (.tmp rfl .nil)) (fun w hw=>?_)
  exact ⟨y1B rfl rfl,hw.sub .nil⟩
def y2j (zb : Sproc_execution) : Option Sproc_execution :=
 jp1 (fun (z32 : Int)=>if decide ((i64 (z32 - 1)) ≠ 0) then some (⟨(⟨i64 (zb.fState.fPc - 1),i64 (z32 - 1),zb.fState.fRegs⟩ : Sproc_State),zb.fX,zb.fMem,zb.fAct⟩ : Sproc_execution) else some (⟨(⟨zb.fState.fPc,i64 (z32 - 1),zb.fState.fRegs⟩ : Sproc_State),zb.fX,zb.fMem,zb.fAct⟩ : Sproc_execution)) fun z9b=>if decide (zb.fState.fLeft = 0) then z9b zb.fX.fA else z9b zb.fState.fLeft
set_option maxRecDepth 20000 in
theorem y4I (Z : Zp) (z3j : Nat) (z33 : Option Addr) (z34 : Nat) (z35 : Option Addr) (z36 : Nat) (zb : Sproc_execution) (r : Sproc_execution)
  (h : y2j zb = some r) (w₀ : World) (hz : PZ (fps [stb z3j 65 [(.int .i64 zb.fState.fPc),(.int .i64 zb.fState.fLeft),(.int .u8 zb.fState.fRegs.a0),(.int .u8 zb.fState.fRegs.a1),(.int .u8 zb.fState.fRegs.a2),(.int .u8 zb.fState.fRegs.a3),(.int .u8 zb.fX.fOp),(.int .i64 zb.fX.fA),(.int .i64 zb.fX.fB),(.int .i64 zb.fX.fC),(.slice z33 zb.fMem.length z34),(.int .u8 zb.fAct.fKind),(.int .i64 zb.fAct.fA),(.int .i64 zb.fAct.fB),(.slice z35 zb.fAct.fData.length z36)]]) w₀ Z)
  (zdd : ZS Z 1 (fun r x=>r = e5 x) z33 z34 zb.fMem)
  (zde : ZS Z 1 (fun r x=>r = e5 x) z35 z36 zb.fAct.fData)
  (hown : Hp (fps [stb z3j 65 [(.int .i64 zb.fState.fPc),(.int .i64 zb.fState.fLeft),(.int .u8 zb.fState.fRegs.a0),(.int .u8 zb.fState.fRegs.a1),(.int .u8 zb.fState.fRegs.a2),(.int .u8 zb.fState.fRegs.a3),(.int .u8 zb.fX.fOp),(.int .i64 zb.fX.fA),(.int .i64 zb.fX.fB),(.int .i64 zb.fX.fC),(.slice z33 zb.fMem.length z34),(.int .u8 zb.fAct.fKind),(.int .i64 zb.fAct.fA),(.int .i64 zb.fAct.fB),(.slice z35 zb.fAct.fData.length z36)]]) w₀ w₀ [stb z3j 65 [(.int .i64 zb.fState.fPc),(.int .i64 zb.fState.fLeft),(.int .u8 zb.fState.fRegs.a0),(.int .u8 zb.fState.fRegs.a1),(.int .u8 zb.fState.fRegs.a2),(.int .u8 zb.fState.fRegs.a3),(.int .u8 zb.fX.fOp),(.int .i64 zb.fX.fA),(.int .i64 zb.fX.fB),(.int .i64 zb.fX.fC),(.slice z33 zb.fMem.length z34),(.int .u8 zb.fAct.fKind),(.int .i64 zb.fAct.fA),(.int .i64 zb.fAct.fB),(.slice z35 zb.fAct.fData.length z36)]]) :
  Calls Tryd.prog 84 #[(.pointer (some ⟨z3j,0,none⟩))] w₀ fun e w'=>∃ zdf : Option Addr,∃ zdg : Nat,∃ zdh : Option Addr,∃ zdi : Nat,e = .returned (.tuple #[]) ∧ ((ZS Z 1 (fun r x=>r = e5 x) zdf zdg r.fMem) ∧ (ZS Z 1 (fun r x=>r = e5 x) zdh zdi r.fAct.fData)) ∧ Hp (fps [stb z3j 65 [(.int .i64 zb.fState.fPc),(.int .i64 zb.fState.fLeft),(.int .u8 zb.fState.fRegs.a0),(.int .u8 zb.fState.fRegs.a1),(.int .u8 zb.fState.fRegs.a2),(.int .u8 zb.fState.fRegs.a3),(.int .u8 zb.fX.fOp),(.int .i64 zb.fX.fA),(.int .i64 zb.fX.fB),(.int .i64 zb.fX.fC),(.slice z33 zb.fMem.length z34),(.int .u8 zb.fAct.fKind),(.int .i64 zb.fAct.fA),(.int .i64 zb.fAct.fB),(.slice z35 zb.fAct.fData.length z36)]]) w₀ w' [stb z3j 65 [(.int .i64 r.fState.fPc),(.int .i64 r.fState.fLeft),(.int .u8 r.fState.fRegs.a0),(.int .u8 r.fState.fRegs.a1),(.int .u8 r.fState.fRegs.a2),(.int .u8 r.fState.fRegs.a3),(.int .u8 r.fX.fOp),(.int .i64 r.fX.fA),(.int .i64 r.fX.fB),(.int .i64 r.fX.fC),(.slice zdf r.fMem.length zdg),(.int .u8 r.fAct.fKind),(.int .i64 r.fAct.fA),(.int .i64 r.fAct.fB),(.slice zdh r.fAct.fData.length zdi)]]:=by
 unfold y2j at h
 refine Calls.ya (vs:=[(.pointer (some ⟨z3j,0,none⟩))]) (pre:=[stb z3j 65 [(.int .i64 zb.fState.fPc),(.int .i64 zb.fState.fLeft),(.int .u8 zb.fState.fRegs.a0),(.int .u8 zb.fState.fRegs.a1),(.int .u8 zb.fState.fRegs.a2),(.int .u8 zb.fState.fRegs.a3),(.int .u8 zb.fX.fOp),(.int .i64 zb.fX.fA),(.int .i64 zb.fX.fB),(.int .i64 zb.fX.fC),(.slice z33 zb.fMem.length z34),(.int .u8 zb.fAct.fKind),(.int .i64 zb.fAct.fA),(.int .i64 zb.fAct.fB),(.slice z35 zb.fAct.fData.length z36)]]) (env:=[(0,(.pointer (some ⟨z3j,0,none⟩)))]) Tryd.func84 rfl Tryd.ntmps84 rfl (hown) rfl ?_
 obtain ⟨z9b,zhe,h⟩:=yS h
 refine WC.yO (fun (z32 : Int)=>(z9b z32 = some r)) (fun (z32 : Int)=>[(0,(.pointer (some ⟨z3j,0,none⟩)))]) (fun (z32 : Int)=>[stb z3j 65 [(.int .i64 zb.fState.fPc),(.int .i64 z32),(.int .u8 zb.fState.fRegs.a0),(.int .u8 zb.fState.fRegs.a1),(.int .u8 zb.fState.fRegs.a2),(.int .u8 zb.fState.fRegs.a3),(.int .u8 zb.fX.fOp),(.int .i64 zb.fX.fA),(.int .i64 zb.fX.fB),(.int .i64 zb.fX.fC),(.slice z33 zb.fMem.length z34),(.int .u8 zb.fAct.fKind),(.int .i64 zb.fAct.fA),(.int .i64 zb.fAct.fB),(.slice z35 zb.fAct.fData.length z36)]]) ?_ ?_
 ·skip
  refine WC.b (WC.a (WL.pu rfl ?_))
  refine WL.a (d:=3) rfl rfl rfl (y9 rfl) ?_
  refine WL.a (d:=4) rfl rfl rfl (y4 y1x rfl rfl) ?_
  refine WL.a (d:=5) rfl rfl rfl (y4 y4F rfl rfl) ?_
  refine WL.a (d:=6) rfl rfl rfl (y6 yh rfl (yi .here rfl)) ?_
  refine WL.pu rfl (WL.nil (WX.a ?_))
  refine WC.cond rfl (fun zah=>?_) (fun zah=>?_)
  ·replace h:=yc h zah
   refine WC.a (WL.pu rfl (WL.pu rfl ?_))
   refine WL.a (d:=10) rfl rfl rfl (y9 rfl) ?_
   refine WL.a (d:=11) rfl rfl rfl (y4 yM rfl rfl) ?_
   refine WL.a (d:=12) rfl rfl rfl (y4 y1p rfl rfl) ?_
   refine WL.a (d:=13) rfl rfl rfl (y6 yh rfl (yi .here rfl)) ?_
   refine WL.a (d:=14) rfl rfl rfl (y9 rfl) ?_
   refine WL.a (d:=15) rfl rfl rfl (y4 y1x rfl rfl) ?_
   refine WL.a (d:=16) rfl rfl rfl (y4 y4F rfl rfl) ?_
   refine WL.yq rfl rfl (y1E (ds:=[(.int .i64 zb.fState.fPc),(.int .i64 zb.fX.fA),(.int .u8 zb.fState.fRegs.a0),(.int .u8 zb.fState.fRegs.a1),(.int .u8 zb.fState.fRegs.a2),(.int .u8 zb.fState.fRegs.a3),(.int .u8 zb.fX.fOp),(.int .i64 zb.fX.fA),(.int .i64 zb.fX.fB),(.int .i64 zb.fX.fC),(.slice z33 zb.fMem.length z34),(.int .u8 zb.fAct.fKind),(.int .i64 zb.fAct.fA),(.int .i64 zb.fAct.fB),(.slice z35 zb.fAct.fData.length z36)]) y36 rfl rfl rfl rfl rfl .here rfl rfl) ?_
   refine WL.nil ?_
   exact WX.mid (G:=Int) zb.fX.fA h (.cons rfl .nil) (.cons .here .nil)
  ·replace h:=yd h zah
   refine WC.skip ?_
   exact WX.mid (G:=Int) zb.fState.fLeft h (.cons rfl .nil) (.cons .here .nil)
 ·rintro z32 h
  replace h:=(zhe z32).symm.trans h
  refine WC.b (WC.a (WL.pu rfl ?_))
  refine WL.a (d:=18) rfl rfl rfl (y9 rfl) ?_
  refine WL.a (d:=19) rfl rfl rfl (y4 y1x rfl rfl) ?_
  refine WL.a (d:=20) rfl rfl rfl (y4 y4F rfl rfl) ?_
  refine WL.a (d:=21) rfl rfl rfl (y6 yh rfl (yi .here rfl)) ?_
  refine WL.pu rfl ?_
  refine WL.a (d:=23) rfl rfl rfl (y9 rfl) ?_
  refine WL.a (d:=24) rfl rfl rfl (y4 y1x rfl rfl) ?_
  refine WL.a (d:=25) rfl rfl rfl (y4 y4F rfl rfl) ?_
  refine WL.yq rfl rfl (y1E (ds:=[(.int .i64 zb.fState.fPc),(.int .i64 (i64 (z32 - 1))),(.int .u8 zb.fState.fRegs.a0),(.int .u8 zb.fState.fRegs.a1),(.int .u8 zb.fState.fRegs.a2),(.int .u8 zb.fState.fRegs.a3),(.int .u8 zb.fX.fOp),(.int .i64 zb.fX.fA),(.int .i64 zb.fX.fB),(.int .i64 zb.fX.fC),(.slice z33 zb.fMem.length z34),(.int .u8 zb.fAct.fKind),(.int .i64 zb.fAct.fA),(.int .i64 zb.fAct.fB),(.slice z35 zb.fAct.fData.length z36)]) y36 rfl rfl rfl rfl rfl .here rfl rfl) ?_
  refine WL.nil (WX.a (WC.b (WC.a (WL.pu rfl ?_))))
  refine WL.a (d:=27) rfl rfl rfl (y9 rfl) ?_
  refine WL.a (d:=28) rfl rfl rfl (y4 y1x rfl rfl) ?_
  refine WL.a (d:=29) rfl rfl rfl (y4 y4F rfl rfl) ?_
  refine WL.a (d:=30) rfl rfl rfl (y6 yh rfl (yi .here rfl)) ?_
  refine WL.pu rfl (WL.nil (WX.a ?_))
  refine WC.cond rfl (fun zai=>?_) (fun zai=>?_)
  ·replace h:=yc h zai
   refine WC.a (WL.pu rfl ?_)
   refine WL.a (d:=33) rfl rfl rfl (y9 rfl) ?_
   refine WL.a (d:=34) rfl rfl rfl (y4 y1x rfl rfl) ?_
   refine WL.a (d:=35) rfl rfl rfl (y4 y2T rfl rfl) ?_
   refine WL.a (d:=36) rfl rfl rfl (y6 yh rfl (yi .here rfl)) ?_
   refine WL.pu rfl ?_
   refine WL.a (d:=38) rfl rfl rfl (y9 rfl) ?_
   refine WL.a (d:=39) rfl rfl rfl (y4 y1x rfl rfl) ?_
   refine WL.a (d:=40) rfl rfl rfl (y4 y2T rfl rfl) ?_
   refine WL.yq rfl rfl (y1E (ds:=[(.int .i64 (i64 (zb.fState.fPc - 1))),(.int .i64 (i64 (z32 - 1))),(.int .u8 zb.fState.fRegs.a0),(.int .u8 zb.fState.fRegs.a1),(.int .u8 zb.fState.fRegs.a2),(.int .u8 zb.fState.fRegs.a3),(.int .u8 zb.fX.fOp),(.int .i64 zb.fX.fA),(.int .i64 zb.fX.fB),(.int .i64 zb.fX.fC),(.slice z33 zb.fMem.length z34),(.int .u8 zb.fAct.fKind),(.int .i64 zb.fAct.fA),(.int .i64 zb.fAct.fB),(.slice z35 zb.fAct.fData.length z36)]) y36 rfl rfl rfl rfl rfl .here rfl rfl) ?_
   refine WL.nil ?_
   obtain rfl:=Option.some.inj h
   refine WX.yl Tryd.results84 .nil (fun w hw=>?_)
   exact ⟨z33,z34,z35,z36,y1m,⟨zdd,zde⟩,hw.sub (.cons .here .nil)⟩
  ·replace h:=yd h zai
   refine WC.skip ?_
   obtain rfl:=Option.some.inj h
   refine WX.yl Tryd.results84 .nil (fun w hw=>?_)
   exact ⟨z33,z34,z35,z36,y1m,⟨zdd,zde⟩,hw.sub (.cons .here .nil)⟩
def yk (z2d : Sproc_execution) (z4Z : Int) : Option Unit :=
 chk ((0 : Int) ≤ z4Z ∧ z4Z < 4) (some ())
set_option maxRecDepth 20000 in
theorem yn (Z : Zp) (z8k : Addr) (zdj : Option Addr) (zdk : Nat) (zdl : Option Addr) (zdm : Nat) (z2d : Sproc_execution) (z4Z : Int) (r : Unit)
  (h : yk z2d z4Z = some r) (w₀ : World) (hz : PZ [] w₀ Z)
  (zrR : ZS Z 1 (fun r x=>r = e5 x) zdj zdk z2d.fMem)
  (zrS : ZS Z 1 (fun r x=>r = e5 x) zdl zdm z2d.fAct.fData)
  (zrT : ZC Z z8k [(.int .i64 z2d.fState.fPc),(.int .i64 z2d.fState.fLeft),(.int .u8 z2d.fState.fRegs.a0),(.int .u8 z2d.fState.fRegs.a1),(.int .u8 z2d.fState.fRegs.a2),(.int .u8 z2d.fState.fRegs.a3),(.int .u8 z2d.fX.fOp),(.int .i64 z2d.fX.fA),(.int .i64 z2d.fX.fB),(.int .i64 z2d.fX.fC),(.slice zdj z2d.fMem.length zdk),(.int .u8 z2d.fAct.fKind),(.int .i64 z2d.fAct.fA),(.int .i64 z2d.fAct.fB),(.slice zdl z2d.fAct.fData.length zdm)]) :
  Calls Tryd.prog 108 #[(.pointer (some z8k)),(.int .i64 z4Z)] w₀ fun e w'=>e = .returned (.pointer (some (Addr.add z8k (2 + (z4Z : Int).toNat)))) ∧ Hp [] w₀ w' []:=by
 unfold yk at h
 refine Calls.ya (vs:=[(.pointer (some z8k)),(.int .i64 z4Z)]) (pre:=[]) (env:=[(0,(.pointer (some z8k))),(1,(.int .i64 z4Z))]) Tryd.func108 rfl Tryd.ntmps108 rfl (Hp.nil w₀ _) rfl ?_
 refine WC.b (WC.a (WL.pu rfl (WL.nil (WX.a (WC.b ?_)))))
 obtain ⟨zhf,h⟩:=yb h
 refine WC.a (WL.pu rfl (WL.pu rfl ?_))
 refine WL.a (d:=7) rfl rfl rfl (y9 rfl) ?_
 refine WL.a (d:=8) rfl rfl rfl (y4 y1x rfl rfl) ?_
 refine WL.a (d:=9) rfl rfl rfl (y4 fo_39_2 rfl rfl) ?_
 refine WL.a (d:=10) rfl rfl rfl (y4m arT_34 rfl rfl zhf add_z1) ?_
 refine WL.pu rfl (WL.nil (WX.a (WC.ret ?_)))
 skip
 refine WX.y8 Tryd.results108 (.tmp rfl .nil) (fun w hw=>?_)
 exact ⟨yx rfl,hw.sub .nil⟩
def y2E (za : Sproc_execution) : Option Sproc_execution :=
 (yk za za.fX.fA).bind fun zhg=>chk ((0 : Int) ≤ za.fX.fA ∧ za.fX.fA < 4) (some (⟨(⟨za.fState.fPc,za.fState.fLeft,(⟨nth (([za.fState.fRegs.a0,za.fState.fRegs.a1,za.fState.fRegs.a2,za.fState.fRegs.a3] : List Int).set (za.fX.fA : Int).toNat (u8 za.fX.fB)) 0,nth (([za.fState.fRegs.a0,za.fState.fRegs.a1,za.fState.fRegs.a2,za.fState.fRegs.a3] : List Int).set (za.fX.fA : Int).toNat (u8 za.fX.fB)) 1,nth (([za.fState.fRegs.a0,za.fState.fRegs.a1,za.fState.fRegs.a2,za.fState.fRegs.a3] : List Int).set (za.fX.fA : Int).toNat (u8 za.fX.fB)) 2,nth (([za.fState.fRegs.a0,za.fState.fRegs.a1,za.fState.fRegs.a2,za.fState.fRegs.a3] : List Int).set (za.fX.fA : Int).toNat (u8 za.fX.fB)) 3⟩ : S34)⟩ : Sproc_State),za.fX,za.fMem,za.fAct⟩ : Sproc_execution))
set_option maxRecDepth 20000 in
theorem y5b (Z : Zp) (z3S : Nat) (z50 : Option Addr) (z52 : Nat) (z54 : Option Addr) (z55 : Nat) (za : Sproc_execution) (r : Sproc_execution)
  (h : y2E za = some r) (w₀ : World) (hz : PZ (fps [stb z3S 65 [(.int .i64 za.fState.fPc),(.int .i64 za.fState.fLeft),(.int .u8 za.fState.fRegs.a0),(.int .u8 za.fState.fRegs.a1),(.int .u8 za.fState.fRegs.a2),(.int .u8 za.fState.fRegs.a3),(.int .u8 za.fX.fOp),(.int .i64 za.fX.fA),(.int .i64 za.fX.fB),(.int .i64 za.fX.fC),(.slice z50 za.fMem.length z52),(.int .u8 za.fAct.fKind),(.int .i64 za.fAct.fA),(.int .i64 za.fAct.fB),(.slice z54 za.fAct.fData.length z55)]]) w₀ Z)
  (zdn : ZS Z 1 (fun r x=>r = e5 x) z50 z52 za.fMem)
  (zdo : ZS Z 1 (fun r x=>r = e5 x) z54 z55 za.fAct.fData)
  (hown : Hp (fps [stb z3S 65 [(.int .i64 za.fState.fPc),(.int .i64 za.fState.fLeft),(.int .u8 za.fState.fRegs.a0),(.int .u8 za.fState.fRegs.a1),(.int .u8 za.fState.fRegs.a2),(.int .u8 za.fState.fRegs.a3),(.int .u8 za.fX.fOp),(.int .i64 za.fX.fA),(.int .i64 za.fX.fB),(.int .i64 za.fX.fC),(.slice z50 za.fMem.length z52),(.int .u8 za.fAct.fKind),(.int .i64 za.fAct.fA),(.int .i64 za.fAct.fB),(.slice z54 za.fAct.fData.length z55)]]) w₀ w₀ [stb z3S 65 [(.int .i64 za.fState.fPc),(.int .i64 za.fState.fLeft),(.int .u8 za.fState.fRegs.a0),(.int .u8 za.fState.fRegs.a1),(.int .u8 za.fState.fRegs.a2),(.int .u8 za.fState.fRegs.a3),(.int .u8 za.fX.fOp),(.int .i64 za.fX.fA),(.int .i64 za.fX.fB),(.int .i64 za.fX.fC),(.slice z50 za.fMem.length z52),(.int .u8 za.fAct.fKind),(.int .i64 za.fAct.fA),(.int .i64 za.fAct.fB),(.slice z54 za.fAct.fData.length z55)]]) :
  Calls Tryd.prog 85 #[(.pointer (some ⟨z3S,0,none⟩))] w₀ fun e w'=>∃ zdp : Option Addr,∃ zdq : Nat,∃ zdr : Option Addr,∃ zds : Nat,e = .returned (.tuple #[]) ∧ ((ZS Z 1 (fun r x=>r = e5 x) zdp zdq r.fMem) ∧ (ZS Z 1 (fun r x=>r = e5 x) zdr zds r.fAct.fData)) ∧ Hp (fps [stb z3S 65 [(.int .i64 za.fState.fPc),(.int .i64 za.fState.fLeft),(.int .u8 za.fState.fRegs.a0),(.int .u8 za.fState.fRegs.a1),(.int .u8 za.fState.fRegs.a2),(.int .u8 za.fState.fRegs.a3),(.int .u8 za.fX.fOp),(.int .i64 za.fX.fA),(.int .i64 za.fX.fB),(.int .i64 za.fX.fC),(.slice z50 za.fMem.length z52),(.int .u8 za.fAct.fKind),(.int .i64 za.fAct.fA),(.int .i64 za.fAct.fB),(.slice z54 za.fAct.fData.length z55)]]) w₀ w' [stb z3S 65 [(.int .i64 r.fState.fPc),(.int .i64 r.fState.fLeft),(.int .u8 r.fState.fRegs.a0),(.int .u8 r.fState.fRegs.a1),(.int .u8 r.fState.fRegs.a2),(.int .u8 r.fState.fRegs.a3),(.int .u8 r.fX.fOp),(.int .i64 r.fX.fA),(.int .i64 r.fX.fB),(.int .i64 r.fX.fC),(.slice zdp r.fMem.length zdq),(.int .u8 r.fAct.fKind),(.int .i64 r.fAct.fA),(.int .i64 r.fAct.fB),(.slice zdr r.fAct.fData.length zds)]]:=by
 unfold y2E at h
 refine Calls.ya (vs:=[(.pointer (some ⟨z3S,0,none⟩))]) (pre:=[stb z3S 65 [(.int .i64 za.fState.fPc),(.int .i64 za.fState.fLeft),(.int .u8 za.fState.fRegs.a0),(.int .u8 za.fState.fRegs.a1),(.int .u8 za.fState.fRegs.a2),(.int .u8 za.fState.fRegs.a3),(.int .u8 za.fX.fOp),(.int .i64 za.fX.fA),(.int .i64 za.fX.fB),(.int .i64 za.fX.fC),(.slice z50 za.fMem.length z52),(.int .u8 za.fAct.fKind),(.int .i64 za.fAct.fA),(.int .i64 za.fAct.fB),(.slice z54 za.fAct.fData.length z55)]]) (env:=[(0,(.pointer (some ⟨z3S,0,none⟩)))]) Tryd.func85 rfl Tryd.ntmps85 rfl (hown) rfl ?_
 obtain ⟨zhg,zhh,h⟩:=zd h
 obtain ⟨zhi,h⟩:=yb h
 refine WC.y1j (fun i=>[14].contains i) [] rfl ?_
 refine WD.a (i:=0) (d:=2) (by kernel_rfl) rfl z1 z2 rfl rfl rfl (fun _=>q_m rfl) ?_
 refine WD.a (i:=1) (d:=3) (by kernel_rfl) rfl z1 z2 rfl rfl rfl (fun _=>q_m rfl) ?_
 refine WD.a (i:=2) (d:=4) (by kernel_rfl) rfl z1 z2 rfl rfl rfl (fun _=>y9 rfl) ?_
 refine WD.a (i:=3) (d:=5) (by kernel_rfl) rfl z1 z2 rfl rfl rfl (fun _=>y4 yM rfl rfl) ?_
 refine WD.a (i:=4) (d:=6) (by kernel_rfl) rfl z1 z2 rfl rfl rfl (fun _=>y4 y1p rfl rfl) ?_
 refine WD.e (i:=5) (d:=7) (by kernel_rfl) rfl z1 z2 rfl rfl rfl (y6 yh rfl (yi .here rfl)) ?_
 refine WD.c (i:=6) (d:=8) (by kernel_rfl) rfl z1 z2 rfl rfl rfl (zm (l:=[.tmp 2,.tmp 7]) Tryd.call108 (.cons rfl (.cons rfl .nil))) (ccl hz .nil (.cons .here .nil) fun w pz ho la=>yn _ _ _ _ _ _ _ _ _ zhh w pz (zdn.mono (Zle.left _ _)) (zdo.mono (Zle.left _ _)) ((la _ (.head _) _).stb)) ?_
 refine WD.a (i:=7) (d:=9) (by kernel_rfl) rfl z1 z2 rfl rfl rfl (fun _=>q_m rfl) ?_
 refine WD.a (i:=8) (d:=10) (by kernel_rfl) rfl z1 z2 rfl rfl rfl (fun _=>y9 rfl) ?_
 refine WD.a (i:=9) (d:=11) (by kernel_rfl) rfl z1 z2 rfl rfl rfl (fun _=>y4 yM rfl rfl) ?_
 refine WD.a (i:=10) (d:=12) (by kernel_rfl) rfl z1 z2 rfl rfl rfl (fun _=>y4 y1J rfl rfl) ?_
 refine WD.e (i:=11) (d:=13) (by kernel_rfl) rfl z1 z2 rfl rfl rfl (y6 yh rfl (yi .here rfl)) ?_
 refine WD.a (i:=12) (d:=14) (by kernel_rfl) rfl z1 z2 rfl rfl rfl (fun _=>y5x Tryd.underlying3 Tryd.underlying5 rfl rfl) ?_
 refine WD.a (i:=13) (d:=15) (by kernel_rfl) rfl z1 z2 rfl rfl rfl (fun _=>y9 rfl) ?_
 refine WD.y30 (i:=14) rfl (by kernel_rfl) rfl rfl rfl (by kernel_rfl) (y3B (l:=([za.fState.fRegs.a0,za.fState.fRegs.a1,za.fState.fRegs.a2,za.fState.fRegs.a3] : List Int)) (f:=Value.int .u8) (u:=u8 za.fX.fB) (k:=2) (m:=6) (j:=4) (ds:=[(.int .i64 za.fState.fPc),(.int .i64 za.fState.fLeft),(.int .u8 (nth (([za.fState.fRegs.a0,za.fState.fRegs.a1,za.fState.fRegs.a2,za.fState.fRegs.a3] : List Int).set (za.fX.fA : Int).toNat (u8 za.fX.fB)) 0)),(.int .u8 (nth (([za.fState.fRegs.a0,za.fState.fRegs.a1,za.fState.fRegs.a2,za.fState.fRegs.a3] : List Int).set (za.fX.fA : Int).toNat (u8 za.fX.fB)) 1)),(.int .u8 (nth (([za.fState.fRegs.a0,za.fState.fRegs.a1,za.fState.fRegs.a2,za.fState.fRegs.a3] : List Int).set (za.fX.fA : Int).toNat (u8 za.fX.fB)) 2)),(.int .u8 (nth (([za.fState.fRegs.a0,za.fState.fRegs.a1,za.fState.fRegs.a2,za.fState.fRegs.a3] : List Int).set (za.fX.fA : Int).toNat (u8 za.fX.fB)) 3)),(.int .u8 za.fX.fOp),(.int .i64 za.fX.fA),(.int .i64 za.fX.fB),(.int .i64 za.fX.fC),(.slice z50 za.fMem.length z52),(.int .u8 za.fAct.fKind),(.int .i64 za.fAct.fA),(.int .i64 za.fAct.fB),(.slice z54 za.fAct.fData.length z55)]) y4G rfl rfl rfl rfl .here rfl rfl zhi rfl rfl) ?_
 refine WD.done (by kernel_rfl) ?_
 obtain rfl:=Option.some.inj h
 refine WX.yl Tryd.results85 .nil (fun w hw=>?_)
 exact ⟨z50,z52,z54,z55,y1m,⟨zdn,zdo⟩,hw.sub (.cons .here .nil)⟩
def y2F (z7 : Sproc_execution) : Option Sproc_execution :=
 (yk z7 z7.fX.fA).bind fun zhj=>chk ((0 : Int) ≤ z7.fX.fA ∧ z7.fX.fA < 4) ((yk z7 z7.fX.fB).bind fun zhk=>chk ((0 : Int) ≤ z7.fX.fB ∧ z7.fX.fB < 4) (some (⟨(⟨z7.fState.fPc,z7.fState.fLeft,(⟨nth (([z7.fState.fRegs.a0,z7.fState.fRegs.a1,z7.fState.fRegs.a2,z7.fState.fRegs.a3] : List Int).set (z7.fX.fA : Int).toNat (u8 ((nth ([z7.fState.fRegs.a0,z7.fState.fRegs.a1,z7.fState.fRegs.a2,z7.fState.fRegs.a3] : List Int) z7.fX.fA) + (nth ([z7.fState.fRegs.a0,z7.fState.fRegs.a1,z7.fState.fRegs.a2,z7.fState.fRegs.a3] : List Int) z7.fX.fB)))) 0,nth (([z7.fState.fRegs.a0,z7.fState.fRegs.a1,z7.fState.fRegs.a2,z7.fState.fRegs.a3] : List Int).set (z7.fX.fA : Int).toNat (u8 ((nth ([z7.fState.fRegs.a0,z7.fState.fRegs.a1,z7.fState.fRegs.a2,z7.fState.fRegs.a3] : List Int) z7.fX.fA) + (nth ([z7.fState.fRegs.a0,z7.fState.fRegs.a1,z7.fState.fRegs.a2,z7.fState.fRegs.a3] : List Int) z7.fX.fB)))) 1,nth (([z7.fState.fRegs.a0,z7.fState.fRegs.a1,z7.fState.fRegs.a2,z7.fState.fRegs.a3] : List Int).set (z7.fX.fA : Int).toNat (u8 ((nth ([z7.fState.fRegs.a0,z7.fState.fRegs.a1,z7.fState.fRegs.a2,z7.fState.fRegs.a3] : List Int) z7.fX.fA) + (nth ([z7.fState.fRegs.a0,z7.fState.fRegs.a1,z7.fState.fRegs.a2,z7.fState.fRegs.a3] : List Int) z7.fX.fB)))) 2,nth (([z7.fState.fRegs.a0,z7.fState.fRegs.a1,z7.fState.fRegs.a2,z7.fState.fRegs.a3] : List Int).set (z7.fX.fA : Int).toNat (u8 ((nth ([z7.fState.fRegs.a0,z7.fState.fRegs.a1,z7.fState.fRegs.a2,z7.fState.fRegs.a3] : List Int) z7.fX.fA) + (nth ([z7.fState.fRegs.a0,z7.fState.fRegs.a1,z7.fState.fRegs.a2,z7.fState.fRegs.a3] : List Int) z7.fX.fB)))) 3⟩ : S34)⟩ : Sproc_State),z7.fX,z7.fMem,z7.fAct⟩ : Sproc_execution)))
set_option maxRecDepth 20000 in
theorem y5c (Z : Zp) (z3T : Nat) (z56 : Option Addr) (z57 : Nat) (z58 : Option Addr) (z59 : Nat) (z7 : Sproc_execution) (r : Sproc_execution)
  (h : y2F z7 = some r) (w₀ : World) (hz : PZ (fps [stb z3T 65 [(.int .i64 z7.fState.fPc),(.int .i64 z7.fState.fLeft),(.int .u8 z7.fState.fRegs.a0),(.int .u8 z7.fState.fRegs.a1),(.int .u8 z7.fState.fRegs.a2),(.int .u8 z7.fState.fRegs.a3),(.int .u8 z7.fX.fOp),(.int .i64 z7.fX.fA),(.int .i64 z7.fX.fB),(.int .i64 z7.fX.fC),(.slice z56 z7.fMem.length z57),(.int .u8 z7.fAct.fKind),(.int .i64 z7.fAct.fA),(.int .i64 z7.fAct.fB),(.slice z58 z7.fAct.fData.length z59)]]) w₀ Z)
  (zaj : ZS Z 1 (fun r x=>r = e5 x) z56 z57 z7.fMem)
  (zak : ZS Z 1 (fun r x=>r = e5 x) z58 z59 z7.fAct.fData)
  (hown : Hp (fps [stb z3T 65 [(.int .i64 z7.fState.fPc),(.int .i64 z7.fState.fLeft),(.int .u8 z7.fState.fRegs.a0),(.int .u8 z7.fState.fRegs.a1),(.int .u8 z7.fState.fRegs.a2),(.int .u8 z7.fState.fRegs.a3),(.int .u8 z7.fX.fOp),(.int .i64 z7.fX.fA),(.int .i64 z7.fX.fB),(.int .i64 z7.fX.fC),(.slice z56 z7.fMem.length z57),(.int .u8 z7.fAct.fKind),(.int .i64 z7.fAct.fA),(.int .i64 z7.fAct.fB),(.slice z58 z7.fAct.fData.length z59)]]) w₀ w₀ [stb z3T 65 [(.int .i64 z7.fState.fPc),(.int .i64 z7.fState.fLeft),(.int .u8 z7.fState.fRegs.a0),(.int .u8 z7.fState.fRegs.a1),(.int .u8 z7.fState.fRegs.a2),(.int .u8 z7.fState.fRegs.a3),(.int .u8 z7.fX.fOp),(.int .i64 z7.fX.fA),(.int .i64 z7.fX.fB),(.int .i64 z7.fX.fC),(.slice z56 z7.fMem.length z57),(.int .u8 z7.fAct.fKind),(.int .i64 z7.fAct.fA),(.int .i64 z7.fAct.fB),(.slice z58 z7.fAct.fData.length z59)]]) :
  Calls Tryd.prog 82 #[(.pointer (some ⟨z3T,0,none⟩))] w₀ fun e w'=>∃ zdt : Option Addr,∃ zdu : Nat,∃ zdv : Option Addr,∃ zdw : Nat,e = .returned (.tuple #[]) ∧ ((ZS Z 1 (fun r x=>r = e5 x) zdt zdu r.fMem) ∧ (ZS Z 1 (fun r x=>r = e5 x) zdv zdw r.fAct.fData)) ∧ Hp (fps [stb z3T 65 [(.int .i64 z7.fState.fPc),(.int .i64 z7.fState.fLeft),(.int .u8 z7.fState.fRegs.a0),(.int .u8 z7.fState.fRegs.a1),(.int .u8 z7.fState.fRegs.a2),(.int .u8 z7.fState.fRegs.a3),(.int .u8 z7.fX.fOp),(.int .i64 z7.fX.fA),(.int .i64 z7.fX.fB),(.int .i64 z7.fX.fC),(.slice z56 z7.fMem.length z57),(.int .u8 z7.fAct.fKind),(.int .i64 z7.fAct.fA),(.int .i64 z7.fAct.fB),(.slice z58 z7.fAct.fData.length z59)]]) w₀ w' [stb z3T 65 [(.int .i64 r.fState.fPc),(.int .i64 r.fState.fLeft),(.int .u8 r.fState.fRegs.a0),(.int .u8 r.fState.fRegs.a1),(.int .u8 r.fState.fRegs.a2),(.int .u8 r.fState.fRegs.a3),(.int .u8 r.fX.fOp),(.int .i64 r.fX.fA),(.int .i64 r.fX.fB),(.int .i64 r.fX.fC),(.slice zdt r.fMem.length zdu),(.int .u8 r.fAct.fKind),(.int .i64 r.fAct.fA),(.int .i64 r.fAct.fB),(.slice zdv r.fAct.fData.length zdw)]]:=by
 unfold y2F at h
 refine Calls.ya (vs:=[(.pointer (some ⟨z3T,0,none⟩))]) (pre:=[stb z3T 65 [(.int .i64 z7.fState.fPc),(.int .i64 z7.fState.fLeft),(.int .u8 z7.fState.fRegs.a0),(.int .u8 z7.fState.fRegs.a1),(.int .u8 z7.fState.fRegs.a2),(.int .u8 z7.fState.fRegs.a3),(.int .u8 z7.fX.fOp),(.int .i64 z7.fX.fA),(.int .i64 z7.fX.fB),(.int .i64 z7.fX.fC),(.slice z56 z7.fMem.length z57),(.int .u8 z7.fAct.fKind),(.int .i64 z7.fAct.fA),(.int .i64 z7.fAct.fB),(.slice z58 z7.fAct.fData.length z59)]]) (env:=[(0,(.pointer (some ⟨z3T,0,none⟩)))]) Tryd.func82 rfl Tryd.ntmps82 rfl (hown) rfl ?_
 obtain ⟨zhj,zhl,h⟩:=zd h
 obtain ⟨zdx,h⟩:=yb h
 obtain ⟨zhk,zhm,h⟩:=zd h
 obtain ⟨zhn,h⟩:=yb h
 refine WC.y1j (fun i=>[20].contains i) [] rfl ?_
 refine WD.a (i:=0) (d:=2) (by kernel_rfl) rfl z1 z2 rfl rfl rfl (fun _=>q_m rfl) ?_
 refine WD.a (i:=1) (d:=3) (by kernel_rfl) rfl z1 z2 rfl rfl rfl (fun _=>q_m rfl) ?_
 refine WD.a (i:=2) (d:=4) (by kernel_rfl) rfl z1 z2 rfl rfl rfl (fun _=>y9 rfl) ?_
 refine WD.a (i:=3) (d:=5) (by kernel_rfl) rfl z1 z2 rfl rfl rfl (fun _=>y4 yM rfl rfl) ?_
 refine WD.a (i:=4) (d:=6) (by kernel_rfl) rfl z1 z2 rfl rfl rfl (fun _=>y4 y1p rfl rfl) ?_
 refine WD.e (i:=5) (d:=7) (by kernel_rfl) rfl z1 z2 rfl rfl rfl (y6 yh rfl (yi .here rfl)) ?_
 refine WD.c (i:=6) (d:=8) (by kernel_rfl) rfl z1 z2 rfl rfl rfl (zm (l:=[.tmp 2,.tmp 7]) Tryd.call108 (.cons rfl (.cons rfl .nil))) (ccl hz .nil (.cons .here .nil) fun w pz ho la=>yn _ _ _ _ _ _ _ _ _ zhl w pz (zaj.mono (Zle.left _ _)) (zak.mono (Zle.left _ _)) ((la _ (.head _) _).stb)) ?_
 refine WD.a (i:=7) (d:=9) (by kernel_rfl) rfl z1 z2 rfl rfl rfl (fun _=>y9 rfl) ?_
 refine WD.e (i:=8) (d:=10) (by kernel_rfl) rfl z1 z2 rfl rfl rfl (y6 yP rfl (y1Q (l:=([z7.fState.fRegs.a0,z7.fState.fRegs.a1,z7.fState.fRegs.a2,z7.fState.fRegs.a3] : List Int)) (f:=Value.int .u8) (k:=2) (m:=6) .here rfl rfl zdx)) ?_
 refine WD.a (i:=9) (d:=11) (by kernel_rfl) rfl z1 z2 rfl rfl rfl (fun _=>q_m rfl) ?_
 refine WD.a (i:=10) (d:=12) (by kernel_rfl) rfl z1 z2 rfl rfl rfl (fun _=>q_m rfl) ?_
 refine WD.a (i:=11) (d:=13) (by kernel_rfl) rfl z1 z2 rfl rfl rfl (fun _=>y9 rfl) ?_
 refine WD.a (i:=12) (d:=14) (by kernel_rfl) rfl z1 z2 rfl rfl rfl (fun _=>y4 yM rfl rfl) ?_
 refine WD.a (i:=13) (d:=15) (by kernel_rfl) rfl z1 z2 rfl rfl rfl (fun _=>y4 y1J rfl rfl) ?_
 refine WD.e (i:=14) (d:=16) (by kernel_rfl) rfl z1 z2 rfl rfl rfl (y6 yh rfl (yi .here rfl)) ?_
 refine WD.c (i:=15) (d:=17) (by kernel_rfl) rfl z1 z2 rfl rfl rfl (zm (l:=[.tmp 11,.tmp 16]) Tryd.call108 (.cons rfl (.cons rfl .nil))) (ccl hz .nil (.cons .here .nil) fun w pz ho la=>yn _ _ _ _ _ _ _ _ _ zhm w pz (zaj.mono (Zle.left _ _)) (zak.mono (Zle.left _ _)) ((la _ (.head _) _).stb)) ?_
 refine WD.a (i:=16) (d:=18) (by kernel_rfl) rfl z1 z2 rfl rfl rfl (fun _=>y9 rfl) ?_
 refine WD.e (i:=17) (d:=19) (by kernel_rfl) rfl z1 z2 rfl rfl rfl (y6 yP rfl (y1Q (l:=([z7.fState.fRegs.a0,z7.fState.fRegs.a1,z7.fState.fRegs.a2,z7.fState.fRegs.a3] : List Int)) (f:=Value.int .u8) (k:=2) (m:=6) .here rfl rfl zhn)) ?_
 refine WD.a (i:=18) (d:=20) (by kernel_rfl) rfl z1 z2 rfl rfl rfl (fun _=>q_add rfl rfl rfl) ?_
 refine WD.a (i:=19) (d:=21) (by kernel_rfl) rfl z1 z2 rfl rfl rfl (fun _=>y9 rfl) ?_
 refine WD.y30 (i:=20) rfl (by kernel_rfl) rfl rfl rfl (by kernel_rfl) (y3B (l:=([z7.fState.fRegs.a0,z7.fState.fRegs.a1,z7.fState.fRegs.a2,z7.fState.fRegs.a3] : List Int)) (f:=Value.int .u8) (u:=u8 ((nth ([z7.fState.fRegs.a0,z7.fState.fRegs.a1,z7.fState.fRegs.a2,z7.fState.fRegs.a3] : List Int) z7.fX.fA) + (nth ([z7.fState.fRegs.a0,z7.fState.fRegs.a1,z7.fState.fRegs.a2,z7.fState.fRegs.a3] : List Int) z7.fX.fB))) (k:=2) (m:=6) (j:=4) (ds:=[(.int .i64 z7.fState.fPc),(.int .i64 z7.fState.fLeft),(.int .u8 (nth (([z7.fState.fRegs.a0,z7.fState.fRegs.a1,z7.fState.fRegs.a2,z7.fState.fRegs.a3] : List Int).set (z7.fX.fA : Int).toNat (u8 ((nth ([z7.fState.fRegs.a0,z7.fState.fRegs.a1,z7.fState.fRegs.a2,z7.fState.fRegs.a3] : List Int) z7.fX.fA) + (nth ([z7.fState.fRegs.a0,z7.fState.fRegs.a1,z7.fState.fRegs.a2,z7.fState.fRegs.a3] : List Int) z7.fX.fB)))) 0)),(.int .u8 (nth (([z7.fState.fRegs.a0,z7.fState.fRegs.a1,z7.fState.fRegs.a2,z7.fState.fRegs.a3] : List Int).set (z7.fX.fA : Int).toNat (u8 ((nth ([z7.fState.fRegs.a0,z7.fState.fRegs.a1,z7.fState.fRegs.a2,z7.fState.fRegs.a3] : List Int) z7.fX.fA) + (nth ([z7.fState.fRegs.a0,z7.fState.fRegs.a1,z7.fState.fRegs.a2,z7.fState.fRegs.a3] : List Int) z7.fX.fB)))) 1)),(.int .u8 (nth (([z7.fState.fRegs.a0,z7.fState.fRegs.a1,z7.fState.fRegs.a2,z7.fState.fRegs.a3] : List Int).set (z7.fX.fA : Int).toNat (u8 ((nth ([z7.fState.fRegs.a0,z7.fState.fRegs.a1,z7.fState.fRegs.a2,z7.fState.fRegs.a3] : List Int) z7.fX.fA) + (nth ([z7.fState.fRegs.a0,z7.fState.fRegs.a1,z7.fState.fRegs.a2,z7.fState.fRegs.a3] : List Int) z7.fX.fB)))) 2)),(.int .u8 (nth (([z7.fState.fRegs.a0,z7.fState.fRegs.a1,z7.fState.fRegs.a2,z7.fState.fRegs.a3] : List Int).set (z7.fX.fA : Int).toNat (u8 ((nth ([z7.fState.fRegs.a0,z7.fState.fRegs.a1,z7.fState.fRegs.a2,z7.fState.fRegs.a3] : List Int) z7.fX.fA) + (nth ([z7.fState.fRegs.a0,z7.fState.fRegs.a1,z7.fState.fRegs.a2,z7.fState.fRegs.a3] : List Int) z7.fX.fB)))) 3)),(.int .u8 z7.fX.fOp),(.int .i64 z7.fX.fA),(.int .i64 z7.fX.fB),(.int .i64 z7.fX.fC),(.slice z56 z7.fMem.length z57),(.int .u8 z7.fAct.fKind),(.int .i64 z7.fAct.fA),(.int .i64 z7.fAct.fB),(.slice z58 z7.fAct.fData.length z59)]) y4G rfl rfl rfl rfl .here rfl rfl zdx rfl rfl) ?_
 refine WD.done (by kernel_rfl) ?_
 obtain rfl:=Option.some.inj h
 refine WX.yl Tryd.results82 .nil (fun w hw=>?_)
 exact ⟨z56,z57,z58,z59,y1m,⟨zaj,zak⟩,hw.sub (.cons .here .nil)⟩
def y2G (z8 : Sproc_execution) : Option Sproc_execution :=
 (yk z8 z8.fX.fA).bind fun zho=>chk ((0 : Int) ≤ z8.fX.fA ∧ z8.fX.fA < 4) ((yk z8 z8.fX.fB).bind fun zhp=>chk ((0 : Int) ≤ z8.fX.fB ∧ z8.fX.fB < 4) (some (⟨(⟨z8.fState.fPc,z8.fState.fLeft,(⟨nth (([z8.fState.fRegs.a0,z8.fState.fRegs.a1,z8.fState.fRegs.a2,z8.fState.fRegs.a3] : List Int).set (z8.fX.fA : Int).toNat (u8 ((nth ([z8.fState.fRegs.a0,z8.fState.fRegs.a1,z8.fState.fRegs.a2,z8.fState.fRegs.a3] : List Int) z8.fX.fA) - (nth ([z8.fState.fRegs.a0,z8.fState.fRegs.a1,z8.fState.fRegs.a2,z8.fState.fRegs.a3] : List Int) z8.fX.fB)))) 0,nth (([z8.fState.fRegs.a0,z8.fState.fRegs.a1,z8.fState.fRegs.a2,z8.fState.fRegs.a3] : List Int).set (z8.fX.fA : Int).toNat (u8 ((nth ([z8.fState.fRegs.a0,z8.fState.fRegs.a1,z8.fState.fRegs.a2,z8.fState.fRegs.a3] : List Int) z8.fX.fA) - (nth ([z8.fState.fRegs.a0,z8.fState.fRegs.a1,z8.fState.fRegs.a2,z8.fState.fRegs.a3] : List Int) z8.fX.fB)))) 1,nth (([z8.fState.fRegs.a0,z8.fState.fRegs.a1,z8.fState.fRegs.a2,z8.fState.fRegs.a3] : List Int).set (z8.fX.fA : Int).toNat (u8 ((nth ([z8.fState.fRegs.a0,z8.fState.fRegs.a1,z8.fState.fRegs.a2,z8.fState.fRegs.a3] : List Int) z8.fX.fA) - (nth ([z8.fState.fRegs.a0,z8.fState.fRegs.a1,z8.fState.fRegs.a2,z8.fState.fRegs.a3] : List Int) z8.fX.fB)))) 2,nth (([z8.fState.fRegs.a0,z8.fState.fRegs.a1,z8.fState.fRegs.a2,z8.fState.fRegs.a3] : List Int).set (z8.fX.fA : Int).toNat (u8 ((nth ([z8.fState.fRegs.a0,z8.fState.fRegs.a1,z8.fState.fRegs.a2,z8.fState.fRegs.a3] : List Int) z8.fX.fA) - (nth ([z8.fState.fRegs.a0,z8.fState.fRegs.a1,z8.fState.fRegs.a2,z8.fState.fRegs.a3] : List Int) z8.fX.fB)))) 3⟩ : S34)⟩ : Sproc_State),z8.fX,z8.fMem,z8.fAct⟩ : Sproc_execution)))
set_option maxRecDepth 20000 in
theorem y5d (Z : Zp) (z3U : Nat) (z5a : Option Addr) (z5b : Nat) (z5c : Option Addr) (z5d : Nat) (z8 : Sproc_execution) (r : Sproc_execution)
  (h : y2G z8 = some r) (w₀ : World) (hz : PZ (fps [stb z3U 65 [(.int .i64 z8.fState.fPc),(.int .i64 z8.fState.fLeft),(.int .u8 z8.fState.fRegs.a0),(.int .u8 z8.fState.fRegs.a1),(.int .u8 z8.fState.fRegs.a2),(.int .u8 z8.fState.fRegs.a3),(.int .u8 z8.fX.fOp),(.int .i64 z8.fX.fA),(.int .i64 z8.fX.fB),(.int .i64 z8.fX.fC),(.slice z5a z8.fMem.length z5b),(.int .u8 z8.fAct.fKind),(.int .i64 z8.fAct.fA),(.int .i64 z8.fAct.fB),(.slice z5c z8.fAct.fData.length z5d)]]) w₀ Z)
  (zal : ZS Z 1 (fun r x=>r = e5 x) z5a z5b z8.fMem)
  (zam : ZS Z 1 (fun r x=>r = e5 x) z5c z5d z8.fAct.fData)
  (hown : Hp (fps [stb z3U 65 [(.int .i64 z8.fState.fPc),(.int .i64 z8.fState.fLeft),(.int .u8 z8.fState.fRegs.a0),(.int .u8 z8.fState.fRegs.a1),(.int .u8 z8.fState.fRegs.a2),(.int .u8 z8.fState.fRegs.a3),(.int .u8 z8.fX.fOp),(.int .i64 z8.fX.fA),(.int .i64 z8.fX.fB),(.int .i64 z8.fX.fC),(.slice z5a z8.fMem.length z5b),(.int .u8 z8.fAct.fKind),(.int .i64 z8.fAct.fA),(.int .i64 z8.fAct.fB),(.slice z5c z8.fAct.fData.length z5d)]]) w₀ w₀ [stb z3U 65 [(.int .i64 z8.fState.fPc),(.int .i64 z8.fState.fLeft),(.int .u8 z8.fState.fRegs.a0),(.int .u8 z8.fState.fRegs.a1),(.int .u8 z8.fState.fRegs.a2),(.int .u8 z8.fState.fRegs.a3),(.int .u8 z8.fX.fOp),(.int .i64 z8.fX.fA),(.int .i64 z8.fX.fB),(.int .i64 z8.fX.fC),(.slice z5a z8.fMem.length z5b),(.int .u8 z8.fAct.fKind),(.int .i64 z8.fAct.fA),(.int .i64 z8.fAct.fB),(.slice z5c z8.fAct.fData.length z5d)]]) :
  Calls Tryd.prog 86 #[(.pointer (some ⟨z3U,0,none⟩))] w₀ fun e w'=>∃ zdy : Option Addr,∃ zdz : Nat,∃ zdA : Option Addr,∃ zdB : Nat,e = .returned (.tuple #[]) ∧ ((ZS Z 1 (fun r x=>r = e5 x) zdy zdz r.fMem) ∧ (ZS Z 1 (fun r x=>r = e5 x) zdA zdB r.fAct.fData)) ∧ Hp (fps [stb z3U 65 [(.int .i64 z8.fState.fPc),(.int .i64 z8.fState.fLeft),(.int .u8 z8.fState.fRegs.a0),(.int .u8 z8.fState.fRegs.a1),(.int .u8 z8.fState.fRegs.a2),(.int .u8 z8.fState.fRegs.a3),(.int .u8 z8.fX.fOp),(.int .i64 z8.fX.fA),(.int .i64 z8.fX.fB),(.int .i64 z8.fX.fC),(.slice z5a z8.fMem.length z5b),(.int .u8 z8.fAct.fKind),(.int .i64 z8.fAct.fA),(.int .i64 z8.fAct.fB),(.slice z5c z8.fAct.fData.length z5d)]]) w₀ w' [stb z3U 65 [(.int .i64 r.fState.fPc),(.int .i64 r.fState.fLeft),(.int .u8 r.fState.fRegs.a0),(.int .u8 r.fState.fRegs.a1),(.int .u8 r.fState.fRegs.a2),(.int .u8 r.fState.fRegs.a3),(.int .u8 r.fX.fOp),(.int .i64 r.fX.fA),(.int .i64 r.fX.fB),(.int .i64 r.fX.fC),(.slice zdy r.fMem.length zdz),(.int .u8 r.fAct.fKind),(.int .i64 r.fAct.fA),(.int .i64 r.fAct.fB),(.slice zdA r.fAct.fData.length zdB)]]:=by
 unfold y2G at h
 refine Calls.ya (vs:=[(.pointer (some ⟨z3U,0,none⟩))]) (pre:=[stb z3U 65 [(.int .i64 z8.fState.fPc),(.int .i64 z8.fState.fLeft),(.int .u8 z8.fState.fRegs.a0),(.int .u8 z8.fState.fRegs.a1),(.int .u8 z8.fState.fRegs.a2),(.int .u8 z8.fState.fRegs.a3),(.int .u8 z8.fX.fOp),(.int .i64 z8.fX.fA),(.int .i64 z8.fX.fB),(.int .i64 z8.fX.fC),(.slice z5a z8.fMem.length z5b),(.int .u8 z8.fAct.fKind),(.int .i64 z8.fAct.fA),(.int .i64 z8.fAct.fB),(.slice z5c z8.fAct.fData.length z5d)]]) (env:=[(0,(.pointer (some ⟨z3U,0,none⟩)))]) Tryd.func86 rfl Tryd.ntmps86 rfl (hown) rfl ?_
 obtain ⟨zho,zhq,h⟩:=zd h
 obtain ⟨zdC,h⟩:=yb h
 obtain ⟨zhp,zhr,h⟩:=zd h
 obtain ⟨zhs,h⟩:=yb h
 refine WC.y1j (fun i=>[20].contains i) [] rfl ?_
 refine WD.a (i:=0) (d:=2) (by kernel_rfl) rfl z1 z2 rfl rfl rfl (fun _=>q_m rfl) ?_
 refine WD.a (i:=1) (d:=3) (by kernel_rfl) rfl z1 z2 rfl rfl rfl (fun _=>q_m rfl) ?_
 refine WD.a (i:=2) (d:=4) (by kernel_rfl) rfl z1 z2 rfl rfl rfl (fun _=>y9 rfl) ?_
 refine WD.a (i:=3) (d:=5) (by kernel_rfl) rfl z1 z2 rfl rfl rfl (fun _=>y4 yM rfl rfl) ?_
 refine WD.a (i:=4) (d:=6) (by kernel_rfl) rfl z1 z2 rfl rfl rfl (fun _=>y4 y1p rfl rfl) ?_
 refine WD.e (i:=5) (d:=7) (by kernel_rfl) rfl z1 z2 rfl rfl rfl (y6 yh rfl (yi .here rfl)) ?_
 refine WD.c (i:=6) (d:=8) (by kernel_rfl) rfl z1 z2 rfl rfl rfl (zm (l:=[.tmp 2,.tmp 7]) Tryd.call108 (.cons rfl (.cons rfl .nil))) (ccl hz .nil (.cons .here .nil) fun w pz ho la=>yn _ _ _ _ _ _ _ _ _ zhq w pz (zal.mono (Zle.left _ _)) (zam.mono (Zle.left _ _)) ((la _ (.head _) _).stb)) ?_
 refine WD.a (i:=7) (d:=9) (by kernel_rfl) rfl z1 z2 rfl rfl rfl (fun _=>y9 rfl) ?_
 refine WD.e (i:=8) (d:=10) (by kernel_rfl) rfl z1 z2 rfl rfl rfl (y6 yP rfl (y1Q (l:=([z8.fState.fRegs.a0,z8.fState.fRegs.a1,z8.fState.fRegs.a2,z8.fState.fRegs.a3] : List Int)) (f:=Value.int .u8) (k:=2) (m:=6) .here rfl rfl zdC)) ?_
 refine WD.a (i:=9) (d:=11) (by kernel_rfl) rfl z1 z2 rfl rfl rfl (fun _=>q_m rfl) ?_
 refine WD.a (i:=10) (d:=12) (by kernel_rfl) rfl z1 z2 rfl rfl rfl (fun _=>q_m rfl) ?_
 refine WD.a (i:=11) (d:=13) (by kernel_rfl) rfl z1 z2 rfl rfl rfl (fun _=>y9 rfl) ?_
 refine WD.a (i:=12) (d:=14) (by kernel_rfl) rfl z1 z2 rfl rfl rfl (fun _=>y4 yM rfl rfl) ?_
 refine WD.a (i:=13) (d:=15) (by kernel_rfl) rfl z1 z2 rfl rfl rfl (fun _=>y4 y1J rfl rfl) ?_
 refine WD.e (i:=14) (d:=16) (by kernel_rfl) rfl z1 z2 rfl rfl rfl (y6 yh rfl (yi .here rfl)) ?_
 refine WD.c (i:=15) (d:=17) (by kernel_rfl) rfl z1 z2 rfl rfl rfl (zm (l:=[.tmp 11,.tmp 16]) Tryd.call108 (.cons rfl (.cons rfl .nil))) (ccl hz .nil (.cons .here .nil) fun w pz ho la=>yn _ _ _ _ _ _ _ _ _ zhr w pz (zal.mono (Zle.left _ _)) (zam.mono (Zle.left _ _)) ((la _ (.head _) _).stb)) ?_
 refine WD.a (i:=16) (d:=18) (by kernel_rfl) rfl z1 z2 rfl rfl rfl (fun _=>y9 rfl) ?_
 refine WD.e (i:=17) (d:=19) (by kernel_rfl) rfl z1 z2 rfl rfl rfl (y6 yP rfl (y1Q (l:=([z8.fState.fRegs.a0,z8.fState.fRegs.a1,z8.fState.fRegs.a2,z8.fState.fRegs.a3] : List Int)) (f:=Value.int .u8) (k:=2) (m:=6) .here rfl rfl zhs)) ?_
 refine WD.a (i:=18) (d:=20) (by kernel_rfl) rfl z1 z2 rfl rfl rfl (fun _=>y6b rfl rfl rfl) ?_
 refine WD.a (i:=19) (d:=21) (by kernel_rfl) rfl z1 z2 rfl rfl rfl (fun _=>y9 rfl) ?_
 refine WD.y30 (i:=20) rfl (by kernel_rfl) rfl rfl rfl (by kernel_rfl) (y3B (l:=([z8.fState.fRegs.a0,z8.fState.fRegs.a1,z8.fState.fRegs.a2,z8.fState.fRegs.a3] : List Int)) (f:=Value.int .u8) (u:=u8 ((nth ([z8.fState.fRegs.a0,z8.fState.fRegs.a1,z8.fState.fRegs.a2,z8.fState.fRegs.a3] : List Int) z8.fX.fA) - (nth ([z8.fState.fRegs.a0,z8.fState.fRegs.a1,z8.fState.fRegs.a2,z8.fState.fRegs.a3] : List Int) z8.fX.fB))) (k:=2) (m:=6) (j:=4) (ds:=[(.int .i64 z8.fState.fPc),(.int .i64 z8.fState.fLeft),(.int .u8 (nth (([z8.fState.fRegs.a0,z8.fState.fRegs.a1,z8.fState.fRegs.a2,z8.fState.fRegs.a3] : List Int).set (z8.fX.fA : Int).toNat (u8 ((nth ([z8.fState.fRegs.a0,z8.fState.fRegs.a1,z8.fState.fRegs.a2,z8.fState.fRegs.a3] : List Int) z8.fX.fA) - (nth ([z8.fState.fRegs.a0,z8.fState.fRegs.a1,z8.fState.fRegs.a2,z8.fState.fRegs.a3] : List Int) z8.fX.fB)))) 0)),(.int .u8 (nth (([z8.fState.fRegs.a0,z8.fState.fRegs.a1,z8.fState.fRegs.a2,z8.fState.fRegs.a3] : List Int).set (z8.fX.fA : Int).toNat (u8 ((nth ([z8.fState.fRegs.a0,z8.fState.fRegs.a1,z8.fState.fRegs.a2,z8.fState.fRegs.a3] : List Int) z8.fX.fA) - (nth ([z8.fState.fRegs.a0,z8.fState.fRegs.a1,z8.fState.fRegs.a2,z8.fState.fRegs.a3] : List Int) z8.fX.fB)))) 1)),(.int .u8 (nth (([z8.fState.fRegs.a0,z8.fState.fRegs.a1,z8.fState.fRegs.a2,z8.fState.fRegs.a3] : List Int).set (z8.fX.fA : Int).toNat (u8 ((nth ([z8.fState.fRegs.a0,z8.fState.fRegs.a1,z8.fState.fRegs.a2,z8.fState.fRegs.a3] : List Int) z8.fX.fA) - (nth ([z8.fState.fRegs.a0,z8.fState.fRegs.a1,z8.fState.fRegs.a2,z8.fState.fRegs.a3] : List Int) z8.fX.fB)))) 2)),(.int .u8 (nth (([z8.fState.fRegs.a0,z8.fState.fRegs.a1,z8.fState.fRegs.a2,z8.fState.fRegs.a3] : List Int).set (z8.fX.fA : Int).toNat (u8 ((nth ([z8.fState.fRegs.a0,z8.fState.fRegs.a1,z8.fState.fRegs.a2,z8.fState.fRegs.a3] : List Int) z8.fX.fA) - (nth ([z8.fState.fRegs.a0,z8.fState.fRegs.a1,z8.fState.fRegs.a2,z8.fState.fRegs.a3] : List Int) z8.fX.fB)))) 3)),(.int .u8 z8.fX.fOp),(.int .i64 z8.fX.fA),(.int .i64 z8.fX.fB),(.int .i64 z8.fX.fC),(.slice z5a z8.fMem.length z5b),(.int .u8 z8.fAct.fKind),(.int .i64 z8.fAct.fA),(.int .i64 z8.fAct.fB),(.slice z5c z8.fAct.fData.length z5d)]) y4G rfl rfl rfl rfl .here rfl rfl zdC rfl rfl) ?_
 refine WD.done (by kernel_rfl) ?_
 obtain rfl:=Option.some.inj h
 refine WX.yl Tryd.results86 .nil (fun w hw=>?_)
 exact ⟨z5a,z5b,z5c,z5d,y1m,⟨zal,zam⟩,hw.sub (.cons .here .nil)⟩
def y1t (zp : Sproc_execution) (z5e : Int) (z5f : Int) : Option Sproc_execution :=
 some (⟨zp.fState,zp.fX,zp.fMem,(⟨15,i64 z5e,z5f,([] : List Int)⟩ : Sproc_Act)⟩ : Sproc_execution)
set_option maxRecDepth 20000 in
theorem y2k (Z : Zp) (z3V : Nat) (z5g : Option Addr) (z5h : Nat) (z6y : Option Addr) (z6z : Nat) (zp : Sproc_execution) (z5e : Int) (z5f : Int) (r : Sproc_execution)
  (h : y1t zp z5e z5f = some r) (w₀ : World) (hz : PZ (fps [stb z3V 65 [(.int .i64 zp.fState.fPc),(.int .i64 zp.fState.fLeft),(.int .u8 zp.fState.fRegs.a0),(.int .u8 zp.fState.fRegs.a1),(.int .u8 zp.fState.fRegs.a2),(.int .u8 zp.fState.fRegs.a3),(.int .u8 zp.fX.fOp),(.int .i64 zp.fX.fA),(.int .i64 zp.fX.fB),(.int .i64 zp.fX.fC),(.slice z5g zp.fMem.length z5h),(.int .u8 zp.fAct.fKind),(.int .i64 zp.fAct.fA),(.int .i64 zp.fAct.fB),(.slice z6y zp.fAct.fData.length z6z)]]) w₀ Z)
  (zht : ZS Z 1 (fun r x=>r = e5 x) z5g z5h zp.fMem)
  (zrU : ZS Z 1 (fun r x=>r = e5 x) z6y z6z zp.fAct.fData)
  (hown : Hp (fps [stb z3V 65 [(.int .i64 zp.fState.fPc),(.int .i64 zp.fState.fLeft),(.int .u8 zp.fState.fRegs.a0),(.int .u8 zp.fState.fRegs.a1),(.int .u8 zp.fState.fRegs.a2),(.int .u8 zp.fState.fRegs.a3),(.int .u8 zp.fX.fOp),(.int .i64 zp.fX.fA),(.int .i64 zp.fX.fB),(.int .i64 zp.fX.fC),(.slice z5g zp.fMem.length z5h),(.int .u8 zp.fAct.fKind),(.int .i64 zp.fAct.fA),(.int .i64 zp.fAct.fB),(.slice z6y zp.fAct.fData.length z6z)]]) w₀ w₀ [stb z3V 65 [(.int .i64 zp.fState.fPc),(.int .i64 zp.fState.fLeft),(.int .u8 zp.fState.fRegs.a0),(.int .u8 zp.fState.fRegs.a1),(.int .u8 zp.fState.fRegs.a2),(.int .u8 zp.fState.fRegs.a3),(.int .u8 zp.fX.fOp),(.int .i64 zp.fX.fA),(.int .i64 zp.fX.fB),(.int .i64 zp.fX.fC),(.slice z5g zp.fMem.length z5h),(.int .u8 zp.fAct.fKind),(.int .i64 zp.fAct.fA),(.int .i64 zp.fAct.fB),(.slice z6y zp.fAct.fData.length z6z)]]) :
  Calls Tryd.prog 112 #[(.pointer (some ⟨z3V,0,none⟩)),(.int .u8 z5e),(.int .i64 z5f)] w₀ fun e w'=>∃ zdD : Option Addr,∃ zdE : Nat,∃ zdF : Option Addr,∃ zdG : Nat,e = .returned (.tuple #[]) ∧ (ZS Z 1 (fun r x=>r = e5 x) zdD zdE r.fMem) ∧ Hp (fps [stb z3V 65 [(.int .i64 zp.fState.fPc),(.int .i64 zp.fState.fLeft),(.int .u8 zp.fState.fRegs.a0),(.int .u8 zp.fState.fRegs.a1),(.int .u8 zp.fState.fRegs.a2),(.int .u8 zp.fState.fRegs.a3),(.int .u8 zp.fX.fOp),(.int .i64 zp.fX.fA),(.int .i64 zp.fX.fB),(.int .i64 zp.fX.fC),(.slice z5g zp.fMem.length z5h),(.int .u8 zp.fAct.fKind),(.int .i64 zp.fAct.fA),(.int .i64 zp.fAct.fB),(.slice z6y zp.fAct.fData.length z6z)]]) w₀ w' [stb z3V 65 [(.int .i64 r.fState.fPc),(.int .i64 r.fState.fLeft),(.int .u8 r.fState.fRegs.a0),(.int .u8 r.fState.fRegs.a1),(.int .u8 r.fState.fRegs.a2),(.int .u8 r.fState.fRegs.a3),(.int .u8 r.fX.fOp),(.int .i64 r.fX.fA),(.int .i64 r.fX.fB),(.int .i64 r.fX.fC),(.slice zdD r.fMem.length zdE),(.int .u8 r.fAct.fKind),(.int .i64 r.fAct.fA),(.int .i64 r.fAct.fB),(.slice zdF r.fAct.fData.length zdG)],row (.slice zdF r.fAct.fData.length zdG) 5 1 (r.fAct.fData.flatMap e5)]:=by
 unfold y1t at h
 refine Calls.ya (vs:=[(.pointer (some ⟨z3V,0,none⟩)),(.int .u8 z5e),(.int .i64 z5f)]) (pre:=[stb z3V 65 [(.int .i64 zp.fState.fPc),(.int .i64 zp.fState.fLeft),(.int .u8 zp.fState.fRegs.a0),(.int .u8 zp.fState.fRegs.a1),(.int .u8 zp.fState.fRegs.a2),(.int .u8 zp.fState.fRegs.a3),(.int .u8 zp.fX.fOp),(.int .i64 zp.fX.fA),(.int .i64 zp.fX.fB),(.int .i64 zp.fX.fC),(.slice z5g zp.fMem.length z5h),(.int .u8 zp.fAct.fKind),(.int .i64 zp.fAct.fA),(.int .i64 zp.fAct.fB),(.slice z6y zp.fAct.fData.length z6z)]]) (env:=[(0,(.pointer (some ⟨z3V,0,none⟩))),(1,(.int .u8 z5e)),(2,(.int .i64 z5f))]) Tryd.func112 rfl Tryd.ntmps112 rfl (hown) rfl ?_
 refine WC.a (WL.pu rfl (WL.pu rfl ?_))
 refine WL.a (d:=8) rfl rfl rfl (y5x Tryd.underlying5 Tryd.underlying3 rfl rfl) ?_
 refine WL.pu rfl ?_
 refine WL.a (d:=10) rfl rfl rfl (y1b (v:=(.agg #[(.int .u8 15),(.int .i64 (i64 z5e)),(.int .i64 z5f),(.slice none 0 0)])) (Eos.parts (l:=[.const (.int .u8 15),.tmp 8,.tmp 9]) (.cons rfl (.cons rfl (.cons rfl .nil))) [0,1,2]) (fun _=>by kernel_rfl)) ?_
 refine WL.a (d:=11) rfl rfl rfl (y9 rfl) ?_
 refine WL.a (d:=12) rfl rfl rfl (y4 y3Y rfl rfl) ?_
 refine WL.yq rfl rfl (y1E (ds:=[(.int .i64 zp.fState.fPc),(.int .i64 zp.fState.fLeft),(.int .u8 zp.fState.fRegs.a0),(.int .u8 zp.fState.fRegs.a1),(.int .u8 zp.fState.fRegs.a2),(.int .u8 zp.fState.fRegs.a3),(.int .u8 zp.fX.fOp),(.int .i64 zp.fX.fA),(.int .i64 zp.fX.fB),(.int .i64 zp.fX.fC),(.slice z5g zp.fMem.length z5h),(.int .u8 15),(.int .i64 (i64 z5e)),(.int .i64 z5f),(.slice none 0 0)]) y1X rfl rfl rfl rfl rfl .here rfl rfl) ?_
 refine WL.nil ?_
 refine WX.nilRow 5 1 ?_
 obtain rfl:=Option.some.inj h
 refine WX.yl Tryd.results112 .nil (fun w hw=>?_)
 exact ⟨z5g,z5h,none,0,y1m,zht,hw.sub (.cons .h1 (.cons .here .nil))⟩
def y1G (zk : Sproc_execution) : Option (Int × Bool × Sproc_execution) :=
 (yk zk zk.fX.fC).bind fun zhu=>chk ((0 : Int) ≤ zk.fX.fC ∧ zk.fX.fC < 4) (if decide ((i64 (zk.fX.fB + (i64 (nth ([zk.fState.fRegs.a0,zk.fState.fRegs.a1,zk.fState.fRegs.a2,zk.fState.fRegs.a3] : List Int) zk.fX.fC)))) ≥ ((zk.fMem.length : Nat) : Int)) then (y1t zk 2 0).bind fun zan=>some (0,false,zan) else some ((i64 (zk.fX.fB + (i64 (nth ([zk.fState.fRegs.a0,zk.fState.fRegs.a1,zk.fState.fRegs.a2,zk.fState.fRegs.a3] : List Int) zk.fX.fC)))),true,zk))
set_option maxRecDepth 20000 in
theorem y3l (Z : Zp) (z3W : Nat) (z63 : Option Addr) (z64 : Nat) (z65 : Option Addr) (z66 : Nat) (zk : Sproc_execution) (r : Int × Bool × Sproc_execution)
  (h : y1G zk = some r) (w₀ : World) (hz : PZ (fps [stb z3W 65 [(.int .i64 zk.fState.fPc),(.int .i64 zk.fState.fLeft),(.int .u8 zk.fState.fRegs.a0),(.int .u8 zk.fState.fRegs.a1),(.int .u8 zk.fState.fRegs.a2),(.int .u8 zk.fState.fRegs.a3),(.int .u8 zk.fX.fOp),(.int .i64 zk.fX.fA),(.int .i64 zk.fX.fB),(.int .i64 zk.fX.fC),(.slice z63 zk.fMem.length z64),(.int .u8 zk.fAct.fKind),(.int .i64 zk.fAct.fA),(.int .i64 zk.fAct.fB),(.slice z65 zk.fAct.fData.length z66)]]) w₀ Z)
  (zao : ZS Z 1 (fun r x=>r = e5 x) z63 z64 zk.fMem)
  (zap : ZS Z 1 (fun r x=>r = e5 x) z65 z66 zk.fAct.fData)
  (hown : Hp (fps [stb z3W 65 [(.int .i64 zk.fState.fPc),(.int .i64 zk.fState.fLeft),(.int .u8 zk.fState.fRegs.a0),(.int .u8 zk.fState.fRegs.a1),(.int .u8 zk.fState.fRegs.a2),(.int .u8 zk.fState.fRegs.a3),(.int .u8 zk.fX.fOp),(.int .i64 zk.fX.fA),(.int .i64 zk.fX.fB),(.int .i64 zk.fX.fC),(.slice z63 zk.fMem.length z64),(.int .u8 zk.fAct.fKind),(.int .i64 zk.fAct.fA),(.int .i64 zk.fAct.fB),(.slice z65 zk.fAct.fData.length z66)]]) w₀ w₀ [stb z3W 65 [(.int .i64 zk.fState.fPc),(.int .i64 zk.fState.fLeft),(.int .u8 zk.fState.fRegs.a0),(.int .u8 zk.fState.fRegs.a1),(.int .u8 zk.fState.fRegs.a2),(.int .u8 zk.fState.fRegs.a3),(.int .u8 zk.fX.fOp),(.int .i64 zk.fX.fA),(.int .i64 zk.fX.fB),(.int .i64 zk.fX.fC),(.slice z63 zk.fMem.length z64),(.int .u8 zk.fAct.fKind),(.int .i64 zk.fAct.fA),(.int .i64 zk.fAct.fB),(.slice z65 zk.fAct.fData.length z66)]]) :
  Calls Tryd.prog 109 #[(.pointer (some ⟨z3W,0,none⟩))] w₀ fun e w'=>∃ Zn : Zp,∃ zdH : Option Addr,∃ zdI : Nat,∃ zdJ : Option Addr,∃ zdK : Nat,e = .returned (.tuple #[(.int .i64 r.1),(.bool r.2.1)]) ∧ ((ZS (Z ++ Zn) 1 (fun r x=>r = e5 x) zdH zdI r.2.2.fMem) ∧ (ZS (Z ++ Zn) 1 (fun r x=>r = e5 x) zdJ zdK r.2.2.fAct.fData)) ∧ Hp (fps [stb z3W 65 [(.int .i64 zk.fState.fPc),(.int .i64 zk.fState.fLeft),(.int .u8 zk.fState.fRegs.a0),(.int .u8 zk.fState.fRegs.a1),(.int .u8 zk.fState.fRegs.a2),(.int .u8 zk.fState.fRegs.a3),(.int .u8 zk.fX.fOp),(.int .i64 zk.fX.fA),(.int .i64 zk.fX.fB),(.int .i64 zk.fX.fC),(.slice z63 zk.fMem.length z64),(.int .u8 zk.fAct.fKind),(.int .i64 zk.fAct.fA),(.int .i64 zk.fAct.fB),(.slice z65 zk.fAct.fData.length z66)]]) w₀ w' [fz Zn,stb z3W 65 [(.int .i64 r.2.2.fState.fPc),(.int .i64 r.2.2.fState.fLeft),(.int .u8 r.2.2.fState.fRegs.a0),(.int .u8 r.2.2.fState.fRegs.a1),(.int .u8 r.2.2.fState.fRegs.a2),(.int .u8 r.2.2.fState.fRegs.a3),(.int .u8 r.2.2.fX.fOp),(.int .i64 r.2.2.fX.fA),(.int .i64 r.2.2.fX.fB),(.int .i64 r.2.2.fX.fC),(.slice zdH r.2.2.fMem.length zdI),(.int .u8 r.2.2.fAct.fKind),(.int .i64 r.2.2.fAct.fA),(.int .i64 r.2.2.fAct.fB),(.slice zdJ r.2.2.fAct.fData.length zdK)]]:=by
 unfold y1G at h
 refine Calls.ya (vs:=[(.pointer (some ⟨z3W,0,none⟩))]) (pre:=[stb z3W 65 [(.int .i64 zk.fState.fPc),(.int .i64 zk.fState.fLeft),(.int .u8 zk.fState.fRegs.a0),(.int .u8 zk.fState.fRegs.a1),(.int .u8 zk.fState.fRegs.a2),(.int .u8 zk.fState.fRegs.a3),(.int .u8 zk.fX.fOp),(.int .i64 zk.fX.fA),(.int .i64 zk.fX.fB),(.int .i64 zk.fX.fC),(.slice z63 zk.fMem.length z64),(.int .u8 zk.fAct.fKind),(.int .i64 zk.fAct.fA),(.int .i64 zk.fAct.fB),(.slice z65 zk.fAct.fData.length z66)]]) (env:=[(0,(.pointer (some ⟨z3W,0,none⟩)))]) Tryd.func109 rfl Tryd.ntmps109 rfl (hown) rfl ?_
 refine WC.pool (WC.b (WC.a (WL.pu rfl (WL.pu rfl (WL.nil (WX.a (WC.b ?_)))))))
 obtain ⟨zhu,zhv,h⟩:=zd h
 obtain ⟨zhw,h⟩:=yb h
 refine WC.y1j (fun i=>[].contains i) [] rfl ?_
 refine WD.a (i:=0) (d:=5) (by kernel_rfl) rfl z1 z2 rfl rfl rfl (fun _=>q_m rfl) ?_
 refine WD.a (i:=1) (d:=6) (by kernel_rfl) rfl z1 z2 rfl rfl rfl (fun _=>y9 rfl) ?_
 refine WD.a (i:=2) (d:=7) (by kernel_rfl) rfl z1 z2 rfl rfl rfl (fun _=>y4 yM rfl rfl) ?_
 refine WD.a (i:=3) (d:=8) (by kernel_rfl) rfl z1 z2 rfl rfl rfl (fun _=>y4 y1J rfl rfl) ?_
 refine WD.e (i:=4) (d:=9) (by kernel_rfl) rfl z1 z2 rfl rfl rfl (y6 yh rfl (yi .h1 rfl)) ?_
 refine WD.a (i:=5) (d:=10) (by kernel_rfl) rfl z1 z2 rfl rfl rfl (fun _=>q_m rfl) ?_
 refine WD.a (i:=6) (d:=11) (by kernel_rfl) rfl z1 z2 rfl rfl rfl (fun _=>q_m rfl) ?_
 refine WD.a (i:=7) (d:=12) (by kernel_rfl) rfl z1 z2 rfl rfl rfl (fun _=>y9 rfl) ?_
 refine WD.a (i:=8) (d:=13) (by kernel_rfl) rfl z1 z2 rfl rfl rfl (fun _=>y4 yM rfl rfl) ?_
 refine WD.a (i:=9) (d:=14) (by kernel_rfl) rfl z1 z2 rfl rfl rfl (fun _=>y4 y3L rfl rfl) ?_
 refine WD.e (i:=10) (d:=15) (by kernel_rfl) rfl z1 z2 rfl rfl rfl (y6 yh rfl (yi .h1 rfl)) ?_
 refine WD.c (i:=11) (d:=16) (by kernel_rfl) rfl z1 z2 rfl rfl rfl (zm (l:=[.tmp 10,.tmp 15]) Tryd.call108 (.cons rfl (.cons rfl .nil))) (y2C hz .nil .here (.cons .h1 .nil) fun w pz ho la=>yn _ _ _ _ _ _ _ _ _ zhv w pz ((zao.mono (Zle.left _ _)).mono (Zle.left _ _)) ((zap.mono (Zle.left _ _)).mono (Zle.left _ _)) ((la _ (.head _) _).stb)) ?_
 refine WD.a (i:=12) (d:=17) (by kernel_rfl) rfl z1 z2 rfl rfl rfl (fun _=>y9 rfl) ?_
 refine WD.e (i:=13) (d:=18) (by kernel_rfl) rfl z1 z2 rfl rfl rfl (y6 yP rfl (y1Q (l:=([zk.fState.fRegs.a0,zk.fState.fRegs.a1,zk.fState.fRegs.a2,zk.fState.fRegs.a3] : List Int)) (f:=Value.int .u8) (k:=2) (m:=6) .h1 rfl rfl zhw)) ?_
 refine WD.a (i:=14) (d:=19) (by kernel_rfl) rfl z1 z2 rfl rfl rfl (fun _=>y5x Tryd.underlying5 Tryd.underlying3 rfl rfl) ?_
 refine WD.a (i:=15) (d:=20) (by kernel_rfl) rfl z1 z2 rfl rfl rfl (fun _=>q_add rfl rfl rfl) ?_
 refine WD.a (i:=16) (d:=4) (by kernel_rfl) rfl z1 z2 rfl rfl rfl (fun _=>q_z rfl) ?_
 refine WD.done (by kernel_rfl) ?_
 refine WX.a (WC.b (WC.b (WC.a (WL.pu rfl (WL.pu rfl ?_)))))
 refine WL.a (d:=23) rfl rfl rfl (y9 rfl) ?_
 refine WL.a (d:=24) rfl rfl rfl (y4 y7y rfl rfl) ?_
 refine WL.a (d:=25) rfl rfl rfl (y6 y5T rfl (yi .h1 rfl)) ?_
 refine WL.a (d:=26) rfl rfl rfl (yH Tryd.underlying35 rfl) ?_
 refine WL.pu rfl (WL.nil (WX.a ?_))
 refine WC.cond rfl (fun zaq=>?_) (fun zaq=>?_)
 ·replace h:=yc h zaq
  refine WC.b ?_
  obtain ⟨zan,zhx,h⟩:=zd h
  refine WC.a (WL.pu rfl ?_)
  refine WL.yp (dd:=29) rfl rfl rfl (zm (l:=[.tmp 28,.const (.int .u8 2),.const (.int .i64 0)]) Tryd.call112 (.cons rfl (.cons rfl (.cons rfl .nil)))) (.cons .h1 .nil) (ccz hz (.cons .h1 .nil) .here fun w pz ho=>y2k _ _ _ _ _ _ _ _ _ _ zhx w pz (zao.mono (Zle.left _ _)) (zap.mono (Zle.left _ _)) ho) ?_
  rintro zhy zhz zhA zhB zhC
  refine WL.nil (WX.a (WC.b (WC.a (WL.pu rfl (WL.pu rfl (WL.nil (WX.a (WC.ret (WX.y7 ?_)))))))))
  refine WX.freezeS (ls:=zan.fAct.fData) .h1 .h1 hz (RR.yK (enc:=e5) (fun _=>rfl) _) ?_
  intro zhD zhE zhF
  obtain rfl:=Option.some.inj h
  refine WX.y8 Tryd.results109 (.tmp rfl (.tmp rfl .nil)) (fun w hw=>?_)
  exact ⟨zhD,zhy,zhz,zhA,zhB,y1B rfl rfl,⟨(zhC.mono zhE),zhF⟩,hw.sub (.cons .here (.cons .here .nil))⟩
 ·replace h:=yd h zaq
  refine WC.skip (WX.a (WC.b (WC.a (WL.pu rfl (WL.pu rfl (WL.pu rfl (WL.nil (WX.a (WC.ret ?_)))))))))
  obtain rfl:=Option.some.inj h
  refine WX.y8 Tryd.results109 (.tmp rfl (.tmp rfl .nil)) (fun w hw=>?_)
  exact ⟨[],z63,z64,z65,z66,y1B rfl rfl,⟨(zao.mono (Zle.left _ _)),(zap.mono (Zle.left _ _))⟩,hw.sub (.cons .here (.cons .here .nil))⟩
def y2l (zz : Sproc_execution) : Option Sproc_execution :=
 (y1G zz).bind fun zw=>if zw.2.1 then (yk zw.2.2 zw.2.2.fX.fA).bind fun zhG=>chk ((0 : Int) ≤ zw.1 ∧ zw.1 < ((zw.2.2.fMem.length : Nat) : Int)) (chk ((0 : Int) ≤ zw.2.2.fX.fA ∧ zw.2.2.fX.fA < 4) (some (⟨(⟨zw.2.2.fState.fPc,zw.2.2.fState.fLeft,(⟨nth (([zw.2.2.fState.fRegs.a0,zw.2.2.fState.fRegs.a1,zw.2.2.fState.fRegs.a2,zw.2.2.fState.fRegs.a3] : List Int).set (zw.2.2.fX.fA : Int).toNat (nth zw.2.2.fMem zw.1)) 0,nth (([zw.2.2.fState.fRegs.a0,zw.2.2.fState.fRegs.a1,zw.2.2.fState.fRegs.a2,zw.2.2.fState.fRegs.a3] : List Int).set (zw.2.2.fX.fA : Int).toNat (nth zw.2.2.fMem zw.1)) 1,nth (([zw.2.2.fState.fRegs.a0,zw.2.2.fState.fRegs.a1,zw.2.2.fState.fRegs.a2,zw.2.2.fState.fRegs.a3] : List Int).set (zw.2.2.fX.fA : Int).toNat (nth zw.2.2.fMem zw.1)) 2,nth (([zw.2.2.fState.fRegs.a0,zw.2.2.fState.fRegs.a1,zw.2.2.fState.fRegs.a2,zw.2.2.fState.fRegs.a3] : List Int).set (zw.2.2.fX.fA : Int).toNat (nth zw.2.2.fMem zw.1)) 3⟩ : S34)⟩ : Sproc_State),zw.2.2.fX,zw.2.2.fMem,zw.2.2.fAct⟩ : Sproc_execution))) else some zw.2.2
set_option maxRecDepth 20000 in
theorem y4J (Z : Zp) (z3X : Nat) (z6A : Option Addr) (z6B : Nat) (z6C : Option Addr) (z6D : Nat) (zz : Sproc_execution) (r : Sproc_execution)
  (h : y2l zz = some r) (w₀ : World) (hz : PZ (fps [stb z3X 65 [(.int .i64 zz.fState.fPc),(.int .i64 zz.fState.fLeft),(.int .u8 zz.fState.fRegs.a0),(.int .u8 zz.fState.fRegs.a1),(.int .u8 zz.fState.fRegs.a2),(.int .u8 zz.fState.fRegs.a3),(.int .u8 zz.fX.fOp),(.int .i64 zz.fX.fA),(.int .i64 zz.fX.fB),(.int .i64 zz.fX.fC),(.slice z6A zz.fMem.length z6B),(.int .u8 zz.fAct.fKind),(.int .i64 zz.fAct.fA),(.int .i64 zz.fAct.fB),(.slice z6C zz.fAct.fData.length z6D)]]) w₀ Z)
  (zhH : ZS Z 1 (fun r x=>r = e5 x) z6A z6B zz.fMem)
  (zhI : ZS Z 1 (fun r x=>r = e5 x) z6C z6D zz.fAct.fData)
  (hown : Hp (fps [stb z3X 65 [(.int .i64 zz.fState.fPc),(.int .i64 zz.fState.fLeft),(.int .u8 zz.fState.fRegs.a0),(.int .u8 zz.fState.fRegs.a1),(.int .u8 zz.fState.fRegs.a2),(.int .u8 zz.fState.fRegs.a3),(.int .u8 zz.fX.fOp),(.int .i64 zz.fX.fA),(.int .i64 zz.fX.fB),(.int .i64 zz.fX.fC),(.slice z6A zz.fMem.length z6B),(.int .u8 zz.fAct.fKind),(.int .i64 zz.fAct.fA),(.int .i64 zz.fAct.fB),(.slice z6C zz.fAct.fData.length z6D)]]) w₀ w₀ [stb z3X 65 [(.int .i64 zz.fState.fPc),(.int .i64 zz.fState.fLeft),(.int .u8 zz.fState.fRegs.a0),(.int .u8 zz.fState.fRegs.a1),(.int .u8 zz.fState.fRegs.a2),(.int .u8 zz.fState.fRegs.a3),(.int .u8 zz.fX.fOp),(.int .i64 zz.fX.fA),(.int .i64 zz.fX.fB),(.int .i64 zz.fX.fC),(.slice z6A zz.fMem.length z6B),(.int .u8 zz.fAct.fKind),(.int .i64 zz.fAct.fA),(.int .i64 zz.fAct.fB),(.slice z6C zz.fAct.fData.length z6D)]]) :
  Calls Tryd.prog 87 #[(.pointer (some ⟨z3X,0,none⟩))] w₀ fun e w'=>∃ Zn : Zp,∃ zdL : Option Addr,∃ zdM : Nat,∃ zdN : Option Addr,∃ zdO : Nat,e = .returned (.tuple #[]) ∧ ((ZS (Z ++ Zn) 1 (fun r x=>r = e5 x) zdL zdM r.fMem) ∧ (ZS (Z ++ Zn) 1 (fun r x=>r = e5 x) zdN zdO r.fAct.fData)) ∧ Hp (fps [stb z3X 65 [(.int .i64 zz.fState.fPc),(.int .i64 zz.fState.fLeft),(.int .u8 zz.fState.fRegs.a0),(.int .u8 zz.fState.fRegs.a1),(.int .u8 zz.fState.fRegs.a2),(.int .u8 zz.fState.fRegs.a3),(.int .u8 zz.fX.fOp),(.int .i64 zz.fX.fA),(.int .i64 zz.fX.fB),(.int .i64 zz.fX.fC),(.slice z6A zz.fMem.length z6B),(.int .u8 zz.fAct.fKind),(.int .i64 zz.fAct.fA),(.int .i64 zz.fAct.fB),(.slice z6C zz.fAct.fData.length z6D)]]) w₀ w' [fz Zn,stb z3X 65 [(.int .i64 r.fState.fPc),(.int .i64 r.fState.fLeft),(.int .u8 r.fState.fRegs.a0),(.int .u8 r.fState.fRegs.a1),(.int .u8 r.fState.fRegs.a2),(.int .u8 r.fState.fRegs.a3),(.int .u8 r.fX.fOp),(.int .i64 r.fX.fA),(.int .i64 r.fX.fB),(.int .i64 r.fX.fC),(.slice zdL r.fMem.length zdM),(.int .u8 r.fAct.fKind),(.int .i64 r.fAct.fA),(.int .i64 r.fAct.fB),(.slice zdN r.fAct.fData.length zdO)]]:=by
 unfold y2l at h
 refine Calls.ya (vs:=[(.pointer (some ⟨z3X,0,none⟩))]) (pre:=[stb z3X 65 [(.int .i64 zz.fState.fPc),(.int .i64 zz.fState.fLeft),(.int .u8 zz.fState.fRegs.a0),(.int .u8 zz.fState.fRegs.a1),(.int .u8 zz.fState.fRegs.a2),(.int .u8 zz.fState.fRegs.a3),(.int .u8 zz.fX.fOp),(.int .i64 zz.fX.fA),(.int .i64 zz.fX.fB),(.int .i64 zz.fX.fC),(.slice z6A zz.fMem.length z6B),(.int .u8 zz.fAct.fKind),(.int .i64 zz.fAct.fA),(.int .i64 zz.fAct.fB),(.slice z6C zz.fAct.fData.length z6D)]]) (env:=[(0,(.pointer (some ⟨z3X,0,none⟩)))]) Tryd.func87 rfl Tryd.ntmps87 rfl (hown) rfl ?_
 refine WC.pool (WC.b ?_)
 obtain ⟨zw,zhJ,h⟩:=zd h
 refine WC.a (WL.pu rfl ?_)
 refine WL.y2A (dd:=6) rfl rfl rfl (zm (l:=[.tmp 5]) Tryd.call109 (.cons rfl .nil)) (.cons .h1 .nil) (ccz hz (.cons .h1 .nil) .here fun w pz ho=>y3l _ _ _ _ _ _ _ _ zhJ w pz (zhH.mono (Zle.left _ _)) (zhI.mono (Zle.left _ _)) ho) ?_
 rintro zar zas zat zau zav ⟨z9c,zaw⟩
 refine WL.merge .here .h1 ?_
 refine WL.pu rfl (WL.pu rfl (WL.pu rfl (WL.pu rfl (WL.pu rfl (WL.nil (WX.a (WC.b (WC.a (WL.pu rfl (WL.nil (WX.a ?_)))))))))))
 refine WC.cond rfl (fun zax=>?_) (fun zax=>?_)
 ·replace h:=yc h zax
  obtain ⟨zhG,zhK,h⟩:=zd h
  obtain ⟨zhL,h⟩:=yb h
  obtain ⟨zhM,h⟩:=yb h
  refine WC.y1j (fun i=>[15].contains i) [] rfl ?_
  refine WD.a (i:=0) (d:=10) (by kernel_rfl) rfl z1 z2 rfl rfl rfl (fun _=>q_m rfl) ?_
  refine WD.a (i:=1) (d:=11) (by kernel_rfl) rfl z1 z2 rfl rfl rfl (fun _=>q_m rfl) ?_
  refine WD.a (i:=2) (d:=12) (by kernel_rfl) rfl z1 z2 rfl rfl rfl (fun _=>y9 rfl) ?_
  refine WD.a (i:=3) (d:=13) (by kernel_rfl) rfl z1 z2 rfl rfl rfl (fun _=>y4 yM rfl rfl) ?_
  refine WD.a (i:=4) (d:=14) (by kernel_rfl) rfl z1 z2 rfl rfl rfl (fun _=>y4 y1p rfl rfl) ?_
  refine WD.e (i:=5) (d:=15) (by kernel_rfl) rfl z1 z2 rfl rfl rfl (y6 yh rfl (yi .h1 rfl)) ?_
  refine WD.c (i:=6) (d:=16) (by kernel_rfl) rfl z1 z2 rfl rfl rfl (zm (l:=[.tmp 10,.tmp 15]) Tryd.call108 (.cons rfl (.cons rfl .nil))) (y2C hz .nil .here (.cons .h1 .nil) fun w pz ho la=>yn _ _ _ _ _ _ _ _ _ zhK w pz ((z9c.mono (Zle.y5 _ _ _)).mono (Zle.left _ _)) ((zaw.mono (Zle.y5 _ _ _)).mono (Zle.left _ _)) ((la _ (.head _) _).stb)) ?_
  refine WD.a (i:=7) (d:=17) (by kernel_rfl) rfl z1 z2 rfl rfl rfl (fun _=>q_m rfl) ?_
  refine WD.a (i:=8) (d:=18) (by kernel_rfl) rfl z1 z2 rfl rfl rfl (fun _=>y9 rfl) ?_
  refine WD.a (i:=9) (d:=19) (by kernel_rfl) rfl z1 z2 rfl rfl rfl (fun _=>y4 y7y rfl rfl) ?_
  refine WD.e (i:=10) (d:=20) (by kernel_rfl) rfl z1 z2 rfl rfl rfl (y6 y5T rfl (yi .h1 rfl)) ?_
  refine WD.a (i:=11) (d:=21) (by kernel_rfl) rfl z1 z2 rfl rfl rfl (fun _=>q_m rfl) ?_
  refine WD.znth (j:=12) (dd:=22) (by kernel_rfl) rfl z1 z2 rfl rfl (Z:=(Z ++ ([] ++ zar))) (Pr:=(fun r x=>r = e5 x)) y2L rfl rfl (z9c.mono (Zle.y5 _ _ _)) zhL ?_
  rintro zrV zrW zhN zrX rfl
  refine WD.e (i:=13) (d:=23) (by kernel_rfl) rfl z1 z2 rfl rfl rfl (y6 yP rfl (y33 (hz.pv2 .here) zhN rfl)) ?_
  refine WD.a (i:=14) (d:=24) (by kernel_rfl) rfl z1 z2 rfl rfl rfl (fun _=>y9 rfl) ?_
  refine WD.y30 (i:=15) rfl (by kernel_rfl) rfl rfl rfl (by kernel_rfl) (y3B (l:=([zw.2.2.fState.fRegs.a0,zw.2.2.fState.fRegs.a1,zw.2.2.fState.fRegs.a2,zw.2.2.fState.fRegs.a3] : List Int)) (f:=Value.int .u8) (u:=(nth zw.2.2.fMem zw.1)) (k:=2) (m:=6) (j:=4) (ds:=[(.int .i64 zw.2.2.fState.fPc),(.int .i64 zw.2.2.fState.fLeft),(.int .u8 (nth (([zw.2.2.fState.fRegs.a0,zw.2.2.fState.fRegs.a1,zw.2.2.fState.fRegs.a2,zw.2.2.fState.fRegs.a3] : List Int).set (zw.2.2.fX.fA : Int).toNat (nth zw.2.2.fMem zw.1)) 0)),(.int .u8 (nth (([zw.2.2.fState.fRegs.a0,zw.2.2.fState.fRegs.a1,zw.2.2.fState.fRegs.a2,zw.2.2.fState.fRegs.a3] : List Int).set (zw.2.2.fX.fA : Int).toNat (nth zw.2.2.fMem zw.1)) 1)),(.int .u8 (nth (([zw.2.2.fState.fRegs.a0,zw.2.2.fState.fRegs.a1,zw.2.2.fState.fRegs.a2,zw.2.2.fState.fRegs.a3] : List Int).set (zw.2.2.fX.fA : Int).toNat (nth zw.2.2.fMem zw.1)) 2)),(.int .u8 (nth (([zw.2.2.fState.fRegs.a0,zw.2.2.fState.fRegs.a1,zw.2.2.fState.fRegs.a2,zw.2.2.fState.fRegs.a3] : List Int).set (zw.2.2.fX.fA : Int).toNat (nth zw.2.2.fMem zw.1)) 3)),(.int .u8 zw.2.2.fX.fOp),(.int .i64 zw.2.2.fX.fA),(.int .i64 zw.2.2.fX.fB),(.int .i64 zw.2.2.fX.fC),(.slice zas zw.2.2.fMem.length zat),(.int .u8 zw.2.2.fAct.fKind),(.int .i64 zw.2.2.fAct.fA),(.int .i64 zw.2.2.fAct.fB),(.slice zau zw.2.2.fAct.fData.length zav)]) y4G rfl rfl rfl rfl .h1 rfl rfl zhM rfl rfl) ?_
  refine WD.done (by kernel_rfl) ?_
  obtain rfl:=Option.some.inj h
  refine WX.yl Tryd.results87 .nil (fun w hw=>?_)
  exact ⟨([] ++ zar),zas,zat,zau,zav,y1m,⟨(z9c.mono (Zle.y5 _ _ _)),(zaw.mono (Zle.y5 _ _ _))⟩,hw.sub (.cons .h1 (.cons .here .nil))⟩
 ·replace h:=yd h zax
  refine WC.skip ?_
  obtain rfl:=Option.some.inj h
  refine WX.yl Tryd.results87 .nil (fun w hw=>?_)
  exact ⟨([] ++ zar),zas,zat,zau,zav,y1m,⟨(z9c.mono (Zle.y5 _ _ _)),(zaw.mono (Zle.y5 _ _ _))⟩,hw.sub (.cons .here (.cons .here .nil))⟩
def y29 (zA : Sproc_execution) : Option Sproc_execution :=
 (y1G zA).bind fun zR=>if zR.2.1 then (yk zR.2.2 zR.2.2.fX.fA).bind fun zhO=>chk ((0 : Int) ≤ zR.2.2.fX.fA ∧ zR.2.2.fX.fA < 4) (some (⟨zR.2.2.fState,zR.2.2.fX,zR.2.2.fMem,(⟨1,zR.1,i64 (nth ([zR.2.2.fState.fRegs.a0,zR.2.2.fState.fRegs.a1,zR.2.2.fState.fRegs.a2,zR.2.2.fState.fRegs.a3] : List Int) zR.2.2.fX.fA),[]⟩ : Sproc_Act)⟩ : Sproc_execution)) else some zR.2.2
set_option maxRecDepth 20000 in
theorem y4r (Z : Zp) (z3Y : Nat) (z6E : Option Addr) (z6F : Nat) (z6G : Option Addr) (z6H : Nat) (zA : Sproc_execution) (r : Sproc_execution)
  (h : y29 zA = some r) (w₀ : World) (hz : PZ (fps [stb z3Y 65 [(.int .i64 zA.fState.fPc),(.int .i64 zA.fState.fLeft),(.int .u8 zA.fState.fRegs.a0),(.int .u8 zA.fState.fRegs.a1),(.int .u8 zA.fState.fRegs.a2),(.int .u8 zA.fState.fRegs.a3),(.int .u8 zA.fX.fOp),(.int .i64 zA.fX.fA),(.int .i64 zA.fX.fB),(.int .i64 zA.fX.fC),(.slice z6E zA.fMem.length z6F),(.int .u8 zA.fAct.fKind),(.int .i64 zA.fAct.fA),(.int .i64 zA.fAct.fB),(.slice z6G zA.fAct.fData.length z6H)]]) w₀ Z)
  (zhP : ZS Z 1 (fun r x=>r = e5 x) z6E z6F zA.fMem)
  (zhQ : ZS Z 1 (fun r x=>r = e5 x) z6G z6H zA.fAct.fData)
  (hown : Hp (fps [stb z3Y 65 [(.int .i64 zA.fState.fPc),(.int .i64 zA.fState.fLeft),(.int .u8 zA.fState.fRegs.a0),(.int .u8 zA.fState.fRegs.a1),(.int .u8 zA.fState.fRegs.a2),(.int .u8 zA.fState.fRegs.a3),(.int .u8 zA.fX.fOp),(.int .i64 zA.fX.fA),(.int .i64 zA.fX.fB),(.int .i64 zA.fX.fC),(.slice z6E zA.fMem.length z6F),(.int .u8 zA.fAct.fKind),(.int .i64 zA.fAct.fA),(.int .i64 zA.fAct.fB),(.slice z6G zA.fAct.fData.length z6H)]]) w₀ w₀ [stb z3Y 65 [(.int .i64 zA.fState.fPc),(.int .i64 zA.fState.fLeft),(.int .u8 zA.fState.fRegs.a0),(.int .u8 zA.fState.fRegs.a1),(.int .u8 zA.fState.fRegs.a2),(.int .u8 zA.fState.fRegs.a3),(.int .u8 zA.fX.fOp),(.int .i64 zA.fX.fA),(.int .i64 zA.fX.fB),(.int .i64 zA.fX.fC),(.slice z6E zA.fMem.length z6F),(.int .u8 zA.fAct.fKind),(.int .i64 zA.fAct.fA),(.int .i64 zA.fAct.fB),(.slice z6G zA.fAct.fData.length z6H)]]) :
  Calls Tryd.prog 88 #[(.pointer (some ⟨z3Y,0,none⟩))] w₀ fun e w'=>∃ Zn : Zp,∃ zdP : Option Addr,∃ zdQ : Nat,∃ zdR : Option Addr,∃ zdS : Nat,e = .returned (.tuple #[]) ∧ ((ZS (Z ++ Zn) 1 (fun r x=>r = e5 x) zdP zdQ r.fMem) ∧ (ZS (Z ++ Zn) 1 (fun r x=>r = e5 x) zdR zdS r.fAct.fData)) ∧ Hp (fps [stb z3Y 65 [(.int .i64 zA.fState.fPc),(.int .i64 zA.fState.fLeft),(.int .u8 zA.fState.fRegs.a0),(.int .u8 zA.fState.fRegs.a1),(.int .u8 zA.fState.fRegs.a2),(.int .u8 zA.fState.fRegs.a3),(.int .u8 zA.fX.fOp),(.int .i64 zA.fX.fA),(.int .i64 zA.fX.fB),(.int .i64 zA.fX.fC),(.slice z6E zA.fMem.length z6F),(.int .u8 zA.fAct.fKind),(.int .i64 zA.fAct.fA),(.int .i64 zA.fAct.fB),(.slice z6G zA.fAct.fData.length z6H)]]) w₀ w' [fz Zn,stb z3Y 65 [(.int .i64 r.fState.fPc),(.int .i64 r.fState.fLeft),(.int .u8 r.fState.fRegs.a0),(.int .u8 r.fState.fRegs.a1),(.int .u8 r.fState.fRegs.a2),(.int .u8 r.fState.fRegs.a3),(.int .u8 r.fX.fOp),(.int .i64 r.fX.fA),(.int .i64 r.fX.fB),(.int .i64 r.fX.fC),(.slice zdP r.fMem.length zdQ),(.int .u8 r.fAct.fKind),(.int .i64 r.fAct.fA),(.int .i64 r.fAct.fB),(.slice zdR r.fAct.fData.length zdS)]]:=by
 unfold y29 at h
 refine Calls.ya (vs:=[(.pointer (some ⟨z3Y,0,none⟩))]) (pre:=[stb z3Y 65 [(.int .i64 zA.fState.fPc),(.int .i64 zA.fState.fLeft),(.int .u8 zA.fState.fRegs.a0),(.int .u8 zA.fState.fRegs.a1),(.int .u8 zA.fState.fRegs.a2),(.int .u8 zA.fState.fRegs.a3),(.int .u8 zA.fX.fOp),(.int .i64 zA.fX.fA),(.int .i64 zA.fX.fB),(.int .i64 zA.fX.fC),(.slice z6E zA.fMem.length z6F),(.int .u8 zA.fAct.fKind),(.int .i64 zA.fAct.fA),(.int .i64 zA.fAct.fB),(.slice z6G zA.fAct.fData.length z6H)]]) (env:=[(0,(.pointer (some ⟨z3Y,0,none⟩)))]) Tryd.func88 rfl Tryd.ntmps88 rfl (hown) rfl ?_
 refine WC.pool (WC.b ?_)
 obtain ⟨zR,zhR,h⟩:=zd h
 refine WC.a (WL.pu rfl ?_)
 refine WL.y2A (dd:=6) rfl rfl rfl (zm (l:=[.tmp 5]) Tryd.call109 (.cons rfl .nil)) (.cons .h1 .nil) (ccz hz (.cons .h1 .nil) .here fun w pz ho=>y3l _ _ _ _ _ _ _ _ zhR w pz (zhP.mono (Zle.left _ _)) (zhQ.mono (Zle.left _ _)) ho) ?_
 rintro zdT zay zaz zhS zhT ⟨zaA,zdU⟩
 refine WL.merge .here .h1 ?_
 refine WL.pu rfl (WL.pu rfl (WL.pu rfl (WL.pu rfl (WL.pu rfl (WL.nil (WX.a (WC.b (WC.a (WL.pu rfl (WL.nil (WX.a ?_)))))))))))
 refine WC.cond rfl (fun zaB=>?_) (fun zaB=>?_)
 ·replace h:=yc h zaB
  obtain ⟨zhO,zhU,h⟩:=zd h
  obtain ⟨zhV,h⟩:=yb h
  refine WC.a (WL.pu rfl (WL.pu rfl (WL.pu rfl (WL.pu rfl ?_))))
  refine WL.a (d:=14) rfl rfl rfl (y9 rfl) ?_
  refine WL.a (d:=15) rfl rfl rfl (y4 yM rfl rfl) ?_
  refine WL.a (d:=16) rfl rfl rfl (y4 y1p rfl rfl) ?_
  refine WL.a (d:=17) rfl rfl rfl (y6 yh rfl (yi .h1 rfl)) ?_
  refine WL.b (dd:=18) rfl rfl rfl (zm (l:=[.tmp 12,.tmp 17]) Tryd.call108 (.cons rfl (.cons rfl .nil))) .nil (y2C hz .nil .here (.cons .h1 .nil) fun w pz ho la=>yn _ _ _ _ _ _ _ _ _ zhU w pz ((zaA.mono (Zle.y5 _ _ _)).mono (Zle.left _ _)) ((zdU.mono (Zle.y5 _ _ _)).mono (Zle.left _ _)) ((la _ (.head _) _).stb)) ?_
  refine WL.a (d:=19) rfl rfl rfl (y9 rfl) ?_
  refine WL.a (d:=20) rfl rfl rfl (y6 yP rfl (y1Q (l:=([zR.2.2.fState.fRegs.a0,zR.2.2.fState.fRegs.a1,zR.2.2.fState.fRegs.a2,zR.2.2.fState.fRegs.a3] : List Int)) (f:=Value.int .u8) (k:=2) (m:=6) .h1 rfl rfl zhV)) ?_
  refine WL.a (d:=21) rfl rfl rfl (y5x Tryd.underlying5 Tryd.underlying3 rfl rfl) ?_
  refine WL.a (d:=22) rfl rfl rfl (y1b (v:=(.agg #[(.int .u8 1),(.int .i64 zR.1),(.int .i64 (i64 (nth ([zR.2.2.fState.fRegs.a0,zR.2.2.fState.fRegs.a1,zR.2.2.fState.fRegs.a2,zR.2.2.fState.fRegs.a3] : List Int) zR.2.2.fX.fA))),(.slice none 0 0)])) (Eos.parts (l:=[.const (.int .u8 1),.tmp 11,.tmp 21]) (.cons rfl (.cons rfl (.cons rfl .nil))) [0,1,2]) (fun _=>by kernel_rfl)) ?_
  refine WL.a (d:=23) rfl rfl rfl (y9 rfl) ?_
  refine WL.a (d:=24) rfl rfl rfl (y4 y3Y rfl rfl) ?_
  refine WL.yq rfl rfl (y1E (ds:=[(.int .i64 zR.2.2.fState.fPc),(.int .i64 zR.2.2.fState.fLeft),(.int .u8 zR.2.2.fState.fRegs.a0),(.int .u8 zR.2.2.fState.fRegs.a1),(.int .u8 zR.2.2.fState.fRegs.a2),(.int .u8 zR.2.2.fState.fRegs.a3),(.int .u8 zR.2.2.fX.fOp),(.int .i64 zR.2.2.fX.fA),(.int .i64 zR.2.2.fX.fB),(.int .i64 zR.2.2.fX.fC),(.slice zay zR.2.2.fMem.length zaz),(.int .u8 1),(.int .i64 zR.1),(.int .i64 (i64 (nth ([zR.2.2.fState.fRegs.a0,zR.2.2.fState.fRegs.a1,zR.2.2.fState.fRegs.a2,zR.2.2.fState.fRegs.a3] : List Int) zR.2.2.fX.fA))),(.slice none 0 0)]) y1X rfl rfl rfl rfl rfl .h1 rfl rfl) ?_
  refine WL.nil ?_
  obtain rfl:=Option.some.inj h
  refine WX.yl Tryd.results88 .nil (fun w hw=>?_)
  exact ⟨([] ++ zdT),zay,zaz,none,0,y1m,⟨(zaA.mono (Zle.y5 _ _ _)),(ZS.nil _ _ _)⟩,hw.sub (.cons .h1 (.cons .here .nil))⟩
 ·replace h:=yd h zaB
  refine WC.skip ?_
  obtain rfl:=Option.some.inj h
  refine WX.yl Tryd.results88 .nil (fun w hw=>?_)
  exact ⟨([] ++ zdT),zay,zaz,zhS,zhT,y1m,⟨(zaA.mono (Zle.y5 _ _ _)),(zdU.mono (Zle.y5 _ _ _))⟩,hw.sub (.cons .here (.cons .here .nil))⟩
def y25 (z1t : Int) (z20 : Int) (z3Z : (List Int) → Option (List Int)) : Nat → (List Int) → Int → Option (List Int)
 | 0,_,_=>none
 | zaC + 1,z21,z1x=>if decide (z1x < (((List.replicate (z1t : Int).toNat (0 : Int)).length : Nat) : Int)) then chk ((0 : Int) ≤ z1x ∧ z1x < ((z21.length : Nat) : Int)) (y25 z1t z20 z3Z zaC (z21.set (z1x : Int).toNat (u8 (z20 + (u8 z1x)))) (i64 (z1x + 1))) else z3Z z21
theorem y5e {n : Nat} {z1t : Int} {z20 : Int} {z3Z : (List Int) → Option (List Int)} {z21 : List Int} {z1x : Int} {r : List Int} (h : y25 z1t z20 z3Z n z21 z1x = some r) : ∃ m,n = m + 1:=by
 cases n with
 | zero=>cases h
 | succ m=>exact ⟨m,rfl⟩
def y48 (z20 : Int) (z1t : Int) : Option (List Int) :=
 chk ((0 : Int) ≤ z1t ∧ (z1t : Int) ≤ z1t ∧ (z1t : Int) * 1 ≤ 140737488355328 ∧ (z1t : Int) ≤ 4611686018427387904) (jp1 (fun (z3C : List Int)=>some z3C) fun z3Z=>y25 z1t z20 z3Z yB (List.replicate (z1t : Int).toNat (0 : Int)) 0)
set_option maxRecDepth 20000 in
theorem y7a (Z : Zp)  (z20 : Int) (z1t : Int) (r : List Int)
  (h : y48 z20 z1t = some r) (w₀ : World) (hz : PZ [] w₀ Z) :
  Calls Tryd.prog 111 #[(.int .u8 z20),(.int .i64 z1t)] w₀ fun e w'=>∃ zdV : Option Addr,∃ zdW : Nat,e = .returned (.slice zdV r.length zdW) ∧ True ∧ Hp [] w₀ w' [row (.slice zdV r.length zdW) 5 1 (r.flatMap e5)]:=by
 unfold y48 at h
 refine Calls.ya (vs:=[(.int .u8 z20),(.int .i64 z1t)]) (pre:=[]) (env:=[(0,(.int .u8 z20)),(1,(.int .i64 z1t))]) Tryd.func111 rfl Tryd.ntmps111 rfl (Hp.nil w₀ _) rfl ?_
 refine WC.b (WC.a (WL.pu rfl (WL.nil (WX.a (WC.b ?_)))))
 obtain ⟨zhW,h⟩:=yb h
 refine WC.a (WL.pu rfl ?_)
 refine WL.new (dd:=8) rfl rfl rfl (y2Q (r:=[(.int .u8 0)]) (z0:=(0 : Int)) y2L y5S rfl rfl rfl rfl zhW) ?_
 intro z67 _
 refine WL.rowEqD .here (cs':=(List.replicate (z1t : Int).toNat (0 : Int)).flatMap e5) (y3I (enc:=e5) (0 : Int) _) ?_
 refine WL.pu rfl (WL.nil (WX.a ?_))
 obtain ⟨z3Z,zhX,h⟩:=yS h
 refine WC.yO (fun (z3C : List Int)=>(z3Z z3C = some r)) (fun (z3C : List Int)=>[(5,(.slice (some ⟨z67,0,none⟩) z3C.length ((z1t : Int).toNat)))]) (fun (z3C : List Int)=>[row (.slice (some ⟨z67,0,none⟩) z3C.length ((z1t : Int).toNat)) 5 1 (z3C.flatMap e5)]) ?_ ?_
 ·skip
  refine WC.b (WC.a (WL.pu rfl ?_))
  refine WL.a (d:=10) rfl rfl rfl (yH Tryd.underlying35 rfl) ?_
  refine WL.pu rfl (WL.nil (WX.a (WC.block ?_)))
  refine WC.y43 (fun (z6I : Nat) (z21 : List Int) (z1x : Int)=>(y25 z1t z20 z3Z z6I z21 z1x = some r)) (fun (z6I : Nat) (z21 : List Int) (z1x : Int)=>[(0,(.int .u8 z20)),(5,(.slice (some ⟨z67,0,none⟩) z21.length ((z1t : Int).toNat))),(10,(.int .i64 (((List.replicate (z1t : Int).toNat (0 : Int)).length : Nat) : Int))),(11,(.int .i64 z1x))]) (fun (z6I : Nat) (z21 : List Int) (z1x : Int)=>[row (.slice (some ⟨z67,0,none⟩) z21.length ((z1t : Int).toNat)) 5 1 (z21.flatMap e5)]) (fun (z6I : Nat) (z21 : List Int) (z1x : Int)=>z6I) ⟨yB,(List.replicate (z1t : Int).toNat (0 : Int)),0⟩ h (.cons rfl (.cons rfl (.cons rfl (.cons rfl .nil)))) (.cons .here .nil) ?_
  rintro z6I z21 z1x h
  obtain ⟨zaC,rfl⟩:=y5e h
  rw [y25] at h
  refine WC.b (WC.a (WL.pu rfl (WL.nil (WX.a (WC.b ?_)))))
  refine WC.cond rfl (fun zaD=>?_) (fun zaD=>?_)
  ·replace h:=yc h zaD
   refine WC.skip (WX.a (WC.b (WC.block (WC.b (WC.a (WL.pu rfl (WL.pu rfl (WL.nil (WX.a ?_)))))))))
   obtain ⟨z6J,h⟩:=yb h
   refine WC.a (WL.pu rfl (WL.pu rfl (WL.pu rfl (WL.pu rfl ?_))))
   refine WL.a (d:=18) rfl rfl rfl (y5x Tryd.underlying3 Tryd.underlying5 rfl rfl) ?_
   refine WL.pu rfl ?_
   refine WL.a (d:=20) rfl rfl rfl (yw y2L rfl rfl z6J.1 z6J.2 y1H) ?_
   refine WL.yq rfl rfl (y3U (vs:=[(.int .u8 (u8 (z20 + (u8 z1x))))]) (ds:=(z21.set (z1x : Int).toNat (u8 (z20 + (u8 z1x)))).flatMap e5) y4G rfl rfl rfl rfl (y5Q rfl y6e) .here (y58 (enc:=e5) (sz:=1) (k:=0) (fun _=>rfl) z6J.1 z6J.2 (by decide)) (y53 (enc:=e5) (l:=z21) (sz:=1) (vs:=[(.int .u8 (u8 (z20 + (u8 z1x))))]) (y:=u8 (z20 + (u8 z1x))) (k:=0) (fun _=>rfl) z6J.1 z6J.2 rfl (Nat.le_of_ble_eq_true rfl))) ?_
   refine WL.relen .here (u:=(.slice (some ⟨z67,0,none⟩) ((z21.set (z1x : Int).toNat (u8 (z20 + (u8 z1x)))).length) ((z1t : Int).toNat))) (y45 (List.length_set).symm) ?_
   refine WL.repin (i:=5) rfl (u:=(.slice (some ⟨z67,0,none⟩) ((z21.set (z1x : Int).toNat (u8 (z20 + (u8 z1x)))).length) ((z1t : Int).toNat))) (y45 (List.length_set).symm) ?_
   refine WL.nil (WX.ye (WX.a (WC.a (WL.pu rfl (WL.pu rfl (WL.nil ?_))))))
   exact WX.round (G:=Nat × List Int × Int) ⟨zaC,(z21.set (z1x : Int).toNat (u8 (z20 + (u8 z1x)))),(i64 (z1x + 1))⟩ h (Nat.lt_succ_self _) (.cons rfl (.cons rfl (.cons rfl (.cons rfl .nil)))) (.cons .here .nil)
  ·replace h:=yd h zaD
   refine WC.exit (WX.yg (WX.yg (WX.yD ?_)))
   exact WX.mid (G:=List Int) z21 h (.cons rfl .nil) (.cons .here .nil)
 ·rintro z3C h
  replace h:=(zhX z3C).symm.trans h
  refine WC.b (WC.a (WL.pu rfl (WL.pu rfl (WL.nil (WX.a (WC.ret ?_))))))
  obtain rfl:=Option.some.inj h
  refine WX.y8 Tryd.results111 (.tmp rfl .nil) (fun w hw=>?_)
  exact ⟨(some ⟨z67,0,none⟩),((z1t : Int).toNat),yx rfl,trivial,hw.sub (.cons .here .nil)⟩
def ym (zn : Sproc_execution) (z5i : Int) (z40 : List Int) : Option Sproc_execution :=
 some (⟨zn.fState,zn.fX,zn.fMem,(⟨z5i,zn.fX.fA,0,z40⟩ : Sproc_Act)⟩ : Sproc_execution)
set_option maxRecDepth 20000 in
theorem yr (Z : Zp) (z41 : Nat) (z5j : Option Addr) (z5k : Nat) (z6K : Option Addr) (z6L : Nat) (z68 : Option Addr) (z69 : Nat) (zn : Sproc_execution) (z5i : Int) (z40 : List Int) (r : Sproc_execution)
  (h : ym zn z5i z40 = some r) (w₀ : World) (hz : PZ (fps [stb z41 65 [(.int .i64 zn.fState.fPc),(.int .i64 zn.fState.fLeft),(.int .u8 zn.fState.fRegs.a0),(.int .u8 zn.fState.fRegs.a1),(.int .u8 zn.fState.fRegs.a2),(.int .u8 zn.fState.fRegs.a3),(.int .u8 zn.fX.fOp),(.int .i64 zn.fX.fA),(.int .i64 zn.fX.fB),(.int .i64 zn.fX.fC),(.slice z5j zn.fMem.length z5k),(.int .u8 zn.fAct.fKind),(.int .i64 zn.fAct.fA),(.int .i64 zn.fAct.fB),(.slice z6K zn.fAct.fData.length z6L)]]) w₀ Z)
  (zhY : ZS Z 1 (fun r x=>r = e5 x) z5j z5k zn.fMem)
  (zrY : ZS Z 1 (fun r x=>r = e5 x) z6K z6L zn.fAct.fData)
  (zhZ : ZS Z 1 (fun r x=>r = e5 x) z68 z69 z40)
  (hown : Hp (fps [stb z41 65 [(.int .i64 zn.fState.fPc),(.int .i64 zn.fState.fLeft),(.int .u8 zn.fState.fRegs.a0),(.int .u8 zn.fState.fRegs.a1),(.int .u8 zn.fState.fRegs.a2),(.int .u8 zn.fState.fRegs.a3),(.int .u8 zn.fX.fOp),(.int .i64 zn.fX.fA),(.int .i64 zn.fX.fB),(.int .i64 zn.fX.fC),(.slice z5j zn.fMem.length z5k),(.int .u8 zn.fAct.fKind),(.int .i64 zn.fAct.fA),(.int .i64 zn.fAct.fB),(.slice z6K zn.fAct.fData.length z6L)]]) w₀ w₀ [stb z41 65 [(.int .i64 zn.fState.fPc),(.int .i64 zn.fState.fLeft),(.int .u8 zn.fState.fRegs.a0),(.int .u8 zn.fState.fRegs.a1),(.int .u8 zn.fState.fRegs.a2),(.int .u8 zn.fState.fRegs.a3),(.int .u8 zn.fX.fOp),(.int .i64 zn.fX.fA),(.int .i64 zn.fX.fB),(.int .i64 zn.fX.fC),(.slice z5j zn.fMem.length z5k),(.int .u8 zn.fAct.fKind),(.int .i64 zn.fAct.fA),(.int .i64 zn.fAct.fB),(.slice z6K zn.fAct.fData.length z6L)]]) :
  Calls Tryd.prog 110 #[(.pointer (some ⟨z41,0,none⟩)),(.int .u8 z5i),(.slice z68 z40.length z69)] w₀ fun e w'=>∃ zdX : Option Addr,∃ zdY : Nat,∃ zdZ : Option Addr,∃ ze0 : Nat,e = .returned (.tuple #[]) ∧ ((ZS Z 1 (fun r x=>r = e5 x) zdX zdY r.fMem) ∧ (ZS Z 1 (fun r x=>r = e5 x) zdZ ze0 r.fAct.fData)) ∧ Hp (fps [stb z41 65 [(.int .i64 zn.fState.fPc),(.int .i64 zn.fState.fLeft),(.int .u8 zn.fState.fRegs.a0),(.int .u8 zn.fState.fRegs.a1),(.int .u8 zn.fState.fRegs.a2),(.int .u8 zn.fState.fRegs.a3),(.int .u8 zn.fX.fOp),(.int .i64 zn.fX.fA),(.int .i64 zn.fX.fB),(.int .i64 zn.fX.fC),(.slice z5j zn.fMem.length z5k),(.int .u8 zn.fAct.fKind),(.int .i64 zn.fAct.fA),(.int .i64 zn.fAct.fB),(.slice z6K zn.fAct.fData.length z6L)]]) w₀ w' [stb z41 65 [(.int .i64 r.fState.fPc),(.int .i64 r.fState.fLeft),(.int .u8 r.fState.fRegs.a0),(.int .u8 r.fState.fRegs.a1),(.int .u8 r.fState.fRegs.a2),(.int .u8 r.fState.fRegs.a3),(.int .u8 r.fX.fOp),(.int .i64 r.fX.fA),(.int .i64 r.fX.fB),(.int .i64 r.fX.fC),(.slice zdX r.fMem.length zdY),(.int .u8 r.fAct.fKind),(.int .i64 r.fAct.fA),(.int .i64 r.fAct.fB),(.slice zdZ r.fAct.fData.length ze0)]]:=by
 unfold ym at h
 refine Calls.ya (vs:=[(.pointer (some ⟨z41,0,none⟩)),(.int .u8 z5i),(.slice z68 z40.length z69)]) (pre:=[stb z41 65 [(.int .i64 zn.fState.fPc),(.int .i64 zn.fState.fLeft),(.int .u8 zn.fState.fRegs.a0),(.int .u8 zn.fState.fRegs.a1),(.int .u8 zn.fState.fRegs.a2),(.int .u8 zn.fState.fRegs.a3),(.int .u8 zn.fX.fOp),(.int .i64 zn.fX.fA),(.int .i64 zn.fX.fB),(.int .i64 zn.fX.fC),(.slice z5j zn.fMem.length z5k),(.int .u8 zn.fAct.fKind),(.int .i64 zn.fAct.fA),(.int .i64 zn.fAct.fB),(.slice z6K zn.fAct.fData.length z6L)]]) (env:=[(0,(.pointer (some ⟨z41,0,none⟩))),(1,(.int .u8 z5i)),(2,(.slice z68 z40.length z69))]) Tryd.func110 rfl Tryd.ntmps110 rfl (hown) rfl ?_
 refine WC.a (WL.pu rfl (WL.pu rfl (WL.pu rfl ?_)))
 refine WL.a (d:=9) rfl rfl rfl (y9 rfl) ?_
 refine WL.a (d:=10) rfl rfl rfl (y4 yM rfl rfl) ?_
 refine WL.a (d:=11) rfl rfl rfl (y4 y1p rfl rfl) ?_
 refine WL.a (d:=12) rfl rfl rfl (y6 yh rfl (yi .here rfl)) ?_
 refine WL.pu rfl ?_
 refine WL.a (d:=14) rfl rfl rfl (y1b (v:=(.agg #[(.int .u8 z5i),(.int .i64 zn.fX.fA),(.int .i64 0),(.slice z68 z40.length z69)])) (Eos.parts (l:=[.tmp 7,.tmp 12,.tmp 13]) (.cons rfl (.cons rfl (.cons rfl .nil))) [0,1,3]) (fun _=>by kernel_rfl)) ?_
 refine WL.a (d:=15) rfl rfl rfl (y9 rfl) ?_
 refine WL.a (d:=16) rfl rfl rfl (y4 y3Y rfl rfl) ?_
 refine WL.yq rfl rfl (y1E (ds:=[(.int .i64 zn.fState.fPc),(.int .i64 zn.fState.fLeft),(.int .u8 zn.fState.fRegs.a0),(.int .u8 zn.fState.fRegs.a1),(.int .u8 zn.fState.fRegs.a2),(.int .u8 zn.fState.fRegs.a3),(.int .u8 zn.fX.fOp),(.int .i64 zn.fX.fA),(.int .i64 zn.fX.fB),(.int .i64 zn.fX.fC),(.slice z5j zn.fMem.length z5k),(.int .u8 z5i),(.int .i64 zn.fX.fA),(.int .i64 0),(.slice z68 z40.length z69)]) y1X rfl rfl rfl rfl rfl .here rfl rfl) ?_
 refine WL.nil ?_
 obtain rfl:=Option.some.inj h
 refine WX.yl Tryd.results110 .nil (fun w hw=>?_)
 exact ⟨z5j,z5k,z68,z69,y1m,⟨zhY,zhZ⟩,hw.sub (.cons .here .nil)⟩
def y2m (zo : Sproc_execution) : Option Sproc_execution :=
 (yk zo zo.fX.fB).bind fun zi0=>chk ((0 : Int) ≤ zo.fX.fB ∧ zo.fX.fB < 4) ((y48 (nth ([zo.fState.fRegs.a0,zo.fState.fRegs.a1,zo.fState.fRegs.a2,zo.fState.fRegs.a3] : List Int) zo.fX.fB) zo.fX.fC).bind fun zaE=>(ym zo 2 zaE).bind fun ze1=>some ze1)
set_option maxRecDepth 20000 in
theorem y4K (Z : Zp) (z42 : Nat) (z6M : Option Addr) (z6N : Nat) (z6O : Option Addr) (z6P : Nat) (zo : Sproc_execution) (r : Sproc_execution)
  (h : y2m zo = some r) (w₀ : World) (hz : PZ (fps [stb z42 65 [(.int .i64 zo.fState.fPc),(.int .i64 zo.fState.fLeft),(.int .u8 zo.fState.fRegs.a0),(.int .u8 zo.fState.fRegs.a1),(.int .u8 zo.fState.fRegs.a2),(.int .u8 zo.fState.fRegs.a3),(.int .u8 zo.fX.fOp),(.int .i64 zo.fX.fA),(.int .i64 zo.fX.fB),(.int .i64 zo.fX.fC),(.slice z6M zo.fMem.length z6N),(.int .u8 zo.fAct.fKind),(.int .i64 zo.fAct.fA),(.int .i64 zo.fAct.fB),(.slice z6O zo.fAct.fData.length z6P)]]) w₀ Z)
  (ze2 : ZS Z 1 (fun r x=>r = e5 x) z6M z6N zo.fMem)
  (ze3 : ZS Z 1 (fun r x=>r = e5 x) z6O z6P zo.fAct.fData)
  (hown : Hp (fps [stb z42 65 [(.int .i64 zo.fState.fPc),(.int .i64 zo.fState.fLeft),(.int .u8 zo.fState.fRegs.a0),(.int .u8 zo.fState.fRegs.a1),(.int .u8 zo.fState.fRegs.a2),(.int .u8 zo.fState.fRegs.a3),(.int .u8 zo.fX.fOp),(.int .i64 zo.fX.fA),(.int .i64 zo.fX.fB),(.int .i64 zo.fX.fC),(.slice z6M zo.fMem.length z6N),(.int .u8 zo.fAct.fKind),(.int .i64 zo.fAct.fA),(.int .i64 zo.fAct.fB),(.slice z6O zo.fAct.fData.length z6P)]]) w₀ w₀ [stb z42 65 [(.int .i64 zo.fState.fPc),(.int .i64 zo.fState.fLeft),(.int .u8 zo.fState.fRegs.a0),(.int .u8 zo.fState.fRegs.a1),(.int .u8 zo.fState.fRegs.a2),(.int .u8 zo.fState.fRegs.a3),(.int .u8 zo.fX.fOp),(.int .i64 zo.fX.fA),(.int .i64 zo.fX.fB),(.int .i64 zo.fX.fC),(.slice z6M zo.fMem.length z6N),(.int .u8 zo.fAct.fKind),(.int .i64 zo.fAct.fA),(.int .i64 zo.fAct.fB),(.slice z6O zo.fAct.fData.length z6P)]]) :
  Calls Tryd.prog 89 #[(.pointer (some ⟨z42,0,none⟩))] w₀ fun e w'=>∃ Zn : Zp,∃ ze4 : Option Addr,∃ ze5 : Nat,∃ ze6 : Option Addr,∃ ze7 : Nat,e = .returned (.tuple #[]) ∧ ((ZS (Z ++ Zn) 1 (fun r x=>r = e5 x) ze4 ze5 r.fMem) ∧ (ZS (Z ++ Zn) 1 (fun r x=>r = e5 x) ze6 ze7 r.fAct.fData)) ∧ Hp (fps [stb z42 65 [(.int .i64 zo.fState.fPc),(.int .i64 zo.fState.fLeft),(.int .u8 zo.fState.fRegs.a0),(.int .u8 zo.fState.fRegs.a1),(.int .u8 zo.fState.fRegs.a2),(.int .u8 zo.fState.fRegs.a3),(.int .u8 zo.fX.fOp),(.int .i64 zo.fX.fA),(.int .i64 zo.fX.fB),(.int .i64 zo.fX.fC),(.slice z6M zo.fMem.length z6N),(.int .u8 zo.fAct.fKind),(.int .i64 zo.fAct.fA),(.int .i64 zo.fAct.fB),(.slice z6O zo.fAct.fData.length z6P)]]) w₀ w' [fz Zn,stb z42 65 [(.int .i64 r.fState.fPc),(.int .i64 r.fState.fLeft),(.int .u8 r.fState.fRegs.a0),(.int .u8 r.fState.fRegs.a1),(.int .u8 r.fState.fRegs.a2),(.int .u8 r.fState.fRegs.a3),(.int .u8 r.fX.fOp),(.int .i64 r.fX.fA),(.int .i64 r.fX.fB),(.int .i64 r.fX.fC),(.slice ze4 r.fMem.length ze5),(.int .u8 r.fAct.fKind),(.int .i64 r.fAct.fA),(.int .i64 r.fAct.fB),(.slice ze6 r.fAct.fData.length ze7)]]:=by
 unfold y2m at h
 refine Calls.ya (vs:=[(.pointer (some ⟨z42,0,none⟩))]) (pre:=[stb z42 65 [(.int .i64 zo.fState.fPc),(.int .i64 zo.fState.fLeft),(.int .u8 zo.fState.fRegs.a0),(.int .u8 zo.fState.fRegs.a1),(.int .u8 zo.fState.fRegs.a2),(.int .u8 zo.fState.fRegs.a3),(.int .u8 zo.fX.fOp),(.int .i64 zo.fX.fA),(.int .i64 zo.fX.fB),(.int .i64 zo.fX.fC),(.slice z6M zo.fMem.length z6N),(.int .u8 zo.fAct.fKind),(.int .i64 zo.fAct.fA),(.int .i64 zo.fAct.fB),(.slice z6O zo.fAct.fData.length z6P)]]) (env:=[(0,(.pointer (some ⟨z42,0,none⟩)))]) Tryd.func89 rfl Tryd.ntmps89 rfl (hown) rfl ?_
 refine WC.pool ?_
 obtain ⟨zi0,zi1,h⟩:=zd h
 obtain ⟨zi2,h⟩:=yb h
 obtain ⟨zaE,zi3,h⟩:=zd h
 obtain ⟨ze1,zi4,h⟩:=zd h
 refine WC.y1j (fun i=>[16].contains i) [] rfl ?_
 refine WD.a (i:=0) (d:=2) (by kernel_rfl) rfl z1 z2 rfl rfl rfl (fun _=>q_m rfl) ?_
 refine WD.a (i:=1) (d:=3) (by kernel_rfl) rfl z1 z2 rfl rfl rfl (fun _=>q_m rfl) ?_
 refine WD.a (i:=2) (d:=4) (by kernel_rfl) rfl z1 z2 rfl rfl rfl (fun _=>q_m rfl) ?_
 refine WD.a (i:=3) (d:=5) (by kernel_rfl) rfl z1 z2 rfl rfl rfl (fun _=>y9 rfl) ?_
 refine WD.a (i:=4) (d:=6) (by kernel_rfl) rfl z1 z2 rfl rfl rfl (fun _=>y4 yM rfl rfl) ?_
 refine WD.a (i:=5) (d:=7) (by kernel_rfl) rfl z1 z2 rfl rfl rfl (fun _=>y4 y1J rfl rfl) ?_
 refine WD.e (i:=6) (d:=8) (by kernel_rfl) rfl z1 z2 rfl rfl rfl (y6 yh rfl (yi .h1 rfl)) ?_
 refine WD.c (i:=7) (d:=9) (by kernel_rfl) rfl z1 z2 rfl rfl rfl (zm (l:=[.tmp 3,.tmp 8]) Tryd.call108 (.cons rfl (.cons rfl .nil))) (y2C hz .nil .here (.cons .h1 .nil) fun w pz ho la=>yn _ _ _ _ _ _ _ _ _ zi1 w pz ((ze2.mono (Zle.left _ _)).mono (Zle.left _ _)) ((ze3.mono (Zle.left _ _)).mono (Zle.left _ _)) ((la _ (.head _) _).stb)) ?_
 refine WD.a (i:=8) (d:=10) (by kernel_rfl) rfl z1 z2 rfl rfl rfl (fun _=>y9 rfl) ?_
 refine WD.e (i:=9) (d:=11) (by kernel_rfl) rfl z1 z2 rfl rfl rfl (y6 yP rfl (y1Q (l:=([zo.fState.fRegs.a0,zo.fState.fRegs.a1,zo.fState.fRegs.a2,zo.fState.fRegs.a3] : List Int)) (f:=Value.int .u8) (k:=2) (m:=6) .h1 rfl rfl zi2)) ?_
 refine WD.a (i:=10) (d:=12) (by kernel_rfl) rfl z1 z2 rfl rfl rfl (fun _=>q_m rfl) ?_
 refine WD.a (i:=11) (d:=13) (by kernel_rfl) rfl z1 z2 rfl rfl rfl (fun _=>y9 rfl) ?_
 refine WD.a (i:=12) (d:=14) (by kernel_rfl) rfl z1 z2 rfl rfl rfl (fun _=>y4 yM rfl rfl) ?_
 refine WD.a (i:=13) (d:=15) (by kernel_rfl) rfl z1 z2 rfl rfl rfl (fun _=>y4 y3L rfl rfl) ?_
 refine WD.e (i:=14) (d:=16) (by kernel_rfl) rfl z1 z2 rfl rfl rfl (y6 yh rfl (yi .h1 rfl)) ?_
 refine WD.call2 (i:=15) (dd:=17) rfl (by kernel_rfl) rfl rfl rfl (.inr rfl) (zm (l:=[.tmp 11,.tmp 16]) Tryd.call111 (.cons rfl (.cons rfl .nil))) .nil (ccz hz .nil .here fun w pz ho=>y7a _ _ _ _ zi3 w pz ) ?_
 rintro zrZ zs0 _
 refine WD.freezeS (ls:=zaE) .here .here hz (RR.yK (enc:=e5) (fun _=>rfl) _) ?_
 intro zi5 ze8 zi6
 refine WD.call4 (i:=16) (dd:=18) rfl (by kernel_rfl) rfl rfl rfl (.inl ⟨rfl,fun _ _ _ _=>(Sin.of .nil)⟩) (zm (l:=[.tmp 2,.const (.int .u8 2),.tmp 17]) Tryd.call110 (.cons rfl (.cons rfl (.cons rfl .nil)))) (.cons .h1 .nil) (ccz hz (.cons .h1 .nil) .here fun w pz ho=>yr _ _ _ _ _ _ _ _ _ _ _ _ zi4 w pz (ze2.mono ((Zle.left _ _).trans ze8)) (ze3.mono ((Zle.left _ _).trans ze8)) zi6 ho) ?_
 rintro zi7 zi8 zi9 zia ⟨zib,zic⟩
 refine WD.done (by kernel_rfl) ?_
 obtain rfl:=Option.some.inj h
 refine WX.yl Tryd.results89 .nil (fun w hw=>?_)
 exact ⟨zi5,zi7,zi8,zi9,zia,y1m,⟨zib,zic⟩,hw.sub (.cons .h1 (.cons .here .nil))⟩
def y2n (zB : Sproc_execution) : Option Sproc_execution :=
 (ym zB 3 []).bind fun ze9=>some ze9
set_option maxRecDepth 20000 in
theorem y4L (Z : Zp) (z43 : Nat) (z6Q : Option Addr) (z6R : Nat) (z6S : Option Addr) (z6T : Nat) (zB : Sproc_execution) (r : Sproc_execution)
  (h : y2n zB = some r) (w₀ : World) (hz : PZ (fps [stb z43 65 [(.int .i64 zB.fState.fPc),(.int .i64 zB.fState.fLeft),(.int .u8 zB.fState.fRegs.a0),(.int .u8 zB.fState.fRegs.a1),(.int .u8 zB.fState.fRegs.a2),(.int .u8 zB.fState.fRegs.a3),(.int .u8 zB.fX.fOp),(.int .i64 zB.fX.fA),(.int .i64 zB.fX.fB),(.int .i64 zB.fX.fC),(.slice z6Q zB.fMem.length z6R),(.int .u8 zB.fAct.fKind),(.int .i64 zB.fAct.fA),(.int .i64 zB.fAct.fB),(.slice z6S zB.fAct.fData.length z6T)]]) w₀ Z)
  (zid : ZS Z 1 (fun r x=>r = e5 x) z6Q z6R zB.fMem)
  (zie : ZS Z 1 (fun r x=>r = e5 x) z6S z6T zB.fAct.fData)
  (hown : Hp (fps [stb z43 65 [(.int .i64 zB.fState.fPc),(.int .i64 zB.fState.fLeft),(.int .u8 zB.fState.fRegs.a0),(.int .u8 zB.fState.fRegs.a1),(.int .u8 zB.fState.fRegs.a2),(.int .u8 zB.fState.fRegs.a3),(.int .u8 zB.fX.fOp),(.int .i64 zB.fX.fA),(.int .i64 zB.fX.fB),(.int .i64 zB.fX.fC),(.slice z6Q zB.fMem.length z6R),(.int .u8 zB.fAct.fKind),(.int .i64 zB.fAct.fA),(.int .i64 zB.fAct.fB),(.slice z6S zB.fAct.fData.length z6T)]]) w₀ w₀ [stb z43 65 [(.int .i64 zB.fState.fPc),(.int .i64 zB.fState.fLeft),(.int .u8 zB.fState.fRegs.a0),(.int .u8 zB.fState.fRegs.a1),(.int .u8 zB.fState.fRegs.a2),(.int .u8 zB.fState.fRegs.a3),(.int .u8 zB.fX.fOp),(.int .i64 zB.fX.fA),(.int .i64 zB.fX.fB),(.int .i64 zB.fX.fC),(.slice z6Q zB.fMem.length z6R),(.int .u8 zB.fAct.fKind),(.int .i64 zB.fAct.fA),(.int .i64 zB.fAct.fB),(.slice z6S zB.fAct.fData.length z6T)]]) :
  Calls Tryd.prog 90 #[(.pointer (some ⟨z43,0,none⟩))] w₀ fun e w'=>∃ zea : Option Addr,∃ zeb : Nat,∃ zec : Option Addr,∃ zed : Nat,e = .returned (.tuple #[]) ∧ ((ZS Z 1 (fun r x=>r = e5 x) zea zeb r.fMem) ∧ (ZS Z 1 (fun r x=>r = e5 x) zec zed r.fAct.fData)) ∧ Hp (fps [stb z43 65 [(.int .i64 zB.fState.fPc),(.int .i64 zB.fState.fLeft),(.int .u8 zB.fState.fRegs.a0),(.int .u8 zB.fState.fRegs.a1),(.int .u8 zB.fState.fRegs.a2),(.int .u8 zB.fState.fRegs.a3),(.int .u8 zB.fX.fOp),(.int .i64 zB.fX.fA),(.int .i64 zB.fX.fB),(.int .i64 zB.fX.fC),(.slice z6Q zB.fMem.length z6R),(.int .u8 zB.fAct.fKind),(.int .i64 zB.fAct.fA),(.int .i64 zB.fAct.fB),(.slice z6S zB.fAct.fData.length z6T)]]) w₀ w' [stb z43 65 [(.int .i64 r.fState.fPc),(.int .i64 r.fState.fLeft),(.int .u8 r.fState.fRegs.a0),(.int .u8 r.fState.fRegs.a1),(.int .u8 r.fState.fRegs.a2),(.int .u8 r.fState.fRegs.a3),(.int .u8 r.fX.fOp),(.int .i64 r.fX.fA),(.int .i64 r.fX.fB),(.int .i64 r.fX.fC),(.slice zea r.fMem.length zeb),(.int .u8 r.fAct.fKind),(.int .i64 r.fAct.fA),(.int .i64 r.fAct.fB),(.slice zec r.fAct.fData.length zed)]]:=by
 unfold y2n at h
 refine Calls.ya (vs:=[(.pointer (some ⟨z43,0,none⟩))]) (pre:=[stb z43 65 [(.int .i64 zB.fState.fPc),(.int .i64 zB.fState.fLeft),(.int .u8 zB.fState.fRegs.a0),(.int .u8 zB.fState.fRegs.a1),(.int .u8 zB.fState.fRegs.a2),(.int .u8 zB.fState.fRegs.a3),(.int .u8 zB.fX.fOp),(.int .i64 zB.fX.fA),(.int .i64 zB.fX.fB),(.int .i64 zB.fX.fC),(.slice z6Q zB.fMem.length z6R),(.int .u8 zB.fAct.fKind),(.int .i64 zB.fAct.fA),(.int .i64 zB.fAct.fB),(.slice z6S zB.fAct.fData.length z6T)]]) (env:=[(0,(.pointer (some ⟨z43,0,none⟩)))]) Tryd.func90 rfl Tryd.ntmps90 rfl (hown) rfl ?_
 obtain ⟨ze9,zif,h⟩:=zd h
 refine WC.a (WL.pu rfl ?_)
 refine WL.yp (dd:=3) rfl rfl rfl (zm (l:=[.tmp 2,.const (.int .u8 3),.const (.slice none 0 0)]) Tryd.call110 (.cons rfl (.cons rfl (.cons rfl .nil)))) (.cons .here .nil) (cc hz (.cons .here .nil) fun w pz ho=>yr _ _ _ _ _ _ _ _ _ _ _ _ zif w pz zid zie (ZS.nil _ _ _) ho) ?_
 rintro zig zih zii zij ⟨zik,zil⟩
 refine WL.nil ?_
 obtain rfl:=Option.some.inj h
 refine WX.yl Tryd.results90 .nil (fun w hw=>?_)
 exact ⟨zig,zih,zii,zij,y1m,⟨zik,zil⟩,hw.sub (.cons .here .nil)⟩
def y2o (zC : Sproc_execution) : Option Sproc_execution :=
 (ym zC 4 []).bind fun zee=>some zee
set_option maxRecDepth 20000 in
theorem y4M (Z : Zp) (z44 : Nat) (z6U : Option Addr) (z6V : Nat) (z6W : Option Addr) (z6X : Nat) (zC : Sproc_execution) (r : Sproc_execution)
  (h : y2o zC = some r) (w₀ : World) (hz : PZ (fps [stb z44 65 [(.int .i64 zC.fState.fPc),(.int .i64 zC.fState.fLeft),(.int .u8 zC.fState.fRegs.a0),(.int .u8 zC.fState.fRegs.a1),(.int .u8 zC.fState.fRegs.a2),(.int .u8 zC.fState.fRegs.a3),(.int .u8 zC.fX.fOp),(.int .i64 zC.fX.fA),(.int .i64 zC.fX.fB),(.int .i64 zC.fX.fC),(.slice z6U zC.fMem.length z6V),(.int .u8 zC.fAct.fKind),(.int .i64 zC.fAct.fA),(.int .i64 zC.fAct.fB),(.slice z6W zC.fAct.fData.length z6X)]]) w₀ Z)
  (zim : ZS Z 1 (fun r x=>r = e5 x) z6U z6V zC.fMem)
  (zin : ZS Z 1 (fun r x=>r = e5 x) z6W z6X zC.fAct.fData)
  (hown : Hp (fps [stb z44 65 [(.int .i64 zC.fState.fPc),(.int .i64 zC.fState.fLeft),(.int .u8 zC.fState.fRegs.a0),(.int .u8 zC.fState.fRegs.a1),(.int .u8 zC.fState.fRegs.a2),(.int .u8 zC.fState.fRegs.a3),(.int .u8 zC.fX.fOp),(.int .i64 zC.fX.fA),(.int .i64 zC.fX.fB),(.int .i64 zC.fX.fC),(.slice z6U zC.fMem.length z6V),(.int .u8 zC.fAct.fKind),(.int .i64 zC.fAct.fA),(.int .i64 zC.fAct.fB),(.slice z6W zC.fAct.fData.length z6X)]]) w₀ w₀ [stb z44 65 [(.int .i64 zC.fState.fPc),(.int .i64 zC.fState.fLeft),(.int .u8 zC.fState.fRegs.a0),(.int .u8 zC.fState.fRegs.a1),(.int .u8 zC.fState.fRegs.a2),(.int .u8 zC.fState.fRegs.a3),(.int .u8 zC.fX.fOp),(.int .i64 zC.fX.fA),(.int .i64 zC.fX.fB),(.int .i64 zC.fX.fC),(.slice z6U zC.fMem.length z6V),(.int .u8 zC.fAct.fKind),(.int .i64 zC.fAct.fA),(.int .i64 zC.fAct.fB),(.slice z6W zC.fAct.fData.length z6X)]]) :
  Calls Tryd.prog 91 #[(.pointer (some ⟨z44,0,none⟩))] w₀ fun e w'=>∃ zef : Option Addr,∃ zeg : Nat,∃ zeh : Option Addr,∃ zei : Nat,e = .returned (.tuple #[]) ∧ ((ZS Z 1 (fun r x=>r = e5 x) zef zeg r.fMem) ∧ (ZS Z 1 (fun r x=>r = e5 x) zeh zei r.fAct.fData)) ∧ Hp (fps [stb z44 65 [(.int .i64 zC.fState.fPc),(.int .i64 zC.fState.fLeft),(.int .u8 zC.fState.fRegs.a0),(.int .u8 zC.fState.fRegs.a1),(.int .u8 zC.fState.fRegs.a2),(.int .u8 zC.fState.fRegs.a3),(.int .u8 zC.fX.fOp),(.int .i64 zC.fX.fA),(.int .i64 zC.fX.fB),(.int .i64 zC.fX.fC),(.slice z6U zC.fMem.length z6V),(.int .u8 zC.fAct.fKind),(.int .i64 zC.fAct.fA),(.int .i64 zC.fAct.fB),(.slice z6W zC.fAct.fData.length z6X)]]) w₀ w' [stb z44 65 [(.int .i64 r.fState.fPc),(.int .i64 r.fState.fLeft),(.int .u8 r.fState.fRegs.a0),(.int .u8 r.fState.fRegs.a1),(.int .u8 r.fState.fRegs.a2),(.int .u8 r.fState.fRegs.a3),(.int .u8 r.fX.fOp),(.int .i64 r.fX.fA),(.int .i64 r.fX.fB),(.int .i64 r.fX.fC),(.slice zef r.fMem.length zeg),(.int .u8 r.fAct.fKind),(.int .i64 r.fAct.fA),(.int .i64 r.fAct.fB),(.slice zeh r.fAct.fData.length zei)]]:=by
 unfold y2o at h
 refine Calls.ya (vs:=[(.pointer (some ⟨z44,0,none⟩))]) (pre:=[stb z44 65 [(.int .i64 zC.fState.fPc),(.int .i64 zC.fState.fLeft),(.int .u8 zC.fState.fRegs.a0),(.int .u8 zC.fState.fRegs.a1),(.int .u8 zC.fState.fRegs.a2),(.int .u8 zC.fState.fRegs.a3),(.int .u8 zC.fX.fOp),(.int .i64 zC.fX.fA),(.int .i64 zC.fX.fB),(.int .i64 zC.fX.fC),(.slice z6U zC.fMem.length z6V),(.int .u8 zC.fAct.fKind),(.int .i64 zC.fAct.fA),(.int .i64 zC.fAct.fB),(.slice z6W zC.fAct.fData.length z6X)]]) (env:=[(0,(.pointer (some ⟨z44,0,none⟩)))]) Tryd.func91 rfl Tryd.ntmps91 rfl (hown) rfl ?_
 obtain ⟨zee,zio,h⟩:=zd h
 refine WC.a (WL.pu rfl ?_)
 refine WL.yp (dd:=3) rfl rfl rfl (zm (l:=[.tmp 2,.const (.int .u8 4),.const (.slice none 0 0)]) Tryd.call110 (.cons rfl (.cons rfl (.cons rfl .nil)))) (.cons .here .nil) (cc hz (.cons .here .nil) fun w pz ho=>yr _ _ _ _ _ _ _ _ _ _ _ _ zio w pz zim zin (ZS.nil _ _ _) ho) ?_
 rintro ziq zir zis zit ⟨ziu,ziv⟩
 refine WL.nil ?_
 obtain rfl:=Option.some.inj h
 refine WX.yl Tryd.results91 .nil (fun w hw=>?_)
 exact ⟨ziq,zir,zis,zit,y1m,⟨ziu,ziv⟩,hw.sub (.cons .here .nil)⟩
def y1W (zD : Sproc_execution) : Option Sproc_execution :=
 (ym zD 5 []).bind fun zej=>some zej
set_option maxRecDepth 20000 in
theorem y4c (Z : Zp) (z45 : Nat) (z6Y : Option Addr) (z6Z : Nat) (z70 : Option Addr) (z71 : Nat) (zD : Sproc_execution) (r : Sproc_execution)
  (h : y1W zD = some r) (w₀ : World) (hz : PZ (fps [stb z45 65 [(.int .i64 zD.fState.fPc),(.int .i64 zD.fState.fLeft),(.int .u8 zD.fState.fRegs.a0),(.int .u8 zD.fState.fRegs.a1),(.int .u8 zD.fState.fRegs.a2),(.int .u8 zD.fState.fRegs.a3),(.int .u8 zD.fX.fOp),(.int .i64 zD.fX.fA),(.int .i64 zD.fX.fB),(.int .i64 zD.fX.fC),(.slice z6Y zD.fMem.length z6Z),(.int .u8 zD.fAct.fKind),(.int .i64 zD.fAct.fA),(.int .i64 zD.fAct.fB),(.slice z70 zD.fAct.fData.length z71)]]) w₀ Z)
  (ziw : ZS Z 1 (fun r x=>r = e5 x) z6Y z6Z zD.fMem)
  (zix : ZS Z 1 (fun r x=>r = e5 x) z70 z71 zD.fAct.fData)
  (hown : Hp (fps [stb z45 65 [(.int .i64 zD.fState.fPc),(.int .i64 zD.fState.fLeft),(.int .u8 zD.fState.fRegs.a0),(.int .u8 zD.fState.fRegs.a1),(.int .u8 zD.fState.fRegs.a2),(.int .u8 zD.fState.fRegs.a3),(.int .u8 zD.fX.fOp),(.int .i64 zD.fX.fA),(.int .i64 zD.fX.fB),(.int .i64 zD.fX.fC),(.slice z6Y zD.fMem.length z6Z),(.int .u8 zD.fAct.fKind),(.int .i64 zD.fAct.fA),(.int .i64 zD.fAct.fB),(.slice z70 zD.fAct.fData.length z71)]]) w₀ w₀ [stb z45 65 [(.int .i64 zD.fState.fPc),(.int .i64 zD.fState.fLeft),(.int .u8 zD.fState.fRegs.a0),(.int .u8 zD.fState.fRegs.a1),(.int .u8 zD.fState.fRegs.a2),(.int .u8 zD.fState.fRegs.a3),(.int .u8 zD.fX.fOp),(.int .i64 zD.fX.fA),(.int .i64 zD.fX.fB),(.int .i64 zD.fX.fC),(.slice z6Y zD.fMem.length z6Z),(.int .u8 zD.fAct.fKind),(.int .i64 zD.fAct.fA),(.int .i64 zD.fAct.fB),(.slice z70 zD.fAct.fData.length z71)]]) :
  Calls Tryd.prog 92 #[(.pointer (some ⟨z45,0,none⟩))] w₀ fun e w'=>∃ zek : Option Addr,∃ zel : Nat,∃ zem : Option Addr,∃ zen : Nat,e = .returned (.tuple #[]) ∧ ((ZS Z 1 (fun r x=>r = e5 x) zek zel r.fMem) ∧ (ZS Z 1 (fun r x=>r = e5 x) zem zen r.fAct.fData)) ∧ Hp (fps [stb z45 65 [(.int .i64 zD.fState.fPc),(.int .i64 zD.fState.fLeft),(.int .u8 zD.fState.fRegs.a0),(.int .u8 zD.fState.fRegs.a1),(.int .u8 zD.fState.fRegs.a2),(.int .u8 zD.fState.fRegs.a3),(.int .u8 zD.fX.fOp),(.int .i64 zD.fX.fA),(.int .i64 zD.fX.fB),(.int .i64 zD.fX.fC),(.slice z6Y zD.fMem.length z6Z),(.int .u8 zD.fAct.fKind),(.int .i64 zD.fAct.fA),(.int .i64 zD.fAct.fB),(.slice z70 zD.fAct.fData.length z71)]]) w₀ w' [stb z45 65 [(.int .i64 r.fState.fPc),(.int .i64 r.fState.fLeft),(.int .u8 r.fState.fRegs.a0),(.int .u8 r.fState.fRegs.a1),(.int .u8 r.fState.fRegs.a2),(.int .u8 r.fState.fRegs.a3),(.int .u8 r.fX.fOp),(.int .i64 r.fX.fA),(.int .i64 r.fX.fB),(.int .i64 r.fX.fC),(.slice zek r.fMem.length zel),(.int .u8 r.fAct.fKind),(.int .i64 r.fAct.fA),(.int .i64 r.fAct.fB),(.slice zem r.fAct.fData.length zen)]]:=by
 unfold y1W at h
 refine Calls.ya (vs:=[(.pointer (some ⟨z45,0,none⟩))]) (pre:=[stb z45 65 [(.int .i64 zD.fState.fPc),(.int .i64 zD.fState.fLeft),(.int .u8 zD.fState.fRegs.a0),(.int .u8 zD.fState.fRegs.a1),(.int .u8 zD.fState.fRegs.a2),(.int .u8 zD.fState.fRegs.a3),(.int .u8 zD.fX.fOp),(.int .i64 zD.fX.fA),(.int .i64 zD.fX.fB),(.int .i64 zD.fX.fC),(.slice z6Y zD.fMem.length z6Z),(.int .u8 zD.fAct.fKind),(.int .i64 zD.fAct.fA),(.int .i64 zD.fAct.fB),(.slice z70 zD.fAct.fData.length z71)]]) (env:=[(0,(.pointer (some ⟨z45,0,none⟩)))]) Tryd.func92 rfl Tryd.ntmps92 rfl (hown) rfl ?_
 obtain ⟨zej,ziy,h⟩:=zd h
 refine WC.a (WL.pu rfl ?_)
 refine WL.yp (dd:=3) rfl rfl rfl (zm (l:=[.tmp 2,.const (.int .u8 5),.const (.slice none 0 0)]) Tryd.call110 (.cons rfl (.cons rfl (.cons rfl .nil)))) (.cons .here .nil) (cc hz (.cons .here .nil) fun w pz ho=>yr _ _ _ _ _ _ _ _ _ _ _ _ ziy w pz ziw zix (ZS.nil _ _ _) ho) ?_
 rintro ziz ziA ziB ziC ⟨ziD,ziE⟩
 refine WL.nil ?_
 obtain rfl:=Option.some.inj h
 refine WX.yl Tryd.results92 .nil (fun w hw=>?_)
 exact ⟨ziz,ziA,ziB,ziC,y1m,⟨ziD,ziE⟩,hw.sub (.cons .here .nil)⟩
def y2a (zE : Sproc_execution) : Option Sproc_execution :=
 (ym zE 6 []).bind fun zeo=>some zeo
set_option maxRecDepth 20000 in
theorem y4s (Z : Zp) (z47 : Nat) (z72 : Option Addr) (z73 : Nat) (z74 : Option Addr) (z75 : Nat) (zE : Sproc_execution) (r : Sproc_execution)
  (h : y2a zE = some r) (w₀ : World) (hz : PZ (fps [stb z47 65 [(.int .i64 zE.fState.fPc),(.int .i64 zE.fState.fLeft),(.int .u8 zE.fState.fRegs.a0),(.int .u8 zE.fState.fRegs.a1),(.int .u8 zE.fState.fRegs.a2),(.int .u8 zE.fState.fRegs.a3),(.int .u8 zE.fX.fOp),(.int .i64 zE.fX.fA),(.int .i64 zE.fX.fB),(.int .i64 zE.fX.fC),(.slice z72 zE.fMem.length z73),(.int .u8 zE.fAct.fKind),(.int .i64 zE.fAct.fA),(.int .i64 zE.fAct.fB),(.slice z74 zE.fAct.fData.length z75)]]) w₀ Z)
  (ziF : ZS Z 1 (fun r x=>r = e5 x) z72 z73 zE.fMem)
  (ziG : ZS Z 1 (fun r x=>r = e5 x) z74 z75 zE.fAct.fData)
  (hown : Hp (fps [stb z47 65 [(.int .i64 zE.fState.fPc),(.int .i64 zE.fState.fLeft),(.int .u8 zE.fState.fRegs.a0),(.int .u8 zE.fState.fRegs.a1),(.int .u8 zE.fState.fRegs.a2),(.int .u8 zE.fState.fRegs.a3),(.int .u8 zE.fX.fOp),(.int .i64 zE.fX.fA),(.int .i64 zE.fX.fB),(.int .i64 zE.fX.fC),(.slice z72 zE.fMem.length z73),(.int .u8 zE.fAct.fKind),(.int .i64 zE.fAct.fA),(.int .i64 zE.fAct.fB),(.slice z74 zE.fAct.fData.length z75)]]) w₀ w₀ [stb z47 65 [(.int .i64 zE.fState.fPc),(.int .i64 zE.fState.fLeft),(.int .u8 zE.fState.fRegs.a0),(.int .u8 zE.fState.fRegs.a1),(.int .u8 zE.fState.fRegs.a2),(.int .u8 zE.fState.fRegs.a3),(.int .u8 zE.fX.fOp),(.int .i64 zE.fX.fA),(.int .i64 zE.fX.fB),(.int .i64 zE.fX.fC),(.slice z72 zE.fMem.length z73),(.int .u8 zE.fAct.fKind),(.int .i64 zE.fAct.fA),(.int .i64 zE.fAct.fB),(.slice z74 zE.fAct.fData.length z75)]]) :
  Calls Tryd.prog 93 #[(.pointer (some ⟨z47,0,none⟩))] w₀ fun e w'=>∃ zep : Option Addr,∃ zeq : Nat,∃ zer : Option Addr,∃ zes : Nat,e = .returned (.tuple #[]) ∧ ((ZS Z 1 (fun r x=>r = e5 x) zep zeq r.fMem) ∧ (ZS Z 1 (fun r x=>r = e5 x) zer zes r.fAct.fData)) ∧ Hp (fps [stb z47 65 [(.int .i64 zE.fState.fPc),(.int .i64 zE.fState.fLeft),(.int .u8 zE.fState.fRegs.a0),(.int .u8 zE.fState.fRegs.a1),(.int .u8 zE.fState.fRegs.a2),(.int .u8 zE.fState.fRegs.a3),(.int .u8 zE.fX.fOp),(.int .i64 zE.fX.fA),(.int .i64 zE.fX.fB),(.int .i64 zE.fX.fC),(.slice z72 zE.fMem.length z73),(.int .u8 zE.fAct.fKind),(.int .i64 zE.fAct.fA),(.int .i64 zE.fAct.fB),(.slice z74 zE.fAct.fData.length z75)]]) w₀ w' [stb z47 65 [(.int .i64 r.fState.fPc),(.int .i64 r.fState.fLeft),(.int .u8 r.fState.fRegs.a0),(.int .u8 r.fState.fRegs.a1),(.int .u8 r.fState.fRegs.a2),(.int .u8 r.fState.fRegs.a3),(.int .u8 r.fX.fOp),(.int .i64 r.fX.fA),(.int .i64 r.fX.fB),(.int .i64 r.fX.fC),(.slice zep r.fMem.length zeq),(.int .u8 r.fAct.fKind),(.int .i64 r.fAct.fA),(.int .i64 r.fAct.fB),(.slice zer r.fAct.fData.length zes)]]:=by
 unfold y2a at h
 refine Calls.ya (vs:=[(.pointer (some ⟨z47,0,none⟩))]) (pre:=[stb z47 65 [(.int .i64 zE.fState.fPc),(.int .i64 zE.fState.fLeft),(.int .u8 zE.fState.fRegs.a0),(.int .u8 zE.fState.fRegs.a1),(.int .u8 zE.fState.fRegs.a2),(.int .u8 zE.fState.fRegs.a3),(.int .u8 zE.fX.fOp),(.int .i64 zE.fX.fA),(.int .i64 zE.fX.fB),(.int .i64 zE.fX.fC),(.slice z72 zE.fMem.length z73),(.int .u8 zE.fAct.fKind),(.int .i64 zE.fAct.fA),(.int .i64 zE.fAct.fB),(.slice z74 zE.fAct.fData.length z75)]]) (env:=[(0,(.pointer (some ⟨z47,0,none⟩)))]) Tryd.func93 rfl Tryd.ntmps93 rfl (hown) rfl ?_
 obtain ⟨zeo,ziH,h⟩:=zd h
 refine WC.a (WL.pu rfl ?_)
 refine WL.yp (dd:=3) rfl rfl rfl (zm (l:=[.tmp 2,.const (.int .u8 6),.const (.slice none 0 0)]) Tryd.call110 (.cons rfl (.cons rfl (.cons rfl .nil)))) (.cons .here .nil) (cc hz (.cons .here .nil) fun w pz ho=>yr _ _ _ _ _ _ _ _ _ _ _ _ ziH w pz ziF ziG (ZS.nil _ _ _) ho) ?_
 rintro ziI ziJ ziK ziL ⟨ziM,ziN⟩
 refine WL.nil ?_
 obtain rfl:=Option.some.inj h
 refine WX.yl Tryd.results93 .nil (fun w hw=>?_)
 exact ⟨ziI,ziJ,ziK,ziL,y1m,⟨ziM,ziN⟩,hw.sub (.cons .here .nil)⟩
def y2b (zF : Sproc_execution) : Option Sproc_execution :=
 (ym zF 7 []).bind fun zet=>some zet
set_option maxRecDepth 20000 in
theorem y4t (Z : Zp) (z48 : Nat) (z76 : Option Addr) (z77 : Nat) (z78 : Option Addr) (z79 : Nat) (zF : Sproc_execution) (r : Sproc_execution)
  (h : y2b zF = some r) (w₀ : World) (hz : PZ (fps [stb z48 65 [(.int .i64 zF.fState.fPc),(.int .i64 zF.fState.fLeft),(.int .u8 zF.fState.fRegs.a0),(.int .u8 zF.fState.fRegs.a1),(.int .u8 zF.fState.fRegs.a2),(.int .u8 zF.fState.fRegs.a3),(.int .u8 zF.fX.fOp),(.int .i64 zF.fX.fA),(.int .i64 zF.fX.fB),(.int .i64 zF.fX.fC),(.slice z76 zF.fMem.length z77),(.int .u8 zF.fAct.fKind),(.int .i64 zF.fAct.fA),(.int .i64 zF.fAct.fB),(.slice z78 zF.fAct.fData.length z79)]]) w₀ Z)
  (ziO : ZS Z 1 (fun r x=>r = e5 x) z76 z77 zF.fMem)
  (ziP : ZS Z 1 (fun r x=>r = e5 x) z78 z79 zF.fAct.fData)
  (hown : Hp (fps [stb z48 65 [(.int .i64 zF.fState.fPc),(.int .i64 zF.fState.fLeft),(.int .u8 zF.fState.fRegs.a0),(.int .u8 zF.fState.fRegs.a1),(.int .u8 zF.fState.fRegs.a2),(.int .u8 zF.fState.fRegs.a3),(.int .u8 zF.fX.fOp),(.int .i64 zF.fX.fA),(.int .i64 zF.fX.fB),(.int .i64 zF.fX.fC),(.slice z76 zF.fMem.length z77),(.int .u8 zF.fAct.fKind),(.int .i64 zF.fAct.fA),(.int .i64 zF.fAct.fB),(.slice z78 zF.fAct.fData.length z79)]]) w₀ w₀ [stb z48 65 [(.int .i64 zF.fState.fPc),(.int .i64 zF.fState.fLeft),(.int .u8 zF.fState.fRegs.a0),(.int .u8 zF.fState.fRegs.a1),(.int .u8 zF.fState.fRegs.a2),(.int .u8 zF.fState.fRegs.a3),(.int .u8 zF.fX.fOp),(.int .i64 zF.fX.fA),(.int .i64 zF.fX.fB),(.int .i64 zF.fX.fC),(.slice z76 zF.fMem.length z77),(.int .u8 zF.fAct.fKind),(.int .i64 zF.fAct.fA),(.int .i64 zF.fAct.fB),(.slice z78 zF.fAct.fData.length z79)]]) :
  Calls Tryd.prog 94 #[(.pointer (some ⟨z48,0,none⟩))] w₀ fun e w'=>∃ zeu : Option Addr,∃ zev : Nat,∃ zew : Option Addr,∃ zex : Nat,e = .returned (.tuple #[]) ∧ ((ZS Z 1 (fun r x=>r = e5 x) zeu zev r.fMem) ∧ (ZS Z 1 (fun r x=>r = e5 x) zew zex r.fAct.fData)) ∧ Hp (fps [stb z48 65 [(.int .i64 zF.fState.fPc),(.int .i64 zF.fState.fLeft),(.int .u8 zF.fState.fRegs.a0),(.int .u8 zF.fState.fRegs.a1),(.int .u8 zF.fState.fRegs.a2),(.int .u8 zF.fState.fRegs.a3),(.int .u8 zF.fX.fOp),(.int .i64 zF.fX.fA),(.int .i64 zF.fX.fB),(.int .i64 zF.fX.fC),(.slice z76 zF.fMem.length z77),(.int .u8 zF.fAct.fKind),(.int .i64 zF.fAct.fA),(.int .i64 zF.fAct.fB),(.slice z78 zF.fAct.fData.length z79)]]) w₀ w' [stb z48 65 [(.int .i64 r.fState.fPc),(.int .i64 r.fState.fLeft),(.int .u8 r.fState.fRegs.a0),(.int .u8 r.fState.fRegs.a1),(.int .u8 r.fState.fRegs.a2),(.int .u8 r.fState.fRegs.a3),(.int .u8 r.fX.fOp),(.int .i64 r.fX.fA),(.int .i64 r.fX.fB),(.int .i64 r.fX.fC),(.slice zeu r.fMem.length zev),(.int .u8 r.fAct.fKind),(.int .i64 r.fAct.fA),(.int .i64 r.fAct.fB),(.slice zew r.fAct.fData.length zex)]]:=by
 unfold y2b at h
 refine Calls.ya (vs:=[(.pointer (some ⟨z48,0,none⟩))]) (pre:=[stb z48 65 [(.int .i64 zF.fState.fPc),(.int .i64 zF.fState.fLeft),(.int .u8 zF.fState.fRegs.a0),(.int .u8 zF.fState.fRegs.a1),(.int .u8 zF.fState.fRegs.a2),(.int .u8 zF.fState.fRegs.a3),(.int .u8 zF.fX.fOp),(.int .i64 zF.fX.fA),(.int .i64 zF.fX.fB),(.int .i64 zF.fX.fC),(.slice z76 zF.fMem.length z77),(.int .u8 zF.fAct.fKind),(.int .i64 zF.fAct.fA),(.int .i64 zF.fAct.fB),(.slice z78 zF.fAct.fData.length z79)]]) (env:=[(0,(.pointer (some ⟨z48,0,none⟩)))]) Tryd.func94 rfl Tryd.ntmps94 rfl (hown) rfl ?_
 obtain ⟨zet,ziQ,h⟩:=zd h
 refine WC.a (WL.pu rfl ?_)
 refine WL.yp (dd:=3) rfl rfl rfl (zm (l:=[.tmp 2,.const (.int .u8 7),.const (.slice none 0 0)]) Tryd.call110 (.cons rfl (.cons rfl (.cons rfl .nil)))) (.cons .here .nil) (cc hz (.cons .here .nil) fun w pz ho=>yr _ _ _ _ _ _ _ _ _ _ _ _ ziQ w pz ziO ziP (ZS.nil _ _ _) ho) ?_
 rintro ziR ziS ziT ziU ⟨ziV,ziW⟩
 refine WL.nil ?_
 obtain rfl:=Option.some.inj h
 refine WX.yl Tryd.results94 .nil (fun w hw=>?_)
 exact ⟨ziR,ziS,ziT,ziU,y1m,⟨ziV,ziW⟩,hw.sub (.cons .here .nil)⟩
def y2c (zG : Sproc_execution) : Option Sproc_execution :=
 (ym zG 8 []).bind fun zey=>some zey
set_option maxRecDepth 20000 in
theorem y4u (Z : Zp) (z49 : Nat) (z7a : Option Addr) (z7b : Nat) (z7c : Option Addr) (z7d : Nat) (zG : Sproc_execution) (r : Sproc_execution)
  (h : y2c zG = some r) (w₀ : World) (hz : PZ (fps [stb z49 65 [(.int .i64 zG.fState.fPc),(.int .i64 zG.fState.fLeft),(.int .u8 zG.fState.fRegs.a0),(.int .u8 zG.fState.fRegs.a1),(.int .u8 zG.fState.fRegs.a2),(.int .u8 zG.fState.fRegs.a3),(.int .u8 zG.fX.fOp),(.int .i64 zG.fX.fA),(.int .i64 zG.fX.fB),(.int .i64 zG.fX.fC),(.slice z7a zG.fMem.length z7b),(.int .u8 zG.fAct.fKind),(.int .i64 zG.fAct.fA),(.int .i64 zG.fAct.fB),(.slice z7c zG.fAct.fData.length z7d)]]) w₀ Z)
  (ziX : ZS Z 1 (fun r x=>r = e5 x) z7a z7b zG.fMem)
  (ziY : ZS Z 1 (fun r x=>r = e5 x) z7c z7d zG.fAct.fData)
  (hown : Hp (fps [stb z49 65 [(.int .i64 zG.fState.fPc),(.int .i64 zG.fState.fLeft),(.int .u8 zG.fState.fRegs.a0),(.int .u8 zG.fState.fRegs.a1),(.int .u8 zG.fState.fRegs.a2),(.int .u8 zG.fState.fRegs.a3),(.int .u8 zG.fX.fOp),(.int .i64 zG.fX.fA),(.int .i64 zG.fX.fB),(.int .i64 zG.fX.fC),(.slice z7a zG.fMem.length z7b),(.int .u8 zG.fAct.fKind),(.int .i64 zG.fAct.fA),(.int .i64 zG.fAct.fB),(.slice z7c zG.fAct.fData.length z7d)]]) w₀ w₀ [stb z49 65 [(.int .i64 zG.fState.fPc),(.int .i64 zG.fState.fLeft),(.int .u8 zG.fState.fRegs.a0),(.int .u8 zG.fState.fRegs.a1),(.int .u8 zG.fState.fRegs.a2),(.int .u8 zG.fState.fRegs.a3),(.int .u8 zG.fX.fOp),(.int .i64 zG.fX.fA),(.int .i64 zG.fX.fB),(.int .i64 zG.fX.fC),(.slice z7a zG.fMem.length z7b),(.int .u8 zG.fAct.fKind),(.int .i64 zG.fAct.fA),(.int .i64 zG.fAct.fB),(.slice z7c zG.fAct.fData.length z7d)]]) :
  Calls Tryd.prog 95 #[(.pointer (some ⟨z49,0,none⟩))] w₀ fun e w'=>∃ zez : Option Addr,∃ zeA : Nat,∃ zeB : Option Addr,∃ zeC : Nat,e = .returned (.tuple #[]) ∧ ((ZS Z 1 (fun r x=>r = e5 x) zez zeA r.fMem) ∧ (ZS Z 1 (fun r x=>r = e5 x) zeB zeC r.fAct.fData)) ∧ Hp (fps [stb z49 65 [(.int .i64 zG.fState.fPc),(.int .i64 zG.fState.fLeft),(.int .u8 zG.fState.fRegs.a0),(.int .u8 zG.fState.fRegs.a1),(.int .u8 zG.fState.fRegs.a2),(.int .u8 zG.fState.fRegs.a3),(.int .u8 zG.fX.fOp),(.int .i64 zG.fX.fA),(.int .i64 zG.fX.fB),(.int .i64 zG.fX.fC),(.slice z7a zG.fMem.length z7b),(.int .u8 zG.fAct.fKind),(.int .i64 zG.fAct.fA),(.int .i64 zG.fAct.fB),(.slice z7c zG.fAct.fData.length z7d)]]) w₀ w' [stb z49 65 [(.int .i64 r.fState.fPc),(.int .i64 r.fState.fLeft),(.int .u8 r.fState.fRegs.a0),(.int .u8 r.fState.fRegs.a1),(.int .u8 r.fState.fRegs.a2),(.int .u8 r.fState.fRegs.a3),(.int .u8 r.fX.fOp),(.int .i64 r.fX.fA),(.int .i64 r.fX.fB),(.int .i64 r.fX.fC),(.slice zez r.fMem.length zeA),(.int .u8 r.fAct.fKind),(.int .i64 r.fAct.fA),(.int .i64 r.fAct.fB),(.slice zeB r.fAct.fData.length zeC)]]:=by
 unfold y2c at h
 refine Calls.ya (vs:=[(.pointer (some ⟨z49,0,none⟩))]) (pre:=[stb z49 65 [(.int .i64 zG.fState.fPc),(.int .i64 zG.fState.fLeft),(.int .u8 zG.fState.fRegs.a0),(.int .u8 zG.fState.fRegs.a1),(.int .u8 zG.fState.fRegs.a2),(.int .u8 zG.fState.fRegs.a3),(.int .u8 zG.fX.fOp),(.int .i64 zG.fX.fA),(.int .i64 zG.fX.fB),(.int .i64 zG.fX.fC),(.slice z7a zG.fMem.length z7b),(.int .u8 zG.fAct.fKind),(.int .i64 zG.fAct.fA),(.int .i64 zG.fAct.fB),(.slice z7c zG.fAct.fData.length z7d)]]) (env:=[(0,(.pointer (some ⟨z49,0,none⟩)))]) Tryd.func95 rfl Tryd.ntmps95 rfl (hown) rfl ?_
 obtain ⟨zey,ziZ,h⟩:=zd h
 refine WC.a (WL.pu rfl ?_)
 refine WL.yp (dd:=3) rfl rfl rfl (zm (l:=[.tmp 2,.const (.int .u8 8),.const (.slice none 0 0)]) Tryd.call110 (.cons rfl (.cons rfl (.cons rfl .nil)))) (.cons .here .nil) (cc hz (.cons .here .nil) fun w pz ho=>yr _ _ _ _ _ _ _ _ _ _ _ _ ziZ w pz ziX ziY (ZS.nil _ _ _) ho) ?_
 rintro zj0 zj1 zj2 zj3 ⟨zj4,zj5⟩
 refine WL.nil ?_
 obtain rfl:=Option.some.inj h
 refine WX.yl Tryd.results95 .nil (fun w hw=>?_)
 exact ⟨zj0,zj1,zj2,zj3,y1m,⟨zj4,zj5⟩,hw.sub (.cons .here .nil)⟩
def y2H (zi : Sproc_execution) : Option Sproc_execution :=
 (yk zi zi.fX.fB).bind fun zj6=>chk ((0 : Int) ≤ zi.fX.fB ∧ zi.fX.fB < 4) ((ym zi 9 ([nth ([zi.fState.fRegs.a0,zi.fState.fRegs.a1,zi.fState.fRegs.a2,zi.fState.fRegs.a3] : List Int) zi.fX.fB] : List Int)).bind fun zeD=>some zeD)
set_option maxRecDepth 20000 in
theorem y5f (Z : Zp) (z4a : Nat) (z7e : Option Addr) (z7f : Nat) (z7g : Option Addr) (z7h : Nat) (zi : Sproc_execution) (r : Sproc_execution)
  (h : y2H zi = some r) (w₀ : World) (hz : PZ (fps [stb z4a 65 [(.int .i64 zi.fState.fPc),(.int .i64 zi.fState.fLeft),(.int .u8 zi.fState.fRegs.a0),(.int .u8 zi.fState.fRegs.a1),(.int .u8 zi.fState.fRegs.a2),(.int .u8 zi.fState.fRegs.a3),(.int .u8 zi.fX.fOp),(.int .i64 zi.fX.fA),(.int .i64 zi.fX.fB),(.int .i64 zi.fX.fC),(.slice z7e zi.fMem.length z7f),(.int .u8 zi.fAct.fKind),(.int .i64 zi.fAct.fA),(.int .i64 zi.fAct.fB),(.slice z7g zi.fAct.fData.length z7h)]]) w₀ Z)
  (zeE : ZS Z 1 (fun r x=>r = e5 x) z7e z7f zi.fMem)
  (zeF : ZS Z 1 (fun r x=>r = e5 x) z7g z7h zi.fAct.fData)
  (hown : Hp (fps [stb z4a 65 [(.int .i64 zi.fState.fPc),(.int .i64 zi.fState.fLeft),(.int .u8 zi.fState.fRegs.a0),(.int .u8 zi.fState.fRegs.a1),(.int .u8 zi.fState.fRegs.a2),(.int .u8 zi.fState.fRegs.a3),(.int .u8 zi.fX.fOp),(.int .i64 zi.fX.fA),(.int .i64 zi.fX.fB),(.int .i64 zi.fX.fC),(.slice z7e zi.fMem.length z7f),(.int .u8 zi.fAct.fKind),(.int .i64 zi.fAct.fA),(.int .i64 zi.fAct.fB),(.slice z7g zi.fAct.fData.length z7h)]]) w₀ w₀ [stb z4a 65 [(.int .i64 zi.fState.fPc),(.int .i64 zi.fState.fLeft),(.int .u8 zi.fState.fRegs.a0),(.int .u8 zi.fState.fRegs.a1),(.int .u8 zi.fState.fRegs.a2),(.int .u8 zi.fState.fRegs.a3),(.int .u8 zi.fX.fOp),(.int .i64 zi.fX.fA),(.int .i64 zi.fX.fB),(.int .i64 zi.fX.fC),(.slice z7e zi.fMem.length z7f),(.int .u8 zi.fAct.fKind),(.int .i64 zi.fAct.fA),(.int .i64 zi.fAct.fB),(.slice z7g zi.fAct.fData.length z7h)]]) :
  Calls Tryd.prog 96 #[(.pointer (some ⟨z4a,0,none⟩))] w₀ fun e w'=>∃ Zn : Zp,∃ zeG : Option Addr,∃ zeH : Nat,∃ zeI : Option Addr,∃ zeJ : Nat,e = .returned (.tuple #[]) ∧ ((ZS (Z ++ Zn) 1 (fun r x=>r = e5 x) zeG zeH r.fMem) ∧ (ZS (Z ++ Zn) 1 (fun r x=>r = e5 x) zeI zeJ r.fAct.fData)) ∧ Hp (fps [stb z4a 65 [(.int .i64 zi.fState.fPc),(.int .i64 zi.fState.fLeft),(.int .u8 zi.fState.fRegs.a0),(.int .u8 zi.fState.fRegs.a1),(.int .u8 zi.fState.fRegs.a2),(.int .u8 zi.fState.fRegs.a3),(.int .u8 zi.fX.fOp),(.int .i64 zi.fX.fA),(.int .i64 zi.fX.fB),(.int .i64 zi.fX.fC),(.slice z7e zi.fMem.length z7f),(.int .u8 zi.fAct.fKind),(.int .i64 zi.fAct.fA),(.int .i64 zi.fAct.fB),(.slice z7g zi.fAct.fData.length z7h)]]) w₀ w' [fz Zn,stb z4a 65 [(.int .i64 r.fState.fPc),(.int .i64 r.fState.fLeft),(.int .u8 r.fState.fRegs.a0),(.int .u8 r.fState.fRegs.a1),(.int .u8 r.fState.fRegs.a2),(.int .u8 r.fState.fRegs.a3),(.int .u8 r.fX.fOp),(.int .i64 r.fX.fA),(.int .i64 r.fX.fB),(.int .i64 r.fX.fC),(.slice zeG r.fMem.length zeH),(.int .u8 r.fAct.fKind),(.int .i64 r.fAct.fA),(.int .i64 r.fAct.fB),(.slice zeI r.fAct.fData.length zeJ)]]:=by
 unfold y2H at h
 refine Calls.ya (vs:=[(.pointer (some ⟨z4a,0,none⟩))]) (pre:=[stb z4a 65 [(.int .i64 zi.fState.fPc),(.int .i64 zi.fState.fLeft),(.int .u8 zi.fState.fRegs.a0),(.int .u8 zi.fState.fRegs.a1),(.int .u8 zi.fState.fRegs.a2),(.int .u8 zi.fState.fRegs.a3),(.int .u8 zi.fX.fOp),(.int .i64 zi.fX.fA),(.int .i64 zi.fX.fB),(.int .i64 zi.fX.fC),(.slice z7e zi.fMem.length z7f),(.int .u8 zi.fAct.fKind),(.int .i64 zi.fAct.fA),(.int .i64 zi.fAct.fB),(.slice z7g zi.fAct.fData.length z7h)]]) (env:=[(0,(.pointer (some ⟨z4a,0,none⟩)))]) Tryd.func96 rfl Tryd.ntmps96 rfl (hown) rfl ?_
 refine WC.pool ?_
 obtain ⟨zj6,zj7,h⟩:=zd h
 obtain ⟨zj8,h⟩:=yb h
 obtain ⟨zeD,zj9,h⟩:=zd h
 refine WC.a (WL.pu rfl (WL.pu rfl (WL.pu rfl ?_)))
 refine WL.a (d:=5) rfl rfl rfl (y9 rfl) ?_
 refine WL.a (d:=6) rfl rfl rfl (y4 yM rfl rfl) ?_
 refine WL.a (d:=7) rfl rfl rfl (y4 y1J rfl rfl) ?_
 refine WL.a (d:=8) rfl rfl rfl (y6 yh rfl (yi .h1 rfl)) ?_
 refine WL.b (dd:=9) rfl rfl rfl (zm (l:=[.tmp 3,.tmp 8]) Tryd.call108 (.cons rfl (.cons rfl .nil))) .nil (y2C hz .nil .here (.cons .h1 .nil) fun w pz ho la=>yn _ _ _ _ _ _ _ _ _ zj7 w pz ((zeE.mono (Zle.left _ _)).mono (Zle.left _ _)) ((zeF.mono (Zle.left _ _)).mono (Zle.left _ _)) ((la _ (.head _) _).stb)) ?_
 refine WL.a (d:=10) rfl rfl rfl (y9 rfl) ?_
 refine WL.a (d:=11) rfl rfl rfl (y6 yP rfl (y1Q (l:=([zi.fState.fRegs.a0,zi.fState.fRegs.a1,zi.fState.fRegs.a2,zi.fState.fRegs.a3] : List Int)) (f:=Value.int .u8) (k:=2) (m:=6) .h1 rfl rfl zj8)) ?_
 refine WL.new (dd:=12) rfl rfl rfl (yo (cs:=([nth ([zi.fState.fRegs.a0,zi.fState.fRegs.a1,zi.fState.fRegs.a2,zi.fState.fRegs.a3] : List Int) zi.fX.fB] : List Int).flatMap e5) y2L (Eos.parts (l:=[.tmp 11]) (.cons rfl .nil) [0]) (fun _=>by kernel_rfl) rfl (by unfold maxLen; omega)) ?_
 intro zs1 _
 refine WL.freezeS (ls:=([nth ([zi.fState.fRegs.a0,zi.fState.fRegs.a1,zi.fState.fRegs.a2,zi.fState.fRegs.a3] : List Int) zi.fX.fB] : List Int)) .here .here hz (RR.yK (enc:=e5) (fun _=>rfl) _) ?_
 intro zja zeK zjb
 refine WL.yp (dd:=13) rfl rfl rfl (zm (l:=[.tmp 2,.const (.int .u8 9),.tmp 12]) Tryd.call110 (.cons rfl (.cons rfl (.cons rfl .nil)))) (.cons .h1 .nil) (ccz hz (.cons .h1 .nil) .here fun w pz ho=>yr _ _ _ _ _ _ _ _ _ _ _ _ zj9 w pz (zeE.mono ((Zle.left _ _).trans zeK)) (zeF.mono ((Zle.left _ _).trans zeK)) zjb ho) ?_
 rintro zjc zjd zje zjf ⟨zjg,zjh⟩
 refine WL.nil ?_
 obtain rfl:=Option.some.inj h
 refine WX.yl Tryd.results96 .nil (fun w hw=>?_)
 exact ⟨zja,zjc,zjd,zje,zjf,y1m,⟨zjg,zjh⟩,hw.sub (.cons .h1 (.cons .here .nil))⟩
def y2I (zH : Sproc_execution) : Option Sproc_execution :=
 (ym zH 10 []).bind fun zeL=>some zeL
set_option maxRecDepth 20000 in
theorem y5g (Z : Zp) (z4b : Nat) (z7i : Option Addr) (z7j : Nat) (z7k : Option Addr) (z7l : Nat) (zH : Sproc_execution) (r : Sproc_execution)
  (h : y2I zH = some r) (w₀ : World) (hz : PZ (fps [stb z4b 65 [(.int .i64 zH.fState.fPc),(.int .i64 zH.fState.fLeft),(.int .u8 zH.fState.fRegs.a0),(.int .u8 zH.fState.fRegs.a1),(.int .u8 zH.fState.fRegs.a2),(.int .u8 zH.fState.fRegs.a3),(.int .u8 zH.fX.fOp),(.int .i64 zH.fX.fA),(.int .i64 zH.fX.fB),(.int .i64 zH.fX.fC),(.slice z7i zH.fMem.length z7j),(.int .u8 zH.fAct.fKind),(.int .i64 zH.fAct.fA),(.int .i64 zH.fAct.fB),(.slice z7k zH.fAct.fData.length z7l)]]) w₀ Z)
  (zji : ZS Z 1 (fun r x=>r = e5 x) z7i z7j zH.fMem)
  (zjj : ZS Z 1 (fun r x=>r = e5 x) z7k z7l zH.fAct.fData)
  (hown : Hp (fps [stb z4b 65 [(.int .i64 zH.fState.fPc),(.int .i64 zH.fState.fLeft),(.int .u8 zH.fState.fRegs.a0),(.int .u8 zH.fState.fRegs.a1),(.int .u8 zH.fState.fRegs.a2),(.int .u8 zH.fState.fRegs.a3),(.int .u8 zH.fX.fOp),(.int .i64 zH.fX.fA),(.int .i64 zH.fX.fB),(.int .i64 zH.fX.fC),(.slice z7i zH.fMem.length z7j),(.int .u8 zH.fAct.fKind),(.int .i64 zH.fAct.fA),(.int .i64 zH.fAct.fB),(.slice z7k zH.fAct.fData.length z7l)]]) w₀ w₀ [stb z4b 65 [(.int .i64 zH.fState.fPc),(.int .i64 zH.fState.fLeft),(.int .u8 zH.fState.fRegs.a0),(.int .u8 zH.fState.fRegs.a1),(.int .u8 zH.fState.fRegs.a2),(.int .u8 zH.fState.fRegs.a3),(.int .u8 zH.fX.fOp),(.int .i64 zH.fX.fA),(.int .i64 zH.fX.fB),(.int .i64 zH.fX.fC),(.slice z7i zH.fMem.length z7j),(.int .u8 zH.fAct.fKind),(.int .i64 zH.fAct.fA),(.int .i64 zH.fAct.fB),(.slice z7k zH.fAct.fData.length z7l)]]) :
  Calls Tryd.prog 97 #[(.pointer (some ⟨z4b,0,none⟩))] w₀ fun e w'=>∃ zeM : Option Addr,∃ zeN : Nat,∃ zeO : Option Addr,∃ zeP : Nat,e = .returned (.tuple #[]) ∧ ((ZS Z 1 (fun r x=>r = e5 x) zeM zeN r.fMem) ∧ (ZS Z 1 (fun r x=>r = e5 x) zeO zeP r.fAct.fData)) ∧ Hp (fps [stb z4b 65 [(.int .i64 zH.fState.fPc),(.int .i64 zH.fState.fLeft),(.int .u8 zH.fState.fRegs.a0),(.int .u8 zH.fState.fRegs.a1),(.int .u8 zH.fState.fRegs.a2),(.int .u8 zH.fState.fRegs.a3),(.int .u8 zH.fX.fOp),(.int .i64 zH.fX.fA),(.int .i64 zH.fX.fB),(.int .i64 zH.fX.fC),(.slice z7i zH.fMem.length z7j),(.int .u8 zH.fAct.fKind),(.int .i64 zH.fAct.fA),(.int .i64 zH.fAct.fB),(.slice z7k zH.fAct.fData.length z7l)]]) w₀ w' [stb z4b 65 [(.int .i64 r.fState.fPc),(.int .i64 r.fState.fLeft),(.int .u8 r.fState.fRegs.a0),(.int .u8 r.fState.fRegs.a1),(.int .u8 r.fState.fRegs.a2),(.int .u8 r.fState.fRegs.a3),(.int .u8 r.fX.fOp),(.int .i64 r.fX.fA),(.int .i64 r.fX.fB),(.int .i64 r.fX.fC),(.slice zeM r.fMem.length zeN),(.int .u8 r.fAct.fKind),(.int .i64 r.fAct.fA),(.int .i64 r.fAct.fB),(.slice zeO r.fAct.fData.length zeP)]]:=by
 unfold y2I at h
 refine Calls.ya (vs:=[(.pointer (some ⟨z4b,0,none⟩))]) (pre:=[stb z4b 65 [(.int .i64 zH.fState.fPc),(.int .i64 zH.fState.fLeft),(.int .u8 zH.fState.fRegs.a0),(.int .u8 zH.fState.fRegs.a1),(.int .u8 zH.fState.fRegs.a2),(.int .u8 zH.fState.fRegs.a3),(.int .u8 zH.fX.fOp),(.int .i64 zH.fX.fA),(.int .i64 zH.fX.fB),(.int .i64 zH.fX.fC),(.slice z7i zH.fMem.length z7j),(.int .u8 zH.fAct.fKind),(.int .i64 zH.fAct.fA),(.int .i64 zH.fAct.fB),(.slice z7k zH.fAct.fData.length z7l)]]) (env:=[(0,(.pointer (some ⟨z4b,0,none⟩)))]) Tryd.func97 rfl Tryd.ntmps97 rfl (hown) rfl ?_
 obtain ⟨zeL,zjk,h⟩:=zd h
 refine WC.a (WL.pu rfl ?_)
 refine WL.yp (dd:=3) rfl rfl rfl (zm (l:=[.tmp 2,.const (.int .u8 10),.const (.slice none 0 0)]) Tryd.call110 (.cons rfl (.cons rfl (.cons rfl .nil)))) (.cons .here .nil) (cc hz (.cons .here .nil) fun w pz ho=>yr _ _ _ _ _ _ _ _ _ _ _ _ zjk w pz zji zjj (ZS.nil _ _ _) ho) ?_
 rintro zjl zjm zjn zjo ⟨zjp,zjq⟩
 refine WL.nil ?_
 obtain rfl:=Option.some.inj h
 refine WX.yl Tryd.results97 .nil (fun w hw=>?_)
 exact ⟨zjl,zjm,zjn,zjo,y1m,⟨zjp,zjq⟩,hw.sub (.cons .here .nil)⟩
def y2p (zj : Sproc_execution) : Option Sproc_execution :=
 (yk zj zj.fX.fB).bind fun zjr=>chk ((0 : Int) ≤ zj.fX.fB ∧ zj.fX.fB < 4) ((ym zj 11 ([nth ([zj.fState.fRegs.a0,zj.fState.fRegs.a1,zj.fState.fRegs.a2,zj.fState.fRegs.a3] : List Int) zj.fX.fB] : List Int)).bind fun zeQ=>some zeQ)
set_option maxRecDepth 20000 in
theorem y4N (Z : Zp) (z4c : Nat) (z7m : Option Addr) (z7n : Nat) (z7o : Option Addr) (z7p : Nat) (zj : Sproc_execution) (r : Sproc_execution)
  (h : y2p zj = some r) (w₀ : World) (hz : PZ (fps [stb z4c 65 [(.int .i64 zj.fState.fPc),(.int .i64 zj.fState.fLeft),(.int .u8 zj.fState.fRegs.a0),(.int .u8 zj.fState.fRegs.a1),(.int .u8 zj.fState.fRegs.a2),(.int .u8 zj.fState.fRegs.a3),(.int .u8 zj.fX.fOp),(.int .i64 zj.fX.fA),(.int .i64 zj.fX.fB),(.int .i64 zj.fX.fC),(.slice z7m zj.fMem.length z7n),(.int .u8 zj.fAct.fKind),(.int .i64 zj.fAct.fA),(.int .i64 zj.fAct.fB),(.slice z7o zj.fAct.fData.length z7p)]]) w₀ Z)
  (zeR : ZS Z 1 (fun r x=>r = e5 x) z7m z7n zj.fMem)
  (zeS : ZS Z 1 (fun r x=>r = e5 x) z7o z7p zj.fAct.fData)
  (hown : Hp (fps [stb z4c 65 [(.int .i64 zj.fState.fPc),(.int .i64 zj.fState.fLeft),(.int .u8 zj.fState.fRegs.a0),(.int .u8 zj.fState.fRegs.a1),(.int .u8 zj.fState.fRegs.a2),(.int .u8 zj.fState.fRegs.a3),(.int .u8 zj.fX.fOp),(.int .i64 zj.fX.fA),(.int .i64 zj.fX.fB),(.int .i64 zj.fX.fC),(.slice z7m zj.fMem.length z7n),(.int .u8 zj.fAct.fKind),(.int .i64 zj.fAct.fA),(.int .i64 zj.fAct.fB),(.slice z7o zj.fAct.fData.length z7p)]]) w₀ w₀ [stb z4c 65 [(.int .i64 zj.fState.fPc),(.int .i64 zj.fState.fLeft),(.int .u8 zj.fState.fRegs.a0),(.int .u8 zj.fState.fRegs.a1),(.int .u8 zj.fState.fRegs.a2),(.int .u8 zj.fState.fRegs.a3),(.int .u8 zj.fX.fOp),(.int .i64 zj.fX.fA),(.int .i64 zj.fX.fB),(.int .i64 zj.fX.fC),(.slice z7m zj.fMem.length z7n),(.int .u8 zj.fAct.fKind),(.int .i64 zj.fAct.fA),(.int .i64 zj.fAct.fB),(.slice z7o zj.fAct.fData.length z7p)]]) :
  Calls Tryd.prog 98 #[(.pointer (some ⟨z4c,0,none⟩))] w₀ fun e w'=>∃ Zn : Zp,∃ zeT : Option Addr,∃ zeU : Nat,∃ zeV : Option Addr,∃ zeW : Nat,e = .returned (.tuple #[]) ∧ ((ZS (Z ++ Zn) 1 (fun r x=>r = e5 x) zeT zeU r.fMem) ∧ (ZS (Z ++ Zn) 1 (fun r x=>r = e5 x) zeV zeW r.fAct.fData)) ∧ Hp (fps [stb z4c 65 [(.int .i64 zj.fState.fPc),(.int .i64 zj.fState.fLeft),(.int .u8 zj.fState.fRegs.a0),(.int .u8 zj.fState.fRegs.a1),(.int .u8 zj.fState.fRegs.a2),(.int .u8 zj.fState.fRegs.a3),(.int .u8 zj.fX.fOp),(.int .i64 zj.fX.fA),(.int .i64 zj.fX.fB),(.int .i64 zj.fX.fC),(.slice z7m zj.fMem.length z7n),(.int .u8 zj.fAct.fKind),(.int .i64 zj.fAct.fA),(.int .i64 zj.fAct.fB),(.slice z7o zj.fAct.fData.length z7p)]]) w₀ w' [fz Zn,stb z4c 65 [(.int .i64 r.fState.fPc),(.int .i64 r.fState.fLeft),(.int .u8 r.fState.fRegs.a0),(.int .u8 r.fState.fRegs.a1),(.int .u8 r.fState.fRegs.a2),(.int .u8 r.fState.fRegs.a3),(.int .u8 r.fX.fOp),(.int .i64 r.fX.fA),(.int .i64 r.fX.fB),(.int .i64 r.fX.fC),(.slice zeT r.fMem.length zeU),(.int .u8 r.fAct.fKind),(.int .i64 r.fAct.fA),(.int .i64 r.fAct.fB),(.slice zeV r.fAct.fData.length zeW)]]:=by
 unfold y2p at h
 refine Calls.ya (vs:=[(.pointer (some ⟨z4c,0,none⟩))]) (pre:=[stb z4c 65 [(.int .i64 zj.fState.fPc),(.int .i64 zj.fState.fLeft),(.int .u8 zj.fState.fRegs.a0),(.int .u8 zj.fState.fRegs.a1),(.int .u8 zj.fState.fRegs.a2),(.int .u8 zj.fState.fRegs.a3),(.int .u8 zj.fX.fOp),(.int .i64 zj.fX.fA),(.int .i64 zj.fX.fB),(.int .i64 zj.fX.fC),(.slice z7m zj.fMem.length z7n),(.int .u8 zj.fAct.fKind),(.int .i64 zj.fAct.fA),(.int .i64 zj.fAct.fB),(.slice z7o zj.fAct.fData.length z7p)]]) (env:=[(0,(.pointer (some ⟨z4c,0,none⟩)))]) Tryd.func98 rfl Tryd.ntmps98 rfl (hown) rfl ?_
 refine WC.pool ?_
 obtain ⟨zjr,zjs,h⟩:=zd h
 obtain ⟨zjt,h⟩:=yb h
 obtain ⟨zeQ,zju,h⟩:=zd h
 refine WC.a (WL.pu rfl (WL.pu rfl (WL.pu rfl ?_)))
 refine WL.a (d:=5) rfl rfl rfl (y9 rfl) ?_
 refine WL.a (d:=6) rfl rfl rfl (y4 yM rfl rfl) ?_
 refine WL.a (d:=7) rfl rfl rfl (y4 y1J rfl rfl) ?_
 refine WL.a (d:=8) rfl rfl rfl (y6 yh rfl (yi .h1 rfl)) ?_
 refine WL.b (dd:=9) rfl rfl rfl (zm (l:=[.tmp 3,.tmp 8]) Tryd.call108 (.cons rfl (.cons rfl .nil))) .nil (y2C hz .nil .here (.cons .h1 .nil) fun w pz ho la=>yn _ _ _ _ _ _ _ _ _ zjs w pz ((zeR.mono (Zle.left _ _)).mono (Zle.left _ _)) ((zeS.mono (Zle.left _ _)).mono (Zle.left _ _)) ((la _ (.head _) _).stb)) ?_
 refine WL.a (d:=10) rfl rfl rfl (y9 rfl) ?_
 refine WL.a (d:=11) rfl rfl rfl (y6 yP rfl (y1Q (l:=([zj.fState.fRegs.a0,zj.fState.fRegs.a1,zj.fState.fRegs.a2,zj.fState.fRegs.a3] : List Int)) (f:=Value.int .u8) (k:=2) (m:=6) .h1 rfl rfl zjt)) ?_
 refine WL.new (dd:=12) rfl rfl rfl (yo (cs:=([nth ([zj.fState.fRegs.a0,zj.fState.fRegs.a1,zj.fState.fRegs.a2,zj.fState.fRegs.a3] : List Int) zj.fX.fB] : List Int).flatMap e5) y2L (Eos.parts (l:=[.tmp 11]) (.cons rfl .nil) [0]) (fun _=>by kernel_rfl) rfl (by unfold maxLen; omega)) ?_
 intro zs2 _
 refine WL.freezeS (ls:=([nth ([zj.fState.fRegs.a0,zj.fState.fRegs.a1,zj.fState.fRegs.a2,zj.fState.fRegs.a3] : List Int) zj.fX.fB] : List Int)) .here .here hz (RR.yK (enc:=e5) (fun _=>rfl) _) ?_
 intro zjv zeX zjw
 refine WL.yp (dd:=13) rfl rfl rfl (zm (l:=[.tmp 2,.const (.int .u8 11),.tmp 12]) Tryd.call110 (.cons rfl (.cons rfl (.cons rfl .nil)))) (.cons .h1 .nil) (ccz hz (.cons .h1 .nil) .here fun w pz ho=>yr _ _ _ _ _ _ _ _ _ _ _ _ zju w pz (zeR.mono ((Zle.left _ _).trans zeX)) (zeS.mono ((Zle.left _ _).trans zeX)) zjw ho) ?_
 rintro zjx zjy zjz zjA ⟨zjB,zjC⟩
 refine WL.nil ?_
 obtain rfl:=Option.some.inj h
 refine WX.yl Tryd.results98 .nil (fun w hw=>?_)
 exact ⟨zjv,zjx,zjy,zjz,zjA,y1m,⟨zjB,zjC⟩,hw.sub (.cons .h1 (.cons .here .nil))⟩
def y2q (zI : Sproc_execution) : Option Sproc_execution :=
 (ym zI 12 []).bind fun zeY=>some zeY
set_option maxRecDepth 20000 in
theorem y4O (Z : Zp) (z4d : Nat) (z7q : Option Addr) (z7r : Nat) (z7s : Option Addr) (z7t : Nat) (zI : Sproc_execution) (r : Sproc_execution)
  (h : y2q zI = some r) (w₀ : World) (hz : PZ (fps [stb z4d 65 [(.int .i64 zI.fState.fPc),(.int .i64 zI.fState.fLeft),(.int .u8 zI.fState.fRegs.a0),(.int .u8 zI.fState.fRegs.a1),(.int .u8 zI.fState.fRegs.a2),(.int .u8 zI.fState.fRegs.a3),(.int .u8 zI.fX.fOp),(.int .i64 zI.fX.fA),(.int .i64 zI.fX.fB),(.int .i64 zI.fX.fC),(.slice z7q zI.fMem.length z7r),(.int .u8 zI.fAct.fKind),(.int .i64 zI.fAct.fA),(.int .i64 zI.fAct.fB),(.slice z7s zI.fAct.fData.length z7t)]]) w₀ Z)
  (zjD : ZS Z 1 (fun r x=>r = e5 x) z7q z7r zI.fMem)
  (zjE : ZS Z 1 (fun r x=>r = e5 x) z7s z7t zI.fAct.fData)
  (hown : Hp (fps [stb z4d 65 [(.int .i64 zI.fState.fPc),(.int .i64 zI.fState.fLeft),(.int .u8 zI.fState.fRegs.a0),(.int .u8 zI.fState.fRegs.a1),(.int .u8 zI.fState.fRegs.a2),(.int .u8 zI.fState.fRegs.a3),(.int .u8 zI.fX.fOp),(.int .i64 zI.fX.fA),(.int .i64 zI.fX.fB),(.int .i64 zI.fX.fC),(.slice z7q zI.fMem.length z7r),(.int .u8 zI.fAct.fKind),(.int .i64 zI.fAct.fA),(.int .i64 zI.fAct.fB),(.slice z7s zI.fAct.fData.length z7t)]]) w₀ w₀ [stb z4d 65 [(.int .i64 zI.fState.fPc),(.int .i64 zI.fState.fLeft),(.int .u8 zI.fState.fRegs.a0),(.int .u8 zI.fState.fRegs.a1),(.int .u8 zI.fState.fRegs.a2),(.int .u8 zI.fState.fRegs.a3),(.int .u8 zI.fX.fOp),(.int .i64 zI.fX.fA),(.int .i64 zI.fX.fB),(.int .i64 zI.fX.fC),(.slice z7q zI.fMem.length z7r),(.int .u8 zI.fAct.fKind),(.int .i64 zI.fAct.fA),(.int .i64 zI.fAct.fB),(.slice z7s zI.fAct.fData.length z7t)]]) :
  Calls Tryd.prog 99 #[(.pointer (some ⟨z4d,0,none⟩))] w₀ fun e w'=>∃ zeZ : Option Addr,∃ zf0 : Nat,∃ zf1 : Option Addr,∃ zf2 : Nat,e = .returned (.tuple #[]) ∧ ((ZS Z 1 (fun r x=>r = e5 x) zeZ zf0 r.fMem) ∧ (ZS Z 1 (fun r x=>r = e5 x) zf1 zf2 r.fAct.fData)) ∧ Hp (fps [stb z4d 65 [(.int .i64 zI.fState.fPc),(.int .i64 zI.fState.fLeft),(.int .u8 zI.fState.fRegs.a0),(.int .u8 zI.fState.fRegs.a1),(.int .u8 zI.fState.fRegs.a2),(.int .u8 zI.fState.fRegs.a3),(.int .u8 zI.fX.fOp),(.int .i64 zI.fX.fA),(.int .i64 zI.fX.fB),(.int .i64 zI.fX.fC),(.slice z7q zI.fMem.length z7r),(.int .u8 zI.fAct.fKind),(.int .i64 zI.fAct.fA),(.int .i64 zI.fAct.fB),(.slice z7s zI.fAct.fData.length z7t)]]) w₀ w' [stb z4d 65 [(.int .i64 r.fState.fPc),(.int .i64 r.fState.fLeft),(.int .u8 r.fState.fRegs.a0),(.int .u8 r.fState.fRegs.a1),(.int .u8 r.fState.fRegs.a2),(.int .u8 r.fState.fRegs.a3),(.int .u8 r.fX.fOp),(.int .i64 r.fX.fA),(.int .i64 r.fX.fB),(.int .i64 r.fX.fC),(.slice zeZ r.fMem.length zf0),(.int .u8 r.fAct.fKind),(.int .i64 r.fAct.fA),(.int .i64 r.fAct.fB),(.slice zf1 r.fAct.fData.length zf2)]]:=by
 unfold y2q at h
 refine Calls.ya (vs:=[(.pointer (some ⟨z4d,0,none⟩))]) (pre:=[stb z4d 65 [(.int .i64 zI.fState.fPc),(.int .i64 zI.fState.fLeft),(.int .u8 zI.fState.fRegs.a0),(.int .u8 zI.fState.fRegs.a1),(.int .u8 zI.fState.fRegs.a2),(.int .u8 zI.fState.fRegs.a3),(.int .u8 zI.fX.fOp),(.int .i64 zI.fX.fA),(.int .i64 zI.fX.fB),(.int .i64 zI.fX.fC),(.slice z7q zI.fMem.length z7r),(.int .u8 zI.fAct.fKind),(.int .i64 zI.fAct.fA),(.int .i64 zI.fAct.fB),(.slice z7s zI.fAct.fData.length z7t)]]) (env:=[(0,(.pointer (some ⟨z4d,0,none⟩)))]) Tryd.func99 rfl Tryd.ntmps99 rfl (hown) rfl ?_
 obtain ⟨zeY,zjF,h⟩:=zd h
 refine WC.a (WL.pu rfl ?_)
 refine WL.yp (dd:=3) rfl rfl rfl (zm (l:=[.tmp 2,.const (.int .u8 12),.const (.slice none 0 0)]) Tryd.call110 (.cons rfl (.cons rfl (.cons rfl .nil)))) (.cons .here .nil) (cc hz (.cons .here .nil) fun w pz ho=>yr _ _ _ _ _ _ _ _ _ _ _ _ zjF w pz zjD zjE (ZS.nil _ _ _) ho) ?_
 rintro zjG zjH zjI zjJ ⟨zjK,zjL⟩
 refine WL.nil ?_
 obtain rfl:=Option.some.inj h
 refine WX.yl Tryd.results99 .nil (fun w hw=>?_)
 exact ⟨zjG,zjH,zjI,zjJ,y1m,⟨zjK,zjL⟩,hw.sub (.cons .here .nil)⟩
def y2d (zJ : Sproc_execution) : Option Sproc_execution :=
 (ym zJ 13 []).bind fun zf3=>some zf3
set_option maxRecDepth 20000 in
theorem y4v (Z : Zp) (z4e : Nat) (z7u : Option Addr) (z7v : Nat) (z7w : Option Addr) (z7x : Nat) (zJ : Sproc_execution) (r : Sproc_execution)
  (h : y2d zJ = some r) (w₀ : World) (hz : PZ (fps [stb z4e 65 [(.int .i64 zJ.fState.fPc),(.int .i64 zJ.fState.fLeft),(.int .u8 zJ.fState.fRegs.a0),(.int .u8 zJ.fState.fRegs.a1),(.int .u8 zJ.fState.fRegs.a2),(.int .u8 zJ.fState.fRegs.a3),(.int .u8 zJ.fX.fOp),(.int .i64 zJ.fX.fA),(.int .i64 zJ.fX.fB),(.int .i64 zJ.fX.fC),(.slice z7u zJ.fMem.length z7v),(.int .u8 zJ.fAct.fKind),(.int .i64 zJ.fAct.fA),(.int .i64 zJ.fAct.fB),(.slice z7w zJ.fAct.fData.length z7x)]]) w₀ Z)
  (zjM : ZS Z 1 (fun r x=>r = e5 x) z7u z7v zJ.fMem)
  (zjN : ZS Z 1 (fun r x=>r = e5 x) z7w z7x zJ.fAct.fData)
  (hown : Hp (fps [stb z4e 65 [(.int .i64 zJ.fState.fPc),(.int .i64 zJ.fState.fLeft),(.int .u8 zJ.fState.fRegs.a0),(.int .u8 zJ.fState.fRegs.a1),(.int .u8 zJ.fState.fRegs.a2),(.int .u8 zJ.fState.fRegs.a3),(.int .u8 zJ.fX.fOp),(.int .i64 zJ.fX.fA),(.int .i64 zJ.fX.fB),(.int .i64 zJ.fX.fC),(.slice z7u zJ.fMem.length z7v),(.int .u8 zJ.fAct.fKind),(.int .i64 zJ.fAct.fA),(.int .i64 zJ.fAct.fB),(.slice z7w zJ.fAct.fData.length z7x)]]) w₀ w₀ [stb z4e 65 [(.int .i64 zJ.fState.fPc),(.int .i64 zJ.fState.fLeft),(.int .u8 zJ.fState.fRegs.a0),(.int .u8 zJ.fState.fRegs.a1),(.int .u8 zJ.fState.fRegs.a2),(.int .u8 zJ.fState.fRegs.a3),(.int .u8 zJ.fX.fOp),(.int .i64 zJ.fX.fA),(.int .i64 zJ.fX.fB),(.int .i64 zJ.fX.fC),(.slice z7u zJ.fMem.length z7v),(.int .u8 zJ.fAct.fKind),(.int .i64 zJ.fAct.fA),(.int .i64 zJ.fAct.fB),(.slice z7w zJ.fAct.fData.length z7x)]]) :
  Calls Tryd.prog 100 #[(.pointer (some ⟨z4e,0,none⟩))] w₀ fun e w'=>∃ zf4 : Option Addr,∃ zf5 : Nat,∃ zf6 : Option Addr,∃ zf7 : Nat,e = .returned (.tuple #[]) ∧ ((ZS Z 1 (fun r x=>r = e5 x) zf4 zf5 r.fMem) ∧ (ZS Z 1 (fun r x=>r = e5 x) zf6 zf7 r.fAct.fData)) ∧ Hp (fps [stb z4e 65 [(.int .i64 zJ.fState.fPc),(.int .i64 zJ.fState.fLeft),(.int .u8 zJ.fState.fRegs.a0),(.int .u8 zJ.fState.fRegs.a1),(.int .u8 zJ.fState.fRegs.a2),(.int .u8 zJ.fState.fRegs.a3),(.int .u8 zJ.fX.fOp),(.int .i64 zJ.fX.fA),(.int .i64 zJ.fX.fB),(.int .i64 zJ.fX.fC),(.slice z7u zJ.fMem.length z7v),(.int .u8 zJ.fAct.fKind),(.int .i64 zJ.fAct.fA),(.int .i64 zJ.fAct.fB),(.slice z7w zJ.fAct.fData.length z7x)]]) w₀ w' [stb z4e 65 [(.int .i64 r.fState.fPc),(.int .i64 r.fState.fLeft),(.int .u8 r.fState.fRegs.a0),(.int .u8 r.fState.fRegs.a1),(.int .u8 r.fState.fRegs.a2),(.int .u8 r.fState.fRegs.a3),(.int .u8 r.fX.fOp),(.int .i64 r.fX.fA),(.int .i64 r.fX.fB),(.int .i64 r.fX.fC),(.slice zf4 r.fMem.length zf5),(.int .u8 r.fAct.fKind),(.int .i64 r.fAct.fA),(.int .i64 r.fAct.fB),(.slice zf6 r.fAct.fData.length zf7)]]:=by
 unfold y2d at h
 refine Calls.ya (vs:=[(.pointer (some ⟨z4e,0,none⟩))]) (pre:=[stb z4e 65 [(.int .i64 zJ.fState.fPc),(.int .i64 zJ.fState.fLeft),(.int .u8 zJ.fState.fRegs.a0),(.int .u8 zJ.fState.fRegs.a1),(.int .u8 zJ.fState.fRegs.a2),(.int .u8 zJ.fState.fRegs.a3),(.int .u8 zJ.fX.fOp),(.int .i64 zJ.fX.fA),(.int .i64 zJ.fX.fB),(.int .i64 zJ.fX.fC),(.slice z7u zJ.fMem.length z7v),(.int .u8 zJ.fAct.fKind),(.int .i64 zJ.fAct.fA),(.int .i64 zJ.fAct.fB),(.slice z7w zJ.fAct.fData.length z7x)]]) (env:=[(0,(.pointer (some ⟨z4e,0,none⟩)))]) Tryd.func100 rfl Tryd.ntmps100 rfl (hown) rfl ?_
 obtain ⟨zf3,zjO,h⟩:=zd h
 refine WC.a (WL.pu rfl ?_)
 refine WL.yp (dd:=3) rfl rfl rfl (zm (l:=[.tmp 2,.const (.int .u8 13),.const (.slice none 0 0)]) Tryd.call110 (.cons rfl (.cons rfl (.cons rfl .nil)))) (.cons .here .nil) (cc hz (.cons .here .nil) fun w pz ho=>yr _ _ _ _ _ _ _ _ _ _ _ _ zjO w pz zjM zjN (ZS.nil _ _ _) ho) ?_
 rintro zjP zjQ zjR zjS ⟨zjT,zjU⟩
 refine WL.nil ?_
 obtain rfl:=Option.some.inj h
 refine WX.yl Tryd.results100 .nil (fun w hw=>?_)
 exact ⟨zjP,zjQ,zjR,zjS,y1m,⟨zjT,zjU⟩,hw.sub (.cons .here .nil)⟩
def y2r (zq : Sproc_execution) : Option Sproc_execution :=
 some (⟨zq.fState,zq.fX,zq.fMem,(⟨14,0,0,([] : List Int)⟩ : Sproc_Act)⟩ : Sproc_execution)
set_option maxRecDepth 20000 in
theorem y4P (Z : Zp) (z4f : Nat) (z5l : Option Addr) (z5m : Nat) (z7y : Option Addr) (z7z : Nat) (zq : Sproc_execution) (r : Sproc_execution)
  (h : y2r zq = some r) (w₀ : World) (hz : PZ (fps [stb z4f 65 [(.int .i64 zq.fState.fPc),(.int .i64 zq.fState.fLeft),(.int .u8 zq.fState.fRegs.a0),(.int .u8 zq.fState.fRegs.a1),(.int .u8 zq.fState.fRegs.a2),(.int .u8 zq.fState.fRegs.a3),(.int .u8 zq.fX.fOp),(.int .i64 zq.fX.fA),(.int .i64 zq.fX.fB),(.int .i64 zq.fX.fC),(.slice z5l zq.fMem.length z5m),(.int .u8 zq.fAct.fKind),(.int .i64 zq.fAct.fA),(.int .i64 zq.fAct.fB),(.slice z7y zq.fAct.fData.length z7z)]]) w₀ Z)
  (zjV : ZS Z 1 (fun r x=>r = e5 x) z5l z5m zq.fMem)
  (zs3 : ZS Z 1 (fun r x=>r = e5 x) z7y z7z zq.fAct.fData)
  (hown : Hp (fps [stb z4f 65 [(.int .i64 zq.fState.fPc),(.int .i64 zq.fState.fLeft),(.int .u8 zq.fState.fRegs.a0),(.int .u8 zq.fState.fRegs.a1),(.int .u8 zq.fState.fRegs.a2),(.int .u8 zq.fState.fRegs.a3),(.int .u8 zq.fX.fOp),(.int .i64 zq.fX.fA),(.int .i64 zq.fX.fB),(.int .i64 zq.fX.fC),(.slice z5l zq.fMem.length z5m),(.int .u8 zq.fAct.fKind),(.int .i64 zq.fAct.fA),(.int .i64 zq.fAct.fB),(.slice z7y zq.fAct.fData.length z7z)]]) w₀ w₀ [stb z4f 65 [(.int .i64 zq.fState.fPc),(.int .i64 zq.fState.fLeft),(.int .u8 zq.fState.fRegs.a0),(.int .u8 zq.fState.fRegs.a1),(.int .u8 zq.fState.fRegs.a2),(.int .u8 zq.fState.fRegs.a3),(.int .u8 zq.fX.fOp),(.int .i64 zq.fX.fA),(.int .i64 zq.fX.fB),(.int .i64 zq.fX.fC),(.slice z5l zq.fMem.length z5m),(.int .u8 zq.fAct.fKind),(.int .i64 zq.fAct.fA),(.int .i64 zq.fAct.fB),(.slice z7y zq.fAct.fData.length z7z)]]) :
  Calls Tryd.prog 101 #[(.pointer (some ⟨z4f,0,none⟩))] w₀ fun e w'=>∃ zf8 : Option Addr,∃ zf9 : Nat,∃ zfa : Option Addr,∃ zfb : Nat,e = .returned (.tuple #[]) ∧ (ZS Z 1 (fun r x=>r = e5 x) zf8 zf9 r.fMem) ∧ Hp (fps [stb z4f 65 [(.int .i64 zq.fState.fPc),(.int .i64 zq.fState.fLeft),(.int .u8 zq.fState.fRegs.a0),(.int .u8 zq.fState.fRegs.a1),(.int .u8 zq.fState.fRegs.a2),(.int .u8 zq.fState.fRegs.a3),(.int .u8 zq.fX.fOp),(.int .i64 zq.fX.fA),(.int .i64 zq.fX.fB),(.int .i64 zq.fX.fC),(.slice z5l zq.fMem.length z5m),(.int .u8 zq.fAct.fKind),(.int .i64 zq.fAct.fA),(.int .i64 zq.fAct.fB),(.slice z7y zq.fAct.fData.length z7z)]]) w₀ w' [stb z4f 65 [(.int .i64 r.fState.fPc),(.int .i64 r.fState.fLeft),(.int .u8 r.fState.fRegs.a0),(.int .u8 r.fState.fRegs.a1),(.int .u8 r.fState.fRegs.a2),(.int .u8 r.fState.fRegs.a3),(.int .u8 r.fX.fOp),(.int .i64 r.fX.fA),(.int .i64 r.fX.fB),(.int .i64 r.fX.fC),(.slice zf8 r.fMem.length zf9),(.int .u8 r.fAct.fKind),(.int .i64 r.fAct.fA),(.int .i64 r.fAct.fB),(.slice zfa r.fAct.fData.length zfb)],row (.slice zfa r.fAct.fData.length zfb) 5 1 (r.fAct.fData.flatMap e5)]:=by
 unfold y2r at h
 refine Calls.ya (vs:=[(.pointer (some ⟨z4f,0,none⟩))]) (pre:=[stb z4f 65 [(.int .i64 zq.fState.fPc),(.int .i64 zq.fState.fLeft),(.int .u8 zq.fState.fRegs.a0),(.int .u8 zq.fState.fRegs.a1),(.int .u8 zq.fState.fRegs.a2),(.int .u8 zq.fState.fRegs.a3),(.int .u8 zq.fX.fOp),(.int .i64 zq.fX.fA),(.int .i64 zq.fX.fB),(.int .i64 zq.fX.fC),(.slice z5l zq.fMem.length z5m),(.int .u8 zq.fAct.fKind),(.int .i64 zq.fAct.fA),(.int .i64 zq.fAct.fB),(.slice z7y zq.fAct.fData.length z7z)]]) (env:=[(0,(.pointer (some ⟨z4f,0,none⟩)))]) Tryd.func101 rfl Tryd.ntmps101 rfl (hown) rfl ?_
 refine WC.a (WL.pu rfl ?_)
 refine WL.a (d:=3) rfl rfl rfl (y1b (v:=(.agg #[(.int .u8 14),(.int .i64 0),(.int .i64 0),(.slice none 0 0)])) (Eos.parts (l:=[.const (.int .u8 14)]) (.cons rfl .nil) [0]) (fun _=>by kernel_rfl)) ?_
 refine WL.a (d:=4) rfl rfl rfl (y9 rfl) ?_
 refine WL.a (d:=5) rfl rfl rfl (y4 y3Y rfl rfl) ?_
 refine WL.yq rfl rfl (y1E (ds:=[(.int .i64 zq.fState.fPc),(.int .i64 zq.fState.fLeft),(.int .u8 zq.fState.fRegs.a0),(.int .u8 zq.fState.fRegs.a1),(.int .u8 zq.fState.fRegs.a2),(.int .u8 zq.fState.fRegs.a3),(.int .u8 zq.fX.fOp),(.int .i64 zq.fX.fA),(.int .i64 zq.fX.fB),(.int .i64 zq.fX.fC),(.slice z5l zq.fMem.length z5m),(.int .u8 14),(.int .i64 0),(.int .i64 0),(.slice none 0 0)]) y1X rfl rfl rfl rfl rfl .here rfl rfl) ?_
 refine WL.nil ?_
 refine WX.nilRow 5 1 ?_
 obtain rfl:=Option.some.inj h
 refine WX.yl Tryd.results101 .nil (fun w hw=>?_)
 exact ⟨z5l,z5m,none,0,y1m,zjV,hw.sub (.cons .h1 (.cons .here .nil))⟩
def y2s (zl : Sproc_execution) : Option Sproc_execution :=
 some (⟨(⟨zl.fX.fA,zl.fState.fLeft,zl.fState.fRegs⟩ : Sproc_State),zl.fX,zl.fMem,zl.fAct⟩ : Sproc_execution)
set_option maxRecDepth 20000 in
theorem y4Q (Z : Zp) (z4g : Nat) (z5n : Option Addr) (z5o : Nat) (z5p : Option Addr) (z5q : Nat) (zl : Sproc_execution) (r : Sproc_execution)
  (h : y2s zl = some r) (w₀ : World) (hz : PZ (fps [stb z4g 65 [(.int .i64 zl.fState.fPc),(.int .i64 zl.fState.fLeft),(.int .u8 zl.fState.fRegs.a0),(.int .u8 zl.fState.fRegs.a1),(.int .u8 zl.fState.fRegs.a2),(.int .u8 zl.fState.fRegs.a3),(.int .u8 zl.fX.fOp),(.int .i64 zl.fX.fA),(.int .i64 zl.fX.fB),(.int .i64 zl.fX.fC),(.slice z5n zl.fMem.length z5o),(.int .u8 zl.fAct.fKind),(.int .i64 zl.fAct.fA),(.int .i64 zl.fAct.fB),(.slice z5p zl.fAct.fData.length z5q)]]) w₀ Z)
  (zjW : ZS Z 1 (fun r x=>r = e5 x) z5n z5o zl.fMem)
  (zjX : ZS Z 1 (fun r x=>r = e5 x) z5p z5q zl.fAct.fData)
  (hown : Hp (fps [stb z4g 65 [(.int .i64 zl.fState.fPc),(.int .i64 zl.fState.fLeft),(.int .u8 zl.fState.fRegs.a0),(.int .u8 zl.fState.fRegs.a1),(.int .u8 zl.fState.fRegs.a2),(.int .u8 zl.fState.fRegs.a3),(.int .u8 zl.fX.fOp),(.int .i64 zl.fX.fA),(.int .i64 zl.fX.fB),(.int .i64 zl.fX.fC),(.slice z5n zl.fMem.length z5o),(.int .u8 zl.fAct.fKind),(.int .i64 zl.fAct.fA),(.int .i64 zl.fAct.fB),(.slice z5p zl.fAct.fData.length z5q)]]) w₀ w₀ [stb z4g 65 [(.int .i64 zl.fState.fPc),(.int .i64 zl.fState.fLeft),(.int .u8 zl.fState.fRegs.a0),(.int .u8 zl.fState.fRegs.a1),(.int .u8 zl.fState.fRegs.a2),(.int .u8 zl.fState.fRegs.a3),(.int .u8 zl.fX.fOp),(.int .i64 zl.fX.fA),(.int .i64 zl.fX.fB),(.int .i64 zl.fX.fC),(.slice z5n zl.fMem.length z5o),(.int .u8 zl.fAct.fKind),(.int .i64 zl.fAct.fA),(.int .i64 zl.fAct.fB),(.slice z5p zl.fAct.fData.length z5q)]]) :
  Calls Tryd.prog 102 #[(.pointer (some ⟨z4g,0,none⟩))] w₀ fun e w'=>∃ zfc : Option Addr,∃ zfd : Nat,∃ zfe : Option Addr,∃ zff : Nat,e = .returned (.tuple #[]) ∧ ((ZS Z 1 (fun r x=>r = e5 x) zfc zfd r.fMem) ∧ (ZS Z 1 (fun r x=>r = e5 x) zfe zff r.fAct.fData)) ∧ Hp (fps [stb z4g 65 [(.int .i64 zl.fState.fPc),(.int .i64 zl.fState.fLeft),(.int .u8 zl.fState.fRegs.a0),(.int .u8 zl.fState.fRegs.a1),(.int .u8 zl.fState.fRegs.a2),(.int .u8 zl.fState.fRegs.a3),(.int .u8 zl.fX.fOp),(.int .i64 zl.fX.fA),(.int .i64 zl.fX.fB),(.int .i64 zl.fX.fC),(.slice z5n zl.fMem.length z5o),(.int .u8 zl.fAct.fKind),(.int .i64 zl.fAct.fA),(.int .i64 zl.fAct.fB),(.slice z5p zl.fAct.fData.length z5q)]]) w₀ w' [stb z4g 65 [(.int .i64 r.fState.fPc),(.int .i64 r.fState.fLeft),(.int .u8 r.fState.fRegs.a0),(.int .u8 r.fState.fRegs.a1),(.int .u8 r.fState.fRegs.a2),(.int .u8 r.fState.fRegs.a3),(.int .u8 r.fX.fOp),(.int .i64 r.fX.fA),(.int .i64 r.fX.fB),(.int .i64 r.fX.fC),(.slice zfc r.fMem.length zfd),(.int .u8 r.fAct.fKind),(.int .i64 r.fAct.fA),(.int .i64 r.fAct.fB),(.slice zfe r.fAct.fData.length zff)]]:=by
 unfold y2s at h
 refine Calls.ya (vs:=[(.pointer (some ⟨z4g,0,none⟩))]) (pre:=[stb z4g 65 [(.int .i64 zl.fState.fPc),(.int .i64 zl.fState.fLeft),(.int .u8 zl.fState.fRegs.a0),(.int .u8 zl.fState.fRegs.a1),(.int .u8 zl.fState.fRegs.a2),(.int .u8 zl.fState.fRegs.a3),(.int .u8 zl.fX.fOp),(.int .i64 zl.fX.fA),(.int .i64 zl.fX.fB),(.int .i64 zl.fX.fC),(.slice z5n zl.fMem.length z5o),(.int .u8 zl.fAct.fKind),(.int .i64 zl.fAct.fA),(.int .i64 zl.fAct.fB),(.slice z5p zl.fAct.fData.length z5q)]]) (env:=[(0,(.pointer (some ⟨z4g,0,none⟩)))]) Tryd.func102 rfl Tryd.ntmps102 rfl (hown) rfl ?_
 refine WC.a (WL.pu rfl (WL.pu rfl ?_))
 refine WL.a (d:=4) rfl rfl rfl (y9 rfl) ?_
 refine WL.a (d:=5) rfl rfl rfl (y4 yM rfl rfl) ?_
 refine WL.a (d:=6) rfl rfl rfl (y4 y1p rfl rfl) ?_
 refine WL.a (d:=7) rfl rfl rfl (y6 yh rfl (yi .here rfl)) ?_
 refine WL.a (d:=8) rfl rfl rfl (y9 rfl) ?_
 refine WL.a (d:=9) rfl rfl rfl (y4 y1x rfl rfl) ?_
 refine WL.a (d:=10) rfl rfl rfl (y4 y2T rfl rfl) ?_
 refine WL.yq rfl rfl (y1E (ds:=[(.int .i64 zl.fX.fA),(.int .i64 zl.fState.fLeft),(.int .u8 zl.fState.fRegs.a0),(.int .u8 zl.fState.fRegs.a1),(.int .u8 zl.fState.fRegs.a2),(.int .u8 zl.fState.fRegs.a3),(.int .u8 zl.fX.fOp),(.int .i64 zl.fX.fA),(.int .i64 zl.fX.fB),(.int .i64 zl.fX.fC),(.slice z5n zl.fMem.length z5o),(.int .u8 zl.fAct.fKind),(.int .i64 zl.fAct.fA),(.int .i64 zl.fAct.fB),(.slice z5p zl.fAct.fData.length z5q)]) y36 rfl rfl rfl rfl rfl .here rfl rfl) ?_
 refine WL.nil ?_
 obtain rfl:=Option.some.inj h
 refine WX.yl Tryd.results102 .nil (fun w hw=>?_)
 exact ⟨z5n,z5o,z5p,z5q,y1m,⟨zjW,zjX⟩,hw.sub (.cons .here .nil)⟩
def y2t (zg : Sproc_execution) : Option Sproc_execution :=
 (yk zg zg.fX.fA).bind fun zjY=>chk ((0 : Int) ≤ zg.fX.fA ∧ zg.fX.fA < 4) (if decide ((nth ([zg.fState.fRegs.a0,zg.fState.fRegs.a1,zg.fState.fRegs.a2,zg.fState.fRegs.a3] : List Int) zg.fX.fA) = 0) then some (⟨(⟨zg.fX.fB,zg.fState.fLeft,zg.fState.fRegs⟩ : Sproc_State),zg.fX,zg.fMem,zg.fAct⟩ : Sproc_execution) else some zg)
set_option maxRecDepth 20000 in
theorem y4R (Z : Zp) (z4h : Nat) (z4i : Option Addr) (z4j : Nat) (z4k : Option Addr) (z4l : Nat) (zg : Sproc_execution) (r : Sproc_execution)
  (h : y2t zg = some r) (w₀ : World) (hz : PZ (fps [stb z4h 65 [(.int .i64 zg.fState.fPc),(.int .i64 zg.fState.fLeft),(.int .u8 zg.fState.fRegs.a0),(.int .u8 zg.fState.fRegs.a1),(.int .u8 zg.fState.fRegs.a2),(.int .u8 zg.fState.fRegs.a3),(.int .u8 zg.fX.fOp),(.int .i64 zg.fX.fA),(.int .i64 zg.fX.fB),(.int .i64 zg.fX.fC),(.slice z4i zg.fMem.length z4j),(.int .u8 zg.fAct.fKind),(.int .i64 zg.fAct.fA),(.int .i64 zg.fAct.fB),(.slice z4k zg.fAct.fData.length z4l)]]) w₀ Z)
  (zaF : ZS Z 1 (fun r x=>r = e5 x) z4i z4j zg.fMem)
  (zaG : ZS Z 1 (fun r x=>r = e5 x) z4k z4l zg.fAct.fData)
  (hown : Hp (fps [stb z4h 65 [(.int .i64 zg.fState.fPc),(.int .i64 zg.fState.fLeft),(.int .u8 zg.fState.fRegs.a0),(.int .u8 zg.fState.fRegs.a1),(.int .u8 zg.fState.fRegs.a2),(.int .u8 zg.fState.fRegs.a3),(.int .u8 zg.fX.fOp),(.int .i64 zg.fX.fA),(.int .i64 zg.fX.fB),(.int .i64 zg.fX.fC),(.slice z4i zg.fMem.length z4j),(.int .u8 zg.fAct.fKind),(.int .i64 zg.fAct.fA),(.int .i64 zg.fAct.fB),(.slice z4k zg.fAct.fData.length z4l)]]) w₀ w₀ [stb z4h 65 [(.int .i64 zg.fState.fPc),(.int .i64 zg.fState.fLeft),(.int .u8 zg.fState.fRegs.a0),(.int .u8 zg.fState.fRegs.a1),(.int .u8 zg.fState.fRegs.a2),(.int .u8 zg.fState.fRegs.a3),(.int .u8 zg.fX.fOp),(.int .i64 zg.fX.fA),(.int .i64 zg.fX.fB),(.int .i64 zg.fX.fC),(.slice z4i zg.fMem.length z4j),(.int .u8 zg.fAct.fKind),(.int .i64 zg.fAct.fA),(.int .i64 zg.fAct.fB),(.slice z4k zg.fAct.fData.length z4l)]]) :
  Calls Tryd.prog 103 #[(.pointer (some ⟨z4h,0,none⟩))] w₀ fun e w'=>∃ zfg : Option Addr,∃ zfh : Nat,∃ zfi : Option Addr,∃ zfj : Nat,e = .returned (.tuple #[]) ∧ ((ZS Z 1 (fun r x=>r = e5 x) zfg zfh r.fMem) ∧ (ZS Z 1 (fun r x=>r = e5 x) zfi zfj r.fAct.fData)) ∧ Hp (fps [stb z4h 65 [(.int .i64 zg.fState.fPc),(.int .i64 zg.fState.fLeft),(.int .u8 zg.fState.fRegs.a0),(.int .u8 zg.fState.fRegs.a1),(.int .u8 zg.fState.fRegs.a2),(.int .u8 zg.fState.fRegs.a3),(.int .u8 zg.fX.fOp),(.int .i64 zg.fX.fA),(.int .i64 zg.fX.fB),(.int .i64 zg.fX.fC),(.slice z4i zg.fMem.length z4j),(.int .u8 zg.fAct.fKind),(.int .i64 zg.fAct.fA),(.int .i64 zg.fAct.fB),(.slice z4k zg.fAct.fData.length z4l)]]) w₀ w' [stb z4h 65 [(.int .i64 r.fState.fPc),(.int .i64 r.fState.fLeft),(.int .u8 r.fState.fRegs.a0),(.int .u8 r.fState.fRegs.a1),(.int .u8 r.fState.fRegs.a2),(.int .u8 r.fState.fRegs.a3),(.int .u8 r.fX.fOp),(.int .i64 r.fX.fA),(.int .i64 r.fX.fB),(.int .i64 r.fX.fC),(.slice zfg r.fMem.length zfh),(.int .u8 r.fAct.fKind),(.int .i64 r.fAct.fA),(.int .i64 r.fAct.fB),(.slice zfi r.fAct.fData.length zfj)]]:=by
 unfold y2t at h
 refine Calls.ya (vs:=[(.pointer (some ⟨z4h,0,none⟩))]) (pre:=[stb z4h 65 [(.int .i64 zg.fState.fPc),(.int .i64 zg.fState.fLeft),(.int .u8 zg.fState.fRegs.a0),(.int .u8 zg.fState.fRegs.a1),(.int .u8 zg.fState.fRegs.a2),(.int .u8 zg.fState.fRegs.a3),(.int .u8 zg.fX.fOp),(.int .i64 zg.fX.fA),(.int .i64 zg.fX.fB),(.int .i64 zg.fX.fC),(.slice z4i zg.fMem.length z4j),(.int .u8 zg.fAct.fKind),(.int .i64 zg.fAct.fA),(.int .i64 zg.fAct.fB),(.slice z4k zg.fAct.fData.length z4l)]]) (env:=[(0,(.pointer (some ⟨z4h,0,none⟩)))]) Tryd.func103 rfl Tryd.ntmps103 rfl (hown) rfl ?_
 refine WC.b ?_
 obtain ⟨zjY,zjZ,h⟩:=zd h
 obtain ⟨zk0,h⟩:=yb h
 refine WC.a (WL.pu rfl (WL.pu rfl ?_))
 refine WL.a (d:=4) rfl rfl rfl (y9 rfl) ?_
 refine WL.a (d:=5) rfl rfl rfl (y4 yM rfl rfl) ?_
 refine WL.a (d:=6) rfl rfl rfl (y4 y1p rfl rfl) ?_
 refine WL.a (d:=7) rfl rfl rfl (y6 yh rfl (yi .here rfl)) ?_
 refine WL.b (dd:=8) rfl rfl rfl (zm (l:=[.tmp 2,.tmp 7]) Tryd.call108 (.cons rfl (.cons rfl .nil))) .nil (ccl hz .nil (.cons .here .nil) fun w pz ho la=>yn _ _ _ _ _ _ _ _ _ zjZ w pz (zaF.mono (Zle.left _ _)) (zaG.mono (Zle.left _ _)) ((la _ (.head _) _).stb)) ?_
 refine WL.a (d:=9) rfl rfl rfl (y9 rfl) ?_
 refine WL.a (d:=10) rfl rfl rfl (y6 yP rfl (y1Q (l:=([zg.fState.fRegs.a0,zg.fState.fRegs.a1,zg.fState.fRegs.a2,zg.fState.fRegs.a3] : List Int)) (f:=Value.int .u8) (k:=2) (m:=6) .here rfl rfl zk0)) ?_
 refine WL.pu rfl (WL.nil (WX.a ?_))
 refine WC.cond rfl (fun zaH=>?_) (fun zaH=>?_)
 ·replace h:=yc h zaH
  refine WC.a (WL.pu rfl (WL.pu rfl ?_))
  refine WL.a (d:=14) rfl rfl rfl (y9 rfl) ?_
  refine WL.a (d:=15) rfl rfl rfl (y4 yM rfl rfl) ?_
  refine WL.a (d:=16) rfl rfl rfl (y4 y1J rfl rfl) ?_
  refine WL.a (d:=17) rfl rfl rfl (y6 yh rfl (yi .here rfl)) ?_
  refine WL.a (d:=18) rfl rfl rfl (y9 rfl) ?_
  refine WL.a (d:=19) rfl rfl rfl (y4 y1x rfl rfl) ?_
  refine WL.a (d:=20) rfl rfl rfl (y4 y2T rfl rfl) ?_
  refine WL.yq rfl rfl (y1E (ds:=[(.int .i64 zg.fX.fB),(.int .i64 zg.fState.fLeft),(.int .u8 zg.fState.fRegs.a0),(.int .u8 zg.fState.fRegs.a1),(.int .u8 zg.fState.fRegs.a2),(.int .u8 zg.fState.fRegs.a3),(.int .u8 zg.fX.fOp),(.int .i64 zg.fX.fA),(.int .i64 zg.fX.fB),(.int .i64 zg.fX.fC),(.slice z4i zg.fMem.length z4j),(.int .u8 zg.fAct.fKind),(.int .i64 zg.fAct.fA),(.int .i64 zg.fAct.fB),(.slice z4k zg.fAct.fData.length z4l)]) y36 rfl rfl rfl rfl rfl .here rfl rfl) ?_
  refine WL.nil ?_
  obtain rfl:=Option.some.inj h
  refine WX.yl Tryd.results103 .nil (fun w hw=>?_)
  exact ⟨z4i,z4j,z4k,z4l,y1m,⟨zaF,zaG⟩,hw.sub (.cons .here .nil)⟩
 ·replace h:=yd h zaH
  refine WC.skip ?_
  obtain rfl:=Option.some.inj h
  refine WX.yl Tryd.results103 .nil (fun w hw=>?_)
  exact ⟨z4i,z4j,z4k,z4l,y1m,⟨zaF,zaG⟩,hw.sub (.cons .here .nil)⟩
end Go.Proofs.YtjdnejbngloieaaDoor
