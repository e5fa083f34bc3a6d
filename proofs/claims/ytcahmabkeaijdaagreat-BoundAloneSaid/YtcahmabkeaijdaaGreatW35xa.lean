/- A part of this claim's proof: models of functions, walks, plain laws. No conditions. -/
import Derived.Test.YtcahmabkeaijdaaGreatZShort
import Derived.Test.YtcahmabkeaijdaaGreatZMem
import Derived.Test.YtcahmabkeaijdaaGreatShelf35
import Derived.Test.YtcahmabkeaijdaaGreatProg
set_option linter.all false
namespace Go.Proofs.YtcahmabkeaijdaaGreat
open Go Go.RowKit Sep
set_option maxRecDepth 30000
set_option maxHeartbeats 4000000
structure Sapi_Port where
 fName : ByteArray
 fKind : Int
 fOut : Bool
 fSize : Int
 fDepth : Int
 fRefresh : Int
 deriving Inhabited,DecidableEq
structure Sapi_Ins where
 fOp : Int
 fA : Int
 fB : Int
 fC : Int
 deriving Inhabited,DecidableEq
structure Sapi_Proc where
 fName : ByteArray
 fPrio : Int
 fPeriod : Int
 fLimit : Int
 fCode : List Sapi_Ins
 deriving Inhabited,DecidableEq
structure Sapi_Part where
 fName : ByteArray
 fPeriod : Int
 fLength : Int
 fMem : Int
 fSemas : List Int
 fEvents : Int
 fBoards : Int
 fBufs : List Int
 fPorts : List Sapi_Port
 fProcs : List Sapi_Proc
 deriving Inhabited,DecidableEq
structure Sapi_Module where
 fName : ByteArray
 fMem : Int
 fFrame : Int
 fParts : List Sapi_Part
 deriving Inhabited,DecidableEq
structure Sapi_Ref where
 fModule : ByteArray
 fPart : ByteArray
 fPort : ByteArray
 deriving Inhabited,DecidableEq
structure Sapi_Channel where
 fFrom : Sapi_Ref
 fTo : List Sapi_Ref
 deriving Inhabited,DecidableEq
structure Sapi_Switch where
 fName : ByteArray
 fNet : Int
 fDelay : Int
 fStore : Int
 deriving Inhabited,DecidableEq
structure Sapi_Link where
 fA : ByteArray
 fB : ByteArray
 fNet : Int
 fSlow : Int
 deriving Inhabited,DecidableEq
structure Sapi_VL where
 fName : ByteArray
 fFrom : Sapi_Ref
 fBag : Int
 fMax : Int
 fTo : List Sapi_Ref
 deriving Inhabited,DecidableEq
structure Sapi_Health where
 fModule : ByteArray
 fPart : ByteArray
 fFault : Int
 fLevel : Int
 fDo : Int
 deriving Inhabited,DecidableEq
structure Sapi_Report where
 fUnit : ByteArray
 fCode : Int
 deriving Inhabited,DecidableEq
structure Sapi_Cause where
 fUnit : ByteArray
 fNeeds : List Sapi_Report
 fUnless : List ByteArray
 deriving Inhabited,DecidableEq
structure Sapi_Version where
 fA : ByteArray
 fVA : Int
 fB : ByteArray
 fVB : Int
 deriving Inhabited,DecidableEq
structure Sapi_Config where
 fModules : List Sapi_Module
 fChannels : List Sapi_Channel
 fSwitches : List Sapi_Switch
 fLinks : List Sapi_Link
 fVLs : List Sapi_VL
 fHealth : List Sapi_Health
 fCauses : List Sapi_Cause
 fVersions : List Sapi_Version
 deriving Inhabited,DecidableEq
def e3 (x : Int) : List Value:=[(.int .i64 x)]
theorem e3_oc : ∀ x,∀ u ∈ e3 x,u.oneCell' = true:=fun _=>ocB rfl
def e346 (x : Sapi_Port) : List Value:=[(.string x.fName),(.int .u8 x.fKind),(.bool x.fOut),(.int .i64 x.fSize),(.int .i64 x.fDepth),(.int .i64 x.fRefresh)]
def e351 (x : Sapi_Ins) : List Value:=[(.int .u8 x.fOp),(.int .i64 x.fA),(.int .i64 x.fB),(.int .i64 x.fC)]
def p349 (Z : Zp) (r : List Value) (x : Sapi_Proc) : Prop:=∃ (ao0 : Option Addr) (cap0 : Nat),r = [(.string x.fName),(.int .i64 x.fPrio),(.int .i64 x.fPeriod),(.int .i64 x.fLimit),(.slice ao0 x.fCode.length cap0)] ∧ ZS Z 4 (fun r x=>r = e351 x) ao0 cap0 x.fCode
theorem yfT {Z Z' : Zp} (k : Zle Z Z') {r : List Value} {x : Sapi_Proc} (h : p349 Z r x) : p349 Z' r x:=by
 obtain ⟨ao0,cap0,hr,h0⟩:=h
 exact ⟨ao0,cap0,hr,h0.mono k⟩
def p340 (Z : Zp) (r : List Value) (x : Sapi_Part) : Prop:=∃ (ao0 : Option Addr) (cap0 : Nat) (ao1 : Option Addr) (cap1 : Nat) (ao2 : Option Addr) (cap2 : Nat) (ao3 : Option Addr) (cap3 : Nat),r = [(.string x.fName),(.int .i64 x.fPeriod),(.int .i64 x.fLength),(.int .i64 x.fMem),(.slice ao0 x.fSemas.length cap0),(.int .i64 x.fEvents),(.int .i64 x.fBoards),(.slice ao1 x.fBufs.length cap1),(.slice ao2 x.fPorts.length cap2),(.slice ao3 x.fProcs.length cap3)] ∧ ZS Z 1 (fun r x=>r = e3 x) ao0 cap0 x.fSemas ∧ ZS Z 1 (fun r x=>r = e3 x) ao1 cap1 x.fBufs ∧ ZS Z 6 (fun r x=>r = e346 x) ao2 cap2 x.fPorts ∧ ZS Z 5 (p349 Z) ao3 cap3 x.fProcs
theorem yfU {Z Z' : Zp} (k : Zle Z Z') {r : List Value} {x : Sapi_Part} (h : p340 Z r x) : p340 Z' r x:=by
 obtain ⟨ao0,cap0,ao1,cap1,ao2,cap2,ao3,cap3,hr,h0,h1,h2,h3⟩:=h
 exact ⟨ao0,cap0,ao1,cap1,ao2,cap2,ao3,cap3,hr,h0.mono k,h1.mono k,h2.mono k,(h3.mono k).weak (fun _ _ h=>yfT k h)⟩
def y48 (Z : Zp) (r : List Value) (x : Sapi_Module) : Prop:=∃ (ao0 : Option Addr) (cap0 : Nat),r = [(.string x.fName),(.int .i64 x.fMem),(.int .i64 x.fFrame),(.slice ao0 x.fParts.length cap0)] ∧ ZS Z 10 (p340 Z) ao0 cap0 x.fParts
theorem y2d {Z Z' : Zp} (k : Zle Z Z') {r : List Value} {x : Sapi_Module} (h : y48 Z r x) : y48 Z' r x:=by
 obtain ⟨ao0,cap0,hr,h0⟩:=h
 exact ⟨ao0,cap0,hr,(h0.mono k).weak (fun _ _ h=>yfU k h)⟩
def e43 (x : Sapi_Ref) : List Value:=[(.string x.fModule),(.string x.fPart),(.string x.fPort)]
def y4H (Z : Zp) (r : List Value) (x : Sapi_Channel) : Prop:=∃ (ao0 : Option Addr) (cap0 : Nat),r = [(.string x.fFrom.fModule),(.string x.fFrom.fPart),(.string x.fFrom.fPort),(.slice ao0 x.fTo.length cap0)] ∧ ZS Z 3 (fun r x=>r = e43 x) ao0 cap0 x.fTo
theorem y2r {Z Z' : Zp} (k : Zle Z Z') {r : List Value} {x : Sapi_Channel} (h : y4H Z r x) : y4H Z' r x:=by
 obtain ⟨ao0,cap0,hr,h0⟩:=h
 exact ⟨ao0,cap0,hr,h0.mono k⟩
def e66 (x : Sapi_Switch) : List Value:=[(.string x.fName),(.int .i64 x.fNet),(.int .i64 x.fDelay),(.int .i64 x.fStore)]
def e64 (x : Sapi_Link) : List Value:=[(.string x.fA),(.string x.fB),(.int .i64 x.fNet),(.int .i64 x.fSlow)]
def p46 (Z : Zp) (r : List Value) (x : Sapi_VL) : Prop:=∃ (ao0 : Option Addr) (cap0 : Nat),r = [(.string x.fName),(.string x.fFrom.fModule),(.string x.fFrom.fPart),(.string x.fFrom.fPort),(.int .i64 x.fBag),(.int .i64 x.fMax),(.slice ao0 x.fTo.length cap0)] ∧ ZS Z 3 (fun r x=>r = e43 x) ao0 cap0 x.fTo
theorem y29 {Z Z' : Zp} (k : Zle Z Z') {r : List Value} {x : Sapi_VL} (h : p46 Z r x) : p46 Z' r x:=by
 obtain ⟨ao0,cap0,hr,h0⟩:=h
 exact ⟨ao0,cap0,hr,h0.mono k⟩
def y4U (x : Sapi_Health) : List Value:=[(.string x.fModule),(.string x.fPart),(.int .u8 x.fFault),(.int .u8 x.fLevel),(.int .u8 x.fDo)]
def e344 (x : Sapi_Report) : List Value:=[(.string x.fUnit),(.int .i64 x.fCode)]
def e9 (x : ByteArray) : List Value:=[(.string x)]
def y4I (Z : Zp) (r : List Value) (x : Sapi_Cause) : Prop:=∃ (ao0 : Option Addr) (cap0 : Nat) (ao1 : Option Addr) (cap1 : Nat),r = [(.string x.fUnit),(.slice ao0 x.fNeeds.length cap0),(.slice ao1 x.fUnless.length cap1)] ∧ ZS Z 2 (fun r x=>r = e344 x) ao0 cap0 x.fNeeds ∧ ZS Z 1 (fun r x=>r = e9 x) ao1 cap1 x.fUnless
theorem y2s {Z Z' : Zp} (k : Zle Z Z') {r : List Value} {x : Sapi_Cause} (h : y4I Z r x) : y4I Z' r x:=by
 obtain ⟨ao0,cap0,ao1,cap1,hr,h0,h1⟩:=h
 exact ⟨ao0,cap0,ao1,cap1,hr,h0.mono k,h1.mono k⟩
def y4V (x : Sapi_Version) : List Value:=[(.string x.fA),(.int .i64 x.fVA),(.string x.fB),(.int .i64 x.fVB)]
structure Sapi_Hop where
 fNode : Int
 fNext : Int
 fLink : Int
 deriving Inhabited,DecidableEq
def e62 (x : Sapi_Hop) : List Value:=[(.int .i64 x.fNode),(.int .i64 x.fNext),(.int .i64 x.fLink)]
def p48 (Z : Zp) (r : List Value) (x : List Sapi_Hop) : Prop:=∃ (ao0 : Option Addr) (cap0 : Nat),r = [(.slice ao0 x.length cap0)] ∧ ZS Z 3 (fun r x=>r = e62 x) ao0 cap0 x
theorem y2v {Z Z' : Zp} (k : Zle Z Z') {r : List Value} {x : List Sapi_Hop} (h : p48 Z r x) : p48 Z' r x:=by
 obtain ⟨ao0,cap0,hr,h0⟩:=h
 exact ⟨ao0,cap0,hr,h0.mono k⟩
structure S7 where
 fX : Int
 fY : Int
 fSigned : Bool
 fCode : Int
 deriving Inhabited,DecidableEq
structure S13 where
 fMsg : ByteArray
 fAddr : Int
 deriving Inhabited,DecidableEq
structure Sbound_place where
 fNode : Int
 fLink : Int
 deriving Inhabited,DecidableEq
structure Sapi_PortBound where
 fNode : Int
 fLink : Int
 fDelay : Int
 fStore : Int
 deriving Inhabited,DecidableEq
structure Sapi_End where
 fVL : Int
 fNode : Int
 fDelay : Int
 deriving Inhabited,DecidableEq
structure S37 where
 fPorts : List Sapi_PortBound
 fEnds : List Sapi_End
 deriving Inhabited,DecidableEq
structure S49 where
 fC : Sapi_Config
 fR : List (List Sapi_Hop)
 deriving Inhabited,DecidableEq
structure S60 where
 a0 : Int
 a1 : Int
 deriving Inhabited,DecidableEq
structure S80 where
 fSent : Int
 fNode : Int
 fTime : Int
 deriving Inhabited,DecidableEq
structure S82 where
 fTime : Int
 fVL : Int
 fSize : Int
 deriving Inhabited,DecidableEq
def e97 (x : Sbound_place) : List Value:=[(.int .i64 x.fNode),(.int .i64 x.fLink)]
theorem yaM : ∀ x,∀ u ∈ e97 x,u.oneCell' = true:=fun _=>ocB rfl
structure Sbound_flow where
 fVl : Int
 fAt_ : Sbound_place
 deriving Inhabited,DecidableEq
def y2e (x : Sbound_flow) : List Value:=[(.int .i64 x.fVl),(.int .i64 x.fAt_.fNode),(.int .i64 x.fAt_.fLink)]
structure z2 where
 fN : Int
 fD : Int
 deriving Inhabited,DecidableEq
def yu (x : z2) : List Value:=[(.int .i64 x.fN),(.int .i64 x.fD)]
theorem yb7 : ∀ x,∀ u ∈ yu x,u.oneCell' = true:=fun _=>ocB rfl
structure z6 where
 fBurst : z2
 fRate : z2
 deriving Inhabited,DecidableEq
def y1x (x : z6) : List Value:=[(.int .i64 x.fBurst.fN),(.int .i64 x.fBurst.fD),(.int .i64 x.fRate.fN),(.int .i64 x.fRate.fD)]
theorem yeL : ∀ x,∀ u ∈ y1x x,u.oneCell' = true:=fun _=>ocB rfl
def y1P (Z : Zp) (r : List Value) (x : List z6) : Prop:=∃ (ao0 : Option Addr) (cap0 : Nat),r = [(.slice ao0 x.length cap0)] ∧ ZS Z 4 (fun r x=>r = y1x x) ao0 cap0 x
theorem y37 {Z Z' : Zp} (k : Zle Z Z') {r : List Value} {x : List z6} (h : y1P Z r x) : y1P Z' r x:=by
 obtain ⟨ao0,cap0,hr,h0⟩:=h
 exact ⟨ao0,cap0,hr,h0.mono k⟩
theorem p173_oc {Z : Zp} {r : List Value} {x : List z6} (h : y1P Z r x) : ∀ u ∈ r,u.oneCell' = true:=by
 obtain ⟨ao0,cap0,hr,h0⟩:=h
 rw [hr]; exact ocB rfl
structure zSv where
 fRate : z2
 fL : z2
 deriving Inhabited,DecidableEq
structure z18 where
 fE : Int
 deriving Inhabited,DecidableEq
structure S152 where
 fTime : Int
 fIn_ : Int
 fVl : Int
 fSent : Int
 fHop : Sapi_Hop
 deriving Inhabited,DecidableEq
structure S209 where
 fSlow : Int
 fDelay : Int
 fStore : Int
 deriving Inhabited,DecidableEq
structure Sport_frame where
 fSize : Int
 fFin : Int
 deriving Inhabited,DecidableEq
structure S212 where
 fNumbers : S209
 fNow : Int
 fLast : Int
 fFrames : List Sport_frame
 deriving Inhabited,DecidableEq
def e39 (x : Int) : List Value:=[(.int .i64 x)]
def e58 (x : Sapi_PortBound) : List Value:=[(.int .i64 x.fNode),(.int .i64 x.fLink),(.int .i64 x.fDelay),(.int .i64 x.fStore)]
theorem ydJ : ∀ x,∀ u ∈ e58 x,u.oneCell' = true:=fun _=>ocB rfl
def e79 (x : Sapi_End) : List Value:=[(.int .i64 x.fVL),(.int .i64 x.fNode),(.int .i64 x.fDelay)]
theorem ydK : ∀ x,∀ u ∈ e79 x,u.oneCell' = true:=fun _=>ocB rfl
def e5 (x : Int) : List Value:=[(.int .u8 x)]
theorem y2X : y6c Tryz.prog 31 8:=y4N (i:=Tryz.t31) Tryz.underlying31 rfl rfl
theorem y67 : yO Tryz.prog 31 0 0:=yF (i:=Tryz.t22) Tryz.underlying31 rfl rfl (by decide) rfl
theorem y68 : y5A Tryz.prog 22:=y3E Tryz.underlying22 rfl
theorem y8G : yO Tryz.prog 31 2 2:=yF (i:=Tryz.t24) Tryz.underlying31 rfl rfl (by decide) rfl
theorem y8H : y5A Tryz.prog 24:=y3E Tryz.underlying24 rfl
theorem y7T : yO Tryz.prog 31 3 3:=yF (i:=Tryz.t25) Tryz.underlying31 rfl rfl (by decide) rfl
theorem y7U : y5A Tryz.prog 25:=y3E Tryz.underlying25 rfl
theorem y5D : yO Tryz.prog 31 4 4:=yF (i:=Tryz.t26) Tryz.underlying31 rfl rfl (by decide) rfl
theorem y5E : y5A Tryz.prog 26:=y3E Tryz.underlying26 rfl
theorem y73 : elT Tryz.prog 32 48 1 24:=⟨Tryz.underlying32,⟨Tryz.t48,_,rfl,rfl,rfl,rfl,rfl⟩,by decide⟩
theorem y6H : y5A Tryz.prog 48:=y3E Tryz.underlying48 rfl
theorem ybJ : y2D Tryz.prog 31 (.agg #[(.slice none 0 0),(.slice none 0 0),(.slice none 0 0),(.slice none 0 0),(.slice none 0 0),(.slice none 0 0),(.slice none 0 0),(.slice none 0 0)]):=y2E (i:=Tryz.t31) rfl rfl
theorem elT_22 : elT Tryz.prog 22 108 4 56:=⟨Tryz.underlying22,⟨Tryz.t108,_,rfl,rfl,rfl,rfl,rfl⟩,by decide⟩
theorem yaN : elT Tryz.prog 24 66 4 40:=⟨Tryz.underlying24,⟨Tryz.t66,_,rfl,rfl,rfl,rfl,rfl⟩,by decide⟩
theorem yaO : elT Tryz.prog 25 64 4 48:=⟨Tryz.underlying25,⟨Tryz.t64,_,rfl,rfl,rfl,rfl,rfl⟩,by decide⟩
theorem y89 : elT Tryz.prog 26 46 7 104:=⟨Tryz.underlying26,⟨Tryz.t46,_,rfl,rfl,rfl,rfl,rfl⟩,by decide⟩
theorem ycz : y4F Tryz.prog 31 8:=y2W (i:=Tryz.t31) rfl
theorem y61 : elT Tryz.prog 48 62 3 24:=⟨Tryz.underlying48,⟨Tryz.t62,_,rfl,rfl,rfl,rfl,rfl⟩,by decide⟩
theorem y8P : y2D Tryz.prog 38 (.agg #[(.slice none 0 0),(.slice none 0 0)]):=y2E (i:=Tryz.t38) rfl rfl
theorem yw : y5A Tryz.prog 3:=y3E Tryz.underlying3 rfl
theorem y3G : y6c Tryz.prog 62 3:=y4N (i:=Tryz.t62) Tryz.underlying62 rfl rfl
theorem y6v : y2D Tryz.prog 62 (.agg #[(.int .i64 0),(.int .i64 0),(.int .i64 0)]):=y2E (i:=Tryz.t62) rfl rfl
theorem y6I : y4F Tryz.prog 62 3:=y2W (i:=Tryz.t62) rfl
theorem y4O : yO Tryz.prog 62 0 0:=yF (i:=Tryz.t3) Tryz.underlying62 rfl rfl (by decide) rfl
theorem y4P : y2D Tryz.prog 3 (.int .i64 0):=y2E (i:=Tryz.t3) rfl rfl
theorem y5e : KeyT Tryz.prog 3 (Value.int .i64):=keyT_int Tryz.underlying3
theorem y5F : yO Tryz.prog 62 1 1:=yF (i:=Tryz.t3) Tryz.underlying62 rfl rfl (by decide) rfl
theorem yb8 : yO Tryz.prog 62 2 2:=yF (i:=Tryz.t3) Tryz.underlying62 rfl rfl (by decide) rfl
theorem yeM : y6c Tryz.prog 64 4:=y4N (i:=Tryz.t64) Tryz.underlying64 rfl rfl
theorem ydL : y2D Tryz.prog 64 (.agg #[(.string ⟨#[]⟩),(.string ⟨#[]⟩),(.int .i64 0),(.int .i64 0)]):=y2E (i:=Tryz.t64) rfl rfl
theorem yeN : y4F Tryz.prog 64 4:=y2W (i:=Tryz.t64) rfl
theorem fo_64_0 : yO Tryz.prog 64 0 0:=yF (i:=Tryz.t9) Tryz.underlying64 rfl rfl (by decide) rfl
theorem yc6 : y5A Tryz.prog 9:=y3E Tryz.underlying9 rfl
theorem fo_108_0 : yO Tryz.prog 108 0 0:=yF (i:=Tryz.t9) Tryz.underlying108 rfl rfl (by decide) rfl
theorem fo_66_0 : yO Tryz.prog 66 0 0:=yF (i:=Tryz.t9) Tryz.underlying66 rfl rfl (by decide) rfl
theorem fo_64_1 : yO Tryz.prog 64 1 1:=yF (i:=Tryz.t9) Tryz.underlying64 rfl rfl (by decide) rfl
theorem fo_64_2 : yO Tryz.prog 64 2 2:=yF (i:=Tryz.t3) Tryz.underlying64 rfl rfl (by decide) rfl
theorem y8I : yO Tryz.prog 64 3 3:=yF (i:=Tryz.t3) Tryz.underlying64 rfl rfl (by decide) rfl
theorem aggT_66 : y6c Tryz.prog 66 4:=y4N (i:=Tryz.t66) Tryz.underlying66 rfl rfl
theorem zeroT_66 : y2D Tryz.prog 66 (.agg #[(.string ⟨#[]⟩),(.int .i64 0),(.int .i64 0),(.int .i64 0)]):=y2E (i:=Tryz.t66) rfl rfl
theorem sizT_66 : y4F Tryz.prog 66 4:=y2W (i:=Tryz.t66) rfl
theorem fo_66_1 : yO Tryz.prog 66 1 1:=yF (i:=Tryz.t3) Tryz.underlying66 rfl rfl (by decide) rfl
theorem yb9 : yO Tryz.prog 66 2 2:=yF (i:=Tryz.t3) Tryz.underlying66 rfl rfl (by decide) rfl
theorem yeO : yO Tryz.prog 66 3 3:=yF (i:=Tryz.t3) Tryz.underlying66 rfl rfl (by decide) rfl
theorem y7m : y4F Tryz.prog 38 2:=y2W (i:=Tryz.t38) rfl
theorem y7n : y6c Tryz.prog 38 2:=y4N (i:=Tryz.t38) Tryz.underlying38 rfl rfl
theorem yeP : yO Tryz.prog 46 2 4:=yF (i:=Tryz.t3) Tryz.underlying46 rfl rfl (by decide) rfl
theorem y7V : yO Tryz.prog 46 3 5:=yF (i:=Tryz.t3) Tryz.underlying46 rfl rfl (by decide) rfl
theorem aggT_46 : y6c Tryz.prog 46 7:=y4N (i:=Tryz.t46) Tryz.underlying46 rfl rfl
theorem y8Q : y2D Tryz.prog 97 (.agg #[(.int .i64 0),(.int .i64 0)]):=y2E (i:=Tryz.t97) rfl rfl
theorem yba : y4F Tryz.prog 97 2:=y2W (i:=Tryz.t97) rfl
theorem y3H : y6c Tryz.prog 97 2:=y4N (i:=Tryz.t97) Tryz.underlying97 rfl rfl
theorem y5f : elT Tryz.prog 88 97 2 16:=⟨Tryz.underlying88,⟨Tryz.t97,_,rfl,rfl,rfl,rfl,rfl⟩,by decide⟩
theorem yc7 : EqT Tryz.prog 97 e97:=⟨fun u v w=>by
 have i97_10000:=fun (w : World) (a b : Array Value)=>run_equalIn_agg (P:=Tryz.prog) w 9999 97 a b (by simp [Program.fieldsOf,Tryz.underlying97]) (by kernel_rfl)
 have i3_9999:=fun (w : World) (a b : Int)=>run_equalIn_int (P:=Tryz.prog) w 9998 3 .i64 .i64 a b Tryz.underlying3
 rw [i97_10000]
 simp [Program.fieldsOf,Op.eqFields,part,e97,i97_10000,Tryz.underlying97,i3_9999]
 rcases u with ⟨u1,u2⟩
 rcases v with ⟨v1,v2⟩
 by_cases h1 : u1 = v1 <;> by_cases h2 : u2 = v2 <;> simp [h1,h2],by kernel_rfl⟩
theorem y8J : yO Tryz.prog 97 0 0:=yF (i:=Tryz.t3) Tryz.underlying97 rfl rfl (by decide) rfl
theorem y9y : yO Tryz.prog 97 1 1:=yF (i:=Tryz.t3) Tryz.underlying97 rfl rfl (by decide) rfl
theorem zhV : elT Tryz.prog 109 3 1 8:=⟨Tryz.underlying109,⟨Tryz.t3,_,rfl,rfl,rfl,rfl,rfl⟩,by decide⟩
theorem zeroT_93 : y2D Tryz.prog 93 (.map none):=y2E (i:=Tryz.t93) rfl rfl
theorem sizT_93 : y4F Tryz.prog 93 1:=y2W (i:=Tryz.t93) rfl
theorem y9z : y5A Tryz.prog 93:=y3E Tryz.underlying93 rfl
theorem y7o : KeyT Tryz.prog 97 (fun x=>Value.agg (e97 x).toArray):=ydF Tryz.underlying97 (fun _ _=>rfl) (fun b k w=>by
 have c3_9999:=fun (w : World) (a : Int)=>MapKept.run_checkKey (P:=Tryz.prog) (w:=w) (kt:=3) (k:=.int .i64 a) Tryz.underlying3 (by simp [MapKept.IsKey]) b 9998
 have ck : ∀ (w : World) (u0 : Int) (u1 : Int),(Instr.checkKey b 10000 97 (.agg #[.int .i64 u0,.int .i64 u1])).run Tryz.prog w = .ok () w:=fun w u0 u1=>by
  rw [show (10000 : Nat) = 9999 + 1 from rfl,Instr.checkKey]
  simp [run_underlying Tryz.underlying97,c3_9999,part]
 exact ck w k.fNode k.fLink)
 (fun u v w=>yc7.eq u v w)
 (fun k=>by simp [Instr.sameBits,e97])
theorem y69 : yO Tryz.prog 38 0 0:=yF (i:=Tryz.t35) Tryz.underlying38 rfl rfl (by decide) rfl
theorem y6J : y5A Tryz.prog 35:=y3E Tryz.underlying35 rfl
theorem ydM : y2D Tryz.prog 58 (.agg #[(.int .i64 0),(.int .i64 0),(.int .i64 0),(.int .i64 0)]):=y2E (i:=Tryz.t58) rfl rfl
theorem fo_95_1 : yO Tryz.prog 95 1 8:=yF (i:=Tryz.t32) Tryz.underlying95 rfl rfl (by decide) rfl
theorem oneT_32 : y5A Tryz.prog 32:=y3E Tryz.underlying32 rfl
theorem y6a : yO Tryz.prog 95 0 0:=yF (i:=Tryz.t31) Tryz.underlying95 rfl rfl (by decide) rfl
theorem zH : y2D Tryz.prog 132 (.agg #[(.int .i64 0),(.int .i64 0)]):=y2E (i:=Tryz.t132) rfl rfl
theorem zq : y4F Tryz.prog 132 2:=y2W (i:=Tryz.t132) rfl
theorem zb : y6c Tryz.prog 132 2:=y4N (i:=Tryz.t132) Tryz.underlying132 rfl rfl
theorem ycA : yO Tryz.prog 95 2 9:=yF (i:=Tryz.t92) Tryz.underlying95 rfl rfl (by decide) rfl
theorem ycB : y5A Tryz.prog 92:=y3E Tryz.underlying92 rfl
theorem zDl : EqT Tryz.prog 169 y2e:=⟨fun u v w=>by
 have i169_10000:=fun (w : World) (a b : Array Value)=>run_equalIn_agg (P:=Tryz.prog) w 9999 169 a b (by simp [Program.fieldsOf,Tryz.underlying169]) (by kernel_rfl)
 have i3_9999:=fun (w : World) (a b : Int)=>run_equalIn_int (P:=Tryz.prog) w 9998 3 .i64 .i64 a b Tryz.underlying3
 have i97_9999:=fun (w : World) (a b : Array Value)=>run_equalIn_agg (P:=Tryz.prog) w 9998 97 a b (by simp [Program.fieldsOf,Tryz.underlying97]) (by kernel_rfl)
 have i3_9998:=fun (w : World) (a b : Int)=>run_equalIn_int (P:=Tryz.prog) w 9997 3 .i64 .i64 a b Tryz.underlying3
 rw [i169_10000]
 simp [Program.fieldsOf,Op.eqFields,part,y2e,i169_10000,Tryz.underlying169,i3_9999,i97_9999,Tryz.underlying97,i3_9998]
 rcases u with ⟨u1,⟨u2,u3⟩⟩
 rcases v with ⟨v1,⟨v2,v3⟩⟩
 by_cases h1 : u1 = v1 <;> by_cases h2 : u2 = v2 <;> by_cases h3 : u3 = v3 <;> simp [h1,h2,h3],by kernel_rfl⟩
theorem znr : KeyT Tryz.prog 169 (fun x=>Value.agg (y2e x).toArray):=ydF Tryz.underlying169 (fun _ _=>rfl) (fun b k w=>by
 have c3_9999:=fun (w : World) (a : Int)=>MapKept.run_checkKey (P:=Tryz.prog) (w:=w) (kt:=3) (k:=.int .i64 a) Tryz.underlying3 (by simp [MapKept.IsKey]) b 9998
 have c3_9998:=fun (w : World) (a : Int)=>MapKept.run_checkKey (P:=Tryz.prog) (w:=w) (kt:=3) (k:=.int .i64 a) Tryz.underlying3 (by simp [MapKept.IsKey]) b 9997
 have c97_9999 : ∀ (w : World) (u0 : Int) (u1 : Int),(Instr.checkKey b 9999 97 (.agg #[.int .i64 u0,.int .i64 u1])).run Tryz.prog w = .ok () w:=fun w u0 u1=>by
  rw [show (9999 : Nat) = 9998 + 1 from rfl,Instr.checkKey]
  simp [run_underlying Tryz.underlying97,c3_9998,part]
 have ck : ∀ (w : World) (u0 : Int) (u1 : Int) (u2 : Int),(Instr.checkKey b 10000 169 (.agg #[.int .i64 u0,.int .i64 u1,.int .i64 u2])).run Tryz.prog w = .ok () w:=fun w u0 u1 u2=>by
  rw [show (10000 : Nat) = 9999 + 1 from rfl,Instr.checkKey]
  simp [run_underlying Tryz.underlying169,c3_9999,c97_9999,part]
 exact ck w k.fVl k.fAt_.fNode k.fAt_.fLink)
 (fun u v w=>zDl.eq u v w)
 (fun k=>by simp [Instr.sameBits,y2e])
theorem y2a : yO Tryz.prog 132 0 0:=yF (i:=Tryz.t3) Tryz.underlying132 rfl rfl (by decide) rfl
theorem sizT_3 : y4F Tryz.prog 3 1:=y2W (i:=Tryz.t3) rfl
theorem ycC : yO Tryz.prog 95 3 10:=yF (i:=Tryz.t93) Tryz.underlying95 rfl rfl (by decide) rfl
theorem y2w : yO Tryz.prog 132 1 1:=yF (i:=Tryz.t3) Tryz.underlying132 rfl rfl (by decide) rfl
theorem y3I : KeyT Tryz.prog 9 Value.string:=keyT_str Tryz.underlying9
theorem zkJ : y2D Tryz.prog 257 .nilFunc:=y2E (i:=Tryz.t257) rfl rfl
theorem y8K : yO Tryz.prog 95 4 11:=yF (i:=Tryz.t39) Tryz.underlying95 rfl rfl (by decide) rfl
theorem y2Y : y5A Tryz.prog 39:=y3E Tryz.underlying39 rfl
theorem y9A : y4F Tryz.prog 39 1:=y2W (i:=Tryz.t39) rfl
theorem zns : y2D Tryz.prog 109 (.slice none 0 0):=y2E (i:=Tryz.t109) rfl rfl
theorem z5P : elT Tryz.prog 173 171 4 32:=⟨Tryz.underlying173,⟨Tryz.t171,_,rfl,rfl,rfl,rfl,rfl⟩,by decide⟩
theorem z6X : elT Tryz.prog 128 173 1 24:=⟨Tryz.underlying128,⟨Tryz.t173,_,rfl,rfl,rfl,rfl,rfl⟩,by decide⟩
theorem z8K : y2D Tryz.prog 171 (.agg #[(.int .i64 0),(.int .i64 0),(.int .i64 0),(.int .i64 0)]):=y2E (i:=Tryz.t171) rfl rfl
theorem z7C : y4F Tryz.prog 171 4:=y2W (i:=Tryz.t171) rfl
theorem y4u : yO Tryz.prog 171 0 0:=yF (i:=Tryz.t132) Tryz.underlying171 rfl rfl (by decide) rfl
theorem y5v : yO Tryz.prog 171 1 2:=yF (i:=Tryz.t132) Tryz.underlying171 rfl rfl (by decide) rfl
theorem z2a : y6c Tryz.prog 171 4:=y4N (i:=Tryz.t171) Tryz.underlying171 rfl rfl
theorem zDm : y2D Tryz.prog 135 (.agg #[(.int .i64 0),(.int .i64 0),(.int .i64 0),(.int .i64 0)]):=y2E (i:=Tryz.t135) rfl rfl
theorem zDn : y4F Tryz.prog 135 4:=y2W (i:=Tryz.t135) rfl
theorem zeL : y6c Tryz.prog 135 4:=y4N (i:=Tryz.t135) Tryz.underlying135 rfl rfl
theorem z6h : y5A Tryz.prog 128:=y3E Tryz.underlying128 rfl
theorem zvV : y2D Tryz.prog 177 (.agg #[(.slice none 0 0),(.int .i64 0),(.int .i64 0),(.int .i64 0),(.int .i64 0),.nilFunc,(.slice none 0 0)]):=y2E (i:=Tryz.t177) rfl rfl
theorem zvW : y4F Tryz.prog 177 7:=y2W (i:=Tryz.t177) rfl
theorem y9Z : yO Tryz.prog 177 2 5:=yF (i:=Tryz.t174) Tryz.underlying177 rfl rfl (by decide) rfl
theorem zvX : y4F Tryz.prog 174 1:=y2W (i:=Tryz.t174) rfl
theorem zeM : y6c Tryz.prog 177 7:=y4N (i:=Tryz.t177) Tryz.underlying177 rfl rfl
theorem y6w : yO Tryz.prog 177 0 0:=yF (i:=Tryz.t128) Tryz.underlying177 rfl rfl (by decide) rfl
theorem zaF : y5A Tryz.prog 173:=y3E Tryz.underlying173 rfl
theorem ya0 : yO Tryz.prog 177 1 1:=yF (i:=Tryz.t135) Tryz.underlying177 rfl rfl (by decide) rfl
theorem y7W : yO Tryz.prog 135 0 0:=yF (i:=Tryz.t132) Tryz.underlying135 rfl rfl (by decide) rfl
theorem y7X : yO Tryz.prog 135 1 2:=yF (i:=Tryz.t132) Tryz.underlying135 rfl rfl (by decide) rfl
theorem zkK : y2D Tryz.prog 225 (.agg #[(.int .i64 0)]):=y2E (i:=Tryz.t225) rfl rfl
theorem zvY : y2D Tryz.prog 262 (.agg #[(.int .i64 0)]):=y2E (i:=Tryz.t262) rfl rfl
theorem znt : y2D Tryz.prog 175 (.slice none 0 0):=y2E (i:=Tryz.t175) rfl rfl
theorem zvZ : EqT Tryz.prog 171 y1x:=⟨fun u v w=>by
 have i171_10000:=fun (w : World) (a b : Array Value)=>run_equalIn_agg (P:=Tryz.prog) w 9999 171 a b (by simp [Program.fieldsOf,Tryz.underlying171]) (by kernel_rfl)
 have i132_9999:=fun (w : World) (a b : Array Value)=>run_equalIn_agg (P:=Tryz.prog) w 9998 132 a b (by simp [Program.fieldsOf,Tryz.underlying132]) (by kernel_rfl)
 have i3_9998:=fun (w : World) (a b : Int)=>run_equalIn_int (P:=Tryz.prog) w 9997 3 .i64 .i64 a b Tryz.underlying3
 rw [i171_10000]
 simp [Program.fieldsOf,Op.eqFields,part,y1x,i171_10000,Tryz.underlying171,i132_9999,Tryz.underlying132,i3_9998]
 rcases u with ⟨⟨u1,u2⟩,⟨u3,u4⟩⟩
 rcases v with ⟨⟨v1,v2⟩,⟨v3,v4⟩⟩
 by_cases h1 : u1 = v1 <;> by_cases h2 : u2 = v2 <;> by_cases h3 : u3 = v3 <;> by_cases h4 : u4 = v4 <;> simp [h1,h2,h3,h4],by kernel_rfl⟩
theorem z6Y : y5A Tryz.prog 175:=y3E Tryz.underlying175 rfl
theorem y7Y : yO Tryz.prog 262 0 0:=yF (i:=Tryz.t39) Tryz.underlying262 rfl rfl (by decide) rfl
theorem z1I : elT Tryz.prog 175 132 2 16:=⟨Tryz.underlying175,⟨Tryz.t132,_,rfl,rfl,rfl,rfl,rfl⟩,by decide⟩
theorem znu : y4F Tryz.prog 175 1:=y2W (i:=Tryz.t175) rfl
theorem zw0 : EqT Tryz.prog 132 yu:=⟨fun u v w=>by
 have i132_10000:=fun (w : World) (a b : Array Value)=>run_equalIn_agg (P:=Tryz.prog) w 9999 132 a b (by simp [Program.fieldsOf,Tryz.underlying132]) (by kernel_rfl)
 have i3_9999:=fun (w : World) (a b : Int)=>run_equalIn_int (P:=Tryz.prog) w 9998 3 .i64 .i64 a b Tryz.underlying3
 rw [i132_10000]
 simp [Program.fieldsOf,Op.eqFields,part,yu,i132_10000,Tryz.underlying132,i3_9999]
 rcases u with ⟨u1,u2⟩
 rcases v with ⟨v1,v2⟩
 by_cases h1 : u1 = v1 <;> by_cases h2 : u2 = v2 <;> simp [h1,h2],by kernel_rfl⟩
theorem yfn : fldT Tryz.prog 171 1 2 132:=fldT_of Tryz.underlying171 rfl rfl rfl
theorem y4v : yO Tryz.prog 225 0 0:=yF (i:=Tryz.t39) Tryz.underlying225 rfl rfl (by decide) rfl
theorem ydN : yO Tryz.prog 177 3 6:=yF (i:=Tryz.t175) Tryz.underlying177 rfl rfl (by decide) rfl
theorem zw1 : y5A Tryz.prog 174:=y3E Tryz.underlying174 rfl
theorem zw2 : elT Tryz.prog 138 39 1 8:=⟨Tryz.underlying138,⟨Tryz.t39,_,rfl,rfl,rfl,rfl,rfl⟩,by decide⟩
theorem yeQ : y4F Tryz.prog 58 4:=y2W (i:=Tryz.t58) rfl
theorem y8L : y6c Tryz.prog 58 4:=y4N (i:=Tryz.t58) Tryz.underlying58 rfl rfl
theorem y5G : elT Tryz.prog 35 58 4 32:=⟨Tryz.underlying35,⟨Tryz.t58,_,rfl,rfl,rfl,rfl,rfl⟩,by decide⟩
theorem sizT_35 : y4F Tryz.prog 35 1:=y2W (i:=Tryz.t35) rfl
theorem ybb : yO Tryz.prog 58 0 0:=yF (i:=Tryz.t3) Tryz.underlying58 rfl rfl (by decide) rfl
theorem ycD : yO Tryz.prog 58 1 1:=yF (i:=Tryz.t3) Tryz.underlying58 rfl rfl (by decide) rfl
theorem yeR : yO Tryz.prog 58 2 2:=yF (i:=Tryz.t3) Tryz.underlying58 rfl rfl (by decide) rfl
theorem y9B : elT Tryz.prog 36 79 3 24:=⟨Tryz.underlying36,⟨Tryz.t79,_,rfl,rfl,rfl,rfl,rfl⟩,by decide⟩
theorem yeS : yO Tryz.prog 79 1 1:=yF (i:=Tryz.t3) Tryz.underlying79 rfl rfl (by decide) rfl
theorem y8M : yO Tryz.prog 38 1 1:=yF (i:=Tryz.t36) Tryz.underlying38 rfl rfl (by decide) rfl
theorem sizT_36 : y4F Tryz.prog 36 1:=y2W (i:=Tryz.t36) rfl
theorem y9C : y5A Tryz.prog 36:=y3E Tryz.underlying36 rfl
theorem ydO : EqT Tryz.prog 58 e58:=⟨fun u v w=>by
 have i58_10000:=fun (w : World) (a b : Array Value)=>run_equalIn_agg (P:=Tryz.prog) w 9999 58 a b (by simp [Program.fieldsOf,Tryz.underlying58]) (by kernel_rfl)
 have i3_9999:=fun (w : World) (a b : Int)=>run_equalIn_int (P:=Tryz.prog) w 9998 3 .i64 .i64 a b Tryz.underlying3
 rw [i58_10000]
 simp [Program.fieldsOf,Op.eqFields,part,e58,i58_10000,Tryz.underlying58,i3_9999]
 rcases u with ⟨u1,u2,u3,u4⟩
 rcases v with ⟨v1,v2,v3,v4⟩
 by_cases h1 : u1 = v1 <;> by_cases h2 : u2 = v2 <;> by_cases h3 : u3 = v3 <;> by_cases h4 : u4 = v4 <;> simp [h1,h2,h3,h4],by kernel_rfl⟩
theorem yeT : y6c Tryz.prog 79 3:=y4N (i:=Tryz.t79) Tryz.underlying79 rfl rfl
theorem eqT_79 : EqT Tryz.prog 79 e79:=⟨fun u v w=>by
 have i79_10000:=fun (w : World) (a b : Array Value)=>run_equalIn_agg (P:=Tryz.prog) w 9999 79 a b (by simp [Program.fieldsOf,Tryz.underlying79]) (by kernel_rfl)
 have i3_9999:=fun (w : World) (a b : Int)=>run_equalIn_int (P:=Tryz.prog) w 9998 3 .i64 .i64 a b Tryz.underlying3
 rw [i79_10000]
 simp [Program.fieldsOf,Op.eqFields,part,e79,i79_10000,Tryz.underlying79,i3_9999]
 rcases u with ⟨u1,u2,u3⟩
 rcases v with ⟨v1,v2,v3⟩
 by_cases h1 : u1 = v1 <;> by_cases h2 : u2 = v2 <;> by_cases h3 : u3 = v3 <;> simp [h1,h2,h3],by kernel_rfl⟩
theorem zeroT_48 : y2D Tryz.prog 48 (.slice none 0 0):=y2E (i:=Tryz.t48) rfl rfl
theorem sizT_48 : y4F Tryz.prog 48 1:=y2W (i:=Tryz.t48) rfl
def y4e (routes_60 : List (List Sapi_Hop)) (z8L : Option Bool) : Nat → Int → Option Bool
 | 0,_=>none
 | znv + 1,z52=>if decide (z52 < ((routes_60.length : Nat) : Int)) then chk ((0 : Int) ≤ z52 ∧ z52 < ((routes_60.length : Nat) : Int)) (if decide ((((nth routes_60 z52).length : Nat) : Int) > 40) then some false else y4e routes_60 z8L znv (i64 (z52 + 1))) else z8L
theorem yan {n : Nat} {routes_60 : List (List Sapi_Hop)} {z8L : Option Bool} {z52 : Int} {r : Bool} (h : y4e routes_60 z8L n z52 = some r) : ∃ m,n = m + 1:=by
 cases n with
 | zero=>cases h
 | succ m=>exact ⟨m,rfl⟩
def y74 (c_35 : Sapi_Config) (routes_60 : List (List Sapi_Hop)) : Option Bool :=
 if ((((decide (((c_35.fModules.length : Nat) : Int) > 8)) || (decide (((c_35.fSwitches.length : Nat) : Int) > 8))) || (decide (((c_35.fLinks.length : Nat) : Int) > 20))) || (decide (((c_35.fVLs.length : Nat) : Int) > 20))) || (decide (((routes_60.length : Nat) : Int) > 20)) then some false else jp0 (some true) fun z8L=>y4e routes_60 z8L yz 0
theorem yev (Z : Zp) (ao_36 : Option Addr) (cap_37 : Nat) (ao_39 : Option Addr) (cap_40 : Nat) (ao_42 : Option Addr) (cap_43 : Nat) (ao_45 : Option Addr) (cap_46 : Nat) (ao_48 : Option Addr) (cap_49 : Nat) (ao_51 : Option Addr) (cap_52 : Nat) (ao_54 : Option Addr) (cap_55 : Nat) (ao_57 : Option Addr) (cap_58 : Nat) (ao_61 : Option Addr) (cap_62 : Nat) (c_35 : Sapi_Config) (routes_60 : List (List Sapi_Hop)) (r : Bool)
  (h : y74 c_35 routes_60 = some r) (w₀ : World) (hz : PZ [] w₀ Z)
  (hs_38 : ZS Z 4 (y48 Z) ao_36 cap_37 c_35.fModules)
  (hs_41 : ZS Z 4 (y4H Z) ao_39 cap_40 c_35.fChannels)
  (hs_44 : ZS Z 4 (fun r x=>r = e66 x) ao_42 cap_43 c_35.fSwitches)
  (hs_47 : ZS Z 4 (fun r x=>r = e64 x) ao_45 cap_46 c_35.fLinks)
  (hs_50 : ZS Z 7 (p46 Z) ao_48 cap_49 c_35.fVLs)
  (hs_53 : ZS Z 5 (fun r x=>r = y4U x) ao_51 cap_52 c_35.fHealth)
  (hs_56 : ZS Z 3 (y4I Z) ao_54 cap_55 c_35.fCauses)
  (hs_59 : ZS Z 4 (fun r x=>r = y4V x) ao_57 cap_58 c_35.fVersions)
  (hs_63 : ZS Z 1 (p48 Z) ao_61 cap_62 routes_60) :
  Calls Tryz.prog 8 #[(.agg #[(.slice ao_36 c_35.fModules.length cap_37),(.slice ao_39 c_35.fChannels.length cap_40),(.slice ao_42 c_35.fSwitches.length cap_43),(.slice ao_45 c_35.fLinks.length cap_46),(.slice ao_48 c_35.fVLs.length cap_49),(.slice ao_51 c_35.fHealth.length cap_52),(.slice ao_54 c_35.fCauses.length cap_55),(.slice ao_57 c_35.fVersions.length cap_58)]),(.slice ao_61 routes_60.length cap_62)] w₀ fun e w'=>e = .returned (.bool r) ∧ Hp [] w₀ w' []:=by
 unfold y74 at h
 refine Calls.yI Tryz.func8 Tryz.ntmps8 ?_
 refine WC.b (WC.a (WL.nA 2 (yH (cs:=[(.slice ao_36 c_35.fModules.length cap_37),(.slice ao_39 c_35.fChannels.length cap_40),(.slice ao_42 c_35.fSwitches.length cap_43),(.slice ao_45 c_35.fLinks.length cap_46),(.slice ao_48 c_35.fVLs.length cap_49),(.slice ao_51 c_35.fHealth.length cap_52),(.slice ao_54 c_35.fCauses.length cap_55),(.slice ao_57 c_35.fVersions.length cap_58)]) rfl rfl) ?_))
 intro zRn _
 refine WL.pu rfl (WL.nil (WX.a (WC.b (WC.b (WC.a (WL.qA 7 (ya y67 rfl rfl) (WL.qA 8 (yc y68 rfl (yj .here rfl)) (WL.qA 9 (yG Tryz.underlying22 rfl) (WL.pu rfl (WL.pu rfl (WL.seg false 4 11 (B:=(decide (((c_35.fModules.length : Nat) : Int) > 8)) || (decide (((c_35.fSwitches.length : Nat) : Int) > 8))) rfl rfl rfl rfl rfl rfl (fun h=>(y6V h).symm) (fun _ zDo=>?_) ?_)))))))))))
 ·skip
  refine WL.qA 12 (ya y8G rfl rfl) (WL.qA 13 (yc y8H rfl (yj .here rfl)) (WL.qA 14 (yG Tryz.underlying24 rfl) (WL.pu rfl (WL.pu rfl ?_))))
  exact WL.yB (y6W zDo) rfl rfl .all
 refine WL.pu rfl (WL.seg false 4 17 (B:=((decide (((c_35.fModules.length : Nat) : Int) > 8)) || (decide (((c_35.fSwitches.length : Nat) : Int) > 8))) || (decide (((c_35.fLinks.length : Nat) : Int) > 20))) rfl rfl rfl rfl rfl rfl (fun h=>(y6V h).symm) (fun _ zDp=>?_) ?_)
 ·skip
  refine WL.qA 18 (ya y7T rfl rfl) (WL.qA 19 (yc y7U rfl (yj .here rfl)) (WL.qA 20 (yG Tryz.underlying25 rfl) (WL.pu rfl (WL.pu rfl ?_))))
  exact WL.yB (y6W zDp) rfl rfl .all
 refine WL.pu rfl (WL.seg false 4 23 (B:=(((decide (((c_35.fModules.length : Nat) : Int) > 8)) || (decide (((c_35.fSwitches.length : Nat) : Int) > 8))) || (decide (((c_35.fLinks.length : Nat) : Int) > 20))) || (decide (((c_35.fVLs.length : Nat) : Int) > 20))) rfl rfl rfl rfl rfl rfl (fun h=>(y6V h).symm) (fun _ zDq=>?_) ?_)
 ·skip
  refine WL.qA 24 (ya y5D rfl rfl) (WL.qA 25 (yc y5E rfl (yj .here rfl)) (WL.qA 26 (yG Tryz.underlying26 rfl) (WL.pu rfl (WL.pu rfl ?_))))
  exact WL.yB (y6W zDq) rfl rfl .all
 refine WL.pu rfl (WL.seg false 3 29 (B:=((((decide (((c_35.fModules.length : Nat) : Int) > 8)) || (decide (((c_35.fSwitches.length : Nat) : Int) > 8))) || (decide (((c_35.fLinks.length : Nat) : Int) > 20))) || (decide (((c_35.fVLs.length : Nat) : Int) > 20))) || (decide (((routes_60.length : Nat) : Int) > 20))) rfl rfl rfl rfl rfl rfl (fun h=>(y6V h).symm) (fun _ zDr=>?_) ?_)
 ·skip
  refine WL.pu rfl (WL.qA 31 (yG Tryz.underlying32 rfl) (WL.pu rfl (WL.pu rfl ?_)))
  exact WL.yB (y6W zDr) rfl rfl .all
 refine WL.nil (WX.a (WC.cond rfl (fun znw=>?_) (fun znw=>?_)))
 ·replace h:=yo h znw
  refine WC.b (WC.a (WL.pu rfl (WL.nil (WX.a (WC.ret (WX.yd ?_))))))
  obtain rfl:=Option.some.inj h
  refine WX.ye Tryz.results8 (.tmp rfl .nil) (fun w hw=>?_)
  exact ⟨yC rfl,hw.sub .nil⟩
 ·replace h:=yp h znw
  refine WC.skip (WX.a ?_)
  obtain ⟨z8L,zDs,h⟩:=y2i h
  refine WC.y1G ((z8L = some r)) ([]) ([]) ?_ ?_
  ·skip
   refine WC.b (WC.a (WL.pu rfl (WL.qA 35 (yG Tryz.underlying32 rfl) (WL.pu rfl (WL.nil (WX.a (WC.block (WC.y2S (fun (zeN : Nat) (z52 : Int)=>(y4e routes_60 z8L zeN z52 = some r)) (fun zeN z52=>[(34,(.slice ao_61 routes_60.length cap_62)),(35,(.int .i64 ((routes_60.length : Nat) : Int))),(36,(.int .i64 z52))]) (fun zeN z52=>[]) (fun zeN z52=>zeN) ⟨yz,0⟩ h (.r3 rfl rfl rfl) .nil ?_))))))))
   rintro zeN z52 h
   obtain ⟨znv,rfl⟩:=yan h
   rw [y4e] at h
   refine WC.b (WC.a (WL.pu rfl (WL.nil (WX.a (WC.b (WC.cond rfl (fun znx=>?_) (fun znx=>?_)))))))
   ·replace h:=yo h znx
    refine WC.skip (WX.a (WC.b (WC.block (WC.b ?_))))
    obtain ⟨zDt,h⟩:=ym h
    refine WC.a (WL.znth (dd:=38) rfl rfl (Z:=Z) (Pr:=(p48 Z)) y73 rfl rfl hs_63 zDt ?_)
    rintro zRo zRp zDu zRq ⟨zRr,zRs,rfl,zRt⟩
    refine WL.qA 39 (yc y6H rfl (y53 hz.pv zDu rfl)) (WL.pu rfl (WL.nil (WX.a (WC.b (WC.a (WL.pu rfl (WL.qA 41 (yG Tryz.underlying48 rfl) (WL.pu rfl (WL.nil (WX.a (WC.cond rfl (fun zny=>?_) (fun zny=>?_))))))))))))
    ·replace h:=yo h zny
     refine WC.b (WC.a (WL.pu rfl (WL.nil (WX.a (WC.ret (WX.yt (WX.yd (WX.yd (WX.yt (WX.yd ?_))))))))))
     obtain rfl:=Option.some.inj h
     refine WX.ye Tryz.results8 (.tmp rfl .nil) (fun w hw=>?_)
     exact ⟨yC rfl,hw.sub .nil⟩
    ·replace h:=yp h zny
     refine WC.skip (WX.yq (WX.a (WC.a (WL.pu rfl (WL.pu rfl (WL.nil ?_))))))
     exact WX.round ⟨znv,(i64 (z52 + 1))⟩ h (Nat.lt_succ_self _) (.r3 rfl rfl rfl) .nil
   ·replace h:=yp h znx
    refine WC.exit (WX.yg (WX.yg (WX.yA ?_)))
    exact WX.mid () h .nil .nil
  ·rintro  h
   replace h:=zDs.symm.trans h
   refine WC.b (WC.a (WL.pu rfl (WL.nil (WX.a (WC.ret ?_)))))
   obtain rfl:=Option.some.inj h
   refine WX.ye Tryz.results8 (.tmp rfl .nil) (fun w hw=>?_)
   exact ⟨yC rfl,hw.sub .nil⟩
def y7A  : Option (Sapi_Config × List (List Sapi_Hop)) :=
 some ((⟨([(⟨⟨#[109]⟩,0,0,[]⟩ : Sapi_Module),(⟨⟨#[110]⟩,0,0,[]⟩ : Sapi_Module)] : List Sapi_Module),[],([(⟨⟨#[115]⟩,0,16,100⟩ : Sapi_Switch)] : List Sapi_Switch),([(⟨⟨#[109]⟩,⟨#[115]⟩,0,1⟩ : Sapi_Link),(⟨⟨#[110]⟩,⟨#[115]⟩,0,1⟩ : Sapi_Link)] : List Sapi_Link),([(⟨⟨#[]⟩,(⟨⟨#[]⟩,⟨#[]⟩,⟨#[]⟩⟩ : Sapi_Ref),200,40,[]⟩ : Sapi_VL)] : List Sapi_VL),[],[],[]⟩ : Sapi_Config),([([(⟨0,2,0⟩ : Sapi_Hop),(⟨2,1,1⟩ : Sapi_Hop)] : List Sapi_Hop)] : List (List Sapi_Hop)))
theorem yc8 (Z : Zp)  (r : Sapi_Config × List (List Sapi_Hop))
  (h : y7A = some r) (w₀ : World) (hz : PZ [] w₀ Z) :
  Calls Tryz.prog 14 #[] w₀ fun e w'=>∃ Zn : Zp,∃ zw3 : Option Addr,∃ zw4 : Nat,∃ zw5 : List Value,∃ zw6 : Option Addr,∃ zw7 : Nat,∃ zw8 : Option Addr,∃ zw9 : Nat,∃ zwa : Option Addr,∃ zwb : Nat,∃ zwc : Option Addr,∃ zwd : Nat,∃ zwe : List Value,∃ zwf : Option Addr,∃ zwg : Nat,∃ zwh : Option Addr,∃ zwi : Nat,∃ zwj : Option Addr,∃ zwk : Nat,∃ zwl : Option Addr,∃ zwm : Nat,∃ zwn : List Value,e = .returned (.tuple #[(.agg #[(.slice zw3 r.1.fModules.length zw4),(.slice zw6 r.1.fChannels.length zw7),(.slice zw8 r.1.fSwitches.length zw9),(.slice zwa r.1.fLinks.length zwb),(.slice zwc r.1.fVLs.length zwd),(.slice zwf r.1.fHealth.length zwg),(.slice zwh r.1.fCauses.length zwi),(.slice zwj r.1.fVersions.length zwk)]),(.slice zwl r.2.length zwm)]) ∧ ((RR 4 (y48 (Z ++ Zn)) zw5 r.1.fModules) ∧ (ZS (Z ++ Zn) 4 (y4H (Z ++ Zn)) zw6 zw7 r.1.fChannels) ∧ (RR 7 (p46 (Z ++ Zn)) zwe r.1.fVLs) ∧ (ZS (Z ++ Zn) 5 (fun r x=>r = y4U x) zwf zwg r.1.fHealth) ∧ (ZS (Z ++ Zn) 3 (y4I (Z ++ Zn)) zwh zwi r.1.fCauses) ∧ (ZS (Z ++ Zn) 4 (fun r x=>r = y4V x) zwj zwk r.1.fVersions) ∧ (RR 1 (p48 (Z ++ Zn)) zwn r.2)) ∧ Hp [] w₀ w' [fz Zn,row (.slice zw3 r.1.fModules.length zw4) 108 4 zw5,row (.slice zw8 r.1.fSwitches.length zw9) 66 4 (r.1.fSwitches.flatMap e66),row (.slice zwa r.1.fLinks.length zwb) 64 4 (r.1.fLinks.flatMap e64),row (.slice zwc r.1.fVLs.length zwd) 46 7 zwe,row (.slice zwl r.2.length zwm) 48 1 zwn]:=by
 unfold y7A at h
 refine Calls.on0 Tryz.func14 Tryz.ntmps14 ?_
 refine WC.pool (WC.b (WC.a (WL.nA 0 (yx (cs:=[(.slice none 0 0),(.slice none 0 0),(.slice none 0 0),(.slice none 0 0),(.slice none 0 0),(.slice none 0 0),(.slice none 0 0),(.slice none 0 0)]) ybJ rfl) ?_)))
 intro zRu _
 refine WL.pu rfl (WL.nil (WX.a (WC.b (WC.a (WL.qA 3 (yL (v:=(.agg #[(.string ⟨#[109]⟩),(.int .i64 0),(.int .i64 0),(.slice none 0 0)])) (Eos.parts (l:=[.const (.string ⟨#[109]⟩)]) (.cons rfl .nil) [0]) (fun _=>by kernel_rfl)) (WL.qA 4 (yL (v:=(.agg #[(.string ⟨#[110]⟩),(.int .i64 0),(.int .i64 0),(.slice none 0 0)])) (Eos.parts (l:=[.const (.string ⟨#[110]⟩)]) (.cons rfl .nil) [0]) (fun _=>by kernel_rfl)) ?_))))))
 have zDv : RR 4 (y48 (Z ++ [])) [(.string ⟨#[109]⟩),(.int .i64 0),(.int .i64 0),(.slice none 0 0),(.string ⟨#[110]⟩),(.int .i64 0),(.int .i64 0),(.slice none 0 0)] ([(⟨⟨#[109]⟩,0,0,[]⟩ : Sapi_Module),(⟨⟨#[110]⟩,0,0,[]⟩ : Sapi_Module)] : List Sapi_Module):=(RR.cons (r:=[(.string ⟨#[109]⟩),(.int .i64 0),(.int .i64 0),(.slice none 0 0)]) rfl (show y48 _ _ _ from ⟨_,_,rfl,(ZS.nil _ _ _)⟩) (RR.cons (r:=[(.string ⟨#[110]⟩),(.int .i64 0),(.int .i64 0),(.slice none 0 0)]) rfl (show y48 _ _ _ from ⟨_,_,rfl,(ZS.nil _ _ _)⟩) (RR.nil _ _)))
 refine WL.nA 5 (yX (cs:=[(.string ⟨#[109]⟩),(.int .i64 0),(.int .i64 0),(.slice none 0 0),(.string ⟨#[110]⟩),(.int .i64 0),(.int .i64 0),(.slice none 0 0)]) elT_22 (Eos.parts (l:=[.tmp 3,.tmp 4]) (.r2 rfl rfl) [0,1]) (fun _=>by kernel_rfl) rfl (by unfold maxLen; omega)) ?_
 intro zwo _
 refine WL.qA 6 (yL (v:=(.agg #[(.string ⟨#[115]⟩),(.int .i64 0),(.int .i64 16),(.int .i64 100)])) (Eos.parts (l:=[.const (.string ⟨#[115]⟩),.const (.int .i64 16),.const (.int .i64 100)]) (.r3 rfl rfl rfl) [0,2,3]) (fun _=>by kernel_rfl)) (WL.nA 7 (yX (cs:=([(⟨⟨#[115]⟩,0,16,100⟩ : Sapi_Switch)] : List Sapi_Switch).flatMap e66) yaN (Eos.parts (l:=[.tmp 6]) (.cons rfl .nil) [0]) (fun _=>by kernel_rfl) rfl (by unfold maxLen; omega)) ?_)
 intro zwp _
 refine WL.qA 8 (yL (v:=(.agg #[(.string ⟨#[109]⟩),(.string ⟨#[115]⟩),(.int .i64 0),(.int .i64 1)])) (Eos.parts (l:=[.const (.string ⟨#[109]⟩),.const (.string ⟨#[115]⟩),.const (.int .i64 1)]) (.r3 rfl rfl rfl) [0,1,3]) (fun _=>by kernel_rfl)) (WL.qA 9 (yL (v:=(.agg #[(.string ⟨#[110]⟩),(.string ⟨#[115]⟩),(.int .i64 0),(.int .i64 1)])) (Eos.parts (l:=[.const (.string ⟨#[110]⟩),.const (.string ⟨#[115]⟩),.const (.int .i64 1)]) (.r3 rfl rfl rfl) [0,1,3]) (fun _=>by kernel_rfl)) (WL.nA 10 (yX (cs:=([(⟨⟨#[109]⟩,⟨#[115]⟩,0,1⟩ : Sapi_Link),(⟨⟨#[110]⟩,⟨#[115]⟩,0,1⟩ : Sapi_Link)] : List Sapi_Link).flatMap e64) yaO (Eos.parts (l:=[.tmp 8,.tmp 9]) (.r2 rfl rfl) [0,1]) (fun _=>by kernel_rfl) rfl (by unfold maxLen; omega)) ?_))
 intro zwq _
 refine WL.qA 11 (yL (v:=(.agg #[(.string ⟨#[]⟩),(.string ⟨#[]⟩),(.string ⟨#[]⟩),(.string ⟨#[]⟩),(.int .i64 200),(.int .i64 40),(.slice none 0 0)])) (Eos.parts (l:=[.const (.int .i64 200),.const (.int .i64 40)]) (.r2 rfl rfl) [2,3]) (fun _=>by kernel_rfl)) ?_
 have zDw : RR 7 (p46 (Z ++ [])) [(.string ⟨#[]⟩),(.string ⟨#[]⟩),(.string ⟨#[]⟩),(.string ⟨#[]⟩),(.int .i64 200),(.int .i64 40),(.slice none 0 0)] ([(⟨⟨#[]⟩,(⟨⟨#[]⟩,⟨#[]⟩,⟨#[]⟩⟩ : Sapi_Ref),200,40,[]⟩ : Sapi_VL)] : List Sapi_VL):=(RR.cons (r:=[(.string ⟨#[]⟩),(.string ⟨#[]⟩),(.string ⟨#[]⟩),(.string ⟨#[]⟩),(.int .i64 200),(.int .i64 40),(.slice none 0 0)]) rfl (show p46 _ _ _ from ⟨_,_,rfl,(ZS.nil _ _ _)⟩) (RR.nil _ _))
 refine WL.nA 12 (yX (cs:=[(.string ⟨#[]⟩),(.string ⟨#[]⟩),(.string ⟨#[]⟩),(.string ⟨#[]⟩),(.int .i64 200),(.int .i64 40),(.slice none 0 0)]) y89 (Eos.parts (l:=[.tmp 11]) (.cons rfl .nil) [0]) (fun _=>by kernel_rfl) rfl (by unfold maxLen; omega)) ?_
 intro zwr _
 refine WL.qA 13 (yL (v:=(.agg #[(.slice (some ⟨zwo,0,none⟩) (([(⟨⟨#[109]⟩,0,0,[]⟩ : Sapi_Module),(⟨⟨#[110]⟩,0,0,[]⟩ : Sapi_Module)] : List Sapi_Module).length) 2),(.slice none 0 0),(.slice (some ⟨zwp,0,none⟩) (([(⟨⟨#[115]⟩,0,16,100⟩ : Sapi_Switch)] : List Sapi_Switch).length) 1),(.slice (some ⟨zwq,0,none⟩) (([(⟨⟨#[109]⟩,⟨#[115]⟩,0,1⟩ : Sapi_Link),(⟨⟨#[110]⟩,⟨#[115]⟩,0,1⟩ : Sapi_Link)] : List Sapi_Link).length) 2),(.slice (some ⟨zwr,0,none⟩) (([(⟨⟨#[]⟩,(⟨⟨#[]⟩,⟨#[]⟩,⟨#[]⟩⟩ : Sapi_Ref),200,40,[]⟩ : Sapi_VL)] : List Sapi_VL).length) 1),(.slice none 0 0),(.slice none 0 0),(.slice none 0 0)])) (Eos.parts (l:=[.tmp 5,.tmp 7,.tmp 10,.tmp 12]) (.r4 rfl rfl rfl rfl) [0,2,3,4]) (fun _=>by kernel_rfl)) (WL.nA 2 (yx (cs:=[(.slice none 0 0),(.slice none 0 0),(.slice none 0 0),(.slice none 0 0),(.slice none 0 0),(.slice none 0 0),(.slice none 0 0),(.slice none 0 0)]) ybJ rfl) ?_)
 intro zRv _
 refine WL.yl rfl rfl (yk ycz rfl rfl rfl .here rfl rfl rfl) (WL.nil (WX.a (WC.b (WC.a (WL.qA 14 (yf y2X rfl (yh .here) rfl) (WL.qA 15 (yL (v:=(.agg #[(.int .i64 0),(.int .i64 2),(.int .i64 0)])) (Eos.parts (l:=[.const (.int .i64 0),.const (.int .i64 2),.const (.int .i64 0)]) (.r3 rfl rfl rfl) [0,1,2]) (fun _=>by kernel_rfl)) (WL.qA 16 (yL (v:=(.agg #[(.int .i64 2),(.int .i64 1),(.int .i64 1)])) (Eos.parts (l:=[.const (.int .i64 2),.const (.int .i64 1),.const (.int .i64 1)]) (.r3 rfl rfl rfl) [0,1,2]) (fun _=>by kernel_rfl)) (WL.nA 17 (yX (cs:=([(⟨0,2,0⟩ : Sapi_Hop),(⟨2,1,1⟩ : Sapi_Hop)] : List Sapi_Hop).flatMap e62) y61 (Eos.parts (l:=[.tmp 15,.tmp 16]) (.r2 rfl rfl) [0,1]) (fun _=>by kernel_rfl) rfl (by unfold maxLen; omega)) ?_))))))))
 intro zkL _
 refine WL.freezeS (ls:=([(⟨0,2,0⟩ : Sapi_Hop),(⟨2,1,1⟩ : Sapi_Hop)] : List Sapi_Hop)) .here .h6 hz (RR.flat (enc:=e62) (fun _=>rfl) _) ?_
 intro zws zwt zDx
 have zDy : RR 1 (p48 (Z ++ zws)) [(.slice (some ⟨zkL,0,none⟩) (([(⟨0,2,0⟩ : Sapi_Hop),(⟨2,1,1⟩ : Sapi_Hop)] : List Sapi_Hop).length) 2)] ([([(⟨0,2,0⟩ : Sapi_Hop),(⟨2,1,1⟩ : Sapi_Hop)] : List Sapi_Hop)] : List (List Sapi_Hop)):=(RR.cons (r:=[(.slice (some ⟨zkL,0,none⟩) (([(⟨0,2,0⟩ : Sapi_Hop),(⟨2,1,1⟩ : Sapi_Hop)] : List Sapi_Hop).length) 2)]) rfl (show p48 _ _ _ from ⟨_,_,rfl,zDx⟩) (RR.nil _ _))
 refine WL.nA 18 (yX (cs:=[(.slice (some ⟨zkL,0,none⟩) (([(⟨0,2,0⟩ : Sapi_Hop),(⟨2,1,1⟩ : Sapi_Hop)] : List Sapi_Hop).length) 2)]) y73 (Eos.parts (l:=[.tmp 17]) (.cons rfl .nil) [0]) (fun _=>by kernel_rfl) rfl (by unfold maxLen; omega)) ?_
 intro zDz _
 refine WL.yl rfl rfl (yk ycz rfl rfl rfl .h7 rfl rfl rfl) (WL.pu rfl (WL.nil (WX.a (WC.ret ?_))))
 obtain rfl:=Option.some.inj h
 refine WX.ye Tryz.results14 (.agg rfl y2X rfl (yh .here) (.tmp rfl .nil)) (fun w hw=>?_)
 exact ⟨zws,(some ⟨zwo,0,none⟩),2,[(.string ⟨#[109]⟩),(.int .i64 0),(.int .i64 0),(.slice none 0 0),(.string ⟨#[110]⟩),(.int .i64 0),(.int .i64 0),(.slice none 0 0)],none,0,(some ⟨zwp,0,none⟩),1,(some ⟨zwq,0,none⟩),2,(some ⟨zwr,0,none⟩),1,[(.string ⟨#[]⟩),(.string ⟨#[]⟩),(.string ⟨#[]⟩),(.string ⟨#[]⟩),(.int .i64 200),(.int .i64 40),(.slice none 0 0)],none,0,none,0,none,0,(some ⟨zDz,0,none⟩),1,[(.slice (some ⟨zkL,0,none⟩) (([(⟨0,2,0⟩ : Sapi_Hop),(⟨2,1,1⟩ : Sapi_Hop)] : List Sapi_Hop).length) 2)],y1U rfl rfl,⟨(zDv.weak (fun _ _ h=>y2d zwt h)),(ZS.nil _ _ _),(zDw.weak (fun _ _ h=>y29 zwt h)),(ZS.nil _ _ _),(ZS.nil _ _ _),(ZS.nil _ _ _),zDy⟩,hw.sub (.s6 .h2 .h6 .h5 .h4 .h3 .h1)⟩
def y4p (z1J : Sapi_Config) : Option Int :=
 some (i64 (((z1J.fModules.length : Nat) : Int) + ((z1J.fSwitches.length : Nat) : Int)))
theorem y9g (Z : Zp) (znz : Option Addr) (znA : Nat) (znB : Option Addr) (znC : Nat) (znD : Option Addr) (znE : Nat) (znF : Option Addr) (znG : Nat) (znH : Option Addr) (znI : Nat) (znJ : Option Addr) (znK : Nat) (znL : Option Addr) (znM : Nat) (znN : Option Addr) (znO : Nat) (z1J : Sapi_Config) (r : Int)
  (h : y4p z1J = some r) (w₀ : World) (hz : PZ [] w₀ Z)
  (zRw : ZS Z 4 (y48 Z) znz znA z1J.fModules)
  (zRx : ZS Z 4 (y4H Z) znB znC z1J.fChannels)
  (zRy : ZS Z 4 (fun r x=>r = e66 x) znD znE z1J.fSwitches)
  (zRz : ZS Z 4 (fun r x=>r = e64 x) znF znG z1J.fLinks)
  (zRA : ZS Z 7 (p46 Z) znH znI z1J.fVLs)
  (zRB : ZS Z 5 (fun r x=>r = y4U x) znJ znK z1J.fHealth)
  (zRC : ZS Z 3 (y4I Z) znL znM z1J.fCauses)
  (zRD : ZS Z 4 (fun r x=>r = y4V x) znN znO z1J.fVersions) :
  Calls Tryz.prog 126 #[(.agg #[(.slice znz z1J.fModules.length znA),(.slice znB z1J.fChannels.length znC),(.slice znD z1J.fSwitches.length znE),(.slice znF z1J.fLinks.length znG),(.slice znH z1J.fVLs.length znI),(.slice znJ z1J.fHealth.length znK),(.slice znL z1J.fCauses.length znM),(.slice znN z1J.fVersions.length znO)])] w₀ fun e w'=>e = .returned (.int .i64 r) ∧ Hp [] w₀ w' []:=by
 unfold y4p at h
 refine Calls.on1 Tryz.func126 Tryz.ntmps126 ?_
 refine WC.b (WC.a (WL.nA 1 (yH (cs:=[(.slice znz z1J.fModules.length znA),(.slice znB z1J.fChannels.length znC),(.slice znD z1J.fSwitches.length znE),(.slice znF z1J.fLinks.length znG),(.slice znH z1J.fVLs.length znI),(.slice znJ z1J.fHealth.length znK),(.slice znL z1J.fCauses.length znM),(.slice znN z1J.fVersions.length znO)]) rfl rfl) ?_))
 intro zRE _
 refine WL.pu rfl (WL.nil (WX.a (WC.b (WC.a (WL.qA 3 (ya y67 rfl rfl) (WL.qA 4 (yc y68 rfl (yj .here rfl)) (WL.qA 5 (yG Tryz.underlying22 rfl) (WL.qA 6 (ya y8G rfl rfl) (WL.qA 7 (yc y8H rfl (yj .here rfl)) (WL.qA 8 (yG Tryz.underlying24 rfl) (WL.pu rfl (WL.pu rfl (WL.nil (WX.a (WC.ret ?_)))))))))))))))
 obtain rfl:=Option.some.inj h
 refine WX.ye Tryz.results126 (.tmp rfl .nil) (fun w hw=>?_)
 exact ⟨yC rfl,hw.sub .nil⟩
def y5H (z1n : Sapi_Config) (z6i : Int) : Option ByteArray :=
 (if decide (z6i < 0) then some true else (y4p z1n).bind fun zwu=>some (decide (z6i ≥ zwu))).bind fun znP=>if znP then some ⟨#[]⟩ else if decide (z6i < ((z1n.fModules.length : Nat) : Int)) then chk ((0 : Int) ≤ z6i ∧ z6i < ((z1n.fModules.length : Nat) : Int)) (some ((nth z1n.fModules z6i).fName)) else chk ((0 : Int) ≤ (i64 (z6i - ((z1n.fModules.length : Nat) : Int))) ∧ (i64 (z6i - ((z1n.fModules.length : Nat) : Int))) < ((z1n.fSwitches.length : Nat) : Int)) (some ((nth z1n.fSwitches (i64 (z6i - ((z1n.fModules.length : Nat) : Int)))).fName))
theorem ycE (Z : Zp) (znQ : Option Addr) (znR : Nat) (znS : Option Addr) (znT : Nat) (znU : Option Addr) (znV : Nat) (znW : Option Addr) (znX : Nat) (znY : Option Addr) (znZ : Nat) (zo0 : Option Addr) (zo1 : Nat) (zo2 : Option Addr) (zo3 : Nat) (zo4 : Option Addr) (zo5 : Nat) (z1n : Sapi_Config) (z6i : Int) (r : ByteArray)
  (h : y5H z1n z6i = some r) (w₀ : World) (hz : PZ [] w₀ Z)
  (zwv : ZS Z 4 (y48 Z) znQ znR z1n.fModules)
  (zDA : ZS Z 4 (y4H Z) znS znT z1n.fChannels)
  (zww : ZS Z 4 (fun r x=>r = e66 x) znU znV z1n.fSwitches)
  (zDB : ZS Z 4 (fun r x=>r = e64 x) znW znX z1n.fLinks)
  (zDC : ZS Z 7 (p46 Z) znY znZ z1n.fVLs)
  (zDD : ZS Z 5 (fun r x=>r = y4U x) zo0 zo1 z1n.fHealth)
  (zDE : ZS Z 3 (y4I Z) zo2 zo3 z1n.fCauses)
  (zDF : ZS Z 4 (fun r x=>r = y4V x) zo4 zo5 z1n.fVersions) :
  Calls Tryz.prog 127 #[(.agg #[(.slice znQ z1n.fModules.length znR),(.slice znS z1n.fChannels.length znT),(.slice znU z1n.fSwitches.length znV),(.slice znW z1n.fLinks.length znX),(.slice znY z1n.fVLs.length znZ),(.slice zo0 z1n.fHealth.length zo1),(.slice zo2 z1n.fCauses.length zo3),(.slice zo4 z1n.fVersions.length zo5)]),(.int .i64 z6i)] w₀ fun e w'=>e = .returned (.string r) ∧ Hp [] w₀ w' []:=by
 unfold y5H at h
 refine Calls.yI Tryz.func127 Tryz.ntmps127 ?_
 refine WC.b (WC.a (WL.nA 2 (yH (cs:=[(.slice znQ z1n.fModules.length znR),(.slice znS z1n.fChannels.length znT),(.slice znU z1n.fSwitches.length znV),(.slice znW z1n.fLinks.length znX),(.slice znY z1n.fVLs.length znZ),(.slice zo0 z1n.fHealth.length zo1),(.slice zo2 z1n.fCauses.length zo3),(.slice zo4 z1n.fVersions.length zo5)]) rfl rfl) ?_))
 intro zRF _
 refine WL.pu rfl (WL.nil (WX.a (WC.b (WC.a (WL.qA 6 (ya y67 rfl rfl) (WL.qA 7 (yc y68 rfl (yj .here rfl)) (WL.qA 8 (yG Tryz.underlying22 rfl) (WL.pu rfl (WL.nil (WX.a (WC.block (WC.b ?_))))))))))))
 obtain ⟨znP,zwx,h⟩:=z7 h
 refine WC.a (WL.pu rfl (WL.pu rfl (WL.pu rfl (WL.seg false 4 20 (B:=znP) rfl rfl rfl rfl rfl rfl (fun h=>(Option.some.inj (yo zwx h)).symm) (fun _ zDG=>?_) ?_))))
 ·skip
  have zhW:=yp zwx zDG
  obtain ⟨zwu,zDH,zhW⟩:=z7 zhW
  replace zhW:=Option.some.inj zhW
  refine WL.pu rfl (WL.qA 22 (yf y2X rfl (yh .here) rfl) (WL.cA 23 (z8 Tryz.call126 (.cons rfl .nil)) .nil (cc hz .nil fun w pz ho=>y9g _ _ _ _ _ _ _ _ _ _ _ _ _ _ _ _ _ _ _ zDH w pz zwv zDA zww zDB zDC zDD zDE zDF) (WL.pu rfl (WL.pu rfl ?_))))
  exact WL.yB zhW rfl rfl .all
 refine WL.pu rfl (WL.nil (WX.a (WC.cond rfl (fun zo6=>?_) (fun zo6=>?_))))
 ·replace h:=yo h zo6
  refine WC.b (WC.a (WL.pu rfl (WL.nil (WX.a (WC.ret (WX.yt ?_))))))
  obtain rfl:=Option.some.inj h
  refine WX.ye Tryz.results127 (.tmp rfl .nil) (fun w hw=>?_)
  exact ⟨yC rfl,hw.sub .nil⟩
 ·replace h:=yp h zo6
  refine WC.b (WC.a (WL.pu rfl (WL.pu rfl (WL.pu rfl (WL.pu rfl (WL.nil (WX.a (WC.cond rfl (fun zo7=>?_) (fun zo7=>?_)))))))))
  ·replace h:=yo h zo7
   refine WC.b ?_
   obtain ⟨zDI,h⟩:=ym h
   refine WC.a (WL.qA 30 (ya y67 rfl rfl) (WL.qA 31 (yc y68 rfl (yj .here rfl)) (WL.pu rfl (WL.znth (dd:=33) rfl rfl (Z:=Z) (Pr:=(y48 Z)) elT_22 rfl rfl zwv zDI ?_))))
   rintro zRG zRH zDJ zRI ⟨zRJ,zRK,rfl,zRL⟩
   refine WL.qA 34 (ya fo_108_0 rfl rfl) (WL.qA 35 (yc yc6 rfl (y1e hz.pv zDJ rfl)) (WL.pu rfl (WL.nil (WX.a (WC.ret (WX.yt ?_))))))
   obtain rfl:=Option.some.inj h
   refine WX.ye Tryz.results127 (.tmp rfl .nil) (fun w hw=>?_)
   exact ⟨yC rfl,hw.sub .nil⟩
  ·replace h:=yp h zo7
   refine WC.b ?_
   obtain ⟨zDK,h⟩:=ym h
   refine WC.a (WL.qA 9 (ya y8G rfl rfl) (WL.qA 10 (yc y8H rfl (yj .here rfl)) (WL.pu rfl (WL.pu rfl (WL.pu rfl (WL.znth (dd:=14) rfl rfl (Z:=Z) (Pr:=(fun r x=>r = e66 x)) yaN rfl rfl zww zDK ?_))))))
   rintro zRM zRN zDL zRO rfl
   refine WL.qA 15 (ya fo_66_0 rfl rfl) (WL.qA 16 (yc yc6 rfl (y1e hz.pv zDL rfl)) (WL.pu rfl (WL.nil (WX.a (WC.ret (WX.yt ?_))))))
   obtain rfl:=Option.some.inj h
   refine WX.ye Tryz.results127 (.tmp rfl .nil) (fun w hw=>?_)
   exact ⟨yC rfl,hw.sub .nil⟩
def y2R (z8M : Int) (z10 : Sapi_Config) (z6Z : ByteArray) (z8N : Option Int) : Nat → Int → Option Int
 | 0,_=>none
 | zo8 + 1,z5u=>if decide (z5u < z8M) then (y5H z10 z5u).bind fun zwy=>if decide (zwy = z6Z) then some z5u else y2R z8M z10 z6Z z8N zo8 (i64 (z5u + 1)) else z8N
theorem y9n {n : Nat} {z8M : Int} {z10 : Sapi_Config} {z6Z : ByteArray} {z8N : Option Int} {z5u : Int} {r : Int} (h : y2R z8M z10 z6Z z8N n z5u = some r) : ∃ m,n = m + 1:=by
 cases n with
 | zero=>cases h
 | succ m=>exact ⟨m,rfl⟩
def y2O (z10 : Sapi_Config) (z6Z : ByteArray) : Option Int :=
 jp0 (some (-1)) fun z8N=>(y4p z10).bind fun z8M=>y2R z8M z10 z6Z z8N yz 0
theorem y9D (Z : Zp) (zkM : Option Addr) (zkN : Nat) (zkO : Option Addr) (zkP : Nat) (zkQ : Option Addr) (zkR : Nat) (zkS : Option Addr) (zkT : Nat) (zkU : Option Addr) (zkV : Nat) (zkW : Option Addr) (zkX : Nat) (zkY : Option Addr) (zkZ : Nat) (zl0 : Option Addr) (zl1 : Nat) (z10 : Sapi_Config) (z6Z : ByteArray) (r : Int)
  (h : y2O z10 z6Z = some r) (w₀ : World) (hz : PZ [] w₀ Z)
  (zwz : ZS Z 4 (y48 Z) zkM zkN z10.fModules)
  (zwA : ZS Z 4 (y4H Z) zkO zkP z10.fChannels)
  (zwB : ZS Z 4 (fun r x=>r = e66 x) zkQ zkR z10.fSwitches)
  (zwC : ZS Z 4 (fun r x=>r = e64 x) zkS zkT z10.fLinks)
  (zwD : ZS Z 7 (p46 Z) zkU zkV z10.fVLs)
  (zwE : ZS Z 5 (fun r x=>r = y4U x) zkW zkX z10.fHealth)
  (zwF : ZS Z 3 (y4I Z) zkY zkZ z10.fCauses)
  (zwG : ZS Z 4 (fun r x=>r = y4V x) zl0 zl1 z10.fVersions) :
  Calls Tryz.prog 93 #[(.agg #[(.slice zkM z10.fModules.length zkN),(.slice zkO z10.fChannels.length zkP),(.slice zkQ z10.fSwitches.length zkR),(.slice zkS z10.fLinks.length zkT),(.slice zkU z10.fVLs.length zkV),(.slice zkW z10.fHealth.length zkX),(.slice zkY z10.fCauses.length zkZ),(.slice zl0 z10.fVersions.length zl1)]),(.string z6Z)] w₀ fun e w'=>e = .returned (.int .i64 r) ∧ Hp [] w₀ w' []:=by
 unfold y2O at h
 refine Calls.yI Tryz.func93 Tryz.ntmps93 ?_
 refine WC.b (WC.a (WL.nA 2 (yH (cs:=[(.slice zkM z10.fModules.length zkN),(.slice zkO z10.fChannels.length zkP),(.slice zkQ z10.fSwitches.length zkR),(.slice zkS z10.fLinks.length zkT),(.slice zkU z10.fVLs.length zkV),(.slice zkW z10.fHealth.length zkX),(.slice zkY z10.fCauses.length zkZ),(.slice zl0 z10.fVersions.length zl1)]) rfl rfl) ?_))
 intro zwH _
 refine WL.pu rfl (WL.nil (WX.a ?_))
 obtain ⟨z8N,zDM,h⟩:=y2i h
 refine WC.y1G ((z8N = some r)) ([]) ([]) ?_ ?_
 ·skip
  refine WC.b ?_
  obtain ⟨z8M,zDN,h⟩:=z7 h
  refine WC.a (WL.qA 6 (yf y2X rfl (yh .here) rfl) (WL.cA 7 (z8 Tryz.call126 (.cons rfl .nil)) .nil (cc hz .nil fun w pz ho=>y9g _ _ _ _ _ _ _ _ _ _ _ _ _ _ _ _ _ _ _ zDN w pz zwz zwA zwB zwC zwD zwE zwF zwG) (WL.pu rfl (WL.nil (WX.a (WC.block (WC.y2S (fun (zeO : Nat) (z5u : Int)=>(y2R z8M z10 z6Z z8N zeO z5u = some r)) (fun zeO z5u=>[(1,(.string z6Z)),(2,(.pointer (some ⟨zwH,0,none⟩))),(7,(.int .i64 z8M)),(8,(.int .i64 z5u))]) (fun zeO z5u=>[stb zwH 31 [(.slice zkM z10.fModules.length zkN),(.slice zkO z10.fChannels.length zkP),(.slice zkQ z10.fSwitches.length zkR),(.slice zkS z10.fLinks.length zkT),(.slice zkU z10.fVLs.length zkV),(.slice zkW z10.fHealth.length zkX),(.slice zkY z10.fCauses.length zkZ),(.slice zl0 z10.fVersions.length zl1)]]) (fun zeO z5u=>zeO) ⟨yz,0⟩ h (.r4 rfl rfl rfl rfl) (.cons .here .nil) ?_)))))))
  rintro zeO z5u h
  obtain ⟨zo8,rfl⟩:=y9n h
  rw [y2R] at h
  refine WC.b (WC.a (WL.pu rfl (WL.nil (WX.a (WC.b (WC.cond rfl (fun zo9=>?_) (fun zo9=>?_)))))))
  ·replace h:=yo h zo9
   refine WC.skip (WX.a (WC.b (WC.block (WC.b (WC.a (WL.pu rfl (WL.pu rfl (WL.nil (WX.a (WC.b ?_))))))))))
   obtain ⟨zwy,zDO,h⟩:=z7 h
   refine WC.a (WL.qA 11 (yf y2X rfl (yh .here) rfl) (WL.pu rfl (WL.cA 13 (z8 Tryz.call127 (.r2 rfl rfl)) .nil (cc hz .nil fun w pz ho=>ycE _ _ _ _ _ _ _ _ _ _ _ _ _ _ _ _ _ _ _ _ zDO w pz zwz zwA zwB zwC zwD zwE zwF zwG) (WL.pu rfl (WL.qA 15 (q_seql rfl rfl) (WL.nil (WX.a (WC.cond rfl (fun zoa=>?_) (fun zoa=>?_)))))))))
   ·replace h:=yo h zoa
    refine WC.b (WC.a (WL.pu rfl (WL.pu rfl (WL.nil (WX.a (WC.ret (WX.yt (WX.yd (WX.yd (WX.yt (WX.yd ?_)))))))))))
    obtain rfl:=Option.some.inj h
    refine WX.ye Tryz.results93 (.tmp rfl .nil) (fun w hw=>?_)
    exact ⟨yC rfl,hw.sub .nil⟩
   ·replace h:=yp h zoa
    refine WC.skip (WX.yq (WX.a (WC.a (WL.pu rfl (WL.pu rfl (WL.nil ?_))))))
    exact WX.round ⟨zo8,(i64 (z5u + 1))⟩ h (Nat.lt_succ_self _) (.r4 rfl rfl rfl rfl) (.cons .here .nil)
  ·replace h:=yp h zo9
   refine WC.exit (WX.yg (WX.yg (WX.yA ?_)))
   exact WX.mid () h .nil .nil
 ·rintro  h
  replace h:=zDM.symm.trans h
  refine WC.b (WC.a (WL.pu rfl (WL.nil (WX.a (WC.ret ?_)))))
  obtain rfl:=Option.some.inj h
  refine WX.ye Tryz.results93 (.tmp rfl .nil) (fun w hw=>?_)
  exact ⟨yC rfl,hw.sub .nil⟩
def y4Q (zu : Sapi_Config) (zaG : Int) (z1T : Int) : Option Bool :=
 if decide (z1T < ((zu.fModules.length : Nat) : Int)) then some (decide (z1T ≥ 0)) else chk ((0 : Int) ≤ (i64 (z1T - ((zu.fModules.length : Nat) : Int))) ∧ (i64 (z1T - ((zu.fModules.length : Nat) : Int))) < ((zu.fSwitches.length : Nat) : Int)) (some (((((decide (((nth zu.fSwitches (i64 (z1T - ((zu.fModules.length : Nat) : Int)))).fNet) = zaG)) && (decide (((nth zu.fSwitches (i64 (z1T - ((zu.fModules.length : Nat) : Int)))).fDelay) ≥ 0))) && (decide (((nth zu.fSwitches (i64 (z1T - ((zu.fModules.length : Nat) : Int)))).fDelay) ≤ 1000))) && (decide (((nth zu.fSwitches (i64 (z1T - ((zu.fModules.length : Nat) : Int)))).fStore) ≥ 0))) && (decide (((nth zu.fSwitches (i64 (z1T - ((zu.fModules.length : Nat) : Int)))).fStore) ≤ 1073741824))))
theorem y9E (Z : Zp) (zob : Option Addr) (zoc : Nat) (zod : Option Addr) (zoe : Nat) (zof : Option Addr) (zog : Nat) (zoh : Option Addr) (zoi : Nat) (zoj : Option Addr) (zol : Nat) (zom : Option Addr) (zon : Nat) (zoo : Option Addr) (zop : Nat) (zoq : Option Addr) (zor : Nat) (zu : Sapi_Config) (zaG : Int) (z1T : Int) (r : Bool)
  (h : y4Q zu zaG z1T = some r) (w₀ : World) (hz : PZ [] w₀ Z)
  (zRP : ZS Z 4 (y48 Z) zob zoc zu.fModules)
  (zRQ : ZS Z 4 (y4H Z) zod zoe zu.fChannels)
  (zDP : ZS Z 4 (fun r x=>r = e66 x) zof zog zu.fSwitches)
  (zRR : ZS Z 4 (fun r x=>r = e64 x) zoh zoi zu.fLinks)
  (zRS : ZS Z 7 (p46 Z) zoj zol zu.fVLs)
  (zRT : ZS Z 5 (fun r x=>r = y4U x) zom zon zu.fHealth)
  (zRU : ZS Z 3 (y4I Z) zoo zop zu.fCauses)
  (zRV : ZS Z 4 (fun r x=>r = y4V x) zoq zor zu.fVersions) :
  Calls Tryz.prog 94 #[(.agg #[(.slice zob zu.fModules.length zoc),(.slice zod zu.fChannels.length zoe),(.slice zof zu.fSwitches.length zog),(.slice zoh zu.fLinks.length zoi),(.slice zoj zu.fVLs.length zol),(.slice zom zu.fHealth.length zon),(.slice zoo zu.fCauses.length zop),(.slice zoq zu.fVersions.length zor)]),(.int .i64 zaG),(.int .i64 z1T)] w₀ fun e w'=>e = .returned (.bool r) ∧ Hp [] w₀ w' []:=by
 unfold y4Q at h
 refine Calls.on3 Tryz.func94 Tryz.ntmps94 ?_
 refine WC.b (WC.a (WL.nA 3 (yH (cs:=[(.slice zob zu.fModules.length zoc),(.slice zod zu.fChannels.length zoe),(.slice zof zu.fSwitches.length zog),(.slice zoh zu.fLinks.length zoi),(.slice zoj zu.fVLs.length zol),(.slice zom zu.fHealth.length zon),(.slice zoo zu.fCauses.length zop),(.slice zoq zu.fVersions.length zor)]) rfl rfl) ?_))
 intro zRW _
 refine WL.pu rfl (WL.nil (WX.a (WC.b (WC.b (WC.a (WL.pu rfl (WL.qA 9 (ya y67 rfl rfl) (WL.qA 10 (yc y68 rfl (yj .here rfl)) (WL.qA 11 (yG Tryz.underlying22 rfl) (WL.pu rfl (WL.nil (WX.a (WC.cond rfl (fun zos=>?_) (fun zos=>?_))))))))))))))
 ·replace h:=yo h zos
  refine WC.b (WC.a (WL.pu rfl (WL.pu rfl (WL.pu rfl (WL.nil (WX.a (WC.ret (WX.yd ?_))))))))
  obtain rfl:=Option.some.inj h
  refine WX.ye Tryz.results94 (.tmp rfl .nil) (fun w hw=>?_)
  exact ⟨yC rfl,hw.sub .nil⟩
 ·replace h:=yp h zos
  refine WC.skip (WX.a (WC.b ?_))
  obtain ⟨zDQ,h⟩:=ym h
  refine WC.a (WL.qA 15 (ya y8G rfl rfl) (WL.qA 16 (yc y8H rfl (yj .here rfl)) (WL.pu rfl (WL.qA 18 (ya y67 rfl rfl) (WL.qA 19 (yc y68 rfl (yj .here rfl)) (WL.qA 20 (yG Tryz.underlying22 rfl) (WL.pu rfl (WL.znth (dd:=22) rfl rfl (Z:=Z) (Pr:=(fun r x=>r = e66 x)) yaN rfl rfl zDP zDQ ?_))))))))
  rintro zRX zRY zDR zRZ rfl
  refine WL.qA 23 (yf aggT_66 rfl (y2o hz.pv zDR) rfl) (WL.nA 7 (yx (cs:=[(.string ⟨#[]⟩),(.int .i64 0),(.int .i64 0),(.int .i64 0)]) zeroT_66 rfl) ?_)
  intro zS0 _
  refine WL.yl rfl rfl (yk sizT_66 rfl rfl rfl .here rfl rfl rfl) (WL.nil (WX.a (WC.b (WC.a (WL.qA 24 (ya fo_66_1 rfl rfl) (WL.qA 25 (yc yw rfl (yj .here rfl)) (WL.pu rfl (WL.pu rfl (WL.pu rfl (WL.seg true 3 28 (B:=(decide (((nth zu.fSwitches (i64 (z1T - ((zu.fModules.length : Nat) : Int)))).fNet) = zaG)) && (decide (((nth zu.fSwitches (i64 (z1T - ((zu.fModules.length : Nat) : Int)))).fDelay) ≥ 0))) rfl rfl rfl rfl rfl rfl (fun h=>(y2T h).symm) (fun _ zDS=>?_) ?_))))))))))
  ·skip
   refine WL.qA 29 (ya yb9 rfl rfl) (WL.qA 30 (yc yw rfl (yj .here rfl)) (WL.pu rfl (WL.pu rfl ?_)))
   exact WL.yB (y2U zDS) rfl rfl .all
  refine WL.pu rfl (WL.seg true 3 33 (B:=((decide (((nth zu.fSwitches (i64 (z1T - ((zu.fModules.length : Nat) : Int)))).fNet) = zaG)) && (decide (((nth zu.fSwitches (i64 (z1T - ((zu.fModules.length : Nat) : Int)))).fDelay) ≥ 0))) && (decide (((nth zu.fSwitches (i64 (z1T - ((zu.fModules.length : Nat) : Int)))).fDelay) ≤ 1000))) rfl rfl rfl rfl rfl rfl (fun h=>(y2T h).symm) (fun _ zDT=>?_) ?_)
  ·skip
   refine WL.qA 34 (ya yb9 rfl rfl) (WL.qA 35 (yc yw rfl (yj .here rfl)) (WL.pu rfl (WL.pu rfl ?_)))
   exact WL.yB (y2U zDT) rfl rfl .all
  refine WL.pu rfl (WL.seg true 3 38 (B:=(((decide (((nth zu.fSwitches (i64 (z1T - ((zu.fModules.length : Nat) : Int)))).fNet) = zaG)) && (decide (((nth zu.fSwitches (i64 (z1T - ((zu.fModules.length : Nat) : Int)))).fDelay) ≥ 0))) && (decide (((nth zu.fSwitches (i64 (z1T - ((zu.fModules.length : Nat) : Int)))).fDelay) ≤ 1000))) && (decide (((nth zu.fSwitches (i64 (z1T - ((zu.fModules.length : Nat) : Int)))).fStore) ≥ 0))) rfl rfl rfl rfl rfl rfl (fun h=>(y2T h).symm) (fun _ zDU=>?_) ?_)
  ·skip
   refine WL.qA 39 (ya yeO rfl rfl) (WL.qA 40 (yc yw rfl (yj .here rfl)) (WL.pu rfl (WL.pu rfl ?_)))
   exact WL.yB (y2U zDU) rfl rfl .all
  refine WL.pu rfl (WL.seg true 3 43 (B:=((((decide (((nth zu.fSwitches (i64 (z1T - ((zu.fModules.length : Nat) : Int)))).fNet) = zaG)) && (decide (((nth zu.fSwitches (i64 (z1T - ((zu.fModules.length : Nat) : Int)))).fDelay) ≥ 0))) && (decide (((nth zu.fSwitches (i64 (z1T - ((zu.fModules.length : Nat) : Int)))).fDelay) ≤ 1000))) && (decide (((nth zu.fSwitches (i64 (z1T - ((zu.fModules.length : Nat) : Int)))).fStore) ≥ 0))) && (decide (((nth zu.fSwitches (i64 (z1T - ((zu.fModules.length : Nat) : Int)))).fStore) ≤ 1073741824))) rfl rfl rfl rfl rfl rfl (fun h=>(y2T h).symm) (fun _ zDV=>?_) ?_)
  ·skip
   refine WL.qA 44 (ya yeO rfl rfl) (WL.qA 45 (yc yw rfl (yj .here rfl)) (WL.pu rfl (WL.pu rfl ?_)))
   exact WL.yB (y2U zDV) rfl rfl .all
  refine WL.pu rfl (WL.nil (WX.a (WC.ret ?_)))
  obtain rfl:=Option.some.inj h
  refine WX.ye Tryz.results94 (.tmp rfl .nil) (fun w hw=>?_)
  exact ⟨yC rfl,hw.sub .nil⟩
def y5g (zR : Sapi_Config) (z8O : Int) (z2z : Int) (z71 : Int) (z72 : Int) : Option Bool :=
 if (decide (z2z < 0)) || (decide (z2z ≥ ((zR.fLinks.length : Nat) : Int))) then some false else chk ((0 : Int) ≤ z2z ∧ z2z < ((zR.fLinks.length : Nat) : Int)) ((y2O zR ((nth zR.fLinks z2z).fA)).bind fun z6j=>(y2O zR ((nth zR.fLinks z2z).fB)).bind fun z6k=>(if (((decide (((nth zR.fLinks z2z).fNet) = z8O)) && (decide (((nth zR.fLinks z2z).fSlow) ≥ 1))) && (decide (((nth zR.fLinks z2z).fSlow) ≤ 16))) && (decide (z6j ≠ z6k)) then (y4Q zR z8O z6j).bind fun zwI=>some zwI else some false).bind fun zot=>(if zot then (y4Q zR z8O z6k).bind fun zwJ=>some zwJ else some false).bind fun zl2=>some (zl2 && (((decide (z6j = z71)) && (decide (z6k = z72))) || ((decide (z6j = z72)) && (decide (z6k = z71))))))
theorem yc9 (Z : Zp) (zou : Option Addr) (zov : Nat) (zow : Option Addr) (zox : Nat) (zoy : Option Addr) (zoz : Nat) (zoA : Option Addr) (zoB : Nat) (zoC : Option Addr) (zoD : Nat) (zoE : Option Addr) (zoF : Nat) (zoG : Option Addr) (zoH : Nat) (zoI : Option Addr) (zoJ : Nat) (zR : Sapi_Config) (z8O : Int) (z2z : Int) (z71 : Int) (z72 : Int) (r : Bool)
  (h : y5g zR z8O z2z z71 z72 = some r) (w₀ : World) (hz : PZ [] w₀ Z)
  (zl3 : ZS Z 4 (y48 Z) zou zov zR.fModules)
  (zl4 : ZS Z 4 (y4H Z) zow zox zR.fChannels)
  (zl5 : ZS Z 4 (fun r x=>r = e66 x) zoy zoz zR.fSwitches)
  (zhX : ZS Z 4 (fun r x=>r = e64 x) zoA zoB zR.fLinks)
  (zl6 : ZS Z 7 (p46 Z) zoC zoD zR.fVLs)
  (zl7 : ZS Z 5 (fun r x=>r = y4U x) zoE zoF zR.fHealth)
  (zl8 : ZS Z 3 (y4I Z) zoG zoH zR.fCauses)
  (zl9 : ZS Z 4 (fun r x=>r = y4V x) zoI zoJ zR.fVersions) :
  Calls Tryz.prog 56 #[(.agg #[(.slice zou zR.fModules.length zov),(.slice zow zR.fChannels.length zox),(.slice zoy zR.fSwitches.length zoz),(.slice zoA zR.fLinks.length zoB),(.slice zoC zR.fVLs.length zoD),(.slice zoE zR.fHealth.length zoF),(.slice zoG zR.fCauses.length zoH),(.slice zoI zR.fVersions.length zoJ)]),(.int .i64 z8O),(.int .i64 z2z),(.int .i64 z71),(.int .i64 z72)] w₀ fun e w'=>e = .returned (.bool r) ∧ Hp [] w₀ w' []:=by
 unfold y5g at h
 refine Calls.on5 Tryz.func56 Tryz.ntmps56 ?_
 refine WC.b (WC.a (WL.nA 5 (yH (cs:=[(.slice zou zR.fModules.length zov),(.slice zow zR.fChannels.length zox),(.slice zoy zR.fSwitches.length zoz),(.slice zoA zR.fLinks.length zoB),(.slice zoC zR.fVLs.length zoD),(.slice zoE zR.fHealth.length zoF),(.slice zoG zR.fCauses.length zoH),(.slice zoI zR.fVersions.length zoJ)]) rfl rfl) ?_))
 intro zS1 _
 refine WL.pu rfl (WL.nil (WX.a (WC.b (WC.b (WC.a (WL.pu rfl (WL.pu rfl (WL.pu rfl (WL.seg false 5 16 (B:=(decide (z2z < 0)) || (decide (z2z ≥ ((zR.fLinks.length : Nat) : Int)))) rfl rfl rfl rfl rfl rfl (fun h=>(y6V h).symm) (fun _ zDW=>?_) ?_)))))))))
 ·skip
  refine WL.pu rfl (WL.qA 18 (ya y7T rfl rfl) (WL.qA 19 (yc y7U rfl (yj .here rfl)) (WL.qA 20 (yG Tryz.underlying25 rfl) (WL.pu rfl (WL.pu rfl ?_)))))
  exact WL.yB (y6W zDW) rfl rfl .all
 refine WL.nil (WX.a (WC.cond rfl (fun zoK=>?_) (fun zoK=>?_)))
 ·replace h:=yo h zoK
  refine WC.b (WC.a (WL.pu rfl (WL.nil (WX.a (WC.ret (WX.yd ?_))))))
  obtain rfl:=Option.some.inj h
  refine WX.ye Tryz.results56 (.tmp rfl .nil) (fun w hw=>?_)
  exact ⟨yC rfl,hw.sub .nil⟩
 ·replace h:=yp h zoK
  refine WC.skip (WX.a (WC.b ?_))
  obtain ⟨zDX,h⟩:=ym h
  refine WC.a (WL.qA 23 (ya y7T rfl rfl) (WL.qA 24 (yc y7U rfl (yj .here rfl)) (WL.pu rfl (WL.znth (dd:=26) rfl rfl (Z:=Z) (Pr:=(fun r x=>r = e64 x)) yaO rfl rfl zhX zDX ?_))))
  rintro zS2 zS3 zDY zS4 rfl
  refine WL.qA 27 (yf yeM rfl (y2o hz.pv zDY) rfl) (WL.nA 11 (yx (cs:=[(.string ⟨#[]⟩),(.string ⟨#[]⟩),(.int .i64 0),(.int .i64 0)]) ydL rfl) ?_)
  intro zS5 _
  refine WL.yl rfl rfl (yk yeN rfl rfl rfl .here rfl rfl rfl) (WL.nil (WX.a (WC.b ?_)))
  obtain ⟨z6j,zDZ,h⟩:=z7 h
  obtain ⟨z6k,zE0,h⟩:=z7 h
  refine WC.yP (fun i=>[].contains i) [] rfl (WD.qA 0 28 rfl (yf y2X rfl (yh .h1) rfl) (WD.pA 1 29 rfl (fun _=>ya fo_64_0 rfl rfl) (WD.qA 2 30 rfl (yc yc6 rfl (yj .here rfl)) (WD.eA 3 31 rfl (z8 Tryz.call93 (.r2 rfl rfl)) (cc hz .nil fun w pz ho=>y9D _ _ _ _ _ _ _ _ _ _ _ _ _ _ _ _ _ _ _ _ zDZ w pz zl3 zl4 zl5 zhX zl6 zl7 zl8 zl9) (WD.qA 4 32 rfl (yf y2X rfl (yh .h1) rfl) (WD.pA 5 33 rfl (fun _=>ya fo_64_1 rfl rfl) (WD.qA 6 34 rfl (yc yc6 rfl (yj .here rfl)) (WD.eA 7 35 rfl (z8 Tryz.call93 (.r2 rfl rfl)) (cc hz .nil fun w pz ho=>y9D _ _ _ _ _ _ _ _ _ _ _ _ _ _ _ _ _ _ _ _ zE0 w pz zl3 zl4 zl5 zhX zl6 zl7 zl8 zl9) (WD.pA 8 12 rfl (fun _=>q_z rfl) (WD.pA 9 13 rfl (fun _=>q_z rfl) (WD.done (by kernel_rfl) (WX.a (WC.b ?_)))))))))))))
  obtain ⟨zot,zwK,h⟩:=z7 h
  obtain ⟨zl2,zwL,h⟩:=z7 h
  refine WC.a (WL.qA 36 (ya fo_64_2 rfl rfl) (WL.qA 37 (yc yw rfl (yj .here rfl)) (WL.pu rfl (WL.pu rfl (WL.pu rfl (WL.seg true 3 40 (B:=(decide (((nth zR.fLinks z2z).fNet) = z8O)) && (decide (((nth zR.fLinks z2z).fSlow) ≥ 1))) rfl rfl rfl rfl rfl rfl (fun h=>(y2T h).symm) (fun _ zE1=>?_) ?_))))))
  ·skip
   refine WL.qA 41 (ya y8I rfl rfl) (WL.qA 42 (yc yw rfl (yj .here rfl)) (WL.pu rfl (WL.pu rfl ?_)))
   exact WL.yB (y2U zE1) rfl rfl .all
  refine WL.pu rfl (WL.seg true 3 45 (B:=((decide (((nth zR.fLinks z2z).fNet) = z8O)) && (decide (((nth zR.fLinks z2z).fSlow) ≥ 1))) && (decide (((nth zR.fLinks z2z).fSlow) ≤ 16))) rfl rfl rfl rfl rfl rfl (fun h=>(y2T h).symm) (fun _ zE2=>?_) ?_)
  ·skip
   refine WL.qA 46 (ya y8I rfl rfl) (WL.qA 47 (yc yw rfl (yj .here rfl)) (WL.pu rfl (WL.pu rfl ?_)))
   exact WL.yB (y2U zE2) rfl rfl .all
  refine WL.pu rfl (WL.seg true 3 50 (B:=(((decide (((nth zR.fLinks z2z).fNet) = z8O)) && (decide (((nth zR.fLinks z2z).fSlow) ≥ 1))) && (decide (((nth zR.fLinks z2z).fSlow) ≤ 16))) && (decide (z6j ≠ z6k))) rfl rfl rfl rfl rfl rfl (fun h=>(y2T h).symm) (fun _ zE3=>?_) ?_)
  ·skip
   refine WL.pu rfl (WL.pu rfl (WL.pu rfl (WL.pu rfl ?_)))
   exact WL.yB (y2U zE3) rfl rfl .all
  refine WL.pu rfl (WL.seg true 4 55 (B:=zot) rfl rfl rfl rfl rfl rfl (fun h=>(Option.some.inj (yp zwK h)).symm) (fun _ zE4=>?_) ?_)
  ·skip
   have zhY:=yo zwK zE4
   obtain ⟨zwI,zE5,zhY⟩:=z7 zhY
   replace zhY:=Option.some.inj zhY
   refine WL.qA 56 (yf y2X rfl (yh .h1) rfl) (WL.pu rfl (WL.pu rfl (WL.cA 59 (z8 Tryz.call94 (.r3 rfl rfl rfl)) .nil (cc hz .nil fun w pz ho=>y9E _ _ _ _ _ _ _ _ _ _ _ _ _ _ _ _ _ _ _ _ _ zE5 w pz zl3 zl4 zl5 zhX zl6 zl7 zl8 zl9) (WL.pu rfl ?_))))
   exact WL.yB zhY rfl rfl .all
  refine WL.pu rfl (WL.seg true 4 61 (B:=zl2) rfl rfl rfl rfl rfl rfl (fun h=>(Option.some.inj (yp zwL h)).symm) (fun _ zE6=>?_) ?_)
  ·skip
   have zhZ:=yo zwL zE6
   obtain ⟨zwJ,zE7,zhZ⟩:=z7 zhZ
   replace zhZ:=Option.some.inj zhZ
   refine WL.qA 62 (yf y2X rfl (yh .h1) rfl) (WL.pu rfl (WL.pu rfl (WL.cA 65 (z8 Tryz.call94 (.r3 rfl rfl rfl)) .nil (cc hz .nil fun w pz ho=>y9E _ _ _ _ _ _ _ _ _ _ _ _ _ _ _ _ _ _ _ _ _ zE7 w pz zl3 zl4 zl5 zhX zl6 zl7 zl8 zl9) (WL.pu rfl ?_))))
   exact WL.yB zhZ rfl rfl .all
  refine WL.pu rfl (WL.seg true 18 67 (B:=zl2 && (((decide (z6j = z71)) && (decide (z6k = z72))) || ((decide (z6j = z72)) && (decide (z6k = z71))))) rfl rfl rfl rfl rfl rfl (fun h=>(y2T h).symm) (fun _ zE8=>?_) ?_)
  ·skip
   refine WL.pu rfl (WL.pu rfl (WL.pu rfl (WL.pu rfl (WL.seg true 3 71 (B:=(decide (z6j = z71)) && (decide (z6k = z72))) rfl rfl rfl rfl rfl rfl (fun h=>(y2T h).symm) (fun _ zE9=>?_) ?_))))
   ·skip
    refine WL.pu rfl (WL.pu rfl (WL.pu rfl (WL.pu rfl ?_)))
    exact WL.yB (y2U zE9) rfl rfl .all
   refine WL.pu rfl (WL.seg false 8 76 (B:=((decide (z6j = z71)) && (decide (z6k = z72))) || ((decide (z6j = z72)) && (decide (z6k = z71)))) rfl rfl rfl rfl rfl rfl (fun h=>(y6V h).symm) (fun _ zEa=>?_) ?_)
   ·skip
    refine WL.pu rfl (WL.pu rfl (WL.pu rfl (WL.pu rfl (WL.seg true 3 80 (B:=(decide (z6j = z72)) && (decide (z6k = z71))) rfl rfl rfl rfl rfl rfl (fun h=>(y2T h).symm) (fun _ zEb=>?_) ?_))))
    ·skip
     refine WL.pu rfl (WL.pu rfl (WL.pu rfl (WL.pu rfl ?_)))
     exact WL.yB (y2U zEb) rfl rfl .all
    refine WL.pu rfl ?_
    exact WL.yB (y6W zEa) rfl rfl .all
   refine WL.pu rfl ?_
   exact WL.yB (y2U zE8) rfl rfl .all
  refine WL.pu rfl (WL.nil (WX.a (WC.ret ?_)))
  obtain rfl:=Option.some.inj h
  refine WX.ye Tryz.results56 (.tmp rfl .nil) (fun w hw=>?_)
  exact ⟨yC rfl,hw.sub .nil⟩
def y2A (zh : List Sapi_Hop) (zI : Sapi_Config) (z42 : Int) (z8P : Option Bool) : Nat → Int → (List (Int × Int)) → Option Bool
 | 0,_,_=>none
 | zoL + 1,zl,z4C=>if decide (zl < ((zh.length : Nat) : Int)) then chk ((0 : Int) ≤ zl ∧ zl < ((zh.length : Nat) : Int)) (jp1 (fun (z1A : List (Int × Int))=>chk (((decide ((yn z1A ((nth zh zl).fNode) 0) = 0)) || (decide ((yn z1A ((nth zh zl).fNext) 0) > 0))) = false → ((decide (zl > 0)) = true → ((0 : Int) ≤ 0 ∧ 0 < ((zh.length : Nat) : Int)))) ((if ((decide ((yn z1A ((nth zh zl).fNode) 0) = 0)) || (decide ((yn z1A ((nth zh zl).fNext) 0) > 0))) || (((decide (zl > 0)) && (decide (((nth zh zl).fNode) ≠ ((nth zh 0).fNode)))) && (decide (((nth zh zl).fNode) < ((zI.fModules.length : Nat) : Int)))) then some true else (y5g zI z42 ((nth zh zl).fLink) ((nth zh zl).fNode) ((nth zh zl).fNext)).bind fun zwM=>some (!zwM)).bind fun zoM=>if zoM then some false else y2A zh zI z42 z8P zoL (i64 (zl + 1)) (yJ z1A ((nth zh zl).fNext) (i64 ((yn z1A ((nth zh zl).fNext) 0) + 1))))) fun zla=>if decide (zl = 0) then zla (yJ z4C ((nth zh zl).fNode) (i64 ((yn z4C ((nth zh zl).fNode) 0) + 1))) else zla z4C) else z8P
theorem y97 {n : Nat} {zh : List Sapi_Hop} {zI : Sapi_Config} {z42 : Int} {z8P : Option Bool} {zl : Int} {z4C : List (Int × Int)} {r : Bool} (h : y2A zh zI z42 z8P n zl z4C = some r) : ∃ m,n = m + 1:=by
 cases n with
 | zero=>cases h
 | succ m=>exact ⟨m,rfl⟩
def y5h (zI : Sapi_Config) (z42 : Int) (zh : List Sapi_Hop) : Option Bool :=
 jp0 (some (decide (((zh.length : Nat) : Int) ≤ 32))) fun z8P=>y2A zh zI z42 z8P yz 0 ([] : List (Int × Int))
theorem yca (Z : Zp) (zi0 : Option Addr) (zi1 : Nat) (zi2 : Option Addr) (zi3 : Nat) (zi4 : Option Addr) (zi5 : Nat) (zi6 : Option Addr) (zi7 : Nat) (zi8 : Option Addr) (zi9 : Nat) (zia : Option Addr) (zib : Nat) (zic : Option Addr) (zid : Nat) (zie : Option Addr) (zif : Nat) (z43 : Option Addr) (z44 : Nat) (zI : Sapi_Config) (z42 : Int) (zh : List Sapi_Hop) (r : Bool)
  (h : y5h zI z42 zh = some r) (w₀ : World) (hz : PZ [] w₀ Z)
  (zEc : ZS Z 4 (y48 Z) zi0 zi1 zI.fModules)
  (zEd : ZS Z 4 (y4H Z) zi2 zi3 zI.fChannels)
  (zEe : ZS Z 4 (fun r x=>r = e66 x) zi4 zi5 zI.fSwitches)
  (zEf : ZS Z 4 (fun r x=>r = e64 x) zi6 zi7 zI.fLinks)
  (zEg : ZS Z 7 (p46 Z) zi8 zi9 zI.fVLs)
  (zEh : ZS Z 5 (fun r x=>r = y4U x) zia zib zI.fHealth)
  (zEi : ZS Z 3 (y4I Z) zic zid zI.fCauses)
  (zEj : ZS Z 4 (fun r x=>r = y4V x) zie zif zI.fVersions)
  (zwN : ZS Z 3 (fun r x=>r = e62 x) z43 z44 zh) :
  Calls Tryz.prog 29 #[(.agg #[(.slice zi0 zI.fModules.length zi1),(.slice zi2 zI.fChannels.length zi3),(.slice zi4 zI.fSwitches.length zi5),(.slice zi6 zI.fLinks.length zi7),(.slice zi8 zI.fVLs.length zi9),(.slice zia zI.fHealth.length zib),(.slice zic zI.fCauses.length zid),(.slice zie zI.fVersions.length zif)]),(.int .i64 z42),(.slice z43 zh.length z44)] w₀ fun e w'=>e = .returned (.bool r) ∧ Hp [] w₀ w' []:=by
 unfold y5h at h
 refine Calls.on3 Tryz.func29 Tryz.ntmps29 ?_
 refine WC.b (WC.a (WL.nA 3 (yH (cs:=[(.slice zi0 zI.fModules.length zi1),(.slice zi2 zI.fChannels.length zi3),(.slice zi4 zI.fSwitches.length zi5),(.slice zi6 zI.fLinks.length zi7),(.slice zi8 zI.fVLs.length zi9),(.slice zia zI.fHealth.length zib),(.slice zic zI.fCauses.length zid),(.slice zie zI.fVersions.length zif)]) rfl rfl) ?_))
 intro z8Q _
 refine WL.pu rfl (WL.nil (WX.a (WC.b (WC.a (WL.nA 10 (y4j (Value.int .i64) (Value.int .i64)) ?_)))))
 intro z8R _
 refine WL.pu rfl (WL.nil (WX.a ?_))
 obtain ⟨z8P,zEk,h⟩:=y2i h
 refine WC.y1G ((z8P = some r)) ([(2,(.slice z43 zh.length z44))]) ([]) ?_ ?_
 ·skip
  refine WC.b (WC.a (WL.pu rfl (WL.qA 12 (yG Tryz.underlying48 rfl) (WL.pu rfl (WL.nil (WX.a (WC.block (WC.y8O (fun (zeP : Nat) (zl : Int) (z4C : List (Int × Int))=>(y2A zh zI z42 z8P zeP zl z4C = some r)) (fun zeP zl z4C=>[(1,(.int .i64 z42)),(2,(.slice z43 zh.length z44)),(3,(.pointer (some ⟨z8Q,0,none⟩))),(7,(.map (some z8R))),(11,(.slice z43 zh.length z44)),(12,(.int .i64 ((zh.length : Nat) : Int))),(13,(.int .i64 zl))]) (fun zeP zl z4C=>[stb z8Q 31 [(.slice zi0 zI.fModules.length zi1),(.slice zi2 zI.fChannels.length zi3),(.slice zi4 zI.fSwitches.length zi5),(.slice zi6 zI.fLinks.length zi7),(.slice zi8 zI.fVLs.length zi9),(.slice zia zI.fHealth.length zib),(.slice zic zI.fCauses.length zid),(.slice zie zI.fVersions.length zif)],yy z8R (Value.int .i64) (Value.int .i64) z4C]) (fun zeP zl z4C=>zeP) ⟨yz,0,([] : List (Int × Int))⟩ h (.r7 rfl rfl rfl rfl rfl rfl rfl) (.s2 .h1 .here) ?_))))))))
  rintro zeP zl z4C h
  obtain ⟨zoL,rfl⟩:=y97 h
  rw [y2A] at h
  refine WC.b (WC.a (WL.pu rfl (WL.nil (WX.a (WC.b (WC.cond rfl (fun zoN=>?_) (fun zoN=>?_)))))))
  ·replace h:=yo h zoN
   refine WC.skip (WX.a (WC.b (WC.block (WC.b ?_))))
   obtain ⟨zEl,h⟩:=ym h
   refine WC.a (WL.pu rfl (WL.znth (dd:=16) rfl rfl (Z:=Z) (Pr:=(fun r x=>r = e62 x)) y61 rfl rfl zwN zEl ?_))
   rintro zS6 zS7 zEm zS8 rfl
   refine WL.qA 17 (yf y3G rfl (y2o hz.pv zEm) rfl) (WL.nA 9 (yx (cs:=[(.int .i64 0),(.int .i64 0),(.int .i64 0)]) y6v rfl) ?_)
   intro zd0 _
   refine WL.pu rfl (WL.yl rfl rfl (yk y6I rfl rfl rfl .here rfl rfl rfl) (WL.nil (WX.a ?_)))
   obtain ⟨zla,zEn,h⟩:=y14 h
   refine WC.y3z (fun (z1A : List (Int × Int))=>(zla z1A = some r)) (fun z1A=>[(1,(.int .i64 z42)),(2,(.slice z43 zh.length z44)),(3,(.pointer (some ⟨z8Q,0,none⟩))),(7,(.map (some z8R))),(8,(.int .i64 zl)),(9,(.pointer (some ⟨zd0,0,none⟩))),(11,(.slice z43 zh.length z44)),(12,(.int .i64 ((zh.length : Nat) : Int))),(13,(.int .i64 zl))]) (fun z1A=>[stb z8Q 31 [(.slice zi0 zI.fModules.length zi1),(.slice zi2 zI.fChannels.length zi3),(.slice zi4 zI.fSwitches.length zi5),(.slice zi6 zI.fLinks.length zi7),(.slice zi8 zI.fVLs.length zi9),(.slice zia zI.fHealth.length zib),(.slice zic zI.fCauses.length zid),(.slice zie zI.fVersions.length zif)],yy z8R (Value.int .i64) (Value.int .i64) z1A,stb zd0 62 [(.int .i64 ((nth zh zl).fNode)),(.int .i64 ((nth zh zl).fNext)),(.int .i64 ((nth zh zl).fLink))]]) ?_ ?_
   ·skip
    refine WC.b (WC.a (WL.pu rfl (WL.pu rfl (WL.nil (WX.a (WC.cond rfl (fun zoO=>?_) (fun zoO=>?_)))))))
    ·replace h:=yo h zoO
     refine WC.a (WL.pu rfl (WL.qA 21 (ya y4O rfl rfl) (WL.qA 22 (yc yw rfl (yj .here rfl)) (WL.qA 23 (y3l (k:=((nth zh zl).fNode)) (dflt:=(0 : Int)) y5e Tryz.underlying145 y4P rfl rfl rfl .h2) (WL.pu rfl (WL.yl rfl rfl (y5u (k:=((nth zh zl).fNode)) (v:=i64 ((yn z4C ((nth zh zl).fNode) 0) + 1)) y5e Tryz.underlying145 rfl rfl rfl rfl .h2) (WL.nil ?_)))))))
     exact WX.mid (yJ z4C ((nth zh zl).fNode) (i64 ((yn z4C ((nth zh zl).fNode) 0) + 1))) h (.r9 rfl rfl rfl rfl rfl rfl rfl rfl rfl) (.s3 .h2 .here .here)
    ·replace h:=yp h zoO
     refine WC.skip ?_
     exact WX.mid z4C h (.r9 rfl rfl rfl rfl rfl rfl rfl rfl rfl) (.s3 .h1 .h1 .here)
   ·rintro z1A h
    replace h:=(zEn z1A).symm.trans h
    refine WC.b (WC.b ?_)
    obtain ⟨zEo,h⟩:=ym h
    obtain ⟨zoM,zwO,h⟩:=z7 h
    refine WC.yP (fun i=>[].contains i) [] rfl (WD.pA 0 25 rfl (fun _=>q_m rfl) (WD.pA 1 26 rfl (fun _=>ya y4O rfl rfl) (WD.qA 2 27 rfl (yc yw rfl (yj .h2 rfl)) (WD.qA 3 28 rfl (y3l (k:=((nth zh zl).fNode)) (dflt:=(0 : Int)) y5e Tryz.underlying145 y4P rfl rfl rfl .h1) (WD.pA 4 29 rfl (fun _=>y9P rfl rfl) (WD.pA 5 30 rfl (fun _=>q_m rfl) (WD.mid (fuel':=33) [(1,(.int .i64 z42)),(2,(.slice z43 zh.length z44)),(3,(.pointer (some ⟨z8Q,0,none⟩))),(7,(.map (some z8R))),(8,(.int .i64 zl)),(9,(.pointer (some ⟨zd0,0,none⟩))),(11,(.slice z43 zh.length z44)),(12,(.int .i64 ((zh.length : Nat) : Int))),(13,(.int .i64 zl)),(30,(.bool (decide ((yn z1A ((nth zh zl).fNode) 0) = 0)))),(36,(.bool ((decide ((yn z1A ((nth zh zl).fNode) 0) = 0)) || (decide ((yn z1A ((nth zh zl).fNext) 0) > 0)))))] (y4c 45 [11,10,9,8,7,6,5,4,3,2,1,0]) ?_ (fun zwP=>?_))))))))
    rotate_left
    ·rcases Bool.eq_false_or_eq_true (decide ((yn z1A ((nth zh zl).fNode) 0) = 0)) with hb' | hb'
     ·have zoP:=hb'; clear hb'
      refine WD.pin (i:=30) rfl zoP (WD.kA 6 31 rfl (WD.kA 7 32 rfl (WD.kA 8 33 rfl (WD.kA 9 34 rfl (WD.kA 10 35 rfl (WD.pA 11 36 rfl (fun _=>y3C rfl rfl) (WD.reL (.s3 .here .here .here) ?_ zwP)))))))
      exact (.cons rfl (.cons rfl (.cons rfl (.cons rfl (.cons rfl (.cons rfl (.cons rfl (.cons rfl (.cons rfl (.cons (zB (Eq.symm zoP)) (.cons (zB (y6V zoP)) .nil)))))))))))
     ·have zoQ:=hb'; clear hb'
      refine WD.pin (i:=30) rfl zoQ (WD.pA 6 31 rfl (fun _=>q_m rfl) (WD.pA 7 32 rfl (fun _=>ya y5F rfl rfl) (WD.qA 8 33 rfl (yc yw rfl (yj .h2 rfl)) (WD.qA 9 34 rfl (y3l (k:=((nth zh zl).fNext)) (dflt:=(0 : Int)) y5e Tryz.underlying145 y4P rfl rfl rfl .h1) (WD.pA 10 35 rfl (fun _=>ybZ rfl rfl) (WD.pA 11 36 rfl (fun _=>y3D rfl rfl) (WD.reL (.s3 .here .here .here) ?_ zwP)))))))
      exact (.cons rfl (.cons rfl (.cons rfl (.cons rfl (.cons rfl (.cons rfl (.cons rfl (.cons rfl (.cons rfl (.cons (zB (Eq.symm zoQ)) (.cons (zB (y6W zoQ)) .nil)))))))))))
    refine WD.d #[true,true,true,true,true,true,true,true,true,true,true,true,false,false,false,false,false,false,false,false,false,false,false,false,false,false,false,false,false,false,false,false,false,false,false,false,false,false,false,false,false,false,false,false,false] (by kernel_rfl) (WD.pA 12 37 rfl (fun _=>q_m rfl) (WD.mid (fuel':=12) [(1,(.int .i64 z42)),(2,(.slice z43 zh.length z44)),(3,(.pointer (some ⟨z8Q,0,none⟩))),(7,(.map (some z8R))),(9,(.pointer (some ⟨zd0,0,none⟩))),(11,(.slice z43 zh.length z44)),(12,(.int .i64 ((zh.length : Nat) : Int))),(13,(.int .i64 zl)),(37,(.bool ((decide ((yn z1A ((nth zh zl).fNode) 0) = 0)) || (decide ((yn z1A ((nth zh zl).fNext) 0) > 0))))),(57,(.bool (((decide ((yn z1A ((nth zh zl).fNode) 0) = 0)) || (decide ((yn z1A ((nth zh zl).fNext) 0) > 0))) || (((decide (zl > 0)) && (decide (((nth zh zl).fNode) ≠ ((nth zh 0).fNode)))) && (decide (((nth zh zl).fNode) < ((zI.fModules.length : Nat) : Int)))))))] (y4c 45 [32,31,30,29,28,27,26,25,24,23,22,21,20,19,18,17,16,15,14,13,12,11,10,9,8,7,6,5,4,3,2,1,0]) ?_ (fun zwQ=>?_)))
    rotate_left
    ·rcases Bool.eq_false_or_eq_true ((decide ((yn z1A ((nth zh zl).fNode) 0) = 0)) || (decide ((yn z1A ((nth zh zl).fNext) 0) > 0))) with hb' | hb'
     ·have zoR:=hb'; clear hb'
      refine WD.pin (i:=37) rfl zoR (WD.kA 13 38 rfl (WD.kA 14 39 rfl (WD.kA 15 40 rfl (WD.kA 16 41 rfl (WD.kA 17 42 rfl (WD.kA 18 43 rfl (WD.kA 19 44 rfl (WD.kA 20 45 rfl (WD.kA 21 46 rfl (WD.kA 22 47 rfl (WD.kA 23 48 rfl (WD.kA 24 49 rfl (WD.kA 25 50 rfl (WD.kA 26 51 rfl (WD.kA 27 52 rfl (WD.kA 28 53 rfl (WD.kA 29 54 rfl (WD.kA 30 55 rfl (WD.kA 31 56 rfl (WD.pA 32 57 rfl (fun _=>y3C rfl rfl) (WD.reL (.s3 .here .here .here) ?_ zwQ)))))))))))))))))))))
      exact (.cons rfl (.cons rfl (.cons rfl (.cons rfl (.cons rfl (.cons rfl (.cons rfl (.cons rfl (.cons (zB (Eq.symm zoR)) (.cons (zB (y6V zoR)) .nil))))))))))
     ·have zlb:=hb'; clear hb'
      have zEp:=zEo zlb
      refine WD.pin (i:=37) rfl zlb (WD.pA 13 38 rfl (fun _=>q_m rfl) (WD.pA 14 39 rfl (fun _=>ybZ rfl rfl) (WD.pA 15 40 rfl (fun _=>q_m rfl) (WD.mid (fuel':=21) [(1,(.int .i64 z42)),(2,(.slice z43 zh.length z44)),(3,(.pointer (some ⟨z8Q,0,none⟩))),(7,(.map (some z8R))),(9,(.pointer (some ⟨zd0,0,none⟩))),(11,(.slice z43 zh.length z44)),(12,(.int .i64 ((zh.length : Nat) : Int))),(13,(.int .i64 zl)),(37,(.bool false)),(40,(.bool (decide (zl > 0)))),(48,(.bool ((decide (zl > 0)) && (decide (((nth zh zl).fNode) ≠ ((nth zh 0).fNode))))))] (y4c 45 [23,22,21,20,19,18,17,16,15,14,13,12,11,10,9,8,7,6,5,4,3,2,1,0]) ?_ (fun zwR=>?_)))))
      rotate_left
      ·rcases Bool.eq_false_or_eq_true (decide (zl > 0)) with hb' | hb'
       ·have zlc:=hb'; clear hb'
        have zEq:=zEp zlc
        refine WD.pin (i:=40) rfl zlc (WD.pA 16 41 rfl (fun _=>ya y4O rfl rfl) (WD.qA 17 42 rfl (yc yw rfl (yj .h2 rfl)) (WD.pA 18 43 rfl (fun _=>q_m rfl) (WD.znth (j:=19) (dd:=44) (by kernel_rfl) rfl z2l z2m rfl rfl (Z:=Z) (Pr:=(fun r x=>r = e62 x)) y61 rfl rfl zwN zEq ?_))))
        rintro zS9 zSa zEr zSb rfl
        refine WD.pA 20 45 rfl (fun _=>ya y4O rfl rfl) (WD.qA 21 46 rfl (yc yw rfl (y1e hz.pv zEr rfl)) (WD.pA 22 47 rfl (fun _=>q_neq rfl rfl) (WD.pA 23 48 rfl (fun _=>y3C rfl rfl) (WD.reL (.s3 .here .here .here) ?_ zwR))))
        exact (.cons rfl (.cons rfl (.cons rfl (.cons rfl (.cons rfl (.cons rfl (.cons rfl (.cons rfl (.cons rfl (.cons (zB (Eq.symm zlc)) (.cons (zB (y2U zlc)) .nil)))))))))))
       ·have zoS:=hb'; clear hb'
        refine WD.pin (i:=40) rfl zoS (WD.kA 16 41 rfl (WD.kA 17 42 rfl (WD.kA 18 43 rfl (WD.kA 19 44 rfl (WD.kA 20 45 rfl (WD.kA 21 46 rfl (WD.kA 22 47 rfl (WD.pA 23 48 rfl (fun _=>y3D rfl rfl) (WD.reL (.s3 .here .here .here) ?_ zwR)))))))))
        exact (.cons rfl (.cons rfl (.cons rfl (.cons rfl (.cons rfl (.cons rfl (.cons rfl (.cons rfl (.cons rfl (.cons (zB (Eq.symm zoS)) (.cons (zB (y2T zoS)) .nil)))))))))))
      refine WD.d #[true,true,true,true,true,true,true,true,true,true,true,true,true,true,true,true,true,true,true,true,true,true,true,true,false,false,false,false,false,false,false,false,false,false,false,false,false,false,false,false,false,false,false,false,false] (by kernel_rfl) (WD.pA 24 49 rfl (fun _=>q_m rfl) (WD.mid (fuel':=13) [(1,(.int .i64 z42)),(2,(.slice z43 zh.length z44)),(3,(.pointer (some ⟨z8Q,0,none⟩))),(7,(.map (some z8R))),(9,(.pointer (some ⟨zd0,0,none⟩))),(11,(.slice z43 zh.length z44)),(12,(.int .i64 ((zh.length : Nat) : Int))),(13,(.int .i64 zl)),(37,(.bool false)),(49,(.bool ((decide (zl > 0)) && (decide (((nth zh zl).fNode) ≠ ((nth zh 0).fNode)))))),(56,(.bool (((decide (zl > 0)) && (decide (((nth zh zl).fNode) ≠ ((nth zh 0).fNode)))) && (decide (((nth zh zl).fNode) < ((zI.fModules.length : Nat) : Int))))))] (y4c 45 [31,30,29,28,27,26,25,24,23,22,21,20,19,18,17,16,15,14,13,12,11,10,9,8,7,6,5,4,3,2,1,0]) ?_ (fun zwS=>?_)))
      rotate_left
      ·rcases Bool.eq_false_or_eq_true ((decide (zl > 0)) && (decide (((nth zh zl).fNode) ≠ ((nth zh 0).fNode)))) with hb' | hb'
       ·have zoT:=hb'; clear hb'
        refine WD.pin (i:=49) rfl zoT (WD.pA 25 50 rfl (fun _=>ya y4O rfl rfl) (WD.qA 26 51 rfl (yc yw rfl (yj .h2 rfl)) (WD.pA 27 52 rfl (fun _=>ya y67 rfl rfl) (WD.qA 28 53 rfl (yc y68 rfl (yj .here rfl)) (WD.pA 29 54 rfl (fun _=>yG Tryz.underlying22 rfl) (WD.pA 30 55 rfl (fun _=>q_lss rfl rfl) (WD.pA 31 56 rfl (fun _=>y3C rfl rfl) (WD.reL (.s3 .here .here .here) ?_ zwS))))))))
        exact (.cons rfl (.cons rfl (.cons rfl (.cons rfl (.cons rfl (.cons rfl (.cons rfl (.cons rfl (.cons rfl (.cons (zB (Eq.symm zoT)) (.cons (zB (y2U zoT)) .nil)))))))))))
       ·have zoU:=hb'; clear hb'
        refine WD.pin (i:=49) rfl zoU (WD.kA 25 50 rfl (WD.kA 26 51 rfl (WD.kA 27 52 rfl (WD.kA 28 53 rfl (WD.kA 29 54 rfl (WD.kA 30 55 rfl (WD.pA 31 56 rfl (fun _=>y3D rfl rfl) (WD.reL (.s3 .here .here .here) ?_ zwS))))))))
        exact (.cons rfl (.cons rfl (.cons rfl (.cons rfl (.cons rfl (.cons rfl (.cons rfl (.cons rfl (.cons rfl (.cons (zB (Eq.symm zoU)) (.cons (zB (y2T zoU)) .nil)))))))))))
      refine WD.d #[true,true,true,true,true,true,true,true,true,true,true,true,true,true,true,true,true,true,true,true,true,true,true,true,true,true,true,true,true,true,true,true,false,false,false,false,false,false,false,false,false,false,false,false,false] (by kernel_rfl) (WD.pA 32 57 rfl (fun _=>y3D rfl rfl) (WD.reL (.s3 .here .here .here) ?_ zwQ))
      exact (.cons rfl (.cons rfl (.cons rfl (.cons rfl (.cons rfl (.cons rfl (.cons rfl (.cons rfl (.cons (zB (Eq.symm zlb)) (.cons (zB (y6W zlb)) .nil))))))))))
    refine WD.d #[true,true,true,true,true,true,true,true,true,true,true,true,true,true,true,true,true,true,true,true,true,true,true,true,true,true,true,true,true,true,true,true,true,false,false,false,false,false,false,false,false,false,false,false,false] (by kernel_rfl) (WD.pA 33 58 rfl (fun _=>q_m rfl) (WD.mid (fuel':=0) [(1,(.int .i64 z42)),(2,(.slice z43 zh.length z44)),(3,(.pointer (some ⟨z8Q,0,none⟩))),(7,(.map (some z8R))),(9,(.pointer (some ⟨zd0,0,none⟩))),(11,(.slice z43 zh.length z44)),(12,(.int .i64 ((zh.length : Nat) : Int))),(13,(.int .i64 zl)),(58,(.bool (((decide ((yn z1A ((nth zh zl).fNode) 0) = 0)) || (decide ((yn z1A ((nth zh zl).fNext) 0) > 0))) || (((decide (zl > 0)) && (decide (((nth zh zl).fNode) ≠ ((nth zh 0).fNode)))) && (decide (((nth zh zl).fNode) < ((zI.fModules.length : Nat) : Int))))))),(69,(.bool zoM))] (y4c 45 [44,43,42,41,40,39,38,37,36,35,34,33,32,31,30,29,28,27,26,25,24,23,22,21,20,19,18,17,16,15,14,13,12,11,10,9,8,7,6,5,4,3,2,1,0]) ?_ (fun zwT=>?_)))
    rotate_left
    ·rcases Bool.eq_false_or_eq_true (((decide ((yn z1A ((nth zh zl).fNode) 0) = 0)) || (decide ((yn z1A ((nth zh zl).fNext) 0) > 0))) || (((decide (zl > 0)) && (decide (((nth zh zl).fNode) ≠ ((nth zh 0).fNode)))) && (decide (((nth zh zl).fNode) < ((zI.fModules.length : Nat) : Int))))) with hb' | hb'
     ·have zoV:=hb'; clear hb'
      have zoW:=yo zwO zoV
      replace zoW:=Option.some.inj zoW
      refine WD.pin (i:=58) rfl zoV (WD.kA 34 59 rfl (WD.kA 35 60 rfl (WD.kA 36 61 rfl (WD.kA 37 62 rfl (WD.kA 38 63 rfl (WD.kA 39 64 rfl (WD.kA 40 65 rfl (WD.kA 41 66 rfl (WD.kA 42 67 rfl (WD.kA 43 68 rfl (WD.pA 44 69 rfl (fun _=>y3C rfl rfl) (WD.reL (.s3 .here .here .here) ?_ zwT))))))))))))
      exact (.cons rfl (.cons rfl (.cons rfl (.cons rfl (.cons rfl (.cons rfl (.cons rfl (.cons rfl (.cons (zB (Eq.symm zoV)) (.cons (zB zoW) .nil))))))))))
     ·have zoX:=hb'; clear hb'
      have zig:=yp zwO zoX
      obtain ⟨zwM,zEs,zig⟩:=z7 zig
      replace zig:=Option.some.inj zig
      refine WD.pin (i:=58) rfl zoX (WD.qA 34 59 rfl (yf y2X rfl (yh .here) rfl) (WD.pA 35 60 rfl (fun _=>q_m rfl) (WD.pA 36 61 rfl (fun _=>ya yb8 rfl rfl) (WD.qA 37 62 rfl (yc yw rfl (yj .h2 rfl)) (WD.pA 38 63 rfl (fun _=>ya y4O rfl rfl) (WD.qA 39 64 rfl (yc yw rfl (yj .h2 rfl)) (WD.pA 40 65 rfl (fun _=>ya y5F rfl rfl) (WD.qA 41 66 rfl (yc yw rfl (yj .h2 rfl)) (WD.eA 42 67 rfl (z8 Tryz.call56 (.r5 rfl rfl rfl rfl rfl)) (cc hz .nil fun w pz ho=>yc9 _ _ _ _ _ _ _ _ _ _ _ _ _ _ _ _ _ _ _ _ _ _ _ zEs w pz zEc zEd zEe zEf zEg zEh zEi zEj) (WD.pA 43 68 rfl (fun _=>q_not rfl) (WD.pA 44 69 rfl (fun _=>y3D rfl rfl) (WD.reL (.s3 .here .here .here) ?_ zwT))))))))))))
      exact (.cons rfl (.cons rfl (.cons rfl (.cons rfl (.cons rfl (.cons rfl (.cons rfl (.cons rfl (.cons (zB (Eq.symm zoX)) (.cons (zB zig) .nil))))))))))
    refine WD.d #[true,true,true,true,true,true,true,true,true,true,true,true,true,true,true,true,true,true,true,true,true,true,true,true,true,true,true,true,true,true,true,true,true,true,true,true,true,true,true,true,true,true,true,true,true] (by kernel_rfl) (WD.done (by kernel_rfl) (WX.a (WC.cond rfl (fun zoY=>?_) (fun zoY=>?_))))
    ·replace h:=yo h zoY
     refine WC.b (WC.a (WL.pu rfl (WL.nil (WX.a (WC.ret (WX.yd (WX.yt (WX.yd (WX.yd (WX.yt (WX.yd ?_)))))))))))
     obtain rfl:=Option.some.inj h
     refine WX.ye Tryz.results29 (.tmp rfl .nil) (fun w hw=>?_)
     exact ⟨yC rfl,hw.sub .nil⟩
    ·replace h:=yp h zoY
     refine WC.skip (WX.a (WC.a (WL.pu rfl (WL.qA 71 (ya y5F rfl rfl) (WL.qA 72 (yc yw rfl (yj .h2 rfl)) (WL.qA 73 (y3l (k:=((nth zh zl).fNext)) (dflt:=(0 : Int)) y5e Tryz.underlying145 y4P rfl rfl rfl .h1) (WL.pu rfl (WL.yl rfl rfl (y5u (k:=((nth zh zl).fNext)) (v:=i64 ((yn z1A ((nth zh zl).fNext) 0) + 1)) y5e Tryz.underlying145 rfl rfl rfl rfl .h1) (WL.nil (WX.yq (WX.a (WC.a (WL.pu rfl (WL.pu rfl (WL.nil ?_)))))))))))))))
     exact WX.round ⟨zoL,(i64 (zl + 1)),(yJ z1A ((nth zh zl).fNext) (i64 ((yn z1A ((nth zh zl).fNext) 0) + 1)))⟩ h (Nat.lt_succ_self _) (.r7 rfl rfl rfl rfl rfl rfl rfl) (.s2 .h1 .here)
  ·replace h:=yp h zoN
   refine WC.exit (WX.yg (WX.yg (WX.yA ?_)))
   exact WX.mid () h (.cons rfl .nil) .nil
 ·rintro  h
  replace h:=zEk.symm.trans h
  refine WC.b (WC.a (WL.pu rfl (WL.qA 77 (yG Tryz.underlying48 rfl) (WL.pu rfl (WL.pu rfl (WL.nil (WX.a (WC.ret ?_))))))))
  obtain rfl:=Option.some.inj h
  refine WX.ye Tryz.results29 (.tmp rfl .nil) (fun w hw=>?_)
  exact ⟨yC rfl,hw.sub .nil⟩
def y1l (zih : List Sapi_Hop) (z3m : Sapi_Config) (zld : Int) : Option Bool :=
 (y5h z3m zld zih).bind fun zwU=>some (!zwU)
theorem ybl (Z : Zp) (zwV : Option Addr) (zwW : Nat) (zwX : Addr) (zwY : Option Addr) (zwZ : Nat) (zx0 : Option Addr) (zx1 : Nat) (zx2 : Option Addr) (zx3 : Nat) (zx4 : Option Addr) (zx5 : Nat) (zx6 : Option Addr) (zx7 : Nat) (zx8 : Option Addr) (zx9 : Nat) (zxa : Option Addr) (zxb : Nat) (zxc : Option Addr) (zxd : Nat) (zxe : Addr) (zih : List Sapi_Hop) (z3m : Sapi_Config) (zld : Int) (r : Bool)
  (h : y1l zih z3m zld = some r) (w₀ : World) (hz : PZ [] w₀ Z)
  (zEt : ZS Z 3 (fun r x=>r = e62 x) zwV zwW zih)
  (zEu : ZS Z 4 (y48 Z) zwY zwZ z3m.fModules)
  (zEv : ZS Z 4 (y4H Z) zx0 zx1 z3m.fChannels)
  (zEw : ZS Z 4 (fun r x=>r = e66 x) zx2 zx3 z3m.fSwitches)
  (zEx : ZS Z 4 (fun r x=>r = e64 x) zx4 zx5 z3m.fLinks)
  (zEy : ZS Z 7 (p46 Z) zx6 zx7 z3m.fVLs)
  (zEz : ZS Z 5 (fun r x=>r = y4U x) zx8 zx9 z3m.fHealth)
  (zEA : ZS Z 3 (y4I Z) zxa zxb z3m.fCauses)
  (zEB : ZS Z 4 (fun r x=>r = y4V x) zxc zxd z3m.fVersions)
  (zEC : ZC Z zwX [(.slice zwY z3m.fModules.length zwZ),(.slice zx0 z3m.fChannels.length zx1),(.slice zx2 z3m.fSwitches.length zx3),(.slice zx4 z3m.fLinks.length zx5),(.slice zx6 z3m.fVLs.length zx7),(.slice zx8 z3m.fHealth.length zx9),(.slice zxa z3m.fCauses.length zxb),(.slice zxc z3m.fVersions.length zxd)])
  (zED : ZC Z zxe [(.int .i64 zld)]) :
  Calls Tryz.prog 28 #[(.slice zwV zih.length zwW),(.pointer (some zwX)),(.pointer (some zxe))] w₀ fun e w'=>e = .returned (.bool r) ∧ Hp [] w₀ w' []:=by
 unfold y1l at h
 refine Calls.on3 Tryz.func28 Tryz.ntmps28 ?_
 refine WC.b (WC.a (WL.pu rfl (WL.nil (WX.a (WC.b ?_)))))
 obtain ⟨zwU,zEE,h⟩:=z7 h
 refine WC.a (WL.qA 5 (yf y2X rfl (y2o hz.pv zEC) rfl) (WL.qA 6 (yc yw rfl (y53 hz.pv zED rfl)) (WL.pu rfl (WL.cA 8 (z8 Tryz.call29 (.r3 rfl rfl rfl)) .nil (cc hz .nil fun w pz ho=>yca _ _ _ _ _ _ _ _ _ _ _ _ _ _ _ _ _ _ _ _ _ _ _ zEE w pz zEu zEv zEw zEx zEy zEz zEA zEB zEt) (WL.pu rfl (WL.pu rfl (WL.nil (WX.a (WC.ret ?_)))))))))
 obtain rfl:=Option.some.inj h
 refine WX.ye Tryz.results28 (.tmp rfl .nil) (fun w hw=>?_)
 exact ⟨yC rfl,hw.sub .nil⟩
def yK (z4D : List (List Sapi_Hop)) (z73 : (List Sapi_Hop) → Option Bool) (z8S : Option Int) : Nat → Int → Option Int
 | 0,_=>none
 | zoZ + 1,z47=>if decide (z47 < ((z4D.length : Nat) : Int)) then chk ((0 : Int) ≤ z47 ∧ z47 < ((z4D.length : Nat) : Int)) ((z73 (nth z4D z47)).bind fun zp0=>if zp0 then some z47 else yK z4D z73 z8S zoZ (i64 (z47 + 1))) else z8S
theorem y56 {n : Nat} {z4D : List (List Sapi_Hop)} {z73 : (List Sapi_Hop) → Option Bool} {z8S : Option Int} {z47 : Int} {r : Int} (h : yK z4D z73 z8S n z47 = some r) : ∃ m,n = m + 1:=by
 cases n with
 | zero=>cases h
 | succ m=>exact ⟨m,rfl⟩
def y1D (z4D : List (List Sapi_Hop)) (z73 : (List Sapi_Hop) → Option Bool) : Option Int :=
 jp0 (some (-1)) fun z8S=>yK z4D z73 z8S yz 0
theorem y6e (Z : Zp) (zp1 : Option Addr) (zp2 : Nat) (zd1 : FuncId) (zii : List Value) (z4D : List (List Sapi_Hop)) (z73 : (List Sapi_Hop) → Option Bool) (r : Int)
  (h : y1D z4D z73 = some r) (w₀ : World) (hz : PZ [] w₀ Z)
  (zEF : ZS Z 1 (p48 Z) zp1 zp2 z4D)
  (zEG : ∀ args w,(callFunc zd1 args).run Tryz.prog w = .ok (.enter zd1 args) w)
  (zEH : ∀ w : World,PZ [] w Z → ∀ (x0 : List Sapi_Hop) (ao0 : Option Addr) (cap0 : Nat) (r : Bool),ZS Z 3 (fun r x=>r = e62 x) ao0 cap0 x0 → z73 x0 = some r → Calls Tryz.prog zd1 (([(.slice ao0 x0.length cap0)] : List Value) ++ zii).toArray w fun e w'=>e = .returned (.bool r) ∧ Hp [] w w' []) :
  Calls Tryz.prog 55 #[(.slice zp1 z4D.length zp2),(.func (.func zd1) #[] (zii).toArray)] w₀ fun e w'=>e = .returned (.int .i64 r) ∧ Hp [] w₀ w' []:=by
 unfold y1D at h
 refine Calls.yI Tryz.func55 Tryz.ntmps55 ?_
 refine WC.b (WC.a (WL.pu rfl (WL.nil (WX.a ?_))))
 obtain ⟨z8S,zEI,h⟩:=y2i h
 refine WC.y1G ((z8S = some r)) ([]) ([]) ?_ ?_
 ·skip
  refine WC.b (WC.a (WL.pu rfl (WL.qA 7 (yG Tryz.underlying32 rfl) (WL.pu rfl (WL.nil (WX.a (WC.block (WC.y2S (fun (zeQ : Nat) (z47 : Int)=>(yK z4D z73 z8S zeQ z47 = some r)) (fun zeQ z47=>[(0,(.slice zp1 z4D.length zp2)),(1,(.func (.func zd1) #[] (zii).toArray)),(7,(.int .i64 ((z4D.length : Nat) : Int))),(8,(.int .i64 z47))]) (fun zeQ z47=>[]) (fun zeQ z47=>zeQ) ⟨yz,0⟩ h (.r4 rfl rfl rfl rfl) .nil ?_))))))))
  rintro zeQ z47 h
  obtain ⟨zoZ,rfl⟩:=y56 h
  rw [yK] at h
  refine WC.b (WC.a (WL.pu rfl (WL.nil (WX.a (WC.b (WC.cond rfl (fun zp3=>?_) (fun zp3=>?_)))))))
  ·replace h:=yo h zp3
   refine WC.skip (WX.a (WC.b (WC.block (WC.b (WC.a (WL.pu rfl (WL.pu rfl (WL.nil (WX.a (WC.b ?_))))))))))
   obtain ⟨zEJ,h⟩:=ym h
   obtain ⟨zp0,zEK,h⟩:=z7 h
   refine WC.a (WL.pu rfl (WL.pu rfl (WL.pu rfl (WL.znth (dd:=14) rfl rfl (Z:=Z) (Pr:=(p48 Z)) y73 rfl rfl zEF zEJ ?_))))
   rintro zSc zSd zEL zSe ⟨zEM,zEN,rfl,zEO⟩
   refine WL.qA 15 (yc y6H rfl (y53 hz.pv zEL rfl)) (WL.cA 16 (y2q (l:=[.tmp 15]) (f:=zd1) (caps:=zii) zEG rfl (.cons rfl .nil)) .nil (fun w hw=>zEH w (hz.now hw) (nth z4D z47) zEM zEN zp0 zEO zEK) (WL.nil (WX.a (WC.cond rfl (fun zp4=>?_) (fun zp4=>?_)))))
   ·replace h:=yo h zp4
    refine WC.b (WC.a (WL.pu rfl (WL.pu rfl (WL.nil (WX.a (WC.ret (WX.yt (WX.yd (WX.yd (WX.yt (WX.yd ?_)))))))))))
    obtain rfl:=Option.some.inj h
    refine WX.ye Tryz.results55 (.tmp rfl .nil) (fun w hw=>?_)
    exact ⟨yC rfl,hw.sub .nil⟩
   ·replace h:=yp h zp4
    refine WC.skip (WX.yq (WX.a (WC.a (WL.pu rfl (WL.pu rfl (WL.nil ?_))))))
    exact WX.round ⟨zoZ,(i64 (z47 + 1))⟩ h (Nat.lt_succ_self _) (.r4 rfl rfl rfl rfl) .nil
  ·replace h:=yp h zp3
   refine WC.exit (WX.yg (WX.yg (WX.yA ?_)))
   exact WX.mid () h .nil .nil
 ·rintro  h
  replace h:=zEI.symm.trans h
  refine WC.b (WC.a (WL.pu rfl (WL.nil (WX.a (WC.ret ?_)))))
  obtain rfl:=Option.some.inj h
  refine WX.ye Tryz.results55 (.tmp rfl .nil) (fun w hw=>?_)
  exact ⟨yC rfl,hw.sub .nil⟩
def yV (zij : List (List Sapi_Hop)) (zd2 : (List Sapi_Hop) → Option Bool) : Option Bool :=
 (y1D zij zd2).bind fun zxf=>some (decide (zxf ≥ 0))
theorem y3Q (Z : Zp) (zxg : Option Addr) (zxh : Nat) (zd3 : FuncId) (zik : List Value) (zij : List (List Sapi_Hop)) (zd2 : (List Sapi_Hop) → Option Bool) (r : Bool)
  (h : yV zij zd2 = some r) (w₀ : World) (hz : PZ [] w₀ Z)
  (zEP : ZS Z 1 (p48 Z) zxg zxh zij)
  (zEQ : ∀ args w,(callFunc zd3 args).run Tryz.prog w = .ok (.enter zd3 args) w)
  (zER : ∀ w : World,PZ [] w Z → ∀ (x0 : List Sapi_Hop) (ao0 : Option Addr) (cap0 : Nat) (r : Bool),ZS Z 3 (fun r x=>r = e62 x) ao0 cap0 x0 → zd2 x0 = some r → Calls Tryz.prog zd3 (([(.slice ao0 x0.length cap0)] : List Value) ++ zik).toArray w fun e w'=>e = .returned (.bool r) ∧ Hp [] w w' []) :
  Calls Tryz.prog 27 #[(.slice zxg zij.length zxh),(.func (.func zd3) #[] (zik).toArray)] w₀ fun e w'=>e = .returned (.bool r) ∧ Hp [] w₀ w' []:=by
 unfold yV at h
 refine Calls.yI Tryz.func27 Tryz.ntmps27 ?_
 refine WC.b (WC.a (WL.pu rfl (WL.nil (WX.a (WC.b ?_)))))
 obtain ⟨zxf,zES,h⟩:=z7 h
 refine WC.a (WL.pu rfl (WL.pu rfl (WL.cA 7 (z8 Tryz.call55 (.r2 rfl rfl)) .nil (cc hz .nil fun w pz ho=>y6e _ _ _ (zd1:=zd3) (zii:=zik) _ (z73:=zd2) _ zES w pz zEP zEQ zER) (WL.pu rfl (WL.pu rfl (WL.nil (WX.a (WC.ret ?_))))))))
 obtain rfl:=Option.some.inj h
 refine WX.ye Tryz.results27 (.tmp rfl .nil) (fun w hw=>?_)
 exact ⟨yC rfl,hw.sub .nil⟩
def y3T (z1z : Sapi_Config) (z5v : Int) (z7D : List (List Sapi_Hop)) : Option Bool :=
 (if (((decide (z5v = 0)) || (decide (z5v = 1))) && (decide (((z7D.length : Nat) : Int) = ((z1z.fVLs.length : Nat) : Int)))) && (decide (((z7D.length : Nat) : Int) ≤ 16)) then (yV z7D (fun (y0 : List Sapi_Hop)=>y1l y0 z1z z5v)).bind fun zxi=>some (!zxi) else some false).bind fun zp5=>some zp5
theorem y7B (Z : Zp) (zp6 : Option Addr) (zp7 : Nat) (zp8 : Option Addr) (zp9 : Nat) (zpa : Option Addr) (zpb : Nat) (zpc : Option Addr) (zpd : Nat) (zpe : Option Addr) (zpf : Nat) (zpg : Option Addr) (zph : Nat) (zpi : Option Addr) (zpj : Nat) (zpk : Option Addr) (zpl : Nat) (zxj : Option Addr) (zxk : Nat) (z1z : Sapi_Config) (z5v : Int) (z7D : List (List Sapi_Hop)) (r : Bool)
  (h : y3T z1z z5v z7D = some r) (w₀ : World) (hz : PZ [] w₀ Z)
  (zET : ZS Z 4 (y48 Z) zp6 zp7 z1z.fModules)
  (zEU : ZS Z 4 (y4H Z) zp8 zp9 z1z.fChannels)
  (zEV : ZS Z 4 (fun r x=>r = e66 x) zpa zpb z1z.fSwitches)
  (zEW : ZS Z 4 (fun r x=>r = e64 x) zpc zpd z1z.fLinks)
  (zEX : ZS Z 7 (p46 Z) zpe zpf z1z.fVLs)
  (zEY : ZS Z 5 (fun r x=>r = y4U x) zpg zph z1z.fHealth)
  (zEZ : ZS Z 3 (y4I Z) zpi zpj z1z.fCauses)
  (zF0 : ZS Z 4 (fun r x=>r = y4V x) zpk zpl z1z.fVersions)
  (zF1 : ZS Z 1 (p48 Z) zxj zxk z7D) :
  Calls Tryz.prog 12 #[(.agg #[(.slice zp6 z1z.fModules.length zp7),(.slice zp8 z1z.fChannels.length zp9),(.slice zpa z1z.fSwitches.length zpb),(.slice zpc z1z.fLinks.length zpd),(.slice zpe z1z.fVLs.length zpf),(.slice zpg z1z.fHealth.length zph),(.slice zpi z1z.fCauses.length zpj),(.slice zpk z1z.fVersions.length zpl)]),(.int .i64 z5v),(.slice zxj z7D.length zxk)] w₀ fun e w'=>e = .returned (.bool r) ∧ Hp [] w₀ w' []:=by
 unfold y3T at h
 refine Calls.on3 Tryz.func12 Tryz.ntmps12 ?_
 refine WC.b (WC.a (WL.nA 3 (yH (cs:=[(.slice zp6 z1z.fModules.length zp7),(.slice zp8 z1z.fChannels.length zp9),(.slice zpa z1z.fSwitches.length zpb),(.slice zpc z1z.fLinks.length zpd),(.slice zpe z1z.fVLs.length zpf),(.slice zpg z1z.fHealth.length zph),(.slice zpi z1z.fCauses.length zpj),(.slice zpk z1z.fVersions.length zpl)]) rfl rfl) ?_))
 intro zF2 _
 refine WL.nA 4 (yH (cs:=[(.int .i64 z5v)]) rfl rfl) ?_
 intro zF3 _
 refine WL.pu rfl (WL.nil (WX.a (WC.b ?_)))
 obtain ⟨zp5,zxl,h⟩:=z7 h
 refine WC.a (WL.qA 7 (yc yw rfl (yj .here rfl)) (WL.pu rfl (WL.pu rfl (WL.seg false 2 9 (B:=(decide (z5v = 0)) || (decide (z5v = 1))) rfl rfl rfl rfl rfl rfl (fun h=>(y6V h).symm) (fun _ zF4=>?_) ?_))))
 ·skip
  refine WL.qA 10 (yc yw rfl (yj .here rfl)) (WL.pu rfl (WL.pu rfl ?_))
  exact WL.yB (y6W zF4) rfl rfl .all
 refine WL.pu rfl (WL.seg true 6 13 (B:=((decide (z5v = 0)) || (decide (z5v = 1))) && (decide (((z7D.length : Nat) : Int) = ((z1z.fVLs.length : Nat) : Int)))) rfl rfl rfl rfl rfl rfl (fun h=>(y2T h).symm) (fun _ zF5=>?_) ?_)
 ·skip
  refine WL.pu rfl (WL.qA 15 (yG Tryz.underlying32 rfl) (WL.qA 16 (ya y5D rfl rfl) (WL.qA 17 (yc y5E rfl (yj .h1 rfl)) (WL.qA 18 (yG Tryz.underlying26 rfl) (WL.pu rfl (WL.pu rfl ?_))))))
  exact WL.yB (y2U zF5) rfl rfl .all
 refine WL.pu rfl (WL.seg true 3 21 (B:=(((decide (z5v = 0)) || (decide (z5v = 1))) && (decide (((z7D.length : Nat) : Int) = ((z1z.fVLs.length : Nat) : Int)))) && (decide (((z7D.length : Nat) : Int) ≤ 16))) rfl rfl rfl rfl rfl rfl (fun h=>(y2T h).symm) (fun _ zF6=>?_) ?_)
 ·skip
  refine WL.pu rfl (WL.qA 23 (yG Tryz.underlying32 rfl) (WL.pu rfl (WL.pu rfl ?_)))
  exact WL.yB (y2U zF6) rfl rfl .all
 refine WL.pu rfl (WL.seg true 4 26 (B:=zp5) rfl rfl rfl rfl rfl rfl (fun h=>(Option.some.inj (yp zxl h)).symm) (fun _ zF7=>?_) ?_)
 ·skip
  have zil:=yo zxl zF7
  obtain ⟨zxi,zF8,zil⟩:=z7 zil
  replace zil:=Option.some.inj zil
  refine WL.pu rfl (WL.qA 28 (y18 (Eos.caps (l:=[.tmp 3,.tmp 4]) (.r2 rfl rfl))) (WL.cA 29 (z8 Tryz.call27 (.r2 rfl rfl)) .nil (ccl hz .nil (.s2 .h1 .here) fun w pz ho la=>y3Q _ _ _ (zd3:=28) (zik:=[(.pointer (some ⟨zF2,0,none⟩)),(.pointer (some ⟨zF3,0,none⟩))]) _ (zd2:=(fun (y0 : List Sapi_Hop)=>y1l y0 z1z z5v)) _ zF8 w pz ((zF1.mono (Zle.left _ _)).weak (fun _ _ h=>y2v (Zle.left _ _) h)) Tryz.call28 (fun w' hz' y0 ga0 gc0 r gh0 hr=>ybl _ _ _ _ _ _ _ _ _ _ _ _ _ _ _ _ _ _ _ _ _ _ _ _ _ hr w' hz' gh0 ((zET.mono (Zle.left _ _)).weak (fun _ _ h=>y2d (Zle.left _ _) h)) ((zEU.mono (Zle.left _ _)).weak (fun _ _ h=>y2r (Zle.left _ _) h)) (zEV.mono (Zle.left _ _)) (zEW.mono (Zle.left _ _)) ((zEX.mono (Zle.left _ _)).weak (fun _ _ h=>y29 (Zle.left _ _) h)) (zEY.mono (Zle.left _ _)) ((zEZ.mono (Zle.left _ _)).weak (fun _ _ h=>y2s (Zle.left _ _) h)) (zF0.mono (Zle.left _ _)) ((la _ (.head _) _).stb) ((la _ (.tail _ (.head _)) _).stb))) (WL.pu rfl (WL.pu rfl ?_))))
  exact WL.yB zil rfl rfl .all
 refine WL.pu rfl (WL.nil (WX.a (WC.ret ?_)))
 obtain rfl:=Option.some.inj h
 refine WX.ye Tryz.results12 (.tmp rfl .nil) (fun w hw=>?_)
 exact ⟨yC rfl,hw.sub .nil⟩
def y2P (z74 : Int) (z8T : Option Bool) : Nat → Int → Option Bool
 | 0,_=>none
 | zpm + 1,z5Q=>if decide (z5Q ≤ 12800) then if decide (z5Q = z74) then some true else y2P z74 z8T zpm (i64 (z5Q * 2)) else z8T
theorem yao {n : Nat} {z74 : Int} {z8T : Option Bool} {z5Q : Int} {r : Bool} (h : y2P z74 z8T n z5Q = some r) : ∃ m,n = m + 1:=by
 cases n with
 | zero=>cases h
 | succ m=>exact ⟨m,rfl⟩
def y75 (z74 : Int) : Option Bool :=
 jp0 (some false) fun z8T=>y2P z74 z8T yz 100
theorem yew (Z : Zp)  (z74 : Int) (r : Bool)
  (h : y75 z74 = some r) (w₀ : World) (hz : PZ [] w₀ Z) :
  Calls Tryz.prog 20 #[(.int .i64 z74)] w₀ fun e w'=>e = .returned (.bool r) ∧ Hp [] w₀ w' []:=by
 unfold y75 at h
 refine Calls.on1 Tryz.func20 Tryz.ntmps20 ?_
 refine WC.b (WC.a (WL.pu rfl (WL.nil (WX.a ?_))))
 obtain ⟨z8T,zF9,h⟩:=y2i h
 refine WC.y1G ((z8T = some r)) ([]) ([]) ?_ ?_
 ·skip
  refine WC.b (WC.a (WL.pu rfl (WL.nil (WX.a (WC.block (WC.y2S (fun (zeR : Nat) (z5Q : Int)=>(y2P z74 z8T zeR z5Q = some r)) (fun zeR z5Q=>[(0,(.int .i64 z74)),(3,(.int .i64 z5Q))]) (fun zeR z5Q=>[]) (fun zeR z5Q=>zeR) ⟨yz,100⟩ h (.r2 rfl rfl) .nil ?_))))))
  rintro zeR z5Q h
  obtain ⟨zpm,rfl⟩:=yao h
  rw [y2P] at h
  refine WC.b (WC.b (WC.a (WL.pu rfl (WL.pu rfl (WL.nil (WX.a (WC.cond rfl (fun zpn=>?_) (fun zpn=>?_))))))))
  ·replace h:=yo h zpn
   refine WC.skip (WX.a (WC.b (WC.block (WC.b (WC.a (WL.pu rfl (WL.pu rfl (WL.pu rfl (WL.nil (WX.a (WC.cond rfl (fun zpo=>?_) (fun zpo=>?_))))))))))))
   ·replace h:=yo h zpo
    refine WC.b (WC.a (WL.pu rfl (WL.nil (WX.a (WC.ret (WX.yt (WX.yd (WX.yd (WX.yt (WX.yd ?_))))))))))
    obtain rfl:=Option.some.inj h
    refine WX.ye Tryz.results20 (.tmp rfl .nil) (fun w hw=>?_)
    exact ⟨yC rfl,hw.sub .nil⟩
   ·replace h:=yp h zpo
    refine WC.skip (WX.yq (WX.a (WC.a (WL.pu rfl (WL.pu rfl (WL.pu rfl (WL.nil ?_)))))))
    exact WX.round ⟨zpm,(i64 (z5Q * 2))⟩ h (Nat.lt_succ_self _) (.r2 rfl rfl) .nil
  ·replace h:=yp h zpn
   refine WC.exit (WX.yg (WX.yg (WX.yA ?_)))
   exact WX.mid () h .nil .nil
 ·rintro  h
  replace h:=zF9.symm.trans h
  refine WC.b (WC.a (WL.pu rfl (WL.nil (WX.a (WC.ret ?_)))))
  obtain rfl:=Option.some.inj h
  refine WX.ye Tryz.results20 (.tmp rfl .nil) (fun w hw=>?_)
  exact ⟨yC rfl,hw.sub .nil⟩
def y2t (z2n : Sapi_VL) : Option Bool :=
 (y75 z2n.fBag).bind fun zle=>some (((!zle) || (decide (z2n.fMax < 1))) || (decide (z2n.fMax > 72)))
theorem ybm (Z : Zp) (zpp : Option Addr) (zpq : Nat) (z2n : Sapi_VL) (r : Bool)
  (h : y2t z2n = some r) (w₀ : World) (hz : PZ [] w₀ Z)
  (zSf : ZS Z 3 (fun r x=>r = e43 x) zpp zpq z2n.fTo) :
  Calls Tryz.prog 19 #[(.agg #[(.string z2n.fName),(.string z2n.fFrom.fModule),(.string z2n.fFrom.fPart),(.string z2n.fFrom.fPort),(.int .i64 z2n.fBag),(.int .i64 z2n.fMax),(.slice zpp z2n.fTo.length zpq)])] w₀ fun e w'=>e = .returned (.bool r) ∧ Hp [] w₀ w' []:=by
 unfold y2t at h
 refine Calls.on1 Tryz.func19 Tryz.ntmps19 ?_
 refine WC.b (WC.a (WL.nA 1 (yH (cs:=[(.string z2n.fName),(.string z2n.fFrom.fModule),(.string z2n.fFrom.fPart),(.string z2n.fFrom.fPort),(.int .i64 z2n.fBag),(.int .i64 z2n.fMax),(.slice zpp z2n.fTo.length zpq)]) rfl rfl) ?_))
 intro zSg _
 refine WL.pu rfl (WL.nil (WX.a (WC.b ?_)))
 obtain ⟨zle,zFa,h⟩:=z7 h
 refine WC.a (WL.qA 3 (ya yeP rfl rfl) (WL.qA 4 (yc yw rfl (yj .here rfl)) (WL.cA 5 (z8 Tryz.call20 (.cons rfl .nil)) .nil (cc hz .nil fun w pz ho=>yew _ _ _ zFa w pz ) (WL.pu rfl (WL.pu rfl (WL.seg false 3 7 (B:=(!zle) || (decide (z2n.fMax < 1))) rfl rfl rfl rfl rfl rfl (fun h=>(y6V h).symm) (fun _ zFb=>?_) ?_))))))
 ·skip
  refine WL.qA 8 (ya y7V rfl rfl) (WL.qA 9 (yc yw rfl (yj .here rfl)) (WL.pu rfl (WL.pu rfl ?_)))
  exact WL.yB (y6W zFb) rfl rfl .all
 refine WL.pu rfl (WL.seg false 3 12 (B:=((!zle) || (decide (z2n.fMax < 1))) || (decide (z2n.fMax > 72))) rfl rfl rfl rfl rfl rfl (fun h=>(y6V h).symm) (fun _ zFc=>?_) ?_)
 ·skip
  refine WL.qA 13 (ya y7V rfl rfl) (WL.qA 14 (yc yw rfl (yj .here rfl)) (WL.pu rfl (WL.pu rfl ?_)))
  exact WL.yB (y6W zFc) rfl rfl .all
 refine WL.pu rfl (WL.nil (WX.a (WC.ret ?_)))
 obtain rfl:=Option.some.inj h
 refine WX.ye Tryz.results19 (.tmp rfl .nil) (fun w hw=>?_)
 exact ⟨yC rfl,hw.sub .nil⟩
def yZ (z1K : List Sapi_VL) (z75 : Sapi_VL → Option Bool) (z8U : Option Int) : Nat → Int → Option Int
 | 0,_=>none
 | zpr + 1,z1E=>if decide (z1E < ((z1K.length : Nat) : Int)) then chk ((0 : Int) ≤ z1E ∧ z1E < ((z1K.length : Nat) : Int)) ((z75 (⟨((nth z1K z1E).fName),(⟨(((nth z1K z1E).fFrom).fModule),(((nth z1K z1E).fFrom).fPart),(((nth z1K z1E).fFrom).fPort)⟩ : Sapi_Ref),((nth z1K z1E).fBag),((nth z1K z1E).fMax),((nth z1K z1E).fTo)⟩ : Sapi_VL)).bind fun zps=>if zps then some z1E else yZ z1K z75 z8U zpr (i64 (z1E + 1))) else z8U
theorem y5U {n : Nat} {z1K : List Sapi_VL} {z75 : Sapi_VL → Option Bool} {z8U : Option Int} {z1E : Int} {r : Int} (h : yZ z1K z75 z8U n z1E = some r) : ∃ m,n = m + 1:=by
 cases n with
 | zero=>cases h
 | succ m=>exact ⟨m,rfl⟩
def y2G (z1K : List Sapi_VL) (z75 : Sapi_VL → Option Bool) : Option Int :=
 jp0 (some (-1)) fun z8U=>yZ z1K z75 z8U yz 0
theorem y7e (Z : Zp) (zpt : Option Addr) (zpu : Nat) (zd4 : FuncId) (zim : List Value) (z1K : List Sapi_VL) (z75 : Sapi_VL → Option Bool) (r : Int)
  (h : y2G z1K z75 = some r) (w₀ : World) (hz : PZ [] w₀ Z)
  (zFd : ZS Z 7 (p46 Z) zpt zpu z1K)
  (zFe : ∀ args w,(callFunc zd4 args).run Tryz.prog w = .ok (.enter zd4 args) w)
  (zFf : ∀ w : World,PZ [] w Z → ∀ (x0 : Sapi_VL) (ao0 : Option Addr) (cap0 : Nat) (r : Bool),ZS Z 3 (fun r x=>r = e43 x) ao0 cap0 x0.fTo → z75 x0 = some r → Calls Tryz.prog zd4 (([(.agg #[(.string x0.fName),(.string x0.fFrom.fModule),(.string x0.fFrom.fPart),(.string x0.fFrom.fPort),(.int .i64 x0.fBag),(.int .i64 x0.fMax),(.slice ao0 x0.fTo.length cap0)])] : List Value) ++ zim).toArray w fun e w'=>e = .returned (.bool r) ∧ Hp [] w w' []) :
  Calls Tryz.prog 34 #[(.slice zpt z1K.length zpu),(.func (.func zd4) #[] (zim).toArray)] w₀ fun e w'=>e = .returned (.int .i64 r) ∧ Hp [] w₀ w' []:=by
 unfold y2G at h
 refine Calls.yI Tryz.func34 Tryz.ntmps34 ?_
 refine WC.b (WC.a (WL.pu rfl (WL.nil (WX.a ?_))))
 obtain ⟨z8U,zFg,h⟩:=y2i h
 refine WC.y1G ((z8U = some r)) ([]) ([]) ?_ ?_
 ·skip
  refine WC.b (WC.a (WL.pu rfl (WL.qA 7 (yG Tryz.underlying26 rfl) (WL.pu rfl (WL.nil (WX.a (WC.block (WC.y2S (fun (zeS : Nat) (z1E : Int)=>(yZ z1K z75 z8U zeS z1E = some r)) (fun zeS z1E=>[(0,(.slice zpt z1K.length zpu)),(1,(.func (.func zd4) #[] (zim).toArray)),(7,(.int .i64 ((z1K.length : Nat) : Int))),(8,(.int .i64 z1E))]) (fun zeS z1E=>[]) (fun zeS z1E=>zeS) ⟨yz,0⟩ h (.r4 rfl rfl rfl rfl) .nil ?_))))))))
  rintro zeS z1E h
  obtain ⟨zpr,rfl⟩:=y5U h
  rw [yZ] at h
  refine WC.b (WC.a (WL.pu rfl (WL.nil (WX.a (WC.b (WC.cond rfl (fun zpv=>?_) (fun zpv=>?_)))))))
  ·replace h:=yo h zpv
   refine WC.skip (WX.a (WC.b (WC.block (WC.b (WC.a (WL.pu rfl (WL.pu rfl (WL.nil (WX.a (WC.b ?_))))))))))
   obtain ⟨zFh,h⟩:=ym h
   obtain ⟨zps,zFi,h⟩:=z7 h
   refine WC.a (WL.pu rfl (WL.pu rfl (WL.pu rfl (WL.znth (dd:=14) rfl rfl (Z:=Z) (Pr:=(p46 Z)) y89 rfl rfl zFd zFh ?_))))
   rintro zSh zSi zFj zSj ⟨zFk,zFl,rfl,zFm⟩
   refine WL.qA 15 (yf aggT_46 rfl (y2o hz.pv zFj) rfl) (WL.cA 16 (y2q (l:=[.tmp 15]) (f:=zd4) (caps:=zim) zFe rfl (.cons rfl .nil)) .nil (fun w hw=>zFf w (hz.now hw) (⟨((nth z1K z1E).fName),(⟨(((nth z1K z1E).fFrom).fModule),(((nth z1K z1E).fFrom).fPart),(((nth z1K z1E).fFrom).fPort)⟩ : Sapi_Ref),((nth z1K z1E).fBag),((nth z1K z1E).fMax),((nth z1K z1E).fTo)⟩ : Sapi_VL) zFk zFl zps zFm zFi) (WL.nil (WX.a (WC.cond rfl (fun zpw=>?_) (fun zpw=>?_)))))
   ·replace h:=yo h zpw
    refine WC.b (WC.a (WL.pu rfl (WL.pu rfl (WL.nil (WX.a (WC.ret (WX.yt (WX.yd (WX.yd (WX.yt (WX.yd ?_)))))))))))
    obtain rfl:=Option.some.inj h
    refine WX.ye Tryz.results34 (.tmp rfl .nil) (fun w hw=>?_)
    exact ⟨yC rfl,hw.sub .nil⟩
   ·replace h:=yp h zpw
    refine WC.skip (WX.yq (WX.a (WC.a (WL.pu rfl (WL.pu rfl (WL.nil ?_))))))
    exact WX.round ⟨zpr,(i64 (z1E + 1))⟩ h (Nat.lt_succ_self _) (.r4 rfl rfl rfl rfl) .nil
  ·replace h:=yp h zpv
   refine WC.exit (WX.yg (WX.yg (WX.yA ?_)))
   exact WX.mid () h .nil .nil
 ·rintro  h
  replace h:=zFg.symm.trans h
  refine WC.b (WC.a (WL.pu rfl (WL.nil (WX.a (WC.ret ?_)))))
  obtain rfl:=Option.some.inj h
  refine WX.ye Tryz.results34 (.tmp rfl .nil) (fun w hw=>?_)
  exact ⟨yC rfl,hw.sub .nil⟩
def y1M (zin : List Sapi_VL) (zeT : Sapi_VL → Option Bool) : Option Bool :=
 (y2G zin zeT).bind fun zxm=>some (decide (zxm ≥ 0))
theorem y6K (Z : Zp) (zxn : Option Addr) (zxo : Nat) (zeU : FuncId) (zlf : List Value) (zin : List Sapi_VL) (zeT : Sapi_VL → Option Bool) (r : Bool)
  (h : y1M zin zeT = some r) (w₀ : World) (hz : PZ [] w₀ Z)
  (zFn : ZS Z 7 (p46 Z) zxn zxo zin)
  (zFo : ∀ args w,(callFunc zeU args).run Tryz.prog w = .ok (.enter zeU args) w)
  (zFp : ∀ w : World,PZ [] w Z → ∀ (x0 : Sapi_VL) (ao0 : Option Addr) (cap0 : Nat) (r : Bool),ZS Z 3 (fun r x=>r = e43 x) ao0 cap0 x0.fTo → zeT x0 = some r → Calls Tryz.prog zeU (([(.agg #[(.string x0.fName),(.string x0.fFrom.fModule),(.string x0.fFrom.fPart),(.string x0.fFrom.fPort),(.int .i64 x0.fBag),(.int .i64 x0.fMax),(.slice ao0 x0.fTo.length cap0)])] : List Value) ++ zlf).toArray w fun e w'=>e = .returned (.bool r) ∧ Hp [] w w' []) :
  Calls Tryz.prog 18 #[(.slice zxn zin.length zxo),(.func (.func zeU) #[] (zlf).toArray)] w₀ fun e w'=>e = .returned (.bool r) ∧ Hp [] w₀ w' []:=by
 unfold y1M at h
 refine Calls.yI Tryz.func18 Tryz.ntmps18 ?_
 refine WC.b (WC.a (WL.pu rfl (WL.nil (WX.a (WC.b ?_)))))
 obtain ⟨zxm,zFq,h⟩:=z7 h
 refine WC.a (WL.pu rfl (WL.pu rfl (WL.cA 7 (z8 Tryz.call34 (.r2 rfl rfl)) .nil (cc hz .nil fun w pz ho=>y7e _ _ _ (zd4:=zeU) (zim:=zlf) _ (z75:=zeT) _ zFq w pz zFn zFo zFp) (WL.pu rfl (WL.pu rfl (WL.nil (WX.a (WC.ret ?_))))))))
 obtain rfl:=Option.some.inj h
 refine WX.ye Tryz.results18 (.tmp rfl .nil) (fun w hw=>?_)
 exact ⟨yC rfl,hw.sub .nil⟩
def y3U (z6l : Sapi_Hop) : Option Sbound_place :=
 some (⟨z6l.fNode,z6l.fLink⟩ : Sbound_place)
theorem y5i (Z : Zp)  (z6l : Sapi_Hop) (r : Sbound_place)
  (h : y3U z6l = some r) (w₀ : World) (hz : PZ [] w₀ Z) :
  Calls Tryz.prog 40 #[(.agg #[(.int .i64 z6l.fNode),(.int .i64 z6l.fNext),(.int .i64 z6l.fLink)])] w₀ fun e w'=>e = .returned (.agg #[(.int .i64 r.fNode),(.int .i64 r.fLink)]) ∧ Hp [] w₀ w' []:=by
 unfold y3U at h
 refine Calls.on1 Tryz.func40 Tryz.ntmps40 ?_
 refine WC.b (WC.a (WL.nA 1 (yH (cs:=[(.int .i64 z6l.fNode),(.int .i64 z6l.fNext),(.int .i64 z6l.fLink)]) rfl rfl) ?_))
 intro zSk _
 refine WL.nA 2 (yx (cs:=[(.int .i64 0),(.int .i64 0)]) y8Q rfl) ?_
 intro zSl _
 refine WL.nil (WX.a (WC.b (WC.a (WL.qA 3 (ya y4O rfl rfl) (WL.qA 4 (yc yw rfl (yj .h1 rfl)) (WL.qA 5 (ya yb8 rfl rfl) (WL.qA 6 (yc yw rfl (yj .h1 rfl)) (WL.qA 7 (yL (v:=(.agg #[(.int .i64 z6l.fNode),(.int .i64 z6l.fLink)])) (Eos.parts (l:=[.tmp 4,.tmp 6]) (.r2 rfl rfl) [0,1]) (fun _=>by kernel_rfl)) (WL.yl rfl rfl (yk yba rfl rfl rfl .here rfl rfl rfl) (WL.nil (WX.a (WC.ret ?_))))))))))))
 obtain rfl:=Option.some.inj h
 refine WX.ye Tryz.results40 (.agg rfl y3H rfl (yh .here) .nil) (fun w hw=>?_)
 exact ⟨yC rfl,hw.sub .nil⟩
def yN (z3H : List Sbound_place) (z4E : Sbound_place) (z8V : Option Int) : Nat → Int → Option Int
 | 0,_=>none
 | zpx + 1,z3n=>if decide (z3n < ((z3H.length : Nat) : Int)) then chk ((0 : Int) ≤ z3n ∧ z3n < ((z3H.length : Nat) : Int)) (if decide (z4E = (⟨((nth z3H z3n).fNode),((nth z3H z3n).fLink)⟩ : Sbound_place)) then some z3n else yN z3H z4E z8V zpx (i64 (z3n + 1))) else z8V
theorem y57 {n : Nat} {z3H : List Sbound_place} {z4E : Sbound_place} {z8V : Option Int} {z3n : Int} {r : Int} (h : yN z3H z4E z8V n z3n = some r) : ∃ m,n = m + 1:=by
 cases n with
 | zero=>cases h
 | succ m=>exact ⟨m,rfl⟩
def y20 (z3H : List Sbound_place) (z4E : Sbound_place) : Option Int :=
 jp0 (some (-1)) fun z8V=>yN z3H z4E z8V yz 0
theorem y6f (Z : Zp) (zpy : Option Addr) (zpz : Nat) (z3H : List Sbound_place) (z4E : Sbound_place) (r : Int)
  (h : y20 z3H z4E = some r) (w₀ : World) (hz : PZ [] w₀ Z)
  (zFr : ZS Z 2 (fun r x=>r = e97 x) zpy zpz z3H) :
  Calls Tryz.prog 103 #[(.slice zpy z3H.length zpz),(.agg #[(.int .i64 z4E.fNode),(.int .i64 z4E.fLink)])] w₀ fun e w'=>e = .returned (.int .i64 r) ∧ Hp [] w₀ w' []:=by
 unfold y20 at h
 refine Calls.yI Tryz.func103 Tryz.ntmps103 ?_
 refine WC.b (WC.a (WL.nA 3 (yH (cs:=[(.int .i64 z4E.fNode),(.int .i64 z4E.fLink)]) rfl rfl) ?_))
 intro zxp _
 refine WL.pu rfl (WL.nil (WX.a ?_))
 obtain ⟨z8V,zFs,h⟩:=y2i h
 refine WC.y1G ((z8V = some r)) ([]) ([]) ?_ ?_
 ·skip
  refine WC.b (WC.a (WL.pu rfl (WL.qA 7 (yG Tryz.underlying88 rfl) (WL.pu rfl (WL.nil (WX.a (WC.block (WC.y2S (fun (zeV : Nat) (z3n : Int)=>(yN z3H z4E z8V zeV z3n = some r)) (fun zeV z3n=>[(0,(.slice zpy z3H.length zpz)),(3,(.pointer (some ⟨zxp,0,none⟩))),(7,(.int .i64 ((z3H.length : Nat) : Int))),(8,(.int .i64 z3n))]) (fun zeV z3n=>[stb zxp 97 [(.int .i64 z4E.fNode),(.int .i64 z4E.fLink)]]) (fun zeV z3n=>zeV) ⟨yz,0⟩ h (.r4 rfl rfl rfl rfl) (.cons .here .nil) ?_))))))))
  rintro zeV z3n h
  obtain ⟨zpx,rfl⟩:=y57 h
  rw [yN] at h
  refine WC.b (WC.a (WL.pu rfl (WL.nil (WX.a (WC.b (WC.cond rfl (fun zpA=>?_) (fun zpA=>?_)))))))
  ·replace h:=yo h zpA
   refine WC.skip (WX.a (WC.b (WC.block (WC.b (WC.a (WL.pu rfl (WL.pu rfl (WL.nil (WX.a (WC.b ?_))))))))))
   obtain ⟨zFt,h⟩:=ym h
   refine WC.yP (fun i=>[].contains i) [] rfl (WD.qA 0 11 rfl (yf y3H rfl (yh .here) rfl) (WD.pA 1 12 rfl (fun _=>q_m rfl) (WD.pA 2 13 rfl (fun _=>q_m rfl) (WD.znth (j:=3) (dd:=14) (by kernel_rfl) rfl z2l z2m rfl rfl (Z:=Z) (Pr:=(fun r x=>r = e97 x)) y5f rfl rfl zFr zFt ?_))))
   rintro zSm zSn zFu zSo rfl
   refine WD.qA 4 15 rfl (yf y3H rfl (y2o hz.pv zFu) rfl) (WD.pA 5 16 rfl (fun _=>y7b (enc:=e97) (a:=z4E) (b:=(⟨((nth z3H z3n).fNode),((nth z3H z3n).fLink)⟩ : Sbound_place)) yc7 rfl rfl) (WD.done (by kernel_rfl) (WX.a (WC.cond rfl (fun zpB=>?_) (fun zpB=>?_)))))
   ·replace h:=yo h zpB
    refine WC.b (WC.a (WL.pu rfl (WL.pu rfl (WL.nil (WX.a (WC.ret (WX.yt (WX.yd (WX.yd (WX.yt (WX.yd ?_)))))))))))
    obtain rfl:=Option.some.inj h
    refine WX.ye Tryz.results103 (.tmp rfl .nil) (fun w hw=>?_)
    exact ⟨yC rfl,hw.sub .nil⟩
   ·replace h:=yp h zpB
    refine WC.skip (WX.yq (WX.a (WC.a (WL.pu rfl (WL.pu rfl (WL.nil ?_))))))
    exact WX.round ⟨zpx,(i64 (z3n + 1))⟩ h (Nat.lt_succ_self _) (.r4 rfl rfl rfl rfl) (.cons .here .nil)
  ·replace h:=yp h zpA
   refine WC.exit (WX.yg (WX.yg (WX.yA ?_)))
   exact WX.mid () h .nil .nil
 ·rintro  h
  replace h:=zFs.symm.trans h
  refine WC.b (WC.a (WL.pu rfl (WL.nil (WX.a (WC.ret ?_)))))
  obtain rfl:=Option.some.inj h
  refine WX.ye Tryz.results103 (.tmp rfl .nil) (fun w hw=>?_)
  exact ⟨yC rfl,hw.sub .nil⟩
def y1q (zio : List Sbound_place) (zd5 : Sbound_place) : Option Bool :=
 (y20 zio zd5).bind fun zxq=>some (decide (zxq ≥ 0))
theorem y5P (Z : Zp) (zxr : Option Addr) (zxs : Nat) (zio : List Sbound_place) (zd5 : Sbound_place) (r : Bool)
  (h : y1q zio zd5 = some r) (w₀ : World) (hz : PZ [] w₀ Z)
  (zFv : ZS Z 2 (fun r x=>r = e97 x) zxr zxs zio) :
  Calls Tryz.prog 63 #[(.slice zxr zio.length zxs),(.agg #[(.int .i64 zd5.fNode),(.int .i64 zd5.fLink)])] w₀ fun e w'=>e = .returned (.bool r) ∧ Hp [] w₀ w' []:=by
 unfold y1q at h
 refine Calls.yI Tryz.func63 Tryz.ntmps63 ?_
 refine WC.b (WC.a (WL.nA 3 (yH (cs:=[(.int .i64 zd5.fNode),(.int .i64 zd5.fLink)]) rfl rfl) ?_))
 intro zSp _
 refine WL.pu rfl (WL.nil (WX.a (WC.b ?_)))
 obtain ⟨zxq,zFw,h⟩:=z7 h
 refine WC.a (WL.pu rfl (WL.qA 6 (yf y3H rfl (yh .here) rfl) (WL.cA 7 (z8 Tryz.call103 (.r2 rfl rfl)) .nil (cc hz .nil fun w pz ho=>y6f _ _ _ _ _ _ zFw w pz zFv) (WL.pu rfl (WL.pu rfl (WL.nil (WX.a (WC.ret ?_))))))))
 obtain rfl:=Option.some.inj h
 refine WX.ye Tryz.results63 (.tmp rfl .nil) (fun w hw=>?_)
 exact ⟨yC rfl,hw.sub .nil⟩
def y5j (ziq : Int) : Option Bool :=
 some (decide (ziq ≠ ziq))
theorem y9h (Z : Zp)  (ziq : Int) (r : Bool)
  (h : y5j ziq = some r) (w₀ : World) (hz : PZ [] w₀ Z) :
  Calls Tryz.prog 91 #[(.int .i64 ziq)] w₀ fun e w'=>e = .returned (.bool r) ∧ Hp [] w₀ w' []:=by
 unfold y5j at h
 refine Calls.on1 Tryz.func91 Tryz.ntmps91 ?_
 refine WC.b (WC.a (WL.pu rfl (WL.nil (WX.a (WC.b (WC.a (WL.pu rfl (WL.pu rfl (WL.pu rfl (WL.pu rfl (WL.nil (WX.a (WC.ret ?_)))))))))))))
 obtain rfl:=Option.some.inj h
 refine WX.ye Tryz.results91 (.tmp rfl .nil) (fun w hw=>?_)
 exact ⟨yC rfl,hw.sub .nil⟩
def y44 (zeW : Int) (zeX : Int) : Option Int :=
 (y5j zeW).bind fun zxt=>(y5j zeX).bind fun zpC=>if zxt then if zpC then some 0 else some (-1) else if zpC then some 1 else if decide (zeW < zeX) then some (-1) else if decide (zeW > zeX) then some 1 else some 0
theorem y8s (Z : Zp)  (zeW : Int) (zeX : Int) (r : Int)
  (h : y44 zeW zeX = some r) (w₀ : World) (hz : PZ [] w₀ Z) :
  Calls Tryz.prog 50 #[(.int .i64 zeW),(.int .i64 zeX)] w₀ fun e w'=>e = .returned (.int .i64 r) ∧ Hp [] w₀ w' []:=by
 unfold y44 at h
 refine Calls.yI Tryz.func50 Tryz.ntmps50 ?_
 refine WC.b (WC.a (WL.pu rfl (WL.nil (WX.a (WC.b ?_)))))
 obtain ⟨zxt,zFx,h⟩:=z7 h
 refine WC.a (WL.pu rfl (WL.cA 8 (z8 Tryz.call91 (.cons rfl .nil)) .nil (cc hz .nil fun w pz ho=>y9h _ _ _ zFx w pz ) (WL.pu rfl (WL.nil (WX.a (WC.b ?_))))))
 obtain ⟨zpC,zFy,h⟩:=z7 h
 refine WC.a (WL.pu rfl (WL.cA 10 (z8 Tryz.call91 (.cons rfl .nil)) .nil (cc hz .nil fun w pz ho=>y9h _ _ _ zFy w pz ) (WL.pu rfl (WL.nil (WX.a (WC.b (WC.b (WC.a (WL.pu rfl (WL.nil (WX.a (WC.cond rfl (fun zpD=>?_) (fun zpD=>?_)))))))))))))
 ·replace h:=yo h zpD
  refine WC.b (WC.b (WC.a (WL.pu rfl (WL.nil (WX.a (WC.cond rfl (fun zpE=>?_) (fun zpE=>?_)))))))
  ·replace h:=yo h zpE
   refine WC.b (WC.a (WL.pu rfl (WL.nil (WX.a (WC.ret (WX.yd (WX.yd ?_)))))))
   obtain rfl:=Option.some.inj h
   refine WX.ye Tryz.results50 (.tmp rfl .nil) (fun w hw=>?_)
   exact ⟨yC rfl,hw.sub .nil⟩
  ·replace h:=yp h zpE
   refine WC.skip (WX.a (WC.b (WC.a (WL.pu rfl (WL.nil (WX.a (WC.ret (WX.yd ?_))))))))
   obtain rfl:=Option.some.inj h
   refine WX.ye Tryz.results50 (.tmp rfl .nil) (fun w hw=>?_)
   exact ⟨yC rfl,hw.sub .nil⟩
 ·replace h:=yp h zpD
  refine WC.skip (WX.a (WC.b (WC.b (WC.a (WL.pu rfl (WL.nil (WX.a (WC.cond rfl (fun zpF=>?_) (fun zpF=>?_)))))))))
  ·replace h:=yo h zpF
   refine WC.b (WC.a (WL.pu rfl (WL.nil (WX.a (WC.ret (WX.yd ?_))))))
   obtain rfl:=Option.some.inj h
   refine WX.ye Tryz.results50 (.tmp rfl .nil) (fun w hw=>?_)
   exact ⟨yC rfl,hw.sub .nil⟩
  ·replace h:=yp h zpF
   refine WC.skip (WX.a (WC.b (WC.b (WC.a (WL.pu rfl (WL.pu rfl (WL.pu rfl (WL.nil (WX.a (WC.cond rfl (fun zpG=>?_) (fun zpG=>?_)))))))))))
   ·replace h:=yo h zpG
    refine WC.b (WC.a (WL.pu rfl (WL.nil (WX.a (WC.ret (WX.yd ?_))))))
    obtain rfl:=Option.some.inj h
    refine WX.ye Tryz.results50 (.tmp rfl .nil) (fun w hw=>?_)
    exact ⟨yC rfl,hw.sub .nil⟩
   ·replace h:=yp h zpG
    refine WC.skip (WX.a (WC.b (WC.b (WC.a (WL.pu rfl (WL.pu rfl (WL.pu rfl (WL.nil (WX.a (WC.cond rfl (fun zpH=>?_) (fun zpH=>?_)))))))))))
    ·replace h:=yo h zpH
     refine WC.b (WC.a (WL.pu rfl (WL.nil (WX.a (WC.ret (WX.yd ?_))))))
     obtain rfl:=Option.some.inj h
     refine WX.ye Tryz.results50 (.tmp rfl .nil) (fun w hw=>?_)
     exact ⟨yC rfl,hw.sub .nil⟩
    ·replace h:=yp h zpH
     refine WC.skip (WX.a (WC.b (WC.a (WL.pu rfl (WL.nil (WX.a (WC.ret ?_)))))))
     obtain rfl:=Option.some.inj h
     refine WX.ye Tryz.results50 (.tmp rfl .nil) (fun w hw=>?_)
     exact ⟨yC rfl,hw.sub .nil⟩
def y3V (z4F : List Int) (z8W : Option Int) : Nat → Int → Option Int
 | 0,_=>none
 | zpI + 1,z4G=>if decide (z4G < ((z4F.length : Nat) : Int)) then chk ((0 : Int) ≤ z4G ∧ z4G < ((z4F.length : Nat) : Int)) (if decide ((nth z4F z4G) ≠ 0) then some (nth z4F z4G) else y3V z4F z8W zpI (i64 (z4G + 1))) else z8W
theorem ya1 {n : Nat} {z4F : List Int} {z8W : Option Int} {z4G : Int} {r : Int} (h : y3V z4F z8W n z4G = some r) : ∃ m,n = m + 1:=by
 cases n with
 | zero=>cases h
 | succ m=>exact ⟨m,rfl⟩
def y6x (z4F : List Int) : Option Int :=
 jp0 (some 0) fun z8W=>y3V z4F z8W yz 0
theorem ydP (Z : Zp) (zpJ : Option Addr) (zpK : Nat) (z4F : List Int) (r : Int)
  (h : y6x z4F = some r) (w₀ : World) (hz : PZ [] w₀ Z)
  (zFz : ZS Z 1 (fun r x=>r = e3 x) zpJ zpK z4F) :
  Calls Tryz.prog 49 #[(.slice zpJ z4F.length zpK)] w₀ fun e w'=>e = .returned (.int .i64 r) ∧ Hp [] w₀ w' []:=by
 unfold y6x at h
 refine Calls.on1 Tryz.func49 Tryz.ntmps49 ?_
 refine WC.b (WC.a (WL.pu rfl (WL.nil (WX.a (WC.b (WC.a (WL.pu rfl (WL.nil (WX.a ?_)))))))))
 obtain ⟨z8W,zFA,h⟩:=y2i h
 refine WC.y1G ((z8W = some r)) ([(3,(.int .i64 0))]) ([]) ?_ ?_
 ·skip
  refine WC.b (WC.a (WL.pu rfl (WL.qA 7 (yG Tryz.underlying109 rfl) (WL.pu rfl (WL.nil (WX.a (WC.block (WC.y2S (fun (zeY : Nat) (z4G : Int)=>(y3V z4F z8W zeY z4G = some r)) (fun zeY z4G=>[(3,(.int .i64 0)),(6,(.slice zpJ z4F.length zpK)),(7,(.int .i64 ((z4F.length : Nat) : Int))),(8,(.int .i64 z4G))]) (fun zeY z4G=>[]) (fun zeY z4G=>zeY) ⟨yz,0⟩ h (.r4 rfl rfl rfl rfl) .nil ?_))))))))
  rintro zeY z4G h
  obtain ⟨zpI,rfl⟩:=ya1 h
  rw [y3V] at h
  refine WC.b (WC.a (WL.pu rfl (WL.nil (WX.a (WC.b (WC.cond rfl (fun zpL=>?_) (fun zpL=>?_)))))))
  ·replace h:=yo h zpL
   refine WC.skip (WX.a (WC.b (WC.block (WC.b ?_))))
   obtain ⟨zFB,h⟩:=ym h
   refine WC.a (WL.znth (dd:=10) rfl rfl (Z:=Z) (Pr:=(fun r x=>r = e3 x)) zhV rfl rfl zFz zFB ?_)
   rintro zSq zSr zFC zSs rfl
   refine WL.qA 11 (yc yw rfl (y53 hz.pv zFC rfl)) (WL.pu rfl (WL.nil (WX.a (WC.b (WC.a (WL.pu rfl (WL.pu rfl (WL.pu rfl (WL.nil (WX.a (WC.cond rfl (fun zpM=>?_) (fun zpM=>?_))))))))))))
   ·replace h:=yo h zpM
    refine WC.b (WC.a (WL.pu rfl (WL.pu rfl (WL.nil (WX.a (WC.ret (WX.yt (WX.yd (WX.yd (WX.yt (WX.yd ?_)))))))))))
    obtain rfl:=Option.some.inj h
    refine WX.ye Tryz.results49 (.tmp rfl .nil) (fun w hw=>?_)
    exact ⟨yC rfl,hw.sub .nil⟩
   ·replace h:=yp h zpM
    refine WC.skip (WX.yq (WX.a (WC.a (WL.pu rfl (WL.pu rfl (WL.nil ?_))))))
    exact WX.round ⟨zpI,(i64 (z4G + 1))⟩ h (Nat.lt_succ_self _) (.r4 rfl rfl rfl rfl) .nil
  ·replace h:=yp h zpL
   refine WC.exit (WX.yg (WX.yg (WX.yA ?_)))
   exact WX.mid () h (.cons rfl .nil) .nil
 ·rintro  h
  replace h:=zFA.symm.trans h
  refine WC.b (WC.a (WL.pu rfl (WL.pu rfl (WL.nil (WX.a (WC.ret ?_))))))
  obtain rfl:=Option.some.inj h
  refine WX.ye Tryz.results49 (.tmp rfl .nil) (fun w hw=>?_)
  exact ⟨yC rfl,hw.sub .nil⟩
def y1j (zaH : Sbound_place) (zaI : Sbound_place) : Option Int :=
 (y44 zaH.fNode zaI.fNode).bind fun zpN=>(y44 zaH.fLink zaI.fLink).bind fun zpO=>(y6x ([zpN,zpO] : List Int)).bind fun zxu=>some zxu
theorem y7C (Z : Zp)  (zaH : Sbound_place) (zaI : Sbound_place) (r : Int)
  (h : y1j zaH zaI = some r) (w₀ : World) (hz : PZ [] w₀ Z) :
  Calls Tryz.prog 25 #[(.agg #[(.int .i64 zaH.fNode),(.int .i64 zaH.fLink)]),(.agg #[(.int .i64 zaI.fNode),(.int .i64 zaI.fLink)])] w₀ fun e w'=>e = .returned (.int .i64 r) ∧ Hp [] w₀ w' []:=by
 unfold y1j at h
 refine Calls.yI Tryz.func25 Tryz.ntmps25 ?_
 refine WC.b (WC.a (WL.nA 2 (yH (cs:=[(.int .i64 zaH.fNode),(.int .i64 zaH.fLink)]) rfl rfl) ?_))
 intro zSt _
 refine WL.nA 3 (yH (cs:=[(.int .i64 zaI.fNode),(.int .i64 zaI.fLink)]) rfl rfl) ?_
 intro zSu _
 refine WL.pu rfl (WL.nil (WX.a (WC.b ?_)))
 obtain ⟨zpN,zFD,h⟩:=z7 h
 obtain ⟨zpO,zFE,h⟩:=z7 h
 obtain ⟨zxu,zFF,h⟩:=z7 h
 refine WC.yP (fun i=>[].contains i) [] rfl (WD.pA 0 5 rfl (fun _=>ya y8J rfl rfl) (WD.qA 1 6 rfl (yc yw rfl (yj .h1 rfl)) (WD.pA 2 7 rfl (fun _=>ya y8J rfl rfl) (WD.qA 3 8 rfl (yc yw rfl (yj .here rfl)) (WD.eA 4 9 rfl (z8 Tryz.call50 (.r2 rfl rfl)) (cc hz .nil fun w pz ho=>y8s _ _ _ _ zFD w pz ) (WD.pA 5 10 rfl (fun _=>ya y9y rfl rfl) (WD.qA 6 11 rfl (yc yw rfl (yj .h1 rfl)) (WD.pA 7 12 rfl (fun _=>ya y9y rfl rfl) (WD.qA 8 13 rfl (yc yw rfl (yj .here rfl)) (WD.eA 9 14 rfl (z8 Tryz.call50 (.r2 rfl rfl)) (cc hz .nil fun w pz ho=>y8s _ _ _ _ zFE w pz ) (WD.new (i:=10) (dd:=15) rfl (by kernel_rfl) rfl rfl rfl (yX (cs:=([zpN,zpO] : List Int).flatMap e3) zhV (Eos.parts (l:=[.tmp 9,.tmp 14]) (.r2 rfl rfl) [0,1]) (fun _=>by kernel_rfl) rfl (by unfold maxLen; omega)) (fun h'=>absurd h' (by decide)) ?_)))))))))))
 intro zSv _
 refine WD.eA 11 16 rfl (z8 Tryz.call49 (.cons rfl .nil)) (ccl hz .nil (.cons .here .nil) fun w pz ho la=>ydP _ _ _ _ _ zFF w pz (ZA.row (la _ (.head _) _) (RR.flat (enc:=e3) (fun _=>rfl) _) ⟨w,pz.1⟩)) (WD.pA 12 4 rfl (fun _=>q_z rfl) (WD.done (by kernel_rfl) (WX.a (WC.ret ?_))))
 obtain rfl:=Option.some.inj h
 refine WX.ye Tryz.results25 (.tmp rfl .nil) (fun w hw=>?_)
 exact ⟨yC rfl,hw.sub .nil⟩
def y3W (z6m : Int) : Option Int:=chk ((0 : Int) ≤ z6m ∧ z6m ≤ 18446744073709551615) (some ((Go.Lib.bitLen (z6m).toNat : Nat) : Int))
theorem y7D (Z : Zp) (z6m : Int) (r : Int) (w₀ : World) (hz : PZ [] w₀ Z) (h : y3W z6m = some r) : Calls Tryz.prog 48 #[.int .u64 z6m] w₀ fun e w'=>e = .returned (.int .i64 r) ∧ Hp [] w₀ w' []:=by
 obtain ⟨h0,h⟩:=ym h
 obtain rfl:=Option.some.inj h
 refine (Tryz.bits_Len z6m w₀ h0.1 h0.2).mono ?_
 rintro e w' ⟨rfl,rfl⟩
 exact ⟨rfl,Hp.nil w' []⟩
theorem zFG : ∀ w,(isAgg (Tryz.y34.t 24)).run Tryz.prog w = .ok true w:=fun _=>by kernel_rfl
theorem zFH : ∀ w,(Go.sizeOf (Tryz.y34.t 24)).run Tryz.prog w = .ok 2 w:=fun _=>by kernel_rfl
def y3f (z48 : List Sbound_place) (zir : Int) (zis : Int) (zeZ : Int) (zd6 : Sbound_place → Sbound_place → Option Int) : Option (List Sbound_place):=chk ((zir = 0 ∧ zis = ((z48.length : Nat) : Int)) ∧ (0 ≤ zeZ ∧ zeZ < 4611686018427387904 ∧ z48.length < 4611686018427387904)) (chk (y7d zd6 (yS zd6 z48) = true) (some (yS zd6 z48)))
theorem y6L (Z : Zp) (zd7 : Option Addr) (zd8 : Nat) (zit : FuncId) (zpP : List Value) (z48 : List Sbound_place) (zir : Int) (zis : Int) (zeZ : Int) (zd6 : Sbound_place → Sbound_place → Option Int) (r : List Sbound_place) (w₀ : World) (hz : PZ (fps [row (.slice zd7 z48.length zd8) 97 2 (z48.flatMap e97)]) w₀ Z)
  (zFI : ∀ args w,(callFunc zit args).run Tryz.prog w = .ok (.enter zit args) w)
  (zFJ : ∀ w : World,PZ [] w Z → ∀ (x0 : Sbound_place) (x1 : Sbound_place) (r : Int),zd6 x0 x1 = some r → Calls Tryz.prog zit (([(.agg #[(.int .i64 x0.fNode),(.int .i64 x0.fLink)]),(.agg #[(.int .i64 x1.fNode),(.int .i64 x1.fLink)])] : List Value) ++ zpP).toArray w fun e w'=>e = .returned (.int .i64 r) ∧ Hp [] w w' [])
  (h : y3f z48 zir zis zeZ zd6 = some r) (hown : Hp (fps [row (.slice zd7 z48.length zd8) 97 2 (z48.flatMap e97)]) w₀ w₀ [row (.slice zd7 z48.length zd8) 97 2 (z48.flatMap e97)]) :
  Calls Tryz.prog 104 #[(.slice zd7 z48.length zd8),(.int .i64 zir),(.int .i64 zis),(.int .i64 zeZ),(.func (.func zit) #[] (zpP).toArray)] w₀ fun e w'=>e = .returned (.tuple #[]) ∧ (r.length = z48.length) ∧ Hp (fps [row (.slice zd7 z48.length zd8) 97 2 (z48.flatMap e97)]) w₀ w' [row (.slice zd7 r.length zd8) 97 2 (r.flatMap e97)]:=by
 obtain ⟨h0,h⟩:=ym h
 obtain ⟨h1,h⟩:=ym h
 have hr:=(Option.some.inj h).symm
 exact y85 (P:=Tryz.prog) (f:=104) (e:=97) (k:=2) (enc:=e97) (fun _=>rfl) (by decide) yaM (fun β _ enc cf g cb hO blk off cap d0 w0 eg hC R=>Tryz.y7O 2 zFG zFH enc cf g cb hO blk off cap d0 w0 eg hC R) (Tryz.y7H (α:=Unit)) hz zFI zFJ h0 h1 hr hown
def y1r (z3I : List Sbound_place) (zf0 : Sbound_place → Sbound_place → Option Int) : Option (List Sbound_place) :=
 (y3W (u64 ((z3I.length : Nat) : Int))).bind fun zlg=>(y3f z3I 0 ((z3I.length : Nat) : Int) zlg zf0).bind fun zlh=>some zlh
theorem y5Q (Z : Zp) (zaJ : Option Addr) (zaK : Nat) (zf1 : FuncId) (zli : List Value) (z3I : List Sbound_place) (zf0 : Sbound_place → Sbound_place → Option Int) (r : List Sbound_place)
  (h : y1r z3I zf0 = some r) (w₀ : World) (hz : PZ (fps [row (.slice zaJ z3I.length zaK) 97 2 (z3I.flatMap e97)]) w₀ Z)
  (zFK : ∀ args w,(callFunc zf1 args).run Tryz.prog w = .ok (.enter zf1 args) w)
  (zFL : ∀ w : World,PZ [] w Z → ∀ (x0 : Sbound_place) (x1 : Sbound_place) (r : Int),zf0 x0 x1 = some r → Calls Tryz.prog zf1 (([(.agg #[(.int .i64 x0.fNode),(.int .i64 x0.fLink)]),(.agg #[(.int .i64 x1.fNode),(.int .i64 x1.fLink)])] : List Value) ++ zli).toArray w fun e w'=>e = .returned (.int .i64 r) ∧ Hp [] w w' [])
  (hown : Hp (fps [row (.slice zaJ z3I.length zaK) 97 2 (z3I.flatMap e97)]) w₀ w₀ [row (.slice zaJ z3I.length zaK) 97 2 (z3I.flatMap e97)]) :
  Calls Tryz.prog 64 #[(.slice zaJ z3I.length zaK),(.func (.func zf1) #[] (zli).toArray)] w₀ fun e w'=>e = .returned (.tuple #[]) ∧ (r.length = z3I.length) ∧ Hp (fps [row (.slice zaJ z3I.length zaK) 97 2 (z3I.flatMap e97)]) w₀ w' [row (.slice zaJ r.length zaK) 97 2 (r.flatMap e97)]:=by
 unfold y1r at h
 refine Calls.oh2 Tryz.func64 Tryz.ntmps64 hown ?_
 refine WC.b (WC.a (WL.pu rfl (WL.qA 6 (yG Tryz.underlying88 rfl) (WL.pu rfl (WL.nil (WX.a ?_))))))
 obtain ⟨zlg,zFM,h⟩:=z7 h
 obtain ⟨zlh,zFN,h⟩:=z7 h
 refine WC.a (WL.pu rfl (WL.pu rfl (WL.pu rfl (WL.qA 10 (y72 Tryz.underlying3 Tryz.underlying142 rfl rfl) (WL.cA 11 (z8 Tryz.call48 (.cons rfl .nil)) .nil (cc hz .nil fun w pz ho=>y7D (Z:=_)  (z6m:=(u64 ((z3I.length : Nat) : Int))) (r:=zlg) w pz  zFM) (WL.pu rfl (WL.y4L (dd:=13) rfl rfl rfl (z8 Tryz.call104 (.r5 rfl rfl rfl rfl rfl)) (.cons .here .nil) (cc hz (.cons .here .nil) fun w pz ho=>y6L (Z:=_) (zd7:=zaJ) (zd8:=zaK) (zit:=zf1) (zpP:=zli) (z48:=z3I) (zir:=0) (zis:=((z3I.length : Nat) : Int)) (zeZ:=zlg) (zd6:=zf0) (r:=zlh) w pz zFK zFL zFN ho) ?_)))))))
 rintro  zxv
 refine WL.repin (i:=0) rfl (u:=(.slice zaJ zlh.length zaK)) (y7u zxv.symm) (WL.nil ?_)
 obtain rfl:=Option.some.inj h
 refine WX.y4K Tryz.results64 .nil (fun w hw=>?_)
 exact ⟨y7a,(zxv.trans rfl),hw.sub (.cons .here .nil)⟩
end Go.Proofs.YtcahmabkeaijdaaGreat
