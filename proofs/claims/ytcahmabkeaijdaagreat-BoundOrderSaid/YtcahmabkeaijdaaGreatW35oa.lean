/- A part of this claim's proof: models of functions, walks, plain laws. No conditions. -/
import Derived.Test.YtcahmabkeaijdaaGreatZShort
import Derived.Test.YtcahmabkeaijdaaGreatZSortF
import Derived.Test.YtcahmabkeaijdaaGreatZUnroll
import Derived.Test.YtcahmabkeaijdaaGreatZIter
import Derived.Test.YtcahmabkeaijdaaGreatZArr
import Derived.Test.YtcahmabkeaijdaaGreatZMapS
import Derived.Test.YtcahmabkeaijdaaGreatZDel
import Derived.Test.YtcahmabkeaijdaaGreatShelf35
import Derived.Test.YtcahmabkeaijdaaGreatProg
namespace Go.Proofs.YtcahmabkeaijdaaGreat
open Go Go.RowKit Sep
set_option linter.all false
set_option maxRecDepth 30000
set_option maxHeartbeats 4000000
structure Sapi_Port where
 fName : ByteArray
 fKind : Int
 fOut : Bool
 fSize : Int
 fDepth : Int
 fRefresh : Int
 deriving Inhabited,DecidableEq
structure Sapi_Ins where
 fOp : Int
 fA : Int
 fB : Int
 fC : Int
 deriving Inhabited,DecidableEq
structure Sapi_Proc where
 fName : ByteArray
 fPrio : Int
 fPeriod : Int
 fLimit : Int
 fCode : List Sapi_Ins
 deriving Inhabited,DecidableEq
structure Sapi_Part where
 fName : ByteArray
 fPeriod : Int
 fLength : Int
 fMem : Int
 fSemas : List Int
 fEvents : Int
 fBoards : Int
 fBufs : List Int
 fPorts : List Sapi_Port
 fProcs : List Sapi_Proc
 deriving Inhabited,DecidableEq
structure Sapi_Module where
 fName : ByteArray
 fMem : Int
 fFrame : Int
 fParts : List Sapi_Part
 deriving Inhabited,DecidableEq
structure Sapi_Ref where
 fModule : ByteArray
 fPart : ByteArray
 fPort : ByteArray
 deriving Inhabited,DecidableEq
structure Sapi_Channel where
 fFrom : Sapi_Ref
 fTo : List Sapi_Ref
 deriving Inhabited,DecidableEq
structure Sapi_Switch where
 fName : ByteArray
 fNet : Int
 fDelay : Int
 fStore : Int
 deriving Inhabited,DecidableEq
structure Sapi_Link where
 fA : ByteArray
 fB : ByteArray
 fNet : Int
 fSlow : Int
 deriving Inhabited,DecidableEq
structure Sapi_VL where
 fName : ByteArray
 fFrom : Sapi_Ref
 fBag : Int
 fMax : Int
 fTo : List Sapi_Ref
 deriving Inhabited,DecidableEq
structure Sapi_Health where
 fModule : ByteArray
 fPart : ByteArray
 fFault : Int
 fLevel : Int
 fDo : Int
 deriving Inhabited,DecidableEq
structure Sapi_Report where
 fUnit : ByteArray
 fCode : Int
 deriving Inhabited,DecidableEq
structure Sapi_Cause where
 fUnit : ByteArray
 fNeeds : List Sapi_Report
 fUnless : List ByteArray
 deriving Inhabited,DecidableEq
structure Sapi_Version where
 fA : ByteArray
 fVA : Int
 fB : ByteArray
 fVB : Int
 deriving Inhabited,DecidableEq
structure Sapi_Config where
 fModules : List Sapi_Module
 fChannels : List Sapi_Channel
 fSwitches : List Sapi_Switch
 fLinks : List Sapi_Link
 fVLs : List Sapi_VL
 fHealth : List Sapi_Health
 fCauses : List Sapi_Cause
 fVersions : List Sapi_Version
 deriving Inhabited,DecidableEq
def e3 (x : Int) : List Value:=[(.int .i64 x)]
theorem e3_oc : ∀ x,∀ u ∈ e3 x,u.oneCell' = true:=fun _=>ocB rfl
def e346 (x : Sapi_Port) : List Value:=[(.string x.fName),(.int .u8 x.fKind),(.bool x.fOut),(.int .i64 x.fSize),(.int .i64 x.fDepth),(.int .i64 x.fRefresh)]
def e351 (x : Sapi_Ins) : List Value:=[(.int .u8 x.fOp),(.int .i64 x.fA),(.int .i64 x.fB),(.int .i64 x.fC)]
def p349 (Z : Zp) (r : List Value) (x : Sapi_Proc) : Prop:=∃ (ao0 : Option Addr) (cap0 : Nat),r = [(.string x.fName),(.int .i64 x.fPrio),(.int .i64 x.fPeriod),(.int .i64 x.fLimit),(.slice ao0 x.fCode.length cap0)] ∧ ZS Z 4 (fun r x=>r = e351 x) ao0 cap0 x.fCode
theorem yca {Z Z' : Zp} (k : Zle Z Z') {r : List Value} {x : Sapi_Proc} (h : p349 Z r x) : p349 Z' r x:=by
 obtain ⟨ao0,cap0,hr,h0⟩:=h
 exact ⟨ao0,cap0,hr,h0.mono k⟩
def p340 (Z : Zp) (r : List Value) (x : Sapi_Part) : Prop:=∃ (ao0 : Option Addr) (cap0 : Nat) (ao1 : Option Addr) (cap1 : Nat) (ao2 : Option Addr) (cap2 : Nat) (ao3 : Option Addr) (cap3 : Nat),r = [(.string x.fName),(.int .i64 x.fPeriod),(.int .i64 x.fLength),(.int .i64 x.fMem),(.slice ao0 x.fSemas.length cap0),(.int .i64 x.fEvents),(.int .i64 x.fBoards),(.slice ao1 x.fBufs.length cap1),(.slice ao2 x.fPorts.length cap2),(.slice ao3 x.fProcs.length cap3)] ∧ ZS Z 1 (fun r x=>r = e3 x) ao0 cap0 x.fSemas ∧ ZS Z 1 (fun r x=>r = e3 x) ao1 cap1 x.fBufs ∧ ZS Z 6 (fun r x=>r = e346 x) ao2 cap2 x.fPorts ∧ ZS Z 5 (p349 Z) ao3 cap3 x.fProcs
theorem ycb {Z Z' : Zp} (k : Zle Z Z') {r : List Value} {x : Sapi_Part} (h : p340 Z r x) : p340 Z' r x:=by
 obtain ⟨ao0,cap0,ao1,cap1,ao2,cap2,ao3,cap3,hr,h0,h1,h2,h3⟩:=h
 exact ⟨ao0,cap0,ao1,cap1,ao2,cap2,ao3,cap3,hr,h0.mono k,h1.mono k,h2.mono k,(h3.mono k).weak (fun _ _ h=>yca k h)⟩
def y3y (Z : Zp) (r : List Value) (x : Sapi_Module) : Prop:=∃ (ao0 : Option Addr) (cap0 : Nat),r = [(.string x.fName),(.int .i64 x.fMem),(.int .i64 x.fFrame),(.slice ao0 x.fParts.length cap0)] ∧ ZS Z 10 (p340 Z) ao0 cap0 x.fParts
theorem y1d {Z Z' : Zp} (k : Zle Z Z') {r : List Value} {x : Sapi_Module} (h : y3y Z r x) : y3y Z' r x:=by
 obtain ⟨ao0,cap0,hr,h0⟩:=h
 exact ⟨ao0,cap0,hr,(h0.mono k).weak (fun _ _ h=>ycb k h)⟩
def e43 (x : Sapi_Ref) : List Value:=[(.string x.fModule),(.string x.fPart),(.string x.fPort)]
def y49 (Z : Zp) (r : List Value) (x : Sapi_Channel) : Prop:=∃ (ao0 : Option Addr) (cap0 : Nat),r = [(.string x.fFrom.fModule),(.string x.fFrom.fPart),(.string x.fFrom.fPort),(.slice ao0 x.fTo.length cap0)] ∧ ZS Z 3 (fun r x=>r = e43 x) ao0 cap0 x.fTo
theorem y1m {Z Z' : Zp} (k : Zle Z Z') {r : List Value} {x : Sapi_Channel} (h : y49 Z r x) : y49 Z' r x:=by
 obtain ⟨ao0,cap0,hr,h0⟩:=h
 exact ⟨ao0,cap0,hr,h0.mono k⟩
def e66 (x : Sapi_Switch) : List Value:=[(.string x.fName),(.int .i64 x.fNet),(.int .i64 x.fDelay),(.int .i64 x.fStore)]
def e64 (x : Sapi_Link) : List Value:=[(.string x.fA),(.string x.fB),(.int .i64 x.fNet),(.int .i64 x.fSlow)]
def p46 (Z : Zp) (r : List Value) (x : Sapi_VL) : Prop:=∃ (ao0 : Option Addr) (cap0 : Nat),r = [(.string x.fName),(.string x.fFrom.fModule),(.string x.fFrom.fPart),(.string x.fFrom.fPort),(.int .i64 x.fBag),(.int .i64 x.fMax),(.slice ao0 x.fTo.length cap0)] ∧ ZS Z 3 (fun r x=>r = e43 x) ao0 cap0 x.fTo
theorem y16 {Z Z' : Zp} (k : Zle Z Z') {r : List Value} {x : Sapi_VL} (h : p46 Z r x) : p46 Z' r x:=by
 obtain ⟨ao0,cap0,hr,h0⟩:=h
 exact ⟨ao0,cap0,hr,h0.mono k⟩
def y4m (x : Sapi_Health) : List Value:=[(.string x.fModule),(.string x.fPart),(.int .u8 x.fFault),(.int .u8 x.fLevel),(.int .u8 x.fDo)]
def e344 (x : Sapi_Report) : List Value:=[(.string x.fUnit),(.int .i64 x.fCode)]
def e9 (x : ByteArray) : List Value:=[(.string x)]
def y4a (Z : Zp) (r : List Value) (x : Sapi_Cause) : Prop:=∃ (ao0 : Option Addr) (cap0 : Nat) (ao1 : Option Addr) (cap1 : Nat),r = [(.string x.fUnit),(.slice ao0 x.fNeeds.length cap0),(.slice ao1 x.fUnless.length cap1)] ∧ ZS Z 2 (fun r x=>r = e344 x) ao0 cap0 x.fNeeds ∧ ZS Z 1 (fun r x=>r = e9 x) ao1 cap1 x.fUnless
theorem y1n {Z Z' : Zp} (k : Zle Z Z') {r : List Value} {x : Sapi_Cause} (h : y4a Z r x) : y4a Z' r x:=by
 obtain ⟨ao0,cap0,ao1,cap1,hr,h0,h1⟩:=h
 exact ⟨ao0,cap0,ao1,cap1,hr,h0.mono k,h1.mono k⟩
def y4n (x : Sapi_Version) : List Value:=[(.string x.fA),(.int .i64 x.fVA),(.string x.fB),(.int .i64 x.fVB)]
structure Sapi_Hop where
 fNode : Int
 fNext : Int
 fLink : Int
 deriving Inhabited,DecidableEq
def e62 (x : Sapi_Hop) : List Value:=[(.int .i64 x.fNode),(.int .i64 x.fNext),(.int .i64 x.fLink)]
def p48 (Z : Zp) (r : List Value) (x : List Sapi_Hop) : Prop:=∃ (ao0 : Option Addr) (cap0 : Nat),r = [(.slice ao0 x.length cap0)] ∧ ZS Z 3 (fun r x=>r = e62 x) ao0 cap0 x
theorem y1i {Z Z' : Zp} (k : Zle Z Z') {r : List Value} {x : List Sapi_Hop} (h : p48 Z r x) : p48 Z' r x:=by
 obtain ⟨ao0,cap0,hr,h0⟩:=h
 exact ⟨ao0,cap0,hr,h0.mono k⟩
structure S7 where
 fX : Int
 fY : Int
 fSigned : Bool
 fCode : Int
 deriving Inhabited,DecidableEq
structure S13 where
 fMsg : ByteArray
 fAddr : Int
 deriving Inhabited,DecidableEq
structure Sbound_place where
 fNode : Int
 fLink : Int
 deriving Inhabited,DecidableEq
structure Sapi_PortBound where
 fNode : Int
 fLink : Int
 fDelay : Int
 fStore : Int
 deriving Inhabited,DecidableEq
structure Sapi_End where
 fVL : Int
 fNode : Int
 fDelay : Int
 deriving Inhabited,DecidableEq
structure S37 where
 fPorts : List Sapi_PortBound
 fEnds : List Sapi_End
 deriving Inhabited,DecidableEq
structure S49 where
 fC : Sapi_Config
 fR : List (List Sapi_Hop)
 deriving Inhabited,DecidableEq
structure S60 where
 a0 : Int
 a1 : Int
 deriving Inhabited,DecidableEq
structure S80 where
 fSent : Int
 fNode : Int
 fTime : Int
 deriving Inhabited,DecidableEq
structure S82 where
 fTime : Int
 fVL : Int
 fSize : Int
 deriving Inhabited,DecidableEq
def e97 (x : Sbound_place) : List Value:=[(.int .i64 x.fNode),(.int .i64 x.fLink)]
theorem yat : ∀ x,∀ u ∈ e97 x,u.oneCell' = true:=fun _=>ocB rfl
structure Sbound_flow where
 fVl : Int
 fAt_ : Sbound_place
 deriving Inhabited,DecidableEq
def y1M (x : Sbound_flow) : List Value:=[(.int .i64 x.fVl),(.int .i64 x.fAt_.fNode),(.int .i64 x.fAt_.fLink)]
structure z1 where
 fN : Int
 fD : Int
 deriving Inhabited,DecidableEq
def yw (x : z1) : List Value:=[(.int .i64 x.fN),(.int .i64 x.fD)]
theorem yaK : ∀ x,∀ u ∈ yw x,u.oneCell' = true:=fun _=>ocB rfl
structure z6 where
 fBurst : z1
 fRate : z1
 deriving Inhabited,DecidableEq
def y1j (x : z6) : List Value:=[(.int .i64 x.fBurst.fN),(.int .i64 x.fBurst.fD),(.int .i64 x.fRate.fN),(.int .i64 x.fRate.fD)]
theorem yd8 : ∀ x,∀ u ∈ y1j x,u.oneCell' = true:=fun _=>ocB rfl
def y1v (Z : Zp) (r : List Value) (x : List z6) : Prop:=∃ (ao0 : Option Addr) (cap0 : Nat),r = [(.slice ao0 x.length cap0)] ∧ ZS Z 4 (fun r x=>r = y1j x) ao0 cap0 x
theorem yT {Z Z' : Zp} (k : Zle Z Z') {r : List Value} {x : List z6} (h : y1v Z r x) : y1v Z' r x:=by
 obtain ⟨ao0,cap0,hr,h0⟩:=h
 exact ⟨ao0,cap0,hr,h0.mono k⟩
theorem p173_oc {Z : Zp} {r : List Value} {x : List z6} (h : y1v Z r x) : ∀ u ∈ r,u.oneCell' = true:=by
 obtain ⟨ao0,cap0,hr,h0⟩:=h
 rw [hr]; exact ocB rfl
structure zSv where
 fRate : z1
 fL : z1
 deriving Inhabited,DecidableEq
structure z1v where
 fE : Int
 deriving Inhabited,DecidableEq
structure S152 where
 fTime : Int
 fIn_ : Int
 fVl : Int
 fSent : Int
 fHop : Sapi_Hop
 deriving Inhabited,DecidableEq
structure S209 where
 fSlow : Int
 fDelay : Int
 fStore : Int
 deriving Inhabited,DecidableEq
structure Sport_frame where
 fSize : Int
 fFin : Int
 deriving Inhabited,DecidableEq
structure S212 where
 fNumbers : S209
 fNow : Int
 fLast : Int
 fFrames : List Sport_frame
 deriving Inhabited,DecidableEq
def e39 (x : Int) : List Value:=[(.int .i64 x)]
def e58 (x : Sapi_PortBound) : List Value:=[(.int .i64 x.fNode),(.int .i64 x.fLink),(.int .i64 x.fDelay),(.int .i64 x.fStore)]
theorem ycC : ∀ x,∀ u ∈ e58 x,u.oneCell' = true:=fun _=>ocB rfl
def e79 (x : Sapi_End) : List Value:=[(.int .i64 x.fVL),(.int .i64 x.fNode),(.int .i64 x.fDelay)]
theorem ycD : ∀ x,∀ u ∈ e79 x,u.oneCell' = true:=fun _=>ocB rfl
def e60 (x : S60) : List Value:=[(.int .i64 x.a0),(.int .i64 x.a1)]
theorem y2B : y5r Tryz.prog 31 8:=y3P (i:=Tryz.t31) Tryz.underlying31 rfl rfl
theorem y6l : yO Tryz.prog 31 0 0:=yF (i:=Tryz.t22) Tryz.underlying31 rfl rfl (by decide) rfl
theorem y6m : y5a Tryz.prog 22:=y3c Tryz.underlying22 rfl
theorem y9c : yO Tryz.prog 31 2 2:=yF (i:=Tryz.t24) Tryz.underlying31 rfl rfl (by decide) rfl
theorem y9d : y5a Tryz.prog 24:=y3c Tryz.underlying24 rfl
theorem y8m : yO Tryz.prog 31 3 3:=yF (i:=Tryz.t25) Tryz.underlying31 rfl rfl (by decide) rfl
theorem y8n : y5a Tryz.prog 25:=y3c Tryz.underlying25 rfl
theorem y73 : yO Tryz.prog 31 4 4:=yF (i:=Tryz.t26) Tryz.underlying31 rfl rfl (by decide) rfl
theorem y74 : y5a Tryz.prog 26:=y3c Tryz.underlying26 rfl
theorem y6L : elT Tryz.prog 32 48 1 24:=⟨Tryz.underlying32,⟨Tryz.t48,_,rfl,rfl,rfl,rfl,rfl⟩,by decide⟩
theorem y5e : y5a Tryz.prog 48:=y3c Tryz.underlying48 rfl
theorem yt : y5a Tryz.prog 3:=y3c Tryz.underlying3 rfl
theorem y3J : elT Tryz.prog 48 62 3 24:=⟨Tryz.underlying48,⟨Tryz.t62,_,rfl,rfl,rfl,rfl,rfl⟩,by decide⟩
theorem y2g : y5r Tryz.prog 62 3:=y3P (i:=Tryz.t62) Tryz.underlying62 rfl rfl
theorem y3E : y2n Tryz.prog 62 (.agg #[(.int .i64 0),(.int .i64 0),(.int .i64 0)]):=y2i (i:=Tryz.t62) rfl rfl
theorem y3Q : y46 Tryz.prog 62 3:=y2A (i:=Tryz.t62) rfl
theorem y2C : yO Tryz.prog 62 0 0:=yF (i:=Tryz.t3) Tryz.underlying62 rfl rfl (by decide) rfl
theorem y2D : y2n Tryz.prog 3 (.int .i64 0):=y2i (i:=Tryz.t3) rfl rfl
theorem y4G : KeyT Tryz.prog 3 (Value.int .i64):=keyT_int Tryz.underlying3
theorem y4h : yO Tryz.prog 62 1 1:=yF (i:=Tryz.t3) Tryz.underlying62 rfl rfl (by decide) rfl
theorem y6n : yO Tryz.prog 62 2 2:=yF (i:=Tryz.t3) Tryz.underlying62 rfl rfl (by decide) rfl
theorem ybo : elT Tryz.prog 25 64 4 48:=⟨Tryz.underlying25,⟨Tryz.t64,_,rfl,rfl,rfl,rfl,rfl⟩,by decide⟩
theorem aggT_64 : y5r Tryz.prog 64 4:=y3P (i:=Tryz.t64) Tryz.underlying64 rfl rfl
theorem zeroT_64 : y2n Tryz.prog 64 (.agg #[(.string ⟨#[]⟩),(.string ⟨#[]⟩),(.int .i64 0),(.int .i64 0)]):=y2i (i:=Tryz.t64) rfl rfl
theorem sizT_64 : y46 Tryz.prog 64 4:=y2A (i:=Tryz.t64) rfl
theorem fo_64_0 : yO Tryz.prog 64 0 0:=yF (i:=Tryz.t9) Tryz.underlying64 rfl rfl (by decide) rfl
theorem ybp : y5a Tryz.prog 9:=y3c Tryz.underlying9 rfl
theorem elT_22 : elT Tryz.prog 22 108 4 56:=⟨Tryz.underlying22,⟨Tryz.t108,_,rfl,rfl,rfl,rfl,rfl⟩,by decide⟩
theorem fo_108_0 : yO Tryz.prog 108 0 0:=yF (i:=Tryz.t9) Tryz.underlying108 rfl rfl (by decide) rfl
theorem ybq : elT Tryz.prog 24 66 4 40:=⟨Tryz.underlying24,⟨Tryz.t66,_,rfl,rfl,rfl,rfl,rfl⟩,by decide⟩
theorem fo_66_0 : yO Tryz.prog 66 0 0:=yF (i:=Tryz.t9) Tryz.underlying66 rfl rfl (by decide) rfl
theorem fo_64_1 : yO Tryz.prog 64 1 1:=yF (i:=Tryz.t9) Tryz.underlying64 rfl rfl (by decide) rfl
theorem fo_64_2 : yO Tryz.prog 64 2 2:=yF (i:=Tryz.t3) Tryz.underlying64 rfl rfl (by decide) rfl
theorem yaL : yO Tryz.prog 64 3 3:=yF (i:=Tryz.t3) Tryz.underlying64 rfl rfl (by decide) rfl
theorem aggT_66 : y5r Tryz.prog 66 4:=y3P (i:=Tryz.t66) Tryz.underlying66 rfl rfl
theorem zeroT_66 : y2n Tryz.prog 66 (.agg #[(.string ⟨#[]⟩),(.int .i64 0),(.int .i64 0),(.int .i64 0)]):=y2i (i:=Tryz.t66) rfl rfl
theorem sizT_66 : y46 Tryz.prog 66 4:=y2A (i:=Tryz.t66) rfl
theorem fo_66_1 : yO Tryz.prog 66 1 1:=yF (i:=Tryz.t3) Tryz.underlying66 rfl rfl (by decide) rfl
theorem ybJ : yO Tryz.prog 66 2 2:=yF (i:=Tryz.t3) Tryz.underlying66 rfl rfl (by decide) rfl
theorem yd9 : yO Tryz.prog 66 3 3:=yF (i:=Tryz.t3) Tryz.underlying66 rfl rfl (by decide) rfl
theorem ybd : y2n Tryz.prog 31 (.agg #[(.slice none 0 0),(.slice none 0 0),(.slice none 0 0),(.slice none 0 0),(.slice none 0 0),(.slice none 0 0),(.slice none 0 0),(.slice none 0 0)]):=y2i (i:=Tryz.t31) rfl rfl
theorem y8u : elT Tryz.prog 26 46 7 104:=⟨Tryz.underlying26,⟨Tryz.t46,_,rfl,rfl,rfl,rfl,rfl⟩,by decide⟩
theorem ybK : y46 Tryz.prog 31 8:=y2A (i:=Tryz.t31) rfl
theorem y9B : y2n Tryz.prog 38 (.agg #[(.slice none 0 0),(.slice none 0 0)]):=y2i (i:=Tryz.t38) rfl rfl
theorem y7H : y46 Tryz.prog 38 2:=y2A (i:=Tryz.t38) rfl
theorem y75 : y5r Tryz.prog 38 2:=y3P (i:=Tryz.t38) Tryz.underlying38 rfl rfl
theorem yda : yO Tryz.prog 46 2 4:=yF (i:=Tryz.t3) Tryz.underlying46 rfl rfl (by decide) rfl
theorem y8o : yO Tryz.prog 46 3 5:=yF (i:=Tryz.t3) Tryz.underlying46 rfl rfl (by decide) rfl
theorem aggT_46 : y5r Tryz.prog 46 7:=y3P (i:=Tryz.t46) Tryz.underlying46 rfl rfl
theorem y8v : y2n Tryz.prog 97 (.agg #[(.int .i64 0),(.int .i64 0)]):=y2i (i:=Tryz.t97) rfl rfl
theorem yaM : y46 Tryz.prog 97 2:=y2A (i:=Tryz.t97) rfl
theorem y3f : y5r Tryz.prog 97 2:=y3P (i:=Tryz.t97) Tryz.underlying97 rfl rfl
theorem y4H : elT Tryz.prog 88 97 2 16:=⟨Tryz.underlying88,⟨Tryz.t97,_,rfl,rfl,rfl,rfl,rfl⟩,by decide⟩
theorem ybr : EqT Tryz.prog 97 e97:=⟨fun u v w=>by
 have i97_10000:=fun (w : World) (a b : Array Value)=>run_equalIn_agg (P:=Tryz.prog) w 9999 97 a b (by simp [Program.fieldsOf,Tryz.underlying97]) (by kernel_rfl)
 have i3_9999:=fun (w : World) (a b : Int)=>run_equalIn_int (P:=Tryz.prog) w 9998 3 .i64 .i64 a b Tryz.underlying3
 rw [i97_10000]
 simp [Program.fieldsOf,Op.eqFields,part,e97,i97_10000,Tryz.underlying97,i3_9999]
 rcases u with ⟨u1,u2⟩
 rcases v with ⟨v1,v2⟩
 by_cases h1 : u1 = v1 <;> by_cases h2 : u2 = v2 <;> simp [h1,h2],by kernel_rfl⟩
theorem y8p : yO Tryz.prog 97 0 0:=yF (i:=Tryz.t3) Tryz.underlying97 rfl rfl (by decide) rfl
theorem y9e : yO Tryz.prog 97 1 1:=yF (i:=Tryz.t3) Tryz.underlying97 rfl rfl (by decide) rfl
theorem zjd : elT Tryz.prog 109 3 1 8:=⟨Tryz.underlying109,⟨Tryz.t3,_,rfl,rfl,rfl,rfl,rfl⟩,by decide⟩
theorem zeroT_93 : y2n Tryz.prog 93 (.map none):=y2i (i:=Tryz.t93) rfl rfl
theorem sizT_93 : y46 Tryz.prog 93 1:=y2A (i:=Tryz.t93) rfl
theorem y9f : y5a Tryz.prog 93:=y3c Tryz.underlying93 rfl
theorem y76 : KeyT Tryz.prog 97 (fun x=>Value.agg (e97 x).toArray):=ybb Tryz.underlying97 (fun _ _=>rfl) (fun b k w=>by
 have c3_9999:=fun (w : World) (a : Int)=>MapKept.run_checkKey (P:=Tryz.prog) (w:=w) (kt:=3) (k:=.int .i64 a) Tryz.underlying3 (by simp [MapKept.IsKey]) b 9998
 have ck : ∀ (w : World) (u0 : Int) (u1 : Int),(Instr.checkKey b 10000 97 (.agg #[.int .i64 u0,.int .i64 u1])).run Tryz.prog w = .ok () w:=fun w u0 u1=>by
  rw [show (10000 : Nat) = 9999 + 1 from rfl,Instr.checkKey]
  simp [run_underlying Tryz.underlying97,c3_9999,part]
 exact ck w k.fNode k.fLink)
 (fun u v w=>ybr.eq u v w)
 (fun k=>by simp [Instr.sameBits,e97])
theorem y6o : yO Tryz.prog 38 0 0:=yF (i:=Tryz.t35) Tryz.underlying38 rfl rfl (by decide) rfl
theorem y77 : y5a Tryz.prog 35:=y3c Tryz.underlying35 rfl
theorem ycE : y2n Tryz.prog 58 (.agg #[(.int .i64 0),(.int .i64 0),(.int .i64 0),(.int .i64 0)]):=y2i (i:=Tryz.t58) rfl rfl
theorem fo_95_1 : yO Tryz.prog 95 1 8:=yF (i:=Tryz.t32) Tryz.underlying95 rfl rfl (by decide) rfl
theorem oneT_32 : y5a Tryz.prog 32:=y3c Tryz.underlying32 rfl
theorem y5M : yO Tryz.prog 95 0 0:=yF (i:=Tryz.t31) Tryz.underlying95 rfl rfl (by decide) rfl
theorem zP : y2n Tryz.prog 132 (.agg #[(.int .i64 0),(.int .i64 0)]):=y2i (i:=Tryz.t132) rfl rfl
theorem zu : y46 Tryz.prog 132 2:=y2A (i:=Tryz.t132) rfl
theorem zd : y5r Tryz.prog 132 2:=y3P (i:=Tryz.t132) Tryz.underlying132 rfl rfl
theorem ybL : yO Tryz.prog 95 2 9:=yF (i:=Tryz.t92) Tryz.underlying95 rfl rfl (by decide) rfl
theorem ybM : y5a Tryz.prog 92:=y3c Tryz.underlying92 rfl
theorem zFA : EqT Tryz.prog 169 y1M:=⟨fun u v w=>by
 have i169_10000:=fun (w : World) (a b : Array Value)=>run_equalIn_agg (P:=Tryz.prog) w 9999 169 a b (by simp [Program.fieldsOf,Tryz.underlying169]) (by kernel_rfl)
 have i3_9999:=fun (w : World) (a b : Int)=>run_equalIn_int (P:=Tryz.prog) w 9998 3 .i64 .i64 a b Tryz.underlying3
 have i97_9999:=fun (w : World) (a b : Array Value)=>run_equalIn_agg (P:=Tryz.prog) w 9998 97 a b (by simp [Program.fieldsOf,Tryz.underlying97]) (by kernel_rfl)
 have i3_9998:=fun (w : World) (a b : Int)=>run_equalIn_int (P:=Tryz.prog) w 9997 3 .i64 .i64 a b Tryz.underlying3
 rw [i169_10000]
 simp [Program.fieldsOf,Op.eqFields,part,y1M,i169_10000,Tryz.underlying169,i3_9999,i97_9999,Tryz.underlying97,i3_9998]
 rcases u with ⟨u1,⟨u2,u3⟩⟩
 rcases v with ⟨v1,⟨v2,v3⟩⟩
 by_cases h1 : u1 = v1 <;> by_cases h2 : u2 = v2 <;> by_cases h3 : u3 = v3 <;> simp [h1,h2,h3],by kernel_rfl⟩
theorem zp8 : KeyT Tryz.prog 169 (fun x=>Value.agg (y1M x).toArray):=ybb Tryz.underlying169 (fun _ _=>rfl) (fun b k w=>by
 have c3_9999:=fun (w : World) (a : Int)=>MapKept.run_checkKey (P:=Tryz.prog) (w:=w) (kt:=3) (k:=.int .i64 a) Tryz.underlying3 (by simp [MapKept.IsKey]) b 9998
 have c3_9998:=fun (w : World) (a : Int)=>MapKept.run_checkKey (P:=Tryz.prog) (w:=w) (kt:=3) (k:=.int .i64 a) Tryz.underlying3 (by simp [MapKept.IsKey]) b 9997
 have c97_9999 : ∀ (w : World) (u0 : Int) (u1 : Int),(Instr.checkKey b 9999 97 (.agg #[.int .i64 u0,.int .i64 u1])).run Tryz.prog w = .ok () w:=fun w u0 u1=>by
  rw [show (9999 : Nat) = 9998 + 1 from rfl,Instr.checkKey]
  simp [run_underlying Tryz.underlying97,c3_9998,part]
 have ck : ∀ (w : World) (u0 : Int) (u1 : Int) (u2 : Int),(Instr.checkKey b 10000 169 (.agg #[.int .i64 u0,.int .i64 u1,.int .i64 u2])).run Tryz.prog w = .ok () w:=fun w u0 u1 u2=>by
  rw [show (10000 : Nat) = 9999 + 1 from rfl,Instr.checkKey]
  simp [run_underlying Tryz.underlying169,c3_9999,c97_9999,part]
 exact ck w k.fVl k.fAt_.fNode k.fAt_.fLink)
 (fun u v w=>zFA.eq u v w)
 (fun k=>by simp [Instr.sameBits,y1M])
theorem y1K : yO Tryz.prog 132 0 0:=yF (i:=Tryz.t3) Tryz.underlying132 rfl rfl (by decide) rfl
theorem sizT_3 : y46 Tryz.prog 3 1:=y2A (i:=Tryz.t3) rfl
theorem ybN : yO Tryz.prog 95 3 10:=yF (i:=Tryz.t93) Tryz.underlying95 rfl rfl (by decide) rfl
theorem y2a : yO Tryz.prog 132 1 1:=yF (i:=Tryz.t3) Tryz.underlying132 rfl rfl (by decide) rfl
theorem y3g : KeyT Tryz.prog 9 Value.string:=keyT_str Tryz.underlying9
theorem zm4 : y2n Tryz.prog 257 .nilFunc:=y2i (i:=Tryz.t257) rfl rfl
theorem y8q : yO Tryz.prog 95 4 11:=yF (i:=Tryz.t39) Tryz.underlying95 rfl rfl (by decide) rfl
theorem y2E : y5a Tryz.prog 39:=y3c Tryz.underlying39 rfl
theorem y9g : y46 Tryz.prog 39 1:=y2A (i:=Tryz.t39) rfl
theorem zp9 : y2n Tryz.prog 109 (.slice none 0 0):=y2i (i:=Tryz.t109) rfl rfl
theorem z6l : elT Tryz.prog 173 171 4 32:=⟨Tryz.underlying173,⟨Tryz.t171,_,rfl,rfl,rfl,rfl,rfl⟩,by decide⟩
theorem z7H : elT Tryz.prog 128 173 1 24:=⟨Tryz.underlying128,⟨Tryz.t173,_,rfl,rfl,rfl,rfl,rfl⟩,by decide⟩
theorem z9w : y2n Tryz.prog 171 (.agg #[(.int .i64 0),(.int .i64 0),(.int .i64 0),(.int .i64 0)]):=y2i (i:=Tryz.t171) rfl rfl
theorem z8m : y46 Tryz.prog 171 4:=y2A (i:=Tryz.t171) rfl
theorem y3V : yO Tryz.prog 171 0 0:=yF (i:=Tryz.t132) Tryz.underlying171 rfl rfl (by decide) rfl
theorem y51 : yO Tryz.prog 171 1 2:=yF (i:=Tryz.t132) Tryz.underlying171 rfl rfl (by decide) rfl
theorem z2u : y5r Tryz.prog 171 4:=y3P (i:=Tryz.t171) Tryz.underlying171 rfl rfl
theorem zFB : y2n Tryz.prog 135 (.agg #[(.int .i64 0),(.int .i64 0),(.int .i64 0),(.int .i64 0)]):=y2i (i:=Tryz.t135) rfl rfl
theorem zFC : y46 Tryz.prog 135 4:=y2A (i:=Tryz.t135) rfl
theorem zfQ : y5r Tryz.prog 135 4:=y3P (i:=Tryz.t135) Tryz.underlying135 rfl rfl
theorem z6V : y5a Tryz.prog 128:=y3c Tryz.underlying128 rfl
theorem zy4 : y2n Tryz.prog 177 (.agg #[(.slice none 0 0),(.int .i64 0),(.int .i64 0),(.int .i64 0),(.int .i64 0),.nilFunc,(.slice none 0 0)]):=y2i (i:=Tryz.t177) rfl rfl
theorem zy5 : y46 Tryz.prog 177 7:=y2A (i:=Tryz.t177) rfl
theorem y9C : yO Tryz.prog 177 2 5:=yF (i:=Tryz.t174) Tryz.underlying177 rfl rfl (by decide) rfl
theorem zy6 : y46 Tryz.prog 174 1:=y2A (i:=Tryz.t174) rfl
theorem zfR : y5r Tryz.prog 177 7:=y3P (i:=Tryz.t177) Tryz.underlying177 rfl rfl
theorem y6a : yO Tryz.prog 177 0 0:=yF (i:=Tryz.t128) Tryz.underlying177 rfl rfl (by decide) rfl
theorem zbV : y5a Tryz.prog 173:=y3c Tryz.underlying173 rfl
theorem y9D : yO Tryz.prog 177 1 1:=yF (i:=Tryz.t135) Tryz.underlying177 rfl rfl (by decide) rfl
theorem y7I : yO Tryz.prog 135 0 0:=yF (i:=Tryz.t132) Tryz.underlying135 rfl rfl (by decide) rfl
theorem y7J : yO Tryz.prog 135 1 2:=yF (i:=Tryz.t132) Tryz.underlying135 rfl rfl (by decide) rfl
theorem zm5 : y2n Tryz.prog 225 (.agg #[(.int .i64 0)]):=y2i (i:=Tryz.t225) rfl rfl
theorem zy7 : y2n Tryz.prog 262 (.agg #[(.int .i64 0)]):=y2i (i:=Tryz.t262) rfl rfl
theorem zpa : y2n Tryz.prog 175 (.slice none 0 0):=y2i (i:=Tryz.t175) rfl rfl
theorem zy8 : EqT Tryz.prog 171 y1j:=⟨fun u v w=>by
 have i171_10000:=fun (w : World) (a b : Array Value)=>run_equalIn_agg (P:=Tryz.prog) w 9999 171 a b (by simp [Program.fieldsOf,Tryz.underlying171]) (by kernel_rfl)
 have i132_9999:=fun (w : World) (a b : Array Value)=>run_equalIn_agg (P:=Tryz.prog) w 9998 132 a b (by simp [Program.fieldsOf,Tryz.underlying132]) (by kernel_rfl)
 have i3_9998:=fun (w : World) (a b : Int)=>run_equalIn_int (P:=Tryz.prog) w 9997 3 .i64 .i64 a b Tryz.underlying3
 rw [i171_10000]
 simp [Program.fieldsOf,Op.eqFields,part,y1j,i171_10000,Tryz.underlying171,i132_9999,Tryz.underlying132,i3_9998]
 rcases u with ⟨⟨u1,u2⟩,⟨u3,u4⟩⟩
 rcases v with ⟨⟨v1,v2⟩,⟨v3,v4⟩⟩
 by_cases h1 : u1 = v1 <;> by_cases h2 : u2 = v2 <;> by_cases h3 : u3 = v3 <;> by_cases h4 : u4 = v4 <;> simp [h1,h2,h3,h4],by kernel_rfl⟩
theorem z7I : y5a Tryz.prog 175:=y3c Tryz.underlying175 rfl
theorem y7K : yO Tryz.prog 262 0 0:=yF (i:=Tryz.t39) Tryz.underlying262 rfl rfl (by decide) rfl
theorem z20 : elT Tryz.prog 175 132 2 16:=⟨Tryz.underlying175,⟨Tryz.t132,_,rfl,rfl,rfl,rfl,rfl⟩,by decide⟩
theorem zpb : y46 Tryz.prog 175 1:=y2A (i:=Tryz.t175) rfl
theorem zy9 : EqT Tryz.prog 132 yw:=⟨fun u v w=>by
 have i132_10000:=fun (w : World) (a b : Array Value)=>run_equalIn_agg (P:=Tryz.prog) w 9999 132 a b (by simp [Program.fieldsOf,Tryz.underlying132]) (by kernel_rfl)
 have i3_9999:=fun (w : World) (a b : Int)=>run_equalIn_int (P:=Tryz.prog) w 9998 3 .i64 .i64 a b Tryz.underlying3
 rw [i132_10000]
 simp [Program.fieldsOf,Op.eqFields,part,yw,i132_10000,Tryz.underlying132,i3_9999]
 rcases u with ⟨u1,u2⟩
 rcases v with ⟨v1,v2⟩
 by_cases h1 : u1 = v1 <;> by_cases h2 : u2 = v2 <;> simp [h1,h2],by kernel_rfl⟩
theorem ydz : fldT Tryz.prog 171 1 2 132:=fldT_of Tryz.underlying171 rfl rfl rfl
theorem y3W : yO Tryz.prog 225 0 0:=yF (i:=Tryz.t39) Tryz.underlying225 rfl rfl (by decide) rfl
theorem ycF : yO Tryz.prog 177 3 6:=yF (i:=Tryz.t175) Tryz.underlying177 rfl rfl (by decide) rfl
theorem zya : y5a Tryz.prog 174:=y3c Tryz.underlying174 rfl
theorem zyb : elT Tryz.prog 138 39 1 8:=⟨Tryz.underlying138,⟨Tryz.t39,_,rfl,rfl,rfl,rfl,rfl⟩,by decide⟩
theorem ydb : y46 Tryz.prog 58 4:=y2A (i:=Tryz.t58) rfl
theorem y8r : y5r Tryz.prog 58 4:=y3P (i:=Tryz.t58) Tryz.underlying58 rfl rfl
theorem y5f : elT Tryz.prog 35 58 4 32:=⟨Tryz.underlying35,⟨Tryz.t58,_,rfl,rfl,rfl,rfl,rfl⟩,by decide⟩
theorem sizT_35 : y46 Tryz.prog 35 1:=y2A (i:=Tryz.t35) rfl
theorem y9h : yO Tryz.prog 58 0 0:=yF (i:=Tryz.t3) Tryz.underlying58 rfl rfl (by decide) rfl
theorem y9i : yO Tryz.prog 58 1 1:=yF (i:=Tryz.t3) Tryz.underlying58 rfl rfl (by decide) rfl
theorem fo_58_2 : yO Tryz.prog 58 2 2:=yF (i:=Tryz.t3) Tryz.underlying58 rfl rfl (by decide) rfl
theorem y9j : elT Tryz.prog 36 79 3 24:=⟨Tryz.underlying36,⟨Tryz.t79,_,rfl,rfl,rfl,rfl,rfl⟩,by decide⟩
theorem ydc : yO Tryz.prog 79 1 1:=yF (i:=Tryz.t3) Tryz.underlying79 rfl rfl (by decide) rfl
theorem y8s : yO Tryz.prog 38 1 1:=yF (i:=Tryz.t36) Tryz.underlying38 rfl rfl (by decide) rfl
theorem sizT_36 : y46 Tryz.prog 36 1:=y2A (i:=Tryz.t36) rfl
theorem y9k : y5a Tryz.prog 36:=y3c Tryz.underlying36 rfl
theorem ycG : EqT Tryz.prog 58 e58:=⟨fun u v w=>by
 have i58_10000:=fun (w : World) (a b : Array Value)=>run_equalIn_agg (P:=Tryz.prog) w 9999 58 a b (by simp [Program.fieldsOf,Tryz.underlying58]) (by kernel_rfl)
 have i3_9999:=fun (w : World) (a b : Int)=>run_equalIn_int (P:=Tryz.prog) w 9998 3 .i64 .i64 a b Tryz.underlying3
 rw [i58_10000]
 simp [Program.fieldsOf,Op.eqFields,part,e58,i58_10000,Tryz.underlying58,i3_9999]
 rcases u with ⟨u1,u2,u3,u4⟩
 rcases v with ⟨v1,v2,v3,v4⟩
 by_cases h1 : u1 = v1 <;> by_cases h2 : u2 = v2 <;> by_cases h3 : u3 = v3 <;> by_cases h4 : u4 = v4 <;> simp [h1,h2,h3,h4],by kernel_rfl⟩
theorem ydd : y5r Tryz.prog 79 3:=y3P (i:=Tryz.t79) Tryz.underlying79 rfl rfl
theorem eqT_79 : EqT Tryz.prog 79 e79:=⟨fun u v w=>by
 have i79_10000:=fun (w : World) (a b : Array Value)=>run_equalIn_agg (P:=Tryz.prog) w 9999 79 a b (by simp [Program.fieldsOf,Tryz.underlying79]) (by kernel_rfl)
 have i3_9999:=fun (w : World) (a b : Int)=>run_equalIn_int (P:=Tryz.prog) w 9998 3 .i64 .i64 a b Tryz.underlying3
 rw [i79_10000]
 simp [Program.fieldsOf,Op.eqFields,part,e79,i79_10000,Tryz.underlying79,i3_9999]
 rcases u with ⟨u1,u2,u3⟩
 rcases v with ⟨v1,v2,v3⟩
 by_cases h1 : u1 = v1 <;> by_cases h2 : u2 = v2 <;> by_cases h3 : u3 = v3 <;> simp [h1,h2,h3],by kernel_rfl⟩
theorem y5N : KeyT Tryz.prog 60 (fun x=>Value.agg (e60 x).toArray):=ybb Tryz.underlying60 (fun _ _=>rfl) (fun b k w=>by
 have c3_9999:=fun (w : World) (a : Int)=>MapKept.run_checkKey (P:=Tryz.prog) (w:=w) (kt:=3) (k:=.int .i64 a) Tryz.underlying3 (by simp [MapKept.IsKey]) b 9998
 have ck : ∀ (w : World) (u0 : Int) (u1 : Int),(Instr.checkKey b 10000 60 (.agg #[.int .i64 u0,.int .i64 u1])).run Tryz.prog w = .ok () w:=fun w u0 u1=>by
  rw [show (10000 : Nat) = 9999 + 1 from rfl,Instr.checkKey]
  simp [run_underlying Tryz.underlying60,c3_9999,part,List.range',Std.Legacy.Range.forIn_eq_forIn_range',Std.Legacy.Range.size]
 exact ck w k.a0 k.a1)
 (fun u v w=>by
 have i3:=fun (w : World) (a b : Int)=>run_equalIn_int (P:=Tryz.prog) w 9998 3 .i64 .i64 a b Tryz.underlying3
 show (Op.equalIn 10000 60 _ _).run _ _ = _
 rw [show (10000 : Nat) = 9999 + 1 from rfl,Op.equalIn]
 simp [run_underlying Tryz.underlying60,part,e60,i3,List.range',Std.Legacy.Range.forIn_eq_forIn_range',Std.Legacy.Range.size]
 rcases u with ⟨u1,u2⟩
 rcases v with ⟨v1,v2⟩
 by_cases h1 : u1 = v1 <;> by_cases h2 : u2 = v2 <;> simp [h1,h2])
 (fun k=>by simp [Instr.sameBits,e60])
theorem y9E : y2n Tryz.prog 60 (.agg #[(.int .i64 0),(.int .i64 0)]):=y2i (i:=Tryz.t60) rfl rfl
theorem yde : y46 Tryz.prog 60 2:=y2A (i:=Tryz.t60) rfl
theorem y9l : y5r Tryz.prog 60 2:=y3P (i:=Tryz.t60) Tryz.underlying60 rfl rfl
def y3F (routes_58 : List (List Sapi_Hop)) (z9x : Option Bool) : Nat → Int → Option Bool
 | 0,_=>none
 | zpc + 1,z5r=>if decide (z5r < ((routes_58.length : Nat) : Int)) then chk ((0 : Int) ≤ z5r ∧ z5r < ((routes_58.length : Nat) : Int)) (if decide ((((nth routes_58 z5r).length : Nat) : Int) > 40) then some false else y3F routes_58 z9x zpc (i64 (z5r + 1))) else z9x
theorem ya5 {n : Nat} {routes_58 : List (List Sapi_Hop)} {z9x : Option Bool} {z5r : Int} {r : Bool} (h : y3F routes_58 z9x n z5r = some r) : ∃ m,n = m + 1:=by
 cases n with
 | zero=>cases h
 | succ m=>exact ⟨m,rfl⟩
def y6M (c_33 : Sapi_Config) (routes_58 : List (List Sapi_Hop)) : Option Bool :=
 if ((((decide (((c_33.fModules.length : Nat) : Int) > 8)) || (decide (((c_33.fSwitches.length : Nat) : Int) > 8))) || (decide (((c_33.fLinks.length : Nat) : Int) > 20))) || (decide (((c_33.fVLs.length : Nat) : Int) > 20))) || (decide (((routes_58.length : Nat) : Int) > 20)) then some false else jp0 (some true) fun z9x=>y3F routes_58 z9x yB 0
set_option maxRecDepth 20000 in
theorem ycZ (Z : Zp) (ao_34 : Option Addr) (cap_35 : Nat) (ao_37 : Option Addr) (cap_38 : Nat) (ao_40 : Option Addr) (cap_41 : Nat) (ao_43 : Option Addr) (cap_44 : Nat) (ao_46 : Option Addr) (cap_47 : Nat) (ao_49 : Option Addr) (cap_50 : Nat) (ao_52 : Option Addr) (cap_53 : Nat) (ao_55 : Option Addr) (cap_56 : Nat) (ao_59 : Option Addr) (cap_60 : Nat) (c_33 : Sapi_Config) (routes_58 : List (List Sapi_Hop)) (r : Bool)
  (h : y6M c_33 routes_58 = some r) (w₀ : World) (hz : PZ [] w₀ Z)
  (hs_36 : ZS Z 4 (y3y Z) ao_34 cap_35 c_33.fModules)
  (hs_39 : ZS Z 4 (y49 Z) ao_37 cap_38 c_33.fChannels)
  (hs_42 : ZS Z 4 (fun r x=>r = e66 x) ao_40 cap_41 c_33.fSwitches)
  (hs_45 : ZS Z 4 (fun r x=>r = e64 x) ao_43 cap_44 c_33.fLinks)
  (hs_48 : ZS Z 7 (p46 Z) ao_46 cap_47 c_33.fVLs)
  (hs_51 : ZS Z 5 (fun r x=>r = y4m x) ao_49 cap_50 c_33.fHealth)
  (hs_54 : ZS Z 3 (y4a Z) ao_52 cap_53 c_33.fCauses)
  (hs_57 : ZS Z 4 (fun r x=>r = y4n x) ao_55 cap_56 c_33.fVersions)
  (hs_61 : ZS Z 1 (p48 Z) ao_59 cap_60 routes_58) :
  Calls Tryz.prog 8 #[(.agg #[(.slice ao_34 c_33.fModules.length cap_35),(.slice ao_37 c_33.fChannels.length cap_38),(.slice ao_40 c_33.fSwitches.length cap_41),(.slice ao_43 c_33.fLinks.length cap_44),(.slice ao_46 c_33.fVLs.length cap_47),(.slice ao_49 c_33.fHealth.length cap_50),(.slice ao_52 c_33.fCauses.length cap_53),(.slice ao_55 c_33.fVersions.length cap_56)]),(.slice ao_59 routes_58.length cap_60)] w₀ fun e w'=>e = .returned (.bool r) ∧ Hp [] w₀ w' []:=by
 unfold y6M at h
 refine Calls.yJ Tryz.func8 Tryz.ntmps8 ?_
 refine WC.b (WC.a ?_)
 refine WL.nA 2 (yH (cs:=[(.slice ao_34 c_33.fModules.length cap_35),(.slice ao_37 c_33.fChannels.length cap_38),(.slice ao_40 c_33.fSwitches.length cap_41),(.slice ao_43 c_33.fLinks.length cap_44),(.slice ao_46 c_33.fVLs.length cap_47),(.slice ao_49 c_33.fHealth.length cap_50),(.slice ao_52 c_33.fCauses.length cap_53),(.slice ao_55 c_33.fVersions.length cap_56)]) rfl rfl) ?_
 intro zUj _
 refine WL.pu rfl (WL.nil (WX.a (WC.b (WC.b (WC.a ?_)))))
 refine WL.qA 7 (ya y6l rfl rfl) ?_
 refine WL.qA 8 (yc y6m rfl (yk .here rfl)) ?_
 refine WL.qA 9 (yE Tryz.underlying22 rfl) ?_
 refine WL.pu rfl (WL.pu rfl ?_)
 refine WL.seg false 4 11 (B:=(decide (((c_33.fModules.length : Nat) : Int) > 8)) || (decide (((c_33.fSwitches.length : Nat) : Int) > 8))) rfl rfl rfl rfl rfl rfl (fun h=>(y67 h).symm) (fun _ zFD=>?_) ?_
 ·skip
  refine WL.qA 12 (ya y9c rfl rfl) ?_
  refine WL.qA 13 (yc y9d rfl (yk .here rfl)) ?_
  refine WL.qA 14 (yE Tryz.underlying24 rfl) ?_
  refine WL.pu rfl (WL.pu rfl ?_)
  exact WL.yC (y68 zFD) rfl rfl .all
 refine WL.pu rfl ?_
 refine WL.seg false 4 17 (B:=((decide (((c_33.fModules.length : Nat) : Int) > 8)) || (decide (((c_33.fSwitches.length : Nat) : Int) > 8))) || (decide (((c_33.fLinks.length : Nat) : Int) > 20))) rfl rfl rfl rfl rfl rfl (fun h=>(y67 h).symm) (fun _ zFE=>?_) ?_
 ·skip
  refine WL.qA 18 (ya y8m rfl rfl) ?_
  refine WL.qA 19 (yc y8n rfl (yk .here rfl)) ?_
  refine WL.qA 20 (yE Tryz.underlying25 rfl) ?_
  refine WL.pu rfl (WL.pu rfl ?_)
  exact WL.yC (y68 zFE) rfl rfl .all
 refine WL.pu rfl ?_
 refine WL.seg false 4 23 (B:=(((decide (((c_33.fModules.length : Nat) : Int) > 8)) || (decide (((c_33.fSwitches.length : Nat) : Int) > 8))) || (decide (((c_33.fLinks.length : Nat) : Int) > 20))) || (decide (((c_33.fVLs.length : Nat) : Int) > 20))) rfl rfl rfl rfl rfl rfl (fun h=>(y67 h).symm) (fun _ zFF=>?_) ?_
 ·skip
  refine WL.qA 24 (ya y73 rfl rfl) ?_
  refine WL.qA 25 (yc y74 rfl (yk .here rfl)) ?_
  refine WL.qA 26 (yE Tryz.underlying26 rfl) ?_
  refine WL.pu rfl (WL.pu rfl ?_)
  exact WL.yC (y68 zFF) rfl rfl .all
 refine WL.pu rfl ?_
 refine WL.seg false 3 29 (B:=((((decide (((c_33.fModules.length : Nat) : Int) > 8)) || (decide (((c_33.fSwitches.length : Nat) : Int) > 8))) || (decide (((c_33.fLinks.length : Nat) : Int) > 20))) || (decide (((c_33.fVLs.length : Nat) : Int) > 20))) || (decide (((routes_58.length : Nat) : Int) > 20))) rfl rfl rfl rfl rfl rfl (fun h=>(y67 h).symm) (fun _ zFG=>?_) ?_
 ·skip
  refine WL.pu rfl ?_
  refine WL.qA 31 (yE Tryz.underlying32 rfl) ?_
  refine WL.pu rfl (WL.pu rfl ?_)
  exact WL.yC (y68 zFG) rfl rfl .all
 refine WL.nil (WX.a ?_)
 refine WC.cond rfl (fun zpd=>?_) (fun zpd=>?_)
 ·replace h:=yn h zpd
  refine WC.b (WC.a (WL.pu rfl (WL.nil (WX.a (WC.ret (WX.yd ?_))))))
  obtain rfl:=Option.some.inj h
  refine WX.ye Tryz.results8 (.tmp rfl .nil) (fun w hw=>?_)
  exact ⟨yD rfl,hw.sub .nil⟩
 ·replace h:=yo h zpd
  refine WC.skip (WX.a ?_)
  obtain ⟨z9x,zFH,h⟩:=y1u h
  refine WC.y1g ((z9x = some r)) ([]) ([]) ?_ ?_
  ·skip
   refine WC.b (WC.a (WL.pu rfl ?_))
   refine WL.qA 35 (yE Tryz.underlying32 rfl) ?_
   refine WL.pu rfl (WL.nil (WX.a (WC.block ?_)))
   refine WC.y1S (fun (zfS : Nat) (z5r : Int)=>(y3F routes_58 z9x zfS z5r = some r)) (fun zfS z5r=>[(34,(.slice ao_59 routes_58.length cap_60)),(35,(.int .i64 ((routes_58.length : Nat) : Int))),(36,(.int .i64 z5r))]) (fun zfS z5r=>[]) (fun zfS z5r=>zfS) ⟨yB,0⟩ h (.cons rfl (.cons rfl (.cons rfl .nil))) .nil ?_
   rintro zfS z5r h
   obtain ⟨zpc,rfl⟩:=ya5 h
   rw [y3F] at h
   refine WC.b (WC.a (WL.pu rfl (WL.nil (WX.a (WC.b ?_)))))
   refine WC.cond rfl (fun zpe=>?_) (fun zpe=>?_)
   ·replace h:=yn h zpe
    refine WC.skip (WX.a (WC.b (WC.block (WC.b ?_))))
    obtain ⟨zFI,h⟩:=yq h
    refine WC.a ?_
    refine WL.znth (dd:=38) rfl rfl (Z:=Z) (Pr:=(p48 Z)) y6L rfl rfl hs_61 zFI ?_
    rintro zUk zUl zFJ zUm ⟨zUn,zUo,rfl,zUp⟩
    refine WL.qA 39 (yc y5e rfl (y48 hz.pv zFJ rfl)) ?_
    refine WL.pu rfl (WL.nil (WX.a (WC.b (WC.a (WL.pu rfl ?_)))))
    refine WL.qA 41 (yE Tryz.underlying48 rfl) ?_
    refine WL.pu rfl (WL.nil (WX.a ?_))
    refine WC.cond rfl (fun zpf=>?_) (fun zpf=>?_)
    ·replace h:=yn h zpf
     refine WC.b (WC.a (WL.pu rfl (WL.nil (WX.a (WC.ret (WX.ys (WX.yd (WX.yd (WX.ys (WX.yd ?_))))))))))
     obtain rfl:=Option.some.inj h
     refine WX.ye Tryz.results8 (.tmp rfl .nil) (fun w hw=>?_)
     exact ⟨yD rfl,hw.sub .nil⟩
    ·replace h:=yo h zpf
     refine WC.skip (WX.yj (WX.a (WC.a (WL.pu rfl (WL.pu rfl (WL.nil ?_))))))
     exact WX.round (G:=Nat × Int) ⟨zpc,(i64 (z5r + 1))⟩ h (Nat.lt_succ_self _) (.cons rfl (.cons rfl (.cons rfl .nil))) .nil
   ·replace h:=yo h zpe
    refine WC.exit (WX.yf (WX.yf (WX.yz ?_)))
    exact WX.mid (G:=Unit) () h .nil .nil
  ·rintro  h
   replace h:=zFH.symm.trans h
   refine WC.b (WC.a (WL.pu rfl (WL.nil (WX.a (WC.ret ?_)))))
   obtain rfl:=Option.some.inj h
   refine WX.ye Tryz.results8 (.tmp rfl .nil) (fun w hw=>?_)
   exact ⟨yD rfl,hw.sub .nil⟩
def y3R (z21 : Sapi_Config) : Option Int :=
 some (i64 (((z21.fModules.length : Nat) : Int) + ((z21.fSwitches.length : Nat) : Int)))
set_option maxRecDepth 20000 in
theorem y8T (Z : Zp) (zpg : Option Addr) (zph : Nat) (zpi : Option Addr) (zpj : Nat) (zpk : Option Addr) (zpl : Nat) (zpm : Option Addr) (zpn : Nat) (zpo : Option Addr) (zpp : Nat) (zpq : Option Addr) (zpr : Nat) (zps : Option Addr) (zpt : Nat) (zpu : Option Addr) (zpv : Nat) (z21 : Sapi_Config) (r : Int)
  (h : y3R z21 = some r) (w₀ : World) (hz : PZ [] w₀ Z)
  (zUq : ZS Z 4 (y3y Z) zpg zph z21.fModules)
  (zUr : ZS Z 4 (y49 Z) zpi zpj z21.fChannels)
  (zUs : ZS Z 4 (fun r x=>r = e66 x) zpk zpl z21.fSwitches)
  (zUt : ZS Z 4 (fun r x=>r = e64 x) zpm zpn z21.fLinks)
  (zUu : ZS Z 7 (p46 Z) zpo zpp z21.fVLs)
  (zUv : ZS Z 5 (fun r x=>r = y4m x) zpq zpr z21.fHealth)
  (zUw : ZS Z 3 (y4a Z) zps zpt z21.fCauses)
  (zUx : ZS Z 4 (fun r x=>r = y4n x) zpu zpv z21.fVersions) :
  Calls Tryz.prog 126 #[(.agg #[(.slice zpg z21.fModules.length zph),(.slice zpi z21.fChannels.length zpj),(.slice zpk z21.fSwitches.length zpl),(.slice zpm z21.fLinks.length zpn),(.slice zpo z21.fVLs.length zpp),(.slice zpq z21.fHealth.length zpr),(.slice zps z21.fCauses.length zpt),(.slice zpu z21.fVersions.length zpv)])] w₀ fun e w'=>e = .returned (.int .i64 r) ∧ Hp [] w₀ w' []:=by
 unfold y3R at h
 refine Calls.on1 Tryz.func126 Tryz.ntmps126 ?_
 refine WC.b (WC.a ?_)
 refine WL.nA 1 (yH (cs:=[(.slice zpg z21.fModules.length zph),(.slice zpi z21.fChannels.length zpj),(.slice zpk z21.fSwitches.length zpl),(.slice zpm z21.fLinks.length zpn),(.slice zpo z21.fVLs.length zpp),(.slice zpq z21.fHealth.length zpr),(.slice zps z21.fCauses.length zpt),(.slice zpu z21.fVersions.length zpv)]) rfl rfl) ?_
 intro zUy _
 refine WL.pu rfl (WL.nil (WX.a (WC.b (WC.a ?_))))
 refine WL.qA 3 (ya y6l rfl rfl) ?_
 refine WL.qA 4 (yc y6m rfl (yk .here rfl)) ?_
 refine WL.qA 5 (yE Tryz.underlying22 rfl) ?_
 refine WL.qA 6 (ya y9c rfl rfl) ?_
 refine WL.qA 7 (yc y9d rfl (yk .here rfl)) ?_
 refine WL.qA 8 (yE Tryz.underlying24 rfl) ?_
 refine WL.pu rfl (WL.pu rfl (WL.nil (WX.a (WC.ret ?_))))
 obtain rfl:=Option.some.inj h
 refine WX.ye Tryz.results126 (.tmp rfl .nil) (fun w hw=>?_)
 exact ⟨yD rfl,hw.sub .nil⟩
def y5g (z1z : Sapi_Config) (z6W : Int) : Option ByteArray :=
 (if decide (z6W < 0) then some true else (y3R z1z).bind fun zyc=>some (decide (z6W ≥ zyc))).bind fun zpw=>if zpw then some ⟨#[]⟩ else if decide (z6W < ((z1z.fModules.length : Nat) : Int)) then chk ((0 : Int) ≤ z6W ∧ z6W < ((z1z.fModules.length : Nat) : Int)) (some ((nth z1z.fModules z6W).fName)) else chk ((0 : Int) ≤ (i64 (z6W - ((z1z.fModules.length : Nat) : Int))) ∧ (i64 (z6W - ((z1z.fModules.length : Nat) : Int))) < ((z1z.fSwitches.length : Nat) : Int)) (some ((nth z1z.fSwitches (i64 (z6W - ((z1z.fModules.length : Nat) : Int)))).fName))
set_option maxRecDepth 20000 in
theorem ybO (Z : Zp) (zpx : Option Addr) (zpy : Nat) (zpz : Option Addr) (zpA : Nat) (zpB : Option Addr) (zpC : Nat) (zpD : Option Addr) (zpE : Nat) (zpF : Option Addr) (zpG : Nat) (zpH : Option Addr) (zpI : Nat) (zpJ : Option Addr) (zpK : Nat) (zpL : Option Addr) (zpM : Nat) (z1z : Sapi_Config) (z6W : Int) (r : ByteArray)
  (h : y5g z1z z6W = some r) (w₀ : World) (hz : PZ [] w₀ Z)
  (zyd : ZS Z 4 (y3y Z) zpx zpy z1z.fModules)
  (zFK : ZS Z 4 (y49 Z) zpz zpA z1z.fChannels)
  (zye : ZS Z 4 (fun r x=>r = e66 x) zpB zpC z1z.fSwitches)
  (zFL : ZS Z 4 (fun r x=>r = e64 x) zpD zpE z1z.fLinks)
  (zFM : ZS Z 7 (p46 Z) zpF zpG z1z.fVLs)
  (zFN : ZS Z 5 (fun r x=>r = y4m x) zpH zpI z1z.fHealth)
  (zFO : ZS Z 3 (y4a Z) zpJ zpK z1z.fCauses)
  (zFP : ZS Z 4 (fun r x=>r = y4n x) zpL zpM z1z.fVersions) :
  Calls Tryz.prog 127 #[(.agg #[(.slice zpx z1z.fModules.length zpy),(.slice zpz z1z.fChannels.length zpA),(.slice zpB z1z.fSwitches.length zpC),(.slice zpD z1z.fLinks.length zpE),(.slice zpF z1z.fVLs.length zpG),(.slice zpH z1z.fHealth.length zpI),(.slice zpJ z1z.fCauses.length zpK),(.slice zpL z1z.fVersions.length zpM)]),(.int .i64 z6W)] w₀ fun e w'=>e = .returned (.string r) ∧ Hp [] w₀ w' []:=by
 unfold y5g at h
 refine Calls.yJ Tryz.func127 Tryz.ntmps127 ?_
 refine WC.b (WC.a ?_)
 refine WL.nA 2 (yH (cs:=[(.slice zpx z1z.fModules.length zpy),(.slice zpz z1z.fChannels.length zpA),(.slice zpB z1z.fSwitches.length zpC),(.slice zpD z1z.fLinks.length zpE),(.slice zpF z1z.fVLs.length zpG),(.slice zpH z1z.fHealth.length zpI),(.slice zpJ z1z.fCauses.length zpK),(.slice zpL z1z.fVersions.length zpM)]) rfl rfl) ?_
 intro zUz _
 refine WL.pu rfl (WL.nil (WX.a (WC.b (WC.a ?_))))
 refine WL.qA 6 (ya y6l rfl rfl) ?_
 refine WL.qA 7 (yc y6m rfl (yk .here rfl)) ?_
 refine WL.qA 8 (yE Tryz.underlying22 rfl) ?_
 refine WL.pu rfl (WL.nil (WX.a (WC.block (WC.b ?_))))
 obtain ⟨zpw,zyf,h⟩:=z7 h
 refine WC.a (WL.pu rfl (WL.pu rfl (WL.pu rfl ?_)))
 refine WL.seg false 4 20 (B:=zpw) rfl rfl rfl rfl rfl rfl (fun h=>(Option.some.inj (yn zyf h)).symm) (fun _ zFQ=>?_) ?_
 ·skip
  have zje:=yo zyf zFQ
  obtain ⟨zyc,zFR,zje⟩:=z7 zje
  replace zje:=Option.some.inj zje
  refine WL.pu rfl ?_
  refine WL.qA 22 (yg y2B rfl (yh .here) rfl) ?_
  refine WL.cA 23 (za (l:=[.tmp 22]) Tryz.call126 (.cons rfl .nil)) .nil (cc hz .nil fun w pz ho=>y8T _ _ _ _ _ _ _ _ _ _ _ _ _ _ _ _ _ _ _ zFR w pz zyd zFK zye zFL zFM zFN zFO zFP) ?_
  refine WL.pu rfl (WL.pu rfl ?_)
  exact WL.yC zje rfl rfl .all
 refine WL.pu rfl (WL.nil (WX.a ?_))
 refine WC.cond rfl (fun zpN=>?_) (fun zpN=>?_)
 ·replace h:=yn h zpN
  refine WC.b (WC.a (WL.pu rfl (WL.nil (WX.a (WC.ret (WX.ys ?_))))))
  obtain rfl:=Option.some.inj h
  refine WX.ye Tryz.results127 (.tmp rfl .nil) (fun w hw=>?_)
  exact ⟨yD rfl,hw.sub .nil⟩
 ·replace h:=yo h zpN
  refine WC.b (WC.a (WL.pu rfl (WL.pu rfl (WL.pu rfl (WL.pu rfl (WL.nil (WX.a ?_)))))))
  refine WC.cond rfl (fun zpO=>?_) (fun zpO=>?_)
  ·replace h:=yn h zpO
   refine WC.b ?_
   obtain ⟨zFS,h⟩:=yq h
   refine WC.a ?_
   refine WL.qA 30 (ya y6l rfl rfl) ?_
   refine WL.qA 31 (yc y6m rfl (yk .here rfl)) ?_
   refine WL.pu rfl ?_
   refine WL.znth (dd:=33) rfl rfl (Z:=Z) (Pr:=(y3y Z)) elT_22 rfl rfl zyd zFS ?_
   rintro zUA zUB zFT zUC ⟨zUD,zUE,rfl,zUF⟩
   refine WL.qA 34 (ya fo_108_0 rfl rfl) ?_
   refine WL.qA 35 (yc ybp rfl (y11 hz.pv zFT rfl)) ?_
   refine WL.pu rfl (WL.nil (WX.a (WC.ret (WX.ys ?_))))
   obtain rfl:=Option.some.inj h
   refine WX.ye Tryz.results127 (.tmp rfl .nil) (fun w hw=>?_)
   exact ⟨yD rfl,hw.sub .nil⟩
  ·replace h:=yo h zpO
   refine WC.b ?_
   obtain ⟨zFU,h⟩:=yq h
   refine WC.a ?_
   refine WL.qA 9 (ya y9c rfl rfl) ?_
   refine WL.qA 10 (yc y9d rfl (yk .here rfl)) ?_
   refine WL.pu rfl (WL.pu rfl (WL.pu rfl ?_))
   refine WL.znth (dd:=14) rfl rfl (Z:=Z) (Pr:=(fun r x=>r = e66 x)) ybq rfl rfl zye zFU ?_
   rintro zUG zUH zFV zUI rfl
   refine WL.qA 15 (ya fo_66_0 rfl rfl) ?_
   refine WL.qA 16 (yc ybp rfl (y11 hz.pv zFV rfl)) ?_
   refine WL.pu rfl (WL.nil (WX.a (WC.ret (WX.ys ?_))))
   obtain rfl:=Option.some.inj h
   refine WX.ye Tryz.results127 (.tmp rfl .nil) (fun w hw=>?_)
   exact ⟨yD rfl,hw.sub .nil⟩
def y2q (z9y : Int) (z1c : Sapi_Config) (z7J : ByteArray) (z9z : Option Int) : Nat → Int → Option Int
 | 0,_=>none
 | zpP + 1,z5W=>if decide (z5W < z9y) then (y5g z1c z5W).bind fun zyg=>if decide (zyg = z7J) then some z5W else y2q z9y z1c z7J z9z zpP (i64 (z5W + 1)) else z9z
theorem y8Y {n : Nat} {z9y : Int} {z1c : Sapi_Config} {z7J : ByteArray} {z9z : Option Int} {z5W : Int} {r : Int} (h : y2q z9y z1c z7J z9z n z5W = some r) : ∃ m,n = m + 1:=by
 cases n with
 | zero=>cases h
 | succ m=>exact ⟨m,rfl⟩
def y2p (z1c : Sapi_Config) (z7J : ByteArray) : Option Int :=
 jp0 (some (-1)) fun z9z=>(y3R z1c).bind fun z9y=>y2q z9y z1c z7J z9z yB 0
set_option maxRecDepth 20000 in
theorem y9m (Z : Zp) (zm6 : Option Addr) (zm7 : Nat) (zm8 : Option Addr) (zm9 : Nat) (zma : Option Addr) (zmb : Nat) (zmc : Option Addr) (zmd : Nat) (zme : Option Addr) (zmf : Nat) (zmg : Option Addr) (zmh : Nat) (zmi : Option Addr) (zmj : Nat) (zmk : Option Addr) (zml : Nat) (z1c : Sapi_Config) (z7J : ByteArray) (r : Int)
  (h : y2p z1c z7J = some r) (w₀ : World) (hz : PZ [] w₀ Z)
  (zyh : ZS Z 4 (y3y Z) zm6 zm7 z1c.fModules)
  (zyi : ZS Z 4 (y49 Z) zm8 zm9 z1c.fChannels)
  (zyj : ZS Z 4 (fun r x=>r = e66 x) zma zmb z1c.fSwitches)
  (zyk : ZS Z 4 (fun r x=>r = e64 x) zmc zmd z1c.fLinks)
  (zyl : ZS Z 7 (p46 Z) zme zmf z1c.fVLs)
  (zym : ZS Z 5 (fun r x=>r = y4m x) zmg zmh z1c.fHealth)
  (zyn : ZS Z 3 (y4a Z) zmi zmj z1c.fCauses)
  (zyo : ZS Z 4 (fun r x=>r = y4n x) zmk zml z1c.fVersions) :
  Calls Tryz.prog 93 #[(.agg #[(.slice zm6 z1c.fModules.length zm7),(.slice zm8 z1c.fChannels.length zm9),(.slice zma z1c.fSwitches.length zmb),(.slice zmc z1c.fLinks.length zmd),(.slice zme z1c.fVLs.length zmf),(.slice zmg z1c.fHealth.length zmh),(.slice zmi z1c.fCauses.length zmj),(.slice zmk z1c.fVersions.length zml)]),(.string z7J)] w₀ fun e w'=>e = .returned (.int .i64 r) ∧ Hp [] w₀ w' []:=by
 unfold y2p at h
 refine Calls.yJ Tryz.func93 Tryz.ntmps93 ?_
 refine WC.b (WC.a ?_)
 refine WL.nA 2 (yH (cs:=[(.slice zm6 z1c.fModules.length zm7),(.slice zm8 z1c.fChannels.length zm9),(.slice zma z1c.fSwitches.length zmb),(.slice zmc z1c.fLinks.length zmd),(.slice zme z1c.fVLs.length zmf),(.slice zmg z1c.fHealth.length zmh),(.slice zmi z1c.fCauses.length zmj),(.slice zmk z1c.fVersions.length zml)]) rfl rfl) ?_
 intro zyp _
 refine WL.pu rfl (WL.nil (WX.a ?_))
 obtain ⟨z9z,zFW,h⟩:=y1u h
 refine WC.y1g ((z9z = some r)) ([]) ([]) ?_ ?_
 ·skip
  refine WC.b ?_
  obtain ⟨z9y,zFX,h⟩:=z7 h
  refine WC.a ?_
  refine WL.qA 6 (yg y2B rfl (yh .here) rfl) ?_
  refine WL.cA 7 (za (l:=[.tmp 6]) Tryz.call126 (.cons rfl .nil)) .nil (cc hz .nil fun w pz ho=>y8T _ _ _ _ _ _ _ _ _ _ _ _ _ _ _ _ _ _ _ zFX w pz zyh zyi zyj zyk zyl zym zyn zyo) ?_
  refine WL.pu rfl (WL.nil (WX.a (WC.block ?_)))
  refine WC.y1S (fun (zfT : Nat) (z5W : Int)=>(y2q z9y z1c z7J z9z zfT z5W = some r)) (fun zfT z5W=>[(1,(.string z7J)),(2,(.pointer (some ⟨zyp,0,none⟩))),(7,(.int .i64 z9y)),(8,(.int .i64 z5W))]) (fun zfT z5W=>[stb zyp 31 [(.slice zm6 z1c.fModules.length zm7),(.slice zm8 z1c.fChannels.length zm9),(.slice zma z1c.fSwitches.length zmb),(.slice zmc z1c.fLinks.length zmd),(.slice zme z1c.fVLs.length zmf),(.slice zmg z1c.fHealth.length zmh),(.slice zmi z1c.fCauses.length zmj),(.slice zmk z1c.fVersions.length zml)]]) (fun zfT z5W=>zfT) ⟨yB,0⟩ h (.cons rfl (.cons rfl (.cons rfl (.cons rfl .nil)))) (.cons .here .nil) ?_
  rintro zfT z5W h
  obtain ⟨zpP,rfl⟩:=y8Y h
  rw [y2q] at h
  refine WC.b (WC.a (WL.pu rfl (WL.nil (WX.a (WC.b ?_)))))
  refine WC.cond rfl (fun zpQ=>?_) (fun zpQ=>?_)
  ·replace h:=yn h zpQ
   refine WC.skip (WX.a (WC.b (WC.block (WC.b (WC.a (WL.pu rfl (WL.pu rfl (WL.nil (WX.a (WC.b ?_))))))))))
   obtain ⟨zyg,zFY,h⟩:=z7 h
   refine WC.a ?_
   refine WL.qA 11 (yg y2B rfl (yh .here) rfl) ?_
   refine WL.pu rfl ?_
   refine WL.cA 13 (za (l:=[.tmp 11,.tmp 12]) Tryz.call127 (.cons rfl (.cons rfl .nil))) .nil (cc hz .nil fun w pz ho=>ybO _ _ _ _ _ _ _ _ _ _ _ _ _ _ _ _ _ _ _ _ zFY w pz zyh zyi zyj zyk zyl zym zyn zyo) ?_
   refine WL.pu rfl ?_
   refine WL.qA 15 (q_seql rfl rfl) ?_
   refine WL.nil (WX.a ?_)
   refine WC.cond rfl (fun zpR=>?_) (fun zpR=>?_)
   ·replace h:=yn h zpR
    refine WC.b (WC.a (WL.pu rfl (WL.pu rfl (WL.nil (WX.a (WC.ret (WX.ys (WX.yd (WX.yd (WX.ys (WX.yd ?_)))))))))))
    obtain rfl:=Option.some.inj h
    refine WX.ye Tryz.results93 (.tmp rfl .nil) (fun w hw=>?_)
    exact ⟨yD rfl,hw.sub .nil⟩
   ·replace h:=yo h zpR
    refine WC.skip (WX.yj (WX.a (WC.a (WL.pu rfl (WL.pu rfl (WL.nil ?_))))))
    exact WX.round (G:=Nat × Int) ⟨zpP,(i64 (z5W + 1))⟩ h (Nat.lt_succ_self _) (.cons rfl (.cons rfl (.cons rfl (.cons rfl .nil)))) (.cons .here .nil)
  ·replace h:=yo h zpQ
   refine WC.exit (WX.yf (WX.yf (WX.yz ?_)))
   exact WX.mid (G:=Unit) () h .nil .nil
 ·rintro  h
  replace h:=zFW.symm.trans h
  refine WC.b (WC.a (WL.pu rfl (WL.nil (WX.a (WC.ret ?_)))))
  obtain rfl:=Option.some.inj h
  refine WX.ye Tryz.results93 (.tmp rfl .nil) (fun w hw=>?_)
  exact ⟨yD rfl,hw.sub .nil⟩
def y4i (zA : Sapi_Config) (zbW : Int) (z2d : Int) : Option Bool :=
 if decide (z2d < ((zA.fModules.length : Nat) : Int)) then some (decide (z2d ≥ 0)) else chk ((0 : Int) ≤ (i64 (z2d - ((zA.fModules.length : Nat) : Int))) ∧ (i64 (z2d - ((zA.fModules.length : Nat) : Int))) < ((zA.fSwitches.length : Nat) : Int)) (some (((((decide (((nth zA.fSwitches (i64 (z2d - ((zA.fModules.length : Nat) : Int)))).fNet) = zbW)) && (decide (((nth zA.fSwitches (i64 (z2d - ((zA.fModules.length : Nat) : Int)))).fDelay) ≥ 0))) && (decide (((nth zA.fSwitches (i64 (z2d - ((zA.fModules.length : Nat) : Int)))).fDelay) ≤ 1000))) && (decide (((nth zA.fSwitches (i64 (z2d - ((zA.fModules.length : Nat) : Int)))).fStore) ≥ 0))) && (decide (((nth zA.fSwitches (i64 (z2d - ((zA.fModules.length : Nat) : Int)))).fStore) ≤ 1073741824))))
set_option maxRecDepth 20000 in
theorem y9n (Z : Zp) (zpS : Option Addr) (zpT : Nat) (zpU : Option Addr) (zpV : Nat) (zpW : Option Addr) (zpX : Nat) (zpY : Option Addr) (zpZ : Nat) (zq0 : Option Addr) (zq1 : Nat) (zq2 : Option Addr) (zq3 : Nat) (zq4 : Option Addr) (zq5 : Nat) (zq6 : Option Addr) (zq7 : Nat) (zA : Sapi_Config) (zbW : Int) (z2d : Int) (r : Bool)
  (h : y4i zA zbW z2d = some r) (w₀ : World) (hz : PZ [] w₀ Z)
  (zUJ : ZS Z 4 (y3y Z) zpS zpT zA.fModules)
  (zUK : ZS Z 4 (y49 Z) zpU zpV zA.fChannels)
  (zFZ : ZS Z 4 (fun r x=>r = e66 x) zpW zpX zA.fSwitches)
  (zUL : ZS Z 4 (fun r x=>r = e64 x) zpY zpZ zA.fLinks)
  (zUM : ZS Z 7 (p46 Z) zq0 zq1 zA.fVLs)
  (zUN : ZS Z 5 (fun r x=>r = y4m x) zq2 zq3 zA.fHealth)
  (zUO : ZS Z 3 (y4a Z) zq4 zq5 zA.fCauses)
  (zUP : ZS Z 4 (fun r x=>r = y4n x) zq6 zq7 zA.fVersions) :
  Calls Tryz.prog 94 #[(.agg #[(.slice zpS zA.fModules.length zpT),(.slice zpU zA.fChannels.length zpV),(.slice zpW zA.fSwitches.length zpX),(.slice zpY zA.fLinks.length zpZ),(.slice zq0 zA.fVLs.length zq1),(.slice zq2 zA.fHealth.length zq3),(.slice zq4 zA.fCauses.length zq5),(.slice zq6 zA.fVersions.length zq7)]),(.int .i64 zbW),(.int .i64 z2d)] w₀ fun e w'=>e = .returned (.bool r) ∧ Hp [] w₀ w' []:=by
 unfold y4i at h
 refine Calls.on3 Tryz.func94 Tryz.ntmps94 ?_
 refine WC.b (WC.a ?_)
 refine WL.nA 3 (yH (cs:=[(.slice zpS zA.fModules.length zpT),(.slice zpU zA.fChannels.length zpV),(.slice zpW zA.fSwitches.length zpX),(.slice zpY zA.fLinks.length zpZ),(.slice zq0 zA.fVLs.length zq1),(.slice zq2 zA.fHealth.length zq3),(.slice zq4 zA.fCauses.length zq5),(.slice zq6 zA.fVersions.length zq7)]) rfl rfl) ?_
 intro zUQ _
 refine WL.pu rfl (WL.nil (WX.a (WC.b (WC.b (WC.a (WL.pu rfl ?_))))))
 refine WL.qA 9 (ya y6l rfl rfl) ?_
 refine WL.qA 10 (yc y6m rfl (yk .here rfl)) ?_
 refine WL.qA 11 (yE Tryz.underlying22 rfl) ?_
 refine WL.pu rfl (WL.nil (WX.a ?_))
 refine WC.cond rfl (fun zq8=>?_) (fun zq8=>?_)
 ·replace h:=yn h zq8
  refine WC.b (WC.a (WL.pu rfl (WL.pu rfl (WL.pu rfl (WL.nil (WX.a (WC.ret (WX.yd ?_))))))))
  obtain rfl:=Option.some.inj h
  refine WX.ye Tryz.results94 (.tmp rfl .nil) (fun w hw=>?_)
  exact ⟨yD rfl,hw.sub .nil⟩
 ·replace h:=yo h zq8
  refine WC.skip (WX.a (WC.b ?_))
  obtain ⟨zG0,h⟩:=yq h
  refine WC.a ?_
  refine WL.qA 15 (ya y9c rfl rfl) ?_
  refine WL.qA 16 (yc y9d rfl (yk .here rfl)) ?_
  refine WL.pu rfl ?_
  refine WL.qA 18 (ya y6l rfl rfl) ?_
  refine WL.qA 19 (yc y6m rfl (yk .here rfl)) ?_
  refine WL.qA 20 (yE Tryz.underlying22 rfl) ?_
  refine WL.pu rfl ?_
  refine WL.znth (dd:=22) rfl rfl (Z:=Z) (Pr:=(fun r x=>r = e66 x)) ybq rfl rfl zFZ zG0 ?_
  rintro zUR zUS zG1 zUT rfl
  refine WL.qA 23 (yg aggT_66 rfl (y1A hz.pv zG1) rfl) ?_
  refine WL.nA 7 (yv (cs:=[(.string ⟨#[]⟩),(.int .i64 0),(.int .i64 0),(.int .i64 0)]) zeroT_66 rfl) ?_
  intro zUU _
  refine WL.ym rfl rfl (yl sizT_66 rfl rfl rfl .here rfl rfl rfl) ?_
  refine WL.nil (WX.a (WC.b (WC.a ?_)))
  refine WL.qA 24 (ya fo_66_1 rfl rfl) ?_
  refine WL.qA 25 (yc yt rfl (yk .here rfl)) ?_
  refine WL.pu rfl (WL.pu rfl (WL.pu rfl ?_))
  refine WL.seg true 3 28 (B:=(decide (((nth zA.fSwitches (i64 (z2d - ((zA.fModules.length : Nat) : Int)))).fNet) = zbW)) && (decide (((nth zA.fSwitches (i64 (z2d - ((zA.fModules.length : Nat) : Int)))).fDelay) ≥ 0))) rfl rfl rfl rfl rfl rfl (fun h=>(y2b h).symm) (fun _ zG2=>?_) ?_
  ·skip
   refine WL.qA 29 (ya ybJ rfl rfl) ?_
   refine WL.qA 30 (yc yt rfl (yk .here rfl)) ?_
   refine WL.pu rfl (WL.pu rfl ?_)
   exact WL.yC (y2c zG2) rfl rfl .all
  refine WL.pu rfl ?_
  refine WL.seg true 3 33 (B:=((decide (((nth zA.fSwitches (i64 (z2d - ((zA.fModules.length : Nat) : Int)))).fNet) = zbW)) && (decide (((nth zA.fSwitches (i64 (z2d - ((zA.fModules.length : Nat) : Int)))).fDelay) ≥ 0))) && (decide (((nth zA.fSwitches (i64 (z2d - ((zA.fModules.length : Nat) : Int)))).fDelay) ≤ 1000))) rfl rfl rfl rfl rfl rfl (fun h=>(y2b h).symm) (fun _ zG3=>?_) ?_
  ·skip
   refine WL.qA 34 (ya ybJ rfl rfl) ?_
   refine WL.qA 35 (yc yt rfl (yk .here rfl)) ?_
   refine WL.pu rfl (WL.pu rfl ?_)
   exact WL.yC (y2c zG3) rfl rfl .all
  refine WL.pu rfl ?_
  refine WL.seg true 3 38 (B:=(((decide (((nth zA.fSwitches (i64 (z2d - ((zA.fModules.length : Nat) : Int)))).fNet) = zbW)) && (decide (((nth zA.fSwitches (i64 (z2d - ((zA.fModules.length : Nat) : Int)))).fDelay) ≥ 0))) && (decide (((nth zA.fSwitches (i64 (z2d - ((zA.fModules.length : Nat) : Int)))).fDelay) ≤ 1000))) && (decide (((nth zA.fSwitches (i64 (z2d - ((zA.fModules.length : Nat) : Int)))).fStore) ≥ 0))) rfl rfl rfl rfl rfl rfl (fun h=>(y2b h).symm) (fun _ zG4=>?_) ?_
  ·skip
   refine WL.qA 39 (ya yd9 rfl rfl) ?_
   refine WL.qA 40 (yc yt rfl (yk .here rfl)) ?_
   refine WL.pu rfl (WL.pu rfl ?_)
   exact WL.yC (y2c zG4) rfl rfl .all
  refine WL.pu rfl ?_
  refine WL.seg true 3 43 (B:=((((decide (((nth zA.fSwitches (i64 (z2d - ((zA.fModules.length : Nat) : Int)))).fNet) = zbW)) && (decide (((nth zA.fSwitches (i64 (z2d - ((zA.fModules.length : Nat) : Int)))).fDelay) ≥ 0))) && (decide (((nth zA.fSwitches (i64 (z2d - ((zA.fModules.length : Nat) : Int)))).fDelay) ≤ 1000))) && (decide (((nth zA.fSwitches (i64 (z2d - ((zA.fModules.length : Nat) : Int)))).fStore) ≥ 0))) && (decide (((nth zA.fSwitches (i64 (z2d - ((zA.fModules.length : Nat) : Int)))).fStore) ≤ 1073741824))) rfl rfl rfl rfl rfl rfl (fun h=>(y2b h).symm) (fun _ zG5=>?_) ?_
  ·skip
   refine WL.qA 44 (ya yd9 rfl rfl) ?_
   refine WL.qA 45 (yc yt rfl (yk .here rfl)) ?_
   refine WL.pu rfl (WL.pu rfl ?_)
   exact WL.yC (y2c zG5) rfl rfl .all
  refine WL.pu rfl (WL.nil (WX.a (WC.ret ?_)))
  obtain rfl:=Option.some.inj h
  refine WX.ye Tryz.results94 (.tmp rfl .nil) (fun w hw=>?_)
  exact ⟨yD rfl,hw.sub .nil⟩
def y4I (z12 : Sapi_Config) (z9A : Int) (z2S : Int) (z7K : Int) (z7L : Int) : Option Bool :=
 if (decide (z2S < 0)) || (decide (z2S ≥ ((z12.fLinks.length : Nat) : Int))) then some false else chk ((0 : Int) ≤ z2S ∧ z2S < ((z12.fLinks.length : Nat) : Int)) ((y2p z12 ((nth z12.fLinks z2S).fA)).bind fun z6X=>(y2p z12 ((nth z12.fLinks z2S).fB)).bind fun z6Y=>(if (((decide (((nth z12.fLinks z2S).fNet) = z9A)) && (decide (((nth z12.fLinks z2S).fSlow) ≥ 1))) && (decide (((nth z12.fLinks z2S).fSlow) ≤ 16))) && (decide (z6X ≠ z6Y)) then (y4i z12 z9A z6X).bind fun zyq=>some zyq else some false).bind fun zq9=>(if zq9 then (y4i z12 z9A z6Y).bind fun zyr=>some zyr else some false).bind fun zmm=>some (zmm && (((decide (z6X = z7K)) && (decide (z6Y = z7L))) || ((decide (z6X = z7L)) && (decide (z6Y = z7K))))))
set_option maxRecDepth 20000 in
theorem ybs (Z : Zp) (zqa : Option Addr) (zqb : Nat) (zqc : Option Addr) (zqd : Nat) (zqe : Option Addr) (zqf : Nat) (zqg : Option Addr) (zqh : Nat) (zqi : Option Addr) (zqj : Nat) (zqk : Option Addr) (zql : Nat) (zqm : Option Addr) (zqn : Nat) (zqo : Option Addr) (zqp : Nat) (z12 : Sapi_Config) (z9A : Int) (z2S : Int) (z7K : Int) (z7L : Int) (r : Bool)
  (h : y4I z12 z9A z2S z7K z7L = some r) (w₀ : World) (hz : PZ [] w₀ Z)
  (zmn : ZS Z 4 (y3y Z) zqa zqb z12.fModules)
  (zmo : ZS Z 4 (y49 Z) zqc zqd z12.fChannels)
  (zmp : ZS Z 4 (fun r x=>r = e66 x) zqe zqf z12.fSwitches)
  (zjf : ZS Z 4 (fun r x=>r = e64 x) zqg zqh z12.fLinks)
  (zmq : ZS Z 7 (p46 Z) zqi zqj z12.fVLs)
  (zmr : ZS Z 5 (fun r x=>r = y4m x) zqk zql z12.fHealth)
  (zms : ZS Z 3 (y4a Z) zqm zqn z12.fCauses)
  (zmt : ZS Z 4 (fun r x=>r = y4n x) zqo zqp z12.fVersions) :
  Calls Tryz.prog 56 #[(.agg #[(.slice zqa z12.fModules.length zqb),(.slice zqc z12.fChannels.length zqd),(.slice zqe z12.fSwitches.length zqf),(.slice zqg z12.fLinks.length zqh),(.slice zqi z12.fVLs.length zqj),(.slice zqk z12.fHealth.length zql),(.slice zqm z12.fCauses.length zqn),(.slice zqo z12.fVersions.length zqp)]),(.int .i64 z9A),(.int .i64 z2S),(.int .i64 z7K),(.int .i64 z7L)] w₀ fun e w'=>e = .returned (.bool r) ∧ Hp [] w₀ w' []:=by
 unfold y4I at h
 refine Calls.on5 Tryz.func56 Tryz.ntmps56 ?_
 refine WC.b (WC.a ?_)
 refine WL.nA 5 (yH (cs:=[(.slice zqa z12.fModules.length zqb),(.slice zqc z12.fChannels.length zqd),(.slice zqe z12.fSwitches.length zqf),(.slice zqg z12.fLinks.length zqh),(.slice zqi z12.fVLs.length zqj),(.slice zqk z12.fHealth.length zql),(.slice zqm z12.fCauses.length zqn),(.slice zqo z12.fVersions.length zqp)]) rfl rfl) ?_
 intro zUV _
 refine WL.pu rfl (WL.nil (WX.a (WC.b (WC.b (WC.a (WL.pu rfl (WL.pu rfl (WL.pu rfl ?_))))))))
 refine WL.seg false 5 16 (B:=(decide (z2S < 0)) || (decide (z2S ≥ ((z12.fLinks.length : Nat) : Int)))) rfl rfl rfl rfl rfl rfl (fun h=>(y67 h).symm) (fun _ zG6=>?_) ?_
 ·skip
  refine WL.pu rfl ?_
  refine WL.qA 18 (ya y8m rfl rfl) ?_
  refine WL.qA 19 (yc y8n rfl (yk .here rfl)) ?_
  refine WL.qA 20 (yE Tryz.underlying25 rfl) ?_
  refine WL.pu rfl (WL.pu rfl ?_)
  exact WL.yC (y68 zG6) rfl rfl .all
 refine WL.nil (WX.a ?_)
 refine WC.cond rfl (fun zqq=>?_) (fun zqq=>?_)
 ·replace h:=yn h zqq
  refine WC.b (WC.a (WL.pu rfl (WL.nil (WX.a (WC.ret (WX.yd ?_))))))
  obtain rfl:=Option.some.inj h
  refine WX.ye Tryz.results56 (.tmp rfl .nil) (fun w hw=>?_)
  exact ⟨yD rfl,hw.sub .nil⟩
 ·replace h:=yo h zqq
  refine WC.skip (WX.a (WC.b ?_))
  obtain ⟨zG7,h⟩:=yq h
  refine WC.a ?_
  refine WL.qA 23 (ya y8m rfl rfl) ?_
  refine WL.qA 24 (yc y8n rfl (yk .here rfl)) ?_
  refine WL.pu rfl ?_
  refine WL.znth (dd:=26) rfl rfl (Z:=Z) (Pr:=(fun r x=>r = e64 x)) ybo rfl rfl zjf zG7 ?_
  rintro zUW zUX zG8 zUY rfl
  refine WL.qA 27 (yg aggT_64 rfl (y1A hz.pv zG8) rfl) ?_
  refine WL.nA 11 (yv (cs:=[(.string ⟨#[]⟩),(.string ⟨#[]⟩),(.int .i64 0),(.int .i64 0)]) zeroT_64 rfl) ?_
  intro zUZ _
  refine WL.ym rfl rfl (yl sizT_64 rfl rfl rfl .here rfl rfl rfl) ?_
  refine WL.nil (WX.a (WC.b ?_))
  obtain ⟨z6X,zG9,h⟩:=z7 h
  obtain ⟨z6Y,zGa,h⟩:=z7 h
  refine WC.yL (fun i=>[].contains i) [] rfl ?_
  refine WD.qA 0 28 rfl (yg y2B rfl (yh .h1) rfl) ?_
  refine WD.pA 1 29 rfl (fun _=>ya fo_64_0 rfl rfl) ?_
  refine WD.qA 2 30 rfl (yc ybp rfl (yk .here rfl)) ?_
  refine WD.eA 3 31 rfl (za (l:=[.tmp 28,.tmp 30]) Tryz.call93 (.cons rfl (.cons rfl .nil))) (cc hz .nil fun w pz ho=>y9m _ _ _ _ _ _ _ _ _ _ _ _ _ _ _ _ _ _ _ _ zG9 w pz zmn zmo zmp zjf zmq zmr zms zmt) ?_
  refine WD.qA 4 32 rfl (yg y2B rfl (yh .h1) rfl) ?_
  refine WD.pA 5 33 rfl (fun _=>ya fo_64_1 rfl rfl) ?_
  refine WD.qA 6 34 rfl (yc ybp rfl (yk .here rfl)) ?_
  refine WD.eA 7 35 rfl (za (l:=[.tmp 32,.tmp 34]) Tryz.call93 (.cons rfl (.cons rfl .nil))) (cc hz .nil fun w pz ho=>y9m _ _ _ _ _ _ _ _ _ _ _ _ _ _ _ _ _ _ _ _ zGa w pz zmn zmo zmp zjf zmq zmr zms zmt) ?_
  refine WD.pA 8 12 rfl (fun _=>q_z rfl) ?_
  refine WD.pA 9 13 rfl (fun _=>q_z rfl) ?_
  refine WD.done (by kernel_rfl) ?_
  refine WX.a (WC.b ?_)
  obtain ⟨zq9,zys,h⟩:=z7 h
  obtain ⟨zmm,zyt,h⟩:=z7 h
  refine WC.a ?_
  refine WL.qA 36 (ya fo_64_2 rfl rfl) ?_
  refine WL.qA 37 (yc yt rfl (yk .here rfl)) ?_
  refine WL.pu rfl (WL.pu rfl (WL.pu rfl ?_))
  refine WL.seg true 3 40 (B:=(decide (((nth z12.fLinks z2S).fNet) = z9A)) && (decide (((nth z12.fLinks z2S).fSlow) ≥ 1))) rfl rfl rfl rfl rfl rfl (fun h=>(y2b h).symm) (fun _ zGb=>?_) ?_
  ·skip
   refine WL.qA 41 (ya yaL rfl rfl) ?_
   refine WL.qA 42 (yc yt rfl (yk .here rfl)) ?_
   refine WL.pu rfl (WL.pu rfl ?_)
   exact WL.yC (y2c zGb) rfl rfl .all
  refine WL.pu rfl ?_
  refine WL.seg true 3 45 (B:=((decide (((nth z12.fLinks z2S).fNet) = z9A)) && (decide (((nth z12.fLinks z2S).fSlow) ≥ 1))) && (decide (((nth z12.fLinks z2S).fSlow) ≤ 16))) rfl rfl rfl rfl rfl rfl (fun h=>(y2b h).symm) (fun _ zGc=>?_) ?_
  ·skip
   refine WL.qA 46 (ya yaL rfl rfl) ?_
   refine WL.qA 47 (yc yt rfl (yk .here rfl)) ?_
   refine WL.pu rfl (WL.pu rfl ?_)
   exact WL.yC (y2c zGc) rfl rfl .all
  refine WL.pu rfl ?_
  refine WL.seg true 3 50 (B:=(((decide (((nth z12.fLinks z2S).fNet) = z9A)) && (decide (((nth z12.fLinks z2S).fSlow) ≥ 1))) && (decide (((nth z12.fLinks z2S).fSlow) ≤ 16))) && (decide (z6X ≠ z6Y))) rfl rfl rfl rfl rfl rfl (fun h=>(y2b h).symm) (fun _ zGd=>?_) ?_
  ·skip
   refine WL.pu rfl (WL.pu rfl (WL.pu rfl (WL.pu rfl ?_)))
   exact WL.yC (y2c zGd) rfl rfl .all
  refine WL.pu rfl ?_
  refine WL.seg true 4 55 (B:=zq9) rfl rfl rfl rfl rfl rfl (fun h=>(Option.some.inj (yo zys h)).symm) (fun _ zGe=>?_) ?_
  ·skip
   have zjg:=yn zys zGe
   obtain ⟨zyq,zGf,zjg⟩:=z7 zjg
   replace zjg:=Option.some.inj zjg
   refine WL.qA 56 (yg y2B rfl (yh .h1) rfl) ?_
   refine WL.pu rfl (WL.pu rfl ?_)
   refine WL.cA 59 (za (l:=[.tmp 56,.tmp 57,.tmp 58]) Tryz.call94 (.cons rfl (.cons rfl (.cons rfl .nil)))) .nil (cc hz .nil fun w pz ho=>y9n _ _ _ _ _ _ _ _ _ _ _ _ _ _ _ _ _ _ _ _ _ zGf w pz zmn zmo zmp zjf zmq zmr zms zmt) ?_
   refine WL.pu rfl ?_
   exact WL.yC zjg rfl rfl .all
  refine WL.pu rfl ?_
  refine WL.seg true 4 61 (B:=zmm) rfl rfl rfl rfl rfl rfl (fun h=>(Option.some.inj (yo zyt h)).symm) (fun _ zGg=>?_) ?_
  ·skip
   have zjh:=yn zyt zGg
   obtain ⟨zyr,zGh,zjh⟩:=z7 zjh
   replace zjh:=Option.some.inj zjh
   refine WL.qA 62 (yg y2B rfl (yh .h1) rfl) ?_
   refine WL.pu rfl (WL.pu rfl ?_)
   refine WL.cA 65 (za (l:=[.tmp 62,.tmp 63,.tmp 64]) Tryz.call94 (.cons rfl (.cons rfl (.cons rfl .nil)))) .nil (cc hz .nil fun w pz ho=>y9n _ _ _ _ _ _ _ _ _ _ _ _ _ _ _ _ _ _ _ _ _ zGh w pz zmn zmo zmp zjf zmq zmr zms zmt) ?_
   refine WL.pu rfl ?_
   exact WL.yC zjh rfl rfl .all
  refine WL.pu rfl ?_
  refine WL.seg true 18 67 (B:=zmm && (((decide (z6X = z7K)) && (decide (z6Y = z7L))) || ((decide (z6X = z7L)) && (decide (z6Y = z7K))))) rfl rfl rfl rfl rfl rfl (fun h=>(y2b h).symm) (fun _ zGi=>?_) ?_
  ·skip
   refine WL.pu rfl (WL.pu rfl (WL.pu rfl (WL.pu rfl ?_)))
   refine WL.seg true 3 71 (B:=(decide (z6X = z7K)) && (decide (z6Y = z7L))) rfl rfl rfl rfl rfl rfl (fun h=>(y2b h).symm) (fun _ zGj=>?_) ?_
   ·skip
    refine WL.pu rfl (WL.pu rfl (WL.pu rfl (WL.pu rfl ?_)))
    exact WL.yC (y2c zGj) rfl rfl .all
   refine WL.pu rfl ?_
   refine WL.seg false 8 76 (B:=((decide (z6X = z7K)) && (decide (z6Y = z7L))) || ((decide (z6X = z7L)) && (decide (z6Y = z7K)))) rfl rfl rfl rfl rfl rfl (fun h=>(y67 h).symm) (fun _ zGk=>?_) ?_
   ·skip
    refine WL.pu rfl (WL.pu rfl (WL.pu rfl (WL.pu rfl ?_)))
    refine WL.seg true 3 80 (B:=(decide (z6X = z7L)) && (decide (z6Y = z7K))) rfl rfl rfl rfl rfl rfl (fun h=>(y2b h).symm) (fun _ zGl=>?_) ?_
    ·skip
     refine WL.pu rfl (WL.pu rfl (WL.pu rfl (WL.pu rfl ?_)))
     exact WL.yC (y2c zGl) rfl rfl .all
    refine WL.pu rfl ?_
    exact WL.yC (y68 zGk) rfl rfl .all
   refine WL.pu rfl ?_
   exact WL.yC (y2c zGi) rfl rfl .all
  refine WL.pu rfl (WL.nil (WX.a (WC.ret ?_)))
  obtain rfl:=Option.some.inj h
  refine WX.ye Tryz.results56 (.tmp rfl .nil) (fun w hw=>?_)
  exact ⟨yD rfl,hw.sub .nil⟩
def y2d (zj : List Sapi_Hop) (zQ : Sapi_Config) (z4p : Int) (z9B : Option Bool) : Nat → Int → (List (Int × Int)) → Option Bool
 | 0,_,_=>none
 | zqr + 1,zp,z4X=>if decide (zp < ((zj.length : Nat) : Int)) then chk ((0 : Int) ≤ zp ∧ zp < ((zj.length : Nat) : Int)) (jp1 (fun (z1R : List (Int × Int))=>chk (((decide ((yp z1R ((nth zj zp).fNode) 0) = 0)) || (decide ((yp z1R ((nth zj zp).fNext) 0) > 0))) = false → ((decide (zp > 0)) = true → ((0 : Int) ≤ 0 ∧ 0 < ((zj.length : Nat) : Int)))) ((if ((decide ((yp z1R ((nth zj zp).fNode) 0) = 0)) || (decide ((yp z1R ((nth zj zp).fNext) 0) > 0))) || (((decide (zp > 0)) && (decide (((nth zj zp).fNode) ≠ ((nth zj 0).fNode)))) && (decide (((nth zj zp).fNode) < ((zQ.fModules.length : Nat) : Int)))) then some true else (y4I zQ z4p ((nth zj zp).fLink) ((nth zj zp).fNode) ((nth zj zp).fNext)).bind fun zyu=>some (!zyu)).bind fun zqs=>if zqs then some false else y2d zj zQ z4p z9B zqr (i64 (zp + 1)) (yG z1R ((nth zj zp).fNext) (i64 ((yp z1R ((nth zj zp).fNext) 0) + 1))))) fun zmu=>if decide (zp = 0) then zmu (yG z4X ((nth zj zp).fNode) (i64 ((yp z4X ((nth zj zp).fNode) 0) + 1))) else zmu z4X) else z9B
theorem y8J {n : Nat} {zj : List Sapi_Hop} {zQ : Sapi_Config} {z4p : Int} {z9B : Option Bool} {zp : Int} {z4X : List (Int × Int)} {r : Bool} (h : y2d zj zQ z4p z9B n zp z4X = some r) : ∃ m,n = m + 1:=by
 cases n with
 | zero=>cases h
 | succ m=>exact ⟨m,rfl⟩
def y4J (zQ : Sapi_Config) (z4p : Int) (zj : List Sapi_Hop) : Option Bool :=
 jp0 (some (decide (((zj.length : Nat) : Int) ≤ 32))) fun z9B=>y2d zj zQ z4p z9B yB 0 ([] : List (Int × Int))
set_option maxRecDepth 20000 in
theorem ybt (Z : Zp) (zji : Option Addr) (zjj : Nat) (zjk : Option Addr) (zjl : Nat) (zjm : Option Addr) (zjn : Nat) (zjo : Option Addr) (zjp : Nat) (zjq : Option Addr) (zjr : Nat) (zjs : Option Addr) (zjt : Nat) (zju : Option Addr) (zjv : Nat) (zjw : Option Addr) (zjx : Nat) (z4q : Option Addr) (z4r : Nat) (zQ : Sapi_Config) (z4p : Int) (zj : List Sapi_Hop) (r : Bool)
  (h : y4J zQ z4p zj = some r) (w₀ : World) (hz : PZ [] w₀ Z)
  (zGm : ZS Z 4 (y3y Z) zji zjj zQ.fModules)
  (zGn : ZS Z 4 (y49 Z) zjk zjl zQ.fChannels)
  (zGo : ZS Z 4 (fun r x=>r = e66 x) zjm zjn zQ.fSwitches)
  (zGp : ZS Z 4 (fun r x=>r = e64 x) zjo zjp zQ.fLinks)
  (zGq : ZS Z 7 (p46 Z) zjq zjr zQ.fVLs)
  (zGr : ZS Z 5 (fun r x=>r = y4m x) zjs zjt zQ.fHealth)
  (zGs : ZS Z 3 (y4a Z) zju zjv zQ.fCauses)
  (zGt : ZS Z 4 (fun r x=>r = y4n x) zjw zjx zQ.fVersions)
  (zyv : ZS Z 3 (fun r x=>r = e62 x) z4q z4r zj) :
  Calls Tryz.prog 29 #[(.agg #[(.slice zji zQ.fModules.length zjj),(.slice zjk zQ.fChannels.length zjl),(.slice zjm zQ.fSwitches.length zjn),(.slice zjo zQ.fLinks.length zjp),(.slice zjq zQ.fVLs.length zjr),(.slice zjs zQ.fHealth.length zjt),(.slice zju zQ.fCauses.length zjv),(.slice zjw zQ.fVersions.length zjx)]),(.int .i64 z4p),(.slice z4q zj.length z4r)] w₀ fun e w'=>e = .returned (.bool r) ∧ Hp [] w₀ w' []:=by
 unfold y4J at h
 refine Calls.on3 Tryz.func29 Tryz.ntmps29 ?_
 refine WC.b (WC.a ?_)
 refine WL.nA 3 (yH (cs:=[(.slice zji zQ.fModules.length zjj),(.slice zjk zQ.fChannels.length zjl),(.slice zjm zQ.fSwitches.length zjn),(.slice zjo zQ.fLinks.length zjp),(.slice zjq zQ.fVLs.length zjr),(.slice zjs zQ.fHealth.length zjt),(.slice zju zQ.fCauses.length zjv),(.slice zjw zQ.fVersions.length zjx)]) rfl rfl) ?_
 intro z9C _
 refine WL.pu rfl (WL.nil (WX.a (WC.b (WC.a ?_))))
 refine WL.nA 10 (y3e (Value.int .i64) (Value.int .i64)) ?_
 intro z9D _
 refine WL.pu rfl (WL.nil (WX.a ?_))
 obtain ⟨z9B,zGu,h⟩:=y1u h
 refine WC.y1g ((z9B = some r)) ([(2,(.slice z4q zj.length z4r))]) ([]) ?_ ?_
 ·skip
  refine WC.b (WC.a (WL.pu rfl ?_))
  refine WL.qA 12 (yE Tryz.underlying48 rfl) ?_
  refine WL.pu rfl (WL.nil (WX.a (WC.block ?_)))
  refine WC.y6R (fun (zfU : Nat) (zp : Int) (z4X : List (Int × Int))=>(y2d zj zQ z4p z9B zfU zp z4X = some r)) (fun zfU zp z4X=>[(1,(.int .i64 z4p)),(2,(.slice z4q zj.length z4r)),(3,(.pointer (some ⟨z9C,0,none⟩))),(7,(.map (some z9D))),(11,(.slice z4q zj.length z4r)),(12,(.int .i64 ((zj.length : Nat) : Int))),(13,(.int .i64 zp))]) (fun zfU zp z4X=>[stb z9C 31 [(.slice zji zQ.fModules.length zjj),(.slice zjk zQ.fChannels.length zjl),(.slice zjm zQ.fSwitches.length zjn),(.slice zjo zQ.fLinks.length zjp),(.slice zjq zQ.fVLs.length zjr),(.slice zjs zQ.fHealth.length zjt),(.slice zju zQ.fCauses.length zjv),(.slice zjw zQ.fVersions.length zjx)],yr z9D (Value.int .i64) (Value.int .i64) z4X]) (fun zfU zp z4X=>zfU) ⟨yB,0,([] : List (Int × Int))⟩ h (.cons rfl (.cons rfl (.cons rfl (.cons rfl (.cons rfl (.cons rfl (.cons rfl .nil))))))) (.cons .h1 (.cons .here .nil)) ?_
  rintro zfU zp z4X h
  obtain ⟨zqr,rfl⟩:=y8J h
  rw [y2d] at h
  refine WC.b (WC.a (WL.pu rfl (WL.nil (WX.a (WC.b ?_)))))
  refine WC.cond rfl (fun zqt=>?_) (fun zqt=>?_)
  ·replace h:=yn h zqt
   refine WC.skip (WX.a (WC.b (WC.block (WC.b ?_))))
   obtain ⟨zGv,h⟩:=yq h
   refine WC.a (WL.pu rfl ?_)
   refine WL.znth (dd:=16) rfl rfl (Z:=Z) (Pr:=(fun r x=>r = e62 x)) y3J rfl rfl zyv zGv ?_
   rintro zV0 zV1 zGw zV2 rfl
   refine WL.qA 17 (yg y2g rfl (y1A hz.pv zGw) rfl) ?_
   refine WL.nA 9 (yv (cs:=[(.int .i64 0),(.int .i64 0),(.int .i64 0)]) y3E rfl) ?_
   intro ze0 _
   refine WL.pu rfl ?_
   refine WL.ym rfl rfl (yl y3Q rfl rfl rfl .here rfl rfl rfl) ?_
   refine WL.nil (WX.a ?_)
   obtain ⟨zmu,zGx,h⟩:=yU h
   refine WC.y2P (fun (z1R : List (Int × Int))=>(zmu z1R = some r)) (fun z1R=>[(1,(.int .i64 z4p)),(2,(.slice z4q zj.length z4r)),(3,(.pointer (some ⟨z9C,0,none⟩))),(7,(.map (some z9D))),(8,(.int .i64 zp)),(9,(.pointer (some ⟨ze0,0,none⟩))),(11,(.slice z4q zj.length z4r)),(12,(.int .i64 ((zj.length : Nat) : Int))),(13,(.int .i64 zp))]) (fun z1R=>[stb z9C 31 [(.slice zji zQ.fModules.length zjj),(.slice zjk zQ.fChannels.length zjl),(.slice zjm zQ.fSwitches.length zjn),(.slice zjo zQ.fLinks.length zjp),(.slice zjq zQ.fVLs.length zjr),(.slice zjs zQ.fHealth.length zjt),(.slice zju zQ.fCauses.length zjv),(.slice zjw zQ.fVersions.length zjx)],yr z9D (Value.int .i64) (Value.int .i64) z1R,stb ze0 62 [(.int .i64 ((nth zj zp).fNode)),(.int .i64 ((nth zj zp).fNext)),(.int .i64 ((nth zj zp).fLink))]]) ?_ ?_
   ·skip
    refine WC.b (WC.a (WL.pu rfl (WL.pu rfl (WL.nil (WX.a ?_)))))
    refine WC.cond rfl (fun zqu=>?_) (fun zqu=>?_)
    ·replace h:=yn h zqu
     refine WC.a (WL.pu rfl ?_)
     refine WL.qA 21 (ya y2C rfl rfl) ?_
     refine WL.qA 22 (yc yt rfl (yk .here rfl)) ?_
     refine WL.qA 23 (y1J (k:=((nth zj zp).fNode)) (dflt:=(0 : Int)) y4G Tryz.underlying145 y2D rfl rfl rfl .h2) ?_
     refine WL.pu rfl ?_
     refine WL.ym rfl rfl (y3m (k:=((nth zj zp).fNode)) (v:=i64 ((yp z4X ((nth zj zp).fNode) 0) + 1)) y4G Tryz.underlying145 rfl rfl rfl rfl .h2) ?_
     refine WL.nil ?_
     exact WX.mid (G:=(List (Int × Int))) (yG z4X ((nth zj zp).fNode) (i64 ((yp z4X ((nth zj zp).fNode) 0) + 1))) h (.cons rfl (.cons rfl (.cons rfl (.cons rfl (.cons rfl (.cons rfl (.cons rfl (.cons rfl (.cons rfl .nil))))))))) (.cons .h2 (.cons .here (.cons .here .nil)))
    ·replace h:=yo h zqu
     refine WC.skip ?_
     exact WX.mid (G:=(List (Int × Int))) z4X h (.cons rfl (.cons rfl (.cons rfl (.cons rfl (.cons rfl (.cons rfl (.cons rfl (.cons rfl (.cons rfl .nil))))))))) (.cons .h1 (.cons .h1 (.cons .here .nil)))
   ·rintro z1R h
    replace h:=(zGx z1R).symm.trans h
    refine WC.b (WC.b ?_)
    obtain ⟨zGy,h⟩:=yq h
    obtain ⟨zqs,zyw,h⟩:=z7 h
    refine WC.yL (fun i=>[].contains i) [] rfl ?_
    refine WD.pA 0 25 rfl (fun _=>q_m rfl) ?_
    refine WD.pA 1 26 rfl (fun _=>ya y2C rfl rfl) ?_
    refine WD.qA 2 27 rfl (yc yt rfl (yk .h2 rfl)) ?_
    refine WD.qA 3 28 rfl (y1J (k:=((nth zj zp).fNode)) (dflt:=(0 : Int)) y4G Tryz.underlying145 y2D rfl rfl rfl .h1) ?_
    refine WD.pA 4 29 rfl (fun _=>y8e rfl rfl) ?_
    refine WD.pA 5 30 rfl (fun _=>q_m rfl) ?_
    refine WD.mid (fuel':=33) [(1,(.int .i64 z4p)),(2,(.slice z4q zj.length z4r)),(3,(.pointer (some ⟨z9C,0,none⟩))),(7,(.map (some z9D))),(8,(.int .i64 zp)),(9,(.pointer (some ⟨ze0,0,none⟩))),(11,(.slice z4q zj.length z4r)),(12,(.int .i64 ((zj.length : Nat) : Int))),(13,(.int .i64 zp)),(30,(.bool (decide ((yp z1R ((nth zj zp).fNode) 0) = 0)))),(36,(.bool ((decide ((yp z1R ((nth zj zp).fNode) 0) = 0)) || (decide ((yp z1R ((nth zj zp).fNext) 0) > 0)))))] (y29 45 [11,10,9,8,7,6,5,4,3,2,1,0]) ?_ (fun zyx=>?_)
    rotate_left
    ·rcases Bool.eq_false_or_eq_true (decide ((yp z1R ((nth zj zp).fNode) 0) = 0)) with hb' | hb'
     ·have zqv:=hb'; clear hb'
      refine WD.pin (i:=30) rfl zqv ?_
      refine WD.kA 6 31 rfl ?_
      refine WD.kA 7 32 rfl ?_
      refine WD.kA 8 33 rfl ?_
      refine WD.kA 9 34 rfl ?_
      refine WD.kA 10 35 rfl ?_
      refine WD.pA 11 36 rfl (fun _=>y2y rfl rfl) ?_
      refine WD.reL (.cons .here (.cons .here (.cons .here .nil))) ?_ zyx
      exact (.cons rfl (.cons rfl (.cons rfl (.cons rfl (.cons rfl (.cons rfl (.cons rfl (.cons rfl (.cons rfl (.cons (zx (Eq.symm zqv)) (.cons (zx (y67 zqv)) .nil)))))))))))
     ·have zqw:=hb'; clear hb'
      refine WD.pin (i:=30) rfl zqw ?_
      refine WD.pA 6 31 rfl (fun _=>q_m rfl) ?_
      refine WD.pA 7 32 rfl (fun _=>ya y4h rfl rfl) ?_
      refine WD.qA 8 33 rfl (yc yt rfl (yk .h2 rfl)) ?_
      refine WD.qA 9 34 rfl (y1J (k:=((nth zj zp).fNext)) (dflt:=(0 : Int)) y4G Tryz.underlying145 y2D rfl rfl rfl .h1) ?_
      refine WD.pA 10 35 rfl (fun _=>yaG rfl rfl) ?_
      refine WD.pA 11 36 rfl (fun _=>y2z rfl rfl) ?_
      refine WD.reL (.cons .here (.cons .here (.cons .here .nil))) ?_ zyx
      exact (.cons rfl (.cons rfl (.cons rfl (.cons rfl (.cons rfl (.cons rfl (.cons rfl (.cons rfl (.cons rfl (.cons (zx (Eq.symm zqw)) (.cons (zx (y68 zqw)) .nil)))))))))))
    refine WD.d #[true,true,true,true,true,true,true,true,true,true,true,true,false,false,false,false,false,false,false,false,false,false,false,false,false,false,false,false,false,false,false,false,false,false,false,false,false,false,false,false,false,false,false,false,false] (by kernel_rfl) ?_
    refine WD.pA 12 37 rfl (fun _=>q_m rfl) ?_
    refine WD.mid (fuel':=12) [(1,(.int .i64 z4p)),(2,(.slice z4q zj.length z4r)),(3,(.pointer (some ⟨z9C,0,none⟩))),(7,(.map (some z9D))),(9,(.pointer (some ⟨ze0,0,none⟩))),(11,(.slice z4q zj.length z4r)),(12,(.int .i64 ((zj.length : Nat) : Int))),(13,(.int .i64 zp)),(37,(.bool ((decide ((yp z1R ((nth zj zp).fNode) 0) = 0)) || (decide ((yp z1R ((nth zj zp).fNext) 0) > 0))))),(57,(.bool (((decide ((yp z1R ((nth zj zp).fNode) 0) = 0)) || (decide ((yp z1R ((nth zj zp).fNext) 0) > 0))) || (((decide (zp > 0)) && (decide (((nth zj zp).fNode) ≠ ((nth zj 0).fNode)))) && (decide (((nth zj zp).fNode) < ((zQ.fModules.length : Nat) : Int)))))))] (y29 45 [32,31,30,29,28,27,26,25,24,23,22,21,20,19,18,17,16,15,14,13,12,11,10,9,8,7,6,5,4,3,2,1,0]) ?_ (fun zyy=>?_)
    rotate_left
    ·rcases Bool.eq_false_or_eq_true ((decide ((yp z1R ((nth zj zp).fNode) 0) = 0)) || (decide ((yp z1R ((nth zj zp).fNext) 0) > 0))) with hb' | hb'
     ·have zqx:=hb'; clear hb'
      refine WD.pin (i:=37) rfl zqx ?_
      refine WD.kA 13 38 rfl ?_
      refine WD.kA 14 39 rfl ?_
      refine WD.kA 15 40 rfl ?_
      refine WD.kA 16 41 rfl ?_
      refine WD.kA 17 42 rfl ?_
      refine WD.kA 18 43 rfl ?_
      refine WD.kA 19 44 rfl ?_
      refine WD.kA 20 45 rfl ?_
      refine WD.kA 21 46 rfl ?_
      refine WD.kA 22 47 rfl ?_
      refine WD.kA 23 48 rfl ?_
      refine WD.kA 24 49 rfl ?_
      refine WD.kA 25 50 rfl ?_
      refine WD.kA 26 51 rfl ?_
      refine WD.kA 27 52 rfl ?_
      refine WD.kA 28 53 rfl ?_
      refine WD.kA 29 54 rfl ?_
      refine WD.kA 30 55 rfl ?_
      refine WD.kA 31 56 rfl ?_
      refine WD.pA 32 57 rfl (fun _=>y2y rfl rfl) ?_
      refine WD.reL (.cons .here (.cons .here (.cons .here .nil))) ?_ zyy
      exact (.cons rfl (.cons rfl (.cons rfl (.cons rfl (.cons rfl (.cons rfl (.cons rfl (.cons rfl (.cons (zx (Eq.symm zqx)) (.cons (zx (y67 zqx)) .nil))))))))))
     ·have zmv:=hb'; clear hb'
      have zGz:=zGy zmv
      refine WD.pin (i:=37) rfl zmv ?_
      refine WD.pA 13 38 rfl (fun _=>q_m rfl) ?_
      refine WD.pA 14 39 rfl (fun _=>yaG rfl rfl) ?_
      refine WD.pA 15 40 rfl (fun _=>q_m rfl) ?_
      refine WD.mid (fuel':=21) [(1,(.int .i64 z4p)),(2,(.slice z4q zj.length z4r)),(3,(.pointer (some ⟨z9C,0,none⟩))),(7,(.map (some z9D))),(9,(.pointer (some ⟨ze0,0,none⟩))),(11,(.slice z4q zj.length z4r)),(12,(.int .i64 ((zj.length : Nat) : Int))),(13,(.int .i64 zp)),(37,(.bool false)),(40,(.bool (decide (zp > 0)))),(48,(.bool ((decide (zp > 0)) && (decide (((nth zj zp).fNode) ≠ ((nth zj 0).fNode))))))] (y29 45 [23,22,21,20,19,18,17,16,15,14,13,12,11,10,9,8,7,6,5,4,3,2,1,0]) ?_ (fun zyz=>?_)
      rotate_left
      ·rcases Bool.eq_false_or_eq_true (decide (zp > 0)) with hb' | hb'
       ·have zmw:=hb'; clear hb'
        have zGA:=zGz zmw
        refine WD.pin (i:=40) rfl zmw ?_
        refine WD.pA 16 41 rfl (fun _=>ya y2C rfl rfl) ?_
        refine WD.qA 17 42 rfl (yc yt rfl (yk .h2 rfl)) ?_
        refine WD.pA 18 43 rfl (fun _=>q_m rfl) ?_
        refine WD.znth (j:=19) (dd:=44) (by kernel_rfl) rfl z2E z2F rfl rfl (Z:=Z) (Pr:=(fun r x=>r = e62 x)) y3J rfl rfl zyv zGA ?_
        rintro zV3 zV4 zGB zV5 rfl
        refine WD.pA 20 45 rfl (fun _=>ya y2C rfl rfl) ?_
        refine WD.qA 21 46 rfl (yc yt rfl (y11 hz.pv zGB rfl)) ?_
        refine WD.pA 22 47 rfl (fun _=>q_neq rfl rfl) ?_
        refine WD.pA 23 48 rfl (fun _=>y2y rfl rfl) ?_
        refine WD.reL (.cons .here (.cons .here (.cons .here .nil))) ?_ zyz
        exact (.cons rfl (.cons rfl (.cons rfl (.cons rfl (.cons rfl (.cons rfl (.cons rfl (.cons rfl (.cons rfl (.cons (zx (Eq.symm zmw)) (.cons (zx (y2c zmw)) .nil)))))))))))
       ·have zqy:=hb'; clear hb'
        refine WD.pin (i:=40) rfl zqy ?_
        refine WD.kA 16 41 rfl ?_
        refine WD.kA 17 42 rfl ?_
        refine WD.kA 18 43 rfl ?_
        refine WD.kA 19 44 rfl ?_
        refine WD.kA 20 45 rfl ?_
        refine WD.kA 21 46 rfl ?_
        refine WD.kA 22 47 rfl ?_
        refine WD.pA 23 48 rfl (fun _=>y2z rfl rfl) ?_
        refine WD.reL (.cons .here (.cons .here (.cons .here .nil))) ?_ zyz
        exact (.cons rfl (.cons rfl (.cons rfl (.cons rfl (.cons rfl (.cons rfl (.cons rfl (.cons rfl (.cons rfl (.cons (zx (Eq.symm zqy)) (.cons (zx (y2b zqy)) .nil)))))))))))
      refine WD.d #[true,true,true,true,true,true,true,true,true,true,true,true,true,true,true,true,true,true,true,true,true,true,true,true,false,false,false,false,false,false,false,false,false,false,false,false,false,false,false,false,false,false,false,false,false] (by kernel_rfl) ?_
      refine WD.pA 24 49 rfl (fun _=>q_m rfl) ?_
      refine WD.mid (fuel':=13) [(1,(.int .i64 z4p)),(2,(.slice z4q zj.length z4r)),(3,(.pointer (some ⟨z9C,0,none⟩))),(7,(.map (some z9D))),(9,(.pointer (some ⟨ze0,0,none⟩))),(11,(.slice z4q zj.length z4r)),(12,(.int .i64 ((zj.length : Nat) : Int))),(13,(.int .i64 zp)),(37,(.bool false)),(49,(.bool ((decide (zp > 0)) && (decide (((nth zj zp).fNode) ≠ ((nth zj 0).fNode)))))),(56,(.bool (((decide (zp > 0)) && (decide (((nth zj zp).fNode) ≠ ((nth zj 0).fNode)))) && (decide (((nth zj zp).fNode) < ((zQ.fModules.length : Nat) : Int))))))] (y29 45 [31,30,29,28,27,26,25,24,23,22,21,20,19,18,17,16,15,14,13,12,11,10,9,8,7,6,5,4,3,2,1,0]) ?_ (fun zyA=>?_)
      rotate_left
      ·rcases Bool.eq_false_or_eq_true ((decide (zp > 0)) && (decide (((nth zj zp).fNode) ≠ ((nth zj 0).fNode)))) with hb' | hb'
       ·have zqz:=hb'; clear hb'
        refine WD.pin (i:=49) rfl zqz ?_
        refine WD.pA 25 50 rfl (fun _=>ya y2C rfl rfl) ?_
        refine WD.qA 26 51 rfl (yc yt rfl (yk .h2 rfl)) ?_
        refine WD.pA 27 52 rfl (fun _=>ya y6l rfl rfl) ?_
        refine WD.qA 28 53 rfl (yc y6m rfl (yk .here rfl)) ?_
        refine WD.pA 29 54 rfl (fun _=>yE Tryz.underlying22 rfl) ?_
        refine WD.pA 30 55 rfl (fun _=>q_lss rfl rfl) ?_
        refine WD.pA 31 56 rfl (fun _=>y2y rfl rfl) ?_
        refine WD.reL (.cons .here (.cons .here (.cons .here .nil))) ?_ zyA
        exact (.cons rfl (.cons rfl (.cons rfl (.cons rfl (.cons rfl (.cons rfl (.cons rfl (.cons rfl (.cons rfl (.cons (zx (Eq.symm zqz)) (.cons (zx (y2c zqz)) .nil)))))))))))
       ·have zqA:=hb'; clear hb'
        refine WD.pin (i:=49) rfl zqA ?_
        refine WD.kA 25 50 rfl ?_
        refine WD.kA 26 51 rfl ?_
        refine WD.kA 27 52 rfl ?_
        refine WD.kA 28 53 rfl ?_
        refine WD.kA 29 54 rfl ?_
        refine WD.kA 30 55 rfl ?_
        refine WD.pA 31 56 rfl (fun _=>y2z rfl rfl) ?_
        refine WD.reL (.cons .here (.cons .here (.cons .here .nil))) ?_ zyA
        exact (.cons rfl (.cons rfl (.cons rfl (.cons rfl (.cons rfl (.cons rfl (.cons rfl (.cons rfl (.cons rfl (.cons (zx (Eq.symm zqA)) (.cons (zx (y2b zqA)) .nil)))))))))))
      refine WD.d #[true,true,true,true,true,true,true,true,true,true,true,true,true,true,true,true,true,true,true,true,true,true,true,true,true,true,true,true,true,true,true,true,false,false,false,false,false,false,false,false,false,false,false,false,false] (by kernel_rfl) ?_
      refine WD.pA 32 57 rfl (fun _=>y2z rfl rfl) ?_
      refine WD.reL (.cons .here (.cons .here (.cons .here .nil))) ?_ zyy
      exact (.cons rfl (.cons rfl (.cons rfl (.cons rfl (.cons rfl (.cons rfl (.cons rfl (.cons rfl (.cons (zx (Eq.symm zmv)) (.cons (zx (y68 zmv)) .nil))))))))))
    refine WD.d #[true,true,true,true,true,true,true,true,true,true,true,true,true,true,true,true,true,true,true,true,true,true,true,true,true,true,true,true,true,true,true,true,true,false,false,false,false,false,false,false,false,false,false,false,false] (by kernel_rfl) ?_
    refine WD.pA 33 58 rfl (fun _=>q_m rfl) ?_
    refine WD.mid (fuel':=0) [(1,(.int .i64 z4p)),(2,(.slice z4q zj.length z4r)),(3,(.pointer (some ⟨z9C,0,none⟩))),(7,(.map (some z9D))),(9,(.pointer (some ⟨ze0,0,none⟩))),(11,(.slice z4q zj.length z4r)),(12,(.int .i64 ((zj.length : Nat) : Int))),(13,(.int .i64 zp)),(58,(.bool (((decide ((yp z1R ((nth zj zp).fNode) 0) = 0)) || (decide ((yp z1R ((nth zj zp).fNext) 0) > 0))) || (((decide (zp > 0)) && (decide (((nth zj zp).fNode) ≠ ((nth zj 0).fNode)))) && (decide (((nth zj zp).fNode) < ((zQ.fModules.length : Nat) : Int))))))),(69,(.bool zqs))] (y29 45 [44,43,42,41,40,39,38,37,36,35,34,33,32,31,30,29,28,27,26,25,24,23,22,21,20,19,18,17,16,15,14,13,12,11,10,9,8,7,6,5,4,3,2,1,0]) ?_ (fun zyB=>?_)
    rotate_left
    ·rcases Bool.eq_false_or_eq_true (((decide ((yp z1R ((nth zj zp).fNode) 0) = 0)) || (decide ((yp z1R ((nth zj zp).fNext) 0) > 0))) || (((decide (zp > 0)) && (decide (((nth zj zp).fNode) ≠ ((nth zj 0).fNode)))) && (decide (((nth zj zp).fNode) < ((zQ.fModules.length : Nat) : Int))))) with hb' | hb'
     ·have zqB:=hb'; clear hb'
      have zqC:=yn zyw zqB
      replace zqC:=Option.some.inj zqC
      refine WD.pin (i:=58) rfl zqB ?_
      refine WD.kA 34 59 rfl ?_
      refine WD.kA 35 60 rfl ?_
      refine WD.kA 36 61 rfl ?_
      refine WD.kA 37 62 rfl ?_
      refine WD.kA 38 63 rfl ?_
      refine WD.kA 39 64 rfl ?_
      refine WD.kA 40 65 rfl ?_
      refine WD.kA 41 66 rfl ?_
      refine WD.kA 42 67 rfl ?_
      refine WD.kA 43 68 rfl ?_
      refine WD.pA 44 69 rfl (fun _=>y2y rfl rfl) ?_
      refine WD.reL (.cons .here (.cons .here (.cons .here .nil))) ?_ zyB
      exact (.cons rfl (.cons rfl (.cons rfl (.cons rfl (.cons rfl (.cons rfl (.cons rfl (.cons rfl (.cons (zx (Eq.symm zqB)) (.cons (zx zqC) .nil))))))))))
     ·have zqD:=hb'; clear hb'
      have zjy:=yo zyw zqD
      obtain ⟨zyu,zGC,zjy⟩:=z7 zjy
      replace zjy:=Option.some.inj zjy
      refine WD.pin (i:=58) rfl zqD ?_
      refine WD.qA 34 59 rfl (yg y2B rfl (yh .here) rfl) ?_
      refine WD.pA 35 60 rfl (fun _=>q_m rfl) ?_
      refine WD.pA 36 61 rfl (fun _=>ya y6n rfl rfl) ?_
      refine WD.qA 37 62 rfl (yc yt rfl (yk .h2 rfl)) ?_
      refine WD.pA 38 63 rfl (fun _=>ya y2C rfl rfl) ?_
      refine WD.qA 39 64 rfl (yc yt rfl (yk .h2 rfl)) ?_
      refine WD.pA 40 65 rfl (fun _=>ya y4h rfl rfl) ?_
      refine WD.qA 41 66 rfl (yc yt rfl (yk .h2 rfl)) ?_
      refine WD.eA 42 67 rfl (za (l:=[.tmp 59,.tmp 60,.tmp 62,.tmp 64,.tmp 66]) Tryz.call56 (.cons rfl (.cons rfl (.cons rfl (.cons rfl (.cons rfl .nil)))))) (cc hz .nil fun w pz ho=>ybs _ _ _ _ _ _ _ _ _ _ _ _ _ _ _ _ _ _ _ _ _ _ _ zGC w pz zGm zGn zGo zGp zGq zGr zGs zGt) ?_
      refine WD.pA 43 68 rfl (fun _=>q_not rfl) ?_
      refine WD.pA 44 69 rfl (fun _=>y2z rfl rfl) ?_
      refine WD.reL (.cons .here (.cons .here (.cons .here .nil))) ?_ zyB
      exact (.cons rfl (.cons rfl (.cons rfl (.cons rfl (.cons rfl (.cons rfl (.cons rfl (.cons rfl (.cons (zx (Eq.symm zqD)) (.cons (zx zjy) .nil))))))))))
    refine WD.d #[true,true,true,true,true,true,true,true,true,true,true,true,true,true,true,true,true,true,true,true,true,true,true,true,true,true,true,true,true,true,true,true,true,true,true,true,true,true,true,true,true,true,true,true,true] (by kernel_rfl) ?_
    refine WD.done (by kernel_rfl) ?_
    refine WX.a ?_
    refine WC.cond rfl (fun zqE=>?_) (fun zqE=>?_)
    ·replace h:=yn h zqE
     refine WC.b (WC.a (WL.pu rfl (WL.nil (WX.a (WC.ret (WX.yd (WX.ys (WX.yd (WX.yd (WX.ys (WX.yd ?_)))))))))))
     obtain rfl:=Option.some.inj h
     refine WX.ye Tryz.results29 (.tmp rfl .nil) (fun w hw=>?_)
     exact ⟨yD rfl,hw.sub .nil⟩
    ·replace h:=yo h zqE
     refine WC.skip (WX.a (WC.a (WL.pu rfl ?_)))
     refine WL.qA 71 (ya y4h rfl rfl) ?_
     refine WL.qA 72 (yc yt rfl (yk .h2 rfl)) ?_
     refine WL.qA 73 (y1J (k:=((nth zj zp).fNext)) (dflt:=(0 : Int)) y4G Tryz.underlying145 y2D rfl rfl rfl .h1) ?_
     refine WL.pu rfl ?_
     refine WL.ym rfl rfl (y3m (k:=((nth zj zp).fNext)) (v:=i64 ((yp z1R ((nth zj zp).fNext) 0) + 1)) y4G Tryz.underlying145 rfl rfl rfl rfl .h1) ?_
     refine WL.nil (WX.yj (WX.a (WC.a (WL.pu rfl (WL.pu rfl (WL.nil ?_))))))
     exact WX.round (G:=Nat × Int × (List (Int × Int))) ⟨zqr,(i64 (zp + 1)),(yG z1R ((nth zj zp).fNext) (i64 ((yp z1R ((nth zj zp).fNext) 0) + 1)))⟩ h (Nat.lt_succ_self _) (.cons rfl (.cons rfl (.cons rfl (.cons rfl (.cons rfl (.cons rfl (.cons rfl .nil))))))) (.cons .h1 (.cons .here .nil))
  ·replace h:=yo h zqt
   refine WC.exit (WX.yf (WX.yf (WX.yz ?_)))
   exact WX.mid (G:=Unit) () h (.cons rfl .nil) .nil
 ·rintro  h
  replace h:=zGu.symm.trans h
  refine WC.b (WC.a (WL.pu rfl ?_))
  refine WL.qA 77 (yE Tryz.underlying48 rfl) ?_
  refine WL.pu rfl (WL.pu rfl (WL.nil (WX.a (WC.ret ?_))))
  obtain rfl:=Option.some.inj h
  refine WX.ye Tryz.results29 (.tmp rfl .nil) (fun w hw=>?_)
  exact ⟨yD rfl,hw.sub .nil⟩
def y12 (zjz : List Sapi_Hop) (z3J : Sapi_Config) (zmx : Int) : Option Bool :=
 (y4J z3J zmx zjz).bind fun zyC=>some (!zyC)
set_option maxRecDepth 20000 in
theorem yaP (Z : Zp) (zyD : Option Addr) (zyE : Nat) (zyF : Addr) (zyG : Option Addr) (zyH : Nat) (zyI : Option Addr) (zyJ : Nat) (zyK : Option Addr) (zyL : Nat) (zyM : Option Addr) (zyN : Nat) (zyO : Option Addr) (zyP : Nat) (zyQ : Option Addr) (zyR : Nat) (zyS : Option Addr) (zyT : Nat) (zyU : Option Addr) (zyV : Nat) (zyW : Addr) (zjz : List Sapi_Hop) (z3J : Sapi_Config) (zmx : Int) (r : Bool)
  (h : y12 zjz z3J zmx = some r) (w₀ : World) (hz : PZ [] w₀ Z)
  (zGD : ZS Z 3 (fun r x=>r = e62 x) zyD zyE zjz)
  (zGE : ZS Z 4 (y3y Z) zyG zyH z3J.fModules)
  (zGF : ZS Z 4 (y49 Z) zyI zyJ z3J.fChannels)
  (zGG : ZS Z 4 (fun r x=>r = e66 x) zyK zyL z3J.fSwitches)
  (zGH : ZS Z 4 (fun r x=>r = e64 x) zyM zyN z3J.fLinks)
  (zGI : ZS Z 7 (p46 Z) zyO zyP z3J.fVLs)
  (zGJ : ZS Z 5 (fun r x=>r = y4m x) zyQ zyR z3J.fHealth)
  (zGK : ZS Z 3 (y4a Z) zyS zyT z3J.fCauses)
  (zGL : ZS Z 4 (fun r x=>r = y4n x) zyU zyV z3J.fVersions)
  (zGM : ZC Z zyF [(.slice zyG z3J.fModules.length zyH),(.slice zyI z3J.fChannels.length zyJ),(.slice zyK z3J.fSwitches.length zyL),(.slice zyM z3J.fLinks.length zyN),(.slice zyO z3J.fVLs.length zyP),(.slice zyQ z3J.fHealth.length zyR),(.slice zyS z3J.fCauses.length zyT),(.slice zyU z3J.fVersions.length zyV)])
  (zGN : ZC Z zyW [(.int .i64 zmx)]) :
  Calls Tryz.prog 28 #[(.slice zyD zjz.length zyE),(.pointer (some zyF)),(.pointer (some zyW))] w₀ fun e w'=>e = .returned (.bool r) ∧ Hp [] w₀ w' []:=by
 unfold y12 at h
 refine Calls.on3 Tryz.func28 Tryz.ntmps28 ?_
 refine WC.b (WC.a (WL.pu rfl (WL.nil (WX.a (WC.b ?_)))))
 obtain ⟨zyC,zGO,h⟩:=z7 h
 refine WC.a ?_
 refine WL.qA 5 (yg y2B rfl (y1A hz.pv zGM) rfl) ?_
 refine WL.qA 6 (yc yt rfl (y48 hz.pv zGN rfl)) ?_
 refine WL.pu rfl ?_
 refine WL.cA 8 (za (l:=[.tmp 5,.tmp 6,.tmp 7]) Tryz.call29 (.cons rfl (.cons rfl (.cons rfl .nil)))) .nil (cc hz .nil fun w pz ho=>ybt _ _ _ _ _ _ _ _ _ _ _ _ _ _ _ _ _ _ _ _ _ _ _ zGO w pz zGE zGF zGG zGH zGI zGJ zGK zGL zGD) ?_
 refine WL.pu rfl (WL.pu rfl (WL.nil (WX.a (WC.ret ?_))))
 obtain rfl:=Option.some.inj h
 refine WX.ye Tryz.results28 (.tmp rfl .nil) (fun w hw=>?_)
 exact ⟨yD rfl,hw.sub .nil⟩
def yK (z4Y : List (List Sapi_Hop)) (z7M : (List Sapi_Hop) → Option Bool) (z9E : Option Int) : Nat → Int → Option Int
 | 0,_=>none
 | zqF + 1,z4s=>if decide (z4s < ((z4Y.length : Nat) : Int)) then chk ((0 : Int) ≤ z4s ∧ z4s < ((z4Y.length : Nat) : Int)) ((z7M (nth z4Y z4s)).bind fun zqG=>if zqG then some z4s else yK z4Y z7M z9E zqF (i64 (z4s + 1))) else z9E
theorem y4y {n : Nat} {z4Y : List (List Sapi_Hop)} {z7M : (List Sapi_Hop) → Option Bool} {z9E : Option Int} {z4s : Int} {r : Int} (h : yK z4Y z7M z9E n z4s = some r) : ∃ m,n = m + 1:=by
 cases n with
 | zero=>cases h
 | succ m=>exact ⟨m,rfl⟩
def y1E (z4Y : List (List Sapi_Hop)) (z7M : (List Sapi_Hop) → Option Bool) : Option Int :=
 jp0 (some (-1)) fun z9E=>yK z4Y z7M z9E yB 0
set_option maxRecDepth 20000 in
theorem y5P (Z : Zp) (zqH : Option Addr) (zqI : Nat) (ze1 : FuncId) (zjA : List Value) (z4Y : List (List Sapi_Hop)) (z7M : (List Sapi_Hop) → Option Bool) (r : Int)
  (h : y1E z4Y z7M = some r) (w₀ : World) (hz : PZ [] w₀ Z)
  (zGP : ZS Z 1 (p48 Z) zqH zqI z4Y)
  (zGQ : ∀ args w,(callFunc ze1 args).run Tryz.prog w = .ok (.enter ze1 args) w)
  (zGR : ∀ w : World,PZ [] w Z → ∀ (x0 : List Sapi_Hop) (ao0 : Option Addr) (cap0 : Nat) (r : Bool),ZS Z 3 (fun r x=>r = e62 x) ao0 cap0 x0 → z7M x0 = some r → Calls Tryz.prog ze1 (([(.slice ao0 x0.length cap0)] : List Value) ++ zjA).toArray w fun e w'=>e = .returned (.bool r) ∧ Hp [] w w' []) :
  Calls Tryz.prog 55 #[(.slice zqH z4Y.length zqI),(.func (.func ze1) #[] (zjA).toArray)] w₀ fun e w'=>e = .returned (.int .i64 r) ∧ Hp [] w₀ w' []:=by
 unfold y1E at h
 refine Calls.yJ Tryz.func55 Tryz.ntmps55 ?_
 refine WC.b (WC.a (WL.pu rfl (WL.nil (WX.a ?_))))
 obtain ⟨z9E,zGS,h⟩:=y1u h
 refine WC.y1g ((z9E = some r)) ([]) ([]) ?_ ?_
 ·skip
  refine WC.b (WC.a (WL.pu rfl ?_))
  refine WL.qA 7 (yE Tryz.underlying32 rfl) ?_
  refine WL.pu rfl (WL.nil (WX.a (WC.block ?_)))
  refine WC.y1S (fun (zfV : Nat) (z4s : Int)=>(yK z4Y z7M z9E zfV z4s = some r)) (fun zfV z4s=>[(0,(.slice zqH z4Y.length zqI)),(1,(.func (.func ze1) #[] (zjA).toArray)),(7,(.int .i64 ((z4Y.length : Nat) : Int))),(8,(.int .i64 z4s))]) (fun zfV z4s=>[]) (fun zfV z4s=>zfV) ⟨yB,0⟩ h (.cons rfl (.cons rfl (.cons rfl (.cons rfl .nil)))) .nil ?_
  rintro zfV z4s h
  obtain ⟨zqF,rfl⟩:=y4y h
  rw [yK] at h
  refine WC.b (WC.a (WL.pu rfl (WL.nil (WX.a (WC.b ?_)))))
  refine WC.cond rfl (fun zqJ=>?_) (fun zqJ=>?_)
  ·replace h:=yn h zqJ
   refine WC.skip (WX.a (WC.b (WC.block (WC.b (WC.a (WL.pu rfl (WL.pu rfl (WL.nil (WX.a (WC.b ?_))))))))))
   obtain ⟨zGT,h⟩:=yq h
   obtain ⟨zqG,zGU,h⟩:=z7 h
   refine WC.a (WL.pu rfl (WL.pu rfl (WL.pu rfl ?_)))
   refine WL.znth (dd:=14) rfl rfl (Z:=Z) (Pr:=(p48 Z)) y6L rfl rfl zGP zGT ?_
   rintro zV6 zV7 zGV zV8 ⟨zGW,zGX,rfl,zGY⟩
   refine WL.qA 15 (yc y5e rfl (y48 hz.pv zGV rfl)) ?_
   refine WL.cA 16 (y27 (l:=[.tmp 15]) (f:=ze1) (caps:=zjA) zGQ rfl (.cons rfl .nil)) .nil (fun w hw=>zGR w (hz.now hw) (nth z4Y z4s) zGW zGX zqG zGY zGU) ?_
   refine WL.nil (WX.a ?_)
   refine WC.cond rfl (fun zqK=>?_) (fun zqK=>?_)
   ·replace h:=yn h zqK
    refine WC.b (WC.a (WL.pu rfl (WL.pu rfl (WL.nil (WX.a (WC.ret (WX.ys (WX.yd (WX.yd (WX.ys (WX.yd ?_)))))))))))
    obtain rfl:=Option.some.inj h
    refine WX.ye Tryz.results55 (.tmp rfl .nil) (fun w hw=>?_)
    exact ⟨yD rfl,hw.sub .nil⟩
   ·replace h:=yo h zqK
    refine WC.skip (WX.yj (WX.a (WC.a (WL.pu rfl (WL.pu rfl (WL.nil ?_))))))
    exact WX.round (G:=Nat × Int) ⟨zqF,(i64 (z4s + 1))⟩ h (Nat.lt_succ_self _) (.cons rfl (.cons rfl (.cons rfl (.cons rfl .nil)))) .nil
  ·replace h:=yo h zqJ
   refine WC.exit (WX.yf (WX.yf (WX.yz ?_)))
   exact WX.mid (G:=Unit) () h .nil .nil
 ·rintro  h
  replace h:=zGS.symm.trans h
  refine WC.b (WC.a (WL.pu rfl (WL.nil (WX.a (WC.ret ?_)))))
  obtain rfl:=Option.some.inj h
  refine WX.ye Tryz.results55 (.tmp rfl .nil) (fun w hw=>?_)
  exact ⟨yD rfl,hw.sub .nil⟩
def y18 (zjB : List (List Sapi_Hop)) (ze2 : (List Sapi_Hop) → Option Bool) : Option Bool :=
 (y1E zjB ze2).bind fun zyX=>some (decide (zyX ≥ 0))
set_option maxRecDepth 20000 in
theorem y3k (Z : Zp) (zyY : Option Addr) (zyZ : Nat) (ze3 : FuncId) (zjC : List Value) (zjB : List (List Sapi_Hop)) (ze2 : (List Sapi_Hop) → Option Bool) (r : Bool)
  (h : y18 zjB ze2 = some r) (w₀ : World) (hz : PZ [] w₀ Z)
  (zGZ : ZS Z 1 (p48 Z) zyY zyZ zjB)
  (zH0 : ∀ args w,(callFunc ze3 args).run Tryz.prog w = .ok (.enter ze3 args) w)
  (zH1 : ∀ w : World,PZ [] w Z → ∀ (x0 : List Sapi_Hop) (ao0 : Option Addr) (cap0 : Nat) (r : Bool),ZS Z 3 (fun r x=>r = e62 x) ao0 cap0 x0 → ze2 x0 = some r → Calls Tryz.prog ze3 (([(.slice ao0 x0.length cap0)] : List Value) ++ zjC).toArray w fun e w'=>e = .returned (.bool r) ∧ Hp [] w w' []) :
  Calls Tryz.prog 27 #[(.slice zyY zjB.length zyZ),(.func (.func ze3) #[] (zjC).toArray)] w₀ fun e w'=>e = .returned (.bool r) ∧ Hp [] w₀ w' []:=by
 unfold y18 at h
 refine Calls.yJ Tryz.func27 Tryz.ntmps27 ?_
 refine WC.b (WC.a (WL.pu rfl (WL.nil (WX.a (WC.b ?_)))))
 obtain ⟨zyX,zH2,h⟩:=z7 h
 refine WC.a (WL.pu rfl (WL.pu rfl ?_))
 refine WL.cA 7 (za (l:=[.tmp 5,.tmp 6]) Tryz.call55 (.cons rfl (.cons rfl .nil))) .nil (cc hz .nil fun w pz ho=>y5P _ _ _ (ze1:=ze3) (zjA:=zjC) _ (z7M:=ze2) _ zH2 w pz zGZ zH0 zH1) ?_
 refine WL.pu rfl (WL.pu rfl (WL.nil (WX.a (WC.ret ?_))))
 obtain rfl:=Option.some.inj h
 refine WX.ye Tryz.results27 (.tmp rfl .nil) (fun w hw=>?_)
 exact ⟨yD rfl,hw.sub .nil⟩
def y3n (z1Q : Sapi_Config) (z5X : Int) (z8n : List (List Sapi_Hop)) : Option Bool :=
 (if (((decide (z5X = 0)) || (decide (z5X = 1))) && (decide (((z8n.length : Nat) : Int) = ((z1Q.fVLs.length : Nat) : Int)))) && (decide (((z8n.length : Nat) : Int) ≤ 16)) then (y18 z8n (fun (y0 : List Sapi_Hop)=>y12 y0 z1Q z5X)).bind fun zz0=>some (!zz0) else some false).bind fun zqL=>some zqL
set_option maxRecDepth 20000 in
theorem y7l (Z : Zp) (zqM : Option Addr) (zqN : Nat) (zqO : Option Addr) (zqP : Nat) (zqQ : Option Addr) (zqR : Nat) (zqS : Option Addr) (zqT : Nat) (zqU : Option Addr) (zqV : Nat) (zqW : Option Addr) (zqX : Nat) (zqY : Option Addr) (zqZ : Nat) (zr0 : Option Addr) (zr1 : Nat) (zz1 : Option Addr) (zz2 : Nat) (z1Q : Sapi_Config) (z5X : Int) (z8n : List (List Sapi_Hop)) (r : Bool)
  (h : y3n z1Q z5X z8n = some r) (w₀ : World) (hz : PZ [] w₀ Z)
  (zH3 : ZS Z 4 (y3y Z) zqM zqN z1Q.fModules)
  (zH4 : ZS Z 4 (y49 Z) zqO zqP z1Q.fChannels)
  (zH5 : ZS Z 4 (fun r x=>r = e66 x) zqQ zqR z1Q.fSwitches)
  (zH6 : ZS Z 4 (fun r x=>r = e64 x) zqS zqT z1Q.fLinks)
  (zH7 : ZS Z 7 (p46 Z) zqU zqV z1Q.fVLs)
  (zH8 : ZS Z 5 (fun r x=>r = y4m x) zqW zqX z1Q.fHealth)
  (zH9 : ZS Z 3 (y4a Z) zqY zqZ z1Q.fCauses)
  (zHa : ZS Z 4 (fun r x=>r = y4n x) zr0 zr1 z1Q.fVersions)
  (zHb : ZS Z 1 (p48 Z) zz1 zz2 z8n) :
  Calls Tryz.prog 12 #[(.agg #[(.slice zqM z1Q.fModules.length zqN),(.slice zqO z1Q.fChannels.length zqP),(.slice zqQ z1Q.fSwitches.length zqR),(.slice zqS z1Q.fLinks.length zqT),(.slice zqU z1Q.fVLs.length zqV),(.slice zqW z1Q.fHealth.length zqX),(.slice zqY z1Q.fCauses.length zqZ),(.slice zr0 z1Q.fVersions.length zr1)]),(.int .i64 z5X),(.slice zz1 z8n.length zz2)] w₀ fun e w'=>e = .returned (.bool r) ∧ Hp [] w₀ w' []:=by
 unfold y3n at h
 refine Calls.on3 Tryz.func12 Tryz.ntmps12 ?_
 refine WC.b (WC.a ?_)
 refine WL.nA 3 (yH (cs:=[(.slice zqM z1Q.fModules.length zqN),(.slice zqO z1Q.fChannels.length zqP),(.slice zqQ z1Q.fSwitches.length zqR),(.slice zqS z1Q.fLinks.length zqT),(.slice zqU z1Q.fVLs.length zqV),(.slice zqW z1Q.fHealth.length zqX),(.slice zqY z1Q.fCauses.length zqZ),(.slice zr0 z1Q.fVersions.length zr1)]) rfl rfl) ?_
 intro zHc _
 refine WL.nA 4 (yH (cs:=[(.int .i64 z5X)]) rfl rfl) ?_
 intro zHd _
 refine WL.pu rfl (WL.nil (WX.a (WC.b ?_)))
 obtain ⟨zqL,zz3,h⟩:=z7 h
 refine WC.a ?_
 refine WL.qA 7 (yc yt rfl (yk .here rfl)) ?_
 refine WL.pu rfl (WL.pu rfl ?_)
 refine WL.seg false 2 9 (B:=(decide (z5X = 0)) || (decide (z5X = 1))) rfl rfl rfl rfl rfl rfl (fun h=>(y67 h).symm) (fun _ zHe=>?_) ?_
 ·skip
  refine WL.qA 10 (yc yt rfl (yk .here rfl)) ?_
  refine WL.pu rfl (WL.pu rfl ?_)
  exact WL.yC (y68 zHe) rfl rfl .all
 refine WL.pu rfl ?_
 refine WL.seg true 6 13 (B:=((decide (z5X = 0)) || (decide (z5X = 1))) && (decide (((z8n.length : Nat) : Int) = ((z1Q.fVLs.length : Nat) : Int)))) rfl rfl rfl rfl rfl rfl (fun h=>(y2b h).symm) (fun _ zHf=>?_) ?_
 ·skip
  refine WL.pu rfl ?_
  refine WL.qA 15 (yE Tryz.underlying32 rfl) ?_
  refine WL.qA 16 (ya y73 rfl rfl) ?_
  refine WL.qA 17 (yc y74 rfl (yk .h1 rfl)) ?_
  refine WL.qA 18 (yE Tryz.underlying26 rfl) ?_
  refine WL.pu rfl (WL.pu rfl ?_)
  exact WL.yC (y2c zHf) rfl rfl .all
 refine WL.pu rfl ?_
 refine WL.seg true 3 21 (B:=(((decide (z5X = 0)) || (decide (z5X = 1))) && (decide (((z8n.length : Nat) : Int) = ((z1Q.fVLs.length : Nat) : Int)))) && (decide (((z8n.length : Nat) : Int) ≤ 16))) rfl rfl rfl rfl rfl rfl (fun h=>(y2b h).symm) (fun _ zHg=>?_) ?_
 ·skip
  refine WL.pu rfl ?_
  refine WL.qA 23 (yE Tryz.underlying32 rfl) ?_
  refine WL.pu rfl (WL.pu rfl ?_)
  exact WL.yC (y2c zHg) rfl rfl .all
 refine WL.pu rfl ?_
 refine WL.seg true 4 26 (B:=zqL) rfl rfl rfl rfl rfl rfl (fun h=>(Option.some.inj (yo zz3 h)).symm) (fun _ zHh=>?_) ?_
 ·skip
  have zjD:=yn zz3 zHh
  obtain ⟨zz0,zHi,zjD⟩:=z7 zjD
  replace zjD:=Option.some.inj zjD
  refine WL.pu rfl ?_
  refine WL.qA 28 (yX (Eos.caps (l:=[.tmp 3,.tmp 4]) (.cons rfl (.cons rfl .nil)))) ?_
  refine WL.cA 29 (za (l:=[.tmp 27,.tmp 28]) Tryz.call27 (.cons rfl (.cons rfl .nil))) .nil (ccl hz .nil (.cons .h1 (.cons .here .nil)) fun w pz ho la=>y3k _ _ _ (ze3:=28) (zjC:=[(.pointer (some ⟨zHc,0,none⟩)),(.pointer (some ⟨zHd,0,none⟩))]) _ (ze2:=(fun (y0 : List Sapi_Hop)=>y12 y0 z1Q z5X)) _ zHi w pz ((zHb.mono (Zle.left _ _)).weak (fun _ _ h=>y1i (Zle.left _ _) h)) Tryz.call28 (fun w' hz' y0 ga0 gc0 r gh0 hr=>yaP _ _ _ _ _ _ _ _ _ _ _ _ _ _ _ _ _ _ _ _ _ _ _ _ _ hr w' hz' gh0 ((zH3.mono (Zle.left _ _)).weak (fun _ _ h=>y1d (Zle.left _ _) h)) ((zH4.mono (Zle.left _ _)).weak (fun _ _ h=>y1m (Zle.left _ _) h)) (zH5.mono (Zle.left _ _)) (zH6.mono (Zle.left _ _)) ((zH7.mono (Zle.left _ _)).weak (fun _ _ h=>y16 (Zle.left _ _) h)) (zH8.mono (Zle.left _ _)) ((zH9.mono (Zle.left _ _)).weak (fun _ _ h=>y1n (Zle.left _ _) h)) (zHa.mono (Zle.left _ _)) ((la _ (.head _) _).stb) ((la _ (.tail _ (.head _)) _).stb))) ?_
  refine WL.pu rfl (WL.pu rfl ?_)
  exact WL.yC zjD rfl rfl .all
 refine WL.pu rfl (WL.nil (WX.a (WC.ret ?_)))
 obtain rfl:=Option.some.inj h
 refine WX.ye Tryz.results12 (.tmp rfl .nil) (fun w hw=>?_)
 exact ⟨yD rfl,hw.sub .nil⟩
def y7m  : Option (Sapi_Config × List (List Sapi_Hop)) :=
 some ((⟨([(⟨⟨#[109]⟩,0,0,[]⟩ : Sapi_Module),(⟨⟨#[110]⟩,0,0,[]⟩ : Sapi_Module)] : List Sapi_Module),[],([(⟨⟨#[115]⟩,0,16,100⟩ : Sapi_Switch)] : List Sapi_Switch),([(⟨⟨#[109]⟩,⟨#[115]⟩,0,1⟩ : Sapi_Link),(⟨⟨#[110]⟩,⟨#[115]⟩,0,1⟩ : Sapi_Link)] : List Sapi_Link),([(⟨⟨#[]⟩,(⟨⟨#[]⟩,⟨#[]⟩,⟨#[]⟩⟩ : Sapi_Ref),200,40,[]⟩ : Sapi_VL)] : List Sapi_VL),[],[],[]⟩ : Sapi_Config),([([(⟨0,2,0⟩ : Sapi_Hop),(⟨2,1,1⟩ : Sapi_Hop)] : List Sapi_Hop)] : List (List Sapi_Hop)))
set_option maxRecDepth 20000 in
theorem ybu (Z : Zp)  (r : Sapi_Config × List (List Sapi_Hop))
  (h : y7m = some r) (w₀ : World) (hz : PZ [] w₀ Z) :
  Calls Tryz.prog 14 #[] w₀ fun e w'=>∃ Zn : Zp,∃ zz4 : Option Addr,∃ zz5 : Nat,∃ zz6 : List Value,∃ zz7 : Option Addr,∃ zz8 : Nat,∃ zz9 : Option Addr,∃ zza : Nat,∃ zzb : Option Addr,∃ zzc : Nat,∃ zzd : Option Addr,∃ zze : Nat,∃ zzf : List Value,∃ zzg : Option Addr,∃ zzh : Nat,∃ zzi : Option Addr,∃ zzj : Nat,∃ zzk : Option Addr,∃ zzl : Nat,∃ zzm : Option Addr,∃ zzn : Nat,∃ zzo : List Value,e = .returned (.tuple #[(.agg #[(.slice zz4 r.1.fModules.length zz5),(.slice zz7 r.1.fChannels.length zz8),(.slice zz9 r.1.fSwitches.length zza),(.slice zzb r.1.fLinks.length zzc),(.slice zzd r.1.fVLs.length zze),(.slice zzg r.1.fHealth.length zzh),(.slice zzi r.1.fCauses.length zzj),(.slice zzk r.1.fVersions.length zzl)]),(.slice zzm r.2.length zzn)]) ∧ ((RR 4 (y3y (Z ++ Zn)) zz6 r.1.fModules) ∧ (ZS (Z ++ Zn) 4 (y49 (Z ++ Zn)) zz7 zz8 r.1.fChannels) ∧ (RR 7 (p46 (Z ++ Zn)) zzf r.1.fVLs) ∧ (ZS (Z ++ Zn) 5 (fun r x=>r = y4m x) zzg zzh r.1.fHealth) ∧ (ZS (Z ++ Zn) 3 (y4a (Z ++ Zn)) zzi zzj r.1.fCauses) ∧ (ZS (Z ++ Zn) 4 (fun r x=>r = y4n x) zzk zzl r.1.fVersions) ∧ (RR 1 (p48 (Z ++ Zn)) zzo r.2)) ∧ Hp [] w₀ w' [fz Zn,row (.slice zz4 r.1.fModules.length zz5) 108 4 zz6,row (.slice zz9 r.1.fSwitches.length zza) 66 4 (r.1.fSwitches.flatMap e66),row (.slice zzb r.1.fLinks.length zzc) 64 4 (r.1.fLinks.flatMap e64),row (.slice zzd r.1.fVLs.length zze) 46 7 zzf,row (.slice zzm r.2.length zzn) 48 1 zzo]:=by
 unfold y7m at h
 refine Calls.on0 Tryz.func14 Tryz.ntmps14 ?_
 refine WC.pool (WC.b (WC.a ?_))
 refine WL.nA 0 (yv (cs:=[(.slice none 0 0),(.slice none 0 0),(.slice none 0 0),(.slice none 0 0),(.slice none 0 0),(.slice none 0 0),(.slice none 0 0),(.slice none 0 0)]) ybd rfl) ?_
 intro zV9 _
 refine WL.pu rfl (WL.nil (WX.a (WC.b (WC.a ?_))))
 refine WL.qA 3 (yI (v:=(.agg #[(.string ⟨#[109]⟩),(.int .i64 0),(.int .i64 0),(.slice none 0 0)])) (Eos.parts (l:=[.const (.string ⟨#[109]⟩)]) (.cons rfl .nil) [0]) (fun _=>by kernel_rfl)) ?_
 refine WL.qA 4 (yI (v:=(.agg #[(.string ⟨#[110]⟩),(.int .i64 0),(.int .i64 0),(.slice none 0 0)])) (Eos.parts (l:=[.const (.string ⟨#[110]⟩)]) (.cons rfl .nil) [0]) (fun _=>by kernel_rfl)) ?_
 have zHj : RR 4 (y3y (Z ++ [])) [(.string ⟨#[109]⟩),(.int .i64 0),(.int .i64 0),(.slice none 0 0),(.string ⟨#[110]⟩),(.int .i64 0),(.int .i64 0),(.slice none 0 0)] ([(⟨⟨#[109]⟩,0,0,[]⟩ : Sapi_Module),(⟨⟨#[110]⟩,0,0,[]⟩ : Sapi_Module)] : List Sapi_Module):=(RR.cons (r:=[(.string ⟨#[109]⟩),(.int .i64 0),(.int .i64 0),(.slice none 0 0)]) rfl (show y3y _ _ _ from ⟨_,_,rfl,(ZS.nil _ _ _)⟩) (RR.cons (r:=[(.string ⟨#[110]⟩),(.int .i64 0),(.int .i64 0),(.slice none 0 0)]) rfl (show y3y _ _ _ from ⟨_,_,rfl,(ZS.nil _ _ _)⟩) (RR.nil _ _)))
 refine WL.nA 5 (yS (cs:=[(.string ⟨#[109]⟩),(.int .i64 0),(.int .i64 0),(.slice none 0 0),(.string ⟨#[110]⟩),(.int .i64 0),(.int .i64 0),(.slice none 0 0)]) elT_22 (Eos.parts (l:=[.tmp 3,.tmp 4]) (.cons rfl (.cons rfl .nil)) [0,1]) (fun _=>by kernel_rfl) rfl (by unfold maxLen; omega)) ?_
 intro zzp _
 refine WL.qA 6 (yI (v:=(.agg #[(.string ⟨#[115]⟩),(.int .i64 0),(.int .i64 16),(.int .i64 100)])) (Eos.parts (l:=[.const (.string ⟨#[115]⟩),.const (.int .i64 16),.const (.int .i64 100)]) (.cons rfl (.cons rfl (.cons rfl .nil))) [0,2,3]) (fun _=>by kernel_rfl)) ?_
 refine WL.nA 7 (yS (cs:=([(⟨⟨#[115]⟩,0,16,100⟩ : Sapi_Switch)] : List Sapi_Switch).flatMap e66) ybq (Eos.parts (l:=[.tmp 6]) (.cons rfl .nil) [0]) (fun _=>by kernel_rfl) rfl (by unfold maxLen; omega)) ?_
 intro zzq _
 refine WL.qA 8 (yI (v:=(.agg #[(.string ⟨#[109]⟩),(.string ⟨#[115]⟩),(.int .i64 0),(.int .i64 1)])) (Eos.parts (l:=[.const (.string ⟨#[109]⟩),.const (.string ⟨#[115]⟩),.const (.int .i64 1)]) (.cons rfl (.cons rfl (.cons rfl .nil))) [0,1,3]) (fun _=>by kernel_rfl)) ?_
 refine WL.qA 9 (yI (v:=(.agg #[(.string ⟨#[110]⟩),(.string ⟨#[115]⟩),(.int .i64 0),(.int .i64 1)])) (Eos.parts (l:=[.const (.string ⟨#[110]⟩),.const (.string ⟨#[115]⟩),.const (.int .i64 1)]) (.cons rfl (.cons rfl (.cons rfl .nil))) [0,1,3]) (fun _=>by kernel_rfl)) ?_
 refine WL.nA 10 (yS (cs:=([(⟨⟨#[109]⟩,⟨#[115]⟩,0,1⟩ : Sapi_Link),(⟨⟨#[110]⟩,⟨#[115]⟩,0,1⟩ : Sapi_Link)] : List Sapi_Link).flatMap e64) ybo (Eos.parts (l:=[.tmp 8,.tmp 9]) (.cons rfl (.cons rfl .nil)) [0,1]) (fun _=>by kernel_rfl) rfl (by unfold maxLen; omega)) ?_
 intro zzr _
 refine WL.qA 11 (yI (v:=(.agg #[(.string ⟨#[]⟩),(.string ⟨#[]⟩),(.string ⟨#[]⟩),(.string ⟨#[]⟩),(.int .i64 200),(.int .i64 40),(.slice none 0 0)])) (Eos.parts (l:=[.const (.int .i64 200),.const (.int .i64 40)]) (.cons rfl (.cons rfl .nil)) [2,3]) (fun _=>by kernel_rfl)) ?_
 have zHk : RR 7 (p46 (Z ++ [])) [(.string ⟨#[]⟩),(.string ⟨#[]⟩),(.string ⟨#[]⟩),(.string ⟨#[]⟩),(.int .i64 200),(.int .i64 40),(.slice none 0 0)] ([(⟨⟨#[]⟩,(⟨⟨#[]⟩,⟨#[]⟩,⟨#[]⟩⟩ : Sapi_Ref),200,40,[]⟩ : Sapi_VL)] : List Sapi_VL):=(RR.cons (r:=[(.string ⟨#[]⟩),(.string ⟨#[]⟩),(.string ⟨#[]⟩),(.string ⟨#[]⟩),(.int .i64 200),(.int .i64 40),(.slice none 0 0)]) rfl (show p46 _ _ _ from ⟨_,_,rfl,(ZS.nil _ _ _)⟩) (RR.nil _ _))
 refine WL.nA 12 (yS (cs:=[(.string ⟨#[]⟩),(.string ⟨#[]⟩),(.string ⟨#[]⟩),(.string ⟨#[]⟩),(.int .i64 200),(.int .i64 40),(.slice none 0 0)]) y8u (Eos.parts (l:=[.tmp 11]) (.cons rfl .nil) [0]) (fun _=>by kernel_rfl) rfl (by unfold maxLen; omega)) ?_
 intro zzs _
 refine WL.qA 13 (yI (v:=(.agg #[(.slice (some ⟨zzp,0,none⟩) (([(⟨⟨#[109]⟩,0,0,[]⟩ : Sapi_Module),(⟨⟨#[110]⟩,0,0,[]⟩ : Sapi_Module)] : List Sapi_Module).length) 2),(.slice none 0 0),(.slice (some ⟨zzq,0,none⟩) (([(⟨⟨#[115]⟩,0,16,100⟩ : Sapi_Switch)] : List Sapi_Switch).length) 1),(.slice (some ⟨zzr,0,none⟩) (([(⟨⟨#[109]⟩,⟨#[115]⟩,0,1⟩ : Sapi_Link),(⟨⟨#[110]⟩,⟨#[115]⟩,0,1⟩ : Sapi_Link)] : List Sapi_Link).length) 2),(.slice (some ⟨zzs,0,none⟩) (([(⟨⟨#[]⟩,(⟨⟨#[]⟩,⟨#[]⟩,⟨#[]⟩⟩ : Sapi_Ref),200,40,[]⟩ : Sapi_VL)] : List Sapi_VL).length) 1),(.slice none 0 0),(.slice none 0 0),(.slice none 0 0)])) (Eos.parts (l:=[.tmp 5,.tmp 7,.tmp 10,.tmp 12]) (.cons rfl (.cons rfl (.cons rfl (.cons rfl .nil)))) [0,2,3,4]) (fun _=>by kernel_rfl)) ?_
 refine WL.nA 2 (yv (cs:=[(.slice none 0 0),(.slice none 0 0),(.slice none 0 0),(.slice none 0 0),(.slice none 0 0),(.slice none 0 0),(.slice none 0 0),(.slice none 0 0)]) ybd rfl) ?_
 intro zVa _
 refine WL.ym rfl rfl (yl ybK rfl rfl rfl .here rfl rfl rfl) ?_
 refine WL.nil (WX.a (WC.b (WC.a ?_)))
 refine WL.qA 14 (yg y2B rfl (yh .here) rfl) ?_
 refine WL.qA 15 (yI (v:=(.agg #[(.int .i64 0),(.int .i64 2),(.int .i64 0)])) (Eos.parts (l:=[.const (.int .i64 0),.const (.int .i64 2),.const (.int .i64 0)]) (.cons rfl (.cons rfl (.cons rfl .nil))) [0,1,2]) (fun _=>by kernel_rfl)) ?_
 refine WL.qA 16 (yI (v:=(.agg #[(.int .i64 2),(.int .i64 1),(.int .i64 1)])) (Eos.parts (l:=[.const (.int .i64 2),.const (.int .i64 1),.const (.int .i64 1)]) (.cons rfl (.cons rfl (.cons rfl .nil))) [0,1,2]) (fun _=>by kernel_rfl)) ?_
 refine WL.nA 17 (yS (cs:=([(⟨0,2,0⟩ : Sapi_Hop),(⟨2,1,1⟩ : Sapi_Hop)] : List Sapi_Hop).flatMap e62) y3J (Eos.parts (l:=[.tmp 15,.tmp 16]) (.cons rfl (.cons rfl .nil)) [0,1]) (fun _=>by kernel_rfl) rfl (by unfold maxLen; omega)) ?_
 intro zmy _
 refine WL.freezeS (ls:=([(⟨0,2,0⟩ : Sapi_Hop),(⟨2,1,1⟩ : Sapi_Hop)] : List Sapi_Hop)) .here .h6 hz (RR.flat (enc:=e62) (fun _=>rfl) _) ?_
 intro zzt zzu zHl
 have zHm : RR 1 (p48 (Z ++ zzt)) [(.slice (some ⟨zmy,0,none⟩) (([(⟨0,2,0⟩ : Sapi_Hop),(⟨2,1,1⟩ : Sapi_Hop)] : List Sapi_Hop).length) 2)] ([([(⟨0,2,0⟩ : Sapi_Hop),(⟨2,1,1⟩ : Sapi_Hop)] : List Sapi_Hop)] : List (List Sapi_Hop)):=(RR.cons (r:=[(.slice (some ⟨zmy,0,none⟩) (([(⟨0,2,0⟩ : Sapi_Hop),(⟨2,1,1⟩ : Sapi_Hop)] : List Sapi_Hop).length) 2)]) rfl (show p48 _ _ _ from ⟨_,_,rfl,zHl⟩) (RR.nil _ _))
 refine WL.nA 18 (yS (cs:=[(.slice (some ⟨zmy,0,none⟩) (([(⟨0,2,0⟩ : Sapi_Hop),(⟨2,1,1⟩ : Sapi_Hop)] : List Sapi_Hop).length) 2)]) y6L (Eos.parts (l:=[.tmp 17]) (.cons rfl .nil) [0]) (fun _=>by kernel_rfl) rfl (by unfold maxLen; omega)) ?_
 intro zHn _
 refine WL.ym rfl rfl (yl ybK rfl rfl rfl .h7 rfl rfl rfl) ?_
 refine WL.pu rfl (WL.nil (WX.a (WC.ret ?_)))
 obtain rfl:=Option.some.inj h
 refine WX.ye Tryz.results14 (.agg rfl y2B rfl (yh .here) (.tmp rfl .nil)) (fun w hw=>?_)
 exact ⟨zzt,(some ⟨zzp,0,none⟩),2,[(.string ⟨#[109]⟩),(.int .i64 0),(.int .i64 0),(.slice none 0 0),(.string ⟨#[110]⟩),(.int .i64 0),(.int .i64 0),(.slice none 0 0)],none,0,(some ⟨zzq,0,none⟩),1,(some ⟨zzr,0,none⟩),2,(some ⟨zzs,0,none⟩),1,[(.string ⟨#[]⟩),(.string ⟨#[]⟩),(.string ⟨#[]⟩),(.string ⟨#[]⟩),(.int .i64 200),(.int .i64 40),(.slice none 0 0)],none,0,none,0,none,0,(some ⟨zHn,0,none⟩),1,[(.slice (some ⟨zmy,0,none⟩) (([(⟨0,2,0⟩ : Sapi_Hop),(⟨2,1,1⟩ : Sapi_Hop)] : List Sapi_Hop).length) 2)],y1z rfl rfl,⟨(zHj.weak (fun _ _ h=>y1d zzu h)),(ZS.nil _ _ _),(zHk.weak (fun _ _ h=>y16 zzu h)),(ZS.nil _ _ _),(ZS.nil _ _ _),(ZS.nil _ _ _),zHm⟩,hw.sub (.cons .h2 (.cons .h6 (.cons .h5 (.cons .h4 (.cons .h3 (.cons .h1 .nil))))))⟩
def y5h (z7N : Int) (z9F : Option Bool) : Nat → Int → Option Bool
 | 0,_=>none
 | zr2 + 1,z6m=>if decide (z6m ≤ 12800) then if decide (z6m = z7N) then some true else y5h z7N z9F zr2 (i64 (z6m * 2)) else z9F
theorem ya6 {n : Nat} {z7N : Int} {z9F : Option Bool} {z6m : Int} {r : Bool} (h : y5h z7N z9F n z6m = some r) : ∃ m,n = m + 1:=by
 cases n with
 | zero=>cases h
 | succ m=>exact ⟨m,rfl⟩
def y8Z (z7N : Int) : Option Bool :=
 jp0 (some false) fun z9F=>y5h z7N z9F yB 100
set_option maxRecDepth 20000 in
theorem yd0 (Z : Zp)  (z7N : Int) (r : Bool)
  (h : y8Z z7N = some r) (w₀ : World) (hz : PZ [] w₀ Z) :
  Calls Tryz.prog 20 #[(.int .i64 z7N)] w₀ fun e w'=>e = .returned (.bool r) ∧ Hp [] w₀ w' []:=by
 unfold y8Z at h
 refine Calls.on1 Tryz.func20 Tryz.ntmps20 ?_
 refine WC.b (WC.a (WL.pu rfl (WL.nil (WX.a ?_))))
 obtain ⟨z9F,zHo,h⟩:=y1u h
 refine WC.y1g ((z9F = some r)) ([]) ([]) ?_ ?_
 ·skip
  refine WC.b (WC.a (WL.pu rfl (WL.nil (WX.a (WC.block ?_)))))
  refine WC.y1S (fun (zfW : Nat) (z6m : Int)=>(y5h z7N z9F zfW z6m = some r)) (fun zfW z6m=>[(0,(.int .i64 z7N)),(3,(.int .i64 z6m))]) (fun zfW z6m=>[]) (fun zfW z6m=>zfW) ⟨yB,100⟩ h (.cons rfl (.cons rfl .nil)) .nil ?_
  rintro zfW z6m h
  obtain ⟨zr2,rfl⟩:=ya6 h
  rw [y5h] at h
  refine WC.b (WC.b (WC.a (WL.pu rfl (WL.pu rfl (WL.nil (WX.a ?_))))))
  refine WC.cond rfl (fun zr3=>?_) (fun zr3=>?_)
  ·replace h:=yn h zr3
   refine WC.skip (WX.a (WC.b (WC.block (WC.b (WC.a (WL.pu rfl (WL.pu rfl (WL.pu rfl (WL.nil (WX.a ?_))))))))))
   refine WC.cond rfl (fun zr4=>?_) (fun zr4=>?_)
   ·replace h:=yn h zr4
    refine WC.b (WC.a (WL.pu rfl (WL.nil (WX.a (WC.ret (WX.ys (WX.yd (WX.yd (WX.ys (WX.yd ?_))))))))))
    obtain rfl:=Option.some.inj h
    refine WX.ye Tryz.results20 (.tmp rfl .nil) (fun w hw=>?_)
    exact ⟨yD rfl,hw.sub .nil⟩
   ·replace h:=yo h zr4
    refine WC.skip (WX.yj (WX.a (WC.a (WL.pu rfl (WL.pu rfl (WL.pu rfl (WL.nil ?_)))))))
    exact WX.round (G:=Nat × Int) ⟨zr2,(i64 (z6m * 2))⟩ h (Nat.lt_succ_self _) (.cons rfl (.cons rfl .nil)) .nil
  ·replace h:=yo h zr3
   refine WC.exit (WX.yf (WX.yf (WX.yz ?_)))
   exact WX.mid (G:=Unit) () h .nil .nil
 ·rintro  h
  replace h:=zHo.symm.trans h
  refine WC.b (WC.a (WL.pu rfl (WL.nil (WX.a (WC.ret ?_)))))
  obtain rfl:=Option.some.inj h
  refine WX.ye Tryz.results20 (.tmp rfl .nil) (fun w hw=>?_)
  exact ⟨yD rfl,hw.sub .nil⟩
def y57 (z2G : Sapi_VL) : Option Bool :=
 (y8Z z2G.fBag).bind fun zmz=>some (((!zmz) || (decide (z2G.fMax < 1))) || (decide (z2G.fMax > 72)))
set_option maxRecDepth 20000 in
theorem yaQ (Z : Zp) (zr5 : Option Addr) (zr6 : Nat) (z2G : Sapi_VL) (r : Bool)
  (h : y57 z2G = some r) (w₀ : World) (hz : PZ [] w₀ Z)
  (zVb : ZS Z 3 (fun r x=>r = e43 x) zr5 zr6 z2G.fTo) :
  Calls Tryz.prog 19 #[(.agg #[(.string z2G.fName),(.string z2G.fFrom.fModule),(.string z2G.fFrom.fPart),(.string z2G.fFrom.fPort),(.int .i64 z2G.fBag),(.int .i64 z2G.fMax),(.slice zr5 z2G.fTo.length zr6)])] w₀ fun e w'=>e = .returned (.bool r) ∧ Hp [] w₀ w' []:=by
 unfold y57 at h
 refine Calls.on1 Tryz.func19 Tryz.ntmps19 ?_
 refine WC.b (WC.a ?_)
 refine WL.nA 1 (yH (cs:=[(.string z2G.fName),(.string z2G.fFrom.fModule),(.string z2G.fFrom.fPart),(.string z2G.fFrom.fPort),(.int .i64 z2G.fBag),(.int .i64 z2G.fMax),(.slice zr5 z2G.fTo.length zr6)]) rfl rfl) ?_
 intro zVc _
 refine WL.pu rfl (WL.nil (WX.a (WC.b ?_)))
 obtain ⟨zmz,zHp,h⟩:=z7 h
 refine WC.a ?_
 refine WL.qA 3 (ya yda rfl rfl) ?_
 refine WL.qA 4 (yc yt rfl (yk .here rfl)) ?_
 refine WL.cA 5 (za (l:=[.tmp 4]) Tryz.call20 (.cons rfl .nil)) .nil (cc hz .nil fun w pz ho=>yd0 _ _ _ zHp w pz ) ?_
 refine WL.pu rfl (WL.pu rfl ?_)
 refine WL.seg false 3 7 (B:=(!zmz) || (decide (z2G.fMax < 1))) rfl rfl rfl rfl rfl rfl (fun h=>(y67 h).symm) (fun _ zHq=>?_) ?_
 ·skip
  refine WL.qA 8 (ya y8o rfl rfl) ?_
  refine WL.qA 9 (yc yt rfl (yk .here rfl)) ?_
  refine WL.pu rfl (WL.pu rfl ?_)
  exact WL.yC (y68 zHq) rfl rfl .all
 refine WL.pu rfl ?_
 refine WL.seg false 3 12 (B:=((!zmz) || (decide (z2G.fMax < 1))) || (decide (z2G.fMax > 72))) rfl rfl rfl rfl rfl rfl (fun h=>(y67 h).symm) (fun _ zHr=>?_) ?_
 ·skip
  refine WL.qA 13 (ya y8o rfl rfl) ?_
  refine WL.qA 14 (yc yt rfl (yk .here rfl)) ?_
  refine WL.pu rfl (WL.pu rfl ?_)
  exact WL.yC (y68 zHr) rfl rfl .all
 refine WL.pu rfl (WL.nil (WX.a (WC.ret ?_)))
 obtain rfl:=Option.some.inj h
 refine WX.ye Tryz.results19 (.tmp rfl .nil) (fun w hw=>?_)
 exact ⟨yD rfl,hw.sub .nil⟩
def y1p (z23 : List Sapi_VL) (z7O : Sapi_VL → Option Bool) (z9G : Option Int) : Nat → Int → Option Int
 | 0,_=>none
 | zr7 + 1,z1X=>if decide (z1X < ((z23.length : Nat) : Int)) then chk ((0 : Int) ≤ z1X ∧ z1X < ((z23.length : Nat) : Int)) ((z7O (⟨((nth z23 z1X).fName),(⟨(((nth z23 z1X).fFrom).fModule),(((nth z23 z1X).fFrom).fPart),(((nth z23 z1X).fFrom).fPort)⟩ : Sapi_Ref),((nth z23 z1X).fBag),((nth z23 z1X).fMax),((nth z23 z1X).fTo)⟩ : Sapi_VL)).bind fun zr8=>if zr8 then some z1X else y1p z23 z7O z9G zr7 (i64 (z1X + 1))) else z9G
theorem y5v {n : Nat} {z23 : List Sapi_VL} {z7O : Sapi_VL → Option Bool} {z9G : Option Int} {z1X : Int} {r : Int} (h : y1p z23 z7O z9G n z1X = some r) : ∃ m,n = m + 1:=by
 cases n with
 | zero=>cases h
 | succ m=>exact ⟨m,rfl⟩
def y37 (z23 : List Sapi_VL) (z7O : Sapi_VL → Option Bool) : Option Int :=
 jp0 (some (-1)) fun z9G=>y1p z23 z7O z9G yB 0
set_option maxRecDepth 20000 in
theorem y6U (Z : Zp) (zr9 : Option Addr) (zra : Nat) (ze4 : FuncId) (zjE : List Value) (z23 : List Sapi_VL) (z7O : Sapi_VL → Option Bool) (r : Int)
  (h : y37 z23 z7O = some r) (w₀ : World) (hz : PZ [] w₀ Z)
  (zHs : ZS Z 7 (p46 Z) zr9 zra z23)
  (zHt : ∀ args w,(callFunc ze4 args).run Tryz.prog w = .ok (.enter ze4 args) w)
  (zHu : ∀ w : World,PZ [] w Z → ∀ (x0 : Sapi_VL) (ao0 : Option Addr) (cap0 : Nat) (r : Bool),ZS Z 3 (fun r x=>r = e43 x) ao0 cap0 x0.fTo → z7O x0 = some r → Calls Tryz.prog ze4 (([(.agg #[(.string x0.fName),(.string x0.fFrom.fModule),(.string x0.fFrom.fPart),(.string x0.fFrom.fPort),(.int .i64 x0.fBag),(.int .i64 x0.fMax),(.slice ao0 x0.fTo.length cap0)])] : List Value) ++ zjE).toArray w fun e w'=>e = .returned (.bool r) ∧ Hp [] w w' []) :
  Calls Tryz.prog 34 #[(.slice zr9 z23.length zra),(.func (.func ze4) #[] (zjE).toArray)] w₀ fun e w'=>e = .returned (.int .i64 r) ∧ Hp [] w₀ w' []:=by
 unfold y37 at h
 refine Calls.yJ Tryz.func34 Tryz.ntmps34 ?_
 refine WC.b (WC.a (WL.pu rfl (WL.nil (WX.a ?_))))
 obtain ⟨z9G,zHv,h⟩:=y1u h
 refine WC.y1g ((z9G = some r)) ([]) ([]) ?_ ?_
 ·skip
  refine WC.b (WC.a (WL.pu rfl ?_))
  refine WL.qA 7 (yE Tryz.underlying26 rfl) ?_
  refine WL.pu rfl (WL.nil (WX.a (WC.block ?_)))
  refine WC.y1S (fun (zfX : Nat) (z1X : Int)=>(y1p z23 z7O z9G zfX z1X = some r)) (fun zfX z1X=>[(0,(.slice zr9 z23.length zra)),(1,(.func (.func ze4) #[] (zjE).toArray)),(7,(.int .i64 ((z23.length : Nat) : Int))),(8,(.int .i64 z1X))]) (fun zfX z1X=>[]) (fun zfX z1X=>zfX) ⟨yB,0⟩ h (.cons rfl (.cons rfl (.cons rfl (.cons rfl .nil)))) .nil ?_
  rintro zfX z1X h
  obtain ⟨zr7,rfl⟩:=y5v h
  rw [y1p] at h
  refine WC.b (WC.a (WL.pu rfl (WL.nil (WX.a (WC.b ?_)))))
  refine WC.cond rfl (fun zrb=>?_) (fun zrb=>?_)
  ·replace h:=yn h zrb
   refine WC.skip (WX.a (WC.b (WC.block (WC.b (WC.a (WL.pu rfl (WL.pu rfl (WL.nil (WX.a (WC.b ?_))))))))))
   obtain ⟨zHw,h⟩:=yq h
   obtain ⟨zr8,zHx,h⟩:=z7 h
   refine WC.a (WL.pu rfl (WL.pu rfl (WL.pu rfl ?_)))
   refine WL.znth (dd:=14) rfl rfl (Z:=Z) (Pr:=(p46 Z)) y8u rfl rfl zHs zHw ?_
   rintro zVd zVe zHy zVf ⟨zHz,zHA,rfl,zHB⟩
   refine WL.qA 15 (yg aggT_46 rfl (y1A hz.pv zHy) rfl) ?_
   refine WL.cA 16 (y27 (l:=[.tmp 15]) (f:=ze4) (caps:=zjE) zHt rfl (.cons rfl .nil)) .nil (fun w hw=>zHu w (hz.now hw) (⟨((nth z23 z1X).fName),(⟨(((nth z23 z1X).fFrom).fModule),(((nth z23 z1X).fFrom).fPart),(((nth z23 z1X).fFrom).fPort)⟩ : Sapi_Ref),((nth z23 z1X).fBag),((nth z23 z1X).fMax),((nth z23 z1X).fTo)⟩ : Sapi_VL) zHz zHA zr8 zHB zHx) ?_
   refine WL.nil (WX.a ?_)
   refine WC.cond rfl (fun zrc=>?_) (fun zrc=>?_)
   ·replace h:=yn h zrc
    refine WC.b (WC.a (WL.pu rfl (WL.pu rfl (WL.nil (WX.a (WC.ret (WX.ys (WX.yd (WX.yd (WX.ys (WX.yd ?_)))))))))))
    obtain rfl:=Option.some.inj h
    refine WX.ye Tryz.results34 (.tmp rfl .nil) (fun w hw=>?_)
    exact ⟨yD rfl,hw.sub .nil⟩
   ·replace h:=yo h zrc
    refine WC.skip (WX.yj (WX.a (WC.a (WL.pu rfl (WL.pu rfl (WL.nil ?_))))))
    exact WX.round (G:=Nat × Int) ⟨zr7,(i64 (z1X + 1))⟩ h (Nat.lt_succ_self _) (.cons rfl (.cons rfl (.cons rfl (.cons rfl .nil)))) .nil
  ·replace h:=yo h zrb
   refine WC.exit (WX.yf (WX.yf (WX.yz ?_)))
   exact WX.mid (G:=Unit) () h .nil .nil
 ·rintro  h
  replace h:=zHv.symm.trans h
  refine WC.b (WC.a (WL.pu rfl (WL.nil (WX.a (WC.ret ?_)))))
  obtain rfl:=Option.some.inj h
  refine WX.ye Tryz.results34 (.tmp rfl .nil) (fun w hw=>?_)
  exact ⟨yD rfl,hw.sub .nil⟩
def y2R (zjF : List Sapi_VL) (zfY : Sapi_VL → Option Bool) : Option Bool :=
 (y37 zjF zfY).bind fun zzv=>some (decide (zzv ≥ 0))
set_option maxRecDepth 20000 in
theorem y6p (Z : Zp) (zzw : Option Addr) (zzx : Nat) (zfZ : FuncId) (zmA : List Value) (zjF : List Sapi_VL) (zfY : Sapi_VL → Option Bool) (r : Bool)
  (h : y2R zjF zfY = some r) (w₀ : World) (hz : PZ [] w₀ Z)
  (zHC : ZS Z 7 (p46 Z) zzw zzx zjF)
  (zHD : ∀ args w,(callFunc zfZ args).run Tryz.prog w = .ok (.enter zfZ args) w)
  (zHE : ∀ w : World,PZ [] w Z → ∀ (x0 : Sapi_VL) (ao0 : Option Addr) (cap0 : Nat) (r : Bool),ZS Z 3 (fun r x=>r = e43 x) ao0 cap0 x0.fTo → zfY x0 = some r → Calls Tryz.prog zfZ (([(.agg #[(.string x0.fName),(.string x0.fFrom.fModule),(.string x0.fFrom.fPart),(.string x0.fFrom.fPort),(.int .i64 x0.fBag),(.int .i64 x0.fMax),(.slice ao0 x0.fTo.length cap0)])] : List Value) ++ zmA).toArray w fun e w'=>e = .returned (.bool r) ∧ Hp [] w w' []) :
  Calls Tryz.prog 18 #[(.slice zzw zjF.length zzx),(.func (.func zfZ) #[] (zmA).toArray)] w₀ fun e w'=>e = .returned (.bool r) ∧ Hp [] w₀ w' []:=by
 unfold y2R at h
 refine Calls.yJ Tryz.func18 Tryz.ntmps18 ?_
 refine WC.b (WC.a (WL.pu rfl (WL.nil (WX.a (WC.b ?_)))))
 obtain ⟨zzv,zHF,h⟩:=z7 h
 refine WC.a (WL.pu rfl (WL.pu rfl ?_))
 refine WL.cA 7 (za (l:=[.tmp 5,.tmp 6]) Tryz.call34 (.cons rfl (.cons rfl .nil))) .nil (cc hz .nil fun w pz ho=>y6U _ _ _ (ze4:=zfZ) (zjE:=zmA) _ (z7O:=zfY) _ zHF w pz zHC zHD zHE) ?_
 refine WL.pu rfl (WL.pu rfl (WL.nil (WX.a (WC.ret ?_))))
 obtain rfl:=Option.some.inj h
 refine WX.ye Tryz.results18 (.tmp rfl .nil) (fun w hw=>?_)
 exact ⟨yD rfl,hw.sub .nil⟩
def y3o (z6Z : Sapi_Hop) : Option Sbound_place :=
 some (⟨z6Z.fNode,z6Z.fLink⟩ : Sbound_place)
set_option maxRecDepth 20000 in
theorem y4K (Z : Zp)  (z6Z : Sapi_Hop) (r : Sbound_place)
  (h : y3o z6Z = some r) (w₀ : World) (hz : PZ [] w₀ Z) :
  Calls Tryz.prog 40 #[(.agg #[(.int .i64 z6Z.fNode),(.int .i64 z6Z.fNext),(.int .i64 z6Z.fLink)])] w₀ fun e w'=>e = .returned (.agg #[(.int .i64 r.fNode),(.int .i64 r.fLink)]) ∧ Hp [] w₀ w' []:=by
 unfold y3o at h
 refine Calls.on1 Tryz.func40 Tryz.ntmps40 ?_
 refine WC.b (WC.a ?_)
 refine WL.nA 1 (yH (cs:=[(.int .i64 z6Z.fNode),(.int .i64 z6Z.fNext),(.int .i64 z6Z.fLink)]) rfl rfl) ?_
 intro zVg _
 refine WL.nA 2 (yv (cs:=[(.int .i64 0),(.int .i64 0)]) y8v rfl) ?_
 intro zVh _
 refine WL.nil (WX.a (WC.b (WC.a ?_)))
 refine WL.qA 3 (ya y2C rfl rfl) ?_
 refine WL.qA 4 (yc yt rfl (yk .h1 rfl)) ?_
 refine WL.qA 5 (ya y6n rfl rfl) ?_
 refine WL.qA 6 (yc yt rfl (yk .h1 rfl)) ?_
 refine WL.qA 7 (yI (v:=(.agg #[(.int .i64 z6Z.fNode),(.int .i64 z6Z.fLink)])) (Eos.parts (l:=[.tmp 4,.tmp 6]) (.cons rfl (.cons rfl .nil)) [0,1]) (fun _=>by kernel_rfl)) ?_
 refine WL.ym rfl rfl (yl yaM rfl rfl rfl .here rfl rfl rfl) ?_
 refine WL.nil (WX.a (WC.ret ?_))
 obtain rfl:=Option.some.inj h
 refine WX.ye Tryz.results40 (.agg rfl y3f rfl (yh .here) .nil) (fun w hw=>?_)
 exact ⟨yD rfl,hw.sub .nil⟩
def yN (z42 : List Sbound_place) (z4Z : Sbound_place) (z9H : Option Int) : Nat → Int → Option Int
 | 0,_=>none
 | zrd + 1,z3K=>if decide (z3K < ((z42.length : Nat) : Int)) then chk ((0 : Int) ≤ z3K ∧ z3K < ((z42.length : Nat) : Int)) (if decide (z4Z = (⟨((nth z42 z3K).fNode),((nth z42 z3K).fLink)⟩ : Sbound_place)) then some z3K else yN z42 z4Z z9H zrd (i64 (z3K + 1))) else z9H
theorem y4z {n : Nat} {z42 : List Sbound_place} {z4Z : Sbound_place} {z9H : Option Int} {z3K : Int} {r : Int} (h : yN z42 z4Z z9H n z3K = some r) : ∃ m,n = m + 1:=by
 cases n with
 | zero=>cases h
 | succ m=>exact ⟨m,rfl⟩
def y1F (z42 : List Sbound_place) (z4Z : Sbound_place) : Option Int :=
 jp0 (some (-1)) fun z9H=>yN z42 z4Z z9H yB 0
set_option maxRecDepth 20000 in
theorem y5Q (Z : Zp) (zre : Option Addr) (zrf : Nat) (z42 : List Sbound_place) (z4Z : Sbound_place) (r : Int)
  (h : y1F z42 z4Z = some r) (w₀ : World) (hz : PZ [] w₀ Z)
  (zHG : ZS Z 2 (fun r x=>r = e97 x) zre zrf z42) :
  Calls Tryz.prog 103 #[(.slice zre z42.length zrf),(.agg #[(.int .i64 z4Z.fNode),(.int .i64 z4Z.fLink)])] w₀ fun e w'=>e = .returned (.int .i64 r) ∧ Hp [] w₀ w' []:=by
 unfold y1F at h
 refine Calls.yJ Tryz.func103 Tryz.ntmps103 ?_
 refine WC.b (WC.a ?_)
 refine WL.nA 3 (yH (cs:=[(.int .i64 z4Z.fNode),(.int .i64 z4Z.fLink)]) rfl rfl) ?_
 intro zzy _
 refine WL.pu rfl (WL.nil (WX.a ?_))
 obtain ⟨z9H,zHH,h⟩:=y1u h
 refine WC.y1g ((z9H = some r)) ([]) ([]) ?_ ?_
 ·skip
  refine WC.b (WC.a (WL.pu rfl ?_))
  refine WL.qA 7 (yE Tryz.underlying88 rfl) ?_
  refine WL.pu rfl (WL.nil (WX.a (WC.block ?_)))
  refine WC.y1S (fun (zg0 : Nat) (z3K : Int)=>(yN z42 z4Z z9H zg0 z3K = some r)) (fun zg0 z3K=>[(0,(.slice zre z42.length zrf)),(3,(.pointer (some ⟨zzy,0,none⟩))),(7,(.int .i64 ((z42.length : Nat) : Int))),(8,(.int .i64 z3K))]) (fun zg0 z3K=>[stb zzy 97 [(.int .i64 z4Z.fNode),(.int .i64 z4Z.fLink)]]) (fun zg0 z3K=>zg0) ⟨yB,0⟩ h (.cons rfl (.cons rfl (.cons rfl (.cons rfl .nil)))) (.cons .here .nil) ?_
  rintro zg0 z3K h
  obtain ⟨zrd,rfl⟩:=y4z h
  rw [yN] at h
  refine WC.b (WC.a (WL.pu rfl (WL.nil (WX.a (WC.b ?_)))))
  refine WC.cond rfl (fun zrg=>?_) (fun zrg=>?_)
  ·replace h:=yn h zrg
   refine WC.skip (WX.a (WC.b (WC.block (WC.b (WC.a (WL.pu rfl (WL.pu rfl (WL.nil (WX.a (WC.b ?_))))))))))
   obtain ⟨zHI,h⟩:=yq h
   refine WC.yL (fun i=>[].contains i) [] rfl ?_
   refine WD.qA 0 11 rfl (yg y3f rfl (yh .here) rfl) ?_
   refine WD.pA 1 12 rfl (fun _=>q_m rfl) ?_
   refine WD.pA 2 13 rfl (fun _=>q_m rfl) ?_
   refine WD.znth (j:=3) (dd:=14) (by kernel_rfl) rfl z2E z2F rfl rfl (Z:=Z) (Pr:=(fun r x=>r = e97 x)) y4H rfl rfl zHG zHI ?_
   rintro zVi zVj zHJ zVk rfl
   refine WD.qA 4 15 rfl (yg y3f rfl (y1A hz.pv zHJ) rfl) ?_
   refine WD.pA 5 16 rfl (fun _=>y6T (enc:=e97) (a:=z4Z) (b:=(⟨((nth z42 z3K).fNode),((nth z42 z3K).fLink)⟩ : Sbound_place)) ybr rfl rfl) ?_
   refine WD.done (by kernel_rfl) ?_
   refine WX.a ?_
   refine WC.cond rfl (fun zrh=>?_) (fun zrh=>?_)
   ·replace h:=yn h zrh
    refine WC.b (WC.a (WL.pu rfl (WL.pu rfl (WL.nil (WX.a (WC.ret (WX.ys (WX.yd (WX.yd (WX.ys (WX.yd ?_)))))))))))
    obtain rfl:=Option.some.inj h
    refine WX.ye Tryz.results103 (.tmp rfl .nil) (fun w hw=>?_)
    exact ⟨yD rfl,hw.sub .nil⟩
   ·replace h:=yo h zrh
    refine WC.skip (WX.yj (WX.a (WC.a (WL.pu rfl (WL.pu rfl (WL.nil ?_))))))
    exact WX.round (G:=Nat × Int) ⟨zrd,(i64 (z3K + 1))⟩ h (Nat.lt_succ_self _) (.cons rfl (.cons rfl (.cons rfl (.cons rfl .nil)))) (.cons .here .nil)
  ·replace h:=yo h zrg
   refine WC.exit (WX.yf (WX.yf (WX.yz ?_)))
   exact WX.mid (G:=Unit) () h .nil .nil
 ·rintro  h
  replace h:=zHH.symm.trans h
  refine WC.b (WC.a (WL.pu rfl (WL.nil (WX.a (WC.ret ?_)))))
  obtain rfl:=Option.some.inj h
  refine WX.ye Tryz.results103 (.tmp rfl .nil) (fun w hw=>?_)
  exact ⟨yD rfl,hw.sub .nil⟩
def y19 (zjG : List Sbound_place) (ze5 : Sbound_place) : Option Bool :=
 (y1F zjG ze5).bind fun zzz=>some (decide (zzz ≥ 0))
set_option maxRecDepth 20000 in
theorem y5n (Z : Zp) (zzA : Option Addr) (zzB : Nat) (zjG : List Sbound_place) (ze5 : Sbound_place) (r : Bool)
  (h : y19 zjG ze5 = some r) (w₀ : World) (hz : PZ [] w₀ Z)
  (zHK : ZS Z 2 (fun r x=>r = e97 x) zzA zzB zjG) :
  Calls Tryz.prog 63 #[(.slice zzA zjG.length zzB),(.agg #[(.int .i64 ze5.fNode),(.int .i64 ze5.fLink)])] w₀ fun e w'=>e = .returned (.bool r) ∧ Hp [] w₀ w' []:=by
 unfold y19 at h
 refine Calls.yJ Tryz.func63 Tryz.ntmps63 ?_
 refine WC.b (WC.a ?_)
 refine WL.nA 3 (yH (cs:=[(.int .i64 ze5.fNode),(.int .i64 ze5.fLink)]) rfl rfl) ?_
 intro zVl _
 refine WL.pu rfl (WL.nil (WX.a (WC.b ?_)))
 obtain ⟨zzz,zHL,h⟩:=z7 h
 refine WC.a (WL.pu rfl ?_)
 refine WL.qA 6 (yg y3f rfl (yh .here) rfl) ?_
 refine WL.cA 7 (za (l:=[.tmp 5,.tmp 6]) Tryz.call103 (.cons rfl (.cons rfl .nil))) .nil (cc hz .nil fun w pz ho=>y5Q _ _ _ _ _ _ zHL w pz zHK) ?_
 refine WL.pu rfl (WL.pu rfl (WL.nil (WX.a (WC.ret ?_))))
 obtain rfl:=Option.some.inj h
 refine WX.ye Tryz.results63 (.tmp rfl .nil) (fun w hw=>?_)
 exact ⟨yD rfl,hw.sub .nil⟩
def y4L (zjH : Int) : Option Bool :=
 some (decide (zjH ≠ zjH))
set_option maxRecDepth 20000 in
theorem y8U (Z : Zp)  (zjH : Int) (r : Bool)
  (h : y4L zjH = some r) (w₀ : World) (hz : PZ [] w₀ Z) :
  Calls Tryz.prog 91 #[(.int .i64 zjH)] w₀ fun e w'=>e = .returned (.bool r) ∧ Hp [] w₀ w' []:=by
 unfold y4L at h
 refine Calls.on1 Tryz.func91 Tryz.ntmps91 ?_
 refine WC.b (WC.a (WL.pu rfl (WL.nil (WX.a (WC.b (WC.a (WL.pu rfl (WL.pu rfl (WL.pu rfl (WL.pu rfl (WL.nil (WX.a (WC.ret ?_)))))))))))))
 obtain rfl:=Option.some.inj h
 refine WX.ye Tryz.results91 (.tmp rfl .nil) (fun w hw=>?_)
 exact ⟨yD rfl,hw.sub .nil⟩
def y3u (zg1 : Int) (zg2 : Int) : Option Int :=
 (y4L zg1).bind fun zzC=>(y4L zg2).bind fun zri=>if zzC then if zri then some 0 else some (-1) else if zri then some 1 else if decide (zg1 < zg2) then some (-1) else if decide (zg1 > zg2) then some 1 else some 0
set_option maxRecDepth 20000 in
theorem y8d (Z : Zp)  (zg1 : Int) (zg2 : Int) (r : Int)
  (h : y3u zg1 zg2 = some r) (w₀ : World) (hz : PZ [] w₀ Z) :
  Calls Tryz.prog 50 #[(.int .i64 zg1),(.int .i64 zg2)] w₀ fun e w'=>e = .returned (.int .i64 r) ∧ Hp [] w₀ w' []:=by
 unfold y3u at h
 refine Calls.yJ Tryz.func50 Tryz.ntmps50 ?_
 refine WC.b (WC.a (WL.pu rfl (WL.nil (WX.a (WC.b ?_)))))
 obtain ⟨zzC,zHM,h⟩:=z7 h
 refine WC.a (WL.pu rfl ?_)
 refine WL.cA 8 (za (l:=[.tmp 7]) Tryz.call91 (.cons rfl .nil)) .nil (cc hz .nil fun w pz ho=>y8U _ _ _ zHM w pz ) ?_
 refine WL.pu rfl (WL.nil (WX.a (WC.b ?_)))
 obtain ⟨zri,zHN,h⟩:=z7 h
 refine WC.a (WL.pu rfl ?_)
 refine WL.cA 10 (za (l:=[.tmp 9]) Tryz.call91 (.cons rfl .nil)) .nil (cc hz .nil fun w pz ho=>y8U _ _ _ zHN w pz ) ?_
 refine WL.pu rfl (WL.nil (WX.a (WC.b (WC.b (WC.a (WL.pu rfl (WL.nil (WX.a ?_))))))))
 refine WC.cond rfl (fun zrj=>?_) (fun zrj=>?_)
 ·replace h:=yn h zrj
  refine WC.b (WC.b (WC.a (WL.pu rfl (WL.nil (WX.a ?_)))))
  refine WC.cond rfl (fun zrk=>?_) (fun zrk=>?_)
  ·replace h:=yn h zrk
   refine WC.b (WC.a (WL.pu rfl (WL.nil (WX.a (WC.ret (WX.yd (WX.yd ?_)))))))
   obtain rfl:=Option.some.inj h
   refine WX.ye Tryz.results50 (.tmp rfl .nil) (fun w hw=>?_)
   exact ⟨yD rfl,hw.sub .nil⟩
  ·replace h:=yo h zrk
   refine WC.skip (WX.a (WC.b (WC.a (WL.pu rfl (WL.nil (WX.a (WC.ret (WX.yd ?_))))))))
   obtain rfl:=Option.some.inj h
   refine WX.ye Tryz.results50 (.tmp rfl .nil) (fun w hw=>?_)
   exact ⟨yD rfl,hw.sub .nil⟩
 ·replace h:=yo h zrj
  refine WC.skip (WX.a (WC.b (WC.b (WC.a (WL.pu rfl (WL.nil (WX.a ?_)))))))
  refine WC.cond rfl (fun zrl=>?_) (fun zrl=>?_)
  ·replace h:=yn h zrl
   refine WC.b (WC.a (WL.pu rfl (WL.nil (WX.a (WC.ret (WX.yd ?_))))))
   obtain rfl:=Option.some.inj h
   refine WX.ye Tryz.results50 (.tmp rfl .nil) (fun w hw=>?_)
   exact ⟨yD rfl,hw.sub .nil⟩
  ·replace h:=yo h zrl
   refine WC.skip (WX.a (WC.b (WC.b (WC.a (WL.pu rfl (WL.pu rfl (WL.pu rfl (WL.nil (WX.a ?_)))))))))
   refine WC.cond rfl (fun zrm=>?_) (fun zrm=>?_)
   ·replace h:=yn h zrm
    refine WC.b (WC.a (WL.pu rfl (WL.nil (WX.a (WC.ret (WX.yd ?_))))))
    obtain rfl:=Option.some.inj h
    refine WX.ye Tryz.results50 (.tmp rfl .nil) (fun w hw=>?_)
    exact ⟨yD rfl,hw.sub .nil⟩
   ·replace h:=yo h zrm
    refine WC.skip (WX.a (WC.b (WC.b (WC.a (WL.pu rfl (WL.pu rfl (WL.pu rfl (WL.nil (WX.a ?_)))))))))
    refine WC.cond rfl (fun zrn=>?_) (fun zrn=>?_)
    ·replace h:=yn h zrn
     refine WC.b (WC.a (WL.pu rfl (WL.nil (WX.a (WC.ret (WX.yd ?_))))))
     obtain rfl:=Option.some.inj h
     refine WX.ye Tryz.results50 (.tmp rfl .nil) (fun w hw=>?_)
     exact ⟨yD rfl,hw.sub .nil⟩
    ·replace h:=yo h zrn
     refine WC.skip (WX.a (WC.b (WC.a (WL.pu rfl (WL.nil (WX.a (WC.ret ?_)))))))
     obtain rfl:=Option.some.inj h
     refine WX.ye Tryz.results50 (.tmp rfl .nil) (fun w hw=>?_)
     exact ⟨yD rfl,hw.sub .nil⟩
def y3p (z52 : List Int) (z9I : Option Int) : Nat → Int → Option Int
 | 0,_=>none
 | zro + 1,z54=>if decide (z54 < ((z52.length : Nat) : Int)) then chk ((0 : Int) ≤ z54 ∧ z54 < ((z52.length : Nat) : Int)) (if decide ((nth z52 z54) ≠ 0) then some (nth z52 z54) else y3p z52 z9I zro (i64 (z54 + 1))) else z9I
theorem y9F {n : Nat} {z52 : List Int} {z9I : Option Int} {z54 : Int} {r : Int} (h : y3p z52 z9I n z54 = some r) : ∃ m,n = m + 1:=by
 cases n with
 | zero=>cases h
 | succ m=>exact ⟨m,rfl⟩
def y6b (z52 : List Int) : Option Int :=
 jp0 (some 0) fun z9I=>y3p z52 z9I yB 0
set_option maxRecDepth 20000 in
theorem ycH (Z : Zp) (zrp : Option Addr) (zrq : Nat) (z52 : List Int) (r : Int)
  (h : y6b z52 = some r) (w₀ : World) (hz : PZ [] w₀ Z)
  (zHO : ZS Z 1 (fun r x=>r = e3 x) zrp zrq z52) :
  Calls Tryz.prog 49 #[(.slice zrp z52.length zrq)] w₀ fun e w'=>e = .returned (.int .i64 r) ∧ Hp [] w₀ w' []:=by
 unfold y6b at h
 refine Calls.on1 Tryz.func49 Tryz.ntmps49 ?_
 refine WC.b (WC.a (WL.pu rfl (WL.nil (WX.a (WC.b (WC.a (WL.pu rfl (WL.nil (WX.a ?_)))))))))
 obtain ⟨z9I,zHP,h⟩:=y1u h
 refine WC.y1g ((z9I = some r)) ([(3,(.int .i64 0))]) ([]) ?_ ?_
 ·skip
  refine WC.b (WC.a (WL.pu rfl ?_))
  refine WL.qA 7 (yE Tryz.underlying109 rfl) ?_
  refine WL.pu rfl (WL.nil (WX.a (WC.block ?_)))
  refine WC.y1S (fun (zg3 : Nat) (z54 : Int)=>(y3p z52 z9I zg3 z54 = some r)) (fun zg3 z54=>[(3,(.int .i64 0)),(6,(.slice zrp z52.length zrq)),(7,(.int .i64 ((z52.length : Nat) : Int))),(8,(.int .i64 z54))]) (fun zg3 z54=>[]) (fun zg3 z54=>zg3) ⟨yB,0⟩ h (.cons rfl (.cons rfl (.cons rfl (.cons rfl .nil)))) .nil ?_
  rintro zg3 z54 h
  obtain ⟨zro,rfl⟩:=y9F h
  rw [y3p] at h
  refine WC.b (WC.a (WL.pu rfl (WL.nil (WX.a (WC.b ?_)))))
  refine WC.cond rfl (fun zrr=>?_) (fun zrr=>?_)
  ·replace h:=yn h zrr
   refine WC.skip (WX.a (WC.b (WC.block (WC.b ?_))))
   obtain ⟨zHQ,h⟩:=yq h
   refine WC.a ?_
   refine WL.znth (dd:=10) rfl rfl (Z:=Z) (Pr:=(fun r x=>r = e3 x)) zjd rfl rfl zHO zHQ ?_
   rintro zVm zVn zHR zVo rfl
   refine WL.qA 11 (yc yt rfl (y48 hz.pv zHR rfl)) ?_
   refine WL.pu rfl (WL.nil (WX.a (WC.b (WC.a (WL.pu rfl (WL.pu rfl (WL.pu rfl (WL.nil (WX.a ?_)))))))))
   refine WC.cond rfl (fun zrs=>?_) (fun zrs=>?_)
   ·replace h:=yn h zrs
    refine WC.b (WC.a (WL.pu rfl (WL.pu rfl (WL.nil (WX.a (WC.ret (WX.ys (WX.yd (WX.yd (WX.ys (WX.yd ?_)))))))))))
    obtain rfl:=Option.some.inj h
    refine WX.ye Tryz.results49 (.tmp rfl .nil) (fun w hw=>?_)
    exact ⟨yD rfl,hw.sub .nil⟩
   ·replace h:=yo h zrs
    refine WC.skip (WX.yj (WX.a (WC.a (WL.pu rfl (WL.pu rfl (WL.nil ?_))))))
    exact WX.round (G:=Nat × Int) ⟨zro,(i64 (z54 + 1))⟩ h (Nat.lt_succ_self _) (.cons rfl (.cons rfl (.cons rfl (.cons rfl .nil)))) .nil
  ·replace h:=yo h zrr
   refine WC.exit (WX.yf (WX.yf (WX.yz ?_)))
   exact WX.mid (G:=Unit) () h (.cons rfl .nil) .nil
 ·rintro  h
  replace h:=zHP.symm.trans h
  refine WC.b (WC.a (WL.pu rfl (WL.pu rfl (WL.nil (WX.a (WC.ret ?_))))))
  obtain rfl:=Option.some.inj h
  refine WX.ye Tryz.results49 (.tmp rfl .nil) (fun w hw=>?_)
  exact ⟨yD rfl,hw.sub .nil⟩
def yZ (zbX : Sbound_place) (zbY : Sbound_place) : Option Int :=
 (y3u zbX.fNode zbY.fNode).bind fun zrt=>(y3u zbX.fLink zbY.fLink).bind fun zru=>(y6b ([zrt,zru] : List Int)).bind fun zzD=>some zzD
set_option maxRecDepth 20000 in
theorem y7n (Z : Zp)  (zbX : Sbound_place) (zbY : Sbound_place) (r : Int)
  (h : yZ zbX zbY = some r) (w₀ : World) (hz : PZ [] w₀ Z) :
  Calls Tryz.prog 25 #[(.agg #[(.int .i64 zbX.fNode),(.int .i64 zbX.fLink)]),(.agg #[(.int .i64 zbY.fNode),(.int .i64 zbY.fLink)])] w₀ fun e w'=>e = .returned (.int .i64 r) ∧ Hp [] w₀ w' []:=by
 unfold yZ at h
 refine Calls.yJ Tryz.func25 Tryz.ntmps25 ?_
 refine WC.b (WC.a ?_)
 refine WL.nA 2 (yH (cs:=[(.int .i64 zbX.fNode),(.int .i64 zbX.fLink)]) rfl rfl) ?_
 intro zVp _
 refine WL.nA 3 (yH (cs:=[(.int .i64 zbY.fNode),(.int .i64 zbY.fLink)]) rfl rfl) ?_
 intro zVq _
 refine WL.pu rfl (WL.nil (WX.a (WC.b ?_)))
 obtain ⟨zrt,zHS,h⟩:=z7 h
 obtain ⟨zru,zHT,h⟩:=z7 h
 obtain ⟨zzD,zHU,h⟩:=z7 h
 refine WC.yL (fun i=>[].contains i) [] rfl ?_
 refine WD.pA 0 5 rfl (fun _=>ya y8p rfl rfl) ?_
 refine WD.qA 1 6 rfl (yc yt rfl (yk .h1 rfl)) ?_
 refine WD.pA 2 7 rfl (fun _=>ya y8p rfl rfl) ?_
 refine WD.qA 3 8 rfl (yc yt rfl (yk .here rfl)) ?_
 refine WD.eA 4 9 rfl (za (l:=[.tmp 6,.tmp 8]) Tryz.call50 (.cons rfl (.cons rfl .nil))) (cc hz .nil fun w pz ho=>y8d _ _ _ _ zHS w pz ) ?_
 refine WD.pA 5 10 rfl (fun _=>ya y9e rfl rfl) ?_
 refine WD.qA 6 11 rfl (yc yt rfl (yk .h1 rfl)) ?_
 refine WD.pA 7 12 rfl (fun _=>ya y9e rfl rfl) ?_
 refine WD.qA 8 13 rfl (yc yt rfl (yk .here rfl)) ?_
 refine WD.eA 9 14 rfl (za (l:=[.tmp 11,.tmp 13]) Tryz.call50 (.cons rfl (.cons rfl .nil))) (cc hz .nil fun w pz ho=>y8d _ _ _ _ zHT w pz ) ?_
 refine WD.new (i:=10) (dd:=15) rfl (by kernel_rfl) rfl rfl rfl (yS (cs:=([zrt,zru] : List Int).flatMap e3) zjd (Eos.parts (l:=[.tmp 9,.tmp 14]) (.cons rfl (.cons rfl .nil)) [0,1]) (fun _=>by kernel_rfl) rfl (by unfold maxLen; omega)) (fun h'=>absurd h' (by decide)) ?_
 intro zVr _
 refine WD.eA 11 16 rfl (za (l:=[.tmp 15]) Tryz.call49 (.cons rfl .nil)) (ccl hz .nil (.cons .here .nil) fun w pz ho la=>ycH _ _ _ _ _ zHU w pz (ZA.row (la _ (.head _) _) (RR.flat (enc:=e3) (fun _=>rfl) _) ⟨w,pz.1⟩)) ?_
 refine WD.pA 12 4 rfl (fun _=>q_z rfl) ?_
 refine WD.done (by kernel_rfl) ?_
 refine WX.a (WC.ret ?_)
 obtain rfl:=Option.some.inj h
 refine WX.ye Tryz.results25 (.tmp rfl .nil) (fun w hw=>?_)
 exact ⟨yD rfl,hw.sub .nil⟩
def y5w (z71 : Int) : Option Int:=chk ((0 : Int) ≤ z71 ∧ z71 ≤ 18446744073709551615) (some ((Go.Lib.bitLen (z71).toNat : Nat) : Int))
theorem y7o (Z : Zp) (z71 : Int) (r : Int) (w₀ : World) (hz : PZ [] w₀ Z) (h : y5w z71 = some r) : Calls Tryz.prog 48 #[.int .u64 z71] w₀ fun e w'=>e = .returned (.int .i64 r) ∧ Hp [] w₀ w' []:=by
 obtain ⟨h0,h⟩:=yq h
 obtain rfl:=Option.some.inj h
 refine (Tryz.bits_Len z71 w₀ h0.1 h0.2).mono ?_
 rintro e w' ⟨rfl,rfl⟩
 exact ⟨rfl,Hp.nil w' []⟩
theorem zHV : ∀ w,(isAgg (Tryz.y2J.t 24)).run Tryz.prog w = .ok true w:=fun _=>by kernel_rfl
theorem zHW : ∀ w,(Go.sizeOf (Tryz.y2J.t 24)).run Tryz.prog w = .ok 2 w:=fun _=>by kernel_rfl
def y2S (z4t : List Sbound_place) (zjI : Int) (zjJ : Int) (zg4 : Int) (ze6 : Sbound_place → Sbound_place → Option Int) : Option (List Sbound_place):=chk ((zjI = 0 ∧ zjJ = ((z4t.length : Nat) : Int)) ∧ (0 ≤ zg4 ∧ zg4 < 4611686018427387904 ∧ z4t.length < 4611686018427387904)) (chk (y7B ze6 (y1k ze6 z4t) = true) (some (y1k ze6 z4t)))
theorem y6q (Z : Zp) (ze7 : Option Addr) (ze8 : Nat) (zjK : FuncId) (zrv : List Value) (z4t : List Sbound_place) (zjI : Int) (zjJ : Int) (zg4 : Int) (ze6 : Sbound_place → Sbound_place → Option Int) (r : List Sbound_place) (w₀ : World) (hz : PZ (fps [row (.slice ze7 z4t.length ze8) 97 2 (z4t.flatMap e97)]) w₀ Z)
  (zHX : ∀ args w,(callFunc zjK args).run Tryz.prog w = .ok (.enter zjK args) w)
  (zHY : ∀ w : World,PZ [] w Z → ∀ (x0 : Sbound_place) (x1 : Sbound_place) (r : Int),ze6 x0 x1 = some r → Calls Tryz.prog zjK (([(.agg #[(.int .i64 x0.fNode),(.int .i64 x0.fLink)]),(.agg #[(.int .i64 x1.fNode),(.int .i64 x1.fLink)])] : List Value) ++ zrv).toArray w fun e w'=>e = .returned (.int .i64 r) ∧ Hp [] w w' [])
  (h : y2S z4t zjI zjJ zg4 ze6 = some r) (hown : Hp (fps [row (.slice ze7 z4t.length ze8) 97 2 (z4t.flatMap e97)]) w₀ w₀ [row (.slice ze7 z4t.length ze8) 97 2 (z4t.flatMap e97)]) :
  Calls Tryz.prog 104 #[(.slice ze7 z4t.length ze8),(.int .i64 zjI),(.int .i64 zjJ),(.int .i64 zg4),(.func (.func zjK) #[] (zrv).toArray)] w₀ fun e w'=>e = .returned (.tuple #[]) ∧ (r.length = z4t.length) ∧ Hp (fps [row (.slice ze7 z4t.length ze8) 97 2 (z4t.flatMap e97)]) w₀ w' [row (.slice ze7 r.length ze8) 97 2 (r.flatMap e97)]:=by
 obtain ⟨h0,h⟩:=yq h
 obtain ⟨h1,h⟩:=yq h
 have hr:=(Option.some.inj h).symm
 exact y7O (P:=Tryz.prog) (f:=104) (e:=97) (k:=2) (enc:=e97) (fun _=>rfl) (by decide) yat (fun β _ enc cf g cb hO blk off cap d0 w0 eg hC R=>Tryz.y7C 2 zHV zHW enc cf g cb hO blk off cap d0 w0 eg hC R) (Tryz.y7u (α:=Unit)) hz zHX zHY h0 h1 hr hown
def y1a (z43 : List Sbound_place) (zg5 : Sbound_place → Sbound_place → Option Int) : Option (List Sbound_place) :=
 (y5w (u64 ((z43.length : Nat) : Int))).bind fun zmB=>(y2S z43 0 ((z43.length : Nat) : Int) zmB zg5).bind fun zmC=>some zmC
set_option maxRecDepth 20000 in
theorem y5o (Z : Zp) (zbZ : Option Addr) (zc0 : Nat) (zg6 : FuncId) (zmD : List Value) (z43 : List Sbound_place) (zg5 : Sbound_place → Sbound_place → Option Int) (r : List Sbound_place)
  (h : y1a z43 zg5 = some r) (w₀ : World) (hz : PZ (fps [row (.slice zbZ z43.length zc0) 97 2 (z43.flatMap e97)]) w₀ Z)
  (zHZ : ∀ args w,(callFunc zg6 args).run Tryz.prog w = .ok (.enter zg6 args) w)
  (zI0 : ∀ w : World,PZ [] w Z → ∀ (x0 : Sbound_place) (x1 : Sbound_place) (r : Int),zg5 x0 x1 = some r → Calls Tryz.prog zg6 (([(.agg #[(.int .i64 x0.fNode),(.int .i64 x0.fLink)]),(.agg #[(.int .i64 x1.fNode),(.int .i64 x1.fLink)])] : List Value) ++ zmD).toArray w fun e w'=>e = .returned (.int .i64 r) ∧ Hp [] w w' [])
  (hown : Hp (fps [row (.slice zbZ z43.length zc0) 97 2 (z43.flatMap e97)]) w₀ w₀ [row (.slice zbZ z43.length zc0) 97 2 (z43.flatMap e97)]) :
  Calls Tryz.prog 64 #[(.slice zbZ z43.length zc0),(.func (.func zg6) #[] (zmD).toArray)] w₀ fun e w'=>e = .returned (.tuple #[]) ∧ (r.length = z43.length) ∧ Hp (fps [row (.slice zbZ z43.length zc0) 97 2 (z43.flatMap e97)]) w₀ w' [row (.slice zbZ r.length zc0) 97 2 (r.flatMap e97)]:=by
 unfold y1a at h
 refine Calls.oh2 Tryz.func64 Tryz.ntmps64 hown ?_
 refine WC.b (WC.a (WL.pu rfl ?_))
 refine WL.qA 6 (yE Tryz.underlying88 rfl) ?_
 refine WL.pu rfl (WL.nil (WX.a ?_))
 obtain ⟨zmB,zI1,h⟩:=z7 h
 obtain ⟨zmC,zI2,h⟩:=z7 h
 refine WC.a (WL.pu rfl (WL.pu rfl (WL.pu rfl ?_)))
 refine WL.qA 10 (y7f Tryz.underlying3 Tryz.underlying142 rfl rfl) ?_
 refine WL.cA 11 (za (l:=[.tmp 10]) Tryz.call48 (.cons rfl .nil)) .nil (cc hz .nil fun w pz ho=>y7o (Z:=_)  (z71:=(u64 ((z43.length : Nat) : Int))) (r:=zmB) w pz  zI1) ?_
 refine WL.pu rfl ?_
 refine WL.y4e (dd:=13) rfl rfl rfl (za (l:=[.tmp 7,.const (.int .i64 0),.tmp 8,.tmp 11,.tmp 12]) Tryz.call104 (.cons rfl (.cons rfl (.cons rfl (.cons rfl (.cons rfl .nil)))))) (.cons .here .nil) (cc hz (.cons .here .nil) fun w pz ho=>y6q (Z:=_) (ze7:=zbZ) (ze8:=zc0) (zjK:=zg6) (zrv:=zmD) (z4t:=z43) (zjI:=0) (zjJ:=((z43.length : Nat) : Int)) (zg4:=zmB) (ze6:=zg5) (r:=zmC) w pz zHZ zI0 zI2 ho) ?_
 rintro  zzE
 refine WL.repin (i:=0) rfl (u:=(.slice zbZ zmC.length zc0)) (y89 zzE.symm) ?_
 refine WL.nil ?_
 obtain rfl:=Option.some.inj h
 refine WX.y4c Tryz.results64 .nil (fun w hw=>?_)
 exact ⟨y6Q,(zzE.trans rfl),hw.sub (.cons .here .nil)⟩
def y2X (z1k : List (List Sapi_Hop)) (z1x : Int) (z9J : (List Sbound_place) → Option (List Sbound_place)) : Nat → (List Sbound_place) → Int → Option (List Sbound_place)
 | 0,_,_=>none
 | zrw + 1,z3b,z3c=>if decide (z3c < (((nth z1k z1x).length : Nat) : Int)) then jp1 (fun (z7P : List Sbound_place)=>y2X z1k z1x z9J zrw z7P (i64 (z3c + 1))) fun zmE=>chk ((0 : Int) ≤ z3c ∧ z3c < (((nth z1k z1x).length : Nat) : Int)) ((y3o (⟨((nth (nth z1k z1x) z3c).fNode),((nth (nth z1k z1x) z3c).fNext),((nth (nth z1k z1x) z3c).fLink)⟩ : Sapi_Hop)).bind fun zzF=>(y19 z3b zzF).bind fun zzG=>if !zzG then (y3o (⟨((nth (nth z1k z1x) z3c).fNode),((nth (nth z1k z1x) z3c).fNext),((nth (nth z1k z1x) z3c).fLink)⟩ : Sapi_Hop)).bind fun ze9=>chk ((((z3b ++ ([ze9] : List Sbound_place)).length : Nat) : Int) * 16 ≤ 140737488355328 ∧ (((z3b ++ ([ze9] : List Sbound_place)).length : Nat) : Int) ≤ 4611686018427387904) (zmE (z3b ++ ([ze9] : List Sbound_place))) else zmE z3b) else z9J z3b
theorem y90 {n : Nat} {z1k : List (List Sapi_Hop)} {z1x : Int} {z9J : (List Sbound_place) → Option (List Sbound_place)} {z3b : List Sbound_place} {z3c : Int} {r : List Sbound_place} (h : y2X z1k z1x z9J n z3b z3c = some r) : ∃ m,n = m + 1:=by
 cases n with
 | zero=>cases h
 | succ m=>exact ⟨m,rfl⟩
def y2Y (z1k : List (List Sapi_Hop)) (z9K : (List Sbound_place) → Option (List Sbound_place)) : Nat → (List Sbound_place) → Int → Option (List Sbound_place)
 | 0,_,_=>none
 | zrx + 1,z5s,z1x=>if decide (z1x < ((z1k.length : Nat) : Int)) then jp1 (fun (z7Q : List Sbound_place)=>y2Y z1k z9K zrx z7Q (i64 (z1x + 1))) fun zry=>chk ((0 : Int) ≤ z1x ∧ z1x < ((z1k.length : Nat) : Int)) (jp1 (fun (z7R : List Sbound_place)=>zry z7R) fun z9J=>y2X z1k z1x z9J yB z5s 0) else z9K z5s
theorem y91 {n : Nat} {z1k : List (List Sapi_Hop)} {z9K : (List Sbound_place) → Option (List Sbound_place)} {z5s : List Sbound_place} {z1x : Int} {r : List Sbound_place} (h : y2Y z1k z9K n z5s z1x = some r) : ∃ m,n = m + 1:=by
 cases n with
 | zero=>cases h
 | succ m=>exact ⟨m,rfl⟩
def y5i (z1k : List (List Sapi_Hop)) : Option (List Sbound_place) :=
 jp1 (fun (z8o : List Sbound_place)=>(y1a z8o (fun (y0 : Sbound_place) (y1 : Sbound_place)=>yZ y0 y1)).bind fun zrz=>some zrz) fun z9K=>y2Y z1k z9K yB ([] : List Sbound_place) 0
set_option maxRecDepth 20000 in
theorem ybP (Z : Zp) (zea : Option Addr) (zeb : Nat) (z1k : List (List Sapi_Hop)) (r : List Sbound_place)
  (h : y5i z1k = some r) (w₀ : World) (hz : PZ [] w₀ Z)
  (zI3 : ZS Z 1 (p48 Z) zea zeb z1k) :
  Calls Tryz.prog 35 #[(.slice zea z1k.length zeb)] w₀ fun e w'=>∃ zzH : Option Addr,∃ zzI : Nat,e = .returned (.slice zzH r.length zzI) ∧ True ∧ Hp [] w₀ w' [row (.slice zzH r.length zzI) 97 2 (r.flatMap e97)]:=by
 unfold y5i at h
 refine Calls.on1 Tryz.func35 Tryz.ntmps35 ?_
 refine WC.b (WC.a (WL.pu rfl (WL.nil (WX.a (WC.b (WC.a (WL.pu rfl (WL.nil (WX.a ?_)))))))))
 obtain ⟨z9K,zI4,h⟩:=yU h
 refine WC.y1x (fun (z8o : List Sbound_place) (zec : Option Addr) (zed : Nat)=>(z9K z8o = some r)) (fun z8o zec zed=>[(3,(.slice zec z8o.length zed))]) (fun z8o zec zed=>[row (.slice zec z8o.length zed) 97 2 (z8o.flatMap e97)]) ?_ ?_
 ·skip
  refine WC.b (WC.a (WL.pu rfl ?_))
  refine WL.qA 9 (yE Tryz.underlying32 rfl) ?_
  refine WL.pu rfl (WL.nil (WX.a (WC.block ?_)))
  refine WC.nilRow 97 2 ?_
  refine WC.y4k (fun (zg7 : Nat) (z5s : List Sbound_place) (z1x : Int) (zc1 : Option Addr) (zc2 : Nat)=>(y2Y z1k z9K zg7 z5s z1x = some r)) (fun zg7 z5s z1x zc1 zc2=>[(3,(.slice zc1 z5s.length zc2)),(8,(.slice zea z1k.length zeb)),(9,(.int .i64 ((z1k.length : Nat) : Int))),(10,(.int .i64 z1x))]) (fun zg7 z5s z1x zc1 zc2=>[row (.slice zc1 z5s.length zc2) 97 2 (z5s.flatMap e97)]) (fun zg7 z5s z1x zc1 zc2=>zg7) ⟨yB,([] : List Sbound_place),0,none,0⟩ h (.cons rfl (.cons rfl (.cons rfl (.cons rfl .nil)))) (.cons .here .nil) ?_
  rintro zg7 z5s z1x zc1 zc2 h
  obtain ⟨zrx,rfl⟩:=y91 h
  rw [y2Y] at h
  refine WC.b (WC.a (WL.pu rfl (WL.nil (WX.a (WC.b ?_)))))
  refine WC.cond rfl (fun zrA=>?_) (fun zrA=>?_)
  ·replace h:=yn h zrA
   refine WC.skip (WX.a ?_)
   obtain ⟨zry,zI5,h⟩:=yU h
   refine WC.y1x (fun (z7Q : List Sbound_place) (zg8 : Option Addr) (zg9 : Nat)=>(zry z7Q = some r)) (fun z7Q zg8 zg9=>[(3,(.slice zg8 z7Q.length zg9)),(8,(.slice zea z1k.length zeb)),(9,(.int .i64 ((z1k.length : Nat) : Int))),(10,(.int .i64 z1x))]) (fun z7Q zg8 zg9=>[row (.slice zg8 z7Q.length zg9) 97 2 (z7Q.flatMap e97)]) ?_ ?_
   ·skip
    refine WC.block (WC.b ?_)
    obtain ⟨zI6,h⟩:=yq h
    refine WC.a ?_
    refine WL.znth (dd:=12) rfl rfl (Z:=Z) (Pr:=(p48 Z)) y6L rfl rfl zI3 zI6 ?_
    rintro zVs zVt zI7 zVu ⟨zzJ,zzK,rfl,zI8⟩
    refine WL.qA 13 (yc y5e rfl (y48 hz.pv zI7 rfl)) ?_
    refine WL.pu rfl (WL.nil (WX.a (WC.b (WC.a (WL.pu rfl ?_)))))
    refine WL.qA 15 (yE Tryz.underlying48 rfl) ?_
    refine WL.pu rfl (WL.nil (WX.a ?_))
    obtain ⟨z9J,zI9,h⟩:=yU h
    refine WC.y99 (fun (z7R : List Sbound_place) (zga : Option Addr) (zgb : Nat)=>(z9J z7R = some r)) (fun z7R zga zgb=>[(3,(.slice zga z7R.length zgb)),(8,(.slice zea z1k.length zeb)),(9,(.int .i64 ((z1k.length : Nat) : Int))),(10,(.int .i64 z1x))]) (fun z7R zga zgb=>[row (.slice zga z7R.length zgb) 97 2 (z7R.flatMap e97)]) ?_ ?_
    ·skip
     refine WC.block ?_
     refine WC.y4k (fun (zgc : Nat) (z3b : List Sbound_place) (z3c : Int) (zc3 : Option Addr) (zc4 : Nat)=>(y2X z1k z1x z9J zgc z3b z3c = some r)) (fun zgc z3b z3c zc3 zc4=>[(3,(.slice zc3 z3b.length zc4)),(8,(.slice zea z1k.length zeb)),(9,(.int .i64 ((z1k.length : Nat) : Int))),(10,(.int .i64 z1x)),(14,(.slice zzJ ((nth z1k z1x).length) zzK)),(15,(.int .i64 (((nth z1k z1x).length : Nat) : Int))),(16,(.int .i64 z3c))]) (fun zgc z3b z3c zc3 zc4=>[row (.slice zc3 z3b.length zc4) 97 2 (z3b.flatMap e97)]) (fun zgc z3b z3c zc3 zc4=>zgc) ⟨yB,z5s,0,zc1,zc2⟩ h (.cons rfl (.cons rfl (.cons rfl (.cons rfl (.cons rfl (.cons rfl (.cons rfl .nil))))))) (.cons .here .nil) ?_
     rintro zgc z3b z3c zc3 zc4 h
     obtain ⟨zrw,rfl⟩:=y90 h
     rw [y2X] at h
     refine WC.b (WC.a (WL.pu rfl (WL.nil (WX.a (WC.b ?_)))))
     refine WC.cond rfl (fun zrB=>?_) (fun zrB=>?_)
     ·replace h:=yn h zrB
      refine WC.skip (WX.a ?_)
      obtain ⟨zmE,zIa,h⟩:=yU h
      refine WC.y1x (fun (z7P : List Sbound_place) (zgd : Option Addr) (zge : Nat)=>(zmE z7P = some r)) (fun z7P zgd zge=>[(3,(.slice zgd z7P.length zge)),(8,(.slice zea z1k.length zeb)),(9,(.int .i64 ((z1k.length : Nat) : Int))),(10,(.int .i64 z1x)),(14,(.slice zzJ ((nth z1k z1x).length) zzK)),(15,(.int .i64 (((nth z1k z1x).length : Nat) : Int))),(16,(.int .i64 z3c))]) (fun z7P zgd zge=>[row (.slice zgd z7P.length zge) 97 2 (z7P.flatMap e97)]) ?_ ?_
      ·skip
       refine WC.block (WC.b ?_)
       obtain ⟨zIb,h⟩:=yq h
       refine WC.a ?_
       refine WL.znth (dd:=18) rfl rfl (Z:=Z) (Pr:=(fun r x=>r = e62 x)) y3J rfl rfl zI8 zIb ?_
       rintro zVv zVw zIc zVx rfl
       refine WL.qA 19 (yg y2g rfl (y1A hz.pv zIc) rfl) ?_
       refine WL.nA 7 (yv (cs:=[(.int .i64 0),(.int .i64 0),(.int .i64 0)]) y3E rfl) ?_
       intro zVy _
       refine WL.ym rfl rfl (yl y3Q rfl rfl rfl .here rfl rfl rfl) ?_
       refine WL.nil (WX.a (WC.b ?_))
       obtain ⟨zzF,zId,h⟩:=z7 h
       obtain ⟨zzG,zIe,h⟩:=z7 h
       refine WC.a (WL.pu rfl ?_)
       refine WL.qA 21 (yg y2g rfl (yh .here) rfl) ?_
       refine WL.cA 22 (za (l:=[.tmp 21]) Tryz.call40 (.cons rfl .nil)) .nil (cc hz .nil fun w pz ho=>y4K _ _ _ zId w pz ) ?_
       refine WL.cA 23 (za (l:=[.tmp 20,.tmp 22]) Tryz.call63 (.cons rfl (.cons rfl .nil))) .nil (ccl hz .nil (.cons .h1 .nil) fun w pz ho la=>y5n _ _ _ _ _ _ zIe w pz (ZA.row (la _ (.head _) _) (RR.flat (enc:=e97) (fun _=>rfl) _) ⟨w,pz.1⟩)) ?_
       refine WL.pu rfl (WL.nil (WX.a ?_))
       refine WC.cond rfl (fun zrC=>?_) (fun zrC=>?_)
       ·replace h:=yn h zrC
        obtain ⟨ze9,zIf,h⟩:=z7 h
        obtain ⟨zIg,h⟩:=yq h
        refine WC.a (WL.pu rfl ?_)
        refine WL.qA 26 (yg y2g rfl (yh .here) rfl) ?_
        refine WL.cA 27 (za (l:=[.tmp 26]) Tryz.call40 (.cons rfl .nil)) .nil (cc hz .nil fun w pz ho=>y4K _ _ _ zIf w pz ) ?_
        refine WL.nA 28 (yS (cs:=([ze9] : List Sbound_place).flatMap e97) y4H (Eos.parts (l:=[.tmp 27]) (.cons rfl .nil) [0]) (fun _=>by kernel_rfl) rfl (by unfold maxLen; omega)) ?_
        intro zVz _
        refine WL.fA 29 (y4f (enc:=e97) (l1:=z3b) (l2:=([ze9] : List Sbound_place)) y4H rfl rfl .h2 (fun _=>rfl) rfl rfl (y3C .here) (y4C yat _) zIg) ?_
        rintro ⟨zIh,zIi⟩ _
        refine WL.pu rfl (WL.nil (WX.yj ?_))
        exact WX.mid (G:=List Sbound_place × Option Addr × Nat) ⟨(z3b ++ ([ze9] : List Sbound_place)),zIh,zIi⟩ h (.cons rfl (.cons rfl (.cons rfl (.cons rfl (.cons rfl (.cons rfl (.cons rfl .nil))))))) (.cons .here .nil)
       ·replace h:=yo h zrC
        refine WC.skip (WX.yj ?_)
        exact WX.mid (G:=List Sbound_place × Option Addr × Nat) ⟨z3b,zc3,zc4⟩ h (.cons rfl (.cons rfl (.cons rfl (.cons rfl (.cons rfl (.cons rfl (.cons rfl .nil))))))) (.cons .h1 .nil)
      ·rintro z7P zgd zge h
       replace h:=(zIa z7P).symm.trans h
       refine WC.a (WL.pu rfl (WL.pu rfl (WL.nil ?_)))
       exact WX.round (G:=Nat × List Sbound_place × Int × Option Addr × Nat) ⟨zrw,z7P,(i64 (z3c + 1)),zgd,zge⟩ h (Nat.lt_succ_self _) (.cons rfl (.cons rfl (.cons rfl (.cons rfl (.cons rfl (.cons rfl (.cons rfl .nil))))))) (.cons .here .nil)
     ·replace h:=yo h zrB
      refine WC.exit (WX.yf (WX.yf (WX.yz ?_)))
      exact WX.mid (G:=List Sbound_place × Option Addr × Nat) ⟨z3b,zc3,zc4⟩ h (.cons rfl (.cons rfl (.cons rfl (.cons rfl .nil)))) (.cons .here .nil)
    ·rintro z7R zga zgb h
     replace h:=(zI9 z7R).symm.trans h
     refine WX.yj ?_
     exact WX.mid (G:=List Sbound_place × Option Addr × Nat) ⟨z7R,zga,zgb⟩ h (.cons rfl (.cons rfl (.cons rfl (.cons rfl .nil)))) (.cons .here .nil)
   ·rintro z7Q zg8 zg9 h
    replace h:=(zI5 z7Q).symm.trans h
    refine WC.a (WL.pu rfl (WL.pu rfl (WL.nil ?_)))
    exact WX.round (G:=Nat × List Sbound_place × Int × Option Addr × Nat) ⟨zrx,z7Q,(i64 (z1x + 1)),zg8,zg9⟩ h (Nat.lt_succ_self _) (.cons rfl (.cons rfl (.cons rfl (.cons rfl .nil)))) (.cons .here .nil)
  ·replace h:=yo h zrA
   refine WC.exit (WX.yf (WX.yf (WX.yz ?_)))
   exact WX.mid (G:=List Sbound_place × Option Addr × Nat) ⟨z5s,zc1,zc2⟩ h (.cons rfl .nil) (.cons .here .nil)
 ·rintro z8o zec zed h
  replace h:=(zI4 z8o).symm.trans h
  refine WC.b ?_
  obtain ⟨zrz,zIj,h⟩:=z7 h
  refine WC.a (WL.pu rfl ?_)
  refine WL.y4e (dd:=33) rfl rfl rfl (za (l:=[.tmp 32,.func 25]) Tryz.call64 (.cons rfl (.cons rfl .nil))) (.cons .here .nil) (cc hz (.cons .here .nil) fun w pz ho=>y5o _ _ _ (zg6:=25) (zmD:=[]) _ (zg5:=(fun (y0 : Sbound_place) (y1 : Sbound_place)=>yZ y0 y1)) _ zIj w pz Tryz.call25 (fun w' hz' y0 y1  r  hr=>y7n _ _ _ _ hr w' hz' ) ho) ?_
  rintro  zIk
  refine WL.repin (i:=3) rfl (u:=(.slice zec zrz.length zed)) (y89 zIk.symm) ?_
  refine WL.nil (WX.a (WC.b (WC.a (WL.pu rfl (WL.pu rfl (WL.nil (WX.a (WC.ret ?_))))))))
  obtain rfl:=Option.some.inj h
  refine WX.ye Tryz.results35 (.tmp rfl .nil) (fun w hw=>?_)
  exact ⟨zec,zed,yD rfl,trivial,hw.sub (.cons .here .nil)⟩
end Go.Proofs.YtcahmabkeaijdaaGreat
