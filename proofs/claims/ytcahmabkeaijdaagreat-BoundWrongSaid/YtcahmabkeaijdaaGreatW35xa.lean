/- A part of this claim's proof: models of functions, walks, plain laws. No conditions. -/
import Derived.Test.YtcahmabkeaijdaaGreatZShort
import Derived.Test.YtcahmabkeaijdaaGreatZMem
import Derived.Test.YtcahmabkeaijdaaGreatShelf35
import Derived.Test.YtcahmabkeaijdaaGreatProg
set_option linter.all false
namespace Go.Proofs.YtcahmabkeaijdaaGreat
open Go Go.RowKit Sep
set_option maxRecDepth 30000
set_option maxHeartbeats 4000000
structure Sapi_Port where
 fName : ByteArray
 fKind : Int
 fOut : Bool
 fSize : Int
 fDepth : Int
 fRefresh : Int
 deriving Inhabited,DecidableEq
structure Sapi_Ins where
 fOp : Int
 fA : Int
 fB : Int
 fC : Int
 deriving Inhabited,DecidableEq
structure Sapi_Proc where
 fName : ByteArray
 fPrio : Int
 fPeriod : Int
 fLimit : Int
 fCode : List Sapi_Ins
 deriving Inhabited,DecidableEq
structure Sapi_Part where
 fName : ByteArray
 fPeriod : Int
 fLength : Int
 fMem : Int
 fSemas : List Int
 fEvents : Int
 fBoards : Int
 fBufs : List Int
 fPorts : List Sapi_Port
 fProcs : List Sapi_Proc
 deriving Inhabited,DecidableEq
structure Sapi_Module where
 fName : ByteArray
 fMem : Int
 fFrame : Int
 fParts : List Sapi_Part
 deriving Inhabited,DecidableEq
structure Sapi_Ref where
 fModule : ByteArray
 fPart : ByteArray
 fPort : ByteArray
 deriving Inhabited,DecidableEq
structure Sapi_Channel where
 fFrom : Sapi_Ref
 fTo : List Sapi_Ref
 deriving Inhabited,DecidableEq
structure Sapi_Switch where
 fName : ByteArray
 fNet : Int
 fDelay : Int
 fStore : Int
 deriving Inhabited,DecidableEq
structure Sapi_Link where
 fA : ByteArray
 fB : ByteArray
 fNet : Int
 fSlow : Int
 deriving Inhabited,DecidableEq
structure Sapi_VL where
 fName : ByteArray
 fFrom : Sapi_Ref
 fBag : Int
 fMax : Int
 fTo : List Sapi_Ref
 deriving Inhabited,DecidableEq
structure Sapi_Health where
 fModule : ByteArray
 fPart : ByteArray
 fFault : Int
 fLevel : Int
 fDo : Int
 deriving Inhabited,DecidableEq
structure Sapi_Report where
 fUnit : ByteArray
 fCode : Int
 deriving Inhabited,DecidableEq
structure Sapi_Cause where
 fUnit : ByteArray
 fNeeds : List Sapi_Report
 fUnless : List ByteArray
 deriving Inhabited,DecidableEq
structure Sapi_Version where
 fA : ByteArray
 fVA : Int
 fB : ByteArray
 fVB : Int
 deriving Inhabited,DecidableEq
structure Sapi_Config where
 fModules : List Sapi_Module
 fChannels : List Sapi_Channel
 fSwitches : List Sapi_Switch
 fLinks : List Sapi_Link
 fVLs : List Sapi_VL
 fHealth : List Sapi_Health
 fCauses : List Sapi_Cause
 fVersions : List Sapi_Version
 deriving Inhabited,DecidableEq
def e3 (x : Int) : List Value:=[(.int .i64 x)]
theorem e3_oc : ∀ x,∀ u ∈ e3 x,u.oneCell' = true:=fun _=>ocB rfl
def e346 (x : Sapi_Port) : List Value:=[(.string x.fName),(.int .u8 x.fKind),(.bool x.fOut),(.int .i64 x.fSize),(.int .i64 x.fDepth),(.int .i64 x.fRefresh)]
def e351 (x : Sapi_Ins) : List Value:=[(.int .u8 x.fOp),(.int .i64 x.fA),(.int .i64 x.fB),(.int .i64 x.fC)]
def p349 (Z : Zp) (r : List Value) (x : Sapi_Proc) : Prop:=∃ (ao0 : Option Addr) (cap0 : Nat),r = [(.string x.fName),(.int .i64 x.fPrio),(.int .i64 x.fPeriod),(.int .i64 x.fLimit),(.slice ao0 x.fCode.length cap0)] ∧ ZS Z 4 (fun r x=>r = e351 x) ao0 cap0 x.fCode
theorem yfr {Z Z' : Zp} (k : Zle Z Z') {r : List Value} {x : Sapi_Proc} (h : p349 Z r x) : p349 Z' r x:=by
 obtain ⟨ao0,cap0,hr,h0⟩:=h
 exact ⟨ao0,cap0,hr,h0.mono k⟩
def p340 (Z : Zp) (r : List Value) (x : Sapi_Part) : Prop:=∃ (ao0 : Option Addr) (cap0 : Nat) (ao1 : Option Addr) (cap1 : Nat) (ao2 : Option Addr) (cap2 : Nat) (ao3 : Option Addr) (cap3 : Nat),r = [(.string x.fName),(.int .i64 x.fPeriod),(.int .i64 x.fLength),(.int .i64 x.fMem),(.slice ao0 x.fSemas.length cap0),(.int .i64 x.fEvents),(.int .i64 x.fBoards),(.slice ao1 x.fBufs.length cap1),(.slice ao2 x.fPorts.length cap2),(.slice ao3 x.fProcs.length cap3)] ∧ ZS Z 1 (fun r x=>r = e3 x) ao0 cap0 x.fSemas ∧ ZS Z 1 (fun r x=>r = e3 x) ao1 cap1 x.fBufs ∧ ZS Z 6 (fun r x=>r = e346 x) ao2 cap2 x.fPorts ∧ ZS Z 5 (p349 Z) ao3 cap3 x.fProcs
theorem yfs {Z Z' : Zp} (k : Zle Z Z') {r : List Value} {x : Sapi_Part} (h : p340 Z r x) : p340 Z' r x:=by
 obtain ⟨ao0,cap0,ao1,cap1,ao2,cap2,ao3,cap3,hr,h0,h1,h2,h3⟩:=h
 exact ⟨ao0,cap0,ao1,cap1,ao2,cap2,ao3,cap3,hr,h0.mono k,h1.mono k,h2.mono k,(h3.mono k).weak (fun _ _ h=>yfr k h)⟩
def y4e (Z : Zp) (r : List Value) (x : Sapi_Module) : Prop:=∃ (ao0 : Option Addr) (cap0 : Nat),r = [(.string x.fName),(.int .i64 x.fMem),(.int .i64 x.fFrame),(.slice ao0 x.fParts.length cap0)] ∧ ZS Z 10 (p340 Z) ao0 cap0 x.fParts
theorem y1t {Z Z' : Zp} (k : Zle Z Z') {r : List Value} {x : Sapi_Module} (h : y4e Z r x) : y4e Z' r x:=by
 obtain ⟨ao0,cap0,hr,h0⟩:=h
 exact ⟨ao0,cap0,hr,(h0.mono k).weak (fun _ _ h=>yfs k h)⟩
def e43 (x : Sapi_Ref) : List Value:=[(.string x.fModule),(.string x.fPart),(.string x.fPort)]
def y4M (Z : Zp) (r : List Value) (x : Sapi_Channel) : Prop:=∃ (ao0 : Option Addr) (cap0 : Nat),r = [(.string x.fFrom.fModule),(.string x.fFrom.fPart),(.string x.fFrom.fPort),(.slice ao0 x.fTo.length cap0)] ∧ ZS Z 3 (fun r x=>r = e43 x) ao0 cap0 x.fTo
theorem y1A {Z Z' : Zp} (k : Zle Z Z') {r : List Value} {x : Sapi_Channel} (h : y4M Z r x) : y4M Z' r x:=by
 obtain ⟨ao0,cap0,hr,h0⟩:=h
 exact ⟨ao0,cap0,hr,h0.mono k⟩
def e66 (x : Sapi_Switch) : List Value:=[(.string x.fName),(.int .i64 x.fNet),(.int .i64 x.fDelay),(.int .i64 x.fStore)]
def e64 (x : Sapi_Link) : List Value:=[(.string x.fA),(.string x.fB),(.int .i64 x.fNet),(.int .i64 x.fSlow)]
def p46 (Z : Zp) (r : List Value) (x : Sapi_VL) : Prop:=∃ (ao0 : Option Addr) (cap0 : Nat),r = [(.string x.fName),(.string x.fFrom.fModule),(.string x.fFrom.fPart),(.string x.fFrom.fPort),(.int .i64 x.fBag),(.int .i64 x.fMax),(.slice ao0 x.fTo.length cap0)] ∧ ZS Z 3 (fun r x=>r = e43 x) ao0 cap0 x.fTo
theorem y1C {Z Z' : Zp} (k : Zle Z Z') {r : List Value} {x : Sapi_VL} (h : p46 Z r x) : p46 Z' r x:=by
 obtain ⟨ao0,cap0,hr,h0⟩:=h
 exact ⟨ao0,cap0,hr,h0.mono k⟩
theorem p46_oc {Z : Zp} {r : List Value} {x : Sapi_VL} (h : p46 Z r x) : ∀ u ∈ r,u.oneCell' = true:=by
 obtain ⟨ao0,cap0,hr,h0⟩:=h
 rw [hr]; exact ocB rfl
def y4Z (x : Sapi_Health) : List Value:=[(.string x.fModule),(.string x.fPart),(.int .u8 x.fFault),(.int .u8 x.fLevel),(.int .u8 x.fDo)]
def e344 (x : Sapi_Report) : List Value:=[(.string x.fUnit),(.int .i64 x.fCode)]
def e9 (x : ByteArray) : List Value:=[(.string x)]
def y4N (Z : Zp) (r : List Value) (x : Sapi_Cause) : Prop:=∃ (ao0 : Option Addr) (cap0 : Nat) (ao1 : Option Addr) (cap1 : Nat),r = [(.string x.fUnit),(.slice ao0 x.fNeeds.length cap0),(.slice ao1 x.fUnless.length cap1)] ∧ ZS Z 2 (fun r x=>r = e344 x) ao0 cap0 x.fNeeds ∧ ZS Z 1 (fun r x=>r = e9 x) ao1 cap1 x.fUnless
theorem y1B {Z Z' : Zp} (k : Zle Z Z') {r : List Value} {x : Sapi_Cause} (h : y4N Z r x) : y4N Z' r x:=by
 obtain ⟨ao0,cap0,ao1,cap1,hr,h0,h1⟩:=h
 exact ⟨ao0,cap0,ao1,cap1,hr,h0.mono k,h1.mono k⟩
def y50 (x : Sapi_Version) : List Value:=[(.string x.fA),(.int .i64 x.fVA),(.string x.fB),(.int .i64 x.fVB)]
structure Sapi_Hop where
 fNode : Int
 fNext : Int
 fLink : Int
 deriving Inhabited,DecidableEq
def e62 (x : Sapi_Hop) : List Value:=[(.int .i64 x.fNode),(.int .i64 x.fNext),(.int .i64 x.fLink)]
def p48 (Z : Zp) (r : List Value) (x : List Sapi_Hop) : Prop:=∃ (ao0 : Option Addr) (cap0 : Nat),r = [(.slice ao0 x.length cap0)] ∧ ZS Z 3 (fun r x=>r = e62 x) ao0 cap0 x
theorem y1e {Z Z' : Zp} (k : Zle Z Z') {r : List Value} {x : List Sapi_Hop} (h : p48 Z r x) : p48 Z' r x:=by
 obtain ⟨ao0,cap0,hr,h0⟩:=h
 exact ⟨ao0,cap0,hr,h0.mono k⟩
structure S7 where
 fX : Int
 fY : Int
 fSigned : Bool
 fCode : Int
 deriving Inhabited,DecidableEq
structure S13 where
 fMsg : ByteArray
 fAddr : Int
 deriving Inhabited,DecidableEq
structure Sbound_place where
 fNode : Int
 fLink : Int
 deriving Inhabited,DecidableEq
structure Sapi_PortBound where
 fNode : Int
 fLink : Int
 fDelay : Int
 fStore : Int
 deriving Inhabited,DecidableEq
structure Sapi_End where
 fVL : Int
 fNode : Int
 fDelay : Int
 deriving Inhabited,DecidableEq
structure S37 where
 fPorts : List Sapi_PortBound
 fEnds : List Sapi_End
 deriving Inhabited,DecidableEq
structure S49 where
 fC : Sapi_Config
 fR : List (List Sapi_Hop)
 deriving Inhabited,DecidableEq
structure S60 where
 a0 : Int
 a1 : Int
 deriving Inhabited,DecidableEq
structure S80 where
 fSent : Int
 fNode : Int
 fTime : Int
 deriving Inhabited,DecidableEq
structure S82 where
 fTime : Int
 fVL : Int
 fSize : Int
 deriving Inhabited,DecidableEq
def e97 (x : Sbound_place) : List Value:=[(.int .i64 x.fNode),(.int .i64 x.fLink)]
theorem yaP : ∀ x,∀ u ∈ e97 x,u.oneCell' = true:=fun _=>ocB rfl
structure Sbound_flow where
 fVl : Int
 fAt_ : Sbound_place
 deriving Inhabited,DecidableEq
def y2k (x : Sbound_flow) : List Value:=[(.int .i64 x.fVl),(.int .i64 x.fAt_.fNode),(.int .i64 x.fAt_.fLink)]
structure z1 where
 fN : Int
 fD : Int
 deriving Inhabited,DecidableEq
def yu (x : z1) : List Value:=[(.int .i64 x.fN),(.int .i64 x.fD)]
theorem yb7 : ∀ x,∀ u ∈ yu x,u.oneCell' = true:=fun _=>ocB rfl
structure z2 where
 fBurst : z1
 fRate : z1
 deriving Inhabited,DecidableEq
def y1D (x : z2) : List Value:=[(.int .i64 x.fBurst.fN),(.int .i64 x.fBurst.fD),(.int .i64 x.fRate.fN),(.int .i64 x.fRate.fD)]
theorem yeu : ∀ x,∀ u ∈ y1D x,u.oneCell' = true:=fun _=>ocB rfl
def y1T (Z : Zp) (r : List Value) (x : List z2) : Prop:=∃ (ao0 : Option Addr) (cap0 : Nat),r = [(.slice ao0 x.length cap0)] ∧ ZS Z 4 (fun r x=>r = y1D x) ao0 cap0 x
theorem y38 {Z Z' : Zp} (k : Zle Z Z') {r : List Value} {x : List z2} (h : y1T Z r x) : y1T Z' r x:=by
 obtain ⟨ao0,cap0,hr,h0⟩:=h
 exact ⟨ao0,cap0,hr,h0.mono k⟩
theorem p173_oc {Z : Zp} {r : List Value} {x : List z2} (h : y1T Z r x) : ∀ u ∈ r,u.oneCell' = true:=by
 obtain ⟨ao0,cap0,hr,h0⟩:=h
 rw [hr]; exact ocB rfl
structure zSv where
 fRate : z1
 fL : z1
 deriving Inhabited,DecidableEq
structure z18 where
 fE : Int
 deriving Inhabited,DecidableEq
structure S152 where
 fTime : Int
 fIn_ : Int
 fVl : Int
 fSent : Int
 fHop : Sapi_Hop
 deriving Inhabited,DecidableEq
structure S209 where
 fSlow : Int
 fDelay : Int
 fStore : Int
 deriving Inhabited,DecidableEq
structure Sport_frame where
 fSize : Int
 fFin : Int
 deriving Inhabited,DecidableEq
structure S212 where
 fNumbers : S209
 fNow : Int
 fLast : Int
 fFrames : List Sport_frame
 deriving Inhabited,DecidableEq
def e39 (x : Int) : List Value:=[(.int .i64 x)]
def e58 (x : Sapi_PortBound) : List Value:=[(.int .i64 x.fNode),(.int .i64 x.fLink),(.int .i64 x.fDelay),(.int .i64 x.fStore)]
theorem ydy : ∀ x,∀ u ∈ e58 x,u.oneCell' = true:=fun _=>ocB rfl
def e79 (x : Sapi_End) : List Value:=[(.int .i64 x.fVL),(.int .i64 x.fNode),(.int .i64 x.fDelay)]
theorem ydz : ∀ x,∀ u ∈ e79 x,u.oneCell' = true:=fun _=>ocB rfl
def e5 (x : Int) : List Value:=[(.int .u8 x)]
theorem y2z : y6f Tryz.prog 31 8:=y4T (i:=Tryz.t31) Tryz.underlying31 rfl rfl
theorem y6N : yQ Tryz.prog 31 0 0:=yF (i:=Tryz.t22) Tryz.underlying31 rfl rfl (by decide) rfl
theorem y6O : y5F Tryz.prog 22:=y3G Tryz.underlying22 rfl
theorem y9x : yQ Tryz.prog 31 2 2:=yF (i:=Tryz.t24) Tryz.underlying31 rfl rfl (by decide) rfl
theorem y9y : y5F Tryz.prog 24:=y3G Tryz.underlying24 rfl
theorem y8F : yQ Tryz.prog 31 3 3:=yF (i:=Tryz.t25) Tryz.underlying31 rfl rfl (by decide) rfl
theorem y8G : y5F Tryz.prog 25:=y3G Tryz.underlying25 rfl
theorem y2R : yQ Tryz.prog 31 4 4:=yF (i:=Tryz.t26) Tryz.underlying31 rfl rfl (by decide) rfl
theorem y3z : y5F Tryz.prog 26:=y3G Tryz.underlying26 rfl
theorem y6z : elT Tryz.prog 32 48 1 24:=⟨Tryz.underlying32,⟨Tryz.t48,_,rfl,rfl,rfl,rfl,rfl⟩,by decide⟩
theorem y6P : y5F Tryz.prog 48:=y3G Tryz.underlying48 rfl
theorem y8M : y2W Tryz.prog 31 (.agg #[(.slice none 0 0),(.slice none 0 0),(.slice none 0 0),(.slice none 0 0),(.slice none 0 0),(.slice none 0 0),(.slice none 0 0),(.slice none 0 0)]):=y2U (i:=Tryz.t31) rfl rfl
theorem elT_22 : elT Tryz.prog 22 108 4 56:=⟨Tryz.underlying22,⟨Tryz.t108,_,rfl,rfl,rfl,rfl,rfl⟩,by decide⟩
theorem yc1 : elT Tryz.prog 24 66 4 40:=⟨Tryz.underlying24,⟨Tryz.t66,_,rfl,rfl,rfl,rfl,rfl⟩,by decide⟩
theorem yc2 : elT Tryz.prog 25 64 4 48:=⟨Tryz.underlying25,⟨Tryz.t64,_,rfl,rfl,rfl,rfl,rfl⟩,by decide⟩
theorem y4q : elT Tryz.prog 26 46 7 104:=⟨Tryz.underlying26,⟨Tryz.t46,_,rfl,rfl,rfl,rfl,rfl⟩,by decide⟩
theorem y9z : y4J Tryz.prog 31 8:=y2Y (i:=Tryz.t31) rfl
theorem y5H : elT Tryz.prog 48 62 3 24:=⟨Tryz.underlying48,⟨Tryz.t62,_,rfl,rfl,rfl,rfl,rfl⟩,by decide⟩
theorem y6A : y2W Tryz.prog 38 (.agg #[(.slice none 0 0),(.slice none 0 0)]):=y2U (i:=Tryz.t38) rfl rfl
theorem yx : y5F Tryz.prog 3:=y3G Tryz.underlying3 rfl
theorem y3H : y6f Tryz.prog 62 3:=y4T (i:=Tryz.t62) Tryz.underlying62 rfl rfl
theorem y6B : y2W Tryz.prog 62 (.agg #[(.int .i64 0),(.int .i64 0),(.int .i64 0)]):=y2U (i:=Tryz.t62) rfl rfl
theorem y6Q : y4J Tryz.prog 62 3:=y2Y (i:=Tryz.t62) rfl
theorem y4U : yQ Tryz.prog 62 0 0:=yF (i:=Tryz.t3) Tryz.underlying62 rfl rfl (by decide) rfl
theorem y4V : y2W Tryz.prog 3 (.int .i64 0):=y2U (i:=Tryz.t3) rfl rfl
theorem y5h : KeyT Tryz.prog 3 (Value.int .i64):=keyT_int Tryz.underlying3
theorem y5I : yQ Tryz.prog 62 1 1:=yF (i:=Tryz.t3) Tryz.underlying62 rfl rfl (by decide) rfl
theorem yb8 : yQ Tryz.prog 62 2 2:=yF (i:=Tryz.t3) Tryz.underlying62 rfl rfl (by decide) rfl
theorem aggT_64 : y6f Tryz.prog 64 4:=y4T (i:=Tryz.t64) Tryz.underlying64 rfl rfl
theorem zeroT_64 : y2W Tryz.prog 64 (.agg #[(.string ⟨#[]⟩),(.string ⟨#[]⟩),(.int .i64 0),(.int .i64 0)]):=y2U (i:=Tryz.t64) rfl rfl
theorem sizT_64 : y4J Tryz.prog 64 4:=y2Y (i:=Tryz.t64) rfl
theorem fo_64_0 : yQ Tryz.prog 64 0 0:=yF (i:=Tryz.t9) Tryz.underlying64 rfl rfl (by decide) rfl
theorem yc3 : y5F Tryz.prog 9:=y3G Tryz.underlying9 rfl
theorem fo_108_0 : yQ Tryz.prog 108 0 0:=yF (i:=Tryz.t9) Tryz.underlying108 rfl rfl (by decide) rfl
theorem fo_66_0 : yQ Tryz.prog 66 0 0:=yF (i:=Tryz.t9) Tryz.underlying66 rfl rfl (by decide) rfl
theorem fo_64_1 : yQ Tryz.prog 64 1 1:=yF (i:=Tryz.t9) Tryz.underlying64 rfl rfl (by decide) rfl
theorem fo_64_2 : yQ Tryz.prog 64 2 2:=yF (i:=Tryz.t3) Tryz.underlying64 rfl rfl (by decide) rfl
theorem yb9 : yQ Tryz.prog 64 3 3:=yF (i:=Tryz.t3) Tryz.underlying64 rfl rfl (by decide) rfl
theorem aggT_66 : y6f Tryz.prog 66 4:=y4T (i:=Tryz.t66) Tryz.underlying66 rfl rfl
theorem zeroT_66 : y2W Tryz.prog 66 (.agg #[(.string ⟨#[]⟩),(.int .i64 0),(.int .i64 0),(.int .i64 0)]):=y2U (i:=Tryz.t66) rfl rfl
theorem sizT_66 : y4J Tryz.prog 66 4:=y2Y (i:=Tryz.t66) rfl
theorem fo_66_1 : yQ Tryz.prog 66 1 1:=yF (i:=Tryz.t3) Tryz.underlying66 rfl rfl (by decide) rfl
theorem ycs : yQ Tryz.prog 66 2 2:=yF (i:=Tryz.t3) Tryz.underlying66 rfl rfl (by decide) rfl
theorem yev : yQ Tryz.prog 66 3 3:=yF (i:=Tryz.t3) Tryz.underlying66 rfl rfl (by decide) rfl
theorem y5J : y4J Tryz.prog 38 2:=y2Y (i:=Tryz.t38) rfl
theorem y7r : y6f Tryz.prog 38 2:=y4T (i:=Tryz.t38) Tryz.underlying38 rfl rfl
theorem y9A : yQ Tryz.prog 46 2 4:=yF (i:=Tryz.t3) Tryz.underlying46 rfl rfl (by decide) rfl
theorem y6R : yQ Tryz.prog 46 3 5:=yF (i:=Tryz.t3) Tryz.underlying46 rfl rfl (by decide) rfl
theorem aggT_46 : y6f Tryz.prog 46 7:=y4T (i:=Tryz.t46) Tryz.underlying46 rfl rfl
theorem y8N : y2W Tryz.prog 97 (.agg #[(.int .i64 0),(.int .i64 0)]):=y2U (i:=Tryz.t97) rfl rfl
theorem yba : y4J Tryz.prog 97 2:=y2Y (i:=Tryz.t97) rfl
theorem y3I : y6f Tryz.prog 97 2:=y4T (i:=Tryz.t97) Tryz.underlying97 rfl rfl
theorem y5i : elT Tryz.prog 88 97 2 16:=⟨Tryz.underlying88,⟨Tryz.t97,_,rfl,rfl,rfl,rfl,rfl⟩,by decide⟩
theorem yc4 : EqT Tryz.prog 97 e97:=⟨fun u v w=>by
 have i97_10000:=fun (w : World) (a b : Array Value)=>run_equalIn_agg (P:=Tryz.prog) w 9999 97 a b (by simp [Program.fieldsOf,Tryz.underlying97]) (by kernel_rfl)
 have i3_9999:=fun (w : World) (a b : Int)=>run_equalIn_int (P:=Tryz.prog) w 9998 3 .i64 .i64 a b Tryz.underlying3
 rw [i97_10000]
 simp [Program.fieldsOf,Op.eqFields,part,e97,i97_10000,Tryz.underlying97,i3_9999]
 rcases u with ⟨u1,u2⟩
 rcases v with ⟨v1,v2⟩
 by_cases h1 : u1 = v1 <;> by_cases h2 : u2 = v2 <;> simp [h1,h2],by kernel_rfl⟩
theorem y8H : yQ Tryz.prog 97 0 0:=yF (i:=Tryz.t3) Tryz.underlying97 rfl rfl (by decide) rfl
theorem y9B : yQ Tryz.prog 97 1 1:=yF (i:=Tryz.t3) Tryz.underlying97 rfl rfl (by decide) rfl
theorem ziz : elT Tryz.prog 109 3 1 8:=⟨Tryz.underlying109,⟨Tryz.t3,_,rfl,rfl,rfl,rfl,rfl⟩,by decide⟩
theorem zeroT_93 : y2W Tryz.prog 93 (.map none):=y2U (i:=Tryz.t93) rfl rfl
theorem sizT_93 : y4J Tryz.prog 93 1:=y2Y (i:=Tryz.t93) rfl
theorem y9C : y5F Tryz.prog 93:=y3G Tryz.underlying93 rfl
theorem y7s : KeyT Tryz.prog 97 (fun x=>Value.agg (e97 x).toArray):=ydu Tryz.underlying97 (fun _ _=>rfl) (fun b k w=>by
 have c3_9999:=fun (w : World) (a : Int)=>MapKept.run_checkKey (P:=Tryz.prog) (w:=w) (kt:=3) (k:=.int .i64 a) Tryz.underlying3 (by simp [MapKept.IsKey]) b 9998
 have ck : ∀ (w : World) (u0 : Int) (u1 : Int),(Instr.checkKey b 10000 97 (.agg #[.int .i64 u0,.int .i64 u1])).run Tryz.prog w = .ok () w:=fun w u0 u1=>by
  rw [show (10000 : Nat) = 9999 + 1 from rfl,Instr.checkKey]
  simp [run_underlying Tryz.underlying97,c3_9999,part]
 exact ck w k.fNode k.fLink)
 (fun u v w=>yc4.eq u v w)
 (fun k=>by simp [Instr.sameBits,e97])
theorem y6c : yQ Tryz.prog 38 0 0:=yF (i:=Tryz.t35) Tryz.underlying38 rfl rfl (by decide) rfl
theorem y6S : y5F Tryz.prog 35:=y3G Tryz.underlying35 rfl
theorem zeroT_58 : y2W Tryz.prog 58 (.agg #[(.int .i64 0),(.int .i64 0),(.int .i64 0),(.int .i64 0)]):=y2U (i:=Tryz.t58) rfl rfl
theorem fo_95_1 : yQ Tryz.prog 95 1 8:=yF (i:=Tryz.t32) Tryz.underlying95 rfl rfl (by decide) rfl
theorem oneT_32 : y5F Tryz.prog 32:=y3G Tryz.underlying32 rfl
theorem y6d : yQ Tryz.prog 95 0 0:=yF (i:=Tryz.t31) Tryz.underlying95 rfl rfl (by decide) rfl
theorem zH : y2W Tryz.prog 132 (.agg #[(.int .i64 0),(.int .i64 0)]):=y2U (i:=Tryz.t132) rfl rfl
theorem zq : y4J Tryz.prog 132 2:=y2Y (i:=Tryz.t132) rfl
theorem zb : y6f Tryz.prog 132 2:=y4T (i:=Tryz.t132) Tryz.underlying132 rfl rfl
theorem yct : yQ Tryz.prog 95 2 9:=yF (i:=Tryz.t92) Tryz.underlying95 rfl rfl (by decide) rfl
theorem ycu : y5F Tryz.prog 92:=y3G Tryz.underlying92 rfl
theorem zEx : EqT Tryz.prog 169 y2k:=⟨fun u v w=>by
 have i169_10000:=fun (w : World) (a b : Array Value)=>run_equalIn_agg (P:=Tryz.prog) w 9999 169 a b (by simp [Program.fieldsOf,Tryz.underlying169]) (by kernel_rfl)
 have i3_9999:=fun (w : World) (a b : Int)=>run_equalIn_int (P:=Tryz.prog) w 9998 3 .i64 .i64 a b Tryz.underlying3
 have i97_9999:=fun (w : World) (a b : Array Value)=>run_equalIn_agg (P:=Tryz.prog) w 9998 97 a b (by simp [Program.fieldsOf,Tryz.underlying97]) (by kernel_rfl)
 have i3_9998:=fun (w : World) (a b : Int)=>run_equalIn_int (P:=Tryz.prog) w 9997 3 .i64 .i64 a b Tryz.underlying3
 rw [i169_10000]
 simp [Program.fieldsOf,Op.eqFields,part,y2k,i169_10000,Tryz.underlying169,i3_9999,i97_9999,Tryz.underlying97,i3_9998]
 rcases u with ⟨u1,⟨u2,u3⟩⟩
 rcases v with ⟨v1,⟨v2,v3⟩⟩
 by_cases h1 : u1 = v1 <;> by_cases h2 : u2 = v2 <;> by_cases h3 : u3 = v3 <;> simp [h1,h2,h3],by kernel_rfl⟩
theorem zod : KeyT Tryz.prog 169 (fun x=>Value.agg (y2k x).toArray):=ydu Tryz.underlying169 (fun _ _=>rfl) (fun b k w=>by
 have c3_9999:=fun (w : World) (a : Int)=>MapKept.run_checkKey (P:=Tryz.prog) (w:=w) (kt:=3) (k:=.int .i64 a) Tryz.underlying3 (by simp [MapKept.IsKey]) b 9998
 have c3_9998:=fun (w : World) (a : Int)=>MapKept.run_checkKey (P:=Tryz.prog) (w:=w) (kt:=3) (k:=.int .i64 a) Tryz.underlying3 (by simp [MapKept.IsKey]) b 9997
 have c97_9999 : ∀ (w : World) (u0 : Int) (u1 : Int),(Instr.checkKey b 9999 97 (.agg #[.int .i64 u0,.int .i64 u1])).run Tryz.prog w = .ok () w:=fun w u0 u1=>by
  rw [show (9999 : Nat) = 9998 + 1 from rfl,Instr.checkKey]
  simp [run_underlying Tryz.underlying97,c3_9998,part]
 have ck : ∀ (w : World) (u0 : Int) (u1 : Int) (u2 : Int),(Instr.checkKey b 10000 169 (.agg #[.int .i64 u0,.int .i64 u1,.int .i64 u2])).run Tryz.prog w = .ok () w:=fun w u0 u1 u2=>by
  rw [show (10000 : Nat) = 9999 + 1 from rfl,Instr.checkKey]
  simp [run_underlying Tryz.underlying169,c3_9999,c97_9999,part]
 exact ck w k.fVl k.fAt_.fNode k.fAt_.fLink)
 (fun u v w=>zEx.eq u v w)
 (fun k=>by simp [Instr.sameBits,y2k])
theorem y2f : yQ Tryz.prog 132 0 0:=yF (i:=Tryz.t3) Tryz.underlying132 rfl rfl (by decide) rfl
theorem y8O : y4J Tryz.prog 3 1:=y2Y (i:=Tryz.t3) rfl
theorem ycv : yQ Tryz.prog 95 3 10:=yF (i:=Tryz.t93) Tryz.underlying95 rfl rfl (by decide) rfl
theorem y2A : yQ Tryz.prog 132 1 1:=yF (i:=Tryz.t3) Tryz.underlying132 rfl rfl (by decide) rfl
theorem y3J : KeyT Tryz.prog 9 Value.string:=keyT_str Tryz.underlying9
theorem zlz : y2W Tryz.prog 257 .nilFunc:=y2U (i:=Tryz.t257) rfl rfl
theorem y8I : yQ Tryz.prog 95 4 11:=yF (i:=Tryz.t39) Tryz.underlying95 rfl rfl (by decide) rfl
theorem y2Z : y5F Tryz.prog 39:=y3G Tryz.underlying39 rfl
theorem y9D : y4J Tryz.prog 39 1:=y2Y (i:=Tryz.t39) rfl
theorem zoe : y2W Tryz.prog 109 (.slice none 0 0):=y2U (i:=Tryz.t109) rfl rfl
theorem z5U : elT Tryz.prog 173 171 4 32:=⟨Tryz.underlying173,⟨Tryz.t171,_,rfl,rfl,rfl,rfl,rfl⟩,by decide⟩
theorem z7n : elT Tryz.prog 128 173 1 24:=⟨Tryz.underlying128,⟨Tryz.t173,_,rfl,rfl,rfl,rfl,rfl⟩,by decide⟩
theorem z9d : y2W Tryz.prog 171 (.agg #[(.int .i64 0),(.int .i64 0),(.int .i64 0),(.int .i64 0)]):=y2U (i:=Tryz.t171) rfl rfl
theorem z82 : y4J Tryz.prog 171 4:=y2Y (i:=Tryz.t171) rfl
theorem y4z : yQ Tryz.prog 171 0 0:=yF (i:=Tryz.t132) Tryz.underlying171 rfl rfl (by decide) rfl
theorem y5A : yQ Tryz.prog 171 1 2:=yF (i:=Tryz.t132) Tryz.underlying171 rfl rfl (by decide) rfl
theorem z28 : y6f Tryz.prog 171 4:=y4T (i:=Tryz.t171) Tryz.underlying171 rfl rfl
theorem zEy : y2W Tryz.prog 135 (.agg #[(.int .i64 0),(.int .i64 0),(.int .i64 0),(.int .i64 0)]):=y2U (i:=Tryz.t135) rfl rfl
theorem zEz : y4J Tryz.prog 135 4:=y2Y (i:=Tryz.t135) rfl
theorem zfn : y6f Tryz.prog 135 4:=y4T (i:=Tryz.t135) Tryz.underlying135 rfl rfl
theorem z6A : y5F Tryz.prog 128:=y3G Tryz.underlying128 rfl
theorem zwR : y2W Tryz.prog 177 (.agg #[(.slice none 0 0),(.int .i64 0),(.int .i64 0),(.int .i64 0),(.int .i64 0),.nilFunc,(.slice none 0 0)]):=y2U (i:=Tryz.t177) rfl rfl
theorem zwS : y4J Tryz.prog 177 7:=y2Y (i:=Tryz.t177) rfl
theorem ya4 : yQ Tryz.prog 177 2 5:=yF (i:=Tryz.t174) Tryz.underlying177 rfl rfl (by decide) rfl
theorem zwT : y4J Tryz.prog 174 1:=y2Y (i:=Tryz.t174) rfl
theorem zfo : y6f Tryz.prog 177 7:=y4T (i:=Tryz.t177) Tryz.underlying177 rfl rfl
theorem y6C : yQ Tryz.prog 177 0 0:=yF (i:=Tryz.t128) Tryz.underlying177 rfl rfl (by decide) rfl
theorem zbb : y5F Tryz.prog 173:=y3G Tryz.underlying173 rfl
theorem ya5 : yQ Tryz.prog 177 1 1:=yF (i:=Tryz.t135) Tryz.underlying177 rfl rfl (by decide) rfl
theorem y7V : yQ Tryz.prog 135 0 0:=yF (i:=Tryz.t132) Tryz.underlying135 rfl rfl (by decide) rfl
theorem y7W : yQ Tryz.prog 135 1 2:=yF (i:=Tryz.t132) Tryz.underlying135 rfl rfl (by decide) rfl
theorem zlA : y2W Tryz.prog 225 (.agg #[(.int .i64 0)]):=y2U (i:=Tryz.t225) rfl rfl
theorem zwU : y2W Tryz.prog 262 (.agg #[(.int .i64 0)]):=y2U (i:=Tryz.t262) rfl rfl
theorem zof : y2W Tryz.prog 175 (.slice none 0 0):=y2U (i:=Tryz.t175) rfl rfl
theorem zwV : EqT Tryz.prog 171 y1D:=⟨fun u v w=>by
 have i171_10000:=fun (w : World) (a b : Array Value)=>run_equalIn_agg (P:=Tryz.prog) w 9999 171 a b (by simp [Program.fieldsOf,Tryz.underlying171]) (by kernel_rfl)
 have i132_9999:=fun (w : World) (a b : Array Value)=>run_equalIn_agg (P:=Tryz.prog) w 9998 132 a b (by simp [Program.fieldsOf,Tryz.underlying132]) (by kernel_rfl)
 have i3_9998:=fun (w : World) (a b : Int)=>run_equalIn_int (P:=Tryz.prog) w 9997 3 .i64 .i64 a b Tryz.underlying3
 rw [i171_10000]
 simp [Program.fieldsOf,Op.eqFields,part,y1D,i171_10000,Tryz.underlying171,i132_9999,Tryz.underlying132,i3_9998]
 rcases u with ⟨⟨u1,u2⟩,⟨u3,u4⟩⟩
 rcases v with ⟨⟨v1,v2⟩,⟨v3,v4⟩⟩
 by_cases h1 : u1 = v1 <;> by_cases h2 : u2 = v2 <;> by_cases h3 : u3 = v3 <;> by_cases h4 : u4 = v4 <;> simp [h1,h2,h3,h4],by kernel_rfl⟩
theorem z7o : y5F Tryz.prog 175:=y3G Tryz.underlying175 rfl
theorem y7X : yQ Tryz.prog 262 0 0:=yF (i:=Tryz.t39) Tryz.underlying262 rfl rfl (by decide) rfl
theorem z1H : elT Tryz.prog 175 132 2 16:=⟨Tryz.underlying175,⟨Tryz.t132,_,rfl,rfl,rfl,rfl,rfl⟩,by decide⟩
theorem zog : y4J Tryz.prog 175 1:=y2Y (i:=Tryz.t175) rfl
theorem zwW : EqT Tryz.prog 132 yu:=⟨fun u v w=>by
 have i132_10000:=fun (w : World) (a b : Array Value)=>run_equalIn_agg (P:=Tryz.prog) w 9999 132 a b (by simp [Program.fieldsOf,Tryz.underlying132]) (by kernel_rfl)
 have i3_9999:=fun (w : World) (a b : Int)=>run_equalIn_int (P:=Tryz.prog) w 9998 3 .i64 .i64 a b Tryz.underlying3
 rw [i132_10000]
 simp [Program.fieldsOf,Op.eqFields,part,yu,i132_10000,Tryz.underlying132,i3_9999]
 rcases u with ⟨u1,u2⟩
 rcases v with ⟨v1,v2⟩
 by_cases h1 : u1 = v1 <;> by_cases h2 : u2 = v2 <;> simp [h1,h2],by kernel_rfl⟩
theorem yeV : fldT Tryz.prog 171 1 2 132:=fldT_of Tryz.underlying171 rfl rfl rfl
theorem y4A : yQ Tryz.prog 225 0 0:=yF (i:=Tryz.t39) Tryz.underlying225 rfl rfl (by decide) rfl
theorem ydA : yQ Tryz.prog 177 3 6:=yF (i:=Tryz.t175) Tryz.underlying177 rfl rfl (by decide) rfl
theorem zwX : y5F Tryz.prog 174:=y3G Tryz.underlying174 rfl
theorem zwY : elT Tryz.prog 138 39 1 8:=⟨Tryz.underlying138,⟨Tryz.t39,_,rfl,rfl,rfl,rfl,rfl⟩,by decide⟩
theorem sizT_58 : y4J Tryz.prog 58 4:=y2Y (i:=Tryz.t58) rfl
theorem y9E : y6f Tryz.prog 58 4:=y4T (i:=Tryz.t58) Tryz.underlying58 rfl rfl
theorem y66 : elT Tryz.prog 35 58 4 32:=⟨Tryz.underlying35,⟨Tryz.t58,_,rfl,rfl,rfl,rfl,rfl⟩,by decide⟩
theorem sizT_35 : y4J Tryz.prog 35 1:=y2Y (i:=Tryz.t35) rfl
theorem ycw : yQ Tryz.prog 58 0 0:=yF (i:=Tryz.t3) Tryz.underlying58 rfl rfl (by decide) rfl
theorem ycx : yQ Tryz.prog 58 1 1:=yF (i:=Tryz.t3) Tryz.underlying58 rfl rfl (by decide) rfl
theorem fo_58_2 : yQ Tryz.prog 58 2 2:=yF (i:=Tryz.t3) Tryz.underlying58 rfl rfl (by decide) rfl
theorem y9F : elT Tryz.prog 36 79 3 24:=⟨Tryz.underlying36,⟨Tryz.t79,_,rfl,rfl,rfl,rfl,rfl⟩,by decide⟩
theorem yew : yQ Tryz.prog 79 1 1:=yF (i:=Tryz.t3) Tryz.underlying79 rfl rfl (by decide) rfl
theorem y7Y : yQ Tryz.prog 38 1 1:=yF (i:=Tryz.t36) Tryz.underlying38 rfl rfl (by decide) rfl
theorem sizT_36 : y4J Tryz.prog 36 1:=y2Y (i:=Tryz.t36) rfl
theorem y8J : y5F Tryz.prog 36:=y3G Tryz.underlying36 rfl
theorem ydB : EqT Tryz.prog 58 e58:=⟨fun u v w=>by
 have i58_10000:=fun (w : World) (a b : Array Value)=>run_equalIn_agg (P:=Tryz.prog) w 9999 58 a b (by simp [Program.fieldsOf,Tryz.underlying58]) (by kernel_rfl)
 have i3_9999:=fun (w : World) (a b : Int)=>run_equalIn_int (P:=Tryz.prog) w 9998 3 .i64 .i64 a b Tryz.underlying3
 rw [i58_10000]
 simp [Program.fieldsOf,Op.eqFields,part,e58,i58_10000,Tryz.underlying58,i3_9999]
 rcases u with ⟨u1,u2,u3,u4⟩
 rcases v with ⟨v1,v2,v3,v4⟩
 by_cases h1 : u1 = v1 <;> by_cases h2 : u2 = v2 <;> by_cases h3 : u3 = v3 <;> by_cases h4 : u4 = v4 <;> simp [h1,h2,h3,h4],by kernel_rfl⟩
theorem yex : y6f Tryz.prog 79 3:=y4T (i:=Tryz.t79) Tryz.underlying79 rfl rfl
theorem eqT_79 : EqT Tryz.prog 79 e79:=⟨fun u v w=>by
 have i79_10000:=fun (w : World) (a b : Array Value)=>run_equalIn_agg (P:=Tryz.prog) w 9999 79 a b (by simp [Program.fieldsOf,Tryz.underlying79]) (by kernel_rfl)
 have i3_9999:=fun (w : World) (a b : Int)=>run_equalIn_int (P:=Tryz.prog) w 9998 3 .i64 .i64 a b Tryz.underlying3
 rw [i79_10000]
 simp [Program.fieldsOf,Op.eqFields,part,e79,i79_10000,Tryz.underlying79,i3_9999]
 rcases u with ⟨u1,u2,u3⟩
 rcases v with ⟨v1,v2,v3⟩
 by_cases h1 : u1 = v1 <;> by_cases h2 : u2 = v2 <;> by_cases h3 : u3 = v3 <;> simp [h1,h2,h3],by kernel_rfl⟩
theorem ycy : y4J Tryz.prog 26 1:=y2Y (i:=Tryz.t26) rfl
def y4i (routes_60 : List (List Sapi_Hop)) (z9e : Option Bool) : Nat → Int → Option Bool
 | 0,_=>none
 | zoh + 1,z56=>if decide (z56 < ((routes_60.length : Nat) : Int)) then chk ((0 : Int) ≤ z56 ∧ z56 < ((routes_60.length : Nat) : Int)) (if decide ((((nth routes_60 z56).length : Nat) : Int) > 40) then some false else y4i routes_60 z9e zoh (i64 (z56 + 1))) else z9e
theorem yas {n : Nat} {routes_60 : List (List Sapi_Hop)} {z9e : Option Bool} {z56 : Int} {r : Bool} (h : y4i routes_60 z9e n z56 = some r) : ∃ m,n = m + 1:=by
 cases n with
 | zero=>cases h
 | succ m=>exact ⟨m,rfl⟩
def y78 (c_35 : Sapi_Config) (routes_60 : List (List Sapi_Hop)) : Option Bool :=
 if ((((decide (((c_35.fModules.length : Nat) : Int) > 8)) || (decide (((c_35.fSwitches.length : Nat) : Int) > 8))) || (decide (((c_35.fLinks.length : Nat) : Int) > 20))) || (decide (((c_35.fVLs.length : Nat) : Int) > 20))) || (decide (((routes_60.length : Nat) : Int) > 20)) then some false else jp0 (some true) fun z9e=>y4i routes_60 z9e yz 0
theorem yed (Z : Zp) (ao_36 : Option Addr) (cap_37 : Nat) (ao_39 : Option Addr) (cap_40 : Nat) (ao_42 : Option Addr) (cap_43 : Nat) (ao_45 : Option Addr) (cap_46 : Nat) (ao_48 : Option Addr) (cap_49 : Nat) (ao_51 : Option Addr) (cap_52 : Nat) (ao_54 : Option Addr) (cap_55 : Nat) (ao_57 : Option Addr) (cap_58 : Nat) (ao_61 : Option Addr) (cap_62 : Nat) (c_35 : Sapi_Config) (routes_60 : List (List Sapi_Hop)) (r : Bool)
  (h : y78 c_35 routes_60 = some r) (w₀ : World) (hz : PZ [] w₀ Z)
  (hs_38 : ZS Z 4 (y4e Z) ao_36 cap_37 c_35.fModules)
  (hs_41 : ZS Z 4 (y4M Z) ao_39 cap_40 c_35.fChannels)
  (hs_44 : ZS Z 4 (fun r x=>r = e66 x) ao_42 cap_43 c_35.fSwitches)
  (hs_47 : ZS Z 4 (fun r x=>r = e64 x) ao_45 cap_46 c_35.fLinks)
  (hs_50 : ZS Z 7 (p46 Z) ao_48 cap_49 c_35.fVLs)
  (hs_53 : ZS Z 5 (fun r x=>r = y4Z x) ao_51 cap_52 c_35.fHealth)
  (hs_56 : ZS Z 3 (y4N Z) ao_54 cap_55 c_35.fCauses)
  (hs_59 : ZS Z 4 (fun r x=>r = y50 x) ao_57 cap_58 c_35.fVersions)
  (hs_63 : ZS Z 1 (p48 Z) ao_61 cap_62 routes_60) :
  Calls Tryz.prog 8 #[(.agg #[(.slice ao_36 c_35.fModules.length cap_37),(.slice ao_39 c_35.fChannels.length cap_40),(.slice ao_42 c_35.fSwitches.length cap_43),(.slice ao_45 c_35.fLinks.length cap_46),(.slice ao_48 c_35.fVLs.length cap_49),(.slice ao_51 c_35.fHealth.length cap_52),(.slice ao_54 c_35.fCauses.length cap_55),(.slice ao_57 c_35.fVersions.length cap_58)]),(.slice ao_61 routes_60.length cap_62)] w₀ fun e w'=>e = .returned (.bool r) ∧ Hp [] w₀ w' []:=by
 unfold y78 at h
 refine Calls.yJ Tryz.func8 Tryz.ntmps8 ?_
 refine WC.b (WC.a (WL.nA 2 (yH (cs:=[(.slice ao_36 c_35.fModules.length cap_37),(.slice ao_39 c_35.fChannels.length cap_40),(.slice ao_42 c_35.fSwitches.length cap_43),(.slice ao_45 c_35.fLinks.length cap_46),(.slice ao_48 c_35.fVLs.length cap_49),(.slice ao_51 c_35.fHealth.length cap_52),(.slice ao_54 c_35.fCauses.length cap_55),(.slice ao_57 c_35.fVersions.length cap_58)]) rfl rfl) ?_))
 intro zT7 _
 refine WL.pu rfl (WL.nil (WX.a (WC.b (WC.b (WC.a (WL.qA 7 (ya y6N rfl rfl) (WL.qA 8 (yc y6O rfl (ym .here rfl)) (WL.qA 9 (yG Tryz.underlying22 rfl) (WL.pu rfl (WL.pu rfl (WL.seg false 4 11 (B:=(decide (((c_35.fModules.length : Nat) : Int) > 8)) || (decide (((c_35.fSwitches.length : Nat) : Int) > 8))) rfl rfl rfl rfl rfl rfl (fun h=>(y6v h).symm) (fun _ zEA=>?_) ?_)))))))))))
 ·skip
  refine WL.qA 12 (ya y9x rfl rfl) (WL.qA 13 (yc y9y rfl (ym .here rfl)) (WL.qA 14 (yG Tryz.underlying24 rfl) (WL.pu rfl (WL.pu rfl ?_))))
  exact WL.yB (y6w zEA) rfl rfl .all
 refine WL.pu rfl (WL.seg false 4 17 (B:=((decide (((c_35.fModules.length : Nat) : Int) > 8)) || (decide (((c_35.fSwitches.length : Nat) : Int) > 8))) || (decide (((c_35.fLinks.length : Nat) : Int) > 20))) rfl rfl rfl rfl rfl rfl (fun h=>(y6v h).symm) (fun _ zEB=>?_) ?_)
 ·skip
  refine WL.qA 18 (ya y8F rfl rfl) (WL.qA 19 (yc y8G rfl (ym .here rfl)) (WL.qA 20 (yG Tryz.underlying25 rfl) (WL.pu rfl (WL.pu rfl ?_))))
  exact WL.yB (y6w zEB) rfl rfl .all
 refine WL.pu rfl (WL.seg false 4 23 (B:=(((decide (((c_35.fModules.length : Nat) : Int) > 8)) || (decide (((c_35.fSwitches.length : Nat) : Int) > 8))) || (decide (((c_35.fLinks.length : Nat) : Int) > 20))) || (decide (((c_35.fVLs.length : Nat) : Int) > 20))) rfl rfl rfl rfl rfl rfl (fun h=>(y6v h).symm) (fun _ zEC=>?_) ?_)
 ·skip
  refine WL.qA 24 (ya y2R rfl rfl) (WL.qA 25 (yc y3z rfl (ym .here rfl)) (WL.qA 26 (yG Tryz.underlying26 rfl) (WL.pu rfl (WL.pu rfl ?_))))
  exact WL.yB (y6w zEC) rfl rfl .all
 refine WL.pu rfl (WL.seg false 3 29 (B:=((((decide (((c_35.fModules.length : Nat) : Int) > 8)) || (decide (((c_35.fSwitches.length : Nat) : Int) > 8))) || (decide (((c_35.fLinks.length : Nat) : Int) > 20))) || (decide (((c_35.fVLs.length : Nat) : Int) > 20))) || (decide (((routes_60.length : Nat) : Int) > 20))) rfl rfl rfl rfl rfl rfl (fun h=>(y6v h).symm) (fun _ zED=>?_) ?_)
 ·skip
  refine WL.pu rfl (WL.qA 31 (yG Tryz.underlying32 rfl) (WL.pu rfl (WL.pu rfl ?_)))
  exact WL.yB (y6w zED) rfl rfl .all
 refine WL.nil (WX.a (WC.cond rfl (fun zoi=>?_) (fun zoi=>?_)))
 ·replace h:=yo h zoi
  refine WC.b (WC.a (WL.pu rfl (WL.nil (WX.a (WC.ret (WX.yd ?_))))))
  obtain rfl:=Option.some.inj h
  refine WX.ye Tryz.results8 (.tmp rfl .nil) (fun w hw=>?_)
  exact ⟨yC rfl,hw.sub .nil⟩
 ·replace h:=yp h zoi
  refine WC.skip (WX.a ?_)
  obtain ⟨z9e,zEE,h⟩:=y2y h
  refine WC.y1P ((z9e = some r)) ([]) ([]) ?_ ?_
  ·skip
   refine WC.b (WC.a (WL.pu rfl (WL.qA 35 (yG Tryz.underlying32 rfl) (WL.pu rfl (WL.nil (WX.a (WC.block (WC.y2V (fun (zfp : Nat) (z56 : Int)=>(y4i routes_60 z9e zfp z56 = some r)) (fun zfp z56=>[(34,(.slice ao_61 routes_60.length cap_62)),(35,(.int .i64 ((routes_60.length : Nat) : Int))),(36,(.int .i64 z56))]) (fun zfp z56=>[]) (fun zfp z56=>zfp) ⟨yz,0⟩ h (.r3 rfl rfl rfl) .nil ?_))))))))
   rintro zfp z56 h
   obtain ⟨zoh,rfl⟩:=yas h
   rw [y4i] at h
   refine WC.b (WC.a (WL.pu rfl (WL.nil (WX.a (WC.b (WC.cond rfl (fun zoj=>?_) (fun zoj=>?_)))))))
   ·replace h:=yo h zoj
    refine WC.skip (WX.a (WC.b (WC.block (WC.b ?_))))
    obtain ⟨zEF,h⟩:=yn h
    refine WC.a (WL.znth (dd:=38) rfl rfl (Z:=Z) (Pr:=(p48 Z)) y6z rfl rfl hs_63 zEF ?_)
    rintro zT8 zT9 zEG zTa ⟨zTb,zTc,rfl,zTd⟩
    refine WL.qA 39 (yc y6P rfl (y57 hz.pv zEG rfl)) (WL.pu rfl (WL.nil (WX.a (WC.b (WC.a (WL.pu rfl (WL.qA 41 (yG Tryz.underlying48 rfl) (WL.pu rfl (WL.nil (WX.a (WC.cond rfl (fun zol=>?_) (fun zol=>?_))))))))))))
    ·replace h:=yo h zol
     refine WC.b (WC.a (WL.pu rfl (WL.nil (WX.a (WC.ret (WX.yt (WX.yd (WX.yd (WX.yt (WX.yd ?_))))))))))
     obtain rfl:=Option.some.inj h
     refine WX.ye Tryz.results8 (.tmp rfl .nil) (fun w hw=>?_)
     exact ⟨yC rfl,hw.sub .nil⟩
    ·replace h:=yp h zol
     refine WC.skip (WX.yk (WX.a (WC.a (WL.pu rfl (WL.pu rfl (WL.nil ?_))))))
     exact WX.round ⟨zoh,(i64 (z56 + 1))⟩ h (Nat.lt_succ_self _) (.r3 rfl rfl rfl) .nil
   ·replace h:=yp h zoj
    refine WC.exit (WX.yg (WX.yg (WX.yA ?_)))
    exact WX.mid () h .nil .nil
  ·rintro  h
   replace h:=zEE.symm.trans h
   refine WC.b (WC.a (WL.pu rfl (WL.nil (WX.a (WC.ret ?_)))))
   obtain rfl:=Option.some.inj h
   refine WX.ye Tryz.results8 (.tmp rfl .nil) (fun w hw=>?_)
   exact ⟨yC rfl,hw.sub .nil⟩
def y6n  : Option (Sapi_Config × List (List Sapi_Hop)) :=
 some ((⟨([(⟨⟨#[109]⟩,0,0,[]⟩ : Sapi_Module),(⟨⟨#[110]⟩,0,0,[]⟩ : Sapi_Module)] : List Sapi_Module),[],([(⟨⟨#[115]⟩,0,16,100⟩ : Sapi_Switch)] : List Sapi_Switch),([(⟨⟨#[109]⟩,⟨#[115]⟩,0,1⟩ : Sapi_Link),(⟨⟨#[110]⟩,⟨#[115]⟩,0,1⟩ : Sapi_Link)] : List Sapi_Link),([(⟨⟨#[]⟩,(⟨⟨#[]⟩,⟨#[]⟩,⟨#[]⟩⟩ : Sapi_Ref),200,40,[]⟩ : Sapi_VL)] : List Sapi_VL),[],[],[]⟩ : Sapi_Config),([([(⟨0,2,0⟩ : Sapi_Hop),(⟨2,1,1⟩ : Sapi_Hop)] : List Sapi_Hop)] : List (List Sapi_Hop)))
theorem y9c (Z : Zp)  (r : Sapi_Config × List (List Sapi_Hop))
  (h : y6n = some r) (w₀ : World) (hz : PZ [] w₀ Z) :
  Calls Tryz.prog 14 #[] w₀ fun e w'=>∃ Zn : Zp,∃ zwZ : Option Addr,∃ zx0 : Nat,∃ zx1 : List Value,∃ zx2 : Option Addr,∃ zx3 : Nat,∃ zx4 : Option Addr,∃ zx5 : Nat,∃ zx6 : Option Addr,∃ zx7 : Nat,∃ zx8 : Option Addr,∃ zx9 : Nat,∃ zxa : List Value,∃ zxb : Option Addr,∃ zxc : Nat,∃ zxd : Option Addr,∃ zxe : Nat,∃ zxf : Option Addr,∃ zxg : Nat,∃ zxh : Option Addr,∃ zxi : Nat,∃ zxj : List Value,e = .returned (.tuple #[(.agg #[(.slice zwZ r.1.fModules.length zx0),(.slice zx2 r.1.fChannels.length zx3),(.slice zx4 r.1.fSwitches.length zx5),(.slice zx6 r.1.fLinks.length zx7),(.slice zx8 r.1.fVLs.length zx9),(.slice zxb r.1.fHealth.length zxc),(.slice zxd r.1.fCauses.length zxe),(.slice zxf r.1.fVersions.length zxg)]),(.slice zxh r.2.length zxi)]) ∧ ((RR 4 (y4e (Z ++ Zn)) zx1 r.1.fModules) ∧ (ZS (Z ++ Zn) 4 (y4M (Z ++ Zn)) zx2 zx3 r.1.fChannels) ∧ (RR 7 (p46 (Z ++ Zn)) zxa r.1.fVLs) ∧ (ZS (Z ++ Zn) 5 (fun r x=>r = y4Z x) zxb zxc r.1.fHealth) ∧ (ZS (Z ++ Zn) 3 (y4N (Z ++ Zn)) zxd zxe r.1.fCauses) ∧ (ZS (Z ++ Zn) 4 (fun r x=>r = y50 x) zxf zxg r.1.fVersions) ∧ (RR 1 (p48 (Z ++ Zn)) zxj r.2)) ∧ Hp [] w₀ w' [fz Zn,row (.slice zwZ r.1.fModules.length zx0) 108 4 zx1,row (.slice zx4 r.1.fSwitches.length zx5) 66 4 (r.1.fSwitches.flatMap e66),row (.slice zx6 r.1.fLinks.length zx7) 64 4 (r.1.fLinks.flatMap e64),row (.slice zx8 r.1.fVLs.length zx9) 46 7 zxa,row (.slice zxh r.2.length zxi) 48 1 zxj]:=by
 unfold y6n at h
 refine Calls.on0 Tryz.func14 Tryz.ntmps14 ?_
 refine WC.pool (WC.b (WC.a (WL.nA 0 (yw (cs:=[(.slice none 0 0),(.slice none 0 0),(.slice none 0 0),(.slice none 0 0),(.slice none 0 0),(.slice none 0 0),(.slice none 0 0),(.slice none 0 0)]) y8M rfl) ?_)))
 intro zTe _
 refine WL.pu rfl (WL.nil (WX.a (WC.b (WC.a (WL.qA 3 (yI (v:=(.agg #[(.string ⟨#[109]⟩),(.int .i64 0),(.int .i64 0),(.slice none 0 0)])) (Eos.parts (l:=[.const (.string ⟨#[109]⟩)]) (.cons rfl .nil) [0]) (fun _=>by kernel_rfl)) (WL.qA 4 (yI (v:=(.agg #[(.string ⟨#[110]⟩),(.int .i64 0),(.int .i64 0),(.slice none 0 0)])) (Eos.parts (l:=[.const (.string ⟨#[110]⟩)]) (.cons rfl .nil) [0]) (fun _=>by kernel_rfl)) ?_))))))
 have zEH : RR 4 (y4e (Z ++ [])) [(.string ⟨#[109]⟩),(.int .i64 0),(.int .i64 0),(.slice none 0 0),(.string ⟨#[110]⟩),(.int .i64 0),(.int .i64 0),(.slice none 0 0)] ([(⟨⟨#[109]⟩,0,0,[]⟩ : Sapi_Module),(⟨⟨#[110]⟩,0,0,[]⟩ : Sapi_Module)] : List Sapi_Module):=(RR.cons (r:=[(.string ⟨#[109]⟩),(.int .i64 0),(.int .i64 0),(.slice none 0 0)]) rfl (show y4e _ _ _ from ⟨_,_,rfl,(ZS.nil _ _ _)⟩) (RR.cons (r:=[(.string ⟨#[110]⟩),(.int .i64 0),(.int .i64 0),(.slice none 0 0)]) rfl (show y4e _ _ _ from ⟨_,_,rfl,(ZS.nil _ _ _)⟩) (RR.nil _ _)))
 refine WL.nA 5 (yN (cs:=[(.string ⟨#[109]⟩),(.int .i64 0),(.int .i64 0),(.slice none 0 0),(.string ⟨#[110]⟩),(.int .i64 0),(.int .i64 0),(.slice none 0 0)]) elT_22 (Eos.parts (l:=[.tmp 3,.tmp 4]) (.r2 rfl rfl) [0,1]) (fun _=>by kernel_rfl) rfl (by unfold maxLen; omega)) ?_
 intro zxk _
 refine WL.qA 6 (yI (v:=(.agg #[(.string ⟨#[115]⟩),(.int .i64 0),(.int .i64 16),(.int .i64 100)])) (Eos.parts (l:=[.const (.string ⟨#[115]⟩),.const (.int .i64 16),.const (.int .i64 100)]) (.r3 rfl rfl rfl) [0,2,3]) (fun _=>by kernel_rfl)) (WL.nA 7 (yN (cs:=([(⟨⟨#[115]⟩,0,16,100⟩ : Sapi_Switch)] : List Sapi_Switch).flatMap e66) yc1 (Eos.parts (l:=[.tmp 6]) (.cons rfl .nil) [0]) (fun _=>by kernel_rfl) rfl (by unfold maxLen; omega)) ?_)
 intro zxl _
 refine WL.qA 8 (yI (v:=(.agg #[(.string ⟨#[109]⟩),(.string ⟨#[115]⟩),(.int .i64 0),(.int .i64 1)])) (Eos.parts (l:=[.const (.string ⟨#[109]⟩),.const (.string ⟨#[115]⟩),.const (.int .i64 1)]) (.r3 rfl rfl rfl) [0,1,3]) (fun _=>by kernel_rfl)) (WL.qA 9 (yI (v:=(.agg #[(.string ⟨#[110]⟩),(.string ⟨#[115]⟩),(.int .i64 0),(.int .i64 1)])) (Eos.parts (l:=[.const (.string ⟨#[110]⟩),.const (.string ⟨#[115]⟩),.const (.int .i64 1)]) (.r3 rfl rfl rfl) [0,1,3]) (fun _=>by kernel_rfl)) (WL.nA 10 (yN (cs:=([(⟨⟨#[109]⟩,⟨#[115]⟩,0,1⟩ : Sapi_Link),(⟨⟨#[110]⟩,⟨#[115]⟩,0,1⟩ : Sapi_Link)] : List Sapi_Link).flatMap e64) yc2 (Eos.parts (l:=[.tmp 8,.tmp 9]) (.r2 rfl rfl) [0,1]) (fun _=>by kernel_rfl) rfl (by unfold maxLen; omega)) ?_))
 intro zxm _
 refine WL.qA 11 (yI (v:=(.agg #[(.string ⟨#[]⟩),(.string ⟨#[]⟩),(.string ⟨#[]⟩),(.string ⟨#[]⟩),(.int .i64 200),(.int .i64 40),(.slice none 0 0)])) (Eos.parts (l:=[.const (.int .i64 200),.const (.int .i64 40)]) (.r2 rfl rfl) [2,3]) (fun _=>by kernel_rfl)) ?_
 have zEI : RR 7 (p46 (Z ++ [])) [(.string ⟨#[]⟩),(.string ⟨#[]⟩),(.string ⟨#[]⟩),(.string ⟨#[]⟩),(.int .i64 200),(.int .i64 40),(.slice none 0 0)] ([(⟨⟨#[]⟩,(⟨⟨#[]⟩,⟨#[]⟩,⟨#[]⟩⟩ : Sapi_Ref),200,40,[]⟩ : Sapi_VL)] : List Sapi_VL):=(RR.cons (r:=[(.string ⟨#[]⟩),(.string ⟨#[]⟩),(.string ⟨#[]⟩),(.string ⟨#[]⟩),(.int .i64 200),(.int .i64 40),(.slice none 0 0)]) rfl (show p46 _ _ _ from ⟨_,_,rfl,(ZS.nil _ _ _)⟩) (RR.nil _ _))
 refine WL.nA 12 (yN (cs:=[(.string ⟨#[]⟩),(.string ⟨#[]⟩),(.string ⟨#[]⟩),(.string ⟨#[]⟩),(.int .i64 200),(.int .i64 40),(.slice none 0 0)]) y4q (Eos.parts (l:=[.tmp 11]) (.cons rfl .nil) [0]) (fun _=>by kernel_rfl) rfl (by unfold maxLen; omega)) ?_
 intro zxn _
 refine WL.qA 13 (yI (v:=(.agg #[(.slice (some ⟨zxk,0,none⟩) (([(⟨⟨#[109]⟩,0,0,[]⟩ : Sapi_Module),(⟨⟨#[110]⟩,0,0,[]⟩ : Sapi_Module)] : List Sapi_Module).length) 2),(.slice none 0 0),(.slice (some ⟨zxl,0,none⟩) (([(⟨⟨#[115]⟩,0,16,100⟩ : Sapi_Switch)] : List Sapi_Switch).length) 1),(.slice (some ⟨zxm,0,none⟩) (([(⟨⟨#[109]⟩,⟨#[115]⟩,0,1⟩ : Sapi_Link),(⟨⟨#[110]⟩,⟨#[115]⟩,0,1⟩ : Sapi_Link)] : List Sapi_Link).length) 2),(.slice (some ⟨zxn,0,none⟩) (([(⟨⟨#[]⟩,(⟨⟨#[]⟩,⟨#[]⟩,⟨#[]⟩⟩ : Sapi_Ref),200,40,[]⟩ : Sapi_VL)] : List Sapi_VL).length) 1),(.slice none 0 0),(.slice none 0 0),(.slice none 0 0)])) (Eos.parts (l:=[.tmp 5,.tmp 7,.tmp 10,.tmp 12]) (.r4 rfl rfl rfl rfl) [0,2,3,4]) (fun _=>by kernel_rfl)) (WL.nA 2 (yw (cs:=[(.slice none 0 0),(.slice none 0 0),(.slice none 0 0),(.slice none 0 0),(.slice none 0 0),(.slice none 0 0),(.slice none 0 0),(.slice none 0 0)]) y8M rfl) ?_)
 intro zTf _
 refine WL.yj rfl rfl (yl y9z rfl rfl rfl .here rfl rfl rfl) (WL.nil (WX.a (WC.b (WC.a (WL.qA 14 (yf y2z rfl (yh .here) rfl) (WL.qA 15 (yI (v:=(.agg #[(.int .i64 0),(.int .i64 2),(.int .i64 0)])) (Eos.parts (l:=[.const (.int .i64 0),.const (.int .i64 2),.const (.int .i64 0)]) (.r3 rfl rfl rfl) [0,1,2]) (fun _=>by kernel_rfl)) (WL.qA 16 (yI (v:=(.agg #[(.int .i64 2),(.int .i64 1),(.int .i64 1)])) (Eos.parts (l:=[.const (.int .i64 2),.const (.int .i64 1),.const (.int .i64 1)]) (.r3 rfl rfl rfl) [0,1,2]) (fun _=>by kernel_rfl)) (WL.nA 17 (yN (cs:=([(⟨0,2,0⟩ : Sapi_Hop),(⟨2,1,1⟩ : Sapi_Hop)] : List Sapi_Hop).flatMap e62) y5H (Eos.parts (l:=[.tmp 15,.tmp 16]) (.r2 rfl rfl) [0,1]) (fun _=>by kernel_rfl) rfl (by unfold maxLen; omega)) ?_))))))))
 intro zlB _
 refine WL.freezeS (ls:=([(⟨0,2,0⟩ : Sapi_Hop),(⟨2,1,1⟩ : Sapi_Hop)] : List Sapi_Hop)) .here .h6 hz (RR.flat (enc:=e62) (fun _=>rfl) _) ?_
 intro zxo zxp zEJ
 have zEK : RR 1 (p48 (Z ++ zxo)) [(.slice (some ⟨zlB,0,none⟩) (([(⟨0,2,0⟩ : Sapi_Hop),(⟨2,1,1⟩ : Sapi_Hop)] : List Sapi_Hop).length) 2)] ([([(⟨0,2,0⟩ : Sapi_Hop),(⟨2,1,1⟩ : Sapi_Hop)] : List Sapi_Hop)] : List (List Sapi_Hop)):=(RR.cons (r:=[(.slice (some ⟨zlB,0,none⟩) (([(⟨0,2,0⟩ : Sapi_Hop),(⟨2,1,1⟩ : Sapi_Hop)] : List Sapi_Hop).length) 2)]) rfl (show p48 _ _ _ from ⟨_,_,rfl,zEJ⟩) (RR.nil _ _))
 refine WL.nA 18 (yN (cs:=[(.slice (some ⟨zlB,0,none⟩) (([(⟨0,2,0⟩ : Sapi_Hop),(⟨2,1,1⟩ : Sapi_Hop)] : List Sapi_Hop).length) 2)]) y6z (Eos.parts (l:=[.tmp 17]) (.cons rfl .nil) [0]) (fun _=>by kernel_rfl) rfl (by unfold maxLen; omega)) ?_
 intro zEL _
 refine WL.yj rfl rfl (yl y9z rfl rfl rfl .h7 rfl rfl rfl) (WL.pu rfl (WL.nil (WX.a (WC.ret ?_))))
 obtain rfl:=Option.some.inj h
 refine WX.ye Tryz.results14 (.agg rfl y2z rfl (yh .here) (.tmp rfl .nil)) (fun w hw=>?_)
 exact ⟨zxo,(some ⟨zxk,0,none⟩),2,[(.string ⟨#[109]⟩),(.int .i64 0),(.int .i64 0),(.slice none 0 0),(.string ⟨#[110]⟩),(.int .i64 0),(.int .i64 0),(.slice none 0 0)],none,0,(some ⟨zxl,0,none⟩),1,(some ⟨zxm,0,none⟩),2,(some ⟨zxn,0,none⟩),1,[(.string ⟨#[]⟩),(.string ⟨#[]⟩),(.string ⟨#[]⟩),(.string ⟨#[]⟩),(.int .i64 200),(.int .i64 40),(.slice none 0 0)],none,0,none,0,none,0,(some ⟨zEL,0,none⟩),1,[(.slice (some ⟨zlB,0,none⟩) (([(⟨0,2,0⟩ : Sapi_Hop),(⟨2,1,1⟩ : Sapi_Hop)] : List Sapi_Hop).length) 2)],y1Z rfl rfl,⟨(zEH.weak (fun _ _ h=>y1t zxp h)),(ZS.nil _ _ _),(zEI.weak (fun _ _ h=>y1C zxp h)),(ZS.nil _ _ _),(ZS.nil _ _ _),(ZS.nil _ _ _),zEK⟩,hw.sub (.s6 .h2 .h6 .h5 .h4 .h3 .h1)⟩
def y3u (z1I : Sapi_Config) : Option Int :=
 some (i64 (((z1I.fModules.length : Nat) : Int) + ((z1I.fSwitches.length : Nat) : Int)))
theorem y9d (Z : Zp) (zom : Option Addr) (zon : Nat) (zoo : Option Addr) (zop : Nat) (zoq : Option Addr) (zor : Nat) (zos : Option Addr) (zot : Nat) (zou : Option Addr) (zov : Nat) (zow : Option Addr) (zox : Nat) (zoy : Option Addr) (zoz : Nat) (zoA : Option Addr) (zoB : Nat) (z1I : Sapi_Config) (r : Int)
  (h : y3u z1I = some r) (w₀ : World) (hz : PZ [] w₀ Z)
  (zTg : ZS Z 4 (y4e Z) zom zon z1I.fModules)
  (zTh : ZS Z 4 (y4M Z) zoo zop z1I.fChannels)
  (zTi : ZS Z 4 (fun r x=>r = e66 x) zoq zor z1I.fSwitches)
  (zTj : ZS Z 4 (fun r x=>r = e64 x) zos zot z1I.fLinks)
  (zTk : ZS Z 7 (p46 Z) zou zov z1I.fVLs)
  (zTl : ZS Z 5 (fun r x=>r = y4Z x) zow zox z1I.fHealth)
  (zTm : ZS Z 3 (y4N Z) zoy zoz z1I.fCauses)
  (zTn : ZS Z 4 (fun r x=>r = y50 x) zoA zoB z1I.fVersions) :
  Calls Tryz.prog 126 #[(.agg #[(.slice zom z1I.fModules.length zon),(.slice zoo z1I.fChannels.length zop),(.slice zoq z1I.fSwitches.length zor),(.slice zos z1I.fLinks.length zot),(.slice zou z1I.fVLs.length zov),(.slice zow z1I.fHealth.length zox),(.slice zoy z1I.fCauses.length zoz),(.slice zoA z1I.fVersions.length zoB)])] w₀ fun e w'=>e = .returned (.int .i64 r) ∧ Hp [] w₀ w' []:=by
 unfold y3u at h
 refine Calls.on1 Tryz.func126 Tryz.ntmps126 ?_
 refine WC.b (WC.a (WL.nA 1 (yH (cs:=[(.slice zom z1I.fModules.length zon),(.slice zoo z1I.fChannels.length zop),(.slice zoq z1I.fSwitches.length zor),(.slice zos z1I.fLinks.length zot),(.slice zou z1I.fVLs.length zov),(.slice zow z1I.fHealth.length zox),(.slice zoy z1I.fCauses.length zoz),(.slice zoA z1I.fVersions.length zoB)]) rfl rfl) ?_))
 intro zTo _
 refine WL.pu rfl (WL.nil (WX.a (WC.b (WC.a (WL.qA 3 (ya y6N rfl rfl) (WL.qA 4 (yc y6O rfl (ym .here rfl)) (WL.qA 5 (yG Tryz.underlying22 rfl) (WL.qA 6 (ya y9x rfl rfl) (WL.qA 7 (yc y9y rfl (ym .here rfl)) (WL.qA 8 (yG Tryz.underlying24 rfl) (WL.pu rfl (WL.pu rfl (WL.nil (WX.a (WC.ret ?_)))))))))))))))
 obtain rfl:=Option.some.inj h
 refine WX.ye Tryz.results126 (.tmp rfl .nil) (fun w hw=>?_)
 exact ⟨yC rfl,hw.sub .nil⟩
def y3K (z1o : Sapi_Config) (z6B : Int) : Option ByteArray :=
 (if decide (z6B < 0) then some true else (y3u z1o).bind fun zxq=>some (decide (z6B ≥ zxq))).bind fun zoC=>if zoC then some ⟨#[]⟩ else if decide (z6B < ((z1o.fModules.length : Nat) : Int)) then chk ((0 : Int) ≤ z6B ∧ z6B < ((z1o.fModules.length : Nat) : Int)) (some ((nth z1o.fModules z6B).fName)) else chk ((0 : Int) ≤ (i64 (z6B - ((z1o.fModules.length : Nat) : Int))) ∧ (i64 (z6B - ((z1o.fModules.length : Nat) : Int))) < ((z1o.fSwitches.length : Nat) : Int)) (some ((nth z1o.fSwitches (i64 (z6B - ((z1o.fModules.length : Nat) : Int)))).fName))
theorem ycz (Z : Zp) (zoD : Option Addr) (zoE : Nat) (zoF : Option Addr) (zoG : Nat) (zoH : Option Addr) (zoI : Nat) (zoJ : Option Addr) (zoK : Nat) (zoL : Option Addr) (zoM : Nat) (zoN : Option Addr) (zoO : Nat) (zoP : Option Addr) (zoQ : Nat) (zoR : Option Addr) (zoS : Nat) (z1o : Sapi_Config) (z6B : Int) (r : ByteArray)
  (h : y3K z1o z6B = some r) (w₀ : World) (hz : PZ [] w₀ Z)
  (zxr : ZS Z 4 (y4e Z) zoD zoE z1o.fModules)
  (zEM : ZS Z 4 (y4M Z) zoF zoG z1o.fChannels)
  (zxs : ZS Z 4 (fun r x=>r = e66 x) zoH zoI z1o.fSwitches)
  (zEN : ZS Z 4 (fun r x=>r = e64 x) zoJ zoK z1o.fLinks)
  (zEO : ZS Z 7 (p46 Z) zoL zoM z1o.fVLs)
  (zEP : ZS Z 5 (fun r x=>r = y4Z x) zoN zoO z1o.fHealth)
  (zEQ : ZS Z 3 (y4N Z) zoP zoQ z1o.fCauses)
  (zER : ZS Z 4 (fun r x=>r = y50 x) zoR zoS z1o.fVersions) :
  Calls Tryz.prog 127 #[(.agg #[(.slice zoD z1o.fModules.length zoE),(.slice zoF z1o.fChannels.length zoG),(.slice zoH z1o.fSwitches.length zoI),(.slice zoJ z1o.fLinks.length zoK),(.slice zoL z1o.fVLs.length zoM),(.slice zoN z1o.fHealth.length zoO),(.slice zoP z1o.fCauses.length zoQ),(.slice zoR z1o.fVersions.length zoS)]),(.int .i64 z6B)] w₀ fun e w'=>e = .returned (.string r) ∧ Hp [] w₀ w' []:=by
 unfold y3K at h
 refine Calls.yJ Tryz.func127 Tryz.ntmps127 ?_
 refine WC.b (WC.a (WL.nA 2 (yH (cs:=[(.slice zoD z1o.fModules.length zoE),(.slice zoF z1o.fChannels.length zoG),(.slice zoH z1o.fSwitches.length zoI),(.slice zoJ z1o.fLinks.length zoK),(.slice zoL z1o.fVLs.length zoM),(.slice zoN z1o.fHealth.length zoO),(.slice zoP z1o.fCauses.length zoQ),(.slice zoR z1o.fVersions.length zoS)]) rfl rfl) ?_))
 intro zTp _
 refine WL.pu rfl (WL.nil (WX.a (WC.b (WC.a (WL.qA 6 (ya y6N rfl rfl) (WL.qA 7 (yc y6O rfl (ym .here rfl)) (WL.qA 8 (yG Tryz.underlying22 rfl) (WL.pu rfl (WL.nil (WX.a (WC.block (WC.b ?_))))))))))))
 obtain ⟨zoC,zxt,h⟩:=z6 h
 refine WC.a (WL.pu rfl (WL.pu rfl (WL.pu rfl (WL.seg false 4 20 (B:=zoC) rfl rfl rfl rfl rfl rfl (fun h=>(Option.some.inj (yo zxt h)).symm) (fun _ zES=>?_) ?_))))
 ·skip
  have ziA:=yp zxt zES
  obtain ⟨zxq,zET,ziA⟩:=z6 ziA
  replace ziA:=Option.some.inj ziA
  refine WL.pu rfl (WL.qA 22 (yf y2z rfl (yh .here) rfl) (WL.cA 23 (z8 Tryz.call126 (.cons rfl .nil)) .nil (cc hz .nil fun w pz ho=>y9d _ _ _ _ _ _ _ _ _ _ _ _ _ _ _ _ _ _ _ zET w pz zxr zEM zxs zEN zEO zEP zEQ zER) (WL.pu rfl (WL.pu rfl ?_))))
  exact WL.yB ziA rfl rfl .all
 refine WL.pu rfl (WL.nil (WX.a (WC.cond rfl (fun zoT=>?_) (fun zoT=>?_))))
 ·replace h:=yo h zoT
  refine WC.b (WC.a (WL.pu rfl (WL.nil (WX.a (WC.ret (WX.yt ?_))))))
  obtain rfl:=Option.some.inj h
  refine WX.ye Tryz.results127 (.tmp rfl .nil) (fun w hw=>?_)
  exact ⟨yC rfl,hw.sub .nil⟩
 ·replace h:=yp h zoT
  refine WC.b (WC.a (WL.pu rfl (WL.pu rfl (WL.pu rfl (WL.pu rfl (WL.nil (WX.a (WC.cond rfl (fun zoU=>?_) (fun zoU=>?_)))))))))
  ·replace h:=yo h zoU
   refine WC.b ?_
   obtain ⟨zEU,h⟩:=yn h
   refine WC.a (WL.qA 30 (ya y6N rfl rfl) (WL.qA 31 (yc y6O rfl (ym .here rfl)) (WL.pu rfl (WL.znth (dd:=33) rfl rfl (Z:=Z) (Pr:=(y4e Z)) elT_22 rfl rfl zxr zEU ?_))))
   rintro zTq zTr zEV zTs ⟨zTt,zTu,rfl,zTv⟩
   refine WL.qA 34 (ya fo_108_0 rfl rfl) (WL.qA 35 (yc yc3 rfl (y1k hz.pv zEV rfl)) (WL.pu rfl (WL.nil (WX.a (WC.ret (WX.yt ?_))))))
   obtain rfl:=Option.some.inj h
   refine WX.ye Tryz.results127 (.tmp rfl .nil) (fun w hw=>?_)
   exact ⟨yC rfl,hw.sub .nil⟩
  ·replace h:=yp h zoU
   refine WC.b ?_
   obtain ⟨zEW,h⟩:=yn h
   refine WC.a (WL.qA 9 (ya y9x rfl rfl) (WL.qA 10 (yc y9y rfl (ym .here rfl)) (WL.pu rfl (WL.pu rfl (WL.pu rfl (WL.znth (dd:=14) rfl rfl (Z:=Z) (Pr:=(fun r x=>r = e66 x)) yc1 rfl rfl zxs zEW ?_))))))
   rintro zTw zTx zEX zTy rfl
   refine WL.qA 15 (ya fo_66_0 rfl rfl) (WL.qA 16 (yc yc3 rfl (y1k hz.pv zEX rfl)) (WL.pu rfl (WL.nil (WX.a (WC.ret (WX.yt ?_))))))
   obtain rfl:=Option.some.inj h
   refine WX.ye Tryz.results127 (.tmp rfl .nil) (fun w hw=>?_)
   exact ⟨yC rfl,hw.sub .nil⟩
def y1K (z9f : Int) (z11 : Sapi_Config) (z7p : ByteArray) (z9g : Option Int) : Nat → Int → Option Int
 | 0,_=>none
 | zoV + 1,z5w=>if decide (z5w < z9f) then (y3K z11 z5w).bind fun zxu=>if decide (zxu = z7p) then some z5w else y1K z9f z11 z7p z9g zoV (i64 (z5w + 1)) else z9g
theorem y9l {n : Nat} {z9f : Int} {z11 : Sapi_Config} {z7p : ByteArray} {z9g : Option Int} {z5w : Int} {r : Int} (h : y1K z9f z11 z7p z9g n z5w = some r) : ∃ m,n = m + 1:=by
 cases n with
 | zero=>cases h
 | succ m=>exact ⟨m,rfl⟩
def y20 (z11 : Sapi_Config) (z7p : ByteArray) : Option Int :=
 jp0 (some (-1)) fun z9g=>(y3u z11).bind fun z9f=>y1K z9f z11 z7p z9g yz 0
theorem y9G (Z : Zp) (zlC : Option Addr) (zlD : Nat) (zlE : Option Addr) (zlF : Nat) (zlG : Option Addr) (zlH : Nat) (zlI : Option Addr) (zlJ : Nat) (zlK : Option Addr) (zlL : Nat) (zlM : Option Addr) (zlN : Nat) (zlO : Option Addr) (zlP : Nat) (zlQ : Option Addr) (zlR : Nat) (z11 : Sapi_Config) (z7p : ByteArray) (r : Int)
  (h : y20 z11 z7p = some r) (w₀ : World) (hz : PZ [] w₀ Z)
  (zxv : ZS Z 4 (y4e Z) zlC zlD z11.fModules)
  (zxw : ZS Z 4 (y4M Z) zlE zlF z11.fChannels)
  (zxx : ZS Z 4 (fun r x=>r = e66 x) zlG zlH z11.fSwitches)
  (zxy : ZS Z 4 (fun r x=>r = e64 x) zlI zlJ z11.fLinks)
  (zxz : ZS Z 7 (p46 Z) zlK zlL z11.fVLs)
  (zxA : ZS Z 5 (fun r x=>r = y4Z x) zlM zlN z11.fHealth)
  (zxB : ZS Z 3 (y4N Z) zlO zlP z11.fCauses)
  (zxC : ZS Z 4 (fun r x=>r = y50 x) zlQ zlR z11.fVersions) :
  Calls Tryz.prog 93 #[(.agg #[(.slice zlC z11.fModules.length zlD),(.slice zlE z11.fChannels.length zlF),(.slice zlG z11.fSwitches.length zlH),(.slice zlI z11.fLinks.length zlJ),(.slice zlK z11.fVLs.length zlL),(.slice zlM z11.fHealth.length zlN),(.slice zlO z11.fCauses.length zlP),(.slice zlQ z11.fVersions.length zlR)]),(.string z7p)] w₀ fun e w'=>e = .returned (.int .i64 r) ∧ Hp [] w₀ w' []:=by
 unfold y20 at h
 refine Calls.yJ Tryz.func93 Tryz.ntmps93 ?_
 refine WC.b (WC.a (WL.nA 2 (yH (cs:=[(.slice zlC z11.fModules.length zlD),(.slice zlE z11.fChannels.length zlF),(.slice zlG z11.fSwitches.length zlH),(.slice zlI z11.fLinks.length zlJ),(.slice zlK z11.fVLs.length zlL),(.slice zlM z11.fHealth.length zlN),(.slice zlO z11.fCauses.length zlP),(.slice zlQ z11.fVersions.length zlR)]) rfl rfl) ?_))
 intro zxD _
 refine WL.pu rfl (WL.nil (WX.a ?_))
 obtain ⟨z9g,zEY,h⟩:=y2y h
 refine WC.y1P ((z9g = some r)) ([]) ([]) ?_ ?_
 ·skip
  refine WC.b ?_
  obtain ⟨z9f,zEZ,h⟩:=z6 h
  refine WC.a (WL.qA 6 (yf y2z rfl (yh .here) rfl) (WL.cA 7 (z8 Tryz.call126 (.cons rfl .nil)) .nil (cc hz .nil fun w pz ho=>y9d _ _ _ _ _ _ _ _ _ _ _ _ _ _ _ _ _ _ _ zEZ w pz zxv zxw zxx zxy zxz zxA zxB zxC) (WL.pu rfl (WL.nil (WX.a (WC.block (WC.y2V (fun (zfq : Nat) (z5w : Int)=>(y1K z9f z11 z7p z9g zfq z5w = some r)) (fun zfq z5w=>[(1,(.string z7p)),(2,(.pointer (some ⟨zxD,0,none⟩))),(7,(.int .i64 z9f)),(8,(.int .i64 z5w))]) (fun zfq z5w=>[stb zxD 31 [(.slice zlC z11.fModules.length zlD),(.slice zlE z11.fChannels.length zlF),(.slice zlG z11.fSwitches.length zlH),(.slice zlI z11.fLinks.length zlJ),(.slice zlK z11.fVLs.length zlL),(.slice zlM z11.fHealth.length zlN),(.slice zlO z11.fCauses.length zlP),(.slice zlQ z11.fVersions.length zlR)]]) (fun zfq z5w=>zfq) ⟨yz,0⟩ h (.r4 rfl rfl rfl rfl) (.cons .here .nil) ?_)))))))
  rintro zfq z5w h
  obtain ⟨zoV,rfl⟩:=y9l h
  rw [y1K] at h
  refine WC.b (WC.a (WL.pu rfl (WL.nil (WX.a (WC.b (WC.cond rfl (fun zoW=>?_) (fun zoW=>?_)))))))
  ·replace h:=yo h zoW
   refine WC.skip (WX.a (WC.b (WC.block (WC.b (WC.a (WL.pu rfl (WL.pu rfl (WL.nil (WX.a (WC.b ?_))))))))))
   obtain ⟨zxu,zF0,h⟩:=z6 h
   refine WC.a (WL.qA 11 (yf y2z rfl (yh .here) rfl) (WL.pu rfl (WL.cA 13 (z8 Tryz.call127 (.r2 rfl rfl)) .nil (cc hz .nil fun w pz ho=>ycz _ _ _ _ _ _ _ _ _ _ _ _ _ _ _ _ _ _ _ _ zF0 w pz zxv zxw zxx zxy zxz zxA zxB zxC) (WL.pu rfl (WL.qA 15 (q_seql rfl rfl) (WL.nil (WX.a (WC.cond rfl (fun zoX=>?_) (fun zoX=>?_)))))))))
   ·replace h:=yo h zoX
    refine WC.b (WC.a (WL.pu rfl (WL.pu rfl (WL.nil (WX.a (WC.ret (WX.yt (WX.yd (WX.yd (WX.yt (WX.yd ?_)))))))))))
    obtain rfl:=Option.some.inj h
    refine WX.ye Tryz.results93 (.tmp rfl .nil) (fun w hw=>?_)
    exact ⟨yC rfl,hw.sub .nil⟩
   ·replace h:=yp h zoX
    refine WC.skip (WX.yk (WX.a (WC.a (WL.pu rfl (WL.pu rfl (WL.nil ?_))))))
    exact WX.round ⟨zoV,(i64 (z5w + 1))⟩ h (Nat.lt_succ_self _) (.r4 rfl rfl rfl rfl) (.cons .here .nil)
  ·replace h:=yp h zoW
   refine WC.exit (WX.yg (WX.yg (WX.yA ?_)))
   exact WX.mid () h .nil .nil
 ·rintro  h
  replace h:=zEY.symm.trans h
  refine WC.b (WC.a (WL.pu rfl (WL.nil (WX.a (WC.ret ?_)))))
  obtain rfl:=Option.some.inj h
  refine WX.ye Tryz.results93 (.tmp rfl .nil) (fun w hw=>?_)
  exact ⟨yC rfl,hw.sub .nil⟩
def y4W (zu : Sapi_Config) (zbc : Int) (z1R : Int) : Option Bool :=
 if decide (z1R < ((zu.fModules.length : Nat) : Int)) then some (decide (z1R ≥ 0)) else chk ((0 : Int) ≤ (i64 (z1R - ((zu.fModules.length : Nat) : Int))) ∧ (i64 (z1R - ((zu.fModules.length : Nat) : Int))) < ((zu.fSwitches.length : Nat) : Int)) (some (((((decide (((nth zu.fSwitches (i64 (z1R - ((zu.fModules.length : Nat) : Int)))).fNet) = zbc)) && (decide (((nth zu.fSwitches (i64 (z1R - ((zu.fModules.length : Nat) : Int)))).fDelay) ≥ 0))) && (decide (((nth zu.fSwitches (i64 (z1R - ((zu.fModules.length : Nat) : Int)))).fDelay) ≤ 1000))) && (decide (((nth zu.fSwitches (i64 (z1R - ((zu.fModules.length : Nat) : Int)))).fStore) ≥ 0))) && (decide (((nth zu.fSwitches (i64 (z1R - ((zu.fModules.length : Nat) : Int)))).fStore) ≤ 1073741824))))
theorem y9H (Z : Zp) (zoY : Option Addr) (zoZ : Nat) (zp0 : Option Addr) (zp1 : Nat) (zp2 : Option Addr) (zp3 : Nat) (zp4 : Option Addr) (zp5 : Nat) (zp6 : Option Addr) (zp7 : Nat) (zp8 : Option Addr) (zp9 : Nat) (zpa : Option Addr) (zpb : Nat) (zpc : Option Addr) (zpd : Nat) (zu : Sapi_Config) (zbc : Int) (z1R : Int) (r : Bool)
  (h : y4W zu zbc z1R = some r) (w₀ : World) (hz : PZ [] w₀ Z)
  (zTz : ZS Z 4 (y4e Z) zoY zoZ zu.fModules)
  (zTA : ZS Z 4 (y4M Z) zp0 zp1 zu.fChannels)
  (zF1 : ZS Z 4 (fun r x=>r = e66 x) zp2 zp3 zu.fSwitches)
  (zTB : ZS Z 4 (fun r x=>r = e64 x) zp4 zp5 zu.fLinks)
  (zTC : ZS Z 7 (p46 Z) zp6 zp7 zu.fVLs)
  (zTD : ZS Z 5 (fun r x=>r = y4Z x) zp8 zp9 zu.fHealth)
  (zTE : ZS Z 3 (y4N Z) zpa zpb zu.fCauses)
  (zTF : ZS Z 4 (fun r x=>r = y50 x) zpc zpd zu.fVersions) :
  Calls Tryz.prog 94 #[(.agg #[(.slice zoY zu.fModules.length zoZ),(.slice zp0 zu.fChannels.length zp1),(.slice zp2 zu.fSwitches.length zp3),(.slice zp4 zu.fLinks.length zp5),(.slice zp6 zu.fVLs.length zp7),(.slice zp8 zu.fHealth.length zp9),(.slice zpa zu.fCauses.length zpb),(.slice zpc zu.fVersions.length zpd)]),(.int .i64 zbc),(.int .i64 z1R)] w₀ fun e w'=>e = .returned (.bool r) ∧ Hp [] w₀ w' []:=by
 unfold y4W at h
 refine Calls.on3 Tryz.func94 Tryz.ntmps94 ?_
 refine WC.b (WC.a (WL.nA 3 (yH (cs:=[(.slice zoY zu.fModules.length zoZ),(.slice zp0 zu.fChannels.length zp1),(.slice zp2 zu.fSwitches.length zp3),(.slice zp4 zu.fLinks.length zp5),(.slice zp6 zu.fVLs.length zp7),(.slice zp8 zu.fHealth.length zp9),(.slice zpa zu.fCauses.length zpb),(.slice zpc zu.fVersions.length zpd)]) rfl rfl) ?_))
 intro zTG _
 refine WL.pu rfl (WL.nil (WX.a (WC.b (WC.b (WC.a (WL.pu rfl (WL.qA 9 (ya y6N rfl rfl) (WL.qA 10 (yc y6O rfl (ym .here rfl)) (WL.qA 11 (yG Tryz.underlying22 rfl) (WL.pu rfl (WL.nil (WX.a (WC.cond rfl (fun zpe=>?_) (fun zpe=>?_))))))))))))))
 ·replace h:=yo h zpe
  refine WC.b (WC.a (WL.pu rfl (WL.pu rfl (WL.pu rfl (WL.nil (WX.a (WC.ret (WX.yd ?_))))))))
  obtain rfl:=Option.some.inj h
  refine WX.ye Tryz.results94 (.tmp rfl .nil) (fun w hw=>?_)
  exact ⟨yC rfl,hw.sub .nil⟩
 ·replace h:=yp h zpe
  refine WC.skip (WX.a (WC.b ?_))
  obtain ⟨zF2,h⟩:=yn h
  refine WC.a (WL.qA 15 (ya y9x rfl rfl) (WL.qA 16 (yc y9y rfl (ym .here rfl)) (WL.pu rfl (WL.qA 18 (ya y6N rfl rfl) (WL.qA 19 (yc y6O rfl (ym .here rfl)) (WL.qA 20 (yG Tryz.underlying22 rfl) (WL.pu rfl (WL.znth (dd:=22) rfl rfl (Z:=Z) (Pr:=(fun r x=>r = e66 x)) yc1 rfl rfl zF1 zF2 ?_))))))))
  rintro zTH zTI zF3 zTJ rfl
  refine WL.qA 23 (yf aggT_66 rfl (y2v hz.pv zF3) rfl) (WL.nA 7 (yw (cs:=[(.string ⟨#[]⟩),(.int .i64 0),(.int .i64 0),(.int .i64 0)]) zeroT_66 rfl) ?_)
  intro zTK _
  refine WL.yj rfl rfl (yl sizT_66 rfl rfl rfl .here rfl rfl rfl) (WL.nil (WX.a (WC.b (WC.a (WL.qA 24 (ya fo_66_1 rfl rfl) (WL.qA 25 (yc yx rfl (ym .here rfl)) (WL.pu rfl (WL.pu rfl (WL.pu rfl (WL.seg true 3 28 (B:=(decide (((nth zu.fSwitches (i64 (z1R - ((zu.fModules.length : Nat) : Int)))).fNet) = zbc)) && (decide (((nth zu.fSwitches (i64 (z1R - ((zu.fModules.length : Nat) : Int)))).fDelay) ≥ 0))) rfl rfl rfl rfl rfl rfl (fun h=>(y2O h).symm) (fun _ zF4=>?_) ?_))))))))))
  ·skip
   refine WL.qA 29 (ya ycs rfl rfl) (WL.qA 30 (yc yx rfl (ym .here rfl)) (WL.pu rfl (WL.pu rfl ?_)))
   exact WL.yB (y2P zF4) rfl rfl .all
  refine WL.pu rfl (WL.seg true 3 33 (B:=((decide (((nth zu.fSwitches (i64 (z1R - ((zu.fModules.length : Nat) : Int)))).fNet) = zbc)) && (decide (((nth zu.fSwitches (i64 (z1R - ((zu.fModules.length : Nat) : Int)))).fDelay) ≥ 0))) && (decide (((nth zu.fSwitches (i64 (z1R - ((zu.fModules.length : Nat) : Int)))).fDelay) ≤ 1000))) rfl rfl rfl rfl rfl rfl (fun h=>(y2O h).symm) (fun _ zF5=>?_) ?_)
  ·skip
   refine WL.qA 34 (ya ycs rfl rfl) (WL.qA 35 (yc yx rfl (ym .here rfl)) (WL.pu rfl (WL.pu rfl ?_)))
   exact WL.yB (y2P zF5) rfl rfl .all
  refine WL.pu rfl (WL.seg true 3 38 (B:=(((decide (((nth zu.fSwitches (i64 (z1R - ((zu.fModules.length : Nat) : Int)))).fNet) = zbc)) && (decide (((nth zu.fSwitches (i64 (z1R - ((zu.fModules.length : Nat) : Int)))).fDelay) ≥ 0))) && (decide (((nth zu.fSwitches (i64 (z1R - ((zu.fModules.length : Nat) : Int)))).fDelay) ≤ 1000))) && (decide (((nth zu.fSwitches (i64 (z1R - ((zu.fModules.length : Nat) : Int)))).fStore) ≥ 0))) rfl rfl rfl rfl rfl rfl (fun h=>(y2O h).symm) (fun _ zF6=>?_) ?_)
  ·skip
   refine WL.qA 39 (ya yev rfl rfl) (WL.qA 40 (yc yx rfl (ym .here rfl)) (WL.pu rfl (WL.pu rfl ?_)))
   exact WL.yB (y2P zF6) rfl rfl .all
  refine WL.pu rfl (WL.seg true 3 43 (B:=((((decide (((nth zu.fSwitches (i64 (z1R - ((zu.fModules.length : Nat) : Int)))).fNet) = zbc)) && (decide (((nth zu.fSwitches (i64 (z1R - ((zu.fModules.length : Nat) : Int)))).fDelay) ≥ 0))) && (decide (((nth zu.fSwitches (i64 (z1R - ((zu.fModules.length : Nat) : Int)))).fDelay) ≤ 1000))) && (decide (((nth zu.fSwitches (i64 (z1R - ((zu.fModules.length : Nat) : Int)))).fStore) ≥ 0))) && (decide (((nth zu.fSwitches (i64 (z1R - ((zu.fModules.length : Nat) : Int)))).fStore) ≤ 1073741824))) rfl rfl rfl rfl rfl rfl (fun h=>(y2O h).symm) (fun _ zF7=>?_) ?_)
  ·skip
   refine WL.qA 44 (ya yev rfl rfl) (WL.qA 45 (yc yx rfl (ym .here rfl)) (WL.pu rfl (WL.pu rfl ?_)))
   exact WL.yB (y2P zF7) rfl rfl .all
  refine WL.pu rfl (WL.nil (WX.a (WC.ret ?_)))
  obtain rfl:=Option.some.inj h
  refine WX.ye Tryz.results94 (.tmp rfl .nil) (fun w hw=>?_)
  exact ⟨yC rfl,hw.sub .nil⟩
def y5j (zS : Sapi_Config) (z9h : Int) (z2x : Int) (z7q : Int) (z7r : Int) : Option Bool :=
 if (decide (z2x < 0)) || (decide (z2x ≥ ((zS.fLinks.length : Nat) : Int))) then some false else chk ((0 : Int) ≤ z2x ∧ z2x < ((zS.fLinks.length : Nat) : Int)) ((y20 zS ((nth zS.fLinks z2x).fA)).bind fun z6C=>(y20 zS ((nth zS.fLinks z2x).fB)).bind fun z6D=>(if (((decide (((nth zS.fLinks z2x).fNet) = z9h)) && (decide (((nth zS.fLinks z2x).fSlow) ≥ 1))) && (decide (((nth zS.fLinks z2x).fSlow) ≤ 16))) && (decide (z6C ≠ z6D)) then (y4W zS z9h z6C).bind fun zxE=>some zxE else some false).bind fun zpf=>(if zpf then (y4W zS z9h z6D).bind fun zxF=>some zxF else some false).bind fun zlS=>some (zlS && (((decide (z6C = z7q)) && (decide (z6D = z7r))) || ((decide (z6C = z7r)) && (decide (z6D = z7q))))))
theorem yc5 (Z : Zp) (zpg : Option Addr) (zph : Nat) (zpi : Option Addr) (zpj : Nat) (zpk : Option Addr) (zpl : Nat) (zpm : Option Addr) (zpn : Nat) (zpo : Option Addr) (zpp : Nat) (zpq : Option Addr) (zpr : Nat) (zps : Option Addr) (zpt : Nat) (zpu : Option Addr) (zpv : Nat) (zS : Sapi_Config) (z9h : Int) (z2x : Int) (z7q : Int) (z7r : Int) (r : Bool)
  (h : y5j zS z9h z2x z7q z7r = some r) (w₀ : World) (hz : PZ [] w₀ Z)
  (zlT : ZS Z 4 (y4e Z) zpg zph zS.fModules)
  (zlU : ZS Z 4 (y4M Z) zpi zpj zS.fChannels)
  (zlV : ZS Z 4 (fun r x=>r = e66 x) zpk zpl zS.fSwitches)
  (ziB : ZS Z 4 (fun r x=>r = e64 x) zpm zpn zS.fLinks)
  (zlW : ZS Z 7 (p46 Z) zpo zpp zS.fVLs)
  (zlX : ZS Z 5 (fun r x=>r = y4Z x) zpq zpr zS.fHealth)
  (zlY : ZS Z 3 (y4N Z) zps zpt zS.fCauses)
  (zlZ : ZS Z 4 (fun r x=>r = y50 x) zpu zpv zS.fVersions) :
  Calls Tryz.prog 56 #[(.agg #[(.slice zpg zS.fModules.length zph),(.slice zpi zS.fChannels.length zpj),(.slice zpk zS.fSwitches.length zpl),(.slice zpm zS.fLinks.length zpn),(.slice zpo zS.fVLs.length zpp),(.slice zpq zS.fHealth.length zpr),(.slice zps zS.fCauses.length zpt),(.slice zpu zS.fVersions.length zpv)]),(.int .i64 z9h),(.int .i64 z2x),(.int .i64 z7q),(.int .i64 z7r)] w₀ fun e w'=>e = .returned (.bool r) ∧ Hp [] w₀ w' []:=by
 unfold y5j at h
 refine Calls.on5 Tryz.func56 Tryz.ntmps56 ?_
 refine WC.b (WC.a (WL.nA 5 (yH (cs:=[(.slice zpg zS.fModules.length zph),(.slice zpi zS.fChannels.length zpj),(.slice zpk zS.fSwitches.length zpl),(.slice zpm zS.fLinks.length zpn),(.slice zpo zS.fVLs.length zpp),(.slice zpq zS.fHealth.length zpr),(.slice zps zS.fCauses.length zpt),(.slice zpu zS.fVersions.length zpv)]) rfl rfl) ?_))
 intro zTL _
 refine WL.pu rfl (WL.nil (WX.a (WC.b (WC.b (WC.a (WL.pu rfl (WL.pu rfl (WL.pu rfl (WL.seg false 5 16 (B:=(decide (z2x < 0)) || (decide (z2x ≥ ((zS.fLinks.length : Nat) : Int)))) rfl rfl rfl rfl rfl rfl (fun h=>(y6v h).symm) (fun _ zF8=>?_) ?_)))))))))
 ·skip
  refine WL.pu rfl (WL.qA 18 (ya y8F rfl rfl) (WL.qA 19 (yc y8G rfl (ym .here rfl)) (WL.qA 20 (yG Tryz.underlying25 rfl) (WL.pu rfl (WL.pu rfl ?_)))))
  exact WL.yB (y6w zF8) rfl rfl .all
 refine WL.nil (WX.a (WC.cond rfl (fun zpw=>?_) (fun zpw=>?_)))
 ·replace h:=yo h zpw
  refine WC.b (WC.a (WL.pu rfl (WL.nil (WX.a (WC.ret (WX.yd ?_))))))
  obtain rfl:=Option.some.inj h
  refine WX.ye Tryz.results56 (.tmp rfl .nil) (fun w hw=>?_)
  exact ⟨yC rfl,hw.sub .nil⟩
 ·replace h:=yp h zpw
  refine WC.skip (WX.a (WC.b ?_))
  obtain ⟨zF9,h⟩:=yn h
  refine WC.a (WL.qA 23 (ya y8F rfl rfl) (WL.qA 24 (yc y8G rfl (ym .here rfl)) (WL.pu rfl (WL.znth (dd:=26) rfl rfl (Z:=Z) (Pr:=(fun r x=>r = e64 x)) yc2 rfl rfl ziB zF9 ?_))))
  rintro zTM zTN zFa zTO rfl
  refine WL.qA 27 (yf aggT_64 rfl (y2v hz.pv zFa) rfl) (WL.nA 11 (yw (cs:=[(.string ⟨#[]⟩),(.string ⟨#[]⟩),(.int .i64 0),(.int .i64 0)]) zeroT_64 rfl) ?_)
  intro zTP _
  refine WL.yj rfl rfl (yl sizT_64 rfl rfl rfl .here rfl rfl rfl) (WL.nil (WX.a (WC.b ?_)))
  obtain ⟨z6C,zFb,h⟩:=z6 h
  obtain ⟨z6D,zFc,h⟩:=z6 h
  refine WC.yO (fun i=>[].contains i) [] rfl (WD.qA 0 28 rfl (yf y2z rfl (yh .h1) rfl) (WD.pA 1 29 rfl (fun _=>ya fo_64_0 rfl rfl) (WD.qA 2 30 rfl (yc yc3 rfl (ym .here rfl)) (WD.eA 3 31 rfl (z8 Tryz.call93 (.r2 rfl rfl)) (cc hz .nil fun w pz ho=>y9G _ _ _ _ _ _ _ _ _ _ _ _ _ _ _ _ _ _ _ _ zFb w pz zlT zlU zlV ziB zlW zlX zlY zlZ) (WD.qA 4 32 rfl (yf y2z rfl (yh .h1) rfl) (WD.pA 5 33 rfl (fun _=>ya fo_64_1 rfl rfl) (WD.qA 6 34 rfl (yc yc3 rfl (ym .here rfl)) (WD.eA 7 35 rfl (z8 Tryz.call93 (.r2 rfl rfl)) (cc hz .nil fun w pz ho=>y9G _ _ _ _ _ _ _ _ _ _ _ _ _ _ _ _ _ _ _ _ zFc w pz zlT zlU zlV ziB zlW zlX zlY zlZ) (WD.pA 8 12 rfl (fun _=>q_z rfl) (WD.pA 9 13 rfl (fun _=>q_z rfl) (WD.done (by kernel_rfl) (WX.a (WC.b ?_)))))))))))))
  obtain ⟨zpf,zxG,h⟩:=z6 h
  obtain ⟨zlS,zxH,h⟩:=z6 h
  refine WC.a (WL.qA 36 (ya fo_64_2 rfl rfl) (WL.qA 37 (yc yx rfl (ym .here rfl)) (WL.pu rfl (WL.pu rfl (WL.pu rfl (WL.seg true 3 40 (B:=(decide (((nth zS.fLinks z2x).fNet) = z9h)) && (decide (((nth zS.fLinks z2x).fSlow) ≥ 1))) rfl rfl rfl rfl rfl rfl (fun h=>(y2O h).symm) (fun _ zFd=>?_) ?_))))))
  ·skip
   refine WL.qA 41 (ya yb9 rfl rfl) (WL.qA 42 (yc yx rfl (ym .here rfl)) (WL.pu rfl (WL.pu rfl ?_)))
   exact WL.yB (y2P zFd) rfl rfl .all
  refine WL.pu rfl (WL.seg true 3 45 (B:=((decide (((nth zS.fLinks z2x).fNet) = z9h)) && (decide (((nth zS.fLinks z2x).fSlow) ≥ 1))) && (decide (((nth zS.fLinks z2x).fSlow) ≤ 16))) rfl rfl rfl rfl rfl rfl (fun h=>(y2O h).symm) (fun _ zFe=>?_) ?_)
  ·skip
   refine WL.qA 46 (ya yb9 rfl rfl) (WL.qA 47 (yc yx rfl (ym .here rfl)) (WL.pu rfl (WL.pu rfl ?_)))
   exact WL.yB (y2P zFe) rfl rfl .all
  refine WL.pu rfl (WL.seg true 3 50 (B:=(((decide (((nth zS.fLinks z2x).fNet) = z9h)) && (decide (((nth zS.fLinks z2x).fSlow) ≥ 1))) && (decide (((nth zS.fLinks z2x).fSlow) ≤ 16))) && (decide (z6C ≠ z6D))) rfl rfl rfl rfl rfl rfl (fun h=>(y2O h).symm) (fun _ zFf=>?_) ?_)
  ·skip
   refine WL.pu rfl (WL.pu rfl (WL.pu rfl (WL.pu rfl ?_)))
   exact WL.yB (y2P zFf) rfl rfl .all
  refine WL.pu rfl (WL.seg true 4 55 (B:=zpf) rfl rfl rfl rfl rfl rfl (fun h=>(Option.some.inj (yp zxG h)).symm) (fun _ zFg=>?_) ?_)
  ·skip
   have ziC:=yo zxG zFg
   obtain ⟨zxE,zFh,ziC⟩:=z6 ziC
   replace ziC:=Option.some.inj ziC
   refine WL.qA 56 (yf y2z rfl (yh .h1) rfl) (WL.pu rfl (WL.pu rfl (WL.cA 59 (z8 Tryz.call94 (.r3 rfl rfl rfl)) .nil (cc hz .nil fun w pz ho=>y9H _ _ _ _ _ _ _ _ _ _ _ _ _ _ _ _ _ _ _ _ _ zFh w pz zlT zlU zlV ziB zlW zlX zlY zlZ) (WL.pu rfl ?_))))
   exact WL.yB ziC rfl rfl .all
  refine WL.pu rfl (WL.seg true 4 61 (B:=zlS) rfl rfl rfl rfl rfl rfl (fun h=>(Option.some.inj (yp zxH h)).symm) (fun _ zFi=>?_) ?_)
  ·skip
   have ziD:=yo zxH zFi
   obtain ⟨zxF,zFj,ziD⟩:=z6 ziD
   replace ziD:=Option.some.inj ziD
   refine WL.qA 62 (yf y2z rfl (yh .h1) rfl) (WL.pu rfl (WL.pu rfl (WL.cA 65 (z8 Tryz.call94 (.r3 rfl rfl rfl)) .nil (cc hz .nil fun w pz ho=>y9H _ _ _ _ _ _ _ _ _ _ _ _ _ _ _ _ _ _ _ _ _ zFj w pz zlT zlU zlV ziB zlW zlX zlY zlZ) (WL.pu rfl ?_))))
   exact WL.yB ziD rfl rfl .all
  refine WL.pu rfl (WL.seg true 18 67 (B:=zlS && (((decide (z6C = z7q)) && (decide (z6D = z7r))) || ((decide (z6C = z7r)) && (decide (z6D = z7q))))) rfl rfl rfl rfl rfl rfl (fun h=>(y2O h).symm) (fun _ zFk=>?_) ?_)
  ·skip
   refine WL.pu rfl (WL.pu rfl (WL.pu rfl (WL.pu rfl (WL.seg true 3 71 (B:=(decide (z6C = z7q)) && (decide (z6D = z7r))) rfl rfl rfl rfl rfl rfl (fun h=>(y2O h).symm) (fun _ zFl=>?_) ?_))))
   ·skip
    refine WL.pu rfl (WL.pu rfl (WL.pu rfl (WL.pu rfl ?_)))
    exact WL.yB (y2P zFl) rfl rfl .all
   refine WL.pu rfl (WL.seg false 8 76 (B:=((decide (z6C = z7q)) && (decide (z6D = z7r))) || ((decide (z6C = z7r)) && (decide (z6D = z7q)))) rfl rfl rfl rfl rfl rfl (fun h=>(y6v h).symm) (fun _ zFm=>?_) ?_)
   ·skip
    refine WL.pu rfl (WL.pu rfl (WL.pu rfl (WL.pu rfl (WL.seg true 3 80 (B:=(decide (z6C = z7r)) && (decide (z6D = z7q))) rfl rfl rfl rfl rfl rfl (fun h=>(y2O h).symm) (fun _ zFn=>?_) ?_))))
    ·skip
     refine WL.pu rfl (WL.pu rfl (WL.pu rfl (WL.pu rfl ?_)))
     exact WL.yB (y2P zFn) rfl rfl .all
    refine WL.pu rfl ?_
    exact WL.yB (y6w zFm) rfl rfl .all
   refine WL.pu rfl ?_
   exact WL.yB (y2P zFk) rfl rfl .all
  refine WL.pu rfl (WL.nil (WX.a (WC.ret ?_)))
  obtain rfl:=Option.some.inj h
  refine WX.ye Tryz.results56 (.tmp rfl .nil) (fun w hw=>?_)
  exact ⟨yC rfl,hw.sub .nil⟩
def y2F (zg : List Sapi_Hop) (zI : Sapi_Config) (z43 : Int) (z9i : Option Bool) : Nat → Int → (List (Int × Int)) → Option Bool
 | 0,_,_=>none
 | zpx + 1,zl,z4E=>if decide (zl < ((zg.length : Nat) : Int)) then chk ((0 : Int) ≤ zl ∧ zl < ((zg.length : Nat) : Int)) (jp1 (fun (z1A : List (Int × Int))=>chk (((decide ((yq z1A ((nth zg zl).fNode) 0) = 0)) || (decide ((yq z1A ((nth zg zl).fNext) 0) > 0))) = false → ((decide (zl > 0)) = true → ((0 : Int) ≤ 0 ∧ 0 < ((zg.length : Nat) : Int)))) ((if ((decide ((yq z1A ((nth zg zl).fNode) 0) = 0)) || (decide ((yq z1A ((nth zg zl).fNext) 0) > 0))) || (((decide (zl > 0)) && (decide (((nth zg zl).fNode) ≠ ((nth zg 0).fNode)))) && (decide (((nth zg zl).fNode) < ((zI.fModules.length : Nat) : Int)))) then some true else (y5j zI z43 ((nth zg zl).fLink) ((nth zg zl).fNode) ((nth zg zl).fNext)).bind fun zxI=>some (!zxI)).bind fun zpy=>if zpy then some false else y2F zg zI z43 z9i zpx (i64 (zl + 1)) (yL z1A ((nth zg zl).fNext) (i64 ((yq z1A ((nth zg zl).fNext) 0) + 1))))) fun zm0=>if decide (zl = 0) then zm0 (yL z4E ((nth zg zl).fNode) (i64 ((yq z4E ((nth zg zl).fNode) 0) + 1))) else zm0 z4E) else z9i
theorem y93 {n : Nat} {zg : List Sapi_Hop} {zI : Sapi_Config} {z43 : Int} {z9i : Option Bool} {zl : Int} {z4E : List (Int × Int)} {r : Bool} (h : y2F zg zI z43 z9i n zl z4E = some r) : ∃ m,n = m + 1:=by
 cases n with
 | zero=>cases h
 | succ m=>exact ⟨m,rfl⟩
def y5k (zI : Sapi_Config) (z43 : Int) (zg : List Sapi_Hop) : Option Bool :=
 jp0 (some (decide (((zg.length : Nat) : Int) ≤ 32))) fun z9i=>y2F zg zI z43 z9i yz 0 ([] : List (Int × Int))
theorem yc6 (Z : Zp) (ziE : Option Addr) (ziF : Nat) (ziG : Option Addr) (ziH : Nat) (ziI : Option Addr) (ziJ : Nat) (ziK : Option Addr) (ziL : Nat) (ziM : Option Addr) (ziN : Nat) (ziO : Option Addr) (ziP : Nat) (ziQ : Option Addr) (ziR : Nat) (ziS : Option Addr) (ziT : Nat) (z44 : Option Addr) (z47 : Nat) (zI : Sapi_Config) (z43 : Int) (zg : List Sapi_Hop) (r : Bool)
  (h : y5k zI z43 zg = some r) (w₀ : World) (hz : PZ [] w₀ Z)
  (zFo : ZS Z 4 (y4e Z) ziE ziF zI.fModules)
  (zFp : ZS Z 4 (y4M Z) ziG ziH zI.fChannels)
  (zFq : ZS Z 4 (fun r x=>r = e66 x) ziI ziJ zI.fSwitches)
  (zFr : ZS Z 4 (fun r x=>r = e64 x) ziK ziL zI.fLinks)
  (zFs : ZS Z 7 (p46 Z) ziM ziN zI.fVLs)
  (zFt : ZS Z 5 (fun r x=>r = y4Z x) ziO ziP zI.fHealth)
  (zFu : ZS Z 3 (y4N Z) ziQ ziR zI.fCauses)
  (zFv : ZS Z 4 (fun r x=>r = y50 x) ziS ziT zI.fVersions)
  (zxJ : ZS Z 3 (fun r x=>r = e62 x) z44 z47 zg) :
  Calls Tryz.prog 29 #[(.agg #[(.slice ziE zI.fModules.length ziF),(.slice ziG zI.fChannels.length ziH),(.slice ziI zI.fSwitches.length ziJ),(.slice ziK zI.fLinks.length ziL),(.slice ziM zI.fVLs.length ziN),(.slice ziO zI.fHealth.length ziP),(.slice ziQ zI.fCauses.length ziR),(.slice ziS zI.fVersions.length ziT)]),(.int .i64 z43),(.slice z44 zg.length z47)] w₀ fun e w'=>e = .returned (.bool r) ∧ Hp [] w₀ w' []:=by
 unfold y5k at h
 refine Calls.on3 Tryz.func29 Tryz.ntmps29 ?_
 refine WC.b (WC.a (WL.nA 3 (yH (cs:=[(.slice ziE zI.fModules.length ziF),(.slice ziG zI.fChannels.length ziH),(.slice ziI zI.fSwitches.length ziJ),(.slice ziK zI.fLinks.length ziL),(.slice ziM zI.fVLs.length ziN),(.slice ziO zI.fHealth.length ziP),(.slice ziQ zI.fCauses.length ziR),(.slice ziS zI.fVersions.length ziT)]) rfl rfl) ?_))
 intro z9j _
 refine WL.pu rfl (WL.nil (WX.a (WC.b (WC.a (WL.nA 10 (y4o (Value.int .i64) (Value.int .i64)) ?_)))))
 intro z9k _
 refine WL.pu rfl (WL.nil (WX.a ?_))
 obtain ⟨z9i,zFw,h⟩:=y2y h
 refine WC.y1P ((z9i = some r)) ([(2,(.slice z44 zg.length z47))]) ([]) ?_ ?_
 ·skip
  refine WC.b (WC.a (WL.pu rfl (WL.qA 12 (yG Tryz.underlying48 rfl) (WL.pu rfl (WL.nil (WX.a (WC.block (WC.y9U (fun (zfr : Nat) (zl : Int) (z4E : List (Int × Int))=>(y2F zg zI z43 z9i zfr zl z4E = some r)) (fun zfr zl z4E=>[(1,(.int .i64 z43)),(2,(.slice z44 zg.length z47)),(3,(.pointer (some ⟨z9j,0,none⟩))),(7,(.map (some z9k))),(11,(.slice z44 zg.length z47)),(12,(.int .i64 ((zg.length : Nat) : Int))),(13,(.int .i64 zl))]) (fun zfr zl z4E=>[stb z9j 31 [(.slice ziE zI.fModules.length ziF),(.slice ziG zI.fChannels.length ziH),(.slice ziI zI.fSwitches.length ziJ),(.slice ziK zI.fLinks.length ziL),(.slice ziM zI.fVLs.length ziN),(.slice ziO zI.fHealth.length ziP),(.slice ziQ zI.fCauses.length ziR),(.slice ziS zI.fVersions.length ziT)],yy z9k (Value.int .i64) (Value.int .i64) z4E]) (fun zfr zl z4E=>zfr) ⟨yz,0,([] : List (Int × Int))⟩ h (.r7 rfl rfl rfl rfl rfl rfl rfl) (.s2 .h1 .here) ?_))))))))
  rintro zfr zl z4E h
  obtain ⟨zpx,rfl⟩:=y93 h
  rw [y2F] at h
  refine WC.b (WC.a (WL.pu rfl (WL.nil (WX.a (WC.b (WC.cond rfl (fun zpz=>?_) (fun zpz=>?_)))))))
  ·replace h:=yo h zpz
   refine WC.skip (WX.a (WC.b (WC.block (WC.b ?_))))
   obtain ⟨zFx,h⟩:=yn h
   refine WC.a (WL.pu rfl (WL.znth (dd:=16) rfl rfl (Z:=Z) (Pr:=(fun r x=>r = e62 x)) y5H rfl rfl zxJ zFx ?_))
   rintro zTQ zTR zFy zTS rfl
   refine WL.qA 17 (yf y3H rfl (y2v hz.pv zFy) rfl) (WL.nA 9 (yw (cs:=[(.int .i64 0),(.int .i64 0),(.int .i64 0)]) y6B rfl) ?_)
   intro zdk _
   refine WL.pu rfl (WL.yj rfl rfl (yl y6Q rfl rfl rfl .here rfl rfl rfl) (WL.nil (WX.a ?_)))
   obtain ⟨zm0,zFz,h⟩:=y1d h
   refine WC.y4m (fun (z1A : List (Int × Int))=>(zm0 z1A = some r)) (fun z1A=>[(1,(.int .i64 z43)),(2,(.slice z44 zg.length z47)),(3,(.pointer (some ⟨z9j,0,none⟩))),(7,(.map (some z9k))),(8,(.int .i64 zl)),(9,(.pointer (some ⟨zdk,0,none⟩))),(11,(.slice z44 zg.length z47)),(12,(.int .i64 ((zg.length : Nat) : Int))),(13,(.int .i64 zl))]) (fun z1A=>[stb z9j 31 [(.slice ziE zI.fModules.length ziF),(.slice ziG zI.fChannels.length ziH),(.slice ziI zI.fSwitches.length ziJ),(.slice ziK zI.fLinks.length ziL),(.slice ziM zI.fVLs.length ziN),(.slice ziO zI.fHealth.length ziP),(.slice ziQ zI.fCauses.length ziR),(.slice ziS zI.fVersions.length ziT)],yy z9k (Value.int .i64) (Value.int .i64) z1A,stb zdk 62 [(.int .i64 ((nth zg zl).fNode)),(.int .i64 ((nth zg zl).fNext)),(.int .i64 ((nth zg zl).fLink))]]) ?_ ?_
   ·skip
    refine WC.b (WC.a (WL.pu rfl (WL.pu rfl (WL.nil (WX.a (WC.cond rfl (fun zpA=>?_) (fun zpA=>?_)))))))
    ·replace h:=yo h zpA
     refine WC.a (WL.pu rfl (WL.qA 21 (ya y4U rfl rfl) (WL.qA 22 (yc yx rfl (ym .here rfl)) (WL.qA 23 (y3m (k:=((nth zg zl).fNode)) (dflt:=(0 : Int)) y5h Tryz.underlying145 y4V rfl rfl rfl .h2) (WL.pu rfl (WL.yj rfl rfl (y5z (k:=((nth zg zl).fNode)) (v:=i64 ((yq z4E ((nth zg zl).fNode) 0) + 1)) y5h Tryz.underlying145 rfl rfl rfl rfl .h2) (WL.nil ?_)))))))
     exact WX.mid (yL z4E ((nth zg zl).fNode) (i64 ((yq z4E ((nth zg zl).fNode) 0) + 1))) h (.r9 rfl rfl rfl rfl rfl rfl rfl rfl rfl) (.s3 .h2 .here .here)
    ·replace h:=yp h zpA
     refine WC.skip ?_
     exact WX.mid z4E h (.r9 rfl rfl rfl rfl rfl rfl rfl rfl rfl) (.s3 .h1 .h1 .here)
   ·rintro z1A h
    replace h:=(zFz z1A).symm.trans h
    refine WC.b (WC.b ?_)
    obtain ⟨zFA,h⟩:=yn h
    obtain ⟨zpy,zxK,h⟩:=z6 h
    refine WC.yO (fun i=>[].contains i) [] rfl (WD.pA 0 25 rfl (fun _=>q_m rfl) (WD.pA 1 26 rfl (fun _=>ya y4U rfl rfl) (WD.qA 2 27 rfl (yc yx rfl (ym .h2 rfl)) (WD.qA 3 28 rfl (y3m (k:=((nth zg zl).fNode)) (dflt:=(0 : Int)) y5h Tryz.underlying145 y4V rfl rfl rfl .h1) (WD.pA 4 29 rfl (fun _=>y9T rfl rfl) (WD.pA 5 30 rfl (fun _=>q_m rfl) (WD.mid (fuel':=33) [(1,(.int .i64 z43)),(2,(.slice z44 zg.length z47)),(3,(.pointer (some ⟨z9j,0,none⟩))),(7,(.map (some z9k))),(8,(.int .i64 zl)),(9,(.pointer (some ⟨zdk,0,none⟩))),(11,(.slice z44 zg.length z47)),(12,(.int .i64 ((zg.length : Nat) : Int))),(13,(.int .i64 zl)),(30,(.bool (decide ((yq z1A ((nth zg zl).fNode) 0) = 0)))),(36,(.bool ((decide ((yq z1A ((nth zg zl).fNode) 0) = 0)) || (decide ((yq z1A ((nth zg zl).fNext) 0) > 0)))))] (y4h 45 [11,10,9,8,7,6,5,4,3,2,1,0]) ?_ (fun zxL=>?_))))))))
    rotate_left
    ·rcases Bool.eq_false_or_eq_true (decide ((yq z1A ((nth zg zl).fNode) 0) = 0)) with hb' | hb'
     ·have zpB:=hb'; clear hb'
      refine WD.pin (i:=30) rfl zpB (WD.kA 6 31 rfl (WD.kA 7 32 rfl (WD.kA 8 33 rfl (WD.kA 9 34 rfl (WD.kA 10 35 rfl (WD.pA 11 36 rfl (fun _=>y3E rfl rfl) (WD.reL (.s3 .here .here .here) ?_ zxL)))))))
      exact (.cons rfl (.cons rfl (.cons rfl (.cons rfl (.cons rfl (.cons rfl (.cons rfl (.cons rfl (.cons rfl (.cons (zB (Eq.symm zpB)) (.cons (zB (y6v zpB)) .nil)))))))))))
     ·have zpC:=hb'; clear hb'
      refine WD.pin (i:=30) rfl zpC (WD.pA 6 31 rfl (fun _=>q_m rfl) (WD.pA 7 32 rfl (fun _=>ya y5I rfl rfl) (WD.qA 8 33 rfl (yc yx rfl (ym .h2 rfl)) (WD.qA 9 34 rfl (y3m (k:=((nth zg zl).fNext)) (dflt:=(0 : Int)) y5h Tryz.underlying145 y4V rfl rfl rfl .h1) (WD.pA 10 35 rfl (fun _=>ybU rfl rfl) (WD.pA 11 36 rfl (fun _=>y3F rfl rfl) (WD.reL (.s3 .here .here .here) ?_ zxL)))))))
      exact (.cons rfl (.cons rfl (.cons rfl (.cons rfl (.cons rfl (.cons rfl (.cons rfl (.cons rfl (.cons rfl (.cons (zB (Eq.symm zpC)) (.cons (zB (y6w zpC)) .nil)))))))))))
    refine WD.d #[true,true,true,true,true,true,true,true,true,true,true,true,false,false,false,false,false,false,false,false,false,false,false,false,false,false,false,false,false,false,false,false,false,false,false,false,false,false,false,false,false,false,false,false,false] (by kernel_rfl) (WD.pA 12 37 rfl (fun _=>q_m rfl) (WD.mid (fuel':=12) [(1,(.int .i64 z43)),(2,(.slice z44 zg.length z47)),(3,(.pointer (some ⟨z9j,0,none⟩))),(7,(.map (some z9k))),(9,(.pointer (some ⟨zdk,0,none⟩))),(11,(.slice z44 zg.length z47)),(12,(.int .i64 ((zg.length : Nat) : Int))),(13,(.int .i64 zl)),(37,(.bool ((decide ((yq z1A ((nth zg zl).fNode) 0) = 0)) || (decide ((yq z1A ((nth zg zl).fNext) 0) > 0))))),(57,(.bool (((decide ((yq z1A ((nth zg zl).fNode) 0) = 0)) || (decide ((yq z1A ((nth zg zl).fNext) 0) > 0))) || (((decide (zl > 0)) && (decide (((nth zg zl).fNode) ≠ ((nth zg 0).fNode)))) && (decide (((nth zg zl).fNode) < ((zI.fModules.length : Nat) : Int)))))))] (y4h 45 [32,31,30,29,28,27,26,25,24,23,22,21,20,19,18,17,16,15,14,13,12,11,10,9,8,7,6,5,4,3,2,1,0]) ?_ (fun zxM=>?_)))
    rotate_left
    ·rcases Bool.eq_false_or_eq_true ((decide ((yq z1A ((nth zg zl).fNode) 0) = 0)) || (decide ((yq z1A ((nth zg zl).fNext) 0) > 0))) with hb' | hb'
     ·have zpD:=hb'; clear hb'
      refine WD.pin (i:=37) rfl zpD (WD.kA 13 38 rfl (WD.kA 14 39 rfl (WD.kA 15 40 rfl (WD.kA 16 41 rfl (WD.kA 17 42 rfl (WD.kA 18 43 rfl (WD.kA 19 44 rfl (WD.kA 20 45 rfl (WD.kA 21 46 rfl (WD.kA 22 47 rfl (WD.kA 23 48 rfl (WD.kA 24 49 rfl (WD.kA 25 50 rfl (WD.kA 26 51 rfl (WD.kA 27 52 rfl (WD.kA 28 53 rfl (WD.kA 29 54 rfl (WD.kA 30 55 rfl (WD.kA 31 56 rfl (WD.pA 32 57 rfl (fun _=>y3E rfl rfl) (WD.reL (.s3 .here .here .here) ?_ zxM)))))))))))))))))))))
      exact (.cons rfl (.cons rfl (.cons rfl (.cons rfl (.cons rfl (.cons rfl (.cons rfl (.cons rfl (.cons (zB (Eq.symm zpD)) (.cons (zB (y6v zpD)) .nil))))))))))
     ·have zm1:=hb'; clear hb'
      have zFB:=zFA zm1
      refine WD.pin (i:=37) rfl zm1 (WD.pA 13 38 rfl (fun _=>q_m rfl) (WD.pA 14 39 rfl (fun _=>ybU rfl rfl) (WD.pA 15 40 rfl (fun _=>q_m rfl) (WD.mid (fuel':=21) [(1,(.int .i64 z43)),(2,(.slice z44 zg.length z47)),(3,(.pointer (some ⟨z9j,0,none⟩))),(7,(.map (some z9k))),(9,(.pointer (some ⟨zdk,0,none⟩))),(11,(.slice z44 zg.length z47)),(12,(.int .i64 ((zg.length : Nat) : Int))),(13,(.int .i64 zl)),(37,(.bool false)),(40,(.bool (decide (zl > 0)))),(48,(.bool ((decide (zl > 0)) && (decide (((nth zg zl).fNode) ≠ ((nth zg 0).fNode))))))] (y4h 45 [23,22,21,20,19,18,17,16,15,14,13,12,11,10,9,8,7,6,5,4,3,2,1,0]) ?_ (fun zxN=>?_)))))
      rotate_left
      ·rcases Bool.eq_false_or_eq_true (decide (zl > 0)) with hb' | hb'
       ·have zm2:=hb'; clear hb'
        have zFC:=zFB zm2
        refine WD.pin (i:=40) rfl zm2 (WD.pA 16 41 rfl (fun _=>ya y4U rfl rfl) (WD.qA 17 42 rfl (yc yx rfl (ym .h2 rfl)) (WD.pA 18 43 rfl (fun _=>q_m rfl) (WD.znth (j:=19) (dd:=44) (by kernel_rfl) rfl z2j z2k rfl rfl (Z:=Z) (Pr:=(fun r x=>r = e62 x)) y5H rfl rfl zxJ zFC ?_))))
        rintro zTT zTU zFD zTV rfl
        refine WD.pA 20 45 rfl (fun _=>ya y4U rfl rfl) (WD.qA 21 46 rfl (yc yx rfl (y1k hz.pv zFD rfl)) (WD.pA 22 47 rfl (fun _=>q_neq rfl rfl) (WD.pA 23 48 rfl (fun _=>y3E rfl rfl) (WD.reL (.s3 .here .here .here) ?_ zxN))))
        exact (.cons rfl (.cons rfl (.cons rfl (.cons rfl (.cons rfl (.cons rfl (.cons rfl (.cons rfl (.cons rfl (.cons (zB (Eq.symm zm2)) (.cons (zB (y2P zm2)) .nil)))))))))))
       ·have zpE:=hb'; clear hb'
        refine WD.pin (i:=40) rfl zpE (WD.kA 16 41 rfl (WD.kA 17 42 rfl (WD.kA 18 43 rfl (WD.kA 19 44 rfl (WD.kA 20 45 rfl (WD.kA 21 46 rfl (WD.kA 22 47 rfl (WD.pA 23 48 rfl (fun _=>y3F rfl rfl) (WD.reL (.s3 .here .here .here) ?_ zxN)))))))))
        exact (.cons rfl (.cons rfl (.cons rfl (.cons rfl (.cons rfl (.cons rfl (.cons rfl (.cons rfl (.cons rfl (.cons (zB (Eq.symm zpE)) (.cons (zB (y2O zpE)) .nil)))))))))))
      refine WD.d #[true,true,true,true,true,true,true,true,true,true,true,true,true,true,true,true,true,true,true,true,true,true,true,true,false,false,false,false,false,false,false,false,false,false,false,false,false,false,false,false,false,false,false,false,false] (by kernel_rfl) (WD.pA 24 49 rfl (fun _=>q_m rfl) (WD.mid (fuel':=13) [(1,(.int .i64 z43)),(2,(.slice z44 zg.length z47)),(3,(.pointer (some ⟨z9j,0,none⟩))),(7,(.map (some z9k))),(9,(.pointer (some ⟨zdk,0,none⟩))),(11,(.slice z44 zg.length z47)),(12,(.int .i64 ((zg.length : Nat) : Int))),(13,(.int .i64 zl)),(37,(.bool false)),(49,(.bool ((decide (zl > 0)) && (decide (((nth zg zl).fNode) ≠ ((nth zg 0).fNode)))))),(56,(.bool (((decide (zl > 0)) && (decide (((nth zg zl).fNode) ≠ ((nth zg 0).fNode)))) && (decide (((nth zg zl).fNode) < ((zI.fModules.length : Nat) : Int))))))] (y4h 45 [31,30,29,28,27,26,25,24,23,22,21,20,19,18,17,16,15,14,13,12,11,10,9,8,7,6,5,4,3,2,1,0]) ?_ (fun zxO=>?_)))
      rotate_left
      ·rcases Bool.eq_false_or_eq_true ((decide (zl > 0)) && (decide (((nth zg zl).fNode) ≠ ((nth zg 0).fNode)))) with hb' | hb'
       ·have zpF:=hb'; clear hb'
        refine WD.pin (i:=49) rfl zpF (WD.pA 25 50 rfl (fun _=>ya y4U rfl rfl) (WD.qA 26 51 rfl (yc yx rfl (ym .h2 rfl)) (WD.pA 27 52 rfl (fun _=>ya y6N rfl rfl) (WD.qA 28 53 rfl (yc y6O rfl (ym .here rfl)) (WD.pA 29 54 rfl (fun _=>yG Tryz.underlying22 rfl) (WD.pA 30 55 rfl (fun _=>q_lss rfl rfl) (WD.pA 31 56 rfl (fun _=>y3E rfl rfl) (WD.reL (.s3 .here .here .here) ?_ zxO))))))))
        exact (.cons rfl (.cons rfl (.cons rfl (.cons rfl (.cons rfl (.cons rfl (.cons rfl (.cons rfl (.cons rfl (.cons (zB (Eq.symm zpF)) (.cons (zB (y2P zpF)) .nil)))))))))))
       ·have zpG:=hb'; clear hb'
        refine WD.pin (i:=49) rfl zpG (WD.kA 25 50 rfl (WD.kA 26 51 rfl (WD.kA 27 52 rfl (WD.kA 28 53 rfl (WD.kA 29 54 rfl (WD.kA 30 55 rfl (WD.pA 31 56 rfl (fun _=>y3F rfl rfl) (WD.reL (.s3 .here .here .here) ?_ zxO))))))))
        exact (.cons rfl (.cons rfl (.cons rfl (.cons rfl (.cons rfl (.cons rfl (.cons rfl (.cons rfl (.cons rfl (.cons (zB (Eq.symm zpG)) (.cons (zB (y2O zpG)) .nil)))))))))))
      refine WD.d #[true,true,true,true,true,true,true,true,true,true,true,true,true,true,true,true,true,true,true,true,true,true,true,true,true,true,true,true,true,true,true,true,false,false,false,false,false,false,false,false,false,false,false,false,false] (by kernel_rfl) (WD.pA 32 57 rfl (fun _=>y3F rfl rfl) (WD.reL (.s3 .here .here .here) ?_ zxM))
      exact (.cons rfl (.cons rfl (.cons rfl (.cons rfl (.cons rfl (.cons rfl (.cons rfl (.cons rfl (.cons (zB (Eq.symm zm1)) (.cons (zB (y6w zm1)) .nil))))))))))
    refine WD.d #[true,true,true,true,true,true,true,true,true,true,true,true,true,true,true,true,true,true,true,true,true,true,true,true,true,true,true,true,true,true,true,true,true,false,false,false,false,false,false,false,false,false,false,false,false] (by kernel_rfl) (WD.pA 33 58 rfl (fun _=>q_m rfl) (WD.mid (fuel':=0) [(1,(.int .i64 z43)),(2,(.slice z44 zg.length z47)),(3,(.pointer (some ⟨z9j,0,none⟩))),(7,(.map (some z9k))),(9,(.pointer (some ⟨zdk,0,none⟩))),(11,(.slice z44 zg.length z47)),(12,(.int .i64 ((zg.length : Nat) : Int))),(13,(.int .i64 zl)),(58,(.bool (((decide ((yq z1A ((nth zg zl).fNode) 0) = 0)) || (decide ((yq z1A ((nth zg zl).fNext) 0) > 0))) || (((decide (zl > 0)) && (decide (((nth zg zl).fNode) ≠ ((nth zg 0).fNode)))) && (decide (((nth zg zl).fNode) < ((zI.fModules.length : Nat) : Int))))))),(69,(.bool zpy))] (y4h 45 [44,43,42,41,40,39,38,37,36,35,34,33,32,31,30,29,28,27,26,25,24,23,22,21,20,19,18,17,16,15,14,13,12,11,10,9,8,7,6,5,4,3,2,1,0]) ?_ (fun zxP=>?_)))
    rotate_left
    ·rcases Bool.eq_false_or_eq_true (((decide ((yq z1A ((nth zg zl).fNode) 0) = 0)) || (decide ((yq z1A ((nth zg zl).fNext) 0) > 0))) || (((decide (zl > 0)) && (decide (((nth zg zl).fNode) ≠ ((nth zg 0).fNode)))) && (decide (((nth zg zl).fNode) < ((zI.fModules.length : Nat) : Int))))) with hb' | hb'
     ·have zpH:=hb'; clear hb'
      have zpI:=yo zxK zpH
      replace zpI:=Option.some.inj zpI
      refine WD.pin (i:=58) rfl zpH (WD.kA 34 59 rfl (WD.kA 35 60 rfl (WD.kA 36 61 rfl (WD.kA 37 62 rfl (WD.kA 38 63 rfl (WD.kA 39 64 rfl (WD.kA 40 65 rfl (WD.kA 41 66 rfl (WD.kA 42 67 rfl (WD.kA 43 68 rfl (WD.pA 44 69 rfl (fun _=>y3E rfl rfl) (WD.reL (.s3 .here .here .here) ?_ zxP))))))))))))
      exact (.cons rfl (.cons rfl (.cons rfl (.cons rfl (.cons rfl (.cons rfl (.cons rfl (.cons rfl (.cons (zB (Eq.symm zpH)) (.cons (zB zpI) .nil))))))))))
     ·have zpJ:=hb'; clear hb'
      have ziU:=yp zxK zpJ
      obtain ⟨zxI,zFE,ziU⟩:=z6 ziU
      replace ziU:=Option.some.inj ziU
      refine WD.pin (i:=58) rfl zpJ (WD.qA 34 59 rfl (yf y2z rfl (yh .here) rfl) (WD.pA 35 60 rfl (fun _=>q_m rfl) (WD.pA 36 61 rfl (fun _=>ya yb8 rfl rfl) (WD.qA 37 62 rfl (yc yx rfl (ym .h2 rfl)) (WD.pA 38 63 rfl (fun _=>ya y4U rfl rfl) (WD.qA 39 64 rfl (yc yx rfl (ym .h2 rfl)) (WD.pA 40 65 rfl (fun _=>ya y5I rfl rfl) (WD.qA 41 66 rfl (yc yx rfl (ym .h2 rfl)) (WD.eA 42 67 rfl (z8 Tryz.call56 (.r5 rfl rfl rfl rfl rfl)) (cc hz .nil fun w pz ho=>yc5 _ _ _ _ _ _ _ _ _ _ _ _ _ _ _ _ _ _ _ _ _ _ _ zFE w pz zFo zFp zFq zFr zFs zFt zFu zFv) (WD.pA 43 68 rfl (fun _=>q_not rfl) (WD.pA 44 69 rfl (fun _=>y3F rfl rfl) (WD.reL (.s3 .here .here .here) ?_ zxP))))))))))))
      exact (.cons rfl (.cons rfl (.cons rfl (.cons rfl (.cons rfl (.cons rfl (.cons rfl (.cons rfl (.cons (zB (Eq.symm zpJ)) (.cons (zB ziU) .nil))))))))))
    refine WD.d #[true,true,true,true,true,true,true,true,true,true,true,true,true,true,true,true,true,true,true,true,true,true,true,true,true,true,true,true,true,true,true,true,true,true,true,true,true,true,true,true,true,true,true,true,true] (by kernel_rfl) (WD.done (by kernel_rfl) (WX.a (WC.cond rfl (fun zpK=>?_) (fun zpK=>?_))))
    ·replace h:=yo h zpK
     refine WC.b (WC.a (WL.pu rfl (WL.nil (WX.a (WC.ret (WX.yd (WX.yt (WX.yd (WX.yd (WX.yt (WX.yd ?_)))))))))))
     obtain rfl:=Option.some.inj h
     refine WX.ye Tryz.results29 (.tmp rfl .nil) (fun w hw=>?_)
     exact ⟨yC rfl,hw.sub .nil⟩
    ·replace h:=yp h zpK
     refine WC.skip (WX.a (WC.a (WL.pu rfl (WL.qA 71 (ya y5I rfl rfl) (WL.qA 72 (yc yx rfl (ym .h2 rfl)) (WL.qA 73 (y3m (k:=((nth zg zl).fNext)) (dflt:=(0 : Int)) y5h Tryz.underlying145 y4V rfl rfl rfl .h1) (WL.pu rfl (WL.yj rfl rfl (y5z (k:=((nth zg zl).fNext)) (v:=i64 ((yq z1A ((nth zg zl).fNext) 0) + 1)) y5h Tryz.underlying145 rfl rfl rfl rfl .h1) (WL.nil (WX.yk (WX.a (WC.a (WL.pu rfl (WL.pu rfl (WL.nil ?_)))))))))))))))
     exact WX.round ⟨zpx,(i64 (zl + 1)),(yL z1A ((nth zg zl).fNext) (i64 ((yq z1A ((nth zg zl).fNext) 0) + 1)))⟩ h (Nat.lt_succ_self _) (.r7 rfl rfl rfl rfl rfl rfl rfl) (.s2 .h1 .here)
  ·replace h:=yp h zpz
   refine WC.exit (WX.yg (WX.yg (WX.yA ?_)))
   exact WX.mid () h (.cons rfl .nil) .nil
 ·rintro  h
  replace h:=zFw.symm.trans h
  refine WC.b (WC.a (WL.pu rfl (WL.qA 77 (yG Tryz.underlying48 rfl) (WL.pu rfl (WL.pu rfl (WL.nil (WX.a (WC.ret ?_))))))))
  obtain rfl:=Option.some.inj h
  refine WX.ye Tryz.results29 (.tmp rfl .nil) (fun w hw=>?_)
  exact ⟨yC rfl,hw.sub .nil⟩
def y1m (ziV : List Sapi_Hop) (z3m : Sapi_Config) (zm3 : Int) : Option Bool :=
 (y5k z3m zm3 ziV).bind fun zxQ=>some (!zxQ)
theorem ybj (Z : Zp) (zxR : Option Addr) (zxS : Nat) (zxT : Addr) (zxU : Option Addr) (zxV : Nat) (zxW : Option Addr) (zxX : Nat) (zxY : Option Addr) (zxZ : Nat) (zy0 : Option Addr) (zy1 : Nat) (zy2 : Option Addr) (zy3 : Nat) (zy4 : Option Addr) (zy5 : Nat) (zy6 : Option Addr) (zy7 : Nat) (zy8 : Option Addr) (zy9 : Nat) (zya : Addr) (ziV : List Sapi_Hop) (z3m : Sapi_Config) (zm3 : Int) (r : Bool)
  (h : y1m ziV z3m zm3 = some r) (w₀ : World) (hz : PZ [] w₀ Z)
  (zFF : ZS Z 3 (fun r x=>r = e62 x) zxR zxS ziV)
  (zFG : ZS Z 4 (y4e Z) zxU zxV z3m.fModules)
  (zFH : ZS Z 4 (y4M Z) zxW zxX z3m.fChannels)
  (zFI : ZS Z 4 (fun r x=>r = e66 x) zxY zxZ z3m.fSwitches)
  (zFJ : ZS Z 4 (fun r x=>r = e64 x) zy0 zy1 z3m.fLinks)
  (zFK : ZS Z 7 (p46 Z) zy2 zy3 z3m.fVLs)
  (zFL : ZS Z 5 (fun r x=>r = y4Z x) zy4 zy5 z3m.fHealth)
  (zFM : ZS Z 3 (y4N Z) zy6 zy7 z3m.fCauses)
  (zFN : ZS Z 4 (fun r x=>r = y50 x) zy8 zy9 z3m.fVersions)
  (zFO : ZC Z zxT [(.slice zxU z3m.fModules.length zxV),(.slice zxW z3m.fChannels.length zxX),(.slice zxY z3m.fSwitches.length zxZ),(.slice zy0 z3m.fLinks.length zy1),(.slice zy2 z3m.fVLs.length zy3),(.slice zy4 z3m.fHealth.length zy5),(.slice zy6 z3m.fCauses.length zy7),(.slice zy8 z3m.fVersions.length zy9)])
  (zFP : ZC Z zya [(.int .i64 zm3)]) :
  Calls Tryz.prog 28 #[(.slice zxR ziV.length zxS),(.pointer (some zxT)),(.pointer (some zya))] w₀ fun e w'=>e = .returned (.bool r) ∧ Hp [] w₀ w' []:=by
 unfold y1m at h
 refine Calls.on3 Tryz.func28 Tryz.ntmps28 ?_
 refine WC.b (WC.a (WL.pu rfl (WL.nil (WX.a (WC.b ?_)))))
 obtain ⟨zxQ,zFQ,h⟩:=z6 h
 refine WC.a (WL.qA 5 (yf y2z rfl (y2v hz.pv zFO) rfl) (WL.qA 6 (yc yx rfl (y57 hz.pv zFP rfl)) (WL.pu rfl (WL.cA 8 (z8 Tryz.call29 (.r3 rfl rfl rfl)) .nil (cc hz .nil fun w pz ho=>yc6 _ _ _ _ _ _ _ _ _ _ _ _ _ _ _ _ _ _ _ _ _ _ _ zFQ w pz zFG zFH zFI zFJ zFK zFL zFM zFN zFF) (WL.pu rfl (WL.pu rfl (WL.nil (WX.a (WC.ret ?_)))))))))
 obtain rfl:=Option.some.inj h
 refine WX.ye Tryz.results28 (.tmp rfl .nil) (fun w hw=>?_)
 exact ⟨yC rfl,hw.sub .nil⟩
def yK (z4F : List (List Sapi_Hop)) (z7s : (List Sapi_Hop) → Option Bool) (z9l : Option Int) : Nat → Int → Option Int
 | 0,_=>none
 | zpL + 1,z48=>if decide (z48 < ((z4F.length : Nat) : Int)) then chk ((0 : Int) ≤ z48 ∧ z48 < ((z4F.length : Nat) : Int)) ((z7s (nth z4F z48)).bind fun zpM=>if zpM then some z48 else yK z4F z7s z9l zpL (i64 (z48 + 1))) else z9l
theorem y5a {n : Nat} {z4F : List (List Sapi_Hop)} {z7s : (List Sapi_Hop) → Option Bool} {z9l : Option Int} {z48 : Int} {r : Int} (h : yK z4F z7s z9l n z48 = some r) : ∃ m,n = m + 1:=by
 cases n with
 | zero=>cases h
 | succ m=>exact ⟨m,rfl⟩
def y1H (z4F : List (List Sapi_Hop)) (z7s : (List Sapi_Hop) → Option Bool) : Option Int :=
 jp0 (some (-1)) fun z9l=>yK z4F z7s z9l yz 0
theorem y6h (Z : Zp) (zpN : Option Addr) (zpO : Nat) (zdl : FuncId) (ziW : List Value) (z4F : List (List Sapi_Hop)) (z7s : (List Sapi_Hop) → Option Bool) (r : Int)
  (h : y1H z4F z7s = some r) (w₀ : World) (hz : PZ [] w₀ Z)
  (zFR : ZS Z 1 (p48 Z) zpN zpO z4F)
  (zFS : ∀ args w,(callFunc zdl args).run Tryz.prog w = .ok (.enter zdl args) w)
  (zFT : ∀ w : World,PZ [] w Z → ∀ (x0 : List Sapi_Hop) (ao0 : Option Addr) (cap0 : Nat) (r : Bool),ZS Z 3 (fun r x=>r = e62 x) ao0 cap0 x0 → z7s x0 = some r → Calls Tryz.prog zdl (([(.slice ao0 x0.length cap0)] : List Value) ++ ziW).toArray w fun e w'=>e = .returned (.bool r) ∧ Hp [] w w' []) :
  Calls Tryz.prog 55 #[(.slice zpN z4F.length zpO),(.func (.func zdl) #[] (ziW).toArray)] w₀ fun e w'=>e = .returned (.int .i64 r) ∧ Hp [] w₀ w' []:=by
 unfold y1H at h
 refine Calls.yJ Tryz.func55 Tryz.ntmps55 ?_
 refine WC.b (WC.a (WL.pu rfl (WL.nil (WX.a ?_))))
 obtain ⟨z9l,zFU,h⟩:=y2y h
 refine WC.y1P ((z9l = some r)) ([]) ([]) ?_ ?_
 ·skip
  refine WC.b (WC.a (WL.pu rfl (WL.qA 7 (yG Tryz.underlying32 rfl) (WL.pu rfl (WL.nil (WX.a (WC.block (WC.y2V (fun (zfs : Nat) (z48 : Int)=>(yK z4F z7s z9l zfs z48 = some r)) (fun zfs z48=>[(0,(.slice zpN z4F.length zpO)),(1,(.func (.func zdl) #[] (ziW).toArray)),(7,(.int .i64 ((z4F.length : Nat) : Int))),(8,(.int .i64 z48))]) (fun zfs z48=>[]) (fun zfs z48=>zfs) ⟨yz,0⟩ h (.r4 rfl rfl rfl rfl) .nil ?_))))))))
  rintro zfs z48 h
  obtain ⟨zpL,rfl⟩:=y5a h
  rw [yK] at h
  refine WC.b (WC.a (WL.pu rfl (WL.nil (WX.a (WC.b (WC.cond rfl (fun zpP=>?_) (fun zpP=>?_)))))))
  ·replace h:=yo h zpP
   refine WC.skip (WX.a (WC.b (WC.block (WC.b (WC.a (WL.pu rfl (WL.pu rfl (WL.nil (WX.a (WC.b ?_))))))))))
   obtain ⟨zFV,h⟩:=yn h
   obtain ⟨zpM,zFW,h⟩:=z6 h
   refine WC.a (WL.pu rfl (WL.pu rfl (WL.pu rfl (WL.znth (dd:=14) rfl rfl (Z:=Z) (Pr:=(p48 Z)) y6z rfl rfl zFR zFV ?_))))
   rintro zTW zTX zFX zTY ⟨zFY,zFZ,rfl,zG0⟩
   refine WL.qA 15 (yc y6P rfl (y57 hz.pv zFX rfl)) (WL.cA 16 (y2t (l:=[.tmp 15]) (f:=zdl) (caps:=ziW) zFS rfl (.cons rfl .nil)) .nil (fun w hw=>zFT w (hz.now hw) (nth z4F z48) zFY zFZ zpM zG0 zFW) (WL.nil (WX.a (WC.cond rfl (fun zpQ=>?_) (fun zpQ=>?_)))))
   ·replace h:=yo h zpQ
    refine WC.b (WC.a (WL.pu rfl (WL.pu rfl (WL.nil (WX.a (WC.ret (WX.yt (WX.yd (WX.yd (WX.yt (WX.yd ?_)))))))))))
    obtain rfl:=Option.some.inj h
    refine WX.ye Tryz.results55 (.tmp rfl .nil) (fun w hw=>?_)
    exact ⟨yC rfl,hw.sub .nil⟩
   ·replace h:=yp h zpQ
    refine WC.skip (WX.yk (WX.a (WC.a (WL.pu rfl (WL.pu rfl (WL.nil ?_))))))
    exact WX.round ⟨zpL,(i64 (z48 + 1))⟩ h (Nat.lt_succ_self _) (.r4 rfl rfl rfl rfl) .nil
  ·replace h:=yp h zpP
   refine WC.exit (WX.yg (WX.yg (WX.yA ?_)))
   exact WX.mid () h .nil .nil
 ·rintro  h
  replace h:=zFU.symm.trans h
  refine WC.b (WC.a (WL.pu rfl (WL.nil (WX.a (WC.ret ?_)))))
  obtain rfl:=Option.some.inj h
  refine WX.ye Tryz.results55 (.tmp rfl .nil) (fun w hw=>?_)
  exact ⟨yC rfl,hw.sub .nil⟩
def yX (ziX : List (List Sapi_Hop)) (zdm : (List Sapi_Hop) → Option Bool) : Option Bool :=
 (y1H ziX zdm).bind fun zyb=>some (decide (zyb ≥ 0))
theorem y3T (Z : Zp) (zyc : Option Addr) (zyd : Nat) (zdn : FuncId) (ziY : List Value) (ziX : List (List Sapi_Hop)) (zdm : (List Sapi_Hop) → Option Bool) (r : Bool)
  (h : yX ziX zdm = some r) (w₀ : World) (hz : PZ [] w₀ Z)
  (zG1 : ZS Z 1 (p48 Z) zyc zyd ziX)
  (zG2 : ∀ args w,(callFunc zdn args).run Tryz.prog w = .ok (.enter zdn args) w)
  (zG3 : ∀ w : World,PZ [] w Z → ∀ (x0 : List Sapi_Hop) (ao0 : Option Addr) (cap0 : Nat) (r : Bool),ZS Z 3 (fun r x=>r = e62 x) ao0 cap0 x0 → zdm x0 = some r → Calls Tryz.prog zdn (([(.slice ao0 x0.length cap0)] : List Value) ++ ziY).toArray w fun e w'=>e = .returned (.bool r) ∧ Hp [] w w' []) :
  Calls Tryz.prog 27 #[(.slice zyc ziX.length zyd),(.func (.func zdn) #[] (ziY).toArray)] w₀ fun e w'=>e = .returned (.bool r) ∧ Hp [] w₀ w' []:=by
 unfold yX at h
 refine Calls.yJ Tryz.func27 Tryz.ntmps27 ?_
 refine WC.b (WC.a (WL.pu rfl (WL.nil (WX.a (WC.b ?_)))))
 obtain ⟨zyb,zG4,h⟩:=z6 h
 refine WC.a (WL.pu rfl (WL.pu rfl (WL.cA 7 (z8 Tryz.call55 (.r2 rfl rfl)) .nil (cc hz .nil fun w pz ho=>y6h _ _ _ (zdl:=zdn) (ziW:=ziY) _ (z7s:=zdm) _ zG4 w pz zG1 zG2 zG3) (WL.pu rfl (WL.pu rfl (WL.nil (WX.a (WC.ret ?_))))))))
 obtain rfl:=Option.some.inj h
 refine WX.ye Tryz.results27 (.tmp rfl .nil) (fun w hw=>?_)
 exact ⟨yC rfl,hw.sub .nil⟩
def y4v (z1z : Sapi_Config) (z5x : Int) (z83 : List (List Sapi_Hop)) : Option Bool :=
 (if (((decide (z5x = 0)) || (decide (z5x = 1))) && (decide (((z83.length : Nat) : Int) = ((z1z.fVLs.length : Nat) : Int)))) && (decide (((z83.length : Nat) : Int) ≤ 16)) then (yX z83 (fun (y0 : List Sapi_Hop)=>y1m y0 z1z z5x)).bind fun zye=>some (!zye) else some false).bind fun zpR=>some zpR
theorem y9e (Z : Zp) (zpS : Option Addr) (zpT : Nat) (zpU : Option Addr) (zpV : Nat) (zpW : Option Addr) (zpX : Nat) (zpY : Option Addr) (zpZ : Nat) (zq0 : Option Addr) (zq1 : Nat) (zq2 : Option Addr) (zq3 : Nat) (zq4 : Option Addr) (zq5 : Nat) (zq6 : Option Addr) (zq7 : Nat) (zyf : Option Addr) (zyg : Nat) (z1z : Sapi_Config) (z5x : Int) (z83 : List (List Sapi_Hop)) (r : Bool)
  (h : y4v z1z z5x z83 = some r) (w₀ : World) (hz : PZ [] w₀ Z)
  (zG5 : ZS Z 4 (y4e Z) zpS zpT z1z.fModules)
  (zG6 : ZS Z 4 (y4M Z) zpU zpV z1z.fChannels)
  (zG7 : ZS Z 4 (fun r x=>r = e66 x) zpW zpX z1z.fSwitches)
  (zG8 : ZS Z 4 (fun r x=>r = e64 x) zpY zpZ z1z.fLinks)
  (zG9 : ZS Z 7 (p46 Z) zq0 zq1 z1z.fVLs)
  (zGa : ZS Z 5 (fun r x=>r = y4Z x) zq2 zq3 z1z.fHealth)
  (zGb : ZS Z 3 (y4N Z) zq4 zq5 z1z.fCauses)
  (zGc : ZS Z 4 (fun r x=>r = y50 x) zq6 zq7 z1z.fVersions)
  (zGd : ZS Z 1 (p48 Z) zyf zyg z83) :
  Calls Tryz.prog 12 #[(.agg #[(.slice zpS z1z.fModules.length zpT),(.slice zpU z1z.fChannels.length zpV),(.slice zpW z1z.fSwitches.length zpX),(.slice zpY z1z.fLinks.length zpZ),(.slice zq0 z1z.fVLs.length zq1),(.slice zq2 z1z.fHealth.length zq3),(.slice zq4 z1z.fCauses.length zq5),(.slice zq6 z1z.fVersions.length zq7)]),(.int .i64 z5x),(.slice zyf z83.length zyg)] w₀ fun e w'=>e = .returned (.bool r) ∧ Hp [] w₀ w' []:=by
 unfold y4v at h
 refine Calls.on3 Tryz.func12 Tryz.ntmps12 ?_
 refine WC.b (WC.a (WL.nA 3 (yH (cs:=[(.slice zpS z1z.fModules.length zpT),(.slice zpU z1z.fChannels.length zpV),(.slice zpW z1z.fSwitches.length zpX),(.slice zpY z1z.fLinks.length zpZ),(.slice zq0 z1z.fVLs.length zq1),(.slice zq2 z1z.fHealth.length zq3),(.slice zq4 z1z.fCauses.length zq5),(.slice zq6 z1z.fVersions.length zq7)]) rfl rfl) ?_))
 intro zGe _
 refine WL.nA 4 (yH (cs:=[(.int .i64 z5x)]) rfl rfl) ?_
 intro zGf _
 refine WL.pu rfl (WL.nil (WX.a (WC.b ?_)))
 obtain ⟨zpR,zyh,h⟩:=z6 h
 refine WC.a (WL.qA 7 (yc yx rfl (ym .here rfl)) (WL.pu rfl (WL.pu rfl (WL.seg false 2 9 (B:=(decide (z5x = 0)) || (decide (z5x = 1))) rfl rfl rfl rfl rfl rfl (fun h=>(y6v h).symm) (fun _ zGg=>?_) ?_))))
 ·skip
  refine WL.qA 10 (yc yx rfl (ym .here rfl)) (WL.pu rfl (WL.pu rfl ?_))
  exact WL.yB (y6w zGg) rfl rfl .all
 refine WL.pu rfl (WL.seg true 6 13 (B:=((decide (z5x = 0)) || (decide (z5x = 1))) && (decide (((z83.length : Nat) : Int) = ((z1z.fVLs.length : Nat) : Int)))) rfl rfl rfl rfl rfl rfl (fun h=>(y2O h).symm) (fun _ zGh=>?_) ?_)
 ·skip
  refine WL.pu rfl (WL.qA 15 (yG Tryz.underlying32 rfl) (WL.qA 16 (ya y2R rfl rfl) (WL.qA 17 (yc y3z rfl (ym .h1 rfl)) (WL.qA 18 (yG Tryz.underlying26 rfl) (WL.pu rfl (WL.pu rfl ?_))))))
  exact WL.yB (y2P zGh) rfl rfl .all
 refine WL.pu rfl (WL.seg true 3 21 (B:=(((decide (z5x = 0)) || (decide (z5x = 1))) && (decide (((z83.length : Nat) : Int) = ((z1z.fVLs.length : Nat) : Int)))) && (decide (((z83.length : Nat) : Int) ≤ 16))) rfl rfl rfl rfl rfl rfl (fun h=>(y2O h).symm) (fun _ zGi=>?_) ?_)
 ·skip
  refine WL.pu rfl (WL.qA 23 (yG Tryz.underlying32 rfl) (WL.pu rfl (WL.pu rfl ?_)))
  exact WL.yB (y2P zGi) rfl rfl .all
 refine WL.pu rfl (WL.seg true 4 26 (B:=zpR) rfl rfl rfl rfl rfl rfl (fun h=>(Option.some.inj (yp zyh h)).symm) (fun _ zGj=>?_) ?_)
 ·skip
  have ziZ:=yo zyh zGj
  obtain ⟨zye,zGk,ziZ⟩:=z6 ziZ
  replace ziZ:=Option.some.inj ziZ
  refine WL.pu rfl (WL.qA 28 (y17 (Eos.caps (l:=[.tmp 3,.tmp 4]) (.r2 rfl rfl))) (WL.cA 29 (z8 Tryz.call27 (.r2 rfl rfl)) .nil (ccl hz .nil (.s2 .h1 .here) fun w pz ho la=>y3T _ _ _ (zdn:=28) (ziY:=[(.pointer (some ⟨zGe,0,none⟩)),(.pointer (some ⟨zGf,0,none⟩))]) _ (zdm:=(fun (y0 : List Sapi_Hop)=>y1m y0 z1z z5x)) _ zGk w pz ((zGd.mono (Zle.left _ _)).weak (fun _ _ h=>y1e (Zle.left _ _) h)) Tryz.call28 (fun w' hz' y0 ga0 gc0 r gh0 hr=>ybj _ _ _ _ _ _ _ _ _ _ _ _ _ _ _ _ _ _ _ _ _ _ _ _ _ hr w' hz' gh0 ((zG5.mono (Zle.left _ _)).weak (fun _ _ h=>y1t (Zle.left _ _) h)) ((zG6.mono (Zle.left _ _)).weak (fun _ _ h=>y1A (Zle.left _ _) h)) (zG7.mono (Zle.left _ _)) (zG8.mono (Zle.left _ _)) ((zG9.mono (Zle.left _ _)).weak (fun _ _ h=>y1C (Zle.left _ _) h)) (zGa.mono (Zle.left _ _)) ((zGb.mono (Zle.left _ _)).weak (fun _ _ h=>y1B (Zle.left _ _) h)) (zGc.mono (Zle.left _ _)) ((la _ (.head _) _).stb) ((la _ (.tail _ (.head _)) _).stb))) (WL.pu rfl (WL.pu rfl ?_))))
  exact WL.yB ziZ rfl rfl .all
 refine WL.pu rfl (WL.nil (WX.a (WC.ret ?_)))
 obtain rfl:=Option.some.inj h
 refine WX.ye Tryz.results12 (.tmp rfl .nil) (fun w hw=>?_)
 exact ⟨yC rfl,hw.sub .nil⟩
def y2S (z7t : Int) (z9m : Option Bool) : Nat → Int → Option Bool
 | 0,_=>none
 | zq8 + 1,z5V=>if decide (z5V ≤ 12800) then if decide (z5V = z7t) then some true else y2S z7t z9m zq8 (i64 (z5V * 2)) else z9m
theorem yat {n : Nat} {z7t : Int} {z9m : Option Bool} {z5V : Int} {r : Bool} (h : y2S z7t z9m n z5V = some r) : ∃ m,n = m + 1:=by
 cases n with
 | zero=>cases h
 | succ m=>exact ⟨m,rfl⟩
def y79 (z7t : Int) : Option Bool :=
 jp0 (some false) fun z9m=>y2S z7t z9m yz 100
theorem yee (Z : Zp)  (z7t : Int) (r : Bool)
  (h : y79 z7t = some r) (w₀ : World) (hz : PZ [] w₀ Z) :
  Calls Tryz.prog 20 #[(.int .i64 z7t)] w₀ fun e w'=>e = .returned (.bool r) ∧ Hp [] w₀ w' []:=by
 unfold y79 at h
 refine Calls.on1 Tryz.func20 Tryz.ntmps20 ?_
 refine WC.b (WC.a (WL.pu rfl (WL.nil (WX.a ?_))))
 obtain ⟨z9m,zGl,h⟩:=y2y h
 refine WC.y1P ((z9m = some r)) ([]) ([]) ?_ ?_
 ·skip
  refine WC.b (WC.a (WL.pu rfl (WL.nil (WX.a (WC.block (WC.y2V (fun (zft : Nat) (z5V : Int)=>(y2S z7t z9m zft z5V = some r)) (fun zft z5V=>[(0,(.int .i64 z7t)),(3,(.int .i64 z5V))]) (fun zft z5V=>[]) (fun zft z5V=>zft) ⟨yz,100⟩ h (.r2 rfl rfl) .nil ?_))))))
  rintro zft z5V h
  obtain ⟨zq8,rfl⟩:=yat h
  rw [y2S] at h
  refine WC.b (WC.b (WC.a (WL.pu rfl (WL.pu rfl (WL.nil (WX.a (WC.cond rfl (fun zq9=>?_) (fun zq9=>?_))))))))
  ·replace h:=yo h zq9
   refine WC.skip (WX.a (WC.b (WC.block (WC.b (WC.a (WL.pu rfl (WL.pu rfl (WL.pu rfl (WL.nil (WX.a (WC.cond rfl (fun zqa=>?_) (fun zqa=>?_))))))))))))
   ·replace h:=yo h zqa
    refine WC.b (WC.a (WL.pu rfl (WL.nil (WX.a (WC.ret (WX.yt (WX.yd (WX.yd (WX.yt (WX.yd ?_))))))))))
    obtain rfl:=Option.some.inj h
    refine WX.ye Tryz.results20 (.tmp rfl .nil) (fun w hw=>?_)
    exact ⟨yC rfl,hw.sub .nil⟩
   ·replace h:=yp h zqa
    refine WC.skip (WX.yk (WX.a (WC.a (WL.pu rfl (WL.pu rfl (WL.pu rfl (WL.nil ?_)))))))
    exact WX.round ⟨zq8,(i64 (z5V * 2))⟩ h (Nat.lt_succ_self _) (.r2 rfl rfl) .nil
  ·replace h:=yp h zq9
   refine WC.exit (WX.yg (WX.yg (WX.yA ?_)))
   exact WX.mid () h .nil .nil
 ·rintro  h
  replace h:=zGl.symm.trans h
  refine WC.b (WC.a (WL.pu rfl (WL.nil (WX.a (WC.ret ?_)))))
  obtain rfl:=Option.some.inj h
  refine WX.ye Tryz.results20 (.tmp rfl .nil) (fun w hw=>?_)
  exact ⟨yC rfl,hw.sub .nil⟩
def y2w (z2l : Sapi_VL) : Option Bool :=
 (y79 z2l.fBag).bind fun zm4=>some (((!zm4) || (decide (z2l.fMax < 1))) || (decide (z2l.fMax > 72)))
theorem ybk (Z : Zp) (zqb : Option Addr) (zqc : Nat) (z2l : Sapi_VL) (r : Bool)
  (h : y2w z2l = some r) (w₀ : World) (hz : PZ [] w₀ Z)
  (zTZ : ZS Z 3 (fun r x=>r = e43 x) zqb zqc z2l.fTo) :
  Calls Tryz.prog 19 #[(.agg #[(.string z2l.fName),(.string z2l.fFrom.fModule),(.string z2l.fFrom.fPart),(.string z2l.fFrom.fPort),(.int .i64 z2l.fBag),(.int .i64 z2l.fMax),(.slice zqb z2l.fTo.length zqc)])] w₀ fun e w'=>e = .returned (.bool r) ∧ Hp [] w₀ w' []:=by
 unfold y2w at h
 refine Calls.on1 Tryz.func19 Tryz.ntmps19 ?_
 refine WC.b (WC.a (WL.nA 1 (yH (cs:=[(.string z2l.fName),(.string z2l.fFrom.fModule),(.string z2l.fFrom.fPart),(.string z2l.fFrom.fPort),(.int .i64 z2l.fBag),(.int .i64 z2l.fMax),(.slice zqb z2l.fTo.length zqc)]) rfl rfl) ?_))
 intro zU0 _
 refine WL.pu rfl (WL.nil (WX.a (WC.b ?_)))
 obtain ⟨zm4,zGm,h⟩:=z6 h
 refine WC.a (WL.qA 3 (ya y9A rfl rfl) (WL.qA 4 (yc yx rfl (ym .here rfl)) (WL.cA 5 (z8 Tryz.call20 (.cons rfl .nil)) .nil (cc hz .nil fun w pz ho=>yee _ _ _ zGm w pz ) (WL.pu rfl (WL.pu rfl (WL.seg false 3 7 (B:=(!zm4) || (decide (z2l.fMax < 1))) rfl rfl rfl rfl rfl rfl (fun h=>(y6v h).symm) (fun _ zGn=>?_) ?_))))))
 ·skip
  refine WL.qA 8 (ya y6R rfl rfl) (WL.qA 9 (yc yx rfl (ym .here rfl)) (WL.pu rfl (WL.pu rfl ?_)))
  exact WL.yB (y6w zGn) rfl rfl .all
 refine WL.pu rfl (WL.seg false 3 12 (B:=((!zm4) || (decide (z2l.fMax < 1))) || (decide (z2l.fMax > 72))) rfl rfl rfl rfl rfl rfl (fun h=>(y6v h).symm) (fun _ zGo=>?_) ?_)
 ·skip
  refine WL.qA 13 (ya y6R rfl rfl) (WL.qA 14 (yc yx rfl (ym .here rfl)) (WL.pu rfl (WL.pu rfl ?_)))
  exact WL.yB (y6w zGo) rfl rfl .all
 refine WL.pu rfl (WL.nil (WX.a (WC.ret ?_)))
 obtain rfl:=Option.some.inj h
 refine WX.ye Tryz.results19 (.tmp rfl .nil) (fun w hw=>?_)
 exact ⟨yC rfl,hw.sub .nil⟩
def y11 (z1J : List Sapi_VL) (z7u : Sapi_VL → Option Bool) (z9n : Option Int) : Nat → Int → Option Int
 | 0,_=>none
 | zqd + 1,z1E=>if decide (z1E < ((z1J.length : Nat) : Int)) then chk ((0 : Int) ≤ z1E ∧ z1E < ((z1J.length : Nat) : Int)) ((z7u (⟨((nth z1J z1E).fName),(⟨(((nth z1J z1E).fFrom).fModule),(((nth z1J z1E).fFrom).fPart),(((nth z1J z1E).fFrom).fPort)⟩ : Sapi_Ref),((nth z1J z1E).fBag),((nth z1J z1E).fMax),((nth z1J z1E).fTo)⟩ : Sapi_VL)).bind fun zqe=>if zqe then some z1E else y11 z1J z7u z9n zqd (i64 (z1E + 1))) else z9n
theorem y5X {n : Nat} {z1J : List Sapi_VL} {z7u : Sapi_VL → Option Bool} {z9n : Option Int} {z1E : Int} {r : Int} (h : y11 z1J z7u z9n n z1E = some r) : ∃ m,n = m + 1:=by
 cases n with
 | zero=>cases h
 | succ m=>exact ⟨m,rfl⟩
def y2I (z1J : List Sapi_VL) (z7u : Sapi_VL → Option Bool) : Option Int :=
 jp0 (some (-1)) fun z9n=>y11 z1J z7u z9n yz 0
theorem y7i (Z : Zp) (zqf : Option Addr) (zqg : Nat) (zdo : FuncId) (zj0 : List Value) (z1J : List Sapi_VL) (z7u : Sapi_VL → Option Bool) (r : Int)
  (h : y2I z1J z7u = some r) (w₀ : World) (hz : PZ [] w₀ Z)
  (zGp : ZS Z 7 (p46 Z) zqf zqg z1J)
  (zGq : ∀ args w,(callFunc zdo args).run Tryz.prog w = .ok (.enter zdo args) w)
  (zGr : ∀ w : World,PZ [] w Z → ∀ (x0 : Sapi_VL) (ao0 : Option Addr) (cap0 : Nat) (r : Bool),ZS Z 3 (fun r x=>r = e43 x) ao0 cap0 x0.fTo → z7u x0 = some r → Calls Tryz.prog zdo (([(.agg #[(.string x0.fName),(.string x0.fFrom.fModule),(.string x0.fFrom.fPart),(.string x0.fFrom.fPort),(.int .i64 x0.fBag),(.int .i64 x0.fMax),(.slice ao0 x0.fTo.length cap0)])] : List Value) ++ zj0).toArray w fun e w'=>e = .returned (.bool r) ∧ Hp [] w w' []) :
  Calls Tryz.prog 34 #[(.slice zqf z1J.length zqg),(.func (.func zdo) #[] (zj0).toArray)] w₀ fun e w'=>e = .returned (.int .i64 r) ∧ Hp [] w₀ w' []:=by
 unfold y2I at h
 refine Calls.yJ Tryz.func34 Tryz.ntmps34 ?_
 refine WC.b (WC.a (WL.pu rfl (WL.nil (WX.a ?_))))
 obtain ⟨z9n,zGs,h⟩:=y2y h
 refine WC.y1P ((z9n = some r)) ([]) ([]) ?_ ?_
 ·skip
  refine WC.b (WC.a (WL.pu rfl (WL.qA 7 (yG Tryz.underlying26 rfl) (WL.pu rfl (WL.nil (WX.a (WC.block (WC.y2V (fun (zfu : Nat) (z1E : Int)=>(y11 z1J z7u z9n zfu z1E = some r)) (fun zfu z1E=>[(0,(.slice zqf z1J.length zqg)),(1,(.func (.func zdo) #[] (zj0).toArray)),(7,(.int .i64 ((z1J.length : Nat) : Int))),(8,(.int .i64 z1E))]) (fun zfu z1E=>[]) (fun zfu z1E=>zfu) ⟨yz,0⟩ h (.r4 rfl rfl rfl rfl) .nil ?_))))))))
  rintro zfu z1E h
  obtain ⟨zqd,rfl⟩:=y5X h
  rw [y11] at h
  refine WC.b (WC.a (WL.pu rfl (WL.nil (WX.a (WC.b (WC.cond rfl (fun zqh=>?_) (fun zqh=>?_)))))))
  ·replace h:=yo h zqh
   refine WC.skip (WX.a (WC.b (WC.block (WC.b (WC.a (WL.pu rfl (WL.pu rfl (WL.nil (WX.a (WC.b ?_))))))))))
   obtain ⟨zGt,h⟩:=yn h
   obtain ⟨zqe,zGu,h⟩:=z6 h
   refine WC.a (WL.pu rfl (WL.pu rfl (WL.pu rfl (WL.znth (dd:=14) rfl rfl (Z:=Z) (Pr:=(p46 Z)) y4q rfl rfl zGp zGt ?_))))
   rintro zU1 zU2 zGv zU3 ⟨zGw,zGx,rfl,zGy⟩
   refine WL.qA 15 (yf aggT_46 rfl (y2v hz.pv zGv) rfl) (WL.cA 16 (y2t (l:=[.tmp 15]) (f:=zdo) (caps:=zj0) zGq rfl (.cons rfl .nil)) .nil (fun w hw=>zGr w (hz.now hw) (⟨((nth z1J z1E).fName),(⟨(((nth z1J z1E).fFrom).fModule),(((nth z1J z1E).fFrom).fPart),(((nth z1J z1E).fFrom).fPort)⟩ : Sapi_Ref),((nth z1J z1E).fBag),((nth z1J z1E).fMax),((nth z1J z1E).fTo)⟩ : Sapi_VL) zGw zGx zqe zGy zGu) (WL.nil (WX.a (WC.cond rfl (fun zqi=>?_) (fun zqi=>?_)))))
   ·replace h:=yo h zqi
    refine WC.b (WC.a (WL.pu rfl (WL.pu rfl (WL.nil (WX.a (WC.ret (WX.yt (WX.yd (WX.yd (WX.yt (WX.yd ?_)))))))))))
    obtain rfl:=Option.some.inj h
    refine WX.ye Tryz.results34 (.tmp rfl .nil) (fun w hw=>?_)
    exact ⟨yC rfl,hw.sub .nil⟩
   ·replace h:=yp h zqi
    refine WC.skip (WX.yk (WX.a (WC.a (WL.pu rfl (WL.pu rfl (WL.nil ?_))))))
    exact WX.round ⟨zqd,(i64 (z1E + 1))⟩ h (Nat.lt_succ_self _) (.r4 rfl rfl rfl rfl) .nil
  ·replace h:=yp h zqh
   refine WC.exit (WX.yg (WX.yg (WX.yA ?_)))
   exact WX.mid () h .nil .nil
 ·rintro  h
  replace h:=zGs.symm.trans h
  refine WC.b (WC.a (WL.pu rfl (WL.nil (WX.a (WC.ret ?_)))))
  obtain rfl:=Option.some.inj h
  refine WX.ye Tryz.results34 (.tmp rfl .nil) (fun w hw=>?_)
  exact ⟨yC rfl,hw.sub .nil⟩
def y1Q (zj1 : List Sapi_VL) (zfv : Sapi_VL → Option Bool) : Option Bool :=
 (y2I zj1 zfv).bind fun zyi=>some (decide (zyi ≥ 0))
theorem y6T (Z : Zp) (zyj : Option Addr) (zyk : Nat) (zfw : FuncId) (zm5 : List Value) (zj1 : List Sapi_VL) (zfv : Sapi_VL → Option Bool) (r : Bool)
  (h : y1Q zj1 zfv = some r) (w₀ : World) (hz : PZ [] w₀ Z)
  (zGz : ZS Z 7 (p46 Z) zyj zyk zj1)
  (zGA : ∀ args w,(callFunc zfw args).run Tryz.prog w = .ok (.enter zfw args) w)
  (zGB : ∀ w : World,PZ [] w Z → ∀ (x0 : Sapi_VL) (ao0 : Option Addr) (cap0 : Nat) (r : Bool),ZS Z 3 (fun r x=>r = e43 x) ao0 cap0 x0.fTo → zfv x0 = some r → Calls Tryz.prog zfw (([(.agg #[(.string x0.fName),(.string x0.fFrom.fModule),(.string x0.fFrom.fPart),(.string x0.fFrom.fPort),(.int .i64 x0.fBag),(.int .i64 x0.fMax),(.slice ao0 x0.fTo.length cap0)])] : List Value) ++ zm5).toArray w fun e w'=>e = .returned (.bool r) ∧ Hp [] w w' []) :
  Calls Tryz.prog 18 #[(.slice zyj zj1.length zyk),(.func (.func zfw) #[] (zm5).toArray)] w₀ fun e w'=>e = .returned (.bool r) ∧ Hp [] w₀ w' []:=by
 unfold y1Q at h
 refine Calls.yJ Tryz.func18 Tryz.ntmps18 ?_
 refine WC.b (WC.a (WL.pu rfl (WL.nil (WX.a (WC.b ?_)))))
 obtain ⟨zyi,zGC,h⟩:=z6 h
 refine WC.a (WL.pu rfl (WL.pu rfl (WL.cA 7 (z8 Tryz.call34 (.r2 rfl rfl)) .nil (cc hz .nil fun w pz ho=>y7i _ _ _ (zdo:=zfw) (zj0:=zm5) _ (z7u:=zfv) _ zGC w pz zGz zGA zGB) (WL.pu rfl (WL.pu rfl (WL.nil (WX.a (WC.ret ?_))))))))
 obtain rfl:=Option.some.inj h
 refine WX.ye Tryz.results18 (.tmp rfl .nil) (fun w hw=>?_)
 exact ⟨yC rfl,hw.sub .nil⟩
def y3Y (z6E : Sapi_Hop) : Option Sbound_place :=
 some (⟨z6E.fNode,z6E.fLink⟩ : Sbound_place)
theorem y5l (Z : Zp)  (z6E : Sapi_Hop) (r : Sbound_place)
  (h : y3Y z6E = some r) (w₀ : World) (hz : PZ [] w₀ Z) :
  Calls Tryz.prog 40 #[(.agg #[(.int .i64 z6E.fNode),(.int .i64 z6E.fNext),(.int .i64 z6E.fLink)])] w₀ fun e w'=>e = .returned (.agg #[(.int .i64 r.fNode),(.int .i64 r.fLink)]) ∧ Hp [] w₀ w' []:=by
 unfold y3Y at h
 refine Calls.on1 Tryz.func40 Tryz.ntmps40 ?_
 refine WC.b (WC.a (WL.nA 1 (yH (cs:=[(.int .i64 z6E.fNode),(.int .i64 z6E.fNext),(.int .i64 z6E.fLink)]) rfl rfl) ?_))
 intro zU4 _
 refine WL.nA 2 (yw (cs:=[(.int .i64 0),(.int .i64 0)]) y8N rfl) ?_
 intro zU5 _
 refine WL.nil (WX.a (WC.b (WC.a (WL.qA 3 (ya y4U rfl rfl) (WL.qA 4 (yc yx rfl (ym .h1 rfl)) (WL.qA 5 (ya yb8 rfl rfl) (WL.qA 6 (yc yx rfl (ym .h1 rfl)) (WL.qA 7 (yI (v:=(.agg #[(.int .i64 z6E.fNode),(.int .i64 z6E.fLink)])) (Eos.parts (l:=[.tmp 4,.tmp 6]) (.r2 rfl rfl) [0,1]) (fun _=>by kernel_rfl)) (WL.yj rfl rfl (yl yba rfl rfl rfl .here rfl rfl rfl) (WL.nil (WX.a (WC.ret ?_))))))))))))
 obtain rfl:=Option.some.inj h
 refine WX.ye Tryz.results40 (.agg rfl y3I rfl (yh .here) .nil) (fun w hw=>?_)
 exact ⟨yC rfl,hw.sub .nil⟩
def yP (z3I : List Sbound_place) (z4G : Sbound_place) (z9o : Option Int) : Nat → Int → Option Int
 | 0,_=>none
 | zqj + 1,z3n=>if decide (z3n < ((z3I.length : Nat) : Int)) then chk ((0 : Int) ≤ z3n ∧ z3n < ((z3I.length : Nat) : Int)) (if decide (z4G = (⟨((nth z3I z3n).fNode),((nth z3I z3n).fLink)⟩ : Sbound_place)) then some z3n else yP z3I z4G z9o zqj (i64 (z3n + 1))) else z9o
theorem y5b {n : Nat} {z3I : List Sbound_place} {z4G : Sbound_place} {z9o : Option Int} {z3n : Int} {r : Int} (h : yP z3I z4G z9o n z3n = some r) : ∃ m,n = m + 1:=by
 cases n with
 | zero=>cases h
 | succ m=>exact ⟨m,rfl⟩
def y27 (z3I : List Sbound_place) (z4G : Sbound_place) : Option Int :=
 jp0 (some (-1)) fun z9o=>yP z3I z4G z9o yz 0
theorem y6i (Z : Zp) (zqk : Option Addr) (zql : Nat) (z3I : List Sbound_place) (z4G : Sbound_place) (r : Int)
  (h : y27 z3I z4G = some r) (w₀ : World) (hz : PZ [] w₀ Z)
  (zGD : ZS Z 2 (fun r x=>r = e97 x) zqk zql z3I) :
  Calls Tryz.prog 103 #[(.slice zqk z3I.length zql),(.agg #[(.int .i64 z4G.fNode),(.int .i64 z4G.fLink)])] w₀ fun e w'=>e = .returned (.int .i64 r) ∧ Hp [] w₀ w' []:=by
 unfold y27 at h
 refine Calls.yJ Tryz.func103 Tryz.ntmps103 ?_
 refine WC.b (WC.a (WL.nA 3 (yH (cs:=[(.int .i64 z4G.fNode),(.int .i64 z4G.fLink)]) rfl rfl) ?_))
 intro zyl _
 refine WL.pu rfl (WL.nil (WX.a ?_))
 obtain ⟨z9o,zGE,h⟩:=y2y h
 refine WC.y1P ((z9o = some r)) ([]) ([]) ?_ ?_
 ·skip
  refine WC.b (WC.a (WL.pu rfl (WL.qA 7 (yG Tryz.underlying88 rfl) (WL.pu rfl (WL.nil (WX.a (WC.block (WC.y2V (fun (zfx : Nat) (z3n : Int)=>(yP z3I z4G z9o zfx z3n = some r)) (fun zfx z3n=>[(0,(.slice zqk z3I.length zql)),(3,(.pointer (some ⟨zyl,0,none⟩))),(7,(.int .i64 ((z3I.length : Nat) : Int))),(8,(.int .i64 z3n))]) (fun zfx z3n=>[stb zyl 97 [(.int .i64 z4G.fNode),(.int .i64 z4G.fLink)]]) (fun zfx z3n=>zfx) ⟨yz,0⟩ h (.r4 rfl rfl rfl rfl) (.cons .here .nil) ?_))))))))
  rintro zfx z3n h
  obtain ⟨zqj,rfl⟩:=y5b h
  rw [yP] at h
  refine WC.b (WC.a (WL.pu rfl (WL.nil (WX.a (WC.b (WC.cond rfl (fun zqm=>?_) (fun zqm=>?_)))))))
  ·replace h:=yo h zqm
   refine WC.skip (WX.a (WC.b (WC.block (WC.b (WC.a (WL.pu rfl (WL.pu rfl (WL.nil (WX.a (WC.b ?_))))))))))
   obtain ⟨zGF,h⟩:=yn h
   refine WC.yO (fun i=>[].contains i) [] rfl (WD.qA 0 11 rfl (yf y3I rfl (yh .here) rfl) (WD.pA 1 12 rfl (fun _=>q_m rfl) (WD.pA 2 13 rfl (fun _=>q_m rfl) (WD.znth (j:=3) (dd:=14) (by kernel_rfl) rfl z2j z2k rfl rfl (Z:=Z) (Pr:=(fun r x=>r = e97 x)) y5i rfl rfl zGD zGF ?_))))
   rintro zU6 zU7 zGG zU8 rfl
   refine WD.qA 4 15 rfl (yf y3I rfl (y2v hz.pv zGG) rfl) (WD.pA 5 16 rfl (fun _=>y7g (enc:=e97) (a:=z4G) (b:=(⟨((nth z3I z3n).fNode),((nth z3I z3n).fLink)⟩ : Sbound_place)) yc4 rfl rfl) (WD.done (by kernel_rfl) (WX.a (WC.cond rfl (fun zqn=>?_) (fun zqn=>?_)))))
   ·replace h:=yo h zqn
    refine WC.b (WC.a (WL.pu rfl (WL.pu rfl (WL.nil (WX.a (WC.ret (WX.yt (WX.yd (WX.yd (WX.yt (WX.yd ?_)))))))))))
    obtain rfl:=Option.some.inj h
    refine WX.ye Tryz.results103 (.tmp rfl .nil) (fun w hw=>?_)
    exact ⟨yC rfl,hw.sub .nil⟩
   ·replace h:=yp h zqn
    refine WC.skip (WX.yk (WX.a (WC.a (WL.pu rfl (WL.pu rfl (WL.nil ?_))))))
    exact WX.round ⟨zqj,(i64 (z3n + 1))⟩ h (Nat.lt_succ_self _) (.r4 rfl rfl rfl rfl) (.cons .here .nil)
  ·replace h:=yp h zqm
   refine WC.exit (WX.yg (WX.yg (WX.yA ?_)))
   exact WX.mid () h .nil .nil
 ·rintro  h
  replace h:=zGE.symm.trans h
  refine WC.b (WC.a (WL.pu rfl (WL.nil (WX.a (WC.ret ?_)))))
  obtain rfl:=Option.some.inj h
  refine WX.ye Tryz.results103 (.tmp rfl .nil) (fun w hw=>?_)
  exact ⟨yC rfl,hw.sub .nil⟩
def y1r (zj2 : List Sbound_place) (zdp : Sbound_place) : Option Bool :=
 (y27 zj2 zdp).bind fun zym=>some (decide (zym ≥ 0))
theorem y5Q (Z : Zp) (zyn : Option Addr) (zyo : Nat) (zj2 : List Sbound_place) (zdp : Sbound_place) (r : Bool)
  (h : y1r zj2 zdp = some r) (w₀ : World) (hz : PZ [] w₀ Z)
  (zGH : ZS Z 2 (fun r x=>r = e97 x) zyn zyo zj2) :
  Calls Tryz.prog 63 #[(.slice zyn zj2.length zyo),(.agg #[(.int .i64 zdp.fNode),(.int .i64 zdp.fLink)])] w₀ fun e w'=>e = .returned (.bool r) ∧ Hp [] w₀ w' []:=by
 unfold y1r at h
 refine Calls.yJ Tryz.func63 Tryz.ntmps63 ?_
 refine WC.b (WC.a (WL.nA 3 (yH (cs:=[(.int .i64 zdp.fNode),(.int .i64 zdp.fLink)]) rfl rfl) ?_))
 intro zU9 _
 refine WL.pu rfl (WL.nil (WX.a (WC.b ?_)))
 obtain ⟨zym,zGI,h⟩:=z6 h
 refine WC.a (WL.pu rfl (WL.qA 6 (yf y3I rfl (yh .here) rfl) (WL.cA 7 (z8 Tryz.call103 (.r2 rfl rfl)) .nil (cc hz .nil fun w pz ho=>y6i _ _ _ _ _ _ zGI w pz zGH) (WL.pu rfl (WL.pu rfl (WL.nil (WX.a (WC.ret ?_))))))))
 obtain rfl:=Option.some.inj h
 refine WX.ye Tryz.results63 (.tmp rfl .nil) (fun w hw=>?_)
 exact ⟨yC rfl,hw.sub .nil⟩
def y5m (zj3 : Int) : Option Bool :=
 some (decide (zj3 ≠ zj3))
theorem y9f (Z : Zp)  (zj3 : Int) (r : Bool)
  (h : y5m zj3 = some r) (w₀ : World) (hz : PZ [] w₀ Z) :
  Calls Tryz.prog 91 #[(.int .i64 zj3)] w₀ fun e w'=>e = .returned (.bool r) ∧ Hp [] w₀ w' []:=by
 unfold y5m at h
 refine Calls.on1 Tryz.func91 Tryz.ntmps91 ?_
 refine WC.b (WC.a (WL.pu rfl (WL.nil (WX.a (WC.b (WC.a (WL.pu rfl (WL.pu rfl (WL.pu rfl (WL.pu rfl (WL.nil (WX.a (WC.ret ?_)))))))))))))
 obtain rfl:=Option.some.inj h
 refine WX.ye Tryz.results91 (.tmp rfl .nil) (fun w hw=>?_)
 exact ⟨yC rfl,hw.sub .nil⟩
def y4a (zfy : Int) (zfz : Int) : Option Int :=
 (y5m zfy).bind fun zyp=>(y5m zfz).bind fun zqo=>if zyp then if zqo then some 0 else some (-1) else if zqo then some 1 else if decide (zfy < zfz) then some (-1) else if decide (zfy > zfz) then some 1 else some 0
theorem y8r (Z : Zp)  (zfy : Int) (zfz : Int) (r : Int)
  (h : y4a zfy zfz = some r) (w₀ : World) (hz : PZ [] w₀ Z) :
  Calls Tryz.prog 50 #[(.int .i64 zfy),(.int .i64 zfz)] w₀ fun e w'=>e = .returned (.int .i64 r) ∧ Hp [] w₀ w' []:=by
 unfold y4a at h
 refine Calls.yJ Tryz.func50 Tryz.ntmps50 ?_
 refine WC.b (WC.a (WL.pu rfl (WL.nil (WX.a (WC.b ?_)))))
 obtain ⟨zyp,zGJ,h⟩:=z6 h
 refine WC.a (WL.pu rfl (WL.cA 8 (z8 Tryz.call91 (.cons rfl .nil)) .nil (cc hz .nil fun w pz ho=>y9f _ _ _ zGJ w pz ) (WL.pu rfl (WL.nil (WX.a (WC.b ?_))))))
 obtain ⟨zqo,zGK,h⟩:=z6 h
 refine WC.a (WL.pu rfl (WL.cA 10 (z8 Tryz.call91 (.cons rfl .nil)) .nil (cc hz .nil fun w pz ho=>y9f _ _ _ zGK w pz ) (WL.pu rfl (WL.nil (WX.a (WC.b (WC.b (WC.a (WL.pu rfl (WL.nil (WX.a (WC.cond rfl (fun zqp=>?_) (fun zqp=>?_)))))))))))))
 ·replace h:=yo h zqp
  refine WC.b (WC.b (WC.a (WL.pu rfl (WL.nil (WX.a (WC.cond rfl (fun zqq=>?_) (fun zqq=>?_)))))))
  ·replace h:=yo h zqq
   refine WC.b (WC.a (WL.pu rfl (WL.nil (WX.a (WC.ret (WX.yd (WX.yd ?_)))))))
   obtain rfl:=Option.some.inj h
   refine WX.ye Tryz.results50 (.tmp rfl .nil) (fun w hw=>?_)
   exact ⟨yC rfl,hw.sub .nil⟩
  ·replace h:=yp h zqq
   refine WC.skip (WX.a (WC.b (WC.a (WL.pu rfl (WL.nil (WX.a (WC.ret (WX.yd ?_))))))))
   obtain rfl:=Option.some.inj h
   refine WX.ye Tryz.results50 (.tmp rfl .nil) (fun w hw=>?_)
   exact ⟨yC rfl,hw.sub .nil⟩
 ·replace h:=yp h zqp
  refine WC.skip (WX.a (WC.b (WC.b (WC.a (WL.pu rfl (WL.nil (WX.a (WC.cond rfl (fun zqr=>?_) (fun zqr=>?_)))))))))
  ·replace h:=yo h zqr
   refine WC.b (WC.a (WL.pu rfl (WL.nil (WX.a (WC.ret (WX.yd ?_))))))
   obtain rfl:=Option.some.inj h
   refine WX.ye Tryz.results50 (.tmp rfl .nil) (fun w hw=>?_)
   exact ⟨yC rfl,hw.sub .nil⟩
  ·replace h:=yp h zqr
   refine WC.skip (WX.a (WC.b (WC.b (WC.a (WL.pu rfl (WL.pu rfl (WL.pu rfl (WL.nil (WX.a (WC.cond rfl (fun zqs=>?_) (fun zqs=>?_)))))))))))
   ·replace h:=yo h zqs
    refine WC.b (WC.a (WL.pu rfl (WL.nil (WX.a (WC.ret (WX.yd ?_))))))
    obtain rfl:=Option.some.inj h
    refine WX.ye Tryz.results50 (.tmp rfl .nil) (fun w hw=>?_)
    exact ⟨yC rfl,hw.sub .nil⟩
   ·replace h:=yp h zqs
    refine WC.skip (WX.a (WC.b (WC.b (WC.a (WL.pu rfl (WL.pu rfl (WL.pu rfl (WL.nil (WX.a (WC.cond rfl (fun zqt=>?_) (fun zqt=>?_)))))))))))
    ·replace h:=yo h zqt
     refine WC.b (WC.a (WL.pu rfl (WL.nil (WX.a (WC.ret (WX.yd ?_))))))
     obtain rfl:=Option.some.inj h
     refine WX.ye Tryz.results50 (.tmp rfl .nil) (fun w hw=>?_)
     exact ⟨yC rfl,hw.sub .nil⟩
    ·replace h:=yp h zqt
     refine WC.skip (WX.a (WC.b (WC.a (WL.pu rfl (WL.nil (WX.a (WC.ret ?_)))))))
     obtain rfl:=Option.some.inj h
     refine WX.ye Tryz.results50 (.tmp rfl .nil) (fun w hw=>?_)
     exact ⟨yC rfl,hw.sub .nil⟩
def y3Z (z4H : List Int) (z9p : Option Int) : Nat → Int → Option Int
 | 0,_=>none
 | zqu + 1,z4I=>if decide (z4I < ((z4H.length : Nat) : Int)) then chk ((0 : Int) ≤ z4I ∧ z4I < ((z4H.length : Nat) : Int)) (if decide ((nth z4H z4I) ≠ 0) then some (nth z4H z4I) else y3Z z4H z9p zqu (i64 (z4I + 1))) else z9p
theorem ya6 {n : Nat} {z4H : List Int} {z9p : Option Int} {z4I : Int} {r : Int} (h : y3Z z4H z9p n z4I = some r) : ∃ m,n = m + 1:=by
 cases n with
 | zero=>cases h
 | succ m=>exact ⟨m,rfl⟩
def y6D (z4H : List Int) : Option Int :=
 jp0 (some 0) fun z9p=>y3Z z4H z9p yz 0
theorem ydC (Z : Zp) (zqv : Option Addr) (zqw : Nat) (z4H : List Int) (r : Int)
  (h : y6D z4H = some r) (w₀ : World) (hz : PZ [] w₀ Z)
  (zGL : ZS Z 1 (fun r x=>r = e3 x) zqv zqw z4H) :
  Calls Tryz.prog 49 #[(.slice zqv z4H.length zqw)] w₀ fun e w'=>e = .returned (.int .i64 r) ∧ Hp [] w₀ w' []:=by
 unfold y6D at h
 refine Calls.on1 Tryz.func49 Tryz.ntmps49 ?_
 refine WC.b (WC.a (WL.pu rfl (WL.nil (WX.a (WC.b (WC.a (WL.pu rfl (WL.nil (WX.a ?_)))))))))
 obtain ⟨z9p,zGM,h⟩:=y2y h
 refine WC.y1P ((z9p = some r)) ([(3,(.int .i64 0))]) ([]) ?_ ?_
 ·skip
  refine WC.b (WC.a (WL.pu rfl (WL.qA 7 (yG Tryz.underlying109 rfl) (WL.pu rfl (WL.nil (WX.a (WC.block (WC.y2V (fun (zfA : Nat) (z4I : Int)=>(y3Z z4H z9p zfA z4I = some r)) (fun zfA z4I=>[(3,(.int .i64 0)),(6,(.slice zqv z4H.length zqw)),(7,(.int .i64 ((z4H.length : Nat) : Int))),(8,(.int .i64 z4I))]) (fun zfA z4I=>[]) (fun zfA z4I=>zfA) ⟨yz,0⟩ h (.r4 rfl rfl rfl rfl) .nil ?_))))))))
  rintro zfA z4I h
  obtain ⟨zqu,rfl⟩:=ya6 h
  rw [y3Z] at h
  refine WC.b (WC.a (WL.pu rfl (WL.nil (WX.a (WC.b (WC.cond rfl (fun zqx=>?_) (fun zqx=>?_)))))))
  ·replace h:=yo h zqx
   refine WC.skip (WX.a (WC.b (WC.block (WC.b ?_))))
   obtain ⟨zGN,h⟩:=yn h
   refine WC.a (WL.znth (dd:=10) rfl rfl (Z:=Z) (Pr:=(fun r x=>r = e3 x)) ziz rfl rfl zGL zGN ?_)
   rintro zUa zUb zGO zUc rfl
   refine WL.qA 11 (yc yx rfl (y57 hz.pv zGO rfl)) (WL.pu rfl (WL.nil (WX.a (WC.b (WC.a (WL.pu rfl (WL.pu rfl (WL.pu rfl (WL.nil (WX.a (WC.cond rfl (fun zqy=>?_) (fun zqy=>?_))))))))))))
   ·replace h:=yo h zqy
    refine WC.b (WC.a (WL.pu rfl (WL.pu rfl (WL.nil (WX.a (WC.ret (WX.yt (WX.yd (WX.yd (WX.yt (WX.yd ?_)))))))))))
    obtain rfl:=Option.some.inj h
    refine WX.ye Tryz.results49 (.tmp rfl .nil) (fun w hw=>?_)
    exact ⟨yC rfl,hw.sub .nil⟩
   ·replace h:=yp h zqy
    refine WC.skip (WX.yk (WX.a (WC.a (WL.pu rfl (WL.pu rfl (WL.nil ?_))))))
    exact WX.round ⟨zqu,(i64 (z4I + 1))⟩ h (Nat.lt_succ_self _) (.r4 rfl rfl rfl rfl) .nil
  ·replace h:=yp h zqx
   refine WC.exit (WX.yg (WX.yg (WX.yA ?_)))
   exact WX.mid () h (.cons rfl .nil) .nil
 ·rintro  h
  replace h:=zGM.symm.trans h
  refine WC.b (WC.a (WL.pu rfl (WL.pu rfl (WL.nil (WX.a (WC.ret ?_))))))
  obtain rfl:=Option.some.inj h
  refine WX.ye Tryz.results49 (.tmp rfl .nil) (fun w hw=>?_)
  exact ⟨yC rfl,hw.sub .nil⟩
def y1j (zbd : Sbound_place) (zbe : Sbound_place) : Option Int :=
 (y4a zbd.fNode zbe.fNode).bind fun zqz=>(y4a zbd.fLink zbe.fLink).bind fun zqA=>(y6D ([zqz,zqA] : List Int)).bind fun zyq=>some zyq
theorem y7F (Z : Zp)  (zbd : Sbound_place) (zbe : Sbound_place) (r : Int)
  (h : y1j zbd zbe = some r) (w₀ : World) (hz : PZ [] w₀ Z) :
  Calls Tryz.prog 25 #[(.agg #[(.int .i64 zbd.fNode),(.int .i64 zbd.fLink)]),(.agg #[(.int .i64 zbe.fNode),(.int .i64 zbe.fLink)])] w₀ fun e w'=>e = .returned (.int .i64 r) ∧ Hp [] w₀ w' []:=by
 unfold y1j at h
 refine Calls.yJ Tryz.func25 Tryz.ntmps25 ?_
 refine WC.b (WC.a (WL.nA 2 (yH (cs:=[(.int .i64 zbd.fNode),(.int .i64 zbd.fLink)]) rfl rfl) ?_))
 intro zUd _
 refine WL.nA 3 (yH (cs:=[(.int .i64 zbe.fNode),(.int .i64 zbe.fLink)]) rfl rfl) ?_
 intro zUe _
 refine WL.pu rfl (WL.nil (WX.a (WC.b ?_)))
 obtain ⟨zqz,zGP,h⟩:=z6 h
 obtain ⟨zqA,zGQ,h⟩:=z6 h
 obtain ⟨zyq,zGR,h⟩:=z6 h
 refine WC.yO (fun i=>[].contains i) [] rfl (WD.pA 0 5 rfl (fun _=>ya y8H rfl rfl) (WD.qA 1 6 rfl (yc yx rfl (ym .h1 rfl)) (WD.pA 2 7 rfl (fun _=>ya y8H rfl rfl) (WD.qA 3 8 rfl (yc yx rfl (ym .here rfl)) (WD.eA 4 9 rfl (z8 Tryz.call50 (.r2 rfl rfl)) (cc hz .nil fun w pz ho=>y8r _ _ _ _ zGP w pz ) (WD.pA 5 10 rfl (fun _=>ya y9B rfl rfl) (WD.qA 6 11 rfl (yc yx rfl (ym .h1 rfl)) (WD.pA 7 12 rfl (fun _=>ya y9B rfl rfl) (WD.qA 8 13 rfl (yc yx rfl (ym .here rfl)) (WD.eA 9 14 rfl (z8 Tryz.call50 (.r2 rfl rfl)) (cc hz .nil fun w pz ho=>y8r _ _ _ _ zGQ w pz ) (WD.new (i:=10) (dd:=15) rfl (by kernel_rfl) rfl rfl rfl (yN (cs:=([zqz,zqA] : List Int).flatMap e3) ziz (Eos.parts (l:=[.tmp 9,.tmp 14]) (.r2 rfl rfl) [0,1]) (fun _=>by kernel_rfl) rfl (by unfold maxLen; omega)) (fun h'=>absurd h' (by decide)) ?_)))))))))))
 intro zUf _
 refine WD.eA 11 16 rfl (z8 Tryz.call49 (.cons rfl .nil)) (ccl hz .nil (.cons .here .nil) fun w pz ho la=>ydC _ _ _ _ _ zGR w pz (ZA.row (la _ (.head _) _) (RR.flat (enc:=e3) (fun _=>rfl) _) ⟨w,pz.1⟩)) (WD.pA 12 4 rfl (fun _=>q_z rfl) (WD.done (by kernel_rfl) (WX.a (WC.ret ?_))))
 obtain rfl:=Option.some.inj h
 refine WX.ye Tryz.results25 (.tmp rfl .nil) (fun w hw=>?_)
 exact ⟨yC rfl,hw.sub .nil⟩
def y40 (z6F : Int) : Option Int:=chk ((0 : Int) ≤ z6F ∧ z6F ≤ 18446744073709551615) (some ((Go.Lib.bitLen (z6F).toNat : Nat) : Int))
theorem y7G (Z : Zp) (z6F : Int) (r : Int) (w₀ : World) (hz : PZ [] w₀ Z) (h : y40 z6F = some r) : Calls Tryz.prog 48 #[.int .u64 z6F] w₀ fun e w'=>e = .returned (.int .i64 r) ∧ Hp [] w₀ w' []:=by
 obtain ⟨h0,h⟩:=yn h
 obtain rfl:=Option.some.inj h
 refine (Tryz.bits_Len z6F w₀ h0.1 h0.2).mono ?_
 rintro e w' ⟨rfl,rfl⟩
 exact ⟨rfl,Hp.nil w' []⟩
theorem zGS : ∀ w,(isAgg (Tryz.y35.t 24)).run Tryz.prog w = .ok true w:=fun _=>by kernel_rfl
theorem zGT : ∀ w,(Go.sizeOf (Tryz.y35.t 24)).run Tryz.prog w = .ok 2 w:=fun _=>by kernel_rfl
def y3f (z49 : List Sbound_place) (zj4 : Int) (zj5 : Int) (zfB : Int) (zdq : Sbound_place → Sbound_place → Option Int) : Option (List Sbound_place):=chk ((zj4 = 0 ∧ zj5 = ((z49.length : Nat) : Int)) ∧ (0 ≤ zfB ∧ zfB < 4611686018427387904 ∧ z49.length < 4611686018427387904)) (chk (y7h zdq (yZ zdq z49) = true) (some (yZ zdq z49)))
theorem y6U (Z : Zp) (zdr : Option Addr) (zds : Nat) (zj6 : FuncId) (zqB : List Value) (z49 : List Sbound_place) (zj4 : Int) (zj5 : Int) (zfB : Int) (zdq : Sbound_place → Sbound_place → Option Int) (r : List Sbound_place) (w₀ : World) (hz : PZ (fps [row (.slice zdr z49.length zds) 97 2 (z49.flatMap e97)]) w₀ Z)
  (zGU : ∀ args w,(callFunc zj6 args).run Tryz.prog w = .ok (.enter zj6 args) w)
  (zGV : ∀ w : World,PZ [] w Z → ∀ (x0 : Sbound_place) (x1 : Sbound_place) (r : Int),zdq x0 x1 = some r → Calls Tryz.prog zj6 (([(.agg #[(.int .i64 x0.fNode),(.int .i64 x0.fLink)]),(.agg #[(.int .i64 x1.fNode),(.int .i64 x1.fLink)])] : List Value) ++ zqB).toArray w fun e w'=>e = .returned (.int .i64 r) ∧ Hp [] w w' [])
  (h : y3f z49 zj4 zj5 zfB zdq = some r) (hown : Hp (fps [row (.slice zdr z49.length zds) 97 2 (z49.flatMap e97)]) w₀ w₀ [row (.slice zdr z49.length zds) 97 2 (z49.flatMap e97)]) :
  Calls Tryz.prog 104 #[(.slice zdr z49.length zds),(.int .i64 zj4),(.int .i64 zj5),(.int .i64 zfB),(.func (.func zj6) #[] (zqB).toArray)] w₀ fun e w'=>e = .returned (.tuple #[]) ∧ (r.length = z49.length) ∧ Hp (fps [row (.slice zdr z49.length zds) 97 2 (z49.flatMap e97)]) w₀ w' [row (.slice zdr r.length zds) 97 2 (r.flatMap e97)]:=by
 obtain ⟨h0,h⟩:=yn h
 obtain ⟨h1,h⟩:=yn h
 have hr:=(Option.some.inj h).symm
 exact y84 (P:=Tryz.prog) (f:=104) (e:=97) (k:=2) (enc:=e97) (fun _=>rfl) (by decide) yaP (fun β _ enc cf g cb hO blk off cap d0 w0 eg hC R=>Tryz.y7Q 2 zGS zGT enc cf g cb hO blk off cap d0 w0 eg hC R) (Tryz.y7J (α:=Unit)) hz zGU zGV h0 h1 hr hown
def y1s (z3J : List Sbound_place) (zfC : Sbound_place → Sbound_place → Option Int) : Option (List Sbound_place) :=
 (y40 (u64 ((z3J.length : Nat) : Int))).bind fun zm6=>(y3f z3J 0 ((z3J.length : Nat) : Int) zm6 zfC).bind fun zm7=>some zm7
theorem y5R (Z : Zp) (zbf : Option Addr) (zbg : Nat) (zfD : FuncId) (zm8 : List Value) (z3J : List Sbound_place) (zfC : Sbound_place → Sbound_place → Option Int) (r : List Sbound_place)
  (h : y1s z3J zfC = some r) (w₀ : World) (hz : PZ (fps [row (.slice zbf z3J.length zbg) 97 2 (z3J.flatMap e97)]) w₀ Z)
  (zGW : ∀ args w,(callFunc zfD args).run Tryz.prog w = .ok (.enter zfD args) w)
  (zGX : ∀ w : World,PZ [] w Z → ∀ (x0 : Sbound_place) (x1 : Sbound_place) (r : Int),zfC x0 x1 = some r → Calls Tryz.prog zfD (([(.agg #[(.int .i64 x0.fNode),(.int .i64 x0.fLink)]),(.agg #[(.int .i64 x1.fNode),(.int .i64 x1.fLink)])] : List Value) ++ zm8).toArray w fun e w'=>e = .returned (.int .i64 r) ∧ Hp [] w w' [])
  (hown : Hp (fps [row (.slice zbf z3J.length zbg) 97 2 (z3J.flatMap e97)]) w₀ w₀ [row (.slice zbf z3J.length zbg) 97 2 (z3J.flatMap e97)]) :
  Calls Tryz.prog 64 #[(.slice zbf z3J.length zbg),(.func (.func zfD) #[] (zm8).toArray)] w₀ fun e w'=>e = .returned (.tuple #[]) ∧ (r.length = z3J.length) ∧ Hp (fps [row (.slice zbf z3J.length zbg) 97 2 (z3J.flatMap e97)]) w₀ w' [row (.slice zbf r.length zbg) 97 2 (r.flatMap e97)]:=by
 unfold y1s at h
 refine Calls.oh2 Tryz.func64 Tryz.ntmps64 hown ?_
 refine WC.b (WC.a (WL.pu rfl (WL.qA 6 (yG Tryz.underlying88 rfl) (WL.pu rfl (WL.nil (WX.a ?_))))))
 obtain ⟨zm6,zGY,h⟩:=z6 h
 obtain ⟨zm7,zGZ,h⟩:=z6 h
 refine WC.a (WL.pu rfl (WL.pu rfl (WL.pu rfl (WL.qA 10 (y77 Tryz.underlying3 Tryz.underlying142 rfl rfl) (WL.cA 11 (z8 Tryz.call48 (.cons rfl .nil)) .nil (cc hz .nil fun w pz ho=>y7G (Z:=_)  (z6F:=(u64 ((z3J.length : Nat) : Int))) (r:=zm6) w pz  zGY) (WL.pu rfl (WL.y4R (dd:=13) rfl rfl rfl (z8 Tryz.call104 (.r5 rfl rfl rfl rfl rfl)) (.cons .here .nil) (cc hz (.cons .here .nil) fun w pz ho=>y6U (Z:=_) (zdr:=zbf) (zds:=zbg) (zj6:=zfD) (zqB:=zm8) (z49:=z3J) (zj4:=0) (zj5:=((z3J.length : Nat) : Int)) (zfB:=zm6) (zdq:=zfC) (r:=zm7) w pz zGW zGX zGZ ho) ?_)))))))
 rintro  zyr
 refine WL.repin (i:=0) rfl (u:=(.slice zbf zm7.length zbg)) (y5W zyr.symm) (WL.nil ?_)
 obtain rfl:=Option.some.inj h
 refine WX.y4Q Tryz.results64 .nil (fun w hw=>?_)
 exact ⟨y7f,(zyr.trans rfl),hw.sub (.cons .here .nil)⟩
end Go.Proofs.YtcahmabkeaijdaaGreat
