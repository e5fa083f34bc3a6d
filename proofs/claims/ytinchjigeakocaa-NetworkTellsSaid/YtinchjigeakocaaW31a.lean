/- A part of this claim's proof: models of functions, walks, plain laws. No conditions. -/
import Derived.Test.YtinchjigeakocaaZSortF
import Derived.Test.YtinchjigeakocaaZUnroll
import Derived.Test.YtinchjigeakocaaZEnt
import Derived.Test.YtinchjigeakocaaProg
namespace Go.Proofs.Ytinchjigeakocaa
open Go Go.RowKit Sep
set_option linter.all false
set_option maxRecDepth 30000
set_option maxHeartbeats 4000000
structure Sapi_Port where
 fName : ByteArray
 fKind : Int
 fOut : Bool
 fSize : Int
 fDepth : Int
 fRefresh : Int
 deriving Inhabited,DecidableEq
structure Sapi_Ins where
 fOp : Int
 fA : Int
 fB : Int
 fC : Int
 deriving Inhabited,DecidableEq
structure Sapi_Proc where
 fName : ByteArray
 fPrio : Int
 fPeriod : Int
 fLimit : Int
 fCode : List Sapi_Ins
 deriving Inhabited,DecidableEq
structure Sapi_Part where
 fName : ByteArray
 fPeriod : Int
 fLength : Int
 fMem : Int
 fSemas : List Int
 fEvents : Int
 fBoards : Int
 fBufs : List Int
 fPorts : List Sapi_Port
 fProcs : List Sapi_Proc
 deriving Inhabited,DecidableEq
structure Sapi_Module where
 fName : ByteArray
 fMem : Int
 fFrame : Int
 fParts : List Sapi_Part
 deriving Inhabited,DecidableEq
structure Sapi_Ref where
 fModule : ByteArray
 fPart : ByteArray
 fPort : ByteArray
 deriving Inhabited,DecidableEq
structure Sapi_Channel where
 fFrom : Sapi_Ref
 fTo : List Sapi_Ref
 deriving Inhabited,DecidableEq
structure Sapi_Switch where
 fName : ByteArray
 fNet : Int
 fDelay : Int
 fStore : Int
 deriving Inhabited,DecidableEq
structure Sapi_Link where
 fA : ByteArray
 fB : ByteArray
 fNet : Int
 fSlow : Int
 deriving Inhabited,DecidableEq
structure Sapi_VL where
 fName : ByteArray
 fFrom : Sapi_Ref
 fBag : Int
 fMax : Int
 fTo : List Sapi_Ref
 deriving Inhabited,DecidableEq
structure Sapi_Health where
 fModule : ByteArray
 fPart : ByteArray
 fFault : Int
 fLevel : Int
 fDo : Int
 deriving Inhabited,DecidableEq
structure Sapi_Report where
 fUnit : ByteArray
 fCode : Int
 deriving Inhabited,DecidableEq
structure Sapi_Cause where
 fUnit : ByteArray
 fNeeds : List Sapi_Report
 fUnless : List ByteArray
 deriving Inhabited,DecidableEq
structure Sapi_Version where
 fA : ByteArray
 fVA : Int
 fB : ByteArray
 fVB : Int
 deriving Inhabited,DecidableEq
structure Sapi_Config where
 fModules : List Sapi_Module
 fChannels : List Sapi_Channel
 fSwitches : List Sapi_Switch
 fLinks : List Sapi_Link
 fVLs : List Sapi_VL
 fHealth : List Sapi_Health
 fCauses : List Sapi_Cause
 fVersions : List Sapi_Version
 deriving Inhabited,DecidableEq
def e3 (x : Int) : List Value:=[(.int .i64 x)]
theorem y7L : ∀ x,∀ u ∈ e3 x,u.oneCell' = true:=fun _=>ocB rfl
def e191 (x : Sapi_Port) : List Value:=[(.string x.fName),(.int .u8 x.fKind),(.bool x.fOut),(.int .i64 x.fSize),(.int .i64 x.fDepth),(.int .i64 x.fRefresh)]
def e196 (x : Sapi_Ins) : List Value:=[(.int .u8 x.fOp),(.int .i64 x.fA),(.int .i64 x.fB),(.int .i64 x.fC)]
def p194 (Z : Zp) (r : List Value) (x : Sapi_Proc) : Prop:=∃ (ao0 : Option Addr) (cap0 : Nat),r = [(.string x.fName),(.int .i64 x.fPrio),(.int .i64 x.fPeriod),(.int .i64 x.fLimit),(.slice ao0 x.fCode.length cap0)] ∧ ZS Z 4 (fun r x=>r = e196 x) ao0 cap0 x.fCode
theorem y9d {Z Z' : Zp} (k : Zle Z Z') {r : List Value} {x : Sapi_Proc} (h : p194 Z r x) : p194 Z' r x:=by
 obtain ⟨ao0,cap0,hr,h0⟩:=h
 exact ⟨ao0,cap0,hr,h0.mono k⟩
def p186 (Z : Zp) (r : List Value) (x : Sapi_Part) : Prop:=∃ (ao0 : Option Addr) (cap0 : Nat) (ao1 : Option Addr) (cap1 : Nat) (ao2 : Option Addr) (cap2 : Nat) (ao3 : Option Addr) (cap3 : Nat),r = [(.string x.fName),(.int .i64 x.fPeriod),(.int .i64 x.fLength),(.int .i64 x.fMem),(.slice ao0 x.fSemas.length cap0),(.int .i64 x.fEvents),(.int .i64 x.fBoards),(.slice ao1 x.fBufs.length cap1),(.slice ao2 x.fPorts.length cap2),(.slice ao3 x.fProcs.length cap3)] ∧ ZS Z 1 (fun r x=>r = e3 x) ao0 cap0 x.fSemas ∧ ZS Z 1 (fun r x=>r = e3 x) ao1 cap1 x.fBufs ∧ ZS Z 6 (fun r x=>r = e191 x) ao2 cap2 x.fPorts ∧ ZS Z 5 (p194 Z) ao3 cap3 x.fProcs
theorem y9e {Z Z' : Zp} (k : Zle Z Z') {r : List Value} {x : Sapi_Part} (h : p186 Z r x) : p186 Z' r x:=by
 obtain ⟨ao0,cap0,ao1,cap1,ao2,cap2,ao3,cap3,hr,h0,h1,h2,h3⟩:=h
 exact ⟨ao0,cap0,ao1,cap1,ao2,cap2,ao3,cap3,hr,h0.mono k,h1.mono k,h2.mono k,(h3.mono k).weak (fun _ _ h=>y9d k h)⟩
def y2i (Z : Zp) (r : List Value) (x : Sapi_Module) : Prop:=∃ (ao0 : Option Addr) (cap0 : Nat),r = [(.string x.fName),(.int .i64 x.fMem),(.int .i64 x.fFrame),(.slice ao0 x.fParts.length cap0)] ∧ ZS Z 10 (p186 Z) ao0 cap0 x.fParts
theorem y1u {Z Z' : Zp} (k : Zle Z Z') {r : List Value} {x : Sapi_Module} (h : y2i Z r x) : y2i Z' r x:=by
 obtain ⟨ao0,cap0,hr,h0⟩:=h
 exact ⟨ao0,cap0,hr,(h0.mono k).weak (fun _ _ h=>y9e k h)⟩
def e106 (x : Sapi_Ref) : List Value:=[(.string x.fModule),(.string x.fPart),(.string x.fPort)]
def y2R (Z : Zp) (r : List Value) (x : Sapi_Channel) : Prop:=∃ (ao0 : Option Addr) (cap0 : Nat),r = [(.string x.fFrom.fModule),(.string x.fFrom.fPart),(.string x.fFrom.fPort),(.slice ao0 x.fTo.length cap0)] ∧ ZS Z 3 (fun r x=>r = e106 x) ao0 cap0 x.fTo
theorem y1A {Z Z' : Zp} (k : Zle Z Z') {r : List Value} {x : Sapi_Channel} (h : y2R Z r x) : y2R Z' r x:=by
 obtain ⟨ao0,cap0,hr,h0⟩:=h
 exact ⟨ao0,cap0,hr,h0.mono k⟩
def e64 (x : Sapi_Switch) : List Value:=[(.string x.fName),(.int .i64 x.fNet),(.int .i64 x.fDelay),(.int .i64 x.fStore)]
def e62 (x : Sapi_Link) : List Value:=[(.string x.fA),(.string x.fB),(.int .i64 x.fNet),(.int .i64 x.fSlow)]
def y2A (Z : Zp) (r : List Value) (x : Sapi_VL) : Prop:=∃ (ao0 : Option Addr) (cap0 : Nat),r = [(.string x.fName),(.string x.fFrom.fModule),(.string x.fFrom.fPart),(.string x.fFrom.fPort),(.int .i64 x.fBag),(.int .i64 x.fMax),(.slice ao0 x.fTo.length cap0)] ∧ ZS Z 3 (fun r x=>r = e106 x) ao0 cap0 x.fTo
theorem y1v {Z Z' : Zp} (k : Zle Z Z') {r : List Value} {x : Sapi_VL} (h : y2A Z r x) : y2A Z' r x:=by
 obtain ⟨ao0,cap0,hr,h0⟩:=h
 exact ⟨ao0,cap0,hr,h0.mono k⟩
def y2T (x : Sapi_Health) : List Value:=[(.string x.fModule),(.string x.fPart),(.int .u8 x.fFault),(.int .u8 x.fLevel),(.int .u8 x.fDo)]
def e189 (x : Sapi_Report) : List Value:=[(.string x.fUnit),(.int .i64 x.fCode)]
def e9 (x : ByteArray) : List Value:=[(.string x)]
def y2S (Z : Zp) (r : List Value) (x : Sapi_Cause) : Prop:=∃ (ao0 : Option Addr) (cap0 : Nat) (ao1 : Option Addr) (cap1 : Nat),r = [(.string x.fUnit),(.slice ao0 x.fNeeds.length cap0),(.slice ao1 x.fUnless.length cap1)] ∧ ZS Z 2 (fun r x=>r = e189 x) ao0 cap0 x.fNeeds ∧ ZS Z 1 (fun r x=>r = e9 x) ao1 cap1 x.fUnless
theorem y1B {Z Z' : Zp} (k : Zle Z Z') {r : List Value} {x : Sapi_Cause} (h : y2S Z r x) : y2S Z' r x:=by
 obtain ⟨ao0,cap0,ao1,cap1,hr,h0,h1⟩:=h
 exact ⟨ao0,cap0,ao1,cap1,hr,h0.mono k,h1.mono k⟩
def y2U (x : Sapi_Version) : List Value:=[(.string x.fA),(.int .i64 x.fVA),(.string x.fB),(.int .i64 x.fVB)]
structure Sapi_Hop where
 fNode : Int
 fNext : Int
 fLink : Int
 deriving Inhabited,DecidableEq
def e59 (x : Sapi_Hop) : List Value:=[(.int .i64 x.fNode),(.int .i64 x.fNext),(.int .i64 x.fLink)]
def p55 (Z : Zp) (r : List Value) (x : List Sapi_Hop) : Prop:=∃ (ao0 : Option Addr) (cap0 : Nat),r = [(.slice ao0 x.length cap0)] ∧ ZS Z 3 (fun r x=>r = e59 x) ao0 cap0 x
theorem y2G {Z Z' : Zp} (k : Zle Z Z') {r : List Value} {x : List Sapi_Hop} (h : p55 Z r x) : p55 Z' r x:=by
 obtain ⟨ao0,cap0,hr,h0⟩:=h
 exact ⟨ao0,cap0,hr,h0.mono k⟩
structure zSt where
 fTime : Int
 fVL : Int
 fSize : Int
 deriving Inhabited,DecidableEq
def e53 (x : zSt) : List Value:=[(.int .i64 x.fTime),(.int .i64 x.fVL),(.int .i64 x.fSize)]
structure S7 where
 fX : Int
 fY : Int
 fSigned : Bool
 fCode : Int
 deriving Inhabited,DecidableEq
structure S13 where
 fMsg : ByteArray
 fAddr : Int
 deriving Inhabited,DecidableEq
structure Snetwork_exit where
 fNode : Int
 fLink : Int
 deriving Inhabited,DecidableEq
def y26 (x : Snetwork_exit) : List Value:=[(.int .i64 x.fNode),(.int .i64 x.fLink)]
structure Sport_numbers where
 fSlow : Int
 fDelay : Int
 fStore : Int
 deriving Inhabited,DecidableEq
structure Sport_frame where
 fSize : Int
 fFin : Int
 deriving Inhabited,DecidableEq
structure Sport_Port where
 fNumbers : Sport_numbers
 fNow : Int
 fLast : Int
 fFrames : List Sport_frame
 deriving Inhabited,DecidableEq
def y2d (x : Sport_frame) : List Value:=[(.int .i64 x.fSize),(.int .i64 x.fFin)]
theorem yak : ∀ x,∀ u ∈ y2d x,u.oneCell' = true:=fun _=>ocB rfl
def z1v (g : Nat × (Option Addr × Nat)) (x : Sport_Port) : List Asrt:=[stb g.1 143 [(.int .i64 x.fNumbers.fSlow),(.int .i64 x.fNumbers.fDelay),(.int .i64 x.fNumbers.fStore),(.int .i64 x.fNow),(.int .i64 x.fLast),(.slice g.2.1 x.fFrames.length g.2.2)],row (.slice g.2.1 x.fFrames.length g.2.2) 146 2 (x.fFrames.flatMap y2d)]
structure Snetwork_event where
 fTime : Int
 fIn_ : Int
 fVl : Int
 fSent : Int
 fHop : Sapi_Hop
 deriving Inhabited,DecidableEq
def yF (x : Snetwork_event) : List Value:=[(.int .i64 x.fTime),(.int .i64 x.fIn_),(.int .i64 x.fVl),(.int .i64 x.fSent),(.int .i64 x.fHop.fNode),(.int .i64 x.fHop.fNext),(.int .i64 x.fHop.fLink)]
theorem e113_oc : ∀ x,∀ u ∈ yF x,u.oneCell' = true:=fun _=>ocB rfl
structure Sapi_Come where
 fSent : Int
 fNode : Int
 fTime : Int
 deriving Inhabited,DecidableEq
def e50 (x : Sapi_Come) : List Value:=[(.int .i64 x.fSent),(.int .i64 x.fNode),(.int .i64 x.fTime)]
theorem y6y : ∀ x,∀ u ∈ e50 x,u.oneCell' = true:=fun _=>ocB rfl
structure S51 where
 a0 : Int
 a1 : Int
 deriving Inhabited,DecidableEq
structure S67 where
 fAll : List Sapi_Come
 fOwn : List Sapi_Come
 deriving Inhabited,DecidableEq
structure S90 where
 fSlow : Int
 fDelay : Int
 fStore : Int
 fNow : Int
 fAt : List Int
 fSize : List Int
 fEnd : List Int
 deriving Inhabited,DecidableEq
structure S92 where
 fNode : Int
 fLink : Int
 fPort : S90
 deriving Inhabited,DecidableEq
def e89 (x : Snetwork_event) : List Value:=[(.int .i64 x.fTime),(.int .i64 x.fIn_),(.int .i64 x.fVl),(.int .i64 x.fSent),(.int .i64 x.fHop.fNode),(.int .i64 x.fHop.fNext),(.int .i64 x.fHop.fLink)]
theorem y7C : ∀ x,∀ u ∈ e89 x,u.oneCell' = true:=fun _=>ocB rfl
def p93 (Z : Zp) (r : List Value) (x : S92) : Prop:=∃ (ao0 : Option Addr) (cap0 : Nat) (ao1 : Option Addr) (cap1 : Nat) (ao2 : Option Addr) (cap2 : Nat),r = [(.int .i64 x.fNode),(.int .i64 x.fLink),(.int .i64 x.fPort.fSlow),(.int .i64 x.fPort.fDelay),(.int .i64 x.fPort.fStore),(.int .i64 x.fPort.fNow),(.slice ao0 x.fPort.fAt.length cap0),(.slice ao1 x.fPort.fSize.length cap1),(.slice ao2 x.fPort.fEnd.length cap2)] ∧ ZS Z 1 (fun r x=>r = e3 x) ao0 cap0 x.fPort.fAt ∧ ZS Z 1 (fun r x=>r = e3 x) ao1 cap1 x.fPort.fSize ∧ ZS Z 1 (fun r x=>r = e3 x) ao2 cap2 x.fPort.fEnd
theorem y5p {Z Z' : Zp} (k : Zle Z Z') {r : List Value} {x : S92} (h : p93 Z r x) : p93 Z' r x:=by
 obtain ⟨ao0,cap0,ao1,cap1,ao2,cap2,hr,h0,h1,h2⟩:=h
 exact ⟨ao0,cap0,ao1,cap1,ao2,cap2,hr,h0.mono k,h1.mono k,h2.mono k⟩
theorem y1f : y52 Try.prog 31 8:=y48 (i:=Try.t31) Try.underlying31 rfl rfl
theorem y1Y : yt Try.prog 31 0 0:=yq (i:=Try.t22) Try.underlying31 rfl rfl (by decide) rfl
theorem y1Z : y4I Try.prog 22:=y3g Try.underlying22 rfl
theorem y3y : yt Try.prog 31 2 2:=yq (i:=Try.t24) Try.underlying31 rfl rfl (by decide) rfl
theorem y3z : y4I Try.prog 24:=y3g Try.underlying24 rfl
theorem y49 : yt Try.prog 31 3 3:=yq (i:=Try.t25) Try.underlying31 rfl rfl (by decide) rfl
theorem y4a : y4I Try.prog 25:=y3g Try.underlying25 rfl
theorem y6z : yt Try.prog 31 4 4:=yq (i:=Try.t26) Try.underlying31 rfl rfl (by decide) rfl
theorem y6A : y4I Try.prog 26:=y3g Try.underlying26 rfl
theorem y5f : elT Try.prog 32 55 1 24:=⟨Try.underlying32,⟨Try.t55,_,rfl,rfl,rfl,rfl,rfl⟩,by decide⟩
theorem y53 : y4I Try.prog 55:=y3g Try.underlying55 rfl
theorem yd : y4I Try.prog 3:=y3g Try.underlying3 rfl
theorem y2p : elT Try.prog 55 59 3 24:=⟨Try.underlying55,⟨Try.t59,_,rfl,rfl,rfl,rfl,rfl⟩,by decide⟩
theorem y6B : y52 Try.prog 59 3:=y48 (i:=Try.t59) Try.underlying59 rfl rfl
theorem y9I : y3P Try.prog 59 (.agg #[(.int .i64 0),(.int .i64 0),(.int .i64 0)]):=y3l (i:=Try.t59) rfl rfl
theorem yal : y45 Try.prog 59 3:=y2L (i:=Try.t59) rfl
theorem y1E : yt Try.prog 59 0 0:=yq (i:=Try.t3) Try.underlying59 rfl rfl (by decide) rfl
theorem y7M : y3P Try.prog 3 (.int .i64 0):=y3l (i:=Try.t3) rfl rfl
theorem y6C : KeyT Try.prog 3 (Value.int .i64):=keyT_int Try.underlying3
theorem y3h : yt Try.prog 59 1 1:=yq (i:=Try.t3) Try.underlying59 rfl rfl (by decide) rfl
theorem y4W : yt Try.prog 59 2 2:=yq (i:=Try.t3) Try.underlying59 rfl rfl (by decide) rfl
theorem y5g : elT Try.prog 25 62 4 48:=⟨Try.underlying25,⟨Try.t62,_,rfl,rfl,rfl,rfl,rfl⟩,by decide⟩
theorem aggT_62 : y52 Try.prog 62 4:=y48 (i:=Try.t62) Try.underlying62 rfl rfl
theorem zeroT_62 : y3P Try.prog 62 (.agg #[(.string ⟨#[]⟩),(.string ⟨#[]⟩),(.int .i64 0),(.int .i64 0)]):=y3l (i:=Try.t62) rfl rfl
theorem sizT_62 : y45 Try.prog 62 4:=y2L (i:=Try.t62) rfl
theorem yam : yt Try.prog 62 0 0:=yq (i:=Try.t9) Try.underlying62 rfl rfl (by decide) rfl
theorem y5C : y4I Try.prog 9:=y3g Try.underlying9 rfl
theorem y9J : elT Try.prog 22 104 4 56:=⟨Try.underlying22,⟨Try.t104,_,rfl,rfl,rfl,rfl,rfl⟩,by decide⟩
theorem y9K : yt Try.prog 104 0 0:=yq (i:=Try.t9) Try.underlying104 rfl rfl (by decide) rfl
theorem y5h : elT Try.prog 24 64 4 40:=⟨Try.underlying24,⟨Try.t64,_,rfl,rfl,rfl,rfl,rfl⟩,by decide⟩
theorem yan : yt Try.prog 64 0 0:=yq (i:=Try.t9) Try.underlying64 rfl rfl (by decide) rfl
theorem yao : yt Try.prog 62 1 1:=yq (i:=Try.t9) Try.underlying62 rfl rfl (by decide) rfl
theorem yap : yt Try.prog 62 2 2:=yq (i:=Try.t3) Try.underlying62 rfl rfl (by decide) rfl
theorem y5K : yt Try.prog 62 3 3:=yq (i:=Try.t3) Try.underlying62 rfl rfl (by decide) rfl
theorem yaq : y52 Try.prog 64 4:=y48 (i:=Try.t64) Try.underlying64 rfl rfl
theorem y9L : y3P Try.prog 64 (.agg #[(.string ⟨#[]⟩),(.int .i64 0),(.int .i64 0),(.int .i64 0)]):=y3l (i:=Try.t64) rfl rfl
theorem yar : y45 Try.prog 64 4:=y2L (i:=Try.t64) rfl
theorem yas : yt Try.prog 64 1 1:=yq (i:=Try.t3) Try.underlying64 rfl rfl (by decide) rfl
theorem y5L : yt Try.prog 64 2 2:=yq (i:=Try.t3) Try.underlying64 rfl rfl (by decide) rfl
theorem y5M : yt Try.prog 64 3 3:=yq (i:=Try.t3) Try.underlying64 rfl rfl (by decide) rfl
theorem y2M : elT Try.prog 33 53 3 24:=⟨Try.underlying33,⟨Try.t53,_,rfl,rfl,rfl,rfl,rfl⟩,by decide⟩
theorem yat : y52 Try.prog 53 3:=y48 (i:=Try.t53) Try.underlying53 rfl rfl
theorem y9M : y3P Try.prog 53 (.agg #[(.int .i64 0),(.int .i64 0),(.int .i64 0)]):=y3l (i:=Try.t53) rfl rfl
theorem yau : y45 Try.prog 53 3:=y2L (i:=Try.t53) rfl
theorem y4F : yt Try.prog 53 0 0:=yq (i:=Try.t3) Try.underlying53 rfl rfl (by decide) rfl
theorem y4G : yt Try.prog 53 1 1:=yq (i:=Try.t3) Try.underlying53 rfl rfl (by decide) rfl
theorem y5N : yt Try.prog 53 2 2:=yq (i:=Try.t3) Try.underlying53 rfl rfl (by decide) rfl
theorem y2q : elT Try.prog 56 3 1 8:=⟨Try.underlying56,⟨Try.t3,_,rfl,rfl,rfl,rfl,rfl⟩,by decide⟩
theorem y87 : y3P Try.prog 31 (.agg #[(.slice none 0 0),(.slice none 0 0),(.slice none 0 0),(.slice none 0 0),(.slice none 0 0),(.slice none 0 0),(.slice none 0 0),(.slice none 0 0)]):=y3l (i:=Try.t31) rfl rfl
theorem elT_26 : elT Try.prog 26 109 7 104:=⟨Try.underlying26,⟨Try.t109,_,rfl,rfl,rfl,rfl,rfl⟩,by decide⟩
theorem y8M : y45 Try.prog 31 8:=y2L (i:=Try.t31) rfl
theorem yav : yt Try.prog 81 2 9:=yq (i:=Try.t33) Try.underlying81 rfl rfl (by decide) rfl
theorem yaw : y4I Try.prog 33:=y3g Try.underlying33 rfl
theorem fo_81_1 : yt Try.prog 81 1 8:=yq (i:=Try.t32) Try.underlying81 rfl rfl (by decide) rfl
theorem oneT_32 : y4I Try.prog 32:=y3g Try.underlying32 rfl
theorem y8N : yt Try.prog 81 4 11:=yq (i:=Try.t79) Try.underlying81 rfl rfl (by decide) rfl
theorem y9N (p : Option Addr) : ∀ w,(method (Try.prog.types.size + Made.depth) 111 (.pointer p) "Push").run Try.prog w = .ok (92,.pointer p) w:=fun _=>by kernel_rfl
theorem y5O : y4I Try.prog 79:=y3g Try.underlying79 rfl
theorem y4Z : elT Try.prog 79 113 7 56:=⟨Try.underlying79,⟨Try.t113,_,rfl,rfl,rfl,rfl,rfl⟩,by decide⟩
theorem yax : y45 Try.prog 79 1:=y2L (i:=Try.t79) rfl
theorem y7Y {A : Addr} {v : Value} : ∀ w : World,w.cell? A = some v → (method (Try.prog.types.size + Made.depth) 111 (.pointer (some A)) "Len").run Try.prog w = .ok (86,v) w:=fun w h=>y74 (i:=Try.t111) rfl rfl rfl rfl Try.underlying111 y5O h
theorem y60 {A : Addr} {v : Value} : ∀ w : World,w.cell? A = some v → (method (Try.prog.types.size + Made.depth) 111 (.pointer (some A)) "Less").run Try.prog w = .ok (87,v) w:=fun w h=>y74 (i:=Try.t111) rfl rfl rfl rfl Try.underlying111 y5O h
theorem zcH : y52 Try.prog 113 7:=y48 (i:=Try.t113) Try.underlying113 rfl rfl
theorem y75 : yt Try.prog 113 0 0:=yq (i:=Try.t3) Try.underlying113 rfl rfl (by decide) rfl
theorem y9O : yt Try.prog 113 1 1:=yq (i:=Try.t3) Try.underlying113 rfl rfl (by decide) rfl
theorem y9P : yt Try.prog 113 2 2:=yq (i:=Try.t3) Try.underlying113 rfl rfl (by decide) rfl
theorem y5q : yt Try.prog 113 3 3:=yq (i:=Try.t3) Try.underlying113 rfl rfl (by decide) rfl
theorem y61 {A : Addr} {v : Value} : ∀ w : World,w.cell? A = some v → (method (Try.prog.types.size + Made.depth) 111 (.pointer (some A)) "Swap").run Try.prog w = .ok (88,v) w:=fun w h=>y74 (i:=Try.t111) rfl rfl rfl rfl Try.underlying111 y5O h
theorem zjg : y45 Try.prog 113 7:=y2L (i:=Try.t113) rfl
theorem ya9 (p : Option Addr) : ∀ w,(method (Try.prog.types.size + Made.depth) 111 (.pointer p) "Pop").run Try.prog w = .ok (91,.pointer p) w:=fun _=>by kernel_rfl
theorem zqC : y3P Try.prog 113 (.agg #[(.int .i64 0),(.int .i64 0),(.int .i64 0),(.int .i64 0),(.int .i64 0),(.int .i64 0),(.int .i64 0)]):=y3l (i:=Try.t113) rfl rfl
theorem y5r : yt Try.prog 113 4 4:=yq (i:=Try.t59) Try.underlying113 rfl rfl (by decide) rfl
theorem zwk : y3P Try.prog 136 (.agg #[(.int .i64 0),(.int .i64 0)]):=y3l (i:=Try.t136) rfl rfl
theorem zwl : y45 Try.prog 136 2:=y2L (i:=Try.t136) rfl
theorem y8O : yt Try.prog 81 3 10:=yq (i:=Try.t77) Try.underlying81 rfl rfl (by decide) rfl
theorem y8P : y4I Try.prog 77:=y3g Try.underlying77 rfl
theorem zlx : y52 Try.prog 136 2:=y48 (i:=Try.t136) Try.underlying136 rfl rfl
theorem zqD : y3P Try.prog 116 (.pointer none):=y3l (i:=Try.t116) rfl rfl
theorem zwm : EqT Try.prog 136 y26:=⟨fun u v w=>by
 have i136_10000:=fun (w : World) (a b : Array Value)=>run_equalIn_agg (P:=Try.prog) w 9999 136 a b (by simp [Program.fieldsOf,Try.underlying136]) (by kernel_rfl)
 have i3_9999:=fun (w : World) (a b : Int)=>run_equalIn_int (P:=Try.prog) w 9998 3 .i64 .i64 a b Try.underlying3
 rw [i136_10000]
 simp [Program.fieldsOf,Op.eqFields,part,y26,i136_10000,Try.underlying136,i3_9999]
 rcases u with ⟨u1,u2⟩
 rcases v with ⟨v1,v2⟩
 by_cases h1 : u1 = v1 <;> by_cases h2 : u2 = v2 <;> simp [h1,h2],by kernel_rfl⟩
theorem zly : KeyT Try.prog 136 (fun x=>Value.agg (y26 x).toArray):=keyT_agg Try.underlying136 (fun _ _=>rfl) (fun b k w=>by
 have c3_9999:=fun (w : World) (a : Int)=>MapKept.run_checkKey (P:=Try.prog) (w:=w) (kt:=3) (k:=.int .i64 a) Try.underlying3 (by simp [MapKept.IsKey]) b 9998
 have ck : ∀ (w : World) (u0 : Int) (u1 : Int),(Instr.checkKey b 10000 136 (.agg #[.int .i64 u0,.int .i64 u1])).run Try.prog w = .ok () w:=fun w u0 u1=>by
  rw [show (10000 : Nat) = 9999 + 1 from rfl,Instr.checkKey]
  simp [run_underlying Try.underlying136,c3_9999,part]
 exact ck w k.fNode k.fLink)
 (fun u v w=>zwm.eq u v w)
 (fun k=>by simp [Instr.sameBits,y26])
theorem y6D : yt Try.prog 81 0 0:=yq (i:=Try.t31) Try.underlying81 rfl rfl (by decide) rfl
theorem y76 : yt Try.prog 143 0 0:=yq (i:=Try.t140) Try.underlying143 rfl rfl (by decide) rfl
theorem y9Q : yt Try.prog 140 0 0:=yq (i:=Try.t3) Try.underlying140 rfl rfl (by decide) rfl
theorem y88 : yt Try.prog 143 1 3:=yq (i:=Try.t3) Try.underlying143 rfl rfl (by decide) rfl
theorem y8t : y45 Try.prog 3 1:=y2L (i:=Try.t3) rfl
theorem y62 : yt Try.prog 143 3 5:=yq (i:=Try.t141) Try.underlying143 rfl rfl (by decide) rfl
theorem zlz : y4I Try.prog 141:=y3g Try.underlying141 rfl
theorem y9R : yt Try.prog 146 1 1:=yq (i:=Try.t3) Try.underlying146 rfl rfl (by decide) rfl
theorem z8C : elT Try.prog 141 146 2 16:=⟨Try.underlying141,⟨Try.t146,_,rfl,rfl,rfl,rfl,rfl⟩,by decide⟩
theorem zcI : y52 Try.prog 146 2:=y48 (i:=Try.t146) Try.underlying146 rfl rfl
theorem zlA : y3P Try.prog 146 (.agg #[(.int .i64 0),(.int .i64 0)]):=y3l (i:=Try.t146) rfl rfl
theorem zlB : y45 Try.prog 146 2:=y2L (i:=Try.t146) rfl
theorem zqE : y45 Try.prog 141 1:=y2L (i:=Try.t141) rfl
theorem fo_146_0 : yt Try.prog 146 0 0:=yq (i:=Try.t3) Try.underlying146 rfl rfl (by decide) rfl
theorem fo_140_2 : yt Try.prog 140 2 2:=yq (i:=Try.t3) Try.underlying140 rfl rfl (by decide) rfl
theorem fo_140_1 : yt Try.prog 140 1 1:=yq (i:=Try.t3) Try.underlying140 rfl rfl (by decide) rfl
theorem y77 : yt Try.prog 143 2 4:=yq (i:=Try.t3) Try.underlying143 rfl rfl (by decide) rfl
theorem y8Q : yt Try.prog 81 6 13:=yq (i:=Try.t36) Try.underlying81 rfl rfl (by decide) rfl
theorem y7N : y4I Try.prog 36:=y3g Try.underlying36 rfl
theorem yV : elT Try.prog 36 50 3 24:=⟨Try.underlying36,⟨Try.t50,_,rfl,rfl,rfl,rfl,rfl⟩,by decide⟩
theorem yay : y45 Try.prog 36 1:=y2L (i:=Try.t36) rfl
theorem y8R : yt Try.prog 81 5 12:=yq (i:=Try.t36) Try.underlying81 rfl rfl (by decide) rfl
theorem y5P : yt Try.prog 50 2 2:=yq (i:=Try.t3) Try.underlying50 rfl rfl (by decide) rfl
theorem y5Q : yt Try.prog 50 0 0:=yq (i:=Try.t3) Try.underlying50 rfl rfl (by decide) rfl
theorem y7O : yt Try.prog 50 1 1:=yq (i:=Try.t3) Try.underlying50 rfl rfl (by decide) rfl
theorem y2n : y52 Try.prog 50 3:=y48 (i:=Try.t50) Try.underlying50 rfl rfl
theorem y54 : y45 Try.prog 50 3:=y2L (i:=Try.t50) rfl
theorem eqT_50 : EqT Try.prog 50 e50:=⟨fun u v w=>by
 have i50_10000:=fun (w : World) (a b : Array Value)=>run_equalIn_agg (P:=Try.prog) w 9999 50 a b (by simp [Program.fieldsOf,Try.underlying50]) (by kernel_rfl)
 have i3_9999:=fun (w : World) (a b : Int)=>run_equalIn_int (P:=Try.prog) w 9998 3 .i64 .i64 a b Try.underlying3
 rw [i50_10000]
 simp [Program.fieldsOf,Op.eqFields,part,e50,i50_10000,Try.underlying50,i3_9999]
 rcases u with ⟨u1,u2,u3⟩
 rcases v with ⟨v1,v2,v3⟩
 by_cases h1 : u1 = v1 <;> by_cases h2 : u2 = v2 <;> by_cases h3 : u3 = v3 <;> simp [h1,h2,h3],by kernel_rfl⟩
theorem y4x : elT Try.prog 84 89 7 56:=⟨Try.underlying84,⟨Try.t89,_,rfl,rfl,rfl,rfl,rfl⟩,by decide⟩
theorem y8S : y52 Try.prog 89 7:=y48 (i:=Try.t89) Try.underlying89 rfl rfl
theorem y5R : yt Try.prog 89 0 0:=yq (i:=Try.t3) Try.underlying89 rfl rfl (by decide) rfl
theorem y7P : yt Try.prog 89 1 1:=yq (i:=Try.t3) Try.underlying89 rfl rfl (by decide) rfl
theorem y7Q : yt Try.prog 89 2 2:=yq (i:=Try.t3) Try.underlying89 rfl rfl (by decide) rfl
theorem y5S : yt Try.prog 89 3 3:=yq (i:=Try.t3) Try.underlying89 rfl rfl (by decide) rfl
theorem zeroT_89 : y3P Try.prog 89 (.agg #[(.int .i64 0),(.int .i64 0),(.int .i64 0),(.int .i64 0),(.int .i64 0),(.int .i64 0),(.int .i64 0)]):=y3l (i:=Try.t89) rfl rfl
theorem sizT_89 : y45 Try.prog 89 7:=y2L (i:=Try.t89) rfl
theorem y3A : yt Try.prog 89 4 4:=yq (i:=Try.t59) Try.underlying89 rfl rfl (by decide) rfl
theorem y63 : y3P Try.prog 91 (.agg #[(.int .i64 0),(.int .i64 0),(.int .i64 0),(.int .i64 0),(.slice none 0 0),(.slice none 0 0),(.slice none 0 0)]):=y3l (i:=Try.t91) rfl rfl
theorem y55 : y45 Try.prog 91 7:=y2L (i:=Try.t91) rfl
theorem y3T : y52 Try.prog 91 7:=y48 (i:=Try.t91) Try.underlying91 rfl rfl
theorem y6E : elT Try.prog 86 93 9 120:=⟨Try.underlying86,⟨Try.t93,_,rfl,rfl,rfl,rfl,rfl⟩,by decide⟩
theorem yaz : yt Try.prog 93 2 2:=yq (i:=Try.t91) Try.underlying93 rfl rfl (by decide) rfl
theorem y7R : yt Try.prog 91 3 3:=yq (i:=Try.t3) Try.underlying91 rfl rfl (by decide) rfl
theorem y7S : yt Try.prog 91 4 4:=yq (i:=Try.t56) Try.underlying91 rfl rfl (by decide) rfl
theorem y3U : y4I Try.prog 56:=y3g Try.underlying56 rfl
theorem y56 : yt Try.prog 91 6 6:=yq (i:=Try.t56) Try.underlying91 rfl rfl (by decide) rfl
theorem y8T : yt Try.prog 91 5 5:=yq (i:=Try.t56) Try.underlying91 rfl rfl (by decide) rfl
theorem fo_91_2 : yt Try.prog 91 2 2:=yq (i:=Try.t3) Try.underlying91 rfl rfl (by decide) rfl
theorem fo_91_1 : yt Try.prog 91 1 1:=yq (i:=Try.t3) Try.underlying91 rfl rfl (by decide) rfl
theorem fo_91_0 : yt Try.prog 91 0 0:=yq (i:=Try.t3) Try.underlying91 rfl rfl (by decide) rfl
theorem y8U : y45 Try.prog 56 1:=y2L (i:=Try.t56) rfl
theorem fo_93_0 : yt Try.prog 93 0 0:=yq (i:=Try.t3) Try.underlying93 rfl rfl (by decide) rfl
theorem fo_93_1 : yt Try.prog 93 1 1:=yq (i:=Try.t3) Try.underlying93 rfl rfl (by decide) rfl
def y34 (z32 : List (List Sapi_Hop)) (z8D : Option Bool) : Nat → Int → Option Bool
 | 0,_=>none
 | zlC + 1,z4k=>if decide (z4k < ((z32.length : Nat) : Int)) then chk ((0 : Int) ≤ z4k ∧ z4k < ((z32.length : Nat) : Int)) (if decide ((((nth z32 z4k).length : Nat) : Int) > 40) then some false else y34 z32 z8D zlC (i64 (z4k + 1))) else z8D
theorem y7n {n : Nat} {z32 : List (List Sapi_Hop)} {z8D : Option Bool} {z4k : Int} {r : Bool} (h : y34 z32 z8D n z4k = some r) : ∃ m,n = m + 1:=by
 cases n with
 | zero=>cases h
 | succ m=>exact ⟨m,rfl⟩
def y50 (c_75 : Sapi_Config) (z32 : List (List Sapi_Hop)) (z5y : List zSt) : Option Bool :=
 if (((((decide (((c_75.fModules.length : Nat) : Int) > 8)) || (decide (((c_75.fSwitches.length : Nat) : Int) > 8))) || (decide (((c_75.fLinks.length : Nat) : Int) > 20))) || (decide (((c_75.fVLs.length : Nat) : Int) > 20))) || (decide (((z32.length : Nat) : Int) > 20))) || ((decide (((z5y.length : Nat) : Int) > 40)) && (decide (((z5y.length : Nat) : Int) ≤ 4000))) then some false else jp0 (some true) fun z8D=>y34 z32 z8D yw 0
set_option maxRecDepth 20000 in
theorem yaa (Z : Zp) (ao_76 : Option Addr) (cap_77 : Nat) (ao_79 : Option Addr) (cap_80 : Nat) (ao_82 : Option Addr) (cap_83 : Nat) (ao_85 : Option Addr) (cap_86 : Nat) (ao_88 : Option Addr) (cap_89 : Nat) (ao_91 : Option Addr) (cap_92 : Nat) (ao_94 : Option Addr) (cap_95 : Nat) (ao_97 : Option Addr) (cap_98 : Nat) (zfQ : Option Addr) (zfR : Nat) (zjh : Option Addr) (zji : Nat) (c_75 : Sapi_Config) (z32 : List (List Sapi_Hop)) (z5y : List zSt) (r : Bool)
  (h : y50 c_75 z32 z5y = some r) (w₀ : World) (hz : PZ [] w₀ Z)
  (hs_78 : ZS Z 4 (y2i Z) ao_76 cap_77 c_75.fModules)
  (hs_81 : ZS Z 4 (y2R Z) ao_79 cap_80 c_75.fChannels)
  (hs_84 : ZS Z 4 (fun r x=>r = e64 x) ao_82 cap_83 c_75.fSwitches)
  (hs_87 : ZS Z 4 (fun r x=>r = e62 x) ao_85 cap_86 c_75.fLinks)
  (hs_90 : ZS Z 7 (y2A Z) ao_88 cap_89 c_75.fVLs)
  (hs_93 : ZS Z 5 (fun r x=>r = y2T x) ao_91 cap_92 c_75.fHealth)
  (hs_96 : ZS Z 3 (y2S Z) ao_94 cap_95 c_75.fCauses)
  (hs_99 : ZS Z 4 (fun r x=>r = y2U x) ao_97 cap_98 c_75.fVersions)
  (zwn : ZS Z 1 (p55 Z) zfQ zfR z32)
  (zHn : ZS Z 3 (fun r x=>r = e53 x) zjh zji z5y) :
  Calls Try.prog 10 #[(.agg #[(.slice ao_76 c_75.fModules.length cap_77),(.slice ao_79 c_75.fChannels.length cap_80),(.slice ao_82 c_75.fSwitches.length cap_83),(.slice ao_85 c_75.fLinks.length cap_86),(.slice ao_88 c_75.fVLs.length cap_89),(.slice ao_91 c_75.fHealth.length cap_92),(.slice ao_94 c_75.fCauses.length cap_95),(.slice ao_97 c_75.fVersions.length cap_98)]),(.slice zfQ z32.length zfR),(.slice zjh z5y.length zji)] w₀ fun e w'=>e = .returned (.bool r) ∧ Hp [] w₀ w' []:=by
 unfold y50 at h
 refine Calls.yp (vs:=[(.agg #[(.slice ao_76 c_75.fModules.length cap_77),(.slice ao_79 c_75.fChannels.length cap_80),(.slice ao_82 c_75.fSwitches.length cap_83),(.slice ao_85 c_75.fLinks.length cap_86),(.slice ao_88 c_75.fVLs.length cap_89),(.slice ao_91 c_75.fHealth.length cap_92),(.slice ao_94 c_75.fCauses.length cap_95),(.slice ao_97 c_75.fVersions.length cap_98)]),(.slice zfQ z32.length zfR),(.slice zjh z5y.length zji)]) (pre:=[]) (env:=[(0,(.agg #[(.slice ao_76 c_75.fModules.length cap_77),(.slice ao_79 c_75.fChannels.length cap_80),(.slice ao_82 c_75.fSwitches.length cap_83),(.slice ao_85 c_75.fLinks.length cap_86),(.slice ao_88 c_75.fVLs.length cap_89),(.slice ao_91 c_75.fHealth.length cap_92),(.slice ao_94 c_75.fCauses.length cap_95),(.slice ao_97 c_75.fVersions.length cap_98)])),(1,(.slice zfQ z32.length zfR)),(2,(.slice zjh z5y.length zji))]) Try.func10 rfl Try.ntmps10 rfl (Hp.nil w₀ _) rfl ?_
 refine WC.b (WC.a ?_)
 refine WL.new (dd:=3) rfl rfl rfl (y1N (cs:=[(.slice ao_76 c_75.fModules.length cap_77),(.slice ao_79 c_75.fChannels.length cap_80),(.slice ao_82 c_75.fSwitches.length cap_83),(.slice ao_85 c_75.fLinks.length cap_86),(.slice ao_88 c_75.fVLs.length cap_89),(.slice ao_91 c_75.fHealth.length cap_92),(.slice ao_94 c_75.fCauses.length cap_95),(.slice ao_97 c_75.fVersions.length cap_98)]) rfl rfl) ?_
 intro zHo _
 refine WL.pu rfl (WL.nil (WX.a (WC.b (WC.b (WC.a ?_)))))
 refine WL.a (d:=9) rfl rfl rfl (ya y1Y rfl rfl) ?_
 refine WL.a (d:=10) rfl rfl rfl (yb y1Z rfl (yc .here rfl)) ?_
 refine WL.a (d:=11) rfl rfl rfl (yz Try.underlying22 rfl) ?_
 refine WL.pu rfl (WL.pu rfl ?_)
 refine WL.seg false 4 13 (B:=(decide (((c_75.fModules.length : Nat) : Int) > 8)) || (decide (((c_75.fSwitches.length : Nat) : Int) > 8))) rfl rfl rfl rfl rfl rfl (fun h=>(y1p h).symm) (fun _ zwo=>?_) ?_
 ·skip
  refine WL.a (d:=14) rfl rfl rfl (ya y3y rfl rfl) ?_
  refine WL.a (d:=15) rfl rfl rfl (yb y3z rfl (yc .here rfl)) ?_
  refine WL.a (d:=16) rfl rfl rfl (yz Try.underlying24 rfl) ?_
  refine WL.pu rfl (WL.pu rfl ?_)
  exact WL.yr (y1q zwo) rfl rfl .all
 refine WL.pu rfl ?_
 refine WL.seg false 4 19 (B:=((decide (((c_75.fModules.length : Nat) : Int) > 8)) || (decide (((c_75.fSwitches.length : Nat) : Int) > 8))) || (decide (((c_75.fLinks.length : Nat) : Int) > 20))) rfl rfl rfl rfl rfl rfl (fun h=>(y1p h).symm) (fun _ zwp=>?_) ?_
 ·skip
  refine WL.a (d:=20) rfl rfl rfl (ya y49 rfl rfl) ?_
  refine WL.a (d:=21) rfl rfl rfl (yb y4a rfl (yc .here rfl)) ?_
  refine WL.a (d:=22) rfl rfl rfl (yz Try.underlying25 rfl) ?_
  refine WL.pu rfl (WL.pu rfl ?_)
  exact WL.yr (y1q zwp) rfl rfl .all
 refine WL.pu rfl ?_
 refine WL.seg false 4 25 (B:=(((decide (((c_75.fModules.length : Nat) : Int) > 8)) || (decide (((c_75.fSwitches.length : Nat) : Int) > 8))) || (decide (((c_75.fLinks.length : Nat) : Int) > 20))) || (decide (((c_75.fVLs.length : Nat) : Int) > 20))) rfl rfl rfl rfl rfl rfl (fun h=>(y1p h).symm) (fun _ zwq=>?_) ?_
 ·skip
  refine WL.a (d:=26) rfl rfl rfl (ya y6z rfl rfl) ?_
  refine WL.a (d:=27) rfl rfl rfl (yb y6A rfl (yc .here rfl)) ?_
  refine WL.a (d:=28) rfl rfl rfl (yz Try.underlying26 rfl) ?_
  refine WL.pu rfl (WL.pu rfl ?_)
  exact WL.yr (y1q zwq) rfl rfl .all
 refine WL.pu rfl ?_
 refine WL.seg false 3 31 (B:=((((decide (((c_75.fModules.length : Nat) : Int) > 8)) || (decide (((c_75.fSwitches.length : Nat) : Int) > 8))) || (decide (((c_75.fLinks.length : Nat) : Int) > 20))) || (decide (((c_75.fVLs.length : Nat) : Int) > 20))) || (decide (((z32.length : Nat) : Int) > 20))) rfl rfl rfl rfl rfl rfl (fun h=>(y1p h).symm) (fun _ zwr=>?_) ?_
 ·skip
  refine WL.pu rfl ?_
  refine WL.a (d:=33) rfl rfl rfl (yz Try.underlying32 rfl) ?_
  refine WL.pu rfl (WL.pu rfl ?_)
  exact WL.yr (y1q zwr) rfl rfl .all
 refine WL.pu rfl ?_
 refine WL.seg false 8 36 (B:=(((((decide (((c_75.fModules.length : Nat) : Int) > 8)) || (decide (((c_75.fSwitches.length : Nat) : Int) > 8))) || (decide (((c_75.fLinks.length : Nat) : Int) > 20))) || (decide (((c_75.fVLs.length : Nat) : Int) > 20))) || (decide (((z32.length : Nat) : Int) > 20))) || ((decide (((z5y.length : Nat) : Int) > 40)) && (decide (((z5y.length : Nat) : Int) ≤ 4000)))) rfl rfl rfl rfl rfl rfl (fun h=>(y1p h).symm) (fun _ zws=>?_) ?_
 ·skip
  refine WL.pu rfl ?_
  refine WL.a (d:=38) rfl rfl rfl (yz Try.underlying33 rfl) ?_
  refine WL.pu rfl (WL.pu rfl ?_)
  refine WL.seg true 3 40 (B:=(decide (((z5y.length : Nat) : Int) > 40)) && (decide (((z5y.length : Nat) : Int) ≤ 4000))) rfl rfl rfl rfl rfl rfl (fun h=>(y1G h).symm) (fun _ zwt=>?_) ?_
  ·skip
   refine WL.pu rfl ?_
   refine WL.a (d:=42) rfl rfl rfl (yz Try.underlying33 rfl) ?_
   refine WL.pu rfl (WL.pu rfl ?_)
   exact WL.yr (y1H zwt) rfl rfl .all
  refine WL.pu rfl ?_
  exact WL.yr (y1q zws) rfl rfl .all
 refine WL.nil (WX.a ?_)
 refine WC.cond rfl (fun zlD=>?_) (fun zlD=>?_)
 ·replace h:=ym h zlD
  refine WC.b (WC.a (WL.pu rfl (WL.nil (WX.a (WC.ret (WX.yj ?_))))))
  obtain rfl:=Option.some.inj h
  refine WX.yi Try.results10 (.tmp rfl .nil) (fun w hw=>?_)
  exact ⟨yM rfl,hw.sub .nil⟩
 ·replace h:=yn h zlD
  refine WC.skip (WX.a ?_)
  obtain ⟨z8D,zwu,h⟩:=y2r h
  refine WC.y24 ((z8D = some r)) ([]) ([]) ?_ ?_
  ·skip
   refine WC.b (WC.a (WL.pu rfl ?_))
   refine WL.a (d:=47) rfl rfl rfl (yz Try.underlying32 rfl) ?_
   refine WL.pu rfl (WL.nil (WX.a (WC.block ?_)))
   refine WC.y33 (fun (zcJ : Nat) (z4k : Int)=>(y34 z32 z8D zcJ z4k = some r)) (fun (zcJ : Nat) (z4k : Int)=>[(46,(.slice zfQ z32.length zfR)),(47,(.int .i64 ((z32.length : Nat) : Int))),(48,(.int .i64 z4k))]) (fun (zcJ : Nat) (z4k : Int)=>[]) (fun (zcJ : Nat) (z4k : Int)=>zcJ) ⟨yw,0⟩ h (.cons rfl (.cons rfl (.cons rfl .nil))) .nil ?_
   rintro zcJ z4k h
   obtain ⟨zlC,rfl⟩:=y7n h
   rw [y34] at h
   refine WC.b (WC.a (WL.pu rfl (WL.nil (WX.a (WC.b ?_)))))
   refine WC.cond rfl (fun zlE=>?_) (fun zlE=>?_)
   ·replace h:=ym h zlE
    refine WC.skip (WX.a (WC.b (WC.block (WC.b ?_))))
    obtain ⟨zwv,h⟩:=ye h
    refine WC.a ?_
    refine WL.znth (dd:=50) rfl rfl (Z:=Z) (Pr:=(p55 Z)) y5f rfl rfl zwn zwv ?_
    rintro zHp zHq zww zHr ⟨zHs,zHt,rfl,zHu⟩
    refine WL.a (d:=51) rfl rfl rfl (yb y53 rfl (y4R hz.pv zww rfl)) ?_
    refine WL.pu rfl (WL.nil (WX.a (WC.b (WC.a (WL.pu rfl ?_)))))
    refine WL.a (d:=53) rfl rfl rfl (yz Try.underlying55 rfl) ?_
    refine WL.pu rfl (WL.nil (WX.a ?_))
    refine WC.cond rfl (fun zlF=>?_) (fun zlF=>?_)
    ·replace h:=ym h zlF
     refine WC.b (WC.a (WL.pu rfl (WL.nil (WX.a (WC.ret (WX.yH (WX.yj (WX.yj (WX.yH (WX.yj ?_))))))))))
     obtain rfl:=Option.some.inj h
     refine WX.yi Try.results10 (.tmp rfl .nil) (fun w hw=>?_)
     exact ⟨yM rfl,hw.sub .nil⟩
    ·replace h:=yn h zlF
     refine WC.skip (WX.yk (WX.a (WC.a (WL.pu rfl (WL.pu rfl (WL.nil ?_))))))
     exact WX.round (G:=Nat × Int) ⟨zlC,(i64 (z4k + 1))⟩ h (Nat.lt_succ_self _) (.cons rfl (.cons rfl (.cons rfl .nil))) .nil
   ·replace h:=yn h zlE
    refine WC.exit (WX.yg (WX.yg (WX.yv ?_)))
    exact WX.mid (G:=Unit) () h .nil .nil
  ·rintro  h
   replace h:=zwu.symm.trans h
   refine WC.b (WC.a (WL.pu rfl (WL.nil (WX.a (WC.ret ?_)))))
   obtain rfl:=Option.some.inj h
   refine WX.yi Try.results10 (.tmp rfl .nil) (fun w hw=>?_)
   exact ⟨yM rfl,hw.sub .nil⟩
def y2x (z1j : Sapi_Config) : Option Int :=
 some (i64 (((z1j.fModules.length : Nat) : Int) + ((z1j.fSwitches.length : Nat) : Int)))
set_option maxRecDepth 20000 in
theorem y4M (Z : Zp) (zfS : Option Addr) (zfT : Nat) (zfU : Option Addr) (zfV : Nat) (zfW : Option Addr) (zfX : Nat) (zfY : Option Addr) (zfZ : Nat) (zg0 : Option Addr) (zg1 : Nat) (zg2 : Option Addr) (zg3 : Nat) (zg4 : Option Addr) (zg5 : Nat) (zg6 : Option Addr) (zg7 : Nat) (z1j : Sapi_Config) (r : Int)
  (h : y2x z1j = some r) (w₀ : World) (hz : PZ [] w₀ Z)
  (zHv : ZS Z 4 (y2i Z) zfS zfT z1j.fModules)
  (zHw : ZS Z 4 (y2R Z) zfU zfV z1j.fChannels)
  (zHx : ZS Z 4 (fun r x=>r = e64 x) zfW zfX z1j.fSwitches)
  (zHy : ZS Z 4 (fun r x=>r = e62 x) zfY zfZ z1j.fLinks)
  (zHz : ZS Z 7 (y2A Z) zg0 zg1 z1j.fVLs)
  (zHA : ZS Z 5 (fun r x=>r = y2T x) zg2 zg3 z1j.fHealth)
  (zHB : ZS Z 3 (y2S Z) zg4 zg5 z1j.fCauses)
  (zHC : ZS Z 4 (fun r x=>r = y2U x) zg6 zg7 z1j.fVersions) :
  Calls Try.prog 17 #[(.agg #[(.slice zfS z1j.fModules.length zfT),(.slice zfU z1j.fChannels.length zfV),(.slice zfW z1j.fSwitches.length zfX),(.slice zfY z1j.fLinks.length zfZ),(.slice zg0 z1j.fVLs.length zg1),(.slice zg2 z1j.fHealth.length zg3),(.slice zg4 z1j.fCauses.length zg5),(.slice zg6 z1j.fVersions.length zg7)])] w₀ fun e w'=>e = .returned (.int .i64 r) ∧ Hp [] w₀ w' []:=by
 unfold y2x at h
 refine Calls.yp (vs:=[(.agg #[(.slice zfS z1j.fModules.length zfT),(.slice zfU z1j.fChannels.length zfV),(.slice zfW z1j.fSwitches.length zfX),(.slice zfY z1j.fLinks.length zfZ),(.slice zg0 z1j.fVLs.length zg1),(.slice zg2 z1j.fHealth.length zg3),(.slice zg4 z1j.fCauses.length zg5),(.slice zg6 z1j.fVersions.length zg7)])]) (pre:=[]) (env:=[(0,(.agg #[(.slice zfS z1j.fModules.length zfT),(.slice zfU z1j.fChannels.length zfV),(.slice zfW z1j.fSwitches.length zfX),(.slice zfY z1j.fLinks.length zfZ),(.slice zg0 z1j.fVLs.length zg1),(.slice zg2 z1j.fHealth.length zg3),(.slice zg4 z1j.fCauses.length zg5),(.slice zg6 z1j.fVersions.length zg7)]))]) Try.func17 rfl Try.ntmps17 rfl (Hp.nil w₀ _) rfl ?_
 refine WC.b (WC.a ?_)
 refine WL.new (dd:=1) rfl rfl rfl (y1N (cs:=[(.slice zfS z1j.fModules.length zfT),(.slice zfU z1j.fChannels.length zfV),(.slice zfW z1j.fSwitches.length zfX),(.slice zfY z1j.fLinks.length zfZ),(.slice zg0 z1j.fVLs.length zg1),(.slice zg2 z1j.fHealth.length zg3),(.slice zg4 z1j.fCauses.length zg5),(.slice zg6 z1j.fVersions.length zg7)]) rfl rfl) ?_
 intro zHD _
 refine WL.pu rfl (WL.nil (WX.a (WC.b (WC.a ?_))))
 refine WL.a (d:=3) rfl rfl rfl (ya y1Y rfl rfl) ?_
 refine WL.a (d:=4) rfl rfl rfl (yb y1Z rfl (yc .here rfl)) ?_
 refine WL.a (d:=5) rfl rfl rfl (yz Try.underlying22 rfl) ?_
 refine WL.a (d:=6) rfl rfl rfl (ya y3y rfl rfl) ?_
 refine WL.a (d:=7) rfl rfl rfl (yb y3z rfl (yc .here rfl)) ?_
 refine WL.a (d:=8) rfl rfl rfl (yz Try.underlying24 rfl) ?_
 refine WL.pu rfl (WL.pu rfl (WL.nil (WX.a (WC.ret ?_))))
 obtain rfl:=Option.some.inj h
 refine WX.yi Try.results17 (.tmp rfl .nil) (fun w hw=>?_)
 exact ⟨yM rfl,hw.sub .nil⟩
def y20 (z1a : Sapi_Config) (z4A : Int) : Option ByteArray :=
 (if decide (z4A < 0) then some true else (y2x z1a).bind fun zqF=>some (decide (z4A ≥ zqF))).bind fun zlG=>if zlG then some ⟨#[]⟩ else if decide (z4A < ((z1a.fModules.length : Nat) : Int)) then chk ((0 : Int) ≤ z4A ∧ z4A < ((z1a.fModules.length : Nat) : Int)) (some ((nth z1a.fModules z4A).fName)) else chk ((0 : Int) ≤ (i64 (z4A - ((z1a.fModules.length : Nat) : Int))) ∧ (i64 (z4A - ((z1a.fModules.length : Nat) : Int))) < ((z1a.fSwitches.length : Nat) : Int)) (some ((nth z1a.fSwitches (i64 (z4A - ((z1a.fModules.length : Nat) : Int)))).fName))
set_option maxRecDepth 20000 in
theorem y5s (Z : Zp) (zg8 : Option Addr) (zg9 : Nat) (zga : Option Addr) (zgb : Nat) (zgc : Option Addr) (zgd : Nat) (zge : Option Addr) (zgf : Nat) (zgg : Option Addr) (zgh : Nat) (zgi : Option Addr) (zgj : Nat) (zgk : Option Addr) (zgl : Nat) (zgm : Option Addr) (zgn : Nat) (z1a : Sapi_Config) (z4A : Int) (r : ByteArray)
  (h : y20 z1a z4A = some r) (w₀ : World) (hz : PZ [] w₀ Z)
  (zqG : ZS Z 4 (y2i Z) zg8 zg9 z1a.fModules)
  (zwx : ZS Z 4 (y2R Z) zga zgb z1a.fChannels)
  (zqH : ZS Z 4 (fun r x=>r = e64 x) zgc zgd z1a.fSwitches)
  (zwy : ZS Z 4 (fun r x=>r = e62 x) zge zgf z1a.fLinks)
  (zwz : ZS Z 7 (y2A Z) zgg zgh z1a.fVLs)
  (zwA : ZS Z 5 (fun r x=>r = y2T x) zgi zgj z1a.fHealth)
  (zwB : ZS Z 3 (y2S Z) zgk zgl z1a.fCauses)
  (zwC : ZS Z 4 (fun r x=>r = y2U x) zgm zgn z1a.fVersions) :
  Calls Try.prog 18 #[(.agg #[(.slice zg8 z1a.fModules.length zg9),(.slice zga z1a.fChannels.length zgb),(.slice zgc z1a.fSwitches.length zgd),(.slice zge z1a.fLinks.length zgf),(.slice zgg z1a.fVLs.length zgh),(.slice zgi z1a.fHealth.length zgj),(.slice zgk z1a.fCauses.length zgl),(.slice zgm z1a.fVersions.length zgn)]),(.int .i64 z4A)] w₀ fun e w'=>e = .returned (.string r) ∧ Hp [] w₀ w' []:=by
 unfold y20 at h
 refine Calls.yp (vs:=[(.agg #[(.slice zg8 z1a.fModules.length zg9),(.slice zga z1a.fChannels.length zgb),(.slice zgc z1a.fSwitches.length zgd),(.slice zge z1a.fLinks.length zgf),(.slice zgg z1a.fVLs.length zgh),(.slice zgi z1a.fHealth.length zgj),(.slice zgk z1a.fCauses.length zgl),(.slice zgm z1a.fVersions.length zgn)]),(.int .i64 z4A)]) (pre:=[]) (env:=[(0,(.agg #[(.slice zg8 z1a.fModules.length zg9),(.slice zga z1a.fChannels.length zgb),(.slice zgc z1a.fSwitches.length zgd),(.slice zge z1a.fLinks.length zgf),(.slice zgg z1a.fVLs.length zgh),(.slice zgi z1a.fHealth.length zgj),(.slice zgk z1a.fCauses.length zgl),(.slice zgm z1a.fVersions.length zgn)])),(1,(.int .i64 z4A))]) Try.func18 rfl Try.ntmps18 rfl (Hp.nil w₀ _) rfl ?_
 refine WC.b (WC.a ?_)
 refine WL.new (dd:=2) rfl rfl rfl (y1N (cs:=[(.slice zg8 z1a.fModules.length zg9),(.slice zga z1a.fChannels.length zgb),(.slice zgc z1a.fSwitches.length zgd),(.slice zge z1a.fLinks.length zgf),(.slice zgg z1a.fVLs.length zgh),(.slice zgi z1a.fHealth.length zgj),(.slice zgk z1a.fCauses.length zgl),(.slice zgm z1a.fVersions.length zgn)]) rfl rfl) ?_
 intro zHE _
 refine WL.pu rfl (WL.nil (WX.a (WC.b (WC.a ?_))))
 refine WL.a (d:=6) rfl rfl rfl (ya y1Y rfl rfl) ?_
 refine WL.a (d:=7) rfl rfl rfl (yb y1Z rfl (yc .here rfl)) ?_
 refine WL.a (d:=8) rfl rfl rfl (yz Try.underlying22 rfl) ?_
 refine WL.pu rfl (WL.nil (WX.a (WC.block (WC.b ?_))))
 obtain ⟨zlG,zqI,h⟩:=zg h
 refine WC.a (WL.pu rfl (WL.pu rfl (WL.pu rfl ?_)))
 refine WL.seg false 4 20 (B:=zlG) rfl rfl rfl rfl rfl rfl (fun h=>(Option.some.inj (ym zqI h)).symm) (fun _ zwD=>?_) ?_
 ·skip
  have zgo:=yn zqI zwD
  obtain ⟨zqF,zwE,zgo⟩:=zg zgo
  replace zgo:=Option.some.inj zgo
  refine WL.pu rfl ?_
  refine WL.a (d:=22) rfl rfl rfl (yx y1f rfl (yQ .here) rfl) ?_
  refine WL.b (dd:=23) rfl rfl rfl (zC (l:=[.tmp 22]) Try.call17 (.cons rfl .nil)) .nil (cc hz .nil fun w pz ho=>y4M _ _ _ _ _ _ _ _ _ _ _ _ _ _ _ _ _ _ _ zwE w pz zqG zwx zqH zwy zwz zwA zwB zwC) ?_
  refine WL.pu rfl (WL.pu rfl ?_)
  exact WL.yr zgo rfl rfl .all
 refine WL.pu rfl (WL.nil (WX.a ?_))
 refine WC.cond rfl (fun zlH=>?_) (fun zlH=>?_)
 ·replace h:=ym h zlH
  refine WC.b (WC.a (WL.pu rfl (WL.nil (WX.a (WC.ret (WX.yH ?_))))))
  obtain rfl:=Option.some.inj h
  refine WX.yi Try.results18 (.tmp rfl .nil) (fun w hw=>?_)
  exact ⟨yM rfl,hw.sub .nil⟩
 ·replace h:=yn h zlH
  refine WC.b (WC.a (WL.pu rfl (WL.pu rfl (WL.pu rfl (WL.pu rfl (WL.nil (WX.a ?_)))))))
  refine WC.cond rfl (fun zlI=>?_) (fun zlI=>?_)
  ·replace h:=ym h zlI
   refine WC.b ?_
   obtain ⟨zwF,h⟩:=ye h
   refine WC.a ?_
   refine WL.a (d:=30) rfl rfl rfl (ya y1Y rfl rfl) ?_
   refine WL.a (d:=31) rfl rfl rfl (yb y1Z rfl (yc .here rfl)) ?_
   refine WL.pu rfl ?_
   refine WL.znth (dd:=33) rfl rfl (Z:=Z) (Pr:=(y2i Z)) y9J rfl rfl zqG zwF ?_
   rintro zHF zHG zwG zHH ⟨zHI,zHJ,rfl,zHK⟩
   refine WL.a (d:=34) rfl rfl rfl (ya y9K rfl rfl) ?_
   refine WL.a (d:=35) rfl rfl rfl (yb y5C rfl (yD hz.pv zwG rfl)) ?_
   refine WL.pu rfl (WL.nil (WX.a (WC.ret (WX.yH ?_))))
   obtain rfl:=Option.some.inj h
   refine WX.yi Try.results18 (.tmp rfl .nil) (fun w hw=>?_)
   exact ⟨yM rfl,hw.sub .nil⟩
  ·replace h:=yn h zlI
   refine WC.b ?_
   obtain ⟨zwH,h⟩:=ye h
   refine WC.a ?_
   refine WL.a (d:=9) rfl rfl rfl (ya y3y rfl rfl) ?_
   refine WL.a (d:=10) rfl rfl rfl (yb y3z rfl (yc .here rfl)) ?_
   refine WL.pu rfl (WL.pu rfl (WL.pu rfl ?_))
   refine WL.znth (dd:=14) rfl rfl (Z:=Z) (Pr:=(fun r x=>r = e64 x)) y5h rfl rfl zqH zwH ?_
   rintro zHL zHM zwI zHN rfl
   refine WL.a (d:=15) rfl rfl rfl (ya yan rfl rfl) ?_
   refine WL.a (d:=16) rfl rfl rfl (yb y5C rfl (yD hz.pv zwI rfl)) ?_
   refine WL.pu rfl (WL.nil (WX.a (WC.ret (WX.yH ?_))))
   obtain rfl:=Option.some.inj h
   refine WX.yi Try.results18 (.tmp rfl .nil) (fun w hw=>?_)
   exact ⟨yM rfl,hw.sub .nil⟩
def y1x (z8E : Int) (z12 : Sapi_Config) (z4V : ByteArray) (z8F : Option Int) : Nat → Int → Option Int
 | 0,_=>none
 | zlJ + 1,z4B=>if decide (z4B < z8E) then (y20 z12 z4B).bind fun zqJ=>if decide (zqJ = z4V) then some z4B else y1x z8E z12 z4V z8F zlJ (i64 (z4B + 1)) else z8F
theorem y6m {n : Nat} {z8E : Int} {z12 : Sapi_Config} {z4V : ByteArray} {z8F : Option Int} {z4B : Int} {r : Int} (h : y1x z8E z12 z4V z8F n z4B = some r) : ∃ m,n = m + 1:=by
 cases n with
 | zero=>cases h
 | succ m=>exact ⟨m,rfl⟩
def y1Q (z12 : Sapi_Config) (z4V : ByteArray) : Option Int :=
 jp0 (some (-1)) fun z8F=>(y2x z12).bind fun z8E=>y1x z8E z12 z4V z8F yw 0
set_option maxRecDepth 20000 in
theorem y6F (Z : Zp) (zcK : Option Addr) (zcL : Nat) (zcM : Option Addr) (zcN : Nat) (zcO : Option Addr) (zcP : Nat) (zcQ : Option Addr) (zcR : Nat) (zcS : Option Addr) (zcT : Nat) (zcU : Option Addr) (zcV : Nat) (zcW : Option Addr) (zcX : Nat) (zcY : Option Addr) (zcZ : Nat) (z12 : Sapi_Config) (z4V : ByteArray) (r : Int)
  (h : y1Q z12 z4V = some r) (w₀ : World) (hz : PZ [] w₀ Z)
  (zqK : ZS Z 4 (y2i Z) zcK zcL z12.fModules)
  (zqL : ZS Z 4 (y2R Z) zcM zcN z12.fChannels)
  (zqM : ZS Z 4 (fun r x=>r = e64 x) zcO zcP z12.fSwitches)
  (zqN : ZS Z 4 (fun r x=>r = e62 x) zcQ zcR z12.fLinks)
  (zqO : ZS Z 7 (y2A Z) zcS zcT z12.fVLs)
  (zqP : ZS Z 5 (fun r x=>r = y2T x) zcU zcV z12.fHealth)
  (zqQ : ZS Z 3 (y2S Z) zcW zcX z12.fCauses)
  (zqR : ZS Z 4 (fun r x=>r = y2U x) zcY zcZ z12.fVersions) :
  Calls Try.prog 59 #[(.agg #[(.slice zcK z12.fModules.length zcL),(.slice zcM z12.fChannels.length zcN),(.slice zcO z12.fSwitches.length zcP),(.slice zcQ z12.fLinks.length zcR),(.slice zcS z12.fVLs.length zcT),(.slice zcU z12.fHealth.length zcV),(.slice zcW z12.fCauses.length zcX),(.slice zcY z12.fVersions.length zcZ)]),(.string z4V)] w₀ fun e w'=>e = .returned (.int .i64 r) ∧ Hp [] w₀ w' []:=by
 unfold y1Q at h
 refine Calls.yp (vs:=[(.agg #[(.slice zcK z12.fModules.length zcL),(.slice zcM z12.fChannels.length zcN),(.slice zcO z12.fSwitches.length zcP),(.slice zcQ z12.fLinks.length zcR),(.slice zcS z12.fVLs.length zcT),(.slice zcU z12.fHealth.length zcV),(.slice zcW z12.fCauses.length zcX),(.slice zcY z12.fVersions.length zcZ)]),(.string z4V)]) (pre:=[]) (env:=[(0,(.agg #[(.slice zcK z12.fModules.length zcL),(.slice zcM z12.fChannels.length zcN),(.slice zcO z12.fSwitches.length zcP),(.slice zcQ z12.fLinks.length zcR),(.slice zcS z12.fVLs.length zcT),(.slice zcU z12.fHealth.length zcV),(.slice zcW z12.fCauses.length zcX),(.slice zcY z12.fVersions.length zcZ)])),(1,(.string z4V))]) Try.func59 rfl Try.ntmps59 rfl (Hp.nil w₀ _) rfl ?_
 refine WC.b (WC.a ?_)
 refine WL.new (dd:=2) rfl rfl rfl (y1N (cs:=[(.slice zcK z12.fModules.length zcL),(.slice zcM z12.fChannels.length zcN),(.slice zcO z12.fSwitches.length zcP),(.slice zcQ z12.fLinks.length zcR),(.slice zcS z12.fVLs.length zcT),(.slice zcU z12.fHealth.length zcV),(.slice zcW z12.fCauses.length zcX),(.slice zcY z12.fVersions.length zcZ)]) rfl rfl) ?_
 intro zqS _
 refine WL.pu rfl (WL.nil (WX.a ?_))
 obtain ⟨z8F,zwJ,h⟩:=y2r h
 refine WC.y24 ((z8F = some r)) ([]) ([]) ?_ ?_
 ·skip
  refine WC.b ?_
  obtain ⟨z8E,zwK,h⟩:=zg h
  refine WC.a ?_
  refine WL.a (d:=6) rfl rfl rfl (yx y1f rfl (yQ .here) rfl) ?_
  refine WL.b (dd:=7) rfl rfl rfl (zC (l:=[.tmp 6]) Try.call17 (.cons rfl .nil)) .nil (cc hz .nil fun w pz ho=>y4M _ _ _ _ _ _ _ _ _ _ _ _ _ _ _ _ _ _ _ zwK w pz zqK zqL zqM zqN zqO zqP zqQ zqR) ?_
  refine WL.pu rfl (WL.nil (WX.a (WC.block ?_)))
  refine WC.y33 (fun (zd0 : Nat) (z4B : Int)=>(y1x z8E z12 z4V z8F zd0 z4B = some r)) (fun (zd0 : Nat) (z4B : Int)=>[(1,(.string z4V)),(2,(.pointer (some ⟨zqS,0,none⟩))),(7,(.int .i64 z8E)),(8,(.int .i64 z4B))]) (fun (zd0 : Nat) (z4B : Int)=>[stb zqS 31 [(.slice zcK z12.fModules.length zcL),(.slice zcM z12.fChannels.length zcN),(.slice zcO z12.fSwitches.length zcP),(.slice zcQ z12.fLinks.length zcR),(.slice zcS z12.fVLs.length zcT),(.slice zcU z12.fHealth.length zcV),(.slice zcW z12.fCauses.length zcX),(.slice zcY z12.fVersions.length zcZ)]]) (fun (zd0 : Nat) (z4B : Int)=>zd0) ⟨yw,0⟩ h (.cons rfl (.cons rfl (.cons rfl (.cons rfl .nil)))) (.cons .here .nil) ?_
  rintro zd0 z4B h
  obtain ⟨zlJ,rfl⟩:=y6m h
  rw [y1x] at h
  refine WC.b (WC.a (WL.pu rfl (WL.nil (WX.a (WC.b ?_)))))
  refine WC.cond rfl (fun zlK=>?_) (fun zlK=>?_)
  ·replace h:=ym h zlK
   refine WC.skip (WX.a (WC.b (WC.block (WC.b (WC.a (WL.pu rfl (WL.pu rfl (WL.nil (WX.a (WC.b ?_))))))))))
   obtain ⟨zqJ,zwL,h⟩:=zg h
   refine WC.a ?_
   refine WL.a (d:=11) rfl rfl rfl (yx y1f rfl (yQ .here) rfl) ?_
   refine WL.pu rfl ?_
   refine WL.b (dd:=13) rfl rfl rfl (zC (l:=[.tmp 11,.tmp 12]) Try.call18 (.cons rfl (.cons rfl .nil))) .nil (cc hz .nil fun w pz ho=>y5s _ _ _ _ _ _ _ _ _ _ _ _ _ _ _ _ _ _ _ _ zwL w pz zqK zqL zqM zqN zqO zqP zqQ zqR) ?_
   refine WL.pu rfl ?_
   refine WL.a (d:=15) rfl rfl rfl (y9C rfl rfl) ?_
   refine WL.nil (WX.a ?_)
   refine WC.cond rfl (fun zlL=>?_) (fun zlL=>?_)
   ·replace h:=ym h zlL
    refine WC.b (WC.a (WL.pu rfl (WL.pu rfl (WL.nil (WX.a (WC.ret (WX.yH (WX.yj (WX.yj (WX.yH (WX.yj ?_)))))))))))
    obtain rfl:=Option.some.inj h
    refine WX.yi Try.results59 (.tmp rfl .nil) (fun w hw=>?_)
    exact ⟨yM rfl,hw.sub .nil⟩
   ·replace h:=yn h zlL
    refine WC.skip (WX.yk (WX.a (WC.a (WL.pu rfl (WL.pu rfl (WL.nil ?_))))))
    exact WX.round (G:=Nat × Int) ⟨zlJ,(i64 (z4B + 1))⟩ h (Nat.lt_succ_self _) (.cons rfl (.cons rfl (.cons rfl (.cons rfl .nil)))) (.cons .here .nil)
  ·replace h:=yn h zlK
   refine WC.exit (WX.yg (WX.yg (WX.yv ?_)))
   exact WX.mid (G:=Unit) () h .nil .nil
 ·rintro  h
  replace h:=zwJ.symm.trans h
  refine WC.b (WC.a (WL.pu rfl (WL.nil (WX.a (WC.ret ?_)))))
  obtain rfl:=Option.some.inj h
  refine WX.yi Try.results59 (.tmp rfl .nil) (fun w hw=>?_)
  exact ⟨yM rfl,hw.sub .nil⟩
def y3B (zE : Sapi_Config) (z7l : Int) (z1Y : Int) : Option Bool :=
 if decide (z1Y < ((zE.fModules.length : Nat) : Int)) then some (decide (z1Y ≥ 0)) else chk ((0 : Int) ≤ (i64 (z1Y - ((zE.fModules.length : Nat) : Int))) ∧ (i64 (z1Y - ((zE.fModules.length : Nat) : Int))) < ((zE.fSwitches.length : Nat) : Int)) (some (((((decide (((nth zE.fSwitches (i64 (z1Y - ((zE.fModules.length : Nat) : Int)))).fNet) = z7l)) && (decide (((nth zE.fSwitches (i64 (z1Y - ((zE.fModules.length : Nat) : Int)))).fDelay) ≥ 0))) && (decide (((nth zE.fSwitches (i64 (z1Y - ((zE.fModules.length : Nat) : Int)))).fDelay) ≤ 1000))) && (decide (((nth zE.fSwitches (i64 (z1Y - ((zE.fModules.length : Nat) : Int)))).fStore) ≥ 0))) && (decide (((nth zE.fSwitches (i64 (z1Y - ((zE.fModules.length : Nat) : Int)))).fStore) ≤ 1073741824))))
set_option maxRecDepth 20000 in
theorem y6G (Z : Zp) (zgp : Option Addr) (zgq : Nat) (zgr : Option Addr) (zgs : Nat) (zgt : Option Addr) (zgu : Nat) (zgv : Option Addr) (zgw : Nat) (zgx : Option Addr) (zgy : Nat) (zgz : Option Addr) (zgA : Nat) (zgB : Option Addr) (zgC : Nat) (zgD : Option Addr) (zgE : Nat) (zE : Sapi_Config) (z7l : Int) (z1Y : Int) (r : Bool)
  (h : y3B zE z7l z1Y = some r) (w₀ : World) (hz : PZ [] w₀ Z)
  (zHO : ZS Z 4 (y2i Z) zgp zgq zE.fModules)
  (zHP : ZS Z 4 (y2R Z) zgr zgs zE.fChannels)
  (zwM : ZS Z 4 (fun r x=>r = e64 x) zgt zgu zE.fSwitches)
  (zHQ : ZS Z 4 (fun r x=>r = e62 x) zgv zgw zE.fLinks)
  (zHR : ZS Z 7 (y2A Z) zgx zgy zE.fVLs)
  (zHS : ZS Z 5 (fun r x=>r = y2T x) zgz zgA zE.fHealth)
  (zHT : ZS Z 3 (y2S Z) zgB zgC zE.fCauses)
  (zHU : ZS Z 4 (fun r x=>r = y2U x) zgD zgE zE.fVersions) :
  Calls Try.prog 60 #[(.agg #[(.slice zgp zE.fModules.length zgq),(.slice zgr zE.fChannels.length zgs),(.slice zgt zE.fSwitches.length zgu),(.slice zgv zE.fLinks.length zgw),(.slice zgx zE.fVLs.length zgy),(.slice zgz zE.fHealth.length zgA),(.slice zgB zE.fCauses.length zgC),(.slice zgD zE.fVersions.length zgE)]),(.int .i64 z7l),(.int .i64 z1Y)] w₀ fun e w'=>e = .returned (.bool r) ∧ Hp [] w₀ w' []:=by
 unfold y3B at h
 refine Calls.yp (vs:=[(.agg #[(.slice zgp zE.fModules.length zgq),(.slice zgr zE.fChannels.length zgs),(.slice zgt zE.fSwitches.length zgu),(.slice zgv zE.fLinks.length zgw),(.slice zgx zE.fVLs.length zgy),(.slice zgz zE.fHealth.length zgA),(.slice zgB zE.fCauses.length zgC),(.slice zgD zE.fVersions.length zgE)]),(.int .i64 z7l),(.int .i64 z1Y)]) (pre:=[]) (env:=[(0,(.agg #[(.slice zgp zE.fModules.length zgq),(.slice zgr zE.fChannels.length zgs),(.slice zgt zE.fSwitches.length zgu),(.slice zgv zE.fLinks.length zgw),(.slice zgx zE.fVLs.length zgy),(.slice zgz zE.fHealth.length zgA),(.slice zgB zE.fCauses.length zgC),(.slice zgD zE.fVersions.length zgE)])),(1,(.int .i64 z7l)),(2,(.int .i64 z1Y))]) Try.func60 rfl Try.ntmps60 rfl (Hp.nil w₀ _) rfl ?_
 refine WC.b (WC.a ?_)
 refine WL.new (dd:=3) rfl rfl rfl (y1N (cs:=[(.slice zgp zE.fModules.length zgq),(.slice zgr zE.fChannels.length zgs),(.slice zgt zE.fSwitches.length zgu),(.slice zgv zE.fLinks.length zgw),(.slice zgx zE.fVLs.length zgy),(.slice zgz zE.fHealth.length zgA),(.slice zgB zE.fCauses.length zgC),(.slice zgD zE.fVersions.length zgE)]) rfl rfl) ?_
 intro zHV _
 refine WL.pu rfl (WL.nil (WX.a (WC.b (WC.b (WC.a (WL.pu rfl ?_))))))
 refine WL.a (d:=9) rfl rfl rfl (ya y1Y rfl rfl) ?_
 refine WL.a (d:=10) rfl rfl rfl (yb y1Z rfl (yc .here rfl)) ?_
 refine WL.a (d:=11) rfl rfl rfl (yz Try.underlying22 rfl) ?_
 refine WL.pu rfl (WL.nil (WX.a ?_))
 refine WC.cond rfl (fun zlM=>?_) (fun zlM=>?_)
 ·replace h:=ym h zlM
  refine WC.b (WC.a (WL.pu rfl (WL.pu rfl (WL.pu rfl (WL.nil (WX.a (WC.ret (WX.yj ?_))))))))
  obtain rfl:=Option.some.inj h
  refine WX.yi Try.results60 (.tmp rfl .nil) (fun w hw=>?_)
  exact ⟨yM rfl,hw.sub .nil⟩
 ·replace h:=yn h zlM
  refine WC.skip (WX.a (WC.b ?_))
  obtain ⟨zwN,h⟩:=ye h
  refine WC.a ?_
  refine WL.a (d:=15) rfl rfl rfl (ya y3y rfl rfl) ?_
  refine WL.a (d:=16) rfl rfl rfl (yb y3z rfl (yc .here rfl)) ?_
  refine WL.pu rfl ?_
  refine WL.a (d:=18) rfl rfl rfl (ya y1Y rfl rfl) ?_
  refine WL.a (d:=19) rfl rfl rfl (yb y1Z rfl (yc .here rfl)) ?_
  refine WL.a (d:=20) rfl rfl rfl (yz Try.underlying22 rfl) ?_
  refine WL.pu rfl ?_
  refine WL.znth (dd:=22) rfl rfl (Z:=Z) (Pr:=(fun r x=>r = e64 x)) y5h rfl rfl zwM zwN ?_
  rintro zHW zHX zwO zHY rfl
  refine WL.a (d:=23) rfl rfl rfl (yx yaq rfl (y4t hz.pv zwO) rfl) ?_
  refine WL.new (dd:=7) rfl rfl rfl (y28 (cs:=[(.string ⟨#[]⟩),(.int .i64 0),(.int .i64 0),(.int .i64 0)]) y9L rfl) ?_
  intro zHZ _
  refine WL.y1e rfl rfl (y1z yar rfl rfl rfl .here rfl rfl rfl) ?_
  refine WL.nil (WX.a (WC.b (WC.a ?_)))
  refine WL.a (d:=24) rfl rfl rfl (ya yas rfl rfl) ?_
  refine WL.a (d:=25) rfl rfl rfl (yb yd rfl (yc .here rfl)) ?_
  refine WL.pu rfl (WL.pu rfl (WL.pu rfl ?_))
  refine WL.seg true 3 28 (B:=(decide (((nth zE.fSwitches (i64 (z1Y - ((zE.fModules.length : Nat) : Int)))).fNet) = z7l)) && (decide (((nth zE.fSwitches (i64 (z1Y - ((zE.fModules.length : Nat) : Int)))).fDelay) ≥ 0))) rfl rfl rfl rfl rfl rfl (fun h=>(y1G h).symm) (fun _ zwP=>?_) ?_
  ·skip
   refine WL.a (d:=29) rfl rfl rfl (ya y5L rfl rfl) ?_
   refine WL.a (d:=30) rfl rfl rfl (yb yd rfl (yc .here rfl)) ?_
   refine WL.pu rfl (WL.pu rfl ?_)
   exact WL.yr (y1H zwP) rfl rfl .all
  refine WL.pu rfl ?_
  refine WL.seg true 3 33 (B:=((decide (((nth zE.fSwitches (i64 (z1Y - ((zE.fModules.length : Nat) : Int)))).fNet) = z7l)) && (decide (((nth zE.fSwitches (i64 (z1Y - ((zE.fModules.length : Nat) : Int)))).fDelay) ≥ 0))) && (decide (((nth zE.fSwitches (i64 (z1Y - ((zE.fModules.length : Nat) : Int)))).fDelay) ≤ 1000))) rfl rfl rfl rfl rfl rfl (fun h=>(y1G h).symm) (fun _ zwQ=>?_) ?_
  ·skip
   refine WL.a (d:=34) rfl rfl rfl (ya y5L rfl rfl) ?_
   refine WL.a (d:=35) rfl rfl rfl (yb yd rfl (yc .here rfl)) ?_
   refine WL.pu rfl (WL.pu rfl ?_)
   exact WL.yr (y1H zwQ) rfl rfl .all
  refine WL.pu rfl ?_
  refine WL.seg true 3 38 (B:=(((decide (((nth zE.fSwitches (i64 (z1Y - ((zE.fModules.length : Nat) : Int)))).fNet) = z7l)) && (decide (((nth zE.fSwitches (i64 (z1Y - ((zE.fModules.length : Nat) : Int)))).fDelay) ≥ 0))) && (decide (((nth zE.fSwitches (i64 (z1Y - ((zE.fModules.length : Nat) : Int)))).fDelay) ≤ 1000))) && (decide (((nth zE.fSwitches (i64 (z1Y - ((zE.fModules.length : Nat) : Int)))).fStore) ≥ 0))) rfl rfl rfl rfl rfl rfl (fun h=>(y1G h).symm) (fun _ zwR=>?_) ?_
  ·skip
   refine WL.a (d:=39) rfl rfl rfl (ya y5M rfl rfl) ?_
   refine WL.a (d:=40) rfl rfl rfl (yb yd rfl (yc .here rfl)) ?_
   refine WL.pu rfl (WL.pu rfl ?_)
   exact WL.yr (y1H zwR) rfl rfl .all
  refine WL.pu rfl ?_
  refine WL.seg true 3 43 (B:=((((decide (((nth zE.fSwitches (i64 (z1Y - ((zE.fModules.length : Nat) : Int)))).fNet) = z7l)) && (decide (((nth zE.fSwitches (i64 (z1Y - ((zE.fModules.length : Nat) : Int)))).fDelay) ≥ 0))) && (decide (((nth zE.fSwitches (i64 (z1Y - ((zE.fModules.length : Nat) : Int)))).fDelay) ≤ 1000))) && (decide (((nth zE.fSwitches (i64 (z1Y - ((zE.fModules.length : Nat) : Int)))).fStore) ≥ 0))) && (decide (((nth zE.fSwitches (i64 (z1Y - ((zE.fModules.length : Nat) : Int)))).fStore) ≤ 1073741824))) rfl rfl rfl rfl rfl rfl (fun h=>(y1G h).symm) (fun _ zwS=>?_) ?_
  ·skip
   refine WL.a (d:=44) rfl rfl rfl (ya y5M rfl rfl) ?_
   refine WL.a (d:=45) rfl rfl rfl (yb yd rfl (yc .here rfl)) ?_
   refine WL.pu rfl (WL.pu rfl ?_)
   exact WL.yr (y1H zwS) rfl rfl .all
  refine WL.pu rfl (WL.nil (WX.a (WC.ret ?_)))
  obtain rfl:=Option.some.inj h
  refine WX.yi Try.results60 (.tmp rfl .nil) (fun w hw=>?_)
  exact ⟨yM rfl,hw.sub .nil⟩
def y40 (zU : Sapi_Config) (z6l : Int) (z2d : Int) (z4W : Int) (z4X : Int) : Option Bool :=
 if (decide (z2d < 0)) || (decide (z2d ≥ ((zU.fLinks.length : Nat) : Int))) then some false else chk ((0 : Int) ≤ z2d ∧ z2d < ((zU.fLinks.length : Nat) : Int)) ((y1Q zU ((nth zU.fLinks z2d).fA)).bind fun z5z=>(y1Q zU ((nth zU.fLinks z2d).fB)).bind fun z5A=>(if (((decide (((nth zU.fLinks z2d).fNet) = z6l)) && (decide (((nth zU.fLinks z2d).fSlow) ≥ 1))) && (decide (((nth zU.fLinks z2d).fSlow) ≤ 16))) && (decide (z5z ≠ z5A)) then (y3B zU z6l z5z).bind fun zqT=>some zqT else some false).bind fun zlN=>(if zlN then (y3B zU z6l z5A).bind fun zqU=>some zqU else some false).bind fun zjj=>some (zjj && (((decide (z5z = z4W)) && (decide (z5A = z4X))) || ((decide (z5z = z4X)) && (decide (z5A = z4W))))))
set_option maxRecDepth 20000 in
theorem y8u (Z : Zp) (zgF : Option Addr) (zgG : Nat) (zgH : Option Addr) (zgI : Nat) (zgJ : Option Addr) (zgK : Nat) (zgL : Option Addr) (zgM : Nat) (zgN : Option Addr) (zgO : Nat) (zgP : Option Addr) (zgQ : Nat) (zgR : Option Addr) (zgS : Nat) (zgT : Option Addr) (zgU : Nat) (zU : Sapi_Config) (z6l : Int) (z2d : Int) (z4W : Int) (z4X : Int) (r : Bool)
  (h : y40 zU z6l z2d z4W z4X = some r) (w₀ : World) (hz : PZ [] w₀ Z)
  (zjk : ZS Z 4 (y2i Z) zgF zgG zU.fModules)
  (zjl : ZS Z 4 (y2R Z) zgH zgI zU.fChannels)
  (zjm : ZS Z 4 (fun r x=>r = e64 x) zgJ zgK zU.fSwitches)
  (zgV : ZS Z 4 (fun r x=>r = e62 x) zgL zgM zU.fLinks)
  (zjn : ZS Z 7 (y2A Z) zgN zgO zU.fVLs)
  (zjo : ZS Z 5 (fun r x=>r = y2T x) zgP zgQ zU.fHealth)
  (zjp : ZS Z 3 (y2S Z) zgR zgS zU.fCauses)
  (zjq : ZS Z 4 (fun r x=>r = y2U x) zgT zgU zU.fVersions) :
  Calls Try.prog 48 #[(.agg #[(.slice zgF zU.fModules.length zgG),(.slice zgH zU.fChannels.length zgI),(.slice zgJ zU.fSwitches.length zgK),(.slice zgL zU.fLinks.length zgM),(.slice zgN zU.fVLs.length zgO),(.slice zgP zU.fHealth.length zgQ),(.slice zgR zU.fCauses.length zgS),(.slice zgT zU.fVersions.length zgU)]),(.int .i64 z6l),(.int .i64 z2d),(.int .i64 z4W),(.int .i64 z4X)] w₀ fun e w'=>e = .returned (.bool r) ∧ Hp [] w₀ w' []:=by
 unfold y40 at h
 refine Calls.yp (vs:=[(.agg #[(.slice zgF zU.fModules.length zgG),(.slice zgH zU.fChannels.length zgI),(.slice zgJ zU.fSwitches.length zgK),(.slice zgL zU.fLinks.length zgM),(.slice zgN zU.fVLs.length zgO),(.slice zgP zU.fHealth.length zgQ),(.slice zgR zU.fCauses.length zgS),(.slice zgT zU.fVersions.length zgU)]),(.int .i64 z6l),(.int .i64 z2d),(.int .i64 z4W),(.int .i64 z4X)]) (pre:=[]) (env:=[(0,(.agg #[(.slice zgF zU.fModules.length zgG),(.slice zgH zU.fChannels.length zgI),(.slice zgJ zU.fSwitches.length zgK),(.slice zgL zU.fLinks.length zgM),(.slice zgN zU.fVLs.length zgO),(.slice zgP zU.fHealth.length zgQ),(.slice zgR zU.fCauses.length zgS),(.slice zgT zU.fVersions.length zgU)])),(1,(.int .i64 z6l)),(2,(.int .i64 z2d)),(3,(.int .i64 z4W)),(4,(.int .i64 z4X))]) Try.func48 rfl Try.ntmps48 rfl (Hp.nil w₀ _) rfl ?_
 refine WC.b (WC.a ?_)
 refine WL.new (dd:=5) rfl rfl rfl (y1N (cs:=[(.slice zgF zU.fModules.length zgG),(.slice zgH zU.fChannels.length zgI),(.slice zgJ zU.fSwitches.length zgK),(.slice zgL zU.fLinks.length zgM),(.slice zgN zU.fVLs.length zgO),(.slice zgP zU.fHealth.length zgQ),(.slice zgR zU.fCauses.length zgS),(.slice zgT zU.fVersions.length zgU)]) rfl rfl) ?_
 intro zI0 _
 refine WL.pu rfl (WL.nil (WX.a (WC.b (WC.b (WC.a (WL.pu rfl (WL.pu rfl (WL.pu rfl ?_))))))))
 refine WL.seg false 5 16 (B:=(decide (z2d < 0)) || (decide (z2d ≥ ((zU.fLinks.length : Nat) : Int)))) rfl rfl rfl rfl rfl rfl (fun h=>(y1p h).symm) (fun _ zwT=>?_) ?_
 ·skip
  refine WL.pu rfl ?_
  refine WL.a (d:=18) rfl rfl rfl (ya y49 rfl rfl) ?_
  refine WL.a (d:=19) rfl rfl rfl (yb y4a rfl (yc .here rfl)) ?_
  refine WL.a (d:=20) rfl rfl rfl (yz Try.underlying25 rfl) ?_
  refine WL.pu rfl (WL.pu rfl ?_)
  exact WL.yr (y1q zwT) rfl rfl .all
 refine WL.nil (WX.a ?_)
 refine WC.cond rfl (fun zlO=>?_) (fun zlO=>?_)
 ·replace h:=ym h zlO
  refine WC.b (WC.a (WL.pu rfl (WL.nil (WX.a (WC.ret (WX.yj ?_))))))
  obtain rfl:=Option.some.inj h
  refine WX.yi Try.results48 (.tmp rfl .nil) (fun w hw=>?_)
  exact ⟨yM rfl,hw.sub .nil⟩
 ·replace h:=yn h zlO
  refine WC.skip (WX.a (WC.b ?_))
  obtain ⟨zwU,h⟩:=ye h
  refine WC.a ?_
  refine WL.a (d:=23) rfl rfl rfl (ya y49 rfl rfl) ?_
  refine WL.a (d:=24) rfl rfl rfl (yb y4a rfl (yc .here rfl)) ?_
  refine WL.pu rfl ?_
  refine WL.znth (dd:=26) rfl rfl (Z:=Z) (Pr:=(fun r x=>r = e62 x)) y5g rfl rfl zgV zwU ?_
  rintro zI1 zI2 zwV zI3 rfl
  refine WL.a (d:=27) rfl rfl rfl (yx aggT_62 rfl (y4t hz.pv zwV) rfl) ?_
  refine WL.new (dd:=11) rfl rfl rfl (y28 (cs:=[(.string ⟨#[]⟩),(.string ⟨#[]⟩),(.int .i64 0),(.int .i64 0)]) zeroT_62 rfl) ?_
  intro zI4 _
  refine WL.y1e rfl rfl (y1z sizT_62 rfl rfl rfl .here rfl rfl rfl) ?_
  refine WL.nil (WX.a (WC.b ?_))
  obtain ⟨z5z,zwW,h⟩:=zg h
  obtain ⟨z5A,zwX,h⟩:=zg h
  refine WC.yI (fun i=>[].contains i) [] rfl ?_
  refine WD.e (i:=0) (d:=28) (by kernel_rfl) rfl z2 z3 rfl rfl rfl (yx y1f rfl (yQ .h1) rfl) ?_
  refine WD.a (i:=1) (d:=29) (by kernel_rfl) rfl z2 z3 rfl rfl rfl (fun _=>ya yam rfl rfl) ?_
  refine WD.e (i:=2) (d:=30) (by kernel_rfl) rfl z2 z3 rfl rfl rfl (yb y5C rfl (yc .here rfl)) ?_
  refine WD.c (i:=3) (d:=31) (by kernel_rfl) rfl z2 z3 rfl rfl rfl (zC (l:=[.tmp 28,.tmp 30]) Try.call59 (.cons rfl (.cons rfl .nil))) (cc hz .nil fun w pz ho=>y6F _ _ _ _ _ _ _ _ _ _ _ _ _ _ _ _ _ _ _ _ zwW w pz zjk zjl zjm zgV zjn zjo zjp zjq) ?_
  refine WD.e (i:=4) (d:=32) (by kernel_rfl) rfl z2 z3 rfl rfl rfl (yx y1f rfl (yQ .h1) rfl) ?_
  refine WD.a (i:=5) (d:=33) (by kernel_rfl) rfl z2 z3 rfl rfl rfl (fun _=>ya yao rfl rfl) ?_
  refine WD.e (i:=6) (d:=34) (by kernel_rfl) rfl z2 z3 rfl rfl rfl (yb y5C rfl (yc .here rfl)) ?_
  refine WD.c (i:=7) (d:=35) (by kernel_rfl) rfl z2 z3 rfl rfl rfl (zC (l:=[.tmp 32,.tmp 34]) Try.call59 (.cons rfl (.cons rfl .nil))) (cc hz .nil fun w pz ho=>y6F _ _ _ _ _ _ _ _ _ _ _ _ _ _ _ _ _ _ _ _ zwX w pz zjk zjl zjm zgV zjn zjo zjp zjq) ?_
  refine WD.a (i:=8) (d:=12) (by kernel_rfl) rfl z2 z3 rfl rfl rfl (fun _=>q_z rfl) ?_
  refine WD.a (i:=9) (d:=13) (by kernel_rfl) rfl z2 z3 rfl rfl rfl (fun _=>q_z rfl) ?_
  refine WD.done (by kernel_rfl) ?_
  refine WX.a (WC.b ?_)
  obtain ⟨zlN,zqV,h⟩:=zg h
  obtain ⟨zjj,zqW,h⟩:=zg h
  refine WC.a ?_
  refine WL.a (d:=36) rfl rfl rfl (ya yap rfl rfl) ?_
  refine WL.a (d:=37) rfl rfl rfl (yb yd rfl (yc .here rfl)) ?_
  refine WL.pu rfl (WL.pu rfl (WL.pu rfl ?_))
  refine WL.seg true 3 40 (B:=(decide (((nth zU.fLinks z2d).fNet) = z6l)) && (decide (((nth zU.fLinks z2d).fSlow) ≥ 1))) rfl rfl rfl rfl rfl rfl (fun h=>(y1G h).symm) (fun _ zwY=>?_) ?_
  ·skip
   refine WL.a (d:=41) rfl rfl rfl (ya y5K rfl rfl) ?_
   refine WL.a (d:=42) rfl rfl rfl (yb yd rfl (yc .here rfl)) ?_
   refine WL.pu rfl (WL.pu rfl ?_)
   exact WL.yr (y1H zwY) rfl rfl .all
  refine WL.pu rfl ?_
  refine WL.seg true 3 45 (B:=((decide (((nth zU.fLinks z2d).fNet) = z6l)) && (decide (((nth zU.fLinks z2d).fSlow) ≥ 1))) && (decide (((nth zU.fLinks z2d).fSlow) ≤ 16))) rfl rfl rfl rfl rfl rfl (fun h=>(y1G h).symm) (fun _ zwZ=>?_) ?_
  ·skip
   refine WL.a (d:=46) rfl rfl rfl (ya y5K rfl rfl) ?_
   refine WL.a (d:=47) rfl rfl rfl (yb yd rfl (yc .here rfl)) ?_
   refine WL.pu rfl (WL.pu rfl ?_)
   exact WL.yr (y1H zwZ) rfl rfl .all
  refine WL.pu rfl ?_
  refine WL.seg true 3 50 (B:=(((decide (((nth zU.fLinks z2d).fNet) = z6l)) && (decide (((nth zU.fLinks z2d).fSlow) ≥ 1))) && (decide (((nth zU.fLinks z2d).fSlow) ≤ 16))) && (decide (z5z ≠ z5A))) rfl rfl rfl rfl rfl rfl (fun h=>(y1G h).symm) (fun _ zx0=>?_) ?_
  ·skip
   refine WL.pu rfl (WL.pu rfl (WL.pu rfl (WL.pu rfl ?_)))
   exact WL.yr (y1H zx0) rfl rfl .all
  refine WL.pu rfl ?_
  refine WL.seg true 4 55 (B:=zlN) rfl rfl rfl rfl rfl rfl (fun h=>(Option.some.inj (yn zqV h)).symm) (fun _ zx1=>?_) ?_
  ·skip
   have zgW:=ym zqV zx1
   obtain ⟨zqT,zx2,zgW⟩:=zg zgW
   replace zgW:=Option.some.inj zgW
   refine WL.a (d:=56) rfl rfl rfl (yx y1f rfl (yQ .h1) rfl) ?_
   refine WL.pu rfl (WL.pu rfl ?_)
   refine WL.b (dd:=59) rfl rfl rfl (zC (l:=[.tmp 56,.tmp 57,.tmp 58]) Try.call60 (.cons rfl (.cons rfl (.cons rfl .nil)))) .nil (cc hz .nil fun w pz ho=>y6G _ _ _ _ _ _ _ _ _ _ _ _ _ _ _ _ _ _ _ _ _ zx2 w pz zjk zjl zjm zgV zjn zjo zjp zjq) ?_
   refine WL.pu rfl ?_
   exact WL.yr zgW rfl rfl .all
  refine WL.pu rfl ?_
  refine WL.seg true 4 61 (B:=zjj) rfl rfl rfl rfl rfl rfl (fun h=>(Option.some.inj (yn zqW h)).symm) (fun _ zx3=>?_) ?_
  ·skip
   have zgX:=ym zqW zx3
   obtain ⟨zqU,zx4,zgX⟩:=zg zgX
   replace zgX:=Option.some.inj zgX
   refine WL.a (d:=62) rfl rfl rfl (yx y1f rfl (yQ .h1) rfl) ?_
   refine WL.pu rfl (WL.pu rfl ?_)
   refine WL.b (dd:=65) rfl rfl rfl (zC (l:=[.tmp 62,.tmp 63,.tmp 64]) Try.call60 (.cons rfl (.cons rfl (.cons rfl .nil)))) .nil (cc hz .nil fun w pz ho=>y6G _ _ _ _ _ _ _ _ _ _ _ _ _ _ _ _ _ _ _ _ _ zx4 w pz zjk zjl zjm zgV zjn zjo zjp zjq) ?_
   refine WL.pu rfl ?_
   exact WL.yr zgX rfl rfl .all
  refine WL.pu rfl ?_
  refine WL.seg true 18 67 (B:=zjj && (((decide (z5z = z4W)) && (decide (z5A = z4X))) || ((decide (z5z = z4X)) && (decide (z5A = z4W))))) rfl rfl rfl rfl rfl rfl (fun h=>(y1G h).symm) (fun _ zx5=>?_) ?_
  ·skip
   refine WL.pu rfl (WL.pu rfl (WL.pu rfl (WL.pu rfl ?_)))
   refine WL.seg true 3 71 (B:=(decide (z5z = z4W)) && (decide (z5A = z4X))) rfl rfl rfl rfl rfl rfl (fun h=>(y1G h).symm) (fun _ zx6=>?_) ?_
   ·skip
    refine WL.pu rfl (WL.pu rfl (WL.pu rfl (WL.pu rfl ?_)))
    exact WL.yr (y1H zx6) rfl rfl .all
   refine WL.pu rfl ?_
   refine WL.seg false 8 76 (B:=((decide (z5z = z4W)) && (decide (z5A = z4X))) || ((decide (z5z = z4X)) && (decide (z5A = z4W)))) rfl rfl rfl rfl rfl rfl (fun h=>(y1p h).symm) (fun _ zx7=>?_) ?_
   ·skip
    refine WL.pu rfl (WL.pu rfl (WL.pu rfl (WL.pu rfl ?_)))
    refine WL.seg true 3 80 (B:=(decide (z5z = z4X)) && (decide (z5A = z4W))) rfl rfl rfl rfl rfl rfl (fun h=>(y1G h).symm) (fun _ zx8=>?_) ?_
    ·skip
     refine WL.pu rfl (WL.pu rfl (WL.pu rfl (WL.pu rfl ?_)))
     exact WL.yr (y1H zx8) rfl rfl .all
    refine WL.pu rfl ?_
    exact WL.yr (y1q zx7) rfl rfl .all
   refine WL.pu rfl ?_
   exact WL.yr (y1H zx5) rfl rfl .all
  refine WL.pu rfl (WL.nil (WX.a (WC.ret ?_)))
  obtain rfl:=Option.some.inj h
  refine WX.yi Try.results48 (.tmp rfl .nil) (fun w hw=>?_)
  exact ⟨yM rfl,hw.sub .nil⟩
def y22 (zw : List Sapi_Hop) (zO : Sapi_Config) (z3g : Int) (z8G : Option Bool) : Nat → Int → (List (Int × Int)) → Option Bool
 | 0,_,_=>none
 | zlP + 1,zD,z43=>if decide (zD < ((zw.length : Nat) : Int)) then chk ((0 : Int) ≤ zD ∧ zD < ((zw.length : Nat) : Int)) (jp1 (fun (z1S : List (Int × Int))=>chk (((decide ((yE z1S ((nth zw zD).fNode) 0) = 0)) || (decide ((yE z1S ((nth zw zD).fNext) 0) > 0))) = false → ((decide (zD > 0)) = true → ((0 : Int) ≤ 0 ∧ 0 < ((zw.length : Nat) : Int)))) ((if ((decide ((yE z1S ((nth zw zD).fNode) 0) = 0)) || (decide ((yE z1S ((nth zw zD).fNext) 0) > 0))) || (((decide (zD > 0)) && (decide (((nth zw zD).fNode) ≠ ((nth zw 0).fNode)))) && (decide (((nth zw zD).fNode) < ((zO.fModules.length : Nat) : Int)))) then some true else (y40 zO z3g ((nth zw zD).fLink) ((nth zw zD).fNode) ((nth zw zD).fNext)).bind fun zqX=>some (!zqX)).bind fun zlQ=>if zlQ then some false else y22 zw zO z3g z8G zlP (i64 (zD + 1)) (y1b z1S ((nth zw zD).fNext) (i64 ((yE z1S ((nth zw zD).fNext) 0) + 1))))) fun zjr=>if decide (zD = 0) then zjr (y1b z43 ((nth zw zD).fNode) (i64 ((yE z43 ((nth zw zD).fNode) 0) + 1))) else zjr z43) else z8G
theorem y6c {n : Nat} {zw : List Sapi_Hop} {zO : Sapi_Config} {z3g : Int} {z8G : Option Bool} {zD : Int} {z43 : List (Int × Int)} {r : Bool} (h : y22 zw zO z3g z8G n zD z43 = some r) : ∃ m,n = m + 1:=by
 cases n with
 | zero=>cases h
 | succ m=>exact ⟨m,rfl⟩
def y41 (zO : Sapi_Config) (z3g : Int) (zw : List Sapi_Hop) : Option Bool :=
 jp0 (some (decide (((zw.length : Nat) : Int) ≤ 32))) fun z8G=>y22 zw zO z3g z8G yw 0 ([] : List (Int × Int))
set_option maxRecDepth 20000 in
theorem y8v (Z : Zp) (zaT : Option Addr) (zaU : Nat) (zaV : Option Addr) (zaW : Nat) (zaX : Option Addr) (zaY : Nat) (zaZ : Option Addr) (zb0 : Nat) (zb1 : Option Addr) (zb2 : Nat) (zb3 : Option Addr) (zb4 : Nat) (zb5 : Option Addr) (zb6 : Nat) (zb7 : Option Addr) (zb8 : Nat) (z3h : Option Addr) (z3i : Nat) (zO : Sapi_Config) (z3g : Int) (zw : List Sapi_Hop) (r : Bool)
  (h : y41 zO z3g zw = some r) (w₀ : World) (hz : PZ [] w₀ Z)
  (zx9 : ZS Z 4 (y2i Z) zaT zaU zO.fModules)
  (zxa : ZS Z 4 (y2R Z) zaV zaW zO.fChannels)
  (zxb : ZS Z 4 (fun r x=>r = e64 x) zaX zaY zO.fSwitches)
  (zxc : ZS Z 4 (fun r x=>r = e62 x) zaZ zb0 zO.fLinks)
  (zxd : ZS Z 7 (y2A Z) zb1 zb2 zO.fVLs)
  (zxe : ZS Z 5 (fun r x=>r = y2T x) zb3 zb4 zO.fHealth)
  (zxf : ZS Z 3 (y2S Z) zb5 zb6 zO.fCauses)
  (zxg : ZS Z 4 (fun r x=>r = y2U x) zb7 zb8 zO.fVersions)
  (zqY : ZS Z 3 (fun r x=>r = e59 x) z3h z3i zw) :
  Calls Try.prog 36 #[(.agg #[(.slice zaT zO.fModules.length zaU),(.slice zaV zO.fChannels.length zaW),(.slice zaX zO.fSwitches.length zaY),(.slice zaZ zO.fLinks.length zb0),(.slice zb1 zO.fVLs.length zb2),(.slice zb3 zO.fHealth.length zb4),(.slice zb5 zO.fCauses.length zb6),(.slice zb7 zO.fVersions.length zb8)]),(.int .i64 z3g),(.slice z3h zw.length z3i)] w₀ fun e w'=>e = .returned (.bool r) ∧ Hp [] w₀ w' []:=by
 unfold y41 at h
 refine Calls.yp (vs:=[(.agg #[(.slice zaT zO.fModules.length zaU),(.slice zaV zO.fChannels.length zaW),(.slice zaX zO.fSwitches.length zaY),(.slice zaZ zO.fLinks.length zb0),(.slice zb1 zO.fVLs.length zb2),(.slice zb3 zO.fHealth.length zb4),(.slice zb5 zO.fCauses.length zb6),(.slice zb7 zO.fVersions.length zb8)]),(.int .i64 z3g),(.slice z3h zw.length z3i)]) (pre:=[]) (env:=[(0,(.agg #[(.slice zaT zO.fModules.length zaU),(.slice zaV zO.fChannels.length zaW),(.slice zaX zO.fSwitches.length zaY),(.slice zaZ zO.fLinks.length zb0),(.slice zb1 zO.fVLs.length zb2),(.slice zb3 zO.fHealth.length zb4),(.slice zb5 zO.fCauses.length zb6),(.slice zb7 zO.fVersions.length zb8)])),(1,(.int .i64 z3g)),(2,(.slice z3h zw.length z3i))]) Try.func36 rfl Try.ntmps36 rfl (Hp.nil w₀ _) rfl ?_
 refine WC.b (WC.a ?_)
 refine WL.new (dd:=3) rfl rfl rfl (y1N (cs:=[(.slice zaT zO.fModules.length zaU),(.slice zaV zO.fChannels.length zaW),(.slice zaX zO.fSwitches.length zaY),(.slice zaZ zO.fLinks.length zb0),(.slice zb1 zO.fVLs.length zb2),(.slice zb3 zO.fHealth.length zb4),(.slice zb5 zO.fCauses.length zb6),(.slice zb7 zO.fVersions.length zb8)]) rfl rfl) ?_
 intro z8H _
 refine WL.pu rfl (WL.nil (WX.a (WC.b (WC.a ?_))))
 refine WL.new (dd:=10) rfl rfl rfl (y98 (Value.int .i64) (Value.int .i64)) ?_
 intro z8I _
 refine WL.pu rfl (WL.nil (WX.a ?_))
 obtain ⟨z8G,zxh,h⟩:=y2r h
 refine WC.y24 ((z8G = some r)) ([(2,(.slice z3h zw.length z3i))]) ([]) ?_ ?_
 ·skip
  refine WC.b (WC.a (WL.pu rfl ?_))
  refine WL.a (d:=12) rfl rfl rfl (yz Try.underlying55 rfl) ?_
  refine WL.pu rfl (WL.nil (WX.a (WC.block ?_)))
  refine WC.y2F (fun (zd1 : Nat) (zD : Int) (z43 : List (Int × Int))=>(y22 zw zO z3g z8G zd1 zD z43 = some r)) (fun (zd1 : Nat) (zD : Int) (z43 : List (Int × Int))=>[(1,(.int .i64 z3g)),(2,(.slice z3h zw.length z3i)),(3,(.pointer (some ⟨z8H,0,none⟩))),(7,(.map (some z8I))),(11,(.slice z3h zw.length z3i)),(12,(.int .i64 ((zw.length : Nat) : Int))),(13,(.int .i64 zD))]) (fun (zd1 : Nat) (zD : Int) (z43 : List (Int × Int))=>[stb z8H 31 [(.slice zaT zO.fModules.length zaU),(.slice zaV zO.fChannels.length zaW),(.slice zaX zO.fSwitches.length zaY),(.slice zaZ zO.fLinks.length zb0),(.slice zb1 zO.fVLs.length zb2),(.slice zb3 zO.fHealth.length zb4),(.slice zb5 zO.fCauses.length zb6),(.slice zb7 zO.fVersions.length zb8)],y1s z8I (Value.int .i64) (Value.int .i64) z43]) (fun (zd1 : Nat) (zD : Int) (z43 : List (Int × Int))=>zd1) ⟨yw,0,([] : List (Int × Int))⟩ h (.cons rfl (.cons rfl (.cons rfl (.cons rfl (.cons rfl (.cons rfl (.cons rfl .nil))))))) (.cons .h1 (.cons .here .nil)) ?_
  rintro zd1 zD z43 h
  obtain ⟨zlP,rfl⟩:=y6c h
  rw [y22] at h
  refine WC.b (WC.a (WL.pu rfl (WL.nil (WX.a (WC.b ?_)))))
  refine WC.cond rfl (fun zlR=>?_) (fun zlR=>?_)
  ·replace h:=ym h zlR
   refine WC.skip (WX.a (WC.b (WC.block (WC.b ?_))))
   obtain ⟨zxi,h⟩:=ye h
   refine WC.a (WL.pu rfl ?_)
   refine WL.znth (dd:=16) rfl rfl (Z:=Z) (Pr:=(fun r x=>r = e59 x)) y2p rfl rfl zqY zxi ?_
   rintro zI5 zI6 zxj zI7 rfl
   refine WL.a (d:=17) rfl rfl rfl (yx y6B rfl (y4t hz.pv zxj) rfl) ?_
   refine WL.new (dd:=9) rfl rfl rfl (y28 (cs:=[(.int .i64 0),(.int .i64 0),(.int .i64 0)]) y9I rfl) ?_
   intro zb9 _
   refine WL.pu rfl ?_
   refine WL.y1e rfl rfl (y1z yal rfl rfl rfl .here rfl rfl rfl) ?_
   refine WL.nil (WX.a ?_)
   obtain ⟨zjr,zxk,h⟩:=yU h
   refine WC.y1i (fun (z1S : List (Int × Int))=>(zjr z1S = some r)) (fun (z1S : List (Int × Int))=>[(1,(.int .i64 z3g)),(2,(.slice z3h zw.length z3i)),(3,(.pointer (some ⟨z8H,0,none⟩))),(7,(.map (some z8I))),(8,(.int .i64 zD)),(9,(.pointer (some ⟨zb9,0,none⟩))),(11,(.slice z3h zw.length z3i)),(12,(.int .i64 ((zw.length : Nat) : Int))),(13,(.int .i64 zD))]) (fun (z1S : List (Int × Int))=>[stb z8H 31 [(.slice zaT zO.fModules.length zaU),(.slice zaV zO.fChannels.length zaW),(.slice zaX zO.fSwitches.length zaY),(.slice zaZ zO.fLinks.length zb0),(.slice zb1 zO.fVLs.length zb2),(.slice zb3 zO.fHealth.length zb4),(.slice zb5 zO.fCauses.length zb6),(.slice zb7 zO.fVersions.length zb8)],y1s z8I (Value.int .i64) (Value.int .i64) z1S,stb zb9 59 [(.int .i64 ((nth zw zD).fNode)),(.int .i64 ((nth zw zD).fNext)),(.int .i64 ((nth zw zD).fLink))]]) ?_ ?_
   ·skip
    refine WC.b (WC.a (WL.pu rfl (WL.pu rfl (WL.nil (WX.a ?_)))))
    refine WC.cond rfl (fun zlS=>?_) (fun zlS=>?_)
    ·replace h:=ym h zlS
     refine WC.a (WL.pu rfl ?_)
     refine WL.a (d:=21) rfl rfl rfl (ya y1E rfl rfl) ?_
     refine WL.a (d:=22) rfl rfl rfl (yb yd rfl (yc .here rfl)) ?_
     refine WL.a (d:=23) rfl rfl rfl (y5o (k:=((nth zw zD).fNode)) (dflt:=(0 : Int)) y6C Try.underlying125 y7M rfl rfl rfl .h2) ?_
     refine WL.pu rfl ?_
     refine WL.y1e rfl rfl (y6l (k:=((nth zw zD).fNode)) (v:=i64 ((yE z43 ((nth zw zD).fNode) 0) + 1)) y6C Try.underlying125 rfl rfl rfl rfl .h2) ?_
     refine WL.nil ?_
     exact WX.mid (G:=(List (Int × Int))) (y1b z43 ((nth zw zD).fNode) (i64 ((yE z43 ((nth zw zD).fNode) 0) + 1))) h (.cons rfl (.cons rfl (.cons rfl (.cons rfl (.cons rfl (.cons rfl (.cons rfl (.cons rfl (.cons rfl .nil))))))))) (.cons .h2 (.cons .here (.cons .here .nil)))
    ·replace h:=yn h zlS
     refine WC.skip ?_
     exact WX.mid (G:=(List (Int × Int))) z43 h (.cons rfl (.cons rfl (.cons rfl (.cons rfl (.cons rfl (.cons rfl (.cons rfl (.cons rfl (.cons rfl .nil))))))))) (.cons .h1 (.cons .h1 (.cons .here .nil)))
   ·rintro z1S h
    replace h:=(zxk z1S).symm.trans h
    refine WC.b (WC.b ?_)
    obtain ⟨zxl,h⟩:=ye h
    obtain ⟨zlQ,zqZ,h⟩:=zg h
    refine WC.yI (fun i=>[].contains i) [] rfl ?_
    refine WD.a (i:=0) (d:=25) (by kernel_rfl) rfl z2 z3 rfl rfl rfl (fun _=>q_m rfl) ?_
    refine WD.a (i:=1) (d:=26) (by kernel_rfl) rfl z2 z3 rfl rfl rfl (fun _=>ya y1E rfl rfl) ?_
    refine WD.e (i:=2) (d:=27) (by kernel_rfl) rfl z2 z3 rfl rfl rfl (yb yd rfl (yc .h2 rfl)) ?_
    refine WD.e (i:=3) (d:=28) (by kernel_rfl) rfl z2 z3 rfl rfl rfl (y5o (k:=((nth zw zD).fNode)) (dflt:=(0 : Int)) y6C Try.underlying125 y7M rfl rfl rfl .h1) ?_
    refine WD.a (i:=4) (d:=29) (by kernel_rfl) rfl z2 z3 rfl rfl rfl (fun _=>y5d rfl rfl) ?_
    refine WD.a (i:=5) (d:=30) (by kernel_rfl) rfl z2 z3 rfl rfl rfl (fun _=>q_m rfl) ?_
    refine WD.mid (fuel':=33) [(1,(.int .i64 z3g)),(2,(.slice z3h zw.length z3i)),(3,(.pointer (some ⟨z8H,0,none⟩))),(7,(.map (some z8I))),(8,(.int .i64 zD)),(9,(.pointer (some ⟨zb9,0,none⟩))),(11,(.slice z3h zw.length z3i)),(12,(.int .i64 ((zw.length : Nat) : Int))),(13,(.int .i64 zD)),(30,(.bool (decide ((yE z1S ((nth zw zD).fNode) 0) = 0)))),(36,(.bool ((decide ((yE z1S ((nth zw zD).fNode) 0) = 0)) || (decide ((yE z1S ((nth zw zD).fNext) 0) > 0)))))] (yJ 45 [11,10,9,8,7,6,5,4,3,2,1,0]) ?_ (fun zr0=>?_)
    rotate_left
    ·rcases Bool.eq_false_or_eq_true (decide ((yE z1S ((nth zw zD).fNode) 0) = 0)) with hb' | hb'
     ·have zlT:=hb'; clear hb'
      refine WD.pin (i:=30) rfl zlT ?_
      refine WD.b (i:=6) (d:=31) (by kernel_rfl) rfl z2 z3 rfl rfl rfl ?_
      refine WD.b (i:=7) (d:=32) (by kernel_rfl) rfl z2 z3 rfl rfl rfl ?_
      refine WD.b (i:=8) (d:=33) (by kernel_rfl) rfl z2 z3 rfl rfl rfl ?_
      refine WD.b (i:=9) (d:=34) (by kernel_rfl) rfl z2 z3 rfl rfl rfl ?_
      refine WD.b (i:=10) (d:=35) (by kernel_rfl) rfl z2 z3 rfl rfl rfl ?_
      refine WD.a (i:=11) (d:=36) (by kernel_rfl) rfl z2 z3 rfl rfl rfl (fun _=>yW rfl rfl) ?_
      refine WD.ys (.cons .here (.cons .here (.cons .here .nil))) ?_ zr0
      exact (.cons rfl (.cons rfl (.cons rfl (.cons rfl (.cons rfl (.cons rfl (.cons rfl (.cons rfl (.cons rfl (.cons (z7 (Eq.symm zlT)) (.cons (z7 (y1p zlT)) .nil)))))))))))
     ·have zlU:=hb'; clear hb'
      refine WD.pin (i:=30) rfl zlU ?_
      refine WD.a (i:=6) (d:=31) (by kernel_rfl) rfl z2 z3 rfl rfl rfl (fun _=>q_m rfl) ?_
      refine WD.a (i:=7) (d:=32) (by kernel_rfl) rfl z2 z3 rfl rfl rfl (fun _=>ya y3h rfl rfl) ?_
      refine WD.e (i:=8) (d:=33) (by kernel_rfl) rfl z2 z3 rfl rfl rfl (yb yd rfl (yc .h2 rfl)) ?_
      refine WD.e (i:=9) (d:=34) (by kernel_rfl) rfl z2 z3 rfl rfl rfl (y5o (k:=((nth zw zD).fNext)) (dflt:=(0 : Int)) y6C Try.underlying125 y7M rfl rfl rfl .h1) ?_
      refine WD.a (i:=10) (d:=35) (by kernel_rfl) rfl z2 z3 rfl rfl rfl (fun _=>y3f rfl rfl) ?_
      refine WD.a (i:=11) (d:=36) (by kernel_rfl) rfl z2 z3 rfl rfl rfl (fun _=>yX rfl rfl) ?_
      refine WD.ys (.cons .here (.cons .here (.cons .here .nil))) ?_ zr0
      exact (.cons rfl (.cons rfl (.cons rfl (.cons rfl (.cons rfl (.cons rfl (.cons rfl (.cons rfl (.cons rfl (.cons (z7 (Eq.symm zlU)) (.cons (z7 (y1q zlU)) .nil)))))))))))
    refine WD.d #[true,true,true,true,true,true,true,true,true,true,true,true,false,false,false,false,false,false,false,false,false,false,false,false,false,false,false,false,false,false,false,false,false,false,false,false,false,false,false,false,false,false,false,false,false] (by kernel_rfl) ?_
    refine WD.a (i:=12) (d:=37) (by kernel_rfl) rfl z2 z3 rfl rfl rfl (fun _=>q_m rfl) ?_
    refine WD.mid (fuel':=12) [(1,(.int .i64 z3g)),(2,(.slice z3h zw.length z3i)),(3,(.pointer (some ⟨z8H,0,none⟩))),(7,(.map (some z8I))),(9,(.pointer (some ⟨zb9,0,none⟩))),(11,(.slice z3h zw.length z3i)),(12,(.int .i64 ((zw.length : Nat) : Int))),(13,(.int .i64 zD)),(37,(.bool ((decide ((yE z1S ((nth zw zD).fNode) 0) = 0)) || (decide ((yE z1S ((nth zw zD).fNext) 0) > 0))))),(57,(.bool (((decide ((yE z1S ((nth zw zD).fNode) 0) = 0)) || (decide ((yE z1S ((nth zw zD).fNext) 0) > 0))) || (((decide (zD > 0)) && (decide (((nth zw zD).fNode) ≠ ((nth zw 0).fNode)))) && (decide (((nth zw zD).fNode) < ((zO.fModules.length : Nat) : Int)))))))] (yJ 45 [32,31,30,29,28,27,26,25,24,23,22,21,20,19,18,17,16,15,14,13,12,11,10,9,8,7,6,5,4,3,2,1,0]) ?_ (fun zr1=>?_)
    rotate_left
    ·rcases Bool.eq_false_or_eq_true ((decide ((yE z1S ((nth zw zD).fNode) 0) = 0)) || (decide ((yE z1S ((nth zw zD).fNext) 0) > 0))) with hb' | hb'
     ·have zlV:=hb'; clear hb'
      refine WD.pin (i:=37) rfl zlV ?_
      refine WD.b (i:=13) (d:=38) (by kernel_rfl) rfl z2 z3 rfl rfl rfl ?_
      refine WD.b (i:=14) (d:=39) (by kernel_rfl) rfl z2 z3 rfl rfl rfl ?_
      refine WD.b (i:=15) (d:=40) (by kernel_rfl) rfl z2 z3 rfl rfl rfl ?_
      refine WD.b (i:=16) (d:=41) (by kernel_rfl) rfl z2 z3 rfl rfl rfl ?_
      refine WD.b (i:=17) (d:=42) (by kernel_rfl) rfl z2 z3 rfl rfl rfl ?_
      refine WD.b (i:=18) (d:=43) (by kernel_rfl) rfl z2 z3 rfl rfl rfl ?_
      refine WD.b (i:=19) (d:=44) (by kernel_rfl) rfl z2 z3 rfl rfl rfl ?_
      refine WD.b (i:=20) (d:=45) (by kernel_rfl) rfl z2 z3 rfl rfl rfl ?_
      refine WD.b (i:=21) (d:=46) (by kernel_rfl) rfl z2 z3 rfl rfl rfl ?_
      refine WD.b (i:=22) (d:=47) (by kernel_rfl) rfl z2 z3 rfl rfl rfl ?_
      refine WD.b (i:=23) (d:=48) (by kernel_rfl) rfl z2 z3 rfl rfl rfl ?_
      refine WD.b (i:=24) (d:=49) (by kernel_rfl) rfl z2 z3 rfl rfl rfl ?_
      refine WD.b (i:=25) (d:=50) (by kernel_rfl) rfl z2 z3 rfl rfl rfl ?_
      refine WD.b (i:=26) (d:=51) (by kernel_rfl) rfl z2 z3 rfl rfl rfl ?_
      refine WD.b (i:=27) (d:=52) (by kernel_rfl) rfl z2 z3 rfl rfl rfl ?_
      refine WD.b (i:=28) (d:=53) (by kernel_rfl) rfl z2 z3 rfl rfl rfl ?_
      refine WD.b (i:=29) (d:=54) (by kernel_rfl) rfl z2 z3 rfl rfl rfl ?_
      refine WD.b (i:=30) (d:=55) (by kernel_rfl) rfl z2 z3 rfl rfl rfl ?_
      refine WD.b (i:=31) (d:=56) (by kernel_rfl) rfl z2 z3 rfl rfl rfl ?_
      refine WD.a (i:=32) (d:=57) (by kernel_rfl) rfl z2 z3 rfl rfl rfl (fun _=>yW rfl rfl) ?_
      refine WD.ys (.cons .here (.cons .here (.cons .here .nil))) ?_ zr1
      exact (.cons rfl (.cons rfl (.cons rfl (.cons rfl (.cons rfl (.cons rfl (.cons rfl (.cons rfl (.cons (z7 (Eq.symm zlV)) (.cons (z7 (y1p zlV)) .nil))))))))))
     ·have zjs:=hb'; clear hb'
      have zxm:=zxl zjs
      refine WD.pin (i:=37) rfl zjs ?_
      refine WD.a (i:=13) (d:=38) (by kernel_rfl) rfl z2 z3 rfl rfl rfl (fun _=>q_m rfl) ?_
      refine WD.a (i:=14) (d:=39) (by kernel_rfl) rfl z2 z3 rfl rfl rfl (fun _=>y3f rfl rfl) ?_
      refine WD.a (i:=15) (d:=40) (by kernel_rfl) rfl z2 z3 rfl rfl rfl (fun _=>q_m rfl) ?_
      refine WD.mid (fuel':=21) [(1,(.int .i64 z3g)),(2,(.slice z3h zw.length z3i)),(3,(.pointer (some ⟨z8H,0,none⟩))),(7,(.map (some z8I))),(9,(.pointer (some ⟨zb9,0,none⟩))),(11,(.slice z3h zw.length z3i)),(12,(.int .i64 ((zw.length : Nat) : Int))),(13,(.int .i64 zD)),(37,(.bool false)),(40,(.bool (decide (zD > 0)))),(48,(.bool ((decide (zD > 0)) && (decide (((nth zw zD).fNode) ≠ ((nth zw 0).fNode))))))] (yJ 45 [23,22,21,20,19,18,17,16,15,14,13,12,11,10,9,8,7,6,5,4,3,2,1,0]) ?_ (fun zr2=>?_)
      rotate_left
      ·rcases Bool.eq_false_or_eq_true (decide (zD > 0)) with hb' | hb'
       ·have zjt:=hb'; clear hb'
        have zxn:=zxm zjt
        refine WD.pin (i:=40) rfl zjt ?_
        refine WD.a (i:=16) (d:=41) (by kernel_rfl) rfl z2 z3 rfl rfl rfl (fun _=>ya y1E rfl rfl) ?_
        refine WD.e (i:=17) (d:=42) (by kernel_rfl) rfl z2 z3 rfl rfl rfl (yb yd rfl (yc .h2 rfl)) ?_
        refine WD.a (i:=18) (d:=43) (by kernel_rfl) rfl z2 z3 rfl rfl rfl (fun _=>q_m rfl) ?_
        refine WD.znth (j:=19) (dd:=44) (by kernel_rfl) rfl z2 z3 rfl rfl (Z:=Z) (Pr:=(fun r x=>r = e59 x)) y2p rfl rfl zqY zxn ?_
        rintro zI8 zI9 zxo zIa rfl
        refine WD.a (i:=20) (d:=45) (by kernel_rfl) rfl z2 z3 rfl rfl rfl (fun _=>ya y1E rfl rfl) ?_
        refine WD.e (i:=21) (d:=46) (by kernel_rfl) rfl z2 z3 rfl rfl rfl (yb yd rfl (yD hz.pv zxo rfl)) ?_
        refine WD.a (i:=22) (d:=47) (by kernel_rfl) rfl z2 z3 rfl rfl rfl (fun _=>y8n rfl rfl) ?_
        refine WD.a (i:=23) (d:=48) (by kernel_rfl) rfl z2 z3 rfl rfl rfl (fun _=>yW rfl rfl) ?_
        refine WD.ys (.cons .here (.cons .here (.cons .here .nil))) ?_ zr2
        exact (.cons rfl (.cons rfl (.cons rfl (.cons rfl (.cons rfl (.cons rfl (.cons rfl (.cons rfl (.cons rfl (.cons (z7 (Eq.symm zjt)) (.cons (z7 (y1H zjt)) .nil)))))))))))
       ·have zlW:=hb'; clear hb'
        refine WD.pin (i:=40) rfl zlW ?_
        refine WD.b (i:=16) (d:=41) (by kernel_rfl) rfl z2 z3 rfl rfl rfl ?_
        refine WD.b (i:=17) (d:=42) (by kernel_rfl) rfl z2 z3 rfl rfl rfl ?_
        refine WD.b (i:=18) (d:=43) (by kernel_rfl) rfl z2 z3 rfl rfl rfl ?_
        refine WD.b (i:=19) (d:=44) (by kernel_rfl) rfl z2 z3 rfl rfl rfl ?_
        refine WD.b (i:=20) (d:=45) (by kernel_rfl) rfl z2 z3 rfl rfl rfl ?_
        refine WD.b (i:=21) (d:=46) (by kernel_rfl) rfl z2 z3 rfl rfl rfl ?_
        refine WD.b (i:=22) (d:=47) (by kernel_rfl) rfl z2 z3 rfl rfl rfl ?_
        refine WD.a (i:=23) (d:=48) (by kernel_rfl) rfl z2 z3 rfl rfl rfl (fun _=>yX rfl rfl) ?_
        refine WD.ys (.cons .here (.cons .here (.cons .here .nil))) ?_ zr2
        exact (.cons rfl (.cons rfl (.cons rfl (.cons rfl (.cons rfl (.cons rfl (.cons rfl (.cons rfl (.cons rfl (.cons (z7 (Eq.symm zlW)) (.cons (z7 (y1G zlW)) .nil)))))))))))
      refine WD.d #[true,true,true,true,true,true,true,true,true,true,true,true,true,true,true,true,true,true,true,true,true,true,true,true,false,false,false,false,false,false,false,false,false,false,false,false,false,false,false,false,false,false,false,false,false] (by kernel_rfl) ?_
      refine WD.a (i:=24) (d:=49) (by kernel_rfl) rfl z2 z3 rfl rfl rfl (fun _=>q_m rfl) ?_
      refine WD.mid (fuel':=13) [(1,(.int .i64 z3g)),(2,(.slice z3h zw.length z3i)),(3,(.pointer (some ⟨z8H,0,none⟩))),(7,(.map (some z8I))),(9,(.pointer (some ⟨zb9,0,none⟩))),(11,(.slice z3h zw.length z3i)),(12,(.int .i64 ((zw.length : Nat) : Int))),(13,(.int .i64 zD)),(37,(.bool false)),(49,(.bool ((decide (zD > 0)) && (decide (((nth zw zD).fNode) ≠ ((nth zw 0).fNode)))))),(56,(.bool (((decide (zD > 0)) && (decide (((nth zw zD).fNode) ≠ ((nth zw 0).fNode)))) && (decide (((nth zw zD).fNode) < ((zO.fModules.length : Nat) : Int))))))] (yJ 45 [31,30,29,28,27,26,25,24,23,22,21,20,19,18,17,16,15,14,13,12,11,10,9,8,7,6,5,4,3,2,1,0]) ?_ (fun zr3=>?_)
      rotate_left
      ·rcases Bool.eq_false_or_eq_true ((decide (zD > 0)) && (decide (((nth zw zD).fNode) ≠ ((nth zw 0).fNode)))) with hb' | hb'
       ·have zlX:=hb'; clear hb'
        refine WD.pin (i:=49) rfl zlX ?_
        refine WD.a (i:=25) (d:=50) (by kernel_rfl) rfl z2 z3 rfl rfl rfl (fun _=>ya y1E rfl rfl) ?_
        refine WD.e (i:=26) (d:=51) (by kernel_rfl) rfl z2 z3 rfl rfl rfl (yb yd rfl (yc .h2 rfl)) ?_
        refine WD.a (i:=27) (d:=52) (by kernel_rfl) rfl z2 z3 rfl rfl rfl (fun _=>ya y1Y rfl rfl) ?_
        refine WD.e (i:=28) (d:=53) (by kernel_rfl) rfl z2 z3 rfl rfl rfl (yb y1Z rfl (yc .here rfl)) ?_
        refine WD.a (i:=29) (d:=54) (by kernel_rfl) rfl z2 z3 rfl rfl rfl (fun _=>yz Try.underlying22 rfl) ?_
        refine WD.a (i:=30) (d:=55) (by kernel_rfl) rfl z2 z3 rfl rfl rfl (fun _=>y3O rfl rfl) ?_
        refine WD.a (i:=31) (d:=56) (by kernel_rfl) rfl z2 z3 rfl rfl rfl (fun _=>yW rfl rfl) ?_
        refine WD.ys (.cons .here (.cons .here (.cons .here .nil))) ?_ zr3
        exact (.cons rfl (.cons rfl (.cons rfl (.cons rfl (.cons rfl (.cons rfl (.cons rfl (.cons rfl (.cons rfl (.cons (z7 (Eq.symm zlX)) (.cons (z7 (y1H zlX)) .nil)))))))))))
       ·have zlY:=hb'; clear hb'
        refine WD.pin (i:=49) rfl zlY ?_
        refine WD.b (i:=25) (d:=50) (by kernel_rfl) rfl z2 z3 rfl rfl rfl ?_
        refine WD.b (i:=26) (d:=51) (by kernel_rfl) rfl z2 z3 rfl rfl rfl ?_
        refine WD.b (i:=27) (d:=52) (by kernel_rfl) rfl z2 z3 rfl rfl rfl ?_
        refine WD.b (i:=28) (d:=53) (by kernel_rfl) rfl z2 z3 rfl rfl rfl ?_
        refine WD.b (i:=29) (d:=54) (by kernel_rfl) rfl z2 z3 rfl rfl rfl ?_
        refine WD.b (i:=30) (d:=55) (by kernel_rfl) rfl z2 z3 rfl rfl rfl ?_
        refine WD.a (i:=31) (d:=56) (by kernel_rfl) rfl z2 z3 rfl rfl rfl (fun _=>yX rfl rfl) ?_
        refine WD.ys (.cons .here (.cons .here (.cons .here .nil))) ?_ zr3
        exact (.cons rfl (.cons rfl (.cons rfl (.cons rfl (.cons rfl (.cons rfl (.cons rfl (.cons rfl (.cons rfl (.cons (z7 (Eq.symm zlY)) (.cons (z7 (y1G zlY)) .nil)))))))))))
      refine WD.d #[true,true,true,true,true,true,true,true,true,true,true,true,true,true,true,true,true,true,true,true,true,true,true,true,true,true,true,true,true,true,true,true,false,false,false,false,false,false,false,false,false,false,false,false,false] (by kernel_rfl) ?_
      refine WD.a (i:=32) (d:=57) (by kernel_rfl) rfl z2 z3 rfl rfl rfl (fun _=>yX rfl rfl) ?_
      refine WD.ys (.cons .here (.cons .here (.cons .here .nil))) ?_ zr1
      exact (.cons rfl (.cons rfl (.cons rfl (.cons rfl (.cons rfl (.cons rfl (.cons rfl (.cons rfl (.cons (z7 (Eq.symm zjs)) (.cons (z7 (y1q zjs)) .nil))))))))))
    refine WD.d #[true,true,true,true,true,true,true,true,true,true,true,true,true,true,true,true,true,true,true,true,true,true,true,true,true,true,true,true,true,true,true,true,true,false,false,false,false,false,false,false,false,false,false,false,false] (by kernel_rfl) ?_
    refine WD.a (i:=33) (d:=58) (by kernel_rfl) rfl z2 z3 rfl rfl rfl (fun _=>q_m rfl) ?_
    refine WD.mid (fuel':=0) [(1,(.int .i64 z3g)),(2,(.slice z3h zw.length z3i)),(3,(.pointer (some ⟨z8H,0,none⟩))),(7,(.map (some z8I))),(9,(.pointer (some ⟨zb9,0,none⟩))),(11,(.slice z3h zw.length z3i)),(12,(.int .i64 ((zw.length : Nat) : Int))),(13,(.int .i64 zD)),(58,(.bool (((decide ((yE z1S ((nth zw zD).fNode) 0) = 0)) || (decide ((yE z1S ((nth zw zD).fNext) 0) > 0))) || (((decide (zD > 0)) && (decide (((nth zw zD).fNode) ≠ ((nth zw 0).fNode)))) && (decide (((nth zw zD).fNode) < ((zO.fModules.length : Nat) : Int))))))),(69,(.bool zlQ))] (yJ 45 [44,43,42,41,40,39,38,37,36,35,34,33,32,31,30,29,28,27,26,25,24,23,22,21,20,19,18,17,16,15,14,13,12,11,10,9,8,7,6,5,4,3,2,1,0]) ?_ (fun zr4=>?_)
    rotate_left
    ·rcases Bool.eq_false_or_eq_true (((decide ((yE z1S ((nth zw zD).fNode) 0) = 0)) || (decide ((yE z1S ((nth zw zD).fNext) 0) > 0))) || (((decide (zD > 0)) && (decide (((nth zw zD).fNode) ≠ ((nth zw 0).fNode)))) && (decide (((nth zw zD).fNode) < ((zO.fModules.length : Nat) : Int))))) with hb' | hb'
     ·have zlZ:=hb'; clear hb'
      have zm0:=ym zqZ zlZ
      replace zm0:=Option.some.inj zm0
      refine WD.pin (i:=58) rfl zlZ ?_
      refine WD.b (i:=34) (d:=59) (by kernel_rfl) rfl z2 z3 rfl rfl rfl ?_
      refine WD.b (i:=35) (d:=60) (by kernel_rfl) rfl z2 z3 rfl rfl rfl ?_
      refine WD.b (i:=36) (d:=61) (by kernel_rfl) rfl z2 z3 rfl rfl rfl ?_
      refine WD.b (i:=37) (d:=62) (by kernel_rfl) rfl z2 z3 rfl rfl rfl ?_
      refine WD.b (i:=38) (d:=63) (by kernel_rfl) rfl z2 z3 rfl rfl rfl ?_
      refine WD.b (i:=39) (d:=64) (by kernel_rfl) rfl z2 z3 rfl rfl rfl ?_
      refine WD.b (i:=40) (d:=65) (by kernel_rfl) rfl z2 z3 rfl rfl rfl ?_
      refine WD.b (i:=41) (d:=66) (by kernel_rfl) rfl z2 z3 rfl rfl rfl ?_
      refine WD.b (i:=42) (d:=67) (by kernel_rfl) rfl z2 z3 rfl rfl rfl ?_
      refine WD.b (i:=43) (d:=68) (by kernel_rfl) rfl z2 z3 rfl rfl rfl ?_
      refine WD.a (i:=44) (d:=69) (by kernel_rfl) rfl z2 z3 rfl rfl rfl (fun _=>yW rfl rfl) ?_
      refine WD.ys (.cons .here (.cons .here (.cons .here .nil))) ?_ zr4
      exact (.cons rfl (.cons rfl (.cons rfl (.cons rfl (.cons rfl (.cons rfl (.cons rfl (.cons rfl (.cons (z7 (Eq.symm zlZ)) (.cons (z7 zm0) .nil))))))))))
     ·have zm1:=hb'; clear hb'
      have zgY:=yn zqZ zm1
      obtain ⟨zqX,zxp,zgY⟩:=zg zgY
      replace zgY:=Option.some.inj zgY
      refine WD.pin (i:=58) rfl zm1 ?_
      refine WD.e (i:=34) (d:=59) (by kernel_rfl) rfl z2 z3 rfl rfl rfl (yx y1f rfl (yQ .here) rfl) ?_
      refine WD.a (i:=35) (d:=60) (by kernel_rfl) rfl z2 z3 rfl rfl rfl (fun _=>q_m rfl) ?_
      refine WD.a (i:=36) (d:=61) (by kernel_rfl) rfl z2 z3 rfl rfl rfl (fun _=>ya y4W rfl rfl) ?_
      refine WD.e (i:=37) (d:=62) (by kernel_rfl) rfl z2 z3 rfl rfl rfl (yb yd rfl (yc .h2 rfl)) ?_
      refine WD.a (i:=38) (d:=63) (by kernel_rfl) rfl z2 z3 rfl rfl rfl (fun _=>ya y1E rfl rfl) ?_
      refine WD.e (i:=39) (d:=64) (by kernel_rfl) rfl z2 z3 rfl rfl rfl (yb yd rfl (yc .h2 rfl)) ?_
      refine WD.a (i:=40) (d:=65) (by kernel_rfl) rfl z2 z3 rfl rfl rfl (fun _=>ya y3h rfl rfl) ?_
      refine WD.e (i:=41) (d:=66) (by kernel_rfl) rfl z2 z3 rfl rfl rfl (yb yd rfl (yc .h2 rfl)) ?_
      refine WD.c (i:=42) (d:=67) (by kernel_rfl) rfl z2 z3 rfl rfl rfl (zC (l:=[.tmp 59,.tmp 60,.tmp 62,.tmp 64,.tmp 66]) Try.call48 (.cons rfl (.cons rfl (.cons rfl (.cons rfl (.cons rfl .nil)))))) (cc hz .nil fun w pz ho=>y8u _ _ _ _ _ _ _ _ _ _ _ _ _ _ _ _ _ _ _ _ _ _ _ zxp w pz zx9 zxa zxb zxc zxd zxe zxf zxg) ?_
      refine WD.a (i:=43) (d:=68) (by kernel_rfl) rfl z2 z3 rfl rfl rfl (fun _=>y6X rfl) ?_
      refine WD.a (i:=44) (d:=69) (by kernel_rfl) rfl z2 z3 rfl rfl rfl (fun _=>yX rfl rfl) ?_
      refine WD.ys (.cons .here (.cons .here (.cons .here .nil))) ?_ zr4
      exact (.cons rfl (.cons rfl (.cons rfl (.cons rfl (.cons rfl (.cons rfl (.cons rfl (.cons rfl (.cons (z7 (Eq.symm zm1)) (.cons (z7 zgY) .nil))))))))))
    refine WD.d #[true,true,true,true,true,true,true,true,true,true,true,true,true,true,true,true,true,true,true,true,true,true,true,true,true,true,true,true,true,true,true,true,true,true,true,true,true,true,true,true,true,true,true,true,true] (by kernel_rfl) ?_
    refine WD.done (by kernel_rfl) ?_
    refine WX.a ?_
    refine WC.cond rfl (fun zm2=>?_) (fun zm2=>?_)
    ·replace h:=ym h zm2
     refine WC.b (WC.a (WL.pu rfl (WL.nil (WX.a (WC.ret (WX.yj (WX.yH (WX.yj (WX.yj (WX.yH (WX.yj ?_)))))))))))
     obtain rfl:=Option.some.inj h
     refine WX.yi Try.results36 (.tmp rfl .nil) (fun w hw=>?_)
     exact ⟨yM rfl,hw.sub .nil⟩
    ·replace h:=yn h zm2
     refine WC.skip (WX.a (WC.a (WL.pu rfl ?_)))
     refine WL.a (d:=71) rfl rfl rfl (ya y3h rfl rfl) ?_
     refine WL.a (d:=72) rfl rfl rfl (yb yd rfl (yc .h2 rfl)) ?_
     refine WL.a (d:=73) rfl rfl rfl (y5o (k:=((nth zw zD).fNext)) (dflt:=(0 : Int)) y6C Try.underlying125 y7M rfl rfl rfl .h1) ?_
     refine WL.pu rfl ?_
     refine WL.y1e rfl rfl (y6l (k:=((nth zw zD).fNext)) (v:=i64 ((yE z1S ((nth zw zD).fNext) 0) + 1)) y6C Try.underlying125 rfl rfl rfl rfl .h1) ?_
     refine WL.nil (WX.yk (WX.a (WC.a (WL.pu rfl (WL.pu rfl (WL.nil ?_))))))
     exact WX.round (G:=Nat × Int × (List (Int × Int))) ⟨zlP,(i64 (zD + 1)),(y1b z1S ((nth zw zD).fNext) (i64 ((yE z1S ((nth zw zD).fNext) 0) + 1)))⟩ h (Nat.lt_succ_self _) (.cons rfl (.cons rfl (.cons rfl (.cons rfl (.cons rfl (.cons rfl (.cons rfl .nil))))))) (.cons .h1 (.cons .here .nil))
  ·replace h:=yn h zlR
   refine WC.exit (WX.yg (WX.yg (WX.yv ?_)))
   exact WX.mid (G:=Unit) () h (.cons rfl .nil) .nil
 ·rintro  h
  replace h:=zxh.symm.trans h
  refine WC.b (WC.a (WL.pu rfl ?_))
  refine WL.a (d:=77) rfl rfl rfl (yz Try.underlying55 rfl) ?_
  refine WL.pu rfl (WL.pu rfl (WL.nil (WX.a (WC.ret ?_))))
  obtain rfl:=Option.some.inj h
  refine WX.yi Try.results36 (.tmp rfl .nil) (fun w hw=>?_)
  exact ⟨yM rfl,hw.sub .nil⟩
def y1a (zba : List Sapi_Hop) (z3j : Sapi_Config) (zju : Int) : Option Bool :=
 (y41 z3j zju zba).bind fun zr5=>some (!zr5)
set_option maxRecDepth 20000 in
theorem y7T (Z : Zp) (zjv : Option Addr) (zjw : Nat) (zjx : Addr) (zr6 : Option Addr) (zr7 : Nat) (zr8 : Option Addr) (zr9 : Nat) (zra : Option Addr) (zrb : Nat) (zrc : Option Addr) (zrd : Nat) (zre : Option Addr) (zrf : Nat) (zrg : Option Addr) (zrh : Nat) (zri : Option Addr) (zrj : Nat) (zrk : Option Addr) (zrl : Nat) (zjy : Addr) (zba : List Sapi_Hop) (z3j : Sapi_Config) (zju : Int) (r : Bool)
  (h : y1a zba z3j zju = some r) (w₀ : World) (hz : PZ [] w₀ Z)
  (zxq : ZS Z 3 (fun r x=>r = e59 x) zjv zjw zba)
  (zxr : ZS Z 4 (y2i Z) zr6 zr7 z3j.fModules)
  (zxs : ZS Z 4 (y2R Z) zr8 zr9 z3j.fChannels)
  (zxt : ZS Z 4 (fun r x=>r = e64 x) zra zrb z3j.fSwitches)
  (zxu : ZS Z 4 (fun r x=>r = e62 x) zrc zrd z3j.fLinks)
  (zxv : ZS Z 7 (y2A Z) zre zrf z3j.fVLs)
  (zxw : ZS Z 5 (fun r x=>r = y2T x) zrg zrh z3j.fHealth)
  (zxx : ZS Z 3 (y2S Z) zri zrj z3j.fCauses)
  (zxy : ZS Z 4 (fun r x=>r = y2U x) zrk zrl z3j.fVersions)
  (zxz : ZC Z zjx [(.slice zr6 z3j.fModules.length zr7),(.slice zr8 z3j.fChannels.length zr9),(.slice zra z3j.fSwitches.length zrb),(.slice zrc z3j.fLinks.length zrd),(.slice zre z3j.fVLs.length zrf),(.slice zrg z3j.fHealth.length zrh),(.slice zri z3j.fCauses.length zrj),(.slice zrk z3j.fVersions.length zrl)])
  (zxA : ZC Z zjy [(.int .i64 zju)]) :
  Calls Try.prog 35 #[(.slice zjv zba.length zjw),(.pointer (some zjx)),(.pointer (some zjy))] w₀ fun e w'=>e = .returned (.bool r) ∧ Hp [] w₀ w' []:=by
 unfold y1a at h
 refine Calls.yp (vs:=[(.slice zjv zba.length zjw),(.pointer (some zjx)),(.pointer (some zjy))]) (pre:=[]) (env:=[(0,(.slice zjv zba.length zjw)),(1,(.pointer (some zjx))),(2,(.pointer (some zjy)))]) Try.func35 rfl Try.ntmps35 rfl (Hp.nil w₀ _) rfl ?_
 refine WC.b (WC.a (WL.pu rfl (WL.nil (WX.a (WC.b ?_)))))
 obtain ⟨zr5,zxB,h⟩:=zg h
 refine WC.a ?_
 refine WL.a (d:=5) rfl rfl rfl (yx y1f rfl (y4t hz.pv zxz) rfl) ?_
 refine WL.a (d:=6) rfl rfl rfl (yb yd rfl (y4R hz.pv zxA rfl)) ?_
 refine WL.pu rfl ?_
 refine WL.b (dd:=8) rfl rfl rfl (zC (l:=[.tmp 5,.tmp 6,.tmp 7]) Try.call36 (.cons rfl (.cons rfl (.cons rfl .nil)))) .nil (cc hz .nil fun w pz ho=>y8v _ _ _ _ _ _ _ _ _ _ _ _ _ _ _ _ _ _ _ _ _ _ _ zxB w pz zxr zxs zxt zxu zxv zxw zxx zxy zxq) ?_
 refine WL.pu rfl (WL.pu rfl (WL.nil (WX.a (WC.ret ?_))))
 obtain rfl:=Option.some.inj h
 refine WX.yi Try.results35 (.tmp rfl .nil) (fun w hw=>?_)
 exact ⟨yM rfl,hw.sub .nil⟩
def yA (z3z : List (List Sapi_Hop)) (z6m : (List Sapi_Hop) → Option Bool) (z8J : Option Int) : Nat → Int → Option Int
 | 0,_=>none
 | zm3 + 1,z3L=>if decide (z3L < ((z3z.length : Nat) : Int)) then chk ((0 : Int) ≤ z3L ∧ z3L < ((z3z.length : Nat) : Int)) ((z6m (nth z3z z3L)).bind fun zm4=>if zm4 then some z3L else yA z3z z6m z8J zm3 (i64 (z3L + 1))) else z8J
theorem y3Q {n : Nat} {z3z : List (List Sapi_Hop)} {z6m : (List Sapi_Hop) → Option Bool} {z8J : Option Int} {z3L : Int} {r : Int} (h : yA z3z z6m z8J n z3L = some r) : ∃ m,n = m + 1:=by
 cases n with
 | zero=>cases h
 | succ m=>exact ⟨m,rfl⟩
def y1I (z3z : List (List Sapi_Hop)) (z6m : (List Sapi_Hop) → Option Bool) : Option Int :=
 jp0 (some (-1)) fun z8J=>yA z3z z6m z8J yw 0
set_option maxRecDepth 20000 in
theorem y4J (Z : Zp) (zgZ : Option Addr) (zh0 : Nat) (z8K : FuncId) (zbb : List Value) (z3z : List (List Sapi_Hop)) (z6m : (List Sapi_Hop) → Option Bool) (r : Int)
  (h : y1I z3z z6m = some r) (w₀ : World) (hz : PZ [] w₀ Z)
  (zxC : ZS Z 1 (p55 Z) zgZ zh0 z3z)
  (zxD : ∀ args w,(callFunc z8K args).run Try.prog w = .ok (.enter z8K args) w)
  (zxE : ∀ w : World,PZ [] w Z → ∀ (x0 : List Sapi_Hop) (ao0 : Option Addr) (cap0 : Nat) (r : Bool),ZS Z 3 (fun r x=>r = e59 x) ao0 cap0 x0 → z6m x0 = some r → Calls Try.prog z8K (([(.slice ao0 x0.length cap0)] : List Value) ++ zbb).toArray w fun e w'=>e = .returned (.bool r) ∧ Hp [] w w' []) :
  Calls Try.prog 47 #[(.slice zgZ z3z.length zh0),(.func (.func z8K) #[] (zbb).toArray)] w₀ fun e w'=>e = .returned (.int .i64 r) ∧ Hp [] w₀ w' []:=by
 unfold y1I at h
 refine Calls.yp (vs:=[(.slice zgZ z3z.length zh0),(.func (.func z8K) #[] (zbb).toArray)]) (pre:=[]) (env:=[(0,(.slice zgZ z3z.length zh0)),(1,(.func (.func z8K) #[] (zbb).toArray))]) Try.func47 rfl Try.ntmps47 rfl (Hp.nil w₀ _) rfl ?_
 refine WC.b (WC.a (WL.pu rfl (WL.nil (WX.a ?_))))
 obtain ⟨z8J,zxF,h⟩:=y2r h
 refine WC.y24 ((z8J = some r)) ([]) ([]) ?_ ?_
 ·skip
  refine WC.b (WC.a (WL.pu rfl ?_))
  refine WL.a (d:=7) rfl rfl rfl (yz Try.underlying32 rfl) ?_
  refine WL.pu rfl (WL.nil (WX.a (WC.block ?_)))
  refine WC.y33 (fun (zd2 : Nat) (z3L : Int)=>(yA z3z z6m z8J zd2 z3L = some r)) (fun (zd2 : Nat) (z3L : Int)=>[(0,(.slice zgZ z3z.length zh0)),(1,(.func (.func z8K) #[] (zbb).toArray)),(7,(.int .i64 ((z3z.length : Nat) : Int))),(8,(.int .i64 z3L))]) (fun (zd2 : Nat) (z3L : Int)=>[]) (fun (zd2 : Nat) (z3L : Int)=>zd2) ⟨yw,0⟩ h (.cons rfl (.cons rfl (.cons rfl (.cons rfl .nil)))) .nil ?_
  rintro zd2 z3L h
  obtain ⟨zm3,rfl⟩:=y3Q h
  rw [yA] at h
  refine WC.b (WC.a (WL.pu rfl (WL.nil (WX.a (WC.b ?_)))))
  refine WC.cond rfl (fun zm5=>?_) (fun zm5=>?_)
  ·replace h:=ym h zm5
   refine WC.skip (WX.a (WC.b (WC.block (WC.b (WC.a (WL.pu rfl (WL.pu rfl (WL.nil (WX.a (WC.b ?_))))))))))
   obtain ⟨zxG,h⟩:=ye h
   obtain ⟨zm4,zxH,h⟩:=zg h
   refine WC.a (WL.pu rfl (WL.pu rfl (WL.pu rfl ?_)))
   refine WL.znth (dd:=14) rfl rfl (Z:=Z) (Pr:=(p55 Z)) y5f rfl rfl zxC zxG ?_
   rintro zIb zIc zxI zId ⟨zxJ,zxK,rfl,zxL⟩
   refine WL.a (d:=15) rfl rfl rfl (yb y53 rfl (y4R hz.pv zxI rfl)) ?_
   refine WL.b (dd:=16) rfl rfl rfl (y4q (l:=[.tmp 15]) (f:=z8K) (caps:=zbb) zxD rfl (.cons rfl .nil)) .nil (fun w hw=>zxE w (hz.now hw) (nth z3z z3L) zxJ zxK zm4 zxL zxH) ?_
   refine WL.nil (WX.a ?_)
   refine WC.cond rfl (fun zm6=>?_) (fun zm6=>?_)
   ·replace h:=ym h zm6
    refine WC.b (WC.a (WL.pu rfl (WL.pu rfl (WL.nil (WX.a (WC.ret (WX.yH (WX.yj (WX.yj (WX.yH (WX.yj ?_)))))))))))
    obtain rfl:=Option.some.inj h
    refine WX.yi Try.results47 (.tmp rfl .nil) (fun w hw=>?_)
    exact ⟨yM rfl,hw.sub .nil⟩
   ·replace h:=yn h zm6
    refine WC.skip (WX.yk (WX.a (WC.a (WL.pu rfl (WL.pu rfl (WL.nil ?_))))))
    exact WX.round (G:=Nat × Int) ⟨zm3,(i64 (z3L + 1))⟩ h (Nat.lt_succ_self _) (.cons rfl (.cons rfl (.cons rfl (.cons rfl .nil)))) .nil
  ·replace h:=yn h zm5
   refine WC.exit (WX.yg (WX.yg (WX.yv ?_)))
   exact WX.mid (G:=Unit) () h .nil .nil
 ·rintro  h
  replace h:=zxF.symm.trans h
  refine WC.b (WC.a (WL.pu rfl (WL.nil (WX.a (WC.ret ?_)))))
  obtain rfl:=Option.some.inj h
  refine WX.yi Try.results47 (.tmp rfl .nil) (fun w hw=>?_)
  exact ⟨yM rfl,hw.sub .nil⟩
def y1w (zbc : List (List Sapi_Hop)) (zd3 : (List Sapi_Hop) → Option Bool) : Option Bool :=
 (y1I zbc zd3).bind fun zrm=>some (decide (zrm ≥ 0))
set_option maxRecDepth 20000 in
theorem y4j (Z : Zp) (zjz : Option Addr) (zjA : Nat) (z9Y : FuncId) (zd4 : List Value) (zbc : List (List Sapi_Hop)) (zd3 : (List Sapi_Hop) → Option Bool) (r : Bool)
  (h : y1w zbc zd3 = some r) (w₀ : World) (hz : PZ [] w₀ Z)
  (zxM : ZS Z 1 (p55 Z) zjz zjA zbc)
  (zxN : ∀ args w,(callFunc z9Y args).run Try.prog w = .ok (.enter z9Y args) w)
  (zxO : ∀ w : World,PZ [] w Z → ∀ (x0 : List Sapi_Hop) (ao0 : Option Addr) (cap0 : Nat) (r : Bool),ZS Z 3 (fun r x=>r = e59 x) ao0 cap0 x0 → zd3 x0 = some r → Calls Try.prog z9Y (([(.slice ao0 x0.length cap0)] : List Value) ++ zd4).toArray w fun e w'=>e = .returned (.bool r) ∧ Hp [] w w' []) :
  Calls Try.prog 34 #[(.slice zjz zbc.length zjA),(.func (.func z9Y) #[] (zd4).toArray)] w₀ fun e w'=>e = .returned (.bool r) ∧ Hp [] w₀ w' []:=by
 unfold y1w at h
 refine Calls.yp (vs:=[(.slice zjz zbc.length zjA),(.func (.func z9Y) #[] (zd4).toArray)]) (pre:=[]) (env:=[(0,(.slice zjz zbc.length zjA)),(1,(.func (.func z9Y) #[] (zd4).toArray))]) Try.func34 rfl Try.ntmps34 rfl (Hp.nil w₀ _) rfl ?_
 refine WC.b (WC.a (WL.pu rfl (WL.nil (WX.a (WC.b ?_)))))
 obtain ⟨zrm,zxP,h⟩:=zg h
 refine WC.a (WL.pu rfl (WL.pu rfl ?_))
 refine WL.b (dd:=7) rfl rfl rfl (zC (l:=[.tmp 5,.tmp 6]) Try.call47 (.cons rfl (.cons rfl .nil))) .nil (cc hz .nil fun w pz ho=>y4J _ _ _ (z8K:=z9Y) (zbb:=zd4) _ (z6m:=zd3) _ zxP w pz zxM zxN zxO) ?_
 refine WL.pu rfl (WL.pu rfl (WL.nil (WX.a (WC.ret ?_))))
 obtain rfl:=Option.some.inj h
 refine WX.yi Try.results34 (.tmp rfl .nil) (fun w hw=>?_)
 exact ⟨yM rfl,hw.sub .nil⟩
def y3i (z1f : Sapi_Config) (z44 : Int) (z5B : List (List Sapi_Hop)) : Option Bool :=
 (if (((decide (z44 = 0)) || (decide (z44 = 1))) && (decide (((z5B.length : Nat) : Int) = ((z1f.fVLs.length : Nat) : Int)))) && (decide (((z5B.length : Nat) : Int) ≤ 16)) then (y1w z5B (fun (y0 : List Sapi_Hop)=>y1a y0 z1f z44)).bind fun zrn=>some (!zrn) else some false).bind fun zm7=>some zm7
set_option maxRecDepth 20000 in
theorem y6g (Z : Zp) (zh1 : Option Addr) (zh2 : Nat) (zh3 : Option Addr) (zh4 : Nat) (zh5 : Option Addr) (zh6 : Nat) (zh7 : Option Addr) (zh8 : Nat) (zh9 : Option Addr) (zha : Nat) (zhb : Option Addr) (zhc : Nat) (zhd : Option Addr) (zhe : Nat) (zhf : Option Addr) (zhg : Nat) (zjB : Option Addr) (zjC : Nat) (z1f : Sapi_Config) (z44 : Int) (z5B : List (List Sapi_Hop)) (r : Bool)
  (h : y3i z1f z44 z5B = some r) (w₀ : World) (hz : PZ [] w₀ Z)
  (zxQ : ZS Z 4 (y2i Z) zh1 zh2 z1f.fModules)
  (zxR : ZS Z 4 (y2R Z) zh3 zh4 z1f.fChannels)
  (zxS : ZS Z 4 (fun r x=>r = e64 x) zh5 zh6 z1f.fSwitches)
  (zxT : ZS Z 4 (fun r x=>r = e62 x) zh7 zh8 z1f.fLinks)
  (zxU : ZS Z 7 (y2A Z) zh9 zha z1f.fVLs)
  (zxV : ZS Z 5 (fun r x=>r = y2T x) zhb zhc z1f.fHealth)
  (zxW : ZS Z 3 (y2S Z) zhd zhe z1f.fCauses)
  (zxX : ZS Z 4 (fun r x=>r = y2U x) zhf zhg z1f.fVersions)
  (zxY : ZS Z 1 (p55 Z) zjB zjC z5B) :
  Calls Try.prog 15 #[(.agg #[(.slice zh1 z1f.fModules.length zh2),(.slice zh3 z1f.fChannels.length zh4),(.slice zh5 z1f.fSwitches.length zh6),(.slice zh7 z1f.fLinks.length zh8),(.slice zh9 z1f.fVLs.length zha),(.slice zhb z1f.fHealth.length zhc),(.slice zhd z1f.fCauses.length zhe),(.slice zhf z1f.fVersions.length zhg)]),(.int .i64 z44),(.slice zjB z5B.length zjC)] w₀ fun e w'=>e = .returned (.bool r) ∧ Hp [] w₀ w' []:=by
 unfold y3i at h
 refine Calls.yp (vs:=[(.agg #[(.slice zh1 z1f.fModules.length zh2),(.slice zh3 z1f.fChannels.length zh4),(.slice zh5 z1f.fSwitches.length zh6),(.slice zh7 z1f.fLinks.length zh8),(.slice zh9 z1f.fVLs.length zha),(.slice zhb z1f.fHealth.length zhc),(.slice zhd z1f.fCauses.length zhe),(.slice zhf z1f.fVersions.length zhg)]),(.int .i64 z44),(.slice zjB z5B.length zjC)]) (pre:=[]) (env:=[(0,(.agg #[(.slice zh1 z1f.fModules.length zh2),(.slice zh3 z1f.fChannels.length zh4),(.slice zh5 z1f.fSwitches.length zh6),(.slice zh7 z1f.fLinks.length zh8),(.slice zh9 z1f.fVLs.length zha),(.slice zhb z1f.fHealth.length zhc),(.slice zhd z1f.fCauses.length zhe),(.slice zhf z1f.fVersions.length zhg)])),(1,(.int .i64 z44)),(2,(.slice zjB z5B.length zjC))]) Try.func15 rfl Try.ntmps15 rfl (Hp.nil w₀ _) rfl ?_
 refine WC.b (WC.a ?_)
 refine WL.new (dd:=3) rfl rfl rfl (y1N (cs:=[(.slice zh1 z1f.fModules.length zh2),(.slice zh3 z1f.fChannels.length zh4),(.slice zh5 z1f.fSwitches.length zh6),(.slice zh7 z1f.fLinks.length zh8),(.slice zh9 z1f.fVLs.length zha),(.slice zhb z1f.fHealth.length zhc),(.slice zhd z1f.fCauses.length zhe),(.slice zhf z1f.fVersions.length zhg)]) rfl rfl) ?_
 intro zxZ _
 refine WL.new (dd:=4) rfl rfl rfl (y1N (cs:=[(.int .i64 z44)]) rfl rfl) ?_
 intro zy0 _
 refine WL.pu rfl (WL.nil (WX.a (WC.b ?_)))
 obtain ⟨zm7,zro,h⟩:=zg h
 refine WC.a ?_
 refine WL.a (d:=7) rfl rfl rfl (yb yd rfl (yc .here rfl)) ?_
 refine WL.pu rfl (WL.pu rfl ?_)
 refine WL.seg false 2 9 (B:=(decide (z44 = 0)) || (decide (z44 = 1))) rfl rfl rfl rfl rfl rfl (fun h=>(y1p h).symm) (fun _ zy1=>?_) ?_
 ·skip
  refine WL.a (d:=10) rfl rfl rfl (yb yd rfl (yc .here rfl)) ?_
  refine WL.pu rfl (WL.pu rfl ?_)
  exact WL.yr (y1q zy1) rfl rfl .all
 refine WL.pu rfl ?_
 refine WL.seg true 6 13 (B:=((decide (z44 = 0)) || (decide (z44 = 1))) && (decide (((z5B.length : Nat) : Int) = ((z1f.fVLs.length : Nat) : Int)))) rfl rfl rfl rfl rfl rfl (fun h=>(y1G h).symm) (fun _ zy2=>?_) ?_
 ·skip
  refine WL.pu rfl ?_
  refine WL.a (d:=15) rfl rfl rfl (yz Try.underlying32 rfl) ?_
  refine WL.a (d:=16) rfl rfl rfl (ya y6z rfl rfl) ?_
  refine WL.a (d:=17) rfl rfl rfl (yb y6A rfl (yc .h1 rfl)) ?_
  refine WL.a (d:=18) rfl rfl rfl (yz Try.underlying26 rfl) ?_
  refine WL.pu rfl (WL.pu rfl ?_)
  exact WL.yr (y1H zy2) rfl rfl .all
 refine WL.pu rfl ?_
 refine WL.seg true 3 21 (B:=(((decide (z44 = 0)) || (decide (z44 = 1))) && (decide (((z5B.length : Nat) : Int) = ((z1f.fVLs.length : Nat) : Int)))) && (decide (((z5B.length : Nat) : Int) ≤ 16))) rfl rfl rfl rfl rfl rfl (fun h=>(y1G h).symm) (fun _ zy3=>?_) ?_
 ·skip
  refine WL.pu rfl ?_
  refine WL.a (d:=23) rfl rfl rfl (yz Try.underlying32 rfl) ?_
  refine WL.pu rfl (WL.pu rfl ?_)
  exact WL.yr (y1H zy3) rfl rfl .all
 refine WL.pu rfl ?_
 refine WL.seg true 4 26 (B:=zm7) rfl rfl rfl rfl rfl rfl (fun h=>(Option.some.inj (yn zro h)).symm) (fun _ zy4=>?_) ?_
 ·skip
  have zhh:=ym zro zy4
  obtain ⟨zrn,zy5,zhh⟩:=zg zhh
  replace zhh:=Option.some.inj zhh
  refine WL.pu rfl ?_
  refine WL.a (d:=28) rfl rfl rfl (y6Y (Eos.caps (l:=[.tmp 3,.tmp 4]) (.cons rfl (.cons rfl .nil)))) ?_
  refine WL.b (dd:=29) rfl rfl rfl (zC (l:=[.tmp 27,.tmp 28]) Try.call34 (.cons rfl (.cons rfl .nil))) .nil (ccl hz .nil (.cons .h1 (.cons .here .nil)) fun w pz ho la=>y4j _ _ _ (z9Y:=35) (zd4:=[(.pointer (some ⟨zxZ,0,none⟩)),(.pointer (some ⟨zy0,0,none⟩))]) _ (zd3:=(fun (y0 : List Sapi_Hop)=>y1a y0 z1f z44)) _ zy5 w pz ((zxY.mono (Zle.left _ _)).weak (fun _ _ h=>y2G (Zle.left _ _) h)) Try.call35 (fun w' hz' y0 ga0 gc0 r gh0 hr=>y7T _ _ _ _ _ _ _ _ _ _ _ _ _ _ _ _ _ _ _ _ _ _ _ _ _ hr w' hz' gh0 ((zxQ.mono (Zle.left _ _)).weak (fun _ _ h=>y1u (Zle.left _ _) h)) ((zxR.mono (Zle.left _ _)).weak (fun _ _ h=>y1A (Zle.left _ _) h)) (zxS.mono (Zle.left _ _)) (zxT.mono (Zle.left _ _)) ((zxU.mono (Zle.left _ _)).weak (fun _ _ h=>y1v (Zle.left _ _) h)) (zxV.mono (Zle.left _ _)) ((zxW.mono (Zle.left _ _)).weak (fun _ _ h=>y1B (Zle.left _ _) h)) (zxX.mono (Zle.left _ _)) ((la _ (.head _) _).stb) ((la _ (.tail _ (.head _)) _).stb))) ?_
  refine WL.pu rfl (WL.pu rfl ?_)
  exact WL.yr zhh rfl rfl .all
 refine WL.pu rfl (WL.nil (WX.a (WC.ret ?_)))
 obtain rfl:=Option.some.inj h
 refine WX.yi Try.results15 (.tmp rfl .nil) (fun w hw=>?_)
 exact ⟨yM rfl,hw.sub .nil⟩
def y5i (z8L : Int) : Option (Sapi_Config × List (List Sapi_Hop)) :=
 some ((⟨([(⟨⟨#[109]⟩,0,0,[]⟩ : Sapi_Module),(⟨⟨#[110]⟩,0,0,[]⟩ : Sapi_Module)] : List Sapi_Module),[],([(⟨⟨#[115]⟩,0,16,z8L⟩ : Sapi_Switch)] : List Sapi_Switch),([(⟨⟨#[109]⟩,⟨#[115]⟩,0,1⟩ : Sapi_Link),(⟨⟨#[110]⟩,⟨#[115]⟩,0,1⟩ : Sapi_Link)] : List Sapi_Link),([(⟨⟨#[]⟩,(⟨⟨#[]⟩,⟨#[]⟩,⟨#[]⟩⟩ : Sapi_Ref),0,0,[]⟩ : Sapi_VL)] : List Sapi_VL),[],[],[]⟩ : Sapi_Config),([([(⟨0,2,0⟩ : Sapi_Hop),(⟨2,1,1⟩ : Sapi_Hop)] : List Sapi_Hop)] : List (List Sapi_Hop)))
set_option maxRecDepth 20000 in
theorem y8w (Z : Zp)  (z8L : Int) (r : Sapi_Config × List (List Sapi_Hop))
  (h : y5i z8L = some r) (w₀ : World) (hz : PZ [] w₀ Z) :
  Calls Try.prog 23 #[(.int .i64 z8L)] w₀ fun e w'=>∃ Zn : Zp,∃ zrp : Option Addr,∃ zrq : Nat,∃ zrr : List Value,∃ zrs : Option Addr,∃ zrt : Nat,∃ zru : Option Addr,∃ zrv : Nat,∃ zrw : Option Addr,∃ zrx : Nat,∃ zry : Option Addr,∃ zrz : Nat,∃ zrA : List Value,∃ zrB : Option Addr,∃ zrC : Nat,∃ zrD : Option Addr,∃ zrE : Nat,∃ zrF : Option Addr,∃ zrG : Nat,∃ zrH : Option Addr,∃ zrI : Nat,∃ zrJ : List Value,e = .returned (.tuple #[(.agg #[(.slice zrp r.1.fModules.length zrq),(.slice zrs r.1.fChannels.length zrt),(.slice zru r.1.fSwitches.length zrv),(.slice zrw r.1.fLinks.length zrx),(.slice zry r.1.fVLs.length zrz),(.slice zrB r.1.fHealth.length zrC),(.slice zrD r.1.fCauses.length zrE),(.slice zrF r.1.fVersions.length zrG)]),(.slice zrH r.2.length zrI)]) ∧ ((RR 4 (y2i (Z ++ Zn)) zrr r.1.fModules) ∧ (ZS (Z ++ Zn) 4 (y2R (Z ++ Zn)) zrs zrt r.1.fChannels) ∧ (RR 7 (y2A (Z ++ Zn)) zrA r.1.fVLs) ∧ (ZS (Z ++ Zn) 5 (fun r x=>r = y2T x) zrB zrC r.1.fHealth) ∧ (ZS (Z ++ Zn) 3 (y2S (Z ++ Zn)) zrD zrE r.1.fCauses) ∧ (ZS (Z ++ Zn) 4 (fun r x=>r = y2U x) zrF zrG r.1.fVersions) ∧ (RR 1 (p55 (Z ++ Zn)) zrJ r.2)) ∧ Hp [] w₀ w' [fz Zn,row (.slice zrp r.1.fModules.length zrq) 104 4 zrr,row (.slice zru r.1.fSwitches.length zrv) 64 4 (r.1.fSwitches.flatMap e64),row (.slice zrw r.1.fLinks.length zrx) 62 4 (r.1.fLinks.flatMap e62),row (.slice zry r.1.fVLs.length zrz) 109 7 zrA,row (.slice zrH r.2.length zrI) 55 1 zrJ]:=by
 unfold y5i at h
 refine Calls.yp (vs:=[(.int .i64 z8L)]) (pre:=[]) (env:=[(0,(.int .i64 z8L))]) Try.func23 rfl Try.ntmps23 rfl (Hp.nil w₀ _) rfl ?_
 refine WC.pool (WC.b (WC.a ?_))
 refine WL.new (dd:=2) rfl rfl rfl (y28 (cs:=[(.slice none 0 0),(.slice none 0 0),(.slice none 0 0),(.slice none 0 0),(.slice none 0 0),(.slice none 0 0),(.slice none 0 0),(.slice none 0 0)]) y87 rfl) ?_
 intro zIe _
 refine WL.pu rfl (WL.nil (WX.a (WC.b (WC.a ?_))))
 refine WL.a (d:=5) rfl rfl rfl (y1n (v:=(.agg #[(.string ⟨#[109]⟩),(.int .i64 0),(.int .i64 0),(.slice none 0 0)])) (Eos.parts (l:=[.const (.string ⟨#[109]⟩)]) (.cons rfl .nil) [0]) (fun _=>by kernel_rfl)) ?_
 refine WL.a (d:=6) rfl rfl rfl (y1n (v:=(.agg #[(.string ⟨#[110]⟩),(.int .i64 0),(.int .i64 0),(.slice none 0 0)])) (Eos.parts (l:=[.const (.string ⟨#[110]⟩)]) (.cons rfl .nil) [0]) (fun _=>by kernel_rfl)) ?_
 have zy6 : RR 4 (y2i (Z ++ [])) [(.string ⟨#[109]⟩),(.int .i64 0),(.int .i64 0),(.slice none 0 0),(.string ⟨#[110]⟩),(.int .i64 0),(.int .i64 0),(.slice none 0 0)] ([(⟨⟨#[109]⟩,0,0,[]⟩ : Sapi_Module),(⟨⟨#[110]⟩,0,0,[]⟩ : Sapi_Module)] : List Sapi_Module):=(RR.cons (r:=[(.string ⟨#[109]⟩),(.int .i64 0),(.int .i64 0),(.slice none 0 0)]) rfl (show y2i _ _ _ from ⟨_,_,rfl,(ZS.nil _ _ _)⟩) (RR.cons (r:=[(.string ⟨#[110]⟩),(.int .i64 0),(.int .i64 0),(.slice none 0 0)]) rfl (show y2i _ _ _ from ⟨_,_,rfl,(ZS.nil _ _ _)⟩) (RR.nil _ _)))
 refine WL.new (dd:=7) rfl rfl rfl (yC (cs:=[(.string ⟨#[109]⟩),(.int .i64 0),(.int .i64 0),(.slice none 0 0),(.string ⟨#[110]⟩),(.int .i64 0),(.int .i64 0),(.slice none 0 0)]) y9J (Eos.parts (l:=[.tmp 5,.tmp 6]) (.cons rfl (.cons rfl .nil)) [0,1]) (fun _=>by kernel_rfl) rfl (by unfold maxLen; omega)) ?_
 intro zrK _
 refine WL.pu rfl ?_
 refine WL.a (d:=9) rfl rfl rfl (y1n (v:=(.agg #[(.string ⟨#[115]⟩),(.int .i64 0),(.int .i64 16),(.int .i64 z8L)])) (Eos.parts (l:=[.const (.string ⟨#[115]⟩),.const (.int .i64 16),.tmp 8]) (.cons rfl (.cons rfl (.cons rfl .nil))) [0,2,3]) (fun _=>by kernel_rfl)) ?_
 refine WL.new (dd:=10) rfl rfl rfl (yC (cs:=([(⟨⟨#[115]⟩,0,16,z8L⟩ : Sapi_Switch)] : List Sapi_Switch).flatMap e64) y5h (Eos.parts (l:=[.tmp 9]) (.cons rfl .nil) [0]) (fun _=>by kernel_rfl) rfl (by unfold maxLen; omega)) ?_
 intro zrL _
 refine WL.a (d:=11) rfl rfl rfl (y1n (v:=(.agg #[(.string ⟨#[109]⟩),(.string ⟨#[115]⟩),(.int .i64 0),(.int .i64 1)])) (Eos.parts (l:=[.const (.string ⟨#[109]⟩),.const (.string ⟨#[115]⟩),.const (.int .i64 1)]) (.cons rfl (.cons rfl (.cons rfl .nil))) [0,1,3]) (fun _=>by kernel_rfl)) ?_
 refine WL.a (d:=12) rfl rfl rfl (y1n (v:=(.agg #[(.string ⟨#[110]⟩),(.string ⟨#[115]⟩),(.int .i64 0),(.int .i64 1)])) (Eos.parts (l:=[.const (.string ⟨#[110]⟩),.const (.string ⟨#[115]⟩),.const (.int .i64 1)]) (.cons rfl (.cons rfl (.cons rfl .nil))) [0,1,3]) (fun _=>by kernel_rfl)) ?_
 refine WL.new (dd:=13) rfl rfl rfl (yC (cs:=([(⟨⟨#[109]⟩,⟨#[115]⟩,0,1⟩ : Sapi_Link),(⟨⟨#[110]⟩,⟨#[115]⟩,0,1⟩ : Sapi_Link)] : List Sapi_Link).flatMap e62) y5g (Eos.parts (l:=[.tmp 11,.tmp 12]) (.cons rfl (.cons rfl .nil)) [0,1]) (fun _=>by kernel_rfl) rfl (by unfold maxLen; omega)) ?_
 intro zrM _
 refine WL.a (d:=14) rfl rfl rfl (y1n (v:=(.agg #[(.string ⟨#[]⟩),(.string ⟨#[]⟩),(.string ⟨#[]⟩),(.string ⟨#[]⟩),(.int .i64 0),(.int .i64 0),(.slice none 0 0)])) (Eos.parts (l:=[]) .nil []) (fun _=>by kernel_rfl)) ?_
 have zy7 : RR 7 (y2A (Z ++ [])) [(.string ⟨#[]⟩),(.string ⟨#[]⟩),(.string ⟨#[]⟩),(.string ⟨#[]⟩),(.int .i64 0),(.int .i64 0),(.slice none 0 0)] ([(⟨⟨#[]⟩,(⟨⟨#[]⟩,⟨#[]⟩,⟨#[]⟩⟩ : Sapi_Ref),0,0,[]⟩ : Sapi_VL)] : List Sapi_VL):=(RR.cons (r:=[(.string ⟨#[]⟩),(.string ⟨#[]⟩),(.string ⟨#[]⟩),(.string ⟨#[]⟩),(.int .i64 0),(.int .i64 0),(.slice none 0 0)]) rfl (show y2A _ _ _ from ⟨_,_,rfl,(ZS.nil _ _ _)⟩) (RR.nil _ _))
 refine WL.new (dd:=15) rfl rfl rfl (yC (cs:=[(.string ⟨#[]⟩),(.string ⟨#[]⟩),(.string ⟨#[]⟩),(.string ⟨#[]⟩),(.int .i64 0),(.int .i64 0),(.slice none 0 0)]) elT_26 (Eos.parts (l:=[.tmp 14]) (.cons rfl .nil) [0]) (fun _=>by kernel_rfl) rfl (by unfold maxLen; omega)) ?_
 intro zrN _
 refine WL.a (d:=16) rfl rfl rfl (y1n (v:=(.agg #[(.slice (some ⟨zrK,0,none⟩) (([(⟨⟨#[109]⟩,0,0,[]⟩ : Sapi_Module),(⟨⟨#[110]⟩,0,0,[]⟩ : Sapi_Module)] : List Sapi_Module).length) 2),(.slice none 0 0),(.slice (some ⟨zrL,0,none⟩) (([(⟨⟨#[115]⟩,0,16,z8L⟩ : Sapi_Switch)] : List Sapi_Switch).length) 1),(.slice (some ⟨zrM,0,none⟩) (([(⟨⟨#[109]⟩,⟨#[115]⟩,0,1⟩ : Sapi_Link),(⟨⟨#[110]⟩,⟨#[115]⟩,0,1⟩ : Sapi_Link)] : List Sapi_Link).length) 2),(.slice (some ⟨zrN,0,none⟩) (([(⟨⟨#[]⟩,(⟨⟨#[]⟩,⟨#[]⟩,⟨#[]⟩⟩ : Sapi_Ref),0,0,[]⟩ : Sapi_VL)] : List Sapi_VL).length) 1),(.slice none 0 0),(.slice none 0 0),(.slice none 0 0)])) (Eos.parts (l:=[.tmp 7,.tmp 10,.tmp 13,.tmp 15]) (.cons rfl (.cons rfl (.cons rfl (.cons rfl .nil)))) [0,2,3,4]) (fun _=>by kernel_rfl)) ?_
 refine WL.new (dd:=4) rfl rfl rfl (y28 (cs:=[(.slice none 0 0),(.slice none 0 0),(.slice none 0 0),(.slice none 0 0),(.slice none 0 0),(.slice none 0 0),(.slice none 0 0),(.slice none 0 0)]) y87 rfl) ?_
 intro zIf _
 refine WL.y1e rfl rfl (y1z y8M rfl rfl rfl .here rfl rfl rfl) ?_
 refine WL.nil (WX.a (WC.b (WC.a ?_)))
 refine WL.a (d:=17) rfl rfl rfl (yx y1f rfl (yQ .here) rfl) ?_
 refine WL.a (d:=18) rfl rfl rfl (y1n (v:=(.agg #[(.int .i64 0),(.int .i64 2),(.int .i64 0)])) (Eos.parts (l:=[.const (.int .i64 0),.const (.int .i64 2),.const (.int .i64 0)]) (.cons rfl (.cons rfl (.cons rfl .nil))) [0,1,2]) (fun _=>by kernel_rfl)) ?_
 refine WL.a (d:=19) rfl rfl rfl (y1n (v:=(.agg #[(.int .i64 2),(.int .i64 1),(.int .i64 1)])) (Eos.parts (l:=[.const (.int .i64 2),.const (.int .i64 1),.const (.int .i64 1)]) (.cons rfl (.cons rfl (.cons rfl .nil))) [0,1,2]) (fun _=>by kernel_rfl)) ?_
 refine WL.new (dd:=20) rfl rfl rfl (yC (cs:=([(⟨0,2,0⟩ : Sapi_Hop),(⟨2,1,1⟩ : Sapi_Hop)] : List Sapi_Hop).flatMap e59) y2p (Eos.parts (l:=[.tmp 18,.tmp 19]) (.cons rfl (.cons rfl .nil)) [0,1]) (fun _=>by kernel_rfl) rfl (by unfold maxLen; omega)) ?_
 intro zjD _
 refine WL.freezeS (ls:=([(⟨0,2,0⟩ : Sapi_Hop),(⟨2,1,1⟩ : Sapi_Hop)] : List Sapi_Hop)) .here .h6 hz (RR.y19 (enc:=e59) (fun _=>rfl) _) ?_
 intro zrO zrP zy8
 have zy9 : RR 1 (p55 (Z ++ zrO)) [(.slice (some ⟨zjD,0,none⟩) (([(⟨0,2,0⟩ : Sapi_Hop),(⟨2,1,1⟩ : Sapi_Hop)] : List Sapi_Hop).length) 2)] ([([(⟨0,2,0⟩ : Sapi_Hop),(⟨2,1,1⟩ : Sapi_Hop)] : List Sapi_Hop)] : List (List Sapi_Hop)):=(RR.cons (r:=[(.slice (some ⟨zjD,0,none⟩) (([(⟨0,2,0⟩ : Sapi_Hop),(⟨2,1,1⟩ : Sapi_Hop)] : List Sapi_Hop).length) 2)]) rfl (show p55 _ _ _ from ⟨_,_,rfl,zy8⟩) (RR.nil _ _))
 refine WL.new (dd:=21) rfl rfl rfl (yC (cs:=[(.slice (some ⟨zjD,0,none⟩) (([(⟨0,2,0⟩ : Sapi_Hop),(⟨2,1,1⟩ : Sapi_Hop)] : List Sapi_Hop).length) 2)]) y5f (Eos.parts (l:=[.tmp 20]) (.cons rfl .nil) [0]) (fun _=>by kernel_rfl) rfl (by unfold maxLen; omega)) ?_
 intro zya _
 refine WL.y1e rfl rfl (y1z y8M rfl rfl rfl .h7 rfl rfl rfl) ?_
 refine WL.pu rfl (WL.nil (WX.a (WC.ret ?_)))
 obtain rfl:=Option.some.inj h
 refine WX.yi Try.results23 (.agg rfl y1f rfl (yQ .here) (.tmp rfl .nil)) (fun w hw=>?_)
 exact ⟨zrO,(some ⟨zrK,0,none⟩),2,[(.string ⟨#[109]⟩),(.int .i64 0),(.int .i64 0),(.slice none 0 0),(.string ⟨#[110]⟩),(.int .i64 0),(.int .i64 0),(.slice none 0 0)],none,0,(some ⟨zrL,0,none⟩),1,(some ⟨zrM,0,none⟩),2,(some ⟨zrN,0,none⟩),1,[(.string ⟨#[]⟩),(.string ⟨#[]⟩),(.string ⟨#[]⟩),(.string ⟨#[]⟩),(.int .i64 0),(.int .i64 0),(.slice none 0 0)],none,0,none,0,none,0,(some ⟨zya,0,none⟩),1,[(.slice (some ⟨zjD,0,none⟩) (([(⟨0,2,0⟩ : Sapi_Hop),(⟨2,1,1⟩ : Sapi_Hop)] : List Sapi_Hop).length) 2)],ret2 rfl rfl,⟨(zy6.weak (fun _ _ h=>y1u zrP h)),(ZS.nil _ _ _),(zy7.weak (fun _ _ h=>y1v zrP h)),(ZS.nil _ _ _),(ZS.nil _ _ _),(ZS.nil _ _ _),zy9⟩,hw.sub (.cons .h2 (.cons .h6 (.cons .h5 (.cons .h4 (.cons .h3 (.cons .h1 .nil))))))⟩
end Go.Proofs.Ytinchjigeakocaa
