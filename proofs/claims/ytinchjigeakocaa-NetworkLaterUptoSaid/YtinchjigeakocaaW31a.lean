/- A part of this claim's proof: models of functions, walks, plain laws. No conditions. -/
import Derived.Test.YtinchjigeakocaaZSortF
import Derived.Test.YtinchjigeakocaaZUnroll
import Derived.Test.YtinchjigeakocaaZEnt
import Derived.Test.YtinchjigeakocaaProg
namespace Go.Proofs.Ytinchjigeakocaa
open Go Go.RowKit Sep
set_option linter.all false
set_option maxRecDepth 30000
set_option maxHeartbeats 4000000
structure Sapi_Port where
  fName : ByteArray
  fKind : Int
  fOut : Bool
  fSize : Int
  fDepth : Int
  fRefresh : Int
  deriving Inhabited,DecidableEq
structure Sapi_Ins where
  fOp : Int
  fA : Int
  fB : Int
  fC : Int
  deriving Inhabited,DecidableEq
structure Sapi_Proc where
  fName : ByteArray
  fPrio : Int
  fPeriod : Int
  fLimit : Int
  fCode : List Sapi_Ins
  deriving Inhabited,DecidableEq
structure Sapi_Part where
  fName : ByteArray
  fPeriod : Int
  fLength : Int
  fMem : Int
  fSemas : List Int
  fEvents : Int
  fBoards : Int
  fBufs : List Int
  fPorts : List Sapi_Port
  fProcs : List Sapi_Proc
  deriving Inhabited,DecidableEq
structure Sapi_Module where
  fName : ByteArray
  fMem : Int
  fFrame : Int
  fParts : List Sapi_Part
  deriving Inhabited,DecidableEq
structure Sapi_Ref where
  fModule : ByteArray
  fPart : ByteArray
  fPort : ByteArray
  deriving Inhabited,DecidableEq
structure Sapi_Channel where
  fFrom : Sapi_Ref
  fTo : List Sapi_Ref
  deriving Inhabited,DecidableEq
structure Sapi_Switch where
  fName : ByteArray
  fNet : Int
  fDelay : Int
  fStore : Int
  deriving Inhabited,DecidableEq
structure Sapi_Link where
  fA : ByteArray
  fB : ByteArray
  fNet : Int
  fSlow : Int
  deriving Inhabited,DecidableEq
structure Sapi_VL where
  fName : ByteArray
  fFrom : Sapi_Ref
  fBag : Int
  fMax : Int
  fTo : List Sapi_Ref
  deriving Inhabited,DecidableEq
structure Sapi_Health where
  fModule : ByteArray
  fPart : ByteArray
  fFault : Int
  fLevel : Int
  fDo : Int
  deriving Inhabited,DecidableEq
structure Sapi_Report where
  fUnit : ByteArray
  fCode : Int
  deriving Inhabited,DecidableEq
structure Sapi_Cause where
  fUnit : ByteArray
  fNeeds : List Sapi_Report
  fUnless : List ByteArray
  deriving Inhabited,DecidableEq
structure Sapi_Version where
  fA : ByteArray
  fVA : Int
  fB : ByteArray
  fVB : Int
  deriving Inhabited,DecidableEq
structure Sapi_Config where
  fModules : List Sapi_Module
  fChannels : List Sapi_Channel
  fSwitches : List Sapi_Switch
  fLinks : List Sapi_Link
  fVLs : List Sapi_VL
  fHealth : List Sapi_Health
  fCauses : List Sapi_Cause
  fVersions : List Sapi_Version
  deriving Inhabited,DecidableEq
def e3 (x : Int) : List Value:=[(.int .i64 x)]
def e191 (x : Sapi_Port) : List Value:=[(.string x.fName),(.int .u8 x.fKind),(.bool x.fOut),(.int .i64 x.fSize),(.int .i64 x.fDepth),(.int .i64 x.fRefresh)]
def e196 (x : Sapi_Ins) : List Value:=[(.int .u8 x.fOp),(.int .i64 x.fA),(.int .i64 x.fB),(.int .i64 x.fC)]
def p194 (Z : Zp) (r : List Value) (x : Sapi_Proc) : Prop:=∃ (ao0 : Option Addr) (cap0 : Nat),r = [(.string x.fName),(.int .i64 x.fPrio),(.int .i64 x.fPeriod),(.int .i64 x.fLimit),(.slice ao0 x.fCode.length cap0)] ∧ ZS Z 4 (fun r x=>r = e196 x) ao0 cap0 x.fCode
theorem y83 {Z Z' : Zp} (k : Zle Z Z') {r : List Value} {x : Sapi_Proc} (h : p194 Z r x) : p194 Z' r x:=by
  obtain ⟨ao0,cap0,hr,h0⟩:=h
  exact ⟨ao0,cap0,hr,h0.mono k⟩
def p186 (Z : Zp) (r : List Value) (x : Sapi_Part) : Prop:=∃ (ao0 : Option Addr) (cap0 : Nat) (ao1 : Option Addr) (cap1 : Nat) (ao2 : Option Addr) (cap2 : Nat) (ao3 : Option Addr) (cap3 : Nat),r = [(.string x.fName),(.int .i64 x.fPeriod),(.int .i64 x.fLength),(.int .i64 x.fMem),(.slice ao0 x.fSemas.length cap0),(.int .i64 x.fEvents),(.int .i64 x.fBoards),(.slice ao1 x.fBufs.length cap1),(.slice ao2 x.fPorts.length cap2),(.slice ao3 x.fProcs.length cap3)] ∧ ZS Z 1 (fun r x=>r = e3 x) ao0 cap0 x.fSemas ∧ ZS Z 1 (fun r x=>r = e3 x) ao1 cap1 x.fBufs ∧ ZS Z 6 (fun r x=>r = e191 x) ao2 cap2 x.fPorts ∧ ZS Z 5 (p194 Z) ao3 cap3 x.fProcs
theorem y84 {Z Z' : Zp} (k : Zle Z Z') {r : List Value} {x : Sapi_Part} (h : p186 Z r x) : p186 Z' r x:=by
  obtain ⟨ao0,cap0,ao1,cap1,ao2,cap2,ao3,cap3,hr,h0,h1,h2,h3⟩:=h
  exact ⟨ao0,cap0,ao1,cap1,ao2,cap2,ao3,cap3,hr,h0.mono k,h1.mono k,h2.mono k,(h3.mono k).weak (fun _ _ h=>y83 k h)⟩
def y2x (Z : Zp) (r : List Value) (x : Sapi_Module) : Prop:=∃ (ao0 : Option Addr) (cap0 : Nat),r = [(.string x.fName),(.int .i64 x.fMem),(.int .i64 x.fFrame),(.slice ao0 x.fParts.length cap0)] ∧ ZS Z 10 (p186 Z) ao0 cap0 x.fParts
theorem y1E {Z Z' : Zp} (k : Zle Z Z') {r : List Value} {x : Sapi_Module} (h : y2x Z r x) : y2x Z' r x:=by
  obtain ⟨ao0,cap0,hr,h0⟩:=h
  exact ⟨ao0,cap0,hr,(h0.mono k).weak (fun _ _ h=>y84 k h)⟩
def e106 (x : Sapi_Ref) : List Value:=[(.string x.fModule),(.string x.fPart),(.string x.fPort)]
def y2S (Z : Zp) (r : List Value) (x : Sapi_Channel) : Prop:=∃ (ao0 : Option Addr) (cap0 : Nat),r = [(.string x.fFrom.fModule),(.string x.fFrom.fPart),(.string x.fFrom.fPort),(.slice ao0 x.fTo.length cap0)] ∧ ZS Z 3 (fun r x=>r = e106 x) ao0 cap0 x.fTo
theorem y1L {Z Z' : Zp} (k : Zle Z Z') {r : List Value} {x : Sapi_Channel} (h : y2S Z r x) : y2S Z' r x:=by
  obtain ⟨ao0,cap0,hr,h0⟩:=h
  exact ⟨ao0,cap0,hr,h0.mono k⟩
def e64 (x : Sapi_Switch) : List Value:=[(.string x.fName),(.int .i64 x.fNet),(.int .i64 x.fDelay),(.int .i64 x.fStore)]
def e62 (x : Sapi_Link) : List Value:=[(.string x.fA),(.string x.fB),(.int .i64 x.fNet),(.int .i64 x.fSlow)]
def y2G (Z : Zp) (r : List Value) (x : Sapi_VL) : Prop:=∃ (ao0 : Option Addr) (cap0 : Nat),r = [(.string x.fName),(.string x.fFrom.fModule),(.string x.fFrom.fPart),(.string x.fFrom.fPort),(.int .i64 x.fBag),(.int .i64 x.fMax),(.slice ao0 x.fTo.length cap0)] ∧ ZS Z 3 (fun r x=>r = e106 x) ao0 cap0 x.fTo
theorem y1F {Z Z' : Zp} (k : Zle Z Z') {r : List Value} {x : Sapi_VL} (h : y2G Z r x) : y2G Z' r x:=by
  obtain ⟨ao0,cap0,hr,h0⟩:=h
  exact ⟨ao0,cap0,hr,h0.mono k⟩
def y37 (x : Sapi_Health) : List Value:=[(.string x.fModule),(.string x.fPart),(.int .u8 x.fFault),(.int .u8 x.fLevel),(.int .u8 x.fDo)]
def e189 (x : Sapi_Report) : List Value:=[(.string x.fUnit),(.int .i64 x.fCode)]
def e9 (x : ByteArray) : List Value:=[(.string x)]
def y2T (Z : Zp) (r : List Value) (x : Sapi_Cause) : Prop:=∃ (ao0 : Option Addr) (cap0 : Nat) (ao1 : Option Addr) (cap1 : Nat),r = [(.string x.fUnit),(.slice ao0 x.fNeeds.length cap0),(.slice ao1 x.fUnless.length cap1)] ∧ ZS Z 2 (fun r x=>r = e189 x) ao0 cap0 x.fNeeds ∧ ZS Z 1 (fun r x=>r = e9 x) ao1 cap1 x.fUnless
theorem y1M {Z Z' : Zp} (k : Zle Z Z') {r : List Value} {x : Sapi_Cause} (h : y2T Z r x) : y2T Z' r x:=by
  obtain ⟨ao0,cap0,ao1,cap1,hr,h0,h1⟩:=h
  exact ⟨ao0,cap0,ao1,cap1,hr,h0.mono k,h1.mono k⟩
def y38 (x : Sapi_Version) : List Value:=[(.string x.fA),(.int .i64 x.fVA),(.string x.fB),(.int .i64 x.fVB)]
structure Sapi_Hop where
  fNode : Int
  fNext : Int
  fLink : Int
  deriving Inhabited,DecidableEq
def e59 (x : Sapi_Hop) : List Value:=[(.int .i64 x.fNode),(.int .i64 x.fNext),(.int .i64 x.fLink)]
def p55 (Z : Zp) (r : List Value) (x : List Sapi_Hop) : Prop:=∃ (ao0 : Option Addr) (cap0 : Nat),r = [(.slice ao0 x.length cap0)] ∧ ZS Z 3 (fun r x=>r = e59 x) ao0 cap0 x
theorem y3I {Z Z' : Zp} (k : Zle Z Z') {r : List Value} {x : List Sapi_Hop} (h : p55 Z r x) : p55 Z' r x:=by
  obtain ⟨ao0,cap0,hr,h0⟩:=h
  exact ⟨ao0,cap0,hr,h0.mono k⟩
structure zSt where
  fTime : Int
  fVL : Int
  fSize : Int
  deriving Inhabited,DecidableEq
def e53 (x : zSt) : List Value:=[(.int .i64 x.fTime),(.int .i64 x.fVL),(.int .i64 x.fSize)]
theorem e53_oc : ∀ x,∀ u ∈ e53 x,u.oneCell' = true:=fun _=>ocB rfl
structure S7 where
  fX : Int
  fY : Int
  fSigned : Bool
  fCode : Int
  deriving Inhabited,DecidableEq
structure S13 where
  fMsg : ByteArray
  fAddr : Int
  deriving Inhabited,DecidableEq
structure Snetwork_exit where
  fNode : Int
  fLink : Int
  deriving Inhabited,DecidableEq
def y1Q (x : Snetwork_exit) : List Value:=[(.int .i64 x.fNode),(.int .i64 x.fLink)]
structure Sport_numbers where
  fSlow : Int
  fDelay : Int
  fStore : Int
  deriving Inhabited,DecidableEq
structure Sport_frame where
  fSize : Int
  fFin : Int
  deriving Inhabited,DecidableEq
structure Sport_Port where
  fNumbers : Sport_numbers
  fNow : Int
  fLast : Int
  fFrames : List Sport_frame
  deriving Inhabited,DecidableEq
def y1Y (x : Sport_frame) : List Value:=[(.int .i64 x.fSize),(.int .i64 x.fFin)]
theorem y8Z : ∀ x,∀ u ∈ y1Y x,u.oneCell' = true:=fun _=>ocB rfl
def z15 (g : Nat × (Option Addr × Nat)) (x : Sport_Port) : List Asrt:=[stb g.1 143 [(.int .i64 x.fNumbers.fSlow),(.int .i64 x.fNumbers.fDelay),(.int .i64 x.fNumbers.fStore),(.int .i64 x.fNow),(.int .i64 x.fLast),(.slice g.2.1 x.fFrames.length g.2.2)],row (.slice g.2.1 x.fFrames.length g.2.2) 146 2 (x.fFrames.flatMap y1Y)]
structure Snetwork_event where
  fTime : Int
  fIn_ : Int
  fVl : Int
  fSent : Int
  fHop : Sapi_Hop
  deriving Inhabited,DecidableEq
def yx (x : Snetwork_event) : List Value:=[(.int .i64 x.fTime),(.int .i64 x.fIn_),(.int .i64 x.fVl),(.int .i64 x.fSent),(.int .i64 x.fHop.fNode),(.int .i64 x.fHop.fNext),(.int .i64 x.fHop.fLink)]
theorem e113_oc : ∀ x,∀ u ∈ yx x,u.oneCell' = true:=fun _=>ocB rfl
structure Sapi_Come where
  fSent : Int
  fNode : Int
  fTime : Int
  deriving Inhabited,DecidableEq
def e50 (x : Sapi_Come) : List Value:=[(.int .i64 x.fSent),(.int .i64 x.fNode),(.int .i64 x.fTime)]
theorem e50_oc : ∀ x,∀ u ∈ e50 x,u.oneCell' = true:=fun _=>ocB rfl
structure S51 where
  a0 : Int
  a1 : Int
  deriving Inhabited,DecidableEq
structure S67 where
  fAll : List Sapi_Come
  fOwn : List Sapi_Come
  deriving Inhabited,DecidableEq
structure S90 where
  fSlow : Int
  fDelay : Int
  fStore : Int
  fNow : Int
  fAt : List Int
  fSize : List Int
  fEnd : List Int
  deriving Inhabited,DecidableEq
structure S92 where
  fNode : Int
  fLink : Int
  fPort : S90
  deriving Inhabited,DecidableEq
theorem y1C : y4s Try.prog 31 8:=y45 (i:=Try.t31) Try.underlying31 rfl rfl
theorem y47 : yB Try.prog 31 0 0:=yo (i:=Try.t22) Try.underlying31 rfl rfl (by decide) rfl
theorem y48 : y3X Try.prog 22:=y30 Try.underlying22 rfl
theorem y4W : yB Try.prog 31 2 2:=yo (i:=Try.t24) Try.underlying31 rfl rfl (by decide) rfl
theorem y4X : y3X Try.prog 24:=y30 Try.underlying24 rfl
theorem y6K : yB Try.prog 31 3 3:=yo (i:=Try.t25) Try.underlying31 rfl rfl (by decide) rfl
theorem y6L : y3X Try.prog 25:=y30 Try.underlying25 rfl
theorem y6M : yB Try.prog 31 4 4:=yo (i:=Try.t26) Try.underlying31 rfl rfl (by decide) rfl
theorem y6N : y3X Try.prog 26:=y30 Try.underlying26 rfl
theorem y6y : elT Try.prog 32 55 1 24:=⟨Try.underlying32,⟨Try.t55,_,rfl,rfl,rfl,rfl,rfl⟩,by decide⟩
theorem y6O : y3X Try.prog 55:=y30 Try.underlying55 rfl
theorem yf : y3X Try.prog 3:=y30 Try.underlying3 rfl
theorem y6z : elT Try.prog 55 59 3 24:=⟨Try.underlying55,⟨Try.t59,_,rfl,rfl,rfl,rfl,rfl⟩,by decide⟩
theorem y6P : y4s Try.prog 59 3:=y45 (i:=Try.t59) Try.underlying59 rfl rfl
theorem y8q : y3o Try.prog 59 (.agg #[(.int .i64 0),(.int .i64 0),(.int .i64 0)]):=y3l (i:=Try.t59) rfl rfl
theorem y90 : y3S Try.prog 59 3:=y2J (i:=Try.t59) rfl
theorem y3q : yB Try.prog 59 0 0:=yo (i:=Try.t3) Try.underlying59 rfl rfl (by decide) rfl
theorem y6Q : y3o Try.prog 3 (.int .i64 0):=y3l (i:=Try.t3) rfl rfl
theorem y5E : KeyT Try.prog 3 (Value.int .i64):=keyT_int Try.underlying3
theorem y4Y : yB Try.prog 59 1 1:=yo (i:=Try.t3) Try.underlying59 rfl rfl (by decide) rfl
theorem y6R : yB Try.prog 59 2 2:=yo (i:=Try.t3) Try.underlying59 rfl rfl (by decide) rfl
theorem y8r : elT Try.prog 25 62 4 48:=⟨Try.underlying25,⟨Try.t62,_,rfl,rfl,rfl,rfl,rfl⟩,by decide⟩
theorem aggT_62 : y4s Try.prog 62 4:=y45 (i:=Try.t62) Try.underlying62 rfl rfl
theorem zeroT_62 : y3o Try.prog 62 (.agg #[(.string ⟨#[]⟩),(.string ⟨#[]⟩),(.int .i64 0),(.int .i64 0)]):=y3l (i:=Try.t62) rfl rfl
theorem sizT_62 : y3S Try.prog 62 4:=y2J (i:=Try.t62) rfl
theorem fo_62_0 : yB Try.prog 62 0 0:=yo (i:=Try.t9) Try.underlying62 rfl rfl (by decide) rfl
theorem y7o : y3X Try.prog 9:=y30 Try.underlying9 rfl
theorem elT_22 : elT Try.prog 22 104 4 56:=⟨Try.underlying22,⟨Try.t104,_,rfl,rfl,rfl,rfl,rfl⟩,by decide⟩
theorem fo_104_0 : yB Try.prog 104 0 0:=yo (i:=Try.t9) Try.underlying104 rfl rfl (by decide) rfl
theorem y6A : elT Try.prog 24 64 4 40:=⟨Try.underlying24,⟨Try.t64,_,rfl,rfl,rfl,rfl,rfl⟩,by decide⟩
theorem fo_64_0 : yB Try.prog 64 0 0:=yo (i:=Try.t9) Try.underlying64 rfl rfl (by decide) rfl
theorem fo_62_1 : yB Try.prog 62 1 1:=yo (i:=Try.t9) Try.underlying62 rfl rfl (by decide) rfl
theorem fo_62_2 : yB Try.prog 62 2 2:=yo (i:=Try.t3) Try.underlying62 rfl rfl (by decide) rfl
theorem y7D : yB Try.prog 62 3 3:=yo (i:=Try.t3) Try.underlying62 rfl rfl (by decide) rfl
theorem aggT_64 : y4s Try.prog 64 4:=y45 (i:=Try.t64) Try.underlying64 rfl rfl
theorem zeroT_64 : y3o Try.prog 64 (.agg #[(.string ⟨#[]⟩),(.int .i64 0),(.int .i64 0),(.int .i64 0)]):=y3l (i:=Try.t64) rfl rfl
theorem sizT_64 : y3S Try.prog 64 4:=y2J (i:=Try.t64) rfl
theorem fo_64_1 : yB Try.prog 64 1 1:=yo (i:=Try.t3) Try.underlying64 rfl rfl (by decide) rfl
theorem y7E : yB Try.prog 64 2 2:=yo (i:=Try.t3) Try.underlying64 rfl rfl (by decide) rfl
theorem y7F : yB Try.prog 64 3 3:=yo (i:=Try.t3) Try.underlying64 rfl rfl (by decide) rfl
theorem y41 : elT Try.prog 33 53 3 24:=⟨Try.underlying33,⟨Try.t53,_,rfl,rfl,rfl,rfl,rfl⟩,by decide⟩
theorem y5F : y4s Try.prog 53 3:=y45 (i:=Try.t53) Try.underlying53 rfl rfl
theorem y63 : y3o Try.prog 53 (.agg #[(.int .i64 0),(.int .i64 0),(.int .i64 0)]):=y3l (i:=Try.t53) rfl rfl
theorem y6S : y3S Try.prog 53 3:=y2J (i:=Try.t53) rfl
theorem y3r : yB Try.prog 53 0 0:=yo (i:=Try.t3) Try.underlying53 rfl rfl (by decide) rfl
theorem y4Z : yB Try.prog 53 1 1:=yo (i:=Try.t3) Try.underlying53 rfl rfl (by decide) rfl
theorem y5G : yB Try.prog 53 2 2:=yo (i:=Try.t3) Try.underlying53 rfl rfl (by decide) rfl
theorem y6B : elT Try.prog 56 3 1 8:=⟨Try.underlying56,⟨Try.t3,_,rfl,rfl,rfl,rfl,rfl⟩,by decide⟩
theorem y75 : y3o Try.prog 31 (.agg #[(.slice none 0 0),(.slice none 0 0),(.slice none 0 0),(.slice none 0 0),(.slice none 0 0),(.slice none 0 0),(.slice none 0 0),(.slice none 0 0)]):=y3l (i:=Try.t31) rfl rfl
theorem elT_26 : elT Try.prog 26 109 7 104:=⟨Try.underlying26,⟨Try.t109,_,rfl,rfl,rfl,rfl,rfl⟩,by decide⟩
theorem y7G : y3S Try.prog 31 8:=y2J (i:=Try.t31) rfl
theorem y91 : yB Try.prog 81 2 9:=yo (i:=Try.t33) Try.underlying81 rfl rfl (by decide) rfl
theorem y92 : y3X Try.prog 33:=y30 Try.underlying33 rfl
theorem fo_81_1 : yB Try.prog 81 1 8:=yo (i:=Try.t32) Try.underlying81 rfl rfl (by decide) rfl
theorem oneT_32 : y3X Try.prog 32:=y30 Try.underlying32 rfl
theorem y7H : yB Try.prog 81 4 11:=yo (i:=Try.t79) Try.underlying81 rfl rfl (by decide) rfl
theorem y8s (p : Option Addr) : ∀ w,(method (Try.prog.types.size + Made.depth) 111 (.pointer p) "Push").run Try.prog w = .ok (92,.pointer p) w:=fun _=>by kernel_rfl
theorem y50 : y3X Try.prog 79:=y30 Try.underlying79 rfl
theorem y4b : elT Try.prog 79 113 7 56:=⟨Try.underlying79,⟨Try.t113,_,rfl,rfl,rfl,rfl,rfl⟩,by decide⟩
theorem y93 : y3S Try.prog 79 1:=y2J (i:=Try.t79) rfl
theorem y6Z {A : Addr} {v : Value} : ∀ w : World,w.cell? A = some v → (method (Try.prog.types.size + Made.depth) 111 (.pointer (some A)) "Len").run Try.prog w = .ok (86,v) w:=fun w h=>y62 (i:=Try.t111) rfl rfl rfl rfl Try.underlying111 y50 h
theorem y59 {A : Addr} {v : Value} : ∀ w : World,w.cell? A = some v → (method (Try.prog.types.size + Made.depth) 111 (.pointer (some A)) "Less").run Try.prog w = .ok (87,v) w:=fun w h=>y62 (i:=Try.t111) rfl rfl rfl rfl Try.underlying111 y50 h
theorem z9J : y4s Try.prog 113 7:=y45 (i:=Try.t113) Try.underlying113 rfl rfl
theorem y64 : yB Try.prog 113 0 0:=yo (i:=Try.t3) Try.underlying113 rfl rfl (by decide) rfl
theorem y8t : yB Try.prog 113 1 1:=yo (i:=Try.t3) Try.underlying113 rfl rfl (by decide) rfl
theorem y8u : yB Try.prog 113 2 2:=yo (i:=Try.t3) Try.underlying113 rfl rfl (by decide) rfl
theorem y4u : yB Try.prog 113 3 3:=yo (i:=Try.t3) Try.underlying113 rfl rfl (by decide) rfl
theorem y5a {A : Addr} {v : Value} : ∀ w : World,w.cell? A = some v → (method (Try.prog.types.size + Made.depth) 111 (.pointer (some A)) "Swap").run Try.prog w = .ok (88,v) w:=fun w h=>y62 (i:=Try.t111) rfl rfl rfl rfl Try.underlying111 y50 h
theorem zdZ : y3S Try.prog 113 7:=y2J (i:=Try.t113) rfl
theorem y8O (p : Option Addr) : ∀ w,(method (Try.prog.types.size + Made.depth) 111 (.pointer p) "Pop").run Try.prog w = .ok (91,.pointer p) w:=fun _=>by kernel_rfl
theorem zjA : y3o Try.prog 113 (.agg #[(.int .i64 0),(.int .i64 0),(.int .i64 0),(.int .i64 0),(.int .i64 0),(.int .i64 0),(.int .i64 0)]):=y3l (i:=Try.t113) rfl rfl
theorem y4v : yB Try.prog 113 4 4:=yo (i:=Try.t59) Try.underlying113 rfl rfl (by decide) rfl
theorem znV : y3o Try.prog 136 (.agg #[(.int .i64 0),(.int .i64 0)]):=y3l (i:=Try.t136) rfl rfl
theorem znW : y3S Try.prog 136 2:=y2J (i:=Try.t136) rfl
theorem y7I : yB Try.prog 81 3 10:=yo (i:=Try.t77) Try.underlying81 rfl rfl (by decide) rfl
theorem y7J : y3X Try.prog 77:=y30 Try.underlying77 rfl
theorem zfQ : y4s Try.prog 136 2:=y45 (i:=Try.t136) Try.underlying136 rfl rfl
theorem zjB : y3o Try.prog 116 (.pointer none):=y3l (i:=Try.t116) rfl rfl
theorem znX : EqT Try.prog 136 y1Q:=⟨fun u v w=>by
  have i136_10000:=fun (w : World) (a b : Array Value)=>run_equalIn_agg (P:=Try.prog) w 9999 136 a b (by simp [Program.fieldsOf,Try.underlying136]) (by kernel_rfl)
  have i3_9999:=fun (w : World) (a b : Int)=>run_equalIn_int (P:=Try.prog) w 9998 3 .i64 .i64 a b Try.underlying3
  rw [i136_10000]
  simp [Program.fieldsOf,Op.eqFields,part,y1Q,i136_10000,Try.underlying136,i3_9999]
  rcases u with ⟨u1,u2⟩
  rcases v with ⟨v1,v2⟩
  by_cases h1 : u1 = v1 <;> by_cases h2 : u2 = v2 <;> simp [h1,h2],by kernel_rfl⟩
theorem zfR : KeyT Try.prog 136 (fun x=>Value.agg (y1Q x).toArray):=keyT_agg Try.underlying136 (fun _ _=>rfl) (fun b k w=>by
  have c3_9999:=fun (w : World) (a : Int)=>MapKept.run_checkKey (P:=Try.prog) (w:=w) (kt:=3) (k:=.int .i64 a) Try.underlying3 (by simp [MapKept.IsKey]) b 9998
  have ck : ∀ (w : World) (u0 : Int) (u1 : Int),(Instr.checkKey b 10000 136 (.agg #[.int .i64 u0,.int .i64 u1])).run Try.prog w = .ok () w:=fun w u0 u1=>by
    rw [show (10000 : Nat) = 9999 + 1 from rfl,Instr.checkKey]
    simp [run_underlying Try.underlying136,c3_9999,part]
  exact ck w k.fNode k.fLink)
  (fun u v w=>znX.eq u v w)
  (fun k=>by simp [Instr.sameBits,y1Q])
theorem y5H : yB Try.prog 81 0 0:=yo (i:=Try.t31) Try.underlying81 rfl rfl (by decide) rfl
theorem y65 : yB Try.prog 143 0 0:=yo (i:=Try.t140) Try.underlying143 rfl rfl (by decide) rfl
theorem y8v : yB Try.prog 140 0 0:=yo (i:=Try.t3) Try.underlying140 rfl rfl (by decide) rfl
theorem y76 : yB Try.prog 143 1 3:=yo (i:=Try.t3) Try.underlying143 rfl rfl (by decide) rfl
theorem y5I : y3S Try.prog 3 1:=y2J (i:=Try.t3) rfl
theorem y5b : yB Try.prog 143 3 5:=yo (i:=Try.t141) Try.underlying143 rfl rfl (by decide) rfl
theorem zfS : y3X Try.prog 141:=y30 Try.underlying141 rfl
theorem y8w : yB Try.prog 146 1 1:=yo (i:=Try.t3) Try.underlying146 rfl rfl (by decide) rfl
theorem z6q : elT Try.prog 141 146 2 16:=⟨Try.underlying141,⟨Try.t146,_,rfl,rfl,rfl,rfl,rfl⟩,by decide⟩
theorem z9K : y4s Try.prog 146 2:=y45 (i:=Try.t146) Try.underlying146 rfl rfl
theorem zfT : y3o Try.prog 146 (.agg #[(.int .i64 0),(.int .i64 0)]):=y3l (i:=Try.t146) rfl rfl
theorem zfU : y3S Try.prog 146 2:=y2J (i:=Try.t146) rfl
theorem zjC : y3S Try.prog 141 1:=y2J (i:=Try.t141) rfl
theorem fo_146_0 : yB Try.prog 146 0 0:=yo (i:=Try.t3) Try.underlying146 rfl rfl (by decide) rfl
theorem fo_140_2 : yB Try.prog 140 2 2:=yo (i:=Try.t3) Try.underlying140 rfl rfl (by decide) rfl
theorem fo_140_1 : yB Try.prog 140 1 1:=yo (i:=Try.t3) Try.underlying140 rfl rfl (by decide) rfl
theorem y66 : yB Try.prog 143 2 4:=yo (i:=Try.t3) Try.underlying143 rfl rfl (by decide) rfl
theorem y7K : yB Try.prog 81 6 13:=yo (i:=Try.t36) Try.underlying81 rfl rfl (by decide) rfl
theorem y6T : y3X Try.prog 36:=y30 Try.underlying36 rfl
theorem y16 : elT Try.prog 36 50 3 24:=⟨Try.underlying36,⟨Try.t50,_,rfl,rfl,rfl,rfl,rfl⟩,by decide⟩
theorem y94 : y3S Try.prog 36 1:=y2J (i:=Try.t36) rfl
theorem y7L : yB Try.prog 81 5 12:=yo (i:=Try.t36) Try.underlying81 rfl rfl (by decide) rfl
theorem y51 : yB Try.prog 50 2 2:=yo (i:=Try.t3) Try.underlying50 rfl rfl (by decide) rfl
theorem y95 : yB Try.prog 50 0 0:=yo (i:=Try.t3) Try.underlying50 rfl rfl (by decide) rfl
theorem y96 : yB Try.prog 50 1 1:=yo (i:=Try.t3) Try.underlying50 rfl rfl (by decide) rfl
theorem y2c : y4s Try.prog 50 3:=y45 (i:=Try.t50) Try.underlying50 rfl rfl
theorem y4e : y3S Try.prog 50 3:=y2J (i:=Try.t50) rfl
theorem eqT_50 : EqT Try.prog 50 e50:=⟨fun u v w=>by
  have i50_10000:=fun (w : World) (a b : Array Value)=>run_equalIn_agg (P:=Try.prog) w 9999 50 a b (by simp [Program.fieldsOf,Try.underlying50]) (by kernel_rfl)
  have i3_9999:=fun (w : World) (a b : Int)=>run_equalIn_int (P:=Try.prog) w 9998 3 .i64 .i64 a b Try.underlying3
  rw [i50_10000]
  simp [Program.fieldsOf,Op.eqFields,part,e50,i50_10000,Try.underlying50,i3_9999]
  rcases u with ⟨u1,u2,u3⟩
  rcases v with ⟨v1,v2,v3⟩
  by_cases h1 : u1 = v1 <;> by_cases h2 : u2 = v2 <;> by_cases h3 : u3 = v3 <;> simp [h1,h2,h3],by kernel_rfl⟩
def y2C (z20 : List (List Sapi_Hop)) (z6r : Option Bool) : Nat → Int → Option Bool
  | 0,_=>none
  | zfV + 1,z35=>if decide (z35 < ((z20.length : Nat) : Int)) then chk ((0 : Int) ≤ z35 ∧ z35 < ((z20.length : Nat) : Int)) (if decide ((((nth z20 z35).length : Nat) : Int) > 40) then some false else y2C z20 z6r zfV (i64 (z35 + 1))) else z6r
theorem y6l {n : Nat} {z20 : List (List Sapi_Hop)} {z6r : Option Bool} {z35 : Int} {r : Bool} (h : y2C z20 z6r n z35 = some r) : ∃ m,n = m + 1:=by
  cases n with
  | zero=>cases h
  | succ m=>exact ⟨m,rfl⟩
def y4c (c_75 : Sapi_Config) (z20 : List (List Sapi_Hop)) (z41 : List zSt) : Option Bool :=
  if (((((decide (((c_75.fModules.length : Nat) : Int) > 8)) || (decide (((c_75.fSwitches.length : Nat) : Int) > 8))) || (decide (((c_75.fLinks.length : Nat) : Int) > 20))) || (decide (((c_75.fVLs.length : Nat) : Int) > 20))) || (decide (((z20.length : Nat) : Int) > 20))) || ((decide (((z41.length : Nat) : Int) > 40)) && (decide (((z41.length : Nat) : Int) ≤ 4000))) then some false else jp0 (some true) fun z6r=>y2C z20 z6r yz 0
set_option maxRecDepth 20000 in
theorem y8P (Z : Zp) (ao_76 : Option Addr) (cap_77 : Nat) (ao_79 : Option Addr) (cap_80 : Nat) (ao_82 : Option Addr) (cap_83 : Nat) (ao_85 : Option Addr) (cap_86 : Nat) (ao_88 : Option Addr) (cap_89 : Nat) (ao_91 : Option Addr) (cap_92 : Nat) (ao_94 : Option Addr) (cap_95 : Nat) (ao_97 : Option Addr) (cap_98 : Nat) (zbD : Option Addr) (zbE : Nat) (ze0 : Option Addr) (ze1 : Nat) (c_75 : Sapi_Config) (z20 : List (List Sapi_Hop)) (z41 : List zSt) (r : Bool)
     (h : y4c c_75 z20 z41 = some r) (w₀ : World) (hz : PZ [] w₀ Z)
     (hs_78 : ZS Z 4 (y2x Z) ao_76 cap_77 c_75.fModules)
     (hs_81 : ZS Z 4 (y2S Z) ao_79 cap_80 c_75.fChannels)
     (hs_84 : ZS Z 4 (fun r x=>r = e64 x) ao_82 cap_83 c_75.fSwitches)
     (hs_87 : ZS Z 4 (fun r x=>r = e62 x) ao_85 cap_86 c_75.fLinks)
     (hs_90 : ZS Z 7 (y2G Z) ao_88 cap_89 c_75.fVLs)
     (hs_93 : ZS Z 5 (fun r x=>r = y37 x) ao_91 cap_92 c_75.fHealth)
     (hs_96 : ZS Z 3 (y2T Z) ao_94 cap_95 c_75.fCauses)
     (hs_99 : ZS Z 4 (fun r x=>r = y38 x) ao_97 cap_98 c_75.fVersions)
     (znY : ZS Z 1 (p55 Z) zbD zbE z20)
     (zuv : ZS Z 3 (fun r x=>r = e53 x) ze0 ze1 z41) :
    Calls Try.prog 10 #[(.agg #[(.slice ao_76 c_75.fModules.length cap_77),(.slice ao_79 c_75.fChannels.length cap_80),(.slice ao_82 c_75.fSwitches.length cap_83),(.slice ao_85 c_75.fLinks.length cap_86),(.slice ao_88 c_75.fVLs.length cap_89),(.slice ao_91 c_75.fHealth.length cap_92),(.slice ao_94 c_75.fCauses.length cap_95),(.slice ao_97 c_75.fVersions.length cap_98)]),(.slice zbD z20.length zbE),(.slice ze0 z41.length ze1)] w₀ fun e w'=>e = .returned (.bool r) ∧ Hp [] w₀ w' []:=by
  unfold y4c at h
  refine Calls.yl (vs:=[(.agg #[(.slice ao_76 c_75.fModules.length cap_77),(.slice ao_79 c_75.fChannels.length cap_80),(.slice ao_82 c_75.fSwitches.length cap_83),(.slice ao_85 c_75.fLinks.length cap_86),(.slice ao_88 c_75.fVLs.length cap_89),(.slice ao_91 c_75.fHealth.length cap_92),(.slice ao_94 c_75.fCauses.length cap_95),(.slice ao_97 c_75.fVersions.length cap_98)]),(.slice zbD z20.length zbE),(.slice ze0 z41.length ze1)]) (pre:=[]) (env:=[(0,(.agg #[(.slice ao_76 c_75.fModules.length cap_77),(.slice ao_79 c_75.fChannels.length cap_80),(.slice ao_82 c_75.fSwitches.length cap_83),(.slice ao_85 c_75.fLinks.length cap_86),(.slice ao_88 c_75.fVLs.length cap_89),(.slice ao_91 c_75.fHealth.length cap_92),(.slice ao_94 c_75.fCauses.length cap_95),(.slice ao_97 c_75.fVersions.length cap_98)])),(1,(.slice zbD z20.length zbE)),(2,(.slice ze0 z41.length ze1))]) Try.func10 rfl Try.ntmps10 rfl (Hp.nil w₀ _) rfl ?_
  refine WC.b (WC.a ?_)
  refine WL.new (dd:=3) rfl rfl rfl (y2g (cs:=[(.slice ao_76 c_75.fModules.length cap_77),(.slice ao_79 c_75.fChannels.length cap_80),(.slice ao_82 c_75.fSwitches.length cap_83),(.slice ao_85 c_75.fLinks.length cap_86),(.slice ao_88 c_75.fVLs.length cap_89),(.slice ao_91 c_75.fHealth.length cap_92),(.slice ao_94 c_75.fCauses.length cap_95),(.slice ao_97 c_75.fVersions.length cap_98)]) rfl rfl) ?_
  intro zuw _
  refine WL.pu rfl (WL.nil (WX.a (WC.b (WC.b (WC.a ?_)))))
  refine WL.a (d:=9) rfl rfl rfl (ya y47 rfl rfl) ?_
  refine WL.a (d:=10) rfl rfl rfl (yb y48 rfl (ye .here rfl)) ?_
  refine WL.a (d:=11) rfl rfl rfl (yW Try.underlying22 rfl) ?_
  refine WL.pu rfl (WL.pu rfl ?_)
  refine WL.seg false 4 13 (B:=(decide (((c_75.fModules.length : Nat) : Int) > 8)) || (decide (((c_75.fSwitches.length : Nat) : Int) > 8))) rfl rfl rfl rfl rfl rfl (fun h=>(y25 h).symm) (fun _ znZ=>?_) ?_
  · skip
    refine WL.a (d:=14) rfl rfl rfl (ya y4W rfl rfl) ?_
    refine WL.a (d:=15) rfl rfl rfl (yb y4X rfl (ye .here rfl)) ?_
    refine WL.a (d:=16) rfl rfl rfl (yW Try.underlying24 rfl) ?_
    refine WL.pu rfl (WL.pu rfl ?_)
    exact WL.ys (y26 znZ) rfl rfl .all
  refine WL.pu rfl ?_
  refine WL.seg false 4 19 (B:=((decide (((c_75.fModules.length : Nat) : Int) > 8)) || (decide (((c_75.fSwitches.length : Nat) : Int) > 8))) || (decide (((c_75.fLinks.length : Nat) : Int) > 20))) rfl rfl rfl rfl rfl rfl (fun h=>(y25 h).symm) (fun _ zo0=>?_) ?_
  · skip
    refine WL.a (d:=20) rfl rfl rfl (ya y6K rfl rfl) ?_
    refine WL.a (d:=21) rfl rfl rfl (yb y6L rfl (ye .here rfl)) ?_
    refine WL.a (d:=22) rfl rfl rfl (yW Try.underlying25 rfl) ?_
    refine WL.pu rfl (WL.pu rfl ?_)
    exact WL.ys (y26 zo0) rfl rfl .all
  refine WL.pu rfl ?_
  refine WL.seg false 4 25 (B:=(((decide (((c_75.fModules.length : Nat) : Int) > 8)) || (decide (((c_75.fSwitches.length : Nat) : Int) > 8))) || (decide (((c_75.fLinks.length : Nat) : Int) > 20))) || (decide (((c_75.fVLs.length : Nat) : Int) > 20))) rfl rfl rfl rfl rfl rfl (fun h=>(y25 h).symm) (fun _ zo1=>?_) ?_
  · skip
    refine WL.a (d:=26) rfl rfl rfl (ya y6M rfl rfl) ?_
    refine WL.a (d:=27) rfl rfl rfl (yb y6N rfl (ye .here rfl)) ?_
    refine WL.a (d:=28) rfl rfl rfl (yW Try.underlying26 rfl) ?_
    refine WL.pu rfl (WL.pu rfl ?_)
    exact WL.ys (y26 zo1) rfl rfl .all
  refine WL.pu rfl ?_
  refine WL.seg false 3 31 (B:=((((decide (((c_75.fModules.length : Nat) : Int) > 8)) || (decide (((c_75.fSwitches.length : Nat) : Int) > 8))) || (decide (((c_75.fLinks.length : Nat) : Int) > 20))) || (decide (((c_75.fVLs.length : Nat) : Int) > 20))) || (decide (((z20.length : Nat) : Int) > 20))) rfl rfl rfl rfl rfl rfl (fun h=>(y25 h).symm) (fun _ zo2=>?_) ?_
  · skip
    refine WL.pu rfl ?_
    refine WL.a (d:=33) rfl rfl rfl (yW Try.underlying32 rfl) ?_
    refine WL.pu rfl (WL.pu rfl ?_)
    exact WL.ys (y26 zo2) rfl rfl .all
  refine WL.pu rfl ?_
  refine WL.seg false 8 36 (B:=(((((decide (((c_75.fModules.length : Nat) : Int) > 8)) || (decide (((c_75.fSwitches.length : Nat) : Int) > 8))) || (decide (((c_75.fLinks.length : Nat) : Int) > 20))) || (decide (((c_75.fVLs.length : Nat) : Int) > 20))) || (decide (((z20.length : Nat) : Int) > 20))) || ((decide (((z41.length : Nat) : Int) > 40)) && (decide (((z41.length : Nat) : Int) ≤ 4000)))) rfl rfl rfl rfl rfl rfl (fun h=>(y25 h).symm) (fun _ zo3=>?_) ?_
  · skip
    refine WL.pu rfl ?_
    refine WL.a (d:=38) rfl rfl rfl (yW Try.underlying33 rfl) ?_
    refine WL.pu rfl (WL.pu rfl ?_)
    refine WL.seg true 3 40 (B:=(decide (((z41.length : Nat) : Int) > 40)) && (decide (((z41.length : Nat) : Int) ≤ 4000))) rfl rfl rfl rfl rfl rfl (fun h=>(y2K h).symm) (fun _ zo4=>?_) ?_
    · skip
      refine WL.pu rfl ?_
      refine WL.a (d:=42) rfl rfl rfl (yW Try.underlying33 rfl) ?_
      refine WL.pu rfl (WL.pu rfl ?_)
      exact WL.ys (y2L zo4) rfl rfl .all
    refine WL.pu rfl ?_
    exact WL.ys (y26 zo3) rfl rfl .all
  refine WL.nil (WX.a ?_)
  refine WC.cond rfl (fun zfW=>?_) (fun zfW=>?_)
  · replace h:=ym h zfW
    refine WC.b (WC.a (WL.pu rfl (WL.nil (WX.a (WC.ret (WX.yi ?_))))))
    obtain rfl:=Option.some.inj h
    refine WX.yh Try.results10 (.tmp rfl .nil) (fun w hw=>?_)
    exact ⟨y10 rfl,hw.sub .nil⟩
  · replace h:=yn h zfW
    refine WC.skip (WX.a ?_)
    obtain ⟨z6r,zo5,h⟩:=y2P h
    refine WC.y2p ((z6r = some r)) ([]) ([]) ?_ ?_
    · skip
      refine WC.b (WC.a (WL.pu rfl ?_))
      refine WL.a (d:=47) rfl rfl rfl (yW Try.underlying32 rfl) ?_
      refine WL.pu rfl (WL.nil (WX.a (WC.block ?_)))
      refine WC.y3Z (fun (z9L : Nat) (z35 : Int)=>(y2C z20 z6r z9L z35 = some r)) (fun (z9L : Nat) (z35 : Int)=>[(46,(.slice zbD z20.length zbE)),(47,(.int .i64 ((z20.length : Nat) : Int))),(48,(.int .i64 z35))]) (fun (z9L : Nat) (z35 : Int)=>[]) (fun (z9L : Nat) (z35 : Int)=>z9L) ⟨yz,0⟩ h (.cons rfl (.cons rfl (.cons rfl .nil))) .nil ?_
      rintro z9L z35 h
      obtain ⟨zfV,rfl⟩:=y6l h
      rw [y2C] at h
      refine WC.b (WC.a (WL.pu rfl (WL.nil (WX.a (WC.b ?_)))))
      refine WC.cond rfl (fun zfX=>?_) (fun zfX=>?_)
      · replace h:=ym h zfX
        refine WC.skip (WX.a (WC.b (WC.block (WC.b ?_))))
        obtain ⟨zo6,h⟩:=yj h
        refine WC.a ?_
        refine WL.znth (dd:=50) rfl rfl (Z:=Z) (Pr:=(p55 Z)) y6y rfl rfl znY zo6 ?_
        rintro zux zuy zo7 zuz ⟨zuA,zuB,rfl,zuC⟩
        refine WL.a (d:=51) rfl rfl rfl (yb y6O rfl (rd_z hz.pv zo7 rfl)) ?_
        refine WL.pu rfl (WL.nil (WX.a (WC.b (WC.a (WL.pu rfl ?_)))))
        refine WL.a (d:=53) rfl rfl rfl (yW Try.underlying55 rfl) ?_
        refine WL.pu rfl (WL.nil (WX.a ?_))
        refine WC.cond rfl (fun zfY=>?_) (fun zfY=>?_)
        · replace h:=ym h zfY
          refine WC.b (WC.a (WL.pu rfl (WL.nil (WX.a (WC.ret (WX.yK (WX.yi (WX.yi (WX.yK (WX.yi ?_))))))))))
          obtain rfl:=Option.some.inj h
          refine WX.yh Try.results10 (.tmp rfl .nil) (fun w hw=>?_)
          exact ⟨y10 rfl,hw.sub .nil⟩
        · replace h:=yn h zfY
          refine WC.skip (WX.yg (WX.a (WC.a (WL.pu rfl (WL.pu rfl (WL.nil ?_))))))
          exact WX.round (G:=Nat × Int) ⟨zfV,(i64 (z35 + 1))⟩ h (Nat.lt_succ_self _) (.cons rfl (.cons rfl (.cons rfl .nil))) .nil
      · replace h:=yn h zfX
        refine WC.exit (WX.yd (WX.yd (WX.yA ?_)))
        exact WX.mid (G:=Unit) () h .nil .nil
    · rintro  h
      replace h:=zo5.symm.trans h
      refine WC.b (WC.a (WL.pu rfl (WL.nil (WX.a (WC.ret ?_)))))
      obtain rfl:=Option.some.inj h
      refine WX.yh Try.results10 (.tmp rfl .nil) (fun w hw=>?_)
      exact ⟨y10 rfl,hw.sub .nil⟩
def y2q (zS : Sapi_Config) : Option Int :=
  some (i64 (((zS.fModules.length : Nat) : Int) + ((zS.fSwitches.length : Nat) : Int)))
set_option maxRecDepth 20000 in
theorem y4m (Z : Zp) (zbF : Option Addr) (zbG : Nat) (zbH : Option Addr) (zbI : Nat) (zbJ : Option Addr) (zbK : Nat) (zbL : Option Addr) (zbM : Nat) (zbN : Option Addr) (zbO : Nat) (zbP : Option Addr) (zbQ : Nat) (zbR : Option Addr) (zbS : Nat) (zbT : Option Addr) (zbU : Nat) (zS : Sapi_Config) (r : Int)
     (h : y2q zS = some r) (w₀ : World) (hz : PZ [] w₀ Z)
     (zuD : ZS Z 4 (y2x Z) zbF zbG zS.fModules)
     (zuE : ZS Z 4 (y2S Z) zbH zbI zS.fChannels)
     (zuF : ZS Z 4 (fun r x=>r = e64 x) zbJ zbK zS.fSwitches)
     (zuG : ZS Z 4 (fun r x=>r = e62 x) zbL zbM zS.fLinks)
     (zuH : ZS Z 7 (y2G Z) zbN zbO zS.fVLs)
     (zuI : ZS Z 5 (fun r x=>r = y37 x) zbP zbQ zS.fHealth)
     (zuJ : ZS Z 3 (y2T Z) zbR zbS zS.fCauses)
     (zuK : ZS Z 4 (fun r x=>r = y38 x) zbT zbU zS.fVersions) :
    Calls Try.prog 17 #[(.agg #[(.slice zbF zS.fModules.length zbG),(.slice zbH zS.fChannels.length zbI),(.slice zbJ zS.fSwitches.length zbK),(.slice zbL zS.fLinks.length zbM),(.slice zbN zS.fVLs.length zbO),(.slice zbP zS.fHealth.length zbQ),(.slice zbR zS.fCauses.length zbS),(.slice zbT zS.fVersions.length zbU)])] w₀ fun e w'=>e = .returned (.int .i64 r) ∧ Hp [] w₀ w' []:=by
  unfold y2q at h
  refine Calls.yl (vs:=[(.agg #[(.slice zbF zS.fModules.length zbG),(.slice zbH zS.fChannels.length zbI),(.slice zbJ zS.fSwitches.length zbK),(.slice zbL zS.fLinks.length zbM),(.slice zbN zS.fVLs.length zbO),(.slice zbP zS.fHealth.length zbQ),(.slice zbR zS.fCauses.length zbS),(.slice zbT zS.fVersions.length zbU)])]) (pre:=[]) (env:=[(0,(.agg #[(.slice zbF zS.fModules.length zbG),(.slice zbH zS.fChannels.length zbI),(.slice zbJ zS.fSwitches.length zbK),(.slice zbL zS.fLinks.length zbM),(.slice zbN zS.fVLs.length zbO),(.slice zbP zS.fHealth.length zbQ),(.slice zbR zS.fCauses.length zbS),(.slice zbT zS.fVersions.length zbU)]))]) Try.func17 rfl Try.ntmps17 rfl (Hp.nil w₀ _) rfl ?_
  refine WC.b (WC.a ?_)
  refine WL.new (dd:=1) rfl rfl rfl (y2g (cs:=[(.slice zbF zS.fModules.length zbG),(.slice zbH zS.fChannels.length zbI),(.slice zbJ zS.fSwitches.length zbK),(.slice zbL zS.fLinks.length zbM),(.slice zbN zS.fVLs.length zbO),(.slice zbP zS.fHealth.length zbQ),(.slice zbR zS.fCauses.length zbS),(.slice zbT zS.fVersions.length zbU)]) rfl rfl) ?_
  intro zuL _
  refine WL.pu rfl (WL.nil (WX.a (WC.b (WC.a ?_))))
  refine WL.a (d:=3) rfl rfl rfl (ya y47 rfl rfl) ?_
  refine WL.a (d:=4) rfl rfl rfl (yb y48 rfl (ye .here rfl)) ?_
  refine WL.a (d:=5) rfl rfl rfl (yW Try.underlying22 rfl) ?_
  refine WL.a (d:=6) rfl rfl rfl (ya y4W rfl rfl) ?_
  refine WL.a (d:=7) rfl rfl rfl (yb y4X rfl (ye .here rfl)) ?_
  refine WL.a (d:=8) rfl rfl rfl (yW Try.underlying24 rfl) ?_
  refine WL.pu rfl (WL.pu rfl (WL.nil (WX.a (WC.ret ?_))))
  obtain rfl:=Option.some.inj h
  refine WX.yh Try.results17 (.tmp rfl .nil) (fun w hw=>?_)
  exact ⟨y10 rfl,hw.sub .nil⟩
def y31 (zM : Sapi_Config) (z3g : Int) : Option ByteArray :=
  (if decide (z3g < 0) then some true else (y2q zM).bind fun zjD=>some (decide (z3g ≥ zjD))).bind fun zfZ=>if zfZ then some ⟨#[]⟩ else if decide (z3g < ((zM.fModules.length : Nat) : Int)) then chk ((0 : Int) ≤ z3g ∧ z3g < ((zM.fModules.length : Nat) : Int)) (some ((nth zM.fModules z3g).fName)) else chk ((0 : Int) ≤ (i64 (z3g - ((zM.fModules.length : Nat) : Int))) ∧ (i64 (z3g - ((zM.fModules.length : Nat) : Int))) < ((zM.fSwitches.length : Nat) : Int)) (some ((nth zM.fSwitches (i64 (z3g - ((zM.fModules.length : Nat) : Int)))).fName))
set_option maxRecDepth 20000 in
theorem y5J (Z : Zp) (zbV : Option Addr) (zbW : Nat) (zbX : Option Addr) (zbY : Nat) (zbZ : Option Addr) (zc0 : Nat) (zc1 : Option Addr) (zc2 : Nat) (zc3 : Option Addr) (zc4 : Nat) (zc5 : Option Addr) (zc6 : Nat) (zc7 : Option Addr) (zc8 : Nat) (zc9 : Option Addr) (zca : Nat) (zM : Sapi_Config) (z3g : Int) (r : ByteArray)
     (h : y31 zM z3g = some r) (w₀ : World) (hz : PZ [] w₀ Z)
     (zjE : ZS Z 4 (y2x Z) zbV zbW zM.fModules)
     (zo8 : ZS Z 4 (y2S Z) zbX zbY zM.fChannels)
     (zjF : ZS Z 4 (fun r x=>r = e64 x) zbZ zc0 zM.fSwitches)
     (zo9 : ZS Z 4 (fun r x=>r = e62 x) zc1 zc2 zM.fLinks)
     (zoa : ZS Z 7 (y2G Z) zc3 zc4 zM.fVLs)
     (zob : ZS Z 5 (fun r x=>r = y37 x) zc5 zc6 zM.fHealth)
     (zoc : ZS Z 3 (y2T Z) zc7 zc8 zM.fCauses)
     (zod : ZS Z 4 (fun r x=>r = y38 x) zc9 zca zM.fVersions) :
    Calls Try.prog 18 #[(.agg #[(.slice zbV zM.fModules.length zbW),(.slice zbX zM.fChannels.length zbY),(.slice zbZ zM.fSwitches.length zc0),(.slice zc1 zM.fLinks.length zc2),(.slice zc3 zM.fVLs.length zc4),(.slice zc5 zM.fHealth.length zc6),(.slice zc7 zM.fCauses.length zc8),(.slice zc9 zM.fVersions.length zca)]),(.int .i64 z3g)] w₀ fun e w'=>e = .returned (.string r) ∧ Hp [] w₀ w' []:=by
  unfold y31 at h
  refine Calls.yl (vs:=[(.agg #[(.slice zbV zM.fModules.length zbW),(.slice zbX zM.fChannels.length zbY),(.slice zbZ zM.fSwitches.length zc0),(.slice zc1 zM.fLinks.length zc2),(.slice zc3 zM.fVLs.length zc4),(.slice zc5 zM.fHealth.length zc6),(.slice zc7 zM.fCauses.length zc8),(.slice zc9 zM.fVersions.length zca)]),(.int .i64 z3g)]) (pre:=[]) (env:=[(0,(.agg #[(.slice zbV zM.fModules.length zbW),(.slice zbX zM.fChannels.length zbY),(.slice zbZ zM.fSwitches.length zc0),(.slice zc1 zM.fLinks.length zc2),(.slice zc3 zM.fVLs.length zc4),(.slice zc5 zM.fHealth.length zc6),(.slice zc7 zM.fCauses.length zc8),(.slice zc9 zM.fVersions.length zca)])),(1,(.int .i64 z3g))]) Try.func18 rfl Try.ntmps18 rfl (Hp.nil w₀ _) rfl ?_
  refine WC.b (WC.a ?_)
  refine WL.new (dd:=2) rfl rfl rfl (y2g (cs:=[(.slice zbV zM.fModules.length zbW),(.slice zbX zM.fChannels.length zbY),(.slice zbZ zM.fSwitches.length zc0),(.slice zc1 zM.fLinks.length zc2),(.slice zc3 zM.fVLs.length zc4),(.slice zc5 zM.fHealth.length zc6),(.slice zc7 zM.fCauses.length zc8),(.slice zc9 zM.fVersions.length zca)]) rfl rfl) ?_
  intro zuM _
  refine WL.pu rfl (WL.nil (WX.a (WC.b (WC.a ?_))))
  refine WL.a (d:=6) rfl rfl rfl (ya y47 rfl rfl) ?_
  refine WL.a (d:=7) rfl rfl rfl (yb y48 rfl (ye .here rfl)) ?_
  refine WL.a (d:=8) rfl rfl rfl (yW Try.underlying22 rfl) ?_
  refine WL.pu rfl (WL.nil (WX.a (WC.block (WC.b ?_))))
  obtain ⟨zfZ,zjG,h⟩:=zf h
  refine WC.a (WL.pu rfl (WL.pu rfl (WL.pu rfl ?_)))
  refine WL.seg false 4 20 (B:=zfZ) rfl rfl rfl rfl rfl rfl (fun h=>(Option.some.inj (ym zjG h)).symm) (fun _ zoe=>?_) ?_
  · skip
    have zcb:=yn zjG zoe
    obtain ⟨zjD,zof,zcb⟩:=zf zcb
    replace zcb:=Option.some.inj zcb
    refine WL.pu rfl ?_
    refine WL.a (d:=22) rfl rfl rfl (yF y1C rfl (y1i .here) rfl) ?_
    refine WL.b (dd:=23) rfl rfl rfl (zy (l:=[.tmp 22]) Try.call17 (.cons rfl .nil)) .nil (cc hz .nil fun w pz ho=>y4m _ _ _ _ _ _ _ _ _ _ _ _ _ _ _ _ _ _ _ zof w pz zjE zo8 zjF zo9 zoa zob zoc zod) ?_
    refine WL.pu rfl (WL.pu rfl ?_)
    exact WL.ys zcb rfl rfl .all
  refine WL.pu rfl (WL.nil (WX.a ?_))
  refine WC.cond rfl (fun zg0=>?_) (fun zg0=>?_)
  · replace h:=ym h zg0
    refine WC.b (WC.a (WL.pu rfl (WL.nil (WX.a (WC.ret (WX.yK ?_))))))
    obtain rfl:=Option.some.inj h
    refine WX.yh Try.results18 (.tmp rfl .nil) (fun w hw=>?_)
    exact ⟨y10 rfl,hw.sub .nil⟩
  · replace h:=yn h zg0
    refine WC.b (WC.a (WL.pu rfl (WL.pu rfl (WL.pu rfl (WL.pu rfl (WL.nil (WX.a ?_)))))))
    refine WC.cond rfl (fun zg1=>?_) (fun zg1=>?_)
    · replace h:=ym h zg1
      refine WC.b ?_
      obtain ⟨zog,h⟩:=yj h
      refine WC.a ?_
      refine WL.a (d:=30) rfl rfl rfl (ya y47 rfl rfl) ?_
      refine WL.a (d:=31) rfl rfl rfl (yb y48 rfl (ye .here rfl)) ?_
      refine WL.pu rfl ?_
      refine WL.znth (dd:=33) rfl rfl (Z:=Z) (Pr:=(y2x Z)) elT_22 rfl rfl zjE zog ?_
      rintro zuN zuO zoh zuP ⟨zuQ,zuR,rfl,zuS⟩
      refine WL.a (d:=34) rfl rfl rfl (ya fo_104_0 rfl rfl) ?_
      refine WL.a (d:=35) rfl rfl rfl (yb y7o rfl (y2e hz.pv zoh rfl)) ?_
      refine WL.pu rfl (WL.nil (WX.a (WC.ret (WX.yK ?_))))
      obtain rfl:=Option.some.inj h
      refine WX.yh Try.results18 (.tmp rfl .nil) (fun w hw=>?_)
      exact ⟨y10 rfl,hw.sub .nil⟩
    · replace h:=yn h zg1
      refine WC.b ?_
      obtain ⟨zoi,h⟩:=yj h
      refine WC.a ?_
      refine WL.a (d:=9) rfl rfl rfl (ya y4W rfl rfl) ?_
      refine WL.a (d:=10) rfl rfl rfl (yb y4X rfl (ye .here rfl)) ?_
      refine WL.pu rfl (WL.pu rfl (WL.pu rfl ?_))
      refine WL.znth (dd:=14) rfl rfl (Z:=Z) (Pr:=(fun r x=>r = e64 x)) y6A rfl rfl zjF zoi ?_
      rintro zuT zuU zoj zuV rfl
      refine WL.a (d:=15) rfl rfl rfl (ya fo_64_0 rfl rfl) ?_
      refine WL.a (d:=16) rfl rfl rfl (yb y7o rfl (y2e hz.pv zoj rfl)) ?_
      refine WL.pu rfl (WL.nil (WX.a (WC.ret (WX.yK ?_))))
      obtain rfl:=Option.some.inj h
      refine WX.yh Try.results18 (.tmp rfl .nil) (fun w hw=>?_)
      exact ⟨y10 rfl,hw.sub .nil⟩
def y1W (z6s : Int) (zJ : Sapi_Config) (z3u : ByteArray) (z6t : Option Int) : Nat → Int → Option Int
  | 0,_=>none
  | zg2 + 1,z3h=>if decide (z3h < z6s) then (y31 zJ z3h).bind fun zjH=>if decide (zjH = z3u) then some z3h else y1W z6s zJ z3u z6t zg2 (i64 (z3h + 1)) else z6t
theorem y5s {n : Nat} {z6s : Int} {zJ : Sapi_Config} {z3u : ByteArray} {z6t : Option Int} {z3h : Int} {r : Int} (h : y1W z6s zJ z3u z6t n z3h = some r) : ∃ m,n = m + 1:=by
  cases n with
  | zero=>cases h
  | succ m=>exact ⟨m,rfl⟩
def y1T (zJ : Sapi_Config) (z3u : ByteArray) : Option Int :=
  jp0 (some (-1)) fun z6t=>(y2q zJ).bind fun z6s=>y1W z6s zJ z3u z6t yz 0
set_option maxRecDepth 20000 in
theorem y5K (Z : Zp) (z9M : Option Addr) (z9N : Nat) (z9O : Option Addr) (z9P : Nat) (z9Q : Option Addr) (z9R : Nat) (z9S : Option Addr) (z9T : Nat) (z9U : Option Addr) (z9V : Nat) (z9W : Option Addr) (z9X : Nat) (z9Y : Option Addr) (z9Z : Nat) (za0 : Option Addr) (za1 : Nat) (zJ : Sapi_Config) (z3u : ByteArray) (r : Int)
     (h : y1T zJ z3u = some r) (w₀ : World) (hz : PZ [] w₀ Z)
     (zjI : ZS Z 4 (y2x Z) z9M z9N zJ.fModules)
     (zjJ : ZS Z 4 (y2S Z) z9O z9P zJ.fChannels)
     (zjK : ZS Z 4 (fun r x=>r = e64 x) z9Q z9R zJ.fSwitches)
     (zjL : ZS Z 4 (fun r x=>r = e62 x) z9S z9T zJ.fLinks)
     (zjM : ZS Z 7 (y2G Z) z9U z9V zJ.fVLs)
     (zjN : ZS Z 5 (fun r x=>r = y37 x) z9W z9X zJ.fHealth)
     (zjO : ZS Z 3 (y2T Z) z9Y z9Z zJ.fCauses)
     (zjP : ZS Z 4 (fun r x=>r = y38 x) za0 za1 zJ.fVersions) :
    Calls Try.prog 59 #[(.agg #[(.slice z9M zJ.fModules.length z9N),(.slice z9O zJ.fChannels.length z9P),(.slice z9Q zJ.fSwitches.length z9R),(.slice z9S zJ.fLinks.length z9T),(.slice z9U zJ.fVLs.length z9V),(.slice z9W zJ.fHealth.length z9X),(.slice z9Y zJ.fCauses.length z9Z),(.slice za0 zJ.fVersions.length za1)]),(.string z3u)] w₀ fun e w'=>e = .returned (.int .i64 r) ∧ Hp [] w₀ w' []:=by
  unfold y1T at h
  refine Calls.yl (vs:=[(.agg #[(.slice z9M zJ.fModules.length z9N),(.slice z9O zJ.fChannels.length z9P),(.slice z9Q zJ.fSwitches.length z9R),(.slice z9S zJ.fLinks.length z9T),(.slice z9U zJ.fVLs.length z9V),(.slice z9W zJ.fHealth.length z9X),(.slice z9Y zJ.fCauses.length z9Z),(.slice za0 zJ.fVersions.length za1)]),(.string z3u)]) (pre:=[]) (env:=[(0,(.agg #[(.slice z9M zJ.fModules.length z9N),(.slice z9O zJ.fChannels.length z9P),(.slice z9Q zJ.fSwitches.length z9R),(.slice z9S zJ.fLinks.length z9T),(.slice z9U zJ.fVLs.length z9V),(.slice z9W zJ.fHealth.length z9X),(.slice z9Y zJ.fCauses.length z9Z),(.slice za0 zJ.fVersions.length za1)])),(1,(.string z3u))]) Try.func59 rfl Try.ntmps59 rfl (Hp.nil w₀ _) rfl ?_
  refine WC.b (WC.a ?_)
  refine WL.new (dd:=2) rfl rfl rfl (y2g (cs:=[(.slice z9M zJ.fModules.length z9N),(.slice z9O zJ.fChannels.length z9P),(.slice z9Q zJ.fSwitches.length z9R),(.slice z9S zJ.fLinks.length z9T),(.slice z9U zJ.fVLs.length z9V),(.slice z9W zJ.fHealth.length z9X),(.slice z9Y zJ.fCauses.length z9Z),(.slice za0 zJ.fVersions.length za1)]) rfl rfl) ?_
  intro zjQ _
  refine WL.pu rfl (WL.nil (WX.a ?_))
  obtain ⟨z6t,zol,h⟩:=y2P h
  refine WC.y2p ((z6t = some r)) ([]) ([]) ?_ ?_
  · skip
    refine WC.b ?_
    obtain ⟨z6s,zom,h⟩:=zf h
    refine WC.a ?_
    refine WL.a (d:=6) rfl rfl rfl (yF y1C rfl (y1i .here) rfl) ?_
    refine WL.b (dd:=7) rfl rfl rfl (zy (l:=[.tmp 6]) Try.call17 (.cons rfl .nil)) .nil (cc hz .nil fun w pz ho=>y4m _ _ _ _ _ _ _ _ _ _ _ _ _ _ _ _ _ _ _ zom w pz zjI zjJ zjK zjL zjM zjN zjO zjP) ?_
    refine WL.pu rfl (WL.nil (WX.a (WC.block ?_)))
    refine WC.y3Z (fun (za2 : Nat) (z3h : Int)=>(y1W z6s zJ z3u z6t za2 z3h = some r)) (fun (za2 : Nat) (z3h : Int)=>[(1,(.string z3u)),(2,(.pointer (some ⟨zjQ,0,none⟩))),(7,(.int .i64 z6s)),(8,(.int .i64 z3h))]) (fun (za2 : Nat) (z3h : Int)=>[stb zjQ 31 [(.slice z9M zJ.fModules.length z9N),(.slice z9O zJ.fChannels.length z9P),(.slice z9Q zJ.fSwitches.length z9R),(.slice z9S zJ.fLinks.length z9T),(.slice z9U zJ.fVLs.length z9V),(.slice z9W zJ.fHealth.length z9X),(.slice z9Y zJ.fCauses.length z9Z),(.slice za0 zJ.fVersions.length za1)]]) (fun (za2 : Nat) (z3h : Int)=>za2) ⟨yz,0⟩ h (.cons rfl (.cons rfl (.cons rfl (.cons rfl .nil)))) (.cons .here .nil) ?_
    rintro za2 z3h h
    obtain ⟨zg2,rfl⟩:=y5s h
    rw [y1W] at h
    refine WC.b (WC.a (WL.pu rfl (WL.nil (WX.a (WC.b ?_)))))
    refine WC.cond rfl (fun zg3=>?_) (fun zg3=>?_)
    · replace h:=ym h zg3
      refine WC.skip (WX.a (WC.b (WC.block (WC.b (WC.a (WL.pu rfl (WL.pu rfl (WL.nil (WX.a (WC.b ?_))))))))))
      obtain ⟨zjH,zon,h⟩:=zf h
      refine WC.a ?_
      refine WL.a (d:=11) rfl rfl rfl (yF y1C rfl (y1i .here) rfl) ?_
      refine WL.pu rfl ?_
      refine WL.b (dd:=13) rfl rfl rfl (zy (l:=[.tmp 11,.tmp 12]) Try.call18 (.cons rfl (.cons rfl .nil))) .nil (cc hz .nil fun w pz ho=>y5J _ _ _ _ _ _ _ _ _ _ _ _ _ _ _ _ _ _ _ _ zon w pz zjI zjJ zjK zjL zjM zjN zjO zjP) ?_
      refine WL.pu rfl ?_
      refine WL.a (d:=15) rfl rfl rfl (q_seql rfl rfl) ?_
      refine WL.nil (WX.a ?_)
      refine WC.cond rfl (fun zg4=>?_) (fun zg4=>?_)
      · replace h:=ym h zg4
        refine WC.b (WC.a (WL.pu rfl (WL.pu rfl (WL.nil (WX.a (WC.ret (WX.yK (WX.yi (WX.yi (WX.yK (WX.yi ?_)))))))))))
        obtain rfl:=Option.some.inj h
        refine WX.yh Try.results59 (.tmp rfl .nil) (fun w hw=>?_)
        exact ⟨y10 rfl,hw.sub .nil⟩
      · replace h:=yn h zg4
        refine WC.skip (WX.yg (WX.a (WC.a (WL.pu rfl (WL.pu rfl (WL.nil ?_))))))
        exact WX.round (G:=Nat × Int) ⟨zg2,(i64 (z3h + 1))⟩ h (Nat.lt_succ_self _) (.cons rfl (.cons rfl (.cons rfl (.cons rfl .nil)))) (.cons .here .nil)
    · replace h:=yn h zg3
      refine WC.exit (WX.yd (WX.yd (WX.yA ?_)))
      exact WX.mid (G:=Unit) () h .nil .nil
  · rintro  h
    replace h:=zol.symm.trans h
    refine WC.b (WC.a (WL.pu rfl (WL.nil (WX.a (WC.ret ?_)))))
    obtain rfl:=Option.some.inj h
    refine WX.yh Try.results59 (.tmp rfl .nil) (fun w hw=>?_)
    exact ⟨y10 rfl,hw.sub .nil⟩
def y32 (zu : Sapi_Config) (z5g : Int) (z1r : Int) : Option Bool :=
  if decide (z1r < ((zu.fModules.length : Nat) : Int)) then some (decide (z1r ≥ 0)) else chk ((0 : Int) ≤ (i64 (z1r - ((zu.fModules.length : Nat) : Int))) ∧ (i64 (z1r - ((zu.fModules.length : Nat) : Int))) < ((zu.fSwitches.length : Nat) : Int)) (some (((((decide (((nth zu.fSwitches (i64 (z1r - ((zu.fModules.length : Nat) : Int)))).fNet) = z5g)) && (decide (((nth zu.fSwitches (i64 (z1r - ((zu.fModules.length : Nat) : Int)))).fDelay) ≥ 0))) && (decide (((nth zu.fSwitches (i64 (z1r - ((zu.fModules.length : Nat) : Int)))).fDelay) ≤ 1000))) && (decide (((nth zu.fSwitches (i64 (z1r - ((zu.fModules.length : Nat) : Int)))).fStore) ≥ 0))) && (decide (((nth zu.fSwitches (i64 (z1r - ((zu.fModules.length : Nat) : Int)))).fStore) ≤ 1073741824))))
set_option maxRecDepth 20000 in
theorem y5L (Z : Zp) (zcc : Option Addr) (zcd : Nat) (zce : Option Addr) (zcf : Nat) (zcg : Option Addr) (zch : Nat) (zci : Option Addr) (zcj : Nat) (zck : Option Addr) (zcl : Nat) (zcm : Option Addr) (zcn : Nat) (zco : Option Addr) (zcp : Nat) (zcq : Option Addr) (zcr : Nat) (zu : Sapi_Config) (z5g : Int) (z1r : Int) (r : Bool)
     (h : y32 zu z5g z1r = some r) (w₀ : World) (hz : PZ [] w₀ Z)
     (zuW : ZS Z 4 (y2x Z) zcc zcd zu.fModules)
     (zuX : ZS Z 4 (y2S Z) zce zcf zu.fChannels)
     (zoo : ZS Z 4 (fun r x=>r = e64 x) zcg zch zu.fSwitches)
     (zuY : ZS Z 4 (fun r x=>r = e62 x) zci zcj zu.fLinks)
     (zuZ : ZS Z 7 (y2G Z) zck zcl zu.fVLs)
     (zv0 : ZS Z 5 (fun r x=>r = y37 x) zcm zcn zu.fHealth)
     (zv1 : ZS Z 3 (y2T Z) zco zcp zu.fCauses)
     (zv2 : ZS Z 4 (fun r x=>r = y38 x) zcq zcr zu.fVersions) :
    Calls Try.prog 60 #[(.agg #[(.slice zcc zu.fModules.length zcd),(.slice zce zu.fChannels.length zcf),(.slice zcg zu.fSwitches.length zch),(.slice zci zu.fLinks.length zcj),(.slice zck zu.fVLs.length zcl),(.slice zcm zu.fHealth.length zcn),(.slice zco zu.fCauses.length zcp),(.slice zcq zu.fVersions.length zcr)]),(.int .i64 z5g),(.int .i64 z1r)] w₀ fun e w'=>e = .returned (.bool r) ∧ Hp [] w₀ w' []:=by
  unfold y32 at h
  refine Calls.yl (vs:=[(.agg #[(.slice zcc zu.fModules.length zcd),(.slice zce zu.fChannels.length zcf),(.slice zcg zu.fSwitches.length zch),(.slice zci zu.fLinks.length zcj),(.slice zck zu.fVLs.length zcl),(.slice zcm zu.fHealth.length zcn),(.slice zco zu.fCauses.length zcp),(.slice zcq zu.fVersions.length zcr)]),(.int .i64 z5g),(.int .i64 z1r)]) (pre:=[]) (env:=[(0,(.agg #[(.slice zcc zu.fModules.length zcd),(.slice zce zu.fChannels.length zcf),(.slice zcg zu.fSwitches.length zch),(.slice zci zu.fLinks.length zcj),(.slice zck zu.fVLs.length zcl),(.slice zcm zu.fHealth.length zcn),(.slice zco zu.fCauses.length zcp),(.slice zcq zu.fVersions.length zcr)])),(1,(.int .i64 z5g)),(2,(.int .i64 z1r))]) Try.func60 rfl Try.ntmps60 rfl (Hp.nil w₀ _) rfl ?_
  refine WC.b (WC.a ?_)
  refine WL.new (dd:=3) rfl rfl rfl (y2g (cs:=[(.slice zcc zu.fModules.length zcd),(.slice zce zu.fChannels.length zcf),(.slice zcg zu.fSwitches.length zch),(.slice zci zu.fLinks.length zcj),(.slice zck zu.fVLs.length zcl),(.slice zcm zu.fHealth.length zcn),(.slice zco zu.fCauses.length zcp),(.slice zcq zu.fVersions.length zcr)]) rfl rfl) ?_
  intro zv3 _
  refine WL.pu rfl (WL.nil (WX.a (WC.b (WC.b (WC.a (WL.pu rfl ?_))))))
  refine WL.a (d:=9) rfl rfl rfl (ya y47 rfl rfl) ?_
  refine WL.a (d:=10) rfl rfl rfl (yb y48 rfl (ye .here rfl)) ?_
  refine WL.a (d:=11) rfl rfl rfl (yW Try.underlying22 rfl) ?_
  refine WL.pu rfl (WL.nil (WX.a ?_))
  refine WC.cond rfl (fun zg5=>?_) (fun zg5=>?_)
  · replace h:=ym h zg5
    refine WC.b (WC.a (WL.pu rfl (WL.pu rfl (WL.pu rfl (WL.nil (WX.a (WC.ret (WX.yi ?_))))))))
    obtain rfl:=Option.some.inj h
    refine WX.yh Try.results60 (.tmp rfl .nil) (fun w hw=>?_)
    exact ⟨y10 rfl,hw.sub .nil⟩
  · replace h:=yn h zg5
    refine WC.skip (WX.a (WC.b ?_))
    obtain ⟨zop,h⟩:=yj h
    refine WC.a ?_
    refine WL.a (d:=15) rfl rfl rfl (ya y4W rfl rfl) ?_
    refine WL.a (d:=16) rfl rfl rfl (yb y4X rfl (ye .here rfl)) ?_
    refine WL.pu rfl ?_
    refine WL.a (d:=18) rfl rfl rfl (ya y47 rfl rfl) ?_
    refine WL.a (d:=19) rfl rfl rfl (yb y48 rfl (ye .here rfl)) ?_
    refine WL.a (d:=20) rfl rfl rfl (yW Try.underlying22 rfl) ?_
    refine WL.pu rfl ?_
    refine WL.znth (dd:=22) rfl rfl (Z:=Z) (Pr:=(fun r x=>r = e64 x)) y6A rfl rfl zoo zop ?_
    rintro zv4 zv5 zoq zv6 rfl
    refine WL.a (d:=23) rfl rfl rfl (yF aggT_64 rfl (y3G hz.pv zoq) rfl) ?_
    refine WL.new (dd:=7) rfl rfl rfl (y2u (cs:=[(.string ⟨#[]⟩),(.int .i64 0),(.int .i64 0),(.int .i64 0)]) zeroT_64 rfl) ?_
    intro zv7 _
    refine WL.y1o rfl rfl (y22 sizT_64 rfl rfl rfl .here rfl rfl rfl) ?_
    refine WL.nil (WX.a (WC.b (WC.a ?_)))
    refine WL.a (d:=24) rfl rfl rfl (ya fo_64_1 rfl rfl) ?_
    refine WL.a (d:=25) rfl rfl rfl (yb yf rfl (ye .here rfl)) ?_
    refine WL.pu rfl (WL.pu rfl (WL.pu rfl ?_))
    refine WL.seg true 3 28 (B:=(decide (((nth zu.fSwitches (i64 (z1r - ((zu.fModules.length : Nat) : Int)))).fNet) = z5g)) && (decide (((nth zu.fSwitches (i64 (z1r - ((zu.fModules.length : Nat) : Int)))).fDelay) ≥ 0))) rfl rfl rfl rfl rfl rfl (fun h=>(y2K h).symm) (fun _ zor=>?_) ?_
    · skip
      refine WL.a (d:=29) rfl rfl rfl (ya y7E rfl rfl) ?_
      refine WL.a (d:=30) rfl rfl rfl (yb yf rfl (ye .here rfl)) ?_
      refine WL.pu rfl (WL.pu rfl ?_)
      exact WL.ys (y2L zor) rfl rfl .all
    refine WL.pu rfl ?_
    refine WL.seg true 3 33 (B:=((decide (((nth zu.fSwitches (i64 (z1r - ((zu.fModules.length : Nat) : Int)))).fNet) = z5g)) && (decide (((nth zu.fSwitches (i64 (z1r - ((zu.fModules.length : Nat) : Int)))).fDelay) ≥ 0))) && (decide (((nth zu.fSwitches (i64 (z1r - ((zu.fModules.length : Nat) : Int)))).fDelay) ≤ 1000))) rfl rfl rfl rfl rfl rfl (fun h=>(y2K h).symm) (fun _ zos=>?_) ?_
    · skip
      refine WL.a (d:=34) rfl rfl rfl (ya y7E rfl rfl) ?_
      refine WL.a (d:=35) rfl rfl rfl (yb yf rfl (ye .here rfl)) ?_
      refine WL.pu rfl (WL.pu rfl ?_)
      exact WL.ys (y2L zos) rfl rfl .all
    refine WL.pu rfl ?_
    refine WL.seg true 3 38 (B:=(((decide (((nth zu.fSwitches (i64 (z1r - ((zu.fModules.length : Nat) : Int)))).fNet) = z5g)) && (decide (((nth zu.fSwitches (i64 (z1r - ((zu.fModules.length : Nat) : Int)))).fDelay) ≥ 0))) && (decide (((nth zu.fSwitches (i64 (z1r - ((zu.fModules.length : Nat) : Int)))).fDelay) ≤ 1000))) && (decide (((nth zu.fSwitches (i64 (z1r - ((zu.fModules.length : Nat) : Int)))).fStore) ≥ 0))) rfl rfl rfl rfl rfl rfl (fun h=>(y2K h).symm) (fun _ zot=>?_) ?_
    · skip
      refine WL.a (d:=39) rfl rfl rfl (ya y7F rfl rfl) ?_
      refine WL.a (d:=40) rfl rfl rfl (yb yf rfl (ye .here rfl)) ?_
      refine WL.pu rfl (WL.pu rfl ?_)
      exact WL.ys (y2L zot) rfl rfl .all
    refine WL.pu rfl ?_
    refine WL.seg true 3 43 (B:=((((decide (((nth zu.fSwitches (i64 (z1r - ((zu.fModules.length : Nat) : Int)))).fNet) = z5g)) && (decide (((nth zu.fSwitches (i64 (z1r - ((zu.fModules.length : Nat) : Int)))).fDelay) ≥ 0))) && (decide (((nth zu.fSwitches (i64 (z1r - ((zu.fModules.length : Nat) : Int)))).fDelay) ≤ 1000))) && (decide (((nth zu.fSwitches (i64 (z1r - ((zu.fModules.length : Nat) : Int)))).fStore) ≥ 0))) && (decide (((nth zu.fSwitches (i64 (z1r - ((zu.fModules.length : Nat) : Int)))).fStore) ≤ 1073741824))) rfl rfl rfl rfl rfl rfl (fun h=>(y2K h).symm) (fun _ zou=>?_) ?_
    · skip
      refine WL.a (d:=44) rfl rfl rfl (ya y7F rfl rfl) ?_
      refine WL.a (d:=45) rfl rfl rfl (yb yf rfl (ye .here rfl)) ?_
      refine WL.pu rfl (WL.pu rfl ?_)
      exact WL.ys (y2L zou) rfl rfl .all
    refine WL.pu rfl (WL.nil (WX.a (WC.ret ?_)))
    obtain rfl:=Option.some.inj h
    refine WX.yh Try.results60 (.tmp rfl .nil) (fun w hw=>?_)
    exact ⟨y10 rfl,hw.sub .nil⟩
def y3i (zF : Sapi_Config) (z4H : Int) (z1C : Int) (z3v : Int) (z3w : Int) : Option Bool :=
  if (decide (z1C < 0)) || (decide (z1C ≥ ((zF.fLinks.length : Nat) : Int))) then some false else chk ((0 : Int) ≤ z1C ∧ z1C < ((zF.fLinks.length : Nat) : Int)) ((y1T zF ((nth zF.fLinks z1C).fA)).bind fun z42=>(y1T zF ((nth zF.fLinks z1C).fB)).bind fun z43=>(if (((decide (((nth zF.fLinks z1C).fNet) = z4H)) && (decide (((nth zF.fLinks z1C).fSlow) ≥ 1))) && (decide (((nth zF.fLinks z1C).fSlow) ≤ 16))) && (decide (z42 ≠ z43)) then (y32 zF z4H z42).bind fun zjR=>some zjR else some false).bind fun zg6=>(if zg6 then (y32 zF z4H z43).bind fun zjS=>some zjS else some false).bind fun ze2=>some (ze2 && (((decide (z42 = z3v)) && (decide (z43 = z3w))) || ((decide (z42 = z3w)) && (decide (z43 = z3v))))))
set_option maxRecDepth 20000 in
theorem y7p (Z : Zp) (zcs : Option Addr) (zct : Nat) (zcu : Option Addr) (zcv : Nat) (zcw : Option Addr) (zcx : Nat) (zcy : Option Addr) (zcz : Nat) (zcA : Option Addr) (zcB : Nat) (zcC : Option Addr) (zcD : Nat) (zcE : Option Addr) (zcF : Nat) (zcG : Option Addr) (zcH : Nat) (zF : Sapi_Config) (z4H : Int) (z1C : Int) (z3v : Int) (z3w : Int) (r : Bool)
     (h : y3i zF z4H z1C z3v z3w = some r) (w₀ : World) (hz : PZ [] w₀ Z)
     (ze3 : ZS Z 4 (y2x Z) zcs zct zF.fModules)
     (ze4 : ZS Z 4 (y2S Z) zcu zcv zF.fChannels)
     (ze5 : ZS Z 4 (fun r x=>r = e64 x) zcw zcx zF.fSwitches)
     (zcI : ZS Z 4 (fun r x=>r = e62 x) zcy zcz zF.fLinks)
     (ze6 : ZS Z 7 (y2G Z) zcA zcB zF.fVLs)
     (ze7 : ZS Z 5 (fun r x=>r = y37 x) zcC zcD zF.fHealth)
     (ze8 : ZS Z 3 (y2T Z) zcE zcF zF.fCauses)
     (ze9 : ZS Z 4 (fun r x=>r = y38 x) zcG zcH zF.fVersions) :
    Calls Try.prog 48 #[(.agg #[(.slice zcs zF.fModules.length zct),(.slice zcu zF.fChannels.length zcv),(.slice zcw zF.fSwitches.length zcx),(.slice zcy zF.fLinks.length zcz),(.slice zcA zF.fVLs.length zcB),(.slice zcC zF.fHealth.length zcD),(.slice zcE zF.fCauses.length zcF),(.slice zcG zF.fVersions.length zcH)]),(.int .i64 z4H),(.int .i64 z1C),(.int .i64 z3v),(.int .i64 z3w)] w₀ fun e w'=>e = .returned (.bool r) ∧ Hp [] w₀ w' []:=by
  unfold y3i at h
  refine Calls.yl (vs:=[(.agg #[(.slice zcs zF.fModules.length zct),(.slice zcu zF.fChannels.length zcv),(.slice zcw zF.fSwitches.length zcx),(.slice zcy zF.fLinks.length zcz),(.slice zcA zF.fVLs.length zcB),(.slice zcC zF.fHealth.length zcD),(.slice zcE zF.fCauses.length zcF),(.slice zcG zF.fVersions.length zcH)]),(.int .i64 z4H),(.int .i64 z1C),(.int .i64 z3v),(.int .i64 z3w)]) (pre:=[]) (env:=[(0,(.agg #[(.slice zcs zF.fModules.length zct),(.slice zcu zF.fChannels.length zcv),(.slice zcw zF.fSwitches.length zcx),(.slice zcy zF.fLinks.length zcz),(.slice zcA zF.fVLs.length zcB),(.slice zcC zF.fHealth.length zcD),(.slice zcE zF.fCauses.length zcF),(.slice zcG zF.fVersions.length zcH)])),(1,(.int .i64 z4H)),(2,(.int .i64 z1C)),(3,(.int .i64 z3v)),(4,(.int .i64 z3w))]) Try.func48 rfl Try.ntmps48 rfl (Hp.nil w₀ _) rfl ?_
  refine WC.b (WC.a ?_)
  refine WL.new (dd:=5) rfl rfl rfl (y2g (cs:=[(.slice zcs zF.fModules.length zct),(.slice zcu zF.fChannels.length zcv),(.slice zcw zF.fSwitches.length zcx),(.slice zcy zF.fLinks.length zcz),(.slice zcA zF.fVLs.length zcB),(.slice zcC zF.fHealth.length zcD),(.slice zcE zF.fCauses.length zcF),(.slice zcG zF.fVersions.length zcH)]) rfl rfl) ?_
  intro zv8 _
  refine WL.pu rfl (WL.nil (WX.a (WC.b (WC.b (WC.a (WL.pu rfl (WL.pu rfl (WL.pu rfl ?_))))))))
  refine WL.seg false 5 16 (B:=(decide (z1C < 0)) || (decide (z1C ≥ ((zF.fLinks.length : Nat) : Int)))) rfl rfl rfl rfl rfl rfl (fun h=>(y25 h).symm) (fun _ zov=>?_) ?_
  · skip
    refine WL.pu rfl ?_
    refine WL.a (d:=18) rfl rfl rfl (ya y6K rfl rfl) ?_
    refine WL.a (d:=19) rfl rfl rfl (yb y6L rfl (ye .here rfl)) ?_
    refine WL.a (d:=20) rfl rfl rfl (yW Try.underlying25 rfl) ?_
    refine WL.pu rfl (WL.pu rfl ?_)
    exact WL.ys (y26 zov) rfl rfl .all
  refine WL.nil (WX.a ?_)
  refine WC.cond rfl (fun zg7=>?_) (fun zg7=>?_)
  · replace h:=ym h zg7
    refine WC.b (WC.a (WL.pu rfl (WL.nil (WX.a (WC.ret (WX.yi ?_))))))
    obtain rfl:=Option.some.inj h
    refine WX.yh Try.results48 (.tmp rfl .nil) (fun w hw=>?_)
    exact ⟨y10 rfl,hw.sub .nil⟩
  · replace h:=yn h zg7
    refine WC.skip (WX.a (WC.b ?_))
    obtain ⟨zow,h⟩:=yj h
    refine WC.a ?_
    refine WL.a (d:=23) rfl rfl rfl (ya y6K rfl rfl) ?_
    refine WL.a (d:=24) rfl rfl rfl (yb y6L rfl (ye .here rfl)) ?_
    refine WL.pu rfl ?_
    refine WL.znth (dd:=26) rfl rfl (Z:=Z) (Pr:=(fun r x=>r = e62 x)) y8r rfl rfl zcI zow ?_
    rintro zv9 zva zox zvb rfl
    refine WL.a (d:=27) rfl rfl rfl (yF aggT_62 rfl (y3G hz.pv zox) rfl) ?_
    refine WL.new (dd:=11) rfl rfl rfl (y2u (cs:=[(.string ⟨#[]⟩),(.string ⟨#[]⟩),(.int .i64 0),(.int .i64 0)]) zeroT_62 rfl) ?_
    intro zvc _
    refine WL.y1o rfl rfl (y22 sizT_62 rfl rfl rfl .here rfl rfl rfl) ?_
    refine WL.nil (WX.a (WC.b ?_))
    obtain ⟨z42,zoy,h⟩:=zf h
    obtain ⟨z43,zoz,h⟩:=zf h
    refine WC.yZ (fun i=>[].contains i) [] rfl ?_
    refine WD.e (i:=0) (d:=28) (by kernel_rfl) rfl (z2 (by kernel_rfl)) (z3 (by kernel_rfl)) rfl rfl rfl (yF y1C rfl (y1i .h1) rfl) ?_
    refine WD.a (i:=1) (d:=29) (by kernel_rfl) rfl (z2 (by kernel_rfl)) (z3 (by kernel_rfl)) rfl rfl rfl (fun _=>ya fo_62_0 rfl rfl) ?_
    refine WD.e (i:=2) (d:=30) (by kernel_rfl) rfl (z2 (by kernel_rfl)) (z3 (by kernel_rfl)) rfl rfl rfl (yb y7o rfl (ye .here rfl)) ?_
    refine WD.c (i:=3) (d:=31) (by kernel_rfl) rfl (z2 (by kernel_rfl)) (z3 (by kernel_rfl)) rfl rfl rfl (zy (l:=[.tmp 28,.tmp 30]) Try.call59 (.cons rfl (.cons rfl .nil))) (cc hz .nil fun w pz ho=>y5K _ _ _ _ _ _ _ _ _ _ _ _ _ _ _ _ _ _ _ _ zoy w pz ze3 ze4 ze5 zcI ze6 ze7 ze8 ze9) ?_
    refine WD.e (i:=4) (d:=32) (by kernel_rfl) rfl (z2 (by kernel_rfl)) (z3 (by kernel_rfl)) rfl rfl rfl (yF y1C rfl (y1i .h1) rfl) ?_
    refine WD.a (i:=5) (d:=33) (by kernel_rfl) rfl (z2 (by kernel_rfl)) (z3 (by kernel_rfl)) rfl rfl rfl (fun _=>ya fo_62_1 rfl rfl) ?_
    refine WD.e (i:=6) (d:=34) (by kernel_rfl) rfl (z2 (by kernel_rfl)) (z3 (by kernel_rfl)) rfl rfl rfl (yb y7o rfl (ye .here rfl)) ?_
    refine WD.c (i:=7) (d:=35) (by kernel_rfl) rfl (z2 (by kernel_rfl)) (z3 (by kernel_rfl)) rfl rfl rfl (zy (l:=[.tmp 32,.tmp 34]) Try.call59 (.cons rfl (.cons rfl .nil))) (cc hz .nil fun w pz ho=>y5K _ _ _ _ _ _ _ _ _ _ _ _ _ _ _ _ _ _ _ _ zoz w pz ze3 ze4 ze5 zcI ze6 ze7 ze8 ze9) ?_
    refine WD.a (i:=8) (d:=12) (by kernel_rfl) rfl (z2 (by kernel_rfl)) (z3 (by kernel_rfl)) rfl rfl rfl (fun _=>q_z rfl) ?_
    refine WD.a (i:=9) (d:=13) (by kernel_rfl) rfl (z2 (by kernel_rfl)) (z3 (by kernel_rfl)) rfl rfl rfl (fun _=>q_z rfl) ?_
    refine WD.done (by kernel_rfl) ?_
    refine WX.a (WC.b ?_)
    obtain ⟨zg6,zjT,h⟩:=zf h
    obtain ⟨ze2,zjU,h⟩:=zf h
    refine WC.a ?_
    refine WL.a (d:=36) rfl rfl rfl (ya fo_62_2 rfl rfl) ?_
    refine WL.a (d:=37) rfl rfl rfl (yb yf rfl (ye .here rfl)) ?_
    refine WL.pu rfl (WL.pu rfl (WL.pu rfl ?_))
    refine WL.seg true 3 40 (B:=(decide (((nth zF.fLinks z1C).fNet) = z4H)) && (decide (((nth zF.fLinks z1C).fSlow) ≥ 1))) rfl rfl rfl rfl rfl rfl (fun h=>(y2K h).symm) (fun _ zoA=>?_) ?_
    · skip
      refine WL.a (d:=41) rfl rfl rfl (ya y7D rfl rfl) ?_
      refine WL.a (d:=42) rfl rfl rfl (yb yf rfl (ye .here rfl)) ?_
      refine WL.pu rfl (WL.pu rfl ?_)
      exact WL.ys (y2L zoA) rfl rfl .all
    refine WL.pu rfl ?_
    refine WL.seg true 3 45 (B:=((decide (((nth zF.fLinks z1C).fNet) = z4H)) && (decide (((nth zF.fLinks z1C).fSlow) ≥ 1))) && (decide (((nth zF.fLinks z1C).fSlow) ≤ 16))) rfl rfl rfl rfl rfl rfl (fun h=>(y2K h).symm) (fun _ zoB=>?_) ?_
    · skip
      refine WL.a (d:=46) rfl rfl rfl (ya y7D rfl rfl) ?_
      refine WL.a (d:=47) rfl rfl rfl (yb yf rfl (ye .here rfl)) ?_
      refine WL.pu rfl (WL.pu rfl ?_)
      exact WL.ys (y2L zoB) rfl rfl .all
    refine WL.pu rfl ?_
    refine WL.seg true 3 50 (B:=(((decide (((nth zF.fLinks z1C).fNet) = z4H)) && (decide (((nth zF.fLinks z1C).fSlow) ≥ 1))) && (decide (((nth zF.fLinks z1C).fSlow) ≤ 16))) && (decide (z42 ≠ z43))) rfl rfl rfl rfl rfl rfl (fun h=>(y2K h).symm) (fun _ zoC=>?_) ?_
    · skip
      refine WL.pu rfl (WL.pu rfl (WL.pu rfl (WL.pu rfl ?_)))
      exact WL.ys (y2L zoC) rfl rfl .all
    refine WL.pu rfl ?_
    refine WL.seg true 4 55 (B:=zg6) rfl rfl rfl rfl rfl rfl (fun h=>(Option.some.inj (yn zjT h)).symm) (fun _ zoD=>?_) ?_
    · skip
      have zcJ:=ym zjT zoD
      obtain ⟨zjR,zoE,zcJ⟩:=zf zcJ
      replace zcJ:=Option.some.inj zcJ
      refine WL.a (d:=56) rfl rfl rfl (yF y1C rfl (y1i .h1) rfl) ?_
      refine WL.pu rfl (WL.pu rfl ?_)
      refine WL.b (dd:=59) rfl rfl rfl (zy (l:=[.tmp 56,.tmp 57,.tmp 58]) Try.call60 (.cons rfl (.cons rfl (.cons rfl .nil)))) .nil (cc hz .nil fun w pz ho=>y5L _ _ _ _ _ _ _ _ _ _ _ _ _ _ _ _ _ _ _ _ _ zoE w pz ze3 ze4 ze5 zcI ze6 ze7 ze8 ze9) ?_
      refine WL.pu rfl ?_
      exact WL.ys zcJ rfl rfl .all
    refine WL.pu rfl ?_
    refine WL.seg true 4 61 (B:=ze2) rfl rfl rfl rfl rfl rfl (fun h=>(Option.some.inj (yn zjU h)).symm) (fun _ zoF=>?_) ?_
    · skip
      have zcK:=ym zjU zoF
      obtain ⟨zjS,zoG,zcK⟩:=zf zcK
      replace zcK:=Option.some.inj zcK
      refine WL.a (d:=62) rfl rfl rfl (yF y1C rfl (y1i .h1) rfl) ?_
      refine WL.pu rfl (WL.pu rfl ?_)
      refine WL.b (dd:=65) rfl rfl rfl (zy (l:=[.tmp 62,.tmp 63,.tmp 64]) Try.call60 (.cons rfl (.cons rfl (.cons rfl .nil)))) .nil (cc hz .nil fun w pz ho=>y5L _ _ _ _ _ _ _ _ _ _ _ _ _ _ _ _ _ _ _ _ _ zoG w pz ze3 ze4 ze5 zcI ze6 ze7 ze8 ze9) ?_
      refine WL.pu rfl ?_
      exact WL.ys zcK rfl rfl .all
    refine WL.pu rfl ?_
    refine WL.seg true 18 67 (B:=ze2 && (((decide (z42 = z3v)) && (decide (z43 = z3w))) || ((decide (z42 = z3w)) && (decide (z43 = z3v))))) rfl rfl rfl rfl rfl rfl (fun h=>(y2K h).symm) (fun _ zoH=>?_) ?_
    · skip
      refine WL.pu rfl (WL.pu rfl (WL.pu rfl (WL.pu rfl ?_)))
      refine WL.seg true 3 71 (B:=(decide (z42 = z3v)) && (decide (z43 = z3w))) rfl rfl rfl rfl rfl rfl (fun h=>(y2K h).symm) (fun _ zoI=>?_) ?_
      · skip
        refine WL.pu rfl (WL.pu rfl (WL.pu rfl (WL.pu rfl ?_)))
        exact WL.ys (y2L zoI) rfl rfl .all
      refine WL.pu rfl ?_
      refine WL.seg false 8 76 (B:=((decide (z42 = z3v)) && (decide (z43 = z3w))) || ((decide (z42 = z3w)) && (decide (z43 = z3v)))) rfl rfl rfl rfl rfl rfl (fun h=>(y25 h).symm) (fun _ zoJ=>?_) ?_
      · skip
        refine WL.pu rfl (WL.pu rfl (WL.pu rfl (WL.pu rfl ?_)))
        refine WL.seg true 3 80 (B:=(decide (z42 = z3w)) && (decide (z43 = z3v))) rfl rfl rfl rfl rfl rfl (fun h=>(y2K h).symm) (fun _ zoK=>?_) ?_
        · skip
          refine WL.pu rfl (WL.pu rfl (WL.pu rfl (WL.pu rfl ?_)))
          exact WL.ys (y2L zoK) rfl rfl .all
        refine WL.pu rfl ?_
        exact WL.ys (y26 zoJ) rfl rfl .all
      refine WL.pu rfl ?_
      exact WL.ys (y2L zoH) rfl rfl .all
    refine WL.pu rfl (WL.nil (WX.a (WC.ret ?_)))
    obtain rfl:=Option.some.inj h
    refine WX.yh Try.results48 (.tmp rfl .nil) (fun w hw=>?_)
    exact ⟨y10 rfl,hw.sub .nil⟩
def y1N (zm : List Sapi_Hop) (zz : Sapi_Config) (z28 : Int) (z6u : Option Bool) : Nat → Int → (List (Int × Int)) → Option Bool
  | 0,_,_=>none
  | zg8 + 1,zt,z2P=>if decide (zt < ((zm.length : Nat) : Int)) then chk ((0 : Int) ≤ zt ∧ zt < ((zm.length : Nat) : Int)) (jp1 (fun (z1l : List (Int × Int))=>chk (((decide ((yw z1l ((nth zm zt).fNode) 0) = 0)) || (decide ((yw z1l ((nth zm zt).fNext) 0) > 0))) = false → ((decide (zt > 0)) = true → ((0 : Int) ≤ 0 ∧ 0 < ((zm.length : Nat) : Int)))) ((if ((decide ((yw z1l ((nth zm zt).fNode) 0) = 0)) || (decide ((yw z1l ((nth zm zt).fNext) 0) > 0))) || (((decide (zt > 0)) && (decide (((nth zm zt).fNode) ≠ ((nth zm 0).fNode)))) && (decide (((nth zm zt).fNode) < ((zz.fModules.length : Nat) : Int)))) then some true else (y3i zz z28 ((nth zm zt).fLink) ((nth zm zt).fNode) ((nth zm zt).fNext)).bind fun zjV=>some (!zjV)).bind fun zg9=>if zg9 then some false else y1N zm zz z28 z6u zg8 (i64 (zt + 1)) (y12 z1l ((nth zm zt).fNext) (i64 ((yw z1l ((nth zm zt).fNext) 0) + 1))))) fun zea=>if decide (zt = 0) then zea (y12 z2P ((nth zm zt).fNode) (i64 ((yw z2P ((nth zm zt).fNode) 0) + 1))) else zea z2P) else z6u
theorem y5i {n : Nat} {zm : List Sapi_Hop} {zz : Sapi_Config} {z28 : Int} {z6u : Option Bool} {zt : Int} {z2P : List (Int × Int)} {r : Bool} (h : y1N zm zz z28 z6u n zt z2P = some r) : ∃ m,n = m + 1:=by
  cases n with
  | zero=>cases h
  | succ m=>exact ⟨m,rfl⟩
def y3j (zz : Sapi_Config) (z28 : Int) (zm : List Sapi_Hop) : Option Bool :=
  jp0 (some (decide (((zm.length : Nat) : Int) ≤ 32))) fun z6u=>y1N zm zz z28 z6u yz 0 ([] : List (Int × Int))
set_option maxRecDepth 20000 in
theorem y7q (Z : Zp) (z8n : Option Addr) (z8o : Nat) (z8p : Option Addr) (z8q : Nat) (z8r : Option Addr) (z8s : Nat) (z8t : Option Addr) (z8u : Nat) (z8v : Option Addr) (z8w : Nat) (z8x : Option Addr) (z8y : Nat) (z8z : Option Addr) (z8A : Nat) (z8B : Option Addr) (z8C : Nat) (z29 : Option Addr) (z2a : Nat) (zz : Sapi_Config) (z28 : Int) (zm : List Sapi_Hop) (r : Bool)
     (h : y3j zz z28 zm = some r) (w₀ : World) (hz : PZ [] w₀ Z)
     (zoL : ZS Z 4 (y2x Z) z8n z8o zz.fModules)
     (zoM : ZS Z 4 (y2S Z) z8p z8q zz.fChannels)
     (zoN : ZS Z 4 (fun r x=>r = e64 x) z8r z8s zz.fSwitches)
     (zoO : ZS Z 4 (fun r x=>r = e62 x) z8t z8u zz.fLinks)
     (zoP : ZS Z 7 (y2G Z) z8v z8w zz.fVLs)
     (zoQ : ZS Z 5 (fun r x=>r = y37 x) z8x z8y zz.fHealth)
     (zoR : ZS Z 3 (y2T Z) z8z z8A zz.fCauses)
     (zoS : ZS Z 4 (fun r x=>r = y38 x) z8B z8C zz.fVersions)
     (zjW : ZS Z 3 (fun r x=>r = e59 x) z29 z2a zm) :
    Calls Try.prog 36 #[(.agg #[(.slice z8n zz.fModules.length z8o),(.slice z8p zz.fChannels.length z8q),(.slice z8r zz.fSwitches.length z8s),(.slice z8t zz.fLinks.length z8u),(.slice z8v zz.fVLs.length z8w),(.slice z8x zz.fHealth.length z8y),(.slice z8z zz.fCauses.length z8A),(.slice z8B zz.fVersions.length z8C)]),(.int .i64 z28),(.slice z29 zm.length z2a)] w₀ fun e w'=>e = .returned (.bool r) ∧ Hp [] w₀ w' []:=by
  unfold y3j at h
  refine Calls.yl (vs:=[(.agg #[(.slice z8n zz.fModules.length z8o),(.slice z8p zz.fChannels.length z8q),(.slice z8r zz.fSwitches.length z8s),(.slice z8t zz.fLinks.length z8u),(.slice z8v zz.fVLs.length z8w),(.slice z8x zz.fHealth.length z8y),(.slice z8z zz.fCauses.length z8A),(.slice z8B zz.fVersions.length z8C)]),(.int .i64 z28),(.slice z29 zm.length z2a)]) (pre:=[]) (env:=[(0,(.agg #[(.slice z8n zz.fModules.length z8o),(.slice z8p zz.fChannels.length z8q),(.slice z8r zz.fSwitches.length z8s),(.slice z8t zz.fLinks.length z8u),(.slice z8v zz.fVLs.length z8w),(.slice z8x zz.fHealth.length z8y),(.slice z8z zz.fCauses.length z8A),(.slice z8B zz.fVersions.length z8C)])),(1,(.int .i64 z28)),(2,(.slice z29 zm.length z2a))]) Try.func36 rfl Try.ntmps36 rfl (Hp.nil w₀ _) rfl ?_
  refine WC.b (WC.a ?_)
  refine WL.new (dd:=3) rfl rfl rfl (y2g (cs:=[(.slice z8n zz.fModules.length z8o),(.slice z8p zz.fChannels.length z8q),(.slice z8r zz.fSwitches.length z8s),(.slice z8t zz.fLinks.length z8u),(.slice z8v zz.fVLs.length z8w),(.slice z8x zz.fHealth.length z8y),(.slice z8z zz.fCauses.length z8A),(.slice z8B zz.fVersions.length z8C)]) rfl rfl) ?_
  intro z6v _
  refine WL.pu rfl (WL.nil (WX.a (WC.b (WC.a ?_))))
  refine WL.new (dd:=10) rfl rfl rfl (y7Y (Value.int .i64) (Value.int .i64)) ?_
  intro z6w _
  refine WL.pu rfl (WL.nil (WX.a ?_))
  obtain ⟨z6u,zoT,h⟩:=y2P h
  refine WC.y2p ((z6u = some r)) ([(2,(.slice z29 zm.length z2a))]) ([]) ?_ ?_
  · skip
    refine WC.b (WC.a (WL.pu rfl ?_))
    refine WL.a (d:=12) rfl rfl rfl (yW Try.underlying55 rfl) ?_
    refine WL.pu rfl (WL.nil (WX.a (WC.block ?_)))
    refine WC.y28 (fun (za3 : Nat) (zt : Int) (z2P : List (Int × Int))=>(y1N zm zz z28 z6u za3 zt z2P = some r)) (fun (za3 : Nat) (zt : Int) (z2P : List (Int × Int))=>[(1,(.int .i64 z28)),(2,(.slice z29 zm.length z2a)),(3,(.pointer (some ⟨z6v,0,none⟩))),(7,(.map (some z6w))),(11,(.slice z29 zm.length z2a)),(12,(.int .i64 ((zm.length : Nat) : Int))),(13,(.int .i64 zt))]) (fun (za3 : Nat) (zt : Int) (z2P : List (Int × Int))=>[stb z6v 31 [(.slice z8n zz.fModules.length z8o),(.slice z8p zz.fChannels.length z8q),(.slice z8r zz.fSwitches.length z8s),(.slice z8t zz.fLinks.length z8u),(.slice z8v zz.fVLs.length z8w),(.slice z8x zz.fHealth.length z8y),(.slice z8z zz.fCauses.length z8A),(.slice z8B zz.fVersions.length z8C)],y1e z6w (Value.int .i64) (Value.int .i64) z2P]) (fun (za3 : Nat) (zt : Int) (z2P : List (Int × Int))=>za3) ⟨yz,0,([] : List (Int × Int))⟩ h (.cons rfl (.cons rfl (.cons rfl (.cons rfl (.cons rfl (.cons rfl (.cons rfl .nil))))))) (.cons .h1 (.cons .here .nil)) ?_
    rintro za3 zt z2P h
    obtain ⟨zg8,rfl⟩:=y5i h
    rw [y1N] at h
    refine WC.b (WC.a (WL.pu rfl (WL.nil (WX.a (WC.b ?_)))))
    refine WC.cond rfl (fun zga=>?_) (fun zga=>?_)
    · replace h:=ym h zga
      refine WC.skip (WX.a (WC.b (WC.block (WC.b ?_))))
      obtain ⟨zoU,h⟩:=yj h
      refine WC.a (WL.pu rfl ?_)
      refine WL.znth (dd:=16) rfl rfl (Z:=Z) (Pr:=(fun r x=>r = e59 x)) y6z rfl rfl zjW zoU ?_
      rintro zvd zve zoV zvf rfl
      refine WL.a (d:=17) rfl rfl rfl (yF y6P rfl (y3G hz.pv zoV) rfl) ?_
      refine WL.new (dd:=9) rfl rfl rfl (y2u (cs:=[(.int .i64 0),(.int .i64 0),(.int .i64 0)]) y8q rfl) ?_
      intro z8D _
      refine WL.pu rfl ?_
      refine WL.y1o rfl rfl (y22 y90 rfl rfl rfl .here rfl rfl rfl) ?_
      refine WL.nil (WX.a ?_)
      obtain ⟨zea,zoW,h⟩:=y19 h
      refine WC.y1H (fun (z1l : List (Int × Int))=>(zea z1l = some r)) (fun (z1l : List (Int × Int))=>[(1,(.int .i64 z28)),(2,(.slice z29 zm.length z2a)),(3,(.pointer (some ⟨z6v,0,none⟩))),(7,(.map (some z6w))),(8,(.int .i64 zt)),(9,(.pointer (some ⟨z8D,0,none⟩))),(11,(.slice z29 zm.length z2a)),(12,(.int .i64 ((zm.length : Nat) : Int))),(13,(.int .i64 zt))]) (fun (z1l : List (Int × Int))=>[stb z6v 31 [(.slice z8n zz.fModules.length z8o),(.slice z8p zz.fChannels.length z8q),(.slice z8r zz.fSwitches.length z8s),(.slice z8t zz.fLinks.length z8u),(.slice z8v zz.fVLs.length z8w),(.slice z8x zz.fHealth.length z8y),(.slice z8z zz.fCauses.length z8A),(.slice z8B zz.fVersions.length z8C)],y1e z6w (Value.int .i64) (Value.int .i64) z1l,stb z8D 59 [(.int .i64 ((nth zm zt).fNode)),(.int .i64 ((nth zm zt).fNext)),(.int .i64 ((nth zm zt).fLink))]]) ?_ ?_
      · skip
        refine WC.b (WC.a (WL.pu rfl (WL.pu rfl (WL.nil (WX.a ?_)))))
        refine WC.cond rfl (fun zgb=>?_) (fun zgb=>?_)
        · replace h:=ym h zgb
          refine WC.a (WL.pu rfl ?_)
          refine WL.a (d:=21) rfl rfl rfl (ya y3q rfl rfl) ?_
          refine WL.a (d:=22) rfl rfl rfl (yb yf rfl (ye .here rfl)) ?_
          refine WL.a (d:=23) rfl rfl rfl (y4t (k:=((nth zm zt).fNode)) (dflt:=(0 : Int)) y5E Try.underlying125 y6Q rfl rfl rfl .h2) ?_
          refine WL.pu rfl ?_
          refine WL.y1o rfl rfl (y5r (k:=((nth zm zt).fNode)) (v:=i64 ((yw z2P ((nth zm zt).fNode) 0) + 1)) y5E Try.underlying125 rfl rfl rfl rfl .h2) ?_
          refine WL.nil ?_
          exact WX.mid (G:=(List (Int × Int))) (y12 z2P ((nth zm zt).fNode) (i64 ((yw z2P ((nth zm zt).fNode) 0) + 1))) h (.cons rfl (.cons rfl (.cons rfl (.cons rfl (.cons rfl (.cons rfl (.cons rfl (.cons rfl (.cons rfl .nil))))))))) (.cons .h2 (.cons .here (.cons .here .nil)))
        · replace h:=yn h zgb
          refine WC.skip ?_
          exact WX.mid (G:=(List (Int × Int))) z2P h (.cons rfl (.cons rfl (.cons rfl (.cons rfl (.cons rfl (.cons rfl (.cons rfl (.cons rfl (.cons rfl .nil))))))))) (.cons .h1 (.cons .h1 (.cons .here .nil)))
      · rintro z1l h
        replace h:=(zoW z1l).symm.trans h
        refine WC.b (WC.b ?_)
        obtain ⟨zoX,h⟩:=yj h
        obtain ⟨zg9,zjX,h⟩:=zf h
        refine WC.yZ (fun i=>[].contains i) [] rfl ?_
        refine WD.a (i:=0) (d:=25) (by kernel_rfl) rfl (z2 (by kernel_rfl)) (z3 (by kernel_rfl)) rfl rfl rfl (fun _=>q_m rfl) ?_
        refine WD.a (i:=1) (d:=26) (by kernel_rfl) rfl (z2 (by kernel_rfl)) (z3 (by kernel_rfl)) rfl rfl rfl (fun _=>ya y3q rfl rfl) ?_
        refine WD.e (i:=2) (d:=27) (by kernel_rfl) rfl (z2 (by kernel_rfl)) (z3 (by kernel_rfl)) rfl rfl rfl (yb yf rfl (ye .h2 rfl)) ?_
        refine WD.e (i:=3) (d:=28) (by kernel_rfl) rfl (z2 (by kernel_rfl)) (z3 (by kernel_rfl)) rfl rfl rfl (y4t (k:=((nth zm zt).fNode)) (dflt:=(0 : Int)) y5E Try.underlying125 y6Q rfl rfl rfl .h1) ?_
        refine WD.a (i:=4) (d:=29) (by kernel_rfl) rfl (z2 (by kernel_rfl)) (z3 (by kernel_rfl)) rfl rfl rfl (fun _=>q_eql rfl rfl) ?_
        refine WD.a (i:=5) (d:=30) (by kernel_rfl) rfl (z2 (by kernel_rfl)) (z3 (by kernel_rfl)) rfl rfl rfl (fun _=>q_m rfl) ?_
        refine WD.mid (fuel':=33) [(1,(.int .i64 z28)),(2,(.slice z29 zm.length z2a)),(3,(.pointer (some ⟨z6v,0,none⟩))),(7,(.map (some z6w))),(8,(.int .i64 zt)),(9,(.pointer (some ⟨z8D,0,none⟩))),(11,(.slice z29 zm.length z2a)),(12,(.int .i64 ((zm.length : Nat) : Int))),(13,(.int .i64 zt)),(30,(.bool (decide ((yw z1l ((nth zm zt).fNode) 0) = 0)))),(36,(.bool ((decide ((yw z1l ((nth zm zt).fNode) 0) = 0)) || (decide ((yw z1l ((nth zm zt).fNext) 0) > 0)))))] (y1I 45 [11,10,9,8,7,6,5,4,3,2,1,0]) ?_ (fun zjY=>?_)
        rotate_left
        · rcases Bool.eq_false_or_eq_true (decide ((yw z1l ((nth zm zt).fNode) 0) = 0)) with hb' | hb'
          · have zgc:=hb'; clear hb'
            refine WD.pin (i:=30) rfl zgc ?_
            refine WD.b (i:=6) (d:=31) (by kernel_rfl) rfl (z2 (by kernel_rfl)) (z3 (by kernel_rfl)) rfl rfl rfl ?_
            refine WD.b (i:=7) (d:=32) (by kernel_rfl) rfl (z2 (by kernel_rfl)) (z3 (by kernel_rfl)) rfl rfl rfl ?_
            refine WD.b (i:=8) (d:=33) (by kernel_rfl) rfl (z2 (by kernel_rfl)) (z3 (by kernel_rfl)) rfl rfl rfl ?_
            refine WD.b (i:=9) (d:=34) (by kernel_rfl) rfl (z2 (by kernel_rfl)) (z3 (by kernel_rfl)) rfl rfl rfl ?_
            refine WD.b (i:=10) (d:=35) (by kernel_rfl) rfl (z2 (by kernel_rfl)) (z3 (by kernel_rfl)) rfl rfl rfl ?_
            refine WD.a (i:=11) (d:=36) (by kernel_rfl) rfl (z2 (by kernel_rfl)) (z3 (by kernel_rfl)) rfl rfl rfl (fun _=>y1w rfl rfl) ?_
            refine WD.yS (.cons .here (.cons .here (.cons .here .nil))) ?_ zjY
            exact (.cons rfl (.cons rfl (.cons rfl (.cons rfl (.cons rfl (.cons rfl (.cons rfl (.cons rfl (.cons rfl (.cons (zq (Eq.symm zgc)) (.cons (zq (y25 zgc)) .nil)))))))))))
          · have zgd:=hb'; clear hb'
            refine WD.pin (i:=30) rfl zgd ?_
            refine WD.a (i:=6) (d:=31) (by kernel_rfl) rfl (z2 (by kernel_rfl)) (z3 (by kernel_rfl)) rfl rfl rfl (fun _=>q_m rfl) ?_
            refine WD.a (i:=7) (d:=32) (by kernel_rfl) rfl (z2 (by kernel_rfl)) (z3 (by kernel_rfl)) rfl rfl rfl (fun _=>ya y4Y rfl rfl) ?_
            refine WD.e (i:=8) (d:=33) (by kernel_rfl) rfl (z2 (by kernel_rfl)) (z3 (by kernel_rfl)) rfl rfl rfl (yb yf rfl (ye .h2 rfl)) ?_
            refine WD.e (i:=9) (d:=34) (by kernel_rfl) rfl (z2 (by kernel_rfl)) (z3 (by kernel_rfl)) rfl rfl rfl (y4t (k:=((nth zm zt).fNext)) (dflt:=(0 : Int)) y5E Try.underlying125 y6Q rfl rfl rfl .h1) ?_
            refine WD.a (i:=10) (d:=35) (by kernel_rfl) rfl (z2 (by kernel_rfl)) (z3 (by kernel_rfl)) rfl rfl rfl (fun _=>y3F rfl rfl) ?_
            refine WD.a (i:=11) (d:=36) (by kernel_rfl) rfl (z2 (by kernel_rfl)) (z3 (by kernel_rfl)) rfl rfl rfl (fun _=>y1x rfl rfl) ?_
            refine WD.yS (.cons .here (.cons .here (.cons .here .nil))) ?_ zjY
            exact (.cons rfl (.cons rfl (.cons rfl (.cons rfl (.cons rfl (.cons rfl (.cons rfl (.cons rfl (.cons rfl (.cons (zq (Eq.symm zgd)) (.cons (zq (y26 zgd)) .nil)))))))))))
        refine WD.d #[true,true,true,true,true,true,true,true,true,true,true,true,false,false,false,false,false,false,false,false,false,false,false,false,false,false,false,false,false,false,false,false,false,false,false,false,false,false,false,false,false,false,false,false,false] (by kernel_rfl) ?_
        refine WD.a (i:=12) (d:=37) (by kernel_rfl) rfl (z2 (by kernel_rfl)) (z3 (by kernel_rfl)) rfl rfl rfl (fun _=>q_m rfl) ?_
        refine WD.mid (fuel':=12) [(1,(.int .i64 z28)),(2,(.slice z29 zm.length z2a)),(3,(.pointer (some ⟨z6v,0,none⟩))),(7,(.map (some z6w))),(9,(.pointer (some ⟨z8D,0,none⟩))),(11,(.slice z29 zm.length z2a)),(12,(.int .i64 ((zm.length : Nat) : Int))),(13,(.int .i64 zt)),(37,(.bool ((decide ((yw z1l ((nth zm zt).fNode) 0) = 0)) || (decide ((yw z1l ((nth zm zt).fNext) 0) > 0))))),(57,(.bool (((decide ((yw z1l ((nth zm zt).fNode) 0) = 0)) || (decide ((yw z1l ((nth zm zt).fNext) 0) > 0))) || (((decide (zt > 0)) && (decide (((nth zm zt).fNode) ≠ ((nth zm 0).fNode)))) && (decide (((nth zm zt).fNode) < ((zz.fModules.length : Nat) : Int)))))))] (y1I 45 [32,31,30,29,28,27,26,25,24,23,22,21,20,19,18,17,16,15,14,13,12,11,10,9,8,7,6,5,4,3,2,1,0]) ?_ (fun zjZ=>?_)
        rotate_left
        · rcases Bool.eq_false_or_eq_true ((decide ((yw z1l ((nth zm zt).fNode) 0) = 0)) || (decide ((yw z1l ((nth zm zt).fNext) 0) > 0))) with hb' | hb'
          · have zge:=hb'; clear hb'
            refine WD.pin (i:=37) rfl zge ?_
            refine WD.b (i:=13) (d:=38) (by kernel_rfl) rfl (z2 (by kernel_rfl)) (z3 (by kernel_rfl)) rfl rfl rfl ?_
            refine WD.b (i:=14) (d:=39) (by kernel_rfl) rfl (z2 (by kernel_rfl)) (z3 (by kernel_rfl)) rfl rfl rfl ?_
            refine WD.b (i:=15) (d:=40) (by kernel_rfl) rfl (z2 (by kernel_rfl)) (z3 (by kernel_rfl)) rfl rfl rfl ?_
            refine WD.b (i:=16) (d:=41) (by kernel_rfl) rfl (z2 (by kernel_rfl)) (z3 (by kernel_rfl)) rfl rfl rfl ?_
            refine WD.b (i:=17) (d:=42) (by kernel_rfl) rfl (z2 (by kernel_rfl)) (z3 (by kernel_rfl)) rfl rfl rfl ?_
            refine WD.b (i:=18) (d:=43) (by kernel_rfl) rfl (z2 (by kernel_rfl)) (z3 (by kernel_rfl)) rfl rfl rfl ?_
            refine WD.b (i:=19) (d:=44) (by kernel_rfl) rfl (z2 (by kernel_rfl)) (z3 (by kernel_rfl)) rfl rfl rfl ?_
            refine WD.b (i:=20) (d:=45) (by kernel_rfl) rfl (z2 (by kernel_rfl)) (z3 (by kernel_rfl)) rfl rfl rfl ?_
            refine WD.b (i:=21) (d:=46) (by kernel_rfl) rfl (z2 (by kernel_rfl)) (z3 (by kernel_rfl)) rfl rfl rfl ?_
            refine WD.b (i:=22) (d:=47) (by kernel_rfl) rfl (z2 (by kernel_rfl)) (z3 (by kernel_rfl)) rfl rfl rfl ?_
            refine WD.b (i:=23) (d:=48) (by kernel_rfl) rfl (z2 (by kernel_rfl)) (z3 (by kernel_rfl)) rfl rfl rfl ?_
            refine WD.b (i:=24) (d:=49) (by kernel_rfl) rfl (z2 (by kernel_rfl)) (z3 (by kernel_rfl)) rfl rfl rfl ?_
            refine WD.b (i:=25) (d:=50) (by kernel_rfl) rfl (z2 (by kernel_rfl)) (z3 (by kernel_rfl)) rfl rfl rfl ?_
            refine WD.b (i:=26) (d:=51) (by kernel_rfl) rfl (z2 (by kernel_rfl)) (z3 (by kernel_rfl)) rfl rfl rfl ?_
            refine WD.b (i:=27) (d:=52) (by kernel_rfl) rfl (z2 (by kernel_rfl)) (z3 (by kernel_rfl)) rfl rfl rfl ?_
            refine WD.b (i:=28) (d:=53) (by kernel_rfl) rfl (z2 (by kernel_rfl)) (z3 (by kernel_rfl)) rfl rfl rfl ?_
            refine WD.b (i:=29) (d:=54) (by kernel_rfl) rfl (z2 (by kernel_rfl)) (z3 (by kernel_rfl)) rfl rfl rfl ?_
            refine WD.b (i:=30) (d:=55) (by kernel_rfl) rfl (z2 (by kernel_rfl)) (z3 (by kernel_rfl)) rfl rfl rfl ?_
            refine WD.b (i:=31) (d:=56) (by kernel_rfl) rfl (z2 (by kernel_rfl)) (z3 (by kernel_rfl)) rfl rfl rfl ?_
            refine WD.a (i:=32) (d:=57) (by kernel_rfl) rfl (z2 (by kernel_rfl)) (z3 (by kernel_rfl)) rfl rfl rfl (fun _=>y1w rfl rfl) ?_
            refine WD.yS (.cons .here (.cons .here (.cons .here .nil))) ?_ zjZ
            exact (.cons rfl (.cons rfl (.cons rfl (.cons rfl (.cons rfl (.cons rfl (.cons rfl (.cons rfl (.cons (zq (Eq.symm zge)) (.cons (zq (y25 zge)) .nil))))))))))
          · have zeb:=hb'; clear hb'
            have zoY:=zoX zeb
            refine WD.pin (i:=37) rfl zeb ?_
            refine WD.a (i:=13) (d:=38) (by kernel_rfl) rfl (z2 (by kernel_rfl)) (z3 (by kernel_rfl)) rfl rfl rfl (fun _=>q_m rfl) ?_
            refine WD.a (i:=14) (d:=39) (by kernel_rfl) rfl (z2 (by kernel_rfl)) (z3 (by kernel_rfl)) rfl rfl rfl (fun _=>y3F rfl rfl) ?_
            refine WD.a (i:=15) (d:=40) (by kernel_rfl) rfl (z2 (by kernel_rfl)) (z3 (by kernel_rfl)) rfl rfl rfl (fun _=>q_m rfl) ?_
            refine WD.mid (fuel':=21) [(1,(.int .i64 z28)),(2,(.slice z29 zm.length z2a)),(3,(.pointer (some ⟨z6v,0,none⟩))),(7,(.map (some z6w))),(9,(.pointer (some ⟨z8D,0,none⟩))),(11,(.slice z29 zm.length z2a)),(12,(.int .i64 ((zm.length : Nat) : Int))),(13,(.int .i64 zt)),(37,(.bool false)),(40,(.bool (decide (zt > 0)))),(48,(.bool ((decide (zt > 0)) && (decide (((nth zm zt).fNode) ≠ ((nth zm 0).fNode))))))] (y1I 45 [23,22,21,20,19,18,17,16,15,14,13,12,11,10,9,8,7,6,5,4,3,2,1,0]) ?_ (fun zk0=>?_)
            rotate_left
            · rcases Bool.eq_false_or_eq_true (decide (zt > 0)) with hb' | hb'
              · have zec:=hb'; clear hb'
                have zoZ:=zoY zec
                refine WD.pin (i:=40) rfl zec ?_
                refine WD.a (i:=16) (d:=41) (by kernel_rfl) rfl (z2 (by kernel_rfl)) (z3 (by kernel_rfl)) rfl rfl rfl (fun _=>ya y3q rfl rfl) ?_
                refine WD.e (i:=17) (d:=42) (by kernel_rfl) rfl (z2 (by kernel_rfl)) (z3 (by kernel_rfl)) rfl rfl rfl (yb yf rfl (ye .h2 rfl)) ?_
                refine WD.a (i:=18) (d:=43) (by kernel_rfl) rfl (z2 (by kernel_rfl)) (z3 (by kernel_rfl)) rfl rfl rfl (fun _=>q_m rfl) ?_
                refine WD.znth (j:=19) (dd:=44) (by kernel_rfl) rfl (z2 (by kernel_rfl)) (z3 (by kernel_rfl)) rfl rfl (Z:=Z) (Pr:=(fun r x=>r = e59 x)) y6z rfl rfl zjW zoZ ?_
                rintro zvg zvh zp0 zvi rfl
                refine WD.a (i:=20) (d:=45) (by kernel_rfl) rfl (z2 (by kernel_rfl)) (z3 (by kernel_rfl)) rfl rfl rfl (fun _=>ya y3q rfl rfl) ?_
                refine WD.e (i:=21) (d:=46) (by kernel_rfl) rfl (z2 (by kernel_rfl)) (z3 (by kernel_rfl)) rfl rfl rfl (yb yf rfl (y2e hz.pv zp0 rfl)) ?_
                refine WD.a (i:=22) (d:=47) (by kernel_rfl) rfl (z2 (by kernel_rfl)) (z3 (by kernel_rfl)) rfl rfl rfl (fun _=>q_neq rfl rfl) ?_
                refine WD.a (i:=23) (d:=48) (by kernel_rfl) rfl (z2 (by kernel_rfl)) (z3 (by kernel_rfl)) rfl rfl rfl (fun _=>y1w rfl rfl) ?_
                refine WD.yS (.cons .here (.cons .here (.cons .here .nil))) ?_ zk0
                exact (.cons rfl (.cons rfl (.cons rfl (.cons rfl (.cons rfl (.cons rfl (.cons rfl (.cons rfl (.cons rfl (.cons (zq (Eq.symm zec)) (.cons (zq (y2L zec)) .nil)))))))))))
              · have zgf:=hb'; clear hb'
                refine WD.pin (i:=40) rfl zgf ?_
                refine WD.b (i:=16) (d:=41) (by kernel_rfl) rfl (z2 (by kernel_rfl)) (z3 (by kernel_rfl)) rfl rfl rfl ?_
                refine WD.b (i:=17) (d:=42) (by kernel_rfl) rfl (z2 (by kernel_rfl)) (z3 (by kernel_rfl)) rfl rfl rfl ?_
                refine WD.b (i:=18) (d:=43) (by kernel_rfl) rfl (z2 (by kernel_rfl)) (z3 (by kernel_rfl)) rfl rfl rfl ?_
                refine WD.b (i:=19) (d:=44) (by kernel_rfl) rfl (z2 (by kernel_rfl)) (z3 (by kernel_rfl)) rfl rfl rfl ?_
                refine WD.b (i:=20) (d:=45) (by kernel_rfl) rfl (z2 (by kernel_rfl)) (z3 (by kernel_rfl)) rfl rfl rfl ?_
                refine WD.b (i:=21) (d:=46) (by kernel_rfl) rfl (z2 (by kernel_rfl)) (z3 (by kernel_rfl)) rfl rfl rfl ?_
                refine WD.b (i:=22) (d:=47) (by kernel_rfl) rfl (z2 (by kernel_rfl)) (z3 (by kernel_rfl)) rfl rfl rfl ?_
                refine WD.a (i:=23) (d:=48) (by kernel_rfl) rfl (z2 (by kernel_rfl)) (z3 (by kernel_rfl)) rfl rfl rfl (fun _=>y1x rfl rfl) ?_
                refine WD.yS (.cons .here (.cons .here (.cons .here .nil))) ?_ zk0
                exact (.cons rfl (.cons rfl (.cons rfl (.cons rfl (.cons rfl (.cons rfl (.cons rfl (.cons rfl (.cons rfl (.cons (zq (Eq.symm zgf)) (.cons (zq (y2K zgf)) .nil)))))))))))
            refine WD.d #[true,true,true,true,true,true,true,true,true,true,true,true,true,true,true,true,true,true,true,true,true,true,true,true,false,false,false,false,false,false,false,false,false,false,false,false,false,false,false,false,false,false,false,false,false] (by kernel_rfl) ?_
            refine WD.a (i:=24) (d:=49) (by kernel_rfl) rfl (z2 (by kernel_rfl)) (z3 (by kernel_rfl)) rfl rfl rfl (fun _=>q_m rfl) ?_
            refine WD.mid (fuel':=13) [(1,(.int .i64 z28)),(2,(.slice z29 zm.length z2a)),(3,(.pointer (some ⟨z6v,0,none⟩))),(7,(.map (some z6w))),(9,(.pointer (some ⟨z8D,0,none⟩))),(11,(.slice z29 zm.length z2a)),(12,(.int .i64 ((zm.length : Nat) : Int))),(13,(.int .i64 zt)),(37,(.bool false)),(49,(.bool ((decide (zt > 0)) && (decide (((nth zm zt).fNode) ≠ ((nth zm 0).fNode)))))),(56,(.bool (((decide (zt > 0)) && (decide (((nth zm zt).fNode) ≠ ((nth zm 0).fNode)))) && (decide (((nth zm zt).fNode) < ((zz.fModules.length : Nat) : Int))))))] (y1I 45 [31,30,29,28,27,26,25,24,23,22,21,20,19,18,17,16,15,14,13,12,11,10,9,8,7,6,5,4,3,2,1,0]) ?_ (fun zk1=>?_)
            rotate_left
            · rcases Bool.eq_false_or_eq_true ((decide (zt > 0)) && (decide (((nth zm zt).fNode) ≠ ((nth zm 0).fNode)))) with hb' | hb'
              · have zgg:=hb'; clear hb'
                refine WD.pin (i:=49) rfl zgg ?_
                refine WD.a (i:=25) (d:=50) (by kernel_rfl) rfl (z2 (by kernel_rfl)) (z3 (by kernel_rfl)) rfl rfl rfl (fun _=>ya y3q rfl rfl) ?_
                refine WD.e (i:=26) (d:=51) (by kernel_rfl) rfl (z2 (by kernel_rfl)) (z3 (by kernel_rfl)) rfl rfl rfl (yb yf rfl (ye .h2 rfl)) ?_
                refine WD.a (i:=27) (d:=52) (by kernel_rfl) rfl (z2 (by kernel_rfl)) (z3 (by kernel_rfl)) rfl rfl rfl (fun _=>ya y47 rfl rfl) ?_
                refine WD.e (i:=28) (d:=53) (by kernel_rfl) rfl (z2 (by kernel_rfl)) (z3 (by kernel_rfl)) rfl rfl rfl (yb y48 rfl (ye .here rfl)) ?_
                refine WD.a (i:=29) (d:=54) (by kernel_rfl) rfl (z2 (by kernel_rfl)) (z3 (by kernel_rfl)) rfl rfl rfl (fun _=>yW Try.underlying22 rfl) ?_
                refine WD.a (i:=30) (d:=55) (by kernel_rfl) rfl (z2 (by kernel_rfl)) (z3 (by kernel_rfl)) rfl rfl rfl (fun _=>y3n rfl rfl) ?_
                refine WD.a (i:=31) (d:=56) (by kernel_rfl) rfl (z2 (by kernel_rfl)) (z3 (by kernel_rfl)) rfl rfl rfl (fun _=>y1w rfl rfl) ?_
                refine WD.yS (.cons .here (.cons .here (.cons .here .nil))) ?_ zk1
                exact (.cons rfl (.cons rfl (.cons rfl (.cons rfl (.cons rfl (.cons rfl (.cons rfl (.cons rfl (.cons rfl (.cons (zq (Eq.symm zgg)) (.cons (zq (y2L zgg)) .nil)))))))))))
              · have zgh:=hb'; clear hb'
                refine WD.pin (i:=49) rfl zgh ?_
                refine WD.b (i:=25) (d:=50) (by kernel_rfl) rfl (z2 (by kernel_rfl)) (z3 (by kernel_rfl)) rfl rfl rfl ?_
                refine WD.b (i:=26) (d:=51) (by kernel_rfl) rfl (z2 (by kernel_rfl)) (z3 (by kernel_rfl)) rfl rfl rfl ?_
                refine WD.b (i:=27) (d:=52) (by kernel_rfl) rfl (z2 (by kernel_rfl)) (z3 (by kernel_rfl)) rfl rfl rfl ?_
                refine WD.b (i:=28) (d:=53) (by kernel_rfl) rfl (z2 (by kernel_rfl)) (z3 (by kernel_rfl)) rfl rfl rfl ?_
                refine WD.b (i:=29) (d:=54) (by kernel_rfl) rfl (z2 (by kernel_rfl)) (z3 (by kernel_rfl)) rfl rfl rfl ?_
                refine WD.b (i:=30) (d:=55) (by kernel_rfl) rfl (z2 (by kernel_rfl)) (z3 (by kernel_rfl)) rfl rfl rfl ?_
                refine WD.a (i:=31) (d:=56) (by kernel_rfl) rfl (z2 (by kernel_rfl)) (z3 (by kernel_rfl)) rfl rfl rfl (fun _=>y1x rfl rfl) ?_
                refine WD.yS (.cons .here (.cons .here (.cons .here .nil))) ?_ zk1
                exact (.cons rfl (.cons rfl (.cons rfl (.cons rfl (.cons rfl (.cons rfl (.cons rfl (.cons rfl (.cons rfl (.cons (zq (Eq.symm zgh)) (.cons (zq (y2K zgh)) .nil)))))))))))
            refine WD.d #[true,true,true,true,true,true,true,true,true,true,true,true,true,true,true,true,true,true,true,true,true,true,true,true,true,true,true,true,true,true,true,true,false,false,false,false,false,false,false,false,false,false,false,false,false] (by kernel_rfl) ?_
            refine WD.a (i:=32) (d:=57) (by kernel_rfl) rfl (z2 (by kernel_rfl)) (z3 (by kernel_rfl)) rfl rfl rfl (fun _=>y1x rfl rfl) ?_
            refine WD.yS (.cons .here (.cons .here (.cons .here .nil))) ?_ zjZ
            exact (.cons rfl (.cons rfl (.cons rfl (.cons rfl (.cons rfl (.cons rfl (.cons rfl (.cons rfl (.cons (zq (Eq.symm zeb)) (.cons (zq (y26 zeb)) .nil))))))))))
        refine WD.d #[true,true,true,true,true,true,true,true,true,true,true,true,true,true,true,true,true,true,true,true,true,true,true,true,true,true,true,true,true,true,true,true,true,false,false,false,false,false,false,false,false,false,false,false,false] (by kernel_rfl) ?_
        refine WD.a (i:=33) (d:=58) (by kernel_rfl) rfl (z2 (by kernel_rfl)) (z3 (by kernel_rfl)) rfl rfl rfl (fun _=>q_m rfl) ?_
        refine WD.mid (fuel':=0) [(1,(.int .i64 z28)),(2,(.slice z29 zm.length z2a)),(3,(.pointer (some ⟨z6v,0,none⟩))),(7,(.map (some z6w))),(9,(.pointer (some ⟨z8D,0,none⟩))),(11,(.slice z29 zm.length z2a)),(12,(.int .i64 ((zm.length : Nat) : Int))),(13,(.int .i64 zt)),(58,(.bool (((decide ((yw z1l ((nth zm zt).fNode) 0) = 0)) || (decide ((yw z1l ((nth zm zt).fNext) 0) > 0))) || (((decide (zt > 0)) && (decide (((nth zm zt).fNode) ≠ ((nth zm 0).fNode)))) && (decide (((nth zm zt).fNode) < ((zz.fModules.length : Nat) : Int))))))),(69,(.bool zg9))] (y1I 45 [44,43,42,41,40,39,38,37,36,35,34,33,32,31,30,29,28,27,26,25,24,23,22,21,20,19,18,17,16,15,14,13,12,11,10,9,8,7,6,5,4,3,2,1,0]) ?_ (fun zk2=>?_)
        rotate_left
        · rcases Bool.eq_false_or_eq_true (((decide ((yw z1l ((nth zm zt).fNode) 0) = 0)) || (decide ((yw z1l ((nth zm zt).fNext) 0) > 0))) || (((decide (zt > 0)) && (decide (((nth zm zt).fNode) ≠ ((nth zm 0).fNode)))) && (decide (((nth zm zt).fNode) < ((zz.fModules.length : Nat) : Int))))) with hb' | hb'
          · have zgi:=hb'; clear hb'
            have zgj:=ym zjX zgi
            replace zgj:=Option.some.inj zgj
            refine WD.pin (i:=58) rfl zgi ?_
            refine WD.b (i:=34) (d:=59) (by kernel_rfl) rfl (z2 (by kernel_rfl)) (z3 (by kernel_rfl)) rfl rfl rfl ?_
            refine WD.b (i:=35) (d:=60) (by kernel_rfl) rfl (z2 (by kernel_rfl)) (z3 (by kernel_rfl)) rfl rfl rfl ?_
            refine WD.b (i:=36) (d:=61) (by kernel_rfl) rfl (z2 (by kernel_rfl)) (z3 (by kernel_rfl)) rfl rfl rfl ?_
            refine WD.b (i:=37) (d:=62) (by kernel_rfl) rfl (z2 (by kernel_rfl)) (z3 (by kernel_rfl)) rfl rfl rfl ?_
            refine WD.b (i:=38) (d:=63) (by kernel_rfl) rfl (z2 (by kernel_rfl)) (z3 (by kernel_rfl)) rfl rfl rfl ?_
            refine WD.b (i:=39) (d:=64) (by kernel_rfl) rfl (z2 (by kernel_rfl)) (z3 (by kernel_rfl)) rfl rfl rfl ?_
            refine WD.b (i:=40) (d:=65) (by kernel_rfl) rfl (z2 (by kernel_rfl)) (z3 (by kernel_rfl)) rfl rfl rfl ?_
            refine WD.b (i:=41) (d:=66) (by kernel_rfl) rfl (z2 (by kernel_rfl)) (z3 (by kernel_rfl)) rfl rfl rfl ?_
            refine WD.b (i:=42) (d:=67) (by kernel_rfl) rfl (z2 (by kernel_rfl)) (z3 (by kernel_rfl)) rfl rfl rfl ?_
            refine WD.b (i:=43) (d:=68) (by kernel_rfl) rfl (z2 (by kernel_rfl)) (z3 (by kernel_rfl)) rfl rfl rfl ?_
            refine WD.a (i:=44) (d:=69) (by kernel_rfl) rfl (z2 (by kernel_rfl)) (z3 (by kernel_rfl)) rfl rfl rfl (fun _=>y1w rfl rfl) ?_
            refine WD.yS (.cons .here (.cons .here (.cons .here .nil))) ?_ zk2
            exact (.cons rfl (.cons rfl (.cons rfl (.cons rfl (.cons rfl (.cons rfl (.cons rfl (.cons rfl (.cons (zq (Eq.symm zgi)) (.cons (zq zgj) .nil))))))))))
          · have zgk:=hb'; clear hb'
            have zcL:=yn zjX zgk
            obtain ⟨zjV,zp1,zcL⟩:=zf zcL
            replace zcL:=Option.some.inj zcL
            refine WD.pin (i:=58) rfl zgk ?_
            refine WD.e (i:=34) (d:=59) (by kernel_rfl) rfl (z2 (by kernel_rfl)) (z3 (by kernel_rfl)) rfl rfl rfl (yF y1C rfl (y1i .here) rfl) ?_
            refine WD.a (i:=35) (d:=60) (by kernel_rfl) rfl (z2 (by kernel_rfl)) (z3 (by kernel_rfl)) rfl rfl rfl (fun _=>q_m rfl) ?_
            refine WD.a (i:=36) (d:=61) (by kernel_rfl) rfl (z2 (by kernel_rfl)) (z3 (by kernel_rfl)) rfl rfl rfl (fun _=>ya y6R rfl rfl) ?_
            refine WD.e (i:=37) (d:=62) (by kernel_rfl) rfl (z2 (by kernel_rfl)) (z3 (by kernel_rfl)) rfl rfl rfl (yb yf rfl (ye .h2 rfl)) ?_
            refine WD.a (i:=38) (d:=63) (by kernel_rfl) rfl (z2 (by kernel_rfl)) (z3 (by kernel_rfl)) rfl rfl rfl (fun _=>ya y3q rfl rfl) ?_
            refine WD.e (i:=39) (d:=64) (by kernel_rfl) rfl (z2 (by kernel_rfl)) (z3 (by kernel_rfl)) rfl rfl rfl (yb yf rfl (ye .h2 rfl)) ?_
            refine WD.a (i:=40) (d:=65) (by kernel_rfl) rfl (z2 (by kernel_rfl)) (z3 (by kernel_rfl)) rfl rfl rfl (fun _=>ya y4Y rfl rfl) ?_
            refine WD.e (i:=41) (d:=66) (by kernel_rfl) rfl (z2 (by kernel_rfl)) (z3 (by kernel_rfl)) rfl rfl rfl (yb yf rfl (ye .h2 rfl)) ?_
            refine WD.c (i:=42) (d:=67) (by kernel_rfl) rfl (z2 (by kernel_rfl)) (z3 (by kernel_rfl)) rfl rfl rfl (zy (l:=[.tmp 59,.tmp 60,.tmp 62,.tmp 64,.tmp 66]) Try.call48 (.cons rfl (.cons rfl (.cons rfl (.cons rfl (.cons rfl .nil)))))) (cc hz .nil fun w pz ho=>y7p _ _ _ _ _ _ _ _ _ _ _ _ _ _ _ _ _ _ _ _ _ _ _ zp1 w pz zoL zoM zoN zoO zoP zoQ zoR zoS) ?_
            refine WD.a (i:=43) (d:=68) (by kernel_rfl) rfl (z2 (by kernel_rfl)) (z3 (by kernel_rfl)) rfl rfl rfl (fun _=>q_not rfl) ?_
            refine WD.a (i:=44) (d:=69) (by kernel_rfl) rfl (z2 (by kernel_rfl)) (z3 (by kernel_rfl)) rfl rfl rfl (fun _=>y1x rfl rfl) ?_
            refine WD.yS (.cons .here (.cons .here (.cons .here .nil))) ?_ zk2
            exact (.cons rfl (.cons rfl (.cons rfl (.cons rfl (.cons rfl (.cons rfl (.cons rfl (.cons rfl (.cons (zq (Eq.symm zgk)) (.cons (zq zcL) .nil))))))))))
        refine WD.d #[true,true,true,true,true,true,true,true,true,true,true,true,true,true,true,true,true,true,true,true,true,true,true,true,true,true,true,true,true,true,true,true,true,true,true,true,true,true,true,true,true,true,true,true,true] (by kernel_rfl) ?_
        refine WD.done (by kernel_rfl) ?_
        refine WX.a ?_
        refine WC.cond rfl (fun zgl=>?_) (fun zgl=>?_)
        · replace h:=ym h zgl
          refine WC.b (WC.a (WL.pu rfl (WL.nil (WX.a (WC.ret (WX.yi (WX.yK (WX.yi (WX.yi (WX.yK (WX.yi ?_)))))))))))
          obtain rfl:=Option.some.inj h
          refine WX.yh Try.results36 (.tmp rfl .nil) (fun w hw=>?_)
          exact ⟨y10 rfl,hw.sub .nil⟩
        · replace h:=yn h zgl
          refine WC.skip (WX.a (WC.a (WL.pu rfl ?_)))
          refine WL.a (d:=71) rfl rfl rfl (ya y4Y rfl rfl) ?_
          refine WL.a (d:=72) rfl rfl rfl (yb yf rfl (ye .h2 rfl)) ?_
          refine WL.a (d:=73) rfl rfl rfl (y4t (k:=((nth zm zt).fNext)) (dflt:=(0 : Int)) y5E Try.underlying125 y6Q rfl rfl rfl .h1) ?_
          refine WL.pu rfl ?_
          refine WL.y1o rfl rfl (y5r (k:=((nth zm zt).fNext)) (v:=i64 ((yw z1l ((nth zm zt).fNext) 0) + 1)) y5E Try.underlying125 rfl rfl rfl rfl .h1) ?_
          refine WL.nil (WX.yg (WX.a (WC.a (WL.pu rfl (WL.pu rfl (WL.nil ?_))))))
          exact WX.round (G:=Nat × Int × (List (Int × Int))) ⟨zg8,(i64 (zt + 1)),(y12 z1l ((nth zm zt).fNext) (i64 ((yw z1l ((nth zm zt).fNext) 0) + 1)))⟩ h (Nat.lt_succ_self _) (.cons rfl (.cons rfl (.cons rfl (.cons rfl (.cons rfl (.cons rfl (.cons rfl .nil))))))) (.cons .h1 (.cons .here .nil))
    · replace h:=yn h zga
      refine WC.exit (WX.yd (WX.yd (WX.yA ?_)))
      exact WX.mid (G:=Unit) () h (.cons rfl .nil) .nil
  · rintro  h
    replace h:=zoT.symm.trans h
    refine WC.b (WC.a (WL.pu rfl ?_))
    refine WL.a (d:=77) rfl rfl rfl (yW Try.underlying55 rfl) ?_
    refine WL.pu rfl (WL.pu rfl (WL.nil (WX.a (WC.ret ?_))))
    obtain rfl:=Option.some.inj h
    refine WX.yh Try.results36 (.tmp rfl .nil) (fun w hw=>?_)
    exact ⟨y10 rfl,hw.sub .nil⟩
def yY (z8E : List Sapi_Hop) (z2b : Sapi_Config) (zed : Int) : Option Bool :=
  (y3j z2b zed z8E).bind fun zk3=>some (!zk3)
set_option maxRecDepth 20000 in
theorem y6V (Z : Zp) (zee : Option Addr) (zef : Nat) (zeg : Addr) (zk4 : Option Addr) (zk5 : Nat) (zk6 : Option Addr) (zk7 : Nat) (zk8 : Option Addr) (zk9 : Nat) (zka : Option Addr) (zkb : Nat) (zkc : Option Addr) (zkd : Nat) (zke : Option Addr) (zkf : Nat) (zkg : Option Addr) (zkh : Nat) (zki : Option Addr) (zkj : Nat) (zeh : Addr) (z8E : List Sapi_Hop) (z2b : Sapi_Config) (zed : Int) (r : Bool)
     (h : yY z8E z2b zed = some r) (w₀ : World) (hz : PZ [] w₀ Z)
     (zp2 : ZS Z 3 (fun r x=>r = e59 x) zee zef z8E)
     (zp3 : ZS Z 4 (y2x Z) zk4 zk5 z2b.fModules)
     (zp4 : ZS Z 4 (y2S Z) zk6 zk7 z2b.fChannels)
     (zp5 : ZS Z 4 (fun r x=>r = e64 x) zk8 zk9 z2b.fSwitches)
     (zp6 : ZS Z 4 (fun r x=>r = e62 x) zka zkb z2b.fLinks)
     (zp7 : ZS Z 7 (y2G Z) zkc zkd z2b.fVLs)
     (zp8 : ZS Z 5 (fun r x=>r = y37 x) zke zkf z2b.fHealth)
     (zp9 : ZS Z 3 (y2T Z) zkg zkh z2b.fCauses)
     (zpa : ZS Z 4 (fun r x=>r = y38 x) zki zkj z2b.fVersions)
     (zpb : ZC Z zeg [(.slice zk4 z2b.fModules.length zk5),(.slice zk6 z2b.fChannels.length zk7),(.slice zk8 z2b.fSwitches.length zk9),(.slice zka z2b.fLinks.length zkb),(.slice zkc z2b.fVLs.length zkd),(.slice zke z2b.fHealth.length zkf),(.slice zkg z2b.fCauses.length zkh),(.slice zki z2b.fVersions.length zkj)])
     (zpc : ZC Z zeh [(.int .i64 zed)]) :
    Calls Try.prog 35 #[(.slice zee z8E.length zef),(.pointer (some zeg)),(.pointer (some zeh))] w₀ fun e w'=>e = .returned (.bool r) ∧ Hp [] w₀ w' []:=by
  unfold yY at h
  refine Calls.yl (vs:=[(.slice zee z8E.length zef),(.pointer (some zeg)),(.pointer (some zeh))]) (pre:=[]) (env:=[(0,(.slice zee z8E.length zef)),(1,(.pointer (some zeg))),(2,(.pointer (some zeh)))]) Try.func35 rfl Try.ntmps35 rfl (Hp.nil w₀ _) rfl ?_
  refine WC.b (WC.a (WL.pu rfl (WL.nil (WX.a (WC.b ?_)))))
  obtain ⟨zk3,zpd,h⟩:=zf h
  refine WC.a ?_
  refine WL.a (d:=5) rfl rfl rfl (yF y1C rfl (y3G hz.pv zpb) rfl) ?_
  refine WL.a (d:=6) rfl rfl rfl (yb yf rfl (rd_z hz.pv zpc rfl)) ?_
  refine WL.pu rfl ?_
  refine WL.b (dd:=8) rfl rfl rfl (zy (l:=[.tmp 5,.tmp 6,.tmp 7]) Try.call36 (.cons rfl (.cons rfl (.cons rfl .nil)))) .nil (cc hz .nil fun w pz ho=>y7q _ _ _ _ _ _ _ _ _ _ _ _ _ _ _ _ _ _ _ _ _ _ _ zpd w pz zp3 zp4 zp5 zp6 zp7 zp8 zp9 zpa zp2) ?_
  refine WL.pu rfl (WL.pu rfl (WL.nil (WX.a (WC.ret ?_))))
  obtain rfl:=Option.some.inj h
  refine WX.yh Try.results35 (.tmp rfl .nil) (fun w hw=>?_)
  exact ⟨y10 rfl,hw.sub .nil⟩
def yu (z2n : List (List Sapi_Hop)) (z4I : (List Sapi_Hop) → Option Bool) (z6x : Option Int) : Nat → Int → Option Int
  | 0,_=>none
  | zgm + 1,z2B=>if decide (z2B < ((z2n.length : Nat) : Int)) then chk ((0 : Int) ≤ z2B ∧ z2B < ((z2n.length : Nat) : Int)) ((z4I (nth z2n z2B)).bind fun zgn=>if zgn then some z2B else yu z2n z4I z6x zgm (i64 (z2B + 1))) else z6x
theorem y3e {n : Nat} {z2n : List (List Sapi_Hop)} {z4I : (List Sapi_Hop) → Option Bool} {z6x : Option Int} {z2B : Int} {r : Int} (h : yu z2n z4I z6x n z2B = some r) : ∃ m,n = m + 1:=by
  cases n with
  | zero=>cases h
  | succ m=>exact ⟨m,rfl⟩
def y1n (z2n : List (List Sapi_Hop)) (z4I : (List Sapi_Hop) → Option Bool) : Option Int :=
  jp0 (some (-1)) fun z6x=>yu z2n z4I z6x yz 0
set_option maxRecDepth 20000 in
theorem y3T (Z : Zp) (zcM : Option Addr) (zcN : Nat) (z6y : FuncId) (z8F : List Value) (z2n : List (List Sapi_Hop)) (z4I : (List Sapi_Hop) → Option Bool) (r : Int)
     (h : y1n z2n z4I = some r) (w₀ : World) (hz : PZ [] w₀ Z)
     (zpe : ZS Z 1 (p55 Z) zcM zcN z2n)
     (zpf : ∀ args w,(callFunc z6y args).run Try.prog w = .ok (.enter z6y args) w)
     (zpg : ∀ w : World,PZ [] w Z → ∀ (x0 : List Sapi_Hop) (ao0 : Option Addr) (cap0 : Nat) (r : Bool),ZS Z 3 (fun r x=>r = e59 x) ao0 cap0 x0 → z4I x0 = some r → Calls Try.prog z6y (([(.slice ao0 x0.length cap0)] : List Value) ++ z8F).toArray w fun e w'=>e = .returned (.bool r) ∧ Hp [] w w' []) :
    Calls Try.prog 47 #[(.slice zcM z2n.length zcN),(.func (.func z6y) #[] (z8F).toArray)] w₀ fun e w'=>e = .returned (.int .i64 r) ∧ Hp [] w₀ w' []:=by
  unfold y1n at h
  refine Calls.yl (vs:=[(.slice zcM z2n.length zcN),(.func (.func z6y) #[] (z8F).toArray)]) (pre:=[]) (env:=[(0,(.slice zcM z2n.length zcN)),(1,(.func (.func z6y) #[] (z8F).toArray))]) Try.func47 rfl Try.ntmps47 rfl (Hp.nil w₀ _) rfl ?_
  refine WC.b (WC.a (WL.pu rfl (WL.nil (WX.a ?_))))
  obtain ⟨z6x,zph,h⟩:=y2P h
  refine WC.y2p ((z6x = some r)) ([]) ([]) ?_ ?_
  · skip
    refine WC.b (WC.a (WL.pu rfl ?_))
    refine WL.a (d:=7) rfl rfl rfl (yW Try.underlying32 rfl) ?_
    refine WL.pu rfl (WL.nil (WX.a (WC.block ?_)))
    refine WC.y3Z (fun (za4 : Nat) (z2B : Int)=>(yu z2n z4I z6x za4 z2B = some r)) (fun (za4 : Nat) (z2B : Int)=>[(0,(.slice zcM z2n.length zcN)),(1,(.func (.func z6y) #[] (z8F).toArray)),(7,(.int .i64 ((z2n.length : Nat) : Int))),(8,(.int .i64 z2B))]) (fun (za4 : Nat) (z2B : Int)=>[]) (fun (za4 : Nat) (z2B : Int)=>za4) ⟨yz,0⟩ h (.cons rfl (.cons rfl (.cons rfl (.cons rfl .nil)))) .nil ?_
    rintro za4 z2B h
    obtain ⟨zgm,rfl⟩:=y3e h
    rw [yu] at h
    refine WC.b (WC.a (WL.pu rfl (WL.nil (WX.a (WC.b ?_)))))
    refine WC.cond rfl (fun zgo=>?_) (fun zgo=>?_)
    · replace h:=ym h zgo
      refine WC.skip (WX.a (WC.b (WC.block (WC.b (WC.a (WL.pu rfl (WL.pu rfl (WL.nil (WX.a (WC.b ?_))))))))))
      obtain ⟨zpi,h⟩:=yj h
      obtain ⟨zgn,zpj,h⟩:=zf h
      refine WC.a (WL.pu rfl (WL.pu rfl (WL.pu rfl ?_)))
      refine WL.znth (dd:=14) rfl rfl (Z:=Z) (Pr:=(p55 Z)) y6y rfl rfl zpe zpi ?_
      rintro zvj zvk zpk zvl ⟨zpl,zpm,rfl,zpn⟩
      refine WL.a (d:=15) rfl rfl rfl (yb y6O rfl (rd_z hz.pv zpk rfl)) ?_
      refine WL.b (dd:=16) rfl rfl rfl (y3E (l:=[.tmp 15]) (f:=z6y) (caps:=z8F) zpf rfl (.cons rfl .nil)) .nil (fun w hw=>zpg w (hz.now hw) (nth z2n z2B) zpl zpm zgn zpn zpj) ?_
      refine WL.nil (WX.a ?_)
      refine WC.cond rfl (fun zgp=>?_) (fun zgp=>?_)
      · replace h:=ym h zgp
        refine WC.b (WC.a (WL.pu rfl (WL.pu rfl (WL.nil (WX.a (WC.ret (WX.yK (WX.yi (WX.yi (WX.yK (WX.yi ?_)))))))))))
        obtain rfl:=Option.some.inj h
        refine WX.yh Try.results47 (.tmp rfl .nil) (fun w hw=>?_)
        exact ⟨y10 rfl,hw.sub .nil⟩
      · replace h:=yn h zgp
        refine WC.skip (WX.yg (WX.a (WC.a (WL.pu rfl (WL.pu rfl (WL.nil ?_))))))
        exact WX.round (G:=Nat × Int) ⟨zgm,(i64 (z2B + 1))⟩ h (Nat.lt_succ_self _) (.cons rfl (.cons rfl (.cons rfl (.cons rfl .nil)))) .nil
    · replace h:=yn h zgo
      refine WC.exit (WX.yd (WX.yd (WX.yA ?_)))
      exact WX.mid (G:=Unit) () h .nil .nil
  · rintro  h
    replace h:=zph.symm.trans h
    refine WC.b (WC.a (WL.pu rfl (WL.nil (WX.a (WC.ret ?_)))))
    obtain rfl:=Option.some.inj h
    refine WX.yh Try.results47 (.tmp rfl .nil) (fun w hw=>?_)
    exact ⟨y10 rfl,hw.sub .nil⟩
def y1g (z8G : List (List Sapi_Hop)) (za5 : (List Sapi_Hop) → Option Bool) : Option Bool :=
  (y1n z8G za5).bind fun zkk=>some (decide (zkk ≥ 0))
set_option maxRecDepth 20000 in
theorem y3x (Z : Zp) (zei : Option Addr) (zej : Nat) (z7z : FuncId) (za6 : List Value) (z8G : List (List Sapi_Hop)) (za5 : (List Sapi_Hop) → Option Bool) (r : Bool)
     (h : y1g z8G za5 = some r) (w₀ : World) (hz : PZ [] w₀ Z)
     (zpo : ZS Z 1 (p55 Z) zei zej z8G)
     (zpp : ∀ args w,(callFunc z7z args).run Try.prog w = .ok (.enter z7z args) w)
     (zpq : ∀ w : World,PZ [] w Z → ∀ (x0 : List Sapi_Hop) (ao0 : Option Addr) (cap0 : Nat) (r : Bool),ZS Z 3 (fun r x=>r = e59 x) ao0 cap0 x0 → za5 x0 = some r → Calls Try.prog z7z (([(.slice ao0 x0.length cap0)] : List Value) ++ za6).toArray w fun e w'=>e = .returned (.bool r) ∧ Hp [] w w' []) :
    Calls Try.prog 34 #[(.slice zei z8G.length zej),(.func (.func z7z) #[] (za6).toArray)] w₀ fun e w'=>e = .returned (.bool r) ∧ Hp [] w₀ w' []:=by
  unfold y1g at h
  refine Calls.yl (vs:=[(.slice zei z8G.length zej),(.func (.func z7z) #[] (za6).toArray)]) (pre:=[]) (env:=[(0,(.slice zei z8G.length zej)),(1,(.func (.func z7z) #[] (za6).toArray))]) Try.func34 rfl Try.ntmps34 rfl (Hp.nil w₀ _) rfl ?_
  refine WC.b (WC.a (WL.pu rfl (WL.nil (WX.a (WC.b ?_)))))
  obtain ⟨zkk,zpr,h⟩:=zf h
  refine WC.a (WL.pu rfl (WL.pu rfl ?_))
  refine WL.b (dd:=7) rfl rfl rfl (zy (l:=[.tmp 5,.tmp 6]) Try.call47 (.cons rfl (.cons rfl .nil))) .nil (cc hz .nil fun w pz ho=>y3T _ _ _ (z6y:=z7z) (z8F:=za6) _ (z4I:=za5) _ zpr w pz zpo zpp zpq) ?_
  refine WL.pu rfl (WL.pu rfl (WL.nil (WX.a (WC.ret ?_))))
  obtain rfl:=Option.some.inj h
  refine WX.yh Try.results34 (.tmp rfl .nil) (fun w hw=>?_)
  exact ⟨y10 rfl,hw.sub .nil⟩
def y2M (zP : Sapi_Config) (z2Q : Int) (z44 : List (List Sapi_Hop)) : Option Bool :=
  (if (((decide (z2Q = 0)) || (decide (z2Q = 1))) && (decide (((z44.length : Nat) : Int) = ((zP.fVLs.length : Nat) : Int)))) && (decide (((z44.length : Nat) : Int) ≤ 16)) then (y1g z44 (fun (y0 : List Sapi_Hop)=>yY y0 zP z2Q)).bind fun zkl=>some (!zkl) else some false).bind fun zgq=>some zgq
set_option maxRecDepth 20000 in
theorem y5n (Z : Zp) (zcO : Option Addr) (zcP : Nat) (zcQ : Option Addr) (zcR : Nat) (zcS : Option Addr) (zcT : Nat) (zcU : Option Addr) (zcV : Nat) (zcW : Option Addr) (zcX : Nat) (zcY : Option Addr) (zcZ : Nat) (zd0 : Option Addr) (zd1 : Nat) (zd2 : Option Addr) (zd3 : Nat) (zek : Option Addr) (zel : Nat) (zP : Sapi_Config) (z2Q : Int) (z44 : List (List Sapi_Hop)) (r : Bool)
     (h : y2M zP z2Q z44 = some r) (w₀ : World) (hz : PZ [] w₀ Z)
     (zps : ZS Z 4 (y2x Z) zcO zcP zP.fModules)
     (zpt : ZS Z 4 (y2S Z) zcQ zcR zP.fChannels)
     (zpu : ZS Z 4 (fun r x=>r = e64 x) zcS zcT zP.fSwitches)
     (zpv : ZS Z 4 (fun r x=>r = e62 x) zcU zcV zP.fLinks)
     (zpw : ZS Z 7 (y2G Z) zcW zcX zP.fVLs)
     (zpx : ZS Z 5 (fun r x=>r = y37 x) zcY zcZ zP.fHealth)
     (zpy : ZS Z 3 (y2T Z) zd0 zd1 zP.fCauses)
     (zpz : ZS Z 4 (fun r x=>r = y38 x) zd2 zd3 zP.fVersions)
     (zpA : ZS Z 1 (p55 Z) zek zel z44) :
    Calls Try.prog 15 #[(.agg #[(.slice zcO zP.fModules.length zcP),(.slice zcQ zP.fChannels.length zcR),(.slice zcS zP.fSwitches.length zcT),(.slice zcU zP.fLinks.length zcV),(.slice zcW zP.fVLs.length zcX),(.slice zcY zP.fHealth.length zcZ),(.slice zd0 zP.fCauses.length zd1),(.slice zd2 zP.fVersions.length zd3)]),(.int .i64 z2Q),(.slice zek z44.length zel)] w₀ fun e w'=>e = .returned (.bool r) ∧ Hp [] w₀ w' []:=by
  unfold y2M at h
  refine Calls.yl (vs:=[(.agg #[(.slice zcO zP.fModules.length zcP),(.slice zcQ zP.fChannels.length zcR),(.slice zcS zP.fSwitches.length zcT),(.slice zcU zP.fLinks.length zcV),(.slice zcW zP.fVLs.length zcX),(.slice zcY zP.fHealth.length zcZ),(.slice zd0 zP.fCauses.length zd1),(.slice zd2 zP.fVersions.length zd3)]),(.int .i64 z2Q),(.slice zek z44.length zel)]) (pre:=[]) (env:=[(0,(.agg #[(.slice zcO zP.fModules.length zcP),(.slice zcQ zP.fChannels.length zcR),(.slice zcS zP.fSwitches.length zcT),(.slice zcU zP.fLinks.length zcV),(.slice zcW zP.fVLs.length zcX),(.slice zcY zP.fHealth.length zcZ),(.slice zd0 zP.fCauses.length zd1),(.slice zd2 zP.fVersions.length zd3)])),(1,(.int .i64 z2Q)),(2,(.slice zek z44.length zel))]) Try.func15 rfl Try.ntmps15 rfl (Hp.nil w₀ _) rfl ?_
  refine WC.b (WC.a ?_)
  refine WL.new (dd:=3) rfl rfl rfl (y2g (cs:=[(.slice zcO zP.fModules.length zcP),(.slice zcQ zP.fChannels.length zcR),(.slice zcS zP.fSwitches.length zcT),(.slice zcU zP.fLinks.length zcV),(.slice zcW zP.fVLs.length zcX),(.slice zcY zP.fHealth.length zcZ),(.slice zd0 zP.fCauses.length zd1),(.slice zd2 zP.fVersions.length zd3)]) rfl rfl) ?_
  intro zpB _
  refine WL.new (dd:=4) rfl rfl rfl (y2g (cs:=[(.int .i64 z2Q)]) rfl rfl) ?_
  intro zpC _
  refine WL.pu rfl (WL.nil (WX.a (WC.b ?_)))
  obtain ⟨zgq,zkm,h⟩:=zf h
  refine WC.a ?_
  refine WL.a (d:=7) rfl rfl rfl (yb yf rfl (ye .here rfl)) ?_
  refine WL.pu rfl (WL.pu rfl ?_)
  refine WL.seg false 2 9 (B:=(decide (z2Q = 0)) || (decide (z2Q = 1))) rfl rfl rfl rfl rfl rfl (fun h=>(y25 h).symm) (fun _ zpD=>?_) ?_
  · skip
    refine WL.a (d:=10) rfl rfl rfl (yb yf rfl (ye .here rfl)) ?_
    refine WL.pu rfl (WL.pu rfl ?_)
    exact WL.ys (y26 zpD) rfl rfl .all
  refine WL.pu rfl ?_
  refine WL.seg true 6 13 (B:=((decide (z2Q = 0)) || (decide (z2Q = 1))) && (decide (((z44.length : Nat) : Int) = ((zP.fVLs.length : Nat) : Int)))) rfl rfl rfl rfl rfl rfl (fun h=>(y2K h).symm) (fun _ zpE=>?_) ?_
  · skip
    refine WL.pu rfl ?_
    refine WL.a (d:=15) rfl rfl rfl (yW Try.underlying32 rfl) ?_
    refine WL.a (d:=16) rfl rfl rfl (ya y6M rfl rfl) ?_
    refine WL.a (d:=17) rfl rfl rfl (yb y6N rfl (ye .h1 rfl)) ?_
    refine WL.a (d:=18) rfl rfl rfl (yW Try.underlying26 rfl) ?_
    refine WL.pu rfl (WL.pu rfl ?_)
    exact WL.ys (y2L zpE) rfl rfl .all
  refine WL.pu rfl ?_
  refine WL.seg true 3 21 (B:=(((decide (z2Q = 0)) || (decide (z2Q = 1))) && (decide (((z44.length : Nat) : Int) = ((zP.fVLs.length : Nat) : Int)))) && (decide (((z44.length : Nat) : Int) ≤ 16))) rfl rfl rfl rfl rfl rfl (fun h=>(y2K h).symm) (fun _ zpF=>?_) ?_
  · skip
    refine WL.pu rfl ?_
    refine WL.a (d:=23) rfl rfl rfl (yW Try.underlying32 rfl) ?_
    refine WL.pu rfl (WL.pu rfl ?_)
    exact WL.ys (y2L zpF) rfl rfl .all
  refine WL.pu rfl ?_
  refine WL.seg true 4 26 (B:=zgq) rfl rfl rfl rfl rfl rfl (fun h=>(Option.some.inj (yn zkm h)).symm) (fun _ zpG=>?_) ?_
  · skip
    have zd4:=ym zkm zpG
    obtain ⟨zkl,zpH,zd4⟩:=zf zd4
    replace zd4:=Option.some.inj zd4
    refine WL.pu rfl ?_
    refine WL.a (d:=28) rfl rfl rfl (y5W (Eos.caps (l:=[.tmp 3,.tmp 4]) (.cons rfl (.cons rfl .nil)))) ?_
    refine WL.b (dd:=29) rfl rfl rfl (zy (l:=[.tmp 27,.tmp 28]) Try.call34 (.cons rfl (.cons rfl .nil))) .nil (ccl hz .nil (.cons .h1 (.cons .here .nil)) fun w pz ho la=>y3x _ _ _ (z7z:=35) (za6:=[(.pointer (some ⟨zpB,0,none⟩)),(.pointer (some ⟨zpC,0,none⟩))]) _ (za5:=(fun (y0 : List Sapi_Hop)=>yY y0 zP z2Q)) _ zpH w pz ((zpA.mono (Zle.left _ _)).weak (fun _ _ h=>y3I (Zle.left _ _) h)) Try.call35 (fun w' hz' y0 ga0 gc0 r gh0 hr=>y6V _ _ _ _ _ _ _ _ _ _ _ _ _ _ _ _ _ _ _ _ _ _ _ _ _ hr w' hz' gh0 ((zps.mono (Zle.left _ _)).weak (fun _ _ h=>y1E (Zle.left _ _) h)) ((zpt.mono (Zle.left _ _)).weak (fun _ _ h=>y1L (Zle.left _ _) h)) (zpu.mono (Zle.left _ _)) (zpv.mono (Zle.left _ _)) ((zpw.mono (Zle.left _ _)).weak (fun _ _ h=>y1F (Zle.left _ _) h)) (zpx.mono (Zle.left _ _)) ((zpy.mono (Zle.left _ _)).weak (fun _ _ h=>y1M (Zle.left _ _) h)) (zpz.mono (Zle.left _ _)) ((la _ (.head _) _).stb) ((la _ (.tail _ (.head _)) _).stb))) ?_
    refine WL.pu rfl (WL.pu rfl ?_)
    exact WL.ys zd4 rfl rfl .all
  refine WL.pu rfl (WL.nil (WX.a (WC.ret ?_)))
  obtain rfl:=Option.some.inj h
  refine WX.yh Try.results15 (.tmp rfl .nil) (fun w hw=>?_)
  exact ⟨y10 rfl,hw.sub .nil⟩
def y1X (z9 : List zSt) (zA : Sapi_Config) (z6z : Option Bool) : Nat → Int → Option Bool
  | 0,_=>none
  | zgr + 1,zb=>if decide (zb < ((z9.length : Nat) : Int)) then chk ((0 : Int) ≤ zb ∧ zb < ((z9.length : Nat) : Int)) (chk (((((((decide (((nth z9 zb).fTime) < 0)) || (decide (((nth z9 zb).fTime) > 536870912))) || (decide (((nth z9 zb).fVL) < 0))) || (decide (((nth z9 zb).fVL) ≥ ((zA.fVLs.length : Nat) : Int)))) || (decide (((nth z9 zb).fSize) < 1))) || (decide (((nth z9 zb).fSize) > 72))) = false → ((decide (zb > 0)) = true → ((0 : Int) ≤ (i64 (zb - 1)) ∧ (i64 (zb - 1)) < ((z9.length : Nat) : Int)))) (if ((((((decide (((nth z9 zb).fTime) < 0)) || (decide (((nth z9 zb).fTime) > 536870912))) || (decide (((nth z9 zb).fVL) < 0))) || (decide (((nth z9 zb).fVL) ≥ ((zA.fVLs.length : Nat) : Int)))) || (decide (((nth z9 zb).fSize) < 1))) || (decide (((nth z9 zb).fSize) > 72))) || ((decide (zb > 0)) && (decide (((nth z9 (i64 (zb - 1))).fTime) > ((nth z9 zb).fTime)))) then some false else y1X z9 zA z6z zgr (i64 (zb + 1)))) else z6z
theorem y5t {n : Nat} {z9 : List zSt} {zA : Sapi_Config} {z6z : Option Bool} {zb : Int} {r : Bool} (h : y1X z9 zA z6z n zb = some r) : ∃ m,n = m + 1:=by
  cases n with
  | zero=>cases h
  | succ m=>exact ⟨m,rfl⟩
def y33 (zA : Sapi_Config) (z9 : List zSt) : Option Bool :=
  if decide (((z9.length : Nat) : Int) > 40) then some false else jp0 (some true) fun z6z=>y1X z9 zA z6z yz 0
set_option maxRecDepth 20000 in
theorem y5M (Z : Zp) (za7 : Option Addr) (za8 : Nat) (za9 : Option Addr) (zaa : Nat) (zab : Option Addr) (zac : Nat) (zad : Option Addr) (zae : Nat) (zaf : Option Addr) (zag : Nat) (zah : Option Addr) (zai : Nat) (zaj : Option Addr) (zak : Nat) (zal : Option Addr) (zam : Nat) (z21 : Option Addr) (z22 : Nat) (zA : Sapi_Config) (z9 : List zSt) (r : Bool)
     (h : y33 zA z9 = some r) (w₀ : World) (hz : PZ [] w₀ Z)
     (zvm : ZS Z 4 (y2x Z) za7 za8 zA.fModules)
     (zvn : ZS Z 4 (y2S Z) za9 zaa zA.fChannels)
     (zvo : ZS Z 4 (fun r x=>r = e64 x) zab zac zA.fSwitches)
     (zvp : ZS Z 4 (fun r x=>r = e62 x) zad zae zA.fLinks)
     (zvq : ZS Z 7 (y2G Z) zaf zag zA.fVLs)
     (zvr : ZS Z 5 (fun r x=>r = y37 x) zah zai zA.fHealth)
     (zvs : ZS Z 3 (y2T Z) zaj zak zA.fCauses)
     (zvt : ZS Z 4 (fun r x=>r = y38 x) zal zam zA.fVersions)
     (zkn : ZS Z 3 (fun r x=>r = e53 x) z21 z22 z9) :
    Calls Try.prog 22 #[(.agg #[(.slice za7 zA.fModules.length za8),(.slice za9 zA.fChannels.length zaa),(.slice zab zA.fSwitches.length zac),(.slice zad zA.fLinks.length zae),(.slice zaf zA.fVLs.length zag),(.slice zah zA.fHealth.length zai),(.slice zaj zA.fCauses.length zak),(.slice zal zA.fVersions.length zam)]),(.slice z21 z9.length z22)] w₀ fun e w'=>e = .returned (.bool r) ∧ Hp [] w₀ w' []:=by
  unfold y33 at h
  refine Calls.yl (vs:=[(.agg #[(.slice za7 zA.fModules.length za8),(.slice za9 zA.fChannels.length zaa),(.slice zab zA.fSwitches.length zac),(.slice zad zA.fLinks.length zae),(.slice zaf zA.fVLs.length zag),(.slice zah zA.fHealth.length zai),(.slice zaj zA.fCauses.length zak),(.slice zal zA.fVersions.length zam)]),(.slice z21 z9.length z22)]) (pre:=[]) (env:=[(0,(.agg #[(.slice za7 zA.fModules.length za8),(.slice za9 zA.fChannels.length zaa),(.slice zab zA.fSwitches.length zac),(.slice zad zA.fLinks.length zae),(.slice zaf zA.fVLs.length zag),(.slice zah zA.fHealth.length zai),(.slice zaj zA.fCauses.length zak),(.slice zal zA.fVersions.length zam)])),(1,(.slice z21 z9.length z22))]) Try.func22 rfl Try.ntmps22 rfl (Hp.nil w₀ _) rfl ?_
  refine WC.b (WC.a ?_)
  refine WL.new (dd:=2) rfl rfl rfl (y2g (cs:=[(.slice za7 zA.fModules.length za8),(.slice za9 zA.fChannels.length zaa),(.slice zab zA.fSwitches.length zac),(.slice zad zA.fLinks.length zae),(.slice zaf zA.fVLs.length zag),(.slice zah zA.fHealth.length zai),(.slice zaj zA.fCauses.length zak),(.slice zal zA.fVersions.length zam)]) rfl rfl) ?_
  intro z6A _
  refine WL.pu rfl (WL.nil (WX.a (WC.b (WC.b (WC.a (WL.pu rfl ?_))))))
  refine WL.a (d:=8) rfl rfl rfl (yW Try.underlying33 rfl) ?_
  refine WL.pu rfl (WL.nil (WX.a ?_))
  refine WC.cond rfl (fun zgs=>?_) (fun zgs=>?_)
  · replace h:=ym h zgs
    refine WC.b (WC.a (WL.pu rfl (WL.nil (WX.a (WC.ret (WX.yi ?_))))))
    obtain rfl:=Option.some.inj h
    refine WX.yh Try.results22 (.tmp rfl .nil) (fun w hw=>?_)
    exact ⟨y10 rfl,hw.sub .nil⟩
  · replace h:=yn h zgs
    refine WC.skip (WX.a ?_)
    obtain ⟨z6z,zpI,h⟩:=y2P h
    refine WC.y2p ((z6z = some r)) ([]) ([]) ?_ ?_
    · skip
      refine WC.b (WC.a (WL.pu rfl ?_))
      refine WL.a (d:=11) rfl rfl rfl (yW Try.underlying33 rfl) ?_
      refine WL.pu rfl (WL.nil (WX.a (WC.block ?_)))
      refine WC.y3Z (fun (zan : Nat) (zb : Int)=>(y1X z9 zA z6z zan zb = some r)) (fun (zan : Nat) (zb : Int)=>[(1,(.slice z21 z9.length z22)),(2,(.pointer (some ⟨z6A,0,none⟩))),(10,(.slice z21 z9.length z22)),(11,(.int .i64 ((z9.length : Nat) : Int))),(12,(.int .i64 zb))]) (fun (zan : Nat) (zb : Int)=>[stb z6A 31 [(.slice za7 zA.fModules.length za8),(.slice za9 zA.fChannels.length zaa),(.slice zab zA.fSwitches.length zac),(.slice zad zA.fLinks.length zae),(.slice zaf zA.fVLs.length zag),(.slice zah zA.fHealth.length zai),(.slice zaj zA.fCauses.length zak),(.slice zal zA.fVersions.length zam)]]) (fun (zan : Nat) (zb : Int)=>zan) ⟨yz,0⟩ h (.cons rfl (.cons rfl (.cons rfl (.cons rfl (.cons rfl .nil))))) (.cons .here .nil) ?_
      rintro zan zb h
      obtain ⟨zgr,rfl⟩:=y5t h
      rw [y1X] at h
      refine WC.b (WC.a (WL.pu rfl (WL.nil (WX.a (WC.b ?_)))))
      refine WC.cond rfl (fun zgt=>?_) (fun zgt=>?_)
      · replace h:=ym h zgt
        refine WC.skip (WX.a (WC.b (WC.block (WC.b ?_))))
        obtain ⟨zpJ,h⟩:=yj h
        refine WC.a (WL.pu rfl ?_)
        refine WL.znth (dd:=15) rfl rfl (Z:=Z) (Pr:=(fun r x=>r = e53 x)) y41 rfl rfl zkn zpJ ?_
        rintro zvu zvv zpK zvw rfl
        refine WL.a (d:=16) rfl rfl rfl (yF y5F rfl (y3G hz.pv zpK) rfl) ?_
        refine WL.new (dd:=6) rfl rfl rfl (y2u (cs:=[(.int .i64 0),(.int .i64 0),(.int .i64 0)]) y63 rfl) ?_
        intro zd5 _
        refine WL.pu rfl ?_
        refine WL.y1o rfl rfl (y22 y6S rfl rfl rfl .here rfl rfl rfl) ?_
        refine WL.nil (WX.a (WC.b ?_))
        obtain ⟨zpL,h⟩:=yj h
        refine WC.yZ (fun i=>[].contains i) [] rfl ?_
        refine WD.a (i:=0) (d:=17) (by kernel_rfl) rfl (z2 (by kernel_rfl)) (z3 (by kernel_rfl)) rfl rfl rfl (fun _=>ya y3r rfl rfl) ?_
        refine WD.e (i:=1) (d:=18) (by kernel_rfl) rfl (z2 (by kernel_rfl)) (z3 (by kernel_rfl)) rfl rfl rfl (yb yf rfl (ye .here rfl)) ?_
        refine WD.a (i:=2) (d:=19) (by kernel_rfl) rfl (z2 (by kernel_rfl)) (z3 (by kernel_rfl)) rfl rfl rfl (fun _=>y3n rfl rfl) ?_
        refine WD.a (i:=3) (d:=20) (by kernel_rfl) rfl (z2 (by kernel_rfl)) (z3 (by kernel_rfl)) rfl rfl rfl (fun _=>q_m rfl) ?_
        refine WD.mid (fuel':=38) [(1,(.slice z21 z9.length z22)),(2,(.pointer (some ⟨z6A,0,none⟩))),(10,(.slice z21 z9.length z22)),(11,(.int .i64 ((z9.length : Nat) : Int))),(12,(.int .i64 zb)),(6,(.pointer (some ⟨zd5,0,none⟩))),(5,(.int .i64 zb)),(20,(.bool (decide (((nth z9 zb).fTime) < 0)))),(24,(.bool ((decide (((nth z9 zb).fTime) < 0)) || (decide (((nth z9 zb).fTime) > 536870912)))))] (y1I 46 [7,6,5,4,3,2,1,0]) ?_ (fun zko=>?_)
        rotate_left
        · rcases Bool.eq_false_or_eq_true (decide (((nth z9 zb).fTime) < 0)) with hb' | hb'
          · have zgu:=hb'; clear hb'
            refine WD.pin (i:=20) rfl zgu ?_
            refine WD.b (i:=4) (d:=21) (by kernel_rfl) rfl (z2 (by kernel_rfl)) (z3 (by kernel_rfl)) rfl rfl rfl ?_
            refine WD.b (i:=5) (d:=22) (by kernel_rfl) rfl (z2 (by kernel_rfl)) (z3 (by kernel_rfl)) rfl rfl rfl ?_
            refine WD.b (i:=6) (d:=23) (by kernel_rfl) rfl (z2 (by kernel_rfl)) (z3 (by kernel_rfl)) rfl rfl rfl ?_
            refine WD.a (i:=7) (d:=24) (by kernel_rfl) rfl (z2 (by kernel_rfl)) (z3 (by kernel_rfl)) rfl rfl rfl (fun _=>y1w rfl rfl) ?_
            refine WD.yS (.cons .here (.cons .here .nil)) ?_ zko
            exact (.cons rfl (.cons rfl (.cons rfl (.cons rfl (.cons rfl (.cons rfl (.cons rfl (.cons (zq (Eq.symm zgu)) (.cons (zq (y25 zgu)) .nil)))))))))
          · have zgv:=hb'; clear hb'
            refine WD.pin (i:=20) rfl zgv ?_
            refine WD.a (i:=4) (d:=21) (by kernel_rfl) rfl (z2 (by kernel_rfl)) (z3 (by kernel_rfl)) rfl rfl rfl (fun _=>ya y3r rfl rfl) ?_
            refine WD.e (i:=5) (d:=22) (by kernel_rfl) rfl (z2 (by kernel_rfl)) (z3 (by kernel_rfl)) rfl rfl rfl (yb yf rfl (ye .here rfl)) ?_
            refine WD.a (i:=6) (d:=23) (by kernel_rfl) rfl (z2 (by kernel_rfl)) (z3 (by kernel_rfl)) rfl rfl rfl (fun _=>y3F rfl rfl) ?_
            refine WD.a (i:=7) (d:=24) (by kernel_rfl) rfl (z2 (by kernel_rfl)) (z3 (by kernel_rfl)) rfl rfl rfl (fun _=>y1x rfl rfl) ?_
            refine WD.yS (.cons .here (.cons .here .nil)) ?_ zko
            exact (.cons rfl (.cons rfl (.cons rfl (.cons rfl (.cons rfl (.cons rfl (.cons rfl (.cons (zq (Eq.symm zgv)) (.cons (zq (y26 zgv)) .nil)))))))))
        refine WD.d #[true,true,true,true,true,true,true,true,false,false,false,false,false,false,false,false,false,false,false,false,false,false,false,false,false,false,false,false,false,false,false,false,false,false,false,false,false,false,false,false,false,false,false,false,false,false] (by kernel_rfl) ?_
        refine WD.a (i:=8) (d:=25) (by kernel_rfl) rfl (z2 (by kernel_rfl)) (z3 (by kernel_rfl)) rfl rfl rfl (fun _=>q_m rfl) ?_
        refine WD.mid (fuel':=33) [(1,(.slice z21 z9.length z22)),(2,(.pointer (some ⟨z6A,0,none⟩))),(10,(.slice z21 z9.length z22)),(11,(.int .i64 ((z9.length : Nat) : Int))),(12,(.int .i64 zb)),(6,(.pointer (some ⟨zd5,0,none⟩))),(5,(.int .i64 zb)),(25,(.bool ((decide (((nth z9 zb).fTime) < 0)) || (decide (((nth z9 zb).fTime) > 536870912))))),(29,(.bool (((decide (((nth z9 zb).fTime) < 0)) || (decide (((nth z9 zb).fTime) > 536870912))) || (decide (((nth z9 zb).fVL) < 0)))))] (y1I 46 [12,11,10,9,8,7,6,5,4,3,2,1,0]) ?_ (fun zkp=>?_)
        rotate_left
        · rcases Bool.eq_false_or_eq_true ((decide (((nth z9 zb).fTime) < 0)) || (decide (((nth z9 zb).fTime) > 536870912))) with hb' | hb'
          · have zgw:=hb'; clear hb'
            refine WD.pin (i:=25) rfl zgw ?_
            refine WD.b (i:=9) (d:=26) (by kernel_rfl) rfl (z2 (by kernel_rfl)) (z3 (by kernel_rfl)) rfl rfl rfl ?_
            refine WD.b (i:=10) (d:=27) (by kernel_rfl) rfl (z2 (by kernel_rfl)) (z3 (by kernel_rfl)) rfl rfl rfl ?_
            refine WD.b (i:=11) (d:=28) (by kernel_rfl) rfl (z2 (by kernel_rfl)) (z3 (by kernel_rfl)) rfl rfl rfl ?_
            refine WD.a (i:=12) (d:=29) (by kernel_rfl) rfl (z2 (by kernel_rfl)) (z3 (by kernel_rfl)) rfl rfl rfl (fun _=>y1w rfl rfl) ?_
            refine WD.yS (.cons .here (.cons .here .nil)) ?_ zkp
            exact (.cons rfl (.cons rfl (.cons rfl (.cons rfl (.cons rfl (.cons rfl (.cons rfl (.cons (zq (Eq.symm zgw)) (.cons (zq (y25 zgw)) .nil)))))))))
          · have zgx:=hb'; clear hb'
            refine WD.pin (i:=25) rfl zgx ?_
            refine WD.a (i:=9) (d:=26) (by kernel_rfl) rfl (z2 (by kernel_rfl)) (z3 (by kernel_rfl)) rfl rfl rfl (fun _=>ya y4Z rfl rfl) ?_
            refine WD.e (i:=10) (d:=27) (by kernel_rfl) rfl (z2 (by kernel_rfl)) (z3 (by kernel_rfl)) rfl rfl rfl (yb yf rfl (ye .here rfl)) ?_
            refine WD.a (i:=11) (d:=28) (by kernel_rfl) rfl (z2 (by kernel_rfl)) (z3 (by kernel_rfl)) rfl rfl rfl (fun _=>y3n rfl rfl) ?_
            refine WD.a (i:=12) (d:=29) (by kernel_rfl) rfl (z2 (by kernel_rfl)) (z3 (by kernel_rfl)) rfl rfl rfl (fun _=>y1x rfl rfl) ?_
            refine WD.yS (.cons .here (.cons .here .nil)) ?_ zkp
            exact (.cons rfl (.cons rfl (.cons rfl (.cons rfl (.cons rfl (.cons rfl (.cons rfl (.cons (zq (Eq.symm zgx)) (.cons (zq (y26 zgx)) .nil)))))))))
        refine WD.d #[true,true,true,true,true,true,true,true,true,true,true,true,true,false,false,false,false,false,false,false,false,false,false,false,false,false,false,false,false,false,false,false,false,false,false,false,false,false,false,false,false,false,false,false,false,false] (by kernel_rfl) ?_
        refine WD.a (i:=13) (d:=30) (by kernel_rfl) rfl (z2 (by kernel_rfl)) (z3 (by kernel_rfl)) rfl rfl rfl (fun _=>q_m rfl) ?_
        refine WD.mid (fuel':=25) [(1,(.slice z21 z9.length z22)),(2,(.pointer (some ⟨z6A,0,none⟩))),(10,(.slice z21 z9.length z22)),(11,(.int .i64 ((z9.length : Nat) : Int))),(12,(.int .i64 zb)),(6,(.pointer (some ⟨zd5,0,none⟩))),(5,(.int .i64 zb)),(30,(.bool (((decide (((nth z9 zb).fTime) < 0)) || (decide (((nth z9 zb).fTime) > 536870912))) || (decide (((nth z9 zb).fVL) < 0))))),(37,(.bool ((((decide (((nth z9 zb).fTime) < 0)) || (decide (((nth z9 zb).fTime) > 536870912))) || (decide (((nth z9 zb).fVL) < 0))) || (decide (((nth z9 zb).fVL) ≥ ((zA.fVLs.length : Nat) : Int))))))] (y1I 46 [20,19,18,17,16,15,14,13,12,11,10,9,8,7,6,5,4,3,2,1,0]) ?_ (fun zkq=>?_)
        rotate_left
        · rcases Bool.eq_false_or_eq_true (((decide (((nth z9 zb).fTime) < 0)) || (decide (((nth z9 zb).fTime) > 536870912))) || (decide (((nth z9 zb).fVL) < 0))) with hb' | hb'
          · have zgy:=hb'; clear hb'
            refine WD.pin (i:=30) rfl zgy ?_
            refine WD.b (i:=14) (d:=31) (by kernel_rfl) rfl (z2 (by kernel_rfl)) (z3 (by kernel_rfl)) rfl rfl rfl ?_
            refine WD.b (i:=15) (d:=32) (by kernel_rfl) rfl (z2 (by kernel_rfl)) (z3 (by kernel_rfl)) rfl rfl rfl ?_
            refine WD.b (i:=16) (d:=33) (by kernel_rfl) rfl (z2 (by kernel_rfl)) (z3 (by kernel_rfl)) rfl rfl rfl ?_
            refine WD.b (i:=17) (d:=34) (by kernel_rfl) rfl (z2 (by kernel_rfl)) (z3 (by kernel_rfl)) rfl rfl rfl ?_
            refine WD.b (i:=18) (d:=35) (by kernel_rfl) rfl (z2 (by kernel_rfl)) (z3 (by kernel_rfl)) rfl rfl rfl ?_
            refine WD.b (i:=19) (d:=36) (by kernel_rfl) rfl (z2 (by kernel_rfl)) (z3 (by kernel_rfl)) rfl rfl rfl ?_
            refine WD.a (i:=20) (d:=37) (by kernel_rfl) rfl (z2 (by kernel_rfl)) (z3 (by kernel_rfl)) rfl rfl rfl (fun _=>y1w rfl rfl) ?_
            refine WD.yS (.cons .here (.cons .here .nil)) ?_ zkq
            exact (.cons rfl (.cons rfl (.cons rfl (.cons rfl (.cons rfl (.cons rfl (.cons rfl (.cons (zq (Eq.symm zgy)) (.cons (zq (y25 zgy)) .nil)))))))))
          · have zgz:=hb'; clear hb'
            refine WD.pin (i:=30) rfl zgz ?_
            refine WD.a (i:=14) (d:=31) (by kernel_rfl) rfl (z2 (by kernel_rfl)) (z3 (by kernel_rfl)) rfl rfl rfl (fun _=>ya y4Z rfl rfl) ?_
            refine WD.e (i:=15) (d:=32) (by kernel_rfl) rfl (z2 (by kernel_rfl)) (z3 (by kernel_rfl)) rfl rfl rfl (yb yf rfl (ye .here rfl)) ?_
            refine WD.a (i:=16) (d:=33) (by kernel_rfl) rfl (z2 (by kernel_rfl)) (z3 (by kernel_rfl)) rfl rfl rfl (fun _=>ya y6M rfl rfl) ?_
            refine WD.e (i:=17) (d:=34) (by kernel_rfl) rfl (z2 (by kernel_rfl)) (z3 (by kernel_rfl)) rfl rfl rfl (yb y6N rfl (ye .h1 rfl)) ?_
            refine WD.a (i:=18) (d:=35) (by kernel_rfl) rfl (z2 (by kernel_rfl)) (z3 (by kernel_rfl)) rfl rfl rfl (fun _=>yW Try.underlying26 rfl) ?_
            refine WD.a (i:=19) (d:=36) (by kernel_rfl) rfl (z2 (by kernel_rfl)) (z3 (by kernel_rfl)) rfl rfl rfl (fun _=>q_geq rfl rfl) ?_
            refine WD.a (i:=20) (d:=37) (by kernel_rfl) rfl (z2 (by kernel_rfl)) (z3 (by kernel_rfl)) rfl rfl rfl (fun _=>y1x rfl rfl) ?_
            refine WD.yS (.cons .here (.cons .here .nil)) ?_ zkq
            exact (.cons rfl (.cons rfl (.cons rfl (.cons rfl (.cons rfl (.cons rfl (.cons rfl (.cons (zq (Eq.symm zgz)) (.cons (zq (y26 zgz)) .nil)))))))))
        refine WD.d #[true,true,true,true,true,true,true,true,true,true,true,true,true,true,true,true,true,true,true,true,true,false,false,false,false,false,false,false,false,false,false,false,false,false,false,false,false,false,false,false,false,false,false,false,false,false] (by kernel_rfl) ?_
        refine WD.a (i:=21) (d:=38) (by kernel_rfl) rfl (z2 (by kernel_rfl)) (z3 (by kernel_rfl)) rfl rfl rfl (fun _=>q_m rfl) ?_
        refine WD.mid (fuel':=20) [(1,(.slice z21 z9.length z22)),(2,(.pointer (some ⟨z6A,0,none⟩))),(10,(.slice z21 z9.length z22)),(11,(.int .i64 ((z9.length : Nat) : Int))),(12,(.int .i64 zb)),(6,(.pointer (some ⟨zd5,0,none⟩))),(5,(.int .i64 zb)),(38,(.bool ((((decide (((nth z9 zb).fTime) < 0)) || (decide (((nth z9 zb).fTime) > 536870912))) || (decide (((nth z9 zb).fVL) < 0))) || (decide (((nth z9 zb).fVL) ≥ ((zA.fVLs.length : Nat) : Int)))))),(42,(.bool (((((decide (((nth z9 zb).fTime) < 0)) || (decide (((nth z9 zb).fTime) > 536870912))) || (decide (((nth z9 zb).fVL) < 0))) || (decide (((nth z9 zb).fVL) ≥ ((zA.fVLs.length : Nat) : Int)))) || (decide (((nth z9 zb).fSize) < 1)))))] (y1I 46 [25,24,23,22,21,20,19,18,17,16,15,14,13,12,11,10,9,8,7,6,5,4,3,2,1,0]) ?_ (fun zkr=>?_)
        rotate_left
        · rcases Bool.eq_false_or_eq_true ((((decide (((nth z9 zb).fTime) < 0)) || (decide (((nth z9 zb).fTime) > 536870912))) || (decide (((nth z9 zb).fVL) < 0))) || (decide (((nth z9 zb).fVL) ≥ ((zA.fVLs.length : Nat) : Int)))) with hb' | hb'
          · have zgA:=hb'; clear hb'
            refine WD.pin (i:=38) rfl zgA ?_
            refine WD.b (i:=22) (d:=39) (by kernel_rfl) rfl (z2 (by kernel_rfl)) (z3 (by kernel_rfl)) rfl rfl rfl ?_
            refine WD.b (i:=23) (d:=40) (by kernel_rfl) rfl (z2 (by kernel_rfl)) (z3 (by kernel_rfl)) rfl rfl rfl ?_
            refine WD.b (i:=24) (d:=41) (by kernel_rfl) rfl (z2 (by kernel_rfl)) (z3 (by kernel_rfl)) rfl rfl rfl ?_
            refine WD.a (i:=25) (d:=42) (by kernel_rfl) rfl (z2 (by kernel_rfl)) (z3 (by kernel_rfl)) rfl rfl rfl (fun _=>y1w rfl rfl) ?_
            refine WD.yS (.cons .here (.cons .here .nil)) ?_ zkr
            exact (.cons rfl (.cons rfl (.cons rfl (.cons rfl (.cons rfl (.cons rfl (.cons rfl (.cons (zq (Eq.symm zgA)) (.cons (zq (y25 zgA)) .nil)))))))))
          · have zgB:=hb'; clear hb'
            refine WD.pin (i:=38) rfl zgB ?_
            refine WD.a (i:=22) (d:=39) (by kernel_rfl) rfl (z2 (by kernel_rfl)) (z3 (by kernel_rfl)) rfl rfl rfl (fun _=>ya y5G rfl rfl) ?_
            refine WD.e (i:=23) (d:=40) (by kernel_rfl) rfl (z2 (by kernel_rfl)) (z3 (by kernel_rfl)) rfl rfl rfl (yb yf rfl (ye .here rfl)) ?_
            refine WD.a (i:=24) (d:=41) (by kernel_rfl) rfl (z2 (by kernel_rfl)) (z3 (by kernel_rfl)) rfl rfl rfl (fun _=>y3n rfl rfl) ?_
            refine WD.a (i:=25) (d:=42) (by kernel_rfl) rfl (z2 (by kernel_rfl)) (z3 (by kernel_rfl)) rfl rfl rfl (fun _=>y1x rfl rfl) ?_
            refine WD.yS (.cons .here (.cons .here .nil)) ?_ zkr
            exact (.cons rfl (.cons rfl (.cons rfl (.cons rfl (.cons rfl (.cons rfl (.cons rfl (.cons (zq (Eq.symm zgB)) (.cons (zq (y26 zgB)) .nil)))))))))
        refine WD.d #[true,true,true,true,true,true,true,true,true,true,true,true,true,true,true,true,true,true,true,true,true,true,true,true,true,true,false,false,false,false,false,false,false,false,false,false,false,false,false,false,false,false,false,false,false,false] (by kernel_rfl) ?_
        refine WD.a (i:=26) (d:=43) (by kernel_rfl) rfl (z2 (by kernel_rfl)) (z3 (by kernel_rfl)) rfl rfl rfl (fun _=>q_m rfl) ?_
        refine WD.mid (fuel':=15) [(1,(.slice z21 z9.length z22)),(2,(.pointer (some ⟨z6A,0,none⟩))),(10,(.slice z21 z9.length z22)),(11,(.int .i64 ((z9.length : Nat) : Int))),(12,(.int .i64 zb)),(6,(.pointer (some ⟨zd5,0,none⟩))),(5,(.int .i64 zb)),(43,(.bool (((((decide (((nth z9 zb).fTime) < 0)) || (decide (((nth z9 zb).fTime) > 536870912))) || (decide (((nth z9 zb).fVL) < 0))) || (decide (((nth z9 zb).fVL) ≥ ((zA.fVLs.length : Nat) : Int)))) || (decide (((nth z9 zb).fSize) < 1))))),(47,(.bool ((((((decide (((nth z9 zb).fTime) < 0)) || (decide (((nth z9 zb).fTime) > 536870912))) || (decide (((nth z9 zb).fVL) < 0))) || (decide (((nth z9 zb).fVL) ≥ ((zA.fVLs.length : Nat) : Int)))) || (decide (((nth z9 zb).fSize) < 1))) || (decide (((nth z9 zb).fSize) > 72)))))] (y1I 46 [30,29,28,27,26,25,24,23,22,21,20,19,18,17,16,15,14,13,12,11,10,9,8,7,6,5,4,3,2,1,0]) ?_ (fun zks=>?_)
        rotate_left
        · rcases Bool.eq_false_or_eq_true (((((decide (((nth z9 zb).fTime) < 0)) || (decide (((nth z9 zb).fTime) > 536870912))) || (decide (((nth z9 zb).fVL) < 0))) || (decide (((nth z9 zb).fVL) ≥ ((zA.fVLs.length : Nat) : Int)))) || (decide (((nth z9 zb).fSize) < 1))) with hb' | hb'
          · have zgC:=hb'; clear hb'
            refine WD.pin (i:=43) rfl zgC ?_
            refine WD.b (i:=27) (d:=44) (by kernel_rfl) rfl (z2 (by kernel_rfl)) (z3 (by kernel_rfl)) rfl rfl rfl ?_
            refine WD.b (i:=28) (d:=45) (by kernel_rfl) rfl (z2 (by kernel_rfl)) (z3 (by kernel_rfl)) rfl rfl rfl ?_
            refine WD.b (i:=29) (d:=46) (by kernel_rfl) rfl (z2 (by kernel_rfl)) (z3 (by kernel_rfl)) rfl rfl rfl ?_
            refine WD.a (i:=30) (d:=47) (by kernel_rfl) rfl (z2 (by kernel_rfl)) (z3 (by kernel_rfl)) rfl rfl rfl (fun _=>y1w rfl rfl) ?_
            refine WD.yS (.cons .here (.cons .here .nil)) ?_ zks
            exact (.cons rfl (.cons rfl (.cons rfl (.cons rfl (.cons rfl (.cons rfl (.cons rfl (.cons (zq (Eq.symm zgC)) (.cons (zq (y25 zgC)) .nil)))))))))
          · have zgD:=hb'; clear hb'
            refine WD.pin (i:=43) rfl zgD ?_
            refine WD.a (i:=27) (d:=44) (by kernel_rfl) rfl (z2 (by kernel_rfl)) (z3 (by kernel_rfl)) rfl rfl rfl (fun _=>ya y5G rfl rfl) ?_
            refine WD.e (i:=28) (d:=45) (by kernel_rfl) rfl (z2 (by kernel_rfl)) (z3 (by kernel_rfl)) rfl rfl rfl (yb yf rfl (ye .here rfl)) ?_
            refine WD.a (i:=29) (d:=46) (by kernel_rfl) rfl (z2 (by kernel_rfl)) (z3 (by kernel_rfl)) rfl rfl rfl (fun _=>y3F rfl rfl) ?_
            refine WD.a (i:=30) (d:=47) (by kernel_rfl) rfl (z2 (by kernel_rfl)) (z3 (by kernel_rfl)) rfl rfl rfl (fun _=>y1x rfl rfl) ?_
            refine WD.yS (.cons .here (.cons .here .nil)) ?_ zks
            exact (.cons rfl (.cons rfl (.cons rfl (.cons rfl (.cons rfl (.cons rfl (.cons rfl (.cons (zq (Eq.symm zgD)) (.cons (zq (y26 zgD)) .nil)))))))))
        refine WD.d #[true,true,true,true,true,true,true,true,true,true,true,true,true,true,true,true,true,true,true,true,true,true,true,true,true,true,true,true,true,true,true,false,false,false,false,false,false,false,false,false,false,false,false,false,false,false] (by kernel_rfl) ?_
        refine WD.a (i:=31) (d:=48) (by kernel_rfl) rfl (z2 (by kernel_rfl)) (z3 (by kernel_rfl)) rfl rfl rfl (fun _=>q_m rfl) ?_
        refine WD.mid (fuel':=0) [(1,(.slice z21 z9.length z22)),(2,(.pointer (some ⟨z6A,0,none⟩))),(10,(.slice z21 z9.length z22)),(11,(.int .i64 ((z9.length : Nat) : Int))),(12,(.int .i64 zb)),(48,(.bool ((((((decide (((nth z9 zb).fTime) < 0)) || (decide (((nth z9 zb).fTime) > 536870912))) || (decide (((nth z9 zb).fVL) < 0))) || (decide (((nth z9 zb).fVL) ≥ ((zA.fVLs.length : Nat) : Int)))) || (decide (((nth z9 zb).fSize) < 1))) || (decide (((nth z9 zb).fSize) > 72))))),(62,(.bool (((((((decide (((nth z9 zb).fTime) < 0)) || (decide (((nth z9 zb).fTime) > 536870912))) || (decide (((nth z9 zb).fVL) < 0))) || (decide (((nth z9 zb).fVL) ≥ ((zA.fVLs.length : Nat) : Int)))) || (decide (((nth z9 zb).fSize) < 1))) || (decide (((nth z9 zb).fSize) > 72))) || ((decide (zb > 0)) && (decide (((nth z9 (i64 (zb - 1))).fTime) > ((nth z9 zb).fTime)))))))] (y1I 46 [45,44,43,42,41,40,39,38,37,36,35,34,33,32,31,30,29,28,27,26,25,24,23,22,21,20,19,18,17,16,15,14,13,12,11,10,9,8,7,6,5,4,3,2,1,0]) ?_ (fun zkt=>?_)
        rotate_left
        · rcases Bool.eq_false_or_eq_true ((((((decide (((nth z9 zb).fTime) < 0)) || (decide (((nth z9 zb).fTime) > 536870912))) || (decide (((nth z9 zb).fVL) < 0))) || (decide (((nth z9 zb).fVL) ≥ ((zA.fVLs.length : Nat) : Int)))) || (decide (((nth z9 zb).fSize) < 1))) || (decide (((nth z9 zb).fSize) > 72))) with hb' | hb'
          · have zgE:=hb'; clear hb'
            refine WD.pin (i:=48) rfl zgE ?_
            refine WD.b (i:=32) (d:=49) (by kernel_rfl) rfl (z2 (by kernel_rfl)) (z3 (by kernel_rfl)) rfl rfl rfl ?_
            refine WD.b (i:=33) (d:=50) (by kernel_rfl) rfl (z2 (by kernel_rfl)) (z3 (by kernel_rfl)) rfl rfl rfl ?_
            refine WD.b (i:=34) (d:=51) (by kernel_rfl) rfl (z2 (by kernel_rfl)) (z3 (by kernel_rfl)) rfl rfl rfl ?_
            refine WD.b (i:=35) (d:=52) (by kernel_rfl) rfl (z2 (by kernel_rfl)) (z3 (by kernel_rfl)) rfl rfl rfl ?_
            refine WD.b (i:=36) (d:=53) (by kernel_rfl) rfl (z2 (by kernel_rfl)) (z3 (by kernel_rfl)) rfl rfl rfl ?_
            refine WD.b (i:=37) (d:=54) (by kernel_rfl) rfl (z2 (by kernel_rfl)) (z3 (by kernel_rfl)) rfl rfl rfl ?_
            refine WD.b (i:=38) (d:=55) (by kernel_rfl) rfl (z2 (by kernel_rfl)) (z3 (by kernel_rfl)) rfl rfl rfl ?_
            refine WD.b (i:=39) (d:=56) (by kernel_rfl) rfl (z2 (by kernel_rfl)) (z3 (by kernel_rfl)) rfl rfl rfl ?_
            refine WD.b (i:=40) (d:=57) (by kernel_rfl) rfl (z2 (by kernel_rfl)) (z3 (by kernel_rfl)) rfl rfl rfl ?_
            refine WD.b (i:=41) (d:=58) (by kernel_rfl) rfl (z2 (by kernel_rfl)) (z3 (by kernel_rfl)) rfl rfl rfl ?_
            refine WD.b (i:=42) (d:=59) (by kernel_rfl) rfl (z2 (by kernel_rfl)) (z3 (by kernel_rfl)) rfl rfl rfl ?_
            refine WD.b (i:=43) (d:=60) (by kernel_rfl) rfl (z2 (by kernel_rfl)) (z3 (by kernel_rfl)) rfl rfl rfl ?_
            refine WD.b (i:=44) (d:=61) (by kernel_rfl) rfl (z2 (by kernel_rfl)) (z3 (by kernel_rfl)) rfl rfl rfl ?_
            refine WD.a (i:=45) (d:=62) (by kernel_rfl) rfl (z2 (by kernel_rfl)) (z3 (by kernel_rfl)) rfl rfl rfl (fun _=>y1w rfl rfl) ?_
            refine WD.yS (.cons .here (.cons .here .nil)) ?_ zkt
            exact (.cons rfl (.cons rfl (.cons rfl (.cons rfl (.cons rfl (.cons (zq (Eq.symm zgE)) (.cons (zq (y25 zgE)) .nil)))))))
          · have zem:=hb'; clear hb'
            have zpM:=zpL zem
            refine WD.pin (i:=48) rfl zem ?_
            refine WD.a (i:=32) (d:=49) (by kernel_rfl) rfl (z2 (by kernel_rfl)) (z3 (by kernel_rfl)) rfl rfl rfl (fun _=>q_m rfl) ?_
            refine WD.a (i:=33) (d:=50) (by kernel_rfl) rfl (z2 (by kernel_rfl)) (z3 (by kernel_rfl)) rfl rfl rfl (fun _=>y3F rfl rfl) ?_
            refine WD.a (i:=34) (d:=51) (by kernel_rfl) rfl (z2 (by kernel_rfl)) (z3 (by kernel_rfl)) rfl rfl rfl (fun _=>q_m rfl) ?_
            refine WD.mid (fuel':=1) [(1,(.slice z21 z9.length z22)),(2,(.pointer (some ⟨z6A,0,none⟩))),(10,(.slice z21 z9.length z22)),(11,(.int .i64 ((z9.length : Nat) : Int))),(12,(.int .i64 zb)),(48,(.bool false)),(51,(.bool (decide (zb > 0)))),(61,(.bool ((decide (zb > 0)) && (decide (((nth z9 (i64 (zb - 1))).fTime) > ((nth z9 zb).fTime))))))] (y1I 46 [44,43,42,41,40,39,38,37,36,35,34,33,32,31,30,29,28,27,26,25,24,23,22,21,20,19,18,17,16,15,14,13,12,11,10,9,8,7,6,5,4,3,2,1,0]) ?_ (fun zku=>?_)
            rotate_left
            · rcases Bool.eq_false_or_eq_true (decide (zb > 0)) with hb' | hb'
              · have zen:=hb'; clear hb'
                have zpN:=zpM zen
                refine WD.pin (i:=51) rfl zen ?_
                refine WD.a (i:=35) (d:=52) (by kernel_rfl) rfl (z2 (by kernel_rfl)) (z3 (by kernel_rfl)) rfl rfl rfl (fun _=>q_m rfl) ?_
                refine WD.a (i:=36) (d:=53) (by kernel_rfl) rfl (z2 (by kernel_rfl)) (z3 (by kernel_rfl)) rfl rfl rfl (fun _=>q_m rfl) ?_
                refine WD.a (i:=37) (d:=54) (by kernel_rfl) rfl (z2 (by kernel_rfl)) (z3 (by kernel_rfl)) rfl rfl rfl (fun _=>y4E rfl rfl rfl) ?_
                refine WD.znth (j:=38) (dd:=55) (by kernel_rfl) rfl (z2 (by kernel_rfl)) (z3 (by kernel_rfl)) rfl rfl (Z:=Z) (Pr:=(fun r x=>r = e53 x)) y41 rfl rfl zkn zpN ?_
                rintro zvx zvy zpO zvz rfl
                refine WD.a (i:=39) (d:=56) (by kernel_rfl) rfl (z2 (by kernel_rfl)) (z3 (by kernel_rfl)) rfl rfl rfl (fun _=>ya y3r rfl rfl) ?_
                refine WD.e (i:=40) (d:=57) (by kernel_rfl) rfl (z2 (by kernel_rfl)) (z3 (by kernel_rfl)) rfl rfl rfl (yb yf rfl (y2e hz.pv zpO rfl)) ?_
                refine WD.a (i:=41) (d:=58) (by kernel_rfl) rfl (z2 (by kernel_rfl)) (z3 (by kernel_rfl)) rfl rfl rfl (fun _=>ya y3r rfl rfl) ?_
                refine WD.e (i:=42) (d:=59) (by kernel_rfl) rfl (z2 (by kernel_rfl)) (z3 (by kernel_rfl)) rfl rfl rfl (yb yf rfl (ye .here rfl)) ?_
                refine WD.a (i:=43) (d:=60) (by kernel_rfl) rfl (z2 (by kernel_rfl)) (z3 (by kernel_rfl)) rfl rfl rfl (fun _=>y3F rfl rfl) ?_
                refine WD.a (i:=44) (d:=61) (by kernel_rfl) rfl (z2 (by kernel_rfl)) (z3 (by kernel_rfl)) rfl rfl rfl (fun _=>y1w rfl rfl) ?_
                refine WD.yS (.cons .here (.cons .here .nil)) ?_ zku
                exact (.cons rfl (.cons rfl (.cons rfl (.cons rfl (.cons rfl (.cons rfl (.cons (zq (Eq.symm zen)) (.cons (zq (y2L zen)) .nil))))))))
              · have zgF:=hb'; clear hb'
                refine WD.pin (i:=51) rfl zgF ?_
                refine WD.b (i:=35) (d:=52) (by kernel_rfl) rfl (z2 (by kernel_rfl)) (z3 (by kernel_rfl)) rfl rfl rfl ?_
                refine WD.b (i:=36) (d:=53) (by kernel_rfl) rfl (z2 (by kernel_rfl)) (z3 (by kernel_rfl)) rfl rfl rfl ?_
                refine WD.b (i:=37) (d:=54) (by kernel_rfl) rfl (z2 (by kernel_rfl)) (z3 (by kernel_rfl)) rfl rfl rfl ?_
                refine WD.b (i:=38) (d:=55) (by kernel_rfl) rfl (z2 (by kernel_rfl)) (z3 (by kernel_rfl)) rfl rfl rfl ?_
                refine WD.b (i:=39) (d:=56) (by kernel_rfl) rfl (z2 (by kernel_rfl)) (z3 (by kernel_rfl)) rfl rfl rfl ?_
                refine WD.b (i:=40) (d:=57) (by kernel_rfl) rfl (z2 (by kernel_rfl)) (z3 (by kernel_rfl)) rfl rfl rfl ?_
                refine WD.b (i:=41) (d:=58) (by kernel_rfl) rfl (z2 (by kernel_rfl)) (z3 (by kernel_rfl)) rfl rfl rfl ?_
                refine WD.b (i:=42) (d:=59) (by kernel_rfl) rfl (z2 (by kernel_rfl)) (z3 (by kernel_rfl)) rfl rfl rfl ?_
                refine WD.b (i:=43) (d:=60) (by kernel_rfl) rfl (z2 (by kernel_rfl)) (z3 (by kernel_rfl)) rfl rfl rfl ?_
                refine WD.a (i:=44) (d:=61) (by kernel_rfl) rfl (z2 (by kernel_rfl)) (z3 (by kernel_rfl)) rfl rfl rfl (fun _=>y1x rfl rfl) ?_
                refine WD.yS (.cons .here (.cons .here .nil)) ?_ zku
                exact (.cons rfl (.cons rfl (.cons rfl (.cons rfl (.cons rfl (.cons rfl (.cons (zq (Eq.symm zgF)) (.cons (zq (y2K zgF)) .nil))))))))
            refine WD.d #[true,true,true,true,true,true,true,true,true,true,true,true,true,true,true,true,true,true,true,true,true,true,true,true,true,true,true,true,true,true,true,true,true,true,true,true,true,true,true,true,true,true,true,true,true,false] (by kernel_rfl) ?_
            refine WD.a (i:=45) (d:=62) (by kernel_rfl) rfl (z2 (by kernel_rfl)) (z3 (by kernel_rfl)) rfl rfl rfl (fun _=>y1x rfl rfl) ?_
            refine WD.yS (.cons .here (.cons .here .nil)) ?_ zkt
            exact (.cons rfl (.cons rfl (.cons rfl (.cons rfl (.cons rfl (.cons (zq (Eq.symm zem)) (.cons (zq (y26 zem)) .nil)))))))
        refine WD.d #[true,true,true,true,true,true,true,true,true,true,true,true,true,true,true,true,true,true,true,true,true,true,true,true,true,true,true,true,true,true,true,true,true,true,true,true,true,true,true,true,true,true,true,true,true,true] (by kernel_rfl) ?_
        refine WD.done (by kernel_rfl) ?_
        refine WX.a ?_
        refine WC.cond rfl (fun zgG=>?_) (fun zgG=>?_)
        · replace h:=ym h zgG
          refine WC.b (WC.a (WL.pu rfl (WL.nil (WX.a (WC.ret (WX.yK (WX.yi (WX.yi (WX.yK (WX.yi ?_))))))))))
          obtain rfl:=Option.some.inj h
          refine WX.yh Try.results22 (.tmp rfl .nil) (fun w hw=>?_)
          exact ⟨y10 rfl,hw.sub .nil⟩
        · replace h:=yn h zgG
          refine WC.skip (WX.yg (WX.a (WC.a (WL.pu rfl (WL.pu rfl (WL.nil ?_))))))
          exact WX.round (G:=Nat × Int) ⟨zgr,(i64 (zb + 1))⟩ h (Nat.lt_succ_self _) (.cons rfl (.cons rfl (.cons rfl (.cons rfl (.cons rfl .nil))))) (.cons .h1 .nil)
      · replace h:=yn h zgt
        refine WC.exit (WX.yd (WX.yd (WX.yA ?_)))
        exact WX.mid (G:=Unit) () h .nil .nil
    · rintro  h
      replace h:=zpI.symm.trans h
      refine WC.b (WC.a (WL.pu rfl (WL.nil (WX.a (WC.ret ?_)))))
      obtain rfl:=Option.some.inj h
      refine WX.yh Try.results22 (.tmp rfl .nil) (fun w hw=>?_)
      exact ⟨y10 rfl,hw.sub .nil⟩
def y42 (c_39 : Sapi_Config) (net_64 : Int) (routes_65 : List (List Sapi_Hop)) (sent_69 : List zSt) : Option Bool :=
  (y4c c_39 routes_65 sent_69).bind fun zkv=>(if zkv then (y2M c_39 net_64 routes_65).bind fun zkw=>some zkw else some false).bind fun zgH=>(if zgH then (y33 c_39 sent_69).bind fun zkx=>some zkx else some false).bind fun zgI=>some zgI
set_option maxRecDepth 20000 in
theorem y8x (Z : Zp) (ao_40 : Option Addr) (cap_41 : Nat) (ao_43 : Option Addr) (cap_44 : Nat) (ao_46 : Option Addr) (cap_47 : Nat) (ao_49 : Option Addr) (cap_50 : Nat) (ao_52 : Option Addr) (cap_53 : Nat) (ao_55 : Option Addr) (cap_56 : Nat) (ao_58 : Option Addr) (cap_59 : Nat) (ao_61 : Option Addr) (cap_62 : Nat) (ao_66 : Option Addr) (cap_67 : Nat) (ao_70 : Option Addr) (cap_71 : Nat) (c_39 : Sapi_Config) (net_64 : Int) (routes_65 : List (List Sapi_Hop)) (sent_69 : List zSt) (r : Bool)
     (h : y42 c_39 net_64 routes_65 sent_69 = some r) (w₀ : World) (hz : PZ [] w₀ Z)
     (hs_42 : ZS Z 4 (y2x Z) ao_40 cap_41 c_39.fModules)
     (hs_45 : ZS Z 4 (y2S Z) ao_43 cap_44 c_39.fChannels)
     (hs_48 : ZS Z 4 (fun r x=>r = e64 x) ao_46 cap_47 c_39.fSwitches)
     (hs_51 : ZS Z 4 (fun r x=>r = e62 x) ao_49 cap_50 c_39.fLinks)
     (hs_54 : ZS Z 7 (y2G Z) ao_52 cap_53 c_39.fVLs)
     (hs_57 : ZS Z 5 (fun r x=>r = y37 x) ao_55 cap_56 c_39.fHealth)
     (hs_60 : ZS Z 3 (y2T Z) ao_58 cap_59 c_39.fCauses)
     (hs_63 : ZS Z 4 (fun r x=>r = y38 x) ao_61 cap_62 c_39.fVersions)
     (hs_68 : ZS Z 1 (p55 Z) ao_66 cap_67 routes_65)
     (hs_72 : ZS Z 3 (fun r x=>r = e53 x) ao_70 cap_71 sent_69) :
    Calls Try.prog 20 #[(.agg #[(.slice ao_40 c_39.fModules.length cap_41),(.slice ao_43 c_39.fChannels.length cap_44),(.slice ao_46 c_39.fSwitches.length cap_47),(.slice ao_49 c_39.fLinks.length cap_50),(.slice ao_52 c_39.fVLs.length cap_53),(.slice ao_55 c_39.fHealth.length cap_56),(.slice ao_58 c_39.fCauses.length cap_59),(.slice ao_61 c_39.fVersions.length cap_62)]),(.int .i64 net_64),(.slice ao_66 routes_65.length cap_67),(.slice ao_70 sent_69.length cap_71)] w₀ fun e w'=>e = .returned (.bool r) ∧ Hp [] w₀ w' []:=by
  unfold y42 at h
  refine Calls.yl (vs:=[(.agg #[(.slice ao_40 c_39.fModules.length cap_41),(.slice ao_43 c_39.fChannels.length cap_44),(.slice ao_46 c_39.fSwitches.length cap_47),(.slice ao_49 c_39.fLinks.length cap_50),(.slice ao_52 c_39.fVLs.length cap_53),(.slice ao_55 c_39.fHealth.length cap_56),(.slice ao_58 c_39.fCauses.length cap_59),(.slice ao_61 c_39.fVersions.length cap_62)]),(.int .i64 net_64),(.slice ao_66 routes_65.length cap_67),(.slice ao_70 sent_69.length cap_71)]) (pre:=[]) (env:=[(0,(.agg #[(.slice ao_40 c_39.fModules.length cap_41),(.slice ao_43 c_39.fChannels.length cap_44),(.slice ao_46 c_39.fSwitches.length cap_47),(.slice ao_49 c_39.fLinks.length cap_50),(.slice ao_52 c_39.fVLs.length cap_53),(.slice ao_55 c_39.fHealth.length cap_56),(.slice ao_58 c_39.fCauses.length cap_59),(.slice ao_61 c_39.fVersions.length cap_62)])),(1,(.int .i64 net_64)),(2,(.slice ao_66 routes_65.length cap_67)),(3,(.slice ao_70 sent_69.length cap_71))]) Try.func20 rfl Try.ntmps20 rfl (Hp.nil w₀ _) rfl ?_
  refine WC.b (WC.a ?_)
  refine WL.new (dd:=4) rfl rfl rfl (y2g (cs:=[(.slice ao_40 c_39.fModules.length cap_41),(.slice ao_43 c_39.fChannels.length cap_44),(.slice ao_46 c_39.fSwitches.length cap_47),(.slice ao_49 c_39.fLinks.length cap_50),(.slice ao_52 c_39.fVLs.length cap_53),(.slice ao_55 c_39.fHealth.length cap_56),(.slice ao_58 c_39.fCauses.length cap_59),(.slice ao_61 c_39.fVersions.length cap_62)]) rfl rfl) ?_
  intro zvA _
  refine WL.pu rfl (WL.nil (WX.a (WC.b ?_)))
  obtain ⟨zkv,zpP,h⟩:=zf h
  obtain ⟨zgH,zky,h⟩:=zf h
  obtain ⟨zgI,zkz,h⟩:=zf h
  refine WC.a ?_
  refine WL.a (d:=9) rfl rfl rfl (yF y1C rfl (y1i .here) rfl) ?_
  refine WL.pu rfl (WL.pu rfl ?_)
  refine WL.b (dd:=12) rfl rfl rfl (zy (l:=[.tmp 9,.tmp 10,.tmp 11]) Try.call10 (.cons rfl (.cons rfl (.cons rfl .nil)))) .nil (cc hz .nil fun w pz ho=>y8P _ _ _ _ _ _ _ _ _ _ _ _ _ _ _ _ _ _ _ _ _ _ _ _ _ zpP w pz hs_42 hs_45 hs_48 hs_51 hs_54 hs_57 hs_60 hs_63 hs_68 hs_72) ?_
  refine WL.pu rfl ?_
  refine WL.seg true 4 13 (B:=zgH) rfl rfl rfl rfl rfl rfl (fun h=>(Option.some.inj (yn zky h)).symm) (fun _ zpQ=>?_) ?_
  · skip
    have zd6:=ym zky zpQ
    obtain ⟨zkw,zpR,zd6⟩:=zf zd6
    replace zd6:=Option.some.inj zd6
    refine WL.a (d:=14) rfl rfl rfl (yF y1C rfl (y1i .here) rfl) ?_
    refine WL.pu rfl (WL.pu rfl ?_)
    refine WL.b (dd:=17) rfl rfl rfl (zy (l:=[.tmp 14,.tmp 15,.tmp 16]) Try.call15 (.cons rfl (.cons rfl (.cons rfl .nil)))) .nil (cc hz .nil fun w pz ho=>y5n _ _ _ _ _ _ _ _ _ _ _ _ _ _ _ _ _ _ _ _ _ _ _ zpR w pz hs_42 hs_45 hs_48 hs_51 hs_54 hs_57 hs_60 hs_63 hs_68) ?_
    refine WL.pu rfl ?_
    exact WL.ys zd6 rfl rfl .all
  refine WL.pu rfl ?_
  refine WL.seg true 3 19 (B:=zgI) rfl rfl rfl rfl rfl rfl (fun h=>(Option.some.inj (yn zkz h)).symm) (fun _ zpS=>?_) ?_
  · skip
    have zd7:=ym zkz zpS
    obtain ⟨zkx,zpT,zd7⟩:=zf zd7
    replace zd7:=Option.some.inj zd7
    refine WL.a (d:=20) rfl rfl rfl (yF y1C rfl (y1i .here) rfl) ?_
    refine WL.pu rfl ?_
    refine WL.b (dd:=22) rfl rfl rfl (zy (l:=[.tmp 20,.tmp 21]) Try.call22 (.cons rfl (.cons rfl .nil))) .nil (cc hz .nil fun w pz ho=>y5M _ _ _ _ _ _ _ _ _ _ _ _ _ _ _ _ _ _ _ _ _ _ zpT w pz hs_42 hs_45 hs_48 hs_51 hs_54 hs_57 hs_60 hs_63 hs_72) ?_
    refine WL.pu rfl ?_
    exact WL.ys zd7 rfl rfl .all
  refine WL.pu rfl (WL.nil (WX.a (WC.ret ?_)))
  obtain rfl:=Option.some.inj h
  refine WX.yh Try.results20 (.tmp rfl .nil) (fun w hw=>?_)
  exact ⟨y10 rfl,hw.sub .nil⟩
def y4n (z6B : Int) : Option (Sapi_Config × List (List Sapi_Hop)) :=
  some ((⟨([(⟨⟨#[109]⟩,0,0,[]⟩ : Sapi_Module),(⟨⟨#[110]⟩,0,0,[]⟩ : Sapi_Module)] : List Sapi_Module),[],([(⟨⟨#[115]⟩,0,16,z6B⟩ : Sapi_Switch)] : List Sapi_Switch),([(⟨⟨#[109]⟩,⟨#[115]⟩,0,1⟩ : Sapi_Link),(⟨⟨#[110]⟩,⟨#[115]⟩,0,1⟩ : Sapi_Link)] : List Sapi_Link),([(⟨⟨#[]⟩,(⟨⟨#[]⟩,⟨#[]⟩,⟨#[]⟩⟩ : Sapi_Ref),0,0,[]⟩ : Sapi_VL)] : List Sapi_VL),[],[],[]⟩ : Sapi_Config),([([(⟨0,2,0⟩ : Sapi_Hop),(⟨2,1,1⟩ : Sapi_Hop)] : List Sapi_Hop)] : List (List Sapi_Hop)))
set_option maxRecDepth 20000 in
theorem y7r (Z : Zp)  (z6B : Int) (r : Sapi_Config × List (List Sapi_Hop))
     (h : y4n z6B = some r) (w₀ : World) (hz : PZ [] w₀ Z) :
    Calls Try.prog 23 #[(.int .i64 z6B)] w₀ fun e w'=>∃ Zn : Zp,∃ zkA : Option Addr,∃ zkB : Nat,∃ zkC : List Value,∃ zkD : Option Addr,∃ zkE : Nat,∃ zkF : Option Addr,∃ zkG : Nat,∃ zkH : Option Addr,∃ zkI : Nat,∃ zkJ : Option Addr,∃ zkK : Nat,∃ zkL : List Value,∃ zkM : Option Addr,∃ zkN : Nat,∃ zkO : Option Addr,∃ zkP : Nat,∃ zkQ : Option Addr,∃ zkR : Nat,∃ zkS : Option Addr,∃ zkT : Nat,∃ zkU : List Value,e = .returned (.tuple #[(.agg #[(.slice zkA r.1.fModules.length zkB),(.slice zkD r.1.fChannels.length zkE),(.slice zkF r.1.fSwitches.length zkG),(.slice zkH r.1.fLinks.length zkI),(.slice zkJ r.1.fVLs.length zkK),(.slice zkM r.1.fHealth.length zkN),(.slice zkO r.1.fCauses.length zkP),(.slice zkQ r.1.fVersions.length zkR)]),(.slice zkS r.2.length zkT)]) ∧ ((RR 4 (y2x (Z ++ Zn)) zkC r.1.fModules) ∧ (ZS (Z ++ Zn) 4 (y2S (Z ++ Zn)) zkD zkE r.1.fChannels) ∧ (RR 7 (y2G (Z ++ Zn)) zkL r.1.fVLs) ∧ (ZS (Z ++ Zn) 5 (fun r x=>r = y37 x) zkM zkN r.1.fHealth) ∧ (ZS (Z ++ Zn) 3 (y2T (Z ++ Zn)) zkO zkP r.1.fCauses) ∧ (ZS (Z ++ Zn) 4 (fun r x=>r = y38 x) zkQ zkR r.1.fVersions) ∧ (RR 1 (p55 (Z ++ Zn)) zkU r.2)) ∧ Hp [] w₀ w' [fz Zn,row (.slice zkA r.1.fModules.length zkB) 104 4 zkC,row (.slice zkF r.1.fSwitches.length zkG) 64 4 (r.1.fSwitches.flatMap e64),row (.slice zkH r.1.fLinks.length zkI) 62 4 (r.1.fLinks.flatMap e62),row (.slice zkJ r.1.fVLs.length zkK) 109 7 zkL,row (.slice zkS r.2.length zkT) 55 1 zkU]:=by
  unfold y4n at h
  refine Calls.yl (vs:=[(.int .i64 z6B)]) (pre:=[]) (env:=[(0,(.int .i64 z6B))]) Try.func23 rfl Try.ntmps23 rfl (Hp.nil w₀ _) rfl ?_
  refine WC.pool (WC.b (WC.a ?_))
  refine WL.new (dd:=2) rfl rfl rfl (y2u (cs:=[(.slice none 0 0),(.slice none 0 0),(.slice none 0 0),(.slice none 0 0),(.slice none 0 0),(.slice none 0 0),(.slice none 0 0),(.slice none 0 0)]) y75 rfl) ?_
  intro zvB _
  refine WL.pu rfl (WL.nil (WX.a (WC.b (WC.a ?_))))
  refine WL.a (d:=5) rfl rfl rfl (y1B (v:=(.agg #[(.string ⟨#[109]⟩),(.int .i64 0),(.int .i64 0),(.slice none 0 0)])) (Eos.parts (l:=[.const (.string ⟨#[109]⟩)]) (.cons rfl .nil) [0]) (fun _=>by kernel_rfl)) ?_
  refine WL.a (d:=6) rfl rfl rfl (y1B (v:=(.agg #[(.string ⟨#[110]⟩),(.int .i64 0),(.int .i64 0),(.slice none 0 0)])) (Eos.parts (l:=[.const (.string ⟨#[110]⟩)]) (.cons rfl .nil) [0]) (fun _=>by kernel_rfl)) ?_
  have zpU : RR 4 (y2x (Z ++ [])) [(.string ⟨#[109]⟩),(.int .i64 0),(.int .i64 0),(.slice none 0 0),(.string ⟨#[110]⟩),(.int .i64 0),(.int .i64 0),(.slice none 0 0)] ([(⟨⟨#[109]⟩,0,0,[]⟩ : Sapi_Module),(⟨⟨#[110]⟩,0,0,[]⟩ : Sapi_Module)] : List Sapi_Module):=(RR.cons (r:=[(.string ⟨#[109]⟩),(.int .i64 0),(.int .i64 0),(.slice none 0 0)]) rfl (show y2x _ _ _ from ⟨_,_,rfl,(ZS.nil _ _ _)⟩) (RR.cons (r:=[(.string ⟨#[110]⟩),(.int .i64 0),(.int .i64 0),(.slice none 0 0)]) rfl (show y2x _ _ _ from ⟨_,_,rfl,(ZS.nil _ _ _)⟩) (RR.nil _ _)))
  refine WL.new (dd:=7) rfl rfl rfl (y15 (cs:=[(.string ⟨#[109]⟩),(.int .i64 0),(.int .i64 0),(.slice none 0 0),(.string ⟨#[110]⟩),(.int .i64 0),(.int .i64 0),(.slice none 0 0)]) elT_22 (Eos.parts (l:=[.tmp 5,.tmp 6]) (.cons rfl (.cons rfl .nil)) [0,1]) (fun _=>by kernel_rfl) rfl (by unfold maxLen; omega)) ?_
  intro zkV _
  refine WL.pu rfl ?_
  refine WL.a (d:=9) rfl rfl rfl (y1B (v:=(.agg #[(.string ⟨#[115]⟩),(.int .i64 0),(.int .i64 16),(.int .i64 z6B)])) (Eos.parts (l:=[.const (.string ⟨#[115]⟩),.const (.int .i64 16),.tmp 8]) (.cons rfl (.cons rfl (.cons rfl .nil))) [0,2,3]) (fun _=>by kernel_rfl)) ?_
  refine WL.new (dd:=10) rfl rfl rfl (y15 (cs:=([(⟨⟨#[115]⟩,0,16,z6B⟩ : Sapi_Switch)] : List Sapi_Switch).flatMap e64) y6A (Eos.parts (l:=[.tmp 9]) (.cons rfl .nil) [0]) (fun _=>by kernel_rfl) rfl (by unfold maxLen; omega)) ?_
  intro zkW _
  refine WL.a (d:=11) rfl rfl rfl (y1B (v:=(.agg #[(.string ⟨#[109]⟩),(.string ⟨#[115]⟩),(.int .i64 0),(.int .i64 1)])) (Eos.parts (l:=[.const (.string ⟨#[109]⟩),.const (.string ⟨#[115]⟩),.const (.int .i64 1)]) (.cons rfl (.cons rfl (.cons rfl .nil))) [0,1,3]) (fun _=>by kernel_rfl)) ?_
  refine WL.a (d:=12) rfl rfl rfl (y1B (v:=(.agg #[(.string ⟨#[110]⟩),(.string ⟨#[115]⟩),(.int .i64 0),(.int .i64 1)])) (Eos.parts (l:=[.const (.string ⟨#[110]⟩),.const (.string ⟨#[115]⟩),.const (.int .i64 1)]) (.cons rfl (.cons rfl (.cons rfl .nil))) [0,1,3]) (fun _=>by kernel_rfl)) ?_
  refine WL.new (dd:=13) rfl rfl rfl (y15 (cs:=([(⟨⟨#[109]⟩,⟨#[115]⟩,0,1⟩ : Sapi_Link),(⟨⟨#[110]⟩,⟨#[115]⟩,0,1⟩ : Sapi_Link)] : List Sapi_Link).flatMap e62) y8r (Eos.parts (l:=[.tmp 11,.tmp 12]) (.cons rfl (.cons rfl .nil)) [0,1]) (fun _=>by kernel_rfl) rfl (by unfold maxLen; omega)) ?_
  intro zkX _
  refine WL.a (d:=14) rfl rfl rfl (y1B (v:=(.agg #[(.string ⟨#[]⟩),(.string ⟨#[]⟩),(.string ⟨#[]⟩),(.string ⟨#[]⟩),(.int .i64 0),(.int .i64 0),(.slice none 0 0)])) (Eos.parts (l:=[]) .nil []) (fun _=>by kernel_rfl)) ?_
  have zpV : RR 7 (y2G (Z ++ [])) [(.string ⟨#[]⟩),(.string ⟨#[]⟩),(.string ⟨#[]⟩),(.string ⟨#[]⟩),(.int .i64 0),(.int .i64 0),(.slice none 0 0)] ([(⟨⟨#[]⟩,(⟨⟨#[]⟩,⟨#[]⟩,⟨#[]⟩⟩ : Sapi_Ref),0,0,[]⟩ : Sapi_VL)] : List Sapi_VL):=(RR.cons (r:=[(.string ⟨#[]⟩),(.string ⟨#[]⟩),(.string ⟨#[]⟩),(.string ⟨#[]⟩),(.int .i64 0),(.int .i64 0),(.slice none 0 0)]) rfl (show y2G _ _ _ from ⟨_,_,rfl,(ZS.nil _ _ _)⟩) (RR.nil _ _))
  refine WL.new (dd:=15) rfl rfl rfl (y15 (cs:=[(.string ⟨#[]⟩),(.string ⟨#[]⟩),(.string ⟨#[]⟩),(.string ⟨#[]⟩),(.int .i64 0),(.int .i64 0),(.slice none 0 0)]) elT_26 (Eos.parts (l:=[.tmp 14]) (.cons rfl .nil) [0]) (fun _=>by kernel_rfl) rfl (by unfold maxLen; omega)) ?_
  intro zkY _
  refine WL.a (d:=16) rfl rfl rfl (y1B (v:=(.agg #[(.slice (some ⟨zkV,0,none⟩) (([(⟨⟨#[109]⟩,0,0,[]⟩ : Sapi_Module),(⟨⟨#[110]⟩,0,0,[]⟩ : Sapi_Module)] : List Sapi_Module).length) 2),(.slice none 0 0),(.slice (some ⟨zkW,0,none⟩) (([(⟨⟨#[115]⟩,0,16,z6B⟩ : Sapi_Switch)] : List Sapi_Switch).length) 1),(.slice (some ⟨zkX,0,none⟩) (([(⟨⟨#[109]⟩,⟨#[115]⟩,0,1⟩ : Sapi_Link),(⟨⟨#[110]⟩,⟨#[115]⟩,0,1⟩ : Sapi_Link)] : List Sapi_Link).length) 2),(.slice (some ⟨zkY,0,none⟩) (([(⟨⟨#[]⟩,(⟨⟨#[]⟩,⟨#[]⟩,⟨#[]⟩⟩ : Sapi_Ref),0,0,[]⟩ : Sapi_VL)] : List Sapi_VL).length) 1),(.slice none 0 0),(.slice none 0 0),(.slice none 0 0)])) (Eos.parts (l:=[.tmp 7,.tmp 10,.tmp 13,.tmp 15]) (.cons rfl (.cons rfl (.cons rfl (.cons rfl .nil)))) [0,2,3,4]) (fun _=>by kernel_rfl)) ?_
  refine WL.new (dd:=4) rfl rfl rfl (y2u (cs:=[(.slice none 0 0),(.slice none 0 0),(.slice none 0 0),(.slice none 0 0),(.slice none 0 0),(.slice none 0 0),(.slice none 0 0),(.slice none 0 0)]) y75 rfl) ?_
  intro zvC _
  refine WL.y1o rfl rfl (y22 y7G rfl rfl rfl .here rfl rfl rfl) ?_
  refine WL.nil (WX.a (WC.b (WC.a ?_)))
  refine WL.a (d:=17) rfl rfl rfl (yF y1C rfl (y1i .here) rfl) ?_
  refine WL.a (d:=18) rfl rfl rfl (y1B (v:=(.agg #[(.int .i64 0),(.int .i64 2),(.int .i64 0)])) (Eos.parts (l:=[.const (.int .i64 0),.const (.int .i64 2),.const (.int .i64 0)]) (.cons rfl (.cons rfl (.cons rfl .nil))) [0,1,2]) (fun _=>by kernel_rfl)) ?_
  refine WL.a (d:=19) rfl rfl rfl (y1B (v:=(.agg #[(.int .i64 2),(.int .i64 1),(.int .i64 1)])) (Eos.parts (l:=[.const (.int .i64 2),.const (.int .i64 1),.const (.int .i64 1)]) (.cons rfl (.cons rfl (.cons rfl .nil))) [0,1,2]) (fun _=>by kernel_rfl)) ?_
  refine WL.new (dd:=20) rfl rfl rfl (y15 (cs:=([(⟨0,2,0⟩ : Sapi_Hop),(⟨2,1,1⟩ : Sapi_Hop)] : List Sapi_Hop).flatMap e59) y6z (Eos.parts (l:=[.tmp 18,.tmp 19]) (.cons rfl (.cons rfl .nil)) [0,1]) (fun _=>by kernel_rfl) rfl (by unfold maxLen; omega)) ?_
  intro zeo _
  refine WL.freezeS (ls:=([(⟨0,2,0⟩ : Sapi_Hop),(⟨2,1,1⟩ : Sapi_Hop)] : List Sapi_Hop)) .here .h6 hz (RR.y17 (enc:=e59) (fun _=>rfl) _) ?_
  intro zkZ zl0 zpW
  have zpX : RR 1 (p55 (Z ++ zkZ)) [(.slice (some ⟨zeo,0,none⟩) (([(⟨0,2,0⟩ : Sapi_Hop),(⟨2,1,1⟩ : Sapi_Hop)] : List Sapi_Hop).length) 2)] ([([(⟨0,2,0⟩ : Sapi_Hop),(⟨2,1,1⟩ : Sapi_Hop)] : List Sapi_Hop)] : List (List Sapi_Hop)):=(RR.cons (r:=[(.slice (some ⟨zeo,0,none⟩) (([(⟨0,2,0⟩ : Sapi_Hop),(⟨2,1,1⟩ : Sapi_Hop)] : List Sapi_Hop).length) 2)]) rfl (show p55 _ _ _ from ⟨_,_,rfl,zpW⟩) (RR.nil _ _))
  refine WL.new (dd:=21) rfl rfl rfl (y15 (cs:=[(.slice (some ⟨zeo,0,none⟩) (([(⟨0,2,0⟩ : Sapi_Hop),(⟨2,1,1⟩ : Sapi_Hop)] : List Sapi_Hop).length) 2)]) y6y (Eos.parts (l:=[.tmp 20]) (.cons rfl .nil) [0]) (fun _=>by kernel_rfl) rfl (by unfold maxLen; omega)) ?_
  intro zpY _
  refine WL.y1o rfl rfl (y22 y7G rfl rfl rfl .h7 rfl rfl rfl) ?_
  refine WL.pu rfl (WL.nil (WX.a (WC.ret ?_)))
  obtain rfl:=Option.some.inj h
  refine WX.yh Try.results23 (.agg rfl y1C rfl (y1i .here) (.tmp rfl .nil)) (fun w hw=>?_)
  exact ⟨zkZ,(some ⟨zkV,0,none⟩),2,[(.string ⟨#[109]⟩),(.int .i64 0),(.int .i64 0),(.slice none 0 0),(.string ⟨#[110]⟩),(.int .i64 0),(.int .i64 0),(.slice none 0 0)],none,0,(some ⟨zkW,0,none⟩),1,(some ⟨zkX,0,none⟩),2,(some ⟨zkY,0,none⟩),1,[(.string ⟨#[]⟩),(.string ⟨#[]⟩),(.string ⟨#[]⟩),(.string ⟨#[]⟩),(.int .i64 0),(.int .i64 0),(.slice none 0 0)],none,0,none,0,none,0,(some ⟨zpY,0,none⟩),1,[(.slice (some ⟨zeo,0,none⟩) (([(⟨0,2,0⟩ : Sapi_Hop),(⟨2,1,1⟩ : Sapi_Hop)] : List Sapi_Hop).length) 2)],ret2 rfl rfl,⟨(zpU.weak (fun _ _ h=>y1E zl0 h)),(ZS.nil _ _ _),(zpV.weak (fun _ _ h=>y1F zl0 h)),(ZS.nil _ _ _),(ZS.nil _ _ _),(ZS.nil _ _ _),zpX⟩,hw.sub (.cons .h2 (.cons .h6 (.cons .h5 (.cons .h4 (.cons .h3 (.cons .h1 .nil))))))⟩
end Go.Proofs.Ytinchjigeakocaa
