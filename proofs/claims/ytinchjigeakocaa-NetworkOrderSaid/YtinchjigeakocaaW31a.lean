/- A part of this claim's proof: models of functions, walks, plain laws. No conditions. -/
import Derived.Test.YtinchjigeakocaaZSortF
import Derived.Test.YtinchjigeakocaaZUnroll
import Derived.Test.YtinchjigeakocaaZEnt
import Derived.Test.YtinchjigeakocaaProg
namespace Go.Proofs.Ytinchjigeakocaa
open Go Go.RowKit Sep
set_option linter.all false
set_option maxRecDepth 30000
set_option maxHeartbeats 4000000
structure Sapi_Port where
  fName : ByteArray
  fKind : Int
  fOut : Bool
  fSize : Int
  fDepth : Int
  fRefresh : Int
  deriving Inhabited,DecidableEq
structure Sapi_Ins where
  fOp : Int
  fA : Int
  fB : Int
  fC : Int
  deriving Inhabited,DecidableEq
structure Sapi_Proc where
  fName : ByteArray
  fPrio : Int
  fPeriod : Int
  fLimit : Int
  fCode : List Sapi_Ins
  deriving Inhabited,DecidableEq
structure Sapi_Part where
  fName : ByteArray
  fPeriod : Int
  fLength : Int
  fMem : Int
  fSemas : List Int
  fEvents : Int
  fBoards : Int
  fBufs : List Int
  fPorts : List Sapi_Port
  fProcs : List Sapi_Proc
  deriving Inhabited,DecidableEq
structure Sapi_Module where
  fName : ByteArray
  fMem : Int
  fFrame : Int
  fParts : List Sapi_Part
  deriving Inhabited,DecidableEq
structure Sapi_Ref where
  fModule : ByteArray
  fPart : ByteArray
  fPort : ByteArray
  deriving Inhabited,DecidableEq
structure Sapi_Channel where
  fFrom : Sapi_Ref
  fTo : List Sapi_Ref
  deriving Inhabited,DecidableEq
structure Sapi_Switch where
  fName : ByteArray
  fNet : Int
  fDelay : Int
  fStore : Int
  deriving Inhabited,DecidableEq
structure Sapi_Link where
  fA : ByteArray
  fB : ByteArray
  fNet : Int
  fSlow : Int
  deriving Inhabited,DecidableEq
structure Sapi_VL where
  fName : ByteArray
  fFrom : Sapi_Ref
  fBag : Int
  fMax : Int
  fTo : List Sapi_Ref
  deriving Inhabited,DecidableEq
structure Sapi_Health where
  fModule : ByteArray
  fPart : ByteArray
  fFault : Int
  fLevel : Int
  fDo : Int
  deriving Inhabited,DecidableEq
structure Sapi_Report where
  fUnit : ByteArray
  fCode : Int
  deriving Inhabited,DecidableEq
structure Sapi_Cause where
  fUnit : ByteArray
  fNeeds : List Sapi_Report
  fUnless : List ByteArray
  deriving Inhabited,DecidableEq
structure Sapi_Version where
  fA : ByteArray
  fVA : Int
  fB : ByteArray
  fVB : Int
  deriving Inhabited,DecidableEq
structure Sapi_Config where
  fModules : List Sapi_Module
  fChannels : List Sapi_Channel
  fSwitches : List Sapi_Switch
  fLinks : List Sapi_Link
  fVLs : List Sapi_VL
  fHealth : List Sapi_Health
  fCauses : List Sapi_Cause
  fVersions : List Sapi_Version
  deriving Inhabited,DecidableEq
def e3 (x : Int) : List Value:=[(.int .i64 x)]
def e191 (x : Sapi_Port) : List Value:=[(.string x.fName),(.int .u8 x.fKind),(.bool x.fOut),(.int .i64 x.fSize),(.int .i64 x.fDepth),(.int .i64 x.fRefresh)]
def e196 (x : Sapi_Ins) : List Value:=[(.int .u8 x.fOp),(.int .i64 x.fA),(.int .i64 x.fB),(.int .i64 x.fC)]
def p194 (Z : Zp) (r : List Value) (x : Sapi_Proc) : Prop:=∃ (ao0 : Option Addr) (cap0 : Nat),r = [(.string x.fName),(.int .i64 x.fPrio),(.int .i64 x.fPeriod),(.int .i64 x.fLimit),(.slice ao0 x.fCode.length cap0)] ∧ ZS Z 4 (fun r x=>r = e196 x) ao0 cap0 x.fCode
theorem y80 {Z Z' : Zp} (k : Zle Z Z') {r : List Value} {x : Sapi_Proc} (h : p194 Z r x) : p194 Z' r x:=by
  obtain ⟨ao0,cap0,hr,h0⟩:=h
  exact ⟨ao0,cap0,hr,h0.mono k⟩
def p186 (Z : Zp) (r : List Value) (x : Sapi_Part) : Prop:=∃ (ao0 : Option Addr) (cap0 : Nat) (ao1 : Option Addr) (cap1 : Nat) (ao2 : Option Addr) (cap2 : Nat) (ao3 : Option Addr) (cap3 : Nat),r = [(.string x.fName),(.int .i64 x.fPeriod),(.int .i64 x.fLength),(.int .i64 x.fMem),(.slice ao0 x.fSemas.length cap0),(.int .i64 x.fEvents),(.int .i64 x.fBoards),(.slice ao1 x.fBufs.length cap1),(.slice ao2 x.fPorts.length cap2),(.slice ao3 x.fProcs.length cap3)] ∧ ZS Z 1 (fun r x=>r = e3 x) ao0 cap0 x.fSemas ∧ ZS Z 1 (fun r x=>r = e3 x) ao1 cap1 x.fBufs ∧ ZS Z 6 (fun r x=>r = e191 x) ao2 cap2 x.fPorts ∧ ZS Z 5 (p194 Z) ao3 cap3 x.fProcs
theorem y81 {Z Z' : Zp} (k : Zle Z Z') {r : List Value} {x : Sapi_Part} (h : p186 Z r x) : p186 Z' r x:=by
  obtain ⟨ao0,cap0,ao1,cap1,ao2,cap2,ao3,cap3,hr,h0,h1,h2,h3⟩:=h
  exact ⟨ao0,cap0,ao1,cap1,ao2,cap2,ao3,cap3,hr,h0.mono k,h1.mono k,h2.mono k,(h3.mono k).weak (fun _ _ h=>y80 k h)⟩
def y2x (Z : Zp) (r : List Value) (x : Sapi_Module) : Prop:=∃ (ao0 : Option Addr) (cap0 : Nat),r = [(.string x.fName),(.int .i64 x.fMem),(.int .i64 x.fFrame),(.slice ao0 x.fParts.length cap0)] ∧ ZS Z 10 (p186 Z) ao0 cap0 x.fParts
theorem y28 {Z Z' : Zp} (k : Zle Z Z') {r : List Value} {x : Sapi_Module} (h : y2x Z r x) : y2x Z' r x:=by
  obtain ⟨ao0,cap0,hr,h0⟩:=h
  exact ⟨ao0,cap0,hr,(h0.mono k).weak (fun _ _ h=>y81 k h)⟩
def e106 (x : Sapi_Ref) : List Value:=[(.string x.fModule),(.string x.fPart),(.string x.fPort)]
def y2O (Z : Zp) (r : List Value) (x : Sapi_Channel) : Prop:=∃ (ao0 : Option Addr) (cap0 : Nat),r = [(.string x.fFrom.fModule),(.string x.fFrom.fPart),(.string x.fFrom.fPort),(.slice ao0 x.fTo.length cap0)] ∧ ZS Z 3 (fun r x=>r = e106 x) ao0 cap0 x.fTo
theorem y2h {Z Z' : Zp} (k : Zle Z Z') {r : List Value} {x : Sapi_Channel} (h : y2O Z r x) : y2O Z' r x:=by
  obtain ⟨ao0,cap0,hr,h0⟩:=h
  exact ⟨ao0,cap0,hr,h0.mono k⟩
def e64 (x : Sapi_Switch) : List Value:=[(.string x.fName),(.int .i64 x.fNet),(.int .i64 x.fDelay),(.int .i64 x.fStore)]
def e62 (x : Sapi_Link) : List Value:=[(.string x.fA),(.string x.fB),(.int .i64 x.fNet),(.int .i64 x.fSlow)]
def y2F (Z : Zp) (r : List Value) (x : Sapi_VL) : Prop:=∃ (ao0 : Option Addr) (cap0 : Nat),r = [(.string x.fName),(.string x.fFrom.fModule),(.string x.fFrom.fPart),(.string x.fFrom.fPort),(.int .i64 x.fBag),(.int .i64 x.fMax),(.slice ao0 x.fTo.length cap0)] ∧ ZS Z 3 (fun r x=>r = e106 x) ao0 cap0 x.fTo
theorem y29 {Z Z' : Zp} (k : Zle Z Z') {r : List Value} {x : Sapi_VL} (h : y2F Z r x) : y2F Z' r x:=by
  obtain ⟨ao0,cap0,hr,h0⟩:=h
  exact ⟨ao0,cap0,hr,h0.mono k⟩
def y34 (x : Sapi_Health) : List Value:=[(.string x.fModule),(.string x.fPart),(.int .u8 x.fFault),(.int .u8 x.fLevel),(.int .u8 x.fDo)]
def e189 (x : Sapi_Report) : List Value:=[(.string x.fUnit),(.int .i64 x.fCode)]
def e9 (x : ByteArray) : List Value:=[(.string x)]
def y2P (Z : Zp) (r : List Value) (x : Sapi_Cause) : Prop:=∃ (ao0 : Option Addr) (cap0 : Nat) (ao1 : Option Addr) (cap1 : Nat),r = [(.string x.fUnit),(.slice ao0 x.fNeeds.length cap0),(.slice ao1 x.fUnless.length cap1)] ∧ ZS Z 2 (fun r x=>r = e189 x) ao0 cap0 x.fNeeds ∧ ZS Z 1 (fun r x=>r = e9 x) ao1 cap1 x.fUnless
theorem y2i {Z Z' : Zp} (k : Zle Z Z') {r : List Value} {x : Sapi_Cause} (h : y2P Z r x) : y2P Z' r x:=by
  obtain ⟨ao0,cap0,ao1,cap1,hr,h0,h1⟩:=h
  exact ⟨ao0,cap0,ao1,cap1,hr,h0.mono k,h1.mono k⟩
def y35 (x : Sapi_Version) : List Value:=[(.string x.fA),(.int .i64 x.fVA),(.string x.fB),(.int .i64 x.fVB)]
structure Sapi_Hop where
  fNode : Int
  fNext : Int
  fLink : Int
  deriving Inhabited,DecidableEq
def e59 (x : Sapi_Hop) : List Value:=[(.int .i64 x.fNode),(.int .i64 x.fNext),(.int .i64 x.fLink)]
def p55 (Z : Zp) (r : List Value) (x : List Sapi_Hop) : Prop:=∃ (ao0 : Option Addr) (cap0 : Nat),r = [(.slice ao0 x.length cap0)] ∧ ZS Z 3 (fun r x=>r = e59 x) ao0 cap0 x
theorem y42 {Z Z' : Zp} (k : Zle Z Z') {r : List Value} {x : List Sapi_Hop} (h : p55 Z r x) : p55 Z' r x:=by
  obtain ⟨ao0,cap0,hr,h0⟩:=h
  exact ⟨ao0,cap0,hr,h0.mono k⟩
structure zSt where
  fTime : Int
  fVL : Int
  fSize : Int
  deriving Inhabited,DecidableEq
def e53 (x : zSt) : List Value:=[(.int .i64 x.fTime),(.int .i64 x.fVL),(.int .i64 x.fSize)]
structure S7 where
  fX : Int
  fY : Int
  fSigned : Bool
  fCode : Int
  deriving Inhabited,DecidableEq
structure S13 where
  fMsg : ByteArray
  fAddr : Int
  deriving Inhabited,DecidableEq
structure Snetwork_exit where
  fNode : Int
  fLink : Int
  deriving Inhabited,DecidableEq
def y1N (x : Snetwork_exit) : List Value:=[(.int .i64 x.fNode),(.int .i64 x.fLink)]
structure Sport_numbers where
  fSlow : Int
  fDelay : Int
  fStore : Int
  deriving Inhabited,DecidableEq
structure Sport_frame where
  fSize : Int
  fFin : Int
  deriving Inhabited,DecidableEq
structure Sport_Port where
  fNumbers : Sport_numbers
  fNow : Int
  fLast : Int
  fFrames : List Sport_frame
  deriving Inhabited,DecidableEq
def y1W (x : Sport_frame) : List Value:=[(.int .i64 x.fSize),(.int .i64 x.fFin)]
theorem y8T : ∀ x,∀ u ∈ y1W x,u.oneCell' = true:=fun _=>ocB rfl
def z12 (g : Nat × (Option Addr × Nat)) (x : Sport_Port) : List Asrt:=[stb g.1 143 [(.int .i64 x.fNumbers.fSlow),(.int .i64 x.fNumbers.fDelay),(.int .i64 x.fNumbers.fStore),(.int .i64 x.fNow),(.int .i64 x.fLast),(.slice g.2.1 x.fFrames.length g.2.2)],row (.slice g.2.1 x.fFrames.length g.2.2) 146 2 (x.fFrames.flatMap y1W)]
structure Snetwork_event where
  fTime : Int
  fIn_ : Int
  fVl : Int
  fSent : Int
  fHop : Sapi_Hop
  deriving Inhabited,DecidableEq
def yw (x : Snetwork_event) : List Value:=[(.int .i64 x.fTime),(.int .i64 x.fIn_),(.int .i64 x.fVl),(.int .i64 x.fSent),(.int .i64 x.fHop.fNode),(.int .i64 x.fHop.fNext),(.int .i64 x.fHop.fLink)]
theorem e113_oc : ∀ x,∀ u ∈ yw x,u.oneCell' = true:=fun _=>ocB rfl
structure Sapi_Come where
  fSent : Int
  fNode : Int
  fTime : Int
  deriving Inhabited,DecidableEq
def e50 (x : Sapi_Come) : List Value:=[(.int .i64 x.fSent),(.int .i64 x.fNode),(.int .i64 x.fTime)]
theorem e50_oc : ∀ x,∀ u ∈ e50 x,u.oneCell' = true:=fun _=>ocB rfl
structure S51 where
  a0 : Int
  a1 : Int
  deriving Inhabited,DecidableEq
structure S67 where
  fAll : List Sapi_Come
  fOwn : List Sapi_Come
  deriving Inhabited,DecidableEq
structure S90 where
  fSlow : Int
  fDelay : Int
  fStore : Int
  fNow : Int
  fAt : List Int
  fSize : List Int
  fEnd : List Int
  deriving Inhabited,DecidableEq
structure S92 where
  fNode : Int
  fLink : Int
  fPort : S90
  deriving Inhabited,DecidableEq
def e51 (x : S51) : List Value:=[(.int .i64 x.a0),(.int .i64 x.a1)]
theorem y1J : y4m Try.prog 31 8:=y3P (i:=Try.t31) Try.underlying31 rfl rfl
theorem y3o : yz Try.prog 31 0 0:=yp (i:=Try.t22) Try.underlying31 rfl rfl (by decide) rfl
theorem y3p : y3X Try.prog 22:=y2V Try.underlying22 rfl
theorem y4x : yz Try.prog 31 2 2:=yp (i:=Try.t24) Try.underlying31 rfl rfl (by decide) rfl
theorem y4y : y3X Try.prog 24:=y2V Try.underlying24 rfl
theorem y5C : yz Try.prog 31 3 3:=yp (i:=Try.t25) Try.underlying31 rfl rfl (by decide) rfl
theorem y5D : y3X Try.prog 25:=y2V Try.underlying25 rfl
theorem y6F : yz Try.prog 31 4 4:=yp (i:=Try.t26) Try.underlying31 rfl rfl (by decide) rfl
theorem y6G : y3X Try.prog 26:=y2V Try.underlying26 rfl
theorem y5E : elT Try.prog 32 55 1 24:=⟨Try.underlying32,⟨Try.t55,_,rfl,rfl,rfl,rfl,rfl⟩,by decide⟩
theorem y5F : y3X Try.prog 55:=y2V Try.underlying55 rfl
theorem ye : y3X Try.prog 3:=y2V Try.underlying3 rfl
theorem y4N : elT Try.prog 55 59 3 24:=⟨Try.underlying55,⟨Try.t59,_,rfl,rfl,rfl,rfl,rfl⟩,by decide⟩
theorem y6H : y4m Try.prog 59 3:=y3P (i:=Try.t59) Try.underlying59 rfl rfl
theorem y8n : y2H Try.prog 59 (.agg #[(.int .i64 0),(.int .i64 0),(.int .i64 0)]):=y2L (i:=Try.t59) rfl rfl
theorem y8U : y3E Try.prog 59 3:=y2A (i:=Try.t59) rfl
theorem y3f : yz Try.prog 59 0 0:=yp (i:=Try.t3) Try.underlying59 rfl rfl (by decide) rfl
theorem y6I : y2H Try.prog 3 (.int .i64 0):=y2L (i:=Try.t3) rfl rfl
theorem y5G : KeyT Try.prog 3 (Value.int .i64):=keyT_int Try.underlying3
theorem y4z : yz Try.prog 59 1 1:=yp (i:=Try.t3) Try.underlying59 rfl rfl (by decide) rfl
theorem y5H : yz Try.prog 59 2 2:=yp (i:=Try.t3) Try.underlying59 rfl rfl (by decide) rfl
theorem y7k : elT Try.prog 25 62 4 48:=⟨Try.underlying25,⟨Try.t62,_,rfl,rfl,rfl,rfl,rfl⟩,by decide⟩
theorem aggT_62 : y4m Try.prog 62 4:=y3P (i:=Try.t62) Try.underlying62 rfl rfl
theorem zeroT_62 : y2H Try.prog 62 (.agg #[(.string ⟨#[]⟩),(.string ⟨#[]⟩),(.int .i64 0),(.int .i64 0)]):=y2L (i:=Try.t62) rfl rfl
theorem sizT_62 : y3E Try.prog 62 4:=y2A (i:=Try.t62) rfl
theorem fo_62_0 : yz Try.prog 62 0 0:=yp (i:=Try.t9) Try.underlying62 rfl rfl (by decide) rfl
theorem y7l : y3X Try.prog 9:=y2V Try.underlying9 rfl
theorem elT_22 : elT Try.prog 22 104 4 56:=⟨Try.underlying22,⟨Try.t104,_,rfl,rfl,rfl,rfl,rfl⟩,by decide⟩
theorem fo_104_0 : yz Try.prog 104 0 0:=yp (i:=Try.t9) Try.underlying104 rfl rfl (by decide) rfl
theorem y5I : elT Try.prog 24 64 4 40:=⟨Try.underlying24,⟨Try.t64,_,rfl,rfl,rfl,rfl,rfl⟩,by decide⟩
theorem fo_64_0 : yz Try.prog 64 0 0:=yp (i:=Try.t9) Try.underlying64 rfl rfl (by decide) rfl
theorem fo_62_1 : yz Try.prog 62 1 1:=yp (i:=Try.t9) Try.underlying62 rfl rfl (by decide) rfl
theorem fo_62_2 : yz Try.prog 62 2 2:=yp (i:=Try.t3) Try.underlying62 rfl rfl (by decide) rfl
theorem y6J : yz Try.prog 62 3 3:=yp (i:=Try.t3) Try.underlying62 rfl rfl (by decide) rfl
theorem aggT_64 : y4m Try.prog 64 4:=y3P (i:=Try.t64) Try.underlying64 rfl rfl
theorem zeroT_64 : y2H Try.prog 64 (.agg #[(.string ⟨#[]⟩),(.int .i64 0),(.int .i64 0),(.int .i64 0)]):=y2L (i:=Try.t64) rfl rfl
theorem sizT_64 : y3E Try.prog 64 4:=y2A (i:=Try.t64) rfl
theorem fo_64_1 : yz Try.prog 64 1 1:=yp (i:=Try.t3) Try.underlying64 rfl rfl (by decide) rfl
theorem y6K : yz Try.prog 64 2 2:=yp (i:=Try.t3) Try.underlying64 rfl rfl (by decide) rfl
theorem y7A : yz Try.prog 64 3 3:=yp (i:=Try.t3) Try.underlying64 rfl rfl (by decide) rfl
theorem y4o : elT Try.prog 33 53 3 24:=⟨Try.underlying33,⟨Try.t53,_,rfl,rfl,rfl,rfl,rfl⟩,by decide⟩
theorem y6L : y4m Try.prog 53 3:=y3P (i:=Try.t53) Try.underlying53 rfl rfl
theorem y61 : y2H Try.prog 53 (.agg #[(.int .i64 0),(.int .i64 0),(.int .i64 0)]):=y2L (i:=Try.t53) rfl rfl
theorem y6M : y3E Try.prog 53 3:=y2A (i:=Try.t53) rfl
theorem y3Q : yz Try.prog 53 0 0:=yp (i:=Try.t3) Try.underlying53 rfl rfl (by decide) rfl
theorem y4g : yz Try.prog 53 1 1:=yp (i:=Try.t3) Try.underlying53 rfl rfl (by decide) rfl
theorem y4W : yz Try.prog 53 2 2:=yp (i:=Try.t3) Try.underlying53 rfl rfl (by decide) rfl
theorem y6x : elT Try.prog 56 3 1 8:=⟨Try.underlying56,⟨Try.t3,_,rfl,rfl,rfl,rfl,rfl⟩,by decide⟩
theorem y71 : y2H Try.prog 31 (.agg #[(.slice none 0 0),(.slice none 0 0),(.slice none 0 0),(.slice none 0 0),(.slice none 0 0),(.slice none 0 0),(.slice none 0 0),(.slice none 0 0)]):=y2L (i:=Try.t31) rfl rfl
theorem elT_26 : elT Try.prog 26 109 7 104:=⟨Try.underlying26,⟨Try.t109,_,rfl,rfl,rfl,rfl,rfl⟩,by decide⟩
theorem y7B : y3E Try.prog 31 8:=y2A (i:=Try.t31) rfl
theorem y8V : yz Try.prog 81 2 9:=yp (i:=Try.t33) Try.underlying81 rfl rfl (by decide) rfl
theorem y8W : y3X Try.prog 33:=y2V Try.underlying33 rfl
theorem fo_81_1 : yz Try.prog 81 1 8:=yp (i:=Try.t32) Try.underlying81 rfl rfl (by decide) rfl
theorem oneT_32 : y3X Try.prog 32:=y2V Try.underlying32 rfl
theorem y7C : yz Try.prog 81 4 11:=yp (i:=Try.t79) Try.underlying81 rfl rfl (by decide) rfl
theorem y8o (p : Option Addr) : ∀ w,(method (Try.prog.types.size + Made.depth) 111 (.pointer p) "Push").run Try.prog w = .ok (92,.pointer p) w:=fun _=>by kernel_rfl
theorem y4X : y3X Try.prog 79:=y2V Try.underlying79 rfl
theorem y4b : elT Try.prog 79 113 7 56:=⟨Try.underlying79,⟨Try.t113,_,rfl,rfl,rfl,rfl,rfl⟩,by decide⟩
theorem y8X : y3E Try.prog 79 1:=y2A (i:=Try.t79) rfl
theorem y6U {A : Addr} {v : Value} : ∀ w : World,w.cell? A = some v → (method (Try.prog.types.size + Made.depth) 111 (.pointer (some A)) "Len").run Try.prog w = .ok (86,v) w:=fun w h=>y60 (i:=Try.t111) rfl rfl rfl rfl Try.underlying111 y4X h
theorem y56 {A : Addr} {v : Value} : ∀ w : World,w.cell? A = some v → (method (Try.prog.types.size + Made.depth) 111 (.pointer (some A)) "Less").run Try.prog w = .ok (87,v) w:=fun w h=>y60 (i:=Try.t111) rfl rfl rfl rfl Try.underlying111 y4X h
theorem z9B : y4m Try.prog 113 7:=y3P (i:=Try.t113) Try.underlying113 rfl rfl
theorem y62 : yz Try.prog 113 0 0:=yp (i:=Try.t3) Try.underlying113 rfl rfl (by decide) rfl
theorem y8p : yz Try.prog 113 1 1:=yp (i:=Try.t3) Try.underlying113 rfl rfl (by decide) rfl
theorem y8q : yz Try.prog 113 2 2:=yp (i:=Try.t3) Try.underlying113 rfl rfl (by decide) rfl
theorem y4A : yz Try.prog 113 3 3:=yp (i:=Try.t3) Try.underlying113 rfl rfl (by decide) rfl
theorem y57 {A : Addr} {v : Value} : ∀ w : World,w.cell? A = some v → (method (Try.prog.types.size + Made.depth) 111 (.pointer (some A)) "Swap").run Try.prog w = .ok (88,v) w:=fun w h=>y60 (i:=Try.t111) rfl rfl rfl rfl Try.underlying111 y4X h
theorem zdP : y3E Try.prog 113 7:=y2A (i:=Try.t113) rfl
theorem y8K (p : Option Addr) : ∀ w,(method (Try.prog.types.size + Made.depth) 111 (.pointer p) "Pop").run Try.prog w = .ok (91,.pointer p) w:=fun _=>by kernel_rfl
theorem zju : y2H Try.prog 113 (.agg #[(.int .i64 0),(.int .i64 0),(.int .i64 0),(.int .i64 0),(.int .i64 0),(.int .i64 0),(.int .i64 0)]):=y2L (i:=Try.t113) rfl rfl
theorem y4B : yz Try.prog 113 4 4:=yp (i:=Try.t59) Try.underlying113 rfl rfl (by decide) rfl
theorem znS : y2H Try.prog 136 (.agg #[(.int .i64 0),(.int .i64 0)]):=y2L (i:=Try.t136) rfl rfl
theorem znT : y3E Try.prog 136 2:=y2A (i:=Try.t136) rfl
theorem y7D : yz Try.prog 81 3 10:=yp (i:=Try.t77) Try.underlying81 rfl rfl (by decide) rfl
theorem y7E : y3X Try.prog 77:=y2V Try.underlying77 rfl
theorem zfA : y4m Try.prog 136 2:=y3P (i:=Try.t136) Try.underlying136 rfl rfl
theorem zjv : y2H Try.prog 116 (.pointer none):=y2L (i:=Try.t116) rfl rfl
theorem znU : EqT Try.prog 136 y1N:=⟨fun u v w=>by
  have i136_10000:=fun (w : World) (a b : Array Value)=>run_equalIn_agg (P:=Try.prog) w 9999 136 a b (by simp [Program.fieldsOf,Try.underlying136]) (by kernel_rfl)
  have i3_9999:=fun (w : World) (a b : Int)=>run_equalIn_int (P:=Try.prog) w 9998 3 .i64 .i64 a b Try.underlying3
  rw [i136_10000]
  simp [Program.fieldsOf,Op.eqFields,part,y1N,i136_10000,Try.underlying136,i3_9999]
  rcases u with ⟨u1,u2⟩
  rcases v with ⟨v1,v2⟩
  by_cases h1 : u1 = v1 <;> by_cases h2 : u2 = v2 <;> simp [h1,h2],by kernel_rfl⟩
theorem zfB : KeyT Try.prog 136 (fun x=>Value.agg (y1N x).toArray):=y8j Try.underlying136 (fun _ _=>rfl) (fun b k w=>by
  have c3_9999:=fun (w : World) (a : Int)=>MapKept.run_checkKey (P:=Try.prog) (w:=w) (kt:=3) (k:=.int .i64 a) Try.underlying3 (by simp [MapKept.IsKey]) b 9998
  have ck : ∀ (w : World) (u0 : Int) (u1 : Int),(Instr.checkKey b 10000 136 (.agg #[.int .i64 u0,.int .i64 u1])).run Try.prog w = .ok () w:=fun w u0 u1=>by
    rw [show (10000 : Nat) = 9999 + 1 from rfl,Instr.checkKey]
    simp [run_underlying Try.underlying136,c3_9999,part]
  exact ck w k.fNode k.fLink)
  (fun u v w=>znU.eq u v w)
  (fun k=>by simp [Instr.sameBits,y1N])
theorem y5J : yz Try.prog 81 0 0:=yp (i:=Try.t31) Try.underlying81 rfl rfl (by decide) rfl
theorem y63 : yz Try.prog 143 0 0:=yp (i:=Try.t140) Try.underlying143 rfl rfl (by decide) rfl
theorem y8r : yz Try.prog 140 0 0:=yp (i:=Try.t3) Try.underlying140 rfl rfl (by decide) rfl
theorem y72 : yz Try.prog 143 1 3:=yp (i:=Try.t3) Try.underlying143 rfl rfl (by decide) rfl
theorem y8s : y3E Try.prog 3 1:=y2A (i:=Try.t3) rfl
theorem y58 : yz Try.prog 143 3 5:=yp (i:=Try.t141) Try.underlying143 rfl rfl (by decide) rfl
theorem zfC : y3X Try.prog 141:=y2V Try.underlying141 rfl
theorem y8t : yz Try.prog 146 1 1:=yp (i:=Try.t3) Try.underlying146 rfl rfl (by decide) rfl
theorem z6E : elT Try.prog 141 146 2 16:=⟨Try.underlying141,⟨Try.t146,_,rfl,rfl,rfl,rfl,rfl⟩,by decide⟩
theorem z9C : y4m Try.prog 146 2:=y3P (i:=Try.t146) Try.underlying146 rfl rfl
theorem zfD : y2H Try.prog 146 (.agg #[(.int .i64 0),(.int .i64 0)]):=y2L (i:=Try.t146) rfl rfl
theorem zfE : y3E Try.prog 146 2:=y2A (i:=Try.t146) rfl
theorem zjw : y3E Try.prog 141 1:=y2A (i:=Try.t141) rfl
theorem fo_146_0 : yz Try.prog 146 0 0:=yp (i:=Try.t3) Try.underlying146 rfl rfl (by decide) rfl
theorem fo_140_2 : yz Try.prog 140 2 2:=yp (i:=Try.t3) Try.underlying140 rfl rfl (by decide) rfl
theorem fo_140_1 : yz Try.prog 140 1 1:=yp (i:=Try.t3) Try.underlying140 rfl rfl (by decide) rfl
theorem y64 : yz Try.prog 143 2 4:=yp (i:=Try.t3) Try.underlying143 rfl rfl (by decide) rfl
theorem y7F : yz Try.prog 81 6 13:=yp (i:=Try.t36) Try.underlying81 rfl rfl (by decide) rfl
theorem y6N : y3X Try.prog 36:=y2V Try.underlying36 rfl
theorem y15 : elT Try.prog 36 50 3 24:=⟨Try.underlying36,⟨Try.t50,_,rfl,rfl,rfl,rfl,rfl⟩,by decide⟩
theorem y8Y : y3E Try.prog 36 1:=y2A (i:=Try.t36) rfl
theorem y7G : yz Try.prog 81 5 12:=yp (i:=Try.t36) Try.underlying81 rfl rfl (by decide) rfl
theorem y47 : yz Try.prog 50 2 2:=yp (i:=Try.t3) Try.underlying50 rfl rfl (by decide) rfl
theorem y48 : yz Try.prog 50 0 0:=yp (i:=Try.t3) Try.underlying50 rfl rfl (by decide) rfl
theorem y6O : yz Try.prog 50 1 1:=yp (i:=Try.t3) Try.underlying50 rfl rfl (by decide) rfl
theorem y20 : y4m Try.prog 50 3:=y3P (i:=Try.t50) Try.underlying50 rfl rfl
theorem y3R : y3E Try.prog 50 3:=y2A (i:=Try.t50) rfl
theorem eqT_50 : EqT Try.prog 50 e50:=⟨fun u v w=>by
  have i50_10000:=fun (w : World) (a b : Array Value)=>run_equalIn_agg (P:=Try.prog) w 9999 50 a b (by simp [Program.fieldsOf,Try.underlying50]) (by kernel_rfl)
  have i3_9999:=fun (w : World) (a b : Int)=>run_equalIn_int (P:=Try.prog) w 9998 3 .i64 .i64 a b Try.underlying3
  rw [i50_10000]
  simp [Program.fieldsOf,Op.eqFields,part,e50,i50_10000,Try.underlying50,i3_9999]
  rcases u with ⟨u1,u2,u3⟩
  rcases v with ⟨v1,v2,v3⟩
  by_cases h1 : u1 = v1 <;> by_cases h2 : u2 = v2 <;> by_cases h3 : u3 = v3 <;> simp [h1,h2,h3],by kernel_rfl⟩
theorem y73 : y2H Try.prog 50 (.agg #[(.int .i64 0),(.int .i64 0),(.int .i64 0)]):=y2L (i:=Try.t50) rfl rfl
theorem y8Z : KeyT Try.prog 51 (fun x=>Value.agg (e51 x).toArray):=y8j Try.underlying51 (fun _ _=>rfl) (fun b k w=>by
  have c3_9999:=fun (w : World) (a : Int)=>MapKept.run_checkKey (P:=Try.prog) (w:=w) (kt:=3) (k:=.int .i64 a) Try.underlying3 (by simp [MapKept.IsKey]) b 9998
  have ck : ∀ (w : World) (u0 : Int) (u1 : Int),(Instr.checkKey b 10000 51 (.agg #[.int .i64 u0,.int .i64 u1])).run Try.prog w = .ok () w:=fun w u0 u1=>by
    rw [show (10000 : Nat) = 9999 + 1 from rfl,Instr.checkKey]
    simp [run_underlying Try.underlying51,c3_9999,part,List.range',Std.Legacy.Range.forIn_eq_forIn_range',Std.Legacy.Range.size]
  exact ck w k.a0 k.a1)
  (fun u v w=>by
  have i3:=fun (w : World) (a b : Int)=>run_equalIn_int (P:=Try.prog) w 9998 3 .i64 .i64 a b Try.underlying3
  show (Op.equalIn 10000 51 _ _).run _ _ = _
  rw [show (10000 : Nat) = 9999 + 1 from rfl,Op.equalIn]
  simp [run_underlying Try.underlying51,part,e51,i3,List.range',Std.Legacy.Range.forIn_eq_forIn_range',Std.Legacy.Range.size]
  rcases u with ⟨u1,u2⟩
  rcases v with ⟨v1,v2⟩
  by_cases h1 : u1 = v1 <;> by_cases h2 : u2 = v2 <;> simp [h1,h2])
  (fun k=>by simp [Instr.sameBits,e51])
theorem zeroT_51 : y2H Try.prog 51 (.agg #[(.int .i64 0),(.int .i64 0)]):=y2L (i:=Try.t51) rfl rfl
theorem sizT_51 : y3E Try.prog 51 2:=y2A (i:=Try.t51) rfl
theorem y90 : y4m Try.prog 51 2:=y3P (i:=Try.t51) Try.underlying51 rfl rfl
def y2B (z1Y : List (List Sapi_Hop)) (z6F : Option Bool) : Nat → Int → Option Bool
  | 0,_=>none
  | zfF + 1,z33=>if decide (z33 < ((z1Y.length : Nat) : Int)) then chk ((0 : Int) ≤ z33 ∧ z33 < ((z1Y.length : Nat) : Int)) (if decide ((((nth z1Y z33).length : Nat) : Int) > 40) then some false else y2B z1Y z6F zfF (i64 (z33 + 1))) else z6F
theorem y6j {n : Nat} {z1Y : List (List Sapi_Hop)} {z6F : Option Bool} {z33 : Int} {r : Bool} (h : y2B z1Y z6F n z33 = some r) : ∃ m,n = m + 1:=by
  cases n with
  | zero=>cases h
  | succ m=>exact ⟨m,rfl⟩
def y4c (c_75 : Sapi_Config) (z1Y : List (List Sapi_Hop)) (z45 : List zSt) : Option Bool :=
  if (((((decide (((c_75.fModules.length : Nat) : Int) > 8)) || (decide (((c_75.fSwitches.length : Nat) : Int) > 8))) || (decide (((c_75.fLinks.length : Nat) : Int) > 20))) || (decide (((c_75.fVLs.length : Nat) : Int) > 20))) || (decide (((z1Y.length : Nat) : Int) > 20))) || ((decide (((z45.length : Nat) : Int) > 40)) && (decide (((z45.length : Nat) : Int) ≤ 4000))) then some false else jp0 (some true) fun z6F=>y2B z1Y z6F yA 0
set_option maxRecDepth 20000 in
theorem y8L (Z : Zp) (ao_76 : Option Addr) (cap_77 : Nat) (ao_79 : Option Addr) (cap_80 : Nat) (ao_82 : Option Addr) (cap_83 : Nat) (ao_85 : Option Addr) (cap_86 : Nat) (ao_88 : Option Addr) (cap_89 : Nat) (ao_91 : Option Addr) (cap_92 : Nat) (ao_94 : Option Addr) (cap_95 : Nat) (ao_97 : Option Addr) (cap_98 : Nat) (zbv : Option Addr) (zbw : Nat) (zdQ : Option Addr) (zdR : Nat) (c_75 : Sapi_Config) (z1Y : List (List Sapi_Hop)) (z45 : List zSt) (r : Bool)
     (h : y4c c_75 z1Y z45 = some r) (w₀ : World) (hz : PZ [] w₀ Z)
     (hs_78 : ZS Z 4 (y2x Z) ao_76 cap_77 c_75.fModules)
     (hs_81 : ZS Z 4 (y2O Z) ao_79 cap_80 c_75.fChannels)
     (hs_84 : ZS Z 4 (fun r x=>r = e64 x) ao_82 cap_83 c_75.fSwitches)
     (hs_87 : ZS Z 4 (fun r x=>r = e62 x) ao_85 cap_86 c_75.fLinks)
     (hs_90 : ZS Z 7 (y2F Z) ao_88 cap_89 c_75.fVLs)
     (hs_93 : ZS Z 5 (fun r x=>r = y34 x) ao_91 cap_92 c_75.fHealth)
     (hs_96 : ZS Z 3 (y2P Z) ao_94 cap_95 c_75.fCauses)
     (hs_99 : ZS Z 4 (fun r x=>r = y35 x) ao_97 cap_98 c_75.fVersions)
     (znV : ZS Z 1 (p55 Z) zbv zbw z1Y)
     (zuE : ZS Z 3 (fun r x=>r = e53 x) zdQ zdR z45) :
    Calls Try.prog 10 #[(.agg #[(.slice ao_76 c_75.fModules.length cap_77),(.slice ao_79 c_75.fChannels.length cap_80),(.slice ao_82 c_75.fSwitches.length cap_83),(.slice ao_85 c_75.fLinks.length cap_86),(.slice ao_88 c_75.fVLs.length cap_89),(.slice ao_91 c_75.fHealth.length cap_92),(.slice ao_94 c_75.fCauses.length cap_95),(.slice ao_97 c_75.fVersions.length cap_98)]),(.slice zbv z1Y.length zbw),(.slice zdQ z45.length zdR)] w₀ fun e w'=>e = .returned (.bool r) ∧ Hp [] w₀ w' []:=by
  unfold y4c at h
  refine Calls.yl (vs:=[(.agg #[(.slice ao_76 c_75.fModules.length cap_77),(.slice ao_79 c_75.fChannels.length cap_80),(.slice ao_82 c_75.fSwitches.length cap_83),(.slice ao_85 c_75.fLinks.length cap_86),(.slice ao_88 c_75.fVLs.length cap_89),(.slice ao_91 c_75.fHealth.length cap_92),(.slice ao_94 c_75.fCauses.length cap_95),(.slice ao_97 c_75.fVersions.length cap_98)]),(.slice zbv z1Y.length zbw),(.slice zdQ z45.length zdR)]) (pre:=[]) (env:=[(0,(.agg #[(.slice ao_76 c_75.fModules.length cap_77),(.slice ao_79 c_75.fChannels.length cap_80),(.slice ao_82 c_75.fSwitches.length cap_83),(.slice ao_85 c_75.fLinks.length cap_86),(.slice ao_88 c_75.fVLs.length cap_89),(.slice ao_91 c_75.fHealth.length cap_92),(.slice ao_94 c_75.fCauses.length cap_95),(.slice ao_97 c_75.fVersions.length cap_98)])),(1,(.slice zbv z1Y.length zbw)),(2,(.slice zdQ z45.length zdR))]) Try.func10 rfl Try.ntmps10 rfl (Hp.nil w₀ _) rfl ?_
  refine WC.b (WC.a ?_)
  refine WL.new (dd:=3) rfl rfl rfl (y2c (cs:=[(.slice ao_76 c_75.fModules.length cap_77),(.slice ao_79 c_75.fChannels.length cap_80),(.slice ao_82 c_75.fSwitches.length cap_83),(.slice ao_85 c_75.fLinks.length cap_86),(.slice ao_88 c_75.fVLs.length cap_89),(.slice ao_91 c_75.fHealth.length cap_92),(.slice ao_94 c_75.fCauses.length cap_95),(.slice ao_97 c_75.fVersions.length cap_98)]) rfl rfl) ?_
  intro zuF _
  refine WL.pu rfl (WL.nil (WX.a (WC.b (WC.b (WC.a ?_)))))
  refine WL.a (d:=9) rfl rfl rfl (ya y3o rfl rfl) ?_
  refine WL.a (d:=10) rfl rfl rfl (yb y3p rfl (yc .here rfl)) ?_
  refine WL.a (d:=11) rfl rfl rfl (yZ Try.underlying22 rfl) ?_
  refine WL.pu rfl (WL.pu rfl ?_)
  refine WL.seg false 4 13 (B:=(decide (((c_75.fModules.length : Nat) : Int) > 8)) || (decide (((c_75.fSwitches.length : Nat) : Int) > 8))) rfl rfl rfl rfl rfl rfl (fun h=>(y1X h).symm) (fun _ znW=>?_) ?_
  · skip
    refine WL.a (d:=14) rfl rfl rfl (ya y4x rfl rfl) ?_
    refine WL.a (d:=15) rfl rfl rfl (yb y4y rfl (yc .here rfl)) ?_
    refine WL.a (d:=16) rfl rfl rfl (yZ Try.underlying24 rfl) ?_
    refine WL.pu rfl (WL.pu rfl ?_)
    exact WL.ys (y1Y znW) rfl rfl .all
  refine WL.pu rfl ?_
  refine WL.seg false 4 19 (B:=((decide (((c_75.fModules.length : Nat) : Int) > 8)) || (decide (((c_75.fSwitches.length : Nat) : Int) > 8))) || (decide (((c_75.fLinks.length : Nat) : Int) > 20))) rfl rfl rfl rfl rfl rfl (fun h=>(y1X h).symm) (fun _ znX=>?_) ?_
  · skip
    refine WL.a (d:=20) rfl rfl rfl (ya y5C rfl rfl) ?_
    refine WL.a (d:=21) rfl rfl rfl (yb y5D rfl (yc .here rfl)) ?_
    refine WL.a (d:=22) rfl rfl rfl (yZ Try.underlying25 rfl) ?_
    refine WL.pu rfl (WL.pu rfl ?_)
    exact WL.ys (y1Y znX) rfl rfl .all
  refine WL.pu rfl ?_
  refine WL.seg false 4 25 (B:=(((decide (((c_75.fModules.length : Nat) : Int) > 8)) || (decide (((c_75.fSwitches.length : Nat) : Int) > 8))) || (decide (((c_75.fLinks.length : Nat) : Int) > 20))) || (decide (((c_75.fVLs.length : Nat) : Int) > 20))) rfl rfl rfl rfl rfl rfl (fun h=>(y1X h).symm) (fun _ znY=>?_) ?_
  · skip
    refine WL.a (d:=26) rfl rfl rfl (ya y6F rfl rfl) ?_
    refine WL.a (d:=27) rfl rfl rfl (yb y6G rfl (yc .here rfl)) ?_
    refine WL.a (d:=28) rfl rfl rfl (yZ Try.underlying26 rfl) ?_
    refine WL.pu rfl (WL.pu rfl ?_)
    exact WL.ys (y1Y znY) rfl rfl .all
  refine WL.pu rfl ?_
  refine WL.seg false 3 31 (B:=((((decide (((c_75.fModules.length : Nat) : Int) > 8)) || (decide (((c_75.fSwitches.length : Nat) : Int) > 8))) || (decide (((c_75.fLinks.length : Nat) : Int) > 20))) || (decide (((c_75.fVLs.length : Nat) : Int) > 20))) || (decide (((z1Y.length : Nat) : Int) > 20))) rfl rfl rfl rfl rfl rfl (fun h=>(y1X h).symm) (fun _ znZ=>?_) ?_
  · skip
    refine WL.pu rfl ?_
    refine WL.a (d:=33) rfl rfl rfl (yZ Try.underlying32 rfl) ?_
    refine WL.pu rfl (WL.pu rfl ?_)
    exact WL.ys (y1Y znZ) rfl rfl .all
  refine WL.pu rfl ?_
  refine WL.seg false 8 36 (B:=(((((decide (((c_75.fModules.length : Nat) : Int) > 8)) || (decide (((c_75.fSwitches.length : Nat) : Int) > 8))) || (decide (((c_75.fLinks.length : Nat) : Int) > 20))) || (decide (((c_75.fVLs.length : Nat) : Int) > 20))) || (decide (((z1Y.length : Nat) : Int) > 20))) || ((decide (((z45.length : Nat) : Int) > 40)) && (decide (((z45.length : Nat) : Int) ≤ 4000)))) rfl rfl rfl rfl rfl rfl (fun h=>(y1X h).symm) (fun _ zo0=>?_) ?_
  · skip
    refine WL.pu rfl ?_
    refine WL.a (d:=38) rfl rfl rfl (yZ Try.underlying33 rfl) ?_
    refine WL.pu rfl (WL.pu rfl ?_)
    refine WL.seg true 3 40 (B:=(decide (((z45.length : Nat) : Int) > 40)) && (decide (((z45.length : Nat) : Int) ≤ 4000))) rfl rfl rfl rfl rfl rfl (fun h=>(y2n h).symm) (fun _ zo1=>?_) ?_
    · skip
      refine WL.pu rfl ?_
      refine WL.a (d:=42) rfl rfl rfl (yZ Try.underlying33 rfl) ?_
      refine WL.pu rfl (WL.pu rfl ?_)
      exact WL.ys (y2o zo1) rfl rfl .all
    refine WL.pu rfl ?_
    exact WL.ys (y1Y zo0) rfl rfl .all
  refine WL.nil (WX.a ?_)
  refine WC.cond rfl (fun zfG=>?_) (fun zfG=>?_)
  · replace h:=ym h zfG
    refine WC.b (WC.a (WL.pu rfl (WL.nil (WX.a (WC.ret (WX.yg ?_))))))
    obtain rfl:=Option.some.inj h
    refine WX.yi Try.results10 (.tmp rfl .nil) (fun w hw=>?_)
    exact ⟨y10 rfl,hw.sub .nil⟩
  · replace h:=yn h zfG
    refine WC.skip (WX.a ?_)
    obtain ⟨z6F,zo2,h⟩:=y2r h
    refine WC.y2d ((z6F = some r)) ([]) ([]) ?_ ?_
    · skip
      refine WC.b (WC.a (WL.pu rfl ?_))
      refine WL.a (d:=47) rfl rfl rfl (yZ Try.underlying32 rfl) ?_
      refine WL.pu rfl (WL.nil (WX.a (WC.block ?_)))
      refine WC.y3Z (fun (z9D : Nat) (z33 : Int)=>(y2B z1Y z6F z9D z33 = some r)) (fun (z9D : Nat) (z33 : Int)=>[(46,(.slice zbv z1Y.length zbw)),(47,(.int .i64 ((z1Y.length : Nat) : Int))),(48,(.int .i64 z33))]) (fun (z9D : Nat) (z33 : Int)=>[]) (fun (z9D : Nat) (z33 : Int)=>z9D) ⟨yA,0⟩ h (.cons rfl (.cons rfl (.cons rfl .nil))) .nil ?_
      rintro z9D z33 h
      obtain ⟨zfF,rfl⟩:=y6j h
      rw [y2B] at h
      refine WC.b (WC.a (WL.pu rfl (WL.nil (WX.a (WC.b ?_)))))
      refine WC.cond rfl (fun zfH=>?_) (fun zfH=>?_)
      · replace h:=ym h zfH
        refine WC.skip (WX.a (WC.b (WC.block (WC.b ?_))))
        obtain ⟨zo3,h⟩:=yj h
        refine WC.a ?_
        refine WL.znth (dd:=50) rfl rfl (Z:=Z) (Pr:=(p55 Z)) y5E rfl rfl znV zo3 ?_
        rintro zuG zuH zo4 zuI ⟨zuJ,zuK,rfl,zuL⟩
        refine WL.a (d:=51) rfl rfl rfl (yb y5F rfl (rd_z hz.pv zo4 rfl)) ?_
        refine WL.pu rfl (WL.nil (WX.a (WC.b (WC.a (WL.pu rfl ?_)))))
        refine WL.a (d:=53) rfl rfl rfl (yZ Try.underlying55 rfl) ?_
        refine WL.pu rfl (WL.nil (WX.a ?_))
        refine WC.cond rfl (fun zfI=>?_) (fun zfI=>?_)
        · replace h:=ym h zfI
          refine WC.b (WC.a (WL.pu rfl (WL.nil (WX.a (WC.ret (WX.yC (WX.yg (WX.yg (WX.yC (WX.yg ?_))))))))))
          obtain rfl:=Option.some.inj h
          refine WX.yi Try.results10 (.tmp rfl .nil) (fun w hw=>?_)
          exact ⟨y10 rfl,hw.sub .nil⟩
        · replace h:=yn h zfI
          refine WC.skip (WX.yh (WX.a (WC.a (WL.pu rfl (WL.pu rfl (WL.nil ?_))))))
          exact WX.round (G:=Nat × Int) ⟨zfF,(i64 (z33 + 1))⟩ h (Nat.lt_succ_self _) (.cons rfl (.cons rfl (.cons rfl .nil))) .nil
      · replace h:=yn h zfH
        refine WC.exit (WX.yf (WX.yf (WX.yB ?_)))
        exact WX.mid (G:=Unit) () h .nil .nil
    · rintro  h
      replace h:=zo2.symm.trans h
      refine WC.b (WC.a (WL.pu rfl (WL.nil (WX.a (WC.ret ?_)))))
      obtain rfl:=Option.some.inj h
      refine WX.yi Try.results10 (.tmp rfl .nil) (fun w hw=>?_)
      exact ⟨y10 rfl,hw.sub .nil⟩
def y2s (zV : Sapi_Config) : Option Int :=
  some (i64 (((zV.fModules.length : Nat) : Int) + ((zV.fSwitches.length : Nat) : Int)))
set_option maxRecDepth 20000 in
theorem y4p (Z : Zp) (zbx : Option Addr) (zby : Nat) (zbz : Option Addr) (zbA : Nat) (zbB : Option Addr) (zbC : Nat) (zbD : Option Addr) (zbE : Nat) (zbF : Option Addr) (zbG : Nat) (zbH : Option Addr) (zbI : Nat) (zbJ : Option Addr) (zbK : Nat) (zbL : Option Addr) (zbM : Nat) (zV : Sapi_Config) (r : Int)
     (h : y2s zV = some r) (w₀ : World) (hz : PZ [] w₀ Z)
     (zuM : ZS Z 4 (y2x Z) zbx zby zV.fModules)
     (zuN : ZS Z 4 (y2O Z) zbz zbA zV.fChannels)
     (zuO : ZS Z 4 (fun r x=>r = e64 x) zbB zbC zV.fSwitches)
     (zuP : ZS Z 4 (fun r x=>r = e62 x) zbD zbE zV.fLinks)
     (zuQ : ZS Z 7 (y2F Z) zbF zbG zV.fVLs)
     (zuR : ZS Z 5 (fun r x=>r = y34 x) zbH zbI zV.fHealth)
     (zuS : ZS Z 3 (y2P Z) zbJ zbK zV.fCauses)
     (zuT : ZS Z 4 (fun r x=>r = y35 x) zbL zbM zV.fVersions) :
    Calls Try.prog 17 #[(.agg #[(.slice zbx zV.fModules.length zby),(.slice zbz zV.fChannels.length zbA),(.slice zbB zV.fSwitches.length zbC),(.slice zbD zV.fLinks.length zbE),(.slice zbF zV.fVLs.length zbG),(.slice zbH zV.fHealth.length zbI),(.slice zbJ zV.fCauses.length zbK),(.slice zbL zV.fVersions.length zbM)])] w₀ fun e w'=>e = .returned (.int .i64 r) ∧ Hp [] w₀ w' []:=by
  unfold y2s at h
  refine Calls.yl (vs:=[(.agg #[(.slice zbx zV.fModules.length zby),(.slice zbz zV.fChannels.length zbA),(.slice zbB zV.fSwitches.length zbC),(.slice zbD zV.fLinks.length zbE),(.slice zbF zV.fVLs.length zbG),(.slice zbH zV.fHealth.length zbI),(.slice zbJ zV.fCauses.length zbK),(.slice zbL zV.fVersions.length zbM)])]) (pre:=[]) (env:=[(0,(.agg #[(.slice zbx zV.fModules.length zby),(.slice zbz zV.fChannels.length zbA),(.slice zbB zV.fSwitches.length zbC),(.slice zbD zV.fLinks.length zbE),(.slice zbF zV.fVLs.length zbG),(.slice zbH zV.fHealth.length zbI),(.slice zbJ zV.fCauses.length zbK),(.slice zbL zV.fVersions.length zbM)]))]) Try.func17 rfl Try.ntmps17 rfl (Hp.nil w₀ _) rfl ?_
  refine WC.b (WC.a ?_)
  refine WL.new (dd:=1) rfl rfl rfl (y2c (cs:=[(.slice zbx zV.fModules.length zby),(.slice zbz zV.fChannels.length zbA),(.slice zbB zV.fSwitches.length zbC),(.slice zbD zV.fLinks.length zbE),(.slice zbF zV.fVLs.length zbG),(.slice zbH zV.fHealth.length zbI),(.slice zbJ zV.fCauses.length zbK),(.slice zbL zV.fVersions.length zbM)]) rfl rfl) ?_
  intro zuU _
  refine WL.pu rfl (WL.nil (WX.a (WC.b (WC.a ?_))))
  refine WL.a (d:=3) rfl rfl rfl (ya y3o rfl rfl) ?_
  refine WL.a (d:=4) rfl rfl rfl (yb y3p rfl (yc .here rfl)) ?_
  refine WL.a (d:=5) rfl rfl rfl (yZ Try.underlying22 rfl) ?_
  refine WL.a (d:=6) rfl rfl rfl (ya y4x rfl rfl) ?_
  refine WL.a (d:=7) rfl rfl rfl (yb y4y rfl (yc .here rfl)) ?_
  refine WL.a (d:=8) rfl rfl rfl (yZ Try.underlying24 rfl) ?_
  refine WL.pu rfl (WL.pu rfl (WL.nil (WX.a (WC.ret ?_))))
  obtain rfl:=Option.some.inj h
  refine WX.yi Try.results17 (.tmp rfl .nil) (fun w hw=>?_)
  exact ⟨y10 rfl,hw.sub .nil⟩
def y2W (zP : Sapi_Config) (z3k : Int) : Option ByteArray :=
  (if decide (z3k < 0) then some true else (y2s zP).bind fun zjx=>some (decide (z3k ≥ zjx))).bind fun zfJ=>if zfJ then some ⟨#[]⟩ else if decide (z3k < ((zP.fModules.length : Nat) : Int)) then chk ((0 : Int) ≤ z3k ∧ z3k < ((zP.fModules.length : Nat) : Int)) (some ((nth zP.fModules z3k).fName)) else chk ((0 : Int) ≤ (i64 (z3k - ((zP.fModules.length : Nat) : Int))) ∧ (i64 (z3k - ((zP.fModules.length : Nat) : Int))) < ((zP.fSwitches.length : Nat) : Int)) (some ((nth zP.fSwitches (i64 (z3k - ((zP.fModules.length : Nat) : Int)))).fName))
set_option maxRecDepth 20000 in
theorem y5K (Z : Zp) (zbN : Option Addr) (zbO : Nat) (zbP : Option Addr) (zbQ : Nat) (zbR : Option Addr) (zbS : Nat) (zbT : Option Addr) (zbU : Nat) (zbV : Option Addr) (zbW : Nat) (zbX : Option Addr) (zbY : Nat) (zbZ : Option Addr) (zc0 : Nat) (zc1 : Option Addr) (zc2 : Nat) (zP : Sapi_Config) (z3k : Int) (r : ByteArray)
     (h : y2W zP z3k = some r) (w₀ : World) (hz : PZ [] w₀ Z)
     (zjy : ZS Z 4 (y2x Z) zbN zbO zP.fModules)
     (zo5 : ZS Z 4 (y2O Z) zbP zbQ zP.fChannels)
     (zjz : ZS Z 4 (fun r x=>r = e64 x) zbR zbS zP.fSwitches)
     (zo6 : ZS Z 4 (fun r x=>r = e62 x) zbT zbU zP.fLinks)
     (zo7 : ZS Z 7 (y2F Z) zbV zbW zP.fVLs)
     (zo8 : ZS Z 5 (fun r x=>r = y34 x) zbX zbY zP.fHealth)
     (zo9 : ZS Z 3 (y2P Z) zbZ zc0 zP.fCauses)
     (zoa : ZS Z 4 (fun r x=>r = y35 x) zc1 zc2 zP.fVersions) :
    Calls Try.prog 18 #[(.agg #[(.slice zbN zP.fModules.length zbO),(.slice zbP zP.fChannels.length zbQ),(.slice zbR zP.fSwitches.length zbS),(.slice zbT zP.fLinks.length zbU),(.slice zbV zP.fVLs.length zbW),(.slice zbX zP.fHealth.length zbY),(.slice zbZ zP.fCauses.length zc0),(.slice zc1 zP.fVersions.length zc2)]),(.int .i64 z3k)] w₀ fun e w'=>e = .returned (.string r) ∧ Hp [] w₀ w' []:=by
  unfold y2W at h
  refine Calls.yl (vs:=[(.agg #[(.slice zbN zP.fModules.length zbO),(.slice zbP zP.fChannels.length zbQ),(.slice zbR zP.fSwitches.length zbS),(.slice zbT zP.fLinks.length zbU),(.slice zbV zP.fVLs.length zbW),(.slice zbX zP.fHealth.length zbY),(.slice zbZ zP.fCauses.length zc0),(.slice zc1 zP.fVersions.length zc2)]),(.int .i64 z3k)]) (pre:=[]) (env:=[(0,(.agg #[(.slice zbN zP.fModules.length zbO),(.slice zbP zP.fChannels.length zbQ),(.slice zbR zP.fSwitches.length zbS),(.slice zbT zP.fLinks.length zbU),(.slice zbV zP.fVLs.length zbW),(.slice zbX zP.fHealth.length zbY),(.slice zbZ zP.fCauses.length zc0),(.slice zc1 zP.fVersions.length zc2)])),(1,(.int .i64 z3k))]) Try.func18 rfl Try.ntmps18 rfl (Hp.nil w₀ _) rfl ?_
  refine WC.b (WC.a ?_)
  refine WL.new (dd:=2) rfl rfl rfl (y2c (cs:=[(.slice zbN zP.fModules.length zbO),(.slice zbP zP.fChannels.length zbQ),(.slice zbR zP.fSwitches.length zbS),(.slice zbT zP.fLinks.length zbU),(.slice zbV zP.fVLs.length zbW),(.slice zbX zP.fHealth.length zbY),(.slice zbZ zP.fCauses.length zc0),(.slice zc1 zP.fVersions.length zc2)]) rfl rfl) ?_
  intro zuV _
  refine WL.pu rfl (WL.nil (WX.a (WC.b (WC.a ?_))))
  refine WL.a (d:=6) rfl rfl rfl (ya y3o rfl rfl) ?_
  refine WL.a (d:=7) rfl rfl rfl (yb y3p rfl (yc .here rfl)) ?_
  refine WL.a (d:=8) rfl rfl rfl (yZ Try.underlying22 rfl) ?_
  refine WL.pu rfl (WL.nil (WX.a (WC.block (WC.b ?_))))
  obtain ⟨zfJ,zjA,h⟩:=zp h
  refine WC.a (WL.pu rfl (WL.pu rfl (WL.pu rfl ?_)))
  refine WL.seg false 4 20 (B:=zfJ) rfl rfl rfl rfl rfl rfl (fun h=>(Option.some.inj (ym zjA h)).symm) (fun _ zob=>?_) ?_
  · skip
    have zc3:=yn zjA zob
    obtain ⟨zjx,zoc,zc3⟩:=zp zc3
    replace zc3:=Option.some.inj zc3
    refine WL.pu rfl ?_
    refine WL.a (d:=22) rfl rfl rfl (yH y1J rfl (y1j .here) rfl) ?_
    refine WL.b (dd:=23) rfl rfl rfl (zF (l:=[.tmp 22]) Try.call17 (.cons rfl .nil)) .nil (cc hz .nil fun w pz ho=>y4p _ _ _ _ _ _ _ _ _ _ _ _ _ _ _ _ _ _ _ zoc w pz zjy zo5 zjz zo6 zo7 zo8 zo9 zoa) ?_
    refine WL.pu rfl (WL.pu rfl ?_)
    exact WL.ys zc3 rfl rfl .all
  refine WL.pu rfl (WL.nil (WX.a ?_))
  refine WC.cond rfl (fun zfK=>?_) (fun zfK=>?_)
  · replace h:=ym h zfK
    refine WC.b (WC.a (WL.pu rfl (WL.nil (WX.a (WC.ret (WX.yC ?_))))))
    obtain rfl:=Option.some.inj h
    refine WX.yi Try.results18 (.tmp rfl .nil) (fun w hw=>?_)
    exact ⟨y10 rfl,hw.sub .nil⟩
  · replace h:=yn h zfK
    refine WC.b (WC.a (WL.pu rfl (WL.pu rfl (WL.pu rfl (WL.pu rfl (WL.nil (WX.a ?_)))))))
    refine WC.cond rfl (fun zfL=>?_) (fun zfL=>?_)
    · replace h:=ym h zfL
      refine WC.b ?_
      obtain ⟨zod,h⟩:=yj h
      refine WC.a ?_
      refine WL.a (d:=30) rfl rfl rfl (ya y3o rfl rfl) ?_
      refine WL.a (d:=31) rfl rfl rfl (yb y3p rfl (yc .here rfl)) ?_
      refine WL.pu rfl ?_
      refine WL.znth (dd:=33) rfl rfl (Z:=Z) (Pr:=(y2x Z)) elT_22 rfl rfl zjy zod ?_
      rintro zuW zuX zoe zuY ⟨zuZ,zv0,rfl,zv1⟩
      refine WL.a (d:=34) rfl rfl rfl (ya fo_104_0 rfl rfl) ?_
      refine WL.a (d:=35) rfl rfl rfl (yb y7l rfl (y1G hz.pv zoe rfl)) ?_
      refine WL.pu rfl (WL.nil (WX.a (WC.ret (WX.yC ?_))))
      obtain rfl:=Option.some.inj h
      refine WX.yi Try.results18 (.tmp rfl .nil) (fun w hw=>?_)
      exact ⟨y10 rfl,hw.sub .nil⟩
    · replace h:=yn h zfL
      refine WC.b ?_
      obtain ⟨zof,h⟩:=yj h
      refine WC.a ?_
      refine WL.a (d:=9) rfl rfl rfl (ya y4x rfl rfl) ?_
      refine WL.a (d:=10) rfl rfl rfl (yb y4y rfl (yc .here rfl)) ?_
      refine WL.pu rfl (WL.pu rfl (WL.pu rfl ?_))
      refine WL.znth (dd:=14) rfl rfl (Z:=Z) (Pr:=(fun r x=>r = e64 x)) y5I rfl rfl zjz zof ?_
      rintro zv2 zv3 zog zv4 rfl
      refine WL.a (d:=15) rfl rfl rfl (ya fo_64_0 rfl rfl) ?_
      refine WL.a (d:=16) rfl rfl rfl (yb y7l rfl (y1G hz.pv zog rfl)) ?_
      refine WL.pu rfl (WL.nil (WX.a (WC.ret (WX.yC ?_))))
      obtain rfl:=Option.some.inj h
      refine WX.yi Try.results18 (.tmp rfl .nil) (fun w hw=>?_)
      exact ⟨y10 rfl,hw.sub .nil⟩
def y1U (z6G : Int) (zM : Sapi_Config) (z3y : ByteArray) (z6H : Option Int) : Nat → Int → Option Int
  | 0,_=>none
  | zfM + 1,z3l=>if decide (z3l < z6G) then (y2W zM z3l).bind fun zjB=>if decide (zjB = z3y) then some z3l else y1U z6G zM z3y z6H zfM (i64 (z3l + 1)) else z6H
theorem y5q {n : Nat} {z6G : Int} {zM : Sapi_Config} {z3y : ByteArray} {z6H : Option Int} {z3l : Int} {r : Int} (h : y1U z6G zM z3y z6H n z3l = some r) : ∃ m,n = m + 1:=by
  cases n with
  | zero=>cases h
  | succ m=>exact ⟨m,rfl⟩
def y1R (zM : Sapi_Config) (z3y : ByteArray) : Option Int :=
  jp0 (some (-1)) fun z6H=>(y2s zM).bind fun z6G=>y1U z6G zM z3y z6H yA 0
set_option maxRecDepth 20000 in
theorem y5L (Z : Zp) (z9E : Option Addr) (z9F : Nat) (z9G : Option Addr) (z9H : Nat) (z9I : Option Addr) (z9J : Nat) (z9K : Option Addr) (z9L : Nat) (z9M : Option Addr) (z9N : Nat) (z9O : Option Addr) (z9P : Nat) (z9Q : Option Addr) (z9R : Nat) (z9S : Option Addr) (z9T : Nat) (zM : Sapi_Config) (z3y : ByteArray) (r : Int)
     (h : y1R zM z3y = some r) (w₀ : World) (hz : PZ [] w₀ Z)
     (zjC : ZS Z 4 (y2x Z) z9E z9F zM.fModules)
     (zjD : ZS Z 4 (y2O Z) z9G z9H zM.fChannels)
     (zjE : ZS Z 4 (fun r x=>r = e64 x) z9I z9J zM.fSwitches)
     (zjF : ZS Z 4 (fun r x=>r = e62 x) z9K z9L zM.fLinks)
     (zjG : ZS Z 7 (y2F Z) z9M z9N zM.fVLs)
     (zjH : ZS Z 5 (fun r x=>r = y34 x) z9O z9P zM.fHealth)
     (zjI : ZS Z 3 (y2P Z) z9Q z9R zM.fCauses)
     (zjJ : ZS Z 4 (fun r x=>r = y35 x) z9S z9T zM.fVersions) :
    Calls Try.prog 59 #[(.agg #[(.slice z9E zM.fModules.length z9F),(.slice z9G zM.fChannels.length z9H),(.slice z9I zM.fSwitches.length z9J),(.slice z9K zM.fLinks.length z9L),(.slice z9M zM.fVLs.length z9N),(.slice z9O zM.fHealth.length z9P),(.slice z9Q zM.fCauses.length z9R),(.slice z9S zM.fVersions.length z9T)]),(.string z3y)] w₀ fun e w'=>e = .returned (.int .i64 r) ∧ Hp [] w₀ w' []:=by
  unfold y1R at h
  refine Calls.yl (vs:=[(.agg #[(.slice z9E zM.fModules.length z9F),(.slice z9G zM.fChannels.length z9H),(.slice z9I zM.fSwitches.length z9J),(.slice z9K zM.fLinks.length z9L),(.slice z9M zM.fVLs.length z9N),(.slice z9O zM.fHealth.length z9P),(.slice z9Q zM.fCauses.length z9R),(.slice z9S zM.fVersions.length z9T)]),(.string z3y)]) (pre:=[]) (env:=[(0,(.agg #[(.slice z9E zM.fModules.length z9F),(.slice z9G zM.fChannels.length z9H),(.slice z9I zM.fSwitches.length z9J),(.slice z9K zM.fLinks.length z9L),(.slice z9M zM.fVLs.length z9N),(.slice z9O zM.fHealth.length z9P),(.slice z9Q zM.fCauses.length z9R),(.slice z9S zM.fVersions.length z9T)])),(1,(.string z3y))]) Try.func59 rfl Try.ntmps59 rfl (Hp.nil w₀ _) rfl ?_
  refine WC.b (WC.a ?_)
  refine WL.new (dd:=2) rfl rfl rfl (y2c (cs:=[(.slice z9E zM.fModules.length z9F),(.slice z9G zM.fChannels.length z9H),(.slice z9I zM.fSwitches.length z9J),(.slice z9K zM.fLinks.length z9L),(.slice z9M zM.fVLs.length z9N),(.slice z9O zM.fHealth.length z9P),(.slice z9Q zM.fCauses.length z9R),(.slice z9S zM.fVersions.length z9T)]) rfl rfl) ?_
  intro zjK _
  refine WL.pu rfl (WL.nil (WX.a ?_))
  obtain ⟨z6H,zoh,h⟩:=y2r h
  refine WC.y2d ((z6H = some r)) ([]) ([]) ?_ ?_
  · skip
    refine WC.b ?_
    obtain ⟨z6G,zoi,h⟩:=zp h
    refine WC.a ?_
    refine WL.a (d:=6) rfl rfl rfl (yH y1J rfl (y1j .here) rfl) ?_
    refine WL.b (dd:=7) rfl rfl rfl (zF (l:=[.tmp 6]) Try.call17 (.cons rfl .nil)) .nil (cc hz .nil fun w pz ho=>y4p _ _ _ _ _ _ _ _ _ _ _ _ _ _ _ _ _ _ _ zoi w pz zjC zjD zjE zjF zjG zjH zjI zjJ) ?_
    refine WL.pu rfl (WL.nil (WX.a (WC.block ?_)))
    refine WC.y3Z (fun (z9U : Nat) (z3l : Int)=>(y1U z6G zM z3y z6H z9U z3l = some r)) (fun (z9U : Nat) (z3l : Int)=>[(1,(.string z3y)),(2,(.pointer (some ⟨zjK,0,none⟩))),(7,(.int .i64 z6G)),(8,(.int .i64 z3l))]) (fun (z9U : Nat) (z3l : Int)=>[stb zjK 31 [(.slice z9E zM.fModules.length z9F),(.slice z9G zM.fChannels.length z9H),(.slice z9I zM.fSwitches.length z9J),(.slice z9K zM.fLinks.length z9L),(.slice z9M zM.fVLs.length z9N),(.slice z9O zM.fHealth.length z9P),(.slice z9Q zM.fCauses.length z9R),(.slice z9S zM.fVersions.length z9T)]]) (fun (z9U : Nat) (z3l : Int)=>z9U) ⟨yA,0⟩ h (.cons rfl (.cons rfl (.cons rfl (.cons rfl .nil)))) (.cons .here .nil) ?_
    rintro z9U z3l h
    obtain ⟨zfM,rfl⟩:=y5q h
    rw [y1U] at h
    refine WC.b (WC.a (WL.pu rfl (WL.nil (WX.a (WC.b ?_)))))
    refine WC.cond rfl (fun zfN=>?_) (fun zfN=>?_)
    · replace h:=ym h zfN
      refine WC.skip (WX.a (WC.b (WC.block (WC.b (WC.a (WL.pu rfl (WL.pu rfl (WL.nil (WX.a (WC.b ?_))))))))))
      obtain ⟨zjB,zoj,h⟩:=zp h
      refine WC.a ?_
      refine WL.a (d:=11) rfl rfl rfl (yH y1J rfl (y1j .here) rfl) ?_
      refine WL.pu rfl ?_
      refine WL.b (dd:=13) rfl rfl rfl (zF (l:=[.tmp 11,.tmp 12]) Try.call18 (.cons rfl (.cons rfl .nil))) .nil (cc hz .nil fun w pz ho=>y5K _ _ _ _ _ _ _ _ _ _ _ _ _ _ _ _ _ _ _ _ zoj w pz zjC zjD zjE zjF zjG zjH zjI zjJ) ?_
      refine WL.pu rfl ?_
      refine WL.a (d:=15) rfl rfl rfl (q_seql rfl rfl) ?_
      refine WL.nil (WX.a ?_)
      refine WC.cond rfl (fun zfO=>?_) (fun zfO=>?_)
      · replace h:=ym h zfO
        refine WC.b (WC.a (WL.pu rfl (WL.pu rfl (WL.nil (WX.a (WC.ret (WX.yC (WX.yg (WX.yg (WX.yC (WX.yg ?_)))))))))))
        obtain rfl:=Option.some.inj h
        refine WX.yi Try.results59 (.tmp rfl .nil) (fun w hw=>?_)
        exact ⟨y10 rfl,hw.sub .nil⟩
      · replace h:=yn h zfO
        refine WC.skip (WX.yh (WX.a (WC.a (WL.pu rfl (WL.pu rfl (WL.nil ?_))))))
        exact WX.round (G:=Nat × Int) ⟨zfM,(i64 (z3l + 1))⟩ h (Nat.lt_succ_self _) (.cons rfl (.cons rfl (.cons rfl (.cons rfl .nil)))) (.cons .here .nil)
    · replace h:=yn h zfN
      refine WC.exit (WX.yf (WX.yf (WX.yB ?_)))
      exact WX.mid (G:=Unit) () h .nil .nil
  · rintro  h
    replace h:=zoh.symm.trans h
    refine WC.b (WC.a (WL.pu rfl (WL.nil (WX.a (WC.ret ?_)))))
    obtain rfl:=Option.some.inj h
    refine WX.yi Try.results59 (.tmp rfl .nil) (fun w hw=>?_)
    exact ⟨y10 rfl,hw.sub .nil⟩
def y2X (zz : Sapi_Config) (z5u : Int) (z1n : Int) : Option Bool :=
  if decide (z1n < ((zz.fModules.length : Nat) : Int)) then some (decide (z1n ≥ 0)) else chk ((0 : Int) ≤ (i64 (z1n - ((zz.fModules.length : Nat) : Int))) ∧ (i64 (z1n - ((zz.fModules.length : Nat) : Int))) < ((zz.fSwitches.length : Nat) : Int)) (some (((((decide (((nth zz.fSwitches (i64 (z1n - ((zz.fModules.length : Nat) : Int)))).fNet) = z5u)) && (decide (((nth zz.fSwitches (i64 (z1n - ((zz.fModules.length : Nat) : Int)))).fDelay) ≥ 0))) && (decide (((nth zz.fSwitches (i64 (z1n - ((zz.fModules.length : Nat) : Int)))).fDelay) ≤ 1000))) && (decide (((nth zz.fSwitches (i64 (z1n - ((zz.fModules.length : Nat) : Int)))).fStore) ≥ 0))) && (decide (((nth zz.fSwitches (i64 (z1n - ((zz.fModules.length : Nat) : Int)))).fStore) ≤ 1073741824))))
set_option maxRecDepth 20000 in
theorem y5M (Z : Zp) (zc4 : Option Addr) (zc5 : Nat) (zc6 : Option Addr) (zc7 : Nat) (zc8 : Option Addr) (zc9 : Nat) (zca : Option Addr) (zcb : Nat) (zcc : Option Addr) (zcd : Nat) (zce : Option Addr) (zcf : Nat) (zcg : Option Addr) (zch : Nat) (zci : Option Addr) (zcj : Nat) (zz : Sapi_Config) (z5u : Int) (z1n : Int) (r : Bool)
     (h : y2X zz z5u z1n = some r) (w₀ : World) (hz : PZ [] w₀ Z)
     (zv5 : ZS Z 4 (y2x Z) zc4 zc5 zz.fModules)
     (zv6 : ZS Z 4 (y2O Z) zc6 zc7 zz.fChannels)
     (zol : ZS Z 4 (fun r x=>r = e64 x) zc8 zc9 zz.fSwitches)
     (zv7 : ZS Z 4 (fun r x=>r = e62 x) zca zcb zz.fLinks)
     (zv8 : ZS Z 7 (y2F Z) zcc zcd zz.fVLs)
     (zv9 : ZS Z 5 (fun r x=>r = y34 x) zce zcf zz.fHealth)
     (zva : ZS Z 3 (y2P Z) zcg zch zz.fCauses)
     (zvb : ZS Z 4 (fun r x=>r = y35 x) zci zcj zz.fVersions) :
    Calls Try.prog 60 #[(.agg #[(.slice zc4 zz.fModules.length zc5),(.slice zc6 zz.fChannels.length zc7),(.slice zc8 zz.fSwitches.length zc9),(.slice zca zz.fLinks.length zcb),(.slice zcc zz.fVLs.length zcd),(.slice zce zz.fHealth.length zcf),(.slice zcg zz.fCauses.length zch),(.slice zci zz.fVersions.length zcj)]),(.int .i64 z5u),(.int .i64 z1n)] w₀ fun e w'=>e = .returned (.bool r) ∧ Hp [] w₀ w' []:=by
  unfold y2X at h
  refine Calls.yl (vs:=[(.agg #[(.slice zc4 zz.fModules.length zc5),(.slice zc6 zz.fChannels.length zc7),(.slice zc8 zz.fSwitches.length zc9),(.slice zca zz.fLinks.length zcb),(.slice zcc zz.fVLs.length zcd),(.slice zce zz.fHealth.length zcf),(.slice zcg zz.fCauses.length zch),(.slice zci zz.fVersions.length zcj)]),(.int .i64 z5u),(.int .i64 z1n)]) (pre:=[]) (env:=[(0,(.agg #[(.slice zc4 zz.fModules.length zc5),(.slice zc6 zz.fChannels.length zc7),(.slice zc8 zz.fSwitches.length zc9),(.slice zca zz.fLinks.length zcb),(.slice zcc zz.fVLs.length zcd),(.slice zce zz.fHealth.length zcf),(.slice zcg zz.fCauses.length zch),(.slice zci zz.fVersions.length zcj)])),(1,(.int .i64 z5u)),(2,(.int .i64 z1n))]) Try.func60 rfl Try.ntmps60 rfl (Hp.nil w₀ _) rfl ?_
  refine WC.b (WC.a ?_)
  refine WL.new (dd:=3) rfl rfl rfl (y2c (cs:=[(.slice zc4 zz.fModules.length zc5),(.slice zc6 zz.fChannels.length zc7),(.slice zc8 zz.fSwitches.length zc9),(.slice zca zz.fLinks.length zcb),(.slice zcc zz.fVLs.length zcd),(.slice zce zz.fHealth.length zcf),(.slice zcg zz.fCauses.length zch),(.slice zci zz.fVersions.length zcj)]) rfl rfl) ?_
  intro zvc _
  refine WL.pu rfl (WL.nil (WX.a (WC.b (WC.b (WC.a (WL.pu rfl ?_))))))
  refine WL.a (d:=9) rfl rfl rfl (ya y3o rfl rfl) ?_
  refine WL.a (d:=10) rfl rfl rfl (yb y3p rfl (yc .here rfl)) ?_
  refine WL.a (d:=11) rfl rfl rfl (yZ Try.underlying22 rfl) ?_
  refine WL.pu rfl (WL.nil (WX.a ?_))
  refine WC.cond rfl (fun zfP=>?_) (fun zfP=>?_)
  · replace h:=ym h zfP
    refine WC.b (WC.a (WL.pu rfl (WL.pu rfl (WL.pu rfl (WL.nil (WX.a (WC.ret (WX.yg ?_))))))))
    obtain rfl:=Option.some.inj h
    refine WX.yi Try.results60 (.tmp rfl .nil) (fun w hw=>?_)
    exact ⟨y10 rfl,hw.sub .nil⟩
  · replace h:=yn h zfP
    refine WC.skip (WX.a (WC.b ?_))
    obtain ⟨zom,h⟩:=yj h
    refine WC.a ?_
    refine WL.a (d:=15) rfl rfl rfl (ya y4x rfl rfl) ?_
    refine WL.a (d:=16) rfl rfl rfl (yb y4y rfl (yc .here rfl)) ?_
    refine WL.pu rfl ?_
    refine WL.a (d:=18) rfl rfl rfl (ya y3o rfl rfl) ?_
    refine WL.a (d:=19) rfl rfl rfl (yb y3p rfl (yc .here rfl)) ?_
    refine WL.a (d:=20) rfl rfl rfl (yZ Try.underlying22 rfl) ?_
    refine WL.pu rfl ?_
    refine WL.znth (dd:=22) rfl rfl (Z:=Z) (Pr:=(fun r x=>r = e64 x)) y5I rfl rfl zol zom ?_
    rintro zvd zve zon zvf rfl
    refine WL.a (d:=23) rfl rfl rfl (yH aggT_64 rfl (y3F hz.pv zon) rfl) ?_
    refine WL.new (dd:=7) rfl rfl rfl (y23 (cs:=[(.string ⟨#[]⟩),(.int .i64 0),(.int .i64 0),(.int .i64 0)]) zeroT_64 rfl) ?_
    intro zvg _
    refine WL.y1l rfl rfl (y1D sizT_64 rfl rfl rfl .here rfl rfl rfl) ?_
    refine WL.nil (WX.a (WC.b (WC.a ?_)))
    refine WL.a (d:=24) rfl rfl rfl (ya fo_64_1 rfl rfl) ?_
    refine WL.a (d:=25) rfl rfl rfl (yb ye rfl (yc .here rfl)) ?_
    refine WL.pu rfl (WL.pu rfl (WL.pu rfl ?_))
    refine WL.seg true 3 28 (B:=(decide (((nth zz.fSwitches (i64 (z1n - ((zz.fModules.length : Nat) : Int)))).fNet) = z5u)) && (decide (((nth zz.fSwitches (i64 (z1n - ((zz.fModules.length : Nat) : Int)))).fDelay) ≥ 0))) rfl rfl rfl rfl rfl rfl (fun h=>(y2n h).symm) (fun _ zoo=>?_) ?_
    · skip
      refine WL.a (d:=29) rfl rfl rfl (ya y6K rfl rfl) ?_
      refine WL.a (d:=30) rfl rfl rfl (yb ye rfl (yc .here rfl)) ?_
      refine WL.pu rfl (WL.pu rfl ?_)
      exact WL.ys (y2o zoo) rfl rfl .all
    refine WL.pu rfl ?_
    refine WL.seg true 3 33 (B:=((decide (((nth zz.fSwitches (i64 (z1n - ((zz.fModules.length : Nat) : Int)))).fNet) = z5u)) && (decide (((nth zz.fSwitches (i64 (z1n - ((zz.fModules.length : Nat) : Int)))).fDelay) ≥ 0))) && (decide (((nth zz.fSwitches (i64 (z1n - ((zz.fModules.length : Nat) : Int)))).fDelay) ≤ 1000))) rfl rfl rfl rfl rfl rfl (fun h=>(y2n h).symm) (fun _ zop=>?_) ?_
    · skip
      refine WL.a (d:=34) rfl rfl rfl (ya y6K rfl rfl) ?_
      refine WL.a (d:=35) rfl rfl rfl (yb ye rfl (yc .here rfl)) ?_
      refine WL.pu rfl (WL.pu rfl ?_)
      exact WL.ys (y2o zop) rfl rfl .all
    refine WL.pu rfl ?_
    refine WL.seg true 3 38 (B:=(((decide (((nth zz.fSwitches (i64 (z1n - ((zz.fModules.length : Nat) : Int)))).fNet) = z5u)) && (decide (((nth zz.fSwitches (i64 (z1n - ((zz.fModules.length : Nat) : Int)))).fDelay) ≥ 0))) && (decide (((nth zz.fSwitches (i64 (z1n - ((zz.fModules.length : Nat) : Int)))).fDelay) ≤ 1000))) && (decide (((nth zz.fSwitches (i64 (z1n - ((zz.fModules.length : Nat) : Int)))).fStore) ≥ 0))) rfl rfl rfl rfl rfl rfl (fun h=>(y2n h).symm) (fun _ zoq=>?_) ?_
    · skip
      refine WL.a (d:=39) rfl rfl rfl (ya y7A rfl rfl) ?_
      refine WL.a (d:=40) rfl rfl rfl (yb ye rfl (yc .here rfl)) ?_
      refine WL.pu rfl (WL.pu rfl ?_)
      exact WL.ys (y2o zoq) rfl rfl .all
    refine WL.pu rfl ?_
    refine WL.seg true 3 43 (B:=((((decide (((nth zz.fSwitches (i64 (z1n - ((zz.fModules.length : Nat) : Int)))).fNet) = z5u)) && (decide (((nth zz.fSwitches (i64 (z1n - ((zz.fModules.length : Nat) : Int)))).fDelay) ≥ 0))) && (decide (((nth zz.fSwitches (i64 (z1n - ((zz.fModules.length : Nat) : Int)))).fDelay) ≤ 1000))) && (decide (((nth zz.fSwitches (i64 (z1n - ((zz.fModules.length : Nat) : Int)))).fStore) ≥ 0))) && (decide (((nth zz.fSwitches (i64 (z1n - ((zz.fModules.length : Nat) : Int)))).fStore) ≤ 1073741824))) rfl rfl rfl rfl rfl rfl (fun h=>(y2n h).symm) (fun _ zor=>?_) ?_
    · skip
      refine WL.a (d:=44) rfl rfl rfl (ya y7A rfl rfl) ?_
      refine WL.a (d:=45) rfl rfl rfl (yb ye rfl (yc .here rfl)) ?_
      refine WL.pu rfl (WL.pu rfl ?_)
      exact WL.ys (y2o zor) rfl rfl .all
    refine WL.pu rfl (WL.nil (WX.a (WC.ret ?_)))
    obtain rfl:=Option.some.inj h
    refine WX.yi Try.results60 (.tmp rfl .nil) (fun w hw=>?_)
    exact ⟨y10 rfl,hw.sub .nil⟩
def y3i (zI : Sapi_Config) (z4K : Int) (z1A : Int) (z3z : Int) (z3A : Int) : Option Bool :=
  if (decide (z1A < 0)) || (decide (z1A ≥ ((zI.fLinks.length : Nat) : Int))) then some false else chk ((0 : Int) ≤ z1A ∧ z1A < ((zI.fLinks.length : Nat) : Int)) ((y1R zI ((nth zI.fLinks z1A).fA)).bind fun z46=>(y1R zI ((nth zI.fLinks z1A).fB)).bind fun z47=>(if (((decide (((nth zI.fLinks z1A).fNet) = z4K)) && (decide (((nth zI.fLinks z1A).fSlow) ≥ 1))) && (decide (((nth zI.fLinks z1A).fSlow) ≤ 16))) && (decide (z46 ≠ z47)) then (y2X zI z4K z46).bind fun zjL=>some zjL else some false).bind fun zfQ=>(if zfQ then (y2X zI z4K z47).bind fun zjM=>some zjM else some false).bind fun zdS=>some (zdS && (((decide (z46 = z3z)) && (decide (z47 = z3A))) || ((decide (z46 = z3A)) && (decide (z47 = z3z))))))
set_option maxRecDepth 20000 in
theorem y7m (Z : Zp) (zck : Option Addr) (zcl : Nat) (zcm : Option Addr) (zcn : Nat) (zco : Option Addr) (zcp : Nat) (zcq : Option Addr) (zcr : Nat) (zcs : Option Addr) (zct : Nat) (zcu : Option Addr) (zcv : Nat) (zcw : Option Addr) (zcx : Nat) (zcy : Option Addr) (zcz : Nat) (zI : Sapi_Config) (z4K : Int) (z1A : Int) (z3z : Int) (z3A : Int) (r : Bool)
     (h : y3i zI z4K z1A z3z z3A = some r) (w₀ : World) (hz : PZ [] w₀ Z)
     (zdT : ZS Z 4 (y2x Z) zck zcl zI.fModules)
     (zdU : ZS Z 4 (y2O Z) zcm zcn zI.fChannels)
     (zdV : ZS Z 4 (fun r x=>r = e64 x) zco zcp zI.fSwitches)
     (zcA : ZS Z 4 (fun r x=>r = e62 x) zcq zcr zI.fLinks)
     (zdW : ZS Z 7 (y2F Z) zcs zct zI.fVLs)
     (zdX : ZS Z 5 (fun r x=>r = y34 x) zcu zcv zI.fHealth)
     (zdY : ZS Z 3 (y2P Z) zcw zcx zI.fCauses)
     (zdZ : ZS Z 4 (fun r x=>r = y35 x) zcy zcz zI.fVersions) :
    Calls Try.prog 48 #[(.agg #[(.slice zck zI.fModules.length zcl),(.slice zcm zI.fChannels.length zcn),(.slice zco zI.fSwitches.length zcp),(.slice zcq zI.fLinks.length zcr),(.slice zcs zI.fVLs.length zct),(.slice zcu zI.fHealth.length zcv),(.slice zcw zI.fCauses.length zcx),(.slice zcy zI.fVersions.length zcz)]),(.int .i64 z4K),(.int .i64 z1A),(.int .i64 z3z),(.int .i64 z3A)] w₀ fun e w'=>e = .returned (.bool r) ∧ Hp [] w₀ w' []:=by
  unfold y3i at h
  refine Calls.yl (vs:=[(.agg #[(.slice zck zI.fModules.length zcl),(.slice zcm zI.fChannels.length zcn),(.slice zco zI.fSwitches.length zcp),(.slice zcq zI.fLinks.length zcr),(.slice zcs zI.fVLs.length zct),(.slice zcu zI.fHealth.length zcv),(.slice zcw zI.fCauses.length zcx),(.slice zcy zI.fVersions.length zcz)]),(.int .i64 z4K),(.int .i64 z1A),(.int .i64 z3z),(.int .i64 z3A)]) (pre:=[]) (env:=[(0,(.agg #[(.slice zck zI.fModules.length zcl),(.slice zcm zI.fChannels.length zcn),(.slice zco zI.fSwitches.length zcp),(.slice zcq zI.fLinks.length zcr),(.slice zcs zI.fVLs.length zct),(.slice zcu zI.fHealth.length zcv),(.slice zcw zI.fCauses.length zcx),(.slice zcy zI.fVersions.length zcz)])),(1,(.int .i64 z4K)),(2,(.int .i64 z1A)),(3,(.int .i64 z3z)),(4,(.int .i64 z3A))]) Try.func48 rfl Try.ntmps48 rfl (Hp.nil w₀ _) rfl ?_
  refine WC.b (WC.a ?_)
  refine WL.new (dd:=5) rfl rfl rfl (y2c (cs:=[(.slice zck zI.fModules.length zcl),(.slice zcm zI.fChannels.length zcn),(.slice zco zI.fSwitches.length zcp),(.slice zcq zI.fLinks.length zcr),(.slice zcs zI.fVLs.length zct),(.slice zcu zI.fHealth.length zcv),(.slice zcw zI.fCauses.length zcx),(.slice zcy zI.fVersions.length zcz)]) rfl rfl) ?_
  intro zvh _
  refine WL.pu rfl (WL.nil (WX.a (WC.b (WC.b (WC.a (WL.pu rfl (WL.pu rfl (WL.pu rfl ?_))))))))
  refine WL.seg false 5 16 (B:=(decide (z1A < 0)) || (decide (z1A ≥ ((zI.fLinks.length : Nat) : Int)))) rfl rfl rfl rfl rfl rfl (fun h=>(y1X h).symm) (fun _ zos=>?_) ?_
  · skip
    refine WL.pu rfl ?_
    refine WL.a (d:=18) rfl rfl rfl (ya y5C rfl rfl) ?_
    refine WL.a (d:=19) rfl rfl rfl (yb y5D rfl (yc .here rfl)) ?_
    refine WL.a (d:=20) rfl rfl rfl (yZ Try.underlying25 rfl) ?_
    refine WL.pu rfl (WL.pu rfl ?_)
    exact WL.ys (y1Y zos) rfl rfl .all
  refine WL.nil (WX.a ?_)
  refine WC.cond rfl (fun zfR=>?_) (fun zfR=>?_)
  · replace h:=ym h zfR
    refine WC.b (WC.a (WL.pu rfl (WL.nil (WX.a (WC.ret (WX.yg ?_))))))
    obtain rfl:=Option.some.inj h
    refine WX.yi Try.results48 (.tmp rfl .nil) (fun w hw=>?_)
    exact ⟨y10 rfl,hw.sub .nil⟩
  · replace h:=yn h zfR
    refine WC.skip (WX.a (WC.b ?_))
    obtain ⟨zot,h⟩:=yj h
    refine WC.a ?_
    refine WL.a (d:=23) rfl rfl rfl (ya y5C rfl rfl) ?_
    refine WL.a (d:=24) rfl rfl rfl (yb y5D rfl (yc .here rfl)) ?_
    refine WL.pu rfl ?_
    refine WL.znth (dd:=26) rfl rfl (Z:=Z) (Pr:=(fun r x=>r = e62 x)) y7k rfl rfl zcA zot ?_
    rintro zvi zvj zou zvk rfl
    refine WL.a (d:=27) rfl rfl rfl (yH aggT_62 rfl (y3F hz.pv zou) rfl) ?_
    refine WL.new (dd:=11) rfl rfl rfl (y23 (cs:=[(.string ⟨#[]⟩),(.string ⟨#[]⟩),(.int .i64 0),(.int .i64 0)]) zeroT_62 rfl) ?_
    intro zvl _
    refine WL.y1l rfl rfl (y1D sizT_62 rfl rfl rfl .here rfl rfl rfl) ?_
    refine WL.nil (WX.a (WC.b ?_))
    obtain ⟨z46,zov,h⟩:=zp h
    obtain ⟨z47,zow,h⟩:=zp h
    refine WC.yV (fun i=>[].contains i) [] rfl ?_
    refine WD.e (i:=0) (d:=28) (by kernel_rfl) rfl (z2 (by kernel_rfl)) (z3 (by kernel_rfl)) rfl rfl rfl (yH y1J rfl (y1j .h1) rfl) ?_
    refine WD.a (i:=1) (d:=29) (by kernel_rfl) rfl (z2 (by kernel_rfl)) (z3 (by kernel_rfl)) rfl rfl rfl (fun _=>ya fo_62_0 rfl rfl) ?_
    refine WD.e (i:=2) (d:=30) (by kernel_rfl) rfl (z2 (by kernel_rfl)) (z3 (by kernel_rfl)) rfl rfl rfl (yb y7l rfl (yc .here rfl)) ?_
    refine WD.c (i:=3) (d:=31) (by kernel_rfl) rfl (z2 (by kernel_rfl)) (z3 (by kernel_rfl)) rfl rfl rfl (zF (l:=[.tmp 28,.tmp 30]) Try.call59 (.cons rfl (.cons rfl .nil))) (cc hz .nil fun w pz ho=>y5L _ _ _ _ _ _ _ _ _ _ _ _ _ _ _ _ _ _ _ _ zov w pz zdT zdU zdV zcA zdW zdX zdY zdZ) ?_
    refine WD.e (i:=4) (d:=32) (by kernel_rfl) rfl (z2 (by kernel_rfl)) (z3 (by kernel_rfl)) rfl rfl rfl (yH y1J rfl (y1j .h1) rfl) ?_
    refine WD.a (i:=5) (d:=33) (by kernel_rfl) rfl (z2 (by kernel_rfl)) (z3 (by kernel_rfl)) rfl rfl rfl (fun _=>ya fo_62_1 rfl rfl) ?_
    refine WD.e (i:=6) (d:=34) (by kernel_rfl) rfl (z2 (by kernel_rfl)) (z3 (by kernel_rfl)) rfl rfl rfl (yb y7l rfl (yc .here rfl)) ?_
    refine WD.c (i:=7) (d:=35) (by kernel_rfl) rfl (z2 (by kernel_rfl)) (z3 (by kernel_rfl)) rfl rfl rfl (zF (l:=[.tmp 32,.tmp 34]) Try.call59 (.cons rfl (.cons rfl .nil))) (cc hz .nil fun w pz ho=>y5L _ _ _ _ _ _ _ _ _ _ _ _ _ _ _ _ _ _ _ _ zow w pz zdT zdU zdV zcA zdW zdX zdY zdZ) ?_
    refine WD.a (i:=8) (d:=12) (by kernel_rfl) rfl (z2 (by kernel_rfl)) (z3 (by kernel_rfl)) rfl rfl rfl (fun _=>q_z rfl) ?_
    refine WD.a (i:=9) (d:=13) (by kernel_rfl) rfl (z2 (by kernel_rfl)) (z3 (by kernel_rfl)) rfl rfl rfl (fun _=>q_z rfl) ?_
    refine WD.done (by kernel_rfl) ?_
    refine WX.a (WC.b ?_)
    obtain ⟨zfQ,zjN,h⟩:=zp h
    obtain ⟨zdS,zjO,h⟩:=zp h
    refine WC.a ?_
    refine WL.a (d:=36) rfl rfl rfl (ya fo_62_2 rfl rfl) ?_
    refine WL.a (d:=37) rfl rfl rfl (yb ye rfl (yc .here rfl)) ?_
    refine WL.pu rfl (WL.pu rfl (WL.pu rfl ?_))
    refine WL.seg true 3 40 (B:=(decide (((nth zI.fLinks z1A).fNet) = z4K)) && (decide (((nth zI.fLinks z1A).fSlow) ≥ 1))) rfl rfl rfl rfl rfl rfl (fun h=>(y2n h).symm) (fun _ zox=>?_) ?_
    · skip
      refine WL.a (d:=41) rfl rfl rfl (ya y6J rfl rfl) ?_
      refine WL.a (d:=42) rfl rfl rfl (yb ye rfl (yc .here rfl)) ?_
      refine WL.pu rfl (WL.pu rfl ?_)
      exact WL.ys (y2o zox) rfl rfl .all
    refine WL.pu rfl ?_
    refine WL.seg true 3 45 (B:=((decide (((nth zI.fLinks z1A).fNet) = z4K)) && (decide (((nth zI.fLinks z1A).fSlow) ≥ 1))) && (decide (((nth zI.fLinks z1A).fSlow) ≤ 16))) rfl rfl rfl rfl rfl rfl (fun h=>(y2n h).symm) (fun _ zoy=>?_) ?_
    · skip
      refine WL.a (d:=46) rfl rfl rfl (ya y6J rfl rfl) ?_
      refine WL.a (d:=47) rfl rfl rfl (yb ye rfl (yc .here rfl)) ?_
      refine WL.pu rfl (WL.pu rfl ?_)
      exact WL.ys (y2o zoy) rfl rfl .all
    refine WL.pu rfl ?_
    refine WL.seg true 3 50 (B:=(((decide (((nth zI.fLinks z1A).fNet) = z4K)) && (decide (((nth zI.fLinks z1A).fSlow) ≥ 1))) && (decide (((nth zI.fLinks z1A).fSlow) ≤ 16))) && (decide (z46 ≠ z47))) rfl rfl rfl rfl rfl rfl (fun h=>(y2n h).symm) (fun _ zoz=>?_) ?_
    · skip
      refine WL.pu rfl (WL.pu rfl (WL.pu rfl (WL.pu rfl ?_)))
      exact WL.ys (y2o zoz) rfl rfl .all
    refine WL.pu rfl ?_
    refine WL.seg true 4 55 (B:=zfQ) rfl rfl rfl rfl rfl rfl (fun h=>(Option.some.inj (yn zjN h)).symm) (fun _ zoA=>?_) ?_
    · skip
      have zcB:=ym zjN zoA
      obtain ⟨zjL,zoB,zcB⟩:=zp zcB
      replace zcB:=Option.some.inj zcB
      refine WL.a (d:=56) rfl rfl rfl (yH y1J rfl (y1j .h1) rfl) ?_
      refine WL.pu rfl (WL.pu rfl ?_)
      refine WL.b (dd:=59) rfl rfl rfl (zF (l:=[.tmp 56,.tmp 57,.tmp 58]) Try.call60 (.cons rfl (.cons rfl (.cons rfl .nil)))) .nil (cc hz .nil fun w pz ho=>y5M _ _ _ _ _ _ _ _ _ _ _ _ _ _ _ _ _ _ _ _ _ zoB w pz zdT zdU zdV zcA zdW zdX zdY zdZ) ?_
      refine WL.pu rfl ?_
      exact WL.ys zcB rfl rfl .all
    refine WL.pu rfl ?_
    refine WL.seg true 4 61 (B:=zdS) rfl rfl rfl rfl rfl rfl (fun h=>(Option.some.inj (yn zjO h)).symm) (fun _ zoC=>?_) ?_
    · skip
      have zcC:=ym zjO zoC
      obtain ⟨zjM,zoD,zcC⟩:=zp zcC
      replace zcC:=Option.some.inj zcC
      refine WL.a (d:=62) rfl rfl rfl (yH y1J rfl (y1j .h1) rfl) ?_
      refine WL.pu rfl (WL.pu rfl ?_)
      refine WL.b (dd:=65) rfl rfl rfl (zF (l:=[.tmp 62,.tmp 63,.tmp 64]) Try.call60 (.cons rfl (.cons rfl (.cons rfl .nil)))) .nil (cc hz .nil fun w pz ho=>y5M _ _ _ _ _ _ _ _ _ _ _ _ _ _ _ _ _ _ _ _ _ zoD w pz zdT zdU zdV zcA zdW zdX zdY zdZ) ?_
      refine WL.pu rfl ?_
      exact WL.ys zcC rfl rfl .all
    refine WL.pu rfl ?_
    refine WL.seg true 18 67 (B:=zdS && (((decide (z46 = z3z)) && (decide (z47 = z3A))) || ((decide (z46 = z3A)) && (decide (z47 = z3z))))) rfl rfl rfl rfl rfl rfl (fun h=>(y2n h).symm) (fun _ zoE=>?_) ?_
    · skip
      refine WL.pu rfl (WL.pu rfl (WL.pu rfl (WL.pu rfl ?_)))
      refine WL.seg true 3 71 (B:=(decide (z46 = z3z)) && (decide (z47 = z3A))) rfl rfl rfl rfl rfl rfl (fun h=>(y2n h).symm) (fun _ zoF=>?_) ?_
      · skip
        refine WL.pu rfl (WL.pu rfl (WL.pu rfl (WL.pu rfl ?_)))
        exact WL.ys (y2o zoF) rfl rfl .all
      refine WL.pu rfl ?_
      refine WL.seg false 8 76 (B:=((decide (z46 = z3z)) && (decide (z47 = z3A))) || ((decide (z46 = z3A)) && (decide (z47 = z3z)))) rfl rfl rfl rfl rfl rfl (fun h=>(y1X h).symm) (fun _ zoG=>?_) ?_
      · skip
        refine WL.pu rfl (WL.pu rfl (WL.pu rfl (WL.pu rfl ?_)))
        refine WL.seg true 3 80 (B:=(decide (z46 = z3A)) && (decide (z47 = z3z))) rfl rfl rfl rfl rfl rfl (fun h=>(y2n h).symm) (fun _ zoH=>?_) ?_
        · skip
          refine WL.pu rfl (WL.pu rfl (WL.pu rfl (WL.pu rfl ?_)))
          exact WL.ys (y2o zoH) rfl rfl .all
        refine WL.pu rfl ?_
        exact WL.ys (y1Y zoG) rfl rfl .all
      refine WL.pu rfl ?_
      exact WL.ys (y2o zoE) rfl rfl .all
    refine WL.pu rfl (WL.nil (WX.a (WC.ret ?_)))
    obtain rfl:=Option.some.inj h
    refine WX.yi Try.results48 (.tmp rfl .nil) (fun w hw=>?_)
    exact ⟨y10 rfl,hw.sub .nil⟩
def y1H (zq : List Sapi_Hop) (zC : Sapi_Config) (z27 : Int) (z6I : Option Bool) : Nat → Int → (List (Int × Int)) → Option Bool
  | 0,_,_=>none
  | zfS + 1,zy,z2N=>if decide (zy < ((zq.length : Nat) : Int)) then chk ((0 : Int) ≤ zy ∧ zy < ((zq.length : Nat) : Int)) (jp1 (fun (z1h : List (Int × Int))=>chk (((decide ((yr z1h ((nth zq zy).fNode) 0) = 0)) || (decide ((yr z1h ((nth zq zy).fNext) 0) > 0))) = false → ((decide (zy > 0)) = true → ((0 : Int) ≤ 0 ∧ 0 < ((zq.length : Nat) : Int)))) ((if ((decide ((yr z1h ((nth zq zy).fNode) 0) = 0)) || (decide ((yr z1h ((nth zq zy).fNext) 0) > 0))) || (((decide (zy > 0)) && (decide (((nth zq zy).fNode) ≠ ((nth zq 0).fNode)))) && (decide (((nth zq zy).fNode) < ((zC.fModules.length : Nat) : Int)))) then some true else (y3i zC z27 ((nth zq zy).fLink) ((nth zq zy).fNode) ((nth zq zy).fNext)).bind fun zjP=>some (!zjP)).bind fun zfT=>if zfT then some false else y1H zq zC z27 z6I zfS (i64 (zy + 1)) (yU z1h ((nth zq zy).fNext) (i64 ((yr z1h ((nth zq zy).fNext) 0) + 1))))) fun ze0=>if decide (zy = 0) then ze0 (yU z2N ((nth zq zy).fNode) (i64 ((yr z2N ((nth zq zy).fNode) 0) + 1))) else ze0 z2N) else z6I
theorem y5g {n : Nat} {zq : List Sapi_Hop} {zC : Sapi_Config} {z27 : Int} {z6I : Option Bool} {zy : Int} {z2N : List (Int × Int)} {r : Bool} (h : y1H zq zC z27 z6I n zy z2N = some r) : ∃ m,n = m + 1:=by
  cases n with
  | zero=>cases h
  | succ m=>exact ⟨m,rfl⟩
def y3j (zC : Sapi_Config) (z27 : Int) (zq : List Sapi_Hop) : Option Bool :=
  jp0 (some (decide (((zq.length : Nat) : Int) ≤ 32))) fun z6I=>y1H zq zC z27 z6I yA 0 ([] : List (Int × Int))
set_option maxRecDepth 20000 in
theorem y7n (Z : Zp) (z8g : Option Addr) (z8h : Nat) (z8i : Option Addr) (z8j : Nat) (z8k : Option Addr) (z8l : Nat) (z8m : Option Addr) (z8n : Nat) (z8o : Option Addr) (z8p : Nat) (z8q : Option Addr) (z8r : Nat) (z8s : Option Addr) (z8t : Nat) (z8u : Option Addr) (z8v : Nat) (z28 : Option Addr) (z29 : Nat) (zC : Sapi_Config) (z27 : Int) (zq : List Sapi_Hop) (r : Bool)
     (h : y3j zC z27 zq = some r) (w₀ : World) (hz : PZ [] w₀ Z)
     (zoI : ZS Z 4 (y2x Z) z8g z8h zC.fModules)
     (zoJ : ZS Z 4 (y2O Z) z8i z8j zC.fChannels)
     (zoK : ZS Z 4 (fun r x=>r = e64 x) z8k z8l zC.fSwitches)
     (zoL : ZS Z 4 (fun r x=>r = e62 x) z8m z8n zC.fLinks)
     (zoM : ZS Z 7 (y2F Z) z8o z8p zC.fVLs)
     (zoN : ZS Z 5 (fun r x=>r = y34 x) z8q z8r zC.fHealth)
     (zoO : ZS Z 3 (y2P Z) z8s z8t zC.fCauses)
     (zoP : ZS Z 4 (fun r x=>r = y35 x) z8u z8v zC.fVersions)
     (zjQ : ZS Z 3 (fun r x=>r = e59 x) z28 z29 zq) :
    Calls Try.prog 36 #[(.agg #[(.slice z8g zC.fModules.length z8h),(.slice z8i zC.fChannels.length z8j),(.slice z8k zC.fSwitches.length z8l),(.slice z8m zC.fLinks.length z8n),(.slice z8o zC.fVLs.length z8p),(.slice z8q zC.fHealth.length z8r),(.slice z8s zC.fCauses.length z8t),(.slice z8u zC.fVersions.length z8v)]),(.int .i64 z27),(.slice z28 zq.length z29)] w₀ fun e w'=>e = .returned (.bool r) ∧ Hp [] w₀ w' []:=by
  unfold y3j at h
  refine Calls.yl (vs:=[(.agg #[(.slice z8g zC.fModules.length z8h),(.slice z8i zC.fChannels.length z8j),(.slice z8k zC.fSwitches.length z8l),(.slice z8m zC.fLinks.length z8n),(.slice z8o zC.fVLs.length z8p),(.slice z8q zC.fHealth.length z8r),(.slice z8s zC.fCauses.length z8t),(.slice z8u zC.fVersions.length z8v)]),(.int .i64 z27),(.slice z28 zq.length z29)]) (pre:=[]) (env:=[(0,(.agg #[(.slice z8g zC.fModules.length z8h),(.slice z8i zC.fChannels.length z8j),(.slice z8k zC.fSwitches.length z8l),(.slice z8m zC.fLinks.length z8n),(.slice z8o zC.fVLs.length z8p),(.slice z8q zC.fHealth.length z8r),(.slice z8s zC.fCauses.length z8t),(.slice z8u zC.fVersions.length z8v)])),(1,(.int .i64 z27)),(2,(.slice z28 zq.length z29))]) Try.func36 rfl Try.ntmps36 rfl (Hp.nil w₀ _) rfl ?_
  refine WC.b (WC.a ?_)
  refine WL.new (dd:=3) rfl rfl rfl (y2c (cs:=[(.slice z8g zC.fModules.length z8h),(.slice z8i zC.fChannels.length z8j),(.slice z8k zC.fSwitches.length z8l),(.slice z8m zC.fLinks.length z8n),(.slice z8o zC.fVLs.length z8p),(.slice z8q zC.fHealth.length z8r),(.slice z8s zC.fCauses.length z8t),(.slice z8u zC.fVersions.length z8v)]) rfl rfl) ?_
  intro z6J _
  refine WL.pu rfl (WL.nil (WX.a (WC.b (WC.a ?_))))
  refine WL.new (dd:=10) rfl rfl rfl (y6v (Value.int .i64) (Value.int .i64)) ?_
  intro z6K _
  refine WL.pu rfl (WL.nil (WX.a ?_))
  obtain ⟨z6I,zoQ,h⟩:=y2r h
  refine WC.y2d ((z6I = some r)) ([(2,(.slice z28 zq.length z29))]) ([]) ?_ ?_
  · skip
    refine WC.b (WC.a (WL.pu rfl ?_))
    refine WL.a (d:=12) rfl rfl rfl (yZ Try.underlying55 rfl) ?_
    refine WL.pu rfl (WL.nil (WX.a (WC.block ?_)))
    refine WC.y2q (fun (z9V : Nat) (zy : Int) (z2N : List (Int × Int))=>(y1H zq zC z27 z6I z9V zy z2N = some r)) (fun (z9V : Nat) (zy : Int) (z2N : List (Int × Int))=>[(1,(.int .i64 z27)),(2,(.slice z28 zq.length z29)),(3,(.pointer (some ⟨z6J,0,none⟩))),(7,(.map (some z6K))),(11,(.slice z28 zq.length z29)),(12,(.int .i64 ((zq.length : Nat) : Int))),(13,(.int .i64 zy))]) (fun (z9V : Nat) (zy : Int) (z2N : List (Int × Int))=>[stb z6J 31 [(.slice z8g zC.fModules.length z8h),(.slice z8i zC.fChannels.length z8j),(.slice z8k zC.fSwitches.length z8l),(.slice z8m zC.fLinks.length z8n),(.slice z8o zC.fVLs.length z8p),(.slice z8q zC.fHealth.length z8r),(.slice z8s zC.fCauses.length z8t),(.slice z8u zC.fVersions.length z8v)],y16 z6K (Value.int .i64) (Value.int .i64) z2N]) (fun (z9V : Nat) (zy : Int) (z2N : List (Int × Int))=>z9V) ⟨yA,0,([] : List (Int × Int))⟩ h (.cons rfl (.cons rfl (.cons rfl (.cons rfl (.cons rfl (.cons rfl (.cons rfl .nil))))))) (.cons .h1 (.cons .here .nil)) ?_
    rintro z9V zy z2N h
    obtain ⟨zfS,rfl⟩:=y5g h
    rw [y1H] at h
    refine WC.b (WC.a (WL.pu rfl (WL.nil (WX.a (WC.b ?_)))))
    refine WC.cond rfl (fun zfU=>?_) (fun zfU=>?_)
    · replace h:=ym h zfU
      refine WC.skip (WX.a (WC.b (WC.block (WC.b ?_))))
      obtain ⟨zoR,h⟩:=yj h
      refine WC.a (WL.pu rfl ?_)
      refine WL.znth (dd:=16) rfl rfl (Z:=Z) (Pr:=(fun r x=>r = e59 x)) y4N rfl rfl zjQ zoR ?_
      rintro zvm zvn zoS zvo rfl
      refine WL.a (d:=17) rfl rfl rfl (yH y6H rfl (y3F hz.pv zoS) rfl) ?_
      refine WL.new (dd:=9) rfl rfl rfl (y23 (cs:=[(.int .i64 0),(.int .i64 0),(.int .i64 0)]) y8n rfl) ?_
      intro z8w _
      refine WL.pu rfl ?_
      refine WL.y1l rfl rfl (y1D y8U rfl rfl rfl .here rfl rfl rfl) ?_
      refine WL.nil (WX.a ?_)
      obtain ⟨ze0,zoT,h⟩:=y1d h
      refine WC.y1L (fun (z1h : List (Int × Int))=>(ze0 z1h = some r)) (fun (z1h : List (Int × Int))=>[(1,(.int .i64 z27)),(2,(.slice z28 zq.length z29)),(3,(.pointer (some ⟨z6J,0,none⟩))),(7,(.map (some z6K))),(8,(.int .i64 zy)),(9,(.pointer (some ⟨z8w,0,none⟩))),(11,(.slice z28 zq.length z29)),(12,(.int .i64 ((zq.length : Nat) : Int))),(13,(.int .i64 zy))]) (fun (z1h : List (Int × Int))=>[stb z6J 31 [(.slice z8g zC.fModules.length z8h),(.slice z8i zC.fChannels.length z8j),(.slice z8k zC.fSwitches.length z8l),(.slice z8m zC.fLinks.length z8n),(.slice z8o zC.fVLs.length z8p),(.slice z8q zC.fHealth.length z8r),(.slice z8s zC.fCauses.length z8t),(.slice z8u zC.fVersions.length z8v)],y16 z6K (Value.int .i64) (Value.int .i64) z1h,stb z8w 59 [(.int .i64 ((nth zq zy).fNode)),(.int .i64 ((nth zq zy).fNext)),(.int .i64 ((nth zq zy).fLink))]]) ?_ ?_
      · skip
        refine WC.b (WC.a (WL.pu rfl (WL.pu rfl (WL.nil (WX.a ?_)))))
        refine WC.cond rfl (fun zfV=>?_) (fun zfV=>?_)
        · replace h:=ym h zfV
          refine WC.a (WL.pu rfl ?_)
          refine WL.a (d:=21) rfl rfl rfl (ya y3f rfl rfl) ?_
          refine WL.a (d:=22) rfl rfl rfl (yb ye rfl (yc .here rfl)) ?_
          refine WL.a (d:=23) rfl rfl rfl (y4w (k:=((nth zq zy).fNode)) (dflt:=(0 : Int)) y5G Try.underlying125 y6I rfl rfl rfl .h2) ?_
          refine WL.pu rfl ?_
          refine WL.y1l rfl rfl (y4H (k:=((nth zq zy).fNode)) (v:=i64 ((yr z2N ((nth zq zy).fNode) 0) + 1)) y5G Try.underlying125 rfl rfl rfl rfl .h2) ?_
          refine WL.nil ?_
          exact WX.mid (G:=(List (Int × Int))) (yU z2N ((nth zq zy).fNode) (i64 ((yr z2N ((nth zq zy).fNode) 0) + 1))) h (.cons rfl (.cons rfl (.cons rfl (.cons rfl (.cons rfl (.cons rfl (.cons rfl (.cons rfl (.cons rfl .nil))))))))) (.cons .h2 (.cons .here (.cons .here .nil)))
        · replace h:=yn h zfV
          refine WC.skip ?_
          exact WX.mid (G:=(List (Int × Int))) z2N h (.cons rfl (.cons rfl (.cons rfl (.cons rfl (.cons rfl (.cons rfl (.cons rfl (.cons rfl (.cons rfl .nil))))))))) (.cons .h1 (.cons .h1 (.cons .here .nil)))
      · rintro z1h h
        replace h:=(zoT z1h).symm.trans h
        refine WC.b (WC.b ?_)
        obtain ⟨zoU,h⟩:=yj h
        obtain ⟨zfT,zjR,h⟩:=zp h
        refine WC.yV (fun i=>[].contains i) [] rfl ?_
        refine WD.a (i:=0) (d:=25) (by kernel_rfl) rfl (z2 (by kernel_rfl)) (z3 (by kernel_rfl)) rfl rfl rfl (fun _=>q_m rfl) ?_
        refine WD.a (i:=1) (d:=26) (by kernel_rfl) rfl (z2 (by kernel_rfl)) (z3 (by kernel_rfl)) rfl rfl rfl (fun _=>ya y3f rfl rfl) ?_
        refine WD.e (i:=2) (d:=27) (by kernel_rfl) rfl (z2 (by kernel_rfl)) (z3 (by kernel_rfl)) rfl rfl rfl (yb ye rfl (yc .h2 rfl)) ?_
        refine WD.e (i:=3) (d:=28) (by kernel_rfl) rfl (z2 (by kernel_rfl)) (z3 (by kernel_rfl)) rfl rfl rfl (y4w (k:=((nth zq zy).fNode)) (dflt:=(0 : Int)) y5G Try.underlying125 y6I rfl rfl rfl .h1) ?_
        refine WD.a (i:=4) (d:=29) (by kernel_rfl) rfl (z2 (by kernel_rfl)) (z3 (by kernel_rfl)) rfl rfl rfl (fun _=>q_eql rfl rfl) ?_
        refine WD.a (i:=5) (d:=30) (by kernel_rfl) rfl (z2 (by kernel_rfl)) (z3 (by kernel_rfl)) rfl rfl rfl (fun _=>q_m rfl) ?_
        refine WD.mid (fuel':=33) [(1,(.int .i64 z27)),(2,(.slice z28 zq.length z29)),(3,(.pointer (some ⟨z6J,0,none⟩))),(7,(.map (some z6K))),(8,(.int .i64 zy)),(9,(.pointer (some ⟨z8w,0,none⟩))),(11,(.slice z28 zq.length z29)),(12,(.int .i64 ((zq.length : Nat) : Int))),(13,(.int .i64 zy)),(30,(.bool (decide ((yr z1h ((nth zq zy).fNode) 0) = 0)))),(36,(.bool ((decide ((yr z1h ((nth zq zy).fNode) 0) = 0)) || (decide ((yr z1h ((nth zq zy).fNext) 0) > 0)))))] (y1i 45 [11,10,9,8,7,6,5,4,3,2,1,0]) ?_ (fun zjS=>?_)
        rotate_left
        · rcases Bool.eq_false_or_eq_true (decide ((yr z1h ((nth zq zy).fNode) 0) = 0)) with hb' | hb'
          · have zfW:=hb'; clear hb'
            refine WD.pin (i:=30) rfl zfW ?_
            refine WD.b (i:=6) (d:=31) (by kernel_rfl) rfl (z2 (by kernel_rfl)) (z3 (by kernel_rfl)) rfl rfl rfl ?_
            refine WD.b (i:=7) (d:=32) (by kernel_rfl) rfl (z2 (by kernel_rfl)) (z3 (by kernel_rfl)) rfl rfl rfl ?_
            refine WD.b (i:=8) (d:=33) (by kernel_rfl) rfl (z2 (by kernel_rfl)) (z3 (by kernel_rfl)) rfl rfl rfl ?_
            refine WD.b (i:=9) (d:=34) (by kernel_rfl) rfl (z2 (by kernel_rfl)) (z3 (by kernel_rfl)) rfl rfl rfl ?_
            refine WD.b (i:=10) (d:=35) (by kernel_rfl) rfl (z2 (by kernel_rfl)) (z3 (by kernel_rfl)) rfl rfl rfl ?_
            refine WD.a (i:=11) (d:=36) (by kernel_rfl) rfl (z2 (by kernel_rfl)) (z3 (by kernel_rfl)) rfl rfl rfl (fun _=>y1b rfl rfl) ?_
            refine WD.yE (.cons .here (.cons .here (.cons .here .nil))) ?_ zjS
            exact (.cons rfl (.cons rfl (.cons rfl (.cons rfl (.cons rfl (.cons rfl (.cons rfl (.cons rfl (.cons rfl (.cons (zh (Eq.symm zfW)) (.cons (zh (y1X zfW)) .nil)))))))))))
          · have zfX:=hb'; clear hb'
            refine WD.pin (i:=30) rfl zfX ?_
            refine WD.a (i:=6) (d:=31) (by kernel_rfl) rfl (z2 (by kernel_rfl)) (z3 (by kernel_rfl)) rfl rfl rfl (fun _=>q_m rfl) ?_
            refine WD.a (i:=7) (d:=32) (by kernel_rfl) rfl (z2 (by kernel_rfl)) (z3 (by kernel_rfl)) rfl rfl rfl (fun _=>ya y4z rfl rfl) ?_
            refine WD.e (i:=8) (d:=33) (by kernel_rfl) rfl (z2 (by kernel_rfl)) (z3 (by kernel_rfl)) rfl rfl rfl (yb ye rfl (yc .h2 rfl)) ?_
            refine WD.e (i:=9) (d:=34) (by kernel_rfl) rfl (z2 (by kernel_rfl)) (z3 (by kernel_rfl)) rfl rfl rfl (y4w (k:=((nth zq zy).fNext)) (dflt:=(0 : Int)) y5G Try.underlying125 y6I rfl rfl rfl .h1) ?_
            refine WD.a (i:=10) (d:=35) (by kernel_rfl) rfl (z2 (by kernel_rfl)) (z3 (by kernel_rfl)) rfl rfl rfl (fun _=>y3a rfl rfl) ?_
            refine WD.a (i:=11) (d:=36) (by kernel_rfl) rfl (z2 (by kernel_rfl)) (z3 (by kernel_rfl)) rfl rfl rfl (fun _=>y1c rfl rfl) ?_
            refine WD.yE (.cons .here (.cons .here (.cons .here .nil))) ?_ zjS
            exact (.cons rfl (.cons rfl (.cons rfl (.cons rfl (.cons rfl (.cons rfl (.cons rfl (.cons rfl (.cons rfl (.cons (zh (Eq.symm zfX)) (.cons (zh (y1Y zfX)) .nil)))))))))))
        refine WD.d #[true,true,true,true,true,true,true,true,true,true,true,true,false,false,false,false,false,false,false,false,false,false,false,false,false,false,false,false,false,false,false,false,false,false,false,false,false,false,false,false,false,false,false,false,false] (by kernel_rfl) ?_
        refine WD.a (i:=12) (d:=37) (by kernel_rfl) rfl (z2 (by kernel_rfl)) (z3 (by kernel_rfl)) rfl rfl rfl (fun _=>q_m rfl) ?_
        refine WD.mid (fuel':=12) [(1,(.int .i64 z27)),(2,(.slice z28 zq.length z29)),(3,(.pointer (some ⟨z6J,0,none⟩))),(7,(.map (some z6K))),(9,(.pointer (some ⟨z8w,0,none⟩))),(11,(.slice z28 zq.length z29)),(12,(.int .i64 ((zq.length : Nat) : Int))),(13,(.int .i64 zy)),(37,(.bool ((decide ((yr z1h ((nth zq zy).fNode) 0) = 0)) || (decide ((yr z1h ((nth zq zy).fNext) 0) > 0))))),(57,(.bool (((decide ((yr z1h ((nth zq zy).fNode) 0) = 0)) || (decide ((yr z1h ((nth zq zy).fNext) 0) > 0))) || (((decide (zy > 0)) && (decide (((nth zq zy).fNode) ≠ ((nth zq 0).fNode)))) && (decide (((nth zq zy).fNode) < ((zC.fModules.length : Nat) : Int)))))))] (y1i 45 [32,31,30,29,28,27,26,25,24,23,22,21,20,19,18,17,16,15,14,13,12,11,10,9,8,7,6,5,4,3,2,1,0]) ?_ (fun zjT=>?_)
        rotate_left
        · rcases Bool.eq_false_or_eq_true ((decide ((yr z1h ((nth zq zy).fNode) 0) = 0)) || (decide ((yr z1h ((nth zq zy).fNext) 0) > 0))) with hb' | hb'
          · have zfY:=hb'; clear hb'
            refine WD.pin (i:=37) rfl zfY ?_
            refine WD.b (i:=13) (d:=38) (by kernel_rfl) rfl (z2 (by kernel_rfl)) (z3 (by kernel_rfl)) rfl rfl rfl ?_
            refine WD.b (i:=14) (d:=39) (by kernel_rfl) rfl (z2 (by kernel_rfl)) (z3 (by kernel_rfl)) rfl rfl rfl ?_
            refine WD.b (i:=15) (d:=40) (by kernel_rfl) rfl (z2 (by kernel_rfl)) (z3 (by kernel_rfl)) rfl rfl rfl ?_
            refine WD.b (i:=16) (d:=41) (by kernel_rfl) rfl (z2 (by kernel_rfl)) (z3 (by kernel_rfl)) rfl rfl rfl ?_
            refine WD.b (i:=17) (d:=42) (by kernel_rfl) rfl (z2 (by kernel_rfl)) (z3 (by kernel_rfl)) rfl rfl rfl ?_
            refine WD.b (i:=18) (d:=43) (by kernel_rfl) rfl (z2 (by kernel_rfl)) (z3 (by kernel_rfl)) rfl rfl rfl ?_
            refine WD.b (i:=19) (d:=44) (by kernel_rfl) rfl (z2 (by kernel_rfl)) (z3 (by kernel_rfl)) rfl rfl rfl ?_
            refine WD.b (i:=20) (d:=45) (by kernel_rfl) rfl (z2 (by kernel_rfl)) (z3 (by kernel_rfl)) rfl rfl rfl ?_
            refine WD.b (i:=21) (d:=46) (by kernel_rfl) rfl (z2 (by kernel_rfl)) (z3 (by kernel_rfl)) rfl rfl rfl ?_
            refine WD.b (i:=22) (d:=47) (by kernel_rfl) rfl (z2 (by kernel_rfl)) (z3 (by kernel_rfl)) rfl rfl rfl ?_
            refine WD.b (i:=23) (d:=48) (by kernel_rfl) rfl (z2 (by kernel_rfl)) (z3 (by kernel_rfl)) rfl rfl rfl ?_
            refine WD.b (i:=24) (d:=49) (by kernel_rfl) rfl (z2 (by kernel_rfl)) (z3 (by kernel_rfl)) rfl rfl rfl ?_
            refine WD.b (i:=25) (d:=50) (by kernel_rfl) rfl (z2 (by kernel_rfl)) (z3 (by kernel_rfl)) rfl rfl rfl ?_
            refine WD.b (i:=26) (d:=51) (by kernel_rfl) rfl (z2 (by kernel_rfl)) (z3 (by kernel_rfl)) rfl rfl rfl ?_
            refine WD.b (i:=27) (d:=52) (by kernel_rfl) rfl (z2 (by kernel_rfl)) (z3 (by kernel_rfl)) rfl rfl rfl ?_
            refine WD.b (i:=28) (d:=53) (by kernel_rfl) rfl (z2 (by kernel_rfl)) (z3 (by kernel_rfl)) rfl rfl rfl ?_
            refine WD.b (i:=29) (d:=54) (by kernel_rfl) rfl (z2 (by kernel_rfl)) (z3 (by kernel_rfl)) rfl rfl rfl ?_
            refine WD.b (i:=30) (d:=55) (by kernel_rfl) rfl (z2 (by kernel_rfl)) (z3 (by kernel_rfl)) rfl rfl rfl ?_
            refine WD.b (i:=31) (d:=56) (by kernel_rfl) rfl (z2 (by kernel_rfl)) (z3 (by kernel_rfl)) rfl rfl rfl ?_
            refine WD.a (i:=32) (d:=57) (by kernel_rfl) rfl (z2 (by kernel_rfl)) (z3 (by kernel_rfl)) rfl rfl rfl (fun _=>y1b rfl rfl) ?_
            refine WD.yE (.cons .here (.cons .here (.cons .here .nil))) ?_ zjT
            exact (.cons rfl (.cons rfl (.cons rfl (.cons rfl (.cons rfl (.cons rfl (.cons rfl (.cons rfl (.cons (zh (Eq.symm zfY)) (.cons (zh (y1X zfY)) .nil))))))))))
          · have ze1:=hb'; clear hb'
            have zoV:=zoU ze1
            refine WD.pin (i:=37) rfl ze1 ?_
            refine WD.a (i:=13) (d:=38) (by kernel_rfl) rfl (z2 (by kernel_rfl)) (z3 (by kernel_rfl)) rfl rfl rfl (fun _=>q_m rfl) ?_
            refine WD.a (i:=14) (d:=39) (by kernel_rfl) rfl (z2 (by kernel_rfl)) (z3 (by kernel_rfl)) rfl rfl rfl (fun _=>y3a rfl rfl) ?_
            refine WD.a (i:=15) (d:=40) (by kernel_rfl) rfl (z2 (by kernel_rfl)) (z3 (by kernel_rfl)) rfl rfl rfl (fun _=>q_m rfl) ?_
            refine WD.mid (fuel':=21) [(1,(.int .i64 z27)),(2,(.slice z28 zq.length z29)),(3,(.pointer (some ⟨z6J,0,none⟩))),(7,(.map (some z6K))),(9,(.pointer (some ⟨z8w,0,none⟩))),(11,(.slice z28 zq.length z29)),(12,(.int .i64 ((zq.length : Nat) : Int))),(13,(.int .i64 zy)),(37,(.bool false)),(40,(.bool (decide (zy > 0)))),(48,(.bool ((decide (zy > 0)) && (decide (((nth zq zy).fNode) ≠ ((nth zq 0).fNode))))))] (y1i 45 [23,22,21,20,19,18,17,16,15,14,13,12,11,10,9,8,7,6,5,4,3,2,1,0]) ?_ (fun zjU=>?_)
            rotate_left
            · rcases Bool.eq_false_or_eq_true (decide (zy > 0)) with hb' | hb'
              · have ze2:=hb'; clear hb'
                have zoW:=zoV ze2
                refine WD.pin (i:=40) rfl ze2 ?_
                refine WD.a (i:=16) (d:=41) (by kernel_rfl) rfl (z2 (by kernel_rfl)) (z3 (by kernel_rfl)) rfl rfl rfl (fun _=>ya y3f rfl rfl) ?_
                refine WD.e (i:=17) (d:=42) (by kernel_rfl) rfl (z2 (by kernel_rfl)) (z3 (by kernel_rfl)) rfl rfl rfl (yb ye rfl (yc .h2 rfl)) ?_
                refine WD.a (i:=18) (d:=43) (by kernel_rfl) rfl (z2 (by kernel_rfl)) (z3 (by kernel_rfl)) rfl rfl rfl (fun _=>q_m rfl) ?_
                refine WD.znth (j:=19) (dd:=44) (by kernel_rfl) rfl (z2 (by kernel_rfl)) (z3 (by kernel_rfl)) rfl rfl (Z:=Z) (Pr:=(fun r x=>r = e59 x)) y4N rfl rfl zjQ zoW ?_
                rintro zvp zvq zoX zvr rfl
                refine WD.a (i:=20) (d:=45) (by kernel_rfl) rfl (z2 (by kernel_rfl)) (z3 (by kernel_rfl)) rfl rfl rfl (fun _=>ya y3f rfl rfl) ?_
                refine WD.e (i:=21) (d:=46) (by kernel_rfl) rfl (z2 (by kernel_rfl)) (z3 (by kernel_rfl)) rfl rfl rfl (yb ye rfl (y1G hz.pv zoX rfl)) ?_
                refine WD.a (i:=22) (d:=47) (by kernel_rfl) rfl (z2 (by kernel_rfl)) (z3 (by kernel_rfl)) rfl rfl rfl (fun _=>q_neq rfl rfl) ?_
                refine WD.a (i:=23) (d:=48) (by kernel_rfl) rfl (z2 (by kernel_rfl)) (z3 (by kernel_rfl)) rfl rfl rfl (fun _=>y1b rfl rfl) ?_
                refine WD.yE (.cons .here (.cons .here (.cons .here .nil))) ?_ zjU
                exact (.cons rfl (.cons rfl (.cons rfl (.cons rfl (.cons rfl (.cons rfl (.cons rfl (.cons rfl (.cons rfl (.cons (zh (Eq.symm ze2)) (.cons (zh (y2o ze2)) .nil)))))))))))
              · have zfZ:=hb'; clear hb'
                refine WD.pin (i:=40) rfl zfZ ?_
                refine WD.b (i:=16) (d:=41) (by kernel_rfl) rfl (z2 (by kernel_rfl)) (z3 (by kernel_rfl)) rfl rfl rfl ?_
                refine WD.b (i:=17) (d:=42) (by kernel_rfl) rfl (z2 (by kernel_rfl)) (z3 (by kernel_rfl)) rfl rfl rfl ?_
                refine WD.b (i:=18) (d:=43) (by kernel_rfl) rfl (z2 (by kernel_rfl)) (z3 (by kernel_rfl)) rfl rfl rfl ?_
                refine WD.b (i:=19) (d:=44) (by kernel_rfl) rfl (z2 (by kernel_rfl)) (z3 (by kernel_rfl)) rfl rfl rfl ?_
                refine WD.b (i:=20) (d:=45) (by kernel_rfl) rfl (z2 (by kernel_rfl)) (z3 (by kernel_rfl)) rfl rfl rfl ?_
                refine WD.b (i:=21) (d:=46) (by kernel_rfl) rfl (z2 (by kernel_rfl)) (z3 (by kernel_rfl)) rfl rfl rfl ?_
                refine WD.b (i:=22) (d:=47) (by kernel_rfl) rfl (z2 (by kernel_rfl)) (z3 (by kernel_rfl)) rfl rfl rfl ?_
                refine WD.a (i:=23) (d:=48) (by kernel_rfl) rfl (z2 (by kernel_rfl)) (z3 (by kernel_rfl)) rfl rfl rfl (fun _=>y1c rfl rfl) ?_
                refine WD.yE (.cons .here (.cons .here (.cons .here .nil))) ?_ zjU
                exact (.cons rfl (.cons rfl (.cons rfl (.cons rfl (.cons rfl (.cons rfl (.cons rfl (.cons rfl (.cons rfl (.cons (zh (Eq.symm zfZ)) (.cons (zh (y2n zfZ)) .nil)))))))))))
            refine WD.d #[true,true,true,true,true,true,true,true,true,true,true,true,true,true,true,true,true,true,true,true,true,true,true,true,false,false,false,false,false,false,false,false,false,false,false,false,false,false,false,false,false,false,false,false,false] (by kernel_rfl) ?_
            refine WD.a (i:=24) (d:=49) (by kernel_rfl) rfl (z2 (by kernel_rfl)) (z3 (by kernel_rfl)) rfl rfl rfl (fun _=>q_m rfl) ?_
            refine WD.mid (fuel':=13) [(1,(.int .i64 z27)),(2,(.slice z28 zq.length z29)),(3,(.pointer (some ⟨z6J,0,none⟩))),(7,(.map (some z6K))),(9,(.pointer (some ⟨z8w,0,none⟩))),(11,(.slice z28 zq.length z29)),(12,(.int .i64 ((zq.length : Nat) : Int))),(13,(.int .i64 zy)),(37,(.bool false)),(49,(.bool ((decide (zy > 0)) && (decide (((nth zq zy).fNode) ≠ ((nth zq 0).fNode)))))),(56,(.bool (((decide (zy > 0)) && (decide (((nth zq zy).fNode) ≠ ((nth zq 0).fNode)))) && (decide (((nth zq zy).fNode) < ((zC.fModules.length : Nat) : Int))))))] (y1i 45 [31,30,29,28,27,26,25,24,23,22,21,20,19,18,17,16,15,14,13,12,11,10,9,8,7,6,5,4,3,2,1,0]) ?_ (fun zjV=>?_)
            rotate_left
            · rcases Bool.eq_false_or_eq_true ((decide (zy > 0)) && (decide (((nth zq zy).fNode) ≠ ((nth zq 0).fNode)))) with hb' | hb'
              · have zg0:=hb'; clear hb'
                refine WD.pin (i:=49) rfl zg0 ?_
                refine WD.a (i:=25) (d:=50) (by kernel_rfl) rfl (z2 (by kernel_rfl)) (z3 (by kernel_rfl)) rfl rfl rfl (fun _=>ya y3f rfl rfl) ?_
                refine WD.e (i:=26) (d:=51) (by kernel_rfl) rfl (z2 (by kernel_rfl)) (z3 (by kernel_rfl)) rfl rfl rfl (yb ye rfl (yc .h2 rfl)) ?_
                refine WD.a (i:=27) (d:=52) (by kernel_rfl) rfl (z2 (by kernel_rfl)) (z3 (by kernel_rfl)) rfl rfl rfl (fun _=>ya y3o rfl rfl) ?_
                refine WD.e (i:=28) (d:=53) (by kernel_rfl) rfl (z2 (by kernel_rfl)) (z3 (by kernel_rfl)) rfl rfl rfl (yb y3p rfl (yc .here rfl)) ?_
                refine WD.a (i:=29) (d:=54) (by kernel_rfl) rfl (z2 (by kernel_rfl)) (z3 (by kernel_rfl)) rfl rfl rfl (fun _=>yZ Try.underlying22 rfl) ?_
                refine WD.a (i:=30) (d:=55) (by kernel_rfl) rfl (z2 (by kernel_rfl)) (z3 (by kernel_rfl)) rfl rfl rfl (fun _=>y3h rfl rfl) ?_
                refine WD.a (i:=31) (d:=56) (by kernel_rfl) rfl (z2 (by kernel_rfl)) (z3 (by kernel_rfl)) rfl rfl rfl (fun _=>y1b rfl rfl) ?_
                refine WD.yE (.cons .here (.cons .here (.cons .here .nil))) ?_ zjV
                exact (.cons rfl (.cons rfl (.cons rfl (.cons rfl (.cons rfl (.cons rfl (.cons rfl (.cons rfl (.cons rfl (.cons (zh (Eq.symm zg0)) (.cons (zh (y2o zg0)) .nil)))))))))))
              · have zg1:=hb'; clear hb'
                refine WD.pin (i:=49) rfl zg1 ?_
                refine WD.b (i:=25) (d:=50) (by kernel_rfl) rfl (z2 (by kernel_rfl)) (z3 (by kernel_rfl)) rfl rfl rfl ?_
                refine WD.b (i:=26) (d:=51) (by kernel_rfl) rfl (z2 (by kernel_rfl)) (z3 (by kernel_rfl)) rfl rfl rfl ?_
                refine WD.b (i:=27) (d:=52) (by kernel_rfl) rfl (z2 (by kernel_rfl)) (z3 (by kernel_rfl)) rfl rfl rfl ?_
                refine WD.b (i:=28) (d:=53) (by kernel_rfl) rfl (z2 (by kernel_rfl)) (z3 (by kernel_rfl)) rfl rfl rfl ?_
                refine WD.b (i:=29) (d:=54) (by kernel_rfl) rfl (z2 (by kernel_rfl)) (z3 (by kernel_rfl)) rfl rfl rfl ?_
                refine WD.b (i:=30) (d:=55) (by kernel_rfl) rfl (z2 (by kernel_rfl)) (z3 (by kernel_rfl)) rfl rfl rfl ?_
                refine WD.a (i:=31) (d:=56) (by kernel_rfl) rfl (z2 (by kernel_rfl)) (z3 (by kernel_rfl)) rfl rfl rfl (fun _=>y1c rfl rfl) ?_
                refine WD.yE (.cons .here (.cons .here (.cons .here .nil))) ?_ zjV
                exact (.cons rfl (.cons rfl (.cons rfl (.cons rfl (.cons rfl (.cons rfl (.cons rfl (.cons rfl (.cons rfl (.cons (zh (Eq.symm zg1)) (.cons (zh (y2n zg1)) .nil)))))))))))
            refine WD.d #[true,true,true,true,true,true,true,true,true,true,true,true,true,true,true,true,true,true,true,true,true,true,true,true,true,true,true,true,true,true,true,true,false,false,false,false,false,false,false,false,false,false,false,false,false] (by kernel_rfl) ?_
            refine WD.a (i:=32) (d:=57) (by kernel_rfl) rfl (z2 (by kernel_rfl)) (z3 (by kernel_rfl)) rfl rfl rfl (fun _=>y1c rfl rfl) ?_
            refine WD.yE (.cons .here (.cons .here (.cons .here .nil))) ?_ zjT
            exact (.cons rfl (.cons rfl (.cons rfl (.cons rfl (.cons rfl (.cons rfl (.cons rfl (.cons rfl (.cons (zh (Eq.symm ze1)) (.cons (zh (y1Y ze1)) .nil))))))))))
        refine WD.d #[true,true,true,true,true,true,true,true,true,true,true,true,true,true,true,true,true,true,true,true,true,true,true,true,true,true,true,true,true,true,true,true,true,false,false,false,false,false,false,false,false,false,false,false,false] (by kernel_rfl) ?_
        refine WD.a (i:=33) (d:=58) (by kernel_rfl) rfl (z2 (by kernel_rfl)) (z3 (by kernel_rfl)) rfl rfl rfl (fun _=>q_m rfl) ?_
        refine WD.mid (fuel':=0) [(1,(.int .i64 z27)),(2,(.slice z28 zq.length z29)),(3,(.pointer (some ⟨z6J,0,none⟩))),(7,(.map (some z6K))),(9,(.pointer (some ⟨z8w,0,none⟩))),(11,(.slice z28 zq.length z29)),(12,(.int .i64 ((zq.length : Nat) : Int))),(13,(.int .i64 zy)),(58,(.bool (((decide ((yr z1h ((nth zq zy).fNode) 0) = 0)) || (decide ((yr z1h ((nth zq zy).fNext) 0) > 0))) || (((decide (zy > 0)) && (decide (((nth zq zy).fNode) ≠ ((nth zq 0).fNode)))) && (decide (((nth zq zy).fNode) < ((zC.fModules.length : Nat) : Int))))))),(69,(.bool zfT))] (y1i 45 [44,43,42,41,40,39,38,37,36,35,34,33,32,31,30,29,28,27,26,25,24,23,22,21,20,19,18,17,16,15,14,13,12,11,10,9,8,7,6,5,4,3,2,1,0]) ?_ (fun zjW=>?_)
        rotate_left
        · rcases Bool.eq_false_or_eq_true (((decide ((yr z1h ((nth zq zy).fNode) 0) = 0)) || (decide ((yr z1h ((nth zq zy).fNext) 0) > 0))) || (((decide (zy > 0)) && (decide (((nth zq zy).fNode) ≠ ((nth zq 0).fNode)))) && (decide (((nth zq zy).fNode) < ((zC.fModules.length : Nat) : Int))))) with hb' | hb'
          · have zg2:=hb'; clear hb'
            have zg3:=ym zjR zg2
            replace zg3:=Option.some.inj zg3
            refine WD.pin (i:=58) rfl zg2 ?_
            refine WD.b (i:=34) (d:=59) (by kernel_rfl) rfl (z2 (by kernel_rfl)) (z3 (by kernel_rfl)) rfl rfl rfl ?_
            refine WD.b (i:=35) (d:=60) (by kernel_rfl) rfl (z2 (by kernel_rfl)) (z3 (by kernel_rfl)) rfl rfl rfl ?_
            refine WD.b (i:=36) (d:=61) (by kernel_rfl) rfl (z2 (by kernel_rfl)) (z3 (by kernel_rfl)) rfl rfl rfl ?_
            refine WD.b (i:=37) (d:=62) (by kernel_rfl) rfl (z2 (by kernel_rfl)) (z3 (by kernel_rfl)) rfl rfl rfl ?_
            refine WD.b (i:=38) (d:=63) (by kernel_rfl) rfl (z2 (by kernel_rfl)) (z3 (by kernel_rfl)) rfl rfl rfl ?_
            refine WD.b (i:=39) (d:=64) (by kernel_rfl) rfl (z2 (by kernel_rfl)) (z3 (by kernel_rfl)) rfl rfl rfl ?_
            refine WD.b (i:=40) (d:=65) (by kernel_rfl) rfl (z2 (by kernel_rfl)) (z3 (by kernel_rfl)) rfl rfl rfl ?_
            refine WD.b (i:=41) (d:=66) (by kernel_rfl) rfl (z2 (by kernel_rfl)) (z3 (by kernel_rfl)) rfl rfl rfl ?_
            refine WD.b (i:=42) (d:=67) (by kernel_rfl) rfl (z2 (by kernel_rfl)) (z3 (by kernel_rfl)) rfl rfl rfl ?_
            refine WD.b (i:=43) (d:=68) (by kernel_rfl) rfl (z2 (by kernel_rfl)) (z3 (by kernel_rfl)) rfl rfl rfl ?_
            refine WD.a (i:=44) (d:=69) (by kernel_rfl) rfl (z2 (by kernel_rfl)) (z3 (by kernel_rfl)) rfl rfl rfl (fun _=>y1b rfl rfl) ?_
            refine WD.yE (.cons .here (.cons .here (.cons .here .nil))) ?_ zjW
            exact (.cons rfl (.cons rfl (.cons rfl (.cons rfl (.cons rfl (.cons rfl (.cons rfl (.cons rfl (.cons (zh (Eq.symm zg2)) (.cons (zh zg3) .nil))))))))))
          · have zg4:=hb'; clear hb'
            have zcD:=yn zjR zg4
            obtain ⟨zjP,zoY,zcD⟩:=zp zcD
            replace zcD:=Option.some.inj zcD
            refine WD.pin (i:=58) rfl zg4 ?_
            refine WD.e (i:=34) (d:=59) (by kernel_rfl) rfl (z2 (by kernel_rfl)) (z3 (by kernel_rfl)) rfl rfl rfl (yH y1J rfl (y1j .here) rfl) ?_
            refine WD.a (i:=35) (d:=60) (by kernel_rfl) rfl (z2 (by kernel_rfl)) (z3 (by kernel_rfl)) rfl rfl rfl (fun _=>q_m rfl) ?_
            refine WD.a (i:=36) (d:=61) (by kernel_rfl) rfl (z2 (by kernel_rfl)) (z3 (by kernel_rfl)) rfl rfl rfl (fun _=>ya y5H rfl rfl) ?_
            refine WD.e (i:=37) (d:=62) (by kernel_rfl) rfl (z2 (by kernel_rfl)) (z3 (by kernel_rfl)) rfl rfl rfl (yb ye rfl (yc .h2 rfl)) ?_
            refine WD.a (i:=38) (d:=63) (by kernel_rfl) rfl (z2 (by kernel_rfl)) (z3 (by kernel_rfl)) rfl rfl rfl (fun _=>ya y3f rfl rfl) ?_
            refine WD.e (i:=39) (d:=64) (by kernel_rfl) rfl (z2 (by kernel_rfl)) (z3 (by kernel_rfl)) rfl rfl rfl (yb ye rfl (yc .h2 rfl)) ?_
            refine WD.a (i:=40) (d:=65) (by kernel_rfl) rfl (z2 (by kernel_rfl)) (z3 (by kernel_rfl)) rfl rfl rfl (fun _=>ya y4z rfl rfl) ?_
            refine WD.e (i:=41) (d:=66) (by kernel_rfl) rfl (z2 (by kernel_rfl)) (z3 (by kernel_rfl)) rfl rfl rfl (yb ye rfl (yc .h2 rfl)) ?_
            refine WD.c (i:=42) (d:=67) (by kernel_rfl) rfl (z2 (by kernel_rfl)) (z3 (by kernel_rfl)) rfl rfl rfl (zF (l:=[.tmp 59,.tmp 60,.tmp 62,.tmp 64,.tmp 66]) Try.call48 (.cons rfl (.cons rfl (.cons rfl (.cons rfl (.cons rfl .nil)))))) (cc hz .nil fun w pz ho=>y7m _ _ _ _ _ _ _ _ _ _ _ _ _ _ _ _ _ _ _ _ _ _ _ zoY w pz zoI zoJ zoK zoL zoM zoN zoO zoP) ?_
            refine WD.a (i:=43) (d:=68) (by kernel_rfl) rfl (z2 (by kernel_rfl)) (z3 (by kernel_rfl)) rfl rfl rfl (fun _=>q_not rfl) ?_
            refine WD.a (i:=44) (d:=69) (by kernel_rfl) rfl (z2 (by kernel_rfl)) (z3 (by kernel_rfl)) rfl rfl rfl (fun _=>y1c rfl rfl) ?_
            refine WD.yE (.cons .here (.cons .here (.cons .here .nil))) ?_ zjW
            exact (.cons rfl (.cons rfl (.cons rfl (.cons rfl (.cons rfl (.cons rfl (.cons rfl (.cons rfl (.cons (zh (Eq.symm zg4)) (.cons (zh zcD) .nil))))))))))
        refine WD.d #[true,true,true,true,true,true,true,true,true,true,true,true,true,true,true,true,true,true,true,true,true,true,true,true,true,true,true,true,true,true,true,true,true,true,true,true,true,true,true,true,true,true,true,true,true] (by kernel_rfl) ?_
        refine WD.done (by kernel_rfl) ?_
        refine WX.a ?_
        refine WC.cond rfl (fun zg5=>?_) (fun zg5=>?_)
        · replace h:=ym h zg5
          refine WC.b (WC.a (WL.pu rfl (WL.nil (WX.a (WC.ret (WX.yg (WX.yC (WX.yg (WX.yg (WX.yC (WX.yg ?_)))))))))))
          obtain rfl:=Option.some.inj h
          refine WX.yi Try.results36 (.tmp rfl .nil) (fun w hw=>?_)
          exact ⟨y10 rfl,hw.sub .nil⟩
        · replace h:=yn h zg5
          refine WC.skip (WX.a (WC.a (WL.pu rfl ?_)))
          refine WL.a (d:=71) rfl rfl rfl (ya y4z rfl rfl) ?_
          refine WL.a (d:=72) rfl rfl rfl (yb ye rfl (yc .h2 rfl)) ?_
          refine WL.a (d:=73) rfl rfl rfl (y4w (k:=((nth zq zy).fNext)) (dflt:=(0 : Int)) y5G Try.underlying125 y6I rfl rfl rfl .h1) ?_
          refine WL.pu rfl ?_
          refine WL.y1l rfl rfl (y4H (k:=((nth zq zy).fNext)) (v:=i64 ((yr z1h ((nth zq zy).fNext) 0) + 1)) y5G Try.underlying125 rfl rfl rfl rfl .h1) ?_
          refine WL.nil (WX.yh (WX.a (WC.a (WL.pu rfl (WL.pu rfl (WL.nil ?_))))))
          exact WX.round (G:=Nat × Int × (List (Int × Int))) ⟨zfS,(i64 (zy + 1)),(yU z1h ((nth zq zy).fNext) (i64 ((yr z1h ((nth zq zy).fNext) 0) + 1)))⟩ h (Nat.lt_succ_self _) (.cons rfl (.cons rfl (.cons rfl (.cons rfl (.cons rfl (.cons rfl (.cons rfl .nil))))))) (.cons .h1 (.cons .here .nil))
    · replace h:=yn h zfU
      refine WC.exit (WX.yf (WX.yf (WX.yB ?_)))
      exact WX.mid (G:=Unit) () h (.cons rfl .nil) .nil
  · rintro  h
    replace h:=zoQ.symm.trans h
    refine WC.b (WC.a (WL.pu rfl ?_))
    refine WL.a (d:=77) rfl rfl rfl (yZ Try.underlying55 rfl) ?_
    refine WL.pu rfl (WL.pu rfl (WL.nil (WX.a (WC.ret ?_))))
    obtain rfl:=Option.some.inj h
    refine WX.yi Try.results36 (.tmp rfl .nil) (fun w hw=>?_)
    exact ⟨y10 rfl,hw.sub .nil⟩
def y11 (z8x : List Sapi_Hop) (z2a : Sapi_Config) (ze3 : Int) : Option Bool :=
  (y3j z2a ze3 z8x).bind fun zjX=>some (!zjX)
set_option maxRecDepth 20000 in
theorem y6Q (Z : Zp) (ze4 : Option Addr) (ze5 : Nat) (ze6 : Addr) (zjY : Option Addr) (zjZ : Nat) (zk0 : Option Addr) (zk1 : Nat) (zk2 : Option Addr) (zk3 : Nat) (zk4 : Option Addr) (zk5 : Nat) (zk6 : Option Addr) (zk7 : Nat) (zk8 : Option Addr) (zk9 : Nat) (zka : Option Addr) (zkb : Nat) (zkc : Option Addr) (zkd : Nat) (ze7 : Addr) (z8x : List Sapi_Hop) (z2a : Sapi_Config) (ze3 : Int) (r : Bool)
     (h : y11 z8x z2a ze3 = some r) (w₀ : World) (hz : PZ [] w₀ Z)
     (zoZ : ZS Z 3 (fun r x=>r = e59 x) ze4 ze5 z8x)
     (zp0 : ZS Z 4 (y2x Z) zjY zjZ z2a.fModules)
     (zp1 : ZS Z 4 (y2O Z) zk0 zk1 z2a.fChannels)
     (zp2 : ZS Z 4 (fun r x=>r = e64 x) zk2 zk3 z2a.fSwitches)
     (zp3 : ZS Z 4 (fun r x=>r = e62 x) zk4 zk5 z2a.fLinks)
     (zp4 : ZS Z 7 (y2F Z) zk6 zk7 z2a.fVLs)
     (zp5 : ZS Z 5 (fun r x=>r = y34 x) zk8 zk9 z2a.fHealth)
     (zp6 : ZS Z 3 (y2P Z) zka zkb z2a.fCauses)
     (zp7 : ZS Z 4 (fun r x=>r = y35 x) zkc zkd z2a.fVersions)
     (zp8 : ZC Z ze6 [(.slice zjY z2a.fModules.length zjZ),(.slice zk0 z2a.fChannels.length zk1),(.slice zk2 z2a.fSwitches.length zk3),(.slice zk4 z2a.fLinks.length zk5),(.slice zk6 z2a.fVLs.length zk7),(.slice zk8 z2a.fHealth.length zk9),(.slice zka z2a.fCauses.length zkb),(.slice zkc z2a.fVersions.length zkd)])
     (zp9 : ZC Z ze7 [(.int .i64 ze3)]) :
    Calls Try.prog 35 #[(.slice ze4 z8x.length ze5),(.pointer (some ze6)),(.pointer (some ze7))] w₀ fun e w'=>e = .returned (.bool r) ∧ Hp [] w₀ w' []:=by
  unfold y11 at h
  refine Calls.yl (vs:=[(.slice ze4 z8x.length ze5),(.pointer (some ze6)),(.pointer (some ze7))]) (pre:=[]) (env:=[(0,(.slice ze4 z8x.length ze5)),(1,(.pointer (some ze6))),(2,(.pointer (some ze7)))]) Try.func35 rfl Try.ntmps35 rfl (Hp.nil w₀ _) rfl ?_
  refine WC.b (WC.a (WL.pu rfl (WL.nil (WX.a (WC.b ?_)))))
  obtain ⟨zjX,zpa,h⟩:=zp h
  refine WC.a ?_
  refine WL.a (d:=5) rfl rfl rfl (yH y1J rfl (y3F hz.pv zp8) rfl) ?_
  refine WL.a (d:=6) rfl rfl rfl (yb ye rfl (rd_z hz.pv zp9 rfl)) ?_
  refine WL.pu rfl ?_
  refine WL.b (dd:=8) rfl rfl rfl (zF (l:=[.tmp 5,.tmp 6,.tmp 7]) Try.call36 (.cons rfl (.cons rfl (.cons rfl .nil)))) .nil (cc hz .nil fun w pz ho=>y7n _ _ _ _ _ _ _ _ _ _ _ _ _ _ _ _ _ _ _ _ _ _ _ zpa w pz zp0 zp1 zp2 zp3 zp4 zp5 zp6 zp7 zoZ) ?_
  refine WL.pu rfl (WL.pu rfl (WL.nil (WX.a (WC.ret ?_))))
  obtain rfl:=Option.some.inj h
  refine WX.yi Try.results35 (.tmp rfl .nil) (fun w hw=>?_)
  exact ⟨y10 rfl,hw.sub .nil⟩
def yu (z2m : List (List Sapi_Hop)) (z4L : (List Sapi_Hop) → Option Bool) (z6L : Option Int) : Nat → Int → Option Int
  | 0,_=>none
  | zg6 + 1,z2y=>if decide (z2y < ((z2m.length : Nat) : Int)) then chk ((0 : Int) ≤ z2y ∧ z2y < ((z2m.length : Nat) : Int)) ((z4L (nth z2m z2y)).bind fun zg7=>if zg7 then some z2y else yu z2m z4L z6L zg6 (i64 (z2y + 1))) else z6L
theorem y3b {n : Nat} {z2m : List (List Sapi_Hop)} {z4L : (List Sapi_Hop) → Option Bool} {z6L : Option Int} {z2y : Int} {r : Int} (h : yu z2m z4L z6L n z2y = some r) : ∃ m,n = m + 1:=by
  cases n with
  | zero=>cases h
  | succ m=>exact ⟨m,rfl⟩
def y1q (z2m : List (List Sapi_Hop)) (z4L : (List Sapi_Hop) → Option Bool) : Option Int :=
  jp0 (some (-1)) fun z6L=>yu z2m z4L z6L yA 0
set_option maxRecDepth 20000 in
theorem y3S (Z : Zp) (zcE : Option Addr) (zcF : Nat) (z6M : FuncId) (z8y : List Value) (z2m : List (List Sapi_Hop)) (z4L : (List Sapi_Hop) → Option Bool) (r : Int)
     (h : y1q z2m z4L = some r) (w₀ : World) (hz : PZ [] w₀ Z)
     (zpb : ZS Z 1 (p55 Z) zcE zcF z2m)
     (zpc : ∀ args w,(callFunc z6M args).run Try.prog w = .ok (.enter z6M args) w)
     (zpd : ∀ w : World,PZ [] w Z → ∀ (x0 : List Sapi_Hop) (ao0 : Option Addr) (cap0 : Nat) (r : Bool),ZS Z 3 (fun r x=>r = e59 x) ao0 cap0 x0 → z4L x0 = some r → Calls Try.prog z6M (([(.slice ao0 x0.length cap0)] : List Value) ++ z8y).toArray w fun e w'=>e = .returned (.bool r) ∧ Hp [] w w' []) :
    Calls Try.prog 47 #[(.slice zcE z2m.length zcF),(.func (.func z6M) #[] (z8y).toArray)] w₀ fun e w'=>e = .returned (.int .i64 r) ∧ Hp [] w₀ w' []:=by
  unfold y1q at h
  refine Calls.yl (vs:=[(.slice zcE z2m.length zcF),(.func (.func z6M) #[] (z8y).toArray)]) (pre:=[]) (env:=[(0,(.slice zcE z2m.length zcF)),(1,(.func (.func z6M) #[] (z8y).toArray))]) Try.func47 rfl Try.ntmps47 rfl (Hp.nil w₀ _) rfl ?_
  refine WC.b (WC.a (WL.pu rfl (WL.nil (WX.a ?_))))
  obtain ⟨z6L,zpe,h⟩:=y2r h
  refine WC.y2d ((z6L = some r)) ([]) ([]) ?_ ?_
  · skip
    refine WC.b (WC.a (WL.pu rfl ?_))
    refine WL.a (d:=7) rfl rfl rfl (yZ Try.underlying32 rfl) ?_
    refine WL.pu rfl (WL.nil (WX.a (WC.block ?_)))
    refine WC.y3Z (fun (z9W : Nat) (z2y : Int)=>(yu z2m z4L z6L z9W z2y = some r)) (fun (z9W : Nat) (z2y : Int)=>[(0,(.slice zcE z2m.length zcF)),(1,(.func (.func z6M) #[] (z8y).toArray)),(7,(.int .i64 ((z2m.length : Nat) : Int))),(8,(.int .i64 z2y))]) (fun (z9W : Nat) (z2y : Int)=>[]) (fun (z9W : Nat) (z2y : Int)=>z9W) ⟨yA,0⟩ h (.cons rfl (.cons rfl (.cons rfl (.cons rfl .nil)))) .nil ?_
    rintro z9W z2y h
    obtain ⟨zg6,rfl⟩:=y3b h
    rw [yu] at h
    refine WC.b (WC.a (WL.pu rfl (WL.nil (WX.a (WC.b ?_)))))
    refine WC.cond rfl (fun zg8=>?_) (fun zg8=>?_)
    · replace h:=ym h zg8
      refine WC.skip (WX.a (WC.b (WC.block (WC.b (WC.a (WL.pu rfl (WL.pu rfl (WL.nil (WX.a (WC.b ?_))))))))))
      obtain ⟨zpf,h⟩:=yj h
      obtain ⟨zg7,zpg,h⟩:=zp h
      refine WC.a (WL.pu rfl (WL.pu rfl (WL.pu rfl ?_)))
      refine WL.znth (dd:=14) rfl rfl (Z:=Z) (Pr:=(p55 Z)) y5E rfl rfl zpb zpf ?_
      rintro zvs zvt zph zvu ⟨zpi,zpj,rfl,zpk⟩
      refine WL.a (d:=15) rfl rfl rfl (yb y5F rfl (rd_z hz.pv zph rfl)) ?_
      refine WL.b (dd:=16) rfl rfl rfl (y3D (l:=[.tmp 15]) (f:=z6M) (caps:=z8y) zpc rfl (.cons rfl .nil)) .nil (fun w hw=>zpd w (hz.now hw) (nth z2m z2y) zpi zpj zg7 zpk zpg) ?_
      refine WL.nil (WX.a ?_)
      refine WC.cond rfl (fun zg9=>?_) (fun zg9=>?_)
      · replace h:=ym h zg9
        refine WC.b (WC.a (WL.pu rfl (WL.pu rfl (WL.nil (WX.a (WC.ret (WX.yC (WX.yg (WX.yg (WX.yC (WX.yg ?_)))))))))))
        obtain rfl:=Option.some.inj h
        refine WX.yi Try.results47 (.tmp rfl .nil) (fun w hw=>?_)
        exact ⟨y10 rfl,hw.sub .nil⟩
      · replace h:=yn h zg9
        refine WC.skip (WX.yh (WX.a (WC.a (WL.pu rfl (WL.pu rfl (WL.nil ?_))))))
        exact WX.round (G:=Nat × Int) ⟨zg6,(i64 (z2y + 1))⟩ h (Nat.lt_succ_self _) (.cons rfl (.cons rfl (.cons rfl (.cons rfl .nil)))) .nil
    · replace h:=yn h zg8
      refine WC.exit (WX.yf (WX.yf (WX.yB ?_)))
      exact WX.mid (G:=Unit) () h .nil .nil
  · rintro  h
    replace h:=zpe.symm.trans h
    refine WC.b (WC.a (WL.pu rfl (WL.nil (WX.a (WC.ret ?_)))))
    obtain rfl:=Option.some.inj h
    refine WX.yi Try.results47 (.tmp rfl .nil) (fun w hw=>?_)
    exact ⟨y10 rfl,hw.sub .nil⟩
def y1g (z8z : List (List Sapi_Hop)) (z9X : (List Sapi_Hop) → Option Bool) : Option Bool :=
  (y1q z8z z9X).bind fun zke=>some (decide (zke ≥ 0))
set_option maxRecDepth 20000 in
theorem y3w (Z : Zp) (ze8 : Option Addr) (ze9 : Nat) (z7J : FuncId) (z9Y : List Value) (z8z : List (List Sapi_Hop)) (z9X : (List Sapi_Hop) → Option Bool) (r : Bool)
     (h : y1g z8z z9X = some r) (w₀ : World) (hz : PZ [] w₀ Z)
     (zpl : ZS Z 1 (p55 Z) ze8 ze9 z8z)
     (zpm : ∀ args w,(callFunc z7J args).run Try.prog w = .ok (.enter z7J args) w)
     (zpn : ∀ w : World,PZ [] w Z → ∀ (x0 : List Sapi_Hop) (ao0 : Option Addr) (cap0 : Nat) (r : Bool),ZS Z 3 (fun r x=>r = e59 x) ao0 cap0 x0 → z9X x0 = some r → Calls Try.prog z7J (([(.slice ao0 x0.length cap0)] : List Value) ++ z9Y).toArray w fun e w'=>e = .returned (.bool r) ∧ Hp [] w w' []) :
    Calls Try.prog 34 #[(.slice ze8 z8z.length ze9),(.func (.func z7J) #[] (z9Y).toArray)] w₀ fun e w'=>e = .returned (.bool r) ∧ Hp [] w₀ w' []:=by
  unfold y1g at h
  refine Calls.yl (vs:=[(.slice ze8 z8z.length ze9),(.func (.func z7J) #[] (z9Y).toArray)]) (pre:=[]) (env:=[(0,(.slice ze8 z8z.length ze9)),(1,(.func (.func z7J) #[] (z9Y).toArray))]) Try.func34 rfl Try.ntmps34 rfl (Hp.nil w₀ _) rfl ?_
  refine WC.b (WC.a (WL.pu rfl (WL.nil (WX.a (WC.b ?_)))))
  obtain ⟨zke,zpo,h⟩:=zp h
  refine WC.a (WL.pu rfl (WL.pu rfl ?_))
  refine WL.b (dd:=7) rfl rfl rfl (zF (l:=[.tmp 5,.tmp 6]) Try.call47 (.cons rfl (.cons rfl .nil))) .nil (cc hz .nil fun w pz ho=>y3S _ _ _ (z6M:=z7J) (z8y:=z9Y) _ (z4L:=z9X) _ zpo w pz zpl zpm zpn) ?_
  refine WL.pu rfl (WL.pu rfl (WL.nil (WX.a (WC.ret ?_))))
  obtain rfl:=Option.some.inj h
  refine WX.yi Try.results34 (.tmp rfl .nil) (fun w hw=>?_)
  exact ⟨y10 rfl,hw.sub .nil⟩
def y2I (zS : Sapi_Config) (z2O : Int) (z48 : List (List Sapi_Hop)) : Option Bool :=
  (if (((decide (z2O = 0)) || (decide (z2O = 1))) && (decide (((z48.length : Nat) : Int) = ((zS.fVLs.length : Nat) : Int)))) && (decide (((z48.length : Nat) : Int) ≤ 16)) then (y1g z48 (fun (y0 : List Sapi_Hop)=>y11 y0 zS z2O)).bind fun zkf=>some (!zkf) else some false).bind fun zga=>some zga
set_option maxRecDepth 20000 in
theorem y5m (Z : Zp) (zcG : Option Addr) (zcH : Nat) (zcI : Option Addr) (zcJ : Nat) (zcK : Option Addr) (zcL : Nat) (zcM : Option Addr) (zcN : Nat) (zcO : Option Addr) (zcP : Nat) (zcQ : Option Addr) (zcR : Nat) (zcS : Option Addr) (zcT : Nat) (zcU : Option Addr) (zcV : Nat) (zea : Option Addr) (zeb : Nat) (zS : Sapi_Config) (z2O : Int) (z48 : List (List Sapi_Hop)) (r : Bool)
     (h : y2I zS z2O z48 = some r) (w₀ : World) (hz : PZ [] w₀ Z)
     (zpp : ZS Z 4 (y2x Z) zcG zcH zS.fModules)
     (zpq : ZS Z 4 (y2O Z) zcI zcJ zS.fChannels)
     (zpr : ZS Z 4 (fun r x=>r = e64 x) zcK zcL zS.fSwitches)
     (zps : ZS Z 4 (fun r x=>r = e62 x) zcM zcN zS.fLinks)
     (zpt : ZS Z 7 (y2F Z) zcO zcP zS.fVLs)
     (zpu : ZS Z 5 (fun r x=>r = y34 x) zcQ zcR zS.fHealth)
     (zpv : ZS Z 3 (y2P Z) zcS zcT zS.fCauses)
     (zpw : ZS Z 4 (fun r x=>r = y35 x) zcU zcV zS.fVersions)
     (zpx : ZS Z 1 (p55 Z) zea zeb z48) :
    Calls Try.prog 15 #[(.agg #[(.slice zcG zS.fModules.length zcH),(.slice zcI zS.fChannels.length zcJ),(.slice zcK zS.fSwitches.length zcL),(.slice zcM zS.fLinks.length zcN),(.slice zcO zS.fVLs.length zcP),(.slice zcQ zS.fHealth.length zcR),(.slice zcS zS.fCauses.length zcT),(.slice zcU zS.fVersions.length zcV)]),(.int .i64 z2O),(.slice zea z48.length zeb)] w₀ fun e w'=>e = .returned (.bool r) ∧ Hp [] w₀ w' []:=by
  unfold y2I at h
  refine Calls.yl (vs:=[(.agg #[(.slice zcG zS.fModules.length zcH),(.slice zcI zS.fChannels.length zcJ),(.slice zcK zS.fSwitches.length zcL),(.slice zcM zS.fLinks.length zcN),(.slice zcO zS.fVLs.length zcP),(.slice zcQ zS.fHealth.length zcR),(.slice zcS zS.fCauses.length zcT),(.slice zcU zS.fVersions.length zcV)]),(.int .i64 z2O),(.slice zea z48.length zeb)]) (pre:=[]) (env:=[(0,(.agg #[(.slice zcG zS.fModules.length zcH),(.slice zcI zS.fChannels.length zcJ),(.slice zcK zS.fSwitches.length zcL),(.slice zcM zS.fLinks.length zcN),(.slice zcO zS.fVLs.length zcP),(.slice zcQ zS.fHealth.length zcR),(.slice zcS zS.fCauses.length zcT),(.slice zcU zS.fVersions.length zcV)])),(1,(.int .i64 z2O)),(2,(.slice zea z48.length zeb))]) Try.func15 rfl Try.ntmps15 rfl (Hp.nil w₀ _) rfl ?_
  refine WC.b (WC.a ?_)
  refine WL.new (dd:=3) rfl rfl rfl (y2c (cs:=[(.slice zcG zS.fModules.length zcH),(.slice zcI zS.fChannels.length zcJ),(.slice zcK zS.fSwitches.length zcL),(.slice zcM zS.fLinks.length zcN),(.slice zcO zS.fVLs.length zcP),(.slice zcQ zS.fHealth.length zcR),(.slice zcS zS.fCauses.length zcT),(.slice zcU zS.fVersions.length zcV)]) rfl rfl) ?_
  intro zpy _
  refine WL.new (dd:=4) rfl rfl rfl (y2c (cs:=[(.int .i64 z2O)]) rfl rfl) ?_
  intro zpz _
  refine WL.pu rfl (WL.nil (WX.a (WC.b ?_)))
  obtain ⟨zga,zkg,h⟩:=zp h
  refine WC.a ?_
  refine WL.a (d:=7) rfl rfl rfl (yb ye rfl (yc .here rfl)) ?_
  refine WL.pu rfl (WL.pu rfl ?_)
  refine WL.seg false 2 9 (B:=(decide (z2O = 0)) || (decide (z2O = 1))) rfl rfl rfl rfl rfl rfl (fun h=>(y1X h).symm) (fun _ zpA=>?_) ?_
  · skip
    refine WL.a (d:=10) rfl rfl rfl (yb ye rfl (yc .here rfl)) ?_
    refine WL.pu rfl (WL.pu rfl ?_)
    exact WL.ys (y1Y zpA) rfl rfl .all
  refine WL.pu rfl ?_
  refine WL.seg true 6 13 (B:=((decide (z2O = 0)) || (decide (z2O = 1))) && (decide (((z48.length : Nat) : Int) = ((zS.fVLs.length : Nat) : Int)))) rfl rfl rfl rfl rfl rfl (fun h=>(y2n h).symm) (fun _ zpB=>?_) ?_
  · skip
    refine WL.pu rfl ?_
    refine WL.a (d:=15) rfl rfl rfl (yZ Try.underlying32 rfl) ?_
    refine WL.a (d:=16) rfl rfl rfl (ya y6F rfl rfl) ?_
    refine WL.a (d:=17) rfl rfl rfl (yb y6G rfl (yc .h1 rfl)) ?_
    refine WL.a (d:=18) rfl rfl rfl (yZ Try.underlying26 rfl) ?_
    refine WL.pu rfl (WL.pu rfl ?_)
    exact WL.ys (y2o zpB) rfl rfl .all
  refine WL.pu rfl ?_
  refine WL.seg true 3 21 (B:=(((decide (z2O = 0)) || (decide (z2O = 1))) && (decide (((z48.length : Nat) : Int) = ((zS.fVLs.length : Nat) : Int)))) && (decide (((z48.length : Nat) : Int) ≤ 16))) rfl rfl rfl rfl rfl rfl (fun h=>(y2n h).symm) (fun _ zpC=>?_) ?_
  · skip
    refine WL.pu rfl ?_
    refine WL.a (d:=23) rfl rfl rfl (yZ Try.underlying32 rfl) ?_
    refine WL.pu rfl (WL.pu rfl ?_)
    exact WL.ys (y2o zpC) rfl rfl .all
  refine WL.pu rfl ?_
  refine WL.seg true 4 26 (B:=zga) rfl rfl rfl rfl rfl rfl (fun h=>(Option.some.inj (yn zkg h)).symm) (fun _ zpD=>?_) ?_
  · skip
    have zcW:=ym zkg zpD
    obtain ⟨zkf,zpE,zcW⟩:=zp zcW
    replace zcW:=Option.some.inj zcW
    refine WL.pu rfl ?_
    refine WL.a (d:=28) rfl rfl rfl (y5U (Eos.caps (l:=[.tmp 3,.tmp 4]) (.cons rfl (.cons rfl .nil)))) ?_
    refine WL.b (dd:=29) rfl rfl rfl (zF (l:=[.tmp 27,.tmp 28]) Try.call34 (.cons rfl (.cons rfl .nil))) .nil (ccl hz .nil (.cons .h1 (.cons .here .nil)) fun w pz ho la=>y3w _ _ _ (z7J:=35) (z9Y:=[(.pointer (some ⟨zpy,0,none⟩)),(.pointer (some ⟨zpz,0,none⟩))]) _ (z9X:=(fun (y0 : List Sapi_Hop)=>y11 y0 zS z2O)) _ zpE w pz ((zpx.mono (Zle.left _ _)).weak (fun _ _ h=>y42 (Zle.left _ _) h)) Try.call35 (fun w' hz' y0 ga0 gc0 r gh0 hr=>y6Q _ _ _ _ _ _ _ _ _ _ _ _ _ _ _ _ _ _ _ _ _ _ _ _ _ hr w' hz' gh0 ((zpp.mono (Zle.left _ _)).weak (fun _ _ h=>y28 (Zle.left _ _) h)) ((zpq.mono (Zle.left _ _)).weak (fun _ _ h=>y2h (Zle.left _ _) h)) (zpr.mono (Zle.left _ _)) (zps.mono (Zle.left _ _)) ((zpt.mono (Zle.left _ _)).weak (fun _ _ h=>y29 (Zle.left _ _) h)) (zpu.mono (Zle.left _ _)) ((zpv.mono (Zle.left _ _)).weak (fun _ _ h=>y2i (Zle.left _ _) h)) (zpw.mono (Zle.left _ _)) ((la _ (.head _) _).stb) ((la _ (.tail _ (.head _)) _).stb))) ?_
    refine WL.pu rfl (WL.pu rfl ?_)
    exact WL.ys zcW rfl rfl .all
  refine WL.pu rfl (WL.nil (WX.a (WC.ret ?_)))
  obtain rfl:=Option.some.inj h
  refine WX.yi Try.results15 (.tmp rfl .nil) (fun w hw=>?_)
  exact ⟨y10 rfl,hw.sub .nil⟩
def y1V (zb : List zSt) (zD : Sapi_Config) (z6N : Option Bool) : Nat → Int → Option Bool
  | 0,_=>none
  | zgb + 1,ze=>if decide (ze < ((zb.length : Nat) : Int)) then chk ((0 : Int) ≤ ze ∧ ze < ((zb.length : Nat) : Int)) (chk (((((((decide (((nth zb ze).fTime) < 0)) || (decide (((nth zb ze).fTime) > 536870912))) || (decide (((nth zb ze).fVL) < 0))) || (decide (((nth zb ze).fVL) ≥ ((zD.fVLs.length : Nat) : Int)))) || (decide (((nth zb ze).fSize) < 1))) || (decide (((nth zb ze).fSize) > 72))) = false → ((decide (ze > 0)) = true → ((0 : Int) ≤ (i64 (ze - 1)) ∧ (i64 (ze - 1)) < ((zb.length : Nat) : Int)))) (if ((((((decide (((nth zb ze).fTime) < 0)) || (decide (((nth zb ze).fTime) > 536870912))) || (decide (((nth zb ze).fVL) < 0))) || (decide (((nth zb ze).fVL) ≥ ((zD.fVLs.length : Nat) : Int)))) || (decide (((nth zb ze).fSize) < 1))) || (decide (((nth zb ze).fSize) > 72))) || ((decide (ze > 0)) && (decide (((nth zb (i64 (ze - 1))).fTime) > ((nth zb ze).fTime)))) then some false else y1V zb zD z6N zgb (i64 (ze + 1)))) else z6N
theorem y5r {n : Nat} {zb : List zSt} {zD : Sapi_Config} {z6N : Option Bool} {ze : Int} {r : Bool} (h : y1V zb zD z6N n ze = some r) : ∃ m,n = m + 1:=by
  cases n with
  | zero=>cases h
  | succ m=>exact ⟨m,rfl⟩
def y3q (zD : Sapi_Config) (zb : List zSt) : Option Bool :=
  if decide (((zb.length : Nat) : Int) > 40) then some false else jp0 (some true) fun z6N=>y1V zb zD z6N yA 0
set_option maxRecDepth 20000 in
theorem y7H (Z : Zp) (z9Z : Option Addr) (za0 : Nat) (za1 : Option Addr) (za2 : Nat) (za3 : Option Addr) (za4 : Nat) (za5 : Option Addr) (za6 : Nat) (za7 : Option Addr) (za8 : Nat) (za9 : Option Addr) (zaa : Nat) (zab : Option Addr) (zac : Nat) (zad : Option Addr) (zae : Nat) (z1Z : Option Addr) (z20 : Nat) (zD : Sapi_Config) (zb : List zSt) (r : Bool)
     (h : y3q zD zb = some r) (w₀ : World) (hz : PZ [] w₀ Z)
     (zvv : ZS Z 4 (y2x Z) z9Z za0 zD.fModules)
     (zvw : ZS Z 4 (y2O Z) za1 za2 zD.fChannels)
     (zvx : ZS Z 4 (fun r x=>r = e64 x) za3 za4 zD.fSwitches)
     (zvy : ZS Z 4 (fun r x=>r = e62 x) za5 za6 zD.fLinks)
     (zvz : ZS Z 7 (y2F Z) za7 za8 zD.fVLs)
     (zvA : ZS Z 5 (fun r x=>r = y34 x) za9 zaa zD.fHealth)
     (zvB : ZS Z 3 (y2P Z) zab zac zD.fCauses)
     (zvC : ZS Z 4 (fun r x=>r = y35 x) zad zae zD.fVersions)
     (zkh : ZS Z 3 (fun r x=>r = e53 x) z1Z z20 zb) :
    Calls Try.prog 22 #[(.agg #[(.slice z9Z zD.fModules.length za0),(.slice za1 zD.fChannels.length za2),(.slice za3 zD.fSwitches.length za4),(.slice za5 zD.fLinks.length za6),(.slice za7 zD.fVLs.length za8),(.slice za9 zD.fHealth.length zaa),(.slice zab zD.fCauses.length zac),(.slice zad zD.fVersions.length zae)]),(.slice z1Z zb.length z20)] w₀ fun e w'=>e = .returned (.bool r) ∧ Hp [] w₀ w' []:=by
  unfold y3q at h
  refine Calls.yl (vs:=[(.agg #[(.slice z9Z zD.fModules.length za0),(.slice za1 zD.fChannels.length za2),(.slice za3 zD.fSwitches.length za4),(.slice za5 zD.fLinks.length za6),(.slice za7 zD.fVLs.length za8),(.slice za9 zD.fHealth.length zaa),(.slice zab zD.fCauses.length zac),(.slice zad zD.fVersions.length zae)]),(.slice z1Z zb.length z20)]) (pre:=[]) (env:=[(0,(.agg #[(.slice z9Z zD.fModules.length za0),(.slice za1 zD.fChannels.length za2),(.slice za3 zD.fSwitches.length za4),(.slice za5 zD.fLinks.length za6),(.slice za7 zD.fVLs.length za8),(.slice za9 zD.fHealth.length zaa),(.slice zab zD.fCauses.length zac),(.slice zad zD.fVersions.length zae)])),(1,(.slice z1Z zb.length z20))]) Try.func22 rfl Try.ntmps22 rfl (Hp.nil w₀ _) rfl ?_
  refine WC.b (WC.a ?_)
  refine WL.new (dd:=2) rfl rfl rfl (y2c (cs:=[(.slice z9Z zD.fModules.length za0),(.slice za1 zD.fChannels.length za2),(.slice za3 zD.fSwitches.length za4),(.slice za5 zD.fLinks.length za6),(.slice za7 zD.fVLs.length za8),(.slice za9 zD.fHealth.length zaa),(.slice zab zD.fCauses.length zac),(.slice zad zD.fVersions.length zae)]) rfl rfl) ?_
  intro z6O _
  refine WL.pu rfl (WL.nil (WX.a (WC.b (WC.b (WC.a (WL.pu rfl ?_))))))
  refine WL.a (d:=8) rfl rfl rfl (yZ Try.underlying33 rfl) ?_
  refine WL.pu rfl (WL.nil (WX.a ?_))
  refine WC.cond rfl (fun zgc=>?_) (fun zgc=>?_)
  · replace h:=ym h zgc
    refine WC.b (WC.a (WL.pu rfl (WL.nil (WX.a (WC.ret (WX.yg ?_))))))
    obtain rfl:=Option.some.inj h
    refine WX.yi Try.results22 (.tmp rfl .nil) (fun w hw=>?_)
    exact ⟨y10 rfl,hw.sub .nil⟩
  · replace h:=yn h zgc
    refine WC.skip (WX.a ?_)
    obtain ⟨z6N,zpF,h⟩:=y2r h
    refine WC.y2d ((z6N = some r)) ([]) ([]) ?_ ?_
    · skip
      refine WC.b (WC.a (WL.pu rfl ?_))
      refine WL.a (d:=11) rfl rfl rfl (yZ Try.underlying33 rfl) ?_
      refine WL.pu rfl (WL.nil (WX.a (WC.block ?_)))
      refine WC.y3Z (fun (zaf : Nat) (ze : Int)=>(y1V zb zD z6N zaf ze = some r)) (fun (zaf : Nat) (ze : Int)=>[(1,(.slice z1Z zb.length z20)),(2,(.pointer (some ⟨z6O,0,none⟩))),(10,(.slice z1Z zb.length z20)),(11,(.int .i64 ((zb.length : Nat) : Int))),(12,(.int .i64 ze))]) (fun (zaf : Nat) (ze : Int)=>[stb z6O 31 [(.slice z9Z zD.fModules.length za0),(.slice za1 zD.fChannels.length za2),(.slice za3 zD.fSwitches.length za4),(.slice za5 zD.fLinks.length za6),(.slice za7 zD.fVLs.length za8),(.slice za9 zD.fHealth.length zaa),(.slice zab zD.fCauses.length zac),(.slice zad zD.fVersions.length zae)]]) (fun (zaf : Nat) (ze : Int)=>zaf) ⟨yA,0⟩ h (.cons rfl (.cons rfl (.cons rfl (.cons rfl (.cons rfl .nil))))) (.cons .here .nil) ?_
      rintro zaf ze h
      obtain ⟨zgb,rfl⟩:=y5r h
      rw [y1V] at h
      refine WC.b (WC.a (WL.pu rfl (WL.nil (WX.a (WC.b ?_)))))
      refine WC.cond rfl (fun zgd=>?_) (fun zgd=>?_)
      · replace h:=ym h zgd
        refine WC.skip (WX.a (WC.b (WC.block (WC.b ?_))))
        obtain ⟨zpG,h⟩:=yj h
        refine WC.a (WL.pu rfl ?_)
        refine WL.znth (dd:=15) rfl rfl (Z:=Z) (Pr:=(fun r x=>r = e53 x)) y4o rfl rfl zkh zpG ?_
        rintro zvD zvE zpH zvF rfl
        refine WL.a (d:=16) rfl rfl rfl (yH y6L rfl (y3F hz.pv zpH) rfl) ?_
        refine WL.new (dd:=6) rfl rfl rfl (y23 (cs:=[(.int .i64 0),(.int .i64 0),(.int .i64 0)]) y61 rfl) ?_
        intro zcX _
        refine WL.pu rfl ?_
        refine WL.y1l rfl rfl (y1D y6M rfl rfl rfl .here rfl rfl rfl) ?_
        refine WL.nil (WX.a (WC.b ?_))
        obtain ⟨zpI,h⟩:=yj h
        refine WC.yV (fun i=>[].contains i) [] rfl ?_
        refine WD.a (i:=0) (d:=17) (by kernel_rfl) rfl (z2 (by kernel_rfl)) (z3 (by kernel_rfl)) rfl rfl rfl (fun _=>ya y3Q rfl rfl) ?_
        refine WD.e (i:=1) (d:=18) (by kernel_rfl) rfl (z2 (by kernel_rfl)) (z3 (by kernel_rfl)) rfl rfl rfl (yb ye rfl (yc .here rfl)) ?_
        refine WD.a (i:=2) (d:=19) (by kernel_rfl) rfl (z2 (by kernel_rfl)) (z3 (by kernel_rfl)) rfl rfl rfl (fun _=>y3h rfl rfl) ?_
        refine WD.a (i:=3) (d:=20) (by kernel_rfl) rfl (z2 (by kernel_rfl)) (z3 (by kernel_rfl)) rfl rfl rfl (fun _=>q_m rfl) ?_
        refine WD.mid (fuel':=38) [(1,(.slice z1Z zb.length z20)),(2,(.pointer (some ⟨z6O,0,none⟩))),(10,(.slice z1Z zb.length z20)),(11,(.int .i64 ((zb.length : Nat) : Int))),(12,(.int .i64 ze)),(6,(.pointer (some ⟨zcX,0,none⟩))),(5,(.int .i64 ze)),(20,(.bool (decide (((nth zb ze).fTime) < 0)))),(24,(.bool ((decide (((nth zb ze).fTime) < 0)) || (decide (((nth zb ze).fTime) > 536870912)))))] (y1i 46 [7,6,5,4,3,2,1,0]) ?_ (fun zki=>?_)
        rotate_left
        · rcases Bool.eq_false_or_eq_true (decide (((nth zb ze).fTime) < 0)) with hb' | hb'
          · have zge:=hb'; clear hb'
            refine WD.pin (i:=20) rfl zge ?_
            refine WD.b (i:=4) (d:=21) (by kernel_rfl) rfl (z2 (by kernel_rfl)) (z3 (by kernel_rfl)) rfl rfl rfl ?_
            refine WD.b (i:=5) (d:=22) (by kernel_rfl) rfl (z2 (by kernel_rfl)) (z3 (by kernel_rfl)) rfl rfl rfl ?_
            refine WD.b (i:=6) (d:=23) (by kernel_rfl) rfl (z2 (by kernel_rfl)) (z3 (by kernel_rfl)) rfl rfl rfl ?_
            refine WD.a (i:=7) (d:=24) (by kernel_rfl) rfl (z2 (by kernel_rfl)) (z3 (by kernel_rfl)) rfl rfl rfl (fun _=>y1b rfl rfl) ?_
            refine WD.yE (.cons .here (.cons .here .nil)) ?_ zki
            exact (.cons rfl (.cons rfl (.cons rfl (.cons rfl (.cons rfl (.cons rfl (.cons rfl (.cons (zh (Eq.symm zge)) (.cons (zh (y1X zge)) .nil)))))))))
          · have zgf:=hb'; clear hb'
            refine WD.pin (i:=20) rfl zgf ?_
            refine WD.a (i:=4) (d:=21) (by kernel_rfl) rfl (z2 (by kernel_rfl)) (z3 (by kernel_rfl)) rfl rfl rfl (fun _=>ya y3Q rfl rfl) ?_
            refine WD.e (i:=5) (d:=22) (by kernel_rfl) rfl (z2 (by kernel_rfl)) (z3 (by kernel_rfl)) rfl rfl rfl (yb ye rfl (yc .here rfl)) ?_
            refine WD.a (i:=6) (d:=23) (by kernel_rfl) rfl (z2 (by kernel_rfl)) (z3 (by kernel_rfl)) rfl rfl rfl (fun _=>y3a rfl rfl) ?_
            refine WD.a (i:=7) (d:=24) (by kernel_rfl) rfl (z2 (by kernel_rfl)) (z3 (by kernel_rfl)) rfl rfl rfl (fun _=>y1c rfl rfl) ?_
            refine WD.yE (.cons .here (.cons .here .nil)) ?_ zki
            exact (.cons rfl (.cons rfl (.cons rfl (.cons rfl (.cons rfl (.cons rfl (.cons rfl (.cons (zh (Eq.symm zgf)) (.cons (zh (y1Y zgf)) .nil)))))))))
        refine WD.d #[true,true,true,true,true,true,true,true,false,false,false,false,false,false,false,false,false,false,false,false,false,false,false,false,false,false,false,false,false,false,false,false,false,false,false,false,false,false,false,false,false,false,false,false,false,false] (by kernel_rfl) ?_
        refine WD.a (i:=8) (d:=25) (by kernel_rfl) rfl (z2 (by kernel_rfl)) (z3 (by kernel_rfl)) rfl rfl rfl (fun _=>q_m rfl) ?_
        refine WD.mid (fuel':=33) [(1,(.slice z1Z zb.length z20)),(2,(.pointer (some ⟨z6O,0,none⟩))),(10,(.slice z1Z zb.length z20)),(11,(.int .i64 ((zb.length : Nat) : Int))),(12,(.int .i64 ze)),(6,(.pointer (some ⟨zcX,0,none⟩))),(5,(.int .i64 ze)),(25,(.bool ((decide (((nth zb ze).fTime) < 0)) || (decide (((nth zb ze).fTime) > 536870912))))),(29,(.bool (((decide (((nth zb ze).fTime) < 0)) || (decide (((nth zb ze).fTime) > 536870912))) || (decide (((nth zb ze).fVL) < 0)))))] (y1i 46 [12,11,10,9,8,7,6,5,4,3,2,1,0]) ?_ (fun zkj=>?_)
        rotate_left
        · rcases Bool.eq_false_or_eq_true ((decide (((nth zb ze).fTime) < 0)) || (decide (((nth zb ze).fTime) > 536870912))) with hb' | hb'
          · have zgg:=hb'; clear hb'
            refine WD.pin (i:=25) rfl zgg ?_
            refine WD.b (i:=9) (d:=26) (by kernel_rfl) rfl (z2 (by kernel_rfl)) (z3 (by kernel_rfl)) rfl rfl rfl ?_
            refine WD.b (i:=10) (d:=27) (by kernel_rfl) rfl (z2 (by kernel_rfl)) (z3 (by kernel_rfl)) rfl rfl rfl ?_
            refine WD.b (i:=11) (d:=28) (by kernel_rfl) rfl (z2 (by kernel_rfl)) (z3 (by kernel_rfl)) rfl rfl rfl ?_
            refine WD.a (i:=12) (d:=29) (by kernel_rfl) rfl (z2 (by kernel_rfl)) (z3 (by kernel_rfl)) rfl rfl rfl (fun _=>y1b rfl rfl) ?_
            refine WD.yE (.cons .here (.cons .here .nil)) ?_ zkj
            exact (.cons rfl (.cons rfl (.cons rfl (.cons rfl (.cons rfl (.cons rfl (.cons rfl (.cons (zh (Eq.symm zgg)) (.cons (zh (y1X zgg)) .nil)))))))))
          · have zgh:=hb'; clear hb'
            refine WD.pin (i:=25) rfl zgh ?_
            refine WD.a (i:=9) (d:=26) (by kernel_rfl) rfl (z2 (by kernel_rfl)) (z3 (by kernel_rfl)) rfl rfl rfl (fun _=>ya y4g rfl rfl) ?_
            refine WD.e (i:=10) (d:=27) (by kernel_rfl) rfl (z2 (by kernel_rfl)) (z3 (by kernel_rfl)) rfl rfl rfl (yb ye rfl (yc .here rfl)) ?_
            refine WD.a (i:=11) (d:=28) (by kernel_rfl) rfl (z2 (by kernel_rfl)) (z3 (by kernel_rfl)) rfl rfl rfl (fun _=>y3h rfl rfl) ?_
            refine WD.a (i:=12) (d:=29) (by kernel_rfl) rfl (z2 (by kernel_rfl)) (z3 (by kernel_rfl)) rfl rfl rfl (fun _=>y1c rfl rfl) ?_
            refine WD.yE (.cons .here (.cons .here .nil)) ?_ zkj
            exact (.cons rfl (.cons rfl (.cons rfl (.cons rfl (.cons rfl (.cons rfl (.cons rfl (.cons (zh (Eq.symm zgh)) (.cons (zh (y1Y zgh)) .nil)))))))))
        refine WD.d #[true,true,true,true,true,true,true,true,true,true,true,true,true,false,false,false,false,false,false,false,false,false,false,false,false,false,false,false,false,false,false,false,false,false,false,false,false,false,false,false,false,false,false,false,false,false] (by kernel_rfl) ?_
        refine WD.a (i:=13) (d:=30) (by kernel_rfl) rfl (z2 (by kernel_rfl)) (z3 (by kernel_rfl)) rfl rfl rfl (fun _=>q_m rfl) ?_
        refine WD.mid (fuel':=25) [(1,(.slice z1Z zb.length z20)),(2,(.pointer (some ⟨z6O,0,none⟩))),(10,(.slice z1Z zb.length z20)),(11,(.int .i64 ((zb.length : Nat) : Int))),(12,(.int .i64 ze)),(6,(.pointer (some ⟨zcX,0,none⟩))),(5,(.int .i64 ze)),(30,(.bool (((decide (((nth zb ze).fTime) < 0)) || (decide (((nth zb ze).fTime) > 536870912))) || (decide (((nth zb ze).fVL) < 0))))),(37,(.bool ((((decide (((nth zb ze).fTime) < 0)) || (decide (((nth zb ze).fTime) > 536870912))) || (decide (((nth zb ze).fVL) < 0))) || (decide (((nth zb ze).fVL) ≥ ((zD.fVLs.length : Nat) : Int))))))] (y1i 46 [20,19,18,17,16,15,14,13,12,11,10,9,8,7,6,5,4,3,2,1,0]) ?_ (fun zkk=>?_)
        rotate_left
        · rcases Bool.eq_false_or_eq_true (((decide (((nth zb ze).fTime) < 0)) || (decide (((nth zb ze).fTime) > 536870912))) || (decide (((nth zb ze).fVL) < 0))) with hb' | hb'
          · have zgi:=hb'; clear hb'
            refine WD.pin (i:=30) rfl zgi ?_
            refine WD.b (i:=14) (d:=31) (by kernel_rfl) rfl (z2 (by kernel_rfl)) (z3 (by kernel_rfl)) rfl rfl rfl ?_
            refine WD.b (i:=15) (d:=32) (by kernel_rfl) rfl (z2 (by kernel_rfl)) (z3 (by kernel_rfl)) rfl rfl rfl ?_
            refine WD.b (i:=16) (d:=33) (by kernel_rfl) rfl (z2 (by kernel_rfl)) (z3 (by kernel_rfl)) rfl rfl rfl ?_
            refine WD.b (i:=17) (d:=34) (by kernel_rfl) rfl (z2 (by kernel_rfl)) (z3 (by kernel_rfl)) rfl rfl rfl ?_
            refine WD.b (i:=18) (d:=35) (by kernel_rfl) rfl (z2 (by kernel_rfl)) (z3 (by kernel_rfl)) rfl rfl rfl ?_
            refine WD.b (i:=19) (d:=36) (by kernel_rfl) rfl (z2 (by kernel_rfl)) (z3 (by kernel_rfl)) rfl rfl rfl ?_
            refine WD.a (i:=20) (d:=37) (by kernel_rfl) rfl (z2 (by kernel_rfl)) (z3 (by kernel_rfl)) rfl rfl rfl (fun _=>y1b rfl rfl) ?_
            refine WD.yE (.cons .here (.cons .here .nil)) ?_ zkk
            exact (.cons rfl (.cons rfl (.cons rfl (.cons rfl (.cons rfl (.cons rfl (.cons rfl (.cons (zh (Eq.symm zgi)) (.cons (zh (y1X zgi)) .nil)))))))))
          · have zgj:=hb'; clear hb'
            refine WD.pin (i:=30) rfl zgj ?_
            refine WD.a (i:=14) (d:=31) (by kernel_rfl) rfl (z2 (by kernel_rfl)) (z3 (by kernel_rfl)) rfl rfl rfl (fun _=>ya y4g rfl rfl) ?_
            refine WD.e (i:=15) (d:=32) (by kernel_rfl) rfl (z2 (by kernel_rfl)) (z3 (by kernel_rfl)) rfl rfl rfl (yb ye rfl (yc .here rfl)) ?_
            refine WD.a (i:=16) (d:=33) (by kernel_rfl) rfl (z2 (by kernel_rfl)) (z3 (by kernel_rfl)) rfl rfl rfl (fun _=>ya y6F rfl rfl) ?_
            refine WD.e (i:=17) (d:=34) (by kernel_rfl) rfl (z2 (by kernel_rfl)) (z3 (by kernel_rfl)) rfl rfl rfl (yb y6G rfl (yc .h1 rfl)) ?_
            refine WD.a (i:=18) (d:=35) (by kernel_rfl) rfl (z2 (by kernel_rfl)) (z3 (by kernel_rfl)) rfl rfl rfl (fun _=>yZ Try.underlying26 rfl) ?_
            refine WD.a (i:=19) (d:=36) (by kernel_rfl) rfl (z2 (by kernel_rfl)) (z3 (by kernel_rfl)) rfl rfl rfl (fun _=>q_geq rfl rfl) ?_
            refine WD.a (i:=20) (d:=37) (by kernel_rfl) rfl (z2 (by kernel_rfl)) (z3 (by kernel_rfl)) rfl rfl rfl (fun _=>y1c rfl rfl) ?_
            refine WD.yE (.cons .here (.cons .here .nil)) ?_ zkk
            exact (.cons rfl (.cons rfl (.cons rfl (.cons rfl (.cons rfl (.cons rfl (.cons rfl (.cons (zh (Eq.symm zgj)) (.cons (zh (y1Y zgj)) .nil)))))))))
        refine WD.d #[true,true,true,true,true,true,true,true,true,true,true,true,true,true,true,true,true,true,true,true,true,false,false,false,false,false,false,false,false,false,false,false,false,false,false,false,false,false,false,false,false,false,false,false,false,false] (by kernel_rfl) ?_
        refine WD.a (i:=21) (d:=38) (by kernel_rfl) rfl (z2 (by kernel_rfl)) (z3 (by kernel_rfl)) rfl rfl rfl (fun _=>q_m rfl) ?_
        refine WD.mid (fuel':=20) [(1,(.slice z1Z zb.length z20)),(2,(.pointer (some ⟨z6O,0,none⟩))),(10,(.slice z1Z zb.length z20)),(11,(.int .i64 ((zb.length : Nat) : Int))),(12,(.int .i64 ze)),(6,(.pointer (some ⟨zcX,0,none⟩))),(5,(.int .i64 ze)),(38,(.bool ((((decide (((nth zb ze).fTime) < 0)) || (decide (((nth zb ze).fTime) > 536870912))) || (decide (((nth zb ze).fVL) < 0))) || (decide (((nth zb ze).fVL) ≥ ((zD.fVLs.length : Nat) : Int)))))),(42,(.bool (((((decide (((nth zb ze).fTime) < 0)) || (decide (((nth zb ze).fTime) > 536870912))) || (decide (((nth zb ze).fVL) < 0))) || (decide (((nth zb ze).fVL) ≥ ((zD.fVLs.length : Nat) : Int)))) || (decide (((nth zb ze).fSize) < 1)))))] (y1i 46 [25,24,23,22,21,20,19,18,17,16,15,14,13,12,11,10,9,8,7,6,5,4,3,2,1,0]) ?_ (fun zkl=>?_)
        rotate_left
        · rcases Bool.eq_false_or_eq_true ((((decide (((nth zb ze).fTime) < 0)) || (decide (((nth zb ze).fTime) > 536870912))) || (decide (((nth zb ze).fVL) < 0))) || (decide (((nth zb ze).fVL) ≥ ((zD.fVLs.length : Nat) : Int)))) with hb' | hb'
          · have zgk:=hb'; clear hb'
            refine WD.pin (i:=38) rfl zgk ?_
            refine WD.b (i:=22) (d:=39) (by kernel_rfl) rfl (z2 (by kernel_rfl)) (z3 (by kernel_rfl)) rfl rfl rfl ?_
            refine WD.b (i:=23) (d:=40) (by kernel_rfl) rfl (z2 (by kernel_rfl)) (z3 (by kernel_rfl)) rfl rfl rfl ?_
            refine WD.b (i:=24) (d:=41) (by kernel_rfl) rfl (z2 (by kernel_rfl)) (z3 (by kernel_rfl)) rfl rfl rfl ?_
            refine WD.a (i:=25) (d:=42) (by kernel_rfl) rfl (z2 (by kernel_rfl)) (z3 (by kernel_rfl)) rfl rfl rfl (fun _=>y1b rfl rfl) ?_
            refine WD.yE (.cons .here (.cons .here .nil)) ?_ zkl
            exact (.cons rfl (.cons rfl (.cons rfl (.cons rfl (.cons rfl (.cons rfl (.cons rfl (.cons (zh (Eq.symm zgk)) (.cons (zh (y1X zgk)) .nil)))))))))
          · have zgl:=hb'; clear hb'
            refine WD.pin (i:=38) rfl zgl ?_
            refine WD.a (i:=22) (d:=39) (by kernel_rfl) rfl (z2 (by kernel_rfl)) (z3 (by kernel_rfl)) rfl rfl rfl (fun _=>ya y4W rfl rfl) ?_
            refine WD.e (i:=23) (d:=40) (by kernel_rfl) rfl (z2 (by kernel_rfl)) (z3 (by kernel_rfl)) rfl rfl rfl (yb ye rfl (yc .here rfl)) ?_
            refine WD.a (i:=24) (d:=41) (by kernel_rfl) rfl (z2 (by kernel_rfl)) (z3 (by kernel_rfl)) rfl rfl rfl (fun _=>y3h rfl rfl) ?_
            refine WD.a (i:=25) (d:=42) (by kernel_rfl) rfl (z2 (by kernel_rfl)) (z3 (by kernel_rfl)) rfl rfl rfl (fun _=>y1c rfl rfl) ?_
            refine WD.yE (.cons .here (.cons .here .nil)) ?_ zkl
            exact (.cons rfl (.cons rfl (.cons rfl (.cons rfl (.cons rfl (.cons rfl (.cons rfl (.cons (zh (Eq.symm zgl)) (.cons (zh (y1Y zgl)) .nil)))))))))
        refine WD.d #[true,true,true,true,true,true,true,true,true,true,true,true,true,true,true,true,true,true,true,true,true,true,true,true,true,true,false,false,false,false,false,false,false,false,false,false,false,false,false,false,false,false,false,false,false,false] (by kernel_rfl) ?_
        refine WD.a (i:=26) (d:=43) (by kernel_rfl) rfl (z2 (by kernel_rfl)) (z3 (by kernel_rfl)) rfl rfl rfl (fun _=>q_m rfl) ?_
        refine WD.mid (fuel':=15) [(1,(.slice z1Z zb.length z20)),(2,(.pointer (some ⟨z6O,0,none⟩))),(10,(.slice z1Z zb.length z20)),(11,(.int .i64 ((zb.length : Nat) : Int))),(12,(.int .i64 ze)),(6,(.pointer (some ⟨zcX,0,none⟩))),(5,(.int .i64 ze)),(43,(.bool (((((decide (((nth zb ze).fTime) < 0)) || (decide (((nth zb ze).fTime) > 536870912))) || (decide (((nth zb ze).fVL) < 0))) || (decide (((nth zb ze).fVL) ≥ ((zD.fVLs.length : Nat) : Int)))) || (decide (((nth zb ze).fSize) < 1))))),(47,(.bool ((((((decide (((nth zb ze).fTime) < 0)) || (decide (((nth zb ze).fTime) > 536870912))) || (decide (((nth zb ze).fVL) < 0))) || (decide (((nth zb ze).fVL) ≥ ((zD.fVLs.length : Nat) : Int)))) || (decide (((nth zb ze).fSize) < 1))) || (decide (((nth zb ze).fSize) > 72)))))] (y1i 46 [30,29,28,27,26,25,24,23,22,21,20,19,18,17,16,15,14,13,12,11,10,9,8,7,6,5,4,3,2,1,0]) ?_ (fun zkm=>?_)
        rotate_left
        · rcases Bool.eq_false_or_eq_true (((((decide (((nth zb ze).fTime) < 0)) || (decide (((nth zb ze).fTime) > 536870912))) || (decide (((nth zb ze).fVL) < 0))) || (decide (((nth zb ze).fVL) ≥ ((zD.fVLs.length : Nat) : Int)))) || (decide (((nth zb ze).fSize) < 1))) with hb' | hb'
          · have zgm:=hb'; clear hb'
            refine WD.pin (i:=43) rfl zgm ?_
            refine WD.b (i:=27) (d:=44) (by kernel_rfl) rfl (z2 (by kernel_rfl)) (z3 (by kernel_rfl)) rfl rfl rfl ?_
            refine WD.b (i:=28) (d:=45) (by kernel_rfl) rfl (z2 (by kernel_rfl)) (z3 (by kernel_rfl)) rfl rfl rfl ?_
            refine WD.b (i:=29) (d:=46) (by kernel_rfl) rfl (z2 (by kernel_rfl)) (z3 (by kernel_rfl)) rfl rfl rfl ?_
            refine WD.a (i:=30) (d:=47) (by kernel_rfl) rfl (z2 (by kernel_rfl)) (z3 (by kernel_rfl)) rfl rfl rfl (fun _=>y1b rfl rfl) ?_
            refine WD.yE (.cons .here (.cons .here .nil)) ?_ zkm
            exact (.cons rfl (.cons rfl (.cons rfl (.cons rfl (.cons rfl (.cons rfl (.cons rfl (.cons (zh (Eq.symm zgm)) (.cons (zh (y1X zgm)) .nil)))))))))
          · have zgn:=hb'; clear hb'
            refine WD.pin (i:=43) rfl zgn ?_
            refine WD.a (i:=27) (d:=44) (by kernel_rfl) rfl (z2 (by kernel_rfl)) (z3 (by kernel_rfl)) rfl rfl rfl (fun _=>ya y4W rfl rfl) ?_
            refine WD.e (i:=28) (d:=45) (by kernel_rfl) rfl (z2 (by kernel_rfl)) (z3 (by kernel_rfl)) rfl rfl rfl (yb ye rfl (yc .here rfl)) ?_
            refine WD.a (i:=29) (d:=46) (by kernel_rfl) rfl (z2 (by kernel_rfl)) (z3 (by kernel_rfl)) rfl rfl rfl (fun _=>y3a rfl rfl) ?_
            refine WD.a (i:=30) (d:=47) (by kernel_rfl) rfl (z2 (by kernel_rfl)) (z3 (by kernel_rfl)) rfl rfl rfl (fun _=>y1c rfl rfl) ?_
            refine WD.yE (.cons .here (.cons .here .nil)) ?_ zkm
            exact (.cons rfl (.cons rfl (.cons rfl (.cons rfl (.cons rfl (.cons rfl (.cons rfl (.cons (zh (Eq.symm zgn)) (.cons (zh (y1Y zgn)) .nil)))))))))
        refine WD.d #[true,true,true,true,true,true,true,true,true,true,true,true,true,true,true,true,true,true,true,true,true,true,true,true,true,true,true,true,true,true,true,false,false,false,false,false,false,false,false,false,false,false,false,false,false,false] (by kernel_rfl) ?_
        refine WD.a (i:=31) (d:=48) (by kernel_rfl) rfl (z2 (by kernel_rfl)) (z3 (by kernel_rfl)) rfl rfl rfl (fun _=>q_m rfl) ?_
        refine WD.mid (fuel':=0) [(1,(.slice z1Z zb.length z20)),(2,(.pointer (some ⟨z6O,0,none⟩))),(10,(.slice z1Z zb.length z20)),(11,(.int .i64 ((zb.length : Nat) : Int))),(12,(.int .i64 ze)),(48,(.bool ((((((decide (((nth zb ze).fTime) < 0)) || (decide (((nth zb ze).fTime) > 536870912))) || (decide (((nth zb ze).fVL) < 0))) || (decide (((nth zb ze).fVL) ≥ ((zD.fVLs.length : Nat) : Int)))) || (decide (((nth zb ze).fSize) < 1))) || (decide (((nth zb ze).fSize) > 72))))),(62,(.bool (((((((decide (((nth zb ze).fTime) < 0)) || (decide (((nth zb ze).fTime) > 536870912))) || (decide (((nth zb ze).fVL) < 0))) || (decide (((nth zb ze).fVL) ≥ ((zD.fVLs.length : Nat) : Int)))) || (decide (((nth zb ze).fSize) < 1))) || (decide (((nth zb ze).fSize) > 72))) || ((decide (ze > 0)) && (decide (((nth zb (i64 (ze - 1))).fTime) > ((nth zb ze).fTime)))))))] (y1i 46 [45,44,43,42,41,40,39,38,37,36,35,34,33,32,31,30,29,28,27,26,25,24,23,22,21,20,19,18,17,16,15,14,13,12,11,10,9,8,7,6,5,4,3,2,1,0]) ?_ (fun zkn=>?_)
        rotate_left
        · rcases Bool.eq_false_or_eq_true ((((((decide (((nth zb ze).fTime) < 0)) || (decide (((nth zb ze).fTime) > 536870912))) || (decide (((nth zb ze).fVL) < 0))) || (decide (((nth zb ze).fVL) ≥ ((zD.fVLs.length : Nat) : Int)))) || (decide (((nth zb ze).fSize) < 1))) || (decide (((nth zb ze).fSize) > 72))) with hb' | hb'
          · have zgo:=hb'; clear hb'
            refine WD.pin (i:=48) rfl zgo ?_
            refine WD.b (i:=32) (d:=49) (by kernel_rfl) rfl (z2 (by kernel_rfl)) (z3 (by kernel_rfl)) rfl rfl rfl ?_
            refine WD.b (i:=33) (d:=50) (by kernel_rfl) rfl (z2 (by kernel_rfl)) (z3 (by kernel_rfl)) rfl rfl rfl ?_
            refine WD.b (i:=34) (d:=51) (by kernel_rfl) rfl (z2 (by kernel_rfl)) (z3 (by kernel_rfl)) rfl rfl rfl ?_
            refine WD.b (i:=35) (d:=52) (by kernel_rfl) rfl (z2 (by kernel_rfl)) (z3 (by kernel_rfl)) rfl rfl rfl ?_
            refine WD.b (i:=36) (d:=53) (by kernel_rfl) rfl (z2 (by kernel_rfl)) (z3 (by kernel_rfl)) rfl rfl rfl ?_
            refine WD.b (i:=37) (d:=54) (by kernel_rfl) rfl (z2 (by kernel_rfl)) (z3 (by kernel_rfl)) rfl rfl rfl ?_
            refine WD.b (i:=38) (d:=55) (by kernel_rfl) rfl (z2 (by kernel_rfl)) (z3 (by kernel_rfl)) rfl rfl rfl ?_
            refine WD.b (i:=39) (d:=56) (by kernel_rfl) rfl (z2 (by kernel_rfl)) (z3 (by kernel_rfl)) rfl rfl rfl ?_
            refine WD.b (i:=40) (d:=57) (by kernel_rfl) rfl (z2 (by kernel_rfl)) (z3 (by kernel_rfl)) rfl rfl rfl ?_
            refine WD.b (i:=41) (d:=58) (by kernel_rfl) rfl (z2 (by kernel_rfl)) (z3 (by kernel_rfl)) rfl rfl rfl ?_
            refine WD.b (i:=42) (d:=59) (by kernel_rfl) rfl (z2 (by kernel_rfl)) (z3 (by kernel_rfl)) rfl rfl rfl ?_
            refine WD.b (i:=43) (d:=60) (by kernel_rfl) rfl (z2 (by kernel_rfl)) (z3 (by kernel_rfl)) rfl rfl rfl ?_
            refine WD.b (i:=44) (d:=61) (by kernel_rfl) rfl (z2 (by kernel_rfl)) (z3 (by kernel_rfl)) rfl rfl rfl ?_
            refine WD.a (i:=45) (d:=62) (by kernel_rfl) rfl (z2 (by kernel_rfl)) (z3 (by kernel_rfl)) rfl rfl rfl (fun _=>y1b rfl rfl) ?_
            refine WD.yE (.cons .here (.cons .here .nil)) ?_ zkn
            exact (.cons rfl (.cons rfl (.cons rfl (.cons rfl (.cons rfl (.cons (zh (Eq.symm zgo)) (.cons (zh (y1X zgo)) .nil)))))))
          · have zec:=hb'; clear hb'
            have zpJ:=zpI zec
            refine WD.pin (i:=48) rfl zec ?_
            refine WD.a (i:=32) (d:=49) (by kernel_rfl) rfl (z2 (by kernel_rfl)) (z3 (by kernel_rfl)) rfl rfl rfl (fun _=>q_m rfl) ?_
            refine WD.a (i:=33) (d:=50) (by kernel_rfl) rfl (z2 (by kernel_rfl)) (z3 (by kernel_rfl)) rfl rfl rfl (fun _=>y3a rfl rfl) ?_
            refine WD.a (i:=34) (d:=51) (by kernel_rfl) rfl (z2 (by kernel_rfl)) (z3 (by kernel_rfl)) rfl rfl rfl (fun _=>q_m rfl) ?_
            refine WD.mid (fuel':=1) [(1,(.slice z1Z zb.length z20)),(2,(.pointer (some ⟨z6O,0,none⟩))),(10,(.slice z1Z zb.length z20)),(11,(.int .i64 ((zb.length : Nat) : Int))),(12,(.int .i64 ze)),(48,(.bool false)),(51,(.bool (decide (ze > 0)))),(61,(.bool ((decide (ze > 0)) && (decide (((nth zb (i64 (ze - 1))).fTime) > ((nth zb ze).fTime))))))] (y1i 46 [44,43,42,41,40,39,38,37,36,35,34,33,32,31,30,29,28,27,26,25,24,23,22,21,20,19,18,17,16,15,14,13,12,11,10,9,8,7,6,5,4,3,2,1,0]) ?_ (fun zko=>?_)
            rotate_left
            · rcases Bool.eq_false_or_eq_true (decide (ze > 0)) with hb' | hb'
              · have zed:=hb'; clear hb'
                have zpK:=zpJ zed
                refine WD.pin (i:=51) rfl zed ?_
                refine WD.a (i:=35) (d:=52) (by kernel_rfl) rfl (z2 (by kernel_rfl)) (z3 (by kernel_rfl)) rfl rfl rfl (fun _=>q_m rfl) ?_
                refine WD.a (i:=36) (d:=53) (by kernel_rfl) rfl (z2 (by kernel_rfl)) (z3 (by kernel_rfl)) rfl rfl rfl (fun _=>q_m rfl) ?_
                refine WD.a (i:=37) (d:=54) (by kernel_rfl) rfl (z2 (by kernel_rfl)) (z3 (by kernel_rfl)) rfl rfl rfl (fun _=>y45 rfl rfl rfl) ?_
                refine WD.znth (j:=38) (dd:=55) (by kernel_rfl) rfl (z2 (by kernel_rfl)) (z3 (by kernel_rfl)) rfl rfl (Z:=Z) (Pr:=(fun r x=>r = e53 x)) y4o rfl rfl zkh zpK ?_
                rintro zvG zvH zpL zvI rfl
                refine WD.a (i:=39) (d:=56) (by kernel_rfl) rfl (z2 (by kernel_rfl)) (z3 (by kernel_rfl)) rfl rfl rfl (fun _=>ya y3Q rfl rfl) ?_
                refine WD.e (i:=40) (d:=57) (by kernel_rfl) rfl (z2 (by kernel_rfl)) (z3 (by kernel_rfl)) rfl rfl rfl (yb ye rfl (y1G hz.pv zpL rfl)) ?_
                refine WD.a (i:=41) (d:=58) (by kernel_rfl) rfl (z2 (by kernel_rfl)) (z3 (by kernel_rfl)) rfl rfl rfl (fun _=>ya y3Q rfl rfl) ?_
                refine WD.e (i:=42) (d:=59) (by kernel_rfl) rfl (z2 (by kernel_rfl)) (z3 (by kernel_rfl)) rfl rfl rfl (yb ye rfl (yc .here rfl)) ?_
                refine WD.a (i:=43) (d:=60) (by kernel_rfl) rfl (z2 (by kernel_rfl)) (z3 (by kernel_rfl)) rfl rfl rfl (fun _=>y3a rfl rfl) ?_
                refine WD.a (i:=44) (d:=61) (by kernel_rfl) rfl (z2 (by kernel_rfl)) (z3 (by kernel_rfl)) rfl rfl rfl (fun _=>y1b rfl rfl) ?_
                refine WD.yE (.cons .here (.cons .here .nil)) ?_ zko
                exact (.cons rfl (.cons rfl (.cons rfl (.cons rfl (.cons rfl (.cons rfl (.cons (zh (Eq.symm zed)) (.cons (zh (y2o zed)) .nil))))))))
              · have zgp:=hb'; clear hb'
                refine WD.pin (i:=51) rfl zgp ?_
                refine WD.b (i:=35) (d:=52) (by kernel_rfl) rfl (z2 (by kernel_rfl)) (z3 (by kernel_rfl)) rfl rfl rfl ?_
                refine WD.b (i:=36) (d:=53) (by kernel_rfl) rfl (z2 (by kernel_rfl)) (z3 (by kernel_rfl)) rfl rfl rfl ?_
                refine WD.b (i:=37) (d:=54) (by kernel_rfl) rfl (z2 (by kernel_rfl)) (z3 (by kernel_rfl)) rfl rfl rfl ?_
                refine WD.b (i:=38) (d:=55) (by kernel_rfl) rfl (z2 (by kernel_rfl)) (z3 (by kernel_rfl)) rfl rfl rfl ?_
                refine WD.b (i:=39) (d:=56) (by kernel_rfl) rfl (z2 (by kernel_rfl)) (z3 (by kernel_rfl)) rfl rfl rfl ?_
                refine WD.b (i:=40) (d:=57) (by kernel_rfl) rfl (z2 (by kernel_rfl)) (z3 (by kernel_rfl)) rfl rfl rfl ?_
                refine WD.b (i:=41) (d:=58) (by kernel_rfl) rfl (z2 (by kernel_rfl)) (z3 (by kernel_rfl)) rfl rfl rfl ?_
                refine WD.b (i:=42) (d:=59) (by kernel_rfl) rfl (z2 (by kernel_rfl)) (z3 (by kernel_rfl)) rfl rfl rfl ?_
                refine WD.b (i:=43) (d:=60) (by kernel_rfl) rfl (z2 (by kernel_rfl)) (z3 (by kernel_rfl)) rfl rfl rfl ?_
                refine WD.a (i:=44) (d:=61) (by kernel_rfl) rfl (z2 (by kernel_rfl)) (z3 (by kernel_rfl)) rfl rfl rfl (fun _=>y1c rfl rfl) ?_
                refine WD.yE (.cons .here (.cons .here .nil)) ?_ zko
                exact (.cons rfl (.cons rfl (.cons rfl (.cons rfl (.cons rfl (.cons rfl (.cons (zh (Eq.symm zgp)) (.cons (zh (y2n zgp)) .nil))))))))
            refine WD.d #[true,true,true,true,true,true,true,true,true,true,true,true,true,true,true,true,true,true,true,true,true,true,true,true,true,true,true,true,true,true,true,true,true,true,true,true,true,true,true,true,true,true,true,true,true,false] (by kernel_rfl) ?_
            refine WD.a (i:=45) (d:=62) (by kernel_rfl) rfl (z2 (by kernel_rfl)) (z3 (by kernel_rfl)) rfl rfl rfl (fun _=>y1c rfl rfl) ?_
            refine WD.yE (.cons .here (.cons .here .nil)) ?_ zkn
            exact (.cons rfl (.cons rfl (.cons rfl (.cons rfl (.cons rfl (.cons (zh (Eq.symm zec)) (.cons (zh (y1Y zec)) .nil)))))))
        refine WD.d #[true,true,true,true,true,true,true,true,true,true,true,true,true,true,true,true,true,true,true,true,true,true,true,true,true,true,true,true,true,true,true,true,true,true,true,true,true,true,true,true,true,true,true,true,true,true] (by kernel_rfl) ?_
        refine WD.done (by kernel_rfl) ?_
        refine WX.a ?_
        refine WC.cond rfl (fun zgq=>?_) (fun zgq=>?_)
        · replace h:=ym h zgq
          refine WC.b (WC.a (WL.pu rfl (WL.nil (WX.a (WC.ret (WX.yC (WX.yg (WX.yg (WX.yC (WX.yg ?_))))))))))
          obtain rfl:=Option.some.inj h
          refine WX.yi Try.results22 (.tmp rfl .nil) (fun w hw=>?_)
          exact ⟨y10 rfl,hw.sub .nil⟩
        · replace h:=yn h zgq
          refine WC.skip (WX.yh (WX.a (WC.a (WL.pu rfl (WL.pu rfl (WL.nil ?_))))))
          exact WX.round (G:=Nat × Int) ⟨zgb,(i64 (ze + 1))⟩ h (Nat.lt_succ_self _) (.cons rfl (.cons rfl (.cons rfl (.cons rfl (.cons rfl .nil))))) (.cons .h1 .nil)
      · replace h:=yn h zgd
        refine WC.exit (WX.yf (WX.yf (WX.yB ?_)))
        exact WX.mid (G:=Unit) () h .nil .nil
    · rintro  h
      replace h:=zpF.symm.trans h
      refine WC.b (WC.a (WL.pu rfl (WL.nil (WX.a (WC.ret ?_)))))
      obtain rfl:=Option.some.inj h
      refine WX.yi Try.results22 (.tmp rfl .nil) (fun w hw=>?_)
      exact ⟨y10 rfl,hw.sub .nil⟩
def y43 (c_39 : Sapi_Config) (net_64 : Int) (routes_65 : List (List Sapi_Hop)) (sent_69 : List zSt) : Option Bool :=
  (y4c c_39 routes_65 sent_69).bind fun zkp=>(if zkp then (y2I c_39 net_64 routes_65).bind fun zkq=>some zkq else some false).bind fun zgr=>(if zgr then (y3q c_39 sent_69).bind fun zkr=>some zkr else some false).bind fun zgs=>some zgs
set_option maxRecDepth 20000 in
theorem y8u (Z : Zp) (ao_40 : Option Addr) (cap_41 : Nat) (ao_43 : Option Addr) (cap_44 : Nat) (ao_46 : Option Addr) (cap_47 : Nat) (ao_49 : Option Addr) (cap_50 : Nat) (ao_52 : Option Addr) (cap_53 : Nat) (ao_55 : Option Addr) (cap_56 : Nat) (ao_58 : Option Addr) (cap_59 : Nat) (ao_61 : Option Addr) (cap_62 : Nat) (ao_66 : Option Addr) (cap_67 : Nat) (ao_70 : Option Addr) (cap_71 : Nat) (c_39 : Sapi_Config) (net_64 : Int) (routes_65 : List (List Sapi_Hop)) (sent_69 : List zSt) (r : Bool)
     (h : y43 c_39 net_64 routes_65 sent_69 = some r) (w₀ : World) (hz : PZ [] w₀ Z)
     (hs_42 : ZS Z 4 (y2x Z) ao_40 cap_41 c_39.fModules)
     (hs_45 : ZS Z 4 (y2O Z) ao_43 cap_44 c_39.fChannels)
     (hs_48 : ZS Z 4 (fun r x=>r = e64 x) ao_46 cap_47 c_39.fSwitches)
     (hs_51 : ZS Z 4 (fun r x=>r = e62 x) ao_49 cap_50 c_39.fLinks)
     (hs_54 : ZS Z 7 (y2F Z) ao_52 cap_53 c_39.fVLs)
     (hs_57 : ZS Z 5 (fun r x=>r = y34 x) ao_55 cap_56 c_39.fHealth)
     (hs_60 : ZS Z 3 (y2P Z) ao_58 cap_59 c_39.fCauses)
     (hs_63 : ZS Z 4 (fun r x=>r = y35 x) ao_61 cap_62 c_39.fVersions)
     (hs_68 : ZS Z 1 (p55 Z) ao_66 cap_67 routes_65)
     (hs_72 : ZS Z 3 (fun r x=>r = e53 x) ao_70 cap_71 sent_69) :
    Calls Try.prog 20 #[(.agg #[(.slice ao_40 c_39.fModules.length cap_41),(.slice ao_43 c_39.fChannels.length cap_44),(.slice ao_46 c_39.fSwitches.length cap_47),(.slice ao_49 c_39.fLinks.length cap_50),(.slice ao_52 c_39.fVLs.length cap_53),(.slice ao_55 c_39.fHealth.length cap_56),(.slice ao_58 c_39.fCauses.length cap_59),(.slice ao_61 c_39.fVersions.length cap_62)]),(.int .i64 net_64),(.slice ao_66 routes_65.length cap_67),(.slice ao_70 sent_69.length cap_71)] w₀ fun e w'=>e = .returned (.bool r) ∧ Hp [] w₀ w' []:=by
  unfold y43 at h
  refine Calls.yl (vs:=[(.agg #[(.slice ao_40 c_39.fModules.length cap_41),(.slice ao_43 c_39.fChannels.length cap_44),(.slice ao_46 c_39.fSwitches.length cap_47),(.slice ao_49 c_39.fLinks.length cap_50),(.slice ao_52 c_39.fVLs.length cap_53),(.slice ao_55 c_39.fHealth.length cap_56),(.slice ao_58 c_39.fCauses.length cap_59),(.slice ao_61 c_39.fVersions.length cap_62)]),(.int .i64 net_64),(.slice ao_66 routes_65.length cap_67),(.slice ao_70 sent_69.length cap_71)]) (pre:=[]) (env:=[(0,(.agg #[(.slice ao_40 c_39.fModules.length cap_41),(.slice ao_43 c_39.fChannels.length cap_44),(.slice ao_46 c_39.fSwitches.length cap_47),(.slice ao_49 c_39.fLinks.length cap_50),(.slice ao_52 c_39.fVLs.length cap_53),(.slice ao_55 c_39.fHealth.length cap_56),(.slice ao_58 c_39.fCauses.length cap_59),(.slice ao_61 c_39.fVersions.length cap_62)])),(1,(.int .i64 net_64)),(2,(.slice ao_66 routes_65.length cap_67)),(3,(.slice ao_70 sent_69.length cap_71))]) Try.func20 rfl Try.ntmps20 rfl (Hp.nil w₀ _) rfl ?_
  refine WC.b (WC.a ?_)
  refine WL.new (dd:=4) rfl rfl rfl (y2c (cs:=[(.slice ao_40 c_39.fModules.length cap_41),(.slice ao_43 c_39.fChannels.length cap_44),(.slice ao_46 c_39.fSwitches.length cap_47),(.slice ao_49 c_39.fLinks.length cap_50),(.slice ao_52 c_39.fVLs.length cap_53),(.slice ao_55 c_39.fHealth.length cap_56),(.slice ao_58 c_39.fCauses.length cap_59),(.slice ao_61 c_39.fVersions.length cap_62)]) rfl rfl) ?_
  intro zvJ _
  refine WL.pu rfl (WL.nil (WX.a (WC.b ?_)))
  obtain ⟨zkp,zpM,h⟩:=zp h
  obtain ⟨zgr,zks,h⟩:=zp h
  obtain ⟨zgs,zkt,h⟩:=zp h
  refine WC.a ?_
  refine WL.a (d:=9) rfl rfl rfl (yH y1J rfl (y1j .here) rfl) ?_
  refine WL.pu rfl (WL.pu rfl ?_)
  refine WL.b (dd:=12) rfl rfl rfl (zF (l:=[.tmp 9,.tmp 10,.tmp 11]) Try.call10 (.cons rfl (.cons rfl (.cons rfl .nil)))) .nil (cc hz .nil fun w pz ho=>y8L _ _ _ _ _ _ _ _ _ _ _ _ _ _ _ _ _ _ _ _ _ _ _ _ _ zpM w pz hs_42 hs_45 hs_48 hs_51 hs_54 hs_57 hs_60 hs_63 hs_68 hs_72) ?_
  refine WL.pu rfl ?_
  refine WL.seg true 4 13 (B:=zgr) rfl rfl rfl rfl rfl rfl (fun h=>(Option.some.inj (yn zks h)).symm) (fun _ zpN=>?_) ?_
  · skip
    have zcY:=ym zks zpN
    obtain ⟨zkq,zpO,zcY⟩:=zp zcY
    replace zcY:=Option.some.inj zcY
    refine WL.a (d:=14) rfl rfl rfl (yH y1J rfl (y1j .here) rfl) ?_
    refine WL.pu rfl (WL.pu rfl ?_)
    refine WL.b (dd:=17) rfl rfl rfl (zF (l:=[.tmp 14,.tmp 15,.tmp 16]) Try.call15 (.cons rfl (.cons rfl (.cons rfl .nil)))) .nil (cc hz .nil fun w pz ho=>y5m _ _ _ _ _ _ _ _ _ _ _ _ _ _ _ _ _ _ _ _ _ _ _ zpO w pz hs_42 hs_45 hs_48 hs_51 hs_54 hs_57 hs_60 hs_63 hs_68) ?_
    refine WL.pu rfl ?_
    exact WL.ys zcY rfl rfl .all
  refine WL.pu rfl ?_
  refine WL.seg true 3 19 (B:=zgs) rfl rfl rfl rfl rfl rfl (fun h=>(Option.some.inj (yn zkt h)).symm) (fun _ zpP=>?_) ?_
  · skip
    have zcZ:=ym zkt zpP
    obtain ⟨zkr,zpQ,zcZ⟩:=zp zcZ
    replace zcZ:=Option.some.inj zcZ
    refine WL.a (d:=20) rfl rfl rfl (yH y1J rfl (y1j .here) rfl) ?_
    refine WL.pu rfl ?_
    refine WL.b (dd:=22) rfl rfl rfl (zF (l:=[.tmp 20,.tmp 21]) Try.call22 (.cons rfl (.cons rfl .nil))) .nil (cc hz .nil fun w pz ho=>y7H _ _ _ _ _ _ _ _ _ _ _ _ _ _ _ _ _ _ _ _ _ _ zpQ w pz hs_42 hs_45 hs_48 hs_51 hs_54 hs_57 hs_60 hs_63 hs_72) ?_
    refine WL.pu rfl ?_
    exact WL.ys zcZ rfl rfl .all
  refine WL.pu rfl (WL.nil (WX.a (WC.ret ?_)))
  obtain rfl:=Option.some.inj h
  refine WX.yi Try.results20 (.tmp rfl .nil) (fun w hw=>?_)
  exact ⟨y10 rfl,hw.sub .nil⟩
def y4q (z6P : Int) : Option (Sapi_Config × List (List Sapi_Hop)) :=
  some ((⟨([(⟨⟨#[109]⟩,0,0,[]⟩ : Sapi_Module),(⟨⟨#[110]⟩,0,0,[]⟩ : Sapi_Module)] : List Sapi_Module),[],([(⟨⟨#[115]⟩,0,16,z6P⟩ : Sapi_Switch)] : List Sapi_Switch),([(⟨⟨#[109]⟩,⟨#[115]⟩,0,1⟩ : Sapi_Link),(⟨⟨#[110]⟩,⟨#[115]⟩,0,1⟩ : Sapi_Link)] : List Sapi_Link),([(⟨⟨#[]⟩,(⟨⟨#[]⟩,⟨#[]⟩,⟨#[]⟩⟩ : Sapi_Ref),0,0,[]⟩ : Sapi_VL)] : List Sapi_VL),[],[],[]⟩ : Sapi_Config),([([(⟨0,2,0⟩ : Sapi_Hop),(⟨2,1,1⟩ : Sapi_Hop)] : List Sapi_Hop)] : List (List Sapi_Hop)))
set_option maxRecDepth 20000 in
theorem y7o (Z : Zp)  (z6P : Int) (r : Sapi_Config × List (List Sapi_Hop))
     (h : y4q z6P = some r) (w₀ : World) (hz : PZ [] w₀ Z) :
    Calls Try.prog 23 #[(.int .i64 z6P)] w₀ fun e w'=>∃ Zn : Zp,∃ zku : Option Addr,∃ zkv : Nat,∃ zkw : List Value,∃ zkx : Option Addr,∃ zky : Nat,∃ zkz : Option Addr,∃ zkA : Nat,∃ zkB : Option Addr,∃ zkC : Nat,∃ zkD : Option Addr,∃ zkE : Nat,∃ zkF : List Value,∃ zkG : Option Addr,∃ zkH : Nat,∃ zkI : Option Addr,∃ zkJ : Nat,∃ zkK : Option Addr,∃ zkL : Nat,∃ zkM : Option Addr,∃ zkN : Nat,∃ zkO : List Value,e = .returned (.tuple #[(.agg #[(.slice zku r.1.fModules.length zkv),(.slice zkx r.1.fChannels.length zky),(.slice zkz r.1.fSwitches.length zkA),(.slice zkB r.1.fLinks.length zkC),(.slice zkD r.1.fVLs.length zkE),(.slice zkG r.1.fHealth.length zkH),(.slice zkI r.1.fCauses.length zkJ),(.slice zkK r.1.fVersions.length zkL)]),(.slice zkM r.2.length zkN)]) ∧ ((RR 4 (y2x (Z ++ Zn)) zkw r.1.fModules) ∧ (ZS (Z ++ Zn) 4 (y2O (Z ++ Zn)) zkx zky r.1.fChannels) ∧ (RR 7 (y2F (Z ++ Zn)) zkF r.1.fVLs) ∧ (ZS (Z ++ Zn) 5 (fun r x=>r = y34 x) zkG zkH r.1.fHealth) ∧ (ZS (Z ++ Zn) 3 (y2P (Z ++ Zn)) zkI zkJ r.1.fCauses) ∧ (ZS (Z ++ Zn) 4 (fun r x=>r = y35 x) zkK zkL r.1.fVersions) ∧ (RR 1 (p55 (Z ++ Zn)) zkO r.2)) ∧ Hp [] w₀ w' [fz Zn,row (.slice zku r.1.fModules.length zkv) 104 4 zkw,row (.slice zkz r.1.fSwitches.length zkA) 64 4 (r.1.fSwitches.flatMap e64),row (.slice zkB r.1.fLinks.length zkC) 62 4 (r.1.fLinks.flatMap e62),row (.slice zkD r.1.fVLs.length zkE) 109 7 zkF,row (.slice zkM r.2.length zkN) 55 1 zkO]:=by
  unfold y4q at h
  refine Calls.yl (vs:=[(.int .i64 z6P)]) (pre:=[]) (env:=[(0,(.int .i64 z6P))]) Try.func23 rfl Try.ntmps23 rfl (Hp.nil w₀ _) rfl ?_
  refine WC.pool (WC.b (WC.a ?_))
  refine WL.new (dd:=2) rfl rfl rfl (y23 (cs:=[(.slice none 0 0),(.slice none 0 0),(.slice none 0 0),(.slice none 0 0),(.slice none 0 0),(.slice none 0 0),(.slice none 0 0),(.slice none 0 0)]) y71 rfl) ?_
  intro zvK _
  refine WL.pu rfl (WL.nil (WX.a (WC.b (WC.a ?_))))
  refine WL.a (d:=5) rfl rfl rfl (y1x (v:=(.agg #[(.string ⟨#[109]⟩),(.int .i64 0),(.int .i64 0),(.slice none 0 0)])) (Eos.parts (l:=[.const (.string ⟨#[109]⟩)]) (.cons rfl .nil) [0]) (fun _=>by kernel_rfl)) ?_
  refine WL.a (d:=6) rfl rfl rfl (y1x (v:=(.agg #[(.string ⟨#[110]⟩),(.int .i64 0),(.int .i64 0),(.slice none 0 0)])) (Eos.parts (l:=[.const (.string ⟨#[110]⟩)]) (.cons rfl .nil) [0]) (fun _=>by kernel_rfl)) ?_
  have zpR : RR 4 (y2x (Z ++ [])) [(.string ⟨#[109]⟩),(.int .i64 0),(.int .i64 0),(.slice none 0 0),(.string ⟨#[110]⟩),(.int .i64 0),(.int .i64 0),(.slice none 0 0)] ([(⟨⟨#[109]⟩,0,0,[]⟩ : Sapi_Module),(⟨⟨#[110]⟩,0,0,[]⟩ : Sapi_Module)] : List Sapi_Module):=(RR.cons (r:=[(.string ⟨#[109]⟩),(.int .i64 0),(.int .i64 0),(.slice none 0 0)]) rfl (show y2x _ _ _ from ⟨_,_,rfl,(ZS.nil _ _ _)⟩) (RR.cons (r:=[(.string ⟨#[110]⟩),(.int .i64 0),(.int .i64 0),(.slice none 0 0)]) rfl (show y2x _ _ _ from ⟨_,_,rfl,(ZS.nil _ _ _)⟩) (RR.nil _ _)))
  refine WL.new (dd:=7) rfl rfl rfl (y17 (cs:=[(.string ⟨#[109]⟩),(.int .i64 0),(.int .i64 0),(.slice none 0 0),(.string ⟨#[110]⟩),(.int .i64 0),(.int .i64 0),(.slice none 0 0)]) elT_22 (Eos.parts (l:=[.tmp 5,.tmp 6]) (.cons rfl (.cons rfl .nil)) [0,1]) (fun _=>by kernel_rfl) rfl (by unfold maxLen; omega)) ?_
  intro zkP _
  refine WL.pu rfl ?_
  refine WL.a (d:=9) rfl rfl rfl (y1x (v:=(.agg #[(.string ⟨#[115]⟩),(.int .i64 0),(.int .i64 16),(.int .i64 z6P)])) (Eos.parts (l:=[.const (.string ⟨#[115]⟩),.const (.int .i64 16),.tmp 8]) (.cons rfl (.cons rfl (.cons rfl .nil))) [0,2,3]) (fun _=>by kernel_rfl)) ?_
  refine WL.new (dd:=10) rfl rfl rfl (y17 (cs:=([(⟨⟨#[115]⟩,0,16,z6P⟩ : Sapi_Switch)] : List Sapi_Switch).flatMap e64) y5I (Eos.parts (l:=[.tmp 9]) (.cons rfl .nil) [0]) (fun _=>by kernel_rfl) rfl (by unfold maxLen; omega)) ?_
  intro zkQ _
  refine WL.a (d:=11) rfl rfl rfl (y1x (v:=(.agg #[(.string ⟨#[109]⟩),(.string ⟨#[115]⟩),(.int .i64 0),(.int .i64 1)])) (Eos.parts (l:=[.const (.string ⟨#[109]⟩),.const (.string ⟨#[115]⟩),.const (.int .i64 1)]) (.cons rfl (.cons rfl (.cons rfl .nil))) [0,1,3]) (fun _=>by kernel_rfl)) ?_
  refine WL.a (d:=12) rfl rfl rfl (y1x (v:=(.agg #[(.string ⟨#[110]⟩),(.string ⟨#[115]⟩),(.int .i64 0),(.int .i64 1)])) (Eos.parts (l:=[.const (.string ⟨#[110]⟩),.const (.string ⟨#[115]⟩),.const (.int .i64 1)]) (.cons rfl (.cons rfl (.cons rfl .nil))) [0,1,3]) (fun _=>by kernel_rfl)) ?_
  refine WL.new (dd:=13) rfl rfl rfl (y17 (cs:=([(⟨⟨#[109]⟩,⟨#[115]⟩,0,1⟩ : Sapi_Link),(⟨⟨#[110]⟩,⟨#[115]⟩,0,1⟩ : Sapi_Link)] : List Sapi_Link).flatMap e62) y7k (Eos.parts (l:=[.tmp 11,.tmp 12]) (.cons rfl (.cons rfl .nil)) [0,1]) (fun _=>by kernel_rfl) rfl (by unfold maxLen; omega)) ?_
  intro zkR _
  refine WL.a (d:=14) rfl rfl rfl (y1x (v:=(.agg #[(.string ⟨#[]⟩),(.string ⟨#[]⟩),(.string ⟨#[]⟩),(.string ⟨#[]⟩),(.int .i64 0),(.int .i64 0),(.slice none 0 0)])) (Eos.parts (l:=[]) .nil []) (fun _=>by kernel_rfl)) ?_
  have zpS : RR 7 (y2F (Z ++ [])) [(.string ⟨#[]⟩),(.string ⟨#[]⟩),(.string ⟨#[]⟩),(.string ⟨#[]⟩),(.int .i64 0),(.int .i64 0),(.slice none 0 0)] ([(⟨⟨#[]⟩,(⟨⟨#[]⟩,⟨#[]⟩,⟨#[]⟩⟩ : Sapi_Ref),0,0,[]⟩ : Sapi_VL)] : List Sapi_VL):=(RR.cons (r:=[(.string ⟨#[]⟩),(.string ⟨#[]⟩),(.string ⟨#[]⟩),(.string ⟨#[]⟩),(.int .i64 0),(.int .i64 0),(.slice none 0 0)]) rfl (show y2F _ _ _ from ⟨_,_,rfl,(ZS.nil _ _ _)⟩) (RR.nil _ _))
  refine WL.new (dd:=15) rfl rfl rfl (y17 (cs:=[(.string ⟨#[]⟩),(.string ⟨#[]⟩),(.string ⟨#[]⟩),(.string ⟨#[]⟩),(.int .i64 0),(.int .i64 0),(.slice none 0 0)]) elT_26 (Eos.parts (l:=[.tmp 14]) (.cons rfl .nil) [0]) (fun _=>by kernel_rfl) rfl (by unfold maxLen; omega)) ?_
  intro zkS _
  refine WL.a (d:=16) rfl rfl rfl (y1x (v:=(.agg #[(.slice (some ⟨zkP,0,none⟩) (([(⟨⟨#[109]⟩,0,0,[]⟩ : Sapi_Module),(⟨⟨#[110]⟩,0,0,[]⟩ : Sapi_Module)] : List Sapi_Module).length) 2),(.slice none 0 0),(.slice (some ⟨zkQ,0,none⟩) (([(⟨⟨#[115]⟩,0,16,z6P⟩ : Sapi_Switch)] : List Sapi_Switch).length) 1),(.slice (some ⟨zkR,0,none⟩) (([(⟨⟨#[109]⟩,⟨#[115]⟩,0,1⟩ : Sapi_Link),(⟨⟨#[110]⟩,⟨#[115]⟩,0,1⟩ : Sapi_Link)] : List Sapi_Link).length) 2),(.slice (some ⟨zkS,0,none⟩) (([(⟨⟨#[]⟩,(⟨⟨#[]⟩,⟨#[]⟩,⟨#[]⟩⟩ : Sapi_Ref),0,0,[]⟩ : Sapi_VL)] : List Sapi_VL).length) 1),(.slice none 0 0),(.slice none 0 0),(.slice none 0 0)])) (Eos.parts (l:=[.tmp 7,.tmp 10,.tmp 13,.tmp 15]) (.cons rfl (.cons rfl (.cons rfl (.cons rfl .nil)))) [0,2,3,4]) (fun _=>by kernel_rfl)) ?_
  refine WL.new (dd:=4) rfl rfl rfl (y23 (cs:=[(.slice none 0 0),(.slice none 0 0),(.slice none 0 0),(.slice none 0 0),(.slice none 0 0),(.slice none 0 0),(.slice none 0 0),(.slice none 0 0)]) y71 rfl) ?_
  intro zvL _
  refine WL.y1l rfl rfl (y1D y7B rfl rfl rfl .here rfl rfl rfl) ?_
  refine WL.nil (WX.a (WC.b (WC.a ?_)))
  refine WL.a (d:=17) rfl rfl rfl (yH y1J rfl (y1j .here) rfl) ?_
  refine WL.a (d:=18) rfl rfl rfl (y1x (v:=(.agg #[(.int .i64 0),(.int .i64 2),(.int .i64 0)])) (Eos.parts (l:=[.const (.int .i64 0),.const (.int .i64 2),.const (.int .i64 0)]) (.cons rfl (.cons rfl (.cons rfl .nil))) [0,1,2]) (fun _=>by kernel_rfl)) ?_
  refine WL.a (d:=19) rfl rfl rfl (y1x (v:=(.agg #[(.int .i64 2),(.int .i64 1),(.int .i64 1)])) (Eos.parts (l:=[.const (.int .i64 2),.const (.int .i64 1),.const (.int .i64 1)]) (.cons rfl (.cons rfl (.cons rfl .nil))) [0,1,2]) (fun _=>by kernel_rfl)) ?_
  refine WL.new (dd:=20) rfl rfl rfl (y17 (cs:=([(⟨0,2,0⟩ : Sapi_Hop),(⟨2,1,1⟩ : Sapi_Hop)] : List Sapi_Hop).flatMap e59) y4N (Eos.parts (l:=[.tmp 18,.tmp 19]) (.cons rfl (.cons rfl .nil)) [0,1]) (fun _=>by kernel_rfl) rfl (by unfold maxLen; omega)) ?_
  intro zee _
  refine WL.freezeS (ls:=([(⟨0,2,0⟩ : Sapi_Hop),(⟨2,1,1⟩ : Sapi_Hop)] : List Sapi_Hop)) .here .h6 hz (RR.y1m (enc:=e59) (fun _=>rfl) _) ?_
  intro zkT zkU zpT
  have zpU : RR 1 (p55 (Z ++ zkT)) [(.slice (some ⟨zee,0,none⟩) (([(⟨0,2,0⟩ : Sapi_Hop),(⟨2,1,1⟩ : Sapi_Hop)] : List Sapi_Hop).length) 2)] ([([(⟨0,2,0⟩ : Sapi_Hop),(⟨2,1,1⟩ : Sapi_Hop)] : List Sapi_Hop)] : List (List Sapi_Hop)):=(RR.cons (r:=[(.slice (some ⟨zee,0,none⟩) (([(⟨0,2,0⟩ : Sapi_Hop),(⟨2,1,1⟩ : Sapi_Hop)] : List Sapi_Hop).length) 2)]) rfl (show p55 _ _ _ from ⟨_,_,rfl,zpT⟩) (RR.nil _ _))
  refine WL.new (dd:=21) rfl rfl rfl (y17 (cs:=[(.slice (some ⟨zee,0,none⟩) (([(⟨0,2,0⟩ : Sapi_Hop),(⟨2,1,1⟩ : Sapi_Hop)] : List Sapi_Hop).length) 2)]) y5E (Eos.parts (l:=[.tmp 20]) (.cons rfl .nil) [0]) (fun _=>by kernel_rfl) rfl (by unfold maxLen; omega)) ?_
  intro zpV _
  refine WL.y1l rfl rfl (y1D y7B rfl rfl rfl .h7 rfl rfl rfl) ?_
  refine WL.pu rfl (WL.nil (WX.a (WC.ret ?_)))
  obtain rfl:=Option.some.inj h
  refine WX.yi Try.results23 (.agg rfl y1J rfl (y1j .here) (.tmp rfl .nil)) (fun w hw=>?_)
  exact ⟨zkT,(some ⟨zkP,0,none⟩),2,[(.string ⟨#[109]⟩),(.int .i64 0),(.int .i64 0),(.slice none 0 0),(.string ⟨#[110]⟩),(.int .i64 0),(.int .i64 0),(.slice none 0 0)],none,0,(some ⟨zkQ,0,none⟩),1,(some ⟨zkR,0,none⟩),2,(some ⟨zkS,0,none⟩),1,[(.string ⟨#[]⟩),(.string ⟨#[]⟩),(.string ⟨#[]⟩),(.string ⟨#[]⟩),(.int .i64 0),(.int .i64 0),(.slice none 0 0)],none,0,none,0,none,0,(some ⟨zpV,0,none⟩),1,[(.slice (some ⟨zee,0,none⟩) (([(⟨0,2,0⟩ : Sapi_Hop),(⟨2,1,1⟩ : Sapi_Hop)] : List Sapi_Hop).length) 2)],ret2 rfl rfl,⟨(zpR.weak (fun _ _ h=>y28 zkU h)),(ZS.nil _ _ _),(zpS.weak (fun _ _ h=>y29 zkU h)),(ZS.nil _ _ _),(ZS.nil _ _ _),(ZS.nil _ _ _),zpU⟩,hw.sub (.cons .h2 (.cons .h6 (.cons .h5 (.cons .h4 (.cons .h3 (.cons .h1 .nil))))))⟩
end Go.Proofs.Ytinchjigeakocaa
