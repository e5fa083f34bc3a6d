/- A part of this claim's proof: models of functions, walks, plain laws. No conditions. -/
import Derived.Test.YtinchjigeakocaaZSortF
import Derived.Test.YtinchjigeakocaaZUnroll
import Derived.Test.YtinchjigeakocaaZEnt
import Derived.Test.YtinchjigeakocaaProg
namespace Go.Proofs.Ytinchjigeakocaa
open Go Go.RowKit Sep
set_option linter.all false
set_option maxRecDepth 30000
set_option maxHeartbeats 4000000
structure Sapi_Port where
  fName : ByteArray
  fKind : Int
  fOut : Bool
  fSize : Int
  fDepth : Int
  fRefresh : Int
  deriving Inhabited,DecidableEq
structure Sapi_Ins where
  fOp : Int
  fA : Int
  fB : Int
  fC : Int
  deriving Inhabited,DecidableEq
structure Sapi_Proc where
  fName : ByteArray
  fPrio : Int
  fPeriod : Int
  fLimit : Int
  fCode : List Sapi_Ins
  deriving Inhabited,DecidableEq
structure Sapi_Part where
  fName : ByteArray
  fPeriod : Int
  fLength : Int
  fMem : Int
  fSemas : List Int
  fEvents : Int
  fBoards : Int
  fBufs : List Int
  fPorts : List Sapi_Port
  fProcs : List Sapi_Proc
  deriving Inhabited,DecidableEq
structure Sapi_Module where
  fName : ByteArray
  fMem : Int
  fFrame : Int
  fParts : List Sapi_Part
  deriving Inhabited,DecidableEq
structure Sapi_Ref where
  fModule : ByteArray
  fPart : ByteArray
  fPort : ByteArray
  deriving Inhabited,DecidableEq
structure Sapi_Channel where
  fFrom : Sapi_Ref
  fTo : List Sapi_Ref
  deriving Inhabited,DecidableEq
structure Sapi_Switch where
  fName : ByteArray
  fNet : Int
  fDelay : Int
  fStore : Int
  deriving Inhabited,DecidableEq
structure Sapi_Link where
  fA : ByteArray
  fB : ByteArray
  fNet : Int
  fSlow : Int
  deriving Inhabited,DecidableEq
structure Sapi_VL where
  fName : ByteArray
  fFrom : Sapi_Ref
  fBag : Int
  fMax : Int
  fTo : List Sapi_Ref
  deriving Inhabited,DecidableEq
structure Sapi_Health where
  fModule : ByteArray
  fPart : ByteArray
  fFault : Int
  fLevel : Int
  fDo : Int
  deriving Inhabited,DecidableEq
structure Sapi_Report where
  fUnit : ByteArray
  fCode : Int
  deriving Inhabited,DecidableEq
structure Sapi_Cause where
  fUnit : ByteArray
  fNeeds : List Sapi_Report
  fUnless : List ByteArray
  deriving Inhabited,DecidableEq
structure Sapi_Version where
  fA : ByteArray
  fVA : Int
  fB : ByteArray
  fVB : Int
  deriving Inhabited,DecidableEq
structure Sapi_Config where
  fModules : List Sapi_Module
  fChannels : List Sapi_Channel
  fSwitches : List Sapi_Switch
  fLinks : List Sapi_Link
  fVLs : List Sapi_VL
  fHealth : List Sapi_Health
  fCauses : List Sapi_Cause
  fVersions : List Sapi_Version
  deriving Inhabited,DecidableEq
def e3 (x : Int) : List Value:=[(.int .i64 x)]
theorem e3_oc : ∀ x,∀ u ∈ e3 x,u.oneCell' = true:=fun _=>ocB rfl
def e191 (x : Sapi_Port) : List Value:=[(.string x.fName),(.int .u8 x.fKind),(.bool x.fOut),(.int .i64 x.fSize),(.int .i64 x.fDepth),(.int .i64 x.fRefresh)]
def e196 (x : Sapi_Ins) : List Value:=[(.int .u8 x.fOp),(.int .i64 x.fA),(.int .i64 x.fB),(.int .i64 x.fC)]
def p194 (Z : Zp) (r : List Value) (x : Sapi_Proc) : Prop:=∃ (ao0 : Option Addr) (cap0 : Nat),r = [(.string x.fName),(.int .i64 x.fPrio),(.int .i64 x.fPeriod),(.int .i64 x.fLimit),(.slice ao0 x.fCode.length cap0)] ∧ ZS Z 4 (fun r x=>r = e196 x) ao0 cap0 x.fCode
theorem y8i {Z Z' : Zp} (k : Zle Z Z') {r : List Value} {x : Sapi_Proc} (h : p194 Z r x) : p194 Z' r x:=by
  obtain ⟨ao0,cap0,hr,h0⟩:=h
  exact ⟨ao0,cap0,hr,h0.mono k⟩
def p186 (Z : Zp) (r : List Value) (x : Sapi_Part) : Prop:=∃ (ao0 : Option Addr) (cap0 : Nat) (ao1 : Option Addr) (cap1 : Nat) (ao2 : Option Addr) (cap2 : Nat) (ao3 : Option Addr) (cap3 : Nat),r = [(.string x.fName),(.int .i64 x.fPeriod),(.int .i64 x.fLength),(.int .i64 x.fMem),(.slice ao0 x.fSemas.length cap0),(.int .i64 x.fEvents),(.int .i64 x.fBoards),(.slice ao1 x.fBufs.length cap1),(.slice ao2 x.fPorts.length cap2),(.slice ao3 x.fProcs.length cap3)] ∧ ZS Z 1 (fun r x=>r = e3 x) ao0 cap0 x.fSemas ∧ ZS Z 1 (fun r x=>r = e3 x) ao1 cap1 x.fBufs ∧ ZS Z 6 (fun r x=>r = e191 x) ao2 cap2 x.fPorts ∧ ZS Z 5 (p194 Z) ao3 cap3 x.fProcs
theorem y8j {Z Z' : Zp} (k : Zle Z Z') {r : List Value} {x : Sapi_Part} (h : p186 Z r x) : p186 Z' r x:=by
  obtain ⟨ao0,cap0,ao1,cap1,ao2,cap2,ao3,cap3,hr,h0,h1,h2,h3⟩:=h
  exact ⟨ao0,cap0,ao1,cap1,ao2,cap2,ao3,cap3,hr,h0.mono k,h1.mono k,h2.mono k,(h3.mono k).weak (fun _ _ h=>y8i k h)⟩
def y2x (Z : Zp) (r : List Value) (x : Sapi_Module) : Prop:=∃ (ao0 : Option Addr) (cap0 : Nat),r = [(.string x.fName),(.int .i64 x.fMem),(.int .i64 x.fFrame),(.slice ao0 x.fParts.length cap0)] ∧ ZS Z 10 (p186 Z) ao0 cap0 x.fParts
theorem y1H {Z Z' : Zp} (k : Zle Z Z') {r : List Value} {x : Sapi_Module} (h : y2x Z r x) : y2x Z' r x:=by
  obtain ⟨ao0,cap0,hr,h0⟩:=h
  exact ⟨ao0,cap0,hr,(h0.mono k).weak (fun _ _ h=>y8j k h)⟩
def e106 (x : Sapi_Ref) : List Value:=[(.string x.fModule),(.string x.fPart),(.string x.fPort)]
def y2W (Z : Zp) (r : List Value) (x : Sapi_Channel) : Prop:=∃ (ao0 : Option Addr) (cap0 : Nat),r = [(.string x.fFrom.fModule),(.string x.fFrom.fPart),(.string x.fFrom.fPort),(.slice ao0 x.fTo.length cap0)] ∧ ZS Z 3 (fun r x=>r = e106 x) ao0 cap0 x.fTo
theorem y1M {Z Z' : Zp} (k : Zle Z Z') {r : List Value} {x : Sapi_Channel} (h : y2W Z r x) : y2W Z' r x:=by
  obtain ⟨ao0,cap0,hr,h0⟩:=h
  exact ⟨ao0,cap0,hr,h0.mono k⟩
def e64 (x : Sapi_Switch) : List Value:=[(.string x.fName),(.int .i64 x.fNet),(.int .i64 x.fDelay),(.int .i64 x.fStore)]
theorem e64_oc : ∀ x,∀ u ∈ e64 x,u.oneCell' = true:=fun _=>ocB rfl
def e62 (x : Sapi_Link) : List Value:=[(.string x.fA),(.string x.fB),(.int .i64 x.fNet),(.int .i64 x.fSlow)]
def y2J (Z : Zp) (r : List Value) (x : Sapi_VL) : Prop:=∃ (ao0 : Option Addr) (cap0 : Nat),r = [(.string x.fName),(.string x.fFrom.fModule),(.string x.fFrom.fPart),(.string x.fFrom.fPort),(.int .i64 x.fBag),(.int .i64 x.fMax),(.slice ao0 x.fTo.length cap0)] ∧ ZS Z 3 (fun r x=>r = e106 x) ao0 cap0 x.fTo
theorem y1I {Z Z' : Zp} (k : Zle Z Z') {r : List Value} {x : Sapi_VL} (h : y2J Z r x) : y2J Z' r x:=by
  obtain ⟨ao0,cap0,hr,h0⟩:=h
  exact ⟨ao0,cap0,hr,h0.mono k⟩
def y2Z (x : Sapi_Health) : List Value:=[(.string x.fModule),(.string x.fPart),(.int .u8 x.fFault),(.int .u8 x.fLevel),(.int .u8 x.fDo)]
def e189 (x : Sapi_Report) : List Value:=[(.string x.fUnit),(.int .i64 x.fCode)]
def e9 (x : ByteArray) : List Value:=[(.string x)]
def y2X (Z : Zp) (r : List Value) (x : Sapi_Cause) : Prop:=∃ (ao0 : Option Addr) (cap0 : Nat) (ao1 : Option Addr) (cap1 : Nat),r = [(.string x.fUnit),(.slice ao0 x.fNeeds.length cap0),(.slice ao1 x.fUnless.length cap1)] ∧ ZS Z 2 (fun r x=>r = e189 x) ao0 cap0 x.fNeeds ∧ ZS Z 1 (fun r x=>r = e9 x) ao1 cap1 x.fUnless
theorem y1N {Z Z' : Zp} (k : Zle Z Z') {r : List Value} {x : Sapi_Cause} (h : y2X Z r x) : y2X Z' r x:=by
  obtain ⟨ao0,cap0,ao1,cap1,hr,h0,h1⟩:=h
  exact ⟨ao0,cap0,ao1,cap1,hr,h0.mono k,h1.mono k⟩
def y30 (x : Sapi_Version) : List Value:=[(.string x.fA),(.int .i64 x.fVA),(.string x.fB),(.int .i64 x.fVB)]
structure Sapi_Hop where
  fNode : Int
  fNext : Int
  fLink : Int
  deriving Inhabited,DecidableEq
def e59 (x : Sapi_Hop) : List Value:=[(.int .i64 x.fNode),(.int .i64 x.fNext),(.int .i64 x.fLink)]
def p55 (Z : Zp) (r : List Value) (x : List Sapi_Hop) : Prop:=∃ (ao0 : Option Addr) (cap0 : Nat),r = [(.slice ao0 x.length cap0)] ∧ ZS Z 3 (fun r x=>r = e59 x) ao0 cap0 x
theorem y39 {Z Z' : Zp} (k : Zle Z Z') {r : List Value} {x : List Sapi_Hop} (h : p55 Z r x) : p55 Z' r x:=by
  obtain ⟨ao0,cap0,hr,h0⟩:=h
  exact ⟨ao0,cap0,hr,h0.mono k⟩
structure zSt where
  fTime : Int
  fVL : Int
  fSize : Int
  deriving Inhabited,DecidableEq
def e53 (x : zSt) : List Value:=[(.int .i64 x.fTime),(.int .i64 x.fVL),(.int .i64 x.fSize)]
structure S7 where
  fX : Int
  fY : Int
  fSigned : Bool
  fCode : Int
  deriving Inhabited,DecidableEq
structure S13 where
  fMsg : ByteArray
  fAddr : Int
  deriving Inhabited,DecidableEq
structure Snetwork_exit where
  fNode : Int
  fLink : Int
  deriving Inhabited,DecidableEq
def y1S (x : Snetwork_exit) : List Value:=[(.int .i64 x.fNode),(.int .i64 x.fLink)]
structure Sport_numbers where
  fSlow : Int
  fDelay : Int
  fStore : Int
  deriving Inhabited,DecidableEq
structure Sport_frame where
  fSize : Int
  fFin : Int
  deriving Inhabited,DecidableEq
structure Sport_Port where
  fNumbers : Sport_numbers
  fNow : Int
  fLast : Int
  fFrames : List Sport_frame
  deriving Inhabited,DecidableEq
def y20 (x : Sport_frame) : List Value:=[(.int .i64 x.fSize),(.int .i64 x.fFin)]
theorem y9g : ∀ x,∀ u ∈ y20 x,u.oneCell' = true:=fun _=>ocB rfl
def z12 (g : Nat × (Option Addr × Nat)) (x : Sport_Port) : List Asrt:=[stb g.1 143 [(.int .i64 x.fNumbers.fSlow),(.int .i64 x.fNumbers.fDelay),(.int .i64 x.fNumbers.fStore),(.int .i64 x.fNow),(.int .i64 x.fLast),(.slice g.2.1 x.fFrames.length g.2.2)],row (.slice g.2.1 x.fFrames.length g.2.2) 146 2 (x.fFrames.flatMap y20)]
structure Snetwork_event where
  fTime : Int
  fIn_ : Int
  fVl : Int
  fSent : Int
  fHop : Sapi_Hop
  deriving Inhabited,DecidableEq
def yx (x : Snetwork_event) : List Value:=[(.int .i64 x.fTime),(.int .i64 x.fIn_),(.int .i64 x.fVl),(.int .i64 x.fSent),(.int .i64 x.fHop.fNode),(.int .i64 x.fHop.fNext),(.int .i64 x.fHop.fLink)]
theorem e113_oc : ∀ x,∀ u ∈ yx x,u.oneCell' = true:=fun _=>ocB rfl
structure Sapi_Come where
  fSent : Int
  fNode : Int
  fTime : Int
  deriving Inhabited,DecidableEq
def e50 (x : Sapi_Come) : List Value:=[(.int .i64 x.fSent),(.int .i64 x.fNode),(.int .i64 x.fTime)]
theorem e50_oc : ∀ x,∀ u ∈ e50 x,u.oneCell' = true:=fun _=>ocB rfl
structure S51 where
  a0 : Int
  a1 : Int
  deriving Inhabited,DecidableEq
structure S67 where
  fAll : List Sapi_Come
  fOwn : List Sapi_Come
  deriving Inhabited,DecidableEq
structure S90 where
  fSlow : Int
  fDelay : Int
  fStore : Int
  fNow : Int
  fAt : List Int
  fSize : List Int
  fEnd : List Int
  deriving Inhabited,DecidableEq
structure S92 where
  fNode : Int
  fLink : Int
  fPort : S90
  deriving Inhabited,DecidableEq
theorem y1t : y4G Try.prog 31 8:=y4c (i:=Try.t31) Try.underlying31 rfl rfl
theorem y3V : yB Try.prog 31 0 0:=yp (i:=Try.t22) Try.underlying31 rfl rfl (by decide) rfl
theorem y3W : y43 Try.prog 22:=y35 Try.underlying22 rfl
theorem y2P : yB Try.prog 31 2 2:=yp (i:=Try.t24) Try.underlying31 rfl rfl (by decide) rfl
theorem y3i : y43 Try.prog 24:=y35 Try.underlying24 rfl
theorem y6P : yB Try.prog 31 3 3:=yp (i:=Try.t25) Try.underlying31 rfl rfl (by decide) rfl
theorem y6Q : y43 Try.prog 25:=y35 Try.underlying25 rfl
theorem y6R : yB Try.prog 31 4 4:=yp (i:=Try.t26) Try.underlying31 rfl rfl (by decide) rfl
theorem y6S : y43 Try.prog 26:=y35 Try.underlying26 rfl
theorem y5K : elT Try.prog 32 55 1 24:=⟨Try.underlying32,⟨Try.t55,_,rfl,rfl,rfl,rfl,rfl⟩,by decide⟩
theorem y5L : y43 Try.prog 55:=y35 Try.underlying55 rfl
theorem yg : y43 Try.prog 3:=y35 Try.underlying3 rfl
theorem y5M : elT Try.prog 55 59 3 24:=⟨Try.underlying55,⟨Try.t59,_,rfl,rfl,rfl,rfl,rfl⟩,by decide⟩
theorem y5N : y4G Try.prog 59 3:=y4c (i:=Try.t59) Try.underlying59 rfl rfl
theorem y7f : y3s Try.prog 59 (.agg #[(.int .i64 0),(.int .i64 0),(.int .i64 0)]):=y3o (i:=Try.t59) rfl rfl
theorem y7N : y3L Try.prog 59 3:=y2G (i:=Try.t59) rfl
theorem y3v : yB Try.prog 59 0 0:=yp (i:=Try.t3) Try.underlying59 rfl rfl (by decide) rfl
theorem y6T : y3s Try.prog 3 (.int .i64 0):=y3o (i:=Try.t3) rfl rfl
theorem y5O : KeyT Try.prog 3 (Value.int .i64):=keyT_int Try.underlying3
theorem y4r : yB Try.prog 59 1 1:=yp (i:=Try.t3) Try.underlying59 rfl rfl (by decide) rfl
theorem y6U : yB Try.prog 59 2 2:=yp (i:=Try.t3) Try.underlying59 rfl rfl (by decide) rfl
theorem y8I : elT Try.prog 25 62 4 48:=⟨Try.underlying25,⟨Try.t62,_,rfl,rfl,rfl,rfl,rfl⟩,by decide⟩
theorem aggT_62 : y4G Try.prog 62 4:=y4c (i:=Try.t62) Try.underlying62 rfl rfl
theorem zeroT_62 : y3s Try.prog 62 (.agg #[(.string ⟨#[]⟩),(.string ⟨#[]⟩),(.int .i64 0),(.int .i64 0)]):=y3o (i:=Try.t62) rfl rfl
theorem sizT_62 : y3L Try.prog 62 4:=y2G (i:=Try.t62) rfl
theorem fo_62_0 : yB Try.prog 62 0 0:=yp (i:=Try.t9) Try.underlying62 rfl rfl (by decide) rfl
theorem y7w : y43 Try.prog 9:=y35 Try.underlying9 rfl
theorem elT_22 : elT Try.prog 22 104 4 56:=⟨Try.underlying22,⟨Try.t104,_,rfl,rfl,rfl,rfl,rfl⟩,by decide⟩
theorem fo_104_0 : yB Try.prog 104 0 0:=yp (i:=Try.t9) Try.underlying104 rfl rfl (by decide) rfl
theorem y3P : elT Try.prog 24 64 4 40:=⟨Try.underlying24,⟨Try.t64,_,rfl,rfl,rfl,rfl,rfl⟩,by decide⟩
theorem fo_64_0 : yB Try.prog 64 0 0:=yp (i:=Try.t9) Try.underlying64 rfl rfl (by decide) rfl
theorem fo_62_1 : yB Try.prog 62 1 1:=yp (i:=Try.t9) Try.underlying62 rfl rfl (by decide) rfl
theorem fo_62_2 : yB Try.prog 62 2 2:=yp (i:=Try.t3) Try.underlying62 rfl rfl (by decide) rfl
theorem y7O : yB Try.prog 62 3 3:=yp (i:=Try.t3) Try.underlying62 rfl rfl (by decide) rfl
theorem aggT_64 : y4G Try.prog 64 4:=y4c (i:=Try.t64) Try.underlying64 rfl rfl
theorem zeroT_64 : y3s Try.prog 64 (.agg #[(.string ⟨#[]⟩),(.int .i64 0),(.int .i64 0),(.int .i64 0)]):=y3o (i:=Try.t64) rfl rfl
theorem sizT_64 : y3L Try.prog 64 4:=y2G (i:=Try.t64) rfl
theorem y9h : yB Try.prog 64 1 1:=yp (i:=Try.t3) Try.underlying64 rfl rfl (by decide) rfl
theorem y7P : yB Try.prog 64 2 2:=yp (i:=Try.t3) Try.underlying64 rfl rfl (by decide) rfl
theorem y5P : yB Try.prog 64 3 3:=yp (i:=Try.t3) Try.underlying64 rfl rfl (by decide) rfl
theorem y4y : elT Try.prog 33 53 3 24:=⟨Try.underlying33,⟨Try.t53,_,rfl,rfl,rfl,rfl,rfl⟩,by decide⟩
theorem y6V : y4G Try.prog 53 3:=y4c (i:=Try.t53) Try.underlying53 rfl rfl
theorem y6d : y3s Try.prog 53 (.agg #[(.int .i64 0),(.int .i64 0),(.int .i64 0)]):=y3o (i:=Try.t53) rfl rfl
theorem y6W : y3L Try.prog 53 3:=y2G (i:=Try.t53) rfl
theorem y4f : yB Try.prog 53 0 0:=yp (i:=Try.t3) Try.underlying53 rfl rfl (by decide) rfl
theorem y4J : yB Try.prog 53 1 1:=yp (i:=Try.t3) Try.underlying53 rfl rfl (by decide) rfl
theorem y5Q : yB Try.prog 53 2 2:=yp (i:=Try.t3) Try.underlying53 rfl rfl (by decide) rfl
theorem y5d : elT Try.prog 56 3 1 8:=⟨Try.underlying56,⟨Try.t3,_,rfl,rfl,rfl,rfl,rfl⟩,by decide⟩
theorem y4o : y3s Try.prog 31 (.agg #[(.slice none 0 0),(.slice none 0 0),(.slice none 0 0),(.slice none 0 0),(.slice none 0 0),(.slice none 0 0),(.slice none 0 0),(.slice none 0 0)]):=y3o (i:=Try.t31) rfl rfl
theorem elT_26 : elT Try.prog 26 109 7 104:=⟨Try.underlying26,⟨Try.t109,_,rfl,rfl,rfl,rfl,rfl⟩,by decide⟩
theorem y5R : y3L Try.prog 31 8:=y2G (i:=Try.t31) rfl
theorem y9i : yB Try.prog 81 2 9:=yp (i:=Try.t33) Try.underlying81 rfl rfl (by decide) rfl
theorem y9j : y43 Try.prog 33:=y35 Try.underlying33 rfl
theorem fo_81_1 : yB Try.prog 81 1 8:=yp (i:=Try.t32) Try.underlying81 rfl rfl (by decide) rfl
theorem oneT_32 : y43 Try.prog 32:=y35 Try.underlying32 rfl
theorem y7Q : yB Try.prog 81 4 11:=yp (i:=Try.t79) Try.underlying81 rfl rfl (by decide) rfl
theorem y8J (p : Option Addr) : ∀ w,(method (Try.prog.types.size + Made.depth) 111 (.pointer p) "Push").run Try.prog w = .ok (92,.pointer p) w:=fun _=>by kernel_rfl
theorem y55 : y43 Try.prog 79:=y35 Try.underlying79 rfl
theorem y4j : elT Try.prog 79 113 7 56:=⟨Try.underlying79,⟨Try.t113,_,rfl,rfl,rfl,rfl,rfl⟩,by decide⟩
theorem y9k : y3L Try.prog 79 1:=y2G (i:=Try.t79) rfl
theorem y78 {A : Addr} {v : Value} : ∀ w : World,w.cell? A = some v → (method (Try.prog.types.size + Made.depth) 111 (.pointer (some A)) "Len").run Try.prog w = .ok (86,v) w:=fun w h=>y6c (i:=Try.t111) rfl rfl rfl rfl Try.underlying111 y55 h
theorem y5e {A : Addr} {v : Value} : ∀ w : World,w.cell? A = some v → (method (Try.prog.types.size + Made.depth) 111 (.pointer (some A)) "Less").run Try.prog w = .ok (87,v) w:=fun w h=>y6c (i:=Try.t111) rfl rfl rfl rfl Try.underlying111 y55 h
theorem za2 : y4G Try.prog 113 7:=y4c (i:=Try.t113) Try.underlying113 rfl rfl
theorem y6e : yB Try.prog 113 0 0:=yp (i:=Try.t3) Try.underlying113 rfl rfl (by decide) rfl
theorem y8K : yB Try.prog 113 1 1:=yp (i:=Try.t3) Try.underlying113 rfl rfl (by decide) rfl
theorem y8L : yB Try.prog 113 2 2:=yp (i:=Try.t3) Try.underlying113 rfl rfl (by decide) rfl
theorem y4K : yB Try.prog 113 3 3:=yp (i:=Try.t3) Try.underlying113 rfl rfl (by decide) rfl
theorem y5f {A : Addr} {v : Value} : ∀ w : World,w.cell? A = some v → (method (Try.prog.types.size + Made.depth) 111 (.pointer (some A)) "Swap").run Try.prog w = .ok (88,v) w:=fun w h=>y6c (i:=Try.t111) rfl rfl rfl rfl Try.underlying111 y55 h
theorem zev : y3L Try.prog 113 7:=y2G (i:=Try.t113) rfl
theorem y95 (p : Option Addr) : ∀ w,(method (Try.prog.types.size + Made.depth) 111 (.pointer p) "Pop").run Try.prog w = .ok (91,.pointer p) w:=fun _=>by kernel_rfl
theorem zk7 : y3s Try.prog 113 (.agg #[(.int .i64 0),(.int .i64 0),(.int .i64 0),(.int .i64 0),(.int .i64 0),(.int .i64 0),(.int .i64 0)]):=y3o (i:=Try.t113) rfl rfl
theorem y4L : yB Try.prog 113 4 4:=yp (i:=Try.t59) Try.underlying113 rfl rfl (by decide) rfl
theorem zos : y3s Try.prog 136 (.agg #[(.int .i64 0),(.int .i64 0)]):=y3o (i:=Try.t136) rfl rfl
theorem zot : y3L Try.prog 136 2:=y2G (i:=Try.t136) rfl
theorem y7R : yB Try.prog 81 3 10:=yp (i:=Try.t77) Try.underlying81 rfl rfl (by decide) rfl
theorem y7S : y43 Try.prog 77:=y35 Try.underlying77 rfl
theorem zgo : y4G Try.prog 136 2:=y4c (i:=Try.t136) Try.underlying136 rfl rfl
theorem zk8 : y3s Try.prog 116 (.pointer none):=y3o (i:=Try.t116) rfl rfl
theorem zou : EqT Try.prog 136 y1S:=⟨fun u v w=>by
  have i136_10000:=fun (w : World) (a b : Array Value)=>run_equalIn_agg (P:=Try.prog) w 9999 136 a b (by simp [Program.fieldsOf,Try.underlying136]) (by kernel_rfl)
  have i3_9999:=fun (w : World) (a b : Int)=>run_equalIn_int (P:=Try.prog) w 9998 3 .i64 .i64 a b Try.underlying3
  rw [i136_10000]
  simp [Program.fieldsOf,Op.eqFields,part,y1S,i136_10000,Try.underlying136,i3_9999]
  rcases u with ⟨u1,u2⟩
  rcases v with ⟨v1,v2⟩
  by_cases h1 : u1 = v1 <;> by_cases h2 : u2 = v2 <;> simp [h1,h2],by kernel_rfl⟩
theorem zgp : KeyT Try.prog 136 (fun x=>Value.agg (y1S x).toArray):=keyT_agg Try.underlying136 (fun _ _=>rfl) (fun b k w=>by
  have c3_9999:=fun (w : World) (a : Int)=>MapKept.run_checkKey (P:=Try.prog) (w:=w) (kt:=3) (k:=.int .i64 a) Try.underlying3 (by simp [MapKept.IsKey]) b 9998
  have ck : ∀ (w : World) (u0 : Int) (u1 : Int),(Instr.checkKey b 10000 136 (.agg #[.int .i64 u0,.int .i64 u1])).run Try.prog w = .ok () w:=fun w u0 u1=>by
    rw [show (10000 : Nat) = 9999 + 1 from rfl,Instr.checkKey]
    simp [run_underlying Try.underlying136,c3_9999,part]
  exact ck w k.fNode k.fLink)
  (fun u v w=>zou.eq u v w)
  (fun k=>by simp [Instr.sameBits,y1S])
theorem y5S : yB Try.prog 81 0 0:=yp (i:=Try.t31) Try.underlying81 rfl rfl (by decide) rfl
theorem y6f : yB Try.prog 143 0 0:=yp (i:=Try.t140) Try.underlying143 rfl rfl (by decide) rfl
theorem y8M : yB Try.prog 140 0 0:=yp (i:=Try.t3) Try.underlying140 rfl rfl (by decide) rfl
theorem y7g : yB Try.prog 143 1 3:=yp (i:=Try.t3) Try.underlying143 rfl rfl (by decide) rfl
theorem y6H : y3L Try.prog 3 1:=y2G (i:=Try.t3) rfl
theorem y5g : yB Try.prog 143 3 5:=yp (i:=Try.t141) Try.underlying143 rfl rfl (by decide) rfl
theorem zgq : y43 Try.prog 141:=y35 Try.underlying141 rfl
theorem y8N : yB Try.prog 146 1 1:=yp (i:=Try.t3) Try.underlying146 rfl rfl (by decide) rfl
theorem z6O : elT Try.prog 141 146 2 16:=⟨Try.underlying141,⟨Try.t146,_,rfl,rfl,rfl,rfl,rfl⟩,by decide⟩
theorem za3 : y4G Try.prog 146 2:=y4c (i:=Try.t146) Try.underlying146 rfl rfl
theorem zgr : y3s Try.prog 146 (.agg #[(.int .i64 0),(.int .i64 0)]):=y3o (i:=Try.t146) rfl rfl
theorem zgs : y3L Try.prog 146 2:=y2G (i:=Try.t146) rfl
theorem zk9 : y3L Try.prog 141 1:=y2G (i:=Try.t141) rfl
theorem fo_146_0 : yB Try.prog 146 0 0:=yp (i:=Try.t3) Try.underlying146 rfl rfl (by decide) rfl
theorem fo_140_2 : yB Try.prog 140 2 2:=yp (i:=Try.t3) Try.underlying140 rfl rfl (by decide) rfl
theorem fo_140_1 : yB Try.prog 140 1 1:=yp (i:=Try.t3) Try.underlying140 rfl rfl (by decide) rfl
theorem y6g : yB Try.prog 143 2 4:=yp (i:=Try.t3) Try.underlying143 rfl rfl (by decide) rfl
theorem y7T : yB Try.prog 81 6 13:=yp (i:=Try.t36) Try.underlying81 rfl rfl (by decide) rfl
theorem y6X : y43 Try.prog 36:=y35 Try.underlying36 rfl
theorem y1d : elT Try.prog 36 50 3 24:=⟨Try.underlying36,⟨Try.t50,_,rfl,rfl,rfl,rfl,rfl⟩,by decide⟩
theorem y9l : y3L Try.prog 36 1:=y2G (i:=Try.t36) rfl
theorem y7U : yB Try.prog 81 5 12:=yp (i:=Try.t36) Try.underlying81 rfl rfl (by decide) rfl
theorem y9m : yB Try.prog 50 2 2:=yp (i:=Try.t3) Try.underlying50 rfl rfl (by decide) rfl
theorem y9n : yB Try.prog 50 0 0:=yp (i:=Try.t3) Try.underlying50 rfl rfl (by decide) rfl
theorem y9o : yB Try.prog 50 1 1:=yp (i:=Try.t3) Try.underlying50 rfl rfl (by decide) rfl
theorem y2h : y4G Try.prog 50 3:=y4c (i:=Try.t50) Try.underlying50 rfl rfl
theorem y4s : y3L Try.prog 50 3:=y2G (i:=Try.t50) rfl
theorem eqT_50 : EqT Try.prog 50 e50:=⟨fun u v w=>by
  have i50_10000:=fun (w : World) (a b : Array Value)=>run_equalIn_agg (P:=Try.prog) w 9999 50 a b (by simp [Program.fieldsOf,Try.underlying50]) (by kernel_rfl)
  have i3_9999:=fun (w : World) (a b : Int)=>run_equalIn_int (P:=Try.prog) w 9998 3 .i64 .i64 a b Try.underlying3
  rw [i50_10000]
  simp [Program.fieldsOf,Op.eqFields,part,e50,i50_10000,Try.underlying50,i3_9999]
  rcases u with ⟨u1,u2,u3⟩
  rcases v with ⟨v1,v2,v3⟩
  by_cases h1 : u1 = v1 <;> by_cases h2 : u2 = v2 <;> by_cases h3 : u3 = v3 <;> simp [h1,h2,h3],by kernel_rfl⟩
theorem y9p : y3L Try.prog 24 1:=y2G (i:=Try.t24) rfl
def y2K (z2i : List (List Sapi_Hop)) (z6P : Option Bool) : Nat → Int → Option Bool
  | 0,_=>none
  | zgt + 1,z3o=>if decide (z3o < ((z2i.length : Nat) : Int)) then chk ((0 : Int) ≤ z3o ∧ z3o < ((z2i.length : Nat) : Int)) (if decide ((((nth z2i z3o).length : Nat) : Int) > 40) then some false else y2K z2i z6P zgt (i64 (z3o + 1))) else z6P
theorem y6v {n : Nat} {z2i : List (List Sapi_Hop)} {z6P : Option Bool} {z3o : Int} {r : Bool} (h : y2K z2i z6P n z3o = some r) : ∃ m,n = m + 1:=by
  cases n with
  | zero=>cases h
  | succ m=>exact ⟨m,rfl⟩
def y4k (c_75 : Sapi_Config) (z2i : List (List Sapi_Hop)) (z4p : List zSt) : Option Bool :=
  if (((((decide (((c_75.fModules.length : Nat) : Int) > 8)) || (decide (((c_75.fSwitches.length : Nat) : Int) > 8))) || (decide (((c_75.fLinks.length : Nat) : Int) > 20))) || (decide (((c_75.fVLs.length : Nat) : Int) > 20))) || (decide (((z2i.length : Nat) : Int) > 20))) || ((decide (((z4p.length : Nat) : Int) > 40)) && (decide (((z4p.length : Nat) : Int) ≤ 4000))) then some false else jp0 (some true) fun z6P=>y2K z2i z6P yz 0
set_option maxRecDepth 20000 in
theorem y96 (Z : Zp) (ao_76 : Option Addr) (cap_77 : Nat) (ao_79 : Option Addr) (cap_80 : Nat) (ao_82 : Option Addr) (cap_83 : Nat) (ao_85 : Option Addr) (cap_86 : Nat) (ao_88 : Option Addr) (cap_89 : Nat) (ao_91 : Option Addr) (cap_92 : Nat) (ao_94 : Option Addr) (cap_95 : Nat) (ao_97 : Option Addr) (cap_98 : Nat) (zc2 : Option Addr) (zc3 : Nat) (zew : Option Addr) (zex : Nat) (c_75 : Sapi_Config) (z2i : List (List Sapi_Hop)) (z4p : List zSt) (r : Bool)
     (h : y4k c_75 z2i z4p = some r) (w₀ : World) (hz : PZ [] w₀ Z)
     (hs_78 : ZS Z 4 (y2x Z) ao_76 cap_77 c_75.fModules)
     (hs_81 : ZS Z 4 (y2W Z) ao_79 cap_80 c_75.fChannels)
     (hs_84 : ZS Z 4 (fun r x=>r = e64 x) ao_82 cap_83 c_75.fSwitches)
     (hs_87 : ZS Z 4 (fun r x=>r = e62 x) ao_85 cap_86 c_75.fLinks)
     (hs_90 : ZS Z 7 (y2J Z) ao_88 cap_89 c_75.fVLs)
     (hs_93 : ZS Z 5 (fun r x=>r = y2Z x) ao_91 cap_92 c_75.fHealth)
     (hs_96 : ZS Z 3 (y2X Z) ao_94 cap_95 c_75.fCauses)
     (hs_99 : ZS Z 4 (fun r x=>r = y30 x) ao_97 cap_98 c_75.fVersions)
     (zov : ZS Z 1 (p55 Z) zc2 zc3 z2i)
     (zvb : ZS Z 3 (fun r x=>r = e53 x) zew zex z4p) :
    Calls Try.prog 10 #[(.agg #[(.slice ao_76 c_75.fModules.length cap_77),(.slice ao_79 c_75.fChannels.length cap_80),(.slice ao_82 c_75.fSwitches.length cap_83),(.slice ao_85 c_75.fLinks.length cap_86),(.slice ao_88 c_75.fVLs.length cap_89),(.slice ao_91 c_75.fHealth.length cap_92),(.slice ao_94 c_75.fCauses.length cap_95),(.slice ao_97 c_75.fVersions.length cap_98)]),(.slice zc2 z2i.length zc3),(.slice zew z4p.length zex)] w₀ fun e w'=>e = .returned (.bool r) ∧ Hp [] w₀ w' []:=by
  unfold y4k at h
  refine Calls.yk (vs:=[(.agg #[(.slice ao_76 c_75.fModules.length cap_77),(.slice ao_79 c_75.fChannels.length cap_80),(.slice ao_82 c_75.fSwitches.length cap_83),(.slice ao_85 c_75.fLinks.length cap_86),(.slice ao_88 c_75.fVLs.length cap_89),(.slice ao_91 c_75.fHealth.length cap_92),(.slice ao_94 c_75.fCauses.length cap_95),(.slice ao_97 c_75.fVersions.length cap_98)]),(.slice zc2 z2i.length zc3),(.slice zew z4p.length zex)]) (pre:=[]) (env:=[(0,(.agg #[(.slice ao_76 c_75.fModules.length cap_77),(.slice ao_79 c_75.fChannels.length cap_80),(.slice ao_82 c_75.fSwitches.length cap_83),(.slice ao_85 c_75.fLinks.length cap_86),(.slice ao_88 c_75.fVLs.length cap_89),(.slice ao_91 c_75.fHealth.length cap_92),(.slice ao_94 c_75.fCauses.length cap_95),(.slice ao_97 c_75.fVersions.length cap_98)])),(1,(.slice zc2 z2i.length zc3)),(2,(.slice zew z4p.length zex))]) Try.func10 rfl Try.ntmps10 rfl (Hp.nil w₀ _) rfl ?_
  refine WC.b (WC.a ?_)
  refine WL.new (dd:=3) rfl rfl rfl (y2g (cs:=[(.slice ao_76 c_75.fModules.length cap_77),(.slice ao_79 c_75.fChannels.length cap_80),(.slice ao_82 c_75.fSwitches.length cap_83),(.slice ao_85 c_75.fLinks.length cap_86),(.slice ao_88 c_75.fVLs.length cap_89),(.slice ao_91 c_75.fHealth.length cap_92),(.slice ao_94 c_75.fCauses.length cap_95),(.slice ao_97 c_75.fVersions.length cap_98)]) rfl rfl) ?_
  intro zvc _
  refine WL.pu rfl (WL.nil (WX.a (WC.b (WC.b (WC.a ?_)))))
  refine WL.a (d:=9) rfl rfl rfl (ya y3V rfl rfl) ?_
  refine WL.a (d:=10) rfl rfl rfl (yb y3W rfl (yc .here rfl)) ?_
  refine WL.a (d:=11) rfl rfl rfl (yU Try.underlying22 rfl) ?_
  refine WL.pu rfl (WL.pu rfl ?_)
  refine WL.seg false 4 13 (B:=(decide (((c_75.fModules.length : Nat) : Int) > 8)) || (decide (((c_75.fSwitches.length : Nat) : Int) > 8))) rfl rfl rfl rfl rfl rfl (fun h=>(y2k h).symm) (fun _ zow=>?_) ?_
  · skip
    refine WL.a (d:=14) rfl rfl rfl (ya y2P rfl rfl) ?_
    refine WL.a (d:=15) rfl rfl rfl (yb y3i rfl (yc .here rfl)) ?_
    refine WL.a (d:=16) rfl rfl rfl (yU Try.underlying24 rfl) ?_
    refine WL.pu rfl (WL.pu rfl ?_)
    exact WL.ys (y2l zow) rfl rfl .all
  refine WL.pu rfl ?_
  refine WL.seg false 4 19 (B:=((decide (((c_75.fModules.length : Nat) : Int) > 8)) || (decide (((c_75.fSwitches.length : Nat) : Int) > 8))) || (decide (((c_75.fLinks.length : Nat) : Int) > 20))) rfl rfl rfl rfl rfl rfl (fun h=>(y2k h).symm) (fun _ zox=>?_) ?_
  · skip
    refine WL.a (d:=20) rfl rfl rfl (ya y6P rfl rfl) ?_
    refine WL.a (d:=21) rfl rfl rfl (yb y6Q rfl (yc .here rfl)) ?_
    refine WL.a (d:=22) rfl rfl rfl (yU Try.underlying25 rfl) ?_
    refine WL.pu rfl (WL.pu rfl ?_)
    exact WL.ys (y2l zox) rfl rfl .all
  refine WL.pu rfl ?_
  refine WL.seg false 4 25 (B:=(((decide (((c_75.fModules.length : Nat) : Int) > 8)) || (decide (((c_75.fSwitches.length : Nat) : Int) > 8))) || (decide (((c_75.fLinks.length : Nat) : Int) > 20))) || (decide (((c_75.fVLs.length : Nat) : Int) > 20))) rfl rfl rfl rfl rfl rfl (fun h=>(y2k h).symm) (fun _ zoy=>?_) ?_
  · skip
    refine WL.a (d:=26) rfl rfl rfl (ya y6R rfl rfl) ?_
    refine WL.a (d:=27) rfl rfl rfl (yb y6S rfl (yc .here rfl)) ?_
    refine WL.a (d:=28) rfl rfl rfl (yU Try.underlying26 rfl) ?_
    refine WL.pu rfl (WL.pu rfl ?_)
    exact WL.ys (y2l zoy) rfl rfl .all
  refine WL.pu rfl ?_
  refine WL.seg false 3 31 (B:=((((decide (((c_75.fModules.length : Nat) : Int) > 8)) || (decide (((c_75.fSwitches.length : Nat) : Int) > 8))) || (decide (((c_75.fLinks.length : Nat) : Int) > 20))) || (decide (((c_75.fVLs.length : Nat) : Int) > 20))) || (decide (((z2i.length : Nat) : Int) > 20))) rfl rfl rfl rfl rfl rfl (fun h=>(y2k h).symm) (fun _ zoz=>?_) ?_
  · skip
    refine WL.pu rfl ?_
    refine WL.a (d:=33) rfl rfl rfl (yU Try.underlying32 rfl) ?_
    refine WL.pu rfl (WL.pu rfl ?_)
    exact WL.ys (y2l zoz) rfl rfl .all
  refine WL.pu rfl ?_
  refine WL.seg false 8 36 (B:=(((((decide (((c_75.fModules.length : Nat) : Int) > 8)) || (decide (((c_75.fSwitches.length : Nat) : Int) > 8))) || (decide (((c_75.fLinks.length : Nat) : Int) > 20))) || (decide (((c_75.fVLs.length : Nat) : Int) > 20))) || (decide (((z2i.length : Nat) : Int) > 20))) || ((decide (((z4p.length : Nat) : Int) > 40)) && (decide (((z4p.length : Nat) : Int) ≤ 4000)))) rfl rfl rfl rfl rfl rfl (fun h=>(y2k h).symm) (fun _ zoA=>?_) ?_
  · skip
    refine WL.pu rfl ?_
    refine WL.a (d:=38) rfl rfl rfl (yU Try.underlying33 rfl) ?_
    refine WL.pu rfl (WL.pu rfl ?_)
    refine WL.seg true 3 40 (B:=(decide (((z4p.length : Nat) : Int) > 40)) && (decide (((z4p.length : Nat) : Int) ≤ 4000))) rfl rfl rfl rfl rfl rfl (fun h=>(y2t h).symm) (fun _ zoB=>?_) ?_
    · skip
      refine WL.pu rfl ?_
      refine WL.a (d:=42) rfl rfl rfl (yU Try.underlying33 rfl) ?_
      refine WL.pu rfl (WL.pu rfl ?_)
      exact WL.ys (y2u zoB) rfl rfl .all
    refine WL.pu rfl ?_
    exact WL.ys (y2l zoA) rfl rfl .all
  refine WL.nil (WX.a ?_)
  refine WC.cond rfl (fun zgu=>?_) (fun zgu=>?_)
  · replace h:=yl h zgu
    refine WC.b (WC.a (WL.pu rfl (WL.nil (WX.a (WC.ret (WX.yj ?_))))))
    obtain rfl:=Option.some.inj h
    refine WX.yh Try.results10 (.tmp rfl .nil) (fun w hw=>?_)
    exact ⟨y12 rfl,hw.sub .nil⟩
  · replace h:=ym h zgu
    refine WC.skip (WX.a ?_)
    obtain ⟨z6P,zoC,h⟩:=y2U h
    refine WC.y2v ((z6P = some r)) ([]) ([]) ?_ ?_
    · skip
      refine WC.b (WC.a (WL.pu rfl ?_))
      refine WL.a (d:=47) rfl rfl rfl (yU Try.underlying32 rfl) ?_
      refine WL.pu rfl (WL.nil (WX.a (WC.block ?_)))
      refine WC.y45 (fun (za4 : Nat) (z3o : Int)=>(y2K z2i z6P za4 z3o = some r)) (fun (za4 : Nat) (z3o : Int)=>[(46,(.slice zc2 z2i.length zc3)),(47,(.int .i64 ((z2i.length : Nat) : Int))),(48,(.int .i64 z3o))]) (fun (za4 : Nat) (z3o : Int)=>[]) (fun (za4 : Nat) (z3o : Int)=>za4) ⟨yz,0⟩ h (.cons rfl (.cons rfl (.cons rfl .nil))) .nil ?_
      rintro za4 z3o h
      obtain ⟨zgt,rfl⟩:=y6v h
      rw [y2K] at h
      refine WC.b (WC.a (WL.pu rfl (WL.nil (WX.a (WC.b ?_)))))
      refine WC.cond rfl (fun zgv=>?_) (fun zgv=>?_)
      · replace h:=yl h zgv
        refine WC.skip (WX.a (WC.b (WC.block (WC.b ?_))))
        obtain ⟨zoD,h⟩:=yi h
        refine WC.a ?_
        refine WL.znth (dd:=50) rfl rfl (Z:=Z) (Pr:=(p55 Z)) y5K rfl rfl zov zoD ?_
        rintro zvd zve zoE zvf ⟨zvg,zvh,rfl,zvi⟩
        refine WL.a (d:=51) rfl rfl rfl (yb y5L rfl (rd_z hz.pv zoE rfl)) ?_
        refine WL.pu rfl (WL.nil (WX.a (WC.b (WC.a (WL.pu rfl ?_)))))
        refine WL.a (d:=53) rfl rfl rfl (yU Try.underlying55 rfl) ?_
        refine WL.pu rfl (WL.nil (WX.a ?_))
        refine WC.cond rfl (fun zgw=>?_) (fun zgw=>?_)
        · replace h:=yl h zgw
          refine WC.b (WC.a (WL.pu rfl (WL.nil (WX.a (WC.ret (WX.yL (WX.yj (WX.yj (WX.yL (WX.yj ?_))))))))))
          obtain rfl:=Option.some.inj h
          refine WX.yh Try.results10 (.tmp rfl .nil) (fun w hw=>?_)
          exact ⟨y12 rfl,hw.sub .nil⟩
        · replace h:=ym h zgw
          refine WC.skip (WX.yf (WX.a (WC.a (WL.pu rfl (WL.pu rfl (WL.nil ?_))))))
          exact WX.round (G:=Nat × Int) ⟨zgt,(i64 (z3o + 1))⟩ h (Nat.lt_succ_self _) (.cons rfl (.cons rfl (.cons rfl .nil))) .nil
      · replace h:=ym h zgv
        refine WC.exit (WX.ye (WX.ye (WX.yA ?_)))
        exact WX.mid (G:=Unit) () h .nil .nil
    · rintro  h
      replace h:=zoC.symm.trans h
      refine WC.b (WC.a (WL.pu rfl (WL.nil (WX.a (WC.ret ?_)))))
      obtain rfl:=Option.some.inj h
      refine WX.yh Try.results10 (.tmp rfl .nil) (fun w hw=>?_)
      exact ⟨y12 rfl,hw.sub .nil⟩
def y1B (zT : Sapi_Config) : Option Int :=
  some (i64 (((zT.fModules.length : Nat) : Int) + ((zT.fSwitches.length : Nat) : Int)))
set_option maxRecDepth 20000 in
theorem y4z (Z : Zp) (zc4 : Option Addr) (zc5 : Nat) (zc6 : Option Addr) (zc7 : Nat) (zc8 : Option Addr) (zc9 : Nat) (zca : Option Addr) (zcb : Nat) (zcc : Option Addr) (zcd : Nat) (zce : Option Addr) (zcf : Nat) (zcg : Option Addr) (zch : Nat) (zci : Option Addr) (zcj : Nat) (zT : Sapi_Config) (r : Int)
     (h : y1B zT = some r) (w₀ : World) (hz : PZ [] w₀ Z)
     (zvj : ZS Z 4 (y2x Z) zc4 zc5 zT.fModules)
     (zvk : ZS Z 4 (y2W Z) zc6 zc7 zT.fChannels)
     (zvl : ZS Z 4 (fun r x=>r = e64 x) zc8 zc9 zT.fSwitches)
     (zvm : ZS Z 4 (fun r x=>r = e62 x) zca zcb zT.fLinks)
     (zvn : ZS Z 7 (y2J Z) zcc zcd zT.fVLs)
     (zvo : ZS Z 5 (fun r x=>r = y2Z x) zce zcf zT.fHealth)
     (zvp : ZS Z 3 (y2X Z) zcg zch zT.fCauses)
     (zvq : ZS Z 4 (fun r x=>r = y30 x) zci zcj zT.fVersions) :
    Calls Try.prog 17 #[(.agg #[(.slice zc4 zT.fModules.length zc5),(.slice zc6 zT.fChannels.length zc7),(.slice zc8 zT.fSwitches.length zc9),(.slice zca zT.fLinks.length zcb),(.slice zcc zT.fVLs.length zcd),(.slice zce zT.fHealth.length zcf),(.slice zcg zT.fCauses.length zch),(.slice zci zT.fVersions.length zcj)])] w₀ fun e w'=>e = .returned (.int .i64 r) ∧ Hp [] w₀ w' []:=by
  unfold y1B at h
  refine Calls.yk (vs:=[(.agg #[(.slice zc4 zT.fModules.length zc5),(.slice zc6 zT.fChannels.length zc7),(.slice zc8 zT.fSwitches.length zc9),(.slice zca zT.fLinks.length zcb),(.slice zcc zT.fVLs.length zcd),(.slice zce zT.fHealth.length zcf),(.slice zcg zT.fCauses.length zch),(.slice zci zT.fVersions.length zcj)])]) (pre:=[]) (env:=[(0,(.agg #[(.slice zc4 zT.fModules.length zc5),(.slice zc6 zT.fChannels.length zc7),(.slice zc8 zT.fSwitches.length zc9),(.slice zca zT.fLinks.length zcb),(.slice zcc zT.fVLs.length zcd),(.slice zce zT.fHealth.length zcf),(.slice zcg zT.fCauses.length zch),(.slice zci zT.fVersions.length zcj)]))]) Try.func17 rfl Try.ntmps17 rfl (Hp.nil w₀ _) rfl ?_
  refine WC.b (WC.a ?_)
  refine WL.new (dd:=1) rfl rfl rfl (y2g (cs:=[(.slice zc4 zT.fModules.length zc5),(.slice zc6 zT.fChannels.length zc7),(.slice zc8 zT.fSwitches.length zc9),(.slice zca zT.fLinks.length zcb),(.slice zcc zT.fVLs.length zcd),(.slice zce zT.fHealth.length zcf),(.slice zcg zT.fCauses.length zch),(.slice zci zT.fVersions.length zcj)]) rfl rfl) ?_
  intro zvr _
  refine WL.pu rfl (WL.nil (WX.a (WC.b (WC.a ?_))))
  refine WL.a (d:=3) rfl rfl rfl (ya y3V rfl rfl) ?_
  refine WL.a (d:=4) rfl rfl rfl (yb y3W rfl (yc .here rfl)) ?_
  refine WL.a (d:=5) rfl rfl rfl (yU Try.underlying22 rfl) ?_
  refine WL.a (d:=6) rfl rfl rfl (ya y2P rfl rfl) ?_
  refine WL.a (d:=7) rfl rfl rfl (yb y3i rfl (yc .here rfl)) ?_
  refine WL.a (d:=8) rfl rfl rfl (yU Try.underlying24 rfl) ?_
  refine WL.pu rfl (WL.pu rfl (WL.nil (WX.a (WC.ret ?_))))
  obtain rfl:=Option.some.inj h
  refine WX.yh Try.results17 (.tmp rfl .nil) (fun w hw=>?_)
  exact ⟨y12 rfl,hw.sub .nil⟩
def y29 (zN : Sapi_Config) (z3z : Int) : Option ByteArray :=
  (if decide (z3z < 0) then some true else (y1B zN).bind fun zka=>some (decide (z3z ≥ zka))).bind fun zgx=>if zgx then some ⟨#[]⟩ else if decide (z3z < ((zN.fModules.length : Nat) : Int)) then chk ((0 : Int) ≤ z3z ∧ z3z < ((zN.fModules.length : Nat) : Int)) (some ((nth zN.fModules z3z).fName)) else chk ((0 : Int) ≤ (i64 (z3z - ((zN.fModules.length : Nat) : Int))) ∧ (i64 (z3z - ((zN.fModules.length : Nat) : Int))) < ((zN.fSwitches.length : Nat) : Int)) (some ((nth zN.fSwitches (i64 (z3z - ((zN.fModules.length : Nat) : Int)))).fName))
set_option maxRecDepth 20000 in
theorem y5T (Z : Zp) (zck : Option Addr) (zcl : Nat) (zcm : Option Addr) (zcn : Nat) (zco : Option Addr) (zcp : Nat) (zcq : Option Addr) (zcr : Nat) (zcs : Option Addr) (zct : Nat) (zcu : Option Addr) (zcv : Nat) (zcw : Option Addr) (zcx : Nat) (zcy : Option Addr) (zcz : Nat) (zN : Sapi_Config) (z3z : Int) (r : ByteArray)
     (h : y29 zN z3z = some r) (w₀ : World) (hz : PZ [] w₀ Z)
     (zkb : ZS Z 4 (y2x Z) zck zcl zN.fModules)
     (zoF : ZS Z 4 (y2W Z) zcm zcn zN.fChannels)
     (zkc : ZS Z 4 (fun r x=>r = e64 x) zco zcp zN.fSwitches)
     (zoG : ZS Z 4 (fun r x=>r = e62 x) zcq zcr zN.fLinks)
     (zoH : ZS Z 7 (y2J Z) zcs zct zN.fVLs)
     (zoI : ZS Z 5 (fun r x=>r = y2Z x) zcu zcv zN.fHealth)
     (zoJ : ZS Z 3 (y2X Z) zcw zcx zN.fCauses)
     (zoK : ZS Z 4 (fun r x=>r = y30 x) zcy zcz zN.fVersions) :
    Calls Try.prog 18 #[(.agg #[(.slice zck zN.fModules.length zcl),(.slice zcm zN.fChannels.length zcn),(.slice zco zN.fSwitches.length zcp),(.slice zcq zN.fLinks.length zcr),(.slice zcs zN.fVLs.length zct),(.slice zcu zN.fHealth.length zcv),(.slice zcw zN.fCauses.length zcx),(.slice zcy zN.fVersions.length zcz)]),(.int .i64 z3z)] w₀ fun e w'=>e = .returned (.string r) ∧ Hp [] w₀ w' []:=by
  unfold y29 at h
  refine Calls.yk (vs:=[(.agg #[(.slice zck zN.fModules.length zcl),(.slice zcm zN.fChannels.length zcn),(.slice zco zN.fSwitches.length zcp),(.slice zcq zN.fLinks.length zcr),(.slice zcs zN.fVLs.length zct),(.slice zcu zN.fHealth.length zcv),(.slice zcw zN.fCauses.length zcx),(.slice zcy zN.fVersions.length zcz)]),(.int .i64 z3z)]) (pre:=[]) (env:=[(0,(.agg #[(.slice zck zN.fModules.length zcl),(.slice zcm zN.fChannels.length zcn),(.slice zco zN.fSwitches.length zcp),(.slice zcq zN.fLinks.length zcr),(.slice zcs zN.fVLs.length zct),(.slice zcu zN.fHealth.length zcv),(.slice zcw zN.fCauses.length zcx),(.slice zcy zN.fVersions.length zcz)])),(1,(.int .i64 z3z))]) Try.func18 rfl Try.ntmps18 rfl (Hp.nil w₀ _) rfl ?_
  refine WC.b (WC.a ?_)
  refine WL.new (dd:=2) rfl rfl rfl (y2g (cs:=[(.slice zck zN.fModules.length zcl),(.slice zcm zN.fChannels.length zcn),(.slice zco zN.fSwitches.length zcp),(.slice zcq zN.fLinks.length zcr),(.slice zcs zN.fVLs.length zct),(.slice zcu zN.fHealth.length zcv),(.slice zcw zN.fCauses.length zcx),(.slice zcy zN.fVersions.length zcz)]) rfl rfl) ?_
  intro zvs _
  refine WL.pu rfl (WL.nil (WX.a (WC.b (WC.a ?_))))
  refine WL.a (d:=6) rfl rfl rfl (ya y3V rfl rfl) ?_
  refine WL.a (d:=7) rfl rfl rfl (yb y3W rfl (yc .here rfl)) ?_
  refine WL.a (d:=8) rfl rfl rfl (yU Try.underlying22 rfl) ?_
  refine WL.pu rfl (WL.nil (WX.a (WC.block (WC.b ?_))))
  obtain ⟨zgx,zkd,h⟩:=zh h
  refine WC.a (WL.pu rfl (WL.pu rfl (WL.pu rfl ?_)))
  refine WL.seg false 4 20 (B:=zgx) rfl rfl rfl rfl rfl rfl (fun h=>(Option.some.inj (yl zkd h)).symm) (fun _ zoL=>?_) ?_
  · skip
    have zcA:=ym zkd zoL
    obtain ⟨zka,zoM,zcA⟩:=zh zcA
    replace zcA:=Option.some.inj zcA
    refine WL.pu rfl ?_
    refine WL.a (d:=22) rfl rfl rfl (yD y1t rfl (y1h .here) rfl) ?_
    refine WL.b (dd:=23) rfl rfl rfl (zz (l:=[.tmp 22]) Try.call17 (.cons rfl .nil)) .nil (cc hz .nil fun w pz ho=>y4z _ _ _ _ _ _ _ _ _ _ _ _ _ _ _ _ _ _ _ zoM w pz zkb zoF zkc zoG zoH zoI zoJ zoK) ?_
    refine WL.pu rfl (WL.pu rfl ?_)
    exact WL.ys zcA rfl rfl .all
  refine WL.pu rfl (WL.nil (WX.a ?_))
  refine WC.cond rfl (fun zgy=>?_) (fun zgy=>?_)
  · replace h:=yl h zgy
    refine WC.b (WC.a (WL.pu rfl (WL.nil (WX.a (WC.ret (WX.yL ?_))))))
    obtain rfl:=Option.some.inj h
    refine WX.yh Try.results18 (.tmp rfl .nil) (fun w hw=>?_)
    exact ⟨y12 rfl,hw.sub .nil⟩
  · replace h:=ym h zgy
    refine WC.b (WC.a (WL.pu rfl (WL.pu rfl (WL.pu rfl (WL.pu rfl (WL.nil (WX.a ?_)))))))
    refine WC.cond rfl (fun zgz=>?_) (fun zgz=>?_)
    · replace h:=yl h zgz
      refine WC.b ?_
      obtain ⟨zoN,h⟩:=yi h
      refine WC.a ?_
      refine WL.a (d:=30) rfl rfl rfl (ya y3V rfl rfl) ?_
      refine WL.a (d:=31) rfl rfl rfl (yb y3W rfl (yc .here rfl)) ?_
      refine WL.pu rfl ?_
      refine WL.znth (dd:=33) rfl rfl (Z:=Z) (Pr:=(y2x Z)) elT_22 rfl rfl zkb zoN ?_
      rintro zvt zvu zoO zvv ⟨zvw,zvx,rfl,zvy⟩
      refine WL.a (d:=34) rfl rfl rfl (ya fo_104_0 rfl rfl) ?_
      refine WL.a (d:=35) rfl rfl rfl (yb y7w rfl (y2b hz.pv zoO rfl)) ?_
      refine WL.pu rfl (WL.nil (WX.a (WC.ret (WX.yL ?_))))
      obtain rfl:=Option.some.inj h
      refine WX.yh Try.results18 (.tmp rfl .nil) (fun w hw=>?_)
      exact ⟨y12 rfl,hw.sub .nil⟩
    · replace h:=ym h zgz
      refine WC.b ?_
      obtain ⟨zoP,h⟩:=yi h
      refine WC.a ?_
      refine WL.a (d:=9) rfl rfl rfl (ya y2P rfl rfl) ?_
      refine WL.a (d:=10) rfl rfl rfl (yb y3i rfl (yc .here rfl)) ?_
      refine WL.pu rfl (WL.pu rfl (WL.pu rfl ?_))
      refine WL.znth (dd:=14) rfl rfl (Z:=Z) (Pr:=(fun r x=>r = e64 x)) y3P rfl rfl zkc zoP ?_
      rintro zvz zvA zoQ zvB rfl
      refine WL.a (d:=15) rfl rfl rfl (ya fo_64_0 rfl rfl) ?_
      refine WL.a (d:=16) rfl rfl rfl (yb y7w rfl (y2b hz.pv zoQ rfl)) ?_
      refine WL.pu rfl (WL.nil (WX.a (WC.ret (WX.yL ?_))))
      obtain rfl:=Option.some.inj h
      refine WX.yh Try.results18 (.tmp rfl .nil) (fun w hw=>?_)
      exact ⟨y12 rfl,hw.sub .nil⟩
def y10 (z6Q : Int) (zL : Sapi_Config) (z3R : ByteArray) (z6R : Option Int) : Nat → Int → Option Int
  | 0,_=>none
  | zgA + 1,z3A=>if decide (z3A < z6Q) then (y29 zL z3A).bind fun zke=>if decide (zke = z3R) then some z3A else y10 z6Q zL z3R z6R zgA (i64 (z3A + 1)) else z6R
theorem y5x {n : Nat} {z6Q : Int} {zL : Sapi_Config} {z3R : ByteArray} {z6R : Option Int} {z3A : Int} {r : Int} (h : y10 z6Q zL z3R z6R n z3A = some r) : ∃ m,n = m + 1:=by
  cases n with
  | zero=>cases h
  | succ m=>exact ⟨m,rfl⟩
def y1m (zL : Sapi_Config) (z3R : ByteArray) : Option Int :=
  jp0 (some (-1)) fun z6R=>(y1B zL).bind fun z6Q=>y10 z6Q zL z3R z6R yz 0
set_option maxRecDepth 20000 in
theorem y5U (Z : Zp) (za5 : Option Addr) (za6 : Nat) (za7 : Option Addr) (za8 : Nat) (za9 : Option Addr) (zaa : Nat) (zab : Option Addr) (zac : Nat) (zad : Option Addr) (zae : Nat) (zaf : Option Addr) (zag : Nat) (zah : Option Addr) (zai : Nat) (zaj : Option Addr) (zak : Nat) (zL : Sapi_Config) (z3R : ByteArray) (r : Int)
     (h : y1m zL z3R = some r) (w₀ : World) (hz : PZ [] w₀ Z)
     (zkf : ZS Z 4 (y2x Z) za5 za6 zL.fModules)
     (zkg : ZS Z 4 (y2W Z) za7 za8 zL.fChannels)
     (zkh : ZS Z 4 (fun r x=>r = e64 x) za9 zaa zL.fSwitches)
     (zki : ZS Z 4 (fun r x=>r = e62 x) zab zac zL.fLinks)
     (zkj : ZS Z 7 (y2J Z) zad zae zL.fVLs)
     (zkk : ZS Z 5 (fun r x=>r = y2Z x) zaf zag zL.fHealth)
     (zkl : ZS Z 3 (y2X Z) zah zai zL.fCauses)
     (zkm : ZS Z 4 (fun r x=>r = y30 x) zaj zak zL.fVersions) :
    Calls Try.prog 59 #[(.agg #[(.slice za5 zL.fModules.length za6),(.slice za7 zL.fChannels.length za8),(.slice za9 zL.fSwitches.length zaa),(.slice zab zL.fLinks.length zac),(.slice zad zL.fVLs.length zae),(.slice zaf zL.fHealth.length zag),(.slice zah zL.fCauses.length zai),(.slice zaj zL.fVersions.length zak)]),(.string z3R)] w₀ fun e w'=>e = .returned (.int .i64 r) ∧ Hp [] w₀ w' []:=by
  unfold y1m at h
  refine Calls.yk (vs:=[(.agg #[(.slice za5 zL.fModules.length za6),(.slice za7 zL.fChannels.length za8),(.slice za9 zL.fSwitches.length zaa),(.slice zab zL.fLinks.length zac),(.slice zad zL.fVLs.length zae),(.slice zaf zL.fHealth.length zag),(.slice zah zL.fCauses.length zai),(.slice zaj zL.fVersions.length zak)]),(.string z3R)]) (pre:=[]) (env:=[(0,(.agg #[(.slice za5 zL.fModules.length za6),(.slice za7 zL.fChannels.length za8),(.slice za9 zL.fSwitches.length zaa),(.slice zab zL.fLinks.length zac),(.slice zad zL.fVLs.length zae),(.slice zaf zL.fHealth.length zag),(.slice zah zL.fCauses.length zai),(.slice zaj zL.fVersions.length zak)])),(1,(.string z3R))]) Try.func59 rfl Try.ntmps59 rfl (Hp.nil w₀ _) rfl ?_
  refine WC.b (WC.a ?_)
  refine WL.new (dd:=2) rfl rfl rfl (y2g (cs:=[(.slice za5 zL.fModules.length za6),(.slice za7 zL.fChannels.length za8),(.slice za9 zL.fSwitches.length zaa),(.slice zab zL.fLinks.length zac),(.slice zad zL.fVLs.length zae),(.slice zaf zL.fHealth.length zag),(.slice zah zL.fCauses.length zai),(.slice zaj zL.fVersions.length zak)]) rfl rfl) ?_
  intro zkn _
  refine WL.pu rfl (WL.nil (WX.a ?_))
  obtain ⟨z6R,zoR,h⟩:=y2U h
  refine WC.y2v ((z6R = some r)) ([]) ([]) ?_ ?_
  · skip
    refine WC.b ?_
    obtain ⟨z6Q,zoS,h⟩:=zh h
    refine WC.a ?_
    refine WL.a (d:=6) rfl rfl rfl (yD y1t rfl (y1h .here) rfl) ?_
    refine WL.b (dd:=7) rfl rfl rfl (zz (l:=[.tmp 6]) Try.call17 (.cons rfl .nil)) .nil (cc hz .nil fun w pz ho=>y4z _ _ _ _ _ _ _ _ _ _ _ _ _ _ _ _ _ _ _ zoS w pz zkf zkg zkh zki zkj zkk zkl zkm) ?_
    refine WL.pu rfl (WL.nil (WX.a (WC.block ?_)))
    refine WC.y45 (fun (zal : Nat) (z3A : Int)=>(y10 z6Q zL z3R z6R zal z3A = some r)) (fun (zal : Nat) (z3A : Int)=>[(1,(.string z3R)),(2,(.pointer (some ⟨zkn,0,none⟩))),(7,(.int .i64 z6Q)),(8,(.int .i64 z3A))]) (fun (zal : Nat) (z3A : Int)=>[stb zkn 31 [(.slice za5 zL.fModules.length za6),(.slice za7 zL.fChannels.length za8),(.slice za9 zL.fSwitches.length zaa),(.slice zab zL.fLinks.length zac),(.slice zad zL.fVLs.length zae),(.slice zaf zL.fHealth.length zag),(.slice zah zL.fCauses.length zai),(.slice zaj zL.fVersions.length zak)]]) (fun (zal : Nat) (z3A : Int)=>zal) ⟨yz,0⟩ h (.cons rfl (.cons rfl (.cons rfl (.cons rfl .nil)))) (.cons .here .nil) ?_
    rintro zal z3A h
    obtain ⟨zgA,rfl⟩:=y5x h
    rw [y10] at h
    refine WC.b (WC.a (WL.pu rfl (WL.nil (WX.a (WC.b ?_)))))
    refine WC.cond rfl (fun zgB=>?_) (fun zgB=>?_)
    · replace h:=yl h zgB
      refine WC.skip (WX.a (WC.b (WC.block (WC.b (WC.a (WL.pu rfl (WL.pu rfl (WL.nil (WX.a (WC.b ?_))))))))))
      obtain ⟨zke,zoT,h⟩:=zh h
      refine WC.a ?_
      refine WL.a (d:=11) rfl rfl rfl (yD y1t rfl (y1h .here) rfl) ?_
      refine WL.pu rfl ?_
      refine WL.b (dd:=13) rfl rfl rfl (zz (l:=[.tmp 11,.tmp 12]) Try.call18 (.cons rfl (.cons rfl .nil))) .nil (cc hz .nil fun w pz ho=>y5T _ _ _ _ _ _ _ _ _ _ _ _ _ _ _ _ _ _ _ _ zoT w pz zkf zkg zkh zki zkj zkk zkl zkm) ?_
      refine WL.pu rfl ?_
      refine WL.a (d:=15) rfl rfl rfl (q_seql rfl rfl) ?_
      refine WL.nil (WX.a ?_)
      refine WC.cond rfl (fun zgC=>?_) (fun zgC=>?_)
      · replace h:=yl h zgC
        refine WC.b (WC.a (WL.pu rfl (WL.pu rfl (WL.nil (WX.a (WC.ret (WX.yL (WX.yj (WX.yj (WX.yL (WX.yj ?_)))))))))))
        obtain rfl:=Option.some.inj h
        refine WX.yh Try.results59 (.tmp rfl .nil) (fun w hw=>?_)
        exact ⟨y12 rfl,hw.sub .nil⟩
      · replace h:=ym h zgC
        refine WC.skip (WX.yf (WX.a (WC.a (WL.pu rfl (WL.pu rfl (WL.nil ?_))))))
        exact WX.round (G:=Nat × Int) ⟨zgA,(i64 (z3A + 1))⟩ h (Nat.lt_succ_self _) (.cons rfl (.cons rfl (.cons rfl (.cons rfl .nil)))) (.cons .here .nil)
    · replace h:=ym h zgB
      refine WC.exit (WX.ye (WX.ye (WX.yA ?_)))
      exact WX.mid (G:=Unit) () h .nil .nil
  · rintro  h
    replace h:=zoR.symm.trans h
    refine WC.b (WC.a (WL.pu rfl (WL.nil (WX.a (WC.ret ?_)))))
    obtain rfl:=Option.some.inj h
    refine WX.yh Try.results59 (.tmp rfl .nil) (fun w hw=>?_)
    exact ⟨y12 rfl,hw.sub .nil⟩
def y36 (zw : Sapi_Config) (z5z : Int) (z1B : Int) : Option Bool :=
  if decide (z1B < ((zw.fModules.length : Nat) : Int)) then some (decide (z1B ≥ 0)) else chk ((0 : Int) ≤ (i64 (z1B - ((zw.fModules.length : Nat) : Int))) ∧ (i64 (z1B - ((zw.fModules.length : Nat) : Int))) < ((zw.fSwitches.length : Nat) : Int)) (some (((((decide (((nth zw.fSwitches (i64 (z1B - ((zw.fModules.length : Nat) : Int)))).fNet) = z5z)) && (decide (((nth zw.fSwitches (i64 (z1B - ((zw.fModules.length : Nat) : Int)))).fDelay) ≥ 0))) && (decide (((nth zw.fSwitches (i64 (z1B - ((zw.fModules.length : Nat) : Int)))).fDelay) ≤ 1000))) && (decide (((nth zw.fSwitches (i64 (z1B - ((zw.fModules.length : Nat) : Int)))).fStore) ≥ 0))) && (decide (((nth zw.fSwitches (i64 (z1B - ((zw.fModules.length : Nat) : Int)))).fStore) ≤ 1073741824))))
set_option maxRecDepth 20000 in
theorem y5V (Z : Zp) (zcB : Option Addr) (zcC : Nat) (zcD : Option Addr) (zcE : Nat) (zcF : Option Addr) (zcG : Nat) (zcH : Option Addr) (zcI : Nat) (zcJ : Option Addr) (zcK : Nat) (zcL : Option Addr) (zcM : Nat) (zcN : Option Addr) (zcO : Nat) (zcP : Option Addr) (zcQ : Nat) (zw : Sapi_Config) (z5z : Int) (z1B : Int) (r : Bool)
     (h : y36 zw z5z z1B = some r) (w₀ : World) (hz : PZ [] w₀ Z)
     (zvC : ZS Z 4 (y2x Z) zcB zcC zw.fModules)
     (zvD : ZS Z 4 (y2W Z) zcD zcE zw.fChannels)
     (zoU : ZS Z 4 (fun r x=>r = e64 x) zcF zcG zw.fSwitches)
     (zvE : ZS Z 4 (fun r x=>r = e62 x) zcH zcI zw.fLinks)
     (zvF : ZS Z 7 (y2J Z) zcJ zcK zw.fVLs)
     (zvG : ZS Z 5 (fun r x=>r = y2Z x) zcL zcM zw.fHealth)
     (zvH : ZS Z 3 (y2X Z) zcN zcO zw.fCauses)
     (zvI : ZS Z 4 (fun r x=>r = y30 x) zcP zcQ zw.fVersions) :
    Calls Try.prog 60 #[(.agg #[(.slice zcB zw.fModules.length zcC),(.slice zcD zw.fChannels.length zcE),(.slice zcF zw.fSwitches.length zcG),(.slice zcH zw.fLinks.length zcI),(.slice zcJ zw.fVLs.length zcK),(.slice zcL zw.fHealth.length zcM),(.slice zcN zw.fCauses.length zcO),(.slice zcP zw.fVersions.length zcQ)]),(.int .i64 z5z),(.int .i64 z1B)] w₀ fun e w'=>e = .returned (.bool r) ∧ Hp [] w₀ w' []:=by
  unfold y36 at h
  refine Calls.yk (vs:=[(.agg #[(.slice zcB zw.fModules.length zcC),(.slice zcD zw.fChannels.length zcE),(.slice zcF zw.fSwitches.length zcG),(.slice zcH zw.fLinks.length zcI),(.slice zcJ zw.fVLs.length zcK),(.slice zcL zw.fHealth.length zcM),(.slice zcN zw.fCauses.length zcO),(.slice zcP zw.fVersions.length zcQ)]),(.int .i64 z5z),(.int .i64 z1B)]) (pre:=[]) (env:=[(0,(.agg #[(.slice zcB zw.fModules.length zcC),(.slice zcD zw.fChannels.length zcE),(.slice zcF zw.fSwitches.length zcG),(.slice zcH zw.fLinks.length zcI),(.slice zcJ zw.fVLs.length zcK),(.slice zcL zw.fHealth.length zcM),(.slice zcN zw.fCauses.length zcO),(.slice zcP zw.fVersions.length zcQ)])),(1,(.int .i64 z5z)),(2,(.int .i64 z1B))]) Try.func60 rfl Try.ntmps60 rfl (Hp.nil w₀ _) rfl ?_
  refine WC.b (WC.a ?_)
  refine WL.new (dd:=3) rfl rfl rfl (y2g (cs:=[(.slice zcB zw.fModules.length zcC),(.slice zcD zw.fChannels.length zcE),(.slice zcF zw.fSwitches.length zcG),(.slice zcH zw.fLinks.length zcI),(.slice zcJ zw.fVLs.length zcK),(.slice zcL zw.fHealth.length zcM),(.slice zcN zw.fCauses.length zcO),(.slice zcP zw.fVersions.length zcQ)]) rfl rfl) ?_
  intro zvJ _
  refine WL.pu rfl (WL.nil (WX.a (WC.b (WC.b (WC.a (WL.pu rfl ?_))))))
  refine WL.a (d:=9) rfl rfl rfl (ya y3V rfl rfl) ?_
  refine WL.a (d:=10) rfl rfl rfl (yb y3W rfl (yc .here rfl)) ?_
  refine WL.a (d:=11) rfl rfl rfl (yU Try.underlying22 rfl) ?_
  refine WL.pu rfl (WL.nil (WX.a ?_))
  refine WC.cond rfl (fun zgD=>?_) (fun zgD=>?_)
  · replace h:=yl h zgD
    refine WC.b (WC.a (WL.pu rfl (WL.pu rfl (WL.pu rfl (WL.nil (WX.a (WC.ret (WX.yj ?_))))))))
    obtain rfl:=Option.some.inj h
    refine WX.yh Try.results60 (.tmp rfl .nil) (fun w hw=>?_)
    exact ⟨y12 rfl,hw.sub .nil⟩
  · replace h:=ym h zgD
    refine WC.skip (WX.a (WC.b ?_))
    obtain ⟨zoV,h⟩:=yi h
    refine WC.a ?_
    refine WL.a (d:=15) rfl rfl rfl (ya y2P rfl rfl) ?_
    refine WL.a (d:=16) rfl rfl rfl (yb y3i rfl (yc .here rfl)) ?_
    refine WL.pu rfl ?_
    refine WL.a (d:=18) rfl rfl rfl (ya y3V rfl rfl) ?_
    refine WL.a (d:=19) rfl rfl rfl (yb y3W rfl (yc .here rfl)) ?_
    refine WL.a (d:=20) rfl rfl rfl (yU Try.underlying22 rfl) ?_
    refine WL.pu rfl ?_
    refine WL.znth (dd:=22) rfl rfl (Z:=Z) (Pr:=(fun r x=>r = e64 x)) y3P rfl rfl zoU zoV ?_
    rintro zvK zvL zoW zvM rfl
    refine WL.a (d:=23) rfl rfl rfl (yD aggT_64 rfl (y3t hz.pv zoW) rfl) ?_
    refine WL.new (dd:=7) rfl rfl rfl (y1U (cs:=[(.string ⟨#[]⟩),(.int .i64 0),(.int .i64 0),(.int .i64 0)]) zeroT_64 rfl) ?_
    intro zvN _
    refine WL.y1r rfl rfl (y1K sizT_64 rfl rfl rfl .here rfl rfl rfl) ?_
    refine WL.nil (WX.a (WC.b (WC.a ?_)))
    refine WL.a (d:=24) rfl rfl rfl (ya y9h rfl rfl) ?_
    refine WL.a (d:=25) rfl rfl rfl (yb yg rfl (yc .here rfl)) ?_
    refine WL.pu rfl (WL.pu rfl (WL.pu rfl ?_))
    refine WL.seg true 3 28 (B:=(decide (((nth zw.fSwitches (i64 (z1B - ((zw.fModules.length : Nat) : Int)))).fNet) = z5z)) && (decide (((nth zw.fSwitches (i64 (z1B - ((zw.fModules.length : Nat) : Int)))).fDelay) ≥ 0))) rfl rfl rfl rfl rfl rfl (fun h=>(y2t h).symm) (fun _ zoX=>?_) ?_
    · skip
      refine WL.a (d:=29) rfl rfl rfl (ya y7P rfl rfl) ?_
      refine WL.a (d:=30) rfl rfl rfl (yb yg rfl (yc .here rfl)) ?_
      refine WL.pu rfl (WL.pu rfl ?_)
      exact WL.ys (y2u zoX) rfl rfl .all
    refine WL.pu rfl ?_
    refine WL.seg true 3 33 (B:=((decide (((nth zw.fSwitches (i64 (z1B - ((zw.fModules.length : Nat) : Int)))).fNet) = z5z)) && (decide (((nth zw.fSwitches (i64 (z1B - ((zw.fModules.length : Nat) : Int)))).fDelay) ≥ 0))) && (decide (((nth zw.fSwitches (i64 (z1B - ((zw.fModules.length : Nat) : Int)))).fDelay) ≤ 1000))) rfl rfl rfl rfl rfl rfl (fun h=>(y2t h).symm) (fun _ zoY=>?_) ?_
    · skip
      refine WL.a (d:=34) rfl rfl rfl (ya y7P rfl rfl) ?_
      refine WL.a (d:=35) rfl rfl rfl (yb yg rfl (yc .here rfl)) ?_
      refine WL.pu rfl (WL.pu rfl ?_)
      exact WL.ys (y2u zoY) rfl rfl .all
    refine WL.pu rfl ?_
    refine WL.seg true 3 38 (B:=(((decide (((nth zw.fSwitches (i64 (z1B - ((zw.fModules.length : Nat) : Int)))).fNet) = z5z)) && (decide (((nth zw.fSwitches (i64 (z1B - ((zw.fModules.length : Nat) : Int)))).fDelay) ≥ 0))) && (decide (((nth zw.fSwitches (i64 (z1B - ((zw.fModules.length : Nat) : Int)))).fDelay) ≤ 1000))) && (decide (((nth zw.fSwitches (i64 (z1B - ((zw.fModules.length : Nat) : Int)))).fStore) ≥ 0))) rfl rfl rfl rfl rfl rfl (fun h=>(y2t h).symm) (fun _ zoZ=>?_) ?_
    · skip
      refine WL.a (d:=39) rfl rfl rfl (ya y5P rfl rfl) ?_
      refine WL.a (d:=40) rfl rfl rfl (yb yg rfl (yc .here rfl)) ?_
      refine WL.pu rfl (WL.pu rfl ?_)
      exact WL.ys (y2u zoZ) rfl rfl .all
    refine WL.pu rfl ?_
    refine WL.seg true 3 43 (B:=((((decide (((nth zw.fSwitches (i64 (z1B - ((zw.fModules.length : Nat) : Int)))).fNet) = z5z)) && (decide (((nth zw.fSwitches (i64 (z1B - ((zw.fModules.length : Nat) : Int)))).fDelay) ≥ 0))) && (decide (((nth zw.fSwitches (i64 (z1B - ((zw.fModules.length : Nat) : Int)))).fDelay) ≤ 1000))) && (decide (((nth zw.fSwitches (i64 (z1B - ((zw.fModules.length : Nat) : Int)))).fStore) ≥ 0))) && (decide (((nth zw.fSwitches (i64 (z1B - ((zw.fModules.length : Nat) : Int)))).fStore) ≤ 1073741824))) rfl rfl rfl rfl rfl rfl (fun h=>(y2t h).symm) (fun _ zp0=>?_) ?_
    · skip
      refine WL.a (d:=44) rfl rfl rfl (ya y5P rfl rfl) ?_
      refine WL.a (d:=45) rfl rfl rfl (yb yg rfl (yc .here rfl)) ?_
      refine WL.pu rfl (WL.pu rfl ?_)
      exact WL.ys (y2u zp0) rfl rfl .all
    refine WL.pu rfl (WL.nil (WX.a (WC.ret ?_)))
    obtain rfl:=Option.some.inj h
    refine WX.yh Try.results60 (.tmp rfl .nil) (fun w hw=>?_)
    exact ⟨y12 rfl,hw.sub .nil⟩
def y3k (zH : Sapi_Config) (z53 : Int) (z1S : Int) (z3S : Int) (z3T : Int) : Option Bool :=
  if (decide (z1S < 0)) || (decide (z1S ≥ ((zH.fLinks.length : Nat) : Int))) then some false else chk ((0 : Int) ≤ z1S ∧ z1S < ((zH.fLinks.length : Nat) : Int)) ((y1m zH ((nth zH.fLinks z1S).fA)).bind fun z4q=>(y1m zH ((nth zH.fLinks z1S).fB)).bind fun z4r=>(if (((decide (((nth zH.fLinks z1S).fNet) = z53)) && (decide (((nth zH.fLinks z1S).fSlow) ≥ 1))) && (decide (((nth zH.fLinks z1S).fSlow) ≤ 16))) && (decide (z4q ≠ z4r)) then (y36 zH z53 z4q).bind fun zko=>some zko else some false).bind fun zgE=>(if zgE then (y36 zH z53 z4r).bind fun zkp=>some zkp else some false).bind fun zey=>some (zey && (((decide (z4q = z3S)) && (decide (z4r = z3T))) || ((decide (z4q = z3T)) && (decide (z4r = z3S))))))
set_option maxRecDepth 20000 in
theorem y7x (Z : Zp) (zcR : Option Addr) (zcS : Nat) (zcT : Option Addr) (zcU : Nat) (zcV : Option Addr) (zcW : Nat) (zcX : Option Addr) (zcY : Nat) (zcZ : Option Addr) (zd0 : Nat) (zd1 : Option Addr) (zd2 : Nat) (zd3 : Option Addr) (zd4 : Nat) (zd5 : Option Addr) (zd6 : Nat) (zH : Sapi_Config) (z53 : Int) (z1S : Int) (z3S : Int) (z3T : Int) (r : Bool)
     (h : y3k zH z53 z1S z3S z3T = some r) (w₀ : World) (hz : PZ [] w₀ Z)
     (zez : ZS Z 4 (y2x Z) zcR zcS zH.fModules)
     (zeA : ZS Z 4 (y2W Z) zcT zcU zH.fChannels)
     (zeB : ZS Z 4 (fun r x=>r = e64 x) zcV zcW zH.fSwitches)
     (zd7 : ZS Z 4 (fun r x=>r = e62 x) zcX zcY zH.fLinks)
     (zeC : ZS Z 7 (y2J Z) zcZ zd0 zH.fVLs)
     (zeD : ZS Z 5 (fun r x=>r = y2Z x) zd1 zd2 zH.fHealth)
     (zeE : ZS Z 3 (y2X Z) zd3 zd4 zH.fCauses)
     (zeF : ZS Z 4 (fun r x=>r = y30 x) zd5 zd6 zH.fVersions) :
    Calls Try.prog 48 #[(.agg #[(.slice zcR zH.fModules.length zcS),(.slice zcT zH.fChannels.length zcU),(.slice zcV zH.fSwitches.length zcW),(.slice zcX zH.fLinks.length zcY),(.slice zcZ zH.fVLs.length zd0),(.slice zd1 zH.fHealth.length zd2),(.slice zd3 zH.fCauses.length zd4),(.slice zd5 zH.fVersions.length zd6)]),(.int .i64 z53),(.int .i64 z1S),(.int .i64 z3S),(.int .i64 z3T)] w₀ fun e w'=>e = .returned (.bool r) ∧ Hp [] w₀ w' []:=by
  unfold y3k at h
  refine Calls.yk (vs:=[(.agg #[(.slice zcR zH.fModules.length zcS),(.slice zcT zH.fChannels.length zcU),(.slice zcV zH.fSwitches.length zcW),(.slice zcX zH.fLinks.length zcY),(.slice zcZ zH.fVLs.length zd0),(.slice zd1 zH.fHealth.length zd2),(.slice zd3 zH.fCauses.length zd4),(.slice zd5 zH.fVersions.length zd6)]),(.int .i64 z53),(.int .i64 z1S),(.int .i64 z3S),(.int .i64 z3T)]) (pre:=[]) (env:=[(0,(.agg #[(.slice zcR zH.fModules.length zcS),(.slice zcT zH.fChannels.length zcU),(.slice zcV zH.fSwitches.length zcW),(.slice zcX zH.fLinks.length zcY),(.slice zcZ zH.fVLs.length zd0),(.slice zd1 zH.fHealth.length zd2),(.slice zd3 zH.fCauses.length zd4),(.slice zd5 zH.fVersions.length zd6)])),(1,(.int .i64 z53)),(2,(.int .i64 z1S)),(3,(.int .i64 z3S)),(4,(.int .i64 z3T))]) Try.func48 rfl Try.ntmps48 rfl (Hp.nil w₀ _) rfl ?_
  refine WC.b (WC.a ?_)
  refine WL.new (dd:=5) rfl rfl rfl (y2g (cs:=[(.slice zcR zH.fModules.length zcS),(.slice zcT zH.fChannels.length zcU),(.slice zcV zH.fSwitches.length zcW),(.slice zcX zH.fLinks.length zcY),(.slice zcZ zH.fVLs.length zd0),(.slice zd1 zH.fHealth.length zd2),(.slice zd3 zH.fCauses.length zd4),(.slice zd5 zH.fVersions.length zd6)]) rfl rfl) ?_
  intro zvO _
  refine WL.pu rfl (WL.nil (WX.a (WC.b (WC.b (WC.a (WL.pu rfl (WL.pu rfl (WL.pu rfl ?_))))))))
  refine WL.seg false 5 16 (B:=(decide (z1S < 0)) || (decide (z1S ≥ ((zH.fLinks.length : Nat) : Int)))) rfl rfl rfl rfl rfl rfl (fun h=>(y2k h).symm) (fun _ zp1=>?_) ?_
  · skip
    refine WL.pu rfl ?_
    refine WL.a (d:=18) rfl rfl rfl (ya y6P rfl rfl) ?_
    refine WL.a (d:=19) rfl rfl rfl (yb y6Q rfl (yc .here rfl)) ?_
    refine WL.a (d:=20) rfl rfl rfl (yU Try.underlying25 rfl) ?_
    refine WL.pu rfl (WL.pu rfl ?_)
    exact WL.ys (y2l zp1) rfl rfl .all
  refine WL.nil (WX.a ?_)
  refine WC.cond rfl (fun zgF=>?_) (fun zgF=>?_)
  · replace h:=yl h zgF
    refine WC.b (WC.a (WL.pu rfl (WL.nil (WX.a (WC.ret (WX.yj ?_))))))
    obtain rfl:=Option.some.inj h
    refine WX.yh Try.results48 (.tmp rfl .nil) (fun w hw=>?_)
    exact ⟨y12 rfl,hw.sub .nil⟩
  · replace h:=ym h zgF
    refine WC.skip (WX.a (WC.b ?_))
    obtain ⟨zp2,h⟩:=yi h
    refine WC.a ?_
    refine WL.a (d:=23) rfl rfl rfl (ya y6P rfl rfl) ?_
    refine WL.a (d:=24) rfl rfl rfl (yb y6Q rfl (yc .here rfl)) ?_
    refine WL.pu rfl ?_
    refine WL.znth (dd:=26) rfl rfl (Z:=Z) (Pr:=(fun r x=>r = e62 x)) y8I rfl rfl zd7 zp2 ?_
    rintro zvP zvQ zp3 zvR rfl
    refine WL.a (d:=27) rfl rfl rfl (yD aggT_62 rfl (y3t hz.pv zp3) rfl) ?_
    refine WL.new (dd:=11) rfl rfl rfl (y1U (cs:=[(.string ⟨#[]⟩),(.string ⟨#[]⟩),(.int .i64 0),(.int .i64 0)]) zeroT_62 rfl) ?_
    intro zvS _
    refine WL.y1r rfl rfl (y1K sizT_62 rfl rfl rfl .here rfl rfl rfl) ?_
    refine WL.nil (WX.a (WC.b ?_))
    obtain ⟨z4q,zp4,h⟩:=zh h
    obtain ⟨z4r,zp5,h⟩:=zh h
    refine WC.yV (fun i=>[].contains i) [] rfl ?_
    refine WD.e (i:=0) (d:=28) (by kernel_rfl) rfl (z2 (by kernel_rfl)) (z3 (by kernel_rfl)) rfl rfl rfl (yD y1t rfl (y1h .h1) rfl) ?_
    refine WD.a (i:=1) (d:=29) (by kernel_rfl) rfl (z2 (by kernel_rfl)) (z3 (by kernel_rfl)) rfl rfl rfl (fun _=>ya fo_62_0 rfl rfl) ?_
    refine WD.e (i:=2) (d:=30) (by kernel_rfl) rfl (z2 (by kernel_rfl)) (z3 (by kernel_rfl)) rfl rfl rfl (yb y7w rfl (yc .here rfl)) ?_
    refine WD.c (i:=3) (d:=31) (by kernel_rfl) rfl (z2 (by kernel_rfl)) (z3 (by kernel_rfl)) rfl rfl rfl (zz (l:=[.tmp 28,.tmp 30]) Try.call59 (.cons rfl (.cons rfl .nil))) (cc hz .nil fun w pz ho=>y5U _ _ _ _ _ _ _ _ _ _ _ _ _ _ _ _ _ _ _ _ zp4 w pz zez zeA zeB zd7 zeC zeD zeE zeF) ?_
    refine WD.e (i:=4) (d:=32) (by kernel_rfl) rfl (z2 (by kernel_rfl)) (z3 (by kernel_rfl)) rfl rfl rfl (yD y1t rfl (y1h .h1) rfl) ?_
    refine WD.a (i:=5) (d:=33) (by kernel_rfl) rfl (z2 (by kernel_rfl)) (z3 (by kernel_rfl)) rfl rfl rfl (fun _=>ya fo_62_1 rfl rfl) ?_
    refine WD.e (i:=6) (d:=34) (by kernel_rfl) rfl (z2 (by kernel_rfl)) (z3 (by kernel_rfl)) rfl rfl rfl (yb y7w rfl (yc .here rfl)) ?_
    refine WD.c (i:=7) (d:=35) (by kernel_rfl) rfl (z2 (by kernel_rfl)) (z3 (by kernel_rfl)) rfl rfl rfl (zz (l:=[.tmp 32,.tmp 34]) Try.call59 (.cons rfl (.cons rfl .nil))) (cc hz .nil fun w pz ho=>y5U _ _ _ _ _ _ _ _ _ _ _ _ _ _ _ _ _ _ _ _ zp5 w pz zez zeA zeB zd7 zeC zeD zeE zeF) ?_
    refine WD.a (i:=8) (d:=12) (by kernel_rfl) rfl (z2 (by kernel_rfl)) (z3 (by kernel_rfl)) rfl rfl rfl (fun _=>q_z rfl) ?_
    refine WD.a (i:=9) (d:=13) (by kernel_rfl) rfl (z2 (by kernel_rfl)) (z3 (by kernel_rfl)) rfl rfl rfl (fun _=>q_z rfl) ?_
    refine WD.done (by kernel_rfl) ?_
    refine WX.a (WC.b ?_)
    obtain ⟨zgE,zkq,h⟩:=zh h
    obtain ⟨zey,zkr,h⟩:=zh h
    refine WC.a ?_
    refine WL.a (d:=36) rfl rfl rfl (ya fo_62_2 rfl rfl) ?_
    refine WL.a (d:=37) rfl rfl rfl (yb yg rfl (yc .here rfl)) ?_
    refine WL.pu rfl (WL.pu rfl (WL.pu rfl ?_))
    refine WL.seg true 3 40 (B:=(decide (((nth zH.fLinks z1S).fNet) = z53)) && (decide (((nth zH.fLinks z1S).fSlow) ≥ 1))) rfl rfl rfl rfl rfl rfl (fun h=>(y2t h).symm) (fun _ zp6=>?_) ?_
    · skip
      refine WL.a (d:=41) rfl rfl rfl (ya y7O rfl rfl) ?_
      refine WL.a (d:=42) rfl rfl rfl (yb yg rfl (yc .here rfl)) ?_
      refine WL.pu rfl (WL.pu rfl ?_)
      exact WL.ys (y2u zp6) rfl rfl .all
    refine WL.pu rfl ?_
    refine WL.seg true 3 45 (B:=((decide (((nth zH.fLinks z1S).fNet) = z53)) && (decide (((nth zH.fLinks z1S).fSlow) ≥ 1))) && (decide (((nth zH.fLinks z1S).fSlow) ≤ 16))) rfl rfl rfl rfl rfl rfl (fun h=>(y2t h).symm) (fun _ zp7=>?_) ?_
    · skip
      refine WL.a (d:=46) rfl rfl rfl (ya y7O rfl rfl) ?_
      refine WL.a (d:=47) rfl rfl rfl (yb yg rfl (yc .here rfl)) ?_
      refine WL.pu rfl (WL.pu rfl ?_)
      exact WL.ys (y2u zp7) rfl rfl .all
    refine WL.pu rfl ?_
    refine WL.seg true 3 50 (B:=(((decide (((nth zH.fLinks z1S).fNet) = z53)) && (decide (((nth zH.fLinks z1S).fSlow) ≥ 1))) && (decide (((nth zH.fLinks z1S).fSlow) ≤ 16))) && (decide (z4q ≠ z4r))) rfl rfl rfl rfl rfl rfl (fun h=>(y2t h).symm) (fun _ zp8=>?_) ?_
    · skip
      refine WL.pu rfl (WL.pu rfl (WL.pu rfl (WL.pu rfl ?_)))
      exact WL.ys (y2u zp8) rfl rfl .all
    refine WL.pu rfl ?_
    refine WL.seg true 4 55 (B:=zgE) rfl rfl rfl rfl rfl rfl (fun h=>(Option.some.inj (ym zkq h)).symm) (fun _ zp9=>?_) ?_
    · skip
      have zd8:=yl zkq zp9
      obtain ⟨zko,zpa,zd8⟩:=zh zd8
      replace zd8:=Option.some.inj zd8
      refine WL.a (d:=56) rfl rfl rfl (yD y1t rfl (y1h .h1) rfl) ?_
      refine WL.pu rfl (WL.pu rfl ?_)
      refine WL.b (dd:=59) rfl rfl rfl (zz (l:=[.tmp 56,.tmp 57,.tmp 58]) Try.call60 (.cons rfl (.cons rfl (.cons rfl .nil)))) .nil (cc hz .nil fun w pz ho=>y5V _ _ _ _ _ _ _ _ _ _ _ _ _ _ _ _ _ _ _ _ _ zpa w pz zez zeA zeB zd7 zeC zeD zeE zeF) ?_
      refine WL.pu rfl ?_
      exact WL.ys zd8 rfl rfl .all
    refine WL.pu rfl ?_
    refine WL.seg true 4 61 (B:=zey) rfl rfl rfl rfl rfl rfl (fun h=>(Option.some.inj (ym zkr h)).symm) (fun _ zpb=>?_) ?_
    · skip
      have zd9:=yl zkr zpb
      obtain ⟨zkp,zpc,zd9⟩:=zh zd9
      replace zd9:=Option.some.inj zd9
      refine WL.a (d:=62) rfl rfl rfl (yD y1t rfl (y1h .h1) rfl) ?_
      refine WL.pu rfl (WL.pu rfl ?_)
      refine WL.b (dd:=65) rfl rfl rfl (zz (l:=[.tmp 62,.tmp 63,.tmp 64]) Try.call60 (.cons rfl (.cons rfl (.cons rfl .nil)))) .nil (cc hz .nil fun w pz ho=>y5V _ _ _ _ _ _ _ _ _ _ _ _ _ _ _ _ _ _ _ _ _ zpc w pz zez zeA zeB zd7 zeC zeD zeE zeF) ?_
      refine WL.pu rfl ?_
      exact WL.ys zd9 rfl rfl .all
    refine WL.pu rfl ?_
    refine WL.seg true 18 67 (B:=zey && (((decide (z4q = z3S)) && (decide (z4r = z3T))) || ((decide (z4q = z3T)) && (decide (z4r = z3S))))) rfl rfl rfl rfl rfl rfl (fun h=>(y2t h).symm) (fun _ zpd=>?_) ?_
    · skip
      refine WL.pu rfl (WL.pu rfl (WL.pu rfl (WL.pu rfl ?_)))
      refine WL.seg true 3 71 (B:=(decide (z4q = z3S)) && (decide (z4r = z3T))) rfl rfl rfl rfl rfl rfl (fun h=>(y2t h).symm) (fun _ zpe=>?_) ?_
      · skip
        refine WL.pu rfl (WL.pu rfl (WL.pu rfl (WL.pu rfl ?_)))
        exact WL.ys (y2u zpe) rfl rfl .all
      refine WL.pu rfl ?_
      refine WL.seg false 8 76 (B:=((decide (z4q = z3S)) && (decide (z4r = z3T))) || ((decide (z4q = z3T)) && (decide (z4r = z3S)))) rfl rfl rfl rfl rfl rfl (fun h=>(y2k h).symm) (fun _ zpf=>?_) ?_
      · skip
        refine WL.pu rfl (WL.pu rfl (WL.pu rfl (WL.pu rfl ?_)))
        refine WL.seg true 3 80 (B:=(decide (z4q = z3T)) && (decide (z4r = z3S))) rfl rfl rfl rfl rfl rfl (fun h=>(y2t h).symm) (fun _ zpg=>?_) ?_
        · skip
          refine WL.pu rfl (WL.pu rfl (WL.pu rfl (WL.pu rfl ?_)))
          exact WL.ys (y2u zpg) rfl rfl .all
        refine WL.pu rfl ?_
        exact WL.ys (y2l zpf) rfl rfl .all
      refine WL.pu rfl ?_
      exact WL.ys (y2u zpd) rfl rfl .all
    refine WL.pu rfl (WL.nil (WX.a (WC.ret ?_)))
    obtain rfl:=Option.some.inj h
    refine WX.yh Try.results48 (.tmp rfl .nil) (fun w hw=>?_)
    exact ⟨y12 rfl,hw.sub .nil⟩
def y1O (zn : List Sapi_Hop) (zA : Sapi_Config) (z2r : Int) (z6S : Option Bool) : Nat → Int → (List (Int × Int)) → Option Bool
  | 0,_,_=>none
  | zgG + 1,zu,z38=>if decide (zu < ((zn.length : Nat) : Int)) then chk ((0 : Int) ≤ zu ∧ zu < ((zn.length : Nat) : Int)) (jp1 (fun (z1v : List (Int × Int))=>chk (((decide ((yw z1v ((nth zn zu).fNode) 0) = 0)) || (decide ((yw z1v ((nth zn zu).fNext) 0) > 0))) = false → ((decide (zu > 0)) = true → ((0 : Int) ≤ 0 ∧ 0 < ((zn.length : Nat) : Int)))) ((if ((decide ((yw z1v ((nth zn zu).fNode) 0) = 0)) || (decide ((yw z1v ((nth zn zu).fNext) 0) > 0))) || (((decide (zu > 0)) && (decide (((nth zn zu).fNode) ≠ ((nth zn 0).fNode)))) && (decide (((nth zn zu).fNode) < ((zA.fModules.length : Nat) : Int)))) then some true else (y3k zA z2r ((nth zn zu).fLink) ((nth zn zu).fNode) ((nth zn zu).fNext)).bind fun zks=>some (!zks)).bind fun zgH=>if zgH then some false else y1O zn zA z2r z6S zgG (i64 (zu + 1)) (y14 z1v ((nth zn zu).fNext) (i64 ((yw z1v ((nth zn zu).fNext) 0) + 1))))) fun zeG=>if decide (zu = 0) then zeG (y14 z38 ((nth zn zu).fNode) (i64 ((yw z38 ((nth zn zu).fNode) 0) + 1))) else zeG z38) else z6S
theorem y5n {n : Nat} {zn : List Sapi_Hop} {zA : Sapi_Config} {z2r : Int} {z6S : Option Bool} {zu : Int} {z38 : List (Int × Int)} {r : Bool} (h : y1O zn zA z2r z6S n zu z38 = some r) : ∃ m,n = m + 1:=by
  cases n with
  | zero=>cases h
  | succ m=>exact ⟨m,rfl⟩
def y3l (zA : Sapi_Config) (z2r : Int) (zn : List Sapi_Hop) : Option Bool :=
  jp0 (some (decide (((zn.length : Nat) : Int) ≤ 32))) fun z6S=>y1O zn zA z2r z6S yz 0 ([] : List (Int × Int))
set_option maxRecDepth 20000 in
theorem y7y (Z : Zp) (z8r : Option Addr) (z8s : Nat) (z8t : Option Addr) (z8u : Nat) (z8v : Option Addr) (z8w : Nat) (z8x : Option Addr) (z8y : Nat) (z8z : Option Addr) (z8A : Nat) (z8B : Option Addr) (z8C : Nat) (z8D : Option Addr) (z8E : Nat) (z8F : Option Addr) (z8G : Nat) (z2s : Option Addr) (z2t : Nat) (zA : Sapi_Config) (z2r : Int) (zn : List Sapi_Hop) (r : Bool)
     (h : y3l zA z2r zn = some r) (w₀ : World) (hz : PZ [] w₀ Z)
     (zph : ZS Z 4 (y2x Z) z8r z8s zA.fModules)
     (zpi : ZS Z 4 (y2W Z) z8t z8u zA.fChannels)
     (zpj : ZS Z 4 (fun r x=>r = e64 x) z8v z8w zA.fSwitches)
     (zpk : ZS Z 4 (fun r x=>r = e62 x) z8x z8y zA.fLinks)
     (zpl : ZS Z 7 (y2J Z) z8z z8A zA.fVLs)
     (zpm : ZS Z 5 (fun r x=>r = y2Z x) z8B z8C zA.fHealth)
     (zpn : ZS Z 3 (y2X Z) z8D z8E zA.fCauses)
     (zpo : ZS Z 4 (fun r x=>r = y30 x) z8F z8G zA.fVersions)
     (zkt : ZS Z 3 (fun r x=>r = e59 x) z2s z2t zn) :
    Calls Try.prog 36 #[(.agg #[(.slice z8r zA.fModules.length z8s),(.slice z8t zA.fChannels.length z8u),(.slice z8v zA.fSwitches.length z8w),(.slice z8x zA.fLinks.length z8y),(.slice z8z zA.fVLs.length z8A),(.slice z8B zA.fHealth.length z8C),(.slice z8D zA.fCauses.length z8E),(.slice z8F zA.fVersions.length z8G)]),(.int .i64 z2r),(.slice z2s zn.length z2t)] w₀ fun e w'=>e = .returned (.bool r) ∧ Hp [] w₀ w' []:=by
  unfold y3l at h
  refine Calls.yk (vs:=[(.agg #[(.slice z8r zA.fModules.length z8s),(.slice z8t zA.fChannels.length z8u),(.slice z8v zA.fSwitches.length z8w),(.slice z8x zA.fLinks.length z8y),(.slice z8z zA.fVLs.length z8A),(.slice z8B zA.fHealth.length z8C),(.slice z8D zA.fCauses.length z8E),(.slice z8F zA.fVersions.length z8G)]),(.int .i64 z2r),(.slice z2s zn.length z2t)]) (pre:=[]) (env:=[(0,(.agg #[(.slice z8r zA.fModules.length z8s),(.slice z8t zA.fChannels.length z8u),(.slice z8v zA.fSwitches.length z8w),(.slice z8x zA.fLinks.length z8y),(.slice z8z zA.fVLs.length z8A),(.slice z8B zA.fHealth.length z8C),(.slice z8D zA.fCauses.length z8E),(.slice z8F zA.fVersions.length z8G)])),(1,(.int .i64 z2r)),(2,(.slice z2s zn.length z2t))]) Try.func36 rfl Try.ntmps36 rfl (Hp.nil w₀ _) rfl ?_
  refine WC.b (WC.a ?_)
  refine WL.new (dd:=3) rfl rfl rfl (y2g (cs:=[(.slice z8r zA.fModules.length z8s),(.slice z8t zA.fChannels.length z8u),(.slice z8v zA.fSwitches.length z8w),(.slice z8x zA.fLinks.length z8y),(.slice z8z zA.fVLs.length z8A),(.slice z8B zA.fHealth.length z8C),(.slice z8D zA.fCauses.length z8E),(.slice z8F zA.fVersions.length z8G)]) rfl rfl) ?_
  intro z6T _
  refine WL.pu rfl (WL.nil (WX.a (WC.b (WC.a ?_))))
  refine WL.new (dd:=10) rfl rfl rfl (y8d (Value.int .i64) (Value.int .i64)) ?_
  intro z6U _
  refine WL.pu rfl (WL.nil (WX.a ?_))
  obtain ⟨z6S,zpp,h⟩:=y2U h
  refine WC.y2v ((z6S = some r)) ([(2,(.slice z2s zn.length z2t))]) ([]) ?_ ?_
  · skip
    refine WC.b (WC.a (WL.pu rfl ?_))
    refine WL.a (d:=12) rfl rfl rfl (yU Try.underlying55 rfl) ?_
    refine WL.pu rfl (WL.nil (WX.a (WC.block ?_)))
    refine WC.y2m (fun (zam : Nat) (zu : Int) (z38 : List (Int × Int))=>(y1O zn zA z2r z6S zam zu z38 = some r)) (fun (zam : Nat) (zu : Int) (z38 : List (Int × Int))=>[(1,(.int .i64 z2r)),(2,(.slice z2s zn.length z2t)),(3,(.pointer (some ⟨z6T,0,none⟩))),(7,(.map (some z6U))),(11,(.slice z2s zn.length z2t)),(12,(.int .i64 ((zn.length : Nat) : Int))),(13,(.int .i64 zu))]) (fun (zam : Nat) (zu : Int) (z38 : List (Int × Int))=>[stb z6T 31 [(.slice z8r zA.fModules.length z8s),(.slice z8t zA.fChannels.length z8u),(.slice z8v zA.fSwitches.length z8w),(.slice z8x zA.fLinks.length z8y),(.slice z8z zA.fVLs.length z8A),(.slice z8B zA.fHealth.length z8C),(.slice z8D zA.fCauses.length z8E),(.slice z8F zA.fVersions.length z8G)],y1e z6U (Value.int .i64) (Value.int .i64) z38]) (fun (zam : Nat) (zu : Int) (z38 : List (Int × Int))=>zam) ⟨yz,0,([] : List (Int × Int))⟩ h (.cons rfl (.cons rfl (.cons rfl (.cons rfl (.cons rfl (.cons rfl (.cons rfl .nil))))))) (.cons .h1 (.cons .here .nil)) ?_
    rintro zam zu z38 h
    obtain ⟨zgG,rfl⟩:=y5n h
    rw [y1O] at h
    refine WC.b (WC.a (WL.pu rfl (WL.nil (WX.a (WC.b ?_)))))
    refine WC.cond rfl (fun zgI=>?_) (fun zgI=>?_)
    · replace h:=yl h zgI
      refine WC.skip (WX.a (WC.b (WC.block (WC.b ?_))))
      obtain ⟨zpq,h⟩:=yi h
      refine WC.a (WL.pu rfl ?_)
      refine WL.znth (dd:=16) rfl rfl (Z:=Z) (Pr:=(fun r x=>r = e59 x)) y5M rfl rfl zkt zpq ?_
      rintro zvT zvU zpr zvV rfl
      refine WL.a (d:=17) rfl rfl rfl (yD y5N rfl (y3t hz.pv zpr) rfl) ?_
      refine WL.new (dd:=9) rfl rfl rfl (y1U (cs:=[(.int .i64 0),(.int .i64 0),(.int .i64 0)]) y7f rfl) ?_
      intro z8H _
      refine WL.pu rfl ?_
      refine WL.y1r rfl rfl (y1K y7N rfl rfl rfl .here rfl rfl rfl) ?_
      refine WL.nil (WX.a ?_)
      obtain ⟨zeG,zps,h⟩:=y19 h
      refine WC.y1R (fun (z1v : List (Int × Int))=>(zeG z1v = some r)) (fun (z1v : List (Int × Int))=>[(1,(.int .i64 z2r)),(2,(.slice z2s zn.length z2t)),(3,(.pointer (some ⟨z6T,0,none⟩))),(7,(.map (some z6U))),(8,(.int .i64 zu)),(9,(.pointer (some ⟨z8H,0,none⟩))),(11,(.slice z2s zn.length z2t)),(12,(.int .i64 ((zn.length : Nat) : Int))),(13,(.int .i64 zu))]) (fun (z1v : List (Int × Int))=>[stb z6T 31 [(.slice z8r zA.fModules.length z8s),(.slice z8t zA.fChannels.length z8u),(.slice z8v zA.fSwitches.length z8w),(.slice z8x zA.fLinks.length z8y),(.slice z8z zA.fVLs.length z8A),(.slice z8B zA.fHealth.length z8C),(.slice z8D zA.fCauses.length z8E),(.slice z8F zA.fVersions.length z8G)],y1e z6U (Value.int .i64) (Value.int .i64) z1v,stb z8H 59 [(.int .i64 ((nth zn zu).fNode)),(.int .i64 ((nth zn zu).fNext)),(.int .i64 ((nth zn zu).fLink))]]) ?_ ?_
      · skip
        refine WC.b (WC.a (WL.pu rfl (WL.pu rfl (WL.nil (WX.a ?_)))))
        refine WC.cond rfl (fun zgJ=>?_) (fun zgJ=>?_)
        · replace h:=yl h zgJ
          refine WC.a (WL.pu rfl ?_)
          refine WL.a (d:=21) rfl rfl rfl (ya y3v rfl rfl) ?_
          refine WL.a (d:=22) rfl rfl rfl (yb yg rfl (yc .here rfl)) ?_
          refine WL.a (d:=23) rfl rfl rfl (y4I (k:=((nth zn zu).fNode)) (dflt:=(0 : Int)) y5O Try.underlying125 y6T rfl rfl rfl .h2) ?_
          refine WL.pu rfl ?_
          refine WL.y1r rfl rfl (y5w (k:=((nth zn zu).fNode)) (v:=i64 ((yw z38 ((nth zn zu).fNode) 0) + 1)) y5O Try.underlying125 rfl rfl rfl rfl .h2) ?_
          refine WL.nil ?_
          exact WX.mid (G:=(List (Int × Int))) (y14 z38 ((nth zn zu).fNode) (i64 ((yw z38 ((nth zn zu).fNode) 0) + 1))) h (.cons rfl (.cons rfl (.cons rfl (.cons rfl (.cons rfl (.cons rfl (.cons rfl (.cons rfl (.cons rfl .nil))))))))) (.cons .h2 (.cons .here (.cons .here .nil)))
        · replace h:=ym h zgJ
          refine WC.skip ?_
          exact WX.mid (G:=(List (Int × Int))) z38 h (.cons rfl (.cons rfl (.cons rfl (.cons rfl (.cons rfl (.cons rfl (.cons rfl (.cons rfl (.cons rfl .nil))))))))) (.cons .h1 (.cons .h1 (.cons .here .nil)))
      · rintro z1v h
        replace h:=(zps z1v).symm.trans h
        refine WC.b (WC.b ?_)
        obtain ⟨zpt,h⟩:=yi h
        obtain ⟨zgH,zku,h⟩:=zh h
        refine WC.yV (fun i=>[].contains i) [] rfl ?_
        refine WD.a (i:=0) (d:=25) (by kernel_rfl) rfl (z2 (by kernel_rfl)) (z3 (by kernel_rfl)) rfl rfl rfl (fun _=>q_m rfl) ?_
        refine WD.a (i:=1) (d:=26) (by kernel_rfl) rfl (z2 (by kernel_rfl)) (z3 (by kernel_rfl)) rfl rfl rfl (fun _=>ya y3v rfl rfl) ?_
        refine WD.e (i:=2) (d:=27) (by kernel_rfl) rfl (z2 (by kernel_rfl)) (z3 (by kernel_rfl)) rfl rfl rfl (yb yg rfl (yc .h2 rfl)) ?_
        refine WD.e (i:=3) (d:=28) (by kernel_rfl) rfl (z2 (by kernel_rfl)) (z3 (by kernel_rfl)) rfl rfl rfl (y4I (k:=((nth zn zu).fNode)) (dflt:=(0 : Int)) y5O Try.underlying125 y6T rfl rfl rfl .h1) ?_
        refine WD.a (i:=4) (d:=29) (by kernel_rfl) rfl (z2 (by kernel_rfl)) (z3 (by kernel_rfl)) rfl rfl rfl (fun _=>q_eql rfl rfl) ?_
        refine WD.a (i:=5) (d:=30) (by kernel_rfl) rfl (z2 (by kernel_rfl)) (z3 (by kernel_rfl)) rfl rfl rfl (fun _=>q_m rfl) ?_
        refine WD.mid (fuel':=33) [(1,(.int .i64 z2r)),(2,(.slice z2s zn.length z2t)),(3,(.pointer (some ⟨z6T,0,none⟩))),(7,(.map (some z6U))),(8,(.int .i64 zu)),(9,(.pointer (some ⟨z8H,0,none⟩))),(11,(.slice z2s zn.length z2t)),(12,(.int .i64 ((zn.length : Nat) : Int))),(13,(.int .i64 zu)),(30,(.bool (decide ((yw z1v ((nth zn zu).fNode) 0) = 0)))),(36,(.bool ((decide ((yw z1v ((nth zn zu).fNode) 0) = 0)) || (decide ((yw z1v ((nth zn zu).fNext) 0) > 0)))))] (y1j 45 [11,10,9,8,7,6,5,4,3,2,1,0]) ?_ (fun zkv=>?_)
        rotate_left
        · rcases Bool.eq_false_or_eq_true (decide ((yw z1v ((nth zn zu).fNode) 0) = 0)) with hb' | hb'
          · have zgK:=hb'; clear hb'
            refine WD.pin (i:=30) rfl zgK ?_
            refine WD.b (i:=6) (d:=31) (by kernel_rfl) rfl (z2 (by kernel_rfl)) (z3 (by kernel_rfl)) rfl rfl rfl ?_
            refine WD.b (i:=7) (d:=32) (by kernel_rfl) rfl (z2 (by kernel_rfl)) (z3 (by kernel_rfl)) rfl rfl rfl ?_
            refine WD.b (i:=8) (d:=33) (by kernel_rfl) rfl (z2 (by kernel_rfl)) (z3 (by kernel_rfl)) rfl rfl rfl ?_
            refine WD.b (i:=9) (d:=34) (by kernel_rfl) rfl (z2 (by kernel_rfl)) (z3 (by kernel_rfl)) rfl rfl rfl ?_
            refine WD.b (i:=10) (d:=35) (by kernel_rfl) rfl (z2 (by kernel_rfl)) (z3 (by kernel_rfl)) rfl rfl rfl ?_
            refine WD.a (i:=11) (d:=36) (by kernel_rfl) rfl (z2 (by kernel_rfl)) (z3 (by kernel_rfl)) rfl rfl rfl (fun _=>y1y rfl rfl) ?_
            refine WD.yK (.cons .here (.cons .here (.cons .here .nil))) ?_ zkv
            exact (.cons rfl (.cons rfl (.cons rfl (.cons rfl (.cons rfl (.cons rfl (.cons rfl (.cons rfl (.cons rfl (.cons (zr (Eq.symm zgK)) (.cons (zr (y2k zgK)) .nil)))))))))))
          · have zgL:=hb'; clear hb'
            refine WD.pin (i:=30) rfl zgL ?_
            refine WD.a (i:=6) (d:=31) (by kernel_rfl) rfl (z2 (by kernel_rfl)) (z3 (by kernel_rfl)) rfl rfl rfl (fun _=>q_m rfl) ?_
            refine WD.a (i:=7) (d:=32) (by kernel_rfl) rfl (z2 (by kernel_rfl)) (z3 (by kernel_rfl)) rfl rfl rfl (fun _=>ya y4r rfl rfl) ?_
            refine WD.e (i:=8) (d:=33) (by kernel_rfl) rfl (z2 (by kernel_rfl)) (z3 (by kernel_rfl)) rfl rfl rfl (yb yg rfl (yc .h2 rfl)) ?_
            refine WD.e (i:=9) (d:=34) (by kernel_rfl) rfl (z2 (by kernel_rfl)) (z3 (by kernel_rfl)) rfl rfl rfl (y4I (k:=((nth zn zu).fNext)) (dflt:=(0 : Int)) y5O Try.underlying125 y6T rfl rfl rfl .h1) ?_
            refine WD.a (i:=10) (d:=35) (by kernel_rfl) rfl (z2 (by kernel_rfl)) (z3 (by kernel_rfl)) rfl rfl rfl (fun _=>y3K rfl rfl) ?_
            refine WD.a (i:=11) (d:=36) (by kernel_rfl) rfl (z2 (by kernel_rfl)) (z3 (by kernel_rfl)) rfl rfl rfl (fun _=>y1z rfl rfl) ?_
            refine WD.yK (.cons .here (.cons .here (.cons .here .nil))) ?_ zkv
            exact (.cons rfl (.cons rfl (.cons rfl (.cons rfl (.cons rfl (.cons rfl (.cons rfl (.cons rfl (.cons rfl (.cons (zr (Eq.symm zgL)) (.cons (zr (y2l zgL)) .nil)))))))))))
        refine WD.d #[true,true,true,true,true,true,true,true,true,true,true,true,false,false,false,false,false,false,false,false,false,false,false,false,false,false,false,false,false,false,false,false,false,false,false,false,false,false,false,false,false,false,false,false,false] (by kernel_rfl) ?_
        refine WD.a (i:=12) (d:=37) (by kernel_rfl) rfl (z2 (by kernel_rfl)) (z3 (by kernel_rfl)) rfl rfl rfl (fun _=>q_m rfl) ?_
        refine WD.mid (fuel':=12) [(1,(.int .i64 z2r)),(2,(.slice z2s zn.length z2t)),(3,(.pointer (some ⟨z6T,0,none⟩))),(7,(.map (some z6U))),(9,(.pointer (some ⟨z8H,0,none⟩))),(11,(.slice z2s zn.length z2t)),(12,(.int .i64 ((zn.length : Nat) : Int))),(13,(.int .i64 zu)),(37,(.bool ((decide ((yw z1v ((nth zn zu).fNode) 0) = 0)) || (decide ((yw z1v ((nth zn zu).fNext) 0) > 0))))),(57,(.bool (((decide ((yw z1v ((nth zn zu).fNode) 0) = 0)) || (decide ((yw z1v ((nth zn zu).fNext) 0) > 0))) || (((decide (zu > 0)) && (decide (((nth zn zu).fNode) ≠ ((nth zn 0).fNode)))) && (decide (((nth zn zu).fNode) < ((zA.fModules.length : Nat) : Int)))))))] (y1j 45 [32,31,30,29,28,27,26,25,24,23,22,21,20,19,18,17,16,15,14,13,12,11,10,9,8,7,6,5,4,3,2,1,0]) ?_ (fun zkw=>?_)
        rotate_left
        · rcases Bool.eq_false_or_eq_true ((decide ((yw z1v ((nth zn zu).fNode) 0) = 0)) || (decide ((yw z1v ((nth zn zu).fNext) 0) > 0))) with hb' | hb'
          · have zgM:=hb'; clear hb'
            refine WD.pin (i:=37) rfl zgM ?_
            refine WD.b (i:=13) (d:=38) (by kernel_rfl) rfl (z2 (by kernel_rfl)) (z3 (by kernel_rfl)) rfl rfl rfl ?_
            refine WD.b (i:=14) (d:=39) (by kernel_rfl) rfl (z2 (by kernel_rfl)) (z3 (by kernel_rfl)) rfl rfl rfl ?_
            refine WD.b (i:=15) (d:=40) (by kernel_rfl) rfl (z2 (by kernel_rfl)) (z3 (by kernel_rfl)) rfl rfl rfl ?_
            refine WD.b (i:=16) (d:=41) (by kernel_rfl) rfl (z2 (by kernel_rfl)) (z3 (by kernel_rfl)) rfl rfl rfl ?_
            refine WD.b (i:=17) (d:=42) (by kernel_rfl) rfl (z2 (by kernel_rfl)) (z3 (by kernel_rfl)) rfl rfl rfl ?_
            refine WD.b (i:=18) (d:=43) (by kernel_rfl) rfl (z2 (by kernel_rfl)) (z3 (by kernel_rfl)) rfl rfl rfl ?_
            refine WD.b (i:=19) (d:=44) (by kernel_rfl) rfl (z2 (by kernel_rfl)) (z3 (by kernel_rfl)) rfl rfl rfl ?_
            refine WD.b (i:=20) (d:=45) (by kernel_rfl) rfl (z2 (by kernel_rfl)) (z3 (by kernel_rfl)) rfl rfl rfl ?_
            refine WD.b (i:=21) (d:=46) (by kernel_rfl) rfl (z2 (by kernel_rfl)) (z3 (by kernel_rfl)) rfl rfl rfl ?_
            refine WD.b (i:=22) (d:=47) (by kernel_rfl) rfl (z2 (by kernel_rfl)) (z3 (by kernel_rfl)) rfl rfl rfl ?_
            refine WD.b (i:=23) (d:=48) (by kernel_rfl) rfl (z2 (by kernel_rfl)) (z3 (by kernel_rfl)) rfl rfl rfl ?_
            refine WD.b (i:=24) (d:=49) (by kernel_rfl) rfl (z2 (by kernel_rfl)) (z3 (by kernel_rfl)) rfl rfl rfl ?_
            refine WD.b (i:=25) (d:=50) (by kernel_rfl) rfl (z2 (by kernel_rfl)) (z3 (by kernel_rfl)) rfl rfl rfl ?_
            refine WD.b (i:=26) (d:=51) (by kernel_rfl) rfl (z2 (by kernel_rfl)) (z3 (by kernel_rfl)) rfl rfl rfl ?_
            refine WD.b (i:=27) (d:=52) (by kernel_rfl) rfl (z2 (by kernel_rfl)) (z3 (by kernel_rfl)) rfl rfl rfl ?_
            refine WD.b (i:=28) (d:=53) (by kernel_rfl) rfl (z2 (by kernel_rfl)) (z3 (by kernel_rfl)) rfl rfl rfl ?_
            refine WD.b (i:=29) (d:=54) (by kernel_rfl) rfl (z2 (by kernel_rfl)) (z3 (by kernel_rfl)) rfl rfl rfl ?_
            refine WD.b (i:=30) (d:=55) (by kernel_rfl) rfl (z2 (by kernel_rfl)) (z3 (by kernel_rfl)) rfl rfl rfl ?_
            refine WD.b (i:=31) (d:=56) (by kernel_rfl) rfl (z2 (by kernel_rfl)) (z3 (by kernel_rfl)) rfl rfl rfl ?_
            refine WD.a (i:=32) (d:=57) (by kernel_rfl) rfl (z2 (by kernel_rfl)) (z3 (by kernel_rfl)) rfl rfl rfl (fun _=>y1y rfl rfl) ?_
            refine WD.yK (.cons .here (.cons .here (.cons .here .nil))) ?_ zkw
            exact (.cons rfl (.cons rfl (.cons rfl (.cons rfl (.cons rfl (.cons rfl (.cons rfl (.cons rfl (.cons (zr (Eq.symm zgM)) (.cons (zr (y2k zgM)) .nil))))))))))
          · have zeH:=hb'; clear hb'
            have zpu:=zpt zeH
            refine WD.pin (i:=37) rfl zeH ?_
            refine WD.a (i:=13) (d:=38) (by kernel_rfl) rfl (z2 (by kernel_rfl)) (z3 (by kernel_rfl)) rfl rfl rfl (fun _=>q_m rfl) ?_
            refine WD.a (i:=14) (d:=39) (by kernel_rfl) rfl (z2 (by kernel_rfl)) (z3 (by kernel_rfl)) rfl rfl rfl (fun _=>y3K rfl rfl) ?_
            refine WD.a (i:=15) (d:=40) (by kernel_rfl) rfl (z2 (by kernel_rfl)) (z3 (by kernel_rfl)) rfl rfl rfl (fun _=>q_m rfl) ?_
            refine WD.mid (fuel':=21) [(1,(.int .i64 z2r)),(2,(.slice z2s zn.length z2t)),(3,(.pointer (some ⟨z6T,0,none⟩))),(7,(.map (some z6U))),(9,(.pointer (some ⟨z8H,0,none⟩))),(11,(.slice z2s zn.length z2t)),(12,(.int .i64 ((zn.length : Nat) : Int))),(13,(.int .i64 zu)),(37,(.bool false)),(40,(.bool (decide (zu > 0)))),(48,(.bool ((decide (zu > 0)) && (decide (((nth zn zu).fNode) ≠ ((nth zn 0).fNode))))))] (y1j 45 [23,22,21,20,19,18,17,16,15,14,13,12,11,10,9,8,7,6,5,4,3,2,1,0]) ?_ (fun zkx=>?_)
            rotate_left
            · rcases Bool.eq_false_or_eq_true (decide (zu > 0)) with hb' | hb'
              · have zeI:=hb'; clear hb'
                have zpv:=zpu zeI
                refine WD.pin (i:=40) rfl zeI ?_
                refine WD.a (i:=16) (d:=41) (by kernel_rfl) rfl (z2 (by kernel_rfl)) (z3 (by kernel_rfl)) rfl rfl rfl (fun _=>ya y3v rfl rfl) ?_
                refine WD.e (i:=17) (d:=42) (by kernel_rfl) rfl (z2 (by kernel_rfl)) (z3 (by kernel_rfl)) rfl rfl rfl (yb yg rfl (yc .h2 rfl)) ?_
                refine WD.a (i:=18) (d:=43) (by kernel_rfl) rfl (z2 (by kernel_rfl)) (z3 (by kernel_rfl)) rfl rfl rfl (fun _=>q_m rfl) ?_
                refine WD.znth (j:=19) (dd:=44) (by kernel_rfl) rfl (z2 (by kernel_rfl)) (z3 (by kernel_rfl)) rfl rfl (Z:=Z) (Pr:=(fun r x=>r = e59 x)) y5M rfl rfl zkt zpv ?_
                rintro zvW zvX zpw zvY rfl
                refine WD.a (i:=20) (d:=45) (by kernel_rfl) rfl (z2 (by kernel_rfl)) (z3 (by kernel_rfl)) rfl rfl rfl (fun _=>ya y3v rfl rfl) ?_
                refine WD.e (i:=21) (d:=46) (by kernel_rfl) rfl (z2 (by kernel_rfl)) (z3 (by kernel_rfl)) rfl rfl rfl (yb yg rfl (y2b hz.pv zpw rfl)) ?_
                refine WD.a (i:=22) (d:=47) (by kernel_rfl) rfl (z2 (by kernel_rfl)) (z3 (by kernel_rfl)) rfl rfl rfl (fun _=>q_neq rfl rfl) ?_
                refine WD.a (i:=23) (d:=48) (by kernel_rfl) rfl (z2 (by kernel_rfl)) (z3 (by kernel_rfl)) rfl rfl rfl (fun _=>y1y rfl rfl) ?_
                refine WD.yK (.cons .here (.cons .here (.cons .here .nil))) ?_ zkx
                exact (.cons rfl (.cons rfl (.cons rfl (.cons rfl (.cons rfl (.cons rfl (.cons rfl (.cons rfl (.cons rfl (.cons (zr (Eq.symm zeI)) (.cons (zr (y2u zeI)) .nil)))))))))))
              · have zgN:=hb'; clear hb'
                refine WD.pin (i:=40) rfl zgN ?_
                refine WD.b (i:=16) (d:=41) (by kernel_rfl) rfl (z2 (by kernel_rfl)) (z3 (by kernel_rfl)) rfl rfl rfl ?_
                refine WD.b (i:=17) (d:=42) (by kernel_rfl) rfl (z2 (by kernel_rfl)) (z3 (by kernel_rfl)) rfl rfl rfl ?_
                refine WD.b (i:=18) (d:=43) (by kernel_rfl) rfl (z2 (by kernel_rfl)) (z3 (by kernel_rfl)) rfl rfl rfl ?_
                refine WD.b (i:=19) (d:=44) (by kernel_rfl) rfl (z2 (by kernel_rfl)) (z3 (by kernel_rfl)) rfl rfl rfl ?_
                refine WD.b (i:=20) (d:=45) (by kernel_rfl) rfl (z2 (by kernel_rfl)) (z3 (by kernel_rfl)) rfl rfl rfl ?_
                refine WD.b (i:=21) (d:=46) (by kernel_rfl) rfl (z2 (by kernel_rfl)) (z3 (by kernel_rfl)) rfl rfl rfl ?_
                refine WD.b (i:=22) (d:=47) (by kernel_rfl) rfl (z2 (by kernel_rfl)) (z3 (by kernel_rfl)) rfl rfl rfl ?_
                refine WD.a (i:=23) (d:=48) (by kernel_rfl) rfl (z2 (by kernel_rfl)) (z3 (by kernel_rfl)) rfl rfl rfl (fun _=>y1z rfl rfl) ?_
                refine WD.yK (.cons .here (.cons .here (.cons .here .nil))) ?_ zkx
                exact (.cons rfl (.cons rfl (.cons rfl (.cons rfl (.cons rfl (.cons rfl (.cons rfl (.cons rfl (.cons rfl (.cons (zr (Eq.symm zgN)) (.cons (zr (y2t zgN)) .nil)))))))))))
            refine WD.d #[true,true,true,true,true,true,true,true,true,true,true,true,true,true,true,true,true,true,true,true,true,true,true,true,false,false,false,false,false,false,false,false,false,false,false,false,false,false,false,false,false,false,false,false,false] (by kernel_rfl) ?_
            refine WD.a (i:=24) (d:=49) (by kernel_rfl) rfl (z2 (by kernel_rfl)) (z3 (by kernel_rfl)) rfl rfl rfl (fun _=>q_m rfl) ?_
            refine WD.mid (fuel':=13) [(1,(.int .i64 z2r)),(2,(.slice z2s zn.length z2t)),(3,(.pointer (some ⟨z6T,0,none⟩))),(7,(.map (some z6U))),(9,(.pointer (some ⟨z8H,0,none⟩))),(11,(.slice z2s zn.length z2t)),(12,(.int .i64 ((zn.length : Nat) : Int))),(13,(.int .i64 zu)),(37,(.bool false)),(49,(.bool ((decide (zu > 0)) && (decide (((nth zn zu).fNode) ≠ ((nth zn 0).fNode)))))),(56,(.bool (((decide (zu > 0)) && (decide (((nth zn zu).fNode) ≠ ((nth zn 0).fNode)))) && (decide (((nth zn zu).fNode) < ((zA.fModules.length : Nat) : Int))))))] (y1j 45 [31,30,29,28,27,26,25,24,23,22,21,20,19,18,17,16,15,14,13,12,11,10,9,8,7,6,5,4,3,2,1,0]) ?_ (fun zky=>?_)
            rotate_left
            · rcases Bool.eq_false_or_eq_true ((decide (zu > 0)) && (decide (((nth zn zu).fNode) ≠ ((nth zn 0).fNode)))) with hb' | hb'
              · have zgO:=hb'; clear hb'
                refine WD.pin (i:=49) rfl zgO ?_
                refine WD.a (i:=25) (d:=50) (by kernel_rfl) rfl (z2 (by kernel_rfl)) (z3 (by kernel_rfl)) rfl rfl rfl (fun _=>ya y3v rfl rfl) ?_
                refine WD.e (i:=26) (d:=51) (by kernel_rfl) rfl (z2 (by kernel_rfl)) (z3 (by kernel_rfl)) rfl rfl rfl (yb yg rfl (yc .h2 rfl)) ?_
                refine WD.a (i:=27) (d:=52) (by kernel_rfl) rfl (z2 (by kernel_rfl)) (z3 (by kernel_rfl)) rfl rfl rfl (fun _=>ya y3V rfl rfl) ?_
                refine WD.e (i:=28) (d:=53) (by kernel_rfl) rfl (z2 (by kernel_rfl)) (z3 (by kernel_rfl)) rfl rfl rfl (yb y3W rfl (yc .here rfl)) ?_
                refine WD.a (i:=29) (d:=54) (by kernel_rfl) rfl (z2 (by kernel_rfl)) (z3 (by kernel_rfl)) rfl rfl rfl (fun _=>yU Try.underlying22 rfl) ?_
                refine WD.a (i:=30) (d:=55) (by kernel_rfl) rfl (z2 (by kernel_rfl)) (z3 (by kernel_rfl)) rfl rfl rfl (fun _=>y3r rfl rfl) ?_
                refine WD.a (i:=31) (d:=56) (by kernel_rfl) rfl (z2 (by kernel_rfl)) (z3 (by kernel_rfl)) rfl rfl rfl (fun _=>y1y rfl rfl) ?_
                refine WD.yK (.cons .here (.cons .here (.cons .here .nil))) ?_ zky
                exact (.cons rfl (.cons rfl (.cons rfl (.cons rfl (.cons rfl (.cons rfl (.cons rfl (.cons rfl (.cons rfl (.cons (zr (Eq.symm zgO)) (.cons (zr (y2u zgO)) .nil)))))))))))
              · have zgP:=hb'; clear hb'
                refine WD.pin (i:=49) rfl zgP ?_
                refine WD.b (i:=25) (d:=50) (by kernel_rfl) rfl (z2 (by kernel_rfl)) (z3 (by kernel_rfl)) rfl rfl rfl ?_
                refine WD.b (i:=26) (d:=51) (by kernel_rfl) rfl (z2 (by kernel_rfl)) (z3 (by kernel_rfl)) rfl rfl rfl ?_
                refine WD.b (i:=27) (d:=52) (by kernel_rfl) rfl (z2 (by kernel_rfl)) (z3 (by kernel_rfl)) rfl rfl rfl ?_
                refine WD.b (i:=28) (d:=53) (by kernel_rfl) rfl (z2 (by kernel_rfl)) (z3 (by kernel_rfl)) rfl rfl rfl ?_
                refine WD.b (i:=29) (d:=54) (by kernel_rfl) rfl (z2 (by kernel_rfl)) (z3 (by kernel_rfl)) rfl rfl rfl ?_
                refine WD.b (i:=30) (d:=55) (by kernel_rfl) rfl (z2 (by kernel_rfl)) (z3 (by kernel_rfl)) rfl rfl rfl ?_
                refine WD.a (i:=31) (d:=56) (by kernel_rfl) rfl (z2 (by kernel_rfl)) (z3 (by kernel_rfl)) rfl rfl rfl (fun _=>y1z rfl rfl) ?_
                refine WD.yK (.cons .here (.cons .here (.cons .here .nil))) ?_ zky
                exact (.cons rfl (.cons rfl (.cons rfl (.cons rfl (.cons rfl (.cons rfl (.cons rfl (.cons rfl (.cons rfl (.cons (zr (Eq.symm zgP)) (.cons (zr (y2t zgP)) .nil)))))))))))
            refine WD.d #[true,true,true,true,true,true,true,true,true,true,true,true,true,true,true,true,true,true,true,true,true,true,true,true,true,true,true,true,true,true,true,true,false,false,false,false,false,false,false,false,false,false,false,false,false] (by kernel_rfl) ?_
            refine WD.a (i:=32) (d:=57) (by kernel_rfl) rfl (z2 (by kernel_rfl)) (z3 (by kernel_rfl)) rfl rfl rfl (fun _=>y1z rfl rfl) ?_
            refine WD.yK (.cons .here (.cons .here (.cons .here .nil))) ?_ zkw
            exact (.cons rfl (.cons rfl (.cons rfl (.cons rfl (.cons rfl (.cons rfl (.cons rfl (.cons rfl (.cons (zr (Eq.symm zeH)) (.cons (zr (y2l zeH)) .nil))))))))))
        refine WD.d #[true,true,true,true,true,true,true,true,true,true,true,true,true,true,true,true,true,true,true,true,true,true,true,true,true,true,true,true,true,true,true,true,true,false,false,false,false,false,false,false,false,false,false,false,false] (by kernel_rfl) ?_
        refine WD.a (i:=33) (d:=58) (by kernel_rfl) rfl (z2 (by kernel_rfl)) (z3 (by kernel_rfl)) rfl rfl rfl (fun _=>q_m rfl) ?_
        refine WD.mid (fuel':=0) [(1,(.int .i64 z2r)),(2,(.slice z2s zn.length z2t)),(3,(.pointer (some ⟨z6T,0,none⟩))),(7,(.map (some z6U))),(9,(.pointer (some ⟨z8H,0,none⟩))),(11,(.slice z2s zn.length z2t)),(12,(.int .i64 ((zn.length : Nat) : Int))),(13,(.int .i64 zu)),(58,(.bool (((decide ((yw z1v ((nth zn zu).fNode) 0) = 0)) || (decide ((yw z1v ((nth zn zu).fNext) 0) > 0))) || (((decide (zu > 0)) && (decide (((nth zn zu).fNode) ≠ ((nth zn 0).fNode)))) && (decide (((nth zn zu).fNode) < ((zA.fModules.length : Nat) : Int))))))),(69,(.bool zgH))] (y1j 45 [44,43,42,41,40,39,38,37,36,35,34,33,32,31,30,29,28,27,26,25,24,23,22,21,20,19,18,17,16,15,14,13,12,11,10,9,8,7,6,5,4,3,2,1,0]) ?_ (fun zkz=>?_)
        rotate_left
        · rcases Bool.eq_false_or_eq_true (((decide ((yw z1v ((nth zn zu).fNode) 0) = 0)) || (decide ((yw z1v ((nth zn zu).fNext) 0) > 0))) || (((decide (zu > 0)) && (decide (((nth zn zu).fNode) ≠ ((nth zn 0).fNode)))) && (decide (((nth zn zu).fNode) < ((zA.fModules.length : Nat) : Int))))) with hb' | hb'
          · have zgQ:=hb'; clear hb'
            have zgR:=yl zku zgQ
            replace zgR:=Option.some.inj zgR
            refine WD.pin (i:=58) rfl zgQ ?_
            refine WD.b (i:=34) (d:=59) (by kernel_rfl) rfl (z2 (by kernel_rfl)) (z3 (by kernel_rfl)) rfl rfl rfl ?_
            refine WD.b (i:=35) (d:=60) (by kernel_rfl) rfl (z2 (by kernel_rfl)) (z3 (by kernel_rfl)) rfl rfl rfl ?_
            refine WD.b (i:=36) (d:=61) (by kernel_rfl) rfl (z2 (by kernel_rfl)) (z3 (by kernel_rfl)) rfl rfl rfl ?_
            refine WD.b (i:=37) (d:=62) (by kernel_rfl) rfl (z2 (by kernel_rfl)) (z3 (by kernel_rfl)) rfl rfl rfl ?_
            refine WD.b (i:=38) (d:=63) (by kernel_rfl) rfl (z2 (by kernel_rfl)) (z3 (by kernel_rfl)) rfl rfl rfl ?_
            refine WD.b (i:=39) (d:=64) (by kernel_rfl) rfl (z2 (by kernel_rfl)) (z3 (by kernel_rfl)) rfl rfl rfl ?_
            refine WD.b (i:=40) (d:=65) (by kernel_rfl) rfl (z2 (by kernel_rfl)) (z3 (by kernel_rfl)) rfl rfl rfl ?_
            refine WD.b (i:=41) (d:=66) (by kernel_rfl) rfl (z2 (by kernel_rfl)) (z3 (by kernel_rfl)) rfl rfl rfl ?_
            refine WD.b (i:=42) (d:=67) (by kernel_rfl) rfl (z2 (by kernel_rfl)) (z3 (by kernel_rfl)) rfl rfl rfl ?_
            refine WD.b (i:=43) (d:=68) (by kernel_rfl) rfl (z2 (by kernel_rfl)) (z3 (by kernel_rfl)) rfl rfl rfl ?_
            refine WD.a (i:=44) (d:=69) (by kernel_rfl) rfl (z2 (by kernel_rfl)) (z3 (by kernel_rfl)) rfl rfl rfl (fun _=>y1y rfl rfl) ?_
            refine WD.yK (.cons .here (.cons .here (.cons .here .nil))) ?_ zkz
            exact (.cons rfl (.cons rfl (.cons rfl (.cons rfl (.cons rfl (.cons rfl (.cons rfl (.cons rfl (.cons (zr (Eq.symm zgQ)) (.cons (zr zgR) .nil))))))))))
          · have zgS:=hb'; clear hb'
            have zda:=ym zku zgS
            obtain ⟨zks,zpx,zda⟩:=zh zda
            replace zda:=Option.some.inj zda
            refine WD.pin (i:=58) rfl zgS ?_
            refine WD.e (i:=34) (d:=59) (by kernel_rfl) rfl (z2 (by kernel_rfl)) (z3 (by kernel_rfl)) rfl rfl rfl (yD y1t rfl (y1h .here) rfl) ?_
            refine WD.a (i:=35) (d:=60) (by kernel_rfl) rfl (z2 (by kernel_rfl)) (z3 (by kernel_rfl)) rfl rfl rfl (fun _=>q_m rfl) ?_
            refine WD.a (i:=36) (d:=61) (by kernel_rfl) rfl (z2 (by kernel_rfl)) (z3 (by kernel_rfl)) rfl rfl rfl (fun _=>ya y6U rfl rfl) ?_
            refine WD.e (i:=37) (d:=62) (by kernel_rfl) rfl (z2 (by kernel_rfl)) (z3 (by kernel_rfl)) rfl rfl rfl (yb yg rfl (yc .h2 rfl)) ?_
            refine WD.a (i:=38) (d:=63) (by kernel_rfl) rfl (z2 (by kernel_rfl)) (z3 (by kernel_rfl)) rfl rfl rfl (fun _=>ya y3v rfl rfl) ?_
            refine WD.e (i:=39) (d:=64) (by kernel_rfl) rfl (z2 (by kernel_rfl)) (z3 (by kernel_rfl)) rfl rfl rfl (yb yg rfl (yc .h2 rfl)) ?_
            refine WD.a (i:=40) (d:=65) (by kernel_rfl) rfl (z2 (by kernel_rfl)) (z3 (by kernel_rfl)) rfl rfl rfl (fun _=>ya y4r rfl rfl) ?_
            refine WD.e (i:=41) (d:=66) (by kernel_rfl) rfl (z2 (by kernel_rfl)) (z3 (by kernel_rfl)) rfl rfl rfl (yb yg rfl (yc .h2 rfl)) ?_
            refine WD.c (i:=42) (d:=67) (by kernel_rfl) rfl (z2 (by kernel_rfl)) (z3 (by kernel_rfl)) rfl rfl rfl (zz (l:=[.tmp 59,.tmp 60,.tmp 62,.tmp 64,.tmp 66]) Try.call48 (.cons rfl (.cons rfl (.cons rfl (.cons rfl (.cons rfl .nil)))))) (cc hz .nil fun w pz ho=>y7x _ _ _ _ _ _ _ _ _ _ _ _ _ _ _ _ _ _ _ _ _ _ _ zpx w pz zph zpi zpj zpk zpl zpm zpn zpo) ?_
            refine WD.a (i:=43) (d:=68) (by kernel_rfl) rfl (z2 (by kernel_rfl)) (z3 (by kernel_rfl)) rfl rfl rfl (fun _=>q_not rfl) ?_
            refine WD.a (i:=44) (d:=69) (by kernel_rfl) rfl (z2 (by kernel_rfl)) (z3 (by kernel_rfl)) rfl rfl rfl (fun _=>y1z rfl rfl) ?_
            refine WD.yK (.cons .here (.cons .here (.cons .here .nil))) ?_ zkz
            exact (.cons rfl (.cons rfl (.cons rfl (.cons rfl (.cons rfl (.cons rfl (.cons rfl (.cons rfl (.cons (zr (Eq.symm zgS)) (.cons (zr zda) .nil))))))))))
        refine WD.d #[true,true,true,true,true,true,true,true,true,true,true,true,true,true,true,true,true,true,true,true,true,true,true,true,true,true,true,true,true,true,true,true,true,true,true,true,true,true,true,true,true,true,true,true,true] (by kernel_rfl) ?_
        refine WD.done (by kernel_rfl) ?_
        refine WX.a ?_
        refine WC.cond rfl (fun zgT=>?_) (fun zgT=>?_)
        · replace h:=yl h zgT
          refine WC.b (WC.a (WL.pu rfl (WL.nil (WX.a (WC.ret (WX.yj (WX.yL (WX.yj (WX.yj (WX.yL (WX.yj ?_)))))))))))
          obtain rfl:=Option.some.inj h
          refine WX.yh Try.results36 (.tmp rfl .nil) (fun w hw=>?_)
          exact ⟨y12 rfl,hw.sub .nil⟩
        · replace h:=ym h zgT
          refine WC.skip (WX.a (WC.a (WL.pu rfl ?_)))
          refine WL.a (d:=71) rfl rfl rfl (ya y4r rfl rfl) ?_
          refine WL.a (d:=72) rfl rfl rfl (yb yg rfl (yc .h2 rfl)) ?_
          refine WL.a (d:=73) rfl rfl rfl (y4I (k:=((nth zn zu).fNext)) (dflt:=(0 : Int)) y5O Try.underlying125 y6T rfl rfl rfl .h1) ?_
          refine WL.pu rfl ?_
          refine WL.y1r rfl rfl (y5w (k:=((nth zn zu).fNext)) (v:=i64 ((yw z1v ((nth zn zu).fNext) 0) + 1)) y5O Try.underlying125 rfl rfl rfl rfl .h1) ?_
          refine WL.nil (WX.yf (WX.a (WC.a (WL.pu rfl (WL.pu rfl (WL.nil ?_))))))
          exact WX.round (G:=Nat × Int × (List (Int × Int))) ⟨zgG,(i64 (zu + 1)),(y14 z1v ((nth zn zu).fNext) (i64 ((yw z1v ((nth zn zu).fNext) 0) + 1)))⟩ h (Nat.lt_succ_self _) (.cons rfl (.cons rfl (.cons rfl (.cons rfl (.cons rfl (.cons rfl (.cons rfl .nil))))))) (.cons .h1 (.cons .here .nil))
    · replace h:=ym h zgI
      refine WC.exit (WX.ye (WX.ye (WX.yA ?_)))
      exact WX.mid (G:=Unit) () h (.cons rfl .nil) .nil
  · rintro  h
    replace h:=zpp.symm.trans h
    refine WC.b (WC.a (WL.pu rfl ?_))
    refine WL.a (d:=77) rfl rfl rfl (yU Try.underlying55 rfl) ?_
    refine WL.pu rfl (WL.pu rfl (WL.nil (WX.a (WC.ret ?_))))
    obtain rfl:=Option.some.inj h
    refine WX.yh Try.results36 (.tmp rfl .nil) (fun w hw=>?_)
    exact ⟨y12 rfl,hw.sub .nil⟩
def y11 (z8I : List Sapi_Hop) (z2u : Sapi_Config) (zeJ : Int) : Option Bool :=
  (y3l z2u zeJ z8I).bind fun zkA=>some (!zkA)
set_option maxRecDepth 20000 in
theorem y73 (Z : Zp) (zeK : Option Addr) (zeL : Nat) (zeM : Addr) (zkB : Option Addr) (zkC : Nat) (zkD : Option Addr) (zkE : Nat) (zkF : Option Addr) (zkG : Nat) (zkH : Option Addr) (zkI : Nat) (zkJ : Option Addr) (zkK : Nat) (zkL : Option Addr) (zkM : Nat) (zkN : Option Addr) (zkO : Nat) (zkP : Option Addr) (zkQ : Nat) (zeN : Addr) (z8I : List Sapi_Hop) (z2u : Sapi_Config) (zeJ : Int) (r : Bool)
     (h : y11 z8I z2u zeJ = some r) (w₀ : World) (hz : PZ [] w₀ Z)
     (zpy : ZS Z 3 (fun r x=>r = e59 x) zeK zeL z8I)
     (zpz : ZS Z 4 (y2x Z) zkB zkC z2u.fModules)
     (zpA : ZS Z 4 (y2W Z) zkD zkE z2u.fChannels)
     (zpB : ZS Z 4 (fun r x=>r = e64 x) zkF zkG z2u.fSwitches)
     (zpC : ZS Z 4 (fun r x=>r = e62 x) zkH zkI z2u.fLinks)
     (zpD : ZS Z 7 (y2J Z) zkJ zkK z2u.fVLs)
     (zpE : ZS Z 5 (fun r x=>r = y2Z x) zkL zkM z2u.fHealth)
     (zpF : ZS Z 3 (y2X Z) zkN zkO z2u.fCauses)
     (zpG : ZS Z 4 (fun r x=>r = y30 x) zkP zkQ z2u.fVersions)
     (zpH : ZC Z zeM [(.slice zkB z2u.fModules.length zkC),(.slice zkD z2u.fChannels.length zkE),(.slice zkF z2u.fSwitches.length zkG),(.slice zkH z2u.fLinks.length zkI),(.slice zkJ z2u.fVLs.length zkK),(.slice zkL z2u.fHealth.length zkM),(.slice zkN z2u.fCauses.length zkO),(.slice zkP z2u.fVersions.length zkQ)])
     (zpI : ZC Z zeN [(.int .i64 zeJ)]) :
    Calls Try.prog 35 #[(.slice zeK z8I.length zeL),(.pointer (some zeM)),(.pointer (some zeN))] w₀ fun e w'=>e = .returned (.bool r) ∧ Hp [] w₀ w' []:=by
  unfold y11 at h
  refine Calls.yk (vs:=[(.slice zeK z8I.length zeL),(.pointer (some zeM)),(.pointer (some zeN))]) (pre:=[]) (env:=[(0,(.slice zeK z8I.length zeL)),(1,(.pointer (some zeM))),(2,(.pointer (some zeN)))]) Try.func35 rfl Try.ntmps35 rfl (Hp.nil w₀ _) rfl ?_
  refine WC.b (WC.a (WL.pu rfl (WL.nil (WX.a (WC.b ?_)))))
  obtain ⟨zkA,zpJ,h⟩:=zh h
  refine WC.a ?_
  refine WL.a (d:=5) rfl rfl rfl (yD y1t rfl (y3t hz.pv zpH) rfl) ?_
  refine WL.a (d:=6) rfl rfl rfl (yb yg rfl (rd_z hz.pv zpI rfl)) ?_
  refine WL.pu rfl ?_
  refine WL.b (dd:=8) rfl rfl rfl (zz (l:=[.tmp 5,.tmp 6,.tmp 7]) Try.call36 (.cons rfl (.cons rfl (.cons rfl .nil)))) .nil (cc hz .nil fun w pz ho=>y7y _ _ _ _ _ _ _ _ _ _ _ _ _ _ _ _ _ _ _ _ _ _ _ zpJ w pz zpz zpA zpB zpC zpD zpE zpF zpG zpy) ?_
  refine WL.pu rfl (WL.pu rfl (WL.nil (WX.a (WC.ret ?_))))
  obtain rfl:=Option.some.inj h
  refine WX.yh Try.results35 (.tmp rfl .nil) (fun w hw=>?_)
  exact ⟨y12 rfl,hw.sub .nil⟩
def yu (z2H : List (List Sapi_Hop)) (z54 : (List Sapi_Hop) → Option Bool) (z6V : Option Int) : Nat → Int → Option Int
  | 0,_=>none
  | zgU + 1,z2T=>if decide (z2T < ((z2H.length : Nat) : Int)) then chk ((0 : Int) ≤ z2T ∧ z2T < ((z2H.length : Nat) : Int)) ((z54 (nth z2H z2T)).bind fun zgV=>if zgV then some z2T else yu z2H z54 z6V zgU (i64 (z2T + 1))) else z6V
theorem y3f {n : Nat} {z2H : List (List Sapi_Hop)} {z54 : (List Sapi_Hop) → Option Bool} {z6V : Option Int} {z2T : Int} {r : Int} (h : yu z2H z54 z6V n z2T = some r) : ∃ m,n = m + 1:=by
  cases n with
  | zero=>cases h
  | succ m=>exact ⟨m,rfl⟩
def y1q (z2H : List (List Sapi_Hop)) (z54 : (List Sapi_Hop) → Option Bool) : Option Int :=
  jp0 (some (-1)) fun z6V=>yu z2H z54 z6V yz 0
set_option maxRecDepth 20000 in
theorem y3X (Z : Zp) (zdb : Option Addr) (zdc : Nat) (z6W : FuncId) (z8J : List Value) (z2H : List (List Sapi_Hop)) (z54 : (List Sapi_Hop) → Option Bool) (r : Int)
     (h : y1q z2H z54 = some r) (w₀ : World) (hz : PZ [] w₀ Z)
     (zpK : ZS Z 1 (p55 Z) zdb zdc z2H)
     (zpL : ∀ args w,(callFunc z6W args).run Try.prog w = .ok (.enter z6W args) w)
     (zpM : ∀ w : World,PZ [] w Z → ∀ (x0 : List Sapi_Hop) (ao0 : Option Addr) (cap0 : Nat) (r : Bool),ZS Z 3 (fun r x=>r = e59 x) ao0 cap0 x0 → z54 x0 = some r → Calls Try.prog z6W (([(.slice ao0 x0.length cap0)] : List Value) ++ z8J).toArray w fun e w'=>e = .returned (.bool r) ∧ Hp [] w w' []) :
    Calls Try.prog 47 #[(.slice zdb z2H.length zdc),(.func (.func z6W) #[] (z8J).toArray)] w₀ fun e w'=>e = .returned (.int .i64 r) ∧ Hp [] w₀ w' []:=by
  unfold y1q at h
  refine Calls.yk (vs:=[(.slice zdb z2H.length zdc),(.func (.func z6W) #[] (z8J).toArray)]) (pre:=[]) (env:=[(0,(.slice zdb z2H.length zdc)),(1,(.func (.func z6W) #[] (z8J).toArray))]) Try.func47 rfl Try.ntmps47 rfl (Hp.nil w₀ _) rfl ?_
  refine WC.b (WC.a (WL.pu rfl (WL.nil (WX.a ?_))))
  obtain ⟨z6V,zpN,h⟩:=y2U h
  refine WC.y2v ((z6V = some r)) ([]) ([]) ?_ ?_
  · skip
    refine WC.b (WC.a (WL.pu rfl ?_))
    refine WL.a (d:=7) rfl rfl rfl (yU Try.underlying32 rfl) ?_
    refine WL.pu rfl (WL.nil (WX.a (WC.block ?_)))
    refine WC.y45 (fun (zan : Nat) (z2T : Int)=>(yu z2H z54 z6V zan z2T = some r)) (fun (zan : Nat) (z2T : Int)=>[(0,(.slice zdb z2H.length zdc)),(1,(.func (.func z6W) #[] (z8J).toArray)),(7,(.int .i64 ((z2H.length : Nat) : Int))),(8,(.int .i64 z2T))]) (fun (zan : Nat) (z2T : Int)=>[]) (fun (zan : Nat) (z2T : Int)=>zan) ⟨yz,0⟩ h (.cons rfl (.cons rfl (.cons rfl (.cons rfl .nil)))) .nil ?_
    rintro zan z2T h
    obtain ⟨zgU,rfl⟩:=y3f h
    rw [yu] at h
    refine WC.b (WC.a (WL.pu rfl (WL.nil (WX.a (WC.b ?_)))))
    refine WC.cond rfl (fun zgW=>?_) (fun zgW=>?_)
    · replace h:=yl h zgW
      refine WC.skip (WX.a (WC.b (WC.block (WC.b (WC.a (WL.pu rfl (WL.pu rfl (WL.nil (WX.a (WC.b ?_))))))))))
      obtain ⟨zpO,h⟩:=yi h
      obtain ⟨zgV,zpP,h⟩:=zh h
      refine WC.a (WL.pu rfl (WL.pu rfl (WL.pu rfl ?_)))
      refine WL.znth (dd:=14) rfl rfl (Z:=Z) (Pr:=(p55 Z)) y5K rfl rfl zpK zpO ?_
      rintro zvZ zw0 zpQ zw1 ⟨zpR,zpS,rfl,zpT⟩
      refine WL.a (d:=15) rfl rfl rfl (yb y5L rfl (rd_z hz.pv zpQ rfl)) ?_
      refine WL.b (dd:=16) rfl rfl rfl (y3J (l:=[.tmp 15]) (f:=z6W) (caps:=z8J) zpL rfl (.cons rfl .nil)) .nil (fun w hw=>zpM w (hz.now hw) (nth z2H z2T) zpR zpS zgV zpT zpP) ?_
      refine WL.nil (WX.a ?_)
      refine WC.cond rfl (fun zgX=>?_) (fun zgX=>?_)
      · replace h:=yl h zgX
        refine WC.b (WC.a (WL.pu rfl (WL.pu rfl (WL.nil (WX.a (WC.ret (WX.yL (WX.yj (WX.yj (WX.yL (WX.yj ?_)))))))))))
        obtain rfl:=Option.some.inj h
        refine WX.yh Try.results47 (.tmp rfl .nil) (fun w hw=>?_)
        exact ⟨y12 rfl,hw.sub .nil⟩
      · replace h:=ym h zgX
        refine WC.skip (WX.yf (WX.a (WC.a (WL.pu rfl (WL.pu rfl (WL.nil ?_))))))
        exact WX.round (G:=Nat × Int) ⟨zgU,(i64 (z2T + 1))⟩ h (Nat.lt_succ_self _) (.cons rfl (.cons rfl (.cons rfl (.cons rfl .nil)))) .nil
    · replace h:=ym h zgW
      refine WC.exit (WX.ye (WX.ye (WX.yA ?_)))
      exact WX.mid (G:=Unit) () h .nil .nil
  · rintro  h
    replace h:=zpN.symm.trans h
    refine WC.b (WC.a (WL.pu rfl (WL.nil (WX.a (WC.ret ?_)))))
    obtain rfl:=Option.some.inj h
    refine WX.yh Try.results47 (.tmp rfl .nil) (fun w hw=>?_)
    exact ⟨y12 rfl,hw.sub .nil⟩
def y1g (z8K : List (List Sapi_Hop)) (zao : (List Sapi_Hop) → Option Bool) : Option Bool :=
  (y1q z8K zao).bind fun zkR=>some (decide (zkR ≥ 0))
set_option maxRecDepth 20000 in
theorem y3C (Z : Zp) (zeO : Option Addr) (zeP : Nat) (z7S : FuncId) (zap : List Value) (z8K : List (List Sapi_Hop)) (zao : (List Sapi_Hop) → Option Bool) (r : Bool)
     (h : y1g z8K zao = some r) (w₀ : World) (hz : PZ [] w₀ Z)
     (zpU : ZS Z 1 (p55 Z) zeO zeP z8K)
     (zpV : ∀ args w,(callFunc z7S args).run Try.prog w = .ok (.enter z7S args) w)
     (zpW : ∀ w : World,PZ [] w Z → ∀ (x0 : List Sapi_Hop) (ao0 : Option Addr) (cap0 : Nat) (r : Bool),ZS Z 3 (fun r x=>r = e59 x) ao0 cap0 x0 → zao x0 = some r → Calls Try.prog z7S (([(.slice ao0 x0.length cap0)] : List Value) ++ zap).toArray w fun e w'=>e = .returned (.bool r) ∧ Hp [] w w' []) :
    Calls Try.prog 34 #[(.slice zeO z8K.length zeP),(.func (.func z7S) #[] (zap).toArray)] w₀ fun e w'=>e = .returned (.bool r) ∧ Hp [] w₀ w' []:=by
  unfold y1g at h
  refine Calls.yk (vs:=[(.slice zeO z8K.length zeP),(.func (.func z7S) #[] (zap).toArray)]) (pre:=[]) (env:=[(0,(.slice zeO z8K.length zeP)),(1,(.func (.func z7S) #[] (zap).toArray))]) Try.func34 rfl Try.ntmps34 rfl (Hp.nil w₀ _) rfl ?_
  refine WC.b (WC.a (WL.pu rfl (WL.nil (WX.a (WC.b ?_)))))
  obtain ⟨zkR,zpX,h⟩:=zh h
  refine WC.a (WL.pu rfl (WL.pu rfl ?_))
  refine WL.b (dd:=7) rfl rfl rfl (zz (l:=[.tmp 5,.tmp 6]) Try.call47 (.cons rfl (.cons rfl .nil))) .nil (cc hz .nil fun w pz ho=>y3X _ _ _ (z6W:=z7S) (z8J:=zap) _ (z54:=zao) _ zpX w pz zpU zpV zpW) ?_
  refine WL.pu rfl (WL.pu rfl (WL.nil (WX.a (WC.ret ?_))))
  obtain rfl:=Option.some.inj h
  refine WX.yh Try.results34 (.tmp rfl .nil) (fun w hw=>?_)
  exact ⟨y12 rfl,hw.sub .nil⟩
def y2Q (zQ : Sapi_Config) (z39 : Int) (z4s : List (List Sapi_Hop)) : Option Bool :=
  (if (((decide (z39 = 0)) || (decide (z39 = 1))) && (decide (((z4s.length : Nat) : Int) = ((zQ.fVLs.length : Nat) : Int)))) && (decide (((z4s.length : Nat) : Int) ≤ 16)) then (y1g z4s (fun (y0 : List Sapi_Hop)=>y11 y0 zQ z39)).bind fun zkS=>some (!zkS) else some false).bind fun zgY=>some zgY
set_option maxRecDepth 20000 in
theorem y5s (Z : Zp) (zdd : Option Addr) (zde : Nat) (zdf : Option Addr) (zdg : Nat) (zdh : Option Addr) (zdi : Nat) (zdj : Option Addr) (zdk : Nat) (zdl : Option Addr) (zdm : Nat) (zdn : Option Addr) (zdo : Nat) (zdp : Option Addr) (zdq : Nat) (zdr : Option Addr) (zds : Nat) (zeQ : Option Addr) (zeR : Nat) (zQ : Sapi_Config) (z39 : Int) (z4s : List (List Sapi_Hop)) (r : Bool)
     (h : y2Q zQ z39 z4s = some r) (w₀ : World) (hz : PZ [] w₀ Z)
     (zpY : ZS Z 4 (y2x Z) zdd zde zQ.fModules)
     (zpZ : ZS Z 4 (y2W Z) zdf zdg zQ.fChannels)
     (zq0 : ZS Z 4 (fun r x=>r = e64 x) zdh zdi zQ.fSwitches)
     (zq1 : ZS Z 4 (fun r x=>r = e62 x) zdj zdk zQ.fLinks)
     (zq2 : ZS Z 7 (y2J Z) zdl zdm zQ.fVLs)
     (zq3 : ZS Z 5 (fun r x=>r = y2Z x) zdn zdo zQ.fHealth)
     (zq4 : ZS Z 3 (y2X Z) zdp zdq zQ.fCauses)
     (zq5 : ZS Z 4 (fun r x=>r = y30 x) zdr zds zQ.fVersions)
     (zq6 : ZS Z 1 (p55 Z) zeQ zeR z4s) :
    Calls Try.prog 15 #[(.agg #[(.slice zdd zQ.fModules.length zde),(.slice zdf zQ.fChannels.length zdg),(.slice zdh zQ.fSwitches.length zdi),(.slice zdj zQ.fLinks.length zdk),(.slice zdl zQ.fVLs.length zdm),(.slice zdn zQ.fHealth.length zdo),(.slice zdp zQ.fCauses.length zdq),(.slice zdr zQ.fVersions.length zds)]),(.int .i64 z39),(.slice zeQ z4s.length zeR)] w₀ fun e w'=>e = .returned (.bool r) ∧ Hp [] w₀ w' []:=by
  unfold y2Q at h
  refine Calls.yk (vs:=[(.agg #[(.slice zdd zQ.fModules.length zde),(.slice zdf zQ.fChannels.length zdg),(.slice zdh zQ.fSwitches.length zdi),(.slice zdj zQ.fLinks.length zdk),(.slice zdl zQ.fVLs.length zdm),(.slice zdn zQ.fHealth.length zdo),(.slice zdp zQ.fCauses.length zdq),(.slice zdr zQ.fVersions.length zds)]),(.int .i64 z39),(.slice zeQ z4s.length zeR)]) (pre:=[]) (env:=[(0,(.agg #[(.slice zdd zQ.fModules.length zde),(.slice zdf zQ.fChannels.length zdg),(.slice zdh zQ.fSwitches.length zdi),(.slice zdj zQ.fLinks.length zdk),(.slice zdl zQ.fVLs.length zdm),(.slice zdn zQ.fHealth.length zdo),(.slice zdp zQ.fCauses.length zdq),(.slice zdr zQ.fVersions.length zds)])),(1,(.int .i64 z39)),(2,(.slice zeQ z4s.length zeR))]) Try.func15 rfl Try.ntmps15 rfl (Hp.nil w₀ _) rfl ?_
  refine WC.b (WC.a ?_)
  refine WL.new (dd:=3) rfl rfl rfl (y2g (cs:=[(.slice zdd zQ.fModules.length zde),(.slice zdf zQ.fChannels.length zdg),(.slice zdh zQ.fSwitches.length zdi),(.slice zdj zQ.fLinks.length zdk),(.slice zdl zQ.fVLs.length zdm),(.slice zdn zQ.fHealth.length zdo),(.slice zdp zQ.fCauses.length zdq),(.slice zdr zQ.fVersions.length zds)]) rfl rfl) ?_
  intro zq7 _
  refine WL.new (dd:=4) rfl rfl rfl (y2g (cs:=[(.int .i64 z39)]) rfl rfl) ?_
  intro zq8 _
  refine WL.pu rfl (WL.nil (WX.a (WC.b ?_)))
  obtain ⟨zgY,zkT,h⟩:=zh h
  refine WC.a ?_
  refine WL.a (d:=7) rfl rfl rfl (yb yg rfl (yc .here rfl)) ?_
  refine WL.pu rfl (WL.pu rfl ?_)
  refine WL.seg false 2 9 (B:=(decide (z39 = 0)) || (decide (z39 = 1))) rfl rfl rfl rfl rfl rfl (fun h=>(y2k h).symm) (fun _ zq9=>?_) ?_
  · skip
    refine WL.a (d:=10) rfl rfl rfl (yb yg rfl (yc .here rfl)) ?_
    refine WL.pu rfl (WL.pu rfl ?_)
    exact WL.ys (y2l zq9) rfl rfl .all
  refine WL.pu rfl ?_
  refine WL.seg true 6 13 (B:=((decide (z39 = 0)) || (decide (z39 = 1))) && (decide (((z4s.length : Nat) : Int) = ((zQ.fVLs.length : Nat) : Int)))) rfl rfl rfl rfl rfl rfl (fun h=>(y2t h).symm) (fun _ zqa=>?_) ?_
  · skip
    refine WL.pu rfl ?_
    refine WL.a (d:=15) rfl rfl rfl (yU Try.underlying32 rfl) ?_
    refine WL.a (d:=16) rfl rfl rfl (ya y6R rfl rfl) ?_
    refine WL.a (d:=17) rfl rfl rfl (yb y6S rfl (yc .h1 rfl)) ?_
    refine WL.a (d:=18) rfl rfl rfl (yU Try.underlying26 rfl) ?_
    refine WL.pu rfl (WL.pu rfl ?_)
    exact WL.ys (y2u zqa) rfl rfl .all
  refine WL.pu rfl ?_
  refine WL.seg true 3 21 (B:=(((decide (z39 = 0)) || (decide (z39 = 1))) && (decide (((z4s.length : Nat) : Int) = ((zQ.fVLs.length : Nat) : Int)))) && (decide (((z4s.length : Nat) : Int) ≤ 16))) rfl rfl rfl rfl rfl rfl (fun h=>(y2t h).symm) (fun _ zqb=>?_) ?_
  · skip
    refine WL.pu rfl ?_
    refine WL.a (d:=23) rfl rfl rfl (yU Try.underlying32 rfl) ?_
    refine WL.pu rfl (WL.pu rfl ?_)
    exact WL.ys (y2u zqb) rfl rfl .all
  refine WL.pu rfl ?_
  refine WL.seg true 4 26 (B:=zgY) rfl rfl rfl rfl rfl rfl (fun h=>(Option.some.inj (ym zkT h)).symm) (fun _ zqc=>?_) ?_
  · skip
    have zdt:=yl zkT zqc
    obtain ⟨zkS,zqd,zdt⟩:=zh zdt
    replace zdt:=Option.some.inj zdt
    refine WL.pu rfl ?_
    refine WL.a (d:=28) rfl rfl rfl (y67 (Eos.caps (l:=[.tmp 3,.tmp 4]) (.cons rfl (.cons rfl .nil)))) ?_
    refine WL.b (dd:=29) rfl rfl rfl (zz (l:=[.tmp 27,.tmp 28]) Try.call34 (.cons rfl (.cons rfl .nil))) .nil (ccl hz .nil (.cons .h1 (.cons .here .nil)) fun w pz ho la=>y3C _ _ _ (z7S:=35) (zap:=[(.pointer (some ⟨zq7,0,none⟩)),(.pointer (some ⟨zq8,0,none⟩))]) _ (zao:=(fun (y0 : List Sapi_Hop)=>y11 y0 zQ z39)) _ zqd w pz ((zq6.mono (Zle.left _ _)).weak (fun _ _ h=>y39 (Zle.left _ _) h)) Try.call35 (fun w' hz' y0 ga0 gc0 r gh0 hr=>y73 _ _ _ _ _ _ _ _ _ _ _ _ _ _ _ _ _ _ _ _ _ _ _ _ _ hr w' hz' gh0 ((zpY.mono (Zle.left _ _)).weak (fun _ _ h=>y1H (Zle.left _ _) h)) ((zpZ.mono (Zle.left _ _)).weak (fun _ _ h=>y1M (Zle.left _ _) h)) (zq0.mono (Zle.left _ _)) (zq1.mono (Zle.left _ _)) ((zq2.mono (Zle.left _ _)).weak (fun _ _ h=>y1I (Zle.left _ _) h)) (zq3.mono (Zle.left _ _)) ((zq4.mono (Zle.left _ _)).weak (fun _ _ h=>y1N (Zle.left _ _) h)) (zq5.mono (Zle.left _ _)) ((la _ (.head _) _).stb) ((la _ (.tail _ (.head _)) _).stb))) ?_
    refine WL.pu rfl (WL.pu rfl ?_)
    exact WL.ys zdt rfl rfl .all
  refine WL.pu rfl (WL.nil (WX.a (WC.ret ?_)))
  obtain rfl:=Option.some.inj h
  refine WX.yh Try.results15 (.tmp rfl .nil) (fun w hw=>?_)
  exact ⟨y12 rfl,hw.sub .nil⟩
def y1Z (za : List zSt) (zB : Sapi_Config) (z6X : Option Bool) : Nat → Int → Option Bool
  | 0,_=>none
  | zgZ + 1,zd=>if decide (zd < ((za.length : Nat) : Int)) then chk ((0 : Int) ≤ zd ∧ zd < ((za.length : Nat) : Int)) (chk (((((((decide (((nth za zd).fTime) < 0)) || (decide (((nth za zd).fTime) > 536870912))) || (decide (((nth za zd).fVL) < 0))) || (decide (((nth za zd).fVL) ≥ ((zB.fVLs.length : Nat) : Int)))) || (decide (((nth za zd).fSize) < 1))) || (decide (((nth za zd).fSize) > 72))) = false → ((decide (zd > 0)) = true → ((0 : Int) ≤ (i64 (zd - 1)) ∧ (i64 (zd - 1)) < ((za.length : Nat) : Int)))) (if ((((((decide (((nth za zd).fTime) < 0)) || (decide (((nth za zd).fTime) > 536870912))) || (decide (((nth za zd).fVL) < 0))) || (decide (((nth za zd).fVL) ≥ ((zB.fVLs.length : Nat) : Int)))) || (decide (((nth za zd).fSize) < 1))) || (decide (((nth za zd).fSize) > 72))) || ((decide (zd > 0)) && (decide (((nth za (i64 (zd - 1))).fTime) > ((nth za zd).fTime)))) then some false else y1Z za zB z6X zgZ (i64 (zd + 1)))) else z6X
theorem y5y {n : Nat} {za : List zSt} {zB : Sapi_Config} {z6X : Option Bool} {zd : Int} {r : Bool} (h : y1Z za zB z6X n zd = some r) : ∃ m,n = m + 1:=by
  cases n with
  | zero=>cases h
  | succ m=>exact ⟨m,rfl⟩
def y3w (zB : Sapi_Config) (za : List zSt) : Option Bool :=
  if decide (((za.length : Nat) : Int) > 40) then some false else jp0 (some true) fun z6X=>y1Z za zB z6X yz 0
set_option maxRecDepth 20000 in
theorem y7V (Z : Zp) (zaq : Option Addr) (zar : Nat) (zas : Option Addr) (zat : Nat) (zau : Option Addr) (zav : Nat) (zaw : Option Addr) (zax : Nat) (zay : Option Addr) (zaz : Nat) (zaA : Option Addr) (zaB : Nat) (zaC : Option Addr) (zaD : Nat) (zaE : Option Addr) (zaF : Nat) (z2j : Option Addr) (z2k : Nat) (zB : Sapi_Config) (za : List zSt) (r : Bool)
     (h : y3w zB za = some r) (w₀ : World) (hz : PZ [] w₀ Z)
     (zw2 : ZS Z 4 (y2x Z) zaq zar zB.fModules)
     (zw3 : ZS Z 4 (y2W Z) zas zat zB.fChannels)
     (zw4 : ZS Z 4 (fun r x=>r = e64 x) zau zav zB.fSwitches)
     (zw5 : ZS Z 4 (fun r x=>r = e62 x) zaw zax zB.fLinks)
     (zw6 : ZS Z 7 (y2J Z) zay zaz zB.fVLs)
     (zw7 : ZS Z 5 (fun r x=>r = y2Z x) zaA zaB zB.fHealth)
     (zw8 : ZS Z 3 (y2X Z) zaC zaD zB.fCauses)
     (zw9 : ZS Z 4 (fun r x=>r = y30 x) zaE zaF zB.fVersions)
     (zkU : ZS Z 3 (fun r x=>r = e53 x) z2j z2k za) :
    Calls Try.prog 22 #[(.agg #[(.slice zaq zB.fModules.length zar),(.slice zas zB.fChannels.length zat),(.slice zau zB.fSwitches.length zav),(.slice zaw zB.fLinks.length zax),(.slice zay zB.fVLs.length zaz),(.slice zaA zB.fHealth.length zaB),(.slice zaC zB.fCauses.length zaD),(.slice zaE zB.fVersions.length zaF)]),(.slice z2j za.length z2k)] w₀ fun e w'=>e = .returned (.bool r) ∧ Hp [] w₀ w' []:=by
  unfold y3w at h
  refine Calls.yk (vs:=[(.agg #[(.slice zaq zB.fModules.length zar),(.slice zas zB.fChannels.length zat),(.slice zau zB.fSwitches.length zav),(.slice zaw zB.fLinks.length zax),(.slice zay zB.fVLs.length zaz),(.slice zaA zB.fHealth.length zaB),(.slice zaC zB.fCauses.length zaD),(.slice zaE zB.fVersions.length zaF)]),(.slice z2j za.length z2k)]) (pre:=[]) (env:=[(0,(.agg #[(.slice zaq zB.fModules.length zar),(.slice zas zB.fChannels.length zat),(.slice zau zB.fSwitches.length zav),(.slice zaw zB.fLinks.length zax),(.slice zay zB.fVLs.length zaz),(.slice zaA zB.fHealth.length zaB),(.slice zaC zB.fCauses.length zaD),(.slice zaE zB.fVersions.length zaF)])),(1,(.slice z2j za.length z2k))]) Try.func22 rfl Try.ntmps22 rfl (Hp.nil w₀ _) rfl ?_
  refine WC.b (WC.a ?_)
  refine WL.new (dd:=2) rfl rfl rfl (y2g (cs:=[(.slice zaq zB.fModules.length zar),(.slice zas zB.fChannels.length zat),(.slice zau zB.fSwitches.length zav),(.slice zaw zB.fLinks.length zax),(.slice zay zB.fVLs.length zaz),(.slice zaA zB.fHealth.length zaB),(.slice zaC zB.fCauses.length zaD),(.slice zaE zB.fVersions.length zaF)]) rfl rfl) ?_
  intro z6Y _
  refine WL.pu rfl (WL.nil (WX.a (WC.b (WC.b (WC.a (WL.pu rfl ?_))))))
  refine WL.a (d:=8) rfl rfl rfl (yU Try.underlying33 rfl) ?_
  refine WL.pu rfl (WL.nil (WX.a ?_))
  refine WC.cond rfl (fun zh0=>?_) (fun zh0=>?_)
  · replace h:=yl h zh0
    refine WC.b (WC.a (WL.pu rfl (WL.nil (WX.a (WC.ret (WX.yj ?_))))))
    obtain rfl:=Option.some.inj h
    refine WX.yh Try.results22 (.tmp rfl .nil) (fun w hw=>?_)
    exact ⟨y12 rfl,hw.sub .nil⟩
  · replace h:=ym h zh0
    refine WC.skip (WX.a ?_)
    obtain ⟨z6X,zqe,h⟩:=y2U h
    refine WC.y2v ((z6X = some r)) ([]) ([]) ?_ ?_
    · skip
      refine WC.b (WC.a (WL.pu rfl ?_))
      refine WL.a (d:=11) rfl rfl rfl (yU Try.underlying33 rfl) ?_
      refine WL.pu rfl (WL.nil (WX.a (WC.block ?_)))
      refine WC.y45 (fun (zaG : Nat) (zd : Int)=>(y1Z za zB z6X zaG zd = some r)) (fun (zaG : Nat) (zd : Int)=>[(1,(.slice z2j za.length z2k)),(2,(.pointer (some ⟨z6Y,0,none⟩))),(10,(.slice z2j za.length z2k)),(11,(.int .i64 ((za.length : Nat) : Int))),(12,(.int .i64 zd))]) (fun (zaG : Nat) (zd : Int)=>[stb z6Y 31 [(.slice zaq zB.fModules.length zar),(.slice zas zB.fChannels.length zat),(.slice zau zB.fSwitches.length zav),(.slice zaw zB.fLinks.length zax),(.slice zay zB.fVLs.length zaz),(.slice zaA zB.fHealth.length zaB),(.slice zaC zB.fCauses.length zaD),(.slice zaE zB.fVersions.length zaF)]]) (fun (zaG : Nat) (zd : Int)=>zaG) ⟨yz,0⟩ h (.cons rfl (.cons rfl (.cons rfl (.cons rfl (.cons rfl .nil))))) (.cons .here .nil) ?_
      rintro zaG zd h
      obtain ⟨zgZ,rfl⟩:=y5y h
      rw [y1Z] at h
      refine WC.b (WC.a (WL.pu rfl (WL.nil (WX.a (WC.b ?_)))))
      refine WC.cond rfl (fun zh1=>?_) (fun zh1=>?_)
      · replace h:=yl h zh1
        refine WC.skip (WX.a (WC.b (WC.block (WC.b ?_))))
        obtain ⟨zqf,h⟩:=yi h
        refine WC.a (WL.pu rfl ?_)
        refine WL.znth (dd:=15) rfl rfl (Z:=Z) (Pr:=(fun r x=>r = e53 x)) y4y rfl rfl zkU zqf ?_
        rintro zwa zwb zqg zwc rfl
        refine WL.a (d:=16) rfl rfl rfl (yD y6V rfl (y3t hz.pv zqg) rfl) ?_
        refine WL.new (dd:=6) rfl rfl rfl (y1U (cs:=[(.int .i64 0),(.int .i64 0),(.int .i64 0)]) y6d rfl) ?_
        intro zdu _
        refine WL.pu rfl ?_
        refine WL.y1r rfl rfl (y1K y6W rfl rfl rfl .here rfl rfl rfl) ?_
        refine WL.nil (WX.a (WC.b ?_))
        obtain ⟨zqh,h⟩:=yi h
        refine WC.yV (fun i=>[].contains i) [] rfl ?_
        refine WD.a (i:=0) (d:=17) (by kernel_rfl) rfl (z2 (by kernel_rfl)) (z3 (by kernel_rfl)) rfl rfl rfl (fun _=>ya y4f rfl rfl) ?_
        refine WD.e (i:=1) (d:=18) (by kernel_rfl) rfl (z2 (by kernel_rfl)) (z3 (by kernel_rfl)) rfl rfl rfl (yb yg rfl (yc .here rfl)) ?_
        refine WD.a (i:=2) (d:=19) (by kernel_rfl) rfl (z2 (by kernel_rfl)) (z3 (by kernel_rfl)) rfl rfl rfl (fun _=>y3r rfl rfl) ?_
        refine WD.a (i:=3) (d:=20) (by kernel_rfl) rfl (z2 (by kernel_rfl)) (z3 (by kernel_rfl)) rfl rfl rfl (fun _=>q_m rfl) ?_
        refine WD.mid (fuel':=38) [(1,(.slice z2j za.length z2k)),(2,(.pointer (some ⟨z6Y,0,none⟩))),(10,(.slice z2j za.length z2k)),(11,(.int .i64 ((za.length : Nat) : Int))),(12,(.int .i64 zd)),(6,(.pointer (some ⟨zdu,0,none⟩))),(5,(.int .i64 zd)),(20,(.bool (decide (((nth za zd).fTime) < 0)))),(24,(.bool ((decide (((nth za zd).fTime) < 0)) || (decide (((nth za zd).fTime) > 536870912)))))] (y1j 46 [7,6,5,4,3,2,1,0]) ?_ (fun zkV=>?_)
        rotate_left
        · rcases Bool.eq_false_or_eq_true (decide (((nth za zd).fTime) < 0)) with hb' | hb'
          · have zh2:=hb'; clear hb'
            refine WD.pin (i:=20) rfl zh2 ?_
            refine WD.b (i:=4) (d:=21) (by kernel_rfl) rfl (z2 (by kernel_rfl)) (z3 (by kernel_rfl)) rfl rfl rfl ?_
            refine WD.b (i:=5) (d:=22) (by kernel_rfl) rfl (z2 (by kernel_rfl)) (z3 (by kernel_rfl)) rfl rfl rfl ?_
            refine WD.b (i:=6) (d:=23) (by kernel_rfl) rfl (z2 (by kernel_rfl)) (z3 (by kernel_rfl)) rfl rfl rfl ?_
            refine WD.a (i:=7) (d:=24) (by kernel_rfl) rfl (z2 (by kernel_rfl)) (z3 (by kernel_rfl)) rfl rfl rfl (fun _=>y1y rfl rfl) ?_
            refine WD.yK (.cons .here (.cons .here .nil)) ?_ zkV
            exact (.cons rfl (.cons rfl (.cons rfl (.cons rfl (.cons rfl (.cons rfl (.cons rfl (.cons (zr (Eq.symm zh2)) (.cons (zr (y2k zh2)) .nil)))))))))
          · have zh3:=hb'; clear hb'
            refine WD.pin (i:=20) rfl zh3 ?_
            refine WD.a (i:=4) (d:=21) (by kernel_rfl) rfl (z2 (by kernel_rfl)) (z3 (by kernel_rfl)) rfl rfl rfl (fun _=>ya y4f rfl rfl) ?_
            refine WD.e (i:=5) (d:=22) (by kernel_rfl) rfl (z2 (by kernel_rfl)) (z3 (by kernel_rfl)) rfl rfl rfl (yb yg rfl (yc .here rfl)) ?_
            refine WD.a (i:=6) (d:=23) (by kernel_rfl) rfl (z2 (by kernel_rfl)) (z3 (by kernel_rfl)) rfl rfl rfl (fun _=>y3K rfl rfl) ?_
            refine WD.a (i:=7) (d:=24) (by kernel_rfl) rfl (z2 (by kernel_rfl)) (z3 (by kernel_rfl)) rfl rfl rfl (fun _=>y1z rfl rfl) ?_
            refine WD.yK (.cons .here (.cons .here .nil)) ?_ zkV
            exact (.cons rfl (.cons rfl (.cons rfl (.cons rfl (.cons rfl (.cons rfl (.cons rfl (.cons (zr (Eq.symm zh3)) (.cons (zr (y2l zh3)) .nil)))))))))
        refine WD.d #[true,true,true,true,true,true,true,true,false,false,false,false,false,false,false,false,false,false,false,false,false,false,false,false,false,false,false,false,false,false,false,false,false,false,false,false,false,false,false,false,false,false,false,false,false,false] (by kernel_rfl) ?_
        refine WD.a (i:=8) (d:=25) (by kernel_rfl) rfl (z2 (by kernel_rfl)) (z3 (by kernel_rfl)) rfl rfl rfl (fun _=>q_m rfl) ?_
        refine WD.mid (fuel':=33) [(1,(.slice z2j za.length z2k)),(2,(.pointer (some ⟨z6Y,0,none⟩))),(10,(.slice z2j za.length z2k)),(11,(.int .i64 ((za.length : Nat) : Int))),(12,(.int .i64 zd)),(6,(.pointer (some ⟨zdu,0,none⟩))),(5,(.int .i64 zd)),(25,(.bool ((decide (((nth za zd).fTime) < 0)) || (decide (((nth za zd).fTime) > 536870912))))),(29,(.bool (((decide (((nth za zd).fTime) < 0)) || (decide (((nth za zd).fTime) > 536870912))) || (decide (((nth za zd).fVL) < 0)))))] (y1j 46 [12,11,10,9,8,7,6,5,4,3,2,1,0]) ?_ (fun zkW=>?_)
        rotate_left
        · rcases Bool.eq_false_or_eq_true ((decide (((nth za zd).fTime) < 0)) || (decide (((nth za zd).fTime) > 536870912))) with hb' | hb'
          · have zh4:=hb'; clear hb'
            refine WD.pin (i:=25) rfl zh4 ?_
            refine WD.b (i:=9) (d:=26) (by kernel_rfl) rfl (z2 (by kernel_rfl)) (z3 (by kernel_rfl)) rfl rfl rfl ?_
            refine WD.b (i:=10) (d:=27) (by kernel_rfl) rfl (z2 (by kernel_rfl)) (z3 (by kernel_rfl)) rfl rfl rfl ?_
            refine WD.b (i:=11) (d:=28) (by kernel_rfl) rfl (z2 (by kernel_rfl)) (z3 (by kernel_rfl)) rfl rfl rfl ?_
            refine WD.a (i:=12) (d:=29) (by kernel_rfl) rfl (z2 (by kernel_rfl)) (z3 (by kernel_rfl)) rfl rfl rfl (fun _=>y1y rfl rfl) ?_
            refine WD.yK (.cons .here (.cons .here .nil)) ?_ zkW
            exact (.cons rfl (.cons rfl (.cons rfl (.cons rfl (.cons rfl (.cons rfl (.cons rfl (.cons (zr (Eq.symm zh4)) (.cons (zr (y2k zh4)) .nil)))))))))
          · have zh5:=hb'; clear hb'
            refine WD.pin (i:=25) rfl zh5 ?_
            refine WD.a (i:=9) (d:=26) (by kernel_rfl) rfl (z2 (by kernel_rfl)) (z3 (by kernel_rfl)) rfl rfl rfl (fun _=>ya y4J rfl rfl) ?_
            refine WD.e (i:=10) (d:=27) (by kernel_rfl) rfl (z2 (by kernel_rfl)) (z3 (by kernel_rfl)) rfl rfl rfl (yb yg rfl (yc .here rfl)) ?_
            refine WD.a (i:=11) (d:=28) (by kernel_rfl) rfl (z2 (by kernel_rfl)) (z3 (by kernel_rfl)) rfl rfl rfl (fun _=>y3r rfl rfl) ?_
            refine WD.a (i:=12) (d:=29) (by kernel_rfl) rfl (z2 (by kernel_rfl)) (z3 (by kernel_rfl)) rfl rfl rfl (fun _=>y1z rfl rfl) ?_
            refine WD.yK (.cons .here (.cons .here .nil)) ?_ zkW
            exact (.cons rfl (.cons rfl (.cons rfl (.cons rfl (.cons rfl (.cons rfl (.cons rfl (.cons (zr (Eq.symm zh5)) (.cons (zr (y2l zh5)) .nil)))))))))
        refine WD.d #[true,true,true,true,true,true,true,true,true,true,true,true,true,false,false,false,false,false,false,false,false,false,false,false,false,false,false,false,false,false,false,false,false,false,false,false,false,false,false,false,false,false,false,false,false,false] (by kernel_rfl) ?_
        refine WD.a (i:=13) (d:=30) (by kernel_rfl) rfl (z2 (by kernel_rfl)) (z3 (by kernel_rfl)) rfl rfl rfl (fun _=>q_m rfl) ?_
        refine WD.mid (fuel':=25) [(1,(.slice z2j za.length z2k)),(2,(.pointer (some ⟨z6Y,0,none⟩))),(10,(.slice z2j za.length z2k)),(11,(.int .i64 ((za.length : Nat) : Int))),(12,(.int .i64 zd)),(6,(.pointer (some ⟨zdu,0,none⟩))),(5,(.int .i64 zd)),(30,(.bool (((decide (((nth za zd).fTime) < 0)) || (decide (((nth za zd).fTime) > 536870912))) || (decide (((nth za zd).fVL) < 0))))),(37,(.bool ((((decide (((nth za zd).fTime) < 0)) || (decide (((nth za zd).fTime) > 536870912))) || (decide (((nth za zd).fVL) < 0))) || (decide (((nth za zd).fVL) ≥ ((zB.fVLs.length : Nat) : Int))))))] (y1j 46 [20,19,18,17,16,15,14,13,12,11,10,9,8,7,6,5,4,3,2,1,0]) ?_ (fun zkX=>?_)
        rotate_left
        · rcases Bool.eq_false_or_eq_true (((decide (((nth za zd).fTime) < 0)) || (decide (((nth za zd).fTime) > 536870912))) || (decide (((nth za zd).fVL) < 0))) with hb' | hb'
          · have zh6:=hb'; clear hb'
            refine WD.pin (i:=30) rfl zh6 ?_
            refine WD.b (i:=14) (d:=31) (by kernel_rfl) rfl (z2 (by kernel_rfl)) (z3 (by kernel_rfl)) rfl rfl rfl ?_
            refine WD.b (i:=15) (d:=32) (by kernel_rfl) rfl (z2 (by kernel_rfl)) (z3 (by kernel_rfl)) rfl rfl rfl ?_
            refine WD.b (i:=16) (d:=33) (by kernel_rfl) rfl (z2 (by kernel_rfl)) (z3 (by kernel_rfl)) rfl rfl rfl ?_
            refine WD.b (i:=17) (d:=34) (by kernel_rfl) rfl (z2 (by kernel_rfl)) (z3 (by kernel_rfl)) rfl rfl rfl ?_
            refine WD.b (i:=18) (d:=35) (by kernel_rfl) rfl (z2 (by kernel_rfl)) (z3 (by kernel_rfl)) rfl rfl rfl ?_
            refine WD.b (i:=19) (d:=36) (by kernel_rfl) rfl (z2 (by kernel_rfl)) (z3 (by kernel_rfl)) rfl rfl rfl ?_
            refine WD.a (i:=20) (d:=37) (by kernel_rfl) rfl (z2 (by kernel_rfl)) (z3 (by kernel_rfl)) rfl rfl rfl (fun _=>y1y rfl rfl) ?_
            refine WD.yK (.cons .here (.cons .here .nil)) ?_ zkX
            exact (.cons rfl (.cons rfl (.cons rfl (.cons rfl (.cons rfl (.cons rfl (.cons rfl (.cons (zr (Eq.symm zh6)) (.cons (zr (y2k zh6)) .nil)))))))))
          · have zh7:=hb'; clear hb'
            refine WD.pin (i:=30) rfl zh7 ?_
            refine WD.a (i:=14) (d:=31) (by kernel_rfl) rfl (z2 (by kernel_rfl)) (z3 (by kernel_rfl)) rfl rfl rfl (fun _=>ya y4J rfl rfl) ?_
            refine WD.e (i:=15) (d:=32) (by kernel_rfl) rfl (z2 (by kernel_rfl)) (z3 (by kernel_rfl)) rfl rfl rfl (yb yg rfl (yc .here rfl)) ?_
            refine WD.a (i:=16) (d:=33) (by kernel_rfl) rfl (z2 (by kernel_rfl)) (z3 (by kernel_rfl)) rfl rfl rfl (fun _=>ya y6R rfl rfl) ?_
            refine WD.e (i:=17) (d:=34) (by kernel_rfl) rfl (z2 (by kernel_rfl)) (z3 (by kernel_rfl)) rfl rfl rfl (yb y6S rfl (yc .h1 rfl)) ?_
            refine WD.a (i:=18) (d:=35) (by kernel_rfl) rfl (z2 (by kernel_rfl)) (z3 (by kernel_rfl)) rfl rfl rfl (fun _=>yU Try.underlying26 rfl) ?_
            refine WD.a (i:=19) (d:=36) (by kernel_rfl) rfl (z2 (by kernel_rfl)) (z3 (by kernel_rfl)) rfl rfl rfl (fun _=>q_geq rfl rfl) ?_
            refine WD.a (i:=20) (d:=37) (by kernel_rfl) rfl (z2 (by kernel_rfl)) (z3 (by kernel_rfl)) rfl rfl rfl (fun _=>y1z rfl rfl) ?_
            refine WD.yK (.cons .here (.cons .here .nil)) ?_ zkX
            exact (.cons rfl (.cons rfl (.cons rfl (.cons rfl (.cons rfl (.cons rfl (.cons rfl (.cons (zr (Eq.symm zh7)) (.cons (zr (y2l zh7)) .nil)))))))))
        refine WD.d #[true,true,true,true,true,true,true,true,true,true,true,true,true,true,true,true,true,true,true,true,true,false,false,false,false,false,false,false,false,false,false,false,false,false,false,false,false,false,false,false,false,false,false,false,false,false] (by kernel_rfl) ?_
        refine WD.a (i:=21) (d:=38) (by kernel_rfl) rfl (z2 (by kernel_rfl)) (z3 (by kernel_rfl)) rfl rfl rfl (fun _=>q_m rfl) ?_
        refine WD.mid (fuel':=20) [(1,(.slice z2j za.length z2k)),(2,(.pointer (some ⟨z6Y,0,none⟩))),(10,(.slice z2j za.length z2k)),(11,(.int .i64 ((za.length : Nat) : Int))),(12,(.int .i64 zd)),(6,(.pointer (some ⟨zdu,0,none⟩))),(5,(.int .i64 zd)),(38,(.bool ((((decide (((nth za zd).fTime) < 0)) || (decide (((nth za zd).fTime) > 536870912))) || (decide (((nth za zd).fVL) < 0))) || (decide (((nth za zd).fVL) ≥ ((zB.fVLs.length : Nat) : Int)))))),(42,(.bool (((((decide (((nth za zd).fTime) < 0)) || (decide (((nth za zd).fTime) > 536870912))) || (decide (((nth za zd).fVL) < 0))) || (decide (((nth za zd).fVL) ≥ ((zB.fVLs.length : Nat) : Int)))) || (decide (((nth za zd).fSize) < 1)))))] (y1j 46 [25,24,23,22,21,20,19,18,17,16,15,14,13,12,11,10,9,8,7,6,5,4,3,2,1,0]) ?_ (fun zkY=>?_)
        rotate_left
        · rcases Bool.eq_false_or_eq_true ((((decide (((nth za zd).fTime) < 0)) || (decide (((nth za zd).fTime) > 536870912))) || (decide (((nth za zd).fVL) < 0))) || (decide (((nth za zd).fVL) ≥ ((zB.fVLs.length : Nat) : Int)))) with hb' | hb'
          · have zh8:=hb'; clear hb'
            refine WD.pin (i:=38) rfl zh8 ?_
            refine WD.b (i:=22) (d:=39) (by kernel_rfl) rfl (z2 (by kernel_rfl)) (z3 (by kernel_rfl)) rfl rfl rfl ?_
            refine WD.b (i:=23) (d:=40) (by kernel_rfl) rfl (z2 (by kernel_rfl)) (z3 (by kernel_rfl)) rfl rfl rfl ?_
            refine WD.b (i:=24) (d:=41) (by kernel_rfl) rfl (z2 (by kernel_rfl)) (z3 (by kernel_rfl)) rfl rfl rfl ?_
            refine WD.a (i:=25) (d:=42) (by kernel_rfl) rfl (z2 (by kernel_rfl)) (z3 (by kernel_rfl)) rfl rfl rfl (fun _=>y1y rfl rfl) ?_
            refine WD.yK (.cons .here (.cons .here .nil)) ?_ zkY
            exact (.cons rfl (.cons rfl (.cons rfl (.cons rfl (.cons rfl (.cons rfl (.cons rfl (.cons (zr (Eq.symm zh8)) (.cons (zr (y2k zh8)) .nil)))))))))
          · have zh9:=hb'; clear hb'
            refine WD.pin (i:=38) rfl zh9 ?_
            refine WD.a (i:=22) (d:=39) (by kernel_rfl) rfl (z2 (by kernel_rfl)) (z3 (by kernel_rfl)) rfl rfl rfl (fun _=>ya y5Q rfl rfl) ?_
            refine WD.e (i:=23) (d:=40) (by kernel_rfl) rfl (z2 (by kernel_rfl)) (z3 (by kernel_rfl)) rfl rfl rfl (yb yg rfl (yc .here rfl)) ?_
            refine WD.a (i:=24) (d:=41) (by kernel_rfl) rfl (z2 (by kernel_rfl)) (z3 (by kernel_rfl)) rfl rfl rfl (fun _=>y3r rfl rfl) ?_
            refine WD.a (i:=25) (d:=42) (by kernel_rfl) rfl (z2 (by kernel_rfl)) (z3 (by kernel_rfl)) rfl rfl rfl (fun _=>y1z rfl rfl) ?_
            refine WD.yK (.cons .here (.cons .here .nil)) ?_ zkY
            exact (.cons rfl (.cons rfl (.cons rfl (.cons rfl (.cons rfl (.cons rfl (.cons rfl (.cons (zr (Eq.symm zh9)) (.cons (zr (y2l zh9)) .nil)))))))))
        refine WD.d #[true,true,true,true,true,true,true,true,true,true,true,true,true,true,true,true,true,true,true,true,true,true,true,true,true,true,false,false,false,false,false,false,false,false,false,false,false,false,false,false,false,false,false,false,false,false] (by kernel_rfl) ?_
        refine WD.a (i:=26) (d:=43) (by kernel_rfl) rfl (z2 (by kernel_rfl)) (z3 (by kernel_rfl)) rfl rfl rfl (fun _=>q_m rfl) ?_
        refine WD.mid (fuel':=15) [(1,(.slice z2j za.length z2k)),(2,(.pointer (some ⟨z6Y,0,none⟩))),(10,(.slice z2j za.length z2k)),(11,(.int .i64 ((za.length : Nat) : Int))),(12,(.int .i64 zd)),(6,(.pointer (some ⟨zdu,0,none⟩))),(5,(.int .i64 zd)),(43,(.bool (((((decide (((nth za zd).fTime) < 0)) || (decide (((nth za zd).fTime) > 536870912))) || (decide (((nth za zd).fVL) < 0))) || (decide (((nth za zd).fVL) ≥ ((zB.fVLs.length : Nat) : Int)))) || (decide (((nth za zd).fSize) < 1))))),(47,(.bool ((((((decide (((nth za zd).fTime) < 0)) || (decide (((nth za zd).fTime) > 536870912))) || (decide (((nth za zd).fVL) < 0))) || (decide (((nth za zd).fVL) ≥ ((zB.fVLs.length : Nat) : Int)))) || (decide (((nth za zd).fSize) < 1))) || (decide (((nth za zd).fSize) > 72)))))] (y1j 46 [30,29,28,27,26,25,24,23,22,21,20,19,18,17,16,15,14,13,12,11,10,9,8,7,6,5,4,3,2,1,0]) ?_ (fun zkZ=>?_)
        rotate_left
        · rcases Bool.eq_false_or_eq_true (((((decide (((nth za zd).fTime) < 0)) || (decide (((nth za zd).fTime) > 536870912))) || (decide (((nth za zd).fVL) < 0))) || (decide (((nth za zd).fVL) ≥ ((zB.fVLs.length : Nat) : Int)))) || (decide (((nth za zd).fSize) < 1))) with hb' | hb'
          · have zha:=hb'; clear hb'
            refine WD.pin (i:=43) rfl zha ?_
            refine WD.b (i:=27) (d:=44) (by kernel_rfl) rfl (z2 (by kernel_rfl)) (z3 (by kernel_rfl)) rfl rfl rfl ?_
            refine WD.b (i:=28) (d:=45) (by kernel_rfl) rfl (z2 (by kernel_rfl)) (z3 (by kernel_rfl)) rfl rfl rfl ?_
            refine WD.b (i:=29) (d:=46) (by kernel_rfl) rfl (z2 (by kernel_rfl)) (z3 (by kernel_rfl)) rfl rfl rfl ?_
            refine WD.a (i:=30) (d:=47) (by kernel_rfl) rfl (z2 (by kernel_rfl)) (z3 (by kernel_rfl)) rfl rfl rfl (fun _=>y1y rfl rfl) ?_
            refine WD.yK (.cons .here (.cons .here .nil)) ?_ zkZ
            exact (.cons rfl (.cons rfl (.cons rfl (.cons rfl (.cons rfl (.cons rfl (.cons rfl (.cons (zr (Eq.symm zha)) (.cons (zr (y2k zha)) .nil)))))))))
          · have zhb:=hb'; clear hb'
            refine WD.pin (i:=43) rfl zhb ?_
            refine WD.a (i:=27) (d:=44) (by kernel_rfl) rfl (z2 (by kernel_rfl)) (z3 (by kernel_rfl)) rfl rfl rfl (fun _=>ya y5Q rfl rfl) ?_
            refine WD.e (i:=28) (d:=45) (by kernel_rfl) rfl (z2 (by kernel_rfl)) (z3 (by kernel_rfl)) rfl rfl rfl (yb yg rfl (yc .here rfl)) ?_
            refine WD.a (i:=29) (d:=46) (by kernel_rfl) rfl (z2 (by kernel_rfl)) (z3 (by kernel_rfl)) rfl rfl rfl (fun _=>y3K rfl rfl) ?_
            refine WD.a (i:=30) (d:=47) (by kernel_rfl) rfl (z2 (by kernel_rfl)) (z3 (by kernel_rfl)) rfl rfl rfl (fun _=>y1z rfl rfl) ?_
            refine WD.yK (.cons .here (.cons .here .nil)) ?_ zkZ
            exact (.cons rfl (.cons rfl (.cons rfl (.cons rfl (.cons rfl (.cons rfl (.cons rfl (.cons (zr (Eq.symm zhb)) (.cons (zr (y2l zhb)) .nil)))))))))
        refine WD.d #[true,true,true,true,true,true,true,true,true,true,true,true,true,true,true,true,true,true,true,true,true,true,true,true,true,true,true,true,true,true,true,false,false,false,false,false,false,false,false,false,false,false,false,false,false,false] (by kernel_rfl) ?_
        refine WD.a (i:=31) (d:=48) (by kernel_rfl) rfl (z2 (by kernel_rfl)) (z3 (by kernel_rfl)) rfl rfl rfl (fun _=>q_m rfl) ?_
        refine WD.mid (fuel':=0) [(1,(.slice z2j za.length z2k)),(2,(.pointer (some ⟨z6Y,0,none⟩))),(10,(.slice z2j za.length z2k)),(11,(.int .i64 ((za.length : Nat) : Int))),(12,(.int .i64 zd)),(48,(.bool ((((((decide (((nth za zd).fTime) < 0)) || (decide (((nth za zd).fTime) > 536870912))) || (decide (((nth za zd).fVL) < 0))) || (decide (((nth za zd).fVL) ≥ ((zB.fVLs.length : Nat) : Int)))) || (decide (((nth za zd).fSize) < 1))) || (decide (((nth za zd).fSize) > 72))))),(62,(.bool (((((((decide (((nth za zd).fTime) < 0)) || (decide (((nth za zd).fTime) > 536870912))) || (decide (((nth za zd).fVL) < 0))) || (decide (((nth za zd).fVL) ≥ ((zB.fVLs.length : Nat) : Int)))) || (decide (((nth za zd).fSize) < 1))) || (decide (((nth za zd).fSize) > 72))) || ((decide (zd > 0)) && (decide (((nth za (i64 (zd - 1))).fTime) > ((nth za zd).fTime)))))))] (y1j 46 [45,44,43,42,41,40,39,38,37,36,35,34,33,32,31,30,29,28,27,26,25,24,23,22,21,20,19,18,17,16,15,14,13,12,11,10,9,8,7,6,5,4,3,2,1,0]) ?_ (fun zl0=>?_)
        rotate_left
        · rcases Bool.eq_false_or_eq_true ((((((decide (((nth za zd).fTime) < 0)) || (decide (((nth za zd).fTime) > 536870912))) || (decide (((nth za zd).fVL) < 0))) || (decide (((nth za zd).fVL) ≥ ((zB.fVLs.length : Nat) : Int)))) || (decide (((nth za zd).fSize) < 1))) || (decide (((nth za zd).fSize) > 72))) with hb' | hb'
          · have zhc:=hb'; clear hb'
            refine WD.pin (i:=48) rfl zhc ?_
            refine WD.b (i:=32) (d:=49) (by kernel_rfl) rfl (z2 (by kernel_rfl)) (z3 (by kernel_rfl)) rfl rfl rfl ?_
            refine WD.b (i:=33) (d:=50) (by kernel_rfl) rfl (z2 (by kernel_rfl)) (z3 (by kernel_rfl)) rfl rfl rfl ?_
            refine WD.b (i:=34) (d:=51) (by kernel_rfl) rfl (z2 (by kernel_rfl)) (z3 (by kernel_rfl)) rfl rfl rfl ?_
            refine WD.b (i:=35) (d:=52) (by kernel_rfl) rfl (z2 (by kernel_rfl)) (z3 (by kernel_rfl)) rfl rfl rfl ?_
            refine WD.b (i:=36) (d:=53) (by kernel_rfl) rfl (z2 (by kernel_rfl)) (z3 (by kernel_rfl)) rfl rfl rfl ?_
            refine WD.b (i:=37) (d:=54) (by kernel_rfl) rfl (z2 (by kernel_rfl)) (z3 (by kernel_rfl)) rfl rfl rfl ?_
            refine WD.b (i:=38) (d:=55) (by kernel_rfl) rfl (z2 (by kernel_rfl)) (z3 (by kernel_rfl)) rfl rfl rfl ?_
            refine WD.b (i:=39) (d:=56) (by kernel_rfl) rfl (z2 (by kernel_rfl)) (z3 (by kernel_rfl)) rfl rfl rfl ?_
            refine WD.b (i:=40) (d:=57) (by kernel_rfl) rfl (z2 (by kernel_rfl)) (z3 (by kernel_rfl)) rfl rfl rfl ?_
            refine WD.b (i:=41) (d:=58) (by kernel_rfl) rfl (z2 (by kernel_rfl)) (z3 (by kernel_rfl)) rfl rfl rfl ?_
            refine WD.b (i:=42) (d:=59) (by kernel_rfl) rfl (z2 (by kernel_rfl)) (z3 (by kernel_rfl)) rfl rfl rfl ?_
            refine WD.b (i:=43) (d:=60) (by kernel_rfl) rfl (z2 (by kernel_rfl)) (z3 (by kernel_rfl)) rfl rfl rfl ?_
            refine WD.b (i:=44) (d:=61) (by kernel_rfl) rfl (z2 (by kernel_rfl)) (z3 (by kernel_rfl)) rfl rfl rfl ?_
            refine WD.a (i:=45) (d:=62) (by kernel_rfl) rfl (z2 (by kernel_rfl)) (z3 (by kernel_rfl)) rfl rfl rfl (fun _=>y1y rfl rfl) ?_
            refine WD.yK (.cons .here (.cons .here .nil)) ?_ zl0
            exact (.cons rfl (.cons rfl (.cons rfl (.cons rfl (.cons rfl (.cons (zr (Eq.symm zhc)) (.cons (zr (y2k zhc)) .nil)))))))
          · have zeS:=hb'; clear hb'
            have zqi:=zqh zeS
            refine WD.pin (i:=48) rfl zeS ?_
            refine WD.a (i:=32) (d:=49) (by kernel_rfl) rfl (z2 (by kernel_rfl)) (z3 (by kernel_rfl)) rfl rfl rfl (fun _=>q_m rfl) ?_
            refine WD.a (i:=33) (d:=50) (by kernel_rfl) rfl (z2 (by kernel_rfl)) (z3 (by kernel_rfl)) rfl rfl rfl (fun _=>y3K rfl rfl) ?_
            refine WD.a (i:=34) (d:=51) (by kernel_rfl) rfl (z2 (by kernel_rfl)) (z3 (by kernel_rfl)) rfl rfl rfl (fun _=>q_m rfl) ?_
            refine WD.mid (fuel':=1) [(1,(.slice z2j za.length z2k)),(2,(.pointer (some ⟨z6Y,0,none⟩))),(10,(.slice z2j za.length z2k)),(11,(.int .i64 ((za.length : Nat) : Int))),(12,(.int .i64 zd)),(48,(.bool false)),(51,(.bool (decide (zd > 0)))),(61,(.bool ((decide (zd > 0)) && (decide (((nth za (i64 (zd - 1))).fTime) > ((nth za zd).fTime))))))] (y1j 46 [44,43,42,41,40,39,38,37,36,35,34,33,32,31,30,29,28,27,26,25,24,23,22,21,20,19,18,17,16,15,14,13,12,11,10,9,8,7,6,5,4,3,2,1,0]) ?_ (fun zl1=>?_)
            rotate_left
            · rcases Bool.eq_false_or_eq_true (decide (zd > 0)) with hb' | hb'
              · have zeT:=hb'; clear hb'
                have zqj:=zqi zeT
                refine WD.pin (i:=51) rfl zeT ?_
                refine WD.a (i:=35) (d:=52) (by kernel_rfl) rfl (z2 (by kernel_rfl)) (z3 (by kernel_rfl)) rfl rfl rfl (fun _=>q_m rfl) ?_
                refine WD.a (i:=36) (d:=53) (by kernel_rfl) rfl (z2 (by kernel_rfl)) (z3 (by kernel_rfl)) rfl rfl rfl (fun _=>q_m rfl) ?_
                refine WD.a (i:=37) (d:=54) (by kernel_rfl) rfl (z2 (by kernel_rfl)) (z3 (by kernel_rfl)) rfl rfl rfl (fun _=>y4Q rfl rfl rfl) ?_
                refine WD.znth (j:=38) (dd:=55) (by kernel_rfl) rfl (z2 (by kernel_rfl)) (z3 (by kernel_rfl)) rfl rfl (Z:=Z) (Pr:=(fun r x=>r = e53 x)) y4y rfl rfl zkU zqj ?_
                rintro zwd zwe zqk zwf rfl
                refine WD.a (i:=39) (d:=56) (by kernel_rfl) rfl (z2 (by kernel_rfl)) (z3 (by kernel_rfl)) rfl rfl rfl (fun _=>ya y4f rfl rfl) ?_
                refine WD.e (i:=40) (d:=57) (by kernel_rfl) rfl (z2 (by kernel_rfl)) (z3 (by kernel_rfl)) rfl rfl rfl (yb yg rfl (y2b hz.pv zqk rfl)) ?_
                refine WD.a (i:=41) (d:=58) (by kernel_rfl) rfl (z2 (by kernel_rfl)) (z3 (by kernel_rfl)) rfl rfl rfl (fun _=>ya y4f rfl rfl) ?_
                refine WD.e (i:=42) (d:=59) (by kernel_rfl) rfl (z2 (by kernel_rfl)) (z3 (by kernel_rfl)) rfl rfl rfl (yb yg rfl (yc .here rfl)) ?_
                refine WD.a (i:=43) (d:=60) (by kernel_rfl) rfl (z2 (by kernel_rfl)) (z3 (by kernel_rfl)) rfl rfl rfl (fun _=>y3K rfl rfl) ?_
                refine WD.a (i:=44) (d:=61) (by kernel_rfl) rfl (z2 (by kernel_rfl)) (z3 (by kernel_rfl)) rfl rfl rfl (fun _=>y1y rfl rfl) ?_
                refine WD.yK (.cons .here (.cons .here .nil)) ?_ zl1
                exact (.cons rfl (.cons rfl (.cons rfl (.cons rfl (.cons rfl (.cons rfl (.cons (zr (Eq.symm zeT)) (.cons (zr (y2u zeT)) .nil))))))))
              · have zhd:=hb'; clear hb'
                refine WD.pin (i:=51) rfl zhd ?_
                refine WD.b (i:=35) (d:=52) (by kernel_rfl) rfl (z2 (by kernel_rfl)) (z3 (by kernel_rfl)) rfl rfl rfl ?_
                refine WD.b (i:=36) (d:=53) (by kernel_rfl) rfl (z2 (by kernel_rfl)) (z3 (by kernel_rfl)) rfl rfl rfl ?_
                refine WD.b (i:=37) (d:=54) (by kernel_rfl) rfl (z2 (by kernel_rfl)) (z3 (by kernel_rfl)) rfl rfl rfl ?_
                refine WD.b (i:=38) (d:=55) (by kernel_rfl) rfl (z2 (by kernel_rfl)) (z3 (by kernel_rfl)) rfl rfl rfl ?_
                refine WD.b (i:=39) (d:=56) (by kernel_rfl) rfl (z2 (by kernel_rfl)) (z3 (by kernel_rfl)) rfl rfl rfl ?_
                refine WD.b (i:=40) (d:=57) (by kernel_rfl) rfl (z2 (by kernel_rfl)) (z3 (by kernel_rfl)) rfl rfl rfl ?_
                refine WD.b (i:=41) (d:=58) (by kernel_rfl) rfl (z2 (by kernel_rfl)) (z3 (by kernel_rfl)) rfl rfl rfl ?_
                refine WD.b (i:=42) (d:=59) (by kernel_rfl) rfl (z2 (by kernel_rfl)) (z3 (by kernel_rfl)) rfl rfl rfl ?_
                refine WD.b (i:=43) (d:=60) (by kernel_rfl) rfl (z2 (by kernel_rfl)) (z3 (by kernel_rfl)) rfl rfl rfl ?_
                refine WD.a (i:=44) (d:=61) (by kernel_rfl) rfl (z2 (by kernel_rfl)) (z3 (by kernel_rfl)) rfl rfl rfl (fun _=>y1z rfl rfl) ?_
                refine WD.yK (.cons .here (.cons .here .nil)) ?_ zl1
                exact (.cons rfl (.cons rfl (.cons rfl (.cons rfl (.cons rfl (.cons rfl (.cons (zr (Eq.symm zhd)) (.cons (zr (y2t zhd)) .nil))))))))
            refine WD.d #[true,true,true,true,true,true,true,true,true,true,true,true,true,true,true,true,true,true,true,true,true,true,true,true,true,true,true,true,true,true,true,true,true,true,true,true,true,true,true,true,true,true,true,true,true,false] (by kernel_rfl) ?_
            refine WD.a (i:=45) (d:=62) (by kernel_rfl) rfl (z2 (by kernel_rfl)) (z3 (by kernel_rfl)) rfl rfl rfl (fun _=>y1z rfl rfl) ?_
            refine WD.yK (.cons .here (.cons .here .nil)) ?_ zl0
            exact (.cons rfl (.cons rfl (.cons rfl (.cons rfl (.cons rfl (.cons (zr (Eq.symm zeS)) (.cons (zr (y2l zeS)) .nil)))))))
        refine WD.d #[true,true,true,true,true,true,true,true,true,true,true,true,true,true,true,true,true,true,true,true,true,true,true,true,true,true,true,true,true,true,true,true,true,true,true,true,true,true,true,true,true,true,true,true,true,true] (by kernel_rfl) ?_
        refine WD.done (by kernel_rfl) ?_
        refine WX.a ?_
        refine WC.cond rfl (fun zhe=>?_) (fun zhe=>?_)
        · replace h:=yl h zhe
          refine WC.b (WC.a (WL.pu rfl (WL.nil (WX.a (WC.ret (WX.yL (WX.yj (WX.yj (WX.yL (WX.yj ?_))))))))))
          obtain rfl:=Option.some.inj h
          refine WX.yh Try.results22 (.tmp rfl .nil) (fun w hw=>?_)
          exact ⟨y12 rfl,hw.sub .nil⟩
        · replace h:=ym h zhe
          refine WC.skip (WX.yf (WX.a (WC.a (WL.pu rfl (WL.pu rfl (WL.nil ?_))))))
          exact WX.round (G:=Nat × Int) ⟨zgZ,(i64 (zd + 1))⟩ h (Nat.lt_succ_self _) (.cons rfl (.cons rfl (.cons rfl (.cons rfl (.cons rfl .nil))))) (.cons .h1 .nil)
      · replace h:=ym h zh1
        refine WC.exit (WX.ye (WX.ye (WX.yA ?_)))
        exact WX.mid (G:=Unit) () h .nil .nil
    · rintro  h
      replace h:=zqe.symm.trans h
      refine WC.b (WC.a (WL.pu rfl (WL.nil (WX.a (WC.ret ?_)))))
      obtain rfl:=Option.some.inj h
      refine WX.yh Try.results22 (.tmp rfl .nil) (fun w hw=>?_)
      exact ⟨y12 rfl,hw.sub .nil⟩
def y48 (c_39 : Sapi_Config) (net_64 : Int) (routes_65 : List (List Sapi_Hop)) (sent_69 : List zSt) : Option Bool :=
  (y4k c_39 routes_65 sent_69).bind fun zl2=>(if zl2 then (y2Q c_39 net_64 routes_65).bind fun zl3=>some zl3 else some false).bind fun zhf=>(if zhf then (y3w c_39 sent_69).bind fun zl4=>some zl4 else some false).bind fun zhg=>some zhg
set_option maxRecDepth 20000 in
theorem y8O (Z : Zp) (ao_40 : Option Addr) (cap_41 : Nat) (ao_43 : Option Addr) (cap_44 : Nat) (ao_46 : Option Addr) (cap_47 : Nat) (ao_49 : Option Addr) (cap_50 : Nat) (ao_52 : Option Addr) (cap_53 : Nat) (ao_55 : Option Addr) (cap_56 : Nat) (ao_58 : Option Addr) (cap_59 : Nat) (ao_61 : Option Addr) (cap_62 : Nat) (ao_66 : Option Addr) (cap_67 : Nat) (ao_70 : Option Addr) (cap_71 : Nat) (c_39 : Sapi_Config) (net_64 : Int) (routes_65 : List (List Sapi_Hop)) (sent_69 : List zSt) (r : Bool)
     (h : y48 c_39 net_64 routes_65 sent_69 = some r) (w₀ : World) (hz : PZ [] w₀ Z)
     (hs_42 : ZS Z 4 (y2x Z) ao_40 cap_41 c_39.fModules)
     (hs_45 : ZS Z 4 (y2W Z) ao_43 cap_44 c_39.fChannels)
     (hs_48 : ZS Z 4 (fun r x=>r = e64 x) ao_46 cap_47 c_39.fSwitches)
     (hs_51 : ZS Z 4 (fun r x=>r = e62 x) ao_49 cap_50 c_39.fLinks)
     (hs_54 : ZS Z 7 (y2J Z) ao_52 cap_53 c_39.fVLs)
     (hs_57 : ZS Z 5 (fun r x=>r = y2Z x) ao_55 cap_56 c_39.fHealth)
     (hs_60 : ZS Z 3 (y2X Z) ao_58 cap_59 c_39.fCauses)
     (hs_63 : ZS Z 4 (fun r x=>r = y30 x) ao_61 cap_62 c_39.fVersions)
     (hs_68 : ZS Z 1 (p55 Z) ao_66 cap_67 routes_65)
     (hs_72 : ZS Z 3 (fun r x=>r = e53 x) ao_70 cap_71 sent_69) :
    Calls Try.prog 20 #[(.agg #[(.slice ao_40 c_39.fModules.length cap_41),(.slice ao_43 c_39.fChannels.length cap_44),(.slice ao_46 c_39.fSwitches.length cap_47),(.slice ao_49 c_39.fLinks.length cap_50),(.slice ao_52 c_39.fVLs.length cap_53),(.slice ao_55 c_39.fHealth.length cap_56),(.slice ao_58 c_39.fCauses.length cap_59),(.slice ao_61 c_39.fVersions.length cap_62)]),(.int .i64 net_64),(.slice ao_66 routes_65.length cap_67),(.slice ao_70 sent_69.length cap_71)] w₀ fun e w'=>e = .returned (.bool r) ∧ Hp [] w₀ w' []:=by
  unfold y48 at h
  refine Calls.yk (vs:=[(.agg #[(.slice ao_40 c_39.fModules.length cap_41),(.slice ao_43 c_39.fChannels.length cap_44),(.slice ao_46 c_39.fSwitches.length cap_47),(.slice ao_49 c_39.fLinks.length cap_50),(.slice ao_52 c_39.fVLs.length cap_53),(.slice ao_55 c_39.fHealth.length cap_56),(.slice ao_58 c_39.fCauses.length cap_59),(.slice ao_61 c_39.fVersions.length cap_62)]),(.int .i64 net_64),(.slice ao_66 routes_65.length cap_67),(.slice ao_70 sent_69.length cap_71)]) (pre:=[]) (env:=[(0,(.agg #[(.slice ao_40 c_39.fModules.length cap_41),(.slice ao_43 c_39.fChannels.length cap_44),(.slice ao_46 c_39.fSwitches.length cap_47),(.slice ao_49 c_39.fLinks.length cap_50),(.slice ao_52 c_39.fVLs.length cap_53),(.slice ao_55 c_39.fHealth.length cap_56),(.slice ao_58 c_39.fCauses.length cap_59),(.slice ao_61 c_39.fVersions.length cap_62)])),(1,(.int .i64 net_64)),(2,(.slice ao_66 routes_65.length cap_67)),(3,(.slice ao_70 sent_69.length cap_71))]) Try.func20 rfl Try.ntmps20 rfl (Hp.nil w₀ _) rfl ?_
  refine WC.b (WC.a ?_)
  refine WL.new (dd:=4) rfl rfl rfl (y2g (cs:=[(.slice ao_40 c_39.fModules.length cap_41),(.slice ao_43 c_39.fChannels.length cap_44),(.slice ao_46 c_39.fSwitches.length cap_47),(.slice ao_49 c_39.fLinks.length cap_50),(.slice ao_52 c_39.fVLs.length cap_53),(.slice ao_55 c_39.fHealth.length cap_56),(.slice ao_58 c_39.fCauses.length cap_59),(.slice ao_61 c_39.fVersions.length cap_62)]) rfl rfl) ?_
  intro zwg _
  refine WL.pu rfl (WL.nil (WX.a (WC.b ?_)))
  obtain ⟨zl2,zql,h⟩:=zh h
  obtain ⟨zhf,zl5,h⟩:=zh h
  obtain ⟨zhg,zl6,h⟩:=zh h
  refine WC.a ?_
  refine WL.a (d:=9) rfl rfl rfl (yD y1t rfl (y1h .here) rfl) ?_
  refine WL.pu rfl (WL.pu rfl ?_)
  refine WL.b (dd:=12) rfl rfl rfl (zz (l:=[.tmp 9,.tmp 10,.tmp 11]) Try.call10 (.cons rfl (.cons rfl (.cons rfl .nil)))) .nil (cc hz .nil fun w pz ho=>y96 _ _ _ _ _ _ _ _ _ _ _ _ _ _ _ _ _ _ _ _ _ _ _ _ _ zql w pz hs_42 hs_45 hs_48 hs_51 hs_54 hs_57 hs_60 hs_63 hs_68 hs_72) ?_
  refine WL.pu rfl ?_
  refine WL.seg true 4 13 (B:=zhf) rfl rfl rfl rfl rfl rfl (fun h=>(Option.some.inj (ym zl5 h)).symm) (fun _ zqm=>?_) ?_
  · skip
    have zdv:=yl zl5 zqm
    obtain ⟨zl3,zqn,zdv⟩:=zh zdv
    replace zdv:=Option.some.inj zdv
    refine WL.a (d:=14) rfl rfl rfl (yD y1t rfl (y1h .here) rfl) ?_
    refine WL.pu rfl (WL.pu rfl ?_)
    refine WL.b (dd:=17) rfl rfl rfl (zz (l:=[.tmp 14,.tmp 15,.tmp 16]) Try.call15 (.cons rfl (.cons rfl (.cons rfl .nil)))) .nil (cc hz .nil fun w pz ho=>y5s _ _ _ _ _ _ _ _ _ _ _ _ _ _ _ _ _ _ _ _ _ _ _ zqn w pz hs_42 hs_45 hs_48 hs_51 hs_54 hs_57 hs_60 hs_63 hs_68) ?_
    refine WL.pu rfl ?_
    exact WL.ys zdv rfl rfl .all
  refine WL.pu rfl ?_
  refine WL.seg true 3 19 (B:=zhg) rfl rfl rfl rfl rfl rfl (fun h=>(Option.some.inj (ym zl6 h)).symm) (fun _ zqo=>?_) ?_
  · skip
    have zdw:=yl zl6 zqo
    obtain ⟨zl4,zqp,zdw⟩:=zh zdw
    replace zdw:=Option.some.inj zdw
    refine WL.a (d:=20) rfl rfl rfl (yD y1t rfl (y1h .here) rfl) ?_
    refine WL.pu rfl ?_
    refine WL.b (dd:=22) rfl rfl rfl (zz (l:=[.tmp 20,.tmp 21]) Try.call22 (.cons rfl (.cons rfl .nil))) .nil (cc hz .nil fun w pz ho=>y7V _ _ _ _ _ _ _ _ _ _ _ _ _ _ _ _ _ _ _ _ _ _ zqp w pz hs_42 hs_45 hs_48 hs_51 hs_54 hs_57 hs_60 hs_63 hs_72) ?_
    refine WL.pu rfl ?_
    exact WL.ys zdw rfl rfl .all
  refine WL.pu rfl (WL.nil (WX.a (WC.ret ?_)))
  obtain rfl:=Option.some.inj h
  refine WX.yh Try.results20 (.tmp rfl .nil) (fun w hw=>?_)
  exact ⟨y12 rfl,hw.sub .nil⟩
def y4A (z6Z : Int) : Option (Sapi_Config × List (List Sapi_Hop)) :=
  some ((⟨([(⟨⟨#[109]⟩,0,0,[]⟩ : Sapi_Module),(⟨⟨#[110]⟩,0,0,[]⟩ : Sapi_Module)] : List Sapi_Module),[],([(⟨⟨#[115]⟩,0,16,z6Z⟩ : Sapi_Switch)] : List Sapi_Switch),([(⟨⟨#[109]⟩,⟨#[115]⟩,0,1⟩ : Sapi_Link),(⟨⟨#[110]⟩,⟨#[115]⟩,0,1⟩ : Sapi_Link)] : List Sapi_Link),([(⟨⟨#[]⟩,(⟨⟨#[]⟩,⟨#[]⟩,⟨#[]⟩⟩ : Sapi_Ref),0,0,[]⟩ : Sapi_VL)] : List Sapi_VL),[],[],[]⟩ : Sapi_Config),([([(⟨0,2,0⟩ : Sapi_Hop),(⟨2,1,1⟩ : Sapi_Hop)] : List Sapi_Hop)] : List (List Sapi_Hop)))
set_option maxRecDepth 20000 in
theorem y7z (Z : Zp)  (z6Z : Int) (r : Sapi_Config × List (List Sapi_Hop))
     (h : y4A z6Z = some r) (w₀ : World) (hz : PZ [] w₀ Z) :
    Calls Try.prog 23 #[(.int .i64 z6Z)] w₀ fun e w'=>∃ Zn : Zp,∃ zl7 : Option Addr,∃ zl8 : Nat,∃ zl9 : List Value,∃ zla : Option Addr,∃ zlb : Nat,∃ zlc : Option Addr,∃ zld : Nat,∃ zle : Option Addr,∃ zlf : Nat,∃ zlg : Option Addr,∃ zlh : Nat,∃ zli : List Value,∃ zlj : Option Addr,∃ zlk : Nat,∃ zll : Option Addr,∃ zlm : Nat,∃ zln : Option Addr,∃ zlo : Nat,∃ zlp : Option Addr,∃ zlq : Nat,∃ zlr : List Value,e = .returned (.tuple #[(.agg #[(.slice zl7 r.1.fModules.length zl8),(.slice zla r.1.fChannels.length zlb),(.slice zlc r.1.fSwitches.length zld),(.slice zle r.1.fLinks.length zlf),(.slice zlg r.1.fVLs.length zlh),(.slice zlj r.1.fHealth.length zlk),(.slice zll r.1.fCauses.length zlm),(.slice zln r.1.fVersions.length zlo)]),(.slice zlp r.2.length zlq)]) ∧ ((RR 4 (y2x (Z ++ Zn)) zl9 r.1.fModules) ∧ (ZS (Z ++ Zn) 4 (y2W (Z ++ Zn)) zla zlb r.1.fChannels) ∧ (RR 7 (y2J (Z ++ Zn)) zli r.1.fVLs) ∧ (ZS (Z ++ Zn) 5 (fun r x=>r = y2Z x) zlj zlk r.1.fHealth) ∧ (ZS (Z ++ Zn) 3 (y2X (Z ++ Zn)) zll zlm r.1.fCauses) ∧ (ZS (Z ++ Zn) 4 (fun r x=>r = y30 x) zln zlo r.1.fVersions) ∧ (RR 1 (p55 (Z ++ Zn)) zlr r.2)) ∧ Hp [] w₀ w' [fz Zn,row (.slice zl7 r.1.fModules.length zl8) 104 4 zl9,row (.slice zlc r.1.fSwitches.length zld) 64 4 (r.1.fSwitches.flatMap e64),row (.slice zle r.1.fLinks.length zlf) 62 4 (r.1.fLinks.flatMap e62),row (.slice zlg r.1.fVLs.length zlh) 109 7 zli,row (.slice zlp r.2.length zlq) 55 1 zlr]:=by
  unfold y4A at h
  refine Calls.yk (vs:=[(.int .i64 z6Z)]) (pre:=[]) (env:=[(0,(.int .i64 z6Z))]) Try.func23 rfl Try.ntmps23 rfl (Hp.nil w₀ _) rfl ?_
  refine WC.pool (WC.b (WC.a ?_))
  refine WL.new (dd:=2) rfl rfl rfl (y1U (cs:=[(.slice none 0 0),(.slice none 0 0),(.slice none 0 0),(.slice none 0 0),(.slice none 0 0),(.slice none 0 0),(.slice none 0 0),(.slice none 0 0)]) y4o rfl) ?_
  intro zwh _
  refine WL.pu rfl (WL.nil (WX.a (WC.b (WC.a ?_))))
  refine WL.a (d:=5) rfl rfl rfl (y1D (v:=(.agg #[(.string ⟨#[109]⟩),(.int .i64 0),(.int .i64 0),(.slice none 0 0)])) (Eos.parts (l:=[.const (.string ⟨#[109]⟩)]) (.cons rfl .nil) [0]) (fun _=>by kernel_rfl)) ?_
  refine WL.a (d:=6) rfl rfl rfl (y1D (v:=(.agg #[(.string ⟨#[110]⟩),(.int .i64 0),(.int .i64 0),(.slice none 0 0)])) (Eos.parts (l:=[.const (.string ⟨#[110]⟩)]) (.cons rfl .nil) [0]) (fun _=>by kernel_rfl)) ?_
  have zqq : RR 4 (y2x (Z ++ [])) [(.string ⟨#[109]⟩),(.int .i64 0),(.int .i64 0),(.slice none 0 0),(.string ⟨#[110]⟩),(.int .i64 0),(.int .i64 0),(.slice none 0 0)] ([(⟨⟨#[109]⟩,0,0,[]⟩ : Sapi_Module),(⟨⟨#[110]⟩,0,0,[]⟩ : Sapi_Module)] : List Sapi_Module):=(RR.cons (r:=[(.string ⟨#[109]⟩),(.int .i64 0),(.int .i64 0),(.slice none 0 0)]) rfl (show y2x _ _ _ from ⟨_,_,rfl,(ZS.nil _ _ _)⟩) (RR.cons (r:=[(.string ⟨#[110]⟩),(.int .i64 0),(.int .i64 0),(.slice none 0 0)]) rfl (show y2x _ _ _ from ⟨_,_,rfl,(ZS.nil _ _ _)⟩) (RR.nil _ _)))
  refine WL.new (dd:=7) rfl rfl rfl (yZ (cs:=[(.string ⟨#[109]⟩),(.int .i64 0),(.int .i64 0),(.slice none 0 0),(.string ⟨#[110]⟩),(.int .i64 0),(.int .i64 0),(.slice none 0 0)]) elT_22 (Eos.parts (l:=[.tmp 5,.tmp 6]) (.cons rfl (.cons rfl .nil)) [0,1]) (fun _=>by kernel_rfl) rfl (by unfold maxLen; omega)) ?_
  intro zls _
  refine WL.pu rfl ?_
  refine WL.a (d:=9) rfl rfl rfl (y1D (v:=(.agg #[(.string ⟨#[115]⟩),(.int .i64 0),(.int .i64 16),(.int .i64 z6Z)])) (Eos.parts (l:=[.const (.string ⟨#[115]⟩),.const (.int .i64 16),.tmp 8]) (.cons rfl (.cons rfl (.cons rfl .nil))) [0,2,3]) (fun _=>by kernel_rfl)) ?_
  refine WL.new (dd:=10) rfl rfl rfl (yZ (cs:=([(⟨⟨#[115]⟩,0,16,z6Z⟩ : Sapi_Switch)] : List Sapi_Switch).flatMap e64) y3P (Eos.parts (l:=[.tmp 9]) (.cons rfl .nil) [0]) (fun _=>by kernel_rfl) rfl (by unfold maxLen; omega)) ?_
  intro zlt _
  refine WL.a (d:=11) rfl rfl rfl (y1D (v:=(.agg #[(.string ⟨#[109]⟩),(.string ⟨#[115]⟩),(.int .i64 0),(.int .i64 1)])) (Eos.parts (l:=[.const (.string ⟨#[109]⟩),.const (.string ⟨#[115]⟩),.const (.int .i64 1)]) (.cons rfl (.cons rfl (.cons rfl .nil))) [0,1,3]) (fun _=>by kernel_rfl)) ?_
  refine WL.a (d:=12) rfl rfl rfl (y1D (v:=(.agg #[(.string ⟨#[110]⟩),(.string ⟨#[115]⟩),(.int .i64 0),(.int .i64 1)])) (Eos.parts (l:=[.const (.string ⟨#[110]⟩),.const (.string ⟨#[115]⟩),.const (.int .i64 1)]) (.cons rfl (.cons rfl (.cons rfl .nil))) [0,1,3]) (fun _=>by kernel_rfl)) ?_
  refine WL.new (dd:=13) rfl rfl rfl (yZ (cs:=([(⟨⟨#[109]⟩,⟨#[115]⟩,0,1⟩ : Sapi_Link),(⟨⟨#[110]⟩,⟨#[115]⟩,0,1⟩ : Sapi_Link)] : List Sapi_Link).flatMap e62) y8I (Eos.parts (l:=[.tmp 11,.tmp 12]) (.cons rfl (.cons rfl .nil)) [0,1]) (fun _=>by kernel_rfl) rfl (by unfold maxLen; omega)) ?_
  intro zlu _
  refine WL.a (d:=14) rfl rfl rfl (y1D (v:=(.agg #[(.string ⟨#[]⟩),(.string ⟨#[]⟩),(.string ⟨#[]⟩),(.string ⟨#[]⟩),(.int .i64 0),(.int .i64 0),(.slice none 0 0)])) (Eos.parts (l:=[]) .nil []) (fun _=>by kernel_rfl)) ?_
  have zqr : RR 7 (y2J (Z ++ [])) [(.string ⟨#[]⟩),(.string ⟨#[]⟩),(.string ⟨#[]⟩),(.string ⟨#[]⟩),(.int .i64 0),(.int .i64 0),(.slice none 0 0)] ([(⟨⟨#[]⟩,(⟨⟨#[]⟩,⟨#[]⟩,⟨#[]⟩⟩ : Sapi_Ref),0,0,[]⟩ : Sapi_VL)] : List Sapi_VL):=(RR.cons (r:=[(.string ⟨#[]⟩),(.string ⟨#[]⟩),(.string ⟨#[]⟩),(.string ⟨#[]⟩),(.int .i64 0),(.int .i64 0),(.slice none 0 0)]) rfl (show y2J _ _ _ from ⟨_,_,rfl,(ZS.nil _ _ _)⟩) (RR.nil _ _))
  refine WL.new (dd:=15) rfl rfl rfl (yZ (cs:=[(.string ⟨#[]⟩),(.string ⟨#[]⟩),(.string ⟨#[]⟩),(.string ⟨#[]⟩),(.int .i64 0),(.int .i64 0),(.slice none 0 0)]) elT_26 (Eos.parts (l:=[.tmp 14]) (.cons rfl .nil) [0]) (fun _=>by kernel_rfl) rfl (by unfold maxLen; omega)) ?_
  intro zlv _
  refine WL.a (d:=16) rfl rfl rfl (y1D (v:=(.agg #[(.slice (some ⟨zls,0,none⟩) (([(⟨⟨#[109]⟩,0,0,[]⟩ : Sapi_Module),(⟨⟨#[110]⟩,0,0,[]⟩ : Sapi_Module)] : List Sapi_Module).length) 2),(.slice none 0 0),(.slice (some ⟨zlt,0,none⟩) (([(⟨⟨#[115]⟩,0,16,z6Z⟩ : Sapi_Switch)] : List Sapi_Switch).length) 1),(.slice (some ⟨zlu,0,none⟩) (([(⟨⟨#[109]⟩,⟨#[115]⟩,0,1⟩ : Sapi_Link),(⟨⟨#[110]⟩,⟨#[115]⟩,0,1⟩ : Sapi_Link)] : List Sapi_Link).length) 2),(.slice (some ⟨zlv,0,none⟩) (([(⟨⟨#[]⟩,(⟨⟨#[]⟩,⟨#[]⟩,⟨#[]⟩⟩ : Sapi_Ref),0,0,[]⟩ : Sapi_VL)] : List Sapi_VL).length) 1),(.slice none 0 0),(.slice none 0 0),(.slice none 0 0)])) (Eos.parts (l:=[.tmp 7,.tmp 10,.tmp 13,.tmp 15]) (.cons rfl (.cons rfl (.cons rfl (.cons rfl .nil)))) [0,2,3,4]) (fun _=>by kernel_rfl)) ?_
  refine WL.new (dd:=4) rfl rfl rfl (y1U (cs:=[(.slice none 0 0),(.slice none 0 0),(.slice none 0 0),(.slice none 0 0),(.slice none 0 0),(.slice none 0 0),(.slice none 0 0),(.slice none 0 0)]) y4o rfl) ?_
  intro zwi _
  refine WL.y1r rfl rfl (y1K y5R rfl rfl rfl .here rfl rfl rfl) ?_
  refine WL.nil (WX.a (WC.b (WC.a ?_)))
  refine WL.a (d:=17) rfl rfl rfl (yD y1t rfl (y1h .here) rfl) ?_
  refine WL.a (d:=18) rfl rfl rfl (y1D (v:=(.agg #[(.int .i64 0),(.int .i64 2),(.int .i64 0)])) (Eos.parts (l:=[.const (.int .i64 0),.const (.int .i64 2),.const (.int .i64 0)]) (.cons rfl (.cons rfl (.cons rfl .nil))) [0,1,2]) (fun _=>by kernel_rfl)) ?_
  refine WL.a (d:=19) rfl rfl rfl (y1D (v:=(.agg #[(.int .i64 2),(.int .i64 1),(.int .i64 1)])) (Eos.parts (l:=[.const (.int .i64 2),.const (.int .i64 1),.const (.int .i64 1)]) (.cons rfl (.cons rfl (.cons rfl .nil))) [0,1,2]) (fun _=>by kernel_rfl)) ?_
  refine WL.new (dd:=20) rfl rfl rfl (yZ (cs:=([(⟨0,2,0⟩ : Sapi_Hop),(⟨2,1,1⟩ : Sapi_Hop)] : List Sapi_Hop).flatMap e59) y5M (Eos.parts (l:=[.tmp 18,.tmp 19]) (.cons rfl (.cons rfl .nil)) [0,1]) (fun _=>by kernel_rfl) rfl (by unfold maxLen; omega)) ?_
  intro zeU _
  refine WL.freezeS (ls:=([(⟨0,2,0⟩ : Sapi_Hop),(⟨2,1,1⟩ : Sapi_Hop)] : List Sapi_Hop)) .here .h6 hz (RR.y1b (enc:=e59) (fun _=>rfl) _) ?_
  intro zlw zlx zqs
  have zqt : RR 1 (p55 (Z ++ zlw)) [(.slice (some ⟨zeU,0,none⟩) (([(⟨0,2,0⟩ : Sapi_Hop),(⟨2,1,1⟩ : Sapi_Hop)] : List Sapi_Hop).length) 2)] ([([(⟨0,2,0⟩ : Sapi_Hop),(⟨2,1,1⟩ : Sapi_Hop)] : List Sapi_Hop)] : List (List Sapi_Hop)):=(RR.cons (r:=[(.slice (some ⟨zeU,0,none⟩) (([(⟨0,2,0⟩ : Sapi_Hop),(⟨2,1,1⟩ : Sapi_Hop)] : List Sapi_Hop).length) 2)]) rfl (show p55 _ _ _ from ⟨_,_,rfl,zqs⟩) (RR.nil _ _))
  refine WL.new (dd:=21) rfl rfl rfl (yZ (cs:=[(.slice (some ⟨zeU,0,none⟩) (([(⟨0,2,0⟩ : Sapi_Hop),(⟨2,1,1⟩ : Sapi_Hop)] : List Sapi_Hop).length) 2)]) y5K (Eos.parts (l:=[.tmp 20]) (.cons rfl .nil) [0]) (fun _=>by kernel_rfl) rfl (by unfold maxLen; omega)) ?_
  intro zqu _
  refine WL.y1r rfl rfl (y1K y5R rfl rfl rfl .h7 rfl rfl rfl) ?_
  refine WL.pu rfl (WL.nil (WX.a (WC.ret ?_)))
  obtain rfl:=Option.some.inj h
  refine WX.yh Try.results23 (.agg rfl y1t rfl (y1h .here) (.tmp rfl .nil)) (fun w hw=>?_)
  exact ⟨zlw,(some ⟨zls,0,none⟩),2,[(.string ⟨#[109]⟩),(.int .i64 0),(.int .i64 0),(.slice none 0 0),(.string ⟨#[110]⟩),(.int .i64 0),(.int .i64 0),(.slice none 0 0)],none,0,(some ⟨zlt,0,none⟩),1,(some ⟨zlu,0,none⟩),2,(some ⟨zlv,0,none⟩),1,[(.string ⟨#[]⟩),(.string ⟨#[]⟩),(.string ⟨#[]⟩),(.string ⟨#[]⟩),(.int .i64 0),(.int .i64 0),(.slice none 0 0)],none,0,none,0,none,0,(some ⟨zqu,0,none⟩),1,[(.slice (some ⟨zeU,0,none⟩) (([(⟨0,2,0⟩ : Sapi_Hop),(⟨2,1,1⟩ : Sapi_Hop)] : List Sapi_Hop).length) 2)],ret2 rfl rfl,⟨(zqq.weak (fun _ _ h=>y1H zlx h)),(ZS.nil _ _ _),(zqr.weak (fun _ _ h=>y1I zlx h)),(ZS.nil _ _ _),(ZS.nil _ _ _),(ZS.nil _ _ _),zqt⟩,hw.sub (.cons .h2 (.cons .h6 (.cons .h5 (.cons .h4 (.cons .h3 (.cons .h1 .nil))))))⟩
end Go.Proofs.Ytinchjigeakocaa
