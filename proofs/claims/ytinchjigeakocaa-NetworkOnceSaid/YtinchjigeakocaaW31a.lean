/- A part of this claim's proof: models of functions, walks, plain laws. No conditions. -/
import Derived.Test.YtinchjigeakocaaZSortF
import Derived.Test.YtinchjigeakocaaZUnroll
import Derived.Test.YtinchjigeakocaaZEnt
import Derived.Test.YtinchjigeakocaaProg
namespace Go.Proofs.Ytinchjigeakocaa
open Go Go.RowKit Sep
set_option linter.all false
set_option maxRecDepth 30000
set_option maxHeartbeats 4000000
structure Sapi_Port where
 fName : ByteArray
 fKind : Int
 fOut : Bool
 fSize : Int
 fDepth : Int
 fRefresh : Int
 deriving Inhabited,DecidableEq
structure Sapi_Ins where
 fOp : Int
 fA : Int
 fB : Int
 fC : Int
 deriving Inhabited,DecidableEq
structure Sapi_Proc where
 fName : ByteArray
 fPrio : Int
 fPeriod : Int
 fLimit : Int
 fCode : List Sapi_Ins
 deriving Inhabited,DecidableEq
structure Sapi_Part where
 fName : ByteArray
 fPeriod : Int
 fLength : Int
 fMem : Int
 fSemas : List Int
 fEvents : Int
 fBoards : Int
 fBufs : List Int
 fPorts : List Sapi_Port
 fProcs : List Sapi_Proc
 deriving Inhabited,DecidableEq
structure Sapi_Module where
 fName : ByteArray
 fMem : Int
 fFrame : Int
 fParts : List Sapi_Part
 deriving Inhabited,DecidableEq
structure Sapi_Ref where
 fModule : ByteArray
 fPart : ByteArray
 fPort : ByteArray
 deriving Inhabited,DecidableEq
structure Sapi_Channel where
 fFrom : Sapi_Ref
 fTo : List Sapi_Ref
 deriving Inhabited,DecidableEq
structure Sapi_Switch where
 fName : ByteArray
 fNet : Int
 fDelay : Int
 fStore : Int
 deriving Inhabited,DecidableEq
structure Sapi_Link where
 fA : ByteArray
 fB : ByteArray
 fNet : Int
 fSlow : Int
 deriving Inhabited,DecidableEq
structure Sapi_VL where
 fName : ByteArray
 fFrom : Sapi_Ref
 fBag : Int
 fMax : Int
 fTo : List Sapi_Ref
 deriving Inhabited,DecidableEq
structure Sapi_Health where
 fModule : ByteArray
 fPart : ByteArray
 fFault : Int
 fLevel : Int
 fDo : Int
 deriving Inhabited,DecidableEq
structure Sapi_Report where
 fUnit : ByteArray
 fCode : Int
 deriving Inhabited,DecidableEq
structure Sapi_Cause where
 fUnit : ByteArray
 fNeeds : List Sapi_Report
 fUnless : List ByteArray
 deriving Inhabited,DecidableEq
structure Sapi_Version where
 fA : ByteArray
 fVA : Int
 fB : ByteArray
 fVB : Int
 deriving Inhabited,DecidableEq
structure Sapi_Config where
 fModules : List Sapi_Module
 fChannels : List Sapi_Channel
 fSwitches : List Sapi_Switch
 fLinks : List Sapi_Link
 fVLs : List Sapi_VL
 fHealth : List Sapi_Health
 fCauses : List Sapi_Cause
 fVersions : List Sapi_Version
 deriving Inhabited,DecidableEq
def e3 (x : Int) : List Value:=[(.int .i64 x)]
theorem e3_oc : ∀ x,∀ u ∈ e3 x,u.oneCell' = true:=fun _=>ocB rfl
def e191 (x : Sapi_Port) : List Value:=[(.string x.fName),(.int .u8 x.fKind),(.bool x.fOut),(.int .i64 x.fSize),(.int .i64 x.fDepth),(.int .i64 x.fRefresh)]
def e196 (x : Sapi_Ins) : List Value:=[(.int .u8 x.fOp),(.int .i64 x.fA),(.int .i64 x.fB),(.int .i64 x.fC)]
def p194 (Z : Zp) (r : List Value) (x : Sapi_Proc) : Prop:=∃ (ao0 : Option Addr) (cap0 : Nat),r = [(.string x.fName),(.int .i64 x.fPrio),(.int .i64 x.fPeriod),(.int .i64 x.fLimit),(.slice ao0 x.fCode.length cap0)] ∧ ZS Z 4 (fun r x=>r = e196 x) ao0 cap0 x.fCode
theorem y8p {Z Z' : Zp} (k : Zle Z Z') {r : List Value} {x : Sapi_Proc} (h : p194 Z r x) : p194 Z' r x:=by
 obtain ⟨ao0,cap0,hr,h0⟩:=h
 exact ⟨ao0,cap0,hr,h0.mono k⟩
def p186 (Z : Zp) (r : List Value) (x : Sapi_Part) : Prop:=∃ (ao0 : Option Addr) (cap0 : Nat) (ao1 : Option Addr) (cap1 : Nat) (ao2 : Option Addr) (cap2 : Nat) (ao3 : Option Addr) (cap3 : Nat),r = [(.string x.fName),(.int .i64 x.fPeriod),(.int .i64 x.fLength),(.int .i64 x.fMem),(.slice ao0 x.fSemas.length cap0),(.int .i64 x.fEvents),(.int .i64 x.fBoards),(.slice ao1 x.fBufs.length cap1),(.slice ao2 x.fPorts.length cap2),(.slice ao3 x.fProcs.length cap3)] ∧ ZS Z 1 (fun r x=>r = e3 x) ao0 cap0 x.fSemas ∧ ZS Z 1 (fun r x=>r = e3 x) ao1 cap1 x.fBufs ∧ ZS Z 6 (fun r x=>r = e191 x) ao2 cap2 x.fPorts ∧ ZS Z 5 (p194 Z) ao3 cap3 x.fProcs
theorem y8q {Z Z' : Zp} (k : Zle Z Z') {r : List Value} {x : Sapi_Part} (h : p186 Z r x) : p186 Z' r x:=by
 obtain ⟨ao0,cap0,ao1,cap1,ao2,cap2,ao3,cap3,hr,h0,h1,h2,h3⟩:=h
 exact ⟨ao0,cap0,ao1,cap1,ao2,cap2,ao3,cap3,hr,h0.mono k,h1.mono k,h2.mono k,(h3.mono k).weak (fun _ _ h=>y8p k h)⟩
def y2w (Z : Zp) (r : List Value) (x : Sapi_Module) : Prop:=∃ (ao0 : Option Addr) (cap0 : Nat),r = [(.string x.fName),(.int .i64 x.fMem),(.int .i64 x.fFrame),(.slice ao0 x.fParts.length cap0)] ∧ ZS Z 10 (p186 Z) ao0 cap0 x.fParts
theorem y29 {Z Z' : Zp} (k : Zle Z Z') {r : List Value} {x : Sapi_Module} (h : y2w Z r x) : y2w Z' r x:=by
 obtain ⟨ao0,cap0,hr,h0⟩:=h
 exact ⟨ao0,cap0,hr,(h0.mono k).weak (fun _ _ h=>y8q k h)⟩
def e106 (x : Sapi_Ref) : List Value:=[(.string x.fModule),(.string x.fPart),(.string x.fPort)]
def y2S (Z : Zp) (r : List Value) (x : Sapi_Channel) : Prop:=∃ (ao0 : Option Addr) (cap0 : Nat),r = [(.string x.fFrom.fModule),(.string x.fFrom.fPart),(.string x.fFrom.fPort),(.slice ao0 x.fTo.length cap0)] ∧ ZS Z 3 (fun r x=>r = e106 x) ao0 cap0 x.fTo
theorem y2j {Z Z' : Zp} (k : Zle Z Z') {r : List Value} {x : Sapi_Channel} (h : y2S Z r x) : y2S Z' r x:=by
 obtain ⟨ao0,cap0,hr,h0⟩:=h
 exact ⟨ao0,cap0,hr,h0.mono k⟩
def e64 (x : Sapi_Switch) : List Value:=[(.string x.fName),(.int .i64 x.fNet),(.int .i64 x.fDelay),(.int .i64 x.fStore)]
def e62 (x : Sapi_Link) : List Value:=[(.string x.fA),(.string x.fB),(.int .i64 x.fNet),(.int .i64 x.fSlow)]
def y2F (Z : Zp) (r : List Value) (x : Sapi_VL) : Prop:=∃ (ao0 : Option Addr) (cap0 : Nat),r = [(.string x.fName),(.string x.fFrom.fModule),(.string x.fFrom.fPart),(.string x.fFrom.fPort),(.int .i64 x.fBag),(.int .i64 x.fMax),(.slice ao0 x.fTo.length cap0)] ∧ ZS Z 3 (fun r x=>r = e106 x) ao0 cap0 x.fTo
theorem y2a {Z Z' : Zp} (k : Zle Z Z') {r : List Value} {x : Sapi_VL} (h : y2F Z r x) : y2F Z' r x:=by
 obtain ⟨ao0,cap0,hr,h0⟩:=h
 exact ⟨ao0,cap0,hr,h0.mono k⟩
def y2Y (x : Sapi_Health) : List Value:=[(.string x.fModule),(.string x.fPart),(.int .u8 x.fFault),(.int .u8 x.fLevel),(.int .u8 x.fDo)]
def e189 (x : Sapi_Report) : List Value:=[(.string x.fUnit),(.int .i64 x.fCode)]
def e9 (x : ByteArray) : List Value:=[(.string x)]
def y2T (Z : Zp) (r : List Value) (x : Sapi_Cause) : Prop:=∃ (ao0 : Option Addr) (cap0 : Nat) (ao1 : Option Addr) (cap1 : Nat),r = [(.string x.fUnit),(.slice ao0 x.fNeeds.length cap0),(.slice ao1 x.fUnless.length cap1)] ∧ ZS Z 2 (fun r x=>r = e189 x) ao0 cap0 x.fNeeds ∧ ZS Z 1 (fun r x=>r = e9 x) ao1 cap1 x.fUnless
theorem y2k {Z Z' : Zp} (k : Zle Z Z') {r : List Value} {x : Sapi_Cause} (h : y2T Z r x) : y2T Z' r x:=by
 obtain ⟨ao0,cap0,ao1,cap1,hr,h0,h1⟩:=h
 exact ⟨ao0,cap0,ao1,cap1,hr,h0.mono k,h1.mono k⟩
def y2Z (x : Sapi_Version) : List Value:=[(.string x.fA),(.int .i64 x.fVA),(.string x.fB),(.int .i64 x.fVB)]
structure Sapi_Hop where
 fNode : Int
 fNext : Int
 fLink : Int
 deriving Inhabited,DecidableEq
def e59 (x : Sapi_Hop) : List Value:=[(.int .i64 x.fNode),(.int .i64 x.fNext),(.int .i64 x.fLink)]
def p55 (Z : Zp) (r : List Value) (x : List Sapi_Hop) : Prop:=∃ (ao0 : Option Addr) (cap0 : Nat),r = [(.slice ao0 x.length cap0)] ∧ ZS Z 3 (fun r x=>r = e59 x) ao0 cap0 x
theorem y4c {Z Z' : Zp} (k : Zle Z Z') {r : List Value} {x : List Sapi_Hop} (h : p55 Z r x) : p55 Z' r x:=by
 obtain ⟨ao0,cap0,hr,h0⟩:=h
 exact ⟨ao0,cap0,hr,h0.mono k⟩
structure zSt where
 fTime : Int
 fVL : Int
 fSize : Int
 deriving Inhabited,DecidableEq
def e53 (x : zSt) : List Value:=[(.int .i64 x.fTime),(.int .i64 x.fVL),(.int .i64 x.fSize)]
structure S7 where
 fX : Int
 fY : Int
 fSigned : Bool
 fCode : Int
 deriving Inhabited,DecidableEq
structure S13 where
 fMsg : ByteArray
 fAddr : Int
 deriving Inhabited,DecidableEq
structure Snetwork_exit where
 fNode : Int
 fLink : Int
 deriving Inhabited,DecidableEq
def y1S (x : Snetwork_exit) : List Value:=[(.int .i64 x.fNode),(.int .i64 x.fLink)]
structure Sport_numbers where
 fSlow : Int
 fDelay : Int
 fStore : Int
 deriving Inhabited,DecidableEq
structure Sport_frame where
 fSize : Int
 fFin : Int
 deriving Inhabited,DecidableEq
structure Sport_Port where
 fNumbers : Sport_numbers
 fNow : Int
 fLast : Int
 fFrames : List Sport_frame
 deriving Inhabited,DecidableEq
def y20 (x : Sport_frame) : List Value:=[(.int .i64 x.fSize),(.int .i64 x.fFin)]
theorem y9s : ∀ x,∀ u ∈ y20 x,u.oneCell' = true:=fun _=>ocB rfl
def z19 (g : Nat × (Option Addr × Nat)) (x : Sport_Port) : List Asrt:=[stb g.1 143 [(.int .i64 x.fNumbers.fSlow),(.int .i64 x.fNumbers.fDelay),(.int .i64 x.fNumbers.fStore),(.int .i64 x.fNow),(.int .i64 x.fLast),(.slice g.2.1 x.fFrames.length g.2.2)],row (.slice g.2.1 x.fFrames.length g.2.2) 146 2 (x.fFrames.flatMap y20)]
structure Snetwork_event where
 fTime : Int
 fIn_ : Int
 fVl : Int
 fSent : Int
 fHop : Sapi_Hop
 deriving Inhabited,DecidableEq
def yA (x : Snetwork_event) : List Value:=[(.int .i64 x.fTime),(.int .i64 x.fIn_),(.int .i64 x.fVl),(.int .i64 x.fSent),(.int .i64 x.fHop.fNode),(.int .i64 x.fHop.fNext),(.int .i64 x.fHop.fLink)]
theorem e113_oc : ∀ x,∀ u ∈ yA x,u.oneCell' = true:=fun _=>ocB rfl
structure Sapi_Come where
 fSent : Int
 fNode : Int
 fTime : Int
 deriving Inhabited,DecidableEq
def e50 (x : Sapi_Come) : List Value:=[(.int .i64 x.fSent),(.int .i64 x.fNode),(.int .i64 x.fTime)]
theorem e50_oc : ∀ x,∀ u ∈ e50 x,u.oneCell' = true:=fun _=>ocB rfl
structure S51 where
 a0 : Int
 a1 : Int
 deriving Inhabited,DecidableEq
structure S67 where
 fAll : List Sapi_Come
 fOwn : List Sapi_Come
 deriving Inhabited,DecidableEq
structure S90 where
 fSlow : Int
 fDelay : Int
 fStore : Int
 fNow : Int
 fAt : List Int
 fSize : List Int
 fEnd : List Int
 deriving Inhabited,DecidableEq
structure S92 where
 fNode : Int
 fLink : Int
 fPort : S90
 deriving Inhabited,DecidableEq
def e51 (x : S51) : List Value:=[(.int .i64 x.a0),(.int .i64 x.a1)]
theorem y1L : y4J Try.prog 31 8:=y4h (i:=Try.t31) Try.underlying31 rfl rfl
theorem y3X : yC Try.prog 31 0 0:=yq (i:=Try.t22) Try.underlying31 rfl rfl (by decide) rfl
theorem y3Y : y48 Try.prog 22:=y34 Try.underlying22 rfl
theorem y59 : yC Try.prog 31 2 2:=yq (i:=Try.t24) Try.underlying31 rfl rfl (by decide) rfl
theorem y5a : y48 Try.prog 24:=y34 Try.underlying24 rfl
theorem y6Y : yC Try.prog 31 3 3:=yq (i:=Try.t25) Try.underlying31 rfl rfl (by decide) rfl
theorem y6Z : y48 Try.prog 25:=y34 Try.underlying25 rfl
theorem y70 : yC Try.prog 31 4 4:=yq (i:=Try.t26) Try.underlying31 rfl rfl (by decide) rfl
theorem y71 : y48 Try.prog 26:=y34 Try.underlying26 rfl
theorem y5V : elT Try.prog 32 55 1 24:=⟨Try.underlying32,⟨Try.t55,_,rfl,rfl,rfl,rfl,rfl⟩,by decide⟩
theorem y5W : y48 Try.prog 55:=y34 Try.underlying55 rfl
theorem yg : y48 Try.prog 3:=y34 Try.underlying3 rfl
theorem y4X : elT Try.prog 55 59 3 24:=⟨Try.underlying55,⟨Try.t59,_,rfl,rfl,rfl,rfl,rfl⟩,by decide⟩
theorem y5X : y4J Try.prog 59 3:=y4h (i:=Try.t59) Try.underlying59 rfl rfl
theorem y7h : y2X Try.prog 59 (.agg #[(.int .i64 0),(.int .i64 0),(.int .i64 0)]):=y3a (i:=Try.t59) rfl rfl
theorem y7T : y42 Try.prog 59 3:=y2O (i:=Try.t59) rfl
theorem y3n : yC Try.prog 59 0 0:=yq (i:=Try.t3) Try.underlying59 rfl rfl (by decide) rfl
theorem y3Z : y2X Try.prog 3 (.int .i64 0):=y3a (i:=Try.t3) rfl rfl
theorem y5Y : KeyT Try.prog 3 (Value.int .i64):=keyT_int Try.underlying3
theorem y4k : yC Try.prog 59 1 1:=yq (i:=Try.t3) Try.underlying59 rfl rfl (by decide) rfl
theorem y72 : yC Try.prog 59 2 2:=yq (i:=Try.t3) Try.underlying59 rfl rfl (by decide) rfl
theorem y8P : elT Try.prog 25 62 4 48:=⟨Try.underlying25,⟨Try.t62,_,rfl,rfl,rfl,rfl,rfl⟩,by decide⟩
theorem aggT_62 : y4J Try.prog 62 4:=y4h (i:=Try.t62) Try.underlying62 rfl rfl
theorem zeroT_62 : y2X Try.prog 62 (.agg #[(.string ⟨#[]⟩),(.string ⟨#[]⟩),(.int .i64 0),(.int .i64 0)]):=y3a (i:=Try.t62) rfl rfl
theorem sizT_62 : y42 Try.prog 62 4:=y2O (i:=Try.t62) rfl
theorem fo_62_0 : yC Try.prog 62 0 0:=yq (i:=Try.t9) Try.underlying62 rfl rfl (by decide) rfl
theorem y7B : y48 Try.prog 9:=y34 Try.underlying9 rfl
theorem elT_22 : elT Try.prog 22 104 4 56:=⟨Try.underlying22,⟨Try.t104,_,rfl,rfl,rfl,rfl,rfl⟩,by decide⟩
theorem fo_104_0 : yC Try.prog 104 0 0:=yq (i:=Try.t9) Try.underlying104 rfl rfl (by decide) rfl
theorem y6P : elT Try.prog 24 64 4 40:=⟨Try.underlying24,⟨Try.t64,_,rfl,rfl,rfl,rfl,rfl⟩,by decide⟩
theorem fo_64_0 : yC Try.prog 64 0 0:=yq (i:=Try.t9) Try.underlying64 rfl rfl (by decide) rfl
theorem fo_62_1 : yC Try.prog 62 1 1:=yq (i:=Try.t9) Try.underlying62 rfl rfl (by decide) rfl
theorem fo_62_2 : yC Try.prog 62 2 2:=yq (i:=Try.t3) Try.underlying62 rfl rfl (by decide) rfl
theorem y7U : yC Try.prog 62 3 3:=yq (i:=Try.t3) Try.underlying62 rfl rfl (by decide) rfl
theorem aggT_64 : y4J Try.prog 64 4:=y4h (i:=Try.t64) Try.underlying64 rfl rfl
theorem zeroT_64 : y2X Try.prog 64 (.agg #[(.string ⟨#[]⟩),(.int .i64 0),(.int .i64 0),(.int .i64 0)]):=y3a (i:=Try.t64) rfl rfl
theorem sizT_64 : y42 Try.prog 64 4:=y2O (i:=Try.t64) rfl
theorem fo_64_1 : yC Try.prog 64 1 1:=yq (i:=Try.t3) Try.underlying64 rfl rfl (by decide) rfl
theorem y7V : yC Try.prog 64 2 2:=yq (i:=Try.t3) Try.underlying64 rfl rfl (by decide) rfl
theorem y7W : yC Try.prog 64 3 3:=yq (i:=Try.t3) Try.underlying64 rfl rfl (by decide) rfl
theorem y4p : elT Try.prog 33 53 3 24:=⟨Try.underlying33,⟨Try.t53,_,rfl,rfl,rfl,rfl,rfl⟩,by decide⟩
theorem y73 : y4J Try.prog 53 3:=y4h (i:=Try.t53) Try.underlying53 rfl rfl
theorem y6j : y2X Try.prog 53 (.agg #[(.int .i64 0),(.int .i64 0),(.int .i64 0)]):=y3a (i:=Try.t53) rfl rfl
theorem y74 : y42 Try.prog 53 3:=y2O (i:=Try.t53) rfl
theorem y40 : yC Try.prog 53 0 0:=yq (i:=Try.t3) Try.underlying53 rfl rfl (by decide) rfl
theorem y4L : yC Try.prog 53 1 1:=yq (i:=Try.t3) Try.underlying53 rfl rfl (by decide) rfl
theorem y5Z : yC Try.prog 53 2 2:=yq (i:=Try.t3) Try.underlying53 rfl rfl (by decide) rfl
theorem y4Y : elT Try.prog 56 3 1 8:=⟨Try.underlying56,⟨Try.t3,_,rfl,rfl,rfl,rfl,rfl⟩,by decide⟩
theorem y7i : y2X Try.prog 31 (.agg #[(.slice none 0 0),(.slice none 0 0),(.slice none 0 0),(.slice none 0 0),(.slice none 0 0),(.slice none 0 0),(.slice none 0 0),(.slice none 0 0)]):=y3a (i:=Try.t31) rfl rfl
theorem elT_26 : elT Try.prog 26 109 7 104:=⟨Try.underlying26,⟨Try.t109,_,rfl,rfl,rfl,rfl,rfl⟩,by decide⟩
theorem y7X : y42 Try.prog 31 8:=y2O (i:=Try.t31) rfl
theorem y9t : yC Try.prog 81 2 9:=yq (i:=Try.t33) Try.underlying81 rfl rfl (by decide) rfl
theorem y9u : y48 Try.prog 33:=y34 Try.underlying33 rfl
theorem fo_81_1 : yC Try.prog 81 1 8:=yq (i:=Try.t32) Try.underlying81 rfl rfl (by decide) rfl
theorem oneT_32 : y48 Try.prog 32:=y34 Try.underlying32 rfl
theorem y7Y : yC Try.prog 81 4 11:=yq (i:=Try.t79) Try.underlying81 rfl rfl (by decide) rfl
theorem y8Q (p : Option Addr) : ∀ w,(method (Try.prog.types.size + Made.depth) 111 (.pointer p) "Push").run Try.prog w = .ok (92,.pointer p) w:=fun _=>by kernel_rfl
theorem y5b : y48 Try.prog 79:=y34 Try.underlying79 rfl
theorem y4q : elT Try.prog 79 113 7 56:=⟨Try.underlying79,⟨Try.t113,_,rfl,rfl,rfl,rfl,rfl⟩,by decide⟩
theorem y9v : y42 Try.prog 79 1:=y2O (i:=Try.t79) rfl
theorem y7c {A : Addr} {v : Value} : ∀ w : World,w.cell? A = some v → (method (Try.prog.types.size + Made.depth) 111 (.pointer (some A)) "Len").run Try.prog w = .ok (86,v) w:=fun w h=>y6i (i:=Try.t111) rfl rfl rfl rfl Try.underlying111 y5b h
theorem y5m {A : Addr} {v : Value} : ∀ w : World,w.cell? A = some v → (method (Try.prog.types.size + Made.depth) 111 (.pointer (some A)) "Less").run Try.prog w = .ok (87,v) w:=fun w h=>y6i (i:=Try.t111) rfl rfl rfl rfl Try.underlying111 y5b h
theorem zag : y4J Try.prog 113 7:=y4h (i:=Try.t113) Try.underlying113 rfl rfl
theorem y6k : yC Try.prog 113 0 0:=yq (i:=Try.t3) Try.underlying113 rfl rfl (by decide) rfl
theorem y8R : yC Try.prog 113 1 1:=yq (i:=Try.t3) Try.underlying113 rfl rfl (by decide) rfl
theorem y8S : yC Try.prog 113 2 2:=yq (i:=Try.t3) Try.underlying113 rfl rfl (by decide) rfl
theorem y4M : yC Try.prog 113 3 3:=yq (i:=Try.t3) Try.underlying113 rfl rfl (by decide) rfl
theorem y5n {A : Addr} {v : Value} : ∀ w : World,w.cell? A = some v → (method (Try.prog.types.size + Made.depth) 111 (.pointer (some A)) "Swap").run Try.prog w = .ok (88,v) w:=fun w h=>y6i (i:=Try.t111) rfl rfl rfl rfl Try.underlying111 y5b h
theorem zeK : y42 Try.prog 113 7:=y2O (i:=Try.t113) rfl
theorem y9h (p : Option Addr) : ∀ w,(method (Try.prog.types.size + Made.depth) 111 (.pointer p) "Pop").run Try.prog w = .ok (91,.pointer p) w:=fun _=>by kernel_rfl
theorem zkF : y2X Try.prog 113 (.agg #[(.int .i64 0),(.int .i64 0),(.int .i64 0),(.int .i64 0),(.int .i64 0),(.int .i64 0),(.int .i64 0)]):=y3a (i:=Try.t113) rfl rfl
theorem y4N : yC Try.prog 113 4 4:=yq (i:=Try.t59) Try.underlying113 rfl rfl (by decide) rfl
theorem zoY : y2X Try.prog 136 (.agg #[(.int .i64 0),(.int .i64 0)]):=y3a (i:=Try.t136) rfl rfl
theorem zoZ : y42 Try.prog 136 2:=y2O (i:=Try.t136) rfl
theorem y7Z : yC Try.prog 81 3 10:=yq (i:=Try.t77) Try.underlying81 rfl rfl (by decide) rfl
theorem y80 : y48 Try.prog 77:=y34 Try.underlying77 rfl
theorem zgy : y4J Try.prog 136 2:=y4h (i:=Try.t136) Try.underlying136 rfl rfl
theorem zkG : y2X Try.prog 116 (.pointer none):=y3a (i:=Try.t116) rfl rfl
theorem zp0 : EqT Try.prog 136 y1S:=⟨fun u v w=>by
 have i136_10000:=fun (w : World) (a b : Array Value)=>run_equalIn_agg (P:=Try.prog) w 9999 136 a b (by simp [Program.fieldsOf,Try.underlying136]) (by kernel_rfl)
 have i3_9999:=fun (w : World) (a b : Int)=>run_equalIn_int (P:=Try.prog) w 9998 3 .i64 .i64 a b Try.underlying3
 rw [i136_10000]
 simp [Program.fieldsOf,Op.eqFields,part,y1S,i136_10000,Try.underlying136,i3_9999]
 rcases u with ⟨u1,u2⟩
 rcases v with ⟨v1,v2⟩
 by_cases h1 : u1 = v1 <;> by_cases h2 : u2 = v2 <;> simp [h1,h2],by kernel_rfl⟩
theorem zgz : KeyT Try.prog 136 (fun x=>Value.agg (y1S x).toArray):=y8J Try.underlying136 (fun _ _=>rfl) (fun b k w=>by
 have c3_9999:=fun (w : World) (a : Int)=>MapKept.run_checkKey (P:=Try.prog) (w:=w) (kt:=3) (k:=.int .i64 a) Try.underlying3 (by simp [MapKept.IsKey]) b 9998
 have ck : ∀ (w : World) (u0 : Int) (u1 : Int),(Instr.checkKey b 10000 136 (.agg #[.int .i64 u0,.int .i64 u1])).run Try.prog w = .ok () w:=fun w u0 u1=>by
  rw [show (10000 : Nat) = 9999 + 1 from rfl,Instr.checkKey]
  simp [run_underlying Try.underlying136,c3_9999,part]
 exact ck w k.fNode k.fLink)
 (fun u v w=>zp0.eq u v w)
 (fun k=>by simp [Instr.sameBits,y1S])
theorem y60 : yC Try.prog 81 0 0:=yq (i:=Try.t31) Try.underlying81 rfl rfl (by decide) rfl
theorem y6l : yC Try.prog 143 0 0:=yq (i:=Try.t140) Try.underlying143 rfl rfl (by decide) rfl
theorem y8T : yC Try.prog 140 0 0:=yq (i:=Try.t3) Try.underlying140 rfl rfl (by decide) rfl
theorem y7j : yC Try.prog 143 1 3:=yq (i:=Try.t3) Try.underlying143 rfl rfl (by decide) rfl
theorem y8U : y42 Try.prog 3 1:=y2O (i:=Try.t3) rfl
theorem y5o : yC Try.prog 143 3 5:=yq (i:=Try.t141) Try.underlying143 rfl rfl (by decide) rfl
theorem zgA : y48 Try.prog 141:=y34 Try.underlying141 rfl
theorem y8V : yC Try.prog 146 1 1:=yq (i:=Try.t3) Try.underlying146 rfl rfl (by decide) rfl
theorem z6W : elT Try.prog 141 146 2 16:=⟨Try.underlying141,⟨Try.t146,_,rfl,rfl,rfl,rfl,rfl⟩,by decide⟩
theorem zah : y4J Try.prog 146 2:=y4h (i:=Try.t146) Try.underlying146 rfl rfl
theorem zgB : y2X Try.prog 146 (.agg #[(.int .i64 0),(.int .i64 0)]):=y3a (i:=Try.t146) rfl rfl
theorem zgC : y42 Try.prog 146 2:=y2O (i:=Try.t146) rfl
theorem zkH : y42 Try.prog 141 1:=y2O (i:=Try.t141) rfl
theorem fo_146_0 : yC Try.prog 146 0 0:=yq (i:=Try.t3) Try.underlying146 rfl rfl (by decide) rfl
theorem fo_140_2 : yC Try.prog 140 2 2:=yq (i:=Try.t3) Try.underlying140 rfl rfl (by decide) rfl
theorem fo_140_1 : yC Try.prog 140 1 1:=yq (i:=Try.t3) Try.underlying140 rfl rfl (by decide) rfl
theorem y6m : yC Try.prog 143 2 4:=yq (i:=Try.t3) Try.underlying143 rfl rfl (by decide) rfl
theorem y81 : yC Try.prog 81 6 13:=yq (i:=Try.t36) Try.underlying81 rfl rfl (by decide) rfl
theorem y75 : y48 Try.prog 36:=y34 Try.underlying36 rfl
theorem y19 : elT Try.prog 36 50 3 24:=⟨Try.underlying36,⟨Try.t50,_,rfl,rfl,rfl,rfl,rfl⟩,by decide⟩
theorem y9w : y42 Try.prog 36 1:=y2O (i:=Try.t36) rfl
theorem y82 : yC Try.prog 81 5 12:=yq (i:=Try.t36) Try.underlying81 rfl rfl (by decide) rfl
theorem y83 : yC Try.prog 50 2 2:=yq (i:=Try.t3) Try.underlying50 rfl rfl (by decide) rfl
theorem y4l : yC Try.prog 50 0 0:=yq (i:=Try.t3) Try.underlying50 rfl rfl (by decide) rfl
theorem y76 : yC Try.prog 50 1 1:=yq (i:=Try.t3) Try.underlying50 rfl rfl (by decide) rfl
theorem y23 : y4J Try.prog 50 3:=y4h (i:=Try.t50) Try.underlying50 rfl rfl
theorem y41 : y42 Try.prog 50 3:=y2O (i:=Try.t50) rfl
theorem eqT_50 : EqT Try.prog 50 e50:=⟨fun u v w=>by
 have i50_10000:=fun (w : World) (a b : Array Value)=>run_equalIn_agg (P:=Try.prog) w 9999 50 a b (by simp [Program.fieldsOf,Try.underlying50]) (by kernel_rfl)
 have i3_9999:=fun (w : World) (a b : Int)=>run_equalIn_int (P:=Try.prog) w 9998 3 .i64 .i64 a b Try.underlying3
 rw [i50_10000]
 simp [Program.fieldsOf,Op.eqFields,part,e50,i50_10000,Try.underlying50,i3_9999]
 rcases u with ⟨u1,u2,u3⟩
 rcases v with ⟨v1,v2,v3⟩
 by_cases h1 : u1 = v1 <;> by_cases h2 : u2 = v2 <;> by_cases h3 : u3 = v3 <;> simp [h1,h2,h3],by kernel_rfl⟩
theorem y8W : y2X Try.prog 50 (.agg #[(.int .i64 0),(.int .i64 0),(.int .i64 0)]):=y3a (i:=Try.t50) rfl rfl
theorem y5c : KeyT Try.prog 51 (fun x=>Value.agg (e51 x).toArray):=y8J Try.underlying51 (fun _ _=>rfl) (fun b k w=>by
 have c3_9999:=fun (w : World) (a : Int)=>MapKept.run_checkKey (P:=Try.prog) (w:=w) (kt:=3) (k:=.int .i64 a) Try.underlying3 (by simp [MapKept.IsKey]) b 9998
 have ck : ∀ (w : World) (u0 : Int) (u1 : Int),(Instr.checkKey b 10000 51 (.agg #[.int .i64 u0,.int .i64 u1])).run Try.prog w = .ok () w:=fun w u0 u1=>by
  rw [show (10000 : Nat) = 9999 + 1 from rfl,Instr.checkKey]
  simp [run_underlying Try.underlying51,c3_9999,part,List.range',Std.Legacy.Range.forIn_eq_forIn_range',Std.Legacy.Range.size]
 exact ck w k.a0 k.a1)
 (fun u v w=>by
 have i3:=fun (w : World) (a b : Int)=>run_equalIn_int (P:=Try.prog) w 9998 3 .i64 .i64 a b Try.underlying3
 show (Op.equalIn 10000 51 _ _).run _ _ = _
 rw [show (10000 : Nat) = 9999 + 1 from rfl,Op.equalIn]
 simp [run_underlying Try.underlying51,part,e51,i3,List.range',Std.Legacy.Range.forIn_eq_forIn_range',Std.Legacy.Range.size]
 rcases u with ⟨u1,u2⟩
 rcases v with ⟨v1,v2⟩
 by_cases h1 : u1 = v1 <;> by_cases h2 : u2 = v2 <;> simp [h1,h2])
 (fun k=>by simp [Instr.sameBits,e51])
def y2G (z2b : List (List Sapi_Hop)) (z6X : Option Bool) : Nat → Int → Option Bool
 | 0,_=>none
 | zgD + 1,z3C=>if decide (z3C < ((z2b.length : Nat) : Int)) then chk ((0 : Int) ≤ z3C ∧ z3C < ((z2b.length : Nat) : Int)) (if decide ((((nth z2b z3C).length : Nat) : Int) > 40) then some false else y2G z2b z6X zgD (i64 (z3C + 1))) else z6X
theorem y6A {n : Nat} {z2b : List (List Sapi_Hop)} {z6X : Option Bool} {z3C : Int} {r : Bool} (h : y2G z2b z6X n z3C = some r) : ∃ m,n = m + 1:=by
 cases n with
 | zero=>cases h
 | succ m=>exact ⟨m,rfl⟩
def y4r (c_75 : Sapi_Config) (z2b : List (List Sapi_Hop)) (z4B : List zSt) : Option Bool :=
 if (((((decide (((c_75.fModules.length : Nat) : Int) > 8)) || (decide (((c_75.fSwitches.length : Nat) : Int) > 8))) || (decide (((c_75.fLinks.length : Nat) : Int) > 20))) || (decide (((c_75.fVLs.length : Nat) : Int) > 20))) || (decide (((z2b.length : Nat) : Int) > 20))) || ((decide (((z4B.length : Nat) : Int) > 40)) && (decide (((z4B.length : Nat) : Int) ≤ 4000))) then some false else jp0 (some true) fun z6X=>y2G z2b z6X yt 0
set_option maxRecDepth 20000 in
theorem y9i (Z : Zp) (ao_76 : Option Addr) (cap_77 : Nat) (ao_79 : Option Addr) (cap_80 : Nat) (ao_82 : Option Addr) (cap_83 : Nat) (ao_85 : Option Addr) (cap_86 : Nat) (ao_88 : Option Addr) (cap_89 : Nat) (ao_91 : Option Addr) (cap_92 : Nat) (ao_94 : Option Addr) (cap_95 : Nat) (ao_97 : Option Addr) (cap_98 : Nat) (zcn : Option Addr) (zco : Nat) (zeL : Option Addr) (zeM : Nat) (c_75 : Sapi_Config) (z2b : List (List Sapi_Hop)) (z4B : List zSt) (r : Bool)
  (h : y4r c_75 z2b z4B = some r) (w₀ : World) (hz : PZ [] w₀ Z)
  (hs_78 : ZS Z 4 (y2w Z) ao_76 cap_77 c_75.fModules)
  (hs_81 : ZS Z 4 (y2S Z) ao_79 cap_80 c_75.fChannels)
  (hs_84 : ZS Z 4 (fun r x=>r = e64 x) ao_82 cap_83 c_75.fSwitches)
  (hs_87 : ZS Z 4 (fun r x=>r = e62 x) ao_85 cap_86 c_75.fLinks)
  (hs_90 : ZS Z 7 (y2F Z) ao_88 cap_89 c_75.fVLs)
  (hs_93 : ZS Z 5 (fun r x=>r = y2Y x) ao_91 cap_92 c_75.fHealth)
  (hs_96 : ZS Z 3 (y2T Z) ao_94 cap_95 c_75.fCauses)
  (hs_99 : ZS Z 4 (fun r x=>r = y2Z x) ao_97 cap_98 c_75.fVersions)
  (zp1 : ZS Z 1 (p55 Z) zcn zco z2b)
  (zvN : ZS Z 3 (fun r x=>r = e53 x) zeL zeM z4B) :
  Calls Try.prog 10 #[(.agg #[(.slice ao_76 c_75.fModules.length cap_77),(.slice ao_79 c_75.fChannels.length cap_80),(.slice ao_82 c_75.fSwitches.length cap_83),(.slice ao_85 c_75.fLinks.length cap_86),(.slice ao_88 c_75.fVLs.length cap_89),(.slice ao_91 c_75.fHealth.length cap_92),(.slice ao_94 c_75.fCauses.length cap_95),(.slice ao_97 c_75.fVersions.length cap_98)]),(.slice zcn z2b.length zco),(.slice zeL z4B.length zeM)] w₀ fun e w'=>e = .returned (.bool r) ∧ Hp [] w₀ w' []:=by
 unfold y4r at h
 refine Calls.yo (vs:=[(.agg #[(.slice ao_76 c_75.fModules.length cap_77),(.slice ao_79 c_75.fChannels.length cap_80),(.slice ao_82 c_75.fSwitches.length cap_83),(.slice ao_85 c_75.fLinks.length cap_86),(.slice ao_88 c_75.fVLs.length cap_89),(.slice ao_91 c_75.fHealth.length cap_92),(.slice ao_94 c_75.fCauses.length cap_95),(.slice ao_97 c_75.fVersions.length cap_98)]),(.slice zcn z2b.length zco),(.slice zeL z4B.length zeM)]) (pre:=[]) (env:=[(0,(.agg #[(.slice ao_76 c_75.fModules.length cap_77),(.slice ao_79 c_75.fChannels.length cap_80),(.slice ao_82 c_75.fSwitches.length cap_83),(.slice ao_85 c_75.fLinks.length cap_86),(.slice ao_88 c_75.fVLs.length cap_89),(.slice ao_91 c_75.fHealth.length cap_92),(.slice ao_94 c_75.fCauses.length cap_95),(.slice ao_97 c_75.fVersions.length cap_98)])),(1,(.slice zcn z2b.length zco)),(2,(.slice zeL z4B.length zeM))]) Try.func10 rfl Try.ntmps10 rfl (Hp.nil w₀ _) rfl ?_
 refine WC.b (WC.a ?_)
 refine WL.new (dd:=3) rfl rfl rfl (y2h (cs:=[(.slice ao_76 c_75.fModules.length cap_77),(.slice ao_79 c_75.fChannels.length cap_80),(.slice ao_82 c_75.fSwitches.length cap_83),(.slice ao_85 c_75.fLinks.length cap_86),(.slice ao_88 c_75.fVLs.length cap_89),(.slice ao_91 c_75.fHealth.length cap_92),(.slice ao_94 c_75.fCauses.length cap_95),(.slice ao_97 c_75.fVersions.length cap_98)]) rfl rfl) ?_
 intro zvO _
 refine WL.pu rfl (WL.nil (WX.a (WC.b (WC.b (WC.a ?_)))))
 refine WL.a (d:=9) rfl rfl rfl (ya y3X rfl rfl) ?_
 refine WL.a (d:=10) rfl rfl rfl (yb y3Y rfl (yc .here rfl)) ?_
 refine WL.a (d:=11) rfl rfl rfl (yW Try.underlying22 rfl) ?_
 refine WL.pu rfl (WL.pu rfl ?_)
 refine WL.seg false 4 13 (B:=(decide (((c_75.fModules.length : Nat) : Int) > 8)) || (decide (((c_75.fSwitches.length : Nat) : Int) > 8))) rfl rfl rfl rfl rfl rfl (fun h=>(y24 h).symm) (fun _ zp2=>?_) ?_
 ·skip
  refine WL.a (d:=14) rfl rfl rfl (ya y59 rfl rfl) ?_
  refine WL.a (d:=15) rfl rfl rfl (yb y5a rfl (yc .here rfl)) ?_
  refine WL.a (d:=16) rfl rfl rfl (yW Try.underlying24 rfl) ?_
  refine WL.pu rfl (WL.pu rfl ?_)
  exact WL.yu (y25 zp2) rfl rfl .all
 refine WL.pu rfl ?_
 refine WL.seg false 4 19 (B:=((decide (((c_75.fModules.length : Nat) : Int) > 8)) || (decide (((c_75.fSwitches.length : Nat) : Int) > 8))) || (decide (((c_75.fLinks.length : Nat) : Int) > 20))) rfl rfl rfl rfl rfl rfl (fun h=>(y24 h).symm) (fun _ zp3=>?_) ?_
 ·skip
  refine WL.a (d:=20) rfl rfl rfl (ya y6Y rfl rfl) ?_
  refine WL.a (d:=21) rfl rfl rfl (yb y6Z rfl (yc .here rfl)) ?_
  refine WL.a (d:=22) rfl rfl rfl (yW Try.underlying25 rfl) ?_
  refine WL.pu rfl (WL.pu rfl ?_)
  exact WL.yu (y25 zp3) rfl rfl .all
 refine WL.pu rfl ?_
 refine WL.seg false 4 25 (B:=(((decide (((c_75.fModules.length : Nat) : Int) > 8)) || (decide (((c_75.fSwitches.length : Nat) : Int) > 8))) || (decide (((c_75.fLinks.length : Nat) : Int) > 20))) || (decide (((c_75.fVLs.length : Nat) : Int) > 20))) rfl rfl rfl rfl rfl rfl (fun h=>(y24 h).symm) (fun _ zp4=>?_) ?_
 ·skip
  refine WL.a (d:=26) rfl rfl rfl (ya y70 rfl rfl) ?_
  refine WL.a (d:=27) rfl rfl rfl (yb y71 rfl (yc .here rfl)) ?_
  refine WL.a (d:=28) rfl rfl rfl (yW Try.underlying26 rfl) ?_
  refine WL.pu rfl (WL.pu rfl ?_)
  exact WL.yu (y25 zp4) rfl rfl .all
 refine WL.pu rfl ?_
 refine WL.seg false 3 31 (B:=((((decide (((c_75.fModules.length : Nat) : Int) > 8)) || (decide (((c_75.fSwitches.length : Nat) : Int) > 8))) || (decide (((c_75.fLinks.length : Nat) : Int) > 20))) || (decide (((c_75.fVLs.length : Nat) : Int) > 20))) || (decide (((z2b.length : Nat) : Int) > 20))) rfl rfl rfl rfl rfl rfl (fun h=>(y24 h).symm) (fun _ zp5=>?_) ?_
 ·skip
  refine WL.pu rfl ?_
  refine WL.a (d:=33) rfl rfl rfl (yW Try.underlying32 rfl) ?_
  refine WL.pu rfl (WL.pu rfl ?_)
  exact WL.yu (y25 zp5) rfl rfl .all
 refine WL.pu rfl ?_
 refine WL.seg false 8 36 (B:=(((((decide (((c_75.fModules.length : Nat) : Int) > 8)) || (decide (((c_75.fSwitches.length : Nat) : Int) > 8))) || (decide (((c_75.fLinks.length : Nat) : Int) > 20))) || (decide (((c_75.fVLs.length : Nat) : Int) > 20))) || (decide (((z2b.length : Nat) : Int) > 20))) || ((decide (((z4B.length : Nat) : Int) > 40)) && (decide (((z4B.length : Nat) : Int) ≤ 4000)))) rfl rfl rfl rfl rfl rfl (fun h=>(y24 h).symm) (fun _ zp6=>?_) ?_
 ·skip
  refine WL.pu rfl ?_
  refine WL.a (d:=38) rfl rfl rfl (yW Try.underlying33 rfl) ?_
  refine WL.pu rfl (WL.pu rfl ?_)
  refine WL.seg true 3 40 (B:=(decide (((z4B.length : Nat) : Int) > 40)) && (decide (((z4B.length : Nat) : Int) ≤ 4000))) rfl rfl rfl rfl rfl rfl (fun h=>(y2J h).symm) (fun _ zp7=>?_) ?_
  ·skip
   refine WL.pu rfl ?_
   refine WL.a (d:=42) rfl rfl rfl (yW Try.underlying33 rfl) ?_
   refine WL.pu rfl (WL.pu rfl ?_)
   exact WL.yu (y2K zp7) rfl rfl .all
  refine WL.pu rfl ?_
  exact WL.yu (y25 zp6) rfl rfl .all
 refine WL.nil (WX.a ?_)
 refine WC.cond rfl (fun zgE=>?_) (fun zgE=>?_)
 ·replace h:=yl h zgE
  refine WC.b (WC.a (WL.pu rfl (WL.nil (WX.a (WC.ret (WX.yf ?_))))))
  obtain rfl:=Option.some.inj h
  refine WX.yi Try.results10 (.tmp rfl .nil) (fun w hw=>?_)
  exact ⟨y12 rfl,hw.sub .nil⟩
 ·replace h:=ym h zgE
  refine WC.skip (WX.a ?_)
  obtain ⟨z6X,zp8,h⟩:=y2E h
  refine WC.y2u ((z6X = some r)) ([]) ([]) ?_ ?_
  ·skip
   refine WC.b (WC.a (WL.pu rfl ?_))
   refine WL.a (d:=47) rfl rfl rfl (yW Try.underlying32 rfl) ?_
   refine WL.pu rfl (WL.nil (WX.a (WC.block ?_)))
   refine WC.y4a (fun (zai : Nat) (z3C : Int)=>(y2G z2b z6X zai z3C = some r)) (fun (zai : Nat) (z3C : Int)=>[(46,(.slice zcn z2b.length zco)),(47,(.int .i64 ((z2b.length : Nat) : Int))),(48,(.int .i64 z3C))]) (fun (zai : Nat) (z3C : Int)=>[]) (fun (zai : Nat) (z3C : Int)=>zai) ⟨yt,0⟩ h (.cons rfl (.cons rfl (.cons rfl .nil))) .nil ?_
   rintro zai z3C h
   obtain ⟨zgD,rfl⟩:=y6A h
   rw [y2G] at h
   refine WC.b (WC.a (WL.pu rfl (WL.nil (WX.a (WC.b ?_)))))
   refine WC.cond rfl (fun zgF=>?_) (fun zgF=>?_)
   ·replace h:=yl h zgF
    refine WC.skip (WX.a (WC.b (WC.block (WC.b ?_))))
    obtain ⟨zp9,h⟩:=yj h
    refine WC.a ?_
    refine WL.znth (dd:=50) rfl rfl (Z:=Z) (Pr:=(p55 Z)) y5V rfl rfl zp1 zp9 ?_
    rintro zvP zvQ zpa zvR ⟨zvS,zvT,rfl,zvU⟩
    refine WL.a (d:=51) rfl rfl rfl (yb y5W rfl (rd_z hz.pv zpa rfl)) ?_
    refine WL.pu rfl (WL.nil (WX.a (WC.b (WC.a (WL.pu rfl ?_)))))
    refine WL.a (d:=53) rfl rfl rfl (yW Try.underlying55 rfl) ?_
    refine WL.pu rfl (WL.nil (WX.a ?_))
    refine WC.cond rfl (fun zgG=>?_) (fun zgG=>?_)
    ·replace h:=yl h zgG
     refine WC.b (WC.a (WL.pu rfl (WL.nil (WX.a (WC.ret (WX.yz (WX.yf (WX.yf (WX.yz (WX.yf ?_))))))))))
     obtain rfl:=Option.some.inj h
     refine WX.yi Try.results10 (.tmp rfl .nil) (fun w hw=>?_)
     exact ⟨y12 rfl,hw.sub .nil⟩
    ·replace h:=ym h zgG
     refine WC.skip (WX.yh (WX.a (WC.a (WL.pu rfl (WL.pu rfl (WL.nil ?_))))))
     exact WX.round (G:=Nat × Int) ⟨zgD,(i64 (z3C + 1))⟩ h (Nat.lt_succ_self _) (.cons rfl (.cons rfl (.cons rfl .nil))) .nil
   ·replace h:=ym h zgF
    refine WC.exit (WX.yd (WX.yd (WX.yy ?_)))
    exact WX.mid (G:=Unit) () h .nil .nil
  ·rintro  h
   replace h:=zp8.symm.trans h
   refine WC.b (WC.a (WL.pu rfl (WL.nil (WX.a (WC.ret ?_)))))
   obtain rfl:=Option.some.inj h
   refine WX.yi Try.results10 (.tmp rfl .nil) (fun w hw=>?_)
   exact ⟨y12 rfl,hw.sub .nil⟩
def y2x (zZ : Sapi_Config) : Option Int :=
 some (i64 (((zZ.fModules.length : Nat) : Int) + ((zZ.fSwitches.length : Nat) : Int)))
set_option maxRecDepth 20000 in
theorem y4B (Z : Zp) (zcp : Option Addr) (zcq : Nat) (zcr : Option Addr) (zcs : Nat) (zct : Option Addr) (zcu : Nat) (zcv : Option Addr) (zcw : Nat) (zcx : Option Addr) (zcy : Nat) (zcz : Option Addr) (zcA : Nat) (zcB : Option Addr) (zcC : Nat) (zcD : Option Addr) (zcE : Nat) (zZ : Sapi_Config) (r : Int)
  (h : y2x zZ = some r) (w₀ : World) (hz : PZ [] w₀ Z)
  (zvV : ZS Z 4 (y2w Z) zcp zcq zZ.fModules)
  (zvW : ZS Z 4 (y2S Z) zcr zcs zZ.fChannels)
  (zvX : ZS Z 4 (fun r x=>r = e64 x) zct zcu zZ.fSwitches)
  (zvY : ZS Z 4 (fun r x=>r = e62 x) zcv zcw zZ.fLinks)
  (zvZ : ZS Z 7 (y2F Z) zcx zcy zZ.fVLs)
  (zw0 : ZS Z 5 (fun r x=>r = y2Y x) zcz zcA zZ.fHealth)
  (zw1 : ZS Z 3 (y2T Z) zcB zcC zZ.fCauses)
  (zw2 : ZS Z 4 (fun r x=>r = y2Z x) zcD zcE zZ.fVersions) :
  Calls Try.prog 17 #[(.agg #[(.slice zcp zZ.fModules.length zcq),(.slice zcr zZ.fChannels.length zcs),(.slice zct zZ.fSwitches.length zcu),(.slice zcv zZ.fLinks.length zcw),(.slice zcx zZ.fVLs.length zcy),(.slice zcz zZ.fHealth.length zcA),(.slice zcB zZ.fCauses.length zcC),(.slice zcD zZ.fVersions.length zcE)])] w₀ fun e w'=>e = .returned (.int .i64 r) ∧ Hp [] w₀ w' []:=by
 unfold y2x at h
 refine Calls.yo (vs:=[(.agg #[(.slice zcp zZ.fModules.length zcq),(.slice zcr zZ.fChannels.length zcs),(.slice zct zZ.fSwitches.length zcu),(.slice zcv zZ.fLinks.length zcw),(.slice zcx zZ.fVLs.length zcy),(.slice zcz zZ.fHealth.length zcA),(.slice zcB zZ.fCauses.length zcC),(.slice zcD zZ.fVersions.length zcE)])]) (pre:=[]) (env:=[(0,(.agg #[(.slice zcp zZ.fModules.length zcq),(.slice zcr zZ.fChannels.length zcs),(.slice zct zZ.fSwitches.length zcu),(.slice zcv zZ.fLinks.length zcw),(.slice zcx zZ.fVLs.length zcy),(.slice zcz zZ.fHealth.length zcA),(.slice zcB zZ.fCauses.length zcC),(.slice zcD zZ.fVersions.length zcE)]))]) Try.func17 rfl Try.ntmps17 rfl (Hp.nil w₀ _) rfl ?_
 refine WC.b (WC.a ?_)
 refine WL.new (dd:=1) rfl rfl rfl (y2h (cs:=[(.slice zcp zZ.fModules.length zcq),(.slice zcr zZ.fChannels.length zcs),(.slice zct zZ.fSwitches.length zcu),(.slice zcv zZ.fLinks.length zcw),(.slice zcx zZ.fVLs.length zcy),(.slice zcz zZ.fHealth.length zcA),(.slice zcB zZ.fCauses.length zcC),(.slice zcD zZ.fVersions.length zcE)]) rfl rfl) ?_
 intro zw3 _
 refine WL.pu rfl (WL.nil (WX.a (WC.b (WC.a ?_))))
 refine WL.a (d:=3) rfl rfl rfl (ya y3X rfl rfl) ?_
 refine WL.a (d:=4) rfl rfl rfl (yb y3Y rfl (yc .here rfl)) ?_
 refine WL.a (d:=5) rfl rfl rfl (yW Try.underlying22 rfl) ?_
 refine WL.a (d:=6) rfl rfl rfl (ya y59 rfl rfl) ?_
 refine WL.a (d:=7) rfl rfl rfl (yb y5a rfl (yc .here rfl)) ?_
 refine WL.a (d:=8) rfl rfl rfl (yW Try.underlying24 rfl) ?_
 refine WL.pu rfl (WL.pu rfl (WL.nil (WX.a (WC.ret ?_))))
 obtain rfl:=Option.some.inj h
 refine WX.yi Try.results17 (.tmp rfl .nil) (fun w hw=>?_)
 exact ⟨y12 rfl,hw.sub .nil⟩
def y36 (zS : Sapi_Config) (z3O : Int) : Option ByteArray :=
 (if decide (z3O < 0) then some true else (y2x zS).bind fun zkI=>some (decide (z3O ≥ zkI))).bind fun zgH=>if zgH then some ⟨#[]⟩ else if decide (z3O < ((zS.fModules.length : Nat) : Int)) then chk ((0 : Int) ≤ z3O ∧ z3O < ((zS.fModules.length : Nat) : Int)) (some ((nth zS.fModules z3O).fName)) else chk ((0 : Int) ≤ (i64 (z3O - ((zS.fModules.length : Nat) : Int))) ∧ (i64 (z3O - ((zS.fModules.length : Nat) : Int))) < ((zS.fSwitches.length : Nat) : Int)) (some ((nth zS.fSwitches (i64 (z3O - ((zS.fModules.length : Nat) : Int)))).fName))
set_option maxRecDepth 20000 in
theorem y61 (Z : Zp) (zcF : Option Addr) (zcG : Nat) (zcH : Option Addr) (zcI : Nat) (zcJ : Option Addr) (zcK : Nat) (zcL : Option Addr) (zcM : Nat) (zcN : Option Addr) (zcO : Nat) (zcP : Option Addr) (zcQ : Nat) (zcR : Option Addr) (zcS : Nat) (zcT : Option Addr) (zcU : Nat) (zS : Sapi_Config) (z3O : Int) (r : ByteArray)
  (h : y36 zS z3O = some r) (w₀ : World) (hz : PZ [] w₀ Z)
  (zkJ : ZS Z 4 (y2w Z) zcF zcG zS.fModules)
  (zpb : ZS Z 4 (y2S Z) zcH zcI zS.fChannels)
  (zkK : ZS Z 4 (fun r x=>r = e64 x) zcJ zcK zS.fSwitches)
  (zpc : ZS Z 4 (fun r x=>r = e62 x) zcL zcM zS.fLinks)
  (zpd : ZS Z 7 (y2F Z) zcN zcO zS.fVLs)
  (zpe : ZS Z 5 (fun r x=>r = y2Y x) zcP zcQ zS.fHealth)
  (zpf : ZS Z 3 (y2T Z) zcR zcS zS.fCauses)
  (zpg : ZS Z 4 (fun r x=>r = y2Z x) zcT zcU zS.fVersions) :
  Calls Try.prog 18 #[(.agg #[(.slice zcF zS.fModules.length zcG),(.slice zcH zS.fChannels.length zcI),(.slice zcJ zS.fSwitches.length zcK),(.slice zcL zS.fLinks.length zcM),(.slice zcN zS.fVLs.length zcO),(.slice zcP zS.fHealth.length zcQ),(.slice zcR zS.fCauses.length zcS),(.slice zcT zS.fVersions.length zcU)]),(.int .i64 z3O)] w₀ fun e w'=>e = .returned (.string r) ∧ Hp [] w₀ w' []:=by
 unfold y36 at h
 refine Calls.yo (vs:=[(.agg #[(.slice zcF zS.fModules.length zcG),(.slice zcH zS.fChannels.length zcI),(.slice zcJ zS.fSwitches.length zcK),(.slice zcL zS.fLinks.length zcM),(.slice zcN zS.fVLs.length zcO),(.slice zcP zS.fHealth.length zcQ),(.slice zcR zS.fCauses.length zcS),(.slice zcT zS.fVersions.length zcU)]),(.int .i64 z3O)]) (pre:=[]) (env:=[(0,(.agg #[(.slice zcF zS.fModules.length zcG),(.slice zcH zS.fChannels.length zcI),(.slice zcJ zS.fSwitches.length zcK),(.slice zcL zS.fLinks.length zcM),(.slice zcN zS.fVLs.length zcO),(.slice zcP zS.fHealth.length zcQ),(.slice zcR zS.fCauses.length zcS),(.slice zcT zS.fVersions.length zcU)])),(1,(.int .i64 z3O))]) Try.func18 rfl Try.ntmps18 rfl (Hp.nil w₀ _) rfl ?_
 refine WC.b (WC.a ?_)
 refine WL.new (dd:=2) rfl rfl rfl (y2h (cs:=[(.slice zcF zS.fModules.length zcG),(.slice zcH zS.fChannels.length zcI),(.slice zcJ zS.fSwitches.length zcK),(.slice zcL zS.fLinks.length zcM),(.slice zcN zS.fVLs.length zcO),(.slice zcP zS.fHealth.length zcQ),(.slice zcR zS.fCauses.length zcS),(.slice zcT zS.fVersions.length zcU)]) rfl rfl) ?_
 intro zw4 _
 refine WL.pu rfl (WL.nil (WX.a (WC.b (WC.a ?_))))
 refine WL.a (d:=6) rfl rfl rfl (ya y3X rfl rfl) ?_
 refine WL.a (d:=7) rfl rfl rfl (yb y3Y rfl (yc .here rfl)) ?_
 refine WL.a (d:=8) rfl rfl rfl (yW Try.underlying22 rfl) ?_
 refine WL.pu rfl (WL.nil (WX.a (WC.block (WC.b ?_))))
 obtain ⟨zgH,zkL,h⟩:=zn h
 refine WC.a (WL.pu rfl (WL.pu rfl (WL.pu rfl ?_)))
 refine WL.seg false 4 20 (B:=zgH) rfl rfl rfl rfl rfl rfl (fun h=>(Option.some.inj (yl zkL h)).symm) (fun _ zph=>?_) ?_
 ·skip
  have zcV:=ym zkL zph
  obtain ⟨zkI,zpi,zcV⟩:=zn zcV
  replace zcV:=Option.some.inj zcV
  refine WL.pu rfl ?_
  refine WL.a (d:=22) rfl rfl rfl (yN y1L rfl (y1x .here) rfl) ?_
  refine WL.b (dd:=23) rfl rfl rfl (zF (l:=[.tmp 22]) Try.call17 (.cons rfl .nil)) .nil (cc hz .nil fun w pz ho=>y4B _ _ _ _ _ _ _ _ _ _ _ _ _ _ _ _ _ _ _ zpi w pz zkJ zpb zkK zpc zpd zpe zpf zpg) ?_
  refine WL.pu rfl (WL.pu rfl ?_)
  exact WL.yu zcV rfl rfl .all
 refine WL.pu rfl (WL.nil (WX.a ?_))
 refine WC.cond rfl (fun zgI=>?_) (fun zgI=>?_)
 ·replace h:=yl h zgI
  refine WC.b (WC.a (WL.pu rfl (WL.nil (WX.a (WC.ret (WX.yz ?_))))))
  obtain rfl:=Option.some.inj h
  refine WX.yi Try.results18 (.tmp rfl .nil) (fun w hw=>?_)
  exact ⟨y12 rfl,hw.sub .nil⟩
 ·replace h:=ym h zgI
  refine WC.b (WC.a (WL.pu rfl (WL.pu rfl (WL.pu rfl (WL.pu rfl (WL.nil (WX.a ?_)))))))
  refine WC.cond rfl (fun zgJ=>?_) (fun zgJ=>?_)
  ·replace h:=yl h zgJ
   refine WC.b ?_
   obtain ⟨zpj,h⟩:=yj h
   refine WC.a ?_
   refine WL.a (d:=30) rfl rfl rfl (ya y3X rfl rfl) ?_
   refine WL.a (d:=31) rfl rfl rfl (yb y3Y rfl (yc .here rfl)) ?_
   refine WL.pu rfl ?_
   refine WL.znth (dd:=33) rfl rfl (Z:=Z) (Pr:=(y2w Z)) elT_22 rfl rfl zkJ zpj ?_
   rintro zw5 zw6 zpk zw7 ⟨zw8,zw9,rfl,zwa⟩
   refine WL.a (d:=34) rfl rfl rfl (ya fo_104_0 rfl rfl) ?_
   refine WL.a (d:=35) rfl rfl rfl (yb y7B rfl (y21 hz.pv zpk rfl)) ?_
   refine WL.pu rfl (WL.nil (WX.a (WC.ret (WX.yz ?_))))
   obtain rfl:=Option.some.inj h
   refine WX.yi Try.results18 (.tmp rfl .nil) (fun w hw=>?_)
   exact ⟨y12 rfl,hw.sub .nil⟩
  ·replace h:=ym h zgJ
   refine WC.b ?_
   obtain ⟨zpl,h⟩:=yj h
   refine WC.a ?_
   refine WL.a (d:=9) rfl rfl rfl (ya y59 rfl rfl) ?_
   refine WL.a (d:=10) rfl rfl rfl (yb y5a rfl (yc .here rfl)) ?_
   refine WL.pu rfl (WL.pu rfl (WL.pu rfl ?_))
   refine WL.znth (dd:=14) rfl rfl (Z:=Z) (Pr:=(fun r x=>r = e64 x)) y6P rfl rfl zkK zpl ?_
   rintro zwb zwc zpm zwd rfl
   refine WL.a (d:=15) rfl rfl rfl (ya fo_64_0 rfl rfl) ?_
   refine WL.a (d:=16) rfl rfl rfl (yb y7B rfl (y21 hz.pv zpm rfl)) ?_
   refine WL.pu rfl (WL.nil (WX.a (WC.ret (WX.yz ?_))))
   obtain rfl:=Option.some.inj h
   refine WX.yi Try.results18 (.tmp rfl .nil) (fun w hw=>?_)
   exact ⟨y12 rfl,hw.sub .nil⟩
def y1Y (z6Y : Int) (zQ : Sapi_Config) (z42 : ByteArray) (z6Z : Option Int) : Nat → Int → Option Int
 | 0,_=>none
 | zgK + 1,z3P=>if decide (z3P < z6Y) then (y36 zQ z3P).bind fun zkM=>if decide (zkM = z42) then some z3P else y1Y z6Y zQ z42 z6Z zgK (i64 (z3P + 1)) else z6Z
theorem y5K {n : Nat} {z6Y : Int} {zQ : Sapi_Config} {z42 : ByteArray} {z6Z : Option Int} {z3P : Int} {r : Int} (h : y1Y z6Y zQ z42 z6Z n z3P = some r) : ∃ m,n = m + 1:=by
 cases n with
 | zero=>cases h
 | succ m=>exact ⟨m,rfl⟩
def y1V (zQ : Sapi_Config) (z42 : ByteArray) : Option Int :=
 jp0 (some (-1)) fun z6Z=>(y2x zQ).bind fun z6Y=>y1Y z6Y zQ z42 z6Z yt 0
set_option maxRecDepth 20000 in
theorem y62 (Z : Zp) (zaj : Option Addr) (zak : Nat) (zal : Option Addr) (zam : Nat) (zan : Option Addr) (zao : Nat) (zap : Option Addr) (zaq : Nat) (zar : Option Addr) (zas : Nat) (zat : Option Addr) (zau : Nat) (zav : Option Addr) (zaw : Nat) (zax : Option Addr) (zay : Nat) (zQ : Sapi_Config) (z42 : ByteArray) (r : Int)
  (h : y1V zQ z42 = some r) (w₀ : World) (hz : PZ [] w₀ Z)
  (zkN : ZS Z 4 (y2w Z) zaj zak zQ.fModules)
  (zkO : ZS Z 4 (y2S Z) zal zam zQ.fChannels)
  (zkP : ZS Z 4 (fun r x=>r = e64 x) zan zao zQ.fSwitches)
  (zkQ : ZS Z 4 (fun r x=>r = e62 x) zap zaq zQ.fLinks)
  (zkR : ZS Z 7 (y2F Z) zar zas zQ.fVLs)
  (zkS : ZS Z 5 (fun r x=>r = y2Y x) zat zau zQ.fHealth)
  (zkT : ZS Z 3 (y2T Z) zav zaw zQ.fCauses)
  (zkU : ZS Z 4 (fun r x=>r = y2Z x) zax zay zQ.fVersions) :
  Calls Try.prog 59 #[(.agg #[(.slice zaj zQ.fModules.length zak),(.slice zal zQ.fChannels.length zam),(.slice zan zQ.fSwitches.length zao),(.slice zap zQ.fLinks.length zaq),(.slice zar zQ.fVLs.length zas),(.slice zat zQ.fHealth.length zau),(.slice zav zQ.fCauses.length zaw),(.slice zax zQ.fVersions.length zay)]),(.string z42)] w₀ fun e w'=>e = .returned (.int .i64 r) ∧ Hp [] w₀ w' []:=by
 unfold y1V at h
 refine Calls.yo (vs:=[(.agg #[(.slice zaj zQ.fModules.length zak),(.slice zal zQ.fChannels.length zam),(.slice zan zQ.fSwitches.length zao),(.slice zap zQ.fLinks.length zaq),(.slice zar zQ.fVLs.length zas),(.slice zat zQ.fHealth.length zau),(.slice zav zQ.fCauses.length zaw),(.slice zax zQ.fVersions.length zay)]),(.string z42)]) (pre:=[]) (env:=[(0,(.agg #[(.slice zaj zQ.fModules.length zak),(.slice zal zQ.fChannels.length zam),(.slice zan zQ.fSwitches.length zao),(.slice zap zQ.fLinks.length zaq),(.slice zar zQ.fVLs.length zas),(.slice zat zQ.fHealth.length zau),(.slice zav zQ.fCauses.length zaw),(.slice zax zQ.fVersions.length zay)])),(1,(.string z42))]) Try.func59 rfl Try.ntmps59 rfl (Hp.nil w₀ _) rfl ?_
 refine WC.b (WC.a ?_)
 refine WL.new (dd:=2) rfl rfl rfl (y2h (cs:=[(.slice zaj zQ.fModules.length zak),(.slice zal zQ.fChannels.length zam),(.slice zan zQ.fSwitches.length zao),(.slice zap zQ.fLinks.length zaq),(.slice zar zQ.fVLs.length zas),(.slice zat zQ.fHealth.length zau),(.slice zav zQ.fCauses.length zaw),(.slice zax zQ.fVersions.length zay)]) rfl rfl) ?_
 intro zkV _
 refine WL.pu rfl (WL.nil (WX.a ?_))
 obtain ⟨z6Z,zpn,h⟩:=y2E h
 refine WC.y2u ((z6Z = some r)) ([]) ([]) ?_ ?_
 ·skip
  refine WC.b ?_
  obtain ⟨z6Y,zpo,h⟩:=zn h
  refine WC.a ?_
  refine WL.a (d:=6) rfl rfl rfl (yN y1L rfl (y1x .here) rfl) ?_
  refine WL.b (dd:=7) rfl rfl rfl (zF (l:=[.tmp 6]) Try.call17 (.cons rfl .nil)) .nil (cc hz .nil fun w pz ho=>y4B _ _ _ _ _ _ _ _ _ _ _ _ _ _ _ _ _ _ _ zpo w pz zkN zkO zkP zkQ zkR zkS zkT zkU) ?_
  refine WL.pu rfl (WL.nil (WX.a (WC.block ?_)))
  refine WC.y4a (fun (zaz : Nat) (z3P : Int)=>(y1Y z6Y zQ z42 z6Z zaz z3P = some r)) (fun (zaz : Nat) (z3P : Int)=>[(1,(.string z42)),(2,(.pointer (some ⟨zkV,0,none⟩))),(7,(.int .i64 z6Y)),(8,(.int .i64 z3P))]) (fun (zaz : Nat) (z3P : Int)=>[stb zkV 31 [(.slice zaj zQ.fModules.length zak),(.slice zal zQ.fChannels.length zam),(.slice zan zQ.fSwitches.length zao),(.slice zap zQ.fLinks.length zaq),(.slice zar zQ.fVLs.length zas),(.slice zat zQ.fHealth.length zau),(.slice zav zQ.fCauses.length zaw),(.slice zax zQ.fVersions.length zay)]]) (fun (zaz : Nat) (z3P : Int)=>zaz) ⟨yt,0⟩ h (.cons rfl (.cons rfl (.cons rfl (.cons rfl .nil)))) (.cons .here .nil) ?_
  rintro zaz z3P h
  obtain ⟨zgK,rfl⟩:=y5K h
  rw [y1Y] at h
  refine WC.b (WC.a (WL.pu rfl (WL.nil (WX.a (WC.b ?_)))))
  refine WC.cond rfl (fun zgL=>?_) (fun zgL=>?_)
  ·replace h:=yl h zgL
   refine WC.skip (WX.a (WC.b (WC.block (WC.b (WC.a (WL.pu rfl (WL.pu rfl (WL.nil (WX.a (WC.b ?_))))))))))
   obtain ⟨zkM,zpp,h⟩:=zn h
   refine WC.a ?_
   refine WL.a (d:=11) rfl rfl rfl (yN y1L rfl (y1x .here) rfl) ?_
   refine WL.pu rfl ?_
   refine WL.b (dd:=13) rfl rfl rfl (zF (l:=[.tmp 11,.tmp 12]) Try.call18 (.cons rfl (.cons rfl .nil))) .nil (cc hz .nil fun w pz ho=>y61 _ _ _ _ _ _ _ _ _ _ _ _ _ _ _ _ _ _ _ _ zpp w pz zkN zkO zkP zkQ zkR zkS zkT zkU) ?_
   refine WL.pu rfl ?_
   refine WL.a (d:=15) rfl rfl rfl (q_seql rfl rfl) ?_
   refine WL.nil (WX.a ?_)
   refine WC.cond rfl (fun zgM=>?_) (fun zgM=>?_)
   ·replace h:=yl h zgM
    refine WC.b (WC.a (WL.pu rfl (WL.pu rfl (WL.nil (WX.a (WC.ret (WX.yz (WX.yf (WX.yf (WX.yz (WX.yf ?_)))))))))))
    obtain rfl:=Option.some.inj h
    refine WX.yi Try.results59 (.tmp rfl .nil) (fun w hw=>?_)
    exact ⟨y12 rfl,hw.sub .nil⟩
   ·replace h:=ym h zgM
    refine WC.skip (WX.yh (WX.a (WC.a (WL.pu rfl (WL.pu rfl (WL.nil ?_))))))
    exact WX.round (G:=Nat × Int) ⟨zgK,(i64 (z3P + 1))⟩ h (Nat.lt_succ_self _) (.cons rfl (.cons rfl (.cons rfl (.cons rfl .nil)))) (.cons .here .nil)
  ·replace h:=ym h zgL
   refine WC.exit (WX.yd (WX.yd (WX.yy ?_)))
   exact WX.mid (G:=Unit) () h .nil .nil
 ·rintro  h
  replace h:=zpn.symm.trans h
  refine WC.b (WC.a (WL.pu rfl (WL.nil (WX.a (WC.ret ?_)))))
  obtain rfl:=Option.some.inj h
  refine WX.yi Try.results59 (.tmp rfl .nil) (fun w hw=>?_)
  exact ⟨y12 rfl,hw.sub .nil⟩
def y37 (zz : Sapi_Config) (z5K : Int) (z1w : Int) : Option Bool :=
 if decide (z1w < ((zz.fModules.length : Nat) : Int)) then some (decide (z1w ≥ 0)) else chk ((0 : Int) ≤ (i64 (z1w - ((zz.fModules.length : Nat) : Int))) ∧ (i64 (z1w - ((zz.fModules.length : Nat) : Int))) < ((zz.fSwitches.length : Nat) : Int)) (some (((((decide (((nth zz.fSwitches (i64 (z1w - ((zz.fModules.length : Nat) : Int)))).fNet) = z5K)) && (decide (((nth zz.fSwitches (i64 (z1w - ((zz.fModules.length : Nat) : Int)))).fDelay) ≥ 0))) && (decide (((nth zz.fSwitches (i64 (z1w - ((zz.fModules.length : Nat) : Int)))).fDelay) ≤ 1000))) && (decide (((nth zz.fSwitches (i64 (z1w - ((zz.fModules.length : Nat) : Int)))).fStore) ≥ 0))) && (decide (((nth zz.fSwitches (i64 (z1w - ((zz.fModules.length : Nat) : Int)))).fStore) ≤ 1073741824))))
set_option maxRecDepth 20000 in
theorem y63 (Z : Zp) (zcW : Option Addr) (zcX : Nat) (zcY : Option Addr) (zcZ : Nat) (zd0 : Option Addr) (zd1 : Nat) (zd2 : Option Addr) (zd3 : Nat) (zd4 : Option Addr) (zd5 : Nat) (zd6 : Option Addr) (zd7 : Nat) (zd8 : Option Addr) (zd9 : Nat) (zda : Option Addr) (zdb : Nat) (zz : Sapi_Config) (z5K : Int) (z1w : Int) (r : Bool)
  (h : y37 zz z5K z1w = some r) (w₀ : World) (hz : PZ [] w₀ Z)
  (zwe : ZS Z 4 (y2w Z) zcW zcX zz.fModules)
  (zwf : ZS Z 4 (y2S Z) zcY zcZ zz.fChannels)
  (zpq : ZS Z 4 (fun r x=>r = e64 x) zd0 zd1 zz.fSwitches)
  (zwg : ZS Z 4 (fun r x=>r = e62 x) zd2 zd3 zz.fLinks)
  (zwh : ZS Z 7 (y2F Z) zd4 zd5 zz.fVLs)
  (zwi : ZS Z 5 (fun r x=>r = y2Y x) zd6 zd7 zz.fHealth)
  (zwj : ZS Z 3 (y2T Z) zd8 zd9 zz.fCauses)
  (zwk : ZS Z 4 (fun r x=>r = y2Z x) zda zdb zz.fVersions) :
  Calls Try.prog 60 #[(.agg #[(.slice zcW zz.fModules.length zcX),(.slice zcY zz.fChannels.length zcZ),(.slice zd0 zz.fSwitches.length zd1),(.slice zd2 zz.fLinks.length zd3),(.slice zd4 zz.fVLs.length zd5),(.slice zd6 zz.fHealth.length zd7),(.slice zd8 zz.fCauses.length zd9),(.slice zda zz.fVersions.length zdb)]),(.int .i64 z5K),(.int .i64 z1w)] w₀ fun e w'=>e = .returned (.bool r) ∧ Hp [] w₀ w' []:=by
 unfold y37 at h
 refine Calls.yo (vs:=[(.agg #[(.slice zcW zz.fModules.length zcX),(.slice zcY zz.fChannels.length zcZ),(.slice zd0 zz.fSwitches.length zd1),(.slice zd2 zz.fLinks.length zd3),(.slice zd4 zz.fVLs.length zd5),(.slice zd6 zz.fHealth.length zd7),(.slice zd8 zz.fCauses.length zd9),(.slice zda zz.fVersions.length zdb)]),(.int .i64 z5K),(.int .i64 z1w)]) (pre:=[]) (env:=[(0,(.agg #[(.slice zcW zz.fModules.length zcX),(.slice zcY zz.fChannels.length zcZ),(.slice zd0 zz.fSwitches.length zd1),(.slice zd2 zz.fLinks.length zd3),(.slice zd4 zz.fVLs.length zd5),(.slice zd6 zz.fHealth.length zd7),(.slice zd8 zz.fCauses.length zd9),(.slice zda zz.fVersions.length zdb)])),(1,(.int .i64 z5K)),(2,(.int .i64 z1w))]) Try.func60 rfl Try.ntmps60 rfl (Hp.nil w₀ _) rfl ?_
 refine WC.b (WC.a ?_)
 refine WL.new (dd:=3) rfl rfl rfl (y2h (cs:=[(.slice zcW zz.fModules.length zcX),(.slice zcY zz.fChannels.length zcZ),(.slice zd0 zz.fSwitches.length zd1),(.slice zd2 zz.fLinks.length zd3),(.slice zd4 zz.fVLs.length zd5),(.slice zd6 zz.fHealth.length zd7),(.slice zd8 zz.fCauses.length zd9),(.slice zda zz.fVersions.length zdb)]) rfl rfl) ?_
 intro zwl _
 refine WL.pu rfl (WL.nil (WX.a (WC.b (WC.b (WC.a (WL.pu rfl ?_))))))
 refine WL.a (d:=9) rfl rfl rfl (ya y3X rfl rfl) ?_
 refine WL.a (d:=10) rfl rfl rfl (yb y3Y rfl (yc .here rfl)) ?_
 refine WL.a (d:=11) rfl rfl rfl (yW Try.underlying22 rfl) ?_
 refine WL.pu rfl (WL.nil (WX.a ?_))
 refine WC.cond rfl (fun zgN=>?_) (fun zgN=>?_)
 ·replace h:=yl h zgN
  refine WC.b (WC.a (WL.pu rfl (WL.pu rfl (WL.pu rfl (WL.nil (WX.a (WC.ret (WX.yf ?_))))))))
  obtain rfl:=Option.some.inj h
  refine WX.yi Try.results60 (.tmp rfl .nil) (fun w hw=>?_)
  exact ⟨y12 rfl,hw.sub .nil⟩
 ·replace h:=ym h zgN
  refine WC.skip (WX.a (WC.b ?_))
  obtain ⟨zpr,h⟩:=yj h
  refine WC.a ?_
  refine WL.a (d:=15) rfl rfl rfl (ya y59 rfl rfl) ?_
  refine WL.a (d:=16) rfl rfl rfl (yb y5a rfl (yc .here rfl)) ?_
  refine WL.pu rfl ?_
  refine WL.a (d:=18) rfl rfl rfl (ya y3X rfl rfl) ?_
  refine WL.a (d:=19) rfl rfl rfl (yb y3Y rfl (yc .here rfl)) ?_
  refine WL.a (d:=20) rfl rfl rfl (yW Try.underlying22 rfl) ?_
  refine WL.pu rfl ?_
  refine WL.znth (dd:=22) rfl rfl (Z:=Z) (Pr:=(fun r x=>r = e64 x)) y6P rfl rfl zpq zpr ?_
  rintro zwm zwn zps zwo rfl
  refine WL.a (d:=23) rfl rfl rfl (yN aggT_64 rfl (y3u hz.pv zps) rfl) ?_
  refine WL.new (dd:=7) rfl rfl rfl (y2d (cs:=[(.string ⟨#[]⟩),(.int .i64 0),(.int .i64 0),(.int .i64 0)]) zeroT_64 rfl) ?_
  intro zwp _
  refine WL.y1u rfl rfl (y1K sizT_64 rfl rfl rfl .here rfl rfl rfl) ?_
  refine WL.nil (WX.a (WC.b (WC.a ?_)))
  refine WL.a (d:=24) rfl rfl rfl (ya fo_64_1 rfl rfl) ?_
  refine WL.a (d:=25) rfl rfl rfl (yb yg rfl (yc .here rfl)) ?_
  refine WL.pu rfl (WL.pu rfl (WL.pu rfl ?_))
  refine WL.seg true 3 28 (B:=(decide (((nth zz.fSwitches (i64 (z1w - ((zz.fModules.length : Nat) : Int)))).fNet) = z5K)) && (decide (((nth zz.fSwitches (i64 (z1w - ((zz.fModules.length : Nat) : Int)))).fDelay) ≥ 0))) rfl rfl rfl rfl rfl rfl (fun h=>(y2J h).symm) (fun _ zpt=>?_) ?_
  ·skip
   refine WL.a (d:=29) rfl rfl rfl (ya y7V rfl rfl) ?_
   refine WL.a (d:=30) rfl rfl rfl (yb yg rfl (yc .here rfl)) ?_
   refine WL.pu rfl (WL.pu rfl ?_)
   exact WL.yu (y2K zpt) rfl rfl .all
  refine WL.pu rfl ?_
  refine WL.seg true 3 33 (B:=((decide (((nth zz.fSwitches (i64 (z1w - ((zz.fModules.length : Nat) : Int)))).fNet) = z5K)) && (decide (((nth zz.fSwitches (i64 (z1w - ((zz.fModules.length : Nat) : Int)))).fDelay) ≥ 0))) && (decide (((nth zz.fSwitches (i64 (z1w - ((zz.fModules.length : Nat) : Int)))).fDelay) ≤ 1000))) rfl rfl rfl rfl rfl rfl (fun h=>(y2J h).symm) (fun _ zpu=>?_) ?_
  ·skip
   refine WL.a (d:=34) rfl rfl rfl (ya y7V rfl rfl) ?_
   refine WL.a (d:=35) rfl rfl rfl (yb yg rfl (yc .here rfl)) ?_
   refine WL.pu rfl (WL.pu rfl ?_)
   exact WL.yu (y2K zpu) rfl rfl .all
  refine WL.pu rfl ?_
  refine WL.seg true 3 38 (B:=(((decide (((nth zz.fSwitches (i64 (z1w - ((zz.fModules.length : Nat) : Int)))).fNet) = z5K)) && (decide (((nth zz.fSwitches (i64 (z1w - ((zz.fModules.length : Nat) : Int)))).fDelay) ≥ 0))) && (decide (((nth zz.fSwitches (i64 (z1w - ((zz.fModules.length : Nat) : Int)))).fDelay) ≤ 1000))) && (decide (((nth zz.fSwitches (i64 (z1w - ((zz.fModules.length : Nat) : Int)))).fStore) ≥ 0))) rfl rfl rfl rfl rfl rfl (fun h=>(y2J h).symm) (fun _ zpv=>?_) ?_
  ·skip
   refine WL.a (d:=39) rfl rfl rfl (ya y7W rfl rfl) ?_
   refine WL.a (d:=40) rfl rfl rfl (yb yg rfl (yc .here rfl)) ?_
   refine WL.pu rfl (WL.pu rfl ?_)
   exact WL.yu (y2K zpv) rfl rfl .all
  refine WL.pu rfl ?_
  refine WL.seg true 3 43 (B:=((((decide (((nth zz.fSwitches (i64 (z1w - ((zz.fModules.length : Nat) : Int)))).fNet) = z5K)) && (decide (((nth zz.fSwitches (i64 (z1w - ((zz.fModules.length : Nat) : Int)))).fDelay) ≥ 0))) && (decide (((nth zz.fSwitches (i64 (z1w - ((zz.fModules.length : Nat) : Int)))).fDelay) ≤ 1000))) && (decide (((nth zz.fSwitches (i64 (z1w - ((zz.fModules.length : Nat) : Int)))).fStore) ≥ 0))) && (decide (((nth zz.fSwitches (i64 (z1w - ((zz.fModules.length : Nat) : Int)))).fStore) ≤ 1073741824))) rfl rfl rfl rfl rfl rfl (fun h=>(y2J h).symm) (fun _ zpw=>?_) ?_
  ·skip
   refine WL.a (d:=44) rfl rfl rfl (ya y7W rfl rfl) ?_
   refine WL.a (d:=45) rfl rfl rfl (yb yg rfl (yc .here rfl)) ?_
   refine WL.pu rfl (WL.pu rfl ?_)
   exact WL.yu (y2K zpw) rfl rfl .all
  refine WL.pu rfl (WL.nil (WX.a (WC.ret ?_)))
  obtain rfl:=Option.some.inj h
  refine WX.yi Try.results60 (.tmp rfl .nil) (fun w hw=>?_)
  exact ⟨y12 rfl,hw.sub .nil⟩
def y3p (zL : Sapi_Config) (z5g : Int) (z1L : Int) (z43 : Int) (z44 : Int) : Option Bool :=
 if (decide (z1L < 0)) || (decide (z1L ≥ ((zL.fLinks.length : Nat) : Int))) then some false else chk ((0 : Int) ≤ z1L ∧ z1L < ((zL.fLinks.length : Nat) : Int)) ((y1V zL ((nth zL.fLinks z1L).fA)).bind fun z4C=>(y1V zL ((nth zL.fLinks z1L).fB)).bind fun z4D=>(if (((decide (((nth zL.fLinks z1L).fNet) = z5g)) && (decide (((nth zL.fLinks z1L).fSlow) ≥ 1))) && (decide (((nth zL.fLinks z1L).fSlow) ≤ 16))) && (decide (z4C ≠ z4D)) then (y37 zL z5g z4C).bind fun zkW=>some zkW else some false).bind fun zgO=>(if zgO then (y37 zL z5g z4D).bind fun zkX=>some zkX else some false).bind fun zeN=>some (zeN && (((decide (z4C = z43)) && (decide (z4D = z44))) || ((decide (z4C = z44)) && (decide (z4D = z43))))))
set_option maxRecDepth 20000 in
theorem y7C (Z : Zp) (zdc : Option Addr) (zdd : Nat) (zde : Option Addr) (zdf : Nat) (zdg : Option Addr) (zdh : Nat) (zdi : Option Addr) (zdj : Nat) (zdk : Option Addr) (zdl : Nat) (zdm : Option Addr) (zdn : Nat) (zdo : Option Addr) (zdp : Nat) (zdq : Option Addr) (zdr : Nat) (zL : Sapi_Config) (z5g : Int) (z1L : Int) (z43 : Int) (z44 : Int) (r : Bool)
  (h : y3p zL z5g z1L z43 z44 = some r) (w₀ : World) (hz : PZ [] w₀ Z)
  (zeO : ZS Z 4 (y2w Z) zdc zdd zL.fModules)
  (zeP : ZS Z 4 (y2S Z) zde zdf zL.fChannels)
  (zeQ : ZS Z 4 (fun r x=>r = e64 x) zdg zdh zL.fSwitches)
  (zds : ZS Z 4 (fun r x=>r = e62 x) zdi zdj zL.fLinks)
  (zeR : ZS Z 7 (y2F Z) zdk zdl zL.fVLs)
  (zeS : ZS Z 5 (fun r x=>r = y2Y x) zdm zdn zL.fHealth)
  (zeT : ZS Z 3 (y2T Z) zdo zdp zL.fCauses)
  (zeU : ZS Z 4 (fun r x=>r = y2Z x) zdq zdr zL.fVersions) :
  Calls Try.prog 48 #[(.agg #[(.slice zdc zL.fModules.length zdd),(.slice zde zL.fChannels.length zdf),(.slice zdg zL.fSwitches.length zdh),(.slice zdi zL.fLinks.length zdj),(.slice zdk zL.fVLs.length zdl),(.slice zdm zL.fHealth.length zdn),(.slice zdo zL.fCauses.length zdp),(.slice zdq zL.fVersions.length zdr)]),(.int .i64 z5g),(.int .i64 z1L),(.int .i64 z43),(.int .i64 z44)] w₀ fun e w'=>e = .returned (.bool r) ∧ Hp [] w₀ w' []:=by
 unfold y3p at h
 refine Calls.yo (vs:=[(.agg #[(.slice zdc zL.fModules.length zdd),(.slice zde zL.fChannels.length zdf),(.slice zdg zL.fSwitches.length zdh),(.slice zdi zL.fLinks.length zdj),(.slice zdk zL.fVLs.length zdl),(.slice zdm zL.fHealth.length zdn),(.slice zdo zL.fCauses.length zdp),(.slice zdq zL.fVersions.length zdr)]),(.int .i64 z5g),(.int .i64 z1L),(.int .i64 z43),(.int .i64 z44)]) (pre:=[]) (env:=[(0,(.agg #[(.slice zdc zL.fModules.length zdd),(.slice zde zL.fChannels.length zdf),(.slice zdg zL.fSwitches.length zdh),(.slice zdi zL.fLinks.length zdj),(.slice zdk zL.fVLs.length zdl),(.slice zdm zL.fHealth.length zdn),(.slice zdo zL.fCauses.length zdp),(.slice zdq zL.fVersions.length zdr)])),(1,(.int .i64 z5g)),(2,(.int .i64 z1L)),(3,(.int .i64 z43)),(4,(.int .i64 z44))]) Try.func48 rfl Try.ntmps48 rfl (Hp.nil w₀ _) rfl ?_
 refine WC.b (WC.a ?_)
 refine WL.new (dd:=5) rfl rfl rfl (y2h (cs:=[(.slice zdc zL.fModules.length zdd),(.slice zde zL.fChannels.length zdf),(.slice zdg zL.fSwitches.length zdh),(.slice zdi zL.fLinks.length zdj),(.slice zdk zL.fVLs.length zdl),(.slice zdm zL.fHealth.length zdn),(.slice zdo zL.fCauses.length zdp),(.slice zdq zL.fVersions.length zdr)]) rfl rfl) ?_
 intro zwq _
 refine WL.pu rfl (WL.nil (WX.a (WC.b (WC.b (WC.a (WL.pu rfl (WL.pu rfl (WL.pu rfl ?_))))))))
 refine WL.seg false 5 16 (B:=(decide (z1L < 0)) || (decide (z1L ≥ ((zL.fLinks.length : Nat) : Int)))) rfl rfl rfl rfl rfl rfl (fun h=>(y24 h).symm) (fun _ zpx=>?_) ?_
 ·skip
  refine WL.pu rfl ?_
  refine WL.a (d:=18) rfl rfl rfl (ya y6Y rfl rfl) ?_
  refine WL.a (d:=19) rfl rfl rfl (yb y6Z rfl (yc .here rfl)) ?_
  refine WL.a (d:=20) rfl rfl rfl (yW Try.underlying25 rfl) ?_
  refine WL.pu rfl (WL.pu rfl ?_)
  exact WL.yu (y25 zpx) rfl rfl .all
 refine WL.nil (WX.a ?_)
 refine WC.cond rfl (fun zgP=>?_) (fun zgP=>?_)
 ·replace h:=yl h zgP
  refine WC.b (WC.a (WL.pu rfl (WL.nil (WX.a (WC.ret (WX.yf ?_))))))
  obtain rfl:=Option.some.inj h
  refine WX.yi Try.results48 (.tmp rfl .nil) (fun w hw=>?_)
  exact ⟨y12 rfl,hw.sub .nil⟩
 ·replace h:=ym h zgP
  refine WC.skip (WX.a (WC.b ?_))
  obtain ⟨zpy,h⟩:=yj h
  refine WC.a ?_
  refine WL.a (d:=23) rfl rfl rfl (ya y6Y rfl rfl) ?_
  refine WL.a (d:=24) rfl rfl rfl (yb y6Z rfl (yc .here rfl)) ?_
  refine WL.pu rfl ?_
  refine WL.znth (dd:=26) rfl rfl (Z:=Z) (Pr:=(fun r x=>r = e62 x)) y8P rfl rfl zds zpy ?_
  rintro zwr zws zpz zwt rfl
  refine WL.a (d:=27) rfl rfl rfl (yN aggT_62 rfl (y3u hz.pv zpz) rfl) ?_
  refine WL.new (dd:=11) rfl rfl rfl (y2d (cs:=[(.string ⟨#[]⟩),(.string ⟨#[]⟩),(.int .i64 0),(.int .i64 0)]) zeroT_62 rfl) ?_
  intro zwu _
  refine WL.y1u rfl rfl (y1K sizT_62 rfl rfl rfl .here rfl rfl rfl) ?_
  refine WL.nil (WX.a (WC.b ?_))
  obtain ⟨z4C,zpA,h⟩:=zn h
  obtain ⟨z4D,zpB,h⟩:=zn h
  refine WC.yY (fun i=>[].contains i) [] rfl ?_
  refine WD.e (i:=0) (d:=28) (by kernel_rfl) rfl (z2 (by kernel_rfl)) (z3 (by kernel_rfl)) rfl rfl rfl (yN y1L rfl (y1x .h1) rfl) ?_
  refine WD.a (i:=1) (d:=29) (by kernel_rfl) rfl (z2 (by kernel_rfl)) (z3 (by kernel_rfl)) rfl rfl rfl (fun _=>ya fo_62_0 rfl rfl) ?_
  refine WD.e (i:=2) (d:=30) (by kernel_rfl) rfl (z2 (by kernel_rfl)) (z3 (by kernel_rfl)) rfl rfl rfl (yb y7B rfl (yc .here rfl)) ?_
  refine WD.c (i:=3) (d:=31) (by kernel_rfl) rfl (z2 (by kernel_rfl)) (z3 (by kernel_rfl)) rfl rfl rfl (zF (l:=[.tmp 28,.tmp 30]) Try.call59 (.cons rfl (.cons rfl .nil))) (cc hz .nil fun w pz ho=>y62 _ _ _ _ _ _ _ _ _ _ _ _ _ _ _ _ _ _ _ _ zpA w pz zeO zeP zeQ zds zeR zeS zeT zeU) ?_
  refine WD.e (i:=4) (d:=32) (by kernel_rfl) rfl (z2 (by kernel_rfl)) (z3 (by kernel_rfl)) rfl rfl rfl (yN y1L rfl (y1x .h1) rfl) ?_
  refine WD.a (i:=5) (d:=33) (by kernel_rfl) rfl (z2 (by kernel_rfl)) (z3 (by kernel_rfl)) rfl rfl rfl (fun _=>ya fo_62_1 rfl rfl) ?_
  refine WD.e (i:=6) (d:=34) (by kernel_rfl) rfl (z2 (by kernel_rfl)) (z3 (by kernel_rfl)) rfl rfl rfl (yb y7B rfl (yc .here rfl)) ?_
  refine WD.c (i:=7) (d:=35) (by kernel_rfl) rfl (z2 (by kernel_rfl)) (z3 (by kernel_rfl)) rfl rfl rfl (zF (l:=[.tmp 32,.tmp 34]) Try.call59 (.cons rfl (.cons rfl .nil))) (cc hz .nil fun w pz ho=>y62 _ _ _ _ _ _ _ _ _ _ _ _ _ _ _ _ _ _ _ _ zpB w pz zeO zeP zeQ zds zeR zeS zeT zeU) ?_
  refine WD.a (i:=8) (d:=12) (by kernel_rfl) rfl (z2 (by kernel_rfl)) (z3 (by kernel_rfl)) rfl rfl rfl (fun _=>q_z rfl) ?_
  refine WD.a (i:=9) (d:=13) (by kernel_rfl) rfl (z2 (by kernel_rfl)) (z3 (by kernel_rfl)) rfl rfl rfl (fun _=>q_z rfl) ?_
  refine WD.done (by kernel_rfl) ?_
  refine WX.a (WC.b ?_)
  obtain ⟨zgO,zkY,h⟩:=zn h
  obtain ⟨zeN,zkZ,h⟩:=zn h
  refine WC.a ?_
  refine WL.a (d:=36) rfl rfl rfl (ya fo_62_2 rfl rfl) ?_
  refine WL.a (d:=37) rfl rfl rfl (yb yg rfl (yc .here rfl)) ?_
  refine WL.pu rfl (WL.pu rfl (WL.pu rfl ?_))
  refine WL.seg true 3 40 (B:=(decide (((nth zL.fLinks z1L).fNet) = z5g)) && (decide (((nth zL.fLinks z1L).fSlow) ≥ 1))) rfl rfl rfl rfl rfl rfl (fun h=>(y2J h).symm) (fun _ zpC=>?_) ?_
  ·skip
   refine WL.a (d:=41) rfl rfl rfl (ya y7U rfl rfl) ?_
   refine WL.a (d:=42) rfl rfl rfl (yb yg rfl (yc .here rfl)) ?_
   refine WL.pu rfl (WL.pu rfl ?_)
   exact WL.yu (y2K zpC) rfl rfl .all
  refine WL.pu rfl ?_
  refine WL.seg true 3 45 (B:=((decide (((nth zL.fLinks z1L).fNet) = z5g)) && (decide (((nth zL.fLinks z1L).fSlow) ≥ 1))) && (decide (((nth zL.fLinks z1L).fSlow) ≤ 16))) rfl rfl rfl rfl rfl rfl (fun h=>(y2J h).symm) (fun _ zpD=>?_) ?_
  ·skip
   refine WL.a (d:=46) rfl rfl rfl (ya y7U rfl rfl) ?_
   refine WL.a (d:=47) rfl rfl rfl (yb yg rfl (yc .here rfl)) ?_
   refine WL.pu rfl (WL.pu rfl ?_)
   exact WL.yu (y2K zpD) rfl rfl .all
  refine WL.pu rfl ?_
  refine WL.seg true 3 50 (B:=(((decide (((nth zL.fLinks z1L).fNet) = z5g)) && (decide (((nth zL.fLinks z1L).fSlow) ≥ 1))) && (decide (((nth zL.fLinks z1L).fSlow) ≤ 16))) && (decide (z4C ≠ z4D))) rfl rfl rfl rfl rfl rfl (fun h=>(y2J h).symm) (fun _ zpE=>?_) ?_
  ·skip
   refine WL.pu rfl (WL.pu rfl (WL.pu rfl (WL.pu rfl ?_)))
   exact WL.yu (y2K zpE) rfl rfl .all
  refine WL.pu rfl ?_
  refine WL.seg true 4 55 (B:=zgO) rfl rfl rfl rfl rfl rfl (fun h=>(Option.some.inj (ym zkY h)).symm) (fun _ zpF=>?_) ?_
  ·skip
   have zdt:=yl zkY zpF
   obtain ⟨zkW,zpG,zdt⟩:=zn zdt
   replace zdt:=Option.some.inj zdt
   refine WL.a (d:=56) rfl rfl rfl (yN y1L rfl (y1x .h1) rfl) ?_
   refine WL.pu rfl (WL.pu rfl ?_)
   refine WL.b (dd:=59) rfl rfl rfl (zF (l:=[.tmp 56,.tmp 57,.tmp 58]) Try.call60 (.cons rfl (.cons rfl (.cons rfl .nil)))) .nil (cc hz .nil fun w pz ho=>y63 _ _ _ _ _ _ _ _ _ _ _ _ _ _ _ _ _ _ _ _ _ zpG w pz zeO zeP zeQ zds zeR zeS zeT zeU) ?_
   refine WL.pu rfl ?_
   exact WL.yu zdt rfl rfl .all
  refine WL.pu rfl ?_
  refine WL.seg true 4 61 (B:=zeN) rfl rfl rfl rfl rfl rfl (fun h=>(Option.some.inj (ym zkZ h)).symm) (fun _ zpH=>?_) ?_
  ·skip
   have zdu:=yl zkZ zpH
   obtain ⟨zkX,zpI,zdu⟩:=zn zdu
   replace zdu:=Option.some.inj zdu
   refine WL.a (d:=62) rfl rfl rfl (yN y1L rfl (y1x .h1) rfl) ?_
   refine WL.pu rfl (WL.pu rfl ?_)
   refine WL.b (dd:=65) rfl rfl rfl (zF (l:=[.tmp 62,.tmp 63,.tmp 64]) Try.call60 (.cons rfl (.cons rfl (.cons rfl .nil)))) .nil (cc hz .nil fun w pz ho=>y63 _ _ _ _ _ _ _ _ _ _ _ _ _ _ _ _ _ _ _ _ _ zpI w pz zeO zeP zeQ zds zeR zeS zeT zeU) ?_
   refine WL.pu rfl ?_
   exact WL.yu zdu rfl rfl .all
  refine WL.pu rfl ?_
  refine WL.seg true 18 67 (B:=zeN && (((decide (z4C = z43)) && (decide (z4D = z44))) || ((decide (z4C = z44)) && (decide (z4D = z43))))) rfl rfl rfl rfl rfl rfl (fun h=>(y2J h).symm) (fun _ zpJ=>?_) ?_
  ·skip
   refine WL.pu rfl (WL.pu rfl (WL.pu rfl (WL.pu rfl ?_)))
   refine WL.seg true 3 71 (B:=(decide (z4C = z43)) && (decide (z4D = z44))) rfl rfl rfl rfl rfl rfl (fun h=>(y2J h).symm) (fun _ zpK=>?_) ?_
   ·skip
    refine WL.pu rfl (WL.pu rfl (WL.pu rfl (WL.pu rfl ?_)))
    exact WL.yu (y2K zpK) rfl rfl .all
   refine WL.pu rfl ?_
   refine WL.seg false 8 76 (B:=((decide (z4C = z43)) && (decide (z4D = z44))) || ((decide (z4C = z44)) && (decide (z4D = z43)))) rfl rfl rfl rfl rfl rfl (fun h=>(y24 h).symm) (fun _ zpL=>?_) ?_
   ·skip
    refine WL.pu rfl (WL.pu rfl (WL.pu rfl (WL.pu rfl ?_)))
    refine WL.seg true 3 80 (B:=(decide (z4C = z44)) && (decide (z4D = z43))) rfl rfl rfl rfl rfl rfl (fun h=>(y2J h).symm) (fun _ zpM=>?_) ?_
    ·skip
     refine WL.pu rfl (WL.pu rfl (WL.pu rfl (WL.pu rfl ?_)))
     exact WL.yu (y2K zpM) rfl rfl .all
    refine WL.pu rfl ?_
    exact WL.yu (y25 zpL) rfl rfl .all
   refine WL.pu rfl ?_
   exact WL.yu (y2K zpJ) rfl rfl .all
  refine WL.pu rfl (WL.nil (WX.a (WC.ret ?_)))
  obtain rfl:=Option.some.inj h
  refine WX.yi Try.results48 (.tmp rfl .nil) (fun w hw=>?_)
  exact ⟨y12 rfl,hw.sub .nil⟩
def y1O (zp : List Sapi_Hop) (zE : Sapi_Config) (z2k : Int) (z70 : Option Bool) : Nat → Int → (List (Int × Int)) → Option Bool
 | 0,_,_=>none
 | zgQ + 1,zy,z3m=>if decide (zy < ((zp.length : Nat) : Int)) then chk ((0 : Int) ≤ zy ∧ zy < ((zp.length : Nat) : Int)) (jp1 (fun (z1o : List (Int × Int))=>chk (((decide ((yk z1o ((nth zp zy).fNode) 0) = 0)) || (decide ((yk z1o ((nth zp zy).fNext) 0) > 0))) = false → ((decide (zy > 0)) = true → ((0 : Int) ≤ 0 ∧ 0 < ((zp.length : Nat) : Int)))) ((if ((decide ((yk z1o ((nth zp zy).fNode) 0) = 0)) || (decide ((yk z1o ((nth zp zy).fNext) 0) > 0))) || (((decide (zy > 0)) && (decide (((nth zp zy).fNode) ≠ ((nth zp 0).fNode)))) && (decide (((nth zp zy).fNode) < ((zE.fModules.length : Nat) : Int)))) then some true else (y3p zE z2k ((nth zp zy).fLink) ((nth zp zy).fNode) ((nth zp zy).fNext)).bind fun zl0=>some (!zl0)).bind fun zgR=>if zgR then some false else y1O zp zE z2k z70 zgQ (i64 (zy + 1)) (yI z1o ((nth zp zy).fNext) (i64 ((yk z1o ((nth zp zy).fNext) 0) + 1))))) fun zeV=>if decide (zy = 0) then zeV (yI z3m ((nth zp zy).fNode) (i64 ((yk z3m ((nth zp zy).fNode) 0) + 1))) else zeV z3m) else z70
theorem y5w {n : Nat} {zp : List Sapi_Hop} {zE : Sapi_Config} {z2k : Int} {z70 : Option Bool} {zy : Int} {z3m : List (Int × Int)} {r : Bool} (h : y1O zp zE z2k z70 n zy z3m = some r) : ∃ m,n = m + 1:=by
 cases n with
 | zero=>cases h
 | succ m=>exact ⟨m,rfl⟩
def y3q (zE : Sapi_Config) (z2k : Int) (zp : List Sapi_Hop) : Option Bool :=
 jp0 (some (decide (((zp.length : Nat) : Int) ≤ 32))) fun z70=>y1O zp zE z2k z70 yt 0 ([] : List (Int × Int))
set_option maxRecDepth 20000 in
theorem y7D (Z : Zp) (z8H : Option Addr) (z8I : Nat) (z8J : Option Addr) (z8K : Nat) (z8L : Option Addr) (z8M : Nat) (z8N : Option Addr) (z8O : Nat) (z8P : Option Addr) (z8Q : Nat) (z8R : Option Addr) (z8S : Nat) (z8T : Option Addr) (z8U : Nat) (z8V : Option Addr) (z8W : Nat) (z2l : Option Addr) (z2m : Nat) (zE : Sapi_Config) (z2k : Int) (zp : List Sapi_Hop) (r : Bool)
  (h : y3q zE z2k zp = some r) (w₀ : World) (hz : PZ [] w₀ Z)
  (zpN : ZS Z 4 (y2w Z) z8H z8I zE.fModules)
  (zpO : ZS Z 4 (y2S Z) z8J z8K zE.fChannels)
  (zpP : ZS Z 4 (fun r x=>r = e64 x) z8L z8M zE.fSwitches)
  (zpQ : ZS Z 4 (fun r x=>r = e62 x) z8N z8O zE.fLinks)
  (zpR : ZS Z 7 (y2F Z) z8P z8Q zE.fVLs)
  (zpS : ZS Z 5 (fun r x=>r = y2Y x) z8R z8S zE.fHealth)
  (zpT : ZS Z 3 (y2T Z) z8T z8U zE.fCauses)
  (zpU : ZS Z 4 (fun r x=>r = y2Z x) z8V z8W zE.fVersions)
  (zl1 : ZS Z 3 (fun r x=>r = e59 x) z2l z2m zp) :
  Calls Try.prog 36 #[(.agg #[(.slice z8H zE.fModules.length z8I),(.slice z8J zE.fChannels.length z8K),(.slice z8L zE.fSwitches.length z8M),(.slice z8N zE.fLinks.length z8O),(.slice z8P zE.fVLs.length z8Q),(.slice z8R zE.fHealth.length z8S),(.slice z8T zE.fCauses.length z8U),(.slice z8V zE.fVersions.length z8W)]),(.int .i64 z2k),(.slice z2l zp.length z2m)] w₀ fun e w'=>e = .returned (.bool r) ∧ Hp [] w₀ w' []:=by
 unfold y3q at h
 refine Calls.yo (vs:=[(.agg #[(.slice z8H zE.fModules.length z8I),(.slice z8J zE.fChannels.length z8K),(.slice z8L zE.fSwitches.length z8M),(.slice z8N zE.fLinks.length z8O),(.slice z8P zE.fVLs.length z8Q),(.slice z8R zE.fHealth.length z8S),(.slice z8T zE.fCauses.length z8U),(.slice z8V zE.fVersions.length z8W)]),(.int .i64 z2k),(.slice z2l zp.length z2m)]) (pre:=[]) (env:=[(0,(.agg #[(.slice z8H zE.fModules.length z8I),(.slice z8J zE.fChannels.length z8K),(.slice z8L zE.fSwitches.length z8M),(.slice z8N zE.fLinks.length z8O),(.slice z8P zE.fVLs.length z8Q),(.slice z8R zE.fHealth.length z8S),(.slice z8T zE.fCauses.length z8U),(.slice z8V zE.fVersions.length z8W)])),(1,(.int .i64 z2k)),(2,(.slice z2l zp.length z2m))]) Try.func36 rfl Try.ntmps36 rfl (Hp.nil w₀ _) rfl ?_
 refine WC.b (WC.a ?_)
 refine WL.new (dd:=3) rfl rfl rfl (y2h (cs:=[(.slice z8H zE.fModules.length z8I),(.slice z8J zE.fChannels.length z8K),(.slice z8L zE.fSwitches.length z8M),(.slice z8N zE.fLinks.length z8O),(.slice z8P zE.fVLs.length z8Q),(.slice z8R zE.fHealth.length z8S),(.slice z8T zE.fCauses.length z8U),(.slice z8V zE.fVersions.length z8W)]) rfl rfl) ?_
 intro z71 _
 refine WL.pu rfl (WL.nil (WX.a (WC.b (WC.a ?_))))
 refine WL.new (dd:=10) rfl rfl rfl (y5C (Value.int .i64) (Value.int .i64)) ?_
 intro z72 _
 refine WL.pu rfl (WL.nil (WX.a ?_))
 obtain ⟨z70,zpV,h⟩:=y2E h
 refine WC.y2u ((z70 = some r)) ([(2,(.slice z2l zp.length z2m))]) ([]) ?_ ?_
 ·skip
  refine WC.b (WC.a (WL.pu rfl ?_))
  refine WL.a (d:=12) rfl rfl rfl (yW Try.underlying55 rfl) ?_
  refine WL.pu rfl (WL.nil (WX.a (WC.block ?_)))
  refine WC.y26 (fun (zaA : Nat) (zy : Int) (z3m : List (Int × Int))=>(y1O zp zE z2k z70 zaA zy z3m = some r)) (fun (zaA : Nat) (zy : Int) (z3m : List (Int × Int))=>[(1,(.int .i64 z2k)),(2,(.slice z2l zp.length z2m)),(3,(.pointer (some ⟨z71,0,none⟩))),(7,(.map (some z72))),(11,(.slice z2l zp.length z2m)),(12,(.int .i64 ((zp.length : Nat) : Int))),(13,(.int .i64 zy))]) (fun (zaA : Nat) (zy : Int) (z3m : List (Int × Int))=>[stb z71 31 [(.slice z8H zE.fModules.length z8I),(.slice z8J zE.fChannels.length z8K),(.slice z8L zE.fSwitches.length z8M),(.slice z8N zE.fLinks.length z8O),(.slice z8P zE.fVLs.length z8Q),(.slice z8R zE.fHealth.length z8S),(.slice z8T zE.fCauses.length z8U),(.slice z8V zE.fVersions.length z8W)],yF z72 (Value.int .i64) (Value.int .i64) z3m]) (fun (zaA : Nat) (zy : Int) (z3m : List (Int × Int))=>zaA) ⟨yt,0,([] : List (Int × Int))⟩ h (.cons rfl (.cons rfl (.cons rfl (.cons rfl (.cons rfl (.cons rfl (.cons rfl .nil))))))) (.cons .h1 (.cons .here .nil)) ?_
  rintro zaA zy z3m h
  obtain ⟨zgQ,rfl⟩:=y5w h
  rw [y1O] at h
  refine WC.b (WC.a (WL.pu rfl (WL.nil (WX.a (WC.b ?_)))))
  refine WC.cond rfl (fun zgS=>?_) (fun zgS=>?_)
  ·replace h:=yl h zgS
   refine WC.skip (WX.a (WC.b (WC.block (WC.b ?_))))
   obtain ⟨zpW,h⟩:=yj h
   refine WC.a (WL.pu rfl ?_)
   refine WL.znth (dd:=16) rfl rfl (Z:=Z) (Pr:=(fun r x=>r = e59 x)) y4X rfl rfl zl1 zpW ?_
   rintro zwv zww zpX zwx rfl
   refine WL.a (d:=17) rfl rfl rfl (yN y5X rfl (y3u hz.pv zpX) rfl) ?_
   refine WL.new (dd:=9) rfl rfl rfl (y2d (cs:=[(.int .i64 0),(.int .i64 0),(.int .i64 0)]) y7h rfl) ?_
   intro z8X _
   refine WL.pu rfl ?_
   refine WL.y1u rfl rfl (y1K y7T rfl rfl rfl .here rfl rfl rfl) ?_
   refine WL.nil (WX.a ?_)
   obtain ⟨zeV,zpY,h⟩:=yZ h
   refine WC.y1l (fun (z1o : List (Int × Int))=>(zeV z1o = some r)) (fun (z1o : List (Int × Int))=>[(1,(.int .i64 z2k)),(2,(.slice z2l zp.length z2m)),(3,(.pointer (some ⟨z71,0,none⟩))),(7,(.map (some z72))),(8,(.int .i64 zy)),(9,(.pointer (some ⟨z8X,0,none⟩))),(11,(.slice z2l zp.length z2m)),(12,(.int .i64 ((zp.length : Nat) : Int))),(13,(.int .i64 zy))]) (fun (z1o : List (Int × Int))=>[stb z71 31 [(.slice z8H zE.fModules.length z8I),(.slice z8J zE.fChannels.length z8K),(.slice z8L zE.fSwitches.length z8M),(.slice z8N zE.fLinks.length z8O),(.slice z8P zE.fVLs.length z8Q),(.slice z8R zE.fHealth.length z8S),(.slice z8T zE.fCauses.length z8U),(.slice z8V zE.fVersions.length z8W)],yF z72 (Value.int .i64) (Value.int .i64) z1o,stb z8X 59 [(.int .i64 ((nth zp zy).fNode)),(.int .i64 ((nth zp zy).fNext)),(.int .i64 ((nth zp zy).fLink))]]) ?_ ?_
   ·skip
    refine WC.b (WC.a (WL.pu rfl (WL.pu rfl (WL.nil (WX.a ?_)))))
    refine WC.cond rfl (fun zgT=>?_) (fun zgT=>?_)
    ·replace h:=yl h zgT
     refine WC.a (WL.pu rfl ?_)
     refine WL.a (d:=21) rfl rfl rfl (ya y3n rfl rfl) ?_
     refine WL.a (d:=22) rfl rfl rfl (yb yg rfl (yc .here rfl)) ?_
     refine WL.a (d:=23) rfl rfl rfl (y3N (k:=((nth zp zy).fNode)) (dflt:=(0 : Int)) y5Y Try.underlying125 y3Z rfl rfl rfl .h2) ?_
     refine WL.pu rfl ?_
     refine WL.y1u rfl rfl (y5J (k:=((nth zp zy).fNode)) (v:=i64 ((yk z3m ((nth zp zy).fNode) 0) + 1)) y5Y Try.underlying125 rfl rfl rfl rfl .h2) ?_
     refine WL.nil ?_
     exact WX.mid (G:=(List (Int × Int))) (yI z3m ((nth zp zy).fNode) (i64 ((yk z3m ((nth zp zy).fNode) 0) + 1))) h (.cons rfl (.cons rfl (.cons rfl (.cons rfl (.cons rfl (.cons rfl (.cons rfl (.cons rfl (.cons rfl .nil))))))))) (.cons .h2 (.cons .here (.cons .here .nil)))
    ·replace h:=ym h zgT
     refine WC.skip ?_
     exact WX.mid (G:=(List (Int × Int))) z3m h (.cons rfl (.cons rfl (.cons rfl (.cons rfl (.cons rfl (.cons rfl (.cons rfl (.cons rfl (.cons rfl .nil))))))))) (.cons .h1 (.cons .h1 (.cons .here .nil)))
   ·rintro z1o h
    replace h:=(zpY z1o).symm.trans h
    refine WC.b (WC.b ?_)
    obtain ⟨zpZ,h⟩:=yj h
    obtain ⟨zgR,zl2,h⟩:=zn h
    refine WC.yY (fun i=>[].contains i) [] rfl ?_
    refine WD.a (i:=0) (d:=25) (by kernel_rfl) rfl (z2 (by kernel_rfl)) (z3 (by kernel_rfl)) rfl rfl rfl (fun _=>q_m rfl) ?_
    refine WD.a (i:=1) (d:=26) (by kernel_rfl) rfl (z2 (by kernel_rfl)) (z3 (by kernel_rfl)) rfl rfl rfl (fun _=>ya y3n rfl rfl) ?_
    refine WD.e (i:=2) (d:=27) (by kernel_rfl) rfl (z2 (by kernel_rfl)) (z3 (by kernel_rfl)) rfl rfl rfl (yb yg rfl (yc .h2 rfl)) ?_
    refine WD.e (i:=3) (d:=28) (by kernel_rfl) rfl (z2 (by kernel_rfl)) (z3 (by kernel_rfl)) rfl rfl rfl (y3N (k:=((nth zp zy).fNode)) (dflt:=(0 : Int)) y5Y Try.underlying125 y3Z rfl rfl rfl .h1) ?_
    refine WD.a (i:=4) (d:=29) (by kernel_rfl) rfl (z2 (by kernel_rfl)) (z3 (by kernel_rfl)) rfl rfl rfl (fun _=>q_eql rfl rfl) ?_
    refine WD.a (i:=5) (d:=30) (by kernel_rfl) rfl (z2 (by kernel_rfl)) (z3 (by kernel_rfl)) rfl rfl rfl (fun _=>q_m rfl) ?_
    refine WD.mid (fuel':=33) [(1,(.int .i64 z2k)),(2,(.slice z2l zp.length z2m)),(3,(.pointer (some ⟨z71,0,none⟩))),(7,(.map (some z72))),(8,(.int .i64 zy)),(9,(.pointer (some ⟨z8X,0,none⟩))),(11,(.slice z2l zp.length z2m)),(12,(.int .i64 ((zp.length : Nat) : Int))),(13,(.int .i64 zy)),(30,(.bool (decide ((yk z1o ((nth zp zy).fNode) 0) = 0)))),(36,(.bool ((decide ((yk z1o ((nth zp zy).fNode) 0) = 0)) || (decide ((yk z1o ((nth zp zy).fNext) 0) > 0)))))] (y1C 45 [11,10,9,8,7,6,5,4,3,2,1,0]) ?_ (fun zl3=>?_)
    rotate_left
    ·rcases Bool.eq_false_or_eq_true (decide ((yk z1o ((nth zp zy).fNode) 0) = 0)) with hb' | hb'
     ·have zgU:=hb'; clear hb'
      refine WD.pin (i:=30) rfl zgU ?_
      refine WD.b (i:=6) (d:=31) (by kernel_rfl) rfl (z2 (by kernel_rfl)) (z3 (by kernel_rfl)) rfl rfl rfl ?_
      refine WD.b (i:=7) (d:=32) (by kernel_rfl) rfl (z2 (by kernel_rfl)) (z3 (by kernel_rfl)) rfl rfl rfl ?_
      refine WD.b (i:=8) (d:=33) (by kernel_rfl) rfl (z2 (by kernel_rfl)) (z3 (by kernel_rfl)) rfl rfl rfl ?_
      refine WD.b (i:=9) (d:=34) (by kernel_rfl) rfl (z2 (by kernel_rfl)) (z3 (by kernel_rfl)) rfl rfl rfl ?_
      refine WD.b (i:=10) (d:=35) (by kernel_rfl) rfl (z2 (by kernel_rfl)) (z3 (by kernel_rfl)) rfl rfl rfl ?_
      refine WD.a (i:=11) (d:=36) (by kernel_rfl) rfl (z2 (by kernel_rfl)) (z3 (by kernel_rfl)) rfl rfl rfl (fun _=>y1o rfl rfl) ?_
      refine WD.yO (.cons .here (.cons .here (.cons .here .nil))) ?_ zl3
      exact (.cons rfl (.cons rfl (.cons rfl (.cons rfl (.cons rfl (.cons rfl (.cons rfl (.cons rfl (.cons rfl (.cons (zm (Eq.symm zgU)) (.cons (zm (y24 zgU)) .nil)))))))))))
     ·have zgV:=hb'; clear hb'
      refine WD.pin (i:=30) rfl zgV ?_
      refine WD.a (i:=6) (d:=31) (by kernel_rfl) rfl (z2 (by kernel_rfl)) (z3 (by kernel_rfl)) rfl rfl rfl (fun _=>q_m rfl) ?_
      refine WD.a (i:=7) (d:=32) (by kernel_rfl) rfl (z2 (by kernel_rfl)) (z3 (by kernel_rfl)) rfl rfl rfl (fun _=>ya y4k rfl rfl) ?_
      refine WD.e (i:=8) (d:=33) (by kernel_rfl) rfl (z2 (by kernel_rfl)) (z3 (by kernel_rfl)) rfl rfl rfl (yb yg rfl (yc .h2 rfl)) ?_
      refine WD.e (i:=9) (d:=34) (by kernel_rfl) rfl (z2 (by kernel_rfl)) (z3 (by kernel_rfl)) rfl rfl rfl (y3N (k:=((nth zp zy).fNext)) (dflt:=(0 : Int)) y5Y Try.underlying125 y3Z rfl rfl rfl .h1) ?_
      refine WD.a (i:=10) (d:=35) (by kernel_rfl) rfl (z2 (by kernel_rfl)) (z3 (by kernel_rfl)) rfl rfl rfl (fun _=>y3M rfl rfl) ?_
      refine WD.a (i:=11) (d:=36) (by kernel_rfl) rfl (z2 (by kernel_rfl)) (z3 (by kernel_rfl)) rfl rfl rfl (fun _=>y1p rfl rfl) ?_
      refine WD.yO (.cons .here (.cons .here (.cons .here .nil))) ?_ zl3
      exact (.cons rfl (.cons rfl (.cons rfl (.cons rfl (.cons rfl (.cons rfl (.cons rfl (.cons rfl (.cons rfl (.cons (zm (Eq.symm zgV)) (.cons (zm (y25 zgV)) .nil)))))))))))
    refine WD.d #[true,true,true,true,true,true,true,true,true,true,true,true,false,false,false,false,false,false,false,false,false,false,false,false,false,false,false,false,false,false,false,false,false,false,false,false,false,false,false,false,false,false,false,false,false] (by kernel_rfl) ?_
    refine WD.a (i:=12) (d:=37) (by kernel_rfl) rfl (z2 (by kernel_rfl)) (z3 (by kernel_rfl)) rfl rfl rfl (fun _=>q_m rfl) ?_
    refine WD.mid (fuel':=12) [(1,(.int .i64 z2k)),(2,(.slice z2l zp.length z2m)),(3,(.pointer (some ⟨z71,0,none⟩))),(7,(.map (some z72))),(9,(.pointer (some ⟨z8X,0,none⟩))),(11,(.slice z2l zp.length z2m)),(12,(.int .i64 ((zp.length : Nat) : Int))),(13,(.int .i64 zy)),(37,(.bool ((decide ((yk z1o ((nth zp zy).fNode) 0) = 0)) || (decide ((yk z1o ((nth zp zy).fNext) 0) > 0))))),(57,(.bool (((decide ((yk z1o ((nth zp zy).fNode) 0) = 0)) || (decide ((yk z1o ((nth zp zy).fNext) 0) > 0))) || (((decide (zy > 0)) && (decide (((nth zp zy).fNode) ≠ ((nth zp 0).fNode)))) && (decide (((nth zp zy).fNode) < ((zE.fModules.length : Nat) : Int)))))))] (y1C 45 [32,31,30,29,28,27,26,25,24,23,22,21,20,19,18,17,16,15,14,13,12,11,10,9,8,7,6,5,4,3,2,1,0]) ?_ (fun zl4=>?_)
    rotate_left
    ·rcases Bool.eq_false_or_eq_true ((decide ((yk z1o ((nth zp zy).fNode) 0) = 0)) || (decide ((yk z1o ((nth zp zy).fNext) 0) > 0))) with hb' | hb'
     ·have zgW:=hb'; clear hb'
      refine WD.pin (i:=37) rfl zgW ?_
      refine WD.b (i:=13) (d:=38) (by kernel_rfl) rfl (z2 (by kernel_rfl)) (z3 (by kernel_rfl)) rfl rfl rfl ?_
      refine WD.b (i:=14) (d:=39) (by kernel_rfl) rfl (z2 (by kernel_rfl)) (z3 (by kernel_rfl)) rfl rfl rfl ?_
      refine WD.b (i:=15) (d:=40) (by kernel_rfl) rfl (z2 (by kernel_rfl)) (z3 (by kernel_rfl)) rfl rfl rfl ?_
      refine WD.b (i:=16) (d:=41) (by kernel_rfl) rfl (z2 (by kernel_rfl)) (z3 (by kernel_rfl)) rfl rfl rfl ?_
      refine WD.b (i:=17) (d:=42) (by kernel_rfl) rfl (z2 (by kernel_rfl)) (z3 (by kernel_rfl)) rfl rfl rfl ?_
      refine WD.b (i:=18) (d:=43) (by kernel_rfl) rfl (z2 (by kernel_rfl)) (z3 (by kernel_rfl)) rfl rfl rfl ?_
      refine WD.b (i:=19) (d:=44) (by kernel_rfl) rfl (z2 (by kernel_rfl)) (z3 (by kernel_rfl)) rfl rfl rfl ?_
      refine WD.b (i:=20) (d:=45) (by kernel_rfl) rfl (z2 (by kernel_rfl)) (z3 (by kernel_rfl)) rfl rfl rfl ?_
      refine WD.b (i:=21) (d:=46) (by kernel_rfl) rfl (z2 (by kernel_rfl)) (z3 (by kernel_rfl)) rfl rfl rfl ?_
      refine WD.b (i:=22) (d:=47) (by kernel_rfl) rfl (z2 (by kernel_rfl)) (z3 (by kernel_rfl)) rfl rfl rfl ?_
      refine WD.b (i:=23) (d:=48) (by kernel_rfl) rfl (z2 (by kernel_rfl)) (z3 (by kernel_rfl)) rfl rfl rfl ?_
      refine WD.b (i:=24) (d:=49) (by kernel_rfl) rfl (z2 (by kernel_rfl)) (z3 (by kernel_rfl)) rfl rfl rfl ?_
      refine WD.b (i:=25) (d:=50) (by kernel_rfl) rfl (z2 (by kernel_rfl)) (z3 (by kernel_rfl)) rfl rfl rfl ?_
      refine WD.b (i:=26) (d:=51) (by kernel_rfl) rfl (z2 (by kernel_rfl)) (z3 (by kernel_rfl)) rfl rfl rfl ?_
      refine WD.b (i:=27) (d:=52) (by kernel_rfl) rfl (z2 (by kernel_rfl)) (z3 (by kernel_rfl)) rfl rfl rfl ?_
      refine WD.b (i:=28) (d:=53) (by kernel_rfl) rfl (z2 (by kernel_rfl)) (z3 (by kernel_rfl)) rfl rfl rfl ?_
      refine WD.b (i:=29) (d:=54) (by kernel_rfl) rfl (z2 (by kernel_rfl)) (z3 (by kernel_rfl)) rfl rfl rfl ?_
      refine WD.b (i:=30) (d:=55) (by kernel_rfl) rfl (z2 (by kernel_rfl)) (z3 (by kernel_rfl)) rfl rfl rfl ?_
      refine WD.b (i:=31) (d:=56) (by kernel_rfl) rfl (z2 (by kernel_rfl)) (z3 (by kernel_rfl)) rfl rfl rfl ?_
      refine WD.a (i:=32) (d:=57) (by kernel_rfl) rfl (z2 (by kernel_rfl)) (z3 (by kernel_rfl)) rfl rfl rfl (fun _=>y1o rfl rfl) ?_
      refine WD.yO (.cons .here (.cons .here (.cons .here .nil))) ?_ zl4
      exact (.cons rfl (.cons rfl (.cons rfl (.cons rfl (.cons rfl (.cons rfl (.cons rfl (.cons rfl (.cons (zm (Eq.symm zgW)) (.cons (zm (y24 zgW)) .nil))))))))))
     ·have zeW:=hb'; clear hb'
      have zq0:=zpZ zeW
      refine WD.pin (i:=37) rfl zeW ?_
      refine WD.a (i:=13) (d:=38) (by kernel_rfl) rfl (z2 (by kernel_rfl)) (z3 (by kernel_rfl)) rfl rfl rfl (fun _=>q_m rfl) ?_
      refine WD.a (i:=14) (d:=39) (by kernel_rfl) rfl (z2 (by kernel_rfl)) (z3 (by kernel_rfl)) rfl rfl rfl (fun _=>y3M rfl rfl) ?_
      refine WD.a (i:=15) (d:=40) (by kernel_rfl) rfl (z2 (by kernel_rfl)) (z3 (by kernel_rfl)) rfl rfl rfl (fun _=>q_m rfl) ?_
      refine WD.mid (fuel':=21) [(1,(.int .i64 z2k)),(2,(.slice z2l zp.length z2m)),(3,(.pointer (some ⟨z71,0,none⟩))),(7,(.map (some z72))),(9,(.pointer (some ⟨z8X,0,none⟩))),(11,(.slice z2l zp.length z2m)),(12,(.int .i64 ((zp.length : Nat) : Int))),(13,(.int .i64 zy)),(37,(.bool false)),(40,(.bool (decide (zy > 0)))),(48,(.bool ((decide (zy > 0)) && (decide (((nth zp zy).fNode) ≠ ((nth zp 0).fNode))))))] (y1C 45 [23,22,21,20,19,18,17,16,15,14,13,12,11,10,9,8,7,6,5,4,3,2,1,0]) ?_ (fun zl5=>?_)
      rotate_left
      ·rcases Bool.eq_false_or_eq_true (decide (zy > 0)) with hb' | hb'
       ·have zeX:=hb'; clear hb'
        have zq1:=zq0 zeX
        refine WD.pin (i:=40) rfl zeX ?_
        refine WD.a (i:=16) (d:=41) (by kernel_rfl) rfl (z2 (by kernel_rfl)) (z3 (by kernel_rfl)) rfl rfl rfl (fun _=>ya y3n rfl rfl) ?_
        refine WD.e (i:=17) (d:=42) (by kernel_rfl) rfl (z2 (by kernel_rfl)) (z3 (by kernel_rfl)) rfl rfl rfl (yb yg rfl (yc .h2 rfl)) ?_
        refine WD.a (i:=18) (d:=43) (by kernel_rfl) rfl (z2 (by kernel_rfl)) (z3 (by kernel_rfl)) rfl rfl rfl (fun _=>q_m rfl) ?_
        refine WD.znth (j:=19) (dd:=44) (by kernel_rfl) rfl (z2 (by kernel_rfl)) (z3 (by kernel_rfl)) rfl rfl (Z:=Z) (Pr:=(fun r x=>r = e59 x)) y4X rfl rfl zl1 zq1 ?_
        rintro zwy zwz zq2 zwA rfl
        refine WD.a (i:=20) (d:=45) (by kernel_rfl) rfl (z2 (by kernel_rfl)) (z3 (by kernel_rfl)) rfl rfl rfl (fun _=>ya y3n rfl rfl) ?_
        refine WD.e (i:=21) (d:=46) (by kernel_rfl) rfl (z2 (by kernel_rfl)) (z3 (by kernel_rfl)) rfl rfl rfl (yb yg rfl (y21 hz.pv zq2 rfl)) ?_
        refine WD.a (i:=22) (d:=47) (by kernel_rfl) rfl (z2 (by kernel_rfl)) (z3 (by kernel_rfl)) rfl rfl rfl (fun _=>q_neq rfl rfl) ?_
        refine WD.a (i:=23) (d:=48) (by kernel_rfl) rfl (z2 (by kernel_rfl)) (z3 (by kernel_rfl)) rfl rfl rfl (fun _=>y1o rfl rfl) ?_
        refine WD.yO (.cons .here (.cons .here (.cons .here .nil))) ?_ zl5
        exact (.cons rfl (.cons rfl (.cons rfl (.cons rfl (.cons rfl (.cons rfl (.cons rfl (.cons rfl (.cons rfl (.cons (zm (Eq.symm zeX)) (.cons (zm (y2K zeX)) .nil)))))))))))
       ·have zgX:=hb'; clear hb'
        refine WD.pin (i:=40) rfl zgX ?_
        refine WD.b (i:=16) (d:=41) (by kernel_rfl) rfl (z2 (by kernel_rfl)) (z3 (by kernel_rfl)) rfl rfl rfl ?_
        refine WD.b (i:=17) (d:=42) (by kernel_rfl) rfl (z2 (by kernel_rfl)) (z3 (by kernel_rfl)) rfl rfl rfl ?_
        refine WD.b (i:=18) (d:=43) (by kernel_rfl) rfl (z2 (by kernel_rfl)) (z3 (by kernel_rfl)) rfl rfl rfl ?_
        refine WD.b (i:=19) (d:=44) (by kernel_rfl) rfl (z2 (by kernel_rfl)) (z3 (by kernel_rfl)) rfl rfl rfl ?_
        refine WD.b (i:=20) (d:=45) (by kernel_rfl) rfl (z2 (by kernel_rfl)) (z3 (by kernel_rfl)) rfl rfl rfl ?_
        refine WD.b (i:=21) (d:=46) (by kernel_rfl) rfl (z2 (by kernel_rfl)) (z3 (by kernel_rfl)) rfl rfl rfl ?_
        refine WD.b (i:=22) (d:=47) (by kernel_rfl) rfl (z2 (by kernel_rfl)) (z3 (by kernel_rfl)) rfl rfl rfl ?_
        refine WD.a (i:=23) (d:=48) (by kernel_rfl) rfl (z2 (by kernel_rfl)) (z3 (by kernel_rfl)) rfl rfl rfl (fun _=>y1p rfl rfl) ?_
        refine WD.yO (.cons .here (.cons .here (.cons .here .nil))) ?_ zl5
        exact (.cons rfl (.cons rfl (.cons rfl (.cons rfl (.cons rfl (.cons rfl (.cons rfl (.cons rfl (.cons rfl (.cons (zm (Eq.symm zgX)) (.cons (zm (y2J zgX)) .nil)))))))))))
      refine WD.d #[true,true,true,true,true,true,true,true,true,true,true,true,true,true,true,true,true,true,true,true,true,true,true,true,false,false,false,false,false,false,false,false,false,false,false,false,false,false,false,false,false,false,false,false,false] (by kernel_rfl) ?_
      refine WD.a (i:=24) (d:=49) (by kernel_rfl) rfl (z2 (by kernel_rfl)) (z3 (by kernel_rfl)) rfl rfl rfl (fun _=>q_m rfl) ?_
      refine WD.mid (fuel':=13) [(1,(.int .i64 z2k)),(2,(.slice z2l zp.length z2m)),(3,(.pointer (some ⟨z71,0,none⟩))),(7,(.map (some z72))),(9,(.pointer (some ⟨z8X,0,none⟩))),(11,(.slice z2l zp.length z2m)),(12,(.int .i64 ((zp.length : Nat) : Int))),(13,(.int .i64 zy)),(37,(.bool false)),(49,(.bool ((decide (zy > 0)) && (decide (((nth zp zy).fNode) ≠ ((nth zp 0).fNode)))))),(56,(.bool (((decide (zy > 0)) && (decide (((nth zp zy).fNode) ≠ ((nth zp 0).fNode)))) && (decide (((nth zp zy).fNode) < ((zE.fModules.length : Nat) : Int))))))] (y1C 45 [31,30,29,28,27,26,25,24,23,22,21,20,19,18,17,16,15,14,13,12,11,10,9,8,7,6,5,4,3,2,1,0]) ?_ (fun zl6=>?_)
      rotate_left
      ·rcases Bool.eq_false_or_eq_true ((decide (zy > 0)) && (decide (((nth zp zy).fNode) ≠ ((nth zp 0).fNode)))) with hb' | hb'
       ·have zgY:=hb'; clear hb'
        refine WD.pin (i:=49) rfl zgY ?_
        refine WD.a (i:=25) (d:=50) (by kernel_rfl) rfl (z2 (by kernel_rfl)) (z3 (by kernel_rfl)) rfl rfl rfl (fun _=>ya y3n rfl rfl) ?_
        refine WD.e (i:=26) (d:=51) (by kernel_rfl) rfl (z2 (by kernel_rfl)) (z3 (by kernel_rfl)) rfl rfl rfl (yb yg rfl (yc .h2 rfl)) ?_
        refine WD.a (i:=27) (d:=52) (by kernel_rfl) rfl (z2 (by kernel_rfl)) (z3 (by kernel_rfl)) rfl rfl rfl (fun _=>ya y3X rfl rfl) ?_
        refine WD.e (i:=28) (d:=53) (by kernel_rfl) rfl (z2 (by kernel_rfl)) (z3 (by kernel_rfl)) rfl rfl rfl (yb y3Y rfl (yc .here rfl)) ?_
        refine WD.a (i:=29) (d:=54) (by kernel_rfl) rfl (z2 (by kernel_rfl)) (z3 (by kernel_rfl)) rfl rfl rfl (fun _=>yW Try.underlying22 rfl) ?_
        refine WD.a (i:=30) (d:=55) (by kernel_rfl) rfl (z2 (by kernel_rfl)) (z3 (by kernel_rfl)) rfl rfl rfl (fun _=>y3i rfl rfl) ?_
        refine WD.a (i:=31) (d:=56) (by kernel_rfl) rfl (z2 (by kernel_rfl)) (z3 (by kernel_rfl)) rfl rfl rfl (fun _=>y1o rfl rfl) ?_
        refine WD.yO (.cons .here (.cons .here (.cons .here .nil))) ?_ zl6
        exact (.cons rfl (.cons rfl (.cons rfl (.cons rfl (.cons rfl (.cons rfl (.cons rfl (.cons rfl (.cons rfl (.cons (zm (Eq.symm zgY)) (.cons (zm (y2K zgY)) .nil)))))))))))
       ·have zgZ:=hb'; clear hb'
        refine WD.pin (i:=49) rfl zgZ ?_
        refine WD.b (i:=25) (d:=50) (by kernel_rfl) rfl (z2 (by kernel_rfl)) (z3 (by kernel_rfl)) rfl rfl rfl ?_
        refine WD.b (i:=26) (d:=51) (by kernel_rfl) rfl (z2 (by kernel_rfl)) (z3 (by kernel_rfl)) rfl rfl rfl ?_
        refine WD.b (i:=27) (d:=52) (by kernel_rfl) rfl (z2 (by kernel_rfl)) (z3 (by kernel_rfl)) rfl rfl rfl ?_
        refine WD.b (i:=28) (d:=53) (by kernel_rfl) rfl (z2 (by kernel_rfl)) (z3 (by kernel_rfl)) rfl rfl rfl ?_
        refine WD.b (i:=29) (d:=54) (by kernel_rfl) rfl (z2 (by kernel_rfl)) (z3 (by kernel_rfl)) rfl rfl rfl ?_
        refine WD.b (i:=30) (d:=55) (by kernel_rfl) rfl (z2 (by kernel_rfl)) (z3 (by kernel_rfl)) rfl rfl rfl ?_
        refine WD.a (i:=31) (d:=56) (by kernel_rfl) rfl (z2 (by kernel_rfl)) (z3 (by kernel_rfl)) rfl rfl rfl (fun _=>y1p rfl rfl) ?_
        refine WD.yO (.cons .here (.cons .here (.cons .here .nil))) ?_ zl6
        exact (.cons rfl (.cons rfl (.cons rfl (.cons rfl (.cons rfl (.cons rfl (.cons rfl (.cons rfl (.cons rfl (.cons (zm (Eq.symm zgZ)) (.cons (zm (y2J zgZ)) .nil)))))))))))
      refine WD.d #[true,true,true,true,true,true,true,true,true,true,true,true,true,true,true,true,true,true,true,true,true,true,true,true,true,true,true,true,true,true,true,true,false,false,false,false,false,false,false,false,false,false,false,false,false] (by kernel_rfl) ?_
      refine WD.a (i:=32) (d:=57) (by kernel_rfl) rfl (z2 (by kernel_rfl)) (z3 (by kernel_rfl)) rfl rfl rfl (fun _=>y1p rfl rfl) ?_
      refine WD.yO (.cons .here (.cons .here (.cons .here .nil))) ?_ zl4
      exact (.cons rfl (.cons rfl (.cons rfl (.cons rfl (.cons rfl (.cons rfl (.cons rfl (.cons rfl (.cons (zm (Eq.symm zeW)) (.cons (zm (y25 zeW)) .nil))))))))))
    refine WD.d #[true,true,true,true,true,true,true,true,true,true,true,true,true,true,true,true,true,true,true,true,true,true,true,true,true,true,true,true,true,true,true,true,true,false,false,false,false,false,false,false,false,false,false,false,false] (by kernel_rfl) ?_
    refine WD.a (i:=33) (d:=58) (by kernel_rfl) rfl (z2 (by kernel_rfl)) (z3 (by kernel_rfl)) rfl rfl rfl (fun _=>q_m rfl) ?_
    refine WD.mid (fuel':=0) [(1,(.int .i64 z2k)),(2,(.slice z2l zp.length z2m)),(3,(.pointer (some ⟨z71,0,none⟩))),(7,(.map (some z72))),(9,(.pointer (some ⟨z8X,0,none⟩))),(11,(.slice z2l zp.length z2m)),(12,(.int .i64 ((zp.length : Nat) : Int))),(13,(.int .i64 zy)),(58,(.bool (((decide ((yk z1o ((nth zp zy).fNode) 0) = 0)) || (decide ((yk z1o ((nth zp zy).fNext) 0) > 0))) || (((decide (zy > 0)) && (decide (((nth zp zy).fNode) ≠ ((nth zp 0).fNode)))) && (decide (((nth zp zy).fNode) < ((zE.fModules.length : Nat) : Int))))))),(69,(.bool zgR))] (y1C 45 [44,43,42,41,40,39,38,37,36,35,34,33,32,31,30,29,28,27,26,25,24,23,22,21,20,19,18,17,16,15,14,13,12,11,10,9,8,7,6,5,4,3,2,1,0]) ?_ (fun zl7=>?_)
    rotate_left
    ·rcases Bool.eq_false_or_eq_true (((decide ((yk z1o ((nth zp zy).fNode) 0) = 0)) || (decide ((yk z1o ((nth zp zy).fNext) 0) > 0))) || (((decide (zy > 0)) && (decide (((nth zp zy).fNode) ≠ ((nth zp 0).fNode)))) && (decide (((nth zp zy).fNode) < ((zE.fModules.length : Nat) : Int))))) with hb' | hb'
     ·have zh0:=hb'; clear hb'
      have zh1:=yl zl2 zh0
      replace zh1:=Option.some.inj zh1
      refine WD.pin (i:=58) rfl zh0 ?_
      refine WD.b (i:=34) (d:=59) (by kernel_rfl) rfl (z2 (by kernel_rfl)) (z3 (by kernel_rfl)) rfl rfl rfl ?_
      refine WD.b (i:=35) (d:=60) (by kernel_rfl) rfl (z2 (by kernel_rfl)) (z3 (by kernel_rfl)) rfl rfl rfl ?_
      refine WD.b (i:=36) (d:=61) (by kernel_rfl) rfl (z2 (by kernel_rfl)) (z3 (by kernel_rfl)) rfl rfl rfl ?_
      refine WD.b (i:=37) (d:=62) (by kernel_rfl) rfl (z2 (by kernel_rfl)) (z3 (by kernel_rfl)) rfl rfl rfl ?_
      refine WD.b (i:=38) (d:=63) (by kernel_rfl) rfl (z2 (by kernel_rfl)) (z3 (by kernel_rfl)) rfl rfl rfl ?_
      refine WD.b (i:=39) (d:=64) (by kernel_rfl) rfl (z2 (by kernel_rfl)) (z3 (by kernel_rfl)) rfl rfl rfl ?_
      refine WD.b (i:=40) (d:=65) (by kernel_rfl) rfl (z2 (by kernel_rfl)) (z3 (by kernel_rfl)) rfl rfl rfl ?_
      refine WD.b (i:=41) (d:=66) (by kernel_rfl) rfl (z2 (by kernel_rfl)) (z3 (by kernel_rfl)) rfl rfl rfl ?_
      refine WD.b (i:=42) (d:=67) (by kernel_rfl) rfl (z2 (by kernel_rfl)) (z3 (by kernel_rfl)) rfl rfl rfl ?_
      refine WD.b (i:=43) (d:=68) (by kernel_rfl) rfl (z2 (by kernel_rfl)) (z3 (by kernel_rfl)) rfl rfl rfl ?_
      refine WD.a (i:=44) (d:=69) (by kernel_rfl) rfl (z2 (by kernel_rfl)) (z3 (by kernel_rfl)) rfl rfl rfl (fun _=>y1o rfl rfl) ?_
      refine WD.yO (.cons .here (.cons .here (.cons .here .nil))) ?_ zl7
      exact (.cons rfl (.cons rfl (.cons rfl (.cons rfl (.cons rfl (.cons rfl (.cons rfl (.cons rfl (.cons (zm (Eq.symm zh0)) (.cons (zm zh1) .nil))))))))))
     ·have zh2:=hb'; clear hb'
      have zdv:=ym zl2 zh2
      obtain ⟨zl0,zq3,zdv⟩:=zn zdv
      replace zdv:=Option.some.inj zdv
      refine WD.pin (i:=58) rfl zh2 ?_
      refine WD.e (i:=34) (d:=59) (by kernel_rfl) rfl (z2 (by kernel_rfl)) (z3 (by kernel_rfl)) rfl rfl rfl (yN y1L rfl (y1x .here) rfl) ?_
      refine WD.a (i:=35) (d:=60) (by kernel_rfl) rfl (z2 (by kernel_rfl)) (z3 (by kernel_rfl)) rfl rfl rfl (fun _=>q_m rfl) ?_
      refine WD.a (i:=36) (d:=61) (by kernel_rfl) rfl (z2 (by kernel_rfl)) (z3 (by kernel_rfl)) rfl rfl rfl (fun _=>ya y72 rfl rfl) ?_
      refine WD.e (i:=37) (d:=62) (by kernel_rfl) rfl (z2 (by kernel_rfl)) (z3 (by kernel_rfl)) rfl rfl rfl (yb yg rfl (yc .h2 rfl)) ?_
      refine WD.a (i:=38) (d:=63) (by kernel_rfl) rfl (z2 (by kernel_rfl)) (z3 (by kernel_rfl)) rfl rfl rfl (fun _=>ya y3n rfl rfl) ?_
      refine WD.e (i:=39) (d:=64) (by kernel_rfl) rfl (z2 (by kernel_rfl)) (z3 (by kernel_rfl)) rfl rfl rfl (yb yg rfl (yc .h2 rfl)) ?_
      refine WD.a (i:=40) (d:=65) (by kernel_rfl) rfl (z2 (by kernel_rfl)) (z3 (by kernel_rfl)) rfl rfl rfl (fun _=>ya y4k rfl rfl) ?_
      refine WD.e (i:=41) (d:=66) (by kernel_rfl) rfl (z2 (by kernel_rfl)) (z3 (by kernel_rfl)) rfl rfl rfl (yb yg rfl (yc .h2 rfl)) ?_
      refine WD.c (i:=42) (d:=67) (by kernel_rfl) rfl (z2 (by kernel_rfl)) (z3 (by kernel_rfl)) rfl rfl rfl (zF (l:=[.tmp 59,.tmp 60,.tmp 62,.tmp 64,.tmp 66]) Try.call48 (.cons rfl (.cons rfl (.cons rfl (.cons rfl (.cons rfl .nil)))))) (cc hz .nil fun w pz ho=>y7C _ _ _ _ _ _ _ _ _ _ _ _ _ _ _ _ _ _ _ _ _ _ _ zq3 w pz zpN zpO zpP zpQ zpR zpS zpT zpU) ?_
      refine WD.a (i:=43) (d:=68) (by kernel_rfl) rfl (z2 (by kernel_rfl)) (z3 (by kernel_rfl)) rfl rfl rfl (fun _=>q_not rfl) ?_
      refine WD.a (i:=44) (d:=69) (by kernel_rfl) rfl (z2 (by kernel_rfl)) (z3 (by kernel_rfl)) rfl rfl rfl (fun _=>y1p rfl rfl) ?_
      refine WD.yO (.cons .here (.cons .here (.cons .here .nil))) ?_ zl7
      exact (.cons rfl (.cons rfl (.cons rfl (.cons rfl (.cons rfl (.cons rfl (.cons rfl (.cons rfl (.cons (zm (Eq.symm zh2)) (.cons (zm zdv) .nil))))))))))
    refine WD.d #[true,true,true,true,true,true,true,true,true,true,true,true,true,true,true,true,true,true,true,true,true,true,true,true,true,true,true,true,true,true,true,true,true,true,true,true,true,true,true,true,true,true,true,true,true] (by kernel_rfl) ?_
    refine WD.done (by kernel_rfl) ?_
    refine WX.a ?_
    refine WC.cond rfl (fun zh3=>?_) (fun zh3=>?_)
    ·replace h:=yl h zh3
     refine WC.b (WC.a (WL.pu rfl (WL.nil (WX.a (WC.ret (WX.yf (WX.yz (WX.yf (WX.yf (WX.yz (WX.yf ?_)))))))))))
     obtain rfl:=Option.some.inj h
     refine WX.yi Try.results36 (.tmp rfl .nil) (fun w hw=>?_)
     exact ⟨y12 rfl,hw.sub .nil⟩
    ·replace h:=ym h zh3
     refine WC.skip (WX.a (WC.a (WL.pu rfl ?_)))
     refine WL.a (d:=71) rfl rfl rfl (ya y4k rfl rfl) ?_
     refine WL.a (d:=72) rfl rfl rfl (yb yg rfl (yc .h2 rfl)) ?_
     refine WL.a (d:=73) rfl rfl rfl (y3N (k:=((nth zp zy).fNext)) (dflt:=(0 : Int)) y5Y Try.underlying125 y3Z rfl rfl rfl .h1) ?_
     refine WL.pu rfl ?_
     refine WL.y1u rfl rfl (y5J (k:=((nth zp zy).fNext)) (v:=i64 ((yk z1o ((nth zp zy).fNext) 0) + 1)) y5Y Try.underlying125 rfl rfl rfl rfl .h1) ?_
     refine WL.nil (WX.yh (WX.a (WC.a (WL.pu rfl (WL.pu rfl (WL.nil ?_))))))
     exact WX.round (G:=Nat × Int × (List (Int × Int))) ⟨zgQ,(i64 (zy + 1)),(yI z1o ((nth zp zy).fNext) (i64 ((yk z1o ((nth zp zy).fNext) 0) + 1)))⟩ h (Nat.lt_succ_self _) (.cons rfl (.cons rfl (.cons rfl (.cons rfl (.cons rfl (.cons rfl (.cons rfl .nil))))))) (.cons .h1 (.cons .here .nil))
  ·replace h:=ym h zgS
   refine WC.exit (WX.yd (WX.yd (WX.yy ?_)))
   exact WX.mid (G:=Unit) () h (.cons rfl .nil) .nil
 ·rintro  h
  replace h:=zpV.symm.trans h
  refine WC.b (WC.a (WL.pu rfl ?_))
  refine WL.a (d:=77) rfl rfl rfl (yW Try.underlying55 rfl) ?_
  refine WL.pu rfl (WL.pu rfl (WL.nil (WX.a (WC.ret ?_))))
  obtain rfl:=Option.some.inj h
  refine WX.yi Try.results36 (.tmp rfl .nil) (fun w hw=>?_)
  exact ⟨y12 rfl,hw.sub .nil⟩
def y14 (z8Y : List Sapi_Hop) (z2n : Sapi_Config) (zeY : Int) : Option Bool :=
 (y3q z2n zeY z8Y).bind fun zl8=>some (!zl8)
set_option maxRecDepth 20000 in
theorem y77 (Z : Zp) (zeZ : Option Addr) (zf0 : Nat) (zf1 : Addr) (zl9 : Option Addr) (zla : Nat) (zlb : Option Addr) (zlc : Nat) (zld : Option Addr) (zle : Nat) (zlf : Option Addr) (zlg : Nat) (zlh : Option Addr) (zli : Nat) (zlj : Option Addr) (zlk : Nat) (zll : Option Addr) (zlm : Nat) (zln : Option Addr) (zlo : Nat) (zf2 : Addr) (z8Y : List Sapi_Hop) (z2n : Sapi_Config) (zeY : Int) (r : Bool)
  (h : y14 z8Y z2n zeY = some r) (w₀ : World) (hz : PZ [] w₀ Z)
  (zq4 : ZS Z 3 (fun r x=>r = e59 x) zeZ zf0 z8Y)
  (zq5 : ZS Z 4 (y2w Z) zl9 zla z2n.fModules)
  (zq6 : ZS Z 4 (y2S Z) zlb zlc z2n.fChannels)
  (zq7 : ZS Z 4 (fun r x=>r = e64 x) zld zle z2n.fSwitches)
  (zq8 : ZS Z 4 (fun r x=>r = e62 x) zlf zlg z2n.fLinks)
  (zq9 : ZS Z 7 (y2F Z) zlh zli z2n.fVLs)
  (zqa : ZS Z 5 (fun r x=>r = y2Y x) zlj zlk z2n.fHealth)
  (zqb : ZS Z 3 (y2T Z) zll zlm z2n.fCauses)
  (zqc : ZS Z 4 (fun r x=>r = y2Z x) zln zlo z2n.fVersions)
  (zqd : ZC Z zf1 [(.slice zl9 z2n.fModules.length zla),(.slice zlb z2n.fChannels.length zlc),(.slice zld z2n.fSwitches.length zle),(.slice zlf z2n.fLinks.length zlg),(.slice zlh z2n.fVLs.length zli),(.slice zlj z2n.fHealth.length zlk),(.slice zll z2n.fCauses.length zlm),(.slice zln z2n.fVersions.length zlo)])
  (zqe : ZC Z zf2 [(.int .i64 zeY)]) :
  Calls Try.prog 35 #[(.slice zeZ z8Y.length zf0),(.pointer (some zf1)),(.pointer (some zf2))] w₀ fun e w'=>e = .returned (.bool r) ∧ Hp [] w₀ w' []:=by
 unfold y14 at h
 refine Calls.yo (vs:=[(.slice zeZ z8Y.length zf0),(.pointer (some zf1)),(.pointer (some zf2))]) (pre:=[]) (env:=[(0,(.slice zeZ z8Y.length zf0)),(1,(.pointer (some zf1))),(2,(.pointer (some zf2)))]) Try.func35 rfl Try.ntmps35 rfl (Hp.nil w₀ _) rfl ?_
 refine WC.b (WC.a (WL.pu rfl (WL.nil (WX.a (WC.b ?_)))))
 obtain ⟨zl8,zqf,h⟩:=zn h
 refine WC.a ?_
 refine WL.a (d:=5) rfl rfl rfl (yN y1L rfl (y3u hz.pv zqd) rfl) ?_
 refine WL.a (d:=6) rfl rfl rfl (yb yg rfl (rd_z hz.pv zqe rfl)) ?_
 refine WL.pu rfl ?_
 refine WL.b (dd:=8) rfl rfl rfl (zF (l:=[.tmp 5,.tmp 6,.tmp 7]) Try.call36 (.cons rfl (.cons rfl (.cons rfl .nil)))) .nil (cc hz .nil fun w pz ho=>y7D _ _ _ _ _ _ _ _ _ _ _ _ _ _ _ _ _ _ _ _ _ _ _ zqf w pz zq5 zq6 zq7 zq8 zq9 zqa zqb zqc zq4) ?_
 refine WL.pu rfl (WL.pu rfl (WL.nil (WX.a (WC.ret ?_))))
 obtain rfl:=Option.some.inj h
 refine WX.yi Try.results35 (.tmp rfl .nil) (fun w hw=>?_)
 exact ⟨y12 rfl,hw.sub .nil⟩
def yw (z2D : List (List Sapi_Hop)) (z5h : (List Sapi_Hop) → Option Bool) (z73 : Option Int) : Nat → Int → Option Int
 | 0,_=>none
 | zh4 + 1,z35=>if decide (z35 < ((z2D.length : Nat) : Int)) then chk ((0 : Int) ≤ z35 ∧ z35 < ((z2D.length : Nat) : Int)) ((z5h (nth z2D z35)).bind fun zh5=>if zh5 then some z35 else yw z2D z5h z73 zh4 (i64 (z35 + 1))) else z73
theorem y3k {n : Nat} {z2D : List (List Sapi_Hop)} {z5h : (List Sapi_Hop) → Option Bool} {z73 : Option Int} {z35 : Int} {r : Int} (h : yw z2D z5h z73 n z35 = some r) : ∃ m,n = m + 1:=by
 cases n with
 | zero=>cases h
 | succ m=>exact ⟨m,rfl⟩
def y1t (z2D : List (List Sapi_Hop)) (z5h : (List Sapi_Hop) → Option Bool) : Option Int :=
 jp0 (some (-1)) fun z73=>yw z2D z5h z73 yt 0
set_option maxRecDepth 20000 in
theorem y43 (Z : Zp) (zdw : Option Addr) (zdx : Nat) (z74 : FuncId) (z8Z : List Value) (z2D : List (List Sapi_Hop)) (z5h : (List Sapi_Hop) → Option Bool) (r : Int)
  (h : y1t z2D z5h = some r) (w₀ : World) (hz : PZ [] w₀ Z)
  (zqg : ZS Z 1 (p55 Z) zdw zdx z2D)
  (zqh : ∀ args w,(callFunc z74 args).run Try.prog w = .ok (.enter z74 args) w)
  (zqi : ∀ w : World,PZ [] w Z → ∀ (x0 : List Sapi_Hop) (ao0 : Option Addr) (cap0 : Nat) (r : Bool),ZS Z 3 (fun r x=>r = e59 x) ao0 cap0 x0 → z5h x0 = some r → Calls Try.prog z74 (([(.slice ao0 x0.length cap0)] : List Value) ++ z8Z).toArray w fun e w'=>e = .returned (.bool r) ∧ Hp [] w w' []) :
  Calls Try.prog 47 #[(.slice zdw z2D.length zdx),(.func (.func z74) #[] (z8Z).toArray)] w₀ fun e w'=>e = .returned (.int .i64 r) ∧ Hp [] w₀ w' []:=by
 unfold y1t at h
 refine Calls.yo (vs:=[(.slice zdw z2D.length zdx),(.func (.func z74) #[] (z8Z).toArray)]) (pre:=[]) (env:=[(0,(.slice zdw z2D.length zdx)),(1,(.func (.func z74) #[] (z8Z).toArray))]) Try.func47 rfl Try.ntmps47 rfl (Hp.nil w₀ _) rfl ?_
 refine WC.b (WC.a (WL.pu rfl (WL.nil (WX.a ?_))))
 obtain ⟨z73,zqj,h⟩:=y2E h
 refine WC.y2u ((z73 = some r)) ([]) ([]) ?_ ?_
 ·skip
  refine WC.b (WC.a (WL.pu rfl ?_))
  refine WL.a (d:=7) rfl rfl rfl (yW Try.underlying32 rfl) ?_
  refine WL.pu rfl (WL.nil (WX.a (WC.block ?_)))
  refine WC.y4a (fun (zaB : Nat) (z35 : Int)=>(yw z2D z5h z73 zaB z35 = some r)) (fun (zaB : Nat) (z35 : Int)=>[(0,(.slice zdw z2D.length zdx)),(1,(.func (.func z74) #[] (z8Z).toArray)),(7,(.int .i64 ((z2D.length : Nat) : Int))),(8,(.int .i64 z35))]) (fun (zaB : Nat) (z35 : Int)=>[]) (fun (zaB : Nat) (z35 : Int)=>zaB) ⟨yt,0⟩ h (.cons rfl (.cons rfl (.cons rfl (.cons rfl .nil)))) .nil ?_
  rintro zaB z35 h
  obtain ⟨zh4,rfl⟩:=y3k h
  rw [yw] at h
  refine WC.b (WC.a (WL.pu rfl (WL.nil (WX.a (WC.b ?_)))))
  refine WC.cond rfl (fun zh6=>?_) (fun zh6=>?_)
  ·replace h:=yl h zh6
   refine WC.skip (WX.a (WC.b (WC.block (WC.b (WC.a (WL.pu rfl (WL.pu rfl (WL.nil (WX.a (WC.b ?_))))))))))
   obtain ⟨zqk,h⟩:=yj h
   obtain ⟨zh5,zql,h⟩:=zn h
   refine WC.a (WL.pu rfl (WL.pu rfl (WL.pu rfl ?_)))
   refine WL.znth (dd:=14) rfl rfl (Z:=Z) (Pr:=(p55 Z)) y5V rfl rfl zqg zqk ?_
   rintro zwB zwC zqm zwD ⟨zqn,zqo,rfl,zqp⟩
   refine WL.a (d:=15) rfl rfl rfl (yb y5W rfl (rd_z hz.pv zqm rfl)) ?_
   refine WL.b (dd:=16) rfl rfl rfl (y3L (l:=[.tmp 15]) (f:=z74) (caps:=z8Z) zqh rfl (.cons rfl .nil)) .nil (fun w hw=>zqi w (hz.now hw) (nth z2D z35) zqn zqo zh5 zqp zql) ?_
   refine WL.nil (WX.a ?_)
   refine WC.cond rfl (fun zh7=>?_) (fun zh7=>?_)
   ·replace h:=yl h zh7
    refine WC.b (WC.a (WL.pu rfl (WL.pu rfl (WL.nil (WX.a (WC.ret (WX.yz (WX.yf (WX.yf (WX.yz (WX.yf ?_)))))))))))
    obtain rfl:=Option.some.inj h
    refine WX.yi Try.results47 (.tmp rfl .nil) (fun w hw=>?_)
    exact ⟨y12 rfl,hw.sub .nil⟩
   ·replace h:=ym h zh7
    refine WC.skip (WX.yh (WX.a (WC.a (WL.pu rfl (WL.pu rfl (WL.nil ?_))))))
    exact WX.round (G:=Nat × Int) ⟨zh4,(i64 (z35 + 1))⟩ h (Nat.lt_succ_self _) (.cons rfl (.cons rfl (.cons rfl (.cons rfl .nil)))) .nil
  ·replace h:=ym h zh6
   refine WC.exit (WX.yd (WX.yd (WX.yy ?_)))
   exact WX.mid (G:=Unit) () h .nil .nil
 ·rintro  h
  replace h:=zqj.symm.trans h
  refine WC.b (WC.a (WL.pu rfl (WL.nil (WX.a (WC.ret ?_)))))
  obtain rfl:=Option.some.inj h
  refine WX.yi Try.results47 (.tmp rfl .nil) (fun w hw=>?_)
  exact ⟨y12 rfl,hw.sub .nil⟩
def y1g (z90 : List (List Sapi_Hop)) (zaC : (List Sapi_Hop) → Option Bool) : Option Bool :=
 (y1t z90 zaC).bind fun zlp=>some (decide (zlp ≥ 0))
set_option maxRecDepth 20000 in
theorem y3E (Z : Zp) (zf3 : Option Addr) (zf4 : Nat) (z87 : FuncId) (zaD : List Value) (z90 : List (List Sapi_Hop)) (zaC : (List Sapi_Hop) → Option Bool) (r : Bool)
  (h : y1g z90 zaC = some r) (w₀ : World) (hz : PZ [] w₀ Z)
  (zqq : ZS Z 1 (p55 Z) zf3 zf4 z90)
  (zqr : ∀ args w,(callFunc z87 args).run Try.prog w = .ok (.enter z87 args) w)
  (zqs : ∀ w : World,PZ [] w Z → ∀ (x0 : List Sapi_Hop) (ao0 : Option Addr) (cap0 : Nat) (r : Bool),ZS Z 3 (fun r x=>r = e59 x) ao0 cap0 x0 → zaC x0 = some r → Calls Try.prog z87 (([(.slice ao0 x0.length cap0)] : List Value) ++ zaD).toArray w fun e w'=>e = .returned (.bool r) ∧ Hp [] w w' []) :
  Calls Try.prog 34 #[(.slice zf3 z90.length zf4),(.func (.func z87) #[] (zaD).toArray)] w₀ fun e w'=>e = .returned (.bool r) ∧ Hp [] w₀ w' []:=by
 unfold y1g at h
 refine Calls.yo (vs:=[(.slice zf3 z90.length zf4),(.func (.func z87) #[] (zaD).toArray)]) (pre:=[]) (env:=[(0,(.slice zf3 z90.length zf4)),(1,(.func (.func z87) #[] (zaD).toArray))]) Try.func34 rfl Try.ntmps34 rfl (Hp.nil w₀ _) rfl ?_
 refine WC.b (WC.a (WL.pu rfl (WL.nil (WX.a (WC.b ?_)))))
 obtain ⟨zlp,zqt,h⟩:=zn h
 refine WC.a (WL.pu rfl (WL.pu rfl ?_))
 refine WL.b (dd:=7) rfl rfl rfl (zF (l:=[.tmp 5,.tmp 6]) Try.call47 (.cons rfl (.cons rfl .nil))) .nil (cc hz .nil fun w pz ho=>y43 _ _ _ (z74:=z87) (z8Z:=zaD) _ (z5h:=zaC) _ zqt w pz zqq zqr zqs) ?_
 refine WL.pu rfl (WL.pu rfl (WL.nil (WX.a (WC.ret ?_))))
 obtain rfl:=Option.some.inj h
 refine WX.yi Try.results34 (.tmp rfl .nil) (fun w hw=>?_)
 exact ⟨y12 rfl,hw.sub .nil⟩
def y2P (zW : Sapi_Config) (z3n : Int) (z4E : List (List Sapi_Hop)) : Option Bool :=
 (if (((decide (z3n = 0)) || (decide (z3n = 1))) && (decide (((z4E.length : Nat) : Int) = ((zW.fVLs.length : Nat) : Int)))) && (decide (((z4E.length : Nat) : Int) ≤ 16)) then (y1g z4E (fun (y0 : List Sapi_Hop)=>y14 y0 zW z3n)).bind fun zlq=>some (!zlq) else some false).bind fun zh8=>some zh8
set_option maxRecDepth 20000 in
theorem y5E (Z : Zp) (zdy : Option Addr) (zdz : Nat) (zdA : Option Addr) (zdB : Nat) (zdC : Option Addr) (zdD : Nat) (zdE : Option Addr) (zdF : Nat) (zdG : Option Addr) (zdH : Nat) (zdI : Option Addr) (zdJ : Nat) (zdK : Option Addr) (zdL : Nat) (zdM : Option Addr) (zdN : Nat) (zf5 : Option Addr) (zf6 : Nat) (zW : Sapi_Config) (z3n : Int) (z4E : List (List Sapi_Hop)) (r : Bool)
  (h : y2P zW z3n z4E = some r) (w₀ : World) (hz : PZ [] w₀ Z)
  (zqu : ZS Z 4 (y2w Z) zdy zdz zW.fModules)
  (zqv : ZS Z 4 (y2S Z) zdA zdB zW.fChannels)
  (zqw : ZS Z 4 (fun r x=>r = e64 x) zdC zdD zW.fSwitches)
  (zqx : ZS Z 4 (fun r x=>r = e62 x) zdE zdF zW.fLinks)
  (zqy : ZS Z 7 (y2F Z) zdG zdH zW.fVLs)
  (zqz : ZS Z 5 (fun r x=>r = y2Y x) zdI zdJ zW.fHealth)
  (zqA : ZS Z 3 (y2T Z) zdK zdL zW.fCauses)
  (zqB : ZS Z 4 (fun r x=>r = y2Z x) zdM zdN zW.fVersions)
  (zqC : ZS Z 1 (p55 Z) zf5 zf6 z4E) :
  Calls Try.prog 15 #[(.agg #[(.slice zdy zW.fModules.length zdz),(.slice zdA zW.fChannels.length zdB),(.slice zdC zW.fSwitches.length zdD),(.slice zdE zW.fLinks.length zdF),(.slice zdG zW.fVLs.length zdH),(.slice zdI zW.fHealth.length zdJ),(.slice zdK zW.fCauses.length zdL),(.slice zdM zW.fVersions.length zdN)]),(.int .i64 z3n),(.slice zf5 z4E.length zf6)] w₀ fun e w'=>e = .returned (.bool r) ∧ Hp [] w₀ w' []:=by
 unfold y2P at h
 refine Calls.yo (vs:=[(.agg #[(.slice zdy zW.fModules.length zdz),(.slice zdA zW.fChannels.length zdB),(.slice zdC zW.fSwitches.length zdD),(.slice zdE zW.fLinks.length zdF),(.slice zdG zW.fVLs.length zdH),(.slice zdI zW.fHealth.length zdJ),(.slice zdK zW.fCauses.length zdL),(.slice zdM zW.fVersions.length zdN)]),(.int .i64 z3n),(.slice zf5 z4E.length zf6)]) (pre:=[]) (env:=[(0,(.agg #[(.slice zdy zW.fModules.length zdz),(.slice zdA zW.fChannels.length zdB),(.slice zdC zW.fSwitches.length zdD),(.slice zdE zW.fLinks.length zdF),(.slice zdG zW.fVLs.length zdH),(.slice zdI zW.fHealth.length zdJ),(.slice zdK zW.fCauses.length zdL),(.slice zdM zW.fVersions.length zdN)])),(1,(.int .i64 z3n)),(2,(.slice zf5 z4E.length zf6))]) Try.func15 rfl Try.ntmps15 rfl (Hp.nil w₀ _) rfl ?_
 refine WC.b (WC.a ?_)
 refine WL.new (dd:=3) rfl rfl rfl (y2h (cs:=[(.slice zdy zW.fModules.length zdz),(.slice zdA zW.fChannels.length zdB),(.slice zdC zW.fSwitches.length zdD),(.slice zdE zW.fLinks.length zdF),(.slice zdG zW.fVLs.length zdH),(.slice zdI zW.fHealth.length zdJ),(.slice zdK zW.fCauses.length zdL),(.slice zdM zW.fVersions.length zdN)]) rfl rfl) ?_
 intro zqD _
 refine WL.new (dd:=4) rfl rfl rfl (y2h (cs:=[(.int .i64 z3n)]) rfl rfl) ?_
 intro zqE _
 refine WL.pu rfl (WL.nil (WX.a (WC.b ?_)))
 obtain ⟨zh8,zlr,h⟩:=zn h
 refine WC.a ?_
 refine WL.a (d:=7) rfl rfl rfl (yb yg rfl (yc .here rfl)) ?_
 refine WL.pu rfl (WL.pu rfl ?_)
 refine WL.seg false 2 9 (B:=(decide (z3n = 0)) || (decide (z3n = 1))) rfl rfl rfl rfl rfl rfl (fun h=>(y24 h).symm) (fun _ zqF=>?_) ?_
 ·skip
  refine WL.a (d:=10) rfl rfl rfl (yb yg rfl (yc .here rfl)) ?_
  refine WL.pu rfl (WL.pu rfl ?_)
  exact WL.yu (y25 zqF) rfl rfl .all
 refine WL.pu rfl ?_
 refine WL.seg true 6 13 (B:=((decide (z3n = 0)) || (decide (z3n = 1))) && (decide (((z4E.length : Nat) : Int) = ((zW.fVLs.length : Nat) : Int)))) rfl rfl rfl rfl rfl rfl (fun h=>(y2J h).symm) (fun _ zqG=>?_) ?_
 ·skip
  refine WL.pu rfl ?_
  refine WL.a (d:=15) rfl rfl rfl (yW Try.underlying32 rfl) ?_
  refine WL.a (d:=16) rfl rfl rfl (ya y70 rfl rfl) ?_
  refine WL.a (d:=17) rfl rfl rfl (yb y71 rfl (yc .h1 rfl)) ?_
  refine WL.a (d:=18) rfl rfl rfl (yW Try.underlying26 rfl) ?_
  refine WL.pu rfl (WL.pu rfl ?_)
  exact WL.yu (y2K zqG) rfl rfl .all
 refine WL.pu rfl ?_
 refine WL.seg true 3 21 (B:=(((decide (z3n = 0)) || (decide (z3n = 1))) && (decide (((z4E.length : Nat) : Int) = ((zW.fVLs.length : Nat) : Int)))) && (decide (((z4E.length : Nat) : Int) ≤ 16))) rfl rfl rfl rfl rfl rfl (fun h=>(y2J h).symm) (fun _ zqH=>?_) ?_
 ·skip
  refine WL.pu rfl ?_
  refine WL.a (d:=23) rfl rfl rfl (yW Try.underlying32 rfl) ?_
  refine WL.pu rfl (WL.pu rfl ?_)
  exact WL.yu (y2K zqH) rfl rfl .all
 refine WL.pu rfl ?_
 refine WL.seg true 4 26 (B:=zh8) rfl rfl rfl rfl rfl rfl (fun h=>(Option.some.inj (ym zlr h)).symm) (fun _ zqI=>?_) ?_
 ·skip
  have zdO:=yl zlr zqI
  obtain ⟨zlq,zqJ,zdO⟩:=zn zdO
  replace zdO:=Option.some.inj zdO
  refine WL.pu rfl ?_
  refine WL.a (d:=28) rfl rfl rfl (y6c (Eos.caps (l:=[.tmp 3,.tmp 4]) (.cons rfl (.cons rfl .nil)))) ?_
  refine WL.b (dd:=29) rfl rfl rfl (zF (l:=[.tmp 27,.tmp 28]) Try.call34 (.cons rfl (.cons rfl .nil))) .nil (ccl hz .nil (.cons .h1 (.cons .here .nil)) fun w pz ho la=>y3E _ _ _ (z87:=35) (zaD:=[(.pointer (some ⟨zqD,0,none⟩)),(.pointer (some ⟨zqE,0,none⟩))]) _ (zaC:=(fun (y0 : List Sapi_Hop)=>y14 y0 zW z3n)) _ zqJ w pz ((zqC.mono (Zle.left _ _)).weak (fun _ _ h=>y4c (Zle.left _ _) h)) Try.call35 (fun w' hz' y0 ga0 gc0 r gh0 hr=>y77 _ _ _ _ _ _ _ _ _ _ _ _ _ _ _ _ _ _ _ _ _ _ _ _ _ hr w' hz' gh0 ((zqu.mono (Zle.left _ _)).weak (fun _ _ h=>y29 (Zle.left _ _) h)) ((zqv.mono (Zle.left _ _)).weak (fun _ _ h=>y2j (Zle.left _ _) h)) (zqw.mono (Zle.left _ _)) (zqx.mono (Zle.left _ _)) ((zqy.mono (Zle.left _ _)).weak (fun _ _ h=>y2a (Zle.left _ _) h)) (zqz.mono (Zle.left _ _)) ((zqA.mono (Zle.left _ _)).weak (fun _ _ h=>y2k (Zle.left _ _) h)) (zqB.mono (Zle.left _ _)) ((la _ (.head _) _).stb) ((la _ (.tail _ (.head _)) _).stb))) ?_
  refine WL.pu rfl (WL.pu rfl ?_)
  exact WL.yu zdO rfl rfl .all
 refine WL.pu rfl (WL.nil (WX.a (WC.ret ?_)))
 obtain rfl:=Option.some.inj h
 refine WX.yi Try.results15 (.tmp rfl .nil) (fun w hw=>?_)
 exact ⟨y12 rfl,hw.sub .nil⟩
def y1Z (zb : List zSt) (zG : Sapi_Config) (z75 : Option Bool) : Nat → Int → Option Bool
 | 0,_=>none
 | zh9 + 1,ze=>if decide (ze < ((zb.length : Nat) : Int)) then chk ((0 : Int) ≤ ze ∧ ze < ((zb.length : Nat) : Int)) (chk (((((((decide (((nth zb ze).fTime) < 0)) || (decide (((nth zb ze).fTime) > 536870912))) || (decide (((nth zb ze).fVL) < 0))) || (decide (((nth zb ze).fVL) ≥ ((zG.fVLs.length : Nat) : Int)))) || (decide (((nth zb ze).fSize) < 1))) || (decide (((nth zb ze).fSize) > 72))) = false → ((decide (ze > 0)) = true → ((0 : Int) ≤ (i64 (ze - 1)) ∧ (i64 (ze - 1)) < ((zb.length : Nat) : Int)))) (if ((((((decide (((nth zb ze).fTime) < 0)) || (decide (((nth zb ze).fTime) > 536870912))) || (decide (((nth zb ze).fVL) < 0))) || (decide (((nth zb ze).fVL) ≥ ((zG.fVLs.length : Nat) : Int)))) || (decide (((nth zb ze).fSize) < 1))) || (decide (((nth zb ze).fSize) > 72))) || ((decide (ze > 0)) && (decide (((nth zb (i64 (ze - 1))).fTime) > ((nth zb ze).fTime)))) then some false else y1Z zb zG z75 zh9 (i64 (ze + 1)))) else z75
theorem y5L {n : Nat} {zb : List zSt} {zG : Sapi_Config} {z75 : Option Bool} {ze : Int} {r : Bool} (h : y1Z zb zG z75 n ze = some r) : ∃ m,n = m + 1:=by
 cases n with
 | zero=>cases h
 | succ m=>exact ⟨m,rfl⟩
def y3y (zG : Sapi_Config) (zb : List zSt) : Option Bool :=
 if decide (((zb.length : Nat) : Int) > 40) then some false else jp0 (some true) fun z75=>y1Z zb zG z75 yt 0
set_option maxRecDepth 20000 in
theorem y84 (Z : Zp) (zaE : Option Addr) (zaF : Nat) (zaG : Option Addr) (zaH : Nat) (zaI : Option Addr) (zaJ : Nat) (zaK : Option Addr) (zaL : Nat) (zaM : Option Addr) (zaN : Nat) (zaO : Option Addr) (zaP : Nat) (zaQ : Option Addr) (zaR : Nat) (zaS : Option Addr) (zaT : Nat) (z2c : Option Addr) (z2d : Nat) (zG : Sapi_Config) (zb : List zSt) (r : Bool)
  (h : y3y zG zb = some r) (w₀ : World) (hz : PZ [] w₀ Z)
  (zwE : ZS Z 4 (y2w Z) zaE zaF zG.fModules)
  (zwF : ZS Z 4 (y2S Z) zaG zaH zG.fChannels)
  (zwG : ZS Z 4 (fun r x=>r = e64 x) zaI zaJ zG.fSwitches)
  (zwH : ZS Z 4 (fun r x=>r = e62 x) zaK zaL zG.fLinks)
  (zwI : ZS Z 7 (y2F Z) zaM zaN zG.fVLs)
  (zwJ : ZS Z 5 (fun r x=>r = y2Y x) zaO zaP zG.fHealth)
  (zwK : ZS Z 3 (y2T Z) zaQ zaR zG.fCauses)
  (zwL : ZS Z 4 (fun r x=>r = y2Z x) zaS zaT zG.fVersions)
  (zls : ZS Z 3 (fun r x=>r = e53 x) z2c z2d zb) :
  Calls Try.prog 22 #[(.agg #[(.slice zaE zG.fModules.length zaF),(.slice zaG zG.fChannels.length zaH),(.slice zaI zG.fSwitches.length zaJ),(.slice zaK zG.fLinks.length zaL),(.slice zaM zG.fVLs.length zaN),(.slice zaO zG.fHealth.length zaP),(.slice zaQ zG.fCauses.length zaR),(.slice zaS zG.fVersions.length zaT)]),(.slice z2c zb.length z2d)] w₀ fun e w'=>e = .returned (.bool r) ∧ Hp [] w₀ w' []:=by
 unfold y3y at h
 refine Calls.yo (vs:=[(.agg #[(.slice zaE zG.fModules.length zaF),(.slice zaG zG.fChannels.length zaH),(.slice zaI zG.fSwitches.length zaJ),(.slice zaK zG.fLinks.length zaL),(.slice zaM zG.fVLs.length zaN),(.slice zaO zG.fHealth.length zaP),(.slice zaQ zG.fCauses.length zaR),(.slice zaS zG.fVersions.length zaT)]),(.slice z2c zb.length z2d)]) (pre:=[]) (env:=[(0,(.agg #[(.slice zaE zG.fModules.length zaF),(.slice zaG zG.fChannels.length zaH),(.slice zaI zG.fSwitches.length zaJ),(.slice zaK zG.fLinks.length zaL),(.slice zaM zG.fVLs.length zaN),(.slice zaO zG.fHealth.length zaP),(.slice zaQ zG.fCauses.length zaR),(.slice zaS zG.fVersions.length zaT)])),(1,(.slice z2c zb.length z2d))]) Try.func22 rfl Try.ntmps22 rfl (Hp.nil w₀ _) rfl ?_
 refine WC.b (WC.a ?_)
 refine WL.new (dd:=2) rfl rfl rfl (y2h (cs:=[(.slice zaE zG.fModules.length zaF),(.slice zaG zG.fChannels.length zaH),(.slice zaI zG.fSwitches.length zaJ),(.slice zaK zG.fLinks.length zaL),(.slice zaM zG.fVLs.length zaN),(.slice zaO zG.fHealth.length zaP),(.slice zaQ zG.fCauses.length zaR),(.slice zaS zG.fVersions.length zaT)]) rfl rfl) ?_
 intro z76 _
 refine WL.pu rfl (WL.nil (WX.a (WC.b (WC.b (WC.a (WL.pu rfl ?_))))))
 refine WL.a (d:=8) rfl rfl rfl (yW Try.underlying33 rfl) ?_
 refine WL.pu rfl (WL.nil (WX.a ?_))
 refine WC.cond rfl (fun zha=>?_) (fun zha=>?_)
 ·replace h:=yl h zha
  refine WC.b (WC.a (WL.pu rfl (WL.nil (WX.a (WC.ret (WX.yf ?_))))))
  obtain rfl:=Option.some.inj h
  refine WX.yi Try.results22 (.tmp rfl .nil) (fun w hw=>?_)
  exact ⟨y12 rfl,hw.sub .nil⟩
 ·replace h:=ym h zha
  refine WC.skip (WX.a ?_)
  obtain ⟨z75,zqK,h⟩:=y2E h
  refine WC.y2u ((z75 = some r)) ([]) ([]) ?_ ?_
  ·skip
   refine WC.b (WC.a (WL.pu rfl ?_))
   refine WL.a (d:=11) rfl rfl rfl (yW Try.underlying33 rfl) ?_
   refine WL.pu rfl (WL.nil (WX.a (WC.block ?_)))
   refine WC.y4a (fun (zaU : Nat) (ze : Int)=>(y1Z zb zG z75 zaU ze = some r)) (fun (zaU : Nat) (ze : Int)=>[(1,(.slice z2c zb.length z2d)),(2,(.pointer (some ⟨z76,0,none⟩))),(10,(.slice z2c zb.length z2d)),(11,(.int .i64 ((zb.length : Nat) : Int))),(12,(.int .i64 ze))]) (fun (zaU : Nat) (ze : Int)=>[stb z76 31 [(.slice zaE zG.fModules.length zaF),(.slice zaG zG.fChannels.length zaH),(.slice zaI zG.fSwitches.length zaJ),(.slice zaK zG.fLinks.length zaL),(.slice zaM zG.fVLs.length zaN),(.slice zaO zG.fHealth.length zaP),(.slice zaQ zG.fCauses.length zaR),(.slice zaS zG.fVersions.length zaT)]]) (fun (zaU : Nat) (ze : Int)=>zaU) ⟨yt,0⟩ h (.cons rfl (.cons rfl (.cons rfl (.cons rfl (.cons rfl .nil))))) (.cons .here .nil) ?_
   rintro zaU ze h
   obtain ⟨zh9,rfl⟩:=y5L h
   rw [y1Z] at h
   refine WC.b (WC.a (WL.pu rfl (WL.nil (WX.a (WC.b ?_)))))
   refine WC.cond rfl (fun zhb=>?_) (fun zhb=>?_)
   ·replace h:=yl h zhb
    refine WC.skip (WX.a (WC.b (WC.block (WC.b ?_))))
    obtain ⟨zqL,h⟩:=yj h
    refine WC.a (WL.pu rfl ?_)
    refine WL.znth (dd:=15) rfl rfl (Z:=Z) (Pr:=(fun r x=>r = e53 x)) y4p rfl rfl zls zqL ?_
    rintro zwM zwN zqM zwO rfl
    refine WL.a (d:=16) rfl rfl rfl (yN y73 rfl (y3u hz.pv zqM) rfl) ?_
    refine WL.new (dd:=6) rfl rfl rfl (y2d (cs:=[(.int .i64 0),(.int .i64 0),(.int .i64 0)]) y6j rfl) ?_
    intro zdP _
    refine WL.pu rfl ?_
    refine WL.y1u rfl rfl (y1K y74 rfl rfl rfl .here rfl rfl rfl) ?_
    refine WL.nil (WX.a (WC.b ?_))
    obtain ⟨zqN,h⟩:=yj h
    refine WC.yY (fun i=>[].contains i) [] rfl ?_
    refine WD.a (i:=0) (d:=17) (by kernel_rfl) rfl (z2 (by kernel_rfl)) (z3 (by kernel_rfl)) rfl rfl rfl (fun _=>ya y40 rfl rfl) ?_
    refine WD.e (i:=1) (d:=18) (by kernel_rfl) rfl (z2 (by kernel_rfl)) (z3 (by kernel_rfl)) rfl rfl rfl (yb yg rfl (yc .here rfl)) ?_
    refine WD.a (i:=2) (d:=19) (by kernel_rfl) rfl (z2 (by kernel_rfl)) (z3 (by kernel_rfl)) rfl rfl rfl (fun _=>y3i rfl rfl) ?_
    refine WD.a (i:=3) (d:=20) (by kernel_rfl) rfl (z2 (by kernel_rfl)) (z3 (by kernel_rfl)) rfl rfl rfl (fun _=>q_m rfl) ?_
    refine WD.mid (fuel':=38) [(1,(.slice z2c zb.length z2d)),(2,(.pointer (some ⟨z76,0,none⟩))),(10,(.slice z2c zb.length z2d)),(11,(.int .i64 ((zb.length : Nat) : Int))),(12,(.int .i64 ze)),(6,(.pointer (some ⟨zdP,0,none⟩))),(5,(.int .i64 ze)),(20,(.bool (decide (((nth zb ze).fTime) < 0)))),(24,(.bool ((decide (((nth zb ze).fTime) < 0)) || (decide (((nth zb ze).fTime) > 536870912)))))] (y1C 46 [7,6,5,4,3,2,1,0]) ?_ (fun zlt=>?_)
    rotate_left
    ·rcases Bool.eq_false_or_eq_true (decide (((nth zb ze).fTime) < 0)) with hb' | hb'
     ·have zhc:=hb'; clear hb'
      refine WD.pin (i:=20) rfl zhc ?_
      refine WD.b (i:=4) (d:=21) (by kernel_rfl) rfl (z2 (by kernel_rfl)) (z3 (by kernel_rfl)) rfl rfl rfl ?_
      refine WD.b (i:=5) (d:=22) (by kernel_rfl) rfl (z2 (by kernel_rfl)) (z3 (by kernel_rfl)) rfl rfl rfl ?_
      refine WD.b (i:=6) (d:=23) (by kernel_rfl) rfl (z2 (by kernel_rfl)) (z3 (by kernel_rfl)) rfl rfl rfl ?_
      refine WD.a (i:=7) (d:=24) (by kernel_rfl) rfl (z2 (by kernel_rfl)) (z3 (by kernel_rfl)) rfl rfl rfl (fun _=>y1o rfl rfl) ?_
      refine WD.yO (.cons .here (.cons .here .nil)) ?_ zlt
      exact (.cons rfl (.cons rfl (.cons rfl (.cons rfl (.cons rfl (.cons rfl (.cons rfl (.cons (zm (Eq.symm zhc)) (.cons (zm (y24 zhc)) .nil)))))))))
     ·have zhd:=hb'; clear hb'
      refine WD.pin (i:=20) rfl zhd ?_
      refine WD.a (i:=4) (d:=21) (by kernel_rfl) rfl (z2 (by kernel_rfl)) (z3 (by kernel_rfl)) rfl rfl rfl (fun _=>ya y40 rfl rfl) ?_
      refine WD.e (i:=5) (d:=22) (by kernel_rfl) rfl (z2 (by kernel_rfl)) (z3 (by kernel_rfl)) rfl rfl rfl (yb yg rfl (yc .here rfl)) ?_
      refine WD.a (i:=6) (d:=23) (by kernel_rfl) rfl (z2 (by kernel_rfl)) (z3 (by kernel_rfl)) rfl rfl rfl (fun _=>y3M rfl rfl) ?_
      refine WD.a (i:=7) (d:=24) (by kernel_rfl) rfl (z2 (by kernel_rfl)) (z3 (by kernel_rfl)) rfl rfl rfl (fun _=>y1p rfl rfl) ?_
      refine WD.yO (.cons .here (.cons .here .nil)) ?_ zlt
      exact (.cons rfl (.cons rfl (.cons rfl (.cons rfl (.cons rfl (.cons rfl (.cons rfl (.cons (zm (Eq.symm zhd)) (.cons (zm (y25 zhd)) .nil)))))))))
    refine WD.d #[true,true,true,true,true,true,true,true,false,false,false,false,false,false,false,false,false,false,false,false,false,false,false,false,false,false,false,false,false,false,false,false,false,false,false,false,false,false,false,false,false,false,false,false,false,false] (by kernel_rfl) ?_
    refine WD.a (i:=8) (d:=25) (by kernel_rfl) rfl (z2 (by kernel_rfl)) (z3 (by kernel_rfl)) rfl rfl rfl (fun _=>q_m rfl) ?_
    refine WD.mid (fuel':=33) [(1,(.slice z2c zb.length z2d)),(2,(.pointer (some ⟨z76,0,none⟩))),(10,(.slice z2c zb.length z2d)),(11,(.int .i64 ((zb.length : Nat) : Int))),(12,(.int .i64 ze)),(6,(.pointer (some ⟨zdP,0,none⟩))),(5,(.int .i64 ze)),(25,(.bool ((decide (((nth zb ze).fTime) < 0)) || (decide (((nth zb ze).fTime) > 536870912))))),(29,(.bool (((decide (((nth zb ze).fTime) < 0)) || (decide (((nth zb ze).fTime) > 536870912))) || (decide (((nth zb ze).fVL) < 0)))))] (y1C 46 [12,11,10,9,8,7,6,5,4,3,2,1,0]) ?_ (fun zlu=>?_)
    rotate_left
    ·rcases Bool.eq_false_or_eq_true ((decide (((nth zb ze).fTime) < 0)) || (decide (((nth zb ze).fTime) > 536870912))) with hb' | hb'
     ·have zhe:=hb'; clear hb'
      refine WD.pin (i:=25) rfl zhe ?_
      refine WD.b (i:=9) (d:=26) (by kernel_rfl) rfl (z2 (by kernel_rfl)) (z3 (by kernel_rfl)) rfl rfl rfl ?_
      refine WD.b (i:=10) (d:=27) (by kernel_rfl) rfl (z2 (by kernel_rfl)) (z3 (by kernel_rfl)) rfl rfl rfl ?_
      refine WD.b (i:=11) (d:=28) (by kernel_rfl) rfl (z2 (by kernel_rfl)) (z3 (by kernel_rfl)) rfl rfl rfl ?_
      refine WD.a (i:=12) (d:=29) (by kernel_rfl) rfl (z2 (by kernel_rfl)) (z3 (by kernel_rfl)) rfl rfl rfl (fun _=>y1o rfl rfl) ?_
      refine WD.yO (.cons .here (.cons .here .nil)) ?_ zlu
      exact (.cons rfl (.cons rfl (.cons rfl (.cons rfl (.cons rfl (.cons rfl (.cons rfl (.cons (zm (Eq.symm zhe)) (.cons (zm (y24 zhe)) .nil)))))))))
     ·have zhf:=hb'; clear hb'
      refine WD.pin (i:=25) rfl zhf ?_
      refine WD.a (i:=9) (d:=26) (by kernel_rfl) rfl (z2 (by kernel_rfl)) (z3 (by kernel_rfl)) rfl rfl rfl (fun _=>ya y4L rfl rfl) ?_
      refine WD.e (i:=10) (d:=27) (by kernel_rfl) rfl (z2 (by kernel_rfl)) (z3 (by kernel_rfl)) rfl rfl rfl (yb yg rfl (yc .here rfl)) ?_
      refine WD.a (i:=11) (d:=28) (by kernel_rfl) rfl (z2 (by kernel_rfl)) (z3 (by kernel_rfl)) rfl rfl rfl (fun _=>y3i rfl rfl) ?_
      refine WD.a (i:=12) (d:=29) (by kernel_rfl) rfl (z2 (by kernel_rfl)) (z3 (by kernel_rfl)) rfl rfl rfl (fun _=>y1p rfl rfl) ?_
      refine WD.yO (.cons .here (.cons .here .nil)) ?_ zlu
      exact (.cons rfl (.cons rfl (.cons rfl (.cons rfl (.cons rfl (.cons rfl (.cons rfl (.cons (zm (Eq.symm zhf)) (.cons (zm (y25 zhf)) .nil)))))))))
    refine WD.d #[true,true,true,true,true,true,true,true,true,true,true,true,true,false,false,false,false,false,false,false,false,false,false,false,false,false,false,false,false,false,false,false,false,false,false,false,false,false,false,false,false,false,false,false,false,false] (by kernel_rfl) ?_
    refine WD.a (i:=13) (d:=30) (by kernel_rfl) rfl (z2 (by kernel_rfl)) (z3 (by kernel_rfl)) rfl rfl rfl (fun _=>q_m rfl) ?_
    refine WD.mid (fuel':=25) [(1,(.slice z2c zb.length z2d)),(2,(.pointer (some ⟨z76,0,none⟩))),(10,(.slice z2c zb.length z2d)),(11,(.int .i64 ((zb.length : Nat) : Int))),(12,(.int .i64 ze)),(6,(.pointer (some ⟨zdP,0,none⟩))),(5,(.int .i64 ze)),(30,(.bool (((decide (((nth zb ze).fTime) < 0)) || (decide (((nth zb ze).fTime) > 536870912))) || (decide (((nth zb ze).fVL) < 0))))),(37,(.bool ((((decide (((nth zb ze).fTime) < 0)) || (decide (((nth zb ze).fTime) > 536870912))) || (decide (((nth zb ze).fVL) < 0))) || (decide (((nth zb ze).fVL) ≥ ((zG.fVLs.length : Nat) : Int))))))] (y1C 46 [20,19,18,17,16,15,14,13,12,11,10,9,8,7,6,5,4,3,2,1,0]) ?_ (fun zlv=>?_)
    rotate_left
    ·rcases Bool.eq_false_or_eq_true (((decide (((nth zb ze).fTime) < 0)) || (decide (((nth zb ze).fTime) > 536870912))) || (decide (((nth zb ze).fVL) < 0))) with hb' | hb'
     ·have zhg:=hb'; clear hb'
      refine WD.pin (i:=30) rfl zhg ?_
      refine WD.b (i:=14) (d:=31) (by kernel_rfl) rfl (z2 (by kernel_rfl)) (z3 (by kernel_rfl)) rfl rfl rfl ?_
      refine WD.b (i:=15) (d:=32) (by kernel_rfl) rfl (z2 (by kernel_rfl)) (z3 (by kernel_rfl)) rfl rfl rfl ?_
      refine WD.b (i:=16) (d:=33) (by kernel_rfl) rfl (z2 (by kernel_rfl)) (z3 (by kernel_rfl)) rfl rfl rfl ?_
      refine WD.b (i:=17) (d:=34) (by kernel_rfl) rfl (z2 (by kernel_rfl)) (z3 (by kernel_rfl)) rfl rfl rfl ?_
      refine WD.b (i:=18) (d:=35) (by kernel_rfl) rfl (z2 (by kernel_rfl)) (z3 (by kernel_rfl)) rfl rfl rfl ?_
      refine WD.b (i:=19) (d:=36) (by kernel_rfl) rfl (z2 (by kernel_rfl)) (z3 (by kernel_rfl)) rfl rfl rfl ?_
      refine WD.a (i:=20) (d:=37) (by kernel_rfl) rfl (z2 (by kernel_rfl)) (z3 (by kernel_rfl)) rfl rfl rfl (fun _=>y1o rfl rfl) ?_
      refine WD.yO (.cons .here (.cons .here .nil)) ?_ zlv
      exact (.cons rfl (.cons rfl (.cons rfl (.cons rfl (.cons rfl (.cons rfl (.cons rfl (.cons (zm (Eq.symm zhg)) (.cons (zm (y24 zhg)) .nil)))))))))
     ·have zhh:=hb'; clear hb'
      refine WD.pin (i:=30) rfl zhh ?_
      refine WD.a (i:=14) (d:=31) (by kernel_rfl) rfl (z2 (by kernel_rfl)) (z3 (by kernel_rfl)) rfl rfl rfl (fun _=>ya y4L rfl rfl) ?_
      refine WD.e (i:=15) (d:=32) (by kernel_rfl) rfl (z2 (by kernel_rfl)) (z3 (by kernel_rfl)) rfl rfl rfl (yb yg rfl (yc .here rfl)) ?_
      refine WD.a (i:=16) (d:=33) (by kernel_rfl) rfl (z2 (by kernel_rfl)) (z3 (by kernel_rfl)) rfl rfl rfl (fun _=>ya y70 rfl rfl) ?_
      refine WD.e (i:=17) (d:=34) (by kernel_rfl) rfl (z2 (by kernel_rfl)) (z3 (by kernel_rfl)) rfl rfl rfl (yb y71 rfl (yc .h1 rfl)) ?_
      refine WD.a (i:=18) (d:=35) (by kernel_rfl) rfl (z2 (by kernel_rfl)) (z3 (by kernel_rfl)) rfl rfl rfl (fun _=>yW Try.underlying26 rfl) ?_
      refine WD.a (i:=19) (d:=36) (by kernel_rfl) rfl (z2 (by kernel_rfl)) (z3 (by kernel_rfl)) rfl rfl rfl (fun _=>q_geq rfl rfl) ?_
      refine WD.a (i:=20) (d:=37) (by kernel_rfl) rfl (z2 (by kernel_rfl)) (z3 (by kernel_rfl)) rfl rfl rfl (fun _=>y1p rfl rfl) ?_
      refine WD.yO (.cons .here (.cons .here .nil)) ?_ zlv
      exact (.cons rfl (.cons rfl (.cons rfl (.cons rfl (.cons rfl (.cons rfl (.cons rfl (.cons (zm (Eq.symm zhh)) (.cons (zm (y25 zhh)) .nil)))))))))
    refine WD.d #[true,true,true,true,true,true,true,true,true,true,true,true,true,true,true,true,true,true,true,true,true,false,false,false,false,false,false,false,false,false,false,false,false,false,false,false,false,false,false,false,false,false,false,false,false,false] (by kernel_rfl) ?_
    refine WD.a (i:=21) (d:=38) (by kernel_rfl) rfl (z2 (by kernel_rfl)) (z3 (by kernel_rfl)) rfl rfl rfl (fun _=>q_m rfl) ?_
    refine WD.mid (fuel':=20) [(1,(.slice z2c zb.length z2d)),(2,(.pointer (some ⟨z76,0,none⟩))),(10,(.slice z2c zb.length z2d)),(11,(.int .i64 ((zb.length : Nat) : Int))),(12,(.int .i64 ze)),(6,(.pointer (some ⟨zdP,0,none⟩))),(5,(.int .i64 ze)),(38,(.bool ((((decide (((nth zb ze).fTime) < 0)) || (decide (((nth zb ze).fTime) > 536870912))) || (decide (((nth zb ze).fVL) < 0))) || (decide (((nth zb ze).fVL) ≥ ((zG.fVLs.length : Nat) : Int)))))),(42,(.bool (((((decide (((nth zb ze).fTime) < 0)) || (decide (((nth zb ze).fTime) > 536870912))) || (decide (((nth zb ze).fVL) < 0))) || (decide (((nth zb ze).fVL) ≥ ((zG.fVLs.length : Nat) : Int)))) || (decide (((nth zb ze).fSize) < 1)))))] (y1C 46 [25,24,23,22,21,20,19,18,17,16,15,14,13,12,11,10,9,8,7,6,5,4,3,2,1,0]) ?_ (fun zlw=>?_)
    rotate_left
    ·rcases Bool.eq_false_or_eq_true ((((decide (((nth zb ze).fTime) < 0)) || (decide (((nth zb ze).fTime) > 536870912))) || (decide (((nth zb ze).fVL) < 0))) || (decide (((nth zb ze).fVL) ≥ ((zG.fVLs.length : Nat) : Int)))) with hb' | hb'
     ·have zhi:=hb'; clear hb'
      refine WD.pin (i:=38) rfl zhi ?_
      refine WD.b (i:=22) (d:=39) (by kernel_rfl) rfl (z2 (by kernel_rfl)) (z3 (by kernel_rfl)) rfl rfl rfl ?_
      refine WD.b (i:=23) (d:=40) (by kernel_rfl) rfl (z2 (by kernel_rfl)) (z3 (by kernel_rfl)) rfl rfl rfl ?_
      refine WD.b (i:=24) (d:=41) (by kernel_rfl) rfl (z2 (by kernel_rfl)) (z3 (by kernel_rfl)) rfl rfl rfl ?_
      refine WD.a (i:=25) (d:=42) (by kernel_rfl) rfl (z2 (by kernel_rfl)) (z3 (by kernel_rfl)) rfl rfl rfl (fun _=>y1o rfl rfl) ?_
      refine WD.yO (.cons .here (.cons .here .nil)) ?_ zlw
      exact (.cons rfl (.cons rfl (.cons rfl (.cons rfl (.cons rfl (.cons rfl (.cons rfl (.cons (zm (Eq.symm zhi)) (.cons (zm (y24 zhi)) .nil)))))))))
     ·have zhj:=hb'; clear hb'
      refine WD.pin (i:=38) rfl zhj ?_
      refine WD.a (i:=22) (d:=39) (by kernel_rfl) rfl (z2 (by kernel_rfl)) (z3 (by kernel_rfl)) rfl rfl rfl (fun _=>ya y5Z rfl rfl) ?_
      refine WD.e (i:=23) (d:=40) (by kernel_rfl) rfl (z2 (by kernel_rfl)) (z3 (by kernel_rfl)) rfl rfl rfl (yb yg rfl (yc .here rfl)) ?_
      refine WD.a (i:=24) (d:=41) (by kernel_rfl) rfl (z2 (by kernel_rfl)) (z3 (by kernel_rfl)) rfl rfl rfl (fun _=>y3i rfl rfl) ?_
      refine WD.a (i:=25) (d:=42) (by kernel_rfl) rfl (z2 (by kernel_rfl)) (z3 (by kernel_rfl)) rfl rfl rfl (fun _=>y1p rfl rfl) ?_
      refine WD.yO (.cons .here (.cons .here .nil)) ?_ zlw
      exact (.cons rfl (.cons rfl (.cons rfl (.cons rfl (.cons rfl (.cons rfl (.cons rfl (.cons (zm (Eq.symm zhj)) (.cons (zm (y25 zhj)) .nil)))))))))
    refine WD.d #[true,true,true,true,true,true,true,true,true,true,true,true,true,true,true,true,true,true,true,true,true,true,true,true,true,true,false,false,false,false,false,false,false,false,false,false,false,false,false,false,false,false,false,false,false,false] (by kernel_rfl) ?_
    refine WD.a (i:=26) (d:=43) (by kernel_rfl) rfl (z2 (by kernel_rfl)) (z3 (by kernel_rfl)) rfl rfl rfl (fun _=>q_m rfl) ?_
    refine WD.mid (fuel':=15) [(1,(.slice z2c zb.length z2d)),(2,(.pointer (some ⟨z76,0,none⟩))),(10,(.slice z2c zb.length z2d)),(11,(.int .i64 ((zb.length : Nat) : Int))),(12,(.int .i64 ze)),(6,(.pointer (some ⟨zdP,0,none⟩))),(5,(.int .i64 ze)),(43,(.bool (((((decide (((nth zb ze).fTime) < 0)) || (decide (((nth zb ze).fTime) > 536870912))) || (decide (((nth zb ze).fVL) < 0))) || (decide (((nth zb ze).fVL) ≥ ((zG.fVLs.length : Nat) : Int)))) || (decide (((nth zb ze).fSize) < 1))))),(47,(.bool ((((((decide (((nth zb ze).fTime) < 0)) || (decide (((nth zb ze).fTime) > 536870912))) || (decide (((nth zb ze).fVL) < 0))) || (decide (((nth zb ze).fVL) ≥ ((zG.fVLs.length : Nat) : Int)))) || (decide (((nth zb ze).fSize) < 1))) || (decide (((nth zb ze).fSize) > 72)))))] (y1C 46 [30,29,28,27,26,25,24,23,22,21,20,19,18,17,16,15,14,13,12,11,10,9,8,7,6,5,4,3,2,1,0]) ?_ (fun zlx=>?_)
    rotate_left
    ·rcases Bool.eq_false_or_eq_true (((((decide (((nth zb ze).fTime) < 0)) || (decide (((nth zb ze).fTime) > 536870912))) || (decide (((nth zb ze).fVL) < 0))) || (decide (((nth zb ze).fVL) ≥ ((zG.fVLs.length : Nat) : Int)))) || (decide (((nth zb ze).fSize) < 1))) with hb' | hb'
     ·have zhk:=hb'; clear hb'
      refine WD.pin (i:=43) rfl zhk ?_
      refine WD.b (i:=27) (d:=44) (by kernel_rfl) rfl (z2 (by kernel_rfl)) (z3 (by kernel_rfl)) rfl rfl rfl ?_
      refine WD.b (i:=28) (d:=45) (by kernel_rfl) rfl (z2 (by kernel_rfl)) (z3 (by kernel_rfl)) rfl rfl rfl ?_
      refine WD.b (i:=29) (d:=46) (by kernel_rfl) rfl (z2 (by kernel_rfl)) (z3 (by kernel_rfl)) rfl rfl rfl ?_
      refine WD.a (i:=30) (d:=47) (by kernel_rfl) rfl (z2 (by kernel_rfl)) (z3 (by kernel_rfl)) rfl rfl rfl (fun _=>y1o rfl rfl) ?_
      refine WD.yO (.cons .here (.cons .here .nil)) ?_ zlx
      exact (.cons rfl (.cons rfl (.cons rfl (.cons rfl (.cons rfl (.cons rfl (.cons rfl (.cons (zm (Eq.symm zhk)) (.cons (zm (y24 zhk)) .nil)))))))))
     ·have zhl:=hb'; clear hb'
      refine WD.pin (i:=43) rfl zhl ?_
      refine WD.a (i:=27) (d:=44) (by kernel_rfl) rfl (z2 (by kernel_rfl)) (z3 (by kernel_rfl)) rfl rfl rfl (fun _=>ya y5Z rfl rfl) ?_
      refine WD.e (i:=28) (d:=45) (by kernel_rfl) rfl (z2 (by kernel_rfl)) (z3 (by kernel_rfl)) rfl rfl rfl (yb yg rfl (yc .here rfl)) ?_
      refine WD.a (i:=29) (d:=46) (by kernel_rfl) rfl (z2 (by kernel_rfl)) (z3 (by kernel_rfl)) rfl rfl rfl (fun _=>y3M rfl rfl) ?_
      refine WD.a (i:=30) (d:=47) (by kernel_rfl) rfl (z2 (by kernel_rfl)) (z3 (by kernel_rfl)) rfl rfl rfl (fun _=>y1p rfl rfl) ?_
      refine WD.yO (.cons .here (.cons .here .nil)) ?_ zlx
      exact (.cons rfl (.cons rfl (.cons rfl (.cons rfl (.cons rfl (.cons rfl (.cons rfl (.cons (zm (Eq.symm zhl)) (.cons (zm (y25 zhl)) .nil)))))))))
    refine WD.d #[true,true,true,true,true,true,true,true,true,true,true,true,true,true,true,true,true,true,true,true,true,true,true,true,true,true,true,true,true,true,true,false,false,false,false,false,false,false,false,false,false,false,false,false,false,false] (by kernel_rfl) ?_
    refine WD.a (i:=31) (d:=48) (by kernel_rfl) rfl (z2 (by kernel_rfl)) (z3 (by kernel_rfl)) rfl rfl rfl (fun _=>q_m rfl) ?_
    refine WD.mid (fuel':=0) [(1,(.slice z2c zb.length z2d)),(2,(.pointer (some ⟨z76,0,none⟩))),(10,(.slice z2c zb.length z2d)),(11,(.int .i64 ((zb.length : Nat) : Int))),(12,(.int .i64 ze)),(48,(.bool ((((((decide (((nth zb ze).fTime) < 0)) || (decide (((nth zb ze).fTime) > 536870912))) || (decide (((nth zb ze).fVL) < 0))) || (decide (((nth zb ze).fVL) ≥ ((zG.fVLs.length : Nat) : Int)))) || (decide (((nth zb ze).fSize) < 1))) || (decide (((nth zb ze).fSize) > 72))))),(62,(.bool (((((((decide (((nth zb ze).fTime) < 0)) || (decide (((nth zb ze).fTime) > 536870912))) || (decide (((nth zb ze).fVL) < 0))) || (decide (((nth zb ze).fVL) ≥ ((zG.fVLs.length : Nat) : Int)))) || (decide (((nth zb ze).fSize) < 1))) || (decide (((nth zb ze).fSize) > 72))) || ((decide (ze > 0)) && (decide (((nth zb (i64 (ze - 1))).fTime) > ((nth zb ze).fTime)))))))] (y1C 46 [45,44,43,42,41,40,39,38,37,36,35,34,33,32,31,30,29,28,27,26,25,24,23,22,21,20,19,18,17,16,15,14,13,12,11,10,9,8,7,6,5,4,3,2,1,0]) ?_ (fun zly=>?_)
    rotate_left
    ·rcases Bool.eq_false_or_eq_true ((((((decide (((nth zb ze).fTime) < 0)) || (decide (((nth zb ze).fTime) > 536870912))) || (decide (((nth zb ze).fVL) < 0))) || (decide (((nth zb ze).fVL) ≥ ((zG.fVLs.length : Nat) : Int)))) || (decide (((nth zb ze).fSize) < 1))) || (decide (((nth zb ze).fSize) > 72))) with hb' | hb'
     ·have zhm:=hb'; clear hb'
      refine WD.pin (i:=48) rfl zhm ?_
      refine WD.b (i:=32) (d:=49) (by kernel_rfl) rfl (z2 (by kernel_rfl)) (z3 (by kernel_rfl)) rfl rfl rfl ?_
      refine WD.b (i:=33) (d:=50) (by kernel_rfl) rfl (z2 (by kernel_rfl)) (z3 (by kernel_rfl)) rfl rfl rfl ?_
      refine WD.b (i:=34) (d:=51) (by kernel_rfl) rfl (z2 (by kernel_rfl)) (z3 (by kernel_rfl)) rfl rfl rfl ?_
      refine WD.b (i:=35) (d:=52) (by kernel_rfl) rfl (z2 (by kernel_rfl)) (z3 (by kernel_rfl)) rfl rfl rfl ?_
      refine WD.b (i:=36) (d:=53) (by kernel_rfl) rfl (z2 (by kernel_rfl)) (z3 (by kernel_rfl)) rfl rfl rfl ?_
      refine WD.b (i:=37) (d:=54) (by kernel_rfl) rfl (z2 (by kernel_rfl)) (z3 (by kernel_rfl)) rfl rfl rfl ?_
      refine WD.b (i:=38) (d:=55) (by kernel_rfl) rfl (z2 (by kernel_rfl)) (z3 (by kernel_rfl)) rfl rfl rfl ?_
      refine WD.b (i:=39) (d:=56) (by kernel_rfl) rfl (z2 (by kernel_rfl)) (z3 (by kernel_rfl)) rfl rfl rfl ?_
      refine WD.b (i:=40) (d:=57) (by kernel_rfl) rfl (z2 (by kernel_rfl)) (z3 (by kernel_rfl)) rfl rfl rfl ?_
      refine WD.b (i:=41) (d:=58) (by kernel_rfl) rfl (z2 (by kernel_rfl)) (z3 (by kernel_rfl)) rfl rfl rfl ?_
      refine WD.b (i:=42) (d:=59) (by kernel_rfl) rfl (z2 (by kernel_rfl)) (z3 (by kernel_rfl)) rfl rfl rfl ?_
      refine WD.b (i:=43) (d:=60) (by kernel_rfl) rfl (z2 (by kernel_rfl)) (z3 (by kernel_rfl)) rfl rfl rfl ?_
      refine WD.b (i:=44) (d:=61) (by kernel_rfl) rfl (z2 (by kernel_rfl)) (z3 (by kernel_rfl)) rfl rfl rfl ?_
      refine WD.a (i:=45) (d:=62) (by kernel_rfl) rfl (z2 (by kernel_rfl)) (z3 (by kernel_rfl)) rfl rfl rfl (fun _=>y1o rfl rfl) ?_
      refine WD.yO (.cons .here (.cons .here .nil)) ?_ zly
      exact (.cons rfl (.cons rfl (.cons rfl (.cons rfl (.cons rfl (.cons (zm (Eq.symm zhm)) (.cons (zm (y24 zhm)) .nil)))))))
     ·have zf7:=hb'; clear hb'
      have zqO:=zqN zf7
      refine WD.pin (i:=48) rfl zf7 ?_
      refine WD.a (i:=32) (d:=49) (by kernel_rfl) rfl (z2 (by kernel_rfl)) (z3 (by kernel_rfl)) rfl rfl rfl (fun _=>q_m rfl) ?_
      refine WD.a (i:=33) (d:=50) (by kernel_rfl) rfl (z2 (by kernel_rfl)) (z3 (by kernel_rfl)) rfl rfl rfl (fun _=>y3M rfl rfl) ?_
      refine WD.a (i:=34) (d:=51) (by kernel_rfl) rfl (z2 (by kernel_rfl)) (z3 (by kernel_rfl)) rfl rfl rfl (fun _=>q_m rfl) ?_
      refine WD.mid (fuel':=1) [(1,(.slice z2c zb.length z2d)),(2,(.pointer (some ⟨z76,0,none⟩))),(10,(.slice z2c zb.length z2d)),(11,(.int .i64 ((zb.length : Nat) : Int))),(12,(.int .i64 ze)),(48,(.bool false)),(51,(.bool (decide (ze > 0)))),(61,(.bool ((decide (ze > 0)) && (decide (((nth zb (i64 (ze - 1))).fTime) > ((nth zb ze).fTime))))))] (y1C 46 [44,43,42,41,40,39,38,37,36,35,34,33,32,31,30,29,28,27,26,25,24,23,22,21,20,19,18,17,16,15,14,13,12,11,10,9,8,7,6,5,4,3,2,1,0]) ?_ (fun zlz=>?_)
      rotate_left
      ·rcases Bool.eq_false_or_eq_true (decide (ze > 0)) with hb' | hb'
       ·have zf8:=hb'; clear hb'
        have zqP:=zqO zf8
        refine WD.pin (i:=51) rfl zf8 ?_
        refine WD.a (i:=35) (d:=52) (by kernel_rfl) rfl (z2 (by kernel_rfl)) (z3 (by kernel_rfl)) rfl rfl rfl (fun _=>q_m rfl) ?_
        refine WD.a (i:=36) (d:=53) (by kernel_rfl) rfl (z2 (by kernel_rfl)) (z3 (by kernel_rfl)) rfl rfl rfl (fun _=>q_m rfl) ?_
        refine WD.a (i:=37) (d:=54) (by kernel_rfl) rfl (z2 (by kernel_rfl)) (z3 (by kernel_rfl)) rfl rfl rfl (fun _=>y4S rfl rfl rfl) ?_
        refine WD.znth (j:=38) (dd:=55) (by kernel_rfl) rfl (z2 (by kernel_rfl)) (z3 (by kernel_rfl)) rfl rfl (Z:=Z) (Pr:=(fun r x=>r = e53 x)) y4p rfl rfl zls zqP ?_
        rintro zwP zwQ zqQ zwR rfl
        refine WD.a (i:=39) (d:=56) (by kernel_rfl) rfl (z2 (by kernel_rfl)) (z3 (by kernel_rfl)) rfl rfl rfl (fun _=>ya y40 rfl rfl) ?_
        refine WD.e (i:=40) (d:=57) (by kernel_rfl) rfl (z2 (by kernel_rfl)) (z3 (by kernel_rfl)) rfl rfl rfl (yb yg rfl (y21 hz.pv zqQ rfl)) ?_
        refine WD.a (i:=41) (d:=58) (by kernel_rfl) rfl (z2 (by kernel_rfl)) (z3 (by kernel_rfl)) rfl rfl rfl (fun _=>ya y40 rfl rfl) ?_
        refine WD.e (i:=42) (d:=59) (by kernel_rfl) rfl (z2 (by kernel_rfl)) (z3 (by kernel_rfl)) rfl rfl rfl (yb yg rfl (yc .here rfl)) ?_
        refine WD.a (i:=43) (d:=60) (by kernel_rfl) rfl (z2 (by kernel_rfl)) (z3 (by kernel_rfl)) rfl rfl rfl (fun _=>y3M rfl rfl) ?_
        refine WD.a (i:=44) (d:=61) (by kernel_rfl) rfl (z2 (by kernel_rfl)) (z3 (by kernel_rfl)) rfl rfl rfl (fun _=>y1o rfl rfl) ?_
        refine WD.yO (.cons .here (.cons .here .nil)) ?_ zlz
        exact (.cons rfl (.cons rfl (.cons rfl (.cons rfl (.cons rfl (.cons rfl (.cons (zm (Eq.symm zf8)) (.cons (zm (y2K zf8)) .nil))))))))
       ·have zhn:=hb'; clear hb'
        refine WD.pin (i:=51) rfl zhn ?_
        refine WD.b (i:=35) (d:=52) (by kernel_rfl) rfl (z2 (by kernel_rfl)) (z3 (by kernel_rfl)) rfl rfl rfl ?_
        refine WD.b (i:=36) (d:=53) (by kernel_rfl) rfl (z2 (by kernel_rfl)) (z3 (by kernel_rfl)) rfl rfl rfl ?_
        refine WD.b (i:=37) (d:=54) (by kernel_rfl) rfl (z2 (by kernel_rfl)) (z3 (by kernel_rfl)) rfl rfl rfl ?_
        refine WD.b (i:=38) (d:=55) (by kernel_rfl) rfl (z2 (by kernel_rfl)) (z3 (by kernel_rfl)) rfl rfl rfl ?_
        refine WD.b (i:=39) (d:=56) (by kernel_rfl) rfl (z2 (by kernel_rfl)) (z3 (by kernel_rfl)) rfl rfl rfl ?_
        refine WD.b (i:=40) (d:=57) (by kernel_rfl) rfl (z2 (by kernel_rfl)) (z3 (by kernel_rfl)) rfl rfl rfl ?_
        refine WD.b (i:=41) (d:=58) (by kernel_rfl) rfl (z2 (by kernel_rfl)) (z3 (by kernel_rfl)) rfl rfl rfl ?_
        refine WD.b (i:=42) (d:=59) (by kernel_rfl) rfl (z2 (by kernel_rfl)) (z3 (by kernel_rfl)) rfl rfl rfl ?_
        refine WD.b (i:=43) (d:=60) (by kernel_rfl) rfl (z2 (by kernel_rfl)) (z3 (by kernel_rfl)) rfl rfl rfl ?_
        refine WD.a (i:=44) (d:=61) (by kernel_rfl) rfl (z2 (by kernel_rfl)) (z3 (by kernel_rfl)) rfl rfl rfl (fun _=>y1p rfl rfl) ?_
        refine WD.yO (.cons .here (.cons .here .nil)) ?_ zlz
        exact (.cons rfl (.cons rfl (.cons rfl (.cons rfl (.cons rfl (.cons rfl (.cons (zm (Eq.symm zhn)) (.cons (zm (y2J zhn)) .nil))))))))
      refine WD.d #[true,true,true,true,true,true,true,true,true,true,true,true,true,true,true,true,true,true,true,true,true,true,true,true,true,true,true,true,true,true,true,true,true,true,true,true,true,true,true,true,true,true,true,true,true,false] (by kernel_rfl) ?_
      refine WD.a (i:=45) (d:=62) (by kernel_rfl) rfl (z2 (by kernel_rfl)) (z3 (by kernel_rfl)) rfl rfl rfl (fun _=>y1p rfl rfl) ?_
      refine WD.yO (.cons .here (.cons .here .nil)) ?_ zly
      exact (.cons rfl (.cons rfl (.cons rfl (.cons rfl (.cons rfl (.cons (zm (Eq.symm zf7)) (.cons (zm (y25 zf7)) .nil)))))))
    refine WD.d #[true,true,true,true,true,true,true,true,true,true,true,true,true,true,true,true,true,true,true,true,true,true,true,true,true,true,true,true,true,true,true,true,true,true,true,true,true,true,true,true,true,true,true,true,true,true] (by kernel_rfl) ?_
    refine WD.done (by kernel_rfl) ?_
    refine WX.a ?_
    refine WC.cond rfl (fun zho=>?_) (fun zho=>?_)
    ·replace h:=yl h zho
     refine WC.b (WC.a (WL.pu rfl (WL.nil (WX.a (WC.ret (WX.yz (WX.yf (WX.yf (WX.yz (WX.yf ?_))))))))))
     obtain rfl:=Option.some.inj h
     refine WX.yi Try.results22 (.tmp rfl .nil) (fun w hw=>?_)
     exact ⟨y12 rfl,hw.sub .nil⟩
    ·replace h:=ym h zho
     refine WC.skip (WX.yh (WX.a (WC.a (WL.pu rfl (WL.pu rfl (WL.nil ?_))))))
     exact WX.round (G:=Nat × Int) ⟨zh9,(i64 (ze + 1))⟩ h (Nat.lt_succ_self _) (.cons rfl (.cons rfl (.cons rfl (.cons rfl (.cons rfl .nil))))) (.cons .h1 .nil)
   ·replace h:=ym h zhb
    refine WC.exit (WX.yd (WX.yd (WX.yy ?_)))
    exact WX.mid (G:=Unit) () h .nil .nil
  ·rintro  h
   replace h:=zqK.symm.trans h
   refine WC.b (WC.a (WL.pu rfl (WL.nil (WX.a (WC.ret ?_)))))
   obtain rfl:=Option.some.inj h
   refine WX.yi Try.results22 (.tmp rfl .nil) (fun w hw=>?_)
   exact ⟨y12 rfl,hw.sub .nil⟩
def y4d (c_39 : Sapi_Config) (net_64 : Int) (routes_65 : List (List Sapi_Hop)) (sent_69 : List zSt) : Option Bool :=
 (y4r c_39 routes_65 sent_69).bind fun zlA=>(if zlA then (y2P c_39 net_64 routes_65).bind fun zlB=>some zlB else some false).bind fun zhp=>(if zhp then (y3y c_39 sent_69).bind fun zlC=>some zlC else some false).bind fun zhq=>some zhq
set_option maxRecDepth 20000 in
theorem y8X (Z : Zp) (ao_40 : Option Addr) (cap_41 : Nat) (ao_43 : Option Addr) (cap_44 : Nat) (ao_46 : Option Addr) (cap_47 : Nat) (ao_49 : Option Addr) (cap_50 : Nat) (ao_52 : Option Addr) (cap_53 : Nat) (ao_55 : Option Addr) (cap_56 : Nat) (ao_58 : Option Addr) (cap_59 : Nat) (ao_61 : Option Addr) (cap_62 : Nat) (ao_66 : Option Addr) (cap_67 : Nat) (ao_70 : Option Addr) (cap_71 : Nat) (c_39 : Sapi_Config) (net_64 : Int) (routes_65 : List (List Sapi_Hop)) (sent_69 : List zSt) (r : Bool)
  (h : y4d c_39 net_64 routes_65 sent_69 = some r) (w₀ : World) (hz : PZ [] w₀ Z)
  (hs_42 : ZS Z 4 (y2w Z) ao_40 cap_41 c_39.fModules)
  (hs_45 : ZS Z 4 (y2S Z) ao_43 cap_44 c_39.fChannels)
  (hs_48 : ZS Z 4 (fun r x=>r = e64 x) ao_46 cap_47 c_39.fSwitches)
  (hs_51 : ZS Z 4 (fun r x=>r = e62 x) ao_49 cap_50 c_39.fLinks)
  (hs_54 : ZS Z 7 (y2F Z) ao_52 cap_53 c_39.fVLs)
  (hs_57 : ZS Z 5 (fun r x=>r = y2Y x) ao_55 cap_56 c_39.fHealth)
  (hs_60 : ZS Z 3 (y2T Z) ao_58 cap_59 c_39.fCauses)
  (hs_63 : ZS Z 4 (fun r x=>r = y2Z x) ao_61 cap_62 c_39.fVersions)
  (hs_68 : ZS Z 1 (p55 Z) ao_66 cap_67 routes_65)
  (hs_72 : ZS Z 3 (fun r x=>r = e53 x) ao_70 cap_71 sent_69) :
  Calls Try.prog 20 #[(.agg #[(.slice ao_40 c_39.fModules.length cap_41),(.slice ao_43 c_39.fChannels.length cap_44),(.slice ao_46 c_39.fSwitches.length cap_47),(.slice ao_49 c_39.fLinks.length cap_50),(.slice ao_52 c_39.fVLs.length cap_53),(.slice ao_55 c_39.fHealth.length cap_56),(.slice ao_58 c_39.fCauses.length cap_59),(.slice ao_61 c_39.fVersions.length cap_62)]),(.int .i64 net_64),(.slice ao_66 routes_65.length cap_67),(.slice ao_70 sent_69.length cap_71)] w₀ fun e w'=>e = .returned (.bool r) ∧ Hp [] w₀ w' []:=by
 unfold y4d at h
 refine Calls.yo (vs:=[(.agg #[(.slice ao_40 c_39.fModules.length cap_41),(.slice ao_43 c_39.fChannels.length cap_44),(.slice ao_46 c_39.fSwitches.length cap_47),(.slice ao_49 c_39.fLinks.length cap_50),(.slice ao_52 c_39.fVLs.length cap_53),(.slice ao_55 c_39.fHealth.length cap_56),(.slice ao_58 c_39.fCauses.length cap_59),(.slice ao_61 c_39.fVersions.length cap_62)]),(.int .i64 net_64),(.slice ao_66 routes_65.length cap_67),(.slice ao_70 sent_69.length cap_71)]) (pre:=[]) (env:=[(0,(.agg #[(.slice ao_40 c_39.fModules.length cap_41),(.slice ao_43 c_39.fChannels.length cap_44),(.slice ao_46 c_39.fSwitches.length cap_47),(.slice ao_49 c_39.fLinks.length cap_50),(.slice ao_52 c_39.fVLs.length cap_53),(.slice ao_55 c_39.fHealth.length cap_56),(.slice ao_58 c_39.fCauses.length cap_59),(.slice ao_61 c_39.fVersions.length cap_62)])),(1,(.int .i64 net_64)),(2,(.slice ao_66 routes_65.length cap_67)),(3,(.slice ao_70 sent_69.length cap_71))]) Try.func20 rfl Try.ntmps20 rfl (Hp.nil w₀ _) rfl ?_
 refine WC.b (WC.a ?_)
 refine WL.new (dd:=4) rfl rfl rfl (y2h (cs:=[(.slice ao_40 c_39.fModules.length cap_41),(.slice ao_43 c_39.fChannels.length cap_44),(.slice ao_46 c_39.fSwitches.length cap_47),(.slice ao_49 c_39.fLinks.length cap_50),(.slice ao_52 c_39.fVLs.length cap_53),(.slice ao_55 c_39.fHealth.length cap_56),(.slice ao_58 c_39.fCauses.length cap_59),(.slice ao_61 c_39.fVersions.length cap_62)]) rfl rfl) ?_
 intro zwS _
 refine WL.pu rfl (WL.nil (WX.a (WC.b ?_)))
 obtain ⟨zlA,zqR,h⟩:=zn h
 obtain ⟨zhp,zlD,h⟩:=zn h
 obtain ⟨zhq,zlE,h⟩:=zn h
 refine WC.a ?_
 refine WL.a (d:=9) rfl rfl rfl (yN y1L rfl (y1x .here) rfl) ?_
 refine WL.pu rfl (WL.pu rfl ?_)
 refine WL.b (dd:=12) rfl rfl rfl (zF (l:=[.tmp 9,.tmp 10,.tmp 11]) Try.call10 (.cons rfl (.cons rfl (.cons rfl .nil)))) .nil (cc hz .nil fun w pz ho=>y9i _ _ _ _ _ _ _ _ _ _ _ _ _ _ _ _ _ _ _ _ _ _ _ _ _ zqR w pz hs_42 hs_45 hs_48 hs_51 hs_54 hs_57 hs_60 hs_63 hs_68 hs_72) ?_
 refine WL.pu rfl ?_
 refine WL.seg true 4 13 (B:=zhp) rfl rfl rfl rfl rfl rfl (fun h=>(Option.some.inj (ym zlD h)).symm) (fun _ zqS=>?_) ?_
 ·skip
  have zdQ:=yl zlD zqS
  obtain ⟨zlB,zqT,zdQ⟩:=zn zdQ
  replace zdQ:=Option.some.inj zdQ
  refine WL.a (d:=14) rfl rfl rfl (yN y1L rfl (y1x .here) rfl) ?_
  refine WL.pu rfl (WL.pu rfl ?_)
  refine WL.b (dd:=17) rfl rfl rfl (zF (l:=[.tmp 14,.tmp 15,.tmp 16]) Try.call15 (.cons rfl (.cons rfl (.cons rfl .nil)))) .nil (cc hz .nil fun w pz ho=>y5E _ _ _ _ _ _ _ _ _ _ _ _ _ _ _ _ _ _ _ _ _ _ _ zqT w pz hs_42 hs_45 hs_48 hs_51 hs_54 hs_57 hs_60 hs_63 hs_68) ?_
  refine WL.pu rfl ?_
  exact WL.yu zdQ rfl rfl .all
 refine WL.pu rfl ?_
 refine WL.seg true 3 19 (B:=zhq) rfl rfl rfl rfl rfl rfl (fun h=>(Option.some.inj (ym zlE h)).symm) (fun _ zqU=>?_) ?_
 ·skip
  have zdR:=yl zlE zqU
  obtain ⟨zlC,zqV,zdR⟩:=zn zdR
  replace zdR:=Option.some.inj zdR
  refine WL.a (d:=20) rfl rfl rfl (yN y1L rfl (y1x .here) rfl) ?_
  refine WL.pu rfl ?_
  refine WL.b (dd:=22) rfl rfl rfl (zF (l:=[.tmp 20,.tmp 21]) Try.call22 (.cons rfl (.cons rfl .nil))) .nil (cc hz .nil fun w pz ho=>y84 _ _ _ _ _ _ _ _ _ _ _ _ _ _ _ _ _ _ _ _ _ _ zqV w pz hs_42 hs_45 hs_48 hs_51 hs_54 hs_57 hs_60 hs_63 hs_72) ?_
  refine WL.pu rfl ?_
  exact WL.yu zdR rfl rfl .all
 refine WL.pu rfl (WL.nil (WX.a (WC.ret ?_)))
 obtain rfl:=Option.some.inj h
 refine WX.yi Try.results20 (.tmp rfl .nil) (fun w hw=>?_)
 exact ⟨y12 rfl,hw.sub .nil⟩
def y4C (z77 : Int) : Option (Sapi_Config × List (List Sapi_Hop)) :=
 some ((⟨([(⟨⟨#[109]⟩,0,0,[]⟩ : Sapi_Module),(⟨⟨#[110]⟩,0,0,[]⟩ : Sapi_Module)] : List Sapi_Module),[],([(⟨⟨#[115]⟩,0,16,z77⟩ : Sapi_Switch)] : List Sapi_Switch),([(⟨⟨#[109]⟩,⟨#[115]⟩,0,1⟩ : Sapi_Link),(⟨⟨#[110]⟩,⟨#[115]⟩,0,1⟩ : Sapi_Link)] : List Sapi_Link),([(⟨⟨#[]⟩,(⟨⟨#[]⟩,⟨#[]⟩,⟨#[]⟩⟩ : Sapi_Ref),0,0,[]⟩ : Sapi_VL)] : List Sapi_VL),[],[],[]⟩ : Sapi_Config),([([(⟨0,2,0⟩ : Sapi_Hop),(⟨2,1,1⟩ : Sapi_Hop)] : List Sapi_Hop)] : List (List Sapi_Hop)))
set_option maxRecDepth 20000 in
theorem y7E (Z : Zp)  (z77 : Int) (r : Sapi_Config × List (List Sapi_Hop))
  (h : y4C z77 = some r) (w₀ : World) (hz : PZ [] w₀ Z) :
  Calls Try.prog 23 #[(.int .i64 z77)] w₀ fun e w'=>∃ Zn : Zp,∃ zlF : Option Addr,∃ zlG : Nat,∃ zlH : List Value,∃ zlI : Option Addr,∃ zlJ : Nat,∃ zlK : Option Addr,∃ zlL : Nat,∃ zlM : Option Addr,∃ zlN : Nat,∃ zlO : Option Addr,∃ zlP : Nat,∃ zlQ : List Value,∃ zlR : Option Addr,∃ zlS : Nat,∃ zlT : Option Addr,∃ zlU : Nat,∃ zlV : Option Addr,∃ zlW : Nat,∃ zlX : Option Addr,∃ zlY : Nat,∃ zlZ : List Value,e = .returned (.tuple #[(.agg #[(.slice zlF r.1.fModules.length zlG),(.slice zlI r.1.fChannels.length zlJ),(.slice zlK r.1.fSwitches.length zlL),(.slice zlM r.1.fLinks.length zlN),(.slice zlO r.1.fVLs.length zlP),(.slice zlR r.1.fHealth.length zlS),(.slice zlT r.1.fCauses.length zlU),(.slice zlV r.1.fVersions.length zlW)]),(.slice zlX r.2.length zlY)]) ∧ ((RR 4 (y2w (Z ++ Zn)) zlH r.1.fModules) ∧ (ZS (Z ++ Zn) 4 (y2S (Z ++ Zn)) zlI zlJ r.1.fChannels) ∧ (RR 7 (y2F (Z ++ Zn)) zlQ r.1.fVLs) ∧ (ZS (Z ++ Zn) 5 (fun r x=>r = y2Y x) zlR zlS r.1.fHealth) ∧ (ZS (Z ++ Zn) 3 (y2T (Z ++ Zn)) zlT zlU r.1.fCauses) ∧ (ZS (Z ++ Zn) 4 (fun r x=>r = y2Z x) zlV zlW r.1.fVersions) ∧ (RR 1 (p55 (Z ++ Zn)) zlZ r.2)) ∧ Hp [] w₀ w' [fz Zn,row (.slice zlF r.1.fModules.length zlG) 104 4 zlH,row (.slice zlK r.1.fSwitches.length zlL) 64 4 (r.1.fSwitches.flatMap e64),row (.slice zlM r.1.fLinks.length zlN) 62 4 (r.1.fLinks.flatMap e62),row (.slice zlO r.1.fVLs.length zlP) 109 7 zlQ,row (.slice zlX r.2.length zlY) 55 1 zlZ]:=by
 unfold y4C at h
 refine Calls.yo (vs:=[(.int .i64 z77)]) (pre:=[]) (env:=[(0,(.int .i64 z77))]) Try.func23 rfl Try.ntmps23 rfl (Hp.nil w₀ _) rfl ?_
 refine WC.pool (WC.b (WC.a ?_))
 refine WL.new (dd:=2) rfl rfl rfl (y2d (cs:=[(.slice none 0 0),(.slice none 0 0),(.slice none 0 0),(.slice none 0 0),(.slice none 0 0),(.slice none 0 0),(.slice none 0 0),(.slice none 0 0)]) y7i rfl) ?_
 intro zwT _
 refine WL.pu rfl (WL.nil (WX.a (WC.b (WC.a ?_))))
 refine WL.a (d:=5) rfl rfl rfl (y1j (v:=(.agg #[(.string ⟨#[109]⟩),(.int .i64 0),(.int .i64 0),(.slice none 0 0)])) (Eos.parts (l:=[.const (.string ⟨#[109]⟩)]) (.cons rfl .nil) [0]) (fun _=>by kernel_rfl)) ?_
 refine WL.a (d:=6) rfl rfl rfl (y1j (v:=(.agg #[(.string ⟨#[110]⟩),(.int .i64 0),(.int .i64 0),(.slice none 0 0)])) (Eos.parts (l:=[.const (.string ⟨#[110]⟩)]) (.cons rfl .nil) [0]) (fun _=>by kernel_rfl)) ?_
 have zqW : RR 4 (y2w (Z ++ [])) [(.string ⟨#[109]⟩),(.int .i64 0),(.int .i64 0),(.slice none 0 0),(.string ⟨#[110]⟩),(.int .i64 0),(.int .i64 0),(.slice none 0 0)] ([(⟨⟨#[109]⟩,0,0,[]⟩ : Sapi_Module),(⟨⟨#[110]⟩,0,0,[]⟩ : Sapi_Module)] : List Sapi_Module):=(RR.cons (r:=[(.string ⟨#[109]⟩),(.int .i64 0),(.int .i64 0),(.slice none 0 0)]) rfl (show y2w _ _ _ from ⟨_,_,rfl,(ZS.nil _ _ _)⟩) (RR.cons (r:=[(.string ⟨#[110]⟩),(.int .i64 0),(.int .i64 0),(.slice none 0 0)]) rfl (show y2w _ _ _ from ⟨_,_,rfl,(ZS.nil _ _ _)⟩) (RR.nil _ _)))
 refine WL.new (dd:=7) rfl rfl rfl (y18 (cs:=[(.string ⟨#[109]⟩),(.int .i64 0),(.int .i64 0),(.slice none 0 0),(.string ⟨#[110]⟩),(.int .i64 0),(.int .i64 0),(.slice none 0 0)]) elT_22 (Eos.parts (l:=[.tmp 5,.tmp 6]) (.cons rfl (.cons rfl .nil)) [0,1]) (fun _=>by kernel_rfl) rfl (by unfold maxLen; omega)) ?_
 intro zm0 _
 refine WL.pu rfl ?_
 refine WL.a (d:=9) rfl rfl rfl (y1j (v:=(.agg #[(.string ⟨#[115]⟩),(.int .i64 0),(.int .i64 16),(.int .i64 z77)])) (Eos.parts (l:=[.const (.string ⟨#[115]⟩),.const (.int .i64 16),.tmp 8]) (.cons rfl (.cons rfl (.cons rfl .nil))) [0,2,3]) (fun _=>by kernel_rfl)) ?_
 refine WL.new (dd:=10) rfl rfl rfl (y18 (cs:=([(⟨⟨#[115]⟩,0,16,z77⟩ : Sapi_Switch)] : List Sapi_Switch).flatMap e64) y6P (Eos.parts (l:=[.tmp 9]) (.cons rfl .nil) [0]) (fun _=>by kernel_rfl) rfl (by unfold maxLen; omega)) ?_
 intro zm1 _
 refine WL.a (d:=11) rfl rfl rfl (y1j (v:=(.agg #[(.string ⟨#[109]⟩),(.string ⟨#[115]⟩),(.int .i64 0),(.int .i64 1)])) (Eos.parts (l:=[.const (.string ⟨#[109]⟩),.const (.string ⟨#[115]⟩),.const (.int .i64 1)]) (.cons rfl (.cons rfl (.cons rfl .nil))) [0,1,3]) (fun _=>by kernel_rfl)) ?_
 refine WL.a (d:=12) rfl rfl rfl (y1j (v:=(.agg #[(.string ⟨#[110]⟩),(.string ⟨#[115]⟩),(.int .i64 0),(.int .i64 1)])) (Eos.parts (l:=[.const (.string ⟨#[110]⟩),.const (.string ⟨#[115]⟩),.const (.int .i64 1)]) (.cons rfl (.cons rfl (.cons rfl .nil))) [0,1,3]) (fun _=>by kernel_rfl)) ?_
 refine WL.new (dd:=13) rfl rfl rfl (y18 (cs:=([(⟨⟨#[109]⟩,⟨#[115]⟩,0,1⟩ : Sapi_Link),(⟨⟨#[110]⟩,⟨#[115]⟩,0,1⟩ : Sapi_Link)] : List Sapi_Link).flatMap e62) y8P (Eos.parts (l:=[.tmp 11,.tmp 12]) (.cons rfl (.cons rfl .nil)) [0,1]) (fun _=>by kernel_rfl) rfl (by unfold maxLen; omega)) ?_
 intro zm2 _
 refine WL.a (d:=14) rfl rfl rfl (y1j (v:=(.agg #[(.string ⟨#[]⟩),(.string ⟨#[]⟩),(.string ⟨#[]⟩),(.string ⟨#[]⟩),(.int .i64 0),(.int .i64 0),(.slice none 0 0)])) (Eos.parts (l:=[]) .nil []) (fun _=>by kernel_rfl)) ?_
 have zqX : RR 7 (y2F (Z ++ [])) [(.string ⟨#[]⟩),(.string ⟨#[]⟩),(.string ⟨#[]⟩),(.string ⟨#[]⟩),(.int .i64 0),(.int .i64 0),(.slice none 0 0)] ([(⟨⟨#[]⟩,(⟨⟨#[]⟩,⟨#[]⟩,⟨#[]⟩⟩ : Sapi_Ref),0,0,[]⟩ : Sapi_VL)] : List Sapi_VL):=(RR.cons (r:=[(.string ⟨#[]⟩),(.string ⟨#[]⟩),(.string ⟨#[]⟩),(.string ⟨#[]⟩),(.int .i64 0),(.int .i64 0),(.slice none 0 0)]) rfl (show y2F _ _ _ from ⟨_,_,rfl,(ZS.nil _ _ _)⟩) (RR.nil _ _))
 refine WL.new (dd:=15) rfl rfl rfl (y18 (cs:=[(.string ⟨#[]⟩),(.string ⟨#[]⟩),(.string ⟨#[]⟩),(.string ⟨#[]⟩),(.int .i64 0),(.int .i64 0),(.slice none 0 0)]) elT_26 (Eos.parts (l:=[.tmp 14]) (.cons rfl .nil) [0]) (fun _=>by kernel_rfl) rfl (by unfold maxLen; omega)) ?_
 intro zm3 _
 refine WL.a (d:=16) rfl rfl rfl (y1j (v:=(.agg #[(.slice (some ⟨zm0,0,none⟩) (([(⟨⟨#[109]⟩,0,0,[]⟩ : Sapi_Module),(⟨⟨#[110]⟩,0,0,[]⟩ : Sapi_Module)] : List Sapi_Module).length) 2),(.slice none 0 0),(.slice (some ⟨zm1,0,none⟩) (([(⟨⟨#[115]⟩,0,16,z77⟩ : Sapi_Switch)] : List Sapi_Switch).length) 1),(.slice (some ⟨zm2,0,none⟩) (([(⟨⟨#[109]⟩,⟨#[115]⟩,0,1⟩ : Sapi_Link),(⟨⟨#[110]⟩,⟨#[115]⟩,0,1⟩ : Sapi_Link)] : List Sapi_Link).length) 2),(.slice (some ⟨zm3,0,none⟩) (([(⟨⟨#[]⟩,(⟨⟨#[]⟩,⟨#[]⟩,⟨#[]⟩⟩ : Sapi_Ref),0,0,[]⟩ : Sapi_VL)] : List Sapi_VL).length) 1),(.slice none 0 0),(.slice none 0 0),(.slice none 0 0)])) (Eos.parts (l:=[.tmp 7,.tmp 10,.tmp 13,.tmp 15]) (.cons rfl (.cons rfl (.cons rfl (.cons rfl .nil)))) [0,2,3,4]) (fun _=>by kernel_rfl)) ?_
 refine WL.new (dd:=4) rfl rfl rfl (y2d (cs:=[(.slice none 0 0),(.slice none 0 0),(.slice none 0 0),(.slice none 0 0),(.slice none 0 0),(.slice none 0 0),(.slice none 0 0),(.slice none 0 0)]) y7i rfl) ?_
 intro zwU _
 refine WL.y1u rfl rfl (y1K y7X rfl rfl rfl .here rfl rfl rfl) ?_
 refine WL.nil (WX.a (WC.b (WC.a ?_)))
 refine WL.a (d:=17) rfl rfl rfl (yN y1L rfl (y1x .here) rfl) ?_
 refine WL.a (d:=18) rfl rfl rfl (y1j (v:=(.agg #[(.int .i64 0),(.int .i64 2),(.int .i64 0)])) (Eos.parts (l:=[.const (.int .i64 0),.const (.int .i64 2),.const (.int .i64 0)]) (.cons rfl (.cons rfl (.cons rfl .nil))) [0,1,2]) (fun _=>by kernel_rfl)) ?_
 refine WL.a (d:=19) rfl rfl rfl (y1j (v:=(.agg #[(.int .i64 2),(.int .i64 1),(.int .i64 1)])) (Eos.parts (l:=[.const (.int .i64 2),.const (.int .i64 1),.const (.int .i64 1)]) (.cons rfl (.cons rfl (.cons rfl .nil))) [0,1,2]) (fun _=>by kernel_rfl)) ?_
 refine WL.new (dd:=20) rfl rfl rfl (y18 (cs:=([(⟨0,2,0⟩ : Sapi_Hop),(⟨2,1,1⟩ : Sapi_Hop)] : List Sapi_Hop).flatMap e59) y4X (Eos.parts (l:=[.tmp 18,.tmp 19]) (.cons rfl (.cons rfl .nil)) [0,1]) (fun _=>by kernel_rfl) rfl (by unfold maxLen; omega)) ?_
 intro zf9 _
 refine WL.freezeS (ls:=([(⟨0,2,0⟩ : Sapi_Hop),(⟨2,1,1⟩ : Sapi_Hop)] : List Sapi_Hop)) .here .h6 hz (RR.y1q (enc:=e59) (fun _=>rfl) _) ?_
 intro zm4 zm5 zqY
 have zqZ : RR 1 (p55 (Z ++ zm4)) [(.slice (some ⟨zf9,0,none⟩) (([(⟨0,2,0⟩ : Sapi_Hop),(⟨2,1,1⟩ : Sapi_Hop)] : List Sapi_Hop).length) 2)] ([([(⟨0,2,0⟩ : Sapi_Hop),(⟨2,1,1⟩ : Sapi_Hop)] : List Sapi_Hop)] : List (List Sapi_Hop)):=(RR.cons (r:=[(.slice (some ⟨zf9,0,none⟩) (([(⟨0,2,0⟩ : Sapi_Hop),(⟨2,1,1⟩ : Sapi_Hop)] : List Sapi_Hop).length) 2)]) rfl (show p55 _ _ _ from ⟨_,_,rfl,zqY⟩) (RR.nil _ _))
 refine WL.new (dd:=21) rfl rfl rfl (y18 (cs:=[(.slice (some ⟨zf9,0,none⟩) (([(⟨0,2,0⟩ : Sapi_Hop),(⟨2,1,1⟩ : Sapi_Hop)] : List Sapi_Hop).length) 2)]) y5V (Eos.parts (l:=[.tmp 20]) (.cons rfl .nil) [0]) (fun _=>by kernel_rfl) rfl (by unfold maxLen; omega)) ?_
 intro zr0 _
 refine WL.y1u rfl rfl (y1K y7X rfl rfl rfl .h7 rfl rfl rfl) ?_
 refine WL.pu rfl (WL.nil (WX.a (WC.ret ?_)))
 obtain rfl:=Option.some.inj h
 refine WX.yi Try.results23 (.agg rfl y1L rfl (y1x .here) (.tmp rfl .nil)) (fun w hw=>?_)
 exact ⟨zm4,(some ⟨zm0,0,none⟩),2,[(.string ⟨#[109]⟩),(.int .i64 0),(.int .i64 0),(.slice none 0 0),(.string ⟨#[110]⟩),(.int .i64 0),(.int .i64 0),(.slice none 0 0)],none,0,(some ⟨zm1,0,none⟩),1,(some ⟨zm2,0,none⟩),2,(some ⟨zm3,0,none⟩),1,[(.string ⟨#[]⟩),(.string ⟨#[]⟩),(.string ⟨#[]⟩),(.string ⟨#[]⟩),(.int .i64 0),(.int .i64 0),(.slice none 0 0)],none,0,none,0,none,0,(some ⟨zr0,0,none⟩),1,[(.slice (some ⟨zf9,0,none⟩) (([(⟨0,2,0⟩ : Sapi_Hop),(⟨2,1,1⟩ : Sapi_Hop)] : List Sapi_Hop).length) 2)],ret2 rfl rfl,⟨(zqW.weak (fun _ _ h=>y29 zm5 h)),(ZS.nil _ _ _),(zqX.weak (fun _ _ h=>y2a zm5 h)),(ZS.nil _ _ _),(ZS.nil _ _ _),(ZS.nil _ _ _),zqZ⟩,hw.sub (.cons .h2 (.cons .h6 (.cons .h5 (.cons .h4 (.cons .h3 (.cons .h1 .nil))))))⟩
end Go.Proofs.Ytinchjigeakocaa
