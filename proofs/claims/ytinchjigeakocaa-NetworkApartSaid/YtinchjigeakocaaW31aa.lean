/- A part of this claim's proof: models of functions, walks, plain laws. No conditions. -/
import Derived.Test.YtinchjigeakocaaZSortF
import Derived.Test.YtinchjigeakocaaZUnroll
import Derived.Test.YtinchjigeakocaaZIter
import Derived.Test.YtinchjigeakocaaProg
namespace Go.Proofs.Ytinchjigeakocaa
open Go Go.RowKit Sep
set_option linter.all false
set_option maxRecDepth 30000
set_option maxHeartbeats 4000000
structure Sapi_Port where
 fName : ByteArray
 fKind : Int
 fOut : Bool
 fSize : Int
 fDepth : Int
 fRefresh : Int
 deriving Inhabited,DecidableEq
structure Sapi_Ins where
 fOp : Int
 fA : Int
 fB : Int
 fC : Int
 deriving Inhabited,DecidableEq
structure Sapi_Proc where
 fName : ByteArray
 fPrio : Int
 fPeriod : Int
 fLimit : Int
 fCode : List Sapi_Ins
 deriving Inhabited,DecidableEq
structure Sapi_Part where
 fName : ByteArray
 fPeriod : Int
 fLength : Int
 fMem : Int
 fSemas : List Int
 fEvents : Int
 fBoards : Int
 fBufs : List Int
 fPorts : List Sapi_Port
 fProcs : List Sapi_Proc
 deriving Inhabited,DecidableEq
structure Sapi_Module where
 fName : ByteArray
 fMem : Int
 fFrame : Int
 fParts : List Sapi_Part
 deriving Inhabited,DecidableEq
structure Sapi_Ref where
 fModule : ByteArray
 fPart : ByteArray
 fPort : ByteArray
 deriving Inhabited,DecidableEq
structure Sapi_Channel where
 fFrom : Sapi_Ref
 fTo : List Sapi_Ref
 deriving Inhabited,DecidableEq
structure Sapi_Switch where
 fName : ByteArray
 fNet : Int
 fDelay : Int
 fStore : Int
 deriving Inhabited,DecidableEq
structure Sapi_Link where
 fA : ByteArray
 fB : ByteArray
 fNet : Int
 fSlow : Int
 deriving Inhabited,DecidableEq
structure Sapi_VL where
 fName : ByteArray
 fFrom : Sapi_Ref
 fBag : Int
 fMax : Int
 fTo : List Sapi_Ref
 deriving Inhabited,DecidableEq
structure Sapi_Health where
 fModule : ByteArray
 fPart : ByteArray
 fFault : Int
 fLevel : Int
 fDo : Int
 deriving Inhabited,DecidableEq
structure Sapi_Report where
 fUnit : ByteArray
 fCode : Int
 deriving Inhabited,DecidableEq
structure Sapi_Cause where
 fUnit : ByteArray
 fNeeds : List Sapi_Report
 fUnless : List ByteArray
 deriving Inhabited,DecidableEq
structure Sapi_Version where
 fA : ByteArray
 fVA : Int
 fB : ByteArray
 fVB : Int
 deriving Inhabited,DecidableEq
structure Sapi_Config where
 fModules : List Sapi_Module
 fChannels : List Sapi_Channel
 fSwitches : List Sapi_Switch
 fLinks : List Sapi_Link
 fVLs : List Sapi_VL
 fHealth : List Sapi_Health
 fCauses : List Sapi_Cause
 fVersions : List Sapi_Version
 deriving Inhabited,DecidableEq
def e3 (x : Int) : List Value:=[(.int .i64 x)]
theorem e3_oc : ∀ x,∀ u ∈ e3 x,u.oneCell' = true:=fun _=>ocB rfl
def e191 (x : Sapi_Port) : List Value:=[(.string x.fName),(.int .u8 x.fKind),(.bool x.fOut),(.int .i64 x.fSize),(.int .i64 x.fDepth),(.int .i64 x.fRefresh)]
def e196 (x : Sapi_Ins) : List Value:=[(.int .u8 x.fOp),(.int .i64 x.fA),(.int .i64 x.fB),(.int .i64 x.fC)]
def p194 (Z : Zp) (r : List Value) (x : Sapi_Proc) : Prop:=∃ (ao0 : Option Addr) (cap0 : Nat),r = [(.string x.fName),(.int .i64 x.fPrio),(.int .i64 x.fPeriod),(.int .i64 x.fLimit),(.slice ao0 x.fCode.length cap0)] ∧ ZS Z 4 (fun r x=>r = e196 x) ao0 cap0 x.fCode
theorem y8G {Z Z' : Zp} (k : Zle Z Z') {r : List Value} {x : Sapi_Proc} (h : p194 Z r x) : p194 Z' r x:=by
 obtain ⟨ao0,cap0,hr,h0⟩:=h
 exact ⟨ao0,cap0,hr,h0.mono k⟩
def p186 (Z : Zp) (r : List Value) (x : Sapi_Part) : Prop:=∃ (ao0 : Option Addr) (cap0 : Nat) (ao1 : Option Addr) (cap1 : Nat) (ao2 : Option Addr) (cap2 : Nat) (ao3 : Option Addr) (cap3 : Nat),r = [(.string x.fName),(.int .i64 x.fPeriod),(.int .i64 x.fLength),(.int .i64 x.fMem),(.slice ao0 x.fSemas.length cap0),(.int .i64 x.fEvents),(.int .i64 x.fBoards),(.slice ao1 x.fBufs.length cap1),(.slice ao2 x.fPorts.length cap2),(.slice ao3 x.fProcs.length cap3)] ∧ ZS Z 1 (fun r x=>r = e3 x) ao0 cap0 x.fSemas ∧ ZS Z 1 (fun r x=>r = e3 x) ao1 cap1 x.fBufs ∧ ZS Z 6 (fun r x=>r = e191 x) ao2 cap2 x.fPorts ∧ ZS Z 5 (p194 Z) ao3 cap3 x.fProcs
theorem y8H {Z Z' : Zp} (k : Zle Z Z') {r : List Value} {x : Sapi_Part} (h : p186 Z r x) : p186 Z' r x:=by
 obtain ⟨ao0,cap0,ao1,cap1,ao2,cap2,ao3,cap3,hr,h0,h1,h2,h3⟩:=h
 exact ⟨ao0,cap0,ao1,cap1,ao2,cap2,ao3,cap3,hr,h0.mono k,h1.mono k,h2.mono k,(h3.mono k).weak (fun _ _ h=>y8G k h)⟩
def y2I (Z : Zp) (r : List Value) (x : Sapi_Module) : Prop:=∃ (ao0 : Option Addr) (cap0 : Nat),r = [(.string x.fName),(.int .i64 x.fMem),(.int .i64 x.fFrame),(.slice ao0 x.fParts.length cap0)] ∧ ZS Z 10 (p186 Z) ao0 cap0 x.fParts
theorem y23 {Z Z' : Zp} (k : Zle Z Z') {r : List Value} {x : Sapi_Module} (h : y2I Z r x) : y2I Z' r x:=by
 obtain ⟨ao0,cap0,hr,h0⟩:=h
 exact ⟨ao0,cap0,hr,(h0.mono k).weak (fun _ _ h=>y8H k h)⟩
def e106 (x : Sapi_Ref) : List Value:=[(.string x.fModule),(.string x.fPart),(.string x.fPort)]
def y31 (Z : Zp) (r : List Value) (x : Sapi_Channel) : Prop:=∃ (ao0 : Option Addr) (cap0 : Nat),r = [(.string x.fFrom.fModule),(.string x.fFrom.fPart),(.string x.fFrom.fPort),(.slice ao0 x.fTo.length cap0)] ∧ ZS Z 3 (fun r x=>r = e106 x) ao0 cap0 x.fTo
theorem y2c {Z Z' : Zp} (k : Zle Z Z') {r : List Value} {x : Sapi_Channel} (h : y31 Z r x) : y31 Z' r x:=by
 obtain ⟨ao0,cap0,hr,h0⟩:=h
 exact ⟨ao0,cap0,hr,h0.mono k⟩
def e64 (x : Sapi_Switch) : List Value:=[(.string x.fName),(.int .i64 x.fNet),(.int .i64 x.fDelay),(.int .i64 x.fStore)]
def e62 (x : Sapi_Link) : List Value:=[(.string x.fA),(.string x.fB),(.int .i64 x.fNet),(.int .i64 x.fSlow)]
def y2S (Z : Zp) (r : List Value) (x : Sapi_VL) : Prop:=∃ (ao0 : Option Addr) (cap0 : Nat),r = [(.string x.fName),(.string x.fFrom.fModule),(.string x.fFrom.fPart),(.string x.fFrom.fPort),(.int .i64 x.fBag),(.int .i64 x.fMax),(.slice ao0 x.fTo.length cap0)] ∧ ZS Z 3 (fun r x=>r = e106 x) ao0 cap0 x.fTo
theorem y24 {Z Z' : Zp} (k : Zle Z Z') {r : List Value} {x : Sapi_VL} (h : y2S Z r x) : y2S Z' r x:=by
 obtain ⟨ao0,cap0,hr,h0⟩:=h
 exact ⟨ao0,cap0,hr,h0.mono k⟩
def y3g (x : Sapi_Health) : List Value:=[(.string x.fModule),(.string x.fPart),(.int .u8 x.fFault),(.int .u8 x.fLevel),(.int .u8 x.fDo)]
def e189 (x : Sapi_Report) : List Value:=[(.string x.fUnit),(.int .i64 x.fCode)]
def e9 (x : ByteArray) : List Value:=[(.string x)]
def y32 (Z : Zp) (r : List Value) (x : Sapi_Cause) : Prop:=∃ (ao0 : Option Addr) (cap0 : Nat) (ao1 : Option Addr) (cap1 : Nat),r = [(.string x.fUnit),(.slice ao0 x.fNeeds.length cap0),(.slice ao1 x.fUnless.length cap1)] ∧ ZS Z 2 (fun r x=>r = e189 x) ao0 cap0 x.fNeeds ∧ ZS Z 1 (fun r x=>r = e9 x) ao1 cap1 x.fUnless
theorem y2d {Z Z' : Zp} (k : Zle Z Z') {r : List Value} {x : Sapi_Cause} (h : y32 Z r x) : y32 Z' r x:=by
 obtain ⟨ao0,cap0,ao1,cap1,hr,h0,h1⟩:=h
 exact ⟨ao0,cap0,ao1,cap1,hr,h0.mono k,h1.mono k⟩
def y3h (x : Sapi_Version) : List Value:=[(.string x.fA),(.int .i64 x.fVA),(.string x.fB),(.int .i64 x.fVB)]
structure Sapi_Hop where
 fNode : Int
 fNext : Int
 fLink : Int
 deriving Inhabited,DecidableEq
def e59 (x : Sapi_Hop) : List Value:=[(.int .i64 x.fNode),(.int .i64 x.fNext),(.int .i64 x.fLink)]
def p55 (Z : Zp) (r : List Value) (x : List Sapi_Hop) : Prop:=∃ (ao0 : Option Addr) (cap0 : Nat),r = [(.slice ao0 x.length cap0)] ∧ ZS Z 3 (fun r x=>r = e59 x) ao0 cap0 x
theorem y3A {Z Z' : Zp} (k : Zle Z Z') {r : List Value} {x : List Sapi_Hop} (h : p55 Z r x) : p55 Z' r x:=by
 obtain ⟨ao0,cap0,hr,h0⟩:=h
 exact ⟨ao0,cap0,hr,h0.mono k⟩
structure zSt where
 fTime : Int
 fVL : Int
 fSize : Int
 deriving Inhabited,DecidableEq
def e53 (x : zSt) : List Value:=[(.int .i64 x.fTime),(.int .i64 x.fVL),(.int .i64 x.fSize)]
theorem e53_oc : ∀ x,∀ u ∈ e53 x,u.oneCell' = true:=fun _=>ocB rfl
structure S7 where
 fX : Int
 fY : Int
 fSigned : Bool
 fCode : Int
 deriving Inhabited,DecidableEq
structure S13 where
 fMsg : ByteArray
 fAddr : Int
 deriving Inhabited,DecidableEq
structure Snetwork_exit where
 fNode : Int
 fLink : Int
 deriving Inhabited,DecidableEq
def y1V (x : Snetwork_exit) : List Value:=[(.int .i64 x.fNode),(.int .i64 x.fLink)]
structure Sport_numbers where
 fSlow : Int
 fDelay : Int
 fStore : Int
 deriving Inhabited,DecidableEq
structure Sport_frame where
 fSize : Int
 fFin : Int
 deriving Inhabited,DecidableEq
structure Sport_Port where
 fNumbers : Sport_numbers
 fNow : Int
 fLast : Int
 fFrames : List Sport_frame
 deriving Inhabited,DecidableEq
def y27 (x : Sport_frame) : List Value:=[(.int .i64 x.fSize),(.int .i64 x.fFin)]
theorem y9L : ∀ x,∀ u ∈ y27 x,u.oneCell' = true:=fun _=>ocB rfl
def z1e (g : Nat × (Option Addr × Nat)) (x : Sport_Port) : List Asrt:=[stb g.1 143 [(.int .i64 x.fNumbers.fSlow),(.int .i64 x.fNumbers.fDelay),(.int .i64 x.fNumbers.fStore),(.int .i64 x.fNow),(.int .i64 x.fLast),(.slice g.2.1 x.fFrames.length g.2.2)],row (.slice g.2.1 x.fFrames.length g.2.2) 146 2 (x.fFrames.flatMap y27)]
structure Snetwork_event where
 fTime : Int
 fIn_ : Int
 fVl : Int
 fSent : Int
 fHop : Sapi_Hop
 deriving Inhabited,DecidableEq
def yA (x : Snetwork_event) : List Value:=[(.int .i64 x.fTime),(.int .i64 x.fIn_),(.int .i64 x.fVl),(.int .i64 x.fSent),(.int .i64 x.fHop.fNode),(.int .i64 x.fHop.fNext),(.int .i64 x.fHop.fLink)]
theorem e113_oc : ∀ x,∀ u ∈ yA x,u.oneCell' = true:=fun _=>ocB rfl
structure Sapi_Come where
 fSent : Int
 fNode : Int
 fTime : Int
 deriving Inhabited,DecidableEq
def e50 (x : Sapi_Come) : List Value:=[(.int .i64 x.fSent),(.int .i64 x.fNode),(.int .i64 x.fTime)]
theorem y7U : ∀ x,∀ u ∈ e50 x,u.oneCell' = true:=fun _=>ocB rfl
structure S51 where
 a0 : Int
 a1 : Int
 deriving Inhabited,DecidableEq
structure S67 where
 fAll : List Sapi_Come
 fOwn : List Sapi_Come
 deriving Inhabited,DecidableEq
structure S90 where
 fSlow : Int
 fDelay : Int
 fStore : Int
 fNow : Int
 fAt : List Int
 fSize : List Int
 fEnd : List Int
 deriving Inhabited,DecidableEq
structure S92 where
 fNode : Int
 fLink : Int
 fPort : S90
 deriving Inhabited,DecidableEq
def e51 (x : S51) : List Value:=[(.int .i64 x.a0),(.int .i64 x.a1)]
def p67 (Z : Zp) (r : List Value) (x : S67) : Prop:=∃ (ao0 : Option Addr) (cap0 : Nat) (ao1 : Option Addr) (cap1 : Nat),r = [(.slice ao0 x.fAll.length cap0),(.slice ao1 x.fOwn.length cap1)] ∧ ZS Z 3 (fun r x=>r = e50 x) ao0 cap0 x.fAll ∧ ZS Z 3 (fun r x=>r = e50 x) ao1 cap1 x.fOwn
theorem y1N : y4B Try.prog 31 8:=y3E (i:=Try.t31) Try.underlying31 rfl rfl
theorem y4q : yC Try.prog 31 0 0:=yq (i:=Try.t22) Try.underlying31 rfl rfl (by decide) rfl
theorem y4r : y4f Try.prog 22:=y38 Try.underlying22 rfl
theorem y5h : yC Try.prog 31 2 2:=yq (i:=Try.t24) Try.underlying31 rfl rfl (by decide) rfl
theorem y5i : y4f Try.prog 24:=y38 Try.underlying24 rfl
theorem y7e : yC Try.prog 31 3 3:=yq (i:=Try.t25) Try.underlying31 rfl rfl (by decide) rfl
theorem y7f : y4f Try.prog 25:=y38 Try.underlying25 rfl
theorem y7g : yC Try.prog 31 4 4:=yq (i:=Try.t26) Try.underlying31 rfl rfl (by decide) rfl
theorem y7h : y4f Try.prog 26:=y38 Try.underlying26 rfl
theorem y65 : elT Try.prog 32 55 1 24:=⟨Try.underlying32,⟨Try.t55,_,rfl,rfl,rfl,rfl,rfl⟩,by decide⟩
theorem y66 : y4f Try.prog 55:=y38 Try.underlying55 rfl
theorem yh : y4f Try.prog 3:=y38 Try.underlying3 rfl
theorem y67 : elT Try.prog 55 59 3 24:=⟨Try.underlying55,⟨Try.t59,_,rfl,rfl,rfl,rfl,rfl⟩,by decide⟩
theorem y68 : y4B Try.prog 59 3:=y3E (i:=Try.t59) Try.underlying59 rfl rfl
theorem y7w : y2Q Try.prog 59 (.agg #[(.int .i64 0),(.int .i64 0),(.int .i64 0)]):=y2M (i:=Try.t59) rfl rfl
theorem y8e : y3D Try.prog 59 3:=y2E (i:=Try.t59) rfl
theorem y39 : yC Try.prog 59 0 0:=yq (i:=Try.t3) Try.underlying59 rfl rfl (by decide) rfl
theorem y4s : y2Q Try.prog 3 (.int .i64 0):=y2M (i:=Try.t3) rfl rfl
theorem y69 : KeyT Try.prog 3 (Value.int .i64):=keyT_int Try.underlying3
theorem y5j : yC Try.prog 59 1 1:=yq (i:=Try.t3) Try.underlying59 rfl rfl (by decide) rfl
theorem y5k : yC Try.prog 59 2 2:=yq (i:=Try.t3) Try.underlying59 rfl rfl (by decide) rfl
theorem y98 : elT Try.prog 25 62 4 48:=⟨Try.underlying25,⟨Try.t62,_,rfl,rfl,rfl,rfl,rfl⟩,by decide⟩
theorem aggT_62 : y4B Try.prog 62 4:=y3E (i:=Try.t62) Try.underlying62 rfl rfl
theorem zeroT_62 : y2Q Try.prog 62 (.agg #[(.string ⟨#[]⟩),(.string ⟨#[]⟩),(.int .i64 0),(.int .i64 0)]):=y2M (i:=Try.t62) rfl rfl
theorem sizT_62 : y3D Try.prog 62 4:=y2E (i:=Try.t62) rfl
theorem fo_62_0 : yC Try.prog 62 0 0:=yq (i:=Try.t9) Try.underlying62 rfl rfl (by decide) rfl
theorem y7V : y4f Try.prog 9:=y38 Try.underlying9 rfl
theorem elT_22 : elT Try.prog 22 104 4 56:=⟨Try.underlying22,⟨Try.t104,_,rfl,rfl,rfl,rfl,rfl⟩,by decide⟩
theorem fo_104_0 : yC Try.prog 104 0 0:=yq (i:=Try.t9) Try.underlying104 rfl rfl (by decide) rfl
theorem y76 : elT Try.prog 24 64 4 40:=⟨Try.underlying24,⟨Try.t64,_,rfl,rfl,rfl,rfl,rfl⟩,by decide⟩
theorem fo_64_0 : yC Try.prog 64 0 0:=yq (i:=Try.t9) Try.underlying64 rfl rfl (by decide) rfl
theorem fo_62_1 : yC Try.prog 62 1 1:=yq (i:=Try.t9) Try.underlying62 rfl rfl (by decide) rfl
theorem fo_62_2 : yC Try.prog 62 2 2:=yq (i:=Try.t3) Try.underlying62 rfl rfl (by decide) rfl
theorem y8f : yC Try.prog 62 3 3:=yq (i:=Try.t3) Try.underlying62 rfl rfl (by decide) rfl
theorem aggT_64 : y4B Try.prog 64 4:=y3E (i:=Try.t64) Try.underlying64 rfl rfl
theorem zeroT_64 : y2Q Try.prog 64 (.agg #[(.string ⟨#[]⟩),(.int .i64 0),(.int .i64 0),(.int .i64 0)]):=y2M (i:=Try.t64) rfl rfl
theorem sizT_64 : y3D Try.prog 64 4:=y2E (i:=Try.t64) rfl
theorem fo_64_1 : yC Try.prog 64 1 1:=yq (i:=Try.t3) Try.underlying64 rfl rfl (by decide) rfl
theorem y8g : yC Try.prog 64 2 2:=yq (i:=Try.t3) Try.underlying64 rfl rfl (by decide) rfl
theorem y8h : yC Try.prog 64 3 3:=yq (i:=Try.t3) Try.underlying64 rfl rfl (by decide) rfl
theorem y43 : elT Try.prog 33 53 3 24:=⟨Try.underlying33,⟨Try.t53,_,rfl,rfl,rfl,rfl,rfl⟩,by decide⟩
theorem y6a : y4B Try.prog 53 3:=y3E (i:=Try.t53) Try.underlying53 rfl rfl
theorem y6w : y2Q Try.prog 53 (.agg #[(.int .i64 0),(.int .i64 0),(.int .i64 0)]):=y2M (i:=Try.t53) rfl rfl
theorem y7i : y3D Try.prog 53 3:=y2E (i:=Try.t53) rfl
theorem y4t : yC Try.prog 53 0 0:=yq (i:=Try.t3) Try.underlying53 rfl rfl (by decide) rfl
theorem y4E : yC Try.prog 53 1 1:=yq (i:=Try.t3) Try.underlying53 rfl rfl (by decide) rfl
theorem y6b : yC Try.prog 53 2 2:=yq (i:=Try.t3) Try.underlying53 rfl rfl (by decide) rfl
theorem y56 : elT Try.prog 56 3 1 8:=⟨Try.underlying56,⟨Try.t3,_,rfl,rfl,rfl,rfl,rfl⟩,by decide⟩
theorem y7x : y2Q Try.prog 31 (.agg #[(.slice none 0 0),(.slice none 0 0),(.slice none 0 0),(.slice none 0 0),(.slice none 0 0),(.slice none 0 0),(.slice none 0 0),(.slice none 0 0)]):=y2M (i:=Try.t31) rfl rfl
theorem elT_26 : elT Try.prog 26 109 7 104:=⟨Try.underlying26,⟨Try.t109,_,rfl,rfl,rfl,rfl,rfl⟩,by decide⟩
theorem y8i : y3D Try.prog 31 8:=y2E (i:=Try.t31) rfl
theorem y9M : yC Try.prog 81 2 9:=yq (i:=Try.t33) Try.underlying81 rfl rfl (by decide) rfl
theorem y9N : y4f Try.prog 33:=y38 Try.underlying33 rfl
theorem fo_81_1 : yC Try.prog 81 1 8:=yq (i:=Try.t32) Try.underlying81 rfl rfl (by decide) rfl
theorem oneT_32 : y4f Try.prog 32:=y38 Try.underlying32 rfl
theorem y8j : yC Try.prog 81 4 11:=yq (i:=Try.t79) Try.underlying81 rfl rfl (by decide) rfl
theorem y99 (p : Option Addr) : ∀ w,(method (Try.prog.types.size + Made.depth) 111 (.pointer p) "Push").run Try.prog w = .ok (92,.pointer p) w:=fun _=>by kernel_rfl
theorem y5l : y4f Try.prog 79:=y38 Try.underlying79 rfl
theorem y4x : elT Try.prog 79 113 7 56:=⟨Try.underlying79,⟨Try.t113,_,rfl,rfl,rfl,rfl,rfl⟩,by decide⟩
theorem y9O : y3D Try.prog 79 1:=y2E (i:=Try.t79) rfl
theorem y7p {A : Addr} {v : Value} : ∀ w : World,w.cell? A = some v → (method (Try.prog.types.size + Made.depth) 111 (.pointer (some A)) "Len").run Try.prog w = .ok (86,v) w:=fun w h=>y6v (i:=Try.t111) rfl rfl rfl rfl Try.underlying111 y5l h
theorem y5w {A : Addr} {v : Value} : ∀ w : World,w.cell? A = some v → (method (Try.prog.types.size + Made.depth) 111 (.pointer (some A)) "Less").run Try.prog w = .ok (87,v) w:=fun w h=>y6v (i:=Try.t111) rfl rfl rfl rfl Try.underlying111 y5l h
theorem zao : y4B Try.prog 113 7:=y3E (i:=Try.t113) Try.underlying113 rfl rfl
theorem y6x : yC Try.prog 113 0 0:=yq (i:=Try.t3) Try.underlying113 rfl rfl (by decide) rfl
theorem y9a : yC Try.prog 113 1 1:=yq (i:=Try.t3) Try.underlying113 rfl rfl (by decide) rfl
theorem y9b : yC Try.prog 113 2 2:=yq (i:=Try.t3) Try.underlying113 rfl rfl (by decide) rfl
theorem y4W : yC Try.prog 113 3 3:=yq (i:=Try.t3) Try.underlying113 rfl rfl (by decide) rfl
theorem y5x {A : Addr} {v : Value} : ∀ w : World,w.cell? A = some v → (method (Try.prog.types.size + Made.depth) 111 (.pointer (some A)) "Swap").run Try.prog w = .ok (88,v) w:=fun w h=>y6v (i:=Try.t111) rfl rfl rfl rfl Try.underlying111 y5l h
theorem zf0 : y3D Try.prog 113 7:=y2E (i:=Try.t113) rfl
theorem y9A (p : Option Addr) : ∀ w,(method (Try.prog.types.size + Made.depth) 111 (.pointer p) "Pop").run Try.prog w = .ok (91,.pointer p) w:=fun _=>by kernel_rfl
theorem zkY : y2Q Try.prog 113 (.agg #[(.int .i64 0),(.int .i64 0),(.int .i64 0),(.int .i64 0),(.int .i64 0),(.int .i64 0),(.int .i64 0)]):=y2M (i:=Try.t113) rfl rfl
theorem y4X : yC Try.prog 113 4 4:=yq (i:=Try.t59) Try.underlying113 rfl rfl (by decide) rfl
theorem zpj : y2Q Try.prog 136 (.agg #[(.int .i64 0),(.int .i64 0)]):=y2M (i:=Try.t136) rfl rfl
theorem zpk : y3D Try.prog 136 2:=y2E (i:=Try.t136) rfl
theorem y8k : yC Try.prog 81 3 10:=yq (i:=Try.t77) Try.underlying81 rfl rfl (by decide) rfl
theorem y8l : y4f Try.prog 77:=y38 Try.underlying77 rfl
theorem zgQ : y4B Try.prog 136 2:=y3E (i:=Try.t136) Try.underlying136 rfl rfl
theorem zkZ : y2Q Try.prog 116 (.pointer none):=y2M (i:=Try.t116) rfl rfl
theorem zpl : EqT Try.prog 136 y1V:=⟨fun u v w=>by
 have i136_10000:=fun (w : World) (a b : Array Value)=>run_equalIn_agg (P:=Try.prog) w 9999 136 a b (by simp [Program.fieldsOf,Try.underlying136]) (by kernel_rfl)
 have i3_9999:=fun (w : World) (a b : Int)=>run_equalIn_int (P:=Try.prog) w 9998 3 .i64 .i64 a b Try.underlying3
 rw [i136_10000]
 simp [Program.fieldsOf,Op.eqFields,part,y1V,i136_10000,Try.underlying136,i3_9999]
 rcases u with ⟨u1,u2⟩
 rcases v with ⟨v1,v2⟩
 by_cases h1 : u1 = v1 <;> by_cases h2 : u2 = v2 <;> simp [h1,h2],by kernel_rfl⟩
theorem zgR : KeyT Try.prog 136 (fun x=>Value.agg (y1V x).toArray):=y92 Try.underlying136 (fun _ _=>rfl) (fun b k w=>by
 have c3_9999:=fun (w : World) (a : Int)=>MapKept.run_checkKey (P:=Try.prog) (w:=w) (kt:=3) (k:=.int .i64 a) Try.underlying3 (by simp [MapKept.IsKey]) b 9998
 have ck : ∀ (w : World) (u0 : Int) (u1 : Int),(Instr.checkKey b 10000 136 (.agg #[.int .i64 u0,.int .i64 u1])).run Try.prog w = .ok () w:=fun w u0 u1=>by
  rw [show (10000 : Nat) = 9999 + 1 from rfl,Instr.checkKey]
  simp [run_underlying Try.underlying136,c3_9999,part]
 exact ck w k.fNode k.fLink)
 (fun u v w=>zpl.eq u v w)
 (fun k=>by simp [Instr.sameBits,y1V])
theorem y6c : yC Try.prog 81 0 0:=yq (i:=Try.t31) Try.underlying81 rfl rfl (by decide) rfl
theorem y6y : yC Try.prog 143 0 0:=yq (i:=Try.t140) Try.underlying143 rfl rfl (by decide) rfl
theorem y9c : yC Try.prog 140 0 0:=yq (i:=Try.t3) Try.underlying140 rfl rfl (by decide) rfl
theorem y7y : yC Try.prog 143 1 3:=yq (i:=Try.t3) Try.underlying143 rfl rfl (by decide) rfl
theorem y7W : y3D Try.prog 3 1:=y2E (i:=Try.t3) rfl
theorem y5y : yC Try.prog 143 3 5:=yq (i:=Try.t141) Try.underlying143 rfl rfl (by decide) rfl
theorem zgS : y4f Try.prog 141:=y38 Try.underlying141 rfl
theorem y9d : yC Try.prog 146 1 1:=yq (i:=Try.t3) Try.underlying146 rfl rfl (by decide) rfl
theorem z78 : elT Try.prog 141 146 2 16:=⟨Try.underlying141,⟨Try.t146,_,rfl,rfl,rfl,rfl,rfl⟩,by decide⟩
theorem zap : y4B Try.prog 146 2:=y3E (i:=Try.t146) Try.underlying146 rfl rfl
theorem zgT : y2Q Try.prog 146 (.agg #[(.int .i64 0),(.int .i64 0)]):=y2M (i:=Try.t146) rfl rfl
theorem zgU : y3D Try.prog 146 2:=y2E (i:=Try.t146) rfl
theorem zl0 : y3D Try.prog 141 1:=y2E (i:=Try.t141) rfl
theorem fo_146_0 : yC Try.prog 146 0 0:=yq (i:=Try.t3) Try.underlying146 rfl rfl (by decide) rfl
theorem fo_140_2 : yC Try.prog 140 2 2:=yq (i:=Try.t3) Try.underlying140 rfl rfl (by decide) rfl
theorem fo_140_1 : yC Try.prog 140 1 1:=yq (i:=Try.t3) Try.underlying140 rfl rfl (by decide) rfl
theorem y6z : yC Try.prog 143 2 4:=yq (i:=Try.t3) Try.underlying143 rfl rfl (by decide) rfl
theorem y8m : yC Try.prog 81 6 13:=yq (i:=Try.t36) Try.underlying81 rfl rfl (by decide) rfl
theorem y5m : y4f Try.prog 36:=y38 Try.underlying36 rfl
theorem y14 : elT Try.prog 36 50 3 24:=⟨Try.underlying36,⟨Try.t50,_,rfl,rfl,rfl,rfl,rfl⟩,by decide⟩
theorem y9P : y3D Try.prog 36 1:=y2E (i:=Try.t36) rfl
theorem y8n : yC Try.prog 81 5 12:=yq (i:=Try.t36) Try.underlying81 rfl rfl (by decide) rfl
theorem y9Q : yC Try.prog 50 2 2:=yq (i:=Try.t3) Try.underlying50 rfl rfl (by decide) rfl
theorem y4Y : yC Try.prog 50 0 0:=yq (i:=Try.t3) Try.underlying50 rfl rfl (by decide) rfl
theorem y9R : yC Try.prog 50 1 1:=yq (i:=Try.t3) Try.underlying50 rfl rfl (by decide) rfl
theorem y1T : y4B Try.prog 50 3:=y3E (i:=Try.t50) Try.underlying50 rfl rfl
theorem y49 : y3D Try.prog 50 3:=y2E (i:=Try.t50) rfl
theorem eqT_50 : EqT Try.prog 50 e50:=⟨fun u v w=>by
 have i50_10000:=fun (w : World) (a b : Array Value)=>run_equalIn_agg (P:=Try.prog) w 9999 50 a b (by simp [Program.fieldsOf,Try.underlying50]) (by kernel_rfl)
 have i3_9999:=fun (w : World) (a b : Int)=>run_equalIn_int (P:=Try.prog) w 9998 3 .i64 .i64 a b Try.underlying3
 rw [i50_10000]
 simp [Program.fieldsOf,Op.eqFields,part,e50,i50_10000,Try.underlying50,i3_9999]
 rcases u with ⟨u1,u2,u3⟩
 rcases v with ⟨v1,v2,v3⟩
 by_cases h1 : u1 = v1 <;> by_cases h2 : u2 = v2 <;> by_cases h3 : u3 = v3 <;> simp [h1,h2,h3],by kernel_rfl⟩
theorem y6d : KeyT Try.prog 51 (fun x=>Value.agg (e51 x).toArray):=y92 Try.underlying51 (fun _ _=>rfl) (fun b k w=>by
 have c3_9999:=fun (w : World) (a : Int)=>MapKept.run_checkKey (P:=Try.prog) (w:=w) (kt:=3) (k:=.int .i64 a) Try.underlying3 (by simp [MapKept.IsKey]) b 9998
 have ck : ∀ (w : World) (u0 : Int) (u1 : Int),(Instr.checkKey b 10000 51 (.agg #[.int .i64 u0,.int .i64 u1])).run Try.prog w = .ok () w:=fun w u0 u1=>by
  rw [show (10000 : Nat) = 9999 + 1 from rfl,Instr.checkKey]
  simp [run_underlying Try.underlying51,c3_9999,part,List.range',Std.Legacy.Range.forIn_eq_forIn_range',Std.Legacy.Range.size]
 exact ck w k.a0 k.a1)
 (fun u v w=>by
 have i3:=fun (w : World) (a b : Int)=>run_equalIn_int (P:=Try.prog) w 9998 3 .i64 .i64 a b Try.underlying3
 show (Op.equalIn 10000 51 _ _).run _ _ = _
 rw [show (10000 : Nat) = 9999 + 1 from rfl,Op.equalIn]
 simp [run_underlying Try.underlying51,part,e51,i3,List.range',Std.Legacy.Range.forIn_eq_forIn_range',Std.Legacy.Range.size]
 rcases u with ⟨u1,u2⟩
 rcases v with ⟨v1,v2⟩
 by_cases h1 : u1 = v1 <;> by_cases h2 : u2 = v2 <;> simp [h1,h2])
 (fun k=>by simp [Instr.sameBits,e51])
theorem zeroT_51 : y2Q Try.prog 51 (.agg #[(.int .i64 0),(.int .i64 0)]):=y2M (i:=Try.t51) rfl rfl
theorem sizT_51 : y3D Try.prog 51 2:=y2E (i:=Try.t51) rfl
theorem aggT_51 : y4B Try.prog 51 2:=y3E (i:=Try.t51) Try.underlying51 rfl rfl
theorem elT_68 : elT Try.prog 68 67 2 48:=⟨Try.underlying68,⟨Try.t67,_,rfl,rfl,rfl,rfl,rfl⟩,by decide⟩
theorem aggT_67 : y4B Try.prog 67 2:=y3E (i:=Try.t67) Try.underlying67 rfl rfl
theorem zeroT_67 : y2Q Try.prog 67 (.agg #[(.slice none 0 0),(.slice none 0 0)]):=y2M (i:=Try.t67) rfl rfl
theorem sizT_67 : y3D Try.prog 67 2:=y2E (i:=Try.t67) rfl
theorem fo_67_0 : yC Try.prog 67 0 0:=yq (i:=Try.t36) Try.underlying67 rfl rfl (by decide) rfl
theorem y9e : y2Q Try.prog 50 (.agg #[(.int .i64 0),(.int .i64 0),(.int .i64 0)]):=y2M (i:=Try.t50) rfl rfl
theorem fo_67_1 : yC Try.prog 67 1 1:=yq (i:=Try.t36) Try.underlying67 rfl rfl (by decide) rfl
def y2N (routes_99 : List (List Sapi_Hop)) (z79 : Option Bool) : Nat → Int → Option Bool
 | 0,_=>none
 | zgV + 1,z3J=>if decide (z3J < ((routes_99.length : Nat) : Int)) then chk ((0 : Int) ≤ z3J ∧ z3J < ((routes_99.length : Nat) : Int)) (if decide ((((nth routes_99 z3J).length : Nat) : Int) > 40) then some false else y2N routes_99 z79 zgV (i64 (z3J + 1))) else z79
theorem y6R {n : Nat} {routes_99 : List (List Sapi_Hop)} {z79 : Option Bool} {z3J : Int} {r : Bool} (h : y2N routes_99 z79 n z3J = some r) : ∃ m,n = m + 1:=by
 cases n with
 | zero=>cases h
 | succ m=>exact ⟨m,rfl⟩
def y4y (c_74 : Sapi_Config) (routes_99 : List (List Sapi_Hop)) (z4M : List zSt) : Option Bool :=
 if (((((decide (((c_74.fModules.length : Nat) : Int) > 8)) || (decide (((c_74.fSwitches.length : Nat) : Int) > 8))) || (decide (((c_74.fLinks.length : Nat) : Int) > 20))) || (decide (((c_74.fVLs.length : Nat) : Int) > 20))) || (decide (((routes_99.length : Nat) : Int) > 20))) || ((decide (((z4M.length : Nat) : Int) > 40)) && (decide (((z4M.length : Nat) : Int) ≤ 4000))) then some false else jp0 (some true) fun z79=>y2N routes_99 z79 ys 0
set_option maxRecDepth 20000 in
theorem y9B (Z : Zp) (ao_75 : Option Addr) (cap_76 : Nat) (ao_78 : Option Addr) (cap_79 : Nat) (ao_81 : Option Addr) (cap_82 : Nat) (ao_84 : Option Addr) (cap_85 : Nat) (ao_87 : Option Addr) (cap_88 : Nat) (ao_90 : Option Addr) (cap_91 : Nat) (ao_93 : Option Addr) (cap_94 : Nat) (ao_96 : Option Addr) (cap_97 : Nat) (zcw : Option Addr) (zcx : Nat) (zf1 : Option Addr) (zf2 : Nat) (c_74 : Sapi_Config) (routes_99 : List (List Sapi_Hop)) (z4M : List zSt) (r : Bool)
  (h : y4y c_74 routes_99 z4M = some r) (w₀ : World) (hz : PZ [] w₀ Z)
  (hs_77 : ZS Z 4 (y2I Z) ao_75 cap_76 c_74.fModules)
  (hs_80 : ZS Z 4 (y31 Z) ao_78 cap_79 c_74.fChannels)
  (hs_83 : ZS Z 4 (fun r x=>r = e64 x) ao_81 cap_82 c_74.fSwitches)
  (hs_86 : ZS Z 4 (fun r x=>r = e62 x) ao_84 cap_85 c_74.fLinks)
  (hs_89 : ZS Z 7 (y2S Z) ao_87 cap_88 c_74.fVLs)
  (hs_92 : ZS Z 5 (fun r x=>r = y3g x) ao_90 cap_91 c_74.fHealth)
  (hs_95 : ZS Z 3 (y32 Z) ao_93 cap_94 c_74.fCauses)
  (hs_98 : ZS Z 4 (fun r x=>r = y3h x) ao_96 cap_97 c_74.fVersions)
  (zpm : ZS Z 1 (p55 Z) zcw zcx routes_99)
  (zwJ : ZS Z 3 (fun r x=>r = e53 x) zf1 zf2 z4M) :
  Calls Try.prog 10 #[(.agg #[(.slice ao_75 c_74.fModules.length cap_76),(.slice ao_78 c_74.fChannels.length cap_79),(.slice ao_81 c_74.fSwitches.length cap_82),(.slice ao_84 c_74.fLinks.length cap_85),(.slice ao_87 c_74.fVLs.length cap_88),(.slice ao_90 c_74.fHealth.length cap_91),(.slice ao_93 c_74.fCauses.length cap_94),(.slice ao_96 c_74.fVersions.length cap_97)]),(.slice zcw routes_99.length zcx),(.slice zf1 z4M.length zf2)] w₀ fun e w'=>e = .returned (.bool r) ∧ Hp [] w₀ w' []:=by
 unfold y4y at h
 refine Calls.yo (vs:=[(.agg #[(.slice ao_75 c_74.fModules.length cap_76),(.slice ao_78 c_74.fChannels.length cap_79),(.slice ao_81 c_74.fSwitches.length cap_82),(.slice ao_84 c_74.fLinks.length cap_85),(.slice ao_87 c_74.fVLs.length cap_88),(.slice ao_90 c_74.fHealth.length cap_91),(.slice ao_93 c_74.fCauses.length cap_94),(.slice ao_96 c_74.fVersions.length cap_97)]),(.slice zcw routes_99.length zcx),(.slice zf1 z4M.length zf2)]) (pre:=[]) (env:=[(0,(.agg #[(.slice ao_75 c_74.fModules.length cap_76),(.slice ao_78 c_74.fChannels.length cap_79),(.slice ao_81 c_74.fSwitches.length cap_82),(.slice ao_84 c_74.fLinks.length cap_85),(.slice ao_87 c_74.fVLs.length cap_88),(.slice ao_90 c_74.fHealth.length cap_91),(.slice ao_93 c_74.fCauses.length cap_94),(.slice ao_96 c_74.fVersions.length cap_97)])),(1,(.slice zcw routes_99.length zcx)),(2,(.slice zf1 z4M.length zf2))]) Try.func10 rfl Try.ntmps10 rfl (Hp.nil w₀ _) rfl ?_
 refine WC.b (WC.a ?_)
 refine WL.new (dd:=3) rfl rfl rfl (y2p (cs:=[(.slice ao_75 c_74.fModules.length cap_76),(.slice ao_78 c_74.fChannels.length cap_79),(.slice ao_81 c_74.fSwitches.length cap_82),(.slice ao_84 c_74.fLinks.length cap_85),(.slice ao_87 c_74.fVLs.length cap_88),(.slice ao_90 c_74.fHealth.length cap_91),(.slice ao_93 c_74.fCauses.length cap_94),(.slice ao_96 c_74.fVersions.length cap_97)]) rfl rfl) ?_
 intro zwK _
 refine WL.pu rfl (WL.nil (WX.a (WC.b (WC.b (WC.a ?_)))))
 refine WL.a (d:=9) rfl rfl rfl (ya y4q rfl rfl) ?_
 refine WL.a (d:=10) rfl rfl rfl (yb y4r rfl (yd .here rfl)) ?_
 refine WL.a (d:=11) rfl rfl rfl (yZ Try.underlying22 rfl) ?_
 refine WL.pu rfl (WL.pu rfl ?_)
 refine WL.seg false 4 13 (B:=(decide (((c_74.fModules.length : Nat) : Int) > 8)) || (decide (((c_74.fSwitches.length : Nat) : Int) > 8))) rfl rfl rfl rfl rfl rfl (fun h=>(y2m h).symm) (fun _ zpn=>?_) ?_
 ·skip
  refine WL.a (d:=14) rfl rfl rfl (ya y5h rfl rfl) ?_
  refine WL.a (d:=15) rfl rfl rfl (yb y5i rfl (yd .here rfl)) ?_
  refine WL.a (d:=16) rfl rfl rfl (yZ Try.underlying24 rfl) ?_
  refine WL.pu rfl (WL.pu rfl ?_)
  exact WL.yz (y2n zpn) rfl rfl .all
 refine WL.pu rfl ?_
 refine WL.seg false 4 19 (B:=((decide (((c_74.fModules.length : Nat) : Int) > 8)) || (decide (((c_74.fSwitches.length : Nat) : Int) > 8))) || (decide (((c_74.fLinks.length : Nat) : Int) > 20))) rfl rfl rfl rfl rfl rfl (fun h=>(y2m h).symm) (fun _ zpo=>?_) ?_
 ·skip
  refine WL.a (d:=20) rfl rfl rfl (ya y7e rfl rfl) ?_
  refine WL.a (d:=21) rfl rfl rfl (yb y7f rfl (yd .here rfl)) ?_
  refine WL.a (d:=22) rfl rfl rfl (yZ Try.underlying25 rfl) ?_
  refine WL.pu rfl (WL.pu rfl ?_)
  exact WL.yz (y2n zpo) rfl rfl .all
 refine WL.pu rfl ?_
 refine WL.seg false 4 25 (B:=(((decide (((c_74.fModules.length : Nat) : Int) > 8)) || (decide (((c_74.fSwitches.length : Nat) : Int) > 8))) || (decide (((c_74.fLinks.length : Nat) : Int) > 20))) || (decide (((c_74.fVLs.length : Nat) : Int) > 20))) rfl rfl rfl rfl rfl rfl (fun h=>(y2m h).symm) (fun _ zpp=>?_) ?_
 ·skip
  refine WL.a (d:=26) rfl rfl rfl (ya y7g rfl rfl) ?_
  refine WL.a (d:=27) rfl rfl rfl (yb y7h rfl (yd .here rfl)) ?_
  refine WL.a (d:=28) rfl rfl rfl (yZ Try.underlying26 rfl) ?_
  refine WL.pu rfl (WL.pu rfl ?_)
  exact WL.yz (y2n zpp) rfl rfl .all
 refine WL.pu rfl ?_
 refine WL.seg false 3 31 (B:=((((decide (((c_74.fModules.length : Nat) : Int) > 8)) || (decide (((c_74.fSwitches.length : Nat) : Int) > 8))) || (decide (((c_74.fLinks.length : Nat) : Int) > 20))) || (decide (((c_74.fVLs.length : Nat) : Int) > 20))) || (decide (((routes_99.length : Nat) : Int) > 20))) rfl rfl rfl rfl rfl rfl (fun h=>(y2m h).symm) (fun _ zpq=>?_) ?_
 ·skip
  refine WL.pu rfl ?_
  refine WL.a (d:=33) rfl rfl rfl (yZ Try.underlying32 rfl) ?_
  refine WL.pu rfl (WL.pu rfl ?_)
  exact WL.yz (y2n zpq) rfl rfl .all
 refine WL.pu rfl ?_
 refine WL.seg false 8 36 (B:=(((((decide (((c_74.fModules.length : Nat) : Int) > 8)) || (decide (((c_74.fSwitches.length : Nat) : Int) > 8))) || (decide (((c_74.fLinks.length : Nat) : Int) > 20))) || (decide (((c_74.fVLs.length : Nat) : Int) > 20))) || (decide (((routes_99.length : Nat) : Int) > 20))) || ((decide (((z4M.length : Nat) : Int) > 40)) && (decide (((z4M.length : Nat) : Int) ≤ 4000)))) rfl rfl rfl rfl rfl rfl (fun h=>(y2m h).symm) (fun _ zpr=>?_) ?_
 ·skip
  refine WL.pu rfl ?_
  refine WL.a (d:=38) rfl rfl rfl (yZ Try.underlying33 rfl) ?_
  refine WL.pu rfl (WL.pu rfl ?_)
  refine WL.seg true 3 40 (B:=(decide (((z4M.length : Nat) : Int) > 40)) && (decide (((z4M.length : Nat) : Int) ≤ 4000))) rfl rfl rfl rfl rfl rfl (fun h=>(y2U h).symm) (fun _ zps=>?_) ?_
  ·skip
   refine WL.pu rfl ?_
   refine WL.a (d:=42) rfl rfl rfl (yZ Try.underlying33 rfl) ?_
   refine WL.pu rfl (WL.pu rfl ?_)
   exact WL.yz (y2V zps) rfl rfl .all
  refine WL.pu rfl ?_
  exact WL.yz (y2n zpr) rfl rfl .all
 refine WL.nil (WX.a ?_)
 refine WC.cond rfl (fun zgW=>?_) (fun zgW=>?_)
 ·replace h:=yk h zgW
  refine WC.b (WC.a (WL.pu rfl (WL.nil (WX.a (WC.ret (WX.ye ?_))))))
  obtain rfl:=Option.some.inj h
  refine WX.yj Try.results10 (.tmp rfl .nil) (fun w hw=>?_)
  exact ⟨y10 rfl,hw.sub .nil⟩
 ·replace h:=yl h zgW
  refine WC.skip (WX.a ?_)
  obtain ⟨z79,zpt,h⟩:=y29 h
  refine WC.y2f ((z79 = some r)) ([]) ([]) ?_ ?_
  ·skip
   refine WC.b (WC.a (WL.pu rfl ?_))
   refine WL.a (d:=47) rfl rfl rfl (yZ Try.underlying32 rfl) ?_
   refine WL.pu rfl (WL.nil (WX.a (WC.block ?_)))
   refine WC.y4h (fun (zaq : Nat) (z3J : Int)=>(y2N routes_99 z79 zaq z3J = some r)) (fun (zaq : Nat) (z3J : Int)=>[(46,(.slice zcw routes_99.length zcx)),(47,(.int .i64 ((routes_99.length : Nat) : Int))),(48,(.int .i64 z3J))]) (fun (zaq : Nat) (z3J : Int)=>[]) (fun (zaq : Nat) (z3J : Int)=>zaq) ⟨ys,0⟩ h (.cons rfl (.cons rfl (.cons rfl .nil))) .nil ?_
   rintro zaq z3J h
   obtain ⟨zgV,rfl⟩:=y6R h
   rw [y2N] at h
   refine WC.b (WC.a (WL.pu rfl (WL.nil (WX.a (WC.b ?_)))))
   refine WC.cond rfl (fun zgX=>?_) (fun zgX=>?_)
   ·replace h:=yk h zgX
    refine WC.skip (WX.a (WC.b (WC.block (WC.b ?_))))
    obtain ⟨zpu,h⟩:=yi h
    refine WC.a ?_
    refine WL.znth (dd:=50) rfl rfl (Z:=Z) (Pr:=(p55 Z)) y65 rfl rfl zpm zpu ?_
    rintro zwL zwM zpv zwN ⟨zwO,zwP,rfl,zwQ⟩
    refine WL.a (d:=51) rfl rfl rfl (yb y66 rfl (rd_z hz.pv zpv rfl)) ?_
    refine WL.pu rfl (WL.nil (WX.a (WC.b (WC.a (WL.pu rfl ?_)))))
    refine WL.a (d:=53) rfl rfl rfl (yZ Try.underlying55 rfl) ?_
    refine WL.pu rfl (WL.nil (WX.a ?_))
    refine WC.cond rfl (fun zgY=>?_) (fun zgY=>?_)
    ·replace h:=yk h zgY
     refine WC.b (WC.a (WL.pu rfl (WL.nil (WX.a (WC.ret (WX.yr (WX.ye (WX.ye (WX.yr (WX.ye ?_))))))))))
     obtain rfl:=Option.some.inj h
     refine WX.yj Try.results10 (.tmp rfl .nil) (fun w hw=>?_)
     exact ⟨y10 rfl,hw.sub .nil⟩
    ·replace h:=yl h zgY
     refine WC.skip (WX.yg (WX.a (WC.a (WL.pu rfl (WL.pu rfl (WL.nil ?_))))))
     exact WX.round (G:=Nat × Int) ⟨zgV,(i64 (z3J + 1))⟩ h (Nat.lt_succ_self _) (.cons rfl (.cons rfl (.cons rfl .nil))) .nil
   ·replace h:=yl h zgX
    refine WC.exit (WX.yc (WX.yc (WX.yt ?_)))
    exact WX.mid (G:=Unit) () h .nil .nil
  ·rintro  h
   replace h:=zpt.symm.trans h
   refine WC.b (WC.a (WL.pu rfl (WL.nil (WX.a (WC.ret ?_)))))
   obtain rfl:=Option.some.inj h
   refine WX.yj Try.results10 (.tmp rfl .nil) (fun w hw=>?_)
   exact ⟨y10 rfl,hw.sub .nil⟩
def y2z (z12 : Sapi_Config) : Option Int :=
 some (i64 (((z12.fModules.length : Nat) : Int) + ((z12.fSwitches.length : Nat) : Int)))
set_option maxRecDepth 20000 in
theorem y4K (Z : Zp) (zcy : Option Addr) (zcz : Nat) (zcA : Option Addr) (zcB : Nat) (zcC : Option Addr) (zcD : Nat) (zcE : Option Addr) (zcF : Nat) (zcG : Option Addr) (zcH : Nat) (zcI : Option Addr) (zcJ : Nat) (zcK : Option Addr) (zcL : Nat) (zcM : Option Addr) (zcN : Nat) (z12 : Sapi_Config) (r : Int)
  (h : y2z z12 = some r) (w₀ : World) (hz : PZ [] w₀ Z)
  (zwR : ZS Z 4 (y2I Z) zcy zcz z12.fModules)
  (zwS : ZS Z 4 (y31 Z) zcA zcB z12.fChannels)
  (zwT : ZS Z 4 (fun r x=>r = e64 x) zcC zcD z12.fSwitches)
  (zwU : ZS Z 4 (fun r x=>r = e62 x) zcE zcF z12.fLinks)
  (zwV : ZS Z 7 (y2S Z) zcG zcH z12.fVLs)
  (zwW : ZS Z 5 (fun r x=>r = y3g x) zcI zcJ z12.fHealth)
  (zwX : ZS Z 3 (y32 Z) zcK zcL z12.fCauses)
  (zwY : ZS Z 4 (fun r x=>r = y3h x) zcM zcN z12.fVersions) :
  Calls Try.prog 17 #[(.agg #[(.slice zcy z12.fModules.length zcz),(.slice zcA z12.fChannels.length zcB),(.slice zcC z12.fSwitches.length zcD),(.slice zcE z12.fLinks.length zcF),(.slice zcG z12.fVLs.length zcH),(.slice zcI z12.fHealth.length zcJ),(.slice zcK z12.fCauses.length zcL),(.slice zcM z12.fVersions.length zcN)])] w₀ fun e w'=>e = .returned (.int .i64 r) ∧ Hp [] w₀ w' []:=by
 unfold y2z at h
 refine Calls.yo (vs:=[(.agg #[(.slice zcy z12.fModules.length zcz),(.slice zcA z12.fChannels.length zcB),(.slice zcC z12.fSwitches.length zcD),(.slice zcE z12.fLinks.length zcF),(.slice zcG z12.fVLs.length zcH),(.slice zcI z12.fHealth.length zcJ),(.slice zcK z12.fCauses.length zcL),(.slice zcM z12.fVersions.length zcN)])]) (pre:=[]) (env:=[(0,(.agg #[(.slice zcy z12.fModules.length zcz),(.slice zcA z12.fChannels.length zcB),(.slice zcC z12.fSwitches.length zcD),(.slice zcE z12.fLinks.length zcF),(.slice zcG z12.fVLs.length zcH),(.slice zcI z12.fHealth.length zcJ),(.slice zcK z12.fCauses.length zcL),(.slice zcM z12.fVersions.length zcN)]))]) Try.func17 rfl Try.ntmps17 rfl (Hp.nil w₀ _) rfl ?_
 refine WC.b (WC.a ?_)
 refine WL.new (dd:=1) rfl rfl rfl (y2p (cs:=[(.slice zcy z12.fModules.length zcz),(.slice zcA z12.fChannels.length zcB),(.slice zcC z12.fSwitches.length zcD),(.slice zcE z12.fLinks.length zcF),(.slice zcG z12.fVLs.length zcH),(.slice zcI z12.fHealth.length zcJ),(.slice zcK z12.fCauses.length zcL),(.slice zcM z12.fVersions.length zcN)]) rfl rfl) ?_
 intro zwZ _
 refine WL.pu rfl (WL.nil (WX.a (WC.b (WC.a ?_))))
 refine WL.a (d:=3) rfl rfl rfl (ya y4q rfl rfl) ?_
 refine WL.a (d:=4) rfl rfl rfl (yb y4r rfl (yd .here rfl)) ?_
 refine WL.a (d:=5) rfl rfl rfl (yZ Try.underlying22 rfl) ?_
 refine WL.a (d:=6) rfl rfl rfl (ya y5h rfl rfl) ?_
 refine WL.a (d:=7) rfl rfl rfl (yb y5i rfl (yd .here rfl)) ?_
 refine WL.a (d:=8) rfl rfl rfl (yZ Try.underlying24 rfl) ?_
 refine WL.pu rfl (WL.pu rfl (WL.nil (WX.a (WC.ret ?_))))
 obtain rfl:=Option.some.inj h
 refine WX.yj Try.results17 (.tmp rfl .nil) (fun w hw=>?_)
 exact ⟨y10 rfl,hw.sub .nil⟩
def y3a (zU : Sapi_Config) (z3X : Int) : Option ByteArray :=
 (if decide (z3X < 0) then some true else (y2z zU).bind fun zl1=>some (decide (z3X ≥ zl1))).bind fun zgZ=>if zgZ then some ⟨#[]⟩ else if decide (z3X < ((zU.fModules.length : Nat) : Int)) then chk ((0 : Int) ≤ z3X ∧ z3X < ((zU.fModules.length : Nat) : Int)) (some ((nth zU.fModules z3X).fName)) else chk ((0 : Int) ≤ (i64 (z3X - ((zU.fModules.length : Nat) : Int))) ∧ (i64 (z3X - ((zU.fModules.length : Nat) : Int))) < ((zU.fSwitches.length : Nat) : Int)) (some ((nth zU.fSwitches (i64 (z3X - ((zU.fModules.length : Nat) : Int)))).fName))
set_option maxRecDepth 20000 in
theorem y6e (Z : Zp) (zcO : Option Addr) (zcP : Nat) (zcQ : Option Addr) (zcR : Nat) (zcS : Option Addr) (zcT : Nat) (zcU : Option Addr) (zcV : Nat) (zcW : Option Addr) (zcX : Nat) (zcY : Option Addr) (zcZ : Nat) (zd0 : Option Addr) (zd1 : Nat) (zd2 : Option Addr) (zd3 : Nat) (zU : Sapi_Config) (z3X : Int) (r : ByteArray)
  (h : y3a zU z3X = some r) (w₀ : World) (hz : PZ [] w₀ Z)
  (zl2 : ZS Z 4 (y2I Z) zcO zcP zU.fModules)
  (zpw : ZS Z 4 (y31 Z) zcQ zcR zU.fChannels)
  (zl3 : ZS Z 4 (fun r x=>r = e64 x) zcS zcT zU.fSwitches)
  (zpx : ZS Z 4 (fun r x=>r = e62 x) zcU zcV zU.fLinks)
  (zpy : ZS Z 7 (y2S Z) zcW zcX zU.fVLs)
  (zpz : ZS Z 5 (fun r x=>r = y3g x) zcY zcZ zU.fHealth)
  (zpA : ZS Z 3 (y32 Z) zd0 zd1 zU.fCauses)
  (zpB : ZS Z 4 (fun r x=>r = y3h x) zd2 zd3 zU.fVersions) :
  Calls Try.prog 18 #[(.agg #[(.slice zcO zU.fModules.length zcP),(.slice zcQ zU.fChannels.length zcR),(.slice zcS zU.fSwitches.length zcT),(.slice zcU zU.fLinks.length zcV),(.slice zcW zU.fVLs.length zcX),(.slice zcY zU.fHealth.length zcZ),(.slice zd0 zU.fCauses.length zd1),(.slice zd2 zU.fVersions.length zd3)]),(.int .i64 z3X)] w₀ fun e w'=>e = .returned (.string r) ∧ Hp [] w₀ w' []:=by
 unfold y3a at h
 refine Calls.yo (vs:=[(.agg #[(.slice zcO zU.fModules.length zcP),(.slice zcQ zU.fChannels.length zcR),(.slice zcS zU.fSwitches.length zcT),(.slice zcU zU.fLinks.length zcV),(.slice zcW zU.fVLs.length zcX),(.slice zcY zU.fHealth.length zcZ),(.slice zd0 zU.fCauses.length zd1),(.slice zd2 zU.fVersions.length zd3)]),(.int .i64 z3X)]) (pre:=[]) (env:=[(0,(.agg #[(.slice zcO zU.fModules.length zcP),(.slice zcQ zU.fChannels.length zcR),(.slice zcS zU.fSwitches.length zcT),(.slice zcU zU.fLinks.length zcV),(.slice zcW zU.fVLs.length zcX),(.slice zcY zU.fHealth.length zcZ),(.slice zd0 zU.fCauses.length zd1),(.slice zd2 zU.fVersions.length zd3)])),(1,(.int .i64 z3X))]) Try.func18 rfl Try.ntmps18 rfl (Hp.nil w₀ _) rfl ?_
 refine WC.b (WC.a ?_)
 refine WL.new (dd:=2) rfl rfl rfl (y2p (cs:=[(.slice zcO zU.fModules.length zcP),(.slice zcQ zU.fChannels.length zcR),(.slice zcS zU.fSwitches.length zcT),(.slice zcU zU.fLinks.length zcV),(.slice zcW zU.fVLs.length zcX),(.slice zcY zU.fHealth.length zcZ),(.slice zd0 zU.fCauses.length zd1),(.slice zd2 zU.fVersions.length zd3)]) rfl rfl) ?_
 intro zx0 _
 refine WL.pu rfl (WL.nil (WX.a (WC.b (WC.a ?_))))
 refine WL.a (d:=6) rfl rfl rfl (ya y4q rfl rfl) ?_
 refine WL.a (d:=7) rfl rfl rfl (yb y4r rfl (yd .here rfl)) ?_
 refine WL.a (d:=8) rfl rfl rfl (yZ Try.underlying22 rfl) ?_
 refine WL.pu rfl (WL.nil (WX.a (WC.block (WC.b ?_))))
 obtain ⟨zgZ,zl4,h⟩:=zn h
 refine WC.a (WL.pu rfl (WL.pu rfl (WL.pu rfl ?_)))
 refine WL.seg false 4 20 (B:=zgZ) rfl rfl rfl rfl rfl rfl (fun h=>(Option.some.inj (yk zl4 h)).symm) (fun _ zpC=>?_) ?_
 ·skip
  have zd4:=yl zl4 zpC
  obtain ⟨zl1,zpD,zd4⟩:=zn zd4
  replace zd4:=Option.some.inj zd4
  refine WL.pu rfl ?_
  refine WL.a (d:=22) rfl rfl rfl (yD y1N rfl (y1h .here) rfl) ?_
  refine WL.b (dd:=23) rfl rfl rfl (zE (l:=[.tmp 22]) Try.call17 (.cons rfl .nil)) .nil (cc hz .nil fun w pz ho=>y4K _ _ _ _ _ _ _ _ _ _ _ _ _ _ _ _ _ _ _ zpD w pz zl2 zpw zl3 zpx zpy zpz zpA zpB) ?_
  refine WL.pu rfl (WL.pu rfl ?_)
  exact WL.yz zd4 rfl rfl .all
 refine WL.pu rfl (WL.nil (WX.a ?_))
 refine WC.cond rfl (fun zh0=>?_) (fun zh0=>?_)
 ·replace h:=yk h zh0
  refine WC.b (WC.a (WL.pu rfl (WL.nil (WX.a (WC.ret (WX.yr ?_))))))
  obtain rfl:=Option.some.inj h
  refine WX.yj Try.results18 (.tmp rfl .nil) (fun w hw=>?_)
  exact ⟨y10 rfl,hw.sub .nil⟩
 ·replace h:=yl h zh0
  refine WC.b (WC.a (WL.pu rfl (WL.pu rfl (WL.pu rfl (WL.pu rfl (WL.nil (WX.a ?_)))))))
  refine WC.cond rfl (fun zh1=>?_) (fun zh1=>?_)
  ·replace h:=yk h zh1
   refine WC.b ?_
   obtain ⟨zpE,h⟩:=yi h
   refine WC.a ?_
   refine WL.a (d:=30) rfl rfl rfl (ya y4q rfl rfl) ?_
   refine WL.a (d:=31) rfl rfl rfl (yb y4r rfl (yd .here rfl)) ?_
   refine WL.pu rfl ?_
   refine WL.znth (dd:=33) rfl rfl (Z:=Z) (Pr:=(y2I Z)) elT_22 rfl rfl zl2 zpE ?_
   rintro zx1 zx2 zpF zx3 ⟨zx4,zx5,rfl,zx6⟩
   refine WL.a (d:=34) rfl rfl rfl (ya fo_104_0 rfl rfl) ?_
   refine WL.a (d:=35) rfl rfl rfl (yb y7V rfl (y2h hz.pv zpF rfl)) ?_
   refine WL.pu rfl (WL.nil (WX.a (WC.ret (WX.yr ?_))))
   obtain rfl:=Option.some.inj h
   refine WX.yj Try.results18 (.tmp rfl .nil) (fun w hw=>?_)
   exact ⟨y10 rfl,hw.sub .nil⟩
  ·replace h:=yl h zh1
   refine WC.b ?_
   obtain ⟨zpG,h⟩:=yi h
   refine WC.a ?_
   refine WL.a (d:=9) rfl rfl rfl (ya y5h rfl rfl) ?_
   refine WL.a (d:=10) rfl rfl rfl (yb y5i rfl (yd .here rfl)) ?_
   refine WL.pu rfl (WL.pu rfl (WL.pu rfl ?_))
   refine WL.znth (dd:=14) rfl rfl (Z:=Z) (Pr:=(fun r x=>r = e64 x)) y76 rfl rfl zl3 zpG ?_
   rintro zx7 zx8 zpH zx9 rfl
   refine WL.a (d:=15) rfl rfl rfl (ya fo_64_0 rfl rfl) ?_
   refine WL.a (d:=16) rfl rfl rfl (yb y7V rfl (y2h hz.pv zpH rfl)) ?_
   refine WL.pu rfl (WL.nil (WX.a (WC.ret (WX.yr ?_))))
   obtain rfl:=Option.some.inj h
   refine WX.yj Try.results18 (.tmp rfl .nil) (fun w hw=>?_)
   exact ⟨y10 rfl,hw.sub .nil⟩
def y25 (z7a : Int) (zQ : Sapi_Config) (z4d : ByteArray) (z7b : Option Int) : Nat → Int → Option Int
 | 0,_=>none
 | zh2 + 1,z3Y=>if decide (z3Y < z7a) then (y3a zQ z3Y).bind fun zl5=>if decide (zl5 = z4d) then some z3Y else y25 z7a zQ z4d z7b zh2 (i64 (z3Y + 1)) else z7b
theorem y5T {n : Nat} {z7a : Int} {zQ : Sapi_Config} {z4d : ByteArray} {z7b : Option Int} {z3Y : Int} {r : Int} (h : y25 z7a zQ z4d z7b n z3Y = some r) : ∃ m,n = m + 1:=by
 cases n with
 | zero=>cases h
 | succ m=>exact ⟨m,rfl⟩
def y20 (zQ : Sapi_Config) (z4d : ByteArray) : Option Int :=
 jp0 (some (-1)) fun z7b=>(y2z zQ).bind fun z7a=>y25 z7a zQ z4d z7b ys 0
set_option maxRecDepth 20000 in
theorem y6f (Z : Zp) (zar : Option Addr) (zas : Nat) (zat : Option Addr) (zau : Nat) (zav : Option Addr) (zaw : Nat) (zax : Option Addr) (zay : Nat) (zaz : Option Addr) (zaA : Nat) (zaB : Option Addr) (zaC : Nat) (zaD : Option Addr) (zaE : Nat) (zaF : Option Addr) (zaG : Nat) (zQ : Sapi_Config) (z4d : ByteArray) (r : Int)
  (h : y20 zQ z4d = some r) (w₀ : World) (hz : PZ [] w₀ Z)
  (zl6 : ZS Z 4 (y2I Z) zar zas zQ.fModules)
  (zl7 : ZS Z 4 (y31 Z) zat zau zQ.fChannels)
  (zl8 : ZS Z 4 (fun r x=>r = e64 x) zav zaw zQ.fSwitches)
  (zl9 : ZS Z 4 (fun r x=>r = e62 x) zax zay zQ.fLinks)
  (zla : ZS Z 7 (y2S Z) zaz zaA zQ.fVLs)
  (zlb : ZS Z 5 (fun r x=>r = y3g x) zaB zaC zQ.fHealth)
  (zlc : ZS Z 3 (y32 Z) zaD zaE zQ.fCauses)
  (zld : ZS Z 4 (fun r x=>r = y3h x) zaF zaG zQ.fVersions) :
  Calls Try.prog 59 #[(.agg #[(.slice zar zQ.fModules.length zas),(.slice zat zQ.fChannels.length zau),(.slice zav zQ.fSwitches.length zaw),(.slice zax zQ.fLinks.length zay),(.slice zaz zQ.fVLs.length zaA),(.slice zaB zQ.fHealth.length zaC),(.slice zaD zQ.fCauses.length zaE),(.slice zaF zQ.fVersions.length zaG)]),(.string z4d)] w₀ fun e w'=>e = .returned (.int .i64 r) ∧ Hp [] w₀ w' []:=by
 unfold y20 at h
 refine Calls.yo (vs:=[(.agg #[(.slice zar zQ.fModules.length zas),(.slice zat zQ.fChannels.length zau),(.slice zav zQ.fSwitches.length zaw),(.slice zax zQ.fLinks.length zay),(.slice zaz zQ.fVLs.length zaA),(.slice zaB zQ.fHealth.length zaC),(.slice zaD zQ.fCauses.length zaE),(.slice zaF zQ.fVersions.length zaG)]),(.string z4d)]) (pre:=[]) (env:=[(0,(.agg #[(.slice zar zQ.fModules.length zas),(.slice zat zQ.fChannels.length zau),(.slice zav zQ.fSwitches.length zaw),(.slice zax zQ.fLinks.length zay),(.slice zaz zQ.fVLs.length zaA),(.slice zaB zQ.fHealth.length zaC),(.slice zaD zQ.fCauses.length zaE),(.slice zaF zQ.fVersions.length zaG)])),(1,(.string z4d))]) Try.func59 rfl Try.ntmps59 rfl (Hp.nil w₀ _) rfl ?_
 refine WC.b (WC.a ?_)
 refine WL.new (dd:=2) rfl rfl rfl (y2p (cs:=[(.slice zar zQ.fModules.length zas),(.slice zat zQ.fChannels.length zau),(.slice zav zQ.fSwitches.length zaw),(.slice zax zQ.fLinks.length zay),(.slice zaz zQ.fVLs.length zaA),(.slice zaB zQ.fHealth.length zaC),(.slice zaD zQ.fCauses.length zaE),(.slice zaF zQ.fVersions.length zaG)]) rfl rfl) ?_
 intro zle _
 refine WL.pu rfl (WL.nil (WX.a ?_))
 obtain ⟨z7b,zpI,h⟩:=y29 h
 refine WC.y2f ((z7b = some r)) ([]) ([]) ?_ ?_
 ·skip
  refine WC.b ?_
  obtain ⟨z7a,zpJ,h⟩:=zn h
  refine WC.a ?_
  refine WL.a (d:=6) rfl rfl rfl (yD y1N rfl (y1h .here) rfl) ?_
  refine WL.b (dd:=7) rfl rfl rfl (zE (l:=[.tmp 6]) Try.call17 (.cons rfl .nil)) .nil (cc hz .nil fun w pz ho=>y4K _ _ _ _ _ _ _ _ _ _ _ _ _ _ _ _ _ _ _ zpJ w pz zl6 zl7 zl8 zl9 zla zlb zlc zld) ?_
  refine WL.pu rfl (WL.nil (WX.a (WC.block ?_)))
  refine WC.y4h (fun (zaH : Nat) (z3Y : Int)=>(y25 z7a zQ z4d z7b zaH z3Y = some r)) (fun (zaH : Nat) (z3Y : Int)=>[(1,(.string z4d)),(2,(.pointer (some ⟨zle,0,none⟩))),(7,(.int .i64 z7a)),(8,(.int .i64 z3Y))]) (fun (zaH : Nat) (z3Y : Int)=>[stb zle 31 [(.slice zar zQ.fModules.length zas),(.slice zat zQ.fChannels.length zau),(.slice zav zQ.fSwitches.length zaw),(.slice zax zQ.fLinks.length zay),(.slice zaz zQ.fVLs.length zaA),(.slice zaB zQ.fHealth.length zaC),(.slice zaD zQ.fCauses.length zaE),(.slice zaF zQ.fVersions.length zaG)]]) (fun (zaH : Nat) (z3Y : Int)=>zaH) ⟨ys,0⟩ h (.cons rfl (.cons rfl (.cons rfl (.cons rfl .nil)))) (.cons .here .nil) ?_
  rintro zaH z3Y h
  obtain ⟨zh2,rfl⟩:=y5T h
  rw [y25] at h
  refine WC.b (WC.a (WL.pu rfl (WL.nil (WX.a (WC.b ?_)))))
  refine WC.cond rfl (fun zh3=>?_) (fun zh3=>?_)
  ·replace h:=yk h zh3
   refine WC.skip (WX.a (WC.b (WC.block (WC.b (WC.a (WL.pu rfl (WL.pu rfl (WL.nil (WX.a (WC.b ?_))))))))))
   obtain ⟨zl5,zpK,h⟩:=zn h
   refine WC.a ?_
   refine WL.a (d:=11) rfl rfl rfl (yD y1N rfl (y1h .here) rfl) ?_
   refine WL.pu rfl ?_
   refine WL.b (dd:=13) rfl rfl rfl (zE (l:=[.tmp 11,.tmp 12]) Try.call18 (.cons rfl (.cons rfl .nil))) .nil (cc hz .nil fun w pz ho=>y6e _ _ _ _ _ _ _ _ _ _ _ _ _ _ _ _ _ _ _ _ zpK w pz zl6 zl7 zl8 zl9 zla zlb zlc zld) ?_
   refine WL.pu rfl ?_
   refine WL.a (d:=15) rfl rfl rfl (q_seql rfl rfl) ?_
   refine WL.nil (WX.a ?_)
   refine WC.cond rfl (fun zh4=>?_) (fun zh4=>?_)
   ·replace h:=yk h zh4
    refine WC.b (WC.a (WL.pu rfl (WL.pu rfl (WL.nil (WX.a (WC.ret (WX.yr (WX.ye (WX.ye (WX.yr (WX.ye ?_)))))))))))
    obtain rfl:=Option.some.inj h
    refine WX.yj Try.results59 (.tmp rfl .nil) (fun w hw=>?_)
    exact ⟨y10 rfl,hw.sub .nil⟩
   ·replace h:=yl h zh4
    refine WC.skip (WX.yg (WX.a (WC.a (WL.pu rfl (WL.pu rfl (WL.nil ?_))))))
    exact WX.round (G:=Nat × Int) ⟨zh2,(i64 (z3Y + 1))⟩ h (Nat.lt_succ_self _) (.cons rfl (.cons rfl (.cons rfl (.cons rfl .nil)))) (.cons .here .nil)
  ·replace h:=yl h zh3
   refine WC.exit (WX.yc (WX.yc (WX.yt ?_)))
   exact WX.mid (G:=Unit) () h .nil .nil
 ·rintro  h
  replace h:=zpI.symm.trans h
  refine WC.b (WC.a (WL.pu rfl (WL.nil (WX.a (WC.ret ?_)))))
  obtain rfl:=Option.some.inj h
  refine WX.yj Try.results59 (.tmp rfl .nil) (fun w hw=>?_)
  exact ⟨y10 rfl,hw.sub .nil⟩
def y3b (zz : Sapi_Config) (z5U : Int) (z1B : Int) : Option Bool :=
 if decide (z1B < ((zz.fModules.length : Nat) : Int)) then some (decide (z1B ≥ 0)) else chk ((0 : Int) ≤ (i64 (z1B - ((zz.fModules.length : Nat) : Int))) ∧ (i64 (z1B - ((zz.fModules.length : Nat) : Int))) < ((zz.fSwitches.length : Nat) : Int)) (some (((((decide (((nth zz.fSwitches (i64 (z1B - ((zz.fModules.length : Nat) : Int)))).fNet) = z5U)) && (decide (((nth zz.fSwitches (i64 (z1B - ((zz.fModules.length : Nat) : Int)))).fDelay) ≥ 0))) && (decide (((nth zz.fSwitches (i64 (z1B - ((zz.fModules.length : Nat) : Int)))).fDelay) ≤ 1000))) && (decide (((nth zz.fSwitches (i64 (z1B - ((zz.fModules.length : Nat) : Int)))).fStore) ≥ 0))) && (decide (((nth zz.fSwitches (i64 (z1B - ((zz.fModules.length : Nat) : Int)))).fStore) ≤ 1073741824))))
set_option maxRecDepth 20000 in
theorem y6g (Z : Zp) (zd5 : Option Addr) (zd6 : Nat) (zd7 : Option Addr) (zd8 : Nat) (zd9 : Option Addr) (zda : Nat) (zdb : Option Addr) (zdc : Nat) (zdd : Option Addr) (zde : Nat) (zdf : Option Addr) (zdg : Nat) (zdh : Option Addr) (zdi : Nat) (zdj : Option Addr) (zdk : Nat) (zz : Sapi_Config) (z5U : Int) (z1B : Int) (r : Bool)
  (h : y3b zz z5U z1B = some r) (w₀ : World) (hz : PZ [] w₀ Z)
  (zxa : ZS Z 4 (y2I Z) zd5 zd6 zz.fModules)
  (zxb : ZS Z 4 (y31 Z) zd7 zd8 zz.fChannels)
  (zpL : ZS Z 4 (fun r x=>r = e64 x) zd9 zda zz.fSwitches)
  (zxc : ZS Z 4 (fun r x=>r = e62 x) zdb zdc zz.fLinks)
  (zxd : ZS Z 7 (y2S Z) zdd zde zz.fVLs)
  (zxe : ZS Z 5 (fun r x=>r = y3g x) zdf zdg zz.fHealth)
  (zxf : ZS Z 3 (y32 Z) zdh zdi zz.fCauses)
  (zxg : ZS Z 4 (fun r x=>r = y3h x) zdj zdk zz.fVersions) :
  Calls Try.prog 60 #[(.agg #[(.slice zd5 zz.fModules.length zd6),(.slice zd7 zz.fChannels.length zd8),(.slice zd9 zz.fSwitches.length zda),(.slice zdb zz.fLinks.length zdc),(.slice zdd zz.fVLs.length zde),(.slice zdf zz.fHealth.length zdg),(.slice zdh zz.fCauses.length zdi),(.slice zdj zz.fVersions.length zdk)]),(.int .i64 z5U),(.int .i64 z1B)] w₀ fun e w'=>e = .returned (.bool r) ∧ Hp [] w₀ w' []:=by
 unfold y3b at h
 refine Calls.yo (vs:=[(.agg #[(.slice zd5 zz.fModules.length zd6),(.slice zd7 zz.fChannels.length zd8),(.slice zd9 zz.fSwitches.length zda),(.slice zdb zz.fLinks.length zdc),(.slice zdd zz.fVLs.length zde),(.slice zdf zz.fHealth.length zdg),(.slice zdh zz.fCauses.length zdi),(.slice zdj zz.fVersions.length zdk)]),(.int .i64 z5U),(.int .i64 z1B)]) (pre:=[]) (env:=[(0,(.agg #[(.slice zd5 zz.fModules.length zd6),(.slice zd7 zz.fChannels.length zd8),(.slice zd9 zz.fSwitches.length zda),(.slice zdb zz.fLinks.length zdc),(.slice zdd zz.fVLs.length zde),(.slice zdf zz.fHealth.length zdg),(.slice zdh zz.fCauses.length zdi),(.slice zdj zz.fVersions.length zdk)])),(1,(.int .i64 z5U)),(2,(.int .i64 z1B))]) Try.func60 rfl Try.ntmps60 rfl (Hp.nil w₀ _) rfl ?_
 refine WC.b (WC.a ?_)
 refine WL.new (dd:=3) rfl rfl rfl (y2p (cs:=[(.slice zd5 zz.fModules.length zd6),(.slice zd7 zz.fChannels.length zd8),(.slice zd9 zz.fSwitches.length zda),(.slice zdb zz.fLinks.length zdc),(.slice zdd zz.fVLs.length zde),(.slice zdf zz.fHealth.length zdg),(.slice zdh zz.fCauses.length zdi),(.slice zdj zz.fVersions.length zdk)]) rfl rfl) ?_
 intro zxh _
 refine WL.pu rfl (WL.nil (WX.a (WC.b (WC.b (WC.a (WL.pu rfl ?_))))))
 refine WL.a (d:=9) rfl rfl rfl (ya y4q rfl rfl) ?_
 refine WL.a (d:=10) rfl rfl rfl (yb y4r rfl (yd .here rfl)) ?_
 refine WL.a (d:=11) rfl rfl rfl (yZ Try.underlying22 rfl) ?_
 refine WL.pu rfl (WL.nil (WX.a ?_))
 refine WC.cond rfl (fun zh5=>?_) (fun zh5=>?_)
 ·replace h:=yk h zh5
  refine WC.b (WC.a (WL.pu rfl (WL.pu rfl (WL.pu rfl (WL.nil (WX.a (WC.ret (WX.ye ?_))))))))
  obtain rfl:=Option.some.inj h
  refine WX.yj Try.results60 (.tmp rfl .nil) (fun w hw=>?_)
  exact ⟨y10 rfl,hw.sub .nil⟩
 ·replace h:=yl h zh5
  refine WC.skip (WX.a (WC.b ?_))
  obtain ⟨zpM,h⟩:=yi h
  refine WC.a ?_
  refine WL.a (d:=15) rfl rfl rfl (ya y5h rfl rfl) ?_
  refine WL.a (d:=16) rfl rfl rfl (yb y5i rfl (yd .here rfl)) ?_
  refine WL.pu rfl ?_
  refine WL.a (d:=18) rfl rfl rfl (ya y4q rfl rfl) ?_
  refine WL.a (d:=19) rfl rfl rfl (yb y4r rfl (yd .here rfl)) ?_
  refine WL.a (d:=20) rfl rfl rfl (yZ Try.underlying22 rfl) ?_
  refine WL.pu rfl ?_
  refine WL.znth (dd:=22) rfl rfl (Z:=Z) (Pr:=(fun r x=>r = e64 x)) y76 rfl rfl zpL zpM ?_
  rintro zxi zxj zpN zxk rfl
  refine WL.a (d:=23) rfl rfl rfl (yD aggT_64 rfl (y3p hz.pv zpN) rfl) ?_
  refine WL.new (dd:=7) rfl rfl rfl (y1Y (cs:=[(.string ⟨#[]⟩),(.int .i64 0),(.int .i64 0),(.int .i64 0)]) zeroT_64 rfl) ?_
  intro zxl _
  refine WL.y1g rfl rfl (y1A sizT_64 rfl rfl rfl .here rfl rfl rfl) ?_
  refine WL.nil (WX.a (WC.b (WC.a ?_)))
  refine WL.a (d:=24) rfl rfl rfl (ya fo_64_1 rfl rfl) ?_
  refine WL.a (d:=25) rfl rfl rfl (yb yh rfl (yd .here rfl)) ?_
  refine WL.pu rfl (WL.pu rfl (WL.pu rfl ?_))
  refine WL.seg true 3 28 (B:=(decide (((nth zz.fSwitches (i64 (z1B - ((zz.fModules.length : Nat) : Int)))).fNet) = z5U)) && (decide (((nth zz.fSwitches (i64 (z1B - ((zz.fModules.length : Nat) : Int)))).fDelay) ≥ 0))) rfl rfl rfl rfl rfl rfl (fun h=>(y2U h).symm) (fun _ zpO=>?_) ?_
  ·skip
   refine WL.a (d:=29) rfl rfl rfl (ya y8g rfl rfl) ?_
   refine WL.a (d:=30) rfl rfl rfl (yb yh rfl (yd .here rfl)) ?_
   refine WL.pu rfl (WL.pu rfl ?_)
   exact WL.yz (y2V zpO) rfl rfl .all
  refine WL.pu rfl ?_
  refine WL.seg true 3 33 (B:=((decide (((nth zz.fSwitches (i64 (z1B - ((zz.fModules.length : Nat) : Int)))).fNet) = z5U)) && (decide (((nth zz.fSwitches (i64 (z1B - ((zz.fModules.length : Nat) : Int)))).fDelay) ≥ 0))) && (decide (((nth zz.fSwitches (i64 (z1B - ((zz.fModules.length : Nat) : Int)))).fDelay) ≤ 1000))) rfl rfl rfl rfl rfl rfl (fun h=>(y2U h).symm) (fun _ zpP=>?_) ?_
  ·skip
   refine WL.a (d:=34) rfl rfl rfl (ya y8g rfl rfl) ?_
   refine WL.a (d:=35) rfl rfl rfl (yb yh rfl (yd .here rfl)) ?_
   refine WL.pu rfl (WL.pu rfl ?_)
   exact WL.yz (y2V zpP) rfl rfl .all
  refine WL.pu rfl ?_
  refine WL.seg true 3 38 (B:=(((decide (((nth zz.fSwitches (i64 (z1B - ((zz.fModules.length : Nat) : Int)))).fNet) = z5U)) && (decide (((nth zz.fSwitches (i64 (z1B - ((zz.fModules.length : Nat) : Int)))).fDelay) ≥ 0))) && (decide (((nth zz.fSwitches (i64 (z1B - ((zz.fModules.length : Nat) : Int)))).fDelay) ≤ 1000))) && (decide (((nth zz.fSwitches (i64 (z1B - ((zz.fModules.length : Nat) : Int)))).fStore) ≥ 0))) rfl rfl rfl rfl rfl rfl (fun h=>(y2U h).symm) (fun _ zpQ=>?_) ?_
  ·skip
   refine WL.a (d:=39) rfl rfl rfl (ya y8h rfl rfl) ?_
   refine WL.a (d:=40) rfl rfl rfl (yb yh rfl (yd .here rfl)) ?_
   refine WL.pu rfl (WL.pu rfl ?_)
   exact WL.yz (y2V zpQ) rfl rfl .all
  refine WL.pu rfl ?_
  refine WL.seg true 3 43 (B:=((((decide (((nth zz.fSwitches (i64 (z1B - ((zz.fModules.length : Nat) : Int)))).fNet) = z5U)) && (decide (((nth zz.fSwitches (i64 (z1B - ((zz.fModules.length : Nat) : Int)))).fDelay) ≥ 0))) && (decide (((nth zz.fSwitches (i64 (z1B - ((zz.fModules.length : Nat) : Int)))).fDelay) ≤ 1000))) && (decide (((nth zz.fSwitches (i64 (z1B - ((zz.fModules.length : Nat) : Int)))).fStore) ≥ 0))) && (decide (((nth zz.fSwitches (i64 (z1B - ((zz.fModules.length : Nat) : Int)))).fStore) ≤ 1073741824))) rfl rfl rfl rfl rfl rfl (fun h=>(y2U h).symm) (fun _ zpR=>?_) ?_
  ·skip
   refine WL.a (d:=44) rfl rfl rfl (ya y8h rfl rfl) ?_
   refine WL.a (d:=45) rfl rfl rfl (yb yh rfl (yd .here rfl)) ?_
   refine WL.pu rfl (WL.pu rfl ?_)
   exact WL.yz (y2V zpR) rfl rfl .all
  refine WL.pu rfl (WL.nil (WX.a (WC.ret ?_)))
  obtain rfl:=Option.some.inj h
  refine WX.yj Try.results60 (.tmp rfl .nil) (fun w hw=>?_)
  exact ⟨y10 rfl,hw.sub .nil⟩
def y3v (zL : Sapi_Config) (z5p : Int) (z24 : Int) (z4e : Int) (z4f : Int) : Option Bool :=
 if (decide (z24 < 0)) || (decide (z24 ≥ ((zL.fLinks.length : Nat) : Int))) then some false else chk ((0 : Int) ≤ z24 ∧ z24 < ((zL.fLinks.length : Nat) : Int)) ((y20 zL ((nth zL.fLinks z24).fA)).bind fun z4N=>(y20 zL ((nth zL.fLinks z24).fB)).bind fun z4O=>(if (((decide (((nth zL.fLinks z24).fNet) = z5p)) && (decide (((nth zL.fLinks z24).fSlow) ≥ 1))) && (decide (((nth zL.fLinks z24).fSlow) ≤ 16))) && (decide (z4N ≠ z4O)) then (y3b zL z5p z4N).bind fun zlf=>some zlf else some false).bind fun zh6=>(if zh6 then (y3b zL z5p z4O).bind fun zlg=>some zlg else some false).bind fun zf3=>some (zf3 && (((decide (z4N = z4e)) && (decide (z4O = z4f))) || ((decide (z4N = z4f)) && (decide (z4O = z4e))))))
set_option maxRecDepth 20000 in
theorem y7X (Z : Zp) (zdl : Option Addr) (zdm : Nat) (zdn : Option Addr) (zdo : Nat) (zdp : Option Addr) (zdq : Nat) (zdr : Option Addr) (zds : Nat) (zdt : Option Addr) (zdu : Nat) (zdv : Option Addr) (zdw : Nat) (zdx : Option Addr) (zdy : Nat) (zdz : Option Addr) (zdA : Nat) (zL : Sapi_Config) (z5p : Int) (z24 : Int) (z4e : Int) (z4f : Int) (r : Bool)
  (h : y3v zL z5p z24 z4e z4f = some r) (w₀ : World) (hz : PZ [] w₀ Z)
  (zf4 : ZS Z 4 (y2I Z) zdl zdm zL.fModules)
  (zf5 : ZS Z 4 (y31 Z) zdn zdo zL.fChannels)
  (zf6 : ZS Z 4 (fun r x=>r = e64 x) zdp zdq zL.fSwitches)
  (zdB : ZS Z 4 (fun r x=>r = e62 x) zdr zds zL.fLinks)
  (zf7 : ZS Z 7 (y2S Z) zdt zdu zL.fVLs)
  (zf8 : ZS Z 5 (fun r x=>r = y3g x) zdv zdw zL.fHealth)
  (zf9 : ZS Z 3 (y32 Z) zdx zdy zL.fCauses)
  (zfa : ZS Z 4 (fun r x=>r = y3h x) zdz zdA zL.fVersions) :
  Calls Try.prog 48 #[(.agg #[(.slice zdl zL.fModules.length zdm),(.slice zdn zL.fChannels.length zdo),(.slice zdp zL.fSwitches.length zdq),(.slice zdr zL.fLinks.length zds),(.slice zdt zL.fVLs.length zdu),(.slice zdv zL.fHealth.length zdw),(.slice zdx zL.fCauses.length zdy),(.slice zdz zL.fVersions.length zdA)]),(.int .i64 z5p),(.int .i64 z24),(.int .i64 z4e),(.int .i64 z4f)] w₀ fun e w'=>e = .returned (.bool r) ∧ Hp [] w₀ w' []:=by
 unfold y3v at h
 refine Calls.yo (vs:=[(.agg #[(.slice zdl zL.fModules.length zdm),(.slice zdn zL.fChannels.length zdo),(.slice zdp zL.fSwitches.length zdq),(.slice zdr zL.fLinks.length zds),(.slice zdt zL.fVLs.length zdu),(.slice zdv zL.fHealth.length zdw),(.slice zdx zL.fCauses.length zdy),(.slice zdz zL.fVersions.length zdA)]),(.int .i64 z5p),(.int .i64 z24),(.int .i64 z4e),(.int .i64 z4f)]) (pre:=[]) (env:=[(0,(.agg #[(.slice zdl zL.fModules.length zdm),(.slice zdn zL.fChannels.length zdo),(.slice zdp zL.fSwitches.length zdq),(.slice zdr zL.fLinks.length zds),(.slice zdt zL.fVLs.length zdu),(.slice zdv zL.fHealth.length zdw),(.slice zdx zL.fCauses.length zdy),(.slice zdz zL.fVersions.length zdA)])),(1,(.int .i64 z5p)),(2,(.int .i64 z24)),(3,(.int .i64 z4e)),(4,(.int .i64 z4f))]) Try.func48 rfl Try.ntmps48 rfl (Hp.nil w₀ _) rfl ?_
 refine WC.b (WC.a ?_)
 refine WL.new (dd:=5) rfl rfl rfl (y2p (cs:=[(.slice zdl zL.fModules.length zdm),(.slice zdn zL.fChannels.length zdo),(.slice zdp zL.fSwitches.length zdq),(.slice zdr zL.fLinks.length zds),(.slice zdt zL.fVLs.length zdu),(.slice zdv zL.fHealth.length zdw),(.slice zdx zL.fCauses.length zdy),(.slice zdz zL.fVersions.length zdA)]) rfl rfl) ?_
 intro zxm _
 refine WL.pu rfl (WL.nil (WX.a (WC.b (WC.b (WC.a (WL.pu rfl (WL.pu rfl (WL.pu rfl ?_))))))))
 refine WL.seg false 5 16 (B:=(decide (z24 < 0)) || (decide (z24 ≥ ((zL.fLinks.length : Nat) : Int)))) rfl rfl rfl rfl rfl rfl (fun h=>(y2m h).symm) (fun _ zpS=>?_) ?_
 ·skip
  refine WL.pu rfl ?_
  refine WL.a (d:=18) rfl rfl rfl (ya y7e rfl rfl) ?_
  refine WL.a (d:=19) rfl rfl rfl (yb y7f rfl (yd .here rfl)) ?_
  refine WL.a (d:=20) rfl rfl rfl (yZ Try.underlying25 rfl) ?_
  refine WL.pu rfl (WL.pu rfl ?_)
  exact WL.yz (y2n zpS) rfl rfl .all
 refine WL.nil (WX.a ?_)
 refine WC.cond rfl (fun zh7=>?_) (fun zh7=>?_)
 ·replace h:=yk h zh7
  refine WC.b (WC.a (WL.pu rfl (WL.nil (WX.a (WC.ret (WX.ye ?_))))))
  obtain rfl:=Option.some.inj h
  refine WX.yj Try.results48 (.tmp rfl .nil) (fun w hw=>?_)
  exact ⟨y10 rfl,hw.sub .nil⟩
 ·replace h:=yl h zh7
  refine WC.skip (WX.a (WC.b ?_))
  obtain ⟨zpT,h⟩:=yi h
  refine WC.a ?_
  refine WL.a (d:=23) rfl rfl rfl (ya y7e rfl rfl) ?_
  refine WL.a (d:=24) rfl rfl rfl (yb y7f rfl (yd .here rfl)) ?_
  refine WL.pu rfl ?_
  refine WL.znth (dd:=26) rfl rfl (Z:=Z) (Pr:=(fun r x=>r = e62 x)) y98 rfl rfl zdB zpT ?_
  rintro zxn zxo zpU zxp rfl
  refine WL.a (d:=27) rfl rfl rfl (yD aggT_62 rfl (y3p hz.pv zpU) rfl) ?_
  refine WL.new (dd:=11) rfl rfl rfl (y1Y (cs:=[(.string ⟨#[]⟩),(.string ⟨#[]⟩),(.int .i64 0),(.int .i64 0)]) zeroT_62 rfl) ?_
  intro zxq _
  refine WL.y1g rfl rfl (y1A sizT_62 rfl rfl rfl .here rfl rfl rfl) ?_
  refine WL.nil (WX.a (WC.b ?_))
  obtain ⟨z4N,zpV,h⟩:=zn h
  obtain ⟨z4O,zpW,h⟩:=zn h
  refine WC.y12 (fun i=>[].contains i) [] rfl ?_
  refine WD.e (i:=0) (d:=28) (by kernel_rfl) rfl z2 z3 rfl rfl rfl (yD y1N rfl (y1h .h1) rfl) ?_
  refine WD.a (i:=1) (d:=29) (by kernel_rfl) rfl z2 z3 rfl rfl rfl (fun _=>ya fo_62_0 rfl rfl) ?_
  refine WD.e (i:=2) (d:=30) (by kernel_rfl) rfl z2 z3 rfl rfl rfl (yb y7V rfl (yd .here rfl)) ?_
  refine WD.c (i:=3) (d:=31) (by kernel_rfl) rfl z2 z3 rfl rfl rfl (zE (l:=[.tmp 28,.tmp 30]) Try.call59 (.cons rfl (.cons rfl .nil))) (cc hz .nil fun w pz ho=>y6f _ _ _ _ _ _ _ _ _ _ _ _ _ _ _ _ _ _ _ _ zpV w pz zf4 zf5 zf6 zdB zf7 zf8 zf9 zfa) ?_
  refine WD.e (i:=4) (d:=32) (by kernel_rfl) rfl z2 z3 rfl rfl rfl (yD y1N rfl (y1h .h1) rfl) ?_
  refine WD.a (i:=5) (d:=33) (by kernel_rfl) rfl z2 z3 rfl rfl rfl (fun _=>ya fo_62_1 rfl rfl) ?_
  refine WD.e (i:=6) (d:=34) (by kernel_rfl) rfl z2 z3 rfl rfl rfl (yb y7V rfl (yd .here rfl)) ?_
  refine WD.c (i:=7) (d:=35) (by kernel_rfl) rfl z2 z3 rfl rfl rfl (zE (l:=[.tmp 32,.tmp 34]) Try.call59 (.cons rfl (.cons rfl .nil))) (cc hz .nil fun w pz ho=>y6f _ _ _ _ _ _ _ _ _ _ _ _ _ _ _ _ _ _ _ _ zpW w pz zf4 zf5 zf6 zdB zf7 zf8 zf9 zfa) ?_
  refine WD.a (i:=8) (d:=12) (by kernel_rfl) rfl z2 z3 rfl rfl rfl (fun _=>q_z rfl) ?_
  refine WD.a (i:=9) (d:=13) (by kernel_rfl) rfl z2 z3 rfl rfl rfl (fun _=>q_z rfl) ?_
  refine WD.done (by kernel_rfl) ?_
  refine WX.a (WC.b ?_)
  obtain ⟨zh6,zlh,h⟩:=zn h
  obtain ⟨zf3,zli,h⟩:=zn h
  refine WC.a ?_
  refine WL.a (d:=36) rfl rfl rfl (ya fo_62_2 rfl rfl) ?_
  refine WL.a (d:=37) rfl rfl rfl (yb yh rfl (yd .here rfl)) ?_
  refine WL.pu rfl (WL.pu rfl (WL.pu rfl ?_))
  refine WL.seg true 3 40 (B:=(decide (((nth zL.fLinks z24).fNet) = z5p)) && (decide (((nth zL.fLinks z24).fSlow) ≥ 1))) rfl rfl rfl rfl rfl rfl (fun h=>(y2U h).symm) (fun _ zpX=>?_) ?_
  ·skip
   refine WL.a (d:=41) rfl rfl rfl (ya y8f rfl rfl) ?_
   refine WL.a (d:=42) rfl rfl rfl (yb yh rfl (yd .here rfl)) ?_
   refine WL.pu rfl (WL.pu rfl ?_)
   exact WL.yz (y2V zpX) rfl rfl .all
  refine WL.pu rfl ?_
  refine WL.seg true 3 45 (B:=((decide (((nth zL.fLinks z24).fNet) = z5p)) && (decide (((nth zL.fLinks z24).fSlow) ≥ 1))) && (decide (((nth zL.fLinks z24).fSlow) ≤ 16))) rfl rfl rfl rfl rfl rfl (fun h=>(y2U h).symm) (fun _ zpY=>?_) ?_
  ·skip
   refine WL.a (d:=46) rfl rfl rfl (ya y8f rfl rfl) ?_
   refine WL.a (d:=47) rfl rfl rfl (yb yh rfl (yd .here rfl)) ?_
   refine WL.pu rfl (WL.pu rfl ?_)
   exact WL.yz (y2V zpY) rfl rfl .all
  refine WL.pu rfl ?_
  refine WL.seg true 3 50 (B:=(((decide (((nth zL.fLinks z24).fNet) = z5p)) && (decide (((nth zL.fLinks z24).fSlow) ≥ 1))) && (decide (((nth zL.fLinks z24).fSlow) ≤ 16))) && (decide (z4N ≠ z4O))) rfl rfl rfl rfl rfl rfl (fun h=>(y2U h).symm) (fun _ zpZ=>?_) ?_
  ·skip
   refine WL.pu rfl (WL.pu rfl (WL.pu rfl (WL.pu rfl ?_)))
   exact WL.yz (y2V zpZ) rfl rfl .all
  refine WL.pu rfl ?_
  refine WL.seg true 4 55 (B:=zh6) rfl rfl rfl rfl rfl rfl (fun h=>(Option.some.inj (yl zlh h)).symm) (fun _ zq0=>?_) ?_
  ·skip
   have zdC:=yk zlh zq0
   obtain ⟨zlf,zq1,zdC⟩:=zn zdC
   replace zdC:=Option.some.inj zdC
   refine WL.a (d:=56) rfl rfl rfl (yD y1N rfl (y1h .h1) rfl) ?_
   refine WL.pu rfl (WL.pu rfl ?_)
   refine WL.b (dd:=59) rfl rfl rfl (zE (l:=[.tmp 56,.tmp 57,.tmp 58]) Try.call60 (.cons rfl (.cons rfl (.cons rfl .nil)))) .nil (cc hz .nil fun w pz ho=>y6g _ _ _ _ _ _ _ _ _ _ _ _ _ _ _ _ _ _ _ _ _ zq1 w pz zf4 zf5 zf6 zdB zf7 zf8 zf9 zfa) ?_
   refine WL.pu rfl ?_
   exact WL.yz zdC rfl rfl .all
  refine WL.pu rfl ?_
  refine WL.seg true 4 61 (B:=zf3) rfl rfl rfl rfl rfl rfl (fun h=>(Option.some.inj (yl zli h)).symm) (fun _ zq2=>?_) ?_
  ·skip
   have zdD:=yk zli zq2
   obtain ⟨zlg,zq3,zdD⟩:=zn zdD
   replace zdD:=Option.some.inj zdD
   refine WL.a (d:=62) rfl rfl rfl (yD y1N rfl (y1h .h1) rfl) ?_
   refine WL.pu rfl (WL.pu rfl ?_)
   refine WL.b (dd:=65) rfl rfl rfl (zE (l:=[.tmp 62,.tmp 63,.tmp 64]) Try.call60 (.cons rfl (.cons rfl (.cons rfl .nil)))) .nil (cc hz .nil fun w pz ho=>y6g _ _ _ _ _ _ _ _ _ _ _ _ _ _ _ _ _ _ _ _ _ zq3 w pz zf4 zf5 zf6 zdB zf7 zf8 zf9 zfa) ?_
   refine WL.pu rfl ?_
   exact WL.yz zdD rfl rfl .all
  refine WL.pu rfl ?_
  refine WL.seg true 18 67 (B:=zf3 && (((decide (z4N = z4e)) && (decide (z4O = z4f))) || ((decide (z4N = z4f)) && (decide (z4O = z4e))))) rfl rfl rfl rfl rfl rfl (fun h=>(y2U h).symm) (fun _ zq4=>?_) ?_
  ·skip
   refine WL.pu rfl (WL.pu rfl (WL.pu rfl (WL.pu rfl ?_)))
   refine WL.seg true 3 71 (B:=(decide (z4N = z4e)) && (decide (z4O = z4f))) rfl rfl rfl rfl rfl rfl (fun h=>(y2U h).symm) (fun _ zq5=>?_) ?_
   ·skip
    refine WL.pu rfl (WL.pu rfl (WL.pu rfl (WL.pu rfl ?_)))
    exact WL.yz (y2V zq5) rfl rfl .all
   refine WL.pu rfl ?_
   refine WL.seg false 8 76 (B:=((decide (z4N = z4e)) && (decide (z4O = z4f))) || ((decide (z4N = z4f)) && (decide (z4O = z4e)))) rfl rfl rfl rfl rfl rfl (fun h=>(y2m h).symm) (fun _ zq6=>?_) ?_
   ·skip
    refine WL.pu rfl (WL.pu rfl (WL.pu rfl (WL.pu rfl ?_)))
    refine WL.seg true 3 80 (B:=(decide (z4N = z4f)) && (decide (z4O = z4e))) rfl rfl rfl rfl rfl rfl (fun h=>(y2U h).symm) (fun _ zq7=>?_) ?_
    ·skip
     refine WL.pu rfl (WL.pu rfl (WL.pu rfl (WL.pu rfl ?_)))
     exact WL.yz (y2V zq7) rfl rfl .all
    refine WL.pu rfl ?_
    exact WL.yz (y2n zq6) rfl rfl .all
   refine WL.pu rfl ?_
   exact WL.yz (y2V zq4) rfl rfl .all
  refine WL.pu rfl (WL.nil (WX.a (WC.ret ?_)))
  obtain rfl:=Option.some.inj h
  refine WX.yj Try.results48 (.tmp rfl .nil) (fun w hw=>?_)
  exact ⟨y10 rfl,hw.sub .nil⟩
def y1R (zq : List Sapi_Hop) (zF : Sapi_Config) (z2G : Int) (z7c : Option Bool) : Nat → Int → (List (Int × Int)) → Option Bool
 | 0,_,_=>none
 | zh8 + 1,zy,z3s=>if decide (zy < ((zq.length : Nat) : Int)) then chk ((0 : Int) ≤ zy ∧ zy < ((zq.length : Nat) : Int)) (jp1 (fun (z1v : List (Int × Int))=>chk (((decide ((yp z1v ((nth zq zy).fNode) 0) = 0)) || (decide ((yp z1v ((nth zq zy).fNext) 0) > 0))) = false → ((decide (zy > 0)) = true → ((0 : Int) ≤ 0 ∧ 0 < ((zq.length : Nat) : Int)))) ((if ((decide ((yp z1v ((nth zq zy).fNode) 0) = 0)) || (decide ((yp z1v ((nth zq zy).fNext) 0) > 0))) || (((decide (zy > 0)) && (decide (((nth zq zy).fNode) ≠ ((nth zq 0).fNode)))) && (decide (((nth zq zy).fNode) < ((zF.fModules.length : Nat) : Int)))) then some true else (y3v zF z2G ((nth zq zy).fLink) ((nth zq zy).fNode) ((nth zq zy).fNext)).bind fun zlj=>some (!zlj)).bind fun zh9=>if zh9 then some false else y1R zq zF z2G z7c zh8 (i64 (zy + 1)) (yE z1v ((nth zq zy).fNext) (i64 ((yp z1v ((nth zq zy).fNext) 0) + 1))))) fun zfb=>if decide (zy = 0) then zfb (yE z3s ((nth zq zy).fNode) (i64 ((yp z3s ((nth zq zy).fNode) 0) + 1))) else zfb z3s) else z7c
theorem y5G {n : Nat} {zq : List Sapi_Hop} {zF : Sapi_Config} {z2G : Int} {z7c : Option Bool} {zy : Int} {z3s : List (Int × Int)} {r : Bool} (h : y1R zq zF z2G z7c n zy z3s = some r) : ∃ m,n = m + 1:=by
 cases n with
 | zero=>cases h
 | succ m=>exact ⟨m,rfl⟩
def y3w (zF : Sapi_Config) (z2G : Int) (zq : List Sapi_Hop) : Option Bool :=
 jp0 (some (decide (((zq.length : Nat) : Int) ≤ 32))) fun z7c=>y1R zq zF z2G z7c ys 0 ([] : List (Int × Int))
set_option maxRecDepth 20000 in
theorem y7Y (Z : Zp) (z94 : Option Addr) (z95 : Nat) (z96 : Option Addr) (z97 : Nat) (z98 : Option Addr) (z99 : Nat) (z9a : Option Addr) (z9b : Nat) (z9c : Option Addr) (z9d : Nat) (z9e : Option Addr) (z9f : Nat) (z9g : Option Addr) (z9h : Nat) (z9i : Option Addr) (z9j : Nat) (z2H : Option Addr) (z2I : Nat) (zF : Sapi_Config) (z2G : Int) (zq : List Sapi_Hop) (r : Bool)
  (h : y3w zF z2G zq = some r) (w₀ : World) (hz : PZ [] w₀ Z)
  (zq8 : ZS Z 4 (y2I Z) z94 z95 zF.fModules)
  (zq9 : ZS Z 4 (y31 Z) z96 z97 zF.fChannels)
  (zqa : ZS Z 4 (fun r x=>r = e64 x) z98 z99 zF.fSwitches)
  (zqb : ZS Z 4 (fun r x=>r = e62 x) z9a z9b zF.fLinks)
  (zqc : ZS Z 7 (y2S Z) z9c z9d zF.fVLs)
  (zqd : ZS Z 5 (fun r x=>r = y3g x) z9e z9f zF.fHealth)
  (zqe : ZS Z 3 (y32 Z) z9g z9h zF.fCauses)
  (zqf : ZS Z 4 (fun r x=>r = y3h x) z9i z9j zF.fVersions)
  (zlk : ZS Z 3 (fun r x=>r = e59 x) z2H z2I zq) :
  Calls Try.prog 36 #[(.agg #[(.slice z94 zF.fModules.length z95),(.slice z96 zF.fChannels.length z97),(.slice z98 zF.fSwitches.length z99),(.slice z9a zF.fLinks.length z9b),(.slice z9c zF.fVLs.length z9d),(.slice z9e zF.fHealth.length z9f),(.slice z9g zF.fCauses.length z9h),(.slice z9i zF.fVersions.length z9j)]),(.int .i64 z2G),(.slice z2H zq.length z2I)] w₀ fun e w'=>e = .returned (.bool r) ∧ Hp [] w₀ w' []:=by
 unfold y3w at h
 refine Calls.yo (vs:=[(.agg #[(.slice z94 zF.fModules.length z95),(.slice z96 zF.fChannels.length z97),(.slice z98 zF.fSwitches.length z99),(.slice z9a zF.fLinks.length z9b),(.slice z9c zF.fVLs.length z9d),(.slice z9e zF.fHealth.length z9f),(.slice z9g zF.fCauses.length z9h),(.slice z9i zF.fVersions.length z9j)]),(.int .i64 z2G),(.slice z2H zq.length z2I)]) (pre:=[]) (env:=[(0,(.agg #[(.slice z94 zF.fModules.length z95),(.slice z96 zF.fChannels.length z97),(.slice z98 zF.fSwitches.length z99),(.slice z9a zF.fLinks.length z9b),(.slice z9c zF.fVLs.length z9d),(.slice z9e zF.fHealth.length z9f),(.slice z9g zF.fCauses.length z9h),(.slice z9i zF.fVersions.length z9j)])),(1,(.int .i64 z2G)),(2,(.slice z2H zq.length z2I))]) Try.func36 rfl Try.ntmps36 rfl (Hp.nil w₀ _) rfl ?_
 refine WC.b (WC.a ?_)
 refine WL.new (dd:=3) rfl rfl rfl (y2p (cs:=[(.slice z94 zF.fModules.length z95),(.slice z96 zF.fChannels.length z97),(.slice z98 zF.fSwitches.length z99),(.slice z9a zF.fLinks.length z9b),(.slice z9c zF.fVLs.length z9d),(.slice z9e zF.fHealth.length z9f),(.slice z9g zF.fCauses.length z9h),(.slice z9i zF.fVersions.length z9j)]) rfl rfl) ?_
 intro z7d _
 refine WL.pu rfl (WL.nil (WX.a (WC.b (WC.a ?_))))
 refine WL.new (dd:=10) rfl rfl rfl (y5M (Value.int .i64) (Value.int .i64)) ?_
 intro z7e _
 refine WL.pu rfl (WL.nil (WX.a ?_))
 obtain ⟨z7c,zqg,h⟩:=y29 h
 refine WC.y2f ((z7c = some r)) ([(2,(.slice z2H zq.length z2I))]) ([]) ?_ ?_
 ·skip
  refine WC.b (WC.a (WL.pu rfl ?_))
  refine WL.a (d:=12) rfl rfl rfl (yZ Try.underlying55 rfl) ?_
  refine WL.pu rfl (WL.nil (WX.a (WC.block ?_)))
  refine WC.y2r (fun (zaI : Nat) (zy : Int) (z3s : List (Int × Int))=>(y1R zq zF z2G z7c zaI zy z3s = some r)) (fun (zaI : Nat) (zy : Int) (z3s : List (Int × Int))=>[(1,(.int .i64 z2G)),(2,(.slice z2H zq.length z2I)),(3,(.pointer (some ⟨z7d,0,none⟩))),(7,(.map (some z7e))),(11,(.slice z2H zq.length z2I)),(12,(.int .i64 ((zq.length : Nat) : Int))),(13,(.int .i64 zy))]) (fun (zaI : Nat) (zy : Int) (z3s : List (Int × Int))=>[stb z7d 31 [(.slice z94 zF.fModules.length z95),(.slice z96 zF.fChannels.length z97),(.slice z98 zF.fSwitches.length z99),(.slice z9a zF.fLinks.length z9b),(.slice z9c zF.fVLs.length z9d),(.slice z9e zF.fHealth.length z9f),(.slice z9g zF.fCauses.length z9h),(.slice z9i zF.fVersions.length z9j)],yI z7e (Value.int .i64) (Value.int .i64) z3s]) (fun (zaI : Nat) (zy : Int) (z3s : List (Int × Int))=>zaI) ⟨ys,0,([] : List (Int × Int))⟩ h (.cons rfl (.cons rfl (.cons rfl (.cons rfl (.cons rfl (.cons rfl (.cons rfl .nil))))))) (.cons .h1 (.cons .here .nil)) ?_
  rintro zaI zy z3s h
  obtain ⟨zh8,rfl⟩:=y5G h
  rw [y1R] at h
  refine WC.b (WC.a (WL.pu rfl (WL.nil (WX.a (WC.b ?_)))))
  refine WC.cond rfl (fun zha=>?_) (fun zha=>?_)
  ·replace h:=yk h zha
   refine WC.skip (WX.a (WC.b (WC.block (WC.b ?_))))
   obtain ⟨zqh,h⟩:=yi h
   refine WC.a (WL.pu rfl ?_)
   refine WL.znth (dd:=16) rfl rfl (Z:=Z) (Pr:=(fun r x=>r = e59 x)) y67 rfl rfl zlk zqh ?_
   rintro zxr zxs zqi zxt rfl
   refine WL.a (d:=17) rfl rfl rfl (yD y68 rfl (y3p hz.pv zqi) rfl) ?_
   refine WL.new (dd:=9) rfl rfl rfl (y1Y (cs:=[(.int .i64 0),(.int .i64 0),(.int .i64 0)]) y7w rfl) ?_
   intro z9k _
   refine WL.pu rfl ?_
   refine WL.y1g rfl rfl (y1A y8e rfl rfl rfl .here rfl rfl rfl) ?_
   refine WL.nil (WX.a ?_)
   obtain ⟨zfb,zqj,h⟩:=y1b h
   refine WC.y1K (fun (z1v : List (Int × Int))=>(zfb z1v = some r)) (fun (z1v : List (Int × Int))=>[(1,(.int .i64 z2G)),(2,(.slice z2H zq.length z2I)),(3,(.pointer (some ⟨z7d,0,none⟩))),(7,(.map (some z7e))),(8,(.int .i64 zy)),(9,(.pointer (some ⟨z9k,0,none⟩))),(11,(.slice z2H zq.length z2I)),(12,(.int .i64 ((zq.length : Nat) : Int))),(13,(.int .i64 zy))]) (fun (z1v : List (Int × Int))=>[stb z7d 31 [(.slice z94 zF.fModules.length z95),(.slice z96 zF.fChannels.length z97),(.slice z98 zF.fSwitches.length z99),(.slice z9a zF.fLinks.length z9b),(.slice z9c zF.fVLs.length z9d),(.slice z9e zF.fHealth.length z9f),(.slice z9g zF.fCauses.length z9h),(.slice z9i zF.fVersions.length z9j)],yI z7e (Value.int .i64) (Value.int .i64) z1v,stb z9k 59 [(.int .i64 ((nth zq zy).fNode)),(.int .i64 ((nth zq zy).fNext)),(.int .i64 ((nth zq zy).fLink))]]) ?_ ?_
   ·skip
    refine WC.b (WC.a (WL.pu rfl (WL.pu rfl (WL.nil (WX.a ?_)))))
    refine WC.cond rfl (fun zhb=>?_) (fun zhb=>?_)
    ·replace h:=yk h zhb
     refine WC.a (WL.pu rfl ?_)
     refine WL.a (d:=21) rfl rfl rfl (ya y39 rfl rfl) ?_
     refine WL.a (d:=22) rfl rfl rfl (yb yh rfl (yd .here rfl)) ?_
     refine WL.a (d:=23) rfl rfl rfl (y4j (k:=((nth zq zy).fNode)) (dflt:=(0 : Int)) y69 Try.underlying125 y4s rfl rfl rfl .h2) ?_
     refine WL.pu rfl ?_
     refine WL.y1g rfl rfl (y5S (k:=((nth zq zy).fNode)) (v:=i64 ((yp z3s ((nth zq zy).fNode) 0) + 1)) y69 Try.underlying125 rfl rfl rfl rfl .h2) ?_
     refine WL.nil ?_
     exact WX.mid (G:=(List (Int × Int))) (yE z3s ((nth zq zy).fNode) (i64 ((yp z3s ((nth zq zy).fNode) 0) + 1))) h (.cons rfl (.cons rfl (.cons rfl (.cons rfl (.cons rfl (.cons rfl (.cons rfl (.cons rfl (.cons rfl .nil))))))))) (.cons .h2 (.cons .here (.cons .here .nil)))
    ·replace h:=yl h zhb
     refine WC.skip ?_
     exact WX.mid (G:=(List (Int × Int))) z3s h (.cons rfl (.cons rfl (.cons rfl (.cons rfl (.cons rfl (.cons rfl (.cons rfl (.cons rfl (.cons rfl .nil))))))))) (.cons .h1 (.cons .h1 (.cons .here .nil)))
   ·rintro z1v h
    replace h:=(zqj z1v).symm.trans h
    refine WC.b (WC.b ?_)
    obtain ⟨zqk,h⟩:=yi h
    obtain ⟨zh9,zll,h⟩:=zn h
    refine WC.y12 (fun i=>[].contains i) [] rfl ?_
    refine WD.a (i:=0) (d:=25) (by kernel_rfl) rfl z2 z3 rfl rfl rfl (fun _=>q_m rfl) ?_
    refine WD.a (i:=1) (d:=26) (by kernel_rfl) rfl z2 z3 rfl rfl rfl (fun _=>ya y39 rfl rfl) ?_
    refine WD.e (i:=2) (d:=27) (by kernel_rfl) rfl z2 z3 rfl rfl rfl (yb yh rfl (yd .h2 rfl)) ?_
    refine WD.e (i:=3) (d:=28) (by kernel_rfl) rfl z2 z3 rfl rfl rfl (y4j (k:=((nth zq zy).fNode)) (dflt:=(0 : Int)) y69 Try.underlying125 y4s rfl rfl rfl .h1) ?_
    refine WD.a (i:=4) (d:=29) (by kernel_rfl) rfl z2 z3 rfl rfl rfl (fun _=>q_eql rfl rfl) ?_
    refine WD.a (i:=5) (d:=30) (by kernel_rfl) rfl z2 z3 rfl rfl rfl (fun _=>q_m rfl) ?_
    refine WD.mid (fuel':=33) [(1,(.int .i64 z2G)),(2,(.slice z2H zq.length z2I)),(3,(.pointer (some ⟨z7d,0,none⟩))),(7,(.map (some z7e))),(8,(.int .i64 zy)),(9,(.pointer (some ⟨z9k,0,none⟩))),(11,(.slice z2H zq.length z2I)),(12,(.int .i64 ((zq.length : Nat) : Int))),(13,(.int .i64 zy)),(30,(.bool (decide ((yp z1v ((nth zq zy).fNode) 0) = 0)))),(36,(.bool ((decide ((yp z1v ((nth zq zy).fNode) 0) = 0)) || (decide ((yp z1v ((nth zq zy).fNext) 0) > 0)))))] (y1M 45 [11,10,9,8,7,6,5,4,3,2,1,0]) ?_ (fun zlm=>?_)
    rotate_left
    ·rcases Bool.eq_false_or_eq_true (decide ((yp z1v ((nth zq zy).fNode) 0) = 0)) with hb' | hb'
     ·have zhc:=hb'; clear hb'
      refine WD.pin (i:=30) rfl zhc ?_
      refine WD.b (i:=6) (d:=31) (by kernel_rfl) rfl z2 z3 rfl rfl rfl ?_
      refine WD.b (i:=7) (d:=32) (by kernel_rfl) rfl z2 z3 rfl rfl rfl ?_
      refine WD.b (i:=8) (d:=33) (by kernel_rfl) rfl z2 z3 rfl rfl rfl ?_
      refine WD.b (i:=9) (d:=34) (by kernel_rfl) rfl z2 z3 rfl rfl rfl ?_
      refine WD.b (i:=10) (d:=35) (by kernel_rfl) rfl z2 z3 rfl rfl rfl ?_
      refine WD.a (i:=11) (d:=36) (by kernel_rfl) rfl z2 z3 rfl rfl rfl (fun _=>y1D rfl rfl) ?_
      refine WD.yV (.cons .here (.cons .here (.cons .here .nil))) ?_ zlm
      exact (.cons rfl (.cons rfl (.cons rfl (.cons rfl (.cons rfl (.cons rfl (.cons rfl (.cons rfl (.cons rfl (.cons (zu (Eq.symm zhc)) (.cons (zu (y2m zhc)) .nil)))))))))))
     ·have zhd:=hb'; clear hb'
      refine WD.pin (i:=30) rfl zhd ?_
      refine WD.a (i:=6) (d:=31) (by kernel_rfl) rfl z2 z3 rfl rfl rfl (fun _=>q_m rfl) ?_
      refine WD.a (i:=7) (d:=32) (by kernel_rfl) rfl z2 z3 rfl rfl rfl (fun _=>ya y5j rfl rfl) ?_
      refine WD.e (i:=8) (d:=33) (by kernel_rfl) rfl z2 z3 rfl rfl rfl (yb yh rfl (yd .h2 rfl)) ?_
      refine WD.e (i:=9) (d:=34) (by kernel_rfl) rfl z2 z3 rfl rfl rfl (y4j (k:=((nth zq zy).fNext)) (dflt:=(0 : Int)) y69 Try.underlying125 y4s rfl rfl rfl .h1) ?_
      refine WD.a (i:=10) (d:=35) (by kernel_rfl) rfl z2 z3 rfl rfl rfl (fun _=>y3X rfl rfl) ?_
      refine WD.a (i:=11) (d:=36) (by kernel_rfl) rfl z2 z3 rfl rfl rfl (fun _=>y1E rfl rfl) ?_
      refine WD.yV (.cons .here (.cons .here (.cons .here .nil))) ?_ zlm
      exact (.cons rfl (.cons rfl (.cons rfl (.cons rfl (.cons rfl (.cons rfl (.cons rfl (.cons rfl (.cons rfl (.cons (zu (Eq.symm zhd)) (.cons (zu (y2n zhd)) .nil)))))))))))
    refine WD.d #[true,true,true,true,true,true,true,true,true,true,true,true,false,false,false,false,false,false,false,false,false,false,false,false,false,false,false,false,false,false,false,false,false,false,false,false,false,false,false,false,false,false,false,false,false] (by kernel_rfl) ?_
    refine WD.a (i:=12) (d:=37) (by kernel_rfl) rfl z2 z3 rfl rfl rfl (fun _=>q_m rfl) ?_
    refine WD.mid (fuel':=12) [(1,(.int .i64 z2G)),(2,(.slice z2H zq.length z2I)),(3,(.pointer (some ⟨z7d,0,none⟩))),(7,(.map (some z7e))),(9,(.pointer (some ⟨z9k,0,none⟩))),(11,(.slice z2H zq.length z2I)),(12,(.int .i64 ((zq.length : Nat) : Int))),(13,(.int .i64 zy)),(37,(.bool ((decide ((yp z1v ((nth zq zy).fNode) 0) = 0)) || (decide ((yp z1v ((nth zq zy).fNext) 0) > 0))))),(57,(.bool (((decide ((yp z1v ((nth zq zy).fNode) 0) = 0)) || (decide ((yp z1v ((nth zq zy).fNext) 0) > 0))) || (((decide (zy > 0)) && (decide (((nth zq zy).fNode) ≠ ((nth zq 0).fNode)))) && (decide (((nth zq zy).fNode) < ((zF.fModules.length : Nat) : Int)))))))] (y1M 45 [32,31,30,29,28,27,26,25,24,23,22,21,20,19,18,17,16,15,14,13,12,11,10,9,8,7,6,5,4,3,2,1,0]) ?_ (fun zln=>?_)
    rotate_left
    ·rcases Bool.eq_false_or_eq_true ((decide ((yp z1v ((nth zq zy).fNode) 0) = 0)) || (decide ((yp z1v ((nth zq zy).fNext) 0) > 0))) with hb' | hb'
     ·have zhe:=hb'; clear hb'
      refine WD.pin (i:=37) rfl zhe ?_
      refine WD.b (i:=13) (d:=38) (by kernel_rfl) rfl z2 z3 rfl rfl rfl ?_
      refine WD.b (i:=14) (d:=39) (by kernel_rfl) rfl z2 z3 rfl rfl rfl ?_
      refine WD.b (i:=15) (d:=40) (by kernel_rfl) rfl z2 z3 rfl rfl rfl ?_
      refine WD.b (i:=16) (d:=41) (by kernel_rfl) rfl z2 z3 rfl rfl rfl ?_
      refine WD.b (i:=17) (d:=42) (by kernel_rfl) rfl z2 z3 rfl rfl rfl ?_
      refine WD.b (i:=18) (d:=43) (by kernel_rfl) rfl z2 z3 rfl rfl rfl ?_
      refine WD.b (i:=19) (d:=44) (by kernel_rfl) rfl z2 z3 rfl rfl rfl ?_
      refine WD.b (i:=20) (d:=45) (by kernel_rfl) rfl z2 z3 rfl rfl rfl ?_
      refine WD.b (i:=21) (d:=46) (by kernel_rfl) rfl z2 z3 rfl rfl rfl ?_
      refine WD.b (i:=22) (d:=47) (by kernel_rfl) rfl z2 z3 rfl rfl rfl ?_
      refine WD.b (i:=23) (d:=48) (by kernel_rfl) rfl z2 z3 rfl rfl rfl ?_
      refine WD.b (i:=24) (d:=49) (by kernel_rfl) rfl z2 z3 rfl rfl rfl ?_
      refine WD.b (i:=25) (d:=50) (by kernel_rfl) rfl z2 z3 rfl rfl rfl ?_
      refine WD.b (i:=26) (d:=51) (by kernel_rfl) rfl z2 z3 rfl rfl rfl ?_
      refine WD.b (i:=27) (d:=52) (by kernel_rfl) rfl z2 z3 rfl rfl rfl ?_
      refine WD.b (i:=28) (d:=53) (by kernel_rfl) rfl z2 z3 rfl rfl rfl ?_
      refine WD.b (i:=29) (d:=54) (by kernel_rfl) rfl z2 z3 rfl rfl rfl ?_
      refine WD.b (i:=30) (d:=55) (by kernel_rfl) rfl z2 z3 rfl rfl rfl ?_
      refine WD.b (i:=31) (d:=56) (by kernel_rfl) rfl z2 z3 rfl rfl rfl ?_
      refine WD.a (i:=32) (d:=57) (by kernel_rfl) rfl z2 z3 rfl rfl rfl (fun _=>y1D rfl rfl) ?_
      refine WD.yV (.cons .here (.cons .here (.cons .here .nil))) ?_ zln
      exact (.cons rfl (.cons rfl (.cons rfl (.cons rfl (.cons rfl (.cons rfl (.cons rfl (.cons rfl (.cons (zu (Eq.symm zhe)) (.cons (zu (y2m zhe)) .nil))))))))))
     ·have zfc:=hb'; clear hb'
      have zql:=zqk zfc
      refine WD.pin (i:=37) rfl zfc ?_
      refine WD.a (i:=13) (d:=38) (by kernel_rfl) rfl z2 z3 rfl rfl rfl (fun _=>q_m rfl) ?_
      refine WD.a (i:=14) (d:=39) (by kernel_rfl) rfl z2 z3 rfl rfl rfl (fun _=>y3X rfl rfl) ?_
      refine WD.a (i:=15) (d:=40) (by kernel_rfl) rfl z2 z3 rfl rfl rfl (fun _=>q_m rfl) ?_
      refine WD.mid (fuel':=21) [(1,(.int .i64 z2G)),(2,(.slice z2H zq.length z2I)),(3,(.pointer (some ⟨z7d,0,none⟩))),(7,(.map (some z7e))),(9,(.pointer (some ⟨z9k,0,none⟩))),(11,(.slice z2H zq.length z2I)),(12,(.int .i64 ((zq.length : Nat) : Int))),(13,(.int .i64 zy)),(37,(.bool false)),(40,(.bool (decide (zy > 0)))),(48,(.bool ((decide (zy > 0)) && (decide (((nth zq zy).fNode) ≠ ((nth zq 0).fNode))))))] (y1M 45 [23,22,21,20,19,18,17,16,15,14,13,12,11,10,9,8,7,6,5,4,3,2,1,0]) ?_ (fun zlo=>?_)
      rotate_left
      ·rcases Bool.eq_false_or_eq_true (decide (zy > 0)) with hb' | hb'
       ·have zfd:=hb'; clear hb'
        have zqm:=zql zfd
        refine WD.pin (i:=40) rfl zfd ?_
        refine WD.a (i:=16) (d:=41) (by kernel_rfl) rfl z2 z3 rfl rfl rfl (fun _=>ya y39 rfl rfl) ?_
        refine WD.e (i:=17) (d:=42) (by kernel_rfl) rfl z2 z3 rfl rfl rfl (yb yh rfl (yd .h2 rfl)) ?_
        refine WD.a (i:=18) (d:=43) (by kernel_rfl) rfl z2 z3 rfl rfl rfl (fun _=>q_m rfl) ?_
        refine WD.znth (j:=19) (dd:=44) (by kernel_rfl) rfl z2 z3 rfl rfl (Z:=Z) (Pr:=(fun r x=>r = e59 x)) y67 rfl rfl zlk zqm ?_
        rintro zxu zxv zqn zxw rfl
        refine WD.a (i:=20) (d:=45) (by kernel_rfl) rfl z2 z3 rfl rfl rfl (fun _=>ya y39 rfl rfl) ?_
        refine WD.e (i:=21) (d:=46) (by kernel_rfl) rfl z2 z3 rfl rfl rfl (yb yh rfl (y2h hz.pv zqn rfl)) ?_
        refine WD.a (i:=22) (d:=47) (by kernel_rfl) rfl z2 z3 rfl rfl rfl (fun _=>q_neq rfl rfl) ?_
        refine WD.a (i:=23) (d:=48) (by kernel_rfl) rfl z2 z3 rfl rfl rfl (fun _=>y1D rfl rfl) ?_
        refine WD.yV (.cons .here (.cons .here (.cons .here .nil))) ?_ zlo
        exact (.cons rfl (.cons rfl (.cons rfl (.cons rfl (.cons rfl (.cons rfl (.cons rfl (.cons rfl (.cons rfl (.cons (zu (Eq.symm zfd)) (.cons (zu (y2V zfd)) .nil)))))))))))
       ·have zhf:=hb'; clear hb'
        refine WD.pin (i:=40) rfl zhf ?_
        refine WD.b (i:=16) (d:=41) (by kernel_rfl) rfl z2 z3 rfl rfl rfl ?_
        refine WD.b (i:=17) (d:=42) (by kernel_rfl) rfl z2 z3 rfl rfl rfl ?_
        refine WD.b (i:=18) (d:=43) (by kernel_rfl) rfl z2 z3 rfl rfl rfl ?_
        refine WD.b (i:=19) (d:=44) (by kernel_rfl) rfl z2 z3 rfl rfl rfl ?_
        refine WD.b (i:=20) (d:=45) (by kernel_rfl) rfl z2 z3 rfl rfl rfl ?_
        refine WD.b (i:=21) (d:=46) (by kernel_rfl) rfl z2 z3 rfl rfl rfl ?_
        refine WD.b (i:=22) (d:=47) (by kernel_rfl) rfl z2 z3 rfl rfl rfl ?_
        refine WD.a (i:=23) (d:=48) (by kernel_rfl) rfl z2 z3 rfl rfl rfl (fun _=>y1E rfl rfl) ?_
        refine WD.yV (.cons .here (.cons .here (.cons .here .nil))) ?_ zlo
        exact (.cons rfl (.cons rfl (.cons rfl (.cons rfl (.cons rfl (.cons rfl (.cons rfl (.cons rfl (.cons rfl (.cons (zu (Eq.symm zhf)) (.cons (zu (y2U zhf)) .nil)))))))))))
      refine WD.d #[true,true,true,true,true,true,true,true,true,true,true,true,true,true,true,true,true,true,true,true,true,true,true,true,false,false,false,false,false,false,false,false,false,false,false,false,false,false,false,false,false,false,false,false,false] (by kernel_rfl) ?_
      refine WD.a (i:=24) (d:=49) (by kernel_rfl) rfl z2 z3 rfl rfl rfl (fun _=>q_m rfl) ?_
      refine WD.mid (fuel':=13) [(1,(.int .i64 z2G)),(2,(.slice z2H zq.length z2I)),(3,(.pointer (some ⟨z7d,0,none⟩))),(7,(.map (some z7e))),(9,(.pointer (some ⟨z9k,0,none⟩))),(11,(.slice z2H zq.length z2I)),(12,(.int .i64 ((zq.length : Nat) : Int))),(13,(.int .i64 zy)),(37,(.bool false)),(49,(.bool ((decide (zy > 0)) && (decide (((nth zq zy).fNode) ≠ ((nth zq 0).fNode)))))),(56,(.bool (((decide (zy > 0)) && (decide (((nth zq zy).fNode) ≠ ((nth zq 0).fNode)))) && (decide (((nth zq zy).fNode) < ((zF.fModules.length : Nat) : Int))))))] (y1M 45 [31,30,29,28,27,26,25,24,23,22,21,20,19,18,17,16,15,14,13,12,11,10,9,8,7,6,5,4,3,2,1,0]) ?_ (fun zlp=>?_)
      rotate_left
      ·rcases Bool.eq_false_or_eq_true ((decide (zy > 0)) && (decide (((nth zq zy).fNode) ≠ ((nth zq 0).fNode)))) with hb' | hb'
       ·have zhg:=hb'; clear hb'
        refine WD.pin (i:=49) rfl zhg ?_
        refine WD.a (i:=25) (d:=50) (by kernel_rfl) rfl z2 z3 rfl rfl rfl (fun _=>ya y39 rfl rfl) ?_
        refine WD.e (i:=26) (d:=51) (by kernel_rfl) rfl z2 z3 rfl rfl rfl (yb yh rfl (yd .h2 rfl)) ?_
        refine WD.a (i:=27) (d:=52) (by kernel_rfl) rfl z2 z3 rfl rfl rfl (fun _=>ya y4q rfl rfl) ?_
        refine WD.e (i:=28) (d:=53) (by kernel_rfl) rfl z2 z3 rfl rfl rfl (yb y4r rfl (yd .here rfl)) ?_
        refine WD.a (i:=29) (d:=54) (by kernel_rfl) rfl z2 z3 rfl rfl rfl (fun _=>yZ Try.underlying22 rfl) ?_
        refine WD.a (i:=30) (d:=55) (by kernel_rfl) rfl z2 z3 rfl rfl rfl (fun _=>y3B rfl rfl) ?_
        refine WD.a (i:=31) (d:=56) (by kernel_rfl) rfl z2 z3 rfl rfl rfl (fun _=>y1D rfl rfl) ?_
        refine WD.yV (.cons .here (.cons .here (.cons .here .nil))) ?_ zlp
        exact (.cons rfl (.cons rfl (.cons rfl (.cons rfl (.cons rfl (.cons rfl (.cons rfl (.cons rfl (.cons rfl (.cons (zu (Eq.symm zhg)) (.cons (zu (y2V zhg)) .nil)))))))))))
       ·have zhh:=hb'; clear hb'
        refine WD.pin (i:=49) rfl zhh ?_
        refine WD.b (i:=25) (d:=50) (by kernel_rfl) rfl z2 z3 rfl rfl rfl ?_
        refine WD.b (i:=26) (d:=51) (by kernel_rfl) rfl z2 z3 rfl rfl rfl ?_
        refine WD.b (i:=27) (d:=52) (by kernel_rfl) rfl z2 z3 rfl rfl rfl ?_
        refine WD.b (i:=28) (d:=53) (by kernel_rfl) rfl z2 z3 rfl rfl rfl ?_
        refine WD.b (i:=29) (d:=54) (by kernel_rfl) rfl z2 z3 rfl rfl rfl ?_
        refine WD.b (i:=30) (d:=55) (by kernel_rfl) rfl z2 z3 rfl rfl rfl ?_
        refine WD.a (i:=31) (d:=56) (by kernel_rfl) rfl z2 z3 rfl rfl rfl (fun _=>y1E rfl rfl) ?_
        refine WD.yV (.cons .here (.cons .here (.cons .here .nil))) ?_ zlp
        exact (.cons rfl (.cons rfl (.cons rfl (.cons rfl (.cons rfl (.cons rfl (.cons rfl (.cons rfl (.cons rfl (.cons (zu (Eq.symm zhh)) (.cons (zu (y2U zhh)) .nil)))))))))))
      refine WD.d #[true,true,true,true,true,true,true,true,true,true,true,true,true,true,true,true,true,true,true,true,true,true,true,true,true,true,true,true,true,true,true,true,false,false,false,false,false,false,false,false,false,false,false,false,false] (by kernel_rfl) ?_
      refine WD.a (i:=32) (d:=57) (by kernel_rfl) rfl z2 z3 rfl rfl rfl (fun _=>y1E rfl rfl) ?_
      refine WD.yV (.cons .here (.cons .here (.cons .here .nil))) ?_ zln
      exact (.cons rfl (.cons rfl (.cons rfl (.cons rfl (.cons rfl (.cons rfl (.cons rfl (.cons rfl (.cons (zu (Eq.symm zfc)) (.cons (zu (y2n zfc)) .nil))))))))))
    refine WD.d #[true,true,true,true,true,true,true,true,true,true,true,true,true,true,true,true,true,true,true,true,true,true,true,true,true,true,true,true,true,true,true,true,true,false,false,false,false,false,false,false,false,false,false,false,false] (by kernel_rfl) ?_
    refine WD.a (i:=33) (d:=58) (by kernel_rfl) rfl z2 z3 rfl rfl rfl (fun _=>q_m rfl) ?_
    refine WD.mid (fuel':=0) [(1,(.int .i64 z2G)),(2,(.slice z2H zq.length z2I)),(3,(.pointer (some ⟨z7d,0,none⟩))),(7,(.map (some z7e))),(9,(.pointer (some ⟨z9k,0,none⟩))),(11,(.slice z2H zq.length z2I)),(12,(.int .i64 ((zq.length : Nat) : Int))),(13,(.int .i64 zy)),(58,(.bool (((decide ((yp z1v ((nth zq zy).fNode) 0) = 0)) || (decide ((yp z1v ((nth zq zy).fNext) 0) > 0))) || (((decide (zy > 0)) && (decide (((nth zq zy).fNode) ≠ ((nth zq 0).fNode)))) && (decide (((nth zq zy).fNode) < ((zF.fModules.length : Nat) : Int))))))),(69,(.bool zh9))] (y1M 45 [44,43,42,41,40,39,38,37,36,35,34,33,32,31,30,29,28,27,26,25,24,23,22,21,20,19,18,17,16,15,14,13,12,11,10,9,8,7,6,5,4,3,2,1,0]) ?_ (fun zlq=>?_)
    rotate_left
    ·rcases Bool.eq_false_or_eq_true (((decide ((yp z1v ((nth zq zy).fNode) 0) = 0)) || (decide ((yp z1v ((nth zq zy).fNext) 0) > 0))) || (((decide (zy > 0)) && (decide (((nth zq zy).fNode) ≠ ((nth zq 0).fNode)))) && (decide (((nth zq zy).fNode) < ((zF.fModules.length : Nat) : Int))))) with hb' | hb'
     ·have zhi:=hb'; clear hb'
      have zhj:=yk zll zhi
      replace zhj:=Option.some.inj zhj
      refine WD.pin (i:=58) rfl zhi ?_
      refine WD.b (i:=34) (d:=59) (by kernel_rfl) rfl z2 z3 rfl rfl rfl ?_
      refine WD.b (i:=35) (d:=60) (by kernel_rfl) rfl z2 z3 rfl rfl rfl ?_
      refine WD.b (i:=36) (d:=61) (by kernel_rfl) rfl z2 z3 rfl rfl rfl ?_
      refine WD.b (i:=37) (d:=62) (by kernel_rfl) rfl z2 z3 rfl rfl rfl ?_
      refine WD.b (i:=38) (d:=63) (by kernel_rfl) rfl z2 z3 rfl rfl rfl ?_
      refine WD.b (i:=39) (d:=64) (by kernel_rfl) rfl z2 z3 rfl rfl rfl ?_
      refine WD.b (i:=40) (d:=65) (by kernel_rfl) rfl z2 z3 rfl rfl rfl ?_
      refine WD.b (i:=41) (d:=66) (by kernel_rfl) rfl z2 z3 rfl rfl rfl ?_
      refine WD.b (i:=42) (d:=67) (by kernel_rfl) rfl z2 z3 rfl rfl rfl ?_
      refine WD.b (i:=43) (d:=68) (by kernel_rfl) rfl z2 z3 rfl rfl rfl ?_
      refine WD.a (i:=44) (d:=69) (by kernel_rfl) rfl z2 z3 rfl rfl rfl (fun _=>y1D rfl rfl) ?_
      refine WD.yV (.cons .here (.cons .here (.cons .here .nil))) ?_ zlq
      exact (.cons rfl (.cons rfl (.cons rfl (.cons rfl (.cons rfl (.cons rfl (.cons rfl (.cons rfl (.cons (zu (Eq.symm zhi)) (.cons (zu zhj) .nil))))))))))
     ·have zhk:=hb'; clear hb'
      have zdE:=yl zll zhk
      obtain ⟨zlj,zqo,zdE⟩:=zn zdE
      replace zdE:=Option.some.inj zdE
      refine WD.pin (i:=58) rfl zhk ?_
      refine WD.e (i:=34) (d:=59) (by kernel_rfl) rfl z2 z3 rfl rfl rfl (yD y1N rfl (y1h .here) rfl) ?_
      refine WD.a (i:=35) (d:=60) (by kernel_rfl) rfl z2 z3 rfl rfl rfl (fun _=>q_m rfl) ?_
      refine WD.a (i:=36) (d:=61) (by kernel_rfl) rfl z2 z3 rfl rfl rfl (fun _=>ya y5k rfl rfl) ?_
      refine WD.e (i:=37) (d:=62) (by kernel_rfl) rfl z2 z3 rfl rfl rfl (yb yh rfl (yd .h2 rfl)) ?_
      refine WD.a (i:=38) (d:=63) (by kernel_rfl) rfl z2 z3 rfl rfl rfl (fun _=>ya y39 rfl rfl) ?_
      refine WD.e (i:=39) (d:=64) (by kernel_rfl) rfl z2 z3 rfl rfl rfl (yb yh rfl (yd .h2 rfl)) ?_
      refine WD.a (i:=40) (d:=65) (by kernel_rfl) rfl z2 z3 rfl rfl rfl (fun _=>ya y5j rfl rfl) ?_
      refine WD.e (i:=41) (d:=66) (by kernel_rfl) rfl z2 z3 rfl rfl rfl (yb yh rfl (yd .h2 rfl)) ?_
      refine WD.c (i:=42) (d:=67) (by kernel_rfl) rfl z2 z3 rfl rfl rfl (zE (l:=[.tmp 59,.tmp 60,.tmp 62,.tmp 64,.tmp 66]) Try.call48 (.cons rfl (.cons rfl (.cons rfl (.cons rfl (.cons rfl .nil)))))) (cc hz .nil fun w pz ho=>y7X _ _ _ _ _ _ _ _ _ _ _ _ _ _ _ _ _ _ _ _ _ _ _ zqo w pz zq8 zq9 zqa zqb zqc zqd zqe zqf) ?_
      refine WD.a (i:=43) (d:=68) (by kernel_rfl) rfl z2 z3 rfl rfl rfl (fun _=>q_not rfl) ?_
      refine WD.a (i:=44) (d:=69) (by kernel_rfl) rfl z2 z3 rfl rfl rfl (fun _=>y1E rfl rfl) ?_
      refine WD.yV (.cons .here (.cons .here (.cons .here .nil))) ?_ zlq
      exact (.cons rfl (.cons rfl (.cons rfl (.cons rfl (.cons rfl (.cons rfl (.cons rfl (.cons rfl (.cons (zu (Eq.symm zhk)) (.cons (zu zdE) .nil))))))))))
    refine WD.d #[true,true,true,true,true,true,true,true,true,true,true,true,true,true,true,true,true,true,true,true,true,true,true,true,true,true,true,true,true,true,true,true,true,true,true,true,true,true,true,true,true,true,true,true,true] (by kernel_rfl) ?_
    refine WD.done (by kernel_rfl) ?_
    refine WX.a ?_
    refine WC.cond rfl (fun zhl=>?_) (fun zhl=>?_)
    ·replace h:=yk h zhl
     refine WC.b (WC.a (WL.pu rfl (WL.nil (WX.a (WC.ret (WX.ye (WX.yr (WX.ye (WX.ye (WX.yr (WX.ye ?_)))))))))))
     obtain rfl:=Option.some.inj h
     refine WX.yj Try.results36 (.tmp rfl .nil) (fun w hw=>?_)
     exact ⟨y10 rfl,hw.sub .nil⟩
    ·replace h:=yl h zhl
     refine WC.skip (WX.a (WC.a (WL.pu rfl ?_)))
     refine WL.a (d:=71) rfl rfl rfl (ya y5j rfl rfl) ?_
     refine WL.a (d:=72) rfl rfl rfl (yb yh rfl (yd .h2 rfl)) ?_
     refine WL.a (d:=73) rfl rfl rfl (y4j (k:=((nth zq zy).fNext)) (dflt:=(0 : Int)) y69 Try.underlying125 y4s rfl rfl rfl .h1) ?_
     refine WL.pu rfl ?_
     refine WL.y1g rfl rfl (y5S (k:=((nth zq zy).fNext)) (v:=i64 ((yp z1v ((nth zq zy).fNext) 0) + 1)) y69 Try.underlying125 rfl rfl rfl rfl .h1) ?_
     refine WL.nil (WX.yg (WX.a (WC.a (WL.pu rfl (WL.pu rfl (WL.nil ?_))))))
     exact WX.round (G:=Nat × Int × (List (Int × Int))) ⟨zh8,(i64 (zy + 1)),(yE z1v ((nth zq zy).fNext) (i64 ((yp z1v ((nth zq zy).fNext) 0) + 1)))⟩ h (Nat.lt_succ_self _) (.cons rfl (.cons rfl (.cons rfl (.cons rfl (.cons rfl (.cons rfl (.cons rfl .nil))))))) (.cons .h1 (.cons .here .nil))
  ·replace h:=yl h zha
   refine WC.exit (WX.yc (WX.yc (WX.yt ?_)))
   exact WX.mid (G:=Unit) () h (.cons rfl .nil) .nil
 ·rintro  h
  replace h:=zqg.symm.trans h
  refine WC.b (WC.a (WL.pu rfl ?_))
  refine WL.a (d:=77) rfl rfl rfl (yZ Try.underlying55 rfl) ?_
  refine WL.pu rfl (WL.pu rfl (WL.nil (WX.a (WC.ret ?_))))
  obtain rfl:=Option.some.inj h
  refine WX.yj Try.results36 (.tmp rfl .nil) (fun w hw=>?_)
  exact ⟨y10 rfl,hw.sub .nil⟩
def y13 (z9l : List Sapi_Hop) (z2J : Sapi_Config) (zfe : Int) : Option Bool :=
 (y3w z2J zfe z9l).bind fun zlr=>some (!zlr)
set_option maxRecDepth 20000 in
theorem y7k (Z : Zp) (zff : Option Addr) (zfg : Nat) (zfh : Addr) (zls : Option Addr) (zlt : Nat) (zlu : Option Addr) (zlv : Nat) (zlw : Option Addr) (zlx : Nat) (zly : Option Addr) (zlz : Nat) (zlA : Option Addr) (zlB : Nat) (zlC : Option Addr) (zlD : Nat) (zlE : Option Addr) (zlF : Nat) (zlG : Option Addr) (zlH : Nat) (zfi : Addr) (z9l : List Sapi_Hop) (z2J : Sapi_Config) (zfe : Int) (r : Bool)
  (h : y13 z9l z2J zfe = some r) (w₀ : World) (hz : PZ [] w₀ Z)
  (zqp : ZS Z 3 (fun r x=>r = e59 x) zff zfg z9l)
  (zqq : ZS Z 4 (y2I Z) zls zlt z2J.fModules)
  (zqr : ZS Z 4 (y31 Z) zlu zlv z2J.fChannels)
  (zqs : ZS Z 4 (fun r x=>r = e64 x) zlw zlx z2J.fSwitches)
  (zqt : ZS Z 4 (fun r x=>r = e62 x) zly zlz z2J.fLinks)
  (zqu : ZS Z 7 (y2S Z) zlA zlB z2J.fVLs)
  (zqv : ZS Z 5 (fun r x=>r = y3g x) zlC zlD z2J.fHealth)
  (zqw : ZS Z 3 (y32 Z) zlE zlF z2J.fCauses)
  (zqx : ZS Z 4 (fun r x=>r = y3h x) zlG zlH z2J.fVersions)
  (zqy : ZC Z zfh [(.slice zls z2J.fModules.length zlt),(.slice zlu z2J.fChannels.length zlv),(.slice zlw z2J.fSwitches.length zlx),(.slice zly z2J.fLinks.length zlz),(.slice zlA z2J.fVLs.length zlB),(.slice zlC z2J.fHealth.length zlD),(.slice zlE z2J.fCauses.length zlF),(.slice zlG z2J.fVersions.length zlH)])
  (zqz : ZC Z zfi [(.int .i64 zfe)]) :
  Calls Try.prog 35 #[(.slice zff z9l.length zfg),(.pointer (some zfh)),(.pointer (some zfi))] w₀ fun e w'=>e = .returned (.bool r) ∧ Hp [] w₀ w' []:=by
 unfold y13 at h
 refine Calls.yo (vs:=[(.slice zff z9l.length zfg),(.pointer (some zfh)),(.pointer (some zfi))]) (pre:=[]) (env:=[(0,(.slice zff z9l.length zfg)),(1,(.pointer (some zfh))),(2,(.pointer (some zfi)))]) Try.func35 rfl Try.ntmps35 rfl (Hp.nil w₀ _) rfl ?_
 refine WC.b (WC.a (WL.pu rfl (WL.nil (WX.a (WC.b ?_)))))
 obtain ⟨zlr,zqA,h⟩:=zn h
 refine WC.a ?_
 refine WL.a (d:=5) rfl rfl rfl (yD y1N rfl (y3p hz.pv zqy) rfl) ?_
 refine WL.a (d:=6) rfl rfl rfl (yb yh rfl (rd_z hz.pv zqz rfl)) ?_
 refine WL.pu rfl ?_
 refine WL.b (dd:=8) rfl rfl rfl (zE (l:=[.tmp 5,.tmp 6,.tmp 7]) Try.call36 (.cons rfl (.cons rfl (.cons rfl .nil)))) .nil (cc hz .nil fun w pz ho=>y7Y _ _ _ _ _ _ _ _ _ _ _ _ _ _ _ _ _ _ _ _ _ _ _ zqA w pz zqq zqr zqs zqt zqu zqv zqw zqx zqp) ?_
 refine WL.pu rfl (WL.pu rfl (WL.nil (WX.a (WC.ret ?_))))
 obtain rfl:=Option.some.inj h
 refine WX.yj Try.results35 (.tmp rfl .nil) (fun w hw=>?_)
 exact ⟨y10 rfl,hw.sub .nil⟩
def yx (z2Z : List (List Sapi_Hop)) (z5q : (List Sapi_Hop) → Option Bool) (z7f : Option Int) : Nat → Int → Option Int
 | 0,_=>none
 | zhm + 1,z3d=>if decide (z3d < ((z2Z.length : Nat) : Int)) then chk ((0 : Int) ≤ z3d ∧ z3d < ((z2Z.length : Nat) : Int)) ((z5q (nth z2Z z3d)).bind fun zhn=>if zhn then some z3d else yx z2Z z5q z7f zhm (i64 (z3d + 1))) else z7f
theorem y3q {n : Nat} {z2Z : List (List Sapi_Hop)} {z5q : (List Sapi_Hop) → Option Bool} {z7f : Option Int} {z3d : Int} {r : Int} (h : yx z2Z z5q z7f n z3d = some r) : ∃ m,n = m + 1:=by
 cases n with
 | zero=>cases h
 | succ m=>exact ⟨m,rfl⟩
def y1w (z2Z : List (List Sapi_Hop)) (z5q : (List Sapi_Hop) → Option Bool) : Option Int :=
 jp0 (some (-1)) fun z7f=>yx z2Z z5q z7f ys 0
set_option maxRecDepth 20000 in
theorem y4a (Z : Zp) (zdF : Option Addr) (zdG : Nat) (z7g : FuncId) (z9m : List Value) (z2Z : List (List Sapi_Hop)) (z5q : (List Sapi_Hop) → Option Bool) (r : Int)
  (h : y1w z2Z z5q = some r) (w₀ : World) (hz : PZ [] w₀ Z)
  (zqB : ZS Z 1 (p55 Z) zdF zdG z2Z)
  (zqC : ∀ args w,(callFunc z7g args).run Try.prog w = .ok (.enter z7g args) w)
  (zqD : ∀ w : World,PZ [] w Z → ∀ (x0 : List Sapi_Hop) (ao0 : Option Addr) (cap0 : Nat) (r : Bool),ZS Z 3 (fun r x=>r = e59 x) ao0 cap0 x0 → z5q x0 = some r → Calls Try.prog z7g (([(.slice ao0 x0.length cap0)] : List Value) ++ z9m).toArray w fun e w'=>e = .returned (.bool r) ∧ Hp [] w w' []) :
  Calls Try.prog 47 #[(.slice zdF z2Z.length zdG),(.func (.func z7g) #[] (z9m).toArray)] w₀ fun e w'=>e = .returned (.int .i64 r) ∧ Hp [] w₀ w' []:=by
 unfold y1w at h
 refine Calls.yo (vs:=[(.slice zdF z2Z.length zdG),(.func (.func z7g) #[] (z9m).toArray)]) (pre:=[]) (env:=[(0,(.slice zdF z2Z.length zdG)),(1,(.func (.func z7g) #[] (z9m).toArray))]) Try.func47 rfl Try.ntmps47 rfl (Hp.nil w₀ _) rfl ?_
 refine WC.b (WC.a (WL.pu rfl (WL.nil (WX.a ?_))))
 obtain ⟨z7f,zqE,h⟩:=y29 h
 refine WC.y2f ((z7f = some r)) ([]) ([]) ?_ ?_
 ·skip
  refine WC.b (WC.a (WL.pu rfl ?_))
  refine WL.a (d:=7) rfl rfl rfl (yZ Try.underlying32 rfl) ?_
  refine WL.pu rfl (WL.nil (WX.a (WC.block ?_)))
  refine WC.y4h (fun (zaJ : Nat) (z3d : Int)=>(yx z2Z z5q z7f zaJ z3d = some r)) (fun (zaJ : Nat) (z3d : Int)=>[(0,(.slice zdF z2Z.length zdG)),(1,(.func (.func z7g) #[] (z9m).toArray)),(7,(.int .i64 ((z2Z.length : Nat) : Int))),(8,(.int .i64 z3d))]) (fun (zaJ : Nat) (z3d : Int)=>[]) (fun (zaJ : Nat) (z3d : Int)=>zaJ) ⟨ys,0⟩ h (.cons rfl (.cons rfl (.cons rfl (.cons rfl .nil)))) .nil ?_
  rintro zaJ z3d h
  obtain ⟨zhm,rfl⟩:=y3q h
  rw [yx] at h
  refine WC.b (WC.a (WL.pu rfl (WL.nil (WX.a (WC.b ?_)))))
  refine WC.cond rfl (fun zho=>?_) (fun zho=>?_)
  ·replace h:=yk h zho
   refine WC.skip (WX.a (WC.b (WC.block (WC.b (WC.a (WL.pu rfl (WL.pu rfl (WL.nil (WX.a (WC.b ?_))))))))))
   obtain ⟨zqF,h⟩:=yi h
   obtain ⟨zhn,zqG,h⟩:=zn h
   refine WC.a (WL.pu rfl (WL.pu rfl (WL.pu rfl ?_)))
   refine WL.znth (dd:=14) rfl rfl (Z:=Z) (Pr:=(p55 Z)) y65 rfl rfl zqB zqF ?_
   rintro zxx zxy zqH zxz ⟨zqI,zqJ,rfl,zqK⟩
   refine WL.a (d:=15) rfl rfl rfl (yb y66 rfl (rd_z hz.pv zqH rfl)) ?_
   refine WL.b (dd:=16) rfl rfl rfl (y3V (l:=[.tmp 15]) (f:=z7g) (caps:=z9m) zqC rfl (.cons rfl .nil)) .nil (fun w hw=>zqD w (hz.now hw) (nth z2Z z3d) zqI zqJ zhn zqK zqG) ?_
   refine WL.nil (WX.a ?_)
   refine WC.cond rfl (fun zhp=>?_) (fun zhp=>?_)
   ·replace h:=yk h zhp
    refine WC.b (WC.a (WL.pu rfl (WL.pu rfl (WL.nil (WX.a (WC.ret (WX.yr (WX.ye (WX.ye (WX.yr (WX.ye ?_)))))))))))
    obtain rfl:=Option.some.inj h
    refine WX.yj Try.results47 (.tmp rfl .nil) (fun w hw=>?_)
    exact ⟨y10 rfl,hw.sub .nil⟩
   ·replace h:=yl h zhp
    refine WC.skip (WX.yg (WX.a (WC.a (WL.pu rfl (WL.pu rfl (WL.nil ?_))))))
    exact WX.round (G:=Nat × Int) ⟨zhm,(i64 (z3d + 1))⟩ h (Nat.lt_succ_self _) (.cons rfl (.cons rfl (.cons rfl (.cons rfl .nil)))) .nil
  ·replace h:=yl h zho
   refine WC.exit (WX.yc (WX.yc (WX.yt ?_)))
   exact WX.mid (G:=Unit) () h .nil .nil
 ·rintro  h
  replace h:=zqE.symm.trans h
  refine WC.b (WC.a (WL.pu rfl (WL.nil (WX.a (WC.ret ?_)))))
  obtain rfl:=Option.some.inj h
  refine WX.yj Try.results47 (.tmp rfl .nil) (fun w hw=>?_)
  exact ⟨y10 rfl,hw.sub .nil⟩
def y1j (z9n : List (List Sapi_Hop)) (zaK : (List Sapi_Hop) → Option Bool) : Option Bool :=
 (y1w z9n zaK).bind fun zlI=>some (decide (zlI ≥ 0))
set_option maxRecDepth 20000 in
theorem y3O (Z : Zp) (zfj : Option Addr) (zfk : Nat) (z8q : FuncId) (zaL : List Value) (z9n : List (List Sapi_Hop)) (zaK : (List Sapi_Hop) → Option Bool) (r : Bool)
  (h : y1j z9n zaK = some r) (w₀ : World) (hz : PZ [] w₀ Z)
  (zqL : ZS Z 1 (p55 Z) zfj zfk z9n)
  (zqM : ∀ args w,(callFunc z8q args).run Try.prog w = .ok (.enter z8q args) w)
  (zqN : ∀ w : World,PZ [] w Z → ∀ (x0 : List Sapi_Hop) (ao0 : Option Addr) (cap0 : Nat) (r : Bool),ZS Z 3 (fun r x=>r = e59 x) ao0 cap0 x0 → zaK x0 = some r → Calls Try.prog z8q (([(.slice ao0 x0.length cap0)] : List Value) ++ zaL).toArray w fun e w'=>e = .returned (.bool r) ∧ Hp [] w w' []) :
  Calls Try.prog 34 #[(.slice zfj z9n.length zfk),(.func (.func z8q) #[] (zaL).toArray)] w₀ fun e w'=>e = .returned (.bool r) ∧ Hp [] w₀ w' []:=by
 unfold y1j at h
 refine Calls.yo (vs:=[(.slice zfj z9n.length zfk),(.func (.func z8q) #[] (zaL).toArray)]) (pre:=[]) (env:=[(0,(.slice zfj z9n.length zfk)),(1,(.func (.func z8q) #[] (zaL).toArray))]) Try.func34 rfl Try.ntmps34 rfl (Hp.nil w₀ _) rfl ?_
 refine WC.b (WC.a (WL.pu rfl (WL.nil (WX.a (WC.b ?_)))))
 obtain ⟨zlI,zqO,h⟩:=zn h
 refine WC.a (WL.pu rfl (WL.pu rfl ?_))
 refine WL.b (dd:=7) rfl rfl rfl (zE (l:=[.tmp 5,.tmp 6]) Try.call47 (.cons rfl (.cons rfl .nil))) .nil (cc hz .nil fun w pz ho=>y4a _ _ _ (z7g:=z8q) (z9m:=zaL) _ (z5q:=zaK) _ zqO w pz zqL zqM zqN) ?_
 refine WL.pu rfl (WL.pu rfl (WL.nil (WX.a (WC.ret ?_))))
 obtain rfl:=Option.some.inj h
 refine WX.yj Try.results34 (.tmp rfl .nil) (fun w hw=>?_)
 exact ⟨y10 rfl,hw.sub .nil⟩
def y2W (zX : Sapi_Config) (z3t : Int) (z4P : List (List Sapi_Hop)) : Option Bool :=
 (if (((decide (z3t = 0)) || (decide (z3t = 1))) && (decide (((z4P.length : Nat) : Int) = ((zX.fVLs.length : Nat) : Int)))) && (decide (((z4P.length : Nat) : Int) ≤ 16)) then (y1j z4P (fun (y0 : List Sapi_Hop)=>y13 y0 zX z3t)).bind fun zlJ=>some (!zlJ) else some false).bind fun zhq=>some zhq
set_option maxRecDepth 20000 in
theorem y5O (Z : Zp) (zdH : Option Addr) (zdI : Nat) (zdJ : Option Addr) (zdK : Nat) (zdL : Option Addr) (zdM : Nat) (zdN : Option Addr) (zdO : Nat) (zdP : Option Addr) (zdQ : Nat) (zdR : Option Addr) (zdS : Nat) (zdT : Option Addr) (zdU : Nat) (zdV : Option Addr) (zdW : Nat) (zfl : Option Addr) (zfm : Nat) (zX : Sapi_Config) (z3t : Int) (z4P : List (List Sapi_Hop)) (r : Bool)
  (h : y2W zX z3t z4P = some r) (w₀ : World) (hz : PZ [] w₀ Z)
  (zqP : ZS Z 4 (y2I Z) zdH zdI zX.fModules)
  (zqQ : ZS Z 4 (y31 Z) zdJ zdK zX.fChannels)
  (zqR : ZS Z 4 (fun r x=>r = e64 x) zdL zdM zX.fSwitches)
  (zqS : ZS Z 4 (fun r x=>r = e62 x) zdN zdO zX.fLinks)
  (zqT : ZS Z 7 (y2S Z) zdP zdQ zX.fVLs)
  (zqU : ZS Z 5 (fun r x=>r = y3g x) zdR zdS zX.fHealth)
  (zqV : ZS Z 3 (y32 Z) zdT zdU zX.fCauses)
  (zqW : ZS Z 4 (fun r x=>r = y3h x) zdV zdW zX.fVersions)
  (zqX : ZS Z 1 (p55 Z) zfl zfm z4P) :
  Calls Try.prog 15 #[(.agg #[(.slice zdH zX.fModules.length zdI),(.slice zdJ zX.fChannels.length zdK),(.slice zdL zX.fSwitches.length zdM),(.slice zdN zX.fLinks.length zdO),(.slice zdP zX.fVLs.length zdQ),(.slice zdR zX.fHealth.length zdS),(.slice zdT zX.fCauses.length zdU),(.slice zdV zX.fVersions.length zdW)]),(.int .i64 z3t),(.slice zfl z4P.length zfm)] w₀ fun e w'=>e = .returned (.bool r) ∧ Hp [] w₀ w' []:=by
 unfold y2W at h
 refine Calls.yo (vs:=[(.agg #[(.slice zdH zX.fModules.length zdI),(.slice zdJ zX.fChannels.length zdK),(.slice zdL zX.fSwitches.length zdM),(.slice zdN zX.fLinks.length zdO),(.slice zdP zX.fVLs.length zdQ),(.slice zdR zX.fHealth.length zdS),(.slice zdT zX.fCauses.length zdU),(.slice zdV zX.fVersions.length zdW)]),(.int .i64 z3t),(.slice zfl z4P.length zfm)]) (pre:=[]) (env:=[(0,(.agg #[(.slice zdH zX.fModules.length zdI),(.slice zdJ zX.fChannels.length zdK),(.slice zdL zX.fSwitches.length zdM),(.slice zdN zX.fLinks.length zdO),(.slice zdP zX.fVLs.length zdQ),(.slice zdR zX.fHealth.length zdS),(.slice zdT zX.fCauses.length zdU),(.slice zdV zX.fVersions.length zdW)])),(1,(.int .i64 z3t)),(2,(.slice zfl z4P.length zfm))]) Try.func15 rfl Try.ntmps15 rfl (Hp.nil w₀ _) rfl ?_
 refine WC.b (WC.a ?_)
 refine WL.new (dd:=3) rfl rfl rfl (y2p (cs:=[(.slice zdH zX.fModules.length zdI),(.slice zdJ zX.fChannels.length zdK),(.slice zdL zX.fSwitches.length zdM),(.slice zdN zX.fLinks.length zdO),(.slice zdP zX.fVLs.length zdQ),(.slice zdR zX.fHealth.length zdS),(.slice zdT zX.fCauses.length zdU),(.slice zdV zX.fVersions.length zdW)]) rfl rfl) ?_
 intro zqY _
 refine WL.new (dd:=4) rfl rfl rfl (y2p (cs:=[(.int .i64 z3t)]) rfl rfl) ?_
 intro zqZ _
 refine WL.pu rfl (WL.nil (WX.a (WC.b ?_)))
 obtain ⟨zhq,zlK,h⟩:=zn h
 refine WC.a ?_
 refine WL.a (d:=7) rfl rfl rfl (yb yh rfl (yd .here rfl)) ?_
 refine WL.pu rfl (WL.pu rfl ?_)
 refine WL.seg false 2 9 (B:=(decide (z3t = 0)) || (decide (z3t = 1))) rfl rfl rfl rfl rfl rfl (fun h=>(y2m h).symm) (fun _ zr0=>?_) ?_
 ·skip
  refine WL.a (d:=10) rfl rfl rfl (yb yh rfl (yd .here rfl)) ?_
  refine WL.pu rfl (WL.pu rfl ?_)
  exact WL.yz (y2n zr0) rfl rfl .all
 refine WL.pu rfl ?_
 refine WL.seg true 6 13 (B:=((decide (z3t = 0)) || (decide (z3t = 1))) && (decide (((z4P.length : Nat) : Int) = ((zX.fVLs.length : Nat) : Int)))) rfl rfl rfl rfl rfl rfl (fun h=>(y2U h).symm) (fun _ zr1=>?_) ?_
 ·skip
  refine WL.pu rfl ?_
  refine WL.a (d:=15) rfl rfl rfl (yZ Try.underlying32 rfl) ?_
  refine WL.a (d:=16) rfl rfl rfl (ya y7g rfl rfl) ?_
  refine WL.a (d:=17) rfl rfl rfl (yb y7h rfl (yd .h1 rfl)) ?_
  refine WL.a (d:=18) rfl rfl rfl (yZ Try.underlying26 rfl) ?_
  refine WL.pu rfl (WL.pu rfl ?_)
  exact WL.yz (y2V zr1) rfl rfl .all
 refine WL.pu rfl ?_
 refine WL.seg true 3 21 (B:=(((decide (z3t = 0)) || (decide (z3t = 1))) && (decide (((z4P.length : Nat) : Int) = ((zX.fVLs.length : Nat) : Int)))) && (decide (((z4P.length : Nat) : Int) ≤ 16))) rfl rfl rfl rfl rfl rfl (fun h=>(y2U h).symm) (fun _ zr2=>?_) ?_
 ·skip
  refine WL.pu rfl ?_
  refine WL.a (d:=23) rfl rfl rfl (yZ Try.underlying32 rfl) ?_
  refine WL.pu rfl (WL.pu rfl ?_)
  exact WL.yz (y2V zr2) rfl rfl .all
 refine WL.pu rfl ?_
 refine WL.seg true 4 26 (B:=zhq) rfl rfl rfl rfl rfl rfl (fun h=>(Option.some.inj (yl zlK h)).symm) (fun _ zr3=>?_) ?_
 ·skip
  have zdX:=yk zlK zr3
  obtain ⟨zlJ,zr4,zdX⟩:=zn zdX
  replace zdX:=Option.some.inj zdX
  refine WL.pu rfl ?_
  refine WL.a (d:=28) rfl rfl rfl (y6p (Eos.caps (l:=[.tmp 3,.tmp 4]) (.cons rfl (.cons rfl .nil)))) ?_
  refine WL.b (dd:=29) rfl rfl rfl (zE (l:=[.tmp 27,.tmp 28]) Try.call34 (.cons rfl (.cons rfl .nil))) .nil (ccl hz .nil (.cons .h1 (.cons .here .nil)) fun w pz ho la=>y3O _ _ _ (z8q:=35) (zaL:=[(.pointer (some ⟨zqY,0,none⟩)),(.pointer (some ⟨zqZ,0,none⟩))]) _ (zaK:=(fun (y0 : List Sapi_Hop)=>y13 y0 zX z3t)) _ zr4 w pz ((zqX.mono (Zle.left _ _)).weak (fun _ _ h=>y3A (Zle.left _ _) h)) Try.call35 (fun w' hz' y0 ga0 gc0 r gh0 hr=>y7k _ _ _ _ _ _ _ _ _ _ _ _ _ _ _ _ _ _ _ _ _ _ _ _ _ hr w' hz' gh0 ((zqP.mono (Zle.left _ _)).weak (fun _ _ h=>y23 (Zle.left _ _) h)) ((zqQ.mono (Zle.left _ _)).weak (fun _ _ h=>y2c (Zle.left _ _) h)) (zqR.mono (Zle.left _ _)) (zqS.mono (Zle.left _ _)) ((zqT.mono (Zle.left _ _)).weak (fun _ _ h=>y24 (Zle.left _ _) h)) (zqU.mono (Zle.left _ _)) ((zqV.mono (Zle.left _ _)).weak (fun _ _ h=>y2d (Zle.left _ _) h)) (zqW.mono (Zle.left _ _)) ((la _ (.head _) _).stb) ((la _ (.tail _ (.head _)) _).stb))) ?_
  refine WL.pu rfl (WL.pu rfl ?_)
  exact WL.yz zdX rfl rfl .all
 refine WL.pu rfl (WL.nil (WX.a (WC.ret ?_)))
 obtain rfl:=Option.some.inj h
 refine WX.yj Try.results15 (.tmp rfl .nil) (fun w hw=>?_)
 exact ⟨y10 rfl,hw.sub .nil⟩
def y26 (za : List zSt) (zG : Sapi_Config) (z7h : Option Bool) : Nat → Int → Option Bool
 | 0,_=>none
 | zhr + 1,zd=>if decide (zd < ((za.length : Nat) : Int)) then chk ((0 : Int) ≤ zd ∧ zd < ((za.length : Nat) : Int)) (chk (((((((decide (((nth za zd).fTime) < 0)) || (decide (((nth za zd).fTime) > 536870912))) || (decide (((nth za zd).fVL) < 0))) || (decide (((nth za zd).fVL) ≥ ((zG.fVLs.length : Nat) : Int)))) || (decide (((nth za zd).fSize) < 1))) || (decide (((nth za zd).fSize) > 72))) = false → ((decide (zd > 0)) = true → ((0 : Int) ≤ (i64 (zd - 1)) ∧ (i64 (zd - 1)) < ((za.length : Nat) : Int)))) (if ((((((decide (((nth za zd).fTime) < 0)) || (decide (((nth za zd).fTime) > 536870912))) || (decide (((nth za zd).fVL) < 0))) || (decide (((nth za zd).fVL) ≥ ((zG.fVLs.length : Nat) : Int)))) || (decide (((nth za zd).fSize) < 1))) || (decide (((nth za zd).fSize) > 72))) || ((decide (zd > 0)) && (decide (((nth za (i64 (zd - 1))).fTime) > ((nth za zd).fTime)))) then some false else y26 za zG z7h zhr (i64 (zd + 1)))) else z7h
theorem y5U {n : Nat} {za : List zSt} {zG : Sapi_Config} {z7h : Option Bool} {zd : Int} {r : Bool} (h : y26 za zG z7h n zd = some r) : ∃ m,n = m + 1:=by
 cases n with
 | zero=>cases h
 | succ m=>exact ⟨m,rfl⟩
def y3I (zG : Sapi_Config) (za : List zSt) : Option Bool :=
 if decide (((za.length : Nat) : Int) > 40) then some false else jp0 (some true) fun z7h=>y26 za zG z7h ys 0
set_option maxRecDepth 20000 in
theorem y8o (Z : Zp) (zaM : Option Addr) (zaN : Nat) (zaO : Option Addr) (zaP : Nat) (zaQ : Option Addr) (zaR : Nat) (zaS : Option Addr) (zaT : Nat) (zaU : Option Addr) (zaV : Nat) (zaW : Option Addr) (zaX : Nat) (zaY : Option Addr) (zaZ : Nat) (zb0 : Option Addr) (zb1 : Nat) (z2w : Option Addr) (z2x : Nat) (zG : Sapi_Config) (za : List zSt) (r : Bool)
  (h : y3I zG za = some r) (w₀ : World) (hz : PZ [] w₀ Z)
  (zxA : ZS Z 4 (y2I Z) zaM zaN zG.fModules)
  (zxB : ZS Z 4 (y31 Z) zaO zaP zG.fChannels)
  (zxC : ZS Z 4 (fun r x=>r = e64 x) zaQ zaR zG.fSwitches)
  (zxD : ZS Z 4 (fun r x=>r = e62 x) zaS zaT zG.fLinks)
  (zxE : ZS Z 7 (y2S Z) zaU zaV zG.fVLs)
  (zxF : ZS Z 5 (fun r x=>r = y3g x) zaW zaX zG.fHealth)
  (zxG : ZS Z 3 (y32 Z) zaY zaZ zG.fCauses)
  (zxH : ZS Z 4 (fun r x=>r = y3h x) zb0 zb1 zG.fVersions)
  (zlL : ZS Z 3 (fun r x=>r = e53 x) z2w z2x za) :
  Calls Try.prog 22 #[(.agg #[(.slice zaM zG.fModules.length zaN),(.slice zaO zG.fChannels.length zaP),(.slice zaQ zG.fSwitches.length zaR),(.slice zaS zG.fLinks.length zaT),(.slice zaU zG.fVLs.length zaV),(.slice zaW zG.fHealth.length zaX),(.slice zaY zG.fCauses.length zaZ),(.slice zb0 zG.fVersions.length zb1)]),(.slice z2w za.length z2x)] w₀ fun e w'=>e = .returned (.bool r) ∧ Hp [] w₀ w' []:=by
 unfold y3I at h
 refine Calls.yo (vs:=[(.agg #[(.slice zaM zG.fModules.length zaN),(.slice zaO zG.fChannels.length zaP),(.slice zaQ zG.fSwitches.length zaR),(.slice zaS zG.fLinks.length zaT),(.slice zaU zG.fVLs.length zaV),(.slice zaW zG.fHealth.length zaX),(.slice zaY zG.fCauses.length zaZ),(.slice zb0 zG.fVersions.length zb1)]),(.slice z2w za.length z2x)]) (pre:=[]) (env:=[(0,(.agg #[(.slice zaM zG.fModules.length zaN),(.slice zaO zG.fChannels.length zaP),(.slice zaQ zG.fSwitches.length zaR),(.slice zaS zG.fLinks.length zaT),(.slice zaU zG.fVLs.length zaV),(.slice zaW zG.fHealth.length zaX),(.slice zaY zG.fCauses.length zaZ),(.slice zb0 zG.fVersions.length zb1)])),(1,(.slice z2w za.length z2x))]) Try.func22 rfl Try.ntmps22 rfl (Hp.nil w₀ _) rfl ?_
 refine WC.b (WC.a ?_)
 refine WL.new (dd:=2) rfl rfl rfl (y2p (cs:=[(.slice zaM zG.fModules.length zaN),(.slice zaO zG.fChannels.length zaP),(.slice zaQ zG.fSwitches.length zaR),(.slice zaS zG.fLinks.length zaT),(.slice zaU zG.fVLs.length zaV),(.slice zaW zG.fHealth.length zaX),(.slice zaY zG.fCauses.length zaZ),(.slice zb0 zG.fVersions.length zb1)]) rfl rfl) ?_
 intro z7i _
 refine WL.pu rfl (WL.nil (WX.a (WC.b (WC.b (WC.a (WL.pu rfl ?_))))))
 refine WL.a (d:=8) rfl rfl rfl (yZ Try.underlying33 rfl) ?_
 refine WL.pu rfl (WL.nil (WX.a ?_))
 refine WC.cond rfl (fun zhs=>?_) (fun zhs=>?_)
 ·replace h:=yk h zhs
  refine WC.b (WC.a (WL.pu rfl (WL.nil (WX.a (WC.ret (WX.ye ?_))))))
  obtain rfl:=Option.some.inj h
  refine WX.yj Try.results22 (.tmp rfl .nil) (fun w hw=>?_)
  exact ⟨y10 rfl,hw.sub .nil⟩
 ·replace h:=yl h zhs
  refine WC.skip (WX.a ?_)
  obtain ⟨z7h,zr5,h⟩:=y29 h
  refine WC.y2f ((z7h = some r)) ([]) ([]) ?_ ?_
  ·skip
   refine WC.b (WC.a (WL.pu rfl ?_))
   refine WL.a (d:=11) rfl rfl rfl (yZ Try.underlying33 rfl) ?_
   refine WL.pu rfl (WL.nil (WX.a (WC.block ?_)))
   refine WC.y4h (fun (zb2 : Nat) (zd : Int)=>(y26 za zG z7h zb2 zd = some r)) (fun (zb2 : Nat) (zd : Int)=>[(1,(.slice z2w za.length z2x)),(2,(.pointer (some ⟨z7i,0,none⟩))),(10,(.slice z2w za.length z2x)),(11,(.int .i64 ((za.length : Nat) : Int))),(12,(.int .i64 zd))]) (fun (zb2 : Nat) (zd : Int)=>[stb z7i 31 [(.slice zaM zG.fModules.length zaN),(.slice zaO zG.fChannels.length zaP),(.slice zaQ zG.fSwitches.length zaR),(.slice zaS zG.fLinks.length zaT),(.slice zaU zG.fVLs.length zaV),(.slice zaW zG.fHealth.length zaX),(.slice zaY zG.fCauses.length zaZ),(.slice zb0 zG.fVersions.length zb1)]]) (fun (zb2 : Nat) (zd : Int)=>zb2) ⟨ys,0⟩ h (.cons rfl (.cons rfl (.cons rfl (.cons rfl (.cons rfl .nil))))) (.cons .here .nil) ?_
   rintro zb2 zd h
   obtain ⟨zhr,rfl⟩:=y5U h
   rw [y26] at h
   refine WC.b (WC.a (WL.pu rfl (WL.nil (WX.a (WC.b ?_)))))
   refine WC.cond rfl (fun zht=>?_) (fun zht=>?_)
   ·replace h:=yk h zht
    refine WC.skip (WX.a (WC.b (WC.block (WC.b ?_))))
    obtain ⟨zr6,h⟩:=yi h
    refine WC.a (WL.pu rfl ?_)
    refine WL.znth (dd:=15) rfl rfl (Z:=Z) (Pr:=(fun r x=>r = e53 x)) y43 rfl rfl zlL zr6 ?_
    rintro zxI zxJ zr7 zxK rfl
    refine WL.a (d:=16) rfl rfl rfl (yD y6a rfl (y3p hz.pv zr7) rfl) ?_
    refine WL.new (dd:=6) rfl rfl rfl (y1Y (cs:=[(.int .i64 0),(.int .i64 0),(.int .i64 0)]) y6w rfl) ?_
    intro zdY _
    refine WL.pu rfl ?_
    refine WL.y1g rfl rfl (y1A y7i rfl rfl rfl .here rfl rfl rfl) ?_
    refine WL.nil (WX.a (WC.b ?_))
    obtain ⟨zr8,h⟩:=yi h
    refine WC.y12 (fun i=>[].contains i) [] rfl ?_
    refine WD.a (i:=0) (d:=17) (by kernel_rfl) rfl z2 z3 rfl rfl rfl (fun _=>ya y4t rfl rfl) ?_
    refine WD.e (i:=1) (d:=18) (by kernel_rfl) rfl z2 z3 rfl rfl rfl (yb yh rfl (yd .here rfl)) ?_
    refine WD.a (i:=2) (d:=19) (by kernel_rfl) rfl z2 z3 rfl rfl rfl (fun _=>y3B rfl rfl) ?_
    refine WD.a (i:=3) (d:=20) (by kernel_rfl) rfl z2 z3 rfl rfl rfl (fun _=>q_m rfl) ?_
    refine WD.mid (fuel':=38) [(1,(.slice z2w za.length z2x)),(2,(.pointer (some ⟨z7i,0,none⟩))),(10,(.slice z2w za.length z2x)),(11,(.int .i64 ((za.length : Nat) : Int))),(12,(.int .i64 zd)),(6,(.pointer (some ⟨zdY,0,none⟩))),(5,(.int .i64 zd)),(20,(.bool (decide (((nth za zd).fTime) < 0)))),(24,(.bool ((decide (((nth za zd).fTime) < 0)) || (decide (((nth za zd).fTime) > 536870912)))))] (y1M 46 [7,6,5,4,3,2,1,0]) ?_ (fun zlM=>?_)
    rotate_left
    ·rcases Bool.eq_false_or_eq_true (decide (((nth za zd).fTime) < 0)) with hb' | hb'
     ·have zhu:=hb'; clear hb'
      refine WD.pin (i:=20) rfl zhu ?_
      refine WD.b (i:=4) (d:=21) (by kernel_rfl) rfl z2 z3 rfl rfl rfl ?_
      refine WD.b (i:=5) (d:=22) (by kernel_rfl) rfl z2 z3 rfl rfl rfl ?_
      refine WD.b (i:=6) (d:=23) (by kernel_rfl) rfl z2 z3 rfl rfl rfl ?_
      refine WD.a (i:=7) (d:=24) (by kernel_rfl) rfl z2 z3 rfl rfl rfl (fun _=>y1D rfl rfl) ?_
      refine WD.yV (.cons .here (.cons .here .nil)) ?_ zlM
      exact (.cons rfl (.cons rfl (.cons rfl (.cons rfl (.cons rfl (.cons rfl (.cons rfl (.cons (zu (Eq.symm zhu)) (.cons (zu (y2m zhu)) .nil)))))))))
     ·have zhv:=hb'; clear hb'
      refine WD.pin (i:=20) rfl zhv ?_
      refine WD.a (i:=4) (d:=21) (by kernel_rfl) rfl z2 z3 rfl rfl rfl (fun _=>ya y4t rfl rfl) ?_
      refine WD.e (i:=5) (d:=22) (by kernel_rfl) rfl z2 z3 rfl rfl rfl (yb yh rfl (yd .here rfl)) ?_
      refine WD.a (i:=6) (d:=23) (by kernel_rfl) rfl z2 z3 rfl rfl rfl (fun _=>y3X rfl rfl) ?_
      refine WD.a (i:=7) (d:=24) (by kernel_rfl) rfl z2 z3 rfl rfl rfl (fun _=>y1E rfl rfl) ?_
      refine WD.yV (.cons .here (.cons .here .nil)) ?_ zlM
      exact (.cons rfl (.cons rfl (.cons rfl (.cons rfl (.cons rfl (.cons rfl (.cons rfl (.cons (zu (Eq.symm zhv)) (.cons (zu (y2n zhv)) .nil)))))))))
    refine WD.d #[true,true,true,true,true,true,true,true,false,false,false,false,false,false,false,false,false,false,false,false,false,false,false,false,false,false,false,false,false,false,false,false,false,false,false,false,false,false,false,false,false,false,false,false,false,false] (by kernel_rfl) ?_
    refine WD.a (i:=8) (d:=25) (by kernel_rfl) rfl z2 z3 rfl rfl rfl (fun _=>q_m rfl) ?_
    refine WD.mid (fuel':=33) [(1,(.slice z2w za.length z2x)),(2,(.pointer (some ⟨z7i,0,none⟩))),(10,(.slice z2w za.length z2x)),(11,(.int .i64 ((za.length : Nat) : Int))),(12,(.int .i64 zd)),(6,(.pointer (some ⟨zdY,0,none⟩))),(5,(.int .i64 zd)),(25,(.bool ((decide (((nth za zd).fTime) < 0)) || (decide (((nth za zd).fTime) > 536870912))))),(29,(.bool (((decide (((nth za zd).fTime) < 0)) || (decide (((nth za zd).fTime) > 536870912))) || (decide (((nth za zd).fVL) < 0)))))] (y1M 46 [12,11,10,9,8,7,6,5,4,3,2,1,0]) ?_ (fun zlN=>?_)
    rotate_left
    ·rcases Bool.eq_false_or_eq_true ((decide (((nth za zd).fTime) < 0)) || (decide (((nth za zd).fTime) > 536870912))) with hb' | hb'
     ·have zhw:=hb'; clear hb'
      refine WD.pin (i:=25) rfl zhw ?_
      refine WD.b (i:=9) (d:=26) (by kernel_rfl) rfl z2 z3 rfl rfl rfl ?_
      refine WD.b (i:=10) (d:=27) (by kernel_rfl) rfl z2 z3 rfl rfl rfl ?_
      refine WD.b (i:=11) (d:=28) (by kernel_rfl) rfl z2 z3 rfl rfl rfl ?_
      refine WD.a (i:=12) (d:=29) (by kernel_rfl) rfl z2 z3 rfl rfl rfl (fun _=>y1D rfl rfl) ?_
      refine WD.yV (.cons .here (.cons .here .nil)) ?_ zlN
      exact (.cons rfl (.cons rfl (.cons rfl (.cons rfl (.cons rfl (.cons rfl (.cons rfl (.cons (zu (Eq.symm zhw)) (.cons (zu (y2m zhw)) .nil)))))))))
     ·have zhx:=hb'; clear hb'
      refine WD.pin (i:=25) rfl zhx ?_
      refine WD.a (i:=9) (d:=26) (by kernel_rfl) rfl z2 z3 rfl rfl rfl (fun _=>ya y4E rfl rfl) ?_
      refine WD.e (i:=10) (d:=27) (by kernel_rfl) rfl z2 z3 rfl rfl rfl (yb yh rfl (yd .here rfl)) ?_
      refine WD.a (i:=11) (d:=28) (by kernel_rfl) rfl z2 z3 rfl rfl rfl (fun _=>y3B rfl rfl) ?_
      refine WD.a (i:=12) (d:=29) (by kernel_rfl) rfl z2 z3 rfl rfl rfl (fun _=>y1E rfl rfl) ?_
      refine WD.yV (.cons .here (.cons .here .nil)) ?_ zlN
      exact (.cons rfl (.cons rfl (.cons rfl (.cons rfl (.cons rfl (.cons rfl (.cons rfl (.cons (zu (Eq.symm zhx)) (.cons (zu (y2n zhx)) .nil)))))))))
    refine WD.d #[true,true,true,true,true,true,true,true,true,true,true,true,true,false,false,false,false,false,false,false,false,false,false,false,false,false,false,false,false,false,false,false,false,false,false,false,false,false,false,false,false,false,false,false,false,false] (by kernel_rfl) ?_
    refine WD.a (i:=13) (d:=30) (by kernel_rfl) rfl z2 z3 rfl rfl rfl (fun _=>q_m rfl) ?_
    refine WD.mid (fuel':=25) [(1,(.slice z2w za.length z2x)),(2,(.pointer (some ⟨z7i,0,none⟩))),(10,(.slice z2w za.length z2x)),(11,(.int .i64 ((za.length : Nat) : Int))),(12,(.int .i64 zd)),(6,(.pointer (some ⟨zdY,0,none⟩))),(5,(.int .i64 zd)),(30,(.bool (((decide (((nth za zd).fTime) < 0)) || (decide (((nth za zd).fTime) > 536870912))) || (decide (((nth za zd).fVL) < 0))))),(37,(.bool ((((decide (((nth za zd).fTime) < 0)) || (decide (((nth za zd).fTime) > 536870912))) || (decide (((nth za zd).fVL) < 0))) || (decide (((nth za zd).fVL) ≥ ((zG.fVLs.length : Nat) : Int))))))] (y1M 46 [20,19,18,17,16,15,14,13,12,11,10,9,8,7,6,5,4,3,2,1,0]) ?_ (fun zlO=>?_)
    rotate_left
    ·rcases Bool.eq_false_or_eq_true (((decide (((nth za zd).fTime) < 0)) || (decide (((nth za zd).fTime) > 536870912))) || (decide (((nth za zd).fVL) < 0))) with hb' | hb'
     ·have zhy:=hb'; clear hb'
      refine WD.pin (i:=30) rfl zhy ?_
      refine WD.b (i:=14) (d:=31) (by kernel_rfl) rfl z2 z3 rfl rfl rfl ?_
      refine WD.b (i:=15) (d:=32) (by kernel_rfl) rfl z2 z3 rfl rfl rfl ?_
      refine WD.b (i:=16) (d:=33) (by kernel_rfl) rfl z2 z3 rfl rfl rfl ?_
      refine WD.b (i:=17) (d:=34) (by kernel_rfl) rfl z2 z3 rfl rfl rfl ?_
      refine WD.b (i:=18) (d:=35) (by kernel_rfl) rfl z2 z3 rfl rfl rfl ?_
      refine WD.b (i:=19) (d:=36) (by kernel_rfl) rfl z2 z3 rfl rfl rfl ?_
      refine WD.a (i:=20) (d:=37) (by kernel_rfl) rfl z2 z3 rfl rfl rfl (fun _=>y1D rfl rfl) ?_
      refine WD.yV (.cons .here (.cons .here .nil)) ?_ zlO
      exact (.cons rfl (.cons rfl (.cons rfl (.cons rfl (.cons rfl (.cons rfl (.cons rfl (.cons (zu (Eq.symm zhy)) (.cons (zu (y2m zhy)) .nil)))))))))
     ·have zhz:=hb'; clear hb'
      refine WD.pin (i:=30) rfl zhz ?_
      refine WD.a (i:=14) (d:=31) (by kernel_rfl) rfl z2 z3 rfl rfl rfl (fun _=>ya y4E rfl rfl) ?_
      refine WD.e (i:=15) (d:=32) (by kernel_rfl) rfl z2 z3 rfl rfl rfl (yb yh rfl (yd .here rfl)) ?_
      refine WD.a (i:=16) (d:=33) (by kernel_rfl) rfl z2 z3 rfl rfl rfl (fun _=>ya y7g rfl rfl) ?_
      refine WD.e (i:=17) (d:=34) (by kernel_rfl) rfl z2 z3 rfl rfl rfl (yb y7h rfl (yd .h1 rfl)) ?_
      refine WD.a (i:=18) (d:=35) (by kernel_rfl) rfl z2 z3 rfl rfl rfl (fun _=>yZ Try.underlying26 rfl) ?_
      refine WD.a (i:=19) (d:=36) (by kernel_rfl) rfl z2 z3 rfl rfl rfl (fun _=>q_geq rfl rfl) ?_
      refine WD.a (i:=20) (d:=37) (by kernel_rfl) rfl z2 z3 rfl rfl rfl (fun _=>y1E rfl rfl) ?_
      refine WD.yV (.cons .here (.cons .here .nil)) ?_ zlO
      exact (.cons rfl (.cons rfl (.cons rfl (.cons rfl (.cons rfl (.cons rfl (.cons rfl (.cons (zu (Eq.symm zhz)) (.cons (zu (y2n zhz)) .nil)))))))))
    refine WD.d #[true,true,true,true,true,true,true,true,true,true,true,true,true,true,true,true,true,true,true,true,true,false,false,false,false,false,false,false,false,false,false,false,false,false,false,false,false,false,false,false,false,false,false,false,false,false] (by kernel_rfl) ?_
    refine WD.a (i:=21) (d:=38) (by kernel_rfl) rfl z2 z3 rfl rfl rfl (fun _=>q_m rfl) ?_
    refine WD.mid (fuel':=20) [(1,(.slice z2w za.length z2x)),(2,(.pointer (some ⟨z7i,0,none⟩))),(10,(.slice z2w za.length z2x)),(11,(.int .i64 ((za.length : Nat) : Int))),(12,(.int .i64 zd)),(6,(.pointer (some ⟨zdY,0,none⟩))),(5,(.int .i64 zd)),(38,(.bool ((((decide (((nth za zd).fTime) < 0)) || (decide (((nth za zd).fTime) > 536870912))) || (decide (((nth za zd).fVL) < 0))) || (decide (((nth za zd).fVL) ≥ ((zG.fVLs.length : Nat) : Int)))))),(42,(.bool (((((decide (((nth za zd).fTime) < 0)) || (decide (((nth za zd).fTime) > 536870912))) || (decide (((nth za zd).fVL) < 0))) || (decide (((nth za zd).fVL) ≥ ((zG.fVLs.length : Nat) : Int)))) || (decide (((nth za zd).fSize) < 1)))))] (y1M 46 [25,24,23,22,21,20,19,18,17,16,15,14,13,12,11,10,9,8,7,6,5,4,3,2,1,0]) ?_ (fun zlP=>?_)
    rotate_left
    ·rcases Bool.eq_false_or_eq_true ((((decide (((nth za zd).fTime) < 0)) || (decide (((nth za zd).fTime) > 536870912))) || (decide (((nth za zd).fVL) < 0))) || (decide (((nth za zd).fVL) ≥ ((zG.fVLs.length : Nat) : Int)))) with hb' | hb'
     ·have zhA:=hb'; clear hb'
      refine WD.pin (i:=38) rfl zhA ?_
      refine WD.b (i:=22) (d:=39) (by kernel_rfl) rfl z2 z3 rfl rfl rfl ?_
      refine WD.b (i:=23) (d:=40) (by kernel_rfl) rfl z2 z3 rfl rfl rfl ?_
      refine WD.b (i:=24) (d:=41) (by kernel_rfl) rfl z2 z3 rfl rfl rfl ?_
      refine WD.a (i:=25) (d:=42) (by kernel_rfl) rfl z2 z3 rfl rfl rfl (fun _=>y1D rfl rfl) ?_
      refine WD.yV (.cons .here (.cons .here .nil)) ?_ zlP
      exact (.cons rfl (.cons rfl (.cons rfl (.cons rfl (.cons rfl (.cons rfl (.cons rfl (.cons (zu (Eq.symm zhA)) (.cons (zu (y2m zhA)) .nil)))))))))
     ·have zhB:=hb'; clear hb'
      refine WD.pin (i:=38) rfl zhB ?_
      refine WD.a (i:=22) (d:=39) (by kernel_rfl) rfl z2 z3 rfl rfl rfl (fun _=>ya y6b rfl rfl) ?_
      refine WD.e (i:=23) (d:=40) (by kernel_rfl) rfl z2 z3 rfl rfl rfl (yb yh rfl (yd .here rfl)) ?_
      refine WD.a (i:=24) (d:=41) (by kernel_rfl) rfl z2 z3 rfl rfl rfl (fun _=>y3B rfl rfl) ?_
      refine WD.a (i:=25) (d:=42) (by kernel_rfl) rfl z2 z3 rfl rfl rfl (fun _=>y1E rfl rfl) ?_
      refine WD.yV (.cons .here (.cons .here .nil)) ?_ zlP
      exact (.cons rfl (.cons rfl (.cons rfl (.cons rfl (.cons rfl (.cons rfl (.cons rfl (.cons (zu (Eq.symm zhB)) (.cons (zu (y2n zhB)) .nil)))))))))
    refine WD.d #[true,true,true,true,true,true,true,true,true,true,true,true,true,true,true,true,true,true,true,true,true,true,true,true,true,true,false,false,false,false,false,false,false,false,false,false,false,false,false,false,false,false,false,false,false,false] (by kernel_rfl) ?_
    refine WD.a (i:=26) (d:=43) (by kernel_rfl) rfl z2 z3 rfl rfl rfl (fun _=>q_m rfl) ?_
    refine WD.mid (fuel':=15) [(1,(.slice z2w za.length z2x)),(2,(.pointer (some ⟨z7i,0,none⟩))),(10,(.slice z2w za.length z2x)),(11,(.int .i64 ((za.length : Nat) : Int))),(12,(.int .i64 zd)),(6,(.pointer (some ⟨zdY,0,none⟩))),(5,(.int .i64 zd)),(43,(.bool (((((decide (((nth za zd).fTime) < 0)) || (decide (((nth za zd).fTime) > 536870912))) || (decide (((nth za zd).fVL) < 0))) || (decide (((nth za zd).fVL) ≥ ((zG.fVLs.length : Nat) : Int)))) || (decide (((nth za zd).fSize) < 1))))),(47,(.bool ((((((decide (((nth za zd).fTime) < 0)) || (decide (((nth za zd).fTime) > 536870912))) || (decide (((nth za zd).fVL) < 0))) || (decide (((nth za zd).fVL) ≥ ((zG.fVLs.length : Nat) : Int)))) || (decide (((nth za zd).fSize) < 1))) || (decide (((nth za zd).fSize) > 72)))))] (y1M 46 [30,29,28,27,26,25,24,23,22,21,20,19,18,17,16,15,14,13,12,11,10,9,8,7,6,5,4,3,2,1,0]) ?_ (fun zlQ=>?_)
    rotate_left
    ·rcases Bool.eq_false_or_eq_true (((((decide (((nth za zd).fTime) < 0)) || (decide (((nth za zd).fTime) > 536870912))) || (decide (((nth za zd).fVL) < 0))) || (decide (((nth za zd).fVL) ≥ ((zG.fVLs.length : Nat) : Int)))) || (decide (((nth za zd).fSize) < 1))) with hb' | hb'
     ·have zhC:=hb'; clear hb'
      refine WD.pin (i:=43) rfl zhC ?_
      refine WD.b (i:=27) (d:=44) (by kernel_rfl) rfl z2 z3 rfl rfl rfl ?_
      refine WD.b (i:=28) (d:=45) (by kernel_rfl) rfl z2 z3 rfl rfl rfl ?_
      refine WD.b (i:=29) (d:=46) (by kernel_rfl) rfl z2 z3 rfl rfl rfl ?_
      refine WD.a (i:=30) (d:=47) (by kernel_rfl) rfl z2 z3 rfl rfl rfl (fun _=>y1D rfl rfl) ?_
      refine WD.yV (.cons .here (.cons .here .nil)) ?_ zlQ
      exact (.cons rfl (.cons rfl (.cons rfl (.cons rfl (.cons rfl (.cons rfl (.cons rfl (.cons (zu (Eq.symm zhC)) (.cons (zu (y2m zhC)) .nil)))))))))
     ·have zhD:=hb'; clear hb'
      refine WD.pin (i:=43) rfl zhD ?_
      refine WD.a (i:=27) (d:=44) (by kernel_rfl) rfl z2 z3 rfl rfl rfl (fun _=>ya y6b rfl rfl) ?_
      refine WD.e (i:=28) (d:=45) (by kernel_rfl) rfl z2 z3 rfl rfl rfl (yb yh rfl (yd .here rfl)) ?_
      refine WD.a (i:=29) (d:=46) (by kernel_rfl) rfl z2 z3 rfl rfl rfl (fun _=>y3X rfl rfl) ?_
      refine WD.a (i:=30) (d:=47) (by kernel_rfl) rfl z2 z3 rfl rfl rfl (fun _=>y1E rfl rfl) ?_
      refine WD.yV (.cons .here (.cons .here .nil)) ?_ zlQ
      exact (.cons rfl (.cons rfl (.cons rfl (.cons rfl (.cons rfl (.cons rfl (.cons rfl (.cons (zu (Eq.symm zhD)) (.cons (zu (y2n zhD)) .nil)))))))))
    refine WD.d #[true,true,true,true,true,true,true,true,true,true,true,true,true,true,true,true,true,true,true,true,true,true,true,true,true,true,true,true,true,true,true,false,false,false,false,false,false,false,false,false,false,false,false,false,false,false] (by kernel_rfl) ?_
    refine WD.a (i:=31) (d:=48) (by kernel_rfl) rfl z2 z3 rfl rfl rfl (fun _=>q_m rfl) ?_
    refine WD.mid (fuel':=0) [(1,(.slice z2w za.length z2x)),(2,(.pointer (some ⟨z7i,0,none⟩))),(10,(.slice z2w za.length z2x)),(11,(.int .i64 ((za.length : Nat) : Int))),(12,(.int .i64 zd)),(48,(.bool ((((((decide (((nth za zd).fTime) < 0)) || (decide (((nth za zd).fTime) > 536870912))) || (decide (((nth za zd).fVL) < 0))) || (decide (((nth za zd).fVL) ≥ ((zG.fVLs.length : Nat) : Int)))) || (decide (((nth za zd).fSize) < 1))) || (decide (((nth za zd).fSize) > 72))))),(62,(.bool (((((((decide (((nth za zd).fTime) < 0)) || (decide (((nth za zd).fTime) > 536870912))) || (decide (((nth za zd).fVL) < 0))) || (decide (((nth za zd).fVL) ≥ ((zG.fVLs.length : Nat) : Int)))) || (decide (((nth za zd).fSize) < 1))) || (decide (((nth za zd).fSize) > 72))) || ((decide (zd > 0)) && (decide (((nth za (i64 (zd - 1))).fTime) > ((nth za zd).fTime)))))))] (y1M 46 [45,44,43,42,41,40,39,38,37,36,35,34,33,32,31,30,29,28,27,26,25,24,23,22,21,20,19,18,17,16,15,14,13,12,11,10,9,8,7,6,5,4,3,2,1,0]) ?_ (fun zlR=>?_)
    rotate_left
    ·rcases Bool.eq_false_or_eq_true ((((((decide (((nth za zd).fTime) < 0)) || (decide (((nth za zd).fTime) > 536870912))) || (decide (((nth za zd).fVL) < 0))) || (decide (((nth za zd).fVL) ≥ ((zG.fVLs.length : Nat) : Int)))) || (decide (((nth za zd).fSize) < 1))) || (decide (((nth za zd).fSize) > 72))) with hb' | hb'
     ·have zhE:=hb'; clear hb'
      refine WD.pin (i:=48) rfl zhE ?_
      refine WD.b (i:=32) (d:=49) (by kernel_rfl) rfl z2 z3 rfl rfl rfl ?_
      refine WD.b (i:=33) (d:=50) (by kernel_rfl) rfl z2 z3 rfl rfl rfl ?_
      refine WD.b (i:=34) (d:=51) (by kernel_rfl) rfl z2 z3 rfl rfl rfl ?_
      refine WD.b (i:=35) (d:=52) (by kernel_rfl) rfl z2 z3 rfl rfl rfl ?_
      refine WD.b (i:=36) (d:=53) (by kernel_rfl) rfl z2 z3 rfl rfl rfl ?_
      refine WD.b (i:=37) (d:=54) (by kernel_rfl) rfl z2 z3 rfl rfl rfl ?_
      refine WD.b (i:=38) (d:=55) (by kernel_rfl) rfl z2 z3 rfl rfl rfl ?_
      refine WD.b (i:=39) (d:=56) (by kernel_rfl) rfl z2 z3 rfl rfl rfl ?_
      refine WD.b (i:=40) (d:=57) (by kernel_rfl) rfl z2 z3 rfl rfl rfl ?_
      refine WD.b (i:=41) (d:=58) (by kernel_rfl) rfl z2 z3 rfl rfl rfl ?_
      refine WD.b (i:=42) (d:=59) (by kernel_rfl) rfl z2 z3 rfl rfl rfl ?_
      refine WD.b (i:=43) (d:=60) (by kernel_rfl) rfl z2 z3 rfl rfl rfl ?_
      refine WD.b (i:=44) (d:=61) (by kernel_rfl) rfl z2 z3 rfl rfl rfl ?_
      refine WD.a (i:=45) (d:=62) (by kernel_rfl) rfl z2 z3 rfl rfl rfl (fun _=>y1D rfl rfl) ?_
      refine WD.yV (.cons .here (.cons .here .nil)) ?_ zlR
      exact (.cons rfl (.cons rfl (.cons rfl (.cons rfl (.cons rfl (.cons (zu (Eq.symm zhE)) (.cons (zu (y2m zhE)) .nil)))))))
     ·have zfn:=hb'; clear hb'
      have zr9:=zr8 zfn
      refine WD.pin (i:=48) rfl zfn ?_
      refine WD.a (i:=32) (d:=49) (by kernel_rfl) rfl z2 z3 rfl rfl rfl (fun _=>q_m rfl) ?_
      refine WD.a (i:=33) (d:=50) (by kernel_rfl) rfl z2 z3 rfl rfl rfl (fun _=>y3X rfl rfl) ?_
      refine WD.a (i:=34) (d:=51) (by kernel_rfl) rfl z2 z3 rfl rfl rfl (fun _=>q_m rfl) ?_
      refine WD.mid (fuel':=1) [(1,(.slice z2w za.length z2x)),(2,(.pointer (some ⟨z7i,0,none⟩))),(10,(.slice z2w za.length z2x)),(11,(.int .i64 ((za.length : Nat) : Int))),(12,(.int .i64 zd)),(48,(.bool false)),(51,(.bool (decide (zd > 0)))),(61,(.bool ((decide (zd > 0)) && (decide (((nth za (i64 (zd - 1))).fTime) > ((nth za zd).fTime))))))] (y1M 46 [44,43,42,41,40,39,38,37,36,35,34,33,32,31,30,29,28,27,26,25,24,23,22,21,20,19,18,17,16,15,14,13,12,11,10,9,8,7,6,5,4,3,2,1,0]) ?_ (fun zlS=>?_)
      rotate_left
      ·rcases Bool.eq_false_or_eq_true (decide (zd > 0)) with hb' | hb'
       ·have zfo:=hb'; clear hb'
        have zra:=zr9 zfo
        refine WD.pin (i:=51) rfl zfo ?_
        refine WD.a (i:=35) (d:=52) (by kernel_rfl) rfl z2 z3 rfl rfl rfl (fun _=>q_m rfl) ?_
        refine WD.a (i:=36) (d:=53) (by kernel_rfl) rfl z2 z3 rfl rfl rfl (fun _=>q_m rfl) ?_
        refine WD.a (i:=37) (d:=54) (by kernel_rfl) rfl z2 z3 rfl rfl rfl (fun _=>y52 rfl rfl rfl) ?_
        refine WD.znth (j:=38) (dd:=55) (by kernel_rfl) rfl z2 z3 rfl rfl (Z:=Z) (Pr:=(fun r x=>r = e53 x)) y43 rfl rfl zlL zra ?_
        rintro zxL zxM zrb zxN rfl
        refine WD.a (i:=39) (d:=56) (by kernel_rfl) rfl z2 z3 rfl rfl rfl (fun _=>ya y4t rfl rfl) ?_
        refine WD.e (i:=40) (d:=57) (by kernel_rfl) rfl z2 z3 rfl rfl rfl (yb yh rfl (y2h hz.pv zrb rfl)) ?_
        refine WD.a (i:=41) (d:=58) (by kernel_rfl) rfl z2 z3 rfl rfl rfl (fun _=>ya y4t rfl rfl) ?_
        refine WD.e (i:=42) (d:=59) (by kernel_rfl) rfl z2 z3 rfl rfl rfl (yb yh rfl (yd .here rfl)) ?_
        refine WD.a (i:=43) (d:=60) (by kernel_rfl) rfl z2 z3 rfl rfl rfl (fun _=>y3X rfl rfl) ?_
        refine WD.a (i:=44) (d:=61) (by kernel_rfl) rfl z2 z3 rfl rfl rfl (fun _=>y1D rfl rfl) ?_
        refine WD.yV (.cons .here (.cons .here .nil)) ?_ zlS
        exact (.cons rfl (.cons rfl (.cons rfl (.cons rfl (.cons rfl (.cons rfl (.cons (zu (Eq.symm zfo)) (.cons (zu (y2V zfo)) .nil))))))))
       ·have zhF:=hb'; clear hb'
        refine WD.pin (i:=51) rfl zhF ?_
        refine WD.b (i:=35) (d:=52) (by kernel_rfl) rfl z2 z3 rfl rfl rfl ?_
        refine WD.b (i:=36) (d:=53) (by kernel_rfl) rfl z2 z3 rfl rfl rfl ?_
        refine WD.b (i:=37) (d:=54) (by kernel_rfl) rfl z2 z3 rfl rfl rfl ?_
        refine WD.b (i:=38) (d:=55) (by kernel_rfl) rfl z2 z3 rfl rfl rfl ?_
        refine WD.b (i:=39) (d:=56) (by kernel_rfl) rfl z2 z3 rfl rfl rfl ?_
        refine WD.b (i:=40) (d:=57) (by kernel_rfl) rfl z2 z3 rfl rfl rfl ?_
        refine WD.b (i:=41) (d:=58) (by kernel_rfl) rfl z2 z3 rfl rfl rfl ?_
        refine WD.b (i:=42) (d:=59) (by kernel_rfl) rfl z2 z3 rfl rfl rfl ?_
        refine WD.b (i:=43) (d:=60) (by kernel_rfl) rfl z2 z3 rfl rfl rfl ?_
        refine WD.a (i:=44) (d:=61) (by kernel_rfl) rfl z2 z3 rfl rfl rfl (fun _=>y1E rfl rfl) ?_
        refine WD.yV (.cons .here (.cons .here .nil)) ?_ zlS
        exact (.cons rfl (.cons rfl (.cons rfl (.cons rfl (.cons rfl (.cons rfl (.cons (zu (Eq.symm zhF)) (.cons (zu (y2U zhF)) .nil))))))))
      refine WD.d #[true,true,true,true,true,true,true,true,true,true,true,true,true,true,true,true,true,true,true,true,true,true,true,true,true,true,true,true,true,true,true,true,true,true,true,true,true,true,true,true,true,true,true,true,true,false] (by kernel_rfl) ?_
      refine WD.a (i:=45) (d:=62) (by kernel_rfl) rfl z2 z3 rfl rfl rfl (fun _=>y1E rfl rfl) ?_
      refine WD.yV (.cons .here (.cons .here .nil)) ?_ zlR
      exact (.cons rfl (.cons rfl (.cons rfl (.cons rfl (.cons rfl (.cons (zu (Eq.symm zfn)) (.cons (zu (y2n zfn)) .nil)))))))
    refine WD.d #[true,true,true,true,true,true,true,true,true,true,true,true,true,true,true,true,true,true,true,true,true,true,true,true,true,true,true,true,true,true,true,true,true,true,true,true,true,true,true,true,true,true,true,true,true,true] (by kernel_rfl) ?_
    refine WD.done (by kernel_rfl) ?_
    refine WX.a ?_
    refine WC.cond rfl (fun zhG=>?_) (fun zhG=>?_)
    ·replace h:=yk h zhG
     refine WC.b (WC.a (WL.pu rfl (WL.nil (WX.a (WC.ret (WX.yr (WX.ye (WX.ye (WX.yr (WX.ye ?_))))))))))
     obtain rfl:=Option.some.inj h
     refine WX.yj Try.results22 (.tmp rfl .nil) (fun w hw=>?_)
     exact ⟨y10 rfl,hw.sub .nil⟩
    ·replace h:=yl h zhG
     refine WC.skip (WX.yg (WX.a (WC.a (WL.pu rfl (WL.pu rfl (WL.nil ?_))))))
     exact WX.round (G:=Nat × Int) ⟨zhr,(i64 (zd + 1))⟩ h (Nat.lt_succ_self _) (.cons rfl (.cons rfl (.cons rfl (.cons rfl (.cons rfl .nil))))) (.cons .h1 .nil)
   ·replace h:=yl h zht
    refine WC.exit (WX.yc (WX.yc (WX.yt ?_)))
    exact WX.mid (G:=Unit) () h .nil .nil
  ·rintro  h
   replace h:=zr5.symm.trans h
   refine WC.b (WC.a (WL.pu rfl (WL.nil (WX.a (WC.ret ?_)))))
   obtain rfl:=Option.some.inj h
   refine WX.yj Try.results22 (.tmp rfl .nil) (fun w hw=>?_)
   exact ⟨y10 rfl,hw.sub .nil⟩
def y4l (c_38 : Sapi_Config) (net_63 : Int) (routes_64 : List (List Sapi_Hop)) (sent_68 : List zSt) : Option Bool :=
 (y4y c_38 routes_64 sent_68).bind fun zlT=>(if zlT then (y2W c_38 net_63 routes_64).bind fun zlU=>some zlU else some false).bind fun zhH=>(if zhH then (y3I c_38 sent_68).bind fun zlV=>some zlV else some false).bind fun zhI=>some zhI
set_option maxRecDepth 20000 in
theorem y9f (Z : Zp) (ao_39 : Option Addr) (cap_40 : Nat) (ao_42 : Option Addr) (cap_43 : Nat) (ao_45 : Option Addr) (cap_46 : Nat) (ao_48 : Option Addr) (cap_49 : Nat) (ao_51 : Option Addr) (cap_52 : Nat) (ao_54 : Option Addr) (cap_55 : Nat) (ao_57 : Option Addr) (cap_58 : Nat) (ao_60 : Option Addr) (cap_61 : Nat) (ao_65 : Option Addr) (cap_66 : Nat) (ao_69 : Option Addr) (cap_70 : Nat) (c_38 : Sapi_Config) (net_63 : Int) (routes_64 : List (List Sapi_Hop)) (sent_68 : List zSt) (r : Bool)
  (h : y4l c_38 net_63 routes_64 sent_68 = some r) (w₀ : World) (hz : PZ [] w₀ Z)
  (hs_41 : ZS Z 4 (y2I Z) ao_39 cap_40 c_38.fModules)
  (hs_44 : ZS Z 4 (y31 Z) ao_42 cap_43 c_38.fChannels)
  (hs_47 : ZS Z 4 (fun r x=>r = e64 x) ao_45 cap_46 c_38.fSwitches)
  (hs_50 : ZS Z 4 (fun r x=>r = e62 x) ao_48 cap_49 c_38.fLinks)
  (hs_53 : ZS Z 7 (y2S Z) ao_51 cap_52 c_38.fVLs)
  (hs_56 : ZS Z 5 (fun r x=>r = y3g x) ao_54 cap_55 c_38.fHealth)
  (hs_59 : ZS Z 3 (y32 Z) ao_57 cap_58 c_38.fCauses)
  (hs_62 : ZS Z 4 (fun r x=>r = y3h x) ao_60 cap_61 c_38.fVersions)
  (hs_67 : ZS Z 1 (p55 Z) ao_65 cap_66 routes_64)
  (hs_71 : ZS Z 3 (fun r x=>r = e53 x) ao_69 cap_70 sent_68) :
  Calls Try.prog 20 #[(.agg #[(.slice ao_39 c_38.fModules.length cap_40),(.slice ao_42 c_38.fChannels.length cap_43),(.slice ao_45 c_38.fSwitches.length cap_46),(.slice ao_48 c_38.fLinks.length cap_49),(.slice ao_51 c_38.fVLs.length cap_52),(.slice ao_54 c_38.fHealth.length cap_55),(.slice ao_57 c_38.fCauses.length cap_58),(.slice ao_60 c_38.fVersions.length cap_61)]),(.int .i64 net_63),(.slice ao_65 routes_64.length cap_66),(.slice ao_69 sent_68.length cap_70)] w₀ fun e w'=>e = .returned (.bool r) ∧ Hp [] w₀ w' []:=by
 unfold y4l at h
 refine Calls.yo (vs:=[(.agg #[(.slice ao_39 c_38.fModules.length cap_40),(.slice ao_42 c_38.fChannels.length cap_43),(.slice ao_45 c_38.fSwitches.length cap_46),(.slice ao_48 c_38.fLinks.length cap_49),(.slice ao_51 c_38.fVLs.length cap_52),(.slice ao_54 c_38.fHealth.length cap_55),(.slice ao_57 c_38.fCauses.length cap_58),(.slice ao_60 c_38.fVersions.length cap_61)]),(.int .i64 net_63),(.slice ao_65 routes_64.length cap_66),(.slice ao_69 sent_68.length cap_70)]) (pre:=[]) (env:=[(0,(.agg #[(.slice ao_39 c_38.fModules.length cap_40),(.slice ao_42 c_38.fChannels.length cap_43),(.slice ao_45 c_38.fSwitches.length cap_46),(.slice ao_48 c_38.fLinks.length cap_49),(.slice ao_51 c_38.fVLs.length cap_52),(.slice ao_54 c_38.fHealth.length cap_55),(.slice ao_57 c_38.fCauses.length cap_58),(.slice ao_60 c_38.fVersions.length cap_61)])),(1,(.int .i64 net_63)),(2,(.slice ao_65 routes_64.length cap_66)),(3,(.slice ao_69 sent_68.length cap_70))]) Try.func20 rfl Try.ntmps20 rfl (Hp.nil w₀ _) rfl ?_
 refine WC.b (WC.a ?_)
 refine WL.new (dd:=4) rfl rfl rfl (y2p (cs:=[(.slice ao_39 c_38.fModules.length cap_40),(.slice ao_42 c_38.fChannels.length cap_43),(.slice ao_45 c_38.fSwitches.length cap_46),(.slice ao_48 c_38.fLinks.length cap_49),(.slice ao_51 c_38.fVLs.length cap_52),(.slice ao_54 c_38.fHealth.length cap_55),(.slice ao_57 c_38.fCauses.length cap_58),(.slice ao_60 c_38.fVersions.length cap_61)]) rfl rfl) ?_
 intro zxO _
 refine WL.pu rfl (WL.nil (WX.a (WC.b ?_)))
 obtain ⟨zlT,zrc,h⟩:=zn h
 obtain ⟨zhH,zlW,h⟩:=zn h
 obtain ⟨zhI,zlX,h⟩:=zn h
 refine WC.a ?_
 refine WL.a (d:=9) rfl rfl rfl (yD y1N rfl (y1h .here) rfl) ?_
 refine WL.pu rfl (WL.pu rfl ?_)
 refine WL.b (dd:=12) rfl rfl rfl (zE (l:=[.tmp 9,.tmp 10,.tmp 11]) Try.call10 (.cons rfl (.cons rfl (.cons rfl .nil)))) .nil (cc hz .nil fun w pz ho=>y9B _ _ _ _ _ _ _ _ _ _ _ _ _ _ _ _ _ _ _ _ _ _ _ _ _ zrc w pz hs_41 hs_44 hs_47 hs_50 hs_53 hs_56 hs_59 hs_62 hs_67 hs_71) ?_
 refine WL.pu rfl ?_
 refine WL.seg true 4 13 (B:=zhH) rfl rfl rfl rfl rfl rfl (fun h=>(Option.some.inj (yl zlW h)).symm) (fun _ zrd=>?_) ?_
 ·skip
  have zdZ:=yk zlW zrd
  obtain ⟨zlU,zre,zdZ⟩:=zn zdZ
  replace zdZ:=Option.some.inj zdZ
  refine WL.a (d:=14) rfl rfl rfl (yD y1N rfl (y1h .here) rfl) ?_
  refine WL.pu rfl (WL.pu rfl ?_)
  refine WL.b (dd:=17) rfl rfl rfl (zE (l:=[.tmp 14,.tmp 15,.tmp 16]) Try.call15 (.cons rfl (.cons rfl (.cons rfl .nil)))) .nil (cc hz .nil fun w pz ho=>y5O _ _ _ _ _ _ _ _ _ _ _ _ _ _ _ _ _ _ _ _ _ _ _ zre w pz hs_41 hs_44 hs_47 hs_50 hs_53 hs_56 hs_59 hs_62 hs_67) ?_
  refine WL.pu rfl ?_
  exact WL.yz zdZ rfl rfl .all
 refine WL.pu rfl ?_
 refine WL.seg true 3 19 (B:=zhI) rfl rfl rfl rfl rfl rfl (fun h=>(Option.some.inj (yl zlX h)).symm) (fun _ zrf=>?_) ?_
 ·skip
  have ze0:=yk zlX zrf
  obtain ⟨zlV,zrg,ze0⟩:=zn ze0
  replace ze0:=Option.some.inj ze0
  refine WL.a (d:=20) rfl rfl rfl (yD y1N rfl (y1h .here) rfl) ?_
  refine WL.pu rfl ?_
  refine WL.b (dd:=22) rfl rfl rfl (zE (l:=[.tmp 20,.tmp 21]) Try.call22 (.cons rfl (.cons rfl .nil))) .nil (cc hz .nil fun w pz ho=>y8o _ _ _ _ _ _ _ _ _ _ _ _ _ _ _ _ _ _ _ _ _ _ zrg w pz hs_41 hs_44 hs_47 hs_50 hs_53 hs_56 hs_59 hs_62 hs_71) ?_
  refine WL.pu rfl ?_
  exact WL.yz ze0 rfl rfl .all
 refine WL.pu rfl (WL.nil (WX.a (WC.ret ?_)))
 obtain rfl:=Option.some.inj h
 refine WX.yj Try.results20 (.tmp rfl .nil) (fun w hw=>?_)
 exact ⟨y10 rfl,hw.sub .nil⟩
def y4L (z7j : Int) : Option (Sapi_Config × List (List Sapi_Hop)) :=
 some ((⟨([(⟨⟨#[109]⟩,0,0,[]⟩ : Sapi_Module),(⟨⟨#[110]⟩,0,0,[]⟩ : Sapi_Module)] : List Sapi_Module),[],([(⟨⟨#[115]⟩,0,16,z7j⟩ : Sapi_Switch)] : List Sapi_Switch),([(⟨⟨#[109]⟩,⟨#[115]⟩,0,1⟩ : Sapi_Link),(⟨⟨#[110]⟩,⟨#[115]⟩,0,1⟩ : Sapi_Link)] : List Sapi_Link),([(⟨⟨#[]⟩,(⟨⟨#[]⟩,⟨#[]⟩,⟨#[]⟩⟩ : Sapi_Ref),0,0,[]⟩ : Sapi_VL)] : List Sapi_VL),[],[],[]⟩ : Sapi_Config),([([(⟨0,2,0⟩ : Sapi_Hop),(⟨2,1,1⟩ : Sapi_Hop)] : List Sapi_Hop)] : List (List Sapi_Hop)))
set_option maxRecDepth 20000 in
theorem y7Z (Z : Zp)  (z7j : Int) (r : Sapi_Config × List (List Sapi_Hop))
  (h : y4L z7j = some r) (w₀ : World) (hz : PZ [] w₀ Z) :
  Calls Try.prog 23 #[(.int .i64 z7j)] w₀ fun e w'=>∃ Zn : Zp,∃ zlY : Option Addr,∃ zlZ : Nat,∃ zm0 : List Value,∃ zm1 : Option Addr,∃ zm2 : Nat,∃ zm3 : Option Addr,∃ zm4 : Nat,∃ zm5 : Option Addr,∃ zm6 : Nat,∃ zm7 : Option Addr,∃ zm8 : Nat,∃ zm9 : List Value,∃ zma : Option Addr,∃ zmb : Nat,∃ zmc : Option Addr,∃ zmd : Nat,∃ zme : Option Addr,∃ zmf : Nat,∃ zmg : Option Addr,∃ zmh : Nat,∃ zmi : List Value,e = .returned (.tuple #[(.agg #[(.slice zlY r.1.fModules.length zlZ),(.slice zm1 r.1.fChannels.length zm2),(.slice zm3 r.1.fSwitches.length zm4),(.slice zm5 r.1.fLinks.length zm6),(.slice zm7 r.1.fVLs.length zm8),(.slice zma r.1.fHealth.length zmb),(.slice zmc r.1.fCauses.length zmd),(.slice zme r.1.fVersions.length zmf)]),(.slice zmg r.2.length zmh)]) ∧ ((RR 4 (y2I (Z ++ Zn)) zm0 r.1.fModules) ∧ (ZS (Z ++ Zn) 4 (y31 (Z ++ Zn)) zm1 zm2 r.1.fChannels) ∧ (RR 7 (y2S (Z ++ Zn)) zm9 r.1.fVLs) ∧ (ZS (Z ++ Zn) 5 (fun r x=>r = y3g x) zma zmb r.1.fHealth) ∧ (ZS (Z ++ Zn) 3 (y32 (Z ++ Zn)) zmc zmd r.1.fCauses) ∧ (ZS (Z ++ Zn) 4 (fun r x=>r = y3h x) zme zmf r.1.fVersions) ∧ (RR 1 (p55 (Z ++ Zn)) zmi r.2)) ∧ Hp [] w₀ w' [fz Zn,row (.slice zlY r.1.fModules.length zlZ) 104 4 zm0,row (.slice zm3 r.1.fSwitches.length zm4) 64 4 (r.1.fSwitches.flatMap e64),row (.slice zm5 r.1.fLinks.length zm6) 62 4 (r.1.fLinks.flatMap e62),row (.slice zm7 r.1.fVLs.length zm8) 109 7 zm9,row (.slice zmg r.2.length zmh) 55 1 zmi]:=by
 unfold y4L at h
 refine Calls.yo (vs:=[(.int .i64 z7j)]) (pre:=[]) (env:=[(0,(.int .i64 z7j))]) Try.func23 rfl Try.ntmps23 rfl (Hp.nil w₀ _) rfl ?_
 refine WC.pool (WC.b (WC.a ?_))
 refine WL.new (dd:=2) rfl rfl rfl (y1Y (cs:=[(.slice none 0 0),(.slice none 0 0),(.slice none 0 0),(.slice none 0 0),(.slice none 0 0),(.slice none 0 0),(.slice none 0 0),(.slice none 0 0)]) y7x rfl) ?_
 intro zxP _
 refine WL.pu rfl (WL.nil (WX.a (WC.b (WC.a ?_))))
 refine WL.a (d:=5) rfl rfl rfl (y1l (v:=(.agg #[(.string ⟨#[109]⟩),(.int .i64 0),(.int .i64 0),(.slice none 0 0)])) (Eos.parts (l:=[.const (.string ⟨#[109]⟩)]) (.cons rfl .nil) [0]) (fun _=>by kernel_rfl)) ?_
 refine WL.a (d:=6) rfl rfl rfl (y1l (v:=(.agg #[(.string ⟨#[110]⟩),(.int .i64 0),(.int .i64 0),(.slice none 0 0)])) (Eos.parts (l:=[.const (.string ⟨#[110]⟩)]) (.cons rfl .nil) [0]) (fun _=>by kernel_rfl)) ?_
 have zrh : RR 4 (y2I (Z ++ [])) [(.string ⟨#[109]⟩),(.int .i64 0),(.int .i64 0),(.slice none 0 0),(.string ⟨#[110]⟩),(.int .i64 0),(.int .i64 0),(.slice none 0 0)] ([(⟨⟨#[109]⟩,0,0,[]⟩ : Sapi_Module),(⟨⟨#[110]⟩,0,0,[]⟩ : Sapi_Module)] : List Sapi_Module):=(RR.cons (r:=[(.string ⟨#[109]⟩),(.int .i64 0),(.int .i64 0),(.slice none 0 0)]) rfl (show y2I _ _ _ from ⟨_,_,rfl,(ZS.nil _ _ _)⟩) (RR.cons (r:=[(.string ⟨#[110]⟩),(.int .i64 0),(.int .i64 0),(.slice none 0 0)]) rfl (show y2I _ _ _ from ⟨_,_,rfl,(ZS.nil _ _ _)⟩) (RR.nil _ _)))
 refine WL.new (dd:=7) rfl rfl rfl (yS (cs:=[(.string ⟨#[109]⟩),(.int .i64 0),(.int .i64 0),(.slice none 0 0),(.string ⟨#[110]⟩),(.int .i64 0),(.int .i64 0),(.slice none 0 0)]) elT_22 (Eos.parts (l:=[.tmp 5,.tmp 6]) (.cons rfl (.cons rfl .nil)) [0,1]) (fun _=>by kernel_rfl) rfl (by unfold maxLen; omega)) ?_
 intro zmj _
 refine WL.pu rfl ?_
 refine WL.a (d:=9) rfl rfl rfl (y1l (v:=(.agg #[(.string ⟨#[115]⟩),(.int .i64 0),(.int .i64 16),(.int .i64 z7j)])) (Eos.parts (l:=[.const (.string ⟨#[115]⟩),.const (.int .i64 16),.tmp 8]) (.cons rfl (.cons rfl (.cons rfl .nil))) [0,2,3]) (fun _=>by kernel_rfl)) ?_
 refine WL.new (dd:=10) rfl rfl rfl (yS (cs:=([(⟨⟨#[115]⟩,0,16,z7j⟩ : Sapi_Switch)] : List Sapi_Switch).flatMap e64) y76 (Eos.parts (l:=[.tmp 9]) (.cons rfl .nil) [0]) (fun _=>by kernel_rfl) rfl (by unfold maxLen; omega)) ?_
 intro zmk _
 refine WL.a (d:=11) rfl rfl rfl (y1l (v:=(.agg #[(.string ⟨#[109]⟩),(.string ⟨#[115]⟩),(.int .i64 0),(.int .i64 1)])) (Eos.parts (l:=[.const (.string ⟨#[109]⟩),.const (.string ⟨#[115]⟩),.const (.int .i64 1)]) (.cons rfl (.cons rfl (.cons rfl .nil))) [0,1,3]) (fun _=>by kernel_rfl)) ?_
 refine WL.a (d:=12) rfl rfl rfl (y1l (v:=(.agg #[(.string ⟨#[110]⟩),(.string ⟨#[115]⟩),(.int .i64 0),(.int .i64 1)])) (Eos.parts (l:=[.const (.string ⟨#[110]⟩),.const (.string ⟨#[115]⟩),.const (.int .i64 1)]) (.cons rfl (.cons rfl (.cons rfl .nil))) [0,1,3]) (fun _=>by kernel_rfl)) ?_
 refine WL.new (dd:=13) rfl rfl rfl (yS (cs:=([(⟨⟨#[109]⟩,⟨#[115]⟩,0,1⟩ : Sapi_Link),(⟨⟨#[110]⟩,⟨#[115]⟩,0,1⟩ : Sapi_Link)] : List Sapi_Link).flatMap e62) y98 (Eos.parts (l:=[.tmp 11,.tmp 12]) (.cons rfl (.cons rfl .nil)) [0,1]) (fun _=>by kernel_rfl) rfl (by unfold maxLen; omega)) ?_
 intro zml _
 refine WL.a (d:=14) rfl rfl rfl (y1l (v:=(.agg #[(.string ⟨#[]⟩),(.string ⟨#[]⟩),(.string ⟨#[]⟩),(.string ⟨#[]⟩),(.int .i64 0),(.int .i64 0),(.slice none 0 0)])) (Eos.parts (l:=[]) .nil []) (fun _=>by kernel_rfl)) ?_
 have zri : RR 7 (y2S (Z ++ [])) [(.string ⟨#[]⟩),(.string ⟨#[]⟩),(.string ⟨#[]⟩),(.string ⟨#[]⟩),(.int .i64 0),(.int .i64 0),(.slice none 0 0)] ([(⟨⟨#[]⟩,(⟨⟨#[]⟩,⟨#[]⟩,⟨#[]⟩⟩ : Sapi_Ref),0,0,[]⟩ : Sapi_VL)] : List Sapi_VL):=(RR.cons (r:=[(.string ⟨#[]⟩),(.string ⟨#[]⟩),(.string ⟨#[]⟩),(.string ⟨#[]⟩),(.int .i64 0),(.int .i64 0),(.slice none 0 0)]) rfl (show y2S _ _ _ from ⟨_,_,rfl,(ZS.nil _ _ _)⟩) (RR.nil _ _))
 refine WL.new (dd:=15) rfl rfl rfl (yS (cs:=[(.string ⟨#[]⟩),(.string ⟨#[]⟩),(.string ⟨#[]⟩),(.string ⟨#[]⟩),(.int .i64 0),(.int .i64 0),(.slice none 0 0)]) elT_26 (Eos.parts (l:=[.tmp 14]) (.cons rfl .nil) [0]) (fun _=>by kernel_rfl) rfl (by unfold maxLen; omega)) ?_
 intro zmm _
 refine WL.a (d:=16) rfl rfl rfl (y1l (v:=(.agg #[(.slice (some ⟨zmj,0,none⟩) (([(⟨⟨#[109]⟩,0,0,[]⟩ : Sapi_Module),(⟨⟨#[110]⟩,0,0,[]⟩ : Sapi_Module)] : List Sapi_Module).length) 2),(.slice none 0 0),(.slice (some ⟨zmk,0,none⟩) (([(⟨⟨#[115]⟩,0,16,z7j⟩ : Sapi_Switch)] : List Sapi_Switch).length) 1),(.slice (some ⟨zml,0,none⟩) (([(⟨⟨#[109]⟩,⟨#[115]⟩,0,1⟩ : Sapi_Link),(⟨⟨#[110]⟩,⟨#[115]⟩,0,1⟩ : Sapi_Link)] : List Sapi_Link).length) 2),(.slice (some ⟨zmm,0,none⟩) (([(⟨⟨#[]⟩,(⟨⟨#[]⟩,⟨#[]⟩,⟨#[]⟩⟩ : Sapi_Ref),0,0,[]⟩ : Sapi_VL)] : List Sapi_VL).length) 1),(.slice none 0 0),(.slice none 0 0),(.slice none 0 0)])) (Eos.parts (l:=[.tmp 7,.tmp 10,.tmp 13,.tmp 15]) (.cons rfl (.cons rfl (.cons rfl (.cons rfl .nil)))) [0,2,3,4]) (fun _=>by kernel_rfl)) ?_
 refine WL.new (dd:=4) rfl rfl rfl (y1Y (cs:=[(.slice none 0 0),(.slice none 0 0),(.slice none 0 0),(.slice none 0 0),(.slice none 0 0),(.slice none 0 0),(.slice none 0 0),(.slice none 0 0)]) y7x rfl) ?_
 intro zxQ _
 refine WL.y1g rfl rfl (y1A y8i rfl rfl rfl .here rfl rfl rfl) ?_
 refine WL.nil (WX.a (WC.b (WC.a ?_)))
 refine WL.a (d:=17) rfl rfl rfl (yD y1N rfl (y1h .here) rfl) ?_
 refine WL.a (d:=18) rfl rfl rfl (y1l (v:=(.agg #[(.int .i64 0),(.int .i64 2),(.int .i64 0)])) (Eos.parts (l:=[.const (.int .i64 0),.const (.int .i64 2),.const (.int .i64 0)]) (.cons rfl (.cons rfl (.cons rfl .nil))) [0,1,2]) (fun _=>by kernel_rfl)) ?_
 refine WL.a (d:=19) rfl rfl rfl (y1l (v:=(.agg #[(.int .i64 2),(.int .i64 1),(.int .i64 1)])) (Eos.parts (l:=[.const (.int .i64 2),.const (.int .i64 1),.const (.int .i64 1)]) (.cons rfl (.cons rfl (.cons rfl .nil))) [0,1,2]) (fun _=>by kernel_rfl)) ?_
 refine WL.new (dd:=20) rfl rfl rfl (yS (cs:=([(⟨0,2,0⟩ : Sapi_Hop),(⟨2,1,1⟩ : Sapi_Hop)] : List Sapi_Hop).flatMap e59) y67 (Eos.parts (l:=[.tmp 18,.tmp 19]) (.cons rfl (.cons rfl .nil)) [0,1]) (fun _=>by kernel_rfl) rfl (by unfold maxLen; omega)) ?_
 intro zfp _
 refine WL.freezeS (ls:=([(⟨0,2,0⟩ : Sapi_Hop),(⟨2,1,1⟩ : Sapi_Hop)] : List Sapi_Hop)) .here .h6 hz (RR.y16 (enc:=e59) (fun _=>rfl) _) ?_
 intro zmn zmo zrj
 have zrk : RR 1 (p55 (Z ++ zmn)) [(.slice (some ⟨zfp,0,none⟩) (([(⟨0,2,0⟩ : Sapi_Hop),(⟨2,1,1⟩ : Sapi_Hop)] : List Sapi_Hop).length) 2)] ([([(⟨0,2,0⟩ : Sapi_Hop),(⟨2,1,1⟩ : Sapi_Hop)] : List Sapi_Hop)] : List (List Sapi_Hop)):=(RR.cons (r:=[(.slice (some ⟨zfp,0,none⟩) (([(⟨0,2,0⟩ : Sapi_Hop),(⟨2,1,1⟩ : Sapi_Hop)] : List Sapi_Hop).length) 2)]) rfl (show p55 _ _ _ from ⟨_,_,rfl,zrj⟩) (RR.nil _ _))
 refine WL.new (dd:=21) rfl rfl rfl (yS (cs:=[(.slice (some ⟨zfp,0,none⟩) (([(⟨0,2,0⟩ : Sapi_Hop),(⟨2,1,1⟩ : Sapi_Hop)] : List Sapi_Hop).length) 2)]) y65 (Eos.parts (l:=[.tmp 20]) (.cons rfl .nil) [0]) (fun _=>by kernel_rfl) rfl (by unfold maxLen; omega)) ?_
 intro zrl _
 refine WL.y1g rfl rfl (y1A y8i rfl rfl rfl .h7 rfl rfl rfl) ?_
 refine WL.pu rfl (WL.nil (WX.a (WC.ret ?_)))
 obtain rfl:=Option.some.inj h
 refine WX.yj Try.results23 (.agg rfl y1N rfl (y1h .here) (.tmp rfl .nil)) (fun w hw=>?_)
 exact ⟨zmn,(some ⟨zmj,0,none⟩),2,[(.string ⟨#[109]⟩),(.int .i64 0),(.int .i64 0),(.slice none 0 0),(.string ⟨#[110]⟩),(.int .i64 0),(.int .i64 0),(.slice none 0 0)],none,0,(some ⟨zmk,0,none⟩),1,(some ⟨zml,0,none⟩),2,(some ⟨zmm,0,none⟩),1,[(.string ⟨#[]⟩),(.string ⟨#[]⟩),(.string ⟨#[]⟩),(.string ⟨#[]⟩),(.int .i64 0),(.int .i64 0),(.slice none 0 0)],none,0,none,0,none,0,(some ⟨zrl,0,none⟩),1,[(.slice (some ⟨zfp,0,none⟩) (([(⟨0,2,0⟩ : Sapi_Hop),(⟨2,1,1⟩ : Sapi_Hop)] : List Sapi_Hop).length) 2)],ret2 rfl rfl,⟨(zrh.weak (fun _ _ h=>y23 zmo h)),(ZS.nil _ _ _),(zri.weak (fun _ _ h=>y24 zmo h)),(ZS.nil _ _ _),(ZS.nil _ _ _),(ZS.nil _ _ _),zrk⟩,hw.sub (.cons .h2 (.cons .h6 (.cons .h5 (.cons .h4 (.cons .h3 (.cons .h1 .nil))))))⟩
end Go.Proofs.Ytinchjigeakocaa
