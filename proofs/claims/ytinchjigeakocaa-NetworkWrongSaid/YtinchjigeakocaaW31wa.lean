/- A part of this claim's proof: models of functions, walks, plain laws. No conditions. -/
import Derived.Test.YtinchjigeakocaaZSortF
import Derived.Test.YtinchjigeakocaaZUnroll
import Derived.Test.YtinchjigeakocaaZEnt
import Derived.Test.YtinchjigeakocaaProg
namespace Go.Proofs.Ytinchjigeakocaa
open Go Go.RowKit Sep
set_option linter.all false
set_option maxRecDepth 30000
set_option maxHeartbeats 4000000
structure Sapi_Port where
 fName : ByteArray
 fKind : Int
 fOut : Bool
 fSize : Int
 fDepth : Int
 fRefresh : Int
 deriving Inhabited,DecidableEq
structure Sapi_Ins where
 fOp : Int
 fA : Int
 fB : Int
 fC : Int
 deriving Inhabited,DecidableEq
structure Sapi_Proc where
 fName : ByteArray
 fPrio : Int
 fPeriod : Int
 fLimit : Int
 fCode : List Sapi_Ins
 deriving Inhabited,DecidableEq
structure Sapi_Part where
 fName : ByteArray
 fPeriod : Int
 fLength : Int
 fMem : Int
 fSemas : List Int
 fEvents : Int
 fBoards : Int
 fBufs : List Int
 fPorts : List Sapi_Port
 fProcs : List Sapi_Proc
 deriving Inhabited,DecidableEq
structure Sapi_Module where
 fName : ByteArray
 fMem : Int
 fFrame : Int
 fParts : List Sapi_Part
 deriving Inhabited,DecidableEq
structure Sapi_Ref where
 fModule : ByteArray
 fPart : ByteArray
 fPort : ByteArray
 deriving Inhabited,DecidableEq
structure Sapi_Channel where
 fFrom : Sapi_Ref
 fTo : List Sapi_Ref
 deriving Inhabited,DecidableEq
structure Sapi_Switch where
 fName : ByteArray
 fNet : Int
 fDelay : Int
 fStore : Int
 deriving Inhabited,DecidableEq
structure Sapi_Link where
 fA : ByteArray
 fB : ByteArray
 fNet : Int
 fSlow : Int
 deriving Inhabited,DecidableEq
structure Sapi_VL where
 fName : ByteArray
 fFrom : Sapi_Ref
 fBag : Int
 fMax : Int
 fTo : List Sapi_Ref
 deriving Inhabited,DecidableEq
structure Sapi_Health where
 fModule : ByteArray
 fPart : ByteArray
 fFault : Int
 fLevel : Int
 fDo : Int
 deriving Inhabited,DecidableEq
structure Sapi_Report where
 fUnit : ByteArray
 fCode : Int
 deriving Inhabited,DecidableEq
structure Sapi_Cause where
 fUnit : ByteArray
 fNeeds : List Sapi_Report
 fUnless : List ByteArray
 deriving Inhabited,DecidableEq
structure Sapi_Version where
 fA : ByteArray
 fVA : Int
 fB : ByteArray
 fVB : Int
 deriving Inhabited,DecidableEq
structure Sapi_Config where
 fModules : List Sapi_Module
 fChannels : List Sapi_Channel
 fSwitches : List Sapi_Switch
 fLinks : List Sapi_Link
 fVLs : List Sapi_VL
 fHealth : List Sapi_Health
 fCauses : List Sapi_Cause
 fVersions : List Sapi_Version
 deriving Inhabited,DecidableEq
def e3 (x : Int) : List Value:=[(.int .i64 x)]
def e191 (x : Sapi_Port) : List Value:=[(.string x.fName),(.int .u8 x.fKind),(.bool x.fOut),(.int .i64 x.fSize),(.int .i64 x.fDepth),(.int .i64 x.fRefresh)]
def e196 (x : Sapi_Ins) : List Value:=[(.int .u8 x.fOp),(.int .i64 x.fA),(.int .i64 x.fB),(.int .i64 x.fC)]
def p194 (Z : Zp) (r : List Value) (x : Sapi_Proc) : Prop:=∃ (ao0 : Option Addr) (cap0 : Nat),r = [(.string x.fName),(.int .i64 x.fPrio),(.int .i64 x.fPeriod),(.int .i64 x.fLimit),(.slice ao0 x.fCode.length cap0)] ∧ ZS Z 4 (fun r x=>r = e196 x) ao0 cap0 x.fCode
theorem y7i {Z Z' : Zp} (k : Zle Z Z') {r : List Value} {x : Sapi_Proc} (h : p194 Z r x) : p194 Z' r x:=by
 obtain ⟨ao0,cap0,hr,h0⟩:=h
 exact ⟨ao0,cap0,hr,h0.mono k⟩
def p186 (Z : Zp) (r : List Value) (x : Sapi_Part) : Prop:=∃ (ao0 : Option Addr) (cap0 : Nat) (ao1 : Option Addr) (cap1 : Nat) (ao2 : Option Addr) (cap2 : Nat) (ao3 : Option Addr) (cap3 : Nat),r = [(.string x.fName),(.int .i64 x.fPeriod),(.int .i64 x.fLength),(.int .i64 x.fMem),(.slice ao0 x.fSemas.length cap0),(.int .i64 x.fEvents),(.int .i64 x.fBoards),(.slice ao1 x.fBufs.length cap1),(.slice ao2 x.fPorts.length cap2),(.slice ao3 x.fProcs.length cap3)] ∧ ZS Z 1 (fun r x=>r = e3 x) ao0 cap0 x.fSemas ∧ ZS Z 1 (fun r x=>r = e3 x) ao1 cap1 x.fBufs ∧ ZS Z 6 (fun r x=>r = e191 x) ao2 cap2 x.fPorts ∧ ZS Z 5 (p194 Z) ao3 cap3 x.fProcs
theorem y7j {Z Z' : Zp} (k : Zle Z Z') {r : List Value} {x : Sapi_Part} (h : p186 Z r x) : p186 Z' r x:=by
 obtain ⟨ao0,cap0,ao1,cap1,ao2,cap2,ao3,cap3,hr,h0,h1,h2,h3⟩:=h
 exact ⟨ao0,cap0,ao1,cap1,ao2,cap2,ao3,cap3,hr,h0.mono k,h1.mono k,h2.mono k,(h3.mono k).weak (fun _ _ h=>y7i k h)⟩
def y2h (Z : Zp) (r : List Value) (x : Sapi_Module) : Prop:=∃ (ao0 : Option Addr) (cap0 : Nat),r = [(.string x.fName),(.int .i64 x.fMem),(.int .i64 x.fFrame),(.slice ao0 x.fParts.length cap0)] ∧ ZS Z 10 (p186 Z) ao0 cap0 x.fParts
theorem yq {Z Z' : Zp} (k : Zle Z Z') {r : List Value} {x : Sapi_Module} (h : y2h Z r x) : y2h Z' r x:=by
 obtain ⟨ao0,cap0,hr,h0⟩:=h
 exact ⟨ao0,cap0,hr,(h0.mono k).weak (fun _ _ h=>y7j k h)⟩
def e106 (x : Sapi_Ref) : List Value:=[(.string x.fModule),(.string x.fPart),(.string x.fPort)]
def y2x (Z : Zp) (r : List Value) (x : Sapi_Channel) : Prop:=∃ (ao0 : Option Addr) (cap0 : Nat),r = [(.string x.fFrom.fModule),(.string x.fFrom.fPart),(.string x.fFrom.fPort),(.slice ao0 x.fTo.length cap0)] ∧ ZS Z 3 (fun r x=>r = e106 x) ao0 cap0 x.fTo
theorem ys {Z Z' : Zp} (k : Zle Z Z') {r : List Value} {x : Sapi_Channel} (h : y2x Z r x) : y2x Z' r x:=by
 obtain ⟨ao0,cap0,hr,h0⟩:=h
 exact ⟨ao0,cap0,hr,h0.mono k⟩
def e64 (x : Sapi_Switch) : List Value:=[(.string x.fName),(.int .i64 x.fNet),(.int .i64 x.fDelay),(.int .i64 x.fStore)]
def e62 (x : Sapi_Link) : List Value:=[(.string x.fA),(.string x.fB),(.int .i64 x.fNet),(.int .i64 x.fSlow)]
def y2p (Z : Zp) (r : List Value) (x : Sapi_VL) : Prop:=∃ (ao0 : Option Addr) (cap0 : Nat),r = [(.string x.fName),(.string x.fFrom.fModule),(.string x.fFrom.fPart),(.string x.fFrom.fPort),(.int .i64 x.fBag),(.int .i64 x.fMax),(.slice ao0 x.fTo.length cap0)] ∧ ZS Z 3 (fun r x=>r = e106 x) ao0 cap0 x.fTo
theorem yr {Z Z' : Zp} (k : Zle Z Z') {r : List Value} {x : Sapi_VL} (h : y2p Z r x) : y2p Z' r x:=by
 obtain ⟨ao0,cap0,hr,h0⟩:=h
 exact ⟨ao0,cap0,hr,h0.mono k⟩
def y2K (x : Sapi_Health) : List Value:=[(.string x.fModule),(.string x.fPart),(.int .u8 x.fFault),(.int .u8 x.fLevel),(.int .u8 x.fDo)]
def e189 (x : Sapi_Report) : List Value:=[(.string x.fUnit),(.int .i64 x.fCode)]
def e9 (x : ByteArray) : List Value:=[(.string x)]
def y2y (Z : Zp) (r : List Value) (x : Sapi_Cause) : Prop:=∃ (ao0 : Option Addr) (cap0 : Nat) (ao1 : Option Addr) (cap1 : Nat),r = [(.string x.fUnit),(.slice ao0 x.fNeeds.length cap0),(.slice ao1 x.fUnless.length cap1)] ∧ ZS Z 2 (fun r x=>r = e189 x) ao0 cap0 x.fNeeds ∧ ZS Z 1 (fun r x=>r = e9 x) ao1 cap1 x.fUnless
theorem yt {Z Z' : Zp} (k : Zle Z Z') {r : List Value} {x : Sapi_Cause} (h : y2y Z r x) : y2y Z' r x:=by
 obtain ⟨ao0,cap0,ao1,cap1,hr,h0,h1⟩:=h
 exact ⟨ao0,cap0,ao1,cap1,hr,h0.mono k,h1.mono k⟩
def y2L (x : Sapi_Version) : List Value:=[(.string x.fA),(.int .i64 x.fVA),(.string x.fB),(.int .i64 x.fVB)]
structure Sapi_Hop where
 fNode : Int
 fNext : Int
 fLink : Int
 deriving Inhabited,DecidableEq
def e59 (x : Sapi_Hop) : List Value:=[(.int .i64 x.fNode),(.int .i64 x.fNext),(.int .i64 x.fLink)]
theorem e59_oc : ∀ x,∀ u ∈ e59 x,u.oneCell' = true:=fun _=>ocB rfl
def p55 (Z : Zp) (r : List Value) (x : List Sapi_Hop) : Prop:=∃ (ao0 : Option Addr) (cap0 : Nat),r = [(.slice ao0 x.length cap0)] ∧ ZS Z 3 (fun r x=>r = e59 x) ao0 cap0 x
theorem yH {Z Z' : Zp} (k : Zle Z Z') {r : List Value} {x : List Sapi_Hop} (h : p55 Z r x) : p55 Z' r x:=by
 obtain ⟨ao0,cap0,hr,h0⟩:=h
 exact ⟨ao0,cap0,hr,h0.mono k⟩
theorem p55_oc {Z : Zp} {r : List Value} {x : List Sapi_Hop} (h : p55 Z r x) : ∀ u ∈ r,u.oneCell' = true:=by
 obtain ⟨ao0,cap0,hr,h0⟩:=h
 rw [hr]; exact ocB rfl
structure zSt where
 fTime : Int
 fVL : Int
 fSize : Int
 deriving Inhabited,DecidableEq
def e53 (x : zSt) : List Value:=[(.int .i64 x.fTime),(.int .i64 x.fVL),(.int .i64 x.fSize)]
theorem y6I : ∀ x,∀ u ∈ e53 x,u.oneCell' = true:=fun _=>ocB rfl
structure S7 where
 fX : Int
 fY : Int
 fSigned : Bool
 fCode : Int
 deriving Inhabited,DecidableEq
structure S13 where
 fMsg : ByteArray
 fAddr : Int
 deriving Inhabited,DecidableEq
structure Snetwork_exit where
 fNode : Int
 fLink : Int
 deriving Inhabited,DecidableEq
def y1I (x : Snetwork_exit) : List Value:=[(.int .i64 x.fNode),(.int .i64 x.fLink)]
structure Sport_numbers where
 fSlow : Int
 fDelay : Int
 fStore : Int
 deriving Inhabited,DecidableEq
structure Sport_frame where
 fSize : Int
 fFin : Int
 deriving Inhabited,DecidableEq
structure Sport_Port where
 fNumbers : Sport_numbers
 fNow : Int
 fLast : Int
 fFrames : List Sport_frame
 deriving Inhabited,DecidableEq
def y1P (x : Sport_frame) : List Value:=[(.int .i64 x.fSize),(.int .i64 x.fFin)]
theorem y7Y : ∀ x,∀ u ∈ y1P x,u.oneCell' = true:=fun _=>ocB rfl
def z13 (g : Nat × (Option Addr × Nat)) (x : Sport_Port) : List Asrt:=[stb g.1 143 [(.int .i64 x.fNumbers.fSlow),(.int .i64 x.fNumbers.fDelay),(.int .i64 x.fNumbers.fStore),(.int .i64 x.fNow),(.int .i64 x.fLast),(.slice g.2.1 x.fFrames.length g.2.2)],row (.slice g.2.1 x.fFrames.length g.2.2) 146 2 (x.fFrames.flatMap y1P)]
structure Snetwork_event where
 fTime : Int
 fIn_ : Int
 fVl : Int
 fSent : Int
 fHop : Sapi_Hop
 deriving Inhabited,DecidableEq
def yx (x : Snetwork_event) : List Value:=[(.int .i64 x.fTime),(.int .i64 x.fIn_),(.int .i64 x.fVl),(.int .i64 x.fSent),(.int .i64 x.fHop.fNode),(.int .i64 x.fHop.fNext),(.int .i64 x.fHop.fLink)]
theorem e113_oc : ∀ x,∀ u ∈ yx x,u.oneCell' = true:=fun _=>ocB rfl
structure Sapi_Come where
 fSent : Int
 fNode : Int
 fTime : Int
 deriving Inhabited,DecidableEq
def e50 (x : Sapi_Come) : List Value:=[(.int .i64 x.fSent),(.int .i64 x.fNode),(.int .i64 x.fTime)]
theorem e50_oc : ∀ x,∀ u ∈ e50 x,u.oneCell' = true:=fun _=>ocB rfl
structure S51 where
 a0 : Int
 a1 : Int
 deriving Inhabited,DecidableEq
structure S67 where
 fAll : List Sapi_Come
 fOwn : List Sapi_Come
 deriving Inhabited,DecidableEq
structure S90 where
 fSlow : Int
 fDelay : Int
 fStore : Int
 fNow : Int
 fAt : List Int
 fSize : List Int
 fEnd : List Int
 deriving Inhabited,DecidableEq
structure S92 where
 fNode : Int
 fLink : Int
 fPort : S90
 deriving Inhabited,DecidableEq
theorem yK : y4r Try.prog 31 8:=y3T (i:=Try.t31) Try.underlying31 rfl rfl
theorem y3V : yy Try.prog 31 0 0:=yp (i:=Try.t22) Try.underlying31 rfl rfl (by decide) rfl
theorem y3W : y3M Try.prog 22:=y2E Try.underlying22 rfl
theorem y4K : yy Try.prog 31 2 2:=yp (i:=Try.t24) Try.underlying31 rfl rfl (by decide) rfl
theorem y4L : y3M Try.prog 24:=y2E Try.underlying24 rfl
theorem y5g : yy Try.prog 31 3 3:=yp (i:=Try.t25) Try.underlying31 rfl rfl (by decide) rfl
theorem y5h : y3M Try.prog 25:=y2E Try.underlying25 rfl
theorem y5i : yy Try.prog 31 4 4:=yp (i:=Try.t26) Try.underlying31 rfl rfl (by decide) rfl
theorem y5j : y3M Try.prog 26:=y2E Try.underlying26 rfl
theorem y2i : elT Try.prog 32 55 1 24:=⟨Try.underlying32,⟨Try.t55,_,rfl,rfl,rfl,rfl,rfl⟩,by decide⟩
theorem y5k : y3M Try.prog 55:=y2E Try.underlying55 rfl
theorem yl : y3M Try.prog 3:=y2E Try.underlying3 rfl
theorem y2W : elT Try.prog 55 59 3 24:=⟨Try.underlying55,⟨Try.t59,_,rfl,rfl,rfl,rfl,rfl⟩,by decide⟩
theorem y5l : y4r Try.prog 59 3:=y3T (i:=Try.t59) Try.underlying59 rfl rfl
theorem y7B : y3a Try.prog 59 (.agg #[(.int .i64 0),(.int .i64 0),(.int .i64 0)]):=y33 (i:=Try.t59) rfl rfl
theorem y7Z : y3u Try.prog 59 3:=y2l (i:=Try.t59) rfl
theorem y2F : yy Try.prog 59 0 0:=yp (i:=Try.t3) Try.underlying59 rfl rfl (by decide) rfl
theorem y6h : y3a Try.prog 3 (.int .i64 0):=y33 (i:=Try.t3) rfl rfl
theorem y5m : KeyT Try.prog 3 (Value.int .i64):=keyT_int Try.underlying3
theorem y4t : yy Try.prog 59 1 1:=yp (i:=Try.t3) Try.underlying59 rfl rfl (by decide) rfl
theorem y5n : yy Try.prog 59 2 2:=yp (i:=Try.t3) Try.underlying59 rfl rfl (by decide) rfl
theorem y7C : elT Try.prog 25 62 4 48:=⟨Try.underlying25,⟨Try.t62,_,rfl,rfl,rfl,rfl,rfl⟩,by decide⟩
theorem aggT_62 : y4r Try.prog 62 4:=y3T (i:=Try.t62) Try.underlying62 rfl rfl
theorem zeroT_62 : y3a Try.prog 62 (.agg #[(.string ⟨#[]⟩),(.string ⟨#[]⟩),(.int .i64 0),(.int .i64 0)]):=y33 (i:=Try.t62) rfl rfl
theorem sizT_62 : y3u Try.prog 62 4:=y2l (i:=Try.t62) rfl
theorem fo_62_0 : yy Try.prog 62 0 0:=yp (i:=Try.t9) Try.underlying62 rfl rfl (by decide) rfl
theorem y6J : y3M Try.prog 9:=y2E Try.underlying9 rfl
theorem elT_22 : elT Try.prog 22 104 4 56:=⟨Try.underlying22,⟨Try.t104,_,rfl,rfl,rfl,rfl,rfl⟩,by decide⟩
theorem fo_104_0 : yy Try.prog 104 0 0:=yp (i:=Try.t9) Try.underlying104 rfl rfl (by decide) rfl
theorem y67 : elT Try.prog 24 64 4 40:=⟨Try.underlying24,⟨Try.t64,_,rfl,rfl,rfl,rfl,rfl⟩,by decide⟩
theorem fo_64_0 : yy Try.prog 64 0 0:=yp (i:=Try.t9) Try.underlying64 rfl rfl (by decide) rfl
theorem fo_62_1 : yy Try.prog 62 1 1:=yp (i:=Try.t9) Try.underlying62 rfl rfl (by decide) rfl
theorem fo_62_2 : yy Try.prog 62 2 2:=yp (i:=Try.t3) Try.underlying62 rfl rfl (by decide) rfl
theorem y6U : yy Try.prog 62 3 3:=yp (i:=Try.t3) Try.underlying62 rfl rfl (by decide) rfl
theorem aggT_64 : y4r Try.prog 64 4:=y3T (i:=Try.t64) Try.underlying64 rfl rfl
theorem zeroT_64 : y3a Try.prog 64 (.agg #[(.string ⟨#[]⟩),(.int .i64 0),(.int .i64 0),(.int .i64 0)]):=y33 (i:=Try.t64) rfl rfl
theorem sizT_64 : y3u Try.prog 64 4:=y2l (i:=Try.t64) rfl
theorem fo_64_1 : yy Try.prog 64 1 1:=yp (i:=Try.t3) Try.underlying64 rfl rfl (by decide) rfl
theorem y6V : yy Try.prog 64 2 2:=yp (i:=Try.t3) Try.underlying64 rfl rfl (by decide) rfl
theorem y6W : yy Try.prog 64 3 3:=yp (i:=Try.t3) Try.underlying64 rfl rfl (by decide) rfl
theorem y2u : elT Try.prog 33 53 3 24:=⟨Try.underlying33,⟨Try.t53,_,rfl,rfl,rfl,rfl,rfl⟩,by decide⟩
theorem y6X : y4r Try.prog 53 3:=y3T (i:=Try.t53) Try.underlying53 rfl rfl
theorem y6u : y3a Try.prog 53 (.agg #[(.int .i64 0),(.int .i64 0),(.int .i64 0)]):=y33 (i:=Try.t53) rfl rfl
theorem y6Y : y3u Try.prog 53 3:=y2l (i:=Try.t53) rfl
theorem y3X : yy Try.prog 53 0 0:=yp (i:=Try.t3) Try.underlying53 rfl rfl (by decide) rfl
theorem y4M : yy Try.prog 53 1 1:=yp (i:=Try.t3) Try.underlying53 rfl rfl (by decide) rfl
theorem y5o : yy Try.prog 53 2 2:=yp (i:=Try.t3) Try.underlying53 rfl rfl (by decide) rfl
theorem y68 : elT Try.prog 56 3 1 8:=⟨Try.underlying56,⟨Try.t3,_,rfl,rfl,rfl,rfl,rfl⟩,by decide⟩
theorem y6v : y3a Try.prog 31 (.agg #[(.slice none 0 0),(.slice none 0 0),(.slice none 0 0),(.slice none 0 0),(.slice none 0 0),(.slice none 0 0),(.slice none 0 0),(.slice none 0 0)]):=y33 (i:=Try.t31) rfl rfl
theorem elT_26 : elT Try.prog 26 109 7 104:=⟨Try.underlying26,⟨Try.t109,_,rfl,rfl,rfl,rfl,rfl⟩,by decide⟩
theorem y6Z : y3u Try.prog 31 8:=y2l (i:=Try.t31) rfl
theorem y80 : yy Try.prog 81 2 9:=yp (i:=Try.t33) Try.underlying81 rfl rfl (by decide) rfl
theorem y81 : y3M Try.prog 33:=y2E Try.underlying33 rfl
theorem fo_81_1 : yy Try.prog 81 1 8:=yp (i:=Try.t32) Try.underlying81 rfl rfl (by decide) rfl
theorem oneT_32 : y3M Try.prog 32:=y2E Try.underlying32 rfl
theorem y70 : yy Try.prog 81 4 11:=yp (i:=Try.t79) Try.underlying81 rfl rfl (by decide) rfl
theorem y7D (p : Option Addr) : ∀ w,(method (Try.prog.types.size + Made.depth) 111 (.pointer p) "Push").run Try.prog w = .ok (92,.pointer p) w:=fun _=>by kernel_rfl
theorem y4N : y3M Try.prog 79:=y2E Try.underlying79 rfl
theorem y42 : elT Try.prog 79 113 7 56:=⟨Try.underlying79,⟨Try.t113,_,rfl,rfl,rfl,rfl,rfl⟩,by decide⟩
theorem y82 : y3u Try.prog 79 1:=y2l (i:=Try.t79) rfl
theorem y6o {A : Addr} {v : Value} : ∀ w : World,w.cell? A = some v → (method (Try.prog.types.size + Made.depth) 111 (.pointer (some A)) "Len").run Try.prog w = .ok (86,v) w:=fun w h=>y5I (i:=Try.t111) rfl rfl rfl rfl Try.underlying111 y4N h
theorem y4S {A : Addr} {v : Value} : ∀ w : World,w.cell? A = some v → (method (Try.prog.types.size + Made.depth) 111 (.pointer (some A)) "Less").run Try.prog w = .ok (87,v) w:=fun w h=>y5I (i:=Try.t111) rfl rfl rfl rfl Try.underlying111 y4N h
theorem zam : y4r Try.prog 113 7:=y3T (i:=Try.t113) Try.underlying113 rfl rfl
theorem y5J : yy Try.prog 113 0 0:=yp (i:=Try.t3) Try.underlying113 rfl rfl (by decide) rfl
theorem y7E : yy Try.prog 113 1 1:=yp (i:=Try.t3) Try.underlying113 rfl rfl (by decide) rfl
theorem y7F : yy Try.prog 113 2 2:=yp (i:=Try.t3) Try.underlying113 rfl rfl (by decide) rfl
theorem y4u : yy Try.prog 113 3 3:=yp (i:=Try.t3) Try.underlying113 rfl rfl (by decide) rfl
theorem y4T {A : Addr} {v : Value} : ∀ w : World,w.cell? A = some v → (method (Try.prog.types.size + Made.depth) 111 (.pointer (some A)) "Swap").run Try.prog w = .ok (88,v) w:=fun w h=>y5I (i:=Try.t111) rfl rfl rfl rfl Try.underlying111 y4N h
theorem zfh : y3u Try.prog 113 7:=y2l (i:=Try.t113) rfl
theorem y7Q (p : Option Addr) : ∀ w,(method (Try.prog.types.size + Made.depth) 111 (.pointer p) "Pop").run Try.prog w = .ok (91,.pointer p) w:=fun _=>by kernel_rfl
theorem zlE : y3a Try.prog 113 (.agg #[(.int .i64 0),(.int .i64 0),(.int .i64 0),(.int .i64 0),(.int .i64 0),(.int .i64 0),(.int .i64 0)]):=y33 (i:=Try.t113) rfl rfl
theorem y4v : yy Try.prog 113 4 4:=yp (i:=Try.t59) Try.underlying113 rfl rfl (by decide) rfl
theorem zrn : y3a Try.prog 136 (.agg #[(.int .i64 0),(.int .i64 0)]):=y33 (i:=Try.t136) rfl rfl
theorem zro : y3u Try.prog 136 2:=y2l (i:=Try.t136) rfl
theorem y71 : yy Try.prog 81 3 10:=yp (i:=Try.t77) Try.underlying81 rfl rfl (by decide) rfl
theorem y72 : y3M Try.prog 77:=y2E Try.underlying77 rfl
theorem zhj : y4r Try.prog 136 2:=y3T (i:=Try.t136) Try.underlying136 rfl rfl
theorem zlF : y3a Try.prog 116 (.pointer none):=y33 (i:=Try.t116) rfl rfl
theorem zrp : EqT Try.prog 136 y1I:=⟨fun u v w=>by
 have i136_10000:=fun (w : World) (a b : Array Value)=>run_equalIn_agg (P:=Try.prog) w 9999 136 a b (by simp [Program.fieldsOf,Try.underlying136]) (by kernel_rfl)
 have i3_9999:=fun (w : World) (a b : Int)=>run_equalIn_int (P:=Try.prog) w 9998 3 .i64 .i64 a b Try.underlying3
 rw [i136_10000]
 simp [Program.fieldsOf,Op.eqFields,part,y1I,i136_10000,Try.underlying136,i3_9999]
 rcases u with ⟨u1,u2⟩
 rcases v with ⟨v1,v2⟩
 by_cases h1 : u1 = v1 <;> by_cases h2 : u2 = v2 <;> simp [h1,h2],by kernel_rfl⟩
theorem zhk : KeyT Try.prog 136 (fun x=>Value.agg (y1I x).toArray):=keyT_agg Try.underlying136 (fun _ _=>rfl) (fun b k w=>by
 have c3_9999:=fun (w : World) (a : Int)=>MapKept.run_checkKey (P:=Try.prog) (w:=w) (kt:=3) (k:=.int .i64 a) Try.underlying3 (by simp [MapKept.IsKey]) b 9998
 have ck : ∀ (w : World) (u0 : Int) (u1 : Int),(Instr.checkKey b 10000 136 (.agg #[.int .i64 u0,.int .i64 u1])).run Try.prog w = .ok () w:=fun w u0 u1=>by
  rw [show (10000 : Nat) = 9999 + 1 from rfl,Instr.checkKey]
  simp [run_underlying Try.underlying136,c3_9999,part]
 exact ck w k.fNode k.fLink)
 (fun u v w=>zrp.eq u v w)
 (fun k=>by simp [Instr.sameBits,y1I])
theorem y5p : yy Try.prog 81 0 0:=yp (i:=Try.t31) Try.underlying81 rfl rfl (by decide) rfl
theorem y5K : yy Try.prog 143 0 0:=yp (i:=Try.t140) Try.underlying143 rfl rfl (by decide) rfl
theorem y7G : yy Try.prog 140 0 0:=yp (i:=Try.t3) Try.underlying140 rfl rfl (by decide) rfl
theorem y6w : yy Try.prog 143 1 3:=yp (i:=Try.t3) Try.underlying143 rfl rfl (by decide) rfl
theorem y5q : y3u Try.prog 3 1:=y2l (i:=Try.t3) rfl
theorem y4U : yy Try.prog 143 3 5:=yp (i:=Try.t141) Try.underlying143 rfl rfl (by decide) rfl
theorem zhl : y3M Try.prog 141:=y2E Try.underlying141 rfl
theorem y7H : yy Try.prog 146 1 1:=yp (i:=Try.t3) Try.underlying146 rfl rfl (by decide) rfl
theorem z79 : elT Try.prog 141 146 2 16:=⟨Try.underlying141,⟨Try.t146,_,rfl,rfl,rfl,rfl,rfl⟩,by decide⟩
theorem zan : y4r Try.prog 146 2:=y3T (i:=Try.t146) Try.underlying146 rfl rfl
theorem zhm : y3a Try.prog 146 (.agg #[(.int .i64 0),(.int .i64 0)]):=y33 (i:=Try.t146) rfl rfl
theorem zhn : y3u Try.prog 146 2:=y2l (i:=Try.t146) rfl
theorem zlG : y3u Try.prog 141 1:=y2l (i:=Try.t141) rfl
theorem fo_146_0 : yy Try.prog 146 0 0:=yp (i:=Try.t3) Try.underlying146 rfl rfl (by decide) rfl
theorem fo_140_2 : yy Try.prog 140 2 2:=yp (i:=Try.t3) Try.underlying140 rfl rfl (by decide) rfl
theorem fo_140_1 : yy Try.prog 140 1 1:=yp (i:=Try.t3) Try.underlying140 rfl rfl (by decide) rfl
theorem y5L : yy Try.prog 143 2 4:=yp (i:=Try.t3) Try.underlying143 rfl rfl (by decide) rfl
theorem y73 : yy Try.prog 81 6 13:=yp (i:=Try.t36) Try.underlying81 rfl rfl (by decide) rfl
theorem y6i : y3M Try.prog 36:=y2E Try.underlying36 rfl
theorem y19 : elT Try.prog 36 50 3 24:=⟨Try.underlying36,⟨Try.t50,_,rfl,rfl,rfl,rfl,rfl⟩,by decide⟩
theorem y83 : y3u Try.prog 36 1:=y2l (i:=Try.t36) rfl
theorem y74 : yy Try.prog 81 5 12:=yp (i:=Try.t36) Try.underlying81 rfl rfl (by decide) rfl
theorem y84 : yy Try.prog 50 2 2:=yp (i:=Try.t3) Try.underlying50 rfl rfl (by decide) rfl
theorem y85 : yy Try.prog 50 0 0:=yp (i:=Try.t3) Try.underlying50 rfl rfl (by decide) rfl
theorem y86 : yy Try.prog 50 1 1:=yp (i:=Try.t3) Try.underlying50 rfl rfl (by decide) rfl
theorem y1Z : y4r Try.prog 50 3:=y3T (i:=Try.t50) Try.underlying50 rfl rfl
theorem y48 : y3u Try.prog 50 3:=y2l (i:=Try.t50) rfl
theorem eqT_50 : EqT Try.prog 50 e50:=⟨fun u v w=>by
 have i50_10000:=fun (w : World) (a b : Array Value)=>run_equalIn_agg (P:=Try.prog) w 9999 50 a b (by simp [Program.fieldsOf,Try.underlying50]) (by kernel_rfl)
 have i3_9999:=fun (w : World) (a b : Int)=>run_equalIn_int (P:=Try.prog) w 9998 3 .i64 .i64 a b Try.underlying3
 rw [i50_10000]
 simp [Program.fieldsOf,Op.eqFields,part,e50,i50_10000,Try.underlying50,i3_9999]
 rcases u with ⟨u1,u2,u3⟩
 rcases v with ⟨v1,v2,v3⟩
 by_cases h1 : u1 = v1 <;> by_cases h2 : u2 = v2 <;> by_cases h3 : u3 = v3 <;> simp [h1,h2,h3],by kernel_rfl⟩
theorem y3Y : y3u Try.prog 55 1:=y2l (i:=Try.t55) rfl
def y2n (z2A : List (List Sapi_Hop)) (z7a : Option Bool) : Nat → Int → Option Bool
 | 0,_=>none
 | zho + 1,z3G=>if decide (z3G < ((z2A.length : Nat) : Int)) then chk ((0 : Int) ≤ z3G ∧ z3G < ((z2A.length : Nat) : Int)) (if decide ((((nth z2A z3G).length : Nat) : Int) > 40) then some false else y2n z2A z7a zho (i64 (z3G + 1))) else z7a
theorem y5W {n : Nat} {z2A : List (List Sapi_Hop)} {z7a : Option Bool} {z3G : Int} {r : Bool} (h : y2n z2A z7a n z3G = some r) : ∃ m,n = m + 1:=by
 cases n with
 | zero=>cases h
 | succ m=>exact ⟨m,rfl⟩
def y43 (c_75 : Sapi_Config) (z2A : List (List Sapi_Hop)) (z4B : List zSt) : Option Bool :=
 if (((((decide (((c_75.fModules.length : Nat) : Int) > 8)) || (decide (((c_75.fSwitches.length : Nat) : Int) > 8))) || (decide (((c_75.fLinks.length : Nat) : Int) > 20))) || (decide (((c_75.fVLs.length : Nat) : Int) > 20))) || (decide (((z2A.length : Nat) : Int) > 20))) || ((decide (((z4B.length : Nat) : Int) > 40)) && (decide (((z4B.length : Nat) : Int) ≤ 4000))) then some false else jp0 (some true) fun z7a=>y2n z2A z7a yP 0
set_option maxRecDepth 20000 in
theorem y7R (Z : Zp) (ao_76 : Option Addr) (cap_77 : Nat) (ao_79 : Option Addr) (cap_80 : Nat) (ao_82 : Option Addr) (cap_83 : Nat) (ao_85 : Option Addr) (cap_86 : Nat) (ao_88 : Option Addr) (cap_89 : Nat) (ao_91 : Option Addr) (cap_92 : Nat) (ao_94 : Option Addr) (cap_95 : Nat) (ao_97 : Option Addr) (cap_98 : Nat) (zcA : Option Addr) (zcB : Nat) (zfi : Option Addr) (zfj : Nat) (c_75 : Sapi_Config) (z2A : List (List Sapi_Hop)) (z4B : List zSt) (r : Bool)
  (h : y43 c_75 z2A z4B = some r) (w₀ : World) (hz : PZ [] w₀ Z)
  (hs_78 : ZS Z 4 (y2h Z) ao_76 cap_77 c_75.fModules)
  (hs_81 : ZS Z 4 (y2x Z) ao_79 cap_80 c_75.fChannels)
  (hs_84 : ZS Z 4 (fun r x=>r = e64 x) ao_82 cap_83 c_75.fSwitches)
  (hs_87 : ZS Z 4 (fun r x=>r = e62 x) ao_85 cap_86 c_75.fLinks)
  (hs_90 : ZS Z 7 (y2p Z) ao_88 cap_89 c_75.fVLs)
  (hs_93 : ZS Z 5 (fun r x=>r = y2K x) ao_91 cap_92 c_75.fHealth)
  (hs_96 : ZS Z 3 (y2y Z) ao_94 cap_95 c_75.fCauses)
  (hs_99 : ZS Z 4 (fun r x=>r = y2L x) ao_97 cap_98 c_75.fVersions)
  (zrq : ZS Z 1 (p55 Z) zcA zcB z2A)
  (zAr : ZS Z 3 (fun r x=>r = e53 x) zfi zfj z4B) :
  Calls Try.prog 10 #[(.agg #[(.slice ao_76 c_75.fModules.length cap_77),(.slice ao_79 c_75.fChannels.length cap_80),(.slice ao_82 c_75.fSwitches.length cap_83),(.slice ao_85 c_75.fLinks.length cap_86),(.slice ao_88 c_75.fVLs.length cap_89),(.slice ao_91 c_75.fHealth.length cap_92),(.slice ao_94 c_75.fCauses.length cap_95),(.slice ao_97 c_75.fVersions.length cap_98)]),(.slice zcA z2A.length zcB),(.slice zfi z4B.length zfj)] w₀ fun e w'=>e = .returned (.bool r) ∧ Hp [] w₀ w' []:=by
 unfold y43 at h
 refine Calls.yo (vs:=[(.agg #[(.slice ao_76 c_75.fModules.length cap_77),(.slice ao_79 c_75.fChannels.length cap_80),(.slice ao_82 c_75.fSwitches.length cap_83),(.slice ao_85 c_75.fLinks.length cap_86),(.slice ao_88 c_75.fVLs.length cap_89),(.slice ao_91 c_75.fHealth.length cap_92),(.slice ao_94 c_75.fCauses.length cap_95),(.slice ao_97 c_75.fVersions.length cap_98)]),(.slice zcA z2A.length zcB),(.slice zfi z4B.length zfj)]) (pre:=[]) (env:=[(0,(.agg #[(.slice ao_76 c_75.fModules.length cap_77),(.slice ao_79 c_75.fChannels.length cap_80),(.slice ao_82 c_75.fSwitches.length cap_83),(.slice ao_85 c_75.fLinks.length cap_86),(.slice ao_88 c_75.fVLs.length cap_89),(.slice ao_91 c_75.fHealth.length cap_92),(.slice ao_94 c_75.fCauses.length cap_95),(.slice ao_97 c_75.fVersions.length cap_98)])),(1,(.slice zcA z2A.length zcB)),(2,(.slice zfi z4B.length zfj))]) Try.func10 rfl Try.ntmps10 rfl (Hp.nil w₀ _) rfl ?_
 refine WC.b (WC.a ?_)
 refine WL.new (dd:=3) rfl rfl rfl (y25 (cs:=[(.slice ao_76 c_75.fModules.length cap_77),(.slice ao_79 c_75.fChannels.length cap_80),(.slice ao_82 c_75.fSwitches.length cap_83),(.slice ao_85 c_75.fLinks.length cap_86),(.slice ao_88 c_75.fVLs.length cap_89),(.slice ao_91 c_75.fHealth.length cap_92),(.slice ao_94 c_75.fCauses.length cap_95),(.slice ao_97 c_75.fVersions.length cap_98)]) rfl rfl) ?_
 intro zAs _
 refine WL.pu rfl (WL.nil (WX.a (WC.b (WC.b (WC.a ?_)))))
 refine WL.a (d:=9) rfl rfl rfl (ya y3V rfl rfl) ?_
 refine WL.a (d:=10) rfl rfl rfl (yb y3W rfl (yd .here rfl)) ?_
 refine WL.a (d:=11) rfl rfl rfl (yz Try.underlying22 rfl) ?_
 refine WL.pu rfl (WL.pu rfl ?_)
 refine WL.seg false 4 13 (B:=(decide (((c_75.fModules.length : Nat) : Int) > 8)) || (decide (((c_75.fSwitches.length : Nat) : Int) > 8))) rfl rfl rfl rfl rfl rfl (fun h=>(y20 h).symm) (fun _ zrr=>?_) ?_
 ·skip
  refine WL.a (d:=14) rfl rfl rfl (ya y4K rfl rfl) ?_
  refine WL.a (d:=15) rfl rfl rfl (yb y4L rfl (yd .here rfl)) ?_
  refine WL.a (d:=16) rfl rfl rfl (yz Try.underlying24 rfl) ?_
  refine WL.pu rfl (WL.pu rfl ?_)
  exact WL.yi (y21 zrr) rfl rfl .all
 refine WL.pu rfl ?_
 refine WL.seg false 4 19 (B:=((decide (((c_75.fModules.length : Nat) : Int) > 8)) || (decide (((c_75.fSwitches.length : Nat) : Int) > 8))) || (decide (((c_75.fLinks.length : Nat) : Int) > 20))) rfl rfl rfl rfl rfl rfl (fun h=>(y20 h).symm) (fun _ zrs=>?_) ?_
 ·skip
  refine WL.a (d:=20) rfl rfl rfl (ya y5g rfl rfl) ?_
  refine WL.a (d:=21) rfl rfl rfl (yb y5h rfl (yd .here rfl)) ?_
  refine WL.a (d:=22) rfl rfl rfl (yz Try.underlying25 rfl) ?_
  refine WL.pu rfl (WL.pu rfl ?_)
  exact WL.yi (y21 zrs) rfl rfl .all
 refine WL.pu rfl ?_
 refine WL.seg false 4 25 (B:=(((decide (((c_75.fModules.length : Nat) : Int) > 8)) || (decide (((c_75.fSwitches.length : Nat) : Int) > 8))) || (decide (((c_75.fLinks.length : Nat) : Int) > 20))) || (decide (((c_75.fVLs.length : Nat) : Int) > 20))) rfl rfl rfl rfl rfl rfl (fun h=>(y20 h).symm) (fun _ zrt=>?_) ?_
 ·skip
  refine WL.a (d:=26) rfl rfl rfl (ya y5i rfl rfl) ?_
  refine WL.a (d:=27) rfl rfl rfl (yb y5j rfl (yd .here rfl)) ?_
  refine WL.a (d:=28) rfl rfl rfl (yz Try.underlying26 rfl) ?_
  refine WL.pu rfl (WL.pu rfl ?_)
  exact WL.yi (y21 zrt) rfl rfl .all
 refine WL.pu rfl ?_
 refine WL.seg false 3 31 (B:=((((decide (((c_75.fModules.length : Nat) : Int) > 8)) || (decide (((c_75.fSwitches.length : Nat) : Int) > 8))) || (decide (((c_75.fLinks.length : Nat) : Int) > 20))) || (decide (((c_75.fVLs.length : Nat) : Int) > 20))) || (decide (((z2A.length : Nat) : Int) > 20))) rfl rfl rfl rfl rfl rfl (fun h=>(y20 h).symm) (fun _ zru=>?_) ?_
 ·skip
  refine WL.pu rfl ?_
  refine WL.a (d:=33) rfl rfl rfl (yz Try.underlying32 rfl) ?_
  refine WL.pu rfl (WL.pu rfl ?_)
  exact WL.yi (y21 zru) rfl rfl .all
 refine WL.pu rfl ?_
 refine WL.seg false 8 36 (B:=(((((decide (((c_75.fModules.length : Nat) : Int) > 8)) || (decide (((c_75.fSwitches.length : Nat) : Int) > 8))) || (decide (((c_75.fLinks.length : Nat) : Int) > 20))) || (decide (((c_75.fVLs.length : Nat) : Int) > 20))) || (decide (((z2A.length : Nat) : Int) > 20))) || ((decide (((z4B.length : Nat) : Int) > 40)) && (decide (((z4B.length : Nat) : Int) ≤ 4000)))) rfl rfl rfl rfl rfl rfl (fun h=>(y20 h).symm) (fun _ zrv=>?_) ?_
 ·skip
  refine WL.pu rfl ?_
  refine WL.a (d:=38) rfl rfl rfl (yz Try.underlying33 rfl) ?_
  refine WL.pu rfl (WL.pu rfl ?_)
  refine WL.seg true 3 40 (B:=(decide (((z4B.length : Nat) : Int) > 40)) && (decide (((z4B.length : Nat) : Int) ≤ 4000))) rfl rfl rfl rfl rfl rfl (fun h=>(y1c h).symm) (fun _ zrw=>?_) ?_
  ·skip
   refine WL.pu rfl ?_
   refine WL.a (d:=42) rfl rfl rfl (yz Try.underlying33 rfl) ?_
   refine WL.pu rfl (WL.pu rfl ?_)
   exact WL.yi (y1d zrw) rfl rfl .all
  refine WL.pu rfl ?_
  exact WL.yi (y21 zrv) rfl rfl .all
 refine WL.nil (WX.a ?_)
 refine WC.cond rfl (fun zhp=>?_) (fun zhp=>?_)
 ·replace h:=yg h zhp
  refine WC.b (WC.a (WL.pu rfl (WL.nil (WX.a (WC.ret (WX.yn ?_))))))
  obtain rfl:=Option.some.inj h
  refine WX.yj Try.results10 (.tmp rfl .nil) (fun w hw=>?_)
  exact ⟨yL rfl,hw.sub .nil⟩
 ·replace h:=yh h zhp
  refine WC.skip (WX.a ?_)
  obtain ⟨z7a,zrx,h⟩:=y2r h
  refine WC.y2b ((z7a = some r)) ([]) ([]) ?_ ?_
  ·skip
   refine WC.b (WC.a (WL.pu rfl ?_))
   refine WL.a (d:=47) rfl rfl rfl (yz Try.underlying32 rfl) ?_
   refine WL.pu rfl (WL.nil (WX.a (WC.block ?_)))
   refine WC.y3N (fun (zao : Nat) (z3G : Int)=>(y2n z2A z7a zao z3G = some r)) (fun (zao : Nat) (z3G : Int)=>[(46,(.slice zcA z2A.length zcB)),(47,(.int .i64 ((z2A.length : Nat) : Int))),(48,(.int .i64 z3G))]) (fun (zao : Nat) (z3G : Int)=>[]) (fun (zao : Nat) (z3G : Int)=>zao) ⟨yP,0⟩ h (.cons rfl (.cons rfl (.cons rfl .nil))) .nil ?_
   rintro zao z3G h
   obtain ⟨zho,rfl⟩:=y5W h
   rw [y2n] at h
   refine WC.b (WC.a (WL.pu rfl (WL.nil (WX.a (WC.b ?_)))))
   refine WC.cond rfl (fun zhq=>?_) (fun zhq=>?_)
   ·replace h:=yg h zhq
    refine WC.skip (WX.a (WC.b (WC.block (WC.b ?_))))
    obtain ⟨zry,h⟩:=ye h
    refine WC.a ?_
    refine WL.znth (dd:=50) rfl rfl (Z:=Z) (Pr:=(p55 Z)) y2i rfl rfl zrq zry ?_
    rintro zAt zAu zrz zAv ⟨zAw,zAx,rfl,zAy⟩
    refine WL.a (d:=51) rfl rfl rfl (yb y5k rfl (rd_z hz.pv zrz rfl)) ?_
    refine WL.pu rfl (WL.nil (WX.a (WC.b (WC.a (WL.pu rfl ?_)))))
    refine WL.a (d:=53) rfl rfl rfl (yz Try.underlying55 rfl) ?_
    refine WL.pu rfl (WL.nil (WX.a ?_))
    refine WC.cond rfl (fun zhr=>?_) (fun zhr=>?_)
    ·replace h:=yg h zhr
     refine WC.b (WC.a (WL.pu rfl (WL.nil (WX.a (WC.ret (WX.yG (WX.yn (WX.yn (WX.yG (WX.yn ?_))))))))))
     obtain rfl:=Option.some.inj h
     refine WX.yj Try.results10 (.tmp rfl .nil) (fun w hw=>?_)
     exact ⟨yL rfl,hw.sub .nil⟩
    ·replace h:=yh h zhr
     refine WC.skip (WX.yf (WX.a (WC.a (WL.pu rfl (WL.pu rfl (WL.nil ?_))))))
     exact WX.round (G:=Nat × Int) ⟨zho,(i64 (z3G + 1))⟩ h (Nat.lt_succ_self _) (.cons rfl (.cons rfl (.cons rfl .nil))) .nil
   ·replace h:=yh h zhq
    refine WC.exit (WX.yk (WX.yk (WX.yC ?_)))
    exact WX.mid (G:=Unit) () h .nil .nil
  ·rintro  h
   replace h:=zrx.symm.trans h
   refine WC.b (WC.a (WL.pu rfl (WL.nil (WX.a (WC.ret ?_)))))
   obtain rfl:=Option.some.inj h
   refine WX.yj Try.results10 (.tmp rfl .nil) (fun w hw=>?_)
   exact ⟨yL rfl,hw.sub .nil⟩
def y2f (zV : Sapi_Config) : Option Int :=
 some (i64 (((zV.fModules.length : Nat) : Int) + ((zV.fSwitches.length : Nat) : Int)))
set_option maxRecDepth 20000 in
theorem y4g (Z : Zp) (zcC : Option Addr) (zcD : Nat) (zcE : Option Addr) (zcF : Nat) (zcG : Option Addr) (zcH : Nat) (zcI : Option Addr) (zcJ : Nat) (zcK : Option Addr) (zcL : Nat) (zcM : Option Addr) (zcN : Nat) (zcO : Option Addr) (zcP : Nat) (zcQ : Option Addr) (zcR : Nat) (zV : Sapi_Config) (r : Int)
  (h : y2f zV = some r) (w₀ : World) (hz : PZ [] w₀ Z)
  (zAz : ZS Z 4 (y2h Z) zcC zcD zV.fModules)
  (zAA : ZS Z 4 (y2x Z) zcE zcF zV.fChannels)
  (zAB : ZS Z 4 (fun r x=>r = e64 x) zcG zcH zV.fSwitches)
  (zAC : ZS Z 4 (fun r x=>r = e62 x) zcI zcJ zV.fLinks)
  (zAD : ZS Z 7 (y2p Z) zcK zcL zV.fVLs)
  (zAE : ZS Z 5 (fun r x=>r = y2K x) zcM zcN zV.fHealth)
  (zAF : ZS Z 3 (y2y Z) zcO zcP zV.fCauses)
  (zAG : ZS Z 4 (fun r x=>r = y2L x) zcQ zcR zV.fVersions) :
  Calls Try.prog 17 #[(.agg #[(.slice zcC zV.fModules.length zcD),(.slice zcE zV.fChannels.length zcF),(.slice zcG zV.fSwitches.length zcH),(.slice zcI zV.fLinks.length zcJ),(.slice zcK zV.fVLs.length zcL),(.slice zcM zV.fHealth.length zcN),(.slice zcO zV.fCauses.length zcP),(.slice zcQ zV.fVersions.length zcR)])] w₀ fun e w'=>e = .returned (.int .i64 r) ∧ Hp [] w₀ w' []:=by
 unfold y2f at h
 refine Calls.yo (vs:=[(.agg #[(.slice zcC zV.fModules.length zcD),(.slice zcE zV.fChannels.length zcF),(.slice zcG zV.fSwitches.length zcH),(.slice zcI zV.fLinks.length zcJ),(.slice zcK zV.fVLs.length zcL),(.slice zcM zV.fHealth.length zcN),(.slice zcO zV.fCauses.length zcP),(.slice zcQ zV.fVersions.length zcR)])]) (pre:=[]) (env:=[(0,(.agg #[(.slice zcC zV.fModules.length zcD),(.slice zcE zV.fChannels.length zcF),(.slice zcG zV.fSwitches.length zcH),(.slice zcI zV.fLinks.length zcJ),(.slice zcK zV.fVLs.length zcL),(.slice zcM zV.fHealth.length zcN),(.slice zcO zV.fCauses.length zcP),(.slice zcQ zV.fVersions.length zcR)]))]) Try.func17 rfl Try.ntmps17 rfl (Hp.nil w₀ _) rfl ?_
 refine WC.b (WC.a ?_)
 refine WL.new (dd:=1) rfl rfl rfl (y25 (cs:=[(.slice zcC zV.fModules.length zcD),(.slice zcE zV.fChannels.length zcF),(.slice zcG zV.fSwitches.length zcH),(.slice zcI zV.fLinks.length zcJ),(.slice zcK zV.fVLs.length zcL),(.slice zcM zV.fHealth.length zcN),(.slice zcO zV.fCauses.length zcP),(.slice zcQ zV.fVersions.length zcR)]) rfl rfl) ?_
 intro zAH _
 refine WL.pu rfl (WL.nil (WX.a (WC.b (WC.a ?_))))
 refine WL.a (d:=3) rfl rfl rfl (ya y3V rfl rfl) ?_
 refine WL.a (d:=4) rfl rfl rfl (yb y3W rfl (yd .here rfl)) ?_
 refine WL.a (d:=5) rfl rfl rfl (yz Try.underlying22 rfl) ?_
 refine WL.a (d:=6) rfl rfl rfl (ya y4K rfl rfl) ?_
 refine WL.a (d:=7) rfl rfl rfl (yb y4L rfl (yd .here rfl)) ?_
 refine WL.a (d:=8) rfl rfl rfl (yz Try.underlying24 rfl) ?_
 refine WL.pu rfl (WL.pu rfl (WL.nil (WX.a (WC.ret ?_))))
 obtain rfl:=Option.some.inj h
 refine WX.yj Try.results17 (.tmp rfl .nil) (fun w hw=>?_)
 exact ⟨yL rfl,hw.sub .nil⟩
def y2G (zO : Sapi_Config) (z3R : Int) : Option ByteArray :=
 (if decide (z3R < 0) then some true else (y2f zO).bind fun zlH=>some (decide (z3R ≥ zlH))).bind fun zhs=>if zhs then some ⟨#[]⟩ else if decide (z3R < ((zO.fModules.length : Nat) : Int)) then chk ((0 : Int) ≤ z3R ∧ z3R < ((zO.fModules.length : Nat) : Int)) (some ((nth zO.fModules z3R).fName)) else chk ((0 : Int) ≤ (i64 (z3R - ((zO.fModules.length : Nat) : Int))) ∧ (i64 (z3R - ((zO.fModules.length : Nat) : Int))) < ((zO.fSwitches.length : Nat) : Int)) (some ((nth zO.fSwitches (i64 (z3R - ((zO.fModules.length : Nat) : Int)))).fName))
set_option maxRecDepth 20000 in
theorem y5r (Z : Zp) (zcS : Option Addr) (zcT : Nat) (zcU : Option Addr) (zcV : Nat) (zcW : Option Addr) (zcX : Nat) (zcY : Option Addr) (zcZ : Nat) (zd0 : Option Addr) (zd1 : Nat) (zd2 : Option Addr) (zd3 : Nat) (zd4 : Option Addr) (zd5 : Nat) (zd6 : Option Addr) (zd7 : Nat) (zO : Sapi_Config) (z3R : Int) (r : ByteArray)
  (h : y2G zO z3R = some r) (w₀ : World) (hz : PZ [] w₀ Z)
  (zlI : ZS Z 4 (y2h Z) zcS zcT zO.fModules)
  (zrA : ZS Z 4 (y2x Z) zcU zcV zO.fChannels)
  (zlJ : ZS Z 4 (fun r x=>r = e64 x) zcW zcX zO.fSwitches)
  (zrB : ZS Z 4 (fun r x=>r = e62 x) zcY zcZ zO.fLinks)
  (zrC : ZS Z 7 (y2p Z) zd0 zd1 zO.fVLs)
  (zrD : ZS Z 5 (fun r x=>r = y2K x) zd2 zd3 zO.fHealth)
  (zrE : ZS Z 3 (y2y Z) zd4 zd5 zO.fCauses)
  (zrF : ZS Z 4 (fun r x=>r = y2L x) zd6 zd7 zO.fVersions) :
  Calls Try.prog 18 #[(.agg #[(.slice zcS zO.fModules.length zcT),(.slice zcU zO.fChannels.length zcV),(.slice zcW zO.fSwitches.length zcX),(.slice zcY zO.fLinks.length zcZ),(.slice zd0 zO.fVLs.length zd1),(.slice zd2 zO.fHealth.length zd3),(.slice zd4 zO.fCauses.length zd5),(.slice zd6 zO.fVersions.length zd7)]),(.int .i64 z3R)] w₀ fun e w'=>e = .returned (.string r) ∧ Hp [] w₀ w' []:=by
 unfold y2G at h
 refine Calls.yo (vs:=[(.agg #[(.slice zcS zO.fModules.length zcT),(.slice zcU zO.fChannels.length zcV),(.slice zcW zO.fSwitches.length zcX),(.slice zcY zO.fLinks.length zcZ),(.slice zd0 zO.fVLs.length zd1),(.slice zd2 zO.fHealth.length zd3),(.slice zd4 zO.fCauses.length zd5),(.slice zd6 zO.fVersions.length zd7)]),(.int .i64 z3R)]) (pre:=[]) (env:=[(0,(.agg #[(.slice zcS zO.fModules.length zcT),(.slice zcU zO.fChannels.length zcV),(.slice zcW zO.fSwitches.length zcX),(.slice zcY zO.fLinks.length zcZ),(.slice zd0 zO.fVLs.length zd1),(.slice zd2 zO.fHealth.length zd3),(.slice zd4 zO.fCauses.length zd5),(.slice zd6 zO.fVersions.length zd7)])),(1,(.int .i64 z3R))]) Try.func18 rfl Try.ntmps18 rfl (Hp.nil w₀ _) rfl ?_
 refine WC.b (WC.a ?_)
 refine WL.new (dd:=2) rfl rfl rfl (y25 (cs:=[(.slice zcS zO.fModules.length zcT),(.slice zcU zO.fChannels.length zcV),(.slice zcW zO.fSwitches.length zcX),(.slice zcY zO.fLinks.length zcZ),(.slice zd0 zO.fVLs.length zd1),(.slice zd2 zO.fHealth.length zd3),(.slice zd4 zO.fCauses.length zd5),(.slice zd6 zO.fVersions.length zd7)]) rfl rfl) ?_
 intro zAI _
 refine WL.pu rfl (WL.nil (WX.a (WC.b (WC.a ?_))))
 refine WL.a (d:=6) rfl rfl rfl (ya y3V rfl rfl) ?_
 refine WL.a (d:=7) rfl rfl rfl (yb y3W rfl (yd .here rfl)) ?_
 refine WL.a (d:=8) rfl rfl rfl (yz Try.underlying22 rfl) ?_
 refine WL.pu rfl (WL.nil (WX.a (WC.block (WC.b ?_))))
 obtain ⟨zhs,zlK,h⟩:=z8 h
 refine WC.a (WL.pu rfl (WL.pu rfl (WL.pu rfl ?_)))
 refine WL.seg false 4 20 (B:=zhs) rfl rfl rfl rfl rfl rfl (fun h=>(Option.some.inj (yg zlK h)).symm) (fun _ zrG=>?_) ?_
 ·skip
  have zd8:=yh zlK zrG
  obtain ⟨zlH,zrH,zd8⟩:=z8 zd8
  replace zd8:=Option.some.inj zd8
  refine WL.pu rfl ?_
  refine WL.a (d:=22) rfl rfl rfl (yu yK rfl (yJ .here) rfl) ?_
  refine WL.b (dd:=23) rfl rfl rfl (zt (l:=[.tmp 22]) Try.call17 (.cons rfl .nil)) .nil (cc hz .nil fun w pz ho=>y4g _ _ _ _ _ _ _ _ _ _ _ _ _ _ _ _ _ _ _ zrH w pz zlI zrA zlJ zrB zrC zrD zrE zrF) ?_
  refine WL.pu rfl (WL.pu rfl ?_)
  exact WL.yi zd8 rfl rfl .all
 refine WL.pu rfl (WL.nil (WX.a ?_))
 refine WC.cond rfl (fun zht=>?_) (fun zht=>?_)
 ·replace h:=yg h zht
  refine WC.b (WC.a (WL.pu rfl (WL.nil (WX.a (WC.ret (WX.yG ?_))))))
  obtain rfl:=Option.some.inj h
  refine WX.yj Try.results18 (.tmp rfl .nil) (fun w hw=>?_)
  exact ⟨yL rfl,hw.sub .nil⟩
 ·replace h:=yh h zht
  refine WC.b (WC.a (WL.pu rfl (WL.pu rfl (WL.pu rfl (WL.pu rfl (WL.nil (WX.a ?_)))))))
  refine WC.cond rfl (fun zhu=>?_) (fun zhu=>?_)
  ·replace h:=yg h zhu
   refine WC.b ?_
   obtain ⟨zrI,h⟩:=ye h
   refine WC.a ?_
   refine WL.a (d:=30) rfl rfl rfl (ya y3V rfl rfl) ?_
   refine WL.a (d:=31) rfl rfl rfl (yb y3W rfl (yd .here rfl)) ?_
   refine WL.pu rfl ?_
   refine WL.znth (dd:=33) rfl rfl (Z:=Z) (Pr:=(y2h Z)) elT_22 rfl rfl zlI zrI ?_
   rintro zAJ zAK zrJ zAL ⟨zAM,zAN,rfl,zAO⟩
   refine WL.a (d:=34) rfl rfl rfl (ya fo_104_0 rfl rfl) ?_
   refine WL.a (d:=35) rfl rfl rfl (yb y6J rfl (y22 hz.pv zrJ rfl)) ?_
   refine WL.pu rfl (WL.nil (WX.a (WC.ret (WX.yG ?_))))
   obtain rfl:=Option.some.inj h
   refine WX.yj Try.results18 (.tmp rfl .nil) (fun w hw=>?_)
   exact ⟨yL rfl,hw.sub .nil⟩
  ·replace h:=yh h zhu
   refine WC.b ?_
   obtain ⟨zrK,h⟩:=ye h
   refine WC.a ?_
   refine WL.a (d:=9) rfl rfl rfl (ya y4K rfl rfl) ?_
   refine WL.a (d:=10) rfl rfl rfl (yb y4L rfl (yd .here rfl)) ?_
   refine WL.pu rfl (WL.pu rfl (WL.pu rfl ?_))
   refine WL.znth (dd:=14) rfl rfl (Z:=Z) (Pr:=(fun r x=>r = e64 x)) y67 rfl rfl zlJ zrK ?_
   rintro zAP zAQ zrL zAR rfl
   refine WL.a (d:=15) rfl rfl rfl (ya fo_64_0 rfl rfl) ?_
   refine WL.a (d:=16) rfl rfl rfl (yb y6J rfl (y22 hz.pv zrL rfl)) ?_
   refine WL.pu rfl (WL.nil (WX.a (WC.ret (WX.yG ?_))))
   obtain rfl:=Option.some.inj h
   refine WX.yj Try.results18 (.tmp rfl .nil) (fun w hw=>?_)
   exact ⟨yL rfl,hw.sub .nil⟩
def y1N (z7b : Int) (zM : Sapi_Config) (z45 : ByteArray) (z7c : Option Int) : Nat → Int → Option Int
 | 0,_=>none
 | zhv + 1,z3S=>if decide (z3S < z7b) then (y2G zM z3S).bind fun zlL=>if decide (zlL = z45) then some z3S else y1N z7b zM z45 z7c zhv (i64 (z3S + 1)) else z7c
theorem y55 {n : Nat} {z7b : Int} {zM : Sapi_Config} {z45 : ByteArray} {z7c : Option Int} {z3S : Int} {r : Int} (h : y1N z7b zM z45 z7c n z3S = some r) : ∃ m,n = m + 1:=by
 cases n with
 | zero=>cases h
 | succ m=>exact ⟨m,rfl⟩
def y1M (zM : Sapi_Config) (z45 : ByteArray) : Option Int :=
 jp0 (some (-1)) fun z7c=>(y2f zM).bind fun z7b=>y1N z7b zM z45 z7c yP 0
set_option maxRecDepth 20000 in
theorem y5s (Z : Zp) (zap : Option Addr) (zaq : Nat) (zar : Option Addr) (zas : Nat) (zat : Option Addr) (zau : Nat) (zav : Option Addr) (zaw : Nat) (zax : Option Addr) (zay : Nat) (zaz : Option Addr) (zaA : Nat) (zaB : Option Addr) (zaC : Nat) (zaD : Option Addr) (zaE : Nat) (zM : Sapi_Config) (z45 : ByteArray) (r : Int)
  (h : y1M zM z45 = some r) (w₀ : World) (hz : PZ [] w₀ Z)
  (zlM : ZS Z 4 (y2h Z) zap zaq zM.fModules)
  (zlN : ZS Z 4 (y2x Z) zar zas zM.fChannels)
  (zlO : ZS Z 4 (fun r x=>r = e64 x) zat zau zM.fSwitches)
  (zlP : ZS Z 4 (fun r x=>r = e62 x) zav zaw zM.fLinks)
  (zlQ : ZS Z 7 (y2p Z) zax zay zM.fVLs)
  (zlR : ZS Z 5 (fun r x=>r = y2K x) zaz zaA zM.fHealth)
  (zlS : ZS Z 3 (y2y Z) zaB zaC zM.fCauses)
  (zlT : ZS Z 4 (fun r x=>r = y2L x) zaD zaE zM.fVersions) :
  Calls Try.prog 59 #[(.agg #[(.slice zap zM.fModules.length zaq),(.slice zar zM.fChannels.length zas),(.slice zat zM.fSwitches.length zau),(.slice zav zM.fLinks.length zaw),(.slice zax zM.fVLs.length zay),(.slice zaz zM.fHealth.length zaA),(.slice zaB zM.fCauses.length zaC),(.slice zaD zM.fVersions.length zaE)]),(.string z45)] w₀ fun e w'=>e = .returned (.int .i64 r) ∧ Hp [] w₀ w' []:=by
 unfold y1M at h
 refine Calls.yo (vs:=[(.agg #[(.slice zap zM.fModules.length zaq),(.slice zar zM.fChannels.length zas),(.slice zat zM.fSwitches.length zau),(.slice zav zM.fLinks.length zaw),(.slice zax zM.fVLs.length zay),(.slice zaz zM.fHealth.length zaA),(.slice zaB zM.fCauses.length zaC),(.slice zaD zM.fVersions.length zaE)]),(.string z45)]) (pre:=[]) (env:=[(0,(.agg #[(.slice zap zM.fModules.length zaq),(.slice zar zM.fChannels.length zas),(.slice zat zM.fSwitches.length zau),(.slice zav zM.fLinks.length zaw),(.slice zax zM.fVLs.length zay),(.slice zaz zM.fHealth.length zaA),(.slice zaB zM.fCauses.length zaC),(.slice zaD zM.fVersions.length zaE)])),(1,(.string z45))]) Try.func59 rfl Try.ntmps59 rfl (Hp.nil w₀ _) rfl ?_
 refine WC.b (WC.a ?_)
 refine WL.new (dd:=2) rfl rfl rfl (y25 (cs:=[(.slice zap zM.fModules.length zaq),(.slice zar zM.fChannels.length zas),(.slice zat zM.fSwitches.length zau),(.slice zav zM.fLinks.length zaw),(.slice zax zM.fVLs.length zay),(.slice zaz zM.fHealth.length zaA),(.slice zaB zM.fCauses.length zaC),(.slice zaD zM.fVersions.length zaE)]) rfl rfl) ?_
 intro zlU _
 refine WL.pu rfl (WL.nil (WX.a ?_))
 obtain ⟨z7c,zrM,h⟩:=y2r h
 refine WC.y2b ((z7c = some r)) ([]) ([]) ?_ ?_
 ·skip
  refine WC.b ?_
  obtain ⟨z7b,zrN,h⟩:=z8 h
  refine WC.a ?_
  refine WL.a (d:=6) rfl rfl rfl (yu yK rfl (yJ .here) rfl) ?_
  refine WL.b (dd:=7) rfl rfl rfl (zt (l:=[.tmp 6]) Try.call17 (.cons rfl .nil)) .nil (cc hz .nil fun w pz ho=>y4g _ _ _ _ _ _ _ _ _ _ _ _ _ _ _ _ _ _ _ zrN w pz zlM zlN zlO zlP zlQ zlR zlS zlT) ?_
  refine WL.pu rfl (WL.nil (WX.a (WC.block ?_)))
  refine WC.y3N (fun (zaF : Nat) (z3S : Int)=>(y1N z7b zM z45 z7c zaF z3S = some r)) (fun (zaF : Nat) (z3S : Int)=>[(1,(.string z45)),(2,(.pointer (some ⟨zlU,0,none⟩))),(7,(.int .i64 z7b)),(8,(.int .i64 z3S))]) (fun (zaF : Nat) (z3S : Int)=>[stb zlU 31 [(.slice zap zM.fModules.length zaq),(.slice zar zM.fChannels.length zas),(.slice zat zM.fSwitches.length zau),(.slice zav zM.fLinks.length zaw),(.slice zax zM.fVLs.length zay),(.slice zaz zM.fHealth.length zaA),(.slice zaB zM.fCauses.length zaC),(.slice zaD zM.fVersions.length zaE)]]) (fun (zaF : Nat) (z3S : Int)=>zaF) ⟨yP,0⟩ h (.cons rfl (.cons rfl (.cons rfl (.cons rfl .nil)))) (.cons .here .nil) ?_
  rintro zaF z3S h
  obtain ⟨zhv,rfl⟩:=y55 h
  rw [y1N] at h
  refine WC.b (WC.a (WL.pu rfl (WL.nil (WX.a (WC.b ?_)))))
  refine WC.cond rfl (fun zhw=>?_) (fun zhw=>?_)
  ·replace h:=yg h zhw
   refine WC.skip (WX.a (WC.b (WC.block (WC.b (WC.a (WL.pu rfl (WL.pu rfl (WL.nil (WX.a (WC.b ?_))))))))))
   obtain ⟨zlL,zrO,h⟩:=z8 h
   refine WC.a ?_
   refine WL.a (d:=11) rfl rfl rfl (yu yK rfl (yJ .here) rfl) ?_
   refine WL.pu rfl ?_
   refine WL.b (dd:=13) rfl rfl rfl (zt (l:=[.tmp 11,.tmp 12]) Try.call18 (.cons rfl (.cons rfl .nil))) .nil (cc hz .nil fun w pz ho=>y5r _ _ _ _ _ _ _ _ _ _ _ _ _ _ _ _ _ _ _ _ zrO w pz zlM zlN zlO zlP zlQ zlR zlS zlT) ?_
   refine WL.pu rfl ?_
   refine WL.a (d:=15) rfl rfl rfl (q_seql rfl rfl) ?_
   refine WL.nil (WX.a ?_)
   refine WC.cond rfl (fun zhx=>?_) (fun zhx=>?_)
   ·replace h:=yg h zhx
    refine WC.b (WC.a (WL.pu rfl (WL.pu rfl (WL.nil (WX.a (WC.ret (WX.yG (WX.yn (WX.yn (WX.yG (WX.yn ?_)))))))))))
    obtain rfl:=Option.some.inj h
    refine WX.yj Try.results59 (.tmp rfl .nil) (fun w hw=>?_)
    exact ⟨yL rfl,hw.sub .nil⟩
   ·replace h:=yh h zhx
    refine WC.skip (WX.yf (WX.a (WC.a (WL.pu rfl (WL.pu rfl (WL.nil ?_))))))
    exact WX.round (G:=Nat × Int) ⟨zhv,(i64 (z3S + 1))⟩ h (Nat.lt_succ_self _) (.cons rfl (.cons rfl (.cons rfl (.cons rfl .nil)))) (.cons .here .nil)
  ·replace h:=yh h zhw
   refine WC.exit (WX.yk (WX.yk (WX.yC ?_)))
   exact WX.mid (G:=Unit) () h .nil .nil
 ·rintro  h
  replace h:=zrM.symm.trans h
  refine WC.b (WC.a (WL.pu rfl (WL.nil (WX.a (WC.ret ?_)))))
  obtain rfl:=Option.some.inj h
  refine WX.yj Try.results59 (.tmp rfl .nil) (fun w hw=>?_)
  exact ⟨yL rfl,hw.sub .nil⟩
def y2H (zy : Sapi_Config) (z5Z : Int) (z1p : Int) : Option Bool :=
 if decide (z1p < ((zy.fModules.length : Nat) : Int)) then some (decide (z1p ≥ 0)) else chk ((0 : Int) ≤ (i64 (z1p - ((zy.fModules.length : Nat) : Int))) ∧ (i64 (z1p - ((zy.fModules.length : Nat) : Int))) < ((zy.fSwitches.length : Nat) : Int)) (some (((((decide (((nth zy.fSwitches (i64 (z1p - ((zy.fModules.length : Nat) : Int)))).fNet) = z5Z)) && (decide (((nth zy.fSwitches (i64 (z1p - ((zy.fModules.length : Nat) : Int)))).fDelay) ≥ 0))) && (decide (((nth zy.fSwitches (i64 (z1p - ((zy.fModules.length : Nat) : Int)))).fDelay) ≤ 1000))) && (decide (((nth zy.fSwitches (i64 (z1p - ((zy.fModules.length : Nat) : Int)))).fStore) ≥ 0))) && (decide (((nth zy.fSwitches (i64 (z1p - ((zy.fModules.length : Nat) : Int)))).fStore) ≤ 1073741824))))
set_option maxRecDepth 20000 in
theorem y5t (Z : Zp) (zd9 : Option Addr) (zda : Nat) (zdb : Option Addr) (zdc : Nat) (zdd : Option Addr) (zde : Nat) (zdf : Option Addr) (zdg : Nat) (zdh : Option Addr) (zdi : Nat) (zdj : Option Addr) (zdk : Nat) (zdl : Option Addr) (zdm : Nat) (zdn : Option Addr) (zdo : Nat) (zy : Sapi_Config) (z5Z : Int) (z1p : Int) (r : Bool)
  (h : y2H zy z5Z z1p = some r) (w₀ : World) (hz : PZ [] w₀ Z)
  (zAS : ZS Z 4 (y2h Z) zd9 zda zy.fModules)
  (zAT : ZS Z 4 (y2x Z) zdb zdc zy.fChannels)
  (zrP : ZS Z 4 (fun r x=>r = e64 x) zdd zde zy.fSwitches)
  (zAU : ZS Z 4 (fun r x=>r = e62 x) zdf zdg zy.fLinks)
  (zAV : ZS Z 7 (y2p Z) zdh zdi zy.fVLs)
  (zAW : ZS Z 5 (fun r x=>r = y2K x) zdj zdk zy.fHealth)
  (zAX : ZS Z 3 (y2y Z) zdl zdm zy.fCauses)
  (zAY : ZS Z 4 (fun r x=>r = y2L x) zdn zdo zy.fVersions) :
  Calls Try.prog 60 #[(.agg #[(.slice zd9 zy.fModules.length zda),(.slice zdb zy.fChannels.length zdc),(.slice zdd zy.fSwitches.length zde),(.slice zdf zy.fLinks.length zdg),(.slice zdh zy.fVLs.length zdi),(.slice zdj zy.fHealth.length zdk),(.slice zdl zy.fCauses.length zdm),(.slice zdn zy.fVersions.length zdo)]),(.int .i64 z5Z),(.int .i64 z1p)] w₀ fun e w'=>e = .returned (.bool r) ∧ Hp [] w₀ w' []:=by
 unfold y2H at h
 refine Calls.yo (vs:=[(.agg #[(.slice zd9 zy.fModules.length zda),(.slice zdb zy.fChannels.length zdc),(.slice zdd zy.fSwitches.length zde),(.slice zdf zy.fLinks.length zdg),(.slice zdh zy.fVLs.length zdi),(.slice zdj zy.fHealth.length zdk),(.slice zdl zy.fCauses.length zdm),(.slice zdn zy.fVersions.length zdo)]),(.int .i64 z5Z),(.int .i64 z1p)]) (pre:=[]) (env:=[(0,(.agg #[(.slice zd9 zy.fModules.length zda),(.slice zdb zy.fChannels.length zdc),(.slice zdd zy.fSwitches.length zde),(.slice zdf zy.fLinks.length zdg),(.slice zdh zy.fVLs.length zdi),(.slice zdj zy.fHealth.length zdk),(.slice zdl zy.fCauses.length zdm),(.slice zdn zy.fVersions.length zdo)])),(1,(.int .i64 z5Z)),(2,(.int .i64 z1p))]) Try.func60 rfl Try.ntmps60 rfl (Hp.nil w₀ _) rfl ?_
 refine WC.b (WC.a ?_)
 refine WL.new (dd:=3) rfl rfl rfl (y25 (cs:=[(.slice zd9 zy.fModules.length zda),(.slice zdb zy.fChannels.length zdc),(.slice zdd zy.fSwitches.length zde),(.slice zdf zy.fLinks.length zdg),(.slice zdh zy.fVLs.length zdi),(.slice zdj zy.fHealth.length zdk),(.slice zdl zy.fCauses.length zdm),(.slice zdn zy.fVersions.length zdo)]) rfl rfl) ?_
 intro zAZ _
 refine WL.pu rfl (WL.nil (WX.a (WC.b (WC.b (WC.a (WL.pu rfl ?_))))))
 refine WL.a (d:=9) rfl rfl rfl (ya y3V rfl rfl) ?_
 refine WL.a (d:=10) rfl rfl rfl (yb y3W rfl (yd .here rfl)) ?_
 refine WL.a (d:=11) rfl rfl rfl (yz Try.underlying22 rfl) ?_
 refine WL.pu rfl (WL.nil (WX.a ?_))
 refine WC.cond rfl (fun zhy=>?_) (fun zhy=>?_)
 ·replace h:=yg h zhy
  refine WC.b (WC.a (WL.pu rfl (WL.pu rfl (WL.pu rfl (WL.nil (WX.a (WC.ret (WX.yn ?_))))))))
  obtain rfl:=Option.some.inj h
  refine WX.yj Try.results60 (.tmp rfl .nil) (fun w hw=>?_)
  exact ⟨yL rfl,hw.sub .nil⟩
 ·replace h:=yh h zhy
  refine WC.skip (WX.a (WC.b ?_))
  obtain ⟨zrQ,h⟩:=ye h
  refine WC.a ?_
  refine WL.a (d:=15) rfl rfl rfl (ya y4K rfl rfl) ?_
  refine WL.a (d:=16) rfl rfl rfl (yb y4L rfl (yd .here rfl)) ?_
  refine WL.pu rfl ?_
  refine WL.a (d:=18) rfl rfl rfl (ya y3V rfl rfl) ?_
  refine WL.a (d:=19) rfl rfl rfl (yb y3W rfl (yd .here rfl)) ?_
  refine WL.a (d:=20) rfl rfl rfl (yz Try.underlying22 rfl) ?_
  refine WL.pu rfl ?_
  refine WL.znth (dd:=22) rfl rfl (Z:=Z) (Pr:=(fun r x=>r = e64 x)) y67 rfl rfl zrP zrQ ?_
  rintro zB0 zB1 zrR zB2 rfl
  refine WL.a (d:=23) rfl rfl rfl (yu aggT_64 rfl (y3H hz.pv zrR) rfl) ?_
  refine WL.new (dd:=7) rfl rfl rfl (y2m (cs:=[(.string ⟨#[]⟩),(.int .i64 0),(.int .i64 0),(.int .i64 0)]) zeroT_64 rfl) ?_
  intro zB3 _
  refine WL.y10 rfl rfl (y1W sizT_64 rfl rfl rfl .here rfl rfl rfl) ?_
  refine WL.nil (WX.a (WC.b (WC.a ?_)))
  refine WL.a (d:=24) rfl rfl rfl (ya fo_64_1 rfl rfl) ?_
  refine WL.a (d:=25) rfl rfl rfl (yb yl rfl (yd .here rfl)) ?_
  refine WL.pu rfl (WL.pu rfl (WL.pu rfl ?_))
  refine WL.seg true 3 28 (B:=(decide (((nth zy.fSwitches (i64 (z1p - ((zy.fModules.length : Nat) : Int)))).fNet) = z5Z)) && (decide (((nth zy.fSwitches (i64 (z1p - ((zy.fModules.length : Nat) : Int)))).fDelay) ≥ 0))) rfl rfl rfl rfl rfl rfl (fun h=>(y1c h).symm) (fun _ zrS=>?_) ?_
  ·skip
   refine WL.a (d:=29) rfl rfl rfl (ya y6V rfl rfl) ?_
   refine WL.a (d:=30) rfl rfl rfl (yb yl rfl (yd .here rfl)) ?_
   refine WL.pu rfl (WL.pu rfl ?_)
   exact WL.yi (y1d zrS) rfl rfl .all
  refine WL.pu rfl ?_
  refine WL.seg true 3 33 (B:=((decide (((nth zy.fSwitches (i64 (z1p - ((zy.fModules.length : Nat) : Int)))).fNet) = z5Z)) && (decide (((nth zy.fSwitches (i64 (z1p - ((zy.fModules.length : Nat) : Int)))).fDelay) ≥ 0))) && (decide (((nth zy.fSwitches (i64 (z1p - ((zy.fModules.length : Nat) : Int)))).fDelay) ≤ 1000))) rfl rfl rfl rfl rfl rfl (fun h=>(y1c h).symm) (fun _ zrT=>?_) ?_
  ·skip
   refine WL.a (d:=34) rfl rfl rfl (ya y6V rfl rfl) ?_
   refine WL.a (d:=35) rfl rfl rfl (yb yl rfl (yd .here rfl)) ?_
   refine WL.pu rfl (WL.pu rfl ?_)
   exact WL.yi (y1d zrT) rfl rfl .all
  refine WL.pu rfl ?_
  refine WL.seg true 3 38 (B:=(((decide (((nth zy.fSwitches (i64 (z1p - ((zy.fModules.length : Nat) : Int)))).fNet) = z5Z)) && (decide (((nth zy.fSwitches (i64 (z1p - ((zy.fModules.length : Nat) : Int)))).fDelay) ≥ 0))) && (decide (((nth zy.fSwitches (i64 (z1p - ((zy.fModules.length : Nat) : Int)))).fDelay) ≤ 1000))) && (decide (((nth zy.fSwitches (i64 (z1p - ((zy.fModules.length : Nat) : Int)))).fStore) ≥ 0))) rfl rfl rfl rfl rfl rfl (fun h=>(y1c h).symm) (fun _ zrU=>?_) ?_
  ·skip
   refine WL.a (d:=39) rfl rfl rfl (ya y6W rfl rfl) ?_
   refine WL.a (d:=40) rfl rfl rfl (yb yl rfl (yd .here rfl)) ?_
   refine WL.pu rfl (WL.pu rfl ?_)
   exact WL.yi (y1d zrU) rfl rfl .all
  refine WL.pu rfl ?_
  refine WL.seg true 3 43 (B:=((((decide (((nth zy.fSwitches (i64 (z1p - ((zy.fModules.length : Nat) : Int)))).fNet) = z5Z)) && (decide (((nth zy.fSwitches (i64 (z1p - ((zy.fModules.length : Nat) : Int)))).fDelay) ≥ 0))) && (decide (((nth zy.fSwitches (i64 (z1p - ((zy.fModules.length : Nat) : Int)))).fDelay) ≤ 1000))) && (decide (((nth zy.fSwitches (i64 (z1p - ((zy.fModules.length : Nat) : Int)))).fStore) ≥ 0))) && (decide (((nth zy.fSwitches (i64 (z1p - ((zy.fModules.length : Nat) : Int)))).fStore) ≤ 1073741824))) rfl rfl rfl rfl rfl rfl (fun h=>(y1c h).symm) (fun _ zrV=>?_) ?_
  ·skip
   refine WL.a (d:=44) rfl rfl rfl (ya y6W rfl rfl) ?_
   refine WL.a (d:=45) rfl rfl rfl (yb yl rfl (yd .here rfl)) ?_
   refine WL.pu rfl (WL.pu rfl ?_)
   exact WL.yi (y1d zrV) rfl rfl .all
  refine WL.pu rfl (WL.nil (WX.a (WC.ret ?_)))
  obtain rfl:=Option.some.inj h
  refine WX.yj Try.results60 (.tmp rfl .nil) (fun w hw=>?_)
  exact ⟨yL rfl,hw.sub .nil⟩
def y2X (zH : Sapi_Config) (z5n : Int) (z1U : Int) (z46 : Int) (z47 : Int) : Option Bool :=
 if (decide (z1U < 0)) || (decide (z1U ≥ ((zH.fLinks.length : Nat) : Int))) then some false else chk ((0 : Int) ≤ z1U ∧ z1U < ((zH.fLinks.length : Nat) : Int)) ((y1M zH ((nth zH.fLinks z1U).fA)).bind fun z4C=>(y1M zH ((nth zH.fLinks z1U).fB)).bind fun z4D=>(if (((decide (((nth zH.fLinks z1U).fNet) = z5n)) && (decide (((nth zH.fLinks z1U).fSlow) ≥ 1))) && (decide (((nth zH.fLinks z1U).fSlow) ≤ 16))) && (decide (z4C ≠ z4D)) then (y2H zH z5n z4C).bind fun zlV=>some zlV else some false).bind fun zhz=>(if zhz then (y2H zH z5n z4D).bind fun zlW=>some zlW else some false).bind fun zfk=>some (zfk && (((decide (z4C = z46)) && (decide (z4D = z47))) || ((decide (z4C = z47)) && (decide (z4D = z46))))))
set_option maxRecDepth 20000 in
theorem y6K (Z : Zp) (zdp : Option Addr) (zdq : Nat) (zdr : Option Addr) (zds : Nat) (zdt : Option Addr) (zdu : Nat) (zdv : Option Addr) (zdw : Nat) (zdx : Option Addr) (zdy : Nat) (zdz : Option Addr) (zdA : Nat) (zdB : Option Addr) (zdC : Nat) (zdD : Option Addr) (zdE : Nat) (zH : Sapi_Config) (z5n : Int) (z1U : Int) (z46 : Int) (z47 : Int) (r : Bool)
  (h : y2X zH z5n z1U z46 z47 = some r) (w₀ : World) (hz : PZ [] w₀ Z)
  (zfl : ZS Z 4 (y2h Z) zdp zdq zH.fModules)
  (zfm : ZS Z 4 (y2x Z) zdr zds zH.fChannels)
  (zfn : ZS Z 4 (fun r x=>r = e64 x) zdt zdu zH.fSwitches)
  (zdF : ZS Z 4 (fun r x=>r = e62 x) zdv zdw zH.fLinks)
  (zfo : ZS Z 7 (y2p Z) zdx zdy zH.fVLs)
  (zfp : ZS Z 5 (fun r x=>r = y2K x) zdz zdA zH.fHealth)
  (zfq : ZS Z 3 (y2y Z) zdB zdC zH.fCauses)
  (zfr : ZS Z 4 (fun r x=>r = y2L x) zdD zdE zH.fVersions) :
  Calls Try.prog 48 #[(.agg #[(.slice zdp zH.fModules.length zdq),(.slice zdr zH.fChannels.length zds),(.slice zdt zH.fSwitches.length zdu),(.slice zdv zH.fLinks.length zdw),(.slice zdx zH.fVLs.length zdy),(.slice zdz zH.fHealth.length zdA),(.slice zdB zH.fCauses.length zdC),(.slice zdD zH.fVersions.length zdE)]),(.int .i64 z5n),(.int .i64 z1U),(.int .i64 z46),(.int .i64 z47)] w₀ fun e w'=>e = .returned (.bool r) ∧ Hp [] w₀ w' []:=by
 unfold y2X at h
 refine Calls.yo (vs:=[(.agg #[(.slice zdp zH.fModules.length zdq),(.slice zdr zH.fChannels.length zds),(.slice zdt zH.fSwitches.length zdu),(.slice zdv zH.fLinks.length zdw),(.slice zdx zH.fVLs.length zdy),(.slice zdz zH.fHealth.length zdA),(.slice zdB zH.fCauses.length zdC),(.slice zdD zH.fVersions.length zdE)]),(.int .i64 z5n),(.int .i64 z1U),(.int .i64 z46),(.int .i64 z47)]) (pre:=[]) (env:=[(0,(.agg #[(.slice zdp zH.fModules.length zdq),(.slice zdr zH.fChannels.length zds),(.slice zdt zH.fSwitches.length zdu),(.slice zdv zH.fLinks.length zdw),(.slice zdx zH.fVLs.length zdy),(.slice zdz zH.fHealth.length zdA),(.slice zdB zH.fCauses.length zdC),(.slice zdD zH.fVersions.length zdE)])),(1,(.int .i64 z5n)),(2,(.int .i64 z1U)),(3,(.int .i64 z46)),(4,(.int .i64 z47))]) Try.func48 rfl Try.ntmps48 rfl (Hp.nil w₀ _) rfl ?_
 refine WC.b (WC.a ?_)
 refine WL.new (dd:=5) rfl rfl rfl (y25 (cs:=[(.slice zdp zH.fModules.length zdq),(.slice zdr zH.fChannels.length zds),(.slice zdt zH.fSwitches.length zdu),(.slice zdv zH.fLinks.length zdw),(.slice zdx zH.fVLs.length zdy),(.slice zdz zH.fHealth.length zdA),(.slice zdB zH.fCauses.length zdC),(.slice zdD zH.fVersions.length zdE)]) rfl rfl) ?_
 intro zB4 _
 refine WL.pu rfl (WL.nil (WX.a (WC.b (WC.b (WC.a (WL.pu rfl (WL.pu rfl (WL.pu rfl ?_))))))))
 refine WL.seg false 5 16 (B:=(decide (z1U < 0)) || (decide (z1U ≥ ((zH.fLinks.length : Nat) : Int)))) rfl rfl rfl rfl rfl rfl (fun h=>(y20 h).symm) (fun _ zrW=>?_) ?_
 ·skip
  refine WL.pu rfl ?_
  refine WL.a (d:=18) rfl rfl rfl (ya y5g rfl rfl) ?_
  refine WL.a (d:=19) rfl rfl rfl (yb y5h rfl (yd .here rfl)) ?_
  refine WL.a (d:=20) rfl rfl rfl (yz Try.underlying25 rfl) ?_
  refine WL.pu rfl (WL.pu rfl ?_)
  exact WL.yi (y21 zrW) rfl rfl .all
 refine WL.nil (WX.a ?_)
 refine WC.cond rfl (fun zhA=>?_) (fun zhA=>?_)
 ·replace h:=yg h zhA
  refine WC.b (WC.a (WL.pu rfl (WL.nil (WX.a (WC.ret (WX.yn ?_))))))
  obtain rfl:=Option.some.inj h
  refine WX.yj Try.results48 (.tmp rfl .nil) (fun w hw=>?_)
  exact ⟨yL rfl,hw.sub .nil⟩
 ·replace h:=yh h zhA
  refine WC.skip (WX.a (WC.b ?_))
  obtain ⟨zrX,h⟩:=ye h
  refine WC.a ?_
  refine WL.a (d:=23) rfl rfl rfl (ya y5g rfl rfl) ?_
  refine WL.a (d:=24) rfl rfl rfl (yb y5h rfl (yd .here rfl)) ?_
  refine WL.pu rfl ?_
  refine WL.znth (dd:=26) rfl rfl (Z:=Z) (Pr:=(fun r x=>r = e62 x)) y7C rfl rfl zdF zrX ?_
  rintro zB5 zB6 zrY zB7 rfl
  refine WL.a (d:=27) rfl rfl rfl (yu aggT_62 rfl (y3H hz.pv zrY) rfl) ?_
  refine WL.new (dd:=11) rfl rfl rfl (y2m (cs:=[(.string ⟨#[]⟩),(.string ⟨#[]⟩),(.int .i64 0),(.int .i64 0)]) zeroT_62 rfl) ?_
  intro zB8 _
  refine WL.y10 rfl rfl (y1W sizT_62 rfl rfl rfl .here rfl rfl rfl) ?_
  refine WL.nil (WX.a (WC.b ?_))
  obtain ⟨z4C,zrZ,h⟩:=z8 h
  obtain ⟨z4D,zs0,h⟩:=z8 h
  refine WC.yV (fun i=>[].contains i) [] rfl ?_
  refine WD.e (i:=0) (d:=28) (by kernel_rfl) rfl z2 z3 rfl rfl rfl (yu yK rfl (yJ .h1) rfl) ?_
  refine WD.a (i:=1) (d:=29) (by kernel_rfl) rfl z2 z3 rfl rfl rfl (fun _=>ya fo_62_0 rfl rfl) ?_
  refine WD.e (i:=2) (d:=30) (by kernel_rfl) rfl z2 z3 rfl rfl rfl (yb y6J rfl (yd .here rfl)) ?_
  refine WD.c (i:=3) (d:=31) (by kernel_rfl) rfl z2 z3 rfl rfl rfl (zt (l:=[.tmp 28,.tmp 30]) Try.call59 (.cons rfl (.cons rfl .nil))) (cc hz .nil fun w pz ho=>y5s _ _ _ _ _ _ _ _ _ _ _ _ _ _ _ _ _ _ _ _ zrZ w pz zfl zfm zfn zdF zfo zfp zfq zfr) ?_
  refine WD.e (i:=4) (d:=32) (by kernel_rfl) rfl z2 z3 rfl rfl rfl (yu yK rfl (yJ .h1) rfl) ?_
  refine WD.a (i:=5) (d:=33) (by kernel_rfl) rfl z2 z3 rfl rfl rfl (fun _=>ya fo_62_1 rfl rfl) ?_
  refine WD.e (i:=6) (d:=34) (by kernel_rfl) rfl z2 z3 rfl rfl rfl (yb y6J rfl (yd .here rfl)) ?_
  refine WD.c (i:=7) (d:=35) (by kernel_rfl) rfl z2 z3 rfl rfl rfl (zt (l:=[.tmp 32,.tmp 34]) Try.call59 (.cons rfl (.cons rfl .nil))) (cc hz .nil fun w pz ho=>y5s _ _ _ _ _ _ _ _ _ _ _ _ _ _ _ _ _ _ _ _ zs0 w pz zfl zfm zfn zdF zfo zfp zfq zfr) ?_
  refine WD.a (i:=8) (d:=12) (by kernel_rfl) rfl z2 z3 rfl rfl rfl (fun _=>q_z rfl) ?_
  refine WD.a (i:=9) (d:=13) (by kernel_rfl) rfl z2 z3 rfl rfl rfl (fun _=>q_z rfl) ?_
  refine WD.done (by kernel_rfl) ?_
  refine WX.a (WC.b ?_)
  obtain ⟨zhz,zlX,h⟩:=z8 h
  obtain ⟨zfk,zlY,h⟩:=z8 h
  refine WC.a ?_
  refine WL.a (d:=36) rfl rfl rfl (ya fo_62_2 rfl rfl) ?_
  refine WL.a (d:=37) rfl rfl rfl (yb yl rfl (yd .here rfl)) ?_
  refine WL.pu rfl (WL.pu rfl (WL.pu rfl ?_))
  refine WL.seg true 3 40 (B:=(decide (((nth zH.fLinks z1U).fNet) = z5n)) && (decide (((nth zH.fLinks z1U).fSlow) ≥ 1))) rfl rfl rfl rfl rfl rfl (fun h=>(y1c h).symm) (fun _ zs1=>?_) ?_
  ·skip
   refine WL.a (d:=41) rfl rfl rfl (ya y6U rfl rfl) ?_
   refine WL.a (d:=42) rfl rfl rfl (yb yl rfl (yd .here rfl)) ?_
   refine WL.pu rfl (WL.pu rfl ?_)
   exact WL.yi (y1d zs1) rfl rfl .all
  refine WL.pu rfl ?_
  refine WL.seg true 3 45 (B:=((decide (((nth zH.fLinks z1U).fNet) = z5n)) && (decide (((nth zH.fLinks z1U).fSlow) ≥ 1))) && (decide (((nth zH.fLinks z1U).fSlow) ≤ 16))) rfl rfl rfl rfl rfl rfl (fun h=>(y1c h).symm) (fun _ zs2=>?_) ?_
  ·skip
   refine WL.a (d:=46) rfl rfl rfl (ya y6U rfl rfl) ?_
   refine WL.a (d:=47) rfl rfl rfl (yb yl rfl (yd .here rfl)) ?_
   refine WL.pu rfl (WL.pu rfl ?_)
   exact WL.yi (y1d zs2) rfl rfl .all
  refine WL.pu rfl ?_
  refine WL.seg true 3 50 (B:=(((decide (((nth zH.fLinks z1U).fNet) = z5n)) && (decide (((nth zH.fLinks z1U).fSlow) ≥ 1))) && (decide (((nth zH.fLinks z1U).fSlow) ≤ 16))) && (decide (z4C ≠ z4D))) rfl rfl rfl rfl rfl rfl (fun h=>(y1c h).symm) (fun _ zs3=>?_) ?_
  ·skip
   refine WL.pu rfl (WL.pu rfl (WL.pu rfl (WL.pu rfl ?_)))
   exact WL.yi (y1d zs3) rfl rfl .all
  refine WL.pu rfl ?_
  refine WL.seg true 4 55 (B:=zhz) rfl rfl rfl rfl rfl rfl (fun h=>(Option.some.inj (yh zlX h)).symm) (fun _ zs4=>?_) ?_
  ·skip
   have zdG:=yg zlX zs4
   obtain ⟨zlV,zs5,zdG⟩:=z8 zdG
   replace zdG:=Option.some.inj zdG
   refine WL.a (d:=56) rfl rfl rfl (yu yK rfl (yJ .h1) rfl) ?_
   refine WL.pu rfl (WL.pu rfl ?_)
   refine WL.b (dd:=59) rfl rfl rfl (zt (l:=[.tmp 56,.tmp 57,.tmp 58]) Try.call60 (.cons rfl (.cons rfl (.cons rfl .nil)))) .nil (cc hz .nil fun w pz ho=>y5t _ _ _ _ _ _ _ _ _ _ _ _ _ _ _ _ _ _ _ _ _ zs5 w pz zfl zfm zfn zdF zfo zfp zfq zfr) ?_
   refine WL.pu rfl ?_
   exact WL.yi zdG rfl rfl .all
  refine WL.pu rfl ?_
  refine WL.seg true 4 61 (B:=zfk) rfl rfl rfl rfl rfl rfl (fun h=>(Option.some.inj (yh zlY h)).symm) (fun _ zs6=>?_) ?_
  ·skip
   have zdH:=yg zlY zs6
   obtain ⟨zlW,zs7,zdH⟩:=z8 zdH
   replace zdH:=Option.some.inj zdH
   refine WL.a (d:=62) rfl rfl rfl (yu yK rfl (yJ .h1) rfl) ?_
   refine WL.pu rfl (WL.pu rfl ?_)
   refine WL.b (dd:=65) rfl rfl rfl (zt (l:=[.tmp 62,.tmp 63,.tmp 64]) Try.call60 (.cons rfl (.cons rfl (.cons rfl .nil)))) .nil (cc hz .nil fun w pz ho=>y5t _ _ _ _ _ _ _ _ _ _ _ _ _ _ _ _ _ _ _ _ _ zs7 w pz zfl zfm zfn zdF zfo zfp zfq zfr) ?_
   refine WL.pu rfl ?_
   exact WL.yi zdH rfl rfl .all
  refine WL.pu rfl ?_
  refine WL.seg true 18 67 (B:=zfk && (((decide (z4C = z46)) && (decide (z4D = z47))) || ((decide (z4C = z47)) && (decide (z4D = z46))))) rfl rfl rfl rfl rfl rfl (fun h=>(y1c h).symm) (fun _ zs8=>?_) ?_
  ·skip
   refine WL.pu rfl (WL.pu rfl (WL.pu rfl (WL.pu rfl ?_)))
   refine WL.seg true 3 71 (B:=(decide (z4C = z46)) && (decide (z4D = z47))) rfl rfl rfl rfl rfl rfl (fun h=>(y1c h).symm) (fun _ zs9=>?_) ?_
   ·skip
    refine WL.pu rfl (WL.pu rfl (WL.pu rfl (WL.pu rfl ?_)))
    exact WL.yi (y1d zs9) rfl rfl .all
   refine WL.pu rfl ?_
   refine WL.seg false 8 76 (B:=((decide (z4C = z46)) && (decide (z4D = z47))) || ((decide (z4C = z47)) && (decide (z4D = z46)))) rfl rfl rfl rfl rfl rfl (fun h=>(y20 h).symm) (fun _ zsa=>?_) ?_
   ·skip
    refine WL.pu rfl (WL.pu rfl (WL.pu rfl (WL.pu rfl ?_)))
    refine WL.seg true 3 80 (B:=(decide (z4C = z47)) && (decide (z4D = z46))) rfl rfl rfl rfl rfl rfl (fun h=>(y1c h).symm) (fun _ zsb=>?_) ?_
    ·skip
     refine WL.pu rfl (WL.pu rfl (WL.pu rfl (WL.pu rfl ?_)))
     exact WL.yi (y1d zsb) rfl rfl .all
    refine WL.pu rfl ?_
    exact WL.yi (y21 zsa) rfl rfl .all
   refine WL.pu rfl ?_
   exact WL.yi (y1d zs8) rfl rfl .all
  refine WL.pu rfl (WL.nil (WX.a (WC.ret ?_)))
  obtain rfl:=Option.some.inj h
  refine WX.yj Try.results48 (.tmp rfl .nil) (fun w hw=>?_)
  exact ⟨yL rfl,hw.sub .nil⟩
def y1E (zp : List Sapi_Hop) (zC : Sapi_Config) (z2I : Int) (z7d : Option Bool) : Nat → Int → (List (Int × Int)) → Option Bool
 | 0,_,_=>none
 | zhB + 1,zx,z3q=>if decide (zx < ((zp.length : Nat) : Int)) then chk ((0 : Int) ≤ zx ∧ zx < ((zp.length : Nat) : Int)) (jp1 (fun (z1i : List (Int × Int))=>chk (((decide ((yB z1i ((nth zp zx).fNode) 0) = 0)) || (decide ((yB z1i ((nth zp zx).fNext) 0) > 0))) = false → ((decide (zx > 0)) = true → ((0 : Int) ≤ 0 ∧ 0 < ((zp.length : Nat) : Int)))) ((if ((decide ((yB z1i ((nth zp zx).fNode) 0) = 0)) || (decide ((yB z1i ((nth zp zx).fNext) 0) > 0))) || (((decide (zx > 0)) && (decide (((nth zp zx).fNode) ≠ ((nth zp 0).fNode)))) && (decide (((nth zp zx).fNode) < ((zC.fModules.length : Nat) : Int)))) then some true else (y2X zC z2I ((nth zp zx).fLink) ((nth zp zx).fNode) ((nth zp zx).fNext)).bind fun zlZ=>some (!zlZ)).bind fun zhC=>if zhC then some false else y1E zp zC z2I z7d zhB (i64 (zx + 1)) (y1g z1i ((nth zp zx).fNext) (i64 ((yB z1i ((nth zp zx).fNext) 0) + 1))))) fun zfs=>if decide (zx = 0) then zfs (y1g z3q ((nth zp zx).fNode) (i64 ((yB z3q ((nth zp zx).fNode) 0) + 1))) else zfs z3q) else z7d
theorem y4Y {n : Nat} {zp : List Sapi_Hop} {zC : Sapi_Config} {z2I : Int} {z7d : Option Bool} {zx : Int} {z3q : List (Int × Int)} {r : Bool} (h : y1E zp zC z2I z7d n zx z3q = some r) : ∃ m,n = m + 1:=by
 cases n with
 | zero=>cases h
 | succ m=>exact ⟨m,rfl⟩
def y2Y (zC : Sapi_Config) (z2I : Int) (zp : List Sapi_Hop) : Option Bool :=
 jp0 (some (decide (((zp.length : Nat) : Int) ≤ 32))) fun z7d=>y1E zp zC z2I z7d yP 0 ([] : List (Int × Int))
set_option maxRecDepth 20000 in
theorem y6L (Z : Zp) (z8S : Option Addr) (z8T : Nat) (z8U : Option Addr) (z8V : Nat) (z8W : Option Addr) (z8X : Nat) (z8Y : Option Addr) (z8Z : Nat) (z90 : Option Addr) (z91 : Nat) (z92 : Option Addr) (z93 : Nat) (z94 : Option Addr) (z95 : Nat) (z96 : Option Addr) (z97 : Nat) (z2J : Option Addr) (z2K : Nat) (zC : Sapi_Config) (z2I : Int) (zp : List Sapi_Hop) (r : Bool)
  (h : y2Y zC z2I zp = some r) (w₀ : World) (hz : PZ [] w₀ Z)
  (zsc : ZS Z 4 (y2h Z) z8S z8T zC.fModules)
  (zsd : ZS Z 4 (y2x Z) z8U z8V zC.fChannels)
  (zse : ZS Z 4 (fun r x=>r = e64 x) z8W z8X zC.fSwitches)
  (zsf : ZS Z 4 (fun r x=>r = e62 x) z8Y z8Z zC.fLinks)
  (zsg : ZS Z 7 (y2p Z) z90 z91 zC.fVLs)
  (zsh : ZS Z 5 (fun r x=>r = y2K x) z92 z93 zC.fHealth)
  (zsi : ZS Z 3 (y2y Z) z94 z95 zC.fCauses)
  (zsj : ZS Z 4 (fun r x=>r = y2L x) z96 z97 zC.fVersions)
  (zm0 : ZS Z 3 (fun r x=>r = e59 x) z2J z2K zp) :
  Calls Try.prog 36 #[(.agg #[(.slice z8S zC.fModules.length z8T),(.slice z8U zC.fChannels.length z8V),(.slice z8W zC.fSwitches.length z8X),(.slice z8Y zC.fLinks.length z8Z),(.slice z90 zC.fVLs.length z91),(.slice z92 zC.fHealth.length z93),(.slice z94 zC.fCauses.length z95),(.slice z96 zC.fVersions.length z97)]),(.int .i64 z2I),(.slice z2J zp.length z2K)] w₀ fun e w'=>e = .returned (.bool r) ∧ Hp [] w₀ w' []:=by
 unfold y2Y at h
 refine Calls.yo (vs:=[(.agg #[(.slice z8S zC.fModules.length z8T),(.slice z8U zC.fChannels.length z8V),(.slice z8W zC.fSwitches.length z8X),(.slice z8Y zC.fLinks.length z8Z),(.slice z90 zC.fVLs.length z91),(.slice z92 zC.fHealth.length z93),(.slice z94 zC.fCauses.length z95),(.slice z96 zC.fVersions.length z97)]),(.int .i64 z2I),(.slice z2J zp.length z2K)]) (pre:=[]) (env:=[(0,(.agg #[(.slice z8S zC.fModules.length z8T),(.slice z8U zC.fChannels.length z8V),(.slice z8W zC.fSwitches.length z8X),(.slice z8Y zC.fLinks.length z8Z),(.slice z90 zC.fVLs.length z91),(.slice z92 zC.fHealth.length z93),(.slice z94 zC.fCauses.length z95),(.slice z96 zC.fVersions.length z97)])),(1,(.int .i64 z2I)),(2,(.slice z2J zp.length z2K))]) Try.func36 rfl Try.ntmps36 rfl (Hp.nil w₀ _) rfl ?_
 refine WC.b (WC.a ?_)
 refine WL.new (dd:=3) rfl rfl rfl (y25 (cs:=[(.slice z8S zC.fModules.length z8T),(.slice z8U zC.fChannels.length z8V),(.slice z8W zC.fSwitches.length z8X),(.slice z8Y zC.fLinks.length z8Z),(.slice z90 zC.fVLs.length z91),(.slice z92 zC.fHealth.length z93),(.slice z94 zC.fCauses.length z95),(.slice z96 zC.fVersions.length z97)]) rfl rfl) ?_
 intro z7e _
 refine WL.pu rfl (WL.nil (WX.a (WC.b (WC.a ?_))))
 refine WL.new (dd:=10) rfl rfl rfl (y7d (Value.int .i64) (Value.int .i64)) ?_
 intro z7f _
 refine WL.pu rfl (WL.nil (WX.a ?_))
 obtain ⟨z7d,zsk,h⟩:=y2r h
 refine WC.y2b ((z7d = some r)) ([(2,(.slice z2J zp.length z2K))]) ([]) ?_ ?_
 ·skip
  refine WC.b (WC.a (WL.pu rfl ?_))
  refine WL.a (d:=12) rfl rfl rfl (yz Try.underlying55 rfl) ?_
  refine WL.pu rfl (WL.nil (WX.a (WC.block ?_)))
  refine WC.y2c (fun (zaG : Nat) (zx : Int) (z3q : List (Int × Int))=>(y1E zp zC z2I z7d zaG zx z3q = some r)) (fun (zaG : Nat) (zx : Int) (z3q : List (Int × Int))=>[(1,(.int .i64 z2I)),(2,(.slice z2J zp.length z2K)),(3,(.pointer (some ⟨z7e,0,none⟩))),(7,(.map (some z7f))),(11,(.slice z2J zp.length z2K)),(12,(.int .i64 ((zp.length : Nat) : Int))),(13,(.int .i64 zx))]) (fun (zaG : Nat) (zx : Int) (z3q : List (Int × Int))=>[stb z7e 31 [(.slice z8S zC.fModules.length z8T),(.slice z8U zC.fChannels.length z8V),(.slice z8W zC.fSwitches.length z8X),(.slice z8Y zC.fLinks.length z8Z),(.slice z90 zC.fVLs.length z91),(.slice z92 zC.fHealth.length z93),(.slice z94 zC.fCauses.length z95),(.slice z96 zC.fVersions.length z97)],y1e z7f (Value.int .i64) (Value.int .i64) z3q]) (fun (zaG : Nat) (zx : Int) (z3q : List (Int × Int))=>zaG) ⟨yP,0,([] : List (Int × Int))⟩ h (.cons rfl (.cons rfl (.cons rfl (.cons rfl (.cons rfl (.cons rfl (.cons rfl .nil))))))) (.cons .h1 (.cons .here .nil)) ?_
  rintro zaG zx z3q h
  obtain ⟨zhB,rfl⟩:=y4Y h
  rw [y1E] at h
  refine WC.b (WC.a (WL.pu rfl (WL.nil (WX.a (WC.b ?_)))))
  refine WC.cond rfl (fun zhD=>?_) (fun zhD=>?_)
  ·replace h:=yg h zhD
   refine WC.skip (WX.a (WC.b (WC.block (WC.b ?_))))
   obtain ⟨zsl,h⟩:=ye h
   refine WC.a (WL.pu rfl ?_)
   refine WL.znth (dd:=16) rfl rfl (Z:=Z) (Pr:=(fun r x=>r = e59 x)) y2W rfl rfl zm0 zsl ?_
   rintro zB9 zBa zsm zBb rfl
   refine WL.a (d:=17) rfl rfl rfl (yu y5l rfl (y3H hz.pv zsm) rfl) ?_
   refine WL.new (dd:=9) rfl rfl rfl (y2m (cs:=[(.int .i64 0),(.int .i64 0),(.int .i64 0)]) y7B rfl) ?_
   intro z98 _
   refine WL.pu rfl ?_
   refine WL.y10 rfl rfl (y1W y7Z rfl rfl rfl .here rfl rfl rfl) ?_
   refine WL.nil (WX.a ?_)
   obtain ⟨zfs,zsn,h⟩:=yO h
   refine WC.y1Q (fun (z1i : List (Int × Int))=>(zfs z1i = some r)) (fun (z1i : List (Int × Int))=>[(1,(.int .i64 z2I)),(2,(.slice z2J zp.length z2K)),(3,(.pointer (some ⟨z7e,0,none⟩))),(7,(.map (some z7f))),(8,(.int .i64 zx)),(9,(.pointer (some ⟨z98,0,none⟩))),(11,(.slice z2J zp.length z2K)),(12,(.int .i64 ((zp.length : Nat) : Int))),(13,(.int .i64 zx))]) (fun (z1i : List (Int × Int))=>[stb z7e 31 [(.slice z8S zC.fModules.length z8T),(.slice z8U zC.fChannels.length z8V),(.slice z8W zC.fSwitches.length z8X),(.slice z8Y zC.fLinks.length z8Z),(.slice z90 zC.fVLs.length z91),(.slice z92 zC.fHealth.length z93),(.slice z94 zC.fCauses.length z95),(.slice z96 zC.fVersions.length z97)],y1e z7f (Value.int .i64) (Value.int .i64) z1i,stb z98 59 [(.int .i64 ((nth zp zx).fNode)),(.int .i64 ((nth zp zx).fNext)),(.int .i64 ((nth zp zx).fLink))]]) ?_ ?_
   ·skip
    refine WC.b (WC.a (WL.pu rfl (WL.pu rfl (WL.nil (WX.a ?_)))))
    refine WC.cond rfl (fun zhE=>?_) (fun zhE=>?_)
    ·replace h:=yg h zhE
     refine WC.a (WL.pu rfl ?_)
     refine WL.a (d:=21) rfl rfl rfl (ya y2F rfl rfl) ?_
     refine WL.a (d:=22) rfl rfl rfl (yb yl rfl (yd .here rfl)) ?_
     refine WL.a (d:=23) rfl rfl rfl (y4s (k:=((nth zp zx).fNode)) (dflt:=(0 : Int)) y5m Try.underlying125 y6h rfl rfl rfl .h2) ?_
     refine WL.pu rfl ?_
     refine WL.y10 rfl rfl (y54 (k:=((nth zp zx).fNode)) (v:=i64 ((yB z3q ((nth zp zx).fNode) 0) + 1)) y5m Try.underlying125 rfl rfl rfl rfl .h2) ?_
     refine WL.nil ?_
     exact WX.mid (G:=(List (Int × Int))) (y1g z3q ((nth zp zx).fNode) (i64 ((yB z3q ((nth zp zx).fNode) 0) + 1))) h (.cons rfl (.cons rfl (.cons rfl (.cons rfl (.cons rfl (.cons rfl (.cons rfl (.cons rfl (.cons rfl .nil))))))))) (.cons .h2 (.cons .here (.cons .here .nil)))
    ·replace h:=yh h zhE
     refine WC.skip ?_
     exact WX.mid (G:=(List (Int × Int))) z3q h (.cons rfl (.cons rfl (.cons rfl (.cons rfl (.cons rfl (.cons rfl (.cons rfl (.cons rfl (.cons rfl .nil))))))))) (.cons .h1 (.cons .h1 (.cons .here .nil)))
   ·rintro z1i h
    replace h:=(zsn z1i).symm.trans h
    refine WC.b (WC.b ?_)
    obtain ⟨zso,h⟩:=ye h
    obtain ⟨zhC,zm1,h⟩:=z8 h
    refine WC.yV (fun i=>[].contains i) [] rfl ?_
    refine WD.a (i:=0) (d:=25) (by kernel_rfl) rfl z2 z3 rfl rfl rfl (fun _=>q_m rfl) ?_
    refine WD.a (i:=1) (d:=26) (by kernel_rfl) rfl z2 z3 rfl rfl rfl (fun _=>ya y2F rfl rfl) ?_
    refine WD.e (i:=2) (d:=27) (by kernel_rfl) rfl z2 z3 rfl rfl rfl (yb yl rfl (yd .h2 rfl)) ?_
    refine WD.e (i:=3) (d:=28) (by kernel_rfl) rfl z2 z3 rfl rfl rfl (y4s (k:=((nth zp zx).fNode)) (dflt:=(0 : Int)) y5m Try.underlying125 y6h rfl rfl rfl .h1) ?_
    refine WD.a (i:=4) (d:=29) (by kernel_rfl) rfl z2 z3 rfl rfl rfl (fun _=>y44 rfl rfl) ?_
    refine WD.a (i:=5) (d:=30) (by kernel_rfl) rfl z2 z3 rfl rfl rfl (fun _=>q_m rfl) ?_
    refine WD.mid (fuel':=33) [(1,(.int .i64 z2I)),(2,(.slice z2J zp.length z2K)),(3,(.pointer (some ⟨z7e,0,none⟩))),(7,(.map (some z7f))),(8,(.int .i64 zx)),(9,(.pointer (some ⟨z98,0,none⟩))),(11,(.slice z2J zp.length z2K)),(12,(.int .i64 ((zp.length : Nat) : Int))),(13,(.int .i64 zx)),(30,(.bool (decide ((yB z1i ((nth zp zx).fNode) 0) = 0)))),(36,(.bool ((decide ((yB z1i ((nth zp zx).fNode) 0) = 0)) || (decide ((yB z1i ((nth zp zx).fNext) 0) > 0)))))] (y1z 45 [11,10,9,8,7,6,5,4,3,2,1,0]) ?_ (fun zm2=>?_)
    rotate_left
    ·rcases Bool.eq_false_or_eq_true (decide ((yB z1i ((nth zp zx).fNode) 0) = 0)) with hb' | hb'
     ·have zhF:=hb'; clear hb'
      refine WD.pin (i:=30) rfl zhF ?_
      refine WD.b (i:=6) (d:=31) (by kernel_rfl) rfl z2 z3 rfl rfl rfl ?_
      refine WD.b (i:=7) (d:=32) (by kernel_rfl) rfl z2 z3 rfl rfl rfl ?_
      refine WD.b (i:=8) (d:=33) (by kernel_rfl) rfl z2 z3 rfl rfl rfl ?_
      refine WD.b (i:=9) (d:=34) (by kernel_rfl) rfl z2 z3 rfl rfl rfl ?_
      refine WD.b (i:=10) (d:=35) (by kernel_rfl) rfl z2 z3 rfl rfl rfl ?_
      refine WD.a (i:=11) (d:=36) (by kernel_rfl) rfl z2 z3 rfl rfl rfl (fun _=>y1s rfl rfl) ?_
      refine WD.yN (.cons .here (.cons .here (.cons .here .nil))) ?_ zm2
      exact (.cons rfl (.cons rfl (.cons rfl (.cons rfl (.cons rfl (.cons rfl (.cons rfl (.cons rfl (.cons rfl (.cons (zi (Eq.symm zhF)) (.cons (zi (y20 zhF)) .nil)))))))))))
     ·have zhG:=hb'; clear hb'
      refine WD.pin (i:=30) rfl zhG ?_
      refine WD.a (i:=6) (d:=31) (by kernel_rfl) rfl z2 z3 rfl rfl rfl (fun _=>q_m rfl) ?_
      refine WD.a (i:=7) (d:=32) (by kernel_rfl) rfl z2 z3 rfl rfl rfl (fun _=>ya y4t rfl rfl) ?_
      refine WD.e (i:=8) (d:=33) (by kernel_rfl) rfl z2 z3 rfl rfl rfl (yb yl rfl (yd .h2 rfl)) ?_
      refine WD.e (i:=9) (d:=34) (by kernel_rfl) rfl z2 z3 rfl rfl rfl (y4s (k:=((nth zp zx).fNext)) (dflt:=(0 : Int)) y5m Try.underlying125 y6h rfl rfl rfl .h1) ?_
      refine WD.a (i:=10) (d:=35) (by kernel_rfl) rfl z2 z3 rfl rfl rfl (fun _=>y3t rfl rfl) ?_
      refine WD.a (i:=11) (d:=36) (by kernel_rfl) rfl z2 z3 rfl rfl rfl (fun _=>y1t rfl rfl) ?_
      refine WD.yN (.cons .here (.cons .here (.cons .here .nil))) ?_ zm2
      exact (.cons rfl (.cons rfl (.cons rfl (.cons rfl (.cons rfl (.cons rfl (.cons rfl (.cons rfl (.cons rfl (.cons (zi (Eq.symm zhG)) (.cons (zi (y21 zhG)) .nil)))))))))))
    refine WD.d #[true,true,true,true,true,true,true,true,true,true,true,true,false,false,false,false,false,false,false,false,false,false,false,false,false,false,false,false,false,false,false,false,false,false,false,false,false,false,false,false,false,false,false,false,false] (by kernel_rfl) ?_
    refine WD.a (i:=12) (d:=37) (by kernel_rfl) rfl z2 z3 rfl rfl rfl (fun _=>q_m rfl) ?_
    refine WD.mid (fuel':=12) [(1,(.int .i64 z2I)),(2,(.slice z2J zp.length z2K)),(3,(.pointer (some ⟨z7e,0,none⟩))),(7,(.map (some z7f))),(9,(.pointer (some ⟨z98,0,none⟩))),(11,(.slice z2J zp.length z2K)),(12,(.int .i64 ((zp.length : Nat) : Int))),(13,(.int .i64 zx)),(37,(.bool ((decide ((yB z1i ((nth zp zx).fNode) 0) = 0)) || (decide ((yB z1i ((nth zp zx).fNext) 0) > 0))))),(57,(.bool (((decide ((yB z1i ((nth zp zx).fNode) 0) = 0)) || (decide ((yB z1i ((nth zp zx).fNext) 0) > 0))) || (((decide (zx > 0)) && (decide (((nth zp zx).fNode) ≠ ((nth zp 0).fNode)))) && (decide (((nth zp zx).fNode) < ((zC.fModules.length : Nat) : Int)))))))] (y1z 45 [32,31,30,29,28,27,26,25,24,23,22,21,20,19,18,17,16,15,14,13,12,11,10,9,8,7,6,5,4,3,2,1,0]) ?_ (fun zm3=>?_)
    rotate_left
    ·rcases Bool.eq_false_or_eq_true ((decide ((yB z1i ((nth zp zx).fNode) 0) = 0)) || (decide ((yB z1i ((nth zp zx).fNext) 0) > 0))) with hb' | hb'
     ·have zhH:=hb'; clear hb'
      refine WD.pin (i:=37) rfl zhH ?_
      refine WD.b (i:=13) (d:=38) (by kernel_rfl) rfl z2 z3 rfl rfl rfl ?_
      refine WD.b (i:=14) (d:=39) (by kernel_rfl) rfl z2 z3 rfl rfl rfl ?_
      refine WD.b (i:=15) (d:=40) (by kernel_rfl) rfl z2 z3 rfl rfl rfl ?_
      refine WD.b (i:=16) (d:=41) (by kernel_rfl) rfl z2 z3 rfl rfl rfl ?_
      refine WD.b (i:=17) (d:=42) (by kernel_rfl) rfl z2 z3 rfl rfl rfl ?_
      refine WD.b (i:=18) (d:=43) (by kernel_rfl) rfl z2 z3 rfl rfl rfl ?_
      refine WD.b (i:=19) (d:=44) (by kernel_rfl) rfl z2 z3 rfl rfl rfl ?_
      refine WD.b (i:=20) (d:=45) (by kernel_rfl) rfl z2 z3 rfl rfl rfl ?_
      refine WD.b (i:=21) (d:=46) (by kernel_rfl) rfl z2 z3 rfl rfl rfl ?_
      refine WD.b (i:=22) (d:=47) (by kernel_rfl) rfl z2 z3 rfl rfl rfl ?_
      refine WD.b (i:=23) (d:=48) (by kernel_rfl) rfl z2 z3 rfl rfl rfl ?_
      refine WD.b (i:=24) (d:=49) (by kernel_rfl) rfl z2 z3 rfl rfl rfl ?_
      refine WD.b (i:=25) (d:=50) (by kernel_rfl) rfl z2 z3 rfl rfl rfl ?_
      refine WD.b (i:=26) (d:=51) (by kernel_rfl) rfl z2 z3 rfl rfl rfl ?_
      refine WD.b (i:=27) (d:=52) (by kernel_rfl) rfl z2 z3 rfl rfl rfl ?_
      refine WD.b (i:=28) (d:=53) (by kernel_rfl) rfl z2 z3 rfl rfl rfl ?_
      refine WD.b (i:=29) (d:=54) (by kernel_rfl) rfl z2 z3 rfl rfl rfl ?_
      refine WD.b (i:=30) (d:=55) (by kernel_rfl) rfl z2 z3 rfl rfl rfl ?_
      refine WD.b (i:=31) (d:=56) (by kernel_rfl) rfl z2 z3 rfl rfl rfl ?_
      refine WD.a (i:=32) (d:=57) (by kernel_rfl) rfl z2 z3 rfl rfl rfl (fun _=>y1s rfl rfl) ?_
      refine WD.yN (.cons .here (.cons .here (.cons .here .nil))) ?_ zm3
      exact (.cons rfl (.cons rfl (.cons rfl (.cons rfl (.cons rfl (.cons rfl (.cons rfl (.cons rfl (.cons (zi (Eq.symm zhH)) (.cons (zi (y20 zhH)) .nil))))))))))
     ·have zft:=hb'; clear hb'
      have zsp:=zso zft
      refine WD.pin (i:=37) rfl zft ?_
      refine WD.a (i:=13) (d:=38) (by kernel_rfl) rfl z2 z3 rfl rfl rfl (fun _=>q_m rfl) ?_
      refine WD.a (i:=14) (d:=39) (by kernel_rfl) rfl z2 z3 rfl rfl rfl (fun _=>y3t rfl rfl) ?_
      refine WD.a (i:=15) (d:=40) (by kernel_rfl) rfl z2 z3 rfl rfl rfl (fun _=>q_m rfl) ?_
      refine WD.mid (fuel':=21) [(1,(.int .i64 z2I)),(2,(.slice z2J zp.length z2K)),(3,(.pointer (some ⟨z7e,0,none⟩))),(7,(.map (some z7f))),(9,(.pointer (some ⟨z98,0,none⟩))),(11,(.slice z2J zp.length z2K)),(12,(.int .i64 ((zp.length : Nat) : Int))),(13,(.int .i64 zx)),(37,(.bool false)),(40,(.bool (decide (zx > 0)))),(48,(.bool ((decide (zx > 0)) && (decide (((nth zp zx).fNode) ≠ ((nth zp 0).fNode))))))] (y1z 45 [23,22,21,20,19,18,17,16,15,14,13,12,11,10,9,8,7,6,5,4,3,2,1,0]) ?_ (fun zm4=>?_)
      rotate_left
      ·rcases Bool.eq_false_or_eq_true (decide (zx > 0)) with hb' | hb'
       ·have zfu:=hb'; clear hb'
        have zsq:=zsp zfu
        refine WD.pin (i:=40) rfl zfu ?_
        refine WD.a (i:=16) (d:=41) (by kernel_rfl) rfl z2 z3 rfl rfl rfl (fun _=>ya y2F rfl rfl) ?_
        refine WD.e (i:=17) (d:=42) (by kernel_rfl) rfl z2 z3 rfl rfl rfl (yb yl rfl (yd .h2 rfl)) ?_
        refine WD.a (i:=18) (d:=43) (by kernel_rfl) rfl z2 z3 rfl rfl rfl (fun _=>q_m rfl) ?_
        refine WD.znth (j:=19) (dd:=44) (by kernel_rfl) rfl z2 z3 rfl rfl (Z:=Z) (Pr:=(fun r x=>r = e59 x)) y2W rfl rfl zm0 zsq ?_
        rintro zBc zBd zsr zBe rfl
        refine WD.a (i:=20) (d:=45) (by kernel_rfl) rfl z2 z3 rfl rfl rfl (fun _=>ya y2F rfl rfl) ?_
        refine WD.e (i:=21) (d:=46) (by kernel_rfl) rfl z2 z3 rfl rfl rfl (yb yl rfl (y22 hz.pv zsr rfl)) ?_
        refine WD.a (i:=22) (d:=47) (by kernel_rfl) rfl z2 z3 rfl rfl rfl (fun _=>q_neq rfl rfl) ?_
        refine WD.a (i:=23) (d:=48) (by kernel_rfl) rfl z2 z3 rfl rfl rfl (fun _=>y1s rfl rfl) ?_
        refine WD.yN (.cons .here (.cons .here (.cons .here .nil))) ?_ zm4
        exact (.cons rfl (.cons rfl (.cons rfl (.cons rfl (.cons rfl (.cons rfl (.cons rfl (.cons rfl (.cons rfl (.cons (zi (Eq.symm zfu)) (.cons (zi (y1d zfu)) .nil)))))))))))
       ·have zhI:=hb'; clear hb'
        refine WD.pin (i:=40) rfl zhI ?_
        refine WD.b (i:=16) (d:=41) (by kernel_rfl) rfl z2 z3 rfl rfl rfl ?_
        refine WD.b (i:=17) (d:=42) (by kernel_rfl) rfl z2 z3 rfl rfl rfl ?_
        refine WD.b (i:=18) (d:=43) (by kernel_rfl) rfl z2 z3 rfl rfl rfl ?_
        refine WD.b (i:=19) (d:=44) (by kernel_rfl) rfl z2 z3 rfl rfl rfl ?_
        refine WD.b (i:=20) (d:=45) (by kernel_rfl) rfl z2 z3 rfl rfl rfl ?_
        refine WD.b (i:=21) (d:=46) (by kernel_rfl) rfl z2 z3 rfl rfl rfl ?_
        refine WD.b (i:=22) (d:=47) (by kernel_rfl) rfl z2 z3 rfl rfl rfl ?_
        refine WD.a (i:=23) (d:=48) (by kernel_rfl) rfl z2 z3 rfl rfl rfl (fun _=>y1t rfl rfl) ?_
        refine WD.yN (.cons .here (.cons .here (.cons .here .nil))) ?_ zm4
        exact (.cons rfl (.cons rfl (.cons rfl (.cons rfl (.cons rfl (.cons rfl (.cons rfl (.cons rfl (.cons rfl (.cons (zi (Eq.symm zhI)) (.cons (zi (y1c zhI)) .nil)))))))))))
      refine WD.d #[true,true,true,true,true,true,true,true,true,true,true,true,true,true,true,true,true,true,true,true,true,true,true,true,false,false,false,false,false,false,false,false,false,false,false,false,false,false,false,false,false,false,false,false,false] (by kernel_rfl) ?_
      refine WD.a (i:=24) (d:=49) (by kernel_rfl) rfl z2 z3 rfl rfl rfl (fun _=>q_m rfl) ?_
      refine WD.mid (fuel':=13) [(1,(.int .i64 z2I)),(2,(.slice z2J zp.length z2K)),(3,(.pointer (some ⟨z7e,0,none⟩))),(7,(.map (some z7f))),(9,(.pointer (some ⟨z98,0,none⟩))),(11,(.slice z2J zp.length z2K)),(12,(.int .i64 ((zp.length : Nat) : Int))),(13,(.int .i64 zx)),(37,(.bool false)),(49,(.bool ((decide (zx > 0)) && (decide (((nth zp zx).fNode) ≠ ((nth zp 0).fNode)))))),(56,(.bool (((decide (zx > 0)) && (decide (((nth zp zx).fNode) ≠ ((nth zp 0).fNode)))) && (decide (((nth zp zx).fNode) < ((zC.fModules.length : Nat) : Int))))))] (y1z 45 [31,30,29,28,27,26,25,24,23,22,21,20,19,18,17,16,15,14,13,12,11,10,9,8,7,6,5,4,3,2,1,0]) ?_ (fun zm5=>?_)
      rotate_left
      ·rcases Bool.eq_false_or_eq_true ((decide (zx > 0)) && (decide (((nth zp zx).fNode) ≠ ((nth zp 0).fNode)))) with hb' | hb'
       ·have zhJ:=hb'; clear hb'
        refine WD.pin (i:=49) rfl zhJ ?_
        refine WD.a (i:=25) (d:=50) (by kernel_rfl) rfl z2 z3 rfl rfl rfl (fun _=>ya y2F rfl rfl) ?_
        refine WD.e (i:=26) (d:=51) (by kernel_rfl) rfl z2 z3 rfl rfl rfl (yb yl rfl (yd .h2 rfl)) ?_
        refine WD.a (i:=27) (d:=52) (by kernel_rfl) rfl z2 z3 rfl rfl rfl (fun _=>ya y3V rfl rfl) ?_
        refine WD.e (i:=28) (d:=53) (by kernel_rfl) rfl z2 z3 rfl rfl rfl (yb y3W rfl (yd .here rfl)) ?_
        refine WD.a (i:=29) (d:=54) (by kernel_rfl) rfl z2 z3 rfl rfl rfl (fun _=>yz Try.underlying22 rfl) ?_
        refine WD.a (i:=30) (d:=55) (by kernel_rfl) rfl z2 z3 rfl rfl rfl (fun _=>y39 rfl rfl) ?_
        refine WD.a (i:=31) (d:=56) (by kernel_rfl) rfl z2 z3 rfl rfl rfl (fun _=>y1s rfl rfl) ?_
        refine WD.yN (.cons .here (.cons .here (.cons .here .nil))) ?_ zm5
        exact (.cons rfl (.cons rfl (.cons rfl (.cons rfl (.cons rfl (.cons rfl (.cons rfl (.cons rfl (.cons rfl (.cons (zi (Eq.symm zhJ)) (.cons (zi (y1d zhJ)) .nil)))))))))))
       ·have zhK:=hb'; clear hb'
        refine WD.pin (i:=49) rfl zhK ?_
        refine WD.b (i:=25) (d:=50) (by kernel_rfl) rfl z2 z3 rfl rfl rfl ?_
        refine WD.b (i:=26) (d:=51) (by kernel_rfl) rfl z2 z3 rfl rfl rfl ?_
        refine WD.b (i:=27) (d:=52) (by kernel_rfl) rfl z2 z3 rfl rfl rfl ?_
        refine WD.b (i:=28) (d:=53) (by kernel_rfl) rfl z2 z3 rfl rfl rfl ?_
        refine WD.b (i:=29) (d:=54) (by kernel_rfl) rfl z2 z3 rfl rfl rfl ?_
        refine WD.b (i:=30) (d:=55) (by kernel_rfl) rfl z2 z3 rfl rfl rfl ?_
        refine WD.a (i:=31) (d:=56) (by kernel_rfl) rfl z2 z3 rfl rfl rfl (fun _=>y1t rfl rfl) ?_
        refine WD.yN (.cons .here (.cons .here (.cons .here .nil))) ?_ zm5
        exact (.cons rfl (.cons rfl (.cons rfl (.cons rfl (.cons rfl (.cons rfl (.cons rfl (.cons rfl (.cons rfl (.cons (zi (Eq.symm zhK)) (.cons (zi (y1c zhK)) .nil)))))))))))
      refine WD.d #[true,true,true,true,true,true,true,true,true,true,true,true,true,true,true,true,true,true,true,true,true,true,true,true,true,true,true,true,true,true,true,true,false,false,false,false,false,false,false,false,false,false,false,false,false] (by kernel_rfl) ?_
      refine WD.a (i:=32) (d:=57) (by kernel_rfl) rfl z2 z3 rfl rfl rfl (fun _=>y1t rfl rfl) ?_
      refine WD.yN (.cons .here (.cons .here (.cons .here .nil))) ?_ zm3
      exact (.cons rfl (.cons rfl (.cons rfl (.cons rfl (.cons rfl (.cons rfl (.cons rfl (.cons rfl (.cons (zi (Eq.symm zft)) (.cons (zi (y21 zft)) .nil))))))))))
    refine WD.d #[true,true,true,true,true,true,true,true,true,true,true,true,true,true,true,true,true,true,true,true,true,true,true,true,true,true,true,true,true,true,true,true,true,false,false,false,false,false,false,false,false,false,false,false,false] (by kernel_rfl) ?_
    refine WD.a (i:=33) (d:=58) (by kernel_rfl) rfl z2 z3 rfl rfl rfl (fun _=>q_m rfl) ?_
    refine WD.mid (fuel':=0) [(1,(.int .i64 z2I)),(2,(.slice z2J zp.length z2K)),(3,(.pointer (some ⟨z7e,0,none⟩))),(7,(.map (some z7f))),(9,(.pointer (some ⟨z98,0,none⟩))),(11,(.slice z2J zp.length z2K)),(12,(.int .i64 ((zp.length : Nat) : Int))),(13,(.int .i64 zx)),(58,(.bool (((decide ((yB z1i ((nth zp zx).fNode) 0) = 0)) || (decide ((yB z1i ((nth zp zx).fNext) 0) > 0))) || (((decide (zx > 0)) && (decide (((nth zp zx).fNode) ≠ ((nth zp 0).fNode)))) && (decide (((nth zp zx).fNode) < ((zC.fModules.length : Nat) : Int))))))),(69,(.bool zhC))] (y1z 45 [44,43,42,41,40,39,38,37,36,35,34,33,32,31,30,29,28,27,26,25,24,23,22,21,20,19,18,17,16,15,14,13,12,11,10,9,8,7,6,5,4,3,2,1,0]) ?_ (fun zm6=>?_)
    rotate_left
    ·rcases Bool.eq_false_or_eq_true (((decide ((yB z1i ((nth zp zx).fNode) 0) = 0)) || (decide ((yB z1i ((nth zp zx).fNext) 0) > 0))) || (((decide (zx > 0)) && (decide (((nth zp zx).fNode) ≠ ((nth zp 0).fNode)))) && (decide (((nth zp zx).fNode) < ((zC.fModules.length : Nat) : Int))))) with hb' | hb'
     ·have zhL:=hb'; clear hb'
      have zhM:=yg zm1 zhL
      replace zhM:=Option.some.inj zhM
      refine WD.pin (i:=58) rfl zhL ?_
      refine WD.b (i:=34) (d:=59) (by kernel_rfl) rfl z2 z3 rfl rfl rfl ?_
      refine WD.b (i:=35) (d:=60) (by kernel_rfl) rfl z2 z3 rfl rfl rfl ?_
      refine WD.b (i:=36) (d:=61) (by kernel_rfl) rfl z2 z3 rfl rfl rfl ?_
      refine WD.b (i:=37) (d:=62) (by kernel_rfl) rfl z2 z3 rfl rfl rfl ?_
      refine WD.b (i:=38) (d:=63) (by kernel_rfl) rfl z2 z3 rfl rfl rfl ?_
      refine WD.b (i:=39) (d:=64) (by kernel_rfl) rfl z2 z3 rfl rfl rfl ?_
      refine WD.b (i:=40) (d:=65) (by kernel_rfl) rfl z2 z3 rfl rfl rfl ?_
      refine WD.b (i:=41) (d:=66) (by kernel_rfl) rfl z2 z3 rfl rfl rfl ?_
      refine WD.b (i:=42) (d:=67) (by kernel_rfl) rfl z2 z3 rfl rfl rfl ?_
      refine WD.b (i:=43) (d:=68) (by kernel_rfl) rfl z2 z3 rfl rfl rfl ?_
      refine WD.a (i:=44) (d:=69) (by kernel_rfl) rfl z2 z3 rfl rfl rfl (fun _=>y1s rfl rfl) ?_
      refine WD.yN (.cons .here (.cons .here (.cons .here .nil))) ?_ zm6
      exact (.cons rfl (.cons rfl (.cons rfl (.cons rfl (.cons rfl (.cons rfl (.cons rfl (.cons rfl (.cons (zi (Eq.symm zhL)) (.cons (zi zhM) .nil))))))))))
     ·have zhN:=hb'; clear hb'
      have zdI:=yh zm1 zhN
      obtain ⟨zlZ,zss,zdI⟩:=z8 zdI
      replace zdI:=Option.some.inj zdI
      refine WD.pin (i:=58) rfl zhN ?_
      refine WD.e (i:=34) (d:=59) (by kernel_rfl) rfl z2 z3 rfl rfl rfl (yu yK rfl (yJ .here) rfl) ?_
      refine WD.a (i:=35) (d:=60) (by kernel_rfl) rfl z2 z3 rfl rfl rfl (fun _=>q_m rfl) ?_
      refine WD.a (i:=36) (d:=61) (by kernel_rfl) rfl z2 z3 rfl rfl rfl (fun _=>ya y5n rfl rfl) ?_
      refine WD.e (i:=37) (d:=62) (by kernel_rfl) rfl z2 z3 rfl rfl rfl (yb yl rfl (yd .h2 rfl)) ?_
      refine WD.a (i:=38) (d:=63) (by kernel_rfl) rfl z2 z3 rfl rfl rfl (fun _=>ya y2F rfl rfl) ?_
      refine WD.e (i:=39) (d:=64) (by kernel_rfl) rfl z2 z3 rfl rfl rfl (yb yl rfl (yd .h2 rfl)) ?_
      refine WD.a (i:=40) (d:=65) (by kernel_rfl) rfl z2 z3 rfl rfl rfl (fun _=>ya y4t rfl rfl) ?_
      refine WD.e (i:=41) (d:=66) (by kernel_rfl) rfl z2 z3 rfl rfl rfl (yb yl rfl (yd .h2 rfl)) ?_
      refine WD.c (i:=42) (d:=67) (by kernel_rfl) rfl z2 z3 rfl rfl rfl (zt (l:=[.tmp 59,.tmp 60,.tmp 62,.tmp 64,.tmp 66]) Try.call48 (.cons rfl (.cons rfl (.cons rfl (.cons rfl (.cons rfl .nil)))))) (cc hz .nil fun w pz ho=>y6K _ _ _ _ _ _ _ _ _ _ _ _ _ _ _ _ _ _ _ _ _ _ _ zss w pz zsc zsd zse zsf zsg zsh zsi zsj) ?_
      refine WD.a (i:=43) (d:=68) (by kernel_rfl) rfl z2 z3 rfl rfl rfl (fun _=>q_not rfl) ?_
      refine WD.a (i:=44) (d:=69) (by kernel_rfl) rfl z2 z3 rfl rfl rfl (fun _=>y1t rfl rfl) ?_
      refine WD.yN (.cons .here (.cons .here (.cons .here .nil))) ?_ zm6
      exact (.cons rfl (.cons rfl (.cons rfl (.cons rfl (.cons rfl (.cons rfl (.cons rfl (.cons rfl (.cons (zi (Eq.symm zhN)) (.cons (zi zdI) .nil))))))))))
    refine WD.d #[true,true,true,true,true,true,true,true,true,true,true,true,true,true,true,true,true,true,true,true,true,true,true,true,true,true,true,true,true,true,true,true,true,true,true,true,true,true,true,true,true,true,true,true,true] (by kernel_rfl) ?_
    refine WD.done (by kernel_rfl) ?_
    refine WX.a ?_
    refine WC.cond rfl (fun zhO=>?_) (fun zhO=>?_)
    ·replace h:=yg h zhO
     refine WC.b (WC.a (WL.pu rfl (WL.nil (WX.a (WC.ret (WX.yn (WX.yG (WX.yn (WX.yn (WX.yG (WX.yn ?_)))))))))))
     obtain rfl:=Option.some.inj h
     refine WX.yj Try.results36 (.tmp rfl .nil) (fun w hw=>?_)
     exact ⟨yL rfl,hw.sub .nil⟩
    ·replace h:=yh h zhO
     refine WC.skip (WX.a (WC.a (WL.pu rfl ?_)))
     refine WL.a (d:=71) rfl rfl rfl (ya y4t rfl rfl) ?_
     refine WL.a (d:=72) rfl rfl rfl (yb yl rfl (yd .h2 rfl)) ?_
     refine WL.a (d:=73) rfl rfl rfl (y4s (k:=((nth zp zx).fNext)) (dflt:=(0 : Int)) y5m Try.underlying125 y6h rfl rfl rfl .h1) ?_
     refine WL.pu rfl ?_
     refine WL.y10 rfl rfl (y54 (k:=((nth zp zx).fNext)) (v:=i64 ((yB z1i ((nth zp zx).fNext) 0) + 1)) y5m Try.underlying125 rfl rfl rfl rfl .h1) ?_
     refine WL.nil (WX.yf (WX.a (WC.a (WL.pu rfl (WL.pu rfl (WL.nil ?_))))))
     exact WX.round (G:=Nat × Int × (List (Int × Int))) ⟨zhB,(i64 (zx + 1)),(y1g z1i ((nth zp zx).fNext) (i64 ((yB z1i ((nth zp zx).fNext) 0) + 1)))⟩ h (Nat.lt_succ_self _) (.cons rfl (.cons rfl (.cons rfl (.cons rfl (.cons rfl (.cons rfl (.cons rfl .nil))))))) (.cons .h1 (.cons .here .nil))
  ·replace h:=yh h zhD
   refine WC.exit (WX.yk (WX.yk (WX.yC ?_)))
   exact WX.mid (G:=Unit) () h (.cons rfl .nil) .nil
 ·rintro  h
  replace h:=zsk.symm.trans h
  refine WC.b (WC.a (WL.pu rfl ?_))
  refine WL.a (d:=77) rfl rfl rfl (yz Try.underlying55 rfl) ?_
  refine WL.pu rfl (WL.pu rfl (WL.nil (WX.a (WC.ret ?_))))
  obtain rfl:=Option.some.inj h
  refine WX.yj Try.results36 (.tmp rfl .nil) (fun w hw=>?_)
  exact ⟨yL rfl,hw.sub .nil⟩
def yU (z99 : List Sapi_Hop) (z2L : Sapi_Config) (zfv : Int) : Option Bool :=
 (y2Y z2L zfv z99).bind fun zm7=>some (!zm7)
set_option maxRecDepth 20000 in
theorem y6k (Z : Zp) (zfw : Option Addr) (zfx : Nat) (zfy : Addr) (zm8 : Option Addr) (zm9 : Nat) (zma : Option Addr) (zmb : Nat) (zmc : Option Addr) (zmd : Nat) (zme : Option Addr) (zmf : Nat) (zmg : Option Addr) (zmh : Nat) (zmi : Option Addr) (zmj : Nat) (zmk : Option Addr) (zml : Nat) (zmm : Option Addr) (zmn : Nat) (zfz : Addr) (z99 : List Sapi_Hop) (z2L : Sapi_Config) (zfv : Int) (r : Bool)
  (h : yU z99 z2L zfv = some r) (w₀ : World) (hz : PZ [] w₀ Z)
  (zst : ZS Z 3 (fun r x=>r = e59 x) zfw zfx z99)
  (zsu : ZS Z 4 (y2h Z) zm8 zm9 z2L.fModules)
  (zsv : ZS Z 4 (y2x Z) zma zmb z2L.fChannels)
  (zsw : ZS Z 4 (fun r x=>r = e64 x) zmc zmd z2L.fSwitches)
  (zsx : ZS Z 4 (fun r x=>r = e62 x) zme zmf z2L.fLinks)
  (zsy : ZS Z 7 (y2p Z) zmg zmh z2L.fVLs)
  (zsz : ZS Z 5 (fun r x=>r = y2K x) zmi zmj z2L.fHealth)
  (zsA : ZS Z 3 (y2y Z) zmk zml z2L.fCauses)
  (zsB : ZS Z 4 (fun r x=>r = y2L x) zmm zmn z2L.fVersions)
  (zsC : ZC Z zfy [(.slice zm8 z2L.fModules.length zm9),(.slice zma z2L.fChannels.length zmb),(.slice zmc z2L.fSwitches.length zmd),(.slice zme z2L.fLinks.length zmf),(.slice zmg z2L.fVLs.length zmh),(.slice zmi z2L.fHealth.length zmj),(.slice zmk z2L.fCauses.length zml),(.slice zmm z2L.fVersions.length zmn)])
  (zsD : ZC Z zfz [(.int .i64 zfv)]) :
  Calls Try.prog 35 #[(.slice zfw z99.length zfx),(.pointer (some zfy)),(.pointer (some zfz))] w₀ fun e w'=>e = .returned (.bool r) ∧ Hp [] w₀ w' []:=by
 unfold yU at h
 refine Calls.yo (vs:=[(.slice zfw z99.length zfx),(.pointer (some zfy)),(.pointer (some zfz))]) (pre:=[]) (env:=[(0,(.slice zfw z99.length zfx)),(1,(.pointer (some zfy))),(2,(.pointer (some zfz)))]) Try.func35 rfl Try.ntmps35 rfl (Hp.nil w₀ _) rfl ?_
 refine WC.b (WC.a (WL.pu rfl (WL.nil (WX.a (WC.b ?_)))))
 obtain ⟨zm7,zsE,h⟩:=z8 h
 refine WC.a ?_
 refine WL.a (d:=5) rfl rfl rfl (yu yK rfl (y3H hz.pv zsC) rfl) ?_
 refine WL.a (d:=6) rfl rfl rfl (yb yl rfl (rd_z hz.pv zsD rfl)) ?_
 refine WL.pu rfl ?_
 refine WL.b (dd:=8) rfl rfl rfl (zt (l:=[.tmp 5,.tmp 6,.tmp 7]) Try.call36 (.cons rfl (.cons rfl (.cons rfl .nil)))) .nil (cc hz .nil fun w pz ho=>y6L _ _ _ _ _ _ _ _ _ _ _ _ _ _ _ _ _ _ _ _ _ _ _ zsE w pz zsu zsv zsw zsx zsy zsz zsA zsB zst) ?_
 refine WL.pu rfl (WL.pu rfl (WL.nil (WX.a (WC.ret ?_))))
 obtain rfl:=Option.some.inj h
 refine WX.yj Try.results35 (.tmp rfl .nil) (fun w hw=>?_)
 exact ⟨yL rfl,hw.sub .nil⟩
def yw (z30 : List (List Sapi_Hop)) (z5o : (List Sapi_Hop) → Option Bool) (z7g : Option Int) : Nat → Int → Option Int
 | 0,_=>none
 | zhP + 1,z3c=>if decide (z3c < ((z30.length : Nat) : Int)) then chk ((0 : Int) ≤ z3c ∧ z3c < ((z30.length : Nat) : Int)) ((z5o (nth z30 z3c)).bind fun zhQ=>if zhQ then some z3c else yw z30 z5o z7g zhP (i64 (z3c + 1))) else z7g
theorem y2S {n : Nat} {z30 : List (List Sapi_Hop)} {z5o : (List Sapi_Hop) → Option Bool} {z7g : Option Int} {z3c : Int} {r : Int} (h : yw z30 z5o z7g n z3c = some r) : ∃ m,n = m + 1:=by
 cases n with
 | zero=>cases h
 | succ m=>exact ⟨m,rfl⟩
def y1p (z30 : List (List Sapi_Hop)) (z5o : (List Sapi_Hop) → Option Bool) : Option Int :=
 jp0 (some (-1)) fun z7g=>yw z30 z5o z7g yP 0
set_option maxRecDepth 20000 in
theorem y3F (Z : Zp) (zdJ : Option Addr) (zdK : Nat) (z7h : FuncId) (z9a : List Value) (z30 : List (List Sapi_Hop)) (z5o : (List Sapi_Hop) → Option Bool) (r : Int)
  (h : y1p z30 z5o = some r) (w₀ : World) (hz : PZ [] w₀ Z)
  (zsF : ZS Z 1 (p55 Z) zdJ zdK z30)
  (zsG : ∀ args w,(callFunc z7h args).run Try.prog w = .ok (.enter z7h args) w)
  (zsH : ∀ w : World,PZ [] w Z → ∀ (x0 : List Sapi_Hop) (ao0 : Option Addr) (cap0 : Nat) (r : Bool),ZS Z 3 (fun r x=>r = e59 x) ao0 cap0 x0 → z5o x0 = some r → Calls Try.prog z7h (([(.slice ao0 x0.length cap0)] : List Value) ++ z9a).toArray w fun e w'=>e = .returned (.bool r) ∧ Hp [] w w' []) :
  Calls Try.prog 47 #[(.slice zdJ z30.length zdK),(.func (.func z7h) #[] (z9a).toArray)] w₀ fun e w'=>e = .returned (.int .i64 r) ∧ Hp [] w₀ w' []:=by
 unfold y1p at h
 refine Calls.yo (vs:=[(.slice zdJ z30.length zdK),(.func (.func z7h) #[] (z9a).toArray)]) (pre:=[]) (env:=[(0,(.slice zdJ z30.length zdK)),(1,(.func (.func z7h) #[] (z9a).toArray))]) Try.func47 rfl Try.ntmps47 rfl (Hp.nil w₀ _) rfl ?_
 refine WC.b (WC.a (WL.pu rfl (WL.nil (WX.a ?_))))
 obtain ⟨z7g,zsI,h⟩:=y2r h
 refine WC.y2b ((z7g = some r)) ([]) ([]) ?_ ?_
 ·skip
  refine WC.b (WC.a (WL.pu rfl ?_))
  refine WL.a (d:=7) rfl rfl rfl (yz Try.underlying32 rfl) ?_
  refine WL.pu rfl (WL.nil (WX.a (WC.block ?_)))
  refine WC.y3N (fun (zaH : Nat) (z3c : Int)=>(yw z30 z5o z7g zaH z3c = some r)) (fun (zaH : Nat) (z3c : Int)=>[(0,(.slice zdJ z30.length zdK)),(1,(.func (.func z7h) #[] (z9a).toArray)),(7,(.int .i64 ((z30.length : Nat) : Int))),(8,(.int .i64 z3c))]) (fun (zaH : Nat) (z3c : Int)=>[]) (fun (zaH : Nat) (z3c : Int)=>zaH) ⟨yP,0⟩ h (.cons rfl (.cons rfl (.cons rfl (.cons rfl .nil)))) .nil ?_
  rintro zaH z3c h
  obtain ⟨zhP,rfl⟩:=y2S h
  rw [yw] at h
  refine WC.b (WC.a (WL.pu rfl (WL.nil (WX.a (WC.b ?_)))))
  refine WC.cond rfl (fun zhR=>?_) (fun zhR=>?_)
  ·replace h:=yg h zhR
   refine WC.skip (WX.a (WC.b (WC.block (WC.b (WC.a (WL.pu rfl (WL.pu rfl (WL.nil (WX.a (WC.b ?_))))))))))
   obtain ⟨zsJ,h⟩:=ye h
   obtain ⟨zhQ,zsK,h⟩:=z8 h
   refine WC.a (WL.pu rfl (WL.pu rfl (WL.pu rfl ?_)))
   refine WL.znth (dd:=14) rfl rfl (Z:=Z) (Pr:=(p55 Z)) y2i rfl rfl zsF zsJ ?_
   rintro zBf zBg zsL zBh ⟨zsM,zsN,rfl,zsO⟩
   refine WL.a (d:=15) rfl rfl rfl (yb y5k rfl (rd_z hz.pv zsL rfl)) ?_
   refine WL.b (dd:=16) rfl rfl rfl (y3s (l:=[.tmp 15]) (f:=z7h) (caps:=z9a) zsG rfl (.cons rfl .nil)) .nil (fun w hw=>zsH w (hz.now hw) (nth z30 z3c) zsM zsN zhQ zsO zsK) ?_
   refine WL.nil (WX.a ?_)
   refine WC.cond rfl (fun zhS=>?_) (fun zhS=>?_)
   ·replace h:=yg h zhS
    refine WC.b (WC.a (WL.pu rfl (WL.pu rfl (WL.nil (WX.a (WC.ret (WX.yG (WX.yn (WX.yn (WX.yG (WX.yn ?_)))))))))))
    obtain rfl:=Option.some.inj h
    refine WX.yj Try.results47 (.tmp rfl .nil) (fun w hw=>?_)
    exact ⟨yL rfl,hw.sub .nil⟩
   ·replace h:=yh h zhS
    refine WC.skip (WX.yf (WX.a (WC.a (WL.pu rfl (WL.pu rfl (WL.nil ?_))))))
    exact WX.round (G:=Nat × Int) ⟨zhP,(i64 (z3c + 1))⟩ h (Nat.lt_succ_self _) (.cons rfl (.cons rfl (.cons rfl (.cons rfl .nil)))) .nil
  ·replace h:=yh h zhR
   refine WC.exit (WX.yk (WX.yk (WX.yC ?_)))
   exact WX.mid (G:=Unit) () h .nil .nil
 ·rintro  h
  replace h:=zsI.symm.trans h
  refine WC.b (WC.a (WL.pu rfl (WL.nil (WX.a (WC.ret ?_)))))
  obtain rfl:=Option.some.inj h
  refine WX.yj Try.results47 (.tmp rfl .nil) (fun w hw=>?_)
  exact ⟨yL rfl,hw.sub .nil⟩
def y1f (z9b : List (List Sapi_Hop)) (zaI : (List Sapi_Hop) → Option Bool) : Option Bool :=
 (y1p z9b zaI).bind fun zmo=>some (decide (zmo ≥ 0))
set_option maxRecDepth 20000 in
theorem y3l (Z : Zp) (zfA : Option Addr) (zfB : Nat) (z8k : FuncId) (zaJ : List Value) (z9b : List (List Sapi_Hop)) (zaI : (List Sapi_Hop) → Option Bool) (r : Bool)
  (h : y1f z9b zaI = some r) (w₀ : World) (hz : PZ [] w₀ Z)
  (zsP : ZS Z 1 (p55 Z) zfA zfB z9b)
  (zsQ : ∀ args w,(callFunc z8k args).run Try.prog w = .ok (.enter z8k args) w)
  (zsR : ∀ w : World,PZ [] w Z → ∀ (x0 : List Sapi_Hop) (ao0 : Option Addr) (cap0 : Nat) (r : Bool),ZS Z 3 (fun r x=>r = e59 x) ao0 cap0 x0 → zaI x0 = some r → Calls Try.prog z8k (([(.slice ao0 x0.length cap0)] : List Value) ++ zaJ).toArray w fun e w'=>e = .returned (.bool r) ∧ Hp [] w w' []) :
  Calls Try.prog 34 #[(.slice zfA z9b.length zfB),(.func (.func z8k) #[] (zaJ).toArray)] w₀ fun e w'=>e = .returned (.bool r) ∧ Hp [] w₀ w' []:=by
 unfold y1f at h
 refine Calls.yo (vs:=[(.slice zfA z9b.length zfB),(.func (.func z8k) #[] (zaJ).toArray)]) (pre:=[]) (env:=[(0,(.slice zfA z9b.length zfB)),(1,(.func (.func z8k) #[] (zaJ).toArray))]) Try.func34 rfl Try.ntmps34 rfl (Hp.nil w₀ _) rfl ?_
 refine WC.b (WC.a (WL.pu rfl (WL.nil (WX.a (WC.b ?_)))))
 obtain ⟨zmo,zsS,h⟩:=z8 h
 refine WC.a (WL.pu rfl (WL.pu rfl ?_))
 refine WL.b (dd:=7) rfl rfl rfl (zt (l:=[.tmp 5,.tmp 6]) Try.call47 (.cons rfl (.cons rfl .nil))) .nil (cc hz .nil fun w pz ho=>y3F _ _ _ (z7h:=z8k) (z9a:=zaJ) _ (z5o:=zaI) _ zsS w pz zsP zsQ zsR) ?_
 refine WL.pu rfl (WL.pu rfl (WL.nil (WX.a (WC.ret ?_))))
 obtain rfl:=Option.some.inj h
 refine WX.yj Try.results34 (.tmp rfl .nil) (fun w hw=>?_)
 exact ⟨yL rfl,hw.sub .nil⟩
def yA (zR : Sapi_Config) (z3r : Int) (z4E : List (List Sapi_Hop)) : Option Bool :=
 (if (((decide (z3r = 0)) || (decide (z3r = 1))) && (decide (((z4E.length : Nat) : Int) = ((zR.fVLs.length : Nat) : Int)))) && (decide (((z4E.length : Nat) : Int) ≤ 16)) then (y1f z4E (fun (y0 : List Sapi_Hop)=>yU y0 zR z3r)).bind fun zmp=>some (!zmp) else some false).bind fun zhT=>some zhT
set_option maxRecDepth 20000 in
theorem y1n (Z : Zp) (zdL : Option Addr) (zdM : Nat) (zdN : Option Addr) (zdO : Nat) (zdP : Option Addr) (zdQ : Nat) (zdR : Option Addr) (zdS : Nat) (zdT : Option Addr) (zdU : Nat) (zdV : Option Addr) (zdW : Nat) (zdX : Option Addr) (zdY : Nat) (zdZ : Option Addr) (ze0 : Nat) (zfC : Option Addr) (zfD : Nat) (zR : Sapi_Config) (z3r : Int) (z4E : List (List Sapi_Hop)) (r : Bool)
  (h : yA zR z3r z4E = some r) (w₀ : World) (hz : PZ [] w₀ Z)
  (zsT : ZS Z 4 (y2h Z) zdL zdM zR.fModules)
  (zsU : ZS Z 4 (y2x Z) zdN zdO zR.fChannels)
  (zsV : ZS Z 4 (fun r x=>r = e64 x) zdP zdQ zR.fSwitches)
  (zsW : ZS Z 4 (fun r x=>r = e62 x) zdR zdS zR.fLinks)
  (zsX : ZS Z 7 (y2p Z) zdT zdU zR.fVLs)
  (zsY : ZS Z 5 (fun r x=>r = y2K x) zdV zdW zR.fHealth)
  (zsZ : ZS Z 3 (y2y Z) zdX zdY zR.fCauses)
  (zt0 : ZS Z 4 (fun r x=>r = y2L x) zdZ ze0 zR.fVersions)
  (zt1 : ZS Z 1 (p55 Z) zfC zfD z4E) :
  Calls Try.prog 15 #[(.agg #[(.slice zdL zR.fModules.length zdM),(.slice zdN zR.fChannels.length zdO),(.slice zdP zR.fSwitches.length zdQ),(.slice zdR zR.fLinks.length zdS),(.slice zdT zR.fVLs.length zdU),(.slice zdV zR.fHealth.length zdW),(.slice zdX zR.fCauses.length zdY),(.slice zdZ zR.fVersions.length ze0)]),(.int .i64 z3r),(.slice zfC z4E.length zfD)] w₀ fun e w'=>e = .returned (.bool r) ∧ Hp [] w₀ w' []:=by
 unfold yA at h
 refine Calls.yo (vs:=[(.agg #[(.slice zdL zR.fModules.length zdM),(.slice zdN zR.fChannels.length zdO),(.slice zdP zR.fSwitches.length zdQ),(.slice zdR zR.fLinks.length zdS),(.slice zdT zR.fVLs.length zdU),(.slice zdV zR.fHealth.length zdW),(.slice zdX zR.fCauses.length zdY),(.slice zdZ zR.fVersions.length ze0)]),(.int .i64 z3r),(.slice zfC z4E.length zfD)]) (pre:=[]) (env:=[(0,(.agg #[(.slice zdL zR.fModules.length zdM),(.slice zdN zR.fChannels.length zdO),(.slice zdP zR.fSwitches.length zdQ),(.slice zdR zR.fLinks.length zdS),(.slice zdT zR.fVLs.length zdU),(.slice zdV zR.fHealth.length zdW),(.slice zdX zR.fCauses.length zdY),(.slice zdZ zR.fVersions.length ze0)])),(1,(.int .i64 z3r)),(2,(.slice zfC z4E.length zfD))]) Try.func15 rfl Try.ntmps15 rfl (Hp.nil w₀ _) rfl ?_
 refine WC.b (WC.a ?_)
 refine WL.new (dd:=3) rfl rfl rfl (y25 (cs:=[(.slice zdL zR.fModules.length zdM),(.slice zdN zR.fChannels.length zdO),(.slice zdP zR.fSwitches.length zdQ),(.slice zdR zR.fLinks.length zdS),(.slice zdT zR.fVLs.length zdU),(.slice zdV zR.fHealth.length zdW),(.slice zdX zR.fCauses.length zdY),(.slice zdZ zR.fVersions.length ze0)]) rfl rfl) ?_
 intro zt2 _
 refine WL.new (dd:=4) rfl rfl rfl (y25 (cs:=[(.int .i64 z3r)]) rfl rfl) ?_
 intro zt3 _
 refine WL.pu rfl (WL.nil (WX.a (WC.b ?_)))
 obtain ⟨zhT,zmq,h⟩:=z8 h
 refine WC.a ?_
 refine WL.a (d:=7) rfl rfl rfl (yb yl rfl (yd .here rfl)) ?_
 refine WL.pu rfl (WL.pu rfl ?_)
 refine WL.seg false 2 9 (B:=(decide (z3r = 0)) || (decide (z3r = 1))) rfl rfl rfl rfl rfl rfl (fun h=>(y20 h).symm) (fun _ zt4=>?_) ?_
 ·skip
  refine WL.a (d:=10) rfl rfl rfl (yb yl rfl (yd .here rfl)) ?_
  refine WL.pu rfl (WL.pu rfl ?_)
  exact WL.yi (y21 zt4) rfl rfl .all
 refine WL.pu rfl ?_
 refine WL.seg true 6 13 (B:=((decide (z3r = 0)) || (decide (z3r = 1))) && (decide (((z4E.length : Nat) : Int) = ((zR.fVLs.length : Nat) : Int)))) rfl rfl rfl rfl rfl rfl (fun h=>(y1c h).symm) (fun _ zt5=>?_) ?_
 ·skip
  refine WL.pu rfl ?_
  refine WL.a (d:=15) rfl rfl rfl (yz Try.underlying32 rfl) ?_
  refine WL.a (d:=16) rfl rfl rfl (ya y5i rfl rfl) ?_
  refine WL.a (d:=17) rfl rfl rfl (yb y5j rfl (yd .h1 rfl)) ?_
  refine WL.a (d:=18) rfl rfl rfl (yz Try.underlying26 rfl) ?_
  refine WL.pu rfl (WL.pu rfl ?_)
  exact WL.yi (y1d zt5) rfl rfl .all
 refine WL.pu rfl ?_
 refine WL.seg true 3 21 (B:=(((decide (z3r = 0)) || (decide (z3r = 1))) && (decide (((z4E.length : Nat) : Int) = ((zR.fVLs.length : Nat) : Int)))) && (decide (((z4E.length : Nat) : Int) ≤ 16))) rfl rfl rfl rfl rfl rfl (fun h=>(y1c h).symm) (fun _ zt6=>?_) ?_
 ·skip
  refine WL.pu rfl ?_
  refine WL.a (d:=23) rfl rfl rfl (yz Try.underlying32 rfl) ?_
  refine WL.pu rfl (WL.pu rfl ?_)
  exact WL.yi (y1d zt6) rfl rfl .all
 refine WL.pu rfl ?_
 refine WL.seg true 4 26 (B:=zhT) rfl rfl rfl rfl rfl rfl (fun h=>(Option.some.inj (yh zmq h)).symm) (fun _ zt7=>?_) ?_
 ·skip
  have ze1:=yg zmq zt7
  obtain ⟨zmp,zt8,ze1⟩:=z8 ze1
  replace ze1:=Option.some.inj ze1
  refine WL.pu rfl ?_
  refine WL.a (d:=28) rfl rfl rfl (y5D (Eos.caps (l:=[.tmp 3,.tmp 4]) (.cons rfl (.cons rfl .nil)))) ?_
  refine WL.b (dd:=29) rfl rfl rfl (zt (l:=[.tmp 27,.tmp 28]) Try.call34 (.cons rfl (.cons rfl .nil))) .nil (ccl hz .nil (.cons .h1 (.cons .here .nil)) fun w pz ho la=>y3l _ _ _ (z8k:=35) (zaJ:=[(.pointer (some ⟨zt2,0,none⟩)),(.pointer (some ⟨zt3,0,none⟩))]) _ (zaI:=(fun (y0 : List Sapi_Hop)=>yU y0 zR z3r)) _ zt8 w pz ((zt1.mono (Zle.left _ _)).weak (fun _ _ h=>yH (Zle.left _ _) h)) Try.call35 (fun w' hz' y0 ga0 gc0 r gh0 hr=>y6k _ _ _ _ _ _ _ _ _ _ _ _ _ _ _ _ _ _ _ _ _ _ _ _ _ hr w' hz' gh0 ((zsT.mono (Zle.left _ _)).weak (fun _ _ h=>yq (Zle.left _ _) h)) ((zsU.mono (Zle.left _ _)).weak (fun _ _ h=>ys (Zle.left _ _) h)) (zsV.mono (Zle.left _ _)) (zsW.mono (Zle.left _ _)) ((zsX.mono (Zle.left _ _)).weak (fun _ _ h=>yr (Zle.left _ _) h)) (zsY.mono (Zle.left _ _)) ((zsZ.mono (Zle.left _ _)).weak (fun _ _ h=>yt (Zle.left _ _) h)) (zt0.mono (Zle.left _ _)) ((la _ (.head _) _).stb) ((la _ (.tail _ (.head _)) _).stb))) ?_
  refine WL.pu rfl (WL.pu rfl ?_)
  exact WL.yi ze1 rfl rfl .all
 refine WL.pu rfl (WL.nil (WX.a (WC.ret ?_)))
 obtain rfl:=Option.some.inj h
 refine WX.yj Try.results15 (.tmp rfl .nil) (fun w hw=>?_)
 exact ⟨yL rfl,hw.sub .nil⟩
def y1O (zd : List zSt) (zD : Sapi_Config) (z7i : Option Bool) : Nat → Int → Option Bool
 | 0,_=>none
 | zhU + 1,zf=>if decide (zf < ((zd.length : Nat) : Int)) then chk ((0 : Int) ≤ zf ∧ zf < ((zd.length : Nat) : Int)) (chk (((((((decide (((nth zd zf).fTime) < 0)) || (decide (((nth zd zf).fTime) > 536870912))) || (decide (((nth zd zf).fVL) < 0))) || (decide (((nth zd zf).fVL) ≥ ((zD.fVLs.length : Nat) : Int)))) || (decide (((nth zd zf).fSize) < 1))) || (decide (((nth zd zf).fSize) > 72))) = false → ((decide (zf > 0)) = true → ((0 : Int) ≤ (i64 (zf - 1)) ∧ (i64 (zf - 1)) < ((zd.length : Nat) : Int)))) (if ((((((decide (((nth zd zf).fTime) < 0)) || (decide (((nth zd zf).fTime) > 536870912))) || (decide (((nth zd zf).fVL) < 0))) || (decide (((nth zd zf).fVL) ≥ ((zD.fVLs.length : Nat) : Int)))) || (decide (((nth zd zf).fSize) < 1))) || (decide (((nth zd zf).fSize) > 72))) || ((decide (zf > 0)) && (decide (((nth zd (i64 (zf - 1))).fTime) > ((nth zd zf).fTime)))) then some false else y1O zd zD z7i zhU (i64 (zf + 1)))) else z7i
theorem y56 {n : Nat} {zd : List zSt} {zD : Sapi_Config} {z7i : Option Bool} {zf : Int} {r : Bool} (h : y1O zd zD z7i n zf = some r) : ∃ m,n = m + 1:=by
 cases n with
 | zero=>cases h
 | succ m=>exact ⟨m,rfl⟩
def y3e (zD : Sapi_Config) (zd : List zSt) : Option Bool :=
 if decide (((zd.length : Nat) : Int) > 40) then some false else jp0 (some true) fun z7i=>y1O zd zD z7i yP 0
set_option maxRecDepth 20000 in
theorem y75 (Z : Zp) (zaK : Option Addr) (zaL : Nat) (zaM : Option Addr) (zaN : Nat) (zaO : Option Addr) (zaP : Nat) (zaQ : Option Addr) (zaR : Nat) (zaS : Option Addr) (zaT : Nat) (zaU : Option Addr) (zaV : Nat) (zaW : Option Addr) (zaX : Nat) (zaY : Option Addr) (zaZ : Nat) (z2B : Option Addr) (z2C : Nat) (zD : Sapi_Config) (zd : List zSt) (r : Bool)
  (h : y3e zD zd = some r) (w₀ : World) (hz : PZ [] w₀ Z)
  (zBi : ZS Z 4 (y2h Z) zaK zaL zD.fModules)
  (zBj : ZS Z 4 (y2x Z) zaM zaN zD.fChannels)
  (zBk : ZS Z 4 (fun r x=>r = e64 x) zaO zaP zD.fSwitches)
  (zBl : ZS Z 4 (fun r x=>r = e62 x) zaQ zaR zD.fLinks)
  (zBm : ZS Z 7 (y2p Z) zaS zaT zD.fVLs)
  (zBn : ZS Z 5 (fun r x=>r = y2K x) zaU zaV zD.fHealth)
  (zBo : ZS Z 3 (y2y Z) zaW zaX zD.fCauses)
  (zBp : ZS Z 4 (fun r x=>r = y2L x) zaY zaZ zD.fVersions)
  (zmr : ZS Z 3 (fun r x=>r = e53 x) z2B z2C zd) :
  Calls Try.prog 22 #[(.agg #[(.slice zaK zD.fModules.length zaL),(.slice zaM zD.fChannels.length zaN),(.slice zaO zD.fSwitches.length zaP),(.slice zaQ zD.fLinks.length zaR),(.slice zaS zD.fVLs.length zaT),(.slice zaU zD.fHealth.length zaV),(.slice zaW zD.fCauses.length zaX),(.slice zaY zD.fVersions.length zaZ)]),(.slice z2B zd.length z2C)] w₀ fun e w'=>e = .returned (.bool r) ∧ Hp [] w₀ w' []:=by
 unfold y3e at h
 refine Calls.yo (vs:=[(.agg #[(.slice zaK zD.fModules.length zaL),(.slice zaM zD.fChannels.length zaN),(.slice zaO zD.fSwitches.length zaP),(.slice zaQ zD.fLinks.length zaR),(.slice zaS zD.fVLs.length zaT),(.slice zaU zD.fHealth.length zaV),(.slice zaW zD.fCauses.length zaX),(.slice zaY zD.fVersions.length zaZ)]),(.slice z2B zd.length z2C)]) (pre:=[]) (env:=[(0,(.agg #[(.slice zaK zD.fModules.length zaL),(.slice zaM zD.fChannels.length zaN),(.slice zaO zD.fSwitches.length zaP),(.slice zaQ zD.fLinks.length zaR),(.slice zaS zD.fVLs.length zaT),(.slice zaU zD.fHealth.length zaV),(.slice zaW zD.fCauses.length zaX),(.slice zaY zD.fVersions.length zaZ)])),(1,(.slice z2B zd.length z2C))]) Try.func22 rfl Try.ntmps22 rfl (Hp.nil w₀ _) rfl ?_
 refine WC.b (WC.a ?_)
 refine WL.new (dd:=2) rfl rfl rfl (y25 (cs:=[(.slice zaK zD.fModules.length zaL),(.slice zaM zD.fChannels.length zaN),(.slice zaO zD.fSwitches.length zaP),(.slice zaQ zD.fLinks.length zaR),(.slice zaS zD.fVLs.length zaT),(.slice zaU zD.fHealth.length zaV),(.slice zaW zD.fCauses.length zaX),(.slice zaY zD.fVersions.length zaZ)]) rfl rfl) ?_
 intro z7j _
 refine WL.pu rfl (WL.nil (WX.a (WC.b (WC.b (WC.a (WL.pu rfl ?_))))))
 refine WL.a (d:=8) rfl rfl rfl (yz Try.underlying33 rfl) ?_
 refine WL.pu rfl (WL.nil (WX.a ?_))
 refine WC.cond rfl (fun zhV=>?_) (fun zhV=>?_)
 ·replace h:=yg h zhV
  refine WC.b (WC.a (WL.pu rfl (WL.nil (WX.a (WC.ret (WX.yn ?_))))))
  obtain rfl:=Option.some.inj h
  refine WX.yj Try.results22 (.tmp rfl .nil) (fun w hw=>?_)
  exact ⟨yL rfl,hw.sub .nil⟩
 ·replace h:=yh h zhV
  refine WC.skip (WX.a ?_)
  obtain ⟨z7i,zt9,h⟩:=y2r h
  refine WC.y2b ((z7i = some r)) ([]) ([]) ?_ ?_
  ·skip
   refine WC.b (WC.a (WL.pu rfl ?_))
   refine WL.a (d:=11) rfl rfl rfl (yz Try.underlying33 rfl) ?_
   refine WL.pu rfl (WL.nil (WX.a (WC.block ?_)))
   refine WC.y3N (fun (zb0 : Nat) (zf : Int)=>(y1O zd zD z7i zb0 zf = some r)) (fun (zb0 : Nat) (zf : Int)=>[(1,(.slice z2B zd.length z2C)),(2,(.pointer (some ⟨z7j,0,none⟩))),(10,(.slice z2B zd.length z2C)),(11,(.int .i64 ((zd.length : Nat) : Int))),(12,(.int .i64 zf))]) (fun (zb0 : Nat) (zf : Int)=>[stb z7j 31 [(.slice zaK zD.fModules.length zaL),(.slice zaM zD.fChannels.length zaN),(.slice zaO zD.fSwitches.length zaP),(.slice zaQ zD.fLinks.length zaR),(.slice zaS zD.fVLs.length zaT),(.slice zaU zD.fHealth.length zaV),(.slice zaW zD.fCauses.length zaX),(.slice zaY zD.fVersions.length zaZ)]]) (fun (zb0 : Nat) (zf : Int)=>zb0) ⟨yP,0⟩ h (.cons rfl (.cons rfl (.cons rfl (.cons rfl (.cons rfl .nil))))) (.cons .here .nil) ?_
   rintro zb0 zf h
   obtain ⟨zhU,rfl⟩:=y56 h
   rw [y1O] at h
   refine WC.b (WC.a (WL.pu rfl (WL.nil (WX.a (WC.b ?_)))))
   refine WC.cond rfl (fun zhW=>?_) (fun zhW=>?_)
   ·replace h:=yg h zhW
    refine WC.skip (WX.a (WC.b (WC.block (WC.b ?_))))
    obtain ⟨zta,h⟩:=ye h
    refine WC.a (WL.pu rfl ?_)
    refine WL.znth (dd:=15) rfl rfl (Z:=Z) (Pr:=(fun r x=>r = e53 x)) y2u rfl rfl zmr zta ?_
    rintro zBq zBr ztb zBs rfl
    refine WL.a (d:=16) rfl rfl rfl (yu y6X rfl (y3H hz.pv ztb) rfl) ?_
    refine WL.new (dd:=6) rfl rfl rfl (y2m (cs:=[(.int .i64 0),(.int .i64 0),(.int .i64 0)]) y6u rfl) ?_
    intro ze2 _
    refine WL.pu rfl ?_
    refine WL.y10 rfl rfl (y1W y6Y rfl rfl rfl .here rfl rfl rfl) ?_
    refine WL.nil (WX.a (WC.b ?_))
    obtain ⟨ztc,h⟩:=ye h
    refine WC.yV (fun i=>[].contains i) [] rfl ?_
    refine WD.a (i:=0) (d:=17) (by kernel_rfl) rfl z2 z3 rfl rfl rfl (fun _=>ya y3X rfl rfl) ?_
    refine WD.e (i:=1) (d:=18) (by kernel_rfl) rfl z2 z3 rfl rfl rfl (yb yl rfl (yd .here rfl)) ?_
    refine WD.a (i:=2) (d:=19) (by kernel_rfl) rfl z2 z3 rfl rfl rfl (fun _=>y39 rfl rfl) ?_
    refine WD.a (i:=3) (d:=20) (by kernel_rfl) rfl z2 z3 rfl rfl rfl (fun _=>q_m rfl) ?_
    refine WD.mid (fuel':=38) [(1,(.slice z2B zd.length z2C)),(2,(.pointer (some ⟨z7j,0,none⟩))),(10,(.slice z2B zd.length z2C)),(11,(.int .i64 ((zd.length : Nat) : Int))),(12,(.int .i64 zf)),(6,(.pointer (some ⟨ze2,0,none⟩))),(5,(.int .i64 zf)),(20,(.bool (decide (((nth zd zf).fTime) < 0)))),(24,(.bool ((decide (((nth zd zf).fTime) < 0)) || (decide (((nth zd zf).fTime) > 536870912)))))] (y1z 46 [7,6,5,4,3,2,1,0]) ?_ (fun zms=>?_)
    rotate_left
    ·rcases Bool.eq_false_or_eq_true (decide (((nth zd zf).fTime) < 0)) with hb' | hb'
     ·have zhX:=hb'; clear hb'
      refine WD.pin (i:=20) rfl zhX ?_
      refine WD.b (i:=4) (d:=21) (by kernel_rfl) rfl z2 z3 rfl rfl rfl ?_
      refine WD.b (i:=5) (d:=22) (by kernel_rfl) rfl z2 z3 rfl rfl rfl ?_
      refine WD.b (i:=6) (d:=23) (by kernel_rfl) rfl z2 z3 rfl rfl rfl ?_
      refine WD.a (i:=7) (d:=24) (by kernel_rfl) rfl z2 z3 rfl rfl rfl (fun _=>y1s rfl rfl) ?_
      refine WD.yN (.cons .here (.cons .here .nil)) ?_ zms
      exact (.cons rfl (.cons rfl (.cons rfl (.cons rfl (.cons rfl (.cons rfl (.cons rfl (.cons (zi (Eq.symm zhX)) (.cons (zi (y20 zhX)) .nil)))))))))
     ·have zhY:=hb'; clear hb'
      refine WD.pin (i:=20) rfl zhY ?_
      refine WD.a (i:=4) (d:=21) (by kernel_rfl) rfl z2 z3 rfl rfl rfl (fun _=>ya y3X rfl rfl) ?_
      refine WD.e (i:=5) (d:=22) (by kernel_rfl) rfl z2 z3 rfl rfl rfl (yb yl rfl (yd .here rfl)) ?_
      refine WD.a (i:=6) (d:=23) (by kernel_rfl) rfl z2 z3 rfl rfl rfl (fun _=>y3t rfl rfl) ?_
      refine WD.a (i:=7) (d:=24) (by kernel_rfl) rfl z2 z3 rfl rfl rfl (fun _=>y1t rfl rfl) ?_
      refine WD.yN (.cons .here (.cons .here .nil)) ?_ zms
      exact (.cons rfl (.cons rfl (.cons rfl (.cons rfl (.cons rfl (.cons rfl (.cons rfl (.cons (zi (Eq.symm zhY)) (.cons (zi (y21 zhY)) .nil)))))))))
    refine WD.d #[true,true,true,true,true,true,true,true,false,false,false,false,false,false,false,false,false,false,false,false,false,false,false,false,false,false,false,false,false,false,false,false,false,false,false,false,false,false,false,false,false,false,false,false,false,false] (by kernel_rfl) ?_
    refine WD.a (i:=8) (d:=25) (by kernel_rfl) rfl z2 z3 rfl rfl rfl (fun _=>q_m rfl) ?_
    refine WD.mid (fuel':=33) [(1,(.slice z2B zd.length z2C)),(2,(.pointer (some ⟨z7j,0,none⟩))),(10,(.slice z2B zd.length z2C)),(11,(.int .i64 ((zd.length : Nat) : Int))),(12,(.int .i64 zf)),(6,(.pointer (some ⟨ze2,0,none⟩))),(5,(.int .i64 zf)),(25,(.bool ((decide (((nth zd zf).fTime) < 0)) || (decide (((nth zd zf).fTime) > 536870912))))),(29,(.bool (((decide (((nth zd zf).fTime) < 0)) || (decide (((nth zd zf).fTime) > 536870912))) || (decide (((nth zd zf).fVL) < 0)))))] (y1z 46 [12,11,10,9,8,7,6,5,4,3,2,1,0]) ?_ (fun zmt=>?_)
    rotate_left
    ·rcases Bool.eq_false_or_eq_true ((decide (((nth zd zf).fTime) < 0)) || (decide (((nth zd zf).fTime) > 536870912))) with hb' | hb'
     ·have zhZ:=hb'; clear hb'
      refine WD.pin (i:=25) rfl zhZ ?_
      refine WD.b (i:=9) (d:=26) (by kernel_rfl) rfl z2 z3 rfl rfl rfl ?_
      refine WD.b (i:=10) (d:=27) (by kernel_rfl) rfl z2 z3 rfl rfl rfl ?_
      refine WD.b (i:=11) (d:=28) (by kernel_rfl) rfl z2 z3 rfl rfl rfl ?_
      refine WD.a (i:=12) (d:=29) (by kernel_rfl) rfl z2 z3 rfl rfl rfl (fun _=>y1s rfl rfl) ?_
      refine WD.yN (.cons .here (.cons .here .nil)) ?_ zmt
      exact (.cons rfl (.cons rfl (.cons rfl (.cons rfl (.cons rfl (.cons rfl (.cons rfl (.cons (zi (Eq.symm zhZ)) (.cons (zi (y20 zhZ)) .nil)))))))))
     ·have zi0:=hb'; clear hb'
      refine WD.pin (i:=25) rfl zi0 ?_
      refine WD.a (i:=9) (d:=26) (by kernel_rfl) rfl z2 z3 rfl rfl rfl (fun _=>ya y4M rfl rfl) ?_
      refine WD.e (i:=10) (d:=27) (by kernel_rfl) rfl z2 z3 rfl rfl rfl (yb yl rfl (yd .here rfl)) ?_
      refine WD.a (i:=11) (d:=28) (by kernel_rfl) rfl z2 z3 rfl rfl rfl (fun _=>y39 rfl rfl) ?_
      refine WD.a (i:=12) (d:=29) (by kernel_rfl) rfl z2 z3 rfl rfl rfl (fun _=>y1t rfl rfl) ?_
      refine WD.yN (.cons .here (.cons .here .nil)) ?_ zmt
      exact (.cons rfl (.cons rfl (.cons rfl (.cons rfl (.cons rfl (.cons rfl (.cons rfl (.cons (zi (Eq.symm zi0)) (.cons (zi (y21 zi0)) .nil)))))))))
    refine WD.d #[true,true,true,true,true,true,true,true,true,true,true,true,true,false,false,false,false,false,false,false,false,false,false,false,false,false,false,false,false,false,false,false,false,false,false,false,false,false,false,false,false,false,false,false,false,false] (by kernel_rfl) ?_
    refine WD.a (i:=13) (d:=30) (by kernel_rfl) rfl z2 z3 rfl rfl rfl (fun _=>q_m rfl) ?_
    refine WD.mid (fuel':=25) [(1,(.slice z2B zd.length z2C)),(2,(.pointer (some ⟨z7j,0,none⟩))),(10,(.slice z2B zd.length z2C)),(11,(.int .i64 ((zd.length : Nat) : Int))),(12,(.int .i64 zf)),(6,(.pointer (some ⟨ze2,0,none⟩))),(5,(.int .i64 zf)),(30,(.bool (((decide (((nth zd zf).fTime) < 0)) || (decide (((nth zd zf).fTime) > 536870912))) || (decide (((nth zd zf).fVL) < 0))))),(37,(.bool ((((decide (((nth zd zf).fTime) < 0)) || (decide (((nth zd zf).fTime) > 536870912))) || (decide (((nth zd zf).fVL) < 0))) || (decide (((nth zd zf).fVL) ≥ ((zD.fVLs.length : Nat) : Int))))))] (y1z 46 [20,19,18,17,16,15,14,13,12,11,10,9,8,7,6,5,4,3,2,1,0]) ?_ (fun zmu=>?_)
    rotate_left
    ·rcases Bool.eq_false_or_eq_true (((decide (((nth zd zf).fTime) < 0)) || (decide (((nth zd zf).fTime) > 536870912))) || (decide (((nth zd zf).fVL) < 0))) with hb' | hb'
     ·have zi1:=hb'; clear hb'
      refine WD.pin (i:=30) rfl zi1 ?_
      refine WD.b (i:=14) (d:=31) (by kernel_rfl) rfl z2 z3 rfl rfl rfl ?_
      refine WD.b (i:=15) (d:=32) (by kernel_rfl) rfl z2 z3 rfl rfl rfl ?_
      refine WD.b (i:=16) (d:=33) (by kernel_rfl) rfl z2 z3 rfl rfl rfl ?_
      refine WD.b (i:=17) (d:=34) (by kernel_rfl) rfl z2 z3 rfl rfl rfl ?_
      refine WD.b (i:=18) (d:=35) (by kernel_rfl) rfl z2 z3 rfl rfl rfl ?_
      refine WD.b (i:=19) (d:=36) (by kernel_rfl) rfl z2 z3 rfl rfl rfl ?_
      refine WD.a (i:=20) (d:=37) (by kernel_rfl) rfl z2 z3 rfl rfl rfl (fun _=>y1s rfl rfl) ?_
      refine WD.yN (.cons .here (.cons .here .nil)) ?_ zmu
      exact (.cons rfl (.cons rfl (.cons rfl (.cons rfl (.cons rfl (.cons rfl (.cons rfl (.cons (zi (Eq.symm zi1)) (.cons (zi (y20 zi1)) .nil)))))))))
     ·have zi2:=hb'; clear hb'
      refine WD.pin (i:=30) rfl zi2 ?_
      refine WD.a (i:=14) (d:=31) (by kernel_rfl) rfl z2 z3 rfl rfl rfl (fun _=>ya y4M rfl rfl) ?_
      refine WD.e (i:=15) (d:=32) (by kernel_rfl) rfl z2 z3 rfl rfl rfl (yb yl rfl (yd .here rfl)) ?_
      refine WD.a (i:=16) (d:=33) (by kernel_rfl) rfl z2 z3 rfl rfl rfl (fun _=>ya y5i rfl rfl) ?_
      refine WD.e (i:=17) (d:=34) (by kernel_rfl) rfl z2 z3 rfl rfl rfl (yb y5j rfl (yd .h1 rfl)) ?_
      refine WD.a (i:=18) (d:=35) (by kernel_rfl) rfl z2 z3 rfl rfl rfl (fun _=>yz Try.underlying26 rfl) ?_
      refine WD.a (i:=19) (d:=36) (by kernel_rfl) rfl z2 z3 rfl rfl rfl (fun _=>q_geq rfl rfl) ?_
      refine WD.a (i:=20) (d:=37) (by kernel_rfl) rfl z2 z3 rfl rfl rfl (fun _=>y1t rfl rfl) ?_
      refine WD.yN (.cons .here (.cons .here .nil)) ?_ zmu
      exact (.cons rfl (.cons rfl (.cons rfl (.cons rfl (.cons rfl (.cons rfl (.cons rfl (.cons (zi (Eq.symm zi2)) (.cons (zi (y21 zi2)) .nil)))))))))
    refine WD.d #[true,true,true,true,true,true,true,true,true,true,true,true,true,true,true,true,true,true,true,true,true,false,false,false,false,false,false,false,false,false,false,false,false,false,false,false,false,false,false,false,false,false,false,false,false,false] (by kernel_rfl) ?_
    refine WD.a (i:=21) (d:=38) (by kernel_rfl) rfl z2 z3 rfl rfl rfl (fun _=>q_m rfl) ?_
    refine WD.mid (fuel':=20) [(1,(.slice z2B zd.length z2C)),(2,(.pointer (some ⟨z7j,0,none⟩))),(10,(.slice z2B zd.length z2C)),(11,(.int .i64 ((zd.length : Nat) : Int))),(12,(.int .i64 zf)),(6,(.pointer (some ⟨ze2,0,none⟩))),(5,(.int .i64 zf)),(38,(.bool ((((decide (((nth zd zf).fTime) < 0)) || (decide (((nth zd zf).fTime) > 536870912))) || (decide (((nth zd zf).fVL) < 0))) || (decide (((nth zd zf).fVL) ≥ ((zD.fVLs.length : Nat) : Int)))))),(42,(.bool (((((decide (((nth zd zf).fTime) < 0)) || (decide (((nth zd zf).fTime) > 536870912))) || (decide (((nth zd zf).fVL) < 0))) || (decide (((nth zd zf).fVL) ≥ ((zD.fVLs.length : Nat) : Int)))) || (decide (((nth zd zf).fSize) < 1)))))] (y1z 46 [25,24,23,22,21,20,19,18,17,16,15,14,13,12,11,10,9,8,7,6,5,4,3,2,1,0]) ?_ (fun zmv=>?_)
    rotate_left
    ·rcases Bool.eq_false_or_eq_true ((((decide (((nth zd zf).fTime) < 0)) || (decide (((nth zd zf).fTime) > 536870912))) || (decide (((nth zd zf).fVL) < 0))) || (decide (((nth zd zf).fVL) ≥ ((zD.fVLs.length : Nat) : Int)))) with hb' | hb'
     ·have zi3:=hb'; clear hb'
      refine WD.pin (i:=38) rfl zi3 ?_
      refine WD.b (i:=22) (d:=39) (by kernel_rfl) rfl z2 z3 rfl rfl rfl ?_
      refine WD.b (i:=23) (d:=40) (by kernel_rfl) rfl z2 z3 rfl rfl rfl ?_
      refine WD.b (i:=24) (d:=41) (by kernel_rfl) rfl z2 z3 rfl rfl rfl ?_
      refine WD.a (i:=25) (d:=42) (by kernel_rfl) rfl z2 z3 rfl rfl rfl (fun _=>y1s rfl rfl) ?_
      refine WD.yN (.cons .here (.cons .here .nil)) ?_ zmv
      exact (.cons rfl (.cons rfl (.cons rfl (.cons rfl (.cons rfl (.cons rfl (.cons rfl (.cons (zi (Eq.symm zi3)) (.cons (zi (y20 zi3)) .nil)))))))))
     ·have zi4:=hb'; clear hb'
      refine WD.pin (i:=38) rfl zi4 ?_
      refine WD.a (i:=22) (d:=39) (by kernel_rfl) rfl z2 z3 rfl rfl rfl (fun _=>ya y5o rfl rfl) ?_
      refine WD.e (i:=23) (d:=40) (by kernel_rfl) rfl z2 z3 rfl rfl rfl (yb yl rfl (yd .here rfl)) ?_
      refine WD.a (i:=24) (d:=41) (by kernel_rfl) rfl z2 z3 rfl rfl rfl (fun _=>y39 rfl rfl) ?_
      refine WD.a (i:=25) (d:=42) (by kernel_rfl) rfl z2 z3 rfl rfl rfl (fun _=>y1t rfl rfl) ?_
      refine WD.yN (.cons .here (.cons .here .nil)) ?_ zmv
      exact (.cons rfl (.cons rfl (.cons rfl (.cons rfl (.cons rfl (.cons rfl (.cons rfl (.cons (zi (Eq.symm zi4)) (.cons (zi (y21 zi4)) .nil)))))))))
    refine WD.d #[true,true,true,true,true,true,true,true,true,true,true,true,true,true,true,true,true,true,true,true,true,true,true,true,true,true,false,false,false,false,false,false,false,false,false,false,false,false,false,false,false,false,false,false,false,false] (by kernel_rfl) ?_
    refine WD.a (i:=26) (d:=43) (by kernel_rfl) rfl z2 z3 rfl rfl rfl (fun _=>q_m rfl) ?_
    refine WD.mid (fuel':=15) [(1,(.slice z2B zd.length z2C)),(2,(.pointer (some ⟨z7j,0,none⟩))),(10,(.slice z2B zd.length z2C)),(11,(.int .i64 ((zd.length : Nat) : Int))),(12,(.int .i64 zf)),(6,(.pointer (some ⟨ze2,0,none⟩))),(5,(.int .i64 zf)),(43,(.bool (((((decide (((nth zd zf).fTime) < 0)) || (decide (((nth zd zf).fTime) > 536870912))) || (decide (((nth zd zf).fVL) < 0))) || (decide (((nth zd zf).fVL) ≥ ((zD.fVLs.length : Nat) : Int)))) || (decide (((nth zd zf).fSize) < 1))))),(47,(.bool ((((((decide (((nth zd zf).fTime) < 0)) || (decide (((nth zd zf).fTime) > 536870912))) || (decide (((nth zd zf).fVL) < 0))) || (decide (((nth zd zf).fVL) ≥ ((zD.fVLs.length : Nat) : Int)))) || (decide (((nth zd zf).fSize) < 1))) || (decide (((nth zd zf).fSize) > 72)))))] (y1z 46 [30,29,28,27,26,25,24,23,22,21,20,19,18,17,16,15,14,13,12,11,10,9,8,7,6,5,4,3,2,1,0]) ?_ (fun zmw=>?_)
    rotate_left
    ·rcases Bool.eq_false_or_eq_true (((((decide (((nth zd zf).fTime) < 0)) || (decide (((nth zd zf).fTime) > 536870912))) || (decide (((nth zd zf).fVL) < 0))) || (decide (((nth zd zf).fVL) ≥ ((zD.fVLs.length : Nat) : Int)))) || (decide (((nth zd zf).fSize) < 1))) with hb' | hb'
     ·have zi5:=hb'; clear hb'
      refine WD.pin (i:=43) rfl zi5 ?_
      refine WD.b (i:=27) (d:=44) (by kernel_rfl) rfl z2 z3 rfl rfl rfl ?_
      refine WD.b (i:=28) (d:=45) (by kernel_rfl) rfl z2 z3 rfl rfl rfl ?_
      refine WD.b (i:=29) (d:=46) (by kernel_rfl) rfl z2 z3 rfl rfl rfl ?_
      refine WD.a (i:=30) (d:=47) (by kernel_rfl) rfl z2 z3 rfl rfl rfl (fun _=>y1s rfl rfl) ?_
      refine WD.yN (.cons .here (.cons .here .nil)) ?_ zmw
      exact (.cons rfl (.cons rfl (.cons rfl (.cons rfl (.cons rfl (.cons rfl (.cons rfl (.cons (zi (Eq.symm zi5)) (.cons (zi (y20 zi5)) .nil)))))))))
     ·have zi6:=hb'; clear hb'
      refine WD.pin (i:=43) rfl zi6 ?_
      refine WD.a (i:=27) (d:=44) (by kernel_rfl) rfl z2 z3 rfl rfl rfl (fun _=>ya y5o rfl rfl) ?_
      refine WD.e (i:=28) (d:=45) (by kernel_rfl) rfl z2 z3 rfl rfl rfl (yb yl rfl (yd .here rfl)) ?_
      refine WD.a (i:=29) (d:=46) (by kernel_rfl) rfl z2 z3 rfl rfl rfl (fun _=>y3t rfl rfl) ?_
      refine WD.a (i:=30) (d:=47) (by kernel_rfl) rfl z2 z3 rfl rfl rfl (fun _=>y1t rfl rfl) ?_
      refine WD.yN (.cons .here (.cons .here .nil)) ?_ zmw
      exact (.cons rfl (.cons rfl (.cons rfl (.cons rfl (.cons rfl (.cons rfl (.cons rfl (.cons (zi (Eq.symm zi6)) (.cons (zi (y21 zi6)) .nil)))))))))
    refine WD.d #[true,true,true,true,true,true,true,true,true,true,true,true,true,true,true,true,true,true,true,true,true,true,true,true,true,true,true,true,true,true,true,false,false,false,false,false,false,false,false,false,false,false,false,false,false,false] (by kernel_rfl) ?_
    refine WD.a (i:=31) (d:=48) (by kernel_rfl) rfl z2 z3 rfl rfl rfl (fun _=>q_m rfl) ?_
    refine WD.mid (fuel':=0) [(1,(.slice z2B zd.length z2C)),(2,(.pointer (some ⟨z7j,0,none⟩))),(10,(.slice z2B zd.length z2C)),(11,(.int .i64 ((zd.length : Nat) : Int))),(12,(.int .i64 zf)),(48,(.bool ((((((decide (((nth zd zf).fTime) < 0)) || (decide (((nth zd zf).fTime) > 536870912))) || (decide (((nth zd zf).fVL) < 0))) || (decide (((nth zd zf).fVL) ≥ ((zD.fVLs.length : Nat) : Int)))) || (decide (((nth zd zf).fSize) < 1))) || (decide (((nth zd zf).fSize) > 72))))),(62,(.bool (((((((decide (((nth zd zf).fTime) < 0)) || (decide (((nth zd zf).fTime) > 536870912))) || (decide (((nth zd zf).fVL) < 0))) || (decide (((nth zd zf).fVL) ≥ ((zD.fVLs.length : Nat) : Int)))) || (decide (((nth zd zf).fSize) < 1))) || (decide (((nth zd zf).fSize) > 72))) || ((decide (zf > 0)) && (decide (((nth zd (i64 (zf - 1))).fTime) > ((nth zd zf).fTime)))))))] (y1z 46 [45,44,43,42,41,40,39,38,37,36,35,34,33,32,31,30,29,28,27,26,25,24,23,22,21,20,19,18,17,16,15,14,13,12,11,10,9,8,7,6,5,4,3,2,1,0]) ?_ (fun zmx=>?_)
    rotate_left
    ·rcases Bool.eq_false_or_eq_true ((((((decide (((nth zd zf).fTime) < 0)) || (decide (((nth zd zf).fTime) > 536870912))) || (decide (((nth zd zf).fVL) < 0))) || (decide (((nth zd zf).fVL) ≥ ((zD.fVLs.length : Nat) : Int)))) || (decide (((nth zd zf).fSize) < 1))) || (decide (((nth zd zf).fSize) > 72))) with hb' | hb'
     ·have zi7:=hb'; clear hb'
      refine WD.pin (i:=48) rfl zi7 ?_
      refine WD.b (i:=32) (d:=49) (by kernel_rfl) rfl z2 z3 rfl rfl rfl ?_
      refine WD.b (i:=33) (d:=50) (by kernel_rfl) rfl z2 z3 rfl rfl rfl ?_
      refine WD.b (i:=34) (d:=51) (by kernel_rfl) rfl z2 z3 rfl rfl rfl ?_
      refine WD.b (i:=35) (d:=52) (by kernel_rfl) rfl z2 z3 rfl rfl rfl ?_
      refine WD.b (i:=36) (d:=53) (by kernel_rfl) rfl z2 z3 rfl rfl rfl ?_
      refine WD.b (i:=37) (d:=54) (by kernel_rfl) rfl z2 z3 rfl rfl rfl ?_
      refine WD.b (i:=38) (d:=55) (by kernel_rfl) rfl z2 z3 rfl rfl rfl ?_
      refine WD.b (i:=39) (d:=56) (by kernel_rfl) rfl z2 z3 rfl rfl rfl ?_
      refine WD.b (i:=40) (d:=57) (by kernel_rfl) rfl z2 z3 rfl rfl rfl ?_
      refine WD.b (i:=41) (d:=58) (by kernel_rfl) rfl z2 z3 rfl rfl rfl ?_
      refine WD.b (i:=42) (d:=59) (by kernel_rfl) rfl z2 z3 rfl rfl rfl ?_
      refine WD.b (i:=43) (d:=60) (by kernel_rfl) rfl z2 z3 rfl rfl rfl ?_
      refine WD.b (i:=44) (d:=61) (by kernel_rfl) rfl z2 z3 rfl rfl rfl ?_
      refine WD.a (i:=45) (d:=62) (by kernel_rfl) rfl z2 z3 rfl rfl rfl (fun _=>y1s rfl rfl) ?_
      refine WD.yN (.cons .here (.cons .here .nil)) ?_ zmx
      exact (.cons rfl (.cons rfl (.cons rfl (.cons rfl (.cons rfl (.cons (zi (Eq.symm zi7)) (.cons (zi (y20 zi7)) .nil)))))))
     ·have zfE:=hb'; clear hb'
      have ztd:=ztc zfE
      refine WD.pin (i:=48) rfl zfE ?_
      refine WD.a (i:=32) (d:=49) (by kernel_rfl) rfl z2 z3 rfl rfl rfl (fun _=>q_m rfl) ?_
      refine WD.a (i:=33) (d:=50) (by kernel_rfl) rfl z2 z3 rfl rfl rfl (fun _=>y3t rfl rfl) ?_
      refine WD.a (i:=34) (d:=51) (by kernel_rfl) rfl z2 z3 rfl rfl rfl (fun _=>q_m rfl) ?_
      refine WD.mid (fuel':=1) [(1,(.slice z2B zd.length z2C)),(2,(.pointer (some ⟨z7j,0,none⟩))),(10,(.slice z2B zd.length z2C)),(11,(.int .i64 ((zd.length : Nat) : Int))),(12,(.int .i64 zf)),(48,(.bool false)),(51,(.bool (decide (zf > 0)))),(61,(.bool ((decide (zf > 0)) && (decide (((nth zd (i64 (zf - 1))).fTime) > ((nth zd zf).fTime))))))] (y1z 46 [44,43,42,41,40,39,38,37,36,35,34,33,32,31,30,29,28,27,26,25,24,23,22,21,20,19,18,17,16,15,14,13,12,11,10,9,8,7,6,5,4,3,2,1,0]) ?_ (fun zmy=>?_)
      rotate_left
      ·rcases Bool.eq_false_or_eq_true (decide (zf > 0)) with hb' | hb'
       ·have zfF:=hb'; clear hb'
        have zte:=ztd zfF
        refine WD.pin (i:=51) rfl zfF ?_
        refine WD.a (i:=35) (d:=52) (by kernel_rfl) rfl z2 z3 rfl rfl rfl (fun _=>q_m rfl) ?_
        refine WD.a (i:=36) (d:=53) (by kernel_rfl) rfl z2 z3 rfl rfl rfl (fun _=>q_m rfl) ?_
        refine WD.a (i:=37) (d:=54) (by kernel_rfl) rfl z2 z3 rfl rfl rfl (fun _=>y4y rfl rfl rfl) ?_
        refine WD.znth (j:=38) (dd:=55) (by kernel_rfl) rfl z2 z3 rfl rfl (Z:=Z) (Pr:=(fun r x=>r = e53 x)) y2u rfl rfl zmr zte ?_
        rintro zBt zBu ztf zBv rfl
        refine WD.a (i:=39) (d:=56) (by kernel_rfl) rfl z2 z3 rfl rfl rfl (fun _=>ya y3X rfl rfl) ?_
        refine WD.e (i:=40) (d:=57) (by kernel_rfl) rfl z2 z3 rfl rfl rfl (yb yl rfl (y22 hz.pv ztf rfl)) ?_
        refine WD.a (i:=41) (d:=58) (by kernel_rfl) rfl z2 z3 rfl rfl rfl (fun _=>ya y3X rfl rfl) ?_
        refine WD.e (i:=42) (d:=59) (by kernel_rfl) rfl z2 z3 rfl rfl rfl (yb yl rfl (yd .here rfl)) ?_
        refine WD.a (i:=43) (d:=60) (by kernel_rfl) rfl z2 z3 rfl rfl rfl (fun _=>y3t rfl rfl) ?_
        refine WD.a (i:=44) (d:=61) (by kernel_rfl) rfl z2 z3 rfl rfl rfl (fun _=>y1s rfl rfl) ?_
        refine WD.yN (.cons .here (.cons .here .nil)) ?_ zmy
        exact (.cons rfl (.cons rfl (.cons rfl (.cons rfl (.cons rfl (.cons rfl (.cons (zi (Eq.symm zfF)) (.cons (zi (y1d zfF)) .nil))))))))
       ·have zi8:=hb'; clear hb'
        refine WD.pin (i:=51) rfl zi8 ?_
        refine WD.b (i:=35) (d:=52) (by kernel_rfl) rfl z2 z3 rfl rfl rfl ?_
        refine WD.b (i:=36) (d:=53) (by kernel_rfl) rfl z2 z3 rfl rfl rfl ?_
        refine WD.b (i:=37) (d:=54) (by kernel_rfl) rfl z2 z3 rfl rfl rfl ?_
        refine WD.b (i:=38) (d:=55) (by kernel_rfl) rfl z2 z3 rfl rfl rfl ?_
        refine WD.b (i:=39) (d:=56) (by kernel_rfl) rfl z2 z3 rfl rfl rfl ?_
        refine WD.b (i:=40) (d:=57) (by kernel_rfl) rfl z2 z3 rfl rfl rfl ?_
        refine WD.b (i:=41) (d:=58) (by kernel_rfl) rfl z2 z3 rfl rfl rfl ?_
        refine WD.b (i:=42) (d:=59) (by kernel_rfl) rfl z2 z3 rfl rfl rfl ?_
        refine WD.b (i:=43) (d:=60) (by kernel_rfl) rfl z2 z3 rfl rfl rfl ?_
        refine WD.a (i:=44) (d:=61) (by kernel_rfl) rfl z2 z3 rfl rfl rfl (fun _=>y1t rfl rfl) ?_
        refine WD.yN (.cons .here (.cons .here .nil)) ?_ zmy
        exact (.cons rfl (.cons rfl (.cons rfl (.cons rfl (.cons rfl (.cons rfl (.cons (zi (Eq.symm zi8)) (.cons (zi (y1c zi8)) .nil))))))))
      refine WD.d #[true,true,true,true,true,true,true,true,true,true,true,true,true,true,true,true,true,true,true,true,true,true,true,true,true,true,true,true,true,true,true,true,true,true,true,true,true,true,true,true,true,true,true,true,true,false] (by kernel_rfl) ?_
      refine WD.a (i:=45) (d:=62) (by kernel_rfl) rfl z2 z3 rfl rfl rfl (fun _=>y1t rfl rfl) ?_
      refine WD.yN (.cons .here (.cons .here .nil)) ?_ zmx
      exact (.cons rfl (.cons rfl (.cons rfl (.cons rfl (.cons rfl (.cons (zi (Eq.symm zfE)) (.cons (zi (y21 zfE)) .nil)))))))
    refine WD.d #[true,true,true,true,true,true,true,true,true,true,true,true,true,true,true,true,true,true,true,true,true,true,true,true,true,true,true,true,true,true,true,true,true,true,true,true,true,true,true,true,true,true,true,true,true,true] (by kernel_rfl) ?_
    refine WD.done (by kernel_rfl) ?_
    refine WX.a ?_
    refine WC.cond rfl (fun zi9=>?_) (fun zi9=>?_)
    ·replace h:=yg h zi9
     refine WC.b (WC.a (WL.pu rfl (WL.nil (WX.a (WC.ret (WX.yG (WX.yn (WX.yn (WX.yG (WX.yn ?_))))))))))
     obtain rfl:=Option.some.inj h
     refine WX.yj Try.results22 (.tmp rfl .nil) (fun w hw=>?_)
     exact ⟨yL rfl,hw.sub .nil⟩
    ·replace h:=yh h zi9
     refine WC.skip (WX.yf (WX.a (WC.a (WL.pu rfl (WL.pu rfl (WL.nil ?_))))))
     exact WX.round (G:=Nat × Int) ⟨zhU,(i64 (zf + 1))⟩ h (Nat.lt_succ_self _) (.cons rfl (.cons rfl (.cons rfl (.cons rfl (.cons rfl .nil))))) (.cons .h1 .nil)
   ·replace h:=yh h zhW
    refine WC.exit (WX.yk (WX.yk (WX.yC ?_)))
    exact WX.mid (G:=Unit) () h .nil .nil
  ·rintro  h
   replace h:=zt9.symm.trans h
   refine WC.b (WC.a (WL.pu rfl (WL.nil (WX.a (WC.ret ?_)))))
   obtain rfl:=Option.some.inj h
   refine WX.yj Try.results22 (.tmp rfl .nil) (fun w hw=>?_)
   exact ⟨yL rfl,hw.sub .nil⟩
def y3R (c_39 : Sapi_Config) (net_64 : Int) (routes_65 : List (List Sapi_Hop)) (sent_69 : List zSt) : Option Bool :=
 (y43 c_39 routes_65 sent_69).bind fun zmz=>(if zmz then (yA c_39 net_64 routes_65).bind fun zmA=>some zmA else some false).bind fun zia=>(if zia then (y3e c_39 sent_69).bind fun zmB=>some zmB else some false).bind fun zib=>some zib
set_option maxRecDepth 20000 in
theorem y7I (Z : Zp) (ao_40 : Option Addr) (cap_41 : Nat) (ao_43 : Option Addr) (cap_44 : Nat) (ao_46 : Option Addr) (cap_47 : Nat) (ao_49 : Option Addr) (cap_50 : Nat) (ao_52 : Option Addr) (cap_53 : Nat) (ao_55 : Option Addr) (cap_56 : Nat) (ao_58 : Option Addr) (cap_59 : Nat) (ao_61 : Option Addr) (cap_62 : Nat) (ao_66 : Option Addr) (cap_67 : Nat) (ao_70 : Option Addr) (cap_71 : Nat) (c_39 : Sapi_Config) (net_64 : Int) (routes_65 : List (List Sapi_Hop)) (sent_69 : List zSt) (r : Bool)
  (h : y3R c_39 net_64 routes_65 sent_69 = some r) (w₀ : World) (hz : PZ [] w₀ Z)
  (hs_42 : ZS Z 4 (y2h Z) ao_40 cap_41 c_39.fModules)
  (hs_45 : ZS Z 4 (y2x Z) ao_43 cap_44 c_39.fChannels)
  (hs_48 : ZS Z 4 (fun r x=>r = e64 x) ao_46 cap_47 c_39.fSwitches)
  (hs_51 : ZS Z 4 (fun r x=>r = e62 x) ao_49 cap_50 c_39.fLinks)
  (hs_54 : ZS Z 7 (y2p Z) ao_52 cap_53 c_39.fVLs)
  (hs_57 : ZS Z 5 (fun r x=>r = y2K x) ao_55 cap_56 c_39.fHealth)
  (hs_60 : ZS Z 3 (y2y Z) ao_58 cap_59 c_39.fCauses)
  (hs_63 : ZS Z 4 (fun r x=>r = y2L x) ao_61 cap_62 c_39.fVersions)
  (hs_68 : ZS Z 1 (p55 Z) ao_66 cap_67 routes_65)
  (hs_72 : ZS Z 3 (fun r x=>r = e53 x) ao_70 cap_71 sent_69) :
  Calls Try.prog 20 #[(.agg #[(.slice ao_40 c_39.fModules.length cap_41),(.slice ao_43 c_39.fChannels.length cap_44),(.slice ao_46 c_39.fSwitches.length cap_47),(.slice ao_49 c_39.fLinks.length cap_50),(.slice ao_52 c_39.fVLs.length cap_53),(.slice ao_55 c_39.fHealth.length cap_56),(.slice ao_58 c_39.fCauses.length cap_59),(.slice ao_61 c_39.fVersions.length cap_62)]),(.int .i64 net_64),(.slice ao_66 routes_65.length cap_67),(.slice ao_70 sent_69.length cap_71)] w₀ fun e w'=>e = .returned (.bool r) ∧ Hp [] w₀ w' []:=by
 unfold y3R at h
 refine Calls.yo (vs:=[(.agg #[(.slice ao_40 c_39.fModules.length cap_41),(.slice ao_43 c_39.fChannels.length cap_44),(.slice ao_46 c_39.fSwitches.length cap_47),(.slice ao_49 c_39.fLinks.length cap_50),(.slice ao_52 c_39.fVLs.length cap_53),(.slice ao_55 c_39.fHealth.length cap_56),(.slice ao_58 c_39.fCauses.length cap_59),(.slice ao_61 c_39.fVersions.length cap_62)]),(.int .i64 net_64),(.slice ao_66 routes_65.length cap_67),(.slice ao_70 sent_69.length cap_71)]) (pre:=[]) (env:=[(0,(.agg #[(.slice ao_40 c_39.fModules.length cap_41),(.slice ao_43 c_39.fChannels.length cap_44),(.slice ao_46 c_39.fSwitches.length cap_47),(.slice ao_49 c_39.fLinks.length cap_50),(.slice ao_52 c_39.fVLs.length cap_53),(.slice ao_55 c_39.fHealth.length cap_56),(.slice ao_58 c_39.fCauses.length cap_59),(.slice ao_61 c_39.fVersions.length cap_62)])),(1,(.int .i64 net_64)),(2,(.slice ao_66 routes_65.length cap_67)),(3,(.slice ao_70 sent_69.length cap_71))]) Try.func20 rfl Try.ntmps20 rfl (Hp.nil w₀ _) rfl ?_
 refine WC.b (WC.a ?_)
 refine WL.new (dd:=4) rfl rfl rfl (y25 (cs:=[(.slice ao_40 c_39.fModules.length cap_41),(.slice ao_43 c_39.fChannels.length cap_44),(.slice ao_46 c_39.fSwitches.length cap_47),(.slice ao_49 c_39.fLinks.length cap_50),(.slice ao_52 c_39.fVLs.length cap_53),(.slice ao_55 c_39.fHealth.length cap_56),(.slice ao_58 c_39.fCauses.length cap_59),(.slice ao_61 c_39.fVersions.length cap_62)]) rfl rfl) ?_
 intro zBw _
 refine WL.pu rfl (WL.nil (WX.a (WC.b ?_)))
 obtain ⟨zmz,ztg,h⟩:=z8 h
 obtain ⟨zia,zmC,h⟩:=z8 h
 obtain ⟨zib,zmD,h⟩:=z8 h
 refine WC.a ?_
 refine WL.a (d:=9) rfl rfl rfl (yu yK rfl (yJ .here) rfl) ?_
 refine WL.pu rfl (WL.pu rfl ?_)
 refine WL.b (dd:=12) rfl rfl rfl (zt (l:=[.tmp 9,.tmp 10,.tmp 11]) Try.call10 (.cons rfl (.cons rfl (.cons rfl .nil)))) .nil (cc hz .nil fun w pz ho=>y7R _ _ _ _ _ _ _ _ _ _ _ _ _ _ _ _ _ _ _ _ _ _ _ _ _ ztg w pz hs_42 hs_45 hs_48 hs_51 hs_54 hs_57 hs_60 hs_63 hs_68 hs_72) ?_
 refine WL.pu rfl ?_
 refine WL.seg true 4 13 (B:=zia) rfl rfl rfl rfl rfl rfl (fun h=>(Option.some.inj (yh zmC h)).symm) (fun _ zth=>?_) ?_
 ·skip
  have ze3:=yg zmC zth
  obtain ⟨zmA,zti,ze3⟩:=z8 ze3
  replace ze3:=Option.some.inj ze3
  refine WL.a (d:=14) rfl rfl rfl (yu yK rfl (yJ .here) rfl) ?_
  refine WL.pu rfl (WL.pu rfl ?_)
  refine WL.b (dd:=17) rfl rfl rfl (zt (l:=[.tmp 14,.tmp 15,.tmp 16]) Try.call15 (.cons rfl (.cons rfl (.cons rfl .nil)))) .nil (cc hz .nil fun w pz ho=>y1n _ _ _ _ _ _ _ _ _ _ _ _ _ _ _ _ _ _ _ _ _ _ _ zti w pz hs_42 hs_45 hs_48 hs_51 hs_54 hs_57 hs_60 hs_63 hs_68) ?_
  refine WL.pu rfl ?_
  exact WL.yi ze3 rfl rfl .all
 refine WL.pu rfl ?_
 refine WL.seg true 3 19 (B:=zib) rfl rfl rfl rfl rfl rfl (fun h=>(Option.some.inj (yh zmD h)).symm) (fun _ ztj=>?_) ?_
 ·skip
  have ze4:=yg zmD ztj
  obtain ⟨zmB,ztk,ze4⟩:=z8 ze4
  replace ze4:=Option.some.inj ze4
  refine WL.a (d:=20) rfl rfl rfl (yu yK rfl (yJ .here) rfl) ?_
  refine WL.pu rfl ?_
  refine WL.b (dd:=22) rfl rfl rfl (zt (l:=[.tmp 20,.tmp 21]) Try.call22 (.cons rfl (.cons rfl .nil))) .nil (cc hz .nil fun w pz ho=>y75 _ _ _ _ _ _ _ _ _ _ _ _ _ _ _ _ _ _ _ _ _ _ ztk w pz hs_42 hs_45 hs_48 hs_51 hs_54 hs_57 hs_60 hs_63 hs_72) ?_
  refine WL.pu rfl ?_
  exact WL.yi ze4 rfl rfl .all
 refine WL.pu rfl (WL.nil (WX.a (WC.ret ?_)))
 obtain rfl:=Option.some.inj h
 refine WX.yj Try.results20 (.tmp rfl .nil) (fun w hw=>?_)
 exact ⟨yL rfl,hw.sub .nil⟩
def y4h (z7k : Int) : Option (Sapi_Config × List (List Sapi_Hop)) :=
 some ((⟨([(⟨⟨#[109]⟩,0,0,[]⟩ : Sapi_Module),(⟨⟨#[110]⟩,0,0,[]⟩ : Sapi_Module)] : List Sapi_Module),[],([(⟨⟨#[115]⟩,0,16,z7k⟩ : Sapi_Switch)] : List Sapi_Switch),([(⟨⟨#[109]⟩,⟨#[115]⟩,0,1⟩ : Sapi_Link),(⟨⟨#[110]⟩,⟨#[115]⟩,0,1⟩ : Sapi_Link)] : List Sapi_Link),([(⟨⟨#[]⟩,(⟨⟨#[]⟩,⟨#[]⟩,⟨#[]⟩⟩ : Sapi_Ref),0,0,[]⟩ : Sapi_VL)] : List Sapi_VL),[],[],[]⟩ : Sapi_Config),([([(⟨0,2,0⟩ : Sapi_Hop),(⟨2,1,1⟩ : Sapi_Hop)] : List Sapi_Hop)] : List (List Sapi_Hop)))
set_option maxRecDepth 20000 in
theorem y6M (Z : Zp)  (z7k : Int) (r : Sapi_Config × List (List Sapi_Hop))
  (h : y4h z7k = some r) (w₀ : World) (hz : PZ [] w₀ Z) :
  Calls Try.prog 23 #[(.int .i64 z7k)] w₀ fun e w'=>∃ Zn : Zp,∃ zmE : Option Addr,∃ zmF : Nat,∃ zmG : List Value,∃ zmH : Option Addr,∃ zmI : Nat,∃ zmJ : Option Addr,∃ zmK : Nat,∃ zmL : Option Addr,∃ zmM : Nat,∃ zmN : Option Addr,∃ zmO : Nat,∃ zmP : List Value,∃ zmQ : Option Addr,∃ zmR : Nat,∃ zmS : Option Addr,∃ zmT : Nat,∃ zmU : Option Addr,∃ zmV : Nat,∃ zmW : Option Addr,∃ zmX : Nat,∃ zmY : List Value,e = .returned (.tuple #[(.agg #[(.slice zmE r.1.fModules.length zmF),(.slice zmH r.1.fChannels.length zmI),(.slice zmJ r.1.fSwitches.length zmK),(.slice zmL r.1.fLinks.length zmM),(.slice zmN r.1.fVLs.length zmO),(.slice zmQ r.1.fHealth.length zmR),(.slice zmS r.1.fCauses.length zmT),(.slice zmU r.1.fVersions.length zmV)]),(.slice zmW r.2.length zmX)]) ∧ ((RR 4 (y2h (Z ++ Zn)) zmG r.1.fModules) ∧ (ZS (Z ++ Zn) 4 (y2x (Z ++ Zn)) zmH zmI r.1.fChannels) ∧ (RR 7 (y2p (Z ++ Zn)) zmP r.1.fVLs) ∧ (ZS (Z ++ Zn) 5 (fun r x=>r = y2K x) zmQ zmR r.1.fHealth) ∧ (ZS (Z ++ Zn) 3 (y2y (Z ++ Zn)) zmS zmT r.1.fCauses) ∧ (ZS (Z ++ Zn) 4 (fun r x=>r = y2L x) zmU zmV r.1.fVersions) ∧ (RR 1 (p55 (Z ++ Zn)) zmY r.2)) ∧ Hp [] w₀ w' [fz Zn,row (.slice zmE r.1.fModules.length zmF) 104 4 zmG,row (.slice zmJ r.1.fSwitches.length zmK) 64 4 (r.1.fSwitches.flatMap e64),row (.slice zmL r.1.fLinks.length zmM) 62 4 (r.1.fLinks.flatMap e62),row (.slice zmN r.1.fVLs.length zmO) 109 7 zmP,row (.slice zmW r.2.length zmX) 55 1 zmY]:=by
 unfold y4h at h
 refine Calls.yo (vs:=[(.int .i64 z7k)]) (pre:=[]) (env:=[(0,(.int .i64 z7k))]) Try.func23 rfl Try.ntmps23 rfl (Hp.nil w₀ _) rfl ?_
 refine WC.pool (WC.b (WC.a ?_))
 refine WL.new (dd:=2) rfl rfl rfl (y2m (cs:=[(.slice none 0 0),(.slice none 0 0),(.slice none 0 0),(.slice none 0 0),(.slice none 0 0),(.slice none 0 0),(.slice none 0 0),(.slice none 0 0)]) y6v rfl) ?_
 intro zBx _
 refine WL.pu rfl (WL.nil (WX.a (WC.b (WC.a ?_))))
 refine WL.a (d:=5) rfl rfl rfl (y1l (v:=(.agg #[(.string ⟨#[109]⟩),(.int .i64 0),(.int .i64 0),(.slice none 0 0)])) (Eos.parts (l:=[.const (.string ⟨#[109]⟩)]) (.cons rfl .nil) [0]) (fun _=>by kernel_rfl)) ?_
 refine WL.a (d:=6) rfl rfl rfl (y1l (v:=(.agg #[(.string ⟨#[110]⟩),(.int .i64 0),(.int .i64 0),(.slice none 0 0)])) (Eos.parts (l:=[.const (.string ⟨#[110]⟩)]) (.cons rfl .nil) [0]) (fun _=>by kernel_rfl)) ?_
 have ztl : RR 4 (y2h (Z ++ [])) [(.string ⟨#[109]⟩),(.int .i64 0),(.int .i64 0),(.slice none 0 0),(.string ⟨#[110]⟩),(.int .i64 0),(.int .i64 0),(.slice none 0 0)] ([(⟨⟨#[109]⟩,0,0,[]⟩ : Sapi_Module),(⟨⟨#[110]⟩,0,0,[]⟩ : Sapi_Module)] : List Sapi_Module):=(RR.cons (r:=[(.string ⟨#[109]⟩),(.int .i64 0),(.int .i64 0),(.slice none 0 0)]) rfl (show y2h _ _ _ from ⟨_,_,rfl,(ZS.nil _ _ _)⟩) (RR.cons (r:=[(.string ⟨#[110]⟩),(.int .i64 0),(.int .i64 0),(.slice none 0 0)]) rfl (show y2h _ _ _ from ⟨_,_,rfl,(ZS.nil _ _ _)⟩) (RR.nil _ _)))
 refine WL.new (dd:=7) rfl rfl rfl (yF (cs:=[(.string ⟨#[109]⟩),(.int .i64 0),(.int .i64 0),(.slice none 0 0),(.string ⟨#[110]⟩),(.int .i64 0),(.int .i64 0),(.slice none 0 0)]) elT_22 (Eos.parts (l:=[.tmp 5,.tmp 6]) (.cons rfl (.cons rfl .nil)) [0,1]) (fun _=>by kernel_rfl) rfl (by unfold maxLen; omega)) ?_
 intro zmZ _
 refine WL.pu rfl ?_
 refine WL.a (d:=9) rfl rfl rfl (y1l (v:=(.agg #[(.string ⟨#[115]⟩),(.int .i64 0),(.int .i64 16),(.int .i64 z7k)])) (Eos.parts (l:=[.const (.string ⟨#[115]⟩),.const (.int .i64 16),.tmp 8]) (.cons rfl (.cons rfl (.cons rfl .nil))) [0,2,3]) (fun _=>by kernel_rfl)) ?_
 refine WL.new (dd:=10) rfl rfl rfl (yF (cs:=([(⟨⟨#[115]⟩,0,16,z7k⟩ : Sapi_Switch)] : List Sapi_Switch).flatMap e64) y67 (Eos.parts (l:=[.tmp 9]) (.cons rfl .nil) [0]) (fun _=>by kernel_rfl) rfl (by unfold maxLen; omega)) ?_
 intro zn0 _
 refine WL.a (d:=11) rfl rfl rfl (y1l (v:=(.agg #[(.string ⟨#[109]⟩),(.string ⟨#[115]⟩),(.int .i64 0),(.int .i64 1)])) (Eos.parts (l:=[.const (.string ⟨#[109]⟩),.const (.string ⟨#[115]⟩),.const (.int .i64 1)]) (.cons rfl (.cons rfl (.cons rfl .nil))) [0,1,3]) (fun _=>by kernel_rfl)) ?_
 refine WL.a (d:=12) rfl rfl rfl (y1l (v:=(.agg #[(.string ⟨#[110]⟩),(.string ⟨#[115]⟩),(.int .i64 0),(.int .i64 1)])) (Eos.parts (l:=[.const (.string ⟨#[110]⟩),.const (.string ⟨#[115]⟩),.const (.int .i64 1)]) (.cons rfl (.cons rfl (.cons rfl .nil))) [0,1,3]) (fun _=>by kernel_rfl)) ?_
 refine WL.new (dd:=13) rfl rfl rfl (yF (cs:=([(⟨⟨#[109]⟩,⟨#[115]⟩,0,1⟩ : Sapi_Link),(⟨⟨#[110]⟩,⟨#[115]⟩,0,1⟩ : Sapi_Link)] : List Sapi_Link).flatMap e62) y7C (Eos.parts (l:=[.tmp 11,.tmp 12]) (.cons rfl (.cons rfl .nil)) [0,1]) (fun _=>by kernel_rfl) rfl (by unfold maxLen; omega)) ?_
 intro zn1 _
 refine WL.a (d:=14) rfl rfl rfl (y1l (v:=(.agg #[(.string ⟨#[]⟩),(.string ⟨#[]⟩),(.string ⟨#[]⟩),(.string ⟨#[]⟩),(.int .i64 0),(.int .i64 0),(.slice none 0 0)])) (Eos.parts (l:=[]) .nil []) (fun _=>by kernel_rfl)) ?_
 have ztm : RR 7 (y2p (Z ++ [])) [(.string ⟨#[]⟩),(.string ⟨#[]⟩),(.string ⟨#[]⟩),(.string ⟨#[]⟩),(.int .i64 0),(.int .i64 0),(.slice none 0 0)] ([(⟨⟨#[]⟩,(⟨⟨#[]⟩,⟨#[]⟩,⟨#[]⟩⟩ : Sapi_Ref),0,0,[]⟩ : Sapi_VL)] : List Sapi_VL):=(RR.cons (r:=[(.string ⟨#[]⟩),(.string ⟨#[]⟩),(.string ⟨#[]⟩),(.string ⟨#[]⟩),(.int .i64 0),(.int .i64 0),(.slice none 0 0)]) rfl (show y2p _ _ _ from ⟨_,_,rfl,(ZS.nil _ _ _)⟩) (RR.nil _ _))
 refine WL.new (dd:=15) rfl rfl rfl (yF (cs:=[(.string ⟨#[]⟩),(.string ⟨#[]⟩),(.string ⟨#[]⟩),(.string ⟨#[]⟩),(.int .i64 0),(.int .i64 0),(.slice none 0 0)]) elT_26 (Eos.parts (l:=[.tmp 14]) (.cons rfl .nil) [0]) (fun _=>by kernel_rfl) rfl (by unfold maxLen; omega)) ?_
 intro zn2 _
 refine WL.a (d:=16) rfl rfl rfl (y1l (v:=(.agg #[(.slice (some ⟨zmZ,0,none⟩) (([(⟨⟨#[109]⟩,0,0,[]⟩ : Sapi_Module),(⟨⟨#[110]⟩,0,0,[]⟩ : Sapi_Module)] : List Sapi_Module).length) 2),(.slice none 0 0),(.slice (some ⟨zn0,0,none⟩) (([(⟨⟨#[115]⟩,0,16,z7k⟩ : Sapi_Switch)] : List Sapi_Switch).length) 1),(.slice (some ⟨zn1,0,none⟩) (([(⟨⟨#[109]⟩,⟨#[115]⟩,0,1⟩ : Sapi_Link),(⟨⟨#[110]⟩,⟨#[115]⟩,0,1⟩ : Sapi_Link)] : List Sapi_Link).length) 2),(.slice (some ⟨zn2,0,none⟩) (([(⟨⟨#[]⟩,(⟨⟨#[]⟩,⟨#[]⟩,⟨#[]⟩⟩ : Sapi_Ref),0,0,[]⟩ : Sapi_VL)] : List Sapi_VL).length) 1),(.slice none 0 0),(.slice none 0 0),(.slice none 0 0)])) (Eos.parts (l:=[.tmp 7,.tmp 10,.tmp 13,.tmp 15]) (.cons rfl (.cons rfl (.cons rfl (.cons rfl .nil)))) [0,2,3,4]) (fun _=>by kernel_rfl)) ?_
 refine WL.new (dd:=4) rfl rfl rfl (y2m (cs:=[(.slice none 0 0),(.slice none 0 0),(.slice none 0 0),(.slice none 0 0),(.slice none 0 0),(.slice none 0 0),(.slice none 0 0),(.slice none 0 0)]) y6v rfl) ?_
 intro zBy _
 refine WL.y10 rfl rfl (y1W y6Z rfl rfl rfl .here rfl rfl rfl) ?_
 refine WL.nil (WX.a (WC.b (WC.a ?_)))
 refine WL.a (d:=17) rfl rfl rfl (yu yK rfl (yJ .here) rfl) ?_
 refine WL.a (d:=18) rfl rfl rfl (y1l (v:=(.agg #[(.int .i64 0),(.int .i64 2),(.int .i64 0)])) (Eos.parts (l:=[.const (.int .i64 0),.const (.int .i64 2),.const (.int .i64 0)]) (.cons rfl (.cons rfl (.cons rfl .nil))) [0,1,2]) (fun _=>by kernel_rfl)) ?_
 refine WL.a (d:=19) rfl rfl rfl (y1l (v:=(.agg #[(.int .i64 2),(.int .i64 1),(.int .i64 1)])) (Eos.parts (l:=[.const (.int .i64 2),.const (.int .i64 1),.const (.int .i64 1)]) (.cons rfl (.cons rfl (.cons rfl .nil))) [0,1,2]) (fun _=>by kernel_rfl)) ?_
 refine WL.new (dd:=20) rfl rfl rfl (yF (cs:=([(⟨0,2,0⟩ : Sapi_Hop),(⟨2,1,1⟩ : Sapi_Hop)] : List Sapi_Hop).flatMap e59) y2W (Eos.parts (l:=[.tmp 18,.tmp 19]) (.cons rfl (.cons rfl .nil)) [0,1]) (fun _=>by kernel_rfl) rfl (by unfold maxLen; omega)) ?_
 intro zfG _
 refine WL.freezeS (ls:=([(⟨0,2,0⟩ : Sapi_Hop),(⟨2,1,1⟩ : Sapi_Hop)] : List Sapi_Hop)) .here .h6 hz (RR.yE (enc:=e59) (fun _=>rfl) _) ?_
 intro zn3 zn4 ztn
 have zto : RR 1 (p55 (Z ++ zn3)) [(.slice (some ⟨zfG,0,none⟩) (([(⟨0,2,0⟩ : Sapi_Hop),(⟨2,1,1⟩ : Sapi_Hop)] : List Sapi_Hop).length) 2)] ([([(⟨0,2,0⟩ : Sapi_Hop),(⟨2,1,1⟩ : Sapi_Hop)] : List Sapi_Hop)] : List (List Sapi_Hop)):=(RR.cons (r:=[(.slice (some ⟨zfG,0,none⟩) (([(⟨0,2,0⟩ : Sapi_Hop),(⟨2,1,1⟩ : Sapi_Hop)] : List Sapi_Hop).length) 2)]) rfl (show p55 _ _ _ from ⟨_,_,rfl,ztn⟩) (RR.nil _ _))
 refine WL.new (dd:=21) rfl rfl rfl (yF (cs:=[(.slice (some ⟨zfG,0,none⟩) (([(⟨0,2,0⟩ : Sapi_Hop),(⟨2,1,1⟩ : Sapi_Hop)] : List Sapi_Hop).length) 2)]) y2i (Eos.parts (l:=[.tmp 20]) (.cons rfl .nil) [0]) (fun _=>by kernel_rfl) rfl (by unfold maxLen; omega)) ?_
 intro ztp _
 refine WL.y10 rfl rfl (y1W y6Z rfl rfl rfl .h7 rfl rfl rfl) ?_
 refine WL.pu rfl (WL.nil (WX.a (WC.ret ?_)))
 obtain rfl:=Option.some.inj h
 refine WX.yj Try.results23 (.agg rfl yK rfl (yJ .here) (.tmp rfl .nil)) (fun w hw=>?_)
 exact ⟨zn3,(some ⟨zmZ,0,none⟩),2,[(.string ⟨#[109]⟩),(.int .i64 0),(.int .i64 0),(.slice none 0 0),(.string ⟨#[110]⟩),(.int .i64 0),(.int .i64 0),(.slice none 0 0)],none,0,(some ⟨zn0,0,none⟩),1,(some ⟨zn1,0,none⟩),2,(some ⟨zn2,0,none⟩),1,[(.string ⟨#[]⟩),(.string ⟨#[]⟩),(.string ⟨#[]⟩),(.string ⟨#[]⟩),(.int .i64 0),(.int .i64 0),(.slice none 0 0)],none,0,none,0,none,0,(some ⟨ztp,0,none⟩),1,[(.slice (some ⟨zfG,0,none⟩) (([(⟨0,2,0⟩ : Sapi_Hop),(⟨2,1,1⟩ : Sapi_Hop)] : List Sapi_Hop).length) 2)],ret2 rfl rfl,⟨(ztl.weak (fun _ _ h=>yq zn4 h)),(ZS.nil _ _ _),(ztm.weak (fun _ _ h=>yr zn4 h)),(ZS.nil _ _ _),(ZS.nil _ _ _),(ZS.nil _ _ _),zto⟩,hw.sub (.cons .h2 (.cons .h6 (.cons .h5 (.cons .h4 (.cons .h3 (.cons .h1 .nil))))))⟩
end Go.Proofs.Ytinchjigeakocaa
