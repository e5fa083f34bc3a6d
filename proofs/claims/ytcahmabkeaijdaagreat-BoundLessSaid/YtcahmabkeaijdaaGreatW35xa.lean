/- A part of this claim's proof: models of functions, walks, plain laws. No conditions. -/
import Derived.Test.YtcahmabkeaijdaaGreatZMem
import Derived.Test.YtcahmabkeaijdaaGreatZEnt
import Derived.Test.YtcahmabkeaijdaaGreatShelf35
import Derived.Test.YtcahmabkeaijdaaGreatProg
set_option linter.all false
namespace Go.Proofs.YtcahmabkeaijdaaGreat
open Go Go.RowKit Sep
set_option maxRecDepth 30000
set_option maxHeartbeats 4000000
structure Sapi_Port where
 fName:ByteArray
 fKind:Int
 fOut:Bool
 fSize:Int
 fDepth:Int
 fRefresh:Int
 deriving Inhabited,DecidableEq
structure Sapi_Ins where
 fOp:Int
 fA:Int
 fB:Int
 fC:Int
 deriving Inhabited,DecidableEq
structure Sapi_Proc where
 fName:ByteArray
 fPrio:Int
 fPeriod:Int
 fLimit:Int
 fCode:List Sapi_Ins
 deriving Inhabited,DecidableEq
structure Sapi_Part where
 fName:ByteArray
 fPeriod:Int
 fLength:Int
 fMem:Int
 fSemas:List Int
 fEvents:Int
 fBoards:Int
 fBufs:List Int
 fP:List Sapi_Port
 fProcs:List Sapi_Proc
 deriving Inhabited,DecidableEq
structure z5P where
 fName:ByteArray
 fMem:Int
 fFrame:Int
 fParts:List Sapi_Part
 deriving Inhabited,DecidableEq
structure Sapi_Ref where
 fModule:ByteArray
 fPart:ByteArray
 fPort:ByteArray
 deriving Inhabited,DecidableEq
structure zfK where
 fFrom:Sapi_Ref
 fTo:List Sapi_Ref
 deriving Inhabited,DecidableEq
structure z7g where
 fName:ByteArray
 fNet:Int
 fDelay:Int
 fT:Int
 deriving Inhabited,DecidableEq
structure z6g where
 fA:ByteArray
 fB:ByteArray
 fNet:Int
 fSlow:Int
 deriving Inhabited,DecidableEq
structure zj where
 fName:ByteArray
 fFrom:Sapi_Ref
 fBag:Int
 fMax:Int
 fTo:List Sapi_Ref
 deriving Inhabited,DecidableEq
structure Sapi_Health where
 fModule:ByteArray
 fPart:ByteArray
 fFault:Int
 fLevel:Int
 fDo:Int
 deriving Inhabited,DecidableEq
structure Sapi_Report where
 fUnit:ByteArray
 fCode:Int
 deriving Inhabited,DecidableEq
structure Sapi_Cause where
 fUnit:ByteArray
 fNeeds:List Sapi_Report
 fUnless:List ByteArray
 deriving Inhabited,DecidableEq
structure Sapi_Version where
 fA:ByteArray
 fVA:Int
 fB:ByteArray
 fVB:Int
 deriving Inhabited,DecidableEq
structure zB where
 fM:List z5P
 fC0:List zfK
 fS:List z7g
 fK:List z6g
 fVLs:List zj
 fH:List Sapi_Health
 fU:List Sapi_Cause
 fV0:List Sapi_Version
 deriving Inhabited,DecidableEq
def e3(x:Int):List Value:=[(.int .i64 x)]
theorem e3_oc:∀ x,∀ u∈e3 x,u.oneCell'=true:=fun _=>ocB rfl
def e346(x:Sapi_Port):List Value:=[(.string x.fName),(.int .u8 x.fKind),(.bool x.fOut),(.int .i64 x.fSize),(.int .i64 x.fDepth),(.int .i64 x.fRefresh)]
def e351(x:Sapi_Ins):List Value:=[(.int .u8 x.fOp),(.int .i64 x.fA),(.int .i64 x.fB),(.int .i64 x.fC)]
def p349(Z:Zp)(r:List Value)(x:Sapi_Proc):Prop:=∃(ao0:Option Addr) (cap0:Nat),r=[(.string x.fName),(.int .i64 x.fPrio),(.int .i64 x.fPeriod),(.int .i64 x.fLimit),(.slice ao0 x.fCode.length cap0)]∧ZS Z 4 (fun r x=>r=e351 x) ao0 cap0 x.fCode
theorem yhr{Z Z':Zp}(k:Zle Z Z'){r:List Value}{x:Sapi_Proc}(h:p349 Z r x):p349 Z' r x:=by
 obtain⟨ao0,cap0,hr,h0⟩:=h
 exact⟨ao0,cap0,hr,h0.mono k⟩
def p340(Z:Zp)(r:List Value)(x:Sapi_Part):Prop:=∃(ao0:Option Addr) (cap0:Nat) (ao1:Option Addr) (cap1:Nat) (ao2:Option Addr) (cap2:Nat) (ao3:Option Addr) (cap3:Nat),r=[(.string x.fName),(.int .i64 x.fPeriod),(.int .i64 x.fLength),(.int .i64 x.fMem),(.slice ao0 x.fSemas.length cap0),(.int .i64 x.fEvents),(.int .i64 x.fBoards),(.slice ao1 x.fBufs.length cap1),(.slice ao2 x.fP.length cap2),(.slice ao3 x.fProcs.length cap3)]∧ZS Z 1 (fun r x=>r=e3 x) ao0 cap0 x.fSemas∧ZS Z 1 (fun r x=>r=e3 x) ao1 cap1 x.fBufs∧ZS Z 6 (fun r x=>r=e346 x) ao2 cap2 x.fP∧ZS Z 5 (p349 Z) ao3 cap3 x.fProcs
theorem yhs{Z Z':Zp}(k:Zle Z Z'){r:List Value}{x:Sapi_Part}(h:p340 Z r x):p340 Z' r x:=by
 obtain⟨ao0,cap0,ao1,cap1,ao2,cap2,ao3,cap3,hr,h0,h1,h2,h3⟩:=h
 exact⟨ao0,cap0,ao1,cap1,ao2,cap2,ao3,cap3,hr,h0.mono k,h1.mono k,h2.mono k,(h3.mono k).weak (fun _ _ h=>yhr k h)⟩
def y48(Z:Zp)(r:List Value)(x:z5P):Prop:=∃(ao0:Option Addr) (cap0:Nat),r=[(.string x.fName),(.int .i64 x.fMem),(.int .i64 x.fFrame),(.slice ao0 x.fParts.length cap0)]∧ZS Z 10 (p340 Z) ao0 cap0 x.fParts
theorem y1P{Z Z':Zp}(k:Zle Z Z'){r:List Value}{x:z5P}(h:y48 Z r x):y48 Z' r x:=by
 obtain⟨ao0,cap0,hr,h0⟩:=h
 exact⟨ao0,cap0,hr,(h0.mono k).weak (fun _ _ h=>yhs k h)⟩
def e43(x:Sapi_Ref):List Value:=[(.string x.fModule),(.string x.fPart),(.string x.fPort)]
def y4M(Z:Zp)(r:List Value)(x:zfK):Prop:=∃(ao0:Option Addr) (cap0:Nat),r=[(.string x.fFrom.fModule),(.string x.fFrom.fPart),(.string x.fFrom.fPort),(.slice ao0 x.fTo.length cap0)]∧ZS Z 3 (fun r x=>r=e43 x) ao0 cap0 x.fTo
theorem y1Y{Z Z':Zp}(k:Zle Z Z'){r:List Value}{x:zfK}(h:y4M Z r x):y4M Z' r x:=by
 obtain⟨ao0,cap0,hr,h0⟩:=h
 exact⟨ao0,cap0,hr,h0.mono k⟩
def e66(x:z7g):List Value:=[(.string x.fName),(.int .i64 x.fNet),(.int .i64 x.fDelay),(.int .i64 x.fT)]
def e64(x:z6g):List Value:=[(.string x.fA),(.string x.fB),(.int .i64 x.fNet),(.int .i64 x.fSlow)]
def p46(Z:Zp)(r:List Value)(x:zj):Prop:=∃(ao0:Option Addr) (cap0:Nat),r=[(.string x.fName),(.string x.fFrom.fModule),(.string x.fFrom.fPart),(.string x.fFrom.fPort),(.int .i64 x.fBag),(.int .i64 x.fMax),(.slice ao0 x.fTo.length cap0)]∧ZS Z 3 (fun r x=>r=e43 x) ao0 cap0 x.fTo
theorem y1m{Z Z':Zp}(k:Zle Z Z'){r:List Value}{x:zj}(h:p46 Z r x):p46 Z' r x:=by
 obtain⟨ao0,cap0,hr,h0⟩:=h
 exact⟨ao0,cap0,hr,h0.mono k⟩
theorem p46_oc{Z:Zp}{r:List Value}{x:zj}(h:p46 Z r x):∀ u∈r,u.oneCell'=true:=by
 obtain⟨ao0,cap0,hr,h0⟩:=h
 rw[hr];exact ocB rfl
def y4Z(x:Sapi_Health):List Value:=[(.string x.fModule),(.string x.fPart),(.int .u8 x.fFault),(.int .u8 x.fLevel),(.int .u8 x.fDo)]
def e344(x:Sapi_Report):List Value:=[(.string x.fUnit),(.int .i64 x.fCode)]
def e9(x:ByteArray):List Value:=[(.string x)]
def y4N(Z:Zp)(r:List Value)(x:Sapi_Cause):Prop:=∃(ao0:Option Addr) (cap0:Nat) (ao1:Option Addr) (cap1:Nat),r=[(.string x.fUnit),(.slice ao0 x.fNeeds.length cap0),(.slice ao1 x.fUnless.length cap1)]∧ZS Z 2 (fun r x=>r=e344 x) ao0 cap0 x.fNeeds∧ZS Z 1 (fun r x=>r=e9 x) ao1 cap1 x.fUnless
theorem y1Z{Z Z':Zp}(k:Zle Z Z'){r:List Value}{x:Sapi_Cause}(h:y4N Z r x):y4N Z' r x:=by
 obtain⟨ao0,cap0,ao1,cap1,hr,h0,h1⟩:=h
 exact⟨ao0,cap0,ao1,cap1,hr,h0.mono k,h1.mono k⟩
def y50(x:Sapi_Version):List Value:=[(.string x.fA),(.int .i64 x.fVA),(.string x.fB),(.int .i64 x.fVB)]
structure zd where
 fNode:Int
 fNext:Int
 fQ:Int
 deriving Inhabited,DecidableEq
def e62(x:zd):List Value:=[(.int .i64 x.fNode),(.int .i64 x.fNext),(.int .i64 x.fQ)]
def p48(Z:Zp)(r:List Value)(x:List zd):Prop:=∃(ao0:Option Addr) (cap0:Nat),r=[(.slice ao0 x.length cap0)]∧ZS Z 3 (fun r x=>r=e62 x) ao0 cap0 x
theorem y1Q{Z Z':Zp}(k:Zle Z Z'){r:List Value}{x:List zd}(h:p48 Z r x):p48 Z' r x:=by
 obtain⟨ao0,cap0,hr,h0⟩:=h
 exact⟨ao0,cap0,hr,h0.mono k⟩
theorem p48_oc{Z:Zp}{r:List Value}{x:List zd}(h:p48 Z r x):∀ u∈r,u.oneCell'=true:=by
 obtain⟨ao0,cap0,hr,h0⟩:=h
 rw[hr];exact ocB rfl
structure S7 where
 fX:Int
 fY:Int
 fSigned:Bool
 fCode:Int
 deriving Inhabited,DecidableEq
structure S13 where
 fMsg:ByteArray
 fAddr:Int
 deriving Inhabited,DecidableEq
structure za where
 fNode:Int
 fQ:Int
 deriving Inhabited,DecidableEq
structure zg where
 fNode:Int
 fQ:Int
 fDelay:Int
 fT:Int
 deriving Inhabited,DecidableEq
structure zl where
 fVL:Int
 fNode:Int
 fDelay:Int
 deriving Inhabited,DecidableEq
structure S37 where
 fP:List zg
 fEnds:List zl
 deriving Inhabited,DecidableEq
structure S49 where
 fC:zB
 fR:List (List zd)
 deriving Inhabited,DecidableEq
structure S60 where
 a0:Int
 a1:Int
 deriving Inhabited,DecidableEq
structure S80 where
 fSent:Int
 fNode:Int
 fTime:Int
 deriving Inhabited,DecidableEq
structure S82 where
 fTime:Int
 fVL:Int
 fSize:Int
 deriving Inhabited,DecidableEq
def e97(x:za):List Value:=[(.int .i64 x.fNode),(.int .i64 x.fQ)]
theorem ybI:∀ x,∀ u∈e97 x,u.oneCell'=true:=fun _=>ocB rfl
structure zO where
 fVl:Int
 fAt_:za
 deriving Inhabited,DecidableEq
def y2o(x:zO):List Value:=[(.int .i64 x.fVl),(.int .i64 x.fAt_.fNode),(.int .i64 x.fAt_.fQ)]
structure z2 where
 fN:Int
 fD:Int
 deriving Inhabited,DecidableEq
def yw(x:z2):List Value:=[(.int .i64 x.fN),(.int .i64 x.fD)]
theorem yc8:∀ x,∀ u∈yw x,u.oneCell'=true:=fun _=>ocB rfl
structure z7 where
 fBurst:z2
 fRate:z2
 deriving Inhabited,DecidableEq
def y1A(x:z7):List Value:=[(.int .i64 x.fBurst.fN),(.int .i64 x.fBurst.fD),(.int .i64 x.fRate.fN),(.int .i64 x.fRate.fD)]
theorem ygd:∀ x,∀ u∈y1A x,u.oneCell'=true:=fun _=>ocB rfl
def y1W(Z:Zp)(r:List Value)(x:List z7):Prop:=∃(ao0:Option Addr) (cap0:Nat),r=[(.slice ao0 x.length cap0)]∧ZS Z 4 (fun r x=>r=y1A x) ao0 cap0 x
theorem y3d{Z Z':Zp}(k:Zle Z Z'){r:List Value}{x:List z7}(h:y1W Z r x):y1W Z' r x:=by
 obtain⟨ao0,cap0,hr,h0⟩:=h
 exact⟨ao0,cap0,hr,h0.mono k⟩
theorem p173_oc{Z:Zp}{r:List Value}{x:List z7}(h:y1W Z r x):∀ u∈r,u.oneCell'=true:=by
 obtain⟨ao0,cap0,hr,h0⟩:=h
 rw[hr];exact ocB rfl
structure zSv where
 fRate:z2
 fL:z2
 deriving Inhabited,DecidableEq
structure z1C where
 fE:Int
 deriving Inhabited,DecidableEq
structure S152 where
 fTime:Int
 fIn_:Int
 fVl:Int
 fSent:Int
 fHop:zd
 deriving Inhabited,DecidableEq
structure S209 where
 fSlow:Int
 fDelay:Int
 fT:Int
 deriving Inhabited,DecidableEq
structure Sport_frame where
 fSize:Int
 fFin:Int
 deriving Inhabited,DecidableEq
structure S212 where
 fNumbers:S209
 fNow:Int
 fLast:Int
 fFrames:List Sport_frame
 deriving Inhabited,DecidableEq
def e39(x:Int):List Value:=[(.int .i64 x)]
def e58(x:zg):List Value:=[(.int .i64 x.fNode),(.int .i64 x.fQ),(.int .i64 x.fDelay),(.int .i64 x.fT)]
theorem yfc:∀ x,∀ u∈e58 x,u.oneCell'=true:=fun _=>ocB rfl
def e79(x:zl):List Value:=[(.int .i64 x.fVL),(.int .i64 x.fNode),(.int .i64 x.fDelay)]
theorem yfd:∀ x,∀ u∈e79 x,u.oneCell'=true:=fun _=>ocB rfl
def p49(Z:Zp)(r:List Value)(x:S49):Prop:=∃(ao0:Option Addr) (cap0:Nat) (ao1:Option Addr) (cap1:Nat) (ao2:Option Addr) (cap2:Nat) (ao3:Option Addr) (cap3:Nat) (ao4:Option Addr) (cap4:Nat) (ao5:Option Addr) (cap5:Nat) (ao6:Option Addr) (cap6:Nat) (ao7:Option Addr) (cap7:Nat) (ao8:Option Addr) (cap8:Nat),r=[(.slice ao0 x.fC.fM.length cap0),(.slice ao1 x.fC.fC0.length cap1),(.slice ao2 x.fC.fS.length cap2),(.slice ao3 x.fC.fK.length cap3),(.slice ao4 x.fC.fVLs.length cap4),(.slice ao5 x.fC.fH.length cap5),(.slice ao6 x.fC.fU.length cap6),(.slice ao7 x.fC.fV0.length cap7),(.slice ao8 x.fR.length cap8)]∧ZS Z 4 (y48 Z) ao0 cap0 x.fC.fM∧ZS Z 4 (y4M Z) ao1 cap1 x.fC.fC0∧ZS Z 4 (fun r x=>r=e66 x) ao2 cap2 x.fC.fS∧ZS Z 4 (fun r x=>r=e64 x) ao3 cap3 x.fC.fK∧ZS Z 7 (p46 Z) ao4 cap4 x.fC.fVLs∧ZS Z 5 (fun r x=>r=y4Z x) ao5 cap5 x.fC.fH∧ZS Z 3 (y4N Z) ao6 cap6 x.fC.fU∧ZS Z 4 (fun r x=>r=y50 x) ao7 cap7 x.fC.fV0∧ZS Z 1 (p48 Z) ao8 cap8 x.fR
def e5(x:Int):List Value:=[(.int .u8 x)]
theorem y2m:y66 Tryz.prog 31 8:=y4H (i:=Tryz.t31) Tryz.underlying31 rfl rfl
theorem y6Y:yO Tryz.prog 31 0 0:=yF (i:=Tryz.t22) Tryz.underlying31 rfl rfl (by decide) rfl
theorem y6Z:y5Q Tryz.prog 22:=y3O Tryz.underlying22 rfl
theorem yah:yO Tryz.prog 31 2 2:=yF (i:=Tryz.t24) Tryz.underlying31 rfl rfl (by decide) rfl
theorem yai:y5Q Tryz.prog 24:=y3O Tryz.underlying24 rfl
theorem y9f:yO Tryz.prog 31 3 3:=yF (i:=Tryz.t25) Tryz.underlying31 rfl rfl (by decide) rfl
theorem y9g:y5Q Tryz.prog 25:=y3O Tryz.underlying25 rfl
theorem y3E:yO Tryz.prog 31 4 4:=yF (i:=Tryz.t26) Tryz.underlying31 rfl rfl (by decide) rfl
theorem y4j:y5Q Tryz.prog 26:=y3O Tryz.underlying26 rfl
theorem y7h:elT Tryz.prog 32 48 1 24:=⟨Tryz.underlying32,⟨Tryz.t48,_,rfl,rfl,rfl,rfl,rfl⟩,by decide⟩
theorem y7E:y5Q Tryz.prog 48:=y3O Tryz.underlying48 rfl
theorem y7s:y2Q Tryz.prog 31 (.agg #[(.slice none 0 0),(.slice none 0 0),(.slice none 0 0),(.slice none 0 0),(.slice none 0 0),(.slice none 0 0),(.slice none 0 0),(.slice none 0 0)]):=y2D (i:=Tryz.t31) rfl rfl
theorem elT_22:elT Tryz.prog 22 108 4 56:=⟨Tryz.underlying22,⟨Tryz.t108,_,rfl,rfl,rfl,rfl,rfl⟩,by decide⟩
theorem ydc:elT Tryz.prog 24 66 4 40:=⟨Tryz.underlying24,⟨Tryz.t66,_,rfl,rfl,rfl,rfl,rfl⟩,by decide⟩
theorem ydd:elT Tryz.prog 25 64 4 48:=⟨Tryz.underlying25,⟨Tryz.t64,_,rfl,rfl,rfl,rfl,rfl⟩,by decide⟩
theorem y4U:elT Tryz.prog 26 46 7 104:=⟨Tryz.underlying26,⟨Tryz.t46,_,rfl,rfl,rfl,rfl,rfl⟩,by decide⟩
theorem yaj:y4q Tryz.prog 31 8:=y2C (i:=Tryz.t31) rfl
theorem y6e:elT Tryz.prog 48 62 3 24:=⟨Tryz.underlying48,⟨Tryz.t62,_,rfl,rfl,rfl,rfl,rfl⟩,by decide⟩
theorem y8g:y2Q Tryz.prog 38 (.agg #[(.slice none 0 0),(.slice none 0 0)]):=y2D (i:=Tryz.t38) rfl rfl
theorem yt:y5Q Tryz.prog 3:=y3O Tryz.underlying3 rfl
theorem y3Q:y66 Tryz.prog 62 3:=y4H (i:=Tryz.t62) Tryz.underlying62 rfl rfl
theorem y6L:y2Q Tryz.prog 62 (.agg #[(.int .i64 0),(.int .i64 0),(.int .i64 0)]):=y2D (i:=Tryz.t62) rfl rfl
theorem y70:y4q Tryz.prog 62 3:=y2C (i:=Tryz.t62) rfl
theorem y55:yO Tryz.prog 62 0 0:=yF (i:=Tryz.t3) Tryz.underlying62 rfl rfl (by decide) rfl
theorem y56:y2Q Tryz.prog 3 (.int .i64 0):=y2D (i:=Tryz.t3) rfl rfl
theorem y5t:KeyT Tryz.prog 3 (Value.int .i64):=keyT_int Tryz.underlying3
theorem y5T:yO Tryz.prog 62 1 1:=yF (i:=Tryz.t3) Tryz.underlying62 rfl rfl (by decide) rfl
theorem yc9:yO Tryz.prog 62 2 2:=yF (i:=Tryz.t3) Tryz.underlying62 rfl rfl (by decide) rfl
theorem aggT_64:y66 Tryz.prog 64 4:=y4H (i:=Tryz.t64) Tryz.underlying64 rfl rfl
theorem zeroT_64:y2Q Tryz.prog 64 (.agg #[(.string ⟨#[]⟩),(.string ⟨#[]⟩),(.int .i64 0),(.int .i64 0)]):=y2D (i:=Tryz.t64) rfl rfl
theorem sizT_64:y4q Tryz.prog 64 4:=y2C (i:=Tryz.t64) rfl
theorem fo_64_0:yO Tryz.prog 64 0 0:=yF (i:=Tryz.t9) Tryz.underlying64 rfl rfl (by decide) rfl
theorem yde:y5Q Tryz.prog 9:=y3O Tryz.underlying9 rfl
theorem fo_108_0:yO Tryz.prog 108 0 0:=yF (i:=Tryz.t9) Tryz.underlying108 rfl rfl (by decide) rfl
theorem fo_66_0:yO Tryz.prog 66 0 0:=yF (i:=Tryz.t9) Tryz.underlying66 rfl rfl (by decide) rfl
theorem fo_64_1:yO Tryz.prog 64 1 1:=yF (i:=Tryz.t9) Tryz.underlying64 rfl rfl (by decide) rfl
theorem fo_64_2:yO Tryz.prog 64 2 2:=yF (i:=Tryz.t3) Tryz.underlying64 rfl rfl (by decide) rfl
theorem yca:yO Tryz.prog 64 3 3:=yF (i:=Tryz.t3) Tryz.underlying64 rfl rfl (by decide) rfl
theorem aggT_66:y66 Tryz.prog 66 4:=y4H (i:=Tryz.t66) Tryz.underlying66 rfl rfl
theorem zeroT_66:y2Q Tryz.prog 66 (.agg #[(.string ⟨#[]⟩),(.int .i64 0),(.int .i64 0),(.int .i64 0)]):=y2D (i:=Tryz.t66) rfl rfl
theorem sizT_66:y4q Tryz.prog 66 4:=y2C (i:=Tryz.t66) rfl
theorem fo_66_1:yO Tryz.prog 66 1 1:=yF (i:=Tryz.t3) Tryz.underlying66 rfl rfl (by decide) rfl
theorem ydO:yO Tryz.prog 66 2 2:=yF (i:=Tryz.t3) Tryz.underlying66 rfl rfl (by decide) rfl
theorem yge:yO Tryz.prog 66 3 3:=yF (i:=Tryz.t3) Tryz.underlying66 rfl rfl (by decide) rfl
theorem y71:y4q Tryz.prog 38 2:=y2C (i:=Tryz.t38) rfl
theorem y6l:y66 Tryz.prog 38 2:=y4H (i:=Tryz.t38) Tryz.underlying38 rfl rfl
theorem yak:yO Tryz.prog 46 2 4:=yF (i:=Tryz.t3) Tryz.underlying46 rfl rfl (by decide) rfl
theorem y7F:yO Tryz.prog 46 3 5:=yF (i:=Tryz.t3) Tryz.underlying46 rfl rfl (by decide) rfl
theorem aggT_46:y66 Tryz.prog 46 7:=y4H (i:=Tryz.t46) Tryz.underlying46 rfl rfl
theorem y9m:y2Q Tryz.prog 97 (.agg #[(.int .i64 0),(.int .i64 0)]):=y2D (i:=Tryz.t97) rfl rfl
theorem ycb:y4q Tryz.prog 97 2:=y2C (i:=Tryz.t97) rfl
theorem y3R:y66 Tryz.prog 97 2:=y4H (i:=Tryz.t97) Tryz.underlying97 rfl rfl
theorem y5u:elT Tryz.prog 88 97 2 16:=⟨Tryz.underlying88,⟨Tryz.t97,_,rfl,rfl,rfl,rfl,rfl⟩,by decide⟩
theorem ydf:EqT Tryz.prog 97 e97:=⟨fun u v w=>by
 have i97_10000:=fun(w:World) (a b:Array Value)=>run_equalIn_agg (P:=Tryz.prog) w 9999 97 a b (by simp[Program.fieldsOf,Tryz.underlying97]) (by kernel_rfl)
 have i3_9999:=fun(w:World) (a b:Int)=>run_equalIn_int (P:=Tryz.prog) w 9998 3 .i64 .i64 a b Tryz.underlying3
 rw[i97_10000]
 simp[Program.fieldsOf,Op.eqFields,part,e97,i97_10000,Tryz.underlying97,i3_9999]
 rcases u with⟨u1,u2⟩
 rcases v with⟨v1,v2⟩
 by_cases h1:u1=v1 <;> by_cases h2:u2=v2 <;> simp[h1,h2],by kernel_rfl⟩
theorem y9h:yO Tryz.prog 97 0 0:=yF (i:=Tryz.t3) Tryz.underlying97 rfl rfl (by decide) rfl
theorem yal:yO Tryz.prog 97 1 1:=yF (i:=Tryz.t3) Tryz.underlying97 rfl rfl (by decide) rfl
theorem zj0:elT Tryz.prog 109 3 1 8:=⟨Tryz.underlying109,⟨Tryz.t3,_,rfl,rfl,rfl,rfl,rfl⟩,by decide⟩
theorem zeroT_93:y2Q Tryz.prog 93 (.map none):=y2D (i:=Tryz.t93) rfl rfl
theorem sizT_93:y4q Tryz.prog 93 1:=y2C (i:=Tryz.t93) rfl
theorem yam:y5Q Tryz.prog 93:=y3O Tryz.underlying93 rfl
theorem y7G:KeyT Tryz.prog 97 (fun x=>Value.agg (e97 x).toArray):=yf8 Tryz.underlying97 (fun _ _=>rfl) (fun b k w=>by
 have c3_9999:=fun(w:World) (a:Int)=>MapKept.run_checkKey (P:=Tryz.prog) (w:=w) (kt:=3) (k:=.int .i64 a) Tryz.underlying3 (by simp[MapKept.IsKey]) b 9998
 have ck:∀(w:World) (u0:Int) (u1:Int),(Instr.checkKey b 10000 97 (.agg #[.int .i64 u0,.int .i64 u1])).run Tryz.prog w = .ok () w:=fun w u0 u1=>by
  rw[show(10000:Nat)=9999+1 from rfl,Instr.checkKey]
  simp[run_underlying Tryz.underlying97,c3_9999,part]
 exact ck w k.fNode k.fQ)
 (fun u v w=>ydf.eq u v w)
 (fun k=>by simp[Instr.sameBits,e97])
theorem y5U:yO Tryz.prog 38 0 0:=yF (i:=Tryz.t35) Tryz.underlying38 rfl rfl (by decide) rfl
theorem y6m:y5Q Tryz.prog 35:=y3O Tryz.underlying35 rfl
theorem ycR:y2Q Tryz.prog 58 (.agg #[(.int .i64 0),(.int .i64 0),(.int .i64 0),(.int .i64 0)]):=y2D (i:=Tryz.t58) rfl rfl
theorem fo_95_1:yO Tryz.prog 95 1 8:=yF (i:=Tryz.t32) Tryz.underlying95 rfl rfl (by decide) rfl
theorem ygf:y5Q Tryz.prog 32:=y3O Tryz.underlying32 rfl
theorem y6n:yO Tryz.prog 95 0 0:=yF (i:=Tryz.t31) Tryz.underlying95 rfl rfl (by decide) rfl
theorem zT:y2Q Tryz.prog 132 (.agg #[(.int .i64 0),(.int .i64 0)]):=y2D (i:=Tryz.t132) rfl rfl
theorem zz:y4q Tryz.prog 132 2:=y2C (i:=Tryz.t132) rfl
theorem zf:y66 Tryz.prog 132 2:=y4H (i:=Tryz.t132) Tryz.underlying132 rfl rfl
theorem ydP:yO Tryz.prog 95 2 9:=yF (i:=Tryz.t92) Tryz.underlying95 rfl rfl (by decide) rfl
theorem ydQ:y5Q Tryz.prog 92:=y3O Tryz.underlying92 rfl
theorem zF0:EqT Tryz.prog 169 y2o:=⟨fun u v w=>by
 have i169_10000:=fun(w:World) (a b:Array Value)=>run_equalIn_agg (P:=Tryz.prog) w 9999 169 a b (by simp[Program.fieldsOf,Tryz.underlying169]) (by kernel_rfl)
 have i3_9999:=fun(w:World) (a b:Int)=>run_equalIn_int (P:=Tryz.prog) w 9998 3 .i64 .i64 a b Tryz.underlying3
 have i97_9999:=fun(w:World) (a b:Array Value)=>run_equalIn_agg (P:=Tryz.prog) w 9998 97 a b (by simp[Program.fieldsOf,Tryz.underlying97]) (by kernel_rfl)
 have i3_9998:=fun(w:World) (a b:Int)=>run_equalIn_int (P:=Tryz.prog) w 9997 3 .i64 .i64 a b Tryz.underlying3
 rw[i169_10000]
 simp[Program.fieldsOf,Op.eqFields,part,y2o,i169_10000,Tryz.underlying169,i3_9999,i97_9999,Tryz.underlying97,i3_9998]
 rcases u with⟨u1,⟨u2,u3⟩⟩
 rcases v with⟨v1,⟨v2,v3⟩⟩
 by_cases h1:u1=v1 <;> by_cases h2:u2=v2 <;> by_cases h3:u3=v3 <;> simp[h1,h2,h3],by kernel_rfl⟩
theorem zoE:KeyT Tryz.prog 169 (fun x=>Value.agg (y2o x).toArray):=yf8 Tryz.underlying169 (fun _ _=>rfl) (fun b k w=>by
 have c3_9999:=fun(w:World) (a:Int)=>MapKept.run_checkKey (P:=Tryz.prog) (w:=w) (kt:=3) (k:=.int .i64 a) Tryz.underlying3 (by simp[MapKept.IsKey]) b 9998
 have c3_9998:=fun(w:World) (a:Int)=>MapKept.run_checkKey (P:=Tryz.prog) (w:=w) (kt:=3) (k:=.int .i64 a) Tryz.underlying3 (by simp[MapKept.IsKey]) b 9997
 have c97_9999:∀(w:World) (u0:Int) (u1:Int),(Instr.checkKey b 9999 97 (.agg #[.int .i64 u0,.int .i64 u1])).run Tryz.prog w = .ok () w:=fun w u0 u1=>by
  rw[show(9999:Nat)=9998+1 from rfl,Instr.checkKey]
  simp[run_underlying Tryz.underlying97,c3_9998,part]
 have ck:∀(w:World) (u0:Int) (u1:Int) (u2:Int),(Instr.checkKey b 10000 169 (.agg #[.int .i64 u0,.int .i64 u1,.int .i64 u2])).run Tryz.prog w = .ok () w:=fun w u0 u1 u2=>by
  rw[show(10000:Nat)=9999+1 from rfl,Instr.checkKey]
  simp[run_underlying Tryz.underlying169,c3_9999,c97_9999,part]
 exact ck w k.fVl k.fAt_.fNode k.fAt_.fQ)
 (fun u v w=>zF0.eq u v w)
 (fun k=>by simp[Instr.sameBits,y2o])
theorem y2k:yO Tryz.prog 132 0 0:=yF (i:=Tryz.t3) Tryz.underlying132 rfl rfl (by decide) rfl
theorem yfe:y4q Tryz.prog 3 1:=y2C (i:=Tryz.t3) rfl
theorem ydR:yO Tryz.prog 95 3 10:=yF (i:=Tryz.t93) Tryz.underlying95 rfl rfl (by decide) rfl
theorem y2F:yO Tryz.prog 132 1 1:=yF (i:=Tryz.t3) Tryz.underlying132 rfl rfl (by decide) rfl
theorem y3S:KeyT Tryz.prog 9 Value.string:=keyT_str Tryz.underlying9
theorem zlX:y2Q Tryz.prog 257 .nilFunc:=y2D (i:=Tryz.t257) rfl rfl
theorem y9i:yO Tryz.prog 95 4 11:=yF (i:=Tryz.t39) Tryz.underlying95 rfl rfl (by decide) rfl
theorem y35:y5Q Tryz.prog 39:=y3O Tryz.underlying39 rfl
theorem yan:y4q Tryz.prog 39 1:=y2C (i:=Tryz.t39) rfl
theorem zoF:y2Q Tryz.prog 109 (.slice none 0 0):=y2D (i:=Tryz.t109) rfl rfl
theorem z6G:elT Tryz.prog 173 171 4 32:=⟨Tryz.underlying173,⟨Tryz.t171,_,rfl,rfl,rfl,rfl,rfl⟩,by decide⟩
theorem z82:elT Tryz.prog 128 173 1 24:=⟨Tryz.underlying128,⟨Tryz.t173,_,rfl,rfl,rfl,rfl,rfl⟩,by decide⟩
theorem z9R:y2Q Tryz.prog 171 (.agg #[(.int .i64 0),(.int .i64 0),(.int .i64 0),(.int .i64 0)]):=y2D (i:=Tryz.t171) rfl rfl
theorem z8G:y4q Tryz.prog 171 4:=y2C (i:=Tryz.t171) rfl
theorem y4O:yO Tryz.prog 171 0 0:=yF (i:=Tryz.t132) Tryz.underlying171 rfl rfl (by decide) rfl
theorem y5K:yO Tryz.prog 171 1 2:=yF (i:=Tryz.t132) Tryz.underlying171 rfl rfl (by decide) rfl
theorem z2K:y66 Tryz.prog 171 4:=y4H (i:=Tryz.t171) Tryz.underlying171 rfl rfl
theorem zF1:y2Q Tryz.prog 135 (.agg #[(.int .i64 0),(.int .i64 0),(.int .i64 0),(.int .i64 0)]):=y2D (i:=Tryz.t135) rfl rfl
theorem zF2:y4q Tryz.prog 135 4:=y2C (i:=Tryz.t135) rfl
theorem zfL:y66 Tryz.prog 135 4:=y4H (i:=Tryz.t135) Tryz.underlying135 rfl rfl
theorem z7h:y5Q Tryz.prog 128:=y3O Tryz.underlying128 rfl
theorem zxj:y2Q Tryz.prog 177 (.agg #[(.slice none 0 0),(.int .i64 0),(.int .i64 0),(.int .i64 0),(.int .i64 0),.nilFunc,(.slice none 0 0)]):=y2D (i:=Tryz.t177) rfl rfl
theorem zxk:y4q Tryz.prog 177 7:=y2C (i:=Tryz.t177) rfl
theorem yaT:yO Tryz.prog 177 2 5:=yF (i:=Tryz.t174) Tryz.underlying177 rfl rfl (by decide) rfl
theorem zxl:y4q Tryz.prog 174 1:=y2C (i:=Tryz.t174) rfl
theorem zfM:y66 Tryz.prog 177 7:=y4H (i:=Tryz.t177) Tryz.underlying177 rfl rfl
theorem y6M:yO Tryz.prog 177 0 0:=yF (i:=Tryz.t128) Tryz.underlying177 rfl rfl (by decide) rfl
theorem zbO:y5Q Tryz.prog 173:=y3O Tryz.underlying173 rfl
theorem yaU:yO Tryz.prog 177 1 1:=yF (i:=Tryz.t135) Tryz.underlying177 rfl rfl (by decide) rfl
theorem y8h:yO Tryz.prog 135 0 0:=yF (i:=Tryz.t132) Tryz.underlying135 rfl rfl (by decide) rfl
theorem y8i:yO Tryz.prog 135 1 2:=yF (i:=Tryz.t132) Tryz.underlying135 rfl rfl (by decide) rfl
theorem zlY:y2Q Tryz.prog 225 (.agg #[(.int .i64 0)]):=y2D (i:=Tryz.t225) rfl rfl
theorem zxm:y2Q Tryz.prog 262 (.agg #[(.int .i64 0)]):=y2D (i:=Tryz.t262) rfl rfl
theorem zoG:y2Q Tryz.prog 175 (.slice none 0 0):=y2D (i:=Tryz.t175) rfl rfl
theorem zxn:EqT Tryz.prog 171 y1A:=⟨fun u v w=>by
 have i171_10000:=fun(w:World) (a b:Array Value)=>run_equalIn_agg (P:=Tryz.prog) w 9999 171 a b (by simp[Program.fieldsOf,Tryz.underlying171]) (by kernel_rfl)
 have i132_9999:=fun(w:World) (a b:Array Value)=>run_equalIn_agg (P:=Tryz.prog) w 9998 132 a b (by simp[Program.fieldsOf,Tryz.underlying132]) (by kernel_rfl)
 have i3_9998:=fun(w:World) (a b:Int)=>run_equalIn_int (P:=Tryz.prog) w 9997 3 .i64 .i64 a b Tryz.underlying3
 rw[i171_10000]
 simp[Program.fieldsOf,Op.eqFields,part,y1A,i171_10000,Tryz.underlying171,i132_9999,Tryz.underlying132,i3_9998]
 rcases u with⟨⟨u1,u2⟩,⟨u3,u4⟩⟩
 rcases v with⟨⟨v1,v2⟩,⟨v3,v4⟩⟩
 by_cases h1:u1=v1 <;> by_cases h2:u2=v2 <;> by_cases h3:u3=v3 <;> by_cases h4:u4=v4 <;> simp[h1,h2,h3,h4],by kernel_rfl⟩
theorem z83:y5Q Tryz.prog 175:=y3O Tryz.underlying175 rfl
theorem y8j:yO Tryz.prog 262 0 0:=yF (i:=Tryz.t39) Tryz.underlying262 rfl rfl (by decide) rfl
theorem z2g:elT Tryz.prog 175 132 2 16:=⟨Tryz.underlying175,⟨Tryz.t132,_,rfl,rfl,rfl,rfl,rfl⟩,by decide⟩
theorem zoH:y4q Tryz.prog 175 1:=y2C (i:=Tryz.t175) rfl
theorem zxo:EqT Tryz.prog 132 yw:=⟨fun u v w=>by
 have i132_10000:=fun(w:World) (a b:Array Value)=>run_equalIn_agg (P:=Tryz.prog) w 9999 132 a b (by simp[Program.fieldsOf,Tryz.underlying132]) (by kernel_rfl)
 have i3_9999:=fun(w:World) (a b:Int)=>run_equalIn_int (P:=Tryz.prog) w 9998 3 .i64 .i64 a b Tryz.underlying3
 rw[i132_10000]
 simp[Program.fieldsOf,Op.eqFields,part,yw,i132_10000,Tryz.underlying132,i3_9999]
 rcases u with⟨u1,u2⟩
 rcases v with⟨v1,v2⟩
 by_cases h1:u1=v1 <;> by_cases h2:u2=v2 <;> simp[h1,h2],by kernel_rfl⟩
theorem ygS:fldT Tryz.prog 171 1 2 132:=fldT_of Tryz.underlying171 rfl rfl rfl
theorem y4P:yO Tryz.prog 225 0 0:=yF (i:=Tryz.t39) Tryz.underlying225 rfl rfl (by decide) rfl
theorem yff:yO Tryz.prog 177 3 6:=yF (i:=Tryz.t175) Tryz.underlying177 rfl rfl (by decide) rfl
theorem zxp:y5Q Tryz.prog 174:=y3O Tryz.underlying174 rfl
theorem zxq:elT Tryz.prog 138 39 1 8:=⟨Tryz.underlying138,⟨Tryz.t39,_,rfl,rfl,rfl,rfl,rfl⟩,by decide⟩
theorem ydS:y4q Tryz.prog 58 4:=y2C (i:=Tryz.t58) rfl
theorem y8k:y66 Tryz.prog 58 4:=y4H (i:=Tryz.t58) Tryz.underlying58 rfl rfl
theorem y5v:elT Tryz.prog 35 58 4 32:=⟨Tryz.underlying35,⟨Tryz.t58,_,rfl,rfl,rfl,rfl,rfl⟩,by decide⟩
theorem sizT_35:y4q Tryz.prog 35 1:=y2C (i:=Tryz.t35) rfl
theorem yao:yO Tryz.prog 58 0 0:=yF (i:=Tryz.t3) Tryz.underlying58 rfl rfl (by decide) rfl
theorem yap:yO Tryz.prog 58 1 1:=yF (i:=Tryz.t3) Tryz.underlying58 rfl rfl (by decide) rfl
theorem ydT:yO Tryz.prog 58 2 2:=yF (i:=Tryz.t3) Tryz.underlying58 rfl rfl (by decide) rfl
theorem y8A:elT Tryz.prog 36 79 3 24:=⟨Tryz.underlying36,⟨Tryz.t79,_,rfl,rfl,rfl,rfl,rfl⟩,by decide⟩
theorem ycc:yO Tryz.prog 79 1 1:=yF (i:=Tryz.t3) Tryz.underlying79 rfl rfl (by decide) rfl
theorem y7H:yO Tryz.prog 38 1 1:=yF (i:=Tryz.t36) Tryz.underlying38 rfl rfl (by decide) rfl
theorem sizT_36:y4q Tryz.prog 36 1:=y2C (i:=Tryz.t36) rfl
theorem y8l:y5Q Tryz.prog 36:=y3O Tryz.underlying36 rfl
theorem yfg:EqT Tryz.prog 58 e58:=⟨fun u v w=>by
 have i58_10000:=fun(w:World) (a b:Array Value)=>run_equalIn_agg (P:=Tryz.prog) w 9999 58 a b (by simp[Program.fieldsOf,Tryz.underlying58]) (by kernel_rfl)
 have i3_9999:=fun(w:World) (a b:Int)=>run_equalIn_int (P:=Tryz.prog) w 9998 3 .i64 .i64 a b Tryz.underlying3
 rw[i58_10000]
 simp[Program.fieldsOf,Op.eqFields,part,e58,i58_10000,Tryz.underlying58,i3_9999]
 rcases u with⟨u1,u2,u3,u4⟩
 rcases v with⟨v1,v2,v3,v4⟩
 by_cases h1:u1=v1 <;> by_cases h2:u2=v2 <;> by_cases h3:u3=v3 <;> by_cases h4:u4=v4 <;> simp[h1,h2,h3,h4],by kernel_rfl⟩
theorem ycd:y66 Tryz.prog 79 3:=y4H (i:=Tryz.t79) Tryz.underlying79 rfl rfl
theorem eqT_79:EqT Tryz.prog 79 e79:=⟨fun u v w=>by
 have i79_10000:=fun(w:World) (a b:Array Value)=>run_equalIn_agg (P:=Tryz.prog) w 9999 79 a b (by simp[Program.fieldsOf,Tryz.underlying79]) (by kernel_rfl)
 have i3_9999:=fun(w:World) (a b:Int)=>run_equalIn_int (P:=Tryz.prog) w 9998 3 .i64 .i64 a b Tryz.underlying3
 rw[i79_10000]
 simp[Program.fieldsOf,Op.eqFields,part,e79,i79_10000,Tryz.underlying79,i3_9999]
 rcases u with⟨u1,u2,u3⟩
 rcases v with⟨v1,v2,v3⟩
 by_cases h1:u1=v1 <;> by_cases h2:u2=v2 <;> by_cases h3:u3=v3 <;> simp[h1,h2,h3],by kernel_rfl⟩
theorem ygg:y4q Tryz.prog 26 1:=y2C (i:=Tryz.t26) rfl
theorem sizT_48:y4q Tryz.prog 48 1:=y2C (i:=Tryz.t48) rfl
theorem elT_50:elT Tryz.prog 50 49 9 216:=⟨Tryz.underlying50,⟨Tryz.t49,_,rfl,rfl,rfl,rfl,rfl⟩,by decide⟩
theorem aggT_49:y66 Tryz.prog 49 9:=y4H (i:=Tryz.t49) Tryz.underlying49 rfl rfl
theorem zeroT_49:y2Q Tryz.prog 49 (.agg #[(.slice none 0 0),(.slice none 0 0),(.slice none 0 0),(.slice none 0 0),(.slice none 0 0),(.slice none 0 0),(.slice none 0 0),(.slice none 0 0),(.slice none 0 0)]):=y2D (i:=Tryz.t49) rfl rfl
theorem sizT_49:y4q Tryz.prog 49 9:=y2C (i:=Tryz.t49) rfl
theorem fo_49_0:yO Tryz.prog 49 0 0:=yF (i:=Tryz.t31) Tryz.underlying49 rfl rfl (by decide) rfl
theorem fo_49_1:yO Tryz.prog 49 1 8:=yF (i:=Tryz.t32) Tryz.underlying49 rfl rfl (by decide) rfl
theorem ygh:yO Tryz.prog 58 3 3:=yF (i:=Tryz.t3) Tryz.underlying58 rfl rfl (by decide) rfl
theorem yfh:y2Q Tryz.prog 79 (.agg #[(.int .i64 0),(.int .i64 0),(.int .i64 0)]):=y2D (i:=Tryz.t79) rfl rfl
theorem ygi:y4q Tryz.prog 79 3:=y2C (i:=Tryz.t79) rfl
theorem ygj:yO Tryz.prog 79 0 0:=yF (i:=Tryz.t3) Tryz.underlying79 rfl rfl (by decide) rfl
theorem ygk:yO Tryz.prog 79 2 2:=yF (i:=Tryz.t3) Tryz.underlying79 rfl rfl (by decide) rfl
def y4t(routes_60:List (List zd))(z9S:Option Bool):Nat→Int→Option Bool
 | 0,_=>none
 | zoI+1,z5Q=>if decide (z5Q<((routes_60.length:Nat):Int)) then chk ((0:Int)≤z5Q∧z5Q<((routes_60.length:Nat):Int)) (if decide ((((nth routes_60 z5Q).length:Nat):Int)>40) then some false else y4t routes_60 z9S zoI (i64 (z5Q+1))) else z9S
theorem ybk{n:Nat}{routes_60:List (List zd)}{z9S:Option Bool}{z5Q:Int}{r:Bool}(h:y4t routes_60 z9S n z5Q=some r):∃ m,n=m+1:=by
 cases n with
 | zero=>cases h
 | succ m=>exact⟨m,rfl⟩
def y7i(c_35:zB)(routes_60:List (List zd)):Option Bool:=
 if ((((decide (((c_35.fM.length:Nat):Int)>8))||(decide (((c_35.fS.length:Nat):Int)>8)))||(decide (((c_35.fK.length:Nat):Int)>20)))||(decide (((c_35.fVLs.length:Nat):Int)>20)))||(decide (((routes_60.length:Nat):Int)>20)) then some false else jp0 (some true) fun z9S=>y4t routes_60 z9S yy 0
theorem yfY(Z:Zp)(ao_36:Option Addr)(cap_37:Nat)(ao_39:Option Addr)(cap_40:Nat)(ao_42:Option Addr)(cap_43:Nat)(ao_45:Option Addr)(cap_46:Nat)(ao_48:Option Addr)(cap_49:Nat)(ao_51:Option Addr)(cap_52:Nat)(ao_54:Option Addr)(cap_55:Nat)(ao_57:Option Addr)(cap_58:Nat)(ao_61:Option Addr)(cap_62:Nat)(c_35:zB)(routes_60:List (List zd))(r:Bool)(h:y7i c_35 routes_60=some r)(w₀:World)(hz:PZ [] w₀ Z)(hs_38:ZS Z 4 (y48 Z) ao_36 cap_37 c_35.fM)(hs_41:ZS Z 4 (y4M Z) ao_39 cap_40 c_35.fC0)(hs_44:ZS Z 4 (fun r x=>r=e66 x) ao_42 cap_43 c_35.fS)(hs_47:ZS Z 4 (fun r x=>r=e64 x) ao_45 cap_46 c_35.fK)(hs_50:ZS Z 7 (p46 Z) ao_48 cap_49 c_35.fVLs)(hs_53:ZS Z 5 (fun r x=>r=y4Z x) ao_51 cap_52 c_35.fH)(hs_56:ZS Z 3 (y4N Z) ao_54 cap_55 c_35.fU)(hs_59:ZS Z 4 (fun r x=>r=y50 x) ao_57 cap_58 c_35.fV0)(hs_63:ZS Z 1 (p48 Z) ao_61 cap_62 routes_60):
  Calls Tryz.prog 8 #[(.agg #[(.slice ao_36 c_35.fM.length cap_37),(.slice ao_39 c_35.fC0.length cap_40),(.slice ao_42 c_35.fS.length cap_43),(.slice ao_45 c_35.fK.length cap_46),(.slice ao_48 c_35.fVLs.length cap_49),(.slice ao_51 c_35.fH.length cap_52),(.slice ao_54 c_35.fU.length cap_55),(.slice ao_57 c_35.fV0.length cap_58)]),(.slice ao_61 routes_60.length cap_62)] w₀ fun e w'=>e = .returned (.bool r)∧Hp [] w₀ w' []:=by
 unfold y7i at h
 refine Calls.yK Tryz.func8 Tryz.ntmps8 ?_
 refine WC.b (WC.a (WL.nA 2 (yI (cs:=[(.slice ao_36 c_35.fM.length cap_37),(.slice ao_39 c_35.fC0.length cap_40),(.slice ao_42 c_35.fS.length cap_43),(.slice ao_45 c_35.fK.length cap_46),(.slice ao_48 c_35.fVLs.length cap_49),(.slice ao_51 c_35.fH.length cap_52),(.slice ao_54 c_35.fU.length cap_55),(.slice ao_57 c_35.fV0.length cap_58)]) rfl rfl) ?_))
 intro zTT _
 refine WL.pu rfl (WL.nil (WX.a (WC.b (WC.b (WC.a (WL.qA 7 (ya y6Y rfl rfl) (WL.qA 8 (yc y6Z rfl (yk .here rfl)) (WL.qA 9 (yH Tryz.underlying22 rfl) (WL.pu rfl (WL.pu rfl (WL.seg false 4 11 (B:=(decide (((c_35.fM.length:Nat):Int)>8))||(decide (((c_35.fS.length:Nat):Int)>8))) rfl rfl rfl rfl rfl rfl (fun h=>(y6p h).symm) (fun _ zF3=>?_) ?_)))))))))))
 ·skip
  refine WL.qA 12 (ya yah rfl rfl) (WL.qA 13 (yc yai rfl (yk .here rfl)) (WL.qA 14 (yH Tryz.underlying24 rfl) (WL.pu rfl (WL.pu rfl ?_))))
  exact WL.yB (y6q zF3) rfl rfl .all
 refine WL.pu rfl (WL.seg false 4 17 (B:=((decide (((c_35.fM.length:Nat):Int)>8))||(decide (((c_35.fS.length:Nat):Int)>8)))||(decide (((c_35.fK.length:Nat):Int)>20))) rfl rfl rfl rfl rfl rfl (fun h=>(y6p h).symm) (fun _ zF4=>?_) ?_)
 ·skip
  refine WL.qA 18 (ya y9f rfl rfl) (WL.qA 19 (yc y9g rfl (yk .here rfl)) (WL.qA 20 (yH Tryz.underlying25 rfl) (WL.pu rfl (WL.pu rfl ?_))))
  exact WL.yB (y6q zF4) rfl rfl .all
 refine WL.pu rfl (WL.seg false 4 23 (B:=(((decide (((c_35.fM.length:Nat):Int)>8))||(decide (((c_35.fS.length:Nat):Int)>8)))||(decide (((c_35.fK.length:Nat):Int)>20)))||(decide (((c_35.fVLs.length:Nat):Int)>20))) rfl rfl rfl rfl rfl rfl (fun h=>(y6p h).symm) (fun _ zF5=>?_) ?_)
 ·skip
  refine WL.qA 24 (ya y3E rfl rfl) (WL.qA 25 (yc y4j rfl (yk .here rfl)) (WL.qA 26 (yH Tryz.underlying26 rfl) (WL.pu rfl (WL.pu rfl ?_))))
  exact WL.yB (y6q zF5) rfl rfl .all
 refine WL.pu rfl (WL.seg false 3 29 (B:=((((decide (((c_35.fM.length:Nat):Int)>8))||(decide (((c_35.fS.length:Nat):Int)>8)))||(decide (((c_35.fK.length:Nat):Int)>20)))||(decide (((c_35.fVLs.length:Nat):Int)>20)))||(decide (((routes_60.length:Nat):Int)>20))) rfl rfl rfl rfl rfl rfl (fun h=>(y6p h).symm) (fun _ zF6=>?_) ?_)
 ·skip
  refine WL.pu rfl (WL.qA 31 (yH Tryz.underlying32 rfl) (WL.pu rfl (WL.pu rfl ?_)))
  exact WL.yB (y6q zF6) rfl rfl .all
 refine WL.nil (WX.a (WC.cond rfl (fun zoJ=>?_) (fun zoJ=>?_)))
 ·replace h:=yp h zoJ
  refine WC.b (WC.a (WL.pu rfl (WL.nil (WX.a (WC.ret (WX.ye ?_))))))
  obtain rfl:=oJ h
  refine WX.yf Tryz.results8 (.tmp rfl .nil) (fun w hw=>?_)
  exact⟨yD rfl,hw.sub .nil⟩
 ·replace h:=yq h zoJ
  refine WC.skip (WX.a ?_)
  obtain⟨z9S,zF7,h⟩:=y1N h
  refine WC.y1j ((z9S=some r)) ([]) ([]) ?_ ?_
  ·skip
   refine WC.b (WC.a (WL.pu rfl (WL.qA 35 (yH Tryz.underlying32 rfl) (WL.pu rfl (WL.nil (WX.a (WC.block (WC.y2E (fun(zfN:Nat) (z5Q:Int)=>(y4t routes_60 z9S zfN z5Q=some r)) (fun zfN z5Q=>[(34,(.slice ao_61 routes_60.length cap_62)),(35,(.int .i64 ((routes_60.length:Nat):Int))),(36,(.int .i64 z5Q))]) (fun zfN z5Q=>[]) (fun zfN z5Q=>zfN) ⟨yy,0⟩ h (.r3 rfl rfl rfl) .nil ?_))))))))
   rintro zfN z5Q h
   obtain⟨zoI,rfl⟩:=ybk h
   rw[y4t] at h
   refine WC.b (WC.a (WL.pu rfl (WL.nil (WX.a (WC.b (WC.cond rfl (fun zoK=>?_) (fun zoK=>?_)))))))
   ·replace h:=yp h zoK
    refine WC.skip (WX.a (WC.b (WC.block (WC.b ?_))))
    obtain⟨zF8,h⟩:=yo h
    refine WC.a (WL.znth (dd:=38) rfl rfl (Z:=Z) (Pr:=(p48 Z)) y7h rfl rfl hs_63 zF8 ?_)
    rintro zTU zTV zF9 zTW ⟨zTX,zTY,rfl,zTZ⟩
    refine WL.qA 39 (yc y7E rfl (y5I hz.pv zF9 rfl)) (WL.pu rfl (WL.nil (WX.a (WC.b (WC.a (WL.pu rfl (WL.qA 41 (yH Tryz.underlying48 rfl) (WL.pu rfl (WL.nil (WX.a (WC.cond rfl (fun zoL=>?_) (fun zoL=>?_))))))))))))
    ·replace h:=yp h zoL
     refine WC.b (WC.a (WL.pu rfl (WL.nil (WX.a (WC.ret (WX.ys (WX.ye (WX.ye (WX.ys (WX.ye ?_))))))))))
     obtain rfl:=oJ h
     refine WX.yf Tryz.results8 (.tmp rfl .nil) (fun w hw=>?_)
     exact⟨yD rfl,hw.sub .nil⟩
    ·replace h:=yq h zoL
     refine WC.skip (WX.yn (WX.a (WC.a (WL.pu rfl (WL.pu rfl (WL.nil ?_))))))
     exact WX.round ⟨zoI,(i64 (z5Q+1))⟩ h (Nat.lt_succ_self _) (.r3 rfl rfl rfl) .nil
   ·replace h:=yq h zoK
    refine WC.exit (WX.yg (WX.yg (WX.yz ?_)))
    exact WX.mid () h .nil .nil
  ·rintro  h
   replace h:=zF7.symm.trans h
   refine WC.b (WC.a (WL.pu rfl (WL.nil (WX.a (WC.ret ?_)))))
   obtain rfl:=oJ h
   refine WX.yf Tryz.results8 (.tmp rfl .nil) (fun w hw=>?_)
   exact⟨yD rfl,hw.sub .nil⟩
def y7T  : Option (zB×List (List zd)):=
 some ((⟨([(⟨⟨#[109]⟩,0,0,[]⟩:z5P),(⟨⟨#[110]⟩,0,0,[]⟩:z5P)]:List z5P),[],([(⟨⟨#[115]⟩,0,16,100⟩:z7g)]:List z7g),([(⟨⟨#[109]⟩,⟨#[115]⟩,0,1⟩:z6g),(⟨⟨#[110]⟩,⟨#[115]⟩,0,1⟩:z6g)]:List z6g),([(⟨⟨#[]⟩,(⟨⟨#[]⟩,⟨#[]⟩,⟨#[]⟩⟩:Sapi_Ref),200,40,[]⟩:zj)]:List zj),[],[],[]⟩:zB),([([(⟨0,2,0⟩:zd),(⟨2,1,1⟩:zd)]:List zd)]:List (List zd)))
theorem ydg(Z:Zp)(r:zB×List (List zd))(h:y7T=some r)(w₀:World)(hz:PZ [] w₀ Z):
  Calls Tryz.prog 14 #[] w₀ fun e w'=>∃ Zn:Zp,∃ zxr:Option Addr,∃ zxs:Nat,∃ zxt:List Value,∃ zxu:Option Addr,∃ zxv:Nat,∃ zxw:Option Addr,∃ zxx:Nat,∃ zxy:Option Addr,∃ zxz:Nat,∃ zxA:Option Addr,∃ zxB:Nat,∃ zxC:List Value,∃ zxD:Option Addr,∃ zxE:Nat,∃ zxF:Option Addr,∃ zxG:Nat,∃ zxH:Option Addr,∃ zxI:Nat,∃ zxJ:Option Addr,∃ zxK:Nat,∃ zxL:List Value,e = .returned (.tuple #[(.agg #[(.slice zxr r.1.fM.length zxs),(.slice zxu r.1.fC0.length zxv),(.slice zxw r.1.fS.length zxx),(.slice zxy r.1.fK.length zxz),(.slice zxA r.1.fVLs.length zxB),(.slice zxD r.1.fH.length zxE),(.slice zxF r.1.fU.length zxG),(.slice zxH r.1.fV0.length zxI)]),(.slice zxJ r.2.length zxK)])∧((RR 4 (y48 (Z++Zn)) zxt r.1.fM)∧(ZS (Z++Zn) 4 (y4M (Z++Zn)) zxu zxv r.1.fC0)∧(RR 7 (p46 (Z++Zn)) zxC r.1.fVLs)∧(ZS (Z++Zn) 5 (fun r x=>r=y4Z x) zxD zxE r.1.fH)∧(ZS (Z++Zn) 3 (y4N (Z++Zn)) zxF zxG r.1.fU)∧(ZS (Z++Zn) 4 (fun r x=>r=y50 x) zxH zxI r.1.fV0)∧(RR 1 (p48 (Z++Zn)) zxL r.2))∧Hp [] w₀ w' [fz Zn,row (.slice zxr r.1.fM.length zxs) 108 4 zxt,row (.slice zxw r.1.fS.length zxx) 66 4 (r.1.fS.flatMap e66),row (.slice zxy r.1.fK.length zxz) 64 4 (r.1.fK.flatMap e64),row (.slice zxA r.1.fVLs.length zxB) 46 7 zxC,row (.slice zxJ r.2.length zxK) 48 1 zxL]:=by
 unfold y7T at h
 refine Calls.on0 Tryz.func14 Tryz.ntmps14 ?_
 refine WC.pool (WC.b (WC.a (WL.nA 0 (yv (cs:=[(.slice none 0 0),(.slice none 0 0),(.slice none 0 0),(.slice none 0 0),(.slice none 0 0),(.slice none 0 0),(.slice none 0 0),(.slice none 0 0)]) y7s rfl) ?_)))
 intro zU0 _
 refine WL.pu rfl (WL.nil (WX.a (WC.b (WC.a (WL.qA 3 (yL (v:=(.agg #[(.string ⟨#[109]⟩),(.int .i64 0),(.int .i64 0),(.slice none 0 0)])) (Eos.parts (l:=[.const (.string ⟨#[109]⟩)]) (.cons rfl .nil) [0]) (fun _=>by kernel_rfl)) (WL.qA 4 (yL (v:=(.agg #[(.string ⟨#[110]⟩),(.int .i64 0),(.int .i64 0),(.slice none 0 0)])) (Eos.parts (l:=[.const (.string ⟨#[110]⟩)]) (.cons rfl .nil) [0]) (fun _=>by kernel_rfl)) ?_))))))
 have zFa:RR 4 (y48 (Z++[])) [(.string ⟨#[109]⟩),(.int .i64 0),(.int .i64 0),(.slice none 0 0),(.string ⟨#[110]⟩),(.int .i64 0),(.int .i64 0),(.slice none 0 0)] ([(⟨⟨#[109]⟩,0,0,[]⟩:z5P),(⟨⟨#[110]⟩,0,0,[]⟩:z5P)]:List z5P):=(RR.cons (r:=[(.string ⟨#[109]⟩),(.int .i64 0),(.int .i64 0),(.slice none 0 0)]) rfl (show y48 _ _ _ from⟨_,_,rfl,(ZS.nil _ _ _)⟩) (RR.cons (r:=[(.string ⟨#[110]⟩),(.int .i64 0),(.int .i64 0),(.slice none 0 0)]) rfl (show y48 _ _ _ from⟨_,_,rfl,(ZS.nil _ _ _)⟩) (RR.nil _ _)))
 refine WL.nA 5 (yR (cs:=[(.string ⟨#[109]⟩),(.int .i64 0),(.int .i64 0),(.slice none 0 0),(.string ⟨#[110]⟩),(.int .i64 0),(.int .i64 0),(.slice none 0 0)]) elT_22 (Eos.parts (l:=[.tmp 3,.tmp 4]) (.r2 rfl rfl) [0,1]) (fun _=>by kernel_rfl) rfl (by unfold maxLen;omega)) ?_
 intro zxM _
 refine WL.qA 6 (yL (v:=(.agg #[(.string ⟨#[115]⟩),(.int .i64 0),(.int .i64 16),(.int .i64 100)])) (Eos.parts (l:=[.const (.string ⟨#[115]⟩),.const (.int .i64 16),.const (.int .i64 100)]) (.r3 rfl rfl rfl) [0,2,3]) (fun _=>by kernel_rfl)) (WL.nA 7 (yR (cs:=([(⟨⟨#[115]⟩,0,16,100⟩:z7g)]:List z7g).flatMap e66) ydc (Eos.parts (l:=[.tmp 6]) (.cons rfl .nil) [0]) (fun _=>by kernel_rfl) rfl (by unfold maxLen;omega)) ?_)
 intro zxN _
 refine WL.qA 8 (yL (v:=(.agg #[(.string ⟨#[109]⟩),(.string ⟨#[115]⟩),(.int .i64 0),(.int .i64 1)])) (Eos.parts (l:=[.const (.string ⟨#[109]⟩),.const (.string ⟨#[115]⟩),.const (.int .i64 1)]) (.r3 rfl rfl rfl) [0,1,3]) (fun _=>by kernel_rfl)) (WL.qA 9 (yL (v:=(.agg #[(.string ⟨#[110]⟩),(.string ⟨#[115]⟩),(.int .i64 0),(.int .i64 1)])) (Eos.parts (l:=[.const (.string ⟨#[110]⟩),.const (.string ⟨#[115]⟩),.const (.int .i64 1)]) (.r3 rfl rfl rfl) [0,1,3]) (fun _=>by kernel_rfl)) (WL.nA 10 (yR (cs:=([(⟨⟨#[109]⟩,⟨#[115]⟩,0,1⟩:z6g),(⟨⟨#[110]⟩,⟨#[115]⟩,0,1⟩:z6g)]:List z6g).flatMap e64) ydd (Eos.parts (l:=[.tmp 8,.tmp 9]) (.r2 rfl rfl) [0,1]) (fun _=>by kernel_rfl) rfl (by unfold maxLen;omega)) ?_))
 intro zxO _
 refine WL.qA 11 (yL (v:=(.agg #[(.string ⟨#[]⟩),(.string ⟨#[]⟩),(.string ⟨#[]⟩),(.string ⟨#[]⟩),(.int .i64 200),(.int .i64 40),(.slice none 0 0)])) (Eos.parts (l:=[.const (.int .i64 200),.const (.int .i64 40)]) (.r2 rfl rfl) [2,3]) (fun _=>by kernel_rfl)) ?_
 have zFb:RR 7 (p46 (Z++[])) [(.string ⟨#[]⟩),(.string ⟨#[]⟩),(.string ⟨#[]⟩),(.string ⟨#[]⟩),(.int .i64 200),(.int .i64 40),(.slice none 0 0)] ([(⟨⟨#[]⟩,(⟨⟨#[]⟩,⟨#[]⟩,⟨#[]⟩⟩:Sapi_Ref),200,40,[]⟩:zj)]:List zj):=(RR.cons (r:=[(.string ⟨#[]⟩),(.string ⟨#[]⟩),(.string ⟨#[]⟩),(.string ⟨#[]⟩),(.int .i64 200),(.int .i64 40),(.slice none 0 0)]) rfl (show p46 _ _ _ from⟨_,_,rfl,(ZS.nil _ _ _)⟩) (RR.nil _ _))
 refine WL.nA 12 (yR (cs:=[(.string ⟨#[]⟩),(.string ⟨#[]⟩),(.string ⟨#[]⟩),(.string ⟨#[]⟩),(.int .i64 200),(.int .i64 40),(.slice none 0 0)]) y4U (Eos.parts (l:=[.tmp 11]) (.cons rfl .nil) [0]) (fun _=>by kernel_rfl) rfl (by unfold maxLen;omega)) ?_
 intro zxP _
 refine WL.qA 13 (yL (v:=(.agg #[(.slice (some ⟨zxM,0,none⟩) (([(⟨⟨#[109]⟩,0,0,[]⟩:z5P),(⟨⟨#[110]⟩,0,0,[]⟩:z5P)]:List z5P).length) 2),(.slice none 0 0),(.slice (some ⟨zxN,0,none⟩) (([(⟨⟨#[115]⟩,0,16,100⟩:z7g)]:List z7g).length) 1),(.slice (some ⟨zxO,0,none⟩) (([(⟨⟨#[109]⟩,⟨#[115]⟩,0,1⟩:z6g),(⟨⟨#[110]⟩,⟨#[115]⟩,0,1⟩:z6g)]:List z6g).length) 2),(.slice (some ⟨zxP,0,none⟩) (([(⟨⟨#[]⟩,(⟨⟨#[]⟩,⟨#[]⟩,⟨#[]⟩⟩:Sapi_Ref),200,40,[]⟩:zj)]:List zj).length) 1),(.slice none 0 0),(.slice none 0 0),(.slice none 0 0)])) (Eos.parts (l:=[.tmp 5,.tmp 7,.tmp 10,.tmp 12]) (.r4 rfl rfl rfl rfl) [0,2,3,4]) (fun _=>by kernel_rfl)) (WL.nA 2 (yv (cs:=[(.slice none 0 0),(.slice none 0 0),(.slice none 0 0),(.slice none 0 0),(.slice none 0 0),(.slice none 0 0),(.slice none 0 0),(.slice none 0 0)]) y7s rfl) ?_)
 intro zU1 _
 refine WL.ym rfl rfl (yl yaj rfl rfl rfl .here rfl rfl rfl) (WL.nil (WX.a (WC.b (WC.a (WL.qA 14 (yh y2m rfl (yi .here) rfl) (WL.qA 15 (yL (v:=(.agg #[(.int .i64 0),(.int .i64 2),(.int .i64 0)])) (Eos.parts (l:=[.const (.int .i64 0),.const (.int .i64 2),.const (.int .i64 0)]) (.r3 rfl rfl rfl) [0,1,2]) (fun _=>by kernel_rfl)) (WL.qA 16 (yL (v:=(.agg #[(.int .i64 2),(.int .i64 1),(.int .i64 1)])) (Eos.parts (l:=[.const (.int .i64 2),.const (.int .i64 1),.const (.int .i64 1)]) (.r3 rfl rfl rfl) [0,1,2]) (fun _=>by kernel_rfl)) (WL.nA 17 (yR (cs:=([(⟨0,2,0⟩:zd),(⟨2,1,1⟩:zd)]:List zd).flatMap e62) y6e (Eos.parts (l:=[.tmp 15,.tmp 16]) (.r2 rfl rfl) [0,1]) (fun _=>by kernel_rfl) rfl (by unfold maxLen;omega)) ?_))))))))
 intro zlZ _
 refine WL.freezeS (ls:=([(⟨0,2,0⟩:zd),(⟨2,1,1⟩:zd)]:List zd)) .here .h6 hz (RR.flat (enc:=e62) (fun _=>rfl) _) ?_
 intro zxQ zxR zFc
 have zFd:RR 1 (p48 (Z++zxQ)) [(.slice (some ⟨zlZ,0,none⟩) (([(⟨0,2,0⟩:zd),(⟨2,1,1⟩:zd)]:List zd).length) 2)] ([([(⟨0,2,0⟩:zd),(⟨2,1,1⟩:zd)]:List zd)]:List (List zd)):=(RR.cons (r:=[(.slice (some ⟨zlZ,0,none⟩) (([(⟨0,2,0⟩:zd),(⟨2,1,1⟩:zd)]:List zd).length) 2)]) rfl (show p48 _ _ _ from⟨_,_,rfl,zFc⟩) (RR.nil _ _))
 refine WL.nA 18 (yR (cs:=[(.slice (some ⟨zlZ,0,none⟩) (([(⟨0,2,0⟩:zd),(⟨2,1,1⟩:zd)]:List zd).length) 2)]) y7h (Eos.parts (l:=[.tmp 17]) (.cons rfl .nil) [0]) (fun _=>by kernel_rfl) rfl (by unfold maxLen;omega)) ?_
 intro zFe _
 refine WL.ym rfl rfl (yl yaj rfl rfl rfl .h7 rfl rfl rfl) (WL.pu rfl (WL.nil (WX.a (WC.ret ?_))))
 obtain rfl:=oJ h
 refine WX.yf Tryz.results14 (.agg rfl y2m rfl (yi .here) (.tmp rfl .nil)) (fun w hw=>?_)
 exact⟨zxQ,(some ⟨zxM,0,none⟩),2,[(.string ⟨#[109]⟩),(.int .i64 0),(.int .i64 0),(.slice none 0 0),(.string ⟨#[110]⟩),(.int .i64 0),(.int .i64 0),(.slice none 0 0)],none,0,(some ⟨zxN,0,none⟩),1,(some ⟨zxO,0,none⟩),2,(some ⟨zxP,0,none⟩),1,[(.string ⟨#[]⟩),(.string ⟨#[]⟩),(.string ⟨#[]⟩),(.string ⟨#[]⟩),(.int .i64 200),(.int .i64 40),(.slice none 0 0)],none,0,none,0,none,0,(some ⟨zFe,0,none⟩),1,[(.slice (some ⟨zlZ,0,none⟩) (([(⟨0,2,0⟩:zd),(⟨2,1,1⟩:zd)]:List zd).length) 2)],y24 rfl rfl,⟨(zFa.weak (fun _ _ h=>y1P zxR h)),(ZS.nil _ _ _),(zFb.weak (fun _ _ h=>y1m zxR h)),(ZS.nil _ _ _),(ZS.nil _ _ _),(ZS.nil _ _ _),zFd⟩,hw.sub (.s6 .h2 .h6 .h5 .h4 .h3 .h1)⟩
def y3z(z2h:zB):Option Int:=
 some (i64 (((z2h.fM.length:Nat):Int)+((z2h.fS.length:Nat):Int)))
theorem y9S(Z:Zp)(zoM:Option Addr)(zoN:Nat)(zoO:Option Addr)(zoP:Nat)(zoQ:Option Addr)(zoR:Nat)(zoS:Option Addr)(zoT:Nat)(zoU:Option Addr)(zoV:Nat)(zoW:Option Addr)(zoX:Nat)(zoY:Option Addr)(zoZ:Nat)(zp0:Option Addr)(zp1:Nat)(z2h:zB)(r:Int)(h:y3z z2h=some r)(w₀:World)(hz:PZ [] w₀ Z)(zU2:ZS Z 4 (y48 Z) zoM zoN z2h.fM)(zU3:ZS Z 4 (y4M Z) zoO zoP z2h.fC0)(zU4:ZS Z 4 (fun r x=>r=e66 x) zoQ zoR z2h.fS)(zU5:ZS Z 4 (fun r x=>r=e64 x) zoS zoT z2h.fK)(zU6:ZS Z 7 (p46 Z) zoU zoV z2h.fVLs)(zU7:ZS Z 5 (fun r x=>r=y4Z x) zoW zoX z2h.fH)(zU8:ZS Z 3 (y4N Z) zoY zoZ z2h.fU)(zU9:ZS Z 4 (fun r x=>r=y50 x) zp0 zp1 z2h.fV0):
  Calls Tryz.prog 126 #[(.agg #[(.slice zoM z2h.fM.length zoN),(.slice zoO z2h.fC0.length zoP),(.slice zoQ z2h.fS.length zoR),(.slice zoS z2h.fK.length zoT),(.slice zoU z2h.fVLs.length zoV),(.slice zoW z2h.fH.length zoX),(.slice zoY z2h.fU.length zoZ),(.slice zp0 z2h.fV0.length zp1)])] w₀ fun e w'=>e = .returned (.int .i64 r)∧Hp [] w₀ w' []:=by
 unfold y3z at h
 refine Calls.on1 Tryz.func126 Tryz.ntmps126 ?_
 refine WC.b (WC.a (WL.nA 1 (yI (cs:=[(.slice zoM z2h.fM.length zoN),(.slice zoO z2h.fC0.length zoP),(.slice zoQ z2h.fS.length zoR),(.slice zoS z2h.fK.length zoT),(.slice zoU z2h.fVLs.length zoV),(.slice zoW z2h.fH.length zoX),(.slice zoY z2h.fU.length zoZ),(.slice zp0 z2h.fV0.length zp1)]) rfl rfl) ?_))
 intro zUa _
 refine WL.pu rfl (WL.nil (WX.a (WC.b (WC.a (WL.qA 3 (ya y6Y rfl rfl) (WL.qA 4 (yc y6Z rfl (yk .here rfl)) (WL.qA 5 (yH Tryz.underlying22 rfl) (WL.qA 6 (ya yah rfl rfl) (WL.qA 7 (yc yai rfl (yk .here rfl)) (WL.qA 8 (yH Tryz.underlying24 rfl) (WL.pu rfl (WL.pu rfl (WL.nil (WX.a (WC.ret ?_)))))))))))))))
 obtain rfl:=oJ h
 refine WX.yf Tryz.results126 (.tmp rfl .nil) (fun w hw=>?_)
 exact⟨yD rfl,hw.sub .nil⟩
def y3T(z1U:zB)(z7i:Int):Option ByteArray:=
 (if decide (z7i<0) then some true else(y3z z1U).bind fun zxS=>some (decide (z7i≥zxS))).bind fun zp2=>if zp2 then some ⟨#[]⟩ else if decide (z7i<((z1U.fM.length:Nat):Int)) then chk ((0:Int)≤z7i∧z7i<((z1U.fM.length:Nat):Int)) (some ((nth z1U.fM z7i).fName)) else chk ((0:Int)≤(i64 (z7i-((z1U.fM.length:Nat):Int)))∧(i64 (z7i-((z1U.fM.length:Nat):Int)))<((z1U.fS.length:Nat):Int)) (some ((nth z1U.fS (i64 (z7i-((z1U.fM.length:Nat):Int)))).fName))
theorem ydU(Z:Zp)(zp3:Option Addr)(zp4:Nat)(zp5:Option Addr)(zp6:Nat)(zp7:Option Addr)(zp8:Nat)(zp9:Option Addr)(zpa:Nat)(zpb:Option Addr)(zpc:Nat)(zpd:Option Addr)(zpe:Nat)(zpf:Option Addr)(zpg:Nat)(zph:Option Addr)(zpi:Nat)(z1U:zB)(z7i:Int)(r:ByteArray)(h:y3T z1U z7i=some r)(w₀:World)(hz:PZ [] w₀ Z)(zxT:ZS Z 4 (y48 Z) zp3 zp4 z1U.fM)(zFf:ZS Z 4 (y4M Z) zp5 zp6 z1U.fC0)(zxU:ZS Z 4 (fun r x=>r=e66 x) zp7 zp8 z1U.fS)(zFg:ZS Z 4 (fun r x=>r=e64 x) zp9 zpa z1U.fK)(zFh:ZS Z 7 (p46 Z) zpb zpc z1U.fVLs)(zFi:ZS Z 5 (fun r x=>r=y4Z x) zpd zpe z1U.fH)(zFj:ZS Z 3 (y4N Z) zpf zpg z1U.fU)(zFk:ZS Z 4 (fun r x=>r=y50 x) zph zpi z1U.fV0):
  Calls Tryz.prog 127 #[(.agg #[(.slice zp3 z1U.fM.length zp4),(.slice zp5 z1U.fC0.length zp6),(.slice zp7 z1U.fS.length zp8),(.slice zp9 z1U.fK.length zpa),(.slice zpb z1U.fVLs.length zpc),(.slice zpd z1U.fH.length zpe),(.slice zpf z1U.fU.length zpg),(.slice zph z1U.fV0.length zpi)]),(.int .i64 z7i)] w₀ fun e w'=>e = .returned (.string r)∧Hp [] w₀ w' []:=by
 unfold y3T at h
 refine Calls.yK Tryz.func127 Tryz.ntmps127 ?_
 refine WC.b (WC.a (WL.nA 2 (yI (cs:=[(.slice zp3 z1U.fM.length zp4),(.slice zp5 z1U.fC0.length zp6),(.slice zp7 z1U.fS.length zp8),(.slice zp9 z1U.fK.length zpa),(.slice zpb z1U.fVLs.length zpc),(.slice zpd z1U.fH.length zpe),(.slice zpf z1U.fU.length zpg),(.slice zph z1U.fV0.length zpi)]) rfl rfl) ?_))
 intro zUb _
 refine WL.pu rfl (WL.nil (WX.a (WC.b (WC.a (WL.qA 6 (ya y6Y rfl rfl) (WL.qA 7 (yc y6Z rfl (yk .here rfl)) (WL.qA 8 (yH Tryz.underlying22 rfl) (WL.pu rfl (WL.nil (WX.a (WC.block (WC.b ?_))))))))))))
 obtain⟨zp2,zxV,h⟩:=z8 h
 refine WC.a (WL.pu rfl (WL.pu rfl (WL.pu rfl (WL.seg false 4 20 (B:=zp2) rfl rfl rfl rfl rfl rfl (fun h=>(oJ (yp zxV h)).symm) (fun _ zFl=>?_) ?_))))
 ·skip
  have zj1:=yq zxV zFl
  obtain⟨zxS,zFm,zj1⟩:=z8 zj1
  replace zj1:=oJ zj1
  refine WL.pu rfl (WL.qA 22 (yh y2m rfl (yi .here) rfl) (WL.cA 23 (zb Tryz.call126 (.cons rfl .nil)) .nil (cc hz .nil fun w pz ho=>y9S _ _ _ _ _ _ _ _ _ _ _ _ _ _ _ _ _ _ _ zFm w pz zxT zFf zxU zFg zFh zFi zFj zFk) (WL.pu rfl (WL.pu rfl ?_))))
  exact WL.yB zj1 rfl rfl .all
 refine WL.pu rfl (WL.nil (WX.a (WC.cond rfl (fun zpj=>?_) (fun zpj=>?_))))
 ·replace h:=yp h zpj
  refine WC.b (WC.a (WL.pu rfl (WL.nil (WX.a (WC.ret (WX.ys ?_))))))
  obtain rfl:=oJ h
  refine WX.yf Tryz.results127 (.tmp rfl .nil) (fun w hw=>?_)
  exact⟨yD rfl,hw.sub .nil⟩
 ·replace h:=yq h zpj
  refine WC.b (WC.a (WL.pu rfl (WL.pu rfl (WL.pu rfl (WL.pu rfl (WL.nil (WX.a (WC.cond rfl (fun zpk=>?_) (fun zpk=>?_)))))))))
  ·replace h:=yp h zpk
   refine WC.b ?_
   obtain⟨zFn,h⟩:=yo h
   refine WC.a (WL.qA 30 (ya y6Y rfl rfl) (WL.qA 31 (yc y6Z rfl (yk .here rfl)) (WL.pu rfl (WL.znth (dd:=33) rfl rfl (Z:=Z) (Pr:=(y48 Z)) elT_22 rfl rfl zxT zFn ?_))))
   rintro zUc zUd zFo zUe ⟨zUf,zUg,rfl,zUh⟩
   refine WL.qA 34 (ya fo_108_0 rfl rfl) (WL.qA 35 (yc yde rfl (y1l hz.pv zFo rfl)) (WL.pu rfl (WL.nil (WX.a (WC.ret (WX.ys ?_))))))
   obtain rfl:=oJ h
   refine WX.yf Tryz.results127 (.tmp rfl .nil) (fun w hw=>?_)
   exact⟨yD rfl,hw.sub .nil⟩
  ·replace h:=yq h zpk
   refine WC.b ?_
   obtain⟨zFp,h⟩:=yo h
   refine WC.a (WL.qA 9 (ya yah rfl rfl) (WL.qA 10 (yc yai rfl (yk .here rfl)) (WL.pu rfl (WL.pu rfl (WL.pu rfl (WL.znth (dd:=14) rfl rfl (Z:=Z) (Pr:=(fun r x=>r=e66 x)) ydc rfl rfl zxU zFp ?_))))))
   rintro zUi zUj zFq zUk rfl
   refine WL.qA 15 (ya fo_66_0 rfl rfl) (WL.qA 16 (yc yde rfl (y1l hz.pv zFq rfl)) (WL.pu rfl (WL.nil (WX.a (WC.ret (WX.ys ?_))))))
   obtain rfl:=oJ h
   refine WX.yf Tryz.results127 (.tmp rfl .nil) (fun w hw=>?_)
   exact⟨yD rfl,hw.sub .nil⟩
def y1K(z9T:Int)(z1r:zB)(z84:ByteArray)(z9U:Option Int):Nat→Int→Option Int
 | 0,_=>none
 | zpl+1,z6h=>if decide (z6h<z9T) then(y3T z1r z6h).bind fun zxW=>if decide (zxW=z84) then some z6h else y1K z9T z1r z84 z9U zpl (i64 (z6h+1)) else z9U
theorem ya2{n:Nat}{z9T:Int}{z1r:zB}{z84:ByteArray}{z9U:Option Int}{z6h:Int}{r:Int}(h:y1K z9T z1r z84 z9U n z6h=some r):∃ m,n=m+1:=by
 cases n with
 | zero=>cases h
 | succ m=>exact⟨m,rfl⟩
def y25(z1r:zB)(z84:ByteArray):Option Int:=
 jp0 (some (-1)) fun z9U=>(y3z z1r).bind fun z9T=>y1K z9T z1r z84 z9U yy 0
theorem yaq(Z:Zp)(zm0:Option Addr)(zm1:Nat)(zm2:Option Addr)(zm3:Nat)(zm4:Option Addr)(zm5:Nat)(zm6:Option Addr)(zm7:Nat)(zm8:Option Addr)(zm9:Nat)(zma:Option Addr)(zmb:Nat)(zmc:Option Addr)(zmd:Nat)(zme:Option Addr)(zmf:Nat)(z1r:zB)(z84:ByteArray)(r:Int)(h:y25 z1r z84=some r)(w₀:World)(hz:PZ [] w₀ Z)(zxX:ZS Z 4 (y48 Z) zm0 zm1 z1r.fM)(zxY:ZS Z 4 (y4M Z) zm2 zm3 z1r.fC0)(zxZ:ZS Z 4 (fun r x=>r=e66 x) zm4 zm5 z1r.fS)(zy0:ZS Z 4 (fun r x=>r=e64 x) zm6 zm7 z1r.fK)(zy1:ZS Z 7 (p46 Z) zm8 zm9 z1r.fVLs)(zy2:ZS Z 5 (fun r x=>r=y4Z x) zma zmb z1r.fH)(zy3:ZS Z 3 (y4N Z) zmc zmd z1r.fU)(zy4:ZS Z 4 (fun r x=>r=y50 x) zme zmf z1r.fV0):
  Calls Tryz.prog 93 #[(.agg #[(.slice zm0 z1r.fM.length zm1),(.slice zm2 z1r.fC0.length zm3),(.slice zm4 z1r.fS.length zm5),(.slice zm6 z1r.fK.length zm7),(.slice zm8 z1r.fVLs.length zm9),(.slice zma z1r.fH.length zmb),(.slice zmc z1r.fU.length zmd),(.slice zme z1r.fV0.length zmf)]),(.string z84)] w₀ fun e w'=>e = .returned (.int .i64 r)∧Hp [] w₀ w' []:=by
 unfold y25 at h
 refine Calls.yK Tryz.func93 Tryz.ntmps93 ?_
 refine WC.b (WC.a (WL.nA 2 (yI (cs:=[(.slice zm0 z1r.fM.length zm1),(.slice zm2 z1r.fC0.length zm3),(.slice zm4 z1r.fS.length zm5),(.slice zm6 z1r.fK.length zm7),(.slice zm8 z1r.fVLs.length zm9),(.slice zma z1r.fH.length zmb),(.slice zmc z1r.fU.length zmd),(.slice zme z1r.fV0.length zmf)]) rfl rfl) ?_))
 intro zy5 _
 refine WL.pu rfl (WL.nil (WX.a ?_))
 obtain⟨z9U,zFr,h⟩:=y1N h
 refine WC.y1j ((z9U=some r)) ([]) ([]) ?_ ?_
 ·skip
  refine WC.b ?_
  obtain⟨z9T,zFs,h⟩:=z8 h
  refine WC.a (WL.qA 6 (yh y2m rfl (yi .here) rfl) (WL.cA 7 (zb Tryz.call126 (.cons rfl .nil)) .nil (cc hz .nil fun w pz ho=>y9S _ _ _ _ _ _ _ _ _ _ _ _ _ _ _ _ _ _ _ zFs w pz zxX zxY zxZ zy0 zy1 zy2 zy3 zy4) (WL.pu rfl (WL.nil (WX.a (WC.block (WC.y2E (fun(zfO:Nat) (z6h:Int)=>(y1K z9T z1r z84 z9U zfO z6h=some r)) (fun zfO z6h=>[(1,(.string z84)),(2,(.pointer (some ⟨zy5,0,none⟩))),(7,(.int .i64 z9T)),(8,(.int .i64 z6h))]) (fun zfO z6h=>[stb zy5 31 [(.slice zm0 z1r.fM.length zm1),(.slice zm2 z1r.fC0.length zm3),(.slice zm4 z1r.fS.length zm5),(.slice zm6 z1r.fK.length zm7),(.slice zm8 z1r.fVLs.length zm9),(.slice zma z1r.fH.length zmb),(.slice zmc z1r.fU.length zmd),(.slice zme z1r.fV0.length zmf)]]) (fun zfO z6h=>zfO) ⟨yy,0⟩ h (.r4 rfl rfl rfl rfl) (.cons .here .nil) ?_)))))))
  rintro zfO z6h h
  obtain⟨zpl,rfl⟩:=ya2 h
  rw[y1K] at h
  refine WC.b (WC.a (WL.pu rfl (WL.nil (WX.a (WC.b (WC.cond rfl (fun zpm=>?_) (fun zpm=>?_)))))))
  ·replace h:=yp h zpm
   refine WC.skip (WX.a (WC.b (WC.block (WC.b (WC.a (WL.pu rfl (WL.pu rfl (WL.nil (WX.a (WC.b ?_))))))))))
   obtain⟨zxW,zFt,h⟩:=z8 h
   refine WC.a (WL.qA 11 (yh y2m rfl (yi .here) rfl) (WL.pu rfl (WL.cA 13 (zb Tryz.call127 (.r2 rfl rfl)) .nil (cc hz .nil fun w pz ho=>ydU _ _ _ _ _ _ _ _ _ _ _ _ _ _ _ _ _ _ _ _ zFt w pz zxX zxY zxZ zy0 zy1 zy2 zy3 zy4) (WL.pu rfl (WL.qA 15 (q_seql rfl rfl) (WL.nil (WX.a (WC.cond rfl (fun zpn=>?_) (fun zpn=>?_)))))))))
   ·replace h:=yp h zpn
    refine WC.b (WC.a (WL.pu rfl (WL.pu rfl (WL.nil (WX.a (WC.ret (WX.ys (WX.ye (WX.ye (WX.ys (WX.ye ?_)))))))))))
    obtain rfl:=oJ h
    refine WX.yf Tryz.results93 (.tmp rfl .nil) (fun w hw=>?_)
    exact⟨yD rfl,hw.sub .nil⟩
   ·replace h:=yq h zpn
    refine WC.skip (WX.yn (WX.a (WC.a (WL.pu rfl (WL.pu rfl (WL.nil ?_))))))
    exact WX.round ⟨zpl,(i64 (z6h+1))⟩ h (Nat.lt_succ_self _) (.r4 rfl rfl rfl rfl) (.cons .here .nil)
  ·replace h:=yq h zpm
   refine WC.exit (WX.yg (WX.yg (WX.yz ?_)))
   exact WX.mid () h .nil .nil
 ·rintro  h
  replace h:=zFr.symm.trans h
  refine WC.b (WC.a (WL.pu rfl (WL.nil (WX.a (WC.ret ?_)))))
  obtain rfl:=oJ h
  refine WX.yf Tryz.results93 (.tmp rfl .nil) (fun w hw=>?_)
  exact⟨yD rfl,hw.sub .nil⟩
def y57(zG:zB)(zbP:Int)(z2v:Int):Option Bool:=
 if decide (z2v<((zG.fM.length:Nat):Int)) then some (decide (z2v≥0)) else chk ((0:Int)≤(i64 (z2v-((zG.fM.length:Nat):Int)))∧(i64 (z2v-((zG.fM.length:Nat):Int)))<((zG.fS.length:Nat):Int)) (some (((((decide (((nth zG.fS (i64 (z2v-((zG.fM.length:Nat):Int)))).fNet)=zbP))&&(decide (((nth zG.fS (i64 (z2v-((zG.fM.length:Nat):Int)))).fDelay)≥0)))&&(decide (((nth zG.fS (i64 (z2v-((zG.fM.length:Nat):Int)))).fDelay)≤1000)))&&(decide (((nth zG.fS (i64 (z2v-((zG.fM.length:Nat):Int)))).fT)≥0)))&&(decide (((nth zG.fS (i64 (z2v-((zG.fM.length:Nat):Int)))).fT)≤1073741824))))
theorem yar(Z:Zp)(zpo:Option Addr)(zpp:Nat)(zpq:Option Addr)(zpr:Nat)(zps:Option Addr)(zpt:Nat)(zpu:Option Addr)(zpv:Nat)(zpw:Option Addr)(zpx:Nat)(zpy:Option Addr)(zpz:Nat)(zpA:Option Addr)(zpB:Nat)(zpC:Option Addr)(zpD:Nat)(zG:zB)(zbP:Int)(z2v:Int)(r:Bool)(h:y57 zG zbP z2v=some r)(w₀:World)(hz:PZ [] w₀ Z)(zUl:ZS Z 4 (y48 Z) zpo zpp zG.fM)(zUm:ZS Z 4 (y4M Z) zpq zpr zG.fC0)(zFu:ZS Z 4 (fun r x=>r=e66 x) zps zpt zG.fS)(zUn:ZS Z 4 (fun r x=>r=e64 x) zpu zpv zG.fK)(zUo:ZS Z 7 (p46 Z) zpw zpx zG.fVLs)(zUp:ZS Z 5 (fun r x=>r=y4Z x) zpy zpz zG.fH)(zUq:ZS Z 3 (y4N Z) zpA zpB zG.fU)(zUr:ZS Z 4 (fun r x=>r=y50 x) zpC zpD zG.fV0):
  Calls Tryz.prog 94 #[(.agg #[(.slice zpo zG.fM.length zpp),(.slice zpq zG.fC0.length zpr),(.slice zps zG.fS.length zpt),(.slice zpu zG.fK.length zpv),(.slice zpw zG.fVLs.length zpx),(.slice zpy zG.fH.length zpz),(.slice zpA zG.fU.length zpB),(.slice zpC zG.fV0.length zpD)]),(.int .i64 zbP),(.int .i64 z2v)] w₀ fun e w'=>e = .returned (.bool r)∧Hp [] w₀ w' []:=by
 unfold y57 at h
 refine Calls.on3 Tryz.func94 Tryz.ntmps94 ?_
 refine WC.b (WC.a (WL.nA 3 (yI (cs:=[(.slice zpo zG.fM.length zpp),(.slice zpq zG.fC0.length zpr),(.slice zps zG.fS.length zpt),(.slice zpu zG.fK.length zpv),(.slice zpw zG.fVLs.length zpx),(.slice zpy zG.fH.length zpz),(.slice zpA zG.fU.length zpB),(.slice zpC zG.fV0.length zpD)]) rfl rfl) ?_))
 intro zUs _
 refine WL.pu rfl (WL.nil (WX.a (WC.b (WC.b (WC.a (WL.pu rfl (WL.qA 9 (ya y6Y rfl rfl) (WL.qA 10 (yc y6Z rfl (yk .here rfl)) (WL.qA 11 (yH Tryz.underlying22 rfl) (WL.pu rfl (WL.nil (WX.a (WC.cond rfl (fun zpE=>?_) (fun zpE=>?_))))))))))))))
 ·replace h:=yp h zpE
  refine WC.b (WC.a (WL.pu rfl (WL.pu rfl (WL.pu rfl (WL.nil (WX.a (WC.ret (WX.ye ?_))))))))
  obtain rfl:=oJ h
  refine WX.yf Tryz.results94 (.tmp rfl .nil) (fun w hw=>?_)
  exact⟨yD rfl,hw.sub .nil⟩
 ·replace h:=yq h zpE
  refine WC.skip (WX.a (WC.b ?_))
  obtain⟨zFv,h⟩:=yo h
  refine WC.a (WL.qA 15 (ya yah rfl rfl) (WL.qA 16 (yc yai rfl (yk .here rfl)) (WL.pu rfl (WL.qA 18 (ya y6Y rfl rfl) (WL.qA 19 (yc y6Z rfl (yk .here rfl)) (WL.qA 20 (yH Tryz.underlying22 rfl) (WL.pu rfl (WL.znth (dd:=22) rfl rfl (Z:=Z) (Pr:=(fun r x=>r=e66 x)) ydc rfl rfl zFu zFv ?_))))))))
  rintro zUt zUu zFw zUv rfl
  refine WL.qA 23 (yh aggT_66 rfl (y2b hz.pv zFw) rfl) (WL.nA 7 (yv (cs:=[(.string ⟨#[]⟩),(.int .i64 0),(.int .i64 0),(.int .i64 0)]) zeroT_66 rfl) ?_)
  intro zUw _
  refine WL.ym rfl rfl (yl sizT_66 rfl rfl rfl .here rfl rfl rfl) (WL.nil (WX.a (WC.b (WC.a (WL.qA 24 (ya fo_66_1 rfl rfl) (WL.qA 25 (yc yt rfl (yk .here rfl)) (WL.pu rfl (WL.pu rfl (WL.pu rfl (WL.seg true 3 28 (B:=(decide (((nth zG.fS (i64 (z2v-((zG.fM.length:Nat):Int)))).fNet)=zbP))&&(decide (((nth zG.fS (i64 (z2v-((zG.fM.length:Nat):Int)))).fDelay)≥0))) rfl rfl rfl rfl rfl rfl (fun h=>(y2z h).symm) (fun _ zFx=>?_) ?_))))))))))
  ·skip
   refine WL.qA 29 (ya ydO rfl rfl) (WL.qA 30 (yc yt rfl (yk .here rfl)) (WL.pu rfl (WL.pu rfl ?_)))
   exact WL.yB (y2A zFx) rfl rfl .all
  refine WL.pu rfl (WL.seg true 3 33 (B:=((decide (((nth zG.fS (i64 (z2v-((zG.fM.length:Nat):Int)))).fNet)=zbP))&&(decide (((nth zG.fS (i64 (z2v-((zG.fM.length:Nat):Int)))).fDelay)≥0)))&&(decide (((nth zG.fS (i64 (z2v-((zG.fM.length:Nat):Int)))).fDelay)≤1000))) rfl rfl rfl rfl rfl rfl (fun h=>(y2z h).symm) (fun _ zFy=>?_) ?_)
  ·skip
   refine WL.qA 34 (ya ydO rfl rfl) (WL.qA 35 (yc yt rfl (yk .here rfl)) (WL.pu rfl (WL.pu rfl ?_)))
   exact WL.yB (y2A zFy) rfl rfl .all
  refine WL.pu rfl (WL.seg true 3 38 (B:=(((decide (((nth zG.fS (i64 (z2v-((zG.fM.length:Nat):Int)))).fNet)=zbP))&&(decide (((nth zG.fS (i64 (z2v-((zG.fM.length:Nat):Int)))).fDelay)≥0)))&&(decide (((nth zG.fS (i64 (z2v-((zG.fM.length:Nat):Int)))).fDelay)≤1000)))&&(decide (((nth zG.fS (i64 (z2v-((zG.fM.length:Nat):Int)))).fT)≥0))) rfl rfl rfl rfl rfl rfl (fun h=>(y2z h).symm) (fun _ zFz=>?_) ?_)
  ·skip
   refine WL.qA 39 (ya yge rfl rfl) (WL.qA 40 (yc yt rfl (yk .here rfl)) (WL.pu rfl (WL.pu rfl ?_)))
   exact WL.yB (y2A zFz) rfl rfl .all
  refine WL.pu rfl (WL.seg true 3 43 (B:=((((decide (((nth zG.fS (i64 (z2v-((zG.fM.length:Nat):Int)))).fNet)=zbP))&&(decide (((nth zG.fS (i64 (z2v-((zG.fM.length:Nat):Int)))).fDelay)≥0)))&&(decide (((nth zG.fS (i64 (z2v-((zG.fM.length:Nat):Int)))).fDelay)≤1000)))&&(decide (((nth zG.fS (i64 (z2v-((zG.fM.length:Nat):Int)))).fT)≥0)))&&(decide (((nth zG.fS (i64 (z2v-((zG.fM.length:Nat):Int)))).fT)≤1073741824))) rfl rfl rfl rfl rfl rfl (fun h=>(y2z h).symm) (fun _ zFA=>?_) ?_)
  ·skip
   refine WL.qA 44 (ya yge rfl rfl) (WL.qA 45 (yc yt rfl (yk .here rfl)) (WL.pu rfl (WL.pu rfl ?_)))
   exact WL.yB (y2A zFA) rfl rfl .all
  refine WL.pu rfl (WL.nil (WX.a (WC.ret ?_)))
  obtain rfl:=oJ h
  refine WX.yf Tryz.results94 (.tmp rfl .nil) (fun w hw=>?_)
  exact⟨yD rfl,hw.sub .nil⟩
def y5w(z1i:zB)(z9V:Int)(z3a:Int)(z85:Int)(z86:Int):Option Bool:=
 if (decide (z3a<0))||(decide (z3a≥((z1i.fK.length:Nat):Int))) then some false else chk ((0:Int)≤z3a∧z3a<((z1i.fK.length:Nat):Int)) ((y25 z1i ((nth z1i.fK z3a).fA)).bind fun z7j=>(y25 z1i ((nth z1i.fK z3a).fB)).bind fun z7k=>(if (((decide (((nth z1i.fK z3a).fNet)=z9V))&&(decide (((nth z1i.fK z3a).fSlow)≥1)))&&(decide (((nth z1i.fK z3a).fSlow)≤16)))&&(decide (z7j≠z7k)) then(y57 z1i z9V z7j).bind fun zy6=>some zy6 else some false).bind fun zpF=>(if zpF then(y57 z1i z9V z7k).bind fun zy7=>some zy7 else some false).bind fun zmg=>some (zmg&&(((decide (z7j=z85))&&(decide (z7k=z86)))||((decide (z7j=z86))&&(decide (z7k=z85))))))
theorem ydh(Z:Zp)(zpG:Option Addr)(zpH:Nat)(zpI:Option Addr)(zpJ:Nat)(zpK:Option Addr)(zpL:Nat)(zpM:Option Addr)(zpN:Nat)(zpO:Option Addr)(zpP:Nat)(zpQ:Option Addr)(zpR:Nat)(zpS:Option Addr)(zpT:Nat)(zpU:Option Addr)(zpV:Nat)(z1i:zB)(z9V:Int)(z3a:Int)(z85:Int)(z86:Int)(r:Bool)(h:y5w z1i z9V z3a z85 z86=some r)(w₀:World)(hz:PZ [] w₀ Z)(zmh:ZS Z 4 (y48 Z) zpG zpH z1i.fM)(zmi:ZS Z 4 (y4M Z) zpI zpJ z1i.fC0)(zmj:ZS Z 4 (fun r x=>r=e66 x) zpK zpL z1i.fS)(zj2:ZS Z 4 (fun r x=>r=e64 x) zpM zpN z1i.fK)(zmk:ZS Z 7 (p46 Z) zpO zpP z1i.fVLs)(zml:ZS Z 5 (fun r x=>r=y4Z x) zpQ zpR z1i.fH)(zmm:ZS Z 3 (y4N Z) zpS zpT z1i.fU)(zmn:ZS Z 4 (fun r x=>r=y50 x) zpU zpV z1i.fV0):
  Calls Tryz.prog 56 #[(.agg #[(.slice zpG z1i.fM.length zpH),(.slice zpI z1i.fC0.length zpJ),(.slice zpK z1i.fS.length zpL),(.slice zpM z1i.fK.length zpN),(.slice zpO z1i.fVLs.length zpP),(.slice zpQ z1i.fH.length zpR),(.slice zpS z1i.fU.length zpT),(.slice zpU z1i.fV0.length zpV)]),(.int .i64 z9V),(.int .i64 z3a),(.int .i64 z85),(.int .i64 z86)] w₀ fun e w'=>e = .returned (.bool r)∧Hp [] w₀ w' []:=by
 unfold y5w at h
 refine Calls.on5 Tryz.func56 Tryz.ntmps56 ?_
 refine WC.b (WC.a (WL.nA 5 (yI (cs:=[(.slice zpG z1i.fM.length zpH),(.slice zpI z1i.fC0.length zpJ),(.slice zpK z1i.fS.length zpL),(.slice zpM z1i.fK.length zpN),(.slice zpO z1i.fVLs.length zpP),(.slice zpQ z1i.fH.length zpR),(.slice zpS z1i.fU.length zpT),(.slice zpU z1i.fV0.length zpV)]) rfl rfl) ?_))
 intro zUx _
 refine WL.pu rfl (WL.nil (WX.a (WC.b (WC.b (WC.a (WL.pu rfl (WL.pu rfl (WL.pu rfl (WL.seg false 5 16 (B:=(decide (z3a<0))||(decide (z3a≥((z1i.fK.length:Nat):Int)))) rfl rfl rfl rfl rfl rfl (fun h=>(y6p h).symm) (fun _ zFB=>?_) ?_)))))))))
 ·skip
  refine WL.pu rfl (WL.qA 18 (ya y9f rfl rfl) (WL.qA 19 (yc y9g rfl (yk .here rfl)) (WL.qA 20 (yH Tryz.underlying25 rfl) (WL.pu rfl (WL.pu rfl ?_)))))
  exact WL.yB (y6q zFB) rfl rfl .all
 refine WL.nil (WX.a (WC.cond rfl (fun zpW=>?_) (fun zpW=>?_)))
 ·replace h:=yp h zpW
  refine WC.b (WC.a (WL.pu rfl (WL.nil (WX.a (WC.ret (WX.ye ?_))))))
  obtain rfl:=oJ h
  refine WX.yf Tryz.results56 (.tmp rfl .nil) (fun w hw=>?_)
  exact⟨yD rfl,hw.sub .nil⟩
 ·replace h:=yq h zpW
  refine WC.skip (WX.a (WC.b ?_))
  obtain⟨zFC,h⟩:=yo h
  refine WC.a (WL.qA 23 (ya y9f rfl rfl) (WL.qA 24 (yc y9g rfl (yk .here rfl)) (WL.pu rfl (WL.znth (dd:=26) rfl rfl (Z:=Z) (Pr:=(fun r x=>r=e64 x)) ydd rfl rfl zj2 zFC ?_))))
  rintro zUy zUz zFD zUA rfl
  refine WL.qA 27 (yh aggT_64 rfl (y2b hz.pv zFD) rfl) (WL.nA 11 (yv (cs:=[(.string ⟨#[]⟩),(.string ⟨#[]⟩),(.int .i64 0),(.int .i64 0)]) zeroT_64 rfl) ?_)
  intro zUB _
  refine WL.ym rfl rfl (yl sizT_64 rfl rfl rfl .here rfl rfl rfl) (WL.nil (WX.a (WC.b ?_)))
  obtain⟨z7j,zFE,h⟩:=z8 h
  obtain⟨z7k,zFF,h⟩:=z8 h
  refine WC.yP (fun i=>[].contains i) [] rfl (WD.qA 0 28 rfl (yh y2m rfl (yi .h1) rfl) (WD.pA 1 29 rfl (fun _=>ya fo_64_0 rfl rfl) (WD.qA 2 30 rfl (yc yde rfl (yk .here rfl)) (WD.eA 3 31 rfl (zb Tryz.call93 (.r2 rfl rfl)) (cc hz .nil fun w pz ho=>yaq _ _ _ _ _ _ _ _ _ _ _ _ _ _ _ _ _ _ _ _ zFE w pz zmh zmi zmj zj2 zmk zml zmm zmn) (WD.qA 4 32 rfl (yh y2m rfl (yi .h1) rfl) (WD.pA 5 33 rfl (fun _=>ya fo_64_1 rfl rfl) (WD.qA 6 34 rfl (yc yde rfl (yk .here rfl)) (WD.eA 7 35 rfl (zb Tryz.call93 (.r2 rfl rfl)) (cc hz .nil fun w pz ho=>yaq _ _ _ _ _ _ _ _ _ _ _ _ _ _ _ _ _ _ _ _ zFF w pz zmh zmi zmj zj2 zmk zml zmm zmn) (WD.pA 8 12 rfl (fun _=>q_z rfl) (WD.pA 9 13 rfl (fun _=>q_z rfl) (WD.done (by kernel_rfl) (WX.a (WC.b ?_)))))))))))))
  obtain⟨zpF,zy8,h⟩:=z8 h
  obtain⟨zmg,zy9,h⟩:=z8 h
  refine WC.a (WL.qA 36 (ya fo_64_2 rfl rfl) (WL.qA 37 (yc yt rfl (yk .here rfl)) (WL.pu rfl (WL.pu rfl (WL.pu rfl (WL.seg true 3 40 (B:=(decide (((nth z1i.fK z3a).fNet)=z9V))&&(decide (((nth z1i.fK z3a).fSlow)≥1))) rfl rfl rfl rfl rfl rfl (fun h=>(y2z h).symm) (fun _ zFG=>?_) ?_))))))
  ·skip
   refine WL.qA 41 (ya yca rfl rfl) (WL.qA 42 (yc yt rfl (yk .here rfl)) (WL.pu rfl (WL.pu rfl ?_)))
   exact WL.yB (y2A zFG) rfl rfl .all
  refine WL.pu rfl (WL.seg true 3 45 (B:=((decide (((nth z1i.fK z3a).fNet)=z9V))&&(decide (((nth z1i.fK z3a).fSlow)≥1)))&&(decide (((nth z1i.fK z3a).fSlow)≤16))) rfl rfl rfl rfl rfl rfl (fun h=>(y2z h).symm) (fun _ zFH=>?_) ?_)
  ·skip
   refine WL.qA 46 (ya yca rfl rfl) (WL.qA 47 (yc yt rfl (yk .here rfl)) (WL.pu rfl (WL.pu rfl ?_)))
   exact WL.yB (y2A zFH) rfl rfl .all
  refine WL.pu rfl (WL.seg true 3 50 (B:=(((decide (((nth z1i.fK z3a).fNet)=z9V))&&(decide (((nth z1i.fK z3a).fSlow)≥1)))&&(decide (((nth z1i.fK z3a).fSlow)≤16)))&&(decide (z7j≠z7k))) rfl rfl rfl rfl rfl rfl (fun h=>(y2z h).symm) (fun _ zFI=>?_) ?_)
  ·skip
   refine WL.pu rfl (WL.pu rfl (WL.pu rfl (WL.pu rfl ?_)))
   exact WL.yB (y2A zFI) rfl rfl .all
  refine WL.pu rfl (WL.seg true 4 55 (B:=zpF) rfl rfl rfl rfl rfl rfl (fun h=>(oJ (yq zy8 h)).symm) (fun _ zFJ=>?_) ?_)
  ·skip
   have zj3:=yp zy8 zFJ
   obtain⟨zy6,zFK,zj3⟩:=z8 zj3
   replace zj3:=oJ zj3
   refine WL.qA 56 (yh y2m rfl (yi .h1) rfl) (WL.pu rfl (WL.pu rfl (WL.cA 59 (zb Tryz.call94 (.r3 rfl rfl rfl)) .nil (cc hz .nil fun w pz ho=>yar _ _ _ _ _ _ _ _ _ _ _ _ _ _ _ _ _ _ _ _ _ zFK w pz zmh zmi zmj zj2 zmk zml zmm zmn) (WL.pu rfl ?_))))
   exact WL.yB zj3 rfl rfl .all
  refine WL.pu rfl (WL.seg true 4 61 (B:=zmg) rfl rfl rfl rfl rfl rfl (fun h=>(oJ (yq zy9 h)).symm) (fun _ zFL=>?_) ?_)
  ·skip
   have zj4:=yp zy9 zFL
   obtain⟨zy7,zFM,zj4⟩:=z8 zj4
   replace zj4:=oJ zj4
   refine WL.qA 62 (yh y2m rfl (yi .h1) rfl) (WL.pu rfl (WL.pu rfl (WL.cA 65 (zb Tryz.call94 (.r3 rfl rfl rfl)) .nil (cc hz .nil fun w pz ho=>yar _ _ _ _ _ _ _ _ _ _ _ _ _ _ _ _ _ _ _ _ _ zFM w pz zmh zmi zmj zj2 zmk zml zmm zmn) (WL.pu rfl ?_))))
   exact WL.yB zj4 rfl rfl .all
  refine WL.pu rfl (WL.seg true 18 67 (B:=zmg&&(((decide (z7j=z85))&&(decide (z7k=z86)))||((decide (z7j=z86))&&(decide (z7k=z85))))) rfl rfl rfl rfl rfl rfl (fun h=>(y2z h).symm) (fun _ zFN=>?_) ?_)
  ·skip
   refine WL.pu rfl (WL.pu rfl (WL.pu rfl (WL.pu rfl (WL.seg true 3 71 (B:=(decide (z7j=z85))&&(decide (z7k=z86))) rfl rfl rfl rfl rfl rfl (fun h=>(y2z h).symm) (fun _ zFO=>?_) ?_))))
   ·skip
    refine WL.pu rfl (WL.pu rfl (WL.pu rfl (WL.pu rfl ?_)))
    exact WL.yB (y2A zFO) rfl rfl .all
   refine WL.pu rfl (WL.seg false 8 76 (B:=((decide (z7j=z85))&&(decide (z7k=z86)))||((decide (z7j=z86))&&(decide (z7k=z85)))) rfl rfl rfl rfl rfl rfl (fun h=>(y6p h).symm) (fun _ zFP=>?_) ?_)
   ·skip
    refine WL.pu rfl (WL.pu rfl (WL.pu rfl (WL.pu rfl (WL.seg true 3 80 (B:=(decide (z7j=z86))&&(decide (z7k=z85))) rfl rfl rfl rfl rfl rfl (fun h=>(y2z h).symm) (fun _ zFQ=>?_) ?_))))
    ·skip
     refine WL.pu rfl (WL.pu rfl (WL.pu rfl (WL.pu rfl ?_)))
     exact WL.yB (y2A zFQ) rfl rfl .all
    refine WL.pu rfl ?_
    exact WL.yB (y6q zFP) rfl rfl .all
   refine WL.pu rfl ?_
   exact WL.yB (y2A zFN) rfl rfl .all
  refine WL.pu rfl (WL.nil (WX.a (WC.ret ?_)))
  obtain rfl:=oJ h
  refine WX.yf Tryz.results56 (.tmp rfl .nil) (fun w hw=>?_)
  exact⟨yD rfl,hw.sub .nil⟩
def y2N(zn:List zd)(zU:zB)(z4N:Int)(z9W:Option Bool):Nat→Int→(List (Int×Int))→Option Bool
 | 0,_,_=>none
 | zpX+1,zt,z5r=>if decide (zt<((zn.length:Nat):Int)) then chk ((0:Int)≤zt∧zt<((zn.length:Nat):Int)) (jp1 (fun(z29:List (Int×Int))=>chk (((decide ((yd z29 ((nth zn zt).fNode) 0)=0))||(decide ((yd z29 ((nth zn zt).fNext) 0)>0)))=false→((decide (zt>0))=true→((0:Int)≤0∧0<((zn.length:Nat):Int)))) ((if ((decide ((yd z29 ((nth zn zt).fNode) 0)=0))||(decide ((yd z29 ((nth zn zt).fNext) 0)>0)))||(((decide (zt>0))&&(decide (((nth zn zt).fNode)≠((nth zn 0).fNode))))&&(decide (((nth zn zt).fNode)<((zU.fM.length:Nat):Int)))) then some true else(y5w zU z4N ((nth zn zt).fQ) ((nth zn zt).fNode) ((nth zn zt).fNext)).bind fun zya=>some (!zya)).bind fun zpY=>if zpY then some false else y2N zn zU z4N z9W zpX (i64 (zt+1)) (yE z29 ((nth zn zt).fNext) (i64 ((yd z29 ((nth zn zt).fNext) 0)+1))))) fun zmo=>if decide (zt=0) then zmo (yE z5r ((nth zn zt).fNode) (i64 ((yd z5r ((nth zn zt).fNode) 0)+1))) else zmo z5r) else z9W
theorem y9I{n:Nat}{zn:List zd}{zU:zB}{z4N:Int}{z9W:Option Bool}{zt:Int}{z5r:List (Int×Int)}{r:Bool}(h:y2N zn zU z4N z9W n zt z5r=some r):∃ m,n=m+1:=by
 cases n with
 | zero=>cases h
 | succ m=>exact⟨m,rfl⟩
def y5x(zU:zB)(z4N:Int)(zn:List zd):Option Bool:=
 jp0 (some (decide (((zn.length:Nat):Int)≤32))) fun z9W=>y2N zn zU z4N z9W yy 0 ([]:List (Int×Int))
theorem ydi(Z:Zp)(zj5:Option Addr)(zj6:Nat)(zj7:Option Addr)(zj8:Nat)(zj9:Option Addr)(zja:Nat)(zjb:Option Addr)(zjc:Nat)(zjd:Option Addr)(zje:Nat)(zjf:Option Addr)(zjg:Nat)(zjh:Option Addr)(zji:Nat)(zjj:Option Addr)(zjk:Nat)(z4O:Option Addr)(z4P:Nat)(zU:zB)(z4N:Int)(zn:List zd)(r:Bool)(h:y5x zU z4N zn=some r)(w₀:World)(hz:PZ [] w₀ Z)(zFR:ZS Z 4 (y48 Z) zj5 zj6 zU.fM)(zFS:ZS Z 4 (y4M Z) zj7 zj8 zU.fC0)(zFT:ZS Z 4 (fun r x=>r=e66 x) zj9 zja zU.fS)(zFU:ZS Z 4 (fun r x=>r=e64 x) zjb zjc zU.fK)(zFV:ZS Z 7 (p46 Z) zjd zje zU.fVLs)(zFW:ZS Z 5 (fun r x=>r=y4Z x) zjf zjg zU.fH)(zFX:ZS Z 3 (y4N Z) zjh zji zU.fU)(zFY:ZS Z 4 (fun r x=>r=y50 x) zjj zjk zU.fV0)(zyb:ZS Z 3 (fun r x=>r=e62 x) z4O z4P zn):
  Calls Tryz.prog 29 #[(.agg #[(.slice zj5 zU.fM.length zj6),(.slice zj7 zU.fC0.length zj8),(.slice zj9 zU.fS.length zja),(.slice zjb zU.fK.length zjc),(.slice zjd zU.fVLs.length zje),(.slice zjf zU.fH.length zjg),(.slice zjh zU.fU.length zji),(.slice zjj zU.fV0.length zjk)]),(.int .i64 z4N),(.slice z4O zn.length z4P)] w₀ fun e w'=>e = .returned (.bool r)∧Hp [] w₀ w' []:=by
 unfold y5x at h
 refine Calls.on3 Tryz.func29 Tryz.ntmps29 ?_
 refine WC.b (WC.a (WL.nA 3 (yI (cs:=[(.slice zj5 zU.fM.length zj6),(.slice zj7 zU.fC0.length zj8),(.slice zj9 zU.fS.length zja),(.slice zjb zU.fK.length zjc),(.slice zjd zU.fVLs.length zje),(.slice zjf zU.fH.length zjg),(.slice zjh zU.fU.length zji),(.slice zjj zU.fV0.length zjk)]) rfl rfl) ?_))
 intro z9X _
 refine WL.pu rfl (WL.nil (WX.a (WC.b (WC.a (WL.nA 10 (y4B (Value.int .i64) (Value.int .i64)) ?_)))))
 intro z9Y _
 refine WL.pu rfl (WL.nil (WX.a ?_))
 obtain⟨z9W,zFZ,h⟩:=y1N h
 refine WC.y1j ((z9W=some r)) ([(2,(.slice z4O zn.length z4P))]) ([]) ?_ ?_
 ·skip
  refine WC.b (WC.a (WL.pu rfl (WL.qA 12 (yH Tryz.underlying48 rfl) (WL.pu rfl (WL.nil (WX.a (WC.block (WC.y8a (fun(zfP:Nat) (zt:Int) (z5r:List (Int×Int))=>(y2N zn zU z4N z9W zfP zt z5r=some r)) (fun zfP zt z5r=>[(1,(.int .i64 z4N)),(2,(.slice z4O zn.length z4P)),(3,(.pointer (some ⟨z9X,0,none⟩))),(7,(.map (some z9Y))),(11,(.slice z4O zn.length z4P)),(12,(.int .i64 ((zn.length:Nat):Int))),(13,(.int .i64 zt))]) (fun zfP zt z5r=>[stb z9X 31 [(.slice zj5 zU.fM.length zj6),(.slice zj7 zU.fC0.length zj8),(.slice zj9 zU.fS.length zja),(.slice zjb zU.fK.length zjc),(.slice zjd zU.fVLs.length zje),(.slice zjf zU.fH.length zjg),(.slice zjh zU.fU.length zji),(.slice zjj zU.fV0.length zjk)],yA z9Y (Value.int .i64) (Value.int .i64) z5r]) (fun zfP zt z5r=>zfP) ⟨yy,0,([]:List (Int×Int))⟩ h (.r7 rfl rfl rfl rfl rfl rfl rfl) (.s2 .h1 .here) ?_))))))))
  rintro zfP zt z5r h
  obtain⟨zpX,rfl⟩:=y9I h
  rw[y2N] at h
  refine WC.b (WC.a (WL.pu rfl (WL.nil (WX.a (WC.b (WC.cond rfl (fun zpZ=>?_) (fun zpZ=>?_)))))))
  ·replace h:=yp h zpZ
   refine WC.skip (WX.a (WC.b (WC.block (WC.b ?_))))
   obtain⟨zG0,h⟩:=yo h
   refine WC.a (WL.pu rfl (WL.znth (dd:=16) rfl rfl (Z:=Z) (Pr:=(fun r x=>r=e62 x)) y6e rfl rfl zyb zG0 ?_))
   rintro zUC zUD zG1 zUE rfl
   refine WL.qA 17 (yh y3Q rfl (y2b hz.pv zG1) rfl) (WL.nA 9 (yv (cs:=[(.int .i64 0),(.int .i64 0),(.int .i64 0)]) y6L rfl) ?_)
   intro zdW _
   refine WL.pu rfl (WL.ym rfl rfl (yl y70 rfl rfl rfl .here rfl rfl rfl) (WL.nil (WX.a ?_)))
   obtain⟨zmo,zG2,h⟩:=y15 h
   refine WC.y3k (fun(z29:List (Int×Int))=>(zmo z29=some r)) (fun z29=>[(1,(.int .i64 z4N)),(2,(.slice z4O zn.length z4P)),(3,(.pointer (some ⟨z9X,0,none⟩))),(7,(.map (some z9Y))),(8,(.int .i64 zt)),(9,(.pointer (some ⟨zdW,0,none⟩))),(11,(.slice z4O zn.length z4P)),(12,(.int .i64 ((zn.length:Nat):Int))),(13,(.int .i64 zt))]) (fun z29=>[stb z9X 31 [(.slice zj5 zU.fM.length zj6),(.slice zj7 zU.fC0.length zj8),(.slice zj9 zU.fS.length zja),(.slice zjb zU.fK.length zjc),(.slice zjd zU.fVLs.length zje),(.slice zjf zU.fH.length zjg),(.slice zjh zU.fU.length zji),(.slice zjj zU.fV0.length zjk)],yA z9Y (Value.int .i64) (Value.int .i64) z29,stb zdW 62 [(.int .i64 ((nth zn zt).fNode)),(.int .i64 ((nth zn zt).fNext)),(.int .i64 ((nth zn zt).fQ))]]) ?_ ?_
   ·skip
    refine WC.b (WC.a (WL.pu rfl (WL.pu rfl (WL.nil (WX.a (WC.cond rfl (fun zq0=>?_) (fun zq0=>?_)))))))
    ·replace h:=yp h zq0
     refine WC.a (WL.pu rfl (WL.qA 21 (ya y55 rfl rfl) (WL.qA 22 (yc yt rfl (yk .here rfl)) (WL.qA 23 (y3r (k:=((nth zn zt).fNode)) (dflt:=(0:Int)) y5t Tryz.underlying145 y56 rfl rfl rfl .h2) (WL.pu rfl (WL.ym rfl rfl (y5J (k:=((nth zn zt).fNode)) (v:=i64 ((yd z5r ((nth zn zt).fNode) 0)+1)) y5t Tryz.underlying145 rfl rfl rfl rfl .h2) (WL.nil ?_)))))))
     exact WX.mid (yE z5r ((nth zn zt).fNode) (i64 ((yd z5r ((nth zn zt).fNode) 0)+1))) h (.r9 rfl rfl rfl rfl rfl rfl rfl rfl rfl) (.s3 .h2 .here .here)
    ·replace h:=yq h zq0
     refine WC.skip ?_
     exact WX.mid z5r h (.r9 rfl rfl rfl rfl rfl rfl rfl rfl rfl) (.s3 .h1 .h1 .here)
   ·rintro z29 h
    replace h:=(zG2 z29).symm.trans h
    refine WC.b (WC.b ?_)
    obtain⟨zG3,h⟩:=yo h
    obtain⟨zpY,zyc,h⟩:=z8 h
    refine WC.yP (fun i=>[].contains i) [] rfl (WD.pA 0 25 rfl (fun _=>q_m rfl) (WD.pA 1 26 rfl (fun _=>ya y55 rfl rfl) (WD.qA 2 27 rfl (yc yt rfl (yk .h2 rfl)) (WD.qA 3 28 rfl (y3r (k:=((nth zn zt).fNode)) (dflt:=(0:Int)) y5t Tryz.underlying145 y56 rfl rfl rfl .h1) (WD.pA 4 29 rfl (fun _=>yaI rfl rfl) (WD.pA 5 30 rfl (fun _=>q_m rfl) (WD.mid (fuel':=33) [(1,(.int .i64 z4N)),(2,(.slice z4O zn.length z4P)),(3,(.pointer (some ⟨z9X,0,none⟩))),(7,(.map (some z9Y))),(8,(.int .i64 zt)),(9,(.pointer (some ⟨zdW,0,none⟩))),(11,(.slice z4O zn.length z4P)),(12,(.int .i64 ((zn.length:Nat):Int))),(13,(.int .i64 zt)),(30,(.bool (decide ((yd z29 ((nth zn zt).fNode) 0)=0)))),(36,(.bool ((decide ((yd z29 ((nth zn zt).fNode) 0)=0))||(decide ((yd z29 ((nth zn zt).fNext) 0)>0)))))] (y34 45 [11,10,9,8,7,6,5,4,3,2,1,0]) ?_ (fun zyd=>?_))))))))
    rotate_left
    ·rcases Bool.eq_false_or_eq_true (decide ((yd z29 ((nth zn zt).fNode) 0)=0)) with hb' | hb'
     ·have zq1:=hb';clear hb'
      refine WD.pin (i:=30) rfl zq1 (WD.kA 6 31 rfl (WD.kA 7 32 rfl (WD.kA 8 33 rfl (WD.kA 9 34 rfl (WD.kA 10 35 rfl (WD.pA 11 36 rfl (fun _=>y3M rfl rfl) (WD.reL (.s3 .here .here .here) ?_ zyd)))))))
      exact(.cons rfl (.cons rfl (.cons rfl (.cons rfl (.cons rfl (.cons rfl (.cons rfl (.cons rfl (.cons rfl (.cons (zN (Eq.symm zq1)) (.cons (zN (y6p zq1)) .nil)))))))))))
     ·have zq2:=hb';clear hb'
      refine WD.pin (i:=30) rfl zq2 (WD.pA 6 31 rfl (fun _=>q_m rfl) (WD.pA 7 32 rfl (fun _=>ya y5T rfl rfl) (WD.qA 8 33 rfl (yc yt rfl (yk .h2 rfl)) (WD.qA 9 34 rfl (y3r (k:=((nth zn zt).fNext)) (dflt:=(0:Int)) y5t Tryz.underlying145 y56 rfl rfl rfl .h1) (WD.pA 10 35 rfl (fun _=>yd6 rfl rfl) (WD.pA 11 36 rfl (fun _=>y3N rfl rfl) (WD.reL (.s3 .here .here .here) ?_ zyd)))))))
      exact(.cons rfl (.cons rfl (.cons rfl (.cons rfl (.cons rfl (.cons rfl (.cons rfl (.cons rfl (.cons rfl (.cons (zN (Eq.symm zq2)) (.cons (zN (y6q zq2)) .nil)))))))))))
    refine WD.d #[true,true,true,true,true,true,true,true,true,true,true,true,false,false,false,false,false,false,false,false,false,false,false,false,false,false,false,false,false,false,false,false,false,false,false,false,false,false,false,false,false,false,false,false,false] (by kernel_rfl) (WD.pA 12 37 rfl (fun _=>q_m rfl) (WD.mid (fuel':=12) [(1,(.int .i64 z4N)),(2,(.slice z4O zn.length z4P)),(3,(.pointer (some ⟨z9X,0,none⟩))),(7,(.map (some z9Y))),(9,(.pointer (some ⟨zdW,0,none⟩))),(11,(.slice z4O zn.length z4P)),(12,(.int .i64 ((zn.length:Nat):Int))),(13,(.int .i64 zt)),(37,(.bool ((decide ((yd z29 ((nth zn zt).fNode) 0)=0))||(decide ((yd z29 ((nth zn zt).fNext) 0)>0))))),(57,(.bool (((decide ((yd z29 ((nth zn zt).fNode) 0)=0))||(decide ((yd z29 ((nth zn zt).fNext) 0)>0)))||(((decide (zt>0))&&(decide (((nth zn zt).fNode)≠((nth zn 0).fNode))))&&(decide (((nth zn zt).fNode)<((zU.fM.length:Nat):Int)))))))] (y34 45 [32,31,30,29,28,27,26,25,24,23,22,21,20,19,18,17,16,15,14,13,12,11,10,9,8,7,6,5,4,3,2,1,0]) ?_ (fun zye=>?_)))
    rotate_left
    ·rcases Bool.eq_false_or_eq_true ((decide ((yd z29 ((nth zn zt).fNode) 0)=0))||(decide ((yd z29 ((nth zn zt).fNext) 0)>0))) with hb' | hb'
     ·have zq3:=hb';clear hb'
      refine WD.pin (i:=37) rfl zq3 (WD.kA 13 38 rfl (WD.kA 14 39 rfl (WD.kA 15 40 rfl (WD.kA 16 41 rfl (WD.kA 17 42 rfl (WD.kA 18 43 rfl (WD.kA 19 44 rfl (WD.kA 20 45 rfl (WD.kA 21 46 rfl (WD.kA 22 47 rfl (WD.kA 23 48 rfl (WD.kA 24 49 rfl (WD.kA 25 50 rfl (WD.kA 26 51 rfl (WD.kA 27 52 rfl (WD.kA 28 53 rfl (WD.kA 29 54 rfl (WD.kA 30 55 rfl (WD.kA 31 56 rfl (WD.pA 32 57 rfl (fun _=>y3M rfl rfl) (WD.reL (.s3 .here .here .here) ?_ zye)))))))))))))))))))))
      exact(.cons rfl (.cons rfl (.cons rfl (.cons rfl (.cons rfl (.cons rfl (.cons rfl (.cons rfl (.cons (zN (Eq.symm zq3)) (.cons (zN (y6p zq3)) .nil))))))))))
     ·have zmp:=hb';clear hb'
      have zG4:=zG3 zmp
      refine WD.pin (i:=37) rfl zmp (WD.pA 13 38 rfl (fun _=>q_m rfl) (WD.pA 14 39 rfl (fun _=>yd6 rfl rfl) (WD.pA 15 40 rfl (fun _=>q_m rfl) (WD.mid (fuel':=21) [(1,(.int .i64 z4N)),(2,(.slice z4O zn.length z4P)),(3,(.pointer (some ⟨z9X,0,none⟩))),(7,(.map (some z9Y))),(9,(.pointer (some ⟨zdW,0,none⟩))),(11,(.slice z4O zn.length z4P)),(12,(.int .i64 ((zn.length:Nat):Int))),(13,(.int .i64 zt)),(37,(.bool false)),(40,(.bool (decide (zt>0)))),(48,(.bool ((decide (zt>0))&&(decide (((nth zn zt).fNode)≠((nth zn 0).fNode))))))] (y34 45 [23,22,21,20,19,18,17,16,15,14,13,12,11,10,9,8,7,6,5,4,3,2,1,0]) ?_ (fun zyf=>?_)))))
      rotate_left
      ·rcases Bool.eq_false_or_eq_true (decide (zt>0)) with hb' | hb'
       ·have zmq:=hb';clear hb'
        have zG5:=zG4 zmq
        refine WD.pin (i:=40) rfl zmq (WD.pA 16 41 rfl (fun _=>ya y55 rfl rfl) (WD.qA 17 42 rfl (yc yt rfl (yk .h2 rfl)) (WD.pA 18 43 rfl (fun _=>q_m rfl) (WD.znth (j:=19) (dd:=44) (by kernel_rfl) rfl z2V z2W rfl rfl (Z:=Z) (Pr:=(fun r x=>r=e62 x)) y6e rfl rfl zyb zG5 ?_))))
        rintro zUF zUG zG6 zUH rfl
        refine WD.pA 20 45 rfl (fun _=>ya y55 rfl rfl) (WD.qA 21 46 rfl (yc yt rfl (y1l hz.pv zG6 rfl)) (WD.pA 22 47 rfl (fun _=>q_neq rfl rfl) (WD.pA 23 48 rfl (fun _=>y3M rfl rfl) (WD.reL (.s3 .here .here .here) ?_ zyf))))
        exact(.cons rfl (.cons rfl (.cons rfl (.cons rfl (.cons rfl (.cons rfl (.cons rfl (.cons rfl (.cons rfl (.cons (zN (Eq.symm zmq)) (.cons (zN (y2A zmq)) .nil)))))))))))
       ·have zq4:=hb';clear hb'
        refine WD.pin (i:=40) rfl zq4 (WD.kA 16 41 rfl (WD.kA 17 42 rfl (WD.kA 18 43 rfl (WD.kA 19 44 rfl (WD.kA 20 45 rfl (WD.kA 21 46 rfl (WD.kA 22 47 rfl (WD.pA 23 48 rfl (fun _=>y3N rfl rfl) (WD.reL (.s3 .here .here .here) ?_ zyf)))))))))
        exact(.cons rfl (.cons rfl (.cons rfl (.cons rfl (.cons rfl (.cons rfl (.cons rfl (.cons rfl (.cons rfl (.cons (zN (Eq.symm zq4)) (.cons (zN (y2z zq4)) .nil)))))))))))
      refine WD.d #[true,true,true,true,true,true,true,true,true,true,true,true,true,true,true,true,true,true,true,true,true,true,true,true,false,false,false,false,false,false,false,false,false,false,false,false,false,false,false,false,false,false,false,false,false] (by kernel_rfl) (WD.pA 24 49 rfl (fun _=>q_m rfl) (WD.mid (fuel':=13) [(1,(.int .i64 z4N)),(2,(.slice z4O zn.length z4P)),(3,(.pointer (some ⟨z9X,0,none⟩))),(7,(.map (some z9Y))),(9,(.pointer (some ⟨zdW,0,none⟩))),(11,(.slice z4O zn.length z4P)),(12,(.int .i64 ((zn.length:Nat):Int))),(13,(.int .i64 zt)),(37,(.bool false)),(49,(.bool ((decide (zt>0))&&(decide (((nth zn zt).fNode)≠((nth zn 0).fNode)))))),(56,(.bool (((decide (zt>0))&&(decide (((nth zn zt).fNode)≠((nth zn 0).fNode))))&&(decide (((nth zn zt).fNode)<((zU.fM.length:Nat):Int))))))] (y34 45 [31,30,29,28,27,26,25,24,23,22,21,20,19,18,17,16,15,14,13,12,11,10,9,8,7,6,5,4,3,2,1,0]) ?_ (fun zyg=>?_)))
      rotate_left
      ·rcases Bool.eq_false_or_eq_true ((decide (zt>0))&&(decide (((nth zn zt).fNode)≠((nth zn 0).fNode)))) with hb' | hb'
       ·have zq5:=hb';clear hb'
        refine WD.pin (i:=49) rfl zq5 (WD.pA 25 50 rfl (fun _=>ya y55 rfl rfl) (WD.qA 26 51 rfl (yc yt rfl (yk .h2 rfl)) (WD.pA 27 52 rfl (fun _=>ya y6Y rfl rfl) (WD.qA 28 53 rfl (yc y6Z rfl (yk .here rfl)) (WD.pA 29 54 rfl (fun _=>yH Tryz.underlying22 rfl) (WD.pA 30 55 rfl (fun _=>q_lss rfl rfl) (WD.pA 31 56 rfl (fun _=>y3M rfl rfl) (WD.reL (.s3 .here .here .here) ?_ zyg))))))))
        exact(.cons rfl (.cons rfl (.cons rfl (.cons rfl (.cons rfl (.cons rfl (.cons rfl (.cons rfl (.cons rfl (.cons (zN (Eq.symm zq5)) (.cons (zN (y2A zq5)) .nil)))))))))))
       ·have zq6:=hb';clear hb'
        refine WD.pin (i:=49) rfl zq6 (WD.kA 25 50 rfl (WD.kA 26 51 rfl (WD.kA 27 52 rfl (WD.kA 28 53 rfl (WD.kA 29 54 rfl (WD.kA 30 55 rfl (WD.pA 31 56 rfl (fun _=>y3N rfl rfl) (WD.reL (.s3 .here .here .here) ?_ zyg))))))))
        exact(.cons rfl (.cons rfl (.cons rfl (.cons rfl (.cons rfl (.cons rfl (.cons rfl (.cons rfl (.cons rfl (.cons (zN (Eq.symm zq6)) (.cons (zN (y2z zq6)) .nil)))))))))))
      refine WD.d #[true,true,true,true,true,true,true,true,true,true,true,true,true,true,true,true,true,true,true,true,true,true,true,true,true,true,true,true,true,true,true,true,false,false,false,false,false,false,false,false,false,false,false,false,false] (by kernel_rfl) (WD.pA 32 57 rfl (fun _=>y3N rfl rfl) (WD.reL (.s3 .here .here .here) ?_ zye))
      exact(.cons rfl (.cons rfl (.cons rfl (.cons rfl (.cons rfl (.cons rfl (.cons rfl (.cons rfl (.cons (zN (Eq.symm zmp)) (.cons (zN (y6q zmp)) .nil))))))))))
    refine WD.d #[true,true,true,true,true,true,true,true,true,true,true,true,true,true,true,true,true,true,true,true,true,true,true,true,true,true,true,true,true,true,true,true,true,false,false,false,false,false,false,false,false,false,false,false,false] (by kernel_rfl) (WD.pA 33 58 rfl (fun _=>q_m rfl) (WD.mid (fuel':=0) [(1,(.int .i64 z4N)),(2,(.slice z4O zn.length z4P)),(3,(.pointer (some ⟨z9X,0,none⟩))),(7,(.map (some z9Y))),(9,(.pointer (some ⟨zdW,0,none⟩))),(11,(.slice z4O zn.length z4P)),(12,(.int .i64 ((zn.length:Nat):Int))),(13,(.int .i64 zt)),(58,(.bool (((decide ((yd z29 ((nth zn zt).fNode) 0)=0))||(decide ((yd z29 ((nth zn zt).fNext) 0)>0)))||(((decide (zt>0))&&(decide (((nth zn zt).fNode)≠((nth zn 0).fNode))))&&(decide (((nth zn zt).fNode)<((zU.fM.length:Nat):Int))))))),(69,(.bool zpY))] (y34 45 [44,43,42,41,40,39,38,37,36,35,34,33,32,31,30,29,28,27,26,25,24,23,22,21,20,19,18,17,16,15,14,13,12,11,10,9,8,7,6,5,4,3,2,1,0]) ?_ (fun zyh=>?_)))
    rotate_left
    ·rcases Bool.eq_false_or_eq_true (((decide ((yd z29 ((nth zn zt).fNode) 0)=0))||(decide ((yd z29 ((nth zn zt).fNext) 0)>0)))||(((decide (zt>0))&&(decide (((nth zn zt).fNode)≠((nth zn 0).fNode))))&&(decide (((nth zn zt).fNode)<((zU.fM.length:Nat):Int))))) with hb' | hb'
     ·have zq7:=hb';clear hb'
      have zq8:=yp zyc zq7
      replace zq8:=oJ zq8
      refine WD.pin (i:=58) rfl zq7 (WD.kA 34 59 rfl (WD.kA 35 60 rfl (WD.kA 36 61 rfl (WD.kA 37 62 rfl (WD.kA 38 63 rfl (WD.kA 39 64 rfl (WD.kA 40 65 rfl (WD.kA 41 66 rfl (WD.kA 42 67 rfl (WD.kA 43 68 rfl (WD.pA 44 69 rfl (fun _=>y3M rfl rfl) (WD.reL (.s3 .here .here .here) ?_ zyh))))))))))))
      exact(.cons rfl (.cons rfl (.cons rfl (.cons rfl (.cons rfl (.cons rfl (.cons rfl (.cons rfl (.cons (zN (Eq.symm zq7)) (.cons (zN zq8) .nil))))))))))
     ·have zq9:=hb';clear hb'
      have zjl:=yq zyc zq9
      obtain⟨zya,zG7,zjl⟩:=z8 zjl
      replace zjl:=oJ zjl
      refine WD.pin (i:=58) rfl zq9 (WD.qA 34 59 rfl (yh y2m rfl (yi .here) rfl) (WD.pA 35 60 rfl (fun _=>q_m rfl) (WD.pA 36 61 rfl (fun _=>ya yc9 rfl rfl) (WD.qA 37 62 rfl (yc yt rfl (yk .h2 rfl)) (WD.pA 38 63 rfl (fun _=>ya y55 rfl rfl) (WD.qA 39 64 rfl (yc yt rfl (yk .h2 rfl)) (WD.pA 40 65 rfl (fun _=>ya y5T rfl rfl) (WD.qA 41 66 rfl (yc yt rfl (yk .h2 rfl)) (WD.eA 42 67 rfl (zb Tryz.call56 (.r5 rfl rfl rfl rfl rfl)) (cc hz .nil fun w pz ho=>ydh _ _ _ _ _ _ _ _ _ _ _ _ _ _ _ _ _ _ _ _ _ _ _ zG7 w pz zFR zFS zFT zFU zFV zFW zFX zFY) (WD.pA 43 68 rfl (fun _=>q_not rfl) (WD.pA 44 69 rfl (fun _=>y3N rfl rfl) (WD.reL (.s3 .here .here .here) ?_ zyh))))))))))))
      exact(.cons rfl (.cons rfl (.cons rfl (.cons rfl (.cons rfl (.cons rfl (.cons rfl (.cons rfl (.cons (zN (Eq.symm zq9)) (.cons (zN zjl) .nil))))))))))
    refine WD.d #[true,true,true,true,true,true,true,true,true,true,true,true,true,true,true,true,true,true,true,true,true,true,true,true,true,true,true,true,true,true,true,true,true,true,true,true,true,true,true,true,true,true,true,true,true] (by kernel_rfl) (WD.done (by kernel_rfl) (WX.a (WC.cond rfl (fun zqa=>?_) (fun zqa=>?_))))
    ·replace h:=yp h zqa
     refine WC.b (WC.a (WL.pu rfl (WL.nil (WX.a (WC.ret (WX.ye (WX.ys (WX.ye (WX.ye (WX.ys (WX.ye ?_)))))))))))
     obtain rfl:=oJ h
     refine WX.yf Tryz.results29 (.tmp rfl .nil) (fun w hw=>?_)
     exact⟨yD rfl,hw.sub .nil⟩
    ·replace h:=yq h zqa
     refine WC.skip (WX.a (WC.a (WL.pu rfl (WL.qA 71 (ya y5T rfl rfl) (WL.qA 72 (yc yt rfl (yk .h2 rfl)) (WL.qA 73 (y3r (k:=((nth zn zt).fNext)) (dflt:=(0:Int)) y5t Tryz.underlying145 y56 rfl rfl rfl .h1) (WL.pu rfl (WL.ym rfl rfl (y5J (k:=((nth zn zt).fNext)) (v:=i64 ((yd z29 ((nth zn zt).fNext) 0)+1)) y5t Tryz.underlying145 rfl rfl rfl rfl .h1) (WL.nil (WX.yn (WX.a (WC.a (WL.pu rfl (WL.pu rfl (WL.nil ?_)))))))))))))))
     exact WX.round ⟨zpX,(i64 (zt+1)),(yE z29 ((nth zn zt).fNext) (i64 ((yd z29 ((nth zn zt).fNext) 0)+1)))⟩ h (Nat.lt_succ_self _) (.r7 rfl rfl rfl rfl rfl rfl rfl) (.s2 .h1 .here)
  ·replace h:=yq h zpZ
   refine WC.exit (WX.yg (WX.yg (WX.yz ?_)))
   exact WX.mid () h (.cons rfl .nil) .nil
 ·rintro  h
  replace h:=zFZ.symm.trans h
  refine WC.b (WC.a (WL.pu rfl (WL.qA 77 (yH Tryz.underlying48 rfl) (WL.pu rfl (WL.pu rfl (WL.nil (WX.a (WC.ret ?_))))))))
  obtain rfl:=oJ h
  refine WX.yf Tryz.results29 (.tmp rfl .nil) (fun w hw=>?_)
  exact⟨yD rfl,hw.sub .nil⟩
def y1o(zjm:List zd)(z44:zB)(zmr:Int):Option Bool:=
 (y5x z44 zmr zjm).bind fun zyi=>some (!zyi)
theorem yct(Z:Zp)(zyj:Option Addr)(zyk:Nat)(zyl:Addr)(zym:Option Addr)(zyn:Nat)(zyo:Option Addr)(zyp:Nat)(zyq:Option Addr)(zyr:Nat)(zys:Option Addr)(zyt:Nat)(zyu:Option Addr)(zyv:Nat)(zyw:Option Addr)(zyx:Nat)(zyy:Option Addr)(zyz:Nat)(zyA:Option Addr)(zyB:Nat)(zyC:Addr)(zjm:List zd)(z44:zB)(zmr:Int)(r:Bool)(h:y1o zjm z44 zmr=some r)(w₀:World)(hz:PZ [] w₀ Z)(zG8:ZS Z 3 (fun r x=>r=e62 x) zyj zyk zjm)(zG9:ZS Z 4 (y48 Z) zym zyn z44.fM)(zGa:ZS Z 4 (y4M Z) zyo zyp z44.fC0)(zGb:ZS Z 4 (fun r x=>r=e66 x) zyq zyr z44.fS)(zGc:ZS Z 4 (fun r x=>r=e64 x) zys zyt z44.fK)(zGd:ZS Z 7 (p46 Z) zyu zyv z44.fVLs)(zGe:ZS Z 5 (fun r x=>r=y4Z x) zyw zyx z44.fH)(zGf:ZS Z 3 (y4N Z) zyy zyz z44.fU)(zGg:ZS Z 4 (fun r x=>r=y50 x) zyA zyB z44.fV0)(zGh:ZC Z zyl [(.slice zym z44.fM.length zyn),(.slice zyo z44.fC0.length zyp),(.slice zyq z44.fS.length zyr),(.slice zys z44.fK.length zyt),(.slice zyu z44.fVLs.length zyv),(.slice zyw z44.fH.length zyx),(.slice zyy z44.fU.length zyz),(.slice zyA z44.fV0.length zyB)])(zGi:ZC Z zyC [(.int .i64 zmr)]):
  Calls Tryz.prog 28 #[(.slice zyj zjm.length zyk),(.pointer (some zyl)),(.pointer (some zyC))] w₀ fun e w'=>e = .returned (.bool r)∧Hp [] w₀ w' []:=by
 unfold y1o at h
 refine Calls.on3 Tryz.func28 Tryz.ntmps28 ?_
 refine WC.b (WC.a (WL.pu rfl (WL.nil (WX.a (WC.b ?_)))))
 obtain⟨zyi,zGj,h⟩:=z8 h
 refine WC.a (WL.qA 5 (yh y2m rfl (y2b hz.pv zGh) rfl) (WL.qA 6 (yc yt rfl (y5I hz.pv zGi rfl)) (WL.pu rfl (WL.cA 8 (zb Tryz.call29 (.r3 rfl rfl rfl)) .nil (cc hz .nil fun w pz ho=>ydi _ _ _ _ _ _ _ _ _ _ _ _ _ _ _ _ _ _ _ _ _ _ _ zGj w pz zG9 zGa zGb zGc zGd zGe zGf zGg zG8) (WL.pu rfl (WL.pu rfl (WL.nil (WX.a (WC.ret ?_)))))))))
 obtain rfl:=oJ h
 refine WX.yf Tryz.results28 (.tmp rfl .nil) (fun w hw=>?_)
 exact⟨yD rfl,hw.sub .nil⟩
def yN(z5s:List (List zd))(z87:(List zd)→Option Bool)(z9Z:Option Int):Nat→Int→Option Int
 | 0,_=>none
 | zqb+1,z4Q=>if decide (z4Q<((z5s.length:Nat):Int)) then chk ((0:Int)≤z4Q∧z4Q<((z5s.length:Nat):Int)) ((z87 (nth z5s z4Q)).bind fun zqc=>if zqc then some z4Q else yN z5s z87 z9Z zqb (i64 (z4Q+1))) else z9Z
theorem y5l{n:Nat}{z5s:List (List zd)}{z87:(List zd)→Option Bool}{z9Z:Option Int}{z4Q:Int}{r:Int}(h:yN z5s z87 z9Z n z4Q=some r):∃ m,n=m+1:=by
 cases n with
 | zero=>cases h
 | succ m=>exact⟨m,rfl⟩
def y1G(z5s:List (List zd))(z87:(List zd)→Option Bool):Option Int:=
 jp0 (some (-1)) fun z9Z=>yN z5s z87 z9Z yy 0
theorem y6s(Z:Zp)(zqd:Option Addr)(zqe:Nat)(zdX:FuncId)(zjn:List Value)(z5s:List (List zd))(z87:(List zd)→Option Bool)(r:Int)(h:y1G z5s z87=some r)(w₀:World)(hz:PZ [] w₀ Z)(zGk:ZS Z 1 (p48 Z) zqd zqe z5s)(zGl:∀ args w,(callFunc zdX args).run Tryz.prog w = .ok (.enter zdX args) w)(zGm:∀ w:World,PZ [] w Z→∀(x0:List zd) (ao0:Option Addr) (cap0:Nat) (r:Bool),ZS Z 3 (fun r x=>r=e62 x) ao0 cap0 x0→z87 x0=some r→Calls Tryz.prog zdX (([(.slice ao0 x0.length cap0)]:List Value)++zjn).toArray w fun e w'=>e = .returned (.bool r)∧Hp [] w w' []):
  Calls Tryz.prog 55 #[(.slice zqd z5s.length zqe),(.func (.func zdX) #[] (zjn).toArray)] w₀ fun e w'=>e = .returned (.int .i64 r)∧Hp [] w₀ w' []:=by
 unfold y1G at h
 refine Calls.yK Tryz.func55 Tryz.ntmps55 ?_
 refine WC.b (WC.a (WL.pu rfl (WL.nil (WX.a ?_))))
 obtain⟨z9Z,zGn,h⟩:=y1N h
 refine WC.y1j ((z9Z=some r)) ([]) ([]) ?_ ?_
 ·skip
  refine WC.b (WC.a (WL.pu rfl (WL.qA 7 (yH Tryz.underlying32 rfl) (WL.pu rfl (WL.nil (WX.a (WC.block (WC.y2E (fun(zfQ:Nat) (z4Q:Int)=>(yN z5s z87 z9Z zfQ z4Q=some r)) (fun zfQ z4Q=>[(0,(.slice zqd z5s.length zqe)),(1,(.func (.func zdX) #[] (zjn).toArray)),(7,(.int .i64 ((z5s.length:Nat):Int))),(8,(.int .i64 z4Q))]) (fun zfQ z4Q=>[]) (fun zfQ z4Q=>zfQ) ⟨yy,0⟩ h (.r4 rfl rfl rfl rfl) .nil ?_))))))))
  rintro zfQ z4Q h
  obtain⟨zqb,rfl⟩:=y5l h
  rw[yN] at h
  refine WC.b (WC.a (WL.pu rfl (WL.nil (WX.a (WC.b (WC.cond rfl (fun zqf=>?_) (fun zqf=>?_)))))))
  ·replace h:=yp h zqf
   refine WC.skip (WX.a (WC.b (WC.block (WC.b (WC.a (WL.pu rfl (WL.pu rfl (WL.nil (WX.a (WC.b ?_))))))))))
   obtain⟨zGo,h⟩:=yo h
   obtain⟨zqc,zGp,h⟩:=z8 h
   refine WC.a (WL.pu rfl (WL.pu rfl (WL.pu rfl (WL.znth (dd:=14) rfl rfl (Z:=Z) (Pr:=(p48 Z)) y7h rfl rfl zGk zGo ?_))))
   rintro zUI zUJ zGq zUK ⟨zGr,zGs,rfl,zGt⟩
   refine WL.qA 15 (yc y7E rfl (y5I hz.pv zGq rfl)) (WL.cA 16 (y2y (l:=[.tmp 15]) (f:=zdX) (caps:=zjn) zGl rfl (.cons rfl .nil)) .nil (fun w hw=>zGm w (hz.now hw) (nth z5s z4Q) zGr zGs zqc zGt zGp) (WL.nil (WX.a (WC.cond rfl (fun zqg=>?_) (fun zqg=>?_)))))
   ·replace h:=yp h zqg
    refine WC.b (WC.a (WL.pu rfl (WL.pu rfl (WL.nil (WX.a (WC.ret (WX.ys (WX.ye (WX.ye (WX.ys (WX.ye ?_)))))))))))
    obtain rfl:=oJ h
    refine WX.yf Tryz.results55 (.tmp rfl .nil) (fun w hw=>?_)
    exact⟨yD rfl,hw.sub .nil⟩
   ·replace h:=yq h zqg
    refine WC.skip (WX.yn (WX.a (WC.a (WL.pu rfl (WL.pu rfl (WL.nil ?_))))))
    exact WX.round ⟨zqb,(i64 (z4Q+1))⟩ h (Nat.lt_succ_self _) (.r4 rfl rfl rfl rfl) .nil
  ·replace h:=yq h zqf
   refine WC.exit (WX.yg (WX.yg (WX.yz ?_)))
   exact WX.mid () h .nil .nil
 ·rintro  h
  replace h:=zGn.symm.trans h
  refine WC.b (WC.a (WL.pu rfl (WL.nil (WX.a (WC.ret ?_)))))
  obtain rfl:=oJ h
  refine WX.yf Tryz.results55 (.tmp rfl .nil) (fun w hw=>?_)
  exact⟨yD rfl,hw.sub .nil⟩
def yZ(zjo:List (List zd))(zdY:(List zd)→Option Bool):Option Bool:=
 (y1G zjo zdY).bind fun zyD=>some (decide (zyD≥0))
theorem y45(Z:Zp)(zyE:Option Addr)(zyF:Nat)(zdZ:FuncId)(zjp:List Value)(zjo:List (List zd))(zdY:(List zd)→Option Bool)(r:Bool)(h:yZ zjo zdY=some r)(w₀:World)(hz:PZ [] w₀ Z)(zGu:ZS Z 1 (p48 Z) zyE zyF zjo)(zGv:∀ args w,(callFunc zdZ args).run Tryz.prog w = .ok (.enter zdZ args) w)(zGw:∀ w:World,PZ [] w Z→∀(x0:List zd) (ao0:Option Addr) (cap0:Nat) (r:Bool),ZS Z 3 (fun r x=>r=e62 x) ao0 cap0 x0→zdY x0=some r→Calls Tryz.prog zdZ (([(.slice ao0 x0.length cap0)]:List Value)++zjp).toArray w fun e w'=>e = .returned (.bool r)∧Hp [] w w' []):
  Calls Tryz.prog 27 #[(.slice zyE zjo.length zyF),(.func (.func zdZ) #[] (zjp).toArray)] w₀ fun e w'=>e = .returned (.bool r)∧Hp [] w₀ w' []:=by
 unfold yZ at h
 refine Calls.yK Tryz.func27 Tryz.ntmps27 ?_
 refine WC.b (WC.a (WL.pu rfl (WL.nil (WX.a (WC.b ?_)))))
 obtain⟨zyD,zGx,h⟩:=z8 h
 refine WC.a (WL.pu rfl (WL.pu rfl (WL.cA 7 (zb Tryz.call55 (.r2 rfl rfl)) .nil (cc hz .nil fun w pz ho=>y6s _ _ _ (zdX:=zdZ) (zjn:=zjp) _ (z87:=zdY) _ zGx w pz zGu zGv zGw) (WL.pu rfl (WL.pu rfl (WL.nil (WX.a (WC.ret ?_))))))))
 obtain rfl:=oJ h
 refine WX.yf Tryz.results27 (.tmp rfl .nil) (fun w hw=>?_)
 exact⟨yD rfl,hw.sub .nil⟩
def y4I(z28:zB)(z6i:Int)(z8H:List (List zd)):Option Bool:=
 (if (((decide (z6i=0))||(decide (z6i=1)))&&(decide (((z8H.length:Nat):Int)=((z28.fVLs.length:Nat):Int))))&&(decide (((z8H.length:Nat):Int)≤16)) then(yZ z8H (fun(y0:List zd)=>y1o y0 z28 z6i)).bind fun zyG=>some (!zyG) else some false).bind fun zqh=>some zqh
theorem y9T(Z:Zp)(zqi:Option Addr)(zqj:Nat)(zqk:Option Addr)(zql:Nat)(zqm:Option Addr)(zqn:Nat)(zqo:Option Addr)(zqp:Nat)(zqq:Option Addr)(zqr:Nat)(zqs:Option Addr)(zqt:Nat)(zqu:Option Addr)(zqv:Nat)(zqw:Option Addr)(zqx:Nat)(zyH:Option Addr)(zyI:Nat)(z28:zB)(z6i:Int)(z8H:List (List zd))(r:Bool)(h:y4I z28 z6i z8H=some r)(w₀:World)(hz:PZ [] w₀ Z)(zGy:ZS Z 4 (y48 Z) zqi zqj z28.fM)(zGz:ZS Z 4 (y4M Z) zqk zql z28.fC0)(zGA:ZS Z 4 (fun r x=>r=e66 x) zqm zqn z28.fS)(zGB:ZS Z 4 (fun r x=>r=e64 x) zqo zqp z28.fK)(zGC:ZS Z 7 (p46 Z) zqq zqr z28.fVLs)(zGD:ZS Z 5 (fun r x=>r=y4Z x) zqs zqt z28.fH)(zGE:ZS Z 3 (y4N Z) zqu zqv z28.fU)(zGF:ZS Z 4 (fun r x=>r=y50 x) zqw zqx z28.fV0)(zGG:ZS Z 1 (p48 Z) zyH zyI z8H):
  Calls Tryz.prog 12 #[(.agg #[(.slice zqi z28.fM.length zqj),(.slice zqk z28.fC0.length zql),(.slice zqm z28.fS.length zqn),(.slice zqo z28.fK.length zqp),(.slice zqq z28.fVLs.length zqr),(.slice zqs z28.fH.length zqt),(.slice zqu z28.fU.length zqv),(.slice zqw z28.fV0.length zqx)]),(.int .i64 z6i),(.slice zyH z8H.length zyI)] w₀ fun e w'=>e = .returned (.bool r)∧Hp [] w₀ w' []:=by
 unfold y4I at h
 refine Calls.on3 Tryz.func12 Tryz.ntmps12 ?_
 refine WC.b (WC.a (WL.nA 3 (yI (cs:=[(.slice zqi z28.fM.length zqj),(.slice zqk z28.fC0.length zql),(.slice zqm z28.fS.length zqn),(.slice zqo z28.fK.length zqp),(.slice zqq z28.fVLs.length zqr),(.slice zqs z28.fH.length zqt),(.slice zqu z28.fU.length zqv),(.slice zqw z28.fV0.length zqx)]) rfl rfl) ?_))
 intro zGH _
 refine WL.nA 4 (yI (cs:=[(.int .i64 z6i)]) rfl rfl) ?_
 intro zGI _
 refine WL.pu rfl (WL.nil (WX.a (WC.b ?_)))
 obtain⟨zqh,zyJ,h⟩:=z8 h
 refine WC.a (WL.qA 7 (yc yt rfl (yk .here rfl)) (WL.pu rfl (WL.pu rfl (WL.seg false 2 9 (B:=(decide (z6i=0))||(decide (z6i=1))) rfl rfl rfl rfl rfl rfl (fun h=>(y6p h).symm) (fun _ zGJ=>?_) ?_))))
 ·skip
  refine WL.qA 10 (yc yt rfl (yk .here rfl)) (WL.pu rfl (WL.pu rfl ?_))
  exact WL.yB (y6q zGJ) rfl rfl .all
 refine WL.pu rfl (WL.seg true 6 13 (B:=((decide (z6i=0))||(decide (z6i=1)))&&(decide (((z8H.length:Nat):Int)=((z28.fVLs.length:Nat):Int)))) rfl rfl rfl rfl rfl rfl (fun h=>(y2z h).symm) (fun _ zGK=>?_) ?_)
 ·skip
  refine WL.pu rfl (WL.qA 15 (yH Tryz.underlying32 rfl) (WL.qA 16 (ya y3E rfl rfl) (WL.qA 17 (yc y4j rfl (yk .h1 rfl)) (WL.qA 18 (yH Tryz.underlying26 rfl) (WL.pu rfl (WL.pu rfl ?_))))))
  exact WL.yB (y2A zGK) rfl rfl .all
 refine WL.pu rfl (WL.seg true 3 21 (B:=(((decide (z6i=0))||(decide (z6i=1)))&&(decide (((z8H.length:Nat):Int)=((z28.fVLs.length:Nat):Int))))&&(decide (((z8H.length:Nat):Int)≤16))) rfl rfl rfl rfl rfl rfl (fun h=>(y2z h).symm) (fun _ zGL=>?_) ?_)
 ·skip
  refine WL.pu rfl (WL.qA 23 (yH Tryz.underlying32 rfl) (WL.pu rfl (WL.pu rfl ?_)))
  exact WL.yB (y2A zGL) rfl rfl .all
 refine WL.pu rfl (WL.seg true 4 26 (B:=zqh) rfl rfl rfl rfl rfl rfl (fun h=>(oJ (yq zyJ h)).symm) (fun _ zGM=>?_) ?_)
 ·skip
  have zjq:=yp zyJ zGM
  obtain⟨zyG,zGN,zjq⟩:=z8 zjq
  replace zjq:=oJ zjq
  refine WL.pu rfl (WL.qA 28 (y19 (Eos.caps (l:=[.tmp 3,.tmp 4]) (.r2 rfl rfl))) (WL.cA 29 (zb Tryz.call27 (.r2 rfl rfl)) .nil (ccl hz .nil (.s2 .h1 .here) fun w pz ho la=>y45 _ _ _ (zdZ:=28) (zjp:=[(.pointer (some ⟨zGH,0,none⟩)),(.pointer (some ⟨zGI,0,none⟩))]) _ (zdY:=(fun(y0:List zd)=>y1o y0 z28 z6i)) _ zGN w pz ((zGG.mono (Zle.left _ _)).weak (fun _ _ h=>y1Q (Zle.left _ _) h)) Tryz.call28 (fun w' hz' y0 ga0 gc0 r gh0 hr=>yct _ _ _ _ _ _ _ _ _ _ _ _ _ _ _ _ _ _ _ _ _ _ _ _ _ hr w' hz' gh0 ((zGy.mono (Zle.left _ _)).weak (fun _ _ h=>y1P (Zle.left _ _) h)) ((zGz.mono (Zle.left _ _)).weak (fun _ _ h=>y1Y (Zle.left _ _) h)) (zGA.mono (Zle.left _ _)) (zGB.mono (Zle.left _ _)) ((zGC.mono (Zle.left _ _)).weak (fun _ _ h=>y1m (Zle.left _ _) h)) (zGD.mono (Zle.left _ _)) ((zGE.mono (Zle.left _ _)).weak (fun _ _ h=>y1Z (Zle.left _ _) h)) (zGF.mono (Zle.left _ _)) ((la _ (.head _) _).stb) ((la _ (.tail _ (.head _)) _).stb))) (WL.pu rfl (WL.pu rfl ?_))))
  exact WL.yB zjq rfl rfl .all
 refine WL.pu rfl (WL.nil (WX.a (WC.ret ?_)))
 obtain rfl:=oJ h
 refine WX.yf Tryz.results12 (.tmp rfl .nil) (fun w hw=>?_)
 exact⟨yD rfl,hw.sub .nil⟩
def y30(z88:Int)(za0:Option Bool):Nat→Int→Option Bool
 | 0,_=>none
 | zqy+1,z6H=>if decide (z6H≤12800) then if decide (z6H=z88) then some true else y30 z88 za0 zqy (i64 (z6H*2)) else za0
theorem ybl{n:Nat}{z88:Int}{za0:Option Bool}{z6H:Int}{r:Bool}(h:y30 z88 za0 n z6H=some r):∃ m,n=m+1:=by
 cases n with
 | zero=>cases h
 | succ m=>exact⟨m,rfl⟩
def y7j(z88:Int):Option Bool:=
 jp0 (some false) fun za0=>y30 z88 za0 yy 100
theorem yfZ(Z:Zp)(z88:Int)(r:Bool)(h:y7j z88=some r)(w₀:World)(hz:PZ [] w₀ Z):
  Calls Tryz.prog 20 #[(.int .i64 z88)] w₀ fun e w'=>e = .returned (.bool r)∧Hp [] w₀ w' []:=by
 unfold y7j at h
 refine Calls.on1 Tryz.func20 Tryz.ntmps20 ?_
 refine WC.b (WC.a (WL.pu rfl (WL.nil (WX.a ?_))))
 obtain⟨za0,zGO,h⟩:=y1N h
 refine WC.y1j ((za0=some r)) ([]) ([]) ?_ ?_
 ·skip
  refine WC.b (WC.a (WL.pu rfl (WL.nil (WX.a (WC.block (WC.y2E (fun(zfR:Nat) (z6H:Int)=>(y30 z88 za0 zfR z6H=some r)) (fun zfR z6H=>[(0,(.int .i64 z88)),(3,(.int .i64 z6H))]) (fun zfR z6H=>[]) (fun zfR z6H=>zfR) ⟨yy,100⟩ h (.r2 rfl rfl) .nil ?_))))))
  rintro zfR z6H h
  obtain⟨zqy,rfl⟩:=ybl h
  rw[y30] at h
  refine WC.b (WC.b (WC.a (WL.pu rfl (WL.pu rfl (WL.nil (WX.a (WC.cond rfl (fun zqz=>?_) (fun zqz=>?_))))))))
  ·replace h:=yp h zqz
   refine WC.skip (WX.a (WC.b (WC.block (WC.b (WC.a (WL.pu rfl (WL.pu rfl (WL.pu rfl (WL.nil (WX.a (WC.cond rfl (fun zqA=>?_) (fun zqA=>?_))))))))))))
   ·replace h:=yp h zqA
    refine WC.b (WC.a (WL.pu rfl (WL.nil (WX.a (WC.ret (WX.ys (WX.ye (WX.ye (WX.ys (WX.ye ?_))))))))))
    obtain rfl:=oJ h
    refine WX.yf Tryz.results20 (.tmp rfl .nil) (fun w hw=>?_)
    exact⟨yD rfl,hw.sub .nil⟩
   ·replace h:=yq h zqA
    refine WC.skip (WX.yn (WX.a (WC.a (WL.pu rfl (WL.pu rfl (WL.pu rfl (WL.nil ?_)))))))
    exact WX.round ⟨zqy,(i64 (z6H*2))⟩ h (Nat.lt_succ_self _) (.r2 rfl rfl) .nil
  ·replace h:=yq h zqz
   refine WC.exit (WX.yg (WX.yg (WX.yz ?_)))
   exact WX.mid () h .nil .nil
 ·rintro  h
  replace h:=zGO.symm.trans h
  refine WC.b (WC.a (WL.pu rfl (WL.nil (WX.a (WC.ret ?_)))))
  obtain rfl:=oJ h
  refine WX.yf Tryz.results20 (.tmp rfl .nil) (fun w hw=>?_)
  exact⟨yD rfl,hw.sub .nil⟩
def y2B(z2X:zj):Option Bool:=
 (y7j z2X.fBag).bind fun zms=>some (((!zms)||(decide (z2X.fMax<1)))||(decide (z2X.fMax>72)))
theorem ycu(Z:Zp)(zqB:Option Addr)(zqC:Nat)(z2X:zj)(r:Bool)(h:y2B z2X=some r)(w₀:World)(hz:PZ [] w₀ Z)(zUL:ZS Z 3 (fun r x=>r=e43 x) zqB zqC z2X.fTo):
  Calls Tryz.prog 19 #[(.agg #[(.string z2X.fName),(.string z2X.fFrom.fModule),(.string z2X.fFrom.fPart),(.string z2X.fFrom.fPort),(.int .i64 z2X.fBag),(.int .i64 z2X.fMax),(.slice zqB z2X.fTo.length zqC)])] w₀ fun e w'=>e = .returned (.bool r)∧Hp [] w₀ w' []:=by
 unfold y2B at h
 refine Calls.on1 Tryz.func19 Tryz.ntmps19 ?_
 refine WC.b (WC.a (WL.nA 1 (yI (cs:=[(.string z2X.fName),(.string z2X.fFrom.fModule),(.string z2X.fFrom.fPart),(.string z2X.fFrom.fPort),(.int .i64 z2X.fBag),(.int .i64 z2X.fMax),(.slice zqB z2X.fTo.length zqC)]) rfl rfl) ?_))
 intro zUM _
 refine WL.pu rfl (WL.nil (WX.a (WC.b ?_)))
 obtain⟨zms,zGP,h⟩:=z8 h
 refine WC.a (WL.qA 3 (ya yak rfl rfl) (WL.qA 4 (yc yt rfl (yk .here rfl)) (WL.cA 5 (zb Tryz.call20 (.cons rfl .nil)) .nil (cc hz .nil fun w pz ho=>yfZ _ _ _ zGP w pz ) (WL.pu rfl (WL.pu rfl (WL.seg false 3 7 (B:=(!zms)||(decide (z2X.fMax<1))) rfl rfl rfl rfl rfl rfl (fun h=>(y6p h).symm) (fun _ zGQ=>?_) ?_))))))
 ·skip
  refine WL.qA 8 (ya y7F rfl rfl) (WL.qA 9 (yc yt rfl (yk .here rfl)) (WL.pu rfl (WL.pu rfl ?_)))
  exact WL.yB (y6q zGQ) rfl rfl .all
 refine WL.pu rfl (WL.seg false 3 12 (B:=((!zms)||(decide (z2X.fMax<1)))||(decide (z2X.fMax>72))) rfl rfl rfl rfl rfl rfl (fun h=>(y6p h).symm) (fun _ zGR=>?_) ?_)
 ·skip
  refine WL.qA 13 (ya y7F rfl rfl) (WL.qA 14 (yc yt rfl (yk .here rfl)) (WL.pu rfl (WL.pu rfl ?_)))
  exact WL.yB (y6q zGR) rfl rfl .all
 refine WL.pu rfl (WL.nil (WX.a (WC.ret ?_)))
 obtain rfl:=oJ h
 refine WX.yf Tryz.results19 (.tmp rfl .nil) (fun w hw=>?_)
 exact⟨yD rfl,hw.sub .nil⟩
def y12(z2i:List zj)(z89:zj→Option Bool)(za1:Option Int):Nat→Int→Option Int
 | 0,_=>none
 | zqD+1,z2d=>if decide (z2d<((z2i.length:Nat):Int)) then chk ((0:Int)≤z2d∧z2d<((z2i.length:Nat):Int)) ((z89 (⟨((nth z2i z2d).fName),(⟨(((nth z2i z2d).fFrom).fModule),(((nth z2i z2d).fFrom).fPart),(((nth z2i z2d).fFrom).fPort)⟩:Sapi_Ref),((nth z2i z2d).fBag),((nth z2i z2d).fMax),((nth z2i z2d).fTo)⟩:zj)).bind fun zqE=>if zqE then some z2d else y12 z2i z89 za1 zqD (i64 (z2d+1))) else za1
theorem y67{n:Nat}{z2i:List zj}{z89:zj→Option Bool}{za1:Option Int}{z2d:Int}{r:Int}(h:y12 z2i z89 za1 n z2d=some r):∃ m,n=m+1:=by
 cases n with
 | zero=>cases h
 | succ m=>exact⟨m,rfl⟩
def y2S(z2i:List zj)(z89:zj→Option Bool):Option Int:=
 jp0 (some (-1)) fun za1=>y12 z2i z89 za1 yy 0
theorem y7t(Z:Zp)(zqF:Option Addr)(zqG:Nat)(ze0:FuncId)(zjr:List Value)(z2i:List zj)(z89:zj→Option Bool)(r:Int)(h:y2S z2i z89=some r)(w₀:World)(hz:PZ [] w₀ Z)(zGS:ZS Z 7 (p46 Z) zqF zqG z2i)(zGT:∀ args w,(callFunc ze0 args).run Tryz.prog w = .ok (.enter ze0 args) w)(zGU:∀ w:World,PZ [] w Z→∀(x0:zj) (ao0:Option Addr) (cap0:Nat) (r:Bool),ZS Z 3 (fun r x=>r=e43 x) ao0 cap0 x0.fTo→z89 x0=some r→Calls Tryz.prog ze0 (([(.agg #[(.string x0.fName),(.string x0.fFrom.fModule),(.string x0.fFrom.fPart),(.string x0.fFrom.fPort),(.int .i64 x0.fBag),(.int .i64 x0.fMax),(.slice ao0 x0.fTo.length cap0)])]:List Value)++zjr).toArray w fun e w'=>e = .returned (.bool r)∧Hp [] w w' []):
  Calls Tryz.prog 34 #[(.slice zqF z2i.length zqG),(.func (.func ze0) #[] (zjr).toArray)] w₀ fun e w'=>e = .returned (.int .i64 r)∧Hp [] w₀ w' []:=by
 unfold y2S at h
 refine Calls.yK Tryz.func34 Tryz.ntmps34 ?_
 refine WC.b (WC.a (WL.pu rfl (WL.nil (WX.a ?_))))
 obtain⟨za1,zGV,h⟩:=y1N h
 refine WC.y1j ((za1=some r)) ([]) ([]) ?_ ?_
 ·skip
  refine WC.b (WC.a (WL.pu rfl (WL.qA 7 (yH Tryz.underlying26 rfl) (WL.pu rfl (WL.nil (WX.a (WC.block (WC.y2E (fun(zfS:Nat) (z2d:Int)=>(y12 z2i z89 za1 zfS z2d=some r)) (fun zfS z2d=>[(0,(.slice zqF z2i.length zqG)),(1,(.func (.func ze0) #[] (zjr).toArray)),(7,(.int .i64 ((z2i.length:Nat):Int))),(8,(.int .i64 z2d))]) (fun zfS z2d=>[]) (fun zfS z2d=>zfS) ⟨yy,0⟩ h (.r4 rfl rfl rfl rfl) .nil ?_))))))))
  rintro zfS z2d h
  obtain⟨zqD,rfl⟩:=y67 h
  rw[y12] at h
  refine WC.b (WC.a (WL.pu rfl (WL.nil (WX.a (WC.b (WC.cond rfl (fun zqH=>?_) (fun zqH=>?_)))))))
  ·replace h:=yp h zqH
   refine WC.skip (WX.a (WC.b (WC.block (WC.b (WC.a (WL.pu rfl (WL.pu rfl (WL.nil (WX.a (WC.b ?_))))))))))
   obtain⟨zGW,h⟩:=yo h
   obtain⟨zqE,zGX,h⟩:=z8 h
   refine WC.a (WL.pu rfl (WL.pu rfl (WL.pu rfl (WL.znth (dd:=14) rfl rfl (Z:=Z) (Pr:=(p46 Z)) y4U rfl rfl zGS zGW ?_))))
   rintro zUN zUO zGY zUP ⟨zGZ,zH0,rfl,zH1⟩
   refine WL.qA 15 (yh aggT_46 rfl (y2b hz.pv zGY) rfl) (WL.cA 16 (y2y (l:=[.tmp 15]) (f:=ze0) (caps:=zjr) zGT rfl (.cons rfl .nil)) .nil (fun w hw=>zGU w (hz.now hw) (⟨((nth z2i z2d).fName),(⟨(((nth z2i z2d).fFrom).fModule),(((nth z2i z2d).fFrom).fPart),(((nth z2i z2d).fFrom).fPort)⟩:Sapi_Ref),((nth z2i z2d).fBag),((nth z2i z2d).fMax),((nth z2i z2d).fTo)⟩:zj) zGZ zH0 zqE zH1 zGX) (WL.nil (WX.a (WC.cond rfl (fun zqI=>?_) (fun zqI=>?_)))))
   ·replace h:=yp h zqI
    refine WC.b (WC.a (WL.pu rfl (WL.pu rfl (WL.nil (WX.a (WC.ret (WX.ys (WX.ye (WX.ye (WX.ys (WX.ye ?_)))))))))))
    obtain rfl:=oJ h
    refine WX.yf Tryz.results34 (.tmp rfl .nil) (fun w hw=>?_)
    exact⟨yD rfl,hw.sub .nil⟩
   ·replace h:=yq h zqI
    refine WC.skip (WX.yn (WX.a (WC.a (WL.pu rfl (WL.pu rfl (WL.nil ?_))))))
    exact WX.round ⟨zqD,(i64 (z2d+1))⟩ h (Nat.lt_succ_self _) (.r4 rfl rfl rfl rfl) .nil
  ·replace h:=yq h zqH
   refine WC.exit (WX.yg (WX.yg (WX.yz ?_)))
   exact WX.mid () h .nil .nil
 ·rintro  h
  replace h:=zGV.symm.trans h
  refine WC.b (WC.a (WL.pu rfl (WL.nil (WX.a (WC.ret ?_)))))
  obtain rfl:=oJ h
  refine WX.yf Tryz.results34 (.tmp rfl .nil) (fun w hw=>?_)
  exact⟨yD rfl,hw.sub .nil⟩
def y1T(zjs:List zj)(zfT:zj→Option Bool):Option Bool:=
 (y2S zjs zfT).bind fun zyK=>some (decide (zyK≥0))
theorem y72(Z:Zp)(zyL:Option Addr)(zyM:Nat)(zfU:FuncId)(zmt:List Value)(zjs:List zj)(zfT:zj→Option Bool)(r:Bool)(h:y1T zjs zfT=some r)(w₀:World)(hz:PZ [] w₀ Z)(zH2:ZS Z 7 (p46 Z) zyL zyM zjs)(zH3:∀ args w,(callFunc zfU args).run Tryz.prog w = .ok (.enter zfU args) w)(zH4:∀ w:World,PZ [] w Z→∀(x0:zj) (ao0:Option Addr) (cap0:Nat) (r:Bool),ZS Z 3 (fun r x=>r=e43 x) ao0 cap0 x0.fTo→zfT x0=some r→Calls Tryz.prog zfU (([(.agg #[(.string x0.fName),(.string x0.fFrom.fModule),(.string x0.fFrom.fPart),(.string x0.fFrom.fPort),(.int .i64 x0.fBag),(.int .i64 x0.fMax),(.slice ao0 x0.fTo.length cap0)])]:List Value)++zmt).toArray w fun e w'=>e = .returned (.bool r)∧Hp [] w w' []):
  Calls Tryz.prog 18 #[(.slice zyL zjs.length zyM),(.func (.func zfU) #[] (zmt).toArray)] w₀ fun e w'=>e = .returned (.bool r)∧Hp [] w₀ w' []:=by
 unfold y1T at h
 refine Calls.yK Tryz.func18 Tryz.ntmps18 ?_
 refine WC.b (WC.a (WL.pu rfl (WL.nil (WX.a (WC.b ?_)))))
 obtain⟨zyK,zH5,h⟩:=z8 h
 refine WC.a (WL.pu rfl (WL.pu rfl (WL.cA 7 (zb Tryz.call34 (.r2 rfl rfl)) .nil (cc hz .nil fun w pz ho=>y7t _ _ _ (ze0:=zfU) (zjr:=zmt) _ (z89:=zfT) _ zH5 w pz zH2 zH3 zH4) (WL.pu rfl (WL.pu rfl (WL.nil (WX.a (WC.ret ?_))))))))
 obtain rfl:=oJ h
 refine WX.yf Tryz.results18 (.tmp rfl .nil) (fun w hw=>?_)
 exact⟨yD rfl,hw.sub .nil⟩
def y49(z7l:zd):Option za:=
 some (⟨z7l.fNode,z7l.fQ⟩:za)
theorem y5y(Z:Zp)(z7l:zd)(r:za)(h:y49 z7l=some r)(w₀:World)(hz:PZ [] w₀ Z):
  Calls Tryz.prog 40 #[(.agg #[(.int .i64 z7l.fNode),(.int .i64 z7l.fNext),(.int .i64 z7l.fQ)])] w₀ fun e w'=>e = .returned (.agg #[(.int .i64 r.fNode),(.int .i64 r.fQ)])∧Hp [] w₀ w' []:=by
 unfold y49 at h
 refine Calls.on1 Tryz.func40 Tryz.ntmps40 ?_
 refine WC.b (WC.a (WL.nA 1 (yI (cs:=[(.int .i64 z7l.fNode),(.int .i64 z7l.fNext),(.int .i64 z7l.fQ)]) rfl rfl) ?_))
 intro zUQ _
 refine WL.nA 2 (yv (cs:=[(.int .i64 0),(.int .i64 0)]) y9m rfl) ?_
 intro zUR _
 refine WL.nil (WX.a (WC.b (WC.a (WL.qA 3 (ya y55 rfl rfl) (WL.qA 4 (yc yt rfl (yk .h1 rfl)) (WL.qA 5 (ya yc9 rfl rfl) (WL.qA 6 (yc yt rfl (yk .h1 rfl)) (WL.qA 7 (yL (v:=(.agg #[(.int .i64 z7l.fNode),(.int .i64 z7l.fQ)])) (Eos.parts (l:=[.tmp 4,.tmp 6]) (.r2 rfl rfl) [0,1]) (fun _=>by kernel_rfl)) (WL.ym rfl rfl (yl ycb rfl rfl rfl .here rfl rfl rfl) (WL.nil (WX.a (WC.ret ?_))))))))))))
 obtain rfl:=oJ h
 refine WX.yf Tryz.results40 (.agg rfl y3R rfl (yi .here) .nil) (fun w hw=>?_)
 exact⟨yD rfl,hw.sub .nil⟩
def yS(z4q:List za)(z5t:za)(za2:Option Int):Nat→Int→Option Int
 | 0,_=>none
 | zqJ+1,z47=>if decide (z47<((z4q.length:Nat):Int)) then chk ((0:Int)≤z47∧z47<((z4q.length:Nat):Int)) (if decide (z5t=(⟨((nth z4q z47).fNode),((nth z4q z47).fQ)⟩:za)) then some z47 else yS z4q z5t za2 zqJ (i64 (z47+1))) else za2
theorem y5m{n:Nat}{z4q:List za}{z5t:za}{za2:Option Int}{z47:Int}{r:Int}(h:yS z4q z5t za2 n z47=some r):∃ m,n=m+1:=by
 cases n with
 | zero=>cases h
 | succ m=>exact⟨m,rfl⟩
def y2c(z4q:List za)(z5t:za):Option Int:=
 jp0 (some (-1)) fun za2=>yS z4q z5t za2 yy 0
theorem y6t(Z:Zp)(zqK:Option Addr)(zqL:Nat)(z4q:List za)(z5t:za)(r:Int)(h:y2c z4q z5t=some r)(w₀:World)(hz:PZ [] w₀ Z)(zH6:ZS Z 2 (fun r x=>r=e97 x) zqK zqL z4q):
  Calls Tryz.prog 103 #[(.slice zqK z4q.length zqL),(.agg #[(.int .i64 z5t.fNode),(.int .i64 z5t.fQ)])] w₀ fun e w'=>e = .returned (.int .i64 r)∧Hp [] w₀ w' []:=by
 unfold y2c at h
 refine Calls.yK Tryz.func103 Tryz.ntmps103 ?_
 refine WC.b (WC.a (WL.nA 3 (yI (cs:=[(.int .i64 z5t.fNode),(.int .i64 z5t.fQ)]) rfl rfl) ?_))
 intro zyN _
 refine WL.pu rfl (WL.nil (WX.a ?_))
 obtain⟨za2,zH7,h⟩:=y1N h
 refine WC.y1j ((za2=some r)) ([]) ([]) ?_ ?_
 ·skip
  refine WC.b (WC.a (WL.pu rfl (WL.qA 7 (yH Tryz.underlying88 rfl) (WL.pu rfl (WL.nil (WX.a (WC.block (WC.y2E (fun(zfV:Nat) (z47:Int)=>(yS z4q z5t za2 zfV z47=some r)) (fun zfV z47=>[(0,(.slice zqK z4q.length zqL)),(3,(.pointer (some ⟨zyN,0,none⟩))),(7,(.int .i64 ((z4q.length:Nat):Int))),(8,(.int .i64 z47))]) (fun zfV z47=>[stb zyN 97 [(.int .i64 z5t.fNode),(.int .i64 z5t.fQ)]]) (fun zfV z47=>zfV) ⟨yy,0⟩ h (.r4 rfl rfl rfl rfl) (.cons .here .nil) ?_))))))))
  rintro zfV z47 h
  obtain⟨zqJ,rfl⟩:=y5m h
  rw[yS] at h
  refine WC.b (WC.a (WL.pu rfl (WL.nil (WX.a (WC.b (WC.cond rfl (fun zqM=>?_) (fun zqM=>?_)))))))
  ·replace h:=yp h zqM
   refine WC.skip (WX.a (WC.b (WC.block (WC.b (WC.a (WL.pu rfl (WL.pu rfl (WL.nil (WX.a (WC.b ?_))))))))))
   obtain⟨zH8,h⟩:=yo h
   refine WC.yP (fun i=>[].contains i) [] rfl (WD.qA 0 11 rfl (yh y3R rfl (yi .here) rfl) (WD.pA 1 12 rfl (fun _=>q_m rfl) (WD.pA 2 13 rfl (fun _=>q_m rfl) (WD.znth (j:=3) (dd:=14) (by kernel_rfl) rfl z2V z2W rfl rfl (Z:=Z) (Pr:=(fun r x=>r=e97 x)) y5u rfl rfl zH6 zH8 ?_))))
   rintro zUS zUT zH9 zUU rfl
   refine WD.qA 4 15 rfl (yh y3R rfl (y2b hz.pv zH9) rfl) (WD.pA 5 16 rfl (fun _=>y7p (enc:=e97) (a:=z5t) (b:=(⟨((nth z4q z47).fNode),((nth z4q z47).fQ)⟩:za)) ydf rfl rfl) (WD.done (by kernel_rfl) (WX.a (WC.cond rfl (fun zqN=>?_) (fun zqN=>?_)))))
   ·replace h:=yp h zqN
    refine WC.b (WC.a (WL.pu rfl (WL.pu rfl (WL.nil (WX.a (WC.ret (WX.ys (WX.ye (WX.ye (WX.ys (WX.ye ?_)))))))))))
    obtain rfl:=oJ h
    refine WX.yf Tryz.results103 (.tmp rfl .nil) (fun w hw=>?_)
    exact⟨yD rfl,hw.sub .nil⟩
   ·replace h:=yq h zqN
    refine WC.skip (WX.yn (WX.a (WC.a (WL.pu rfl (WL.pu rfl (WL.nil ?_))))))
    exact WX.round ⟨zqJ,(i64 (z47+1))⟩ h (Nat.lt_succ_self _) (.r4 rfl rfl rfl rfl) (.cons .here .nil)
  ·replace h:=yq h zqM
   refine WC.exit (WX.yg (WX.yg (WX.yz ?_)))
   exact WX.mid () h .nil .nil
 ·rintro  h
  replace h:=zH7.symm.trans h
  refine WC.b (WC.a (WL.pu rfl (WL.nil (WX.a (WC.ret ?_)))))
  obtain rfl:=oJ h
  refine WX.yf Tryz.results103 (.tmp rfl .nil) (fun w hw=>?_)
  exact⟨yD rfl,hw.sub .nil⟩
def y1t(zjt:List za)(ze1:za):Option Bool:=
 (y2c zjt ze1).bind fun zyO=>some (decide (zyO≥0))
theorem y62(Z:Zp)(zyP:Option Addr)(zyQ:Nat)(zjt:List za)(ze1:za)(r:Bool)(h:y1t zjt ze1=some r)(w₀:World)(hz:PZ [] w₀ Z)(zHa:ZS Z 2 (fun r x=>r=e97 x) zyP zyQ zjt):
  Calls Tryz.prog 63 #[(.slice zyP zjt.length zyQ),(.agg #[(.int .i64 ze1.fNode),(.int .i64 ze1.fQ)])] w₀ fun e w'=>e = .returned (.bool r)∧Hp [] w₀ w' []:=by
 unfold y1t at h
 refine Calls.yK Tryz.func63 Tryz.ntmps63 ?_
 refine WC.b (WC.a (WL.nA 3 (yI (cs:=[(.int .i64 ze1.fNode),(.int .i64 ze1.fQ)]) rfl rfl) ?_))
 intro zUV _
 refine WL.pu rfl (WL.nil (WX.a (WC.b ?_)))
 obtain⟨zyO,zHb,h⟩:=z8 h
 refine WC.a (WL.pu rfl (WL.qA 6 (yh y3R rfl (yi .here) rfl) (WL.cA 7 (zb Tryz.call103 (.r2 rfl rfl)) .nil (cc hz .nil fun w pz ho=>y6t _ _ _ _ _ _ zHb w pz zHa) (WL.pu rfl (WL.pu rfl (WL.nil (WX.a (WC.ret ?_))))))))
 obtain rfl:=oJ h
 refine WX.yf Tryz.results63 (.tmp rfl .nil) (fun w hw=>?_)
 exact⟨yD rfl,hw.sub .nil⟩
def y5z(zju:Int):Option Bool:=
 some (decide (zju≠zju))
theorem y9U(Z:Zp)(zju:Int)(r:Bool)(h:y5z zju=some r)(w₀:World)(hz:PZ [] w₀ Z):
  Calls Tryz.prog 91 #[(.int .i64 zju)] w₀ fun e w'=>e = .returned (.bool r)∧Hp [] w₀ w' []:=by
 unfold y5z at h
 refine Calls.on1 Tryz.func91 Tryz.ntmps91 ?_
 refine WC.b (WC.a (WL.pu rfl (WL.nil (WX.a (WC.b (WC.a (WL.pu rfl (WL.pu rfl (WL.pu rfl (WL.pu rfl (WL.nil (WX.a (WC.ret ?_)))))))))))))
 obtain rfl:=oJ h
 refine WX.yf Tryz.results91 (.tmp rfl .nil) (fun w hw=>?_)
 exact⟨yD rfl,hw.sub .nil⟩
def y4k(zfW:Int)(zfX:Int):Option Int:=
 (y5z zfW).bind fun zyR=>(y5z zfX).bind fun zqO=>if zyR then if zqO then some 0 else some (-1) else if zqO then some 1 else if decide (zfW<zfX) then some (-1) else if decide (zfW>zfX) then some 1 else some 0
theorem y8W(Z:Zp)(zfW:Int)(zfX:Int)(r:Int)(h:y4k zfW zfX=some r)(w₀:World)(hz:PZ [] w₀ Z):
  Calls Tryz.prog 50 #[(.int .i64 zfW),(.int .i64 zfX)] w₀ fun e w'=>e = .returned (.int .i64 r)∧Hp [] w₀ w' []:=by
 unfold y4k at h
 refine Calls.yK Tryz.func50 Tryz.ntmps50 ?_
 refine WC.b (WC.a (WL.pu rfl (WL.nil (WX.a (WC.b ?_)))))
 obtain⟨zyR,zHc,h⟩:=z8 h
 refine WC.a (WL.pu rfl (WL.cA 8 (zb Tryz.call91 (.cons rfl .nil)) .nil (cc hz .nil fun w pz ho=>y9U _ _ _ zHc w pz ) (WL.pu rfl (WL.nil (WX.a (WC.b ?_))))))
 obtain⟨zqO,zHd,h⟩:=z8 h
 refine WC.a (WL.pu rfl (WL.cA 10 (zb Tryz.call91 (.cons rfl .nil)) .nil (cc hz .nil fun w pz ho=>y9U _ _ _ zHd w pz ) (WL.pu rfl (WL.nil (WX.a (WC.b (WC.b (WC.a (WL.pu rfl (WL.nil (WX.a (WC.cond rfl (fun zqP=>?_) (fun zqP=>?_)))))))))))))
 ·replace h:=yp h zqP
  refine WC.b (WC.b (WC.a (WL.pu rfl (WL.nil (WX.a (WC.cond rfl (fun zqQ=>?_) (fun zqQ=>?_)))))))
  ·replace h:=yp h zqQ
   refine WC.b (WC.a (WL.pu rfl (WL.nil (WX.a (WC.ret (WX.ye (WX.ye ?_)))))))
   obtain rfl:=oJ h
   refine WX.yf Tryz.results50 (.tmp rfl .nil) (fun w hw=>?_)
   exact⟨yD rfl,hw.sub .nil⟩
  ·replace h:=yq h zqQ
   refine WC.skip (WX.a (WC.b (WC.a (WL.pu rfl (WL.nil (WX.a (WC.ret (WX.ye ?_))))))))
   obtain rfl:=oJ h
   refine WX.yf Tryz.results50 (.tmp rfl .nil) (fun w hw=>?_)
   exact⟨yD rfl,hw.sub .nil⟩
 ·replace h:=yq h zqP
  refine WC.skip (WX.a (WC.b (WC.b (WC.a (WL.pu rfl (WL.nil (WX.a (WC.cond rfl (fun zqR=>?_) (fun zqR=>?_)))))))))
  ·replace h:=yp h zqR
   refine WC.b (WC.a (WL.pu rfl (WL.nil (WX.a (WC.ret (WX.ye ?_))))))
   obtain rfl:=oJ h
   refine WX.yf Tryz.results50 (.tmp rfl .nil) (fun w hw=>?_)
   exact⟨yD rfl,hw.sub .nil⟩
  ·replace h:=yq h zqR
   refine WC.skip (WX.a (WC.b (WC.b (WC.a (WL.pu rfl (WL.pu rfl (WL.pu rfl (WL.nil (WX.a (WC.cond rfl (fun zqS=>?_) (fun zqS=>?_)))))))))))
   ·replace h:=yp h zqS
    refine WC.b (WC.a (WL.pu rfl (WL.nil (WX.a (WC.ret (WX.ye ?_))))))
    obtain rfl:=oJ h
    refine WX.yf Tryz.results50 (.tmp rfl .nil) (fun w hw=>?_)
    exact⟨yD rfl,hw.sub .nil⟩
   ·replace h:=yq h zqS
    refine WC.skip (WX.a (WC.b (WC.b (WC.a (WL.pu rfl (WL.pu rfl (WL.pu rfl (WL.nil (WX.a (WC.cond rfl (fun zqT=>?_) (fun zqT=>?_)))))))))))
    ·replace h:=yp h zqT
     refine WC.b (WC.a (WL.pu rfl (WL.nil (WX.a (WC.ret (WX.ye ?_))))))
     obtain rfl:=oJ h
     refine WX.yf Tryz.results50 (.tmp rfl .nil) (fun w hw=>?_)
     exact⟨yD rfl,hw.sub .nil⟩
    ·replace h:=yq h zqT
     refine WC.skip (WX.a (WC.b (WC.a (WL.pu rfl (WL.nil (WX.a (WC.ret ?_)))))))
     obtain rfl:=oJ h
     refine WX.yf Tryz.results50 (.tmp rfl .nil) (fun w hw=>?_)
     exact⟨yD rfl,hw.sub .nil⟩
def y4a(z5u:List Int)(za3:Option Int):Nat→Int→Option Int
 | 0,_=>none
 | zqU+1,z5v=>if decide (z5v<((z5u.length:Nat):Int)) then chk ((0:Int)≤z5v∧z5v<((z5u.length:Nat):Int)) (if decide ((nth z5u z5v)≠0) then some (nth z5u z5v) else y4a z5u za3 zqU (i64 (z5v+1))) else za3
theorem yaV{n:Nat}{z5u:List Int}{za3:Option Int}{z5v:Int}{r:Int}(h:y4a z5u za3 n z5v=some r):∃ m,n=m+1:=by
 cases n with
 | zero=>cases h
 | succ m=>exact⟨m,rfl⟩
def y6N(z5u:List Int):Option Int:=
 jp0 (some 0) fun za3=>y4a z5u za3 yy 0
theorem yfi(Z:Zp)(zqV:Option Addr)(zqW:Nat)(z5u:List Int)(r:Int)(h:y6N z5u=some r)(w₀:World)(hz:PZ [] w₀ Z)(zHe:ZS Z 1 (fun r x=>r=e3 x) zqV zqW z5u):
  Calls Tryz.prog 49 #[(.slice zqV z5u.length zqW)] w₀ fun e w'=>e = .returned (.int .i64 r)∧Hp [] w₀ w' []:=by
 unfold y6N at h
 refine Calls.on1 Tryz.func49 Tryz.ntmps49 ?_
 refine WC.b (WC.a (WL.pu rfl (WL.nil (WX.a (WC.b (WC.a (WL.pu rfl (WL.nil (WX.a ?_)))))))))
 obtain⟨za3,zHf,h⟩:=y1N h
 refine WC.y1j ((za3=some r)) ([(3,(.int .i64 0))]) ([]) ?_ ?_
 ·skip
  refine WC.b (WC.a (WL.pu rfl (WL.qA 7 (yH Tryz.underlying109 rfl) (WL.pu rfl (WL.nil (WX.a (WC.block (WC.y2E (fun(zfY:Nat) (z5v:Int)=>(y4a z5u za3 zfY z5v=some r)) (fun zfY z5v=>[(3,(.int .i64 0)),(6,(.slice zqV z5u.length zqW)),(7,(.int .i64 ((z5u.length:Nat):Int))),(8,(.int .i64 z5v))]) (fun zfY z5v=>[]) (fun zfY z5v=>zfY) ⟨yy,0⟩ h (.r4 rfl rfl rfl rfl) .nil ?_))))))))
  rintro zfY z5v h
  obtain⟨zqU,rfl⟩:=yaV h
  rw[y4a] at h
  refine WC.b (WC.a (WL.pu rfl (WL.nil (WX.a (WC.b (WC.cond rfl (fun zqX=>?_) (fun zqX=>?_)))))))
  ·replace h:=yp h zqX
   refine WC.skip (WX.a (WC.b (WC.block (WC.b ?_))))
   obtain⟨zHg,h⟩:=yo h
   refine WC.a (WL.znth (dd:=10) rfl rfl (Z:=Z) (Pr:=(fun r x=>r=e3 x)) zj0 rfl rfl zHe zHg ?_)
   rintro zUW zUX zHh zUY rfl
   refine WL.qA 11 (yc yt rfl (y5I hz.pv zHh rfl)) (WL.pu rfl (WL.nil (WX.a (WC.b (WC.a (WL.pu rfl (WL.pu rfl (WL.pu rfl (WL.nil (WX.a (WC.cond rfl (fun zqY=>?_) (fun zqY=>?_))))))))))))
   ·replace h:=yp h zqY
    refine WC.b (WC.a (WL.pu rfl (WL.pu rfl (WL.nil (WX.a (WC.ret (WX.ys (WX.ye (WX.ye (WX.ys (WX.ye ?_)))))))))))
    obtain rfl:=oJ h
    refine WX.yf Tryz.results49 (.tmp rfl .nil) (fun w hw=>?_)
    exact⟨yD rfl,hw.sub .nil⟩
   ·replace h:=yq h zqY
    refine WC.skip (WX.yn (WX.a (WC.a (WL.pu rfl (WL.pu rfl (WL.nil ?_))))))
    exact WX.round ⟨zqU,(i64 (z5v+1))⟩ h (Nat.lt_succ_self _) (.r4 rfl rfl rfl rfl) .nil
  ·replace h:=yq h zqX
   refine WC.exit (WX.yg (WX.yg (WX.yz ?_)))
   exact WX.mid () h (.cons rfl .nil) .nil
 ·rintro  h
  replace h:=zHf.symm.trans h
  refine WC.b (WC.a (WL.pu rfl (WL.pu rfl (WL.nil (WX.a (WC.ret ?_))))))
  obtain rfl:=oJ h
  refine WX.yf Tryz.results49 (.tmp rfl .nil) (fun w hw=>?_)
  exact⟨yD rfl,hw.sub .nil⟩
def y1k(zbQ:za)(zbR:za):Option Int:=
 (y4k zbQ.fNode zbR.fNode).bind fun zqZ=>(y4k zbQ.fQ zbR.fQ).bind fun zr0=>(y6N ([zqZ,zr0]:List Int)).bind fun zyS=>some zyS
theorem y7U(Z:Zp)(zbQ:za)(zbR:za)(r:Int)(h:y1k zbQ zbR=some r)(w₀:World)(hz:PZ [] w₀ Z):
  Calls Tryz.prog 25 #[(.agg #[(.int .i64 zbQ.fNode),(.int .i64 zbQ.fQ)]),(.agg #[(.int .i64 zbR.fNode),(.int .i64 zbR.fQ)])] w₀ fun e w'=>e = .returned (.int .i64 r)∧Hp [] w₀ w' []:=by
 unfold y1k at h
 refine Calls.yK Tryz.func25 Tryz.ntmps25 ?_
 refine WC.b (WC.a (WL.nA 2 (yI (cs:=[(.int .i64 zbQ.fNode),(.int .i64 zbQ.fQ)]) rfl rfl) ?_))
 intro zUZ _
 refine WL.nA 3 (yI (cs:=[(.int .i64 zbR.fNode),(.int .i64 zbR.fQ)]) rfl rfl) ?_
 intro zV0 _
 refine WL.pu rfl (WL.nil (WX.a (WC.b ?_)))
 obtain⟨zqZ,zHi,h⟩:=z8 h
 obtain⟨zr0,zHj,h⟩:=z8 h
 obtain⟨zyS,zHk,h⟩:=z8 h
 refine WC.yP (fun i=>[].contains i) [] rfl (WD.pA 0 5 rfl (fun _=>ya y9h rfl rfl) (WD.qA 1 6 rfl (yc yt rfl (yk .h1 rfl)) (WD.pA 2 7 rfl (fun _=>ya y9h rfl rfl) (WD.qA 3 8 rfl (yc yt rfl (yk .here rfl)) (WD.eA 4 9 rfl (zb Tryz.call50 (.r2 rfl rfl)) (cc hz .nil fun w pz ho=>y8W _ _ _ _ zHi w pz ) (WD.pA 5 10 rfl (fun _=>ya yal rfl rfl) (WD.qA 6 11 rfl (yc yt rfl (yk .h1 rfl)) (WD.pA 7 12 rfl (fun _=>ya yal rfl rfl) (WD.qA 8 13 rfl (yc yt rfl (yk .here rfl)) (WD.eA 9 14 rfl (zb Tryz.call50 (.r2 rfl rfl)) (cc hz .nil fun w pz ho=>y8W _ _ _ _ zHj w pz ) (WD.new (i:=10) (dd:=15) rfl (by kernel_rfl) rfl rfl rfl (yR (cs:=([zqZ,zr0]:List Int).flatMap e3) zj0 (Eos.parts (l:=[.tmp 9,.tmp 14]) (.r2 rfl rfl) [0,1]) (fun _=>by kernel_rfl) rfl (by unfold maxLen;omega)) (fun h'=>absurd h' (by decide)) ?_)))))))))))
 intro zV1 _
 refine WD.eA 11 16 rfl (zb Tryz.call49 (.cons rfl .nil)) (ccl hz .nil (.cons .here .nil) fun w pz ho la=>yfi _ _ _ _ _ zHk w pz (ZA.row (la _ (.head _) _) (RR.flat (enc:=e3) (fun _=>rfl) _) ⟨w,pz.1⟩)) (WD.pA 12 4 rfl (fun _=>q_z rfl) (WD.done (by kernel_rfl) (WX.a (WC.ret ?_))))
 obtain rfl:=oJ h
 refine WX.yf Tryz.results25 (.tmp rfl .nil) (fun w hw=>?_)
 exact⟨yD rfl,hw.sub .nil⟩
def y4b(z7m:Int):Option Int:=chk ((0:Int)≤z7m∧z7m≤18446744073709551615) (some ((Go.Lib.bitLen (z7m).toNat:Nat):Int))
theorem y7V(Z:Zp)(z7m:Int)(r:Int)(w₀:World)(hz:PZ [] w₀ Z)(h:y4b z7m=some r):Calls Tryz.prog 48 #[.int .u64 z7m] w₀ fun e w'=>e = .returned (.int .i64 r)∧Hp [] w₀ w' []:=by
 obtain⟨h0,h⟩:=yo h
 obtain rfl:=oJ h
 refine(Tryz.bits_Len z7m w₀ h0.1 h0.2).mono ?_
 rintro e w' ⟨rfl,rfl⟩
 exact⟨rfl,Hp.nil w' []⟩
theorem zHl:∀ w,(isAgg (Tryz.y3a.t 24)).run Tryz.prog w = .ok true w:=fun _=>by kernel_rfl
theorem zHm:∀ w,(Go.sizeOf (Tryz.y3a.t 24)).run Tryz.prog w = .ok 2 w:=fun _=>by kernel_rfl
def y3l(z4R:List za)(zjv:Int)(zjw:Int)(zfZ:Int)(ze2:za→za→Option Int):Option (List za):=chk ((zjv=0∧zjw=((z4R.length:Nat):Int))∧(0≤zfZ∧zfZ<4611686018427387904∧z4R.length<4611686018427387904)) (chk (y7r ze2 (yM ze2 z4R)=true) (some (yM ze2 z4R)))
theorem y73(Z:Zp)(ze3:Option Addr)(ze4:Nat)(zjx:FuncId)(zr1:List Value)(z4R:List za)(zjv:Int)(zjw:Int)(zfZ:Int)(ze2:za→za→Option Int)(r:List za)(w₀:World)(hz:PZ (fps [row (.slice ze3 z4R.length ze4) 97 2 (z4R.flatMap e97)]) w₀ Z)(zHn:∀ args w,(callFunc zjx args).run Tryz.prog w = .ok (.enter zjx args) w)(zHo:∀ w:World,PZ [] w Z→∀(x0:za) (x1:za) (r:Int),ze2 x0 x1=some r→Calls Tryz.prog zjx (([(.agg #[(.int .i64 x0.fNode),(.int .i64 x0.fQ)]),(.agg #[(.int .i64 x1.fNode),(.int .i64 x1.fQ)])]:List Value)++zr1).toArray w fun e w'=>e = .returned (.int .i64 r)∧Hp [] w w' [])(h:y3l z4R zjv zjw zfZ ze2=some r)(hown:Hp (fps [row (.slice ze3 z4R.length ze4) 97 2 (z4R.flatMap e97)]) w₀ w₀ [row (.slice ze3 z4R.length ze4) 97 2 (z4R.flatMap e97)]):
  Calls Tryz.prog 104 #[(.slice ze3 z4R.length ze4),(.int .i64 zjv),(.int .i64 zjw),(.int .i64 zfZ),(.func (.func zjx) #[] (zr1).toArray)] w₀ fun e w'=>e = .returned (.tuple #[])∧(r.length=z4R.length)∧Hp (fps [row (.slice ze3 z4R.length ze4) 97 2 (z4R.flatMap e97)]) w₀ w' [row (.slice ze3 r.length ze4) 97 2 (r.flatMap e97)]:=by
 obtain⟨h0,h⟩:=yo h
 obtain⟨h1,h⟩:=yo h
 have hr:=(oJ h).symm
 exact y8w (P:=Tryz.prog) (f:=104) (e:=97) (k:=2) (enc:=e97) (fun _=>rfl) (by decide) ybI (fun β _ enc cf g cb hO blk off cap d0 w0 eg hC R=>Tryz.y8b 2 zHl zHm enc cf g cb hO blk off cap d0 w0 eg hC R) (Tryz.y83 (α:=Unit)) hz zHn zHo h0 h1 hr hown
def y1u(z4r:List za)(zg0:za→za→Option Int):Option (List za):=
 (y4b (u64 ((z4r.length:Nat):Int))).bind fun zmu=>(y3l z4r 0 ((z4r.length:Nat):Int) zmu zg0).bind fun zmv=>some zmv
theorem y63(Z:Zp)(zbS:Option Addr)(zbT:Nat)(zg1:FuncId)(zmw:List Value)(z4r:List za)(zg0:za→za→Option Int)(r:List za)(h:y1u z4r zg0=some r)(w₀:World)(hz:PZ (fps [row (.slice zbS z4r.length zbT) 97 2 (z4r.flatMap e97)]) w₀ Z)(zHp:∀ args w,(callFunc zg1 args).run Tryz.prog w = .ok (.enter zg1 args) w)(zHq:∀ w:World,PZ [] w Z→∀(x0:za) (x1:za) (r:Int),zg0 x0 x1=some r→Calls Tryz.prog zg1 (([(.agg #[(.int .i64 x0.fNode),(.int .i64 x0.fQ)]),(.agg #[(.int .i64 x1.fNode),(.int .i64 x1.fQ)])]:List Value)++zmw).toArray w fun e w'=>e = .returned (.int .i64 r)∧Hp [] w w' [])(hown:Hp (fps [row (.slice zbS z4r.length zbT) 97 2 (z4r.flatMap e97)]) w₀ w₀ [row (.slice zbS z4r.length zbT) 97 2 (z4r.flatMap e97)]):
  Calls Tryz.prog 64 #[(.slice zbS z4r.length zbT),(.func (.func zg1) #[] (zmw).toArray)] w₀ fun e w'=>e = .returned (.tuple #[])∧(r.length=z4r.length)∧Hp (fps [row (.slice zbS z4r.length zbT) 97 2 (z4r.flatMap e97)]) w₀ w' [row (.slice zbS r.length zbT) 97 2 (r.flatMap e97)]:=by
 unfold y1u at h
 refine Calls.oh2 Tryz.func64 Tryz.ntmps64 hown ?_
 refine WC.b (WC.a (WL.pu rfl (WL.qA 6 (yH Tryz.underlying88 rfl) (WL.pu rfl (WL.nil (WX.a ?_))))))
 obtain⟨zmu,zHr,h⟩:=z8 h
 obtain⟨zmv,zHs,h⟩:=z8 h
 refine WC.a (WL.pu rfl (WL.pu rfl (WL.pu rfl (WL.qA 10 (y6G Tryz.underlying3 Tryz.underlying142 rfl rfl) (WL.cA 11 (zb Tryz.call48 (.cons rfl .nil)) .nil (cc hz .nil fun w pz ho=>y7V (Z:=_)  (z7m:=(u64 ((z4r.length:Nat):Int))) (r:=zmu) w pz  zHr) (WL.pu rfl (WL.y53 (dd:=13) rfl rfl rfl (zb Tryz.call104 (.r5 rfl rfl rfl rfl rfl)) (.cons .here .nil) (cc hz (.cons .here .nil) fun w pz ho=>y73 (Z:=_) (ze3:=zbS) (ze4:=zbT) (zjx:=zg1) (zr1:=zmw) (z4R:=z4r) (zjv:=0) (zjw:=((z4r.length:Nat):Int)) (zfZ:=zmu) (ze2:=zg0) (r:=zmv) w pz zHp zHq zHs ho) ?_)))))))
 rintro  zyT
 refine WL.repin (i:=0) rfl (u:=(.slice zbS zmv.length zbT)) (y7b zyT.symm) (WL.nil ?_)
 obtain rfl:=oJ h
 refine WX.y52 Tryz.results64 .nil (fun w hw=>?_)
 exact⟨y7o,(zyT.trans rfl),hw.sub (.cons .here .nil)⟩
end Go.Proofs.YtcahmabkeaijdaaGreat
