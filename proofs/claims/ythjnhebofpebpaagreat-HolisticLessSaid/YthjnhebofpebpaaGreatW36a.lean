/- A part of this claim's proof: models of functions, walks, plain laws. No conditions. -/
import Derived.Test.YthjnhebofpebpaaGreatZShort
import Derived.Test.YthjnhebofpebpaaGreatZMem
import Derived.Test.YthjnhebofpebpaaGreatShelf36
import Derived.Test.YthjnhebofpebpaaGreatProg
set_option linter.all false
namespace Go.Proofs.YthjnhebofpebpaaGreat
open Go Go.RowKit Sep
set_option maxRecDepth 30000
set_option maxHeartbeats 4000000
structure Sapi_Port where
 fName:ByteArray
 fKind:Int
 fOut:Bool
 fSize:Int
 fDepth:Int
 fRefresh:Int
 deriving Inhabited,DecidableEq
structure Sapi_Ins where
 fOp:Int
 fA:Int
 fB:Int
 fC:Int
 deriving Inhabited,DecidableEq
structure Sapi_Proc where
 fName:ByteArray
 fPrio:Int
 fPeriod:Int
 fLimit:Int
 fCode:List Sapi_Ins
 deriving Inhabited,DecidableEq
structure Sapi_Part where
 fName:ByteArray
 fPeriod:Int
 fLength:Int
 fMem:Int
 fSemas:List Int
 fEvents:Int
 fBoards:Int
 fBufs:List Int
 fP:List Sapi_Port
 fProcs:List Sapi_Proc
 deriving Inhabited,DecidableEq
structure z6Z where
 fName:ByteArray
 fMem:Int
 fFrame:Int
 fParts:List Sapi_Part
 deriving Inhabited,DecidableEq
structure Sapi_Ref where
 fModule:ByteArray
 fPart:ByteArray
 fPort:ByteArray
 deriving Inhabited,DecidableEq
structure zii where
 fFrom:Sapi_Ref
 fTo:List Sapi_Ref
 deriving Inhabited,DecidableEq
structure z8y where
 fName:ByteArray
 fNet:Int
 fDelay:Int
 fT:Int
 deriving Inhabited,DecidableEq
structure z7x where
 fA:ByteArray
 fB:ByteArray
 fNet:Int
 fSlow:Int
 deriving Inhabited,DecidableEq
structure zh where
 fName:ByteArray
 fFrom:Sapi_Ref
 fBag:Int
 fMax:Int
 fTo:List Sapi_Ref
 deriving Inhabited,DecidableEq
structure Sapi_Health where
 fModule:ByteArray
 fPart:ByteArray
 fFault:Int
 fLevel:Int
 fDo:Int
 deriving Inhabited,DecidableEq
structure Sapi_Report where
 fUnit:ByteArray
 fCode:Int
 deriving Inhabited,DecidableEq
structure Sapi_Cause where
 fUnit:ByteArray
 fNeeds:List Sapi_Report
 fUnless:List ByteArray
 deriving Inhabited,DecidableEq
structure Sapi_Version where
 fA:ByteArray
 fVA:Int
 fB:ByteArray
 fVB:Int
 deriving Inhabited,DecidableEq
structure zp where
 fM:List z6Z
 fC0:List zii
 fS:List z8y
 fK:List z7x
 fVLs:List zh
 fH:List Sapi_Health
 fU:List Sapi_Cause
 fV0:List Sapi_Version
 deriving Inhabited,DecidableEq
def e3(x:Int):List Value:=[(vi x)]
theorem e3_oc:∀ x,∀ u∈e3 x,u.oneCell'=true:=fun _=>ocB rfl
def e387(x:Sapi_Port):List Value:=[(.string x.fName),(.int .u8 x.fKind),(.bool x.fOut),(vi x.fSize),(vi x.fDepth),(vi x.fRefresh)]
def e392(x:Sapi_Ins):List Value:=[(.int .u8 x.fOp),(vi x.fA),(vi x.fB),(vi x.fC)]
def p390(Z:Zp)(r:List Value)(x:Sapi_Proc):Prop:=∃(ao0:Option Addr) (cap0:Nat),r=[(.string x.fName),(vi x.fPrio),(vi x.fPeriod),(vi x.fLimit),(.slice ao0 x.fCode.length cap0)]∧ZS Z 4 (fun r x=>r=e392 x) ao0 cap0 x.fCode
theorem yiE{Z Z':Zp}(k:Zle Z Z'){r:List Value}{x:Sapi_Proc}(h:p390 Z r x):p390 Z' r x:=by
 obtain⟨ao0,cap0,hr,h0⟩:=h
 exact⟨ao0,cap0,hr,h0.mono k⟩
def p381(Z:Zp)(r:List Value)(x:Sapi_Part):Prop:=∃(ao0:Option Addr) (cap0:Nat) (ao1:Option Addr) (cap1:Nat) (ao2:Option Addr) (cap2:Nat) (ao3:Option Addr) (cap3:Nat),r=[(.string x.fName),(vi x.fPeriod),(vi x.fLength),(vi x.fMem),(.slice ao0 x.fSemas.length cap0),(vi x.fEvents),(vi x.fBoards),(.slice ao1 x.fBufs.length cap1),(.slice ao2 x.fP.length cap2),(.slice ao3 x.fProcs.length cap3)]∧ZS Z 1 (fun r x=>r=e3 x) ao0 cap0 x.fSemas∧ZS Z 1 (fun r x=>r=e3 x) ao1 cap1 x.fBufs∧ZS Z 6 (fun r x=>r=e387 x) ao2 cap2 x.fP∧ZS Z 5 (p390 Z) ao3 cap3 x.fProcs
theorem yiF{Z Z':Zp}(k:Zle Z Z'){r:List Value}{x:Sapi_Part}(h:p381 Z r x):p381 Z' r x:=by
 obtain⟨ao0,cap0,ao1,cap1,ao2,cap2,ao3,cap3,hr,h0,h1,h2,h3⟩:=h
 exact⟨ao0,cap0,ao1,cap1,ao2,cap2,ao3,cap3,hr,h0.mono k,h1.mono k,h2.mono k,(h3.mono k).weak (fun _ _ h=>yiE k h)⟩
def y3y(Z:Zp)(r:List Value)(x:z6Z):Prop:=∃(ao0:Option Addr) (cap0:Nat),r=[(.string x.fName),(vi x.fMem),(vi x.fFrame),(.slice ao0 x.fParts.length cap0)]∧ZS Z 10 (p381 Z) ao0 cap0 x.fParts
theorem y1a{Z Z':Zp}(k:Zle Z Z'){r:List Value}{x:z6Z}(h:y3y Z r x):y3y Z' r x:=by
 obtain⟨ao0,cap0,hr,h0⟩:=h
 exact⟨ao0,cap0,hr,(h0.mono k).weak (fun _ _ h=>yiF k h)⟩
def e66(x:Sapi_Ref):List Value:=[(.string x.fModule),(.string x.fPart),(.string x.fPort)]
def y4k(Z:Zp)(r:List Value)(x:zii):Prop:=∃(ao0:Option Addr) (cap0:Nat),r=[(.string x.fFrom.fModule),(.string x.fFrom.fPart),(.string x.fFrom.fPort),(.slice ao0 x.fTo.length cap0)]∧ZS Z 3 (fun r x=>r=e66 x) ao0 cap0 x.fTo
theorem y1i{Z Z':Zp}(k:Zle Z Z'){r:List Value}{x:zii}(h:y4k Z r x):y4k Z' r x:=by
 obtain⟨ao0,cap0,hr,h0⟩:=h
 exact⟨ao0,cap0,hr,h0.mono k⟩
def e64(x:z8y):List Value:=[(.string x.fName),(vi x.fNet),(vi x.fDelay),(vi x.fT)]
def e62(x:z7x):List Value:=[(.string x.fA),(.string x.fB),(vi x.fNet),(vi x.fSlow)]
def p69(Z:Zp)(r:List Value)(x:zh):Prop:=∃(ao0:Option Addr) (cap0:Nat),r=[(.string x.fName),(.string x.fFrom.fModule),(.string x.fFrom.fPart),(.string x.fFrom.fPort),(vi x.fBag),(vi x.fMax),(.slice ao0 x.fTo.length cap0)]∧ZS Z 3 (fun r x=>r=e66 x) ao0 cap0 x.fTo
theorem y15{Z Z':Zp}(k:Zle Z Z'){r:List Value}{x:zh}(h:p69 Z r x):p69 Z' r x:=by
 obtain⟨ao0,cap0,hr,h0⟩:=h
 exact⟨ao0,cap0,hr,h0.mono k⟩
theorem p69_oc{Z:Zp}{r:List Value}{x:zh}(h:p69 Z r x):∀ u∈r,u.oneCell'=true:=by
 obtain⟨ao0,cap0,hr,h0⟩:=h
 rw[hr];exact ocB U
def y4t(x:Sapi_Health):List Value:=[(.string x.fModule),(.string x.fPart),(.int .u8 x.fFault),(.int .u8 x.fLevel),(.int .u8 x.fDo)]
def e385(x:Sapi_Report):List Value:=[(.string x.fUnit),(vi x.fCode)]
def e9(x:ByteArray):List Value:=[(.string x)]
def y4l(Z:Zp)(r:List Value)(x:Sapi_Cause):Prop:=∃(ao0:Option Addr) (cap0:Nat) (ao1:Option Addr) (cap1:Nat),r=[(.string x.fUnit),(.slice ao0 x.fNeeds.length cap0),(.slice ao1 x.fUnless.length cap1)]∧ZS Z 2 (fun r x=>r=e385 x) ao0 cap0 x.fNeeds∧ZS Z 1 (fun r x=>r=e9 x) ao1 cap1 x.fUnless
theorem y1j{Z Z':Zp}(k:Zle Z Z'){r:List Value}{x:Sapi_Cause}(h:y4l Z r x):y4l Z' r x:=by
 obtain⟨ao0,cap0,ao1,cap1,hr,h0,h1⟩:=h
 exact⟨ao0,cap0,ao1,cap1,hr,h0.mono k,h1.mono k⟩
def y4u(x:Sapi_Version):List Value:=[(.string x.fA),(vi x.fVA),(.string x.fB),(vi x.fVB)]
structure zd where
 fNode:Int
 fNext:Int
 fQ:Int
 deriving Inhabited,DecidableEq
def e60(x:zd):List Value:=[(vi x.fNode),(vi x.fNext),(vi x.fQ)]
def p58(Z:Zp)(r:List Value)(x:List zd):Prop:=∃(ao0:Option Addr) (cap0:Nat),r=[(.slice ao0 x.length cap0)]∧ZS Z 3 (fun r x=>r=e60 x) ao0 cap0 x
theorem y1t{Z Z':Zp}(k:Zle Z Z'){r:List Value}{x:List zd}(h:p58 Z r x):p58 Z' r x:=by
 obtain⟨ao0,cap0,hr,h0⟩:=h
 exact⟨ao0,cap0,hr,h0.mono k⟩
theorem p58_oc{Z:Zp}{r:List Value}{x:List zd}(h:p58 Z r x):∀ u∈r,u.oneCell'=true:=by
 obtain⟨ao0,cap0,hr,h0⟩:=h
 rw[hr];exact ocB U
structure S7 where
 fX:Int
 fY:Int
 fSigned:Bool
 fCode:Int
 deriving Inhabited,DecidableEq
structure S13 where
 fMsg:ByteArray
 fAddr:Int
 deriving Inhabited,DecidableEq
structure z8 where
 fNode:Int
 fQ:Int
 deriving Inhabited,DecidableEq
structure S36 where
 fNode:Int
 fQ:Int
 fDelay:Int
 fT:Int
 deriving Inhabited,DecidableEq
structure zn where
 fVL:Int
 fNode:Int
 fDelay:Int
 deriving Inhabited,DecidableEq
structure S39 where
 fP:List S36
 fEnds:List zn
 deriving Inhabited,DecidableEq
structure S56 where
 a0:Int
 a1:Int
 deriving Inhabited,DecidableEq
structure S70 where
 fC:zp
 fR:List (List zd)
 deriving Inhabited,DecidableEq
structure S82 where
 fSent:Int
 fNode:Int
 fTime:Int
 deriving Inhabited,DecidableEq
structure S85 where
 fTime:Int
 fVL:Int
 fSize:Int
 deriving Inhabited,DecidableEq
def yD(x:z8):List Value:=[(vi x.fNode),(vi x.fQ)]
theorem ybg:∀ x,∀ u∈yD x,u.oneCell'=true:=fun _=>ocB rfl
def e37(x:S36):List Value:=[(vi x.fNode),(vi x.fQ),(vi x.fDelay),(vi x.fT)]
theorem yem:∀ x,∀ u∈e37 x,u.oneCell'=true:=fun _=>ocB rfl
structure zP where
 fVl:Int
 fAt_:z8
 deriving Inhabited,DecidableEq
def y2N(x:zP):List Value:=[(vi x.fVl),(vi x.fAt_.fNode),(vi x.fAt_.fQ)]
structure z1 where
 fN:Int
 fD:Int
 deriving Inhabited,DecidableEq
def yA(x:z1):List Value:=[(vi x.fN),(vi x.fD)]
theorem ydc:∀ x,∀ u∈yA x,u.oneCell'=true:=fun _=>ocB rfl
structure S157 where
 fQ:Int
 fBag:Int
 fMax:Int
 fJitter:Int
 deriving Inhabited,DecidableEq
structure z2 where
 fBurst:z1
 fRate:z1
 deriving Inhabited,DecidableEq
def y1M(x:z2):List Value:=[(vi x.fBurst.fN),(vi x.fBurst.fD),(vi x.fRate.fN),(vi x.fRate.fD)]
theorem yhq:∀ x,∀ u∈y1M x,u.oneCell'=true:=fun _=>ocB rfl
def y27(Z:Zp)(r:List Value)(x:List z2):Prop:=∃(ao0:Option Addr) (cap0:Nat),r=[(.slice ao0 x.length cap0)]∧ZS Z 4 (fun r x=>r=y1M x) ao0 cap0 x
theorem y3L{Z Z':Zp}(k:Zle Z Z'){r:List Value}{x:List z2}(h:y27 Z r x):y27 Z' r x:=by
 obtain⟨ao0,cap0,hr,h0⟩:=h
 exact⟨ao0,cap0,hr,h0.mono k⟩
theorem p227_oc{Z:Zp}{r:List Value}{x:List z2}(h:y27 Z r x):∀ u∈r,u.oneCell'=true:=by
 obtain⟨ao0,cap0,hr,h0⟩:=h
 rw[hr];exact ocB U
structure zSv where
 fRate:z1
 fL:z1
 deriving Inhabited,DecidableEq
structure z1z where
 fE:Int
 deriving Inhabited,DecidableEq
structure S187 where
 fTime:Int
 fIn_:Int
 fVl:Int
 fSent:Int
 fHop:zd
 deriving Inhabited,DecidableEq
structure S249 where
 fSlow:Int
 fDelay:Int
 fT:Int
 deriving Inhabited,DecidableEq
structure Sport_frame where
 fSize:Int
 fFin:Int
 deriving Inhabited,DecidableEq
structure S252 where
 fNumbers:S249
 fNow:Int
 fLast:Int
 fFrames:List Sport_frame
 deriving Inhabited,DecidableEq
def e41(x:Int):List Value:=[(vi x)]
def e53(x:zn):List Value:=[(vi x.fVL),(vi x.fNode),(vi x.fDelay)]
theorem yg8:∀ x,∀ u∈e53 x,u.oneCell'=true:=fun _=>ocB rfl
def e94(x:z8):List Value:=[(vi x.fNode),(vi x.fQ)]
def y5V(Z:Zp)(r:List Value)(x:Int→Option Int):Prop:=∃(fid:FuncId) (fcaps:List Value),r=[(.func (.func fid) #[] (fcaps).toArray)]∧(∀ args w,(callFunc fid args).run Tryz.prog w = .ok (.enter fid args) w)∧∀ w:World,PZ [] w Z→∀(x0:Int) (r:Int),x x0=some r→Calls Tryz.prog fid (([(vi x0)]:List Value)++fcaps).toArray w fun e w'=>e = .returned (vi r)∧Hp [] w w' []
theorem y64{Z Z':Zp}(k:Zle Z Z'){r:List Value}{x:Int→Option Int}(h:y5V Z r x):y5V Z' r x:=by
 obtain⟨fid,fcaps,h1,h2,h3⟩:=h
 exact⟨fid,fcaps,h1,h2,fun w hw=>h3 w (hw.le k)⟩
def p50(Z:Zp)(r:List Value)(x:List Int):Prop:=∃(ao0:Option Addr) (cap0:Nat),r=[(.slice ao0 x.length cap0)]∧ZS Z 1 (fun r x=>r=e3 x) ao0 cap0 x
theorem yg9{Z Z':Zp}(k:Zle Z Z'){r:List Value}{x:List Int}(h:p50 Z r x):p50 Z' r x:=by
 obtain⟨ao0,cap0,hr,h0⟩:=h
 exact⟨ao0,cap0,hr,h0.mono k⟩
def p70(Z:Zp)(r:List Value)(x:S70):Prop:=∃(ao0:Option Addr) (cap0:Nat) (ao1:Option Addr) (cap1:Nat) (ao2:Option Addr) (cap2:Nat) (ao3:Option Addr) (cap3:Nat) (ao4:Option Addr) (cap4:Nat) (ao5:Option Addr) (cap5:Nat) (ao6:Option Addr) (cap6:Nat) (ao7:Option Addr) (cap7:Nat) (ao8:Option Addr) (cap8:Nat),r=[(.slice ao0 x.fC.fM.length cap0),(.slice ao1 x.fC.fC0.length cap1),(.slice ao2 x.fC.fS.length cap2),(.slice ao3 x.fC.fK.length cap3),(.slice ao4 x.fC.fVLs.length cap4),(.slice ao5 x.fC.fH.length cap5),(.slice ao6 x.fC.fU.length cap6),(.slice ao7 x.fC.fV0.length cap7),(.slice ao8 x.fR.length cap8)]∧ZS Z 4 (y3y Z) ao0 cap0 x.fC.fM∧ZS Z 4 (y4k Z) ao1 cap1 x.fC.fC0∧ZS Z 4 (fun r x=>r=e64 x) ao2 cap2 x.fC.fS∧ZS Z 4 (fun r x=>r=e62 x) ao3 cap3 x.fC.fK∧ZS Z 7 (p69 Z) ao4 cap4 x.fC.fVLs∧ZS Z 5 (fun r x=>r=y4t x) ao5 cap5 x.fC.fH∧ZS Z 3 (y4l Z) ao6 cap6 x.fC.fU∧ZS Z 4 (fun r x=>r=y4u x) ao7 cap7 x.fC.fV0∧ZS Z 1 (p58 Z) ao8 cap8 x.fR
def e5(x:Int):List Value:=[(.int .u8 x)]
theorem y1E:y6t Tryz.prog 31 8:=y58 (i:=Tryz.t31) Tryz.underlying31 rfl rfl
theorem y7a:yO Tryz.prog 31 0 0:=yG (i:=Tryz.t22) Tryz.underlying31 rfl rfl (by decide) rfl
theorem y7b:y5u Tryz.prog 22:=y3g Tryz.underlying22 rfl
theorem yag:yO Tryz.prog 31 2 2:=yG (i:=Tryz.t24) Tryz.underlying31 rfl rfl (by decide) rfl
theorem yah:y5u Tryz.prog 24:=y3g Tryz.underlying24 rfl
theorem y7R:yO Tryz.prog 31 3 3:=yG (i:=Tryz.t25) Tryz.underlying31 rfl rfl (by decide) rfl
theorem y7S:y5u Tryz.prog 25:=y3g Tryz.underlying25 rfl
theorem y5a:yO Tryz.prog 31 4 4:=yG (i:=Tryz.t26) Tryz.underlying31 rfl rfl (by decide) rfl
theorem y5p:y5u Tryz.prog 26:=y3g Tryz.underlying26 rfl
theorem y71:elT Tryz.prog 32 58 1 24:=⟨Tryz.underlying32,⟨Tryz.t58,_,rfl,rfl,rfl,rfl,rfl⟩,by decide⟩
theorem y7c:y5u Tryz.prog 58:=y3g Tryz.underlying58 rfl
theorem ybM:y2k Tryz.prog 31 (.agg #[vn,vn,vn,vn,vn,vn,vn,vn]):=y26 (i:=Tryz.t31) rfl rfl
theorem elT_22:elT Tryz.prog 22 126 4 56:=⟨Tryz.underlying22,⟨Tryz.t126,_,rfl,rfl,rfl,rfl,rfl⟩,by decide⟩
theorem ycL:elT Tryz.prog 24 64 4 40:=⟨Tryz.underlying24,⟨Tryz.t64,_,rfl,rfl,rfl,rfl,rfl⟩,by decide⟩
theorem yaq:elT Tryz.prog 25 62 4 48:=⟨Tryz.underlying25,⟨Tryz.t62,_,rfl,rfl,rfl,rfl,rfl⟩,by decide⟩
theorem y72:elT Tryz.prog 26 69 7 104:=⟨Tryz.underlying26,⟨Tryz.t69,_,rfl,rfl,rfl,rfl,rfl⟩,by decide⟩
theorem ydd:y4j Tryz.prog 31 8:=y2c (i:=Tryz.t31) rfl
theorem y65:elT Tryz.prog 58 60 3 24:=⟨Tryz.underlying58,⟨Tryz.t60,_,rfl,rfl,rfl,rfl,rfl⟩,by decide⟩
theorem y6P:y2k Tryz.prog 40 (.agg #[vn,vn]):=y26 (i:=Tryz.t40) rfl rfl
theorem ys:y5u Tryz.prog 3:=y3g Tryz.underlying3 rfl
theorem y4g:y6t Tryz.prog 60 3:=y58 (i:=Tryz.t60) Tryz.underlying60 rfl rfl
theorem y6Q:y2k Tryz.prog 60 (.agg #[(vi 0),(vi 0),(vi 0)]):=y26 (i:=Tryz.t60) rfl rfl
theorem y7d:y4j Tryz.prog 60 3:=y2c (i:=Tryz.t60) rfl
theorem y4h:yO Tryz.prog 60 0 0:=yG (i:=Tryz.t3) Tryz.underlying60 rfl rfl (by decide) rfl
theorem y2H:y2k Tryz.prog 3 (vi 0):=y26 (i:=Tryz.t3) rfl rfl
theorem y40:KeyT Tryz.prog 3 (Value.int .i64):=keyT_int Tryz.underlying3
theorem y5I:yO Tryz.prog 60 1 1:=yG (i:=Tryz.t3) Tryz.underlying60 rfl rfl (by decide) rfl
theorem y8B:yO Tryz.prog 60 2 2:=yG (i:=Tryz.t3) Tryz.underlying60 rfl rfl (by decide) rfl
theorem aggT_62:y6t Tryz.prog 62 4:=y58 (i:=Tryz.t62) Tryz.underlying62 rfl rfl
theorem zeroT_62:y2k Tryz.prog 62 (.agg #[(.string ⟨#[]⟩),(.string ⟨#[]⟩),(vi 0),(vi 0)]):=y26 (i:=Tryz.t62) rfl rfl
theorem sizT_62:y4j Tryz.prog 62 4:=y2c (i:=Tryz.t62) rfl
theorem fo_62_0:yO Tryz.prog 62 0 0:=yG (i:=Tryz.t9) Tryz.underlying62 rfl rfl (by decide) rfl
theorem yen:y5u Tryz.prog 9:=y3g Tryz.underlying9 rfl
theorem fo_126_0:yO Tryz.prog 126 0 0:=yG (i:=Tryz.t9) Tryz.underlying126 rfl rfl (by decide) rfl
theorem fo_64_0:yO Tryz.prog 64 0 0:=yG (i:=Tryz.t9) Tryz.underlying64 rfl rfl (by decide) rfl
theorem fo_62_1:yO Tryz.prog 62 1 1:=yG (i:=Tryz.t9) Tryz.underlying62 rfl rfl (by decide) rfl
theorem fo_62_2:yO Tryz.prog 62 2 2:=yG (i:=Tryz.t3) Tryz.underlying62 rfl rfl (by decide) rfl
theorem y9c:yO Tryz.prog 62 3 3:=yG (i:=Tryz.t3) Tryz.underlying62 rfl rfl (by decide) rfl
theorem aggT_64:y6t Tryz.prog 64 4:=y58 (i:=Tryz.t64) Tryz.underlying64 rfl rfl
theorem zeroT_64:y2k Tryz.prog 64 (.agg #[(.string ⟨#[]⟩),(vi 0),(vi 0),(vi 0)]):=y26 (i:=Tryz.t64) rfl rfl
theorem sizT_64:y4j Tryz.prog 64 4:=y2c (i:=Tryz.t64) rfl
theorem fo_64_1:yO Tryz.prog 64 1 1:=yG (i:=Tryz.t3) Tryz.underlying64 rfl rfl (by decide) rfl
theorem yde:yO Tryz.prog 64 2 2:=yG (i:=Tryz.t3) Tryz.underlying64 rfl rfl (by decide) rfl
theorem yhr:yO Tryz.prog 64 3 3:=yG (i:=Tryz.t3) Tryz.underlying64 rfl rfl (by decide) rfl
theorem zm7:y2k Tryz.prog 121 (.agg #[(vi 0),(vi 0)]):=y26 (i:=Tryz.t121) rfl rfl
theorem zpC:y4j Tryz.prog 121 2:=y2c (i:=Tryz.t121) rfl
theorem z5v:y6t Tryz.prog 121 2:=y58 (i:=Tryz.t121) Tryz.underlying121 rfl rfl
theorem z7y:elT Tryz.prog 112 121 2 16:=⟨Tryz.underlying112,⟨Tryz.t121,_,rfl,rfl,rfl,rfl,rfl⟩,by decide⟩
theorem zpD:EqT Tryz.prog 121 yD:=⟨fun u v w=>by
 have i121_10000:=fun(w:World) (a b:Array Value)=>run_equalIn_agg (P:=Tryz.prog) w 9999 121 a b (by simp[Program.fieldsOf,Tryz.underlying121]) (by kernel_rfl)
 have i3_9999:=fun(w:World) (a b:Int)=>run_equalIn_int (P:=Tryz.prog) w 9998 3 .i64 .i64 a b Tryz.underlying3
 rw[i121_10000]
 simp[Program.fieldsOf,Op.eqFields,part,yD,i121_10000,Tryz.underlying121,i3_9999]
 rcases u with⟨u1,u2⟩
 rcases v with⟨v1,v2⟩
 by_cases h1:u1=v1 <;> by_cases h2:u2=v2 <;> simp[h1,h2],by kernel_rfl⟩
theorem y9d:yO Tryz.prog 121 0 0:=yG (i:=Tryz.t3) Tryz.underlying121 rfl rfl (by decide) rfl
theorem yar:yO Tryz.prog 121 1 1:=yG (i:=Tryz.t3) Tryz.underlying121 rfl rfl (by decide) rfl
theorem y66:elT Tryz.prog 50 3 1 8:=⟨Tryz.underlying50,⟨Tryz.t3,_,rfl,rfl,rfl,rfl,rfl⟩,by decide⟩
theorem zMP:y2k Tryz.prog 117 (.map none):=y26 (i:=Tryz.t117) rfl rfl
theorem zMQ:y4j Tryz.prog 117 1:=y2c (i:=Tryz.t117) rfl
theorem zm8:y5u Tryz.prog 117:=y3g Tryz.underlying117 rfl
theorem zdH:KeyT Tryz.prog 121 (fun x=>Value.agg (yD x).toArray):=ydT Tryz.underlying121 (fun _ _=>rfl) (fun b k w=>by
 have c3_9999:=fun(w:World) (a:Int)=>MapKept.run_checkKey (P:=Tryz.prog) (w:=w) (kt:=3) (k:=.int .i64 a) Tryz.underlying3 (by simp[MapKept.IsKey]) b 9998
 have ck:∀(w:World) (u0:Int) (u1:Int),(Instr.checkKey b 10000 121 (.agg #[.int .i64 u0,.int .i64 u1])).run Tryz.prog w = .ok () w:=fun w u0 u1=>by
  rw[show(10000:Nat)=9999+1 from U,Instr.checkKey]
  simp[run_underlying Tryz.underlying121,c3_9999,part]
 exact ck w k.fNode k.fQ)
 (fun u v w=>zpD.eq u v w)
 (fun k=>by simp[Instr.sameBits,yD])
theorem y5A:elT Tryz.prog 33 37 4 32:=⟨Tryz.underlying33,⟨Tryz.t37,_,rfl,rfl,rfl,rfl,rfl⟩,by decide⟩
theorem y5b:y4j Tryz.prog 40 2:=y2c (i:=Tryz.t40) rfl
theorem y5q:y6t Tryz.prog 40 2:=y58 (i:=Tryz.t40) Tryz.underlying40 rfl rfl
theorem yf0:yO Tryz.prog 69 2 4:=yG (i:=Tryz.t3) Tryz.underlying69 rfl rfl (by decide) rfl
theorem y6x:yO Tryz.prog 69 3 5:=yG (i:=Tryz.t3) Tryz.underlying69 rfl rfl (by decide) rfl
theorem yf1:y6t Tryz.prog 69 7:=y58 (i:=Tryz.t69) Tryz.underlying69 rfl rfl
theorem y4Z:yO Tryz.prog 40 0 0:=yG (i:=Tryz.t33) Tryz.underlying40 rfl rfl (by decide) rfl
theorem y50:y5u Tryz.prog 33:=y3g Tryz.underlying33 rfl
theorem y7D:y2k Tryz.prog 37 (.agg #[(vi 0),(vi 0),(vi 0),(vi 0)]):=y26 (i:=Tryz.t37) rfl rfl
theorem fo_119_1:yO Tryz.prog 119 1 8:=yG (i:=Tryz.t32) Tryz.underlying119 rfl rfl (by decide) rfl
theorem yhs:y5u Tryz.prog 32:=y3g Tryz.underlying32 rfl
theorem y6l:yO Tryz.prog 119 0 0:=yG (i:=Tryz.t31) Tryz.underlying119 rfl rfl (by decide) rfl
theorem zW:y2k Tryz.prog 175 (.agg #[(vi 0),(vi 0)]):=y26 (i:=Tryz.t175) rfl rfl
theorem zA:y4j Tryz.prog 175 2:=y2c (i:=Tryz.t175) rfl
theorem zg:y6t Tryz.prog 175 2:=y58 (i:=Tryz.t175) Tryz.underlying175 rfl rfl
theorem ydV:yO Tryz.prog 119 2 9:=yG (i:=Tryz.t116) Tryz.underlying119 rfl rfl (by decide) rfl
theorem ztw:y5u Tryz.prog 116:=y3g Tryz.underlying116 rfl
theorem zMR:EqT Tryz.prog 223 y2N:=⟨fun u v w=>by
 have i223_10000:=fun(w:World) (a b:Array Value)=>run_equalIn_agg (P:=Tryz.prog) w 9999 223 a b (by simp[Program.fieldsOf,Tryz.underlying223]) (by kernel_rfl)
 have i3_9999:=fun(w:World) (a b:Int)=>run_equalIn_int (P:=Tryz.prog) w 9998 3 .i64 .i64 a b Tryz.underlying3
 have i121_9999:=fun(w:World) (a b:Array Value)=>run_equalIn_agg (P:=Tryz.prog) w 9998 121 a b (by simp[Program.fieldsOf,Tryz.underlying121]) (by kernel_rfl)
 have i3_9998:=fun(w:World) (a b:Int)=>run_equalIn_int (P:=Tryz.prog) w 9997 3 .i64 .i64 a b Tryz.underlying3
 rw[i223_10000]
 simp[Program.fieldsOf,Op.eqFields,part,y2N,i223_10000,Tryz.underlying223,i3_9999,i121_9999,Tryz.underlying121,i3_9998]
 rcases u with⟨u1,⟨u2,u3⟩⟩
 rcases v with⟨v1,⟨v2,v3⟩⟩
 by_cases h1:u1=v1 <;> by_cases h2:u2=v2 <;> by_cases h3:u3=v3 <;> simp[h1,h2,h3],by kernel_rfl⟩
theorem ztx:KeyT Tryz.prog 223 (fun x=>Value.agg (y2N x).toArray):=ydT Tryz.underlying223 (fun _ _=>rfl) (fun b k w=>by
 have c3_9999:=fun(w:World) (a:Int)=>MapKept.run_checkKey (P:=Tryz.prog) (w:=w) (kt:=3) (k:=.int .i64 a) Tryz.underlying3 (by simp[MapKept.IsKey]) b 9998
 have c3_9998:=fun(w:World) (a:Int)=>MapKept.run_checkKey (P:=Tryz.prog) (w:=w) (kt:=3) (k:=.int .i64 a) Tryz.underlying3 (by simp[MapKept.IsKey]) b 9997
 have c121_9999:∀(w:World) (u0:Int) (u1:Int),(Instr.checkKey b 9999 121 (.agg #[.int .i64 u0,.int .i64 u1])).run Tryz.prog w = .ok () w:=fun w u0 u1=>by
  rw[show(9999:Nat)=9998+1 from U,Instr.checkKey]
  simp[run_underlying Tryz.underlying121,c3_9998,part]
 have ck:∀(w:World) (u0:Int) (u1:Int) (u2:Int),(Instr.checkKey b 10000 223 (.agg #[.int .i64 u0,.int .i64 u1,.int .i64 u2])).run Tryz.prog w = .ok () w:=fun w u0 u1 u2=>by
  rw[show(10000:Nat)=9999+1 from U,Instr.checkKey]
  simp[run_underlying Tryz.underlying223,c3_9999,c121_9999,part]
 exact ck w k.fVl k.fAt_.fNode k.fAt_.fQ)
 (fun u v w=>zMR.eq u v w)
 (fun k=>by simp[Instr.sameBits,y2N])
theorem y2C:yO Tryz.prog 175 0 0:=yG (i:=Tryz.t3) Tryz.underlying175 rfl rfl (by decide) rfl
theorem yas:y4j Tryz.prog 3 1:=y2c (i:=Tryz.t3) rfl
theorem ydW:yO Tryz.prog 119 3 10:=yG (i:=Tryz.t117) Tryz.underlying119 rfl rfl (by decide) rfl
theorem y37:yO Tryz.prog 175 1 1:=yG (i:=Tryz.t3) Tryz.underlying175 rfl rfl (by decide) rfl
theorem y4y:KeyT Tryz.prog 9 Value.string:=keyT_str Tryz.underlying9
theorem zpE:y2k Tryz.prog 303 .nilFunc:=y26 (i:=Tryz.t303) rfl rfl
theorem y9e:yO Tryz.prog 119 4 11:=yG (i:=Tryz.t41) Tryz.underlying119 rfl rfl (by decide) rfl
theorem y3A:y5u Tryz.prog 41:=y3g Tryz.underlying41 rfl
theorem ybh:y4j Tryz.prog 41 1:=y2c (i:=Tryz.t41) rfl
theorem ydX:y2k Tryz.prog 50 vn:=y26 (i:=Tryz.t50) rfl rfl
theorem z81:elT Tryz.prog 227 225 4 32:=⟨Tryz.underlying227,⟨Tryz.t225,_,rfl,rfl,rfl,rfl,rfl⟩,by decide⟩
theorem z9h:elT Tryz.prog 171 227 1 24:=⟨Tryz.underlying171,⟨Tryz.t227,_,rfl,rfl,rfl,rfl,rfl⟩,by decide⟩
theorem zbo:y2k Tryz.prog 225 (.agg #[(vi 0),(vi 0),(vi 0),(vi 0)]):=y26 (i:=Tryz.t225) rfl rfl
theorem za4:y4j Tryz.prog 225 4:=y2c (i:=Tryz.t225) rfl
theorem y5v:yO Tryz.prog 225 0 0:=yG (i:=Tryz.t175) Tryz.underlying225 rfl rfl (by decide) rfl
theorem y6m:yO Tryz.prog 225 1 2:=yG (i:=Tryz.t175) Tryz.underlying225 rfl rfl (by decide) rfl
theorem z3b:y6t Tryz.prog 225 4:=y58 (i:=Tryz.t225) Tryz.underlying225 rfl rfl
theorem zMS:y2k Tryz.prog 178 (.agg #[(vi 0),(vi 0),(vi 0),(vi 0)]):=y26 (i:=Tryz.t178) rfl rfl
theorem zMT:y4j Tryz.prog 178 4:=y2c (i:=Tryz.t178) rfl
theorem zij:y6t Tryz.prog 178 4:=y58 (i:=Tryz.t178) Tryz.underlying178 rfl rfl
theorem z8z:y5u Tryz.prog 171:=y3g Tryz.underlying171 rfl
theorem zE7:y2k Tryz.prog 231 (.agg #[vn,(vi 0),(vi 0),(vi 0),(vi 0),.nilFunc,vn]):=y26 (i:=Tryz.t231) rfl rfl
theorem zE8:y4j Tryz.prog 231 7:=y2c (i:=Tryz.t231) rfl
theorem ybN:yO Tryz.prog 231 2 5:=yG (i:=Tryz.t228) Tryz.underlying231 rfl rfl (by decide) rfl
theorem zE9:y4j Tryz.prog 228 1:=y2c (i:=Tryz.t228) rfl
theorem zik:y6t Tryz.prog 231 7:=y58 (i:=Tryz.t231) Tryz.underlying231 rfl rfl
theorem y7E:yO Tryz.prog 231 0 0:=yG (i:=Tryz.t171) Tryz.underlying231 rfl rfl (by decide) rfl
theorem zdI:y5u Tryz.prog 227:=y3g Tryz.underlying227 rfl
theorem ybO:yO Tryz.prog 231 1 1:=yG (i:=Tryz.t178) Tryz.underlying231 rfl rfl (by decide) rfl
theorem y9f:yO Tryz.prog 178 0 0:=yG (i:=Tryz.t175) Tryz.underlying178 rfl rfl (by decide) rfl
theorem y9g:yO Tryz.prog 178 1 2:=yG (i:=Tryz.t175) Tryz.underlying178 rfl rfl (by decide) rfl
theorem zpF:y2k Tryz.prog 277 (.agg #[(vi 0)]):=y26 (i:=Tryz.t277) rfl rfl
theorem zEa:y2k Tryz.prog 307 (.agg #[(vi 0)]):=y26 (i:=Tryz.t307) rfl rfl
theorem zty:y2k Tryz.prog 229 vn:=y26 (i:=Tryz.t229) rfl rfl
theorem zEb:EqT Tryz.prog 225 y1M:=⟨fun u v w=>by
 have i225_10000:=fun(w:World) (a b:Array Value)=>run_equalIn_agg (P:=Tryz.prog) w 9999 225 a b (by simp[Program.fieldsOf,Tryz.underlying225]) (by kernel_rfl)
 have i175_9999:=fun(w:World) (a b:Array Value)=>run_equalIn_agg (P:=Tryz.prog) w 9998 175 a b (by simp[Program.fieldsOf,Tryz.underlying175]) (by kernel_rfl)
 have i3_9998:=fun(w:World) (a b:Int)=>run_equalIn_int (P:=Tryz.prog) w 9997 3 .i64 .i64 a b Tryz.underlying3
 rw[i225_10000]
 simp[Program.fieldsOf,Op.eqFields,part,y1M,i225_10000,Tryz.underlying225,i175_9999,Tryz.underlying175,i3_9998]
 rcases u with⟨⟨u1,u2⟩,⟨u3,u4⟩⟩
 rcases v with⟨⟨v1,v2⟩,⟨v3,v4⟩⟩
 by_cases h1:u1=v1 <;> by_cases h2:u2=v2 <;> by_cases h3:u3=v3 <;> by_cases h4:u4=v4 <;> simp[h1,h2,h3,h4],by kernel_rfl⟩
theorem z9i:y5u Tryz.prog 229:=y3g Tryz.underlying229 rfl
theorem y9h:yO Tryz.prog 307 0 0:=yG (i:=Tryz.t41) Tryz.underlying307 rfl rfl (by decide) rfl
theorem z2q:elT Tryz.prog 229 175 2 16:=⟨Tryz.underlying229,⟨Tryz.t175,_,rfl,rfl,rfl,rfl,rfl⟩,by decide⟩
theorem ztz:y4j Tryz.prog 229 1:=y2c (i:=Tryz.t229) rfl
theorem zEc:EqT Tryz.prog 175 yA:=⟨fun u v w=>by
 have i175_10000:=fun(w:World) (a b:Array Value)=>run_equalIn_agg (P:=Tryz.prog) w 9999 175 a b (by simp[Program.fieldsOf,Tryz.underlying175]) (by kernel_rfl)
 have i3_9999:=fun(w:World) (a b:Int)=>run_equalIn_int (P:=Tryz.prog) w 9998 3 .i64 .i64 a b Tryz.underlying3
 rw[i175_10000]
 simp[Program.fieldsOf,Op.eqFields,part,yA,i175_10000,Tryz.underlying175,i3_9999]
 rcases u with⟨u1,u2⟩
 rcases v with⟨v1,v2⟩
 by_cases h1:u1=v1 <;> by_cases h2:u2=v2 <;> simp[h1,h2],by kernel_rfl⟩
theorem yi6:fldT Tryz.prog 225 1 2 175:=fldT_of Tryz.underlying225 rfl rfl rfl
theorem y5w:yO Tryz.prog 277 0 0:=yG (i:=Tryz.t41) Tryz.underlying277 rfl rfl (by decide) rfl
theorem yga:yO Tryz.prog 231 3 6:=yG (i:=Tryz.t229) Tryz.underlying231 rfl rfl (by decide) rfl
theorem zEd:y5u Tryz.prog 228:=y3g Tryz.underlying228 rfl
theorem zEe:elT Tryz.prog 181 41 1 8:=⟨Tryz.underlying181,⟨Tryz.t41,_,rfl,rfl,rfl,rfl,rfl⟩,by decide⟩
theorem y7T:y4j Tryz.prog 37 4:=y2c (i:=Tryz.t37) rfl
theorem y6y:y6t Tryz.prog 37 4:=y58 (i:=Tryz.t37) Tryz.underlying37 rfl rfl
theorem yht:y4j Tryz.prog 33 1:=y2c (i:=Tryz.t33) rfl
theorem y6z:yO Tryz.prog 37 0 0:=yG (i:=Tryz.t3) Tryz.underlying37 rfl rfl (by decide) rfl
theorem y7U:yO Tryz.prog 37 1 1:=yG (i:=Tryz.t3) Tryz.underlying37 rfl rfl (by decide) rfl
theorem y9i:yO Tryz.prog 37 2 2:=yG (i:=Tryz.t3) Tryz.underlying37 rfl rfl (by decide) rfl
theorem y9E:elT Tryz.prog 38 53 3 24:=⟨Tryz.underlying38,⟨Tryz.t53,_,rfl,rfl,rfl,rfl,rfl⟩,by decide⟩
theorem ydf:yO Tryz.prog 53 1 1:=yG (i:=Tryz.t3) Tryz.underlying53 rfl rfl (by decide) rfl
theorem y7V:yO Tryz.prog 40 1 1:=yG (i:=Tryz.t38) Tryz.underlying40 rfl rfl (by decide) rfl
theorem yhu:y4j Tryz.prog 38 1:=y2c (i:=Tryz.t38) rfl
theorem zeroT_94:y2k Tryz.prog 94 (.agg #[(vi 0),(vi 0)]):=y26 (i:=Tryz.t94) rfl rfl
theorem sizT_94:y4j Tryz.prog 94 2:=y2c (i:=Tryz.t94) rfl
theorem ydg:y6t Tryz.prog 94 2:=y58 (i:=Tryz.t94) Tryz.underlying94 rfl rfl
theorem zEf:y5u Tryz.prog 140:=y3g Tryz.underlying140 rfl
theorem zm9:elT Tryz.prog 140 201 1 8:=⟨Tryz.underlying140,⟨Tryz.t201,_,rfl,rfl,rfl,rfl,rfl⟩,by decide⟩
theorem zMU:y5u Tryz.prog 201:=y3g Tryz.underlying201 rfl
theorem ztA:y5u Tryz.prog 148:=y3g Tryz.underlying148 rfl
theorem zMV:y2k Tryz.prog 148 (.map none):=y26 (i:=Tryz.t148) rfl rfl
theorem zMW:y4j Tryz.prog 148 1:=y2c (i:=Tryz.t148) rfl
theorem eqT_94:EqT Tryz.prog 94 e94:=⟨fun u v w=>by
 have i94_10000:=fun(w:World) (a b:Array Value)=>run_equalIn_agg (P:=Tryz.prog) w 9999 94 a b (by simp[Program.fieldsOf,Tryz.underlying94]) (by kernel_rfl)
 have i3_9999:=fun(w:World) (a b:Int)=>run_equalIn_int (P:=Tryz.prog) w 9998 3 .i64 .i64 a b Tryz.underlying3
 rw[i94_10000]
 simp[Program.fieldsOf,Op.eqFields,part,e94,i94_10000,Tryz.underlying94,i3_9999]
 rcases u with⟨u1,u2⟩
 rcases v with⟨v1,v2⟩
 by_cases h1:u1=v1 <;> by_cases h2:u2=v2 <;> simp[h1,h2],by kernel_rfl⟩
theorem yf2:KeyT Tryz.prog 94 (fun x=>Value.agg (e94 x).toArray):=ydT Tryz.underlying94 (fun _ _=>rfl) (fun b k w=>by
 have c3_9999:=fun(w:World) (a:Int)=>MapKept.run_checkKey (P:=Tryz.prog) (w:=w) (kt:=3) (k:=.int .i64 a) Tryz.underlying3 (by simp[MapKept.IsKey]) b 9998
 have ck:∀(w:World) (u0:Int) (u1:Int),(Instr.checkKey b 10000 94 (.agg #[.int .i64 u0,.int .i64 u1])).run Tryz.prog w = .ok () w:=fun w u0 u1=>by
  rw[show(10000:Nat)=9999+1 from U,Instr.checkKey]
  simp[run_underlying Tryz.underlying94,c3_9999,part]
 exact ck w k.fNode k.fQ)
 (fun u v w=>eqT_94.eq u v w)
 (fun k=>by simp[Instr.sameBits,e94])
theorem y9j:y2k Tryz.prog 69 (.agg #[(.string ⟨#[]⟩),(.string ⟨#[]⟩),(.string ⟨#[]⟩),(.string ⟨#[]⟩),(vi 0),(vi 0),vn]):=y26 (i:=Tryz.t69) rfl rfl
theorem yhv:y4j Tryz.prog 69 7:=y2c (i:=Tryz.t69) rfl
theorem yf3:yO Tryz.prog 94 0 0:=yG (i:=Tryz.t3) Tryz.underlying94 rfl rfl (by decide) rfl
theorem zEg:y2k Tryz.prog 140 vn:=y26 (i:=Tryz.t140) rfl rfl
theorem zMX:y4j Tryz.prog 140 1:=y2c (i:=Tryz.t140) rfl
theorem yhw:yO Tryz.prog 94 1 1:=yG (i:=Tryz.t3) Tryz.underlying94 rfl rfl (by decide) rfl
theorem yai:yO Tryz.prog 37 3 3:=yG (i:=Tryz.t3) Tryz.underlying37 rfl rfl (by decide) rfl
theorem zeroT_92:y2k Tryz.prog 92 (.map none):=y26 (i:=Tryz.t92) rfl rfl
theorem sizT_92:y4j Tryz.prog 92 1:=y2c (i:=Tryz.t92) rfl
theorem yhx:y5u Tryz.prog 92:=y3g Tryz.underlying92 rfl
theorem ygb:elT Tryz.prog 46 50 1 24:=⟨Tryz.underlying46,⟨Tryz.t50,_,rfl,rfl,rfl,rfl,rfl⟩,by decide⟩
theorem y9k:y5u Tryz.prog 38:=y3g Tryz.underlying38 rfl
theorem eqT_37:EqT Tryz.prog 37 e37:=⟨fun u v w=>by
 have i37_10000:=fun(w:World) (a b:Array Value)=>run_equalIn_agg (P:=Tryz.prog) w 9999 37 a b (by simp[Program.fieldsOf,Tryz.underlying37]) (by kernel_rfl)
 have i3_9999:=fun(w:World) (a b:Int)=>run_equalIn_int (P:=Tryz.prog) w 9998 3 .i64 .i64 a b Tryz.underlying3
 rw[i37_10000]
 simp[Program.fieldsOf,Op.eqFields,part,e37,i37_10000,Tryz.underlying37,i3_9999]
 rcases u with⟨u1,u2,u3,u4⟩
 rcases v with⟨v1,v2,v3,v4⟩
 by_cases h1:u1=v1 <;> by_cases h2:u2=v2 <;> by_cases h3:u3=v3 <;> by_cases h4:u4=v4 <;> simp[h1,h2,h3,h4],by kernel_rfl⟩
theorem ydh:y6t Tryz.prog 53 3:=y58 (i:=Tryz.t53) Tryz.underlying53 rfl rfl
theorem eqT_53:EqT Tryz.prog 53 e53:=⟨fun u v w=>by
 have i53_10000:=fun(w:World) (a b:Array Value)=>run_equalIn_agg (P:=Tryz.prog) w 9999 53 a b (by simp[Program.fieldsOf,Tryz.underlying53]) (by kernel_rfl)
 have i3_9999:=fun(w:World) (a b:Int)=>run_equalIn_int (P:=Tryz.prog) w 9998 3 .i64 .i64 a b Tryz.underlying3
 rw[i53_10000]
 simp[Program.fieldsOf,Op.eqFields,part,e53,i53_10000,Tryz.underlying53,i3_9999]
 rcases u with⟨u1,u2,u3⟩
 rcases v with⟨v1,v2,v3⟩
 by_cases h1:u1=v1 <;> by_cases h2:u2=v2 <;> by_cases h3:u3=v3 <;> simp[h1,h2,h3],by kernel_rfl⟩
theorem oneT_50:y5u Tryz.prog 50:=y3g Tryz.underlying50 rfl
theorem sizT_26:y4j Tryz.prog 26 1:=y2c (i:=Tryz.t26) rfl
theorem sizT_58:y4j Tryz.prog 58 1:=y2c (i:=Tryz.t58) rfl
theorem elT_71:elT Tryz.prog 71 70 9 216:=⟨Tryz.underlying71,⟨Tryz.t70,_,rfl,rfl,rfl,rfl,rfl⟩,by decide⟩
theorem aggT_70:y6t Tryz.prog 70 9:=y58 (i:=Tryz.t70) Tryz.underlying70 rfl rfl
theorem zeroT_70:y2k Tryz.prog 70 (.agg #[vn,vn,vn,vn,vn,vn,vn,vn,vn]):=y26 (i:=Tryz.t70) rfl rfl
theorem sizT_70:y4j Tryz.prog 70 9:=y2c (i:=Tryz.t70) rfl
theorem fo_70_0:yO Tryz.prog 70 0 0:=yG (i:=Tryz.t31) Tryz.underlying70 rfl rfl (by decide) rfl
theorem fo_70_1:yO Tryz.prog 70 1 8:=yG (i:=Tryz.t32) Tryz.underlying70 rfl rfl (by decide) rfl
theorem ygc:y2k Tryz.prog 53 (.agg #[(vi 0),(vi 0),(vi 0)]):=y26 (i:=Tryz.t53) rfl rfl
theorem yhy:y4j Tryz.prog 53 3:=y2c (i:=Tryz.t53) rfl
theorem yhz:yO Tryz.prog 53 0 0:=yG (i:=Tryz.t3) Tryz.underlying53 rfl rfl (by decide) rfl
theorem yhA:yO Tryz.prog 53 2 2:=yG (i:=Tryz.t3) Tryz.underlying53 rfl rfl (by decide) rfl
def y5c(routes_58:List (List zd))(zbp:Option Bool):Nat→Int→Option Bool
 | 0,_=>none
 | ztB+1,z71=>if decide (z71<((routes_58.length:Nat):Int)) then chk ((0:Int)≤z71∧z71<((routes_58.length:Nat):Int)) (if decide ((((nth routes_58 z71).length:Nat):Int)>40) then some false else y5c routes_58 zbp ztB (i64 (z71+1))) else zbp
theorem ycn{n:Nat}{routes_58:List (List zd)}{zbp:Option Bool}{z71:Int}{r:Bool}(h:y5c routes_58 zbp n z71=some r):∃ m,n=m+1:=by
 cases n with
 | zero=>cases h
 | succ m=>exact⟨m,rfl⟩
def y8f(c_33:zp)(routes_58:List (List zd)):Option Bool:=
 if ((((decide (((c_33.fM.length:Nat):Int)>8))||(decide (((c_33.fS.length:Nat):Int)>8)))||(decide (((c_33.fK.length:Nat):Int)>20)))||(decide (((c_33.fVLs.length:Nat):Int)>20)))||(decide (((routes_58.length:Nat):Int)>20)) then some false else jp0 (some true) fun zbp=>y5c routes_58 zbp yx 0
theorem yh7{Z:Zp}{ao_34:Option Addr}{cap_35:Nat}{ao_37:Option Addr}{cap_38:Nat}{ao_40:Option Addr}{cap_41:Nat}{ao_43:Option Addr}{cap_44:Nat}{ao_46:Option Addr}{cap_47:Nat}{ao_49:Option Addr}{cap_50:Nat}{ao_52:Option Addr}{cap_53:Nat}{ao_55:Option Addr}{cap_56:Nat}{ao_59:Option Addr}{cap_60:Nat}{c_33:zp}{routes_58:List (List zd)}{r:Bool}(h:y8f c_33 routes_58=some r)(w₀:World)(hz:PZ [] w₀ Z)(hs_36:ZS Z 4 (y3y Z) ao_34 cap_35 c_33.fM)(hs_39:ZS Z 4 (y4k Z) ao_37 cap_38 c_33.fC0)(hs_42:ZS Z 4 (fun r x=>r=e64 x) ao_40 cap_41 c_33.fS)(hs_45:ZS Z 4 (fun r x=>r=e62 x) ao_43 cap_44 c_33.fK)(hs_48:ZS Z 7 (p69 Z) ao_46 cap_47 c_33.fVLs)(hs_51:ZS Z 5 (fun r x=>r=y4t x) ao_49 cap_50 c_33.fH)(hs_54:ZS Z 3 (y4l Z) ao_52 cap_53 c_33.fU)(hs_57:ZS Z 4 (fun r x=>r=y4u x) ao_55 cap_56 c_33.fV0)(hs_61:ZS Z 1 (p58 Z) ao_59 cap_60 routes_58):
  Calls Tryz.prog 10 #[(.agg #[(.slice ao_34 c_33.fM.length cap_35),(.slice ao_37 c_33.fC0.length cap_38),(.slice ao_40 c_33.fS.length cap_41),(.slice ao_43 c_33.fK.length cap_44),(.slice ao_46 c_33.fVLs.length cap_47),(.slice ao_49 c_33.fH.length cap_50),(.slice ao_52 c_33.fU.length cap_53),(.slice ao_55 c_33.fV0.length cap_56)]),(.slice ao_59 routes_58.length cap_60)] w₀ fun e w'=>e = .returned (.bool r)∧Hp [] w₀ w' []:=by
 unfold y8f at h
 refine Lz Tryz.func10 Tryz.ntmps10 ?_
 refine WC.b<|Ld<|Lg 2 (yH (cs:=[(.slice ao_34 c_33.fM.length cap_35),(.slice ao_37 c_33.fC0.length cap_38),(.slice ao_40 c_33.fS.length cap_41),(.slice ao_43 c_33.fK.length cap_44),(.slice ao_46 c_33.fVLs.length cap_47),(.slice ao_49 c_33.fH.length cap_50),(.slice ao_52 c_33.fU.length cap_53),(.slice ao_55 c_33.fV0.length cap_56)]) U U) ?_
 intro z13I _
 let A:=((c_33.fM.length:Nat):Int);let C:=((c_33.fS.length:Nat):Int);refine La U (WL.nil (Lb (WC.b (WC.b (Ld (Le 7 (ya y7a U U) (Le 8 (yc y7b U (yh .here U)) (Le 9 (yI Tryz.underlying22 U) (La U (La U (Lv false 4 11 (B:=(decide (A>8))||(decide (C>8))) U U U U U U (fun h=>(y7w h).symm) (fun _ zMY=>?_) ?_)))))))))))
 ·skip
  refine Le 12 (ya yag U U)<|Le 13 (yc yah U<|yh .here U)<|Le 14 (yI Tryz.underlying24 U)<|La U<|La U ?_
  exact Lw (y7x zMY) U U .all
 let D:=((c_33.fK.length:Nat):Int);refine La U (Lv false 4 17 (B:=((decide (A>8))||(decide (C>8)))||(decide (D>20))) U U U U U U (fun h=>(y7w h).symm) (fun _ zMZ=>?_) ?_)
 ·skip
  refine Le 18 (ya y7R U U)<|Le 19 (yc y7S U<|yh .here U)<|Le 20 (yI Tryz.underlying25 U)<|La U<|La U ?_
  exact Lw (y7x zMZ) U U .all
 let E:=((c_33.fVLs.length:Nat):Int);refine La U (Lv false 4 23 (B:=(((decide (A>8))||(decide (C>8)))||(decide (D>20)))||(decide (E>20))) U U U U U U (fun h=>(y7w h).symm) (fun _ zN0=>?_) ?_)
 ·skip
  refine Le 24 (ya y5a U U)<|Le 25 (yc y5p U<|yh .here U)<|Le 26 (yI Tryz.underlying26 U)<|La U<|La U ?_
  exact Lw (y7x zN0) U U .all
 let F:=((routes_58.length:Nat):Int);refine La U (Lv false 3 29 (B:=((((decide (A>8))||(decide (C>8)))||(decide (D>20)))||(decide (E>20)))||(decide (F>20))) U U U U U U (fun h=>(y7w h).symm) (fun _ zN1=>?_) ?_)
 ·skip
  refine La U<|Le 31 (yI Tryz.underlying32 U)<|La U<|La U ?_
  exact Lw (y7x zN1) U U .all
 refine WL.nil<|Lb<|WC.cond U (fun ztC=>?_)<|fun ztC=>?_
 ·replace h:=yq h ztC
  refine WC.b<|Ld<|La U<|WL.nil<|Lb<|WC.ret<|Li ?_
  obtain rfl:=oJ h
  refine Lh Tryz.results10 (.tmp U .nil)<|fun w hw=>?_
  exact⟨yC U,hw.sub .nil⟩
 ·replace h:=yr h ztC
  refine WC.skip<|Lb ?_
  obtain⟨zbp,zN2,h⟩:=y1G h
  refine L8 ((zbp=some r)) ([]) ([]) ?_ ?_
  ·skip
   refine WC.b<|Ld<|La U<|Le 35 (yI Tryz.underlying32 U)<|La U<|WL.nil<|Lb<|WC.block<|L9 (fun(zil:Nat) (z71:Int)=>(y5c routes_58 zbp zil z71=some r)) (fun zil z71=>[(34,(.slice ao_59 routes_58.length cap_60)),(35,(vi F)),(36,(vi z71))]) (fun zil z71=>[]) (fun zil z71=>zil) ⟨yx,0⟩ h (.r3 U U U) .nil ?_
   rintro zil z71 h
   obtain⟨ztB,rfl⟩:=ycn h
   rw[y5c] at h
   refine WC.b<|Ld<|La U<|WL.nil<|Lb<|WC.b<|WC.cond U (fun ztD=>?_)<|fun ztD=>?_
   ·replace h:=yq h ztD
    refine WC.skip<|Lb<|WC.b<|WC.block<|WC.b ?_
    obtain⟨zN3,h⟩:=yn h
    refine Ld<|L0 (dd:=38) U U (Z:=Z) (Pr:=(p58 Z)) y71 U U hs_61 zN3 ?_
    rintro z13J z13K zN4 z13L ⟨z13M,z13N,rfl,z13O⟩
    refine Le 39 (yc y7c U<|y3C hz.pv zN4 U)<|La U<|WL.nil<|Lb<|WC.b<|Ld<|La U<|Le 41 (yI Tryz.underlying58 U)<|La U<|WL.nil<|Lb<|WC.cond U (fun ztE=>?_)<|fun ztE=>?_
    ·replace h:=yq h ztE
     refine WC.b<|Ld<|La U<|WL.nil<|Lb<|WC.ret<|Lq<|Li<|Li<|Lq<|Li ?_
     obtain rfl:=oJ h
     refine Lh Tryz.results10 (.tmp U .nil)<|fun w hw=>?_
     exact⟨yC U,hw.sub .nil⟩
    ·replace h:=yr h ztE
     refine WC.skip<|Lt<|Lb<|Ld<|La U<|La U<|WL.nil ?_
     exact WX.round ⟨ztB,(i64 (z71+1))⟩ h (Nat.lt_succ_self _) (.r3 U U U) .nil
   ·replace h:=yr h ztD
    refine WC.exit<|Lm<|Lm<|Lu ?_
    exact Ln () h .nil .nil
  ·rintro  h
   replace h:=zN2.symm.trans h
   refine WC.b<|Ld<|La U<|WL.nil<|Lb<|WC.ret ?_
   obtain rfl:=oJ h
   refine Lh Tryz.results10 (.tmp U .nil)<|fun w hw=>?_
   exact⟨yC U,hw.sub .nil⟩
def y8N  : Option (zp×List (List zd)):=
 some ((⟨([(⟨⟨#[109]⟩,0,0,[]⟩:z6Z),(⟨⟨#[110]⟩,0,0,[]⟩:z6Z)]:List z6Z),[],([(⟨⟨#[115]⟩,0,16,100⟩:z8y)]:List z8y),([(⟨⟨#[109]⟩,⟨#[115]⟩,0,1⟩:z7x),(⟨⟨#[110]⟩,⟨#[115]⟩,0,1⟩:z7x)]:List z7x),([(⟨⟨#[]⟩,(⟨⟨#[]⟩,⟨#[]⟩,⟨#[]⟩⟩:Sapi_Ref),200,40,[]⟩:zh)]:List zh),[],[],[]⟩:zp),([([(⟨0,2,0⟩:zd),(⟨2,1,1⟩:zd)]:List zd)]:List (List zd)))
theorem yeo{Z:Zp}{r:zp×List (List zd)}(h:y8N=some r)(w₀:World)(hz:PZ [] w₀ Z):
  Calls Tryz.prog 19 #[] w₀ fun e w'=>∃ Zn:Zp,∃ zEh:Option Addr,∃ zEi:Nat,∃ zEj:List Value,∃ zEk:Option Addr,∃ zEl:Nat,∃ zEm:Option Addr,∃ zEn:Nat,∃ zEo:Option Addr,∃ zEp:Nat,∃ zEq:Option Addr,∃ zEr:Nat,∃ zEs:List Value,∃ zEt:Option Addr,∃ zEu:Nat,∃ zEv:Option Addr,∃ zEw:Nat,∃ zEx:Option Addr,∃ zEy:Nat,∃ zEz:Option Addr,∃ zEA:Nat,∃ zEB:List Value,e = .returned (.tuple #[(.agg #[(.slice zEh r.1.fM.length zEi),(.slice zEk r.1.fC0.length zEl),(.slice zEm r.1.fS.length zEn),(.slice zEo r.1.fK.length zEp),(.slice zEq r.1.fVLs.length zEr),(.slice zEt r.1.fH.length zEu),(.slice zEv r.1.fU.length zEw),(.slice zEx r.1.fV0.length zEy)]),(.slice zEz r.2.length zEA)])∧((RR 4 (y3y (Z++Zn)) zEj r.1.fM)∧(ZS (Z++Zn) 4 (y4k (Z++Zn)) zEk zEl r.1.fC0)∧(RR 7 (p69 (Z++Zn)) zEs r.1.fVLs)∧(ZS (Z++Zn) 5 (fun r x=>r=y4t x) zEt zEu r.1.fH)∧(ZS (Z++Zn) 3 (y4l (Z++Zn)) zEv zEw r.1.fU)∧(ZS (Z++Zn) 4 (fun r x=>r=y4u x) zEx zEy r.1.fV0)∧(RR 1 (p58 (Z++Zn)) zEB r.2))∧Hp [] w₀ w' [fz Zn,row (.slice zEh r.1.fM.length zEi) 126 4 zEj,row (.slice zEm r.1.fS.length zEn) 64 4 (r.1.fS.flatMap e64),row (.slice zEo r.1.fK.length zEp) 62 4 (r.1.fK.flatMap e62),row (.slice zEq r.1.fVLs.length zEr) 69 7 zEs,row (.slice zEz r.2.length zEA) 58 1 zEB]:=by
 unfold y8N at h
 refine Calls.on0 Tryz.func19 Tryz.ntmps19 ?_
 refine WC.pool<|WC.b<|Ld (Lg 0 (yv (cs:=[vn,vn,vn,vn,vn,vn,vn,vn]) ybM U) fun z13P _=>La U<|WL.nil<|Lb<|WC.b<|Ld<|Le 3 (yL (v:=(.agg #[(.string ⟨#[109]⟩),(vi 0),(vi 0),vn])) (Lo (l:=[.const (.string ⟨#[109]⟩)]) (.cons U .nil) [0]) (fun _=>by kernel_rfl))<|Le 4 (yL (v:=(.agg #[(.string ⟨#[110]⟩),(vi 0),(vi 0),vn])) (Lo (l:=[.const (.string ⟨#[110]⟩)]) (.cons U .nil) [0]) (fun _=>by kernel_rfl)) ?_)
 let D:List Value:=[(.string ⟨#[109]⟩),(vi 0),(vi 0),vn,(.string ⟨#[110]⟩),(vi 0),(vi 0),vn];have zN5:RR 4 (y3y (Z++[])) D ([(⟨⟨#[109]⟩,0,0,[]⟩:z6Z),(⟨⟨#[110]⟩,0,0,[]⟩:z6Z)]:List z6Z):=(RR.cons (r:=[(.string ⟨#[109]⟩),(vi 0),(vi 0),vn]) U (show y3y _ _ _ from⟨_,_,U,(ZS.nil _ _ _)⟩) (RR.cons (r:=[(.string ⟨#[110]⟩),(vi 0),(vi 0),vn]) U (show y3y _ _ _ from⟨_,_,U,(ZS.nil _ _ _)⟩) (RR.nil _ _)))
 refine Lg 5 (yM (cs:=[(.string ⟨#[109]⟩),(vi 0),(vi 0),vn,(.string ⟨#[110]⟩),(vi 0),(vi 0),vn]) elT_22 (Lo (l:=[.tmp 3,.tmp 4]) (.r2 U U) [0,1]) (fun _=>by kernel_rfl) U (by unfold maxLen;omega)) fun zEC _=>Le 6 (yL (v:=(.agg #[(.string ⟨#[115]⟩),(vi 0),(vi 16),(vi 100)])) (Lo (l:=[.const (.string ⟨#[115]⟩),.const (vi 16),.const (vi 100)]) (.r3 U U U) [0,2,3]) (fun _=>by kernel_rfl)) (Lg 7 (yM (cs:=([(⟨⟨#[115]⟩,0,16,100⟩:z8y)]:List z8y).flatMap e64) ycL (Lo (l:=[.tmp 6]) (.cons U .nil) [0]) (fun _=>by kernel_rfl) U (by unfold maxLen;omega)) fun zED _=>Le 8 (yL (v:=(.agg #[(.string ⟨#[109]⟩),(.string ⟨#[115]⟩),(vi 0),(vi 1)])) (Lo (l:=[.const (.string ⟨#[109]⟩),.const (.string ⟨#[115]⟩),.const (vi 1)]) (.r3 U U U) [0,1,3]) (fun _=>by kernel_rfl))<|Le 9 (yL (v:=(.agg #[(.string ⟨#[110]⟩),(.string ⟨#[115]⟩),(vi 0),(vi 1)])) (Lo (l:=[.const (.string ⟨#[110]⟩),.const (.string ⟨#[115]⟩),.const (vi 1)]) (.r3 U U U) [0,1,3]) (fun _=>by kernel_rfl)) (Lg 10 (yM (cs:=([(⟨⟨#[109]⟩,⟨#[115]⟩,0,1⟩:z7x),(⟨⟨#[110]⟩,⟨#[115]⟩,0,1⟩:z7x)]:List z7x).flatMap e62) yaq (Lo (l:=[.tmp 8,.tmp 9]) (.r2 U U) [0,1]) (fun _=>by kernel_rfl) U (by unfold maxLen;omega)) fun zEE _=>Le 11 (yL (v:=(.agg #[(.string ⟨#[]⟩),(.string ⟨#[]⟩),(.string ⟨#[]⟩),(.string ⟨#[]⟩),(vi 200),(vi 40),vn])) (Lo (l:=[.const (vi 200),.const (vi 40)]) (.r2 U U) [2,3]) (fun _=>by kernel_rfl)) ?_))
 let A:List Value:=[(.string ⟨#[]⟩),(.string ⟨#[]⟩),(.string ⟨#[]⟩),(.string ⟨#[]⟩),(vi 200),(vi 40),vn];have zN6:RR 7 (p69 (Z++[])) A ([(⟨⟨#[]⟩,(⟨⟨#[]⟩,⟨#[]⟩,⟨#[]⟩⟩:Sapi_Ref),200,40,[]⟩:zh)]:List zh):=(RR.cons (r:=A) U (show p69 _ _ _ from⟨_,_,U,(ZS.nil _ _ _)⟩) (RR.nil _ _))
 refine Lg 12 (yM (cs:=[(.string ⟨#[]⟩),(.string ⟨#[]⟩),(.string ⟨#[]⟩),(.string ⟨#[]⟩),(vi 200),(vi 40),vn]) y72 (Lo (l:=[.tmp 11]) (.cons U .nil) [0]) (fun _=>by kernel_rfl) U (by unfold maxLen;omega)) fun zEF _=>Le 13 (yL (v:=(.agg #[(.slice (some ⟨zEC,0,none⟩) (([(⟨⟨#[109]⟩,0,0,[]⟩:z6Z),(⟨⟨#[110]⟩,0,0,[]⟩:z6Z)]:List z6Z).length) 2),vn,(.slice (some ⟨zED,0,none⟩) (([(⟨⟨#[115]⟩,0,16,100⟩:z8y)]:List z8y).length) 1),(.slice (some ⟨zEE,0,none⟩) (([(⟨⟨#[109]⟩,⟨#[115]⟩,0,1⟩:z7x),(⟨⟨#[110]⟩,⟨#[115]⟩,0,1⟩:z7x)]:List z7x).length) 2),(.slice (some ⟨zEF,0,none⟩) (([(⟨⟨#[]⟩,(⟨⟨#[]⟩,⟨#[]⟩,⟨#[]⟩⟩:Sapi_Ref),200,40,[]⟩:zh)]:List zh).length) 1),vn,vn,vn])) (Lo (l:=[.tmp 5,.tmp 7,.tmp 10,.tmp 12]) (.r4 U U U U) [0,2,3,4]) (fun _=>by kernel_rfl)) (Lg 2 (yv (cs:=[vn,vn,vn,vn,vn,vn,vn,vn]) ybM U) fun z13Q _=>Lk U U (yl ydd U U U .here U U U)<|WL.nil<|Lb<|WC.b<|Ld<|Le 14 (yi y1E U (yk .here) U)<|Le 15 (yL (v:=(.agg #[(vi 0),(vi 2),(vi 0)])) (Lo (l:=[.const (vi 0),.const (vi 2),.const (vi 0)]) (.r3 U U U) [0,1,2]) (fun _=>by kernel_rfl))<|Le 16 (yL (v:=(.agg #[(vi 2),(vi 1),(vi 1)])) (Lo (l:=[.const (vi 2),.const (vi 1),.const (vi 1)]) (.r3 U U U) [0,1,2]) (fun _=>by kernel_rfl)) (Lg 17 (yM (cs:=([(⟨0,2,0⟩:zd),(⟨2,1,1⟩:zd)]:List zd).flatMap e60) y65 (Lo (l:=[.tmp 15,.tmp 16]) (.r2 U U) [0,1]) (fun _=>by kernel_rfl) U (by unfold maxLen;omega)) fun zpG _=>Kj (ls:=([(⟨0,2,0⟩:zd),(⟨2,1,1⟩:zd)]:List zd)) .here .h6 hz (RR.flat (enc:=e60) (fun _=>U) _) ?_))
 intro zEG zEH zN7
 let C:Value:=(.slice (some ⟨zpG,0,none⟩) (([(⟨0,2,0⟩:zd),(⟨2,1,1⟩:zd)]:List zd).length) 2);have zN8:RR 1 (p58 (Z++zEG)) [C] ([([(⟨0,2,0⟩:zd),(⟨2,1,1⟩:zd)]:List zd)]:List (List zd)):=(RR.cons (r:=[C]) U (show p58 _ _ _ from⟨_,_,U,zN7⟩) (RR.nil _ _))
 refine Lg 18 (yM (cs:=[(.slice (some ⟨zpG,0,none⟩) (([(⟨0,2,0⟩:zd),(⟨2,1,1⟩:zd)]:List zd).length) 2)]) y71 (Lo (l:=[.tmp 17]) (.cons U .nil) [0]) (fun _=>by kernel_rfl) U (by unfold maxLen;omega)) fun zN9 _=>Lk U U (yl ydd U U U .h7 U U U)<|La U<|WL.nil<|Lb<|WC.ret ?_
 obtain rfl:=oJ h
 refine Lh Tryz.results19 (.agg U y1E U (yk .here)<|.tmp U .nil)<|fun w hw=>?_
 exact⟨zEG,(some ⟨zEC,0,none⟩),2,D,none,0,(some ⟨zED,0,none⟩),1,(some ⟨zEE,0,none⟩),2,(some ⟨zEF,0,none⟩),1,A,none,0,none,0,none,0,(some ⟨zN9,0,none⟩),1,[C],y1R U U,⟨(zN5.weak (fun _ _ h=>y1a zEH h)),(ZS.nil _ _ _),(zN6.weak (fun _ _ h=>y15 zEH h)),(ZS.nil _ _ _),(ZS.nil _ _ _),(ZS.nil _ _ _),zN8⟩,hw.sub (.s6 .h2 .h6 .h5 .h4 .h3 .h1)⟩
def y4a(z2r:zp):Option Int:=
 some (i64 (((z2r.fM.length:Nat):Int)+((z2r.fS.length:Nat):Int)))
theorem yaZ{Z:Zp}{ztF:Option Addr}{ztG:Nat}{ztH:Option Addr}{ztI:Nat}{ztJ:Option Addr}{ztK:Nat}{ztL:Option Addr}{ztM:Nat}{ztN:Option Addr}{ztO:Nat}{ztP:Option Addr}{ztQ:Nat}{ztR:Option Addr}{ztS:Nat}{ztT:Option Addr}{ztU:Nat}{z2r:zp}{r:Int}(h:y4a z2r=some r)(w₀:World)(hz:PZ [] w₀ Z)(z13R:ZS Z 4 (y3y Z) ztF ztG z2r.fM)(z13S:ZS Z 4 (y4k Z) ztH ztI z2r.fC0)(z13T:ZS Z 4 (fun r x=>r=e64 x) ztJ ztK z2r.fS)(z13U:ZS Z 4 (fun r x=>r=e62 x) ztL ztM z2r.fK)(z13V:ZS Z 7 (p69 Z) ztN ztO z2r.fVLs)(z13W:ZS Z 5 (fun r x=>r=y4t x) ztP ztQ z2r.fH)(z13X:ZS Z 3 (y4l Z) ztR ztS z2r.fU)(z13Y:ZS Z 4 (fun r x=>r=y4u x) ztT ztU z2r.fV0):
  Calls Tryz.prog 172 #[(.agg #[(.slice ztF z2r.fM.length ztG),(.slice ztH z2r.fC0.length ztI),(.slice ztJ z2r.fS.length ztK),(.slice ztL z2r.fK.length ztM),(.slice ztN z2r.fVLs.length ztO),(.slice ztP z2r.fH.length ztQ),(.slice ztR z2r.fU.length ztS),(.slice ztT z2r.fV0.length ztU)])] w₀ fun e w'=>e = .returned (vi r)∧Hp [] w₀ w' []:=by
 unfold y4a at h
 refine L5 Tryz.func172 Tryz.ntmps172 ?_
 refine WC.b<|Ld (Lg 1 (yH (cs:=[(.slice ztF z2r.fM.length ztG),(.slice ztH z2r.fC0.length ztI),(.slice ztJ z2r.fS.length ztK),(.slice ztL z2r.fK.length ztM),(.slice ztN z2r.fVLs.length ztO),(.slice ztP z2r.fH.length ztQ),(.slice ztR z2r.fU.length ztS),(.slice ztT z2r.fV0.length ztU)]) U U) fun z13Z _=>La U<|WL.nil<|Lb<|WC.b<|Ld<|Le 3 (ya y7a U U)<|Le 4 (yc y7b U<|yh .here U)<|Le 5 (yI Tryz.underlying22 U)<|Le 6 (ya yag U U)<|Le 7 (yc yah U<|yh .here U)<|Le 8 (yI Tryz.underlying24 U)<|La U<|La U<|WL.nil<|Lb<|WC.ret ?_)
 obtain rfl:=oJ h
 refine Lh Tryz.results172 (.tmp U .nil)<|fun w hw=>?_
 exact⟨yC U,hw.sub .nil⟩
def y4z(z1V:zp)(z8A:Int):Option ByteArray:=
 (if decide (z8A<0) then some true else(y4a z1V).bind fun zEI=>some (decide (z8A≥zEI))).bind fun ztV=>if ztV then some ⟨#[]⟩ else if decide (z8A<((z1V.fM.length:Nat):Int)) then chk ((0:Int)≤z8A∧z8A<((z1V.fM.length:Nat):Int)) (some ((nth z1V.fM z8A).fName)) else chk ((0:Int)≤(i64 (z8A-((z1V.fM.length:Nat):Int)))∧(i64 (z8A-((z1V.fM.length:Nat):Int)))<((z1V.fS.length:Nat):Int)) (some ((nth z1V.fS (i64 (z8A-((z1V.fM.length:Nat):Int)))).fName))
theorem yf4{Z:Zp}{ztW:Option Addr}{ztX:Nat}{ztY:Option Addr}{ztZ:Nat}{zu0:Option Addr}{zu1:Nat}{zu2:Option Addr}{zu3:Nat}{zu4:Option Addr}{zu5:Nat}{zu6:Option Addr}{zu7:Nat}{zu8:Option Addr}{zu9:Nat}{zua:Option Addr}{zub:Nat}{z1V:zp}{z8A:Int}{r:ByteArray}(h:y4z z1V z8A=some r)(w₀:World)(hz:PZ [] w₀ Z)(zEJ:ZS Z 4 (y3y Z) ztW ztX z1V.fM)(zNa:ZS Z 4 (y4k Z) ztY ztZ z1V.fC0)(zEK:ZS Z 4 (fun r x=>r=e64 x) zu0 zu1 z1V.fS)(zNb:ZS Z 4 (fun r x=>r=e62 x) zu2 zu3 z1V.fK)(zNc:ZS Z 7 (p69 Z) zu4 zu5 z1V.fVLs)(zNd:ZS Z 5 (fun r x=>r=y4t x) zu6 zu7 z1V.fH)(zNe:ZS Z 3 (y4l Z) zu8 zu9 z1V.fU)(zNf:ZS Z 4 (fun r x=>r=y4u x) zua zub z1V.fV0):
  Calls Tryz.prog 173 #[(.agg #[(.slice ztW z1V.fM.length ztX),(.slice ztY z1V.fC0.length ztZ),(.slice zu0 z1V.fS.length zu1),(.slice zu2 z1V.fK.length zu3),(.slice zu4 z1V.fVLs.length zu5),(.slice zu6 z1V.fH.length zu7),(.slice zu8 z1V.fU.length zu9),(.slice zua z1V.fV0.length zub)]),(vi z8A)] w₀ fun e w'=>e = .returned (.string r)∧Hp [] w₀ w' []:=by
 unfold y4z at h
 refine Lz Tryz.func173 Tryz.ntmps173 ?_
 refine WC.b<|Ld (Lg 2 (yH (cs:=[(.slice ztW z1V.fM.length ztX),(.slice ztY z1V.fC0.length ztZ),(.slice zu0 z1V.fS.length zu1),(.slice zu2 z1V.fK.length zu3),(.slice zu4 z1V.fVLs.length zu5),(.slice zu6 z1V.fH.length zu7),(.slice zu8 z1V.fU.length zu9),(.slice zua z1V.fV0.length zub)]) U U) fun z140 _=>La U<|WL.nil<|Lb<|WC.b<|Ld<|Le 6 (ya y7a U U)<|Le 7 (yc y7b U<|yh .here U)<|Le 8 (yI Tryz.underlying22 U)<|La U<|WL.nil<|Lb<|WC.block<|WC.b ?_)
 obtain⟨ztV,zEL,h⟩:=za h
 refine Ld<|La U<|La U<|La U<|Lv false 4 20 (B:=ztV) U U U U U U (fun h=>(oJ<|yq zEL h).symm) (fun _ zNg=>?_) ?_
 ·skip
  have zma:=yr zEL zNg
  obtain⟨zEI,zNh,zma⟩:=za zma
  replace zma:=oJ zma
  refine La U<|Le 22 (yi y1E U (yk .here) U)<|Ll 23 (zb Tryz.call172<|.cons U .nil) .nil (cc hz .nil fun w pz ho=>yaZ zNh w pz zEJ zNa zEK zNb zNc zNd zNe zNf)<|La U<|La U ?_
  exact Lw zma U U .all
 refine La U<|WL.nil<|Lb<|WC.cond U (fun zuc=>?_)<|fun zuc=>?_
 ·replace h:=yq h zuc
  refine WC.b<|Ld<|La U<|WL.nil<|Lb<|WC.ret<|Lq ?_
  obtain rfl:=oJ h
  refine Lh Tryz.results173 (.tmp U .nil)<|fun w hw=>?_
  exact⟨yC U,hw.sub .nil⟩
 ·replace h:=yr h zuc
  refine WC.b<|Ld<|La U<|La U<|La U<|La U<|WL.nil<|Lb<|WC.cond U (fun zud=>?_)<|fun zud=>?_
  ·replace h:=yq h zud
   refine WC.b ?_
   obtain⟨zNi,h⟩:=yn h
   refine Ld<|Le 30 (ya y7a U U)<|Le 31 (yc y7b U<|yh .here U)<|La U<|L0 (dd:=33) U U (Z:=Z) (Pr:=(y3y Z)) elT_22 U U zEJ zNi ?_
   rintro z141 z142 zNj z143 ⟨z144,z145,rfl,z146⟩
   refine Le 34 (ya fo_126_0 U U)<|Le 35 (yc yen U<|y1c hz.pv zNj U)<|La U<|WL.nil<|Lb<|WC.ret<|Lq ?_
   obtain rfl:=oJ h
   refine Lh Tryz.results173 (.tmp U .nil)<|fun w hw=>?_
   exact⟨yC U,hw.sub .nil⟩
  ·replace h:=yr h zud
   refine WC.b ?_
   obtain⟨zNk,h⟩:=yn h
   refine Ld<|Le 9 (ya yag U U)<|Le 10 (yc yah U<|yh .here U)<|La U<|La U<|La U<|L0 (dd:=14) U U (Z:=Z) (Pr:=(fun r x=>r=e64 x)) ycL U U zEK zNk ?_
   rintro z147 z148 zNl z149 rfl
   refine Le 15 (ya fo_64_0 U U)<|Le 16 (yc yen U<|y1c hz.pv zNl U)<|La U<|WL.nil<|Lb<|WC.ret<|Lq ?_
   obtain rfl:=oJ h
   refine Lh Tryz.results173 (.tmp U .nil)<|fun w hw=>?_
   exact⟨yC U,hw.sub .nil⟩
def y1W(zbq:Int)(z1q:zp)(z9j:ByteArray)(zbr:Option Int):Nat→Int→Option Int
 | 0,_=>none
 | zue+1,z7z=>if decide (z7z<zbq) then(y4z z1q z7z).bind fun zEM=>if decide (zEM=z9j) then some z7z else y1W zbq z1q z9j zbr zue (i64 (z7z+1)) else zbr
theorem yb4{n:Nat}{zbq:Int}{z1q:zp}{z9j:ByteArray}{zbr:Option Int}{z7z:Int}{r:Int}(h:y1W zbq z1q z9j zbr n z7z=some r):∃ m,n=m+1:=by
 cases n with
 | zero=>cases h
 | succ m=>exact⟨m,rfl⟩
def y2i(z1q:zp)(z9j:ByteArray):Option Int:=
 jp0 (some (-1)) fun zbr=>(y4a z1q).bind fun zbq=>y1W zbq z1q z9j zbr yx 0
theorem ybi{Z:Zp}{zpH:Option Addr}{zpI:Nat}{zpJ:Option Addr}{zpK:Nat}{zpL:Option Addr}{zpM:Nat}{zpN:Option Addr}{zpO:Nat}{zpP:Option Addr}{zpQ:Nat}{zpR:Option Addr}{zpS:Nat}{zpT:Option Addr}{zpU:Nat}{zpV:Option Addr}{zpW:Nat}{z1q:zp}{z9j:ByteArray}{r:Int}(h:y2i z1q z9j=some r)(w₀:World)(hz:PZ [] w₀ Z)(zEN:ZS Z 4 (y3y Z) zpH zpI z1q.fM)(zEO:ZS Z 4 (y4k Z) zpJ zpK z1q.fC0)(zEP:ZS Z 4 (fun r x=>r=e64 x) zpL zpM z1q.fS)(zEQ:ZS Z 4 (fun r x=>r=e62 x) zpN zpO z1q.fK)(zER:ZS Z 7 (p69 Z) zpP zpQ z1q.fVLs)(zES:ZS Z 5 (fun r x=>r=y4t x) zpR zpS z1q.fH)(zET:ZS Z 3 (y4l Z) zpT zpU z1q.fU)(zEU:ZS Z 4 (fun r x=>r=y4u x) zpV zpW z1q.fV0):
  Calls Tryz.prog 140 #[(.agg #[(.slice zpH z1q.fM.length zpI),(.slice zpJ z1q.fC0.length zpK),(.slice zpL z1q.fS.length zpM),(.slice zpN z1q.fK.length zpO),(.slice zpP z1q.fVLs.length zpQ),(.slice zpR z1q.fH.length zpS),(.slice zpT z1q.fU.length zpU),(.slice zpV z1q.fV0.length zpW)]),(.string z9j)] w₀ fun e w'=>e = .returned (vi r)∧Hp [] w₀ w' []:=by
 unfold y2i at h
 refine Lz Tryz.func140 Tryz.ntmps140 ?_
 let A:List Value:=[(.slice zpH z1q.fM.length zpI),(.slice zpJ z1q.fC0.length zpK),(.slice zpL z1q.fS.length zpM),(.slice zpN z1q.fK.length zpO),(.slice zpP z1q.fVLs.length zpQ),(.slice zpR z1q.fH.length zpS),(.slice zpT z1q.fU.length zpU),(.slice zpV z1q.fV0.length zpW)];refine WC.b (Ld (Lg 2 (yH (cs:=A) U U) ?_))
 intro zEV _
 refine La U<|WL.nil<|Lb ?_
 obtain⟨zbr,zNm,h⟩:=y1G h
 refine L8 ((zbr=some r)) ([]) ([]) ?_ ?_
 ·skip
  refine WC.b ?_
  obtain⟨zbq,zNn,h⟩:=za h
  refine Ld<|Le 6 (yi y1E U (yk .here) U)<|Ll 7 (zb Tryz.call172<|.cons U .nil) .nil (cc hz .nil fun w pz ho=>yaZ zNn w pz zEN zEO zEP zEQ zER zES zET zEU)<|La U<|WL.nil<|Lb<|WC.block<|L9 (fun(zim:Nat) (z7z:Int)=>(y1W zbq z1q z9j zbr zim z7z=some r)) (fun zim z7z=>[(1,(.string z9j)),(2,(vp zEV)),(7,(vi zbq)),(8,(vi z7z))]) (fun zim z7z=>[stb zEV 31 A]) (fun zim z7z=>zim) ⟨yx,0⟩ h (.r4 U U U U) (.cons .here .nil) ?_
  rintro zim z7z h
  obtain⟨zue,rfl⟩:=yb4 h
  rw[y1W] at h
  refine WC.b<|Ld<|La U<|WL.nil<|Lb<|WC.b<|WC.cond U (fun zuf=>?_)<|fun zuf=>?_
  ·replace h:=yq h zuf
   refine WC.skip<|Lb<|WC.b<|WC.block<|WC.b<|Ld<|La U<|La U<|WL.nil<|Lb<|WC.b ?_
   obtain⟨zEM,zNo,h⟩:=za h
   refine Ld<|Le 11 (yi y1E U (yk .here) U)<|La U<|Ll 13 (zb Tryz.call173<|.r2 U U) .nil (cc hz .nil fun w pz ho=>yf4 zNo w pz zEN zEO zEP zEQ zER zES zET zEU)<|La U<|Le 15 (q_seql U U)<|WL.nil<|Lb<|WC.cond U (fun zug=>?_)<|fun zug=>?_
   ·replace h:=yq h zug
    refine WC.b<|Ld<|La U<|La U<|WL.nil<|Lb<|WC.ret<|Lq<|Li<|Li<|Lq<|Li ?_
    obtain rfl:=oJ h
    refine Lh Tryz.results140 (.tmp U .nil)<|fun w hw=>?_
    exact⟨yC U,hw.sub .nil⟩
   ·replace h:=yr h zug
    refine WC.skip<|Lt<|Lb<|Ld<|La U<|La U<|WL.nil ?_
    exact WX.round ⟨zue,(i64 (z7z+1))⟩ h (Nat.lt_succ_self _) (.r4 U U U U)<|.cons .here .nil
  ·replace h:=yr h zuf
   refine WC.exit<|Lm<|Lm<|Lu ?_
   exact Ln () h .nil .nil
 ·rintro  h
  replace h:=zNm.symm.trans h
  refine WC.b<|Ld<|La U<|WL.nil<|Lb<|WC.ret ?_
  obtain rfl:=oJ h
  refine Lh Tryz.results140 (.tmp U .nil)<|fun w hw=>?_
  exact⟨yC U,hw.sub .nil⟩
def y5J(zF:zp)(zdJ:Int)(z2T:Int):Option Bool:=
 if decide (z2T<((zF.fM.length:Nat):Int)) then some (decide (z2T≥0)) else chk ((0:Int)≤(i64 (z2T-((zF.fM.length:Nat):Int)))∧(i64 (z2T-((zF.fM.length:Nat):Int)))<((zF.fS.length:Nat):Int)) (some (((((decide (((nth zF.fS (i64 (z2T-((zF.fM.length:Nat):Int)))).fNet)=zdJ))&&(decide (((nth zF.fS (i64 (z2T-((zF.fM.length:Nat):Int)))).fDelay)≥0)))&&(decide (((nth zF.fS (i64 (z2T-((zF.fM.length:Nat):Int)))).fDelay)≤1000)))&&(decide (((nth zF.fS (i64 (z2T-((zF.fM.length:Nat):Int)))).fT)≥0)))&&(decide (((nth zF.fS (i64 (z2T-((zF.fM.length:Nat):Int)))).fT)≤1073741824))))
theorem ybj{Z:Zp}{zuh:Option Addr}{zui:Nat}{zuj:Option Addr}{zuk:Nat}{zul:Option Addr}{zum:Nat}{zun:Option Addr}{zuo:Nat}{zup:Option Addr}{zuq:Nat}{zur:Option Addr}{zus:Nat}{zut:Option Addr}{zuu:Nat}{zuv:Option Addr}{zuw:Nat}{zF:zp}{zdJ:Int}{z2T:Int}{r:Bool}(h:y5J zF zdJ z2T=some r)(w₀:World)(hz:PZ [] w₀ Z)(z14a:ZS Z 4 (y3y Z) zuh zui zF.fM)(z14b:ZS Z 4 (y4k Z) zuj zuk zF.fC0)(zNp:ZS Z 4 (fun r x=>r=e64 x) zul zum zF.fS)(z14c:ZS Z 4 (fun r x=>r=e62 x) zun zuo zF.fK)(z14d:ZS Z 7 (p69 Z) zup zuq zF.fVLs)(z14e:ZS Z 5 (fun r x=>r=y4t x) zur zus zF.fH)(z14f:ZS Z 3 (y4l Z) zut zuu zF.fU)(z14g:ZS Z 4 (fun r x=>r=y4u x) zuv zuw zF.fV0):
  Calls Tryz.prog 141 #[(.agg #[(.slice zuh zF.fM.length zui),(.slice zuj zF.fC0.length zuk),(.slice zul zF.fS.length zum),(.slice zun zF.fK.length zuo),(.slice zup zF.fVLs.length zuq),(.slice zur zF.fH.length zus),(.slice zut zF.fU.length zuu),(.slice zuv zF.fV0.length zuw)]),(vi zdJ),(vi z2T)] w₀ fun e w'=>e = .returned (.bool r)∧Hp [] w₀ w' []:=by
 unfold y5J at h
 refine Ke Tryz.func141 Tryz.ntmps141 ?_
 refine WC.b<|Ld (Lg 3 (yH (cs:=[(.slice zuh zF.fM.length zui),(.slice zuj zF.fC0.length zuk),(.slice zul zF.fS.length zum),(.slice zun zF.fK.length zuo),(.slice zup zF.fVLs.length zuq),(.slice zur zF.fH.length zus),(.slice zut zF.fU.length zuu),(.slice zuv zF.fV0.length zuw)]) U U) fun z14h _=>La U<|WL.nil<|Lb<|WC.b<|WC.b<|Ld<|La U<|Le 9 (ya y7a U U)<|Le 10 (yc y7b U<|yh .here U)<|Le 11 (yI Tryz.underlying22 U)<|La U<|WL.nil<|Lb<|WC.cond U (fun zux=>?_)<|fun zux=>?_)
 ·replace h:=yq h zux
  refine WC.b<|Ld<|La U<|La U<|La U<|WL.nil<|Lb<|WC.ret<|Li ?_
  obtain rfl:=oJ h
  refine Lh Tryz.results141 (.tmp U .nil)<|fun w hw=>?_
  exact⟨yC U,hw.sub .nil⟩
 ·replace h:=yr h zux
  refine WC.skip<|Lb<|WC.b ?_
  obtain⟨zNq,h⟩:=yn h
  refine Ld<|Le 15 (ya yag U U)<|Le 16 (yc yah U<|yh .here U)<|La U<|Le 18 (ya y7a U U)<|Le 19 (yc y7b U<|yh .here U)<|Le 20 (yI Tryz.underlying22 U)<|La U<|L0 (dd:=22) U U (Z:=Z) (Pr:=(fun r x=>r=e64 x)) ycL U U zNp zNq ?_
  rintro z14i z14j zNr z14k rfl
  refine Le 23 (yi aggT_64 U (y2l hz.pv zNr) U)<|Lg 7 (yv (cs:=[(.string ⟨#[]⟩),(vi 0),(vi 0),(vi 0)]) zeroT_64 U) ?_
  intro z14l _
  let A:=(i64 (z2T-((zF.fM.length:Nat):Int)));refine Lk U U (yl sizT_64 U U U .here U U U) (WL.nil (Lb (WC.b (Ld (Le 24 (ya fo_64_1 U U) (Le 25 (yc ys U (yh .here U)) (La U (La U (La U (Lv true 3 28 (B:=(decide (((nth zF.fS A).fNet)=zdJ))&&(decide (((nth zF.fS A).fDelay)≥0))) U U U U U U (fun h=>(y3u h).symm) (fun _ zNs=>?_) ?_))))))))))
  ·skip
   refine Le 29 (ya yde U U)<|Le 30 (yc ys U<|yh .here U)<|La U<|La U ?_
   exact Lw (y3v zNs) U U .all
  refine La U<|Lv true 3 33 (B:=((decide (((nth zF.fS A).fNet)=zdJ))&&(decide (((nth zF.fS A).fDelay)≥0)))&&(decide (((nth zF.fS A).fDelay)≤1000))) U U U U U U (fun h=>(y3u h).symm) (fun _ zNt=>?_) ?_
  ·skip
   refine Le 34 (ya yde U U)<|Le 35 (yc ys U<|yh .here U)<|La U<|La U ?_
   exact Lw (y3v zNt) U U .all
  refine La U<|Lv true 3 38 (B:=(((decide (((nth zF.fS A).fNet)=zdJ))&&(decide (((nth zF.fS A).fDelay)≥0)))&&(decide (((nth zF.fS A).fDelay)≤1000)))&&(decide (((nth zF.fS A).fT)≥0))) U U U U U U (fun h=>(y3u h).symm) (fun _ zNu=>?_) ?_
  ·skip
   refine Le 39 (ya yhr U U)<|Le 40 (yc ys U<|yh .here U)<|La U<|La U ?_
   exact Lw (y3v zNu) U U .all
  refine La U<|Lv true 3 43 (B:=((((decide (((nth zF.fS A).fNet)=zdJ))&&(decide (((nth zF.fS A).fDelay)≥0)))&&(decide (((nth zF.fS A).fDelay)≤1000)))&&(decide (((nth zF.fS A).fT)≥0)))&&(decide (((nth zF.fS A).fT)≤1073741824))) U U U U U U (fun h=>(y3u h).symm) (fun _ zNv=>?_) ?_
  ·skip
   refine Le 44 (ya yhr U U)<|Le 45 (yc ys U<|yh .here U)<|La U<|La U ?_
   exact Lw (y3v zNv) U U .all
  refine La U<|WL.nil<|Lb<|WC.ret ?_
  obtain rfl:=oJ h
  refine Lh Tryz.results141 (.tmp U .nil)<|fun w hw=>?_
  exact⟨yC U,hw.sub .nil⟩
def y67(z1a:zp)(zbs:Int)(z3D:Int)(z9k:Int)(z9l:Int):Option Bool:=
 if (decide (z3D<0))||(decide (z3D≥((z1a.fK.length:Nat):Int))) then some false else chk ((0:Int)≤z3D∧z3D<((z1a.fK.length:Nat):Int)) ((y2i z1a ((nth z1a.fK z3D).fA)).bind fun z8B=>(y2i z1a ((nth z1a.fK z3D).fB)).bind fun z8C=>(if (((decide (((nth z1a.fK z3D).fNet)=zbs))&&(decide (((nth z1a.fK z3D).fSlow)≥1)))&&(decide (((nth z1a.fK z3D).fSlow)≤16)))&&(decide (z8B≠z8C)) then(y5J z1a zbs z8B).bind fun zEW=>some zEW else some false).bind fun zuy=>(if zuy then(y5J z1a zbs z8C).bind fun zEX=>some zEX else some false).bind fun zpX=>some (zpX&&(((decide (z8B=z9k))&&(decide (z8C=z9l)))||((decide (z8B=z9l))&&(decide (z8C=z9k))))))
theorem yep{Z:Zp}{zuz:Option Addr}{zuA:Nat}{zuB:Option Addr}{zuC:Nat}{zuD:Option Addr}{zuE:Nat}{zuF:Option Addr}{zuG:Nat}{zuH:Option Addr}{zuI:Nat}{zuJ:Option Addr}{zuK:Nat}{zuL:Option Addr}{zuM:Nat}{zuN:Option Addr}{zuO:Nat}{z1a:zp}{zbs:Int}{z3D:Int}{z9k:Int}{z9l:Int}{r:Bool}(h:y67 z1a zbs z3D z9k z9l=some r)(w₀:World)(hz:PZ [] w₀ Z)(zpY:ZS Z 4 (y3y Z) zuz zuA z1a.fM)(zpZ:ZS Z 4 (y4k Z) zuB zuC z1a.fC0)(zq0:ZS Z 4 (fun r x=>r=e64 x) zuD zuE z1a.fS)(zmb:ZS Z 4 (fun r x=>r=e62 x) zuF zuG z1a.fK)(zq1:ZS Z 7 (p69 Z) zuH zuI z1a.fVLs)(zq2:ZS Z 5 (fun r x=>r=y4t x) zuJ zuK z1a.fH)(zq3:ZS Z 3 (y4l Z) zuL zuM z1a.fU)(zq4:ZS Z 4 (fun r x=>r=y4u x) zuN zuO z1a.fV0):
  Calls Tryz.prog 93 #[(.agg #[(.slice zuz z1a.fM.length zuA),(.slice zuB z1a.fC0.length zuC),(.slice zuD z1a.fS.length zuE),(.slice zuF z1a.fK.length zuG),(.slice zuH z1a.fVLs.length zuI),(.slice zuJ z1a.fH.length zuK),(.slice zuL z1a.fU.length zuM),(.slice zuN z1a.fV0.length zuO)]),(vi zbs),(vi z3D),(vi z9k),(vi z9l)] w₀ fun e w'=>e = .returned (.bool r)∧Hp [] w₀ w' []:=by
 unfold y67 at h
 refine Calls.on5 Tryz.func93 Tryz.ntmps93 ?_
 refine WC.b<|Ld (Lg 5 (yH (cs:=[(.slice zuz z1a.fM.length zuA),(.slice zuB z1a.fC0.length zuC),(.slice zuD z1a.fS.length zuE),(.slice zuF z1a.fK.length zuG),(.slice zuH z1a.fVLs.length zuI),(.slice zuJ z1a.fH.length zuK),(.slice zuL z1a.fU.length zuM),(.slice zuN z1a.fV0.length zuO)]) U U) fun z14m _=>La U<|WL.nil<|Lb<|WC.b<|WC.b<|Ld<|La U<|La U<|La U<|Lv false 5 16 (B:=(decide (z3D<0))||(decide (z3D≥((z1a.fK.length:Nat):Int)))) U U U U U U (fun h=>(y7w h).symm) (fun _ zNw=>?_) ?_)
 ·skip
  refine La U<|Le 18 (ya y7R U U)<|Le 19 (yc y7S U<|yh .here U)<|Le 20 (yI Tryz.underlying25 U)<|La U<|La U ?_
  exact Lw (y7x zNw) U U .all
 refine WL.nil<|Lb<|WC.cond U (fun zuP=>?_)<|fun zuP=>?_
 ·replace h:=yq h zuP
  refine WC.b<|Ld<|La U<|WL.nil<|Lb<|WC.ret<|Li ?_
  obtain rfl:=oJ h
  refine Lh Tryz.results93 (.tmp U .nil)<|fun w hw=>?_
  exact⟨yC U,hw.sub .nil⟩
 ·replace h:=yr h zuP
  refine WC.skip<|Lb<|WC.b ?_
  obtain⟨zNx,h⟩:=yn h
  refine Ld<|Le 23 (ya y7R U U)<|Le 24 (yc y7S U<|yh .here U)<|La U<|L0 (dd:=26) U U (Z:=Z) (Pr:=(fun r x=>r=e62 x)) yaq U U zmb zNx ?_
  rintro z14n z14o zNy z14p rfl
  refine Le 27 (yi aggT_62 U (y2l hz.pv zNy) U) (Lg 11 (yv (cs:=[(.string ⟨#[]⟩),(.string ⟨#[]⟩),(vi 0),(vi 0)]) zeroT_62 U) fun z14q _=>Lk U U (yl sizT_62 U U U .here U U U)<|WL.nil<|Lb<|WC.b ?_)
  obtain⟨z8B,zNz,h⟩:=za h
  obtain⟨z8C,zNA,h⟩:=za h
  refine Lx (fun i=>[].contains i) [] U<|Lj 0 28 U (yi y1E U (yk .h1) U)<|Lf 1 29 U (fun _=>ya fo_62_0 U U)<|Lj 2 30 U (yc yen U<|yh .here U)<|L4 3 31 U (zb Tryz.call140<|.r2 U U) (cc hz .nil fun w pz ho=>ybi zNz w pz zpY zpZ zq0 zmb zq1 zq2 zq3 zq4)<|Lj 4 32 U (yi y1E U (yk .h1) U)<|Lf 5 33 U (fun _=>ya fo_62_1 U U)<|Lj 6 34 U (yc yen U<|yh .here U)<|L4 7 35 U (zb Tryz.call140<|.r2 U U) (cc hz .nil fun w pz ho=>ybi zNA w pz zpY zpZ zq0 zmb zq1 zq2 zq3 zq4)<|Lf 8 12 U (fun _=>q_z U)<|Lf 9 13 U (fun _=>q_z U)<|WD.done (by kernel_rfl)<|Lb<|WC.b ?_
  obtain⟨zuy,zEY,h⟩:=za h
  obtain⟨zpX,zEZ,h⟩:=za h
  refine Ld<|Le 36 (ya fo_62_2 U U)<|Le 37 (yc ys U<|yh .here U)<|La U<|La U<|La U<|Lv true 3 40 (B:=(decide (((nth z1a.fK z3D).fNet)=zbs))&&(decide (((nth z1a.fK z3D).fSlow)≥1))) U U U U U U (fun h=>(y3u h).symm) (fun _ zNB=>?_) ?_
  ·skip
   refine Le 41 (ya y9c U U)<|Le 42 (yc ys U<|yh .here U)<|La U<|La U ?_
   exact Lw (y3v zNB) U U .all
  refine La U<|Lv true 3 45 (B:=((decide (((nth z1a.fK z3D).fNet)=zbs))&&(decide (((nth z1a.fK z3D).fSlow)≥1)))&&(decide (((nth z1a.fK z3D).fSlow)≤16))) U U U U U U (fun h=>(y3u h).symm) (fun _ zNC=>?_) ?_
  ·skip
   refine Le 46 (ya y9c U U)<|Le 47 (yc ys U<|yh .here U)<|La U<|La U ?_
   exact Lw (y3v zNC) U U .all
  refine La U<|Lv true 3 50 (B:=(((decide (((nth z1a.fK z3D).fNet)=zbs))&&(decide (((nth z1a.fK z3D).fSlow)≥1)))&&(decide (((nth z1a.fK z3D).fSlow)≤16)))&&(decide (z8B≠z8C))) U U U U U U (fun h=>(y3u h).symm) (fun _ zND=>?_) ?_
  ·skip
   refine La U<|La U<|La U<|La U ?_
   exact Lw (y3v zND) U U .all
  refine La U<|Lv true 4 55 (B:=zuy) U U U U U U (fun h=>(oJ<|yr zEY h).symm) (fun _ zNE=>?_) ?_
  ·skip
   have zmc:=yq zEY zNE
   obtain⟨zEW,zNF,zmc⟩:=za zmc
   replace zmc:=oJ zmc
   refine Le 56 (yi y1E U (yk .h1) U)<|La U<|La U<|Ll 59 (zb Tryz.call141<|.r3 U U U) .nil (cc hz .nil fun w pz ho=>ybj zNF w pz zpY zpZ zq0 zmb zq1 zq2 zq3 zq4)<|La U ?_
   exact Lw zmc U U .all
  refine La U<|Lv true 4 61 (B:=zpX) U U U U U U (fun h=>(oJ<|yr zEZ h).symm) (fun _ zNG=>?_) ?_
  ·skip
   have zmd:=yq zEZ zNG
   obtain⟨zEX,zNH,zmd⟩:=za zmd
   replace zmd:=oJ zmd
   refine Le 62 (yi y1E U (yk .h1) U)<|La U<|La U<|Ll 65 (zb Tryz.call141<|.r3 U U U) .nil (cc hz .nil fun w pz ho=>ybj zNH w pz zpY zpZ zq0 zmb zq1 zq2 zq3 zq4)<|La U ?_
   exact Lw zmd U U .all
  refine La U<|Lv true 18 67 (B:=zpX&&(((decide (z8B=z9k))&&(decide (z8C=z9l)))||((decide (z8B=z9l))&&(decide (z8C=z9k))))) U U U U U U (fun h=>(y3u h).symm) (fun _ zNI=>?_) ?_
  ·skip
   refine La U<|La U<|La U<|La U<|Lv true 3 71 (B:=(decide (z8B=z9k))&&(decide (z8C=z9l))) U U U U U U (fun h=>(y3u h).symm) (fun _ zNJ=>?_) ?_
   ·skip
    refine La U<|La U<|La U<|La U ?_
    exact Lw (y3v zNJ) U U .all
   refine La U<|Lv false 8 76 (B:=((decide (z8B=z9k))&&(decide (z8C=z9l)))||((decide (z8B=z9l))&&(decide (z8C=z9k)))) U U U U U U (fun h=>(y7w h).symm) (fun _ zNK=>?_) ?_
   ·skip
    refine La U<|La U<|La U<|La U<|Lv true 3 80 (B:=(decide (z8B=z9l))&&(decide (z8C=z9k))) U U U U U U (fun h=>(y3u h).symm) (fun _ zNL=>?_) ?_
    ·skip
     refine La U<|La U<|La U<|La U ?_
     exact Lw (y3v zNL) U U .all
    refine La U ?_
    exact Lw (y7x zNK) U U .all
   refine La U ?_
   exact Lw (y3v zNI) U U .all
  refine La U<|WL.nil<|Lb<|WC.ret ?_
  obtain rfl:=oJ h
  refine Lh Tryz.results93 (.tmp U .nil)<|fun w hw=>?_
  exact⟨yC U,hw.sub .nil⟩
def y3e(zq:List zd)(zX:zp)(z5w:Int)(zbt:Option Bool):Nat→Int→(List (Int×Int))→Option Bool
 | 0,_,_=>none
 | zuQ+1,zu,z6a=>if decide (zu<((zq.length:Nat):Int)) then chk ((0:Int)≤zu∧zu<((zq.length:Nat):Int)) (jp1 (fun(z2e:List (Int×Int))=>chk (((decide ((yg z2e ((nth zq zu).fNode) 0)=0))||(decide ((yg z2e ((nth zq zu).fNext) 0)>0)))=false→((decide (zu>0))=true→((0:Int)≤0∧0<((zq.length:Nat):Int)))) ((if ((decide ((yg z2e ((nth zq zu).fNode) 0)=0))||(decide ((yg z2e ((nth zq zu).fNext) 0)>0)))||(((decide (zu>0))&&(decide (((nth zq zu).fNode)≠((nth zq 0).fNode))))&&(decide (((nth zq zu).fNode)<((zX.fM.length:Nat):Int)))) then some true else(y67 zX z5w ((nth zq zu).fQ) ((nth zq zu).fNode) ((nth zq zu).fNext)).bind fun zF0=>some (!zF0)).bind fun zuR=>if zuR then some false else y3e zq zX z5w zbt zuQ (i64 (zu+1)) (yF z2e ((nth zq zu).fNext) (i64 ((yg z2e ((nth zq zu).fNext) 0)+1))))) fun zq5=>if decide (zu=0) then zq5 (yF z6a ((nth zq zu).fNode) (i64 ((yg z6a ((nth zq zu).fNode) 0)+1))) else zq5 z6a) else zbt
theorem yaM{n:Nat}{zq:List zd}{zX:zp}{z5w:Int}{zbt:Option Bool}{zu:Int}{z6a:List (Int×Int)}{r:Bool}(h:y3e zq zX z5w zbt n zu z6a=some r):∃ m,n=m+1:=by
 cases n with
 | zero=>cases h
 | succ m=>exact⟨m,rfl⟩
def y68(zX:zp)(z5w:Int)(zq:List zd):Option Bool:=
 jp0 (some (decide (((zq.length:Nat):Int)≤32))) fun zbt=>y3e zq zX z5w zbt yx 0 ([]:List (Int×Int))
theorem yeq{Z:Zp}{zme:Option Addr}{zmf:Nat}{zmg:Option Addr}{zmh:Nat}{zmi:Option Addr}{zmj:Nat}{zmk:Option Addr}{zml:Nat}{zmm:Option Addr}{zmn:Nat}{zmo:Option Addr}{zmp:Nat}{zmq:Option Addr}{zmr:Nat}{zms:Option Addr}{zmt:Nat}{z5x:Option Addr}{z5y:Nat}{zX:zp}{z5w:Int}{zq:List zd}{r:Bool}(h:y68 zX z5w zq=some r)(w₀:World)(hz:PZ [] w₀ Z)(zNM:ZS Z 4 (y3y Z) zme zmf zX.fM)(zNN:ZS Z 4 (y4k Z) zmg zmh zX.fC0)(zNO:ZS Z 4 (fun r x=>r=e64 x) zmi zmj zX.fS)(zNP:ZS Z 4 (fun r x=>r=e62 x) zmk zml zX.fK)(zNQ:ZS Z 7 (p69 Z) zmm zmn zX.fVLs)(zNR:ZS Z 5 (fun r x=>r=y4t x) zmo zmp zX.fH)(zNS:ZS Z 3 (y4l Z) zmq zmr zX.fU)(zNT:ZS Z 4 (fun r x=>r=y4u x) zms zmt zX.fV0)(zF1:ZS Z 3 (fun r x=>r=e60 x) z5x z5y zq):
  Calls Tryz.prog 52 #[(.agg #[(.slice zme zX.fM.length zmf),(.slice zmg zX.fC0.length zmh),(.slice zmi zX.fS.length zmj),(.slice zmk zX.fK.length zml),(.slice zmm zX.fVLs.length zmn),(.slice zmo zX.fH.length zmp),(.slice zmq zX.fU.length zmr),(.slice zms zX.fV0.length zmt)]),(vi z5w),(.slice z5x zq.length z5y)] w₀ fun e w'=>e = .returned (.bool r)∧Hp [] w₀ w' []:=by
 unfold y68 at h
 refine Ke Tryz.func52 Tryz.ntmps52 ?_
 let A:List Value:=[(.slice zme zX.fM.length zmf),(.slice zmg zX.fC0.length zmh),(.slice zmi zX.fS.length zmj),(.slice zmk zX.fK.length zml),(.slice zmm zX.fVLs.length zmn),(.slice zmo zX.fH.length zmp),(.slice zmq zX.fU.length zmr),(.slice zms zX.fV0.length zmt)];refine WC.b (Ld (Lg 3 (yH (cs:=A) U U) ?_))
 intro zbu _
 refine La U<|WL.nil<|Lb<|WC.b<|Ld (Lg 10 (y3r (Value.int .i64)<|Value.int .i64) fun zbv _=>La U<|WL.nil<|Lb ?_)
 obtain⟨zbt,zNU,h⟩:=y1G h
 let C:Value:=(.slice z5x zq.length z5y);refine L8 ((zbt=some r)) ([(2,C)]) ([]) ?_ ?_
 ·skip
  refine WC.b<|Ld<|La U<|Le 12 (yI Tryz.underlying58 U)<|La U<|WL.nil<|Lb<|WC.block<|WC.yam (fun(zin:Nat) (zu:Int) (z6a:List (Int×Int))=>(y3e zq zX z5w zbt zin zu z6a=some r)) (fun zin zu z6a=>[(1,(vi z5w)),(2,C),(3,(vp zbu)),(7,(.map<|some zbv)),(11,C),(12,(vi ((zq.length:Nat):Int))),(13,(vi zu))]) (fun zin zu z6a=>[stb zbu 31 A,yp zbv (Value.int .i64) (Value.int .i64) z6a]) (fun zin zu z6a=>zin) ⟨yx,0,([]:List (Int×Int))⟩ h (.r7 U U U U U U U) (.s2 .h1 .here) ?_
  rintro zin zu z6a h
  obtain⟨zuQ,rfl⟩:=yaM h
  rw[y3e] at h
  refine WC.b<|Ld<|La U<|WL.nil<|Lb<|WC.b<|WC.cond U (fun zuS=>?_)<|fun zuS=>?_
  ·replace h:=yq h zuS
   refine WC.skip<|Lb<|WC.b<|WC.block<|WC.b ?_
   obtain⟨zNV,h⟩:=yn h
   refine Ld<|La U<|L0 (dd:=16) U U (Z:=Z) (Pr:=(fun r x=>r=e60 x)) y65 U U zF1 zNV ?_
   rintro z14r z14s zNW z14t rfl
   refine Le 17 (yi y4g U (y2l hz.pv zNW) U) (Lg 9 (yv (cs:=[(vi 0),(vi 0),(vi 0)]) y6Q U) fun zg3 _=>La U<|Lk U U (yl y7d U U U .here U U U)<|WL.nil<|Lb ?_)
   obtain⟨zq5,zNX,h⟩:=y12 h
   refine Kf (fun(z2e:List (Int×Int))=>(zq5 z2e=some r)) (fun z2e=>[(1,(vi z5w)),(2,C),(3,(vp zbu)),(7,(.map<|some zbv)),(8,(vi zu)),(9,(vp zg3)),(11,C),(12,(vi ((zq.length:Nat):Int))),(13,(vi zu))]) (fun z2e=>[stb zbu 31 A,yp zbv (Value.int .i64) (Value.int .i64) z2e,stb zg3 60 [(vi<|(nth zq zu).fNode),(vi<|(nth zq zu).fNext),(vi<|(nth zq zu).fQ)]]) ?_ ?_
   ·skip
    refine WC.b<|Ld<|La U<|La U<|WL.nil<|Lb<|WC.cond U (fun zuT=>?_)<|fun zuT=>?_
    ·replace h:=yq h zuT
     refine Ld<|La U<|Le 21 (ya y4h U U)<|Le 22 (yc ys U<|yh .here U)<|Le 23 (y2S (k:=((nth zq zu).fNode)) (dflt:=(0:Int)) y40 Tryz.underlying148 y2H U U U .h2)<|La U<|Lk U U (y3U (k:=((nth zq zu).fNode)) (v:=i64 ((yg z6a ((nth zq zu).fNode) 0)+1)) y40 Tryz.underlying148 U U U U .h2)<|WL.nil ?_
     exact Ln (yF z6a ((nth zq zu).fNode)<|i64 ((yg z6a ((nth zq zu).fNode) 0)+1)) h (.r9 U U U U U U U U U)<|.s3 .h2 .here .here
    ·replace h:=yr h zuT
     refine WC.skip ?_
     exact Ln z6a h (.r9 U U U U U U U U U)<|.s3 .h1 .h1 .here
   ·rintro z2e h
    replace h:=(zNX z2e).symm.trans h
    refine WC.b<|WC.b ?_
    obtain⟨zNY,h⟩:=yn h
    obtain⟨zuR,zF2,h⟩:=za h
    let E:Value:=(vi ((zq.length:Nat):Int));let F:Value:=(.bool ((decide ((yg z2e ((nth zq zu).fNode) 0)=0))||(decide ((yg z2e ((nth zq zu).fNext) 0)>0))));refine Lx (fun i=>[].contains i) [] U (Lf 0 25 U (fun _=>q_m U) (Lf 1 26 U (fun _=>ya y4h U U) (Lj 2 27 U (yc ys U (yh .h2 U)) (Lj 3 28 U (y2S (k:=((nth zq zu).fNode)) (dflt:=(0:Int)) y40 Tryz.underlying148 y2H U U U .h1) (Lf 4 29 U (fun _=>ybz U U) (Lf 5 30 U (fun _=>q_m U) (Kg (fuel':=33) [(1,(vi z5w)),(2,C),(3,(vp zbu)),(7,(.map (some zbv))),(8,(vi zu)),(9,(vp zg3)),(11,C),(12,E),(13,(vi zu)),(30,(.bool (decide ((yg z2e ((nth zq zu).fNode) 0)=0)))),(36,F)] (y2d 45 [11,10,9,8,7,6,5,4,3,2,1,0]) ?_ (fun zF3=>?_))))))))
    rotate_left
    ·rcases Bool.eq_false_or_eq_true (decide ((yg z2e ((nth zq zu).fNode) 0)=0)) with hb' | hb'
     ·have zuU:=hb';clear hb'
      refine L3 (i:=30) U zuU<|Lp 6 31 U<|Lp 7 32 U<|Lp 8 33 U<|Lp 9 34 U<|Lp 10 35 U<|Lf 11 36 U (fun _=>y4w U U)<|Ly (.a3) ?_ zF3
      exact .r11 U U U U U U U U U (zO<|Eq.symm zuU)<|zO<|y7w zuU
     ·have zuV:=hb';clear hb'
      refine L3 (i:=30) U zuV<|Lf 6 31 U (fun _=>q_m U)<|Lf 7 32 U (fun _=>ya y5I U U)<|Lj 8 33 U (yc ys U<|yh .h2 U)<|Lj 9 34 U (y2S (k:=((nth zq zu).fNext)) (dflt:=(0:Int)) y40 Tryz.underlying148 y2H U U U .h1)<|Lf 10 35 U (fun _=>yec U U)<|Lf 11 36 U (fun _=>y4x U U)<|Ly (.a3) ?_ zF3
      exact .r11 U U U U U U U U U (zO<|Eq.symm zuV)<|zO<|y7x zuV
    let H:=((zX.fM.length:Nat):Int);let D:Value:=(.bool (((decide ((yg z2e ((nth zq zu).fNode) 0)=0))||(decide ((yg z2e ((nth zq zu).fNext) 0)>0)))||(((decide (zu>0))&&(decide (((nth zq zu).fNode)≠((nth zq 0).fNode))))&&(decide (((nth zq zu).fNode)<H)))));refine WD.d #[true,true,true,true,true,true,true,true,true,true,true,true,false,false,false,false,false,false,false,false,false,false,false,false,false,false,false,false,false,false,false,false,false,false,false,false,false,false,false,false,false,false,false,false,false] (by kernel_rfl) (Lf 12 37 U (fun _=>q_m U) (Kg (fuel':=12) [(1,(vi z5w)),(2,C),(3,(vp zbu)),(7,(.map (some zbv))),(9,(vp zg3)),(11,C),(12,E),(13,(vi zu)),(37,F),(57,D)] (y2d 45 [32,31,30,29,28,27,26,25,24,23,22,21,20,19,18,17,16,15,14,13,12,11,10,9,8,7,6,5,4,3,2,1,0]) ?_ (fun zF4=>?_)))
    rotate_left
    ·rcases Bool.eq_false_or_eq_true ((decide ((yg z2e ((nth zq zu).fNode) 0)=0))||(decide ((yg z2e ((nth zq zu).fNext) 0)>0))) with hb' | hb'
     ·have zuW:=hb';clear hb'
      refine L3 (i:=37) U zuW<|Lp 13 38 U<|Lp 14 39 U<|Lp 15 40 U<|Lp 16 41 U<|Lp 17 42 U<|Lp 18 43 U<|Lp 19 44 U<|Lp 20 45 U<|Lp 21 46 U<|Lp 22 47 U<|Lp 23 48 U<|Lp 24 49 U<|Lp 25 50 U<|Lp 26 51 U<|Lp 27 52 U<|Lp 28 53 U<|Lp 29 54 U<|Lp 30 55 U<|Lp 31 56 U<|Lf 32 57 U (fun _=>y4w U U)<|Ly (.a3) ?_ zF4
      exact .r10 U U U U U U U U (zO<|Eq.symm zuW)<|zO<|y7w zuW
     ·have zq6:=hb';clear hb'
      have zNZ:=zNY zq6
      let G:Value:=(.bool ((decide (zu>0))&&(decide (((nth zq zu).fNode)≠((nth zq 0).fNode)))));refine L3 (i:=37) U zq6 (Lf 13 38 U (fun _=>q_m U) (Lf 14 39 U (fun _=>yec U U) (Lf 15 40 U (fun _=>q_m U) (Kg (fuel':=21) [(1,(vi z5w)),(2,C),(3,(vp zbu)),(7,(.map (some zbv))),(9,(vp zg3)),(11,C),(12,E),(13,(vi zu)),(37,(.bool false)),(40,(.bool (decide (zu>0)))),(48,G)] (y2d 45 [23,22,21,20,19,18,17,16,15,14,13,12,11,10,9,8,7,6,5,4,3,2,1,0]) ?_ (fun zF5=>?_)))))
      rotate_left
      ·rcases Bool.eq_false_or_eq_true (decide (zu>0)) with hb' | hb'
       ·have zq7:=hb';clear hb'
        have zO0:=zNZ zq7
        refine L3 (i:=40) U zq7<|Lf 16 41 U (fun _=>ya y4h U U)<|Lj 17 42 U (yc ys U<|yh .h2 U)<|Lf 18 43 U (fun _=>q_m U)<|L7 (j:=19) (dd:=44) (by kernel_rfl) U z2j z2k U U (Z:=Z) (Pr:=(fun r x=>r=e60 x)) y65 U U zF1 zO0 ?_
        rintro z14u z14v zO1 z14w rfl
        refine Lf 20 45 U (fun _=>ya y4h U U)<|Lj 21 46 U (yc ys U<|y1c hz.pv zO1 U)<|Lf 22 47 U (fun _=>q_neq U U)<|Lf 23 48 U (fun _=>y4w U U)<|Ly (.a3) ?_ zF5
        exact .r11 U U U U U U U U U (zO<|Eq.symm zq7)<|zO<|y3v zq7
       ·have zuX:=hb';clear hb'
        refine L3 (i:=40) U zuX<|Lp 16 41 U<|Lp 17 42 U<|Lp 18 43 U<|Lp 19 44 U<|Lp 20 45 U<|Lp 21 46 U<|Lp 22 47 U<|Lf 23 48 U (fun _=>y4x U U)<|Ly (.a3) ?_ zF5
        exact .r11 U U U U U U U U U (zO<|Eq.symm zuX)<|zO<|y3u zuX
      refine WD.d #[true,true,true,true,true,true,true,true,true,true,true,true,true,true,true,true,true,true,true,true,true,true,true,true,false,false,false,false,false,false,false,false,false,false,false,false,false,false,false,false,false,false,false,false,false] (by kernel_rfl)<|Lf 24 49 U (fun _=>q_m U)<|Kg (fuel':=13) [(1,(vi z5w)),(2,C),(3,(vp zbu)),(7,(.map<|some zbv)),(9,(vp zg3)),(11,C),(12,E),(13,(vi zu)),(37,(.bool false)),(49,G),(56,(.bool<|((decide (zu>0))&&(decide (((nth zq zu).fNode)≠((nth zq 0).fNode))))&&(decide (((nth zq zu).fNode)<H))))] (y2d 45 [31,30,29,28,27,26,25,24,23,22,21,20,19,18,17,16,15,14,13,12,11,10,9,8,7,6,5,4,3,2,1,0]) ?_<|fun zF6=>?_
      rotate_left
      ·rcases Bool.eq_false_or_eq_true ((decide (zu>0))&&(decide (((nth zq zu).fNode)≠((nth zq 0).fNode)))) with hb' | hb'
       ·have zuY:=hb';clear hb'
        refine L3 (i:=49) U zuY<|Lf 25 50 U (fun _=>ya y4h U U)<|Lj 26 51 U (yc ys U<|yh .h2 U)<|Lf 27 52 U (fun _=>ya y7a U U)<|Lj 28 53 U (yc y7b U<|yh .here U)<|Lf 29 54 U (fun _=>yI Tryz.underlying22 U)<|Lf 30 55 U (fun _=>q_lss U U)<|Lf 31 56 U (fun _=>y4w U U)<|Ly (.a3) ?_ zF6
        exact .r11 U U U U U U U U U (zO<|Eq.symm zuY)<|zO<|y3v zuY
       ·have zuZ:=hb';clear hb'
        refine L3 (i:=49) U zuZ<|Lp 25 50 U<|Lp 26 51 U<|Lp 27 52 U<|Lp 28 53 U<|Lp 29 54 U<|Lp 30 55 U<|Lf 31 56 U (fun _=>y4x U U)<|Ly (.a3) ?_ zF6
        exact .r11 U U U U U U U U U (zO<|Eq.symm zuZ)<|zO<|y3u zuZ
      refine WD.d #[true,true,true,true,true,true,true,true,true,true,true,true,true,true,true,true,true,true,true,true,true,true,true,true,true,true,true,true,true,true,true,true,false,false,false,false,false,false,false,false,false,false,false,false,false] (by kernel_rfl)<|Lf 32 57 U (fun _=>y4x U U)<|Ly (.a3) ?_ zF4
      exact .r10 U U U U U U U U (zO<|Eq.symm zq6)<|zO<|y7x zq6
    refine WD.d #[true,true,true,true,true,true,true,true,true,true,true,true,true,true,true,true,true,true,true,true,true,true,true,true,true,true,true,true,true,true,true,true,true,false,false,false,false,false,false,false,false,false,false,false,false] (by kernel_rfl)<|Lf 33 58 U (fun _=>q_m U)<|Kg (fuel':=0) [(1,(vi z5w)),(2,C),(3,(vp zbu)),(7,(.map<|some zbv)),(9,(vp zg3)),(11,C),(12,E),(13,(vi zu)),(58,D),(69,(.bool zuR))] (y2d 45 [44,43,42,41,40,39,38,37,36,35,34,33,32,31,30,29,28,27,26,25,24,23,22,21,20,19,18,17,16,15,14,13,12,11,10,9,8,7,6,5,4,3,2,1,0]) ?_<|fun zF7=>?_
    rotate_left
    ·rcases Bool.eq_false_or_eq_true (((decide ((yg z2e ((nth zq zu).fNode) 0)=0))||(decide ((yg z2e ((nth zq zu).fNext) 0)>0)))||(((decide (zu>0))&&(decide (((nth zq zu).fNode)≠((nth zq 0).fNode))))&&(decide (((nth zq zu).fNode)<H)))) with hb' | hb'
     ·have zv0:=hb';clear hb'
      have zv1:=yq zF2 zv0
      replace zv1:=oJ zv1
      refine L3 (i:=58) U zv0<|Lp 34 59 U<|Lp 35 60 U<|Lp 36 61 U<|Lp 37 62 U<|Lp 38 63 U<|Lp 39 64 U<|Lp 40 65 U<|Lp 41 66 U<|Lp 42 67 U<|Lp 43 68 U<|Lf 44 69 U (fun _=>y4w U U)<|Ly (.a3) ?_ zF7
      exact .r10 U U U U U U U U (zO<|Eq.symm zv0)<|zO zv1
     ·have zv2:=hb';clear hb'
      have zmu:=yr zF2 zv2
      obtain⟨zF0,zO2,zmu⟩:=za zmu
      replace zmu:=oJ zmu
      refine L3 (i:=58) U zv2<|Lj 34 59 U (yi y1E U (yk .here) U)<|Lf 35 60 U (fun _=>q_m U)<|Lf 36 61 U (fun _=>ya y8B U U)<|Lj 37 62 U (yc ys U<|yh .h2 U)<|Lf 38 63 U (fun _=>ya y4h U U)<|Lj 39 64 U (yc ys U<|yh .h2 U)<|Lf 40 65 U (fun _=>ya y5I U U)<|Lj 41 66 U (yc ys U<|yh .h2 U)<|L4 42 67 U (zb Tryz.call93<|.r5 U U U U U) (cc hz .nil fun w pz ho=>yep zO2 w pz zNM zNN zNO zNP zNQ zNR zNS zNT)<|Lf 43 68 U (fun _=>q_not U)<|Lf 44 69 U (fun _=>y4x U U)<|Ly (.a3) ?_ zF7
      exact .r10 U U U U U U U U (zO<|Eq.symm zv2)<|zO zmu
    refine WD.d #[true,true,true,true,true,true,true,true,true,true,true,true,true,true,true,true,true,true,true,true,true,true,true,true,true,true,true,true,true,true,true,true,true,true,true,true,true,true,true,true,true,true,true,true,true] (by kernel_rfl)<|WD.done (by kernel_rfl)<|Lb<|WC.cond U (fun zv3=>?_)<|fun zv3=>?_
    ·replace h:=yq h zv3
     refine WC.b<|Ld<|La U<|WL.nil<|Lb<|WC.ret<|Li<|Lq<|Li<|Li<|Lq<|Li ?_
     obtain rfl:=oJ h
     refine Lh Tryz.results52 (.tmp U .nil)<|fun w hw=>?_
     exact⟨yC U,hw.sub .nil⟩
    ·replace h:=yr h zv3
     refine WC.skip<|Lb<|Ld<|La U<|Le 71 (ya y5I U U)<|Le 72 (yc ys U<|yh .h2 U)<|Le 73 (y2S (k:=((nth zq zu).fNext)) (dflt:=(0:Int)) y40 Tryz.underlying148 y2H U U U .h1)<|La U<|Lk U U (y3U (k:=((nth zq zu).fNext)) (v:=i64 ((yg z2e ((nth zq zu).fNext) 0)+1)) y40 Tryz.underlying148 U U U U .h1)<|WL.nil<|Lt<|Lb<|Ld<|La U<|La U<|WL.nil ?_
     exact WX.round ⟨zuQ,(i64 (zu+1)),(yF z2e ((nth zq zu).fNext)<|i64 ((yg z2e ((nth zq zu).fNext) 0)+1))⟩ h (Nat.lt_succ_self _) (.r7 U U U U U U U)<|.s2 .h1 .here
  ·replace h:=yr h zuS
   refine WC.exit<|Lm<|Lm<|Lu ?_
   exact Ln () h (.cons U .nil) .nil
 ·rintro  h
  replace h:=zNU.symm.trans h
  refine WC.b<|Ld<|La U<|Le 77 (yI Tryz.underlying58 U)<|La U<|La U<|WL.nil<|Lb<|WC.ret ?_
  obtain rfl:=oJ h
  refine Lh Tryz.results52 (.tmp U .nil)<|fun w hw=>?_
  exact⟨yC U,hw.sub .nil⟩
def y1y(zmv:List zd)(z4A:zp)(zq8:Int):Option Bool:=
 (y68 z4A zq8 zmv).bind fun zF8=>some (!zF8)
theorem ydt{Z:Zp}{zF9:Option Addr}{zFa:Nat}{zFb:Addr}{zFc:Option Addr}{zFd:Nat}{zFe:Option Addr}{zFf:Nat}{zFg:Option Addr}{zFh:Nat}{zFi:Option Addr}{zFj:Nat}{zFk:Option Addr}{zFl:Nat}{zFm:Option Addr}{zFn:Nat}{zFo:Option Addr}{zFp:Nat}{zFq:Option Addr}{zFr:Nat}{zFs:Addr}{zmv:List zd}{z4A:zp}{zq8:Int}{r:Bool}(h:y1y zmv z4A zq8=some r)(w₀:World)(hz:PZ [] w₀ Z)(zO3:ZS Z 3 (fun r x=>r=e60 x) zF9 zFa zmv)(zO4:ZS Z 4 (y3y Z) zFc zFd z4A.fM)(zO5:ZS Z 4 (y4k Z) zFe zFf z4A.fC0)(zO6:ZS Z 4 (fun r x=>r=e64 x) zFg zFh z4A.fS)(zO7:ZS Z 4 (fun r x=>r=e62 x) zFi zFj z4A.fK)(zO8:ZS Z 7 (p69 Z) zFk zFl z4A.fVLs)(zO9:ZS Z 5 (fun r x=>r=y4t x) zFm zFn z4A.fH)(zOa:ZS Z 3 (y4l Z) zFo zFp z4A.fU)(zOb:ZS Z 4 (fun r x=>r=y4u x) zFq zFr z4A.fV0)(zOc:ZC Z zFb [(.slice zFc z4A.fM.length zFd),(.slice zFe z4A.fC0.length zFf),(.slice zFg z4A.fS.length zFh),(.slice zFi z4A.fK.length zFj),(.slice zFk z4A.fVLs.length zFl),(.slice zFm z4A.fH.length zFn),(.slice zFo z4A.fU.length zFp),(.slice zFq z4A.fV0.length zFr)])(zOd:ZC Z zFs [(vi zq8)]):
  Calls Tryz.prog 51 #[(.slice zF9 zmv.length zFa),(vq zFb),(vq zFs)] w₀ fun e w'=>e = .returned (.bool r)∧Hp [] w₀ w' []:=by
 unfold y1y at h
 refine Ke Tryz.func51 Tryz.ntmps51 ?_
 refine WC.b<|Ld<|La U<|WL.nil<|Lb<|WC.b ?_
 obtain⟨zF8,zOe,h⟩:=za h
 refine Ld<|Le 5 (yi y1E U (y2l hz.pv zOc) U)<|Le 6 (yc ys U<|y3C hz.pv zOd U)<|La U<|Ll 8 (zb Tryz.call52<|.r3 U U U) .nil (cc hz .nil fun w pz ho=>yeq zOe w pz zO4 zO5 zO6 zO7 zO8 zO9 zOa zOb zO3)<|La U<|La U<|WL.nil<|Lb<|WC.ret ?_
 obtain rfl:=oJ h
 refine Lh Tryz.results51 (.tmp U .nil)<|fun w hw=>?_
 exact⟨yC U,hw.sub .nil⟩
def yP(z6b:List (List zd))(z9m:(List zd)→Option Bool)(zbw:Option Int):Nat→Int→Option Int
 | 0,_=>none
 | zv4+1,z5z=>if decide (z5z<((z6b.length:Nat):Int)) then chk ((0:Int)≤z5z∧z5z<((z6b.length:Nat):Int)) ((z9m (nth z6b z5z)).bind fun zv5=>if zv5 then some z5z else yP z6b z9m zbw zv4 (i64 (z5z+1))) else zbw
theorem y5W{n:Nat}{z6b:List (List zd)}{z9m:(List zd)→Option Bool}{zbw:Option Int}{z5z:Int}{r:Int}(h:yP z6b z9m zbw n z5z=some r):∃ m,n=m+1:=by
 cases n with
 | zero=>cases h
 | succ m=>exact⟨m,rfl⟩
def y1S(z6b:List (List zd))(z9m:(List zd)→Option Bool):Option Int:=
 jp0 (some (-1)) fun zbw=>yP z6b z9m zbw yx 0
theorem y7f(Z:Zp)(zv6:Option Addr)(zv7:Nat)(zg4:FuncId)(zmw:List Value)(z6b:List (List zd))(z9m:(List zd)→Option Bool)(r:Int)(h:y1S z6b z9m=some r)(w₀:World)(hz:PZ [] w₀ Z)(zOf:ZS Z 1 (p58 Z) zv6 zv7 z6b)(zOg:∀ args w,(callFunc zg4 args).run Tryz.prog w = .ok (.enter zg4 args) w)(zOh:∀ w:World,PZ [] w Z→∀(x0:List zd) (ao0:Option Addr) (cap0:Nat) (r:Bool),ZS Z 3 (fun r x=>r=e60 x) ao0 cap0 x0→z9m x0=some r→Calls Tryz.prog zg4 (([(.slice ao0 x0.length cap0)]:List Value)++zmw).toArray w fun e w'=>e = .returned (.bool r)∧Hp [] w w' []):
  Calls Tryz.prog 92 #[(.slice zv6 z6b.length zv7),(.func (.func zg4) #[] (zmw).toArray)] w₀ fun e w'=>e = .returned (vi r)∧Hp [] w₀ w' []:=by
 unfold y1S at h
 refine Lz Tryz.func92 Tryz.ntmps92 ?_
 refine WC.b<|Ld<|La U<|WL.nil<|Lb ?_
 obtain⟨zbw,zOi,h⟩:=y1G h
 refine L8 ((zbw=some r)) ([]) ([]) ?_ ?_
 ·skip
  refine WC.b<|Ld<|La U<|Le 7 (yI Tryz.underlying32 U)<|La U<|WL.nil<|Lb<|WC.block<|L9 (fun(zio:Nat) (z5z:Int)=>(yP z6b z9m zbw zio z5z=some r)) (fun zio z5z=>[(0,(.slice zv6 z6b.length zv7)),(1,(.func (.func zg4) #[] (zmw).toArray)),(7,(vi ((z6b.length:Nat):Int))),(8,(vi z5z))]) (fun zio z5z=>[]) (fun zio z5z=>zio) ⟨yx,0⟩ h (.r4 U U U U) .nil ?_
  rintro zio z5z h
  obtain⟨zv4,rfl⟩:=y5W h
  rw[yP] at h
  refine WC.b<|Ld<|La U<|WL.nil<|Lb<|WC.b<|WC.cond U (fun zv8=>?_)<|fun zv8=>?_
  ·replace h:=yq h zv8
   refine WC.skip<|Lb<|WC.b<|WC.block<|WC.b<|Ld<|La U<|La U<|WL.nil<|Lb<|WC.b ?_
   obtain⟨zOj,h⟩:=yn h
   obtain⟨zv5,zOk,h⟩:=za h
   refine Ld<|La U<|La U<|La U<|L0 (dd:=14) U U (Z:=Z) (Pr:=(p58 Z)) y71 U U zOf zOj ?_
   rintro z14x z14y zOl z14z ⟨zOm,zOn,rfl,zOo⟩
   refine Le 15 (yc y7c U<|y3C hz.pv zOl U)<|Ll 16 (y2J (l:=[.tmp 15]) (f:=zg4) (caps:=zmw) zOg U<|.cons U .nil) .nil (fun w hw=>zOh w (hz.now hw) (nth z6b z5z) zOm zOn zv5 zOo zOk)<|WL.nil<|Lb<|WC.cond U (fun zv9=>?_)<|fun zv9=>?_
   ·replace h:=yq h zv9
    refine WC.b<|Ld<|La U<|La U<|WL.nil<|Lb<|WC.ret<|Lq<|Li<|Li<|Lq<|Li ?_
    obtain rfl:=oJ h
    refine Lh Tryz.results92 (.tmp U .nil)<|fun w hw=>?_
    exact⟨yC U,hw.sub .nil⟩
   ·replace h:=yr h zv9
    refine WC.skip<|Lt<|Lb<|Ld<|La U<|La U<|WL.nil ?_
    exact WX.round ⟨zv4,(i64 (z5z+1))⟩ h (Nat.lt_succ_self _) (.r4 U U U U) .nil
  ·replace h:=yr h zv8
   refine WC.exit<|Lm<|Lm<|Lu ?_
   exact Ln () h .nil .nil
 ·rintro  h
  replace h:=zOi.symm.trans h
  refine WC.b<|Ld<|La U<|WL.nil<|Lb<|WC.ret ?_
  obtain rfl:=oJ h
  refine Lh Tryz.results92 (.tmp U .nil)<|fun w hw=>?_
  exact⟨yC U,hw.sub .nil⟩
def y16(zmx:List (List zd))(zg5:(List zd)→Option Bool):Option Bool:=
 (y1S zmx zg5).bind fun zFt=>some (decide (zFt≥0))
theorem y4N(Z:Zp)(zFu:Option Addr)(zFv:Nat)(zg6:FuncId)(zmy:List Value)(zmx:List (List zd))(zg5:(List zd)→Option Bool)(r:Bool)(h:y16 zmx zg5=some r)(w₀:World)(hz:PZ [] w₀ Z)(zOp:ZS Z 1 (p58 Z) zFu zFv zmx)(zOq:∀ args w,(callFunc zg6 args).run Tryz.prog w = .ok (.enter zg6 args) w)(zOr:∀ w:World,PZ [] w Z→∀(x0:List zd) (ao0:Option Addr) (cap0:Nat) (r:Bool),ZS Z 3 (fun r x=>r=e60 x) ao0 cap0 x0→zg5 x0=some r→Calls Tryz.prog zg6 (([(.slice ao0 x0.length cap0)]:List Value)++zmy).toArray w fun e w'=>e = .returned (.bool r)∧Hp [] w w' []):
  Calls Tryz.prog 50 #[(.slice zFu zmx.length zFv),(.func (.func zg6) #[] (zmy).toArray)] w₀ fun e w'=>e = .returned (.bool r)∧Hp [] w₀ w' []:=by
 unfold y16 at h
 refine Lz Tryz.func50 Tryz.ntmps50 ?_
 refine WC.b<|Ld<|La U<|WL.nil<|Lb<|WC.b ?_
 obtain⟨zFt,zOs,h⟩:=za h
 refine Ld<|La U<|La U<|Ll 7 (zb Tryz.call92<|.r2 U U) .nil (cc hz .nil fun w pz ho=>y7f _ _ _ (zg4:=zg6) (zmw:=zmy) _ (z9m:=zg5) _ zOs w pz zOp zOq zOr)<|La U<|La U<|WL.nil<|Lb<|WC.ret ?_
 obtain rfl:=oJ h
 refine Lh Tryz.results50 (.tmp U .nil)<|fun w hw=>?_
 exact⟨yC U,hw.sub .nil⟩
def y4b(z2c:zp)(z7A:Int)(za5:List (List zd)):Option Bool:=
 (if (((decide (z7A=0))||(decide (z7A=1)))&&(decide (((za5.length:Nat):Int)=((z2c.fVLs.length:Nat):Int))))&&(decide (((za5.length:Nat):Int)≤16)) then(y16 za5 (fun(y0:List zd)=>y1y y0 z2c z7A)).bind fun zFw=>some (!zFw) else some false).bind fun zva=>some zva
theorem y7m{Z:Zp}{zvb:Option Addr}{zvc:Nat}{zvd:Option Addr}{zve:Nat}{zvf:Option Addr}{zvg:Nat}{zvh:Option Addr}{zvi:Nat}{zvj:Option Addr}{zvk:Nat}{zvl:Option Addr}{zvm:Nat}{zvn:Option Addr}{zvo:Nat}{zvp:Option Addr}{zvq:Nat}{zFx:Option Addr}{zFy:Nat}{z2c:zp}{z7A:Int}{za5:List (List zd)}{r:Bool}(h:y4b z2c z7A za5=some r)(w₀:World)(hz:PZ [] w₀ Z)(zOt:ZS Z 4 (y3y Z) zvb zvc z2c.fM)(zOu:ZS Z 4 (y4k Z) zvd zve z2c.fC0)(zOv:ZS Z 4 (fun r x=>r=e64 x) zvf zvg z2c.fS)(zOw:ZS Z 4 (fun r x=>r=e62 x) zvh zvi z2c.fK)(zOx:ZS Z 7 (p69 Z) zvj zvk z2c.fVLs)(zOy:ZS Z 5 (fun r x=>r=y4t x) zvl zvm z2c.fH)(zOz:ZS Z 3 (y4l Z) zvn zvo z2c.fU)(zOA:ZS Z 4 (fun r x=>r=y4u x) zvp zvq z2c.fV0)(zOB:ZS Z 1 (p58 Z) zFx zFy za5):
  Calls Tryz.prog 22 #[(.agg #[(.slice zvb z2c.fM.length zvc),(.slice zvd z2c.fC0.length zve),(.slice zvf z2c.fS.length zvg),(.slice zvh z2c.fK.length zvi),(.slice zvj z2c.fVLs.length zvk),(.slice zvl z2c.fH.length zvm),(.slice zvn z2c.fU.length zvo),(.slice zvp z2c.fV0.length zvq)]),(vi z7A),(.slice zFx za5.length zFy)] w₀ fun e w'=>e = .returned (.bool r)∧Hp [] w₀ w' []:=by
 unfold y4b at h
 refine Ke Tryz.func22 Tryz.ntmps22 ?_
 refine WC.b<|Ld (Lg 3 (yH (cs:=[(.slice zvb z2c.fM.length zvc),(.slice zvd z2c.fC0.length zve),(.slice zvf z2c.fS.length zvg),(.slice zvh z2c.fK.length zvi),(.slice zvj z2c.fVLs.length zvk),(.slice zvl z2c.fH.length zvm),(.slice zvn z2c.fU.length zvo),(.slice zvp z2c.fV0.length zvq)]) U U) fun zOC _=>Lg 4 (yH (cs:=[(vi z7A)]) U U) fun zOD _=>La U<|WL.nil<|Lb<|WC.b ?_)
 obtain⟨zva,zFz,h⟩:=za h
 refine Ld<|Le 7 (yc ys U<|yh .here U)<|La U<|La U<|Lv false 2 9 (B:=(decide (z7A=0))||(decide (z7A=1))) U U U U U U (fun h=>(y7w h).symm) (fun _ zOE=>?_) ?_
 ·skip
  refine Le 10 (yc ys U<|yh .here U)<|La U<|La U ?_
  exact Lw (y7x zOE) U U .all
 let A:=((z2c.fVLs.length:Nat):Int);refine La U (Lv true 6 13 (B:=((decide (z7A=0))||(decide (z7A=1)))&&(decide (((za5.length:Nat):Int)=A))) U U U U U U (fun h=>(y3u h).symm) (fun _ zOF=>?_) ?_)
 ·skip
  refine La U<|Le 15 (yI Tryz.underlying32 U)<|Le 16 (ya y5a U U)<|Le 17 (yc y5p U<|yh .h1 U)<|Le 18 (yI Tryz.underlying26 U)<|La U<|La U ?_
  exact Lw (y3v zOF) U U .all
 refine La U<|Lv true 3 21 (B:=(((decide (z7A=0))||(decide (z7A=1)))&&(decide (((za5.length:Nat):Int)=A)))&&(decide (((za5.length:Nat):Int)≤16))) U U U U U U (fun h=>(y3u h).symm) (fun _ zOG=>?_) ?_
 ·skip
  refine La U<|Le 23 (yI Tryz.underlying32 U)<|La U<|La U ?_
  exact Lw (y3v zOG) U U .all
 refine La U<|Lv true 4 26 (B:=zva) U U U U U U (fun h=>(oJ<|yr zFz h).symm) (fun _ zOH=>?_) ?_
 ·skip
  have zmz:=yq zFz zOH
  obtain⟨zFw,zOI,zmz⟩:=za zmz
  replace zmz:=oJ zmz
  refine La U<|Le 28 (y14<|L2 (l:=[.tmp 3,.tmp 4])<|.r2 U U)<|Ll 29 (zb Tryz.call50<|.r2 U U) .nil (ccl hz .nil (.s2 .h1 .here) fun w pz ho la=>y4N _ _ _ (zg6:=51) (zmy:=[(vp zOC),(vp zOD)]) _ (zg5:=(fun(y0:List zd)=>y1y y0 z2c z7A)) _ zOI w pz ((zOB.mono<|Zle.left _ _).weak (fun _ _ h=>y1t (Zle.left _ _) h)) Tryz.call51<|fun w' hz' y0 ga0 gc0 r gh0 hr=>ydt hr w' hz' gh0 ((zOt.mono<|Zle.left _ _).weak (fun _ _ h=>y1a (Zle.left _ _) h)) ((zOu.mono<|Zle.left _ _).weak (fun _ _ h=>y1i (Zle.left _ _) h)) (zOv.mono<|Zle.left _ _) (zOw.mono<|Zle.left _ _) ((zOx.mono<|Zle.left _ _).weak (fun _ _ h=>y15 (Zle.left _ _) h)) (zOy.mono<|Zle.left _ _) ((zOz.mono<|Zle.left _ _).weak (fun _ _ h=>y1j (Zle.left _ _) h)) (zOA.mono<|Zle.left _ _) ((la _ (.head _) _).stb)<|(la _ (.tail _<|.head _) _).stb)<|La U<|La U ?_
  exact Lw zmz U U .all
 refine La U<|WL.nil<|Lb<|WC.ret ?_
 obtain rfl:=oJ h
 refine Lh Tryz.results22 (.tmp U .nil)<|fun w hw=>?_
 exact⟨yC U,hw.sub .nil⟩
def y4Q(z8D:zd):Option z8:=
 some (⟨z8D.fNode,z8D.fQ⟩:z8)
theorem y69{Z:Zp}{z8D:zd}{r:z8}(h:y4Q z8D=some r)(w₀:World)(hz:PZ [] w₀ Z):
  Calls Tryz.prog 60 #[(.agg #[(vi z8D.fNode),(vi z8D.fNext),(vi z8D.fQ)])] w₀ fun e w'=>e = .returned (.agg #[(vi r.fNode),(vi r.fQ)])∧Hp [] w₀ w' []:=by
 unfold y4Q at h
 refine L5 Tryz.func60 Tryz.ntmps60 ?_
 refine WC.b<|Ld (Lg 1 (yH (cs:=[(vi z8D.fNode),(vi z8D.fNext),(vi z8D.fQ)]) U U) fun z14A _=>Lg 2 (yv (cs:=[(vi 0),(vi 0)]) zm7 U) fun z14B _=>WL.nil<|Lb<|WC.b<|Ld<|Le 3 (ya y4h U U)<|Le 4 (yc ys U<|yh .h1 U)<|Le 5 (ya y8B U U)<|Le 6 (yc ys U<|yh .h1 U)<|Le 7 (yL (v:=(.agg #[(vi z8D.fNode),(vi z8D.fQ)])) (Lo (l:=[.tmp 4,.tmp 6]) (.r2 U U) [0,1]) (fun _=>by kernel_rfl))<|Lk U U (yl zpC U U U .here U U U)<|WL.nil<|Lb<|WC.ret ?_)
 obtain rfl:=oJ h
 refine Lh Tryz.results60 (.agg U z5v U (yk .here) .nil)<|fun w hw=>?_
 exact⟨yC U,hw.sub .nil⟩
def yY(z4Y:List z8)(z6c:z8)(zbx:Option Int):Nat→Int→Option Int
 | 0,_=>none
 | zvr+1,z4B=>if decide (z4B<((z4Y.length:Nat):Int)) then chk ((0:Int)≤z4B∧z4B<((z4Y.length:Nat):Int)) (if decide (z6c=(⟨((nth z4Y z4B).fNode),((nth z4Y z4B).fQ)⟩:z8)) then some z4B else yY z4Y z6c zbx zvr (i64 (z4B+1))) else zbx
theorem y5X{n:Nat}{z4Y:List z8}{z6c:z8}{zbx:Option Int}{z4B:Int}{r:Int}(h:yY z4Y z6c zbx n z4B=some r):∃ m,n=m+1:=by
 cases n with
 | zero=>cases h
 | succ m=>exact⟨m,rfl⟩
def y2t(z4Y:List z8)(z6c:z8):Option Int:=
 jp0 (some (-1)) fun zbx=>yY z4Y z6c zbx yx 0
theorem y7g{Z:Zp}{zvs:Option Addr}{zvt:Nat}{z4Y:List z8}{z6c:z8}{r:Int}(h:y2t z4Y z6c=some r)(w₀:World)(hz:PZ [] w₀ Z)(zOJ:ZS Z 2 (fun r x=>r=yD x) zvs zvt z4Y):
  Calls Tryz.prog 157 #[(.slice zvs z4Y.length zvt),(.agg #[(vi z6c.fNode),(vi z6c.fQ)])] w₀ fun e w'=>e = .returned (vi r)∧Hp [] w₀ w' []:=by
 unfold y2t at h
 refine Lz Tryz.func157 Tryz.ntmps157 ?_
 refine WC.b<|Ld (Lg 3 (yH (cs:=[(vi z6c.fNode),(vi z6c.fQ)]) U U) fun zFA _=>La U<|WL.nil<|Lb ?_)
 obtain⟨zbx,zOK,h⟩:=y1G h
 refine L8 ((zbx=some r)) ([]) ([]) ?_ ?_
 ·skip
  refine WC.b<|Ld<|La U<|Le 7 (yI Tryz.underlying112 U)<|La U<|WL.nil<|Lb<|WC.block<|L9 (fun(ziq:Nat) (z4B:Int)=>(yY z4Y z6c zbx ziq z4B=some r)) (fun ziq z4B=>[(0,(.slice zvs z4Y.length zvt)),(3,(vp zFA)),(7,(vi ((z4Y.length:Nat):Int))),(8,(vi z4B))]) (fun ziq z4B=>[stb zFA 121 [(vi z6c.fNode),(vi z6c.fQ)]]) (fun ziq z4B=>ziq) ⟨yx,0⟩ h (.r4 U U U U) (.cons .here .nil) ?_
  rintro ziq z4B h
  obtain⟨zvr,rfl⟩:=y5X h
  rw[yY] at h
  refine WC.b<|Ld<|La U<|WL.nil<|Lb<|WC.b<|WC.cond U (fun zvu=>?_)<|fun zvu=>?_
  ·replace h:=yq h zvu
   refine WC.skip<|Lb<|WC.b<|WC.block<|WC.b<|Ld<|La U<|La U<|WL.nil<|Lb<|WC.b ?_
   obtain⟨zOL,h⟩:=yn h
   refine Lx (fun i=>[].contains i) [] U<|Lj 0 11 U (yi z5v U (yk .here) U)<|Lf 1 12 U (fun _=>q_m U)<|Lf 2 13 U (fun _=>q_m U)<|L7 (j:=3) (dd:=14) (by kernel_rfl) U z2j z2k U U (Z:=Z) (Pr:=(fun r x=>r=yD x)) z7y U U zOJ zOL ?_
   rintro z14C z14D zOM z14E rfl
   refine Lj 4 15 U (yi z5v U (y2l hz.pv zOM) U)<|Lf 5 16 U (fun _=>y96 (enc:=yD) (a:=z6c) (b:=(⟨((nth z4Y z4B).fNode),((nth z4Y z4B).fQ)⟩:z8)) zpD U U)<|WD.done (by kernel_rfl)<|Lb<|WC.cond U (fun zvv=>?_)<|fun zvv=>?_
   ·replace h:=yq h zvv
    refine WC.b<|Ld<|La U<|La U<|WL.nil<|Lb<|WC.ret<|Lq<|Li<|Li<|Lq<|Li ?_
    obtain rfl:=oJ h
    refine Lh Tryz.results157 (.tmp U .nil)<|fun w hw=>?_
    exact⟨yC U,hw.sub .nil⟩
   ·replace h:=yr h zvv
    refine WC.skip<|Lt<|Lb<|Ld<|La U<|La U<|WL.nil ?_
    exact WX.round ⟨zvr,(i64 (z4B+1))⟩ h (Nat.lt_succ_self _) (.r4 U U U U)<|.cons .here .nil
  ·replace h:=yr h zvu
   refine WC.exit<|Lm<|Lm<|Lu ?_
   exact Ln () h .nil .nil
 ·rintro  h
  replace h:=zOK.symm.trans h
  refine WC.b<|Ld<|La U<|WL.nil<|Lb<|WC.ret ?_
  obtain rfl:=oJ h
  refine Lh Tryz.results157 (.tmp U .nil)<|fun w hw=>?_
  exact⟨yC U,hw.sub .nil⟩
def y1C(zmA:List z8)(zg7:z8):Option Bool:=
 (y2t zmA zg7).bind fun zFB=>some (decide (zFB≥0))
theorem y6H{Z:Zp}{zFC:Option Addr}{zFD:Nat}{zmA:List z8}{zg7:z8}{r:Bool}(h:y1C zmA zg7=some r)(w₀:World)(hz:PZ [] w₀ Z)(zON:ZS Z 2 (fun r x=>r=yD x) zFC zFD zmA):
  Calls Tryz.prog 114 #[(.slice zFC zmA.length zFD),(.agg #[(vi zg7.fNode),(vi zg7.fQ)])] w₀ fun e w'=>e = .returned (.bool r)∧Hp [] w₀ w' []:=by
 unfold y1C at h
 refine Lz Tryz.func114 Tryz.ntmps114 ?_
 refine WC.b<|Ld (Lg 3 (yH (cs:=[(vi zg7.fNode),(vi zg7.fQ)]) U U) fun z14F _=>La U<|WL.nil<|Lb<|WC.b ?_)
 obtain⟨zFB,zOO,h⟩:=za h
 refine Ld<|La U<|Le 6 (yi z5v U (yk .here) U)<|Ll 7 (zb Tryz.call157<|.r2 U U) .nil (cc hz .nil fun w pz ho=>y7g zOO w pz zON)<|La U<|La U<|WL.nil<|Lb<|WC.ret ?_
 obtain rfl:=oJ h
 refine Lh Tryz.results114 (.tmp U .nil)<|fun w hw=>?_
 exact⟨yC U,hw.sub .nil⟩
def y6a(zmB:Int):Option Bool:=
 some (decide (zmB≠zmB))
theorem yb0{Z:Zp}{zmB:Int}{r:Bool}(h:y6a zmB=some r)(w₀:World)(hz:PZ [] w₀ Z):
  Calls Tryz.prog 131 #[(vi zmB)] w₀ fun e w'=>e = .returned (.bool r)∧Hp [] w₀ w' []:=by
 unfold y6a at h
 refine L5 Tryz.func131 Tryz.ntmps131 ?_
 refine WC.b<|Ld<|La U<|WL.nil<|Lb<|WC.b<|Ld<|La U<|La U<|La U<|La U<|WL.nil<|Lb<|WC.ret ?_
 obtain rfl:=oJ h
 refine Lh Tryz.results131 (.tmp U .nil)<|fun w hw=>?_
 exact⟨yC U,hw.sub .nil⟩
def y51(zir:Int)(zis:Int):Option Int:=
 (y6a zir).bind fun zFE=>(y6a zis).bind fun zvw=>if zFE then if zvw then some 0 else some (-1) else if zvw then some 1 else if decide (zir<zis) then some (-1) else if decide (zir>zis) then some 1 else some 0
theorem ya1{Z:Zp}{zir:Int}{zis:Int}{r:Int}(h:y51 zir zis=some r)(w₀:World)(hz:PZ [] w₀ Z):
  Calls Tryz.prog 85 #[(vi zir),(vi zis)] w₀ fun e w'=>e = .returned (vi r)∧Hp [] w₀ w' []:=by
 unfold y51 at h
 refine Lz Tryz.func85 Tryz.ntmps85 ?_
 refine WC.b<|Ld<|La U<|WL.nil<|Lb<|WC.b ?_
 obtain⟨zFE,zOP,h⟩:=za h
 refine Ld<|La U<|Ll 8 (zb Tryz.call131<|.cons U .nil) .nil (cc hz .nil fun w pz ho=>yb0 zOP w pz )<|La U<|WL.nil<|Lb<|WC.b ?_
 obtain⟨zvw,zOQ,h⟩:=za h
 refine Ld<|La U<|Ll 10 (zb Tryz.call131<|.cons U .nil) .nil (cc hz .nil fun w pz ho=>yb0 zOQ w pz )<|La U<|WL.nil<|Lb<|WC.b<|WC.b<|Ld<|La U<|WL.nil<|Lb<|WC.cond U (fun zvx=>?_)<|fun zvx=>?_
 ·replace h:=yq h zvx
  refine WC.b<|WC.b<|Ld<|La U<|WL.nil<|Lb<|WC.cond U (fun zvy=>?_)<|fun zvy=>?_
  ·replace h:=yq h zvy
   refine WC.b<|Ld<|La U<|WL.nil<|Lb<|WC.ret<|Li<|Li ?_
   obtain rfl:=oJ h
   refine Lh Tryz.results85 (.tmp U .nil)<|fun w hw=>?_
   exact⟨yC U,hw.sub .nil⟩
  ·replace h:=yr h zvy
   refine WC.skip<|Lb<|WC.b<|Ld<|La U<|WL.nil<|Lb<|WC.ret<|Li ?_
   obtain rfl:=oJ h
   refine Lh Tryz.results85 (.tmp U .nil)<|fun w hw=>?_
   exact⟨yC U,hw.sub .nil⟩
 ·replace h:=yr h zvx
  refine WC.skip<|Lb<|WC.b<|WC.b<|Ld<|La U<|WL.nil<|Lb<|WC.cond U (fun zvz=>?_)<|fun zvz=>?_
  ·replace h:=yq h zvz
   refine WC.b<|Ld<|La U<|WL.nil<|Lb<|WC.ret<|Li ?_
   obtain rfl:=oJ h
   refine Lh Tryz.results85 (.tmp U .nil)<|fun w hw=>?_
   exact⟨yC U,hw.sub .nil⟩
  ·replace h:=yr h zvz
   refine WC.skip<|Lb<|WC.b<|WC.b<|Ld<|La U<|La U<|La U<|WL.nil<|Lb<|WC.cond U (fun zvA=>?_)<|fun zvA=>?_
   ·replace h:=yq h zvA
    refine WC.b<|Ld<|La U<|WL.nil<|Lb<|WC.ret<|Li ?_
    obtain rfl:=oJ h
    refine Lh Tryz.results85 (.tmp U .nil)<|fun w hw=>?_
    exact⟨yC U,hw.sub .nil⟩
   ·replace h:=yr h zvA
    refine WC.skip<|Lb<|WC.b<|WC.b<|Ld<|La U<|La U<|La U<|WL.nil<|Lb<|WC.cond U (fun zvB=>?_)<|fun zvB=>?_
    ·replace h:=yq h zvB
     refine WC.b<|Ld<|La U<|WL.nil<|Lb<|WC.ret<|Li ?_
     obtain rfl:=oJ h
     refine Lh Tryz.results85 (.tmp U .nil)<|fun w hw=>?_
     exact⟨yC U,hw.sub .nil⟩
    ·replace h:=yr h zvB
     refine WC.skip<|Lb<|WC.b<|Ld<|La U<|WL.nil<|Lb<|WC.ret ?_
     obtain rfl:=oJ h
     refine Lh Tryz.results85 (.tmp U .nil)<|fun w hw=>?_
     exact⟨yC U,hw.sub .nil⟩
def y4R(z6d:List Int)(zby:Option Int):Nat→Int→Option Int
 | 0,_=>none
 | zvC+1,z6e=>if decide (z6e<((z6d.length:Nat):Int)) then chk ((0:Int)≤z6e∧z6e<((z6d.length:Nat):Int)) (if decide ((nth z6d z6e)≠0) then some (nth z6d z6e) else y4R z6d zby zvC (i64 (z6e+1))) else zby
theorem ybP{n:Nat}{z6d:List Int}{zby:Option Int}{z6e:Int}{r:Int}(h:y4R z6d zby n z6e=some r):∃ m,n=m+1:=by
 cases n with
 | zero=>cases h
 | succ m=>exact⟨m,rfl⟩
def y7F(z6d:List Int):Option Int:=
 jp0 (some 0) fun zby=>y4R z6d zby yx 0
theorem ygd{Z:Zp}{zvD:Option Addr}{zvE:Nat}{z6d:List Int}{r:Int}(h:y7F z6d=some r)(w₀:World)(hz:PZ [] w₀ Z)(zOR:ZS Z 1 (fun r x=>r=e3 x) zvD zvE z6d):
  Calls Tryz.prog 84 #[(.slice zvD z6d.length zvE)] w₀ fun e w'=>e = .returned (vi r)∧Hp [] w₀ w' []:=by
 unfold y7F at h
 refine L5 Tryz.func84 Tryz.ntmps84 ?_
 refine WC.b<|Ld<|La U<|WL.nil<|Lb<|WC.b<|Ld<|La U<|WL.nil<|Lb ?_
 obtain⟨zby,zOS,h⟩:=y1G h
 refine L8 ((zby=some r)) ([(3,(vi 0))]) ([]) ?_ ?_
 ·skip
  refine WC.b<|Ld<|La U<|Le 7 (yI Tryz.underlying50 U)<|La U<|WL.nil<|Lb<|WC.block<|L9 (fun(zit:Nat) (z6e:Int)=>(y4R z6d zby zit z6e=some r)) (fun zit z6e=>[(3,(vi 0)),(6,(.slice zvD z6d.length zvE)),(7,(vi ((z6d.length:Nat):Int))),(8,(vi z6e))]) (fun zit z6e=>[]) (fun zit z6e=>zit) ⟨yx,0⟩ h (.r4 U U U U) .nil ?_
  rintro zit z6e h
  obtain⟨zvC,rfl⟩:=ybP h
  rw[y4R] at h
  refine WC.b<|Ld<|La U<|WL.nil<|Lb<|WC.b<|WC.cond U (fun zvF=>?_)<|fun zvF=>?_
  ·replace h:=yq h zvF
   refine WC.skip<|Lb<|WC.b<|WC.block<|WC.b ?_
   obtain⟨zOT,h⟩:=yn h
   refine Ld<|L0 (dd:=10) U U (Z:=Z) (Pr:=(fun r x=>r=e3 x)) y66 U U zOR zOT ?_
   rintro z14G z14H zOU z14I rfl
   refine Le 11 (yc ys U<|y3C hz.pv zOU U)<|La U<|WL.nil<|Lb<|WC.b<|Ld<|La U<|La U<|La U<|WL.nil<|Lb<|WC.cond U (fun zvG=>?_)<|fun zvG=>?_
   ·replace h:=yq h zvG
    refine WC.b<|Ld<|La U<|La U<|WL.nil<|Lb<|WC.ret<|Lq<|Li<|Li<|Lq<|Li ?_
    obtain rfl:=oJ h
    refine Lh Tryz.results84 (.tmp U .nil)<|fun w hw=>?_
    exact⟨yC U,hw.sub .nil⟩
   ·replace h:=yr h zvG
    refine WC.skip<|Lt<|Lb<|Ld<|La U<|La U<|WL.nil ?_
    exact WX.round ⟨zvC,(i64 (z6e+1))⟩ h (Nat.lt_succ_self _) (.r4 U U U U) .nil
  ·replace h:=yr h zvF
   refine WC.exit<|Lm<|Lm<|Lu ?_
   exact Ln () h (.cons U .nil) .nil
 ·rintro  h
  replace h:=zOS.symm.trans h
  refine WC.b<|Ld<|La U<|La U<|WL.nil<|Lb<|WC.ret ?_
  obtain rfl:=oJ h
  refine Lh Tryz.results84 (.tmp U .nil)<|fun w hw=>?_
  exact⟨yC U,hw.sub .nil⟩
def y1w(zdK:z8)(zdL:z8):Option Int:=
 (y51 zdK.fNode zdL.fNode).bind fun zvH=>(y51 zdK.fQ zdL.fQ).bind fun zvI=>(y7F ([zvH,zvI]:List Int)).bind fun zFF=>some zFF
theorem y8O{Z:Zp}{zdK:z8}{zdL:z8}{r:Int}(h:y1w zdK zdL=some r)(w₀:World)(hz:PZ [] w₀ Z):
  Calls Tryz.prog 45 #[(.agg #[(vi zdK.fNode),(vi zdK.fQ)]),(.agg #[(vi zdL.fNode),(vi zdL.fQ)])] w₀ fun e w'=>e = .returned (vi r)∧Hp [] w₀ w' []:=by
 unfold y1w at h
 refine Lz Tryz.func45 Tryz.ntmps45 ?_
 refine WC.b<|Ld (Lg 2 (yH (cs:=[(vi zdK.fNode),(vi zdK.fQ)]) U U) fun z14J _=>Lg 3 (yH (cs:=[(vi zdL.fNode),(vi zdL.fQ)]) U U) fun z14K _=>La U<|WL.nil<|Lb<|WC.b ?_)
 obtain⟨zvH,zOV,h⟩:=za h
 obtain⟨zvI,zOW,h⟩:=za h
 obtain⟨zFF,zOX,h⟩:=za h
 refine Lx (fun i=>[].contains i) [] U<|Lf 0 5 U (fun _=>ya y9d U U)<|Lj 1 6 U (yc ys U<|yh .h1 U)<|Lf 2 7 U (fun _=>ya y9d U U)<|Lj 3 8 U (yc ys U<|yh .here U)<|L4 4 9 U (zb Tryz.call85<|.r2 U U) (cc hz .nil fun w pz ho=>ya1 zOV w pz )<|Lf 5 10 U (fun _=>ya yar U U)<|Lj 6 11 U (yc ys U<|yh .h1 U)<|Lf 7 12 U (fun _=>ya yar U U)<|Lj 8 13 U (yc ys U<|yh .here U)<|L4 9 14 U (zb Tryz.call85<|.r2 U U) (cc hz .nil fun w pz ho=>ya1 zOW w pz ) (WD.new (i:=10) (dd:=15) U (by kernel_rfl) U U U (yM (cs:=([zvH,zvI]:List Int).flatMap e3) y66 (Lo (l:=[.tmp 9,.tmp 14]) (.r2 U U) [0,1]) (fun _=>by kernel_rfl) U (by unfold maxLen;omega)) (fun h'=>absurd h' (by decide)) fun z14L _=>L4 11 16 U (zb Tryz.call84<|.cons U .nil) (ccl hz .nil (.cons .here .nil) fun w pz ho la=>ygd zOX w pz<|ZA.row (la _ (.head _) _) (RR.flat (enc:=e3) (fun _=>U) _) ⟨w,pz.1⟩)<|Lf 12 4 U (fun _=>q_z U)<|WD.done (by kernel_rfl)<|Lb<|WC.ret ?_)
 obtain rfl:=oJ h
 refine Lh Tryz.results45 (.tmp U .nil)<|fun w hw=>?_
 exact⟨yC U,hw.sub .nil⟩
def y4p(z8E:Int):Option Int:=chk ((0:Int)≤z8E∧z8E≤18446744073709551615) (some ((Go.Lib.bitLen (z8E).toNat:Nat):Int))
theorem y8P(Z:Zp)(z8E:Int)(r:Int)(w₀:World)(hz:PZ [] w₀ Z)(h:y4p z8E=some r):Calls Tryz.prog 57 #[.int .u64 z8E] w₀ fun e w'=>e = .returned (vi r)∧Hp [] w₀ w' []:=by
 obtain⟨h0,h⟩:=yn h
 obtain rfl:=oJ h
 refine(Tryz.bits_Len z8E w₀ h0.1 h0.2).mono ?_
 rintro e w' ⟨rfl,rfl⟩
 exact⟨U,Hp.nil w' []⟩
theorem zOY:∀ w,(isAgg (Tryz.y3I.t 24)).run Tryz.prog w = .ok true w:=fun _=>by kernel_rfl
theorem zOZ:∀ w,(Go.sizeOf (Tryz.y3I.t 24)).run Tryz.prog w = .ok 2 w:=fun _=>by kernel_rfl
def y3V(z5A:List z8)(zmC:Int)(zmD:Int)(ziu:Int)(zg8:z8→z8→Option Int):Option (List z8):=chk ((zmC=0∧zmD=((z5A.length:Nat):Int))∧(0≤ziu∧ziu<4611686018427387904∧z5A.length<4611686018427387904)) (chk (y8o zg8 (yV zg8 z5A)=true) (some (yV zg8 z5A)))
theorem y7W(Z:Zp)(zg9:Option Addr)(zga:Nat)(zmE:FuncId)(zvJ:List Value)(z5A:List z8)(zmC:Int)(zmD:Int)(ziu:Int)(zg8:z8→z8→Option Int)(r:List z8)(w₀:World)(hz:PZ (fps [row (.slice zg9 z5A.length zga) 121 2 (z5A.flatMap yD)]) w₀ Z)(zP0:∀ args w,(callFunc zmE args).run Tryz.prog w = .ok (.enter zmE args) w)(zP1:∀ w:World,PZ [] w Z→∀(x0:z8) (x1:z8) (r:Int),zg8 x0 x1=some r→Calls Tryz.prog zmE (([(.agg #[(vi x0.fNode),(vi x0.fQ)]),(.agg #[(vi x1.fNode),(vi x1.fQ)])]:List Value)++zvJ).toArray w fun e w'=>e = .returned (vi r)∧Hp [] w w' [])(h:y3V z5A zmC zmD ziu zg8=some r)(hown:Hp (fps [row (.slice zg9 z5A.length zga) 121 2 (z5A.flatMap yD)]) w₀ w₀ [row (.slice zg9 z5A.length zga) 121 2 (z5A.flatMap yD)]):
  Calls Tryz.prog 158 #[(.slice zg9 z5A.length zga),(vi zmC),(vi zmD),(vi ziu),(.func (.func zmE) #[] (zvJ).toArray)] w₀ fun e w'=>e = .returned (.tuple #[])∧(r.length=z5A.length)∧Hp (fps [row (.slice zg9 z5A.length zga) 121 2 (z5A.flatMap yD)]) w₀ w' [row (.slice zg9 r.length zga) 121 2 (r.flatMap yD)]:=by
 obtain⟨h0,h⟩:=yn h
 obtain⟨h1,h⟩:=yn h
 have hr:=(oJ h).symm
 exact y9C (P:=Tryz.prog) (f:=158) (e:=121) (k:=2) (enc:=yD) (fun _=>U) (by decide) ybg (fun β _ enc cf g cb hO blk off cap d0 w0 eg hC R=>Tryz.y98 2 zOY zOZ enc cf g cb hO blk off cap d0 w0 eg hC R) (Tryz.y8W (α:=Unit)) hz zP0 zP1 h0 h1 hr hown
def y1D(z4Z:List z8)(ziv:z8→z8→Option Int):Option (List z8):=
 (y4p (u64 ((z4Z.length:Nat):Int))).bind fun zq9=>(y3V z4Z 0 ((z4Z.length:Nat):Int) zq9 ziv).bind fun zqa=>some zqa
theorem y6I(Z:Zp)(zdM:Option Addr)(zdN:Nat)(ziw:FuncId)(zqb:List Value)(z4Z:List z8)(ziv:z8→z8→Option Int)(r:List z8)(h:y1D z4Z ziv=some r)(w₀:World)(hz:PZ (fps [row (.slice zdM z4Z.length zdN) 121 2 (z4Z.flatMap yD)]) w₀ Z)(zP2:∀ args w,(callFunc ziw args).run Tryz.prog w = .ok (.enter ziw args) w)(zP3:∀ w:World,PZ [] w Z→∀(x0:z8) (x1:z8) (r:Int),ziv x0 x1=some r→Calls Tryz.prog ziw (([(.agg #[(vi x0.fNode),(vi x0.fQ)]),(.agg #[(vi x1.fNode),(vi x1.fQ)])]:List Value)++zqb).toArray w fun e w'=>e = .returned (vi r)∧Hp [] w w' [])(hown:Hp (fps [row (.slice zdM z4Z.length zdN) 121 2 (z4Z.flatMap yD)]) w₀ w₀ [row (.slice zdM z4Z.length zdN) 121 2 (z4Z.flatMap yD)]):
  Calls Tryz.prog 115 #[(.slice zdM z4Z.length zdN),(.func (.func ziw) #[] (zqb).toArray)] w₀ fun e w'=>e = .returned (.tuple #[])∧(r.length=z4Z.length)∧Hp (fps [row (.slice zdM z4Z.length zdN) 121 2 (z4Z.flatMap yD)]) w₀ w' [row (.slice zdM r.length zdN) 121 2 (r.flatMap yD)]:=by
 unfold y1D at h
 refine Kh Tryz.func115 Tryz.ntmps115 hown ?_
 refine WC.b<|Ld<|La U<|Le 6 (yI Tryz.underlying112 U)<|La U<|WL.nil<|Lb ?_
 obtain⟨zq9,zP4,h⟩:=za h
 obtain⟨zqa,zP5,h⟩:=za h
 refine Ld<|La U<|La U<|La U<|Le 10 (y7t Tryz.underlying3 Tryz.underlying147 U U)<|Ll 11 (zb Tryz.call57<|.cons U .nil) .nil (cc hz .nil fun w pz ho=>y8P (Z:=_)  (z8E:=(u64 ((z4Z.length:Nat):Int))) (r:=zq9) w pz  zP4)<|La U<|WL.y5j (dd:=13) U U U (zb Tryz.call158<|.r5 U U U U U) (.cons .here .nil) (cc hz (.cons .here .nil) fun w pz ho=>y7W (Z:=_) (zg9:=zdM) (zga:=zdN) (zmE:=ziw) (zvJ:=zqb) (z5A:=z4Z) (zmC:=0) (zmD:=((z4Z.length:Nat):Int)) (ziu:=zq9) (zg8:=ziv) (r:=zqa) w pz zP2 zP3 zP5 ho) ?_
 rintro  zFG
 refine Ki (i:=0) U (u:=(.slice zdM zqa.length zdN)) (y8n zFG.symm)<|WL.nil ?_
 obtain rfl:=oJ h
 refine WX.y5f Tryz.results115 .nil<|fun w hw=>?_
 exact⟨y7v,(zFG.trans U),hw.sub (.cons .here .nil)⟩
end Go.Proofs.YthjnhebofpebpaaGreat
