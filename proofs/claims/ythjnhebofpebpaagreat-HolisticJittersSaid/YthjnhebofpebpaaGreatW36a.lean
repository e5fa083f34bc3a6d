/- A part of this claim's proof: models of functions, walks, plain laws. No conditions. -/
import Derived.Test.YthjnhebofpebpaaGreatZShort
import Derived.Test.YthjnhebofpebpaaGreatZMem
import Derived.Test.YthjnhebofpebpaaGreatShelf36
import Derived.Test.YthjnhebofpebpaaGreatProg
set_option linter.all false
namespace Go.Proofs.YthjnhebofpebpaaGreat
open Go Go.RowKit Sep
set_option maxRecDepth 30000
set_option maxHeartbeats 4000000
structure Sapi_Port where
 fName:ByteArray
 fKind:Int
 fOut:Bool
 fSize:Int
 fDepth:Int
 fRefresh:Int
 deriving Inhabited,DecidableEq
structure Sapi_Ins where
 fOp:Int
 fA:Int
 fB:Int
 fC:Int
 deriving Inhabited,DecidableEq
structure Sapi_Proc where
 fName:ByteArray
 fPrio:Int
 fPeriod:Int
 fLimit:Int
 fCode:List Sapi_Ins
 deriving Inhabited,DecidableEq
structure Sapi_Part where
 fName:ByteArray
 fPeriod:Int
 fLength:Int
 fMem:Int
 fSemas:List Int
 fEvents:Int
 fBoards:Int
 fBufs:List Int
 fP:List Sapi_Port
 fProcs:List Sapi_Proc
 deriving Inhabited,DecidableEq
structure z6J where
 fName:ByteArray
 fMem:Int
 fFrame:Int
 fParts:List Sapi_Part
 deriving Inhabited,DecidableEq
structure Sapi_Ref where
 fModule:ByteArray
 fPart:ByteArray
 fPort:ByteArray
 deriving Inhabited,DecidableEq
structure zhU where
 fFrom:Sapi_Ref
 fTo:List Sapi_Ref
 deriving Inhabited,DecidableEq
structure z8z where
 fName:ByteArray
 fNet:Int
 fDelay:Int
 fT:Int
 deriving Inhabited,DecidableEq
structure z7g where
 fA:ByteArray
 fB:ByteArray
 fNet:Int
 fSlow:Int
 deriving Inhabited,DecidableEq
structure z14 where
 fName:ByteArray
 fFrom:Sapi_Ref
 fBag:Int
 fMax:Int
 fTo:List Sapi_Ref
 deriving Inhabited,DecidableEq
structure Sapi_Health where
 fModule:ByteArray
 fPart:ByteArray
 fFault:Int
 fLevel:Int
 fDo:Int
 deriving Inhabited,DecidableEq
structure Sapi_Report where
 fUnit:ByteArray
 fCode:Int
 deriving Inhabited,DecidableEq
structure Sapi_Cause where
 fUnit:ByteArray
 fNeeds:List Sapi_Report
 fUnless:List ByteArray
 deriving Inhabited,DecidableEq
structure Sapi_Version where
 fA:ByteArray
 fVA:Int
 fB:ByteArray
 fVB:Int
 deriving Inhabited,DecidableEq
structure zs where
 fM:List z6J
 fC0:List zhU
 fS:List z8z
 fK:List z7g
 fVLs:List z14
 fH:List Sapi_Health
 fU:List Sapi_Cause
 fV0:List Sapi_Version
 deriving Inhabited,DecidableEq
def e3(x:Int):List Value:=[(vi x)]
theorem e3_oc:∀ x,∀ u∈e3 x,u.oneCell'=true:=fun _=>ocB rfl
def e387(x:Sapi_Port):List Value:=[(.string x.fName),(.int .u8 x.fKind),(.bool x.fOut),(vi x.fSize),(vi x.fDepth),(vi x.fRefresh)]
def e392(x:Sapi_Ins):List Value:=[(.int .u8 x.fOp),(vi x.fA),(vi x.fB),(vi x.fC)]
def p390(Z:Zp)(r:List Value)(x:Sapi_Proc):Prop:=∃(ao0:Option Addr) (cap0:Nat),r=[(.string x.fName),(vi x.fPrio),(vi x.fPeriod),(vi x.fLimit),(.slice ao0 x.fCode.length cap0)]∧ZS Z 4 (fun r x=>r=e392 x) ao0 cap0 x.fCode
theorem yiq{Z Z':Zp}(k:Zle Z Z'){r:List Value}{x:Sapi_Proc}(h:p390 Z r x):p390 Z' r x:=by
 obtain⟨ao0,cap0,hr,h0⟩:=h
 exact⟨ao0,cap0,hr,h0.mono k⟩
def p381(Z:Zp)(r:List Value)(x:Sapi_Part):Prop:=∃(ao0:Option Addr) (cap0:Nat) (ao1:Option Addr) (cap1:Nat) (ao2:Option Addr) (cap2:Nat) (ao3:Option Addr) (cap3:Nat),r=[(.string x.fName),(vi x.fPeriod),(vi x.fLength),(vi x.fMem),(.slice ao0 x.fSemas.length cap0),(vi x.fEvents),(vi x.fBoards),(.slice ao1 x.fBufs.length cap1),(.slice ao2 x.fP.length cap2),(.slice ao3 x.fProcs.length cap3)]∧ZS Z 1 (fun r x=>r=e3 x) ao0 cap0 x.fSemas∧ZS Z 1 (fun r x=>r=e3 x) ao1 cap1 x.fBufs∧ZS Z 6 (fun r x=>r=e387 x) ao2 cap2 x.fP∧ZS Z 5 (p390 Z) ao3 cap3 x.fProcs
theorem yir{Z Z':Zp}(k:Zle Z Z'){r:List Value}{x:Sapi_Part}(h:p381 Z r x):p381 Z' r x:=by
 obtain⟨ao0,cap0,ao1,cap1,ao2,cap2,ao3,cap3,hr,h0,h1,h2,h3⟩:=h
 exact⟨ao0,cap0,ao1,cap1,ao2,cap2,ao3,cap3,hr,h0.mono k,h1.mono k,h2.mono k,(h3.mono k).weak (fun _ _ h=>yiq k h)⟩
def y3L(Z:Zp)(r:List Value)(x:z6J):Prop:=∃(ao0:Option Addr) (cap0:Nat),r=[(.string x.fName),(vi x.fMem),(vi x.fFrame),(.slice ao0 x.fParts.length cap0)]∧ZS Z 10 (p381 Z) ao0 cap0 x.fParts
theorem y1c{Z Z':Zp}(k:Zle Z Z'){r:List Value}{x:z6J}(h:y3L Z r x):y3L Z' r x:=by
 obtain⟨ao0,cap0,hr,h0⟩:=h
 exact⟨ao0,cap0,hr,(h0.mono k).weak (fun _ _ h=>yir k h)⟩
def e66(x:Sapi_Ref):List Value:=[(.string x.fModule),(.string x.fPart),(.string x.fPort)]
def y4n(Z:Zp)(r:List Value)(x:zhU):Prop:=∃(ao0:Option Addr) (cap0:Nat),r=[(.string x.fFrom.fModule),(.string x.fFrom.fPart),(.string x.fFrom.fPort),(.slice ao0 x.fTo.length cap0)]∧ZS Z 3 (fun r x=>r=e66 x) ao0 cap0 x.fTo
theorem y1o{Z Z':Zp}(k:Zle Z Z'){r:List Value}{x:zhU}(h:y4n Z r x):y4n Z' r x:=by
 obtain⟨ao0,cap0,hr,h0⟩:=h
 exact⟨ao0,cap0,hr,h0.mono k⟩
def e64(x:z8z):List Value:=[(.string x.fName),(vi x.fNet),(vi x.fDelay),(vi x.fT)]
def e62(x:z7g):List Value:=[(.string x.fA),(.string x.fB),(vi x.fNet),(vi x.fSlow)]
def p69(Z:Zp)(r:List Value)(x:z14):Prop:=∃(ao0:Option Addr) (cap0:Nat),r=[(.string x.fName),(.string x.fFrom.fModule),(.string x.fFrom.fPart),(.string x.fFrom.fPort),(vi x.fBag),(vi x.fMax),(.slice ao0 x.fTo.length cap0)]∧ZS Z 3 (fun r x=>r=e66 x) ao0 cap0 x.fTo
theorem y1e{Z Z':Zp}(k:Zle Z Z'){r:List Value}{x:z14}(h:p69 Z r x):p69 Z' r x:=by
 obtain⟨ao0,cap0,hr,h0⟩:=h
 exact⟨ao0,cap0,hr,h0.mono k⟩
def y4C(x:Sapi_Health):List Value:=[(.string x.fModule),(.string x.fPart),(.int .u8 x.fFault),(.int .u8 x.fLevel),(.int .u8 x.fDo)]
def e385(x:Sapi_Report):List Value:=[(.string x.fUnit),(vi x.fCode)]
def e9(x:ByteArray):List Value:=[(.string x)]
def y4o(Z:Zp)(r:List Value)(x:Sapi_Cause):Prop:=∃(ao0:Option Addr) (cap0:Nat) (ao1:Option Addr) (cap1:Nat),r=[(.string x.fUnit),(.slice ao0 x.fNeeds.length cap0),(.slice ao1 x.fUnless.length cap1)]∧ZS Z 2 (fun r x=>r=e385 x) ao0 cap0 x.fNeeds∧ZS Z 1 (fun r x=>r=e9 x) ao1 cap1 x.fUnless
theorem y1p{Z Z':Zp}(k:Zle Z Z'){r:List Value}{x:Sapi_Cause}(h:y4o Z r x):y4o Z' r x:=by
 obtain⟨ao0,cap0,ao1,cap1,hr,h0,h1⟩:=h
 exact⟨ao0,cap0,ao1,cap1,hr,h0.mono k,h1.mono k⟩
def y4D(x:Sapi_Version):List Value:=[(.string x.fA),(vi x.fVA),(.string x.fB),(vi x.fVB)]
structure ze where
 fNode:Int
 fNext:Int
 fQ:Int
 deriving Inhabited,DecidableEq
def e60(x:ze):List Value:=[(vi x.fNode),(vi x.fNext),(vi x.fQ)]
def p58(Z:Zp)(r:List Value)(x:List ze):Prop:=∃(ao0:Option Addr) (cap0:Nat),r=[(.slice ao0 x.length cap0)]∧ZS Z 3 (fun r x=>r=e60 x) ao0 cap0 x
theorem y1B{Z Z':Zp}(k:Zle Z Z'){r:List Value}{x:List ze}(h:p58 Z r x):p58 Z' r x:=by
 obtain⟨ao0,cap0,hr,h0⟩:=h
 exact⟨ao0,cap0,hr,h0.mono k⟩
structure S7 where
 fX:Int
 fY:Int
 fSigned:Bool
 fCode:Int
 deriving Inhabited,DecidableEq
structure S13 where
 fMsg:ByteArray
 fAddr:Int
 deriving Inhabited,DecidableEq
structure z8 where
 fNode:Int
 fQ:Int
 deriving Inhabited,DecidableEq
structure S36 where
 fNode:Int
 fQ:Int
 fDelay:Int
 fT:Int
 deriving Inhabited,DecidableEq
structure zn where
 fVL:Int
 fNode:Int
 fDelay:Int
 deriving Inhabited,DecidableEq
structure S39 where
 fP:List S36
 fEnds:List zn
 deriving Inhabited,DecidableEq
structure S56 where
 a0:Int
 a1:Int
 deriving Inhabited,DecidableEq
structure S70 where
 fC:zs
 fR:List (List ze)
 deriving Inhabited,DecidableEq
structure S82 where
 fSent:Int
 fNode:Int
 fTime:Int
 deriving Inhabited,DecidableEq
structure S85 where
 fTime:Int
 fVL:Int
 fSize:Int
 deriving Inhabited,DecidableEq
def yE(x:z8):List Value:=[(vi x.fNode),(vi x.fQ)]
theorem yb9:∀ x,∀ u∈yE x,u.oneCell'=true:=fun _=>ocB rfl
def e37(x:S36):List Value:=[(vi x.fNode),(vi x.fQ),(vi x.fDelay),(vi x.fT)]
theorem yee:∀ x,∀ u∈e37 x,u.oneCell'=true:=fun _=>ocB rfl
structure zO where
 fVl:Int
 fAt_:z8
 deriving Inhabited,DecidableEq
def y2J(x:zO):List Value:=[(vi x.fVl),(vi x.fAt_.fNode),(vi x.fAt_.fQ)]
structure z2 where
 fN:Int
 fD:Int
 deriving Inhabited,DecidableEq
def yA(x:z2):List Value:=[(vi x.fN),(vi x.fD)]
theorem yd6:∀ x,∀ u∈yA x,u.oneCell'=true:=fun _=>ocB rfl
structure S157 where
 fQ:Int
 fBag:Int
 fMax:Int
 fJitter:Int
 deriving Inhabited,DecidableEq
structure z6 where
 fBurst:z2
 fRate:z2
 deriving Inhabited,DecidableEq
def y1N(x:z6):List Value:=[(vi x.fBurst.fN),(vi x.fBurst.fD),(vi x.fRate.fN),(vi x.fRate.fD)]
theorem yhd:∀ x,∀ u∈y1N x,u.oneCell'=true:=fun _=>ocB rfl
def y26(Z:Zp)(r:List Value)(x:List z6):Prop:=∃(ao0:Option Addr) (cap0:Nat),r=[(.slice ao0 x.length cap0)]∧ZS Z 4 (fun r x=>r=y1N x) ao0 cap0 x
theorem y3M{Z Z':Zp}(k:Zle Z Z'){r:List Value}{x:List z6}(h:y26 Z r x):y26 Z' r x:=by
 obtain⟨ao0,cap0,hr,h0⟩:=h
 exact⟨ao0,cap0,hr,h0.mono k⟩
theorem p227_oc{Z:Zp}{r:List Value}{x:List z6}(h:y26 Z r x):∀ u∈r,u.oneCell'=true:=by
 obtain⟨ao0,cap0,hr,h0⟩:=h
 rw[hr];exact ocB U
structure zSv where
 fRate:z2
 fL:z2
 deriving Inhabited,DecidableEq
structure z1y where
 fE:Int
 deriving Inhabited,DecidableEq
structure S187 where
 fTime:Int
 fIn_:Int
 fVl:Int
 fSent:Int
 fHop:ze
 deriving Inhabited,DecidableEq
structure S249 where
 fSlow:Int
 fDelay:Int
 fT:Int
 deriving Inhabited,DecidableEq
structure Sport_frame where
 fSize:Int
 fFin:Int
 deriving Inhabited,DecidableEq
structure S252 where
 fNumbers:S249
 fNow:Int
 fLast:Int
 fFrames:List Sport_frame
 deriving Inhabited,DecidableEq
def e41(x:Int):List Value:=[(vi x)]
def e53(x:zn):List Value:=[(vi x.fVL),(vi x.fNode),(vi x.fDelay)]
theorem yg0:∀ x,∀ u∈e53 x,u.oneCell'=true:=fun _=>ocB rfl
def e94(x:z8):List Value:=[(vi x.fNode),(vi x.fQ)]
def y5V(Z:Zp)(r:List Value)(x:Int→Option Int):Prop:=∃(fid:FuncId) (fcaps:List Value),r=[(.func (.func fid) #[] (fcaps).toArray)]∧(∀ args w,(callFunc fid args).run Tryz.prog w = .ok (.enter fid args) w)∧∀ w:World,PZ [] w Z→∀(x0:Int) (r:Int),x x0=some r→Calls Tryz.prog fid (([(vi x0)]:List Value)++fcaps).toArray w fun e w'=>e = .returned (vi r)∧Hp [] w w' []
theorem y64{Z Z':Zp}(k:Zle Z Z'){r:List Value}{x:Int→Option Int}(h:y5V Z r x):y5V Z' r x:=by
 obtain⟨fid,fcaps,h1,h2,h3⟩:=h
 exact⟨fid,fcaps,h1,h2,fun w hw=>h3 w (hw.le k)⟩
def p50(Z:Zp)(r:List Value)(x:List Int):Prop:=∃(ao0:Option Addr) (cap0:Nat),r=[(.slice ao0 x.length cap0)]∧ZS Z 1 (fun r x=>r=e3 x) ao0 cap0 x
theorem ydL{Z Z':Zp}(k:Zle Z Z'){r:List Value}{x:List Int}(h:p50 Z r x):p50 Z' r x:=by
 obtain⟨ao0,cap0,hr,h0⟩:=h
 exact⟨ao0,cap0,hr,h0.mono k⟩
def e56(x:S56):List Value:=[(vi x.a0),(vi x.a1)]
def e5(x:Int):List Value:=[(.int .u8 x)]
theorem y1V:y6M Tryz.prog 31 8:=y5n (i:=Tryz.t31) Tryz.underlying31 rfl rfl
theorem y6u:yT Tryz.prog 31 0 0:=yJ (i:=Tryz.t22) Tryz.underlying31 rfl rfl (by decide) rfl
theorem y6v:y5x Tryz.prog 22:=y3f Tryz.underlying22 rfl
theorem y92:yT Tryz.prog 31 2 2:=yJ (i:=Tryz.t24) Tryz.underlying31 rfl rfl (by decide) rfl
theorem y93:y5x Tryz.prog 24:=y3f Tryz.underlying24 rfl
theorem y74:yT Tryz.prog 31 3 3:=yJ (i:=Tryz.t25) Tryz.underlying31 rfl rfl (by decide) rfl
theorem y75:y5x Tryz.prog 25:=y3f Tryz.underlying25 rfl
theorem y7F:yT Tryz.prog 31 4 4:=yJ (i:=Tryz.t26) Tryz.underlying31 rfl rfl (by decide) rfl
theorem y7G:y5x Tryz.prog 26:=y3f Tryz.underlying26 rfl
theorem y81:elT Tryz.prog 32 58 1 24:=⟨Tryz.underlying32,⟨Tryz.t58,_,rfl,rfl,rfl,rfl,rfl⟩,by decide⟩
theorem y6w:y5x Tryz.prog 58:=y3f Tryz.underlying58 rfl
theorem ydM:y2y Tryz.prog 31 (.agg #[vn,vn,vn,vn,vn,vn,vn,vn]):=y2l (i:=Tryz.t31) rfl rfl
theorem elT_22:elT Tryz.prog 22 126 4 56:=⟨Tryz.underlying22,⟨Tryz.t126,_,rfl,rfl,rfl,rfl,rfl⟩,by decide⟩
theorem yba:elT Tryz.prog 24 64 4 40:=⟨Tryz.underlying24,⟨Tryz.t64,_,rfl,rfl,rfl,rfl,rfl⟩,by decide⟩
theorem y9p:elT Tryz.prog 25 62 4 48:=⟨Tryz.underlying25,⟨Tryz.t62,_,rfl,rfl,rfl,rfl,rfl⟩,by decide⟩
theorem y9q:elT Tryz.prog 26 69 7 104:=⟨Tryz.underlying26,⟨Tryz.t69,_,rfl,rfl,rfl,rfl,rfl⟩,by decide⟩
theorem yeQ:y50 Tryz.prog 31 8:=y2T (i:=Tryz.t31) rfl
theorem y5i:elT Tryz.prog 58 60 3 24:=⟨Tryz.underlying58,⟨Tryz.t60,_,rfl,rfl,rfl,rfl,rfl⟩,by decide⟩
theorem y7v:y2y Tryz.prog 40 (.agg #[vn,vn]):=y2l (i:=Tryz.t40) rfl rfl
theorem yq:y5x Tryz.prog 3:=y3f Tryz.underlying3 rfl
theorem y3z:y6M Tryz.prog 60 3:=y5n (i:=Tryz.t60) Tryz.underlying60 rfl rfl
theorem y5N:y2y Tryz.prog 60 (.agg #[(vi 0),(vi 0),(vi 0)]):=y2l (i:=Tryz.t60) rfl rfl
theorem y60:y50 Tryz.prog 60 3:=y2T (i:=Tryz.t60) rfl
theorem y32:yT Tryz.prog 60 0 0:=yJ (i:=Tryz.t3) Tryz.underlying60 rfl rfl (by decide) rfl
theorem y2v:y2y Tryz.prog 3 (vi 0):=y2l (i:=Tryz.t3) rfl rfl
theorem y43:KeyT Tryz.prog 3 (Value.int .i64):=keyT_int Tryz.underlying3
theorem y5p:yT Tryz.prog 60 1 1:=yJ (i:=Tryz.t3) Tryz.underlying60 rfl rfl (by decide) rfl
theorem y76:yT Tryz.prog 60 2 2:=yJ (i:=Tryz.t3) Tryz.underlying60 rfl rfl (by decide) rfl
theorem aggT_62:y6M Tryz.prog 62 4:=y5n (i:=Tryz.t62) Tryz.underlying62 rfl rfl
theorem zeroT_62:y2y Tryz.prog 62 (.agg #[(.string ⟨#[]⟩),(.string ⟨#[]⟩),(vi 0),(vi 0)]):=y2l (i:=Tryz.t62) rfl rfl
theorem sizT_62:y50 Tryz.prog 62 4:=y2T (i:=Tryz.t62) rfl
theorem fo_62_0:yT Tryz.prog 62 0 0:=yJ (i:=Tryz.t9) Tryz.underlying62 rfl rfl (by decide) rfl
theorem yef:y5x Tryz.prog 9:=y3f Tryz.underlying9 rfl
theorem fo_126_0:yT Tryz.prog 126 0 0:=yJ (i:=Tryz.t9) Tryz.underlying126 rfl rfl (by decide) rfl
theorem fo_64_0:yT Tryz.prog 64 0 0:=yJ (i:=Tryz.t9) Tryz.underlying64 rfl rfl (by decide) rfl
theorem fo_62_1:yT Tryz.prog 62 1 1:=yJ (i:=Tryz.t9) Tryz.underlying62 rfl rfl (by decide) rfl
theorem fo_62_2:yT Tryz.prog 62 2 2:=yJ (i:=Tryz.t3) Tryz.underlying62 rfl rfl (by decide) rfl
theorem y8j:yT Tryz.prog 62 3 3:=yJ (i:=Tryz.t3) Tryz.underlying62 rfl rfl (by decide) rfl
theorem aggT_64:y6M Tryz.prog 64 4:=y5n (i:=Tryz.t64) Tryz.underlying64 rfl rfl
theorem zeroT_64:y2y Tryz.prog 64 (.agg #[(.string ⟨#[]⟩),(vi 0),(vi 0),(vi 0)]):=y2l (i:=Tryz.t64) rfl rfl
theorem sizT_64:y50 Tryz.prog 64 4:=y2T (i:=Tryz.t64) rfl
theorem fo_64_1:yT Tryz.prog 64 1 1:=yJ (i:=Tryz.t3) Tryz.underlying64 rfl rfl (by decide) rfl
theorem ybb:yT Tryz.prog 64 2 2:=yJ (i:=Tryz.t3) Tryz.underlying64 rfl rfl (by decide) rfl
theorem yhe:yT Tryz.prog 64 3 3:=yJ (i:=Tryz.t3) Tryz.underlying64 rfl rfl (by decide) rfl
theorem zly:y2y Tryz.prog 121 (.agg #[(vi 0),(vi 0)]):=y2l (i:=Tryz.t121) rfl rfl
theorem zp1:y50 Tryz.prog 121 2:=y2T (i:=Tryz.t121) rfl
theorem z5v:y6M Tryz.prog 121 2:=y5n (i:=Tryz.t121) Tryz.underlying121 rfl rfl
theorem z7h:elT Tryz.prog 112 121 2 16:=⟨Tryz.underlying112,⟨Tryz.t121,_,rfl,rfl,rfl,rfl,rfl⟩,by decide⟩
theorem zp2:EqT Tryz.prog 121 yE:=⟨fun u v w=>by
 have i121_10000:=fun(w:World) (a b:Array Value)=>run_equalIn_agg (P:=Tryz.prog) w 9999 121 a b (by simp[Program.fieldsOf,Tryz.underlying121]) (by kernel_rfl)
 have i3_9999:=fun(w:World) (a b:Int)=>run_equalIn_int (P:=Tryz.prog) w 9998 3 .i64 .i64 a b Tryz.underlying3
 rw[i121_10000]
 simp[Program.fieldsOf,Op.eqFields,part,yE,i121_10000,Tryz.underlying121,i3_9999]
 rcases u with⟨u1,u2⟩
 rcases v with⟨v1,v2⟩
 by_cases h1:u1=v1 <;> by_cases h2:u2=v2 <;> simp[h1,h2],by kernel_rfl⟩
theorem y94:yT Tryz.prog 121 0 0:=yJ (i:=Tryz.t3) Tryz.underlying121 rfl rfl (by decide) rfl
theorem yaj:yT Tryz.prog 121 1 1:=yJ (i:=Tryz.t3) Tryz.underlying121 rfl rfl (by decide) rfl
theorem y52:elT Tryz.prog 50 3 1 8:=⟨Tryz.underlying50,⟨Tryz.t3,_,rfl,rfl,rfl,rfl,rfl⟩,by decide⟩
theorem zM0:y2y Tryz.prog 117 (.map none):=y2l (i:=Tryz.t117) rfl rfl
theorem zM1:y50 Tryz.prog 117 1:=y2T (i:=Tryz.t117) rfl
theorem zlz:y5x Tryz.prog 117:=y3f Tryz.underlying117 rfl
theorem zdA:KeyT Tryz.prog 121 (fun x=>Value.agg (yE x).toArray):=ybI Tryz.underlying121 (fun _ _=>rfl) (fun b k w=>by
 have c3_9999:=fun(w:World) (a:Int)=>MapKept.run_checkKey (P:=Tryz.prog) (w:=w) (kt:=3) (k:=.int .i64 a) Tryz.underlying3 (by simp[MapKept.IsKey]) b 9998
 have ck:∀(w:World) (u0:Int) (u1:Int),(Instr.checkKey b 10000 121 (.agg #[.int .i64 u0,.int .i64 u1])).run Tryz.prog w = .ok () w:=fun w u0 u1=>by
  rw[show(10000:Nat)=9999+1 from U,Instr.checkKey]
  simp[run_underlying Tryz.underlying121,c3_9999,part]
 exact ck w k.fNode k.fQ)
 (fun u v w=>zp2.eq u v w)
 (fun k=>by simp[Instr.sameBits,yE])
theorem y5O:elT Tryz.prog 33 37 4 32:=⟨Tryz.underlying33,⟨Tryz.t37,_,rfl,rfl,rfl,rfl,rfl⟩,by decide⟩
theorem y5q:y50 Tryz.prog 40 2:=y2T (i:=Tryz.t40) rfl
theorem y5r:y6M Tryz.prog 40 2:=y5n (i:=Tryz.t40) Tryz.underlying40 rfl rfl
theorem yeR:yT Tryz.prog 69 2 4:=yJ (i:=Tryz.t3) Tryz.underlying69 rfl rfl (by decide) rfl
theorem y7H:yT Tryz.prog 69 3 5:=yJ (i:=Tryz.t3) Tryz.underlying69 rfl rfl (by decide) rfl
theorem yeS:y6M Tryz.prog 69 7:=y5n (i:=Tryz.t69) Tryz.underlying69 rfl rfl
theorem y4T:yT Tryz.prog 40 0 0:=yJ (i:=Tryz.t33) Tryz.underlying40 rfl rfl (by decide) rfl
theorem y4U:y5x Tryz.prog 33:=y3f Tryz.underlying33 rfl
theorem y88:y2y Tryz.prog 37 (.agg #[(vi 0),(vi 0),(vi 0),(vi 0)]):=y2l (i:=Tryz.t37) rfl rfl
theorem fo_119_1:yT Tryz.prog 119 1 8:=yJ (i:=Tryz.t32) Tryz.underlying119 rfl rfl (by decide) rfl
theorem oneT_32:y5x Tryz.prog 32:=y3f Tryz.underlying32 rfl
theorem y6j:yT Tryz.prog 119 0 0:=yJ (i:=Tryz.t31) Tryz.underlying119 rfl rfl (by decide) rfl
theorem zV:y2y Tryz.prog 175 (.agg #[(vi 0),(vi 0)]):=y2l (i:=Tryz.t175) rfl rfl
theorem zz:y50 Tryz.prog 175 2:=y2T (i:=Tryz.t175) rfl
theorem zg:y6M Tryz.prog 175 2:=y5n (i:=Tryz.t175) Tryz.underlying175 rfl rfl
theorem ydN:yT Tryz.prog 119 2 9:=yJ (i:=Tryz.t116) Tryz.underlying119 rfl rfl (by decide) rfl
theorem zsV:y5x Tryz.prog 116:=y3f Tryz.underlying116 rfl
theorem zM2:EqT Tryz.prog 223 y2J:=⟨fun u v w=>by
 have i223_10000:=fun(w:World) (a b:Array Value)=>run_equalIn_agg (P:=Tryz.prog) w 9999 223 a b (by simp[Program.fieldsOf,Tryz.underlying223]) (by kernel_rfl)
 have i3_9999:=fun(w:World) (a b:Int)=>run_equalIn_int (P:=Tryz.prog) w 9998 3 .i64 .i64 a b Tryz.underlying3
 have i121_9999:=fun(w:World) (a b:Array Value)=>run_equalIn_agg (P:=Tryz.prog) w 9998 121 a b (by simp[Program.fieldsOf,Tryz.underlying121]) (by kernel_rfl)
 have i3_9998:=fun(w:World) (a b:Int)=>run_equalIn_int (P:=Tryz.prog) w 9997 3 .i64 .i64 a b Tryz.underlying3
 rw[i223_10000]
 simp[Program.fieldsOf,Op.eqFields,part,y2J,i223_10000,Tryz.underlying223,i3_9999,i121_9999,Tryz.underlying121,i3_9998]
 rcases u with⟨u1,⟨u2,u3⟩⟩
 rcases v with⟨v1,⟨v2,v3⟩⟩
 by_cases h1:u1=v1 <;> by_cases h2:u2=v2 <;> by_cases h3:u3=v3 <;> simp[h1,h2,h3],by kernel_rfl⟩
theorem zsW:KeyT Tryz.prog 223 (fun x=>Value.agg (y2J x).toArray):=ybI Tryz.underlying223 (fun _ _=>rfl) (fun b k w=>by
 have c3_9999:=fun(w:World) (a:Int)=>MapKept.run_checkKey (P:=Tryz.prog) (w:=w) (kt:=3) (k:=.int .i64 a) Tryz.underlying3 (by simp[MapKept.IsKey]) b 9998
 have c3_9998:=fun(w:World) (a:Int)=>MapKept.run_checkKey (P:=Tryz.prog) (w:=w) (kt:=3) (k:=.int .i64 a) Tryz.underlying3 (by simp[MapKept.IsKey]) b 9997
 have c121_9999:∀(w:World) (u0:Int) (u1:Int),(Instr.checkKey b 9999 121 (.agg #[.int .i64 u0,.int .i64 u1])).run Tryz.prog w = .ok () w:=fun w u0 u1=>by
  rw[show(9999:Nat)=9998+1 from U,Instr.checkKey]
  simp[run_underlying Tryz.underlying121,c3_9998,part]
 have ck:∀(w:World) (u0:Int) (u1:Int) (u2:Int),(Instr.checkKey b 10000 223 (.agg #[.int .i64 u0,.int .i64 u1,.int .i64 u2])).run Tryz.prog w = .ok () w:=fun w u0 u1 u2=>by
  rw[show(10000:Nat)=9999+1 from U,Instr.checkKey]
  simp[run_underlying Tryz.underlying223,c3_9999,c121_9999,part]
 exact ck w k.fVl k.fAt_.fNode k.fAt_.fQ)
 (fun u v w=>zM2.eq u v w)
 (fun k=>by simp[Instr.sameBits,y2J])
theorem y2D:yT Tryz.prog 175 0 0:=yJ (i:=Tryz.t3) Tryz.underlying175 rfl rfl (by decide) rfl
theorem ybc:y50 Tryz.prog 3 1:=y2T (i:=Tryz.t3) rfl
theorem ydO:yT Tryz.prog 119 3 10:=yJ (i:=Tryz.t117) Tryz.underlying119 rfl rfl (by decide) rfl
theorem y33:yT Tryz.prog 175 1 1:=yJ (i:=Tryz.t3) Tryz.underlying175 rfl rfl (by decide) rfl
theorem y4q:KeyT Tryz.prog 9 Value.string:=keyT_str Tryz.underlying9
theorem zp3:y2y Tryz.prog 303 .nilFunc:=y2l (i:=Tryz.t303) rfl rfl
theorem y95:yT Tryz.prog 119 4 11:=yJ (i:=Tryz.t41) Tryz.underlying119 rfl rfl (by decide) rfl
theorem y3A:y5x Tryz.prog 41:=y3f Tryz.underlying41 rfl
theorem ybd:y50 Tryz.prog 41 1:=y2T (i:=Tryz.t41) rfl
theorem ydP:y2y Tryz.prog 50 vn:=y2l (i:=Tryz.t50) rfl rfl
theorem z80:elT Tryz.prog 227 225 4 32:=⟨Tryz.underlying227,⟨Tryz.t225,_,rfl,rfl,rfl,rfl,rfl⟩,by decide⟩
theorem z9i:elT Tryz.prog 171 227 1 24:=⟨Tryz.underlying171,⟨Tryz.t227,_,rfl,rfl,rfl,rfl,rfl⟩,by decide⟩
theorem zbl:y2y Tryz.prog 225 (.agg #[(vi 0),(vi 0),(vi 0),(vi 0)]):=y2l (i:=Tryz.t225) rfl rfl
theorem za2:y50 Tryz.prog 225 4:=y2T (i:=Tryz.t225) rfl
theorem y5z:yT Tryz.prog 225 0 0:=yJ (i:=Tryz.t175) Tryz.underlying225 rfl rfl (by decide) rfl
theorem y6k:yT Tryz.prog 225 1 2:=yJ (i:=Tryz.t175) Tryz.underlying225 rfl rfl (by decide) rfl
theorem z3a:y6M Tryz.prog 225 4:=y5n (i:=Tryz.t225) Tryz.underlying225 rfl rfl
theorem zM3:y2y Tryz.prog 178 (.agg #[(vi 0),(vi 0),(vi 0),(vi 0)]):=y2l (i:=Tryz.t178) rfl rfl
theorem zM4:y50 Tryz.prog 178 4:=y2T (i:=Tryz.t178) rfl
theorem zhV:y6M Tryz.prog 178 4:=y5n (i:=Tryz.t178) Tryz.underlying178 rfl rfl
theorem z8A:y5x Tryz.prog 171:=y3f Tryz.underlying171 rfl
theorem zDx:y2y Tryz.prog 231 (.agg #[vn,(vi 0),(vi 0),(vi 0),(vi 0),.nilFunc,vn]):=y2l (i:=Tryz.t231) rfl rfl
theorem zDy:y50 Tryz.prog 231 7:=y2T (i:=Tryz.t231) rfl
theorem ybK:yT Tryz.prog 231 2 5:=yJ (i:=Tryz.t228) Tryz.underlying231 rfl rfl (by decide) rfl
theorem zDz:y50 Tryz.prog 228 1:=y2T (i:=Tryz.t228) rfl
theorem zhW:y6M Tryz.prog 231 7:=y5n (i:=Tryz.t231) Tryz.underlying231 rfl rfl
theorem y7w:yT Tryz.prog 231 0 0:=yJ (i:=Tryz.t171) Tryz.underlying231 rfl rfl (by decide) rfl
theorem zdB:y5x Tryz.prog 227:=y3f Tryz.underlying227 rfl
theorem ybL:yT Tryz.prog 231 1 1:=yJ (i:=Tryz.t178) Tryz.underlying231 rfl rfl (by decide) rfl
theorem y96:yT Tryz.prog 178 0 0:=yJ (i:=Tryz.t175) Tryz.underlying178 rfl rfl (by decide) rfl
theorem y97:yT Tryz.prog 178 1 2:=yJ (i:=Tryz.t175) Tryz.underlying178 rfl rfl (by decide) rfl
theorem zp4:y2y Tryz.prog 277 (.agg #[(vi 0)]):=y2l (i:=Tryz.t277) rfl rfl
theorem zDA:y2y Tryz.prog 307 (.agg #[(vi 0)]):=y2l (i:=Tryz.t307) rfl rfl
theorem zsX:y2y Tryz.prog 229 vn:=y2l (i:=Tryz.t229) rfl rfl
theorem zDB:EqT Tryz.prog 225 y1N:=⟨fun u v w=>by
 have i225_10000:=fun(w:World) (a b:Array Value)=>run_equalIn_agg (P:=Tryz.prog) w 9999 225 a b (by simp[Program.fieldsOf,Tryz.underlying225]) (by kernel_rfl)
 have i175_9999:=fun(w:World) (a b:Array Value)=>run_equalIn_agg (P:=Tryz.prog) w 9998 175 a b (by simp[Program.fieldsOf,Tryz.underlying175]) (by kernel_rfl)
 have i3_9998:=fun(w:World) (a b:Int)=>run_equalIn_int (P:=Tryz.prog) w 9997 3 .i64 .i64 a b Tryz.underlying3
 rw[i225_10000]
 simp[Program.fieldsOf,Op.eqFields,part,y1N,i225_10000,Tryz.underlying225,i175_9999,Tryz.underlying175,i3_9998]
 rcases u with⟨⟨u1,u2⟩,⟨u3,u4⟩⟩
 rcases v with⟨⟨v1,v2⟩,⟨v3,v4⟩⟩
 by_cases h1:u1=v1 <;> by_cases h2:u2=v2 <;> by_cases h3:u3=v3 <;> by_cases h4:u4=v4 <;> simp[h1,h2,h3,h4],by kernel_rfl⟩
theorem z9j:y5x Tryz.prog 229:=y3f Tryz.underlying229 rfl
theorem y98:yT Tryz.prog 307 0 0:=yJ (i:=Tryz.t41) Tryz.underlying307 rfl rfl (by decide) rfl
theorem z2p:elT Tryz.prog 229 175 2 16:=⟨Tryz.underlying229,⟨Tryz.t175,_,rfl,rfl,rfl,rfl,rfl⟩,by decide⟩
theorem zsY:y50 Tryz.prog 229 1:=y2T (i:=Tryz.t229) rfl
theorem zDC:EqT Tryz.prog 175 yA:=⟨fun u v w=>by
 have i175_10000:=fun(w:World) (a b:Array Value)=>run_equalIn_agg (P:=Tryz.prog) w 9999 175 a b (by simp[Program.fieldsOf,Tryz.underlying175]) (by kernel_rfl)
 have i3_9999:=fun(w:World) (a b:Int)=>run_equalIn_int (P:=Tryz.prog) w 9998 3 .i64 .i64 a b Tryz.underlying3
 rw[i175_10000]
 simp[Program.fieldsOf,Op.eqFields,part,yA,i175_10000,Tryz.underlying175,i3_9999]
 rcases u with⟨u1,u2⟩
 rcases v with⟨v1,v2⟩
 by_cases h1:u1=v1 <;> by_cases h2:u2=v2 <;> simp[h1,h2],by kernel_rfl⟩
theorem yhS:fldT Tryz.prog 225 1 2 175:=fldT_of Tryz.underlying225 rfl rfl rfl
theorem y5A:yT Tryz.prog 277 0 0:=yJ (i:=Tryz.t41) Tryz.underlying277 rfl rfl (by decide) rfl
theorem yg1:yT Tryz.prog 231 3 6:=yJ (i:=Tryz.t229) Tryz.underlying231 rfl rfl (by decide) rfl
theorem zDD:y5x Tryz.prog 228:=y3f Tryz.underlying228 rfl
theorem zDE:elT Tryz.prog 181 41 1 8:=⟨Tryz.underlying181,⟨Tryz.t41,_,rfl,rfl,rfl,rfl,rfl⟩,by decide⟩
theorem y8k:y50 Tryz.prog 37 4:=y2T (i:=Tryz.t37) rfl
theorem y77:y6M Tryz.prog 37 4:=y5n (i:=Tryz.t37) Tryz.underlying37 rfl rfl
theorem yhf:y50 Tryz.prog 33 1:=y2T (i:=Tryz.t33) rfl
theorem y78:yT Tryz.prog 37 0 0:=yJ (i:=Tryz.t3) Tryz.underlying37 rfl rfl (by decide) rfl
theorem y8l:yT Tryz.prog 37 1 1:=yJ (i:=Tryz.t3) Tryz.underlying37 rfl rfl (by decide) rfl
theorem yac:yT Tryz.prog 37 2 2:=yJ (i:=Tryz.t3) Tryz.underlying37 rfl rfl (by decide) rfl
theorem ybe:elT Tryz.prog 38 53 3 24:=⟨Tryz.underlying38,⟨Tryz.t53,_,rfl,rfl,rfl,rfl,rfl⟩,by decide⟩
theorem yhg:yT Tryz.prog 53 1 1:=yJ (i:=Tryz.t3) Tryz.underlying53 rfl rfl (by decide) rfl
theorem y99:yT Tryz.prog 40 1 1:=yJ (i:=Tryz.t38) Tryz.underlying40 rfl rfl (by decide) rfl
theorem yhh:y50 Tryz.prog 38 1:=y2T (i:=Tryz.t38) rfl
theorem zeroT_94:y2y Tryz.prog 94 (.agg #[(vi 0),(vi 0)]):=y2l (i:=Tryz.t94) rfl rfl
theorem sizT_94:y50 Tryz.prog 94 2:=y2T (i:=Tryz.t94) rfl
theorem yd7:y6M Tryz.prog 94 2:=y5n (i:=Tryz.t94) Tryz.underlying94 rfl rfl
theorem zDF:y5x Tryz.prog 140:=y3f Tryz.underlying140 rfl
theorem zlA:elT Tryz.prog 140 201 1 8:=⟨Tryz.underlying140,⟨Tryz.t201,_,rfl,rfl,rfl,rfl,rfl⟩,by decide⟩
theorem zM5:y5x Tryz.prog 201:=y3f Tryz.underlying201 rfl
theorem zsZ:y5x Tryz.prog 148:=y3f Tryz.underlying148 rfl
theorem zM6:y2y Tryz.prog 148 (.map none):=y2l (i:=Tryz.t148) rfl rfl
theorem zM7:y50 Tryz.prog 148 1:=y2T (i:=Tryz.t148) rfl
theorem eqT_94:EqT Tryz.prog 94 e94:=⟨fun u v w=>by
 have i94_10000:=fun(w:World) (a b:Array Value)=>run_equalIn_agg (P:=Tryz.prog) w 9999 94 a b (by simp[Program.fieldsOf,Tryz.underlying94]) (by kernel_rfl)
 have i3_9999:=fun(w:World) (a b:Int)=>run_equalIn_int (P:=Tryz.prog) w 9998 3 .i64 .i64 a b Tryz.underlying3
 rw[i94_10000]
 simp[Program.fieldsOf,Op.eqFields,part,e94,i94_10000,Tryz.underlying94,i3_9999]
 rcases u with⟨u1,u2⟩
 rcases v with⟨v1,v2⟩
 by_cases h1:u1=v1 <;> by_cases h2:u2=v2 <;> simp[h1,h2],by kernel_rfl⟩
theorem yeT:KeyT Tryz.prog 94 (fun x=>Value.agg (e94 x).toArray):=ybI Tryz.underlying94 (fun _ _=>rfl) (fun b k w=>by
 have c3_9999:=fun(w:World) (a:Int)=>MapKept.run_checkKey (P:=Tryz.prog) (w:=w) (kt:=3) (k:=.int .i64 a) Tryz.underlying3 (by simp[MapKept.IsKey]) b 9998
 have ck:∀(w:World) (u0:Int) (u1:Int),(Instr.checkKey b 10000 94 (.agg #[.int .i64 u0,.int .i64 u1])).run Tryz.prog w = .ok () w:=fun w u0 u1=>by
  rw[show(10000:Nat)=9999+1 from U,Instr.checkKey]
  simp[run_underlying Tryz.underlying94,c3_9999,part]
 exact ck w k.fNode k.fQ)
 (fun u v w=>eqT_94.eq u v w)
 (fun k=>by simp[Instr.sameBits,e94])
theorem y9a:y2y Tryz.prog 69 (.agg #[(.string ⟨#[]⟩),(.string ⟨#[]⟩),(.string ⟨#[]⟩),(.string ⟨#[]⟩),(vi 0),(vi 0),vn]):=y2l (i:=Tryz.t69) rfl rfl
theorem yhi:y50 Tryz.prog 69 7:=y2T (i:=Tryz.t69) rfl
theorem yeU:yT Tryz.prog 94 0 0:=yJ (i:=Tryz.t3) Tryz.underlying94 rfl rfl (by decide) rfl
theorem zDG:y2y Tryz.prog 140 vn:=y2l (i:=Tryz.t140) rfl rfl
theorem zM8:y50 Tryz.prog 140 1:=y2T (i:=Tryz.t140) rfl
theorem yhj:yT Tryz.prog 94 1 1:=yJ (i:=Tryz.t3) Tryz.underlying94 rfl rfl (by decide) rfl
theorem yd8:yT Tryz.prog 37 3 3:=yJ (i:=Tryz.t3) Tryz.underlying37 rfl rfl (by decide) rfl
theorem zeroT_92:y2y Tryz.prog 92 (.map none):=y2l (i:=Tryz.t92) rfl rfl
theorem sizT_92:y50 Tryz.prog 92 1:=y2T (i:=Tryz.t92) rfl
theorem yhk:y5x Tryz.prog 92:=y3f Tryz.underlying92 rfl
theorem y9r:elT Tryz.prog 46 50 1 24:=⟨Tryz.underlying46,⟨Tryz.t50,_,rfl,rfl,rfl,rfl,rfl⟩,by decide⟩
theorem ybf:y5x Tryz.prog 38:=y3f Tryz.underlying38 rfl
theorem eqT_37:EqT Tryz.prog 37 e37:=⟨fun u v w=>by
 have i37_10000:=fun(w:World) (a b:Array Value)=>run_equalIn_agg (P:=Tryz.prog) w 9999 37 a b (by simp[Program.fieldsOf,Tryz.underlying37]) (by kernel_rfl)
 have i3_9999:=fun(w:World) (a b:Int)=>run_equalIn_int (P:=Tryz.prog) w 9998 3 .i64 .i64 a b Tryz.underlying3
 rw[i37_10000]
 simp[Program.fieldsOf,Op.eqFields,part,e37,i37_10000,Tryz.underlying37,i3_9999]
 rcases u with⟨u1,u2,u3,u4⟩
 rcases v with⟨v1,v2,v3,v4⟩
 by_cases h1:u1=v1 <;> by_cases h2:u2=v2 <;> by_cases h3:u3=v3 <;> by_cases h4:u4=v4 <;> simp[h1,h2,h3,h4],by kernel_rfl⟩
theorem yhl:y6M Tryz.prog 53 3:=y5n (i:=Tryz.t53) Tryz.underlying53 rfl rfl
theorem eqT_53:EqT Tryz.prog 53 e53:=⟨fun u v w=>by
 have i53_10000:=fun(w:World) (a b:Array Value)=>run_equalIn_agg (P:=Tryz.prog) w 9999 53 a b (by simp[Program.fieldsOf,Tryz.underlying53]) (by kernel_rfl)
 have i3_9999:=fun(w:World) (a b:Int)=>run_equalIn_int (P:=Tryz.prog) w 9998 3 .i64 .i64 a b Tryz.underlying3
 rw[i53_10000]
 simp[Program.fieldsOf,Op.eqFields,part,e53,i53_10000,Tryz.underlying53,i3_9999]
 rcases u with⟨u1,u2,u3⟩
 rcases v with⟨v1,v2,v3⟩
 by_cases h1:u1=v1 <;> by_cases h2:u2=v2 <;> by_cases h3:u3=v3 <;> simp[h1,h2,h3],by kernel_rfl⟩
theorem yad:y5x Tryz.prog 50:=y3f Tryz.underlying50 rfl
theorem yhm:KeyT Tryz.prog 56 (fun x=>Value.agg (e56 x).toArray):=ybI Tryz.underlying56 (fun _ _=>rfl) (fun b k w=>by
 have c3_9999:=fun(w:World) (a:Int)=>MapKept.run_checkKey (P:=Tryz.prog) (w:=w) (kt:=3) (k:=.int .i64 a) Tryz.underlying3 (by simp[MapKept.IsKey]) b 9998
 have ck:∀(w:World) (u0:Int) (u1:Int),(Instr.checkKey b 10000 56 (.agg #[.int .i64 u0,.int .i64 u1])).run Tryz.prog w = .ok () w:=fun w u0 u1=>by
  rw[show(10000:Nat)=9999+1 from U,Instr.checkKey]
  simp[run_underlying Tryz.underlying56,c3_9999,part,List.range',Std.Legacy.Range.forIn_eq_forIn_range',Std.Legacy.Range.size]
 exact ck w k.a0 k.a1)
 (fun u v w=>by
 have i3:=fun(w:World) (a b:Int)=>run_equalIn_int (P:=Tryz.prog) w 9998 3 .i64 .i64 a b Tryz.underlying3
 show(Op.equalIn 10000 56 _ _).run _ _=_
 rw[show(10000:Nat)=9999+1 from U,Op.equalIn]
 simp[run_underlying Tryz.underlying56,part,e56,i3,List.range',Std.Legacy.Range.forIn_eq_forIn_range',Std.Legacy.Range.size]
 rcases u with⟨u1,u2⟩
 rcases v with⟨v1,v2⟩
 by_cases h1:u1=v1 <;> by_cases h2:u2=v2 <;> simp[h1,h2])
 (fun k=>by simp[Instr.sameBits,e56])
def y58(routes_58:List (List ze))(zbm:Option Bool):Nat→Int→Option Bool
 | 0,_=>none
 | zt0+1,z6K=>if decide (z6K<((routes_58.length:Nat):Int)) then chk ((0:Int)≤z6K∧z6K<((routes_58.length:Nat):Int)) (if decide ((((nth routes_58 z6K).length:Nat):Int)>40) then some false else y58 routes_58 zbm zt0 (i64 (z6K+1))) else zbm
theorem yci{n:Nat}{routes_58:List (List ze)}{zbm:Option Bool}{z6K:Int}{r:Bool}(h:y58 routes_58 zbm n z6K=some r):∃ m,n=m+1:=by
 cases n with
 | zero=>cases h
 | succ m=>exact⟨m,rfl⟩
def y82(c_33:zs)(routes_58:List (List ze)):Option Bool:=
 if ((((decide (((c_33.fM.length:Nat):Int)>8))||(decide (((c_33.fS.length:Nat):Int)>8)))||(decide (((c_33.fK.length:Nat):Int)>20)))||(decide (((c_33.fVLs.length:Nat):Int)>20)))||(decide (((routes_58.length:Nat):Int)>20)) then some false else jp0 (some true) fun zbm=>y58 routes_58 zbm yx 0
theorem ygT{Z:Zp}{ao_34:Option Addr}{cap_35:Nat}{ao_37:Option Addr}{cap_38:Nat}{ao_40:Option Addr}{cap_41:Nat}{ao_43:Option Addr}{cap_44:Nat}{ao_46:Option Addr}{cap_47:Nat}{ao_49:Option Addr}{cap_50:Nat}{ao_52:Option Addr}{cap_53:Nat}{ao_55:Option Addr}{cap_56:Nat}{ao_59:Option Addr}{cap_60:Nat}{c_33:zs}{routes_58:List (List ze)}{r:Bool}(h:y82 c_33 routes_58=some r)(w₀:World)(hz:PZ [] w₀ Z)(hs_36:ZS Z 4 (y3L Z) ao_34 cap_35 c_33.fM)(hs_39:ZS Z 4 (y4n Z) ao_37 cap_38 c_33.fC0)(hs_42:ZS Z 4 (fun r x=>r=e64 x) ao_40 cap_41 c_33.fS)(hs_45:ZS Z 4 (fun r x=>r=e62 x) ao_43 cap_44 c_33.fK)(hs_48:ZS Z 7 (p69 Z) ao_46 cap_47 c_33.fVLs)(hs_51:ZS Z 5 (fun r x=>r=y4C x) ao_49 cap_50 c_33.fH)(hs_54:ZS Z 3 (y4o Z) ao_52 cap_53 c_33.fU)(hs_57:ZS Z 4 (fun r x=>r=y4D x) ao_55 cap_56 c_33.fV0)(hs_61:ZS Z 1 (p58 Z) ao_59 cap_60 routes_58):
  Calls Tryz.prog 10 #[(.agg #[(.slice ao_34 c_33.fM.length cap_35),(.slice ao_37 c_33.fC0.length cap_38),(.slice ao_40 c_33.fS.length cap_41),(.slice ao_43 c_33.fK.length cap_44),(.slice ao_46 c_33.fVLs.length cap_47),(.slice ao_49 c_33.fH.length cap_50),(.slice ao_52 c_33.fU.length cap_53),(.slice ao_55 c_33.fV0.length cap_56)]),(.slice ao_59 routes_58.length cap_60)] w₀ fun e w'=>e = .returned (.bool r)∧Hp [] w₀ w' []:=by
 unfold y82 at h
 refine Lz Tryz.func10 Tryz.ntmps10 ?_
 refine WC.b<|Ld<|Lg 2 (yI (cs:=[(.slice ao_34 c_33.fM.length cap_35),(.slice ao_37 c_33.fC0.length cap_38),(.slice ao_40 c_33.fS.length cap_41),(.slice ao_43 c_33.fK.length cap_44),(.slice ao_46 c_33.fVLs.length cap_47),(.slice ao_49 c_33.fH.length cap_50),(.slice ao_52 c_33.fU.length cap_53),(.slice ao_55 c_33.fV0.length cap_56)]) U U) ?_
 intro z12S _
 let A:=((c_33.fM.length:Nat):Int);let C:=((c_33.fS.length:Nat):Int);refine La U (WL.nil (Lb (WC.b (WC.b (Ld (Le 7 (ya y6u U U) (Le 8 (yc y6v U (yi .here U)) (Le 9 (yG Tryz.underlying22 U) (La U (La U (Lx false 4 11 (B:=(decide (A>8))||(decide (C>8))) U U U U U U (fun h=>(y7Q h).symm) (fun _ zM9=>?_) ?_)))))))))))
 ·skip
  refine Le 12 (ya y92 U U)<|Le 13 (yc y93 U<|yi .here U)<|Le 14 (yG Tryz.underlying24 U)<|La U<|La U ?_
  exact Ly (y7R zM9) U U .all
 let D:=((c_33.fK.length:Nat):Int);refine La U (Lx false 4 17 (B:=((decide (A>8))||(decide (C>8)))||(decide (D>20))) U U U U U U (fun h=>(y7Q h).symm) (fun _ zMa=>?_) ?_)
 ·skip
  refine Le 18 (ya y74 U U)<|Le 19 (yc y75 U<|yi .here U)<|Le 20 (yG Tryz.underlying25 U)<|La U<|La U ?_
  exact Ly (y7R zMa) U U .all
 let E:=((c_33.fVLs.length:Nat):Int);refine La U (Lx false 4 23 (B:=(((decide (A>8))||(decide (C>8)))||(decide (D>20)))||(decide (E>20))) U U U U U U (fun h=>(y7Q h).symm) (fun _ zMb=>?_) ?_)
 ·skip
  refine Le 24 (ya y7F U U)<|Le 25 (yc y7G U<|yi .here U)<|Le 26 (yG Tryz.underlying26 U)<|La U<|La U ?_
  exact Ly (y7R zMb) U U .all
 let F:=((routes_58.length:Nat):Int);refine La U (Lx false 3 29 (B:=((((decide (A>8))||(decide (C>8)))||(decide (D>20)))||(decide (E>20)))||(decide (F>20))) U U U U U U (fun h=>(y7Q h).symm) (fun _ zMc=>?_) ?_)
 ·skip
  refine La U<|Le 31 (yG Tryz.underlying32 U)<|La U<|La U ?_
  exact Ly (y7R zMc) U U .all
 refine WL.nil<|Lb<|WC.cond U (fun zt1=>?_)<|fun zt1=>?_
 ·replace h:=yr h zt1
  refine WC.b<|Ld<|La U<|WL.nil<|Lb<|WC.ret<|Lj ?_
  obtain rfl:=oJ h
  refine Lh Tryz.results10 (.tmp U .nil)<|fun w hw=>?_
  exact⟨yD U,hw.sub .nil⟩
 ·replace h:=ys h zt1
  refine WC.skip<|Lb ?_
  obtain⟨zbm,zMd,h⟩:=y25 h
  refine L8 ((zbm=some r)) ([]) ([]) ?_ ?_
  ·skip
   refine WC.b<|Ld<|La U<|Le 35 (yG Tryz.underlying32 U)<|La U<|WL.nil<|Lb<|WC.block<|L9 (fun(zhX:Nat) (z6K:Int)=>(y58 routes_58 zbm zhX z6K=some r)) (fun zhX z6K=>[(34,(.slice ao_59 routes_58.length cap_60)),(35,(vi F)),(36,(vi z6K))]) (fun zhX z6K=>[]) (fun zhX z6K=>zhX) ⟨yx,0⟩ h (.r3 U U U) .nil ?_
   rintro zhX z6K h
   obtain⟨zt0,rfl⟩:=yci h
   rw[y58] at h
   refine WC.b<|Ld<|La U<|WL.nil<|Lb<|WC.b<|WC.cond U (fun zt2=>?_)<|fun zt2=>?_
   ·replace h:=yr h zt2
    refine WC.skip<|Lb<|WC.b<|WC.block<|WC.b ?_
    obtain⟨zMe,h⟩:=yl h
    refine Ld<|L0 (dd:=38) U U (Z:=Z) (Pr:=(p58 Z)) y81 U U hs_61 zMe ?_
    rintro z12T z12U zMf z12V ⟨z12W,z12X,rfl,z12Y⟩
    refine Le 39 (yc y6w U<|y3a hz.pv zMf U)<|La U<|WL.nil<|Lb<|WC.b<|Ld<|La U<|Le 41 (yG Tryz.underlying58 U)<|La U<|WL.nil<|Lb<|WC.cond U (fun zt3=>?_)<|fun zt3=>?_
    ·replace h:=yr h zt3
     refine WC.b<|Ld<|La U<|WL.nil<|Lb<|WC.ret<|Lq<|Lj<|Lj<|Lq<|Lj ?_
     obtain rfl:=oJ h
     refine Lh Tryz.results10 (.tmp U .nil)<|fun w hw=>?_
     exact⟨yD U,hw.sub .nil⟩
    ·replace h:=ys h zt3
     refine WC.skip<|Lt<|Lb<|Ld<|La U<|La U<|WL.nil ?_
     exact WX.round ⟨zt0,(i64 (z6K+1))⟩ h (Nat.lt_succ_self _) (.r3 U U U) .nil
   ·replace h:=ys h zt2
    refine WC.exit<|Ln<|Ln<|Lu ?_
    exact Lo () h .nil .nil
  ·rintro  h
   replace h:=zMd.symm.trans h
   refine WC.b<|Ld<|La U<|WL.nil<|Lb<|WC.ret ?_
   obtain rfl:=oJ h
   refine Lh Tryz.results10 (.tmp U .nil)<|fun w hw=>?_
   exact⟨yD U,hw.sub .nil⟩
def y8F  : Option (zs×List (List ze)):=
 some ((⟨([(⟨⟨#[109]⟩,0,0,[]⟩:z6J),(⟨⟨#[110]⟩,0,0,[]⟩:z6J)]:List z6J),[],([(⟨⟨#[115]⟩,0,16,100⟩:z8z)]:List z8z),([(⟨⟨#[109]⟩,⟨#[115]⟩,0,1⟩:z7g),(⟨⟨#[110]⟩,⟨#[115]⟩,0,1⟩:z7g)]:List z7g),([(⟨⟨#[]⟩,(⟨⟨#[]⟩,⟨#[]⟩,⟨#[]⟩⟩:Sapi_Ref),200,40,[]⟩:z14)]:List z14),[],[],[]⟩:zs),([([(⟨0,2,0⟩:ze),(⟨2,1,1⟩:ze)]:List ze)]:List (List ze)))
theorem yeg{Z:Zp}{r:zs×List (List ze)}(h:y8F=some r)(w₀:World)(hz:PZ [] w₀ Z):
  Calls Tryz.prog 19 #[] w₀ fun e w'=>∃ Zn:Zp,∃ zDH:Option Addr,∃ zDI:Nat,∃ zDJ:List Value,∃ zDK:Option Addr,∃ zDL:Nat,∃ zDM:Option Addr,∃ zDN:Nat,∃ zDO:Option Addr,∃ zDP:Nat,∃ zDQ:Option Addr,∃ zDR:Nat,∃ zDS:List Value,∃ zDT:Option Addr,∃ zDU:Nat,∃ zDV:Option Addr,∃ zDW:Nat,∃ zDX:Option Addr,∃ zDY:Nat,∃ zDZ:Option Addr,∃ zE0:Nat,∃ zE1:List Value,e = .returned (.tuple #[(.agg #[(.slice zDH r.1.fM.length zDI),(.slice zDK r.1.fC0.length zDL),(.slice zDM r.1.fS.length zDN),(.slice zDO r.1.fK.length zDP),(.slice zDQ r.1.fVLs.length zDR),(.slice zDT r.1.fH.length zDU),(.slice zDV r.1.fU.length zDW),(.slice zDX r.1.fV0.length zDY)]),(.slice zDZ r.2.length zE0)])∧((RR 4 (y3L (Z++Zn)) zDJ r.1.fM)∧(ZS (Z++Zn) 4 (y4n (Z++Zn)) zDK zDL r.1.fC0)∧(RR 7 (p69 (Z++Zn)) zDS r.1.fVLs)∧(ZS (Z++Zn) 5 (fun r x=>r=y4C x) zDT zDU r.1.fH)∧(ZS (Z++Zn) 3 (y4o (Z++Zn)) zDV zDW r.1.fU)∧(ZS (Z++Zn) 4 (fun r x=>r=y4D x) zDX zDY r.1.fV0)∧(RR 1 (p58 (Z++Zn)) zE1 r.2))∧Hp [] w₀ w' [fz Zn,row (.slice zDH r.1.fM.length zDI) 126 4 zDJ,row (.slice zDM r.1.fS.length zDN) 64 4 (r.1.fS.flatMap e64),row (.slice zDO r.1.fK.length zDP) 62 4 (r.1.fK.flatMap e62),row (.slice zDQ r.1.fVLs.length zDR) 69 7 zDS,row (.slice zDZ r.2.length zE0) 58 1 zE1]:=by
 unfold y8F at h
 refine Calls.on0 Tryz.func19 Tryz.ntmps19 ?_
 refine WC.pool<|WC.b<|Ld (Lg 0 (yv (cs:=[vn,vn,vn,vn,vn,vn,vn,vn]) ydM U) fun z12Z _=>La U<|WL.nil<|Lb<|WC.b<|Ld<|Le 3 (yL (v:=(.agg #[(.string ⟨#[109]⟩),(vi 0),(vi 0),vn])) (Lp (l:=[.const (.string ⟨#[109]⟩)]) (.cons U .nil) [0]) (fun _=>by kernel_rfl))<|Le 4 (yL (v:=(.agg #[(.string ⟨#[110]⟩),(vi 0),(vi 0),vn])) (Lp (l:=[.const (.string ⟨#[110]⟩)]) (.cons U .nil) [0]) (fun _=>by kernel_rfl)) ?_)
 let D:List Value:=[(.string ⟨#[109]⟩),(vi 0),(vi 0),vn,(.string ⟨#[110]⟩),(vi 0),(vi 0),vn];have zMg:RR 4 (y3L (Z++[])) D ([(⟨⟨#[109]⟩,0,0,[]⟩:z6J),(⟨⟨#[110]⟩,0,0,[]⟩:z6J)]:List z6J):=(RR.cons (r:=[(.string ⟨#[109]⟩),(vi 0),(vi 0),vn]) U (show y3L _ _ _ from⟨_,_,U,(ZS.nil _ _ _)⟩) (RR.cons (r:=[(.string ⟨#[110]⟩),(vi 0),(vi 0),vn]) U (show y3L _ _ _ from⟨_,_,U,(ZS.nil _ _ _)⟩) (RR.nil _ _)))
 refine Lg 5 (yS (cs:=[(.string ⟨#[109]⟩),(vi 0),(vi 0),vn,(.string ⟨#[110]⟩),(vi 0),(vi 0),vn]) elT_22 (Lp (l:=[.tmp 3,.tmp 4]) (.r2 U U) [0,1]) (fun _=>by kernel_rfl) U (by unfold maxLen;omega)) fun zE2 _=>Le 6 (yL (v:=(.agg #[(.string ⟨#[115]⟩),(vi 0),(vi 16),(vi 100)])) (Lp (l:=[.const (.string ⟨#[115]⟩),.const (vi 16),.const (vi 100)]) (.r3 U U U) [0,2,3]) (fun _=>by kernel_rfl)) (Lg 7 (yS (cs:=([(⟨⟨#[115]⟩,0,16,100⟩:z8z)]:List z8z).flatMap e64) yba (Lp (l:=[.tmp 6]) (.cons U .nil) [0]) (fun _=>by kernel_rfl) U (by unfold maxLen;omega)) fun zE3 _=>Le 8 (yL (v:=(.agg #[(.string ⟨#[109]⟩),(.string ⟨#[115]⟩),(vi 0),(vi 1)])) (Lp (l:=[.const (.string ⟨#[109]⟩),.const (.string ⟨#[115]⟩),.const (vi 1)]) (.r3 U U U) [0,1,3]) (fun _=>by kernel_rfl))<|Le 9 (yL (v:=(.agg #[(.string ⟨#[110]⟩),(.string ⟨#[115]⟩),(vi 0),(vi 1)])) (Lp (l:=[.const (.string ⟨#[110]⟩),.const (.string ⟨#[115]⟩),.const (vi 1)]) (.r3 U U U) [0,1,3]) (fun _=>by kernel_rfl)) (Lg 10 (yS (cs:=([(⟨⟨#[109]⟩,⟨#[115]⟩,0,1⟩:z7g),(⟨⟨#[110]⟩,⟨#[115]⟩,0,1⟩:z7g)]:List z7g).flatMap e62) y9p (Lp (l:=[.tmp 8,.tmp 9]) (.r2 U U) [0,1]) (fun _=>by kernel_rfl) U (by unfold maxLen;omega)) fun zE4 _=>Le 11 (yL (v:=(.agg #[(.string ⟨#[]⟩),(.string ⟨#[]⟩),(.string ⟨#[]⟩),(.string ⟨#[]⟩),(vi 200),(vi 40),vn])) (Lp (l:=[.const (vi 200),.const (vi 40)]) (.r2 U U) [2,3]) (fun _=>by kernel_rfl)) ?_))
 let A:List Value:=[(.string ⟨#[]⟩),(.string ⟨#[]⟩),(.string ⟨#[]⟩),(.string ⟨#[]⟩),(vi 200),(vi 40),vn];have zMh:RR 7 (p69 (Z++[])) A ([(⟨⟨#[]⟩,(⟨⟨#[]⟩,⟨#[]⟩,⟨#[]⟩⟩:Sapi_Ref),200,40,[]⟩:z14)]:List z14):=(RR.cons (r:=A) U (show p69 _ _ _ from⟨_,_,U,(ZS.nil _ _ _)⟩) (RR.nil _ _))
 refine Lg 12 (yS (cs:=[(.string ⟨#[]⟩),(.string ⟨#[]⟩),(.string ⟨#[]⟩),(.string ⟨#[]⟩),(vi 200),(vi 40),vn]) y9q (Lp (l:=[.tmp 11]) (.cons U .nil) [0]) (fun _=>by kernel_rfl) U (by unfold maxLen;omega)) fun zE5 _=>Le 13 (yL (v:=(.agg #[(.slice (some ⟨zE2,0,none⟩) (([(⟨⟨#[109]⟩,0,0,[]⟩:z6J),(⟨⟨#[110]⟩,0,0,[]⟩:z6J)]:List z6J).length) 2),vn,(.slice (some ⟨zE3,0,none⟩) (([(⟨⟨#[115]⟩,0,16,100⟩:z8z)]:List z8z).length) 1),(.slice (some ⟨zE4,0,none⟩) (([(⟨⟨#[109]⟩,⟨#[115]⟩,0,1⟩:z7g),(⟨⟨#[110]⟩,⟨#[115]⟩,0,1⟩:z7g)]:List z7g).length) 2),(.slice (some ⟨zE5,0,none⟩) (([(⟨⟨#[]⟩,(⟨⟨#[]⟩,⟨#[]⟩,⟨#[]⟩⟩:Sapi_Ref),200,40,[]⟩:z14)]:List z14).length) 1),vn,vn,vn])) (Lp (l:=[.tmp 5,.tmp 7,.tmp 10,.tmp 12]) (.r4 U U U U) [0,2,3,4]) (fun _=>by kernel_rfl)) (Lg 2 (yv (cs:=[vn,vn,vn,vn,vn,vn,vn,vn]) ydM U) fun z130 _=>Ll U U (yn yeQ U U U .here U U U)<|WL.nil<|Lb<|WC.b<|Ld<|Le 14 (yh y1V U (yj .here) U)<|Le 15 (yL (v:=(.agg #[(vi 0),(vi 2),(vi 0)])) (Lp (l:=[.const (vi 0),.const (vi 2),.const (vi 0)]) (.r3 U U U) [0,1,2]) (fun _=>by kernel_rfl))<|Le 16 (yL (v:=(.agg #[(vi 2),(vi 1),(vi 1)])) (Lp (l:=[.const (vi 2),.const (vi 1),.const (vi 1)]) (.r3 U U U) [0,1,2]) (fun _=>by kernel_rfl)) (Lg 17 (yS (cs:=([(⟨0,2,0⟩:ze),(⟨2,1,1⟩:ze)]:List ze).flatMap e60) y5i (Lp (l:=[.tmp 15,.tmp 16]) (.r2 U U) [0,1]) (fun _=>by kernel_rfl) U (by unfold maxLen;omega)) fun zp5 _=>WL.freezeS (ls:=([(⟨0,2,0⟩:ze),(⟨2,1,1⟩:ze)]:List ze)) .here .h6 hz (RR.flat (enc:=e60) (fun _=>U) _) ?_))
 intro zE6 zE7 zMi
 let C:Value:=(.slice (some ⟨zp5,0,none⟩) (([(⟨0,2,0⟩:ze),(⟨2,1,1⟩:ze)]:List ze).length) 2);have zMj:RR 1 (p58 (Z++zE6)) [C] ([([(⟨0,2,0⟩:ze),(⟨2,1,1⟩:ze)]:List ze)]:List (List ze)):=(RR.cons (r:=[C]) U (show p58 _ _ _ from⟨_,_,U,zMi⟩) (RR.nil _ _))
 refine Lg 18 (yS (cs:=[(.slice (some ⟨zp5,0,none⟩) (([(⟨0,2,0⟩:ze),(⟨2,1,1⟩:ze)]:List ze).length) 2)]) y81 (Lp (l:=[.tmp 17]) (.cons U .nil) [0]) (fun _=>by kernel_rfl) U (by unfold maxLen;omega)) fun zMk _=>Ll U U (yn yeQ U U U .h7 U U U)<|La U<|WL.nil<|Lb<|WC.ret ?_
 obtain rfl:=oJ h
 refine Lh Tryz.results19 (.agg U y1V U (yj .here)<|.tmp U .nil)<|fun w hw=>?_
 exact⟨zE6,(some ⟨zE2,0,none⟩),2,D,none,0,(some ⟨zE3,0,none⟩),1,(some ⟨zE4,0,none⟩),2,(some ⟨zE5,0,none⟩),1,A,none,0,none,0,none,0,(some ⟨zMk,0,none⟩),1,[C],y1R U U,⟨(zMg.weak (fun _ _ h=>y1c zE7 h)),(ZS.nil _ _ _),(zMh.weak (fun _ _ h=>y1e zE7 h)),(ZS.nil _ _ _),(ZS.nil _ _ _),(ZS.nil _ _ _),zMj⟩,hw.sub (.s6 .h2 .h6 .h5 .h4 .h3 .h1)⟩
def y5s(z2q:zs):Option Int:=
 some (i64 (((z2q.fM.length:Nat):Int)+((z2q.fS.length:Nat):Int)))
theorem yaR{Z:Zp}{zt4:Option Addr}{zt5:Nat}{zt6:Option Addr}{zt7:Nat}{zt8:Option Addr}{zt9:Nat}{zta:Option Addr}{ztb:Nat}{ztc:Option Addr}{ztd:Nat}{zte:Option Addr}{ztf:Nat}{ztg:Option Addr}{zth:Nat}{zti:Option Addr}{ztj:Nat}{z2q:zs}{r:Int}(h:y5s z2q=some r)(w₀:World)(hz:PZ [] w₀ Z)(z131:ZS Z 4 (y3L Z) zt4 zt5 z2q.fM)(z132:ZS Z 4 (y4n Z) zt6 zt7 z2q.fC0)(z133:ZS Z 4 (fun r x=>r=e64 x) zt8 zt9 z2q.fS)(z134:ZS Z 4 (fun r x=>r=e62 x) zta ztb z2q.fK)(z135:ZS Z 7 (p69 Z) ztc ztd z2q.fVLs)(z136:ZS Z 5 (fun r x=>r=y4C x) zte ztf z2q.fH)(z137:ZS Z 3 (y4o Z) ztg zth z2q.fU)(z138:ZS Z 4 (fun r x=>r=y4D x) zti ztj z2q.fV0):
  Calls Tryz.prog 172 #[(.agg #[(.slice zt4 z2q.fM.length zt5),(.slice zt6 z2q.fC0.length zt7),(.slice zt8 z2q.fS.length zt9),(.slice zta z2q.fK.length ztb),(.slice ztc z2q.fVLs.length ztd),(.slice zte z2q.fH.length ztf),(.slice ztg z2q.fU.length zth),(.slice zti z2q.fV0.length ztj)])] w₀ fun e w'=>e = .returned (vi r)∧Hp [] w₀ w' []:=by
 unfold y5s at h
 refine L6 Tryz.func172 Tryz.ntmps172 ?_
 refine WC.b<|Ld (Lg 1 (yI (cs:=[(.slice zt4 z2q.fM.length zt5),(.slice zt6 z2q.fC0.length zt7),(.slice zt8 z2q.fS.length zt9),(.slice zta z2q.fK.length ztb),(.slice ztc z2q.fVLs.length ztd),(.slice zte z2q.fH.length ztf),(.slice ztg z2q.fU.length zth),(.slice zti z2q.fV0.length ztj)]) U U) fun z139 _=>La U<|WL.nil<|Lb<|WC.b<|Ld<|Le 3 (ya y6u U U)<|Le 4 (yc y6v U<|yi .here U)<|Le 5 (yG Tryz.underlying22 U)<|Le 6 (ya y92 U U)<|Le 7 (yc y93 U<|yi .here U)<|Le 8 (yG Tryz.underlying24 U)<|La U<|La U<|WL.nil<|Lb<|WC.ret ?_)
 obtain rfl:=oJ h
 refine Lh Tryz.results172 (.tmp U .nil)<|fun w hw=>?_
 exact⟨yD U,hw.sub .nil⟩
def y6x(z1T:zs)(z8B:Int):Option ByteArray:=
 (if decide (z8B<0) then some true else(y5s z1T).bind fun zE8=>some (decide (z8B≥zE8))).bind fun ztk=>if ztk then some ⟨#[]⟩ else if decide (z8B<((z1T.fM.length:Nat):Int)) then chk ((0:Int)≤z8B∧z8B<((z1T.fM.length:Nat):Int)) (some ((nth z1T.fM z8B).fName)) else chk ((0:Int)≤(i64 (z8B-((z1T.fM.length:Nat):Int)))∧(i64 (z8B-((z1T.fM.length:Nat):Int)))<((z1T.fS.length:Nat):Int)) (some ((nth z1T.fS (i64 (z8B-((z1T.fM.length:Nat):Int)))).fName))
theorem yeV{Z:Zp}{ztl:Option Addr}{ztm:Nat}{ztn:Option Addr}{zto:Nat}{ztp:Option Addr}{ztq:Nat}{ztr:Option Addr}{zts:Nat}{ztt:Option Addr}{ztu:Nat}{ztv:Option Addr}{ztw:Nat}{ztx:Option Addr}{zty:Nat}{ztz:Option Addr}{ztA:Nat}{z1T:zs}{z8B:Int}{r:ByteArray}(h:y6x z1T z8B=some r)(w₀:World)(hz:PZ [] w₀ Z)(zE9:ZS Z 4 (y3L Z) ztl ztm z1T.fM)(zMl:ZS Z 4 (y4n Z) ztn zto z1T.fC0)(zEa:ZS Z 4 (fun r x=>r=e64 x) ztp ztq z1T.fS)(zMm:ZS Z 4 (fun r x=>r=e62 x) ztr zts z1T.fK)(zMn:ZS Z 7 (p69 Z) ztt ztu z1T.fVLs)(zMo:ZS Z 5 (fun r x=>r=y4C x) ztv ztw z1T.fH)(zMp:ZS Z 3 (y4o Z) ztx zty z1T.fU)(zMq:ZS Z 4 (fun r x=>r=y4D x) ztz ztA z1T.fV0):
  Calls Tryz.prog 173 #[(.agg #[(.slice ztl z1T.fM.length ztm),(.slice ztn z1T.fC0.length zto),(.slice ztp z1T.fS.length ztq),(.slice ztr z1T.fK.length zts),(.slice ztt z1T.fVLs.length ztu),(.slice ztv z1T.fH.length ztw),(.slice ztx z1T.fU.length zty),(.slice ztz z1T.fV0.length ztA)]),(vi z8B)] w₀ fun e w'=>e = .returned (.string r)∧Hp [] w₀ w' []:=by
 unfold y6x at h
 refine Lz Tryz.func173 Tryz.ntmps173 ?_
 refine WC.b<|Ld (Lg 2 (yI (cs:=[(.slice ztl z1T.fM.length ztm),(.slice ztn z1T.fC0.length zto),(.slice ztp z1T.fS.length ztq),(.slice ztr z1T.fK.length zts),(.slice ztt z1T.fVLs.length ztu),(.slice ztv z1T.fH.length ztw),(.slice ztx z1T.fU.length zty),(.slice ztz z1T.fV0.length ztA)]) U U) fun z13a _=>La U<|WL.nil<|Lb<|WC.b<|Ld<|Le 6 (ya y6u U U)<|Le 7 (yc y6v U<|yi .here U)<|Le 8 (yG Tryz.underlying22 U)<|La U<|WL.nil<|Lb<|WC.block<|WC.b ?_)
 obtain⟨ztk,zEb,h⟩:=za h
 refine Ld<|La U<|La U<|La U<|Lx false 4 20 (B:=ztk) U U U U U U (fun h=>(oJ<|yr zEb h).symm) (fun _ zMr=>?_) ?_
 ·skip
  have zlB:=ys zEb zMr
  obtain⟨zE8,zMs,zlB⟩:=za zlB
  replace zlB:=oJ zlB
  refine La U<|Le 22 (yh y1V U (yj .here) U)<|Lk 23 (zb Tryz.call172<|.cons U .nil) .nil (cc hz .nil fun w pz ho=>yaR zMs w pz zE9 zMl zEa zMm zMn zMo zMp zMq)<|La U<|La U ?_
  exact Ly zlB U U .all
 refine La U<|WL.nil<|Lb<|WC.cond U (fun ztB=>?_)<|fun ztB=>?_
 ·replace h:=yr h ztB
  refine WC.b<|Ld<|La U<|WL.nil<|Lb<|WC.ret<|Lq ?_
  obtain rfl:=oJ h
  refine Lh Tryz.results173 (.tmp U .nil)<|fun w hw=>?_
  exact⟨yD U,hw.sub .nil⟩
 ·replace h:=ys h ztB
  refine WC.b<|Ld<|La U<|La U<|La U<|La U<|WL.nil<|Lb<|WC.cond U (fun ztC=>?_)<|fun ztC=>?_
  ·replace h:=yr h ztC
   refine WC.b ?_
   obtain⟨zMt,h⟩:=yl h
   refine Ld<|Le 30 (ya y6u U U)<|Le 31 (yc y6v U<|yi .here U)<|La U<|L0 (dd:=33) U U (Z:=Z) (Pr:=(y3L Z)) elT_22 U U zE9 zMt ?_
   rintro z13b z13c zMu z13d ⟨z13e,z13f,rfl,z13g⟩
   refine Le 34 (ya fo_126_0 U U)<|Le 35 (yc yef U<|y17 hz.pv zMu U)<|La U<|WL.nil<|Lb<|WC.ret<|Lq ?_
   obtain rfl:=oJ h
   refine Lh Tryz.results173 (.tmp U .nil)<|fun w hw=>?_
   exact⟨yD U,hw.sub .nil⟩
  ·replace h:=ys h ztC
   refine WC.b ?_
   obtain⟨zMv,h⟩:=yl h
   refine Ld<|Le 9 (ya y92 U U)<|Le 10 (yc y93 U<|yi .here U)<|La U<|La U<|La U<|L0 (dd:=14) U U (Z:=Z) (Pr:=(fun r x=>r=e64 x)) yba U U zEa zMv ?_
   rintro z13h z13i zMw z13j rfl
   refine Le 15 (ya fo_64_0 U U)<|Le 16 (yc yef U<|y17 hz.pv zMw U)<|La U<|WL.nil<|Lb<|WC.ret<|Lq ?_
   obtain rfl:=oJ h
   refine Lh Tryz.results173 (.tmp U .nil)<|fun w hw=>?_
   exact⟨yD U,hw.sub .nil⟩
def y3t(zbn:Int)(z1q:zs)(z9k:ByteArray)(zbo:Option Int):Nat→Int→Option Int
 | 0,_=>none
 | ztD+1,z7i=>if decide (z7i<zbn) then(y6x z1q z7i).bind fun zEc=>if decide (zEc=z9k) then some z7i else y3t zbn z1q z9k zbo ztD (i64 (z7i+1)) else zbo
theorem yaV{n:Nat}{zbn:Int}{z1q:zs}{z9k:ByteArray}{zbo:Option Int}{z7i:Int}{r:Int}(h:y3t zbn z1q z9k zbo n z7i=some r):∃ m,n=m+1:=by
 cases n with
 | zero=>cases h
 | succ m=>exact⟨m,rfl⟩
def y3p(z1q:zs)(z9k:ByteArray):Option Int:=
 jp0 (some (-1)) fun zbo=>(y5s z1q).bind fun zbn=>y3t zbn z1q z9k zbo yx 0
theorem ybg{Z:Zp}{zp6:Option Addr}{zp7:Nat}{zp8:Option Addr}{zp9:Nat}{zpa:Option Addr}{zpb:Nat}{zpc:Option Addr}{zpd:Nat}{zpe:Option Addr}{zpf:Nat}{zpg:Option Addr}{zph:Nat}{zpi:Option Addr}{zpj:Nat}{zpk:Option Addr}{zpl:Nat}{z1q:zs}{z9k:ByteArray}{r:Int}(h:y3p z1q z9k=some r)(w₀:World)(hz:PZ [] w₀ Z)(zEd:ZS Z 4 (y3L Z) zp6 zp7 z1q.fM)(zEe:ZS Z 4 (y4n Z) zp8 zp9 z1q.fC0)(zEf:ZS Z 4 (fun r x=>r=e64 x) zpa zpb z1q.fS)(zEg:ZS Z 4 (fun r x=>r=e62 x) zpc zpd z1q.fK)(zEh:ZS Z 7 (p69 Z) zpe zpf z1q.fVLs)(zEi:ZS Z 5 (fun r x=>r=y4C x) zpg zph z1q.fH)(zEj:ZS Z 3 (y4o Z) zpi zpj z1q.fU)(zEk:ZS Z 4 (fun r x=>r=y4D x) zpk zpl z1q.fV0):
  Calls Tryz.prog 140 #[(.agg #[(.slice zp6 z1q.fM.length zp7),(.slice zp8 z1q.fC0.length zp9),(.slice zpa z1q.fS.length zpb),(.slice zpc z1q.fK.length zpd),(.slice zpe z1q.fVLs.length zpf),(.slice zpg z1q.fH.length zph),(.slice zpi z1q.fU.length zpj),(.slice zpk z1q.fV0.length zpl)]),(.string z9k)] w₀ fun e w'=>e = .returned (vi r)∧Hp [] w₀ w' []:=by
 unfold y3p at h
 refine Lz Tryz.func140 Tryz.ntmps140 ?_
 let A:List Value:=[(.slice zp6 z1q.fM.length zp7),(.slice zp8 z1q.fC0.length zp9),(.slice zpa z1q.fS.length zpb),(.slice zpc z1q.fK.length zpd),(.slice zpe z1q.fVLs.length zpf),(.slice zpg z1q.fH.length zph),(.slice zpi z1q.fU.length zpj),(.slice zpk z1q.fV0.length zpl)];refine WC.b (Ld (Lg 2 (yI (cs:=A) U U) ?_))
 intro zEl _
 refine La U<|WL.nil<|Lb ?_
 obtain⟨zbo,zMx,h⟩:=y25 h
 refine L8 ((zbo=some r)) ([]) ([]) ?_ ?_
 ·skip
  refine WC.b ?_
  obtain⟨zbn,zMy,h⟩:=za h
  refine Ld<|Le 6 (yh y1V U (yj .here) U)<|Lk 7 (zb Tryz.call172<|.cons U .nil) .nil (cc hz .nil fun w pz ho=>yaR zMy w pz zEd zEe zEf zEg zEh zEi zEj zEk)<|La U<|WL.nil<|Lb<|WC.block<|L9 (fun(zhY:Nat) (z7i:Int)=>(y3t zbn z1q z9k zbo zhY z7i=some r)) (fun zhY z7i=>[(1,(.string z9k)),(2,(vp zEl)),(7,(vi zbn)),(8,(vi z7i))]) (fun zhY z7i=>[stb zEl 31 A]) (fun zhY z7i=>zhY) ⟨yx,0⟩ h (.r4 U U U U) (.cons .here .nil) ?_
  rintro zhY z7i h
  obtain⟨ztD,rfl⟩:=yaV h
  rw[y3t] at h
  refine WC.b<|Ld<|La U<|WL.nil<|Lb<|WC.b<|WC.cond U (fun ztE=>?_)<|fun ztE=>?_
  ·replace h:=yr h ztE
   refine WC.skip<|Lb<|WC.b<|WC.block<|WC.b<|Ld<|La U<|La U<|WL.nil<|Lb<|WC.b ?_
   obtain⟨zEc,zMz,h⟩:=za h
   refine Ld<|Le 11 (yh y1V U (yj .here) U)<|La U<|Lk 13 (zb Tryz.call173<|.r2 U U) .nil (cc hz .nil fun w pz ho=>yeV zMz w pz zEd zEe zEf zEg zEh zEi zEj zEk)<|La U<|Le 15 (q_seql U U)<|WL.nil<|Lb<|WC.cond U (fun ztF=>?_)<|fun ztF=>?_
   ·replace h:=yr h ztF
    refine WC.b<|Ld<|La U<|La U<|WL.nil<|Lb<|WC.ret<|Lq<|Lj<|Lj<|Lq<|Lj ?_
    obtain rfl:=oJ h
    refine Lh Tryz.results140 (.tmp U .nil)<|fun w hw=>?_
    exact⟨yD U,hw.sub .nil⟩
   ·replace h:=ys h ztF
    refine WC.skip<|Lt<|Lb<|Ld<|La U<|La U<|WL.nil ?_
    exact WX.round ⟨ztD,(i64 (z7i+1))⟩ h (Nat.lt_succ_self _) (.r4 U U U U)<|.cons .here .nil
  ·replace h:=ys h ztE
   refine WC.exit<|Ln<|Ln<|Lu ?_
   exact Lo () h .nil .nil
 ·rintro  h
  replace h:=zMx.symm.trans h
  refine WC.b<|Ld<|La U<|WL.nil<|Lb<|WC.ret ?_
  obtain rfl:=oJ h
  refine Lh Tryz.results140 (.tmp U .nil)<|fun w hw=>?_
  exact⟨yD U,hw.sub .nil⟩
def y5K(zG:zs)(zdC:Int)(z2S:Int):Option Bool:=
 if decide (z2S<((zG.fM.length:Nat):Int)) then some (decide (z2S≥0)) else chk ((0:Int)≤(i64 (z2S-((zG.fM.length:Nat):Int)))∧(i64 (z2S-((zG.fM.length:Nat):Int)))<((zG.fS.length:Nat):Int)) (some (((((decide (((nth zG.fS (i64 (z2S-((zG.fM.length:Nat):Int)))).fNet)=zdC))&&(decide (((nth zG.fS (i64 (z2S-((zG.fM.length:Nat):Int)))).fDelay)≥0)))&&(decide (((nth zG.fS (i64 (z2S-((zG.fM.length:Nat):Int)))).fDelay)≤1000)))&&(decide (((nth zG.fS (i64 (z2S-((zG.fM.length:Nat):Int)))).fT)≥0)))&&(decide (((nth zG.fS (i64 (z2S-((zG.fM.length:Nat):Int)))).fT)≤1073741824))))
theorem ybh{Z:Zp}{ztG:Option Addr}{ztH:Nat}{ztI:Option Addr}{ztJ:Nat}{ztK:Option Addr}{ztL:Nat}{ztM:Option Addr}{ztN:Nat}{ztO:Option Addr}{ztP:Nat}{ztQ:Option Addr}{ztR:Nat}{ztS:Option Addr}{ztT:Nat}{ztU:Option Addr}{ztV:Nat}{zG:zs}{zdC:Int}{z2S:Int}{r:Bool}(h:y5K zG zdC z2S=some r)(w₀:World)(hz:PZ [] w₀ Z)(z13k:ZS Z 4 (y3L Z) ztG ztH zG.fM)(z13l:ZS Z 4 (y4n Z) ztI ztJ zG.fC0)(zMA:ZS Z 4 (fun r x=>r=e64 x) ztK ztL zG.fS)(z13m:ZS Z 4 (fun r x=>r=e62 x) ztM ztN zG.fK)(z13n:ZS Z 7 (p69 Z) ztO ztP zG.fVLs)(z13o:ZS Z 5 (fun r x=>r=y4C x) ztQ ztR zG.fH)(z13p:ZS Z 3 (y4o Z) ztS ztT zG.fU)(z13q:ZS Z 4 (fun r x=>r=y4D x) ztU ztV zG.fV0):
  Calls Tryz.prog 141 #[(.agg #[(.slice ztG zG.fM.length ztH),(.slice ztI zG.fC0.length ztJ),(.slice ztK zG.fS.length ztL),(.slice ztM zG.fK.length ztN),(.slice ztO zG.fVLs.length ztP),(.slice ztQ zG.fH.length ztR),(.slice ztS zG.fU.length ztT),(.slice ztU zG.fV0.length ztV)]),(vi zdC),(vi z2S)] w₀ fun e w'=>e = .returned (.bool r)∧Hp [] w₀ w' []:=by
 unfold y5K at h
 refine Ke Tryz.func141 Tryz.ntmps141 ?_
 refine WC.b<|Ld (Lg 3 (yI (cs:=[(.slice ztG zG.fM.length ztH),(.slice ztI zG.fC0.length ztJ),(.slice ztK zG.fS.length ztL),(.slice ztM zG.fK.length ztN),(.slice ztO zG.fVLs.length ztP),(.slice ztQ zG.fH.length ztR),(.slice ztS zG.fU.length ztT),(.slice ztU zG.fV0.length ztV)]) U U) fun z13r _=>La U<|WL.nil<|Lb<|WC.b<|WC.b<|Ld<|La U<|Le 9 (ya y6u U U)<|Le 10 (yc y6v U<|yi .here U)<|Le 11 (yG Tryz.underlying22 U)<|La U<|WL.nil<|Lb<|WC.cond U (fun ztW=>?_)<|fun ztW=>?_)
 ·replace h:=yr h ztW
  refine WC.b<|Ld<|La U<|La U<|La U<|WL.nil<|Lb<|WC.ret<|Lj ?_
  obtain rfl:=oJ h
  refine Lh Tryz.results141 (.tmp U .nil)<|fun w hw=>?_
  exact⟨yD U,hw.sub .nil⟩
 ·replace h:=ys h ztW
  refine WC.skip<|Lb<|WC.b ?_
  obtain⟨zMB,h⟩:=yl h
  refine Ld<|Le 15 (ya y92 U U)<|Le 16 (yc y93 U<|yi .here U)<|La U<|Le 18 (ya y6u U U)<|Le 19 (yc y6v U<|yi .here U)<|Le 20 (yG Tryz.underlying22 U)<|La U<|L0 (dd:=22) U U (Z:=Z) (Pr:=(fun r x=>r=e64 x)) yba U U zMA zMB ?_
  rintro z13s z13t zMC z13u rfl
  refine Le 23 (yh aggT_64 U (y2d hz.pv zMC) U)<|Lg 7 (yv (cs:=[(.string ⟨#[]⟩),(vi 0),(vi 0),(vi 0)]) zeroT_64 U) ?_
  intro z13v _
  let A:=(i64 (z2S-((zG.fM.length:Nat):Int)));refine Ll U U (yn sizT_64 U U U .here U U U) (WL.nil (Lb (WC.b (Ld (Le 24 (ya fo_64_1 U U) (Le 25 (yc yq U (yi .here U)) (La U (La U (La U (Lx true 3 28 (B:=(decide (((nth zG.fS A).fNet)=zdC))&&(decide (((nth zG.fS A).fDelay)≥0))) U U U U U U (fun h=>(y3W h).symm) (fun _ zMD=>?_) ?_))))))))))
  ·skip
   refine Le 29 (ya ybb U U)<|Le 30 (yc yq U<|yi .here U)<|La U<|La U ?_
   exact Ly (y3X zMD) U U .all
  refine La U<|Lx true 3 33 (B:=((decide (((nth zG.fS A).fNet)=zdC))&&(decide (((nth zG.fS A).fDelay)≥0)))&&(decide (((nth zG.fS A).fDelay)≤1000))) U U U U U U (fun h=>(y3W h).symm) (fun _ zME=>?_) ?_
  ·skip
   refine Le 34 (ya ybb U U)<|Le 35 (yc yq U<|yi .here U)<|La U<|La U ?_
   exact Ly (y3X zME) U U .all
  refine La U<|Lx true 3 38 (B:=(((decide (((nth zG.fS A).fNet)=zdC))&&(decide (((nth zG.fS A).fDelay)≥0)))&&(decide (((nth zG.fS A).fDelay)≤1000)))&&(decide (((nth zG.fS A).fT)≥0))) U U U U U U (fun h=>(y3W h).symm) (fun _ zMF=>?_) ?_
  ·skip
   refine Le 39 (ya yhe U U)<|Le 40 (yc yq U<|yi .here U)<|La U<|La U ?_
   exact Ly (y3X zMF) U U .all
  refine La U<|Lx true 3 43 (B:=((((decide (((nth zG.fS A).fNet)=zdC))&&(decide (((nth zG.fS A).fDelay)≥0)))&&(decide (((nth zG.fS A).fDelay)≤1000)))&&(decide (((nth zG.fS A).fT)≥0)))&&(decide (((nth zG.fS A).fT)≤1073741824))) U U U U U U (fun h=>(y3W h).symm) (fun _ zMG=>?_) ?_
  ·skip
   refine Le 44 (ya yhe U U)<|Le 45 (yc yq U<|yi .here U)<|La U<|La U ?_
   exact Ly (y3X zMG) U U .all
  refine La U<|WL.nil<|Lb<|WC.ret ?_
  obtain rfl:=oJ h
  refine Lh Tryz.results141 (.tmp U .nil)<|fun w hw=>?_
  exact⟨yD U,hw.sub .nil⟩
def y65(z1a:zs)(zbp:Int)(z3A:Int)(z9l:Int)(z9m:Int):Option Bool:=
 if (decide (z3A<0))||(decide (z3A≥((z1a.fK.length:Nat):Int))) then some false else chk ((0:Int)≤z3A∧z3A<((z1a.fK.length:Nat):Int)) ((y3p z1a ((nth z1a.fK z3A).fA)).bind fun z8C=>(y3p z1a ((nth z1a.fK z3A).fB)).bind fun z8D=>(if (((decide (((nth z1a.fK z3A).fNet)=zbp))&&(decide (((nth z1a.fK z3A).fSlow)≥1)))&&(decide (((nth z1a.fK z3A).fSlow)≤16)))&&(decide (z8C≠z8D)) then(y5K z1a zbp z8C).bind fun zEm=>some zEm else some false).bind fun ztX=>(if ztX then(y5K z1a zbp z8D).bind fun zEn=>some zEn else some false).bind fun zpm=>some (zpm&&(((decide (z8C=z9l))&&(decide (z8D=z9m)))||((decide (z8C=z9m))&&(decide (z8D=z9l))))))
theorem yeh{Z:Zp}{ztY:Option Addr}{ztZ:Nat}{zu0:Option Addr}{zu1:Nat}{zu2:Option Addr}{zu3:Nat}{zu4:Option Addr}{zu5:Nat}{zu6:Option Addr}{zu7:Nat}{zu8:Option Addr}{zu9:Nat}{zua:Option Addr}{zub:Nat}{zuc:Option Addr}{zud:Nat}{z1a:zs}{zbp:Int}{z3A:Int}{z9l:Int}{z9m:Int}{r:Bool}(h:y65 z1a zbp z3A z9l z9m=some r)(w₀:World)(hz:PZ [] w₀ Z)(zpn:ZS Z 4 (y3L Z) ztY ztZ z1a.fM)(zpo:ZS Z 4 (y4n Z) zu0 zu1 z1a.fC0)(zpp:ZS Z 4 (fun r x=>r=e64 x) zu2 zu3 z1a.fS)(zlC:ZS Z 4 (fun r x=>r=e62 x) zu4 zu5 z1a.fK)(zpq:ZS Z 7 (p69 Z) zu6 zu7 z1a.fVLs)(zpr:ZS Z 5 (fun r x=>r=y4C x) zu8 zu9 z1a.fH)(zps:ZS Z 3 (y4o Z) zua zub z1a.fU)(zpt:ZS Z 4 (fun r x=>r=y4D x) zuc zud z1a.fV0):
  Calls Tryz.prog 93 #[(.agg #[(.slice ztY z1a.fM.length ztZ),(.slice zu0 z1a.fC0.length zu1),(.slice zu2 z1a.fS.length zu3),(.slice zu4 z1a.fK.length zu5),(.slice zu6 z1a.fVLs.length zu7),(.slice zu8 z1a.fH.length zu9),(.slice zua z1a.fU.length zub),(.slice zuc z1a.fV0.length zud)]),(vi zbp),(vi z3A),(vi z9l),(vi z9m)] w₀ fun e w'=>e = .returned (.bool r)∧Hp [] w₀ w' []:=by
 unfold y65 at h
 refine Calls.on5 Tryz.func93 Tryz.ntmps93 ?_
 refine WC.b<|Ld (Lg 5 (yI (cs:=[(.slice ztY z1a.fM.length ztZ),(.slice zu0 z1a.fC0.length zu1),(.slice zu2 z1a.fS.length zu3),(.slice zu4 z1a.fK.length zu5),(.slice zu6 z1a.fVLs.length zu7),(.slice zu8 z1a.fH.length zu9),(.slice zua z1a.fU.length zub),(.slice zuc z1a.fV0.length zud)]) U U) fun z13w _=>La U<|WL.nil<|Lb<|WC.b<|WC.b<|Ld<|La U<|La U<|La U<|Lx false 5 16 (B:=(decide (z3A<0))||(decide (z3A≥((z1a.fK.length:Nat):Int)))) U U U U U U (fun h=>(y7Q h).symm) (fun _ zMH=>?_) ?_)
 ·skip
  refine La U<|Le 18 (ya y74 U U)<|Le 19 (yc y75 U<|yi .here U)<|Le 20 (yG Tryz.underlying25 U)<|La U<|La U ?_
  exact Ly (y7R zMH) U U .all
 refine WL.nil<|Lb<|WC.cond U (fun zue=>?_)<|fun zue=>?_
 ·replace h:=yr h zue
  refine WC.b<|Ld<|La U<|WL.nil<|Lb<|WC.ret<|Lj ?_
  obtain rfl:=oJ h
  refine Lh Tryz.results93 (.tmp U .nil)<|fun w hw=>?_
  exact⟨yD U,hw.sub .nil⟩
 ·replace h:=ys h zue
  refine WC.skip<|Lb<|WC.b ?_
  obtain⟨zMI,h⟩:=yl h
  refine Ld<|Le 23 (ya y74 U U)<|Le 24 (yc y75 U<|yi .here U)<|La U<|L0 (dd:=26) U U (Z:=Z) (Pr:=(fun r x=>r=e62 x)) y9p U U zlC zMI ?_
  rintro z13x z13y zMJ z13z rfl
  refine Le 27 (yh aggT_62 U (y2d hz.pv zMJ) U) (Lg 11 (yv (cs:=[(.string ⟨#[]⟩),(.string ⟨#[]⟩),(vi 0),(vi 0)]) zeroT_62 U) fun z13A _=>Ll U U (yn sizT_62 U U U .here U U U)<|WL.nil<|Lb<|WC.b ?_)
  obtain⟨z8C,zMK,h⟩:=za h
  obtain⟨z8D,zML,h⟩:=za h
  refine Lv (fun i=>[].contains i) [] U<|Li 0 28 U (yh y1V U (yj .h1) U)<|Lf 1 29 U (fun _=>ya fo_62_0 U U)<|Li 2 30 U (yc yef U<|yi .here U)<|L4 3 31 U (zb Tryz.call140<|.r2 U U) (cc hz .nil fun w pz ho=>ybg zMK w pz zpn zpo zpp zlC zpq zpr zps zpt)<|Li 4 32 U (yh y1V U (yj .h1) U)<|Lf 5 33 U (fun _=>ya fo_62_1 U U)<|Li 6 34 U (yc yef U<|yi .here U)<|L4 7 35 U (zb Tryz.call140<|.r2 U U) (cc hz .nil fun w pz ho=>ybg zML w pz zpn zpo zpp zlC zpq zpr zps zpt)<|Lf 8 12 U (fun _=>q_z U)<|Lf 9 13 U (fun _=>q_z U)<|WD.done (by kernel_rfl)<|Lb<|WC.b ?_
  obtain⟨ztX,zEo,h⟩:=za h
  obtain⟨zpm,zEp,h⟩:=za h
  refine Ld<|Le 36 (ya fo_62_2 U U)<|Le 37 (yc yq U<|yi .here U)<|La U<|La U<|La U<|Lx true 3 40 (B:=(decide (((nth z1a.fK z3A).fNet)=zbp))&&(decide (((nth z1a.fK z3A).fSlow)≥1))) U U U U U U (fun h=>(y3W h).symm) (fun _ zMM=>?_) ?_
  ·skip
   refine Le 41 (ya y8j U U)<|Le 42 (yc yq U<|yi .here U)<|La U<|La U ?_
   exact Ly (y3X zMM) U U .all
  refine La U<|Lx true 3 45 (B:=((decide (((nth z1a.fK z3A).fNet)=zbp))&&(decide (((nth z1a.fK z3A).fSlow)≥1)))&&(decide (((nth z1a.fK z3A).fSlow)≤16))) U U U U U U (fun h=>(y3W h).symm) (fun _ zMN=>?_) ?_
  ·skip
   refine Le 46 (ya y8j U U)<|Le 47 (yc yq U<|yi .here U)<|La U<|La U ?_
   exact Ly (y3X zMN) U U .all
  refine La U<|Lx true 3 50 (B:=(((decide (((nth z1a.fK z3A).fNet)=zbp))&&(decide (((nth z1a.fK z3A).fSlow)≥1)))&&(decide (((nth z1a.fK z3A).fSlow)≤16)))&&(decide (z8C≠z8D))) U U U U U U (fun h=>(y3W h).symm) (fun _ zMO=>?_) ?_
  ·skip
   refine La U<|La U<|La U<|La U ?_
   exact Ly (y3X zMO) U U .all
  refine La U<|Lx true 4 55 (B:=ztX) U U U U U U (fun h=>(oJ<|ys zEo h).symm) (fun _ zMP=>?_) ?_
  ·skip
   have zlD:=yr zEo zMP
   obtain⟨zEm,zMQ,zlD⟩:=za zlD
   replace zlD:=oJ zlD
   refine Le 56 (yh y1V U (yj .h1) U)<|La U<|La U<|Lk 59 (zb Tryz.call141<|.r3 U U U) .nil (cc hz .nil fun w pz ho=>ybh zMQ w pz zpn zpo zpp zlC zpq zpr zps zpt)<|La U ?_
   exact Ly zlD U U .all
  refine La U<|Lx true 4 61 (B:=zpm) U U U U U U (fun h=>(oJ<|ys zEp h).symm) (fun _ zMR=>?_) ?_
  ·skip
   have zlE:=yr zEp zMR
   obtain⟨zEn,zMS,zlE⟩:=za zlE
   replace zlE:=oJ zlE
   refine Le 62 (yh y1V U (yj .h1) U)<|La U<|La U<|Lk 65 (zb Tryz.call141<|.r3 U U U) .nil (cc hz .nil fun w pz ho=>ybh zMS w pz zpn zpo zpp zlC zpq zpr zps zpt)<|La U ?_
   exact Ly zlE U U .all
  refine La U<|Lx true 18 67 (B:=zpm&&(((decide (z8C=z9l))&&(decide (z8D=z9m)))||((decide (z8C=z9m))&&(decide (z8D=z9l))))) U U U U U U (fun h=>(y3W h).symm) (fun _ zMT=>?_) ?_
  ·skip
   refine La U<|La U<|La U<|La U<|Lx true 3 71 (B:=(decide (z8C=z9l))&&(decide (z8D=z9m))) U U U U U U (fun h=>(y3W h).symm) (fun _ zMU=>?_) ?_
   ·skip
    refine La U<|La U<|La U<|La U ?_
    exact Ly (y3X zMU) U U .all
   refine La U<|Lx false 8 76 (B:=((decide (z8C=z9l))&&(decide (z8D=z9m)))||((decide (z8C=z9m))&&(decide (z8D=z9l)))) U U U U U U (fun h=>(y7Q h).symm) (fun _ zMV=>?_) ?_
   ·skip
    refine La U<|La U<|La U<|La U<|Lx true 3 80 (B:=(decide (z8C=z9m))&&(decide (z8D=z9l))) U U U U U U (fun h=>(y3W h).symm) (fun _ zMW=>?_) ?_
    ·skip
     refine La U<|La U<|La U<|La U ?_
     exact Ly (y3X zMW) U U .all
    refine La U ?_
    exact Ly (y7R zMV) U U .all
   refine La U ?_
   exact Ly (y3X zMT) U U .all
  refine La U<|WL.nil<|Lb<|WC.ret ?_
  obtain rfl:=oJ h
  refine Lh Tryz.results93 (.tmp U .nil)<|fun w hw=>?_
  exact⟨yD U,hw.sub .nil⟩
def y3c(zo:List ze)(zW:zs)(z5w:Int)(zbq:Option Bool):Nat→Int→(List (Int×Int))→Option Bool
 | 0,_,_=>none
 | zuf+1,zt,z68=>if decide (zt<((zo.length:Nat):Int)) then chk ((0:Int)≤zt∧zt<((zo.length:Nat):Int)) (jp1 (fun(z2f:List (Int×Int))=>chk (((decide ((yf z2f ((nth zo zt).fNode) 0)=0))||(decide ((yf z2f ((nth zo zt).fNext) 0)>0)))=false→((decide (zt>0))=true→((0:Int)≤0∧0<((zo.length:Nat):Int)))) ((if ((decide ((yf z2f ((nth zo zt).fNode) 0)=0))||(decide ((yf z2f ((nth zo zt).fNext) 0)>0)))||(((decide (zt>0))&&(decide (((nth zo zt).fNode)≠((nth zo 0).fNode))))&&(decide (((nth zo zt).fNode)<((zW.fM.length:Nat):Int)))) then some true else(y65 zW z5w ((nth zo zt).fQ) ((nth zo zt).fNode) ((nth zo zt).fNext)).bind fun zEq=>some (!zEq)).bind fun zug=>if zug then some false else y3c zo zW z5w zbq zuf (i64 (zt+1)) (yF z2f ((nth zo zt).fNext) (i64 ((yf z2f ((nth zo zt).fNext) 0)+1))))) fun zpu=>if decide (zt=0) then zpu (yF z68 ((nth zo zt).fNode) (i64 ((yf z68 ((nth zo zt).fNode) 0)+1))) else zpu z68) else zbq
theorem yaE{n:Nat}{zo:List ze}{zW:zs}{z5w:Int}{zbq:Option Bool}{zt:Int}{z68:List (Int×Int)}{r:Bool}(h:y3c zo zW z5w zbq n zt z68=some r):∃ m,n=m+1:=by
 cases n with
 | zero=>cases h
 | succ m=>exact⟨m,rfl⟩
def y66(zW:zs)(z5w:Int)(zo:List ze):Option Bool:=
 jp0 (some (decide (((zo.length:Nat):Int)≤32))) fun zbq=>y3c zo zW z5w zbq yx 0 ([]:List (Int×Int))
theorem yei{Z:Zp}{zlF:Option Addr}{zlG:Nat}{zlH:Option Addr}{zlI:Nat}{zlJ:Option Addr}{zlK:Nat}{zlL:Option Addr}{zlM:Nat}{zlN:Option Addr}{zlO:Nat}{zlP:Option Addr}{zlQ:Nat}{zlR:Option Addr}{zlS:Nat}{zlT:Option Addr}{zlU:Nat}{z5x:Option Addr}{z5y:Nat}{zW:zs}{z5w:Int}{zo:List ze}{r:Bool}(h:y66 zW z5w zo=some r)(w₀:World)(hz:PZ [] w₀ Z)(zMX:ZS Z 4 (y3L Z) zlF zlG zW.fM)(zMY:ZS Z 4 (y4n Z) zlH zlI zW.fC0)(zMZ:ZS Z 4 (fun r x=>r=e64 x) zlJ zlK zW.fS)(zN0:ZS Z 4 (fun r x=>r=e62 x) zlL zlM zW.fK)(zN1:ZS Z 7 (p69 Z) zlN zlO zW.fVLs)(zN2:ZS Z 5 (fun r x=>r=y4C x) zlP zlQ zW.fH)(zN3:ZS Z 3 (y4o Z) zlR zlS zW.fU)(zN4:ZS Z 4 (fun r x=>r=y4D x) zlT zlU zW.fV0)(zEr:ZS Z 3 (fun r x=>r=e60 x) z5x z5y zo):
  Calls Tryz.prog 52 #[(.agg #[(.slice zlF zW.fM.length zlG),(.slice zlH zW.fC0.length zlI),(.slice zlJ zW.fS.length zlK),(.slice zlL zW.fK.length zlM),(.slice zlN zW.fVLs.length zlO),(.slice zlP zW.fH.length zlQ),(.slice zlR zW.fU.length zlS),(.slice zlT zW.fV0.length zlU)]),(vi z5w),(.slice z5x zo.length z5y)] w₀ fun e w'=>e = .returned (.bool r)∧Hp [] w₀ w' []:=by
 unfold y66 at h
 refine Ke Tryz.func52 Tryz.ntmps52 ?_
 let A:List Value:=[(.slice zlF zW.fM.length zlG),(.slice zlH zW.fC0.length zlI),(.slice zlJ zW.fS.length zlK),(.slice zlL zW.fK.length zlM),(.slice zlN zW.fVLs.length zlO),(.slice zlP zW.fH.length zlQ),(.slice zlR zW.fU.length zlS),(.slice zlT zW.fV0.length zlU)];refine WC.b (Ld (Lg 3 (yI (cs:=A) U U) ?_))
 intro zbr _
 refine La U<|WL.nil<|Lb<|WC.b<|Ld (Lg 10 (y3b (Value.int .i64)<|Value.int .i64) fun zbs _=>La U<|WL.nil<|Lb ?_)
 obtain⟨zbq,zN5,h⟩:=y25 h
 let C:Value:=(.slice z5x zo.length z5y);refine L8 ((zbq=some r)) ([(2,C)]) ([]) ?_ ?_
 ·skip
  refine WC.b<|Ld<|La U<|Le 12 (yG Tryz.underlying58 U)<|La U<|WL.nil<|Lb<|WC.block<|WC.y8S (fun(zhZ:Nat) (zt:Int) (z68:List (Int×Int))=>(y3c zo zW z5w zbq zhZ zt z68=some r)) (fun zhZ zt z68=>[(1,(vi z5w)),(2,C),(3,(vp zbr)),(7,(.map<|some zbs)),(11,C),(12,(vi ((zo.length:Nat):Int))),(13,(vi zt))]) (fun zhZ zt z68=>[stb zbr 31 A,ym zbs (Value.int .i64) (Value.int .i64) z68]) (fun zhZ zt z68=>zhZ) ⟨yx,0,([]:List (Int×Int))⟩ h (.r7 U U U U U U U) (.s2 .h1 .here) ?_
  rintro zhZ zt z68 h
  obtain⟨zuf,rfl⟩:=yaE h
  rw[y3c] at h
  refine WC.b<|Ld<|La U<|WL.nil<|Lb<|WC.b<|WC.cond U (fun zuh=>?_)<|fun zuh=>?_
  ·replace h:=yr h zuh
   refine WC.skip<|Lb<|WC.b<|WC.block<|WC.b ?_
   obtain⟨zN6,h⟩:=yl h
   refine Ld<|La U<|L0 (dd:=16) U U (Z:=Z) (Pr:=(fun r x=>r=e60 x)) y5i U U zEr zN6 ?_
   rintro z13B z13C zN7 z13D rfl
   refine Le 17 (yh y3z U (y2d hz.pv zN7) U) (Lg 9 (yv (cs:=[(vi 0),(vi 0),(vi 0)]) y5N U) fun zfN _=>La U<|Ll U U (yn y60 U U U .here U U U)<|WL.nil<|Lb ?_)
   obtain⟨zpu,zN8,h⟩:=yZ h
   refine Kf (fun(z2f:List (Int×Int))=>(zpu z2f=some r)) (fun z2f=>[(1,(vi z5w)),(2,C),(3,(vp zbr)),(7,(.map<|some zbs)),(8,(vi zt)),(9,(vp zfN)),(11,C),(12,(vi ((zo.length:Nat):Int))),(13,(vi zt))]) (fun z2f=>[stb zbr 31 A,ym zbs (Value.int .i64) (Value.int .i64) z2f,stb zfN 60 [(vi<|(nth zo zt).fNode),(vi<|(nth zo zt).fNext),(vi<|(nth zo zt).fQ)]]) ?_ ?_
   ·skip
    refine WC.b<|Ld<|La U<|La U<|WL.nil<|Lb<|WC.cond U (fun zui=>?_)<|fun zui=>?_
    ·replace h:=yr h zui
     refine Ld<|La U<|Le 21 (ya y32 U U)<|Le 22 (yc yq U<|yi .here U)<|Le 23 (y2C (k:=((nth zo zt).fNode)) (dflt:=(0:Int)) y43 Tryz.underlying148 y2v U U U .h2)<|La U<|Ll U U (y3o (k:=((nth zo zt).fNode)) (v:=i64 ((yf z68 ((nth zo zt).fNode) 0)+1)) y43 Tryz.underlying148 U U U U .h2)<|WL.nil ?_
     exact Lo (yF z68 ((nth zo zt).fNode)<|i64 ((yf z68 ((nth zo zt).fNode) 0)+1)) h (.r9 U U U U U U U U U)<|.s3 .h2 .here .here
    ·replace h:=ys h zui
     refine WC.skip ?_
     exact Lo z68 h (.r9 U U U U U U U U U)<|.s3 .h1 .h1 .here
   ·rintro z2f h
    replace h:=(zN8 z2f).symm.trans h
    refine WC.b<|WC.b ?_
    obtain⟨zN9,h⟩:=yl h
    obtain⟨zug,zEs,h⟩:=za h
    let E:Value:=(vi ((zo.length:Nat):Int));let F:Value:=(.bool ((decide ((yf z2f ((nth zo zt).fNode) 0)=0))||(decide ((yf z2f ((nth zo zt).fNext) 0)>0))));refine Lv (fun i=>[].contains i) [] U (Lf 0 25 U (fun _=>q_m U) (Lf 1 26 U (fun _=>ya y32 U U) (Li 2 27 U (yc yq U (yi .h2 U)) (Li 3 28 U (y2C (k:=((nth zo zt).fNode)) (dflt:=(0:Int)) y43 Tryz.underlying148 y2v U U U .h1) (Lf 4 29 U (fun _=>y9U U U) (Lf 5 30 U (fun _=>q_m U) (Kb (fuel':=33) [(1,(vi z5w)),(2,C),(3,(vp zbr)),(7,(.map (some zbs))),(8,(vi zt)),(9,(vp zfN)),(11,C),(12,E),(13,(vi zt)),(30,(.bool (decide ((yf z2f ((nth zo zt).fNode) 0)=0)))),(36,F)] (y1U 45 [11,10,9,8,7,6,5,4,3,2,1,0]) ?_ (fun zEt=>?_))))))))
    rotate_left
    ·rcases Bool.eq_false_or_eq_true (decide ((yf z2f ((nth zo zt).fNode) 0)=0)) with hb' | hb'
     ·have zuj:=hb';clear hb'
      refine L2 (i:=30) U zuj<|Lm 6 31 U<|Lm 7 32 U<|Lm 8 33 U<|Lm 9 34 U<|Lm 10 35 U<|Lf 11 36 U (fun _=>y3x U U)<|Lw (.a3) ?_ zEt
      exact .r11 U U U U U U U U U (zD<|Eq.symm zuj)<|zD<|y7Q zuj
     ·have zuk:=hb';clear hb'
      refine L2 (i:=30) U zuk<|Lf 6 31 U (fun _=>q_m U)<|Lf 7 32 U (fun _=>ya y5p U U)<|Li 8 33 U (yc yq U<|yi .h2 U)<|Li 9 34 U (y2C (k:=((nth zo zt).fNext)) (dflt:=(0:Int)) y43 Tryz.underlying148 y2v U U U .h1)<|Lf 10 35 U (fun _=>ye4 U U)<|Lf 11 36 U (fun _=>y3y U U)<|Lw (.a3) ?_ zEt
      exact .r11 U U U U U U U U U (zD<|Eq.symm zuk)<|zD<|y7R zuk
    let H:=((zW.fM.length:Nat):Int);let D:Value:=(.bool (((decide ((yf z2f ((nth zo zt).fNode) 0)=0))||(decide ((yf z2f ((nth zo zt).fNext) 0)>0)))||(((decide (zt>0))&&(decide (((nth zo zt).fNode)≠((nth zo 0).fNode))))&&(decide (((nth zo zt).fNode)<H)))));refine WD.d #[true,true,true,true,true,true,true,true,true,true,true,true,false,false,false,false,false,false,false,false,false,false,false,false,false,false,false,false,false,false,false,false,false,false,false,false,false,false,false,false,false,false,false,false,false] (by kernel_rfl) (Lf 12 37 U (fun _=>q_m U) (Kb (fuel':=12) [(1,(vi z5w)),(2,C),(3,(vp zbr)),(7,(.map (some zbs))),(9,(vp zfN)),(11,C),(12,E),(13,(vi zt)),(37,F),(57,D)] (y1U 45 [32,31,30,29,28,27,26,25,24,23,22,21,20,19,18,17,16,15,14,13,12,11,10,9,8,7,6,5,4,3,2,1,0]) ?_ (fun zEu=>?_)))
    rotate_left
    ·rcases Bool.eq_false_or_eq_true ((decide ((yf z2f ((nth zo zt).fNode) 0)=0))||(decide ((yf z2f ((nth zo zt).fNext) 0)>0))) with hb' | hb'
     ·have zul:=hb';clear hb'
      refine L2 (i:=37) U zul<|Lm 13 38 U<|Lm 14 39 U<|Lm 15 40 U<|Lm 16 41 U<|Lm 17 42 U<|Lm 18 43 U<|Lm 19 44 U<|Lm 20 45 U<|Lm 21 46 U<|Lm 22 47 U<|Lm 23 48 U<|Lm 24 49 U<|Lm 25 50 U<|Lm 26 51 U<|Lm 27 52 U<|Lm 28 53 U<|Lm 29 54 U<|Lm 30 55 U<|Lm 31 56 U<|Lf 32 57 U (fun _=>y3x U U)<|Lw (.a3) ?_ zEu
      exact .r10 U U U U U U U U (zD<|Eq.symm zul)<|zD<|y7Q zul
     ·have zpv:=hb';clear hb'
      have zNa:=zN9 zpv
      let G:Value:=(.bool ((decide (zt>0))&&(decide (((nth zo zt).fNode)≠((nth zo 0).fNode)))));refine L2 (i:=37) U zpv (Lf 13 38 U (fun _=>q_m U) (Lf 14 39 U (fun _=>ye4 U U) (Lf 15 40 U (fun _=>q_m U) (Kb (fuel':=21) [(1,(vi z5w)),(2,C),(3,(vp zbr)),(7,(.map (some zbs))),(9,(vp zfN)),(11,C),(12,E),(13,(vi zt)),(37,(.bool false)),(40,(.bool (decide (zt>0)))),(48,G)] (y1U 45 [23,22,21,20,19,18,17,16,15,14,13,12,11,10,9,8,7,6,5,4,3,2,1,0]) ?_ (fun zEv=>?_)))))
      rotate_left
      ·rcases Bool.eq_false_or_eq_true (decide (zt>0)) with hb' | hb'
       ·have zpw:=hb';clear hb'
        have zNb:=zNa zpw
        refine L2 (i:=40) U zpw<|Lf 16 41 U (fun _=>ya y32 U U)<|Li 17 42 U (yc yq U<|yi .h2 U)<|Lf 18 43 U (fun _=>q_m U)<|L5 (j:=19) (dd:=44) (by kernel_rfl) U z1Z z20 U U (Z:=Z) (Pr:=(fun r x=>r=e60 x)) y5i U U zEr zNb ?_
        rintro z13E z13F zNc z13G rfl
        refine Lf 20 45 U (fun _=>ya y32 U U)<|Li 21 46 U (yc yq U<|y17 hz.pv zNc U)<|Lf 22 47 U (fun _=>yd1 U U)<|Lf 23 48 U (fun _=>y3x U U)<|Lw (.a3) ?_ zEv
        exact .r11 U U U U U U U U U (zD<|Eq.symm zpw)<|zD<|y3X zpw
       ·have zum:=hb';clear hb'
        refine L2 (i:=40) U zum<|Lm 16 41 U<|Lm 17 42 U<|Lm 18 43 U<|Lm 19 44 U<|Lm 20 45 U<|Lm 21 46 U<|Lm 22 47 U<|Lf 23 48 U (fun _=>y3y U U)<|Lw (.a3) ?_ zEv
        exact .r11 U U U U U U U U U (zD<|Eq.symm zum)<|zD<|y3W zum
      refine WD.d #[true,true,true,true,true,true,true,true,true,true,true,true,true,true,true,true,true,true,true,true,true,true,true,true,false,false,false,false,false,false,false,false,false,false,false,false,false,false,false,false,false,false,false,false,false] (by kernel_rfl)<|Lf 24 49 U (fun _=>q_m U)<|Kb (fuel':=13) [(1,(vi z5w)),(2,C),(3,(vp zbr)),(7,(.map<|some zbs)),(9,(vp zfN)),(11,C),(12,E),(13,(vi zt)),(37,(.bool false)),(49,G),(56,(.bool<|((decide (zt>0))&&(decide (((nth zo zt).fNode)≠((nth zo 0).fNode))))&&(decide (((nth zo zt).fNode)<H))))] (y1U 45 [31,30,29,28,27,26,25,24,23,22,21,20,19,18,17,16,15,14,13,12,11,10,9,8,7,6,5,4,3,2,1,0]) ?_<|fun zEw=>?_
      rotate_left
      ·rcases Bool.eq_false_or_eq_true ((decide (zt>0))&&(decide (((nth zo zt).fNode)≠((nth zo 0).fNode)))) with hb' | hb'
       ·have zun:=hb';clear hb'
        refine L2 (i:=49) U zun<|Lf 25 50 U (fun _=>ya y32 U U)<|Li 26 51 U (yc yq U<|yi .h2 U)<|Lf 27 52 U (fun _=>ya y6u U U)<|Li 28 53 U (yc y6v U<|yi .here U)<|Lf 29 54 U (fun _=>yG Tryz.underlying22 U)<|Lf 30 55 U (fun _=>ye3 U U)<|Lf 31 56 U (fun _=>y3x U U)<|Lw (.a3) ?_ zEw
        exact .r11 U U U U U U U U U (zD<|Eq.symm zun)<|zD<|y3X zun
       ·have zuo:=hb';clear hb'
        refine L2 (i:=49) U zuo<|Lm 25 50 U<|Lm 26 51 U<|Lm 27 52 U<|Lm 28 53 U<|Lm 29 54 U<|Lm 30 55 U<|Lf 31 56 U (fun _=>y3y U U)<|Lw (.a3) ?_ zEw
        exact .r11 U U U U U U U U U (zD<|Eq.symm zuo)<|zD<|y3W zuo
      refine WD.d #[true,true,true,true,true,true,true,true,true,true,true,true,true,true,true,true,true,true,true,true,true,true,true,true,true,true,true,true,true,true,true,true,false,false,false,false,false,false,false,false,false,false,false,false,false] (by kernel_rfl)<|Lf 32 57 U (fun _=>y3y U U)<|Lw (.a3) ?_ zEu
      exact .r10 U U U U U U U U (zD<|Eq.symm zpv)<|zD<|y7R zpv
    refine WD.d #[true,true,true,true,true,true,true,true,true,true,true,true,true,true,true,true,true,true,true,true,true,true,true,true,true,true,true,true,true,true,true,true,true,false,false,false,false,false,false,false,false,false,false,false,false] (by kernel_rfl)<|Lf 33 58 U (fun _=>q_m U)<|Kb (fuel':=0) [(1,(vi z5w)),(2,C),(3,(vp zbr)),(7,(.map<|some zbs)),(9,(vp zfN)),(11,C),(12,E),(13,(vi zt)),(58,D),(69,(.bool zug))] (y1U 45 [44,43,42,41,40,39,38,37,36,35,34,33,32,31,30,29,28,27,26,25,24,23,22,21,20,19,18,17,16,15,14,13,12,11,10,9,8,7,6,5,4,3,2,1,0]) ?_<|fun zEx=>?_
    rotate_left
    ·rcases Bool.eq_false_or_eq_true (((decide ((yf z2f ((nth zo zt).fNode) 0)=0))||(decide ((yf z2f ((nth zo zt).fNext) 0)>0)))||(((decide (zt>0))&&(decide (((nth zo zt).fNode)≠((nth zo 0).fNode))))&&(decide (((nth zo zt).fNode)<H)))) with hb' | hb'
     ·have zup:=hb';clear hb'
      have zuq:=yr zEs zup
      replace zuq:=oJ zuq
      refine L2 (i:=58) U zup<|Lm 34 59 U<|Lm 35 60 U<|Lm 36 61 U<|Lm 37 62 U<|Lm 38 63 U<|Lm 39 64 U<|Lm 40 65 U<|Lm 41 66 U<|Lm 42 67 U<|Lm 43 68 U<|Lf 44 69 U (fun _=>y3x U U)<|Lw (.a3) ?_ zEx
      exact .r10 U U U U U U U U (zD<|Eq.symm zup)<|zD zuq
     ·have zur:=hb';clear hb'
      have zlV:=ys zEs zur
      obtain⟨zEq,zNd,zlV⟩:=za zlV
      replace zlV:=oJ zlV
      refine L2 (i:=58) U zur<|Li 34 59 U (yh y1V U (yj .here) U)<|Lf 35 60 U (fun _=>q_m U)<|Lf 36 61 U (fun _=>ya y76 U U)<|Li 37 62 U (yc yq U<|yi .h2 U)<|Lf 38 63 U (fun _=>ya y32 U U)<|Li 39 64 U (yc yq U<|yi .h2 U)<|Lf 40 65 U (fun _=>ya y5p U U)<|Li 41 66 U (yc yq U<|yi .h2 U)<|L4 42 67 U (zb Tryz.call93<|.r5 U U U U U) (cc hz .nil fun w pz ho=>yeh zNd w pz zMX zMY zMZ zN0 zN1 zN2 zN3 zN4)<|Lf 43 68 U (fun _=>q_not U)<|Lf 44 69 U (fun _=>y3y U U)<|Lw (.a3) ?_ zEx
      exact .r10 U U U U U U U U (zD<|Eq.symm zur)<|zD zlV
    refine WD.d #[true,true,true,true,true,true,true,true,true,true,true,true,true,true,true,true,true,true,true,true,true,true,true,true,true,true,true,true,true,true,true,true,true,true,true,true,true,true,true,true,true,true,true,true,true] (by kernel_rfl)<|WD.done (by kernel_rfl)<|Lb<|WC.cond U (fun zus=>?_)<|fun zus=>?_
    ·replace h:=yr h zus
     refine WC.b<|Ld<|La U<|WL.nil<|Lb<|WC.ret<|Lj<|Lq<|Lj<|Lj<|Lq<|Lj ?_
     obtain rfl:=oJ h
     refine Lh Tryz.results52 (.tmp U .nil)<|fun w hw=>?_
     exact⟨yD U,hw.sub .nil⟩
    ·replace h:=ys h zus
     refine WC.skip<|Lb<|Ld<|La U<|Le 71 (ya y5p U U)<|Le 72 (yc yq U<|yi .h2 U)<|Le 73 (y2C (k:=((nth zo zt).fNext)) (dflt:=(0:Int)) y43 Tryz.underlying148 y2v U U U .h1)<|La U<|Ll U U (y3o (k:=((nth zo zt).fNext)) (v:=i64 ((yf z2f ((nth zo zt).fNext) 0)+1)) y43 Tryz.underlying148 U U U U .h1)<|WL.nil<|Lt<|Lb<|Ld<|La U<|La U<|WL.nil ?_
     exact WX.round ⟨zuf,(i64 (zt+1)),(yF z2f ((nth zo zt).fNext)<|i64 ((yf z2f ((nth zo zt).fNext) 0)+1))⟩ h (Nat.lt_succ_self _) (.r7 U U U U U U U)<|.s2 .h1 .here
  ·replace h:=ys h zuh
   refine WC.exit<|Ln<|Ln<|Lu ?_
   exact Lo () h (.cons U .nil) .nil
 ·rintro  h
  replace h:=zN5.symm.trans h
  refine WC.b<|Ld<|La U<|Le 77 (yG Tryz.underlying58 U)<|La U<|La U<|WL.nil<|Lb<|WC.ret ?_
  obtain rfl:=oJ h
  refine Lh Tryz.results52 (.tmp U .nil)<|fun w hw=>?_
  exact⟨yD U,hw.sub .nil⟩
def y1x(zlW:List ze)(z4y:zs)(zpx:Int):Option Bool:=
 (y66 z4y zpx zlW).bind fun zEy=>some (!zEy)
theorem ydk{Z:Zp}{zEz:Option Addr}{zEA:Nat}{zEB:Addr}{zEC:Option Addr}{zED:Nat}{zEE:Option Addr}{zEF:Nat}{zEG:Option Addr}{zEH:Nat}{zEI:Option Addr}{zEJ:Nat}{zEK:Option Addr}{zEL:Nat}{zEM:Option Addr}{zEN:Nat}{zEO:Option Addr}{zEP:Nat}{zEQ:Option Addr}{zER:Nat}{zES:Addr}{zlW:List ze}{z4y:zs}{zpx:Int}{r:Bool}(h:y1x zlW z4y zpx=some r)(w₀:World)(hz:PZ [] w₀ Z)(zNe:ZS Z 3 (fun r x=>r=e60 x) zEz zEA zlW)(zNf:ZS Z 4 (y3L Z) zEC zED z4y.fM)(zNg:ZS Z 4 (y4n Z) zEE zEF z4y.fC0)(zNh:ZS Z 4 (fun r x=>r=e64 x) zEG zEH z4y.fS)(zNi:ZS Z 4 (fun r x=>r=e62 x) zEI zEJ z4y.fK)(zNj:ZS Z 7 (p69 Z) zEK zEL z4y.fVLs)(zNk:ZS Z 5 (fun r x=>r=y4C x) zEM zEN z4y.fH)(zNl:ZS Z 3 (y4o Z) zEO zEP z4y.fU)(zNm:ZS Z 4 (fun r x=>r=y4D x) zEQ zER z4y.fV0)(zNn:ZC Z zEB [(.slice zEC z4y.fM.length zED),(.slice zEE z4y.fC0.length zEF),(.slice zEG z4y.fS.length zEH),(.slice zEI z4y.fK.length zEJ),(.slice zEK z4y.fVLs.length zEL),(.slice zEM z4y.fH.length zEN),(.slice zEO z4y.fU.length zEP),(.slice zEQ z4y.fV0.length zER)])(zNo:ZC Z zES [(vi zpx)]):
  Calls Tryz.prog 51 #[(.slice zEz zlW.length zEA),(vq zEB),(vq zES)] w₀ fun e w'=>e = .returned (.bool r)∧Hp [] w₀ w' []:=by
 unfold y1x at h
 refine Ke Tryz.func51 Tryz.ntmps51 ?_
 refine WC.b<|Ld<|La U<|WL.nil<|Lb<|WC.b ?_
 obtain⟨zEy,zNp,h⟩:=za h
 refine Ld<|Le 5 (yh y1V U (y2d hz.pv zNn) U)<|Le 6 (yc yq U<|y3a hz.pv zNo U)<|La U<|Lk 8 (zb Tryz.call52<|.r3 U U U) .nil (cc hz .nil fun w pz ho=>yei zNp w pz zNf zNg zNh zNi zNj zNk zNl zNm zNe)<|La U<|La U<|WL.nil<|Lb<|WC.ret ?_
 obtain rfl:=oJ h
 refine Lh Tryz.results51 (.tmp U .nil)<|fun w hw=>?_
 exact⟨yD U,hw.sub .nil⟩
def yO(z69:List (List ze))(z9n:(List ze)→Option Bool)(zbt:Option Int):Nat→Int→Option Int
 | 0,_=>none
 | zut+1,z5z=>if decide (z5z<((z69.length:Nat):Int)) then chk ((0:Int)≤z5z∧z5z<((z69.length:Nat):Int)) ((z9n (nth z69 z5z)).bind fun zuu=>if zuu then some z5z else yO z69 z9n zbt zut (i64 (z5z+1))) else zbt
theorem y5W{n:Nat}{z69:List (List ze)}{z9n:(List ze)→Option Bool}{zbt:Option Int}{z5z:Int}{r:Int}(h:yO z69 z9n zbt n z5z=some r):∃ m,n=m+1:=by
 cases n with
 | zero=>cases h
 | succ m=>exact⟨m,rfl⟩
def y1S(z69:List (List ze))(z9n:(List ze)→Option Bool):Option Int:=
 jp0 (some (-1)) fun zbt=>yO z69 z9n zbt yx 0
theorem y7a(Z:Zp)(zuv:Option Addr)(zuw:Nat)(zfO:FuncId)(zlX:List Value)(z69:List (List ze))(z9n:(List ze)→Option Bool)(r:Int)(h:y1S z69 z9n=some r)(w₀:World)(hz:PZ [] w₀ Z)(zNq:ZS Z 1 (p58 Z) zuv zuw z69)(zNr:∀ args w,(callFunc zfO args).run Tryz.prog w = .ok (.enter zfO args) w)(zNs:∀ w:World,PZ [] w Z→∀(x0:List ze) (ao0:Option Addr) (cap0:Nat) (r:Bool),ZS Z 3 (fun r x=>r=e60 x) ao0 cap0 x0→z9n x0=some r→Calls Tryz.prog zfO (([(.slice ao0 x0.length cap0)]:List Value)++zlX).toArray w fun e w'=>e = .returned (.bool r)∧Hp [] w w' []):
  Calls Tryz.prog 92 #[(.slice zuv z69.length zuw),(.func (.func zfO) #[] (zlX).toArray)] w₀ fun e w'=>e = .returned (vi r)∧Hp [] w₀ w' []:=by
 unfold y1S at h
 refine Lz Tryz.func92 Tryz.ntmps92 ?_
 refine WC.b<|Ld<|La U<|WL.nil<|Lb ?_
 obtain⟨zbt,zNt,h⟩:=y25 h
 refine L8 ((zbt=some r)) ([]) ([]) ?_ ?_
 ·skip
  refine WC.b<|Ld<|La U<|Le 7 (yG Tryz.underlying32 U)<|La U<|WL.nil<|Lb<|WC.block<|L9 (fun(zi0:Nat) (z5z:Int)=>(yO z69 z9n zbt zi0 z5z=some r)) (fun zi0 z5z=>[(0,(.slice zuv z69.length zuw)),(1,(.func (.func zfO) #[] (zlX).toArray)),(7,(vi ((z69.length:Nat):Int))),(8,(vi z5z))]) (fun zi0 z5z=>[]) (fun zi0 z5z=>zi0) ⟨yx,0⟩ h (.r4 U U U U) .nil ?_
  rintro zi0 z5z h
  obtain⟨zut,rfl⟩:=y5W h
  rw[yO] at h
  refine WC.b<|Ld<|La U<|WL.nil<|Lb<|WC.b<|WC.cond U (fun zux=>?_)<|fun zux=>?_
  ·replace h:=yr h zux
   refine WC.skip<|Lb<|WC.b<|WC.block<|WC.b<|Ld<|La U<|La U<|WL.nil<|Lb<|WC.b ?_
   obtain⟨zNu,h⟩:=yl h
   obtain⟨zuu,zNv,h⟩:=za h
   refine Ld<|La U<|La U<|La U<|L0 (dd:=14) U U (Z:=Z) (Pr:=(p58 Z)) y81 U U zNq zNu ?_
   rintro z13H z13I zNw z13J ⟨zNx,zNy,rfl,zNz⟩
   refine Le 15 (yc y6w U<|y3a hz.pv zNw U)<|Lk 16 (y2G (l:=[.tmp 15]) (f:=zfO) (caps:=zlX) zNr U<|.cons U .nil) .nil (fun w hw=>zNs w (hz.now hw) (nth z69 z5z) zNx zNy zuu zNz zNv)<|WL.nil<|Lb<|WC.cond U (fun zuy=>?_)<|fun zuy=>?_
   ·replace h:=yr h zuy
    refine WC.b<|Ld<|La U<|La U<|WL.nil<|Lb<|WC.ret<|Lq<|Lj<|Lj<|Lq<|Lj ?_
    obtain rfl:=oJ h
    refine Lh Tryz.results92 (.tmp U .nil)<|fun w hw=>?_
    exact⟨yD U,hw.sub .nil⟩
   ·replace h:=ys h zuy
    refine WC.skip<|Lt<|Lb<|Ld<|La U<|La U<|WL.nil ?_
    exact WX.round ⟨zut,(i64 (z5z+1))⟩ h (Nat.lt_succ_self _) (.r4 U U U U) .nil
  ·replace h:=ys h zux
   refine WC.exit<|Ln<|Ln<|Lu ?_
   exact Lo () h .nil .nil
 ·rintro  h
  replace h:=zNt.symm.trans h
  refine WC.b<|Ld<|La U<|WL.nil<|Lb<|WC.ret ?_
  obtain rfl:=oJ h
  refine Lh Tryz.results92 (.tmp U .nil)<|fun w hw=>?_
  exact⟨yD U,hw.sub .nil⟩
def y18(zlY:List (List ze))(zfP:(List ze)→Option Bool):Option Bool:=
 (y1S zlY zfP).bind fun zET=>some (decide (zET≥0))
theorem y4G(Z:Zp)(zEU:Option Addr)(zEV:Nat)(zfQ:FuncId)(zlZ:List Value)(zlY:List (List ze))(zfP:(List ze)→Option Bool)(r:Bool)(h:y18 zlY zfP=some r)(w₀:World)(hz:PZ [] w₀ Z)(zNA:ZS Z 1 (p58 Z) zEU zEV zlY)(zNB:∀ args w,(callFunc zfQ args).run Tryz.prog w = .ok (.enter zfQ args) w)(zNC:∀ w:World,PZ [] w Z→∀(x0:List ze) (ao0:Option Addr) (cap0:Nat) (r:Bool),ZS Z 3 (fun r x=>r=e60 x) ao0 cap0 x0→zfP x0=some r→Calls Tryz.prog zfQ (([(.slice ao0 x0.length cap0)]:List Value)++zlZ).toArray w fun e w'=>e = .returned (.bool r)∧Hp [] w w' []):
  Calls Tryz.prog 50 #[(.slice zEU zlY.length zEV),(.func (.func zfQ) #[] (zlZ).toArray)] w₀ fun e w'=>e = .returned (.bool r)∧Hp [] w₀ w' []:=by
 unfold y18 at h
 refine Lz Tryz.func50 Tryz.ntmps50 ?_
 refine WC.b<|Ld<|La U<|WL.nil<|Lb<|WC.b ?_
 obtain⟨zET,zND,h⟩:=za h
 refine Ld<|La U<|La U<|Lk 7 (zb Tryz.call92<|.r2 U U) .nil (cc hz .nil fun w pz ho=>y7a _ _ _ (zfO:=zfQ) (zlX:=zlZ) _ (z9n:=zfP) _ zND w pz zNA zNB zNC)<|La U<|La U<|WL.nil<|Lb<|WC.ret ?_
 obtain rfl:=oJ h
 refine Lh Tryz.results50 (.tmp U .nil)<|fun w hw=>?_
 exact⟨yD U,hw.sub .nil⟩
def y4c(z2d:zs)(z7j:Int)(za3:List (List ze)):Option Bool:=
 (if (((decide (z7j=0))||(decide (z7j=1)))&&(decide (((za3.length:Nat):Int)=((z2d.fVLs.length:Nat):Int))))&&(decide (((za3.length:Nat):Int)≤16)) then(y18 za3 (fun(y0:List ze)=>y1x y0 z2d z7j)).bind fun zEW=>some (!zEW) else some false).bind fun zuz=>some zuz
theorem y7h{Z:Zp}{zuA:Option Addr}{zuB:Nat}{zuC:Option Addr}{zuD:Nat}{zuE:Option Addr}{zuF:Nat}{zuG:Option Addr}{zuH:Nat}{zuI:Option Addr}{zuJ:Nat}{zuK:Option Addr}{zuL:Nat}{zuM:Option Addr}{zuN:Nat}{zuO:Option Addr}{zuP:Nat}{zEX:Option Addr}{zEY:Nat}{z2d:zs}{z7j:Int}{za3:List (List ze)}{r:Bool}(h:y4c z2d z7j za3=some r)(w₀:World)(hz:PZ [] w₀ Z)(zNE:ZS Z 4 (y3L Z) zuA zuB z2d.fM)(zNF:ZS Z 4 (y4n Z) zuC zuD z2d.fC0)(zNG:ZS Z 4 (fun r x=>r=e64 x) zuE zuF z2d.fS)(zNH:ZS Z 4 (fun r x=>r=e62 x) zuG zuH z2d.fK)(zNI:ZS Z 7 (p69 Z) zuI zuJ z2d.fVLs)(zNJ:ZS Z 5 (fun r x=>r=y4C x) zuK zuL z2d.fH)(zNK:ZS Z 3 (y4o Z) zuM zuN z2d.fU)(zNL:ZS Z 4 (fun r x=>r=y4D x) zuO zuP z2d.fV0)(zNM:ZS Z 1 (p58 Z) zEX zEY za3):
  Calls Tryz.prog 22 #[(.agg #[(.slice zuA z2d.fM.length zuB),(.slice zuC z2d.fC0.length zuD),(.slice zuE z2d.fS.length zuF),(.slice zuG z2d.fK.length zuH),(.slice zuI z2d.fVLs.length zuJ),(.slice zuK z2d.fH.length zuL),(.slice zuM z2d.fU.length zuN),(.slice zuO z2d.fV0.length zuP)]),(vi z7j),(.slice zEX za3.length zEY)] w₀ fun e w'=>e = .returned (.bool r)∧Hp [] w₀ w' []:=by
 unfold y4c at h
 refine Ke Tryz.func22 Tryz.ntmps22 ?_
 refine WC.b<|Ld (Lg 3 (yI (cs:=[(.slice zuA z2d.fM.length zuB),(.slice zuC z2d.fC0.length zuD),(.slice zuE z2d.fS.length zuF),(.slice zuG z2d.fK.length zuH),(.slice zuI z2d.fVLs.length zuJ),(.slice zuK z2d.fH.length zuL),(.slice zuM z2d.fU.length zuN),(.slice zuO z2d.fV0.length zuP)]) U U) fun zNN _=>Lg 4 (yI (cs:=[(vi z7j)]) U U) fun zNO _=>La U<|WL.nil<|Lb<|WC.b ?_)
 obtain⟨zuz,zEZ,h⟩:=za h
 refine Ld<|Le 7 (yc yq U<|yi .here U)<|La U<|La U<|Lx false 2 9 (B:=(decide (z7j=0))||(decide (z7j=1))) U U U U U U (fun h=>(y7Q h).symm) (fun _ zNP=>?_) ?_
 ·skip
  refine Le 10 (yc yq U<|yi .here U)<|La U<|La U ?_
  exact Ly (y7R zNP) U U .all
 let A:=((z2d.fVLs.length:Nat):Int);refine La U (Lx true 6 13 (B:=((decide (z7j=0))||(decide (z7j=1)))&&(decide (((za3.length:Nat):Int)=A))) U U U U U U (fun h=>(y3W h).symm) (fun _ zNQ=>?_) ?_)
 ·skip
  refine La U<|Le 15 (yG Tryz.underlying32 U)<|Le 16 (ya y7F U U)<|Le 17 (yc y7G U<|yi .h1 U)<|Le 18 (yG Tryz.underlying26 U)<|La U<|La U ?_
  exact Ly (y3X zNQ) U U .all
 refine La U<|Lx true 3 21 (B:=(((decide (z7j=0))||(decide (z7j=1)))&&(decide (((za3.length:Nat):Int)=A)))&&(decide (((za3.length:Nat):Int)≤16))) U U U U U U (fun h=>(y3W h).symm) (fun _ zNR=>?_) ?_
 ·skip
  refine La U<|Le 23 (yG Tryz.underlying32 U)<|La U<|La U ?_
  exact Ly (y3X zNR) U U .all
 refine La U<|Lx true 4 26 (B:=zuz) U U U U U U (fun h=>(oJ<|ys zEZ h).symm) (fun _ zNS=>?_) ?_
 ·skip
  have zm0:=yr zEZ zNS
  obtain⟨zEW,zNT,zm0⟩:=za zm0
  replace zm0:=oJ zm0
  refine La U<|Le 28 (y16<|L3 (l:=[.tmp 3,.tmp 4])<|.r2 U U)<|Lk 29 (zb Tryz.call50<|.r2 U U) .nil (ccl hz .nil (.s2 .h1 .here) fun w pz ho la=>y4G _ _ _ (zfQ:=51) (zlZ:=[(vp zNN),(vp zNO)]) _ (zfP:=(fun(y0:List ze)=>y1x y0 z2d z7j)) _ zNT w pz ((zNM.mono<|Zle.left _ _).weak (fun _ _ h=>y1B (Zle.left _ _) h)) Tryz.call51<|fun w' hz' y0 ga0 gc0 r gh0 hr=>ydk hr w' hz' gh0 ((zNE.mono<|Zle.left _ _).weak (fun _ _ h=>y1c (Zle.left _ _) h)) ((zNF.mono<|Zle.left _ _).weak (fun _ _ h=>y1o (Zle.left _ _) h)) (zNG.mono<|Zle.left _ _) (zNH.mono<|Zle.left _ _) ((zNI.mono<|Zle.left _ _).weak (fun _ _ h=>y1e (Zle.left _ _) h)) (zNJ.mono<|Zle.left _ _) ((zNK.mono<|Zle.left _ _).weak (fun _ _ h=>y1p (Zle.left _ _) h)) (zNL.mono<|Zle.left _ _) ((la _ (.head _) _).stb)<|(la _ (.tail _<|.head _) _).stb)<|La U<|La U ?_
  exact Ly zm0 U U .all
 refine La U<|WL.nil<|Lb<|WC.ret ?_
 obtain rfl:=oJ h
 refine Lh Tryz.results22 (.tmp U .nil)<|fun w hw=>?_
 exact⟨yD U,hw.sub .nil⟩
def y4J(z8E:ze):Option z8:=
 some (⟨z8E.fNode,z8E.fQ⟩:z8)
theorem y67{Z:Zp}{z8E:ze}{r:z8}(h:y4J z8E=some r)(w₀:World)(hz:PZ [] w₀ Z):
  Calls Tryz.prog 60 #[(.agg #[(vi z8E.fNode),(vi z8E.fNext),(vi z8E.fQ)])] w₀ fun e w'=>e = .returned (.agg #[(vi r.fNode),(vi r.fQ)])∧Hp [] w₀ w' []:=by
 unfold y4J at h
 refine L6 Tryz.func60 Tryz.ntmps60 ?_
 refine WC.b<|Ld (Lg 1 (yI (cs:=[(vi z8E.fNode),(vi z8E.fNext),(vi z8E.fQ)]) U U) fun z13K _=>Lg 2 (yv (cs:=[(vi 0),(vi 0)]) zly U) fun z13L _=>WL.nil<|Lb<|WC.b<|Ld<|Le 3 (ya y32 U U)<|Le 4 (yc yq U<|yi .h1 U)<|Le 5 (ya y76 U U)<|Le 6 (yc yq U<|yi .h1 U)<|Le 7 (yL (v:=(.agg #[(vi z8E.fNode),(vi z8E.fQ)])) (Lp (l:=[.tmp 4,.tmp 6]) (.r2 U U) [0,1]) (fun _=>by kernel_rfl))<|Ll U U (yn zp1 U U U .here U U U)<|WL.nil<|Lb<|WC.ret ?_)
 obtain rfl:=oJ h
 refine Lh Tryz.results60 (.agg U z5v U (yj .here) .nil)<|fun w hw=>?_
 exact⟨yD U,hw.sub .nil⟩
def yY(z4Y:List z8)(z6a:z8)(zbu:Option Int):Nat→Int→Option Int
 | 0,_=>none
 | zuQ+1,z4z=>if decide (z4z<((z4Y.length:Nat):Int)) then chk ((0:Int)≤z4z∧z4z<((z4Y.length:Nat):Int)) (if decide (z6a=(⟨((nth z4Y z4z).fNode),((nth z4Y z4z).fQ)⟩:z8)) then some z4z else yY z4Y z6a zbu zuQ (i64 (z4z+1))) else zbu
theorem y5X{n:Nat}{z4Y:List z8}{z6a:z8}{zbu:Option Int}{z4z:Int}{r:Int}(h:yY z4Y z6a zbu n z4z=some r):∃ m,n=m+1:=by
 cases n with
 | zero=>cases h
 | succ m=>exact⟨m,rfl⟩
def y2q(z4Y:List z8)(z6a:z8):Option Int:=
 jp0 (some (-1)) fun zbu=>yY z4Y z6a zbu yx 0
theorem y7b{Z:Zp}{zuR:Option Addr}{zuS:Nat}{z4Y:List z8}{z6a:z8}{r:Int}(h:y2q z4Y z6a=some r)(w₀:World)(hz:PZ [] w₀ Z)(zNU:ZS Z 2 (fun r x=>r=yE x) zuR zuS z4Y):
  Calls Tryz.prog 157 #[(.slice zuR z4Y.length zuS),(.agg #[(vi z6a.fNode),(vi z6a.fQ)])] w₀ fun e w'=>e = .returned (vi r)∧Hp [] w₀ w' []:=by
 unfold y2q at h
 refine Lz Tryz.func157 Tryz.ntmps157 ?_
 refine WC.b<|Ld (Lg 3 (yI (cs:=[(vi z6a.fNode),(vi z6a.fQ)]) U U) fun zF0 _=>La U<|WL.nil<|Lb ?_)
 obtain⟨zbu,zNV,h⟩:=y25 h
 refine L8 ((zbu=some r)) ([]) ([]) ?_ ?_
 ·skip
  refine WC.b<|Ld<|La U<|Le 7 (yG Tryz.underlying112 U)<|La U<|WL.nil<|Lb<|WC.block<|L9 (fun(zi1:Nat) (z4z:Int)=>(yY z4Y z6a zbu zi1 z4z=some r)) (fun zi1 z4z=>[(0,(.slice zuR z4Y.length zuS)),(3,(vp zF0)),(7,(vi ((z4Y.length:Nat):Int))),(8,(vi z4z))]) (fun zi1 z4z=>[stb zF0 121 [(vi z6a.fNode),(vi z6a.fQ)]]) (fun zi1 z4z=>zi1) ⟨yx,0⟩ h (.r4 U U U U) (.cons .here .nil) ?_
  rintro zi1 z4z h
  obtain⟨zuQ,rfl⟩:=y5X h
  rw[yY] at h
  refine WC.b<|Ld<|La U<|WL.nil<|Lb<|WC.b<|WC.cond U (fun zuT=>?_)<|fun zuT=>?_
  ·replace h:=yr h zuT
   refine WC.skip<|Lb<|WC.b<|WC.block<|WC.b<|Ld<|La U<|La U<|WL.nil<|Lb<|WC.b ?_
   obtain⟨zNW,h⟩:=yl h
   refine Lv (fun i=>[].contains i) [] U<|Li 0 11 U (yh z5v U (yj .here) U)<|Lf 1 12 U (fun _=>q_m U)<|Lf 2 13 U (fun _=>q_m U)<|L5 (j:=3) (dd:=14) (by kernel_rfl) U z1Z z20 U U (Z:=Z) (Pr:=(fun r x=>r=yE x)) z7h U U zNU zNW ?_
   rintro z13M z13N zNX z13O rfl
   refine Li 4 15 U (yh z5v U (y2d hz.pv zNX) U)<|Lf 5 16 U (fun _=>y8V (enc:=yE) (a:=z6a) (b:=(⟨((nth z4Y z4z).fNode),((nth z4Y z4z).fQ)⟩:z8)) zp2 U U)<|WD.done (by kernel_rfl)<|Lb<|WC.cond U (fun zuU=>?_)<|fun zuU=>?_
   ·replace h:=yr h zuU
    refine WC.b<|Ld<|La U<|La U<|WL.nil<|Lb<|WC.ret<|Lq<|Lj<|Lj<|Lq<|Lj ?_
    obtain rfl:=oJ h
    refine Lh Tryz.results157 (.tmp U .nil)<|fun w hw=>?_
    exact⟨yD U,hw.sub .nil⟩
   ·replace h:=ys h zuU
    refine WC.skip<|Lt<|Lb<|Ld<|La U<|La U<|WL.nil ?_
    exact WX.round ⟨zuQ,(i64 (z4z+1))⟩ h (Nat.lt_succ_self _) (.r4 U U U U)<|.cons .here .nil
  ·replace h:=ys h zuT
   refine WC.exit<|Ln<|Ln<|Lu ?_
   exact Lo () h .nil .nil
 ·rintro  h
  replace h:=zNV.symm.trans h
  refine WC.b<|Ld<|La U<|WL.nil<|Lb<|WC.ret ?_
  obtain rfl:=oJ h
  refine Lh Tryz.results157 (.tmp U .nil)<|fun w hw=>?_
  exact⟨yD U,hw.sub .nil⟩
def y1C(zm1:List z8)(zfR:z8):Option Bool:=
 (y2q zm1 zfR).bind fun zF1=>some (decide (zF1≥0))
theorem y6G{Z:Zp}{zF2:Option Addr}{zF3:Nat}{zm1:List z8}{zfR:z8}{r:Bool}(h:y1C zm1 zfR=some r)(w₀:World)(hz:PZ [] w₀ Z)(zNY:ZS Z 2 (fun r x=>r=yE x) zF2 zF3 zm1):
  Calls Tryz.prog 114 #[(.slice zF2 zm1.length zF3),(.agg #[(vi zfR.fNode),(vi zfR.fQ)])] w₀ fun e w'=>e = .returned (.bool r)∧Hp [] w₀ w' []:=by
 unfold y1C at h
 refine Lz Tryz.func114 Tryz.ntmps114 ?_
 refine WC.b<|Ld (Lg 3 (yI (cs:=[(vi zfR.fNode),(vi zfR.fQ)]) U U) fun z13P _=>La U<|WL.nil<|Lb<|WC.b ?_)
 obtain⟨zF1,zNZ,h⟩:=za h
 refine Ld<|La U<|Le 6 (yh z5v U (yj .here) U)<|Lk 7 (zb Tryz.call157<|.r2 U U) .nil (cc hz .nil fun w pz ho=>y7b zNZ w pz zNY)<|La U<|La U<|WL.nil<|Lb<|WC.ret ?_
 obtain rfl:=oJ h
 refine Lh Tryz.results114 (.tmp U .nil)<|fun w hw=>?_
 exact⟨yD U,hw.sub .nil⟩
def y68(zm2:Int):Option Bool:=
 some (decide (zm2≠zm2))
theorem yaS{Z:Zp}{zm2:Int}{r:Bool}(h:y68 zm2=some r)(w₀:World)(hz:PZ [] w₀ Z):
  Calls Tryz.prog 131 #[(vi zm2)] w₀ fun e w'=>e = .returned (.bool r)∧Hp [] w₀ w' []:=by
 unfold y68 at h
 refine L6 Tryz.func131 Tryz.ntmps131 ?_
 refine WC.b<|Ld<|La U<|WL.nil<|Lb<|WC.b<|Ld<|La U<|La U<|La U<|La U<|WL.nil<|Lb<|WC.ret ?_
 obtain rfl:=oJ h
 refine Lh Tryz.results131 (.tmp U .nil)<|fun w hw=>?_
 exact⟨yD U,hw.sub .nil⟩
def y4V(zi2:Int)(zi3:Int):Option Int:=
 (y68 zi2).bind fun zF4=>(y68 zi3).bind fun zuV=>if zF4 then if zuV then some 0 else some (-1) else if zuV then some 1 else if decide (zi2<zi3) then some (-1) else if decide (zi2>zi3) then some 1 else some 0
theorem y9T{Z:Zp}{zi2:Int}{zi3:Int}{r:Int}(h:y4V zi2 zi3=some r)(w₀:World)(hz:PZ [] w₀ Z):
  Calls Tryz.prog 85 #[(vi zi2),(vi zi3)] w₀ fun e w'=>e = .returned (vi r)∧Hp [] w₀ w' []:=by
 unfold y4V at h
 refine Lz Tryz.func85 Tryz.ntmps85 ?_
 refine WC.b<|Ld<|La U<|WL.nil<|Lb<|WC.b ?_
 obtain⟨zF4,zO0,h⟩:=za h
 refine Ld<|La U<|Lk 8 (zb Tryz.call131<|.cons U .nil) .nil (cc hz .nil fun w pz ho=>yaS zO0 w pz )<|La U<|WL.nil<|Lb<|WC.b ?_
 obtain⟨zuV,zO1,h⟩:=za h
 refine Ld<|La U<|Lk 10 (zb Tryz.call131<|.cons U .nil) .nil (cc hz .nil fun w pz ho=>yaS zO1 w pz )<|La U<|WL.nil<|Lb<|WC.b<|WC.b<|Ld<|La U<|WL.nil<|Lb<|WC.cond U (fun zuW=>?_)<|fun zuW=>?_
 ·replace h:=yr h zuW
  refine WC.b<|WC.b<|Ld<|La U<|WL.nil<|Lb<|WC.cond U (fun zuX=>?_)<|fun zuX=>?_
  ·replace h:=yr h zuX
   refine WC.b<|Ld<|La U<|WL.nil<|Lb<|WC.ret<|Lj<|Lj ?_
   obtain rfl:=oJ h
   refine Lh Tryz.results85 (.tmp U .nil)<|fun w hw=>?_
   exact⟨yD U,hw.sub .nil⟩
  ·replace h:=ys h zuX
   refine WC.skip<|Lb<|WC.b<|Ld<|La U<|WL.nil<|Lb<|WC.ret<|Lj ?_
   obtain rfl:=oJ h
   refine Lh Tryz.results85 (.tmp U .nil)<|fun w hw=>?_
   exact⟨yD U,hw.sub .nil⟩
 ·replace h:=ys h zuW
  refine WC.skip<|Lb<|WC.b<|WC.b<|Ld<|La U<|WL.nil<|Lb<|WC.cond U (fun zuY=>?_)<|fun zuY=>?_
  ·replace h:=yr h zuY
   refine WC.b<|Ld<|La U<|WL.nil<|Lb<|WC.ret<|Lj ?_
   obtain rfl:=oJ h
   refine Lh Tryz.results85 (.tmp U .nil)<|fun w hw=>?_
   exact⟨yD U,hw.sub .nil⟩
  ·replace h:=ys h zuY
   refine WC.skip<|Lb<|WC.b<|WC.b<|Ld<|La U<|La U<|La U<|WL.nil<|Lb<|WC.cond U (fun zuZ=>?_)<|fun zuZ=>?_
   ·replace h:=yr h zuZ
    refine WC.b<|Ld<|La U<|WL.nil<|Lb<|WC.ret<|Lj ?_
    obtain rfl:=oJ h
    refine Lh Tryz.results85 (.tmp U .nil)<|fun w hw=>?_
    exact⟨yD U,hw.sub .nil⟩
   ·replace h:=ys h zuZ
    refine WC.skip<|Lb<|WC.b<|WC.b<|Ld<|La U<|La U<|La U<|WL.nil<|Lb<|WC.cond U (fun zv0=>?_)<|fun zv0=>?_
    ·replace h:=yr h zv0
     refine WC.b<|Ld<|La U<|WL.nil<|Lb<|WC.ret<|Lj ?_
     obtain rfl:=oJ h
     refine Lh Tryz.results85 (.tmp U .nil)<|fun w hw=>?_
     exact⟨yD U,hw.sub .nil⟩
    ·replace h:=ys h zv0
     refine WC.skip<|Lb<|WC.b<|Ld<|La U<|WL.nil<|Lb<|WC.ret ?_
     obtain rfl:=oJ h
     refine Lh Tryz.results85 (.tmp U .nil)<|fun w hw=>?_
     exact⟨yD U,hw.sub .nil⟩
def y4K(z6b:List Int)(zbv:Option Int):Nat→Int→Option Int
 | 0,_=>none
 | zv1+1,z6c=>if decide (z6c<((z6b.length:Nat):Int)) then chk ((0:Int)≤z6c∧z6c<((z6b.length:Nat):Int)) (if decide ((nth z6b z6c)≠0) then some (nth z6b z6c) else y4K z6b zbv zv1 (i64 (z6c+1))) else zbv
theorem ybM{n:Nat}{z6b:List Int}{zbv:Option Int}{z6c:Int}{r:Int}(h:y4K z6b zbv n z6c=some r):∃ m,n=m+1:=by
 cases n with
 | zero=>cases h
 | succ m=>exact⟨m,rfl⟩
def y7x(z6b:List Int):Option Int:=
 jp0 (some 0) fun zbv=>y4K z6b zbv yx 0
theorem yg2{Z:Zp}{zv2:Option Addr}{zv3:Nat}{z6b:List Int}{r:Int}(h:y7x z6b=some r)(w₀:World)(hz:PZ [] w₀ Z)(zO2:ZS Z 1 (fun r x=>r=e3 x) zv2 zv3 z6b):
  Calls Tryz.prog 84 #[(.slice zv2 z6b.length zv3)] w₀ fun e w'=>e = .returned (vi r)∧Hp [] w₀ w' []:=by
 unfold y7x at h
 refine L6 Tryz.func84 Tryz.ntmps84 ?_
 refine WC.b<|Ld<|La U<|WL.nil<|Lb<|WC.b<|Ld<|La U<|WL.nil<|Lb ?_
 obtain⟨zbv,zO3,h⟩:=y25 h
 refine L8 ((zbv=some r)) ([(3,(vi 0))]) ([]) ?_ ?_
 ·skip
  refine WC.b<|Ld<|La U<|Le 7 (yG Tryz.underlying50 U)<|La U<|WL.nil<|Lb<|WC.block<|L9 (fun(zi4:Nat) (z6c:Int)=>(y4K z6b zbv zi4 z6c=some r)) (fun zi4 z6c=>[(3,(vi 0)),(6,(.slice zv2 z6b.length zv3)),(7,(vi ((z6b.length:Nat):Int))),(8,(vi z6c))]) (fun zi4 z6c=>[]) (fun zi4 z6c=>zi4) ⟨yx,0⟩ h (.r4 U U U U) .nil ?_
  rintro zi4 z6c h
  obtain⟨zv1,rfl⟩:=ybM h
  rw[y4K] at h
  refine WC.b<|Ld<|La U<|WL.nil<|Lb<|WC.b<|WC.cond U (fun zv4=>?_)<|fun zv4=>?_
  ·replace h:=yr h zv4
   refine WC.skip<|Lb<|WC.b<|WC.block<|WC.b ?_
   obtain⟨zO4,h⟩:=yl h
   refine Ld<|L0 (dd:=10) U U (Z:=Z) (Pr:=(fun r x=>r=e3 x)) y52 U U zO2 zO4 ?_
   rintro z13Q z13R zO5 z13S rfl
   refine Le 11 (yc yq U<|y3a hz.pv zO5 U)<|La U<|WL.nil<|Lb<|WC.b<|Ld<|La U<|La U<|La U<|WL.nil<|Lb<|WC.cond U (fun zv5=>?_)<|fun zv5=>?_
   ·replace h:=yr h zv5
    refine WC.b<|Ld<|La U<|La U<|WL.nil<|Lb<|WC.ret<|Lq<|Lj<|Lj<|Lq<|Lj ?_
    obtain rfl:=oJ h
    refine Lh Tryz.results84 (.tmp U .nil)<|fun w hw=>?_
    exact⟨yD U,hw.sub .nil⟩
   ·replace h:=ys h zv5
    refine WC.skip<|Lt<|Lb<|Ld<|La U<|La U<|WL.nil ?_
    exact WX.round ⟨zv1,(i64 (z6c+1))⟩ h (Nat.lt_succ_self _) (.r4 U U U U) .nil
  ·replace h:=ys h zv4
   refine WC.exit<|Ln<|Ln<|Lu ?_
   exact Lo () h (.cons U .nil) .nil
 ·rintro  h
  replace h:=zO3.symm.trans h
  refine WC.b<|Ld<|La U<|La U<|WL.nil<|Lb<|WC.ret ?_
  obtain rfl:=oJ h
  refine Lh Tryz.results84 (.tmp U .nil)<|fun w hw=>?_
  exact⟨yD U,hw.sub .nil⟩
def y1v(zdD:z8)(zdE:z8):Option Int:=
 (y4V zdD.fNode zdE.fNode).bind fun zv6=>(y4V zdD.fQ zdE.fQ).bind fun zv7=>(y7x ([zv6,zv7]:List Int)).bind fun zF5=>some zF5
theorem y8G{Z:Zp}{zdD:z8}{zdE:z8}{r:Int}(h:y1v zdD zdE=some r)(w₀:World)(hz:PZ [] w₀ Z):
  Calls Tryz.prog 45 #[(.agg #[(vi zdD.fNode),(vi zdD.fQ)]),(.agg #[(vi zdE.fNode),(vi zdE.fQ)])] w₀ fun e w'=>e = .returned (vi r)∧Hp [] w₀ w' []:=by
 unfold y1v at h
 refine Lz Tryz.func45 Tryz.ntmps45 ?_
 refine WC.b<|Ld (Lg 2 (yI (cs:=[(vi zdD.fNode),(vi zdD.fQ)]) U U) fun z13T _=>Lg 3 (yI (cs:=[(vi zdE.fNode),(vi zdE.fQ)]) U U) fun z13U _=>La U<|WL.nil<|Lb<|WC.b ?_)
 obtain⟨zv6,zO6,h⟩:=za h
 obtain⟨zv7,zO7,h⟩:=za h
 obtain⟨zF5,zO8,h⟩:=za h
 refine Lv (fun i=>[].contains i) [] U<|Lf 0 5 U (fun _=>ya y94 U U)<|Li 1 6 U (yc yq U<|yi .h1 U)<|Lf 2 7 U (fun _=>ya y94 U U)<|Li 3 8 U (yc yq U<|yi .here U)<|L4 4 9 U (zb Tryz.call85<|.r2 U U) (cc hz .nil fun w pz ho=>y9T zO6 w pz )<|Lf 5 10 U (fun _=>ya yaj U U)<|Li 6 11 U (yc yq U<|yi .h1 U)<|Lf 7 12 U (fun _=>ya yaj U U)<|Li 8 13 U (yc yq U<|yi .here U)<|L4 9 14 U (zb Tryz.call85<|.r2 U U) (cc hz .nil fun w pz ho=>y9T zO7 w pz ) (WD.new (i:=10) (dd:=15) U (by kernel_rfl) U U U (yS (cs:=([zv6,zv7]:List Int).flatMap e3) y52 (Lp (l:=[.tmp 9,.tmp 14]) (.r2 U U) [0,1]) (fun _=>by kernel_rfl) U (by unfold maxLen;omega)) (fun h'=>absurd h' (by decide)) fun z13V _=>L4 11 16 U (zb Tryz.call84<|.cons U .nil) (ccl hz .nil (.cons .here .nil) fun w pz ho la=>yg2 zO8 w pz<|ZA.row (la _ (.head _) _) (RR.flat (enc:=e3) (fun _=>U) _) ⟨w,pz.1⟩)<|Lf 12 4 U (fun _=>q_z U)<|WD.done (by kernel_rfl)<|Lb<|WC.ret ?_)
 obtain rfl:=oJ h
 refine Lh Tryz.results45 (.tmp U .nil)<|fun w hw=>?_
 exact⟨yD U,hw.sub .nil⟩
def y4k(z8F:Int):Option Int:=chk ((0:Int)≤z8F∧z8F≤18446744073709551615) (some ((Go.Lib.bitLen (z8F).toNat:Nat):Int))
theorem y8H(Z:Zp)(z8F:Int)(r:Int)(w₀:World)(hz:PZ [] w₀ Z)(h:y4k z8F=some r):Calls Tryz.prog 57 #[.int .u64 z8F] w₀ fun e w'=>e = .returned (vi r)∧Hp [] w₀ w' []:=by
 obtain⟨h0,h⟩:=yl h
 obtain rfl:=oJ h
 refine(Tryz.bits_Len z8F w₀ h0.1 h0.2).mono ?_
 rintro e w' ⟨rfl,rfl⟩
 exact⟨U,Hp.nil w' []⟩
theorem zO9:∀ w,(isAgg (Tryz.y3I.t 24)).run Tryz.prog w = .ok true w:=fun _=>by kernel_rfl
theorem zOa:∀ w,(Go.sizeOf (Tryz.y3I.t 24)).run Tryz.prog w = .ok 2 w:=fun _=>by kernel_rfl
def y3Y(z5A:List z8)(zm3:Int)(zm4:Int)(zi5:Int)(zfS:z8→z8→Option Int):Option (List z8):=chk ((zm3=0∧zm4=((z5A.length:Nat):Int))∧(0≤zi5∧zi5<4611686018427387904∧z5A.length<4611686018427387904)) (chk (y87 zfS (yX zfS z5A)=true) (some (yX zfS z5A)))
theorem y7I(Z:Zp)(zfT:Option Addr)(zfU:Nat)(zm5:FuncId)(zv8:List Value)(z5A:List z8)(zm3:Int)(zm4:Int)(zi5:Int)(zfS:z8→z8→Option Int)(r:List z8)(w₀:World)(hz:PZ (fps [row (.slice zfT z5A.length zfU) 121 2 (z5A.flatMap yE)]) w₀ Z)(zOb:∀ args w,(callFunc zm5 args).run Tryz.prog w = .ok (.enter zm5 args) w)(zOc:∀ w:World,PZ [] w Z→∀(x0:z8) (x1:z8) (r:Int),zfS x0 x1=some r→Calls Tryz.prog zm5 (([(.agg #[(vi x0.fNode),(vi x0.fQ)]),(.agg #[(vi x1.fNode),(vi x1.fQ)])]:List Value)++zv8).toArray w fun e w'=>e = .returned (vi r)∧Hp [] w w' [])(h:y3Y z5A zm3 zm4 zi5 zfS=some r)(hown:Hp (fps [row (.slice zfT z5A.length zfU) 121 2 (z5A.flatMap yE)]) w₀ w₀ [row (.slice zfT z5A.length zfU) 121 2 (z5A.flatMap yE)]):
  Calls Tryz.prog 158 #[(.slice zfT z5A.length zfU),(vi zm3),(vi zm4),(vi zi5),(.func (.func zm5) #[] (zv8).toArray)] w₀ fun e w'=>e = .returned (.tuple #[])∧(r.length=z5A.length)∧Hp (fps [row (.slice zfT z5A.length zfU) 121 2 (z5A.flatMap yE)]) w₀ w' [row (.slice zfT r.length zfU) 121 2 (r.flatMap yE)]:=by
 obtain⟨h0,h⟩:=yl h
 obtain⟨h1,h⟩:=yl h
 have hr:=(oJ h).symm
 exact y9n (P:=Tryz.prog) (f:=158) (e:=121) (k:=2) (enc:=yE) (fun _=>U) (by decide) yb9 (fun β _ enc cf g cb hO blk off cap d0 w0 eg hC R=>Tryz.y8Y 2 zO9 zOa enc cf g cb hO blk off cap d0 w0 eg hC R) (Tryz.y8M (α:=Unit)) hz zOb zOc h0 h1 hr hown
def y1D(z4Z:List z8)(zi6:z8→z8→Option Int):Option (List z8):=
 (y4k (u64 ((z4Z.length:Nat):Int))).bind fun zpy=>(y3Y z4Z 0 ((z4Z.length:Nat):Int) zpy zi6).bind fun zpz=>some zpz
theorem y6H(Z:Zp)(zdF:Option Addr)(zdG:Nat)(zi7:FuncId)(zpA:List Value)(z4Z:List z8)(zi6:z8→z8→Option Int)(r:List z8)(h:y1D z4Z zi6=some r)(w₀:World)(hz:PZ (fps [row (.slice zdF z4Z.length zdG) 121 2 (z4Z.flatMap yE)]) w₀ Z)(zOd:∀ args w,(callFunc zi7 args).run Tryz.prog w = .ok (.enter zi7 args) w)(zOe:∀ w:World,PZ [] w Z→∀(x0:z8) (x1:z8) (r:Int),zi6 x0 x1=some r→Calls Tryz.prog zi7 (([(.agg #[(vi x0.fNode),(vi x0.fQ)]),(.agg #[(vi x1.fNode),(vi x1.fQ)])]:List Value)++zpA).toArray w fun e w'=>e = .returned (vi r)∧Hp [] w w' [])(hown:Hp (fps [row (.slice zdF z4Z.length zdG) 121 2 (z4Z.flatMap yE)]) w₀ w₀ [row (.slice zdF z4Z.length zdG) 121 2 (z4Z.flatMap yE)]):
  Calls Tryz.prog 115 #[(.slice zdF z4Z.length zdG),(.func (.func zi7) #[] (zpA).toArray)] w₀ fun e w'=>e = .returned (.tuple #[])∧(r.length=z4Z.length)∧Hp (fps [row (.slice zdF z4Z.length zdG) 121 2 (z4Z.flatMap yE)]) w₀ w' [row (.slice zdF r.length zdG) 121 2 (r.flatMap yE)]:=by
 unfold y1D at h
 refine Kg Tryz.func115 Tryz.ntmps115 hown ?_
 refine WC.b<|Ld<|La U<|Le 6 (yG Tryz.underlying112 U)<|La U<|WL.nil<|Lb ?_
 obtain⟨zpy,zOf,h⟩:=za h
 obtain⟨zpz,zOg,h⟩:=za h
 refine Ld<|La U<|La U<|La U<|Le 10 (y8y Tryz.underlying3 Tryz.underlying147 U U)<|Lk 11 (zb Tryz.call57<|.cons U .nil) .nil (cc hz .nil fun w pz ho=>y8H (Z:=_)  (z8F:=(u64 ((z4Z.length:Nat):Int))) (r:=zpy) w pz  zOf)<|La U<|WL.y5h (dd:=13) U U U (zb Tryz.call158<|.r5 U U U U U) (.cons .here .nil) (cc hz (.cons .here .nil) fun w pz ho=>y7I (Z:=_) (zfT:=zdF) (zfU:=zdG) (zm5:=zi7) (zv8:=zpA) (z5A:=z4Z) (zm3:=0) (zm4:=((z4Z.length:Nat):Int)) (zi5:=zpy) (zfS:=zi6) (r:=zpz) w pz zOd zOe zOg ho) ?_
 rintro  zF6
 refine Kh (i:=0) U (u:=(.slice zdF zpz.length zdG)) (y9I zF6.symm)<|WL.nil ?_
 obtain rfl:=oJ h
 refine WX.y5d Tryz.results115 .nil<|fun w hw=>?_
 exact⟨y7p,(zF6.trans U),hw.sub (.cons .here .nil)⟩
end Go.Proofs.YthjnhebofpebpaaGreat
