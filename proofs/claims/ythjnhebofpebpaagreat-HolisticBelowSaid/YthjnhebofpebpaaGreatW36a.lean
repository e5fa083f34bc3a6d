/- A part of this claim's proof: models of functions, walks, plain laws. No conditions. -/
import Derived.Test.YthjnhebofpebpaaGreatZMem
import Derived.Test.YthjnhebofpebpaaGreatZKey
import Derived.Test.YthjnhebofpebpaaGreatShelf36
import Derived.Test.YthjnhebofpebpaaGreatProg
set_option linter.all false
namespace Go.Proofs.YthjnhebofpebpaaGreat
open Go Go.RowKit Sep Tryz
set_option maxRecDepth 30000
set_option maxHeartbeats 4000000
structure Sapi_Port where
 fName:ByteArray
 fKind:Int
 fOut:Bool
 fSize:Int
 fDepth:Int
 fRefresh:Int
 deriving Inhabited,DecidableEq
structure Sapi_Ins where
 fOp:Int
 fA:Int
 fB:Int
 fC:Int
 deriving Inhabited,DecidableEq
structure Sapi_Proc where
 fName:ByteArray
 fPrio:Int
 fPeriod:Int
 fLimit:Int
 fCode:List Sapi_Ins
 deriving Inhabited,DecidableEq
structure Sapi_Part where
 fName:ByteArray
 fPeriod:Int
 fLength:Int
 fMem:Int
 fSemas:List Int
 fEvents:Int
 fBoards:Int
 fBufs:List Int
 fP:List Sapi_Port
 fProcs:List Sapi_Proc
 deriving Inhabited,DecidableEq
structure z6z where
 fName:ByteArray
 fMem:Int
 fFrame:Int
 fParts:List Sapi_Part
 deriving Inhabited,DecidableEq
structure Sapi_Ref where
 fModule:ByteArray
 fPart:ByteArray
 fPort:ByteArray
 deriving Inhabited,DecidableEq
structure zhs where
 fFrom:Sapi_Ref
 fTo:List Sapi_Ref
 deriving Inhabited,DecidableEq
structure z87 where
 fName:ByteArray
 fNet:Int
 fDelay:Int
 fT:Int
 deriving Inhabited,DecidableEq
structure z74 where
 fA:ByteArray
 fB:ByteArray
 fNet:Int
 fSlow:Int
 deriving Inhabited,DecidableEq
structure z16 where
 fName:ByteArray
 fFrom:Sapi_Ref
 fBag:Int
 fMax:Int
 fTo:List Sapi_Ref
 deriving Inhabited,DecidableEq
structure Sapi_Health where
 fModule:ByteArray
 fPart:ByteArray
 fFault:Int
 fLevel:Int
 fDo:Int
 deriving Inhabited,DecidableEq
structure Sapi_Report where
 fUnit:ByteArray
 fCode:Int
 deriving Inhabited,DecidableEq
structure Sapi_Cause where
 fUnit:ByteArray
 fNeeds:List Sapi_Report
 fUnless:List ByteArray
 deriving Inhabited,DecidableEq
structure Sapi_Version where
 fA:ByteArray
 fVA:Int
 fB:ByteArray
 fVB:Int
 deriving Inhabited,DecidableEq
structure zs where
 fM:List z6z
 fC0:List zhs
 fS:List z87
 fK:List z74
 fVLs:List z16
 fH:List Sapi_Health
 fU:List Sapi_Cause
 fV0:List Sapi_Version
 deriving Inhabited,DecidableEq
def e3(x:Int):List Value:=[(vi x)]
theorem e3_oc:∀ x,∀ u∈e3 x,u.oneCell'=true:=fun _=>ocB rfl
def e387(x:Sapi_Port):List Value:=[(.string x.fName),(.int .u8 x.fKind),(.bool x.fOut),(vi x.fSize),(vi x.fDepth),(vi x.fRefresh)]
def e392(x:Sapi_Ins):List Value:=[(.int .u8 x.fOp),(vi x.fA),(vi x.fB),(vi x.fC)]
def p390(Z:Zp)(r:List Value)(x:Sapi_Proc):Prop:=∃(ao0:Option Addr) (cap0:Nat),r=[(.string x.fName),(vi x.fPrio),(vi x.fPeriod),(vi x.fLimit),(vs ao0 x.fCode.length cap0)]/\ZS Z 4 (fun r x=>r=e392 x) ao0 cap0 x.fCode
theorem ykh{Z Z':Zp}(k:Zle Z Z'){r:List Value}{x:Sapi_Proc}(h:p390 Z r x):p390 Z' r x:=by
 obtain⟨ao0,cap0,hr,h0⟩:=h
 exact⟨ao0,cap0,hr,h0.mono k⟩
def p381(Z:Zp)(r:List Value)(x:Sapi_Part):Prop:=∃(ao0:Option Addr) (cap0:Nat) (ao1:Option Addr) (cap1:Nat) (ao2:Option Addr) (cap2:Nat) (ao3:Option Addr) (cap3:Nat),r=[(.string x.fName),(vi x.fPeriod),(vi x.fLength),(vi x.fMem),(vs ao0 x.fSemas.length cap0),(vi x.fEvents),(vi x.fBoards),(vs ao1 x.fBufs.length cap1),(vs ao2 x.fP.length cap2),(vs ao3 x.fProcs.length cap3)]/\ZS Z 1 (fun r x=>r=e3 x) ao0 cap0 x.fSemas/\ZS Z 1 (fun r x=>r=e3 x) ao1 cap1 x.fBufs/\ZS Z 6 (fun r x=>r=e387 x) ao2 cap2 x.fP/\ZS Z 5 (p390 Z) ao3 cap3 x.fProcs
theorem yki{Z Z':Zp}(k:Zle Z Z'){r:List Value}{x:Sapi_Part}(h:p381 Z r x):p381 Z' r x:=by
 obtain⟨ao0,cap0,ao1,cap1,ao2,cap2,ao3,cap3,hr,h0,h1,h2,h3⟩:=h
 exact⟨ao0,cap0,ao1,cap1,ao2,cap2,ao3,cap3,hr,h0.mono k,h1.mono k,h2.mono k,(h3.mono k).weak (fun _ _ h=>ykh k h)⟩
def y3F(Z:Zp)(r:List Value)(x:z6z):Prop:=∃(ao0:Option Addr) (cap0:Nat),r=[(.string x.fName),(vi x.fMem),(vi x.fFrame),(vs ao0 x.fParts.length cap0)]/\ZS Z 10 (p381 Z) ao0 cap0 x.fParts
theorem y1p{Z Z':Zp}(k:Zle Z Z'){r:List Value}{x:z6z}(h:y3F Z r x):y3F Z' r x:=by
 obtain⟨ao0,cap0,hr,h0⟩:=h
 exact⟨ao0,cap0,hr,(h0.mono k).weak (fun _ _ h=>yki k h)⟩
def e66(x:Sapi_Ref):List Value:=[(.string x.fModule),(.string x.fPart),(.string x.fPort)]
def y4l(Z:Zp)(r:List Value)(x:zhs):Prop:=∃(ao0:Option Addr) (cap0:Nat),r=[(.string x.fFrom.fModule),(.string x.fFrom.fPart),(.string x.fFrom.fPort),(vs ao0 x.fTo.length cap0)]/\ZS Z 3 (fun r x=>r=e66 x) ao0 cap0 x.fTo
theorem y1A{Z Z':Zp}(k:Zle Z Z'){r:List Value}{x:zhs}(h:y4l Z r x):y4l Z' r x:=by
 obtain⟨ao0,cap0,hr,h0⟩:=h
 exact⟨ao0,cap0,hr,h0.mono k⟩
def e64(x:z87):List Value:=[(.string x.fName),(vi x.fNet),(vi x.fDelay),(vi x.fT)]
def e62(x:z74):List Value:=[(.string x.fA),(.string x.fB),(vi x.fNet),(vi x.fSlow)]
def p69(Z:Zp)(r:List Value)(x:z16):Prop:=∃(ao0:Option Addr) (cap0:Nat),r=[(.string x.fName),(.string x.fFrom.fModule),(.string x.fFrom.fPart),(.string x.fFrom.fPort),(vi x.fBag),(vi x.fMax),(vs ao0 x.fTo.length cap0)]/\ZS Z 3 (fun r x=>r=e66 x) ao0 cap0 x.fTo
theorem y1k{Z Z':Zp}(k:Zle Z Z'){r:List Value}{x:z16}(h:p69 Z r x):p69 Z' r x:=by
 obtain⟨ao0,cap0,hr,h0⟩:=h
 exact⟨ao0,cap0,hr,h0.mono k⟩
def y4D(x:Sapi_Health):List Value:=[(.string x.fModule),(.string x.fPart),(.int .u8 x.fFault),(.int .u8 x.fLevel),(.int .u8 x.fDo)]
def e385(x:Sapi_Report):List Value:=[(.string x.fUnit),(vi x.fCode)]
def e9(x:ByteArray):List Value:=[(.string x)]
def y4m(Z:Zp)(r:List Value)(x:Sapi_Cause):Prop:=∃(ao0:Option Addr) (cap0:Nat) (ao1:Option Addr) (cap1:Nat),r=[(.string x.fUnit),(vs ao0 x.fNeeds.length cap0),(vs ao1 x.fUnless.length cap1)]/\ZS Z 2 (fun r x=>r=e385 x) ao0 cap0 x.fNeeds/\ZS Z 1 (fun r x=>r=e9 x) ao1 cap1 x.fUnless
theorem y1B{Z Z':Zp}(k:Zle Z Z'){r:List Value}{x:Sapi_Cause}(h:y4m Z r x):y4m Z' r x:=by
 obtain⟨ao0,cap0,ao1,cap1,hr,h0,h1⟩:=h
 exact⟨ao0,cap0,ao1,cap1,hr,h0.mono k,h1.mono k⟩
def y4E(x:Sapi_Version):List Value:=[(.string x.fA),(vi x.fVA),(.string x.fB),(vi x.fVB)]
structure ze where
 fNode:Int
 fNext:Int
 fQ:Int
 deriving Inhabited,DecidableEq
def e60(x:ze):List Value:=[(vi x.fNode),(vi x.fNext),(vi x.fQ)]
def p58(Z:Zp)(r:List Value)(x:List ze):Prop:=∃(ao0:Option Addr) (cap0:Nat),r=[(vs ao0 x.length cap0)]/\ZS Z 3 (fun r x=>r=e60 x) ao0 cap0 x
theorem y22{Z Z':Zp}(k:Zle Z Z'){r:List Value}{x:List ze}(h:p58 Z r x):p58 Z' r x:=by
 obtain⟨ao0,cap0,hr,h0⟩:=h
 exact⟨ao0,cap0,hr,h0.mono k⟩
structure S7 where
 fX:Int
 fY:Int
 fSigned:Bool
 fCode:Int
 deriving Inhabited,DecidableEq
structure S13 where
 fMsg:ByteArray
 fAddr:Int
 deriving Inhabited,DecidableEq
structure z8 where
 fNode:Int
 fQ:Int
 deriving Inhabited,DecidableEq
structure S36 where
 fNode:Int
 fQ:Int
 fDelay:Int
 fT:Int
 deriving Inhabited,DecidableEq
structure zj where
 fVL:Int
 fNode:Int
 fDelay:Int
 deriving Inhabited,DecidableEq
structure S39 where
 fP:List S36
 fEnds:List zj
 deriving Inhabited,DecidableEq
structure S56 where
 a0:Int
 a1:Int
 deriving Inhabited,DecidableEq
structure S70 where
 fC:zs
 fR:List (List ze)
 deriving Inhabited,DecidableEq
structure S82 where
 fSent:Int
 fNode:Int
 fTime:Int
 deriving Inhabited,DecidableEq
structure S85 where
 fTime:Int
 fVL:Int
 fSize:Int
 deriving Inhabited,DecidableEq
def yE(x:z8):List Value:=[(vi x.fNode),(vi x.fQ)]
theorem ybN:∀ x,∀ u∈yE x,u.oneCell'=true:=fun _=>ocB rfl
def e37(x:S36):List Value:=[(vi x.fNode),(vi x.fQ),(vi x.fDelay),(vi x.fT)]
theorem yfu:∀ x,∀ u∈e37 x,u.oneCell'=true:=fun _=>ocB rfl
structure zP where
 fVl:Int
 fAt_:z8
 deriving Inhabited,DecidableEq
def y2P(x:zP):List Value:=[(vi x.fVl),(vi x.fAt_.fNode),(vi x.fAt_.fQ)]
structure z2 where
 fN:Int
 fD:Int
 deriving Inhabited,DecidableEq
def yx(x:z2):List Value:=[(vi x.fN),(vi x.fD)]
theorem ye0:∀ x,∀ u∈yx x,u.oneCell'=true:=fun _=>ocB rfl
structure S157 where
 fQ:Int
 fBag:Int
 fMax:Int
 fJitter:Int
 deriving Inhabited,DecidableEq
structure z6 where
 fBurst:z2
 fRate:z2
 deriving Inhabited,DecidableEq
def y1O(x:z6):List Value:=[(vi x.fBurst.fN),(vi x.fBurst.fD),(vi x.fRate.fN),(vi x.fRate.fD)]
theorem yiV:∀ x,∀ u∈y1O x,u.oneCell'=true:=fun _=>ocB rfl
def y29(Z:Zp)(r:List Value)(x:List z6):Prop:=∃(ao0:Option Addr) (cap0:Nat),r=[(vs ao0 x.length cap0)]/\ZS Z 4 (fun r x=>r=y1O x) ao0 cap0 x
theorem y3G{Z Z':Zp}(k:Zle Z Z'){r:List Value}{x:List z6}(h:y29 Z r x):y29 Z' r x:=by
 obtain⟨ao0,cap0,hr,h0⟩:=h
 exact⟨ao0,cap0,hr,h0.mono k⟩
theorem p227_oc{Z:Zp}{r:List Value}{x:List z6}(h:y29 Z r x):∀ u∈r,u.oneCell'=true:=by
 obtain⟨ao0,cap0,hr,h0⟩:=h
 rw[hr];exact ocB U
structure zSv where
 fRate:z2
 fL:z2
 deriving Inhabited,DecidableEq
structure z1A where
 fE:Int
 deriving Inhabited,DecidableEq
structure S187 where
 fTime:Int
 fIn_:Int
 fVl:Int
 fSent:Int
 fHop:ze
 deriving Inhabited,DecidableEq
structure S249 where
 fSlow:Int
 fDelay:Int
 fT:Int
 deriving Inhabited,DecidableEq
structure Sport_frame where
 fSize:Int
 fFin:Int
 deriving Inhabited,DecidableEq
structure S252 where
 fNumbers:S249
 fNow:Int
 fLast:Int
 fFrames:List Sport_frame
 deriving Inhabited,DecidableEq
def e41(x:Int):List Value:=[(vi x)]
def e53(x:zj):List Value:=[(vi x.fVL),(vi x.fNode),(vi x.fDelay)]
theorem yhB:∀ x,∀ u∈e53 x,u.oneCell'=true:=fun _=>ocB rfl
def e94(x:z8):List Value:=[(vi x.fNode),(vi x.fQ)]
def y5X(Z:Zp)(r:List Value)(x:Int->Option Int):Prop:=∃(fid:FuncId) (fcaps:List Value),r=[(.func (.func fid) #[] (fcaps).toArray)]/\(∀ args w,(callFunc fid args).run Tryz.prog w = .ok (.enter fid args) w)/\∀ w:World,PZ [] w Z->∀(x0:Int) (r:Int),x x0=some r->Calls Tryz.prog fid (([(vi x0)]:List Value)++fcaps).toArray w fun e w'=>e = .returned (vi r)/\Hp [] w w' []
theorem y68{Z Z':Zp}(k:Zle Z Z'){r:List Value}{x:Int->Option Int}(h:y5X Z r x):y5X Z' r x:=by
 obtain⟨fid,fcaps,h1,h2,h3⟩:=h
 exact⟨fid,fcaps,h1,h2,fun w hw=>h3 w (hw.le k)⟩
def p50(Z:Zp)(r:List Value)(x:List Int):Prop:=∃(ao0:Option Addr) (cap0:Nat),r=[(vs ao0 x.length cap0)]/\ZS Z 1 (fun r x=>r=e3 x) ao0 cap0 x
theorem yhC{Z Z':Zp}(k:Zle Z Z'){r:List Value}{x:List Int}(h:p50 Z r x):p50 Z' r x:=by
 obtain⟨ao0,cap0,hr,h0⟩:=h
 exact⟨ao0,cap0,hr,h0.mono k⟩
def e5(x:Int):List Value:=[(.int .u8 x)]
theorem y1V:y6V Tryz.prog 31 8:=y5h (i:=Tryz.t31) underlying31 rfl rfl
theorem y7e:yR Tryz.prog 31 0 0:=yG (i:=Tryz.t22) underlying31 rfl rfl (by decide) rfl
theorem y7f:y5r Tryz.prog 22:=y3c underlying22 rfl
theorem yaG:yR Tryz.prog 31 2 2:=yG (i:=Tryz.t24) underlying31 rfl rfl (by decide) rfl
theorem yaH:y5r Tryz.prog 24:=y3c underlying24 rfl
theorem y7S:yR Tryz.prog 31 3 3:=yG (i:=Tryz.t25) underlying31 rfl rfl (by decide) rfl
theorem y7T:y5r Tryz.prog 25:=y3c underlying25 rfl
theorem y7U:yR Tryz.prog 31 4 4:=yG (i:=Tryz.t26) underlying31 rfl rfl (by decide) rfl
theorem y7V:y5r Tryz.prog 26:=y3c underlying26 rfl
theorem y8Y:elT Tryz.prog 32 58 1 24:=⟨underlying32,⟨Tryz.t58,_,rfl,rfl,rfl,rfl,rfl⟩,by decide⟩
theorem y7g:y5r Tryz.prog 58:=y3c underlying58 rfl
theorem yeW:y2t Tryz.prog 31 (.agg #[vn,vn,vn,vn,vn,vn,vn,vn]):=y2f (i:=Tryz.t31) rfl rfl
theorem elT_22:elT Tryz.prog 22 126 4 56:=⟨underlying22,⟨Tryz.t126,_,rfl,rfl,rfl,rfl,rfl⟩,by decide⟩
theorem ydo:elT Tryz.prog 24 64 4 40:=⟨underlying24,⟨Tryz.t64,_,rfl,rfl,rfl,rfl,rfl⟩,by decide⟩
theorem yaR:elT Tryz.prog 25 62 4 48:=⟨underlying25,⟨Tryz.t62,_,rfl,rfl,rfl,rfl,rfl⟩,by decide⟩
theorem y9U:elT Tryz.prog 26 69 7 104:=⟨underlying26,⟨Tryz.t69,_,rfl,rfl,rfl,rfl,rfl⟩,by decide⟩
theorem ygc:y4K Tryz.prog 31 8:=y2I (i:=Tryz.t31) rfl
theorem y69:elT Tryz.prog 58 60 3 24:=⟨underlying58,⟨Tryz.t60,_,rfl,rfl,rfl,rfl,rfl⟩,by decide⟩
theorem y6X:y2t Tryz.prog 40 (.agg #[vn,vn]):=y2f (i:=Tryz.t40) rfl rfl
theorem yq:y5r Tryz.prog 3:=y3c underlying3 rfl
theorem y49:y6V Tryz.prog 60 3:=y5h (i:=Tryz.t60) underlying60 rfl rfl
theorem y6Y:y2t Tryz.prog 60 (.agg #[(vi 0),(vi 0),(vi 0)]):=y2f (i:=Tryz.t60) rfl rfl
theorem y7h:y4K Tryz.prog 60 3:=y2I (i:=Tryz.t60) rfl
theorem y4a:yR Tryz.prog 60 0 0:=yG (i:=Tryz.t3) underlying60 rfl rfl (by decide) rfl
theorem y2K:y2t Tryz.prog 3 (vi 0):=y2f (i:=Tryz.t3) rfl rfl
theorem y3V:KeyT Tryz.prog 3 (Value.int .i64):=keyT_int underlying3
theorem y5I:yR Tryz.prog 60 1 1:=yG (i:=Tryz.t3) underlying60 rfl rfl (by decide) rfl
theorem y8H:yR Tryz.prog 60 2 2:=yG (i:=Tryz.t3) underlying60 rfl rfl (by decide) rfl
theorem aggT_62:y6V Tryz.prog 62 4:=y5h (i:=Tryz.t62) underlying62 rfl rfl
theorem zeroT_62:y2t Tryz.prog 62 (.agg #[(.string ⟨#[]⟩),(.string ⟨#[]⟩),(vi 0),(vi 0)]):=y2f (i:=Tryz.t62) rfl rfl
theorem sizT_62:y4K Tryz.prog 62 4:=y2I (i:=Tryz.t62) rfl
theorem fo_62_0:yR Tryz.prog 62 0 0:=yG (i:=Tryz.t9) underlying62 rfl rfl (by decide) rfl
theorem yfv:y5r Tryz.prog 9:=y3c underlying9 rfl
theorem fo_126_0:yR Tryz.prog 126 0 0:=yG (i:=Tryz.t9) underlying126 rfl rfl (by decide) rfl
theorem fo_64_0:yR Tryz.prog 64 0 0:=yG (i:=Tryz.t9) underlying64 rfl rfl (by decide) rfl
theorem fo_62_1:yR Tryz.prog 62 1 1:=yG (i:=Tryz.t9) underlying62 rfl rfl (by decide) rfl
theorem fo_62_2:yR Tryz.prog 62 2 2:=yG (i:=Tryz.t3) underlying62 rfl rfl (by decide) rfl
theorem y9s:yR Tryz.prog 62 3 3:=yG (i:=Tryz.t3) underlying62 rfl rfl (by decide) rfl
theorem aggT_64:y6V Tryz.prog 64 4:=y5h (i:=Tryz.t64) underlying64 rfl rfl
theorem zeroT_64:y2t Tryz.prog 64 (.agg #[(.string ⟨#[]⟩),(vi 0),(vi 0),(vi 0)]):=y2f (i:=Tryz.t64) rfl rfl
theorem sizT_64:y4K Tryz.prog 64 4:=y2I (i:=Tryz.t64) rfl
theorem fo_64_1:yR Tryz.prog 64 1 1:=yG (i:=Tryz.t3) underlying64 rfl rfl (by decide) rfl
theorem ye1:yR Tryz.prog 64 2 2:=yG (i:=Tryz.t3) underlying64 rfl rfl (by decide) rfl
theorem yiW:yR Tryz.prog 64 3 3:=yG (i:=Tryz.t3) underlying64 rfl rfl (by decide) rfl
theorem zl5:y2t Tryz.prog 121 (.agg #[(vi 0),(vi 0)]):=y2f (i:=Tryz.t121) rfl rfl
theorem zoz:y4K Tryz.prog 121 2:=y2I (i:=Tryz.t121) rfl
theorem z5o:y6V Tryz.prog 121 2:=y5h (i:=Tryz.t121) underlying121 rfl rfl
theorem z75:elT Tryz.prog 112 121 2 16:=⟨underlying112,⟨Tryz.t121,_,rfl,rfl,rfl,rfl,rfl⟩,by decide⟩
theorem zoA:EqT Tryz.prog 121 yE:=⟨fun u v w=>by
 have c:=fun(w:World) (a b:Array Value)=>run_equalIn_agg (P:=Tryz.prog) w 9999 121 a b (by simp[Program.fieldsOf,underlying121]) (by kernel_rfl)
 have d:=fun(w:World) (a b:Int)=>run_equalIn_int (P:=Tryz.prog) w 9998 3 .i64 .i64 a b underlying3
 rw[c]
 simp[Program.fieldsOf,Op.eqFields,part,yE,c,underlying121,d]
 rcases u with⟨u1,u2⟩
 rcases v with⟨v1,v2⟩
 by_cases h1:u1=v1 <;> by_cases h2:u2=v2 <;> simp[h1,h2],by kernel_rfl⟩
theorem y9t:yR Tryz.prog 121 0 0:=yG (i:=Tryz.t3) underlying121 rfl rfl (by decide) rfl
theorem yaS:yR Tryz.prog 121 1 1:=yG (i:=Tryz.t3) underlying121 rfl rfl (by decide) rfl
theorem y6a:elT Tryz.prog 50 3 1 8:=⟨underlying50,⟨Tryz.t3,_,rfl,rfl,rfl,rfl,rfl⟩,by decide⟩
theorem zLL:y2t Tryz.prog 117 (.map none):=y2f (i:=Tryz.t117) rfl rfl
theorem zLM:y4K Tryz.prog 117 1:=y2I (i:=Tryz.t117) rfl
theorem zl6:y5r Tryz.prog 117:=y3c underlying117 rfl
theorem zd9:KeyT Tryz.prog 121 (fun x=>Value.agg (yE x).toArray):=yeU underlying121 (fun _ _=>rfl) (fun b k w=>by
 have c:=fun(w:World) (a:Int)=>MapKept.run_checkKey (P:=Tryz.prog) (w:=w) (kt:=3) (k:=.int .i64 a) underlying3 (by simp[MapKept.IsKey]) b 9998
 have ck:∀(w:World) (u0:Int) (u1:Int),(Instr.checkKey b 10000 121 (.agg #[.int .i64 u0,.int .i64 u1])).run Tryz.prog w = .ok () w:=fun w u0 u1=>by
  rw[show(10000:Nat)=9999+1 from U,Instr.checkKey]
  simp[run_underlying underlying121,c,part]
 exact ck w k.fNode k.fQ)
 (fun u v w=>zoA.eq u v w)
 (fun k=>by simp[Instr.sameBits,yE])
theorem y5z:elT Tryz.prog 33 37 4 32:=⟨underlying33,⟨Tryz.t37,_,rfl,rfl,rfl,rfl,rfl⟩,by decide⟩
theorem y53:y4K Tryz.prog 40 2:=y2I (i:=Tryz.t40) rfl
theorem y5j:y6V Tryz.prog 40 2:=y5h (i:=Tryz.t40) underlying40 rfl rfl
theorem ygd:yR Tryz.prog 69 2 4:=yG (i:=Tryz.t3) underlying69 rfl rfl (by decide) rfl
theorem y7W:yR Tryz.prog 69 3 5:=yG (i:=Tryz.t3) underlying69 rfl rfl (by decide) rfl
theorem yge:y6V Tryz.prog 69 7:=y5h (i:=Tryz.t69) underlying69 rfl rfl
theorem y4b:yR Tryz.prog 40 0 0:=yG (i:=Tryz.t33) underlying40 rfl rfl (by decide) rfl
theorem y4c:y5r Tryz.prog 33:=y3c underlying33 rfl
theorem y7G:y2t Tryz.prog 37 (.agg #[(vi 0),(vi 0),(vi 0),(vi 0)]):=y2f (i:=Tryz.t37) rfl rfl
theorem fo_119_1:yR Tryz.prog 119 1 8:=yG (i:=Tryz.t32) underlying119 rfl rfl (by decide) rfl
theorem oneT_32:y5r Tryz.prog 32:=y3c underlying32 rfl
theorem y6o:yR Tryz.prog 119 0 0:=yG (i:=Tryz.t31) underlying119 rfl rfl (by decide) rfl
theorem zX:y2t Tryz.prog 175 (.agg #[(vi 0),(vi 0)]):=y2f (i:=Tryz.t175) rfl rfl
theorem zy:y4K Tryz.prog 175 2:=y2I (i:=Tryz.t175) rfl
theorem zg:y6V Tryz.prog 175 2:=y5h (i:=Tryz.t175) underlying175 rfl rfl
theorem yeX:yR Tryz.prog 119 2 9:=yG (i:=Tryz.t116) underlying119 rfl rfl (by decide) rfl
theorem zsA:y5r Tryz.prog 116:=y3c underlying116 rfl
theorem zLN:EqT Tryz.prog 223 y2P:=⟨fun u v w=>by
 have c:=fun(w:World) (a b:Array Value)=>run_equalIn_agg (P:=Tryz.prog) w 9999 223 a b (by simp[Program.fieldsOf,underlying223]) (by kernel_rfl)
 have d:=fun(w:World) (a b:Int)=>run_equalIn_int (P:=Tryz.prog) w 9998 3 .i64 .i64 a b underlying3
 have e:=fun(w:World) (a b:Array Value)=>run_equalIn_agg (P:=Tryz.prog) w 9998 121 a b (by simp[Program.fieldsOf,underlying121]) (by kernel_rfl)
 have f:=fun(w:World) (a b:Int)=>run_equalIn_int (P:=Tryz.prog) w 9997 3 .i64 .i64 a b underlying3
 rw[c]
 simp[Program.fieldsOf,Op.eqFields,part,y2P,c,underlying223,d,e,underlying121,f]
 rcases u with⟨u1,⟨u2,u3⟩⟩
 rcases v with⟨v1,⟨v2,v3⟩⟩
 by_cases h1:u1=v1 <;> by_cases h2:u2=v2 <;> by_cases h3:u3=v3 <;> simp[h1,h2,h3],by kernel_rfl⟩
theorem zsC:KeyT Tryz.prog 223 (fun x=>Value.agg (y2P x).toArray):=yeU underlying223 (fun _ _=>rfl) (fun b k w=>by
 have c:=fun(w:World) (a:Int)=>MapKept.run_checkKey (P:=Tryz.prog) (w:=w) (kt:=3) (k:=.int .i64 a) underlying3 (by simp[MapKept.IsKey]) b 9998
 have d:=fun(w:World) (a:Int)=>MapKept.run_checkKey (P:=Tryz.prog) (w:=w) (kt:=3) (k:=.int .i64 a) underlying3 (by simp[MapKept.IsKey]) b 9997
 have e:∀(w:World) (u0:Int) (u1:Int),(Instr.checkKey b 9999 121 (.agg #[.int .i64 u0,.int .i64 u1])).run Tryz.prog w = .ok () w:=fun w u0 u1=>by
  rw[show(9999:Nat)=9998+1 from U,Instr.checkKey]
  simp[run_underlying underlying121,d,part]
 have ck:∀(w:World) (u0:Int) (u1:Int) (u2:Int),(Instr.checkKey b 10000 223 (.agg #[.int .i64 u0,.int .i64 u1,.int .i64 u2])).run Tryz.prog w = .ok () w:=fun w u0 u1 u2=>by
  rw[show(10000:Nat)=9999+1 from U,Instr.checkKey]
  simp[run_underlying underlying223,c,e,part]
 exact ck w k.fVl k.fAt_.fNode k.fAt_.fQ)
 (fun u v w=>zLN.eq u v w)
 (fun k=>by simp[Instr.sameBits,y2P])
theorem y2G:yR Tryz.prog 175 0 0:=yG (i:=Tryz.t3) underlying175 rfl rfl (by decide) rfl
theorem ybO:y4K Tryz.prog 3 1:=y2I (i:=Tryz.t3) rfl
theorem yeY:yR Tryz.prog 119 3 10:=yG (i:=Tryz.t117) underlying119 rfl rfl (by decide) rfl
theorem y34:yR Tryz.prog 175 1 1:=yG (i:=Tryz.t3) underlying175 rfl rfl (by decide) rfl
theorem y4q:KeyT Tryz.prog 9 Value.string:=keyT_str underlying9
theorem zoB:y2t Tryz.prog 303 .nilFunc:=y2f (i:=Tryz.t303) rfl rfl
theorem y9u:yR Tryz.prog 119 4 11:=yG (i:=Tryz.t41) underlying119 rfl rfl (by decide) rfl
theorem y3t:y5r Tryz.prog 41:=y3c underlying41 rfl
theorem ybP:y4K Tryz.prog 41 1:=y2I (i:=Tryz.t41) rfl
theorem yeZ:y2t Tryz.prog 50 vn:=y2f (i:=Tryz.t50) rfl rfl
theorem z7A:elT Tryz.prog 227 225 4 32:=⟨underlying227,⟨Tryz.t225,_,rfl,rfl,rfl,rfl,rfl⟩,by decide⟩
theorem z8T:elT Tryz.prog 171 227 1 24:=⟨underlying171,⟨Tryz.t227,_,rfl,rfl,rfl,rfl,rfl⟩,by decide⟩
theorem zaX:y2t Tryz.prog 225 (.agg #[(vi 0),(vi 0),(vi 0),(vi 0)]):=y2f (i:=Tryz.t225) rfl rfl
theorem z9C:y4K Tryz.prog 225 4:=y2I (i:=Tryz.t225) rfl
theorem y5t:yR Tryz.prog 225 0 0:=yG (i:=Tryz.t175) underlying225 rfl rfl (by decide) rfl
theorem y6p:yR Tryz.prog 225 1 2:=yG (i:=Tryz.t175) underlying225 rfl rfl (by decide) rfl
theorem z38:y6V Tryz.prog 225 4:=y5h (i:=Tryz.t225) underlying225 rfl rfl
theorem zLR:y2t Tryz.prog 178 (.agg #[(vi 0),(vi 0),(vi 0),(vi 0)]):=y2f (i:=Tryz.t178) rfl rfl
theorem zLS:y4K Tryz.prog 178 4:=y2I (i:=Tryz.t178) rfl
theorem zht:y6V Tryz.prog 178 4:=y5h (i:=Tryz.t178) underlying178 rfl rfl
theorem z88:y5r Tryz.prog 171:=y3c underlying171 rfl
theorem zDb:y2t Tryz.prog 231 (.agg #[vn,(vi 0),(vi 0),(vi 0),(vi 0),.nilFunc,vn]):=y2f (i:=Tryz.t231) rfl rfl
theorem zDc:y4K Tryz.prog 231 7:=y2I (i:=Tryz.t231) rfl
theorem ycq:yR Tryz.prog 231 2 5:=yG (i:=Tryz.t228) underlying231 rfl rfl (by decide) rfl
theorem zDd:y4K Tryz.prog 228 1:=y2I (i:=Tryz.t228) rfl
theorem zhu:y6V Tryz.prog 231 7:=y5h (i:=Tryz.t231) underlying231 rfl rfl
theorem y7H:yR Tryz.prog 231 0 0:=yG (i:=Tryz.t171) underlying231 rfl rfl (by decide) rfl
theorem zda:y5r Tryz.prog 227:=y3c underlying227 rfl
theorem ycr:yR Tryz.prog 231 1 1:=yG (i:=Tryz.t178) underlying231 rfl rfl (by decide) rfl
theorem y9v:yR Tryz.prog 178 0 0:=yG (i:=Tryz.t175) underlying178 rfl rfl (by decide) rfl
theorem y9w:yR Tryz.prog 178 1 2:=yG (i:=Tryz.t175) underlying178 rfl rfl (by decide) rfl
theorem zoC:y2t Tryz.prog 277 (.agg #[(vi 0)]):=y2f (i:=Tryz.t277) rfl rfl
theorem zDe:y2t Tryz.prog 307 (.agg #[(vi 0)]):=y2f (i:=Tryz.t307) rfl rfl
theorem zsD:y2t Tryz.prog 229 vn:=y2f (i:=Tryz.t229) rfl rfl
theorem zDf:EqT Tryz.prog 225 y1O:=⟨fun u v w=>by
 have c:=fun(w:World) (a b:Array Value)=>run_equalIn_agg (P:=Tryz.prog) w 9999 225 a b (by simp[Program.fieldsOf,underlying225]) (by kernel_rfl)
 have d:=fun(w:World) (a b:Array Value)=>run_equalIn_agg (P:=Tryz.prog) w 9998 175 a b (by simp[Program.fieldsOf,underlying175]) (by kernel_rfl)
 have e:=fun(w:World) (a b:Int)=>run_equalIn_int (P:=Tryz.prog) w 9997 3 .i64 .i64 a b underlying3
 rw[c]
 simp[Program.fieldsOf,Op.eqFields,part,y1O,c,underlying225,d,underlying175,e]
 rcases u with⟨⟨u1,u2⟩,⟨u3,u4⟩⟩
 rcases v with⟨⟨v1,v2⟩,⟨v3,v4⟩⟩
 by_cases h1:u1=v1 <;> by_cases h2:u2=v2 <;> by_cases h3:u3=v3 <;> by_cases h4:u4=v4 <;> simp[h1,h2,h3,h4],by kernel_rfl⟩
theorem z8U:y5r Tryz.prog 229:=y3c underlying229 rfl
theorem y9x:yR Tryz.prog 307 0 0:=yG (i:=Tryz.t41) underlying307 rfl rfl (by decide) rfl
theorem z2r:elT Tryz.prog 229 175 2 16:=⟨underlying229,⟨Tryz.t175,_,rfl,rfl,rfl,rfl,rfl⟩,by decide⟩
theorem zsE:y4K Tryz.prog 229 1:=y2I (i:=Tryz.t229) rfl
theorem zDh:EqT Tryz.prog 175 yx:=⟨fun u v w=>by
 have c:=fun(w:World) (a b:Array Value)=>run_equalIn_agg (P:=Tryz.prog) w 9999 175 a b (by simp[Program.fieldsOf,underlying175]) (by kernel_rfl)
 have d:=fun(w:World) (a b:Int)=>run_equalIn_int (P:=Tryz.prog) w 9998 3 .i64 .i64 a b underlying3
 rw[c]
 simp[Program.fieldsOf,Op.eqFields,part,yx,c,underlying175,d]
 rcases u with⟨u1,u2⟩
 rcases v with⟨v1,v2⟩
 by_cases h1:u1=v1 <;> by_cases h2:u2=v2 <;> simp[h1,h2],by kernel_rfl⟩
theorem yjJ:fldT Tryz.prog 225 1 2 175:=fldT_of underlying225 rfl rfl rfl
theorem y5u:yR Tryz.prog 277 0 0:=yG (i:=Tryz.t41) underlying277 rfl rfl (by decide) rfl
theorem yhD:yR Tryz.prog 231 3 6:=yG (i:=Tryz.t229) underlying231 rfl rfl (by decide) rfl
theorem zDj:y5r Tryz.prog 228:=y3c underlying228 rfl
theorem zDk:elT Tryz.prog 181 41 1 8:=⟨underlying181,⟨Tryz.t41,_,rfl,rfl,rfl,rfl,rfl⟩,by decide⟩
theorem y7X:y4K Tryz.prog 37 4:=y2I (i:=Tryz.t37) rfl
theorem y6C:y6V Tryz.prog 37 4:=y5h (i:=Tryz.t37) underlying37 rfl rfl
theorem yiX:y4K Tryz.prog 33 1:=y2I (i:=Tryz.t33) rfl
theorem y6D:yR Tryz.prog 37 0 0:=yG (i:=Tryz.t3) underlying37 rfl rfl (by decide) rfl
theorem y7Y:yR Tryz.prog 37 1 1:=yG (i:=Tryz.t3) underlying37 rfl rfl (by decide) rfl
theorem y9y:yR Tryz.prog 37 2 2:=yG (i:=Tryz.t3) underlying37 rfl rfl (by decide) rfl
theorem y9V:elT Tryz.prog 38 53 3 24:=⟨underlying38,⟨Tryz.t53,_,rfl,rfl,rfl,rfl,rfl⟩,by decide⟩
theorem ye2:yR Tryz.prog 53 1 1:=yG (i:=Tryz.t3) underlying53 rfl rfl (by decide) rfl
theorem y6E:yR Tryz.prog 40 1 1:=yG (i:=Tryz.t38) underlying40 rfl rfl (by decide) rfl
theorem yiY:y4K Tryz.prog 38 1:=y2I (i:=Tryz.t38) rfl
theorem zeroT_94:y2t Tryz.prog 94 (.agg #[(vi 0),(vi 0)]):=y2f (i:=Tryz.t94) rfl rfl
theorem sizT_94:y4K Tryz.prog 94 2:=y2I (i:=Tryz.t94) rfl
theorem ye3:y6V Tryz.prog 94 2:=y5h (i:=Tryz.t94) underlying94 rfl rfl
theorem zDl:y5r Tryz.prog 140:=y3c underlying140 rfl
theorem zl8:elT Tryz.prog 140 201 1 8:=⟨underlying140,⟨Tryz.t201,_,rfl,rfl,rfl,rfl,rfl⟩,by decide⟩
theorem zLU:y5r Tryz.prog 201:=y3c underlying201 rfl
theorem zsF:y5r Tryz.prog 148:=y3c underlying148 rfl
theorem zLV:y2t Tryz.prog 148 (.map none):=y2f (i:=Tryz.t148) rfl rfl
theorem zLW:y4K Tryz.prog 148 1:=y2I (i:=Tryz.t148) rfl
theorem eqT_94:EqT Tryz.prog 94 e94:=⟨fun u v w=>by
 have c:=fun(w:World) (a b:Array Value)=>run_equalIn_agg (P:=Tryz.prog) w 9999 94 a b (by simp[Program.fieldsOf,underlying94]) (by kernel_rfl)
 have d:=fun(w:World) (a b:Int)=>run_equalIn_int (P:=Tryz.prog) w 9998 3 .i64 .i64 a b underlying3
 rw[c]
 simp[Program.fieldsOf,Op.eqFields,part,e94,c,underlying94,d]
 rcases u with⟨u1,u2⟩
 rcases v with⟨v1,v2⟩
 by_cases h1:u1=v1 <;> by_cases h2:u2=v2 <;> simp[h1,h2],by kernel_rfl⟩
theorem ygf:KeyT Tryz.prog 94 (fun x=>Value.agg (e94 x).toArray):=yeU underlying94 (fun _ _=>rfl) (fun b k w=>by
 have c:=fun(w:World) (a:Int)=>MapKept.run_checkKey (P:=Tryz.prog) (w:=w) (kt:=3) (k:=.int .i64 a) underlying3 (by simp[MapKept.IsKey]) b 9998
 have ck:∀(w:World) (u0:Int) (u1:Int),(Instr.checkKey b 10000 94 (.agg #[.int .i64 u0,.int .i64 u1])).run Tryz.prog w = .ok () w:=fun w u0 u1=>by
  rw[show(10000:Nat)=9999+1 from U,Instr.checkKey]
  simp[run_underlying underlying94,c,part]
 exact ck w k.fNode k.fQ)
 (fun u v w=>eqT_94.eq u v w)
 (fun k=>by simp[Instr.sameBits,e94])
theorem y9z:y2t Tryz.prog 69 (.agg #[(.string ⟨#[]⟩),(.string ⟨#[]⟩),(.string ⟨#[]⟩),(.string ⟨#[]⟩),(vi 0),(vi 0),vn]):=y2f (i:=Tryz.t69) rfl rfl
theorem yiZ:y4K Tryz.prog 69 7:=y2I (i:=Tryz.t69) rfl
theorem ygg:yR Tryz.prog 94 0 0:=yG (i:=Tryz.t3) underlying94 rfl rfl (by decide) rfl
theorem zDn:y2t Tryz.prog 140 vn:=y2f (i:=Tryz.t140) rfl rfl
theorem zLX:y4K Tryz.prog 140 1:=y2I (i:=Tryz.t140) rfl
theorem yj0:yR Tryz.prog 94 1 1:=yG (i:=Tryz.t3) underlying94 rfl rfl (by decide) rfl
theorem yaI:yR Tryz.prog 37 3 3:=yG (i:=Tryz.t3) underlying37 rfl rfl (by decide) rfl
theorem zeroT_92:y2t Tryz.prog 92 (.map none):=y2f (i:=Tryz.t92) rfl rfl
theorem sizT_92:y4K Tryz.prog 92 1:=y2I (i:=Tryz.t92) rfl
theorem yj1:y5r Tryz.prog 92:=y3c underlying92 rfl
theorem yhE:elT Tryz.prog 46 50 1 24:=⟨underlying46,⟨Tryz.t50,_,rfl,rfl,rfl,rfl,rfl⟩,by decide⟩
theorem y7Z:y5r Tryz.prog 38:=y3c underlying38 rfl
theorem eqT_37:EqT Tryz.prog 37 e37:=⟨fun u v w=>by
 have c:=fun(w:World) (a b:Array Value)=>run_equalIn_agg (P:=Tryz.prog) w 9999 37 a b (by simp[Program.fieldsOf,underlying37]) (by kernel_rfl)
 have d:=fun(w:World) (a b:Int)=>run_equalIn_int (P:=Tryz.prog) w 9998 3 .i64 .i64 a b underlying3
 rw[c]
 simp[Program.fieldsOf,Op.eqFields,part,e37,c,underlying37,d]
 rcases u with⟨u1,u2,u3,u4⟩
 rcases v with⟨v1,v2,v3,v4⟩
 by_cases h1:u1=v1 <;> by_cases h2:u2=v2 <;> by_cases h3:u3=v3 <;> by_cases h4:u4=v4 <;> simp[h1,h2,h3,h4],by kernel_rfl⟩
theorem ye4:y6V Tryz.prog 53 3:=y5h (i:=Tryz.t53) underlying53 rfl rfl
theorem eqT_53:EqT Tryz.prog 53 e53:=⟨fun u v w=>by
 have c:=fun(w:World) (a b:Array Value)=>run_equalIn_agg (P:=Tryz.prog) w 9999 53 a b (by simp[Program.fieldsOf,underlying53]) (by kernel_rfl)
 have d:=fun(w:World) (a b:Int)=>run_equalIn_int (P:=Tryz.prog) w 9998 3 .i64 .i64 a b underlying3
 rw[c]
 simp[Program.fieldsOf,Op.eqFields,part,e53,c,underlying53,d]
 rcases u with⟨u1,u2,u3⟩
 rcases v with⟨v1,v2,v3⟩
 by_cases h1:u1=v1 <;> by_cases h2:u2=v2 <;> by_cases h3:u3=v3 <;> simp[h1,h2,h3],by kernel_rfl⟩
theorem oneT_50:y5r Tryz.prog 50:=y3c underlying50 rfl
theorem yhF:y2t Tryz.prog 53 (.agg #[(vi 0),(vi 0),(vi 0)]):=y2f (i:=Tryz.t53) rfl rfl
theorem yj2:y4K Tryz.prog 53 3:=y2I (i:=Tryz.t53) rfl
theorem yj3:yR Tryz.prog 53 0 0:=yG (i:=Tryz.t3) underlying53 rfl rfl (by decide) rfl
theorem yj4:yR Tryz.prog 53 2 2:=yG (i:=Tryz.t3) underlying53 rfl rfl (by decide) rfl
def y54(routes_58:List (List ze))(b:Option Bool):Nat->Int->Option Bool
 | 0,_=>none
 | c+1,a=>if decide (a<(routes_58.length:Int)) then chk ((0:Int)<=a/\a<(routes_58.length:Int)) (if decide (((nth routes_58 a).length:Int)>40) then some false else y54 routes_58 b c (i64 (a+1))) else b
def y8j(c_33:zs)(routes_58:List (List ze)):Option Bool:=
 if ((((decide ((c_33.fM.length:Int)>8))||(decide ((c_33.fS.length:Int)>8)))||(decide ((c_33.fK.length:Int)>20)))||(decide ((c_33.fVLs.length:Int)>20)))||(decide ((routes_58.length:Int)>20)) then some false else jp0 (some true) fun a=>y54 routes_58 a yy 0
theorem yiD{Z:Zp}{ao_34:Option Addr}{cap_35:Nat}{ao_37:Option Addr}{cap_38:Nat}{ao_40:Option Addr}{cap_41:Nat}{ao_43:Option Addr}{cap_44:Nat}{ao_46:Option Addr}{cap_47:Nat}{ao_49:Option Addr}{cap_50:Nat}{ao_52:Option Addr}{cap_53:Nat}{ao_55:Option Addr}{cap_56:Nat}{ao_59:Option Addr}{cap_60:Nat}{c_33:zs}{routes_58:List (List ze)}{r:Bool}(h:y8j c_33 routes_58=some r)(w₀:World)(hz:PZ [] w₀ Z)(hs_36:ZS Z 4 (y3F Z) ao_34 cap_35 c_33.fM)(hs_39:ZS Z 4 (y4l Z) ao_37 cap_38 c_33.fC0)(hs_42:ZS Z 4 (fun r x=>r=e64 x) ao_40 cap_41 c_33.fS)(hs_45:ZS Z 4 (fun r x=>r=e62 x) ao_43 cap_44 c_33.fK)(hs_48:ZS Z 7 (p69 Z) ao_46 cap_47 c_33.fVLs)(hs_51:ZS Z 5 (fun r x=>r=y4D x) ao_49 cap_50 c_33.fH)(hs_54:ZS Z 3 (y4m Z) ao_52 cap_53 c_33.fU)(hs_57:ZS Z 4 (fun r x=>r=y4E x) ao_55 cap_56 c_33.fV0)(hs_61:ZS Z 1 (p58 Z) ao_59 cap_60 routes_58):
  Calls Tryz.prog 10 #[(.agg #[(vs ao_34 c_33.fM.length cap_35),(vs ao_37 c_33.fC0.length cap_38),(vs ao_40 c_33.fS.length cap_41),(vs ao_43 c_33.fK.length cap_44),(vs ao_46 c_33.fVLs.length cap_47),(vs ao_49 c_33.fH.length cap_50),(vs ao_52 c_33.fU.length cap_53),(vs ao_55 c_33.fV0.length cap_56)]),(vs ao_59 routes_58.length cap_60)] w₀ fun e w'=>e = .returned (.bool r)/\Hp [] w₀ w' []:=by
 unfold y8j at h
 refine Lz func10 ntmps10 ?_
 refine WC.b<|Ld<|Lg 2 (yI (cs:=[(vs ao_34 c_33.fM.length cap_35),(vs ao_37 c_33.fC0.length cap_38),(vs ao_40 c_33.fS.length cap_41),(vs ao_43 c_33.fK.length cap_44),(vs ao_46 c_33.fVLs.length cap_47),(vs ao_49 c_33.fH.length cap_50),(vs ao_52 c_33.fU.length cap_53),(vs ao_55 c_33.fV0.length cap_56)]) U U) ?_
 intro q _
 let A:=(c_33.fM.length:Int);let C:=(c_33.fS.length:Int);refine La U (WL.nil (Lb (WC.b (WC.b (Ld (Le 7 (ya y7e U U) (Le 8 (yc y7f U (yh .here U)) (Le 9 (yJ underlying22 U) (La U (La U (Lu false 4 11 (B:=(decide (A>8))||(decide (C>8))) U U U U U U (fun h=>(y5V h).symm) (fun _ i=>?_) ?_)))))))))))
 ·skip
  refine Le 12 (ya yaG U U)<|Le 13 (yc yaH U<|yh .here U)<|Le 14 (yJ underlying24 U)<|La U<|La U ?_
  exact Lv (y5W i) U U .all
 let D:=(c_33.fK.length:Int);refine La U (Lu false 4 17 (B:=((decide (A>8))||(decide (C>8)))||(decide (D>20))) U U U U U U (fun h=>(y5V h).symm) (fun _ j=>?_) ?_)
 ·skip
  refine Le 18 (ya y7S U U)<|Le 19 (yc y7T U<|yh .here U)<|Le 20 (yJ underlying25 U)<|La U<|La U ?_
  exact Lv (y5W j) U U .all
 let E:=(c_33.fVLs.length:Int);refine La U (Lu false 4 23 (B:=(((decide (A>8))||(decide (C>8)))||(decide (D>20)))||(decide (E>20))) U U U U U U (fun h=>(y5V h).symm) (fun _ k=>?_) ?_)
 ·skip
  refine Le 24 (ya y7U U U)<|Le 25 (yc y7V U<|yh .here U)<|Le 26 (yJ underlying26 U)<|La U<|La U ?_
  exact Lv (y5W k) U U .all
 let F:=(routes_58.length:Int);refine La U (Lu false 3 29 (B:=((((decide (A>8))||(decide (C>8)))||(decide (D>20)))||(decide (E>20)))||(decide (F>20))) U U U U U U (fun h=>(y5V h).symm) (fun _ l=>?_) ?_)
 ·skip
  refine La U<|Le 31 (yJ underlying32 U)<|La U<|La U ?_
  exact Lv (y5W l) U U .all
 refine WL.nil<|Lb<|WC.cond U (fun c=>?_)<|fun c=>?_
 ·replace h:=yr h c
  refine WC.b<|Ld<|La U<|WL.nil<|Lb<|WC.ret<|Lj ?_
  obtain rfl:=oJ h
  refine Lh results10 (.tmp U .nil)<|fun w hw=>?_
  exact⟨yD U,hw.sub .nil⟩
 ·replace h:=ys h c
  refine WC.skip<|Lb ?_
  obtain⟨g,m,h⟩:=y2m h
  refine L8 ((g=some r)) ([]) ([]) ?_ ?_
  ·skip
   refine WC.b<|Ld<|La U<|Le 35 (yJ underlying32 U)<|La U<|WL.nil<|Lb<|WC.block<|L9 (fun(b:Nat) (a:Int)=>(y54 routes_58 g b a=some r)) (fun b a=>[(34,(vs ao_59 routes_58.length cap_60)),(35,(vi F)),(36,(vi a))]) (fun b a=>[]) (fun b a=>b) ⟨yy,0⟩ h (.r3 U U U) .nil ?_
   rintro(_|n) a h;·cases h
   rw[y54] at h
   refine WC.b<|Ld<|La U<|WL.nil<|Lb<|WC.b<|WC.cond U (fun d=>?_)<|fun d=>?_
   ·replace h:=yr h d
    refine WC.skip<|Lb<|WC.b<|WC.block<|WC.b ?_
    obtain⟨o,h⟩:=yo h
    refine Ld<|L0 (dd:=38) U U (Z:=Z) (Pr:=(p58 Z)) y8Y U U hs_61 o ?_
    rintro s t p u ⟨v,y,rfl,z⟩
    refine Le 39 (yc y7g U<|y3x hz.pv p U)<|La U<|WL.nil<|Lb<|WC.b<|Ld<|La U<|Le 41 (yJ underlying58 U)<|La U<|WL.nil<|Lb<|WC.cond U (fun f=>?_)<|fun f=>?_
    ·replace h:=yr h f
     refine WC.b<|Ld<|La U<|WL.nil<|Lb<|WC.ret<|Lt<|Lj<|Lj<|Lt<|Lj ?_
     obtain rfl:=oJ h
     refine Lh results10 (.tmp U .nil)<|fun w hw=>?_
     exact⟨yD U,hw.sub .nil⟩
    ·replace h:=ys h f
     refine WC.skip<|Lq<|Lb<|Ld<|La U<|La U<|WL.nil ?_
     exact WX.round ⟨n,(i64 (a+1))⟩ h (Nat.lt_succ_self _) (.r3 U U U) .nil
   ·replace h:=ys h d
    refine WC.exit<|Lm<|Lm<|Lw ?_
    exact Ln () h .nil .nil
  ·rintro  h
   replace h:=m.symm.trans h
   refine WC.b<|Ld<|La U<|WL.nil<|Lb<|WC.ret ?_
   obtain rfl:=oJ h
   refine Lh results10 (.tmp U .nil)<|fun w hw=>?_
   exact⟨yD U,hw.sub .nil⟩
def y8Z  : Option (zs×List (List ze)):=
 some ((⟨([(⟨⟨#[109]⟩,0,0,[]⟩:z6z),(⟨⟨#[110]⟩,0,0,[]⟩:z6z)]:List z6z),[],([(⟨⟨#[115]⟩,0,16,100⟩:z87)]:List z87),([(⟨⟨#[109]⟩,⟨#[115]⟩,0,1⟩:z74),(⟨⟨#[110]⟩,⟨#[115]⟩,0,1⟩:z74)]:List z74),([(⟨⟨#[]⟩,(⟨⟨#[]⟩,⟨#[]⟩,⟨#[]⟩⟩:Sapi_Ref),200,40,[]⟩:z16)]:List z16),[],[],[]⟩:zs),([([(⟨0,2,0⟩:ze),(⟨2,1,1⟩:ze)]:List ze)]:List (List ze)))
theorem yfw{Z:Zp}{r:zs×List (List ze)}(h:y8Z=some r)(w₀:World)(hz:PZ [] w₀ Z):
  Calls Tryz.prog 19 #[] w₀ fun e w'=>∃ Zn:Zp,∃ a:Option Addr,∃ b:Nat,∃ c:List Value,∃ d:Option Addr,∃ f:Nat,∃ g:Option Addr,∃ i:Nat,∃ j:Option Addr,∃ k:Nat,∃ m:Option Addr,∃ n:Nat,∃ o:List Value,∃ p:Option Addr,∃ q:Nat,∃ s:Option Addr,∃ t:Nat,∃ u:Option Addr,∃ y:Nat,∃ z:Option Addr,∃ B:Nat,∃ E:List Value,e = .returned (.tuple #[(.agg #[(vs a r.1.fM.length b),(vs d r.1.fC0.length f),(vs g r.1.fS.length i),(vs j r.1.fK.length k),(vs m r.1.fVLs.length n),(vs p r.1.fH.length q),(vs s r.1.fU.length t),(vs u r.1.fV0.length y)]),(vs z r.2.length B)])/\((RR 4 (y3F (Z++Zn)) c r.1.fM)/\(ZS (Z++Zn) 4 (y4l (Z++Zn)) d f r.1.fC0)/\(RR 7 (p69 (Z++Zn)) o r.1.fVLs)/\(ZS (Z++Zn) 5 (fun r x=>r=y4D x) p q r.1.fH)/\(ZS (Z++Zn) 3 (y4m (Z++Zn)) s t r.1.fU)/\(ZS (Z++Zn) 4 (fun r x=>r=y4E x) u y r.1.fV0)/\(RR 1 (p58 (Z++Zn)) E r.2))/\Hp [] w₀ w' [fz Zn,row (vs a r.1.fM.length b) 126 4 c,row (vs g r.1.fS.length i) 64 4 (r.1.fS.flatMap e64),row (vs j r.1.fK.length k) 62 4 (r.1.fK.flatMap e62),row (vs m r.1.fVLs.length n) 69 7 o,row (vs z r.2.length B) 58 1 E]:=by
 unfold y8Z at h
 refine Calls.on0 func19 ntmps19 ?_
 refine WC.pool<|WC.b<|Ld (Lg 0 (yu (cs:=[vn,vn,vn,vn,vn,vn,vn,vn]) yeW U) fun R _=>La U<|WL.nil<|Lb<|WC.b<|Ld<|Le 3 (yN (v:=(.agg #[(.string ⟨#[109]⟩),(vi 0),(vi 0),vn])) (Lo (l:=[.const (.string ⟨#[109]⟩)]) (.cons U .nil) [0]) (fun _=>by kernel_rfl))<|Le 4 (yN (v:=(.agg #[(.string ⟨#[110]⟩),(vi 0),(vi 0),vn])) (Lo (l:=[.const (.string ⟨#[110]⟩)]) (.cons U .nil) [0]) (fun _=>by kernel_rfl)) ?_)
 let D:List Value:=[(.string ⟨#[109]⟩),(vi 0),(vi 0),vn,(.string ⟨#[110]⟩),(vi 0),(vi 0),vn];have M:RR 4 (y3F (Z++[])) D ([(⟨⟨#[109]⟩,0,0,[]⟩:z6z),(⟨⟨#[110]⟩,0,0,[]⟩:z6z)]:List z6z):=(RR.cons (r:=[(.string ⟨#[109]⟩),(vi 0),(vi 0),vn]) U (show y3F _ _ _ from⟨_,_,U,(ZS.nil _ _ _)⟩) (RR.cons (r:=[(.string ⟨#[110]⟩),(vi 0),(vi 0),vn]) U (show y3F _ _ _ from⟨_,_,U,(ZS.nil _ _ _)⟩) (RR.nil _ _)))
 refine Lg 5 (yT (cs:=[(.string ⟨#[109]⟩),(vi 0),(vi 0),vn,(.string ⟨#[110]⟩),(vi 0),(vi 0),vn]) elT_22 (Lo (l:=[.tmp 3,.tmp 4]) (.r2 U U) [0,1]) (fun _=>by kernel_rfl) U (by unfold maxLen;omega)) fun F _=>Le 6 (yN (v:=(.agg #[(.string ⟨#[115]⟩),(vi 0),(vi 16),(vi 100)])) (Lo (l:=[.const (.string ⟨#[115]⟩),.const (vi 16),.const (vi 100)]) (.r3 U U U) [0,2,3]) (fun _=>by kernel_rfl)) (Lg 7 (yT (cs:=([(⟨⟨#[115]⟩,0,16,100⟩:z87)]:List z87).flatMap e64) ydo (Lo (l:=[.tmp 6]) (.cons U .nil) [0]) (fun _=>by kernel_rfl) U (by unfold maxLen;omega)) fun G _=>Le 8 (yN (v:=(.agg #[(.string ⟨#[109]⟩),(.string ⟨#[115]⟩),(vi 0),(vi 1)])) (Lo (l:=[.const (.string ⟨#[109]⟩),.const (.string ⟨#[115]⟩),.const (vi 1)]) (.r3 U U U) [0,1,3]) (fun _=>by kernel_rfl))<|Le 9 (yN (v:=(.agg #[(.string ⟨#[110]⟩),(.string ⟨#[115]⟩),(vi 0),(vi 1)])) (Lo (l:=[.const (.string ⟨#[110]⟩),.const (.string ⟨#[115]⟩),.const (vi 1)]) (.r3 U U U) [0,1,3]) (fun _=>by kernel_rfl)) (Lg 10 (yT (cs:=([(⟨⟨#[109]⟩,⟨#[115]⟩,0,1⟩:z74),(⟨⟨#[110]⟩,⟨#[115]⟩,0,1⟩:z74)]:List z74).flatMap e62) yaR (Lo (l:=[.tmp 8,.tmp 9]) (.r2 U U) [0,1]) (fun _=>by kernel_rfl) U (by unfold maxLen;omega)) fun H _=>Le 11 (yN (v:=(.agg #[(.string ⟨#[]⟩),(.string ⟨#[]⟩),(.string ⟨#[]⟩),(.string ⟨#[]⟩),(vi 200),(vi 40),vn])) (Lo (l:=[.const (vi 200),.const (vi 40)]) (.r2 U U) [2,3]) (fun _=>by kernel_rfl)) ?_))
 let A:List Value:=[(.string ⟨#[]⟩),(.string ⟨#[]⟩),(.string ⟨#[]⟩),(.string ⟨#[]⟩),(vi 200),(vi 40),vn];have N:RR 7 (p69 (Z++[])) A ([(⟨⟨#[]⟩,(⟨⟨#[]⟩,⟨#[]⟩,⟨#[]⟩⟩:Sapi_Ref),200,40,[]⟩:z16)]:List z16):=(RR.cons (r:=A) U (show p69 _ _ _ from⟨_,_,U,(ZS.nil _ _ _)⟩) (RR.nil _ _))
 refine Lg 12 (yT (cs:=[(.string ⟨#[]⟩),(.string ⟨#[]⟩),(.string ⟨#[]⟩),(.string ⟨#[]⟩),(vi 200),(vi 40),vn]) y9U (Lo (l:=[.tmp 11]) (.cons U .nil) [0]) (fun _=>by kernel_rfl) U (by unfold maxLen;omega)) fun I _=>Le 13 (yN (v:=(.agg #[(vs (some ⟨F,0,none⟩) (([(⟨⟨#[109]⟩,0,0,[]⟩:z6z),(⟨⟨#[110]⟩,0,0,[]⟩:z6z)]:List z6z).length) 2),vn,(vs (some ⟨G,0,none⟩) (([(⟨⟨#[115]⟩,0,16,100⟩:z87)]:List z87).length) 1),(vs (some ⟨H,0,none⟩) (([(⟨⟨#[109]⟩,⟨#[115]⟩,0,1⟩:z74),(⟨⟨#[110]⟩,⟨#[115]⟩,0,1⟩:z74)]:List z74).length) 2),(vs (some ⟨I,0,none⟩) (([(⟨⟨#[]⟩,(⟨⟨#[]⟩,⟨#[]⟩,⟨#[]⟩⟩:Sapi_Ref),200,40,[]⟩:z16)]:List z16).length) 1),vn,vn,vn])) (Lo (l:=[.tmp 5,.tmp 7,.tmp 10,.tmp 12]) (.r4 U U U U) [0,2,3,4]) (fun _=>by kernel_rfl)) (Lg 2 (yu (cs:=[vn,vn,vn,vn,vn,vn,vn,vn]) yeW U) fun S _=>Lk U U (yl ygc U U U .here U U U)<|WL.nil<|Lb<|WC.b<|Ld<|Le 14 (yi y1V U (yj .here) U)<|Le 15 (yN (v:=(.agg #[(vi 0),(vi 2),(vi 0)])) (Lo (l:=[.const (vi 0),.const (vi 2),.const (vi 0)]) (.r3 U U U) [0,1,2]) (fun _=>by kernel_rfl))<|Le 16 (yN (v:=(.agg #[(vi 2),(vi 1),(vi 1)])) (Lo (l:=[.const (vi 2),.const (vi 1),.const (vi 1)]) (.r3 U U U) [0,1,2]) (fun _=>by kernel_rfl)) (Lg 17 (yT (cs:=([(⟨0,2,0⟩:ze),(⟨2,1,1⟩:ze)]:List ze).flatMap e60) y69 (Lo (l:=[.tmp 15,.tmp 16]) (.r2 U U) [0,1]) (fun _=>by kernel_rfl) U (by unfold maxLen;omega)) fun J _=>WL.freezeS (ls:=([(⟨0,2,0⟩:ze),(⟨2,1,1⟩:ze)]:List ze)) .here .h6 hz (RR.flat (enc:=e60) (fun _=>U) _) ?_))
 intro K L O
 let C:Value:=(vs (some ⟨J,0,none⟩) (([(⟨0,2,0⟩:ze),(⟨2,1,1⟩:ze)]:List ze).length) 2);have P:RR 1 (p58 (Z++K)) [C] ([([(⟨0,2,0⟩:ze),(⟨2,1,1⟩:ze)]:List ze)]:List (List ze)):=(RR.cons (r:=[C]) U (show p58 _ _ _ from⟨_,_,U,O⟩) (RR.nil _ _))
 refine Lg 18 (yT (cs:=[(vs (some ⟨J,0,none⟩) (([(⟨0,2,0⟩:ze),(⟨2,1,1⟩:ze)]:List ze).length) 2)]) y8Y (Lo (l:=[.tmp 17]) (.cons U .nil) [0]) (fun _=>by kernel_rfl) U (by unfold maxLen;omega)) fun Q _=>Lk U U (yl ygc U U U .h7 U U U)<|La U<|WL.nil<|Lb<|WC.ret ?_
 obtain rfl:=oJ h
 refine Lh results19 (.agg U y1V U (yj .here)<|.tmp U .nil)<|fun w hw=>?_
 exact⟨K,(some ⟨F,0,none⟩),2,D,none,0,(some ⟨G,0,none⟩),1,(some ⟨H,0,none⟩),2,(some ⟨I,0,none⟩),1,A,none,0,none,0,none,0,(some ⟨Q,0,none⟩),1,[C],y1T U U,⟨(M.weak (fun _ _ h=>y1p L h)),(ZS.nil _ _ _),(N.weak (fun _ _ h=>y1k L h)),(ZS.nil _ _ _),(ZS.nil _ _ _),(ZS.nil _ _ _),P⟩,hw.sub (.s6 .h2 .h6 .h5 .h4 .h3 .h1)⟩
def y5k(a:zs):Option Int:=
 some (i64 ((a.fM.length:Int)+(a.fS.length:Int)))
theorem ybq{Z:Zp}{b:Option Addr}{c:Nat}{d:Option Addr}{f:Nat}{g:Option Addr}{i:Nat}{j:Option Addr}{k:Nat}{l:Option Addr}{m:Nat}{n:Option Addr}{o:Nat}{p:Option Addr}{q:Nat}{s:Option Addr}{t:Nat}{a:zs}{r:Int}(h:y5k a=some r)(w₀:World)(hz:PZ [] w₀ Z)(u:ZS Z 4 (y3F Z) b c a.fM)(v:ZS Z 4 (y4l Z) d f a.fC0)(y:ZS Z 4 (fun r x=>r=e64 x) g i a.fS)(z:ZS Z 4 (fun r x=>r=e62 x) j k a.fK)(A:ZS Z 7 (p69 Z) l m a.fVLs)(B:ZS Z 5 (fun r x=>r=y4D x) n o a.fH)(C:ZS Z 3 (y4m Z) p q a.fU)(D:ZS Z 4 (fun r x=>r=y4E x) s t a.fV0):
  Calls Tryz.prog 172 #[(.agg #[(vs b a.fM.length c),(vs d a.fC0.length f),(vs g a.fS.length i),(vs j a.fK.length k),(vs l a.fVLs.length m),(vs n a.fH.length o),(vs p a.fU.length q),(vs s a.fV0.length t)])] w₀ fun e w'=>e = .returned (vi r)/\Hp [] w₀ w' []:=by
 unfold y5k at h
 refine L5 func172 ntmps172 ?_
 refine WC.b<|Ld (Lg 1 (yI (cs:=[(vs b a.fM.length c),(vs d a.fC0.length f),(vs g a.fS.length i),(vs j a.fK.length k),(vs l a.fVLs.length m),(vs n a.fH.length o),(vs p a.fU.length q),(vs s a.fV0.length t)]) U U) fun E _=>La U<|WL.nil<|Lb<|WC.b<|Ld<|Le 3 (ya y7e U U)<|Le 4 (yc y7f U<|yh .here U)<|Le 5 (yJ underlying22 U)<|Le 6 (ya yaG U U)<|Le 7 (yc yaH U<|yh .here U)<|Le 8 (yJ underlying24 U)<|La U<|La U<|WL.nil<|Lb<|WC.ret ?_)
 obtain rfl:=oJ h
 refine Lh results172 (.tmp U .nil)<|fun w hw=>?_
 exact⟨yD U,hw.sub .nil⟩
def y6F(a:zs)(b:Int):Option ByteArray:=
 (if decide (b<0) then some true else(y5k a).bind fun c=>some (decide (b>=c))).bind fun d=>if d then some ⟨#[]⟩ else if decide (b<(a.fM.length:Int)) then chk ((0:Int)<=b/\b<(a.fM.length:Int)) (some ((nth a.fM b).fName)) else chk ((0:Int)<=(i64 (b-(a.fM.length:Int)))/\(i64 (b-(a.fM.length:Int)))<(a.fS.length:Int)) (some ((nth a.fS (i64 (b-(a.fM.length:Int)))).fName))
theorem ygh{Z:Zp}{c:Option Addr}{d:Nat}{f:Option Addr}{g:Nat}{i:Option Addr}{j:Nat}{k:Option Addr}{l:Nat}{m:Option Addr}{n:Nat}{o:Option Addr}{p:Nat}{q:Option Addr}{s:Nat}{t:Option Addr}{u:Nat}{a:zs}{z:Int}{r:ByteArray}(h:y6F a z=some r)(w₀:World)(hz:PZ [] w₀ Z)(A:ZS Z 4 (y3F Z) c d a.fM)(E:ZS Z 4 (y4l Z) f g a.fC0)(C:ZS Z 4 (fun r x=>r=e64 x) i j a.fS)(F:ZS Z 4 (fun r x=>r=e62 x) k l a.fK)(G:ZS Z 7 (p69 Z) m n a.fVLs)(H:ZS Z 5 (fun r x=>r=y4D x) o p a.fH)(I:ZS Z 3 (y4m Z) q s a.fU)(J:ZS Z 4 (fun r x=>r=y4E x) t u a.fV0):
  Calls Tryz.prog 173 #[(.agg #[(vs c a.fM.length d),(vs f a.fC0.length g),(vs i a.fS.length j),(vs k a.fK.length l),(vs m a.fVLs.length n),(vs o a.fH.length p),(vs q a.fU.length s),(vs t a.fV0.length u)]),(vi z)] w₀ fun e w'=>e = .returned (.string r)/\Hp [] w₀ w' []:=by
 unfold y6F at h
 refine Lz func173 ntmps173 ?_
 refine WC.b<|Ld (Lg 2 (yI (cs:=[(vs c a.fM.length d),(vs f a.fC0.length g),(vs i a.fS.length j),(vs k a.fK.length l),(vs m a.fVLs.length n),(vs o a.fH.length p),(vs q a.fU.length s),(vs t a.fV0.length u)]) U U) fun R _=>La U<|WL.nil<|Lb<|WC.b<|Ld<|Le 6 (ya y7e U U)<|Le 7 (yc y7f U<|yh .here U)<|Le 8 (yJ underlying22 U)<|La U<|WL.nil<|Lb<|WC.block<|WC.b ?_)
 obtain⟨K,D,h⟩:=za h
 refine Ld<|La U<|La U<|La U<|Lu false 4 20 (B:=K) U U U U U U (fun h=>(oJ<|yr D h).symm) (fun _ L=>?_) ?_
 ·skip
  have b:=ys D L
  obtain⟨ae,M,b⟩:=za b
  replace b:=oJ b
  refine La U<|Le 22 (yi y1V U (yj .here) U)<|Ll 23 (zb call172<|.cons U .nil) .nil (cc hz .nil fun w pz ho=>ybq M w pz A E C F G H I J)<|La U<|La U ?_
  exact Lv b U U .all
 refine La U<|WL.nil<|Lb<|WC.cond U (fun v=>?_)<|fun v=>?_
 ·replace h:=yr h v
  refine WC.b<|Ld<|La U<|WL.nil<|Lb<|WC.ret<|Lt ?_
  obtain rfl:=oJ h
  refine Lh results173 (.tmp U .nil)<|fun w hw=>?_
  exact⟨yD U,hw.sub .nil⟩
 ·replace h:=ys h v
  refine WC.b<|Ld<|La U<|La U<|La U<|La U<|WL.nil<|Lb<|WC.cond U (fun y=>?_)<|fun y=>?_
  ·replace h:=yr h y
   refine WC.b ?_
   obtain⟨N,h⟩:=yo h
   refine Ld<|Le 30 (ya y7e U U)<|Le 31 (yc y7f U<|yh .here U)<|La U<|L0 (dd:=33) U U (Z:=Z) (Pr:=(y3F Z)) elT_22 U U A N ?_
   rintro S T O V ⟨W,X,rfl,Y⟩
   refine Le 34 (ya fo_126_0 U U)<|Le 35 (yc yfv U<|y1b hz.pv O U)<|La U<|WL.nil<|Lb<|WC.ret<|Lt ?_
   obtain rfl:=oJ h
   refine Lh results173 (.tmp U .nil)<|fun w hw=>?_
   exact⟨yD U,hw.sub .nil⟩
  ·replace h:=ys h y
   refine WC.b ?_
   obtain⟨P,h⟩:=yo h
   refine Ld<|Le 9 (ya yaG U U)<|Le 10 (yc yaH U<|yh .here U)<|La U<|La U<|La U<|L0 (dd:=14) U U (Z:=Z) (Pr:=(fun r x=>r=e64 x)) ydo U U C P ?_
   rintro aa ab Q ad rfl
   refine Le 15 (ya fo_64_0 U U)<|Le 16 (yc yfv U<|y1b hz.pv Q U)<|La U<|WL.nil<|Lb<|WC.ret<|Lt ?_
   obtain rfl:=oJ h
   refine Lh results173 (.tmp U .nil)<|fun w hw=>?_
   exact⟨yD U,hw.sub .nil⟩
def y3p(b:Int)(c:zs)(d:ByteArray)(e:Option Int):Nat->Int->Option Int
 | 0,_=>none
 | f+1,a=>if decide (a<b) then(y6F c a).bind fun g=>if decide (g=d) then some a else y3p b c d e f (i64 (a+1)) else e
def y3l(a:zs)(b:ByteArray):Option Int:=
 jp0 (some (-1)) fun c=>(y5k a).bind fun d=>y3p d a b c yy 0
theorem ybQ{Z:Zp}{f:Option Addr}{g:Nat}{i:Option Addr}{j:Nat}{k:Option Addr}{l:Nat}{m:Option Addr}{n:Nat}{o:Option Addr}{p:Nat}{q:Option Addr}{s:Nat}{t:Option Addr}{u:Nat}{v:Option Addr}{y:Nat}{a:zs}{d:ByteArray}{r:Int}(h:y3l a d=some r)(w₀:World)(hz:PZ [] w₀ Z)(C:ZS Z 4 (y3F Z) f g a.fM)(D:ZS Z 4 (y4l Z) i j a.fC0)(E:ZS Z 4 (fun r x=>r=e64 x) k l a.fS)(F:ZS Z 4 (fun r x=>r=e62 x) m n a.fK)(G:ZS Z 7 (p69 Z) o p a.fVLs)(H:ZS Z 5 (fun r x=>r=y4D x) q s a.fH)(I:ZS Z 3 (y4m Z) t u a.fU)(J:ZS Z 4 (fun r x=>r=y4E x) v y a.fV0):
  Calls Tryz.prog 140 #[(.agg #[(vs f a.fM.length g),(vs i a.fC0.length j),(vs k a.fS.length l),(vs m a.fK.length n),(vs o a.fVLs.length p),(vs q a.fH.length s),(vs t a.fU.length u),(vs v a.fV0.length y)]),(.string d)] w₀ fun e w'=>e = .returned (vi r)/\Hp [] w₀ w' []:=by
 unfold y3l at h
 refine Lz func140 ntmps140 ?_
 let A:List Value:=[(vs f a.fM.length g),(vs i a.fC0.length j),(vs k a.fS.length l),(vs m a.fK.length n),(vs o a.fVLs.length p),(vs q a.fH.length s),(vs t a.fU.length u),(vs v a.fV0.length y)];refine WC.b (Ld (Lg 2 (yI (cs:=A) U U) ?_))
 intro K _
 refine La U<|WL.nil<|Lb ?_
 obtain⟨L,N,h⟩:=y2m h
 refine L8 ((L=some r)) ([]) ([]) ?_ ?_
 ·skip
  refine WC.b ?_
  obtain⟨M,O,h⟩:=za h
  refine Ld<|Le 6 (yi y1V U (yj .here) U)<|Ll 7 (zb call172<|.cons U .nil) .nil (cc hz .nil fun w pz ho=>ybq O w pz C D E F G H I J)<|La U<|WL.nil<|Lb<|WC.block<|L9 (fun(c:Nat) (b:Int)=>(y3p M a d L c b=some r)) (fun c b=>[(1,(.string d)),(2,(vp K)),(7,(vi M)),(8,(vi b))]) (fun c b=>[stb K 31 A]) (fun c b=>c) ⟨yy,0⟩ h (.r4 U U U U) (.cons .here .nil) ?_
  rintro(_|P) b h;·cases h
  rw[y3p] at h
  refine WC.b<|Ld<|La U<|WL.nil<|Lb<|WC.b<|WC.cond U (fun z=>?_)<|fun z=>?_
  ·replace h:=yr h z
   refine WC.skip<|Lb<|WC.b<|WC.block<|WC.b<|Ld<|La U<|La U<|WL.nil<|Lb<|WC.b ?_
   obtain⟨R,Q,h⟩:=za h
   refine Ld<|Le 11 (yi y1V U (yj .here) U)<|La U<|Ll 13 (zb call173<|.r2 U U) .nil (cc hz .nil fun w pz ho=>ygh Q w pz C D E F G H I J)<|La U<|Le 15 (q_seql U U)<|WL.nil<|Lb<|WC.cond U (fun B=>?_)<|fun B=>?_
   ·replace h:=yr h B
    refine WC.b<|Ld<|La U<|La U<|WL.nil<|Lb<|WC.ret<|Lt<|Lj<|Lj<|Lt<|Lj ?_
    obtain rfl:=oJ h
    refine Lh results140 (.tmp U .nil)<|fun w hw=>?_
    exact⟨yD U,hw.sub .nil⟩
   ·replace h:=ys h B
    refine WC.skip<|Lq<|Lb<|Ld<|La U<|La U<|WL.nil ?_
    exact WX.round ⟨P,(i64 (b+1))⟩ h (Nat.lt_succ_self _) (.r4 U U U U)<|.cons .here .nil
  ·replace h:=ys h z
   refine WC.exit<|Lm<|Lm<|Lw ?_
   exact Ln () h .nil .nil
 ·rintro  h
  replace h:=N.symm.trans h
  refine WC.b<|Ld<|La U<|WL.nil<|Lb<|WC.ret ?_
  obtain rfl:=oJ h
  refine Lh results140 (.tmp U .nil)<|fun w hw=>?_
  exact⟨yD U,hw.sub .nil⟩
def y5J(a:zs)(c:Int)(b:Int):Option Bool:=
 if decide (b<(a.fM.length:Int)) then some (decide (b>=0)) else chk ((0:Int)<=(i64 (b-(a.fM.length:Int)))/\(i64 (b-(a.fM.length:Int)))<(a.fS.length:Int)) (some (((((decide (((nth a.fS (i64 (b-(a.fM.length:Int)))).fNet)=c))&&(decide (((nth a.fS (i64 (b-(a.fM.length:Int)))).fDelay)>=0)))&&(decide (((nth a.fS (i64 (b-(a.fM.length:Int)))).fDelay)<=1000)))&&(decide (((nth a.fS (i64 (b-(a.fM.length:Int)))).fT)>=0)))&&(decide (((nth a.fS (i64 (b-(a.fM.length:Int)))).fT)<=1073741824))))
theorem ybR{Z:Zp}{c:Option Addr}{d:Nat}{f:Option Addr}{g:Nat}{i:Option Addr}{j:Nat}{k:Option Addr}{l:Nat}{m:Option Addr}{n:Nat}{o:Option Addr}{p:Nat}{q:Option Addr}{s:Nat}{t:Option Addr}{u:Nat}{a:zs}{b:Int}{v:Int}{r:Bool}(h:y5J a b v=some r)(w₀:World)(hz:PZ [] w₀ Z)(I:ZS Z 4 (y3F Z) c d a.fM)(J:ZS Z 4 (y4l Z) f g a.fC0)(z:ZS Z 4 (fun r x=>r=e64 x) i j a.fS)(K:ZS Z 4 (fun r x=>r=e62 x) k l a.fK)(L:ZS Z 7 (p69 Z) m n a.fVLs)(M:ZS Z 5 (fun r x=>r=y4D x) o p a.fH)(N:ZS Z 3 (y4m Z) q s a.fU)(O:ZS Z 4 (fun r x=>r=y4E x) t u a.fV0):
  Calls Tryz.prog 141 #[(.agg #[(vs c a.fM.length d),(vs f a.fC0.length g),(vs i a.fS.length j),(vs k a.fK.length l),(vs m a.fVLs.length n),(vs o a.fH.length p),(vs q a.fU.length s),(vs t a.fV0.length u)]),(vi b),(vi v)] w₀ fun e w'=>e = .returned (.bool r)/\Hp [] w₀ w' []:=by
 unfold y5J at h
 refine Kd func141 ntmps141 ?_
 refine WC.b<|Ld (Lg 3 (yI (cs:=[(vs c a.fM.length d),(vs f a.fC0.length g),(vs i a.fS.length j),(vs k a.fK.length l),(vs m a.fVLs.length n),(vs o a.fH.length p),(vs q a.fU.length s),(vs t a.fV0.length u)]) U U) fun P _=>La U<|WL.nil<|Lb<|WC.b<|WC.b<|Ld<|La U<|Le 9 (ya y7e U U)<|Le 10 (yc y7f U<|yh .here U)<|Le 11 (yJ underlying22 U)<|La U<|WL.nil<|Lb<|WC.cond U (fun y=>?_)<|fun y=>?_)
 ·replace h:=yr h y
  refine WC.b<|Ld<|La U<|La U<|La U<|WL.nil<|Lb<|WC.ret<|Lj ?_
  obtain rfl:=oJ h
  refine Lh results141 (.tmp U .nil)<|fun w hw=>?_
  exact⟨yD U,hw.sub .nil⟩
 ·replace h:=ys h y
  refine WC.skip<|Lb<|WC.b ?_
  obtain⟨C,h⟩:=yo h
  refine Ld<|Le 15 (ya yaG U U)<|Le 16 (yc yaH U<|yh .here U)<|La U<|Le 18 (ya y7e U U)<|Le 19 (yc y7f U<|yh .here U)<|Le 20 (yJ underlying22 U)<|La U<|L0 (dd:=22) U U (Z:=Z) (Pr:=(fun r x=>r=e64 x)) ydo U U z C ?_
  rintro Q R D S rfl
  refine Le 23 (yi aggT_64 U (y2j hz.pv D) U)<|Lg 7 (yu (cs:=[(.string ⟨#[]⟩),(vi 0),(vi 0),(vi 0)]) zeroT_64 U) ?_
  intro T _
  let A:=(i64 (v-(a.fM.length:Int)));refine Lk U U (yl sizT_64 U U U .here U U U) (WL.nil (Lb (WC.b (Ld (Le 24 (ya fo_64_1 U U) (Le 25 (yc yq U (yh .here U)) (La U (La U (La U (Lu true 3 28 (B:=(decide (((nth a.fS A).fNet)=b))&&(decide (((nth a.fS A).fDelay)>=0))) U U U U U U (fun h=>(y4f h).symm) (fun _ E=>?_) ?_))))))))))
  ·skip
   refine Le 29 (ya ye1 U U)<|Le 30 (yc yq U<|yh .here U)<|La U<|La U ?_
   exact Lv (y4g E) U U .all
  refine La U<|Lu true 3 33 (B:=((decide (((nth a.fS A).fNet)=b))&&(decide (((nth a.fS A).fDelay)>=0)))&&(decide (((nth a.fS A).fDelay)<=1000))) U U U U U U (fun h=>(y4f h).symm) (fun _ F=>?_) ?_
  ·skip
   refine Le 34 (ya ye1 U U)<|Le 35 (yc yq U<|yh .here U)<|La U<|La U ?_
   exact Lv (y4g F) U U .all
  refine La U<|Lu true 3 38 (B:=(((decide (((nth a.fS A).fNet)=b))&&(decide (((nth a.fS A).fDelay)>=0)))&&(decide (((nth a.fS A).fDelay)<=1000)))&&(decide (((nth a.fS A).fT)>=0))) U U U U U U (fun h=>(y4f h).symm) (fun _ G=>?_) ?_
  ·skip
   refine Le 39 (ya yiW U U)<|Le 40 (yc yq U<|yh .here U)<|La U<|La U ?_
   exact Lv (y4g G) U U .all
  refine La U<|Lu true 3 43 (B:=((((decide (((nth a.fS A).fNet)=b))&&(decide (((nth a.fS A).fDelay)>=0)))&&(decide (((nth a.fS A).fDelay)<=1000)))&&(decide (((nth a.fS A).fT)>=0)))&&(decide (((nth a.fS A).fT)<=1073741824))) U U U U U U (fun h=>(y4f h).symm) (fun _ H=>?_) ?_
  ·skip
   refine Le 44 (ya yiW U U)<|Le 45 (yc yq U<|yh .here U)<|La U<|La U ?_
   exact Lv (y4g H) U U .all
  refine La U<|WL.nil<|Lb<|WC.ret ?_
  obtain rfl:=oJ h
  refine Lh results141 (.tmp U .nil)<|fun w hw=>?_
  exact⟨yD U,hw.sub .nil⟩
def y6b(a:zs)(e:Int)(b:Int)(f:Int)(g:Int):Option Bool:=
 if (decide (b<0))||(decide (b>=(a.fK.length:Int))) then some false else chk ((0:Int)<=b/\b<(a.fK.length:Int)) ((y3l a ((nth a.fK b).fA)).bind fun c=>(y3l a ((nth a.fK b).fB)).bind fun d=>(if (((decide (((nth a.fK b).fNet)=e))&&(decide (((nth a.fK b).fSlow)>=1)))&&(decide (((nth a.fK b).fSlow)<=16)))&&(decide (c≠d)) then(y5J a e c).bind fun h=>some h else some false).bind fun i=>(if i then(y5J a e d).bind fun j=>some j else some false).bind fun k=>some (k&&(((decide (c=f))&&(decide (d=g)))||((decide (c=g))&&(decide (d=f))))))
theorem yfx{Z:Zp}{v:Option Addr}{y:Nat}{z:Option Addr}{A:Nat}{C:Option Addr}{D:Nat}{E:Option Addr}{F:Nat}{G:Option Addr}{H:Nat}{I:Option Addr}{J:Nat}{K:Option Addr}{L:Nat}{M:Option Addr}{N:Nat}{a:zs}{j:Int}{b:Int}{c:Int}{d:Int}{r:Bool}(h:y6b a j b c d=some r)(w₀:World)(hz:PZ [] w₀ Z)(n:ZS Z 4 (y3F Z) v y a.fM)(o:ZS Z 4 (y4l Z) z A a.fC0)(p:ZS Z 4 (fun r x=>r=e64 x) C D a.fS)(k:ZS Z 4 (fun r x=>r=e62 x) E F a.fK)(q:ZS Z 7 (p69 Z) G H a.fVLs)(s:ZS Z 5 (fun r x=>r=y4D x) I J a.fH)(t:ZS Z 3 (y4m Z) K L a.fU)(u:ZS Z 4 (fun r x=>r=y4E x) M N a.fV0):
  Calls Tryz.prog 93 #[(.agg #[(vs v a.fM.length y),(vs z a.fC0.length A),(vs C a.fS.length D),(vs E a.fK.length F),(vs G a.fVLs.length H),(vs I a.fH.length J),(vs K a.fU.length L),(vs M a.fV0.length N)]),(vi j),(vi b),(vi c),(vi d)] w₀ fun e w'=>e = .returned (.bool r)/\Hp [] w₀ w' []:=by
 unfold y6b at h
 refine Calls.on5 func93 ntmps93 ?_
 refine WC.b<|Ld (Lg 5 (yI (cs:=[(vs v a.fM.length y),(vs z a.fC0.length A),(vs C a.fS.length D),(vs E a.fK.length F),(vs G a.fVLs.length H),(vs I a.fH.length J),(vs K a.fU.length L),(vs M a.fV0.length N)]) U U) fun am _=>La U<|WL.nil<|Lb<|WC.b<|WC.b<|Ld<|La U<|La U<|La U<|Lu false 5 16 (B:=(decide (b<0))||(decide (b>=(a.fK.length:Int)))) U U U U U U (fun h=>(y5V h).symm) (fun _ S=>?_) ?_)
 ·skip
  refine La U<|Le 18 (ya y7S U U)<|Le 19 (yc y7T U<|yh .here U)<|Le 20 (yJ underlying25 U)<|La U<|La U ?_
  exact Lv (y5W S) U U .all
 refine WL.nil<|Lb<|WC.cond U (fun O=>?_)<|fun O=>?_
 ·replace h:=yr h O
  refine WC.b<|Ld<|La U<|WL.nil<|Lb<|WC.ret<|Lj ?_
  obtain rfl:=oJ h
  refine Lh results93 (.tmp U .nil)<|fun w hw=>?_
  exact⟨yD U,hw.sub .nil⟩
 ·replace h:=ys h O
  refine WC.skip<|Lb<|WC.b ?_
  obtain⟨T,h⟩:=yo h
  refine Ld<|Le 23 (ya y7S U U)<|Le 24 (yc y7T U<|yh .here U)<|La U<|L0 (dd:=26) U U (Z:=Z) (Pr:=(fun r x=>r=e62 x)) yaR U U k T ?_
  rintro an ao V ap rfl
  refine Le 27 (yi aggT_62 U (y2j hz.pv V) U) (Lg 11 (yu (cs:=[(.string ⟨#[]⟩),(.string ⟨#[]⟩),(vi 0),(vi 0)]) zeroT_62 U) fun aq _=>Lk U U (yl sizT_62 U U U .here U U U)<|WL.nil<|Lb<|WC.b ?_)
  obtain⟨f,W,h⟩:=za h
  obtain⟨g,X,h⟩:=za h
  refine Lx (fun i=>[].contains i) [] U<|Li 0 28 U (yi y1V U (yj .h1) U)<|Lf 1 29 U (fun _=>ya fo_62_0 U U)<|Li 2 30 U (yc yfv U<|yh .here U)<|L4 3 31 U (zb call140<|.r2 U U) (cc hz .nil fun w pz ho=>ybQ W w pz n o p k q s t u)<|Li 4 32 U (yi y1V U (yj .h1) U)<|Lf 5 33 U (fun _=>ya fo_62_1 U U)<|Li 6 34 U (yc yfv U<|yh .here U)<|L4 7 35 U (zb call140<|.r2 U U) (cc hz .nil fun w pz ho=>ybQ X w pz n o p k q s t u)<|Lf 8 12 U (fun _=>q_z U)<|Lf 9 13 U (fun _=>q_z U)<|WD.done (by kernel_rfl)<|Lb<|WC.b ?_
  obtain⟨Y,P,h⟩:=za h
  obtain⟨Q,R,h⟩:=za h
  refine Ld<|Le 36 (ya fo_62_2 U U)<|Le 37 (yc yq U<|yh .here U)<|La U<|La U<|La U<|Lu true 3 40 (B:=(decide (((nth a.fK b).fNet)=j))&&(decide (((nth a.fK b).fSlow)>=1))) U U U U U U (fun h=>(y4f h).symm) (fun _ aa=>?_) ?_
  ·skip
   refine Le 41 (ya y9s U U)<|Le 42 (yc yq U<|yh .here U)<|La U<|La U ?_
   exact Lv (y4g aa) U U .all
  refine La U<|Lu true 3 45 (B:=((decide (((nth a.fK b).fNet)=j))&&(decide (((nth a.fK b).fSlow)>=1)))&&(decide (((nth a.fK b).fSlow)<=16))) U U U U U U (fun h=>(y4f h).symm) (fun _ ab=>?_) ?_
  ·skip
   refine Le 46 (ya y9s U U)<|Le 47 (yc yq U<|yh .here U)<|La U<|La U ?_
   exact Lv (y4g ab) U U .all
  refine La U<|Lu true 3 50 (B:=(((decide (((nth a.fK b).fNet)=j))&&(decide (((nth a.fK b).fSlow)>=1)))&&(decide (((nth a.fK b).fSlow)<=16)))&&(decide (f≠g))) U U U U U U (fun h=>(y4f h).symm) (fun _ ad=>?_) ?_
  ·skip
   refine La U<|La U<|La U<|La U ?_
   exact Lv (y4g ad) U U .all
  refine La U<|Lu true 4 55 (B:=Y) U U U U U U (fun h=>(oJ<|ys P h).symm) (fun _ ae=>?_) ?_
  ·skip
   have l:=yr P ae
   obtain⟨ar,af,l⟩:=za l
   replace l:=oJ l
   refine Le 56 (yi y1V U (yj .h1) U)<|La U<|La U<|Ll 59 (zb call141<|.r3 U U U) .nil (cc hz .nil fun w pz ho=>ybR af w pz n o p k q s t u)<|La U ?_
   exact Lv l U U .all
  refine La U<|Lu true 4 61 (B:=Q) U U U U U U (fun h=>(oJ<|ys R h).symm) (fun _ ag=>?_) ?_
  ·skip
   have m:=yr R ag
   obtain⟨au,ah,m⟩:=za m
   replace m:=oJ m
   refine Le 62 (yi y1V U (yj .h1) U)<|La U<|La U<|Ll 65 (zb call141<|.r3 U U U) .nil (cc hz .nil fun w pz ho=>ybR ah w pz n o p k q s t u)<|La U ?_
   exact Lv m U U .all
  refine La U<|Lu true 18 67 (B:=Q&&(((decide (f=c))&&(decide (g=d)))||((decide (f=d))&&(decide (g=c))))) U U U U U U (fun h=>(y4f h).symm) (fun _ ai=>?_) ?_
  ·skip
   refine La U<|La U<|La U<|La U<|Lu true 3 71 (B:=(decide (f=c))&&(decide (g=d))) U U U U U U (fun h=>(y4f h).symm) (fun _ aj=>?_) ?_
   ·skip
    refine La U<|La U<|La U<|La U ?_
    exact Lv (y4g aj) U U .all
   refine La U<|Lu false 8 76 (B:=((decide (f=c))&&(decide (g=d)))||((decide (f=d))&&(decide (g=c)))) U U U U U U (fun h=>(y5V h).symm) (fun _ ak=>?_) ?_
   ·skip
    refine La U<|La U<|La U<|La U<|Lu true 3 80 (B:=(decide (f=d))&&(decide (g=c))) U U U U U U (fun h=>(y4f h).symm) (fun _ al=>?_) ?_
    ·skip
     refine La U<|La U<|La U<|La U ?_
     exact Lv (y4g al) U U .all
    refine La U ?_
    exact Lv (y5W ak) U U .all
   refine La U ?_
   exact Lv (y4g ai) U U .all
  refine La U<|WL.nil<|Lb<|WC.ret ?_
  obtain rfl:=oJ h
  refine Lh results93 (.tmp U .nil)<|fun w hw=>?_
  exact⟨yD U,hw.sub .nil⟩
def y3a(b:List ze)(e:zs)(f:Int)(g:Option Bool):Nat->Int->(List (Int×Int))->Option Bool
 | 0,_,_=>none
 | i+1,a,d=>if decide (a<(b.length:Int)) then chk ((0:Int)<=a/\a<(b.length:Int)) (jp1 (fun(c:List (Int×Int))=>chk (((decide ((yd c ((nth b a).fNode) 0)=0))||(decide ((yd c ((nth b a).fNext) 0)>0)))=false->((decide (a>0))=true->((0:Int)<=0/\0<(b.length:Int)))) ((if ((decide ((yd c ((nth b a).fNode) 0)=0))||(decide ((yd c ((nth b a).fNext) 0)>0)))||(((decide (a>0))&&(decide (((nth b a).fNode)≠((nth b 0).fNode))))&&(decide (((nth b a).fNode)<(e.fM.length:Int)))) then some true else(y6b e f ((nth b a).fQ) ((nth b a).fNode) ((nth b a).fNext)).bind fun j=>some (!j)).bind fun k=>if k then some false else y3a b e f g i (i64 (a+1)) (yC c ((nth b a).fNext) (i64 ((yd c ((nth b a).fNext) 0)+1))))) fun h=>if decide (a=0) then h (yC d ((nth b a).fNode) (i64 ((yd d ((nth b a).fNode) 0)+1))) else h d) else g
def y6c(d:zs)(b:Int)(a:List ze):Option Bool:=
 jp0 (some (decide ((a.length:Int)<=32))) fun c=>y3a a d b c yy 0 ([]:List (Int×Int))
theorem yfy{Z:Zp}{t:Option Addr}{u:Nat}{y:Option Addr}{z:Nat}{B:Option Addr}{I:Nat}{J:Option Addr}{K:Nat}{L:Option Addr}{M:Nat}{N:Option Addr}{O:Nat}{P:Option Addr}{Q:Nat}{R:Option Addr}{S:Nat}{T:Option Addr}{V:Nat}{c:zs}{f:Int}{b:List ze}{r:Bool}(h:y6c c f b=some r)(w₀:World)(hz:PZ [] w₀ Z)(au:ZS Z 4 (y3F Z) t u c.fM)(av:ZS Z 4 (y4l Z) y z c.fC0)(aw:ZS Z 4 (fun r x=>r=e64 x) B I c.fS)(ax:ZS Z 4 (fun r x=>r=e62 x) J K c.fK)(ay:ZS Z 7 (p69 Z) L M c.fVLs)(az:ZS Z 5 (fun r x=>r=y4D x) N O c.fH)(aA:ZS Z 3 (y4m Z) P Q c.fU)(aB:ZS Z 4 (fun r x=>r=y4E x) R S c.fV0)(ak:ZS Z 3 (fun r x=>r=e60 x) T V b):
  Calls Tryz.prog 52 #[(.agg #[(vs t c.fM.length u),(vs y c.fC0.length z),(vs B c.fS.length I),(vs J c.fK.length K),(vs L c.fVLs.length M),(vs N c.fH.length O),(vs P c.fU.length Q),(vs R c.fV0.length S)]),(vi f),(vs T b.length V)] w₀ fun e w'=>e = .returned (.bool r)/\Hp [] w₀ w' []:=by
 unfold y6c at h
 refine Kd func52 ntmps52 ?_
 let A:List Value:=[(vs t c.fM.length u),(vs y c.fC0.length z),(vs B c.fS.length I),(vs J c.fK.length K),(vs L c.fVLs.length M),(vs N c.fH.length O),(vs P c.fU.length Q),(vs R c.fV0.length S)];refine WC.b (Ld (Lg 3 (yI (cs:=A) U U) ?_))
 intro l _
 refine La U<|WL.nil<|Lb<|WC.b<|Ld (Lg 10 (y3n (Value.int .i64)<|Value.int .i64) fun m _=>La U<|WL.nil<|Lb ?_)
 obtain⟨al,aC,h⟩:=y2m h
 let C:Value:=(vs T b.length V);refine L8 ((al=some r)) ([(2,C)]) ([]) ?_ ?_
 ·skip
  refine WC.b<|Ld<|La U<|Le 12 (yJ underlying58 U)<|La U<|WL.nil<|Lb<|WC.block<|WC.yaM (fun(o:Nat) (a:Int) (g:List (Int×Int))=>(y3a b c f al o a g=some r)) (fun o a g=>[(1,(vi f)),(2,C),(3,(vp l)),(7,(.map<|some m)),(11,C),(12,(vi (b.length:Int))),(13,(vi a))]) (fun o a g=>[stb l 31 A,yn m (Value.int .i64) (Value.int .i64) g]) (fun o a g=>o) ⟨yy,0,([]:List (Int×Int))⟩ h (.r7 U U U U U U U) (.s2 .h1 .here) ?_
  rintro(_|aD) a g h;·cases h
  rw[y3a] at h
  refine WC.b<|Ld<|La U<|WL.nil<|Lb<|WC.b<|WC.cond U (fun W=>?_)<|fun W=>?_
  ·replace h:=yr h W
   refine WC.skip<|Lb<|WC.b<|WC.block<|WC.b ?_
   obtain⟨aE,h⟩:=yo h
   refine Ld<|La U<|L0 (dd:=16) U U (Z:=Z) (Pr:=(fun r x=>r=e60 x)) y69 U U ak aE ?_
   rintro aO aP aF aQ rfl
   refine Le 17 (yi y49 U (y2j hz.pv aF) U) (Lg 9 (yu (cs:=[(vi 0),(vi 0),(vi 0)]) y6Y U) fun n _=>La U<|Lk U U (yl y7h U U U .here U U U)<|WL.nil<|Lb ?_)
   obtain⟨aG,aH,h⟩:=y13 h
   refine WC.y3r (fun(d:List (Int×Int))=>(aG d=some r)) (fun d=>[(1,(vi f)),(2,C),(3,(vp l)),(7,(.map<|some m)),(8,(vi a)),(9,(vp n)),(11,C),(12,(vi (b.length:Int))),(13,(vi a))]) (fun d=>[stb l 31 A,yn m (Value.int .i64) (Value.int .i64) d,stb n 60 [(vi<|(nth b a).fNode),(vi<|(nth b a).fNext),(vi<|(nth b a).fQ)]]) ?_ ?_
   ·skip
    refine WC.b<|Ld<|La U<|La U<|WL.nil<|Lb<|WC.cond U (fun X=>?_)<|fun X=>?_
    ·replace h:=yr h X
     refine Ld<|La U<|Le 21 (ya y4a U U)<|Le 22 (yc yq U<|yh .here U)<|Le 23 (y2V (k:=((nth b a).fNode)) (dflt:=(0:Int)) y3V underlying148 y2K U U U .h2)<|La U<|Lk U U (y3P (k:=((nth b a).fNode)) (v:=i64 ((yd g ((nth b a).fNode) 0)+1)) y3V underlying148 U U U U .h2)<|WL.nil ?_
     exact Ln (yC g ((nth b a).fNode)<|i64 ((yd g ((nth b a).fNode) 0)+1)) h (.r9 U U U U U U U U U)<|.s3 .h2 .here .here
    ·replace h:=ys h X
     refine WC.skip ?_
     exact Ln g h (.r9 U U U U U U U U U)<|.s3 .h1 .h1 .here
   ·rintro d h
    replace h:=(aH d).symm.trans h
    refine WC.b<|WC.b ?_
    obtain⟨aI,h⟩:=yo h
    obtain⟨aJ,am,h⟩:=za h
    let E:Value:=(vi (b.length:Int));let F:Value:=(.bool ((decide ((yd d ((nth b a).fNode) 0)=0))||(decide ((yd d ((nth b a).fNext) 0)>0))));refine Lx (fun i=>[].contains i) [] U (Lf 0 25 U (fun _=>q_m U) (Lf 1 26 U (fun _=>ya y4a U U) (Li 2 27 U (yc yq U (yh .h2 U)) (Li 3 28 U (y2V (k:=((nth b a).fNode)) (dflt:=(0:Int)) y3V underlying148 y2K U U U .h1) (Lf 4 29 U (fun _=>ycd U U) (Lf 5 30 U (fun _=>q_m U) (Ke (fuel':=33) [(1,(vi f)),(2,C),(3,(vp l)),(7,(.map (some m))),(8,(vi a)),(9,(vp n)),(11,C),(12,E),(13,(vi a)),(30,(.bool (decide ((yd d ((nth b a).fNode) 0)=0)))),(36,F)] (y2e 45 (dn 12)) ?_ (fun an=>?_))))))))
    rotate_left
    ·rcases Bool.eq_false_or_eq_true (decide ((yd d ((nth b a).fNode) 0)=0)) with hb' | hb'
     ·have Y:=hb';clear hb'
      refine L3 (i:=30) U Y<|Lp 6 31 U<|Lp 7 32 U<|Lp 8 33 U<|Lp 9 34 U<|Lp 10 35 U<|Lf 11 36 U (fun _=>y4o U U)<|Ly (.a3) ?_ an
      exact .r11 U U U U U U U U U (zO<|Eq.symm Y)<|zO<|y5V Y
     ·have aa:=hb';clear hb'
      refine L3 (i:=30) U aa<|Lf 6 31 U (fun _=>q_m U)<|Lf 7 32 U (fun _=>ya y5I U U)<|Li 8 33 U (yc yq U<|yh .h2 U)<|Li 9 34 U (y2V (k:=((nth b a).fNext)) (dflt:=(0:Int)) y3V underlying148 y2K U U U .h1)<|Lf 10 35 U (fun _=>yfk U U)<|Lf 11 36 U (fun _=>y4p U U)<|Ly (.a3) ?_ an
      exact .r11 U U U U U U U U U (zO<|Eq.symm aa)<|zO<|y5W aa
    let H:=(c.fM.length:Int);let D:Value:=(.bool (((decide ((yd d ((nth b a).fNode) 0)=0))||(decide ((yd d ((nth b a).fNext) 0)>0)))||(((decide (a>0))&&(decide (((nth b a).fNode)≠((nth b 0).fNode))))&&(decide (((nth b a).fNode)<H)))));refine WD.d (bz 12 33) (by kernel_rfl) (Lf 12 37 U (fun _=>q_m U) (Ke (fuel':=12) [(1,(vi f)),(2,C),(3,(vp l)),(7,(.map (some m))),(9,(vp n)),(11,C),(12,E),(13,(vi a)),(37,F),(57,D)] (y2e 45 (dn 33)) ?_ (fun ao=>?_)))
    rotate_left
    ·rcases Bool.eq_false_or_eq_true ((decide ((yd d ((nth b a).fNode) 0)=0))||(decide ((yd d ((nth b a).fNext) 0)>0))) with hb' | hb'
     ·have ab:=hb';clear hb'
      refine L3 (i:=37) U ab<|Lp 13 38 U<|Lp 14 39 U<|Lp 15 40 U<|Lp 16 41 U<|Lp 17 42 U<|Lp 18 43 U<|Lp 19 44 U<|Lp 20 45 U<|Lp 21 46 U<|Lp 22 47 U<|Lp 23 48 U<|Lp 24 49 U<|Lp 25 50 U<|Lp 26 51 U<|Lp 27 52 U<|Lp 28 53 U<|Lp 29 54 U<|Lp 30 55 U<|Lp 31 56 U<|Lf 32 57 U (fun _=>y4o U U)<|Ly (.a3) ?_ ao
      exact .r10 U U U U U U U U (zO<|Eq.symm ab)<|zO<|y5V ab
     ·have q:=hb';clear hb'
      have aK:=aI q
      let G:Value:=(.bool ((decide (a>0))&&(decide (((nth b a).fNode)≠((nth b 0).fNode)))));refine L3 (i:=37) U q (Lf 13 38 U (fun _=>q_m U) (Lf 14 39 U (fun _=>yfk U U) (Lf 15 40 U (fun _=>q_m U) (Ke (fuel':=21) [(1,(vi f)),(2,C),(3,(vp l)),(7,(.map (some m))),(9,(vp n)),(11,C),(12,E),(13,(vi a)),(37,(.bool false)),(40,(.bool (decide (a>0)))),(48,G)] (y2e 45 (dn 24)) ?_ (fun ap=>?_)))))
      rotate_left
      ·rcases Bool.eq_false_or_eq_true (decide (a>0)) with hb' | hb'
       ·have s:=hb';clear hb'
        have aL:=aK s
        refine L3 (i:=40) U s<|Lf 16 41 U (fun _=>ya y4a U U)<|Li 17 42 U (yc yq U<|yh .h2 U)<|Lf 18 43 U (fun _=>q_m U)<|L7 (j:=19) (dd:=44) (by kernel_rfl) U z2k z2l U U (Z:=Z) (Pr:=(fun r x=>r=e60 x)) y69 U U ak aL ?_
        rintro aR aS aM aT rfl
        refine Lf 20 45 U (fun _=>ya y4a U U)<|Li 21 46 U (yc yq U<|y1b hz.pv aM U)<|Lf 22 47 U (fun _=>q_neq U U)<|Lf 23 48 U (fun _=>y4o U U)<|Ly (.a3) ?_ ap
        exact .r11 U U U U U U U U U (zO<|Eq.symm s)<|zO<|y4g s
       ·have ad:=hb';clear hb'
        refine L3 (i:=40) U ad<|Lp 16 41 U<|Lp 17 42 U<|Lp 18 43 U<|Lp 19 44 U<|Lp 20 45 U<|Lp 21 46 U<|Lp 22 47 U<|Lf 23 48 U (fun _=>y4p U U)<|Ly (.a3) ?_ ap
        exact .r11 U U U U U U U U U (zO<|Eq.symm ad)<|zO<|y4f ad
      refine WD.d (bz 24 21) (by kernel_rfl)<|Lf 24 49 U (fun _=>q_m U)<|Ke (fuel':=13) [(1,(vi f)),(2,C),(3,(vp l)),(7,(.map<|some m)),(9,(vp n)),(11,C),(12,E),(13,(vi a)),(37,(.bool false)),(49,G),(56,(.bool<|((decide (a>0))&&(decide (((nth b a).fNode)≠((nth b 0).fNode))))&&(decide (((nth b a).fNode)<H))))] (y2e 45 (dn 32)) ?_<|fun aq=>?_
      rotate_left
      ·rcases Bool.eq_false_or_eq_true ((decide (a>0))&&(decide (((nth b a).fNode)≠((nth b 0).fNode)))) with hb' | hb'
       ·have ae:=hb';clear hb'
        refine L3 (i:=49) U ae<|Lf 25 50 U (fun _=>ya y4a U U)<|Li 26 51 U (yc yq U<|yh .h2 U)<|Lf 27 52 U (fun _=>ya y7e U U)<|Li 28 53 U (yc y7f U<|yh .here U)<|Lf 29 54 U (fun _=>yJ underlying22 U)<|Lf 30 55 U (fun _=>q_lss U U)<|Lf 31 56 U (fun _=>y4o U U)<|Ly (.a3) ?_ aq
        exact .r11 U U U U U U U U U (zO<|Eq.symm ae)<|zO<|y4g ae
       ·have af:=hb';clear hb'
        refine L3 (i:=49) U af<|Lp 25 50 U<|Lp 26 51 U<|Lp 27 52 U<|Lp 28 53 U<|Lp 29 54 U<|Lp 30 55 U<|Lf 31 56 U (fun _=>y4p U U)<|Ly (.a3) ?_ aq
        exact .r11 U U U U U U U U U (zO<|Eq.symm af)<|zO<|y4f af
      refine WD.d (bz 32 13) (by kernel_rfl)<|Lf 32 57 U (fun _=>y4p U U)<|Ly (.a3) ?_ ao
      exact .r10 U U U U U U U U (zO<|Eq.symm q)<|zO<|y5W q
    refine WD.d (bz 33 12) (by kernel_rfl)<|Lf 33 58 U (fun _=>q_m U)<|Ke (fuel':=0) [(1,(vi f)),(2,C),(3,(vp l)),(7,(.map<|some m)),(9,(vp n)),(11,C),(12,E),(13,(vi a)),(58,D),(69,(.bool aJ))] (y2e 45 (dn 45)) ?_<|fun ar=>?_
    rotate_left
    ·rcases Bool.eq_false_or_eq_true (((decide ((yd d ((nth b a).fNode) 0)=0))||(decide ((yd d ((nth b a).fNext) 0)>0)))||(((decide (a>0))&&(decide (((nth b a).fNode)≠((nth b 0).fNode))))&&(decide (((nth b a).fNode)<H)))) with hb' | hb'
     ·have ag:=hb';clear hb'
      have ah:=yr am ag
      replace ah:=oJ ah
      refine L3 (i:=58) U ag<|Lp 34 59 U<|Lp 35 60 U<|Lp 36 61 U<|Lp 37 62 U<|Lp 38 63 U<|Lp 39 64 U<|Lp 40 65 U<|Lp 41 66 U<|Lp 42 67 U<|Lp 43 68 U<|Lf 44 69 U (fun _=>y4o U U)<|Ly (.a3) ?_ ar
      exact .r10 U U U U U U U U (zO<|Eq.symm ag)<|zO ah
     ·have ai:=hb';clear hb'
      have p:=ys am ai
      obtain⟨aU,aN,p⟩:=za p
      replace p:=oJ p
      refine L3 (i:=58) U ai<|Li 34 59 U (yi y1V U (yj .here) U)<|Lf 35 60 U (fun _=>q_m U)<|Lf 36 61 U (fun _=>ya y8H U U)<|Li 37 62 U (yc yq U<|yh .h2 U)<|Lf 38 63 U (fun _=>ya y4a U U)<|Li 39 64 U (yc yq U<|yh .h2 U)<|Lf 40 65 U (fun _=>ya y5I U U)<|Li 41 66 U (yc yq U<|yh .h2 U)<|L4 42 67 U (zb call93<|.r5 U U U U U) (cc hz .nil fun w pz ho=>yfx aN w pz au av aw ax ay az aA aB)<|Lf 43 68 U (fun _=>q_not U)<|Lf 44 69 U (fun _=>y4p U U)<|Ly (.a3) ?_ ar
      exact .r10 U U U U U U U U (zO<|Eq.symm ai)<|zO p
    refine WD.d (bz 45 0) (by kernel_rfl)<|WD.done (by kernel_rfl)<|Lb<|WC.cond U (fun aj=>?_)<|fun aj=>?_
    ·replace h:=yr h aj
     refine WC.b<|Ld<|La U<|WL.nil<|Lb<|WC.ret<|Lj<|Lt<|Lj<|Lj<|Lt<|Lj ?_
     obtain rfl:=oJ h
     refine Lh results52 (.tmp U .nil)<|fun w hw=>?_
     exact⟨yD U,hw.sub .nil⟩
    ·replace h:=ys h aj
     refine WC.skip<|Lb<|Ld<|La U<|Le 71 (ya y5I U U)<|Le 72 (yc yq U<|yh .h2 U)<|Le 73 (y2V (k:=((nth b a).fNext)) (dflt:=(0:Int)) y3V underlying148 y2K U U U .h1)<|La U<|Lk U U (y3P (k:=((nth b a).fNext)) (v:=i64 ((yd d ((nth b a).fNext) 0)+1)) y3V underlying148 U U U U .h1)<|WL.nil<|Lq<|Lb<|Ld<|La U<|La U<|WL.nil ?_
     exact WX.round ⟨aD,(i64 (a+1)),(yC d ((nth b a).fNext)<|i64 ((yd d ((nth b a).fNext) 0)+1))⟩ h (Nat.lt_succ_self _) (.r7 U U U U U U U)<|.s2 .h1 .here
  ·replace h:=ys h W
   refine WC.exit<|Lm<|Lm<|Lw ?_
   exact Ln () h (.cons U .nil) .nil
 ·rintro  h
  replace h:=aC.symm.trans h
  refine WC.b<|Ld<|La U<|Le 77 (yJ underlying58 U)<|La U<|La U<|WL.nil<|Lb<|WC.ret ?_
  obtain rfl:=oJ h
  refine Lh results52 (.tmp U .nil)<|fun w hw=>?_
  exact⟨yD U,hw.sub .nil⟩
def y1z(a:List ze)(b:zs)(c:Int):Option Bool:=
 (y6c b c a).bind fun d=>some (!d)
theorem yes{Z:Zp}{c:Option Addr}{d:Nat}{f:Addr}{g:Option Addr}{i:Nat}{j:Option Addr}{k:Nat}{l:Option Addr}{m:Nat}{n:Option Addr}{o:Nat}{p:Option Addr}{q:Nat}{s:Option Addr}{t:Nat}{u:Option Addr}{v:Nat}{y:Option Addr}{z:Nat}{A:Addr}{b:List ze}{a:zs}{B:Int}{r:Bool}(h:y1z b a B=some r)(w₀:World)(hz:PZ [] w₀ Z)(C:ZS Z 3 (fun r x=>r=e60 x) c d b)(D:ZS Z 4 (y3F Z) g i a.fM)(E:ZS Z 4 (y4l Z) j k a.fC0)(F:ZS Z 4 (fun r x=>r=e64 x) l m a.fS)(G:ZS Z 4 (fun r x=>r=e62 x) n o a.fK)(H:ZS Z 7 (p69 Z) p q a.fVLs)(I:ZS Z 5 (fun r x=>r=y4D x) s t a.fH)(J:ZS Z 3 (y4m Z) u v a.fU)(K:ZS Z 4 (fun r x=>r=y4E x) y z a.fV0)(L:ZC Z f [(vs g a.fM.length i),(vs j a.fC0.length k),(vs l a.fS.length m),(vs n a.fK.length o),(vs p a.fVLs.length q),(vs s a.fH.length t),(vs u a.fU.length v),(vs y a.fV0.length z)])(M:ZC Z A [(vi B)]):
  Calls Tryz.prog 51 #[(vs c b.length d),(vq f),(vq A)] w₀ fun e w'=>e = .returned (.bool r)/\Hp [] w₀ w' []:=by
 unfold y1z at h
 refine Kd func51 ntmps51 ?_
 refine WC.b<|Ld<|La U<|WL.nil<|Lb<|WC.b ?_
 obtain⟨O,N,h⟩:=za h
 refine Ld<|Le 5 (yi y1V U (y2j hz.pv L) U)<|Le 6 (yc yq U<|y3x hz.pv M U)<|La U<|Ll 8 (zb call52<|.r3 U U U) .nil (cc hz .nil fun w pz ho=>yfy N w pz D E F G H I J K C)<|La U<|La U<|WL.nil<|Lb<|WC.ret ?_
 obtain rfl:=oJ h
 refine Lh results51 (.tmp U .nil)<|fun w hw=>?_
 exact⟨yD U,hw.sub .nil⟩
def yQ(b:List (List ze))(z8Y:(List ze)->Option Bool)(c:Option Int):Nat->Int->Option Int
 | 0,_=>none
 | d+1,a=>if decide (a<(b.length:Int)) then chk ((0:Int)<=a/\a<(b.length:Int)) ((z8Y (nth b a)).bind fun e=>if e then some a else yQ b z8Y c d (i64 (a+1))) else c
def y1U(a:List (List ze))(z8Y:(List ze)->Option Bool):Option Int:=
 jp0 (some (-1)) fun b=>yQ a z8Y b yy 0
theorem y7j(Z:Zp)(d:Option Addr)(g:Nat)(zfn:FuncId)(zlv:List Value)(b:List (List ze))(z8Y:(List ze)->Option Bool)(r:Int)(h:y1U b z8Y=some r)(w₀:World)(hz:PZ [] w₀ Z)(m:ZS Z 1 (p58 Z) d g b)(n:∀ args w,(callFunc zfn args).run Tryz.prog w = .ok (.enter zfn args) w)(o:∀ w:World,PZ [] w Z->∀(x0:List ze) (ao0:Option Addr) (cap0:Nat) (r:Bool),ZS Z 3 (fun r x=>r=e60 x) ao0 cap0 x0->z8Y x0=some r->Calls Tryz.prog zfn (([(vs ao0 x0.length cap0)]:List Value)++zlv).toArray w fun e w'=>e = .returned (.bool r)/\Hp [] w w' []):
  Calls Tryz.prog 92 #[(vs d b.length g),(.func (.func zfn) #[] (zlv).toArray)] w₀ fun e w'=>e = .returned (vi r)/\Hp [] w₀ w' []:=by
 unfold y1U at h
 refine Lz func92 ntmps92 ?_
 refine WC.b<|Ld<|La U<|WL.nil<|Lb ?_
 obtain⟨k,p,h⟩:=y2m h
 refine L8 ((k=some r)) ([]) ([]) ?_ ?_
 ·skip
  refine WC.b<|Ld<|La U<|Le 7 (yJ underlying32 U)<|La U<|WL.nil<|Lb<|WC.block<|L9 (fun(c:Nat) (a:Int)=>(yQ b z8Y k c a=some r)) (fun c a=>[(0,(vs d b.length g)),(1,(.func (.func zfn) #[] (zlv).toArray)),(7,(vi (b.length:Int))),(8,(vi a))]) (fun c a=>[]) (fun c a=>c) ⟨yy,0⟩ h (.r4 U U U U) .nil ?_
  rintro(_|q) a h;·cases h
  rw[yQ] at h
  refine WC.b<|Ld<|La U<|WL.nil<|Lb<|WC.b<|WC.cond U (fun i=>?_)<|fun i=>?_
  ·replace h:=yr h i
   refine WC.skip<|Lb<|WC.b<|WC.block<|WC.b<|Ld<|La U<|La U<|WL.nil<|Lb<|WC.b ?_
   obtain⟨s,h⟩:=yo h
   obtain⟨t,u,h⟩:=za h
   refine Ld<|La U<|La U<|La U<|L0 (dd:=14) U U (Z:=Z) (Pr:=(p58 Z)) y8Y U U m s ?_
   rintro B C v D ⟨y,z,rfl,A⟩
   refine Le 15 (yc y7g U<|y3x hz.pv v U)<|Ll 16 (y2M (l:=[.tmp 15]) (f:=zfn) (caps:=zlv) n U<|.cons U .nil) .nil (fun w hw=>o w (hz.now hw) (nth b a) y z t A u)<|WL.nil<|Lb<|WC.cond U (fun j=>?_)<|fun j=>?_
   ·replace h:=yr h j
    refine WC.b<|Ld<|La U<|La U<|WL.nil<|Lb<|WC.ret<|Lt<|Lj<|Lj<|Lt<|Lj ?_
    obtain rfl:=oJ h
    refine Lh results92 (.tmp U .nil)<|fun w hw=>?_
    exact⟨yD U,hw.sub .nil⟩
   ·replace h:=ys h j
    refine WC.skip<|Lq<|Lb<|Ld<|La U<|La U<|WL.nil ?_
    exact WX.round ⟨q,(i64 (a+1))⟩ h (Nat.lt_succ_self _) (.r4 U U U U) .nil
  ·replace h:=ys h i
   refine WC.exit<|Lm<|Lm<|Lw ?_
   exact Ln () h .nil .nil
 ·rintro  h
  replace h:=p.symm.trans h
  refine WC.b<|Ld<|La U<|WL.nil<|Lb<|WC.ret ?_
  obtain rfl:=oJ h
  refine Lh results92 (.tmp U .nil)<|fun w hw=>?_
  exact⟨yD U,hw.sub .nil⟩
def y16(a:List (List ze))(zfo:(List ze)->Option Bool):Option Bool:=
 (y1U a zfo).bind fun b=>some (decide (b>=0))
theorem y4I(Z:Zp)(b:Option Addr)(c:Nat)(zfp:FuncId)(zlx:List Value)(a:List (List ze))(zfo:(List ze)->Option Bool)(r:Bool)(h:y16 a zfo=some r)(w₀:World)(hz:PZ [] w₀ Z)(d:ZS Z 1 (p58 Z) b c a)(f:∀ args w,(callFunc zfp args).run Tryz.prog w = .ok (.enter zfp args) w)(g:∀ w:World,PZ [] w Z->∀(x0:List ze) (ao0:Option Addr) (cap0:Nat) (r:Bool),ZS Z 3 (fun r x=>r=e60 x) ao0 cap0 x0->zfo x0=some r->Calls Tryz.prog zfp (([(vs ao0 x0.length cap0)]:List Value)++zlx).toArray w fun e w'=>e = .returned (.bool r)/\Hp [] w w' []):
  Calls Tryz.prog 50 #[(vs b a.length c),(.func (.func zfp) #[] (zlx).toArray)] w₀ fun e w'=>e = .returned (.bool r)/\Hp [] w₀ w' []:=by
 unfold y16 at h
 refine Lz func50 ntmps50 ?_
 refine WC.b<|Ld<|La U<|WL.nil<|Lb<|WC.b ?_
 obtain⟨j,i,h⟩:=za h
 refine Ld<|La U<|La U<|Ll 7 (zb call92<|.r2 U U) .nil (cc hz .nil fun w pz ho=>y7j _ _ _ (zfn:=zfp) (zlv:=zlx) _ (z8Y:=zfo) _ i w pz d f g)<|La U<|La U<|WL.nil<|Lb<|WC.ret ?_
 obtain rfl:=oJ h
 refine Lh results50 (.tmp U .nil)<|fun w hw=>?_
 exact⟨yD U,hw.sub .nil⟩
def y44(c:zs)(a:Int)(b:List (List ze)):Option Bool:=
 (if (((decide (a=0))||(decide (a=1)))&&(decide ((b.length:Int)=(c.fVLs.length:Int))))&&(decide ((b.length:Int)<=16)) then(y16 b (fun(y0:List ze)=>y1z y0 c a)).bind fun d=>some (!d) else some false).bind fun e=>some e
theorem y7r{Z:Zp}{f:Option Addr}{g:Nat}{i:Option Addr}{j:Nat}{k:Option Addr}{m:Nat}{n:Option Addr}{o:Nat}{p:Option Addr}{q:Nat}{s:Option Addr}{t:Nat}{u:Option Addr}{v:Nat}{y:Option Addr}{z:Nat}{C:Option Addr}{D:Nat}{a:zs}{b:Int}{c:List (List ze)}{r:Bool}(h:y44 a b c=some r)(w₀:World)(hz:PZ [] w₀ Z)(F:ZS Z 4 (y3F Z) f g a.fM)(G:ZS Z 4 (y4l Z) i j a.fC0)(H:ZS Z 4 (fun r x=>r=e64 x) k m a.fS)(I:ZS Z 4 (fun r x=>r=e62 x) n o a.fK)(J:ZS Z 7 (p69 Z) p q a.fVLs)(K:ZS Z 5 (fun r x=>r=y4D x) s t a.fH)(L:ZS Z 3 (y4m Z) u v a.fU)(M:ZS Z 4 (fun r x=>r=y4E x) y z a.fV0)(N:ZS Z 1 (p58 Z) C D c):
  Calls Tryz.prog 22 #[(.agg #[(vs f a.fM.length g),(vs i a.fC0.length j),(vs k a.fS.length m),(vs n a.fK.length o),(vs p a.fVLs.length q),(vs s a.fH.length t),(vs u a.fU.length v),(vs y a.fV0.length z)]),(vi b),(vs C c.length D)] w₀ fun e w'=>e = .returned (.bool r)/\Hp [] w₀ w' []:=by
 unfold y44 at h
 refine Kd func22 ntmps22 ?_
 refine WC.b<|Ld (Lg 3 (yI (cs:=[(vs f a.fM.length g),(vs i a.fC0.length j),(vs k a.fS.length m),(vs n a.fK.length o),(vs p a.fVLs.length q),(vs s a.fH.length t),(vs u a.fU.length v),(vs y a.fV0.length z)]) U U) fun O _=>Lg 4 (yI (cs:=[(vi b)]) U U) fun P _=>La U<|WL.nil<|Lb<|WC.b ?_)
 obtain⟨Q,E,h⟩:=za h
 refine Ld<|Le 7 (yc yq U<|yh .here U)<|La U<|La U<|Lu false 2 9 (B:=(decide (b=0))||(decide (b=1))) U U U U U U (fun h=>(y5V h).symm) (fun _ R=>?_) ?_
 ·skip
  refine Le 10 (yc yq U<|yh .here U)<|La U<|La U ?_
  exact Lv (y5W R) U U .all
 let A:=(a.fVLs.length:Int);refine La U (Lu true 6 13 (B:=((decide (b=0))||(decide (b=1)))&&(decide ((c.length:Int)=A))) U U U U U U (fun h=>(y4f h).symm) (fun _ S=>?_) ?_)
 ·skip
  refine La U<|Le 15 (yJ underlying32 U)<|Le 16 (ya y7U U U)<|Le 17 (yc y7V U<|yh .h1 U)<|Le 18 (yJ underlying26 U)<|La U<|La U ?_
  exact Lv (y4g S) U U .all
 refine La U<|Lu true 3 21 (B:=(((decide (b=0))||(decide (b=1)))&&(decide ((c.length:Int)=A)))&&(decide ((c.length:Int)<=16))) U U U U U U (fun h=>(y4f h).symm) (fun _ T=>?_) ?_
 ·skip
  refine La U<|Le 23 (yJ underlying32 U)<|La U<|La U ?_
  exact Lv (y4g T) U U .all
 refine La U<|Lu true 4 26 (B:=Q) U U U U U U (fun h=>(oJ<|ys E h).symm) (fun _ V=>?_) ?_
 ·skip
  have d:=yr E V
  obtain⟨X,W,d⟩:=za d
  replace d:=oJ d
  refine La U<|Le 28 (y15<|L2 (l:=[.tmp 3,.tmp 4])<|.r2 U U)<|Ll 29 (zb call50<|.r2 U U) .nil (ccl hz .nil (.s2 .h1 .here) fun w pz ho la=>y4I _ _ _ (zfp:=51) (zlx:=[(vp O),(vp P)]) _ (zfo:=(fun(y0:List ze)=>y1z y0 a b)) _ W w pz ((N.mono<|Zle.left _ _).weak (fun _ _ h=>y22 (Zle.left _ _) h)) call51<|fun w' hz' y0 ga0 gc0 r gh0 hr=>yes hr w' hz' gh0 ((F.mono<|Zle.left _ _).weak (fun _ _ h=>y1p (Zle.left _ _) h)) ((G.mono<|Zle.left _ _).weak (fun _ _ h=>y1A (Zle.left _ _) h)) (H.mono<|Zle.left _ _) (I.mono<|Zle.left _ _) ((J.mono<|Zle.left _ _).weak (fun _ _ h=>y1k (Zle.left _ _) h)) (K.mono<|Zle.left _ _) ((L.mono<|Zle.left _ _).weak (fun _ _ h=>y1B (Zle.left _ _) h)) (M.mono<|Zle.left _ _) ((la _ (.head _) _).stb)<|(la _ (.tail _<|.head _) _).stb)<|La U<|La U ?_
  exact Lv d U U .all
 refine La U<|WL.nil<|Lb<|WC.ret ?_
 obtain rfl:=oJ h
 refine Lh results22 (.tmp U .nil)<|fun w hw=>?_
 exact⟨yD U,hw.sub .nil⟩
def y4M(a:ze):Option z8:=
 some (⟨a.fNode,a.fQ⟩:z8)
theorem y6d{Z:Zp}{a:ze}{r:z8}(h:y4M a=some r)(w₀:World)(hz:PZ [] w₀ Z):
  Calls Tryz.prog 60 #[(.agg #[(vi a.fNode),(vi a.fNext),(vi a.fQ)])] w₀ fun e w'=>e = .returned (.agg #[(vi r.fNode),(vi r.fQ)])/\Hp [] w₀ w' []:=by
 unfold y4M at h
 refine L5 func60 ntmps60 ?_
 refine WC.b<|Ld (Lg 1 (yI (cs:=[(vi a.fNode),(vi a.fNext),(vi a.fQ)]) U U) fun b _=>Lg 2 (yu (cs:=[(vi 0),(vi 0)]) zl5 U) fun c _=>WL.nil<|Lb<|WC.b<|Ld<|Le 3 (ya y4a U U)<|Le 4 (yc yq U<|yh .h1 U)<|Le 5 (ya y8H U U)<|Le 6 (yc yq U<|yh .h1 U)<|Le 7 (yN (v:=(.agg #[(vi a.fNode),(vi a.fQ)])) (Lo (l:=[.tmp 4,.tmp 6]) (.r2 U U) [0,1]) (fun _=>by kernel_rfl))<|Lk U U (yl zoz U U U .here U U U)<|WL.nil<|Lb<|WC.ret ?_)
 obtain rfl:=oJ h
 refine Lh results60 (.agg U z5o U (yj .here) .nil)<|fun w hw=>?_
 exact⟨yD U,hw.sub .nil⟩
def yY(b:List z8)(c:z8)(d:Option Int):Nat->Int->Option Int
 | 0,_=>none
 | e+1,a=>if decide (a<(b.length:Int)) then chk ((0:Int)<=a/\a<(b.length:Int)) (if decide (c=(⟨((nth b a).fNode),((nth b a).fQ)⟩:z8)) then some a else yY b c d e (i64 (a+1))) else d
def y2u(a:List z8)(b:z8):Option Int:=
 jp0 (some (-1)) fun c=>yY a b c yy 0
theorem y7k{Z:Zp}{k:Option Addr}{l:Nat}{f:List z8}{c:z8}{r:Int}(h:y2u f c=some r)(w₀:World)(hz:PZ [] w₀ Z)(q:ZS Z 2 (fun r x=>r=yE x) k l f):
  Calls Tryz.prog 157 #[(vs k f.length l),(.agg #[(vi c.fNode),(vi c.fQ)])] w₀ fun e w'=>e = .returned (vi r)/\Hp [] w₀ w' []:=by
 unfold y2u at h
 refine Lz func157 ntmps157 ?_
 refine WC.b<|Ld (Lg 3 (yI (cs:=[(vi c.fNode),(vi c.fQ)]) U U) fun o _=>La U<|WL.nil<|Lb ?_)
 obtain⟨p,s,h⟩:=y2m h
 refine L8 ((p=some r)) ([]) ([]) ?_ ?_
 ·skip
  refine WC.b<|Ld<|La U<|Le 7 (yJ underlying112 U)<|La U<|WL.nil<|Lb<|WC.block<|L9 (fun(g:Nat) (d:Int)=>(yY f c p g d=some r)) (fun g d=>[(0,(vs k f.length l)),(3,(vp o)),(7,(vi (f.length:Int))),(8,(vi d))]) (fun g d=>[stb o 121 [(vi c.fNode),(vi c.fQ)]]) (fun g d=>g) ⟨yy,0⟩ h (.r4 U U U U) (.cons .here .nil) ?_
  rintro(_|t) d h;·cases h
  rw[yY] at h
  refine WC.b<|Ld<|La U<|WL.nil<|Lb<|WC.b<|WC.cond U (fun m=>?_)<|fun m=>?_
  ·replace h:=yr h m
   refine WC.skip<|Lb<|WC.b<|WC.block<|WC.b<|Ld<|La U<|La U<|WL.nil<|Lb<|WC.b ?_
   obtain⟨u,h⟩:=yo h
   refine Lx (fun i=>[].contains i) [] U<|Li 0 11 U (yi z5o U (yj .here) U)<|Lf 1 12 U (fun _=>q_m U)<|Lf 2 13 U (fun _=>q_m U)<|L7 (j:=3) (dd:=14) (by kernel_rfl) U z2k z2l U U (Z:=Z) (Pr:=(fun r x=>r=yE x)) z75 U U q u ?_
   rintro y z v A rfl
   refine Li 4 15 U (yi z5o U (y2j hz.pv v) U)<|Lf 5 16 U (fun _=>y9l (enc:=yE) (a:=c) (b:=(⟨((nth f d).fNode),((nth f d).fQ)⟩:z8)) zoA U U)<|WD.done (by kernel_rfl)<|Lb<|WC.cond U (fun n=>?_)<|fun n=>?_
   ·replace h:=yr h n
    refine WC.b<|Ld<|La U<|La U<|WL.nil<|Lb<|WC.ret<|Lt<|Lj<|Lj<|Lt<|Lj ?_
    obtain rfl:=oJ h
    refine Lh results157 (.tmp U .nil)<|fun w hw=>?_
    exact⟨yD U,hw.sub .nil⟩
   ·replace h:=ys h n
    refine WC.skip<|Lq<|Lb<|Ld<|La U<|La U<|WL.nil ?_
    exact WX.round ⟨t,(i64 (d+1))⟩ h (Nat.lt_succ_self _) (.r4 U U U U)<|.cons .here .nil
  ·replace h:=ys h m
   refine WC.exit<|Lm<|Lm<|Lw ?_
   exact Ln () h .nil .nil
 ·rintro  h
  replace h:=s.symm.trans h
  refine WC.b<|Ld<|La U<|WL.nil<|Lb<|WC.ret ?_
  obtain rfl:=oJ h
  refine Lh results157 (.tmp U .nil)<|fun w hw=>?_
  exact⟨yD U,hw.sub .nil⟩
def y1F(a:List z8)(b:z8):Option Bool:=
 (y2u a b).bind fun c=>some (decide (c>=0))
theorem y6P{Z:Zp}{c:Option Addr}{d:Nat}{b:List z8}{a:z8}{r:Bool}(h:y1F b a=some r)(w₀:World)(hz:PZ [] w₀ Z)(f:ZS Z 2 (fun r x=>r=yE x) c d b):
  Calls Tryz.prog 114 #[(vs c b.length d),(.agg #[(vi a.fNode),(vi a.fQ)])] w₀ fun e w'=>e = .returned (.bool r)/\Hp [] w₀ w' []:=by
 unfold y1F at h
 refine Lz func114 ntmps114 ?_
 refine WC.b<|Ld (Lg 3 (yI (cs:=[(vi a.fNode),(vi a.fQ)]) U U) fun i _=>La U<|WL.nil<|Lb<|WC.b ?_)
 obtain⟨j,g,h⟩:=za h
 refine Ld<|La U<|Le 6 (yi z5o U (yj .here) U)<|Ll 7 (zb call157<|.r2 U U) .nil (cc hz .nil fun w pz ho=>y7k g w pz f)<|La U<|La U<|WL.nil<|Lb<|WC.ret ?_
 obtain rfl:=oJ h
 refine Lh results114 (.tmp U .nil)<|fun w hw=>?_
 exact⟨yD U,hw.sub .nil⟩
def y6e(a:Int):Option Bool:=
 some (decide (a≠a))
theorem ybr{Z:Zp}{a:Int}{r:Bool}(h:y6e a=some r)(w₀:World)(hz:PZ [] w₀ Z):
  Calls Tryz.prog 131 #[(vi a)] w₀ fun e w'=>e = .returned (.bool r)/\Hp [] w₀ w' []:=by
 unfold y6e at h
 refine L5 func131 ntmps131 ?_
 refine WC.b<|Ld<|La U<|WL.nil<|Lb<|WC.b<|Ld<|La U<|La U<|La U<|La U<|WL.nil<|Lb<|WC.ret ?_
 obtain rfl:=oJ h
 refine Lh results131 (.tmp U .nil)<|fun w hw=>?_
 exact⟨yD U,hw.sub .nil⟩
def y4V(a:Int)(b:Int):Option Int:=
 (y6e a).bind fun d=>(y6e b).bind fun c=>if d then if c then some 0 else some (-1) else if c then some 1 else if decide (a<b) then some (-1) else if decide (a>b) then some 1 else some 0
theorem yap{Z:Zp}{g:Int}{i:Int}{r:Int}(h:y4V g i=some r)(w₀:World)(hz:PZ [] w₀ Z):
  Calls Tryz.prog 85 #[(vi g),(vi i)] w₀ fun e w'=>e = .returned (vi r)/\Hp [] w₀ w' []:=by
 unfold y4V at h
 refine Lz func85 ntmps85 ?_
 refine WC.b<|Ld<|La U<|WL.nil<|Lb<|WC.b ?_
 obtain⟨l,j,h⟩:=za h
 refine Ld<|La U<|Ll 8 (zb call131<|.cons U .nil) .nil (cc hz .nil fun w pz ho=>ybr j w pz )<|La U<|WL.nil<|Lb<|WC.b ?_
 obtain⟨m,k,h⟩:=za h
 refine Ld<|La U<|Ll 10 (zb call131<|.cons U .nil) .nil (cc hz .nil fun w pz ho=>ybr k w pz )<|La U<|WL.nil<|Lb<|WC.b<|WC.b<|Ld<|La U<|WL.nil<|Lb<|WC.cond U (fun a=>?_)<|fun a=>?_
 ·replace h:=yr h a
  refine WC.b<|WC.b<|Ld<|La U<|WL.nil<|Lb<|WC.cond U (fun b=>?_)<|fun b=>?_
  ·replace h:=yr h b
   refine WC.b<|Ld<|La U<|WL.nil<|Lb<|WC.ret<|Lj<|Lj ?_
   obtain rfl:=oJ h
   refine Lh results85 (.tmp U .nil)<|fun w hw=>?_
   exact⟨yD U,hw.sub .nil⟩
  ·replace h:=ys h b
   refine WC.skip<|Lb<|WC.b<|Ld<|La U<|WL.nil<|Lb<|WC.ret<|Lj ?_
   obtain rfl:=oJ h
   refine Lh results85 (.tmp U .nil)<|fun w hw=>?_
   exact⟨yD U,hw.sub .nil⟩
 ·replace h:=ys h a
  refine WC.skip<|Lb<|WC.b<|WC.b<|Ld<|La U<|WL.nil<|Lb<|WC.cond U (fun c=>?_)<|fun c=>?_
  ·replace h:=yr h c
   refine WC.b<|Ld<|La U<|WL.nil<|Lb<|WC.ret<|Lj ?_
   obtain rfl:=oJ h
   refine Lh results85 (.tmp U .nil)<|fun w hw=>?_
   exact⟨yD U,hw.sub .nil⟩
  ·replace h:=ys h c
   refine WC.skip<|Lb<|WC.b<|WC.b<|Ld<|La U<|La U<|La U<|WL.nil<|Lb<|WC.cond U (fun d=>?_)<|fun d=>?_
   ·replace h:=yr h d
    refine WC.b<|Ld<|La U<|WL.nil<|Lb<|WC.ret<|Lj ?_
    obtain rfl:=oJ h
    refine Lh results85 (.tmp U .nil)<|fun w hw=>?_
    exact⟨yD U,hw.sub .nil⟩
   ·replace h:=ys h d
    refine WC.skip<|Lb<|WC.b<|WC.b<|Ld<|La U<|La U<|La U<|WL.nil<|Lb<|WC.cond U (fun f=>?_)<|fun f=>?_
    ·replace h:=yr h f
     refine WC.b<|Ld<|La U<|WL.nil<|Lb<|WC.ret<|Lj ?_
     obtain rfl:=oJ h
     refine Lh results85 (.tmp U .nil)<|fun w hw=>?_
     exact⟨yD U,hw.sub .nil⟩
    ·replace h:=ys h f
     refine WC.skip<|Lb<|WC.b<|Ld<|La U<|WL.nil<|Lb<|WC.ret ?_
     obtain rfl:=oJ h
     refine Lh results85 (.tmp U .nil)<|fun w hw=>?_
     exact⟨yD U,hw.sub .nil⟩
def y4N(b:List Int)(c:Option Int):Nat->Int->Option Int
 | 0,_=>none
 | d+1,a=>if decide (a<(b.length:Int)) then chk ((0:Int)<=a/\a<(b.length:Int)) (if decide ((nth b a)≠0) then some (nth b a) else y4N b c d (i64 (a+1))) else c
def y7I(a:List Int):Option Int:=
 jp0 (some 0) fun b=>y4N a b yy 0
theorem yhG{Z:Zp}{d:Option Addr}{f:Nat}{b:List Int}{r:Int}(h:y7I b=some r)(w₀:World)(hz:PZ [] w₀ Z)(k:ZS Z 1 (fun r x=>r=e3 x) d f b):
  Calls Tryz.prog 84 #[(vs d b.length f)] w₀ fun e w'=>e = .returned (vi r)/\Hp [] w₀ w' []:=by
 unfold y7I at h
 refine L5 func84 ntmps84 ?_
 refine WC.b<|Ld<|La U<|WL.nil<|Lb<|WC.b<|Ld<|La U<|WL.nil<|Lb ?_
 obtain⟨j,l,h⟩:=y2m h
 refine L8 ((j=some r)) ([(3,(vi 0))]) ([]) ?_ ?_
 ·skip
  refine WC.b<|Ld<|La U<|Le 7 (yJ underlying50 U)<|La U<|WL.nil<|Lb<|WC.block<|L9 (fun(c:Nat) (a:Int)=>(y4N b j c a=some r)) (fun c a=>[(3,(vi 0)),(6,(vs d b.length f)),(7,(vi (b.length:Int))),(8,(vi a))]) (fun c a=>[]) (fun c a=>c) ⟨yy,0⟩ h (.r4 U U U U) .nil ?_
  rintro(_|m) a h;·cases h
  rw[y4N] at h
  refine WC.b<|Ld<|La U<|WL.nil<|Lb<|WC.b<|WC.cond U (fun g=>?_)<|fun g=>?_
  ·replace h:=yr h g
   refine WC.skip<|Lb<|WC.b<|WC.block<|WC.b ?_
   obtain⟨n,h⟩:=yo h
   refine Ld<|L0 (dd:=10) U U (Z:=Z) (Pr:=(fun r x=>r=e3 x)) y6a U U k n ?_
   rintro p q o s rfl
   refine Le 11 (yc yq U<|y3x hz.pv o U)<|La U<|WL.nil<|Lb<|WC.b<|Ld<|La U<|La U<|La U<|WL.nil<|Lb<|WC.cond U (fun i=>?_)<|fun i=>?_
   ·replace h:=yr h i
    refine WC.b<|Ld<|La U<|La U<|WL.nil<|Lb<|WC.ret<|Lt<|Lj<|Lj<|Lt<|Lj ?_
    obtain rfl:=oJ h
    refine Lh results84 (.tmp U .nil)<|fun w hw=>?_
    exact⟨yD U,hw.sub .nil⟩
   ·replace h:=ys h i
    refine WC.skip<|Lq<|Lb<|Ld<|La U<|La U<|WL.nil ?_
    exact WX.round ⟨m,(i64 (a+1))⟩ h (Nat.lt_succ_self _) (.r4 U U U U) .nil
  ·replace h:=ys h g
   refine WC.exit<|Lm<|Lm<|Lw ?_
   exact Ln () h (.cons U .nil) .nil
 ·rintro  h
  replace h:=l.symm.trans h
  refine WC.b<|Ld<|La U<|La U<|WL.nil<|Lb<|WC.ret ?_
  obtain rfl:=oJ h
  refine Lh results84 (.tmp U .nil)<|fun w hw=>?_
  exact⟨yD U,hw.sub .nil⟩
def y1x(a:z8)(b:z8):Option Int:=
 (y4V a.fNode b.fNode).bind fun c=>(y4V a.fQ b.fQ).bind fun d=>(y7I ([c,d]:List Int)).bind fun e=>some e
theorem y90{Z:Zp}{a:z8}{b:z8}{r:Int}(h:y1x a b=some r)(w₀:World)(hz:PZ [] w₀ Z):
  Calls Tryz.prog 45 #[(.agg #[(vi a.fNode),(vi a.fQ)]),(.agg #[(vi b.fNode),(vi b.fQ)])] w₀ fun e w'=>e = .returned (vi r)/\Hp [] w₀ w' []:=by
 unfold y1x at h
 refine Lz func45 ntmps45 ?_
 refine WC.b<|Ld (Lg 2 (yI (cs:=[(vi a.fNode),(vi a.fQ)]) U U) fun k _=>Lg 3 (yI (cs:=[(vi b.fNode),(vi b.fQ)]) U U) fun m _=>La U<|WL.nil<|Lb<|WC.b ?_)
 obtain⟨c,d,h⟩:=za h
 obtain⟨f,g,h⟩:=za h
 obtain⟨o,j,h⟩:=za h
 refine Lx (fun i=>[].contains i) [] U<|Lf 0 5 U (fun _=>ya y9t U U)<|Li 1 6 U (yc yq U<|yh .h1 U)<|Lf 2 7 U (fun _=>ya y9t U U)<|Li 3 8 U (yc yq U<|yh .here U)<|L4 4 9 U (zb call85<|.r2 U U) (cc hz .nil fun w pz ho=>yap d w pz )<|Lf 5 10 U (fun _=>ya yaS U U)<|Li 6 11 U (yc yq U<|yh .h1 U)<|Lf 7 12 U (fun _=>ya yaS U U)<|Li 8 13 U (yc yq U<|yh .here U)<|L4 9 14 U (zb call85<|.r2 U U) (cc hz .nil fun w pz ho=>yap g w pz ) (WD.new (i:=10) (dd:=15) U (by kernel_rfl) U U U (yT (cs:=([c,f]:List Int).flatMap e3) y6a (Lo (l:=[.tmp 9,.tmp 14]) (.r2 U U) [0,1]) (fun _=>by kernel_rfl) U (by unfold maxLen;omega)) (fun h'=>absurd h' (by decide)) fun n _=>L4 11 16 U (zb call84<|.cons U .nil) (ccl hz .nil (.cons .here .nil) fun w pz ho la=>yhG j w pz<|ZA.row (la _ (.head _) _) (RR.flat (enc:=e3) (fun _=>U) _) ⟨w,pz.1⟩)<|Lf 12 4 U (fun _=>q_z U)<|WD.done (by kernel_rfl)<|Lb<|WC.ret ?_)
 obtain rfl:=oJ h
 refine Lh results45 (.tmp U .nil)<|fun w hw=>?_
 exact⟨yD U,hw.sub .nil⟩
def y4i(z8d:Int):Option Int:=chk ((0:Int)<=z8d/\z8d<=18446744073709551615) (some ((Go.Lib.bitLen (z8d).toNat:Nat):Int))
theorem y91(Z:Zp)(z8d:Int)(r:Int)(w₀:World)(hz:PZ [] w₀ Z)(h:y4i z8d=some r):Calls Tryz.prog 57 #[.int .u64 z8d] w₀ fun e w'=>e = .returned (vi r)/\Hp [] w₀ w' []:=by
 obtain⟨h0,h⟩:=yo h
 obtain rfl:=oJ h
 refine(Tryz.bits_Len z8d w₀ h0.1 h0.2).mono ?_
 rintro e w' ⟨rfl,rfl⟩
 exact⟨U,Hp.nil w' []⟩
theorem zNY:∀ w,(isAgg (Tryz.y3C.t 24)).run Tryz.prog w = .ok true w:=fun _=>by kernel_rfl
theorem zNZ:∀ w,(Go.sizeOf (Tryz.y3C.t 24)).run Tryz.prog w = .ok 2 w:=fun _=>by kernel_rfl
def y3R(z5t:List z8)(zlB:Int)(zlC:Int)(zhD:Int)(zfr:z8->z8->Option Int):Option (List z8):=chk ((zlB=0/\zlC=(z5t.length:Int))/\(0<=zhD/\zhD<4611686018427387904/\z5t.length<4611686018427387904)) (chk (y8r zfr (yK zfr z5t)=true) (some (yK zfr z5t)))
theorem y80(Z:Zp)(zfs:Option Addr)(zft:Nat)(zlD:FuncId)(zuO:List Value)(z5t:List z8)(zlB:Int)(zlC:Int)(zhD:Int)(zfr:z8->z8->Option Int)(r:List z8)(w₀:World)(hz:PZ (fps [row (vs zfs z5t.length zft) 121 2 (z5t.flatMap yE)]) w₀ Z)(a:∀ args w,(callFunc zlD args).run Tryz.prog w = .ok (.enter zlD args) w)(b:∀ w:World,PZ [] w Z->∀(x0:z8) (x1:z8) (r:Int),zfr x0 x1=some r->Calls Tryz.prog zlD (([(.agg #[(vi x0.fNode),(vi x0.fQ)]),(.agg #[(vi x1.fNode),(vi x1.fQ)])]:List Value)++zuO).toArray w fun e w'=>e = .returned (vi r)/\Hp [] w w' [])(h:y3R z5t zlB zlC zhD zfr=some r)(hown:Hp (fps [row (vs zfs z5t.length zft) 121 2 (z5t.flatMap yE)]) w₀ w₀ [row (vs zfs z5t.length zft) 121 2 (z5t.flatMap yE)]):
  Calls Tryz.prog 158 #[(vs zfs z5t.length zft),(vi zlB),(vi zlC),(vi zhD),(.func (.func zlD) #[] (zuO).toArray)] w₀ fun e w'=>e = .returned (.tuple #[])/\(r.length=z5t.length)/\Hp (fps [row (vs zfs z5t.length zft) 121 2 (z5t.flatMap yE)]) w₀ w' [row (vs zfs r.length zft) 121 2 (r.flatMap yE)]:=by
 obtain⟨h0,h⟩:=yo h
 obtain⟨h1,h⟩:=yo h
 have hr:=(oJ h).symm
 exact y9S (P:=Tryz.prog) (f:=158) (e:=121) (k:=2) (enc:=yE) (fun _=>U) (by decide) ybN (fun β _ enc cf g cb hO blk off cap d0 w0 eg hC R=>Tryz.y9o 2 zNY zNZ enc cf g cb hO blk off cap d0 w0 eg hC R) (Tryz.y9c (α:=Unit)) hz a b h0 h1 hr hown
def y1G(a:List z8)(zhE:z8->z8->Option Int):Option (List z8):=
 (y4i (u64 (a.length:Int))).bind fun b=>(y3R a 0 (a.length:Int) b zhE).bind fun c=>some c
theorem y6Q(Z:Zp)(b:Option Addr)(c:Nat)(zhF:FuncId)(zp8:List Value)(a:List z8)(zhE:z8->z8->Option Int)(r:List z8)(h:y1G a zhE=some r)(w₀:World)(hz:PZ (fps [row (vs b a.length c) 121 2 (a.flatMap yE)]) w₀ Z)(j:∀ args w,(callFunc zhF args).run Tryz.prog w = .ok (.enter zhF args) w)(k:∀ w:World,PZ [] w Z->∀(x0:z8) (x1:z8) (r:Int),zhE x0 x1=some r->Calls Tryz.prog zhF (([(.agg #[(vi x0.fNode),(vi x0.fQ)]),(.agg #[(vi x1.fNode),(vi x1.fQ)])]:List Value)++zp8).toArray w fun e w'=>e = .returned (vi r)/\Hp [] w w' [])(hown:Hp (fps [row (vs b a.length c) 121 2 (a.flatMap yE)]) w₀ w₀ [row (vs b a.length c) 121 2 (a.flatMap yE)]):
  Calls Tryz.prog 115 #[(vs b a.length c),(.func (.func zhF) #[] (zp8).toArray)] w₀ fun e w'=>e = .returned (.tuple #[])/\(r.length=a.length)/\Hp (fps [row (vs b a.length c) 121 2 (a.flatMap yE)]) w₀ w' [row (vs b r.length c) 121 2 (r.flatMap yE)]:=by
 unfold y1G at h
 refine Kf func115 ntmps115 hown ?_
 refine WC.b<|Ld<|La U<|Le 6 (yJ underlying112 U)<|La U<|WL.nil<|Lb ?_
 obtain⟨d,l,h⟩:=za h
 obtain⟨f,m,h⟩:=za h
 refine Ld<|La U<|La U<|La U<|Le 10 (y8R underlying3 underlying147 U U)<|Ll 11 (zb call57<|.cons U .nil) .nil (cc hz .nil fun w pz ho=>y91 (Z:=_)  (z8d:=(u64 (a.length:Int))) (r:=d) w pz  l)<|La U<|WL.y5c (dd:=13) U U U (zb call158<|.r5 U U U U U) (.cons .here .nil) (cc hz (.cons .here .nil) fun w pz ho=>y80 (Z:=_) (zfs:=b) (zft:=c) (zlD:=zhF) (zuO:=zp8) (z5t:=a) (zlB:=0) (zlC:=(a.length:Int)) (zhD:=d) (zfr:=zhE) (r:=f) w pz j k m ho) ?_
 rintro  g
 refine Kh (i:=0) U (u:=(vs b f.length c)) (yac g.symm)<|WL.nil ?_
 obtain rfl:=oJ h
 refine WX.y58 results115 .nil<|fun w hw=>?_
 exact⟨y7A,(g.trans U),hw.sub (.cons .here .nil)⟩
end Go.Proofs.YthjnhebofpebpaaGreat
