/- A part of this claim's proof: models of functions, walks, plain laws. No conditions. -/
import Derived.Test.YthjnhebofpebpaaGreatZShort
import Derived.Test.YthjnhebofpebpaaGreatZMem
import Derived.Test.YthjnhebofpebpaaGreatShelf36
import Derived.Test.YthjnhebofpebpaaGreatProg
set_option linter.all false
namespace Go.Proofs.YthjnhebofpebpaaGreat
open Go Go.RowKit Sep Tryz
set_option maxRecDepth 30000
set_option maxHeartbeats 4000000
abbrev RC (f:FuncId)(vs:Array Value)(w₀:World)(v:Value)(F:List Nat)(L:List Asrt):Prop:=Calls Tryz.prog f vs w₀ fun e w'=>e=.returned v/\Hp F w₀ w' L
abbrev RF (f:FuncId)(vs:Array Value)(w₀:World)(v:Value)(M L:List Asrt):Prop:=Calls Tryz.prog f vs w₀ fun e w'=>e=.returned v/\Hp (fps M) w₀ w' L
abbrev Pz (M:List Asrt)(w₀:World)(Z:Zp):Prop:=PZ (fps M) w₀ Z
abbrev Ho (w₀:World)(M:List Asrt):Prop:=Hp (fps M) w₀ w₀ M

structure yI where
 ys:ByteArray
 xi:Int
 fOut:Bool
 yQ:Int
 xd:Int
 yO:Int
 deriving Inhabited,DecidableEq
structure yK where
 fOp:Int
 fA:Int
 fB:Int
 fC:Int
 deriving Inhabited,DecidableEq
structure yH where
 ys:ByteArray
 xg:Int
 yL:Int
 xc:Int
 yM:List yK
 deriving Inhabited,DecidableEq
structure yG where
 ys:ByteArray
 yL:Int
 yX:Int
 yN:Int
 yS:List Int
 yW:Int
 yV:Int
 yY:List Int
 fP:List yI
 yT:List yH
 deriving Inhabited,DecidableEq
structure yt where
 ys:ByteArray
 yN:Int
 xa:Int
 yR:List yG
 deriving Inhabited,DecidableEq
structure yf where
 yq:ByteArray
 yu:ByteArray
 yv:ByteArray
 deriving Inhabited,DecidableEq
structure yA where
 yk:yf
 yy:List yf
 deriving Inhabited,DecidableEq
structure yw where
 ys:ByteArray
 yD:Int
 yj:Int
 fT:Int
 deriving Inhabited,DecidableEq
structure yx where
 fA:ByteArray
 fB:ByteArray
 yD:Int
 yp:Int
 deriving Inhabited,DecidableEq
structure z6 where
 ys:ByteArray
 yk:yf
 yr:Int
 yo:Int
 yy:List yf
 deriving Inhabited,DecidableEq
structure yF where
 yq:ByteArray
 yu:ByteArray
 xb:Int
 yZ:Int
 fDo:Int
 deriving Inhabited,DecidableEq
structure yE where
 xf:ByteArray
 yM:Int
 deriving Inhabited,DecidableEq
structure yC where
 xf:ByteArray
 yP:List yE
 yU:List ByteArray
 deriving Inhabited,DecidableEq
structure yB where
 fA:ByteArray
 fVA:Int
 fB:ByteArray
 fVB:Int
 deriving Inhabited,DecidableEq
structure zt where
 fM:List yt
 yd:List yA
 fS:List yw
 fK:List yx
 yb:List z6
 fH:List yF
 fU:List yC
 yc:List yB
 deriving Inhabited,DecidableEq
def e3(x:Int):List Value:=[vi x]
theorem Vl:∀ x,∀ u∈e3 x,u.oneCell'=true:=fun _=>iH rfl
def nX(x:yI):List Value:=[.string x.ys,.int .u8 x.xi,.bool x.fOut,vi x.yQ,vi x.xd,vi x.yO]
def nY(x:yK):List Value:=[.int .u8 x.fOp,vi x.fA,vi x.fB,vi x.fC]
def ec(Z:Zp)(r:List Value)(x:yH):Prop:=∃(kd:Option Addr) (fx:Nat),r=[.string x.ys,vi x.xg,vi x.yL,vi x.xc,vs kd x.yM.length fx]/\ZS Z 4 (rq nY) kd fx x.yM
theorem XU{Z Z':Zp}(k:xm Z Z'){r:List Value}{x:yH}(h:ec Z r x):ec Z' r x:=by
 obtain⟨kd,fx,hr,h0⟩:=h
 exact⟨kd,fx,hr,h0.mono k⟩
def ee(Z:Zp)(r:List Value)(x:yG):Prop:=∃(kd:Option Addr) (fx:Nat) (Bn:Option Addr) (zy:Nat) (Ci:Option Addr) (Ao:Nat) (CZ:Option Addr) (AN:Nat),r=[.string x.ys,vi x.yL,vi x.yX,vi x.yN,vs kd x.yS.length fx,vi x.yW,vi x.yV,vs Bn x.yY.length zy,vs Ci x.fP.length Ao,vs CZ x.yT.length AN]/\ZS Z 1 (rq e3) kd fx x.yS/\ZS Z 1 (rq e3) Bn zy x.yY/\ZS Z 6 (rq nX) Ci Ao x.fP/\ZS Z 5 (ec Z) CZ AN x.yT
theorem XV{Z Z':Zp}(k:xm Z Z'){r:List Value}{x:yG}(h:ee Z r x):ee Z' r x:=by
 obtain⟨kd,fx,Bn,zy,Ci,Ao,CZ,AN,hr,h0,h1,h2,h3⟩:=h
 exact⟨kd,fx,Bn,zy,Ci,Ao,CZ,AN,hr,h0.mono k,h1.mono k,h2.mono k,(h3.mono k).weak (fun _ _ h=>XU k h)⟩
def ju(Z:Zp)(r:List Value)(x:yt):Prop:=∃(kd:Option Addr) (fx:Nat),r=[.string x.ys,vi x.yN,vi x.xa,vs kd x.yR.length fx]/\ZS Z 10 (ee Z) kd fx x.yR
theorem w3{Z Z':Zp}(k:xm Z Z'){r:List Value}{x:yt}(h:ju Z r x):ju Z' r x:=by
 obtain⟨kd,fx,hr,h0⟩:=h
 exact⟨kd,fx,hr,(h0.mono k).weak (fun _ _ h=>XV k h)⟩
def oA(x:yf):List Value:=[.string x.yq,.string x.yu,.string x.yv]
def kv(Z:Zp)(r:List Value)(x:yA):Prop:=∃(kd:Option Addr) (fx:Nat),r=[.string x.yk.yq,.string x.yk.yu,.string x.yk.yv,vs kd x.yy.length fx]/\ZS Z 3 (rq oA) kd fx x.yy
theorem w9{Z Z':Zp}(k:xm Z Z'){r:List Value}{x:yA}(h:kv Z r x):kv Z' r x:=by
 obtain⟨kd,fx,hr,h0⟩:=h
 exact⟨kd,fx,hr,h0.mono k⟩
def qJ(x:yw):List Value:=[.string x.ys,vi x.yD,vi x.yj,vi x.fT]
def qt(x:yx):List Value:=[.string x.fA,.string x.fB,vi x.yD,vi x.yp]
def vK(Z:Zp)(r:List Value)(x:z6):Prop:=∃(kd:Option Addr) (fx:Nat),r=[.string x.ys,.string x.yk.yq,.string x.yk.yu,.string x.yk.yv,vi x.yr,vi x.yo,vs kd x.yy.length fx]/\ZS Z 3 (rq oA) kd fx x.yy
theorem wh{Z Z':Zp}(k:xm Z Z'){r:List Value}{x:z6}(h:vK Z r x):vK Z' r x:=by
 obtain⟨kd,fx,hr,h0⟩:=h
 exact⟨kd,fx,hr,h0.mono k⟩
theorem Q9{Z:Zp}{r:List Value}{x:z6}(h:vK Z r x):∀ u∈r,u.oneCell'=true:=by
 obtain⟨kd,fx,hr,h0⟩:=h
 rw[hr];exact iH U
def kK(x:yF):List Value:=[.string x.yq,.string x.yu,.int .u8 x.xb,.int .u8 x.yZ,.int .u8 x.fDo]
def nZ(x:yE):List Value:=[.string x.xf,vi x.yM]
def e9(x:ByteArray):List Value:=[.string x]
def kw(Z:Zp)(r:List Value)(x:yC):Prop:=∃(kd:Option Addr) (fx:Nat) (Bn:Option Addr) (zy:Nat),r=[.string x.xf,vs kd x.yP.length fx,vs Bn x.yU.length zy]/\ZS Z 2 (rq nZ) kd fx x.yP/\ZS Z 1 (rq e9) Bn zy x.yU
theorem wa{Z Z':Zp}(k:xm Z Z'){r:List Value}{x:yC}(h:kw Z r x):kw Z' r x:=by
 obtain⟨kd,fx,Bn,zy,hr,h0,h1⟩:=h
 exact⟨kd,fx,Bn,zy,hr,h0.mono k,h1.mono k⟩
def kL(x:yB):List Value:=[.string x.fA,vi x.fVA,.string x.fB,vi x.fVB]
structure zd where
 ya:Int
 yh:Int
 fQ:Int
 deriving Inhabited,DecidableEq
def gk(x:zd):List Value:=[vi x.ya,vi x.yh,vi x.fQ]
def wT(Z:Zp)(r:List Value)(x:List zd):Prop:=∃(kd:Option Addr) (fx:Nat),r=[vs kd x.length fx]/\ZS Z 3 (rq gk) kd fx x
theorem wd{Z Z':Zp}(k:xm Z Z'){r:List Value}{x:List zd}(h:wT Z r x):wT Z' r x:=by
 obtain⟨kd,fx,hr,h0⟩:=h
 exact⟨kd,fx,hr,h0.mono k⟩
structure S7 where
 fX:Int
 fY:Int
 fSigned:Bool
 yM:Int
 deriving Inhabited,DecidableEq
structure S13 where
 fMsg:ByteArray
 fAddr:Int
 deriving Inhabited,DecidableEq
structure za where
 ya:Int
 fQ:Int
 deriving Inhabited,DecidableEq
structure yl where
 ya:Int
 fQ:Int
 yj:Int
 fT:Int
 deriving Inhabited,DecidableEq
structure zo where
 yJ:Int
 ya:Int
 yj:Int
 deriving Inhabited,DecidableEq
structure yz where
 fP:List yl
 yi:List zo
 deriving Inhabited,DecidableEq
structure S56 where
 a0:Int
 a1:Int
 deriving Inhabited,DecidableEq
structure S70 where
 fC:zt
 fR:List (List zd)
 deriving Inhabited,DecidableEq
structure S82 where
 fSent:Int
 ya:Int
 xj:Int
 deriving Inhabited,DecidableEq
structure S85 where
 xj:Int
 yJ:Int
 yQ:Int
 deriving Inhabited,DecidableEq
def xL(x:za):List Value:=[vi x.ya,vi x.fQ]
theorem oC:∀ x,∀ u∈xL x,u.oneCell'=true:=fun _=>iH rfl
def wP(x:yl):List Value:=[vi x.ya,vi x.fQ,vi x.yj,vi x.fT]
theorem di:∀ x,∀ u∈wP x,u.oneCell'=true:=fun _=>iH rfl
structure zT where
 fVl:Int
 xh:za
 deriving Inhabited,DecidableEq
def qu(x:zT):List Value:=[vi x.fVl,vi x.xh.ya,vi x.xh.fQ]
structure z1 where
 fN:Int
 fD:Int
 deriving Inhabited,DecidableEq
def xG(x:z1):List Value:=[vi x.fN,vi x.fD]
theorem cF:∀ x,∀ u∈xG x,u.oneCell'=true:=fun _=>iH rfl
structure S157 where
 fQ:Int
 yr:Int
 yo:Int
 fJitter:Int
 deriving Inhabited,DecidableEq
structure z8 where
 yg:z1
 ye:z1
 deriving Inhabited,DecidableEq
def vf(x:z8):List Value:=[vi x.yg.fN,vi x.yg.fD,vi x.ye.fN,vi x.ye.fD]
theorem YB:∀ x,∀ u∈vf x,u.oneCell'=true:=fun _=>iH rfl
def qB(Z:Zp)(r:List Value)(x:List z8):Prop:=∃(kd:Option Addr) (fx:Nat),r=[vs kd x.length fx]/\ZS Z 4 (rq vf) kd fx x
theorem jv{Z Z':Zp}(k:xm Z Z'){r:List Value}{x:List z8}(h:qB Z r x):qB Z' r x:=by
 obtain⟨kd,fx,hr,h0⟩:=h
 exact⟨kd,fx,hr,h0.mono k⟩
theorem VB{Z:Zp}{r:List Value}{x:List z8}(h:qB Z r x):∀ u∈r,u.oneCell'=true:=by
 obtain⟨kd,fx,hr,h0⟩:=h
 rw[hr];exact iH U
structure yn where
 ye:z1
 fL:z1
 deriving Inhabited,DecidableEq
structure ym where
 fE:Int
 deriving Inhabited,DecidableEq
structure S187 where
 xj:Int
 fIn_:Int
 fVl:Int
 fSent:Int
 fHop:zd
 deriving Inhabited,DecidableEq
structure S249 where
 yp:Int
 yj:Int
 fT:Int
 deriving Inhabited,DecidableEq
structure xe where
 yQ:Int
 fFin:Int
 deriving Inhabited,DecidableEq
structure S252 where
 fNumbers:S249
 fNow:Int
 fLast:Int
 fFrames:List xe
 deriving Inhabited,DecidableEq
def e41(x:Int):List Value:=[vi x]
def vC(x:zo):List Value:=[vi x.yJ,vi x.ya,vi x.yj]
theorem aa:∀ x,∀ u∈vC x,u.oneCell'=true:=fun _=>iH rfl
def vo(x:za):List Value:=[vi x.ya,vi x.fQ]
def ff(Z:Zp)(r:List Value)(x:Int->Option Int):Prop:=∃(Bd:FuncId) (AW:List Value),r=[.func (.func Bd) #[] (AW).toArray]/\(∀ args w,(callFunc Bd args).run Tryz.prog w = .ok (.enter Bd args) w)/\∀ w:World,PZ [] w Z->∀(x0:Int) (r:Int),x x0=some r->Calls Tryz.prog Bd (([vi x0]:List Value)++AW).toArray w fun e w'=>e = .returned (vi r)/\Hp [] w w' []
theorem fo{Z Z':Zp}(k:xm Z Z'){r:List Value}{x:Int->Option Int}(h:ff Z r x):ff Z' r x:=by
 obtain⟨Bd,AW,h1,h2,h3⟩:=h
 exact⟨Bd,AW,h1,h2,fun w hw=>h3 w (hw.le k)⟩
def iO(Z:Zp)(r:List Value)(x:List Int):Prop:=∃(kd:Option Addr) (fx:Nat),r=[vs kd x.length fx]/\ZS Z 1 (rq e3) kd fx x
theorem ab{Z Z':Zp}(k:xm Z Z'){r:List Value}{x:List Int}(h:iO Z r x):iO Z' r x:=by
 obtain⟨kd,fx,hr,h0⟩:=h
 exact⟨kd,fx,hr,h0.mono k⟩
theorem z2j:mF Tryz.prog 31 8:=gp (i:=Tryz.t31) underlying31 rfl rfl
theorem uc:w4 Tryz.prog 31 0 0:=xO (i:=Tryz.t22) underlying31 rfl rfl (by decide) rfl
theorem zaF:gC Tryz.prog 22:=j4 underlying22 rfl
theorem rZ:w4 Tryz.prog 31 2 2:=xO (i:=Tryz.t24) underlying31 rfl rfl (by decide) rfl
theorem zih:gC Tryz.prog 24:=j4 underlying24 rfl
theorem uT:w4 Tryz.prog 31 3 3:=xO (i:=Tryz.t25) underlying31 rfl rfl (by decide) rfl
theorem zbZ:gC Tryz.prog 25:=j4 underlying25 rfl
theorem jK:w4 Tryz.prog 31 4 4:=xO (i:=Tryz.t26) underlying31 rfl rfl (by decide) rfl
theorem z6n:gC Tryz.prog 26:=j4 underlying26 rfl
theorem z4O:elT Tryz.prog 32 58 1 24:=⟨underlying32,⟨Tryz.t58,_,rfl,rfl,rfl,rfl,rfl⟩,by decide⟩
theorem z9h:gC Tryz.prog 58:=j4 underlying58 rfl
theorem zlK:qc Tryz.prog 31 (.agg #[vn,vn,vn,vn,vn,vn,vn,vn]):=vS (i:=Tryz.t31) rfl rfl
theorem zAx:elT Tryz.prog 22 126 4 56:=⟨underlying22,⟨Tryz.t126,_,rfl,rfl,rfl,rfl,rfl⟩,by decide⟩
theorem zlL:elT Tryz.prog 24 64 4 40:=⟨underlying24,⟨Tryz.t64,_,rfl,rfl,rfl,rfl,rfl⟩,by decide⟩
theorem zga:elT Tryz.prog 25 62 4 48:=⟨underlying25,⟨Tryz.t62,_,rfl,rfl,rfl,rfl,rfl⟩,by decide⟩
theorem z75:elT Tryz.prog 26 69 7 104:=⟨underlying26,⟨Tryz.t69,_,rfl,rfl,rfl,rfl,rfl⟩,by decide⟩
theorem zlM:kP Tryz.prog 31 8:=qi (i:=Tryz.t31) rfl
theorem z8e:elT Tryz.prog 58 60 3 24:=⟨underlying58,⟨Tryz.t60,_,rfl,rfl,rfl,rfl,rfl⟩,by decide⟩
theorem z6o:qc Tryz.prog 40 (.agg #[vn,vn]):=vS (i:=Tryz.t40) rfl rfl
theorem xB:gC Tryz.prog 3:=j4 underlying3 rfl
theorem z5R:mF Tryz.prog 60 3:=gp (i:=Tryz.t60) underlying60 rfl rfl
theorem zc0:qc Tryz.prog 60 (.agg #[vi 0,vi 0,vi 0]):=vS (i:=Tryz.t60) rfl rfl
theorem zaG:kP Tryz.prog 60 3:=qi (i:=Tryz.t60) rfl
theorem km:w4 Tryz.prog 60 0 0:=xO (i:=Tryz.t3) underlying60 rfl rfl (by decide) rfl
theorem qk:qc Tryz.prog 3 (vi 0):=vS (i:=Tryz.t3) rfl rfl
theorem jR:KeyT Tryz.prog 3 vI:=WI underlying3
theorem gR:w4 Tryz.prog 60 1 1:=xO (i:=Tryz.t3) underlying60 rfl rfl (by decide) rfl
theorem tJ:w4 Tryz.prog 60 2 2:=xO (i:=Tryz.t3) underlying60 rfl rfl (by decide) rfl
theorem zJ2:mF Tryz.prog 62 4:=gp (i:=Tryz.t62) underlying62 rfl rfl
theorem zJ3:qc Tryz.prog 62 (.agg #[.string ⟨#[]⟩,.string ⟨#[]⟩,vi 0,vi 0]):=vS (i:=Tryz.t62) rfl rfl
theorem zJ4:kP Tryz.prog 62 4:=qi (i:=Tryz.t62) rfl
theorem VD:w4 Tryz.prog 62 0 0:=xO (i:=Tryz.t9) underlying62 rfl rfl (by decide) rfl
theorem dj:gC Tryz.prog 9:=j4 underlying9 rfl
theorem WQ:w4 Tryz.prog 126 0 0:=xO (i:=Tryz.t9) underlying126 rfl rfl (by decide) rfl
theorem VF:w4 Tryz.prog 64 0 0:=xO (i:=Tryz.t9) underlying64 rfl rfl (by decide) rfl
theorem VG:w4 Tryz.prog 62 1 1:=xO (i:=Tryz.t9) underlying62 rfl rfl (by decide) rfl
theorem VH:w4 Tryz.prog 62 2 2:=xO (i:=Tryz.t3) underlying62 rfl rfl (by decide) rfl
theorem sD:w4 Tryz.prog 62 3 3:=xO (i:=Tryz.t3) underlying62 rfl rfl (by decide) rfl
theorem zJ5:mF Tryz.prog 64 4:=gp (i:=Tryz.t64) underlying64 rfl rfl
theorem zJ6:qc Tryz.prog 64 (.agg #[.string ⟨#[]⟩,vi 0,vi 0,vi 0]):=vS (i:=Tryz.t64) rfl rfl
theorem zJ7:kP Tryz.prog 64 4:=qi (i:=Tryz.t64) rfl
theorem VI:w4 Tryz.prog 64 1 1:=xO (i:=Tryz.t3) underlying64 rfl rfl (by decide) rfl
theorem cG:w4 Tryz.prog 64 2 2:=xO (i:=Tryz.t3) underlying64 rfl rfl (by decide) rfl
theorem YC:w4 Tryz.prog 64 3 3:=xO (i:=Tryz.t3) underlying64 rfl rfl (by decide) rfl
theorem zlN:qc Tryz.prog 121 (.agg #[vi 0,vi 0]):=vS (i:=Tryz.t121) rfl rfl
theorem zoZ:kP Tryz.prog 121 2:=qi (i:=Tryz.t121) rfl
theorem z6p:mF Tryz.prog 121 2:=gp (i:=Tryz.t121) underlying121 rfl rfl
theorem z8f:elT Tryz.prog 112 121 2 16:=⟨underlying112,⟨Tryz.t121,_,rfl,rfl,rfl,rfl,rfl⟩,by decide⟩
theorem zp0:EqT Tryz.prog 121 xL:=⟨fun u v w=>by
 have c:=fun(w:World) (a b:Array Value)=>run_equalIn_agg (P:=Tryz.prog) w 9999 121 a b (by simp[Program.fieldsOf,underlying121]) (by kernel_rfl)
 have d:=fun(w:World) (a b:Int)=>run_equalIn_int (P:=Tryz.prog) w 9998 3 .i64 .i64 a b underlying3
 rw[c]
 simp[Program.fieldsOf,Op.eqFields,part,xL,c,underlying121,d]
 rcases u with⟨u1,u2⟩
 rcases v with⟨v1,v2⟩
 by_cases h1:u1=v1 <;> by_cases h2:u2=v2 <;> simp[h1,h2],by kernel_rfl⟩
theorem sE:w4 Tryz.prog 121 0 0:=xO (i:=Tryz.t3) underlying121 rfl rfl (by decide) rfl
theorem ph:w4 Tryz.prog 121 1 1:=xO (i:=Tryz.t3) underlying121 rfl rfl (by decide) rfl
theorem z8g:elT Tryz.prog 50 3 1 8:=⟨underlying50,⟨Tryz.t3,_,rfl,rfl,rfl,rfl,rfl⟩,by decide⟩
theorem zJ8:qc Tryz.prog 117 (.map none):=vS (i:=Tryz.t117) rfl rfl
theorem zJ9:kP Tryz.prog 117 1:=qi (i:=Tryz.t117) rfl
theorem zlO:gC Tryz.prog 117:=j4 underlying117 rfl
theorem ze3:KeyT Tryz.prog 121 (ga xL):=bG underlying121 (fun _ _=>rfl) (fun b k w=>by
 have c:=fun(w:World) (a:Int)=>MapKept.run_checkKey (P:=Tryz.prog) (w:=w) (kt:=3) (k:=.int .i64 a) underlying3 (by simp[MapKept.IsKey]) b 9998
 have ck:∀(w:World) (u0:Int) (u1:Int),(Instr.checkKey b 10000 121 (.agg #[.int .i64 u0,.int .i64 u1])).run Tryz.prog w = .ok () w:=fun w u0 u1=>by
  rw[show(10000:Nat)=9999+1 from U,Instr.checkKey]
  simp[run_underlying underlying121,c,part]
 exact ck w k.ya k.fQ)
 (fun u v w=>zp0.eq u v w)
 (fun k=>by simp[Instr.sameBits,xL])
theorem z8h:elT Tryz.prog 33 37 4 32:=⟨underlying33,⟨Tryz.t37,_,rfl,rfl,rfl,rfl,rfl⟩,by decide⟩
theorem z6q:kP Tryz.prog 40 2:=qi (i:=Tryz.t40) rfl
theorem z8i:mF Tryz.prog 40 2:=gp (i:=Tryz.t40) underlying40 rfl rfl
theorem oD:w4 Tryz.prog 69 2 4:=xO (i:=Tryz.t3) underlying69 rfl rfl (by decide) rfl
theorem fj:w4 Tryz.prog 69 3 5:=xO (i:=Tryz.t3) underlying69 rfl rfl (by decide) rfl
theorem zsQ:mF Tryz.prog 69 7:=gp (i:=Tryz.t69) underlying69 rfl rfl
theorem g9:w4 Tryz.prog 40 0 0:=xO (i:=Tryz.t33) underlying40 rfl rfl (by decide) rfl
theorem z7H:gC Tryz.prog 33:=j4 underlying33 rfl
theorem zii:qc Tryz.prog 37 (.agg #[vi 0,vi 0,vi 0,vi 0]):=vS (i:=Tryz.t37) rfl rfl
theorem WR:w4 Tryz.prog 119 1 8:=xO (i:=Tryz.t32) underlying119 rfl rfl (by decide) rfl
theorem zJa:gC Tryz.prog 32:=j4 underlying32 rfl
theorem md:w4 Tryz.prog 119 0 0:=xO (i:=Tryz.t31) underlying119 rfl rfl (by decide) rfl
theorem z1d:qc Tryz.prog 175 (.agg #[vi 0,vi 0]):=vS (i:=Tryz.t175) rfl rfl
theorem zI:kP Tryz.prog 175 2:=qi (i:=Tryz.t175) rfl
theorem zi:mF Tryz.prog 175 2:=gp (i:=Tryz.t175) underlying175 rfl rfl
theorem bI:w4 Tryz.prog 119 2 9:=xO (i:=Tryz.t116) underlying119 rfl rfl (by decide) rfl
theorem zsR:gC Tryz.prog 116:=j4 underlying116 rfl
theorem zJb:EqT Tryz.prog 223 qu:=⟨fun u v w=>by
 have c:=fun(w:World) (a b:Array Value)=>run_equalIn_agg (P:=Tryz.prog) w 9999 223 a b (by simp[Program.fieldsOf,underlying223]) (by kernel_rfl)
 have d:=fun(w:World) (a b:Int)=>run_equalIn_int (P:=Tryz.prog) w 9998 3 .i64 .i64 a b underlying3
 have e:=fun(w:World) (a b:Array Value)=>run_equalIn_agg (P:=Tryz.prog) w 9998 121 a b (by simp[Program.fieldsOf,underlying121]) (by kernel_rfl)
 have f:=fun(w:World) (a b:Int)=>run_equalIn_int (P:=Tryz.prog) w 9997 3 .i64 .i64 a b underlying3
 rw[c]
 simp[Program.fieldsOf,Op.eqFields,part,qu,c,underlying223,d,e,underlying121,f]
 rcases u with⟨u1,⟨u2,u3⟩⟩
 rcases v with⟨v1,⟨v2,v3⟩⟩
 by_cases h1:u1=v1 <;> by_cases h2:u2=v2 <;> by_cases h3:u3=v3 <;> simp[h1,h2,h3],by kernel_rfl⟩
theorem zsT:KeyT Tryz.prog 223 (ga qu):=bG underlying223 (fun _ _=>rfl) (fun b k w=>by
 have c:=fun(w:World) (a:Int)=>MapKept.run_checkKey (P:=Tryz.prog) (w:=w) (kt:=3) (k:=.int .i64 a) underlying3 (by simp[MapKept.IsKey]) b 9998
 have d:=fun(w:World) (a:Int)=>MapKept.run_checkKey (P:=Tryz.prog) (w:=w) (kt:=3) (k:=.int .i64 a) underlying3 (by simp[MapKept.IsKey]) b 9997
 have e:∀(w:World) (u0:Int) (u1:Int),(Instr.checkKey b 9999 121 (.agg #[.int .i64 u0,.int .i64 u1])).run Tryz.prog w = .ok () w:=fun w u0 u1=>by
  rw[show(9999:Nat)=9998+1 from U,Instr.checkKey]
  simp[run_underlying underlying121,d,part]
 have ck:∀(w:World) (u0:Int) (u1:Int) (u2:Int),(Instr.checkKey b 10000 223 (.agg #[.int .i64 u0,.int .i64 u1,.int .i64 u2])).run Tryz.prog w = .ok () w:=fun w u0 u1 u2=>by
  rw[show(10000:Nat)=9999+1 from U,Instr.checkKey]
  simp[run_underlying underlying223,c,e,part]
 exact ck w k.fVl k.xh.ya k.xh.fQ)
 (fun u v w=>zJb.eq u v w)
 (fun k=>by simp[Instr.sameBits,qu])
theorem qh:w4 Tryz.prog 175 0 0:=xO (i:=Tryz.t3) underlying175 rfl rfl (by decide) rfl
theorem uH:kP Tryz.prog 3 1:=qi (i:=Tryz.t3) rfl
theorem bJ:w4 Tryz.prog 119 3 10:=xO (i:=Tryz.t117) underlying119 rfl rfl (by decide) rfl
theorem qR:w4 Tryz.prog 175 1 1:=xO (i:=Tryz.t3) underlying175 rfl rfl (by decide) rfl
theorem ky:KeyT Tryz.prog 9 Value.string:=WH underlying9
theorem zp1:qc Tryz.prog 303 .nilFunc:=vS (i:=Tryz.t303) rfl rfl
theorem sF:w4 Tryz.prog 119 4 11:=xO (i:=Tryz.t41) underlying119 rfl rfl (by decide) rfl
theorem z5S:gC Tryz.prog 41:=j4 underlying41 rfl
theorem zlQ:kP Tryz.prog 41 1:=qi (i:=Tryz.t41) rfl
theorem zsU:qc Tryz.prog 50 vn:=vS (i:=Tryz.t50) rfl rfl
theorem z8J:elT Tryz.prog 227 225 4 32:=⟨underlying227,⟨Tryz.t225,_,rfl,rfl,rfl,rfl,rfl⟩,by decide⟩
theorem zc1:elT Tryz.prog 171 227 1 24:=⟨underlying171,⟨Tryz.t227,_,rfl,rfl,rfl,rfl,rfl⟩,by decide⟩
theorem zc2:qc Tryz.prog 225 (.agg #[vi 0,vi 0,vi 0,vi 0]):=vS (i:=Tryz.t225) rfl rfl
theorem zaH:kP Tryz.prog 225 4:=qi (i:=Tryz.t225) rfl
theorem gD:w4 Tryz.prog 225 0 0:=xO (i:=Tryz.t175) underlying225 rfl rfl (by decide) rfl
theorem me:w4 Tryz.prog 225 1 2:=xO (i:=Tryz.t175) underlying225 rfl rfl (by decide) rfl
theorem z40:mF Tryz.prog 225 4:=gp (i:=Tryz.t225) underlying225 rfl rfl
theorem zJf:qc Tryz.prog 178 (.agg #[vi 0,vi 0,vi 0,vi 0]):=vS (i:=Tryz.t178) rfl rfl
theorem zJg:kP Tryz.prog 178 4:=qi (i:=Tryz.t178) rfl
theorem zlR:mF Tryz.prog 178 4:=gp (i:=Tryz.t178) underlying178 rfl rfl
theorem ze4:gC Tryz.prog 171:=j4 underlying171 rfl
theorem zAA:qc Tryz.prog 231 (.agg #[vn,vi 0,vi 0,vi 0,vi 0,.nilFunc,vn]):=vS (i:=Tryz.t231) rfl rfl
theorem zAB:kP Tryz.prog 231 7:=qi (i:=Tryz.t231) rfl
theorem ll:w4 Tryz.prog 231 2 5:=xO (i:=Tryz.t228) underlying231 rfl rfl (by decide) rfl
theorem zAC:kP Tryz.prog 228 1:=qi (i:=Tryz.t228) rfl
theorem zij:mF Tryz.prog 231 7:=gp (i:=Tryz.t231) underlying231 rfl rfl
theorem lm:w4 Tryz.prog 231 0 0:=xO (i:=Tryz.t171) underlying231 rfl rfl (by decide) rfl
theorem zik:gC Tryz.prog 227:=j4 underlying227 rfl
theorem ad:w4 Tryz.prog 231 1 1:=xO (i:=Tryz.t178) underlying231 rfl rfl (by decide) rfl
theorem pj:w4 Tryz.prog 178 0 0:=xO (i:=Tryz.t175) underlying178 rfl rfl (by decide) rfl
theorem sG:w4 Tryz.prog 178 1 2:=xO (i:=Tryz.t175) underlying178 rfl rfl (by decide) rfl
theorem zsV:qc Tryz.prog 277 (.agg #[vi 0]):=vS (i:=Tryz.t277) rfl rfl
theorem zAD:qc Tryz.prog 307 (.agg #[vi 0]):=vS (i:=Tryz.t307) rfl rfl
theorem zsW:qc Tryz.prog 229 vn:=vS (i:=Tryz.t229) rfl rfl
theorem zAE:EqT Tryz.prog 225 vf:=⟨fun u v w=>by
 have c:=fun(w:World) (a b:Array Value)=>run_equalIn_agg (P:=Tryz.prog) w 9999 225 a b (by simp[Program.fieldsOf,underlying225]) (by kernel_rfl)
 have d:=fun(w:World) (a b:Array Value)=>run_equalIn_agg (P:=Tryz.prog) w 9998 175 a b (by simp[Program.fieldsOf,underlying175]) (by kernel_rfl)
 have e:=fun(w:World) (a b:Int)=>run_equalIn_int (P:=Tryz.prog) w 9997 3 .i64 .i64 a b underlying3
 rw[c]
 simp[Program.fieldsOf,Op.eqFields,part,vf,c,underlying225,d,underlying175,e]
 rcases u with⟨⟨u1,u2⟩,⟨u3,u4⟩⟩
 rcases v with⟨⟨v1,v2⟩,⟨v3,v4⟩⟩
 by_cases h1:u1=v1 <;> by_cases h2:u2=v2 <;> by_cases h3:u3=v3 <;> by_cases h4:u4=v4 <;> simp[h1,h2,h3,h4],by kernel_rfl⟩
theorem zaI:gC Tryz.prog 229:=j4 underlying229 rfl
theorem sH:w4 Tryz.prog 307 0 0:=xO (i:=Tryz.t41) underlying307 rfl rfl (by decide) rfl
theorem z3K:elT Tryz.prog 229 175 2 16:=⟨underlying229,⟨Tryz.t175,_,rfl,rfl,rfl,rfl,rfl⟩,by decide⟩
theorem zsX:kP Tryz.prog 229 1:=qi (i:=Tryz.t229) rfl
theorem zAG:EqT Tryz.prog 175 xG:=⟨fun u v w=>by
 have c:=fun(w:World) (a b:Array Value)=>run_equalIn_agg (P:=Tryz.prog) w 9999 175 a b (by simp[Program.fieldsOf,underlying175]) (by kernel_rfl)
 have d:=fun(w:World) (a b:Int)=>run_equalIn_int (P:=Tryz.prog) w 9998 3 .i64 .i64 a b underlying3
 rw[c]
 simp[Program.fieldsOf,Op.eqFields,part,xG,c,underlying175,d]
 rcases u with⟨u1,u2⟩
 rcases v with⟨v1,v2⟩
 by_cases h1:u1=v1 <;> by_cases h2:u2=v2 <;> simp[h1,h2],by kernel_rfl⟩
theorem Xd:WK Tryz.prog 225 1 2 175:=Vv underlying225 rfl rfl rfl
theorem mf:w4 Tryz.prog 277 0 0:=xO (i:=Tryz.t41) underlying277 rfl rfl (by decide) rfl
theorem WT:w4 Tryz.prog 231 3 6:=xO (i:=Tryz.t229) underlying231 rfl rfl (by decide) rfl
theorem zAI:gC Tryz.prog 228:=j4 underlying228 rfl
theorem zAJ:elT Tryz.prog 181 41 1 8:=⟨underlying181,⟨Tryz.t41,_,rfl,rfl,rfl,rfl,rfl⟩,by decide⟩
theorem zgb:kP Tryz.prog 37 4:=qi (i:=Tryz.t37) rfl
theorem zc3:mF Tryz.prog 37 4:=gp (i:=Tryz.t37) underlying37 rfl rfl
theorem zAK:kP Tryz.prog 33 1:=qi (i:=Tryz.t33) rfl
theorem uU:w4 Tryz.prog 37 0 0:=xO (i:=Tryz.t3) underlying37 rfl rfl (by decide) rfl
theorem sI:w4 Tryz.prog 37 1 1:=xO (i:=Tryz.t3) underlying37 rfl rfl (by decide) rfl
theorem oE:w4 Tryz.prog 37 2 2:=xO (i:=Tryz.t3) underlying37 rfl rfl (by decide) rfl
theorem zil:elT Tryz.prog 38 53 3 24:=⟨underlying38,⟨Tryz.t53,_,rfl,rfl,rfl,rfl,rfl⟩,by decide⟩
theorem YD:w4 Tryz.prog 53 1 1:=xO (i:=Tryz.t3) underlying53 rfl rfl (by decide) rfl
theorem tK:w4 Tryz.prog 40 1 1:=xO (i:=Tryz.t38) underlying40 rfl rfl (by decide) rfl
theorem zAL:kP Tryz.prog 38 1:=qi (i:=Tryz.t38) rfl
theorem zJi:qc Tryz.prog 94 (.agg #[vi 0,vi 0]):=vS (i:=Tryz.t94) rfl rfl
theorem zJj:kP Tryz.prog 94 2:=qi (i:=Tryz.t94) rfl
theorem zp2:mF Tryz.prog 94 2:=gp (i:=Tryz.t94) underlying94 rfl rfl
theorem zAM:gC Tryz.prog 140:=j4 underlying140 rfl
theorem zlS:elT Tryz.prog 140 201 1 8:=⟨underlying140,⟨Tryz.t201,_,rfl,rfl,rfl,rfl,rfl⟩,by decide⟩
theorem zJk:gC Tryz.prog 201:=j4 underlying201 rfl
theorem zsY:gC Tryz.prog 148:=j4 underlying148 rfl
theorem zJl:qc Tryz.prog 148 (.map none):=vS (i:=Tryz.t148) rfl rfl
theorem zJm:kP Tryz.prog 148 1:=qi (i:=Tryz.t148) rfl
theorem zAN:EqT Tryz.prog 94 vo:=⟨fun u v w=>by
 have c:=fun(w:World) (a b:Array Value)=>run_equalIn_agg (P:=Tryz.prog) w 9999 94 a b (by simp[Program.fieldsOf,underlying94]) (by kernel_rfl)
 have d:=fun(w:World) (a b:Int)=>run_equalIn_int (P:=Tryz.prog) w 9998 3 .i64 .i64 a b underlying3
 rw[c]
 simp[Program.fieldsOf,Op.eqFields,part,vo,c,underlying94,d]
 rcases u with⟨u1,u2⟩
 rcases v with⟨v1,v2⟩
 by_cases h1:u1=v1 <;> by_cases h2:u2=v2 <;> simp[h1,h2],by kernel_rfl⟩
theorem zsZ:KeyT Tryz.prog 94 (ga vo):=bG underlying94 (fun _ _=>rfl) (fun b k w=>by
 have c:=fun(w:World) (a:Int)=>MapKept.run_checkKey (P:=Tryz.prog) (w:=w) (kt:=3) (k:=.int .i64 a) underlying3 (by simp[MapKept.IsKey]) b 9998
 have ck:∀(w:World) (u0:Int) (u1:Int),(Instr.checkKey b 10000 94 (.agg #[.int .i64 u0,.int .i64 u1])).run Tryz.prog w = .ok () w:=fun w u0 u1=>by
  rw[show(10000:Nat)=9999+1 from U,Instr.checkKey]
  simp[run_underlying underlying94,c,part]
 exact ck w k.ya k.fQ)
 (fun u v w=>zAN.eq u v w)
 (fun k=>by simp[Instr.sameBits,vo])
theorem zim:qc Tryz.prog 69 (.agg #[.string ⟨#[]⟩,.string ⟨#[]⟩,.string ⟨#[]⟩,.string ⟨#[]⟩,vi 0,vi 0,vn]):=vS (i:=Tryz.t69) rfl rfl
theorem zAP:kP Tryz.prog 69 7:=qi (i:=Tryz.t69) rfl
theorem eh:w4 Tryz.prog 94 0 0:=xO (i:=Tryz.t3) underlying94 rfl rfl (by decide) rfl
theorem zAQ:qc Tryz.prog 140 vn:=vS (i:=Tryz.t140) rfl rfl
theorem zJn:kP Tryz.prog 140 1:=qi (i:=Tryz.t140) rfl
theorem YF:w4 Tryz.prog 94 1 1:=xO (i:=Tryz.t3) underlying94 rfl rfl (by decide) rfl
theorem cH:w4 Tryz.prog 37 3 3:=xO (i:=Tryz.t3) underlying37 rfl rfl (by decide) rfl
theorem zJo:qc Tryz.prog 92 (.map none):=vS (i:=Tryz.t92) rfl rfl
theorem zJp:kP Tryz.prog 92 1:=qi (i:=Tryz.t92) rfl
theorem zAR:gC Tryz.prog 92:=j4 underlying92 rfl
theorem zt0:elT Tryz.prog 46 50 1 24:=⟨underlying46,⟨Tryz.t50,_,rfl,rfl,rfl,rfl,rfl⟩,by decide⟩
theorem zin:gC Tryz.prog 38:=j4 underlying38 rfl
theorem zJq:EqT Tryz.prog 37 wP:=⟨fun u v w=>by
 have c:=fun(w:World) (a b:Array Value)=>run_equalIn_agg (P:=Tryz.prog) w 9999 37 a b (by simp[Program.fieldsOf,underlying37]) (by kernel_rfl)
 have d:=fun(w:World) (a b:Int)=>run_equalIn_int (P:=Tryz.prog) w 9998 3 .i64 .i64 a b underlying3
 rw[c]
 simp[Program.fieldsOf,Op.eqFields,part,wP,c,underlying37,d]
 rcases u with⟨u1,u2,u3,u4⟩
 rcases v with⟨v1,v2,v3,v4⟩
 by_cases h1:u1=v1 <;> by_cases h2:u2=v2 <;> by_cases h3:u3=v3 <;> by_cases h4:u4=v4 <;> simp[h1,h2,h3,h4],by kernel_rfl⟩
theorem zAT:mF Tryz.prog 53 3:=gp (i:=Tryz.t53) underlying53 rfl rfl
theorem zJr:EqT Tryz.prog 53 vC:=⟨fun u v w=>by
 have c:=fun(w:World) (a b:Array Value)=>run_equalIn_agg (P:=Tryz.prog) w 9999 53 a b (by simp[Program.fieldsOf,underlying53]) (by kernel_rfl)
 have d:=fun(w:World) (a b:Int)=>run_equalIn_int (P:=Tryz.prog) w 9998 3 .i64 .i64 a b underlying3
 rw[c]
 simp[Program.fieldsOf,Op.eqFields,part,vC,c,underlying53,d]
 rcases u with⟨u1,u2,u3⟩
 rcases v with⟨v1,v2,v3⟩
 by_cases h1:u1=v1 <;> by_cases h2:u2=v2 <;> by_cases h3:u3=v3 <;> simp[h1,h2,h3],by kernel_rfl⟩
theorem zJs:gC Tryz.prog 50:=j4 underlying50 rfl
theorem zAV:kP Tryz.prog 26 1:=qi (i:=Tryz.t26) rfl
def gb(b:List (List zd))(c:Option Bool):Nat->Int->Option Bool
 | 0,_=>none
 | d+1,a=>if decide (a<b.length) then chk (0<=a/\a<b.length) (if decide (((nth b a).length:Int)>40) then some false else gb b c d (i64 (a+1))) else c
def tn(a:zt)(b:List (List zd)):Option Bool:=
 if ((((decide ((a.fM.length:Int)>8))||(decide ((a.fS.length:Int)>8)))||(decide ((a.fK.length:Int)>20)))||(decide ((a.yb.length:Int)>20)))||(decide ((b.length:Int)>20)) then some false else mh (some true) fun c=>gb b c xI 0
theorem Yj(Z:Zp)(e:Option Addr)(f:Nat)(g:Option Addr)(i:Nat)(j:Option Addr)(k:Nat)(l:Option Addr)(m:Nat)(n:Option Addr)(o:Nat)(p:Option Addr)(q:Nat)(s:Option Addr)(t:Nat)(u:Option Addr)(v:Nat)(x:Option Addr)(y:Nat)(a:zt)(b:List (List zd))(r:Bool)(h:tn a b=some r)(w₀:World)(hz:PZ [] w₀ Z)(R:ZS Z 4 (ju Z) e f a.fM)(S:ZS Z 4 (kv Z) g i a.yd)(T:ZS Z 4 (rq qJ) j k a.fS)(V:ZS Z 4 (rq qt) l m a.fK)(W:ZS Z 7 (vK Z) n o a.yb)(X:ZS Z 5 (rq kK) p q a.fH)(Y:ZS Z 3 (kw Z) s t a.fU)(aa:ZS Z 4 (rq kL) u v a.yc)(F:ZS Z 1 (wT Z) x y b):
  RC 10 #[.agg #[vs e a.fM.length f,vs g a.yd.length i,vs j a.fS.length k,vs l a.fK.length m,vs n a.yb.length o,vs p a.fH.length q,vs s a.fU.length t,vs u a.yc.length v],vs x b.length y] w₀ (.bool r) [] []:=by
 unfold tn at h
 refine L0 func10 ntmps10 ?_
 refine B0q<|Lg 2 (xP (cs:=[vs e a.fM.length f,vs g a.yd.length i,vs j a.fS.length k,vs l a.fK.length m,vs n a.yb.length o,vs p a.fH.length q,vs s a.fU.length t,vs u a.yc.length v]) U U) ?_
 intro ab _
 let A:=(a.fM.length:Int);let C:=(a.fS.length:Int);refine Q1n U<|WC.b<|B0q<|Le 7 (xk uc U U)<|Le 8 (xl zaF U<|xu .here U)<|Le 9 (xQ underlying22 U)<|Q2q U<|Ly false 4 11 (B:=(decide (A>8))||(decide (C>8))) U U U U U U (fun h=>(uz h).symm) (fun _ G=>?_) ?_
 ·exact Le 12 (xk rZ U U)<|Le 13 (xl zih U<|xu .here U)<|Le 14 (xQ underlying24 U)<|Q2q U<|Lz (uA G) U U .all
 let D:=(a.fK.length:Int);refine La U<|Ly false 4 17 (B:=((decide (A>8))||(decide (C>8)))||(decide (D>20))) U U U U U U (fun h=>(uz h).symm) (fun _ H=>?_) ?_
 ·exact Le 18 (xk uT U U)<|Le 19 (xl zbZ U<|xu .here U)<|Le 20 (xQ underlying25 U)<|Q2q U<|Lz (uA H) U U .all
 let E:=(a.yb.length:Int);refine La U<|Ly false 4 23 (B:=(((decide (A>8))||(decide (C>8)))||(decide (D>20)))||(decide (E>20))) U U U U U U (fun h=>(uz h).symm) (fun _ I=>?_) ?_
 ·exact Le 24 (xk jK U U)<|Le 25 (xl z6n U<|xu .here U)<|Le 26 (xQ underlying26 U)<|Q2q U<|Lz (uA I) U U .all
 refine La U<|Ly false 3 29 (B:=((((decide (A>8))||(decide (C>8)))||(decide (D>20)))||(decide (E>20)))||(decide ((b.length:Int)>20))) U U U U U U (fun h=>(uz h).symm) (fun _ J=>?_) ?_
 ·exact La U<|Le 31 (xQ underlying32 U)<|Q2q U<|Lz (uA J) U U .all
 refine Q0n<|Lj U h (fun K h=>?_)<|fun K h=>?_
 ·refine B1n U<|WC.ret<|Ll ?_
  obtain rfl:=oJ h
  exact Lh results10 (.tmp U .nil)<|fun w hw=>⟨xK U,hw.sub .nil⟩
 ·refine WC.skip<|Lb<|jK0 h fun z L h=>L9 (z=some r) ([]) ([]) ?_ ?_
  ·refine B1q U<|Le 35 (xQ underlying32 U)<|Q1n U<|WC.block<|Ka (fun(d:Nat) (c:Int)=>(gb b z d c=some r)) (fun d c=>[(34,vs x b.length y),(35,vi (b.length:Int)),(36,vi c)]) (fun d c=>[]) (fun d c=>d) ⟨xI,0⟩ h (.q U) .nil ?_
   rintro(_|M) c h;·cases h
   rw[gb] at h
   refine B1n U<|WC.b<|Lj U h (fun N h=>?_)<|fun N h=>?_
   ·refine WC.skip<|Lb<|WC.b<|WC.block<|WC.b<|cK h fun O h=>Ld<|L2 (dd:=38) U U (Z:=Z) (Pr:=(wT Z)) z4O U U F O ?_
    rintro ad ae P af ⟨ag,ah,rfl,ai⟩
    refine Le 39 (xl z9h U<|jS hz.pv P U)<|Q1n U<|B1q U<|Le 41 (xQ underlying58 U)<|Q1n U<|Lj U h (fun Q h=>?_)<|fun Q h=>?_
    ·refine B1n U<|WC.ret<|Lv<|Ll<|Ll<|Lv<|Ll ?_
     obtain rfl:=oJ h
     exact Lh results10 (.tmp U .nil)<|fun w hw=>⟨xK U,hw.sub .nil⟩
    ·exact WC.skip<|Lu<|Lb<|D2q U<|WL.nil<|WX.round ⟨M,i64 (c+1)⟩ h (Nat.lt_succ_self _) (.q U) .nil
   ·exact WC.exit<|Ln<|Ln<|Lx<|Lp () h .nil .nil
  ·rintro  h
   replace h:=L.symm.trans h
   refine B1n U<|WC.ret ?_
   obtain rfl:=oJ h
   exact Lh results10 (.tmp U .nil)<|fun w hw=>⟨xK U,hw.sub .nil⟩
def gv  : Option (zt×List (List zd)):=
 some ((⟨([(⟨⟨#[109]⟩,0,0,[]⟩:yt),(⟨⟨#[110]⟩,0,0,[]⟩:yt)]:List yt),[],([(⟨⟨#[115]⟩,0,16,100⟩:yw)]:List yw),([(⟨⟨#[109]⟩,⟨#[115]⟩,0,1⟩:yx),(⟨⟨#[110]⟩,⟨#[115]⟩,0,1⟩:yx)]:List yx),([(⟨⟨#[]⟩,(⟨⟨#[]⟩,⟨#[]⟩,⟨#[]⟩⟩:yf),200,40,[]⟩:z6)]:List z6),[],[],[]⟩:zt),([([(⟨0,2,0⟩:zd),(⟨2,1,1⟩:zd)]:List zd)]:List (List zd)))
theorem pW(Z:Zp)(r:zt×List (List zd))(h:gv=some r)(w₀:World)(hz:PZ [] w₀ Z):
  Calls Tryz.prog 19 #[] w₀ fun e w'=>∃ Zn:Zp,∃ a:Option Addr,∃ b:List Value,∃ c:Option Addr,∃ d:Nat,∃ f:Option Addr,∃ g:Nat,∃ i:Option Addr,∃ j:Nat,∃ k:Option Addr,∃ m:List Value,∃ n:Option Addr,∃ o:Nat,∃ p:Option Addr,∃ q:Nat,∃ s:Option Addr,∃ t:Nat,∃ u:Option Addr,∃ x:List Value,e = .returned (.tuple #[.agg #[vs a r.1.fM.length r.1.fM.length,vs c r.1.yd.length d,vs f r.1.fS.length g,vs i r.1.fK.length j,vs k r.1.yb.length r.1.yb.length,vs n r.1.fH.length o,vs p r.1.fU.length q,vs s r.1.yc.length t],vs u r.2.length r.2.length])/\((RR 4 (ju (Z++Zn)) b r.1.fM)/\(ZS (Z++Zn) 4 (kv (Z++Zn)) c d r.1.yd)/\(RR 7 (vK (Z++Zn)) m r.1.yb)/\(ZS (Z++Zn) 5 (rq kK) n o r.1.fH)/\(ZS (Z++Zn) 3 (kw (Z++Zn)) p q r.1.fU)/\(ZS (Z++Zn) 4 (rq kL) s t r.1.yc)/\(RR 1 (wT (Z++Zn)) x r.2))/\Hp [] w₀ w' [fz Zn,row (vs a r.1.fM.length r.1.fM.length) 126 4 b,row (vs f r.1.fS.length g) 64 4 (r.1.fS.flatMap qJ),row (vs i r.1.fK.length j) 62 4 (r.1.fK.flatMap qt),row (vs k r.1.yb.length r.1.yb.length) 69 7 m,row (vs u r.2.length r.2.length) 58 1 x]:=by
 unfold gv at h
 refine Calls.on0 func19 ntmps19 ?_
 refine WC.pool<|WC.b<|Ld (Lg 0 (xC (cs:=[vn,vn,vn,vn,vn,vn,vn,vn]) zlK U) fun N _=>Q1n U<|B0q<|Le 3 (xU (v:=(.agg #[.string ⟨#[109]⟩,vi 0,vi 0,vn])) (Lq (l:=[.const (.string ⟨#[109]⟩)]) (.cons U .nil) [0]) (fun _=>by kernel_rfl))<|Le 4 (xU (v:=(.agg #[.string ⟨#[110]⟩,vi 0,vi 0,vn])) (Lq (l:=[.const (.string ⟨#[110]⟩)]) (.cons U .nil) [0]) (fun _=>by kernel_rfl)) ?_)
 let D:List Value:=[.string ⟨#[109]⟩,vi 0,vi 0,vn,.string ⟨#[110]⟩,vi 0,vi 0,vn];have I:RR 4 (ju (Z++[])) D ([(⟨⟨#[109]⟩,0,0,[]⟩:yt),(⟨⟨#[110]⟩,0,0,[]⟩:yt)]:List yt):=(RR.cons (r:=[.string ⟨#[109]⟩,vi 0,vi 0,vn]) U (show ju _ _ _ from⟨_,_,U,ZS.nil _ _ _⟩) (RR.cons (r:=[.string ⟨#[110]⟩,vi 0,vi 0,vn]) U (show ju _ _ _ from⟨_,_,U,ZS.nil _ _ _⟩) (RR.nil _ _)))
 refine Lg 5 (xV (cs:=[.string ⟨#[109]⟩,vi 0,vi 0,vn,.string ⟨#[110]⟩,vi 0,vi 0,vn]) zAx (Lq (l:=[.tmp 3,.tmp 4]) (.r2 U U) [0,1]) (fun _=>by kernel_rfl) U (by unfold maxLen;omega)) fun y _=>Le 6 (xU (v:=(.agg #[.string ⟨#[115]⟩,vi 0,vi 16,vi 100])) (Lq (l:=[.const (.string ⟨#[115]⟩),.const (vi 16),.const (vi 100)]) (.r3 U U U) [0,2,3]) (fun _=>by kernel_rfl)) (Lg 7 (xV (cs:=([(⟨⟨#[115]⟩,0,16,100⟩:yw)]:List yw).flatMap qJ) zlL (Lq (l:=[.tmp 6]) (.cons U .nil) [0]) (fun _=>by kernel_rfl) U (by unfold maxLen;omega)) fun z _=>Le 8 (xU (v:=(.agg #[.string ⟨#[109]⟩,.string ⟨#[115]⟩,vi 0,vi 1])) (Lq (l:=[.const (.string ⟨#[109]⟩),.const (.string ⟨#[115]⟩),.const (vi 1)]) (.r3 U U U) [0,1,3]) (fun _=>by kernel_rfl))<|Le 9 (xU (v:=(.agg #[.string ⟨#[110]⟩,.string ⟨#[115]⟩,vi 0,vi 1])) (Lq (l:=[.const (.string ⟨#[110]⟩),.const (.string ⟨#[115]⟩),.const (vi 1)]) (.r3 U U U) [0,1,3]) (fun _=>by kernel_rfl)) (Lg 10 (xV (cs:=([(⟨⟨#[109]⟩,⟨#[115]⟩,0,1⟩:yx),(⟨⟨#[110]⟩,⟨#[115]⟩,0,1⟩:yx)]:List yx).flatMap qt) zga (Lq (l:=[.tmp 8,.tmp 9]) (.r2 U U) [0,1]) (fun _=>by kernel_rfl) U (by unfold maxLen;omega)) fun B _=>Le 11 (xU (v:=(.agg #[.string ⟨#[]⟩,.string ⟨#[]⟩,.string ⟨#[]⟩,.string ⟨#[]⟩,vi 200,vi 40,vn])) (Lq (l:=[.const (vi 200),.const (vi 40)]) (.r2 U U) [2,3]) (fun _=>by kernel_rfl)) ?_))
 let A:List Value:=[.string ⟨#[]⟩,.string ⟨#[]⟩,.string ⟨#[]⟩,.string ⟨#[]⟩,vi 200,vi 40,vn];have J:RR 7 (vK (Z++[])) A ([(⟨⟨#[]⟩,(⟨⟨#[]⟩,⟨#[]⟩,⟨#[]⟩⟩:yf),200,40,[]⟩:z6)]:List z6):=(RR.cons (r:=A) U (show vK _ _ _ from⟨_,_,U,ZS.nil _ _ _⟩) (RR.nil _ _))
 refine Lg 12 (xV (cs:=[.string ⟨#[]⟩,.string ⟨#[]⟩,.string ⟨#[]⟩,.string ⟨#[]⟩,vi 200,vi 40,vn]) z75 (Lq (l:=[.tmp 11]) (.cons U .nil) [0]) (fun _=>by kernel_rfl) U (by unfold maxLen;omega)) fun E _=>Le 13 (xU (v:=(.agg #[vs (some ⟨y,0,none⟩) (([(⟨⟨#[109]⟩,0,0,[]⟩:yt),(⟨⟨#[110]⟩,0,0,[]⟩:yt)]:List yt).length) 2,vn,vs (some ⟨z,0,none⟩) (([(⟨⟨#[115]⟩,0,16,100⟩:yw)]:List yw).length) 1,vs (some ⟨B,0,none⟩) (([(⟨⟨#[109]⟩,⟨#[115]⟩,0,1⟩:yx),(⟨⟨#[110]⟩,⟨#[115]⟩,0,1⟩:yx)]:List yx).length) 2,vs (some ⟨E,0,none⟩) (([(⟨⟨#[]⟩,(⟨⟨#[]⟩,⟨#[]⟩,⟨#[]⟩⟩:yf),200,40,[]⟩:z6)]:List z6).length) 1,vn,vn,vn])) (Lq (l:=[.tmp 5,.tmp 7,.tmp 10,.tmp 12]) (.r4 U U U U) [0,2,3,4]) (fun _=>by kernel_rfl)) (Lg 2 (xC (cs:=[vn,vn,vn,vn,vn,vn,vn,vn]) zlK U) fun O _=>Lk U U (xx zlM U U U .here U U U)<|Q0n<|B0q<|Le 14 (xq z2j U (xt .here) U)<|Le 15 (xU (v:=(.agg #[vi 0,vi 2,vi 0])) (Lq (l:=[.const (vi 0),.const (vi 2),.const (vi 0)]) (.r3 U U U) [0,1,2]) (fun _=>by kernel_rfl))<|Le 16 (xU (v:=(.agg #[vi 2,vi 1,vi 1])) (Lq (l:=[.const (vi 2),.const (vi 1),.const (vi 1)]) (.r3 U U U) [0,1,2]) (fun _=>by kernel_rfl)) (Lg 17 (xV (cs:=([(⟨0,2,0⟩:zd),(⟨2,1,1⟩:zd)]:List zd).flatMap gk) z8e (Lq (l:=[.tmp 15,.tmp 16]) (.r2 U U) [0,1]) (fun _=>by kernel_rfl) U (by unfold maxLen;omega)) fun F _=>WL.freezeS (ls:=([(⟨0,2,0⟩:zd),(⟨2,1,1⟩:zd)]:List zd)) .here .h6 hz (RR.flat (enc:=gk) (fun _=>U) _) ?_))
 intro G H K
 let C:Value:=(vs (some ⟨F,0,none⟩) (([(⟨0,2,0⟩:zd),(⟨2,1,1⟩:zd)]:List zd).length) 2);have L:RR 1 (wT (Z++G)) [C] ([([(⟨0,2,0⟩:zd),(⟨2,1,1⟩:zd)]:List zd)]:List (List zd)):=(RR.cons (r:=[C]) U (show wT _ _ _ from⟨_,_,U,K⟩) (RR.nil _ _))
 refine Lg 18 (xV (cs:=[vs (some ⟨F,0,none⟩) (([(⟨0,2,0⟩:zd),(⟨2,1,1⟩:zd)]:List zd).length) 2]) z4O (Lq (l:=[.tmp 17]) (.cons U .nil) [0]) (fun _=>by kernel_rfl) U (by unfold maxLen;omega)) fun M _=>Lk U U (xx zlM U U U .h7 U U U)<|Q1n U<|WC.ret ?_
 obtain rfl:=oJ h
 exact Lh results19 (.agg U z2j U (xt .here)<|.tmp U .nil)<|fun w hw=>⟨G,some ⟨y,0,none⟩,D,none,0,some ⟨z,0,none⟩,1,some ⟨B,0,none⟩,2,some ⟨E,0,none⟩,A,none,0,none,0,none,0,some ⟨M,0,none⟩,[C],vg U U,⟨I.weak (fun _ _ h=>w3 H h),ZS.nil _ _ _,J.weak (fun _ _ h=>wh H h),ZS.nil _ _ _,ZS.nil _ _ _,ZS.nil _ _ _,L⟩,hw.sub (.s6 .h2 .h6 .h5 .h4 .h3 .h1)⟩
def ke(a:zt):Option Int:=
 some (i64 ((a.fM.length:Int)+(a.fS.length:Int)))
theorem pX(Z:Zp)(b:Option Addr)(c:Nat)(d:Option Addr)(e:Nat)(f:Option Addr)(g:Nat)(i:Option Addr)(j:Nat)(k:Option Addr)(l:Nat)(m:Option Addr)(n:Nat)(o:Option Addr)(p:Nat)(q:Option Addr)(s:Nat)(a:zt)(r:Int)(h:ke a=some r)(w₀:World)(hz:PZ [] w₀ Z)(t:ZS Z 4 (ju Z) b c a.fM)(u:ZS Z 4 (kv Z) d e a.yd)(v:ZS Z 4 (rq qJ) f g a.fS)(x:ZS Z 4 (rq qt) i j a.fK)(y:ZS Z 7 (vK Z) k l a.yb)(z:ZS Z 5 (rq kK) m n a.fH)(A:ZS Z 3 (kw Z) o p a.fU)(B:ZS Z 4 (rq kL) q s a.yc):
  RC 172 #[.agg #[vs b a.fM.length c,vs d a.yd.length e,vs f a.fS.length g,vs i a.fK.length j,vs k a.yb.length l,vs m a.fH.length n,vs o a.fU.length p,vs q a.yc.length s]] w₀ (vi r) [] []:=by
 unfold ke at h
 refine L7 func172 ntmps172 ?_
 refine WC.b<|Ld (Lg 1 (xP (cs:=[vs b a.fM.length c,vs d a.yd.length e,vs f a.fS.length g,vs i a.fK.length j,vs k a.yb.length l,vs m a.fH.length n,vs o a.fU.length p,vs q a.yc.length s]) U U) fun C _=>Q1n U<|B0q<|Le 3 (xk uc U U)<|Le 4 (xl zaF U<|xu .here U)<|Le 5 (xQ underlying22 U)<|Le 6 (xk rZ U U)<|Le 7 (xl zih U<|xu .here U)<|Le 8 (xQ underlying24 U)<|Q2n U<|WC.ret ?_)
 obtain rfl:=oJ h
 exact Lh results172 (.tmp U .nil)<|fun w hw=>⟨xK U,hw.sub .nil⟩
def kz(a:zt)(b:Int):Option ByteArray:=
 (if decide (b<0) then some true else(ke a).bind fun c=>some (decide (b>=c))).bind fun d=>if d then some ⟨#[]⟩ else if decide (b<a.fM.length) then chk (0<=b/\b<a.fM.length) (some ((nth a.fM b).ys)) else chk (0<=(i64 (b-(a.fM.length:Int)))/\(i64 (b-(a.fM.length:Int)))<a.fS.length) (some ((nth a.fS (i64 (b-(a.fM.length:Int)))).ys))
theorem ei(Z:Zp)(c:Option Addr)(d:Nat)(e:Option Addr)(f:Nat)(g:Option Addr)(i:Nat)(j:Option Addr)(k:Nat)(l:Option Addr)(m:Nat)(n:Option Addr)(o:Nat)(p:Option Addr)(q:Nat)(s:Option Addr)(t:Nat)(a:zt)(u:Int)(r:ByteArray)(h:kz a u=some r)(w₀:World)(hz:PZ [] w₀ Z)(v:ZS Z 4 (ju Z) c d a.fM)(z:ZS Z 4 (kv Z) e f a.yd)(x:ZS Z 4 (rq qJ) g i a.fS)(A:ZS Z 4 (rq qt) j k a.fK)(C:ZS Z 7 (vK Z) l m a.yb)(D:ZS Z 5 (rq kK) n o a.fH)(E:ZS Z 3 (kw Z) p q a.fU)(F:ZS Z 4 (rq kL) s t a.yc):
  RC 173 #[.agg #[vs c a.fM.length d,vs e a.yd.length f,vs g a.fS.length i,vs j a.fK.length k,vs l a.yb.length m,vs n a.fH.length o,vs p a.fU.length q,vs s a.yc.length t],vi u] w₀ (.string r) [] []:=by
 unfold kz at h
 refine L0 func173 ntmps173 ?_
 refine WC.b<|Ld (Lg 2 (xP (cs:=[vs c a.fM.length d,vs e a.yd.length f,vs g a.fS.length i,vs j a.fK.length k,vs l a.yb.length m,vs n a.fH.length o,vs p a.fU.length q,vs s a.yc.length t]) U U) fun P _=>Q1n U<|B0q<|Le 6 (xk uc U U)<|Le 7 (xl zaF U<|xu .here U)<|Le 8 (xQ underlying22 U)<|Q1n U<|WC.block<|WC.b ?_)
 refine bK h fun G y h=>D3q U<|Ly false 4 20 (B:=G) U U U U U U (fun h=>(oJ<|qq y h).symm) (fun _ H=>?_) ?_
 ·have b:=qr y H
  obtain⟨ab,I,b⟩:=ze b
  replace b:=oJ b
  exact La U<|Le 22 (xq z2j U (xt .here) U)<|Lm 23 (zf call172<|.cons U .nil) .nil (cc hz .nil fun w pz ho=>pX _ _ _ _ _ _ _ _ _ _ _ _ _ _ _ _ _ _ _ I w pz v z x A C D E F)<|Q2q U<|Lz b U U .all
 refine Q1n U<|Lj U h (fun J h=>?_)<|fun J h=>?_
 ·refine B1n U<|WC.ret<|Lv ?_
  obtain rfl:=oJ h
  exact Lh results173 (.tmp U .nil)<|fun w hw=>⟨xK U,hw.sub .nil⟩
 ·refine B4n U<|Lj U h (fun K h=>?_)<|fun K h=>?_
  ·refine WC.b<|cK h fun L h=>Ld<|Le 30 (xk uc U U)<|Le 31 (xl zaF U<|xu .here U)<|La U<|L2 (dd:=33) U U (Z:=Z) (Pr:=(ju Z)) zAx U U v L ?_
   rintro Q R M S ⟨T,V,rfl,W⟩
   refine Le 34 (xk WQ U U)<|Le 35 (xl dj U<|wy hz.pv M U)<|Q1n U<|WC.ret<|Lv ?_
   obtain rfl:=oJ h
   exact Lh results173 (.tmp U .nil)<|fun w hw=>⟨xK U,hw.sub .nil⟩
  ·refine WC.b<|cK h fun N h=>Ld<|Le 9 (xk rZ U U)<|Le 10 (xl zih U<|xu .here U)<|La U<|La U<|La U<|L2 (dd:=14) U U (Z:=Z) (Pr:=(rq qJ)) zlL U U x N ?_
   rintro X Y O aa rfl
   refine Le 15 (xk VF U U)<|Le 16 (xl dj U<|wy hz.pv O U)<|Q1n U<|WC.ret<|Lv ?_
   obtain rfl:=oJ h
   exact Lh results173 (.tmp U .nil)<|fun w hw=>⟨xK U,hw.sub .nil⟩
def vu(b:Int)(c:zt)(d:ByteArray)(e:Option Int):Nat->Int->Option Int
 | 0,_=>none
 | f+1,a=>if decide (a<b) then(kz c a).bind fun g=>if decide (g=d) then some a else vu b c d e f (i64 (a+1)) else e
def vP(a:zt)(b:ByteArray):Option Int:=
 mh (some (-1)) fun c=>(ke a).bind fun d=>vu d a b c xI 0
theorem oF(Z:Zp)(e:Option Addr)(f:Nat)(g:Option Addr)(i:Nat)(j:Option Addr)(k:Nat)(l:Option Addr)(m:Nat)(n:Option Addr)(o:Nat)(p:Option Addr)(q:Nat)(s:Option Addr)(t:Nat)(u:Option Addr)(v:Nat)(a:zt)(d:ByteArray)(r:Int)(h:vP a d=some r)(w₀:World)(hz:PZ [] w₀ Z)(x:ZS Z 4 (ju Z) e f a.fM)(y:ZS Z 4 (kv Z) g i a.yd)(z:ZS Z 4 (rq qJ) j k a.fS)(B:ZS Z 4 (rq qt) l m a.fK)(C:ZS Z 7 (vK Z) n o a.yb)(D:ZS Z 5 (rq kK) p q a.fH)(E:ZS Z 3 (kw Z) s t a.fU)(F:ZS Z 4 (rq kL) u v a.yc):
  RC 140 #[.agg #[vs e a.fM.length f,vs g a.yd.length i,vs j a.fS.length k,vs l a.fK.length m,vs n a.yb.length o,vs p a.fH.length q,vs s a.fU.length t,vs u a.yc.length v],.string d] w₀ (vi r) [] []:=by
 unfold vP at h
 refine L0 func140 ntmps140 ?_
 let A:List Value:=[vs e a.fM.length f,vs g a.yd.length i,vs j a.fS.length k,vs l a.fK.length m,vs n a.yb.length o,vs p a.fH.length q,vs s a.fU.length t,vs u a.yc.length v];refine B0q<|Lg 2 (xP (cs:=A) U U) ?_
 intro G _
 refine Q1n U<|jK0 h fun H J h=>L9 (H=some r) ([]) ([]) ?_ ?_
 ·refine WC.b<|bK h fun I K h=>Ld<|Le 6 (xq z2j U (xt .here) U)<|Lm 7 (zf call172<|.cons U .nil) .nil (cc hz .nil fun w pz ho=>pX _ _ _ _ _ _ _ _ _ _ _ _ _ _ _ _ _ _ _ K w pz x y z B C D E F)<|Q1n U<|WC.block<|Ka (fun(c:Nat) (b:Int)=>(vu I a d H c b=some r)) (fun c b=>[(1,.string d),(2,vp G),(7,vi I),(8,vi b)]) (fun c b=>[stb G 31 A]) (fun c b=>c) ⟨xI,0⟩ h (.q U) (.cons .here .nil) ?_
  rintro(_|L) b h;·cases h
  rw[vu] at h
  refine B1n U<|WC.b<|Lj U h (fun M h=>?_)<|fun M h=>?_
  ·refine WC.skip<|Lb<|WC.b<|WC.block<|B2n U<|WC.b<|bK h fun P N h=>Ld<|Le 11 (xq z2j U (xt .here) U)<|La U<|Lm 13 (zf call173<|.r2 U U) .nil (cc hz .nil fun w pz ho=>ei _ _ _ _ _ _ _ _ _ _ _ _ _ _ _ _ _ _ _ _ N w pz x y z B C D E F)<|La U<|Le 15 (XL U U)<|Q0n<|Lj U h (fun O h=>?_)<|fun O h=>?_
   ·refine B2n U<|WC.ret<|Lv<|Ll<|Ll<|Lv<|Ll ?_
    obtain rfl:=oJ h
    exact Lh results140 (.tmp U .nil)<|fun w hw=>⟨xK U,hw.sub .nil⟩
   ·exact WC.skip<|Lu<|Lb<|D2q U<|WL.nil<|WX.round ⟨L,i64 (b+1)⟩ h (Nat.lt_succ_self _) (.q U)<|.cons .here .nil
  ·exact WC.exit<|Ln<|Ln<|Lx<|Lp () h .nil .nil
 ·rintro  h
  replace h:=J.symm.trans h
  refine B1n U<|WC.ret ?_
  obtain rfl:=oJ h
  exact Lh results140 (.tmp U .nil)<|fun w hw=>⟨xK U,hw.sub .nil⟩
def gS(a:zt)(c:Int)(b:Int):Option Bool:=
 if decide (b<a.fM.length) then some (decide (b>=0)) else chk (0<=(i64 (b-(a.fM.length:Int)))/\(i64 (b-(a.fM.length:Int)))<a.fS.length) (some (((((decide (((nth a.fS (i64 (b-(a.fM.length:Int)))).yD)=c))&&(decide (((nth a.fS (i64 (b-(a.fM.length:Int)))).yj)>=0)))&&(decide (((nth a.fS (i64 (b-(a.fM.length:Int)))).yj)<=1000)))&&(decide (((nth a.fS (i64 (b-(a.fM.length:Int)))).fT)>=0)))&&(decide (((nth a.fS (i64 (b-(a.fM.length:Int)))).fT)<=1073741824))))
theorem oG(Z:Zp)(c:Option Addr)(d:Nat)(e:Option Addr)(f:Nat)(g:Option Addr)(i:Nat)(j:Option Addr)(k:Nat)(l:Option Addr)(m:Nat)(n:Option Addr)(o:Nat)(p:Option Addr)(q:Nat)(s:Option Addr)(t:Nat)(a:zt)(b:Int)(u:Int)(r:Bool)(h:gS a b u=some r)(w₀:World)(hz:PZ [] w₀ Z)(G:ZS Z 4 (ju Z) c d a.fM)(H:ZS Z 4 (kv Z) e f a.yd)(v:ZS Z 4 (rq qJ) g i a.fS)(I:ZS Z 4 (rq qt) j k a.fK)(J:ZS Z 7 (vK Z) l m a.yb)(K:ZS Z 5 (rq kK) n o a.fH)(L:ZS Z 3 (kw Z) p q a.fU)(M:ZS Z 4 (rq kL) s t a.yc):
  RC 141 #[.agg #[vs c a.fM.length d,vs e a.yd.length f,vs g a.fS.length i,vs j a.fK.length k,vs l a.yb.length m,vs n a.fH.length o,vs p a.fU.length q,vs s a.yc.length t],vi b,vi u] w₀ (.bool r) [] []:=by
 unfold gS at h
 refine Kc func141 ntmps141 ?_
 refine WC.b<|Ld (Lg 3 (xP (cs:=[vs c a.fM.length d,vs e a.yd.length f,vs g a.fS.length i,vs j a.fK.length k,vs l a.yb.length m,vs n a.fH.length o,vs p a.fU.length q,vs s a.yc.length t]) U U) fun N _=>Q1n U<|WC.b<|B1q U<|Le 9 (xk uc U U)<|Le 10 (xl zaF U<|xu .here U)<|Le 11 (xQ underlying22 U)<|Q1n U<|Lj U h (fun x h=>?_)<|fun x h=>?_)
 ·refine B3n U<|WC.ret<|Ll ?_
  obtain rfl:=oJ h
  exact Lh results141 (.tmp U .nil)<|fun w hw=>⟨xK U,hw.sub .nil⟩
 ·refine WC.skip<|Lb<|WC.b<|cK h fun y h=>Ld<|Le 15 (xk rZ U U)<|Le 16 (xl zih U<|xu .here U)<|La U<|Le 18 (xk uc U U)<|Le 19 (xl zaF U<|xu .here U)<|Le 20 (xQ underlying22 U)<|La U<|L2 (dd:=22) U U (Z:=Z) (Pr:=(rq qJ)) zlL U U v y ?_
  rintro O P z Q rfl
  refine Le 23 (xq zJ5 U (vY hz.pv z) U)<|Lg 7 (xC (cs:=[.string ⟨#[]⟩,vi 0,vi 0,vi 0]) zJ6 U) ?_
  intro R _
  let A:=(i64 (u-(a.fM.length:Int)));refine Lk U U (xx zJ7 U U U .here U U U)<|Q0n<|B0q<|Le 24 (xk VI U U)<|Le 25 (xl xB U<|xu .here U)<|La U<|La U<|La U<|Ly true 3 28 (B:=(decide (((nth a.fS A).yD)=b))&&(decide (((nth a.fS A).yj)>=0))) U U U U U U (fun h=>(kb h).symm) (fun _ C=>?_) ?_
  ·exact Le 29 (xk cG U U)<|Le 30 (xl xB U<|xu .here U)<|Q2q U<|Lz (kc C) U U .all
  refine La U<|Ly true 3 33 (B:=((decide (((nth a.fS A).yD)=b))&&(decide (((nth a.fS A).yj)>=0)))&&(decide (((nth a.fS A).yj)<=1000))) U U U U U U (fun h=>(kb h).symm) (fun _ D=>?_) ?_
  ·exact Le 34 (xk cG U U)<|Le 35 (xl xB U<|xu .here U)<|Q2q U<|Lz (kc D) U U .all
  refine La U<|Ly true 3 38 (B:=(((decide (((nth a.fS A).yD)=b))&&(decide (((nth a.fS A).yj)>=0)))&&(decide (((nth a.fS A).yj)<=1000)))&&(decide (((nth a.fS A).fT)>=0))) U U U U U U (fun h=>(kb h).symm) (fun _ E=>?_) ?_
  ·exact Le 39 (xk YC U U)<|Le 40 (xl xB U<|xu .here U)<|Q2q U<|Lz (kc E) U U .all
  refine La U<|Ly true 3 43 (B:=((((decide (((nth a.fS A).yD)=b))&&(decide (((nth a.fS A).yj)>=0)))&&(decide (((nth a.fS A).yj)<=1000)))&&(decide (((nth a.fS A).fT)>=0)))&&(decide (((nth a.fS A).fT)<=1073741824))) U U U U U U (fun h=>(kb h).symm) (fun _ F=>?_) ?_
  ·exact Le 44 (xk YC U U)<|Le 45 (xl xB U<|xu .here U)<|Q2q U<|Lz (kc F) U U .all
  refine Q1n U<|WC.ret ?_
  obtain rfl:=oJ h
  exact Lh results141 (.tmp U .nil)<|fun w hw=>⟨xK U,hw.sub .nil⟩
def fq(a:zt)(e:Int)(b:Int)(f:Int)(g:Int):Option Bool:=
 if (decide (b<0))||(decide (b>=a.fK.length)) then some false else chk (0<=b/\b<a.fK.length) ((vP a ((nth a.fK b).fA)).bind fun c=>(vP a ((nth a.fK b).fB)).bind fun d=>(if (((decide (((nth a.fK b).yD)=e))&&(decide (((nth a.fK b).yp)>=1)))&&(decide (((nth a.fK b).yp)<=16)))&&(decide (c≠d)) then(gS a e c).bind fun h=>some h else some false).bind fun i=>(if i then(gS a e d).bind fun j=>some j else some false).bind fun k=>some (k&&(((decide (c=f))&&(decide (d=g)))||((decide (c=g))&&(decide (d=f))))))
theorem dl(Z:Zp)(t:Option Addr)(u:Nat)(v:Option Addr)(x:Nat)(y:Option Addr)(z:Nat)(A:Option Addr)(C:Nat)(D:Option Addr)(E:Nat)(F:Option Addr)(G:Nat)(H:Option Addr)(I:Nat)(J:Option Addr)(K:Nat)(a:zt)(g:Int)(b:Int)(c:Int)(d:Int)(r:Bool)(h:fq a g b c d=some r)(w₀:World)(hz:PZ [] w₀ Z)(l:ZS Z 4 (ju Z) t u a.fM)(m:ZS Z 4 (kv Z) v x a.yd)(n:ZS Z 4 (rq qJ) y z a.fS)(i:ZS Z 4 (rq qt) A C a.fK)(o:ZS Z 7 (vK Z) D E a.yb)(p:ZS Z 5 (rq kK) F G a.fH)(q:ZS Z 3 (kw Z) H I a.fU)(s:ZS Z 4 (rq kL) J K a.yc):
  RC 93 #[.agg #[vs t a.fM.length u,vs v a.yd.length x,vs y a.fS.length z,vs A a.fK.length C,vs D a.yb.length E,vs F a.fH.length G,vs H a.fU.length I,vs J a.yc.length K],vi g,vi b,vi c,vi d] w₀ (.bool r) [] []:=by
 unfold fq at h
 refine Calls.on5 func93 ntmps93 ?_
 refine WC.b<|Ld (Lg 5 (xP (cs:=[vs t a.fM.length u,vs v a.yd.length x,vs y a.fS.length z,vs A a.fK.length C,vs D a.yb.length E,vs F a.fH.length G,vs H a.fU.length I,vs J a.yc.length K]) U U) fun aj _=>Q1n U<|WC.b<|WC.b<|Ld<|La U<|La U<|La U<|Ly false 5 16 (B:=(decide (b<0))||(decide (b>=a.fK.length))) U U U U U U (fun h=>(uz h).symm) (fun _ O=>?_) ?_)
 ·exact La U<|Le 18 (xk uT U U)<|Le 19 (xl zbZ U<|xu .here U)<|Le 20 (xQ underlying25 U)<|Q2q U<|Lz (uA O) U U .all
 refine Q0n<|Lj U h (fun P h=>?_)<|fun P h=>?_
 ·refine B1n U<|WC.ret<|Ll ?_
  obtain rfl:=oJ h
  exact Lh results93 (.tmp U .nil)<|fun w hw=>⟨xK U,hw.sub .nil⟩
 ·refine WC.skip<|Lb<|WC.b<|cK h fun Q h=>Ld<|Le 23 (xk uT U U)<|Le 24 (xl zbZ U<|xu .here U)<|La U<|L2 (dd:=26) U U (Z:=Z) (Pr:=(rq qt)) zga U U i Q ?_
  rintro ak al R am rfl
  refine Le 27 (xq zJ2 U (vY hz.pv R) U) (Lg 11 (xC (cs:=[.string ⟨#[]⟩,.string ⟨#[]⟩,vi 0,vi 0]) zJ3 U) fun an _=>Lk U U (xx zJ4 U U U .here U U U)<|Q0n<|WC.b ?_)
  refine bK h fun e S h=>bK h fun f T h=>Lw nc [] U<|Li 0 28 U (xq z2j U (xt .h1) U)<|Lf 1 29 U (xk VD U U)<|Li 2 30 U (xl dj U<|xu .here U)<|L5 3 31 U (zf call140<|.r2 U U) (cc hz .nil fun w pz ho=>oF _ _ _ _ _ _ _ _ _ _ _ _ _ _ _ _ _ _ _ _ S w pz l m n i o p q s)<|Li 4 32 U (xq z2j U (xt .h1) U)<|Lf 5 33 U (xk VG U U)<|Li 6 34 U (xl dj U<|xu .here U)<|L5 7 35 U (zf call140<|.r2 U U) (cc hz .nil fun w pz ho=>oF _ _ _ _ _ _ _ _ _ _ _ _ _ _ _ _ _ _ _ _ T w pz l m n i o p q s)<|Lf 8 12 U (q_z U)<|Lf 9 13 U (q_z U)<|WD.done (by kernel_rfl)<|Lb<|WC.b<|bK h fun V L h=>bK h fun M N h=>Ld<|Le 36 (xk VH U U)<|Le 37 (xl xB U<|xu .here U)<|La U<|La U<|La U<|Ly true 3 40 (B:=(decide (((nth a.fK b).yD)=g))&&(decide (((nth a.fK b).yp)>=1))) U U U U U U (fun h=>(kb h).symm) (fun _ W=>?_) ?_
  ·exact Le 41 (xk sD U U)<|Le 42 (xl xB U<|xu .here U)<|Q2q U<|Lz (kc W) U U .all
  refine La U<|Ly true 3 45 (B:=((decide (((nth a.fK b).yD)=g))&&(decide (((nth a.fK b).yp)>=1)))&&(decide (((nth a.fK b).yp)<=16))) U U U U U U (fun h=>(kb h).symm) (fun _ X=>?_) ?_
  ·exact Le 46 (xk sD U U)<|Le 47 (xl xB U<|xu .here U)<|Q2q U<|Lz (kc X) U U .all
  refine La U<|Ly true 3 50 (B:=(((decide (((nth a.fK b).yD)=g))&&(decide (((nth a.fK b).yp)>=1)))&&(decide (((nth a.fK b).yp)<=16)))&&(decide (e≠f))) U U U U U U (fun h=>(kb h).symm) (fun _ Y=>?_) ?_
  ·exact La U<|La U<|La U<|La U<|Lz (kc Y) U U .all
  refine La U<|Ly true 4 55 (B:=V) U U U U U U (fun h=>(oJ<|qr L h).symm) (fun _ aa=>?_) ?_
  ·have j:=qq L aa
   obtain⟨ao,ab,j⟩:=ze j
   replace j:=oJ j
   exact Le 56 (xq z2j U (xt .h1) U)<|Q2q U<|Lm 59 (zf call141<|.r3 U U U) .nil (cc hz .nil fun w pz ho=>oG _ _ _ _ _ _ _ _ _ _ _ _ _ _ _ _ _ _ _ _ _ ab w pz l m n i o p q s)<|La U<|Lz j U U .all
  refine La U<|Ly true 4 61 (B:=M) U U U U U U (fun h=>(oJ<|qr N h).symm) (fun _ ad=>?_) ?_
  ·have k:=qq N ad
   obtain⟨ap,ae,k⟩:=ze k
   replace k:=oJ k
   exact Le 62 (xq z2j U (xt .h1) U)<|Q2q U<|Lm 65 (zf call141<|.r3 U U U) .nil (cc hz .nil fun w pz ho=>oG _ _ _ _ _ _ _ _ _ _ _ _ _ _ _ _ _ _ _ _ _ ae w pz l m n i o p q s)<|La U<|Lz k U U .all
  refine La U<|Ly true 18 67 (B:=M&&(((decide (e=c))&&(decide (f=d)))||((decide (e=d))&&(decide (f=c))))) U U U U U U (fun h=>(kb h).symm) (fun _ af=>?_) ?_
  ·refine La U<|La U<|La U<|La U<|Ly true 3 71 (B:=(decide (e=c))&&(decide (f=d))) U U U U U U (fun h=>(kb h).symm) (fun _ ag=>?_) ?_
   ·exact La U<|La U<|La U<|La U<|Lz (kc ag) U U .all
   refine La U<|Ly false 8 76 (B:=((decide (e=c))&&(decide (f=d)))||((decide (e=d))&&(decide (f=c)))) U U U U U U (fun h=>(uz h).symm) (fun _ ah=>?_) ?_
   ·refine La U<|La U<|La U<|La U<|Ly true 3 80 (B:=(decide (e=d))&&(decide (f=c))) U U U U U U (fun h=>(kb h).symm) (fun _ ai=>?_) ?_
    ·exact La U<|La U<|La U<|La U<|Lz (kc ai) U U .all
    exact La U<|Lz (uA ah) U U .all
   exact La U<|Lz (kc af) U U .all
  refine Q1n U<|WC.ret ?_
  obtain rfl:=oJ h
  exact Lh results93 (.tmp U .nil)<|fun w hw=>⟨xK U,hw.sub .nil⟩
def qX(b:List zd)(d:zt)(f:Int)(g:Option Bool):Nat->Int->(List (Int×Int))->Option Bool
 | 0,_,_=>none
 | i+1,a,e=>if decide (a<b.length) then chk (0<=a/\a<b.length) (jG (fun(c:List (Int×Int))=>chk (((decide ((xp c ((nth b a).ya) 0)=0))||(decide ((xp c ((nth b a).yh) 0)>0)))=false->((decide (a>0))=true->((0:Int)<=0/\0<(b.length:Int)))) ((if ((decide ((xp c ((nth b a).ya) 0)=0))||(decide ((xp c ((nth b a).yh) 0)>0)))||(((decide (a>0))&&(decide (((nth b a).ya)≠((nth b 0).ya))))&&(decide (((nth b a).ya)<d.fM.length))) then some true else(fq d f ((nth b a).fQ) ((nth b a).ya) ((nth b a).yh)).bind fun j=>some (!j)).bind fun k=>if k then some false else qX b d f g i (i64 (a+1)) (xM c ((nth b a).yh) (i64 ((xp c ((nth b a).yh) 0)+1))))) fun h=>if decide (a=0) then h (xM e ((nth b a).ya) (i64 ((xp e ((nth b a).ya) 0)+1))) else h e) else g
def fr(b:zt)(c:Int)(a:List zd):Option Bool:=
 mh (some (decide ((a.length:Int)<=32))) fun d=>qX a b c d xI 0 ([]:List (Int×Int))
theorem dm(Z:Zp)(s:Option Addr)(t:Nat)(u:Option Addr)(x:Nat)(y:Option Addr)(z:Nat)(B:Option Addr)(I:Nat)(J:Option Addr)(K:Nat)(L:Option Addr)(M:Nat)(N:Option Addr)(O:Nat)(P:Option Addr)(Q:Nat)(R:Option Addr)(S:Nat)(c:zt)(e:Int)(b:List zd)(r:Bool)(h:fr c e b=some r)(w₀:World)(hz:PZ [] w₀ Z)(an:ZS Z 4 (ju Z) s t c.fM)(ao:ZS Z 4 (kv Z) u x c.yd)(ap:ZS Z 4 (rq qJ) y z c.fS)(aq:ZS Z 4 (rq qt) B I c.fK)(ar:ZS Z 7 (vK Z) J K c.yb)(au:ZS Z 5 (rq kK) L M c.fH)(av:ZS Z 3 (kw Z) N O c.fU)(aw:ZS Z 4 (rq kL) P Q c.yc)(af:ZS Z 3 (rq gk) R S b):
  RC 52 #[.agg #[vs s c.fM.length t,vs u c.yd.length x,vs y c.fS.length z,vs B c.fK.length I,vs J c.yb.length K,vs L c.fH.length M,vs N c.fU.length O,vs P c.yc.length Q],vi e,vs R b.length S] w₀ (.bool r) [] []:=by
 unfold fr at h
 refine Kc func52 ntmps52 ?_
 let A:List Value:=[vs s c.fM.length t,vs u c.yd.length x,vs y c.fS.length z,vs B c.fK.length I,vs J c.yb.length K,vs L c.fH.length M,vs N c.fU.length O,vs P c.yc.length Q];refine B0q<|Lg 3 (xP (cs:=A) U U) ?_
 intro g _
 refine Q1n U<|WC.b<|Ld (Lg 10 (je vI<|Value.int .i64) fun l _=>Q1n U ?_)
 obtain⟨ag,ax,h⟩:=qy h
 let C:Value:=(vs R b.length S);refine L9 (ag=some r) ([(2,C)]) ([]) ?_ ?_
 ·refine B1q U<|Le 12 (xQ underlying58 U)<|Q1n U<|WC.block<|WC.p9 (fun(n:Nat) (a:Int) (f:List (Int×Int))=>(qX b c e ag n a f=some r)) (fun n a f=>[(1,vi e),(2,C),(3,vp g),(7,(.map<|some l)),(11,C),(12,vi (b.length:Int)),(13,vi a)]) (fun n a f=>[stb g 31 A,xy l vI vI f]) (fun n a f=>n) ⟨xI,0,([]:List (Int×Int))⟩ h (.q U) (.s2 .h1 .here) ?_
  rintro(_|ay) a f h;·cases h
  rw[qX] at h
  refine B1n U<|WC.b<|Lj U h (fun az h=>?_)<|fun az h=>?_
  ·refine WC.skip<|Lb<|WC.b<|WC.block<|WC.b<|cK h fun aA h=>D1q U<|L2 (dd:=16) U U (Z:=Z) (Pr:=(rq gk)) z8e U U af aA ?_
   rintro aM aN aB aO rfl
   refine Le 17 (xq z5R U (vY hz.pv aB) U) (Lg 9 (xC (cs:=[vi 0,vi 0,vi 0]) zc0 U) fun m _=>La U<|Lk U U (xx zaG U U U .here U U U)<|Q0n ?_)
   refine jK1 h fun aC aD h=>WC.jh (fun(d:List (Int×Int))=>(aC d=some r)) (fun d=>[(1,vi e),(2,C),(3,vp g),(7,(.map<|some l)),(8,vi a),(9,vp m),(11,C),(12,vi (b.length:Int)),(13,vi a)]) (fun d=>[stb g 31 A,xy l vI vI d,stb m 60 [(vi<|(nth b a).ya),(vi<|(nth b a).yh),(vi<|(nth b a).fQ)]]) ?_ ?_
   ·refine B2n U<|Lj U h (fun aE h=>?_)<|fun aE h=>?_
    ·exact D1q U<|Le 21 (xk km U U)<|Le 22 (xl xB U<|xu .here U)<|Le 23 (qz (k:=((nth b a).ya)) (dflt:=(0:Int)) jR underlying148 qk U U U .h2)<|La U<|Lk U U (jE (k:=((nth b a).ya)) (v:=i64 ((xp f ((nth b a).ya) 0)+1)) jR underlying148 U U U U .h2)<|WL.nil<|Lp (xM f ((nth b a).ya)<|i64 ((xp f ((nth b a).ya) 0)+1)) h (.q U)<|.s3 .h2 .here .here
    ·exact WC.skip<|Lp f h (.q U)<|.s3 .h1 .h1 .here
   ·rintro d h
    replace h:=(aD d).symm.trans h
    refine WC.b<|WC.b ?_
    obtain⟨aF,h⟩:=xv h
    obtain⟨aG,ah,h⟩:=ze h
    let E:Value:=(vi (b.length:Int));let F:Value:=(.bool ((decide ((xp d ((nth b a).ya) 0)=0))||(decide ((xp d ((nth b a).yh) 0)>0))));refine Lw nc [] U<|Lf 0 25 U (q_m U)<|Lf 1 26 U (xk km U U)<|Li 2 27 U (xl xB U<|xu .h2 U)<|Li 3 28 U (qz (k:=((nth b a).ya)) (dflt:=(0:Int)) jR underlying148 qk U U U .h1)<|Lf 4 29 U (l4 U U)<|Lf 5 30 U (q_m U)<|Kb (fuel':=33) [(1,vi e),(2,C),(3,vp g),(7,(.map<|some l)),(8,vi a),(9,vp m),(11,C),(12,E),(13,vi a),(30,(.bool<|decide ((xp d ((nth b a).ya) 0)=0))),(36,F)] (wm 45 (dn 12)) ?_<|fun ai=>?_
    rotate_left
    ·rcases Bool.eq_false_or_eq_true (decide ((xp d ((nth b a).ya) 0)=0)) with hb' | hb'
     ·have T:=hb';clear hb'
      refine L3 (i:=30) U T<|Lo 6 31 U<|Lo 7 32 U<|Lo 8 33 U<|Lo 9 34 U<|Lo 10 35 U<|Lf 11 36 U (jI U U)<|Lt (.a3) ?_ ai
      exact .r11 U U U U U U U U U (zL<|Eq.symm T)<|zL<|uz T
     ·have V:=hb';clear hb'
      refine L3 (i:=30) U V<|Lf 6 31 U (q_m U)<|Lf 7 32 U (xk gR U U)<|Li 8 33 U (xl xB U<|xu .h2 U)<|Li 9 34 U (qz (k:=((nth b a).yh)) (dflt:=(0:Int)) jR underlying148 qk U U U .h1)<|Lf 10 35 U (cx U U)<|Lf 11 36 U (jJ U U)<|Lt (.a3) ?_ ai
      exact .r11 U U U U U U U U U (zL<|Eq.symm V)<|zL<|uA V
    let H:=(c.fM.length:Int);let D:Value:=(.bool (((decide ((xp d ((nth b a).ya) 0)=0))||(decide ((xp d ((nth b a).yh) 0)>0)))||(((decide (a>0))&&(decide (((nth b a).ya)≠((nth b 0).ya))))&&(decide (((nth b a).ya)<H)))));refine WD.d (bz 12 33) (by kernel_rfl)<|Lf 12 37 U (q_m U)<|Kb (fuel':=12) [(1,vi e),(2,C),(3,vp g),(7,(.map<|some l)),(9,vp m),(11,C),(12,E),(13,vi a),(37,F),(57,D)] (wm 45 (dn 33)) ?_<|fun aj=>?_
    rotate_left
    ·rcases Bool.eq_false_or_eq_true ((decide ((xp d ((nth b a).ya) 0)=0))||(decide ((xp d ((nth b a).yh) 0)>0))) with hb' | hb'
     ·have W:=hb';clear hb'
      refine L3 (i:=37) U W<|Lo 13 38 U<|Lo 14 39 U<|Lo 15 40 U<|Lo 16 41 U<|Lo 17 42 U<|Lo 18 43 U<|Lo 19 44 U<|Lo 20 45 U<|Lo 21 46 U<|Lo 22 47 U<|Lo 23 48 U<|Lo 24 49 U<|Lo 25 50 U<|Lo 26 51 U<|Lo 27 52 U<|Lo 28 53 U<|Lo 29 54 U<|Lo 30 55 U<|Lo 31 56 U<|Lf 32 57 U (jI U U)<|Lt (.a3) ?_ aj
      exact .r10 U U U U U U U U (zL<|Eq.symm W)<|zL<|uz W
     ·have p:=hb';clear hb'
      have aH:=aF p
      let G:Value:=(.bool ((decide (a>0))&&(decide (((nth b a).ya)≠((nth b 0).ya)))));refine L3 (i:=37) U p<|Lf 13 38 U (q_m U)<|Lf 14 39 U (cx U U)<|Lf 15 40 U (q_m U)<|Kb (fuel':=21) [(1,vi e),(2,C),(3,vp g),(7,(.map<|some l)),(9,vp m),(11,C),(12,E),(13,vi a),(37,.bool false),(40,(.bool<|decide (a>0))),(48,G)] (wm 45 (dn 24)) ?_<|fun ak=>?_
      rotate_left
      ·rcases Bool.eq_false_or_eq_true (decide (a>0)) with hb' | hb'
       ·have q:=hb';clear hb'
        have aI:=aH q
        refine L3 (i:=40) U q<|Lf 16 41 U (xk km U U)<|Li 17 42 U (xl xB U<|xu .h2 U)<|Lf 18 43 U (q_m U)<|L8 (j:=19) (dd:=44) (by kernel_rfl) U z2J z2K U U (Z:=Z) (Pr:=(rq gk)) z8e U U af aI ?_
        rintro aP aQ aJ aR rfl
        refine Lf 20 45 U (xk km U U)<|Li 21 46 U (xl xB U<|wy hz.pv aJ U)<|Lf 22 47 U (cz U U)<|Lf 23 48 U (jI U U)<|Lt (.a3) ?_ ak
        exact .r11 U U U U U U U U U (zL<|Eq.symm q)<|zL<|kc q
       ·have X:=hb';clear hb'
        refine L3 (i:=40) U X<|Lo 16 41 U<|Lo 17 42 U<|Lo 18 43 U<|Lo 19 44 U<|Lo 20 45 U<|Lo 21 46 U<|Lo 22 47 U<|Lf 23 48 U (jJ U U)<|Lt (.a3) ?_ ak
        exact .r11 U U U U U U U U U (zL<|Eq.symm X)<|zL<|kb X
      refine WD.d (bz 24 21) (by kernel_rfl)<|Lf 24 49 U (q_m U)<|Kb (fuel':=13) [(1,vi e),(2,C),(3,vp g),(7,(.map<|some l)),(9,vp m),(11,C),(12,E),(13,vi a),(37,.bool false),(49,G),(56,(.bool<|((decide (a>0))&&(decide (((nth b a).ya)≠((nth b 0).ya))))&&(decide (((nth b a).ya)<H))))] (wm 45 (dn 32)) ?_<|fun al=>?_
      rotate_left
      ·rcases Bool.eq_false_or_eq_true ((decide (a>0))&&(decide (((nth b a).ya)≠((nth b 0).ya)))) with hb' | hb'
       ·have Y:=hb';clear hb'
        refine L3 (i:=49) U Y<|Lf 25 50 U (xk km U U)<|Li 26 51 U (xl xB U<|xu .h2 U)<|Lf 27 52 U (xk uc U U)<|Li 28 53 U (xl zaF U<|xu .here U)<|Lf 29 54 U (xQ underlying22 U)<|Lf 30 55 U (nr U U)<|Lf 31 56 U (jI U U)<|Lt (.a3) ?_ al
        exact .r11 U U U U U U U U U (zL<|Eq.symm Y)<|zL<|kc Y
       ·have aa:=hb';clear hb'
        refine L3 (i:=49) U aa<|Lo 25 50 U<|Lo 26 51 U<|Lo 27 52 U<|Lo 28 53 U<|Lo 29 54 U<|Lo 30 55 U<|Lf 31 56 U (jJ U U)<|Lt (.a3) ?_ al
        exact .r11 U U U U U U U U U (zL<|Eq.symm aa)<|zL<|kb aa
      refine WD.d (bz 32 13) (by kernel_rfl)<|Lf 32 57 U (jJ U U)<|Lt (.a3) ?_ aj
      exact .r10 U U U U U U U U (zL<|Eq.symm p)<|zL<|uA p
    refine WD.d (bz 33 12) (by kernel_rfl)<|Lf 33 58 U (q_m U)<|Kb (fuel':=0) [(1,vi e),(2,C),(3,vp g),(7,(.map<|some l)),(9,vp m),(11,C),(12,E),(13,vi a),(58,D),(69,.bool aG)] (wm 45 (dn 45)) ?_<|fun am=>?_
    rotate_left
    ·rcases Bool.eq_false_or_eq_true (((decide ((xp d ((nth b a).ya) 0)=0))||(decide ((xp d ((nth b a).yh) 0)>0)))||(((decide (a>0))&&(decide (((nth b a).ya)≠((nth b 0).ya))))&&(decide (((nth b a).ya)<H)))) with hb' | hb'
     ·have ab:=hb';clear hb'
      have ad:=qq ah ab
      replace ad:=oJ ad
      refine L3 (i:=58) U ab<|Lo 34 59 U<|Lo 35 60 U<|Lo 36 61 U<|Lo 37 62 U<|Lo 38 63 U<|Lo 39 64 U<|Lo 40 65 U<|Lo 41 66 U<|Lo 42 67 U<|Lo 43 68 U<|Lf 44 69 U (jI U U)<|Lt (.a3) ?_ am
      exact .r10 U U U U U U U U (zL<|Eq.symm ab)<|zL ad
     ·have ae:=hb';clear hb'
      have o:=qr ah ae
      obtain⟨aS,aK,o⟩:=ze o
      replace o:=oJ o
      refine L3 (i:=58) U ae<|Li 34 59 U (xq z2j U (xt .here) U)<|Lf 35 60 U (q_m U)<|Lf 36 61 U (xk tJ U U)<|Li 37 62 U (xl xB U<|xu .h2 U)<|Lf 38 63 U (xk km U U)<|Li 39 64 U (xl xB U<|xu .h2 U)<|Lf 40 65 U (xk gR U U)<|Li 41 66 U (xl xB U<|xu .h2 U)<|L5 42 67 U (zf call93<|.r5 U U U U U) (cc hz .nil fun w pz ho=>dl _ _ _ _ _ _ _ _ _ _ _ _ _ _ _ _ _ _ _ _ _ _ _ aK w pz an ao ap aq ar au av aw)<|Lf 43 68 U (X2 U)<|Lf 44 69 U (jJ U U)<|Lt (.a3) ?_ am
      exact .r10 U U U U U U U U (zL<|Eq.symm ae)<|zL o
    refine WD.d (bz 45 0) (by kernel_rfl)<|WD.done (by kernel_rfl)<|Lb<|Lj U h (fun aL h=>?_)<|fun aL h=>?_
    ·refine B1n U<|WC.ret<|Ll<|Lv<|Ll<|Ll<|Lv<|Ll ?_
     obtain rfl:=oJ h
     exact Lh results52 (.tmp U .nil)<|fun w hw=>⟨xK U,hw.sub .nil⟩
    ·exact WC.skip<|Lb<|D1q U<|Le 71 (xk gR U U)<|Le 72 (xl xB U<|xu .h2 U)<|Le 73 (qz (k:=((nth b a).yh)) (dflt:=(0:Int)) jR underlying148 qk U U U .h1)<|La U<|Lk U U (jE (k:=((nth b a).yh)) (v:=i64 ((xp d ((nth b a).yh) 0)+1)) jR underlying148 U U U U .h1)<|WL.nil<|Lu<|Lb<|D2q U<|WL.nil<|WX.round ⟨ay,i64 (a+1),(xM d ((nth b a).yh)<|i64 ((xp d ((nth b a).yh) 0)+1))⟩ h (Nat.lt_succ_self _) (.q U)<|.s2 .h1 .here
  ·exact WC.exit<|Ln<|Ln<|Lx<|Lp () h (.cons U .nil) .nil
 ·rintro  h
  replace h:=ax.symm.trans h
  refine B1q U<|Le 77 (xQ underlying58 U)<|Q2n U<|WC.ret ?_
  obtain rfl:=oJ h
  exact Lh results52 (.tmp U .nil)<|fun w hw=>⟨xK U,hw.sub .nil⟩
def wO(a:List zd)(b:zt)(c:Int):Option Bool:=
 (fr b c a).bind fun d=>some (!d)
theorem cU(Z:Zp)(c:Option Addr)(d:Nat)(e:Addr)(f:Option Addr)(g:Nat)(i:Option Addr)(j:Nat)(k:Option Addr)(l:Nat)(m:Option Addr)(n:Nat)(o:Option Addr)(p:Nat)(q:Option Addr)(s:Nat)(t:Option Addr)(u:Nat)(v:Option Addr)(x:Nat)(y:Addr)(b:List zd)(a:zt)(z:Int)(r:Bool)(h:wO b a z=some r)(w₀:World)(hz:PZ [] w₀ Z)(A:ZS Z 3 (rq gk) c d b)(B:ZS Z 4 (ju Z) f g a.fM)(C:ZS Z 4 (kv Z) i j a.yd)(D:ZS Z 4 (rq qJ) k l a.fS)(E:ZS Z 4 (rq qt) m n a.fK)(F:ZS Z 7 (vK Z) o p a.yb)(G:ZS Z 5 (rq kK) q s a.fH)(H:ZS Z 3 (kw Z) t u a.fU)(I:ZS Z 4 (rq kL) v x a.yc)(J:ZC Z e [vs f a.fM.length g,vs i a.yd.length j,vs k a.fS.length l,vs m a.fK.length n,vs o a.yb.length p,vs q a.fH.length s,vs t a.fU.length u,vs v a.yc.length x])(K:ZC Z y [vi z]):
  RC 51 #[vs c b.length d,vq e,vq y] w₀ (.bool r) [] []:=by
 unfold wO at h
 refine Kc func51 ntmps51 ?_
 refine B1n U<|WC.b<|bK h fun M L h=>Ld<|Le 5 (xq z2j U (vY hz.pv J) U)<|Le 6 (xl xB U<|jS hz.pv K U)<|La U<|Lm 8 (zf call52<|.r3 U U U) .nil (cc hz .nil fun w pz ho=>dm _ _ _ _ _ _ _ _ _ _ _ _ _ _ _ _ _ _ _ _ _ _ _ L w pz B C D E F G H I A)<|Q2n U<|WC.ret ?_
 obtain rfl:=oJ h
 exact Lh results51 (.tmp U .nil)<|fun w hw=>⟨xK U,hw.sub .nil⟩
def xX(b:List (List zd))(za1:(List zd)->Option Bool)(c:Option Int):Nat->Int->Option Int
 | 0,_=>none
 | d+1,a=>if decide (a<b.length) then chk (0<=a/\a<b.length) ((za1 (nth b a)).bind fun e=>if e then some a else xX b za1 c d (i64 (a+1))) else c
def vh(a:List (List zd))(za1:(List zd)->Option Bool):Option Int:=
 mh (some (-1)) fun b=>xX a za1 b xI 0
theorem uf(Z:Zp)(d:Option Addr)(g:Nat)(zgd:FuncId)(zmf:List Value)(b:List (List zd))(za1:(List zd)->Option Bool)(r:Int)(h:vh b za1=some r)(w₀:World)(hz:PZ [] w₀ Z)(j:ZS Z 1 (wT Z) d g b)(k:∀ args w,(callFunc zgd args).run Tryz.prog w = .ok (.enter zgd args) w)(m:∀ w:World,PZ [] w Z->∀(x0:List zd) (kd:Option Addr) (fx:Nat) (r:Bool),ZS Z 3 (rq gk) kd fx x0->za1 x0=some r->Calls Tryz.prog zgd (([vs kd x0.length fx]:List Value)++zmf).toArray w fun e w'=>e = .returned (.bool r)/\Hp [] w w' []):
  RC 92 #[vs d b.length g,.func (.func zgd) #[] (zmf).toArray] w₀ (vi r) [] []:=by
 unfold vh at h
 refine L0 func92 ntmps92 ?_
 refine B1n U<|jK0 h fun i n h=>L9 (i=some r) ([]) ([]) ?_ ?_
 ·refine B1q U<|Le 7 (xQ underlying32 U)<|Q1n U<|WC.block<|Ka (fun(c:Nat) (a:Int)=>(xX b za1 i c a=some r)) (fun c a=>[(0,vs d b.length g),(1,.func (.func zgd) #[] (zmf).toArray),(7,vi (b.length:Int)),(8,vi a)]) (fun c a=>[]) (fun c a=>c) ⟨xI,0⟩ h (.q U) .nil ?_
  rintro(_|o) a h;·cases h
  rw[xX] at h
  refine B1n U<|WC.b<|Lj U h (fun p h=>?_)<|fun p h=>?_
  ·refine WC.skip<|Lb<|WC.b<|WC.block<|B2n U<|WC.b<|cK h fun q h=>bK h fun s t h=>D3q U<|L2 (dd:=14) U U (Z:=Z) (Pr:=(wT Z)) z4O U U j q ?_
   rintro A B u C ⟨v,x,rfl,y⟩
   refine Le 15 (xl z9h U<|jS hz.pv u U)<|Lm 16 (qp (l:=[.tmp 15]) (f:=zgd) (caps:=zmf) k U<|.cons U .nil) .nil (fun w hw=>m w (hz.now hw) (nth b a) v x s y t)<|Q0n<|Lj U h (fun z h=>?_)<|fun z h=>?_
   ·refine B2n U<|WC.ret<|Lv<|Ll<|Ll<|Lv<|Ll ?_
    obtain rfl:=oJ h
    exact Lh results92 (.tmp U .nil)<|fun w hw=>⟨xK U,hw.sub .nil⟩
   ·exact WC.skip<|Lu<|Lb<|D2q U<|WL.nil<|WX.round ⟨o,i64 (a+1)⟩ h (Nat.lt_succ_self _) (.q U) .nil
  ·exact WC.exit<|Ln<|Ln<|Lx<|Lp () h .nil .nil
 ·rintro  h
  replace h:=n.symm.trans h
  refine B1n U<|WC.ret ?_
  obtain rfl:=oJ h
  exact Lh results92 (.tmp U .nil)<|fun w hw=>⟨xK U,hw.sub .nil⟩
def wn(a:List (List zd))(zge:(List zd)->Option Bool):Option Bool:=
 (vh a zge).bind fun b=>some (decide (b>=0))
theorem kO(Z:Zp)(b:Option Addr)(c:Nat)(zgf:FuncId)(zmh:List Value)(a:List (List zd))(zge:(List zd)->Option Bool)(r:Bool)(h:wn a zge=some r)(w₀:World)(hz:PZ [] w₀ Z)(d:ZS Z 1 (wT Z) b c a)(f:∀ args w,(callFunc zgf args).run Tryz.prog w = .ok (.enter zgf args) w)(g:∀ w:World,PZ [] w Z->∀(x0:List zd) (kd:Option Addr) (fx:Nat) (r:Bool),ZS Z 3 (rq gk) kd fx x0->zge x0=some r->Calls Tryz.prog zgf (([vs kd x0.length fx]:List Value)++zmh).toArray w fun e w'=>e = .returned (.bool r)/\Hp [] w w' []):
  RC 50 #[vs b a.length c,.func (.func zgf) #[] (zmh).toArray] w₀ (.bool r) [] []:=by
 unfold wn at h
 refine L0 func50 ntmps50 ?_
 refine B1n U<|WC.b<|bK h fun j i h=>D2q U<|Lm 7 (zf call92<|.r2 U U) .nil (cc hz .nil fun w pz ho=>uf _ _ _ (zgd:=zgf) (zmf:=zmh) _ (za1:=zge) _ i w pz d f g)<|Q2n U<|WC.ret ?_
 obtain rfl:=oJ h
 exact Lh results50 (.tmp U .nil)<|fun w hw=>⟨xK U,hw.sub .nil⟩
def kf(c:zt)(a:Int)(b:List (List zd)):Option Bool:=
 (if (((decide (a=0))||(decide (a=1)))&&(decide ((b.length:Int)=(c.yb.length:Int))))&&(decide ((b.length:Int)<=16)) then(wn b (fun(y0:List zd)=>wO y0 c a)).bind fun d=>some (!d) else some false).bind fun e=>some e
theorem uo(Z:Zp)(e:Option Addr)(f:Nat)(g:Option Addr)(i:Nat)(j:Option Addr)(k:Nat)(m:Option Addr)(n:Nat)(o:Option Addr)(p:Nat)(q:Option Addr)(s:Nat)(t:Option Addr)(u:Nat)(v:Option Addr)(x:Nat)(y:Option Addr)(z:Nat)(a:zt)(b:Int)(c:List (List zd))(r:Bool)(h:kf a b c=some r)(w₀:World)(hz:PZ [] w₀ Z)(D:ZS Z 4 (ju Z) e f a.fM)(E:ZS Z 4 (kv Z) g i a.yd)(F:ZS Z 4 (rq qJ) j k a.fS)(G:ZS Z 4 (rq qt) m n a.fK)(H:ZS Z 7 (vK Z) o p a.yb)(I:ZS Z 5 (rq kK) q s a.fH)(J:ZS Z 3 (kw Z) t u a.fU)(K:ZS Z 4 (rq kL) v x a.yc)(L:ZS Z 1 (wT Z) y z c):
  RC 22 #[.agg #[vs e a.fM.length f,vs g a.yd.length i,vs j a.fS.length k,vs m a.fK.length n,vs o a.yb.length p,vs q a.fH.length s,vs t a.fU.length u,vs v a.yc.length x],vi b,vs y c.length z] w₀ (.bool r) [] []:=by
 unfold kf at h
 refine Kc func22 ntmps22 ?_
 refine WC.b<|Ld (Lg 3 (xP (cs:=[vs e a.fM.length f,vs g a.yd.length i,vs j a.fS.length k,vs m a.fK.length n,vs o a.yb.length p,vs q a.fH.length s,vs t a.fU.length u,vs v a.yc.length x]) U U) fun M _=>Lg 4 (xP (cs:=[vi b]) U U) fun N _=>Q1n U<|WC.b ?_)
 refine bK h fun O C h=>Ld<|Le 7 (xl xB U<|xu .here U)<|Q2q U<|Ly false 2 9 (B:=(decide (b=0))||(decide (b=1))) U U U U U U (fun h=>(uz h).symm) (fun _ P=>?_) ?_
 ·exact Le 10 (xl xB U<|xu .here U)<|Q2q U<|Lz (uA P) U U .all
 let A:=(a.yb.length:Int);refine La U<|Ly true 6 13 (B:=((decide (b=0))||(decide (b=1)))&&(decide ((c.length:Int)=A))) U U U U U U (fun h=>(kb h).symm) (fun _ Q=>?_) ?_
 ·exact La U<|Le 15 (xQ underlying32 U)<|Le 16 (xk jK U U)<|Le 17 (xl z6n U<|xu .h1 U)<|Le 18 (xQ underlying26 U)<|Q2q U<|Lz (kc Q) U U .all
 refine La U<|Ly true 3 21 (B:=(((decide (b=0))||(decide (b=1)))&&(decide ((c.length:Int)=A)))&&(decide ((c.length:Int)<=16))) U U U U U U (fun h=>(kb h).symm) (fun _ R=>?_) ?_
 ·exact La U<|Le 23 (xQ underlying32 U)<|Q2q U<|Lz (kc R) U U .all
 refine La U<|Ly true 4 26 (B:=O) U U U U U U (fun h=>(oJ<|qr C h).symm) (fun _ S=>?_) ?_
 ·have d:=qq C S
  obtain⟨V,T,d⟩:=ze d
  replace d:=oJ d
  exact La U<|Le 28 (wq<|L4 (l:=[.tmp 3,.tmp 4])<|.r2 U U)<|Lm 29 (zf call50<|.r2 U U) .nil (sX hz .nil (.s2 .h1 .here) fun w pz ho la=>kO _ _ _ (zgf:=51) (zmh:=[vp M,vp N]) _ (zge:=(fun(y0:List zd)=>wO y0 a b)) _ T w pz ((L.mono<|zl).weak (fun _ _ h=>wd zl h)) call51<|fun w' il y0 ga0 gc0 r C0 hr=>cU _ _ _ _ _ _ _ _ _ _ _ _ _ _ _ _ _ _ _ _ _ _ _ _ _ hr w' il C0 ((D.mono<|zl).weak (fun _ _ h=>w3 zl h)) ((E.mono<|zl).weak (fun _ _ h=>w9 zl h)) (F.mono<|zl) (G.mono<|zl) ((H.mono<|zl).weak (fun _ _ h=>wh zl h)) (I.mono<|zl) ((J.mono<|zl).weak (fun _ _ h=>wa zl h)) (K.mono<|zl) ((la _ (.head _) _).stb)<|(la _ (.tail _<|.head _) _).stb)<|Q2q U<|Lz d U U .all
 refine Q1n U<|WC.ret ?_
 obtain rfl:=oJ h
 exact Lh results22 (.tmp U .nil)<|fun w hw=>⟨xK U,hw.sub .nil⟩
def kQ(a:zd):Option za:=
 some (⟨a.ya,a.fQ⟩:za)
theorem fu(Z:Zp)(a:zd)(r:za)(h:kQ a=some r)(w₀:World)(hz:PZ [] w₀ Z):
  RC 60 #[.agg #[vi a.ya,vi a.yh,vi a.fQ]] w₀ (.agg #[vi r.ya,vi r.fQ]) [] []:=by
 unfold kQ at h
 refine L7 func60 ntmps60 ?_
 refine WC.b<|Ld (Lg 1 (xP (cs:=[vi a.ya,vi a.yh,vi a.fQ]) U U) fun b _=>Lg 2 (xC (cs:=[vi 0,vi 0]) zlN U) fun c _=>Q0n<|B0q<|Le 3 (xk km U U)<|Le 4 (xl xB U<|xu .h1 U)<|Le 5 (xk tJ U U)<|Le 6 (xl xB U<|xu .h1 U)<|Le 7 (xU (v:=(.agg #[vi a.ya,vi a.fQ])) (Lq (l:=[.tmp 4,.tmp 6]) (.r2 U U) [0,1]) (fun _=>by kernel_rfl))<|Lk U U (xx zoZ U U U .here U U U)<|Q0n<|WC.ret ?_)
 obtain rfl:=oJ h
 exact Lh results60 (.agg U z6p U (xt .here) .nil)<|fun w hw=>⟨xK U,hw.sub .nil⟩
def wc(b:List za)(c:za)(d:Option Int):Nat->Int->Option Int
 | 0,_=>none
 | e+1,a=>if decide (a<b.length) then chk (0<=a/\a<b.length) (if decide (c=(⟨(nth b a).ya,(nth b a).fQ⟩:za)) then some a else wc b c d e (i64 (a+1))) else d
def vZ(a:List za)(b:za):Option Int:=
 mh (some (-1)) fun c=>wc a b c xI 0
theorem ug(Z:Zp)(g:Option Addr)(i:Nat)(e:List za)(c:za)(r:Int)(h:vZ e c=some r)(w₀:World)(hz:PZ [] w₀ Z)(m:ZS Z 2 (rq xL) g i e):
  RC 157 #[vs g e.length i,.agg #[vi c.ya,vi c.fQ]] w₀ (vi r) [] []:=by
 unfold vZ at h
 refine L0 func157 ntmps157 ?_
 refine WC.b<|Ld (Lg 3 (xP (cs:=[vi c.ya,vi c.fQ]) U U) fun k _=>Q1n U ?_)
 refine jK0 h fun l n h=>L9 (l=some r) ([]) ([]) ?_ ?_
 ·refine B1q U<|Le 7 (xQ underlying112 U)<|Q1n U<|WC.block<|Ka (fun(f:Nat) (d:Int)=>(wc e c l f d=some r)) (fun f d=>[(0,vs g e.length i),(3,vp k),(7,vi (e.length:Int)),(8,vi d)]) (fun f d=>[stb k 121 [vi c.ya,vi c.fQ]]) (fun f d=>f) ⟨xI,0⟩ h (.q U) (.cons .here .nil) ?_
  rintro(_|o) d h;·cases h
  rw[wc] at h
  refine B1n U<|WC.b<|Lj U h (fun p h=>?_)<|fun p h=>?_
  ·refine WC.skip<|Lb<|WC.b<|WC.block<|B2n U<|WC.b<|cK h fun q h=>Lw nc [] U<|Li 0 11 U (xq z6p U (xt .here) U)<|Lf 1 12 U (q_m U)<|Lf 2 13 U (q_m U)<|L8 (j:=3) (dd:=14) (by kernel_rfl) U z2J z2K U U (Z:=Z) (Pr:=(rq xL)) z8f U U m q ?_
   rintro u v s x rfl
   refine Li 4 15 U (xq z6p U (vY hz.pv s) U)<|Lf 5 16 U (su (enc:=xL) (a:=c) (b:=(⟨(nth e d).ya,(nth e d).fQ⟩:za)) zp0 U U)<|WD.done (by kernel_rfl)<|Lb<|Lj U h (fun t h=>?_)<|fun t h=>?_
   ·refine B2n U<|WC.ret<|Lv<|Ll<|Ll<|Lv<|Ll ?_
    obtain rfl:=oJ h
    exact Lh results157 (.tmp U .nil)<|fun w hw=>⟨xK U,hw.sub .nil⟩
   ·exact WC.skip<|Lu<|Lb<|D2q U<|WL.nil<|WX.round ⟨o,i64 (d+1)⟩ h (Nat.lt_succ_self _) (.q U)<|.cons .here .nil
  ·exact WC.exit<|Ln<|Ln<|Lx<|Lp () h .nil .nil
 ·rintro  h
  replace h:=n.symm.trans h
  refine B1n U<|WC.ret ?_
  obtain rfl:=oJ h
  exact Lh results157 (.tmp U .nil)<|fun w hw=>⟨xK U,hw.sub .nil⟩
def wU(a:List za)(b:za):Option Bool:=
 (vZ a b).bind fun c=>some (decide (c>=0))
theorem mA(Z:Zp)(c:Option Addr)(d:Nat)(b:List za)(a:za)(r:Bool)(h:wU b a=some r)(w₀:World)(hz:PZ [] w₀ Z)(e:ZS Z 2 (rq xL) c d b):
  RC 114 #[vs c b.length d,.agg #[vi a.ya,vi a.fQ]] w₀ (.bool r) [] []:=by
 unfold wU at h
 refine L0 func114 ntmps114 ?_
 refine WC.b<|Ld (Lg 3 (xP (cs:=[vi a.ya,vi a.fQ]) U U) fun g _=>Q1n U<|WC.b ?_)
 refine bK h fun i f h=>D1q U<|Le 6 (xq z6p U (xt .here) U)<|Lm 7 (zf call157<|.r2 U U) .nil (cc hz .nil fun w pz ho=>ug _ _ _ _ _ _ f w pz e)<|Q2n U<|WC.ret ?_
 obtain rfl:=oJ h
 exact Lh results114 (.tmp U .nil)<|fun w hw=>⟨xK U,hw.sub .nil⟩
def fw(a:Int):Option Bool:=
 some (decide (a≠a))
theorem pY(Z:Zp)(a:Int)(r:Bool)(h:fw a=some r)(w₀:World)(hz:PZ [] w₀ Z):
  RC 131 #[vi a] w₀ (.bool r) [] []:=by
 unfold fw at h
 refine L7 func131 ntmps131 ?_
 refine B1n U<|B4n U<|WC.ret ?_
 obtain rfl:=oJ h
 exact Lh results131 (.tmp U .nil)<|fun w hw=>⟨xK U,hw.sub .nil⟩
def kX(a:Int)(b:Int):Option Int:=
 (fw a).bind fun d=>(fw b).bind fun c=>if d then if c then some 0 else some (-1) else if c then some 1 else if decide (a<b) then some (-1) else if decide (a>b) then some 1 else some 0
theorem rD(Z:Zp)(a:Int)(b:Int)(r:Int)(h:kX a b=some r)(w₀:World)(hz:PZ [] w₀ Z):
  RC 85 #[vi a,vi b] w₀ (vi r) [] []:=by
 unfold kX at h
 refine L0 func85 ntmps85 ?_
 refine B1n U<|WC.b<|bK h fun k c h=>D1q U<|Lm 8 (zf call131<|.cons U .nil) .nil (cc hz .nil fun w pz ho=>pY _ _ _ c w pz )<|Q1n U<|WC.b<|bK h fun l d h=>D1q U<|Lm 10 (zf call131<|.cons U .nil) .nil (cc hz .nil fun w pz ho=>pY _ _ _ d w pz )<|Q1n U<|WC.b<|B1n U<|Lj U h (fun e h=>?_)<|fun e h=>?_
 ·refine WC.b<|B1n U<|Lj U h (fun f h=>?_)<|fun f h=>?_
  ·refine B1n U<|WC.ret<|Ll<|Ll ?_
   obtain rfl:=oJ h
   exact Lh results85 (.tmp U .nil)<|fun w hw=>⟨xK U,hw.sub .nil⟩
  ·refine WC.skip<|Lb<|B1n U<|WC.ret<|Ll ?_
   obtain rfl:=oJ h
   exact Lh results85 (.tmp U .nil)<|fun w hw=>⟨xK U,hw.sub .nil⟩
 ·refine WC.skip<|Lb<|WC.b<|B1n U<|Lj U h (fun g h=>?_)<|fun g h=>?_
  ·refine B1n U<|WC.ret<|Ll ?_
   obtain rfl:=oJ h
   exact Lh results85 (.tmp U .nil)<|fun w hw=>⟨xK U,hw.sub .nil⟩
  ·refine WC.skip<|Lb<|WC.b<|B3n U<|Lj U h (fun i h=>?_)<|fun i h=>?_
   ·refine B1n U<|WC.ret<|Ll ?_
    obtain rfl:=oJ h
    exact Lh results85 (.tmp U .nil)<|fun w hw=>⟨xK U,hw.sub .nil⟩
   ·refine WC.skip<|Lb<|WC.b<|B3n U<|Lj U h (fun j h=>?_)<|fun j h=>?_
    ·refine B1n U<|WC.ret<|Ll ?_
     obtain rfl:=oJ h
     exact Lh results85 (.tmp U .nil)<|fun w hw=>⟨xK U,hw.sub .nil⟩
    ·refine WC.skip<|Lb<|B1n U<|WC.ret ?_
     obtain rfl:=oJ h
     exact Lh results85 (.tmp U .nil)<|fun w hw=>⟨xK U,hw.sub .nil⟩
def kR(b:List Int)(c:Option Int):Nat->Int->Option Int
 | 0,_=>none
 | d+1,a=>if decide (a<b.length) then chk (0<=a/\a<b.length) (if decide ((nth b a)≠0) then some (nth b a) else kR b c d (i64 (a+1))) else c
def uI(a:List Int):Option Int:=
 mh (some 0) fun b=>kR a b xI 0
theorem ae(Z:Zp)(d:Option Addr)(e:Nat)(b:List Int)(r:Int)(h:uI b=some r)(w₀:World)(hz:PZ [] w₀ Z)(g:ZS Z 1 (rq e3) d e b):
  RC 84 #[vs d b.length e] w₀ (vi r) [] []:=by
 unfold uI at h
 refine L7 func84 ntmps84 ?_
 refine B1n U<|B1n U<|jK0 h fun f i h=>L9 (f=some r) ([(3,vi 0)]) ([]) ?_ ?_
 ·refine B1q U<|Le 7 (xQ underlying50 U)<|Q1n U<|WC.block<|Ka (fun(c:Nat) (a:Int)=>(kR b f c a=some r)) (fun c a=>[(3,vi 0),(6,vs d b.length e),(7,vi (b.length:Int)),(8,vi a)]) (fun c a=>[]) (fun c a=>c) ⟨xI,0⟩ h (.q U) .nil ?_
  rintro(_|j) a h;·cases h
  rw[kR] at h
  refine B1n U<|WC.b<|Lj U h (fun k h=>?_)<|fun k h=>?_
  ·refine WC.skip<|Lb<|WC.b<|WC.block<|WC.b<|cK h fun l h=>Ld<|L2 (dd:=10) U U (Z:=Z) (Pr:=(rq e3)) z8g U U g l ?_
   rintro o p m q rfl
   refine Le 11 (xl xB U<|jS hz.pv m U)<|Q1n U<|B3n U<|Lj U h (fun n h=>?_)<|fun n h=>?_
   ·refine B2n U<|WC.ret<|Lv<|Ll<|Ll<|Lv<|Ll ?_
    obtain rfl:=oJ h
    exact Lh results84 (.tmp U .nil)<|fun w hw=>⟨xK U,hw.sub .nil⟩
   ·exact WC.skip<|Lu<|Lb<|D2q U<|WL.nil<|WX.round ⟨j,i64 (a+1)⟩ h (Nat.lt_succ_self _) (.q U) .nil
  ·exact WC.exit<|Ln<|Ln<|Lx<|Lp () h (.cons U .nil) .nil
 ·rintro  h
  replace h:=i.symm.trans h
  refine B2n U<|WC.ret ?_
  obtain rfl:=oJ h
  exact Lh results84 (.tmp U .nil)<|fun w hw=>⟨xK U,hw.sub .nil⟩
def wM(a:za)(b:za):Option Int:=
 (kX a.ya b.ya).bind fun c=>(kX a.fQ b.fQ).bind fun d=>(uI ([c,d]:List Int)).bind fun e=>some e
theorem tY(Z:Zp)(a:za)(b:za)(r:Int)(h:wM a b=some r)(w₀:World)(hz:PZ [] w₀ Z):
  RC 45 #[.agg #[vi a.ya,vi a.fQ],.agg #[vi b.ya,vi b.fQ]] w₀ (vi r) [] []:=by
 unfold wM at h
 refine L0 func45 ntmps45 ?_
 refine WC.b<|Ld (Lg 2 (xP (cs:=[vi a.ya,vi a.fQ]) U U) fun j _=>Lg 3 (xP (cs:=[vi b.ya,vi b.fQ]) U U) fun k _=>Q1n U<|WC.b ?_)
 refine bK h fun c d h=>bK h fun e f h=>bK h fun n g h=>Lw nc [] U<|Lf 0 5 U (xk sE U U)<|Li 1 6 U (xl xB U<|xu .h1 U)<|Lf 2 7 U (xk sE U U)<|Li 3 8 U (xl xB U<|xu .here U)<|L5 4 9 U (zf call85<|.r2 U U) (cc hz .nil fun w pz ho=>rD _ _ _ _ d w pz )<|Lf 5 10 U (xk ph U U)<|Li 6 11 U (xl xB U<|xu .h1 U)<|Lf 7 12 U (xk ph U U)<|Li 8 13 U (xl xB U<|xu .here U)<|L5 9 14 U (zf call85<|.r2 U U) (cc hz .nil fun w pz ho=>rD _ _ _ _ f w pz ) (WD.new (i:=10) (dd:=15) U (by kernel_rfl) U U U (xV (cs:=([c,e]:List Int).flatMap e3) z8g (Lq (l:=[.tmp 9,.tmp 14]) (.r2 U U) [0,1]) (fun _=>by kernel_rfl) U (by unfold maxLen;omega)) (fun h'=>absurd h' (by decide)) fun m _=>L5 11 16 U (zf call84<|.cons U .nil) (sX hz .nil (.cons .here .nil) fun w pz ho la=>ae _ _ _ _ _ g w pz<|ZA.row (la _ (.head _) _) (RR.flat (enc:=e3) (fun _=>U) _) ⟨w,pz.1⟩)<|Lf 12 4 U (q_z U)<|WD.done (by kernel_rfl)<|Lb<|WC.ret ?_)
 obtain rfl:=oJ h
 exact Lh results45 (.tmp U .nil)<|fun w hw=>⟨xK U,hw.sub .nil⟩
def kq(z9m:Int):Option Int:=chk (0<=z9m/\z9m<=18446744073709551615) (some ((Go.Lib.bitLen (z9m).toNat:Nat):Int))
theorem tZ(Z:Zp)(z9m:Int)(r:Int)(w₀:World)(hz:PZ [] w₀ Z)(h:kq z9m=some r):Calls Tryz.prog 57 #[.int .u64 z9m] w₀ fun e w'=>e = .returned (vi r)/\Hp [] w₀ w' []:=by
 obtain⟨h0,h⟩:=xv h
 obtain rfl:=oJ h
 refine(Tryz.bits_Len z9m w₀ h0.1 h0.2).mono ?_
 rintro e w' ⟨rfl,rfl⟩
 exact⟨U,Hp.nil w' []⟩
theorem zLR:∀ w,(isAgg (Tryz.jq.t 24)).run Tryz.prog w = .ok true w:=fun _=>by kernel_rfl
theorem zLS:∀ w,(Go.sizeOf (Tryz.jq.t 24)).run Tryz.prog w = .ok 2 w:=fun _=>by kernel_rfl
def jL(z6w:List za)(zml:Int)(zmm:Int)(zix:Int)(zgh:za->za->Option Int):Option (List za):=chk ((zml=0/\zmm=(z6w.length:Int))/\(0<=zix/\zix<4611686018427387904/\z6w.length<4611686018427387904)) (chk (tB zgh (w8 zgh z6w)=true) (some (w8 zgh z6w)))
theorem uV(Z:Zp)(zgi:Option Addr)(zgj:Nat)(zmn:FuncId)(zv4:List Value)(z6w:List za)(zml:Int)(zmm:Int)(zix:Int)(zgh:za->za->Option Int)(r:List za)(w₀:World)(hz:Pz [row (vs zgi z6w.length zgj) 121 2 (z6w.flatMap xL)] w₀ Z)(a:∀ args w,(callFunc zmn args).run Tryz.prog w = .ok (.enter zmn args) w)(b:∀ w:World,PZ [] w Z->∀(x0:za) (x1:za) (r:Int),zgh x0 x1=some r->Calls Tryz.prog zmn (([.agg #[vi x0.ya,vi x0.fQ],.agg #[vi x1.ya,vi x1.fQ]]:List Value)++zv4).toArray w fun e w'=>e = .returned (vi r)/\Hp [] w w' [])(h:jL z6w zml zmm zix zgh=some r)(fh:Ho w₀ [row (vs zgi z6w.length zgj) 121 2 (z6w.flatMap xL)]):
  Calls Tryz.prog 158 #[vs zgi z6w.length zgj,vi zml,vi zmm,vi zix,.func (.func zmn) #[] (zv4).toArray] w₀ fun e w'=>e = .returned (.tuple #[])/\(r.length=z6w.length)/\Hp (fps [row (vs zgi z6w.length zgj) 121 2 (z6w.flatMap xL)]) w₀ w' [row (vs zgi r.length zgj) 121 2 (r.flatMap xL)]:=by
 obtain⟨h0,h⟩:=xv h
 obtain⟨h1,h⟩:=xv h
 have hr:=(oJ h).symm
 exact sW (P:=Tryz.prog) (f:=158) (e:=121) (k:=2) (enc:=xL) (fun _=>U) (by decide) oC (fun β _ enc cf g cb hO xR off cap d0 w0 eg hC R=>Tryz.sx 2 zLR zLS enc cf g cb hO xR off cap d0 w0 eg hC R) (Tryz.se (α:=Unit)) hz a b h0 h1 hr fh
def wV(a:List za)(ziy:za->za->Option Int):Option (List za):=
 (kq (u64 (a.length:Int))).bind fun b=>(jL a 0 (a.length:Int) b ziy).bind fun c=>some c
theorem mB(Z:Zp)(b:Option Addr)(c:Nat)(ziz:FuncId)(zpy:List Value)(a:List za)(ziy:za->za->Option Int)(r:List za)(h:wV a ziy=some r)(w₀:World)(hz:Pz [row (vs b a.length c) 121 2 (a.flatMap xL)] w₀ Z)(j:∀ args w,(callFunc ziz args).run Tryz.prog w = .ok (.enter ziz args) w)(k:∀ w:World,PZ [] w Z->∀(x0:za) (x1:za) (r:Int),ziy x0 x1=some r->Calls Tryz.prog ziz (([.agg #[vi x0.ya,vi x0.fQ],.agg #[vi x1.ya,vi x1.fQ]]:List Value)++zpy).toArray w fun e w'=>e = .returned (vi r)/\Hp [] w w' [])(fh:Ho w₀ [row (vs b a.length c) 121 2 (a.flatMap xL)]):
  Calls Tryz.prog 115 #[vs b a.length c,.func (.func ziz) #[] (zpy).toArray] w₀ fun e w'=>e = .returned (.tuple #[])/\(r.length=a.length)/\Hp (fps [row (vs b a.length c) 121 2 (a.flatMap xL)]) w₀ w' [row (vs b r.length c) 121 2 (r.flatMap xL)]:=by
 unfold wV at h
 refine Kd func115 ntmps115 fh ?_
 refine B1q U<|Le 6 (xQ underlying112 U)<|Q1n U<|bK h fun d l h=>bK h fun f m h=>D3q U<|Le 10 (tk underlying3 underlying147 U U)<|Lm 11 (zf call57<|.cons U .nil) .nil (cc hz .nil fun w pz ho=>tZ (Z:=_)  (z9m:=(u64 (a.length:Int))) (r:=d) w pz  l)<|La U<|WL.gj (dd:=13) U U U (zf call158<|.r5 U U U U U) (.cons .here .nil) (cc hz (.cons .here .nil) fun w pz ho=>uV (Z:=_) (zgi:=b) (zgj:=c) (zmn:=ziz) (zv4:=zpy) (z6w:=a) (zml:=0) (zmm:=(a.length:Int)) (zix:=d) (zgh:=ziy) (r:=f) w pz j k m ho) ?_
 rintro  g
 refine Ke (i:=0) U (u:=(vs b f.length c)) (ue g.symm)<|WL.nil ?_
 obtain rfl:=oJ h
 exact WX.gP results115 .nil<|fun w hw=>⟨sp,g.trans U,hw.sub (.cons .here .nil)⟩
def jV(b:List (List zd))(c:Int)(f:(List za)->Option (List za)):Nat->(List za)->Int->Option (List za)
 | 0,_,_=>none
 | h+1,d,a=>if decide (a<((nth b c).length:Int)) then jG (fun(i:List za)=>jV b c f h i (i64 (a+1))) fun g=>chk (0<=a/\a<((nth b c).length:Int)) ((kQ (⟨(nth (nth b c) a).ya,(nth (nth b c) a).yh,(nth (nth b c) a).fQ⟩:zd)).bind fun j=>(wU d j).bind fun k=>if !k then(kQ (⟨(nth (nth b c) a).ya,(nth (nth b c) a).yh,(nth (nth b c) a).fQ⟩:zd)).bind fun e=>chk (((d++([e]:List za)).length:Int)*16<=140737488355328/\((d++([e]:List za)).length:Int)<=4611686018427387904) (g (d++([e]:List za))) else g d) else f d
def jW(b:List (List zd))(c:(List za)->Option (List za)):Nat->(List za)->Int->Option (List za)
 | 0,_,_=>none
 | e+1,d,a=>if decide (a<b.length) then jG (fun(f:List za)=>jW b c e f (i64 (a+1))) fun g=>chk (0<=a/\a<b.length) (jG (fun(h:List za)=>g h) fun i=>jV b a i xI d 0) else c d
def mq(a:List (List zd)):Option (List za):=
 jG (fun(b:List za)=>(wV b (fun(y0:za) (y1:za)=>wM y0 y1)).bind fun c=>some c) fun d=>jW a d xI ([]:List za) 0
theorem el(Z:Zp)(I:Option Addr)(J:Nat)(d:List (List zd))(r:List za)(h:mq d=some r)(w₀:World)(hz:PZ [] w₀ Z)(P:ZS Z 1 (wT Z) I J d):
  Calls Tryz.prog 73 #[vs I d.length J] w₀ fun e w'=>∃ L:Option Addr,∃ M:Nat,e = .returned (vs L r.length M)/\True/\Hp [] w₀ w' [row (vs L r.length M) 121 2 (r.flatMap xL)]:=by
 unfold mq at h
 refine L7 func73 ntmps73 ?_
 refine B1n U<|B1n U<|jK1 h fun N Q h=>WC.qN (fun(k:List za) (s:Option Addr) (t:Nat)=>(N k=some r)) (fun k s t=>[(3,vs s k.length t)]) (fun k s t=>[row (vs s k.length t) 121 2 (k.flatMap xL)]) ?_ ?_
 ·let A:Value:=(vs I d.length J);let C:Value:=(vi (d.length:Int));refine B1q U<|Le 9 (xQ underlying32 U)<|Q1n U<|WC.block<|WC.nilRow 121 2<|WC.tz (fun(G:Nat) (c:List za) (a:Int) (m:Option Addr) (n:Nat)=>(jW d N G c a=some r)) (fun G c a m n=>[(3,vs m c.length n),(8,A),(9,C),(10,vi a)]) (fun G c a m n=>[row (vs m c.length n) 121 2 (c.flatMap xL)]) (fun G c a m n=>G) ⟨xI,([]:List za),0,none,0⟩ h (.q U) (.cons .here .nil) ?_
  rintro(_|R) c a m n h;·cases h
  rw[jW] at h
  refine B1n U<|WC.b<|Lj U h (fun S h=>?_)<|fun S h=>?_
  ·refine WC.skip<|Lb<|jK1 h fun T V h=>WC.qN (fun(f:List za) (v:Option Addr) (x:Nat)=>(T f=some r)) (fun f v x=>[(3,vs v f.length x),(8,A),(9,C),(10,vi a)]) (fun f v x=>[row (vs v f.length x) 121 2 (f.flatMap xL)]) ?_ ?_
   ·refine WC.block<|WC.b<|cK h fun W h=>Ld<|L2 (dd:=12) U U (Z:=Z) (Pr:=(wT Z)) z4O U U P W ?_
    rintro aw ax X ay ⟨Y,aa,rfl,ab⟩
    refine Le 13 (xl z9h U<|jS hz.pv X U)<|Q1n U<|B1q U<|Le 15 (xQ underlying58 U)<|Q1n U<|jK1 h fun O ad h=>WC.mid3 (fun(g:List za) (y:Option Addr) (z:Nat)=>(O g=some r)) (fun g y z=>[(3,vs y g.length z),(8,A),(9,C),(10,vi a)]) (fun g y z=>[row (vs y g.length z) 121 2 (g.flatMap xL)]) ?_ ?_
    ·let D:Value:=(vs Y ((nth d a).length) aa);let E:=((nth d a).length:Int);refine WC.block<|WC.tz (fun(H:Nat) (b:List za) (o:Int) (p:Option Addr) (q:Nat)=>(jV d a O H b o=some r)) (fun H b o p q=>[(3,vs p b.length q),(8,A),(9,C),(10,vi a),(14,D),(15,vi E),(16,vi o)]) (fun H b o p q=>[row (vs p b.length q) 121 2 (b.flatMap xL)]) (fun H b o p q=>H) ⟨xI,c,0,m,n⟩ h (.q U) (.cons .here .nil) ?_
     rintro(_|ae) b o p q h;·cases h
     rw[jV] at h
     refine B1n U<|WC.b<|Lj U h (fun af h=>?_)<|fun af h=>?_
     ·refine WC.skip<|Lb<|jK1 h fun ag ah h=>WC.qN (fun(j:List za) (B:Option Addr) (F:Nat)=>(ag j=some r)) (fun j B F=>[(3,vs B j.length F),(8,A),(9,C),(10,vi a),(14,D),(15,vi E),(16,vi o)]) (fun j B F=>[row (vs B j.length F) 121 2 (j.flatMap xL)]) ?_ ?_
      ·refine WC.block<|WC.b<|cK h fun ai h=>Ld<|L2 (dd:=18) U U (Z:=Z) (Pr:=(rq gk)) z8e U U ab ai ?_
       rintro az aA aj aB rfl
       refine Le 19 (xq z5R U (vY hz.pv aj) U) (Lg 7 (xC (cs:=[vi 0,vi 0,vi 0]) zc0 U) fun aC _=>Lk U U (xx zaG U U U .here U U U)<|Q0n<|WC.b ?_)
       refine bK h fun aE ak h=>bK h fun aF al h=>D1q U<|Le 21 (xq z5R U (xt .here) U)<|Lm 22 (zf call60<|.cons U .nil) .nil (cc hz .nil fun w pz ho=>fu _ _ _ ak w pz )<|Lm 23 (zf call114<|.r2 U U) .nil (sX hz .nil (.cons .h1 .nil) fun w pz ho la=>mA _ _ _ _ _ _ al w pz<|ZA.row (la _ (.head _) _) (RR.flat (enc:=xL) (fun _=>U) _) ⟨w,pz.1⟩)<|Q1n U<|Lj U h (fun am h=>?_)<|fun am h=>?_
       ·refine bK h fun K an h=>cK h fun ao h=>D1q U<|Le 26 (xq z5R U (xt .here) U)<|Lm 27 (zf call60<|.cons U .nil) .nil (cc hz .nil fun w pz ho=>fu _ _ _ an w pz ) (Lg 28 (xV (cs:=([K]:List za).flatMap xL) z8f (Lq (l:=[.tmp 27]) (.cons U .nil) [0]) (fun _=>by kernel_rfl) U (by unfold maxLen;omega)) fun aD _=>WL.fA 29 (kZ (enc:=xL) (l1:=b) (l2:=([K]:List za)) z8f U U .h2 (fun _=>U) U U (qg .here) (gr oC _) ao) ?_)
        rintro⟨ap,aq⟩ _
        exact La U<|WL.nil<|Lu<|Lp ⟨b++([K]:List za),ap,aq⟩ h (.q U)<|.cons .here .nil
       ·exact WC.skip<|Lu<|Lp ⟨b,p,q⟩ h (.q U)<|.cons .h1 .nil
      ·rintro j B F h
       replace h:=(ah j).symm.trans h
       exact D2q U<|WL.nil<|WX.round ⟨ae,j,i64 (o+1),B,F⟩ h (Nat.lt_succ_self _) (.q U)<|.cons .here .nil
     ·exact WC.exit<|Ln<|Ln<|Lx<|Lp ⟨b,p,q⟩ h (.q U)<|.cons .here .nil
    ·rintro g y z h
     replace h:=(ad g).symm.trans h
     exact Lu<|Lp ⟨g,y,z⟩ h (.q U)<|.cons .here .nil
   ·rintro f v x h
    replace h:=(V f).symm.trans h
    exact D2q U<|WL.nil<|WX.round ⟨R,f,i64 (a+1),v,x⟩ h (Nat.lt_succ_self _) (.q U)<|.cons .here .nil
  ·exact WC.exit<|Ln<|Ln<|Lx<|Lp ⟨c,m,n⟩ h (.cons U .nil)<|.cons .here .nil
 ·rintro k s t h
  replace h:=(Q k).symm.trans h
  refine WC.b<|bK h fun ar au h=>D1q U<|WL.gj (dd:=33) U U U (zf call115<|.r2 U U) (.cons .here .nil) (cc hz (.cons .here .nil) fun w pz ho=>mB _ _ _ (ziz:=45) (zpy:=[]) _ (ziy:=(fun(y0:za) (y1:za)=>wM y0 y1)) _ au w pz call45 (fun w' il y0 y1  r  hr=>tY _ _ _ _ hr w' il ) ho) ?_
  rintro  av
  refine Ke (i:=3) U (u:=(vs s ar.length t)) (ue av.symm)<|Q0n<|B2n U<|WC.ret ?_
  obtain rfl:=oJ h
  exact Lh results73 (.tmp U .nil)<|fun w hw=>⟨s,t,xK U,trivial,hw.sub (.cons .here .nil)⟩
def mr(a:zd)(b:Int):Option Bool:=
 some (decide (a.yh=b))
theorem em(Z:Zp)(b:Addr)(a:zd)(c:Int)(r:Bool)(h:mr a c=some r)(w₀:World)(hz:PZ [] w₀ Z)(d:ZC Z b [vi c]):
  RC 116 #[.agg #[vi a.ya,vi a.yh,vi a.fQ],vq b] w₀ (.bool r) [] []:=by
 unfold mr at h
 refine L0 func116 ntmps116 ?_
 refine WC.b<|Ld (Lg 2 (xP (cs:=[vi a.ya,vi a.yh,vi a.fQ]) U U) fun e _=>Q1n U<|B0q<|Le 4 (xk gR U U)<|Le 5 (xl xB U<|xu .here U)<|Le 6 (xl xB U<|jS hz.pv d U)<|Q2n U<|WC.ret ?_)
 obtain rfl:=oJ h
 exact Lh results116 (.tmp U .nil)<|fun w hw=>⟨xK U,hw.sub .nil⟩
def wi(b:List zd)(z8l:zd->Option Bool)(c:Option Int):Nat->Int->Option Int
 | 0,_=>none
 | d+1,a=>if decide (a<b.length) then chk (0<=a/\a<b.length) ((z8l (⟨(nth b a).ya,(nth b a).yh,(nth b a).fQ⟩:zd)).bind fun e=>if e then some a else wi b z8l c d (i64 (a+1))) else c
def we(a:List zd)(z8l:zd->Option Bool):Option Int:=
 mh (some (-1)) fun b=>wi a z8l b xI 0
theorem qv(Z:Zp)(d:Option Addr)(g:Nat)(zaL:FuncId)(zee:List Value)(b:List zd)(z8l:zd->Option Bool)(r:Int)(h:we b z8l=some r)(w₀:World)(hz:PZ [] w₀ Z)(j:ZS Z 3 (rq gk) d g b)(k:∀ args w,(callFunc zaL args).run Tryz.prog w = .ok (.enter zaL args) w)(m:∀ w:World,PZ [] w Z->∀(x0:zd) (r:Bool),z8l x0=some r->Calls Tryz.prog zaL (([.agg #[vi x0.ya,vi x0.yh,vi x0.fQ]]:List Value)++zee).toArray w fun e w'=>e = .returned (.bool r)/\Hp [] w w' []):
  RC 94 #[vs d b.length g,.func (.func zaL) #[] (zee).toArray] w₀ (vi r) [] []:=by
 unfold we at h
 refine L0 func94 ntmps94 ?_
 refine B1n U<|jK0 h fun i n h=>L9 (i=some r) ([]) ([]) ?_ ?_
 ·refine B1q U<|Le 7 (xQ underlying58 U)<|Q1n U<|WC.block<|Ka (fun(c:Nat) (a:Int)=>(wi b z8l i c a=some r)) (fun c a=>[(0,vs d b.length g),(1,.func (.func zaL) #[] (zee).toArray),(7,vi (b.length:Int)),(8,vi a)]) (fun c a=>[]) (fun c a=>c) ⟨xI,0⟩ h (.q U) .nil ?_
  rintro(_|o) a h;·cases h
  rw[wi] at h
  refine B1n U<|WC.b<|Lj U h (fun p h=>?_)<|fun p h=>?_
  ·refine WC.skip<|Lb<|WC.b<|WC.block<|B2n U<|WC.b<|cK h fun q h=>bK h fun s t h=>D3q U<|L2 (dd:=14) U U (Z:=Z) (Pr:=(rq gk)) z8e U U j q ?_
   rintro x y u z rfl
   refine Le 15 (xq z5R U (vY hz.pv u) U)<|Lm 16 (qp (l:=[.tmp 15]) (f:=zaL) (caps:=zee) k U<|.cons U .nil) .nil (fun w hw=>m w (hz.now hw) (⟨(nth b a).ya,(nth b a).yh,(nth b a).fQ⟩:zd) s  t)<|Q0n<|Lj U h (fun v h=>?_)<|fun v h=>?_
   ·refine B2n U<|WC.ret<|Lv<|Ll<|Ll<|Lv<|Ll ?_
    obtain rfl:=oJ h
    exact Lh results94 (.tmp U .nil)<|fun w hw=>⟨xK U,hw.sub .nil⟩
   ·exact WC.skip<|Lu<|Lb<|D2q U<|WL.nil<|WX.round ⟨o,i64 (a+1)⟩ h (Nat.lt_succ_self _) (.q U) .nil
  ·exact WC.exit<|Ln<|Ln<|Lx<|Lp () h .nil .nil
 ·rintro  h
  replace h:=n.symm.trans h
  refine B1n U<|WC.ret ?_
  obtain rfl:=oJ h
  exact Lh results94 (.tmp U .nil)<|fun w hw=>⟨xK U,hw.sub .nil⟩
def gV(b:List zd)(c:Int):Option (zd×Bool):=
 (we b (fun(y0:zd)=>mr y0 c)).bind fun a=>if decide (a<0) then some ((⟨0,0,0⟩:zd),false) else chk (0<=a/\a<b.length) (some ((⟨(nth b a).ya,(nth b a).yh,(nth b a).fQ⟩:zd),true))
theorem pl(Z:Zp)(c:Option Addr)(d:Nat)(b:List zd)(a:Int)(r:zd×Bool)(h:gV b a=some r)(w₀:World)(hz:PZ [] w₀ Z)(e:ZS Z 3 (rq gk) c d b):
  RC 77 #[vs c b.length d,vi a] w₀ (.tuple #[.agg #[vi r.1.ya,vi r.1.yh,vi r.1.fQ],.bool r.2]) [] []:=by
 unfold gV at h
 refine L0 func77 ntmps77 ?_
 refine WC.b<|Ld (Lg 3 (xP (cs:=[vi a]) U U) fun f _=>Lg 4 (xC (cs:=[vi 0,vi 0,vi 0]) zc0 U) fun m _=>Q1n U<|WC.b ?_)
 refine bK h fun q g h=>D1q U<|Le 8 (wq<|L4 (l:=[.tmp 3])<|.cons U .nil)<|Lm 9 (zf call94<|.r2 U U) .nil (sX hz .nil (.cons .h1 .nil) fun w pz ho la=>qv _ _ _ (zaL:=116) (zee:=[vp f]) _ (z8l:=(fun(y0:zd)=>mr y0 a)) _ g w pz (e.mono<|zl) call116<|fun w' il y0  r  hr=>em _ _ _ _ _ hr w' il<|(la _ (.head _) _).stb)<|Q1n U<|WC.b<|B2n U<|Lj U h (fun i h=>?_)<|fun i h=>?_
 ·refine B0q<|Le 12 (xU (v:=(.agg #[vi 0,vi 0,vi 0])) (Lq (l:=[]) .nil []) (fun _=>by kernel_rfl))<|Lk U U (xx zaG U U U .here U U U)<|Q1n U<|WC.ret<|Ll ?_
  obtain rfl:=oJ h
  exact Lh results77 (.agg U z5R U (xt .here)<|.tmp U .nil)<|fun w hw=>⟨vg U U,hw.sub .nil⟩
 ·refine WC.skip<|Lb<|WC.b<|cK h fun j h=>D2q U<|L2 (dd:=15) U U (Z:=Z) (Pr:=(rq gk)) z8e U U e j ?_
  rintro n o k p rfl
  refine Le 16 (xq z5R U (vY hz.pv k) U)<|Lk U U (xx zaG U U U .here U U U)<|Q1n U<|WC.ret ?_
  obtain rfl:=oJ h
  exact Lh results77 (.agg U z5R U (xt .here)<|.tmp U .nil)<|fun w hw=>⟨vg U U,hw.sub .nil⟩
end Go.Proofs.YthjnhebofpebpaaGreat
