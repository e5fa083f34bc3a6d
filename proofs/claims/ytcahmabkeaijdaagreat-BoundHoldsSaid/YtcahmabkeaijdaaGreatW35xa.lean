/- A part of this claim's proof: models of functions, walks, plain laws. No conditions. -/
import Derived.Test.YtcahmabkeaijdaaGreatZMem
import Derived.Test.YtcahmabkeaijdaaGreatZObj
import Derived.Test.YtcahmabkeaijdaaGreatShelf35
import Derived.Test.YtcahmabkeaijdaaGreatProg
set_option linter.all false
namespace Go.Proofs.YtcahmabkeaijdaaGreat
open Go Go.RowKit Sep Tryz
set_option maxRecDepth 30000
set_option maxHeartbeats 4000000
abbrev RC (f:FuncId)(vs:Array Value)(Nv:World)(v:Value)(F:List Nat)(L:List Asrt):Prop:=Calls Tryz.prog f vs Nv fun e w'=>e=.returned v/\Hp F Nv w' L
abbrev RF (f:FuncId)(vs:Array Value)(Nv:World)(v:Value)(M L:List Asrt):Prop:=Calls Tryz.prog f vs Nv fun e w'=>e=.returned v/\Hp (fps M) Nv w' L
abbrev Pz (M:List Asrt)(Nv:World)(Z:Zp):Prop:=PZ (fps M) Nv Z
abbrev Ho (Nv:World)(M:List Asrt):Prop:=Hp (fps M) Nv Nv M

structure yX where
 yJ:ByteArray
 xr:Int
 fOut:Bool
 yo:Int
 xx:Int
 xn:Int
 deriving Inhabited,DecidableEq
structure yY where
 fOp:Int
 fA:Int
 fB:Int
 fC:Int
 deriving Inhabited,DecidableEq
structure yV where
 yJ:ByteArray
 xz:Int
 xc:Int
 xv:Int
 xd:List yY
 deriving Inhabited,DecidableEq
structure yU where
 yJ:ByteArray
 xc:Int
 xp:Int
 xk:Int
 xe:List Int
 xq:Int
 xo:Int
 xj:List Int
 fP:List yX
 xg:List yV
 deriving Inhabited,DecidableEq
structure yz where
 yJ:ByteArray
 xk:Int
 xw:Int
 xf:List yU
 deriving Inhabited,DecidableEq
structure yL where
 yO:ByteArray
 yW:ByteArray
 yZ:ByteArray
 deriving Inhabited,DecidableEq
structure yN where
 yD:yL
 xa:List yL
 deriving Inhabited,DecidableEq
structure yu where
 yJ:ByteArray
 yR:Int
 yl:Int
 fT:Int
 deriving Inhabited,DecidableEq
structure yE where
 fA:ByteArray
 fB:ByteArray
 yR:Int
 yr:Int
 deriving Inhabited,DecidableEq
structure yw where
 yJ:ByteArray
 yD:yL
 yK:Int
 yC:Int
 xa:List yL
 deriving Inhabited,DecidableEq
structure yT where
 yO:ByteArray
 yW:ByteArray
 xl:Int
 xm:Int
 fDo:Int
 deriving Inhabited,DecidableEq
structure yS where
 xu:ByteArray
 xd:Int
 deriving Inhabited,DecidableEq
structure yQ where
 xu:ByteArray
 xh:List yS
 xi:List ByteArray
 deriving Inhabited,DecidableEq
structure yP where
 fA:ByteArray
 fVA:Int
 fB:ByteArray
 fVB:Int
 deriving Inhabited,DecidableEq
structure zV where
 fM:List yz
 yf:List yN
 fS:List yu
 fK:List yE
 yg:List yw
 fH:List yT
 fU:List yQ
 ye:List yP
 deriving Inhabited,DecidableEq
def e3(x:Int):List Value:=[vi x]
theorem e3_oc:∀ x,∀ u∈e3 x,u.oneCell'=true:=fun _=>sN
def Jg(x:yX):List Value:=[.string x.yJ,.int .u8 x.xr,.bool x.fOut,vi x.yo,vi x.xx,vi x.xn]
def Jh(x:yY):List Value:=[.int .u8 x.fOp,vi x.fA,vi x.fB,vi x.fC]
def V3(Z:Zp)(r:List Value)(x:yV):Prop:=∃(kA:Option Addr) (iS:Nat),r=[.string x.yJ,vi x.xz,vi x.xc,vi x.xv,vs kA x.xd.length iS]/\ZS Z 4 (rq Jh) kA iS x.xd
theorem FW{Z Z'}(k:xN Z Z'){r x}(h:V3 Z r x):V3 Z' r x:=by
 obtain⟨kA,iS,hr,h0⟩:=h
 exact⟨kA,iS,hr,h0.mono k⟩
def V4(Z:Zp)(r:List Value)(x:yU):Prop:=∃(kA:Option Addr) (iS:Nat) (Br:Option Addr) (zx:Nat) (Cp:Option Addr) (zZ:Nat) (Cq:Option Addr) (Aa:Nat),r=[.string x.yJ,vi x.xc,vi x.xp,vi x.xk,vs kA x.xe.length iS,vi x.xq,vi x.xo,vs Br x.xj.length zx,vs Cp x.fP.length zZ,vs Cq x.xg.length Aa]/\ZS Z 1 (rq e3) kA iS x.xe/\ZS Z 1 (rq e3) Br zx x.xj/\ZS Z 6 (rq Jg) Cp zZ x.fP/\ZS Z 5 (V3 Z) Cq Aa x.xg
theorem FX{Z Z'}(k:xN Z Z'){r x}(h:V4 Z r x):V4 Z' r x:=by
 obtain⟨kA,iS,Br,zx,Cp,zZ,Cq,Aa,hr,h0,h1,h2,h3⟩:=h
 exact⟨kA,iS,Br,zx,Cp,zZ,Cq,Aa,hr,h0.mono k,h1.mono k,h2.mono k,(h3.mono k).weak (fun _ _ h=>FW k h)⟩
def gk(Z:Zp)(r:List Value)(x:yz):Prop:=∃(kA:Option Addr) (iS:Nat),r=[.string x.yJ,vi x.xk,vi x.xw,vs kA x.xf.length iS]/\ZS Z 10 (V4 Z) kA iS x.xf
theorem qQ{Z Z'}(k:xN Z Z'){r x}(h:gk Z r x):gk Z' r x:=by
 obtain⟨kA,iS,hr,h0⟩:=h
 exact⟨kA,iS,hr,(h0.mono k).weak (fun _ _ h=>FX k h)⟩
def ax(x:yL):List Value:=[.string x.yO,.string x.yW,.string x.yZ]
def fJ(Z:Zp)(r:List Value)(x:yN):Prop:=∃(kA:Option Addr) (iS:Nat),r=[.string x.yD.yO,.string x.yD.yW,.string x.yD.yZ,vs kA x.xa.length iS]/\ZS Z 3 (rq ax) kA iS x.xa
theorem qX{Z Z'}(k:xN Z Z'){r x}(h:fJ Z r x):fJ Z' r x:=by
 obtain⟨kA,iS,hr,h0⟩:=h
 exact⟨kA,iS,hr,h0.mono k⟩
def kT(x:yu):List Value:=[.string x.yJ,vi x.yR,vi x.yl,vi x.fT]
theorem Sa:∀ x,∀ u∈kT x,u.oneCell'=true:=fun _=>sN
def mM(x:yE):List Value:=[.string x.fA,.string x.fB,vi x.yR,vi x.yr]
def f0(Z:Zp)(r:List Value)(x:yw):Prop:=∃(kA:Option Addr) (iS:Nat),r=[.string x.yJ,.string x.yD.yO,.string x.yD.yW,.string x.yD.yZ,vi x.yK,vi x.yC,vs kA x.xa.length iS]/\ZS Z 3 (rq ax) kA iS x.xa
theorem qN{Z Z'}(k:xN Z Z'){r x}(h:f0 Z r x):f0 Z' r x:=by
 obtain⟨kA,iS,hr,h0⟩:=h
 exact⟨kA,iS,hr,h0.mono k⟩
def mb(x:yT):List Value:=[.string x.yO,.string x.yW,.int .u8 x.xl,.int .u8 x.xm,.int .u8 x.fDo]
def Ji(x:yS):List Value:=[.string x.xu,vi x.xd]
def e9(x:ByteArray):List Value:=[.string x]
def fO(Z:Zp)(r:List Value)(x:yQ):Prop:=∃(kA:Option Addr) (iS:Nat) (Br:Option Addr) (zx:Nat),r=[.string x.xu,vs kA x.xh.length iS,vs Br x.xi.length zx]/\ZS Z 2 (rq Ji) kA iS x.xh/\ZS Z 1 (rq e9) Br zx x.xi
theorem qY{Z Z'}(k:xN Z Z'){r x}(h:fO Z r x):fO Z' r x:=by
 obtain⟨kA,iS,Br,zx,hr,h0,h1⟩:=h
 exact⟨kA,iS,Br,zx,hr,h0.mono k,h1.mono k⟩
def mc(x:yP):List Value:=[.string x.fA,vi x.fVA,.string x.fB,vi x.fVB]
structure zb where
 ya:Int
 fX:Int
 fQ:Int
 deriving Inhabited,DecidableEq
def mW(x:zb):List Value:=[vi x.ya,vi x.fX,vi x.fQ]
def mN(Z:Zp)(r:List Value)(x:List zb):Prop:=∃(kA:Option Addr) (iS:Nat),r=[vs kA x.length iS]/\ZS Z 3 (rq mW) kA iS x
theorem jc{Z Z'}(k:xN Z Z'){r x}(h:mN Z r x):mN Z' r x:=by
 obtain⟨kA,iS,hr,h0⟩:=h
 exact⟨kA,iS,hr,h0.mono k⟩
structure z7 where
 ya:Int
 fQ:Int
 deriving Inhabited,DecidableEq
structure zp where
 ya:Int
 fQ:Int
 yl:Int
 fT:Int
 deriving Inhabited,DecidableEq
structure zw where
 yq:Int
 ya:Int
 yl:Int
 deriving Inhabited,DecidableEq
structure yM where
 fP:List zp
 yv:List zw
 deriving Inhabited,DecidableEq
structure yI where
 a0:Int
 a1:Int
 deriving Inhabited,DecidableEq
structure yh where
 yc:Int
 ya:Int
 yb:Int
 deriving Inhabited,DecidableEq
structure yB where
 yb:Int
 yq:Int
 yo:Int
 deriving Inhabited,DecidableEq
def wp(x:z7):List Value:=[vi x.ya,vi x.fQ]
theorem ay:∀ x,∀ u∈wp x,u.oneCell'=true:=fun _=>sN
structure ym where
 yG:Int
 xt:z7
 deriving Inhabited,DecidableEq
def jH(x:ym):List Value:=[vi x.yG,vi x.xt.ya,vi x.xt.fQ]
structure z2 where
 fN:Int
 fD:Int
 deriving Inhabited,DecidableEq
def xZ(x:z2):List Value:=[vi x.fN,vi x.fD]
theorem Yl:∀ x,∀ u∈xZ x,u.oneCell'=true:=fun _=>sN
structure z6 where
 yi:z2
 fR:z2
 deriving Inhabited,DecidableEq
def qk(x:z6):List Value:=[vi x.yi.fN,vi x.yi.fD,vi x.fR.fN,vi x.fR.fD]
theorem G6:∀ x,∀ u∈qk x,u.oneCell'=true:=fun _=>sN
def jJ(Z:Zp)(r:List Value)(x:List z6):Prop:=∃(kA:Option Addr) (iS:Nat),r=[vs kA x.length iS]/\ZS Z 4 (rq qk) kA iS x
theorem g6{Z Z'}(k:xN Z Z'){r x}(h:jJ Z r x):jJ Z' r x:=by
 obtain⟨kA,iS,hr,h0⟩:=h
 exact⟨kA,iS,hr,h0.mono k⟩
theorem Tl{Z r x}(h:jJ Z r x):∀ u∈r,u.oneCell'=true:=by
 obtain⟨kA,iS,hr,h0⟩:=h
 rw[hr];exact sN
structure yt where
 fR:z2
 fL:z2
 deriving Inhabited,DecidableEq
structure ys where
 fE:Int
 deriving Inhabited,DecidableEq
structure yp where
 yb:Int
 yA:Int
 yG:Int
 yc:Int
 yd:zb
 deriving Inhabited,DecidableEq
structure xy where
 yr:Int
 yl:Int
 fT:Int
 deriving Inhabited,DecidableEq
structure yj where
 yo:Int
 yF:Int
 deriving Inhabited,DecidableEq
structure yx where
 yk:xy
 yH:Int
 yy:Int
 yn:List yj
 deriving Inhabited,DecidableEq
def e39(x:Int):List Value:=[vi x]
def kz(x:zp):List Value:=[vi x.ya,vi x.fQ,vi x.yl,vi x.fT]
theorem Jj:∀ x,∀ u∈kz x,u.oneCell'=true:=fun _=>sN
def f5(x:zw):List Value:=[vi x.yq,vi x.ya,vi x.yl]
theorem Jk:∀ x,∀ u∈f5 x,u.oneCell'=true:=fun _=>sN
def nL(x:yI):List Value:=[vi x.a0,vi x.a1]
def e5(x:Int):List Value:=[.int .u8 x]
def V5(x:Int):List Value:=[.int .u16 x]
def uo(x:yB):List Value:=[vi x.yb,vi x.yq,vi x.yo]
theorem Sb:∀ x,∀ u∈uo x,u.oneCell'=true:=fun _=>sN
def g7(x:z7):List Value:=[vi x.ya,vi x.fQ]
def g8(x:yj):List Value:=[vi x.yo,vi x.yF]
theorem G7:∀ x,∀ u∈g8 x,u.oneCell'=true:=fun _=>sN
def z2r(g:Nat×(Option Addr×Nat))(x:yx):List Asrt:=[stb g.1 213 [vi x.yk.yr,vi x.yk.yl,vi x.yk.fT,vi x.yH,vi x.yy,vs g.2.1 x.yn.length g.2.2],row (vs g.2.1 x.yn.length g.2.2) 216 2 (x.yn.flatMap g8)]
def wC(x:yp):List Value:=[vi x.yb,vi x.yA,vi x.yG,vi x.yc,vi x.yd.ya,vi x.yd.fX,vi x.yd.fQ]
theorem Tm:∀ x,∀ u∈wC x,u.oneCell'=true:=fun _=>sN
def wd(x:yh):List Value:=[vi x.yc,vi x.ya,vi x.yb]
theorem FY:∀ x,∀ u∈wd x,u.oneCell'=true:=fun _=>sN
theorem z3f:uK Tryz.prog 31 8:=gM (i:=Tryz.t31) underlying31 rfl rfl
theorem tk:w8 Tryz.prog 31 0 0:=xT (i:=Tryz.t22) underlying31 rfl rfl (by decide) rfl
theorem z9o:mz Tryz.prog 22:=jQ underlying22
theorem tn:w8 Tryz.prog 31 2 2:=xT (i:=Tryz.t24) underlying31 rfl rfl (by decide) rfl
theorem zal:mz Tryz.prog 24:=jQ underlying24
theorem lI:w8 Tryz.prog 31 3 3:=xT (i:=Tryz.t25) underlying31 rfl rfl (by decide) rfl
theorem zjx:mz Tryz.prog 25:=jQ underlying25
theorem mX:w8 Tryz.prog 31 4 4:=xT (i:=Tryz.t26) underlying31 rfl rfl (by decide) rfl
theorem z8f:mz Tryz.prog 26:=jQ underlying26
theorem zdH:elT Tryz.prog 32 48 1 24:=⟨underlying32,⟨Tryz.t48,_,rfl,rfl,rfl,rfl,rfl⟩,by decide⟩
theorem zc1:mz Tryz.prog 48:=jQ underlying48
theorem zu5:jk Tryz.prog 31 (.agg #[vn,vn,vn,vn,vn,vn,vn,vn]):=qM (i:=Tryz.t31) rfl rfl
theorem zFt:elT Tryz.prog 22 108 4 56:=⟨underlying22,⟨Tryz.t108,_,rfl,rfl,rfl,rfl,rfl⟩,by decide⟩
theorem zc2:elT Tryz.prog 24 66 4 40:=⟨underlying24,⟨Tryz.t66,_,rfl,rfl,rfl,rfl,rfl⟩,by decide⟩
theorem zqK:elT Tryz.prog 25 64 4 48:=⟨underlying25,⟨Tryz.t64,_,rfl,rfl,rfl,rfl,rfl⟩,by decide⟩
theorem zdI:elT Tryz.prog 26 46 7 104:=⟨underlying26,⟨Tryz.t46,_,rfl,rfl,rfl,rfl,rfl⟩,by decide⟩
theorem zu6:gA Tryz.prog 31 8:=qG (i:=Tryz.t31) rfl
theorem z8g:elT Tryz.prog 48 62 3 24:=⟨underlying48,⟨Tryz.t62,_,rfl,rfl,rfl,rfl,rfl⟩,by decide⟩
theorem zqL:jk Tryz.prog 38 (.agg #[vn,vn]):=qM (i:=Tryz.t38) rfl rfl
theorem xL:mz Tryz.prog 3:=jQ underlying3
theorem z4D:uK Tryz.prog 62 3:=gM (i:=Tryz.t62) underlying62 rfl rfl
theorem zdJ:jk Tryz.prog 62 (.agg #[vi 0,vi 0,vi 0]):=qM (i:=Tryz.t62) rfl rfl
theorem zc3:gA Tryz.prog 62 3:=qG (i:=Tryz.t62) rfl
theorem gO:w8 Tryz.prog 62 0 0:=xT (i:=Tryz.t3) underlying62 rfl rfl (by decide) rfl
theorem ms:jk Tryz.prog 3 (vi 0):=qM (i:=Tryz.t3) rfl rfl
theorem tA:KeyT Tryz.prog 3 vI:=U9 underlying3
theorem mY:w8 Tryz.prog 62 1 1:=xT (i:=Tryz.t3) underlying62 rfl rfl (by decide) rfl
theorem lJ:w8 Tryz.prog 62 2 2:=xT (i:=Tryz.t3) underlying62 rfl rfl (by decide) rfl
theorem zPk:uK Tryz.prog 64 4:=gM (i:=Tryz.t64) underlying64 rfl rfl
theorem zPl:jk Tryz.prog 64 (.agg #[.string ⟨#[]⟩,.string ⟨#[]⟩,vi 0,vi 0]):=qM (i:=Tryz.t64) rfl rfl
theorem zPm:gA Tryz.prog 64 4:=qG (i:=Tryz.t64) rfl
theorem Tn:w8 Tryz.prog 64 0 0:=xT (i:=Tryz.t9) underlying64 rfl rfl (by decide) rfl
theorem W8:mz Tryz.prog 9:=jQ underlying9
theorem Uf:w8 Tryz.prog 108 0 0:=xT (i:=Tryz.t9) underlying108 rfl rfl (by decide) rfl
theorem To:w8 Tryz.prog 66 0 0:=xT (i:=Tryz.t9) underlying66 rfl rfl (by decide) rfl
theorem Tp:w8 Tryz.prog 64 1 1:=xT (i:=Tryz.t9) underlying64 rfl rfl (by decide) rfl
theorem Tq:w8 Tryz.prog 64 2 2:=xT (i:=Tryz.t3) underlying64 rfl rfl (by decide) rfl
theorem dL:w8 Tryz.prog 64 3 3:=xT (i:=Tryz.t3) underlying64 rfl rfl (by decide) rfl
theorem zPn:uK Tryz.prog 66 4:=gM (i:=Tryz.t66) underlying66 rfl rfl
theorem zPo:jk Tryz.prog 66 (.agg #[.string ⟨#[]⟩,vi 0,vi 0,vi 0]):=qM (i:=Tryz.t66) rfl rfl
theorem zPp:gA Tryz.prog 66 4:=qG (i:=Tryz.t66) rfl
theorem Tr:w8 Tryz.prog 66 1 1:=xT (i:=Tryz.t3) underlying66 rfl rfl (by decide) rfl
theorem Ym:w8 Tryz.prog 66 2 2:=xT (i:=Tryz.t3) underlying66 rfl rfl (by decide) rfl
theorem dM:w8 Tryz.prog 66 3 3:=xT (i:=Tryz.t3) underlying66 rfl rfl (by decide) rfl
theorem zgP:gA Tryz.prog 38 2:=qG (i:=Tryz.t38) rfl
theorem zgQ:uK Tryz.prog 38 2:=gM (i:=Tryz.t38) underlying38 rfl rfl
theorem V6:w8 Tryz.prog 46 2 4:=xT (i:=Tryz.t3) underlying46 rfl rfl (by decide) rfl
theorem lK:w8 Tryz.prog 46 3 5:=xT (i:=Tryz.t3) underlying46 rfl rfl (by decide) rfl
theorem zPq:uK Tryz.prog 46 7:=gM (i:=Tryz.t46) underlying46 rfl rfl
theorem zqM:jk Tryz.prog 97 (.agg #[vi 0,vi 0]):=qM (i:=Tryz.t97) rfl rfl
theorem zu7:gA Tryz.prog 97 2:=qG (i:=Tryz.t97) rfl
theorem z5S:uK Tryz.prog 97 2:=gM (i:=Tryz.t97) underlying97 rfl rfl
theorem z8h:elT Tryz.prog 88 97 2 16:=⟨underlying88,⟨Tryz.t97,_,rfl,rfl,rfl,rfl,rfl⟩,by decide⟩
theorem zu8:EqT Tryz.prog 97 wp:=⟨fun u v w=>by
 have c:=fun(w:World) (a b:Array Value)=>run_equalIn_agg (P:=Tryz.prog) w 9999 97 a b (by simp[Program.fieldsOf,underlying97]) (by kernel_rfl)
 have d:=fun(w:World) (a b:Int)=>run_equalIn_int (P:=Tryz.prog) w 9998 3 .i64 .i64 a b underlying3
 rw[c]
 simp[Program.fieldsOf,Op.eqFields,part,wp,c,underlying97,d]
 rcases u with⟨u1,u2⟩
 rcases v with⟨v1,v2⟩
 by_cases h1:u1=v1 <;> by_cases h2:u2=v2 <;> simp[h1,h2],by kernel_rfl⟩
theorem cv:w8 Tryz.prog 97 0 0:=xT (i:=Tryz.t3) underlying97 rfl rfl (by decide) rfl
theorem dN:w8 Tryz.prog 97 1 1:=xT (i:=Tryz.t3) underlying97 rfl rfl (by decide) rfl
theorem zc4:elT Tryz.prog 109 3 1 8:=⟨underlying109,⟨Tryz.t3,_,rfl,rfl,rfl,rfl,rfl⟩,by decide⟩
theorem zPr:jk Tryz.prog 93 (.map none):=qM (i:=Tryz.t93) rfl rfl
theorem zPs:gA Tryz.prog 93 1:=qG (i:=Tryz.t93) rfl
theorem zqN:mz Tryz.prog 93:=jQ underlying93
theorem zgR:KeyT Tryz.prog 97 (ga wp):=eR underlying97 (fun _ _=>rfl) (fun b k w=>by
 have c:=fun(w:World) (a:Int)=>MapKept.run_checkKey (P:=Tryz.prog) (w:=w) (kt:=3) (k:=.int .i64 a) underlying3 (by simp[MapKept.IsKey]) b 9998
 have ck:∀(w:World) (u0:Int) (u1:Int),(Instr.checkKey b 10000 97 (.agg #[.int .i64 u0,.int .i64 u1])).run Tryz.prog w = .ok () w:=fun w u0 u1=>by
  rw[show(10000:Nat)=9999+1 from U,Instr.checkKey]
  simp[run_underlying underlying97,c,part]
 exact ck w k.ya k.fQ)
 (fun u v w=>zu8.eq u v w)
 (fun k=>by simp[Instr.sameBits,wp])
theorem rA:w8 Tryz.prog 38 0 0:=xT (i:=Tryz.t35) underlying38 rfl rfl (by decide) rfl
theorem zdK:mz Tryz.prog 35:=jQ underlying35
theorem zFv:jk Tryz.prog 58 (.agg #[vi 0,vi 0,vi 0,vi 0]):=qM (i:=Tryz.t58) rfl rfl
theorem Ts:w8 Tryz.prog 95 1 8:=xT (i:=Tryz.t32) underlying95 rfl rfl (by decide) rfl
theorem zFw:mz Tryz.prog 32:=jQ underlying32
theorem rB:w8 Tryz.prog 95 0 0:=xT (i:=Tryz.t31) underlying95 rfl rfl (by decide) rfl
theorem z1s:jk Tryz.prog 132 (.agg #[vi 0,vi 0]):=qM (i:=Tryz.t132) rfl rfl
theorem z12:gA Tryz.prog 132 2:=qG (i:=Tryz.t132) rfl
theorem ze:uK Tryz.prog 132 2:=gM (i:=Tryz.t132) underlying132 rfl rfl
theorem V7:w8 Tryz.prog 95 2 9:=xT (i:=Tryz.t92) underlying95 rfl rfl (by decide) rfl
theorem zxY:mz Tryz.prog 92:=jQ underlying92
theorem zPt:EqT Tryz.prog 169 jH:=⟨fun u v w=>by
 have c:=fun(w:World) (a b:Array Value)=>run_equalIn_agg (P:=Tryz.prog) w 9999 169 a b (by simp[Program.fieldsOf,underlying169]) (by kernel_rfl)
 have d:=fun(w:World) (a b:Int)=>run_equalIn_int (P:=Tryz.prog) w 9998 3 .i64 .i64 a b underlying3
 have e:=fun(w:World) (a b:Array Value)=>run_equalIn_agg (P:=Tryz.prog) w 9998 97 a b (by simp[Program.fieldsOf,underlying97]) (by kernel_rfl)
 have f:=fun(w:World) (a b:Int)=>run_equalIn_int (P:=Tryz.prog) w 9997 3 .i64 .i64 a b underlying3
 rw[c]
 simp[Program.fieldsOf,Op.eqFields,part,jH,c,underlying169,d,e,underlying97,f]
 rcases u with⟨u1,⟨u2,u3⟩⟩
 rcases v with⟨v1,⟨v2,v3⟩⟩
 by_cases h1:u1=v1 <;> by_cases h2:u2=v2 <;> by_cases h3:u3=v3 <;> simp[h1,h2,h3],by kernel_rfl⟩
theorem zy0:KeyT Tryz.prog 169 (ga jH):=eR underlying169 (fun _ _=>rfl) (fun b k w=>by
 have c:=fun(w:World) (a:Int)=>MapKept.run_checkKey (P:=Tryz.prog) (w:=w) (kt:=3) (k:=.int .i64 a) underlying3 (by simp[MapKept.IsKey]) b 9998
 have d:=fun(w:World) (a:Int)=>MapKept.run_checkKey (P:=Tryz.prog) (w:=w) (kt:=3) (k:=.int .i64 a) underlying3 (by simp[MapKept.IsKey]) b 9997
 have e:∀(w:World) (u0:Int) (u1:Int),(Instr.checkKey b 9999 97 (.agg #[.int .i64 u0,.int .i64 u1])).run Tryz.prog w = .ok () w:=fun w u0 u1=>by
  rw[show(9999:Nat)=9998+1 from U,Instr.checkKey]
  simp[run_underlying underlying97,d,part]
 have ck:∀(w:World) (u0:Int) (u1:Int) (u2:Int),(Instr.checkKey b 10000 169 (.agg #[.int .i64 u0,.int .i64 u1,.int .i64 u2])).run Tryz.prog w = .ok () w:=fun w u0 u1 u2=>by
  rw[show(10000:Nat)=9999+1 from U,Instr.checkKey]
  simp[run_underlying underlying169,c,e,part]
 exact ck w k.yG k.xt.ya k.xt.fQ)
 (fun u v w=>zPt.eq u v w)
 (fun k=>by simp[Instr.sameBits,jH])
theorem jz:w8 Tryz.prog 132 0 0:=xT (i:=Tryz.t3) underlying132 rfl rfl (by decide) rfl
theorem dO:gA Tryz.prog 3 1:=qG (i:=Tryz.t3) rfl
theorem V8:w8 Tryz.prog 95 3 10:=xT (i:=Tryz.t93) underlying95 rfl rfl (by decide) rfl
theorem kd:w8 Tryz.prog 132 1 1:=xT (i:=Tryz.t3) underlying132 rfl rfl (by decide) rfl
theorem fj:KeyT Tryz.prog 9 Value.string:=U8 underlying9
theorem zu9:jk Tryz.prog 257 .nilFunc:=qM (i:=Tryz.t257) rfl rfl
theorem cw:w8 Tryz.prog 95 4 11:=xT (i:=Tryz.t39) underlying95 rfl rfl (by decide) rfl
theorem z5n:mz Tryz.prog 39:=jQ underlying39
theorem zqO:gA Tryz.prog 39 1:=qG (i:=Tryz.t39) rfl
theorem zy1:jk Tryz.prog 109 vn:=qM (i:=Tryz.t109) rfl rfl
theorem z8K:elT Tryz.prog 173 171 4 32:=⟨underlying173,⟨Tryz.t171,_,rfl,rfl,rfl,rfl,rfl⟩,by decide⟩
theorem zdL:elT Tryz.prog 128 173 1 24:=⟨underlying128,⟨Tryz.t173,_,rfl,rfl,rfl,rfl,rfl⟩,by decide⟩
theorem zdM:jk Tryz.prog 171 (.agg #[vi 0,vi 0,vi 0,vi 0]):=qM (i:=Tryz.t171) rfl rfl
theorem zc5:gA Tryz.prog 171 4:=qG (i:=Tryz.t171) rfl
theorem uf:w8 Tryz.prog 171 0 0:=xT (i:=Tryz.t132) underlying171 rfl rfl (by decide) rfl
theorem tR:w8 Tryz.prog 171 1 2:=xT (i:=Tryz.t132) underlying171 rfl rfl (by decide) rfl
theorem z3v:uK Tryz.prog 171 4:=gM (i:=Tryz.t171) underlying171 rfl rfl
theorem zPx:jk Tryz.prog 135 (.agg #[vi 0,vi 0,vi 0,vi 0]):=qM (i:=Tryz.t135) rfl rfl
theorem zPy:gA Tryz.prog 135 4:=qG (i:=Tryz.t135) rfl
theorem zqP:uK Tryz.prog 135 4:=gM (i:=Tryz.t135) underlying135 rfl rfl
theorem zgS:mz Tryz.prog 128:=jQ underlying128
theorem zFy:jk Tryz.prog 177 (.agg #[vn,vi 0,vi 0,vi 0,vi 0,.nilFunc,vn]):=qM (i:=Tryz.t177) rfl rfl
theorem zFz:gA Tryz.prog 177 7:=qG (i:=Tryz.t177) rfl
theorem eU:w8 Tryz.prog 177 2 5:=xT (i:=Tryz.t174) underlying177 rfl rfl (by decide) rfl
theorem zFA:gA Tryz.prog 174 1:=qG (i:=Tryz.t174) rfl
theorem zlZ:uK Tryz.prog 177 7:=gM (i:=Tryz.t177) underlying177 rfl rfl
theorem eV:w8 Tryz.prog 177 0 0:=xT (i:=Tryz.t128) underlying177 rfl rfl (by decide) rfl
theorem zm0:mz Tryz.prog 173:=jQ underlying173
theorem Jl:w8 Tryz.prog 177 1 1:=xT (i:=Tryz.t135) underlying177 rfl rfl (by decide) rfl
theorem cH:w8 Tryz.prog 135 0 0:=xT (i:=Tryz.t132) underlying135 rfl rfl (by decide) rfl
theorem lL:w8 Tryz.prog 135 1 2:=xT (i:=Tryz.t132) underlying135 rfl rfl (by decide) rfl
theorem zy2:jk Tryz.prog 225 (.agg #[vi 0]):=qM (i:=Tryz.t225) rfl rfl
theorem zFB:jk Tryz.prog 262 (.agg #[vi 0]):=qM (i:=Tryz.t262) rfl rfl
theorem zy3:jk Tryz.prog 175 vn:=qM (i:=Tryz.t175) rfl rfl
theorem zFC:EqT Tryz.prog 171 qk:=⟨fun u v w=>by
 have c:=fun(w:World) (a b:Array Value)=>run_equalIn_agg (P:=Tryz.prog) w 9999 171 a b (by simp[Program.fieldsOf,underlying171]) (by kernel_rfl)
 have d:=fun(w:World) (a b:Array Value)=>run_equalIn_agg (P:=Tryz.prog) w 9998 132 a b (by simp[Program.fieldsOf,underlying132]) (by kernel_rfl)
 have e:=fun(w:World) (a b:Int)=>run_equalIn_int (P:=Tryz.prog) w 9997 3 .i64 .i64 a b underlying3
 rw[c]
 simp[Program.fieldsOf,Op.eqFields,part,qk,c,underlying171,d,underlying132,e]
 rcases u with⟨⟨u1,u2⟩,⟨u3,u4⟩⟩
 rcases v with⟨⟨v1,v2⟩,⟨v3,v4⟩⟩
 by_cases h1:u1=v1 <;> by_cases h2:u2=v2 <;> by_cases h3:u3=v3 <;> by_cases h4:u4=v4 <;> simp[h1,h2,h3,h4],by kernel_rfl⟩
theorem zc6:mz Tryz.prog 175:=jQ underlying175
theorem lM:w8 Tryz.prog 262 0 0:=xT (i:=Tryz.t39) underlying262 rfl rfl (by decide) rfl
theorem z3g:elT Tryz.prog 175 132 2 16:=⟨underlying175,⟨Tryz.t132,_,rfl,rfl,rfl,rfl,rfl⟩,by decide⟩
theorem zy4:gA Tryz.prog 175 1:=qG (i:=Tryz.t175) rfl
theorem zFE:EqT Tryz.prog 132 xZ:=⟨fun u v w=>by
 have c:=fun(w:World) (a b:Array Value)=>run_equalIn_agg (P:=Tryz.prog) w 9999 132 a b (by simp[Program.fieldsOf,underlying132]) (by kernel_rfl)
 have d:=fun(w:World) (a b:Int)=>run_equalIn_int (P:=Tryz.prog) w 9998 3 .i64 .i64 a b underlying3
 rw[c]
 simp[Program.fieldsOf,Op.eqFields,part,xZ,c,underlying132,d]
 rcases u with⟨u1,u2⟩
 rcases v with⟨v1,v2⟩
 by_cases h1:u1=v1 <;> by_cases h2:u2=v2 <;> simp[h1,h2],by kernel_rfl⟩
theorem F0:Ua Tryz.prog 171 1 2 132:=Ti underlying171 rfl rfl rfl
theorem tS:w8 Tryz.prog 225 0 0:=xT (i:=Tryz.t39) underlying225 rfl rfl (by decide) rfl
theorem Ug:w8 Tryz.prog 177 3 6:=xT (i:=Tryz.t175) underlying177 rfl rfl (by decide) rfl
theorem zFG:mz Tryz.prog 174:=jQ underlying174
theorem zFH:elT Tryz.prog 138 39 1 8:=⟨underlying138,⟨Tryz.t39,_,rfl,rfl,rfl,rfl,rfl⟩,by decide⟩
theorem zFI:gA Tryz.prog 58 4:=qG (i:=Tryz.t58) rfl
theorem zm1:uK Tryz.prog 58 4:=gM (i:=Tryz.t58) underlying58 rfl rfl
theorem z8L:elT Tryz.prog 35 58 4 32:=⟨underlying35,⟨Tryz.t58,_,rfl,rfl,rfl,rfl,rfl⟩,by decide⟩
theorem zPA:gA Tryz.prog 35 1:=qG (i:=Tryz.t35) rfl
theorem Yn:w8 Tryz.prog 58 0 0:=xT (i:=Tryz.t3) underlying58 rfl rfl (by decide) rfl
theorem V9:w8 Tryz.prog 58 1 1:=xT (i:=Tryz.t3) underlying58 rfl rfl (by decide) rfl
theorem Tt:w8 Tryz.prog 58 2 2:=xT (i:=Tryz.t3) underlying58 rfl rfl (by decide) rfl
theorem zjz:elT Tryz.prog 36 79 3 24:=⟨underlying36,⟨Tryz.t79,_,rfl,rfl,rfl,rfl,rfl⟩,by decide⟩
theorem Va:w8 Tryz.prog 79 1 1:=xT (i:=Tryz.t3) underlying79 rfl rfl (by decide) rfl
theorem lN:w8 Tryz.prog 38 1 1:=xT (i:=Tryz.t36) underlying38 rfl rfl (by decide) rfl
theorem zPB:gA Tryz.prog 36 1:=qG (i:=Tryz.t36) rfl
theorem zm2:mz Tryz.prog 36:=jQ underlying36
theorem zy5:EqT Tryz.prog 58 kz:=⟨fun u v w=>by
 have c:=fun(w:World) (a b:Array Value)=>run_equalIn_agg (P:=Tryz.prog) w 9999 58 a b (by simp[Program.fieldsOf,underlying58]) (by kernel_rfl)
 have d:=fun(w:World) (a b:Int)=>run_equalIn_int (P:=Tryz.prog) w 9998 3 .i64 .i64 a b underlying3
 rw[c]
 simp[Program.fieldsOf,Op.eqFields,part,kz,c,underlying58,d]
 rcases u with⟨u1,u2,u3,u4⟩
 rcases v with⟨v1,v2,v3,v4⟩
 by_cases h1:u1=v1 <;> by_cases h2:u2=v2 <;> by_cases h3:u3=v3 <;> by_cases h4:u4=v4 <;> simp[h1,h2,h3,h4],by kernel_rfl⟩
theorem zy6:uK Tryz.prog 79 3:=gM (i:=Tryz.t79) underlying79 rfl rfl
theorem zPC:EqT Tryz.prog 79 f5:=⟨fun u v w=>by
 have c:=fun(w:World) (a b:Array Value)=>run_equalIn_agg (P:=Tryz.prog) w 9999 79 a b (by simp[Program.fieldsOf,underlying79]) (by kernel_rfl)
 have d:=fun(w:World) (a b:Int)=>run_equalIn_int (P:=Tryz.prog) w 9998 3 .i64 .i64 a b underlying3
 rw[c]
 simp[Program.fieldsOf,Op.eqFields,part,f5,c,underlying79,d]
 rcases u with⟨u1,u2,u3⟩
 rcases v with⟨v1,v2,v3⟩
 by_cases h1:u1=v1 <;> by_cases h2:u2=v2 <;> by_cases h3:u3=v3 <;> simp[h1,h2,h3],by kernel_rfl⟩
theorem zy7:KeyT Tryz.prog 60 (ga nL):=eR underlying60 (fun _ _=>rfl) (fun b k w=>by
 have c:=fun(w:World) (a:Int)=>MapKept.run_checkKey (P:=Tryz.prog) (w:=w) (kt:=3) (k:=.int .i64 a) underlying3 (by simp[MapKept.IsKey]) b 9998
 have ck:∀(w:World) (u0:Int) (u1:Int),(Instr.checkKey b 10000 60 (.agg #[.int .i64 u0,.int .i64 u1])).run Tryz.prog w = .ok () w:=fun w u0 u1=>by
  rw[show(10000:Nat)=9999+1 from U,Instr.checkKey]
  simp[run_underlying underlying60,c,part,List.range',Std.Legacy.Range.forIn_eq_forIn_range',Std.Legacy.Range.size]
 exact ck w k.a0 k.a1)
 (fun u v w=>by
 have i3:=fun(w:World) (a b:Int)=>run_equalIn_int (P:=Tryz.prog) w 9998 3 .i64 .i64 a b underlying3
 show(Op.equalIn 10000 60 _ _).run _ _=_
 rw[show(10000:Nat)=9999+1 from U,Op.equalIn]
 simp[run_underlying underlying60,part,nL,i3,List.range',Std.Legacy.Range.forIn_eq_forIn_range',Std.Legacy.Range.size]
 rcases u with⟨u1,u2⟩
 rcases v with⟨v1,v2⟩
 by_cases h1:u1=v1 <;> by_cases h2:u2=v2 <;> simp[h1,h2])
 (fun k=>by simp[Instr.sameBits,nL])
theorem Tu:w8 Tryz.prog 58 3 3:=xT (i:=Tryz.t3) underlying58 rfl rfl (by decide) rfl
theorem zPD:jk Tryz.prog 79 (.agg #[vi 0,vi 0,vi 0]):=qM (i:=Tryz.t79) rfl rfl
theorem zPE:gA Tryz.prog 79 3:=qG (i:=Tryz.t79) rfl
theorem Tv:w8 Tryz.prog 79 0 0:=xT (i:=Tryz.t3) underlying79 rfl rfl (by decide) rfl
theorem Tw:w8 Tryz.prog 79 2 2:=xT (i:=Tryz.t3) underlying79 rfl rfl (by decide) rfl
theorem zua:elT Tryz.prog 71 5 1 1:=⟨underlying71,⟨Tryz.t5,_,rfl,rfl,rfl,rfl,rfl⟩,by decide⟩
theorem Jm:mz Tryz.prog 5:=jQ underlying5
theorem zPF:elT Tryz.prog 72 110 1 2:=⟨underlying72,⟨Tryz.t110,_,rfl,rfl,rfl,rfl,rfl⟩,by decide⟩
theorem zPG:mz Tryz.prog 110:=jQ underlying110
theorem zan:elT Tryz.prog 73 83 3 24:=⟨underlying73,⟨Tryz.t83,_,rfl,rfl,rfl,rfl,rfl⟩,by decide⟩
theorem zFL:uK Tryz.prog 83 3:=gM (i:=Tryz.t83) underlying83 rfl rfl
theorem zFM:jk Tryz.prog 83 (.agg #[vi 0,vi 0,vi 0]):=qM (i:=Tryz.t83) rfl rfl
theorem zFN:gA Tryz.prog 83 3:=qG (i:=Tryz.t83) rfl
theorem lO:w8 Tryz.prog 83 0 0:=xT (i:=Tryz.t3) underlying83 rfl rfl (by decide) rfl
theorem cx:w8 Tryz.prog 83 1 1:=xT (i:=Tryz.t3) underlying83 rfl rfl (by decide) rfl
theorem Vb:w8 Tryz.prog 83 2 2:=xT (i:=Tryz.t3) underlying83 rfl rfl (by decide) rfl
theorem Jn:w8 Tryz.prog 117 2 9:=xT (i:=Tryz.t73) underlying117 rfl rfl (by decide) rfl
theorem zFO:mz Tryz.prog 73:=jQ underlying73
theorem Uh:w8 Tryz.prog 117 1 8:=xT (i:=Tryz.t32) underlying117 rfl rfl (by decide) rfl
theorem Xm:w8 Tryz.prog 117 4 11:=xT (i:=Tryz.t115) underlying117 rfl rfl (by decide) rfl
theorem Jo(p : Option Addr) : ∀ w,(method (Tryz.prog.types.size + Made.depth) 151 (.pointer p) "Push").run Tryz.prog w = .ok (233,.pointer p) w:=fun _=>by kernel_rfl
theorem zm3:mz Tryz.prog 115:=jQ underlying115
theorem zc7:elT Tryz.prog 115 153 7 56:=⟨underlying115,⟨Tryz.t153,_,rfl,rfl,rfl,rfl,rfl⟩,by decide⟩
theorem zFP:gA Tryz.prog 115 1:=qG (i:=Tryz.t115) rfl
theorem X0{A : Addr}{v : Value} : ∀ w : World,w.cell? A = some v → (method (Tryz.prog.types.size + Made.depth) 151 (vq A) "Len").run Tryz.prog w = .ok (228,v) w:=fun w h=>eS (i:=Tryz.t151) rfl rfl rfl rfl underlying151 zm3 h
theorem cI{A : Addr}{v : Value} : ∀ w : World,w.cell? A = some v → (method (Tryz.prog.types.size + Made.depth) 151 (vq A) "Less").run Tryz.prog w = .ok (229,v) w:=fun w h=>eS (i:=Tryz.t151) rfl rfl rfl rfl underlying151 zm3 h
theorem zm4:uK Tryz.prog 153 7:=gM (i:=Tryz.t153) underlying153 rfl rfl
theorem eW:w8 Tryz.prog 153 0 0:=xT (i:=Tryz.t3) underlying153 rfl rfl (by decide) rfl
theorem Jp:w8 Tryz.prog 153 1 1:=xT (i:=Tryz.t3) underlying153 rfl rfl (by decide) rfl
theorem Jq:w8 Tryz.prog 153 2 2:=xT (i:=Tryz.t3) underlying153 rfl rfl (by decide) rfl
theorem lP:w8 Tryz.prog 153 3 3:=xT (i:=Tryz.t3) underlying153 rfl rfl (by decide) rfl
theorem cJ{A : Addr}{v : Value} : ∀ w : World,w.cell? A = some v → (method (Tryz.prog.types.size + Made.depth) 151 (vq A) "Swap").run Tryz.prog w = .ok (230,v) w:=fun w h=>eS (i:=Tryz.t151) rfl rfl rfl rfl underlying151 zm3 h
theorem zub:gA Tryz.prog 153 7:=qG (i:=Tryz.t153) rfl
theorem KL(p : Option Addr) : ∀ w,(method (Tryz.prog.types.size + Made.depth) 151 (.pointer p) "Pop").run Tryz.prog w = .ok (232,.pointer p) w:=fun _=>by kernel_rfl
theorem zFQ:jk Tryz.prog 153 (.agg #[vi 0,vi 0,vi 0,vi 0,vi 0,vi 0,vi 0]):=qM (i:=Tryz.t153) rfl rfl
theorem lQ:w8 Tryz.prog 153 4 4:=xT (i:=Tryz.t62) underlying153 rfl rfl (by decide) rfl
theorem zPH:jk Tryz.prog 206 (.agg #[vi 0,vi 0]):=qM (i:=Tryz.t206) rfl rfl
theorem zPI:gA Tryz.prog 206 2:=qG (i:=Tryz.t206) rfl
theorem Xn:w8 Tryz.prog 117 3 10:=xT (i:=Tryz.t113) underlying117 rfl rfl (by decide) rfl
theorem zy8:mz Tryz.prog 113:=jQ underlying113
theorem zy9:uK Tryz.prog 206 2:=gM (i:=Tryz.t206) underlying206 rfl rfl
theorem zFR:jk Tryz.prog 156 (.pointer none):=qM (i:=Tryz.t156) rfl rfl
theorem zPJ:EqT Tryz.prog 206 g7:=⟨fun u v w=>by
 have c:=fun(w:World) (a b:Array Value)=>run_equalIn_agg (P:=Tryz.prog) w 9999 206 a b (by simp[Program.fieldsOf,underlying206]) (by kernel_rfl)
 have d:=fun(w:World) (a b:Int)=>run_equalIn_int (P:=Tryz.prog) w 9998 3 .i64 .i64 a b underlying3
 rw[c]
 simp[Program.fieldsOf,Op.eqFields,part,g7,c,underlying206,d]
 rcases u with⟨u1,u2⟩
 rcases v with⟨v1,v2⟩
 by_cases h1:u1=v1 <;> by_cases h2:u2=v2 <;> simp[h1,h2],by kernel_rfl⟩
theorem zya:KeyT Tryz.prog 206 (ga g7):=eR underlying206 (fun _ _=>rfl) (fun b k w=>by
 have c:=fun(w:World) (a:Int)=>MapKept.run_checkKey (P:=Tryz.prog) (w:=w) (kt:=3) (k:=.int .i64 a) underlying3 (by simp[MapKept.IsKey]) b 9998
 have ck:∀(w:World) (u0:Int) (u1:Int),(Instr.checkKey b 10000 206 (.agg #[.int .i64 u0,.int .i64 u1])).run Tryz.prog w = .ok () w:=fun w u0 u1=>by
  rw[show(10000:Nat)=9999+1 from U,Instr.checkKey]
  simp[run_underlying underlying206,c,part]
 exact ck w k.ya k.fQ)
 (fun u v w=>zPJ.eq u v w)
 (fun k=>by simp[Instr.sameBits,g7])
theorem cL:w8 Tryz.prog 117 0 0:=xT (i:=Tryz.t31) underlying117 rfl rfl (by decide) rfl
theorem eX:w8 Tryz.prog 213 0 0:=xT (i:=Tryz.t210) underlying213 rfl rfl (by decide) rfl
theorem Jr:w8 Tryz.prog 210 0 0:=xT (i:=Tryz.t3) underlying210 rfl rfl (by decide) rfl
theorem Xo:w8 Tryz.prog 213 1 3:=xT (i:=Tryz.t3) underlying213 rfl rfl (by decide) rfl
theorem cM:w8 Tryz.prog 213 3 5:=xT (i:=Tryz.t211) underlying213 rfl rfl (by decide) rfl
theorem zyb:mz Tryz.prog 211:=jQ underlying211
theorem Js:w8 Tryz.prog 216 1 1:=xT (i:=Tryz.t3) underlying216 rfl rfl (by decide) rfl
theorem zdN:elT Tryz.prog 211 216 2 16:=⟨underlying211,⟨Tryz.t216,_,rfl,rfl,rfl,rfl,rfl⟩,by decide⟩
theorem zm5:uK Tryz.prog 216 2:=gM (i:=Tryz.t216) underlying216 rfl rfl
theorem zyc:jk Tryz.prog 216 (.agg #[vi 0,vi 0]):=qM (i:=Tryz.t216) rfl rfl
theorem zyd:gA Tryz.prog 216 2:=qG (i:=Tryz.t216) rfl
theorem zFT:gA Tryz.prog 211 1:=qG (i:=Tryz.t211) rfl
theorem Ui:w8 Tryz.prog 216 0 0:=xT (i:=Tryz.t3) underlying216 rfl rfl (by decide) rfl
theorem Uj:w8 Tryz.prog 210 2 2:=xT (i:=Tryz.t3) underlying210 rfl rfl (by decide) rfl
theorem Uk:w8 Tryz.prog 210 1 1:=xT (i:=Tryz.t3) underlying210 rfl rfl (by decide) rfl
theorem eY:w8 Tryz.prog 213 2 4:=xT (i:=Tryz.t3) underlying213 rfl rfl (by decide) rfl
theorem Xp:w8 Tryz.prog 117 6 13:=xT (i:=Tryz.t75) underlying117 rfl rfl (by decide) rfl
theorem zuc:mz Tryz.prog 75:=jQ underlying75
theorem z2J:elT Tryz.prog 75 81 3 24:=⟨underlying75,⟨Tryz.t81,_,rfl,rfl,rfl,rfl,rfl⟩,by decide⟩
theorem zFU:gA Tryz.prog 75 1:=qG (i:=Tryz.t75) rfl
theorem Xq:w8 Tryz.prog 117 5 12:=xT (i:=Tryz.t75) underlying117 rfl rfl (by decide) rfl
theorem Yo:w8 Tryz.prog 81 2 2:=xT (i:=Tryz.t3) underlying81 rfl rfl (by decide) rfl
theorem cy:w8 Tryz.prog 81 0 0:=xT (i:=Tryz.t3) underlying81 rfl rfl (by decide) rfl
theorem Yp:w8 Tryz.prog 81 1 1:=xT (i:=Tryz.t3) underlying81 rfl rfl (by decide) rfl
theorem z5o:uK Tryz.prog 81 3:=gM (i:=Tryz.t81) underlying81 rfl rfl
theorem zc8:gA Tryz.prog 81 3:=qG (i:=Tryz.t81) rfl
theorem zFV:jk Tryz.prog 81 (.agg #[vi 0,vi 0,vi 0]):=qM (i:=Tryz.t81) rfl rfl
theorem zPK:gA Tryz.prog 24 1:=qG (i:=Tryz.t24) rfl
def mI(b:List (List zb))(c:Option Bool):Nat->Int->Option Bool
 | 0,_=>none
 | d+1,a=>if decide (a<b.length) then chk (0<=a/\a<b.length) (if decide (((nth b a).length:Int)>40) then some false else mI b c d (i64 (a+1))) else c
def pZ(a:zV)(b:List (List zb)):Option Bool:=
 if ((((decide ((a.fM.length:Int)>8))||(decide ((a.fS.length:Int)>8)))||(decide ((a.fK.length:Int)>20)))||(decide ((a.yg.length:Int)>20)))||(decide ((b.length:Int)>20)) then some false else uB (some true) fun c=>mI b c xR 0
theorem KM(Z e f g i j k l m n o p q s t u v x y a b r)(h:pZ a b=some r){Nv}(hz:PZ [] Nv Z)(R:ZS Z 4 (gk Z) e f a.fM)(S:ZS Z 4 (fJ Z) g i a.yf)(T:ZS Z 4 (rq kT) j k a.fS)(V:ZS Z 4 (rq mM) l m a.fK)(W:ZS Z 7 (f0 Z) n o a.yg)(X:ZS Z 5 (rq mb) p q a.fH)(Y:ZS Z 3 (fO Z) s t a.fU)(aa:ZS Z 4 (rq mc) u v a.ye)(F:ZS Z 1 (mN Z) x y b):
  RC 8 #[.agg #[vs e a.fM.length f,vs g a.yf.length i,vs j a.fS.length k,vs l a.fK.length m,vs n a.yg.length o,vs p a.fH.length q,vs s a.fU.length t,vs u a.ye.length v],vs x b.length y] Nv (.bool r) [] []:=by
 unfold pZ at h
 refine Lz func8 U U<|B0q<|Lh 2 (wg (cs:=[vs e a.fM.length f,vs g a.yf.length i,vs j a.fS.length k,vs l a.fK.length m,vs n a.yg.length o,vs p a.fH.length q,vs s a.fU.length t,vs u a.ye.length v])) ?_
 intro ab _
 let A:=(a.fM.length:Int);let C:=(a.fS.length:Int);refine Q1n U<|WC.b<|B0q<|Le 7 (xA tk)<|Le 8 (Nt z9o .here)<|Le 9 (w9 underlying22)<|Q2q U<|Lw false 4 11 (B:=(decide (A>8))||(decide (C>8))) (fun h=>(gQ h).symm) (fun _ G=>?_) ?_
 ·exact Le 12 (xA tn)<|Le 13 (Nt zal .here)<|Le 14 (w9 underlying24)<|Q2q U<|Lx (gR G) U .all
 let D:=(a.fK.length:Int);refine La U<|Lw false 4 17 (B:=((decide (A>8))||(decide (C>8)))||(decide (D>20))) (fun h=>(gQ h).symm) (fun _ H=>?_) ?_
 ·exact Le 18 (xA lI)<|Le 19 (Nt zjx .here)<|Le 20 (w9 underlying25)<|Q2q U<|Lx (gR H) U .all
 let E:=(a.yg.length:Int);refine La U<|Lw false 4 23 (B:=(((decide (A>8))||(decide (C>8)))||(decide (D>20)))||(decide (E>20))) (fun h=>(gQ h).symm) (fun _ I=>?_) ?_
 ·exact Le 24 (xA mX)<|Le 25 (Nt z8f .here)<|Le 26 (w9 underlying26)<|Q2q U<|Lx (gR I) U .all
 refine La U<|Lw false 3 29 (B:=((((decide (A>8))||(decide (C>8)))||(decide (D>20)))||(decide (E>20)))||(decide ((b.length:Int)>20))) (fun h=>(gQ h).symm) (fun _ J=>?_) ?_
 ·exact La U<|Le 31 (w9 underlying32)<|Q2q U<|Lx (gR J) U .all
 refine Q0n<|Lj h (fun K h=>?_)<|fun K h=>?_
 ·exact B1n U<|Nw<|Ll<|oJ h▸Nl results8
 ·refine Nn<|jK0 h fun z L h=>Nd (z=some r) ([]) ([]) ?_ ?_
  ·refine B1q U<|Le 35 (w9 underlying32)<|Q1n U<|WC.block<|Ng (fun d c=>(mI b z d c=some r)) (fun d c=>[(34,vs x b.length y),(35,vi (b.length:Int)),(36,vi c)]) (fun d c=>[]) (fun d c=>d) ⟨xR,0⟩ h .q .nil ?_
   rintro(_|M) c h;·cases h
   rw[mI] at h
   refine B1n U<|WC.b<|Lj h (fun N h=>?_)<|fun N h=>?_
   ·refine Nn<|WC.b<|WC.block<|WC.b<|cK h fun O h=>Ld<|L3 (dd:=38) (Z:=Z) (Pr:=(mN Z)) zdH F O ?_
    rintro ad ae P af ⟨ag,ah,rfl,ai⟩
    refine Le 39 (xB zc1 U<|mG hz.pv P)<|Q1n U<|B1q U<|Le 41 (w9 underlying48)<|Q1n U<|Lj h (fun Q h=>?_)<|fun Q h=>?_
    ·exact B1n U<|Nw<|Ly<|Ll<|Ll<|Ly<|Ll<|oJ h▸Nl results8
    ·exact N0<|Lt<|Lb<|D2q U<|WL.nil<|Nx ⟨M,i64 (c+1)⟩ h (Nat.lt_succ_self _) .q .nil
   ·exact Nz<|Lo<|Lo<|Lv<|Lp () h .nil .nil
  ·rintro  h
   replace h:=L.symm.trans h
   exact B1n U<|Nw<|oJ h▸Nl results8
def oW  : Option (zV×List (List zb)):=
 some ((⟨([(⟨⟨#[109]⟩,0,0,[]⟩:yz),(⟨⟨#[110]⟩,0,0,[]⟩:yz)]:List yz),[],([(⟨⟨#[115]⟩,0,16,100⟩:yu)]:List yu),([(⟨⟨#[109]⟩,⟨#[115]⟩,0,1⟩:yE),(⟨⟨#[110]⟩,⟨#[115]⟩,0,1⟩:yE)]:List yE),([(⟨⟨#[]⟩,(⟨⟨#[]⟩,⟨#[]⟩,⟨#[]⟩⟩:yL),200,40,[]⟩:yw)]:List yw),[],[],[]⟩:zV),([([(⟨0,2,0⟩:zb),(⟨2,1,1⟩:zb)]:List zb)]:List (List zb)))
theorem W9(Z r)(h:oW=some r){Nv}(hz:PZ [] Nv Z):
  Calls Tryz.prog 14 #[] Nv fun e w'=>∃ Zn:Zp,∃ a:Option Addr,∃ b:Nat,∃ c:List Value,∃ d:Option Addr,∃ f:Nat,∃ g:Option Addr,∃ i:Nat,∃ j:Option Addr,∃ k:Nat,∃ m:Option Addr,∃ n:Nat,∃ o:List Value,∃ p:Option Addr,∃ q:Nat,∃ s:Option Addr,∃ t:Nat,∃ u:Option Addr,∃ x:Nat,∃ y:Option Addr,∃ z:Nat,∃ B:List Value,e = .returned (.tuple #[.agg #[vs a r.1.fM.length b,vs d r.1.yf.length f,vs g r.1.fS.length i,vs j r.1.fK.length k,vs m r.1.yg.length n,vs p r.1.fH.length q,vs s r.1.fU.length t,vs u r.1.ye.length x],vs y r.2.length z])/\((RR 4 (gk (Z++Zn)) c r.1.fM)/\(ZS (Z++Zn) 4 (fJ (Z++Zn)) d f r.1.yf)/\(RR 7 (f0 (Z++Zn)) o r.1.yg)/\(ZS (Z++Zn) 5 (rq mb) p q r.1.fH)/\(ZS (Z++Zn) 3 (fO (Z++Zn)) s t r.1.fU)/\(ZS (Z++Zn) 4 (rq mc) u x r.1.ye)/\(RR 1 (mN (Z++Zn)) B r.2))/\Hp [] Nv w' [fz Zn,row (vs a r.1.fM.length b) 108 4 c,row (vs g r.1.fS.length i) 66 4 (r.1.fS.flatMap kT),row (vs j r.1.fK.length k) 64 4 (r.1.fK.flatMap mM),row (vs m r.1.yg.length n) 46 7 o,row (vs y r.2.length z) 48 1 B]:=by
 unfold oW at h
 refine Co func14 U U<|WC.pool<|B0q (Lh 0 (xW (cs:=[vn,vn,vn,vn,vn,vn,vn,vn]) zu5) fun Q _=>Q1n U<|B0q<|Le 3 (wm (v:=(.agg #[.string ⟨#[109]⟩,vi 0,vi 0,vn])) (Lq (l:=[.const (.string ⟨#[109]⟩)]) (.cons U .nil) [0]) (fun _=>by kernel_rfl))<|Le 4 (wm (v:=(.agg #[.string ⟨#[110]⟩,vi 0,vi 0,vn])) (Lq (l:=[.const (.string ⟨#[110]⟩)]) (.cons U .nil) [0]) (fun _=>by kernel_rfl)) ?_)
 let D:List Value:=[.string ⟨#[109]⟩,vi 0,vi 0,vn,.string ⟨#[110]⟩,vi 0,vi 0,vn];have L:RR 4 (gk (Z++[])) D ([(⟨⟨#[109]⟩,0,0,[]⟩:yz),(⟨⟨#[110]⟩,0,0,[]⟩:yz)]:List yz):=(RR.cons (r:=[.string ⟨#[109]⟩,vi 0,vi 0,vn]) U (show gk _ _ _ from⟨_,_,U,ZS.nil _ _ _⟩) (RR.cons (r:=[.string ⟨#[110]⟩,vi 0,vi 0,vn]) U (show gk _ _ _ from⟨_,_,U,ZS.nil _ _ _⟩) (RR.nil _ _)))
 refine Lh 5 (ws (cs:=[.string ⟨#[109]⟩,vi 0,vi 0,vn,.string ⟨#[110]⟩,vi 0,vi 0,vn]) zFt (Lq (l:=[.tmp 3,.tmp 4]) (.r2 U U) [0,1]) (fun _=>by kernel_rfl) (by unfold maxLen;omega)) fun E _=>Le 6 (wm (v:=(.agg #[.string ⟨#[115]⟩,vi 0,vi 16,vi 100])) (Lq (l:=[.const (.string ⟨#[115]⟩),.const (vi 16),.const (vi 100)]) (.r3 U U U) [0,2,3]) (fun _=>by kernel_rfl)) (Lh 7 (ws (cs:=([(⟨⟨#[115]⟩,0,16,100⟩:yu)]:List yu).flatMap kT) zc2 (Lq (l:=[.tmp 6]) (.cons U .nil) [0]) (fun _=>by kernel_rfl) (by unfold maxLen;omega)) fun F _=>Le 8 (wm (v:=(.agg #[.string ⟨#[109]⟩,.string ⟨#[115]⟩,vi 0,vi 1])) (Lq (l:=[.const (.string ⟨#[109]⟩),.const (.string ⟨#[115]⟩),.const (vi 1)]) (.r3 U U U) [0,1,3]) (fun _=>by kernel_rfl))<|Le 9 (wm (v:=(.agg #[.string ⟨#[110]⟩,.string ⟨#[115]⟩,vi 0,vi 1])) (Lq (l:=[.const (.string ⟨#[110]⟩),.const (.string ⟨#[115]⟩),.const (vi 1)]) (.r3 U U U) [0,1,3]) (fun _=>by kernel_rfl)) (Lh 10 (ws (cs:=([(⟨⟨#[109]⟩,⟨#[115]⟩,0,1⟩:yE),(⟨⟨#[110]⟩,⟨#[115]⟩,0,1⟩:yE)]:List yE).flatMap mM) zqK (Lq (l:=[.tmp 8,.tmp 9]) (.r2 U U) [0,1]) (fun _=>by kernel_rfl) (by unfold maxLen;omega)) fun G _=>Le 11 (wm (v:=(.agg #[.string ⟨#[]⟩,.string ⟨#[]⟩,.string ⟨#[]⟩,.string ⟨#[]⟩,vi 200,vi 40,vn])) (Lq (l:=[.const (vi 200),.const (vi 40)]) (.r2 U U) [2,3]) (fun _=>by kernel_rfl)) ?_))
 let A:List Value:=[.string ⟨#[]⟩,.string ⟨#[]⟩,.string ⟨#[]⟩,.string ⟨#[]⟩,vi 200,vi 40,vn];have M:RR 7 (f0 (Z++[])) A ([(⟨⟨#[]⟩,(⟨⟨#[]⟩,⟨#[]⟩,⟨#[]⟩⟩:yL),200,40,[]⟩:yw)]:List yw):=(RR.cons (r:=A) U (show f0 _ _ _ from⟨_,_,U,ZS.nil _ _ _⟩) (RR.nil _ _))
 refine Lh 12 (ws (cs:=[.string ⟨#[]⟩,.string ⟨#[]⟩,.string ⟨#[]⟩,.string ⟨#[]⟩,vi 200,vi 40,vn]) zdI (Lq (l:=[.tmp 11]) (.cons U .nil) [0]) (fun _=>by kernel_rfl) (by unfold maxLen;omega)) fun H _=>Le 13 (wm (v:=(.agg #[vs (some ⟨E,0,none⟩) (([(⟨⟨#[109]⟩,0,0,[]⟩:yz),(⟨⟨#[110]⟩,0,0,[]⟩:yz)]:List yz).length) 2,vn,vs (some ⟨F,0,none⟩) (([(⟨⟨#[115]⟩,0,16,100⟩:yu)]:List yu).length) 1,vs (some ⟨G,0,none⟩) (([(⟨⟨#[109]⟩,⟨#[115]⟩,0,1⟩:yE),(⟨⟨#[110]⟩,⟨#[115]⟩,0,1⟩:yE)]:List yE).length) 2,vs (some ⟨H,0,none⟩) (([(⟨⟨#[]⟩,(⟨⟨#[]⟩,⟨#[]⟩,⟨#[]⟩⟩:yL),200,40,[]⟩:yw)]:List yw).length) 1,vn,vn,vn])) (Lq (l:=[.tmp 5,.tmp 7,.tmp 10,.tmp 12]) (.r4 U U U U) [0,2,3,4]) (fun _=>by kernel_rfl)) (Lh 2 (xW (cs:=[vn,vn,vn,vn,vn,vn,vn,vn]) zu5) fun R _=>Ln (xP zu6 .here)<|Q0n<|B0q<|Le 14 (xK z3f (xM .here))<|Le 15 (wm (v:=(.agg #[vi 0,vi 2,vi 0])) (Lq (l:=[.const (vi 0),.const (vi 2),.const (vi 0)]) (.r3 U U U) [0,1,2]) (fun _=>by kernel_rfl))<|Le 16 (wm (v:=(.agg #[vi 2,vi 1,vi 1])) (Lq (l:=[.const (vi 2),.const (vi 1),.const (vi 1)]) (.r3 U U U) [0,1,2]) (fun _=>by kernel_rfl)) (Lh 17 (ws (cs:=([(⟨0,2,0⟩:zb),(⟨2,1,1⟩:zb)]:List zb).flatMap mW) z8g (Lq (l:=[.tmp 15,.tmp 16]) (.r2 U U) [0,1]) (fun _=>by kernel_rfl) (by unfold maxLen;omega)) fun I _=>WL.freezeS (ls:=([(⟨0,2,0⟩:zb),(⟨2,1,1⟩:zb)]:List zb)) .here .h6 hz (RR.flat (enc:=mW) (fun _=>U) _) ?_))
 intro J K N
 let C:Value:=(vs (some ⟨I,0,none⟩) (([(⟨0,2,0⟩:zb),(⟨2,1,1⟩:zb)]:List zb).length) 2);have O:RR 1 (mN (Z++J)) [C] ([([(⟨0,2,0⟩:zb),(⟨2,1,1⟩:zb)]:List zb)]:List (List zb)):=(RR.cons (r:=[C]) U (show mN _ _ _ from⟨_,_,U,N⟩) (RR.nil _ _))
 exact Lh 18 (ws (cs:=[vs (some ⟨I,0,none⟩) (([(⟨0,2,0⟩:zb),(⟨2,1,1⟩:zb)]:List zb).length) 2]) zdH (Lq (l:=[.tmp 17]) (.cons U .nil) [0]) (fun _=>by kernel_rfl) (by unfold maxLen;omega)) fun P _=>Ln (xP zu6 .h7)<|Q1n U<|Nw<|oJ h▸Li results14 (.agg U z3f U (xM .here)<|.tmp U .nil) fun w hw=>⟨J,some ⟨E,0,none⟩,2,D,none,0,some ⟨F,0,none⟩,1,some ⟨G,0,none⟩,2,some ⟨H,0,none⟩,1,A,none,0,none,0,none,0,some ⟨P,0,none⟩,1,[C],qz,⟨L.weak (fun _ _ h=>qQ K h),ZS.nil _ _ _,M.weak (fun _ _ h=>qN K h),ZS.nil _ _ _,ZS.nil _ _ _,ZS.nil _ _ _,O⟩,hw.sub (.s6 .h2 .h6 .h5 .h4 .h3 .h1)⟩
def ko(a:zV):Option Int:=
 some (i64 ((a.fM.length:Int)+(a.fS.length:Int)))
theorem bN(Z b c d e f g i j k l m n o p q s a r)(h:ko a=some r){Nv}(hz:PZ [] Nv Z)(t:ZS Z 4 (gk Z) b c a.fM)(u:ZS Z 4 (fJ Z) d e a.yf)(v:ZS Z 4 (rq kT) f g a.fS)(x:ZS Z 4 (rq mM) i j a.fK)(y:ZS Z 7 (f0 Z) k l a.yg)(z:ZS Z 5 (rq mb) m n a.fH)(A:ZS Z 3 (fO Z) o p a.fU)(B:ZS Z 4 (rq mc) q s a.ye):
  RC 126 #[.agg #[vs b a.fM.length c,vs d a.yf.length e,vs f a.fS.length g,vs i a.fK.length j,vs k a.yg.length l,vs m a.fH.length n,vs o a.fU.length p,vs q a.ye.length s]] Nv (vi r) [] []:=by
 unfold ko at h
 refine L8 func126 U U<|B0q (Lh 1 (wg (cs:=[vs b a.fM.length c,vs d a.yf.length e,vs f a.fS.length g,vs i a.fK.length j,vs k a.yg.length l,vs m a.fH.length n,vs o a.fU.length p,vs q a.ye.length s])) fun C _=>Q1n U<|B0q<|Le 3 (xA tk)<|Le 4 (Nt z9o .here)<|Le 5 (w9 underlying22)<|Le 6 (xA tn)<|Le 7 (Nt zal .here)<|Le 8 (w9 underlying24)<|Q2n U<|Nw ?_)
 exact oJ h▸Nl results126
def fk(a:zV)(b:Int):Option ByteArray:=
 (if decide (b<0) then some true else(ko a).bind fun c=>some (decide (b>=c))).bind fun d=>if d then some ⟨#[]⟩ else if decide (b<a.fM.length) then chk (0<=b/\b<a.fM.length) (some ((nth a.fM b).yJ)) else chk (0<=(i64 (b-(a.fM.length:Int)))/\(i64 (b-(a.fM.length:Int)))<a.fS.length) (some ((nth a.fS (i64 (b-(a.fM.length:Int)))).yJ))
theorem Vc(Z c d e f g i j k l m n o p q s t a u r)(h:fk a u=some r){Nv}(hz:PZ [] Nv Z)(v:ZS Z 4 (gk Z) c d a.fM)(z:ZS Z 4 (fJ Z) e f a.yf)(x:ZS Z 4 (rq kT) g i a.fS)(A:ZS Z 4 (rq mM) j k a.fK)(C:ZS Z 7 (f0 Z) l m a.yg)(D:ZS Z 5 (rq mb) n o a.fH)(E:ZS Z 3 (fO Z) p q a.fU)(F:ZS Z 4 (rq mc) s t a.ye):
  RC 127 #[.agg #[vs c a.fM.length d,vs e a.yf.length f,vs g a.fS.length i,vs j a.fK.length k,vs l a.yg.length m,vs n a.fH.length o,vs p a.fU.length q,vs s a.ye.length t],vi u] Nv (.string r) [] []:=by
 unfold fk at h
 refine Lz func127 U U<|B0q (Lh 2 (wg (cs:=[vs c a.fM.length d,vs e a.yf.length f,vs g a.fS.length i,vs j a.fK.length k,vs l a.yg.length m,vs n a.fH.length o,vs p a.fU.length q,vs s a.ye.length t])) fun P _=>Q1n U<|B0q<|Le 6 (xA tk)<|Le 7 (Nt z9o .here)<|Le 8 (w9 underlying22)<|Q1n U<|WC.block<|WC.b ?_)
 refine bK h fun G y h=>D3q U<|Lw false 4 20 (B:=G) (fun h=>(oJ<|jD y h).symm) (fun _ H=>?_) ?_
 ·have b:=jE y H
  obtain⟨ab,I,b⟩:=z8 b
  replace b:=oJ b
  exact La U<|Le 22 (xK z3f (xM .here))<|Nr call126 hz (fun pz=>bN _ _ _ _ _ _ _ _ _ _ _ _ _ _ _ _ _ _ _ I pz v z x A C D E F)<|Q2q U<|Lx b U .all
 refine Q1n U<|Lj h (fun J h=>?_)<|fun J h=>?_
 ·exact B1n U<|Nw<|Ly<|oJ h▸Nl results127
 ·refine B4n U<|Lj h (fun K h=>?_)<|fun K h=>?_
  ·refine WC.b<|cK h fun L h=>Ld<|Le 30 (xA tk)<|Le 31 (Nt z9o .here)<|La U<|L3 (dd:=33) (Z:=Z) (Pr:=(gk Z)) zFt v L ?_
   rintro Q R M S ⟨T,V,rfl,W⟩
   exact Le 34 (xA Uf)<|Le 35 (xB W8 U<|wA hz.pv M)<|Q1n U<|Nw<|Ly<|oJ h▸Nl results127
  ·refine WC.b<|cK h fun N h=>Ld<|Le 9 (xA tn)<|Le 10 (Nt zal .here)<|Q3q U<|L3 (dd:=14) (Z:=Z) (Pr:=(rq kT)) zc2 x N ?_
   rintro X Y O aa rfl
   exact Le 15 (xA To)<|Le 16 (xB W8 U<|wA hz.pv O)<|Q1n U<|Nw<|Ly<|oJ h▸Nl results127
def vT(b:Int)(c:zV)(d:ByteArray)(e:Option Int):Nat->Int->Option Int
 | 0,_=>none
 | f+1,a=>if decide (a<b) then(fk c a).bind fun g=>if decide (g=d) then some a else vT b c d e f (i64 (a+1)) else e
def j8(a:zV)(b:ByteArray):Option Int:=
 uB (some (-1)) fun c=>(ko a).bind fun d=>vT d a b c xR 0
theorem dP(Z e f g i j k l m n o p q s t u v a d r)(h:j8 a d=some r){Nv}(hz:PZ [] Nv Z)(x:ZS Z 4 (gk Z) e f a.fM)(y:ZS Z 4 (fJ Z) g i a.yf)(z:ZS Z 4 (rq kT) j k a.fS)(B:ZS Z 4 (rq mM) l m a.fK)(C:ZS Z 7 (f0 Z) n o a.yg)(D:ZS Z 5 (rq mb) p q a.fH)(E:ZS Z 3 (fO Z) s t a.fU)(F:ZS Z 4 (rq mc) u v a.ye):
  RC 93 #[.agg #[vs e a.fM.length f,vs g a.yf.length i,vs j a.fS.length k,vs l a.fK.length m,vs n a.yg.length o,vs p a.fH.length q,vs s a.fU.length t,vs u a.ye.length v],.string d] Nv (vi r) [] []:=by
 unfold j8 at h
 refine Lz func93 U U ?_
 let A:List Value:=[vs e a.fM.length f,vs g a.yf.length i,vs j a.fS.length k,vs l a.fK.length m,vs n a.yg.length o,vs p a.fH.length q,vs s a.fU.length t,vs u a.ye.length v];refine B0q<|Lh 2 (wg (cs:=A)) ?_
 intro G _
 refine Q1n U<|jK0 h fun H J h=>Nd (H=some r) ([]) ([]) ?_ ?_
 ·refine WC.b<|bK h fun I K h=>Ld<|Le 6 (xK z3f (xM .here))<|Nr call126 hz (fun pz=>bN _ _ _ _ _ _ _ _ _ _ _ _ _ _ _ _ _ _ _ K pz x y z B C D E F)<|Q1n U<|WC.block<|Ng (fun c b=>(vT I a d H c b=some r)) (fun c b=>[(1,.string d),(2,vp G),(7,vi I),(8,vi b)]) (fun c b=>[stb G 31 A]) (fun c b=>c) ⟨xR,0⟩ h .q (.cons .here .nil) ?_
  rintro(_|L) b h;·cases h
  rw[vT] at h
  refine B1n U<|WC.b<|Lj h (fun M h=>?_)<|fun M h=>?_
  ·refine Nn<|WC.b<|WC.block<|B2n U<|WC.b<|bK h fun P N h=>Ld<|Le 11 (xK z3f (xM .here))<|La U<|Nr call127 hz (fun pz=>Vc _ _ _ _ _ _ _ _ _ _ _ _ _ _ _ _ _ _ _ _ N pz x y z B C D E F)<|La U<|Le 15 (FO U U)<|Q0n<|Lj h (fun O h=>?_)<|fun O h=>?_
   ·exact B2n U<|Nw<|Ly<|Ll<|Ll<|Ly<|Ll<|oJ h▸Nl results93
   ·exact N0<|Lt<|Lb<|D2q U<|WL.nil<|Nx ⟨L,i64 (b+1)⟩ h (Nat.lt_succ_self _) .q<|.cons .here .nil
  ·exact Nz<|Lo<|Lo<|Lv<|Lp () h .nil .nil
 ·rintro  h
  replace h:=J.symm.trans h
  exact B1n U<|Nw<|oJ h▸Nl results93
def uF(a:zV)(c:Int)(b:Int):Option Bool:=
 if decide (b<a.fM.length) then some (decide (b>=0)) else chk (0<=(i64 (b-(a.fM.length:Int)))/\(i64 (b-(a.fM.length:Int)))<a.fS.length) (some (((((decide (((nth a.fS (i64 (b-(a.fM.length:Int)))).yR)=c))&&(decide (((nth a.fS (i64 (b-(a.fM.length:Int)))).yl)>=0)))&&(decide (((nth a.fS (i64 (b-(a.fM.length:Int)))).yl)<=1000)))&&(decide (((nth a.fS (i64 (b-(a.fM.length:Int)))).fT)>=0)))&&(decide (((nth a.fS (i64 (b-(a.fM.length:Int)))).fT)<=1073741824))))
theorem dQ(Z c d e f g i j k l m n o p q s t a b u r)(h:uF a b u=some r){Nv}(hz:PZ [] Nv Z)(G:ZS Z 4 (gk Z) c d a.fM)(H:ZS Z 4 (fJ Z) e f a.yf)(v:ZS Z 4 (rq kT) g i a.fS)(I:ZS Z 4 (rq mM) j k a.fK)(J:ZS Z 7 (f0 Z) l m a.yg)(K:ZS Z 5 (rq mb) n o a.fH)(L:ZS Z 3 (fO Z) p q a.fU)(M:ZS Z 4 (rq mc) s t a.ye):
  RC 94 #[.agg #[vs c a.fM.length d,vs e a.yf.length f,vs g a.fS.length i,vs j a.fK.length k,vs l a.yg.length m,vs n a.fH.length o,vs p a.fU.length q,vs s a.ye.length t],vi b,vi u] Nv (.bool r) [] []:=by
 unfold uF at h
 refine N1 func94 U U<|B0q (Lh 3 (wg (cs:=[vs c a.fM.length d,vs e a.yf.length f,vs g a.fS.length i,vs j a.fK.length k,vs l a.yg.length m,vs n a.fH.length o,vs p a.fU.length q,vs s a.ye.length t])) fun N _=>Q1n U<|WC.b<|B1q U<|Le 9 (xA tk)<|Le 10 (Nt z9o .here)<|Le 11 (w9 underlying22)<|Q1n U<|Lj h (fun x h=>?_)<|fun x h=>?_)
 ·exact B3n U<|Nw<|Ll<|oJ h▸Nl results94
 ·refine Nn<|WC.b<|cK h fun y h=>Ld<|Le 15 (xA tn)<|Le 16 (Nt zal .here)<|La U<|Le 18 (xA tk)<|Le 19 (Nt z9o .here)<|Le 20 (w9 underlying22)<|La U<|L3 (dd:=22) (Z:=Z) (Pr:=(rq kT)) zc2 v y ?_
  rintro O P z Q rfl
  refine Le 23 (xK zPn (qV hz.pv z))<|Lh 7 (xW (cs:=[.string ⟨#[]⟩,vi 0,vi 0,vi 0]) zPo) ?_
  intro R _
  let A:=(i64 (u-(a.fM.length:Int)));refine Ln (xP zPp .here)<|Q0n<|B0q<|Le 24 (xA Tr)<|Le 25 (Nt xL .here)<|Q3q U<|Lw true 3 28 (B:=(decide (((nth a.fS A).yR)=b))&&(decide (((nth a.fS A).yl)>=0))) (fun h=>(jR h).symm) (fun _ C=>?_) ?_
  ·exact Le 29 (xA Ym)<|Le 30 (Nt xL .here)<|Q2q U<|Lx (jS C) U .all
  refine La U<|Lw true 3 33 (B:=((decide (((nth a.fS A).yR)=b))&&(decide (((nth a.fS A).yl)>=0)))&&(decide (((nth a.fS A).yl)<=1000))) (fun h=>(jR h).symm) (fun _ D=>?_) ?_
  ·exact Le 34 (xA Ym)<|Le 35 (Nt xL .here)<|Q2q U<|Lx (jS D) U .all
  refine La U<|Lw true 3 38 (B:=(((decide (((nth a.fS A).yR)=b))&&(decide (((nth a.fS A).yl)>=0)))&&(decide (((nth a.fS A).yl)<=1000)))&&(decide (((nth a.fS A).fT)>=0))) (fun h=>(jR h).symm) (fun _ E=>?_) ?_
  ·exact Le 39 (xA dM)<|Le 40 (Nt xL .here)<|Q2q U<|Lx (jS E) U .all
  refine La U<|Lw true 3 43 (B:=((((decide (((nth a.fS A).yR)=b))&&(decide (((nth a.fS A).yl)>=0)))&&(decide (((nth a.fS A).yl)<=1000)))&&(decide (((nth a.fS A).fT)>=0)))&&(decide (((nth a.fS A).fT)<=1073741824))) (fun h=>(jR h).symm) (fun _ F=>?_) ?_
  ·exact Le 44 (xA dM)<|Le 45 (Nt xL .here)<|Q2q U<|Lx (jS F) U .all
  exact Q1n U<|Nw<|oJ h▸Nl results94
def tB(a:zV)(e:Int)(b:Int)(f:Int)(g:Int):Option Bool:=
 if (decide (b<0))||(decide (b>=a.fK.length)) then some false else chk (0<=b/\b<a.fK.length) ((j8 a ((nth a.fK b).fA)).bind fun c=>(j8 a ((nth a.fK b).fB)).bind fun d=>(if (((decide (((nth a.fK b).yR)=e))&&(decide (((nth a.fK b).yr)>=1)))&&(decide (((nth a.fK b).yr)<=16)))&&(decide (c≠d)) then(uF a e c).bind fun h=>some h else some false).bind fun i=>(if i then(uF a e d).bind fun j=>some j else some false).bind fun k=>some (k&&(((decide (c=f))&&(decide (d=g)))||((decide (c=g))&&(decide (d=f))))))
theorem Wa(Z t u v x y z A C D E F G H I J K a g b c d r)(h:tB a g b c d=some r){Nv}(hz:PZ [] Nv Z)(l:ZS Z 4 (gk Z) t u a.fM)(m:ZS Z 4 (fJ Z) v x a.yf)(n:ZS Z 4 (rq kT) y z a.fS)(i:ZS Z 4 (rq mM) A C a.fK)(o:ZS Z 7 (f0 Z) D E a.yg)(p:ZS Z 5 (rq mb) F G a.fH)(q:ZS Z 3 (fO Z) H I a.fU)(s:ZS Z 4 (rq mc) J K a.ye):
  RC 56 #[.agg #[vs t a.fM.length u,vs v a.yf.length x,vs y a.fS.length z,vs A a.fK.length C,vs D a.yg.length E,vs F a.fH.length G,vs H a.fU.length I,vs J a.ye.length K],vi g,vi b,vi c,vi d] Nv (.bool r) [] []:=by
 unfold tB at h
 refine Oz func56 U U<|B0q (Lh 5 (wg (cs:=[vs t a.fM.length u,vs v a.yf.length x,vs y a.fS.length z,vs A a.fK.length C,vs D a.yg.length E,vs F a.fH.length G,vs H a.fU.length I,vs J a.ye.length K])) fun aj _=>Q1n U<|WC.b<|B3q U<|Lw false 5 16 (B:=(decide (b<0))||(decide (b>=a.fK.length))) (fun h=>(gQ h).symm) (fun _ O=>?_) ?_)
 ·exact La U<|Le 18 (xA lI)<|Le 19 (Nt zjx .here)<|Le 20 (w9 underlying25)<|Q2q U<|Lx (gR O) U .all
 refine Q0n<|Lj h (fun P h=>?_)<|fun P h=>?_
 ·exact B1n U<|Nw<|Ll<|oJ h▸Nl results56
 ·refine Nn<|WC.b<|cK h fun Q h=>Ld<|Le 23 (xA lI)<|Le 24 (Nt zjx .here)<|La U<|L3 (dd:=26) (Z:=Z) (Pr:=(rq mM)) zqK i Q ?_
  rintro ak al R am rfl
  refine Le 27 (xK zPk (qV hz.pv R)) (Lh 11 (xW (cs:=[.string ⟨#[]⟩,.string ⟨#[]⟩,vi 0,vi 0]) zPl) fun an _=>Ln (xP zPm .here)<|Q0n<|WC.b ?_)
  refine bK h fun e S h=>bK h fun f T h=>Lu nc []<|Lg 0 U (xK z3f (xM .h1))<|Lf 1 U (xA Tn)<|Lg 2 U (Nt W8 .here)<|L4 3 U (Ns call93) (cc hz .nil fun w pz ho=>dP _ _ _ _ _ _ _ _ _ _ _ _ _ _ _ _ _ _ _ _ S pz l m n i o p q s)<|Lg 4 U (xK z3f (xM .h1))<|Lf 5 U (xA Tp)<|Lg 6 U (Nt W8 .here)<|L4 7 U (Ns call93) (cc hz .nil fun w pz ho=>dP _ _ _ _ _ _ _ _ _ _ _ _ _ _ _ _ _ _ _ _ T pz l m n i o p q s)<|Lf 8 U q_z<|Lf 9 U q_z<|Ny (by kernel_rfl)<|Lb<|WC.b<|bK h fun V L h=>bK h fun M N h=>Ld<|Le 36 (xA Tq)<|Le 37 (Nt xL .here)<|Q3q U<|Lw true 3 40 (B:=(decide (((nth a.fK b).yR)=g))&&(decide (((nth a.fK b).yr)>=1))) (fun h=>(jR h).symm) (fun _ W=>?_) ?_
  ·exact Le 41 (xA dL)<|Le 42 (Nt xL .here)<|Q2q U<|Lx (jS W) U .all
  refine La U<|Lw true 3 45 (B:=((decide (((nth a.fK b).yR)=g))&&(decide (((nth a.fK b).yr)>=1)))&&(decide (((nth a.fK b).yr)<=16))) (fun h=>(jR h).symm) (fun _ X=>?_) ?_
  ·exact Le 46 (xA dL)<|Le 47 (Nt xL .here)<|Q2q U<|Lx (jS X) U .all
  refine La U<|Lw true 3 50 (B:=(((decide (((nth a.fK b).yR)=g))&&(decide (((nth a.fK b).yr)>=1)))&&(decide (((nth a.fK b).yr)<=16)))&&(decide (e≠f))) (fun h=>(jR h).symm) (fun _ Y=>?_) ?_
  ·exact La U<|La U<|La U<|La U<|Lx (jS Y) U .all
  refine La U<|Lw true 4 55 (B:=V) (fun h=>(oJ<|jE L h).symm) (fun _ aa=>?_) ?_
  ·have j:=jD L aa
   obtain⟨ao,ab,j⟩:=z8 j
   replace j:=oJ j
   exact Le 56 (xK z3f (xM .h1))<|Q2q U<|Nr call94 hz (fun pz=>dQ _ _ _ _ _ _ _ _ _ _ _ _ _ _ _ _ _ _ _ _ _ ab pz l m n i o p q s)<|La U<|Lx j U .all
  refine La U<|Lw true 4 61 (B:=M) (fun h=>(oJ<|jE N h).symm) (fun _ ad=>?_) ?_
  ·have k:=jD N ad
   obtain⟨ap,ae,k⟩:=z8 k
   replace k:=oJ k
   exact Le 62 (xK z3f (xM .h1))<|Q2q U<|Nr call94 hz (fun pz=>dQ _ _ _ _ _ _ _ _ _ _ _ _ _ _ _ _ _ _ _ _ _ ae pz l m n i o p q s)<|La U<|Lx k U .all
  refine La U<|Lw true 18 67 (B:=M&&(((decide (e=c))&&(decide (f=d)))||((decide (e=d))&&(decide (f=c))))) (fun h=>(jR h).symm) (fun _ af=>?_) ?_
  ·refine La U<|La U<|La U<|La U<|Lw true 3 71 (B:=(decide (e=c))&&(decide (f=d))) (fun h=>(jR h).symm) (fun _ ag=>?_) ?_
   ·exact La U<|La U<|La U<|La U<|Lx (jS ag) U .all
   refine La U<|Lw false 8 76 (B:=((decide (e=c))&&(decide (f=d)))||((decide (e=d))&&(decide (f=c)))) (fun h=>(gQ h).symm) (fun _ ah=>?_) ?_
   ·refine La U<|La U<|La U<|La U<|Lw true 3 80 (B:=(decide (e=d))&&(decide (f=c))) (fun h=>(jR h).symm) (fun _ ai=>?_) ?_
    ·exact La U<|La U<|La U<|La U<|Lx (jS ai) U .all
    exact La U<|Lx (gR ah) U .all
   exact La U<|Lx (jS af) U .all
  exact Q1n U<|Nw<|oJ h▸Nl results56
def kp(b:List zb)(d:zV)(f:Int)(g:Option Bool):Nat->Int->(List (Int×Int))->Option Bool
 | 0,_,_=>none
 | i+1,a,e=>if decide (a<b.length) then chk (0<=a/\a<b.length) (qP (fun(c:List (Int×Int))=>chk (((decide ((xC c ((nth b a).ya) 0)=0))||(decide ((xC c ((nth b a).fX) 0)>0)))=false->((decide (a>0))=true->((0:Int)<=0/\0<(b.length:Int)))) ((if ((decide ((xC c ((nth b a).ya) 0)=0))||(decide ((xC c ((nth b a).fX) 0)>0)))||(((decide (a>0))&&(decide (((nth b a).ya)≠((nth b 0).ya))))&&(decide (((nth b a).ya)<d.fM.length))) then some true else(tB d f ((nth b a).fQ) ((nth b a).ya) ((nth b a).fX)).bind fun j=>some (!j)).bind fun k=>if k then some false else kp b d f g i (i64 (a+1)) (w4 c ((nth b a).fX) (i64 ((xC c ((nth b a).fX) 0)+1))))) fun h=>if decide (a=0) then h (w4 e ((nth b a).ya) (i64 ((xC e ((nth b a).ya) 0)+1))) else h e) else g
def tC(b:zV)(c:Int)(a:List zb):Option Bool:=
 uB (some (decide ((a.length:Int)<=32))) fun d=>kp a b c d xR 0 ([]:List (Int×Int))
theorem Wb(Z s t u x y z B I J K L M N O P Q R S c e b r)(h:tC c e b=some r){Nv}(hz:PZ [] Nv Z)(an:ZS Z 4 (gk Z) s t c.fM)(ao:ZS Z 4 (fJ Z) u x c.yf)(ap:ZS Z 4 (rq kT) y z c.fS)(aq:ZS Z 4 (rq mM) B I c.fK)(ar:ZS Z 7 (f0 Z) J K c.yg)(au:ZS Z 5 (rq mb) L M c.fH)(av:ZS Z 3 (fO Z) N O c.fU)(aw:ZS Z 4 (rq mc) P Q c.ye)(af:ZS Z 3 (rq mW) R S b):
  RC 29 #[.agg #[vs s c.fM.length t,vs u c.yf.length x,vs y c.fS.length z,vs B c.fK.length I,vs J c.yg.length K,vs L c.fH.length M,vs N c.fU.length O,vs P c.ye.length Q],vi e,vs R b.length S] Nv (.bool r) [] []:=by
 unfold tC at h
 refine N1 func29 U U ?_
 let A:List Value:=[vs s c.fM.length t,vs u c.yf.length x,vs y c.fS.length z,vs B c.fK.length I,vs J c.yg.length K,vs L c.fH.length M,vs N c.fU.length O,vs P c.ye.length Q];refine B0q<|Lh 3 (wg (cs:=A)) ?_
 intro g _
 refine Q1n U<|B0q (Lh 10 (fh vI<|Value.int .i64) fun l _=>Q1n U ?_)
 obtain⟨ag,ax,h⟩:=qB h
 let C:Value:=(vs R b.length S);refine Nd (ag=some r) ([(2,C)]) ([]) ?_ ?_
 ·refine B1q U<|Le 12 (w9 underlying48)<|Q1n U<|WC.block<|N7 (fun n a f=>(kp b c e ag n a f=some r)) (fun n a f=>[(1,vi e),(2,C),(3,vp g),(7,(.map<|some l)),(11,C),(12,vi (b.length:Int)),(13,vi a)]) (fun n a f=>[stb g 31 A,xU l vI vI f]) (fun n a f=>n) ⟨xR,0,([]:List (Int×Int))⟩ h .q (.s2 .h1 .here) ?_
  rintro(_|ay) a f h;·cases h
  rw[kp] at h
  refine B1n U<|WC.b<|Lj h (fun az h=>?_)<|fun az h=>?_
  ·refine Nn<|WC.b<|WC.block<|WC.b<|cK h fun aA h=>D1q U<|L3 (dd:=16) (Z:=Z) (Pr:=(rq mW)) z8g af aA ?_
   rintro aM aN aB aO rfl
   refine Le 17 (xK z4D (qV hz.pv aB)) (Lh 9 (xW (cs:=[vi 0,vi 0,vi 0]) zdJ) fun m _=>La U<|Ln (xP zc3 .here)<|Q0n ?_)
   refine jK1 h fun aC aD h=>L5 (fun d=>(aC d=some r)) (fun d=>[(1,vi e),(2,C),(3,vp g),(7,(.map<|some l)),(8,vi a),(9,vp m),(11,C),(12,vi (b.length:Int)),(13,vi a)]) (fun d=>[stb g 31 A,xU l vI vI d,stb m 62 [(vi<|(nth b a).ya),(vi<|(nth b a).fX),(vi<|(nth b a).fQ)]]) ?_ ?_
   ·refine B2n U<|Lj h (fun aE h=>?_)<|fun aE h=>?_
    ·exact D1q U<|Le 21 (xA gO)<|Le 22 (Nt xL .here)<|Le 23 (ku (k:=((nth b a).ya)) (dflt:=(0:Int)) tA underlying145 ms .h2)<|La U<|Ln (mO (k:=((nth b a).ya)) (v:=i64 ((xC f ((nth b a).ya) 0)+1)) tA underlying145 .h2)<|WL.nil<|Lp (w4 f ((nth b a).ya)<|i64 ((xC f ((nth b a).ya) 0)+1)) h .q<|.s3 .h2 .here .here
    ·exact N0<|Lp f h .q<|.s3 .h1 .h1 .here
   ·rintro d h
    replace h:=(aD d).symm.trans h
    refine WC.b<|WC.b ?_
    obtain⟨aF,h⟩:=xH h
    obtain⟨aG,ah,h⟩:=z8 h
    let E:Value:=(vi (b.length:Int));let F:Value:=(.bool ((decide ((xC d ((nth b a).ya) 0)=0))||(decide ((xC d ((nth b a).fX) 0)>0))));refine Lu nc []<|Lf 0 U q_m<|Lf 1 U (xA gO)<|Lg 2 U (Nt xL .h2)<|Lg 3 U (ku (k:=((nth b a).ya)) (dflt:=(0:Int)) tA underlying145 ms .h1)<|Lf 4 U (eH U U)<|Lf 5 U q_m<|L9 (fuel':=33) [(1,vi e),(2,C),(3,vp g),(7,(.map<|some l)),(8,vi a),(9,vp m),(11,C),(12,E),(13,vi a),(30,(.bool<|decide ((xC d ((nth b a).ya) 0)=0))),(36,F)] (j7 45 (dn 12)) ?_<|fun ai=>?_
    rotate_left
    ·rcases Bool.eq_false_or_eq_true (decide ((xC d ((nth b a).ya) 0)=0)) with hb' | hb'
     ·have T:=hb';clear hb'
      refine L0 (i:=30) U T<|Lk 6 U<|Lk 7 U<|Lk 8 U<|Lk 9 U<|Lk 10 U<|Lf 11 U qE<|L2 .a3 ?_ ai
      exact .t 9<|.r2 (zu<|Eq.symm T)<|zu<|gQ T
     ·have V:=hb';clear hb'
      refine L0 (i:=30) U V<|Lf 6 U q_m<|Lf 7 U (xA mY)<|Lg 8 U (Nt xL .h2)<|Lg 9 U (ku (k:=((nth b a).fX)) (dflt:=(0:Int)) tA underlying145 ms .h1)<|Lf 10 U sT<|Lf 11 U qF<|L2 .a3 ?_ ai
      exact .t 9<|.r2 (zu<|Eq.symm V)<|zu<|gR V
    let H:=(c.fM.length:Int);let D:Value:=(.bool (((decide ((xC d ((nth b a).ya) 0)=0))||(decide ((xC d ((nth b a).fX) 0)>0)))||(((decide (a>0))&&(decide (((nth b a).ya)≠((nth b 0).ya))))&&(decide (((nth b a).ya)<H)))));refine WD.d (bz 12 33) (by kernel_rfl)<|Lf 12 U q_m<|L9 (fuel':=12) [(1,vi e),(2,C),(3,vp g),(7,(.map<|some l)),(9,vp m),(11,C),(12,E),(13,vi a),(37,F),(57,D)] (j7 45 (dn 33)) ?_<|fun aj=>?_
    rotate_left
    ·rcases Bool.eq_false_or_eq_true ((decide ((xC d ((nth b a).ya) 0)=0))||(decide ((xC d ((nth b a).fX) 0)>0))) with hb' | hb'
     ·have W:=hb';clear hb'
      refine L0 (i:=37) U W<|Lk 13 U<|Lk 14 U<|Lk 15 U<|Lk 16 U<|Lk 17 U<|Lk 18 U<|Lk 19 U<|Lk 20 U<|Lk 21 U<|Lk 22 U<|Lk 23 U<|Lk 24 U<|Lk 25 U<|Lk 26 U<|Lk 27 U<|Lk 28 U<|Lk 29 U<|Lk 30 U<|Lk 31 U<|Lf 32 U qE<|L2 .a3 ?_ aj
      exact .t 8<|.r2 (zu<|Eq.symm W)<|zu<|gQ W
     ·have p:=hb';clear hb'
      have aH:=aF p
      let G:Value:=(.bool ((decide (a>0))&&(decide (((nth b a).ya)≠((nth b 0).ya)))));refine L0 (i:=37) U p<|Lf 13 U q_m<|Lf 14 U sT<|Lf 15 U q_m<|L9 (fuel':=21) [(1,vi e),(2,C),(3,vp g),(7,(.map<|some l)),(9,vp m),(11,C),(12,E),(13,vi a),(37,.bool false),(40,(.bool<|decide (a>0))),(48,G)] (j7 45 (dn 24)) ?_<|fun ak=>?_
      rotate_left
      ·rcases Bool.eq_false_or_eq_true (decide (a>0)) with hb' | hb'
       ·have q:=hb';clear hb'
        have aI:=aH q
        refine L0 (i:=40) U q<|Lf 16 U (xA gO)<|Lg 17 U (Nt xL .h2)<|Lf 18 U q_m<|Nf (j:=19) (dd:=44) (by kernel_rfl) z2B z2C (Z:=Z) (Pr:=(rq mW)) z8g af aI ?_
        rintro aP aQ aJ aR rfl
        refine Lf 20 U (xA gO)<|Lg 21 U (xB xL U<|wA hz.pv aJ)<|Lf 22 U (GL U U)<|Lf 23 U qE<|L2 .a3 ?_ ak
        exact .t 9<|.r2 (zu<|Eq.symm q)<|zu<|jS q
       ·have X:=hb';clear hb'
        refine L0 (i:=40) U X<|Lk 16 U<|Lk 17 U<|Lk 18 U<|Lk 19 U<|Lk 20 U<|Lk 21 U<|Lk 22 U<|Lf 23 U qF<|L2 .a3 ?_ ak
        exact .t 9<|.r2 (zu<|Eq.symm X)<|zu<|jR X
      refine WD.d (bz 24 21) (by kernel_rfl)<|Lf 24 U q_m<|L9 (fuel':=13) [(1,vi e),(2,C),(3,vp g),(7,(.map<|some l)),(9,vp m),(11,C),(12,E),(13,vi a),(37,.bool false),(49,G),(56,(.bool<|((decide (a>0))&&(decide (((nth b a).ya)≠((nth b 0).ya))))&&(decide (((nth b a).ya)<H))))] (j7 45 (dn 32)) ?_<|fun al=>?_
      rotate_left
      ·rcases Bool.eq_false_or_eq_true ((decide (a>0))&&(decide (((nth b a).ya)≠((nth b 0).ya)))) with hb' | hb'
       ·have Y:=hb';clear hb'
        refine L0 (i:=49) U Y<|Lf 25 U (xA gO)<|Lg 26 U (Nt xL .h2)<|Lf 27 U (xA tk)<|Lg 28 U (Nt z9o .here)<|Lf 29 U (w9 underlying22)<|Lf 30 U sS<|Lf 31 U qE<|L2 .a3 ?_ al
        exact .t 9<|.r2 (zu<|Eq.symm Y)<|zu<|jS Y
       ·have aa:=hb';clear hb'
        refine L0 (i:=49) U aa<|Lk 25 U<|Lk 26 U<|Lk 27 U<|Lk 28 U<|Lk 29 U<|Lk 30 U<|Lf 31 U qF<|L2 .a3 ?_ al
        exact .t 9<|.r2 (zu<|Eq.symm aa)<|zu<|jR aa
      refine WD.d (bz 32 13) (by kernel_rfl)<|Lf 32 U qF<|L2 .a3 ?_ aj
      exact .t 8<|.r2 (zu<|Eq.symm p)<|zu<|gR p
    refine WD.d (bz 33 12) (by kernel_rfl)<|Lf 33 U q_m<|L9 (fuel':=0) [(1,vi e),(2,C),(3,vp g),(7,(.map<|some l)),(9,vp m),(11,C),(12,E),(13,vi a),(58,D),(69,.bool aG)] (j7 45 (dn 45)) ?_<|fun am=>?_
    rotate_left
    ·rcases Bool.eq_false_or_eq_true (((decide ((xC d ((nth b a).ya) 0)=0))||(decide ((xC d ((nth b a).fX) 0)>0)))||(((decide (a>0))&&(decide (((nth b a).ya)≠((nth b 0).ya))))&&(decide (((nth b a).ya)<H)))) with hb' | hb'
     ·have ab:=hb';clear hb'
      have ad:=jD ah ab
      replace ad:=oJ ad
      refine L0 (i:=58) U ab<|Lk 34 U<|Lk 35 U<|Lk 36 U<|Lk 37 U<|Lk 38 U<|Lk 39 U<|Lk 40 U<|Lk 41 U<|Lk 42 U<|Lk 43 U<|Lf 44 U qE<|L2 .a3 ?_ am
      exact .t 8<|.r2 (zu<|Eq.symm ab)<|zu ad
     ·have ae:=hb';clear hb'
      have o:=jE ah ae
      obtain⟨aS,aK,o⟩:=z8 o
      replace o:=oJ o
      refine L0 (i:=58) U ae<|Lg 34 U (xK z3f (xM .here))<|Lf 35 U q_m<|Lf 36 U (xA lJ)<|Lg 37 U (Nt xL .h2)<|Lf 38 U (xA gO)<|Lg 39 U (Nt xL .h2)<|Lf 40 U (xA mY)<|Lg 41 U (Nt xL .h2)<|L4 42 U (Ns call56) (cc hz .nil fun w pz ho=>Wa _ _ _ _ _ _ _ _ _ _ _ _ _ _ _ _ _ _ _ _ _ _ _ aK pz an ao ap aq ar au av aw)<|Lf 43 U (Yd U)<|Lf 44 U qF<|L2 .a3 ?_ am
      exact .t 8<|.r2 (zu<|Eq.symm ae)<|zu o
    refine WD.d (bz 45 0) (by kernel_rfl)<|Ny (by kernel_rfl)<|Lb<|Lj h (fun aL h=>?_)<|fun aL h=>?_
    ·exact B1n U<|Nw<|Ll<|Ly<|Ll<|Ll<|Ly<|Ll<|oJ h▸Nl results29
    ·exact Nn<|D1q U<|Le 71 (xA mY)<|Le 72 (Nt xL .h2)<|Le 73 (ku (k:=((nth b a).fX)) (dflt:=(0:Int)) tA underlying145 ms .h1)<|La U<|Ln (mO (k:=((nth b a).fX)) (v:=i64 ((xC d ((nth b a).fX) 0)+1)) tA underlying145 .h1)<|WL.nil<|Lt<|Lb<|D2q U<|WL.nil<|Nx ⟨ay,i64 (a+1),(w4 d ((nth b a).fX)<|i64 ((xC d ((nth b a).fX) 0)+1))⟩ h (Nat.lt_succ_self _) .q<|.s2 .h1 .here
  ·exact Nz<|Lo<|Lo<|Lv<|Lp () h (.cons U .nil) .nil
 ·rintro  h
  replace h:=ax.symm.trans h
  exact B1q U<|Le 77 (w9 underlying48)<|Q2n U<|Nw<|oJ h▸Nl results29
def vU(a:List zb)(b:zV)(c:Int):Option Bool:=
 (tC b c a).bind fun d=>some (!d)
theorem YM(Z c d e f g i j k l m n o p q s t u v x y b a z r)(h:vU b a z=some r){Nv}(hz:PZ [] Nv Z)(A:ZS Z 3 (rq mW) c d b)(B:ZS Z 4 (gk Z) f g a.fM)(C:ZS Z 4 (fJ Z) i j a.yf)(D:ZS Z 4 (rq kT) k l a.fS)(E:ZS Z 4 (rq mM) m n a.fK)(F:ZS Z 7 (f0 Z) o p a.yg)(G:ZS Z 5 (rq mb) q s a.fH)(H:ZS Z 3 (fO Z) t u a.fU)(I:ZS Z 4 (rq mc) v x a.ye)(J:ZC Z e [vs f a.fM.length g,vs i a.yf.length j,vs k a.fS.length l,vs m a.fK.length n,vs o a.yg.length p,vs q a.fH.length s,vs t a.fU.length u,vs v a.ye.length x])(K:ZC Z y [vi z]):
  RC 28 #[vs c b.length d,vq e,vq y] Nv (.bool r) [] []:=by
 unfold vU at h
 exact N1 func28 U U<|B1n U<|WC.b<|bK h fun M L h=>Ld<|Le 5 (xK z3f (qV hz.pv J))<|Le 6 (xB xL U<|mG hz.pv K)<|La U<|Nr call29 hz (fun pz=>Wb _ _ _ _ _ _ _ _ _ _ _ _ _ _ _ _ _ _ _ _ _ _ _ L pz B C D E F G H I A)<|Q2n U<|Nw<|oJ h▸Nl results28
def wt(b:List (List zb))(zar:(List zb)->Option Bool)(c:Option Int):Nat->Int->Option Int
 | 0,_=>none
 | d+1,a=>if decide (a<b.length) then chk (0<=a/\a<b.length) ((zar (nth b a)).bind fun e=>if e then some a else wt b zar c d (i64 (a+1))) else c
def qo(a:List (List zb))(zar:(List zb)->Option Bool):Option Int:=
 uB (some (-1)) fun b=>wt a zar b xR 0
theorem rI(Z d g zjB zrc b zar r)(h:qo b zar=some r){Nv}(hz:PZ [] Nv Z)(j:ZS Z 1 (mN Z) d g b)(k:∀ args w,(callFunc zjB args).run Tryz.prog w = .ok (.enter zjB args) w)(m:∀ w:World,PZ [] w Z->∀(x0:List zb) (kA:Option Addr) (iS:Nat) (r:Bool),ZS Z 3 (rq mW) kA iS x0->zar x0=some r->Calls Tryz.prog zjB (([vs kA x0.length iS]:List Value)++zrc).toArray w fun e w'=>e = .returned (.bool r)/\Hp [] w w' []):
  RC 55 #[vs d b.length g,.func (.func zjB) #[] (zrc).toArray] Nv (vi r) [] []:=by
 unfold qo at h
 refine Lz func55 U U<|B1n U<|jK0 h fun i n h=>Nd (i=some r) ([]) ([]) ?_ ?_
 ·refine B1q U<|Le 7 (w9 underlying32)<|Q1n U<|WC.block<|Ng (fun c a=>(wt b zar i c a=some r)) (fun c a=>[(0,vs d b.length g),(1,.func (.func zjB) #[] (zrc).toArray),(7,vi (b.length:Int)),(8,vi a)]) (fun c a=>[]) (fun c a=>c) ⟨xR,0⟩ h .q .nil ?_
  rintro(_|o) a h;·cases h
  rw[wt] at h
  refine B1n U<|WC.b<|Lj h (fun p h=>?_)<|fun p h=>?_
  ·refine Nn<|WC.b<|WC.block<|B2n U<|WC.b<|cK h fun q h=>bK h fun s t h=>D3q U<|L3 (dd:=14) (Z:=Z) (Pr:=(mN Z)) zdH j q ?_
   rintro A B u C ⟨v,x,rfl,y⟩
   refine Le 15 (xB zc1 U<|mG hz.pv u)<|Lm 16 (qi (l:=[.tmp 15]) (f:=zjB) (caps:=zrc) k<|.cons U .nil) .nil (fun w hw=>m w (hz.now hw) (nth b a) v x s y t)<|Q0n<|Lj h (fun z h=>?_)<|fun z h=>?_
   ·exact B2n U<|Nw<|Ly<|Ll<|Ll<|Ly<|Ll<|oJ h▸Nl results55
   ·exact N0<|Lt<|Lb<|D2q U<|WL.nil<|Nx ⟨o,i64 (a+1)⟩ h (Nat.lt_succ_self _) .q .nil
  ·exact Nz<|Lo<|Lo<|Lv<|Lp () h .nil .nil
 ·rintro  h
  replace h:=n.symm.trans h
  exact B1n U<|Nw<|oJ h▸Nl results55
def wM(a:List (List zb))(zjC:(List zb)->Option Bool):Option Bool:=
 (qo a zjC).bind fun b=>some (decide (b>=0))
theorem fY(Z b c zjD zre a zjC r)(h:wM a zjC=some r){Nv}(hz:PZ [] Nv Z)(d:ZS Z 1 (mN Z) b c a)(f:∀ args w,(callFunc zjD args).run Tryz.prog w = .ok (.enter zjD args) w)(g:∀ w:World,PZ [] w Z->∀(x0:List zb) (kA:Option Addr) (iS:Nat) (r:Bool),ZS Z 3 (rq mW) kA iS x0->zjC x0=some r->Calls Tryz.prog zjD (([vs kA x0.length iS]:List Value)++zre).toArray w fun e w'=>e = .returned (.bool r)/\Hp [] w w' []):
  RC 27 #[vs b a.length c,.func (.func zjD) #[] (zre).toArray] Nv (.bool r) [] []:=by
 unfold wM at h
 exact Lz func27 U U<|B1n U<|WC.b<|bK h fun j i h=>D2q U<|Nr call55 hz (fun pz=>rI _ _ _ (zjB:=zjD) (zrc:=zre) _ (zar:=zjC) _ i pz d f g)<|Q2n U<|Nw<|oJ h▸Nl results27
def md(c:zV)(a:Int)(b:List (List zb)):Option Bool:=
 (if (((decide (a=0))||(decide (a=1)))&&(decide ((b.length:Int)=(c.yg.length:Int))))&&(decide ((b.length:Int)<=16)) then(wM b (fun(y0:List zb)=>vU y0 c a)).bind fun d=>some (!d) else some false).bind fun e=>some e
theorem oX(Z e f g i j k m n o p q s t u v x y z a b c r)(h:md a b c=some r){Nv}(hz:PZ [] Nv Z)(D:ZS Z 4 (gk Z) e f a.fM)(E:ZS Z 4 (fJ Z) g i a.yf)(F:ZS Z 4 (rq kT) j k a.fS)(G:ZS Z 4 (rq mM) m n a.fK)(H:ZS Z 7 (f0 Z) o p a.yg)(I:ZS Z 5 (rq mb) q s a.fH)(J:ZS Z 3 (fO Z) t u a.fU)(K:ZS Z 4 (rq mc) v x a.ye)(L:ZS Z 1 (mN Z) y z c):
  RC 12 #[.agg #[vs e a.fM.length f,vs g a.yf.length i,vs j a.fS.length k,vs m a.fK.length n,vs o a.yg.length p,vs q a.fH.length s,vs t a.fU.length u,vs v a.ye.length x],vi b,vs y c.length z] Nv (.bool r) [] []:=by
 unfold md at h
 refine N1 func12 U U<|B0q (Lh 3 (wg (cs:=[vs e a.fM.length f,vs g a.yf.length i,vs j a.fS.length k,vs m a.fK.length n,vs o a.yg.length p,vs q a.fH.length s,vs t a.fU.length u,vs v a.ye.length x])) fun M _=>Lh 4 (wg (cs:=[vi b])) fun N _=>Q1n U<|WC.b ?_)
 refine bK h fun O C h=>Ld<|Le 7 (Nt xL .here)<|Q2q U<|Lw false 2 9 (B:=(decide (b=0))||(decide (b=1))) (fun h=>(gQ h).symm) (fun _ P=>?_) ?_
 ·exact Le 10 (Nt xL .here)<|Q2q U<|Lx (gR P) U .all
 let A:=(a.yg.length:Int);refine La U<|Lw true 6 13 (B:=((decide (b=0))||(decide (b=1)))&&(decide ((c.length:Int)=A))) (fun h=>(jR h).symm) (fun _ Q=>?_) ?_
 ·exact La U<|Le 15 (w9 underlying32)<|Le 16 (xA mX)<|Le 17 (Nt z8f .h1)<|Le 18 (w9 underlying26)<|Q2q U<|Lx (jS Q) U .all
 refine La U<|Lw true 3 21 (B:=(((decide (b=0))||(decide (b=1)))&&(decide ((c.length:Int)=A)))&&(decide ((c.length:Int)<=16))) (fun h=>(jR h).symm) (fun _ R=>?_) ?_
 ·exact La U<|Le 23 (w9 underlying32)<|Q2q U<|Lx (jS R) U .all
 refine La U<|Lw true 4 26 (B:=O) (fun h=>(oJ<|jE C h).symm) (fun _ S=>?_) ?_
 ·have d:=jD C S
  obtain⟨V,T,d⟩:=z8 d
  replace d:=oJ d
  exact La U<|Le 28 (vf<|L6 (l:=[.tmp 3,.tmp 4])<|.r2 U U)<|Lm 29 (Ns call27) .nil (uC hz .nil (.s2 .h1 .here) fun w pz ho la=>fY _ _ _ (zjD:=28) (zre:=[vp M,vp N]) _ (zjC:=(fun(y0:List zb)=>vU y0 a b)) _ T pz ((L.mono<|zl).weak (fun _ _ h=>jc zl h)) call28<|fun w' hz' y0 ga0 gc0 r DC hr=>YM _ _ _ _ _ _ _ _ _ _ _ _ _ _ _ _ _ _ _ _ _ _ _ _ _ hr hz' DC ((D.mono<|zl).weak (fun _ _ h=>qQ zl h)) ((E.mono<|zl).weak (fun _ _ h=>qX zl h)) (F.mono<|zl) (G.mono<|zl) ((H.mono<|zl).weak (fun _ _ h=>qN zl h)) (I.mono<|zl) ((J.mono<|zl).weak (fun _ _ h=>qY zl h)) (K.mono<|zl) ((la _ (.head _) _).stb)<|(la _ (.tail _<|.head _) _).stb)<|Q2q U<|Lx d U .all
 exact Q1n U<|Nw<|oJ h▸Nl results12
def kG(b:Int)(c:Option Bool):Nat->Int->Option Bool
 | 0,_=>none
 | d+1,a=>if decide (a<=12800) then if decide (a=b) then some true else kG b c d (i64 (a*2)) else c
def o5(a:Int):Option Bool:=
 uB (some false) fun b=>kG a b xR 100
theorem KN(Z c r)(h:o5 c=some r){Nv}(hz:PZ [] Nv Z):
  RC 20 #[vi c] Nv (.bool r) [] []:=by
 unfold o5 at h
 refine L8 func20 U U<|B1n U<|jK0 h fun d e h=>Nd (d=some r) ([]) ([]) ?_ ?_
 ·refine B1n U<|WC.block<|Ng (fun b a=>(kG c d b a=some r)) (fun b a=>[(0,vi c),(3,vi a)]) (fun b a=>[]) (fun b a=>b) ⟨xR,100⟩ h .q .nil ?_
  rintro(_|f) a h;·cases h
  rw[kG] at h
  refine WC.b<|B2n U<|Lj h (fun g h=>?_)<|fun g h=>?_
  ·refine Nn<|WC.b<|WC.block<|B3n U<|Lj h (fun i h=>?_)<|fun i h=>?_
   ·exact B1n U<|Nw<|Ly<|Ll<|Ll<|Ly<|Ll<|oJ h▸Nl results20
   ·exact N0<|Lt<|Lb<|D3q U<|WL.nil<|Nx ⟨f,i64 (a*2)⟩ h (Nat.lt_succ_self _) .q .nil
  ·exact Nz<|Lo<|Lo<|Lv<|Lp () h .nil .nil
 ·rintro  h
  replace h:=e.symm.trans h
  exact B1n U<|Nw<|oJ h▸Nl results20
def jW(a:yw):Option Bool:=
 (o5 a.yK).bind fun b=>some (((!b)||(decide (a.yC<1)))||(decide (a.yC>72)))
theorem YN(Z b c a r)(h:jW a=some r){Nv}(hz:PZ [] Nv Z)(i:ZS Z 3 (rq ax) b c a.xa):
  RC 19 #[.agg #[.string a.yJ,.string a.yD.yO,.string a.yD.yW,.string a.yD.yZ,vi a.yK,vi a.yC,vs b a.xa.length c]] Nv (.bool r) [] []:=by
 unfold jW at h
 refine L8 func19 U U<|B0q (Lh 1 (wg (cs:=[.string a.yJ,.string a.yD.yO,.string a.yD.yW,.string a.yD.yZ,vi a.yK,vi a.yC,vs b a.xa.length c])) fun j _=>Q1n U<|WC.b ?_)
 refine bK h fun d e h=>Ld<|Le 3 (xA V6)<|Le 4 (Nt xL .here)<|Nr call20 hz (KN _ _ _ e)<|Q2q U<|Lw false 3 7 (B:=(!d)||(decide (a.yC<1))) (fun h=>(gQ h).symm) (fun _ f=>?_) ?_
 ·exact Le 8 (xA lK)<|Le 9 (Nt xL .here)<|Q2q U<|Lx (gR f) U .all
 refine La U<|Lw false 3 12 (B:=((!d)||(decide (a.yC<1)))||(decide (a.yC>72))) (fun h=>(gQ h).symm) (fun _ g=>?_) ?_
 ·exact Le 13 (xA lK)<|Le 14 (Nt xL .here)<|Q2q U<|Lx (gR g) U .all
 exact Q1n U<|Nw<|oJ h▸Nl results19
def wU(b:List yw)(zat:yw->Option Bool)(c:Option Int):Nat->Int->Option Int
 | 0,_=>none
 | d+1,a=>if decide (a<b.length) then chk (0<=a/\a<b.length) ((zat (⟨(nth b a).yJ,(⟨((nth b a).yD).yO,((nth b a).yD).yW,((nth b a).yD).yZ⟩:yL),(nth b a).yK,(nth b a).yC,(nth b a).xa⟩:yw)).bind fun e=>if e then some a else wU b zat c d (i64 (a+1))) else c
def kw(a:List yw)(zat:yw->Option Bool):Option Int:=
 uB (some (-1)) fun b=>wU a zat b xR 0
theorem ou(Z d g zjE zrg b zat r)(h:kw b zat=some r){Nv}(hz:PZ [] Nv Z)(j:ZS Z 7 (f0 Z) d g b)(k:∀ args w,(callFunc zjE args).run Tryz.prog w = .ok (.enter zjE args) w)(m:∀ w:World,PZ [] w Z->∀(x0:yw) (kA:Option Addr) (iS:Nat) (r:Bool),ZS Z 3 (rq ax) kA iS x0.xa->zat x0=some r->Calls Tryz.prog zjE (([.agg #[.string x0.yJ,.string x0.yD.yO,.string x0.yD.yW,.string x0.yD.yZ,vi x0.yK,vi x0.yC,vs kA x0.xa.length iS]]:List Value)++zrg).toArray w fun e w'=>e = .returned (.bool r)/\Hp [] w w' []):
  RC 34 #[vs d b.length g,.func (.func zjE) #[] (zrg).toArray] Nv (vi r) [] []:=by
 unfold kw at h
 refine Lz func34 U U<|B1n U<|jK0 h fun i n h=>Nd (i=some r) ([]) ([]) ?_ ?_
 ·refine B1q U<|Le 7 (w9 underlying26)<|Q1n U<|WC.block<|Ng (fun c a=>(wU b zat i c a=some r)) (fun c a=>[(0,vs d b.length g),(1,.func (.func zjE) #[] (zrg).toArray),(7,vi (b.length:Int)),(8,vi a)]) (fun c a=>[]) (fun c a=>c) ⟨xR,0⟩ h .q .nil ?_
  rintro(_|o) a h;·cases h
  rw[wU] at h
  refine B1n U<|WC.b<|Lj h (fun p h=>?_)<|fun p h=>?_
  ·refine Nn<|WC.b<|WC.block<|B2n U<|WC.b<|cK h fun q h=>bK h fun s t h=>D3q U<|L3 (dd:=14) (Z:=Z) (Pr:=(f0 Z)) zdI j q ?_
   rintro A B u C ⟨v,x,rfl,y⟩
   refine Le 15 (xK zPq (qV hz.pv u))<|Lm 16 (qi (l:=[.tmp 15]) (f:=zjE) (caps:=zrg) k<|.cons U .nil) .nil (fun w hw=>m w (hz.now hw) (⟨(nth b a).yJ,(⟨((nth b a).yD).yO,((nth b a).yD).yW,((nth b a).yD).yZ⟩:yL),(nth b a).yK,(nth b a).yC,(nth b a).xa⟩:yw) v x s y t)<|Q0n<|Lj h (fun z h=>?_)<|fun z h=>?_
   ·exact B2n U<|Nw<|Ly<|Ll<|Ll<|Ly<|Ll<|oJ h▸Nl results34
   ·exact N0<|Lt<|Lb<|D2q U<|WL.nil<|Nx ⟨o,i64 (a+1)⟩ h (Nat.lt_succ_self _) .q .nil
  ·exact Nz<|Lo<|Lo<|Lv<|Lp () h .nil .nil
 ·rintro  h
  replace h:=n.symm.trans h
  exact B1n U<|Nw<|oJ h▸Nl results34
def qH(a:List yw)(zmc:yw->Option Bool):Option Bool:=
 (kw a zmc).bind fun b=>some (decide (b>=0))
theorem pJ(Z b c zmd zuH a zmc r)(h:qH a zmc=some r){Nv}(hz:PZ [] Nv Z)(d:ZS Z 7 (f0 Z) b c a)(f:∀ args w,(callFunc zmd args).run Tryz.prog w = .ok (.enter zmd args) w)(g:∀ w:World,PZ [] w Z->∀(x0:yw) (kA:Option Addr) (iS:Nat) (r:Bool),ZS Z 3 (rq ax) kA iS x0.xa->zmc x0=some r->Calls Tryz.prog zmd (([.agg #[.string x0.yJ,.string x0.yD.yO,.string x0.yD.yW,.string x0.yD.yZ,vi x0.yK,vi x0.yC,vs kA x0.xa.length iS]]:List Value)++zuH).toArray w fun e w'=>e = .returned (.bool r)/\Hp [] w w' []):
  RC 18 #[vs b a.length c,.func (.func zmd) #[] (zuH).toArray] Nv (.bool r) [] []:=by
 unfold qH at h
 exact Lz func18 U U<|B1n U<|WC.b<|bK h fun j i h=>D2q U<|Nr call34 hz (fun pz=>ou _ _ _ (zjE:=zmd) (zrg:=zuH) _ (zat:=zmc) _ i pz d f g)<|Q2n U<|Nw<|oJ h▸Nl results18
def me(a:zb):Option z7:=
 some (⟨a.ya,a.fQ⟩:z7)
theorem tD(Z a r)(h:me a=some r){Nv}(hz:PZ [] Nv Z):
  RC 40 #[.agg #[vi a.ya,vi a.fX,vi a.fQ]] Nv (.agg #[vi r.ya,vi r.fQ]) [] []:=by
 unfold me at h
 refine L8 func40 U U<|B0q (Lh 1 (wg (cs:=[vi a.ya,vi a.fX,vi a.fQ])) fun b _=>Lh 2 (xW (cs:=[vi 0,vi 0]) zqM) fun c _=>Q0n<|B0q<|Le 3 (xA gO)<|Le 4 (Nt xL .h1)<|Le 5 (xA lJ)<|Le 6 (Nt xL .h1)<|Le 7 (wm (v:=(.agg #[vi a.ya,vi a.fQ])) (Lq (l:=[.tmp 4,.tmp 6]) (.r2 U U) [0,1]) (fun _=>by kernel_rfl))<|Ln (xP zu7 .here)<|Q0n<|Nw ?_)
 exact oJ h▸Nm results40 (.agg U z5S U (xM .here) .nil) .nil
def wy(b:List z7)(c:z7)(d:Option Int):Nat->Int->Option Int
 | 0,_=>none
 | e+1,a=>if decide (a<b.length) then chk (0<=a/\a<b.length) (if decide (c=(⟨(nth b a).ya,(nth b a).fQ⟩:z7)) then some a else wy b c d e (i64 (a+1))) else d
def jl(a:List z7)(b:z7):Option Int:=
 uB (some (-1)) fun c=>wy a b c xR 0
theorem rJ(Z g i e c r)(h:jl e c=some r){Nv}(hz:PZ [] Nv Z)(m:ZS Z 2 (rq wp) g i e):
  RC 103 #[vs g e.length i,.agg #[vi c.ya,vi c.fQ]] Nv (vi r) [] []:=by
 unfold jl at h
 refine Lz func103 U U<|B0q (Lh 3 (wg (cs:=[vi c.ya,vi c.fQ])) fun k _=>Q1n U ?_)
 refine jK0 h fun l n h=>Nd (l=some r) ([]) ([]) ?_ ?_
 ·refine B1q U<|Le 7 (w9 underlying88)<|Q1n U<|WC.block<|Ng (fun f d=>(wy e c l f d=some r)) (fun f d=>[(0,vs g e.length i),(3,vp k),(7,vi (e.length:Int)),(8,vi d)]) (fun f d=>[stb k 97 [vi c.ya,vi c.fQ]]) (fun f d=>f) ⟨xR,0⟩ h .q (.cons .here .nil) ?_
  rintro(_|o) d h;·cases h
  rw[wy] at h
  refine B1n U<|WC.b<|Lj h (fun p h=>?_)<|fun p h=>?_
  ·refine Nn<|WC.b<|WC.block<|B2n U<|WC.b<|cK h fun q h=>Lu nc []<|Lg 0 U (xK z5S (xM .here))<|Lf 1 U q_m<|Lf 2 U q_m<|Nf (j:=3) (dd:=14) (by kernel_rfl) z2B z2C (Z:=Z) (Pr:=(rq wp)) z8h m q ?_
   rintro u v s x rfl
   refine Lg 4 U (xK z5S (qV hz.pv s))<|Lf 5 U (oq (enc:=wp) (a:=c) (b:=(⟨(nth e d).ya,(nth e d).fQ⟩:z7)) zu8)<|Ny (by kernel_rfl)<|Lb<|Lj h (fun t h=>?_)<|fun t h=>?_
   ·exact B2n U<|Nw<|Ly<|Ll<|Ll<|Ly<|Ll<|oJ h▸Nl results103
   ·exact N0<|Lt<|Lb<|D2q U<|WL.nil<|Nx ⟨o,i64 (d+1)⟩ h (Nat.lt_succ_self _) .q<|.cons .here .nil
  ·exact Nz<|Lo<|Lo<|Lv<|Lp () h .nil .nil
 ·rintro  h
  replace h:=n.symm.trans h
  exact B1n U<|Nw<|oJ h▸Nl results103
def q8(a:List z7)(b:z7):Option Bool:=
 (jl a b).bind fun c=>some (decide (c>=0))
theorem sx(Z c d b a r)(h:q8 b a=some r){Nv}(hz:PZ [] Nv Z)(e:ZS Z 2 (rq wp) c d b):
  RC 63 #[vs c b.length d,.agg #[vi a.ya,vi a.fQ]] Nv (.bool r) [] []:=by
 unfold q8 at h
 refine Lz func63 U U<|B0q (Lh 3 (wg (cs:=[vi a.ya,vi a.fQ])) fun g _=>Q1n U<|WC.b ?_)
 exact bK h fun i f h=>D1q U<|Le 6 (xK z5S (xM .here))<|Nr call103 hz (fun pz=>rJ _ _ _ _ _ _ f pz e)<|Q2n U<|Nw<|oJ h▸Nl results63
def tE(a:Int):Option Bool:=
 some (decide (a≠a))
theorem bO(Z a r)(h:tE a=some r){Nv}(hz:PZ [] Nv Z):
  RC 91 #[vi a] Nv (.bool r) [] []:=by
 unfold tE at h
 exact L8 func91 U U<|B1n U<|B4n U<|Nw<|oJ h▸Nl results91
def qf(a:Int)(b:Int):Option Int:=
 (tE a).bind fun d=>(tE b).bind fun c=>if d then if c then some 0 else some (-1) else if c then some 1 else if decide (a<b) then some (-1) else if decide (a>b) then some 1 else some 0
theorem jX(Z a b r)(h:qf a b=some r){Nv}(hz:PZ [] Nv Z):
  RC 50 #[vi a,vi b] Nv (vi r) [] []:=by
 unfold qf at h
 refine Lz func50 U U<|B1n U<|WC.b<|bK h fun k c h=>D1q U<|Nr call91 hz (bO _ _ _ c)<|Q1n U<|WC.b<|bK h fun l d h=>D1q U<|Nr call91 hz (bO _ _ _ d)<|Q1n U<|WC.b<|B1n U<|Lj h (fun e h=>?_)<|fun e h=>?_
 ·refine WC.b<|B1n U<|Lj h (fun f h=>?_)<|fun f h=>?_
  ·exact B1n U<|Nw<|Ll<|Ll<|oJ h▸Nl results50
  ·exact Nn<|B1n U<|Nw<|Ll<|oJ h▸Nl results50
 ·refine Nn<|WC.b<|B1n U<|Lj h (fun g h=>?_)<|fun g h=>?_
  ·exact B1n U<|Nw<|Ll<|oJ h▸Nl results50
  ·refine Nn<|WC.b<|B3n U<|Lj h (fun i h=>?_)<|fun i h=>?_
   ·exact B1n U<|Nw<|Ll<|oJ h▸Nl results50
   ·refine Nn<|WC.b<|B3n U<|Lj h (fun j h=>?_)<|fun j h=>?_
    ·exact B1n U<|Nw<|Ll<|oJ h▸Nl results50
    ·exact Nn<|B1n U<|Nw<|oJ h▸Nl results50
def mf(b:List Int)(c:Option Int):Nat->Int->Option Int
 | 0,_=>none
 | d+1,a=>if decide (a<b.length) then chk (0<=a/\a<b.length) (if decide ((nth b a)≠0) then some (nth b a) else mf b c d (i64 (a+1))) else c
def uN(a:List Int):Option Int:=
 uB (some 0) fun b=>mf a b xR 0
theorem cN(Z d e b r)(h:uN b=some r){Nv}(hz:PZ [] Nv Z)(g:ZS Z 1 (rq e3) d e b):
  RC 49 #[vs d b.length e] Nv (vi r) [] []:=by
 unfold uN at h
 refine L8 func49 U U<|B1n U<|B1n U<|jK0 h fun f i h=>Nd (f=some r) ([(3,vi 0)]) ([]) ?_ ?_
 ·refine B1q U<|Le 7 (w9 underlying109)<|Q1n U<|WC.block<|Ng (fun c a=>(mf b f c a=some r)) (fun c a=>[(3,vi 0),(6,vs d b.length e),(7,vi (b.length:Int)),(8,vi a)]) (fun c a=>[]) (fun c a=>c) ⟨xR,0⟩ h .q .nil ?_
  rintro(_|j) a h;·cases h
  rw[mf] at h
  refine B1n U<|WC.b<|Lj h (fun k h=>?_)<|fun k h=>?_
  ·refine Nn<|WC.b<|WC.block<|WC.b<|cK h fun l h=>Ld<|L3 (dd:=10) (Z:=Z) (Pr:=(rq e3)) zc4 g l ?_
   rintro o p m q rfl
   refine Le 11 (xB xL U<|mG hz.pv m)<|Q1n U<|B3n U<|Lj h (fun n h=>?_)<|fun n h=>?_
   ·exact B2n U<|Nw<|Ly<|Ll<|Ll<|Ly<|Ll<|oJ h▸Nl results49
   ·exact N0<|Lt<|Lb<|D2q U<|WL.nil<|Nx ⟨j,i64 (a+1)⟩ h (Nat.lt_succ_self _) .q .nil
  ·exact Nz<|Lo<|Lo<|Lv<|Lp () h (.cons U .nil) .nil
 ·rintro  h
  replace h:=i.symm.trans h
  exact B2n U<|Nw<|oJ h▸Nl results49
def vR(a:z7)(b:z7):Option Int:=
 (qf a.ya b.ya).bind fun c=>(qf a.fQ b.fQ).bind fun d=>(uN ([c,d]:List Int)).bind fun e=>some e
theorem oY(Z a b r)(h:vR a b=some r){Nv}(hz:PZ [] Nv Z):
  RC 25 #[.agg #[vi a.ya,vi a.fQ],.agg #[vi b.ya,vi b.fQ]] Nv (vi r) [] []:=by
 unfold vR at h
 refine Lz func25 U U<|B0q (Lh 2 (wg (cs:=[vi a.ya,vi a.fQ])) fun j _=>Lh 3 (wg (cs:=[vi b.ya,vi b.fQ])) fun k _=>Q1n U<|WC.b ?_)
 refine bK h fun c d h=>bK h fun e f h=>bK h fun n g h=>Lu nc []<|Lf 0 U (xA cv)<|Lg 1 U (Nt xL .h1)<|Lf 2 U (xA cv)<|Lg 3 U (Nt xL .here)<|L4 4 U (Ns call50) (cc hz .nil fun w pz ho=>jX _ _ _ _ d pz )<|Lf 5 U (xA dN)<|Lg 6 U (Nt xL .h1)<|Lf 7 U (xA dN)<|Lg 8 U (Nt xL .here)<|L4 9 U (Ns call50) (cc hz .nil fun w pz ho=>jX _ _ _ _ f pz ) (WD.new (i:=10) (dd:=15) U (by kernel_rfl) U (ws (cs:=([c,e]:List Int).flatMap e3) zc4 (Lq (l:=[.tmp 9,.tmp 14]) (.r2 U U) [0,1]) (fun _=>by kernel_rfl) (by unfold maxLen;omega)) (fun h'=>absurd h' (by decide)) fun m _=>L4 11 U (Ns call49) (uC hz .nil (.cons .here .nil) fun w pz ho la=>cN _ _ _ _ _ g pz<|ZA.row (la _ (.head _) _) (RR.flat (enc:=e3) (fun _=>U) _) ⟨w,pz.1⟩)<|Lf 12 U q_z<|Ny (by kernel_rfl)<|Lb<|Nw ?_)
 exact oJ h▸Nl results25
def mg(z9t:Int):Option Int:=chk (0<=z9t/\z9t<=18446744073709551615) (some ((Go.Lib.bitLen (z9t).toNat:Nat):Int))
theorem oZ(Z z9t r){Nv}(hz:PZ [] Nv Z)(h:mg z9t=some r):Calls Tryz.prog 48 #[.int .u64 z9t] Nv fun e w'=>e = .returned (vi r)/\Hp [] Nv w' []:=by
 obtain⟨h0,h⟩:=xH h
 obtain rfl:=oJ h
 refine(Tryz.bits_Len z9t Nv h0.1 h0.2).mono ?_
 rintro e w' ⟨rfl,rfl⟩
 exact⟨U,Hp.nil w' []⟩
theorem zSx:∀ w,(isAgg (Tryz.kX.t 24)).run Tryz.prog w = .ok true w:=fun _=>by kernel_rfl
theorem zSy:∀ w,(Go.sizeOf (Tryz.kX.t 24)).run Tryz.prog w = .ok 2 w:=fun _=>by kernel_rfl
def gl(z5Y:List z7)(zrk:Int)(zrl:Int)(zmi:Int)(zjG:z7->z7->Option Int):Option (List z7):=chk ((zrk=0/\zrl=(z5Y.length:Int))/\(0<=zmi/\zmi<4611686018427387904/\z5Y.length<4611686018427387904)) (chk (ot zjG (wH zjG z5Y)=true) (some (wH zjG z5Y)))
theorem pK(Z zjH zjI zrm zAo z5Y zrk zrl zmi zjG r){Nv}(hz:Pz [row (vs zjH z5Y.length zjI) 97 2 (z5Y.flatMap wp)] Nv Z)(a:∀ args w,(callFunc zrm args).run Tryz.prog w = .ok (.enter zrm args) w)(b:∀ w:World,PZ [] w Z->∀(x0:z7) (x1:z7) (r:Int),zjG x0 x1=some r->Calls Tryz.prog zrm (([.agg #[vi x0.ya,vi x0.fQ],.agg #[vi x1.ya,vi x1.fQ]]:List Value)++zAo).toArray w fun e w'=>e = .returned (vi r)/\Hp [] w w' [])(h:gl z5Y zrk zrl zmi zjG=some r)(ip:Ho Nv [row (vs zjH z5Y.length zjI) 97 2 (z5Y.flatMap wp)]):
  Calls Tryz.prog 104 #[vs zjH z5Y.length zjI,vi zrk,vi zrl,vi zmi,.func (.func zrm) #[] (zAo).toArray] Nv fun e w'=>e = .returned (.tuple #[])/\(r.length=z5Y.length)/\Hp (fps [row (vs zjH z5Y.length zjI) 97 2 (z5Y.flatMap wp)]) Nv w' [row (vs zjH r.length zjI) 97 2 (r.flatMap wp)]:=by
 obtain⟨h0,h⟩:=xH h
 obtain⟨h1,h⟩:=xH h
 have hr:=(oJ h).symm
 exact ii (P:=Tryz.prog) (f:=104) (e:=97) (k:=2) (enc:=wp) (fun _=>U) (by decide) ay (fun β _ enc cf g cb hO wr off cap d0 w0 eg hC R=>Tryz.lD 2 zSx zSy enc cf g cb hO wr off cap d0 w0 eg hC R) (Tryz.li (α:=Unit)) hz a b h0 h1 hr ip
def q9(a:List z7)(zmj:z7->z7->Option Int):Option (List z7):=
 (mg (u64 (a.length:Int))).bind fun b=>(gl a 0 (a.length:Int) b zmj).bind fun c=>some c
theorem sy(Z b c zmk zuK a zmj r)(h:q9 a zmj=some r){Nv}(hz:Pz [row (vs b a.length c) 97 2 (a.flatMap wp)] Nv Z)(j:∀ args w,(callFunc zmk args).run Tryz.prog w = .ok (.enter zmk args) w)(k:∀ w:World,PZ [] w Z->∀(x0:z7) (x1:z7) (r:Int),zmj x0 x1=some r->Calls Tryz.prog zmk (([.agg #[vi x0.ya,vi x0.fQ],.agg #[vi x1.ya,vi x1.fQ]]:List Value)++zuK).toArray w fun e w'=>e = .returned (vi r)/\Hp [] w w' [])(ip:Ho Nv [row (vs b a.length c) 97 2 (a.flatMap wp)]):
  Calls Tryz.prog 64 #[vs b a.length c,.func (.func zmk) #[] (zuK).toArray] Nv fun e w'=>e = .returned (.tuple #[])/\(r.length=a.length)/\Hp (fps [row (vs b a.length c) 97 2 (a.flatMap wp)]) Nv w' [row (vs b r.length c) 97 2 (r.flatMap wp)]:=by
 unfold q9 at h
 refine Ni func64 U ip U<|B1q U<|Le 6 (w9 underlying88)<|Q1n U<|bK h fun d l h=>bK h fun f m h=>D3q U<|Le 10 (fg underlying3 underlying142)<|Nr call48 hz (fun pz=>oZ (Z:=_)  (z9t:=(u64 (a.length:Int))) (r:=d) pz  l)<|La U<|Na (dd:=13) U (Ns call104) (.cons .here .nil) (cc hz (.cons .here .nil) fun w pz ho=>pK (Z:=_) (zjH:=b) (zjI:=c) (zrm:=zmk) (zAo:=zuK) (z5Y:=a) (zrk:=0) (zrl:=(a.length:Int)) (zmi:=d) (zjG:=zmj) (r:=f) pz j k m ho) ?_
 rintro  g
 exact L7 (i:=0) U (u:=(vs b f.length c)) (qs g.symm)<|WL.nil<|oJ h▸Nh results64 .nil fun w hw=>⟨mF,g.trans U,hw.sub (.cons .here .nil)⟩
end Go.Proofs.YtcahmabkeaijdaaGreat
