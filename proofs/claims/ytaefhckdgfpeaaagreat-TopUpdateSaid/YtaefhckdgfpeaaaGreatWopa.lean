/- A part of this claim's proof: models of functions, walks, plain laws. No conditions. -/
import Derived.Test.YtaefhckdgfpeaaaGreatZShort
import Derived.Test.YtaefhckdgfpeaaaGreatZMem
import Derived.Test.YtaefhckdgfpeaaaGreatShelftop
import Derived.Test.YtaefhckdgfpeaaaGreatProg
set_option linter.all false
namespace Go.Proofs.YtaefhckdgfpeaaaGreat
open Go Go.RowKit Sep Tryz
set_option maxRecDepth 30000
set_option maxHeartbeats 4000000
abbrev RC (f:FuncId)(vs:Array Value)(Ek:World)(v:Value)(F:List Nat)(L:List Asrt):Prop:=Calls Tryz.prog f vs Ek fun e w'=>e=.returned v/\Hp F Ek w' L
abbrev RF (f:FuncId)(vs:Array Value)(Ek:World)(v:Value)(M L:List Asrt):Prop:=Calls Tryz.prog f vs Ek fun e w'=>e=.returned v/\Hp (fps M) Ek w' L
abbrev Pz (M:List Asrt)(Ek:World)(Z:Zp):Prop:=PZ (fps M) Ek Z
abbrev Ho (Ek:World)(M:List Asrt):Prop:=Hp (fps M) Ek Ek M

structure ym where
 fA:ByteArray
 xA:Int
 fB:ByteArray
 xB:Int
 deriving Inhabited,DecidableEq
def j5(x:ym):List Value:=[.string x.fA,vi x.xA,.string x.fB,vi x.xB]
def e5(x:Int):List Value:=[.int .u8 x]
theorem tk:∀ x,∀ u∈e5 x,u.oneCell'=true:=fun _=>lX
structure xK where
 yl:ByteArray
 fKind:Int
 fOut:Bool
 yZ:Int
 xZ:Int
 xU:Int
 deriving Inhabited,DecidableEq
structure xM where
 fOp:Int
 fA:Int
 fB:Int
 fC:Int
 deriving Inhabited,DecidableEq
structure xE where
 yl:ByteArray
 fPrio:Int
 xJ:Int
 w6:Int
 xL:List xM
 deriving Inhabited,DecidableEq
structure xG where
 yl:ByteArray
 xJ:Int
 xY:Int
 xT:Int
 xR:List Int
 xW:Int
 xX:Int
 xV:List Int
 fP:List xK
 xQ:List xE
 deriving Inhabited,DecidableEq
structure yT where
 yl:ByteArray
 xT:Int
 w5:Int
 xP:List xG
 deriving Inhabited,DecidableEq
def e3(x:Int):List Value:=[vi x]
theorem KO:∀ x,∀ u∈e3 x,u.oneCell'=true:=fun _=>lX
def e475(x:xK):List Value:=[.string x.yl,.int .u8 x.fKind,.bool x.fOut,vi x.yZ,vi x.xZ,vi x.xU]
def e482(x:xM):List Value:=[.int .u8 x.fOp,vi x.fA,vi x.fB,vi x.fC]
def Fz(Z:Zp)(r:List Value)(x:xE):Prop:=∃(nD:Option Addr) (nb:Nat),r=[.string x.yl,vi x.fPrio,vi x.xJ,vi x.w6,vs nD x.xL.length nb]/\ZS Z 4 (rq e482) nD nb x.xL
theorem GF{Z Z'}(k:wg Z Z'){r x}(h:Fz Z r x):Fz Z' r x:=by
 obtain⟨nD,nb,hr,h0⟩:=h
 exact⟨nD,nb,hr,h0.mono k⟩
def FA(Z:Zp)(r:List Value)(x:xG):Prop:=∃(nD:Option Addr) (nb:Nat) (Bc:Option Addr) (zx:Nat) (Ch:Option Addr) (AG:Nat) (ao3:Option Addr) (Bx:Nat),r=[.string x.yl,vi x.xJ,vi x.xY,vi x.xT,vs nD x.xR.length nb,vi x.xW,vi x.xX,vs Bc x.xV.length zx,vs Ch x.fP.length AG,vs ao3 x.xQ.length Bx]/\ZS Z 1 (rq e3) nD nb x.xR/\ZS Z 1 (rq e3) Bc zx x.xV/\ZS Z 6 (rq e475) Ch AG x.fP/\ZS Z 5 (Fz Z) ao3 Bx x.xQ
theorem GG{Z Z'}(k:wg Z Z'){r x}(h:FA Z r x):FA Z' r x:=by
 obtain⟨nD,nb,Bc,zx,Ch,AG,ao3,Bx,hr,h0,h1,h2,h3⟩:=h
 exact⟨nD,nb,Bc,zx,Ch,AG,ao3,Bx,hr,h0.mono k,h1.mono k,h2.mono k,(h3.mono k).weak (fun _ _ h=>GF k h)⟩
def u5(Z:Zp)(r:List Value)(x:yT):Prop:=∃(nD:Option Addr) (nb:Nat),r=[.string x.yl,vi x.xT,vi x.w5,vs nD x.xP.length nb]/\ZS Z 10 (FA Z) nD nb x.xP
theorem qn{Z Z'}(k:wg Z Z'){r x}(h:u5 Z r x):u5 Z' r x:=by
 obtain⟨nD,nb,hr,h0⟩:=h
 exact⟨nD,nb,hr,(h0.mono k).weak (fun _ _ h=>GG k h)⟩
structure xg where
 yl:ByteArray
 xv:Int
 yv:Int
 fT:Int
 deriving Inhabited,DecidableEq
def ml(x:xg):List Value:=[.string x.yl,vi x.xv,vi x.yv,vi x.fT]
structure xb where
 fA:ByteArray
 fB:ByteArray
 xv:Int
 yD:Int
 deriving Inhabited,DecidableEq
def m7(x:xb):List Value:=[.string x.fA,.string x.fB,vi x.xv,vi x.yD]
structure yU where
 yh:ByteArray
 yR:ByteArray
 yS:ByteArray
 deriving Inhabited,DecidableEq
structure yG where
 yl:ByteArray
 yu:yU
 yX:Int
 yQ:Int
 xd:List yU
 deriving Inhabited,DecidableEq
def Jl(x:yU):List Value:=[.string x.yh,.string x.yR,.string x.yS]
def fa(Z:Zp)(r:List Value)(x:yG):Prop:=∃(nD:Option Addr) (nb:Nat),r=[.string x.yl,.string x.yu.yh,.string x.yu.yR,.string x.yu.yS,vi x.yX,vi x.yQ,vs nD x.xd.length nb]/\ZS Z 3 (rq Jl) nD nb x.xd
theorem vL{Z Z'}(k:wg Z Z'){r x}(h:fa Z r x):fa Z' r x:=by
 obtain⟨nD,nb,hr,h0⟩:=h
 exact⟨nD,nb,hr,h0.mono k⟩
structure zg where
 y6:Int
 fX:Int
 fQ:Int
 deriving Inhabited,DecidableEq
def mG(x:zg):List Value:=[vi x.y6,vi x.fX,vi x.fQ]
def m8(Z:Zp)(r:List Value)(x:List zg):Prop:=∃(nD:Option Addr) (nb:Nat),r=[vs nD x.length nb]/\ZS Z 3 (rq mG) nD nb x
theorem qY{Z Z'}(k:wg Z Z'){r x}(h:m8 Z r x):m8 Z' r x:=by
 obtain⟨nD,nb,hr,h0⟩:=h
 exact⟨nD,nb,hr,h0.mono k⟩
structure zYZ where
 yu:yU
 xd:List yU
 deriving Inhabited,DecidableEq
structure xI where
 yh:ByteArray
 yR:ByteArray
 w3:Int
 w4:Int
 fDo:Int
 deriving Inhabited,DecidableEq
structure xH where
 xO:ByteArray
 xL:Int
 deriving Inhabited,DecidableEq
structure xz where
 xO:ByteArray
 xS:List xH
 xN:List ByteArray
 deriving Inhabited,DecidableEq
structure ye where
 fM:List yT
 y9:List zYZ
 fS:List xg
 fK:List xb
 ya:List yG
 yc:List xI
 fU:List xz
 y8:List ym
 deriving Inhabited,DecidableEq
def fc(Z:Zp)(r:List Value)(x:zYZ):Prop:=∃(nD:Option Addr) (nb:Nat),r=[.string x.yu.yh,.string x.yu.yR,.string x.yu.yS,vs nD x.xd.length nb]/\ZS Z 3 (rq Jl) nD nb x.xd
theorem qr{Z Z'}(k:wg Z Z'){r x}(h:fc Z r x):fc Z' r x:=by
 obtain⟨nD,nb,hr,h0⟩:=h
 exact⟨nD,nb,hr,h0.mono k⟩
def mg(x:xI):List Value:=[.string x.yh,.string x.yR,.int .u8 x.w3,.int .u8 x.w4,.int .u8 x.fDo]
def e480(x:xH):List Value:=[.string x.xO,vi x.xL]
def e9(x:ByteArray):List Value:=[.string x]
def fe(Z:Zp)(r:List Value)(x:xz):Prop:=∃(nD:Option Addr) (nb:Nat) (Bc:Option Addr) (zx:Nat),r=[.string x.xO,vs nD x.xS.length nb,vs Bc x.xN.length zx]/\ZS Z 2 (rq e480) nD nb x.xS/\ZS Z 1 (rq e9) Bc zx x.xN
theorem qs{Z Z'}(k:wg Z Z'){r x}(h:fe Z r x):fe Z' r x:=by
 obtain⟨nD,nb,Bc,zx,hr,h0,h1⟩:=h
 exact⟨nD,nb,Bc,zx,hr,h0.mono k,h1.mono k⟩
structure ze where
 y6:Int
 fQ:Int
 deriving Inhabited,DecidableEq
structure yj where
 yh:ByteArray
 yd:Int
 deriving Inhabited,DecidableEq
structure zt where
 y6:Int
 fQ:Int
 yv:Int
 fT:Int
 deriving Inhabited,DecidableEq
structure yq where
 yP:Int
 y6:Int
 yv:Int
 deriving Inhabited,DecidableEq
structure xw where
 fP:List zt
 xr:List yq
 deriving Inhabited,DecidableEq
structure xD where
 xf:Int
 yW:Int
 deriving Inhabited,DecidableEq
structure xt where
 xo:Int
 xn:Int
 deriving Inhabited,DecidableEq
def wJ(x:ze):List Value:=[vi x.y6,vi x.fQ]
theorem nv:∀ x,∀ u∈wJ x,u.oneCell'=true:=fun _=>lX
def kG(x:zt):List Value:=[vi x.y6,vi x.fQ,vi x.yv,vi x.fT]
theorem Xq:∀ x,∀ u∈kG x,u.oneCell'=true:=fun _=>lX
structure yn where
 xi:Int
 xo:ze
 deriving Inhabited,DecidableEq
def qS(x:yn):List Value:=[vi x.xi,vi x.xo.y6,vi x.xo.fQ]
structure z1 where
 fN:Int
 fD:Int
 deriving Inhabited,DecidableEq
def wI(x:z1):List Value:=[vi x.fN,vi x.fD]
theorem VH:∀ x,∀ u∈wI x,u.oneCell'=true:=fun _=>lX
structure xk where
 xm:Int
 xl:Int
 deriving Inhabited,DecidableEq
structure zb where
 yg:z1
 fR:z1
 deriving Inhabited,DecidableEq
def qo(x:zb):List Value:=[vi x.yg.fN,vi x.yg.fD,vi x.fR.fN,vi x.fR.fD]
theorem Kk:∀ x,∀ u∈qo x,u.oneCell'=true:=fun _=>lX
def qZ(Z:Zp)(r:List Value)(x:List zb):Prop:=∃(nD:Option Addr) (nb:Nat),r=[vs nD x.length nb]/\ZS Z 4 (rq qo) nD nb x
theorem kT{Z Z'}(k:wg Z Z'){r x}(h:qZ Z r x):qZ Z' r x:=by
 obtain⟨nD,nb,hr,h0⟩:=h
 exact⟨nD,nb,hr,h0.mono k⟩
theorem Mp{Z r x}(h:qZ Z r x):∀ u∈r,u.oneCell'=true:=by
 obtain⟨nD,nb,hr,h0⟩:=h
 rw[hr];exact lX
structure yy where
 fR:z1
 fL:z1
 deriving Inhabited,DecidableEq
structure yk where
 fE:Int
 deriving Inhabited,DecidableEq
structure yJ where
 yf:List (List Int)
 deriving Inhabited,DecidableEq
structure xF where
 a0:ByteArray
 a1:ByteArray
 a2:ByteArray
 a3:ByteArray
 deriving Inhabited,DecidableEq
structure xq where
 yN:xD
 yY:Int
 xh:Int
 deriving Inhabited,DecidableEq
def e31(x:Int):List Value:=[vi x]
def fZ(x:yq):List Value:=[vi x.yP,vi x.y6,vi x.yv]
theorem VI:∀ x,∀ u∈fZ x,u.oneCell'=true:=fun _=>lX
def qy(x:ze):List Value:=[vi x.y6,vi x.fQ]
def uU(Z:Zp)(r:List Value)(x:Int->Option Int):Prop:=∃(AC:FuncId) (Aw:List Value),r=[.func (.func AC) #[] (Aw).toArray]/\(∀ args w,(callFunc AC args).run Tryz.prog w = .ok (.enter AC args) w)/\∀ w:World,PZ [] w Z->∀(x0:Int) (r:Int),x x0=some r->Calls Tryz.prog AC (([vi x0]:List Value)++Aw).toArray w fun e w'=>e = .returned (vi r)/\Hp [] w w' []
theorem tm{Z Z'}(k:wg Z Z'){r x}(h:uU Z r x):uU Z' r x:=by
 obtain⟨AC,Aw,h1,h2,h3⟩:=h
 exact⟨AC,Aw,h1,h2,fun w hw=>h3 w (hw.le k)⟩
structure yO where
 yw:Int
 yP:Int
 yZ:Int
 deriving Inhabited,DecidableEq
def Ym(x:yO):List Value:=[vi x.yw,vi x.yP,vi x.yZ]
def gj(x:ze):List Value:=[vi x.y6,vi x.fQ]
structure xu where
 yD:Int
 yv:Int
 fT:Int
 deriving Inhabited,DecidableEq
structure yB where
 yZ:Int
 xx:Int
 deriving Inhabited,DecidableEq
structure yt where
 ys:xu
 xp:Int
 xc:Int
 yI:List yB
 deriving Inhabited,DecidableEq
def sW(x:yB):List Value:=[vi x.yZ,vi x.xx]
theorem Mq:∀ x,∀ u∈sW x,u.oneCell'=true:=fun _=>lX
def z4f(g:Nat×(Option Addr×Nat))(x:yt):List Asrt:=[stb g.1 316 [vi x.ys.yD,vi x.ys.yv,vi x.ys.fT,vi x.xp,vi x.xc,vs g.2.1 x.yI.length g.2.2],row (vs g.2.1 x.yI.length g.2.2) 319 2 (x.yI.flatMap sW)]
structure y7 where
 yw:Int
 xa:Int
 xi:Int
 yH:Int
 yp:zg
 deriving Inhabited,DecidableEq
def vt(x:y7):List Value:=[vi x.yw,vi x.xa,vi x.xi,vi x.yH,vi x.yp.y6,vi x.yp.fX,vi x.yp.fQ]
theorem Mr:∀ x,∀ u∈vt x,u.oneCell'=true:=fun _=>lX
structure yi where
 yH:Int
 y6:Int
 yw:Int
 deriving Inhabited,DecidableEq
def sm(x:yi):List Value:=[vi x.yH,vi x.y6,vi x.yw]
theorem MX:∀ x,∀ u∈sm x,u.oneCell'=true:=fun _=>lX
def vD(x:yj):List Value:=[.string x.yh,vi x.yd]
theorem YY:∀ x,∀ u∈vD x,u.oneCell'=true:=fun _=>lX
structure yM where
 yF:List yj
 fX:List yj
 yL:List ym
 deriving Inhabited,DecidableEq
def vK(x:Int):List Value:=[.int .u64 x]
theorem GH:∀ x,∀ u∈vK x,u.oneCell'=true:=fun _=>lX
structure xj where
 a0:Int
 a1:Int
 a2:Int
 a3:Int
 a4:Int
 a5:Int
 a6:Int
 a7:Int
 a8:Int
 a9:Int
 a10:Int
 a11:Int
 a12:Int
 a13:Int
 a14:Int
 a15:Int
 a16:Int
 a17:Int
 deriving Inhabited,DecidableEq
structure yV where
 a0:Int
 a1:Int
 a2:Int
 a3:Int
 a4:Int
 a5:Int
 a6:Int
 a7:Int
 a8:Int
 a9:Int
 a10:Int
 a11:Int
 a12:Int
 a13:Int
 a14:Int
 a15:Int
 a16:Int
 a17:Int
 deriving Inhabited,DecidableEq
structure yC where
 yK:Int
 y4:xj
 yr:List Int
 deriving Inhabited,DecidableEq
structure yz where
 yl:ByteArray
 yd:Int
 yx:List Int
 y5:yC
 deriving Inhabited,DecidableEq
def ff(Z:Zp)(r:List Value)(x:List Int):Prop:=∃(nD:Option Addr) (nb:Nat),r=[vs nD x.length nb]/\ZS Z 1 (rq e5) nD nb x
theorem gM{Z Z'}(k:wg Z Z'){r x}(h:ff Z r x):ff Z' r x:=by
 obtain⟨nD,nb,hr,h0⟩:=h
 exact⟨nD,nb,hr,h0.mono k⟩
structure xe where
 xC:yJ
 xy:Int
 fH:Int
 deriving Inhabited,DecidableEq
structure yb where
 yo:Int
 yE:Bool
 yA:List Int
 deriving Inhabited,DecidableEq
def mS(Z:Zp)(r:List Value)(x:yb):Prop:=∃(nD:Option Addr) (nb:Nat),r=[vi x.yo,.bool x.yE,vs nD x.yA.length nb]/\ZS Z 1 (rq e5) nD nb x.yA
theorem gW{Z Z'}(k:wg Z Z'){r x}(h:mS Z r x):mS Z' r x:=by
 obtain⟨nD,nb,hr,h0⟩:=h
 exact⟨nD,nb,hr,h0.mono k⟩
def rZ(Z:Zp)(r:List Value)(x:yJ):Prop:=∃(nD:Option Addr) (nb:Nat),r=[vs nD x.yf.length nb]/\ZS Z 1 (ff Z) nD nb x.yf
theorem uA{Z Z'}(k:wg Z Z'){r x}(h:rZ Z r x):rZ Z' r x:=by
 obtain⟨nD,nb,hr,h0⟩:=h
 exact⟨nD,nb,hr,(h0.mono k).weak (fun _ _ h=>gM k h)⟩
theorem zCq:jt Tryz.prog 22:=vJ underlying22
theorem zZ0:elT Tryz.prog 63 62 4 56:=⟨underlying63,⟨Tryz.t62,_,rfl,rfl,rfl,rfl,rfl⟩,by decide⟩
theorem zrG:elT Tryz.prog 66 65 4 40:=⟨underlying66,⟨Tryz.t65,_,rfl,rfl,rfl,rfl,rfl⟩,by decide⟩
theorem znN:elT Tryz.prog 69 68 4 48:=⟨underlying69,⟨Tryz.t68,_,rfl,rfl,rfl,rfl,rfl⟩,by decide⟩
theorem znO:elT Tryz.prog 75 74 7 104:=⟨underlying75,⟨Tryz.t74,_,rfl,rfl,rfl,rfl,rfl⟩,by decide⟩
theorem z1dQ:vk Tryz.prog 80 (.agg #[vn,vn,vn,vn,vn,vn,vn,vn]):=wT (i:=Tryz.t80) rfl rfl
theorem z1dR:q8 Tryz.prog 80 8:=vc (i:=Tryz.t80) rfl
theorem zaL:elT Tryz.prog 84 82 3 24:=⟨underlying84,⟨Tryz.t82,_,rfl,rfl,rfl,rfl,rfl⟩,by decide⟩
theorem zgU:elT Tryz.prog 85 84 1 24:=⟨underlying85,⟨Tryz.t84,_,rfl,rfl,rfl,rfl,rfl⟩,by decide⟩
theorem z5x:g5 Tryz.prog 80 8:=qz (i:=Tryz.t80) underlying80 rfl rfl
theorem zvu:vk Tryz.prog 89 (.agg #[vn,vn]):=wT (i:=Tryz.t89) rfl rfl
theorem wm:jt Tryz.prog 3:=vJ underlying3
theorem pU:wt Tryz.prog 80 4 4:=wq (i:=Tryz.t75) underlying80 rfl rfl (by decide) rfl
theorem zjX:jt Tryz.prog 75:=vJ underlying75
theorem z7e:g5 Tryz.prog 82 3:=qz (i:=Tryz.t82) underlying82 rfl rfl
theorem zgV:vk Tryz.prog 82 (.agg #[vi 0,vi 0,vi 0]):=wT (i:=Tryz.t82) rfl rfl
theorem zfk:q8 Tryz.prog 82 3:=vc (i:=Tryz.t82) rfl
theorem jV:wt Tryz.prog 82 0 0:=wq (i:=Tryz.t3) underlying82 rfl rfl (by decide) rfl
theorem qp:vk Tryz.prog 3 (vi 0):=wT (i:=Tryz.t3) rfl rfl
theorem gc:KeyT Tryz.prog 3 vI:=Fq underlying3
theorem fy:wt Tryz.prog 82 1 1:=wq (i:=Tryz.t3) underlying82 rfl rfl (by decide) rfl
theorem sn:wt Tryz.prog 82 2 2:=wq (i:=Tryz.t3) underlying82 rfl rfl (by decide) rfl
theorem pV:wt Tryz.prog 80 3 3:=wq (i:=Tryz.t69) underlying80 rfl rfl (by decide) rfl
theorem zjY:jt Tryz.prog 69:=vJ underlying69
theorem z1dS:g5 Tryz.prog 68 4:=qz (i:=Tryz.t68) underlying68 rfl rfl
theorem z1dT:vk Tryz.prog 68 (.agg #[.string ⟨#[]⟩,.string ⟨#[]⟩,vi 0,vi 0]):=wT (i:=Tryz.t68) rfl rfl
theorem z1dU:q8 Tryz.prog 68 4:=vc (i:=Tryz.t68) rfl
theorem Ms:wt Tryz.prog 68 0 0:=wq (i:=Tryz.t9) underlying68 rfl rfl (by decide) rfl
theorem ge:jt Tryz.prog 9:=vJ underlying9
theorem sp:wt Tryz.prog 80 0 0:=wq (i:=Tryz.t63) underlying80 rfl rfl (by decide) rfl
theorem zfl:jt Tryz.prog 63:=vJ underlying63
theorem cq:wt Tryz.prog 80 2 2:=wq (i:=Tryz.t66) underlying80 rfl rfl (by decide) rfl
theorem zrH:jt Tryz.prog 66:=vJ underlying66
theorem Mt:wt Tryz.prog 62 0 0:=wq (i:=Tryz.t9) underlying62 rfl rfl (by decide) rfl
theorem Mu:wt Tryz.prog 65 0 0:=wq (i:=Tryz.t9) underlying65 rfl rfl (by decide) rfl
theorem Mv:wt Tryz.prog 68 1 1:=wq (i:=Tryz.t9) underlying68 rfl rfl (by decide) rfl
theorem Mw:wt Tryz.prog 68 2 2:=wq (i:=Tryz.t3) underlying68 rfl rfl (by decide) rfl
theorem lF:wt Tryz.prog 68 3 3:=wq (i:=Tryz.t3) underlying68 rfl rfl (by decide) rfl
theorem z1dV:g5 Tryz.prog 65 4:=qz (i:=Tryz.t65) underlying65 rfl rfl
theorem z1dW:vk Tryz.prog 65 (.agg #[.string ⟨#[]⟩,vi 0,vi 0,vi 0]):=wT (i:=Tryz.t65) rfl rfl
theorem z1dX:q8 Tryz.prog 65 4:=vc (i:=Tryz.t65) rfl
theorem Mx:wt Tryz.prog 65 1 1:=wq (i:=Tryz.t3) underlying65 rfl rfl (by decide) rfl
theorem nw:wt Tryz.prog 65 2 2:=wq (i:=Tryz.t3) underlying65 rfl rfl (by decide) rfl
theorem VJ:wt Tryz.prog 65 3 3:=wq (i:=Tryz.t3) underlying65 rfl rfl (by decide) rfl
theorem zfm:jt Tryz.prog 84:=vJ underlying84
theorem zCr:vk Tryz.prog 208 (.agg #[vi 0,vi 0]):=wT (i:=Tryz.t208) rfl rfl
theorem zHI:q8 Tryz.prog 208 2:=vc (i:=Tryz.t208) rfl
theorem za3:g5 Tryz.prog 208 2:=qz (i:=Tryz.t208) underlying208 rfl rfl
theorem zcI:elT Tryz.prog 204 208 2 16:=⟨underlying204,⟨Tryz.t208,_,rfl,rfl,rfl,rfl,rfl⟩,by decide⟩
theorem zHJ:EqT Tryz.prog 208 wJ:=⟨fun u v w=>by
 have c:=fun(w:World) (a b:Array Value)=>run_equalIn_agg (P:=Tryz.prog) w 9999 208 a b (by simp[Program.fieldsOf,underlying208]) (by kernel_rfl)
 have d:=fun(w:World) (a b:Int)=>run_equalIn_int (P:=Tryz.prog) w 9998 3 .i64 .i64 a b underlying3
 rw[c]
 simp[Program.fieldsOf,Op.eqFields,part,wJ,c,underlying208,d]
 rcases u with⟨u1,u2⟩
 rcases v with⟨v1,v2⟩
 by_cases h1:u1=v1 <;> by_cases h2:u2=v2 <;> simp[h1,h2],by kernel_rfl⟩
theorem ct:wt Tryz.prog 208 0 0:=wq (i:=Tryz.t3) underlying208 rfl rfl (by decide) rfl
theorem dj:wt Tryz.prog 208 1 1:=wq (i:=Tryz.t3) underlying208 rfl rfl (by decide) rfl
theorem zaM:elT Tryz.prog 30 3 1 8:=⟨underlying30,⟨Tryz.t3,_,rfl,rfl,rfl,rfl,rfl⟩,by decide⟩
theorem z1dY:vk Tryz.prog 214 (.map none):=wT (i:=Tryz.t214) rfl rfl
theorem z1dZ:q8 Tryz.prog 214 1:=vc (i:=Tryz.t214) rfl
theorem zCs:jt Tryz.prog 214:=vJ underlying214
theorem znP:KeyT Tryz.prog 208 (ga wJ):=ay underlying208 (fun _ _=>rfl) (fun b k w=>by
 have c:=fun(w:World) (a:Int)=>MapKept.run_checkKey (P:=Tryz.prog) (w:=w) (kt:=3) (k:=.int .i64 a) underlying3 (by simp[MapKept.IsKey]) b 9998
 have ck:∀(w:World) (u0:Int) (u1:Int),(Instr.checkKey b 10000 208 (.agg #[.int .i64 u0,.int .i64 u1])).run Tryz.prog w = .ok () w:=fun w u0 u1=>by
  rw[show(10000:Nat)=9999+1 from U,Instr.checkKey]
  simp[run_underlying underlying208,c,part]
 exact ck w k.y6 k.fQ)
 (fun u v w=>zHJ.eq u v w)
 (fun k=>by simp[Instr.sameBits,wJ])
theorem zgW:elT Tryz.prog 86 152 4 32:=⟨underlying86,⟨Tryz.t152,_,rfl,rfl,rfl,rfl,rfl⟩,by decide⟩
theorem VK:wt Tryz.prog 74 2 4:=wq (i:=Tryz.t3) underlying74 rfl rfl (by decide) rfl
theorem pW:wt Tryz.prog 74 3 5:=wq (i:=Tryz.t3) underlying74 rfl rfl (by decide) rfl
theorem zNK:g5 Tryz.prog 74 7:=qz (i:=Tryz.t74) underlying74 rfl rfl
theorem lG:wt Tryz.prog 89 0 0:=wq (i:=Tryz.t86) underlying89 rfl rfl (by decide) rfl
theorem zvv:jt Tryz.prog 86:=vJ underlying86
theorem zCt:vk Tryz.prog 152 (.agg #[vi 0,vi 0,vi 0,vi 0]):=wT (i:=Tryz.t152) rfl rfl
theorem FB:wt Tryz.prog 216 1 8:=wq (i:=Tryz.t85) underlying216 rfl rfl (by decide) rfl
theorem zZ2:jt Tryz.prog 85:=vJ underlying85
theorem tM:wt Tryz.prog 216 0 0:=wq (i:=Tryz.t80) underlying216 rfl rfl (by decide) rfl
theorem z20:vk Tryz.prog 276 (.agg #[vi 0,vi 0]):=wT (i:=Tryz.t276) rfl rfl
theorem z1t:q8 Tryz.prog 276 2:=vc (i:=Tryz.t276) rfl
theorem zm:g5 Tryz.prog 276 2:=qz (i:=Tryz.t276) underlying276 rfl rfl
theorem W5:wt Tryz.prog 216 2 9:=wq (i:=Tryz.t213) underlying216 rfl rfl (by decide) rfl
theorem zNL:jt Tryz.prog 213:=vJ underlying213
theorem z1e0:EqT Tryz.prog 334 qS:=⟨fun u v w=>by
 have c:=fun(w:World) (a b:Array Value)=>run_equalIn_agg (P:=Tryz.prog) w 9999 334 a b (by simp[Program.fieldsOf,underlying334]) (by kernel_rfl)
 have e:=fun(w:World) (a b:Int)=>run_equalIn_int (P:=Tryz.prog) w 9998 3 .i64 .i64 a b underlying3
 have d:=fun(w:World) (a b:Array Value)=>run_equalIn_agg (P:=Tryz.prog) w 9998 208 a b (by simp[Program.fieldsOf,underlying208]) (by kernel_rfl)
 have f:=fun(w:World) (a b:Int)=>run_equalIn_int (P:=Tryz.prog) w 9997 3 .i64 .i64 a b underlying3
 rw[c]
 simp[Program.fieldsOf,Op.eqFields,part,qS,c,underlying334,e,d,underlying208,f]
 rcases u with⟨u1,⟨u2,u3⟩⟩
 rcases v with⟨v1,⟨v2,v3⟩⟩
 by_cases h1:u1=v1 <;> by_cases h2:u2=v2 <;> by_cases h3:u3=v3 <;> simp[h1,h2,h3],by kernel_rfl⟩
theorem zNN:KeyT Tryz.prog 334 (ga qS):=ay underlying334 (fun _ _=>rfl) (fun b k w=>by
 have e:=fun(w:World) (a:Int)=>MapKept.run_checkKey (P:=Tryz.prog) (w:=w) (kt:=3) (k:=.int .i64 a) underlying3 (by simp[MapKept.IsKey]) b 9998
 have c:=fun(w:World) (a:Int)=>MapKept.run_checkKey (P:=Tryz.prog) (w:=w) (kt:=3) (k:=.int .i64 a) underlying3 (by simp[MapKept.IsKey]) b 9997
 have d:∀(w:World) (u0:Int) (u1:Int),(Instr.checkKey b 9999 208 (.agg #[.int .i64 u0,.int .i64 u1])).run Tryz.prog w = .ok () w:=fun w u0 u1=>by
  rw[show(9999:Nat)=9998+1 from U,Instr.checkKey]
  simp[run_underlying underlying208,c,part]
 have ck:∀(w:World) (u0:Int) (u1:Int) (u2:Int),(Instr.checkKey b 10000 334 (.agg #[.int .i64 u0,.int .i64 u1,.int .i64 u2])).run Tryz.prog w = .ok () w:=fun w u0 u1 u2=>by
  rw[show(10000:Nat)=9999+1 from U,Instr.checkKey]
  simp[run_underlying underlying334,e,d,part]
 exact ck w k.xi k.xo.y6 k.xo.fQ)
 (fun u v w=>z1e0.eq u v w)
 (fun k=>by simp[Instr.sameBits,qS])
theorem W6:wt Tryz.prog 216 3 10:=wq (i:=Tryz.t214) underlying216 rfl rfl (by decide) rfl
theorem ju:wt Tryz.prog 276 1 1:=wq (i:=Tryz.t3) underlying276 rfl rfl (by decide) rfl
theorem jv:wt Tryz.prog 276 0 0:=wq (i:=Tryz.t3) underlying276 rfl rfl (by decide) rfl
theorem gf:KeyT Tryz.prog 9 Value.string:=Fp underlying9
theorem zHK:vk Tryz.prog 392 .nilFunc:=wT (i:=Tryz.t392) rfl rfl
theorem l6:wt Tryz.prog 216 4 11:=wq (i:=Tryz.t31) underlying216 rfl rfl (by decide) rfl
theorem z8n:jt Tryz.prog 31:=vJ underlying31
theorem zfn:q8 Tryz.prog 31 1:=vc (i:=Tryz.t31) rfl
theorem zNO:vk Tryz.prog 30 vn:=wT (i:=Tryz.t30) rfl rfl
theorem zeq:elT Tryz.prog 338 336 4 32:=⟨underlying338,⟨Tryz.t336,_,rfl,rfl,rfl,rfl,rfl⟩,by decide⟩
theorem zgX:elT Tryz.prog 272 338 1 24:=⟨underlying272,⟨Tryz.t338,_,rfl,rfl,rfl,rfl,rfl⟩,by decide⟩
theorem zk0:vk Tryz.prog 336 (.agg #[vi 0,vi 0,vi 0,vi 0]):=wT (i:=Tryz.t336) rfl rfl
theorem zk1:q8 Tryz.prog 336 4:=vc (i:=Tryz.t336) rfl
theorem mT:wt Tryz.prog 336 0 0:=wq (i:=Tryz.t276) underlying336 rfl rfl (by decide) rfl
theorem tN:wt Tryz.prog 336 1 2:=wq (i:=Tryz.t276) underlying336 rfl rfl (by decide) rfl
theorem z6d:g5 Tryz.prog 336 4:=qz (i:=Tryz.t336) underlying336 rfl rfl
theorem z1e4:vk Tryz.prog 279 (.agg #[vi 0,vi 0,vi 0,vi 0]):=wT (i:=Tryz.t279) rfl rfl
theorem z1e5:q8 Tryz.prog 279 4:=vc (i:=Tryz.t279) rfl
theorem zCu:g5 Tryz.prog 279 4:=qz (i:=Tryz.t279) underlying279 rfl rfl
theorem zk2:jt Tryz.prog 272:=vJ underlying272
theorem zZ4:vk Tryz.prog 342 (.agg #[vn,vi 0,vi 0,vi 0,vi 0,.nilFunc,vn]):=wT (i:=Tryz.t342) rfl rfl
theorem zZ5:q8 Tryz.prog 342 7:=vc (i:=Tryz.t342) rfl
theorem aJ:wt Tryz.prog 342 2 5:=wq (i:=Tryz.t339) underlying342 rfl rfl (by decide) rfl
theorem zZ6:q8 Tryz.prog 339 1:=vc (i:=Tryz.t339) rfl
theorem zvw:g5 Tryz.prog 342 7:=qz (i:=Tryz.t342) underlying342 rfl rfl
theorem dm:wt Tryz.prog 342 0 0:=wq (i:=Tryz.t272) underlying342 rfl rfl (by decide) rfl
theorem zrJ:jt Tryz.prog 338:=vJ underlying338
theorem Jm:wt Tryz.prog 342 1 1:=wq (i:=Tryz.t279) underlying342 rfl rfl (by decide) rfl
theorem aK:wt Tryz.prog 279 0 0:=wq (i:=Tryz.t276) underlying279 rfl rfl (by decide) rfl
theorem dp:wt Tryz.prog 279 1 2:=wq (i:=Tryz.t276) underlying279 rfl rfl (by decide) rfl
theorem zNP:vk Tryz.prog 371 (.agg #[vi 0]):=wT (i:=Tryz.t371) rfl rfl
theorem zZ7:vk Tryz.prog 396 (.agg #[vi 0]):=wT (i:=Tryz.t396) rfl rfl
theorem zNQ:vk Tryz.prog 340 vn:=wT (i:=Tryz.t340) rfl rfl
theorem zZ8:EqT Tryz.prog 336 qo:=⟨fun u v w=>by
 have c:=fun(w:World) (a b:Array Value)=>run_equalIn_agg (P:=Tryz.prog) w 9999 336 a b (by simp[Program.fieldsOf,underlying336]) (by kernel_rfl)
 have d:=fun(w:World) (a b:Array Value)=>run_equalIn_agg (P:=Tryz.prog) w 9998 276 a b (by simp[Program.fieldsOf,underlying276]) (by kernel_rfl)
 have e:=fun(w:World) (a b:Int)=>run_equalIn_int (P:=Tryz.prog) w 9997 3 .i64 .i64 a b underlying3
 rw[c]
 simp[Program.fieldsOf,Op.eqFields,part,qo,c,underlying336,d,underlying276,e]
 rcases u with⟨⟨u1,u2⟩,⟨u3,u4⟩⟩
 rcases v with⟨⟨v1,v2⟩,⟨v3,v4⟩⟩
 by_cases h1:u1=v1 <;> by_cases h2:u2=v2 <;> by_cases h3:u3=v3 <;> by_cases h4:u4=v4 <;> simp[h1,h2,h3,h4],by kernel_rfl⟩
theorem zfo:jt Tryz.prog 340:=vJ underlying340
theorem tO:wt Tryz.prog 396 0 0:=wq (i:=Tryz.t31) underlying396 rfl rfl (by decide) rfl
theorem za4:elT Tryz.prog 340 276 2 16:=⟨underlying340,⟨Tryz.t276,_,rfl,rfl,rfl,rfl,rfl⟩,by decide⟩
theorem zNR:q8 Tryz.prog 340 1:=vc (i:=Tryz.t340) rfl
theorem KP:Fr Tryz.prog 336 1 2 276:=Mh underlying336 rfl rfl rfl
theorem mU:wt Tryz.prog 371 0 0:=wq (i:=Tryz.t31) underlying371 rfl rfl (by decide) rfl
theorem Jn:wt Tryz.prog 342 3 6:=wq (i:=Tryz.t340) underlying342 rfl rfl (by decide) rfl
theorem zZa:jt Tryz.prog 339:=vJ underlying339
theorem zZb:elT Tryz.prog 282 31 1 8:=⟨underlying282,⟨Tryz.t31,_,rfl,rfl,rfl,rfl,rfl⟩,by decide⟩
theorem zCv:q8 Tryz.prog 152 4:=vc (i:=Tryz.t152) rfl
theorem zCw:g5 Tryz.prog 152 4:=qz (i:=Tryz.t152) underlying152 rfl rfl
theorem zZc:q8 Tryz.prog 86 1:=vc (i:=Tryz.t86) rfl
theorem py:wt Tryz.prog 152 0 0:=wq (i:=Tryz.t3) underlying152 rfl rfl (by decide) rfl
theorem cu:wt Tryz.prog 152 1 1:=wq (i:=Tryz.t3) underlying152 rfl rfl (by decide) rfl
theorem aL:wt Tryz.prog 152 2 2:=wq (i:=Tryz.t3) underlying152 rfl rfl (by decide) rfl
theorem zHL:elT Tryz.prog 87 101 3 24:=⟨underlying87,⟨Tryz.t101,_,rfl,rfl,rfl,rfl,rfl⟩,by decide⟩
theorem Jo:wt Tryz.prog 101 1 1:=wq (i:=Tryz.t3) underlying101 rfl rfl (by decide) rfl
theorem Xr:wt Tryz.prog 89 1 1:=wq (i:=Tryz.t87) underlying89 rfl rfl (by decide) rfl
theorem zZd:q8 Tryz.prog 87 1:=vc (i:=Tryz.t87) rfl
theorem zHM:g5 Tryz.prog 89 2:=qz (i:=Tryz.t89) underlying89 rfl rfl
theorem zHN:q8 Tryz.prog 89 2:=vc (i:=Tryz.t89) rfl
theorem z1e7:vk Tryz.prog 154 (.agg #[vi 0,vi 0]):=wT (i:=Tryz.t154) rfl rfl
theorem z1e8:q8 Tryz.prog 154 2:=vc (i:=Tryz.t154) rfl
theorem zHO:g5 Tryz.prog 154 2:=qz (i:=Tryz.t154) underlying154 rfl rfl
theorem zZe:jt Tryz.prog 219:=vJ underlying219
theorem zCx:elT Tryz.prog 219 288 1 8:=⟨underlying219,⟨Tryz.t288,_,rfl,rfl,rfl,rfl,rfl⟩,by decide⟩
theorem z1e9:jt Tryz.prog 288:=vJ underlying288
theorem zNS:jt Tryz.prog 229:=vJ underlying229
theorem z1ea:vk Tryz.prog 229 (.map none):=wT (i:=Tryz.t229) rfl rfl
theorem z1eb:q8 Tryz.prog 229 1:=vc (i:=Tryz.t229) rfl
theorem zZf:EqT Tryz.prog 154 qy:=⟨fun u v w=>by
 have c:=fun(w:World) (a b:Array Value)=>run_equalIn_agg (P:=Tryz.prog) w 9999 154 a b (by simp[Program.fieldsOf,underlying154]) (by kernel_rfl)
 have d:=fun(w:World) (a b:Int)=>run_equalIn_int (P:=Tryz.prog) w 9998 3 .i64 .i64 a b underlying3
 rw[c]
 simp[Program.fieldsOf,Op.eqFields,part,qy,c,underlying154,d]
 rcases u with⟨u1,u2⟩
 rcases v with⟨v1,v2⟩
 by_cases h1:u1=v1 <;> by_cases h2:u2=v2 <;> simp[h1,h2],by kernel_rfl⟩
theorem zZh:KeyT Tryz.prog 154 (ga qy):=ay underlying154 (fun _ _=>rfl) (fun b k w=>by
 have c:=fun(w:World) (a:Int)=>MapKept.run_checkKey (P:=Tryz.prog) (w:=w) (kt:=3) (k:=.int .i64 a) underlying3 (by simp[MapKept.IsKey]) b 9998
 have ck:∀(w:World) (u0:Int) (u1:Int),(Instr.checkKey b 10000 154 (.agg #[.int .i64 u0,.int .i64 u1])).run Tryz.prog w = .ok () w:=fun w u0 u1=>by
  rw[show(10000:Nat)=9999+1 from U,Instr.checkKey]
  simp[run_underlying underlying154,c,part]
 exact ck w k.y6 k.fQ)
 (fun u v w=>zZf.eq u v w)
 (fun k=>by simp[Instr.sameBits,qy])
theorem zvx:vk Tryz.prog 74 (.agg #[.string ⟨#[]⟩,.string ⟨#[]⟩,.string ⟨#[]⟩,.string ⟨#[]⟩,vi 0,vi 0,vn]):=wT (i:=Tryz.t74) rfl rfl
theorem zZi:q8 Tryz.prog 74 7:=vc (i:=Tryz.t74) rfl
theorem jM:q8 Tryz.prog 3 1:=vc (i:=Tryz.t3) rfl
theorem W7:wt Tryz.prog 154 0 0:=wq (i:=Tryz.t3) underlying154 rfl rfl (by decide) rfl
theorem zZj:vk Tryz.prog 219 vn:=wT (i:=Tryz.t219) rfl rfl
theorem z1ec:q8 Tryz.prog 219 1:=vc (i:=Tryz.t219) rfl
theorem Jp:wt Tryz.prog 154 1 1:=wq (i:=Tryz.t3) underlying154 rfl rfl (by decide) rfl
theorem aM:wt Tryz.prog 152 3 3:=wq (i:=Tryz.t3) underlying152 rfl rfl (by decide) rfl
theorem zvy:elT Tryz.prog 97 96 3 24:=⟨underlying97,⟨Tryz.t96,_,rfl,rfl,rfl,rfl,rfl⟩,by decide⟩
theorem zZk:g5 Tryz.prog 96 3:=qz (i:=Tryz.t96) underlying96 rfl rfl
theorem zZl:vk Tryz.prog 96 (.agg #[vi 0,vi 0,vi 0]):=wT (i:=Tryz.t96) rfl rfl
theorem zZm:q8 Tryz.prog 96 3:=vc (i:=Tryz.t96) rfl
theorem nx:wt Tryz.prog 96 0 0:=wq (i:=Tryz.t3) underlying96 rfl rfl (by decide) rfl
theorem Xs:wt Tryz.prog 96 1 1:=wq (i:=Tryz.t3) underlying96 rfl rfl (by decide) rfl
theorem VM:wt Tryz.prog 96 2 2:=wq (i:=Tryz.t3) underlying96 rfl rfl (by decide) rfl
theorem Jq:wt Tryz.prog 167 2 9:=wq (i:=Tryz.t97) underlying167 rfl rfl (by decide) rfl
theorem zZn:jt Tryz.prog 97:=vJ underlying97
theorem FC:wt Tryz.prog 167 1 8:=wq (i:=Tryz.t85) underlying167 rfl rfl (by decide) rfl
theorem W8:wt Tryz.prog 167 4 11:=wq (i:=Tryz.t165) underlying167 rfl rfl (by decide) rfl
theorem Jr(p : Option Addr) : ∀ w,(method (Tryz.prog.types.size + Made.depth) 236 (.pointer p) "Push").run Tryz.prog w = .ok (325,.pointer p) w:=fun _=>by kernel_rfl
theorem zvz:jt Tryz.prog 165:=vJ underlying165
theorem zgY:elT Tryz.prog 165 238 7 56:=⟨underlying165,⟨Tryz.t238,_,rfl,rfl,rfl,rfl,rfl⟩,by decide⟩
theorem zZo:q8 Tryz.prog 165 1:=vc (i:=Tryz.t165) rfl
theorem XR{A : Addr}{v : Value} : ∀ w : World,w.cell? A = some v → (method (Tryz.prog.types.size + Made.depth) 236 (vq A) "Len").run Tryz.prog w = .ok (320,v) w:=fun w h=>aB (i:=Tryz.t236) rfl rfl rfl rfl underlying236 zvz h
theorem Js{A : Addr}{v : Value} : ∀ w : World,w.cell? A = some v → (method (Tryz.prog.types.size + Made.depth) 236 (vq A) "Less").run Tryz.prog w = .ok (321,v) w:=fun w h=>aB (i:=Tryz.t236) rfl rfl rfl rfl underlying236 zvz h
theorem zvA:g5 Tryz.prog 238 7:=qz (i:=Tryz.t238) underlying238 rfl rfl
theorem W9:wt Tryz.prog 238 0 0:=wq (i:=Tryz.t3) underlying238 rfl rfl (by decide) rfl
theorem Jt:wt Tryz.prog 238 1 1:=wq (i:=Tryz.t3) underlying238 rfl rfl (by decide) rfl
theorem Ju:wt Tryz.prog 238 2 2:=wq (i:=Tryz.t3) underlying238 rfl rfl (by decide) rfl
theorem dq:wt Tryz.prog 238 3 3:=wq (i:=Tryz.t3) underlying238 rfl rfl (by decide) rfl
theorem Jv{A : Addr}{v : Value} : ∀ w : World,w.cell? A = some v → (method (Tryz.prog.types.size + Made.depth) 236 (vq A) "Swap").run Tryz.prog w = .ok (322,v) w:=fun w h=>aB (i:=Tryz.t236) rfl rfl rfl rfl underlying236 zvz h
theorem zHP:q8 Tryz.prog 238 7:=vc (i:=Tryz.t238) rfl
theorem K6(p : Option Addr) : ∀ w,(method (Tryz.prog.types.size + Made.depth) 236 (.pointer p) "Pop").run Tryz.prog w = .ok (324,.pointer p) w:=fun _=>by kernel_rfl
theorem zZp:vk Tryz.prog 238 (.agg #[vi 0,vi 0,vi 0,vi 0,vi 0,vi 0,vi 0]):=wT (i:=Tryz.t238) rfl rfl
theorem du:wt Tryz.prog 238 4 4:=wq (i:=Tryz.t82) underlying238 rfl rfl (by decide) rfl
theorem z1ed:vk Tryz.prog 309 (.agg #[vi 0,vi 0]):=wT (i:=Tryz.t309) rfl rfl
theorem z1ee:q8 Tryz.prog 309 2:=vc (i:=Tryz.t309) rfl
theorem Wa:wt Tryz.prog 167 3 10:=wq (i:=Tryz.t163) underlying167 rfl rfl (by decide) rfl
theorem zNT:jt Tryz.prog 163:=vJ underlying163
theorem zNU:g5 Tryz.prog 309 2:=qz (i:=Tryz.t309) underlying309 rfl rfl
theorem zZq:vk Tryz.prog 241 (.pointer none):=wT (i:=Tryz.t241) rfl rfl
theorem z1ef:EqT Tryz.prog 309 gj:=⟨fun u v w=>by
 have c:=fun(w:World) (a b:Array Value)=>run_equalIn_agg (P:=Tryz.prog) w 9999 309 a b (by simp[Program.fieldsOf,underlying309]) (by kernel_rfl)
 have d:=fun(w:World) (a b:Int)=>run_equalIn_int (P:=Tryz.prog) w 9998 3 .i64 .i64 a b underlying3
 rw[c]
 simp[Program.fieldsOf,Op.eqFields,part,gj,c,underlying309,d]
 rcases u with⟨u1,u2⟩
 rcases v with⟨v1,v2⟩
 by_cases h1:u1=v1 <;> by_cases h2:u2=v2 <;> simp[h1,h2],by kernel_rfl⟩
theorem zNV:KeyT Tryz.prog 309 (ga gj):=ay underlying309 (fun _ _=>rfl) (fun b k w=>by
 have c:=fun(w:World) (a:Int)=>MapKept.run_checkKey (P:=Tryz.prog) (w:=w) (kt:=3) (k:=.int .i64 a) underlying3 (by simp[MapKept.IsKey]) b 9998
 have ck:∀(w:World) (u0:Int) (u1:Int),(Instr.checkKey b 10000 309 (.agg #[.int .i64 u0,.int .i64 u1])).run Tryz.prog w = .ok () w:=fun w u0 u1=>by
  rw[show(10000:Nat)=9999+1 from U,Instr.checkKey]
  simp[run_underlying underlying309,c,part]
 exact ck w k.y6 k.fQ)
 (fun u v w=>z1ef.eq u v w)
 (fun k=>by simp[Instr.sameBits,gj])
theorem dv:wt Tryz.prog 167 0 0:=wq (i:=Tryz.t80) underlying167 rfl rfl (by decide) rfl
theorem aN:wt Tryz.prog 316 0 0:=wq (i:=Tryz.t313) underlying316 rfl rfl (by decide) rfl
theorem Jw:wt Tryz.prog 313 0 0:=wq (i:=Tryz.t3) underlying313 rfl rfl (by decide) rfl
theorem Wb:wt Tryz.prog 316 1 3:=wq (i:=Tryz.t3) underlying316 rfl rfl (by decide) rfl
theorem dw:wt Tryz.prog 316 3 5:=wq (i:=Tryz.t314) underlying316 rfl rfl (by decide) rfl
theorem zNW:jt Tryz.prog 314:=vJ underlying314
theorem Jx:wt Tryz.prog 319 1 1:=wq (i:=Tryz.t3) underlying319 rfl rfl (by decide) rfl
theorem zZs:q8 Tryz.prog 314 1:=vc (i:=Tryz.t314) rfl
theorem FD:wt Tryz.prog 313 2 2:=wq (i:=Tryz.t3) underlying313 rfl rfl (by decide) rfl
theorem FE:wt Tryz.prog 313 1 1:=wq (i:=Tryz.t3) underlying313 rfl rfl (by decide) rfl
theorem aP:wt Tryz.prog 316 2 4:=wq (i:=Tryz.t3) underlying316 rfl rfl (by decide) rfl
theorem zZt:elT Tryz.prog 314 319 2 16:=⟨underlying314,⟨Tryz.t319,_,rfl,rfl,rfl,rfl,rfl⟩,by decide⟩
theorem Wc:wt Tryz.prog 167 5 12:=wq (i:=Tryz.t92) underlying167 rfl rfl (by decide) rfl
theorem zNX:jt Tryz.prog 92:=vJ underlying92
theorem zNY:elT Tryz.prog 92 99 3 24:=⟨underlying92,⟨Tryz.t99,_,rfl,rfl,rfl,rfl,rfl⟩,by decide⟩
theorem z1eg:q8 Tryz.prog 92 1:=vc (i:=Tryz.t92) rfl
theorem VN:wt Tryz.prog 99 2 2:=wq (i:=Tryz.t3) underlying99 rfl rfl (by decide) rfl
theorem Kl:wt Tryz.prog 99 0 0:=wq (i:=Tryz.t3) underlying99 rfl rfl (by decide) rfl
theorem Km:wt Tryz.prog 99 1 1:=wq (i:=Tryz.t3) underlying99 rfl rfl (by decide) rfl
theorem FF:wt Tryz.prog 167 6 13:=wq (i:=Tryz.t92) underlying167 rfl rfl (by decide) rfl
theorem zZu:jt Tryz.prog 87:=vJ underlying87
theorem FG:wt Tryz.prog 101 2 2:=wq (i:=Tryz.t3) underlying101 rfl rfl (by decide) rfl
theorem z1eh:vk Tryz.prog 26 (.agg #[.string ⟨#[]⟩,.string ⟨#[]⟩,.string ⟨#[]⟩,.string ⟨#[]⟩]):=wT (i:=Tryz.t26) rfl rfl
theorem z1ei:q8 Tryz.prog 26 4:=vc (i:=Tryz.t26) rfl
theorem z2j:elT Tryz.prog 23 5 1 1:=⟨underlying23,⟨Tryz.t5,_,rfl,rfl,rfl,rfl,rfl⟩,by decide⟩
theorem m9:jt Tryz.prog 5:=vJ underlying5
theorem z5y:elT Tryz.prog 27 29 2 24:=⟨underlying27,⟨Tryz.t29,_,rfl,rfl,rfl,rfl,rfl⟩,by decide⟩
theorem zvB:arT Tryz.prog 26 9 4 1:=hG underlying26 (inf:=Tryz.t9) rfl rfl rfl
theorem z1ej:vk Tryz.prog 103 (.agg #[vn,vn,vn]):=wT (i:=Tryz.t103) rfl rfl
theorem z1ek:q8 Tryz.prog 103 3:=vc (i:=Tryz.t103) rfl
theorem zHQ:g5 Tryz.prog 103 3:=qz (i:=Tryz.t103) underlying103 rfl rfl
theorem cv:wt Tryz.prog 103 0 0:=wq (i:=Tryz.t27) underlying103 rfl rfl (by decide) rfl
theorem zk3:jt Tryz.prog 27:=vJ underlying27
theorem z8o:g5 Tryz.prog 29 2:=qz (i:=Tryz.t29) underlying29 rfl rfl
theorem zHR:vk Tryz.prog 29 (.agg #[.string ⟨#[]⟩,vi 0]):=wT (i:=Tryz.t29) rfl rfl
theorem zHS:q8 Tryz.prog 29 2:=vc (i:=Tryz.t29) rfl
theorem ny:wt Tryz.prog 29 0 0:=wq (i:=Tryz.t9) underlying29 rfl rfl (by decide) rfl
theorem Wd:wt Tryz.prog 103 1 1:=wq (i:=Tryz.t27) underlying103 rfl rfl (by decide) rfl
theorem zZv:EqT Tryz.prog 29 vD:=⟨fun u v w=>by
 have c:=fun(w:World) (a b:Array Value)=>run_equalIn_agg (P:=Tryz.prog) w 9999 29 a b (by simp[Program.fieldsOf,underlying29]) (by kernel_rfl)
 have d:=fun(w:World) (a b:ByteArray)=>K4 (P:=Tryz.prog) w 9998 9 a b underlying9
 have e:=fun(w:World) (a b:Int)=>run_equalIn_int (P:=Tryz.prog) w 9998 3 .i64 .i64 a b underlying3
 rw[c]
 simp[Program.fieldsOf,Op.eqFields,part,vD,c,underlying29,d,e]
 rcases u with⟨u1,u2⟩
 rcases v with⟨v1,v2⟩
 by_cases h1:u1=v1 <;> by_cases h2:u2=v2 <;> simp[h1,h2],by kernel_rfl⟩
theorem Kn:vk Tryz.prog 4 (.bool false):=wT (i:=Tryz.t4) rfl rfl
theorem WY:q8 Tryz.prog 4 1:=vc (i:=Tryz.t4) rfl
theorem z1em:elT Tryz.prog 22 250 4 48:=⟨underlying22,⟨Tryz.t250,_,rfl,rfl,rfl,rfl,rfl⟩,by decide⟩
theorem zNZ:g5 Tryz.prog 250 4:=qz (i:=Tryz.t250) underlying250 rfl rfl
theorem z1en:vk Tryz.prog 250 (.agg #[.string ⟨#[]⟩,vi 0,.string ⟨#[]⟩,vi 0]):=wT (i:=Tryz.t250) rfl rfl
theorem z1eo:q8 Tryz.prog 250 4:=vc (i:=Tryz.t250) rfl
theorem FH:wt Tryz.prog 250 0 0:=wq (i:=Tryz.t9) underlying250 rfl rfl (by decide) rfl
theorem FI:wt Tryz.prog 250 2 2:=wq (i:=Tryz.t9) underlying250 rfl rfl (by decide) rfl
theorem FJ:wt Tryz.prog 250 1 1:=wq (i:=Tryz.t3) underlying250 rfl rfl (by decide) rfl
theorem bU:wt Tryz.prog 29 1 1:=wq (i:=Tryz.t3) underlying29 rfl rfl (by decide) rfl
theorem FK:wt Tryz.prog 250 3 3:=wq (i:=Tryz.t3) underlying250 rfl rfl (by decide) rfl
theorem YZ:jt Tryz.prog 4:=vJ underlying4
theorem z1ep:vk Tryz.prog 105 (.agg ((List.replicate 256 (0:Int)).map vI).toArray):=wT (i:=Tryz.t105) rfl rfl
theorem zCy:arT Tryz.prog 105 3 256 1:=hG underlying105 (inf:=Tryz.t3) rfl rfl rfl
theorem FL:wt Tryz.prog 103 2 2:=wq (i:=Tryz.t22) underlying103 rfl rfl (by decide) rfl
theorem zHT:vk Tryz.prog 24 (.int .u64 0):=wT (i:=Tryz.t24) rfl rfl
theorem zgZ:q8 Tryz.prog 24 1:=vc (i:=Tryz.t24) rfl
theorem zcJ:elT Tryz.prog 38 24 1 8:=⟨underlying38,⟨Tryz.t24,_,rfl,rfl,rfl,rfl,rfl⟩,by decide⟩
theorem z4O:jt Tryz.prog 24:=vJ underlying24
theorem z1eq:vk Tryz.prog 262 (.agg ((List.replicate 8 (0:Int)).map (Value.int .u8)).toArray):=wT (i:=Tryz.t262) rfl rfl
theorem zZx:arT Tryz.prog 262 5 8 1:=hG underlying262 (inf:=Tryz.t5) rfl rfl rfl
theorem WZ:q8 Tryz.prog 5 1:=vc (i:=Tryz.t5) rfl
theorem zO0:vk Tryz.prog 193 (.agg #[.int .u64 0,vi 0]):=wT (i:=Tryz.t193) rfl rfl
theorem zHU:q8 Tryz.prog 193 2:=vc (i:=Tryz.t193) rfl
theorem zCz:g5 Tryz.prog 193 2:=qz (i:=Tryz.t193) underlying193 rfl rfl
theorem pB:wt Tryz.prog 193 0 0:=wq (i:=Tryz.t24) underlying193 rfl rfl (by decide) rfl
theorem We:wt Tryz.prog 193 1 1:=wq (i:=Tryz.t3) underlying193 rfl rfl (by decide) rfl
theorem zZy:vk Tryz.prog 37 (.agg #[.int .u64 0,.int .u64 0,.int .u64 0,.int .u64 0,.int .u64 0,.int .u64 0,.int .u64 0,.int .u64 0,.int .u64 0,.int .u64 0,.int .u64 0,.int .u64 0,.int .u64 0,.int .u64 0,.int .u64 0,.int .u64 0,.int .u64 0,.int .u64 0]):=wT (i:=Tryz.t37) rfl rfl
theorem zHV:arT Tryz.prog 37 24 18 1:=hG underlying37 (inf:=Tryz.t24) rfl rfl rfl
theorem zHW:g5 Tryz.prog 37 18:=qz (i:=Tryz.t37) underlying37 rfl rfl
theorem zO1:q8 Tryz.prog 37 18:=vc (i:=Tryz.t37) rfl
theorem z1er:vk Tryz.prog 36 vn:=wT (i:=Tryz.t36) rfl rfl
theorem z8p:vk Tryz.prog 42 (.agg #[.string ⟨#[]⟩,vi 0,vn,vi 0,.int .u64 0,.int .u64 0,.int .u64 0,.int .u64 0,.int .u64 0,.int .u64 0,.int .u64 0,.int .u64 0,.int .u64 0,.int .u64 0,.int .u64 0,.int .u64 0,.int .u64 0,.int .u64 0,.int .u64 0,.int .u64 0,.int .u64 0,.int .u64 0,vn]):=wT (i:=Tryz.t42) rfl rfl
theorem z8q:q8 Tryz.prog 42 23:=vc (i:=Tryz.t42) rfl
theorem zvC:vk Tryz.prog 40 (.agg #[vi 0,.int .u64 0,.int .u64 0,.int .u64 0,.int .u64 0,.int .u64 0,.int .u64 0,.int .u64 0,.int .u64 0,.int .u64 0,.int .u64 0,.int .u64 0,.int .u64 0,.int .u64 0,.int .u64 0,.int .u64 0,.int .u64 0,.int .u64 0,.int .u64 0,vn]):=wT (i:=Tryz.t40) rfl rfl
theorem zHX:vk Tryz.prog 179 (.agg #[vi 0,vi 0,vi 0,vi 0,vi 0,vi 0,vi 0,vi 0,vi 0,vi 0,vi 0,vi 0,vi 0,vi 0,vi 0,vi 0,vi 0,vi 0]):=wT (i:=Tryz.t179) rfl rfl
theorem zHY:arT Tryz.prog 179 3 18 1:=hG underlying179 (inf:=Tryz.t3) rfl rfl rfl
theorem z1es:Xp Tryz.prog 179 16 16:=WI underlying179 (inf:=Tryz.t3) rfl rfl (by decide) (by decide) rfl
theorem z1et:Xp Tryz.prog 179 17 17:=WI underlying179 (inf:=Tryz.t3) rfl rfl (by decide) (by decide) rfl
theorem zZz:g5 Tryz.prog 179 18:=qz (i:=Tryz.t179) underlying179 rfl rfl
theorem zO2:q8 Tryz.prog 179 18:=vc (i:=Tryz.t179) rfl
theorem zk4:q8 Tryz.prog 40 20:=vc (i:=Tryz.t40) rfl
theorem Xt:wt Tryz.prog 40 1 1:=wq (i:=Tryz.t37) underlying40 rfl rfl (by decide) rfl
theorem lH:wt Tryz.prog 40 2 19:=wq (i:=Tryz.t38) underlying40 rfl rfl (by decide) rfl
theorem zvD:jt Tryz.prog 38:=vJ underlying38
theorem zZA:q8 Tryz.prog 38 1:=vc (i:=Tryz.t38) rfl
theorem zk5:g5 Tryz.prog 40 20:=qz (i:=Tryz.t40) underlying40 rfl rfl
theorem bV:wt Tryz.prog 42 3 3:=wq (i:=Tryz.t40) underlying42 rfl rfl (by decide) rfl
theorem z4P:g5 Tryz.prog 42 23:=qz (i:=Tryz.t42) underlying42 rfl rfl
theorem Xu:wt Tryz.prog 40 0 0:=wq (i:=Tryz.t3) underlying40 rfl rfl (by decide) rfl
theorem bW:wt Tryz.prog 42 0 0:=wq (i:=Tryz.t9) underlying42 rfl rfl (by decide) rfl
theorem pX:wt Tryz.prog 42 1 1:=wq (i:=Tryz.t3) underlying42 rfl rfl (by decide) rfl
theorem Xv:wt Tryz.prog 42 2 2:=wq (i:=Tryz.t23) underlying42 rfl rfl (by decide) rfl
theorem z56:jt Tryz.prog 23:=vJ underlying23
theorem zdu:vk Tryz.prog 47 (.agg #[vn]):=wT (i:=Tryz.t47) rfl rfl
theorem ux:wt Tryz.prog 47 0 0:=wq (i:=Tryz.t45) underlying47 rfl rfl (by decide) rfl
theorem zfp:jt Tryz.prog 45:=vJ underlying45
theorem z1eu:vk Tryz.prog 186 (.agg ((List.replicate 54 (0:Int)).map (Value.int .u8)).toArray):=wT (i:=Tryz.t186) rfl rfl
theorem zZB:arT Tryz.prog 186 5 54 1:=hG underlying186 (inf:=Tryz.t5) rfl rfl rfl
theorem zer:elT Tryz.prog 45 23 1 24:=⟨underlying45,⟨Tryz.t23,_,rfl,rfl,rfl,rfl,rfl⟩,by decide⟩
theorem zZC:q8 Tryz.prog 45 1:=vc (i:=Tryz.t45) rfl
theorem z3N:g5 Tryz.prog 47 1:=qz (i:=Tryz.t47) underlying47 rfl rfl
theorem zcK:q8 Tryz.prog 47 1:=vc (i:=Tryz.t47) rfl
theorem zh0:vk Tryz.prog 124 (.agg #[vi 0,vi 0,.int .u32 0,.int .u64 0]):=wT (i:=Tryz.t124) rfl rfl
theorem zZD:g5 Tryz.prog 127 3:=qz (i:=Tryz.t127) underlying127 rfl rfl
theorem Jy:wt Tryz.prog 127 0 0:=wq (i:=Tryz.t47) underlying127 rfl rfl (by decide) rfl
theorem z1ev:vk Tryz.prog 264 (.agg ((List.replicate 49 (0:Int)).map (Value.int .u8)).toArray):=wT (i:=Tryz.t264) rfl rfl
theorem zO3:arT Tryz.prog 264 5 49 1:=hG underlying264 (inf:=Tryz.t5) rfl rfl rfl
theorem z1ew:vk Tryz.prog 406 (.agg ((List.replicate 256 (0:Int)).map (Value.int .u32)).toArray):=wT (i:=Tryz.t406) rfl rfl
theorem zZE:arT Tryz.prog 406 122 256 1:=hG underlying406 (inf:=Tryz.t122) rfl rfl rfl
theorem zZF:q8 Tryz.prog 122 1:=vc (i:=Tryz.t122) rfl
theorem zvE:jt Tryz.prog 122:=vJ underlying122
theorem zdv:q8 Tryz.prog 124 4:=vc (i:=Tryz.t124) rfl
theorem zfq:g5 Tryz.prog 124 4:=qz (i:=Tryz.t124) underlying124 rfl rfl
theorem mV:wt Tryz.prog 124 0 0:=wq (i:=Tryz.t121) underlying124 rfl rfl (by decide) rfl
theorem dx:wt Tryz.prog 121 0 0:=wq (i:=Tryz.t3) underlying121 rfl rfl (by decide) rfl
theorem cw:wt Tryz.prog 121 1 1:=wq (i:=Tryz.t3) underlying121 rfl rfl (by decide) rfl
theorem zZG:g5 Tryz.prog 121 2:=qz (i:=Tryz.t121) underlying121 rfl rfl
theorem z1ex:vk Tryz.prog 23 vn:=wT (i:=Tryz.t23) rfl rfl
theorem zHZ:q8 Tryz.prog 23 1:=vc (i:=Tryz.t23) rfl
theorem My:vk Tryz.prog 5 (.int .u8 0):=wT (i:=Tryz.t5) rfl rfl
theorem MY:q8 Tryz.prog 9 1:=vc (i:=Tryz.t9) rfl
theorem Wf:wt Tryz.prog 124 2 3:=wq (i:=Tryz.t24) underlying124 rfl rfl (by decide) rfl
theorem FM:wt Tryz.prog 127 1 1:=wq (i:=Tryz.t24) underlying127 rfl rfl (by decide) rfl
theorem FO:wt Tryz.prog 127 2 2:=wq (i:=Tryz.t3) underlying127 rfl rfl (by decide) rfl
theorem cx:wt Tryz.prog 124 1 2:=wq (i:=Tryz.t122) underlying124 rfl rfl (by decide) rfl
theorem z1ey:vk Tryz.prog 50 vn:=wT (i:=Tryz.t50) rfl rfl
theorem zZH:jt Tryz.prog 50:=vJ underlying50
theorem zk6:elT Tryz.prog 50 138 3 40:=⟨underlying50,⟨Tryz.t138,_,rfl,rfl,rfl,rfl,rfl⟩,by decide⟩
theorem z1ez:q8 Tryz.prog 50 1:=vc (i:=Tryz.t50) rfl
theorem Wg:wt Tryz.prog 138 0 0:=wq (i:=Tryz.t3) underlying138 rfl rfl (by decide) rfl
theorem Wh:wt Tryz.prog 138 2 2:=wq (i:=Tryz.t23) underlying138 rfl rfl (by decide) rfl
theorem Wi:wt Tryz.prog 138 1 1:=wq (i:=Tryz.t4) underlying138 rfl rfl (by decide) rfl
theorem zvF:g5 Tryz.prog 138 3:=qz (i:=Tryz.t138) underlying138 rfl rfl
theorem z1eA:vk Tryz.prog 138 (.agg #[vi 0,.bool false,vn]):=wT (i:=Tryz.t138) rfl rfl
theorem z1eB:q8 Tryz.prog 138 3:=vc (i:=Tryz.t138) rfl
theorem z1eC:vk Tryz.prog 147 (.agg #[vi 0,.int .u8 0]):=wT (i:=Tryz.t147) rfl rfl
theorem z1eD:q8 Tryz.prog 147 2:=vc (i:=Tryz.t147) rfl
theorem FP:wt Tryz.prog 147 0 0:=wq (i:=Tryz.t3) underlying147 rfl rfl (by decide) rfl
theorem FQ:wt Tryz.prog 147 1 1:=wq (i:=Tryz.t5) underlying147 rfl rfl (by decide) rfl
theorem znQ:jt Tryz.prog 36:=vJ underlying36
theorem zk7:elT Tryz.prog 36 47 1 24:=⟨underlying36,⟨Tryz.t47,_,rfl,rfl,rfl,rfl,rfl⟩,by decide⟩
theorem z1eE:q8 Tryz.prog 36 1:=vc (i:=Tryz.t36) rfl
def p7(a:ye):Option Int:=
 some (i64 ((a.fM.length:Int)+(a.fS.length:Int)))
theorem eE(Z b c d e f g i j k l m n o p q s a r)(h:p7 a=some r){Ek}(hz:PZ [] Ek Z)(t:ZS Z 4 (u5 Z) b c a.fM)(u:ZS Z 4 (fc Z) d e a.y9)(v:ZS Z 4 (rq ml) f g a.fS)(x:ZS Z 4 (rq m7) i j a.fK)(y:ZS Z 7 (fa Z) k l a.ya)(z:ZS Z 5 (rq mg) m n a.yc)(A:ZS Z 3 (fe Z) o p a.fU)(B:ZS Z 4 (rq j5) q s a.y8):
  RC 225 #[.agg #[vs b a.fM.length c,vs d a.y9.length e,vs f a.fS.length g,vs i a.fK.length j,vs k a.ya.length l,vs m a.yc.length n,vs o a.fU.length p,vs q a.y8.length s]] Ek (vi r) [] []:=by
 unfold p7 at h
 refine L3 func225 U U<|Lb<|Le (Lh 1 (wu (cs:=[vs b a.fM.length c,vs d a.y9.length e,vs f a.fS.length g,vs i a.fK.length j,vs k a.ya.length l,vs m a.yc.length n,vs o a.fU.length p,vs q a.y8.length s])) fun C _=>Q1n U<|B0q<|Lf 3 (w7 sp)<|Lf 4 (Ei zfl .here)<|Lf 5 (wB underlying63)<|Lf 6 (w7 cq)<|Lf 7 (Ei zrH .here)<|Lf 8 (wB underlying66)<|Q2n U<|El ?_)
 exact oJ h▸Ea results225
def cy(a:ye)(b:Int):Option ByteArray:=
 (if decide (b<0) then some true else(p7 a).bind fun c=>some (decide (b>=c))).bind fun d=>if d then none else if decide (b<a.fM.length) then chk (0<=b/\b<a.fM.length) (some ((nth a.fM b).yl)) else chk (0<=(i64 (b-(a.fM.length:Int)))/\(i64 (b-(a.fM.length:Int)))<a.fS.length) (some ((nth a.fS (i64 (b-(a.fM.length:Int)))).yl))
theorem VO(Z c d e f g i j k l m n o p q s t a u r)(h:cy a u=some r){Ek}(hz:PZ [] Ek Z)(v:ZS Z 4 (u5 Z) c d a.fM)(z:ZS Z 4 (fc Z) e f a.y9)(x:ZS Z 4 (rq ml) g i a.fS)(A:ZS Z 4 (rq m7) j k a.fK)(C:ZS Z 7 (fa Z) l m a.ya)(D:ZS Z 5 (rq mg) n o a.yc)(E:ZS Z 3 (fe Z) p q a.fU)(F:ZS Z 4 (rq j5) s t a.y8):
  RC 226 #[.agg #[vs c a.fM.length d,vs e a.y9.length f,vs g a.fS.length i,vs j a.fK.length k,vs l a.ya.length m,vs n a.yc.length o,vs p a.fU.length q,vs s a.y8.length t],vi u] Ek (.string r) [] []:=by
 unfold cy at h
 refine Lz func226 U U<|Lb<|Le (Lh 2 (wu (cs:=[vs c a.fM.length d,vs e a.y9.length f,vs g a.fS.length i,vs j a.fK.length k,vs l a.ya.length m,vs n a.yc.length o,vs p a.fU.length q,vs s a.y8.length t])) fun P _=>Q1n U<|B0q<|Lf 6 (w7 sp)<|Lf 7 (Ei zfl .here)<|Lf 8 (wB underlying63)<|Q1n U<|WC.block<|Lb ?_)
 refine bK h fun O y h=>D3q U<|Lx false 4 20 (B:=O) (fun h=>(oJ<|qf y h).symm) (fun _ G=>?_) ?_
 ·have b:=qg y G
  obtain⟨ab,H,b⟩:=z2 b
  replace b:=oJ b
  exact La U<|Lf 22 (we z5x (wh .here))<|Eg call225 hz (fun pz=>eE _ _ _ _ _ _ _ _ _ _ _ _ _ _ _ _ _ _ _ H pz v z x A C D E F)<|Q2q U<|Ly b U .all
 refine Q1n U<|Lj h (fun I h=>?_)<|fun I h=>?_
 ·cases h
 ·refine B4n U<|Lj h (fun J h=>?_)<|fun J h=>?_
  ·refine Lb<|cK h fun K h=>Le<|Lf 30 (w7 sp)<|Lf 31 (Ei zfl .here)<|La U<|L0 (dd:=33) (Z:=Z) (Pr:=(u5 Z)) zZ0 v K ?_
   rintro Q R L S ⟨T,V,rfl,W⟩
   exact Lf 34 (w7 Mt)<|Lf 35 (w8 ge U<|wP hz.pv L)<|Q1n U<|El<|Nc<|oJ h▸Ea results226
  ·refine Lb<|cK h fun M h=>Le<|Lf 9 (w7 cq)<|Lf 10 (Ei zrH .here)<|Q3q U<|L0 (dd:=14) (Z:=Z) (Pr:=(rq ml)) zrG x M ?_
   rintro X Y N aa rfl
   exact Lf 15 (w7 Mu)<|Lf 16 (w8 ge U<|wP hz.pv N)<|Q1n U<|El<|Nc<|oJ h▸Ea results226
def u6(b:Int)(c:ye)(d:ByteArray):Nat->Int->Option Int
 | 0,_=>none
 | e+1,a=>if decide (a<b) then(cy c a).bind fun f=>if decide (f=d) then some a else u6 b c d e (i64 (a+1)) else none
def pY(a:ye)(b:ByteArray):Option Int:=
 (p7 a).bind fun c=>u6 c a b wr 0
theorem nz(Z e f g i j k l m n o p q s t u v a d r)(h:pY a d=some r){Ek}(hz:PZ [] Ek Z)(x:ZS Z 4 (u5 Z) e f a.fM)(y:ZS Z 4 (fc Z) g i a.y9)(z:ZS Z 4 (rq ml) j k a.fS)(B:ZS Z 4 (rq m7) l m a.fK)(C:ZS Z 7 (fa Z) n o a.ya)(D:ZS Z 5 (rq mg) p q a.yc)(E:ZS Z 3 (fe Z) s t a.fU)(F:ZS Z 4 (rq j5) u v a.y8):
  RC 202 #[.agg #[vs e a.fM.length f,vs g a.y9.length i,vs j a.fS.length k,vs l a.fK.length m,vs n a.ya.length o,vs p a.yc.length q,vs s a.fU.length t,vs u a.y8.length v],.string d] Ek (vi r) [] []:=by
 unfold pY at h
 refine Lz func202 U U ?_
 let A:List Value:=[vs e a.fM.length f,vs g a.y9.length i,vs j a.fS.length k,vs l a.fK.length m,vs n a.ya.length o,vs p a.yc.length q,vs s a.fU.length t,vs u a.y8.length v];refine B0q<|Lh 2 (wu (cs:=A)) ?_
 intro G _
 refine Q1n U<|Lb<|Lb<|bK h fun H I h=>Le<|Lf 6 (we z5x (wh .here))<|Eg call225 hz (fun pz=>eE _ _ _ _ _ _ _ _ _ _ _ _ _ _ _ _ _ _ _ I pz x y z B C D E F)<|Q1n U<|WC.block<|Ni (fun c b=>(u6 H a d c b=some r)) (fun c b=>[(1,.string d),(2,vp G),(7,vi H),(8,vi b)]) (fun c b=>[stb G 80 A]) (fun c b=>c) ⟨wr,0⟩ h .q (.cons .here .nil) ?_
 rintro(_|M) b h;·cases h
 rw[u6] at h
 refine B1n U<|Lb<|Lj h (fun J h=>?_)<|fun J h=>?_
 ·refine Ec<|Lb<|WC.block<|B2n U<|Lb<|bK h fun N K h=>Le<|Lf 11 (we z5x (wh .here))<|La U<|Eg call226 hz (fun pz=>VO _ _ _ _ _ _ _ _ _ _ _ _ _ _ _ _ _ _ _ _ K pz x y z B C D E F)<|La U<|Lf 15 (WF U U)<|Q0n<|Lj h (fun L h=>?_)<|fun L h=>?_
  ·exact B2n U<|El<|Nc<|L4<|L4<|Nc<|L4<|oJ h▸Ea results202
  ·exact Ep<|Lq<|Ld<|D2q U<|WL.nil<|Em ⟨M,i64 (b+1)⟩ h (Nat.lt_succ_self _) .q<|.cons .here .nil
 ·cases h
def pZ(a:ye)(c:Int)(b:Int):Option Bool:=
 if decide (b<a.fM.length) then some (decide (b>=0)) else chk (0<=(i64 (b-(a.fM.length:Int)))/\(i64 (b-(a.fM.length:Int)))<a.fS.length) (some (((((decide (((nth a.fS (i64 (b-(a.fM.length:Int)))).xv)=c))&&(decide (((nth a.fS (i64 (b-(a.fM.length:Int)))).yv)>=0)))&&(decide (((nth a.fS (i64 (b-(a.fM.length:Int)))).yv)<=1000)))&&(decide (((nth a.fS (i64 (b-(a.fM.length:Int)))).fT)>=0)))&&(decide (((nth a.fS (i64 (b-(a.fM.length:Int)))).fT)<=1073741824))))
theorem nB(Z c d e f g i j k l m n o p q s t a b u r)(h:pZ a b u=some r){Ek}(hz:PZ [] Ek Z)(G:ZS Z 4 (u5 Z) c d a.fM)(H:ZS Z 4 (fc Z) e f a.y9)(v:ZS Z 4 (rq ml) g i a.fS)(I:ZS Z 4 (rq m7) j k a.fK)(J:ZS Z 7 (fa Z) l m a.ya)(K:ZS Z 5 (rq mg) n o a.yc)(L:ZS Z 3 (fe Z) p q a.fU)(M:ZS Z 4 (rq j5) s t a.y8):
  RC 203 #[.agg #[vs c a.fM.length d,vs e a.y9.length f,vs g a.fS.length i,vs j a.fK.length k,vs l a.ya.length m,vs n a.yc.length o,vs p a.fU.length q,vs s a.y8.length t],vi b,vi u] Ek (.bool r) [] []:=by
 unfold pZ at h
 refine Ng func203 U U<|Lb<|Le (Lh 3 (wu (cs:=[vs c a.fM.length d,vs e a.y9.length f,vs g a.fS.length i,vs j a.fK.length k,vs l a.ya.length m,vs n a.yc.length o,vs p a.fU.length q,vs s a.y8.length t])) fun N _=>Q1n U<|Lb<|B1q U<|Lf 9 (w7 sp)<|Lf 10 (Ei zfl .here)<|Lf 11 (wB underlying63)<|Q1n U<|Lj h (fun x h=>?_)<|fun x h=>?_)
 ·exact B3n U<|El<|L4<|oJ h▸Ea results203
 ·refine Ec<|Lb<|cK h fun y h=>Le<|Lf 15 (w7 cq)<|Lf 16 (Ei zrH .here)<|La U<|Lf 18 (w7 sp)<|Lf 19 (Ei zfl .here)<|Lf 20 (wB underlying63)<|La U<|L0 (dd:=22) (Z:=Z) (Pr:=(rq ml)) zrG v y ?_
  rintro O P z Q rfl
  refine Lf 23 (we z1dV (vy hz.pv z))<|Lh 7 (wn (cs:=[.string ⟨#[]⟩,vi 0,vi 0,vi 0]) z1dW) ?_
  intro R _
  let A:=(i64 (u-(a.fM.length:Int)));refine Ll (wl z1dX .here)<|Q0n<|B0q<|Lf 24 (w7 Mx)<|Lf 25 (Ei wm .here)<|Q3q U<|Lx true 3 28 (B:=(decide (((nth a.fS A).xv)=b))&&(decide (((nth a.fS A).yv)>=0))) (fun h=>(qd h).symm) (fun _ C=>?_) ?_
  ·exact Lf 29 (w7 nw)<|Lf 30 (Ei wm .here)<|Q2q U<|Ly (qe C) U .all
  refine La U<|Lx true 3 33 (B:=((decide (((nth a.fS A).xv)=b))&&(decide (((nth a.fS A).yv)>=0)))&&(decide (((nth a.fS A).yv)<=1000))) (fun h=>(qd h).symm) (fun _ D=>?_) ?_
  ·exact Lf 34 (w7 nw)<|Lf 35 (Ei wm .here)<|Q2q U<|Ly (qe D) U .all
  refine La U<|Lx true 3 38 (B:=(((decide (((nth a.fS A).xv)=b))&&(decide (((nth a.fS A).yv)>=0)))&&(decide (((nth a.fS A).yv)<=1000)))&&(decide (((nth a.fS A).fT)>=0))) (fun h=>(qd h).symm) (fun _ E=>?_) ?_
  ·exact Lf 39 (w7 VJ)<|Lf 40 (Ei wm .here)<|Q2q U<|Ly (qe E) U .all
  refine La U<|Lx true 3 43 (B:=((((decide (((nth a.fS A).xv)=b))&&(decide (((nth a.fS A).yv)>=0)))&&(decide (((nth a.fS A).yv)<=1000)))&&(decide (((nth a.fS A).fT)>=0)))&&(decide (((nth a.fS A).fT)<=1073741824))) (fun h=>(qd h).symm) (fun _ F=>?_) ?_
  ·exact Lf 44 (w7 VJ)<|Lf 45 (Ei wm .here)<|Q2q U<|Ly (qe F) U .all
  exact Q1n U<|El<|oJ h▸Ea results203
def ie(a:ye)(e:Int)(b:Int)(f:Int)(g:Int):Option Bool:=
 if (decide (b<0))||(decide (b>=a.fK.length)) then none else chk (0<=b/\b<a.fK.length) ((pY a ((nth a.fK b).fA)).bind fun c=>(pY a ((nth a.fK b).fB)).bind fun d=>(if (((decide (((nth a.fK b).xv)=e))&&(decide (((nth a.fK b).yD)>=1)))&&(decide (((nth a.fK b).yD)<=16)))&&(decide (c≠d)) then(pZ a e c).bind fun h=>some h else some false).bind fun i=>(if i then(pZ a e d).bind fun j=>some j else some false).bind fun k=>some (k&&(((decide (c=f))&&(decide (d=g)))||((decide (c=g))&&(decide (d=f))))))
theorem V0(Z t u v x y z A C D E F G H I J K a g b c d r)(h:ie a g b c d=some r){Ek}(hz:PZ [] Ek Z)(l:ZS Z 4 (u5 Z) t u a.fM)(m:ZS Z 4 (fc Z) v x a.y9)(n:ZS Z 4 (rq ml) y z a.fS)(i:ZS Z 4 (rq m7) A C a.fK)(o:ZS Z 7 (fa Z) D E a.ya)(p:ZS Z 5 (rq mg) F G a.yc)(q:ZS Z 3 (fe Z) H I a.fU)(s:ZS Z 4 (rq j5) J K a.y8):
  RC 156 #[.agg #[vs t a.fM.length u,vs v a.y9.length x,vs y a.fS.length z,vs A a.fK.length C,vs D a.ya.length E,vs F a.yc.length G,vs H a.fU.length I,vs J a.y8.length K],vi g,vi b,vi c,vi d] Ek (.bool r) [] []:=by
 unfold ie at h
 refine Hk func156 U U<|Lb<|Le (Lh 5 (wu (cs:=[vs t a.fM.length u,vs v a.y9.length x,vs y a.fS.length z,vs A a.fK.length C,vs D a.ya.length E,vs F a.yc.length G,vs H a.fU.length I,vs J a.y8.length K])) fun aj _=>Q1n U<|Lb<|Lb<|Le<|La U<|La U<|La U<|Lx false 5 16 (B:=(decide (b<0))||(decide (b>=a.fK.length))) (fun h=>(jB h).symm) (fun _ O=>?_) ?_)
 ·exact La U<|Lf 18 (w7 pV)<|Lf 19 (Ei zjY .here)<|Lf 20 (wB underlying69)<|Q2q U<|Ly (jC O) U .all
 refine Q0n<|Lj h (fun P h=>?_)<|fun P h=>?_
 ·cases h
 ·refine Ec<|Lb<|cK h fun Q h=>Le<|Lf 23 (w7 pV)<|Lf 24 (Ei zjY .here)<|La U<|L0 (dd:=26) (Z:=Z) (Pr:=(rq m7)) znN i Q ?_
  rintro ak al R am rfl
  refine Lf 27 (we z1dS (vy hz.pv R)) (Lh 11 (wn (cs:=[.string ⟨#[]⟩,.string ⟨#[]⟩,vi 0,vi 0]) z1dT) fun an _=>Ll (wl z1dU .here)<|Q0n<|Lb ?_)
  refine bK h fun e S h=>bK h fun f T h=>Lv nc []<|Li 0 U (we z5x (wh .h1))<|Lg 1 U (w7 Ms)<|Li 2 U (Ei ge .here)<|L5 3 U (Eh call202) (cc hz .nil fun w pz ho=>nz _ _ _ _ _ _ _ _ _ _ _ _ _ _ _ _ _ _ _ _ S pz l m n i o p q s)<|Li 4 U (we z5x (wh .h1))<|Lg 5 U (w7 Mv)<|Li 6 U (Ei ge .here)<|L5 7 U (Eh call202) (cc hz .nil fun w pz ho=>nz _ _ _ _ _ _ _ _ _ _ _ _ _ _ _ _ _ _ _ _ T pz l m n i o p q s)<|Lg 8 U q_z<|Lg 9 U q_z<|Eo (by kernel_rfl)<|Ld<|Lb<|bK h fun ai L h=>bK h fun M N h=>Le<|Lf 36 (w7 Mw)<|Lf 37 (Ei wm .here)<|Q3q U<|Lx true 3 40 (B:=(decide (((nth a.fK b).xv)=g))&&(decide (((nth a.fK b).yD)>=1))) (fun h=>(qd h).symm) (fun _ V=>?_) ?_
  ·exact Lf 41 (w7 lF)<|Lf 42 (Ei wm .here)<|Q2q U<|Ly (qe V) U .all
  refine La U<|Lx true 3 45 (B:=((decide (((nth a.fK b).xv)=g))&&(decide (((nth a.fK b).yD)>=1)))&&(decide (((nth a.fK b).yD)<=16))) (fun h=>(qd h).symm) (fun _ W=>?_) ?_
  ·exact Lf 46 (w7 lF)<|Lf 47 (Ei wm .here)<|Q2q U<|Ly (qe W) U .all
  refine La U<|Lx true 3 50 (B:=(((decide (((nth a.fK b).xv)=g))&&(decide (((nth a.fK b).yD)>=1)))&&(decide (((nth a.fK b).yD)<=16)))&&(decide (e≠f))) (fun h=>(qd h).symm) (fun _ X=>?_) ?_
  ·exact La U<|La U<|La U<|La U<|Ly (qe X) U .all
  refine La U<|Lx true 4 55 (B:=ai) (fun h=>(oJ<|qg L h).symm) (fun _ Y=>?_) ?_
  ·have j:=qf L Y
   obtain⟨ao,aa,j⟩:=z2 j
   replace j:=oJ j
   exact Lf 56 (we z5x (wh .h1))<|Q2q U<|Eg call203 hz (fun pz=>nB _ _ _ _ _ _ _ _ _ _ _ _ _ _ _ _ _ _ _ _ _ aa pz l m n i o p q s)<|La U<|Ly j U .all
  refine La U<|Lx true 4 61 (B:=M) (fun h=>(oJ<|qg N h).symm) (fun _ ab=>?_) ?_
  ·have k:=qf N ab
   obtain⟨ap,ad,k⟩:=z2 k
   replace k:=oJ k
   exact Lf 62 (we z5x (wh .h1))<|Q2q U<|Eg call203 hz (fun pz=>nB _ _ _ _ _ _ _ _ _ _ _ _ _ _ _ _ _ _ _ _ _ ad pz l m n i o p q s)<|La U<|Ly k U .all
  refine La U<|Lx true 18 67 (B:=M&&(((decide (e=c))&&(decide (f=d)))||((decide (e=d))&&(decide (f=c))))) (fun h=>(qd h).symm) (fun _ ae=>?_) ?_
  ·refine La U<|La U<|La U<|La U<|Lx true 3 71 (B:=(decide (e=c))&&(decide (f=d))) (fun h=>(qd h).symm) (fun _ af=>?_) ?_
   ·exact La U<|La U<|La U<|La U<|Ly (qe af) U .all
   refine La U<|Lx false 8 76 (B:=((decide (e=c))&&(decide (f=d)))||((decide (e=d))&&(decide (f=c)))) (fun h=>(jB h).symm) (fun _ ag=>?_) ?_
   ·refine La U<|La U<|La U<|La U<|Lx true 3 80 (B:=(decide (e=d))&&(decide (f=c))) (fun h=>(qd h).symm) (fun _ ah=>?_) ?_
    ·exact La U<|La U<|La U<|La U<|Ly (qe ah) U .all
    exact La U<|Ly (jC ag) U .all
   exact La U<|Ly (qe ae) U .all
  exact Q1n U<|El<|oJ h▸Ea results156
def mr(b:List zg)(d:ye)(f:Int)(g:Option Bool):Nat->Int->(List (Int×Int))->Option Bool
 | 0,_,_=>none
 | j+1,a,e=>if decide (a<b.length) then chk (0<=a/\a<b.length) (vC (fun(c:List (Int×Int))=>chk (((decide ((ww c ((nth b a).y6) 0)=0))||(decide ((ww c ((nth b a).fX) 0)>0)))=false->((decide (a>0))=true->((0:Int)<=0/\0<(b.length:Int)))) ((if ((decide ((ww c ((nth b a).y6) 0)=0))||(decide ((ww c ((nth b a).fX) 0)>0)))||(((decide (a>0))&&(decide (((nth b a).y6)≠((nth b 0).y6))))&&(decide (((nth b a).y6)<d.fM.length))) then some true else(ie d f ((nth b a).fQ) ((nth b a).y6) ((nth b a).fX)).bind fun i=>some (!i)).bind fun k=>if k then none else mr b d f g j (i64 (a+1)) (wU c ((nth b a).fX) (i64 ((ww c ((nth b a).fX) 0)+1))))) fun h=>if decide (a=0) then h (wU e ((nth b a).y6) (i64 ((ww e ((nth b a).y6) 0)+1))) else h e) else g
def ig(b:ye)(c:Int)(a:List zg):Option Bool:=
 uo (some (decide ((a.length:Int)<=32))) fun d=>mr a b c d wr 0 ([]:List (Int×Int))
theorem V1(Z s t u x y z B I J K L M N O P Q R S c e b r)(h:ig c e b=some r){Ek}(hz:PZ [] Ek Z)(an:ZS Z 4 (u5 Z) s t c.fM)(ao:ZS Z 4 (fc Z) u x c.y9)(ap:ZS Z 4 (rq ml) y z c.fS)(aq:ZS Z 4 (rq m7) B I c.fK)(ar:ZS Z 7 (fa Z) J K c.ya)(au:ZS Z 5 (rq mg) L M c.yc)(av:ZS Z 3 (fe Z) N O c.fU)(aw:ZS Z 4 (rq j5) P Q c.y8)(af:ZS Z 3 (rq mG) R S b):
  RC 101 #[.agg #[vs s c.fM.length t,vs u c.y9.length x,vs y c.fS.length z,vs B c.fK.length I,vs J c.ya.length K,vs L c.yc.length M,vs N c.fU.length O,vs P c.y8.length Q],vi e,vs R b.length S] Ek (.bool r) [] []:=by
 unfold ig at h
 refine Ng func101 U U ?_
 let A:List Value:=[vs s c.fM.length t,vs u c.y9.length x,vs y c.fS.length z,vs B c.fK.length I,vs J c.ya.length K,vs L c.yc.length M,vs N c.fU.length O,vs P c.y8.length Q];refine B0q<|Lh 3 (wu (cs:=A)) ?_
 intro g _
 refine Q1n U<|Lb<|Le (Lh 10 (jK vI<|Value.int .i64) fun l _=>Q1n U ?_)
 obtain⟨am,ax,h⟩:=vX h
 let C:Value:=(vs R b.length S);refine Nh (am=some r) ([(2,C)]) ([]) ?_ ?_
 ·refine B1q U<|Lf 12 (wB underlying84)<|Q1n U<|WC.block<|E4 (fun n a f=>(mr b c e am n a f=some r)) (fun n a f=>[(1,vi e),(2,C),(3,vp g),(7,(.map<|some l)),(11,C),(12,vi (b.length:Int)),(13,vi a)]) (fun n a f=>[stb g 80 A,wp l vI vI f]) (fun n a f=>n) ⟨wr,0,([]:List (Int×Int))⟩ h .q (.s2 .h1 .here) ?_
  rintro(_|aJ) a f h;·cases h
  rw[mr] at h
  refine B1n U<|Lb<|Lj h (fun ay h=>?_)<|fun ay h=>?_
  ·refine Ec<|Lb<|WC.block<|Lb<|cK h fun az h=>D1q U<|L0 (dd:=16) (Z:=Z) (Pr:=(rq mG)) zaL af az ?_
   rintro aM aN aA aO rfl
   refine Lf 17 (we z7e (vy hz.pv aA)) (Lh 9 (wn (cs:=[vi 0,vi 0,vi 0]) zgV) fun m _=>La U<|Ll (wl zfk .here)<|Q0n ?_)
   refine jK1 h fun aK aB h=>Nd (fun d=>(aK d=some r)) (fun d=>[(1,vi e),(2,C),(3,vp g),(7,(.map<|some l)),(8,vi a),(9,vp m),(11,C),(12,vi (b.length:Int)),(13,vi a)]) (fun d=>[stb g 80 A,wp l vI vI d,stb m 82 [(vi<|(nth b a).y6),(vi<|(nth b a).fX),(vi<|(nth b a).fQ)]]) ?_ ?_
   ·refine B2n U<|Lj h (fun aC h=>?_)<|fun aC h=>?_
    ·exact D1q U<|Lf 21 (w7 jV)<|Lf 22 (Ei wm .here)<|Lf 23 (qL (k:=((nth b a).y6)) (dflt:=(0:Int)) gc underlying229 qp .h2)<|La U<|Ll (kn (k:=((nth b a).y6)) (v:=i64 ((ww f ((nth b a).y6) 0)+1)) gc underlying229 .h2)<|WL.nil<|Lp (wU f ((nth b a).y6)<|i64 ((ww f ((nth b a).y6) 0)+1)) h .q<|.s3 .h2 .here .here
    ·exact Ep<|Lp f h .q<|.s3 .h1 .h1 .here
   ·rintro d h
    replace h:=(aB d).symm.trans h
    refine Lb<|Lb ?_
    obtain⟨aD,h⟩:=wa h
    obtain⟨aL,ag,h⟩:=z2 h
    let E:Value:=(vi (b.length:Int));let F:Value:=(.bool ((decide ((ww d ((nth b a).y6) 0)=0))||(decide ((ww d ((nth b a).fX) 0)>0))));refine Lv nc []<|Lg 0 U q_m<|Lg 1 U (w7 jV)<|Li 2 U (Ei wm .h2)<|Li 3 U (qL (k:=((nth b a).y6)) (dflt:=(0:Int)) gc underlying229 qp .h1)<|Lg 4 U uh<|Lg 5 U q_m<|L9 (fuel':=33) [(1,vi e),(2,C),(3,vp g),(7,(.map<|some l)),(8,vi a),(9,vp m),(11,C),(12,E),(13,vi a),(30,(.bool<|decide ((ww d ((nth b a).y6) 0)=0))),(36,F)] (wR 45 (dn 12)) ?_<|fun ah=>?_
    rotate_left
    ·rcases Bool.eq_false_or_eq_true (decide ((ww d ((nth b a).y6) 0)=0)) with hb' | hb'
     ·have T:=hb';clear hb'
      refine L2 (i:=30) U T<|Lo 6 U<|Lo 7 U<|Lo 8 U<|Lo 9 U<|Lo 10 U<|Lg 11 U vH<|Lw .a3 ?_ ah
      exact .t 9<|.r2 (zq<|Eq.symm T)<|zq<|jB T
     ·have V:=hb';clear hb'
      refine L2 (i:=30) U V<|Lg 6 U q_m<|Lg 7 U (w7 fy)<|Li 8 U (Ei wm .h2)<|Li 9 U (qL (k:=((nth b a).fX)) (dflt:=(0:Int)) gc underlying229 qp .h1)<|Lg 10 U oX<|Lg 11 U vA<|Lw .a3 ?_ ah
      exact .t 9<|.r2 (zq<|Eq.symm V)<|zq<|jC V
    let H:=(c.fM.length:Int);let D:Value:=(.bool (((decide ((ww d ((nth b a).y6) 0)=0))||(decide ((ww d ((nth b a).fX) 0)>0)))||(((decide (a>0))&&(decide (((nth b a).y6)≠((nth b 0).y6))))&&(decide (((nth b a).y6)<H)))));refine WD.d (bz 12 33) (by kernel_rfl)<|Lg 12 U q_m<|L9 (fuel':=12) [(1,vi e),(2,C),(3,vp g),(7,(.map<|some l)),(9,vp m),(11,C),(12,E),(13,vi a),(37,F),(57,D)] (wR 45 (dn 33)) ?_<|fun ai=>?_
    rotate_left
    ·rcases Bool.eq_false_or_eq_true ((decide ((ww d ((nth b a).y6) 0)=0))||(decide ((ww d ((nth b a).fX) 0)>0))) with hb' | hb'
     ·have W:=hb';clear hb'
      refine L2 (i:=37) U W<|Lo 13 U<|Lo 14 U<|Lo 15 U<|Lo 16 U<|Lo 17 U<|Lo 18 U<|Lo 19 U<|Lo 20 U<|Lo 21 U<|Lo 22 U<|Lo 23 U<|Lo 24 U<|Lo 25 U<|Lo 26 U<|Lo 27 U<|Lo 28 U<|Lo 29 U<|Lo 30 U<|Lo 31 U<|Lg 32 U vH<|Lw .a3 ?_ ai
      exact .t 8<|.r2 (zq<|Eq.symm W)<|zq<|jB W
     ·have p:=hb';clear hb'
      have aE:=aD p
      let G:Value:=(.bool ((decide (a>0))&&(decide (((nth b a).y6)≠((nth b 0).y6)))));refine L2 (i:=37) U p<|Lg 13 U q_m<|Lg 14 U oX<|Lg 15 U q_m<|L9 (fuel':=21) [(1,vi e),(2,C),(3,vp g),(7,(.map<|some l)),(9,vp m),(11,C),(12,E),(13,vi a),(37,.bool false),(40,(.bool<|decide (a>0))),(48,G)] (wR 45 (dn 24)) ?_<|fun aj=>?_
      rotate_left
      ·rcases Bool.eq_false_or_eq_true (decide (a>0)) with hb' | hb'
       ·have q:=hb';clear hb'
        have aF:=aE q
        refine L2 (i:=40) U q<|Lg 16 U (w7 jV)<|Li 17 U (Ei wm .h2)<|Lg 18 U q_m<|L8 (j:=19) (dd:=44) (by kernel_rfl) z2W z2X (Z:=Z) (Pr:=(rq mG)) zaL af aF ?_
        rintro aP aQ aG aR rfl
        refine Lg 20 U (w7 jV)<|Li 21 U (w8 wm U<|wP hz.pv aG)<|Lg 22 U kj<|Lg 23 U vH<|Lw .a3 ?_ aj
        exact .t 9<|.r2 (zq<|Eq.symm q)<|zq<|qe q
       ·have X:=hb';clear hb'
        refine L2 (i:=40) U X<|Lo 16 U<|Lo 17 U<|Lo 18 U<|Lo 19 U<|Lo 20 U<|Lo 21 U<|Lo 22 U<|Lg 23 U vA<|Lw .a3 ?_ aj
        exact .t 9<|.r2 (zq<|Eq.symm X)<|zq<|qd X
      refine WD.d (bz 24 21) (by kernel_rfl)<|Lg 24 U q_m<|L9 (fuel':=13) [(1,vi e),(2,C),(3,vp g),(7,(.map<|some l)),(9,vp m),(11,C),(12,E),(13,vi a),(37,.bool false),(49,G),(56,(.bool<|((decide (a>0))&&(decide (((nth b a).y6)≠((nth b 0).y6))))&&(decide (((nth b a).y6)<H))))] (wR 45 (dn 32)) ?_<|fun ak=>?_
      rotate_left
      ·rcases Bool.eq_false_or_eq_true ((decide (a>0))&&(decide (((nth b a).y6)≠((nth b 0).y6)))) with hb' | hb'
       ·have Y:=hb';clear hb'
        refine L2 (i:=49) U Y<|Lg 25 U (w7 jV)<|Li 26 U (Ei wm .h2)<|Lg 27 U (w7 sp)<|Li 28 U (Ei zfl .here)<|Lg 29 U (wB underlying63)<|Lg 30 U oW<|Lg 31 U vH<|Lw .a3 ?_ ak
        exact .t 9<|.r2 (zq<|Eq.symm Y)<|zq<|qe Y
       ·have aa:=hb';clear hb'
        refine L2 (i:=49) U aa<|Lo 25 U<|Lo 26 U<|Lo 27 U<|Lo 28 U<|Lo 29 U<|Lo 30 U<|Lg 31 U vA<|Lw .a3 ?_ ak
        exact .t 9<|.r2 (zq<|Eq.symm aa)<|zq<|qd aa
      refine WD.d (bz 32 13) (by kernel_rfl)<|Lg 32 U vA<|Lw .a3 ?_ ai
      exact .t 8<|.r2 (zq<|Eq.symm p)<|zq<|jC p
    refine WD.d (bz 33 12) (by kernel_rfl)<|Lg 33 U q_m<|L9 (fuel':=0) [(1,vi e),(2,C),(3,vp g),(7,(.map<|some l)),(9,vp m),(11,C),(12,E),(13,vi a),(58,D),(69,.bool aL)] (wR 45 (dn 45)) ?_<|fun al=>?_
    rotate_left
    ·rcases Bool.eq_false_or_eq_true (((decide ((ww d ((nth b a).y6) 0)=0))||(decide ((ww d ((nth b a).fX) 0)>0)))||(((decide (a>0))&&(decide (((nth b a).y6)≠((nth b 0).y6))))&&(decide (((nth b a).y6)<H)))) with hb' | hb'
     ·have ab:=hb';clear hb'
      have ad:=qf ag ab
      replace ad:=oJ ad
      refine L2 (i:=58) U ab<|Lo 34 U<|Lo 35 U<|Lo 36 U<|Lo 37 U<|Lo 38 U<|Lo 39 U<|Lo 40 U<|Lo 41 U<|Lo 42 U<|Lo 43 U<|Lg 44 U vH<|Lw .a3 ?_ al
      exact .t 8<|.r2 (zq<|Eq.symm ab)<|zq ad
     ·have ae:=hb';clear hb'
      have o:=qg ag ae
      obtain⟨aS,aH,o⟩:=z2 o
      replace o:=oJ o
      refine L2 (i:=58) U ae<|Li 34 U (we z5x (wh .here))<|Lg 35 U q_m<|Lg 36 U (w7 sn)<|Li 37 U (Ei wm .h2)<|Lg 38 U (w7 jV)<|Li 39 U (Ei wm .h2)<|Lg 40 U (w7 fy)<|Li 41 U (Ei wm .h2)<|L5 42 U (Eh call156) (cc hz .nil fun w pz ho=>V0 _ _ _ _ _ _ _ _ _ _ _ _ _ _ _ _ _ _ _ _ _ _ _ aH pz an ao ap aq ar au av aw)<|Lg 43 U th<|Lg 44 U vA<|Lw .a3 ?_ al
      exact .t 8<|.r2 (zq<|Eq.symm ae)<|zq o
    refine WD.d (bz 45 0) (by kernel_rfl)<|Eo (by kernel_rfl)<|Ld<|Lj h (fun aI h=>?_)<|fun aI h=>?_
    ·cases h
    ·exact Ec<|D1q U<|Lf 71 (w7 fy)<|Lf 72 (Ei wm .h2)<|Lf 73 (qL (k:=((nth b a).fX)) (dflt:=(0:Int)) gc underlying229 qp .h1)<|La U<|Ll (kn (k:=((nth b a).fX)) (v:=i64 ((ww d ((nth b a).fX) 0)+1)) gc underlying229 .h1)<|WL.nil<|Lq<|Ld<|D2q U<|WL.nil<|Em ⟨aJ,i64 (a+1),(wU d ((nth b a).fX)<|i64 ((ww d ((nth b a).fX) 0)+1))⟩ h (Nat.lt_succ_self _) .q<|.s2 .h1 .here
  ·exact En<|Ln<|Ln<|Lu<|Lp () h (.cons U .nil) .nil
 ·rintro  h
  replace h:=ax.symm.trans h
  exact B1q U<|Lf 77 (wB underlying84)<|Q2n U<|El<|oJ h▸Ea results101
def sa(b:List zg)(c:ye)(d:Int):Option Bool:=
 (ig c d b).bind fun a=>some (!a)
theorem Xz(Z c d e f g i j k l m n o p q s t u v x y b a z r)(h:sa b a z=some r){Ek}(hz:PZ [] Ek Z)(A:ZS Z 3 (rq mG) c d b)(B:ZS Z 4 (u5 Z) f g a.fM)(C:ZS Z 4 (fc Z) i j a.y9)(D:ZS Z 4 (rq ml) k l a.fS)(E:ZS Z 4 (rq m7) m n a.fK)(F:ZS Z 7 (fa Z) o p a.ya)(G:ZS Z 5 (rq mg) q s a.yc)(H:ZS Z 3 (fe Z) t u a.fU)(I:ZS Z 4 (rq j5) v x a.y8)(J:ZC Z e [vs f a.fM.length g,vs i a.y9.length j,vs k a.fS.length l,vs m a.fK.length n,vs o a.ya.length p,vs q a.yc.length s,vs t a.fU.length u,vs v a.y8.length x])(K:ZC Z y [vi z]):
  RC 100 #[vs c b.length d,vq e,vq y] Ek (.bool r) [] []:=by
 unfold sa at h
 exact Ng func100 U U<|B1n U<|Lb<|bK h fun M L h=>Le<|Lf 5 (we z5x (vy hz.pv J))<|Lf 6 (w8 wm U<|vx hz.pv K)<|La U<|Eg call101 hz (fun pz=>V1 _ _ _ _ _ _ _ _ _ _ _ _ _ _ _ _ _ _ _ _ _ _ _ L pz B C D E F G H I A)<|Q2n U<|El<|oJ h▸Ea results100
def vU(b:List (List zg))(zfu:(List zg)->Option Bool)(c:Option Unit):Nat->Int->Option Unit
 | 0,_=>none
 | d+1,a=>if decide (a<b.length) then chk (0<=a/\a<b.length) ((zfu (nth b a)).bind fun e=>if e then none else vU b zfu c d (i64 (a+1))) else c
def kx(a:List (List zg))(zfu:(List zg)->Option Bool):Option Unit:=
 uo (some ()) fun b=>vU a zfu b wr 0
theorem rK(Z d g zrL zCW b zfu r)(h:kx b zfu=some r){Ek}(hz:PZ [] Ek Z)(j:ZS Z 1 (m8 Z) d g b)(k:∀ args w,(callFunc zrL args).run Tryz.prog w = .ok (.enter zrL args) w)(m:∀ w:World,PZ [] w Z->∀(x0:List zg) (nD:Option Addr) (nb:Nat) (r:Bool),ZS Z 3 (rq mG) nD nb x0->zfu x0=some r->Calls Tryz.prog zrL (([vs nD x0.length nb]:List Value)++zCW).toArray w fun e w'=>e = .returned (.bool r)/\Hp [] w w' []):
  RC 154 #[vs d b.length g,.func (.func zrL) #[] (zCW).toArray] Ek (vi (-1)) [] []:=by
 unfold kx at h
 refine Lz func154 U U<|B1n U<|jK0 h fun i n h=>Nh (i=some r) ([]) ([]) ?_ ?_
 ·refine B1q U<|Lf 7 (wB underlying85)<|Q1n U<|WC.block<|Ni (fun c a=>(vU b zfu i c a=some r)) (fun c a=>[(0,vs d b.length g),(1,.func (.func zrL) #[] (zCW).toArray),(7,vi (b.length:Int)),(8,vi a)]) (fun c a=>[]) (fun c a=>c) ⟨wr,0⟩ h .q .nil ?_
  rintro(_|y) a h;·cases h
  rw[vU] at h
  refine B1n U<|Lb<|Lj h (fun o h=>?_)<|fun o h=>?_
  ·refine Ec<|Lb<|WC.block<|B2n U<|Lb<|cK h fun p h=>bK h fun z q h=>D3q U<|L0 (dd:=14) (Z:=Z) (Pr:=(m8 Z)) zgU j p ?_
   rintro A B s C ⟨t,u,rfl,v⟩
   refine Lf 15 (w8 zfm U<|vx hz.pv s)<|Lm 16 (wV (l:=[.tmp 15]) (f:=zrL) (caps:=zCW) k<|.cons U .nil) .nil (fun w hw=>m w (hz.now hw) (nth b a) t u z v q)<|Q0n<|Lj h (fun x h=>?_)<|fun x h=>?_
   ·cases h
   ·exact Ep<|Lq<|Ld<|D2q U<|WL.nil<|Em ⟨y,i64 (a+1)⟩ h (Nat.lt_succ_self _) .q .nil
  ·exact En<|Ln<|Ln<|Lu<|Lp () h .nil .nil
 ·rintro  h
  replace h:=n.symm.trans h
  refine B1n U<|El ?_
  skip
  exact Lk results154 (.tmp U .nil)<|fun w hw=>⟨wx,hw.sub .nil⟩
def jE(a:List (List zg))(zvJ:(List zg)->Option Bool):Option Unit:=
 (kx a zvJ).bind fun b=>some ()
theorem sM(Z b c zvK zIs a zvJ r)(h:jE a zvJ=some r){Ek}(hz:PZ [] Ek Z)(d:ZS Z 1 (m8 Z) b c a)(f:∀ args w,(callFunc zvK args).run Tryz.prog w = .ok (.enter zvK args) w)(g:∀ w:World,PZ [] w Z->∀(x0:List zg) (nD:Option Addr) (nb:Nat) (r:Bool),ZS Z 3 (rq mG) nD nb x0->zvJ x0=some r->Calls Tryz.prog zvK (([vs nD x0.length nb]:List Value)++zIs).toArray w fun e w'=>e = .returned (.bool r)/\Hp [] w w' []):
  RC 94 #[vs b a.length c,.func (.func zvK) #[] (zIs).toArray] Ek (.bool false) [] []:=by
 unfold jE at h
 refine Lz func94 U U<|B1n U<|Lb<|bK h fun j i h=>D2q U<|Eg call154 hz (fun pz=>rK _ _ _ (zrL:=zvK) (zCW:=zIs) _ (zfu:=zvJ) _ i pz d f g)<|Lf 8 tZ<|Q1n U<|El ?_
 skip
 exact Lk results94 (.tmp U .nil)<|fun w hw=>⟨wx,hw.sub .nil⟩
def tn(c:ye)(a:Int)(b:List (List zg)):Option Bool:=
 (if (((decide (a=0))||(decide (a=1)))&&(decide ((b.length:Int)=(c.ya.length:Int))))&&(decide ((b.length:Int)<=16)) then(jE b (fun(y0:List zg)=>sa y0 c a)).bind fun e=>some true else some false).bind fun d=>some d
theorem ii(Z e f g i j k m n o p q s t u v x y z a b c r)(h:tn a b c=some r){Ek}(hz:PZ [] Ek Z)(D:ZS Z 4 (u5 Z) e f a.fM)(E:ZS Z 4 (fc Z) g i a.y9)(F:ZS Z 4 (rq ml) j k a.fS)(G:ZS Z 4 (rq m7) m n a.fK)(H:ZS Z 7 (fa Z) o p a.ya)(I:ZS Z 5 (rq mg) q s a.yc)(J:ZS Z 3 (fe Z) t u a.fU)(K:ZS Z 4 (rq j5) v x a.y8)(L:ZS Z 1 (m8 Z) y z c):
  RC 46 #[.agg #[vs e a.fM.length f,vs g a.y9.length i,vs j a.fS.length k,vs m a.fK.length n,vs o a.ya.length p,vs q a.yc.length s,vs t a.fU.length u,vs v a.y8.length x],vi b,vs y c.length z] Ek (.bool r) [] []:=by
 unfold tn at h
 refine Ng func46 U U<|Lb<|Le (Lh 3 (wu (cs:=[vs e a.fM.length f,vs g a.y9.length i,vs j a.fS.length k,vs m a.fK.length n,vs o a.ya.length p,vs q a.yc.length s,vs t a.fU.length u,vs v a.y8.length x])) fun M _=>Lh 4 (wu (cs:=[vi b])) fun N _=>Q1n U<|Lb ?_)
 refine bK h fun T C h=>Le<|Lf 7 (Ei wm .here)<|Q2q U<|Lx false 2 9 (B:=(decide (b=0))||(decide (b=1))) (fun h=>(jB h).symm) (fun _ O=>?_) ?_
 ·exact Lf 10 (Ei wm .here)<|Q2q U<|Ly (jC O) U .all
 let A:=(a.ya.length:Int);refine La U<|Lx true 6 13 (B:=((decide (b=0))||(decide (b=1)))&&(decide ((c.length:Int)=A))) (fun h=>(qd h).symm) (fun _ P=>?_) ?_
 ·exact La U<|Lf 15 (wB underlying85)<|Lf 16 (w7 pU)<|Lf 17 (Ei zjX .h1)<|Lf 18 (wB underlying75)<|Q2q U<|Ly (qe P) U .all
 refine La U<|Lx true 3 21 (B:=(((decide (b=0))||(decide (b=1)))&&(decide ((c.length:Int)=A)))&&(decide ((c.length:Int)<=16))) (fun h=>(qd h).symm) (fun _ Q=>?_) ?_
 ·exact La U<|Lf 23 (wB underlying85)<|Q2q U<|Ly (qe Q) U .all
 refine La U<|Lx true 4 26 (B:=T) (fun h=>(oJ<|qg C h).symm) (fun _ R=>?_) ?_
 ·have d:=qf C R
  obtain⟨V,S,d⟩:=z2 d
  replace d:=oJ d
  exact La U<|Lf 28 (wO<|L6 (l:=[.tmp 3,.tmp 4])<|.r2 U U)<|Lm 29 (Eh call94) .nil (kb hz .nil (.s2 .h1 .here) fun w pz ho la=>sM _ _ _ (zvK:=100) (zIs:=[vp M,vp N]) _ (zvJ:=(fun(y0:List zg)=>sa y0 a b)) _ S pz ((L.mono<|zl).weak (fun _ _ h=>qY zl h)) call100<|fun w' nd y0 ga0 gc0 r By hr=>Xz _ _ _ _ _ _ _ _ _ _ _ _ _ _ _ _ _ _ _ _ _ _ _ _ _ hr nd By ((D.mono<|zl).weak (fun _ _ h=>qn zl h)) ((E.mono<|zl).weak (fun _ _ h=>qr zl h)) (F.mono<|zl) (G.mono<|zl) ((H.mono<|zl).weak (fun _ _ h=>vL zl h)) (I.mono<|zl) ((J.mono<|zl).weak (fun _ _ h=>qs zl h)) (K.mono<|zl) ((la _ (.head _) _).stb)<|(la _ (.tail _<|.head _) _).stb)<|Lf 30 th<|La U<|Ly d U .all
 exact Q1n U<|El<|oJ h▸Ea results46
def mn(a:zg):Option ze:=
 some (⟨a.y6,a.fQ⟩:ze)
theorem tq(Z a r)(h:mn a=some r){Ek}(hz:PZ [] Ek Z):
  RC 97 #[.agg #[vi a.y6,vi a.fX,vi a.fQ]] Ek (.agg #[vi r.y6,vi r.fQ]) [] []:=by
 unfold mn at h
 refine L3 func97 U U<|Lb<|Le (Lh 1 (wu (cs:=[vi a.y6,vi a.fX,vi a.fQ])) fun b _=>Lh 2 (wn (cs:=[vi 0,vi 0]) zCr) fun c _=>Q0n<|B0q<|Lf 3 (w7 jV)<|Lf 4 (Ei wm .h1)<|Lf 5 (w7 sn)<|Lf 6 (Ei wm .h1)<|Lf 7 (wN (v:=(.agg #[vi a.y6,vi a.fQ])) (Lt (l:=[.tmp 4,.tmp 6]) (.r2 U U) [0,1]) (fun _=>by kernel_rfl))<|Ll (wl zHI .here)<|Q0n<|El ?_)
 exact oJ h▸Eb results97 (.agg U za3 U (wh .here) .nil) .nil
def vV(b:List ze)(c:ze)(d:Option Unit):Nat->Int->Option Unit
 | 0,_=>none
 | e+1,a=>if decide (a<b.length) then chk (0<=a/\a<b.length) (if decide (c=(⟨(nth b a).y6,(nth b a).fQ⟩:ze)) then none else vV b c d e (i64 (a+1))) else d
def ky(a:List ze)(b:ze):Option Unit:=
 uo (some ()) fun c=>vV a b c wr 0
theorem rL(Z g i e c r)(h:ky e c=some r){Ek}(hz:PZ [] Ek Z)(m:ZS Z 2 (rq wJ) g i e):
  RC 211 #[vs g e.length i,.agg #[vi c.y6,vi c.fQ]] Ek (vi (-1)) [] []:=by
 unfold ky at h
 refine Lz func211 U U<|Lb<|Le (Lh 3 (wu (cs:=[vi c.y6,vi c.fQ])) fun k _=>Q1n U ?_)
 refine jK0 h fun l n h=>Nh (l=some r) ([]) ([]) ?_ ?_
 ·refine B1q U<|Lf 7 (wB underlying204)<|Q1n U<|WC.block<|Ni (fun f d=>(vV e c l f d=some r)) (fun f d=>[(0,vs g e.length i),(3,vp k),(7,vi (e.length:Int)),(8,vi d)]) (fun f d=>[stb k 208 [vi c.y6,vi c.fQ]]) (fun f d=>f) ⟨wr,0⟩ h .q (.cons .here .nil) ?_
  rintro(_|t) d h;·cases h
  rw[vV] at h
  refine B1n U<|Lb<|Lj h (fun o h=>?_)<|fun o h=>?_
  ·refine Ec<|Lb<|WC.block<|B2n U<|Lb<|cK h fun p h=>Lv nc []<|Li 0 U (we za3 (wh .here))<|Lg 1 U q_m<|Lg 2 U q_m<|L8 (j:=3) (dd:=14) (by kernel_rfl) z2W z2X (Z:=Z) (Pr:=(rq wJ)) zcI m p ?_
   rintro u v q x rfl
   refine Li 4 U (we za3 (vy hz.pv q))<|Lg 5 U (dc (enc:=wJ) (a:=c) (b:=(⟨(nth e d).y6,(nth e d).fQ⟩:ze)) zHJ)<|Eo (by kernel_rfl)<|Ld<|Lj h (fun s h=>?_)<|fun s h=>?_
   ·cases h
   ·exact Ep<|Lq<|Ld<|D2q U<|WL.nil<|Em ⟨t,i64 (d+1)⟩ h (Nat.lt_succ_self _) .q<|.cons .here .nil
  ·exact En<|Ln<|Ln<|Lu<|Lp () h .nil .nil
 ·rintro  h
  replace h:=n.symm.trans h
  refine B1n U<|El ?_
  skip
  exact Lk results211 (.tmp U .nil)<|fun w hw=>⟨wx,hw.sub .nil⟩
def jF(a:List ze)(b:ze):Option Unit:=
 (ky a b).bind fun c=>some ()
theorem sN(Z c d b a r)(h:jF b a=some r){Ek}(hz:PZ [] Ek Z)(e:ZS Z 2 (rq wJ) c d b):
  RC 172 #[vs c b.length d,.agg #[vi a.y6,vi a.fQ]] Ek (.bool false) [] []:=by
 unfold jF at h
 refine Lz func172 U U<|Lb<|Le (Lh 3 (wu (cs:=[vi a.y6,vi a.fQ])) fun g _=>Q1n U<|Lb ?_)
 refine bK h fun i f h=>D1q U<|Lf 6 (we za3 (wh .here))<|Eg call211 hz (fun pz=>rL _ _ _ _ _ _ f pz e)<|Lf 8 tZ<|Q1n U<|El ?_
 skip
 exact Lk results172 (.tmp U .nil)<|fun w hw=>⟨wx,hw.sub .nil⟩
def p8(a:Int):Option Bool:=
 some (decide (a≠a))
theorem eF(Z a r)(h:p8 a=some r){Ek}(hz:PZ [] Ek Z):
  RC 165 #[vi a] Ek (.bool r) [] []:=by
 unfold p8 at h
 exact L3 func165 U U<|B1n U<|B4n U<|El<|oJ h▸Ea results165
def qH(a:Int)(b:Int):Option Int:=
 (p8 a).bind fun c=>(p8 b).bind fun d=>if c then none else if d then none else if decide (a<b) then some (-1) else if decide (a>b) then some 1 else some 0
theorem jn(Z a b r)(h:qH a b=some r){Ek}(hz:PZ [] Ek Z):
  RC 109 #[vi a,vi b] Ek (vi r) [] []:=by
 unfold qH at h
 refine Lz func109 U U<|B1n U<|Lb<|bK h fun j c h=>D1q U<|Eg call165 hz (eF _ _ _ c)<|Q1n U<|Lb<|bK h fun k d h=>D1q U<|Eg call165 hz (eF _ _ _ d)<|Q1n U<|Lb<|B1n U<|Lj h (fun e h=>?_)<|fun e h=>?_
 ·cases h
 ·refine Ec<|Lb<|B1n U<|Lj h (fun f h=>?_)<|fun f h=>?_
  ·cases h
  ·refine Ec<|Lb<|B3n U<|Lj h (fun g h=>?_)<|fun g h=>?_
   ·exact B1n U<|El<|L4<|oJ h▸Ea results109
   ·refine Ec<|Lb<|B3n U<|Lj h (fun i h=>?_)<|fun i h=>?_
    ·exact B1n U<|El<|L4<|oJ h▸Ea results109
    ·exact Ec<|B1n U<|El<|oJ h▸Ea results109
def tr(b:List Int)(c:Option Int):Nat->Int->Option Int
 | 0,_=>none
 | d+1,a=>if decide (a<b.length) then chk (0<=a/\a<b.length) (if decide ((nth b a)≠0) then some (nth b a) else tr b c d (i64 (a+1))) else c
def pC(a:List Int):Option Int:=
 uo (some 0) fun b=>tr a b wr 0
theorem dy(Z d e b r)(h:pC b=some r){Ek}(hz:PZ [] Ek Z)(g:ZS Z 1 (rq e3) d e b):
  RC 108 #[vs d b.length e] Ek (vi r) [] []:=by
 unfold pC at h
 refine L3 func108 U U<|B1n U<|B1n U<|jK0 h fun f i h=>Nh (f=some r) ([(3,vi 0)]) ([]) ?_ ?_
 ·refine B1q U<|Lf 7 (wB underlying30)<|Q1n U<|WC.block<|Ni (fun c a=>(tr b f c a=some r)) (fun c a=>[(3,vi 0),(6,vs d b.length e),(7,vi (b.length:Int)),(8,vi a)]) (fun c a=>[]) (fun c a=>c) ⟨wr,0⟩ h .q .nil ?_
  rintro(_|n) a h;·cases h
  rw[tr] at h
  refine B1n U<|Lb<|Lj h (fun j h=>?_)<|fun j h=>?_
  ·refine Ec<|Lb<|WC.block<|Lb<|cK h fun k h=>Le<|L0 (dd:=10) (Z:=Z) (Pr:=(rq e3)) zaM g k ?_
   rintro o p l q rfl
   refine Lf 11 (w8 wm U<|vx hz.pv l)<|Q1n U<|B3n U<|Lj h (fun m h=>?_)<|fun m h=>?_
   ·exact B2n U<|El<|Nc<|L4<|L4<|Nc<|L4<|oJ h▸Ea results108
   ·exact Ep<|Lq<|Ld<|D2q U<|WL.nil<|Em ⟨n,i64 (a+1)⟩ h (Nat.lt_succ_self _) .q .nil
  ·exact En<|Ln<|Ln<|Lu<|Lp () h (.cons U .nil) .nil
 ·rintro  h
  replace h:=i.symm.trans h
  exact B2n U<|El<|oJ h▸Ea results108
def fg(a:ze)(b:ze):Option Int:=
 (qH a.y6 b.y6).bind fun d=>(qH a.fQ b.fQ).bind fun e=>(pC ([d,e]:List Int)).bind fun c=>some c
theorem ij(Z a b r)(h:fg a b=some r){Ek}(hz:PZ [] Ek Z):
  RC 88 #[.agg #[vi a.y6,vi a.fQ],.agg #[vi b.y6,vi b.fQ]] Ek (vi r) [] []:=by
 unfold fg at h
 refine Lz func88 U U<|Lb<|Le (Lh 2 (wu (cs:=[vi a.y6,vi a.fQ])) fun j _=>Lh 3 (wu (cs:=[vi b.y6,vi b.fQ])) fun k _=>Q1n U<|Lb ?_)
 refine bK h fun f c h=>bK h fun g d h=>bK h fun m e h=>Lv nc []<|Lg 0 U (w7 ct)<|Li 1 U (Ei wm .h1)<|Lg 2 U (w7 ct)<|Li 3 U (Ei wm .here)<|L5 4 U (Eh call109) (cc hz .nil fun w pz ho=>jn _ _ _ _ c pz )<|Lg 5 U (w7 dj)<|Li 6 U (Ei wm .h1)<|Lg 7 U (w7 dj)<|Li 8 U (Ei wm .here)<|L5 9 U (Eh call109) (cc hz .nil fun w pz ho=>jn _ _ _ _ d pz ) (WD.new (i:=10) (dd:=15) U (by kernel_rfl) U (wD (cs:=([f,g]:List Int).flatMap e3) zaM (Lt (l:=[.tmp 9,.tmp 14]) (.r2 U U) [0,1]) (fun _=>by kernel_rfl) (by unfold maxLen;omega)) (fun h'=>absurd h' (by decide)) fun n _=>L5 11 U (Eh call108) (kb hz .nil (.cons .here .nil) fun w pz ho la=>dy _ _ _ _ _ e pz<|ZA.row (la _ (.head _) _) (RR.flat (enc:=e3) (fun _=>U) _) ⟨w,pz.1⟩)<|Lg 12 U q_z<|Eo (by kernel_rfl)<|Ld<|El ?_)
 exact oJ h▸Ea results88
def o0(zew:Int):Option Int:=chk (0<=zew/\zew<=18446744073709551615) (some ((Go.Lib.bitLen (zew).toNat:Nat):Int))
theorem ik(Z zew r){Ek}(hz:PZ [] Ek Z)(h:o0 zew=some r):Calls Tryz.prog 93 #[.int .u64 zew] Ek fun e w'=>e = .returned (vi r)/\Hp [] Ek w' []:=by
 obtain⟨h0,h⟩:=wa h
 obtain rfl:=oJ h
 refine(Tryz.bits_Len zew Ek h0.1 h0.2).mono ?_
 rintro e w' ⟨rfl,rfl⟩
 exact⟨U,Hp.nil w' []⟩
theorem z1gO:∀ w,(isAgg (Tryz.kQ.t 24)).run Tryz.prog w = .ok true w:=fun _=>by kernel_rfl
theorem z1gP:∀ w,(Go.sizeOf (Tryz.kQ.t 24)).run Tryz.prog w = .ok 2 w:=fun _=>by kernel_rfl
def mH(za8:List ze)(zD1:Int)(zD2:Int)(zvP:Int)(zrN:ze->ze->Option Int):Option (List ze):=chk ((zD1=0/\zD2=(za8.length:Int))/\(0<=zvP/\zvP<4611686018427387904/\za8.length<4611686018427387904)) (chk (de zrN (jh zrN za8)=true) (some (jh zrN za8)))
theorem o5(Z zrO zrP zD3 zPN za8 zD1 zD2 zvP zrN r){Ek}(hz:Pz [row (vs zrO za8.length zrP) 208 2 (za8.flatMap wJ)] Ek Z)(a:∀ args w,(callFunc zD3 args).run Tryz.prog w = .ok (.enter zD3 args) w)(b:∀ w:World,PZ [] w Z->∀(x0:ze) (x1:ze) (r:Int),zrN x0 x1=some r->Calls Tryz.prog zD3 (([.agg #[vi x0.y6,vi x0.fQ],.agg #[vi x1.y6,vi x1.fQ]]:List Value)++zPN).toArray w fun e w'=>e = .returned (vi r)/\Hp [] w w' [])(h:mH za8 zD1 zD2 zvP zrN=some r)(iA:Ho Ek [row (vs zrO za8.length zrP) 208 2 (za8.flatMap wJ)]):
  Calls Tryz.prog 212 #[vs zrO za8.length zrP,vi zD1,vi zD2,vi zvP,.func (.func zD3) #[] (zPN).toArray] Ek fun e w'=>e = .returned (.tuple #[])/\(r.length=za8.length)/\Hp (fps [row (vs zrO za8.length zrP) 208 2 (za8.flatMap wJ)]) Ek w' [row (vs zrO r.length zrP) 208 2 (r.flatMap wJ)]:=by
 obtain⟨h0,h⟩:=wa h
 obtain⟨h1,h⟩:=wa h
 have hr:=(oJ h).symm
 exact cZ (P:=Tryz.prog) (f:=212) (e:=208) (k:=2) (enc:=wJ) (fun _=>U) (by decide) nv (fun β _ enc cf g cb hO wA off cap d0 w0 eg hC R=>Tryz.cj 2 z1gO z1gP enc cf g cb hO wA off cap d0 w0 eg hC R) (Tryz.iL (α:=Unit)) hz a b h0 h1 hr iA
def jG(a:List ze)(zvQ:ze->ze->Option Int):Option (List ze):=
 (o0 (u64 (a.length:Int))).bind fun b=>(mH a 0 (a.length:Int) b zvQ).bind fun c=>some c
theorem sO(Z b c zvR zIv a zvQ r)(h:jG a zvQ=some r){Ek}(hz:Pz [row (vs b a.length c) 208 2 (a.flatMap wJ)] Ek Z)(j:∀ args w,(callFunc zvR args).run Tryz.prog w = .ok (.enter zvR args) w)(k:∀ w:World,PZ [] w Z->∀(x0:ze) (x1:ze) (r:Int),zvQ x0 x1=some r->Calls Tryz.prog zvR (([.agg #[vi x0.y6,vi x0.fQ],.agg #[vi x1.y6,vi x1.fQ]]:List Value)++zIv).toArray w fun e w'=>e = .returned (vi r)/\Hp [] w w' [])(iA:Ho Ek [row (vs b a.length c) 208 2 (a.flatMap wJ)]):
  Calls Tryz.prog 173 #[vs b a.length c,.func (.func zvR) #[] (zIv).toArray] Ek fun e w'=>e = .returned (.tuple #[])/\(r.length=a.length)/\Hp (fps [row (vs b a.length c) 208 2 (a.flatMap wJ)]) Ek w' [row (vs b r.length c) 208 2 (r.flatMap wJ)]:=by
 unfold jG at h
 refine Nk func173 U iA U<|B1q U<|Lf 6 (wB underlying204)<|Q1n U<|bK h fun f l h=>bK h fun g m h=>D3q U<|Lf 10 (vo underlying3 underlying226)<|Eg call93 hz (fun pz=>ik (Z:=_)  (zew:=(u64 (a.length:Int))) (r:=f) pz  l)<|La U<|Nu (dd:=13) U (Eh call212) (.cons .here .nil) (cc hz (.cons .here .nil) fun w pz ho=>o5 (Z:=_) (zrO:=b) (zrP:=c) (zD3:=zvR) (zPN:=zIv) (za8:=a) (zD1:=0) (zD2:=(a.length:Int)) (zvP:=f) (zrN:=zvQ) (r:=g) pz j k m ho) ?_
 rintro  d
 exact Ew (i:=0) U (u:=(vs b g.length c)) (rJ d.symm)<|WL.nil<|oJ h▸Nj results173 .nil fun w hw=>⟨ui,d.trans U,hw.sub (.cons .here .nil)⟩
def u7(b:List (List zg))(c:Int)(f:(List ze)->Option (List ze)):Nat->(List ze)->Int->Option (List ze)
 | 0,_,_=>none
 | h+1,d,a=>if decide (a<((nth b c).length:Int)) then chk (0<=a/\a<((nth b c).length:Int)) ((mn (⟨(nth (nth b c) a).y6,(nth (nth b c) a).fX,(nth (nth b c) a).fQ⟩:zg)).bind fun g=>(jF d g).bind fun i=>(mn (⟨(nth (nth b c) a).y6,(nth (nth b c) a).fX,(nth (nth b c) a).fQ⟩:zg)).bind fun e=>chk (((d++([e]:List ze)).length:Int)*16<=140737488355328/\((d++([e]:List ze)).length:Int)<=4611686018427387904) (u7 b c f h (d++([e]:List ze)) (i64 (a+1)))) else f d
def u9(b:List (List zg))(c:(List ze)->Option (List ze)):Nat->(List ze)->Int->Option (List ze)
 | 0,_,_=>none
 | e+1,d,a=>if decide (a<b.length) then vC (fun(f:List ze)=>u9 b c e f (i64 (a+1))) fun g=>chk (0<=a/\a<b.length) (vC (fun h=>g h) fun i=>u7 b a i wr d 0) else c d
def cz(a:List (List zg)):Option (List ze):=
 vC (fun(b:List ze)=>(jG b (fun y0 y1=>fg y0 y1)).bind fun c=>some c) fun d=>u9 a d wr ([]:List ze) 0
theorem VP(Z D E d r)(h:cz d=some r){Ek}(hz:PZ [] Ek Z)(K:ZS Z 1 (m8 Z) D E d):
  Calls Tryz.prog 125 #[vs D d.length E] Ek fun e w'=>∃ G:Option Addr,∃ H:Nat,e = .returned (vs G r.length H)/\True/\Hp [] Ek w' [row (vs G r.length H) 208 2 (r.flatMap wJ)]:=by
 unfold cz at h
 refine L3 func125 U U<|B1n U<|B1n U<|jK1 h fun I L h=>Nf (fun j n o=>(I j=some r)) (fun j n o=>[(3,vs n j.length o)]) (fun j n o=>[row (vs n j.length o) 208 2 (j.flatMap wJ)]) ?_ ?_
 ·let A:Value:=(vs D d.length E);let C:Value:=(vi (d.length:Int));refine B1q U<|Lf 9 (wB underlying85)<|Q1n U<|WC.block<|WC.nilRow 208 2<|E6 (fun z c a k m=>(u9 d I z c a=some r)) (fun z c a k m=>[(3,vs k c.length m),(8,A),(9,C),(10,vi a)]) (fun z c a k m=>[row (vs k c.length m) 208 2 (c.flatMap wJ)]) (fun z c a k m=>z) ⟨wr,([]:List ze),0,none,0⟩ h .q (.cons .here .nil) ?_
  rintro(_|ai) c a k m h;·cases h
  rw[u9] at h
  refine B1n U<|Lb<|Lj h (fun M h=>?_)<|fun M h=>?_
  ·refine Ec<|jK1 h fun aj N h=>Nf (fun f t v=>(aj f=some r)) (fun f t v=>[(3,vs t f.length v),(8,A),(9,C),(10,vi a)]) (fun f t v=>[row (vs t f.length v) 208 2 (f.flatMap wJ)]) ?_ ?_
   ·refine WC.block<|Lb<|cK h fun O h=>Le<|L0 (dd:=12) (Z:=Z) (Pr:=(m8 Z)) zgU K O ?_
    rintro am an P ao ⟨Q,R,rfl,S⟩
    refine Lf 13 (w8 zfm U<|vx hz.pv P)<|Q1n U<|B1q U<|Lf 15 (wB underlying84)<|Q1n U<|jK1 h fun J T h=>Dp (fun g x y=>(J g=some r)) (fun g x y=>[(3,vs x g.length y),(8,A),(9,C),(10,vi a)]) (fun g x y=>[row (vs x g.length y) 208 2 (g.flatMap wJ)]) ?_ ?_
    ·refine WC.block<|E6 (fun B b p q s=>(u7 d a J B b p=some r)) (fun B b p q s=>[(3,vs q b.length s),(8,A),(9,C),(10,vi a),(14,vs Q ((nth d a).length) R),(15,vi ((nth d a).length:Int)),(16,vi p)]) (fun B b p q s=>[row (vs q b.length s) 208 2 (b.flatMap wJ)]) (fun B b p q s=>B) ⟨wr,c,0,k,m⟩ h .q (.cons .here .nil) ?_
     rintro(_|ak) b p q s h;·cases h
     rw[u7] at h
     refine B1n U<|Lb<|Lj h (fun V h=>?_)<|fun V h=>?_
     ·refine Ec<|Lb<|WC.block<|Lb<|cK h fun W h=>Le<|L0 (dd:=18) (Z:=Z) (Pr:=(rq mG)) zaL S W ?_
      rintro ap aq X ar rfl
      refine Lf 19 (we z7e (vy hz.pv X)) (Lh 7 (wn (cs:=[vi 0,vi 0,vi 0]) zgV) fun au _=>Ll (wl zfk .here)<|Q0n<|Lb ?_)
      refine bK h fun av Y h=>bK h fun aw aa h=>D1q U<|Lf 21 (we z7e (wh .here))<|Eg call97 hz (tq _ _ _ Y)<|Lm 23 (Eh call172) .nil (kb hz .nil (.cons .h1 .nil) fun w pz ho la=>sN _ _ _ _ _ _ aa pz<|ZA.row (la _ (.head _) _) (RR.flat (enc:=wJ) (fun _=>U) _) ⟨w,pz.1⟩)<|Lf 24 th<|Q0n<|Er (fun h'=>?_)<|fun h'=>(by cases h')
      clear h'
      refine bK h fun F ab h=>cK h fun ad h=>D1q U<|Lf 26 (we z7e (wh .here))<|Eg call97 hz (tq _ _ _ ab) (Lh 28 (wD (cs:=([F]:List ze).flatMap wJ) zcI (Lt (l:=[.tmp 27]) (.cons U .nil) [0]) (fun _=>by kernel_rfl) (by unfold maxLen;omega)) fun ax _=>WL.fA 29 (vb (enc:=wJ) (l1:=b) (l2:=([F]:List ze)) zcI .h2 (fun _=>U) (wY .here) (vm nv _) ad) ?_)
      rintro⟨ae,af⟩ _
      exact La U<|WL.nil<|Lq<|Ld<|D2q U<|WL.nil<|Em ⟨ak,b++([F]:List ze),i64 (p+1),ae,af⟩ h (Nat.lt_succ_self _) .q<|.cons .here .nil
     ·exact En<|Ln<|Ln<|Lu<|Lp ⟨b,q,s⟩ h .q<|.cons .here .nil
    ·rintro g x y h
     replace h:=(T g).symm.trans h
     exact Lq<|Lp ⟨g,x,y⟩ h .q<|.cons .here .nil
   ·rintro f t v h
    replace h:=(N f).symm.trans h
    exact D2q U<|WL.nil<|Em ⟨ai,f,i64 (a+1),t,v⟩ h (Nat.lt_succ_self _) .q<|.cons .here .nil
  ·exact En<|Ln<|Ln<|Lu<|Lp ⟨c,k,m⟩ h (.cons U .nil)<|.cons .here .nil
 ·rintro j n o h
  replace h:=(L j).symm.trans h
  refine Lb<|bK h fun al ag h=>D1q U<|Nu (dd:=33) U (Eh call173) (.cons .here .nil) (cc hz (.cons .here .nil) fun w pz ho=>sO _ _ _ (zvR:=88) (zIv:=[]) _ (zvQ:=(fun y0 y1=>fg y0 y1)) _ ag pz call88 (fun w' nd y0 y1  r  hr=>ij _ _ _ _ hr nd ) ho) ?_
  rintro  ah
  exact Ew (i:=3) U (u:=(vs n al.length o)) (rJ ah.symm)<|Q0n<|B2n U<|El<|oJ h▸Lk results125 (.tmp U .nil) fun w hw=>⟨n,o,wx,trivial,hw.sub (.cons .here .nil)⟩
def o6(a:zg)(b:Int):Option Bool:=
 some (decide (a.fX=b))
theorem VQ(Z b a c r)(h:o6 a c=some r){Ek}(hz:PZ [] Ek Z)(d:ZC Z b [vi c]):
  RC 174 #[.agg #[vi a.y6,vi a.fX,vi a.fQ],vq b] Ek (.bool r) [] []:=by
 unfold o6 at h
 refine Lz func174 U U<|Lb<|Le (Lh 2 (wu (cs:=[vi a.y6,vi a.fX,vi a.fQ])) fun e _=>Q1n U<|B0q<|Lf 4 (w7 fy)<|Lf 5 (Ei wm .here)<|Lf 6 (w8 wm U<|vx hz.pv d)<|Q2n U<|El ?_)
 exact oJ h▸Ea results174
def q9(b:List zg)(zcN:zg->Option Bool)(c:Option Int):Nat->Int->Option Int
 | 0,_=>none
 | d+1,a=>if decide (a<b.length) then chk (0<=a/\a<b.length) ((zcN (⟨(nth b a).y6,(nth b a).fX,(nth b a).fQ⟩:zg)).bind fun e=>if e then some a else q9 b zcN c d (i64 (a+1))) else c
def vO(a:List zg)(zcN:zg->Option Bool):Option Int:=
 uo (some (-1)) fun b=>q9 a zcN b wr 0
theorem j6(Z d g zh3 znY b zcN r)(h:vO b zcN=some r){Ek}(hz:PZ [] Ek Z)(j:ZS Z 3 (rq mG) d g b)(k:∀ args w,(callFunc zh3 args).run Tryz.prog w = .ok (.enter zh3 args) w)(m:∀ w:World,PZ [] w Z->∀(x0:zg) (r:Bool),zcN x0=some r->Calls Tryz.prog zh3 (([.agg #[vi x0.y6,vi x0.fX,vi x0.fQ]]:List Value)++znY).toArray w fun e w'=>e = .returned (.bool r)/\Hp [] w w' []):
  RC 137 #[vs d b.length g,.func (.func zh3) #[] (znY).toArray] Ek (vi r) [] []:=by
 unfold vO at h
 refine Lz func137 U U<|B1n U<|jK0 h fun i n h=>Nh (i=some r) ([]) ([]) ?_ ?_
 ·refine B1q U<|Lf 7 (wB underlying84)<|Q1n U<|WC.block<|Ni (fun c a=>(q9 b zcN i c a=some r)) (fun c a=>[(0,vs d b.length g),(1,.func (.func zh3) #[] (znY).toArray),(7,vi (b.length:Int)),(8,vi a)]) (fun c a=>[]) (fun c a=>c) ⟨wr,0⟩ h .q .nil ?_
  rintro(_|u) a h;·cases h
  rw[q9] at h
  refine B1n U<|Lb<|Lj h (fun o h=>?_)<|fun o h=>?_
  ·refine Ec<|Lb<|WC.block<|B2n U<|Lb<|cK h fun p h=>bK h fun v q h=>D3q U<|L0 (dd:=14) (Z:=Z) (Pr:=(rq mG)) zaL j p ?_
   rintro x y s z rfl
   refine Lf 15 (we z7e (vy hz.pv s))<|Lm 16 (wV (l:=[.tmp 15]) (f:=zh3) (caps:=znY) k<|.cons U .nil) .nil (fun w hw=>m w (hz.now hw) (⟨(nth b a).y6,(nth b a).fX,(nth b a).fQ⟩:zg) v  q)<|Q0n<|Lj h (fun t h=>?_)<|fun t h=>?_
   ·exact B2n U<|El<|Nc<|L4<|L4<|Nc<|L4<|oJ h▸Ea results137
   ·exact Ep<|Lq<|Ld<|D2q U<|WL.nil<|Em ⟨u,i64 (a+1)⟩ h (Nat.lt_succ_self _) .q .nil
  ·exact En<|Ln<|Ln<|Lu<|Lp () h .nil .nil
 ·rintro  h
  replace h:=n.symm.trans h
  exact B1n U<|El<|oJ h▸Ea results137
def pD(b:List zg)(c:Int):Option (zg×Bool):=
 (vO b (fun(y0:zg)=>o6 y0 c)).bind fun a=>if decide (a<0) then some ((⟨0,0,0⟩:zg),false) else chk (0<=a/\a<b.length) (some ((⟨(nth b a).y6,(nth b a).fX,(nth b a).fQ⟩:zg),true))
theorem dz(Z c d b a r)(h:pD b a=some r){Ek}(hz:PZ [] Ek Z)(e:ZS Z 3 (rq mG) c d b):
  RC 129 #[vs c b.length d,vi a] Ek (.tuple #[.agg #[vi r.1.y6,vi r.1.fX,vi r.1.fQ],.bool r.2]) [] []:=by
 unfold pD at h
 refine Lz func129 U U<|Lb<|Le (Lh 3 (wu (cs:=[vi a])) fun f _=>Lh 4 (wn (cs:=[vi 0,vi 0,vi 0]) zgV) fun m _=>Q1n U<|Lb ?_)
 refine bK h fun q g h=>D1q U<|Lf 8 (wO<|L6 (l:=[.tmp 3])<|.cons U .nil)<|Lm 9 (Eh call137) .nil (kb hz .nil (.cons .h1 .nil) fun w pz ho la=>j6 _ _ _ (zh3:=174) (znY:=[vp f]) _ (zcN:=(fun(y0:zg)=>o6 y0 a)) _ g pz (e.mono<|zl) call174<|fun w' nd y0  r  hr=>VQ _ _ _ _ _ hr nd<|(la _ (.head _) _).stb)<|Q1n U<|Lb<|B2n U<|Lj h (fun i h=>?_)<|fun i h=>?_
 ·exact B0q<|Lf 12 (wN (v:=(.agg #[vi 0,vi 0,vi 0])) (Lt (l:=[]) .nil []) (fun _=>by kernel_rfl))<|Ll (wl zfk .here)<|Q1n U<|El<|L4<|oJ h▸Eb results129 (.agg U z7e U (wh .here)<|.tmp U .nil) .nil
 ·refine Ec<|Lb<|cK h fun j h=>D2q U<|L0 (dd:=15) (Z:=Z) (Pr:=(rq mG)) zaL e j ?_
  rintro n o k p rfl
  exact Lf 16 (we z7e (vy hz.pv k))<|Ll (wl zfk .here)<|Q1n U<|El<|oJ h▸Eb results129 (.agg U z7e U (wh .here)<|.tmp U .nil) .nil
end Go.Proofs.YtaefhckdgfpeaaaGreat
