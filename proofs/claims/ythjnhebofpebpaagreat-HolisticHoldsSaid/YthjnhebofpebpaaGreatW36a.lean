/- A part of this claim's proof: models of functions, walks, plain laws. No conditions. -/
import Derived.Test.YthjnhebofpebpaaGreatZMem
import Derived.Test.YthjnhebofpebpaaGreatZObj
import Derived.Test.YthjnhebofpebpaaGreatShelf36
import Derived.Test.YthjnhebofpebpaaGreatProg
set_option linter.all false
namespace Go.Proofs.YthjnhebofpebpaaGreat
open Go Go.RowKit Sep Tryz
set_option maxRecDepth 30000
set_option maxHeartbeats 4000000
abbrev RC (f:FuncId)(vs:Array Value)(Ny:World)(v:Value)(F:List Nat)(L:List Asrt):Prop:=Calls Tryz.prog f vs Ny fun e w'=>e=.returned v/\Hp F Ny w' L
abbrev RF (f:FuncId)(vs:Array Value)(Ny:World)(v:Value)(M L:List Asrt):Prop:=Calls Tryz.prog f vs Ny fun e w'=>e=.returned v/\Hp (fps M) Ny w' L
abbrev Pz (M:List Asrt)(Ny:World)(Z:Zp):Prop:=PZ (fps M) Ny Z
abbrev Ho (Ny:World)(M:List Asrt):Prop:=Hp (fps M) Ny Ny M

structure xa where
 yB:ByteArray
 xu:Int
 fOut:Bool
 yo:Int
 xy:Int
 xn:Int
 deriving Inhabited,DecidableEq
structure xc where
 fOp:Int
 fA:Int
 fB:Int
 fC:Int
 deriving Inhabited,DecidableEq
structure yY where
 yB:ByteArray
 xA:Int
 xd:Int
 xw:Int
 xe:List xc
 deriving Inhabited,DecidableEq
structure yZ where
 yB:ByteArray
 xd:Int
 xp:Int
 xl:Int
 xf:List Int
 xq:Int
 xr:Int
 xk:List Int
 fP:List xa
 xi:List yY
 deriving Inhabited,DecidableEq
structure yH where
 yB:ByteArray
 xl:Int
 xx:Int
 xg:List yZ
 deriving Inhabited,DecidableEq
structure yG where
 yA:ByteArray
 yF:ByteArray
 yI:ByteArray
 deriving Inhabited,DecidableEq
structure yS where
 yq:yG
 yN:List yG
 deriving Inhabited,DecidableEq
structure yw where
 yB:ByteArray
 yV:Int
 yl:Int
 fT:Int
 deriving Inhabited,DecidableEq
structure yL where
 fA:ByteArray
 fB:ByteArray
 yV:Int
 yp:Int
 deriving Inhabited,DecidableEq
structure yy where
 yB:ByteArray
 yq:yG
 yD:Int
 yz:Int
 yN:List yG
 deriving Inhabited,DecidableEq
structure yW where
 yA:ByteArray
 yF:ByteArray
 xm:Int
 xo:Int
 fDo:Int
 deriving Inhabited,DecidableEq
structure yX where
 xv:ByteArray
 xe:Int
 deriving Inhabited,DecidableEq
structure yU where
 xv:ByteArray
 xh:List yX
 xj:List ByteArray
 deriving Inhabited,DecidableEq
structure yT where
 fA:ByteArray
 fVA:Int
 fB:ByteArray
 fVB:Int
 deriving Inhabited,DecidableEq
structure zy where
 fM:List yH
 ye:List yS
 fS:List yw
 fK:List yL
 yb:List yy
 fH:List yW
 fU:List yU
 yf:List yT
 deriving Inhabited,DecidableEq
def e3(x:Int):List Value:=[vi x]
theorem Ul:∀ x,∀ u∈e3 x,u.oneCell'=true:=fun _=>sV
def QU(x:xa):List Value:=[.string x.yB,.int .u8 x.xu,.bool x.fOut,vi x.yo,vi x.xy,vi x.xn]
def QV(x:xc):List Value:=[.int .u8 x.fOp,vi x.fA,vi x.fB,vi x.fC]
def WZ(Z:Zp)(r:List Value)(x:yY):Prop:=∃(lm:Option Addr) (iQ:Nat),r=[.string x.yB,vi x.xA,vi x.xd,vi x.xw,vs lm x.xe.length iQ]/\ZS Z 4 (rq QV) lm iQ x.xe
theorem Fl{Z Z'}(k:xF Z Z'){r x}(h:WZ Z r x):WZ Z' r x:=by
 obtain⟨lm,iQ,hr,h0⟩:=h
 exact⟨lm,iQ,hr,h0.mono k⟩
def V0(Z:Zp)(r:List Value)(x:yZ):Prop:=∃(lm:Option Addr) (iQ:Nat) (Bs:Option Addr) (zs:Nat) (CA:Option Addr) (Ah:Nat) (CB:Option Addr) (Ai:Nat),r=[.string x.yB,vi x.xd,vi x.xp,vi x.xl,vs lm x.xf.length iQ,vi x.xq,vi x.xr,vs Bs x.xk.length zs,vs CA x.fP.length Ah,vs CB x.xi.length Ai]/\ZS Z 1 (rq e3) lm iQ x.xf/\ZS Z 1 (rq e3) Bs zs x.xk/\ZS Z 6 (rq QU) CA Ah x.fP/\ZS Z 5 (WZ Z) CB Ai x.xi
theorem Fm{Z Z'}(k:xF Z Z'){r x}(h:V0 Z r x):V0 Z' r x:=by
 obtain⟨lm,iQ,Bs,zs,CA,Ah,CB,Ai,hr,h0,h1,h2,h3⟩:=h
 exact⟨lm,iQ,Bs,zs,CA,Ah,CB,Ai,hr,h0.mono k,h1.mono k,h2.mono k,(h3.mono k).weak (fun _ _ h=>Fl k h)⟩
def kB(Z:Zp)(r:List Value)(x:yH):Prop:=∃(lm:Option Addr) (iQ:Nat),r=[.string x.yB,vi x.xl,vi x.xx,vs lm x.xg.length iQ]/\ZS Z 10 (V0 Z) lm iQ x.xg
theorem vc{Z Z'}(k:xF Z Z'){r x}(h:kB Z r x):kB Z' r x:=by
 obtain⟨lm,iQ,hr,h0⟩:=h
 exact⟨lm,iQ,hr,(h0.mono k).weak (fun _ _ h=>Fm k h)⟩
def dJ(x:yG):List Value:=[.string x.yA,.string x.yF,.string x.yI]
def g8(Z:Zp)(r:List Value)(x:yS):Prop:=∃(lm:Option Addr) (iQ:Nat),r=[.string x.yq.yA,.string x.yq.yF,.string x.yq.yI,vs lm x.yN.length iQ]/\ZS Z 3 (rq dJ) lm iQ x.yN
theorem vA{Z Z'}(k:xF Z Z'){r x}(h:g8 Z r x):g8 Z' r x:=by
 obtain⟨lm,iQ,hr,h0⟩:=h
 exact⟨lm,iQ,hr,h0.mono k⟩
def kr(x:yw):List Value:=[.string x.yB,vi x.yV,vi x.yl,vi x.fT]
theorem Tn:∀ x,∀ u∈kr x,u.oneCell'=true:=fun _=>sV
def gH(x:yL):List Value:=[.string x.fA,.string x.fB,vi x.yV,vi x.yp]
def g7(Z:Zp)(r:List Value)(x:yy):Prop:=∃(lm:Option Addr) (iQ:Nat),r=[.string x.yB,.string x.yq.yA,.string x.yq.yF,.string x.yq.yI,vi x.yD,vi x.yz,vs lm x.yN.length iQ]/\ZS Z 3 (rq dJ) lm iQ x.yN
theorem ve{Z Z'}(k:xF Z Z'){r x}(h:g7 Z r x):g7 Z' r x:=by
 obtain⟨lm,iQ,hr,h0⟩:=h
 exact⟨lm,iQ,hr,h0.mono k⟩
def gf(x:yW):List Value:=[.string x.yA,.string x.yF,.int .u8 x.xm,.int .u8 x.xo,.int .u8 x.fDo]
def QW(x:yX):List Value:=[.string x.xv,vi x.xe]
def e9(x:ByteArray):List Value:=[.string x]
def g9(Z:Zp)(r:List Value)(x:yU):Prop:=∃(lm:Option Addr) (iQ:Nat) (Bs:Option Addr) (zs:Nat),r=[.string x.xv,vs lm x.xh.length iQ,vs Bs x.xj.length zs]/\ZS Z 2 (rq QW) lm iQ x.xh/\ZS Z 1 (rq e9) Bs zs x.xj
theorem vB{Z Z'}(k:xF Z Z'){r x}(h:g9 Z r x):g9 Z' r x:=by
 obtain⟨lm,iQ,Bs,zs,hr,h0,h1⟩:=h
 exact⟨lm,iQ,Bs,zs,hr,h0.mono k,h1.mono k⟩
def gg(x:yT):List Value:=[.string x.fA,vi x.fVA,.string x.fB,vi x.fVB]
structure zd where
 ya:Int
 fX:Int
 fQ:Int
 deriving Inhabited,DecidableEq
def mQ(x:zd):List Value:=[vi x.ya,vi x.fX,vi x.fQ]
def fm(Z:Zp)(r:List Value)(x:List zd):Prop:=∃(lm:Option Addr) (iQ:Nat),r=[vs lm x.length iQ]/\ZS Z 3 (rq mQ) lm iQ x
theorem qe{Z Z'}(k:xF Z Z'){r x}(h:fm Z r x):fm Z' r x:=by
 obtain⟨lm,iQ,hr,h0⟩:=h
 exact⟨lm,iQ,hr,h0.mono k⟩
structure z6 where
 ya:Int
 fQ:Int
 deriving Inhabited,DecidableEq
structure ys where
 ya:Int
 fQ:Int
 yl:Int
 fT:Int
 deriving Inhabited,DecidableEq
structure zw where
 yt:Int
 ya:Int
 yl:Int
 deriving Inhabited,DecidableEq
structure yM where
 fP:List ys
 yx:List zw
 deriving Inhabited,DecidableEq
structure yR where
 a0:Int
 a1:Int
 deriving Inhabited,DecidableEq
structure yh where
 yd:Int
 ya:Int
 yc:Int
 deriving Inhabited,DecidableEq
structure yK where
 yc:Int
 yt:Int
 yo:Int
 deriving Inhabited,DecidableEq
def wd(x:z6):List Value:=[vi x.ya,vi x.fQ]
theorem dK:∀ x,∀ u∈wd x,u.oneCell'=true:=fun _=>sV
def jU(x:ys):List Value:=[vi x.ya,vi x.fQ,vi x.yl,vi x.fT]
theorem W6:∀ x,∀ u∈jU x,u.oneCell'=true:=fun _=>sV
structure ym where
 yP:Int
 xt:z6
 deriving Inhabited,DecidableEq
def jQ(x:ym):List Value:=[vi x.yP,vi x.xt.ya,vi x.xt.fQ]
structure z2 where
 fN:Int
 fD:Int
 deriving Inhabited,DecidableEq
def w4(x:z2):List Value:=[vi x.fN,vi x.fD]
theorem Yt:∀ x,∀ u∈w4 x,u.oneCell'=true:=fun _=>sV
structure z8 where
 yi:z2
 fR:z2
 deriving Inhabited,DecidableEq
def qw(x:z8):List Value:=[vi x.yi.fN,vi x.yi.fD,vi x.fR.fN,vi x.fR.fD]
theorem KP:∀ x,∀ u∈qw x,u.oneCell'=true:=fun _=>sV
def jW(Z:Zp)(r:List Value)(x:List z8):Prop:=∃(lm:Option Addr) (iQ:Nat),r=[vs lm x.length iQ]/\ZS Z 4 (rq qw) lm iQ x
theorem gq{Z Z'}(k:xF Z Z'){r x}(h:jW Z r x):jW Z' r x:=by
 obtain⟨lm,iQ,hr,h0⟩:=h
 exact⟨lm,iQ,hr,h0.mono k⟩
theorem UA{Z r x}(h:jW Z r x):∀ u∈r,u.oneCell'=true:=by
 obtain⟨lm,iQ,hr,h0⟩:=h
 rw[hr];exact sV
structure yv where
 fR:z2
 fL:z2
 deriving Inhabited,DecidableEq
structure yu where
 fE:Int
 deriving Inhabited,DecidableEq
structure yr where
 yc:Int
 yJ:Int
 yP:Int
 yd:Int
 yg:zd
 deriving Inhabited,DecidableEq
structure xz where
 yp:Int
 yl:Int
 fT:Int
 deriving Inhabited,DecidableEq
structure yj where
 yo:Int
 yO:Int
 deriving Inhabited,DecidableEq
structure yC where
 yk:xz
 yQ:Int
 yE:Int
 yn:List yj
 deriving Inhabited,DecidableEq
def e41(x:Int):List Value:=[vi x]
def fI(x:zw):List Value:=[vi x.yt,vi x.ya,vi x.yl]
theorem QX:∀ x,∀ u∈fI x,u.oneCell'=true:=fun _=>sV
def qF(x:z6):List Value:=[vi x.ya,vi x.fQ]
def tq(Z:Zp)(r:List Value)(x:Int->Option Int):Prop:=∃(Bk:FuncId) (Be:List Value),r=[.func (.func Bk) #[] (Be).toArray]/\(∀ args w,(callFunc Bk args).run Tryz.prog w = .ok (.enter Bk args) w)/\∀ w:World,PZ [] w Z->∀(x0:Int) (r:Int),x x0=some r->Calls Tryz.prog Bk (([vi x0]:List Value)++Be).toArray w fun e w'=>e = .returned (vi r)/\Hp [] w w' []
theorem tG{Z Z'}(k:xF Z Z'){r x}(h:tq Z r x):tq Z' r x:=by
 obtain⟨Bk,Be,h1,h2,h3⟩:=h
 exact⟨Bk,Be,h1,h2,fun w hw=>h3 w (hw.le k)⟩
def aL(Z:Zp)(r:List Value)(x:List Int):Prop:=∃(lm:Option Addr) (iQ:Nat),r=[vs lm x.length iQ]/\ZS Z 1 (rq e3) lm iQ x
theorem QY{Z Z'}(k:xF Z Z'){r x}(h:aL Z r x):aL Z' r x:=by
 obtain⟨lm,iQ,hr,h0⟩:=h
 exact⟨lm,iQ,hr,h0.mono k⟩
def YW(x:yR):List Value:=[vi x.a0,vi x.a1]
def tH(x:yK):List Value:=[vi x.yc,vi x.yt,vi x.yo]
theorem To:∀ x,∀ u∈tH x,u.oneCell'=true:=fun _=>sV
def gr(x:z6):List Value:=[vi x.ya,vi x.fQ]
def gt(x:yj):List Value:=[vi x.yo,vi x.yO]
theorem KQ:∀ x,∀ u∈gt x,u.oneCell'=true:=fun _=>sV
def z2U(g:Nat×(Option Addr×Nat))(x:yC):List Asrt:=[stb g.1 253 [vi x.yk.yp,vi x.yk.yl,vi x.yk.fT,vi x.yQ,vi x.yE,vs g.2.1 x.yn.length g.2.2],row (vs g.2.1 x.yn.length g.2.2) 256 2 (x.yn.flatMap gt)]
def wI(x:yr):List Value:=[vi x.yc,vi x.yJ,vi x.yP,vi x.yd,vi x.yg.ya,vi x.yg.fX,vi x.yg.fQ]
theorem UB:∀ x,∀ u∈wI x,u.oneCell'=true:=fun _=>sV
def wm(x:yh):List Value:=[vi x.yd,vi x.ya,vi x.yc]
theorem QZ:∀ x,∀ u∈wm x,u.oneCell'=true:=fun _=>sV
def e5(x:Int):List Value:=[.int .u8 x]
def V3(x:Int):List Value:=[.int .u16 x]
theorem z2A:uI Tryz.prog 31 8:=gI (i:=Tryz.t31) underlying31 rfl rfl
theorem uR:w9 Tryz.prog 31 0 0:=xX (i:=Tryz.t22) underlying31 rfl rfl rfl
theorem za6:gQ Tryz.prog 22:=qQ underlying22
theorem uS:w9 Tryz.prog 31 2 2:=xX (i:=Tryz.t24) underlying31 rfl rfl rfl
theorem zb4:gQ Tryz.prog 24:=qQ underlying24
theorem rI:w9 Tryz.prog 31 3 3:=xX (i:=Tryz.t25) underlying31 rfl rfl rfl
theorem zdP:gQ Tryz.prog 25:=qQ underlying25
theorem mW:w9 Tryz.prog 31 4 4:=xX (i:=Tryz.t26) underlying31 rfl rfl rfl
theorem z8E:gQ Tryz.prog 26:=qQ underlying26
theorem zc4:elT Tryz.prog 32 58 1 24:=⟨underlying32,⟨Tryz.t58,_,rfl,rfl,rfl,rfl,rfl⟩,by decide⟩
theorem zb5:gQ Tryz.prog 58:=qQ underlying58
theorem zxK:qz Tryz.prog 31 (.agg #[vn,vn,vn,vn,vn,vn,vn,vn]):=qb (i:=Tryz.t31) rfl rfl
theorem zM0:elT Tryz.prog 22 126 4 56:=⟨underlying22,⟨Tryz.t126,_,rfl,rfl,rfl,rfl,rfl⟩,by decide⟩
theorem zc5:elT Tryz.prog 24 64 4 40:=⟨underlying24,⟨Tryz.t64,_,rfl,rfl,rfl,rfl,rfl⟩,by decide⟩
theorem zj3:elT Tryz.prog 25 62 4 48:=⟨underlying25,⟨Tryz.t62,_,rfl,rfl,rfl,rfl,rfl⟩,by decide⟩
theorem zdQ:elT Tryz.prog 26 69 7 104:=⟨underlying26,⟨Tryz.t69,_,rfl,rfl,rfl,rfl,rfl⟩,by decide⟩
theorem zxL:kU Tryz.prog 31 8:=qj (i:=Tryz.t31) rfl
theorem z7O:elT Tryz.prog 58 60 3 24:=⟨underlying58,⟨Tryz.t60,_,rfl,rfl,rfl,rfl,rfl⟩,by decide⟩
theorem zj4:qz Tryz.prog 40 (.agg #[vn,vn]):=qb (i:=Tryz.t40) rfl rfl
theorem xL:gQ Tryz.prog 3:=qQ underlying3
theorem z5e:uI Tryz.prog 60 3:=gI (i:=Tryz.t60) underlying60 rfl rfl
theorem zdR:qz Tryz.prog 60 (.agg #[vi 0,vi 0,vi 0]):=qb (i:=Tryz.t60) rfl rfl
theorem zc6:kU Tryz.prog 60 3:=qj (i:=Tryz.t60) rfl
theorem kC:w9 Tryz.prog 60 0 0:=xX (i:=Tryz.t3) underlying60 rfl rfl rfl
theorem jc:qz Tryz.prog 3 (vi 0):=qb (i:=Tryz.t3) rfl rfl
theorem gP:KeyT Tryz.prog 3 vI:=Mv underlying3
theorem mH:w9 Tryz.prog 60 1 1:=xX (i:=Tryz.t3) underlying60 rfl rfl rfl
theorem sr:w9 Tryz.prog 60 2 2:=xX (i:=Tryz.t3) underlying60 rfl rfl rfl
theorem zX8:uI Tryz.prog 62 4:=gI (i:=Tryz.t62) underlying62 rfl rfl
theorem zX9:qz Tryz.prog 62 (.agg #[.string ⟨#[]⟩,.string ⟨#[]⟩,vi 0,vi 0]):=qb (i:=Tryz.t62) rfl rfl
theorem zXa:kU Tryz.prog 62 4:=qj (i:=Tryz.t62) rfl
theorem UC:w9 Tryz.prog 62 0 0:=xX (i:=Tryz.t9) underlying62 rfl rfl rfl
theorem W7:gQ Tryz.prog 9:=qQ underlying9
theorem MB:w9 Tryz.prog 126 0 0:=xX (i:=Tryz.t9) underlying126 rfl rfl rfl
theorem UD:w9 Tryz.prog 64 0 0:=xX (i:=Tryz.t9) underlying64 rfl rfl rfl
theorem UE:w9 Tryz.prog 62 1 1:=xX (i:=Tryz.t9) underlying62 rfl rfl rfl
theorem UF:w9 Tryz.prog 62 2 2:=xX (i:=Tryz.t3) underlying62 rfl rfl rfl
theorem oD:w9 Tryz.prog 62 3 3:=xX (i:=Tryz.t3) underlying62 rfl rfl rfl
theorem zXb:uI Tryz.prog 64 4:=gI (i:=Tryz.t64) underlying64 rfl rfl
theorem zXc:qz Tryz.prog 64 (.agg #[.string ⟨#[]⟩,vi 0,vi 0,vi 0]):=qb (i:=Tryz.t64) rfl rfl
theorem zXd:kU Tryz.prog 64 4:=qj (i:=Tryz.t64) rfl
theorem UG:w9 Tryz.prog 64 1 1:=xX (i:=Tryz.t3) underlying64 rfl rfl rfl
theorem dL:w9 Tryz.prog 64 2 2:=xX (i:=Tryz.t3) underlying64 rfl rfl rfl
theorem dM:w9 Tryz.prog 64 3 3:=xX (i:=Tryz.t3) underlying64 rfl rfl rfl
theorem ztO:qz Tryz.prog 121 (.agg #[vi 0,vi 0]):=qb (i:=Tryz.t121) rfl rfl
theorem zxM:kU Tryz.prog 121 2:=qj (i:=Tryz.t121) rfl
theorem z71:uI Tryz.prog 121 2:=gI (i:=Tryz.t121) underlying121 rfl rfl
theorem z9r:elT Tryz.prog 112 121 2 16:=⟨underlying112,⟨Tryz.t121,_,rfl,rfl,rfl,rfl,rfl⟩,by decide⟩
theorem zxN:EqT Tryz.prog 121 wd:=⟨fun u v w=>by
 have c:=fun(w:World) (a b:Array Value)=>run_equalIn_agg (P:=Tryz.prog) w 9999 121 a b (by simp[Program.fieldsOf,underlying121]) (by kernel_rfl)
 have d:=fun(w:World) (a b:Int)=>run_equalIn_int (P:=Tryz.prog) w 9998 3 .i64 .i64 a b underlying3
 rw[c]
 simp[Program.fieldsOf,Op.eqFields,part,wd,c,underlying121,d]
 rcases u with⟨u1,u2⟩
 rcases v with⟨v1,v2⟩
 by_cases h1:u1=v1 <;> by_cases h2:u2=v2 <;> simp[h1,h2],by kernel_rfl⟩
theorem lM:w9 Tryz.prog 121 0 0:=xX (i:=Tryz.t3) underlying121 rfl rfl rfl
theorem cP:w9 Tryz.prog 121 1 1:=xX (i:=Tryz.t3) underlying121 rfl rfl rfl
theorem z5U:elT Tryz.prog 50 3 1 8:=⟨underlying50,⟨Tryz.t3,_,rfl,rfl,rfl,rfl,rfl⟩,by decide⟩
theorem zXe:qz Tryz.prog 117 (.map none):=qb (i:=Tryz.t117) rfl rfl
theorem zXf:kU Tryz.prog 117 1:=qj (i:=Tryz.t117) rfl
theorem ztP:gQ Tryz.prog 117:=qQ underlying117
theorem zj5:KeyT Tryz.prog 121 (ga wd):=cO underlying121 (fun _ _=>rfl) (fun b k w=>by
 have c:=fun(w:World) (a:Int)=>MapKept.run_checkKey (P:=Tryz.prog) (w:=w) (kt:=3) (k:=.int .i64 a) underlying3 (by simp[MapKept.IsKey]) b 9998
 have ck:∀(w:World) (u0:Int) (u1:Int),(Instr.checkKey b 10000 121 (.agg #[.int .i64 u0,.int .i64 u1])).run Tryz.prog w = .ok () w:=fun w u0 u1=>by
  rw[show(10000:Nat)=9999+1 from U,Instr.checkKey]
  simp[run_underlying underlying121,c,part]
 exact ck w k.ya k.fQ)
 (fun u v w=>zxN.eq u v w)
 (fun k=>by simp[Instr.sameBits,wd])
theorem z8F:elT Tryz.prog 33 37 4 32:=⟨underlying33,⟨Tryz.t37,_,rfl,rfl,rfl,rfl,rfl⟩,by decide⟩
theorem z9s:kU Tryz.prog 40 2:=qj (i:=Tryz.t40) rfl
theorem z9t:uI Tryz.prog 40 2:=gI (i:=Tryz.t40) underlying40 rfl rfl
theorem Yu:w9 Tryz.prog 69 2 4:=xX (i:=Tryz.t3) underlying69 rfl rfl rfl
theorem rJ:w9 Tryz.prog 69 3 5:=xX (i:=Tryz.t3) underlying69 rfl rfl rfl
theorem zCN:uI Tryz.prog 69 7:=gI (i:=Tryz.t69) underlying69 rfl rfl
theorem mX:w9 Tryz.prog 40 0 0:=xX (i:=Tryz.t33) underlying40 rfl rfl rfl
theorem z8G:gQ Tryz.prog 33:=qQ underlying33
theorem zlY:qz Tryz.prog 37 (.agg #[vi 0,vi 0,vi 0,vi 0]):=qb (i:=Tryz.t37) rfl rfl
theorem MC:w9 Tryz.prog 119 1 8:=xX (i:=Tryz.t32) underlying119 rfl rfl rfl
theorem zM2:gQ Tryz.prog 32:=qQ underlying32
theorem sa:w9 Tryz.prog 119 0 0:=xX (i:=Tryz.t31) underlying119 rfl rfl rfl
theorem z1F:qz Tryz.prog 175 (.agg #[vi 0,vi 0]):=qb (i:=Tryz.t175) rfl rfl
theorem z16:kU Tryz.prog 175 2:=qj (i:=Tryz.t175) rfl
theorem zg:uI Tryz.prog 175 2:=gI (i:=Tryz.t175) underlying175 rfl rfl
theorem Xn:w9 Tryz.prog 119 2 9:=xX (i:=Tryz.t116) underlying119 rfl rfl rfl
theorem zCO:gQ Tryz.prog 116:=qQ underlying116
theorem zXg:EqT Tryz.prog 223 jQ:=⟨fun u v w=>by
 have c:=fun(w:World) (a b:Array Value)=>run_equalIn_agg (P:=Tryz.prog) w 9999 223 a b (by simp[Program.fieldsOf,underlying223]) (by kernel_rfl)
 have d:=fun(w:World) (a b:Int)=>run_equalIn_int (P:=Tryz.prog) w 9998 3 .i64 .i64 a b underlying3
 have e:=fun(w:World) (a b:Array Value)=>run_equalIn_agg (P:=Tryz.prog) w 9998 121 a b (by simp[Program.fieldsOf,underlying121]) (by kernel_rfl)
 have f:=fun(w:World) (a b:Int)=>run_equalIn_int (P:=Tryz.prog) w 9997 3 .i64 .i64 a b underlying3
 rw[c]
 simp[Program.fieldsOf,Op.eqFields,part,jQ,c,underlying223,d,e,underlying121,f]
 rcases u with⟨u1,⟨u2,u3⟩⟩
 rcases v with⟨v1,⟨v2,v3⟩⟩
 by_cases h1:u1=v1 <;> by_cases h2:u2=v2 <;> by_cases h3:u3=v3 <;> simp[h1,h2,h3],by kernel_rfl⟩
theorem zCQ:KeyT Tryz.prog 223 (ga jQ):=cO underlying223 (fun _ _=>rfl) (fun b k w=>by
 have c:=fun(w:World) (a:Int)=>MapKept.run_checkKey (P:=Tryz.prog) (w:=w) (kt:=3) (k:=.int .i64 a) underlying3 (by simp[MapKept.IsKey]) b 9998
 have d:=fun(w:World) (a:Int)=>MapKept.run_checkKey (P:=Tryz.prog) (w:=w) (kt:=3) (k:=.int .i64 a) underlying3 (by simp[MapKept.IsKey]) b 9997
 have e:∀(w:World) (u0:Int) (u1:Int),(Instr.checkKey b 9999 121 (.agg #[.int .i64 u0,.int .i64 u1])).run Tryz.prog w = .ok () w:=fun w u0 u1=>by
  rw[show(9999:Nat)=9998+1 from U,Instr.checkKey]
  simp[run_underlying underlying121,d,part]
 have ck:∀(w:World) (u0:Int) (u1:Int) (u2:Int),(Instr.checkKey b 10000 223 (.agg #[.int .i64 u0,.int .i64 u1,.int .i64 u2])).run Tryz.prog w = .ok () w:=fun w u0 u1 u2=>by
  rw[show(10000:Nat)=9999+1 from U,Instr.checkKey]
  simp[run_underlying underlying223,c,e,part]
 exact ck w k.yP k.xt.ya k.xt.fQ)
 (fun u v w=>zXg.eq u v w)
 (fun k=>by simp[Instr.sameBits,jQ])
theorem jI:w9 Tryz.prog 175 0 0:=xX (i:=Tryz.t3) underlying175 rfl rfl rfl
theorem px:kU Tryz.prog 3 1:=qj (i:=Tryz.t3) rfl
theorem Xo:w9 Tryz.prog 119 3 10:=xX (i:=Tryz.t117) underlying119 rfl rfl rfl
theorem kD:w9 Tryz.prog 175 1 1:=xX (i:=Tryz.t3) underlying175 rfl rfl rfl
theorem fJ:KeyT Tryz.prog 9 Value.string:=Mu underlying9
theorem zxO:qz Tryz.prog 303 .nilFunc:=qb (i:=Tryz.t303) rfl rfl
theorem lN:w9 Tryz.prog 119 4 11:=xX (i:=Tryz.t41) underlying119 rfl rfl rfl
theorem z6q:gQ Tryz.prog 41:=qQ underlying41
theorem ztQ:kU Tryz.prog 41 1:=qj (i:=Tryz.t41) rfl
theorem zCR:qz Tryz.prog 50 vn:=qb (i:=Tryz.t50) rfl rfl
theorem za8:elT Tryz.prog 227 225 4 32:=⟨underlying227,⟨Tryz.t225,_,rfl,rfl,rfl,rfl,rfl⟩,by decide⟩
theorem zfH:elT Tryz.prog 171 227 1 24:=⟨underlying171,⟨Tryz.t227,_,rfl,rfl,rfl,rfl,rfl⟩,by decide⟩
theorem zfI:qz Tryz.prog 225 (.agg #[vi 0,vi 0,vi 0,vi 0]):=qb (i:=Tryz.t225) rfl rfl
theorem zdS:kU Tryz.prog 225 4:=qj (i:=Tryz.t225) rfl
theorem uw:w9 Tryz.prog 225 0 0:=xX (i:=Tryz.t175) underlying225 rfl rfl rfl
theorem sd:w9 Tryz.prog 225 1 2:=xX (i:=Tryz.t175) underlying225 rfl rfl rfl
theorem z4k:uI Tryz.prog 225 4:=gI (i:=Tryz.t225) underlying225 rfl rfl
theorem zXk:qz Tryz.prog 178 (.agg #[vi 0,vi 0,vi 0,vi 0]):=qb (i:=Tryz.t178) rfl rfl
theorem zXl:kU Tryz.prog 178 4:=qj (i:=Tryz.t178) rfl
theorem ztR:uI Tryz.prog 178 4:=gI (i:=Tryz.t178) underlying178 rfl rfl
theorem zj6:gQ Tryz.prog 171:=qQ underlying171
theorem zM4:qz Tryz.prog 231 (.agg #[vn,vi 0,vi 0,vi 0,vi 0,.nilFunc,vn]):=qb (i:=Tryz.t231) rfl rfl
theorem zM5:kU Tryz.prog 231 7:=qj (i:=Tryz.t231) rfl
theorem eW:w9 Tryz.prog 231 2 5:=xX (i:=Tryz.t228) underlying231 rfl rfl rfl
theorem zM6:kU Tryz.prog 228 1:=qj (i:=Tryz.t228) rfl
theorem zoK:uI Tryz.prog 231 7:=gI (i:=Tryz.t231) underlying231 rfl rfl
theorem eX:w9 Tryz.prog 231 0 0:=xX (i:=Tryz.t171) underlying231 rfl rfl rfl
theorem zoL:gQ Tryz.prog 227:=qQ underlying227
theorem J0:w9 Tryz.prog 231 1 1:=xX (i:=Tryz.t178) underlying231 rfl rfl rfl
theorem cQ:w9 Tryz.prog 178 0 0:=xX (i:=Tryz.t175) underlying178 rfl rfl rfl
theorem lO:w9 Tryz.prog 178 1 2:=xX (i:=Tryz.t175) underlying178 rfl rfl rfl
theorem zCS:qz Tryz.prog 277 (.agg #[vi 0]):=qb (i:=Tryz.t277) rfl rfl
theorem zM7:qz Tryz.prog 307 (.agg #[vi 0]):=qb (i:=Tryz.t307) rfl rfl
theorem zCT:qz Tryz.prog 229 vn:=qb (i:=Tryz.t229) rfl rfl
theorem zM8:EqT Tryz.prog 225 qw:=⟨fun u v w=>by
 have c:=fun(w:World) (a b:Array Value)=>run_equalIn_agg (P:=Tryz.prog) w 9999 225 a b (by simp[Program.fieldsOf,underlying225]) (by kernel_rfl)
 have d:=fun(w:World) (a b:Array Value)=>run_equalIn_agg (P:=Tryz.prog) w 9998 175 a b (by simp[Program.fieldsOf,underlying175]) (by kernel_rfl)
 have e:=fun(w:World) (a b:Int)=>run_equalIn_int (P:=Tryz.prog) w 9997 3 .i64 .i64 a b underlying3
 rw[c]
 simp[Program.fieldsOf,Op.eqFields,part,qw,c,underlying225,d,underlying175,e]
 rcases u with⟨⟨u1,u2⟩,⟨u3,u4⟩⟩
 rcases v with⟨⟨v1,v2⟩,⟨v3,v4⟩⟩
 by_cases h1:u1=v1 <;> by_cases h2:u2=v2 <;> by_cases h3:u3=v3 <;> by_cases h4:u4=v4 <;> simp[h1,h2,h3,h4],by kernel_rfl⟩
theorem zdT:gQ Tryz.prog 229:=qQ underlying229
theorem lP:w9 Tryz.prog 307 0 0:=xX (i:=Tryz.t41) underlying307 rfl rfl rfl
theorem z41:elT Tryz.prog 229 175 2 16:=⟨underlying229,⟨Tryz.t175,_,rfl,rfl,rfl,rfl,rfl⟩,by decide⟩
theorem zCU:kU Tryz.prog 229 1:=qj (i:=Tryz.t229) rfl
theorem zMa:EqT Tryz.prog 175 w4:=⟨fun u v w=>by
 have c:=fun(w:World) (a b:Array Value)=>run_equalIn_agg (P:=Tryz.prog) w 9999 175 a b (by simp[Program.fieldsOf,underlying175]) (by kernel_rfl)
 have d:=fun(w:World) (a b:Int)=>run_equalIn_int (P:=Tryz.prog) w 9998 3 .i64 .i64 a b underlying3
 rw[c]
 simp[Program.fieldsOf,Op.eqFields,part,w4,c,underlying175,d]
 rcases u with⟨u1,u2⟩
 rcases v with⟨v1,v2⟩
 by_cases h1:u1=v1 <;> by_cases h2:u2=v2 <;> simp[h1,h2],by kernel_rfl⟩
theorem Gy:Mw Tryz.prog 225 1 2 175:=Uu underlying225 rfl rfl rfl
theorem se:w9 Tryz.prog 277 0 0:=xX (i:=Tryz.t41) underlying277 rfl rfl rfl
theorem MD:w9 Tryz.prog 231 3 6:=xX (i:=Tryz.t229) underlying231 rfl rfl rfl
theorem zMc:gQ Tryz.prog 228:=qQ underlying228
theorem zMd:elT Tryz.prog 181 41 1 8:=⟨underlying181,⟨Tryz.t41,_,rfl,rfl,rfl,rfl,rfl⟩,by decide⟩
theorem zj7:kU Tryz.prog 37 4:=qj (i:=Tryz.t37) rfl
theorem zdU:uI Tryz.prog 37 4:=gI (i:=Tryz.t37) underlying37 rfl rfl
theorem zMe:kU Tryz.prog 33 1:=qj (i:=Tryz.t33) rfl
theorem rK:w9 Tryz.prog 37 0 0:=xX (i:=Tryz.t3) underlying37 rfl rfl rfl
theorem lQ:w9 Tryz.prog 37 1 1:=xX (i:=Tryz.t3) underlying37 rfl rfl rfl
theorem dN:w9 Tryz.prog 37 2 2:=xX (i:=Tryz.t3) underlying37 rfl rfl rfl
theorem zlZ:elT Tryz.prog 38 53 3 24:=⟨underlying38,⟨Tryz.t53,_,rfl,rfl,rfl,rfl,rfl⟩,by decide⟩
theorem V4:w9 Tryz.prog 53 1 1:=xX (i:=Tryz.t3) underlying53 rfl rfl rfl
theorem oE:w9 Tryz.prog 40 1 1:=xX (i:=Tryz.t38) underlying40 rfl rfl rfl
theorem zMf:kU Tryz.prog 38 1:=qj (i:=Tryz.t38) rfl
theorem zXn:qz Tryz.prog 94 (.agg #[vi 0,vi 0]):=qb (i:=Tryz.t94) rfl rfl
theorem zXo:kU Tryz.prog 94 2:=qj (i:=Tryz.t94) rfl
theorem zxP:uI Tryz.prog 94 2:=gI (i:=Tryz.t94) underlying94 rfl rfl
theorem zMg:gQ Tryz.prog 140:=qQ underlying140
theorem ztS:elT Tryz.prog 140 201 1 8:=⟨underlying140,⟨Tryz.t201,_,rfl,rfl,rfl,rfl,rfl⟩,by decide⟩
theorem zXp:gQ Tryz.prog 201:=qQ underlying201
theorem zCV:gQ Tryz.prog 148:=qQ underlying148
theorem zXq:qz Tryz.prog 148 (.map none):=qb (i:=Tryz.t148) rfl rfl
theorem zXr:kU Tryz.prog 148 1:=qj (i:=Tryz.t148) rfl
theorem zMh:EqT Tryz.prog 94 qF:=⟨fun u v w=>by
 have c:=fun(w:World) (a b:Array Value)=>run_equalIn_agg (P:=Tryz.prog) w 9999 94 a b (by simp[Program.fieldsOf,underlying94]) (by kernel_rfl)
 have d:=fun(w:World) (a b:Int)=>run_equalIn_int (P:=Tryz.prog) w 9998 3 .i64 .i64 a b underlying3
 rw[c]
 simp[Program.fieldsOf,Op.eqFields,part,qF,c,underlying94,d]
 rcases u with⟨u1,u2⟩
 rcases v with⟨v1,v2⟩
 by_cases h1:u1=v1 <;> by_cases h2:u2=v2 <;> simp[h1,h2],by kernel_rfl⟩
theorem zCW:KeyT Tryz.prog 94 (ga qF):=cO underlying94 (fun _ _=>rfl) (fun b k w=>by
 have c:=fun(w:World) (a:Int)=>MapKept.run_checkKey (P:=Tryz.prog) (w:=w) (kt:=3) (k:=.int .i64 a) underlying3 (by simp[MapKept.IsKey]) b 9998
 have ck:∀(w:World) (u0:Int) (u1:Int),(Instr.checkKey b 10000 94 (.agg #[.int .i64 u0,.int .i64 u1])).run Tryz.prog w = .ok () w:=fun w u0 u1=>by
  rw[show(10000:Nat)=9999+1 from U,Instr.checkKey]
  simp[run_underlying underlying94,c,part]
 exact ck w k.ya k.fQ)
 (fun u v w=>zMh.eq u v w)
 (fun k=>by simp[Instr.sameBits,qF])
theorem zoM:qz Tryz.prog 69 (.agg #[.string ⟨#[]⟩,.string ⟨#[]⟩,.string ⟨#[]⟩,.string ⟨#[]⟩,vi 0,vi 0,vn]):=qb (i:=Tryz.t69) rfl rfl
theorem zMj:kU Tryz.prog 69 7:=qj (i:=Tryz.t69) rfl
theorem V5:w9 Tryz.prog 94 0 0:=xX (i:=Tryz.t3) underlying94 rfl rfl rfl
theorem zMk:qz Tryz.prog 140 vn:=qb (i:=Tryz.t140) rfl rfl
theorem zXs:kU Tryz.prog 140 1:=qj (i:=Tryz.t140) rfl
theorem KR:w9 Tryz.prog 94 1 1:=xX (i:=Tryz.t3) underlying94 rfl rfl rfl
theorem dO:w9 Tryz.prog 37 3 3:=xX (i:=Tryz.t3) underlying37 rfl rfl rfl
theorem zXt:qz Tryz.prog 92 (.map none):=qb (i:=Tryz.t92) rfl rfl
theorem zXu:kU Tryz.prog 92 1:=qj (i:=Tryz.t92) rfl
theorem zMl:gQ Tryz.prog 92:=qQ underlying92
theorem zCX:elT Tryz.prog 46 50 1 24:=⟨underlying46,⟨Tryz.t50,_,rfl,rfl,rfl,rfl,rfl⟩,by decide⟩
theorem zoN:gQ Tryz.prog 38:=qQ underlying38
theorem zXv:EqT Tryz.prog 37 jU:=⟨fun u v w=>by
 have c:=fun(w:World) (a b:Array Value)=>run_equalIn_agg (P:=Tryz.prog) w 9999 37 a b (by simp[Program.fieldsOf,underlying37]) (by kernel_rfl)
 have d:=fun(w:World) (a b:Int)=>run_equalIn_int (P:=Tryz.prog) w 9998 3 .i64 .i64 a b underlying3
 rw[c]
 simp[Program.fieldsOf,Op.eqFields,part,jU,c,underlying37,d]
 rcases u with⟨u1,u2,u3,u4⟩
 rcases v with⟨v1,v2,v3,v4⟩
 by_cases h1:u1=v1 <;> by_cases h2:u2=v2 <;> by_cases h3:u3=v3 <;> by_cases h4:u4=v4 <;> simp[h1,h2,h3,h4],by kernel_rfl⟩
theorem zCY:uI Tryz.prog 53 3:=gI (i:=Tryz.t53) underlying53 rfl rfl
theorem zXw:EqT Tryz.prog 53 fI:=⟨fun u v w=>by
 have c:=fun(w:World) (a b:Array Value)=>run_equalIn_agg (P:=Tryz.prog) w 9999 53 a b (by simp[Program.fieldsOf,underlying53]) (by kernel_rfl)
 have d:=fun(w:World) (a b:Int)=>run_equalIn_int (P:=Tryz.prog) w 9998 3 .i64 .i64 a b underlying3
 rw[c]
 simp[Program.fieldsOf,Op.eqFields,part,fI,c,underlying53,d]
 rcases u with⟨u1,u2,u3⟩
 rcases v with⟨v1,v2,v3⟩
 by_cases h1:u1=v1 <;> by_cases h2:u2=v2 <;> by_cases h3:u3=v3 <;> simp[h1,h2,h3],by kernel_rfl⟩
theorem zXx:gQ Tryz.prog 50:=qQ underlying50
theorem zMo:KeyT Tryz.prog 56 (ga YW):=cO underlying56 (fun _ _=>rfl) (fun b k w=>by
 have c:=fun(w:World) (a:Int)=>MapKept.run_checkKey (P:=Tryz.prog) (w:=w) (kt:=3) (k:=.int .i64 a) underlying3 (by simp[MapKept.IsKey]) b 9998
 have ck:∀(w:World) (u0:Int) (u1:Int),(Instr.checkKey b 10000 56 (.agg #[.int .i64 u0,.int .i64 u1])).run Tryz.prog w = .ok () w:=fun w u0 u1=>by
  rw[show(10000:Nat)=9999+1 from U,Instr.checkKey]
  simp[run_underlying underlying56,c,part,List.range',Std.Legacy.Range.forIn_eq_forIn_range',Std.Legacy.Range.size]
 exact ck w k.a0 k.a1)
 (fun u v w=>by
 have i3:=fun(w:World) (a b:Int)=>run_equalIn_int (P:=Tryz.prog) w 9998 3 .i64 .i64 a b underlying3
 show(Op.equalIn 10000 56 _ _).run _ _=_
 rw[show(10000:Nat)=9999+1 from U,Op.equalIn]
 simp[run_underlying underlying56,part,YW,i3,List.range',Std.Legacy.Range.forIn_eq_forIn_range',Std.Legacy.Range.size]
 rcases u with⟨u1,u2⟩
 rcases v with⟨v1,v2⟩
 by_cases h1:u1=v1 <;> by_cases h2:u2=v2 <;> simp[h1,h2])
 (fun k=>by simp[Instr.sameBits,YW])
theorem zXy:qz Tryz.prog 53 (.agg #[vi 0,vi 0,vi 0]):=qb (i:=Tryz.t53) rfl rfl
theorem zXz:kU Tryz.prog 53 3:=qj (i:=Tryz.t53) rfl
theorem UH:w9 Tryz.prog 53 0 0:=xX (i:=Tryz.t3) underlying53 rfl rfl rfl
theorem UI:w9 Tryz.prog 53 2 2:=xX (i:=Tryz.t3) underlying53 rfl rfl rfl
theorem zXA:kU Tryz.prog 24 1:=qj (i:=Tryz.t24) rfl
theorem zfJ:elT Tryz.prog 77 86 3 24:=⟨underlying77,⟨Tryz.t86,_,rfl,rfl,rfl,rfl,rfl⟩,by decide⟩
theorem zMp:uI Tryz.prog 86 3:=gI (i:=Tryz.t86) underlying86 rfl rfl
theorem zMq:qz Tryz.prog 86 (.agg #[vi 0,vi 0,vi 0]):=qb (i:=Tryz.t86) rfl rfl
theorem zMr:kU Tryz.prog 86 3:=qj (i:=Tryz.t86) rfl
theorem cz:w9 Tryz.prog 86 0 0:=xX (i:=Tryz.t3) underlying86 rfl rfl rfl
theorem dP:w9 Tryz.prog 86 1 1:=xX (i:=Tryz.t3) underlying86 rfl rfl rfl
theorem V6:w9 Tryz.prog 86 2 2:=xX (i:=Tryz.t3) underlying86 rfl rfl rfl
theorem J1:w9 Tryz.prog 134 2 9:=xX (i:=Tryz.t77) underlying134 rfl rfl rfl
theorem zMs:gQ Tryz.prog 77:=qQ underlying77
theorem ME:w9 Tryz.prog 134 1 8:=xX (i:=Tryz.t32) underlying134 rfl rfl rfl
theorem Xp:w9 Tryz.prog 134 4 11:=xX (i:=Tryz.t132) underlying134 rfl rfl rfl
theorem J2{p:Option Addr} : ∀ w,(method (Tryz.prog.types.size + Made.depth) 186 (.pointer p) "Push").run Tryz.prog w = .ok (275,.pointer p) w:=fun _=>by kernel_rfl
theorem zoO:gQ Tryz.prog 132:=qQ underlying132
theorem zdV:elT Tryz.prog 132 188 7 56:=⟨underlying132,⟨Tryz.t188,_,rfl,rfl,rfl,rfl,rfl⟩,by decide⟩
theorem zMt:kU Tryz.prog 132 1:=qj (i:=Tryz.t132) rfl
theorem YX{A : Addr}{v : Value} : ∀ w : World,w.cell? A = some v → (method (Tryz.prog.types.size + Made.depth) 186 (vq A) "Len").run Tryz.prog w = .ok (270,v) w:=fun w h=>eU (i:=Tryz.t186) rfl rfl rfl rfl underlying186 zoO h
theorem cR{A : Addr}{v : Value} : ∀ w : World,w.cell? A = some v → (method (Tryz.prog.types.size + Made.depth) 186 (vq A) "Less").run Tryz.prog w = .ok (271,v) w:=fun w h=>eU (i:=Tryz.t186) rfl rfl rfl rfl underlying186 zoO h
theorem zoP:uI Tryz.prog 188 7:=gI (i:=Tryz.t188) underlying188 rfl rfl
theorem eY:w9 Tryz.prog 188 0 0:=xX (i:=Tryz.t3) underlying188 rfl rfl rfl
theorem J3:w9 Tryz.prog 188 1 1:=xX (i:=Tryz.t3) underlying188 rfl rfl rfl
theorem J4:w9 Tryz.prog 188 2 2:=xX (i:=Tryz.t3) underlying188 rfl rfl rfl
theorem lR:w9 Tryz.prog 188 3 3:=xX (i:=Tryz.t3) underlying188 rfl rfl rfl
theorem cS{A : Addr}{v : Value} : ∀ w : World,w.cell? A = some v → (method (Tryz.prog.types.size + Made.depth) 186 (vq A) "Swap").run Tryz.prog w = .ok (272,v) w:=fun w h=>eU (i:=Tryz.t186) rfl rfl rfl rfl underlying186 zoO h
theorem zxQ:kU Tryz.prog 188 7:=qj (i:=Tryz.t188) rfl
theorem Ku{p:Option Addr} : ∀ w,(method (Tryz.prog.types.size + Made.depth) 186 (.pointer p) "Pop").run Tryz.prog w = .ok (274,.pointer p) w:=fun _=>by kernel_rfl
theorem zMu:qz Tryz.prog 188 (.agg #[vi 0,vi 0,vi 0,vi 0,vi 0,vi 0,vi 0]):=qb (i:=Tryz.t188) rfl rfl
theorem lS:w9 Tryz.prog 188 4 4:=xX (i:=Tryz.t60) underlying188 rfl rfl rfl
theorem zXB:qz Tryz.prog 246 (.agg #[vi 0,vi 0]):=qb (i:=Tryz.t246) rfl rfl
theorem zXC:kU Tryz.prog 246 2:=qj (i:=Tryz.t246) rfl
theorem Xq:w9 Tryz.prog 134 3 10:=xX (i:=Tryz.t130) underlying134 rfl rfl rfl
theorem zCZ:gQ Tryz.prog 130:=qQ underlying130
theorem zD0:uI Tryz.prog 246 2:=gI (i:=Tryz.t246) underlying246 rfl rfl
theorem zMv:qz Tryz.prog 191 (.pointer none):=qb (i:=Tryz.t191) rfl rfl
theorem zXD:EqT Tryz.prog 246 gr:=⟨fun u v w=>by
 have c:=fun(w:World) (a b:Array Value)=>run_equalIn_agg (P:=Tryz.prog) w 9999 246 a b (by simp[Program.fieldsOf,underlying246]) (by kernel_rfl)
 have d:=fun(w:World) (a b:Int)=>run_equalIn_int (P:=Tryz.prog) w 9998 3 .i64 .i64 a b underlying3
 rw[c]
 simp[Program.fieldsOf,Op.eqFields,part,gr,c,underlying246,d]
 rcases u with⟨u1,u2⟩
 rcases v with⟨v1,v2⟩
 by_cases h1:u1=v1 <;> by_cases h2:u2=v2 <;> simp[h1,h2],by kernel_rfl⟩
theorem zD1:KeyT Tryz.prog 246 (ga gr):=cO underlying246 (fun _ _=>rfl) (fun b k w=>by
 have c:=fun(w:World) (a:Int)=>MapKept.run_checkKey (P:=Tryz.prog) (w:=w) (kt:=3) (k:=.int .i64 a) underlying3 (by simp[MapKept.IsKey]) b 9998
 have ck:∀(w:World) (u0:Int) (u1:Int),(Instr.checkKey b 10000 246 (.agg #[.int .i64 u0,.int .i64 u1])).run Tryz.prog w = .ok () w:=fun w u0 u1=>by
  rw[show(10000:Nat)=9999+1 from U,Instr.checkKey]
  simp[run_underlying underlying246,c,part]
 exact ck w k.ya k.fQ)
 (fun u v w=>zXD.eq u v w)
 (fun k=>by simp[Instr.sameBits,gr])
theorem cT:w9 Tryz.prog 134 0 0:=xX (i:=Tryz.t31) underlying134 rfl rfl rfl
theorem eZ:w9 Tryz.prog 253 0 0:=xX (i:=Tryz.t250) underlying253 rfl rfl rfl
theorem J5:w9 Tryz.prog 250 0 0:=xX (i:=Tryz.t3) underlying250 rfl rfl rfl
theorem Xr:w9 Tryz.prog 253 1 3:=xX (i:=Tryz.t3) underlying253 rfl rfl rfl
theorem cU:w9 Tryz.prog 253 3 5:=xX (i:=Tryz.t251) underlying253 rfl rfl rfl
theorem zD2:gQ Tryz.prog 251:=qQ underlying251
theorem J6:w9 Tryz.prog 256 1 1:=xX (i:=Tryz.t3) underlying256 rfl rfl rfl
theorem zfK:elT Tryz.prog 251 256 2 16:=⟨underlying251,⟨Tryz.t256,_,rfl,rfl,rfl,rfl,rfl⟩,by decide⟩
theorem zoQ:uI Tryz.prog 256 2:=gI (i:=Tryz.t256) underlying256 rfl rfl
theorem zD3:qz Tryz.prog 256 (.agg #[vi 0,vi 0]):=qb (i:=Tryz.t256) rfl rfl
theorem zD4:kU Tryz.prog 256 2:=qj (i:=Tryz.t256) rfl
theorem zMx:kU Tryz.prog 251 1:=qj (i:=Tryz.t251) rfl
theorem MF:w9 Tryz.prog 256 0 0:=xX (i:=Tryz.t3) underlying256 rfl rfl rfl
theorem MH:w9 Tryz.prog 250 2 2:=xX (i:=Tryz.t3) underlying250 rfl rfl rfl
theorem MI:w9 Tryz.prog 250 1 1:=xX (i:=Tryz.t3) underlying250 rfl rfl rfl
theorem n4:w9 Tryz.prog 253 2 4:=xX (i:=Tryz.t3) underlying253 rfl rfl rfl
theorem Xs:w9 Tryz.prog 134 6 13:=xX (i:=Tryz.t79) underlying134 rfl rfl rfl
theorem zxR:gQ Tryz.prog 79:=qQ underlying79
theorem z3e:elT Tryz.prog 79 83 3 24:=⟨underlying79,⟨Tryz.t83,_,rfl,rfl,rfl,rfl,rfl⟩,by decide⟩
theorem zMy:kU Tryz.prog 79 1:=qj (i:=Tryz.t79) rfl
theorem Xt:w9 Tryz.prog 134 5 12:=xX (i:=Tryz.t79) underlying134 rfl rfl rfl
theorem V7:w9 Tryz.prog 83 2 2:=xX (i:=Tryz.t3) underlying83 rfl rfl rfl
theorem Yv:w9 Tryz.prog 83 0 0:=xX (i:=Tryz.t3) underlying83 rfl rfl rfl
theorem V8:w9 Tryz.prog 83 1 1:=xX (i:=Tryz.t3) underlying83 rfl rfl rfl
theorem z72:uI Tryz.prog 83 3:=gI (i:=Tryz.t83) underlying83 rfl rfl
theorem zfL:kU Tryz.prog 83 3:=qj (i:=Tryz.t83) rfl
theorem zXE:qz Tryz.prog 83 (.agg #[vi 0,vi 0,vi 0]):=qb (i:=Tryz.t83) rfl rfl
theorem zxS:elT Tryz.prog 75 5 1 1:=⟨underlying75,⟨Tryz.t5,_,rfl,rfl,rfl,rfl,rfl⟩,by decide⟩
theorem J7:gQ Tryz.prog 5:=qQ underlying5
theorem zXF:elT Tryz.prog 76 127 1 2:=⟨underlying76,⟨Tryz.t127,_,rfl,rfl,rfl,rfl,rfl⟩,by decide⟩
theorem zXG:gQ Tryz.prog 127:=qQ underlying127
def mY(b:List (List zd))(c:Option Bool):Nat->Int->Option Bool
 | 0,_=>none
 | d+1,a=>if decide (a<b.length) then chk (0<=a/\a<b.length) (if decide (((nth b a).length:Int)>40) then some false else mY b c d (i64 (a+1))) else c
def oa(a:zy)(b:List (List zd)):Option Bool:=
 if ((((decide ((a.fM.length:Int)>8))||(decide ((a.fS.length:Int)>8)))||(decide ((a.fK.length:Int)>20)))||(decide ((a.yb.length:Int)>20)))||(decide ((b.length:Int)>20)) then some false else uN (some true) fun c=>mY b c xT 0
theorem Kv{Z e f g i j k l m n o p q s t u v x y a b r}(h:oa a b=some r){Ny}(hz:PZ [] Ny Z)(R:ZS Z 4 (kB Z) e f a.fM)(S:ZS Z 4 (g8 Z) g i a.ye)(T:ZS Z 4 (rq kr) j k a.fS)(V:ZS Z 4 (rq gH) l m a.fK)(W:ZS Z 7 (g7 Z) n o a.yb)(X:ZS Z 5 (rq gf) p q a.fH)(Y:ZS Z 3 (g9 Z) s t a.fU)(aa:ZS Z 4 (rq gg) u v a.yf)(F:ZS Z 1 (fm Z) x y b):
  RC 10 #[.agg #[vs e a.fM.length f,vs g a.ye.length i,vs j a.fS.length k,vs l a.fK.length m,vs n a.yb.length o,vs p a.fH.length q,vs s a.fU.length t,vs u a.yf.length v],vs x b.length y] Ny (.bool r) [] []:=by
 unfold oa at h
 refine L0 func10 U U<|B0q<|Lh 2 (we (cs:=[vs e a.fM.length f,vs g a.ye.length i,vs j a.fS.length k,vs l a.fK.length m,vs n a.yb.length o,vs p a.fH.length q,vs s a.fU.length t,vs u a.yf.length v])) ?_
 intro ab _
 let A:=(a.fM.length:Int);let C:=(a.fS.length:Int);refine Q1n U<|WC.b<|B0q<|Le 7 (xB uR)<|Le 8 (Nu za6 .here)<|Le 9 (wc underlying22)<|Q2q U<|Ly false 4 11 (B:=(decide (A>8))||(decide (C>8))) (hB:=(fun h=>(fc h).symm)) (fun _ G=>?_) ?_
 ·exact Le 12 (xB uS)<|Le 13 (Nu zb4 .here)<|Le 14 (wc underlying24)<|Q2q U<|Lz (ff G) U .all
 let D:=(a.fK.length:Int);refine La U<|Ly false 4 17 (B:=((decide (A>8))||(decide (C>8)))||(decide (D>20))) (hB:=(fun h=>(fc h).symm)) (fun _ H=>?_) ?_
 ·exact Le 18 (xB rI)<|Le 19 (Nu zdP .here)<|Le 20 (wc underlying25)<|Q2q U<|Lz (ff H) U .all
 let E:=(a.yb.length:Int);refine La U<|Ly false 4 23 (B:=(((decide (A>8))||(decide (C>8)))||(decide (D>20)))||(decide (E>20))) (hB:=(fun h=>(fc h).symm)) (fun _ I=>?_) ?_
 ·exact Le 24 (xB mW)<|Le 25 (Nu z8E .here)<|Le 26 (wc underlying26)<|Q2q U<|Lz (ff I) U .all
 refine La U<|Ly false 3 29 (B:=((((decide (A>8))||(decide (C>8)))||(decide (D>20)))||(decide (E>20)))||(decide ((b.length:Int)>20))) (hB:=(fun h=>(fc h).symm)) (fun _ J=>?_) ?_
 ·exact La U<|Le 31 (wc underlying32)<|Q2q U<|Lz (ff J) U .all
 refine Q0n<|Lj h (fun K h=>?_)<|fun K h=>?_
 ·exact B1n U<|Nz<|Ll<|oJ h▸Nm results10
 ·refine Np<|jK0 h fun z L h=>Nf (z=some r) ([]) ([]) ?_ ?_
  ·refine B1q U<|Le 35 (wc underlying32)<|Q1n U<|WC.block<|Ng (fun d c=>(mY b z d c=some r)) (fun d c=>[(34,vs x b.length y),(35,vi (b.length:Int)),(36,vi c)]) (fun d c=>[]) (fun d c=>d) ⟨xT,0⟩ h .q .nil ?_
   rintro(_|M) c h;·cases h
   rw[mY] at h
   refine B1n U<|WC.b<|Lj h (fun N h=>?_)<|fun N h=>?_
   ·refine Np<|WC.b<|WC.block<|WC.b<|cK h fun O h=>Ld<|L2 (Z:=Z) (Pr:=(fm Z)) zc4 F O ?_
    rintro ad ae P af ⟨ag,ah,rfl,ai⟩
    refine Le 39 (xC zb5 U<|kz hz.pv P)<|Q1n U<|B1q U<|Le 41 (wc underlying58)<|Q1n U<|Lj h (fun Q h=>?_)<|fun Q h=>?_
    ·exact B1n U<|Nz<|Lx<|Ll<|Ll<|Lx<|Ll<|oJ h▸Nm results10
    ·exact N3<|Lt<|Lb<|D2q U<|WL.nil<|N0 ⟨M,i64 (c+1)⟩ h .q .nil
   ·exact N2<|Ln<|Ln<|Lv<|Lp () h .nil .nil
  ·rintro  h
   replace h:=L.symm.trans h
   exact B1n U<|Nz<|oJ h▸Nm results10
def oX  : Option (zy×List (List zd)):=
 some ((⟨([(⟨⟨#[109]⟩,0,0,[]⟩:yH),(⟨⟨#[110]⟩,0,0,[]⟩:yH)]:List yH),[],([(⟨⟨#[115]⟩,0,16,100⟩:yw)]:List yw),([(⟨⟨#[109]⟩,⟨#[115]⟩,0,1⟩:yL),(⟨⟨#[110]⟩,⟨#[115]⟩,0,1⟩:yL)]:List yL),([(⟨⟨#[]⟩,(⟨⟨#[]⟩,⟨#[]⟩,⟨#[]⟩⟩:yG),200,40,[]⟩:yy)]:List yy),[],[],[]⟩:zy),([([(⟨0,2,0⟩:zd),(⟨2,1,1⟩:zd)]:List zd)]:List (List zd)))
theorem W8{Z r}(h:oX=some r){Ny}(hz:PZ [] Ny Z):
  Calls Tryz.prog 19 #[] Ny fun e w'=>∃ Zn:Zp,∃ a:Option Addr,∃ b:Nat,∃ c:List Value,∃ d:Option Addr,∃ f:Nat,∃ g:Option Addr,∃ i:Nat,∃ j:Option Addr,∃ k:Nat,∃ m:Option Addr,∃ n:Nat,∃ o:List Value,∃ p:Option Addr,∃ q:Nat,∃ s:Option Addr,∃ t:Nat,∃ u:Option Addr,∃ x:Nat,∃ y:Option Addr,∃ z:Nat,∃ B:List Value,e = .returned (.tuple #[.agg #[vs a r.1.fM.length b,vs d r.1.ye.length f,vs g r.1.fS.length i,vs j r.1.fK.length k,vs m r.1.yb.length n,vs p r.1.fH.length q,vs s r.1.fU.length t,vs u r.1.yf.length x],vs y r.2.length z])/\((RR 4 (kB (Z++Zn)) c r.1.fM)/\(ZS (Z++Zn) 4 (g8 (Z++Zn)) d f r.1.ye)/\(RR 7 (g7 (Z++Zn)) o r.1.yb)/\(ZS (Z++Zn) 5 (rq gf) p q r.1.fH)/\(ZS (Z++Zn) 3 (g9 (Z++Zn)) s t r.1.fU)/\(ZS (Z++Zn) 4 (rq gg) u x r.1.yf)/\(RR 1 (fm (Z++Zn)) B r.2))/\Hp [] Ny w' [fz Zn,row (vs a r.1.fM.length b) 126 4 c,row (vs g r.1.fS.length i) 64 4 (r.1.fS.flatMap kr),row (vs j r.1.fK.length k) 62 4 (r.1.fK.flatMap gH),row (vs m r.1.yb.length n) 69 7 o,row (vs y r.2.length z) 58 1 B]:=by
 unfold oX at h
 refine Oh func19 U U<|WC.pool<|B0q (Lh 0 (xV (cs:=[vn,vn,vn,vn,vn,vn,vn,vn]) zxK U) fun Q _=>Q1n U<|B0q<|Le 3 (wl (v:=(.agg #[.string ⟨#[109]⟩,vi 0,vi 0,vn])) (Lq (l:=[.const (.string ⟨#[109]⟩)]) (.cons U .nil) [0]))<|Le 4 (wl (v:=(.agg #[.string ⟨#[110]⟩,vi 0,vi 0,vn])) (Lq (l:=[.const (.string ⟨#[110]⟩)]) (.cons U .nil) [0])) ?_)
 let D:List Value:=[.string ⟨#[109]⟩,vi 0,vi 0,vn,.string ⟨#[110]⟩,vi 0,vi 0,vn];have L:RR 4 (kB (Z++[])) D ([(⟨⟨#[109]⟩,0,0,[]⟩:yH),(⟨⟨#[110]⟩,0,0,[]⟩:yH)]:List yH):=(RR.cons (r:=[.string ⟨#[109]⟩,vi 0,vi 0,vn]) U (show kB _ _ _ from⟨_,_,U,ZS.nil _ _ _⟩) (RR.cons (r:=[.string ⟨#[110]⟩,vi 0,vi 0,vn]) U (show kB _ _ _ from⟨_,_,U,ZS.nil _ _ _⟩) (RR.nil _ _)))
 refine Lh 5 (wn (cs:=[.string ⟨#[109]⟩,vi 0,vi 0,vn,.string ⟨#[110]⟩,vi 0,vi 0,vn]) zM0 (Lq (l:=[.tmp 3,.tmp 4]) (.r2 U U) [0,1])) fun E _=>Le 6 (wl (v:=(.agg #[.string ⟨#[115]⟩,vi 0,vi 16,vi 100])) (Lq (l:=[.const (.string ⟨#[115]⟩),.const (vi 16),.const (vi 100)]) (.r3 U U U) [0,2,3])) (Lh 7 (wn (cs:=([(⟨⟨#[115]⟩,0,16,100⟩:yw)]:List yw).flatMap kr) zc5 (Lq (l:=[.tmp 6]) (.cons U .nil) [0])) fun F _=>Le 8 (wl (v:=(.agg #[.string ⟨#[109]⟩,.string ⟨#[115]⟩,vi 0,vi 1])) (Lq (l:=[.const (.string ⟨#[109]⟩),.const (.string ⟨#[115]⟩),.const (vi 1)]) (.r3 U U U) [0,1,3]))<|Le 9 (wl (v:=(.agg #[.string ⟨#[110]⟩,.string ⟨#[115]⟩,vi 0,vi 1])) (Lq (l:=[.const (.string ⟨#[110]⟩),.const (.string ⟨#[115]⟩),.const (vi 1)]) (.r3 U U U) [0,1,3])) (Lh 10 (wn (cs:=([(⟨⟨#[109]⟩,⟨#[115]⟩,0,1⟩:yL),(⟨⟨#[110]⟩,⟨#[115]⟩,0,1⟩:yL)]:List yL).flatMap gH) zj3 (Lq (l:=[.tmp 8,.tmp 9]) (.r2 U U) [0,1])) fun G _=>Le 11 (wl (v:=(.agg #[.string ⟨#[]⟩,.string ⟨#[]⟩,.string ⟨#[]⟩,.string ⟨#[]⟩,vi 200,vi 40,vn])) (Lq (l:=[.const (vi 200),.const (vi 40)]) (.r2 U U) [2,3])) ?_))
 let A:List Value:=[.string ⟨#[]⟩,.string ⟨#[]⟩,.string ⟨#[]⟩,.string ⟨#[]⟩,vi 200,vi 40,vn];have M:RR 7 (g7 (Z++[])) A ([(⟨⟨#[]⟩,(⟨⟨#[]⟩,⟨#[]⟩,⟨#[]⟩⟩:yG),200,40,[]⟩:yy)]:List yy):=(RR.cons (r:=A) U (show g7 _ _ _ from⟨_,_,U,ZS.nil _ _ _⟩) (RR.nil _ _))
 refine Lh 12 (wn (cs:=[.string ⟨#[]⟩,.string ⟨#[]⟩,.string ⟨#[]⟩,.string ⟨#[]⟩,vi 200,vi 40,vn]) zdQ (Lq (l:=[.tmp 11]) (.cons U .nil) [0])) fun H _=>Le 13 (wl (v:=(.agg #[vs (some ⟨E,0,none⟩) (([(⟨⟨#[109]⟩,0,0,[]⟩:yH),(⟨⟨#[110]⟩,0,0,[]⟩:yH)]:List yH).length) 2,vn,vs (some ⟨F,0,none⟩) (([(⟨⟨#[115]⟩,0,16,100⟩:yw)]:List yw).length) 1,vs (some ⟨G,0,none⟩) (([(⟨⟨#[109]⟩,⟨#[115]⟩,0,1⟩:yL),(⟨⟨#[110]⟩,⟨#[115]⟩,0,1⟩:yL)]:List yL).length) 2,vs (some ⟨H,0,none⟩) (([(⟨⟨#[]⟩,(⟨⟨#[]⟩,⟨#[]⟩,⟨#[]⟩⟩:yG),200,40,[]⟩:yy)]:List yy).length) 1,vn,vn,vn])) (Lq (l:=[.tmp 5,.tmp 7,.tmp 10,.tmp 12]) (.r4 U U U U) [0,2,3,4])) (Lh 2 (xV (cs:=[vn,vn,vn,vn,vn,vn,vn,vn]) zxK U) fun R _=>Lk (xR zxL .here)<|Q0n<|B0q<|Le 14 (xN z2A (xO .here))<|Le 15 (wl (v:=(.agg #[vi 0,vi 2,vi 0])) (Lq (l:=[.const (vi 0),.const (vi 2),.const (vi 0)]) (.r3 U U U) [0,1,2]))<|Le 16 (wl (v:=(.agg #[vi 2,vi 1,vi 1])) (Lq (l:=[.const (vi 2),.const (vi 1),.const (vi 1)]) (.r3 U U U) [0,1,2])) (Lh 17 (wn (cs:=([(⟨0,2,0⟩:zd),(⟨2,1,1⟩:zd)]:List zd).flatMap mQ) z7O (Lq (l:=[.tmp 15,.tmp 16]) (.r2 U U) [0,1])) fun I _=>WL.freezeS (ls:=([(⟨0,2,0⟩:zd),(⟨2,1,1⟩:zd)]:List zd)) .here .h6 hz (RR.flat (enc:=mQ)) ?_))
 intro J K N
 let C:Value:=(vs (some ⟨I,0,none⟩) (([(⟨0,2,0⟩:zd),(⟨2,1,1⟩:zd)]:List zd).length) 2);have O:RR 1 (fm (Z++J)) [C] ([([(⟨0,2,0⟩:zd),(⟨2,1,1⟩:zd)]:List zd)]:List (List zd)):=(RR.cons (r:=[C]) U (show fm _ _ _ from⟨_,_,U,N⟩) (RR.nil _ _))
 exact Lh 18 (wn (cs:=[vs (some ⟨I,0,none⟩) (([(⟨0,2,0⟩:zd),(⟨2,1,1⟩:zd)]:List zd).length) 2]) zc4 (Lq (l:=[.tmp 17]) (.cons U .nil) [0])) fun P _=>Lk (xR zxL .h7)<|Q1n U<|Nz<|oJ h▸Li results19 (.agg U z2A U (xO .here)<|.tmp U .nil) fun w hw=>⟨J,some ⟨E,0,none⟩,2,D,none,0,some ⟨F,0,none⟩,1,some ⟨G,0,none⟩,2,some ⟨H,0,none⟩,1,A,none,0,none,0,none,0,some ⟨P,0,none⟩,1,[C],qc,⟨L.weak (fun _ _ h=>vc K h),ZS.nil _ _ _,M.weak (fun _ _ h=>ve K h),ZS.nil _ _ _,ZS.nil _ _ _,ZS.nil _ _ _,O⟩,hw.sub (.s6 .h2 .h6 .h5 .h4 .h3 .h1)⟩
def kL(a:zy):Option Int:=
 some (i64 ((a.fM.length:Int)+(a.fS.length:Int)))
theorem bW{Z b c d e f g i j k l m n o p q s a r}(h:kL a=some r){Ny}(hz:PZ [] Ny Z)(t:ZS Z 4 (kB Z) b c a.fM)(u:ZS Z 4 (g8 Z) d e a.ye)(v:ZS Z 4 (rq kr) f g a.fS)(x:ZS Z 4 (rq gH) i j a.fK)(y:ZS Z 7 (g7 Z) k l a.yb)(z:ZS Z 5 (rq gf) m n a.fH)(A:ZS Z 3 (g9 Z) o p a.fU)(B:ZS Z 4 (rq gg) q s a.yf):
  RC 172 #[.agg #[vs b a.fM.length c,vs d a.ye.length e,vs f a.fS.length g,vs i a.fK.length j,vs k a.yb.length l,vs m a.fH.length n,vs o a.fU.length p,vs q a.yf.length s]] Ny (vi r) [] []:=by
 unfold kL at h
 refine Nb func172 U U<|B0q (Lh 1 (we (cs:=[vs b a.fM.length c,vs d a.ye.length e,vs f a.fS.length g,vs i a.fK.length j,vs k a.yb.length l,vs m a.fH.length n,vs o a.fU.length p,vs q a.yf.length s])) fun C _=>Q1n U<|B0q<|Le 3 (xB uR)<|Le 4 (Nu za6 .here)<|Le 5 (wc underlying22)<|Le 6 (xB uS)<|Le 7 (Nu zb4 .here)<|Le 8 (wc underlying24)<|Q2n U<|Nz ?_)
 exact oJ h▸Nm results172
def fO(a:zy)(b:Int):Option ByteArray:=
 (if decide (b<0) then some true else(kL a).bind fun c=>some (decide (b>=c))).bind fun d=>if d then some ⟨#[]⟩ else if decide (b<a.fM.length) then chk (0<=b/\b<a.fM.length) (some ((nth a.fM b).yB)) else chk (0<=(i64 (b-(a.fM.length:Int)))/\(i64 (b-(a.fM.length:Int)))<a.fS.length) (some ((nth a.fS (i64 (b-(a.fM.length:Int)))).yB))
theorem V9{Z c d e f g i j k l m n o p q s t a u r}(h:fO a u=some r){Ny}(hz:PZ [] Ny Z)(v:ZS Z 4 (kB Z) c d a.fM)(z:ZS Z 4 (g8 Z) e f a.ye)(x:ZS Z 4 (rq kr) g i a.fS)(A:ZS Z 4 (rq gH) j k a.fK)(C:ZS Z 7 (g7 Z) l m a.yb)(D:ZS Z 5 (rq gf) n o a.fH)(E:ZS Z 3 (g9 Z) p q a.fU)(F:ZS Z 4 (rq gg) s t a.yf):
  RC 173 #[.agg #[vs c a.fM.length d,vs e a.ye.length f,vs g a.fS.length i,vs j a.fK.length k,vs l a.yb.length m,vs n a.fH.length o,vs p a.fU.length q,vs s a.yf.length t],vi u] Ny (.string r) [] []:=by
 unfold fO at h
 refine L0 func173 U U<|B0q (Lh 2 (we (cs:=[vs c a.fM.length d,vs e a.ye.length f,vs g a.fS.length i,vs j a.fK.length k,vs l a.yb.length m,vs n a.fH.length o,vs p a.fU.length q,vs s a.yf.length t])) fun P _=>Q1n U<|B0q<|Le 6 (xB uR)<|Le 7 (Nu za6 .here)<|Le 8 (wc underlying22)<|Q1n U<|WC.block<|WC.b ?_)
 refine bK h fun G y h=>D3q U<|Ly false 4 20 (B:=G) (hB:=(fun h=>(oJ<|ju y h).symm)) (fun _ H=>?_) ?_
 ·have b:=jv y H
  obtain⟨ab,I,b⟩:=za b
  replace b:=oJ b
  exact La U<|Le 22 (xN z2A (xO .here))<|Ns call172 hz (fun pz=>bW I pz v z x A C D E F)<|Q2q U<|Lz b U .all
 refine Q1n U<|Lj h (fun J h=>?_)<|fun J h=>?_
 ·exact B1n U<|Nz<|Lx<|oJ h▸Nm results173
 ·refine B4n U<|Lj h (fun K h=>?_)<|fun K h=>?_
  ·refine WC.b<|cK h fun L h=>Ld<|Le 30 (xB uR)<|Le 31 (Nu za6 .here)<|La U<|L2 (Z:=Z) (Pr:=(kB Z)) zM0 v L ?_
   rintro Q R M S ⟨T,V,rfl,W⟩
   exact Le 34 (xB MB)<|Le 35 (xC W7 U<|wt hz.pv M)<|Q1n U<|Nz<|Lx<|oJ h▸Nm results173
  ·refine WC.b<|cK h fun N h=>Ld<|Le 9 (xB uS)<|Le 10 (Nu zb4 .here)<|Q3q U<|L2 (Z:=Z) (Pr:=(rq kr)) zc5 x N ?_
   rintro X Y O aa rfl
   exact Le 15 (xB UD)<|Le 16 (xC W7 U<|wt hz.pv O)<|Q1n U<|Nz<|Lx<|oJ h▸Nm results173
def vZ(b:Int)(c:zy)(d:ByteArray)(e:Option Int):Nat->Int->Option Int
 | 0,_=>none
 | f+1,a=>if decide (a<b) then(fO c a).bind fun g=>if decide (g=d) then some a else vZ b c d e f (i64 (a+1)) else e
def jd(a:zy)(b:ByteArray):Option Int:=
 uN (some (-1)) fun c=>(kL a).bind fun d=>vZ d a b c xT 0
theorem dQ{Z e f g i j k l m n o p q s t u v a d r}(h:jd a d=some r){Ny}(hz:PZ [] Ny Z)(x:ZS Z 4 (kB Z) e f a.fM)(y:ZS Z 4 (g8 Z) g i a.ye)(z:ZS Z 4 (rq kr) j k a.fS)(B:ZS Z 4 (rq gH) l m a.fK)(C:ZS Z 7 (g7 Z) n o a.yb)(D:ZS Z 5 (rq gf) p q a.fH)(E:ZS Z 3 (g9 Z) s t a.fU)(F:ZS Z 4 (rq gg) u v a.yf):
  RC 140 #[.agg #[vs e a.fM.length f,vs g a.ye.length i,vs j a.fS.length k,vs l a.fK.length m,vs n a.yb.length o,vs p a.fH.length q,vs s a.fU.length t,vs u a.yf.length v],.string d] Ny (vi r) [] []:=by
 unfold jd at h
 refine L0 func140 U U ?_
 let A:List Value:=[vs e a.fM.length f,vs g a.ye.length i,vs j a.fS.length k,vs l a.fK.length m,vs n a.yb.length o,vs p a.fH.length q,vs s a.fU.length t,vs u a.yf.length v];refine B0q<|Lh 2 (we (cs:=A)) ?_
 intro G _
 refine Q1n U<|jK0 h fun H J h=>Nf (H=some r) ([]) ([]) ?_ ?_
 ·refine WC.b<|bK h fun I K h=>Ld<|Le 6 (xN z2A (xO .here))<|Ns call172 hz (fun pz=>bW K pz x y z B C D E F)<|Q1n U<|WC.block<|Ng (fun c b=>(vZ I a d H c b=some r)) (fun c b=>[(1,.string d),(2,vp G),(7,vi I),(8,vi b)]) (fun c b=>[stb G 31 A]) (fun c b=>c) ⟨xT,0⟩ h .q (.cons .here .nil) ?_
  rintro(_|L) b h;·cases h
  rw[vZ] at h
  refine B1n U<|WC.b<|Lj h (fun M h=>?_)<|fun M h=>?_
  ·refine Np<|WC.b<|WC.block<|B2n U<|WC.b<|bK h fun P N h=>Ld<|Le 11 (xN z2A (xO .here))<|La U<|Ns call173 hz (fun pz=>V9 N pz x y z B C D E F)<|La U<|Le 15 (Fa U U)<|Q0n<|Lj h (fun O h=>?_)<|fun O h=>?_
   ·exact B2n U<|Nz<|Lx<|Ll<|Ll<|Lx<|Ll<|oJ h▸Nm results140
   ·exact N3<|Lt<|Lb<|D2q U<|WL.nil<|N0 ⟨L,i64 (b+1)⟩ h .q<|.cons .here .nil
  ·exact N2<|Ln<|Ln<|Lv<|Lp () h .nil .nil
 ·rintro  h
  replace h:=J.symm.trans h
  exact B1n U<|Nz<|oJ h▸Nm results140
def uT(a:zy)(c:Int)(b:Int):Option Bool:=
 if decide (b<a.fM.length) then some (decide (b>=0)) else chk (0<=(i64 (b-(a.fM.length:Int)))/\(i64 (b-(a.fM.length:Int)))<a.fS.length) (some (((((decide (((nth a.fS (i64 (b-(a.fM.length:Int)))).yV)=c))&&(decide (((nth a.fS (i64 (b-(a.fM.length:Int)))).yl)>=0)))&&(decide (((nth a.fS (i64 (b-(a.fM.length:Int)))).yl)<=1000)))&&(decide (((nth a.fS (i64 (b-(a.fM.length:Int)))).fT)>=0)))&&(decide (((nth a.fS (i64 (b-(a.fM.length:Int)))).fT)<=1073741824))))
theorem dR{Z c d e f g i j k l m n o p q s t a b u r}(h:uT a b u=some r){Ny}(hz:PZ [] Ny Z)(G:ZS Z 4 (kB Z) c d a.fM)(H:ZS Z 4 (g8 Z) e f a.ye)(v:ZS Z 4 (rq kr) g i a.fS)(I:ZS Z 4 (rq gH) j k a.fK)(J:ZS Z 7 (g7 Z) l m a.yb)(K:ZS Z 5 (rq gf) n o a.fH)(L:ZS Z 3 (g9 Z) p q a.fU)(M:ZS Z 4 (rq gg) s t a.yf):
  RC 141 #[.agg #[vs c a.fM.length d,vs e a.ye.length f,vs g a.fS.length i,vs j a.fK.length k,vs l a.yb.length m,vs n a.fH.length o,vs p a.fU.length q,vs s a.yf.length t],vi b,vi u] Ny (.bool r) [] []:=by
 unfold uT at h
 refine Nl func141 U U<|B0q (Lh 3 (we (cs:=[vs c a.fM.length d,vs e a.ye.length f,vs g a.fS.length i,vs j a.fK.length k,vs l a.yb.length m,vs n a.fH.length o,vs p a.fU.length q,vs s a.yf.length t])) fun N _=>Q1n U<|WC.b<|B1q U<|Le 9 (xB uR)<|Le 10 (Nu za6 .here)<|Le 11 (wc underlying22)<|Q1n U<|Lj h (fun x h=>?_)<|fun x h=>?_)
 ·exact B3n U<|Nz<|Ll<|oJ h▸Nm results141
 ·refine Np<|WC.b<|cK h fun y h=>Ld<|Le 15 (xB uS)<|Le 16 (Nu zb4 .here)<|La U<|Le 18 (xB uR)<|Le 19 (Nu za6 .here)<|Le 20 (wc underlying22)<|La U<|L2 (Z:=Z) (Pr:=(rq kr)) zc5 v y ?_
  rintro O P z Q rfl
  refine Le 23 (xN zXb (qB hz.pv z))<|Lh 7 (xV (cs:=[.string ⟨#[]⟩,vi 0,vi 0,vi 0]) zXc U) ?_
  intro R _
  let A:=(i64 (u-(a.fM.length:Int)));refine Lk (xR zXd .here)<|Q0n<|B0q<|Le 24 (xB UG)<|Le 25 (Nu xL .here)<|Q3q U<|Ly true 3 28 (B:=(decide (((nth a.fS A).yV)=b))&&(decide (((nth a.fS A).yl)>=0))) (fun _ C=>?_) ?_
  ·exact Le 29 (xB dL)<|Le 30 (Nu xL .here)<|Q2q U<|Lz (kR C) U .all
  refine La U<|Ly true 3 33 (B:=((decide (((nth a.fS A).yV)=b))&&(decide (((nth a.fS A).yl)>=0)))&&(decide (((nth a.fS A).yl)<=1000))) (fun _ D=>?_) ?_
  ·exact Le 34 (xB dL)<|Le 35 (Nu xL .here)<|Q2q U<|Lz (kR D) U .all
  refine La U<|Ly true 3 38 (B:=(((decide (((nth a.fS A).yV)=b))&&(decide (((nth a.fS A).yl)>=0)))&&(decide (((nth a.fS A).yl)<=1000)))&&(decide (((nth a.fS A).fT)>=0))) (fun _ E=>?_) ?_
  ·exact Le 39 (xB dM)<|Le 40 (Nu xL .here)<|Q2q U<|Lz (kR E) U .all
  refine La U<|Ly true 3 43 (B:=((((decide (((nth a.fS A).yV)=b))&&(decide (((nth a.fS A).yl)>=0)))&&(decide (((nth a.fS A).yl)<=1000)))&&(decide (((nth a.fS A).fT)>=0)))&&(decide (((nth a.fS A).fT)<=1073741824))) (fun _ F=>?_) ?_
  ·exact Le 44 (xB dM)<|Le 45 (Nu xL .here)<|Q2q U<|Lz (kR F) U .all
  exact Q1n U<|Nz<|oJ h▸Nm results141
def tI(a:zy)(e:Int)(b:Int)(f:Int)(g:Int):Option Bool:=
 if (decide (b<0))||(decide (b>=a.fK.length)) then some false else chk (0<=b/\b<a.fK.length) ((jd a ((nth a.fK b).fA)).bind fun c=>(jd a ((nth a.fK b).fB)).bind fun d=>(if (((decide (((nth a.fK b).yV)=e))&&(decide (((nth a.fK b).yp)>=1)))&&(decide (((nth a.fK b).yp)<=16)))&&(decide (c≠d)) then(uT a e c).bind fun h=>some h else some false).bind fun i=>(if i then(uT a e d).bind fun j=>some j else some false).bind fun k=>some (k&&(((decide (c=f))&&(decide (d=g)))||((decide (c=g))&&(decide (d=f))))))
theorem W9{Z t u v x y z A C D E F G H I J K a g b c d r}(h:tI a g b c d=some r){Ny}(hz:PZ [] Ny Z)(l:ZS Z 4 (kB Z) t u a.fM)(m:ZS Z 4 (g8 Z) v x a.ye)(n:ZS Z 4 (rq kr) y z a.fS)(i:ZS Z 4 (rq gH) A C a.fK)(o:ZS Z 7 (g7 Z) D E a.yb)(p:ZS Z 5 (rq gf) F G a.fH)(q:ZS Z 3 (g9 Z) H I a.fU)(s:ZS Z 4 (rq gg) J K a.yf):
  RC 93 #[.agg #[vs t a.fM.length u,vs v a.ye.length x,vs y a.fS.length z,vs A a.fK.length C,vs D a.yb.length E,vs F a.fH.length G,vs H a.fU.length I,vs J a.yf.length K],vi g,vi b,vi c,vi d] Ny (.bool r) [] []:=by
 unfold tI at h
 refine Oo func93 U U<|B0q (Lh 5 (we (cs:=[vs t a.fM.length u,vs v a.ye.length x,vs y a.fS.length z,vs A a.fK.length C,vs D a.yb.length E,vs F a.fH.length G,vs H a.fU.length I,vs J a.yf.length K])) fun aj _=>Q1n U<|WC.b<|B3q U<|Ly false 5 16 (B:=(decide (b<0))||(decide (b>=a.fK.length))) (hB:=(fun h=>(fc h).symm)) (fun _ O=>?_) ?_)
 ·exact La U<|Le 18 (xB rI)<|Le 19 (Nu zdP .here)<|Le 20 (wc underlying25)<|Q2q U<|Lz (ff O) U .all
 refine Q0n<|Lj h (fun P h=>?_)<|fun P h=>?_
 ·exact B1n U<|Nz<|Ll<|oJ h▸Nm results93
 ·refine Np<|WC.b<|cK h fun Q h=>Ld<|Le 23 (xB rI)<|Le 24 (Nu zdP .here)<|La U<|L2 (Z:=Z) (Pr:=(rq gH)) zj3 i Q ?_
  rintro ak al R am rfl
  refine Le 27 (xN zX8 (qB hz.pv R)) (Lh 11 (xV (cs:=[.string ⟨#[]⟩,.string ⟨#[]⟩,vi 0,vi 0]) zX9 U) fun an _=>Lk (xR zXa .here)<|Q0n<|WC.b ?_)
  refine bK h fun e S h=>bK h fun f T h=>Lu nc []<|Lg 0 U (xN z2A (xO .h1))<|Lf 1 U (xB UC)<|Lg 2 U (Nu W7 .here)<|L4 3 U (Nt call140) (cc hz .nil fun w pz ho=>dQ S pz l m n i o p q s)<|Lg 4 U (xN z2A (xO .h1))<|Lf 5 U (xB UE)<|Lg 6 U (Nu W7 .here)<|L4 7 U (Nt call140) (cc hz .nil fun w pz ho=>dQ T pz l m n i o p q s)<|Lf 8 U q_z<|Lf 9 U q_z<|N1<|Lb<|WC.b<|bK h fun V L h=>bK h fun M N h=>Ld<|Le 36 (xB UF)<|Le 37 (Nu xL .here)<|Q3q U<|Ly true 3 40 (B:=(decide (((nth a.fK b).yV)=g))&&(decide (((nth a.fK b).yp)>=1))) (fun _ W=>?_) ?_
  ·exact Le 41 (xB oD)<|Le 42 (Nu xL .here)<|Q2q U<|Lz (kR W) U .all
  refine La U<|Ly true 3 45 (B:=((decide (((nth a.fK b).yV)=g))&&(decide (((nth a.fK b).yp)>=1)))&&(decide (((nth a.fK b).yp)<=16))) (fun _ X=>?_) ?_
  ·exact Le 46 (xB oD)<|Le 47 (Nu xL .here)<|Q2q U<|Lz (kR X) U .all
  refine La U<|Ly true 3 50 (B:=(((decide (((nth a.fK b).yV)=g))&&(decide (((nth a.fK b).yp)>=1)))&&(decide (((nth a.fK b).yp)<=16)))&&(decide (e≠f))) (fun _ Y=>?_) ?_
  ·exact La U<|La U<|La U<|La U<|Lz (kR Y) U .all
  refine La U<|Ly true 4 55 (B:=V) (hB:=(fun h=>(oJ<|jv L h).symm)) (fun _ aa=>?_) ?_
  ·have j:=ju L aa
   obtain⟨ao,ab,j⟩:=za j
   replace j:=oJ j
   exact Le 56 (xN z2A (xO .h1))<|Q2q U<|Ns call141 hz (fun pz=>dR ab pz l m n i o p q s)<|La U<|Lz j U .all
  refine La U<|Ly true 4 61 (B:=M) (hB:=(fun h=>(oJ<|jv N h).symm)) (fun _ ad=>?_) ?_
  ·have k:=ju N ad
   obtain⟨ap,ae,k⟩:=za k
   replace k:=oJ k
   exact Le 62 (xN z2A (xO .h1))<|Q2q U<|Ns call141 hz (fun pz=>dR ae pz l m n i o p q s)<|La U<|Lz k U .all
  refine La U<|Ly true 18 67 (B:=M&&(((decide (e=c))&&(decide (f=d)))||((decide (e=d))&&(decide (f=c))))) (fun _ af=>?_) ?_
  ·refine La U<|La U<|La U<|La U<|Ly true 3 71 (B:=(decide (e=c))&&(decide (f=d))) (fun _ ag=>?_) ?_
   ·exact La U<|La U<|La U<|La U<|Lz (kR ag) U .all
   refine La U<|Ly false 8 76 (B:=((decide (e=c))&&(decide (f=d)))||((decide (e=d))&&(decide (f=c)))) (hB:=(fun h=>(fc h).symm)) (fun _ ah=>?_) ?_
   ·refine La U<|La U<|La U<|La U<|Ly true 3 80 (B:=(decide (e=d))&&(decide (f=c))) (fun _ ai=>?_) ?_
    ·exact La U<|La U<|La U<|La U<|Lz (kR ai) U .all
    exact La U<|Lz (ff ah) U .all
   exact La U<|Lz (kR af) U .all
  exact Q1n U<|Nz<|oJ h▸Nm results93
def kN(b:List zd)(d:zy)(f:Int)(g:Option Bool):Nat->Int->(List (Int×Int))->Option Bool
 | 0,_,_=>none
 | i+1,a,e=>if decide (a<b.length) then chk (0<=a/\a<b.length) (qt (fun(c:List (Int×Int))=>chk (((decide ((xK c ((nth b a).ya) 0)=0))||(decide ((xK c ((nth b a).fX) 0)>0)))=false->((decide (a>0))=true->((0:Int)<=0/\0<(b.length:Int)))) ((if ((decide ((xK c ((nth b a).ya) 0)=0))||(decide ((xK c ((nth b a).fX) 0)>0)))||(((decide (a>0))&&(decide (((nth b a).ya)≠((nth b 0).ya))))&&(decide (((nth b a).ya)<d.fM.length))) then some true else(tI d f ((nth b a).fQ) ((nth b a).ya) ((nth b a).fX)).bind fun j=>some (!j)).bind fun k=>if k then some false else kN b d f g i (i64 (a+1)) (w7 c ((nth b a).fX) (i64 ((xK c ((nth b a).fX) 0)+1))))) fun h=>if decide (a=0) then h (w7 e ((nth b a).ya) (i64 ((xK e ((nth b a).ya) 0)+1))) else h e) else g
def tJ(b:zy)(c:Int)(a:List zd):Option Bool:=
 uN (some (decide ((a.length:Int)<=32))) fun d=>kN a b c d xT 0 ([]:List (Int×Int))
theorem Wa{Z s t u x y z B I J K L M N O P Q R S c e b r}(h:tJ c e b=some r){Ny}(hz:PZ [] Ny Z)(an:ZS Z 4 (kB Z) s t c.fM)(ao:ZS Z 4 (g8 Z) u x c.ye)(ap:ZS Z 4 (rq kr) y z c.fS)(aq:ZS Z 4 (rq gH) B I c.fK)(ar:ZS Z 7 (g7 Z) J K c.yb)(au:ZS Z 5 (rq gf) L M c.fH)(av:ZS Z 3 (g9 Z) N O c.fU)(aw:ZS Z 4 (rq gg) P Q c.yf)(af:ZS Z 3 (rq mQ) R S b):
  RC 52 #[.agg #[vs s c.fM.length t,vs u c.ye.length x,vs y c.fS.length z,vs B c.fK.length I,vs J c.yb.length K,vs L c.fH.length M,vs N c.fU.length O,vs P c.yf.length Q],vi e,vs R b.length S] Ny (.bool r) [] []:=by
 unfold tJ at h
 refine Nl func52 U U ?_
 let A:List Value:=[vs s c.fM.length t,vs u c.ye.length x,vs y c.fS.length z,vs B c.fK.length I,vs J c.yb.length K,vs L c.fH.length M,vs N c.fU.length O,vs P c.yf.length Q];refine B0q<|Lh 3 (we (cs:=A)) ?_
 intro g _
 refine Q1n U<|B0q (Lh 10 (kq vI<|Value.int .i64) fun l _=>Q1n U ?_)
 obtain⟨ag,ax,h⟩:=qM h
 let C:Value:=(vs R b.length S);refine Nf (ag=some r) ([(2,C)]) ([]) ?_ ?_
 ·refine B1q U<|Le 12 (wc underlying58)<|Q1n U<|WC.block<|H0 (fun n a f=>(kN b c e ag n a f=some r)) (fun n a f=>[(1,vi e),(2,C),(3,vp g),(7,(.map<|some l)),(11,C),(12,vi (b.length:Int)),(13,vi a)]) (fun n a f=>[stb g 31 A,xP l vI vI f]) (fun n a f=>n) ⟨xT,0,([]:List (Int×Int))⟩ h .q (.s2 .h1 .here) ?_
  rintro(_|ay) a f h;·cases h
  rw[kN] at h
  refine B1n U<|WC.b<|Lj h (fun az h=>?_)<|fun az h=>?_
  ·refine Np<|WC.b<|WC.block<|WC.b<|cK h fun aA h=>D1q U<|L2 (Z:=Z) (Pr:=(rq mQ)) z7O af aA ?_
   rintro aM aN aB aO rfl
   refine Le 17 (xN z5e (qB hz.pv aB)) (Lh 9 (xV (cs:=[vi 0,vi 0,vi 0]) zdR U) fun m _=>La U<|Lk (xR zc6 .here)<|Q0n ?_)
   refine jK1 h fun aC aD h=>L6 (fun d=>(aC d=some r)) (fun d=>[(1,vi e),(2,C),(3,vp g),(7,(.map<|some l)),(8,vi a),(9,vp m),(11,C),(12,vi (b.length:Int)),(13,vi a)]) (fun d=>[stb g 31 A,xP l vI vI d,stb m 60 [(vi<|(nth b a).ya),(vi<|(nth b a).fX),(vi<|(nth b a).fQ)]]) ?_ ?_
   ·refine B2n U<|Lj h (fun aE h=>?_)<|fun aE h=>?_
    ·exact D1q U<|Le 21 (xB kC)<|Le 22 (Nu xL .here)<|Le 23 (jk (k:=((nth b a).ya)) (dflt:=(0:Int)) gP underlying148 jc .h2)<|La U<|Lk (kJ (k:=((nth b a).ya)) (v:=i64 ((xK f ((nth b a).ya) 0)+1)) gP underlying148 .h2)<|WL.nil<|Lp (w7 f ((nth b a).ya)<|i64 ((xK f ((nth b a).ya) 0)+1)) h .q<|.s3 .h2 .here .here
    ·exact N3<|Lp f h .q<|.s3 .h1 .h1 .here
   ·rintro d h
    replace h:=(aD d).symm.trans h
    refine WC.b<|WC.b ?_
    obtain⟨aF,h⟩:=xI h
    obtain⟨aG,ah,h⟩:=za h
    let E:Value:=(vi (b.length:Int));let F:Value:=(.bool ((decide ((xK d ((nth b a).ya) 0)=0))||(decide ((xK d ((nth b a).fX) 0)>0))));refine Lu nc []<|Lf 0 U q_m<|Lf 1 U (xB kC)<|Lg 2 U (Nu xL .h2)<|Lg 3 U (jk (k:=((nth b a).ya)) (dflt:=(0:Int)) gP underlying148 jc .h1)<|Lf 4 U (eI U U)<|Lf 5 U q_m<|Nd (fuel':=33) [(1,vi e),(2,C),(3,vp g),(7,(.map<|some l)),(8,vi a),(9,vp m),(11,C),(12,E),(13,vi a),(30,(.bool<|decide ((xK d ((nth b a).ya) 0)=0))),(36,F)] (vE 45 (dn 12)) ?_<|fun ai=>?_
    rotate_left
    ·rcases Bool.eq_false_or_eq_true (decide ((xK d ((nth b a).ya) 0)=0)) with hb' | hb'
     ·have T:=hb';clear hb'
      refine L3 (i:=30) U T<|Lm 6 U<|Lm 7 U<|Lm 8 U<|Lm 9 U<|Lm 10 U<|Lf 11 U qO<|Lw .a3 ?_ ai
      exact .t 9<|.r2 (zx<|Eq.symm T)<|zx<|fc T
     ·have V:=hb';clear hb'
      refine L3 (i:=30) U V<|Lf 6 U q_m<|Lf 7 U (xB mH)<|Lg 8 U (Nu xL .h2)<|Lg 9 U (jk (k:=((nth b a).fX)) (dflt:=(0:Int)) gP underlying148 jc .h1)<|Lf 10 U rV<|Lf 11 U qP<|Lw .a3 ?_ ai
      exact .t 9<|.r2 (zx<|Eq.symm V)<|zx<|ff V
    let H:=(c.fM.length:Int);let D:Value:=(.bool (((decide ((xK d ((nth b a).ya) 0)=0))||(decide ((xK d ((nth b a).fX) 0)>0)))||(((decide (a>0))&&(decide (((nth b a).ya)≠((nth b 0).ya))))&&(decide (((nth b a).ya)<H)))));refine WD.d (bz 12 33)<|Lf 12 U q_m<|Nd (fuel':=12) [(1,vi e),(2,C),(3,vp g),(7,(.map<|some l)),(9,vp m),(11,C),(12,E),(13,vi a),(37,F),(57,D)] (vE 45 (dn 33)) ?_<|fun aj=>?_
    rotate_left
    ·rcases Bool.eq_false_or_eq_true ((decide ((xK d ((nth b a).ya) 0)=0))||(decide ((xK d ((nth b a).fX) 0)>0))) with hb' | hb'
     ·have W:=hb';clear hb'
      refine L3 (i:=37) U W<|Lm 13 U<|Lm 14 U<|Lm 15 U<|Lm 16 U<|Lm 17 U<|Lm 18 U<|Lm 19 U<|Lm 20 U<|Lm 21 U<|Lm 22 U<|Lm 23 U<|Lm 24 U<|Lm 25 U<|Lm 26 U<|Lm 27 U<|Lm 28 U<|Lm 29 U<|Lm 30 U<|Lm 31 U<|Lf 32 U qO<|Lw .a3 ?_ aj
      exact .t 8<|.r2 (zx<|Eq.symm W)<|zx<|fc W
     ·have p:=hb';clear hb'
      have aH:=aF p
      let G:Value:=(.bool ((decide (a>0))&&(decide (((nth b a).ya)≠((nth b 0).ya)))));refine L3 (i:=37) U p<|Lf 13 U q_m<|Lf 14 U rV<|Lf 15 U q_m<|Nd (fuel':=21) [(1,vi e),(2,C),(3,vp g),(7,(.map<|some l)),(9,vp m),(11,C),(12,E),(13,vi a),(37,.bool false),(40,(.bool<|decide (a>0))),(48,G)] (vE 45 (dn 24)) ?_<|fun ak=>?_
      rotate_left
      ·rcases Bool.eq_false_or_eq_true (decide (a>0)) with hb' | hb'
       ·have q:=hb';clear hb'
        have aI:=aH q
        refine L3 (i:=40) U q<|Lf 16 U (xB kC)<|Lg 17 U (Nu xL .h2)<|Lf 18 U q_m<|L7 (j:=19) (Z:=Z) (Pr:=(rq mQ)) z7O af aI ?_
        rintro aP aQ aJ aR rfl
        refine Lf 20 U (xB kC)<|Lg 21 U (xC xL U<|wt hz.pv aJ)<|Lf 22 U (Qo U U)<|Lf 23 U qO<|Lw .a3 ?_ ak
        exact .t 9<|.r2 (zx<|Eq.symm q)<|zx<|kR q
       ·have X:=hb';clear hb'
        refine L3 (i:=40) U X<|Lm 16 U<|Lm 17 U<|Lm 18 U<|Lm 19 U<|Lm 20 U<|Lm 21 U<|Lm 22 U<|Lf 23 U qP<|Lw .a3 ?_ ak
        exact .t 9<|.r2 (zx<|Eq.symm X)<|zx<|kQ X
      refine WD.d (bz 24 21)<|Lf 24 U q_m<|Nd (fuel':=13) [(1,vi e),(2,C),(3,vp g),(7,(.map<|some l)),(9,vp m),(11,C),(12,E),(13,vi a),(37,.bool false),(49,G),(56,(.bool<|((decide (a>0))&&(decide (((nth b a).ya)≠((nth b 0).ya))))&&(decide (((nth b a).ya)<H))))] (vE 45 (dn 32)) ?_<|fun al=>?_
      rotate_left
      ·rcases Bool.eq_false_or_eq_true ((decide (a>0))&&(decide (((nth b a).ya)≠((nth b 0).ya)))) with hb' | hb'
       ·have Y:=hb';clear hb'
        refine L3 (i:=49) U Y<|Lf 25 U (xB kC)<|Lg 26 U (Nu xL .h2)<|Lf 27 U (xB uR)<|Lg 28 U (Nu za6 .here)<|Lf 29 U (wc underlying22)<|Lf 30 U sY<|Lf 31 U qO<|Lw .a3 ?_ al
        exact .t 9<|.r2 (zx<|Eq.symm Y)<|zx<|kR Y
       ·have aa:=hb';clear hb'
        refine L3 (i:=49) U aa<|Lm 25 U<|Lm 26 U<|Lm 27 U<|Lm 28 U<|Lm 29 U<|Lm 30 U<|Lf 31 U qP<|Lw .a3 ?_ al
        exact .t 9<|.r2 (zx<|Eq.symm aa)<|zx<|kQ aa
      refine WD.d (bz 32 13)<|Lf 32 U qP<|Lw .a3 ?_ aj
      exact .t 8<|.r2 (zx<|Eq.symm p)<|zx<|ff p
    refine WD.d (bz 33 12)<|Lf 33 U q_m<|Nd (fuel':=0) [(1,vi e),(2,C),(3,vp g),(7,(.map<|some l)),(9,vp m),(11,C),(12,E),(13,vi a),(58,D),(69,.bool aG)] (vE 45 (dn 45)) ?_<|fun am=>?_
    rotate_left
    ·rcases Bool.eq_false_or_eq_true (((decide ((xK d ((nth b a).ya) 0)=0))||(decide ((xK d ((nth b a).fX) 0)>0)))||(((decide (a>0))&&(decide (((nth b a).ya)≠((nth b 0).ya))))&&(decide (((nth b a).ya)<H)))) with hb' | hb'
     ·have ab:=hb';clear hb'
      have ad:=ju ah ab
      replace ad:=oJ ad
      refine L3 (i:=58) U ab<|Lm 34 U<|Lm 35 U<|Lm 36 U<|Lm 37 U<|Lm 38 U<|Lm 39 U<|Lm 40 U<|Lm 41 U<|Lm 42 U<|Lm 43 U<|Lf 44 U qO<|Lw .a3 ?_ am
      exact .t 8<|.r2 (zx<|Eq.symm ab)<|zx ad
     ·have ae:=hb';clear hb'
      have o:=jv ah ae
      obtain⟨aS,aK,o⟩:=za o
      replace o:=oJ o
      refine L3 (i:=58) U ae<|Lg 34 U (xN z2A (xO .here))<|Lf 35 U q_m<|Lf 36 U (xB sr)<|Lg 37 U (Nu xL .h2)<|Lf 38 U (xB kC)<|Lg 39 U (Nu xL .h2)<|Lf 40 U (xB mH)<|Lg 41 U (Nu xL .h2)<|L4 42 U (Nt call93) (cc hz .nil fun w pz ho=>W9 aK pz an ao ap aq ar au av aw)<|Lf 43 U (Yo U)<|Lf 44 U qP<|Lw .a3 ?_ am
      exact .t 8<|.r2 (zx<|Eq.symm ae)<|zx o
    refine WD.d (bz 45 0)<|N1<|Lb<|Lj h (fun aL h=>?_)<|fun aL h=>?_
    ·exact B1n U<|Nz<|Ll<|Lx<|Ll<|Ll<|Lx<|Ll<|oJ h▸Nm results52
    ·exact Np<|D1q U<|Le 71 (xB mH)<|Le 72 (Nu xL .h2)<|Le 73 (jk (k:=((nth b a).fX)) (dflt:=(0:Int)) gP underlying148 jc .h1)<|La U<|Lk (kJ (k:=((nth b a).fX)) (v:=i64 ((xK d ((nth b a).fX) 0)+1)) gP underlying148 .h1)<|WL.nil<|Lt<|Lb<|D2q U<|WL.nil<|N0 ⟨ay,i64 (a+1),(w7 d ((nth b a).fX)<|i64 ((xK d ((nth b a).fX) 0)+1))⟩ h .q<|.s2 .h1 .here
  ·exact N2<|Ln<|Ln<|Lv<|Lp () h (.cons U .nil) .nil
 ·rintro  h
  replace h:=ax.symm.trans h
  exact B1q U<|Le 77 (wc underlying58)<|Q2n U<|Nz<|oJ h▸Nm results52
def q7(a:List zd)(b:zy)(c:Int):Option Bool:=
 (tJ b c a).bind fun d=>some (!d)
theorem YH{Z c d e f g i j k l m n o p q s t u v x y b a z r}(h:q7 b a z=some r){Ny}(hz:PZ [] Ny Z)(A:ZS Z 3 (rq mQ) c d b)(B:ZS Z 4 (kB Z) f g a.fM)(C:ZS Z 4 (g8 Z) i j a.ye)(D:ZS Z 4 (rq kr) k l a.fS)(E:ZS Z 4 (rq gH) m n a.fK)(F:ZS Z 7 (g7 Z) o p a.yb)(G:ZS Z 5 (rq gf) q s a.fH)(H:ZS Z 3 (g9 Z) t u a.fU)(I:ZS Z 4 (rq gg) v x a.yf)(J:ZC Z e [vs f a.fM.length g,vs i a.ye.length j,vs k a.fS.length l,vs m a.fK.length n,vs o a.yb.length p,vs q a.fH.length s,vs t a.fU.length u,vs v a.yf.length x])(K:ZC Z y [vi z]):
  RC 51 #[vs c b.length d,vq e,vq y] Ny (.bool r) [] []:=by
 unfold q7 at h
 exact Nl func51 U U<|B1n U<|WC.b<|bK h fun M L h=>Ld<|Le 5 (xN z2A (qB hz.pv J))<|Le 6 (xC xL U<|kz hz.pv K)<|La U<|Ns call52 hz (fun pz=>Wa L pz B C D E F G H I A)<|Q2n U<|Nz<|oJ h▸Nm results51
def wu(b:List (List zd))(zca:(List zd)->Option Bool)(c:Option Int):Nat->Int->Option Int
 | 0,_=>none
 | d+1,a=>if decide (a<b.length) then chk (0<=a/\a<b.length) ((zca (nth b a)).bind fun e=>if e then some a else wu b zca c d (i64 (a+1))) else c
def qy(a:List (List zd))(zca:(List zd)->Option Bool):Option Int:=
 uN (some (-1)) fun b=>wu a zca b xT 0
theorem rO{Z d g}(zm1 zuf){b}(zca){r}(h:qy b zca=some r){Ny}(hz:PZ [] Ny Z)(j:ZS Z 1 (fm Z) d g b)(k:∀ args w,(callFunc zm1 args).run Tryz.prog w = .ok (.enter zm1 args) w)(m:∀ w:World,PZ [] w Z->∀(x0:List zd) (lm:Option Addr) (iQ:Nat) (r:Bool),ZS Z 3 (rq mQ) lm iQ x0->zca x0=some r->Calls Tryz.prog zm1 (([vs lm x0.length iQ]:List Value)++zuf).toArray w fun e w'=>e = .returned (.bool r)/\Hp [] w w' []):
  RC 92 #[vs d b.length g,.func (.func zm1) #[] (zuf).toArray] Ny (vi r) [] []:=by
 unfold qy at h
 refine L0 func92 U U<|B1n U<|jK0 h fun i n h=>Nf (i=some r) ([]) ([]) ?_ ?_
 ·refine B1q U<|Le 7 (wc underlying32)<|Q1n U<|WC.block<|Ng (fun c a=>(wu b zca i c a=some r)) (fun c a=>[(0,vs d b.length g),(1,.func (.func zm1) #[] (zuf).toArray),(7,vi (b.length:Int)),(8,vi a)]) (fun c a=>[]) (fun c a=>c) ⟨xT,0⟩ h .q .nil ?_
  rintro(_|o) a h;·cases h
  rw[wu] at h
  refine B1n U<|WC.b<|Lj h (fun p h=>?_)<|fun p h=>?_
  ·refine Np<|WC.b<|WC.block<|B2n U<|WC.b<|cK h fun q h=>bK h fun s t h=>D3q U<|L2 (Z:=Z) (Pr:=(fm Z)) zc4 j q ?_
   rintro A B u C ⟨v,x,rfl,y⟩
   refine Le 15 (xC zb5 U<|kz hz.pv u)<|Lo 16 (qk (l:=[.tmp 15]) (f:=zm1) (caps:=zuf) k<|.cons U .nil) .nil (fun w hw=>m w (hz.now hw) (nth b a) v x s y t)<|Q0n<|Lj h (fun z h=>?_)<|fun z h=>?_
   ·exact B2n U<|Nz<|Lx<|Ll<|Ll<|Lx<|Ll<|oJ h▸Nm results92
   ·exact N3<|Lt<|Lb<|D2q U<|WL.nil<|N0 ⟨o,i64 (a+1)⟩ h .q .nil
  ·exact N2<|Ln<|Ln<|Lv<|Lp () h .nil .nil
 ·rintro  h
  replace h:=n.symm.trans h
  exact B1n U<|Nz<|oJ h▸Nm results92
def wU(a:List (List zd))(zm2:(List zd)->Option Bool):Option Bool:=
 (qy a zm2).bind fun b=>some (decide (b>=0))
theorem mr{Z b c}(zm3 zuh){a}(zm2){r}(h:wU a zm2=some r){Ny}(hz:PZ [] Ny Z)(d:ZS Z 1 (fm Z) b c a)(f:∀ args w,(callFunc zm3 args).run Tryz.prog w = .ok (.enter zm3 args) w)(g:∀ w:World,PZ [] w Z->∀(x0:List zd) (lm:Option Addr) (iQ:Nat) (r:Bool),ZS Z 3 (rq mQ) lm iQ x0->zm2 x0=some r->Calls Tryz.prog zm3 (([vs lm x0.length iQ]:List Value)++zuh).toArray w fun e w'=>e = .returned (.bool r)/\Hp [] w w' []):
  RC 50 #[vs b a.length c,.func (.func zm3) #[] (zuh).toArray] Ny (.bool r) [] []:=by
 unfold wU at h
 exact L0 func50 U U<|B1n U<|WC.b<|bK h fun j i h=>D2q U<|Ns call92 hz (fun pz=>rO (zm1:=zm3) (zuf:=zuh) (zca:=zm2) i pz d f g)<|Q2n U<|Nz<|oJ h▸Nm results50
def gc(c:zy)(a:Int)(b:List (List zd)):Option Bool:=
 (if (((decide (a=0))||(decide (a=1)))&&(decide ((b.length:Int)=(c.yb.length:Int))))&&(decide ((b.length:Int)<=16)) then(wU b (fun(y0:List zd)=>q7 y0 c a)).bind fun d=>some (!d) else some false).bind fun e=>some e
theorem tK{Z e f g i j k m n o p q s t u v x y z a b c r}(h:gc a b c=some r){Ny}(hz:PZ [] Ny Z)(D:ZS Z 4 (kB Z) e f a.fM)(E:ZS Z 4 (g8 Z) g i a.ye)(F:ZS Z 4 (rq kr) j k a.fS)(G:ZS Z 4 (rq gH) m n a.fK)(H:ZS Z 7 (g7 Z) o p a.yb)(I:ZS Z 5 (rq gf) q s a.fH)(J:ZS Z 3 (g9 Z) t u a.fU)(K:ZS Z 4 (rq gg) v x a.yf)(L:ZS Z 1 (fm Z) y z c):
  RC 22 #[.agg #[vs e a.fM.length f,vs g a.ye.length i,vs j a.fS.length k,vs m a.fK.length n,vs o a.yb.length p,vs q a.fH.length s,vs t a.fU.length u,vs v a.yf.length x],vi b,vs y c.length z] Ny (.bool r) [] []:=by
 unfold gc at h
 refine Nl func22 U U<|B0q (Lh 3 (we (cs:=[vs e a.fM.length f,vs g a.ye.length i,vs j a.fS.length k,vs m a.fK.length n,vs o a.yb.length p,vs q a.fH.length s,vs t a.fU.length u,vs v a.yf.length x])) fun M _=>Lh 4 (we (cs:=[vi b])) fun N _=>Q1n U<|WC.b ?_)
 refine bK h fun O C h=>Ld<|Le 7 (Nu xL .here)<|Q2q U<|Ly false 2 9 (B:=(decide (b=0))||(decide (b=1))) (hB:=(fun h=>(fc h).symm)) (fun _ P=>?_) ?_
 ·exact Le 10 (Nu xL .here)<|Q2q U<|Lz (ff P) U .all
 let A:=(a.yb.length:Int);refine La U<|Ly true 6 13 (B:=((decide (b=0))||(decide (b=1)))&&(decide ((c.length:Int)=A))) (fun _ Q=>?_) ?_
 ·exact La U<|Le 15 (wc underlying32)<|Le 16 (xB mW)<|Le 17 (Nu z8E .h1)<|Le 18 (wc underlying26)<|Q2q U<|Lz (kR Q) U .all
 refine La U<|Ly true 3 21 (B:=(((decide (b=0))||(decide (b=1)))&&(decide ((c.length:Int)=A)))&&(decide ((c.length:Int)<=16))) (fun _ R=>?_) ?_
 ·exact La U<|Le 23 (wc underlying32)<|Q2q U<|Lz (kR R) U .all
 refine La U<|Ly true 4 26 (B:=O) (hB:=(fun h=>(oJ<|jv C h).symm)) (fun _ S=>?_) ?_
 ·have d:=ju C S
  obtain⟨V,T,d⟩:=za d
  replace d:=oJ d
  exact La U<|Le 28 (wO<|L5 (l:=[.tmp 3,.tmp 4])<|.r2 U U)<|Lo 29 (Nt call50) .nil (uB hz .nil (.s2 .h1 .here) fun w pz ho la=>mr (zm3:=51) (zuh:=[vp M,vp N]) (zm2:=(fun(y0:List zd)=>q7 y0 a b)) T pz ((L.mono<|zl).weak (fun _ _ h=>qe zl h)) call51<|fun w' hz' y0 ga0 gc0 r DI hr=>YH hr hz' DI ((D.mono<|zl).weak (fun _ _ h=>vc zl h)) ((E.mono<|zl).weak (fun _ _ h=>vA zl h)) (F.mono<|zl) (G.mono<|zl) ((H.mono<|zl).weak (fun _ _ h=>ve zl h)) (I.mono<|zl) ((J.mono<|zl).weak (fun _ _ h=>vB zl h)) (K.mono<|zl) ((la _ (.head _) _).stb)<|(la _ (.tail _<|.head _) _).stb)<|Q2q U<|Lz d U .all
 exact Q1n U<|Nz<|oJ h▸Nm results22
def mw(a:zd):Option z6:=
 some (⟨a.ya,a.fQ⟩:z6)
theorem tL{Z a r}(h:mw a=some r){Ny}(hz:PZ [] Ny Z):
  RC 60 #[.agg #[vi a.ya,vi a.fX,vi a.fQ]] Ny (.agg #[vi r.ya,vi r.fQ]) [] []:=by
 unfold mw at h
 refine Nb func60 U U<|B0q (Lh 1 (we (cs:=[vi a.ya,vi a.fX,vi a.fQ])) fun b _=>Lh 2 (xV (cs:=[vi 0,vi 0]) ztO U) fun c _=>Q0n<|B0q<|Le 3 (xB kC)<|Le 4 (Nu xL .h1)<|Le 5 (xB sr)<|Le 6 (Nu xL .h1)<|Le 7 (wl (v:=(.agg #[vi a.ya,vi a.fQ])) (Lq (l:=[.tmp 4,.tmp 6]) (.r2 U U) [0,1]))<|Lk (xR zxM .here)<|Q0n<|Nz ?_)
 exact oJ h▸Nn results60 (.agg U z71 U (xO .here) .nil) .nil
def wE(b:List z6)(c:z6)(d:Option Int):Nat->Int->Option Int
 | 0,_=>none
 | e+1,a=>if decide (a<b.length) then chk (0<=a/\a<b.length) (if decide (c=(⟨(nth b a).ya,(nth b a).fQ⟩:z6)) then some a else wE b c d e (i64 (a+1))) else d
def jw(a:List z6)(b:z6):Option Int:=
 uN (some (-1)) fun c=>wE a b c xT 0
theorem rP{Z g i e c r}(h:jw e c=some r){Ny}(hz:PZ [] Ny Z)(m:ZS Z 2 (rq wd) g i e):
  RC 157 #[vs g e.length i,.agg #[vi c.ya,vi c.fQ]] Ny (vi r) [] []:=by
 unfold jw at h
 refine L0 func157 U U<|B0q (Lh 3 (we (cs:=[vi c.ya,vi c.fQ])) fun k _=>Q1n U ?_)
 refine jK0 h fun l n h=>Nf (l=some r) ([]) ([]) ?_ ?_
 ·refine B1q U<|Le 7 (wc underlying112)<|Q1n U<|WC.block<|Ng (fun f d=>(wE e c l f d=some r)) (fun f d=>[(0,vs g e.length i),(3,vp k),(7,vi (e.length:Int)),(8,vi d)]) (fun f d=>[stb k 121 [vi c.ya,vi c.fQ]]) (fun f d=>f) ⟨xT,0⟩ h .q (.cons .here .nil) ?_
  rintro(_|o) d h;·cases h
  rw[wE] at h
  refine B1n U<|WC.b<|Lj h (fun p h=>?_)<|fun p h=>?_
  ·refine Np<|WC.b<|WC.block<|B2n U<|WC.b<|cK h fun q h=>Lu nc []<|Lg 0 U (xN z71 (xO .here))<|Lf 1 U q_m<|Lf 2 U q_m<|L7 (j:=3) (Z:=Z) (Pr:=(rq wd)) z9r m q ?_
   rintro u v s x rfl
   refine Lg 4 U (xN z71 (qB hz.pv s))<|Lf 5 U (lF (enc:=wd) (a:=c) (b:=(⟨(nth e d).ya,(nth e d).fQ⟩:z6)) zxN)<|N1<|Lb<|Lj h (fun t h=>?_)<|fun t h=>?_
   ·exact B2n U<|Nz<|Lx<|Ll<|Ll<|Lx<|Ll<|oJ h▸Nm results157
   ·exact N3<|Lt<|Lb<|D2q U<|WL.nil<|N0 ⟨o,i64 (d+1)⟩ h .q<|.cons .here .nil
  ·exact N2<|Ln<|Ln<|Lv<|Lp () h .nil .nil
 ·rintro  h
  replace h:=n.symm.trans h
  exact B1n U<|Nz<|oJ h▸Nm results157
def qf(a:List z6)(b:z6):Option Bool:=
 (jw a b).bind fun c=>some (decide (c>=0))
theorem sL{Z c d b a r}(h:qf b a=some r){Ny}(hz:PZ [] Ny Z)(e:ZS Z 2 (rq wd) c d b):
  RC 114 #[vs c b.length d,.agg #[vi a.ya,vi a.fQ]] Ny (.bool r) [] []:=by
 unfold qf at h
 refine L0 func114 U U<|B0q (Lh 3 (we (cs:=[vi a.ya,vi a.fQ])) fun g _=>Q1n U<|WC.b ?_)
 exact bK h fun i f h=>D1q U<|Le 6 (xN z71 (xO .here))<|Ns call157 hz (fun pz=>rP f pz e)<|Q2n U<|Nz<|oJ h▸Nm results114
def tM(a:Int):Option Bool:=
 some (decide (a≠a))
theorem bX{Z a r}(h:tM a=some r){Ny}(hz:PZ [] Ny Z):
  RC 131 #[vi a] Ny (.bool r) [] []:=by
 unfold tM at h
 exact Nb func131 U U<|B1n U<|B4n U<|Nz<|oJ h▸Nm results131
def qr(a:Int)(b:Int):Option Int:=
 (tM a).bind fun d=>(tM b).bind fun c=>if d then if c then some 0 else some (-1) else if c then some 1 else if decide (a<b) then some (-1) else if decide (a>b) then some 1 else some 0
theorem kx{Z a b r}(h:qr a b=some r){Ny}(hz:PZ [] Ny Z):
  RC 85 #[vi a,vi b] Ny (vi r) [] []:=by
 unfold qr at h
 refine L0 func85 U U<|B1n U<|WC.b<|bK h fun k c h=>D1q U<|Ns call131 hz (bX c)<|Q1n U<|WC.b<|bK h fun l d h=>D1q U<|Ns call131 hz (bX d)<|Q1n U<|WC.b<|B1n U<|Lj h (fun e h=>?_)<|fun e h=>?_
 ·refine WC.b<|B1n U<|Lj h (fun f h=>?_)<|fun f h=>?_
  ·exact B1n U<|Nz<|Ll<|Ll<|oJ h▸Nm results85
  ·exact Np<|B1n U<|Nz<|Ll<|oJ h▸Nm results85
 ·refine Np<|WC.b<|B1n U<|Lj h (fun g h=>?_)<|fun g h=>?_
  ·exact B1n U<|Nz<|Ll<|oJ h▸Nm results85
  ·refine Np<|WC.b<|B3n U<|Lj h (fun i h=>?_)<|fun i h=>?_
   ·exact B1n U<|Nz<|Ll<|oJ h▸Nm results85
   ·refine Np<|WC.b<|B3n U<|Lj h (fun j h=>?_)<|fun j h=>?_
    ·exact B1n U<|Nz<|Ll<|oJ h▸Nm results85
    ·exact Np<|B1n U<|Nz<|oJ h▸Nm results85
def my(b:List Int)(c:Option Int):Nat->Int->Option Int
 | 0,_=>none
 | d+1,a=>if decide (a<b.length) then chk (0<=a/\a<b.length) (if decide ((nth b a)≠0) then some (nth b a) else my b c d (i64 (a+1))) else c
def uX(a:List Int):Option Int:=
 uN (some 0) fun b=>my a b xT 0
theorem cV{Z d e b r}(h:uX b=some r){Ny}(hz:PZ [] Ny Z)(j:ZS Z 1 (rq e3) d e b):
  RC 84 #[vs d b.length e] Ny (vi r) [] []:=by
 unfold uX at h
 refine Nb func84 U U<|B1n U<|B1n U<|jK0 h fun f k h=>Nf (f=some r) ([(3,vi 0)]) ([]) ?_ ?_
 ·refine B1q U<|Le 7 (wc underlying50)<|Q1n U<|WC.block<|Ng (fun c a=>(my b f c a=some r)) (fun c a=>[(3,vi 0),(6,vs d b.length e),(7,vi (b.length:Int)),(8,vi a)]) (fun c a=>[]) (fun c a=>c) ⟨xT,0⟩ h .q .nil ?_
  rintro(_|l) a h;·cases h
  rw[my] at h
  refine B1n U<|WC.b<|Lj h (fun m h=>?_)<|fun m h=>?_
  ·refine Np<|WC.b<|WC.block<|WC.b<|cK h fun n h=>Ld<|L2 (Z:=Z) (Pr:=(rq e3)) z5U j n ?_
   rintro o p g q rfl
   refine Le 11 (xC xL U<|kz hz.pv g)<|Q1n U<|B3n U<|Lj h (fun i h=>?_)<|fun i h=>?_
   ·exact B2n U<|Nz<|Lx<|Ll<|Ll<|Lx<|Ll<|oJ h▸Nm results84
   ·exact N3<|Lt<|Lb<|D2q U<|WL.nil<|N0 ⟨l,i64 (a+1)⟩ h .q .nil
  ·exact N2<|Ln<|Ln<|Lv<|Lp () h (.cons U .nil) .nil
 ·rintro  h
  replace h:=k.symm.trans h
  exact B2n U<|Nz<|oJ h▸Nm results84
def vW(a:z6)(b:z6):Option Int:=
 (qr a.ya b.ya).bind fun c=>(qr a.fQ b.fQ).bind fun d=>(uX ([c,d]:List Int)).bind fun e=>some e
theorem oY{Z a b r}(h:vW a b=some r){Ny}(hz:PZ [] Ny Z):
  RC 45 #[.agg #[vi a.ya,vi a.fQ],.agg #[vi b.ya,vi b.fQ]] Ny (vi r) [] []:=by
 unfold vW at h
 refine L0 func45 U U<|B0q (Lh 2 (we (cs:=[vi a.ya,vi a.fQ])) fun j _=>Lh 3 (we (cs:=[vi b.ya,vi b.fQ])) fun k _=>Q1n U<|WC.b ?_)
 refine bK h fun f c h=>bK h fun g d h=>bK h fun n e h=>Lu nc []<|Lf 0 U (xB lM)<|Lg 1 U (Nu xL .h1)<|Lf 2 U (xB lM)<|Lg 3 U (Nu xL .here)<|L4 4 U (Nt call85) (cc hz .nil fun w pz ho=>kx c pz )<|Lf 5 U (xB cP)<|Lg 6 U (Nu xL .h1)<|Lf 7 U (xB cP)<|Lg 8 U (Nu xL .here)<|L4 9 U (Nt call85) (cc hz .nil fun w pz ho=>kx d pz ) (WD.new (i:=10) U U (wn (cs:=([f,g]:List Int).flatMap e3) z5U (Lq (l:=[.tmp 9,.tmp 14]) (.r2 U U) [0,1])) (fun h'=>absurd h' (by decide)) fun m _=>L4 11 U (Nt call84) (uB hz .nil (.cons .here .nil) fun w pz ho la=>cV e pz<|ZA.row (la _ (.head _) _) (RR.flat (enc:=e3)) ⟨w,pz.1⟩)<|Lf 12 U q_z<|N1<|Lb<|Nz ?_)
 exact oJ h▸Nm results45
def fj(zba:Int):Option Int:=chk (0<=zba/\zba<=18446744073709551615) (some ((Go.Lib.bitLen (zba).toNat:Nat):Int))
theorem oZ{Z}(zba r){Ny}(hz:PZ [] Ny Z)(h:fj zba=some r):Calls Tryz.prog 57 #[.int .u64 zba] Ny fun e w'=>e = .returned (vi r)/\Hp [] Ny w' []:=by
 obtain⟨h0,h⟩:=xI h
 obtain rfl:=oJ h
 refine(Tryz.bits_Len zba Ny h0.1 h0.2).mono ?_
 rintro e w' ⟨rfl,rfl⟩
 exact⟨U,Hp.nil w' []⟩
theorem z105:∀ w,(isAgg (Tryz.gn.t 24)).run Tryz.prog w = .ok true w:=fun _=>by kernel_rfl
theorem z106:∀ w,(Go.sizeOf (Tryz.gn.t 24)).run Tryz.prog w = .ok 2 w:=fun _=>by kernel_rfl
def gJ(z7a:List z6)(zul:Int)(zum:Int)(zoZ:Int)(zm5:z6->z6->Option Int):Option (List z6):=chk ((zul=0/\zum=(z7a.length:Int))/\(0<=zoZ/\zoZ<4611686018427387904/\z7a.length<4611686018427387904)) (chk (ou zm5 (wC zm5 z7a)=true) (some (wC zm5 z7a)))
theorem pP{Z}(zm6 zm7 zun zF8 z7a zul zum zoZ zm5 r){Ny}(hz:Pz [row (vs zm6 z7a.length zm7) 121 2 (z7a.flatMap wd)] Ny Z)(a:∀ args w,(callFunc zun args).run Tryz.prog w = .ok (.enter zun args) w)(b:∀ w:World,PZ [] w Z->∀(x0:z6) (x1:z6) (r:Int),zm5 x0 x1=some r->Calls Tryz.prog zun (([.agg #[vi x0.ya,vi x0.fQ],.agg #[vi x1.ya,vi x1.fQ]]:List Value)++zF8).toArray w fun e w'=>e = .returned (vi r)/\Hp [] w w' [])(h:gJ z7a zul zum zoZ zm5=some r)(iF:Ho Ny [row (vs zm6 z7a.length zm7) 121 2 (z7a.flatMap wd)]):
  Calls Tryz.prog 158 #[vs zm6 z7a.length zm7,vi zul,vi zum,vi zoZ,.func (.func zun) #[] (zF8).toArray] Ny fun e w'=>e = .returned (.tuple #[])/\(r.length=z7a.length)/\Hp (fps [row (vs zm6 z7a.length zm7) 121 2 (z7a.flatMap wd)]) Ny w' [row (vs zm6 r.length zm7) 121 2 (r.flatMap wd)]:=by
 obtain⟨h0,h⟩:=xI h
 obtain⟨h1,h⟩:=xI h
 have hr:=(oJ h).symm
 exact im (P:=Tryz.prog) (f:=158) (e:=121) (k:=2) (enc:=wd) dK (fun β _ enc cf g cb hO wq off cap d0 w0 eg hC R=>Tryz.lI 2 z105 z106 enc cf g cb hO wq off cap d0 w0 eg hC R) (Tryz.ld (α:=Unit)) hz a b h0 h1 hr iF
def qg(a:List z6)(zp0:z6->z6->Option Int):Option (List z6):=
 (fj (u64 (a.length:Int))).bind fun b=>(gJ a 0 (a.length:Int) b zp0).bind fun c=>some c
theorem sM{Z b c}(zp1 zyo){a}(zp0){r}(h:qg a zp0=some r){Ny}(hz:Pz [row (vs b a.length c) 121 2 (a.flatMap wd)] Ny Z)(j:∀ args w,(callFunc zp1 args).run Tryz.prog w = .ok (.enter zp1 args) w)(k:∀ w:World,PZ [] w Z->∀(x0:z6) (x1:z6) (r:Int),zp0 x0 x1=some r->Calls Tryz.prog zp1 (([.agg #[vi x0.ya,vi x0.fQ],.agg #[vi x1.ya,vi x1.fQ]]:List Value)++zyo).toArray w fun e w'=>e = .returned (vi r)/\Hp [] w w' [])(iF:Ho Ny [row (vs b a.length c) 121 2 (a.flatMap wd)]):
  Calls Tryz.prog 115 #[vs b a.length c,.func (.func zp1) #[] (zyo).toArray] Ny fun e w'=>e = .returned (.tuple #[])/\(r.length=a.length)/\Hp (fps [row (vs b a.length c) 121 2 (a.flatMap wd)]) Ny w' [row (vs b r.length c) 121 2 (r.flatMap wd)]:=by
 unfold qg at h
 refine Nj func115 U iF U<|B1q U<|Le 6 (wc underlying112)<|Q1n U<|bK h fun d l h=>bK h fun f m h=>D3q U<|Le 10 (fF underlying3 underlying147)<|Ns call57 hz (fun pz=>oZ  (zba:=(u64 (a.length:Int))) (r:=d) pz  l)<|La U<|Nc U (Nt call158) (.cons .here .nil) (cc hz (.cons .here .nil) fun w pz ho=>pP (zm6:=b) (zm7:=c) (zun:=zp1) (zF8:=zyo) (z7a:=a) (zul:=0) (zum:=(a.length:Int)) (zoZ:=d) (zm5:=zp0) (r:=f) pz j k m ho) ?_
 rintro  g
 exact L9 (i:=0) U (u:=(vs b f.length c)) (qD g.symm)<|WL.nil<|oJ h▸Nh results115 .nil fun w hw=>⟨ms,g.trans U,hw.sub (.cons .here .nil)⟩
end Go.Proofs.YthjnhebofpebpaaGreat
