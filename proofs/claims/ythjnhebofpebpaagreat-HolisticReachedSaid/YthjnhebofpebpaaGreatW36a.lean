/- A part of this claim's proof: models of functions, walks, plain laws. No conditions. -/
import Derived.Test.YthjnhebofpebpaaGreatZMem
import Derived.Test.YthjnhebofpebpaaGreatZObj
import Derived.Test.YthjnhebofpebpaaGreatShelf36
import Derived.Test.YthjnhebofpebpaaGreatProg
set_option linter.all false
namespace Go.Proofs.YthjnhebofpebpaaGreat
open Go Go.RowKit Sep Tryz
set_option maxRecDepth 30000
set_option maxHeartbeats 4000000
abbrev RC (f:FuncId)(vs:Array Value)(Nx:World)(v:Value)(F:List Nat)(L:List Asrt):Prop:=Calls Tryz.prog f vs Nx fun e w'=>e=.returned v/\Hp F Nx w' L
abbrev RF (f:FuncId)(vs:Array Value)(Nx:World)(v:Value)(M L:List Asrt):Prop:=Calls Tryz.prog f vs Nx fun e w'=>e=.returned v/\Hp (fps M) Nx w' L
abbrev Pz (M:List Asrt)(Nx:World)(Z:Zp):Prop:=PZ (fps M) Nx Z
abbrev Ho (Nx:World)(M:List Asrt):Prop:=Hp (fps M) Nx Nx M

structure yZ where
 yB:ByteArray
 xr:Int
 fOut:Bool
 yo:Int
 xu:Int
 xl:Int
 deriving Inhabited,DecidableEq
structure xa where
 fOp:Int
 fA:Int
 fB:Int
 fC:Int
 deriving Inhabited,DecidableEq
structure yX where
 yB:ByteArray
 xy:Int
 xb:Int
 xw:Int
 xc:List xa
 deriving Inhabited,DecidableEq
structure yY where
 yB:ByteArray
 xb:Int
 xn:Int
 xm:Int
 xd:List Int
 xo:Int
 xp:Int
 xi:List Int
 fP:List yZ
 xg:List yX
 deriving Inhabited,DecidableEq
structure yH where
 yB:ByteArray
 xm:Int
 xv:Int
 xf:List yY
 deriving Inhabited,DecidableEq
structure yG where
 yz:ByteArray
 yF:ByteArray
 yI:ByteArray
 deriving Inhabited,DecidableEq
structure yR where
 yq:yG
 yM:List yG
 deriving Inhabited,DecidableEq
structure yu where
 yB:ByteArray
 yQ:Int
 yl:Int
 fT:Int
 deriving Inhabited,DecidableEq
structure yK where
 fA:ByteArray
 fB:ByteArray
 yQ:Int
 yp:Int
 deriving Inhabited,DecidableEq
structure yw where
 yB:ByteArray
 yq:yG
 yE:Int
 yA:Int
 yM:List yG
 deriving Inhabited,DecidableEq
structure yU where
 yz:ByteArray
 yF:ByteArray
 xk:Int
 xj:Int
 fDo:Int
 deriving Inhabited,DecidableEq
structure yV where
 xq:ByteArray
 xc:Int
 deriving Inhabited,DecidableEq
structure yT where
 xq:ByteArray
 xe:List yV
 xh:List ByteArray
 deriving Inhabited,DecidableEq
structure yS where
 fA:ByteArray
 fVA:Int
 fB:ByteArray
 fVB:Int
 deriving Inhabited,DecidableEq
structure zu where
 fM:List yH
 yd:List yR
 fS:List yu
 fK:List yK
 yc:List yw
 fH:List yU
 fU:List yT
 ye:List yS
 deriving Inhabited,DecidableEq
def e3(x:Int):List Value:=[vi x]
theorem U3:∀ x,∀ u∈e3 x,u.oneCell'=true:=fun _=>ry
def QB(x:yZ):List Value:=[.string x.yB,.int .u8 x.xr,.bool x.fOut,vi x.yo,vi x.xu,vi x.xl]
def QC(x:xa):List Value:=[.int .u8 x.fOp,vi x.fA,vi x.fB,vi x.fC]
def Wy(Z:Zp)(r:List Value)(x:yX):Prop:=∃(im:Option Addr) (eR:Nat),r=[.string x.yB,vi x.xy,vi x.xb,vi x.xw,vs im x.xc.length eR]/\ZS Z 4 (rq QC) im eR x.xc
theorem F5{Z Z'}(k:xE Z Z'){r x}(h:Wy Z r x):Wy Z' r x:=by
 obtain⟨im,eR,hr,h0⟩:=h
 exact⟨im,eR,hr,h0.mono k⟩
def Wz(Z:Zp)(r:List Value)(x:yY):Prop:=∃(im:Option Addr) (eR:Nat) (Bu:Option Addr) (zp:Nat) (CC:Option Addr) (Ah:Nat) (DC:Option Addr) (AN:Nat),r=[.string x.yB,vi x.xb,vi x.xn,vi x.xm,vs im x.xd.length eR,vi x.xo,vi x.xp,vs Bu x.xi.length zp,vs CC x.fP.length Ah,vs DC x.xg.length AN]/\ZS Z 1 (rq e3) im eR x.xd/\ZS Z 1 (rq e3) Bu zp x.xi/\ZS Z 6 (rq QB) CC Ah x.fP/\ZS Z 5 (Wy Z) DC AN x.xg
theorem F6{Z Z'}(k:xE Z Z'){r x}(h:Wz Z r x):Wz Z' r x:=by
 obtain⟨im,eR,Bu,zp,CC,Ah,DC,AN,hr,h0,h1,h2,h3⟩:=h
 exact⟨im,eR,Bu,zp,CC,Ah,DC,AN,hr,h0.mono k,h1.mono k,h2.mono k,(h3.mono k).weak (fun _ _ h=>F5 k h)⟩
def kr(Z:Zp)(r:List Value)(x:yH):Prop:=∃(im:Option Addr) (eR:Nat),r=[.string x.yB,vi x.xm,vi x.xv,vs im x.xf.length eR]/\ZS Z 10 (Wz Z) im eR x.xf
theorem wV{Z Z'}(k:xE Z Z'){r x}(h:kr Z r x):kr Z' r x:=by
 obtain⟨im,eR,hr,h0⟩:=h
 exact⟨im,eR,hr,(h0.mono k).weak (fun _ _ h=>F6 k h)⟩
def dx(x:yG):List Value:=[.string x.yz,.string x.yF,.string x.yI]
def g5(Z:Zp)(r:List Value)(x:yR):Prop:=∃(im:Option Addr) (eR:Nat),r=[.string x.yq.yz,.string x.yq.yF,.string x.yq.yI,vs im x.yM.length eR]/\ZS Z 3 (rq dx) im eR x.yM
theorem vt{Z Z'}(k:xE Z Z'){r x}(h:g5 Z r x):g5 Z' r x:=by
 obtain⟨im,eR,hr,h0⟩:=h
 exact⟨im,eR,hr,h0.mono k⟩
def ki(x:yu):List Value:=[.string x.yB,vi x.yQ,vi x.yl,vi x.fT]
theorem T4:∀ x,∀ u∈ki x,u.oneCell'=true:=fun _=>ry
def gg(x:yK):List Value:=[.string x.fA,.string x.fB,vi x.yQ,vi x.yp]
def g8(Z:Zp)(r:List Value)(x:yw):Prop:=∃(im:Option Addr) (eR:Nat),r=[.string x.yB,.string x.yq.yz,.string x.yq.yF,.string x.yq.yI,vi x.yE,vi x.yA,vs im x.yM.length eR]/\ZS Z 3 (rq dx) im eR x.yM
theorem wX{Z Z'}(k:xE Z Z'){r x}(h:g8 Z r x):g8 Z' r x:=by
 obtain⟨im,eR,hr,h0⟩:=h
 exact⟨im,eR,hr,h0.mono k⟩
def gc(x:yU):List Value:=[.string x.yz,.string x.yF,.int .u8 x.xk,.int .u8 x.xj,.int .u8 x.fDo]
def QE(x:yV):List Value:=[.string x.xq,vi x.xc]
def e9(x:ByteArray):List Value:=[.string x]
def g6(Z:Zp)(r:List Value)(x:yT):Prop:=∃(im:Option Addr) (eR:Nat) (Bu:Option Addr) (zp:Nat),r=[.string x.xq,vs im x.xe.length eR,vs Bu x.xh.length zp]/\ZS Z 2 (rq QE) im eR x.xe/\ZS Z 1 (rq e9) Bu zp x.xh
theorem vu{Z Z'}(k:xE Z Z'){r x}(h:g6 Z r x):g6 Z' r x:=by
 obtain⟨im,eR,Bu,zp,hr,h0,h1⟩:=h
 exact⟨im,eR,Bu,zp,hr,h0.mono k,h1.mono k⟩
def ge(x:yS):List Value:=[.string x.fA,vi x.fVA,.string x.fB,vi x.fVB]
structure zd where
 ya:Int
 fX:Int
 fQ:Int
 deriving Inhabited,DecidableEq
def mN(x:zd):List Value:=[vi x.ya,vi x.fX,vi x.fQ]
def g9(Z:Zp)(r:List Value)(x:List zd):Prop:=∃(im:Option Addr) (eR:Nat),r=[vs im x.length eR]/\ZS Z 3 (rq mN) im eR x
theorem qa{Z Z'}(k:xE Z Z'){r x}(h:g9 Z r x):g9 Z' r x:=by
 obtain⟨im,eR,hr,h0⟩:=h
 exact⟨im,eR,hr,h0.mono k⟩
structure z6 where
 ya:Int
 fQ:Int
 deriving Inhabited,DecidableEq
structure ys where
 ya:Int
 fQ:Int
 yl:Int
 fT:Int
 deriving Inhabited,DecidableEq
structure zt where
 yx:Int
 ya:Int
 yl:Int
 deriving Inhabited,DecidableEq
structure yL where
 fP:List ys
 yy:List zt
 deriving Inhabited,DecidableEq
structure yh where
 yf:Int
 ya:Int
 yb:Int
 deriving Inhabited,DecidableEq
structure yW where
 yb:Int
 yx:Int
 yo:Int
 deriving Inhabited,DecidableEq
def w8(x:z6):List Value:=[vi x.ya,vi x.fQ]
theorem dy:∀ x,∀ u∈w8 x,u.oneCell'=true:=fun _=>ry
def km(x:ys):List Value:=[vi x.ya,vi x.fQ,vi x.yl,vi x.fT]
theorem XK:∀ x,∀ u∈km x,u.oneCell'=true:=fun _=>ry
structure ym where
 yO:Int
 xt:z6
 deriving Inhabited,DecidableEq
def jM(x:ym):List Value:=[vi x.yO,vi x.xt.ya,vi x.xt.fQ]
structure z2 where
 fN:Int
 fD:Int
 deriving Inhabited,DecidableEq
def xX(x:z2):List Value:=[vi x.fN,vi x.fD]
theorem Y8:∀ x,∀ u∈xX x,u.oneCell'=true:=fun _=>ry
structure z8 where
 yi:z2
 fR:z2
 deriving Inhabited,DecidableEq
def qt(x:z8):List Value:=[vi x.yi.fN,vi x.yi.fD,vi x.fR.fN,vi x.fR.fD]
theorem Kv:∀ x,∀ u∈qt x,u.oneCell'=true:=fun _=>ry
def jT(Z:Zp)(r:List Value)(x:List z8):Prop:=∃(im:Option Addr) (eR:Nat),r=[vs im x.length eR]/\ZS Z 4 (rq qt) im eR x
theorem gp{Z Z'}(k:xE Z Z'){r x}(h:jT Z r x):jT Z' r x:=by
 obtain⟨im,eR,hr,h0⟩:=h
 exact⟨im,eR,hr,h0.mono k⟩
theorem Ui{Z r x}(h:jT Z r x):∀ u∈r,u.oneCell'=true:=by
 obtain⟨im,eR,hr,h0⟩:=h
 rw[hr];exact ry
structure yv where
 fR:z2
 fL:z2
 deriving Inhabited,DecidableEq
structure yt where
 fE:Int
 deriving Inhabited,DecidableEq
structure yr where
 yb:Int
 yJ:Int
 yO:Int
 yf:Int
 yg:zd
 deriving Inhabited,DecidableEq
structure xx where
 yp:Int
 yl:Int
 fT:Int
 deriving Inhabited,DecidableEq
structure yj where
 yo:Int
 yN:Int
 deriving Inhabited,DecidableEq
structure yC where
 yk:xx
 yP:Int
 yD:Int
 yn:List yj
 deriving Inhabited,DecidableEq
def e41(x:Int):List Value:=[vi x]
def fg(x:zt):List Value:=[vi x.yx,vi x.ya,vi x.yl]
theorem QF:∀ x,∀ u∈fg x,u.oneCell'=true:=fun _=>ry
def qE(x:z6):List Value:=[vi x.ya,vi x.fQ]
def tj(Z:Zp)(r:List Value)(x:Int->Option Int):Prop:=∃(Bj:FuncId) (Be:List Value),r=[.func (.func Bj) #[] (Be).toArray]/\(∀ args w,(callFunc Bj args).run Tryz.prog w = .ok (.enter Bj args) w)/\∀ w:World,PZ [] w Z->∀(x0:Int) (r:Int),x x0=some r->Calls Tryz.prog Bj (([vi x0]:List Value)++Be).toArray w fun e w'=>e = .returned (vi r)/\Hp [] w w' []
theorem tI{Z Z'}(k:xE Z Z'){r x}(h:tj Z r x):tj Z' r x:=by
 obtain⟨Bj,Be,h1,h2,h3⟩:=h
 exact⟨Bj,Be,h1,h2,fun w hw=>h3 w (hw.le k)⟩
def ax(Z:Zp)(r:List Value)(x:List Int):Prop:=∃(im:Option Addr) (eR:Nat),r=[vs im x.length eR]/\ZS Z 1 (rq e3) im eR x
theorem QG{Z Z'}(k:xE Z Z'){r x}(h:ax Z r x):ax Z' r x:=by
 obtain⟨im,eR,hr,h0⟩:=h
 exact⟨im,eR,hr,h0.mono k⟩
def nJ(x:yW):List Value:=[vi x.yb,vi x.yx,vi x.yo]
def gq(x:z6):List Value:=[vi x.ya,vi x.fQ]
def gr(x:yj):List Value:=[vi x.yo,vi x.yN]
theorem Kw:∀ x,∀ u∈gr x,u.oneCell'=true:=fun _=>ry
def z2N(g:Nat×(Option Addr×Nat))(x:yC):List Asrt:=[stb g.1 253 [vi x.yk.yp,vi x.yk.yl,vi x.yk.fT,vi x.yP,vi x.yD,vs g.2.1 x.yn.length g.2.2],row (vs g.2.1 x.yn.length g.2.2) 256 2 (x.yn.flatMap gr)]
def wE(x:yr):List Value:=[vi x.yb,vi x.yJ,vi x.yO,vi x.yf,vi x.yg.ya,vi x.yg.fX,vi x.yg.fQ]
theorem Uj:∀ x,∀ u∈wE x,u.oneCell'=true:=fun _=>ry
def wh(x:yh):List Value:=[vi x.yf,vi x.ya,vi x.yb]
theorem F7:∀ x,∀ u∈wh x,u.oneCell'=true:=fun _=>ry
def e5(x:Int):List Value:=[.int .u8 x]
theorem z2v:uD Tryz.prog 31 8:=gE (i:=Tryz.t31) underlying31 rfl rfl
theorem tw:w7 Tryz.prog 31 0 0:=xV (i:=Tryz.t22) underlying31 rfl rfl (by decide) rfl
theorem zaS:fm Tryz.prog 22:=ja underlying22
theorem uN:w7 Tryz.prog 31 2 2:=xV (i:=Tryz.t24) underlying31 rfl rfl (by decide) rfl
theorem zaT:fm Tryz.prog 24:=ja underlying24
theorem tx:w7 Tryz.prog 31 3 3:=xV (i:=Tryz.t25) underlying31 rfl rfl (by decide) rfl
theorem zaU:fm Tryz.prog 25:=ja underlying25
theorem uO:w7 Tryz.prog 31 4 4:=xV (i:=Tryz.t26) underlying31 rfl rfl (by decide) rfl
theorem zab:fm Tryz.prog 26:=ja underlying26
theorem z8K:elT Tryz.prog 32 58 1 24:=⟨underlying32,⟨Tryz.t58,_,rfl,rfl,rfl,rfl,rfl⟩,by decide⟩
theorem z9v:fm Tryz.prog 58:=ja underlying58
theorem zxg:qw Tryz.prog 31 (.agg #[vn,vn,vn,vn,vn,vn,vn,vn]):=vV (i:=Tryz.t31) rfl rfl
theorem zLv:elT Tryz.prog 22 126 4 56:=⟨underlying22,⟨Tryz.t126,_,rfl,rfl,rfl,rfl,rfl⟩,by decide⟩
theorem zbR:elT Tryz.prog 24 64 4 40:=⟨underlying24,⟨Tryz.t64,_,rfl,rfl,rfl,rfl,rfl⟩,by decide⟩
theorem zdD:elT Tryz.prog 25 62 4 48:=⟨underlying25,⟨Tryz.t62,_,rfl,rfl,rfl,rfl,rfl⟩,by decide⟩
theorem zfn:elT Tryz.prog 26 69 7 104:=⟨underlying26,⟨Tryz.t69,_,rfl,rfl,rfl,rfl,rfl⟩,by decide⟩
theorem zxh:kM Tryz.prog 31 8:=vY (i:=Tryz.t31) rfl
theorem z7F:elT Tryz.prog 58 60 3 24:=⟨underlying58,⟨Tryz.t60,_,rfl,rfl,rfl,rfl,rfl⟩,by decide⟩
theorem ziL:qw Tryz.prog 40 (.agg #[vn,vn]):=vV (i:=Tryz.t40) rfl rfl
theorem xJ:fm Tryz.prog 3:=ja underlying3
theorem z54:uD Tryz.prog 60 3:=gE (i:=Tryz.t60) underlying60 rfl rfl
theorem zdE:qw Tryz.prog 60 (.agg #[vi 0,vi 0,vi 0]):=vV (i:=Tryz.t60) rfl rfl
theorem zbS:kM Tryz.prog 60 3:=vY (i:=Tryz.t60) rfl
theorem ku:w7 Tryz.prog 60 0 0:=xV (i:=Tryz.t3) underlying60 rfl rfl (by decide) rfl
theorem jF:qw Tryz.prog 3 (vi 0):=vV (i:=Tryz.t3) rfl rfl
theorem gM:KeyT Tryz.prog 3 vI:=Me underlying3
theorem mD:w7 Tryz.prog 60 1 1:=xV (i:=Tryz.t3) underlying60 rfl rfl (by decide) rfl
theorem sq:w7 Tryz.prog 60 2 2:=xV (i:=Tryz.t3) underlying60 rfl rfl (by decide) rfl
theorem zLw:uD Tryz.prog 62 4:=gE (i:=Tryz.t62) underlying62 rfl rfl
theorem zLx:qw Tryz.prog 62 (.agg #[.string ⟨#[]⟩,.string ⟨#[]⟩,vi 0,vi 0]):=vV (i:=Tryz.t62) rfl rfl
theorem zLy:kM Tryz.prog 62 4:=vY (i:=Tryz.t62) rfl
theorem Uk:w7 Tryz.prog 62 0 0:=xV (i:=Tryz.t9) underlying62 rfl rfl (by decide) rfl
theorem XL:fm Tryz.prog 9:=ja underlying9
theorem Ml:w7 Tryz.prog 126 0 0:=xV (i:=Tryz.t9) underlying126 rfl rfl (by decide) rfl
theorem Ul:w7 Tryz.prog 64 0 0:=xV (i:=Tryz.t9) underlying64 rfl rfl (by decide) rfl
theorem Um:w7 Tryz.prog 62 1 1:=xV (i:=Tryz.t9) underlying62 rfl rfl (by decide) rfl
theorem Un:w7 Tryz.prog 62 2 2:=xV (i:=Tryz.t3) underlying62 rfl rfl (by decide) rfl
theorem rK:w7 Tryz.prog 62 3 3:=xV (i:=Tryz.t3) underlying62 rfl rfl (by decide) rfl
theorem zWD:uD Tryz.prog 64 4:=gE (i:=Tryz.t64) underlying64 rfl rfl
theorem zWE:qw Tryz.prog 64 (.agg #[.string ⟨#[]⟩,vi 0,vi 0,vi 0]):=vV (i:=Tryz.t64) rfl rfl
theorem zWF:kM Tryz.prog 64 4:=vY (i:=Tryz.t64) rfl
theorem Kx:w7 Tryz.prog 64 1 1:=xV (i:=Tryz.t3) underlying64 rfl rfl (by decide) rfl
theorem dz:w7 Tryz.prog 64 2 2:=xV (i:=Tryz.t3) underlying64 rfl rfl (by decide) rfl
theorem Y9:w7 Tryz.prog 64 3 3:=xV (i:=Tryz.t3) underlying64 rfl rfl (by decide) rfl
theorem ztk:qw Tryz.prog 121 (.agg #[vi 0,vi 0]):=vV (i:=Tryz.t121) rfl rfl
theorem zxi:kM Tryz.prog 121 2:=vY (i:=Tryz.t121) rfl
theorem z6Q:uD Tryz.prog 121 2:=gE (i:=Tryz.t121) underlying121 rfl rfl
theorem z9w:elT Tryz.prog 112 121 2 16:=⟨underlying112,⟨Tryz.t121,_,rfl,rfl,rfl,rfl,rfl⟩,by decide⟩
theorem zxj:EqT Tryz.prog 121 w8:=⟨fun u v w=>by
 have c:=fun(w:World) (a b:Array Value)=>run_equalIn_agg (P:=Tryz.prog) w 9999 121 a b (by simp[Program.fieldsOf,underlying121]) (by kernel_rfl)
 have d:=fun(w:World) (a b:Int)=>run_equalIn_int (P:=Tryz.prog) w 9998 3 .i64 .i64 a b underlying3
 rw[c]
 simp[Program.fieldsOf,Op.eqFields,part,w8,c,underlying121,d]
 rcases u with⟨u1,u2⟩
 rcases v with⟨v1,v2⟩
 by_cases h1:u1=v1 <;> by_cases h2:u2=v2 <;> simp[h1,h2],by kernel_rfl⟩
theorem lI:w7 Tryz.prog 121 0 0:=xV (i:=Tryz.t3) underlying121 rfl rfl (by decide) rfl
theorem cF:w7 Tryz.prog 121 1 1:=xV (i:=Tryz.t3) underlying121 rfl rfl (by decide) rfl
theorem z7G:elT Tryz.prog 50 3 1 8:=⟨underlying50,⟨Tryz.t3,_,rfl,rfl,rfl,rfl,rfl⟩,by decide⟩
theorem zWG:qw Tryz.prog 117 (.map none):=vV (i:=Tryz.t117) rfl rfl
theorem zWH:kM Tryz.prog 117 1:=vY (i:=Tryz.t117) rfl
theorem ztl:fm Tryz.prog 117:=ja underlying117
theorem ziM:KeyT Tryz.prog 121 (ga w8):=eD underlying121 (fun _ _=>rfl) (fun b k w=>by
 have c:=fun(w:World) (a:Int)=>MapKept.run_checkKey (P:=Tryz.prog) (w:=w) (kt:=3) (k:=.int .i64 a) underlying3 (by simp[MapKept.IsKey]) b 9998
 have ck:∀(w:World) (u0:Int) (u1:Int),(Instr.checkKey b 10000 121 (.agg #[.int .i64 u0,.int .i64 u1])).run Tryz.prog w = .ok () w:=fun w u0 u1=>by
  rw[show(10000:Nat)=9999+1 from U,Instr.checkKey]
  simp[run_underlying underlying121,c,part]
 exact ck w k.ya k.fQ)
 (fun u v w=>zxj.eq u v w)
 (fun k=>by simp[Instr.sameBits,w8])
theorem z9x:elT Tryz.prog 33 37 4 32:=⟨underlying33,⟨Tryz.t37,_,rfl,rfl,rfl,rfl,rfl⟩,by decide⟩
theorem z9y:kM Tryz.prog 40 2:=vY (i:=Tryz.t40) rfl
theorem z9z:uD Tryz.prog 40 2:=gE (i:=Tryz.t40) underlying40 rfl rfl
theorem WA:w7 Tryz.prog 69 2 4:=xV (i:=Tryz.t3) underlying69 rfl rfl (by decide) rfl
theorem rL:w7 Tryz.prog 69 3 5:=xV (i:=Tryz.t3) underlying69 rfl rfl (by decide) rfl
theorem zCo:uD Tryz.prog 69 7:=gE (i:=Tryz.t69) underlying69 rfl rfl
theorem ug:w7 Tryz.prog 40 0 0:=xV (i:=Tryz.t33) underlying40 rfl rfl (by decide) rfl
theorem z9A:fm Tryz.prog 33:=ja underlying33
theorem zoa:qw Tryz.prog 37 (.agg #[vi 0,vi 0,vi 0,vi 0]):=vV (i:=Tryz.t37) rfl rfl
theorem Mm:w7 Tryz.prog 119 1 8:=xV (i:=Tryz.t32) underlying119 rfl rfl (by decide) rfl
theorem zLA:fm Tryz.prog 32:=ja underlying32
theorem sd:w7 Tryz.prog 119 0 0:=xV (i:=Tryz.t31) underlying119 rfl rfl (by decide) rfl
theorem z1z:qw Tryz.prog 175 (.agg #[vi 0,vi 0]):=vV (i:=Tryz.t175) rfl rfl
theorem zZ:kM Tryz.prog 175 2:=vY (i:=Tryz.t175) rfl
theorem zh:uD Tryz.prog 175 2:=gE (i:=Tryz.t175) underlying175 rfl rfl
theorem YY:w7 Tryz.prog 119 2 9:=xV (i:=Tryz.t116) underlying119 rfl rfl (by decide) rfl
theorem zCp:fm Tryz.prog 116:=ja underlying116
theorem zWI:EqT Tryz.prog 223 jM:=⟨fun u v w=>by
 have c:=fun(w:World) (a b:Array Value)=>run_equalIn_agg (P:=Tryz.prog) w 9999 223 a b (by simp[Program.fieldsOf,underlying223]) (by kernel_rfl)
 have d:=fun(w:World) (a b:Int)=>run_equalIn_int (P:=Tryz.prog) w 9998 3 .i64 .i64 a b underlying3
 have e:=fun(w:World) (a b:Array Value)=>run_equalIn_agg (P:=Tryz.prog) w 9998 121 a b (by simp[Program.fieldsOf,underlying121]) (by kernel_rfl)
 have f:=fun(w:World) (a b:Int)=>run_equalIn_int (P:=Tryz.prog) w 9997 3 .i64 .i64 a b underlying3
 rw[c]
 simp[Program.fieldsOf,Op.eqFields,part,jM,c,underlying223,d,e,underlying121,f]
 rcases u with⟨u1,⟨u2,u3⟩⟩
 rcases v with⟨v1,⟨v2,v3⟩⟩
 by_cases h1:u1=v1 <;> by_cases h2:u2=v2 <;> by_cases h3:u3=v3 <;> simp[h1,h2,h3],by kernel_rfl⟩
theorem zCr:KeyT Tryz.prog 223 (ga jM):=eD underlying223 (fun _ _=>rfl) (fun b k w=>by
 have c:=fun(w:World) (a:Int)=>MapKept.run_checkKey (P:=Tryz.prog) (w:=w) (kt:=3) (k:=.int .i64 a) underlying3 (by simp[MapKept.IsKey]) b 9998
 have d:=fun(w:World) (a:Int)=>MapKept.run_checkKey (P:=Tryz.prog) (w:=w) (kt:=3) (k:=.int .i64 a) underlying3 (by simp[MapKept.IsKey]) b 9997
 have e:∀(w:World) (u0:Int) (u1:Int),(Instr.checkKey b 9999 121 (.agg #[.int .i64 u0,.int .i64 u1])).run Tryz.prog w = .ok () w:=fun w u0 u1=>by
  rw[show(9999:Nat)=9998+1 from U,Instr.checkKey]
  simp[run_underlying underlying121,d,part]
 have ck:∀(w:World) (u0:Int) (u1:Int) (u2:Int),(Instr.checkKey b 10000 223 (.agg #[.int .i64 u0,.int .i64 u1,.int .i64 u2])).run Tryz.prog w = .ok () w:=fun w u0 u1 u2=>by
  rw[show(10000:Nat)=9999+1 from U,Instr.checkKey]
  simp[run_underlying underlying223,c,e,part]
 exact ck w k.yO k.xt.ya k.xt.fQ)
 (fun u v w=>zWI.eq u v w)
 (fun k=>by simp[Instr.sameBits,jM])
theorem jC:w7 Tryz.prog 175 0 0:=xV (i:=Tryz.t3) underlying175 rfl rfl (by decide) rfl
theorem oa:kM Tryz.prog 3 1:=vY (i:=Tryz.t3) rfl
theorem YZ:w7 Tryz.prog 119 3 10:=xV (i:=Tryz.t117) underlying119 rfl rfl (by decide) rfl
theorem kw:w7 Tryz.prog 175 1 1:=xV (i:=Tryz.t3) underlying175 rfl rfl (by decide) rfl
theorem fI:KeyT Tryz.prog 9 Value.string:=Md underlying9
theorem zxk:qw Tryz.prog 303 .nilFunc:=vV (i:=Tryz.t303) rfl rfl
theorem lJ:w7 Tryz.prog 119 4 11:=xV (i:=Tryz.t41) underlying119 rfl rfl (by decide) rfl
theorem z6h:fm Tryz.prog 41:=ja underlying41
theorem ztm:kM Tryz.prog 41 1:=vY (i:=Tryz.t41) rfl
theorem zCs:qw Tryz.prog 50 vn:=vV (i:=Tryz.t50) rfl rfl
theorem zad:elT Tryz.prog 227 225 4 32:=⟨underlying227,⟨Tryz.t225,_,rfl,rfl,rfl,rfl,rfl⟩,by decide⟩
theorem zfo:elT Tryz.prog 171 227 1 24:=⟨underlying171,⟨Tryz.t227,_,rfl,rfl,rfl,rfl,rfl⟩,by decide⟩
theorem zfp:qw Tryz.prog 225 (.agg #[vi 0,vi 0,vi 0,vi 0]):=vV (i:=Tryz.t225) rfl rfl
theorem zdF:kM Tryz.prog 225 4:=vY (i:=Tryz.t225) rfl
theorem uq:w7 Tryz.prog 225 0 0:=xV (i:=Tryz.t175) underlying225 rfl rfl (by decide) rfl
theorem se:w7 Tryz.prog 225 1 2:=xV (i:=Tryz.t175) underlying225 rfl rfl (by decide) rfl
theorem z4d:uD Tryz.prog 225 4:=gE (i:=Tryz.t225) underlying225 rfl rfl
theorem zWM:qw Tryz.prog 178 (.agg #[vi 0,vi 0,vi 0,vi 0]):=vV (i:=Tryz.t178) rfl rfl
theorem zWN:kM Tryz.prog 178 4:=vY (i:=Tryz.t178) rfl
theorem ztn:uD Tryz.prog 178 4:=gE (i:=Tryz.t178) underlying178 rfl rfl
theorem ziN:fm Tryz.prog 171:=ja underlying171
theorem zLC:qw Tryz.prog 231 (.agg #[vn,vi 0,vi 0,vi 0,vi 0,.nilFunc,vn]):=vV (i:=Tryz.t231) rfl rfl
theorem zLD:kM Tryz.prog 231 7:=vY (i:=Tryz.t231) rfl
theorem eI:w7 Tryz.prog 231 2 5:=xV (i:=Tryz.t228) underlying231 rfl rfl (by decide) rfl
theorem zLE:kM Tryz.prog 228 1:=vY (i:=Tryz.t228) rfl
theorem zob:uD Tryz.prog 231 7:=gE (i:=Tryz.t231) underlying231 rfl rfl
theorem eJ:w7 Tryz.prog 231 0 0:=xV (i:=Tryz.t171) underlying231 rfl rfl (by decide) rfl
theorem zoc:fm Tryz.prog 227:=ja underlying227
theorem QH:w7 Tryz.prog 231 1 1:=xV (i:=Tryz.t178) underlying231 rfl rfl (by decide) rfl
theorem cG:w7 Tryz.prog 178 0 0:=xV (i:=Tryz.t175) underlying178 rfl rfl (by decide) rfl
theorem lK:w7 Tryz.prog 178 1 2:=xV (i:=Tryz.t175) underlying178 rfl rfl (by decide) rfl
theorem zCt:qw Tryz.prog 277 (.agg #[vi 0]):=vV (i:=Tryz.t277) rfl rfl
theorem zLF:qw Tryz.prog 307 (.agg #[vi 0]):=vV (i:=Tryz.t307) rfl rfl
theorem zCu:qw Tryz.prog 229 vn:=vV (i:=Tryz.t229) rfl rfl
theorem zLG:EqT Tryz.prog 225 qt:=⟨fun u v w=>by
 have c:=fun(w:World) (a b:Array Value)=>run_equalIn_agg (P:=Tryz.prog) w 9999 225 a b (by simp[Program.fieldsOf,underlying225]) (by kernel_rfl)
 have d:=fun(w:World) (a b:Array Value)=>run_equalIn_agg (P:=Tryz.prog) w 9998 175 a b (by simp[Program.fieldsOf,underlying175]) (by kernel_rfl)
 have e:=fun(w:World) (a b:Int)=>run_equalIn_int (P:=Tryz.prog) w 9997 3 .i64 .i64 a b underlying3
 rw[c]
 simp[Program.fieldsOf,Op.eqFields,part,qt,c,underlying225,d,underlying175,e]
 rcases u with⟨⟨u1,u2⟩,⟨u3,u4⟩⟩
 rcases v with⟨⟨v1,v2⟩,⟨v3,v4⟩⟩
 by_cases h1:u1=v1 <;> by_cases h2:u2=v2 <;> by_cases h3:u3=v3 <;> by_cases h4:u4=v4 <;> simp[h1,h2,h3,h4],by kernel_rfl⟩
theorem zdG:fm Tryz.prog 229:=ja underlying229
theorem lL:w7 Tryz.prog 307 0 0:=xV (i:=Tryz.t41) underlying307 rfl rfl (by decide) rfl
theorem z3U:elT Tryz.prog 229 175 2 16:=⟨underlying229,⟨Tryz.t175,_,rfl,rfl,rfl,rfl,rfl⟩,by decide⟩
theorem zCv:kM Tryz.prog 229 1:=vY (i:=Tryz.t229) rfl
theorem zLI:EqT Tryz.prog 175 xX:=⟨fun u v w=>by
 have c:=fun(w:World) (a b:Array Value)=>run_equalIn_agg (P:=Tryz.prog) w 9999 175 a b (by simp[Program.fieldsOf,underlying175]) (by kernel_rfl)
 have d:=fun(w:World) (a b:Int)=>run_equalIn_int (P:=Tryz.prog) w 9998 3 .i64 .i64 a b underlying3
 rw[c]
 simp[Program.fieldsOf,Op.eqFields,part,xX,c,underlying175,d]
 rcases u with⟨u1,u2⟩
 rcases v with⟨v1,v2⟩
 by_cases h1:u1=v1 <;> by_cases h2:u2=v2 <;> simp[h1,h2],by kernel_rfl⟩
theorem Gh:Mf Tryz.prog 225 1 2 175:=Uc underlying225 rfl rfl rfl
theorem sf:w7 Tryz.prog 277 0 0:=xV (i:=Tryz.t41) underlying277 rfl rfl (by decide) rfl
theorem Mn:w7 Tryz.prog 231 3 6:=xV (i:=Tryz.t229) underlying231 rfl rfl (by decide) rfl
theorem zLK:fm Tryz.prog 228:=ja underlying228
theorem zLL:elT Tryz.prog 181 41 1 8:=⟨underlying181,⟨Tryz.t41,_,rfl,rfl,rfl,rfl,rfl⟩,by decide⟩
theorem zlC:kM Tryz.prog 37 4:=vY (i:=Tryz.t37) rfl
theorem zfq:uD Tryz.prog 37 4:=gE (i:=Tryz.t37) underlying37 rfl rfl
theorem zLM:kM Tryz.prog 33 1:=vY (i:=Tryz.t33) rfl
theorem pN:w7 Tryz.prog 37 0 0:=xV (i:=Tryz.t3) underlying37 rfl rfl (by decide) rfl
theorem lM:w7 Tryz.prog 37 1 1:=xV (i:=Tryz.t3) underlying37 rfl rfl (by decide) rfl
theorem dA:w7 Tryz.prog 37 2 2:=xV (i:=Tryz.t3) underlying37 rfl rfl (by decide) rfl
theorem zlD:elT Tryz.prog 38 53 3 24:=⟨underlying38,⟨Tryz.t53,_,rfl,rfl,rfl,rfl,rfl⟩,by decide⟩
theorem WB:w7 Tryz.prog 53 1 1:=xV (i:=Tryz.t3) underlying53 rfl rfl (by decide) rfl
theorem pO:w7 Tryz.prog 40 1 1:=xV (i:=Tryz.t38) underlying40 rfl rfl (by decide) rfl
theorem zLN:kM Tryz.prog 38 1:=vY (i:=Tryz.t38) rfl
theorem zWP:qw Tryz.prog 94 (.agg #[vi 0,vi 0]):=vV (i:=Tryz.t94) rfl rfl
theorem zWQ:kM Tryz.prog 94 2:=vY (i:=Tryz.t94) rfl
theorem zxl:uD Tryz.prog 94 2:=gE (i:=Tryz.t94) underlying94 rfl rfl
theorem zLO:fm Tryz.prog 140:=ja underlying140
theorem zto:elT Tryz.prog 140 201 1 8:=⟨underlying140,⟨Tryz.t201,_,rfl,rfl,rfl,rfl,rfl⟩,by decide⟩
theorem zWR:fm Tryz.prog 201:=ja underlying201
theorem zCw:fm Tryz.prog 148:=ja underlying148
theorem zWS:qw Tryz.prog 148 (.map none):=vV (i:=Tryz.t148) rfl rfl
theorem zWT:kM Tryz.prog 148 1:=vY (i:=Tryz.t148) rfl
theorem zLP:EqT Tryz.prog 94 qE:=⟨fun u v w=>by
 have c:=fun(w:World) (a b:Array Value)=>run_equalIn_agg (P:=Tryz.prog) w 9999 94 a b (by simp[Program.fieldsOf,underlying94]) (by kernel_rfl)
 have d:=fun(w:World) (a b:Int)=>run_equalIn_int (P:=Tryz.prog) w 9998 3 .i64 .i64 a b underlying3
 rw[c]
 simp[Program.fieldsOf,Op.eqFields,part,qE,c,underlying94,d]
 rcases u with⟨u1,u2⟩
 rcases v with⟨v1,v2⟩
 by_cases h1:u1=v1 <;> by_cases h2:u2=v2 <;> simp[h1,h2],by kernel_rfl⟩
theorem zCx:KeyT Tryz.prog 94 (ga qE):=eD underlying94 (fun _ _=>rfl) (fun b k w=>by
 have c:=fun(w:World) (a:Int)=>MapKept.run_checkKey (P:=Tryz.prog) (w:=w) (kt:=3) (k:=.int .i64 a) underlying3 (by simp[MapKept.IsKey]) b 9998
 have ck:∀(w:World) (u0:Int) (u1:Int),(Instr.checkKey b 10000 94 (.agg #[.int .i64 u0,.int .i64 u1])).run Tryz.prog w = .ok () w:=fun w u0 u1=>by
  rw[show(10000:Nat)=9999+1 from U,Instr.checkKey]
  simp[run_underlying underlying94,c,part]
 exact ck w k.ya k.fQ)
 (fun u v w=>zLP.eq u v w)
 (fun k=>by simp[Instr.sameBits,qE])
theorem zod:qw Tryz.prog 69 (.agg #[.string ⟨#[]⟩,.string ⟨#[]⟩,.string ⟨#[]⟩,.string ⟨#[]⟩,vi 0,vi 0,vn]):=vV (i:=Tryz.t69) rfl rfl
theorem zLR:kM Tryz.prog 69 7:=vY (i:=Tryz.t69) rfl
theorem WE:w7 Tryz.prog 94 0 0:=xV (i:=Tryz.t3) underlying94 rfl rfl (by decide) rfl
theorem zLS:qw Tryz.prog 140 vn:=vV (i:=Tryz.t140) rfl rfl
theorem zWU:kM Tryz.prog 140 1:=vY (i:=Tryz.t140) rfl
theorem Ky:w7 Tryz.prog 94 1 1:=xV (i:=Tryz.t3) underlying94 rfl rfl (by decide) rfl
theorem Ya:w7 Tryz.prog 37 3 3:=xV (i:=Tryz.t3) underlying37 rfl rfl (by decide) rfl
theorem zWV:qw Tryz.prog 92 (.map none):=vV (i:=Tryz.t92) rfl rfl
theorem zWW:kM Tryz.prog 92 1:=vY (i:=Tryz.t92) rfl
theorem zLT:fm Tryz.prog 92:=ja underlying92
theorem zCy:elT Tryz.prog 46 50 1 24:=⟨underlying46,⟨Tryz.t50,_,rfl,rfl,rfl,rfl,rfl⟩,by decide⟩
theorem zlE:fm Tryz.prog 38:=ja underlying38
theorem zWX:EqT Tryz.prog 37 km:=⟨fun u v w=>by
 have c:=fun(w:World) (a b:Array Value)=>run_equalIn_agg (P:=Tryz.prog) w 9999 37 a b (by simp[Program.fieldsOf,underlying37]) (by kernel_rfl)
 have d:=fun(w:World) (a b:Int)=>run_equalIn_int (P:=Tryz.prog) w 9998 3 .i64 .i64 a b underlying3
 rw[c]
 simp[Program.fieldsOf,Op.eqFields,part,km,c,underlying37,d]
 rcases u with⟨u1,u2,u3,u4⟩
 rcases v with⟨v1,v2,v3,v4⟩
 by_cases h1:u1=v1 <;> by_cases h2:u2=v2 <;> by_cases h3:u3=v3 <;> by_cases h4:u4=v4 <;> simp[h1,h2,h3,h4],by kernel_rfl⟩
theorem zCz:uD Tryz.prog 53 3:=gE (i:=Tryz.t53) underlying53 rfl rfl
theorem zWY:EqT Tryz.prog 53 fg:=⟨fun u v w=>by
 have c:=fun(w:World) (a b:Array Value)=>run_equalIn_agg (P:=Tryz.prog) w 9999 53 a b (by simp[Program.fieldsOf,underlying53]) (by kernel_rfl)
 have d:=fun(w:World) (a b:Int)=>run_equalIn_int (P:=Tryz.prog) w 9998 3 .i64 .i64 a b underlying3
 rw[c]
 simp[Program.fieldsOf,Op.eqFields,part,fg,c,underlying53,d]
 rcases u with⟨u1,u2,u3⟩
 rcases v with⟨v1,v2,v3⟩
 by_cases h1:u1=v1 <;> by_cases h2:u2=v2 <;> by_cases h3:u3=v3 <;> simp[h1,h2,h3],by kernel_rfl⟩
theorem zWZ:fm Tryz.prog 50:=ja underlying50
theorem zX0:kM Tryz.prog 58 1:=vY (i:=Tryz.t58) rfl
theorem zX1:qw Tryz.prog 53 (.agg #[vi 0,vi 0,vi 0]):=vV (i:=Tryz.t53) rfl rfl
theorem zX2:kM Tryz.prog 53 3:=vY (i:=Tryz.t53) rfl
theorem Kz:w7 Tryz.prog 53 2 2:=xV (i:=Tryz.t3) underlying53 rfl rfl (by decide) rfl
theorem zX3:qw Tryz.prog 58 vn:=vV (i:=Tryz.t58) rfl rfl
theorem zX4:kM Tryz.prog 24 1:=vY (i:=Tryz.t24) rfl
theorem zoe:elT Tryz.prog 77 86 3 24:=⟨underlying77,⟨Tryz.t86,_,rfl,rfl,rfl,rfl,rfl⟩,by decide⟩
theorem zLW:uD Tryz.prog 86 3:=gE (i:=Tryz.t86) underlying86 rfl rfl
theorem zLX:qw Tryz.prog 86 (.agg #[vi 0,vi 0,vi 0]):=vV (i:=Tryz.t86) rfl rfl
theorem zLY:kM Tryz.prog 86 3:=vY (i:=Tryz.t86) rfl
theorem dB:w7 Tryz.prog 86 0 0:=xV (i:=Tryz.t3) underlying86 rfl rfl (by decide) rfl
theorem Yb:w7 Tryz.prog 86 1 1:=xV (i:=Tryz.t3) underlying86 rfl rfl (by decide) rfl
theorem WF:w7 Tryz.prog 86 2 2:=xV (i:=Tryz.t3) underlying86 rfl rfl (by decide) rfl
theorem QI:w7 Tryz.prog 134 2 9:=xV (i:=Tryz.t77) underlying134 rfl rfl (by decide) rfl
theorem zLZ:fm Tryz.prog 77:=ja underlying77
theorem Mo:w7 Tryz.prog 134 1 8:=xV (i:=Tryz.t32) underlying134 rfl rfl (by decide) rfl
theorem X0:w7 Tryz.prog 134 4 11:=xV (i:=Tryz.t132) underlying134 rfl rfl (by decide) rfl
theorem QJ{p:Option Addr} : ∀ w,(method (Tryz.prog.types.size + Made.depth) 186 (.pointer p) "Push").run Tryz.prog w = .ok (275,.pointer p) w:=fun _=>by kernel_rfl
theorem zof:fm Tryz.prog 132:=ja underlying132
theorem zdH:elT Tryz.prog 132 188 7 56:=⟨underlying132,⟨Tryz.t188,_,rfl,rfl,rfl,rfl,rfl⟩,by decide⟩
theorem zM0:kM Tryz.prog 132 1:=vY (i:=Tryz.t132) rfl
theorem YB{A : Addr}{v : Value} : ∀ w : World,w.cell? A = some v → (method (Tryz.prog.types.size + Made.depth) 186 (vq A) "Len").run Tryz.prog w = .ok (270,v) w:=fun w h=>eG (i:=Tryz.t186) rfl rfl rfl rfl underlying186 zof h
theorem cH{A : Addr}{v : Value} : ∀ w : World,w.cell? A = some v → (method (Tryz.prog.types.size + Made.depth) 186 (vq A) "Less").run Tryz.prog w = .ok (271,v) w:=fun w h=>eG (i:=Tryz.t186) rfl rfl rfl rfl underlying186 zof h
theorem zog:uD Tryz.prog 188 7:=gE (i:=Tryz.t188) underlying188 rfl rfl
theorem eK:w7 Tryz.prog 188 0 0:=xV (i:=Tryz.t3) underlying188 rfl rfl (by decide) rfl
theorem QK:w7 Tryz.prog 188 1 1:=xV (i:=Tryz.t3) underlying188 rfl rfl (by decide) rfl
theorem QL:w7 Tryz.prog 188 2 2:=xV (i:=Tryz.t3) underlying188 rfl rfl (by decide) rfl
theorem lN:w7 Tryz.prog 188 3 3:=xV (i:=Tryz.t3) underlying188 rfl rfl (by decide) rfl
theorem cI{A : Addr}{v : Value} : ∀ w : World,w.cell? A = some v → (method (Tryz.prog.types.size + Made.depth) 186 (vq A) "Swap").run Tryz.prog w = .ok (272,v) w:=fun w h=>eG (i:=Tryz.t186) rfl rfl rfl rfl underlying186 zof h
theorem zxm:kM Tryz.prog 188 7:=vY (i:=Tryz.t188) rfl
theorem K8{p:Option Addr} : ∀ w,(method (Tryz.prog.types.size + Made.depth) 186 (.pointer p) "Pop").run Tryz.prog w = .ok (274,.pointer p) w:=fun _=>by kernel_rfl
theorem zM1:qw Tryz.prog 188 (.agg #[vi 0,vi 0,vi 0,vi 0,vi 0,vi 0,vi 0]):=vV (i:=Tryz.t188) rfl rfl
theorem lO:w7 Tryz.prog 188 4 4:=xV (i:=Tryz.t60) underlying188 rfl rfl (by decide) rfl
theorem zX5:qw Tryz.prog 246 (.agg #[vi 0,vi 0]):=vV (i:=Tryz.t246) rfl rfl
theorem zX6:kM Tryz.prog 246 2:=vY (i:=Tryz.t246) rfl
theorem X3:w7 Tryz.prog 134 3 10:=xV (i:=Tryz.t130) underlying134 rfl rfl (by decide) rfl
theorem zCA:fm Tryz.prog 130:=ja underlying130
theorem zCB:uD Tryz.prog 246 2:=gE (i:=Tryz.t246) underlying246 rfl rfl
theorem zM2:qw Tryz.prog 191 (.pointer none):=vV (i:=Tryz.t191) rfl rfl
theorem zX7:EqT Tryz.prog 246 gq:=⟨fun u v w=>by
 have c:=fun(w:World) (a b:Array Value)=>run_equalIn_agg (P:=Tryz.prog) w 9999 246 a b (by simp[Program.fieldsOf,underlying246]) (by kernel_rfl)
 have d:=fun(w:World) (a b:Int)=>run_equalIn_int (P:=Tryz.prog) w 9998 3 .i64 .i64 a b underlying3
 rw[c]
 simp[Program.fieldsOf,Op.eqFields,part,gq,c,underlying246,d]
 rcases u with⟨u1,u2⟩
 rcases v with⟨v1,v2⟩
 by_cases h1:u1=v1 <;> by_cases h2:u2=v2 <;> simp[h1,h2],by kernel_rfl⟩
theorem zCC:KeyT Tryz.prog 246 (ga gq):=eD underlying246 (fun _ _=>rfl) (fun b k w=>by
 have c:=fun(w:World) (a:Int)=>MapKept.run_checkKey (P:=Tryz.prog) (w:=w) (kt:=3) (k:=.int .i64 a) underlying3 (by simp[MapKept.IsKey]) b 9998
 have ck:∀(w:World) (u0:Int) (u1:Int),(Instr.checkKey b 10000 246 (.agg #[.int .i64 u0,.int .i64 u1])).run Tryz.prog w = .ok () w:=fun w u0 u1=>by
  rw[show(10000:Nat)=9999+1 from U,Instr.checkKey]
  simp[run_underlying underlying246,c,part]
 exact ck w k.ya k.fQ)
 (fun u v w=>zX7.eq u v w)
 (fun k=>by simp[Instr.sameBits,gq])
theorem cJ:w7 Tryz.prog 134 0 0:=xV (i:=Tryz.t31) underlying134 rfl rfl (by decide) rfl
theorem eL:w7 Tryz.prog 253 0 0:=xV (i:=Tryz.t250) underlying253 rfl rfl (by decide) rfl
theorem QM:w7 Tryz.prog 250 0 0:=xV (i:=Tryz.t3) underlying250 rfl rfl (by decide) rfl
theorem X4:w7 Tryz.prog 253 1 3:=xV (i:=Tryz.t3) underlying253 rfl rfl (by decide) rfl
theorem cL:w7 Tryz.prog 253 3 5:=xV (i:=Tryz.t251) underlying253 rfl rfl (by decide) rfl
theorem zCD:fm Tryz.prog 251:=ja underlying251
theorem QN:w7 Tryz.prog 256 1 1:=xV (i:=Tryz.t3) underlying256 rfl rfl (by decide) rfl
theorem zfr:elT Tryz.prog 251 256 2 16:=⟨underlying251,⟨Tryz.t256,_,rfl,rfl,rfl,rfl,rfl⟩,by decide⟩
theorem zoh:uD Tryz.prog 256 2:=gE (i:=Tryz.t256) underlying256 rfl rfl
theorem zCE:qw Tryz.prog 256 (.agg #[vi 0,vi 0]):=vV (i:=Tryz.t256) rfl rfl
theorem zCF:kM Tryz.prog 256 2:=vY (i:=Tryz.t256) rfl
theorem zM4:kM Tryz.prog 251 1:=vY (i:=Tryz.t251) rfl
theorem Mp:w7 Tryz.prog 256 0 0:=xV (i:=Tryz.t3) underlying256 rfl rfl (by decide) rfl
theorem Mq:w7 Tryz.prog 250 2 2:=xV (i:=Tryz.t3) underlying250 rfl rfl (by decide) rfl
theorem Mr:w7 Tryz.prog 250 1 1:=xV (i:=Tryz.t3) underlying250 rfl rfl (by decide) rfl
theorem eM:w7 Tryz.prog 253 2 4:=xV (i:=Tryz.t3) underlying253 rfl rfl (by decide) rfl
theorem X5:w7 Tryz.prog 134 6 13:=xV (i:=Tryz.t79) underlying134 rfl rfl (by decide) rfl
theorem zxn:fm Tryz.prog 79:=ja underlying79
theorem z3g:elT Tryz.prog 79 83 3 24:=⟨underlying79,⟨Tryz.t83,_,rfl,rfl,rfl,rfl,rfl⟩,by decide⟩
theorem zM5:kM Tryz.prog 79 1:=vY (i:=Tryz.t79) rfl
theorem X6:w7 Tryz.prog 134 5 12:=xV (i:=Tryz.t79) underlying134 rfl rfl (by decide) rfl
theorem Yc:w7 Tryz.prog 83 2 2:=xV (i:=Tryz.t3) underlying83 rfl rfl (by decide) rfl
theorem KA:w7 Tryz.prog 83 0 0:=xV (i:=Tryz.t3) underlying83 rfl rfl (by decide) rfl
theorem WG:w7 Tryz.prog 83 1 1:=xV (i:=Tryz.t3) underlying83 rfl rfl (by decide) rfl
theorem z6R:uD Tryz.prog 83 3:=gE (i:=Tryz.t83) underlying83 rfl rfl
theorem zfs:kM Tryz.prog 83 3:=vY (i:=Tryz.t83) rfl
theorem zX8:qw Tryz.prog 83 (.agg #[vi 0,vi 0,vi 0]):=vV (i:=Tryz.t83) rfl rfl
def mT(b:List (List zd))(c:Option Bool):Nat->Int->Option Bool
 | 0,_=>none
 | d+1,a=>if decide (a<b.length) then chk (0<=a/\a<b.length) (if decide (((nth b a).length:Int)>40) then some false else mT b c d (i64 (a+1))) else c
def ob(a:zu)(b:List (List zd)):Option Bool:=
 if ((((decide ((a.fM.length:Int)>8))||(decide ((a.fS.length:Int)>8)))||(decide ((a.fK.length:Int)>20)))||(decide ((a.yc.length:Int)>20)))||(decide ((b.length:Int)>20)) then some false else mZ (some true) fun c=>mT b c xR 0
theorem K9{Z e f g i j k l m n o p q s t u v x y a b r}(h:ob a b=some r){Nx}(hz:PZ [] Nx Z)(R:ZS Z 4 (kr Z) e f a.fM)(S:ZS Z 4 (g5 Z) g i a.yd)(T:ZS Z 4 (rq ki) j k a.fS)(V:ZS Z 4 (rq gg) l m a.fK)(W:ZS Z 7 (g8 Z) n o a.yc)(X:ZS Z 5 (rq gc) p q a.fH)(Y:ZS Z 3 (g6 Z) s t a.fU)(aa:ZS Z 4 (rq ge) u v a.ye)(F:ZS Z 1 (g9 Z) x y b):
  RC 10 #[.agg #[vs e a.fM.length f,vs g a.yd.length i,vs j a.fS.length k,vs l a.fK.length m,vs n a.yc.length o,vs p a.fH.length q,vs s a.fU.length t,vs u a.ye.length v],vs x b.length y] Nx (.bool r) [] []:=by
 unfold ob at h
 refine L0 func10 U U<|B0q<|Lg 2 (wa (cs:=[vs e a.fM.length f,vs g a.yd.length i,vs j a.fS.length k,vs l a.fK.length m,vs n a.yc.length o,vs p a.fH.length q,vs s a.fU.length t,vs u a.ye.length v])) ?_
 intro ab _
 let A:=(a.fM.length:Int);let C:=(a.fS.length:Int);refine Q1n U<|WC.b<|B0q<|Le 7 (xz tw)<|Le 8 (Nt zaS .here)<|Le 9 (w9 underlying22)<|Q2q U<|Ly false 4 11 (B:=(decide (A>8))||(decide (C>8))) (hB:=(fun h=>(gO h).symm)) (fun _ G=>?_) ?_
 ·exact Le 12 (xz uN)<|Le 13 (Nt zaT .here)<|Le 14 (w9 underlying24)<|Q2q U<|Lz (gP G) U .all
 let D:=(a.fK.length:Int);refine La U<|Ly false 4 17 (B:=((decide (A>8))||(decide (C>8)))||(decide (D>20))) (hB:=(fun h=>(gO h).symm)) (fun _ H=>?_) ?_
 ·exact Le 18 (xz tx)<|Le 19 (Nt zaU .here)<|Le 20 (w9 underlying25)<|Q2q U<|Lz (gP H) U .all
 let E:=(a.yc.length:Int);refine La U<|Ly false 4 23 (B:=(((decide (A>8))||(decide (C>8)))||(decide (D>20)))||(decide (E>20))) (hB:=(fun h=>(gO h).symm)) (fun _ I=>?_) ?_
 ·exact Le 24 (xz uO)<|Le 25 (Nt zab .here)<|Le 26 (w9 underlying26)<|Q2q U<|Lz (gP I) U .all
 refine La U<|Ly false 3 29 (B:=((((decide (A>8))||(decide (C>8)))||(decide (D>20)))||(decide (E>20)))||(decide ((b.length:Int)>20))) (hB:=(fun h=>(gO h).symm)) (fun _ J=>?_) ?_
 ·exact La U<|Le 31 (w9 underlying32)<|Q2q U<|Lz (gP J) U .all
 refine Q0n<|Lj h (fun K h=>?_)<|fun K h=>?_
 ·exact B1n U<|Ny<|Lk<|oJ h▸Nl results10
 ·refine Nn<|jK0 h fun z L h=>Nd (z=some r) ([]) ([]) ?_ ?_
  ·refine B1q U<|Le 35 (w9 underlying32)<|Q1n U<|WC.block<|Ng (fun d c=>(mT b z d c=some r)) (fun d c=>[(34,vs x b.length y),(35,vi (b.length:Int)),(36,vi c)]) (fun d c=>[]) (fun d c=>d) ⟨xR,0⟩ h .q .nil ?_
   rintro(_|M) c h;·cases h
   rw[mT] at h
   refine B1n U<|WC.b<|Lj h (fun N h=>?_)<|fun N h=>?_
   ·refine Nn<|WC.b<|WC.block<|WC.b<|cK h fun O h=>Ld<|L2 (Z:=Z) (Pr:=(g9 Z)) z8K F O ?_
    rintro ad ae P af ⟨ag,ah,rfl,ai⟩
    refine Le 39 (xA z9v U<|kN hz.pv P)<|Q1n U<|B1q U<|Le 41 (w9 underlying58)<|Q1n U<|Lj h (fun Q h=>?_)<|fun Q h=>?_
    ·exact B1n U<|Ny<|Lw<|Lk<|Lk<|Lw<|Lk<|oJ h▸Nl results10
    ·exact N2<|Lt<|Lb<|D2q U<|WL.nil<|Nz ⟨M,i64 (c+1)⟩ h .q .nil
   ·exact N1<|Lm<|Lm<|Lv<|Lo () h .nil .nil
  ·rintro  h
   replace h:=L.symm.trans h
   exact B1n U<|Ny<|oJ h▸Nl results10
def oX  : Option (zu×List (List zd)):=
 some ((⟨([(⟨⟨#[109]⟩,0,0,[]⟩:yH),(⟨⟨#[110]⟩,0,0,[]⟩:yH)]:List yH),[],([(⟨⟨#[115]⟩,0,16,100⟩:yu)]:List yu),([(⟨⟨#[109]⟩,⟨#[115]⟩,0,1⟩:yK),(⟨⟨#[110]⟩,⟨#[115]⟩,0,1⟩:yK)]:List yK),([(⟨⟨#[]⟩,(⟨⟨#[]⟩,⟨#[]⟩,⟨#[]⟩⟩:yG),200,40,[]⟩:yw)]:List yw),[],[],[]⟩:zu),([([(⟨0,2,0⟩:zd),(⟨2,1,1⟩:zd)]:List zd)]:List (List zd)))
theorem XM{Z r}(h:oX=some r){Nx}(hz:PZ [] Nx Z):
  Calls Tryz.prog 19 #[] Nx fun e w'=>∃ Zn:Zp,∃ a:Option Addr,∃ b:Nat,∃ c:List Value,∃ d:Option Addr,∃ f:Nat,∃ g:Option Addr,∃ i:Nat,∃ j:Option Addr,∃ k:Nat,∃ m:Option Addr,∃ n:Nat,∃ o:List Value,∃ p:Option Addr,∃ q:Nat,∃ s:Option Addr,∃ t:Nat,∃ u:Option Addr,∃ x:Nat,∃ y:Option Addr,∃ z:Nat,∃ B:List Value,e = .returned (.tuple #[.agg #[vs a r.1.fM.length b,vs d r.1.yd.length f,vs g r.1.fS.length i,vs j r.1.fK.length k,vs m r.1.yc.length n,vs p r.1.fH.length q,vs s r.1.fU.length t,vs u r.1.ye.length x],vs y r.2.length z])/\((RR 4 (kr (Z++Zn)) c r.1.fM)/\(ZS (Z++Zn) 4 (g5 (Z++Zn)) d f r.1.yd)/\(RR 7 (g8 (Z++Zn)) o r.1.yc)/\(ZS (Z++Zn) 5 (rq gc) p q r.1.fH)/\(ZS (Z++Zn) 3 (g6 (Z++Zn)) s t r.1.fU)/\(ZS (Z++Zn) 4 (rq ge) u x r.1.ye)/\(RR 1 (g9 (Z++Zn)) B r.2))/\Hp [] Nx w' [fz Zn,row (vs a r.1.fM.length b) 126 4 c,row (vs g r.1.fS.length i) 64 4 (r.1.fS.flatMap ki),row (vs j r.1.fK.length k) 62 4 (r.1.fK.flatMap gg),row (vs m r.1.yc.length n) 69 7 o,row (vs y r.2.length z) 58 1 B]:=by
 unfold oX at h
 refine Od func19 U U<|WC.pool<|B0q (Lg 0 (xT (cs:=[vn,vn,vn,vn,vn,vn,vn,vn]) zxg) fun Q _=>Q1n U<|B0q<|Le 3 (we (v:=(.agg #[.string ⟨#[109]⟩,vi 0,vi 0,vn])) (Lq (l:=[.const (.string ⟨#[109]⟩)]) (.cons U .nil) [0]))<|Le 4 (we (v:=(.agg #[.string ⟨#[110]⟩,vi 0,vi 0,vn])) (Lq (l:=[.const (.string ⟨#[110]⟩)]) (.cons U .nil) [0])) ?_)
 let D:List Value:=[.string ⟨#[109]⟩,vi 0,vi 0,vn,.string ⟨#[110]⟩,vi 0,vi 0,vn];have L:RR 4 (kr (Z++[])) D ([(⟨⟨#[109]⟩,0,0,[]⟩:yH),(⟨⟨#[110]⟩,0,0,[]⟩:yH)]:List yH):=(RR.cons (r:=[.string ⟨#[109]⟩,vi 0,vi 0,vn]) U (show kr _ _ _ from⟨_,_,U,ZS.nil _ _ _⟩) (RR.cons (r:=[.string ⟨#[110]⟩,vi 0,vi 0,vn]) U (show kr _ _ _ from⟨_,_,U,ZS.nil _ _ _⟩) (RR.nil _ _)))
 refine Lg 5 (wj (cs:=[.string ⟨#[109]⟩,vi 0,vi 0,vn,.string ⟨#[110]⟩,vi 0,vi 0,vn]) zLv (Lq (l:=[.tmp 3,.tmp 4]) (.r2 U U) [0,1])) fun E _=>Le 6 (we (v:=(.agg #[.string ⟨#[115]⟩,vi 0,vi 16,vi 100])) (Lq (l:=[.const (.string ⟨#[115]⟩),.const (vi 16),.const (vi 100)]) (.r3 U U U) [0,2,3])) (Lg 7 (wj (cs:=([(⟨⟨#[115]⟩,0,16,100⟩:yu)]:List yu).flatMap ki) zbR (Lq (l:=[.tmp 6]) (.cons U .nil) [0])) fun F _=>Le 8 (we (v:=(.agg #[.string ⟨#[109]⟩,.string ⟨#[115]⟩,vi 0,vi 1])) (Lq (l:=[.const (.string ⟨#[109]⟩),.const (.string ⟨#[115]⟩),.const (vi 1)]) (.r3 U U U) [0,1,3]))<|Le 9 (we (v:=(.agg #[.string ⟨#[110]⟩,.string ⟨#[115]⟩,vi 0,vi 1])) (Lq (l:=[.const (.string ⟨#[110]⟩),.const (.string ⟨#[115]⟩),.const (vi 1)]) (.r3 U U U) [0,1,3])) (Lg 10 (wj (cs:=([(⟨⟨#[109]⟩,⟨#[115]⟩,0,1⟩:yK),(⟨⟨#[110]⟩,⟨#[115]⟩,0,1⟩:yK)]:List yK).flatMap gg) zdD (Lq (l:=[.tmp 8,.tmp 9]) (.r2 U U) [0,1])) fun G _=>Le 11 (we (v:=(.agg #[.string ⟨#[]⟩,.string ⟨#[]⟩,.string ⟨#[]⟩,.string ⟨#[]⟩,vi 200,vi 40,vn])) (Lq (l:=[.const (vi 200),.const (vi 40)]) (.r2 U U) [2,3])) ?_))
 let A:List Value:=[.string ⟨#[]⟩,.string ⟨#[]⟩,.string ⟨#[]⟩,.string ⟨#[]⟩,vi 200,vi 40,vn];have M:RR 7 (g8 (Z++[])) A ([(⟨⟨#[]⟩,(⟨⟨#[]⟩,⟨#[]⟩,⟨#[]⟩⟩:yG),200,40,[]⟩:yw)]:List yw):=(RR.cons (r:=A) U (show g8 _ _ _ from⟨_,_,U,ZS.nil _ _ _⟩) (RR.nil _ _))
 refine Lg 12 (wj (cs:=[.string ⟨#[]⟩,.string ⟨#[]⟩,.string ⟨#[]⟩,.string ⟨#[]⟩,vi 200,vi 40,vn]) zfn (Lq (l:=[.tmp 11]) (.cons U .nil) [0])) fun H _=>Le 13 (we (v:=(.agg #[vs (some ⟨E,0,none⟩) (([(⟨⟨#[109]⟩,0,0,[]⟩:yH),(⟨⟨#[110]⟩,0,0,[]⟩:yH)]:List yH).length) 2,vn,vs (some ⟨F,0,none⟩) (([(⟨⟨#[115]⟩,0,16,100⟩:yu)]:List yu).length) 1,vs (some ⟨G,0,none⟩) (([(⟨⟨#[109]⟩,⟨#[115]⟩,0,1⟩:yK),(⟨⟨#[110]⟩,⟨#[115]⟩,0,1⟩:yK)]:List yK).length) 2,vs (some ⟨H,0,none⟩) (([(⟨⟨#[]⟩,(⟨⟨#[]⟩,⟨#[]⟩,⟨#[]⟩⟩:yG),200,40,[]⟩:yw)]:List yw).length) 1,vn,vn,vn])) (Lq (l:=[.tmp 5,.tmp 7,.tmp 10,.tmp 12]) (.r4 U U U U) [0,2,3,4])) (Lg 2 (xT (cs:=[vn,vn,vn,vn,vn,vn,vn,vn]) zxg) fun R _=>Ll (xP zxh .here)<|Q0n<|B0q<|Le 14 (xK z2v (xM .here))<|Le 15 (we (v:=(.agg #[vi 0,vi 2,vi 0])) (Lq (l:=[.const (vi 0),.const (vi 2),.const (vi 0)]) (.r3 U U U) [0,1,2]))<|Le 16 (we (v:=(.agg #[vi 2,vi 1,vi 1])) (Lq (l:=[.const (vi 2),.const (vi 1),.const (vi 1)]) (.r3 U U U) [0,1,2])) (Lg 17 (wj (cs:=([(⟨0,2,0⟩:zd),(⟨2,1,1⟩:zd)]:List zd).flatMap mN) z7F (Lq (l:=[.tmp 15,.tmp 16]) (.r2 U U) [0,1])) fun I _=>WL.freezeS (ls:=([(⟨0,2,0⟩:zd),(⟨2,1,1⟩:zd)]:List zd)) .here .h6 hz (RR.flat (enc:=mN)) ?_))
 intro J K N
 let C:Value:=(vs (some ⟨I,0,none⟩) (([(⟨0,2,0⟩:zd),(⟨2,1,1⟩:zd)]:List zd).length) 2);have O:RR 1 (g9 (Z++J)) [C] ([([(⟨0,2,0⟩:zd),(⟨2,1,1⟩:zd)]:List zd)]:List (List zd)):=(RR.cons (r:=[C]) U (show g9 _ _ _ from⟨_,_,U,N⟩) (RR.nil _ _))
 exact Lg 18 (wj (cs:=[vs (some ⟨I,0,none⟩) (([(⟨0,2,0⟩:zd),(⟨2,1,1⟩:zd)]:List zd).length) 2]) z8K (Lq (l:=[.tmp 17]) (.cons U .nil) [0])) fun P _=>Ll (xP zxh .h7)<|Q1n U<|Ny<|oJ h▸Li results19 (.agg U z2v U (xM .here)<|.tmp U .nil) fun w hw=>⟨J,some ⟨E,0,none⟩,2,D,none,0,some ⟨F,0,none⟩,1,some ⟨G,0,none⟩,2,some ⟨H,0,none⟩,1,A,none,0,none,0,none,0,some ⟨P,0,none⟩,1,[C],q9,⟨L.weak (fun _ _ h=>wV K h),ZS.nil _ _ _,M.weak (fun _ _ h=>wX K h),ZS.nil _ _ _,ZS.nil _ _ _,ZS.nil _ _ _,O⟩,hw.sub (.s6 .h2 .h6 .h5 .h4 .h3 .h1)⟩
def kD(a:zu):Option Int:=
 some (i64 ((a.fM.length:Int)+(a.fS.length:Int)))
theorem bO{Z b c d e f g i j k l m n o p q s a r}(h:kD a=some r){Nx}(hz:PZ [] Nx Z)(t:ZS Z 4 (kr Z) b c a.fM)(u:ZS Z 4 (g5 Z) d e a.yd)(v:ZS Z 4 (rq ki) f g a.fS)(x:ZS Z 4 (rq gg) i j a.fK)(y:ZS Z 7 (g8 Z) k l a.yc)(z:ZS Z 5 (rq gc) m n a.fH)(A:ZS Z 3 (g6 Z) o p a.fU)(B:ZS Z 4 (rq ge) q s a.ye):
  RC 172 #[.agg #[vs b a.fM.length c,vs d a.yd.length e,vs f a.fS.length g,vs i a.fK.length j,vs k a.yc.length l,vs m a.fH.length n,vs o a.fU.length p,vs q a.ye.length s]] Nx (vi r) [] []:=by
 unfold kD at h
 refine L8 func172 U U<|B0q (Lg 1 (wa (cs:=[vs b a.fM.length c,vs d a.yd.length e,vs f a.fS.length g,vs i a.fK.length j,vs k a.yc.length l,vs m a.fH.length n,vs o a.fU.length p,vs q a.ye.length s])) fun C _=>Q1n U<|B0q<|Le 3 (xz tw)<|Le 4 (Nt zaS .here)<|Le 5 (w9 underlying22)<|Le 6 (xz uN)<|Le 7 (Nt zaT .here)<|Le 8 (w9 underlying24)<|Q2n U<|Ny ?_)
 exact oJ h▸Nl results172
def fJ(a:zu)(b:Int):Option ByteArray:=
 (if decide (b<0) then some true else(kD a).bind fun c=>some (decide (b>=c))).bind fun d=>if d then some ⟨#[]⟩ else if decide (b<a.fM.length) then chk (0<=b/\b<a.fM.length) (some ((nth a.fM b).yB)) else chk (0<=(i64 (b-(a.fM.length:Int)))/\(i64 (b-(a.fM.length:Int)))<a.fS.length) (some ((nth a.fS (i64 (b-(a.fM.length:Int)))).yB))
theorem WH{Z c d e f g i j k l m n o p q s t a u r}(h:fJ a u=some r){Nx}(hz:PZ [] Nx Z)(v:ZS Z 4 (kr Z) c d a.fM)(z:ZS Z 4 (g5 Z) e f a.yd)(x:ZS Z 4 (rq ki) g i a.fS)(A:ZS Z 4 (rq gg) j k a.fK)(C:ZS Z 7 (g8 Z) l m a.yc)(D:ZS Z 5 (rq gc) n o a.fH)(E:ZS Z 3 (g6 Z) p q a.fU)(F:ZS Z 4 (rq ge) s t a.ye):
  RC 173 #[.agg #[vs c a.fM.length d,vs e a.yd.length f,vs g a.fS.length i,vs j a.fK.length k,vs l a.yc.length m,vs n a.fH.length o,vs p a.fU.length q,vs s a.ye.length t],vi u] Nx (.string r) [] []:=by
 unfold fJ at h
 refine L0 func173 U U<|B0q (Lg 2 (wa (cs:=[vs c a.fM.length d,vs e a.yd.length f,vs g a.fS.length i,vs j a.fK.length k,vs l a.yc.length m,vs n a.fH.length o,vs p a.fU.length q,vs s a.ye.length t])) fun P _=>Q1n U<|B0q<|Le 6 (xz tw)<|Le 7 (Nt zaS .here)<|Le 8 (w9 underlying22)<|Q1n U<|WC.block<|WC.b ?_)
 refine bK h fun G y h=>D3q U<|Ly false 4 20 (B:=G) (hB:=(fun h=>(oJ<|qY y h).symm)) (fun _ H=>?_) ?_
 ·have b:=qZ y H
  obtain⟨ab,I,b⟩:=za b
  replace b:=oJ b
  exact La U<|Le 22 (xK z2v (xM .here))<|Nr call172 hz (fun pz=>bO I pz v z x A C D E F)<|Q2q U<|Lz b U .all
 refine Q1n U<|Lj h (fun J h=>?_)<|fun J h=>?_
 ·exact B1n U<|Ny<|Lw<|oJ h▸Nl results173
 ·refine B4n U<|Lj h (fun K h=>?_)<|fun K h=>?_
  ·refine WC.b<|cK h fun L h=>Ld<|Le 30 (xz tw)<|Le 31 (Nt zaS .here)<|La U<|L2 (Z:=Z) (Pr:=(kr Z)) zLv v L ?_
   rintro Q R M S ⟨T,V,rfl,W⟩
   exact Le 34 (xz Ml)<|Le 35 (xA XL U<|wq hz.pv M)<|Q1n U<|Ny<|Lw<|oJ h▸Nl results173
  ·refine WC.b<|cK h fun N h=>Ld<|Le 9 (xz uN)<|Le 10 (Nt zaT .here)<|La U<|La U<|La U<|L2 (Z:=Z) (Pr:=(rq ki)) zbR x N ?_
   rintro X Y O aa rfl
   exact Le 15 (xz Ul)<|Le 16 (xA XL U<|wq hz.pv O)<|Q1n U<|Ny<|Lw<|oJ h▸Nl results173
def vW(b:Int)(c:zu)(d:ByteArray)(e:Option Int):Nat->Int->Option Int
 | 0,_=>none
 | f+1,a=>if decide (a<b) then(fJ c a).bind fun g=>if decide (g=d) then some a else vW b c d e f (i64 (a+1)) else e
def jb(a:zu)(b:ByteArray):Option Int:=
 mZ (some (-1)) fun c=>(kD a).bind fun d=>vW d a b c xR 0
theorem dC{Z e f g i j k l m n o p q s t u v a d r}(h:jb a d=some r){Nx}(hz:PZ [] Nx Z)(x:ZS Z 4 (kr Z) e f a.fM)(y:ZS Z 4 (g5 Z) g i a.yd)(z:ZS Z 4 (rq ki) j k a.fS)(B:ZS Z 4 (rq gg) l m a.fK)(C:ZS Z 7 (g8 Z) n o a.yc)(D:ZS Z 5 (rq gc) p q a.fH)(E:ZS Z 3 (g6 Z) s t a.fU)(F:ZS Z 4 (rq ge) u v a.ye):
  RC 140 #[.agg #[vs e a.fM.length f,vs g a.yd.length i,vs j a.fS.length k,vs l a.fK.length m,vs n a.yc.length o,vs p a.fH.length q,vs s a.fU.length t,vs u a.ye.length v],.string d] Nx (vi r) [] []:=by
 unfold jb at h
 refine L0 func140 U U ?_
 let A:List Value:=[vs e a.fM.length f,vs g a.yd.length i,vs j a.fS.length k,vs l a.fK.length m,vs n a.yc.length o,vs p a.fH.length q,vs s a.fU.length t,vs u a.ye.length v];refine B0q<|Lg 2 (wa (cs:=A)) ?_
 intro G _
 refine Q1n U<|jK0 h fun H J h=>Nd (H=some r) ([]) ([]) ?_ ?_
 ·refine WC.b<|bK h fun I K h=>Ld<|Le 6 (xK z2v (xM .here))<|Nr call172 hz (fun pz=>bO K pz x y z B C D E F)<|Q1n U<|WC.block<|Ng (fun c b=>(vW I a d H c b=some r)) (fun c b=>[(1,.string d),(2,vp G),(7,vi I),(8,vi b)]) (fun c b=>[stb G 31 A]) (fun c b=>c) ⟨xR,0⟩ h .q (.cons .here .nil) ?_
  rintro(_|L) b h;·cases h
  rw[vW] at h
  refine B1n U<|WC.b<|Lj h (fun M h=>?_)<|fun M h=>?_
  ·refine Nn<|WC.b<|WC.block<|B2n U<|WC.b<|bK h fun P N h=>Ld<|Le 11 (xK z2v (xM .here))<|La U<|Nr call173 hz (fun pz=>WH N pz x y z B C D E F)<|La U<|Le 15 (GT U U)<|Q0n<|Lj h (fun O h=>?_)<|fun O h=>?_
   ·exact B2n U<|Ny<|Lw<|Lk<|Lk<|Lw<|Lk<|oJ h▸Nl results140
   ·exact N2<|Lt<|Lb<|D2q U<|WL.nil<|Nz ⟨L,i64 (b+1)⟩ h .q<|.cons .here .nil
  ·exact N1<|Lm<|Lm<|Lv<|Lo () h .nil .nil
 ·rintro  h
  replace h:=J.symm.trans h
  exact B1n U<|Ny<|oJ h▸Nl results140
def uP(a:zu)(c:Int)(b:Int):Option Bool:=
 if decide (b<a.fM.length) then some (decide (b>=0)) else chk (0<=(i64 (b-(a.fM.length:Int)))/\(i64 (b-(a.fM.length:Int)))<a.fS.length) (some (((((decide (((nth a.fS (i64 (b-(a.fM.length:Int)))).yQ)=c))&&(decide (((nth a.fS (i64 (b-(a.fM.length:Int)))).yl)>=0)))&&(decide (((nth a.fS (i64 (b-(a.fM.length:Int)))).yl)<=1000)))&&(decide (((nth a.fS (i64 (b-(a.fM.length:Int)))).fT)>=0)))&&(decide (((nth a.fS (i64 (b-(a.fM.length:Int)))).fT)<=1073741824))))
theorem dE{Z c d e f g i j k l m n o p q s t a b u r}(h:uP a b u=some r){Nx}(hz:PZ [] Nx Z)(G:ZS Z 4 (kr Z) c d a.fM)(H:ZS Z 4 (g5 Z) e f a.yd)(v:ZS Z 4 (rq ki) g i a.fS)(I:ZS Z 4 (rq gg) j k a.fK)(J:ZS Z 7 (g8 Z) l m a.yc)(K:ZS Z 5 (rq gc) n o a.fH)(L:ZS Z 3 (g6 Z) p q a.fU)(M:ZS Z 4 (rq ge) s t a.ye):
  RC 141 #[.agg #[vs c a.fM.length d,vs e a.yd.length f,vs g a.fS.length i,vs j a.fK.length k,vs l a.yc.length m,vs n a.fH.length o,vs p a.fU.length q,vs s a.ye.length t],vi b,vi u] Nx (.bool r) [] []:=by
 unfold uP at h
 refine Nk func141 U U<|B0q (Lg 3 (wa (cs:=[vs c a.fM.length d,vs e a.yd.length f,vs g a.fS.length i,vs j a.fK.length k,vs l a.yc.length m,vs n a.fH.length o,vs p a.fU.length q,vs s a.ye.length t])) fun N _=>Q1n U<|WC.b<|B1q U<|Le 9 (xz tw)<|Le 10 (Nt zaS .here)<|Le 11 (w9 underlying22)<|Q1n U<|Lj h (fun x h=>?_)<|fun x h=>?_)
 ·exact B3n U<|Ny<|Lk<|oJ h▸Nl results141
 ·refine Nn<|WC.b<|cK h fun y h=>Ld<|Le 15 (xz uN)<|Le 16 (Nt zaT .here)<|La U<|Le 18 (xz tw)<|Le 19 (Nt zaS .here)<|Le 20 (w9 underlying22)<|La U<|L2 (Z:=Z) (Pr:=(rq ki)) zbR v y ?_
  rintro O P z Q rfl
  refine Le 23 (xK zWD (qx hz.pv z))<|Lg 7 (xT (cs:=[.string ⟨#[]⟩,vi 0,vi 0,vi 0]) zWE) ?_
  intro R _
  let A:=(i64 (u-(a.fM.length:Int)));refine Ll (xP zWF .here)<|Q0n<|B0q<|Le 24 (xz Kx)<|Le 25 (Nt xJ .here)<|La U<|La U<|La U<|Ly true 3 28 (B:=(decide (((nth a.fS A).yQ)=b))&&(decide (((nth a.fS A).yl)>=0))) (fun _ C=>?_) ?_
  ·exact Le 29 (xz dz)<|Le 30 (Nt xJ .here)<|Q2q U<|Lz (kS C) U .all
  refine La U<|Ly true 3 33 (B:=((decide (((nth a.fS A).yQ)=b))&&(decide (((nth a.fS A).yl)>=0)))&&(decide (((nth a.fS A).yl)<=1000))) (fun _ D=>?_) ?_
  ·exact Le 34 (xz dz)<|Le 35 (Nt xJ .here)<|Q2q U<|Lz (kS D) U .all
  refine La U<|Ly true 3 38 (B:=(((decide (((nth a.fS A).yQ)=b))&&(decide (((nth a.fS A).yl)>=0)))&&(decide (((nth a.fS A).yl)<=1000)))&&(decide (((nth a.fS A).fT)>=0))) (fun _ E=>?_) ?_
  ·exact Le 39 (xz Y9)<|Le 40 (Nt xJ .here)<|Q2q U<|Lz (kS E) U .all
  refine La U<|Ly true 3 43 (B:=((((decide (((nth a.fS A).yQ)=b))&&(decide (((nth a.fS A).yl)>=0)))&&(decide (((nth a.fS A).yl)<=1000)))&&(decide (((nth a.fS A).fT)>=0)))&&(decide (((nth a.fS A).fT)<=1073741824))) (fun _ F=>?_) ?_
  ·exact Le 44 (xz Y9)<|Le 45 (Nt xJ .here)<|Q2q U<|Lz (kS F) U .all
  exact Q1n U<|Ny<|oJ h▸Nl results141
def tJ(a:zu)(e:Int)(b:Int)(f:Int)(g:Int):Option Bool:=
 if (decide (b<0))||(decide (b>=a.fK.length)) then some false else chk (0<=b/\b<a.fK.length) ((jb a ((nth a.fK b).fA)).bind fun c=>(jb a ((nth a.fK b).fB)).bind fun d=>(if (((decide (((nth a.fK b).yQ)=e))&&(decide (((nth a.fK b).yp)>=1)))&&(decide (((nth a.fK b).yp)<=16)))&&(decide (c≠d)) then(uP a e c).bind fun h=>some h else some false).bind fun i=>(if i then(uP a e d).bind fun j=>some j else some false).bind fun k=>some (k&&(((decide (c=f))&&(decide (d=g)))||((decide (c=g))&&(decide (d=f))))))
theorem XN{Z t u v x y z A C D E F G H I J K a g b c d r}(h:tJ a g b c d=some r){Nx}(hz:PZ [] Nx Z)(l:ZS Z 4 (kr Z) t u a.fM)(m:ZS Z 4 (g5 Z) v x a.yd)(n:ZS Z 4 (rq ki) y z a.fS)(i:ZS Z 4 (rq gg) A C a.fK)(o:ZS Z 7 (g8 Z) D E a.yc)(p:ZS Z 5 (rq gc) F G a.fH)(q:ZS Z 3 (g6 Z) H I a.fU)(s:ZS Z 4 (rq ge) J K a.ye):
  RC 93 #[.agg #[vs t a.fM.length u,vs v a.yd.length x,vs y a.fS.length z,vs A a.fK.length C,vs D a.yc.length E,vs F a.fH.length G,vs H a.fU.length I,vs J a.ye.length K],vi g,vi b,vi c,vi d] Nx (.bool r) [] []:=by
 unfold tJ at h
 refine Ol func93 U U<|B0q (Lg 5 (wa (cs:=[vs t a.fM.length u,vs v a.yd.length x,vs y a.fS.length z,vs A a.fK.length C,vs D a.yc.length E,vs F a.fH.length G,vs H a.fU.length I,vs J a.ye.length K])) fun aj _=>Q1n U<|WC.b<|B3q U<|Ly false 5 16 (B:=(decide (b<0))||(decide (b>=a.fK.length))) (hB:=(fun h=>(gO h).symm)) (fun _ O=>?_) ?_)
 ·exact La U<|Le 18 (xz tx)<|Le 19 (Nt zaU .here)<|Le 20 (w9 underlying25)<|Q2q U<|Lz (gP O) U .all
 refine Q0n<|Lj h (fun P h=>?_)<|fun P h=>?_
 ·exact B1n U<|Ny<|Lk<|oJ h▸Nl results93
 ·refine Nn<|WC.b<|cK h fun Q h=>Ld<|Le 23 (xz tx)<|Le 24 (Nt zaU .here)<|La U<|L2 (Z:=Z) (Pr:=(rq gg)) zdD i Q ?_
  rintro ak al R am rfl
  refine Le 27 (xK zLw (qx hz.pv R)) (Lg 11 (xT (cs:=[.string ⟨#[]⟩,.string ⟨#[]⟩,vi 0,vi 0]) zLx) fun an _=>Ll (xP zLy .here)<|Q0n<|WC.b ?_)
  refine bK h fun e S h=>bK h fun f T h=>Lu nc []<|Lh 0 U (xK z2v (xM .h1))<|Lf 1 U (xz Uk)<|Lh 2 U (Nt XL .here)<|L4 3 U (Ns call140) (cc hz .nil fun w pz ho=>dC S pz l m n i o p q s)<|Lh 4 U (xK z2v (xM .h1))<|Lf 5 U (xz Um)<|Lh 6 U (Nt XL .here)<|L4 7 U (Ns call140) (cc hz .nil fun w pz ho=>dC T pz l m n i o p q s)<|Lf 8 U q_z<|Lf 9 U q_z<|N0<|Lb<|WC.b<|bK h fun V L h=>bK h fun M N h=>Ld<|Le 36 (xz Un)<|Le 37 (Nt xJ .here)<|La U<|La U<|La U<|Ly true 3 40 (B:=(decide (((nth a.fK b).yQ)=g))&&(decide (((nth a.fK b).yp)>=1))) (fun _ W=>?_) ?_
  ·exact Le 41 (xz rK)<|Le 42 (Nt xJ .here)<|Q2q U<|Lz (kS W) U .all
  refine La U<|Ly true 3 45 (B:=((decide (((nth a.fK b).yQ)=g))&&(decide (((nth a.fK b).yp)>=1)))&&(decide (((nth a.fK b).yp)<=16))) (fun _ X=>?_) ?_
  ·exact Le 46 (xz rK)<|Le 47 (Nt xJ .here)<|Q2q U<|Lz (kS X) U .all
  refine La U<|Ly true 3 50 (B:=(((decide (((nth a.fK b).yQ)=g))&&(decide (((nth a.fK b).yp)>=1)))&&(decide (((nth a.fK b).yp)<=16)))&&(decide (e≠f))) (fun _ Y=>?_) ?_
  ·exact La U<|La U<|La U<|La U<|Lz (kS Y) U .all
  refine La U<|Ly true 4 55 (B:=V) (hB:=(fun h=>(oJ<|qZ L h).symm)) (fun _ aa=>?_) ?_
  ·have j:=qY L aa
   obtain⟨ao,ab,j⟩:=za j
   replace j:=oJ j
   exact Le 56 (xK z2v (xM .h1))<|Q2q U<|Nr call141 hz (fun pz=>dE ab pz l m n i o p q s)<|La U<|Lz j U .all
  refine La U<|Ly true 4 61 (B:=M) (hB:=(fun h=>(oJ<|qZ N h).symm)) (fun _ ad=>?_) ?_
  ·have k:=qY N ad
   obtain⟨ap,ae,k⟩:=za k
   replace k:=oJ k
   exact Le 62 (xK z2v (xM .h1))<|Q2q U<|Nr call141 hz (fun pz=>dE ae pz l m n i o p q s)<|La U<|Lz k U .all
  refine La U<|Ly true 18 67 (B:=M&&(((decide (e=c))&&(decide (f=d)))||((decide (e=d))&&(decide (f=c))))) (fun _ af=>?_) ?_
  ·refine La U<|La U<|La U<|La U<|Ly true 3 71 (B:=(decide (e=c))&&(decide (f=d))) (fun _ ag=>?_) ?_
   ·exact La U<|La U<|La U<|La U<|Lz (kS ag) U .all
   refine La U<|Ly false 8 76 (B:=((decide (e=c))&&(decide (f=d)))||((decide (e=d))&&(decide (f=c)))) (hB:=(fun h=>(gO h).symm)) (fun _ ah=>?_) ?_
   ·refine La U<|La U<|La U<|La U<|Ly true 3 80 (B:=(decide (e=d))&&(decide (f=c))) (fun _ ai=>?_) ?_
    ·exact La U<|La U<|La U<|La U<|Lz (kS ai) U .all
    exact La U<|Lz (gP ah) U .all
   exact La U<|Lz (kS af) U .all
  exact Q1n U<|Ny<|oJ h▸Nl results93
def kJ(b:List zd)(d:zu)(f:Int)(g:Option Bool):Nat->Int->(List (Int×Int))->Option Bool
 | 0,_,_=>none
 | i+1,a,e=>if decide (a<b.length) then chk (0<=a/\a<b.length) (qI (fun(c:List (Int×Int))=>chk (((decide ((xI c ((nth b a).ya) 0)=0))||(decide ((xI c ((nth b a).fX) 0)>0)))=false->((decide (a>0))=true->((0:Int)<=0/\0<(b.length:Int)))) ((if ((decide ((xI c ((nth b a).ya) 0)=0))||(decide ((xI c ((nth b a).fX) 0)>0)))||(((decide (a>0))&&(decide (((nth b a).ya)≠((nth b 0).ya))))&&(decide (((nth b a).ya)<d.fM.length))) then some true else(tJ d f ((nth b a).fQ) ((nth b a).ya) ((nth b a).fX)).bind fun j=>some (!j)).bind fun k=>if k then some false else kJ b d f g i (i64 (a+1)) (w6 c ((nth b a).fX) (i64 ((xI c ((nth b a).fX) 0)+1))))) fun h=>if decide (a=0) then h (w6 e ((nth b a).ya) (i64 ((xI e ((nth b a).ya) 0)+1))) else h e) else g
def tK(b:zu)(c:Int)(a:List zd):Option Bool:=
 mZ (some (decide ((a.length:Int)<=32))) fun d=>kJ a b c d xR 0 ([]:List (Int×Int))
theorem XO{Z s t u x y z B I J K L M N O P Q R S c e b r}(h:tK c e b=some r){Nx}(hz:PZ [] Nx Z)(an:ZS Z 4 (kr Z) s t c.fM)(ao:ZS Z 4 (g5 Z) u x c.yd)(ap:ZS Z 4 (rq ki) y z c.fS)(aq:ZS Z 4 (rq gg) B I c.fK)(ar:ZS Z 7 (g8 Z) J K c.yc)(au:ZS Z 5 (rq gc) L M c.fH)(av:ZS Z 3 (g6 Z) N O c.fU)(aw:ZS Z 4 (rq ge) P Q c.ye)(af:ZS Z 3 (rq mN) R S b):
  RC 52 #[.agg #[vs s c.fM.length t,vs u c.yd.length x,vs y c.fS.length z,vs B c.fK.length I,vs J c.yc.length K,vs L c.fH.length M,vs N c.fU.length O,vs P c.ye.length Q],vi e,vs R b.length S] Nx (.bool r) [] []:=by
 unfold tK at h
 refine Nk func52 U U ?_
 let A:List Value:=[vs s c.fM.length t,vs u c.yd.length x,vs y c.fS.length z,vs B c.fK.length I,vs J c.yc.length K,vs L c.fH.length M,vs N c.fU.length O,vs P c.ye.length Q];refine B0q<|Lg 3 (wa (cs:=A)) ?_
 intro g _
 refine Q1n U<|B0q (Lg 10 (kH vI<|Value.int .i64) fun l _=>Q1n U ?_)
 obtain⟨ag,ax,h⟩:=qj h
 let C:Value:=(vs R b.length S);refine Nd (ag=some r) ([(2,C)]) ([]) ?_ ?_
 ·refine B1q U<|Le 12 (w9 underlying58)<|Q1n U<|WC.block<|H4 (fun n a f=>(kJ b c e ag n a f=some r)) (fun n a f=>[(1,vi e),(2,C),(3,vp g),(7,(.map<|some l)),(11,C),(12,vi (b.length:Int)),(13,vi a)]) (fun n a f=>[stb g 31 A,xN l vI vI f]) (fun n a f=>n) ⟨xR,0,([]:List (Int×Int))⟩ h .q (.s2 .h1 .here) ?_
  rintro(_|ay) a f h;·cases h
  rw[kJ] at h
  refine B1n U<|WC.b<|Lj h (fun az h=>?_)<|fun az h=>?_
  ·refine Nn<|WC.b<|WC.block<|WC.b<|cK h fun aA h=>D1q U<|L2 (Z:=Z) (Pr:=(rq mN)) z7F af aA ?_
   rintro aM aN aB aO rfl
   refine Le 17 (xK z54 (qx hz.pv aB)) (Lg 9 (xT (cs:=[vi 0,vi 0,vi 0]) zdE) fun m _=>La U<|Ll (xP zbS .here)<|Q0n ?_)
   refine jK1 h fun aC aD h=>Na (fun d=>(aC d=some r)) (fun d=>[(1,vi e),(2,C),(3,vp g),(7,(.map<|some l)),(8,vi a),(9,vp m),(11,C),(12,vi (b.length:Int)),(13,vi a)]) (fun d=>[stb g 31 A,xN l vI vI d,stb m 60 [(vi<|(nth b a).ya),(vi<|(nth b a).fX),(vi<|(nth b a).fQ)]]) ?_ ?_
   ·refine B2n U<|Lj h (fun aE h=>?_)<|fun aE h=>?_
    ·exact D1q U<|Le 21 (xz ku)<|Le 22 (Nt xJ .here)<|Le 23 (jg (k:=((nth b a).ya)) (dflt:=(0:Int)) gM underlying148 jF .h2)<|La U<|Ll (kV (k:=((nth b a).ya)) (v:=i64 ((xI f ((nth b a).ya) 0)+1)) gM underlying148 .h2)<|WL.nil<|Lo (w6 f ((nth b a).ya)<|i64 ((xI f ((nth b a).ya) 0)+1)) h .q<|.s3 .h2 .here .here
    ·exact N2<|Lo f h .q<|.s3 .h1 .h1 .here
   ·rintro d h
    replace h:=(aD d).symm.trans h
    refine WC.b<|WC.b ?_
    obtain⟨aF,h⟩:=xG h
    obtain⟨aG,ah,h⟩:=za h
    let E:Value:=(vi (b.length:Int));let F:Value:=(.bool ((decide ((xI d ((nth b a).ya) 0)=0))||(decide ((xI d ((nth b a).fX) 0)>0))));refine Lu nc []<|Lf 0 U q_m<|Lf 1 U (xz ku)<|Lh 2 U (Nt xJ .h2)<|Lh 3 U (jg (k:=((nth b a).ya)) (dflt:=(0:Int)) gM underlying148 jF .h1)<|Lf 4 U (e8 U U)<|Lf 5 U q_m<|Nf (fuel':=33) [(1,vi e),(2,C),(3,vp g),(7,(.map<|some l)),(8,vi a),(9,vp m),(11,C),(12,E),(13,vi a),(30,(.bool<|decide ((xI d ((nth b a).ya) 0)=0))),(36,F)] (vA 45 (dn 12)) ?_<|fun ai=>?_
    rotate_left
    ·rcases Bool.eq_false_or_eq_true (decide ((xI d ((nth b a).ya) 0)=0)) with hb' | hb'
     ·have T:=hb';clear hb'
      refine L3 (i:=30) U T<|Lp 6 U<|Lp 7 U<|Lp 8 U<|Lp 9 U<|Lp 10 U<|Lf 11 U qW<|Lx .a3 ?_ ai
      exact .t 9<|.r2 (zA<|Eq.symm T)<|zA<|gO T
     ·have V:=hb';clear hb'
      refine L3 (i:=30) U V<|Lf 6 U q_m<|Lf 7 U (xz mD)<|Lh 8 U (Nt xJ .h2)<|Lh 9 U (jg (k:=((nth b a).fX)) (dflt:=(0:Int)) gM underlying148 jF .h1)<|Lf 10 U pJ<|Lf 11 U qX<|Lx .a3 ?_ ai
      exact .t 9<|.r2 (zA<|Eq.symm V)<|zA<|gP V
    let H:=(c.fM.length:Int);let D:Value:=(.bool (((decide ((xI d ((nth b a).ya) 0)=0))||(decide ((xI d ((nth b a).fX) 0)>0)))||(((decide (a>0))&&(decide (((nth b a).ya)≠((nth b 0).ya))))&&(decide (((nth b a).ya)<H)))));refine WD.d (bz 12 33)<|Lf 12 U q_m<|Nf (fuel':=12) [(1,vi e),(2,C),(3,vp g),(7,(.map<|some l)),(9,vp m),(11,C),(12,E),(13,vi a),(37,F),(57,D)] (vA 45 (dn 33)) ?_<|fun aj=>?_
    rotate_left
    ·rcases Bool.eq_false_or_eq_true ((decide ((xI d ((nth b a).ya) 0)=0))||(decide ((xI d ((nth b a).fX) 0)>0))) with hb' | hb'
     ·have W:=hb';clear hb'
      refine L3 (i:=37) U W<|Lp 13 U<|Lp 14 U<|Lp 15 U<|Lp 16 U<|Lp 17 U<|Lp 18 U<|Lp 19 U<|Lp 20 U<|Lp 21 U<|Lp 22 U<|Lp 23 U<|Lp 24 U<|Lp 25 U<|Lp 26 U<|Lp 27 U<|Lp 28 U<|Lp 29 U<|Lp 30 U<|Lp 31 U<|Lf 32 U qW<|Lx .a3 ?_ aj
      exact .t 8<|.r2 (zA<|Eq.symm W)<|zA<|gO W
     ·have p:=hb';clear hb'
      have aH:=aF p
      let G:Value:=(.bool ((decide (a>0))&&(decide (((nth b a).ya)≠((nth b 0).ya)))));refine L3 (i:=37) U p<|Lf 13 U q_m<|Lf 14 U pJ<|Lf 15 U q_m<|Nf (fuel':=21) [(1,vi e),(2,C),(3,vp g),(7,(.map<|some l)),(9,vp m),(11,C),(12,E),(13,vi a),(37,.bool false),(40,(.bool<|decide (a>0))),(48,G)] (vA 45 (dn 24)) ?_<|fun ak=>?_
      rotate_left
      ·rcases Bool.eq_false_or_eq_true (decide (a>0)) with hb' | hb'
       ·have q:=hb';clear hb'
        have aI:=aH q
        refine L3 (i:=40) U q<|Lf 16 U (xz ku)<|Lh 17 U (Nt xJ .h2)<|Lf 18 U q_m<|L5 (j:=19) (Z:=Z) (Pr:=(rq mN)) z7F af aI ?_
        rintro aP aQ aJ aR rfl
        refine Lf 20 U (xz ku)<|Lh 21 U (xA xJ U<|wq hz.pv aJ)<|Lf 22 U (Xy U U)<|Lf 23 U qW<|Lx .a3 ?_ ak
        exact .t 9<|.r2 (zA<|Eq.symm q)<|zA<|kS q
       ·have X:=hb';clear hb'
        refine L3 (i:=40) U X<|Lp 16 U<|Lp 17 U<|Lp 18 U<|Lp 19 U<|Lp 20 U<|Lp 21 U<|Lp 22 U<|Lf 23 U qX<|Lx .a3 ?_ ak
        exact .t 9<|.r2 (zA<|Eq.symm X)<|zA<|kR X
      refine WD.d (bz 24 21)<|Lf 24 U q_m<|Nf (fuel':=13) [(1,vi e),(2,C),(3,vp g),(7,(.map<|some l)),(9,vp m),(11,C),(12,E),(13,vi a),(37,.bool false),(49,G),(56,(.bool<|((decide (a>0))&&(decide (((nth b a).ya)≠((nth b 0).ya))))&&(decide (((nth b a).ya)<H))))] (vA 45 (dn 32)) ?_<|fun al=>?_
      rotate_left
      ·rcases Bool.eq_false_or_eq_true ((decide (a>0))&&(decide (((nth b a).ya)≠((nth b 0).ya)))) with hb' | hb'
       ·have Y:=hb';clear hb'
        refine L3 (i:=49) U Y<|Lf 25 U (xz ku)<|Lh 26 U (Nt xJ .h2)<|Lf 27 U (xz tw)<|Lh 28 U (Nt zaS .here)<|Lf 29 U (w9 underlying22)<|Lf 30 U ra<|Lf 31 U qW<|Lx .a3 ?_ al
        exact .t 9<|.r2 (zA<|Eq.symm Y)<|zA<|kS Y
       ·have aa:=hb';clear hb'
        refine L3 (i:=49) U aa<|Lp 25 U<|Lp 26 U<|Lp 27 U<|Lp 28 U<|Lp 29 U<|Lp 30 U<|Lf 31 U qX<|Lx .a3 ?_ al
        exact .t 9<|.r2 (zA<|Eq.symm aa)<|zA<|kR aa
      refine WD.d (bz 32 13)<|Lf 32 U qX<|Lx .a3 ?_ aj
      exact .t 8<|.r2 (zA<|Eq.symm p)<|zA<|gP p
    refine WD.d (bz 33 12)<|Lf 33 U q_m<|Nf (fuel':=0) [(1,vi e),(2,C),(3,vp g),(7,(.map<|some l)),(9,vp m),(11,C),(12,E),(13,vi a),(58,D),(69,.bool aG)] (vA 45 (dn 45)) ?_<|fun am=>?_
    rotate_left
    ·rcases Bool.eq_false_or_eq_true (((decide ((xI d ((nth b a).ya) 0)=0))||(decide ((xI d ((nth b a).fX) 0)>0)))||(((decide (a>0))&&(decide (((nth b a).ya)≠((nth b 0).ya))))&&(decide (((nth b a).ya)<H)))) with hb' | hb'
     ·have ab:=hb';clear hb'
      have ad:=qY ah ab
      replace ad:=oJ ad
      refine L3 (i:=58) U ab<|Lp 34 U<|Lp 35 U<|Lp 36 U<|Lp 37 U<|Lp 38 U<|Lp 39 U<|Lp 40 U<|Lp 41 U<|Lp 42 U<|Lp 43 U<|Lf 44 U qW<|Lx .a3 ?_ am
      exact .t 8<|.r2 (zA<|Eq.symm ab)<|zA ad
     ·have ae:=hb';clear hb'
      have o:=qZ ah ae
      obtain⟨aS,aK,o⟩:=za o
      replace o:=oJ o
      refine L3 (i:=58) U ae<|Lh 34 U (xK z2v (xM .here))<|Lf 35 U q_m<|Lf 36 U (xz sq)<|Lh 37 U (Nt xJ .h2)<|Lf 38 U (xz ku)<|Lh 39 U (Nt xJ .h2)<|Lf 40 U (xz mD)<|Lh 41 U (Nt xJ .h2)<|L4 42 U (Ns call93) (cc hz .nil fun w pz ho=>XN aK pz an ao ap aq ar au av aw)<|Lf 43 U (Xz U)<|Lf 44 U qX<|Lx .a3 ?_ am
      exact .t 8<|.r2 (zA<|Eq.symm ae)<|zA o
    refine WD.d (bz 45 0)<|N0<|Lb<|Lj h (fun aL h=>?_)<|fun aL h=>?_
    ·exact B1n U<|Ny<|Lk<|Lw<|Lk<|Lk<|Lw<|Lk<|oJ h▸Nl results52
    ·exact Nn<|D1q U<|Le 71 (xz mD)<|Le 72 (Nt xJ .h2)<|Le 73 (jg (k:=((nth b a).fX)) (dflt:=(0:Int)) gM underlying148 jF .h1)<|La U<|Ll (kV (k:=((nth b a).fX)) (v:=i64 ((xI d ((nth b a).fX) 0)+1)) gM underlying148 .h1)<|WL.nil<|Lt<|Lb<|D2q U<|WL.nil<|Nz ⟨ay,i64 (a+1),(w6 d ((nth b a).fX)<|i64 ((xI d ((nth b a).fX) 0)+1))⟩ h .q<|.s2 .h1 .here
  ·exact N1<|Lm<|Lm<|Lv<|Lo () h (.cons U .nil) .nil
 ·rintro  h
  replace h:=ax.symm.trans h
  exact B1q U<|Le 77 (w9 underlying58)<|Q2n U<|Ny<|oJ h▸Nl results52
def vX(a:List zd)(b:zu)(c:Int):Option Bool:=
 (tK b c a).bind fun d=>some (!d)
theorem Ym{Z c d e f g i j k l m n o p q s t u v x y b a z r}(h:vX b a z=some r){Nx}(hz:PZ [] Nx Z)(A:ZS Z 3 (rq mN) c d b)(B:ZS Z 4 (kr Z) f g a.fM)(C:ZS Z 4 (g5 Z) i j a.yd)(D:ZS Z 4 (rq ki) k l a.fS)(E:ZS Z 4 (rq gg) m n a.fK)(F:ZS Z 7 (g8 Z) o p a.yc)(G:ZS Z 5 (rq gc) q s a.fH)(H:ZS Z 3 (g6 Z) t u a.fU)(I:ZS Z 4 (rq ge) v x a.ye)(J:ZC Z e [vs f a.fM.length g,vs i a.yd.length j,vs k a.fS.length l,vs m a.fK.length n,vs o a.yc.length p,vs q a.fH.length s,vs t a.fU.length u,vs v a.ye.length x])(K:ZC Z y [vi z]):
  RC 51 #[vs c b.length d,vq e,vq y] Nx (.bool r) [] []:=by
 unfold vX at h
 exact Nk func51 U U<|B1n U<|WC.b<|bK h fun M L h=>Ld<|Le 5 (xK z2v (qx hz.pv J))<|Le 6 (xA xJ U<|kN hz.pv K)<|La U<|Nr call52 hz (fun pz=>XO L pz B C D E F G H I A)<|Q2n U<|Ny<|oJ h▸Nl results51
def wr(b:List (List zd))(zbW:(List zd)->Option Bool)(c:Option Int):Nat->Int->Option Int
 | 0,_=>none
 | d+1,a=>if decide (a<b.length) then chk (0<=a/\a<b.length) ((zbW (nth b a)).bind fun e=>if e then some a else wr b zbW c d (i64 (a+1))) else c
def qy(a:List (List zd))(zbW:(List zd)->Option Bool):Option Int:=
 mZ (some (-1)) fun b=>wr a zbW b xR 0
theorem rP{Z d g}(zlG ztL){b}(zbW){r}(h:qy b zbW=some r){Nx}(hz:PZ [] Nx Z)(j:ZS Z 1 (g9 Z) d g b)(k:∀ args w,(callFunc zlG args).run Tryz.prog w = .ok (.enter zlG args) w)(m:∀ w:World,PZ [] w Z->∀(x0:List zd) (im:Option Addr) (eR:Nat) (r:Bool),ZS Z 3 (rq mN) im eR x0->zbW x0=some r->Calls Tryz.prog zlG (([vs im x0.length eR]:List Value)++ztL).toArray w fun e w'=>e = .returned (.bool r)/\Hp [] w w' []):
  RC 92 #[vs d b.length g,.func (.func zlG) #[] (ztL).toArray] Nx (vi r) [] []:=by
 unfold qy at h
 refine L0 func92 U U<|B1n U<|jK0 h fun i n h=>Nd (i=some r) ([]) ([]) ?_ ?_
 ·refine B1q U<|Le 7 (w9 underlying32)<|Q1n U<|WC.block<|Ng (fun c a=>(wr b zbW i c a=some r)) (fun c a=>[(0,vs d b.length g),(1,.func (.func zlG) #[] (ztL).toArray),(7,vi (b.length:Int)),(8,vi a)]) (fun c a=>[]) (fun c a=>c) ⟨xR,0⟩ h .q .nil ?_
  rintro(_|o) a h;·cases h
  rw[wr] at h
  refine B1n U<|WC.b<|Lj h (fun p h=>?_)<|fun p h=>?_
  ·refine Nn<|WC.b<|WC.block<|B2n U<|WC.b<|cK h fun q h=>bK h fun s t h=>D3q U<|L2 (Z:=Z) (Pr:=(g9 Z)) z8K j q ?_
   rintro A B u C ⟨v,x,rfl,y⟩
   refine Le 15 (xA z9v U<|kN hz.pv u)<|Ln 16 (qg (l:=[.tmp 15]) (f:=zlG) (caps:=ztL) k<|.cons U .nil) .nil (fun w hw=>m w (hz.now hw) (nth b a) v x s y t)<|Q0n<|Lj h (fun z h=>?_)<|fun z h=>?_
   ·exact B2n U<|Ny<|Lw<|Lk<|Lk<|Lw<|Lk<|oJ h▸Nl results92
   ·exact N2<|Lt<|Lb<|D2q U<|WL.nil<|Nz ⟨o,i64 (a+1)⟩ h .q .nil
  ·exact N1<|Lm<|Lm<|Lv<|Lo () h .nil .nil
 ·rintro  h
  replace h:=n.symm.trans h
  exact B1n U<|Ny<|oJ h▸Nl results92
def wN(a:List (List zd))(zlH:(List zd)->Option Bool):Option Bool:=
 (qy a zlH).bind fun b=>some (decide (b>=0))
theorem mn{Z b c}(zlI ztN){a}(zlH){r}(h:wN a zlH=some r){Nx}(hz:PZ [] Nx Z)(d:ZS Z 1 (g9 Z) b c a)(f:∀ args w,(callFunc zlI args).run Tryz.prog w = .ok (.enter zlI args) w)(g:∀ w:World,PZ [] w Z->∀(x0:List zd) (im:Option Addr) (eR:Nat) (r:Bool),ZS Z 3 (rq mN) im eR x0->zlH x0=some r->Calls Tryz.prog zlI (([vs im x0.length eR]:List Value)++ztN).toArray w fun e w'=>e = .returned (.bool r)/\Hp [] w w' []):
  RC 50 #[vs b a.length c,.func (.func zlI) #[] (ztN).toArray] Nx (.bool r) [] []:=by
 unfold wN at h
 exact L0 func50 U U<|B1n U<|WC.b<|bK h fun j i h=>D2q U<|Nr call92 hz (fun pz=>rP (zlG:=zlI) (ztL:=ztN) (zbW:=zlH) i pz d f g)<|Q2n U<|Ny<|oJ h▸Nl results50
def kE(c:zu)(a:Int)(b:List (List zd)):Option Bool:=
 (if (((decide (a=0))||(decide (a=1)))&&(decide ((b.length:Int)=(c.yc.length:Int))))&&(decide ((b.length:Int)<=16)) then(wN b (fun(y0:List zd)=>vX y0 c a)).bind fun d=>some (!d) else some false).bind fun e=>some e
theorem uh{Z e f g i j k m n o p q s t u v x y z a b c r}(h:kE a b c=some r){Nx}(hz:PZ [] Nx Z)(D:ZS Z 4 (kr Z) e f a.fM)(E:ZS Z 4 (g5 Z) g i a.yd)(F:ZS Z 4 (rq ki) j k a.fS)(G:ZS Z 4 (rq gg) m n a.fK)(H:ZS Z 7 (g8 Z) o p a.yc)(I:ZS Z 5 (rq gc) q s a.fH)(J:ZS Z 3 (g6 Z) t u a.fU)(K:ZS Z 4 (rq ge) v x a.ye)(L:ZS Z 1 (g9 Z) y z c):
  RC 22 #[.agg #[vs e a.fM.length f,vs g a.yd.length i,vs j a.fS.length k,vs m a.fK.length n,vs o a.yc.length p,vs q a.fH.length s,vs t a.fU.length u,vs v a.ye.length x],vi b,vs y c.length z] Nx (.bool r) [] []:=by
 unfold kE at h
 refine Nk func22 U U<|B0q (Lg 3 (wa (cs:=[vs e a.fM.length f,vs g a.yd.length i,vs j a.fS.length k,vs m a.fK.length n,vs o a.yc.length p,vs q a.fH.length s,vs t a.fU.length u,vs v a.ye.length x])) fun M _=>Lg 4 (wa (cs:=[vi b])) fun N _=>Q1n U<|WC.b ?_)
 refine bK h fun O C h=>Ld<|Le 7 (Nt xJ .here)<|Q2q U<|Ly false 2 9 (B:=(decide (b=0))||(decide (b=1))) (hB:=(fun h=>(gO h).symm)) (fun _ P=>?_) ?_
 ·exact Le 10 (Nt xJ .here)<|Q2q U<|Lz (gP P) U .all
 let A:=(a.yc.length:Int);refine La U<|Ly true 6 13 (B:=((decide (b=0))||(decide (b=1)))&&(decide ((c.length:Int)=A))) (fun _ Q=>?_) ?_
 ·exact La U<|Le 15 (w9 underlying32)<|Le 16 (xz uO)<|Le 17 (Nt zab .h1)<|Le 18 (w9 underlying26)<|Q2q U<|Lz (kS Q) U .all
 refine La U<|Ly true 3 21 (B:=(((decide (b=0))||(decide (b=1)))&&(decide ((c.length:Int)=A)))&&(decide ((c.length:Int)<=16))) (fun _ R=>?_) ?_
 ·exact La U<|Le 23 (w9 underlying32)<|Q2q U<|Lz (kS R) U .all
 refine La U<|Ly true 4 26 (B:=O) (hB:=(fun h=>(oJ<|qZ C h).symm)) (fun _ S=>?_) ?_
 ·have d:=qY C S
  obtain⟨V,T,d⟩:=za d
  replace d:=oJ d
  exact La U<|Le 28 (wJ<|L6 (l:=[.tmp 3,.tmp 4])<|.r2 U U)<|Ln 29 (Ns call50) .nil (ux hz .nil (.s2 .h1 .here) fun w pz ho la=>mn (zlI:=51) (ztN:=[vp M,vp N]) (zlH:=(fun(y0:List zd)=>vX y0 a b)) T pz ((L.mono<|zl).weak (fun _ _ h=>qa zl h)) call51<|fun w' hz' y0 ga0 gc0 r DD hr=>Ym hr hz' DD ((D.mono<|zl).weak (fun _ _ h=>wV zl h)) ((E.mono<|zl).weak (fun _ _ h=>vt zl h)) (F.mono<|zl) (G.mono<|zl) ((H.mono<|zl).weak (fun _ _ h=>wX zl h)) (I.mono<|zl) ((J.mono<|zl).weak (fun _ _ h=>vu zl h)) (K.mono<|zl) ((la _ (.head _) _).stb)<|(la _ (.tail _<|.head _) _).stb)<|Q2q U<|Lz d U .all
 exact Q1n U<|Ny<|oJ h▸Nl results22
def mt(a:zd):Option z6:=
 some (⟨a.ya,a.fQ⟩:z6)
theorem tL{Z a r}(h:mt a=some r){Nx}(hz:PZ [] Nx Z):
  RC 60 #[.agg #[vi a.ya,vi a.fX,vi a.fQ]] Nx (.agg #[vi r.ya,vi r.fQ]) [] []:=by
 unfold mt at h
 refine L8 func60 U U<|B0q (Lg 1 (wa (cs:=[vi a.ya,vi a.fX,vi a.fQ])) fun b _=>Lg 2 (xT (cs:=[vi 0,vi 0]) ztk) fun c _=>Q0n<|B0q<|Le 3 (xz ku)<|Le 4 (Nt xJ .h1)<|Le 5 (xz sq)<|Le 6 (Nt xJ .h1)<|Le 7 (we (v:=(.agg #[vi a.ya,vi a.fQ])) (Lq (l:=[.tmp 4,.tmp 6]) (.r2 U U) [0,1]))<|Ll (xP zxi .here)<|Q0n<|Ny ?_)
 exact oJ h▸Nm results60 (.agg U z6Q U (xM .here) .nil) .nil
def wz(b:List z6)(c:z6)(d:Option Int):Nat->Int->Option Int
 | 0,_=>none
 | e+1,a=>if decide (a<b.length) then chk (0<=a/\a<b.length) (if decide (c=(⟨(nth b a).ya,(nth b a).fQ⟩:z6)) then some a else wz b c d e (i64 (a+1))) else d
def jp(a:List z6)(b:z6):Option Int:=
 mZ (some (-1)) fun c=>wz a b c xR 0
theorem rQ{Z g i e c r}(h:jp e c=some r){Nx}(hz:PZ [] Nx Z)(m:ZS Z 2 (rq w8) g i e):
  RC 157 #[vs g e.length i,.agg #[vi c.ya,vi c.fQ]] Nx (vi r) [] []:=by
 unfold jp at h
 refine L0 func157 U U<|B0q (Lg 3 (wa (cs:=[vi c.ya,vi c.fQ])) fun k _=>Q1n U ?_)
 refine jK0 h fun l n h=>Nd (l=some r) ([]) ([]) ?_ ?_
 ·refine B1q U<|Le 7 (w9 underlying112)<|Q1n U<|WC.block<|Ng (fun f d=>(wz e c l f d=some r)) (fun f d=>[(0,vs g e.length i),(3,vp k),(7,vi (e.length:Int)),(8,vi d)]) (fun f d=>[stb k 121 [vi c.ya,vi c.fQ]]) (fun f d=>f) ⟨xR,0⟩ h .q (.cons .here .nil) ?_
  rintro(_|o) d h;·cases h
  rw[wz] at h
  refine B1n U<|WC.b<|Lj h (fun p h=>?_)<|fun p h=>?_
  ·refine Nn<|WC.b<|WC.block<|B2n U<|WC.b<|cK h fun q h=>Lu nc []<|Lh 0 U (xK z6Q (xM .here))<|Lf 1 U q_m<|Lf 2 U q_m<|L5 (j:=3) (Z:=Z) (Pr:=(rq w8)) z9w m q ?_
   rintro u v s x rfl
   refine Lh 4 U (xK z6Q (qx hz.pv s))<|Lf 5 U (lz (enc:=w8) (a:=c) (b:=(⟨(nth e d).ya,(nth e d).fQ⟩:z6)) zxj)<|N0<|Lb<|Lj h (fun t h=>?_)<|fun t h=>?_
   ·exact B2n U<|Ny<|Lw<|Lk<|Lk<|Lw<|Lk<|oJ h▸Nl results157
   ·exact N2<|Lt<|Lb<|D2q U<|WL.nil<|Nz ⟨o,i64 (d+1)⟩ h .q<|.cons .here .nil
  ·exact N1<|Lm<|Lm<|Lv<|Lo () h .nil .nil
 ·rintro  h
  replace h:=n.symm.trans h
  exact B1n U<|Ny<|oJ h▸Nl results157
def qb(a:List z6)(b:z6):Option Bool:=
 (jp a b).bind fun c=>some (decide (c>=0))
theorem sM{Z c d b a r}(h:qb b a=some r){Nx}(hz:PZ [] Nx Z)(e:ZS Z 2 (rq w8) c d b):
  RC 114 #[vs c b.length d,.agg #[vi a.ya,vi a.fQ]] Nx (.bool r) [] []:=by
 unfold qb at h
 refine L0 func114 U U<|B0q (Lg 3 (wa (cs:=[vi a.ya,vi a.fQ])) fun g _=>Q1n U<|WC.b ?_)
 exact bK h fun i f h=>D1q U<|Le 6 (xK z6Q (xM .here))<|Nr call157 hz (fun pz=>rQ f pz e)<|Q2n U<|Ny<|oJ h▸Nl results114
def tM(a:Int):Option Bool:=
 some (decide (a≠a))
theorem bP{Z a r}(h:tM a=some r){Nx}(hz:PZ [] Nx Z):
  RC 131 #[vi a] Nx (.bool r) [] []:=by
 unfold tM at h
 exact L8 func131 U U<|B1n U<|B4n U<|Ny<|oJ h▸Nl results131
def qm(a:Int)(b:Int):Option Int:=
 (tM a).bind fun d=>(tM b).bind fun c=>if d then if c then some 0 else some (-1) else if c then some 1 else if decide (a<b) then some (-1) else if decide (a>b) then some 1 else some 0
theorem kp{Z a b r}(h:qm a b=some r){Nx}(hz:PZ [] Nx Z):
  RC 85 #[vi a,vi b] Nx (vi r) [] []:=by
 unfold qm at h
 refine L0 func85 U U<|B1n U<|WC.b<|bK h fun k c h=>D1q U<|Nr call131 hz (bP c)<|Q1n U<|WC.b<|bK h fun l d h=>D1q U<|Nr call131 hz (bP d)<|Q1n U<|WC.b<|B1n U<|Lj h (fun e h=>?_)<|fun e h=>?_
 ·refine WC.b<|B1n U<|Lj h (fun f h=>?_)<|fun f h=>?_
  ·exact B1n U<|Ny<|Lk<|Lk<|oJ h▸Nl results85
  ·exact Nn<|B1n U<|Ny<|Lk<|oJ h▸Nl results85
 ·refine Nn<|WC.b<|B1n U<|Lj h (fun g h=>?_)<|fun g h=>?_
  ·exact B1n U<|Ny<|Lk<|oJ h▸Nl results85
  ·refine Nn<|WC.b<|B3n U<|Lj h (fun i h=>?_)<|fun i h=>?_
   ·exact B1n U<|Ny<|Lk<|oJ h▸Nl results85
   ·refine Nn<|WC.b<|B3n U<|Lj h (fun j h=>?_)<|fun j h=>?_
    ·exact B1n U<|Ny<|Lk<|oJ h▸Nl results85
    ·exact Nn<|B1n U<|Ny<|oJ h▸Nl results85
def mu(b:List Int)(c:Option Int):Nat->Int->Option Int
 | 0,_=>none
 | d+1,a=>if decide (a<b.length) then chk (0<=a/\a<b.length) (if decide ((nth b a)≠0) then some (nth b a) else mu b c d (i64 (a+1))) else c
def uT(a:List Int):Option Int:=
 mZ (some 0) fun b=>mu a b xR 0
theorem cM{Z d e b r}(h:uT b=some r){Nx}(hz:PZ [] Nx Z)(g:ZS Z 1 (rq e3) d e b):
  RC 84 #[vs d b.length e] Nx (vi r) [] []:=by
 unfold uT at h
 refine L8 func84 U U<|B1n U<|B1n U<|jK0 h fun f i h=>Nd (f=some r) ([(3,vi 0)]) ([]) ?_ ?_
 ·refine B1q U<|Le 7 (w9 underlying50)<|Q1n U<|WC.block<|Ng (fun c a=>(mu b f c a=some r)) (fun c a=>[(3,vi 0),(6,vs d b.length e),(7,vi (b.length:Int)),(8,vi a)]) (fun c a=>[]) (fun c a=>c) ⟨xR,0⟩ h .q .nil ?_
  rintro(_|j) a h;·cases h
  rw[mu] at h
  refine B1n U<|WC.b<|Lj h (fun k h=>?_)<|fun k h=>?_
  ·refine Nn<|WC.b<|WC.block<|WC.b<|cK h fun l h=>Ld<|L2 (Z:=Z) (Pr:=(rq e3)) z7G g l ?_
   rintro o p m q rfl
   refine Le 11 (xA xJ U<|kN hz.pv m)<|Q1n U<|B3n U<|Lj h (fun n h=>?_)<|fun n h=>?_
   ·exact B2n U<|Ny<|Lw<|Lk<|Lk<|Lw<|Lk<|oJ h▸Nl results84
   ·exact N2<|Lt<|Lb<|D2q U<|WL.nil<|Nz ⟨j,i64 (a+1)⟩ h .q .nil
  ·exact N1<|Lm<|Lm<|Lv<|Lo () h (.cons U .nil) .nil
 ·rintro  h
  replace h:=i.symm.trans h
  exact B2n U<|Ny<|oJ h▸Nl results84
def vS(a:z6)(b:z6):Option Int:=
 (qm a.ya b.ya).bind fun c=>(qm a.fQ b.fQ).bind fun d=>(uT ([c,d]:List Int)).bind fun e=>some e
theorem oY{Z a b r}(h:vS a b=some r){Nx}(hz:PZ [] Nx Z):
  RC 45 #[.agg #[vi a.ya,vi a.fQ],.agg #[vi b.ya,vi b.fQ]] Nx (vi r) [] []:=by
 unfold vS at h
 refine L0 func45 U U<|B0q (Lg 2 (wa (cs:=[vi a.ya,vi a.fQ])) fun j _=>Lg 3 (wa (cs:=[vi b.ya,vi b.fQ])) fun k _=>Q1n U<|WC.b ?_)
 refine bK h fun c d h=>bK h fun e f h=>bK h fun n g h=>Lu nc []<|Lf 0 U (xz lI)<|Lh 1 U (Nt xJ .h1)<|Lf 2 U (xz lI)<|Lh 3 U (Nt xJ .here)<|L4 4 U (Ns call85) (cc hz .nil fun w pz ho=>kp d pz )<|Lf 5 U (xz cF)<|Lh 6 U (Nt xJ .h1)<|Lf 7 U (xz cF)<|Lh 8 U (Nt xJ .here)<|L4 9 U (Ns call85) (cc hz .nil fun w pz ho=>kp f pz ) (WD.new (i:=10) U U (wj (cs:=([c,e]:List Int).flatMap e3) z7G (Lq (l:=[.tmp 9,.tmp 14]) (.r2 U U) [0,1])) (fun h'=>absurd h' (by decide)) fun m _=>L4 11 U (Ns call84) (ux hz .nil (.cons .here .nil) fun w pz ho la=>cM g pz<|ZA.row (la _ (.head _) _) (RR.flat (enc:=e3)) ⟨w,pz.1⟩)<|Lf 12 U q_z<|N0<|Lb<|Ny ?_)
 exact oJ h▸Nl results45
def fj(zaZ:Int):Option Int:=chk (0<=zaZ/\zaZ<=18446744073709551615) (some ((Go.Lib.bitLen (zaZ).toNat:Nat):Int))
theorem oZ{Z}(zaZ r){Nx}(hz:PZ [] Nx Z)(h:fj zaZ=some r):Calls Tryz.prog 57 #[.int .u64 zaZ] Nx fun e w'=>e = .returned (vi r)/\Hp [] Nx w' []:=by
 obtain⟨h0,h⟩:=xG h
 obtain rfl:=oJ h
 refine(Tryz.bits_Len zaZ Nx h0.1 h0.2).mono ?_
 rintro e w' ⟨rfl,rfl⟩
 exact⟨U,Hp.nil w' []⟩
theorem zZx:∀ w,(isAgg (Tryz.gm.t 24)).run Tryz.prog w = .ok true w:=fun _=>by kernel_rfl
theorem zZy:∀ w,(Go.sizeOf (Tryz.gm.t 24)).run Tryz.prog w = .ok 2 w:=fun _=>by kernel_rfl
def gG(z6X:List z6)(ztR:Int)(ztS:Int)(zor:Int)(zlK:z6->z6->Option Int):Option (List z6):=chk ((ztR=0/\ztS=(z6X.length:Int))/\(0<=zor/\zor<4611686018427387904/\z6X.length<4611686018427387904)) (chk (oq zlK (wx zlK z6X)=true) (some (wx zlK z6X)))
theorem pP{Z}(zlL zlM ztT zEJ z6X ztR ztS zor zlK r){Nx}(hz:Pz [row (vs zlL z6X.length zlM) 121 2 (z6X.flatMap w8)] Nx Z)(a:∀ args w,(callFunc ztT args).run Tryz.prog w = .ok (.enter ztT args) w)(b:∀ w:World,PZ [] w Z->∀(x0:z6) (x1:z6) (r:Int),zlK x0 x1=some r->Calls Tryz.prog ztT (([.agg #[vi x0.ya,vi x0.fQ],.agg #[vi x1.ya,vi x1.fQ]]:List Value)++zEJ).toArray w fun e w'=>e = .returned (vi r)/\Hp [] w w' [])(h:gG z6X ztR ztS zor zlK=some r)(eO:Ho Nx [row (vs zlL z6X.length zlM) 121 2 (z6X.flatMap w8)]):
  Calls Tryz.prog 158 #[vs zlL z6X.length zlM,vi ztR,vi ztS,vi zor,.func (.func ztT) #[] (zEJ).toArray] Nx fun e w'=>e = .returned (.tuple #[])/\(r.length=z6X.length)/\Hp (fps [row (vs zlL z6X.length zlM) 121 2 (z6X.flatMap w8)]) Nx w' [row (vs zlL r.length zlM) 121 2 (r.flatMap w8)]:=by
 obtain⟨h0,h⟩:=xG h
 obtain⟨h1,h⟩:=xG h
 have hr:=(oJ h).symm
 exact ig (P:=Tryz.prog) (f:=158) (e:=121) (k:=2) (enc:=w8) dy (fun β _ enc cf g cb hO wm off cap d0 w0 eg hC R=>Tryz.lE 2 zZx zZy enc cf g cb hO wm off cap d0 w0 eg hC R) (Tryz.ld (α:=Unit)) hz a b h0 h1 hr eO
def qc(a:List z6)(zos:z6->z6->Option Int):Option (List z6):=
 (fj (u64 (a.length:Int))).bind fun b=>(gG a 0 (a.length:Int) b zos).bind fun c=>some c
theorem sN{Z b c}(zot zxT){a}(zos){r}(h:qc a zos=some r){Nx}(hz:Pz [row (vs b a.length c) 121 2 (a.flatMap w8)] Nx Z)(j:∀ args w,(callFunc zot args).run Tryz.prog w = .ok (.enter zot args) w)(k:∀ w:World,PZ [] w Z->∀(x0:z6) (x1:z6) (r:Int),zos x0 x1=some r->Calls Tryz.prog zot (([.agg #[vi x0.ya,vi x0.fQ],.agg #[vi x1.ya,vi x1.fQ]]:List Value)++zxT).toArray w fun e w'=>e = .returned (vi r)/\Hp [] w w' [])(eO:Ho Nx [row (vs b a.length c) 121 2 (a.flatMap w8)]):
  Calls Tryz.prog 115 #[vs b a.length c,.func (.func zot) #[] (zxT).toArray] Nx fun e w'=>e = .returned (.tuple #[])/\(r.length=a.length)/\Hp (fps [row (vs b a.length c) 121 2 (a.flatMap w8)]) Nx w' [row (vs b r.length c) 121 2 (r.flatMap w8)]:=by
 unfold qc at h
 refine Ni func115 U eO U<|B1q U<|Le 6 (w9 underlying112)<|Q1n U<|bK h fun d l h=>bK h fun f m h=>D3q U<|Le 10 (mL underlying3 underlying147)<|Nr call57 hz (fun pz=>oZ  (zaZ:=(u64 (a.length:Int))) (r:=d) pz  l)<|La U<|Nb U (Ns call158) (.cons .here .nil) (cc hz (.cons .here .nil) fun w pz ho=>pP (zlL:=b) (zlM:=c) (ztT:=zot) (zEJ:=zxT) (z6X:=a) (ztR:=0) (ztS:=(a.length:Int)) (zor:=d) (zlK:=zos) (r:=f) pz j k m ho) ?_
 rintro  g
 exact L9 (i:=0) U (u:=(vs b f.length c)) (qB g.symm)<|WL.nil<|oJ h▸Nh results115 .nil fun w hw=>⟨mq,g.trans U,hw.sub (.cons .here .nil)⟩
end Go.Proofs.YthjnhebofpebpaaGreat
