/- A part of this claim's proof: models of functions, walks, plain laws. No conditions. -/
import Derived.Test.YthjnhebofpebpaaGreatZShort
import Derived.Test.YthjnhebofpebpaaGreatZMem
import Derived.Test.YthjnhebofpebpaaGreatShelf36
import Derived.Test.YthjnhebofpebpaaGreatProg
set_option linter.all false
namespace Go.Proofs.YthjnhebofpebpaaGreat
open Go Go.RowKit Sep Tryz
set_option maxRecDepth 30000
set_option maxHeartbeats 4000000
abbrev RC (f:FuncId)(vs:Array Value)(w₀:World)(v:Value)(F:List Nat)(L:List Asrt):Prop:=Calls Tryz.prog f vs w₀ fun e w'=>e=.returned v/\Hp F w₀ w' L
abbrev RF (f:FuncId)(vs:Array Value)(w₀:World)(v:Value)(M L:List Asrt):Prop:=Calls Tryz.prog f vs w₀ fun e w'=>e=.returned v/\Hp (fps M) w₀ w' L
abbrev Pz (M:List Asrt)(w₀:World)(Z:Zp):Prop:=PZ (fps M) w₀ Z
abbrev Ho (w₀:World)(M:List Asrt):Prop:=Hp (fps M) w₀ w₀ M

structure yK where
 yq:ByteArray
 xc:Int
 fOut:Bool
 xj:Int
 xh:Int
 yW:Int
 deriving Inhabited,DecidableEq
structure yM where
 fOp:Int
 fA:Int
 fB:Int
 fC:Int
 deriving Inhabited,DecidableEq
structure yJ where
 yq:ByteArray
 xi:Int
 yN:Int
 xf:Int
 yO:List yM
 deriving Inhabited,DecidableEq
structure yI where
 yq:ByteArray
 yN:Int
 yZ:Int
 yV:Int
 yQ:List Int
 xb:Int
 xa:Int
 yU:List Int
 fP:List yK
 yS:List yJ
 deriving Inhabited,DecidableEq
structure yx where
 yq:ByteArray
 yV:Int
 xg:Int
 yP:List yI
 deriving Inhabited,DecidableEq
structure yv where
 yp:ByteArray
 yt:ByteArray
 yu:ByteArray
 deriving Inhabited,DecidableEq
structure yC where
 yi:yv
 yy:List yv
 deriving Inhabited,DecidableEq
structure yz where
 yq:ByteArray
 yB:Int
 yf:Int
 fT:Int
 deriving Inhabited,DecidableEq
structure yA where
 fA:ByteArray
 fB:ByteArray
 yB:Int
 yj:Int
 deriving Inhabited,DecidableEq
structure ym where
 yq:ByteArray
 yi:yv
 yo:Int
 yn:Int
 yy:List yv
 deriving Inhabited,DecidableEq
structure yG where
 yp:ByteArray
 yt:ByteArray
 yY:Int
 yX:Int
 fDo:Int
 deriving Inhabited,DecidableEq
structure yH where
 xe:ByteArray
 yO:Int
 deriving Inhabited,DecidableEq
structure yF where
 xe:ByteArray
 yR:List yH
 yT:List ByteArray
 deriving Inhabited,DecidableEq
structure yE where
 fA:ByteArray
 fVA:Int
 fB:ByteArray
 fVB:Int
 deriving Inhabited,DecidableEq
structure zi where
 fM:List yx
 yc:List yC
 fS:List yz
 fK:List yA
 yd:List ym
 fH:List yG
 fU:List yF
 yb:List yE
 deriving Inhabited,DecidableEq
def e3(x:Int):List Value:=[vi x]
theorem Qm:∀ x,∀ u∈e3 x,u.oneCell'=true:=fun _=>bN rfl
def XI(x:yK):List Value:=[.string x.yq,.int .u8 x.xc,.bool x.fOut,vi x.xj,vi x.xh,vi x.yW]
def XJ(x:yM):List Value:=[.int .u8 x.fOp,vi x.fA,vi x.fB,vi x.fC]
def Y5(Z:Zp)(r:List Value)(x:yJ):Prop:=∃(kA:Option Addr) (iu:Nat),r=[.string x.yq,vi x.xi,vi x.yN,vi x.xf,vs kA x.yO.length iu]/\ZS Z 4 (rq XJ) kA iu x.yO
theorem J2{Z Z':Zp}(k:xm Z Z'){r:List Value}{x:yJ}(h:Y5 Z r x):Y5 Z' r x:=by
 obtain⟨kA,iu,hr,h0⟩:=h
 exact⟨kA,iu,hr,h0.mono k⟩
def Y6(Z:Zp)(r:List Value)(x:yI):Prop:=∃(kA:Option Addr) (iu:Nat) (Bh:Option Addr) (zd:Nat) (Cb:Option Addr) (zF:Nat) (Cc:Option Addr) (zG:Nat),r=[.string x.yq,vi x.yN,vi x.yZ,vi x.yV,vs kA x.yQ.length iu,vi x.xb,vi x.xa,vs Bh x.yU.length zd,vs Cb x.fP.length zF,vs Cc x.yS.length zG]/\ZS Z 1 (rq e3) kA iu x.yQ/\ZS Z 1 (rq e3) Bh zd x.yU/\ZS Z 6 (rq XI) Cb zF x.fP/\ZS Z 5 (Y5 Z) Cc zG x.yS
theorem J3{Z Z':Zp}(k:xm Z Z'){r:List Value}{x:yI}(h:Y6 Z r x):Y6 Z' r x:=by
 obtain⟨kA,iu,Bh,zd,Cb,zF,Cc,zG,hr,h0,h1,h2,h3⟩:=h
 exact⟨kA,iu,Bh,zd,Cb,zF,Cc,zG,hr,h0.mono k,h1.mono k,h2.mono k,(h3.mono k).weak (fun _ _ h=>J2 k h)⟩
def vU(Z:Zp)(r:List Value)(x:yx):Prop:=∃(kA:Option Addr) (iu:Nat),r=[.string x.yq,vi x.yV,vi x.xg,vs kA x.yP.length iu]/\ZS Z 10 (Y6 Z) kA iu x.yP
theorem wg{Z Z':Zp}(k:xm Z Z'){r:List Value}{x:yx}(h:vU Z r x):vU Z' r x:=by
 obtain⟨kA,iu,hr,h0⟩:=h
 exact⟨kA,iu,hr,(h0.mono k).weak (fun _ _ h=>J3 k h)⟩
def lZ(x:yv):List Value:=[.string x.yp,.string x.yt,.string x.yu]
def qr(Z:Zp)(r:List Value)(x:yC):Prop:=∃(kA:Option Addr) (iu:Nat),r=[.string x.yi.yp,.string x.yi.yt,.string x.yi.yu,vs kA x.yy.length iu]/\ZS Z 3 (rq lZ) kA iu x.yy
theorem wp{Z Z':Zp}(k:xm Z Z'){r:List Value}{x:yC}(h:qr Z r x):qr Z' r x:=by
 obtain⟨kA,iu,hr,h0⟩:=h
 exact⟨kA,iu,hr,h0.mono k⟩
def jm(x:yz):List Value:=[.string x.yq,vi x.yB,vi x.yf,vi x.fT]
def qm(x:yA):List Value:=[.string x.fA,.string x.fB,vi x.yB,vi x.yj]
def qK(Z:Zp)(r:List Value)(x:ym):Prop:=∃(kA:Option Addr) (iu:Nat),r=[.string x.yq,.string x.yi.yp,.string x.yi.yt,.string x.yi.yu,vi x.yo,vi x.yn,vs kA x.yy.length iu]/\ZS Z 3 (rq lZ) kA iu x.yy
theorem wi{Z Z':Zp}(k:xm Z Z'){r:List Value}{x:ym}(h:qK Z r x):qK Z' r x:=by
 obtain⟨kA,iu,hr,h0⟩:=h
 exact⟨kA,iu,hr,h0.mono k⟩
def qI(x:yG):List Value:=[.string x.yp,.string x.yt,.int .u8 x.yY,.int .u8 x.yX,.int .u8 x.fDo]
def XK(x:yH):List Value:=[.string x.xe,vi x.yO]
def e9(x:ByteArray):List Value:=[.string x]
def qs(Z:Zp)(r:List Value)(x:yF):Prop:=∃(kA:Option Addr) (iu:Nat) (Bh:Option Addr) (zd:Nat),r=[.string x.xe,vs kA x.yR.length iu,vs Bh x.yT.length zd]/\ZS Z 2 (rq XK) kA iu x.yR/\ZS Z 1 (rq e9) Bh zd x.yT
theorem wq{Z Z':Zp}(k:xm Z Z'){r:List Value}{x:yF}(h:qs Z r x):qs Z' r x:=by
 obtain⟨kA,iu,Bh,zd,hr,h0,h1⟩:=h
 exact⟨kA,iu,Bh,zd,hr,h0.mono k,h1.mono k⟩
def qJ(x:yE):List Value:=[.string x.fA,vi x.fVA,.string x.fB,vi x.fVB]
structure za where
 ya:Int
 fX:Int
 fQ:Int
 deriving Inhabited,DecidableEq
def vw(x:za):List Value:=[vi x.ya,vi x.fX,vi x.fQ]
def qt(Z:Zp)(r:List Value)(x:List za):Prop:=∃(kA:Option Addr) (iu:Nat),r=[vs kA x.length iu]/\ZS Z 3 (rq vw) kA iu x
theorem wv{Z Z':Zp}(k:xm Z Z'){r:List Value}{x:List za}(h:qt Z r x):qt Z' r x:=by
 obtain⟨kA,iu,hr,h0⟩:=h
 exact⟨kA,iu,hr,h0.mono k⟩
structure z7 where
 ya:Int
 fQ:Int
 deriving Inhabited,DecidableEq
structure ye where
 ya:Int
 fQ:Int
 yf:Int
 fT:Int
 deriving Inhabited,DecidableEq
structure zf where
 yL:Int
 ya:Int
 yf:Int
 deriving Inhabited,DecidableEq
structure yw where
 fP:List ye
 ys:List zf
 deriving Inhabited,DecidableEq
def xP(x:z7):List Value:=[vi x.ya,vi x.fQ]
theorem iP:∀ x,∀ u∈xP x,u.oneCell'=true:=fun _=>bN rfl
def xY(x:ye):List Value:=[vi x.ya,vi x.fQ,vi x.yf,vi x.fT]
theorem tE:∀ x,∀ u∈xY x,u.oneCell'=true:=fun _=>bN rfl
structure yh where
 fVl:Int
 xd:z7
 deriving Inhabited,DecidableEq
def qY(x:yh):List Value:=[vi x.fVl,vi x.xd.ya,vi x.xd.fQ]
structure z1 where
 fN:Int
 fD:Int
 deriving Inhabited,DecidableEq
def xL(x:z1):List Value:=[vi x.fN,vi x.fD]
theorem ez:∀ x,∀ u∈xL x,u.oneCell'=true:=fun _=>bN rfl
structure yr where
 fQ:Int
 yo:Int
 yn:Int
 yD:Int
 deriving Inhabited,DecidableEq
structure z6 where
 yg:z1
 fR:z1
 deriving Inhabited,DecidableEq
def vF(x:z6):List Value:=[vi x.yg.fN,vi x.yg.fD,vi x.fR.fN,vi x.fR.fD]
theorem Vq:∀ x,∀ u∈vF x,u.oneCell'=true:=fun _=>bN rfl
def j9(Z:Zp)(r:List Value)(x:List z6):Prop:=∃(kA:Option Addr) (iu:Nat),r=[vs kA x.length iu]/\ZS Z 4 (rq vF) kA iu x
theorem ka{Z Z':Zp}(k:xm Z Z'){r:List Value}{x:List z6}(h:j9 Z r x):j9 Z' r x:=by
 obtain⟨kA,iu,hr,h0⟩:=h
 exact⟨kA,iu,hr,h0.mono k⟩
theorem G9{Z:Zp}{r:List Value}{x:List z6}(h:j9 Z r x):∀ u∈r,u.oneCell'=true:=by
 obtain⟨kA,iu,hr,h0⟩:=h
 rw[hr];exact bN U
structure yl where
 fR:z1
 fL:z1
 deriving Inhabited,DecidableEq
structure yk where
 fE:Int
 deriving Inhabited,DecidableEq
def e41(x:Int):List Value:=[vi x]
def jI(x:zf):List Value:=[vi x.yL,vi x.ya,vi x.yf]
theorem af:∀ x,∀ u∈jI x,u.oneCell'=true:=fun _=>bN rfl
def vO(x:z7):List Value:=[vi x.ya,vi x.fQ]
def mS(Z:Zp)(r:List Value)(x:Int->Option Int):Prop:=∃(AQ:FuncId) (AK:List Value),r=[.func (.func AQ) #[] (AK).toArray]/\(∀ args w,(callFunc AQ args).run Tryz.prog w = .ok (.enter AQ args) w)/\∀ w:World,PZ [] w Z->∀(x0:Int) (r:Int),x x0=some r->Calls Tryz.prog AQ (([vi x0]:List Value)++AK).toArray w fun e w'=>e = .returned (vi r)/\Hp [] w w' []
theorem ug{Z Z':Zp}(k:xm Z Z'){r:List Value}{x:Int->Option Int}(h:mS Z r x):mS Z' r x:=by
 obtain⟨AQ,AK,h1,h2,h3⟩:=h
 exact⟨AQ,AK,h1,h2,fun w hw=>h3 w (hw.le k)⟩
def re(Z:Zp)(r:List Value)(x:List Int):Prop:=∃(kA:Option Addr) (iu:Nat),r=[vs kA x.length iu]/\ZS Z 1 (rq e3) kA iu x
theorem lb{Z Z':Zp}(k:xm Z Z'){r:List Value}{x:List Int}(h:re Z r x):re Z' r x:=by
 obtain⟨kA,iu,hr,h0⟩:=h
 exact⟨kA,iu,hr,h0.mono k⟩
def gg(x:yr):List Value:=[vi x.fQ,vi x.yo,vi x.yn,vi x.yD]
theorem Ga:∀ x,∀ u∈gg x,u.oneCell'=true:=fun _=>bN rfl
def e5(x:Int):List Value:=[.int .u8 x]
theorem z1j:uG Tryz.prog 31 8:=fi (i:=Tryz.t31) underlying31 rfl rfl
theorem jB:w9 Tryz.prog 31 0 0:=xV (i:=Tryz.t22) underlying31 rfl rfl (by decide) rfl
theorem z4F:mi Tryz.prog 22:=jA underlying22 rfl
theorem uL:w9 Tryz.prog 31 2 2:=xV (i:=Tryz.t24) underlying31 rfl rfl (by decide) rfl
theorem zbS:mi Tryz.prog 24:=jA underlying24 rfl
theorem jQ:w9 Tryz.prog 31 3 3:=xV (i:=Tryz.t25) underlying31 rfl rfl (by decide) rfl
theorem z5E:mi Tryz.prog 25:=jA underlying25 rfl
theorem ma:w9 Tryz.prog 31 4 4:=xV (i:=Tryz.t26) underlying31 rfl rfl (by decide) rfl
theorem z9f:mi Tryz.prog 26:=jA underlying26 rfl
theorem z3K:elT Tryz.prog 32 58 1 24:=⟨underlying32,⟨Tryz.t58,_,rfl,rfl,rfl,rfl,rfl⟩,by decide⟩
theorem z3q:mi Tryz.prog 58:=jA underlying58 rfl
theorem zBW:qB Tryz.prog 31 (.agg #[vn,vn,vn,vn,vn,vn,vn,vn]):=qg (i:=Tryz.t31) rfl rfl
theorem zBX:elT Tryz.prog 22 126 4 56:=⟨underlying22,⟨Tryz.t126,_,rfl,rfl,rfl,rfl,rfl⟩,by decide⟩
theorem zj7:elT Tryz.prog 24 64 4 40:=⟨underlying24,⟨Tryz.t64,_,rfl,rfl,rfl,rfl,rfl⟩,by decide⟩
theorem z7V:elT Tryz.prog 25 62 4 48:=⟨underlying25,⟨Tryz.t62,_,rfl,rfl,rfl,rfl,rfl⟩,by decide⟩
theorem zbT:elT Tryz.prog 26 69 7 104:=⟨underlying26,⟨Tryz.t69,_,rfl,rfl,rfl,rfl,rfl⟩,by decide⟩
theorem zBY:gL Tryz.prog 31 8:=qQ (i:=Tryz.t31) rfl
theorem z1v:elT Tryz.prog 58 60 3 24:=⟨underlying58,⟨Tryz.t60,_,rfl,rfl,rfl,rfl,rfl⟩,by decide⟩
theorem zbU:qB Tryz.prog 40 (.agg #[vn,vn]):=qg (i:=Tryz.t40) rfl rfl
theorem xu:mi Tryz.prog 3:=jA underlying3 rfl
theorem z5b:uG Tryz.prog 60 3:=fi (i:=Tryz.t60) underlying60 rfl rfl
theorem zaS:qB Tryz.prog 60 (.agg #[vi 0,vi 0,vi 0]):=qg (i:=Tryz.t60) rfl rfl
theorem za4:gL Tryz.prog 60 3:=qQ (i:=Tryz.t60) rfl
theorem ww:w9 Tryz.prog 60 0 0:=xV (i:=Tryz.t3) underlying60 rfl rfl (by decide) rfl
theorem qS:qB Tryz.prog 3 (vi 0):=qg (i:=Tryz.t3) rfl rfl
theorem kG:KeyT Tryz.prog 3 vI:=K1 underlying3
theorem jR:w9 Tryz.prog 60 1 1:=xV (i:=Tryz.t3) underlying60 rfl rfl (by decide) rfl
theorem kz:w9 Tryz.prog 60 2 2:=xV (i:=Tryz.t3) underlying60 rfl rfl (by decide) rfl
theorem zWi:uG Tryz.prog 62 4:=fi (i:=Tryz.t62) underlying62 rfl rfl
theorem zWj:qB Tryz.prog 62 (.agg #[.string ⟨#[]⟩,.string ⟨#[]⟩,vi 0,vi 0]):=qg (i:=Tryz.t62) rfl rfl
theorem zWk:gL Tryz.prog 62 4:=qQ (i:=Tryz.t62) rfl
theorem Vr:w9 Tryz.prog 62 0 0:=xV (i:=Tryz.t9) underlying62 rfl rfl (by decide) rfl
theorem pY:mi Tryz.prog 9:=jA underlying9 rfl
theorem XL:w9 Tryz.prog 126 0 0:=xV (i:=Tryz.t9) underlying126 rfl rfl (by decide) rfl
theorem Vs:w9 Tryz.prog 64 0 0:=xV (i:=Tryz.t9) underlying64 rfl rfl (by decide) rfl
theorem Vt:w9 Tryz.prog 62 1 1:=xV (i:=Tryz.t9) underlying62 rfl rfl (by decide) rfl
theorem Vu:w9 Tryz.prog 62 2 2:=xV (i:=Tryz.t3) underlying62 rfl rfl (by decide) rfl
theorem mz:w9 Tryz.prog 62 3 3:=xV (i:=Tryz.t3) underlying62 rfl rfl (by decide) rfl
theorem zMl:uG Tryz.prog 64 4:=fi (i:=Tryz.t64) underlying64 rfl rfl
theorem zMm:qB Tryz.prog 64 (.agg #[.string ⟨#[]⟩,vi 0,vi 0,vi 0]):=qg (i:=Tryz.t64) rfl rfl
theorem zMn:gL Tryz.prog 64 4:=qQ (i:=Tryz.t64) rfl
theorem Vv:w9 Tryz.prog 64 1 1:=xV (i:=Tryz.t3) underlying64 rfl rfl (by decide) rfl
theorem pG:w9 Tryz.prog 64 2 2:=xV (i:=Tryz.t3) underlying64 rfl rfl (by decide) rfl
theorem eB:w9 Tryz.prog 64 3 3:=xV (i:=Tryz.t3) underlying64 rfl rfl (by decide) rfl
theorem zth:qB Tryz.prog 121 (.agg #[vi 0,vi 0]):=qg (i:=Tryz.t121) rfl rfl
theorem zwZ:gL Tryz.prog 121 2:=qQ (i:=Tryz.t121) rfl
theorem z7b:uG Tryz.prog 121 2:=fi (i:=Tryz.t121) underlying121 rfl rfl
theorem z9g:elT Tryz.prog 112 121 2 16:=⟨underlying112,⟨Tryz.t121,_,rfl,rfl,rfl,rfl,rfl⟩,by decide⟩
theorem zx0:EqT Tryz.prog 121 xP:=⟨fun u v w=>by
 have c:=fun(w:World) (a b:Array Value)=>run_equalIn_agg (P:=Tryz.prog) w 9999 121 a b (by simp[Program.fieldsOf,underlying121]) (by kernel_rfl)
 have d:=fun(w:World) (a b:Int)=>run_equalIn_int (P:=Tryz.prog) w 9998 3 .i64 .i64 a b underlying3
 rw[c]
 simp[Program.fieldsOf,Op.eqFields,part,xP,c,underlying121,d]
 rcases u with⟨u1,u2⟩
 rcases v with⟨v1,v2⟩
 by_cases h1:u1=v1 <;> by_cases h2:u2=v2 <;> simp[h1,h2],by kernel_rfl⟩
theorem pH:w9 Tryz.prog 121 0 0:=xV (i:=Tryz.t3) underlying121 rfl rfl (by decide) rfl
theorem ld:w9 Tryz.prog 121 1 1:=xV (i:=Tryz.t3) underlying121 rfl rfl (by decide) rfl
theorem z7W:elT Tryz.prog 50 3 1 8:=⟨underlying50,⟨Tryz.t3,_,rfl,rfl,rfl,rfl,rfl⟩,by decide⟩
theorem zWl:qB Tryz.prog 117 (.map none):=qg (i:=Tryz.t117) rfl rfl
theorem zWm:gL Tryz.prog 117 1:=qQ (i:=Tryz.t117) rfl
theorem zti:mi Tryz.prog 117:=jA underlying117 rfl
theorem zj8:KeyT Tryz.prog 121 (ga xP):=nv underlying121 (fun _ _=>rfl) (fun b k w=>by
 have c:=fun(w:World) (a:Int)=>MapKept.run_checkKey (P:=Tryz.prog) (w:=w) (kt:=3) (k:=.int .i64 a) underlying3 (by simp[MapKept.IsKey]) b 9998
 have ck:∀(w:World) (u0:Int) (u1:Int),(Instr.checkKey b 10000 121 (.agg #[.int .i64 u0,.int .i64 u1])).run Tryz.prog w = .ok () w:=fun w u0 u1=>by
  rw[show(10000:Nat)=9999+1 from U,Instr.checkKey]
  simp[run_underlying underlying121,c,part]
 exact ck w k.ya k.fQ)
 (fun u v w=>zx0.eq u v w)
 (fun k=>by simp[Instr.sameBits,xP])
theorem z1r:elT Tryz.prog 33 37 4 32:=⟨underlying33,⟨Tryz.t37,_,rfl,rfl,rfl,rfl,rfl⟩,by decide⟩
theorem z5c:gL Tryz.prog 40 2:=qQ (i:=Tryz.t40) rfl
theorem z4G:uG Tryz.prog 40 2:=fi (i:=Tryz.t40) underlying40 rfl rfl
theorem oY:w9 Tryz.prog 69 2 4:=xV (i:=Tryz.t3) underlying69 rfl rfl (by decide) rfl
theorem mY:w9 Tryz.prog 69 3 5:=xV (i:=Tryz.t3) underlying69 rfl rfl (by decide) rfl
theorem zx1:uG Tryz.prog 69 7:=fi (i:=Tryz.t69) underlying69 rfl rfl
theorem kB:w9 Tryz.prog 40 0 0:=xV (i:=Tryz.t33) underlying40 rfl rfl (by decide) rfl
theorem z64:mi Tryz.prog 33:=jA underlying33 rfl
theorem zf7:qB Tryz.prog 37 (.agg #[vi 0,vi 0,vi 0,vi 0]):=qg (i:=Tryz.t37) rfl rfl
theorem K8:w9 Tryz.prog 119 1 8:=xV (i:=Tryz.t32) underlying119 rfl rfl (by decide) rfl
theorem zWn:mi Tryz.prog 32:=jA underlying32 rfl
theorem uz:w9 Tryz.prog 119 0 0:=xV (i:=Tryz.t31) underlying119 rfl rfl (by decide) rfl
theorem z1y:qB Tryz.prog 175 (.agg #[vi 0,vi 0]):=qg (i:=Tryz.t175) rfl rfl
theorem zX:gL Tryz.prog 175 2:=qQ (i:=Tryz.t175) rfl
theorem zh:uG Tryz.prog 175 2:=fi (i:=Tryz.t175) underlying175 rfl rfl
theorem nx:w9 Tryz.prog 119 2 9:=xV (i:=Tryz.t116) underlying119 rfl rfl (by decide) rfl
theorem zBZ:mi Tryz.prog 116:=jA underlying116 rfl
theorem zWo:EqT Tryz.prog 223 qY:=⟨fun u v w=>by
 have c:=fun(w:World) (a b:Array Value)=>run_equalIn_agg (P:=Tryz.prog) w 9999 223 a b (by simp[Program.fieldsOf,underlying223]) (by kernel_rfl)
 have d:=fun(w:World) (a b:Int)=>run_equalIn_int (P:=Tryz.prog) w 9998 3 .i64 .i64 a b underlying3
 have e:=fun(w:World) (a b:Array Value)=>run_equalIn_agg (P:=Tryz.prog) w 9998 121 a b (by simp[Program.fieldsOf,underlying121]) (by kernel_rfl)
 have f:=fun(w:World) (a b:Int)=>run_equalIn_int (P:=Tryz.prog) w 9997 3 .i64 .i64 a b underlying3
 rw[c]
 simp[Program.fieldsOf,Op.eqFields,part,qY,c,underlying223,d,e,underlying121,f]
 rcases u with⟨u1,⟨u2,u3⟩⟩
 rcases v with⟨v1,⟨v2,v3⟩⟩
 by_cases h1:u1=v1 <;> by_cases h2:u2=v2 <;> by_cases h3:u3=v3 <;> simp[h1,h2,h3],by kernel_rfl⟩
theorem zC1:KeyT Tryz.prog 223 (ga qY):=nv underlying223 (fun _ _=>rfl) (fun b k w=>by
 have c:=fun(w:World) (a:Int)=>MapKept.run_checkKey (P:=Tryz.prog) (w:=w) (kt:=3) (k:=.int .i64 a) underlying3 (by simp[MapKept.IsKey]) b 9998
 have d:=fun(w:World) (a:Int)=>MapKept.run_checkKey (P:=Tryz.prog) (w:=w) (kt:=3) (k:=.int .i64 a) underlying3 (by simp[MapKept.IsKey]) b 9997
 have e:∀(w:World) (u0:Int) (u1:Int),(Instr.checkKey b 9999 121 (.agg #[.int .i64 u0,.int .i64 u1])).run Tryz.prog w = .ok () w:=fun w u0 u1=>by
  rw[show(9999:Nat)=9998+1 from U,Instr.checkKey]
  simp[run_underlying underlying121,d,part]
 have ck:∀(w:World) (u0:Int) (u1:Int) (u2:Int),(Instr.checkKey b 10000 223 (.agg #[.int .i64 u0,.int .i64 u1,.int .i64 u2])).run Tryz.prog w = .ok () w:=fun w u0 u1 u2=>by
  rw[show(10000:Nat)=9999+1 from U,Instr.checkKey]
  simp[run_underlying underlying223,c,e,part]
 exact ck w k.fVl k.xd.ya k.xd.fQ)
 (fun u v w=>zWo.eq u v w)
 (fun k=>by simp[Instr.sameBits,qY])
theorem qO:w9 Tryz.prog 175 0 0:=xV (i:=Tryz.t3) underlying175 rfl rfl (by decide) rfl
theorem rf:gL Tryz.prog 3 1:=qQ (i:=Tryz.t3) rfl
theorem ny:w9 Tryz.prog 119 3 10:=xV (i:=Tryz.t117) underlying119 rfl rfl (by decide) rfl
theorem jq:w9 Tryz.prog 175 1 1:=xV (i:=Tryz.t3) underlying175 rfl rfl (by decide) rfl
theorem gr:KeyT Tryz.prog 9 Value.string:=K0 underlying9
theorem zx2:qB Tryz.prog 303 .nilFunc:=qg (i:=Tryz.t303) rfl rfl
theorem pI:w9 Tryz.prog 119 4 11:=xV (i:=Tryz.t41) underlying119 rfl rfl (by decide) rfl
theorem z6z:mi Tryz.prog 41:=jA underlying41 rfl
theorem ztk:gL Tryz.prog 41 1:=qQ (i:=Tryz.t41) rfl
theorem zC2:qB Tryz.prog 50 vn:=qg (i:=Tryz.t50) rfl rfl
theorem za5:elT Tryz.prog 227 225 4 32:=⟨underlying227,⟨Tryz.t225,_,rfl,rfl,rfl,rfl,rfl⟩,by decide⟩
theorem zf8:elT Tryz.prog 171 227 1 24:=⟨underlying171,⟨Tryz.t227,_,rfl,rfl,rfl,rfl,rfl⟩,by decide⟩
theorem zf9:qB Tryz.prog 225 (.agg #[vi 0,vi 0,vi 0,vi 0]):=qg (i:=Tryz.t225) rfl rfl
theorem zd6:gL Tryz.prog 225 4:=qQ (i:=Tryz.t225) rfl
theorem ml:w9 Tryz.prog 225 0 0:=xV (i:=Tryz.t175) underlying225 rfl rfl (by decide) rfl
theorem uA:w9 Tryz.prog 225 1 2:=xV (i:=Tryz.t175) underlying225 rfl rfl (by decide) rfl
theorem z4c:uG Tryz.prog 225 4:=fi (i:=Tryz.t225) underlying225 rfl rfl
theorem zWs:qB Tryz.prog 178 (.agg #[vi 0,vi 0,vi 0,vi 0]):=qg (i:=Tryz.t178) rfl rfl
theorem zWt:gL Tryz.prog 178 4:=qQ (i:=Tryz.t178) rfl
theorem ztl:uG Tryz.prog 178 4:=fi (i:=Tryz.t178) underlying178 rfl rfl
theorem zj9:mi Tryz.prog 171:=jA underlying171 rfl
theorem zMq:qB Tryz.prog 231 (.agg #[vn,vi 0,vi 0,vi 0,vi 0,.nilFunc,vn]):=qg (i:=Tryz.t231) rfl rfl
theorem zMr:gL Tryz.prog 231 7:=qQ (i:=Tryz.t231) rfl
theorem cM:w9 Tryz.prog 231 2 5:=xV (i:=Tryz.t228) underlying231 rfl rfl (by decide) rfl
theorem zMs:gL Tryz.prog 228 1:=qQ (i:=Tryz.t228) rfl
theorem zoc:uG Tryz.prog 231 7:=fi (i:=Tryz.t231) underlying231 rfl rfl
theorem cN:w9 Tryz.prog 231 0 0:=xV (i:=Tryz.t171) underlying231 rfl rfl (by decide) rfl
theorem zod:mi Tryz.prog 227:=jA underlying227 rfl
theorem XM:w9 Tryz.prog 231 1 1:=xV (i:=Tryz.t178) underlying231 rfl rfl (by decide) rfl
theorem lf:w9 Tryz.prog 178 0 0:=xV (i:=Tryz.t175) underlying178 rfl rfl (by decide) rfl
theorem pJ:w9 Tryz.prog 178 1 2:=xV (i:=Tryz.t175) underlying178 rfl rfl (by decide) rfl
theorem zC3:qB Tryz.prog 277 (.agg #[vi 0]):=qg (i:=Tryz.t277) rfl rfl
theorem zMt:qB Tryz.prog 307 (.agg #[vi 0]):=qg (i:=Tryz.t307) rfl rfl
theorem zC4:qB Tryz.prog 229 vn:=qg (i:=Tryz.t229) rfl rfl
theorem zMu:EqT Tryz.prog 225 vF:=⟨fun u v w=>by
 have c:=fun(w:World) (a b:Array Value)=>run_equalIn_agg (P:=Tryz.prog) w 9999 225 a b (by simp[Program.fieldsOf,underlying225]) (by kernel_rfl)
 have d:=fun(w:World) (a b:Array Value)=>run_equalIn_agg (P:=Tryz.prog) w 9998 175 a b (by simp[Program.fieldsOf,underlying175]) (by kernel_rfl)
 have e:=fun(w:World) (a b:Int)=>run_equalIn_int (P:=Tryz.prog) w 9997 3 .i64 .i64 a b underlying3
 rw[c]
 simp[Program.fieldsOf,Op.eqFields,part,vF,c,underlying225,d,underlying175,e]
 rcases u with⟨⟨u1,u2⟩,⟨u3,u4⟩⟩
 rcases v with⟨⟨v1,v2⟩,⟨v3,v4⟩⟩
 by_cases h1:u1=v1 <;> by_cases h2:u2=v2 <;> by_cases h3:u3=v3 <;> by_cases h4:u4=v4 <;> simp[h1,h2,h3,h4],by kernel_rfl⟩
theorem zd7:mi Tryz.prog 229:=jA underlying229 rfl
theorem pK:w9 Tryz.prog 307 0 0:=xV (i:=Tryz.t41) underlying307 rfl rfl (by decide) rfl
theorem z3L:elT Tryz.prog 229 175 2 16:=⟨underlying229,⟨Tryz.t175,_,rfl,rfl,rfl,rfl,rfl⟩,by decide⟩
theorem zC5:gL Tryz.prog 229 1:=qQ (i:=Tryz.t229) rfl
theorem zMw:EqT Tryz.prog 175 xL:=⟨fun u v w=>by
 have c:=fun(w:World) (a b:Array Value)=>run_equalIn_agg (P:=Tryz.prog) w 9999 175 a b (by simp[Program.fieldsOf,underlying175]) (by kernel_rfl)
 have d:=fun(w:World) (a b:Int)=>run_equalIn_int (P:=Tryz.prog) w 9998 3 .i64 .i64 a b underlying3
 rw[c]
 simp[Program.fieldsOf,Op.eqFields,part,xL,c,underlying175,d]
 rcases u with⟨u1,u2⟩
 rcases v with⟨v1,v2⟩
 by_cases h1:u1=v1 <;> by_cases h2:u2=v2 <;> simp[h1,h2],by kernel_rfl⟩
theorem Qn:K2 Tryz.prog 225 1 2 175:=G4 underlying225 rfl rfl rfl
theorem uB:w9 Tryz.prog 277 0 0:=xV (i:=Tryz.t41) underlying277 rfl rfl (by decide) rfl
theorem K9:w9 Tryz.prog 231 3 6:=xV (i:=Tryz.t229) underlying231 rfl rfl (by decide) rfl
theorem zMy:mi Tryz.prog 228:=jA underlying228 rfl
theorem zMz:elT Tryz.prog 181 41 1 8:=⟨underlying181,⟨Tryz.t41,_,rfl,rfl,rfl,rfl,rfl⟩,by decide⟩
theorem zaT:gL Tryz.prog 37 4:=qQ (i:=Tryz.t37) rfl
theorem z5F:uG Tryz.prog 37 4:=fi (i:=Tryz.t37) underlying37 rfl rfl
theorem zMA:gL Tryz.prog 33 1:=qQ (i:=Tryz.t33) rfl
theorem gt:w9 Tryz.prog 37 0 0:=xV (i:=Tryz.t3) underlying37 rfl rfl (by decide) rfl
theorem mb:w9 Tryz.prog 37 1 1:=xV (i:=Tryz.t3) underlying37 rfl rfl (by decide) rfl
theorem uM:w9 Tryz.prog 37 2 2:=xV (i:=Tryz.t3) underlying37 rfl rfl (by decide) rfl
theorem zja:elT Tryz.prog 38 53 3 24:=⟨underlying38,⟨Tryz.t53,_,rfl,rfl,rfl,rfl,rfl⟩,by decide⟩
theorem Vw:w9 Tryz.prog 53 1 1:=xV (i:=Tryz.t3) underlying53 rfl rfl (by decide) rfl
theorem rD:w9 Tryz.prog 40 1 1:=xV (i:=Tryz.t38) underlying40 rfl rfl (by decide) rfl
theorem zC6:gL Tryz.prog 38 1:=qQ (i:=Tryz.t38) rfl
theorem zWv:qB Tryz.prog 94 (.agg #[vi 0,vi 0]):=qg (i:=Tryz.t94) rfl rfl
theorem zWw:gL Tryz.prog 94 2:=qQ (i:=Tryz.t94) rfl
theorem zx3:uG Tryz.prog 94 2:=fi (i:=Tryz.t94) underlying94 rfl rfl
theorem zMB:mi Tryz.prog 140:=jA underlying140 rfl
theorem ztm:elT Tryz.prog 140 201 1 8:=⟨underlying140,⟨Tryz.t201,_,rfl,rfl,rfl,rfl,rfl⟩,by decide⟩
theorem zWx:mi Tryz.prog 201:=jA underlying201 rfl
theorem zC7:mi Tryz.prog 148:=jA underlying148 rfl
theorem zWy:qB Tryz.prog 148 (.map none):=qg (i:=Tryz.t148) rfl rfl
theorem zWz:gL Tryz.prog 148 1:=qQ (i:=Tryz.t148) rfl
theorem zMC:EqT Tryz.prog 94 vO:=⟨fun u v w=>by
 have c:=fun(w:World) (a b:Array Value)=>run_equalIn_agg (P:=Tryz.prog) w 9999 94 a b (by simp[Program.fieldsOf,underlying94]) (by kernel_rfl)
 have d:=fun(w:World) (a b:Int)=>run_equalIn_int (P:=Tryz.prog) w 9998 3 .i64 .i64 a b underlying3
 rw[c]
 simp[Program.fieldsOf,Op.eqFields,part,vO,c,underlying94,d]
 rcases u with⟨u1,u2⟩
 rcases v with⟨v1,v2⟩
 by_cases h1:u1=v1 <;> by_cases h2:u2=v2 <;> simp[h1,h2],by kernel_rfl⟩
theorem zC8:KeyT Tryz.prog 94 (ga vO):=nv underlying94 (fun _ _=>rfl) (fun b k w=>by
 have c:=fun(w:World) (a:Int)=>MapKept.run_checkKey (P:=Tryz.prog) (w:=w) (kt:=3) (k:=.int .i64 a) underlying3 (by simp[MapKept.IsKey]) b 9998
 have ck:∀(w:World) (u0:Int) (u1:Int),(Instr.checkKey b 10000 94 (.agg #[.int .i64 u0,.int .i64 u1])).run Tryz.prog w = .ok () w:=fun w u0 u1=>by
  rw[show(10000:Nat)=9999+1 from U,Instr.checkKey]
  simp[run_underlying underlying94,c,part]
 exact ck w k.ya k.fQ)
 (fun u v w=>zMC.eq u v w)
 (fun k=>by simp[Instr.sameBits,vO])
theorem zoe:qB Tryz.prog 69 (.agg #[.string ⟨#[]⟩,.string ⟨#[]⟩,.string ⟨#[]⟩,.string ⟨#[]⟩,vi 0,vi 0,vn]):=qg (i:=Tryz.t69) rfl rfl
theorem zME:gL Tryz.prog 69 7:=qQ (i:=Tryz.t69) rfl
theorem Y7:w9 Tryz.prog 94 0 0:=xV (i:=Tryz.t3) underlying94 rfl rfl (by decide) rfl
theorem zMF:qB Tryz.prog 140 vn:=qg (i:=Tryz.t140) rfl rfl
theorem zWA:gL Tryz.prog 140 1:=qQ (i:=Tryz.t140) rfl
theorem Vx:w9 Tryz.prog 94 1 1:=xV (i:=Tryz.t3) underlying94 rfl rfl (by decide) rfl
theorem rE:w9 Tryz.prog 37 3 3:=xV (i:=Tryz.t3) underlying37 rfl rfl (by decide) rfl
theorem zWB:qB Tryz.prog 92 (.map none):=qg (i:=Tryz.t92) rfl rfl
theorem zWC:gL Tryz.prog 92 1:=qQ (i:=Tryz.t92) rfl
theorem zMG:mi Tryz.prog 92:=jA underlying92 rfl
theorem zlV:elT Tryz.prog 46 50 1 24:=⟨underlying46,⟨Tryz.t50,_,rfl,rfl,rfl,rfl,rfl⟩,by decide⟩
theorem ztn:mi Tryz.prog 38:=jA underlying38 rfl
theorem zWD:EqT Tryz.prog 37 xY:=⟨fun u v w=>by
 have c:=fun(w:World) (a b:Array Value)=>run_equalIn_agg (P:=Tryz.prog) w 9999 37 a b (by simp[Program.fieldsOf,underlying37]) (by kernel_rfl)
 have d:=fun(w:World) (a b:Int)=>run_equalIn_int (P:=Tryz.prog) w 9998 3 .i64 .i64 a b underlying3
 rw[c]
 simp[Program.fieldsOf,Op.eqFields,part,xY,c,underlying37,d]
 rcases u with⟨u1,u2,u3,u4⟩
 rcases v with⟨v1,v2,v3,v4⟩
 by_cases h1:u1=v1 <;> by_cases h2:u2=v2 <;> by_cases h3:u3=v3 <;> by_cases h4:u4=v4 <;> simp[h1,h2,h3,h4],by kernel_rfl⟩
theorem zMI:uG Tryz.prog 53 3:=fi (i:=Tryz.t53) underlying53 rfl rfl
theorem zWE:EqT Tryz.prog 53 jI:=⟨fun u v w=>by
 have c:=fun(w:World) (a b:Array Value)=>run_equalIn_agg (P:=Tryz.prog) w 9999 53 a b (by simp[Program.fieldsOf,underlying53]) (by kernel_rfl)
 have d:=fun(w:World) (a b:Int)=>run_equalIn_int (P:=Tryz.prog) w 9998 3 .i64 .i64 a b underlying3
 rw[c]
 simp[Program.fieldsOf,Op.eqFields,part,jI,c,underlying53,d]
 rcases u with⟨u1,u2,u3⟩
 rcases v with⟨v1,v2,v3⟩
 by_cases h1:u1=v1 <;> by_cases h2:u2=v2 <;> by_cases h3:u3=v3 <;> simp[h1,h2,h3],by kernel_rfl⟩
theorem zC9:mi Tryz.prog 50:=jA underlying50 rfl
theorem zWF:qB Tryz.prog 158 (.agg #[vi 0,vi 0,vi 0,vi 0]):=qg (i:=Tryz.t158) rfl rfl
theorem zWG:gL Tryz.prog 158 4:=qQ (i:=Tryz.t158) rfl
theorem XN:w9 Tryz.prog 158 0 0:=xV (i:=Tryz.t3) underlying158 rfl rfl (by decide) rfl
theorem zWH:uG Tryz.prog 158 4:=fi (i:=Tryz.t158) underlying158 rfl rfl
theorem zd8:elT Tryz.prog 154 158 4 32:=⟨underlying154,⟨Tryz.t158,_,rfl,rfl,rfl,rfl,rfl⟩,by decide⟩
theorem lh:w9 Tryz.prog 158 2 2:=xV (i:=Tryz.t3) underlying158 rfl rfl (by decide) rfl
theorem Ka:w9 Tryz.prog 158 3 3:=xV (i:=Tryz.t3) underlying158 rfl rfl (by decide) rfl
theorem Kb:w9 Tryz.prog 158 1 1:=xV (i:=Tryz.t3) underlying158 rfl rfl (by decide) rfl
def fl(b:List (List za))(c:Option Bool):Nat->Int->Option Bool
 | 0,_=>none
 | d+1,a=>if decide (a<b.length) then chk (0<=a/\a<b.length) (if decide (((nth b a).length:Int)>40) then some false else fl b c d (i64 (a+1))) else c
def rg(a:zi)(b:List (List za)):Option Bool:=
 if ((((decide ((a.fM.length:Int)>8))||(decide ((a.fS.length:Int)>8)))||(decide ((a.fK.length:Int)>20)))||(decide ((a.yd.length:Int)>20)))||(decide ((b.length:Int)>20)) then some false else g8 (some true) fun c=>fl b c xC 0
theorem V6(Z:Zp)(e:Option Addr)(f:Nat)(g:Option Addr)(i:Nat)(j:Option Addr)(k:Nat)(l:Option Addr)(m:Nat)(n:Option Addr)(o:Nat)(p:Option Addr)(q:Nat)(s:Option Addr)(t:Nat)(u:Option Addr)(v:Nat)(x:Option Addr)(y:Nat)(a:zi)(b:List (List za))(r:Bool)(h:rg a b=some r)(w₀:World)(hz:PZ [] w₀ Z)(R:ZS Z 4 (vU Z) e f a.fM)(S:ZS Z 4 (qr Z) g i a.yc)(T:ZS Z 4 (rq jm) j k a.fS)(V:ZS Z 4 (rq qm) l m a.fK)(W:ZS Z 7 (qK Z) n o a.yd)(X:ZS Z 5 (rq qI) p q a.fH)(Y:ZS Z 3 (qs Z) s t a.fU)(aa:ZS Z 4 (rq qJ) u v a.yb)(F:ZS Z 1 (qt Z) x y b):
  RC 10 #[.agg #[vs e a.fM.length f,vs g a.yc.length i,vs j a.fS.length k,vs l a.fK.length m,vs n a.yd.length o,vs p a.fH.length q,vs s a.fU.length t,vs u a.yb.length v],vs x b.length y] w₀ (.bool r) [] []:=by
 unfold rg at h
 refine L3 func10 ntmps10 ?_
 refine B0q<|Lg 2 (xO (cs:=[vs e a.fM.length f,vs g a.yc.length i,vs j a.fS.length k,vs l a.fK.length m,vs n a.yd.length o,vs p a.fH.length q,vs s a.fU.length t,vs u a.yb.length v]) U U) ?_
 intro ab _
 let A:=(a.fM.length:Int);let C:=(a.fS.length:Int);refine Q1n U<|WC.b<|B0q<|Le 7 (xk jB U U)<|Le 8 (xl z4F U<|xt .here U)<|Le 9 (xK underlying22 U)<|Q2q U<|Lx false 4 11 (B:=(decide (A>8))||(decide (C>8))) U U U U U U (fun h=>(kx h).symm) (fun _ G=>?_) ?_
 ·exact Le 12 (xk uL U U)<|Le 13 (xl zbS U<|xt .here U)<|Le 14 (xK underlying24 U)<|Q2q U<|Ly (ky G) U U .all
 let D:=(a.fK.length:Int);refine La U<|Lx false 4 17 (B:=((decide (A>8))||(decide (C>8)))||(decide (D>20))) U U U U U U (fun h=>(kx h).symm) (fun _ H=>?_) ?_
 ·exact Le 18 (xk jQ U U)<|Le 19 (xl z5E U<|xt .here U)<|Le 20 (xK underlying25 U)<|Q2q U<|Ly (ky H) U U .all
 let E:=(a.yd.length:Int);refine La U<|Lx false 4 23 (B:=(((decide (A>8))||(decide (C>8)))||(decide (D>20)))||(decide (E>20))) U U U U U U (fun h=>(kx h).symm) (fun _ I=>?_) ?_
 ·exact Le 24 (xk ma U U)<|Le 25 (xl z9f U<|xt .here U)<|Le 26 (xK underlying26 U)<|Q2q U<|Ly (ky I) U U .all
 refine La U<|Lx false 3 29 (B:=((((decide (A>8))||(decide (C>8)))||(decide (D>20)))||(decide (E>20)))||(decide ((b.length:Int)>20))) U U U U U U (fun h=>(kx h).symm) (fun _ J=>?_) ?_
 ·exact La U<|Le 31 (xK underlying32 U)<|Q2q U<|Ly (ky J) U U .all
 refine Q0n<|Lk U h (fun K h=>?_)<|fun K h=>?_
 ·refine B1n U<|WC.ret<|Ll ?_
  obtain rfl:=oJ h
  exact Li results10 (.tmp U .nil)<|fun w hw=>⟨xJ U,hw.sub .nil⟩
 ·refine WC.skip<|Lb<|jK0 h fun z L h=>L7 (z=some r) ([]) ([]) ?_ ?_
  ·refine B1q U<|Le 35 (xK underlying32 U)<|Q1n U<|WC.block<|L6 (fun(d:Nat) (c:Int)=>(fl b z d c=some r)) (fun d c=>[(34,vs x b.length y),(35,vi (b.length:Int)),(36,vi c)]) (fun d c=>[]) (fun d c=>d) ⟨xC,0⟩ h (.q U) .nil ?_
   rintro(_|M) c h;·cases h
   rw[fl] at h
   refine B1n U<|WC.b<|Lk U h (fun N h=>?_)<|fun N h=>?_
   ·refine WC.skip<|Lb<|WC.b<|WC.block<|WC.b<|cK h fun O h=>Ld<|L0 (dd:=38) U U (Z:=Z) (Pr:=(qt Z)) z3K U U F O ?_
    rintro ad ae P af ⟨ag,ah,rfl,ai⟩
    refine Le 39 (xl z3q U<|q9 hz.pv P U)<|Q1n U<|B1q U<|Le 41 (xK underlying58 U)<|Q1n U<|Lk U h (fun Q h=>?_)<|fun Q h=>?_
    ·refine B1n U<|WC.ret<|Lu<|Ll<|Ll<|Lu<|Ll ?_
     obtain rfl:=oJ h
     exact Li results10 (.tmp U .nil)<|fun w hw=>⟨xJ U,hw.sub .nil⟩
    ·exact WC.skip<|Lt<|Lb<|D2q U<|WL.nil<|WX.round ⟨M,i64 (c+1)⟩ h (Nat.lt_succ_self _) (.q U) .nil
   ·exact WC.exit<|Lm<|Lm<|Lv<|Ln () h .nil .nil
  ·rintro  h
   replace h:=L.symm.trans h
   refine B1n U<|WC.ret ?_
   obtain rfl:=oJ h
   exact Li results10 (.tmp U .nil)<|fun w hw=>⟨xJ U,hw.sub .nil⟩
def rT  : Option (zi×List (List za)):=
 some ((⟨([(⟨⟨#[109]⟩,0,0,[]⟩:yx),(⟨⟨#[110]⟩,0,0,[]⟩:yx)]:List yx),[],([(⟨⟨#[115]⟩,0,16,100⟩:yz)]:List yz),([(⟨⟨#[109]⟩,⟨#[115]⟩,0,1⟩:yA),(⟨⟨#[110]⟩,⟨#[115]⟩,0,1⟩:yA)]:List yA),([(⟨⟨#[]⟩,(⟨⟨#[]⟩,⟨#[]⟩,⟨#[]⟩⟩:yv),200,40,[]⟩:ym)]:List ym),[],[],[]⟩:zi),([([(⟨0,2,0⟩:za),(⟨2,1,1⟩:za)]:List za)]:List (List za)))
theorem ag(Z:Zp)(r:zi×List (List za))(h:rT=some r)(w₀:World)(hz:PZ [] w₀ Z):
  Calls Tryz.prog 19 #[] w₀ fun e w'=>∃ Zn:Zp,∃ a:Option Addr,∃ b:Nat,∃ c:List Value,∃ d:Option Addr,∃ f:Nat,∃ g:Option Addr,∃ i:Nat,∃ j:Option Addr,∃ k:Nat,∃ m:Option Addr,∃ n:Nat,∃ o:List Value,∃ p:Option Addr,∃ q:Nat,∃ s:Option Addr,∃ t:Nat,∃ u:Option Addr,∃ x:Nat,∃ y:Option Addr,∃ z:Nat,∃ B:List Value,e = .returned (.tuple #[.agg #[vs a r.1.fM.length b,vs d r.1.yc.length f,vs g r.1.fS.length i,vs j r.1.fK.length k,vs m r.1.yd.length n,vs p r.1.fH.length q,vs s r.1.fU.length t,vs u r.1.yb.length x],vs y r.2.length z])/\((RR 4 (vU (Z++Zn)) c r.1.fM)/\(ZS (Z++Zn) 4 (qr (Z++Zn)) d f r.1.yc)/\(RR 7 (qK (Z++Zn)) o r.1.yd)/\(ZS (Z++Zn) 5 (rq qI) p q r.1.fH)/\(ZS (Z++Zn) 3 (qs (Z++Zn)) s t r.1.fU)/\(ZS (Z++Zn) 4 (rq qJ) u x r.1.yb)/\(RR 1 (qt (Z++Zn)) B r.2))/\Hp [] w₀ w' [fz Zn,row (vs a r.1.fM.length b) 126 4 c,row (vs g r.1.fS.length i) 64 4 (r.1.fS.flatMap jm),row (vs j r.1.fK.length k) 62 4 (r.1.fK.flatMap qm),row (vs m r.1.yd.length n) 69 7 o,row (vs y r.2.length z) 58 1 B]:=by
 unfold rT at h
 refine Calls.on0 func19 ntmps19 ?_
 refine WC.pool<|WC.b<|Ld (Lg 0 (xG (cs:=[vn,vn,vn,vn,vn,vn,vn,vn]) zBW U) fun Q _=>Q1n U<|B0q<|Le 3 (w3 (v:=(.agg #[.string ⟨#[109]⟩,vi 0,vi 0,vn])) (Lq (l:=[.const (.string ⟨#[109]⟩)]) (.cons U .nil) [0]) (fun _=>by kernel_rfl))<|Le 4 (w3 (v:=(.agg #[.string ⟨#[110]⟩,vi 0,vi 0,vn])) (Lq (l:=[.const (.string ⟨#[110]⟩)]) (.cons U .nil) [0]) (fun _=>by kernel_rfl)) ?_)
 let D:List Value:=[.string ⟨#[109]⟩,vi 0,vi 0,vn,.string ⟨#[110]⟩,vi 0,vi 0,vn];have L:RR 4 (vU (Z++[])) D ([(⟨⟨#[109]⟩,0,0,[]⟩:yx),(⟨⟨#[110]⟩,0,0,[]⟩:yx)]:List yx):=(RR.cons (r:=[.string ⟨#[109]⟩,vi 0,vi 0,vn]) U (show vU _ _ _ from⟨_,_,U,ZS.nil _ _ _⟩) (RR.cons (r:=[.string ⟨#[110]⟩,vi 0,vi 0,vn]) U (show vU _ _ _ from⟨_,_,U,ZS.nil _ _ _⟩) (RR.nil _ _)))
 refine Lg 5 (xU (cs:=[.string ⟨#[109]⟩,vi 0,vi 0,vn,.string ⟨#[110]⟩,vi 0,vi 0,vn]) zBX (Lq (l:=[.tmp 3,.tmp 4]) (.r2 U U) [0,1]) (fun _=>by kernel_rfl) U (by unfold maxLen;omega)) fun E _=>Le 6 (w3 (v:=(.agg #[.string ⟨#[115]⟩,vi 0,vi 16,vi 100])) (Lq (l:=[.const (.string ⟨#[115]⟩),.const (vi 16),.const (vi 100)]) (.r3 U U U) [0,2,3]) (fun _=>by kernel_rfl)) (Lg 7 (xU (cs:=([(⟨⟨#[115]⟩,0,16,100⟩:yz)]:List yz).flatMap jm) zj7 (Lq (l:=[.tmp 6]) (.cons U .nil) [0]) (fun _=>by kernel_rfl) U (by unfold maxLen;omega)) fun F _=>Le 8 (w3 (v:=(.agg #[.string ⟨#[109]⟩,.string ⟨#[115]⟩,vi 0,vi 1])) (Lq (l:=[.const (.string ⟨#[109]⟩),.const (.string ⟨#[115]⟩),.const (vi 1)]) (.r3 U U U) [0,1,3]) (fun _=>by kernel_rfl))<|Le 9 (w3 (v:=(.agg #[.string ⟨#[110]⟩,.string ⟨#[115]⟩,vi 0,vi 1])) (Lq (l:=[.const (.string ⟨#[110]⟩),.const (.string ⟨#[115]⟩),.const (vi 1)]) (.r3 U U U) [0,1,3]) (fun _=>by kernel_rfl)) (Lg 10 (xU (cs:=([(⟨⟨#[109]⟩,⟨#[115]⟩,0,1⟩:yA),(⟨⟨#[110]⟩,⟨#[115]⟩,0,1⟩:yA)]:List yA).flatMap qm) z7V (Lq (l:=[.tmp 8,.tmp 9]) (.r2 U U) [0,1]) (fun _=>by kernel_rfl) U (by unfold maxLen;omega)) fun G _=>Le 11 (w3 (v:=(.agg #[.string ⟨#[]⟩,.string ⟨#[]⟩,.string ⟨#[]⟩,.string ⟨#[]⟩,vi 200,vi 40,vn])) (Lq (l:=[.const (vi 200),.const (vi 40)]) (.r2 U U) [2,3]) (fun _=>by kernel_rfl)) ?_))
 let A:List Value:=[.string ⟨#[]⟩,.string ⟨#[]⟩,.string ⟨#[]⟩,.string ⟨#[]⟩,vi 200,vi 40,vn];have M:RR 7 (qK (Z++[])) A ([(⟨⟨#[]⟩,(⟨⟨#[]⟩,⟨#[]⟩,⟨#[]⟩⟩:yv),200,40,[]⟩:ym)]:List ym):=(RR.cons (r:=A) U (show qK _ _ _ from⟨_,_,U,ZS.nil _ _ _⟩) (RR.nil _ _))
 refine Lg 12 (xU (cs:=[.string ⟨#[]⟩,.string ⟨#[]⟩,.string ⟨#[]⟩,.string ⟨#[]⟩,vi 200,vi 40,vn]) zbT (Lq (l:=[.tmp 11]) (.cons U .nil) [0]) (fun _=>by kernel_rfl) U (by unfold maxLen;omega)) fun H _=>Le 13 (w3 (v:=(.agg #[vs (some ⟨E,0,none⟩) (([(⟨⟨#[109]⟩,0,0,[]⟩:yx),(⟨⟨#[110]⟩,0,0,[]⟩:yx)]:List yx).length) 2,vn,vs (some ⟨F,0,none⟩) (([(⟨⟨#[115]⟩,0,16,100⟩:yz)]:List yz).length) 1,vs (some ⟨G,0,none⟩) (([(⟨⟨#[109]⟩,⟨#[115]⟩,0,1⟩:yA),(⟨⟨#[110]⟩,⟨#[115]⟩,0,1⟩:yA)]:List yA).length) 2,vs (some ⟨H,0,none⟩) (([(⟨⟨#[]⟩,(⟨⟨#[]⟩,⟨#[]⟩,⟨#[]⟩⟩:yv),200,40,[]⟩:ym)]:List ym).length) 1,vn,vn,vn])) (Lq (l:=[.tmp 5,.tmp 7,.tmp 10,.tmp 12]) (.r4 U U U U) [0,2,3,4]) (fun _=>by kernel_rfl)) (Lg 2 (xG (cs:=[vn,vn,vn,vn,vn,vn,vn,vn]) zBW U) fun R _=>Lo U U (xz zBY U U U .here U U U)<|Q0n<|B0q<|Le 14 (xw z1j U (xy .here) U)<|Le 15 (w3 (v:=(.agg #[vi 0,vi 2,vi 0])) (Lq (l:=[.const (vi 0),.const (vi 2),.const (vi 0)]) (.r3 U U U) [0,1,2]) (fun _=>by kernel_rfl))<|Le 16 (w3 (v:=(.agg #[vi 2,vi 1,vi 1])) (Lq (l:=[.const (vi 2),.const (vi 1),.const (vi 1)]) (.r3 U U U) [0,1,2]) (fun _=>by kernel_rfl)) (Lg 17 (xU (cs:=([(⟨0,2,0⟩:za),(⟨2,1,1⟩:za)]:List za).flatMap vw) z1v (Lq (l:=[.tmp 15,.tmp 16]) (.r2 U U) [0,1]) (fun _=>by kernel_rfl) U (by unfold maxLen;omega)) fun I _=>WL.freezeS (ls:=([(⟨0,2,0⟩:za),(⟨2,1,1⟩:za)]:List za)) .here .h6 hz (RR.flat (enc:=vw) (fun _=>U) _) ?_))
 intro J K N
 let C:Value:=(vs (some ⟨I,0,none⟩) (([(⟨0,2,0⟩:za),(⟨2,1,1⟩:za)]:List za).length) 2);have O:RR 1 (qt (Z++J)) [C] ([([(⟨0,2,0⟩:za),(⟨2,1,1⟩:za)]:List za)]:List (List za)):=(RR.cons (r:=[C]) U (show qt _ _ _ from⟨_,_,U,N⟩) (RR.nil _ _))
 refine Lg 18 (xU (cs:=[vs (some ⟨I,0,none⟩) (([(⟨0,2,0⟩:za),(⟨2,1,1⟩:za)]:List za).length) 2]) z3K (Lq (l:=[.tmp 17]) (.cons U .nil) [0]) (fun _=>by kernel_rfl) U (by unfold maxLen;omega)) fun P _=>Lo U U (xz zBY U U U .h7 U U U)<|Q1n U<|WC.ret ?_
 obtain rfl:=oJ h
 exact Li results19 (.agg U z1j U (xy .here)<|.tmp U .nil)<|fun w hw=>⟨J,some ⟨E,0,none⟩,2,D,none,0,some ⟨F,0,none⟩,1,some ⟨G,0,none⟩,2,some ⟨H,0,none⟩,1,A,none,0,none,0,none,0,some ⟨P,0,none⟩,1,[C],wV U U,⟨L.weak (fun _ _ h=>wg K h),ZS.nil _ _ _,M.weak (fun _ _ h=>wi K h),ZS.nil _ _ _,ZS.nil _ _ _,ZS.nil _ _ _,O⟩,hw.sub (.s6 .h2 .h6 .h5 .h4 .h3 .h1)⟩
def mc(a:zi):Option Int:=
 some (i64 ((a.fM.length:Int)+(a.fS.length:Int)))
theorem ia(Z:Zp)(b:Option Addr)(c:Nat)(d:Option Addr)(e:Nat)(f:Option Addr)(g:Nat)(i:Option Addr)(j:Nat)(k:Option Addr)(l:Nat)(m:Option Addr)(n:Nat)(o:Option Addr)(p:Nat)(q:Option Addr)(s:Nat)(a:zi)(r:Int)(h:mc a=some r)(w₀:World)(hz:PZ [] w₀ Z)(t:ZS Z 4 (vU Z) b c a.fM)(u:ZS Z 4 (qr Z) d e a.yc)(v:ZS Z 4 (rq jm) f g a.fS)(x:ZS Z 4 (rq qm) i j a.fK)(y:ZS Z 7 (qK Z) k l a.yd)(z:ZS Z 5 (rq qI) m n a.fH)(A:ZS Z 3 (qs Z) o p a.fU)(B:ZS Z 4 (rq qJ) q s a.yb):
  RC 172 #[.agg #[vs b a.fM.length c,vs d a.yc.length e,vs f a.fS.length g,vs i a.fK.length j,vs k a.yd.length l,vs m a.fH.length n,vs o a.fU.length p,vs q a.yb.length s]] w₀ (vi r) [] []:=by
 unfold mc at h
 refine L9 func172 ntmps172 ?_
 refine WC.b<|Ld (Lg 1 (xO (cs:=[vs b a.fM.length c,vs d a.yc.length e,vs f a.fS.length g,vs i a.fK.length j,vs k a.yd.length l,vs m a.fH.length n,vs o a.fU.length p,vs q a.yb.length s]) U U) fun C _=>Q1n U<|B0q<|Le 3 (xk jB U U)<|Le 4 (xl z4F U<|xt .here U)<|Le 5 (xK underlying22 U)<|Le 6 (xk uL U U)<|Le 7 (xl zbS U<|xt .here U)<|Le 8 (xK underlying24 U)<|Q2n U<|WC.ret ?_)
 obtain rfl:=oJ h
 exact Li results172 (.tmp U .nil)<|fun w hw=>⟨xJ U,hw.sub .nil⟩
def fm(a:zi)(b:Int):Option ByteArray:=
 (if decide (b<0) then some true else(mc a).bind fun c=>some (decide (b>=c))).bind fun d=>if d then some ⟨#[]⟩ else if decide (b<a.fM.length) then chk (0<=b/\b<a.fM.length) (some ((nth a.fM b).yq)) else chk (0<=(i64 (b-(a.fM.length:Int)))/\(i64 (b-(a.fM.length:Int)))<a.fS.length) (some ((nth a.fS (i64 (b-(a.fM.length:Int)))).yq))
theorem Y8(Z:Zp)(c:Option Addr)(d:Nat)(e:Option Addr)(f:Nat)(g:Option Addr)(i:Nat)(j:Option Addr)(k:Nat)(l:Option Addr)(m:Nat)(n:Option Addr)(o:Nat)(p:Option Addr)(q:Nat)(s:Option Addr)(t:Nat)(a:zi)(u:Int)(r:ByteArray)(h:fm a u=some r)(w₀:World)(hz:PZ [] w₀ Z)(v:ZS Z 4 (vU Z) c d a.fM)(z:ZS Z 4 (qr Z) e f a.yc)(x:ZS Z 4 (rq jm) g i a.fS)(A:ZS Z 4 (rq qm) j k a.fK)(C:ZS Z 7 (qK Z) l m a.yd)(D:ZS Z 5 (rq qI) n o a.fH)(E:ZS Z 3 (qs Z) p q a.fU)(F:ZS Z 4 (rq qJ) s t a.yb):
  RC 173 #[.agg #[vs c a.fM.length d,vs e a.yc.length f,vs g a.fS.length i,vs j a.fK.length k,vs l a.yd.length m,vs n a.fH.length o,vs p a.fU.length q,vs s a.yb.length t],vi u] w₀ (.string r) [] []:=by
 unfold fm at h
 refine L3 func173 ntmps173 ?_
 refine WC.b<|Ld (Lg 2 (xO (cs:=[vs c a.fM.length d,vs e a.yc.length f,vs g a.fS.length i,vs j a.fK.length k,vs l a.yd.length m,vs n a.fH.length o,vs p a.fU.length q,vs s a.yb.length t]) U U) fun P _=>Q1n U<|B0q<|Le 6 (xk jB U U)<|Le 7 (xl z4F U<|xt .here U)<|Le 8 (xK underlying22 U)<|Q1n U<|WC.block<|WC.b ?_)
 refine bK h fun G y h=>D3q U<|Lx false 4 20 (B:=G) U U U U U U (fun h=>(oJ<|q7 y h).symm) (fun _ H=>?_) ?_
 ·have b:=q8 y H
  obtain⟨ab,I,b⟩:=z8 b
  replace b:=oJ b
  exact La U<|Le 22 (xw z1j U (xy .here) U)<|Lp 23 (zb call172<|.cons U .nil) .nil (cc hz .nil fun w pz ho=>ia _ _ _ _ _ _ _ _ _ _ _ _ _ _ _ _ _ _ _ I w pz v z x A C D E F)<|Q2q U<|Ly b U U .all
 refine Q1n U<|Lk U h (fun J h=>?_)<|fun J h=>?_
 ·refine B1n U<|WC.ret<|Lu ?_
  obtain rfl:=oJ h
  exact Li results173 (.tmp U .nil)<|fun w hw=>⟨xJ U,hw.sub .nil⟩
 ·refine B4n U<|Lk U h (fun K h=>?_)<|fun K h=>?_
  ·refine WC.b<|cK h fun L h=>Ld<|Le 30 (xk jB U U)<|Le 31 (xl z4F U<|xt .here U)<|La U<|L0 (dd:=33) U U (Z:=Z) (Pr:=(vU Z)) zBX U U v L ?_
   rintro Q R M S ⟨T,V,rfl,W⟩
   refine Le 34 (xk XL U U)<|Le 35 (xl pY U<|xM hz.pv M U)<|Q1n U<|WC.ret<|Lu ?_
   obtain rfl:=oJ h
   exact Li results173 (.tmp U .nil)<|fun w hw=>⟨xJ U,hw.sub .nil⟩
  ·refine WC.b<|cK h fun N h=>Ld<|Le 9 (xk uL U U)<|Le 10 (xl zbS U<|xt .here U)<|La U<|La U<|La U<|L0 (dd:=14) U U (Z:=Z) (Pr:=(rq jm)) zj7 U U x N ?_
   rintro X Y O aa rfl
   refine Le 15 (xk Vs U U)<|Le 16 (xl pY U<|xM hz.pv O U)<|Q1n U<|WC.ret<|Lu ?_
   obtain rfl:=oJ h
   exact Li results173 (.tmp U .nil)<|fun w hw=>⟨xJ U,hw.sub .nil⟩
def qb(b:Int)(c:zi)(d:ByteArray)(e:Option Int):Nat->Int->Option Int
 | 0,_=>none
 | f+1,a=>if decide (a<b) then(fm c a).bind fun g=>if decide (g=d) then some a else qb b c d e f (i64 (a+1)) else e
def qT(a:zi)(b:ByteArray):Option Int:=
 g8 (some (-1)) fun c=>(mc a).bind fun d=>qb d a b c xC 0
theorem iQ(Z:Zp)(e:Option Addr)(f:Nat)(g:Option Addr)(i:Nat)(j:Option Addr)(k:Nat)(l:Option Addr)(m:Nat)(n:Option Addr)(o:Nat)(p:Option Addr)(q:Nat)(s:Option Addr)(t:Nat)(u:Option Addr)(v:Nat)(a:zi)(d:ByteArray)(r:Int)(h:qT a d=some r)(w₀:World)(hz:PZ [] w₀ Z)(x:ZS Z 4 (vU Z) e f a.fM)(y:ZS Z 4 (qr Z) g i a.yc)(z:ZS Z 4 (rq jm) j k a.fS)(B:ZS Z 4 (rq qm) l m a.fK)(C:ZS Z 7 (qK Z) n o a.yd)(D:ZS Z 5 (rq qI) p q a.fH)(E:ZS Z 3 (qs Z) s t a.fU)(F:ZS Z 4 (rq qJ) u v a.yb):
  RC 140 #[.agg #[vs e a.fM.length f,vs g a.yc.length i,vs j a.fS.length k,vs l a.fK.length m,vs n a.yd.length o,vs p a.fH.length q,vs s a.fU.length t,vs u a.yb.length v],.string d] w₀ (vi r) [] []:=by
 unfold qT at h
 refine L3 func140 ntmps140 ?_
 let A:List Value:=[vs e a.fM.length f,vs g a.yc.length i,vs j a.fS.length k,vs l a.fK.length m,vs n a.yd.length o,vs p a.fH.length q,vs s a.fU.length t,vs u a.yb.length v];refine B0q<|Lg 2 (xO (cs:=A) U U) ?_
 intro G _
 refine Q1n U<|jK0 h fun H J h=>L7 (H=some r) ([]) ([]) ?_ ?_
 ·refine WC.b<|bK h fun I K h=>Ld<|Le 6 (xw z1j U (xy .here) U)<|Lp 7 (zb call172<|.cons U .nil) .nil (cc hz .nil fun w pz ho=>ia _ _ _ _ _ _ _ _ _ _ _ _ _ _ _ _ _ _ _ K w pz x y z B C D E F)<|Q1n U<|WC.block<|L6 (fun(c:Nat) (b:Int)=>(qb I a d H c b=some r)) (fun c b=>[(1,.string d),(2,vp G),(7,vi I),(8,vi b)]) (fun c b=>[stb G 31 A]) (fun c b=>c) ⟨xC,0⟩ h (.q U) (.cons .here .nil) ?_
  rintro(_|L) b h;·cases h
  rw[qb] at h
  refine B1n U<|WC.b<|Lk U h (fun M h=>?_)<|fun M h=>?_
  ·refine WC.skip<|Lb<|WC.b<|WC.block<|B2n U<|WC.b<|bK h fun P N h=>Ld<|Le 11 (xw z1j U (xy .here) U)<|La U<|Lp 13 (zb call173<|.r2 U U) .nil (cc hz .nil fun w pz ho=>Y8 _ _ _ _ _ _ _ _ _ _ _ _ _ _ _ _ _ _ _ _ N w pz x y z B C D E F)<|La U<|Le 15 (Xx U U)<|Q0n<|Lk U h (fun O h=>?_)<|fun O h=>?_
   ·refine B2n U<|WC.ret<|Lu<|Ll<|Ll<|Lu<|Ll ?_
    obtain rfl:=oJ h
    exact Li results140 (.tmp U .nil)<|fun w hw=>⟨xJ U,hw.sub .nil⟩
   ·exact WC.skip<|Lt<|Lb<|D2q U<|WL.nil<|WX.round ⟨L,i64 (b+1)⟩ h (Nat.lt_succ_self _) (.q U)<|.cons .here .nil
  ·exact WC.exit<|Lm<|Lm<|Lv<|Ln () h .nil .nil
 ·rintro  h
  replace h:=J.symm.trans h
  refine B1n U<|WC.ret ?_
  obtain rfl:=oJ h
  exact Li results140 (.tmp U .nil)<|fun w hw=>⟨xJ U,hw.sub .nil⟩
def mA(a:zi)(c:Int)(b:Int):Option Bool:=
 if decide (b<a.fM.length) then some (decide (b>=0)) else chk (0<=(i64 (b-(a.fM.length:Int)))/\(i64 (b-(a.fM.length:Int)))<a.fS.length) (some (((((decide (((nth a.fS (i64 (b-(a.fM.length:Int)))).yB)=c))&&(decide (((nth a.fS (i64 (b-(a.fM.length:Int)))).yf)>=0)))&&(decide (((nth a.fS (i64 (b-(a.fM.length:Int)))).yf)<=1000)))&&(decide (((nth a.fS (i64 (b-(a.fM.length:Int)))).fT)>=0)))&&(decide (((nth a.fS (i64 (b-(a.fM.length:Int)))).fT)<=1073741824))))
theorem iR(Z:Zp)(c:Option Addr)(d:Nat)(e:Option Addr)(f:Nat)(g:Option Addr)(i:Nat)(j:Option Addr)(k:Nat)(l:Option Addr)(m:Nat)(n:Option Addr)(o:Nat)(p:Option Addr)(q:Nat)(s:Option Addr)(t:Nat)(a:zi)(b:Int)(u:Int)(r:Bool)(h:mA a b u=some r)(w₀:World)(hz:PZ [] w₀ Z)(G:ZS Z 4 (vU Z) c d a.fM)(H:ZS Z 4 (qr Z) e f a.yc)(v:ZS Z 4 (rq jm) g i a.fS)(I:ZS Z 4 (rq qm) j k a.fK)(J:ZS Z 7 (qK Z) l m a.yd)(K:ZS Z 5 (rq qI) n o a.fH)(L:ZS Z 3 (qs Z) p q a.fU)(M:ZS Z 4 (rq qJ) s t a.yb):
  RC 141 #[.agg #[vs c a.fM.length d,vs e a.yc.length f,vs g a.fS.length i,vs j a.fK.length k,vs l a.yd.length m,vs n a.fH.length o,vs p a.fU.length q,vs s a.yb.length t],vi b,vi u] w₀ (.bool r) [] []:=by
 unfold mA at h
 refine Me func141 ntmps141 ?_
 refine WC.b<|Ld (Lg 3 (xO (cs:=[vs c a.fM.length d,vs e a.yc.length f,vs g a.fS.length i,vs j a.fK.length k,vs l a.yd.length m,vs n a.fH.length o,vs p a.fU.length q,vs s a.yb.length t]) U U) fun N _=>Q1n U<|WC.b<|B1q U<|Le 9 (xk jB U U)<|Le 10 (xl z4F U<|xt .here U)<|Le 11 (xK underlying22 U)<|Q1n U<|Lk U h (fun x h=>?_)<|fun x h=>?_)
 ·refine B3n U<|WC.ret<|Ll ?_
  obtain rfl:=oJ h
  exact Li results141 (.tmp U .nil)<|fun w hw=>⟨xJ U,hw.sub .nil⟩
 ·refine WC.skip<|Lb<|WC.b<|cK h fun y h=>Ld<|Le 15 (xk uL U U)<|Le 16 (xl zbS U<|xt .here U)<|La U<|Le 18 (xk jB U U)<|Le 19 (xl z4F U<|xt .here U)<|Le 20 (xK underlying22 U)<|La U<|L0 (dd:=22) U U (Z:=Z) (Pr:=(rq jm)) zj7 U U v y ?_
  rintro O P z Q rfl
  refine Le 23 (xw zMl U (vQ hz.pv z) U)<|Lg 7 (xG (cs:=[.string ⟨#[]⟩,vi 0,vi 0,vi 0]) zMm U) ?_
  intro R _
  let A:=(i64 (u-(a.fM.length:Int)));refine Lo U U (xz zMn U U U .here U U U)<|Q0n<|B0q<|Le 24 (xk Vv U U)<|Le 25 (xl xu U<|xt .here U)<|La U<|La U<|La U<|Lx true 3 28 (B:=(decide (((nth a.fS A).yB)=b))&&(decide (((nth a.fS A).yf)>=0))) U U U U U U (fun h=>(vy h).symm) (fun _ C=>?_) ?_
  ·exact Le 29 (xk pG U U)<|Le 30 (xl xu U<|xt .here U)<|Q2q U<|Ly (vz C) U U .all
  refine La U<|Lx true 3 33 (B:=((decide (((nth a.fS A).yB)=b))&&(decide (((nth a.fS A).yf)>=0)))&&(decide (((nth a.fS A).yf)<=1000))) U U U U U U (fun h=>(vy h).symm) (fun _ D=>?_) ?_
  ·exact Le 34 (xk pG U U)<|Le 35 (xl xu U<|xt .here U)<|Q2q U<|Ly (vz D) U U .all
  refine La U<|Lx true 3 38 (B:=(((decide (((nth a.fS A).yB)=b))&&(decide (((nth a.fS A).yf)>=0)))&&(decide (((nth a.fS A).yf)<=1000)))&&(decide (((nth a.fS A).fT)>=0))) U U U U U U (fun h=>(vy h).symm) (fun _ E=>?_) ?_
  ·exact Le 39 (xk eB U U)<|Le 40 (xl xu U<|xt .here U)<|Q2q U<|Ly (vz E) U U .all
  refine La U<|Lx true 3 43 (B:=((((decide (((nth a.fS A).yB)=b))&&(decide (((nth a.fS A).yf)>=0)))&&(decide (((nth a.fS A).yf)<=1000)))&&(decide (((nth a.fS A).fT)>=0)))&&(decide (((nth a.fS A).fT)<=1073741824))) U U U U U U (fun h=>(vy h).symm) (fun _ F=>?_) ?_
  ·exact Le 44 (xk eB U U)<|Le 45 (xl xu U<|xt .here U)<|Q2q U<|Ly (vz F) U U .all
  refine Q1n U<|WC.ret ?_
  obtain rfl:=oJ h
  exact Li results141 (.tmp U .nil)<|fun w hw=>⟨xJ U,hw.sub .nil⟩
def uh(a:zi)(e:Int)(b:Int)(f:Int)(g:Int):Option Bool:=
 if (decide (b<0))||(decide (b>=a.fK.length)) then some false else chk (0<=b/\b<a.fK.length) ((qT a ((nth a.fK b).fA)).bind fun c=>(qT a ((nth a.fK b).fB)).bind fun d=>(if (((decide (((nth a.fK b).yB)=e))&&(decide (((nth a.fK b).yj)>=1)))&&(decide (((nth a.fK b).yj)<=16)))&&(decide (c≠d)) then(mA a e c).bind fun h=>some h else some false).bind fun i=>(if i then(mA a e d).bind fun j=>some j else some false).bind fun k=>some (k&&(((decide (c=f))&&(decide (d=g)))||((decide (c=g))&&(decide (d=f))))))
theorem ah(Z:Zp)(t:Option Addr)(u:Nat)(v:Option Addr)(x:Nat)(y:Option Addr)(z:Nat)(A:Option Addr)(C:Nat)(D:Option Addr)(E:Nat)(F:Option Addr)(G:Nat)(H:Option Addr)(I:Nat)(J:Option Addr)(K:Nat)(a:zi)(g:Int)(b:Int)(c:Int)(d:Int)(r:Bool)(h:uh a g b c d=some r)(w₀:World)(hz:PZ [] w₀ Z)(l:ZS Z 4 (vU Z) t u a.fM)(m:ZS Z 4 (qr Z) v x a.yc)(n:ZS Z 4 (rq jm) y z a.fS)(i:ZS Z 4 (rq qm) A C a.fK)(o:ZS Z 7 (qK Z) D E a.yd)(p:ZS Z 5 (rq qI) F G a.fH)(q:ZS Z 3 (qs Z) H I a.fU)(s:ZS Z 4 (rq qJ) J K a.yb):
  RC 93 #[.agg #[vs t a.fM.length u,vs v a.yc.length x,vs y a.fS.length z,vs A a.fK.length C,vs D a.yd.length E,vs F a.fH.length G,vs H a.fU.length I,vs J a.yb.length K],vi g,vi b,vi c,vi d] w₀ (.bool r) [] []:=by
 unfold uh at h
 refine Calls.on5 func93 ntmps93 ?_
 refine WC.b<|Ld (Lg 5 (xO (cs:=[vs t a.fM.length u,vs v a.yc.length x,vs y a.fS.length z,vs A a.fK.length C,vs D a.yd.length E,vs F a.fH.length G,vs H a.fU.length I,vs J a.yb.length K]) U U) fun ak _=>Q1n U<|WC.b<|WC.b<|Ld<|La U<|La U<|La U<|Lx false 5 16 (B:=(decide (b<0))||(decide (b>=a.fK.length))) U U U U U U (fun h=>(kx h).symm) (fun _ O=>?_) ?_)
 ·exact La U<|Le 18 (xk jQ U U)<|Le 19 (xl z5E U<|xt .here U)<|Le 20 (xK underlying25 U)<|Q2q U<|Ly (ky O) U U .all
 refine Q0n<|Lk U h (fun P h=>?_)<|fun P h=>?_
 ·refine B1n U<|WC.ret<|Ll ?_
  obtain rfl:=oJ h
  exact Li results93 (.tmp U .nil)<|fun w hw=>⟨xJ U,hw.sub .nil⟩
 ·refine WC.skip<|Lb<|WC.b<|cK h fun Q h=>Ld<|Le 23 (xk jQ U U)<|Le 24 (xl z5E U<|xt .here U)<|La U<|L0 (dd:=26) U U (Z:=Z) (Pr:=(rq qm)) z7V U U i Q ?_
  rintro al am R an rfl
  refine Le 27 (xw zWi U (vQ hz.pv R) U) (Lg 11 (xG (cs:=[.string ⟨#[]⟩,.string ⟨#[]⟩,vi 0,vi 0]) zWj U) fun ao _=>Lo U U (xz zWk U U U .here U U U)<|Q0n<|WC.b ?_)
  refine bK h fun e S h=>bK h fun f T h=>Lz nc [] U<|Lh 0 28 U (xw z1j U (xy .h1) U)<|Lf 1 29 U (xk Vr U U)<|Lh 2 30 U (xl pY U<|xt .here U)<|L5 3 31 U (zb call140<|.r2 U U) (cc hz .nil fun w pz ho=>iQ _ _ _ _ _ _ _ _ _ _ _ _ _ _ _ _ _ _ _ _ S w pz l m n i o p q s)<|Lh 4 32 U (xw z1j U (xy .h1) U)<|Lf 5 33 U (xk Vt U U)<|Lh 6 34 U (xl pY U<|xt .here U)<|L5 7 35 U (zb call140<|.r2 U U) (cc hz .nil fun w pz ho=>iQ _ _ _ _ _ _ _ _ _ _ _ _ _ _ _ _ _ _ _ _ T w pz l m n i o p q s)<|Lf 8 12 U (q_z U)<|Lf 9 13 U (q_z U)<|WD.done (by kernel_rfl)<|Lb<|WC.b<|bK h fun V L h=>bK h fun M N h=>Ld<|Le 36 (xk Vu U U)<|Le 37 (xl xu U<|xt .here U)<|La U<|La U<|La U<|Lx true 3 40 (B:=(decide (((nth a.fK b).yB)=g))&&(decide (((nth a.fK b).yj)>=1))) U U U U U U (fun h=>(vy h).symm) (fun _ W=>?_) ?_
  ·exact Le 41 (xk mz U U)<|Le 42 (xl xu U<|xt .here U)<|Q2q U<|Ly (vz W) U U .all
  refine La U<|Lx true 3 45 (B:=((decide (((nth a.fK b).yB)=g))&&(decide (((nth a.fK b).yj)>=1)))&&(decide (((nth a.fK b).yj)<=16))) U U U U U U (fun h=>(vy h).symm) (fun _ X=>?_) ?_
  ·exact Le 46 (xk mz U U)<|Le 47 (xl xu U<|xt .here U)<|Q2q U<|Ly (vz X) U U .all
  refine La U<|Lx true 3 50 (B:=(((decide (((nth a.fK b).yB)=g))&&(decide (((nth a.fK b).yj)>=1)))&&(decide (((nth a.fK b).yj)<=16)))&&(decide (e≠f))) U U U U U U (fun h=>(vy h).symm) (fun _ Y=>?_) ?_
  ·exact La U<|La U<|La U<|La U<|Ly (vz Y) U U .all
  refine La U<|Lx true 4 55 (B:=V) U U U U U U (fun h=>(oJ<|q8 L h).symm) (fun _ aa=>?_) ?_
  ·have j:=q7 L aa
   obtain⟨ap,ab,j⟩:=z8 j
   replace j:=oJ j
   exact Le 56 (xw z1j U (xy .h1) U)<|Q2q U<|Lp 59 (zb call141<|.r3 U U U) .nil (cc hz .nil fun w pz ho=>iR _ _ _ _ _ _ _ _ _ _ _ _ _ _ _ _ _ _ _ _ _ ab w pz l m n i o p q s)<|La U<|Ly j U U .all
  refine La U<|Lx true 4 61 (B:=M) U U U U U U (fun h=>(oJ<|q8 N h).symm) (fun _ ad=>?_) ?_
  ·have k:=q7 N ad
   obtain⟨aq,ae,k⟩:=z8 k
   replace k:=oJ k
   exact Le 62 (xw z1j U (xy .h1) U)<|Q2q U<|Lp 65 (zb call141<|.r3 U U U) .nil (cc hz .nil fun w pz ho=>iR _ _ _ _ _ _ _ _ _ _ _ _ _ _ _ _ _ _ _ _ _ ae w pz l m n i o p q s)<|La U<|Ly k U U .all
  refine La U<|Lx true 18 67 (B:=M&&(((decide (e=c))&&(decide (f=d)))||((decide (e=d))&&(decide (f=c))))) U U U U U U (fun h=>(vy h).symm) (fun _ af=>?_) ?_
  ·refine La U<|La U<|La U<|La U<|Lx true 3 71 (B:=(decide (e=c))&&(decide (f=d))) U U U U U U (fun h=>(vy h).symm) (fun _ ag=>?_) ?_
   ·exact La U<|La U<|La U<|La U<|Ly (vz ag) U U .all
   refine La U<|Lx false 8 76 (B:=((decide (e=c))&&(decide (f=d)))||((decide (e=d))&&(decide (f=c)))) U U U U U U (fun h=>(kx h).symm) (fun _ ai=>?_) ?_
   ·refine La U<|La U<|La U<|La U<|Lx true 3 80 (B:=(decide (e=d))&&(decide (f=c))) U U U U U U (fun h=>(vy h).symm) (fun _ aj=>?_) ?_
    ·exact La U<|La U<|La U<|La U<|Ly (vz aj) U U .all
    exact La U<|Ly (ky ai) U U .all
   exact La U<|Ly (vz af) U U .all
  refine Q1n U<|WC.ret ?_
  obtain rfl:=oJ h
  exact Li results93 (.tmp U .nil)<|fun w hw=>⟨xJ U,hw.sub .nil⟩
def jx(b:List za)(d:zi)(f:Int)(g:Option Bool):Nat->Int->(List (Int×Int))->Option Bool
 | 0,_,_=>none
 | i+1,a,e=>if decide (a<b.length) then chk (0<=a/\a<b.length) (vk (fun(c:List (Int×Int))=>chk (((decide ((xx c ((nth b a).ya) 0)=0))||(decide ((xx c ((nth b a).fX) 0)>0)))=false->((decide (a>0))=true->((0:Int)<=0/\0<(b.length:Int)))) ((if ((decide ((xx c ((nth b a).ya) 0)=0))||(decide ((xx c ((nth b a).fX) 0)>0)))||(((decide (a>0))&&(decide (((nth b a).ya)≠((nth b 0).ya))))&&(decide (((nth b a).ya)<d.fM.length))) then some true else(uh d f ((nth b a).fQ) ((nth b a).ya) ((nth b a).fX)).bind fun j=>some (!j)).bind fun k=>if k then some false else jx b d f g i (i64 (a+1)) (xT c ((nth b a).fX) (i64 ((xx c ((nth b a).fX) 0)+1))))) fun h=>if decide (a=0) then h (xT e ((nth b a).ya) (i64 ((xx e ((nth b a).ya) 0)+1))) else h e) else g
def ui(b:zi)(c:Int)(a:List za):Option Bool:=
 g8 (some (decide ((a.length:Int)<=32))) fun d=>jx a b c d xC 0 ([]:List (Int×Int))
theorem ai(Z:Zp)(s:Option Addr)(t:Nat)(u:Option Addr)(x:Nat)(y:Option Addr)(z:Nat)(B:Option Addr)(I:Nat)(J:Option Addr)(K:Nat)(L:Option Addr)(M:Nat)(N:Option Addr)(O:Nat)(P:Option Addr)(Q:Nat)(R:Option Addr)(S:Nat)(c:zi)(e:Int)(b:List za)(r:Bool)(h:ui c e b=some r)(w₀:World)(hz:PZ [] w₀ Z)(ap:ZS Z 4 (vU Z) s t c.fM)(aq:ZS Z 4 (qr Z) u x c.yc)(ar:ZS Z 4 (rq jm) y z c.fS)(au:ZS Z 4 (rq qm) B I c.fK)(av:ZS Z 7 (qK Z) J K c.yd)(aw:ZS Z 5 (rq qI) L M c.fH)(ax:ZS Z 3 (qs Z) N O c.fU)(ay:ZS Z 4 (rq qJ) P Q c.yb)(af:ZS Z 3 (rq vw) R S b):
  RC 52 #[.agg #[vs s c.fM.length t,vs u c.yc.length x,vs y c.fS.length z,vs B c.fK.length I,vs J c.yd.length K,vs L c.fH.length M,vs N c.fU.length O,vs P c.yb.length Q],vi e,vs R b.length S] w₀ (.bool r) [] []:=by
 unfold ui at h
 refine Me func52 ntmps52 ?_
 let A:List Value:=[vs s c.fM.length t,vs u c.yc.length x,vs y c.fS.length z,vs B c.fK.length I,vs J c.yd.length K,vs L c.fH.length M,vs N c.fU.length O,vs P c.yb.length Q];refine B0q<|Lg 3 (xO (cs:=A) U U) ?_
 intro g _
 refine Q1n U<|WC.b<|Ld (Lg 10 (jN vI<|Value.int .i64) fun l _=>Q1n U ?_)
 obtain⟨ag,az,h⟩:=wJ h
 let C:Value:=(vs R b.length S);refine L7 (ag=some r) ([(2,C)]) ([]) ?_ ?_
 ·refine B1q U<|Le 12 (xK underlying58 U)<|Q1n U<|WC.block<|WC.sk (fun(n:Nat) (a:Int) (f:List (Int×Int))=>(jx b c e ag n a f=some r)) (fun n a f=>[(1,vi e),(2,C),(3,vp g),(7,(.map<|some l)),(11,C),(12,vi (b.length:Int)),(13,vi a)]) (fun n a f=>[stb g 31 A,xB l vI vI f]) (fun n a f=>n) ⟨xC,0,([]:List (Int×Int))⟩ h (.q U) (.s2 .h1 .here) ?_
  rintro(_|aA) a f h;·cases h
  rw[jx] at h
  refine B1n U<|WC.b<|Lk U h (fun aB h=>?_)<|fun aB h=>?_
  ·refine WC.skip<|Lb<|WC.b<|WC.block<|WC.b<|cK h fun aC h=>D1q U<|L0 (dd:=16) U U (Z:=Z) (Pr:=(rq vw)) z1v U U af aC ?_
   rintro aO aP aD aQ rfl
   refine Le 17 (xw z5b U (vQ hz.pv aD) U) (Lg 9 (xG (cs:=[vi 0,vi 0,vi 0]) zaS U) fun m _=>La U<|Lo U U (xz za4 U U U .here U U U)<|Q0n ?_)
   refine jK1 h fun aE aF h=>Ma (fun(d:List (Int×Int))=>(aE d=some r)) (fun d=>[(1,vi e),(2,C),(3,vp g),(7,(.map<|some l)),(8,vi a),(9,vp m),(11,C),(12,vi (b.length:Int)),(13,vi a)]) (fun d=>[stb g 31 A,xB l vI vI d,stb m 60 [(vi<|(nth b a).ya),(vi<|(nth b a).fX),(vi<|(nth b a).fQ)]]) ?_ ?_
   ·refine B2n U<|Lk U h (fun aG h=>?_)<|fun aG h=>?_
    ·exact D1q U<|Le 21 (xk ww U U)<|Le 22 (xl xu U<|xt .here U)<|Le 23 (j8 (k:=((nth b a).ya)) (dflt:=(0:Int)) kG underlying148 qS U U U .h2)<|La U<|Lo U U (kw (k:=((nth b a).ya)) (v:=i64 ((xx f ((nth b a).ya) 0)+1)) kG underlying148 U U U U .h2)<|WL.nil<|Ln (xT f ((nth b a).ya)<|i64 ((xx f ((nth b a).ya) 0)+1)) h (.q U)<|.s3 .h2 .here .here
    ·exact WC.skip<|Ln f h (.q U)<|.s3 .h1 .h1 .here
   ·rintro d h
    replace h:=(aF d).symm.trans h
    refine WC.b<|WC.b ?_
    obtain⟨aH,h⟩:=xq h
    obtain⟨aI,aj,h⟩:=z8 h
    let E:Value:=(vi (b.length:Int));let F:Value:=(.bool ((decide ((xx d ((nth b a).ya) 0)=0))||(decide ((xx d ((nth b a).fX) 0)>0))));refine Lz nc [] U<|Lf 0 25 U (q_m U)<|Lf 1 26 U (xk ww U U)<|Lh 2 27 U (xl xu U<|xt .h2 U)<|Lh 3 28 U (j8 (k:=((nth b a).ya)) (dflt:=(0:Int)) kG underlying148 qS U U U .h1)<|Lf 4 29 U (sG U U)<|Lf 5 30 U (q_m U)<|Mc (fuel':=33) [(1,vi e),(2,C),(3,vp g),(7,(.map<|some l)),(8,vi a),(9,vp m),(11,C),(12,E),(13,vi a),(30,(.bool<|decide ((xx d ((nth b a).ya) 0)=0))),(36,F)] (wl 45 (dn 12)) ?_<|fun ak=>?_
    rotate_left
    ·rcases Bool.eq_false_or_eq_true (decide ((xx d ((nth b a).ya) 0)=0)) with hb' | hb'
     ·have T:=hb';clear hb'
      refine L4 (i:=30) U T<|Lj 6 31 U<|Lj 7 32 U<|Lj 8 33 U<|Lj 9 34 U<|Lj 10 35 U<|Lf 11 36 U (qe U U)<|Lw (.a3) ?_ ak
      exact .r11 U U U U U U U U U (zt<|Eq.symm T)<|zt<|kx T
     ·have V:=hb';clear hb'
      refine L4 (i:=30) U V<|Lf 6 31 U (q_m U)<|Lf 7 32 U (xk jR U U)<|Lh 8 33 U (xl xu U<|xt .h2 U)<|Lh 9 34 U (j8 (k:=((nth b a).fX)) (dflt:=(0:Int)) kG underlying148 qS U U U .h1)<|Lf 10 35 U (lS U U)<|Lf 11 36 U (qf U U)<|Lw (.a3) ?_ ak
      exact .r11 U U U U U U U U U (zt<|Eq.symm V)<|zt<|ky V
    let H:=(c.fM.length:Int);let D:Value:=(.bool (((decide ((xx d ((nth b a).ya) 0)=0))||(decide ((xx d ((nth b a).fX) 0)>0)))||(((decide (a>0))&&(decide (((nth b a).ya)≠((nth b 0).ya))))&&(decide (((nth b a).ya)<H)))));refine WD.d (bz 12 33) (by kernel_rfl)<|Lf 12 37 U (q_m U)<|Mc (fuel':=12) [(1,vi e),(2,C),(3,vp g),(7,(.map<|some l)),(9,vp m),(11,C),(12,E),(13,vi a),(37,F),(57,D)] (wl 45 (dn 33)) ?_<|fun al=>?_
    rotate_left
    ·rcases Bool.eq_false_or_eq_true ((decide ((xx d ((nth b a).ya) 0)=0))||(decide ((xx d ((nth b a).fX) 0)>0))) with hb' | hb'
     ·have W:=hb';clear hb'
      refine L4 (i:=37) U W<|Lj 13 38 U<|Lj 14 39 U<|Lj 15 40 U<|Lj 16 41 U<|Lj 17 42 U<|Lj 18 43 U<|Lj 19 44 U<|Lj 20 45 U<|Lj 21 46 U<|Lj 22 47 U<|Lj 23 48 U<|Lj 24 49 U<|Lj 25 50 U<|Lj 26 51 U<|Lj 27 52 U<|Lj 28 53 U<|Lj 29 54 U<|Lj 30 55 U<|Lj 31 56 U<|Lf 32 57 U (qe U U)<|Lw (.a3) ?_ al
      exact .r10 U U U U U U U U (zt<|Eq.symm W)<|zt<|kx W
     ·have p:=hb';clear hb'
      have aJ:=aH p
      let G:Value:=(.bool ((decide (a>0))&&(decide (((nth b a).ya)≠((nth b 0).ya)))));refine L4 (i:=37) U p<|Lf 13 38 U (q_m U)<|Lf 14 39 U (lS U U)<|Lf 15 40 U (q_m U)<|Mc (fuel':=21) [(1,vi e),(2,C),(3,vp g),(7,(.map<|some l)),(9,vp m),(11,C),(12,E),(13,vi a),(37,.bool false),(40,(.bool<|decide (a>0))),(48,G)] (wl 45 (dn 24)) ?_<|fun am=>?_
      rotate_left
      ·rcases Bool.eq_false_or_eq_true (decide (a>0)) with hb' | hb'
       ·have q:=hb';clear hb'
        have aK:=aJ q
        refine L4 (i:=40) U q<|Lf 16 41 U (xk ww U U)<|Lh 17 42 U (xl xu U<|xt .h2 U)<|Lf 18 43 U (q_m U)<|L2 (j:=19) (dd:=44) (by kernel_rfl) U zO zP U U (Z:=Z) (Pr:=(rq vw)) z1v U U af aK ?_
        rintro aR aS aL aT rfl
        refine Lf 20 45 U (xk ww U U)<|Lh 21 46 U (xl xu U<|xM hz.pv aL U)<|Lf 22 47 U (eh U U)<|Lf 23 48 U (qe U U)<|Lw (.a3) ?_ am
        exact .r11 U U U U U U U U U (zt<|Eq.symm q)<|zt<|vz q
       ·have X:=hb';clear hb'
        refine L4 (i:=40) U X<|Lj 16 41 U<|Lj 17 42 U<|Lj 18 43 U<|Lj 19 44 U<|Lj 20 45 U<|Lj 21 46 U<|Lj 22 47 U<|Lf 23 48 U (qf U U)<|Lw (.a3) ?_ am
        exact .r11 U U U U U U U U U (zt<|Eq.symm X)<|zt<|vy X
      refine WD.d (bz 24 21) (by kernel_rfl)<|Lf 24 49 U (q_m U)<|Mc (fuel':=13) [(1,vi e),(2,C),(3,vp g),(7,(.map<|some l)),(9,vp m),(11,C),(12,E),(13,vi a),(37,.bool false),(49,G),(56,(.bool<|((decide (a>0))&&(decide (((nth b a).ya)≠((nth b 0).ya))))&&(decide (((nth b a).ya)<H))))] (wl 45 (dn 32)) ?_<|fun an=>?_
      rotate_left
      ·rcases Bool.eq_false_or_eq_true ((decide (a>0))&&(decide (((nth b a).ya)≠((nth b 0).ya)))) with hb' | hb'
       ·have Y:=hb';clear hb'
        refine L4 (i:=49) U Y<|Lf 25 50 U (xk ww U U)<|Lh 26 51 U (xl xu U<|xt .h2 U)<|Lf 27 52 U (xk jB U U)<|Lh 28 53 U (xl z4F U<|xt .here U)<|Lf 29 54 U (xK underlying22 U)<|Lf 30 55 U (lR U U)<|Lf 31 56 U (qe U U)<|Lw (.a3) ?_ an
        exact .r11 U U U U U U U U U (zt<|Eq.symm Y)<|zt<|vz Y
       ·have aa:=hb';clear hb'
        refine L4 (i:=49) U aa<|Lj 25 50 U<|Lj 26 51 U<|Lj 27 52 U<|Lj 28 53 U<|Lj 29 54 U<|Lj 30 55 U<|Lf 31 56 U (qf U U)<|Lw (.a3) ?_ an
        exact .r11 U U U U U U U U U (zt<|Eq.symm aa)<|zt<|vy aa
      refine WD.d (bz 32 13) (by kernel_rfl)<|Lf 32 57 U (qf U U)<|Lw (.a3) ?_ al
      exact .r10 U U U U U U U U (zt<|Eq.symm p)<|zt<|ky p
    refine WD.d (bz 33 12) (by kernel_rfl)<|Lf 33 58 U (q_m U)<|Mc (fuel':=0) [(1,vi e),(2,C),(3,vp g),(7,(.map<|some l)),(9,vp m),(11,C),(12,E),(13,vi a),(58,D),(69,.bool aI)] (wl 45 (dn 45)) ?_<|fun ao=>?_
    rotate_left
    ·rcases Bool.eq_false_or_eq_true (((decide ((xx d ((nth b a).ya) 0)=0))||(decide ((xx d ((nth b a).fX) 0)>0)))||(((decide (a>0))&&(decide (((nth b a).ya)≠((nth b 0).ya))))&&(decide (((nth b a).ya)<H)))) with hb' | hb'
     ·have ab:=hb';clear hb'
      have ad:=q7 aj ab
      replace ad:=oJ ad
      refine L4 (i:=58) U ab<|Lj 34 59 U<|Lj 35 60 U<|Lj 36 61 U<|Lj 37 62 U<|Lj 38 63 U<|Lj 39 64 U<|Lj 40 65 U<|Lj 41 66 U<|Lj 42 67 U<|Lj 43 68 U<|Lf 44 69 U (qe U U)<|Lw (.a3) ?_ ao
      exact .r10 U U U U U U U U (zt<|Eq.symm ab)<|zt ad
     ·have ae:=hb';clear hb'
      have o:=q8 aj ae
      obtain⟨aU,aM,o⟩:=z8 o
      replace o:=oJ o
      refine L4 (i:=58) U ae<|Lh 34 59 U (xw z1j U (xy .here) U)<|Lf 35 60 U (q_m U)<|Lf 36 61 U (xk kz U U)<|Lh 37 62 U (xl xu U<|xt .h2 U)<|Lf 38 63 U (xk ww U U)<|Lh 39 64 U (xl xu U<|xt .h2 U)<|Lf 40 65 U (xk jR U U)<|Lh 41 66 U (xl xu U<|xt .h2 U)<|L5 42 67 U (zb call93<|.r5 U U U U U) (cc hz .nil fun w pz ho=>ah _ _ _ _ _ _ _ _ _ _ _ _ _ _ _ _ _ _ _ _ _ _ _ aM w pz ap aq ar au av aw ax ay)<|Lf 43 68 U (cz U)<|Lf 44 69 U (qf U U)<|Lw (.a3) ?_ ao
      exact .r10 U U U U U U U U (zt<|Eq.symm ae)<|zt o
    refine WD.d (bz 45 0) (by kernel_rfl)<|WD.done (by kernel_rfl)<|Lb<|Lk U h (fun aN h=>?_)<|fun aN h=>?_
    ·refine B1n U<|WC.ret<|Ll<|Lu<|Ll<|Ll<|Lu<|Ll ?_
     obtain rfl:=oJ h
     exact Li results52 (.tmp U .nil)<|fun w hw=>⟨xJ U,hw.sub .nil⟩
    ·exact WC.skip<|Lb<|D1q U<|Le 71 (xk jR U U)<|Le 72 (xl xu U<|xt .h2 U)<|Le 73 (j8 (k:=((nth b a).fX)) (dflt:=(0:Int)) kG underlying148 qS U U U .h1)<|La U<|Lo U U (kw (k:=((nth b a).fX)) (v:=i64 ((xx d ((nth b a).fX) 0)+1)) kG underlying148 U U U U .h1)<|WL.nil<|Lt<|Lb<|D2q U<|WL.nil<|WX.round ⟨aA,i64 (a+1),(xT d ((nth b a).fX)<|i64 ((xx d ((nth b a).fX) 0)+1))⟩ h (Nat.lt_succ_self _) (.q U)<|.s2 .h1 .here
  ·exact WC.exit<|Lm<|Lm<|Lv<|Ln () h (.cons U .nil) .nil
 ·rintro  h
  replace h:=az.symm.trans h
  refine B1q U<|Le 77 (xK underlying58 U)<|Q2n U<|WC.ret ?_
  obtain rfl:=oJ h
  exact Li results52 (.tmp U .nil)<|fun w hw=>⟨xJ U,hw.sub .nil⟩
def ve(a:List za)(b:zi)(c:Int):Option Bool:=
 (ui b c a).bind fun d=>some (!d)
theorem eN(Z:Zp)(c:Option Addr)(d:Nat)(e:Addr)(f:Option Addr)(g:Nat)(i:Option Addr)(j:Nat)(k:Option Addr)(l:Nat)(m:Option Addr)(n:Nat)(o:Option Addr)(p:Nat)(q:Option Addr)(s:Nat)(t:Option Addr)(u:Nat)(v:Option Addr)(x:Nat)(y:Addr)(b:List za)(a:zi)(z:Int)(r:Bool)(h:ve b a z=some r)(w₀:World)(hz:PZ [] w₀ Z)(A:ZS Z 3 (rq vw) c d b)(B:ZS Z 4 (vU Z) f g a.fM)(C:ZS Z 4 (qr Z) i j a.yc)(D:ZS Z 4 (rq jm) k l a.fS)(E:ZS Z 4 (rq qm) m n a.fK)(F:ZS Z 7 (qK Z) o p a.yd)(G:ZS Z 5 (rq qI) q s a.fH)(H:ZS Z 3 (qs Z) t u a.fU)(I:ZS Z 4 (rq qJ) v x a.yb)(J:ZC Z e [vs f a.fM.length g,vs i a.yc.length j,vs k a.fS.length l,vs m a.fK.length n,vs o a.yd.length p,vs q a.fH.length s,vs t a.fU.length u,vs v a.yb.length x])(K:ZC Z y [vi z]):
  RC 51 #[vs c b.length d,vq e,vq y] w₀ (.bool r) [] []:=by
 unfold ve at h
 refine Me func51 ntmps51 ?_
 refine B1n U<|WC.b<|bK h fun M L h=>Ld<|Le 5 (xw z1j U (vQ hz.pv J) U)<|Le 6 (xl xu U<|q9 hz.pv K U)<|La U<|Lp 8 (zb call52<|.r3 U U U) .nil (cc hz .nil fun w pz ho=>ai _ _ _ _ _ _ _ _ _ _ _ _ _ _ _ _ _ _ _ _ _ _ _ L w pz B C D E F G H I A)<|Q2n U<|WC.ret ?_
 obtain rfl:=oJ h
 exact Li results51 (.tmp U .nil)<|fun w hw=>⟨xJ U,hw.sub .nil⟩
def wa(b:List (List za))(zbZ:(List za)->Option Bool)(c:Option Int):Nat->Int->Option Int
 | 0,_=>none
 | d+1,a=>if decide (a<b.length) then chk (0<=a/\a<b.length) ((zbZ (nth b a)).bind fun e=>if e then some a else wa b zbZ c d (i64 (a+1))) else c
def vH(a:List (List za))(zbZ:(List za)->Option Bool):Option Int:=
 g8 (some (-1)) fun b=>wa a zbZ b xC 0
theorem tR(Z:Zp)(d:Option Addr)(g:Nat)(zlX:FuncId)(ztK:List Value)(b:List (List za))(zbZ:(List za)->Option Bool)(r:Int)(h:vH b zbZ=some r)(w₀:World)(hz:PZ [] w₀ Z)(j:ZS Z 1 (qt Z) d g b)(k:∀ args w,(callFunc zlX args).run Tryz.prog w = .ok (.enter zlX args) w)(m:∀ w:World,PZ [] w Z->∀(x0:List za) (kA:Option Addr) (iu:Nat) (r:Bool),ZS Z 3 (rq vw) kA iu x0->zbZ x0=some r->Calls Tryz.prog zlX (([vs kA x0.length iu]:List Value)++ztK).toArray w fun e w'=>e = .returned (.bool r)/\Hp [] w w' []):
  RC 92 #[vs d b.length g,.func (.func zlX) #[] (ztK).toArray] w₀ (vi r) [] []:=by
 unfold vH at h
 refine L3 func92 ntmps92 ?_
 refine B1n U<|jK0 h fun i n h=>L7 (i=some r) ([]) ([]) ?_ ?_
 ·refine B1q U<|Le 7 (xK underlying32 U)<|Q1n U<|WC.block<|L6 (fun(c:Nat) (a:Int)=>(wa b zbZ i c a=some r)) (fun c a=>[(0,vs d b.length g),(1,.func (.func zlX) #[] (ztK).toArray),(7,vi (b.length:Int)),(8,vi a)]) (fun c a=>[]) (fun c a=>c) ⟨xC,0⟩ h (.q U) .nil ?_
  rintro(_|o) a h;·cases h
  rw[wa] at h
  refine B1n U<|WC.b<|Lk U h (fun p h=>?_)<|fun p h=>?_
  ·refine WC.skip<|Lb<|WC.b<|WC.block<|B2n U<|WC.b<|cK h fun q h=>bK h fun s t h=>D3q U<|L0 (dd:=14) U U (Z:=Z) (Pr:=(qt Z)) z3K U U j q ?_
   rintro A B u C ⟨v,x,rfl,y⟩
   refine Le 15 (xl z3q U<|q9 hz.pv u U)<|Lp 16 (qW (l:=[.tmp 15]) (f:=zlX) (caps:=ztK) k U<|.cons U .nil) .nil (fun w hw=>m w (hz.now hw) (nth b a) v x s y t)<|Q0n<|Lk U h (fun z h=>?_)<|fun z h=>?_
   ·refine B2n U<|WC.ret<|Lu<|Ll<|Ll<|Lu<|Ll ?_
    obtain rfl:=oJ h
    exact Li results92 (.tmp U .nil)<|fun w hw=>⟨xJ U,hw.sub .nil⟩
   ·exact WC.skip<|Lt<|Lb<|D2q U<|WL.nil<|WX.round ⟨o,i64 (a+1)⟩ h (Nat.lt_succ_self _) (.q U) .nil
  ·exact WC.exit<|Lm<|Lm<|Lv<|Ln () h .nil .nil
 ·rintro  h
  replace h:=n.symm.trans h
  refine B1n U<|WC.ret ?_
  obtain rfl:=oJ h
  exact Li results92 (.tmp U .nil)<|fun w hw=>⟨xJ U,hw.sub .nil⟩
def wy(a:List (List za))(zlY:(List za)->Option Bool):Option Bool:=
 (vH a zlY).bind fun b=>some (decide (b>=0))
theorem gK(Z:Zp)(b:Option Addr)(c:Nat)(zlZ:FuncId)(ztM:List Value)(a:List (List za))(zlY:(List za)->Option Bool)(r:Bool)(h:wy a zlY=some r)(w₀:World)(hz:PZ [] w₀ Z)(d:ZS Z 1 (qt Z) b c a)(f:∀ args w,(callFunc zlZ args).run Tryz.prog w = .ok (.enter zlZ args) w)(g:∀ w:World,PZ [] w Z->∀(x0:List za) (kA:Option Addr) (iu:Nat) (r:Bool),ZS Z 3 (rq vw) kA iu x0->zlY x0=some r->Calls Tryz.prog zlZ (([vs kA x0.length iu]:List Value)++ztM).toArray w fun e w'=>e = .returned (.bool r)/\Hp [] w w' []):
  RC 50 #[vs b a.length c,.func (.func zlZ) #[] (ztM).toArray] w₀ (.bool r) [] []:=by
 unfold wy at h
 refine L3 func50 ntmps50 ?_
 refine B1n U<|WC.b<|bK h fun j i h=>D2q U<|Lp 7 (zb call92<|.r2 U U) .nil (cc hz .nil fun w pz ho=>tR _ _ _ (zlX:=zlZ) (ztK:=ztM) _ (zbZ:=zlY) _ i w pz d f g)<|Q2n U<|WC.ret ?_
 obtain rfl:=oJ h
 exact Li results50 (.tmp U .nil)<|fun w hw=>⟨xJ U,hw.sub .nil⟩
def kT(c:zi)(a:Int)(b:List (List za)):Option Bool:=
 (if (((decide (a=0))||(decide (a=1)))&&(decide ((b.length:Int)=(c.yd.length:Int))))&&(decide ((b.length:Int)<=16)) then(wy b (fun(y0:List za)=>ve y0 c a)).bind fun d=>some (!d) else some false).bind fun e=>some e
theorem sd(Z:Zp)(e:Option Addr)(f:Nat)(g:Option Addr)(i:Nat)(j:Option Addr)(k:Nat)(m:Option Addr)(n:Nat)(o:Option Addr)(p:Nat)(q:Option Addr)(s:Nat)(t:Option Addr)(u:Nat)(v:Option Addr)(x:Nat)(y:Option Addr)(z:Nat)(a:zi)(b:Int)(c:List (List za))(r:Bool)(h:kT a b c=some r)(w₀:World)(hz:PZ [] w₀ Z)(D:ZS Z 4 (vU Z) e f a.fM)(E:ZS Z 4 (qr Z) g i a.yc)(F:ZS Z 4 (rq jm) j k a.fS)(G:ZS Z 4 (rq qm) m n a.fK)(H:ZS Z 7 (qK Z) o p a.yd)(I:ZS Z 5 (rq qI) q s a.fH)(J:ZS Z 3 (qs Z) t u a.fU)(K:ZS Z 4 (rq qJ) v x a.yb)(L:ZS Z 1 (qt Z) y z c):
  RC 22 #[.agg #[vs e a.fM.length f,vs g a.yc.length i,vs j a.fS.length k,vs m a.fK.length n,vs o a.yd.length p,vs q a.fH.length s,vs t a.fU.length u,vs v a.yb.length x],vi b,vs y c.length z] w₀ (.bool r) [] []:=by
 unfold kT at h
 refine Me func22 ntmps22 ?_
 refine WC.b<|Ld (Lg 3 (xO (cs:=[vs e a.fM.length f,vs g a.yc.length i,vs j a.fS.length k,vs m a.fK.length n,vs o a.yd.length p,vs q a.fH.length s,vs t a.fU.length u,vs v a.yb.length x]) U U) fun M _=>Lg 4 (xO (cs:=[vi b]) U U) fun N _=>Q1n U<|WC.b ?_)
 refine bK h fun O C h=>Ld<|Le 7 (xl xu U<|xt .here U)<|Q2q U<|Lx false 2 9 (B:=(decide (b=0))||(decide (b=1))) U U U U U U (fun h=>(kx h).symm) (fun _ P=>?_) ?_
 ·exact Le 10 (xl xu U<|xt .here U)<|Q2q U<|Ly (ky P) U U .all
 let A:=(a.yd.length:Int);refine La U<|Lx true 6 13 (B:=((decide (b=0))||(decide (b=1)))&&(decide ((c.length:Int)=A))) U U U U U U (fun h=>(vy h).symm) (fun _ Q=>?_) ?_
 ·exact La U<|Le 15 (xK underlying32 U)<|Le 16 (xk ma U U)<|Le 17 (xl z9f U<|xt .h1 U)<|Le 18 (xK underlying26 U)<|Q2q U<|Ly (vz Q) U U .all
 refine La U<|Lx true 3 21 (B:=(((decide (b=0))||(decide (b=1)))&&(decide ((c.length:Int)=A)))&&(decide ((c.length:Int)<=16))) U U U U U U (fun h=>(vy h).symm) (fun _ R=>?_) ?_
 ·exact La U<|Le 23 (xK underlying32 U)<|Q2q U<|Ly (vz R) U U .all
 refine La U<|Lx true 4 26 (B:=O) U U U U U U (fun h=>(oJ<|q8 C h).symm) (fun _ S=>?_) ?_
 ·have d:=q7 C S
  obtain⟨V,T,d⟩:=z8 d
  replace d:=oJ d
  exact La U<|Le 28 (wC<|L8 (l:=[.tmp 3,.tmp 4])<|.r2 U U)<|Lp 29 (zb call50<|.r2 U U) .nil (sc hz .nil (.s2 .h1 .here) fun w pz ho la=>gK _ _ _ (zlZ:=51) (ztM:=[vp M,vp N]) _ (zlY:=(fun(y0:List za)=>ve y0 a b)) _ T w pz ((L.mono<|zl).weak (fun _ _ h=>wv zl h)) call51<|fun w' iT y0 ga0 gc0 r CL hr=>eN _ _ _ _ _ _ _ _ _ _ _ _ _ _ _ _ _ _ _ _ _ _ _ _ _ hr w' iT CL ((D.mono<|zl).weak (fun _ _ h=>wg zl h)) ((E.mono<|zl).weak (fun _ _ h=>wp zl h)) (F.mono<|zl) (G.mono<|zl) ((H.mono<|zl).weak (fun _ _ h=>wi zl h)) (I.mono<|zl) ((J.mono<|zl).weak (fun _ _ h=>wq zl h)) (K.mono<|zl) ((la _ (.head _) _).stb)<|(la _ (.tail _<|.head _) _).stb)<|Q2q U<|Ly d U U .all
 refine Q1n U<|WC.ret ?_
 obtain rfl:=oJ h
 exact Li results22 (.tmp U .nil)<|fun w hw=>⟨xJ U,hw.sub .nil⟩
def gM(a:za):Option z7:=
 some (⟨a.ya,a.fQ⟩:z7)
theorem uj(Z:Zp)(a:za)(r:z7)(h:gM a=some r)(w₀:World)(hz:PZ [] w₀ Z):
  RC 60 #[.agg #[vi a.ya,vi a.fX,vi a.fQ]] w₀ (.agg #[vi r.ya,vi r.fQ]) [] []:=by
 unfold gM at h
 refine L9 func60 ntmps60 ?_
 refine WC.b<|Ld (Lg 1 (xO (cs:=[vi a.ya,vi a.fX,vi a.fQ]) U U) fun b _=>Lg 2 (xG (cs:=[vi 0,vi 0]) zth U) fun c _=>Q0n<|B0q<|Le 3 (xk ww U U)<|Le 4 (xl xu U<|xt .h1 U)<|Le 5 (xk kz U U)<|Le 6 (xl xu U<|xt .h1 U)<|Le 7 (w3 (v:=(.agg #[vi a.ya,vi a.fQ])) (Lq (l:=[.tmp 4,.tmp 6]) (.r2 U U) [0,1]) (fun _=>by kernel_rfl))<|Lo U U (xz zwZ U U U .here U U U)<|Q0n<|WC.ret ?_)
 obtain rfl:=oJ h
 exact Li results60 (.agg U z7b U (xy .here) .nil)<|fun w hw=>⟨xJ U,hw.sub .nil⟩
def wm(b:List z7)(c:z7)(d:Option Int):Nat->Int->Option Int
 | 0,_=>none
 | e+1,a=>if decide (a<b.length) then chk (0<=a/\a<b.length) (if decide (c=(⟨(nth b a).ya,(nth b a).fQ⟩:z7)) then some a else wm b c d e (i64 (a+1))) else d
def qC(a:List z7)(b:z7):Option Int:=
 g8 (some (-1)) fun c=>wm a b c xC 0
theorem tS(Z:Zp)(g:Option Addr)(i:Nat)(e:List z7)(c:z7)(r:Int)(h:qC e c=some r)(w₀:World)(hz:PZ [] w₀ Z)(m:ZS Z 2 (rq xP) g i e):
  RC 157 #[vs g e.length i,.agg #[vi c.ya,vi c.fQ]] w₀ (vi r) [] []:=by
 unfold qC at h
 refine L3 func157 ntmps157 ?_
 refine WC.b<|Ld (Lg 3 (xO (cs:=[vi c.ya,vi c.fQ]) U U) fun k _=>Q1n U ?_)
 refine jK0 h fun l n h=>L7 (l=some r) ([]) ([]) ?_ ?_
 ·refine B1q U<|Le 7 (xK underlying112 U)<|Q1n U<|WC.block<|L6 (fun(f:Nat) (d:Int)=>(wm e c l f d=some r)) (fun f d=>[(0,vs g e.length i),(3,vp k),(7,vi (e.length:Int)),(8,vi d)]) (fun f d=>[stb k 121 [vi c.ya,vi c.fQ]]) (fun f d=>f) ⟨xC,0⟩ h (.q U) (.cons .here .nil) ?_
  rintro(_|o) d h;·cases h
  rw[wm] at h
  refine B1n U<|WC.b<|Lk U h (fun p h=>?_)<|fun p h=>?_
  ·refine WC.skip<|Lb<|WC.b<|WC.block<|B2n U<|WC.b<|cK h fun q h=>Lz nc [] U<|Lh 0 11 U (xw z7b U (xy .here) U)<|Lf 1 12 U (q_m U)<|Lf 2 13 U (q_m U)<|L2 (j:=3) (dd:=14) (by kernel_rfl) U zO zP U U (Z:=Z) (Pr:=(rq xP)) z9g U U m q ?_
   rintro u v s x rfl
   refine Lh 4 15 U (xw z7b U (vQ hz.pv s) U)<|Lf 5 16 U (pw (enc:=xP) (a:=c) (b:=(⟨(nth e d).ya,(nth e d).fQ⟩:z7)) zx0 U U)<|WD.done (by kernel_rfl)<|Lb<|Lk U h (fun t h=>?_)<|fun t h=>?_
   ·refine B2n U<|WC.ret<|Lu<|Ll<|Ll<|Lu<|Ll ?_
    obtain rfl:=oJ h
    exact Li results157 (.tmp U .nil)<|fun w hw=>⟨xJ U,hw.sub .nil⟩
   ·exact WC.skip<|Lt<|Lb<|D2q U<|WL.nil<|WX.round ⟨o,i64 (d+1)⟩ h (Nat.lt_succ_self _) (.q U)<|.cons .here .nil
  ·exact WC.exit<|Lm<|Lm<|Lv<|Ln () h .nil .nil
 ·rintro  h
  replace h:=n.symm.trans h
  refine B1n U<|WC.ret ?_
  obtain rfl:=oJ h
  exact Li results157 (.tmp U .nil)<|fun w hw=>⟨xJ U,hw.sub .nil⟩
def vm(a:List z7)(b:z7):Option Bool:=
 (qC a b).bind fun c=>some (decide (c>=0))
theorem t8(Z:Zp)(c:Option Addr)(d:Nat)(b:List z7)(a:z7)(r:Bool)(h:vm b a=some r)(w₀:World)(hz:PZ [] w₀ Z)(e:ZS Z 2 (rq xP) c d b):
  RC 114 #[vs c b.length d,.agg #[vi a.ya,vi a.fQ]] w₀ (.bool r) [] []:=by
 unfold vm at h
 refine L3 func114 ntmps114 ?_
 refine WC.b<|Ld (Lg 3 (xO (cs:=[vi a.ya,vi a.fQ]) U U) fun g _=>Q1n U<|WC.b ?_)
 refine bK h fun i f h=>D1q U<|Le 6 (xw z7b U (xy .here) U)<|Lp 7 (zb call157<|.r2 U U) .nil (cc hz .nil fun w pz ho=>tS _ _ _ _ _ _ f w pz e)<|Q2n U<|WC.ret ?_
 obtain rfl:=oJ h
 exact Li results114 (.tmp U .nil)<|fun w hw=>⟨xJ U,hw.sub .nil⟩
def uk(a:Int):Option Bool:=
 some (decide (a≠a))
theorem ib(Z:Zp)(a:Int)(r:Bool)(h:uk a=some r)(w₀:World)(hz:PZ [] w₀ Z):
  RC 131 #[vi a] w₀ (.bool r) [] []:=by
 unfold uk at h
 refine L9 func131 ntmps131 ?_
 refine B1n U<|B4n U<|WC.ret ?_
 obtain rfl:=oJ h
 exact Li results131 (.tmp U .nil)<|fun w hw=>⟨xJ U,hw.sub .nil⟩
def f6(a:Int)(b:Int):Option Int:=
 (uk a).bind fun d=>(uk b).bind fun c=>if d then if c then some 0 else some (-1) else if c then some 1 else if decide (a<b) then some (-1) else if decide (a>b) then some 1 else some 0
theorem oE(Z:Zp)(a:Int)(b:Int)(r:Int)(h:f6 a b=some r)(w₀:World)(hz:PZ [] w₀ Z):
  RC 85 #[vi a,vi b] w₀ (vi r) [] []:=by
 unfold f6 at h
 refine L3 func85 ntmps85 ?_
 refine B1n U<|WC.b<|bK h fun k c h=>D1q U<|Lp 8 (zb call131<|.cons U .nil) .nil (cc hz .nil fun w pz ho=>ib _ _ _ c w pz )<|Q1n U<|WC.b<|bK h fun l d h=>D1q U<|Lp 10 (zb call131<|.cons U .nil) .nil (cc hz .nil fun w pz ho=>ib _ _ _ d w pz )<|Q1n U<|WC.b<|B1n U<|Lk U h (fun e h=>?_)<|fun e h=>?_
 ·refine WC.b<|B1n U<|Lk U h (fun f h=>?_)<|fun f h=>?_
  ·refine B1n U<|WC.ret<|Ll<|Ll ?_
   obtain rfl:=oJ h
   exact Li results85 (.tmp U .nil)<|fun w hw=>⟨xJ U,hw.sub .nil⟩
  ·refine WC.skip<|Lb<|B1n U<|WC.ret<|Ll ?_
   obtain rfl:=oJ h
   exact Li results85 (.tmp U .nil)<|fun w hw=>⟨xJ U,hw.sub .nil⟩
 ·refine WC.skip<|Lb<|WC.b<|B1n U<|Lk U h (fun g h=>?_)<|fun g h=>?_
  ·refine B1n U<|WC.ret<|Ll ?_
   obtain rfl:=oJ h
   exact Li results85 (.tmp U .nil)<|fun w hw=>⟨xJ U,hw.sub .nil⟩
  ·refine WC.skip<|Lb<|WC.b<|B3n U<|Lk U h (fun i h=>?_)<|fun i h=>?_
   ·refine B1n U<|WC.ret<|Ll ?_
    obtain rfl:=oJ h
    exact Li results85 (.tmp U .nil)<|fun w hw=>⟨xJ U,hw.sub .nil⟩
   ·refine WC.skip<|Lb<|WC.b<|B3n U<|Lk U h (fun j h=>?_)<|fun j h=>?_
    ·refine B1n U<|WC.ret<|Ll ?_
     obtain rfl:=oJ h
     exact Li results85 (.tmp U .nil)<|fun w hw=>⟨xJ U,hw.sub .nil⟩
    ·refine WC.skip<|Lb<|B1n U<|WC.ret ?_
     obtain rfl:=oJ h
     exact Li results85 (.tmp U .nil)<|fun w hw=>⟨xJ U,hw.sub .nil⟩
def gN(b:List Int)(c:Option Int):Nat->Int->Option Int
 | 0,_=>none
 | d+1,a=>if decide (a<b.length) then chk (0<=a/\a<b.length) (if decide ((nth b a)≠0) then some (nth b a) else gN b c d (i64 (a+1))) else c
def su(a:List Int):Option Int:=
 g8 (some 0) fun b=>gN a b xC 0
theorem XO(Z:Zp)(d:Option Addr)(e:Nat)(b:List Int)(r:Int)(h:su b=some r)(w₀:World)(hz:PZ [] w₀ Z)(g:ZS Z 1 (rq e3) d e b):
  RC 84 #[vs d b.length e] w₀ (vi r) [] []:=by
 unfold su at h
 refine L9 func84 ntmps84 ?_
 refine B1n U<|B1n U<|jK0 h fun f i h=>L7 (f=some r) ([(3,vi 0)]) ([]) ?_ ?_
 ·refine B1q U<|Le 7 (xK underlying50 U)<|Q1n U<|WC.block<|L6 (fun(c:Nat) (a:Int)=>(gN b f c a=some r)) (fun c a=>[(3,vi 0),(6,vs d b.length e),(7,vi (b.length:Int)),(8,vi a)]) (fun c a=>[]) (fun c a=>c) ⟨xC,0⟩ h (.q U) .nil ?_
  rintro(_|j) a h;·cases h
  rw[gN] at h
  refine B1n U<|WC.b<|Lk U h (fun k h=>?_)<|fun k h=>?_
  ·refine WC.skip<|Lb<|WC.b<|WC.block<|WC.b<|cK h fun l h=>Ld<|L0 (dd:=10) U U (Z:=Z) (Pr:=(rq e3)) z7W U U g l ?_
   rintro o p m q rfl
   refine Le 11 (xl xu U<|q9 hz.pv m U)<|Q1n U<|B3n U<|Lk U h (fun n h=>?_)<|fun n h=>?_
   ·refine B2n U<|WC.ret<|Lu<|Ll<|Ll<|Lu<|Ll ?_
    obtain rfl:=oJ h
    exact Li results84 (.tmp U .nil)<|fun w hw=>⟨xJ U,hw.sub .nil⟩
   ·exact WC.skip<|Lt<|Lb<|D2q U<|WL.nil<|WX.round ⟨j,i64 (a+1)⟩ h (Nat.lt_succ_self _) (.q U) .nil
  ·exact WC.exit<|Lm<|Lm<|Lv<|Ln () h (.cons U .nil) .nil
 ·rintro  h
  replace h:=i.symm.trans h
  refine B2n U<|WC.ret ?_
  obtain rfl:=oJ h
  exact Li results84 (.tmp U .nil)<|fun w hw=>⟨xJ U,hw.sub .nil⟩
def vc(a:z7)(b:z7):Option Int:=
 (f6 a.ya b.ya).bind fun c=>(f6 a.fQ b.fQ).bind fun d=>(su ([c,d]:List Int)).bind fun e=>some e
theorem rU(Z:Zp)(a:z7)(b:z7)(r:Int)(h:vc a b=some r)(w₀:World)(hz:PZ [] w₀ Z):
  RC 45 #[.agg #[vi a.ya,vi a.fQ],.agg #[vi b.ya,vi b.fQ]] w₀ (vi r) [] []:=by
 unfold vc at h
 refine L3 func45 ntmps45 ?_
 refine WC.b<|Ld (Lg 2 (xO (cs:=[vi a.ya,vi a.fQ]) U U) fun j _=>Lg 3 (xO (cs:=[vi b.ya,vi b.fQ]) U U) fun k _=>Q1n U<|WC.b ?_)
 refine bK h fun c d h=>bK h fun e f h=>bK h fun n g h=>Lz nc [] U<|Lf 0 5 U (xk pH U U)<|Lh 1 6 U (xl xu U<|xt .h1 U)<|Lf 2 7 U (xk pH U U)<|Lh 3 8 U (xl xu U<|xt .here U)<|L5 4 9 U (zb call85<|.r2 U U) (cc hz .nil fun w pz ho=>oE _ _ _ _ d w pz )<|Lf 5 10 U (xk ld U U)<|Lh 6 11 U (xl xu U<|xt .h1 U)<|Lf 7 12 U (xk ld U U)<|Lh 8 13 U (xl xu U<|xt .here U)<|L5 9 14 U (zb call85<|.r2 U U) (cc hz .nil fun w pz ho=>oE _ _ _ _ f w pz ) (WD.new (i:=10) (dd:=15) U (by kernel_rfl) U U U (xU (cs:=([c,e]:List Int).flatMap e3) z7W (Lq (l:=[.tmp 9,.tmp 14]) (.r2 U U) [0,1]) (fun _=>by kernel_rfl) U (by unfold maxLen;omega)) (fun h'=>absurd h' (by decide)) fun m _=>L5 11 16 U (zb call84<|.cons U .nil) (sc hz .nil (.cons .here .nil) fun w pz ho la=>XO _ _ _ _ _ g w pz<|ZA.row (la _ (.head _) _) (RR.flat (enc:=e3) (fun _=>U) _) ⟨w,pz.1⟩)<|Lf 12 4 U (q_z U)<|WD.done (by kernel_rfl)<|Lb<|WC.ret ?_)
 obtain rfl:=oJ h
 exact Li results45 (.tmp U .nil)<|fun w hw=>⟨xJ U,hw.sub .nil⟩
def gb(zaY:Int):Option Int:=chk (0<=zaY/\zaY<=18446744073709551615) (some ((Go.Lib.bitLen (zaY).toNat:Nat):Int))
theorem rV(Z:Zp)(zaY:Int)(r:Int)(w₀:World)(hz:PZ [] w₀ Z)(h:gb zaY=some r):Calls Tryz.prog 57 #[.int .u64 zaY] w₀ fun e w'=>e = .returned (vi r)/\Hp [] w₀ w' []:=by
 obtain⟨h0,h⟩:=xq h
 obtain rfl:=oJ h
 refine(Tryz.bits_Len zaY w₀ h0.1 h0.2).mono ?_
 rintro e w' ⟨rfl,rfl⟩
 exact⟨U,Hp.nil w' []⟩
theorem zZ6:∀ w,(isAgg (Tryz.jX.t 24)).run Tryz.prog w = .ok true w:=fun _=>by kernel_rfl
theorem zZ7:∀ w,(Go.sizeOf (Tryz.jX.t 24)).run Tryz.prog w = .ok 2 w:=fun _=>by kernel_rfl
def kC(z7h:List z7)(ztQ:Int)(ztR:Int)(zoo:Int)(zm1:z7->z7->Option Int):Option (List z7):=chk ((ztQ=0/\ztR=(z7h.length:Int))/\(0<=zoo/\zoo<4611686018427387904/\z7h.length<4611686018427387904)) (chk (ry zm1 (w6 zm1 z7h)=true) (some (w6 zm1 z7h)))
theorem sK(Z:Zp)(zm2:Option Addr)(zm3:Nat)(ztS:FuncId)(zEd:List Value)(z7h:List z7)(ztQ:Int)(ztR:Int)(zoo:Int)(zm1:z7->z7->Option Int)(r:List z7)(w₀:World)(hz:Pz [row (vs zm2 z7h.length zm3) 121 2 (z7h.flatMap xP)] w₀ Z)(a:∀ args w,(callFunc ztS args).run Tryz.prog w = .ok (.enter ztS args) w)(b:∀ w:World,PZ [] w Z->∀(x0:z7) (x1:z7) (r:Int),zm1 x0 x1=some r->Calls Tryz.prog ztS (([.agg #[vi x0.ya,vi x0.fQ],.agg #[vi x1.ya,vi x1.fQ]]:List Value)++zEd).toArray w fun e w'=>e = .returned (vi r)/\Hp [] w w' [])(h:kC z7h ztQ ztR zoo zm1=some r)(iq:Ho w₀ [row (vs zm2 z7h.length zm3) 121 2 (z7h.flatMap xP)]):
  Calls Tryz.prog 158 #[vs zm2 z7h.length zm3,vi ztQ,vi ztR,vi zoo,.func (.func ztS) #[] (zEd).toArray] w₀ fun e w'=>e = .returned (.tuple #[])/\(r.length=z7h.length)/\Hp (fps [row (vs zm2 z7h.length zm3) 121 2 (z7h.flatMap xP)]) w₀ w' [row (vs zm2 r.length zm3) 121 2 (r.flatMap xP)]:=by
 obtain⟨h0,h⟩:=xq h
 obtain⟨h1,h⟩:=xq h
 have hr:=(oJ h).symm
 exact pW (P:=Tryz.prog) (f:=158) (e:=121) (k:=2) (enc:=xP) (fun _=>U) (by decide) iP (fun β _ enc cf g cb hO w5 off cap d0 w0 eg hC R=>Tryz.pC 2 zZ6 zZ7 enc cf g cb hO w5 off cap d0 w0 eg hC R) (Tryz.p8 (α:=Unit)) hz a b h0 h1 hr iq
def vo(a:List z7)(zop:z7->z7->Option Int):Option (List z7):=
 (gb (u64 (a.length:Int))).bind fun b=>(kC a 0 (a.length:Int) b zop).bind fun c=>some c
theorem ta(Z:Zp)(b:Option Addr)(c:Nat)(zoq:FuncId)(zxz:List Value)(a:List z7)(zop:z7->z7->Option Int)(r:List z7)(h:vo a zop=some r)(w₀:World)(hz:Pz [row (vs b a.length c) 121 2 (a.flatMap xP)] w₀ Z)(j:∀ args w,(callFunc zoq args).run Tryz.prog w = .ok (.enter zoq args) w)(k:∀ w:World,PZ [] w Z->∀(x0:z7) (x1:z7) (r:Int),zop x0 x1=some r->Calls Tryz.prog zoq (([.agg #[vi x0.ya,vi x0.fQ],.agg #[vi x1.ya,vi x1.fQ]]:List Value)++zxz).toArray w fun e w'=>e = .returned (vi r)/\Hp [] w w' [])(iq:Ho w₀ [row (vs b a.length c) 121 2 (a.flatMap xP)]):
  Calls Tryz.prog 115 #[vs b a.length c,.func (.func zoq) #[] (zxz).toArray] w₀ fun e w'=>e = .returned (.tuple #[])/\(r.length=a.length)/\Hp (fps [row (vs b a.length c) 121 2 (a.flatMap xP)]) w₀ w' [row (vs b r.length c) 121 2 (r.flatMap xP)]:=by
 unfold vo at h
 refine Mf func115 ntmps115 iq ?_
 refine B1q U<|Le 6 (xK underlying112 U)<|Q1n U<|bK h fun d l h=>bK h fun f m h=>D3q U<|Le 10 (rN underlying3 underlying147 U U)<|Lp 11 (zb call57<|.cons U .nil) .nil (cc hz .nil fun w pz ho=>rV (Z:=_)  (zaY:=(u64 (a.length:Int))) (r:=d) w pz  l)<|La U<|WL.fy (dd:=13) U U U (zb call158<|.r5 U U U U U) (.cons .here .nil) (cc hz (.cons .here .nil) fun w pz ho=>sK (Z:=_) (zm2:=b) (zm3:=c) (ztS:=zoq) (zEd:=zxz) (z7h:=a) (ztQ:=0) (ztR:=(a.length:Int)) (zoo:=d) (zm1:=zop) (r:=f) w pz j k m ho) ?_
 rintro  g
 refine Mh (i:=0) U (u:=(vs b f.length c)) (px g.symm)<|WL.nil ?_
 obtain rfl:=oJ h
 exact WX.my results115 .nil<|fun w hw=>⟨pp,g.trans U,hw.sub (.cons .here .nil)⟩
end Go.Proofs.YthjnhebofpebpaaGreat
