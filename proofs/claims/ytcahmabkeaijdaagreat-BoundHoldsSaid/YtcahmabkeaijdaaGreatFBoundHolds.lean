/-
 Whatever the input, the law BoundHolds of layer 35 returns true, and its arguments read behind the call as before it. No conditions.
-/
import Derived.Test.YtcahmabkeaijdaaGreatPBoundHolds
import Derived.Test.YtcahmabkeaijdaaGreatZMem
import Derived.Test.YtcahmabkeaijdaaGreatRows
set_option linter.all false
namespace Go.Proofs.YtcahmabkeaijdaaGreat.boundHolds
open Go.ChangeShapes Go.WideShapes Go.ChangeAt Go.RowKit Sep
set_option linter.unusedVariables false
def p31 (Z:Zp) (r:List Value) (x:zV):Prop:=∃(kA:Option Addr) (iS:Nat) (Br:Option Addr) (zx:Nat) (Cp:Option Addr) (zZ:Nat) (Cq:Option Addr) (Aa:Nat) (ao4:Option Addr) (CA:Nat) (ao5:Option Addr) (CB:Nat) (ao6:Option Addr) (Hj:Nat) (ao7:Option Addr) (Hk:Nat),r=[(.slice kA x.fM.length iS),(.slice Br x.yf.length zx),(.slice Cp x.fS.length zZ),(.slice Cq x.fK.length Aa),(.slice ao4 x.yg.length CA),(.slice ao5 x.fH.length CB),(.slice ao6 x.fU.length Hj),(.slice ao7 x.ye.length Hk)]/\ZS Z 4 (gk Z) kA iS x.fM/\ZS Z 4 (fJ Z) Br zx x.yf/\ZS Z 4 (fun r x=>r=kT x) Cp zZ x.fS/\ZS Z 4 (fun r x=>r=mM x) Cq Aa x.fK/\ZS Z 7 (f0 Z) ao4 CA x.yg/\ZS Z 5 (fun r x=>r=mb x) ao5 CB x.fH/\ZS Z 3 (fO Z) ao6 Hj x.fU/\ZS Z 4 (fun r x=>r=mc x) ao7 Hk x.ye
def p22 (Z:Zp) (r:List Value) (x:List yz):Prop:=∃(kA:Option Addr) (iS:Nat),r=[(.slice kA x.length iS)]/\ZS Z 4 (gk Z) kA iS x
def p106 (Z:Zp) (r:List Value) (x:List yU):Prop:=∃(kA:Option Addr) (iS:Nat),r=[(.slice kA x.length iS)]/\ZS Z 10 (V4 Z) kA iS x
def p109 (Z:Zp) (r:List Value) (x:List Int):Prop:=∃(kA:Option Addr) (iS:Nat),r=[(.slice kA x.length iS)]/\ZS Z 1 (fun r x=>r=e3 x) kA iS x
def p337 (Z:Zp) (r:List Value) (x:List yX):Prop:=∃(kA:Option Addr) (iS:Nat),r=[(.slice kA x.length iS)]/\ZS Z 6 (fun r x=>r=Jg x) kA iS x
def e4 (x:Bool):List Value:=[(.bool x)]
def p338 (Z:Zp) (r:List Value) (x:List yV):Prop:=∃(kA:Option Addr) (iS:Nat),r=[(.slice kA x.length iS)]/\ZS Z 5 (V3 Z) kA iS x
def p347 (Z:Zp) (r:List Value) (x:List yY):Prop:=∃(kA:Option Addr) (iS:Nat),r=[(.slice kA x.length iS)]/\ZS Z 4 (fun r x=>r=Jh x) kA iS x
def p23 (Z:Zp) (r:List Value) (x:List yN):Prop:=∃(kA:Option Addr) (iS:Nat),r=[(.slice kA x.length iS)]/\ZS Z 4 (fJ Z) kA iS x
def p44 (Z:Zp) (r:List Value) (x:List yL):Prop:=∃(kA:Option Addr) (iS:Nat),r=[(.slice kA x.length iS)]/\ZS Z 3 (fun r x=>r=ax x) kA iS x
def p24 (Z:Zp) (r:List Value) (x:List yu):Prop:=∃(kA:Option Addr) (iS:Nat),r=[(.slice kA x.length iS)]/\ZS Z 4 (fun r x=>r=kT x) kA iS x
def p25 (Z:Zp) (r:List Value) (x:List yE):Prop:=∃(kA:Option Addr) (iS:Nat),r=[(.slice kA x.length iS)]/\ZS Z 4 (fun r x=>r=mM x) kA iS x
def p26 (Z:Zp) (r:List Value) (x:List yw):Prop:=∃(kA:Option Addr) (iS:Nat),r=[(.slice kA x.length iS)]/\ZS Z 7 (f0 Z) kA iS x
def p27 (Z:Zp) (r:List Value) (x:List yT):Prop:=∃(kA:Option Addr) (iS:Nat),r=[(.slice kA x.length iS)]/\ZS Z 5 (fun r x=>r=mb x) kA iS x
def p28 (Z:Zp) (r:List Value) (x:List yQ):Prop:=∃(kA:Option Addr) (iS:Nat),r=[(.slice kA x.length iS)]/\ZS Z 3 (fO Z) kA iS x
def p331 (Z:Zp) (r:List Value) (x:List yS):Prop:=∃(kA:Option Addr) (iS:Nat),r=[(.slice kA x.length iS)]/\ZS Z 2 (fun r x=>r=Ji x) kA iS x
def p332 (Z:Zp) (r:List Value) (x:List ByteArray):Prop:=∃(kA:Option Addr) (iS:Nat),r=[(.slice kA x.length iS)]/\ZS Z 1 (fun r x=>r=e9 x) kA iS x
def p29 (Z:Zp) (r:List Value) (x:List yP):Prop:=∃(kA:Option Addr) (iS:Nat),r=[(.slice kA x.length iS)]/\ZS Z 4 (fun r x=>r=mc x) kA iS x
abbrev i6 (a:Int):Prop := -9223372036854775808<=a/\a<=9223372036854775807
abbrev kd346 (a:yX):Prop:=(0<=a.xr/\a.xr<=255)/\(i6 a.yo)/\(i6 a.xx)/\(i6 a.xn)
abbrev kd351 (a:yY):Prop:=(0<=a.fOp/\a.fOp<=255)/\(i6 a.fA)/\(i6 a.fB)/\(i6 a.fC)
abbrev kd349 (a:yV):Prop:=(i6 a.xz)/\(i6 a.xc)/\(i6 a.xv)/\(a.xd.length<=9223372036854775807/\∀ x∈a.xd,kd351 x)
abbrev kd340 (a:yU):Prop:=(i6 a.xc)/\(i6 a.xp)/\(i6 a.xk)/\(a.xe.length<=9223372036854775807/\∀ x∈a.xe,-9223372036854775808<=x/\x<=9223372036854775807)/\(i6 a.xq)/\(i6 a.xo)/\(a.xj.length<=9223372036854775807/\∀ x∈a.xj,-9223372036854775808<=x/\x<=9223372036854775807)/\(a.fP.length<=9223372036854775807/\∀ x∈a.fP,kd346 x)/\(a.xg.length<=9223372036854775807/\∀ x∈a.xg,kd349 x)
abbrev kd108 (a:yz):Prop:=(i6 a.xk)/\(i6 a.xw)/\(a.xf.length<=9223372036854775807/\∀ x∈a.xf,kd340 x)
abbrev kd328 (a:yN):Prop:=(a.xa.length<=9223372036854775807)
abbrev kd66 (a:yu):Prop:=(i6 a.yR)/\(i6 a.yl)/\(i6 a.fT)
abbrev kd64 (a:yE):Prop:=(i6 a.yR)/\(i6 a.yr)
abbrev kd46 (a:yw):Prop:=(i6 a.yK)/\(i6 a.yC)/\(a.xa.length<=9223372036854775807)
abbrev kd330 (a:yT):Prop:=(0<=a.xl/\a.xl<=255)/\(0<=a.xm/\a.xm<=255)/\(0<=a.fDo/\a.fDo<=255)
abbrev kd344 (a:yS):Prop:=(i6 a.xd)
abbrev kd334 (a:yQ):Prop:=(a.xh.length<=9223372036854775807/\∀ x∈a.xh,kd344 x)/\(a.xi.length<=9223372036854775807)
abbrev kd336 (a:yP):Prop:=(i6 a.fVA)/\(i6 a.fVB)
abbrev kd31 (a:zV):Prop:=(a.fM.length<=9223372036854775807/\∀ x∈a.fM,kd108 x)/\(a.yf.length<=9223372036854775807/\∀ x∈a.yf,kd328 x)/\(a.fS.length<=9223372036854775807/\∀ x∈a.fS,kd66 x)/\(a.fK.length<=9223372036854775807/\∀ x∈a.fK,kd64 x)/\(a.yg.length<=9223372036854775807/\∀ x∈a.yg,kd46 x)/\(a.fH.length<=9223372036854775807/\∀ x∈a.fH,kd330 x)/\(a.fU.length<=9223372036854775807/\∀ x∈a.fU,kd334 x)/\(a.ye.length<=9223372036854775807/\∀ x∈a.ye,kd336 x)
abbrev kd62 (a:zb):Prop:=(i6 a.ya)/\(i6 a.fX)/\(i6 a.fQ)
theorem cl_3:Tryz.prog.cellsOf 3=1:=by kernel_rfl
theorem cl_4:Tryz.prog.cellsOf 4=1:=by kernel_rfl
theorem cl_5:Tryz.prog.cellsOf 5=1:=by kernel_rfl
theorem cl_9:Tryz.prog.cellsOf 9=1:=by kernel_rfl
theorem z19P:Tryz.prog.cellsOf 22=1:=by kernel_rfl
theorem z19Q:Tryz.prog.cellsOf 23=1:=by kernel_rfl
theorem z19R:Tryz.prog.cellsOf 24=1:=by kernel_rfl
theorem z19S:Tryz.prog.cellsOf 25=1:=by kernel_rfl
theorem z19T:Tryz.prog.cellsOf 26=1:=by kernel_rfl
theorem z19U:Tryz.prog.cellsOf 27=1:=by kernel_rfl
theorem z19V:Tryz.prog.cellsOf 28=1:=by kernel_rfl
theorem z19W:Tryz.prog.cellsOf 29=1:=by kernel_rfl
theorem zPf:Tryz.prog.cellsOf 43=3:=by kernel_rfl
theorem zPg:Tryz.prog.cellsOf 44=1:=by kernel_rfl
theorem z19X:Tryz.prog.cellsOf 106=1:=by kernel_rfl
theorem zPh:Tryz.prog.cellsOf 109=1:=by kernel_rfl
theorem z19Y:Tryz.prog.cellsOf 331=1:=by kernel_rfl
theorem z19Z:Tryz.prog.cellsOf 332=1:=by kernel_rfl
theorem z1a0:Tryz.prog.cellsOf 337=1:=by kernel_rfl
theorem z1a1:Tryz.prog.cellsOf 338=1:=by kernel_rfl
theorem z1a2:Tryz.prog.cellsOf 347=1:=by kernel_rfl
section
variable {H:Type} {enc:TypeId×Value->H} {W:World} {iU:Nat->Bool} {ve:Bool} (n:Nat) (cs:List Value) (y:DataW H×List MemPlace)
theorem el_9 (h:DataW.trod enc Tryz.prog W 0 iU ve n 9 cs=some y) (hl:cs.length=1):∃ a:ByteArray,(cs=e9 a)/\(True):=by
 obtain⟨a,rfl,-,-⟩:=DataW.trod_string Tryz.underlying9 h
 exact⟨a,rfl,trivial⟩
theorem el_3 (h:DataW.trod enc Tryz.prog W 0 iU ve n 3 cs=some y) (hl:cs.length=1):∃ a:Int,(cs=e3 a)/\(-9223372036854775808<=a/\a<=9223372036854775807):=by
 obtain⟨a,rfl,-,wf⟩:=DataW.trod_int Tryz.underlying3 h
 exact⟨a,rfl,Go.bounds_i64 wf⟩
theorem zPi (h:DataW.trod enc Tryz.prog W 0 iU ve n 109 cs=some y) (hl:cs.length=1):∃ a:List Int,(p109 (ZW W) cs a)/\(a.length<=9223372036854775807/\∀ x∈a,-9223372036854775808<=x/\x<=9223372036854775807):=by
 obtain⟨ao,cap,l,rfl,hz,hL⟩:=kW (Pr:=fun r x=>(r=e3 x)/\(-9223372036854775808<=x/\x<=9223372036854775807)) (sz:=1) Tryz.underlying109 (by kernel_rfl) (by decide) el_3 h
 unfold maxLen at hL
 exact⟨l,⟨ao,cap,rfl,hz.weak (fun _ _ h=>h.1)⟩,⟨by omega,hz.all (q:=fun x => -9223372036854775808<=x/\x<=9223372036854775807) (fun _ _ h=>h.2)⟩⟩
theorem el_5 (h:DataW.trod enc Tryz.prog W 0 iU ve n 5 cs=some y) (hl:cs.length=1):∃ a:Int,(cs=e5 a)/\(0<=a/\a<=255):=by
 obtain⟨a,rfl,-,wf⟩:=DataW.trod_int Tryz.underlying5 h
 exact⟨a,rfl,Go.bounds_u8 wf⟩
theorem el_4 (h:DataW.trod enc Tryz.prog W 0 iU ve n 4 cs=some y) (hl:cs.length=1):∃ a:Bool,(cs=e4 a)/\(True):=by
 obtain⟨a,rfl,-⟩:=DataW.trod_bool Tryz.underlying4 h
 exact⟨a,rfl,trivial⟩
theorem z1a3 (h:DataW.trod enc Tryz.prog W 0 iU ve n 346 cs=some y) (hl:cs.length=6):∃ a:yX,(cs=Jg a)/\(kd346 a):=by
 obtain⟨y0,m0,h0⟩:=xX 0 Tryz.underlying346 h
 try dsimp only at h0
 rw[cl_9] at h0
 obtain⟨a0,r0,k0⟩:=el_9 _ _ _ h0 (by simp[hl])
 obtain⟨y1,m1,h1⟩:=xX 1 Tryz.underlying346 h
 try dsimp only at h1
 rw[cl_5] at h1
 obtain⟨a1,r1,k1⟩:=el_5 _ _ _ h1 (by simp[hl])
 obtain⟨y2,m2,h2⟩:=xX 2 Tryz.underlying346 h
 try dsimp only at h2
 rw[cl_4] at h2
 obtain⟨a2,r2,k2⟩:=el_4 _ _ _ h2 (by simp[hl])
 obtain⟨y3,m3,h3⟩:=xX 3 Tryz.underlying346 h
 try dsimp only at h3
 rw[cl_3] at h3
 obtain⟨a3,r3,k3⟩:=el_3 _ _ _ h3 (by simp[hl])
 obtain⟨y4,m4,h4⟩:=xX 4 Tryz.underlying346 h
 try dsimp only at h4
 rw[cl_3] at h4
 obtain⟨a4,r4,k4⟩:=el_3 _ _ _ h4 (by simp[hl])
 obtain⟨y5,m5,h5⟩:=xX 5 Tryz.underlying346 h
 try dsimp only at h5
 rw[cl_3] at h5
 obtain⟨a5,r5,k5⟩:=el_3 _ _ _ h5 (by simp[hl])
 obtain⟨u0,u1,u2,u3,u4,u5,rfl⟩:∃ u0 u1 u2 u3 u4 u5,cs=[u0,u1,u2,u3,u4,u5]:=by match cs,hl with | [u0,u1,u2,u3,u4,u5],_=>exact⟨_,_,_,_,_,_,rfl⟩
 simp[e9] at r0
 simp[e5] at r1
 simp[e4] at r2
 simp[e3] at r3
 simp[e3] at r4
 simp[e3] at r5
 exact⟨⟨a0,a1,a2,a3,a4,a5⟩,by simp[Jg, *],⟨k1,k3,k4,k5⟩⟩
theorem z1a4 (h:DataW.trod enc Tryz.prog W 0 iU ve n 337 cs=some y) (hl:cs.length=1):∃ a:List yX,(p337 (ZW W) cs a)/\(a.length<=9223372036854775807/\∀ x∈a,kd346 x):=by
 obtain⟨ao,cap,l,rfl,hz,hL⟩:=kW (Pr:=fun r x=>(r=Jg x)/\(kd346 x)) (sz:=6) Tryz.underlying337 (by kernel_rfl) (by decide) z1a3 h
 unfold maxLen at hL
 exact⟨l,⟨ao,cap,rfl,hz.weak (fun _ _ h=>h.1)⟩,⟨by omega,hz.all (q:=fun x=>kd346 x) (fun _ _ h=>h.2)⟩⟩
theorem z1a5 (h:DataW.trod enc Tryz.prog W 0 iU ve n 351 cs=some y) (hl:cs.length=4):∃ a:yY,(cs=Jh a)/\(kd351 a):=by
 obtain⟨y0,m0,h0⟩:=xX 0 Tryz.underlying351 h
 try dsimp only at h0
 rw[cl_5] at h0
 obtain⟨a0,r0,k0⟩:=el_5 _ _ _ h0 (by simp[hl])
 obtain⟨y1,m1,h1⟩:=xX 1 Tryz.underlying351 h
 try dsimp only at h1
 rw[cl_3] at h1
 obtain⟨a1,r1,k1⟩:=el_3 _ _ _ h1 (by simp[hl])
 obtain⟨y2,m2,h2⟩:=xX 2 Tryz.underlying351 h
 try dsimp only at h2
 rw[cl_3] at h2
 obtain⟨a2,r2,k2⟩:=el_3 _ _ _ h2 (by simp[hl])
 obtain⟨y3,m3,h3⟩:=xX 3 Tryz.underlying351 h
 try dsimp only at h3
 rw[cl_3] at h3
 obtain⟨a3,r3,k3⟩:=el_3 _ _ _ h3 (by simp[hl])
 obtain⟨u0,u1,u2,u3,rfl⟩:∃ u0 u1 u2 u3,cs=[u0,u1,u2,u3]:=by match cs,hl with | [u0,u1,u2,u3],_=>exact⟨_,_,_,_,rfl⟩
 simp[e5] at r0
 simp[e3] at r1
 simp[e3] at r2
 simp[e3] at r3
 exact⟨⟨a0,a1,a2,a3⟩,by simp[Jh, *],⟨k0,k1,k2,k3⟩⟩
theorem z1a6 (h:DataW.trod enc Tryz.prog W 0 iU ve n 347 cs=some y) (hl:cs.length=1):∃ a:List yY,(p347 (ZW W) cs a)/\(a.length<=9223372036854775807/\∀ x∈a,kd351 x):=by
 obtain⟨ao,cap,l,rfl,hz,hL⟩:=kW (Pr:=fun r x=>(r=Jh x)/\(kd351 x)) (sz:=4) Tryz.underlying347 (by kernel_rfl) (by decide) z1a5 h
 unfold maxLen at hL
 exact⟨l,⟨ao,cap,rfl,hz.weak (fun _ _ h=>h.1)⟩,⟨by omega,hz.all (q:=fun x=>kd351 x) (fun _ _ h=>h.2)⟩⟩
theorem z1a7 (h:DataW.trod enc Tryz.prog W 0 iU ve n 349 cs=some y) (hl:cs.length=5):∃ a:yV,(V3 (ZW W) cs a)/\(kd349 a):=by
 obtain⟨y0,m0,h0⟩:=xX 0 Tryz.underlying349 h
 try dsimp only at h0
 rw[cl_9] at h0
 obtain⟨a0,r0,k0⟩:=el_9 _ _ _ h0 (by simp[hl])
 obtain⟨y1,m1,h1⟩:=xX 1 Tryz.underlying349 h
 try dsimp only at h1
 rw[cl_3] at h1
 obtain⟨a1,r1,k1⟩:=el_3 _ _ _ h1 (by simp[hl])
 obtain⟨y2,m2,h2⟩:=xX 2 Tryz.underlying349 h
 try dsimp only at h2
 rw[cl_3] at h2
 obtain⟨a2,r2,k2⟩:=el_3 _ _ _ h2 (by simp[hl])
 obtain⟨y3,m3,h3⟩:=xX 3 Tryz.underlying349 h
 try dsimp only at h3
 rw[cl_3] at h3
 obtain⟨a3,r3,k3⟩:=el_3 _ _ _ h3 (by simp[hl])
 obtain⟨y4,m4,h4⟩:=xX 4 Tryz.underlying349 h
 try dsimp only at h4
 rw[z1a2] at h4
 obtain⟨a4,r4,k4⟩:=z1a6 _ _ _ h4 (by simp[hl])
 obtain⟨u0,u1,u2,u3,u4,rfl⟩:∃ u0 u1 u2 u3 u4,cs=[u0,u1,u2,u3,u4]:=by match cs,hl with | [u0,u1,u2,u3,u4],_=>exact⟨_,_,_,_,_,rfl⟩
 simp[e9] at r0
 simp[e3] at r1
 simp[e3] at r2
 simp[e3] at r3
 obtain⟨zF,zG,r4,AQ⟩:=r4
 simp at r4
 refine⟨⟨a0,a1,a2,a3,a4⟩,⟨zF,zG,by simp[*],AQ⟩,⟨k1,k2,k3,k4⟩⟩
theorem z1a8 (h:DataW.trod enc Tryz.prog W 0 iU ve n 338 cs=some y) (hl:cs.length=1):∃ a:List yV,(p338 (ZW W) cs a)/\(a.length<=9223372036854775807/\∀ x∈a,kd349 x):=by
 obtain⟨ao,cap,l,rfl,hz,hL⟩:=kW (Pr:=fun r x=>(V3 (ZW W) r x)/\(kd349 x)) (sz:=5) Tryz.underlying338 (by kernel_rfl) (by decide) z1a7 h
 unfold maxLen at hL
 exact⟨l,⟨ao,cap,rfl,hz.weak (fun _ _ h=>h.1)⟩,⟨by omega,hz.all (q:=fun x=>kd349 x) (fun _ _ h=>h.2)⟩⟩
theorem z1a9 (h:DataW.trod enc Tryz.prog W 0 iU ve n 340 cs=some y) (hl:cs.length=10):∃ a:yU,(V4 (ZW W) cs a)/\(kd340 a):=by
 obtain⟨y0,m0,h0⟩:=xX 0 Tryz.underlying340 h
 try dsimp only at h0
 rw[cl_9] at h0
 obtain⟨a0,r0,k0⟩:=el_9 _ _ _ h0 (by simp[hl])
 obtain⟨y1,m1,h1⟩:=xX 1 Tryz.underlying340 h
 try dsimp only at h1
 rw[cl_3] at h1
 obtain⟨a1,r1,k1⟩:=el_3 _ _ _ h1 (by simp[hl])
 obtain⟨y2,m2,h2⟩:=xX 2 Tryz.underlying340 h
 try dsimp only at h2
 rw[cl_3] at h2
 obtain⟨a2,r2,k2⟩:=el_3 _ _ _ h2 (by simp[hl])
 obtain⟨y3,m3,h3⟩:=xX 3 Tryz.underlying340 h
 try dsimp only at h3
 rw[cl_3] at h3
 obtain⟨a3,r3,k3⟩:=el_3 _ _ _ h3 (by simp[hl])
 obtain⟨y4,m4,h4⟩:=xX 4 Tryz.underlying340 h
 try dsimp only at h4
 rw[zPh] at h4
 obtain⟨a4,r4,k4⟩:=zPi _ _ _ h4 (by simp[hl])
 obtain⟨y5,m5,h5⟩:=xX 5 Tryz.underlying340 h
 try dsimp only at h5
 rw[cl_3] at h5
 obtain⟨a5,r5,k5⟩:=el_3 _ _ _ h5 (by simp[hl])
 obtain⟨y6,m6,h6⟩:=xX 6 Tryz.underlying340 h
 try dsimp only at h6
 rw[cl_3] at h6
 obtain⟨a6,r6,k6⟩:=el_3 _ _ _ h6 (by simp[hl])
 obtain⟨y7,m7,h7⟩:=xX 7 Tryz.underlying340 h
 try dsimp only at h7
 rw[zPh] at h7
 obtain⟨a7,r7,k7⟩:=zPi _ _ _ h7 (by simp[hl])
 obtain⟨y8,m8,h8⟩:=xX 8 Tryz.underlying340 h
 try dsimp only at h8
 rw[z1a0] at h8
 obtain⟨a8,r8,k8⟩:=z1a4 _ _ _ h8 (by simp[hl])
 obtain⟨y9,m9,h9⟩:=xX 9 Tryz.underlying340 h
 try dsimp only at h9
 rw[z1a1] at h9
 obtain⟨a9,r9,k9⟩:=z1a8 _ _ _ h9 (by simp[hl])
 obtain⟨u0,u1,u2,u3,u4,u5,u6,u7,u8,u9,rfl⟩:∃ u0 u1 u2 u3 u4 u5 u6 u7 u8 u9,cs=[u0,u1,u2,u3,u4,u5,u6,u7,u8,u9]:=by match cs,hl with | [u0,u1,u2,u3,u4,u5,u6,u7,u8,u9],_=>exact⟨_,_,_,_,_,_,_,_,_,_,rfl⟩
 simp[e9] at r0
 simp[e3] at r1
 simp[e3] at r2
 simp[e3] at r3
 obtain⟨zF,zG,r4,AQ⟩:=r4
 simp at r4
 simp[e3] at r5
 simp[e3] at r6
 obtain⟨BQ,BR,r7,DY⟩:=r7
 simp at r7
 obtain⟨Hl,Hm,r8,z8x0⟩:=r8
 simp at r8
 obtain⟨Hn,Hq,r9,z9x0⟩:=r9
 simp at r9
 refine⟨⟨a0,a1,a2,a3,a4,a5,a6,a7,a8,a9⟩,⟨zF,zG,BQ,BR,Hl,Hm,Hn,Hq,by simp[*],AQ,DY,z8x0,z9x0⟩,⟨k1,k2,k3,k4,k5,k6,k7,k8,k9⟩⟩
theorem z1aa (h:DataW.trod enc Tryz.prog W 0 iU ve n 106 cs=some y) (hl:cs.length=1):∃ a:List yU,(p106 (ZW W) cs a)/\(a.length<=9223372036854775807/\∀ x∈a,kd340 x):=by
 obtain⟨ao,cap,l,rfl,hz,hL⟩:=kW (Pr:=fun r x=>(V4 (ZW W) r x)/\(kd340 x)) (sz:=10) Tryz.underlying106 (by kernel_rfl) (by decide) z1a9 h
 unfold maxLen at hL
 exact⟨l,⟨ao,cap,rfl,hz.weak (fun _ _ h=>h.1)⟩,⟨by omega,hz.all (q:=fun x=>kd340 x) (fun _ _ h=>h.2)⟩⟩
theorem z1ab (h:DataW.trod enc Tryz.prog W 0 iU ve n 108 cs=some y) (hl:cs.length=4):∃ a:yz,(gk (ZW W) cs a)/\(kd108 a):=by
 obtain⟨y0,m0,h0⟩:=xX 0 Tryz.underlying108 h
 try dsimp only at h0
 rw[cl_9] at h0
 obtain⟨a0,r0,k0⟩:=el_9 _ _ _ h0 (by simp[hl])
 obtain⟨y1,m1,h1⟩:=xX 1 Tryz.underlying108 h
 try dsimp only at h1
 rw[cl_3] at h1
 obtain⟨a1,r1,k1⟩:=el_3 _ _ _ h1 (by simp[hl])
 obtain⟨y2,m2,h2⟩:=xX 2 Tryz.underlying108 h
 try dsimp only at h2
 rw[cl_3] at h2
 obtain⟨a2,r2,k2⟩:=el_3 _ _ _ h2 (by simp[hl])
 obtain⟨y3,m3,h3⟩:=xX 3 Tryz.underlying108 h
 try dsimp only at h3
 rw[z19X] at h3
 obtain⟨a3,r3,k3⟩:=z1aa _ _ _ h3 (by simp[hl])
 obtain⟨u0,u1,u2,u3,rfl⟩:∃ u0 u1 u2 u3,cs=[u0,u1,u2,u3]:=by match cs,hl with | [u0,u1,u2,u3],_=>exact⟨_,_,_,_,rfl⟩
 simp[e9] at r0
 simp[e3] at r1
 simp[e3] at r2
 obtain⟨BS,BT,r3,DZ⟩:=r3
 simp at r3
 refine⟨⟨a0,a1,a2,a3⟩,⟨BS,BT,by simp[*],DZ⟩,⟨k1,k2,k3⟩⟩
theorem z1ac (h:DataW.trod enc Tryz.prog W 0 iU ve n 22 cs=some y) (hl:cs.length=1):∃ a:List yz,(p22 (ZW W) cs a)/\(a.length<=9223372036854775807/\∀ x∈a,kd108 x):=by
 obtain⟨ao,cap,l,rfl,hz,hL⟩:=kW (Pr:=fun r x=>(gk (ZW W) r x)/\(kd108 x)) (sz:=4) Tryz.underlying22 (by kernel_rfl) (by decide) z1ab h
 unfold maxLen at hL
 exact⟨l,⟨ao,cap,rfl,hz.weak (fun _ _ h=>h.1)⟩,⟨by omega,hz.all (q:=fun x=>kd108 x) (fun _ _ h=>h.2)⟩⟩
theorem zFs (h:DataW.trod enc Tryz.prog W 0 iU ve n 43 cs=some y) (hl:cs.length=3):∃ a:yL,(cs=ax a)/\(True):=by
 obtain⟨y0,m0,h0⟩:=xX 0 Tryz.underlying43 h
 try dsimp only at h0
 rw[cl_9] at h0
 obtain⟨a0,r0,k0⟩:=el_9 _ _ _ h0 (by simp[hl])
 obtain⟨y1,m1,h1⟩:=xX 1 Tryz.underlying43 h
 try dsimp only at h1
 rw[cl_9] at h1
 obtain⟨a1,r1,k1⟩:=el_9 _ _ _ h1 (by simp[hl])
 obtain⟨y2,m2,h2⟩:=xX 2 Tryz.underlying43 h
 try dsimp only at h2
 rw[cl_9] at h2
 obtain⟨a2,r2,k2⟩:=el_9 _ _ _ h2 (by simp[hl])
 obtain⟨u0,u1,u2,rfl⟩:∃ u0 u1 u2,cs=[u0,u1,u2]:=by match cs,hl with | [u0,u1,u2],_=>exact⟨_,_,_,rfl⟩
 simp[e9] at r0
 simp[e9] at r1
 simp[e9] at r2
 exact⟨⟨a0,a1,a2⟩,by simp[ax, *],trivial⟩
theorem zPj (h:DataW.trod enc Tryz.prog W 0 iU ve n 44 cs=some y) (hl:cs.length=1):∃ a:List yL,(p44 (ZW W) cs a)/\(a.length<=9223372036854775807):=by
 obtain⟨ao,cap,l,rfl,hz,hL⟩:=kW (Pr:=fun r x=>(r=ax x)/\(True)) (sz:=3) Tryz.underlying44 (by kernel_rfl) (by decide) zFs h
 unfold maxLen at hL
 exact⟨l,⟨ao,cap,rfl,hz.weak (fun _ _ h=>h.1)⟩,by omega⟩
theorem z1ad (h:DataW.trod enc Tryz.prog W 0 iU ve n 328 cs=some y) (hl:cs.length=4):∃ a:yN,(fJ (ZW W) cs a)/\(kd328 a):=by
 obtain⟨y0,m0,h0⟩:=xX 0 Tryz.underlying328 h
 try dsimp only at h0
 rw[zPf] at h0
 obtain⟨a0,r0,k0⟩:=zFs _ _ _ h0 (by simp[hl])
 obtain⟨y1,m1,h1⟩:=xX 1 Tryz.underlying328 h
 try dsimp only at h1
 rw[zPg] at h1
 obtain⟨a1,r1,k1⟩:=zPj _ _ _ h1 (by simp[hl])
 obtain⟨u0,u1,u2,u3,rfl⟩:∃ u0 u1 u2 u3,cs=[u0,u1,u2,u3]:=by match cs,hl with | [u0,u1,u2,u3],_=>exact⟨_,_,_,_,rfl⟩
 simp[ax] at r0
 obtain⟨Au,Av,r1,BU⟩:=r1
 simp at r1
 refine⟨⟨a0,a1⟩,⟨Au,Av,by simp[*],BU⟩,k1⟩
theorem z1ae (h:DataW.trod enc Tryz.prog W 0 iU ve n 23 cs=some y) (hl:cs.length=1):∃ a:List yN,(p23 (ZW W) cs a)/\(a.length<=9223372036854775807/\∀ x∈a,kd328 x):=by
 obtain⟨ao,cap,l,rfl,hz,hL⟩:=kW (Pr:=fun r x=>(fJ (ZW W) r x)/\(kd328 x)) (sz:=4) Tryz.underlying23 (by kernel_rfl) (by decide) z1ad h
 unfold maxLen at hL
 exact⟨l,⟨ao,cap,rfl,hz.weak (fun _ _ h=>h.1)⟩,⟨by omega,hz.all (q:=fun x=>kd328 x) (fun _ _ h=>h.2)⟩⟩
theorem z1af (h:DataW.trod enc Tryz.prog W 0 iU ve n 66 cs=some y) (hl:cs.length=4):∃ a:yu,(cs=kT a)/\(kd66 a):=by
 obtain⟨y0,m0,h0⟩:=xX 0 Tryz.underlying66 h
 try dsimp only at h0
 rw[cl_9] at h0
 obtain⟨a0,r0,k0⟩:=el_9 _ _ _ h0 (by simp[hl])
 obtain⟨y1,m1,h1⟩:=xX 1 Tryz.underlying66 h
 try dsimp only at h1
 rw[cl_3] at h1
 obtain⟨a1,r1,k1⟩:=el_3 _ _ _ h1 (by simp[hl])
 obtain⟨y2,m2,h2⟩:=xX 2 Tryz.underlying66 h
 try dsimp only at h2
 rw[cl_3] at h2
 obtain⟨a2,r2,k2⟩:=el_3 _ _ _ h2 (by simp[hl])
 obtain⟨y3,m3,h3⟩:=xX 3 Tryz.underlying66 h
 try dsimp only at h3
 rw[cl_3] at h3
 obtain⟨a3,r3,k3⟩:=el_3 _ _ _ h3 (by simp[hl])
 obtain⟨u0,u1,u2,u3,rfl⟩:∃ u0 u1 u2 u3,cs=[u0,u1,u2,u3]:=by match cs,hl with | [u0,u1,u2,u3],_=>exact⟨_,_,_,_,rfl⟩
 simp[e9] at r0
 simp[e3] at r1
 simp[e3] at r2
 simp[e3] at r3
 exact⟨⟨a0,a1,a2,a3⟩,by simp[kT, *],⟨k1,k2,k3⟩⟩
theorem z1ag (h:DataW.trod enc Tryz.prog W 0 iU ve n 24 cs=some y) (hl:cs.length=1):∃ a:List yu,(p24 (ZW W) cs a)/\(a.length<=9223372036854775807/\∀ x∈a,kd66 x):=by
 obtain⟨ao,cap,l,rfl,hz,hL⟩:=kW (Pr:=fun r x=>(r=kT x)/\(kd66 x)) (sz:=4) Tryz.underlying24 (by kernel_rfl) (by decide) z1af h
 unfold maxLen at hL
 exact⟨l,⟨ao,cap,rfl,hz.weak (fun _ _ h=>h.1)⟩,⟨by omega,hz.all (q:=fun x=>kd66 x) (fun _ _ h=>h.2)⟩⟩
theorem z1ah (h:DataW.trod enc Tryz.prog W 0 iU ve n 64 cs=some y) (hl:cs.length=4):∃ a:yE,(cs=mM a)/\(kd64 a):=by
 obtain⟨y0,m0,h0⟩:=xX 0 Tryz.underlying64 h
 try dsimp only at h0
 rw[cl_9] at h0
 obtain⟨a0,r0,k0⟩:=el_9 _ _ _ h0 (by simp[hl])
 obtain⟨y1,m1,h1⟩:=xX 1 Tryz.underlying64 h
 try dsimp only at h1
 rw[cl_9] at h1
 obtain⟨a1,r1,k1⟩:=el_9 _ _ _ h1 (by simp[hl])
 obtain⟨y2,m2,h2⟩:=xX 2 Tryz.underlying64 h
 try dsimp only at h2
 rw[cl_3] at h2
 obtain⟨a2,r2,k2⟩:=el_3 _ _ _ h2 (by simp[hl])
 obtain⟨y3,m3,h3⟩:=xX 3 Tryz.underlying64 h
 try dsimp only at h3
 rw[cl_3] at h3
 obtain⟨a3,r3,k3⟩:=el_3 _ _ _ h3 (by simp[hl])
 obtain⟨u0,u1,u2,u3,rfl⟩:∃ u0 u1 u2 u3,cs=[u0,u1,u2,u3]:=by match cs,hl with | [u0,u1,u2,u3],_=>exact⟨_,_,_,_,rfl⟩
 simp[e9] at r0
 simp[e9] at r1
 simp[e3] at r2
 simp[e3] at r3
 exact⟨⟨a0,a1,a2,a3⟩,by simp[mM, *],⟨k2,k3⟩⟩
theorem z1ai (h:DataW.trod enc Tryz.prog W 0 iU ve n 25 cs=some y) (hl:cs.length=1):∃ a:List yE,(p25 (ZW W) cs a)/\(a.length<=9223372036854775807/\∀ x∈a,kd64 x):=by
 obtain⟨ao,cap,l,rfl,hz,hL⟩:=kW (Pr:=fun r x=>(r=mM x)/\(kd64 x)) (sz:=4) Tryz.underlying25 (by kernel_rfl) (by decide) z1ah h
 unfold maxLen at hL
 exact⟨l,⟨ao,cap,rfl,hz.weak (fun _ _ h=>h.1)⟩,⟨by omega,hz.all (q:=fun x=>kd64 x) (fun _ _ h=>h.2)⟩⟩
theorem z1aj (h:DataW.trod enc Tryz.prog W 0 iU ve n 46 cs=some y) (hl:cs.length=7):∃ a:yw,(f0 (ZW W) cs a)/\(kd46 a):=by
 obtain⟨y0,m0,h0⟩:=xX 0 Tryz.underlying46 h
 try dsimp only at h0
 rw[cl_9] at h0
 obtain⟨a0,r0,k0⟩:=el_9 _ _ _ h0 (by simp[hl])
 obtain⟨y1,m1,h1⟩:=xX 1 Tryz.underlying46 h
 try dsimp only at h1
 rw[zPf] at h1
 obtain⟨a1,r1,k1⟩:=zFs _ _ _ h1 (by simp[hl])
 obtain⟨y2,m2,h2⟩:=xX 2 Tryz.underlying46 h
 try dsimp only at h2
 rw[cl_3] at h2
 obtain⟨a2,r2,k2⟩:=el_3 _ _ _ h2 (by simp[hl])
 obtain⟨y3,m3,h3⟩:=xX 3 Tryz.underlying46 h
 try dsimp only at h3
 rw[cl_3] at h3
 obtain⟨a3,r3,k3⟩:=el_3 _ _ _ h3 (by simp[hl])
 obtain⟨y4,m4,h4⟩:=xX 4 Tryz.underlying46 h
 try dsimp only at h4
 rw[zPg] at h4
 obtain⟨a4,r4,k4⟩:=zPj _ _ _ h4 (by simp[hl])
 obtain⟨u0,u1,u2,u3,u4,u5,u6,rfl⟩:∃ u0 u1 u2 u3 u4 u5 u6,cs=[u0,u1,u2,u3,u4,u5,u6]:=by match cs,hl with | [u0,u1,u2,u3,u4,u5,u6],_=>exact⟨_,_,_,_,_,_,_,rfl⟩
 simp[e9] at r0
 simp[ax] at r1
 simp[e3] at r2
 simp[e3] at r3
 obtain⟨zF,zG,r4,AQ⟩:=r4
 simp at r4
 refine⟨⟨a0,a1,a2,a3,a4⟩,⟨zF,zG,by simp[*],AQ⟩,⟨k2,k3,k4⟩⟩
theorem z1ak (h:DataW.trod enc Tryz.prog W 0 iU ve n 26 cs=some y) (hl:cs.length=1):∃ a:List yw,(p26 (ZW W) cs a)/\(a.length<=9223372036854775807/\∀ x∈a,kd46 x):=by
 obtain⟨ao,cap,l,rfl,hz,hL⟩:=kW (Pr:=fun r x=>(f0 (ZW W) r x)/\(kd46 x)) (sz:=7) Tryz.underlying26 (by kernel_rfl) (by decide) z1aj h
 unfold maxLen at hL
 exact⟨l,⟨ao,cap,rfl,hz.weak (fun _ _ h=>h.1)⟩,⟨by omega,hz.all (q:=fun x=>kd46 x) (fun _ _ h=>h.2)⟩⟩
theorem z1al (h:DataW.trod enc Tryz.prog W 0 iU ve n 330 cs=some y) (hl:cs.length=5):∃ a:yT,(cs=mb a)/\(kd330 a):=by
 obtain⟨y0,m0,h0⟩:=xX 0 Tryz.underlying330 h
 try dsimp only at h0
 rw[cl_9] at h0
 obtain⟨a0,r0,k0⟩:=el_9 _ _ _ h0 (by simp[hl])
 obtain⟨y1,m1,h1⟩:=xX 1 Tryz.underlying330 h
 try dsimp only at h1
 rw[cl_9] at h1
 obtain⟨a1,r1,k1⟩:=el_9 _ _ _ h1 (by simp[hl])
 obtain⟨y2,m2,h2⟩:=xX 2 Tryz.underlying330 h
 try dsimp only at h2
 rw[cl_5] at h2
 obtain⟨a2,r2,k2⟩:=el_5 _ _ _ h2 (by simp[hl])
 obtain⟨y3,m3,h3⟩:=xX 3 Tryz.underlying330 h
 try dsimp only at h3
 rw[cl_5] at h3
 obtain⟨a3,r3,k3⟩:=el_5 _ _ _ h3 (by simp[hl])
 obtain⟨y4,m4,h4⟩:=xX 4 Tryz.underlying330 h
 try dsimp only at h4
 rw[cl_5] at h4
 obtain⟨a4,r4,k4⟩:=el_5 _ _ _ h4 (by simp[hl])
 obtain⟨u0,u1,u2,u3,u4,rfl⟩:∃ u0 u1 u2 u3 u4,cs=[u0,u1,u2,u3,u4]:=by match cs,hl with | [u0,u1,u2,u3,u4],_=>exact⟨_,_,_,_,_,rfl⟩
 simp[e9] at r0
 simp[e9] at r1
 simp[e5] at r2
 simp[e5] at r3
 simp[e5] at r4
 exact⟨⟨a0,a1,a2,a3,a4⟩,by simp[mb, *],⟨k2,k3,k4⟩⟩
theorem z1am (h:DataW.trod enc Tryz.prog W 0 iU ve n 27 cs=some y) (hl:cs.length=1):∃ a:List yT,(p27 (ZW W) cs a)/\(a.length<=9223372036854775807/\∀ x∈a,kd330 x):=by
 obtain⟨ao,cap,l,rfl,hz,hL⟩:=kW (Pr:=fun r x=>(r=mb x)/\(kd330 x)) (sz:=5) Tryz.underlying27 (by kernel_rfl) (by decide) z1al h
 unfold maxLen at hL
 exact⟨l,⟨ao,cap,rfl,hz.weak (fun _ _ h=>h.1)⟩,⟨by omega,hz.all (q:=fun x=>kd330 x) (fun _ _ h=>h.2)⟩⟩
theorem z1an (h:DataW.trod enc Tryz.prog W 0 iU ve n 344 cs=some y) (hl:cs.length=2):∃ a:yS,(cs=Ji a)/\(kd344 a):=by
 obtain⟨y0,m0,h0⟩:=xX 0 Tryz.underlying344 h
 try dsimp only at h0
 rw[cl_9] at h0
 obtain⟨a0,r0,k0⟩:=el_9 _ _ _ h0 (by simp[hl])
 obtain⟨y1,m1,h1⟩:=xX 1 Tryz.underlying344 h
 try dsimp only at h1
 rw[cl_3] at h1
 obtain⟨a1,r1,k1⟩:=el_3 _ _ _ h1 (by simp[hl])
 obtain⟨u0,u1,rfl⟩:∃ u0 u1,cs=[u0,u1]:=by match cs,hl with | [u0,u1],_=>exact⟨_,_,rfl⟩
 simp[e9] at r0
 simp[e3] at r1
 exact⟨⟨a0,a1⟩,by simp[Ji, *],k1⟩
theorem z1ao (h:DataW.trod enc Tryz.prog W 0 iU ve n 331 cs=some y) (hl:cs.length=1):∃ a:List yS,(p331 (ZW W) cs a)/\(a.length<=9223372036854775807/\∀ x∈a,kd344 x):=by
 obtain⟨ao,cap,l,rfl,hz,hL⟩:=kW (Pr:=fun r x=>(r=Ji x)/\(kd344 x)) (sz:=2) Tryz.underlying331 (by kernel_rfl) (by decide) z1an h
 unfold maxLen at hL
 exact⟨l,⟨ao,cap,rfl,hz.weak (fun _ _ h=>h.1)⟩,⟨by omega,hz.all (q:=fun x=>kd344 x) (fun _ _ h=>h.2)⟩⟩
theorem z1ap (h:DataW.trod enc Tryz.prog W 0 iU ve n 332 cs=some y) (hl:cs.length=1):∃ a:List ByteArray,(p332 (ZW W) cs a)/\(a.length<=9223372036854775807):=by
 obtain⟨ao,cap,l,rfl,hz,hL⟩:=kW (Pr:=fun r x=>(r=e9 x)/\(True)) (sz:=1) Tryz.underlying332 (by kernel_rfl) (by decide) el_9 h
 unfold maxLen at hL
 exact⟨l,⟨ao,cap,rfl,hz.weak (fun _ _ h=>h.1)⟩,by omega⟩
theorem z1aq (h:DataW.trod enc Tryz.prog W 0 iU ve n 334 cs=some y) (hl:cs.length=3):∃ a:yQ,(fO (ZW W) cs a)/\(kd334 a):=by
 obtain⟨y0,m0,h0⟩:=xX 0 Tryz.underlying334 h
 try dsimp only at h0
 rw[cl_9] at h0
 obtain⟨a0,r0,k0⟩:=el_9 _ _ _ h0 (by simp[hl])
 obtain⟨y1,m1,h1⟩:=xX 1 Tryz.underlying334 h
 try dsimp only at h1
 rw[z19Y] at h1
 obtain⟨a1,r1,k1⟩:=z1ao _ _ _ h1 (by simp[hl])
 obtain⟨y2,m2,h2⟩:=xX 2 Tryz.underlying334 h
 try dsimp only at h2
 rw[z19Z] at h2
 obtain⟨a2,r2,k2⟩:=z1ap _ _ _ h2 (by simp[hl])
 obtain⟨u0,u1,u2,rfl⟩:∃ u0 u1 u2,cs=[u0,u1,u2]:=by match cs,hl with | [u0,u1,u2],_=>exact⟨_,_,_,rfl⟩
 simp[e9] at r0
 obtain⟨Au,Av,r1,BU⟩:=r1
 simp at r1
 obtain⟨BV,BX,r2,D0⟩:=r2
 simp at r2
 refine⟨⟨a0,a1,a2⟩,⟨Au,Av,BV,BX,by simp[*],BU,D0⟩,⟨k1,k2⟩⟩
theorem z1ar (h:DataW.trod enc Tryz.prog W 0 iU ve n 28 cs=some y) (hl:cs.length=1):∃ a:List yQ,(p28 (ZW W) cs a)/\(a.length<=9223372036854775807/\∀ x∈a,kd334 x):=by
 obtain⟨ao,cap,l,rfl,hz,hL⟩:=kW (Pr:=fun r x=>(fO (ZW W) r x)/\(kd334 x)) (sz:=3) Tryz.underlying28 (by kernel_rfl) (by decide) z1aq h
 unfold maxLen at hL
 exact⟨l,⟨ao,cap,rfl,hz.weak (fun _ _ h=>h.1)⟩,⟨by omega,hz.all (q:=fun x=>kd334 x) (fun _ _ h=>h.2)⟩⟩
theorem z1as (h:DataW.trod enc Tryz.prog W 0 iU ve n 336 cs=some y) (hl:cs.length=4):∃ a:yP,(cs=mc a)/\(kd336 a):=by
 obtain⟨y0,m0,h0⟩:=xX 0 Tryz.underlying336 h
 try dsimp only at h0
 rw[cl_9] at h0
 obtain⟨a0,r0,k0⟩:=el_9 _ _ _ h0 (by simp[hl])
 obtain⟨y1,m1,h1⟩:=xX 1 Tryz.underlying336 h
 try dsimp only at h1
 rw[cl_3] at h1
 obtain⟨a1,r1,k1⟩:=el_3 _ _ _ h1 (by simp[hl])
 obtain⟨y2,m2,h2⟩:=xX 2 Tryz.underlying336 h
 try dsimp only at h2
 rw[cl_9] at h2
 obtain⟨a2,r2,k2⟩:=el_9 _ _ _ h2 (by simp[hl])
 obtain⟨y3,m3,h3⟩:=xX 3 Tryz.underlying336 h
 try dsimp only at h3
 rw[cl_3] at h3
 obtain⟨a3,r3,k3⟩:=el_3 _ _ _ h3 (by simp[hl])
 obtain⟨u0,u1,u2,u3,rfl⟩:∃ u0 u1 u2 u3,cs=[u0,u1,u2,u3]:=by match cs,hl with | [u0,u1,u2,u3],_=>exact⟨_,_,_,_,rfl⟩
 simp[e9] at r0
 simp[e3] at r1
 simp[e9] at r2
 simp[e3] at r3
 exact⟨⟨a0,a1,a2,a3⟩,by simp[mc, *],⟨k1,k3⟩⟩
theorem z1at (h:DataW.trod enc Tryz.prog W 0 iU ve n 29 cs=some y) (hl:cs.length=1):∃ a:List yP,(p29 (ZW W) cs a)/\(a.length<=9223372036854775807/\∀ x∈a,kd336 x):=by
 obtain⟨ao,cap,l,rfl,hz,hL⟩:=kW (Pr:=fun r x=>(r=mc x)/\(kd336 x)) (sz:=4) Tryz.underlying29 (by kernel_rfl) (by decide) z1as h
 unfold maxLen at hL
 exact⟨l,⟨ao,cap,rfl,hz.weak (fun _ _ h=>h.1)⟩,⟨by omega,hz.all (q:=fun x=>kd336 x) (fun _ _ h=>h.2)⟩⟩
theorem z1au (h:DataW.trod enc Tryz.prog W 0 iU ve n 31 cs=some y) (hl:cs.length=8):∃ a:zV,(p31 (ZW W) cs a)/\(kd31 a):=by
 obtain⟨y0,m0,h0⟩:=xX 0 Tryz.underlying31 h
 try dsimp only at h0
 rw[z19P] at h0
 obtain⟨a0,r0,k0⟩:=z1ac _ _ _ h0 (by simp[hl])
 obtain⟨y1,m1,h1⟩:=xX 1 Tryz.underlying31 h
 try dsimp only at h1
 rw[z19Q] at h1
 obtain⟨a1,r1,k1⟩:=z1ae _ _ _ h1 (by simp[hl])
 obtain⟨y2,m2,h2⟩:=xX 2 Tryz.underlying31 h
 try dsimp only at h2
 rw[z19R] at h2
 obtain⟨a2,r2,k2⟩:=z1ag _ _ _ h2 (by simp[hl])
 obtain⟨y3,m3,h3⟩:=xX 3 Tryz.underlying31 h
 try dsimp only at h3
 rw[z19S] at h3
 obtain⟨a3,r3,k3⟩:=z1ai _ _ _ h3 (by simp[hl])
 obtain⟨y4,m4,h4⟩:=xX 4 Tryz.underlying31 h
 try dsimp only at h4
 rw[z19T] at h4
 obtain⟨a4,r4,k4⟩:=z1ak _ _ _ h4 (by simp[hl])
 obtain⟨y5,m5,h5⟩:=xX 5 Tryz.underlying31 h
 try dsimp only at h5
 rw[z19U] at h5
 obtain⟨a5,r5,k5⟩:=z1am _ _ _ h5 (by simp[hl])
 obtain⟨y6,m6,h6⟩:=xX 6 Tryz.underlying31 h
 try dsimp only at h6
 rw[z19V] at h6
 obtain⟨a6,r6,k6⟩:=z1ar _ _ _ h6 (by simp[hl])
 obtain⟨y7,m7,h7⟩:=xX 7 Tryz.underlying31 h
 try dsimp only at h7
 rw[z19W] at h7
 obtain⟨a7,r7,k7⟩:=z1at _ _ _ h7 (by simp[hl])
 obtain⟨u0,u1,u2,u3,u4,u5,u6,u7,rfl⟩:∃ u0 u1 u2 u3 u4 u5 u6 u7,cs=[u0,u1,u2,u3,u4,u5,u6,u7]:=by match cs,hl with | [u0,u1,u2,u3,u4,u5,u6,u7],_=>exact⟨_,_,_,_,_,_,_,_,rfl⟩
 obtain⟨BY,BZ,r0,D1⟩:=r0
 simp at r0
 obtain⟨Au,Av,r1,BU⟩:=r1
 simp at r1
 obtain⟨BV,BX,r2,D0⟩:=r2
 simp at r2
 obtain⟨BS,BT,r3,DZ⟩:=r3
 simp at r3
 obtain⟨zF,zG,r4,AQ⟩:=r4
 simp at r4
 obtain⟨Hr,Hs,r5,z5x0⟩:=r5
 simp at r5
 obtain⟨Ht,Hu,r6,z6x0⟩:=r6
 simp at r6
 obtain⟨BQ,BR,r7,DY⟩:=r7
 simp at r7
 refine⟨⟨a0,a1,a2,a3,a4,a5,a6,a7⟩,⟨BY,BZ,Au,Av,BV,BX,BS,BT,zF,zG,Hr,Hs,Ht,Hu,BQ,BR,by simp[*],D1,BU,D0,DZ,AQ,z5x0,z6x0,DY⟩,⟨k0,k1,k2,k3,k4,k5,k6,k7⟩⟩
theorem z1av (h:DataW.trod enc Tryz.prog W 0 iU ve n 62 cs=some y) (hl:cs.length=3):∃ a:zb,(cs=mW a)/\(kd62 a):=by
 obtain⟨y0,m0,h0⟩:=xX 0 Tryz.underlying62 h
 try dsimp only at h0
 rw[cl_3] at h0
 obtain⟨a0,r0,k0⟩:=el_3 _ _ _ h0 (by simp[hl])
 obtain⟨y1,m1,h1⟩:=xX 1 Tryz.underlying62 h
 try dsimp only at h1
 rw[cl_3] at h1
 obtain⟨a1,r1,k1⟩:=el_3 _ _ _ h1 (by simp[hl])
 obtain⟨y2,m2,h2⟩:=xX 2 Tryz.underlying62 h
 try dsimp only at h2
 rw[cl_3] at h2
 obtain⟨a2,r2,k2⟩:=el_3 _ _ _ h2 (by simp[hl])
 obtain⟨u0,u1,u2,rfl⟩:∃ u0 u1 u2,cs=[u0,u1,u2]:=by match cs,hl with | [u0,u1,u2],_=>exact⟨_,_,_,rfl⟩
 simp[e3] at r0
 simp[e3] at r1
 simp[e3] at r2
 exact⟨⟨a0,a1,a2⟩,by simp[mW, *],⟨k0,k1,k2⟩⟩
theorem z1aw (h:DataW.trod enc Tryz.prog W 0 iU ve n 48 cs=some y) (hl:cs.length=1):∃ a:List zb,(mN (ZW W) cs a)/\(a.length<=9223372036854775807/\∀ x∈a,kd62 x):=by
 obtain⟨ao,cap,l,rfl,hz,hL⟩:=kW (Pr:=fun r x=>(r=mW x)/\(kd62 x)) (sz:=3) Tryz.underlying48 (by kernel_rfl) (by decide) z1av h
 unfold maxLen at hL
 exact⟨l,⟨ao,cap,rfl,hz.weak (fun _ _ h=>h.1)⟩,⟨by omega,hz.all (q:=fun x=>kd62 x) (fun _ _ h=>h.2)⟩⟩
theorem z1ax (h:DataW.trod enc Tryz.prog W 0 iU ve n 110 cs=some y) (hl:cs.length=1):∃ a:Int,(cs=V5 a)/\(0<=a/\a<=65535):=by
 obtain⟨a,rfl,-,wf⟩:=DataW.trod_int Tryz.underlying110 h
 exact⟨a,rfl,Go.bounds_u16 wf⟩
end
theorem own:ownKnob Tryz.prog.godebug=none:=by kernel_rfl
theorem laid:laidOutB Tryz.prog=true:=by kernel_rfl
set_option maxRecDepth 100000 in
theorem lifted (os:Os) (Ac:os.Started) (H:Type) (enc:TypeId×Value->H):
  ReturnsInHanded {} Tryz.checked os 7 .any (Rows.boundHoldsSpec.pre6 enc Tryz.prog Tryz.f7 Rows.boundHoldsRow.domain false) (Rows.boundHoldsSpec.post enc Tryz.prog Tryz.f7 false true false false):=by
 refine returnsInHanded_of_change (C:=Tryz.checked) own Ac (by kernel_rfl) Tryz.func7
  (ChangeSpec.witness6 (enc:=enc) (C:=Tryz.checked) false ⟨#[],#[(.agg #[.slice none 0 0,.slice none 0 0,.slice none 0 0,.slice none 0 0,.slice none 0 0,.slice none 0 0,.slice none 0 0,.slice none 0 0]),.int .i64 0,.slice none 0 0,.slice none 0 0,.slice none 0 0,.slice none 0 0],[]⟩ 8 (by kernel_rfl) (by kernel_rfl) (by kernel_rfl) (by kernel_rfl)) ?_
 intro W base args ds gs zf Hv hW hcnd _
 have Ab:∀(j:Nat) t v,Tryz.f7.params[j]?=some t->args[j]?=some v->Value.okWide Tryz.prog W .any base t v:=Hv
 have D4:=hW
 obtain⟨p,q,hA0,hV,rfl,hfz,Bm⟩:=hW
 have hA:DataW.TrodAll enc Tryz.prog W 0 (fun _=>true) true Tryz.f7.params.toList args.toList ds p:=hA0
 rw[Tryz.params7] at hA Ab
 obtain⟨v0,vs0,d0,ds0,p0,q0,hargs,rfl,rfl,h0,r0⟩:=trodAll_cons hA
 obtain⟨v1,vs1,d1,ds1,p1,q1,rfl,rfl,rfl,h1,r1⟩:=trodAll_cons r0
 obtain⟨v2,vs2,d2,ds2,p2,q2,rfl,rfl,rfl,h2,r2⟩:=trodAll_cons r1
 obtain⟨v3,vs3,d3,ds3,p3,q3,rfl,rfl,rfl,h3,r3⟩:=trodAll_cons r2
 obtain⟨v4,vs4,d4,ds4,p4,q4,rfl,rfl,rfl,h4,r4⟩:=trodAll_cons r3
 obtain⟨v5,vs5,d5,ds5,p5,q5,rfl,rfl,rfl,h5,r5⟩:=trodAll_cons r4
 obtain⟨rfl,rfl,rfl⟩:=trodAll_nil r5
 obtain rfl:args = #[v0,v1,v2,v3,v4,v5]:=by cases args;simp_all
 obtain⟨rfl,rfl⟩:=trodVars_none hV
 obtain⟨fuel0,hf0⟩:=h0
 obtain⟨cs0,rfl,Ey,hg0⟩:=S9 (Ab 0 31 v0 rfl rfl) hf0 Tryz.underlying31 (show Tryz.prog.cellsOf 31=8 by kernel_rfl)
 obtain⟨x0,Ec,bd0⟩:=z1au _ _ _ hg0 Ey
 obtain⟨BY,BZ,Hw,Hx,Hy,Hz,HA,HB,HC,HE,HF,HG,HH,HI,HJ,HK,rfl,D1,z0x1,z0x2,z0x3,z0x4,z0x5,z0x6,z0x7⟩:=Ec
 obtain⟨x1,rfl,hd1,zX,wf1⟩:=open_int Tryz.underlying3 (Ab 1 3 v1 rfl rfl) h1
 have bd1:=Go.bounds_i64 wf1
 obtain⟨Cp,m2,zZ,x2,rfl,hs2,hL2⟩:=Yg (Pr:=fun r x=>(mN (ZW W) r x)/\(x.length<=9223372036854775807/\∀ y∈x,kd62 y)) (sz:=1) Tryz.underlying32 (by kernel_rfl) (by decide) z1aw (Ab 2 32 v2 rfl rfl) h2
 unfold maxLen at hL2
 obtain⟨rfl,Bv⟩:=ic hs2
 have bd2:=Bv.all (q:=fun x=>x.length<=9223372036854775807/\∀ y∈x,kd62 y) (fun _ _ h=>h.2)
 replace Bv:=Bv.weak (Pr':=(mN (ZW W))) (fun _ _ h=>h.1)
 obtain⟨Cq,m3,Aa,x3,rfl,hs3,hL3⟩:=Yg (Pr:=fun r x=>(r=e5 x)/\(0<=x/\x<=255)) (sz:=1) Tryz.underlying71 (by kernel_rfl) (by decide) el_5 (Ab 3 71 v3 rfl rfl) h3
 unfold maxLen at hL3
 obtain⟨rfl,C8⟩:=ic hs3
 have bd3:=C8.all (q:=fun x=>0<=x/\x<=255) (fun _ _ h=>h.2)
 replace C8:=C8.weak (Pr':=(fun r x=>r=e5 x)) (fun _ _ h=>h.1)
 obtain⟨ao4,m4,CA,x4,rfl,hs4,hL4⟩:=Yg (Pr:=fun r x=>(r=e5 x)/\(0<=x/\x<=255)) (sz:=1) Tryz.underlying71 (by kernel_rfl) (by decide) el_5 (Ab 4 71 v4 rfl rfl) h4
 unfold maxLen at hL4
 obtain⟨rfl,hz4⟩:=ic hs4
 have bd4:=hz4.all (q:=fun x=>0<=x/\x<=255) (fun _ _ h=>h.2)
 replace hz4:=hz4.weak (Pr':=(fun r x=>r=e5 x)) (fun _ _ h=>h.1)
 obtain⟨ao5,m5,CB,x5,rfl,hs5,hL5⟩:=Yg (Pr:=fun r x=>(r=V5 x)/\(0<=x/\x<=65535)) (sz:=1) Tryz.underlying72 (by kernel_rfl) (by decide) z1ax (Ab 5 72 v5 rfl rfl) h5
 unfold maxLen at hL5
 obtain⟨rfl,hz5⟩:=ic hs5
 have bd5:=hz5.all (q:=fun x=>0<=x/\x<=65535) (fun _ _ h=>h.2)
 replace hz5:=hz5.weak (Pr':=(fun r x=>r=V5 x)) (fun _ _ h=>h.1)
 have HL:=law x0 x1 x2 x3 x4 x5 bd3 bd4 bd5
 refine(Yc (Z:=ZW W) (z80:=BY) (z81:=BZ) (z82:=Hw) (z83:=Hx) (zdF:=Hy) (zdG:=Hz) (z84:=HA) (z85:=HB) (z86:=HC) (z87:=HE) (z88:=HF) (z89:=HG) (z8a:=HH) (z8b:=HI) (z8c:=HJ) (z8d:=HK) (zbY:=Cp) (zbZ:=zZ) (zFk:=Cq) (zFl:=Aa) (zFm:=ao4) (zFn:=CA) (zFo:=ao5) (zFp:=CB) (zg:=x0) (z7Z:=x1) (z6A:=x2) (zqB:=x3) (zqC:=x4) (zqD:=x5) (r:=true) HL (ZW_pz W) D1 z0x1 z0x2 z0x3 z0x4 z0x5 z0x6 z0x7 Bv C8 hz4 hz5).mono fun e W' ⟨he,hh⟩=>?_
 subst he
 exact⟨_,rfl,FK laid (by kernel_rfl) rfl rfl Tryz.underlying4 D4 (fun _=>⟨rfl,rfl,rfl⟩) hh.below⟩
theorem over:Rows.boundHoldsRow.holds Tryz.pinned (OpenSpec.ofChange Rows.boundHoldsSpec):=
 OpenClaim.holds_of_wide 7 Tryz.f7 rfl rfl rfl rfl rfl rfl rfl ⟨rfl,rfl,rfl,rfl,rfl⟩ rfl rfl rfl rfl rfl (by kernel_rfl) Tryz.func7 (by kernel_rfl)
  (of_decide_eq_true (by kernel_rfl)) (by unfold Func.isWrapper;first | (rw[if_pos (by decide +kernel)];kernel_rfl) | (rw[if_neg (by decide +kernel)];exact⟨rfl,rfl⟩))
  (fun os Ac H enc _=>lifted os Ac H enc)
theorem proved:Rows.BoundHoldsSaid:=over
#print axioms proved
end Go.Proofs.YtcahmabkeaijdaaGreat.boundHolds
