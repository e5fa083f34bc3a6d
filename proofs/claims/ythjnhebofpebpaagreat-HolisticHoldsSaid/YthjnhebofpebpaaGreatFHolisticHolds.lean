/-
 Whatever the input, law HolisticHolds of layer 36 returns true and leaves its arguments unchanged. No conditions.
-/
import Derived.Test.YthjnhebofpebpaaGreatPHolisticHolds
import Derived.Test.YthjnhebofpebpaaGreatZMem
import Derived.Test.YthjnhebofpebpaaGreatRows
set_option linter.all false
namespace Go.Proofs.YthjnhebofpebpaaGreat.holisticHolds
open Go.ChangeShapes Go.WideShapes Go.ChangeAt Go.RowKit Sep
def p31 (Z:Zp) (r:List Value) (x:zy):Prop:=∃(lm:Option Addr) (iQ:Nat) (Bs:Option Addr) (zs:Nat) (CA:Option Addr) (Ah:Nat) (CB:Option Addr) (Ai:Nat) (ao4:Option Addr) (CQ:Nat) (ao5:Option Addr) (CT:Nat) (ao6:Option Addr) (Hh:Nat) (ao7:Option Addr) (Hi:Nat),r=[(.slice lm x.fM.length iQ),(.slice Bs x.ye.length zs),(.slice CA x.fS.length Ah),(.slice CB x.fK.length Ai),(.slice ao4 x.yb.length CQ),(.slice ao5 x.fH.length CT),(.slice ao6 x.fU.length Hh),(.slice ao7 x.yf.length Hi)]/\ZS Z 4 (kB Z) lm iQ x.fM/\ZS Z 4 (g8 Z) Bs zs x.ye/\ZS Z 4 (fun r x=>r=kr x) CA Ah x.fS/\ZS Z 4 (fun r x=>r=gH x) CB Ai x.fK/\ZS Z 7 (g7 Z) ao4 CQ x.yb/\ZS Z 5 (fun r x=>r=gf x) ao5 CT x.fH/\ZS Z 3 (g9 Z) ao6 Hh x.fU/\ZS Z 4 (fun r x=>r=gg x) ao7 Hi x.yf
def p22 (Z:Zp) (r:List Value) (x:List yH):Prop:=∃(lm:Option Addr) (iQ:Nat),r=[(.slice lm x.length iQ)]/\ZS Z 4 (kB Z) lm iQ x
def p124 (Z:Zp) (r:List Value) (x:List yZ):Prop:=∃(lm:Option Addr) (iQ:Nat),r=[(.slice lm x.length iQ)]/\ZS Z 10 (V0 Z) lm iQ x
def p378 (Z:Zp) (r:List Value) (x:List xa):Prop:=∃(lm:Option Addr) (iQ:Nat),r=[(.slice lm x.length iQ)]/\ZS Z 6 (fun r x=>r=QU x) lm iQ x
def e4 (x:Bool):List Value:=[(.bool x)]
def p379 (Z:Zp) (r:List Value) (x:List yY):Prop:=∃(lm:Option Addr) (iQ:Nat),r=[(.slice lm x.length iQ)]/\ZS Z 5 (WZ Z) lm iQ x
def p388 (Z:Zp) (r:List Value) (x:List xc):Prop:=∃(lm:Option Addr) (iQ:Nat),r=[(.slice lm x.length iQ)]/\ZS Z 4 (fun r x=>r=QV x) lm iQ x
def p23 (Z:Zp) (r:List Value) (x:List yS):Prop:=∃(lm:Option Addr) (iQ:Nat),r=[(.slice lm x.length iQ)]/\ZS Z 4 (g8 Z) lm iQ x
def p67 (Z:Zp) (r:List Value) (x:List yG):Prop:=∃(lm:Option Addr) (iQ:Nat),r=[(.slice lm x.length iQ)]/\ZS Z 3 (fun r x=>r=dJ x) lm iQ x
def p24 (Z:Zp) (r:List Value) (x:List yw):Prop:=∃(lm:Option Addr) (iQ:Nat),r=[(.slice lm x.length iQ)]/\ZS Z 4 (fun r x=>r=kr x) lm iQ x
def p25 (Z:Zp) (r:List Value) (x:List yL):Prop:=∃(lm:Option Addr) (iQ:Nat),r=[(.slice lm x.length iQ)]/\ZS Z 4 (fun r x=>r=gH x) lm iQ x
def p26 (Z:Zp) (r:List Value) (x:List yy):Prop:=∃(lm:Option Addr) (iQ:Nat),r=[(.slice lm x.length iQ)]/\ZS Z 7 (g7 Z) lm iQ x
def p27 (Z:Zp) (r:List Value) (x:List yW):Prop:=∃(lm:Option Addr) (iQ:Nat),r=[(.slice lm x.length iQ)]/\ZS Z 5 (fun r x=>r=gf x) lm iQ x
def p28 (Z:Zp) (r:List Value) (x:List yU):Prop:=∃(lm:Option Addr) (iQ:Nat),r=[(.slice lm x.length iQ)]/\ZS Z 3 (g9 Z) lm iQ x
def p372 (Z:Zp) (r:List Value) (x:List yX):Prop:=∃(lm:Option Addr) (iQ:Nat),r=[(.slice lm x.length iQ)]/\ZS Z 2 (fun r x=>r=QW x) lm iQ x
def p373 (Z:Zp) (r:List Value) (x:List ByteArray):Prop:=∃(lm:Option Addr) (iQ:Nat),r=[(.slice lm x.length iQ)]/\ZS Z 1 (fun r x=>r=e9 x) lm iQ x
def p29 (Z:Zp) (r:List Value) (x:List yT):Prop:=∃(lm:Option Addr) (iQ:Nat),r=[(.slice lm x.length iQ)]/\ZS Z 4 (fun r x=>r=gg x) lm iQ x
abbrev i6 (a:Int):Prop := -9223372036854775808<=a/\a<=9223372036854775807
abbrev kd387 (a:xa):Prop:=(0<=a.xu/\a.xu<=255)/\(i6 a.yo)/\(i6 a.xy)/\(i6 a.xn)
abbrev kd392 (a:xc):Prop:=(0<=a.fOp/\a.fOp<=255)/\(i6 a.fA)/\(i6 a.fB)/\(i6 a.fC)
abbrev kd390 (a:yY):Prop:=(i6 a.xA)/\(i6 a.xd)/\(i6 a.xw)/\(a.xe.length<=9223372036854775807/\∀ x∈a.xe,kd392 x)
abbrev kd381 (a:yZ):Prop:=(i6 a.xd)/\(i6 a.xp)/\(i6 a.xl)/\(a.xf.length<=9223372036854775807/\∀ x∈a.xf,-9223372036854775808<=x/\x<=9223372036854775807)/\(i6 a.xq)/\(i6 a.xr)/\(a.xk.length<=9223372036854775807/\∀ x∈a.xk,-9223372036854775808<=x/\x<=9223372036854775807)/\(a.fP.length<=9223372036854775807/\∀ x∈a.fP,kd387 x)/\(a.xi.length<=9223372036854775807/\∀ x∈a.xi,kd390 x)
abbrev kd126 (a:yH):Prop:=(i6 a.xl)/\(i6 a.xx)/\(a.xg.length<=9223372036854775807/\∀ x∈a.xg,kd381 x)
abbrev kd369 (a:yS):Prop:=(a.yN.length<=9223372036854775807)
abbrev kd64 (a:yw):Prop:=(i6 a.yV)/\(i6 a.yl)/\(i6 a.fT)
abbrev kd62 (a:yL):Prop:=(i6 a.yV)/\(i6 a.yp)
abbrev kd69 (a:yy):Prop:=(i6 a.yD)/\(i6 a.yz)/\(a.yN.length<=9223372036854775807)
abbrev kd371 (a:yW):Prop:=(0<=a.xm/\a.xm<=255)/\(0<=a.xo/\a.xo<=255)/\(0<=a.fDo/\a.fDo<=255)
abbrev kd385 (a:yX):Prop:=(i6 a.xe)
abbrev kd375 (a:yU):Prop:=(a.xh.length<=9223372036854775807/\∀ x∈a.xh,kd385 x)/\(a.xj.length<=9223372036854775807)
abbrev kd377 (a:yT):Prop:=(i6 a.fVA)/\(i6 a.fVB)
abbrev kd31 (a:zy):Prop:=(a.fM.length<=9223372036854775807/\∀ x∈a.fM,kd126 x)/\(a.ye.length<=9223372036854775807/\∀ x∈a.ye,kd369 x)/\(a.fS.length<=9223372036854775807/\∀ x∈a.fS,kd64 x)/\(a.fK.length<=9223372036854775807/\∀ x∈a.fK,kd62 x)/\(a.yb.length<=9223372036854775807/\∀ x∈a.yb,kd69 x)/\(a.fH.length<=9223372036854775807/\∀ x∈a.fH,kd371 x)/\(a.fU.length<=9223372036854775807/\∀ x∈a.fU,kd375 x)/\(a.yf.length<=9223372036854775807/\∀ x∈a.yf,kd377 x)
abbrev kd60 (a:zd):Prop:=(i6 a.ya)/\(i6 a.fX)/\(i6 a.fQ)
theorem cl_3:Tryz.prog.cellsOf 3=1:=by kernel_rfl
theorem cl_4:Tryz.prog.cellsOf 4=1:=by kernel_rfl
theorem cl_5:Tryz.prog.cellsOf 5=1:=by kernel_rfl
theorem cl_9:Tryz.prog.cellsOf 9=1:=by kernel_rfl
theorem z1kp:Tryz.prog.cellsOf 22=1:=by kernel_rfl
theorem z1kq:Tryz.prog.cellsOf 23=1:=by kernel_rfl
theorem z1kr:Tryz.prog.cellsOf 24=1:=by kernel_rfl
theorem z1ks:Tryz.prog.cellsOf 25=1:=by kernel_rfl
theorem z1kt:Tryz.prog.cellsOf 26=1:=by kernel_rfl
theorem z1ku:Tryz.prog.cellsOf 27=1:=by kernel_rfl
theorem z1kv:Tryz.prog.cellsOf 28=1:=by kernel_rfl
theorem z1kw:Tryz.prog.cellsOf 29=1:=by kernel_rfl
theorem zX3:Tryz.prog.cellsOf 50=1:=by kernel_rfl
theorem zX4:Tryz.prog.cellsOf 66=3:=by kernel_rfl
theorem zX5:Tryz.prog.cellsOf 67=1:=by kernel_rfl
theorem z1kx:Tryz.prog.cellsOf 124=1:=by kernel_rfl
theorem z1ky:Tryz.prog.cellsOf 372=1:=by kernel_rfl
theorem z1kz:Tryz.prog.cellsOf 373=1:=by kernel_rfl
theorem z1kA:Tryz.prog.cellsOf 378=1:=by kernel_rfl
theorem z1kB:Tryz.prog.cellsOf 379=1:=by kernel_rfl
theorem z1kC:Tryz.prog.cellsOf 388=1:=by kernel_rfl
section
variable {H:Type} {enc:TypeId×Value->H} {W:World} {kA:Nat->Bool} {vw:Bool} {n:Nat} {cs:List Value} {y:DataW H×List MemPlace}
theorem el_9 (h:DataW.trod enc Tryz.prog W 0 kA vw n 9 cs=some y) (hl:cs.length=1):∃ a:ByteArray,(cs=e9 a)/\(True):=by
 obtain⟨a,rfl,-,-⟩:=DataW.trod_string Tryz.underlying9 h
 exact⟨a,rfl,trivial⟩
theorem el_3 (h:DataW.trod enc Tryz.prog W 0 kA vw n 3 cs=some y) (hl:cs.length=1):∃ a:Int,(cs=e3 a)/\(-9223372036854775808<=a/\a<=9223372036854775807):=by
 obtain⟨a,rfl,-,wf⟩:=DataW.trod_int Tryz.underlying3 h
 exact⟨a,rfl,Go.bounds_i64 wf⟩
theorem zX6 (h:DataW.trod enc Tryz.prog W 0 kA vw n 50 cs=some y) (hl:cs.length=1):∃ a:List Int,(aL (ZW W) cs a)/\(a.length<=9223372036854775807/\∀ x∈a,-9223372036854775808<=x/\x<=9223372036854775807):=by
 obtain⟨ao,cap,l,rfl,hz,hL⟩:=gl (Pr:=fun r x=>(r=e3 x)/\(-9223372036854775808<=x/\x<=9223372036854775807)) (sz:=1) Tryz.underlying50 (fun _ _ _=>el_3) h
 unfold maxLen at hL
 exact⟨l,⟨ao,cap,rfl,hz.weak (fun _ _ h=>h.1)⟩,⟨by omega,hz.all (q:=fun x => -9223372036854775808<=x/\x<=9223372036854775807) (fun _ _ h=>h.2)⟩⟩
theorem el_5 (h:DataW.trod enc Tryz.prog W 0 kA vw n 5 cs=some y) (hl:cs.length=1):∃ a:Int,(cs=e5 a)/\(0<=a/\a<=255):=by
 obtain⟨a,rfl,-,wf⟩:=DataW.trod_int Tryz.underlying5 h
 exact⟨a,rfl,Go.bounds_u8 wf⟩
theorem el_4 (h:DataW.trod enc Tryz.prog W 0 kA vw n 4 cs=some y) (hl:cs.length=1):∃ a:Bool,(cs=e4 a)/\(True):=by
 obtain⟨a,rfl,-⟩:=DataW.trod_bool Tryz.underlying4 h
 exact⟨a,rfl,trivial⟩
theorem z1kD (h:DataW.trod enc Tryz.prog W 0 kA vw n 387 cs=some y) (hl:cs.length=6):∃ a:xa,(cs=QU a)/\(kd387 a):=by
 obtain⟨y0,m0,h0⟩:=xY 0 Tryz.underlying387 h
 try dsimp only at h0
 rw[cl_9] at h0
 obtain⟨a0,r0,k0⟩:=el_9 h0 (by simp[hl])
 obtain⟨y1,m1,h1⟩:=xY 1 Tryz.underlying387 h
 try dsimp only at h1
 rw[cl_5] at h1
 obtain⟨a1,r1,k1⟩:=el_5 h1 (by simp[hl])
 obtain⟨y2,m2,h2⟩:=xY 2 Tryz.underlying387 h
 try dsimp only at h2
 rw[cl_4] at h2
 obtain⟨a2,r2,k2⟩:=el_4 h2 (by simp[hl])
 obtain⟨y3,m3,h3⟩:=xY 3 Tryz.underlying387 h
 try dsimp only at h3
 rw[cl_3] at h3
 obtain⟨a3,r3,k3⟩:=el_3 h3 (by simp[hl])
 obtain⟨y4,m4,h4⟩:=xY 4 Tryz.underlying387 h
 try dsimp only at h4
 rw[cl_3] at h4
 obtain⟨a4,r4,k4⟩:=el_3 h4 (by simp[hl])
 obtain⟨y5,m5,h5⟩:=xY 5 Tryz.underlying387 h
 try dsimp only at h5
 rw[cl_3] at h5
 obtain⟨a5,r5,k5⟩:=el_3 h5 (by simp[hl])
 obtain⟨u0,u1,u2,u3,u4,u5,rfl⟩:∃ u0 u1 u2 u3 u4 u5,cs=[u0,u1,u2,u3,u4,u5]:=by match cs,hl with | [u0,u1,u2,u3,u4,u5],_=>exact⟨_,_,_,_,_,_,rfl⟩
 simp[e9] at r0
 simp[e5] at r1
 simp[e4] at r2
 simp[e3] at r3
 simp[e3] at r4
 simp[e3] at r5
 exact⟨⟨a0,a1,a2,a3,a4,a5⟩,by simp[QU, *],⟨k1,k3,k4,k5⟩⟩
theorem z1kE (h:DataW.trod enc Tryz.prog W 0 kA vw n 378 cs=some y) (hl:cs.length=1):∃ a:List xa,(p378 (ZW W) cs a)/\(a.length<=9223372036854775807/\∀ x∈a,kd387 x):=by
 obtain⟨ao,cap,l,rfl,hz,hL⟩:=gl (Pr:=fun r x=>(r=QU x)/\(kd387 x)) (sz:=6) Tryz.underlying378 (fun _ _ _=>z1kD) h
 unfold maxLen at hL
 exact⟨l,⟨ao,cap,rfl,hz.weak (fun _ _ h=>h.1)⟩,⟨by omega,hz.all (q:=fun x=>kd387 x) (fun _ _ h=>h.2)⟩⟩
theorem z1kF (h:DataW.trod enc Tryz.prog W 0 kA vw n 392 cs=some y) (hl:cs.length=4):∃ a:xc,(cs=QV a)/\(kd392 a):=by
 obtain⟨y0,m0,h0⟩:=xY 0 Tryz.underlying392 h
 try dsimp only at h0
 rw[cl_5] at h0
 obtain⟨a0,r0,k0⟩:=el_5 h0 (by simp[hl])
 obtain⟨y1,m1,h1⟩:=xY 1 Tryz.underlying392 h
 try dsimp only at h1
 rw[cl_3] at h1
 obtain⟨a1,r1,k1⟩:=el_3 h1 (by simp[hl])
 obtain⟨y2,m2,h2⟩:=xY 2 Tryz.underlying392 h
 try dsimp only at h2
 rw[cl_3] at h2
 obtain⟨a2,r2,k2⟩:=el_3 h2 (by simp[hl])
 obtain⟨y3,m3,h3⟩:=xY 3 Tryz.underlying392 h
 try dsimp only at h3
 rw[cl_3] at h3
 obtain⟨a3,r3,k3⟩:=el_3 h3 (by simp[hl])
 obtain⟨u0,u1,u2,u3,rfl⟩:∃ u0 u1 u2 u3,cs=[u0,u1,u2,u3]:=by match cs,hl with | [u0,u1,u2,u3],_=>exact⟨_,_,_,_,rfl⟩
 simp[e5] at r0
 simp[e3] at r1
 simp[e3] at r2
 simp[e3] at r3
 exact⟨⟨a0,a1,a2,a3⟩,by simp[QV, *],⟨k0,k1,k2,k3⟩⟩
theorem z1kG (h:DataW.trod enc Tryz.prog W 0 kA vw n 388 cs=some y) (hl:cs.length=1):∃ a:List xc,(p388 (ZW W) cs a)/\(a.length<=9223372036854775807/\∀ x∈a,kd392 x):=by
 obtain⟨ao,cap,l,rfl,hz,hL⟩:=gl (Pr:=fun r x=>(r=QV x)/\(kd392 x)) (sz:=4) Tryz.underlying388 (fun _ _ _=>z1kF) h
 unfold maxLen at hL
 exact⟨l,⟨ao,cap,rfl,hz.weak (fun _ _ h=>h.1)⟩,⟨by omega,hz.all (q:=fun x=>kd392 x) (fun _ _ h=>h.2)⟩⟩
theorem z1kH (h:DataW.trod enc Tryz.prog W 0 kA vw n 390 cs=some y) (hl:cs.length=5):∃ a:yY,(WZ (ZW W) cs a)/\(kd390 a):=by
 obtain⟨y0,m0,h0⟩:=xY 0 Tryz.underlying390 h
 try dsimp only at h0
 rw[cl_9] at h0
 obtain⟨a0,r0,k0⟩:=el_9 h0 (by simp[hl])
 obtain⟨y1,m1,h1⟩:=xY 1 Tryz.underlying390 h
 try dsimp only at h1
 rw[cl_3] at h1
 obtain⟨a1,r1,k1⟩:=el_3 h1 (by simp[hl])
 obtain⟨y2,m2,h2⟩:=xY 2 Tryz.underlying390 h
 try dsimp only at h2
 rw[cl_3] at h2
 obtain⟨a2,r2,k2⟩:=el_3 h2 (by simp[hl])
 obtain⟨y3,m3,h3⟩:=xY 3 Tryz.underlying390 h
 try dsimp only at h3
 rw[cl_3] at h3
 obtain⟨a3,r3,k3⟩:=el_3 h3 (by simp[hl])
 obtain⟨y4,m4,h4⟩:=xY 4 Tryz.underlying390 h
 try dsimp only at h4
 rw[z1kC] at h4
 obtain⟨a4,r4,k4⟩:=z1kG h4 (by simp[hl])
 obtain⟨u0,u1,u2,u3,u4,rfl⟩:∃ u0 u1 u2 u3 u4,cs=[u0,u1,u2,u3,u4]:=by match cs,hl with | [u0,u1,u2,u3,u4],_=>exact⟨_,_,_,_,_,rfl⟩
 simp[e9] at r0
 simp[e3] at r1
 simp[e3] at r2
 simp[e3] at r3
 obtain⟨zH,zI,r4,AV⟩:=r4
 simp at r4
 refine⟨⟨a0,a1,a2,a3,a4⟩,⟨zH,zI,by simp[*],AV⟩,⟨k1,k2,k3,k4⟩⟩
theorem z1kI (h:DataW.trod enc Tryz.prog W 0 kA vw n 379 cs=some y) (hl:cs.length=1):∃ a:List yY,(p379 (ZW W) cs a)/\(a.length<=9223372036854775807/\∀ x∈a,kd390 x):=by
 obtain⟨ao,cap,l,rfl,hz,hL⟩:=gl (Pr:=fun r x=>(WZ (ZW W) r x)/\(kd390 x)) (sz:=5) Tryz.underlying379 (fun _ _ _=>z1kH) h
 unfold maxLen at hL
 exact⟨l,⟨ao,cap,rfl,hz.weak (fun _ _ h=>h.1)⟩,⟨by omega,hz.all (q:=fun x=>kd390 x) (fun _ _ h=>h.2)⟩⟩
theorem z1kJ (h:DataW.trod enc Tryz.prog W 0 kA vw n 381 cs=some y) (hl:cs.length=10):∃ a:yZ,(V0 (ZW W) cs a)/\(kd381 a):=by
 obtain⟨y0,m0,h0⟩:=xY 0 Tryz.underlying381 h
 try dsimp only at h0
 rw[cl_9] at h0
 obtain⟨a0,r0,k0⟩:=el_9 h0 (by simp[hl])
 obtain⟨y1,m1,h1⟩:=xY 1 Tryz.underlying381 h
 try dsimp only at h1
 rw[cl_3] at h1
 obtain⟨a1,r1,k1⟩:=el_3 h1 (by simp[hl])
 obtain⟨y2,m2,h2⟩:=xY 2 Tryz.underlying381 h
 try dsimp only at h2
 rw[cl_3] at h2
 obtain⟨a2,r2,k2⟩:=el_3 h2 (by simp[hl])
 obtain⟨y3,m3,h3⟩:=xY 3 Tryz.underlying381 h
 try dsimp only at h3
 rw[cl_3] at h3
 obtain⟨a3,r3,k3⟩:=el_3 h3 (by simp[hl])
 obtain⟨y4,m4,h4⟩:=xY 4 Tryz.underlying381 h
 try dsimp only at h4
 rw[zX3] at h4
 obtain⟨a4,r4,k4⟩:=zX6 h4 (by simp[hl])
 obtain⟨y5,m5,h5⟩:=xY 5 Tryz.underlying381 h
 try dsimp only at h5
 rw[cl_3] at h5
 obtain⟨a5,r5,k5⟩:=el_3 h5 (by simp[hl])
 obtain⟨y6,m6,h6⟩:=xY 6 Tryz.underlying381 h
 try dsimp only at h6
 rw[cl_3] at h6
 obtain⟨a6,r6,k6⟩:=el_3 h6 (by simp[hl])
 obtain⟨y7,m7,h7⟩:=xY 7 Tryz.underlying381 h
 try dsimp only at h7
 rw[zX3] at h7
 obtain⟨a7,r7,k7⟩:=zX6 h7 (by simp[hl])
 obtain⟨y8,m8,h8⟩:=xY 8 Tryz.underlying381 h
 try dsimp only at h8
 rw[z1kA] at h8
 obtain⟨a8,r8,k8⟩:=z1kE h8 (by simp[hl])
 obtain⟨y9,m9,h9⟩:=xY 9 Tryz.underlying381 h
 try dsimp only at h9
 rw[z1kB] at h9
 obtain⟨a9,r9,k9⟩:=z1kI h9 (by simp[hl])
 obtain⟨u0,u1,u2,u3,u4,u5,u6,u7,u8,u9,rfl⟩:∃ u0 u1 u2 u3 u4 u5 u6 u7 u8 u9,cs=[u0,u1,u2,u3,u4,u5,u6,u7,u8,u9]:=by match cs,hl with | [u0,u1,u2,u3,u4,u5,u6,u7,u8,u9],_=>exact⟨_,_,_,_,_,_,_,_,_,_,rfl⟩
 simp[e9] at r0
 simp[e3] at r1
 simp[e3] at r2
 simp[e3] at r3
 obtain⟨zH,zI,r4,AV⟩:=r4
 simp at r4
 simp[e3] at r5
 simp[e3] at r6
 obtain⟨BT,BU,r7,D1⟩:=r7
 simp at r7
 obtain⟨Hj,Hk,r8,z8x0⟩:=r8
 simp at r8
 obtain⟨Hl,Hm,r9,z9x0⟩:=r9
 simp at r9
 refine⟨⟨a0,a1,a2,a3,a4,a5,a6,a7,a8,a9⟩,⟨zH,zI,BT,BU,Hj,Hk,Hl,Hm,by simp[*],AV,D1,z8x0,z9x0⟩,⟨k1,k2,k3,k4,k5,k6,k7,k8,k9⟩⟩
theorem z1kK (h:DataW.trod enc Tryz.prog W 0 kA vw n 124 cs=some y) (hl:cs.length=1):∃ a:List yZ,(p124 (ZW W) cs a)/\(a.length<=9223372036854775807/\∀ x∈a,kd381 x):=by
 obtain⟨ao,cap,l,rfl,hz,hL⟩:=gl (Pr:=fun r x=>(V0 (ZW W) r x)/\(kd381 x)) (sz:=10) Tryz.underlying124 (fun _ _ _=>z1kJ) h
 unfold maxLen at hL
 exact⟨l,⟨ao,cap,rfl,hz.weak (fun _ _ h=>h.1)⟩,⟨by omega,hz.all (q:=fun x=>kd381 x) (fun _ _ h=>h.2)⟩⟩
theorem z1kL (h:DataW.trod enc Tryz.prog W 0 kA vw n 126 cs=some y) (hl:cs.length=4):∃ a:yH,(kB (ZW W) cs a)/\(kd126 a):=by
 obtain⟨y0,m0,h0⟩:=xY 0 Tryz.underlying126 h
 try dsimp only at h0
 rw[cl_9] at h0
 obtain⟨a0,r0,k0⟩:=el_9 h0 (by simp[hl])
 obtain⟨y1,m1,h1⟩:=xY 1 Tryz.underlying126 h
 try dsimp only at h1
 rw[cl_3] at h1
 obtain⟨a1,r1,k1⟩:=el_3 h1 (by simp[hl])
 obtain⟨y2,m2,h2⟩:=xY 2 Tryz.underlying126 h
 try dsimp only at h2
 rw[cl_3] at h2
 obtain⟨a2,r2,k2⟩:=el_3 h2 (by simp[hl])
 obtain⟨y3,m3,h3⟩:=xY 3 Tryz.underlying126 h
 try dsimp only at h3
 rw[z1kx] at h3
 obtain⟨a3,r3,k3⟩:=z1kK h3 (by simp[hl])
 obtain⟨u0,u1,u2,u3,rfl⟩:∃ u0 u1 u2 u3,cs=[u0,u1,u2,u3]:=by match cs,hl with | [u0,u1,u2,u3],_=>exact⟨_,_,_,_,rfl⟩
 simp[e9] at r0
 simp[e3] at r1
 simp[e3] at r2
 obtain⟨BV,BW,r3,D2⟩:=r3
 simp at r3
 refine⟨⟨a0,a1,a2,a3⟩,⟨BV,BW,by simp[*],D2⟩,⟨k1,k2,k3⟩⟩
theorem z1kM (h:DataW.trod enc Tryz.prog W 0 kA vw n 22 cs=some y) (hl:cs.length=1):∃ a:List yH,(p22 (ZW W) cs a)/\(a.length<=9223372036854775807/\∀ x∈a,kd126 x):=by
 obtain⟨ao,cap,l,rfl,hz,hL⟩:=gl (Pr:=fun r x=>(kB (ZW W) r x)/\(kd126 x)) (sz:=4) Tryz.underlying22 (fun _ _ _=>z1kL) h
 unfold maxLen at hL
 exact⟨l,⟨ao,cap,rfl,hz.weak (fun _ _ h=>h.1)⟩,⟨by omega,hz.all (q:=fun x=>kd126 x) (fun _ _ h=>h.2)⟩⟩
theorem zLZ (h:DataW.trod enc Tryz.prog W 0 kA vw n 66 cs=some y) (hl:cs.length=3):∃ a:yG,(cs=dJ a)/\(True):=by
 obtain⟨y0,m0,h0⟩:=xY 0 Tryz.underlying66 h
 try dsimp only at h0
 rw[cl_9] at h0
 obtain⟨a0,r0,k0⟩:=el_9 h0 (by simp[hl])
 obtain⟨y1,m1,h1⟩:=xY 1 Tryz.underlying66 h
 try dsimp only at h1
 rw[cl_9] at h1
 obtain⟨a1,r1,k1⟩:=el_9 h1 (by simp[hl])
 obtain⟨y2,m2,h2⟩:=xY 2 Tryz.underlying66 h
 try dsimp only at h2
 rw[cl_9] at h2
 obtain⟨a2,r2,k2⟩:=el_9 h2 (by simp[hl])
 obtain⟨u0,u1,u2,rfl⟩:∃ u0 u1 u2,cs=[u0,u1,u2]:=by match cs,hl with | [u0,u1,u2],_=>exact⟨_,_,_,rfl⟩
 simp[e9] at r0
 simp[e9] at r1
 simp[e9] at r2
 exact⟨⟨a0,a1,a2⟩,by simp[dJ, *],trivial⟩
theorem zX7 (h:DataW.trod enc Tryz.prog W 0 kA vw n 67 cs=some y) (hl:cs.length=1):∃ a:List yG,(p67 (ZW W) cs a)/\(a.length<=9223372036854775807):=by
 obtain⟨ao,cap,l,rfl,hz,hL⟩:=gl (Pr:=fun r x=>(r=dJ x)/\(True)) (sz:=3) Tryz.underlying67 (fun _ _ _=>zLZ) h
 unfold maxLen at hL
 exact⟨l,⟨ao,cap,rfl,hz.weak (fun _ _ h=>h.1)⟩,by omega⟩
theorem z1kN (h:DataW.trod enc Tryz.prog W 0 kA vw n 369 cs=some y) (hl:cs.length=4):∃ a:yS,(g8 (ZW W) cs a)/\(kd369 a):=by
 obtain⟨y0,m0,h0⟩:=xY 0 Tryz.underlying369 h
 try dsimp only at h0
 rw[zX4] at h0
 obtain⟨a0,r0,k0⟩:=zLZ h0 (by simp[hl])
 obtain⟨y1,m1,h1⟩:=xY 1 Tryz.underlying369 h
 try dsimp only at h1
 rw[zX5] at h1
 obtain⟨a1,r1,k1⟩:=zX7 h1 (by simp[hl])
 obtain⟨u0,u1,u2,u3,rfl⟩:∃ u0 u1 u2 u3,cs=[u0,u1,u2,u3]:=by match cs,hl with | [u0,u1,u2,u3],_=>exact⟨_,_,_,_,rfl⟩
 simp[dJ] at r0
 obtain⟨Az,AA,r1,BX⟩:=r1
 simp at r1
 refine⟨⟨a0,a1⟩,⟨Az,AA,by simp[*],BX⟩,k1⟩
theorem z1kO (h:DataW.trod enc Tryz.prog W 0 kA vw n 23 cs=some y) (hl:cs.length=1):∃ a:List yS,(p23 (ZW W) cs a)/\(a.length<=9223372036854775807/\∀ x∈a,kd369 x):=by
 obtain⟨ao,cap,l,rfl,hz,hL⟩:=gl (Pr:=fun r x=>(g8 (ZW W) r x)/\(kd369 x)) (sz:=4) Tryz.underlying23 (fun _ _ _=>z1kN) h
 unfold maxLen at hL
 exact⟨l,⟨ao,cap,rfl,hz.weak (fun _ _ h=>h.1)⟩,⟨by omega,hz.all (q:=fun x=>kd369 x) (fun _ _ h=>h.2)⟩⟩
theorem z1kP (h:DataW.trod enc Tryz.prog W 0 kA vw n 64 cs=some y) (hl:cs.length=4):∃ a:yw,(cs=kr a)/\(kd64 a):=by
 obtain⟨y0,m0,h0⟩:=xY 0 Tryz.underlying64 h
 try dsimp only at h0
 rw[cl_9] at h0
 obtain⟨a0,r0,k0⟩:=el_9 h0 (by simp[hl])
 obtain⟨y1,m1,h1⟩:=xY 1 Tryz.underlying64 h
 try dsimp only at h1
 rw[cl_3] at h1
 obtain⟨a1,r1,k1⟩:=el_3 h1 (by simp[hl])
 obtain⟨y2,m2,h2⟩:=xY 2 Tryz.underlying64 h
 try dsimp only at h2
 rw[cl_3] at h2
 obtain⟨a2,r2,k2⟩:=el_3 h2 (by simp[hl])
 obtain⟨y3,m3,h3⟩:=xY 3 Tryz.underlying64 h
 try dsimp only at h3
 rw[cl_3] at h3
 obtain⟨a3,r3,k3⟩:=el_3 h3 (by simp[hl])
 obtain⟨u0,u1,u2,u3,rfl⟩:∃ u0 u1 u2 u3,cs=[u0,u1,u2,u3]:=by match cs,hl with | [u0,u1,u2,u3],_=>exact⟨_,_,_,_,rfl⟩
 simp[e9] at r0
 simp[e3] at r1
 simp[e3] at r2
 simp[e3] at r3
 exact⟨⟨a0,a1,a2,a3⟩,by simp[kr, *],⟨k1,k2,k3⟩⟩
theorem z1kQ (h:DataW.trod enc Tryz.prog W 0 kA vw n 24 cs=some y) (hl:cs.length=1):∃ a:List yw,(p24 (ZW W) cs a)/\(a.length<=9223372036854775807/\∀ x∈a,kd64 x):=by
 obtain⟨ao,cap,l,rfl,hz,hL⟩:=gl (Pr:=fun r x=>(r=kr x)/\(kd64 x)) (sz:=4) Tryz.underlying24 (fun _ _ _=>z1kP) h
 unfold maxLen at hL
 exact⟨l,⟨ao,cap,rfl,hz.weak (fun _ _ h=>h.1)⟩,⟨by omega,hz.all (q:=fun x=>kd64 x) (fun _ _ h=>h.2)⟩⟩
theorem z1kR (h:DataW.trod enc Tryz.prog W 0 kA vw n 62 cs=some y) (hl:cs.length=4):∃ a:yL,(cs=gH a)/\(kd62 a):=by
 obtain⟨y0,m0,h0⟩:=xY 0 Tryz.underlying62 h
 try dsimp only at h0
 rw[cl_9] at h0
 obtain⟨a0,r0,k0⟩:=el_9 h0 (by simp[hl])
 obtain⟨y1,m1,h1⟩:=xY 1 Tryz.underlying62 h
 try dsimp only at h1
 rw[cl_9] at h1
 obtain⟨a1,r1,k1⟩:=el_9 h1 (by simp[hl])
 obtain⟨y2,m2,h2⟩:=xY 2 Tryz.underlying62 h
 try dsimp only at h2
 rw[cl_3] at h2
 obtain⟨a2,r2,k2⟩:=el_3 h2 (by simp[hl])
 obtain⟨y3,m3,h3⟩:=xY 3 Tryz.underlying62 h
 try dsimp only at h3
 rw[cl_3] at h3
 obtain⟨a3,r3,k3⟩:=el_3 h3 (by simp[hl])
 obtain⟨u0,u1,u2,u3,rfl⟩:∃ u0 u1 u2 u3,cs=[u0,u1,u2,u3]:=by match cs,hl with | [u0,u1,u2,u3],_=>exact⟨_,_,_,_,rfl⟩
 simp[e9] at r0
 simp[e9] at r1
 simp[e3] at r2
 simp[e3] at r3
 exact⟨⟨a0,a1,a2,a3⟩,by simp[gH, *],⟨k2,k3⟩⟩
theorem z1kS (h:DataW.trod enc Tryz.prog W 0 kA vw n 25 cs=some y) (hl:cs.length=1):∃ a:List yL,(p25 (ZW W) cs a)/\(a.length<=9223372036854775807/\∀ x∈a,kd62 x):=by
 obtain⟨ao,cap,l,rfl,hz,hL⟩:=gl (Pr:=fun r x=>(r=gH x)/\(kd62 x)) (sz:=4) Tryz.underlying25 (fun _ _ _=>z1kR) h
 unfold maxLen at hL
 exact⟨l,⟨ao,cap,rfl,hz.weak (fun _ _ h=>h.1)⟩,⟨by omega,hz.all (q:=fun x=>kd62 x) (fun _ _ h=>h.2)⟩⟩
theorem z1kT (h:DataW.trod enc Tryz.prog W 0 kA vw n 69 cs=some y) (hl:cs.length=7):∃ a:yy,(g7 (ZW W) cs a)/\(kd69 a):=by
 obtain⟨y0,m0,h0⟩:=xY 0 Tryz.underlying69 h
 try dsimp only at h0
 rw[cl_9] at h0
 obtain⟨a0,r0,k0⟩:=el_9 h0 (by simp[hl])
 obtain⟨y1,m1,h1⟩:=xY 1 Tryz.underlying69 h
 try dsimp only at h1
 rw[zX4] at h1
 obtain⟨a1,r1,k1⟩:=zLZ h1 (by simp[hl])
 obtain⟨y2,m2,h2⟩:=xY 2 Tryz.underlying69 h
 try dsimp only at h2
 rw[cl_3] at h2
 obtain⟨a2,r2,k2⟩:=el_3 h2 (by simp[hl])
 obtain⟨y3,m3,h3⟩:=xY 3 Tryz.underlying69 h
 try dsimp only at h3
 rw[cl_3] at h3
 obtain⟨a3,r3,k3⟩:=el_3 h3 (by simp[hl])
 obtain⟨y4,m4,h4⟩:=xY 4 Tryz.underlying69 h
 try dsimp only at h4
 rw[zX5] at h4
 obtain⟨a4,r4,k4⟩:=zX7 h4 (by simp[hl])
 obtain⟨u0,u1,u2,u3,u4,u5,u6,rfl⟩:∃ u0 u1 u2 u3 u4 u5 u6,cs=[u0,u1,u2,u3,u4,u5,u6]:=by match cs,hl with | [u0,u1,u2,u3,u4,u5,u6],_=>exact⟨_,_,_,_,_,_,_,rfl⟩
 simp[e9] at r0
 simp[dJ] at r1
 simp[e3] at r2
 simp[e3] at r3
 obtain⟨zH,zI,r4,AV⟩:=r4
 simp at r4
 refine⟨⟨a0,a1,a2,a3,a4⟩,⟨zH,zI,by simp[*],AV⟩,⟨k2,k3,k4⟩⟩
theorem z1kU (h:DataW.trod enc Tryz.prog W 0 kA vw n 26 cs=some y) (hl:cs.length=1):∃ a:List yy,(p26 (ZW W) cs a)/\(a.length<=9223372036854775807/\∀ x∈a,kd69 x):=by
 obtain⟨ao,cap,l,rfl,hz,hL⟩:=gl (Pr:=fun r x=>(g7 (ZW W) r x)/\(kd69 x)) (sz:=7) Tryz.underlying26 (fun _ _ _=>z1kT) h
 unfold maxLen at hL
 exact⟨l,⟨ao,cap,rfl,hz.weak (fun _ _ h=>h.1)⟩,⟨by omega,hz.all (q:=fun x=>kd69 x) (fun _ _ h=>h.2)⟩⟩
theorem z1kV (h:DataW.trod enc Tryz.prog W 0 kA vw n 371 cs=some y) (hl:cs.length=5):∃ a:yW,(cs=gf a)/\(kd371 a):=by
 obtain⟨y0,m0,h0⟩:=xY 0 Tryz.underlying371 h
 try dsimp only at h0
 rw[cl_9] at h0
 obtain⟨a0,r0,k0⟩:=el_9 h0 (by simp[hl])
 obtain⟨y1,m1,h1⟩:=xY 1 Tryz.underlying371 h
 try dsimp only at h1
 rw[cl_9] at h1
 obtain⟨a1,r1,k1⟩:=el_9 h1 (by simp[hl])
 obtain⟨y2,m2,h2⟩:=xY 2 Tryz.underlying371 h
 try dsimp only at h2
 rw[cl_5] at h2
 obtain⟨a2,r2,k2⟩:=el_5 h2 (by simp[hl])
 obtain⟨y3,m3,h3⟩:=xY 3 Tryz.underlying371 h
 try dsimp only at h3
 rw[cl_5] at h3
 obtain⟨a3,r3,k3⟩:=el_5 h3 (by simp[hl])
 obtain⟨y4,m4,h4⟩:=xY 4 Tryz.underlying371 h
 try dsimp only at h4
 rw[cl_5] at h4
 obtain⟨a4,r4,k4⟩:=el_5 h4 (by simp[hl])
 obtain⟨u0,u1,u2,u3,u4,rfl⟩:∃ u0 u1 u2 u3 u4,cs=[u0,u1,u2,u3,u4]:=by match cs,hl with | [u0,u1,u2,u3,u4],_=>exact⟨_,_,_,_,_,rfl⟩
 simp[e9] at r0
 simp[e9] at r1
 simp[e5] at r2
 simp[e5] at r3
 simp[e5] at r4
 exact⟨⟨a0,a1,a2,a3,a4⟩,by simp[gf, *],⟨k2,k3,k4⟩⟩
theorem z1kW (h:DataW.trod enc Tryz.prog W 0 kA vw n 27 cs=some y) (hl:cs.length=1):∃ a:List yW,(p27 (ZW W) cs a)/\(a.length<=9223372036854775807/\∀ x∈a,kd371 x):=by
 obtain⟨ao,cap,l,rfl,hz,hL⟩:=gl (Pr:=fun r x=>(r=gf x)/\(kd371 x)) (sz:=5) Tryz.underlying27 (fun _ _ _=>z1kV) h
 unfold maxLen at hL
 exact⟨l,⟨ao,cap,rfl,hz.weak (fun _ _ h=>h.1)⟩,⟨by omega,hz.all (q:=fun x=>kd371 x) (fun _ _ h=>h.2)⟩⟩
theorem z1kX (h:DataW.trod enc Tryz.prog W 0 kA vw n 385 cs=some y) (hl:cs.length=2):∃ a:yX,(cs=QW a)/\(kd385 a):=by
 obtain⟨y0,m0,h0⟩:=xY 0 Tryz.underlying385 h
 try dsimp only at h0
 rw[cl_9] at h0
 obtain⟨a0,r0,k0⟩:=el_9 h0 (by simp[hl])
 obtain⟨y1,m1,h1⟩:=xY 1 Tryz.underlying385 h
 try dsimp only at h1
 rw[cl_3] at h1
 obtain⟨a1,r1,k1⟩:=el_3 h1 (by simp[hl])
 obtain⟨u0,u1,rfl⟩:∃ u0 u1,cs=[u0,u1]:=by match cs,hl with | [u0,u1],_=>exact⟨_,_,rfl⟩
 simp[e9] at r0
 simp[e3] at r1
 exact⟨⟨a0,a1⟩,by simp[QW, *],k1⟩
theorem z1kY (h:DataW.trod enc Tryz.prog W 0 kA vw n 372 cs=some y) (hl:cs.length=1):∃ a:List yX,(p372 (ZW W) cs a)/\(a.length<=9223372036854775807/\∀ x∈a,kd385 x):=by
 obtain⟨ao,cap,l,rfl,hz,hL⟩:=gl (Pr:=fun r x=>(r=QW x)/\(kd385 x)) (sz:=2) Tryz.underlying372 (fun _ _ _=>z1kX) h
 unfold maxLen at hL
 exact⟨l,⟨ao,cap,rfl,hz.weak (fun _ _ h=>h.1)⟩,⟨by omega,hz.all (q:=fun x=>kd385 x) (fun _ _ h=>h.2)⟩⟩
theorem z1kZ (h:DataW.trod enc Tryz.prog W 0 kA vw n 373 cs=some y) (hl:cs.length=1):∃ a:List ByteArray,(p373 (ZW W) cs a)/\(a.length<=9223372036854775807):=by
 obtain⟨ao,cap,l,rfl,hz,hL⟩:=gl (Pr:=fun r x=>(r=e9 x)/\(True)) (sz:=1) Tryz.underlying373 (fun _ _ _=>el_9) h
 unfold maxLen at hL
 exact⟨l,⟨ao,cap,rfl,hz.weak (fun _ _ h=>h.1)⟩,by omega⟩
theorem z1l0 (h:DataW.trod enc Tryz.prog W 0 kA vw n 375 cs=some y) (hl:cs.length=3):∃ a:yU,(g9 (ZW W) cs a)/\(kd375 a):=by
 obtain⟨y0,m0,h0⟩:=xY 0 Tryz.underlying375 h
 try dsimp only at h0
 rw[cl_9] at h0
 obtain⟨a0,r0,k0⟩:=el_9 h0 (by simp[hl])
 obtain⟨y1,m1,h1⟩:=xY 1 Tryz.underlying375 h
 try dsimp only at h1
 rw[z1ky] at h1
 obtain⟨a1,r1,k1⟩:=z1kY h1 (by simp[hl])
 obtain⟨y2,m2,h2⟩:=xY 2 Tryz.underlying375 h
 try dsimp only at h2
 rw[z1kz] at h2
 obtain⟨a2,r2,k2⟩:=z1kZ h2 (by simp[hl])
 obtain⟨u0,u1,u2,rfl⟩:∃ u0 u1 u2,cs=[u0,u1,u2]:=by match cs,hl with | [u0,u1,u2],_=>exact⟨_,_,_,rfl⟩
 simp[e9] at r0
 obtain⟨Az,AA,r1,BX⟩:=r1
 simp at r1
 obtain⟨BY,B0,r2,D3⟩:=r2
 simp at r2
 refine⟨⟨a0,a1,a2⟩,⟨Az,AA,BY,B0,by simp[*],BX,D3⟩,⟨k1,k2⟩⟩
theorem z1l1 (h:DataW.trod enc Tryz.prog W 0 kA vw n 28 cs=some y) (hl:cs.length=1):∃ a:List yU,(p28 (ZW W) cs a)/\(a.length<=9223372036854775807/\∀ x∈a,kd375 x):=by
 obtain⟨ao,cap,l,rfl,hz,hL⟩:=gl (Pr:=fun r x=>(g9 (ZW W) r x)/\(kd375 x)) (sz:=3) Tryz.underlying28 (fun _ _ _=>z1l0) h
 unfold maxLen at hL
 exact⟨l,⟨ao,cap,rfl,hz.weak (fun _ _ h=>h.1)⟩,⟨by omega,hz.all (q:=fun x=>kd375 x) (fun _ _ h=>h.2)⟩⟩
theorem z1l2 (h:DataW.trod enc Tryz.prog W 0 kA vw n 377 cs=some y) (hl:cs.length=4):∃ a:yT,(cs=gg a)/\(kd377 a):=by
 obtain⟨y0,m0,h0⟩:=xY 0 Tryz.underlying377 h
 try dsimp only at h0
 rw[cl_9] at h0
 obtain⟨a0,r0,k0⟩:=el_9 h0 (by simp[hl])
 obtain⟨y1,m1,h1⟩:=xY 1 Tryz.underlying377 h
 try dsimp only at h1
 rw[cl_3] at h1
 obtain⟨a1,r1,k1⟩:=el_3 h1 (by simp[hl])
 obtain⟨y2,m2,h2⟩:=xY 2 Tryz.underlying377 h
 try dsimp only at h2
 rw[cl_9] at h2
 obtain⟨a2,r2,k2⟩:=el_9 h2 (by simp[hl])
 obtain⟨y3,m3,h3⟩:=xY 3 Tryz.underlying377 h
 try dsimp only at h3
 rw[cl_3] at h3
 obtain⟨a3,r3,k3⟩:=el_3 h3 (by simp[hl])
 obtain⟨u0,u1,u2,u3,rfl⟩:∃ u0 u1 u2 u3,cs=[u0,u1,u2,u3]:=by match cs,hl with | [u0,u1,u2,u3],_=>exact⟨_,_,_,_,rfl⟩
 simp[e9] at r0
 simp[e3] at r1
 simp[e9] at r2
 simp[e3] at r3
 exact⟨⟨a0,a1,a2,a3⟩,by simp[gg, *],⟨k1,k3⟩⟩
theorem z1l3 (h:DataW.trod enc Tryz.prog W 0 kA vw n 29 cs=some y) (hl:cs.length=1):∃ a:List yT,(p29 (ZW W) cs a)/\(a.length<=9223372036854775807/\∀ x∈a,kd377 x):=by
 obtain⟨ao,cap,l,rfl,hz,hL⟩:=gl (Pr:=fun r x=>(r=gg x)/\(kd377 x)) (sz:=4) Tryz.underlying29 (fun _ _ _=>z1l2) h
 unfold maxLen at hL
 exact⟨l,⟨ao,cap,rfl,hz.weak (fun _ _ h=>h.1)⟩,⟨by omega,hz.all (q:=fun x=>kd377 x) (fun _ _ h=>h.2)⟩⟩
theorem z1l4 (h:DataW.trod enc Tryz.prog W 0 kA vw n 31 cs=some y) (hl:cs.length=8):∃ a:zy,(p31 (ZW W) cs a)/\(kd31 a):=by
 obtain⟨y0,m0,h0⟩:=xY 0 Tryz.underlying31 h
 try dsimp only at h0
 rw[z1kp] at h0
 obtain⟨a0,r0,k0⟩:=z1kM h0 (by simp[hl])
 obtain⟨y1,m1,h1⟩:=xY 1 Tryz.underlying31 h
 try dsimp only at h1
 rw[z1kq] at h1
 obtain⟨a1,r1,k1⟩:=z1kO h1 (by simp[hl])
 obtain⟨y2,m2,h2⟩:=xY 2 Tryz.underlying31 h
 try dsimp only at h2
 rw[z1kr] at h2
 obtain⟨a2,r2,k2⟩:=z1kQ h2 (by simp[hl])
 obtain⟨y3,m3,h3⟩:=xY 3 Tryz.underlying31 h
 try dsimp only at h3
 rw[z1ks] at h3
 obtain⟨a3,r3,k3⟩:=z1kS h3 (by simp[hl])
 obtain⟨y4,m4,h4⟩:=xY 4 Tryz.underlying31 h
 try dsimp only at h4
 rw[z1kt] at h4
 obtain⟨a4,r4,k4⟩:=z1kU h4 (by simp[hl])
 obtain⟨y5,m5,h5⟩:=xY 5 Tryz.underlying31 h
 try dsimp only at h5
 rw[z1ku] at h5
 obtain⟨a5,r5,k5⟩:=z1kW h5 (by simp[hl])
 obtain⟨y6,m6,h6⟩:=xY 6 Tryz.underlying31 h
 try dsimp only at h6
 rw[z1kv] at h6
 obtain⟨a6,r6,k6⟩:=z1l1 h6 (by simp[hl])
 obtain⟨y7,m7,h7⟩:=xY 7 Tryz.underlying31 h
 try dsimp only at h7
 rw[z1kw] at h7
 obtain⟨a7,r7,k7⟩:=z1l3 h7 (by simp[hl])
 obtain⟨u0,u1,u2,u3,u4,u5,u6,u7,rfl⟩:∃ u0 u1 u2 u3 u4 u5 u6 u7,cs=[u0,u1,u2,u3,u4,u5,u6,u7]:=by match cs,hl with | [u0,u1,u2,u3,u4,u5,u6,u7],_=>exact⟨_,_,_,_,_,_,_,_,rfl⟩
 obtain⟨B3,B4,r0,D4⟩:=r0
 simp at r0
 obtain⟨Az,AA,r1,BX⟩:=r1
 simp at r1
 obtain⟨BY,B0,r2,D3⟩:=r2
 simp at r2
 obtain⟨BV,BW,r3,D2⟩:=r3
 simp at r3
 obtain⟨zH,zI,r4,AV⟩:=r4
 simp at r4
 obtain⟨Hn,Hq,r5,z5x0⟩:=r5
 simp at r5
 obtain⟨Hr,Hs,r6,z6x0⟩:=r6
 simp at r6
 obtain⟨BT,BU,r7,D1⟩:=r7
 simp at r7
 refine⟨⟨a0,a1,a2,a3,a4,a5,a6,a7⟩,⟨B3,B4,Az,AA,BY,B0,BV,BW,zH,zI,Hn,Hq,Hr,Hs,BT,BU,by simp[*],D4,BX,D3,D2,AV,z5x0,z6x0,D1⟩,⟨k0,k1,k2,k3,k4,k5,k6,k7⟩⟩
theorem z1l5 (h:DataW.trod enc Tryz.prog W 0 kA vw n 60 cs=some y) (hl:cs.length=3):∃ a:zd,(cs=mQ a)/\(kd60 a):=by
 obtain⟨y0,m0,h0⟩:=xY 0 Tryz.underlying60 h
 try dsimp only at h0
 rw[cl_3] at h0
 obtain⟨a0,r0,k0⟩:=el_3 h0 (by simp[hl])
 obtain⟨y1,m1,h1⟩:=xY 1 Tryz.underlying60 h
 try dsimp only at h1
 rw[cl_3] at h1
 obtain⟨a1,r1,k1⟩:=el_3 h1 (by simp[hl])
 obtain⟨y2,m2,h2⟩:=xY 2 Tryz.underlying60 h
 try dsimp only at h2
 rw[cl_3] at h2
 obtain⟨a2,r2,k2⟩:=el_3 h2 (by simp[hl])
 obtain⟨u0,u1,u2,rfl⟩:∃ u0 u1 u2,cs=[u0,u1,u2]:=by match cs,hl with | [u0,u1,u2],_=>exact⟨_,_,_,rfl⟩
 simp[e3] at r0
 simp[e3] at r1
 simp[e3] at r2
 exact⟨⟨a0,a1,a2⟩,by simp[mQ, *],⟨k0,k1,k2⟩⟩
theorem z1l6 (h:DataW.trod enc Tryz.prog W 0 kA vw n 58 cs=some y) (hl:cs.length=1):∃ a:List zd,(fm (ZW W) cs a)/\(a.length<=9223372036854775807/\∀ x∈a,kd60 x):=by
 obtain⟨ao,cap,l,rfl,hz,hL⟩:=gl (Pr:=fun r x=>(r=mQ x)/\(kd60 x)) (sz:=3) Tryz.underlying58 (fun _ _ _=>z1l5) h
 unfold maxLen at hL
 exact⟨l,⟨ao,cap,rfl,hz.weak (fun _ _ h=>h.1)⟩,⟨by omega,hz.all (q:=fun x=>kd60 x) (fun _ _ h=>h.2)⟩⟩
theorem z1l7 (h:DataW.trod enc Tryz.prog W 0 kA vw n 127 cs=some y) (hl:cs.length=1):∃ a:Int,(cs=V3 a)/\(0<=a/\a<=65535):=by
 obtain⟨a,rfl,-,wf⟩:=DataW.trod_int Tryz.underlying127 h
 exact⟨a,rfl,Go.bounds_u16 wf⟩
end
theorem own:ownKnob Tryz.prog.godebug=none:=by kernel_rfl
theorem laid:laidOutB Tryz.prog=true:=by kernel_rfl
set_option maxRecDepth 100000 in
theorem lifted (os:Os) (Ak:os.Started) (H:Type) (enc:TypeId×Value->H):
  ReturnsInHanded {} Tryz.checked os 8 .any (Rows.holisticHoldsSpec.pre6 enc Tryz.prog Tryz.f8 Rows.holisticHoldsRow.domain false) (Rows.holisticHoldsSpec.post enc Tryz.prog Tryz.f8 false true false false):=by
 refine returnsInHanded_of_change (C:=Tryz.checked) own Ak (by kernel_rfl) Tryz.func8
  (ChangeSpec.witness6 (enc:=enc) (C:=Tryz.checked) false ⟨#[],#[(.agg #[.slice none 0 0,.slice none 0 0,.slice none 0 0,.slice none 0 0,.slice none 0 0,.slice none 0 0,.slice none 0 0,.slice none 0 0]),.int .i64 0,.slice none 0 0,.slice none 0 0,.slice none 0 0,.slice none 0 0],[]⟩ 8 (by kernel_rfl) (by kernel_rfl) (by kernel_rfl) (by kernel_rfl)) ?_
 intro W base args ds gs zk Ht hW hcnd _
 have Aj:∀(j:Nat) t v,Tryz.f8.params[j]?=some t->args[j]?=some v->Value.okWide Tryz.prog W .any base t v:=Ht
 have Ea:=hW
 obtain⟨p,q,hA0,hV,rfl,hfz,BB⟩:=hW
 have hA:DataW.TrodAll enc Tryz.prog W 0 (fun _=>true) true Tryz.f8.params.toList args.toList ds p:=hA0
 rw[Tryz.params8] at hA Aj
 obtain⟨v0,vs0,d0,ds0,p0,q0,hargs,rfl,rfl,h0,r0⟩:=trodAll_cons hA
 obtain⟨v1,vs1,d1,ds1,p1,q1,rfl,rfl,rfl,h1,r1⟩:=trodAll_cons r0
 obtain⟨v2,vs2,d2,ds2,p2,q2,rfl,rfl,rfl,h2,r2⟩:=trodAll_cons r1
 obtain⟨v3,vs3,d3,ds3,p3,q3,rfl,rfl,rfl,h3,r3⟩:=trodAll_cons r2
 obtain⟨v4,vs4,d4,ds4,p4,q4,rfl,rfl,rfl,h4,r4⟩:=trodAll_cons r3
 obtain⟨v5,vs5,d5,ds5,p5,q5,rfl,rfl,rfl,h5,r5⟩:=trodAll_cons r4
 obtain⟨rfl,rfl,rfl⟩:=trodAll_nil r5
 obtain rfl:args = #[v0,v1,v2,v3,v4,v5]:=by cases args;simp_all
 obtain⟨rfl,rfl⟩:=trodVars_none hV
 obtain⟨fuel0,hf0⟩:=h0
 obtain⟨cs0,rfl,EE,hg0⟩:=Tm (Aj 0 31 v0 rfl rfl) hf0 Tryz.underlying31 (show Tryz.prog.cellsOf 31=8 by kernel_rfl)
 obtain⟨x0,hr0,bd0⟩:=z1l4 hg0 EE
 obtain⟨B3,B4,Hu,Hv,Hw,Hx,Hy,Hz,HA,HE,HG,HH,HJ,HK,HL,HM,rfl,D4,z0x1,z0x2,z0x3,z0x4,z0x5,z0x6,z0x7⟩:=hr0
 obtain⟨x1,rfl,hd1,zz,wf1⟩:=open_int Tryz.underlying3 (Aj 1 3 v1 rfl rfl) h1
 have bd1:=Go.bounds_i64 wf1
 obtain⟨CA,m2,Ah,x2,rfl,hs2,hL2⟩:=Yp (Pr:=fun r x=>(fm (ZW W) r x)/\(x.length<=9223372036854775807/\∀ y∈x,kd60 y)) (sz:=1) Tryz.underlying32 (fun _ _ _=>z1l6) (Aj 2 32 v2 rfl rfl) h2
 unfold maxLen at hL2
 obtain⟨rfl,Bt⟩:=ig hs2
 have bd2:=Bt.all (q:=fun x=>x.length<=9223372036854775807/\∀ y∈x,kd60 y) (fun _ _ h=>h.2)
 replace Bt:=Bt.weak (Pr':=(fm (ZW W))) (fun _ _ h=>h.1)
 obtain⟨CB,m3,Ai,x3,rfl,hs3,hL3⟩:=Yp (Pr:=fun r x=>(r=e5 x)/\(0<=x/\x<=255)) (sz:=1) Tryz.underlying75 (fun _ _ _=>el_5) (Aj 3 75 v3 rfl rfl) h3
 unfold maxLen at hL3
 obtain⟨rfl,Dj⟩:=ig hs3
 have bd3:=Dj.all (q:=fun x=>0<=x/\x<=255) (fun _ _ h=>h.2)
 replace Dj:=Dj.weak (Pr':=(fun r x=>r=e5 x)) (fun _ _ h=>h.1)
 obtain⟨ao4,m4,CQ,x4,rfl,hs4,hL4⟩:=Yp (Pr:=fun r x=>(r=e5 x)/\(0<=x/\x<=255)) (sz:=1) Tryz.underlying75 (fun _ _ _=>el_5) (Aj 4 75 v4 rfl rfl) h4
 unfold maxLen at hL4
 obtain⟨rfl,hz4⟩:=ig hs4
 have bd4:=hz4.all (q:=fun x=>0<=x/\x<=255) (fun _ _ h=>h.2)
 replace hz4:=hz4.weak (Pr':=(fun r x=>r=e5 x)) (fun _ _ h=>h.1)
 obtain⟨ao5,m5,CT,x5,rfl,hs5,hL5⟩:=Yp (Pr:=fun r x=>(r=V3 x)/\(0<=x/\x<=65535)) (sz:=1) Tryz.underlying76 (fun _ _ _=>z1l7) (Aj 5 76 v5 rfl rfl) h5
 unfold maxLen at hL5
 obtain⟨rfl,hz5⟩:=ig hs5
 have bd5:=hz5.all (q:=fun x=>0<=x/\x<=65535) (fun _ _ h=>h.2)
 replace hz5:=hz5.weak (Pr':=(fun r x=>r=V3 x)) (fun _ _ h=>h.1)
 have HN:=law x0 x1 x2 x3 x4 x5 bd3 bd4 bd5
 refine(eE (Z:=ZW W) (zaQ:=B3) (zaR:=B4) (zaS:=Hu) (zaT:=Hv) (zlR:=Hw) (zlS:=Hx) (zaU:=Hy) (zaV:=Hz) (zaW:=HA) (zaX:=HE) (zaY:=HG) (zaZ:=HH) (zb0:=HJ) (zb1:=HK) (zb2:=HL) (zb3:=HM) (zlT:=CA) (zlU:=Ah) (zLQ:=CB) (zLR:=Ai) (zLS:=ao4) (zLT:=CQ) (zLU:=ao5) (zLV:=CT) (zm:=x0) (zc2:=x1) (za3:=x2) (ztH:=x3) (ztI:=x4) (ztJ:=x5) (r:=true) HN (ZW_pz W) D4 z0x1 z0x2 z0x3 z0x4 z0x5 z0x6 z0x7 Bt Dj hz4 hz5).mono fun e W' ⟨he,hh⟩=>?_
 subst he
 exact⟨_,rfl,F8 laid (by kernel_rfl) rfl rfl Tryz.underlying4 Ea (fun _=>⟨rfl,rfl,rfl⟩) hh.below⟩
theorem jand {a b:Bool} (h:a=true) (k:b=true):(a&&b)=true:=by rw[h,k];rfl
theorem jf0:(Rows.holisticHoldsRow.wf (OpenSpec.ofChange Rows.holisticHoldsSpec))=true:=by kernel_rfl
theorem jf1:(laidOutB Tryz.pinned.checked.prog)=true:=by kernel_rfl
theorem jf2:(mapsRowed Tryz.pinned.checked.prog)=true:=by kernel_rfl
theorem jf3:(Tryz.f8.params.all (Tryz.pinned.checked.prog.readableRec ·))=true:=by kernel_rfl
theorem jf4:(namedTie Tryz.pinned.checked.prog Rows.holisticHoldsRow.named Rows.holisticHoldsSpec.vars)=true:=by kernel_rfl
theorem jf5:((Rows.holisticHoldsRow.stops == []))=true:=by kernel_rfl
theorem jf6:((Tryz.pinned.checked.prog.stops == []))=true:=by kernel_rfl
theorem jf7:((Rows.holisticHoldsRow.knobs == []))=true:=by kernel_rfl
theorem jf8:((Tryz.pinned.checked.prog.stopKnobs == []))=true:=by kernel_rfl
theorem jf9:((Rows.holisticHoldsRow.inPlace == Tryz.pinned.checked.prog.inPlace 8))=true:=by kernel_rfl
theorem jf10:((Rows.holisticHoldsRow.unfollowed == Tryz.pinned.checked.prog.unfollowed 8))=true:=by kernel_rfl
theorem jf11:((Rows.holisticHoldsRow.recurses == Tryz.pinned.checked.prog.recurses 8))=true:=by kernel_rfl
theorem jf12:((Rows.holisticHoldsRow.named == Tryz.pinned.checked.prog.varsNamed 8))=true:=by kernel_rfl
theorem jf13:((Rows.holisticHoldsRow.maps == (Tryz.f8.params.toList++Rows.holisticHoldsSpec.plain.varTypes Tryz.pinned.checked.prog).any (Tryz.pinned.checked.prog.mapsRec ·)))=true:=by kernel_rfl
theorem jf14:((Rows.holisticHoldsRow.ifaces == (Tryz.f8.params.toList++Rows.holisticHoldsSpec.plain.varTypes Tryz.pinned.checked.prog).any (Tryz.pinned.checked.prog.ifacesRec ·)))=true:=by kernel_rfl
theorem jf15:((Rows.holisticHoldsRow.mapsOut == Tryz.pinned.checked.prog.mapsAmong Tryz.f8.resultTypes.toList))=true:=by kernel_rfl
theorem jf16:((Rows.holisticHoldsRow.loops == (Tryz.f8.params.toList++Rows.holisticHoldsSpec.plain.varTypes Tryz.pinned.checked.prog).any (Tryz.pinned.checked.prog.loopsFrom ·)))=true:=by kernel_rfl
theorem jf17:((Rows.holisticHoldsRow.wideKeys == (Tryz.f8.params.toList++Rows.holisticHoldsSpec.plain.varTypes Tryz.pinned.checked.prog++Tryz.f8.resultTypes.toList).any (Tryz.pinned.checked.prog.wideKeysFrom ·)))=true:=by kernel_rfl
theorem jf18:(Rows.holisticHoldsSpec.vars.all (Tryz.pinned.checked.prog.varReadable ·))=true:=by kernel_rfl
theorem jf19:(Tryz.f8.resultTypes.all (fun t=>Tryz.pinned.checked.prog.readableRec t&&decide (t<Tryz.pinned.checked.prog.types.size)))=true:=by kernel_rfl
theorem jf20:((Rows.holisticHoldsRow.ifacesOut == Tryz.f8.resultTypes.toList.any (Tryz.pinned.checked.prog.ifacesRec ·)))=true:=by kernel_rfl
theorem jf21:((Rows.holisticHoldsRow.loopsOut == Tryz.f8.resultTypes.toList.any (Tryz.pinned.checked.prog.loopsFrom ·)))=true:=by kernel_rfl
theorem jf22:((Rows.holisticHoldsRow.plainKeys == Tryz.pinned.checked.prog.plainKeys))=true:=by kernel_rfl
theorem jf23:(Rows.holisticHoldsRow.shortTexts.isNone)=true:=by kernel_rfl
theorem jf24:(Tryz.pinned.checked.prog.stopsHeard)=true:=by kernel_rfl
theorem jf25:(Tryz.pinned.checked.prog.mayEnter)=true:=by kernel_rfl
theorem jf26:((Rows.holisticHoldsRow.lifted == Tryz.pinned.checked.prog.liftsFinal))=true:=by kernel_rfl
theorem jf27:((Tryz.pinned.checked.prog.make == some Rows.holisticHoldsRow.make))=true:=by kernel_rfl
theorem jf28:((Rows.holisticHoldsRow.kinds == (if Rows.holisticHoldsRow.domain.isEmpty then[] else Tryz.f8.params.toList.map fun t=>match Tryz.pinned.checked.prog.underlying t with | some (.int k)=>some k | _=>none)))=true:=by kernel_rfl
theorem jf29:((Rows.holisticHoldsRow.pinned == Rows.holisticHoldsRow.pinnedBy))=true:=by kernel_rfl
theorem jf30:((Rows.holisticHoldsRow.veiled == (Tryz.f8.params.toList++Rows.holisticHoldsSpec.plain.varTypes Tryz.pinned.checked.prog++Tryz.f8.resultTypes.toList).any (Tryz.pinned.checked.prog.veiledRec ·)))=true:=by kernel_rfl
theorem jf31:(Rows.holisticHoldsRow.veiledFits Tryz.pinned.checked.prog Tryz.f8.params.toList (Tryz.f8.params.toList++Rows.holisticHoldsSpec.plain.varTypes Tryz.pinned.checked.prog++Tryz.f8.resultTypes.toList))=true:=by kernel_rfl
set_option maxRecDepth 100000 in
theorem jclosed:joinedFacts Tryz.pinned.checked.prog 8 Tryz.f8 Rows.holisticHoldsSpec Rows.holisticHoldsRow=true:=by
 unfold joinedFacts
 exact(jand (jand (jand (jand (jand (jand (jand (jand (jand (jand (jand (jand (jand (jand (jand (jand (jand (jand (jand (jand (jand (jand (jand (jand (jand (jand (jand (jand (jand (jand (jand jf0 jf1) jf2) jf3) jf4) jf5) jf6) jf7) jf8) jf9) jf10) jf11) jf12) jf13) jf14) jf15) jf16) jf17) jf18) jf19) jf20) jf21) jf22) jf23) jf24) jf25) jf26) jf27) jf28) jf29) jf30) jf31)
theorem over:Rows.holisticHoldsRow.holds Tryz.pinned (OpenSpec.ofChange Rows.holisticHoldsSpec):=
 OpenClaim.holds_of_wide 8 Tryz.f8 rfl rfl rfl rfl rfl rfl rfl ⟨rfl,rfl,rfl,rfl,rfl⟩ rfl rfl rfl rfl rfl (by kernel_rfl) Tryz.func8 jclosed
  (of_decide_eq_true (by kernel_rfl)) (by unfold Func.isWrapper;first | (rw[if_pos (by decide +kernel)];kernel_rfl) | (rw[if_neg (by decide +kernel)];exact⟨rfl,rfl⟩))
  (fun os Ak H enc _=>lifted os Ak H enc)
theorem proved:Rows.HolisticHoldsSaid:=over
#print axioms proved
end Go.Proofs.YthjnhebofpebpaaGreat.holisticHolds
