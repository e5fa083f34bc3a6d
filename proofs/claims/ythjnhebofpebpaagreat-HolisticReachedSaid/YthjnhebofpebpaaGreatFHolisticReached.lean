/-
 Whatever the input, the law HolisticReached of layer 36 returns true, and its arguments read behind the call as before it. No conditions.
-/
import Derived.Test.YthjnhebofpebpaaGreatPHolisticReached
import Derived.Test.YthjnhebofpebpaaGreatZMem
import Derived.Test.YthjnhebofpebpaaGreatRows
set_option linter.all false
namespace Go.Proofs.YthjnhebofpebpaaGreat.holisticReached
open Go.ChangeShapes Go.WideShapes Go.ChangeAt Go.RowKit Sep
def p31 (Z:Zp) (r:List Value) (x:zu):Prop:=∃(im:Option Addr) (eR:Nat) (Bu:Option Addr) (zp:Nat) (CC:Option Addr) (Ah:Nat) (DC:Option Addr) (AN:Nat) (ao4:Option Addr) (Ha:Nat) (ao5:Option Addr) (Hb:Nat) (ao6:Option Addr) (Hc:Nat) (ao7:Option Addr) (Hd:Nat),r=[(.slice im x.fM.length eR),(.slice Bu x.yd.length zp),(.slice CC x.fS.length Ah),(.slice DC x.fK.length AN),(.slice ao4 x.yc.length Ha),(.slice ao5 x.fH.length Hb),(.slice ao6 x.fU.length Hc),(.slice ao7 x.ye.length Hd)]/\ZS Z 4 (kr Z) im eR x.fM/\ZS Z 4 (g5 Z) Bu zp x.yd/\ZS Z 4 (fun r x=>r=ki x) CC Ah x.fS/\ZS Z 4 (fun r x=>r=gg x) DC AN x.fK/\ZS Z 7 (g8 Z) ao4 Ha x.yc/\ZS Z 5 (fun r x=>r=gc x) ao5 Hb x.fH/\ZS Z 3 (g6 Z) ao6 Hc x.fU/\ZS Z 4 (fun r x=>r=ge x) ao7 Hd x.ye
def p22 (Z:Zp) (r:List Value) (x:List yH):Prop:=∃(im:Option Addr) (eR:Nat),r=[(.slice im x.length eR)]/\ZS Z 4 (kr Z) im eR x
def p124 (Z:Zp) (r:List Value) (x:List yY):Prop:=∃(im:Option Addr) (eR:Nat),r=[(.slice im x.length eR)]/\ZS Z 10 (Wz Z) im eR x
def p378 (Z:Zp) (r:List Value) (x:List yZ):Prop:=∃(im:Option Addr) (eR:Nat),r=[(.slice im x.length eR)]/\ZS Z 6 (fun r x=>r=QB x) im eR x
def e4 (x:Bool):List Value:=[(.bool x)]
def p379 (Z:Zp) (r:List Value) (x:List yX):Prop:=∃(im:Option Addr) (eR:Nat),r=[(.slice im x.length eR)]/\ZS Z 5 (Wy Z) im eR x
def p388 (Z:Zp) (r:List Value) (x:List xa):Prop:=∃(im:Option Addr) (eR:Nat),r=[(.slice im x.length eR)]/\ZS Z 4 (fun r x=>r=QC x) im eR x
def p23 (Z:Zp) (r:List Value) (x:List yR):Prop:=∃(im:Option Addr) (eR:Nat),r=[(.slice im x.length eR)]/\ZS Z 4 (g5 Z) im eR x
def p67 (Z:Zp) (r:List Value) (x:List yG):Prop:=∃(im:Option Addr) (eR:Nat),r=[(.slice im x.length eR)]/\ZS Z 3 (fun r x=>r=dx x) im eR x
def p24 (Z:Zp) (r:List Value) (x:List yu):Prop:=∃(im:Option Addr) (eR:Nat),r=[(.slice im x.length eR)]/\ZS Z 4 (fun r x=>r=ki x) im eR x
def p25 (Z:Zp) (r:List Value) (x:List yK):Prop:=∃(im:Option Addr) (eR:Nat),r=[(.slice im x.length eR)]/\ZS Z 4 (fun r x=>r=gg x) im eR x
def p26 (Z:Zp) (r:List Value) (x:List yw):Prop:=∃(im:Option Addr) (eR:Nat),r=[(.slice im x.length eR)]/\ZS Z 7 (g8 Z) im eR x
def p27 (Z:Zp) (r:List Value) (x:List yU):Prop:=∃(im:Option Addr) (eR:Nat),r=[(.slice im x.length eR)]/\ZS Z 5 (fun r x=>r=gc x) im eR x
def p28 (Z:Zp) (r:List Value) (x:List yT):Prop:=∃(im:Option Addr) (eR:Nat),r=[(.slice im x.length eR)]/\ZS Z 3 (g6 Z) im eR x
def p372 (Z:Zp) (r:List Value) (x:List yV):Prop:=∃(im:Option Addr) (eR:Nat),r=[(.slice im x.length eR)]/\ZS Z 2 (fun r x=>r=QE x) im eR x
def p373 (Z:Zp) (r:List Value) (x:List ByteArray):Prop:=∃(im:Option Addr) (eR:Nat),r=[(.slice im x.length eR)]/\ZS Z 1 (fun r x=>r=e9 x) im eR x
def p29 (Z:Zp) (r:List Value) (x:List yS):Prop:=∃(im:Option Addr) (eR:Nat),r=[(.slice im x.length eR)]/\ZS Z 4 (fun r x=>r=ge x) im eR x
abbrev i6 (a:Int):Prop := -9223372036854775808<=a/\a<=9223372036854775807
abbrev kd387 (a:yZ):Prop:=(0<=a.xr/\a.xr<=255)/\(i6 a.yo)/\(i6 a.xu)/\(i6 a.xl)
abbrev kd392 (a:xa):Prop:=(0<=a.fOp/\a.fOp<=255)/\(i6 a.fA)/\(i6 a.fB)/\(i6 a.fC)
abbrev kd390 (a:yX):Prop:=(i6 a.xy)/\(i6 a.xb)/\(i6 a.xw)/\(a.xc.length<=9223372036854775807/\∀ x∈a.xc,kd392 x)
abbrev kd381 (a:yY):Prop:=(i6 a.xb)/\(i6 a.xn)/\(i6 a.xm)/\(a.xd.length<=9223372036854775807/\∀ x∈a.xd,-9223372036854775808<=x/\x<=9223372036854775807)/\(i6 a.xo)/\(i6 a.xp)/\(a.xi.length<=9223372036854775807/\∀ x∈a.xi,-9223372036854775808<=x/\x<=9223372036854775807)/\(a.fP.length<=9223372036854775807/\∀ x∈a.fP,kd387 x)/\(a.xg.length<=9223372036854775807/\∀ x∈a.xg,kd390 x)
abbrev kd126 (a:yH):Prop:=(i6 a.xm)/\(i6 a.xv)/\(a.xf.length<=9223372036854775807/\∀ x∈a.xf,kd381 x)
abbrev kd369 (a:yR):Prop:=(a.yM.length<=9223372036854775807)
abbrev kd64 (a:yu):Prop:=(i6 a.yQ)/\(i6 a.yl)/\(i6 a.fT)
abbrev kd62 (a:yK):Prop:=(i6 a.yQ)/\(i6 a.yp)
abbrev kd69 (a:yw):Prop:=(i6 a.yE)/\(i6 a.yA)/\(a.yM.length<=9223372036854775807)
abbrev kd371 (a:yU):Prop:=(0<=a.xk/\a.xk<=255)/\(0<=a.xj/\a.xj<=255)/\(0<=a.fDo/\a.fDo<=255)
abbrev kd385 (a:yV):Prop:=(i6 a.xc)
abbrev kd375 (a:yT):Prop:=(a.xe.length<=9223372036854775807/\∀ x∈a.xe,kd385 x)/\(a.xh.length<=9223372036854775807)
abbrev kd377 (a:yS):Prop:=(i6 a.fVA)/\(i6 a.fVB)
abbrev kd31 (a:zu):Prop:=(a.fM.length<=9223372036854775807/\∀ x∈a.fM,kd126 x)/\(a.yd.length<=9223372036854775807/\∀ x∈a.yd,kd369 x)/\(a.fS.length<=9223372036854775807/\∀ x∈a.fS,kd64 x)/\(a.fK.length<=9223372036854775807/\∀ x∈a.fK,kd62 x)/\(a.yc.length<=9223372036854775807/\∀ x∈a.yc,kd69 x)/\(a.fH.length<=9223372036854775807/\∀ x∈a.fH,kd371 x)/\(a.fU.length<=9223372036854775807/\∀ x∈a.fU,kd375 x)/\(a.ye.length<=9223372036854775807/\∀ x∈a.ye,kd377 x)
abbrev kd60 (a:zd):Prop:=(i6 a.ya)/\(i6 a.fX)/\(i6 a.fQ)
theorem cl_3:Tryz.prog.cellsOf 3=1:=by kernel_rfl
theorem cl_4:Tryz.prog.cellsOf 4=1:=by kernel_rfl
theorem cl_5:Tryz.prog.cellsOf 5=1:=by kernel_rfl
theorem cl_9:Tryz.prog.cellsOf 9=1:=by kernel_rfl
theorem z1jG:Tryz.prog.cellsOf 22=1:=by kernel_rfl
theorem z1jH:Tryz.prog.cellsOf 23=1:=by kernel_rfl
theorem z1jI:Tryz.prog.cellsOf 24=1:=by kernel_rfl
theorem z1jJ:Tryz.prog.cellsOf 25=1:=by kernel_rfl
theorem z1jK:Tryz.prog.cellsOf 26=1:=by kernel_rfl
theorem z1jL:Tryz.prog.cellsOf 27=1:=by kernel_rfl
theorem z1jM:Tryz.prog.cellsOf 28=1:=by kernel_rfl
theorem z1jN:Tryz.prog.cellsOf 29=1:=by kernel_rfl
theorem zWy:Tryz.prog.cellsOf 50=1:=by kernel_rfl
theorem zWz:Tryz.prog.cellsOf 66=3:=by kernel_rfl
theorem zWA:Tryz.prog.cellsOf 67=1:=by kernel_rfl
theorem z1jO:Tryz.prog.cellsOf 124=1:=by kernel_rfl
theorem z1jP:Tryz.prog.cellsOf 372=1:=by kernel_rfl
theorem z1jQ:Tryz.prog.cellsOf 373=1:=by kernel_rfl
theorem z1jR:Tryz.prog.cellsOf 378=1:=by kernel_rfl
theorem z1jS:Tryz.prog.cellsOf 379=1:=by kernel_rfl
theorem z1jT:Tryz.prog.cellsOf 388=1:=by kernel_rfl
section
variable {H:Type} {enc:TypeId×Value->H} {W:World} {eV:Nat->Bool} {vy:Bool} {n:Nat} {cs:List Value} {y:DataW H×List MemPlace}
theorem el_9 (h:DataW.trod enc Tryz.prog W 0 eV vy n 9 cs=some y) (hl:cs.length=1):∃ a:ByteArray,(cs=e9 a)/\(True):=by
 obtain⟨a,rfl,-,-⟩:=DataW.trod_string Tryz.underlying9 h
 exact⟨a,rfl,trivial⟩
theorem el_3 (h:DataW.trod enc Tryz.prog W 0 eV vy n 3 cs=some y) (hl:cs.length=1):∃ a:Int,(cs=e3 a)/\(-9223372036854775808<=a/\a<=9223372036854775807):=by
 obtain⟨a,rfl,-,wf⟩:=DataW.trod_int Tryz.underlying3 h
 exact⟨a,rfl,Go.bounds_i64 wf⟩
theorem zWB (h:DataW.trod enc Tryz.prog W 0 eV vy n 50 cs=some y) (hl:cs.length=1):∃ a:List Int,(ax (ZW W) cs a)/\(a.length<=9223372036854775807/\∀ x∈a,-9223372036854775808<=x/\x<=9223372036854775807):=by
 obtain⟨ao,cap,l,rfl,hz,hL⟩:=gk (Pr:=fun r x=>(r=e3 x)/\(-9223372036854775808<=x/\x<=9223372036854775807)) (sz:=1) Tryz.underlying50 (fun _ _ _=>el_3) h
 unfold maxLen at hL
 exact⟨l,⟨ao,cap,rfl,hz.weak (fun _ _ h=>h.1)⟩,⟨by omega,hz.all (q:=fun x => -9223372036854775808<=x/\x<=9223372036854775807) (fun _ _ h=>h.2)⟩⟩
theorem el_5 (h:DataW.trod enc Tryz.prog W 0 eV vy n 5 cs=some y) (hl:cs.length=1):∃ a:Int,(cs=e5 a)/\(0<=a/\a<=255):=by
 obtain⟨a,rfl,-,wf⟩:=DataW.trod_int Tryz.underlying5 h
 exact⟨a,rfl,Go.bounds_u8 wf⟩
theorem el_4 (h:DataW.trod enc Tryz.prog W 0 eV vy n 4 cs=some y) (hl:cs.length=1):∃ a:Bool,(cs=e4 a)/\(True):=by
 obtain⟨a,rfl,-⟩:=DataW.trod_bool Tryz.underlying4 h
 exact⟨a,rfl,trivial⟩
theorem z1jU (h:DataW.trod enc Tryz.prog W 0 eV vy n 387 cs=some y) (hl:cs.length=6):∃ a:yZ,(cs=QB a)/\(kd387 a):=by
 obtain⟨y0,m0,h0⟩:=xW 0 Tryz.underlying387 h
 try dsimp only at h0
 rw[cl_9] at h0
 obtain⟨a0,r0,k0⟩:=el_9 h0 (by simp[hl])
 obtain⟨y1,m1,h1⟩:=xW 1 Tryz.underlying387 h
 try dsimp only at h1
 rw[cl_5] at h1
 obtain⟨a1,r1,k1⟩:=el_5 h1 (by simp[hl])
 obtain⟨y2,m2,h2⟩:=xW 2 Tryz.underlying387 h
 try dsimp only at h2
 rw[cl_4] at h2
 obtain⟨a2,r2,k2⟩:=el_4 h2 (by simp[hl])
 obtain⟨y3,m3,h3⟩:=xW 3 Tryz.underlying387 h
 try dsimp only at h3
 rw[cl_3] at h3
 obtain⟨a3,r3,k3⟩:=el_3 h3 (by simp[hl])
 obtain⟨y4,m4,h4⟩:=xW 4 Tryz.underlying387 h
 try dsimp only at h4
 rw[cl_3] at h4
 obtain⟨a4,r4,k4⟩:=el_3 h4 (by simp[hl])
 obtain⟨y5,m5,h5⟩:=xW 5 Tryz.underlying387 h
 try dsimp only at h5
 rw[cl_3] at h5
 obtain⟨a5,r5,k5⟩:=el_3 h5 (by simp[hl])
 obtain⟨u0,u1,u2,u3,u4,u5,rfl⟩:∃ u0 u1 u2 u3 u4 u5,cs=[u0,u1,u2,u3,u4,u5]:=by match cs,hl with | [u0,u1,u2,u3,u4,u5],_=>exact⟨_,_,_,_,_,_,rfl⟩
 simp[e9] at r0
 simp[e5] at r1
 simp[e4] at r2
 simp[e3] at r3
 simp[e3] at r4
 simp[e3] at r5
 exact⟨⟨a0,a1,a2,a3,a4,a5⟩,by simp[QB, *],⟨k1,k3,k4,k5⟩⟩
theorem z1jV (h:DataW.trod enc Tryz.prog W 0 eV vy n 378 cs=some y) (hl:cs.length=1):∃ a:List yZ,(p378 (ZW W) cs a)/\(a.length<=9223372036854775807/\∀ x∈a,kd387 x):=by
 obtain⟨ao,cap,l,rfl,hz,hL⟩:=gk (Pr:=fun r x=>(r=QB x)/\(kd387 x)) (sz:=6) Tryz.underlying378 (fun _ _ _=>z1jU) h
 unfold maxLen at hL
 exact⟨l,⟨ao,cap,rfl,hz.weak (fun _ _ h=>h.1)⟩,⟨by omega,hz.all (q:=fun x=>kd387 x) (fun _ _ h=>h.2)⟩⟩
theorem z1jW (h:DataW.trod enc Tryz.prog W 0 eV vy n 392 cs=some y) (hl:cs.length=4):∃ a:xa,(cs=QC a)/\(kd392 a):=by
 obtain⟨y0,m0,h0⟩:=xW 0 Tryz.underlying392 h
 try dsimp only at h0
 rw[cl_5] at h0
 obtain⟨a0,r0,k0⟩:=el_5 h0 (by simp[hl])
 obtain⟨y1,m1,h1⟩:=xW 1 Tryz.underlying392 h
 try dsimp only at h1
 rw[cl_3] at h1
 obtain⟨a1,r1,k1⟩:=el_3 h1 (by simp[hl])
 obtain⟨y2,m2,h2⟩:=xW 2 Tryz.underlying392 h
 try dsimp only at h2
 rw[cl_3] at h2
 obtain⟨a2,r2,k2⟩:=el_3 h2 (by simp[hl])
 obtain⟨y3,m3,h3⟩:=xW 3 Tryz.underlying392 h
 try dsimp only at h3
 rw[cl_3] at h3
 obtain⟨a3,r3,k3⟩:=el_3 h3 (by simp[hl])
 obtain⟨u0,u1,u2,u3,rfl⟩:∃ u0 u1 u2 u3,cs=[u0,u1,u2,u3]:=by match cs,hl with | [u0,u1,u2,u3],_=>exact⟨_,_,_,_,rfl⟩
 simp[e5] at r0
 simp[e3] at r1
 simp[e3] at r2
 simp[e3] at r3
 exact⟨⟨a0,a1,a2,a3⟩,by simp[QC, *],⟨k0,k1,k2,k3⟩⟩
theorem z1jX (h:DataW.trod enc Tryz.prog W 0 eV vy n 388 cs=some y) (hl:cs.length=1):∃ a:List xa,(p388 (ZW W) cs a)/\(a.length<=9223372036854775807/\∀ x∈a,kd392 x):=by
 obtain⟨ao,cap,l,rfl,hz,hL⟩:=gk (Pr:=fun r x=>(r=QC x)/\(kd392 x)) (sz:=4) Tryz.underlying388 (fun _ _ _=>z1jW) h
 unfold maxLen at hL
 exact⟨l,⟨ao,cap,rfl,hz.weak (fun _ _ h=>h.1)⟩,⟨by omega,hz.all (q:=fun x=>kd392 x) (fun _ _ h=>h.2)⟩⟩
theorem z1jY (h:DataW.trod enc Tryz.prog W 0 eV vy n 390 cs=some y) (hl:cs.length=5):∃ a:yX,(Wy (ZW W) cs a)/\(kd390 a):=by
 obtain⟨y0,m0,h0⟩:=xW 0 Tryz.underlying390 h
 try dsimp only at h0
 rw[cl_9] at h0
 obtain⟨a0,r0,k0⟩:=el_9 h0 (by simp[hl])
 obtain⟨y1,m1,h1⟩:=xW 1 Tryz.underlying390 h
 try dsimp only at h1
 rw[cl_3] at h1
 obtain⟨a1,r1,k1⟩:=el_3 h1 (by simp[hl])
 obtain⟨y2,m2,h2⟩:=xW 2 Tryz.underlying390 h
 try dsimp only at h2
 rw[cl_3] at h2
 obtain⟨a2,r2,k2⟩:=el_3 h2 (by simp[hl])
 obtain⟨y3,m3,h3⟩:=xW 3 Tryz.underlying390 h
 try dsimp only at h3
 rw[cl_3] at h3
 obtain⟨a3,r3,k3⟩:=el_3 h3 (by simp[hl])
 obtain⟨y4,m4,h4⟩:=xW 4 Tryz.underlying390 h
 try dsimp only at h4
 rw[z1jT] at h4
 obtain⟨a4,r4,k4⟩:=z1jX h4 (by simp[hl])
 obtain⟨u0,u1,u2,u3,u4,rfl⟩:∃ u0 u1 u2 u3 u4,cs=[u0,u1,u2,u3,u4]:=by match cs,hl with | [u0,u1,u2,u3,u4],_=>exact⟨_,_,_,_,_,rfl⟩
 simp[e9] at r0
 simp[e3] at r1
 simp[e3] at r2
 simp[e3] at r3
 obtain⟨zG,zH,r4,AV⟩:=r4
 simp at r4
 refine⟨⟨a0,a1,a2,a3,a4⟩,⟨zG,zH,by simp[*],AV⟩,⟨k1,k2,k3,k4⟩⟩
theorem z1jZ (h:DataW.trod enc Tryz.prog W 0 eV vy n 379 cs=some y) (hl:cs.length=1):∃ a:List yX,(p379 (ZW W) cs a)/\(a.length<=9223372036854775807/\∀ x∈a,kd390 x):=by
 obtain⟨ao,cap,l,rfl,hz,hL⟩:=gk (Pr:=fun r x=>(Wy (ZW W) r x)/\(kd390 x)) (sz:=5) Tryz.underlying379 (fun _ _ _=>z1jY) h
 unfold maxLen at hL
 exact⟨l,⟨ao,cap,rfl,hz.weak (fun _ _ h=>h.1)⟩,⟨by omega,hz.all (q:=fun x=>kd390 x) (fun _ _ h=>h.2)⟩⟩
theorem z1k0 (h:DataW.trod enc Tryz.prog W 0 eV vy n 381 cs=some y) (hl:cs.length=10):∃ a:yY,(Wz (ZW W) cs a)/\(kd381 a):=by
 obtain⟨y0,m0,h0⟩:=xW 0 Tryz.underlying381 h
 try dsimp only at h0
 rw[cl_9] at h0
 obtain⟨a0,r0,k0⟩:=el_9 h0 (by simp[hl])
 obtain⟨y1,m1,h1⟩:=xW 1 Tryz.underlying381 h
 try dsimp only at h1
 rw[cl_3] at h1
 obtain⟨a1,r1,k1⟩:=el_3 h1 (by simp[hl])
 obtain⟨y2,m2,h2⟩:=xW 2 Tryz.underlying381 h
 try dsimp only at h2
 rw[cl_3] at h2
 obtain⟨a2,r2,k2⟩:=el_3 h2 (by simp[hl])
 obtain⟨y3,m3,h3⟩:=xW 3 Tryz.underlying381 h
 try dsimp only at h3
 rw[cl_3] at h3
 obtain⟨a3,r3,k3⟩:=el_3 h3 (by simp[hl])
 obtain⟨y4,m4,h4⟩:=xW 4 Tryz.underlying381 h
 try dsimp only at h4
 rw[zWy] at h4
 obtain⟨a4,r4,k4⟩:=zWB h4 (by simp[hl])
 obtain⟨y5,m5,h5⟩:=xW 5 Tryz.underlying381 h
 try dsimp only at h5
 rw[cl_3] at h5
 obtain⟨a5,r5,k5⟩:=el_3 h5 (by simp[hl])
 obtain⟨y6,m6,h6⟩:=xW 6 Tryz.underlying381 h
 try dsimp only at h6
 rw[cl_3] at h6
 obtain⟨a6,r6,k6⟩:=el_3 h6 (by simp[hl])
 obtain⟨y7,m7,h7⟩:=xW 7 Tryz.underlying381 h
 try dsimp only at h7
 rw[zWy] at h7
 obtain⟨a7,r7,k7⟩:=zWB h7 (by simp[hl])
 obtain⟨y8,m8,h8⟩:=xW 8 Tryz.underlying381 h
 try dsimp only at h8
 rw[z1jR] at h8
 obtain⟨a8,r8,k8⟩:=z1jV h8 (by simp[hl])
 obtain⟨y9,m9,h9⟩:=xW 9 Tryz.underlying381 h
 try dsimp only at h9
 rw[z1jS] at h9
 obtain⟨a9,r9,k9⟩:=z1jZ h9 (by simp[hl])
 obtain⟨u0,u1,u2,u3,u4,u5,u6,u7,u8,u9,rfl⟩:∃ u0 u1 u2 u3 u4 u5 u6 u7 u8 u9,cs=[u0,u1,u2,u3,u4,u5,u6,u7,u8,u9]:=by match cs,hl with | [u0,u1,u2,u3,u4,u5,u6,u7,u8,u9],_=>exact⟨_,_,_,_,_,_,_,_,_,_,rfl⟩
 simp[e9] at r0
 simp[e3] at r1
 simp[e3] at r2
 simp[e3] at r3
 obtain⟨zG,zH,r4,AV⟩:=r4
 simp at r4
 simp[e3] at r5
 simp[e3] at r6
 obtain⟨BX,BY,r7,DU⟩:=r7
 simp at r7
 obtain⟨He,Hf,r8,z8x0⟩:=r8
 simp at r8
 obtain⟨Hg,Hh,r9,z9x0⟩:=r9
 simp at r9
 refine⟨⟨a0,a1,a2,a3,a4,a5,a6,a7,a8,a9⟩,⟨zG,zH,BX,BY,He,Hf,Hg,Hh,by simp[*],AV,DU,z8x0,z9x0⟩,⟨k1,k2,k3,k4,k5,k6,k7,k8,k9⟩⟩
theorem z1k1 (h:DataW.trod enc Tryz.prog W 0 eV vy n 124 cs=some y) (hl:cs.length=1):∃ a:List yY,(p124 (ZW W) cs a)/\(a.length<=9223372036854775807/\∀ x∈a,kd381 x):=by
 obtain⟨ao,cap,l,rfl,hz,hL⟩:=gk (Pr:=fun r x=>(Wz (ZW W) r x)/\(kd381 x)) (sz:=10) Tryz.underlying124 (fun _ _ _=>z1k0) h
 unfold maxLen at hL
 exact⟨l,⟨ao,cap,rfl,hz.weak (fun _ _ h=>h.1)⟩,⟨by omega,hz.all (q:=fun x=>kd381 x) (fun _ _ h=>h.2)⟩⟩
theorem z1k2 (h:DataW.trod enc Tryz.prog W 0 eV vy n 126 cs=some y) (hl:cs.length=4):∃ a:yH,(kr (ZW W) cs a)/\(kd126 a):=by
 obtain⟨y0,m0,h0⟩:=xW 0 Tryz.underlying126 h
 try dsimp only at h0
 rw[cl_9] at h0
 obtain⟨a0,r0,k0⟩:=el_9 h0 (by simp[hl])
 obtain⟨y1,m1,h1⟩:=xW 1 Tryz.underlying126 h
 try dsimp only at h1
 rw[cl_3] at h1
 obtain⟨a1,r1,k1⟩:=el_3 h1 (by simp[hl])
 obtain⟨y2,m2,h2⟩:=xW 2 Tryz.underlying126 h
 try dsimp only at h2
 rw[cl_3] at h2
 obtain⟨a2,r2,k2⟩:=el_3 h2 (by simp[hl])
 obtain⟨y3,m3,h3⟩:=xW 3 Tryz.underlying126 h
 try dsimp only at h3
 rw[z1jO] at h3
 obtain⟨a3,r3,k3⟩:=z1k1 h3 (by simp[hl])
 obtain⟨u0,u1,u2,u3,rfl⟩:∃ u0 u1 u2 u3,cs=[u0,u1,u2,u3]:=by match cs,hl with | [u0,u1,u2,u3],_=>exact⟨_,_,_,_,rfl⟩
 simp[e9] at r0
 simp[e3] at r1
 simp[e3] at r2
 obtain⟨B0,B3,r3,DV⟩:=r3
 simp at r3
 refine⟨⟨a0,a1,a2,a3⟩,⟨B0,B3,by simp[*],DV⟩,⟨k1,k2,k3⟩⟩
theorem z1k3 (h:DataW.trod enc Tryz.prog W 0 eV vy n 22 cs=some y) (hl:cs.length=1):∃ a:List yH,(p22 (ZW W) cs a)/\(a.length<=9223372036854775807/\∀ x∈a,kd126 x):=by
 obtain⟨ao,cap,l,rfl,hz,hL⟩:=gk (Pr:=fun r x=>(kr (ZW W) r x)/\(kd126 x)) (sz:=4) Tryz.underlying22 (fun _ _ _=>z1k2) h
 unfold maxLen at hL
 exact⟨l,⟨ao,cap,rfl,hz.weak (fun _ _ h=>h.1)⟩,⟨by omega,hz.all (q:=fun x=>kd126 x) (fun _ _ h=>h.2)⟩⟩
theorem zLu (h:DataW.trod enc Tryz.prog W 0 eV vy n 66 cs=some y) (hl:cs.length=3):∃ a:yG,(cs=dx a)/\(True):=by
 obtain⟨y0,m0,h0⟩:=xW 0 Tryz.underlying66 h
 try dsimp only at h0
 rw[cl_9] at h0
 obtain⟨a0,r0,k0⟩:=el_9 h0 (by simp[hl])
 obtain⟨y1,m1,h1⟩:=xW 1 Tryz.underlying66 h
 try dsimp only at h1
 rw[cl_9] at h1
 obtain⟨a1,r1,k1⟩:=el_9 h1 (by simp[hl])
 obtain⟨y2,m2,h2⟩:=xW 2 Tryz.underlying66 h
 try dsimp only at h2
 rw[cl_9] at h2
 obtain⟨a2,r2,k2⟩:=el_9 h2 (by simp[hl])
 obtain⟨u0,u1,u2,rfl⟩:∃ u0 u1 u2,cs=[u0,u1,u2]:=by match cs,hl with | [u0,u1,u2],_=>exact⟨_,_,_,rfl⟩
 simp[e9] at r0
 simp[e9] at r1
 simp[e9] at r2
 exact⟨⟨a0,a1,a2⟩,by simp[dx, *],trivial⟩
theorem zWC (h:DataW.trod enc Tryz.prog W 0 eV vy n 67 cs=some y) (hl:cs.length=1):∃ a:List yG,(p67 (ZW W) cs a)/\(a.length<=9223372036854775807):=by
 obtain⟨ao,cap,l,rfl,hz,hL⟩:=gk (Pr:=fun r x=>(r=dx x)/\(True)) (sz:=3) Tryz.underlying67 (fun _ _ _=>zLu) h
 unfold maxLen at hL
 exact⟨l,⟨ao,cap,rfl,hz.weak (fun _ _ h=>h.1)⟩,by omega⟩
theorem z1k4 (h:DataW.trod enc Tryz.prog W 0 eV vy n 369 cs=some y) (hl:cs.length=4):∃ a:yR,(g5 (ZW W) cs a)/\(kd369 a):=by
 obtain⟨y0,m0,h0⟩:=xW 0 Tryz.underlying369 h
 try dsimp only at h0
 rw[zWz] at h0
 obtain⟨a0,r0,k0⟩:=zLu h0 (by simp[hl])
 obtain⟨y1,m1,h1⟩:=xW 1 Tryz.underlying369 h
 try dsimp only at h1
 rw[zWA] at h1
 obtain⟨a1,r1,k1⟩:=zWC h1 (by simp[hl])
 obtain⟨u0,u1,u2,u3,rfl⟩:∃ u0 u1 u2 u3,cs=[u0,u1,u2,u3]:=by match cs,hl with | [u0,u1,u2,u3],_=>exact⟨_,_,_,_,rfl⟩
 simp[dx] at r0
 obtain⟨Ax,Ay,r1,B4⟩:=r1
 simp at r1
 refine⟨⟨a0,a1⟩,⟨Ax,Ay,by simp[*],B4⟩,k1⟩
theorem z1k5 (h:DataW.trod enc Tryz.prog W 0 eV vy n 23 cs=some y) (hl:cs.length=1):∃ a:List yR,(p23 (ZW W) cs a)/\(a.length<=9223372036854775807/\∀ x∈a,kd369 x):=by
 obtain⟨ao,cap,l,rfl,hz,hL⟩:=gk (Pr:=fun r x=>(g5 (ZW W) r x)/\(kd369 x)) (sz:=4) Tryz.underlying23 (fun _ _ _=>z1k4) h
 unfold maxLen at hL
 exact⟨l,⟨ao,cap,rfl,hz.weak (fun _ _ h=>h.1)⟩,⟨by omega,hz.all (q:=fun x=>kd369 x) (fun _ _ h=>h.2)⟩⟩
theorem z1k6 (h:DataW.trod enc Tryz.prog W 0 eV vy n 64 cs=some y) (hl:cs.length=4):∃ a:yu,(cs=ki a)/\(kd64 a):=by
 obtain⟨y0,m0,h0⟩:=xW 0 Tryz.underlying64 h
 try dsimp only at h0
 rw[cl_9] at h0
 obtain⟨a0,r0,k0⟩:=el_9 h0 (by simp[hl])
 obtain⟨y1,m1,h1⟩:=xW 1 Tryz.underlying64 h
 try dsimp only at h1
 rw[cl_3] at h1
 obtain⟨a1,r1,k1⟩:=el_3 h1 (by simp[hl])
 obtain⟨y2,m2,h2⟩:=xW 2 Tryz.underlying64 h
 try dsimp only at h2
 rw[cl_3] at h2
 obtain⟨a2,r2,k2⟩:=el_3 h2 (by simp[hl])
 obtain⟨y3,m3,h3⟩:=xW 3 Tryz.underlying64 h
 try dsimp only at h3
 rw[cl_3] at h3
 obtain⟨a3,r3,k3⟩:=el_3 h3 (by simp[hl])
 obtain⟨u0,u1,u2,u3,rfl⟩:∃ u0 u1 u2 u3,cs=[u0,u1,u2,u3]:=by match cs,hl with | [u0,u1,u2,u3],_=>exact⟨_,_,_,_,rfl⟩
 simp[e9] at r0
 simp[e3] at r1
 simp[e3] at r2
 simp[e3] at r3
 exact⟨⟨a0,a1,a2,a3⟩,by simp[ki, *],⟨k1,k2,k3⟩⟩
theorem z1k7 (h:DataW.trod enc Tryz.prog W 0 eV vy n 24 cs=some y) (hl:cs.length=1):∃ a:List yu,(p24 (ZW W) cs a)/\(a.length<=9223372036854775807/\∀ x∈a,kd64 x):=by
 obtain⟨ao,cap,l,rfl,hz,hL⟩:=gk (Pr:=fun r x=>(r=ki x)/\(kd64 x)) (sz:=4) Tryz.underlying24 (fun _ _ _=>z1k6) h
 unfold maxLen at hL
 exact⟨l,⟨ao,cap,rfl,hz.weak (fun _ _ h=>h.1)⟩,⟨by omega,hz.all (q:=fun x=>kd64 x) (fun _ _ h=>h.2)⟩⟩
theorem z1k8 (h:DataW.trod enc Tryz.prog W 0 eV vy n 62 cs=some y) (hl:cs.length=4):∃ a:yK,(cs=gg a)/\(kd62 a):=by
 obtain⟨y0,m0,h0⟩:=xW 0 Tryz.underlying62 h
 try dsimp only at h0
 rw[cl_9] at h0
 obtain⟨a0,r0,k0⟩:=el_9 h0 (by simp[hl])
 obtain⟨y1,m1,h1⟩:=xW 1 Tryz.underlying62 h
 try dsimp only at h1
 rw[cl_9] at h1
 obtain⟨a1,r1,k1⟩:=el_9 h1 (by simp[hl])
 obtain⟨y2,m2,h2⟩:=xW 2 Tryz.underlying62 h
 try dsimp only at h2
 rw[cl_3] at h2
 obtain⟨a2,r2,k2⟩:=el_3 h2 (by simp[hl])
 obtain⟨y3,m3,h3⟩:=xW 3 Tryz.underlying62 h
 try dsimp only at h3
 rw[cl_3] at h3
 obtain⟨a3,r3,k3⟩:=el_3 h3 (by simp[hl])
 obtain⟨u0,u1,u2,u3,rfl⟩:∃ u0 u1 u2 u3,cs=[u0,u1,u2,u3]:=by match cs,hl with | [u0,u1,u2,u3],_=>exact⟨_,_,_,_,rfl⟩
 simp[e9] at r0
 simp[e9] at r1
 simp[e3] at r2
 simp[e3] at r3
 exact⟨⟨a0,a1,a2,a3⟩,by simp[gg, *],⟨k2,k3⟩⟩
theorem z1k9 (h:DataW.trod enc Tryz.prog W 0 eV vy n 25 cs=some y) (hl:cs.length=1):∃ a:List yK,(p25 (ZW W) cs a)/\(a.length<=9223372036854775807/\∀ x∈a,kd62 x):=by
 obtain⟨ao,cap,l,rfl,hz,hL⟩:=gk (Pr:=fun r x=>(r=gg x)/\(kd62 x)) (sz:=4) Tryz.underlying25 (fun _ _ _=>z1k8) h
 unfold maxLen at hL
 exact⟨l,⟨ao,cap,rfl,hz.weak (fun _ _ h=>h.1)⟩,⟨by omega,hz.all (q:=fun x=>kd62 x) (fun _ _ h=>h.2)⟩⟩
theorem z1ka (h:DataW.trod enc Tryz.prog W 0 eV vy n 69 cs=some y) (hl:cs.length=7):∃ a:yw,(g8 (ZW W) cs a)/\(kd69 a):=by
 obtain⟨y0,m0,h0⟩:=xW 0 Tryz.underlying69 h
 try dsimp only at h0
 rw[cl_9] at h0
 obtain⟨a0,r0,k0⟩:=el_9 h0 (by simp[hl])
 obtain⟨y1,m1,h1⟩:=xW 1 Tryz.underlying69 h
 try dsimp only at h1
 rw[zWz] at h1
 obtain⟨a1,r1,k1⟩:=zLu h1 (by simp[hl])
 obtain⟨y2,m2,h2⟩:=xW 2 Tryz.underlying69 h
 try dsimp only at h2
 rw[cl_3] at h2
 obtain⟨a2,r2,k2⟩:=el_3 h2 (by simp[hl])
 obtain⟨y3,m3,h3⟩:=xW 3 Tryz.underlying69 h
 try dsimp only at h3
 rw[cl_3] at h3
 obtain⟨a3,r3,k3⟩:=el_3 h3 (by simp[hl])
 obtain⟨y4,m4,h4⟩:=xW 4 Tryz.underlying69 h
 try dsimp only at h4
 rw[zWA] at h4
 obtain⟨a4,r4,k4⟩:=zWC h4 (by simp[hl])
 obtain⟨u0,u1,u2,u3,u4,u5,u6,rfl⟩:∃ u0 u1 u2 u3 u4 u5 u6,cs=[u0,u1,u2,u3,u4,u5,u6]:=by match cs,hl with | [u0,u1,u2,u3,u4,u5,u6],_=>exact⟨_,_,_,_,_,_,_,rfl⟩
 simp[e9] at r0
 simp[dx] at r1
 simp[e3] at r2
 simp[e3] at r3
 obtain⟨zG,zH,r4,AV⟩:=r4
 simp at r4
 refine⟨⟨a0,a1,a2,a3,a4⟩,⟨zG,zH,by simp[*],AV⟩,⟨k2,k3,k4⟩⟩
theorem z1kb (h:DataW.trod enc Tryz.prog W 0 eV vy n 26 cs=some y) (hl:cs.length=1):∃ a:List yw,(p26 (ZW W) cs a)/\(a.length<=9223372036854775807/\∀ x∈a,kd69 x):=by
 obtain⟨ao,cap,l,rfl,hz,hL⟩:=gk (Pr:=fun r x=>(g8 (ZW W) r x)/\(kd69 x)) (sz:=7) Tryz.underlying26 (fun _ _ _=>z1ka) h
 unfold maxLen at hL
 exact⟨l,⟨ao,cap,rfl,hz.weak (fun _ _ h=>h.1)⟩,⟨by omega,hz.all (q:=fun x=>kd69 x) (fun _ _ h=>h.2)⟩⟩
theorem z1kc (h:DataW.trod enc Tryz.prog W 0 eV vy n 371 cs=some y) (hl:cs.length=5):∃ a:yU,(cs=gc a)/\(kd371 a):=by
 obtain⟨y0,m0,h0⟩:=xW 0 Tryz.underlying371 h
 try dsimp only at h0
 rw[cl_9] at h0
 obtain⟨a0,r0,k0⟩:=el_9 h0 (by simp[hl])
 obtain⟨y1,m1,h1⟩:=xW 1 Tryz.underlying371 h
 try dsimp only at h1
 rw[cl_9] at h1
 obtain⟨a1,r1,k1⟩:=el_9 h1 (by simp[hl])
 obtain⟨y2,m2,h2⟩:=xW 2 Tryz.underlying371 h
 try dsimp only at h2
 rw[cl_5] at h2
 obtain⟨a2,r2,k2⟩:=el_5 h2 (by simp[hl])
 obtain⟨y3,m3,h3⟩:=xW 3 Tryz.underlying371 h
 try dsimp only at h3
 rw[cl_5] at h3
 obtain⟨a3,r3,k3⟩:=el_5 h3 (by simp[hl])
 obtain⟨y4,m4,h4⟩:=xW 4 Tryz.underlying371 h
 try dsimp only at h4
 rw[cl_5] at h4
 obtain⟨a4,r4,k4⟩:=el_5 h4 (by simp[hl])
 obtain⟨u0,u1,u2,u3,u4,rfl⟩:∃ u0 u1 u2 u3 u4,cs=[u0,u1,u2,u3,u4]:=by match cs,hl with | [u0,u1,u2,u3,u4],_=>exact⟨_,_,_,_,_,rfl⟩
 simp[e9] at r0
 simp[e9] at r1
 simp[e5] at r2
 simp[e5] at r3
 simp[e5] at r4
 exact⟨⟨a0,a1,a2,a3,a4⟩,by simp[gc, *],⟨k2,k3,k4⟩⟩
theorem z1kd (h:DataW.trod enc Tryz.prog W 0 eV vy n 27 cs=some y) (hl:cs.length=1):∃ a:List yU,(p27 (ZW W) cs a)/\(a.length<=9223372036854775807/\∀ x∈a,kd371 x):=by
 obtain⟨ao,cap,l,rfl,hz,hL⟩:=gk (Pr:=fun r x=>(r=gc x)/\(kd371 x)) (sz:=5) Tryz.underlying27 (fun _ _ _=>z1kc) h
 unfold maxLen at hL
 exact⟨l,⟨ao,cap,rfl,hz.weak (fun _ _ h=>h.1)⟩,⟨by omega,hz.all (q:=fun x=>kd371 x) (fun _ _ h=>h.2)⟩⟩
theorem z1ke (h:DataW.trod enc Tryz.prog W 0 eV vy n 385 cs=some y) (hl:cs.length=2):∃ a:yV,(cs=QE a)/\(kd385 a):=by
 obtain⟨y0,m0,h0⟩:=xW 0 Tryz.underlying385 h
 try dsimp only at h0
 rw[cl_9] at h0
 obtain⟨a0,r0,k0⟩:=el_9 h0 (by simp[hl])
 obtain⟨y1,m1,h1⟩:=xW 1 Tryz.underlying385 h
 try dsimp only at h1
 rw[cl_3] at h1
 obtain⟨a1,r1,k1⟩:=el_3 h1 (by simp[hl])
 obtain⟨u0,u1,rfl⟩:∃ u0 u1,cs=[u0,u1]:=by match cs,hl with | [u0,u1],_=>exact⟨_,_,rfl⟩
 simp[e9] at r0
 simp[e3] at r1
 exact⟨⟨a0,a1⟩,by simp[QE, *],k1⟩
theorem z1kf (h:DataW.trod enc Tryz.prog W 0 eV vy n 372 cs=some y) (hl:cs.length=1):∃ a:List yV,(p372 (ZW W) cs a)/\(a.length<=9223372036854775807/\∀ x∈a,kd385 x):=by
 obtain⟨ao,cap,l,rfl,hz,hL⟩:=gk (Pr:=fun r x=>(r=QE x)/\(kd385 x)) (sz:=2) Tryz.underlying372 (fun _ _ _=>z1ke) h
 unfold maxLen at hL
 exact⟨l,⟨ao,cap,rfl,hz.weak (fun _ _ h=>h.1)⟩,⟨by omega,hz.all (q:=fun x=>kd385 x) (fun _ _ h=>h.2)⟩⟩
theorem z1kg (h:DataW.trod enc Tryz.prog W 0 eV vy n 373 cs=some y) (hl:cs.length=1):∃ a:List ByteArray,(p373 (ZW W) cs a)/\(a.length<=9223372036854775807):=by
 obtain⟨ao,cap,l,rfl,hz,hL⟩:=gk (Pr:=fun r x=>(r=e9 x)/\(True)) (sz:=1) Tryz.underlying373 (fun _ _ _=>el_9) h
 unfold maxLen at hL
 exact⟨l,⟨ao,cap,rfl,hz.weak (fun _ _ h=>h.1)⟩,by omega⟩
theorem z1kh (h:DataW.trod enc Tryz.prog W 0 eV vy n 375 cs=some y) (hl:cs.length=3):∃ a:yT,(g6 (ZW W) cs a)/\(kd375 a):=by
 obtain⟨y0,m0,h0⟩:=xW 0 Tryz.underlying375 h
 try dsimp only at h0
 rw[cl_9] at h0
 obtain⟨a0,r0,k0⟩:=el_9 h0 (by simp[hl])
 obtain⟨y1,m1,h1⟩:=xW 1 Tryz.underlying375 h
 try dsimp only at h1
 rw[z1jP] at h1
 obtain⟨a1,r1,k1⟩:=z1kf h1 (by simp[hl])
 obtain⟨y2,m2,h2⟩:=xW 2 Tryz.underlying375 h
 try dsimp only at h2
 rw[z1jQ] at h2
 obtain⟨a2,r2,k2⟩:=z1kg h2 (by simp[hl])
 obtain⟨u0,u1,u2,rfl⟩:∃ u0 u1 u2,cs=[u0,u1,u2]:=by match cs,hl with | [u0,u1,u2],_=>exact⟨_,_,_,rfl⟩
 simp[e9] at r0
 obtain⟨Ax,Ay,r1,B4⟩:=r1
 simp at r1
 obtain⟨B5,B6,r2,DW⟩:=r2
 simp at r2
 refine⟨⟨a0,a1,a2⟩,⟨Ax,Ay,B5,B6,by simp[*],B4,DW⟩,⟨k1,k2⟩⟩
theorem z1ki (h:DataW.trod enc Tryz.prog W 0 eV vy n 28 cs=some y) (hl:cs.length=1):∃ a:List yT,(p28 (ZW W) cs a)/\(a.length<=9223372036854775807/\∀ x∈a,kd375 x):=by
 obtain⟨ao,cap,l,rfl,hz,hL⟩:=gk (Pr:=fun r x=>(g6 (ZW W) r x)/\(kd375 x)) (sz:=3) Tryz.underlying28 (fun _ _ _=>z1kh) h
 unfold maxLen at hL
 exact⟨l,⟨ao,cap,rfl,hz.weak (fun _ _ h=>h.1)⟩,⟨by omega,hz.all (q:=fun x=>kd375 x) (fun _ _ h=>h.2)⟩⟩
theorem z1kj (h:DataW.trod enc Tryz.prog W 0 eV vy n 377 cs=some y) (hl:cs.length=4):∃ a:yS,(cs=ge a)/\(kd377 a):=by
 obtain⟨y0,m0,h0⟩:=xW 0 Tryz.underlying377 h
 try dsimp only at h0
 rw[cl_9] at h0
 obtain⟨a0,r0,k0⟩:=el_9 h0 (by simp[hl])
 obtain⟨y1,m1,h1⟩:=xW 1 Tryz.underlying377 h
 try dsimp only at h1
 rw[cl_3] at h1
 obtain⟨a1,r1,k1⟩:=el_3 h1 (by simp[hl])
 obtain⟨y2,m2,h2⟩:=xW 2 Tryz.underlying377 h
 try dsimp only at h2
 rw[cl_9] at h2
 obtain⟨a2,r2,k2⟩:=el_9 h2 (by simp[hl])
 obtain⟨y3,m3,h3⟩:=xW 3 Tryz.underlying377 h
 try dsimp only at h3
 rw[cl_3] at h3
 obtain⟨a3,r3,k3⟩:=el_3 h3 (by simp[hl])
 obtain⟨u0,u1,u2,u3,rfl⟩:∃ u0 u1 u2 u3,cs=[u0,u1,u2,u3]:=by match cs,hl with | [u0,u1,u2,u3],_=>exact⟨_,_,_,_,rfl⟩
 simp[e9] at r0
 simp[e3] at r1
 simp[e9] at r2
 simp[e3] at r3
 exact⟨⟨a0,a1,a2,a3⟩,by simp[ge, *],⟨k1,k3⟩⟩
theorem z1kk (h:DataW.trod enc Tryz.prog W 0 eV vy n 29 cs=some y) (hl:cs.length=1):∃ a:List yS,(p29 (ZW W) cs a)/\(a.length<=9223372036854775807/\∀ x∈a,kd377 x):=by
 obtain⟨ao,cap,l,rfl,hz,hL⟩:=gk (Pr:=fun r x=>(r=ge x)/\(kd377 x)) (sz:=4) Tryz.underlying29 (fun _ _ _=>z1kj) h
 unfold maxLen at hL
 exact⟨l,⟨ao,cap,rfl,hz.weak (fun _ _ h=>h.1)⟩,⟨by omega,hz.all (q:=fun x=>kd377 x) (fun _ _ h=>h.2)⟩⟩
theorem z1kl (h:DataW.trod enc Tryz.prog W 0 eV vy n 31 cs=some y) (hl:cs.length=8):∃ a:zu,(p31 (ZW W) cs a)/\(kd31 a):=by
 obtain⟨y0,m0,h0⟩:=xW 0 Tryz.underlying31 h
 try dsimp only at h0
 rw[z1jG] at h0
 obtain⟨a0,r0,k0⟩:=z1k3 h0 (by simp[hl])
 obtain⟨y1,m1,h1⟩:=xW 1 Tryz.underlying31 h
 try dsimp only at h1
 rw[z1jH] at h1
 obtain⟨a1,r1,k1⟩:=z1k5 h1 (by simp[hl])
 obtain⟨y2,m2,h2⟩:=xW 2 Tryz.underlying31 h
 try dsimp only at h2
 rw[z1jI] at h2
 obtain⟨a2,r2,k2⟩:=z1k7 h2 (by simp[hl])
 obtain⟨y3,m3,h3⟩:=xW 3 Tryz.underlying31 h
 try dsimp only at h3
 rw[z1jJ] at h3
 obtain⟨a3,r3,k3⟩:=z1k9 h3 (by simp[hl])
 obtain⟨y4,m4,h4⟩:=xW 4 Tryz.underlying31 h
 try dsimp only at h4
 rw[z1jK] at h4
 obtain⟨a4,r4,k4⟩:=z1kb h4 (by simp[hl])
 obtain⟨y5,m5,h5⟩:=xW 5 Tryz.underlying31 h
 try dsimp only at h5
 rw[z1jL] at h5
 obtain⟨a5,r5,k5⟩:=z1kd h5 (by simp[hl])
 obtain⟨y6,m6,h6⟩:=xW 6 Tryz.underlying31 h
 try dsimp only at h6
 rw[z1jM] at h6
 obtain⟨a6,r6,k6⟩:=z1ki h6 (by simp[hl])
 obtain⟨y7,m7,h7⟩:=xW 7 Tryz.underlying31 h
 try dsimp only at h7
 rw[z1jN] at h7
 obtain⟨a7,r7,k7⟩:=z1kk h7 (by simp[hl])
 obtain⟨u0,u1,u2,u3,u4,u5,u6,u7,rfl⟩:∃ u0 u1 u2 u3 u4 u5 u6 u7,cs=[u0,u1,u2,u3,u4,u5,u6,u7]:=by match cs,hl with | [u0,u1,u2,u3,u4,u5,u6,u7],_=>exact⟨_,_,_,_,_,_,_,_,rfl⟩
 obtain⟨B7,B8,r0,DX⟩:=r0
 simp at r0
 obtain⟨Ax,Ay,r1,B4⟩:=r1
 simp at r1
 obtain⟨B5,B6,r2,DW⟩:=r2
 simp at r2
 obtain⟨B0,B3,r3,DV⟩:=r3
 simp at r3
 obtain⟨zG,zH,r4,AV⟩:=r4
 simp at r4
 obtain⟨Hi,Hj,r5,z5x0⟩:=r5
 simp at r5
 obtain⟨Hk,Hl,r6,z6x0⟩:=r6
 simp at r6
 obtain⟨BX,BY,r7,DU⟩:=r7
 simp at r7
 refine⟨⟨a0,a1,a2,a3,a4,a5,a6,a7⟩,⟨B7,B8,Ax,Ay,B5,B6,B0,B3,zG,zH,Hi,Hj,Hk,Hl,BX,BY,by simp[*],DX,B4,DW,DV,AV,z5x0,z6x0,DU⟩,⟨k0,k1,k2,k3,k4,k5,k6,k7⟩⟩
theorem z1km (h:DataW.trod enc Tryz.prog W 0 eV vy n 60 cs=some y) (hl:cs.length=3):∃ a:zd,(cs=mN a)/\(kd60 a):=by
 obtain⟨y0,m0,h0⟩:=xW 0 Tryz.underlying60 h
 try dsimp only at h0
 rw[cl_3] at h0
 obtain⟨a0,r0,k0⟩:=el_3 h0 (by simp[hl])
 obtain⟨y1,m1,h1⟩:=xW 1 Tryz.underlying60 h
 try dsimp only at h1
 rw[cl_3] at h1
 obtain⟨a1,r1,k1⟩:=el_3 h1 (by simp[hl])
 obtain⟨y2,m2,h2⟩:=xW 2 Tryz.underlying60 h
 try dsimp only at h2
 rw[cl_3] at h2
 obtain⟨a2,r2,k2⟩:=el_3 h2 (by simp[hl])
 obtain⟨u0,u1,u2,rfl⟩:∃ u0 u1 u2,cs=[u0,u1,u2]:=by match cs,hl with | [u0,u1,u2],_=>exact⟨_,_,_,rfl⟩
 simp[e3] at r0
 simp[e3] at r1
 simp[e3] at r2
 exact⟨⟨a0,a1,a2⟩,by simp[mN, *],⟨k0,k1,k2⟩⟩
theorem z1kn (h:DataW.trod enc Tryz.prog W 0 eV vy n 58 cs=some y) (hl:cs.length=1):∃ a:List zd,(g9 (ZW W) cs a)/\(a.length<=9223372036854775807/\∀ x∈a,kd60 x):=by
 obtain⟨ao,cap,l,rfl,hz,hL⟩:=gk (Pr:=fun r x=>(r=mN x)/\(kd60 x)) (sz:=3) Tryz.underlying58 (fun _ _ _=>z1km) h
 unfold maxLen at hL
 exact⟨l,⟨ao,cap,rfl,hz.weak (fun _ _ h=>h.1)⟩,⟨by omega,hz.all (q:=fun x=>kd60 x) (fun _ _ h=>h.2)⟩⟩
end
theorem own:ownKnob Tryz.prog.godebug=none:=by kernel_rfl
theorem laid:laidOutB Tryz.prog=true:=by kernel_rfl
set_option maxRecDepth 100000 in
theorem lifted (os:Os) (Ak:os.Started) (H:Type) (enc:TypeId×Value->H):
  ReturnsInHanded {} Tryz.checked os 9 .any (Rows.holisticReachedSpec.pre6 enc Tryz.prog Tryz.f9 Rows.holisticReachedRow.domain false) (Rows.holisticReachedSpec.post enc Tryz.prog Tryz.f9 false true false false):=by
 refine returnsInHanded_of_change (C:=Tryz.checked) own Ak (by kernel_rfl) Tryz.func9
  (ChangeSpec.witness6 (enc:=enc) (C:=Tryz.checked) false ⟨#[],#[(.agg #[.slice none 0 0,.slice none 0 0,.slice none 0 0,.slice none 0 0,.slice none 0 0,.slice none 0 0,.slice none 0 0,.slice none 0 0]),.int .i64 0,.slice none 0 0,.int .u8 0],[]⟩ 8 (by kernel_rfl) (by kernel_rfl) (by kernel_rfl) (by kernel_rfl)) ?_
 intro W base args ds gs zg Hm hW hcnd _
 have Ai:∀(j:Nat) t v,Tryz.f9.params[j]?=some t->args[j]?=some v->Value.okWide Tryz.prog W .any base t v:=Hm
 have D3:=hW
 obtain⟨p,q,hA0,hV,rfl,hfz,Aq⟩:=hW
 have hA:DataW.TrodAll enc Tryz.prog W 0 (fun _=>true) true Tryz.f9.params.toList args.toList ds p:=hA0
 rw[Tryz.params9] at hA Ai
 obtain⟨v0,vs0,d0,ds0,p0,q0,hargs,rfl,rfl,h0,r0⟩:=trodAll_cons hA
 obtain⟨v1,vs1,d1,ds1,p1,q1,rfl,rfl,rfl,h1,r1⟩:=trodAll_cons r0
 obtain⟨v2,vs2,d2,ds2,p2,q2,rfl,rfl,rfl,h2,r2⟩:=trodAll_cons r1
 obtain⟨v3,vs3,d3,ds3,p3,q3,rfl,rfl,rfl,h3,r3⟩:=trodAll_cons r2
 obtain⟨rfl,rfl,rfl⟩:=trodAll_nil r3
 obtain rfl:args = #[v0,v1,v2,v3]:=by cases args;simp_all
 obtain⟨rfl,rfl⟩:=trodVars_none hV
 obtain⟨fuel0,hf0⟩:=h0
 obtain⟨cs0,rfl,Eu,hg0⟩:=T3 (Ai 0 31 v0 rfl rfl) hf0 Tryz.underlying31 (show Tryz.prog.cellsOf 31=8 by kernel_rfl)
 obtain⟨x0,hr0,bd0⟩:=z1kl hg0 Eu
 obtain⟨B7,B8,Hn,Hq,Hr,Hs,Ht,Hu,Hv,Hw,Hx,Hy,Hz,HA,HE,HG,rfl,DX,z0x1,z0x2,z0x3,z0x4,z0x5,z0x6,z0x7⟩:=hr0
 obtain⟨x1,rfl,hd1,zw,wf1⟩:=open_int Tryz.underlying3 (Ai 1 3 v1 rfl rfl) h1
 have bd1:=Go.bounds_i64 wf1
 obtain⟨CC,m2,Ah,x2,rfl,hs2,hL2⟩:=U9 (Pr:=fun r x=>(g9 (ZW W) r x)/\(x.length<=9223372036854775807/\∀ y∈x,kd60 y)) (sz:=1) Tryz.underlying32 (by kernel_rfl) (by decide) (fun _ _ _=>z1kn) (Ai 2 32 v2 rfl rfl) h2
 unfold maxLen at hL2
 obtain⟨rfl,Bx⟩:=Vc hs2
 have bd2:=Bx.all (q:=fun x=>x.length<=9223372036854775807/\∀ y∈x,kd60 y) (fun _ _ h=>h.2)
 replace Bx:=Bx.weak (Pr':=(g9 (ZW W))) (fun _ _ h=>h.1)
 obtain⟨x3,rfl,hd3,hp3,wf3⟩:=open_int Tryz.underlying5 (Ai 3 5 v3 rfl rfl) h3
 have bd3:=Go.bounds_u8 wf3
 have HH:=law x0 x1 x2 x3 bd3
 refine(bC (Z:=ZW W) (z8v:=B7) (z8w:=B8) (z8x:=Hn) (z8y:=Hq) (zdA:=Hr) (zdB:=Hs) (z8z:=Ht) (z8A:=Hu) (z8B:=Hv) (z8C:=Hw) (z8D:=Hx) (z8E:=Hy) (z8F:=Hz) (z8G:=HA) (z8H:=HE) (z8I:=HG) (zt2:=CC) (zt3:=Ah) (zf:=x0) (z7E:=x1) (z1a:=x2) (z1q:=x3) (r:=true) HH (ZW_pz W) DX z0x1 z0x2 z0x3 z0x4 z0x5 z0x6 z0x7 Bx).mono fun e W' ⟨he,hh⟩=>?_
 subst he
 exact⟨_,rfl,GO laid (by kernel_rfl) rfl rfl Tryz.underlying4 D3 (fun _=>⟨rfl,rfl,rfl⟩) hh.below⟩
theorem jand {a b:Bool} (h:a=true) (k:b=true):(a&&b)=true:=by rw[h,k];rfl
theorem jf0:(Rows.holisticReachedRow.wf (OpenSpec.ofChange Rows.holisticReachedSpec))=true:=by kernel_rfl
theorem jf1:(laidOutB Tryz.pinned.checked.prog)=true:=by kernel_rfl
theorem jf2:(mapsRowed Tryz.pinned.checked.prog)=true:=by kernel_rfl
theorem jf3:(Tryz.f9.params.all (Tryz.pinned.checked.prog.readableRec ·))=true:=by kernel_rfl
theorem jf4:(namedTie Tryz.pinned.checked.prog Rows.holisticReachedRow.named Rows.holisticReachedSpec.vars)=true:=by kernel_rfl
theorem jf5:((Rows.holisticReachedRow.stops == []))=true:=by kernel_rfl
theorem jf6:((Tryz.pinned.checked.prog.stops == []))=true:=by kernel_rfl
theorem jf7:((Rows.holisticReachedRow.knobs == []))=true:=by kernel_rfl
theorem jf8:((Tryz.pinned.checked.prog.stopKnobs == []))=true:=by kernel_rfl
theorem jf9:((Rows.holisticReachedRow.inPlace == Tryz.pinned.checked.prog.inPlace 9))=true:=by kernel_rfl
theorem jf10:((Rows.holisticReachedRow.unfollowed == Tryz.pinned.checked.prog.unfollowed 9))=true:=by kernel_rfl
theorem jf11:((Rows.holisticReachedRow.recurses == Tryz.pinned.checked.prog.recurses 9))=true:=by kernel_rfl
theorem jf12:((Rows.holisticReachedRow.named == Tryz.pinned.checked.prog.varsNamed 9))=true:=by kernel_rfl
theorem jf13:((Rows.holisticReachedRow.maps == (Tryz.f9.params.toList++Rows.holisticReachedSpec.plain.varTypes Tryz.pinned.checked.prog).any (Tryz.pinned.checked.prog.mapsRec ·)))=true:=by kernel_rfl
theorem jf14:((Rows.holisticReachedRow.ifaces == (Tryz.f9.params.toList++Rows.holisticReachedSpec.plain.varTypes Tryz.pinned.checked.prog).any (Tryz.pinned.checked.prog.ifacesRec ·)))=true:=by kernel_rfl
theorem jf15:((Rows.holisticReachedRow.mapsOut == Tryz.pinned.checked.prog.mapsAmong Tryz.f9.resultTypes.toList))=true:=by kernel_rfl
theorem jf16:((Rows.holisticReachedRow.loops == (Tryz.f9.params.toList++Rows.holisticReachedSpec.plain.varTypes Tryz.pinned.checked.prog).any (Tryz.pinned.checked.prog.loopsFrom ·)))=true:=by kernel_rfl
theorem jf17:((Rows.holisticReachedRow.wideKeys == (Tryz.f9.params.toList++Rows.holisticReachedSpec.plain.varTypes Tryz.pinned.checked.prog++Tryz.f9.resultTypes.toList).any (Tryz.pinned.checked.prog.wideKeysFrom ·)))=true:=by kernel_rfl
theorem jf18:(Rows.holisticReachedSpec.vars.all (Tryz.pinned.checked.prog.varReadable ·))=true:=by kernel_rfl
theorem jf19:(Tryz.f9.resultTypes.all (fun t=>Tryz.pinned.checked.prog.readableRec t&&decide (t<Tryz.pinned.checked.prog.types.size)))=true:=by kernel_rfl
theorem jf20:((Rows.holisticReachedRow.ifacesOut == Tryz.f9.resultTypes.toList.any (Tryz.pinned.checked.prog.ifacesRec ·)))=true:=by kernel_rfl
theorem jf21:((Rows.holisticReachedRow.loopsOut == Tryz.f9.resultTypes.toList.any (Tryz.pinned.checked.prog.loopsFrom ·)))=true:=by kernel_rfl
theorem jf22:((Rows.holisticReachedRow.plainKeys == Tryz.pinned.checked.prog.plainKeys))=true:=by kernel_rfl
theorem jf23:(Rows.holisticReachedRow.shortTexts.isNone)=true:=by kernel_rfl
theorem jf24:(Tryz.pinned.checked.prog.stopsHeard)=true:=by kernel_rfl
theorem jf25:(Tryz.pinned.checked.prog.mayEnter)=true:=by kernel_rfl
theorem jf26:((Rows.holisticReachedRow.lifted == Tryz.pinned.checked.prog.liftsFinal))=true:=by kernel_rfl
theorem jf27:((Tryz.pinned.checked.prog.make == some Rows.holisticReachedRow.make))=true:=by kernel_rfl
theorem jf28:((Rows.holisticReachedRow.kinds == (if Rows.holisticReachedRow.domain.isEmpty then[] else Tryz.f9.params.toList.map fun t=>match Tryz.pinned.checked.prog.underlying t with | some (.int k)=>some k | _=>none)))=true:=by kernel_rfl
theorem jf29:((Rows.holisticReachedRow.pinned == Rows.holisticReachedRow.pinnedBy))=true:=by kernel_rfl
theorem jf30:((Rows.holisticReachedRow.veiled == (Tryz.f9.params.toList++Rows.holisticReachedSpec.plain.varTypes Tryz.pinned.checked.prog++Tryz.f9.resultTypes.toList).any (Tryz.pinned.checked.prog.veiledRec ·)))=true:=by kernel_rfl
theorem jf31:(Rows.holisticReachedRow.veiledFits Tryz.pinned.checked.prog Tryz.f9.params.toList (Tryz.f9.params.toList++Rows.holisticReachedSpec.plain.varTypes Tryz.pinned.checked.prog++Tryz.f9.resultTypes.toList))=true:=by kernel_rfl
set_option maxRecDepth 100000 in
theorem jclosed:joinedFacts Tryz.pinned.checked.prog 9 Tryz.f9 Rows.holisticReachedSpec Rows.holisticReachedRow=true:=by
 unfold joinedFacts
 exact(jand (jand (jand (jand (jand (jand (jand (jand (jand (jand (jand (jand (jand (jand (jand (jand (jand (jand (jand (jand (jand (jand (jand (jand (jand (jand (jand (jand (jand (jand (jand jf0 jf1) jf2) jf3) jf4) jf5) jf6) jf7) jf8) jf9) jf10) jf11) jf12) jf13) jf14) jf15) jf16) jf17) jf18) jf19) jf20) jf21) jf22) jf23) jf24) jf25) jf26) jf27) jf28) jf29) jf30) jf31)
theorem over:Rows.holisticReachedRow.holds Tryz.pinned (OpenSpec.ofChange Rows.holisticReachedSpec):=
 OpenClaim.holds_of_wide 9 Tryz.f9 rfl rfl rfl rfl rfl rfl rfl ⟨rfl,rfl,rfl,rfl,rfl⟩ rfl rfl rfl rfl rfl (by kernel_rfl) Tryz.func9 jclosed
  (of_decide_eq_true (by kernel_rfl)) (by unfold Func.isWrapper;first | (rw[if_pos (by decide +kernel)];kernel_rfl) | (rw[if_neg (by decide +kernel)];exact⟨rfl,rfl⟩))
  (fun os Ak H enc _=>lifted os Ak H enc)
theorem proved:Rows.HolisticReachedSaid:=over
#print axioms proved
end Go.Proofs.YthjnhebofpebpaaGreat.holisticReached
