/-
 Whatever the input, the law HolisticTells of layer 36 returns true, and its arguments read behind the call as before it. No conditions.
-/
import Derived.Test.YthjnhebofpebpaaGreatPHolisticTells
import Derived.Test.YthjnhebofpebpaaGreatZMem
import Derived.Test.YthjnhebofpebpaaGreatRows
set_option linter.all false
namespace Go.Proofs.YthjnhebofpebpaaGreat.holisticTells
open Go.ChangeShapes Go.WideShapes Go.ChangeAt Go.RowKit Sep
set_option linter.unusedVariables false
def p31 (Z:Zp) (r:List Value) (x:zi):Prop:=∃(kA:Option Addr) (iu:Nat) (Bh:Option Addr) (zd:Nat) (Cb:Option Addr) (zF:Nat) (Cc:Option Addr) (zG:Nat) (ao4:Option Addr) (D6:Nat) (ao5:Option Addr) (D7:Nat) (ao6:Option Addr) (D8:Nat) (ao7:Option Addr) (D9:Nat),r=[(.slice kA x.fM.length iu),(.slice Bh x.yc.length zd),(.slice Cb x.fS.length zF),(.slice Cc x.fK.length zG),(.slice ao4 x.yd.length D6),(.slice ao5 x.fH.length D7),(.slice ao6 x.fU.length D8),(.slice ao7 x.yb.length D9)]/\ZS Z 4 (vU Z) kA iu x.fM/\ZS Z 4 (qr Z) Bh zd x.yc/\ZS Z 4 (fun r x=>r=jm x) Cb zF x.fS/\ZS Z 4 (fun r x=>r=qm x) Cc zG x.fK/\ZS Z 7 (qK Z) ao4 D6 x.yd/\ZS Z 5 (fun r x=>r=qI x) ao5 D7 x.fH/\ZS Z 3 (qs Z) ao6 D8 x.fU/\ZS Z 4 (fun r x=>r=qJ x) ao7 D9 x.yb
def p22 (Z:Zp) (r:List Value) (x:List yx):Prop:=∃(kA:Option Addr) (iu:Nat),r=[(.slice kA x.length iu)]/\ZS Z 4 (vU Z) kA iu x
def p124 (Z:Zp) (r:List Value) (x:List yI):Prop:=∃(kA:Option Addr) (iu:Nat),r=[(.slice kA x.length iu)]/\ZS Z 10 (Y6 Z) kA iu x
def p378 (Z:Zp) (r:List Value) (x:List yK):Prop:=∃(kA:Option Addr) (iu:Nat),r=[(.slice kA x.length iu)]/\ZS Z 6 (fun r x=>r=XI x) kA iu x
def e4 (x:Bool):List Value:=[(.bool x)]
def p379 (Z:Zp) (r:List Value) (x:List yJ):Prop:=∃(kA:Option Addr) (iu:Nat),r=[(.slice kA x.length iu)]/\ZS Z 5 (Y5 Z) kA iu x
def p388 (Z:Zp) (r:List Value) (x:List yM):Prop:=∃(kA:Option Addr) (iu:Nat),r=[(.slice kA x.length iu)]/\ZS Z 4 (fun r x=>r=XJ x) kA iu x
def p23 (Z:Zp) (r:List Value) (x:List yC):Prop:=∃(kA:Option Addr) (iu:Nat),r=[(.slice kA x.length iu)]/\ZS Z 4 (qr Z) kA iu x
def p67 (Z:Zp) (r:List Value) (x:List yv):Prop:=∃(kA:Option Addr) (iu:Nat),r=[(.slice kA x.length iu)]/\ZS Z 3 (fun r x=>r=lZ x) kA iu x
def p24 (Z:Zp) (r:List Value) (x:List yz):Prop:=∃(kA:Option Addr) (iu:Nat),r=[(.slice kA x.length iu)]/\ZS Z 4 (fun r x=>r=jm x) kA iu x
def p25 (Z:Zp) (r:List Value) (x:List yA):Prop:=∃(kA:Option Addr) (iu:Nat),r=[(.slice kA x.length iu)]/\ZS Z 4 (fun r x=>r=qm x) kA iu x
def p26 (Z:Zp) (r:List Value) (x:List ym):Prop:=∃(kA:Option Addr) (iu:Nat),r=[(.slice kA x.length iu)]/\ZS Z 7 (qK Z) kA iu x
def p27 (Z:Zp) (r:List Value) (x:List yG):Prop:=∃(kA:Option Addr) (iu:Nat),r=[(.slice kA x.length iu)]/\ZS Z 5 (fun r x=>r=qI x) kA iu x
def p28 (Z:Zp) (r:List Value) (x:List yF):Prop:=∃(kA:Option Addr) (iu:Nat),r=[(.slice kA x.length iu)]/\ZS Z 3 (qs Z) kA iu x
def p372 (Z:Zp) (r:List Value) (x:List yH):Prop:=∃(kA:Option Addr) (iu:Nat),r=[(.slice kA x.length iu)]/\ZS Z 2 (fun r x=>r=XK x) kA iu x
def p373 (Z:Zp) (r:List Value) (x:List ByteArray):Prop:=∃(kA:Option Addr) (iu:Nat),r=[(.slice kA x.length iu)]/\ZS Z 1 (fun r x=>r=e9 x) kA iu x
def p29 (Z:Zp) (r:List Value) (x:List yE):Prop:=∃(kA:Option Addr) (iu:Nat),r=[(.slice kA x.length iu)]/\ZS Z 4 (fun r x=>r=qJ x) kA iu x
abbrev i6 (a:Int):Prop := -9223372036854775808<=a/\a<=9223372036854775807
abbrev kd387 (a:yK):Prop:=(0<=a.xc/\a.xc<=255)/\(i6 a.xj)/\(i6 a.xh)/\(i6 a.yW)
abbrev kd392 (a:yM):Prop:=(0<=a.fOp/\a.fOp<=255)/\(i6 a.fA)/\(i6 a.fB)/\(i6 a.fC)
abbrev kd390 (a:yJ):Prop:=(i6 a.xi)/\(i6 a.yN)/\(i6 a.xf)/\(a.yO.length<=9223372036854775807/\∀ x∈a.yO,kd392 x)
abbrev kd381 (a:yI):Prop:=(i6 a.yN)/\(i6 a.yZ)/\(i6 a.yV)/\(a.yQ.length<=9223372036854775807/\∀ x∈a.yQ,-9223372036854775808<=x/\x<=9223372036854775807)/\(i6 a.xb)/\(i6 a.xa)/\(a.yU.length<=9223372036854775807/\∀ x∈a.yU,-9223372036854775808<=x/\x<=9223372036854775807)/\(a.fP.length<=9223372036854775807/\∀ x∈a.fP,kd387 x)/\(a.yS.length<=9223372036854775807/\∀ x∈a.yS,kd390 x)
abbrev kd126 (a:yx):Prop:=(i6 a.yV)/\(i6 a.xg)/\(a.yP.length<=9223372036854775807/\∀ x∈a.yP,kd381 x)
abbrev kd369 (a:yC):Prop:=(a.yy.length<=9223372036854775807)
abbrev kd64 (a:yz):Prop:=(i6 a.yB)/\(i6 a.yf)/\(i6 a.fT)
abbrev kd62 (a:yA):Prop:=(i6 a.yB)/\(i6 a.yj)
abbrev kd69 (a:ym):Prop:=(i6 a.yo)/\(i6 a.yn)/\(a.yy.length<=9223372036854775807)
abbrev kd371 (a:yG):Prop:=(0<=a.yY/\a.yY<=255)/\(0<=a.yX/\a.yX<=255)/\(0<=a.fDo/\a.fDo<=255)
abbrev kd385 (a:yH):Prop:=(i6 a.yO)
abbrev kd375 (a:yF):Prop:=(a.yR.length<=9223372036854775807/\∀ x∈a.yR,kd385 x)/\(a.yT.length<=9223372036854775807)
abbrev kd377 (a:yE):Prop:=(i6 a.fVA)/\(i6 a.fVB)
abbrev kd31 (a:zi):Prop:=(a.fM.length<=9223372036854775807/\∀ x∈a.fM,kd126 x)/\(a.yc.length<=9223372036854775807/\∀ x∈a.yc,kd369 x)/\(a.fS.length<=9223372036854775807/\∀ x∈a.fS,kd64 x)/\(a.fK.length<=9223372036854775807/\∀ x∈a.fK,kd62 x)/\(a.yd.length<=9223372036854775807/\∀ x∈a.yd,kd69 x)/\(a.fH.length<=9223372036854775807/\∀ x∈a.fH,kd371 x)/\(a.fU.length<=9223372036854775807/\∀ x∈a.fU,kd375 x)/\(a.yb.length<=9223372036854775807/\∀ x∈a.yb,kd377 x)
abbrev kd60 (a:za):Prop:=(i6 a.ya)/\(i6 a.fX)/\(i6 a.fQ)
abbrev kd37 (a:ye):Prop:=(i6 a.ya)/\(i6 a.fQ)/\(i6 a.yf)/\(i6 a.fT)
theorem cl_3:Tryz.prog.cellsOf 3=1:=by kernel_rfl
theorem cl_4:Tryz.prog.cellsOf 4=1:=by kernel_rfl
theorem cl_5:Tryz.prog.cellsOf 5=1:=by kernel_rfl
theorem cl_9:Tryz.prog.cellsOf 9=1:=by kernel_rfl
theorem z1mg:Tryz.prog.cellsOf 22=1:=by kernel_rfl
theorem z1mh:Tryz.prog.cellsOf 23=1:=by kernel_rfl
theorem z1mi:Tryz.prog.cellsOf 24=1:=by kernel_rfl
theorem z1mj:Tryz.prog.cellsOf 25=1:=by kernel_rfl
theorem z1mk:Tryz.prog.cellsOf 26=1:=by kernel_rfl
theorem z1ml:Tryz.prog.cellsOf 27=1:=by kernel_rfl
theorem z1mm:Tryz.prog.cellsOf 28=1:=by kernel_rfl
theorem z1mn:Tryz.prog.cellsOf 29=1:=by kernel_rfl
theorem zWd:Tryz.prog.cellsOf 50=1:=by kernel_rfl
theorem zWe:Tryz.prog.cellsOf 66=3:=by kernel_rfl
theorem zWf:Tryz.prog.cellsOf 67=1:=by kernel_rfl
theorem z1mo:Tryz.prog.cellsOf 124=1:=by kernel_rfl
theorem z1mp:Tryz.prog.cellsOf 372=1:=by kernel_rfl
theorem z1mq:Tryz.prog.cellsOf 373=1:=by kernel_rfl
theorem z1mr:Tryz.prog.cellsOf 378=1:=by kernel_rfl
theorem z1ms:Tryz.prog.cellsOf 379=1:=by kernel_rfl
theorem z1mt:Tryz.prog.cellsOf 388=1:=by kernel_rfl
section
variable {H:Type} {enc:TypeId×Value->H} {W:World} {iC:Nat->Bool} {ll:Bool} (n:Nat) (cs:List Value) (y:DataW H×List MemPlace)
theorem el_9 (h:DataW.trod enc Tryz.prog W 0 iC ll n 9 cs=some y) (hl:cs.length=1):∃ a:ByteArray,(cs=e9 a)/\(True):=by
 obtain⟨a,rfl,-,-⟩:=DataW.trod_string Tryz.underlying9 h
 exact⟨a,rfl,trivial⟩
theorem el_3 (h:DataW.trod enc Tryz.prog W 0 iC ll n 3 cs=some y) (hl:cs.length=1):∃ a:Int,(cs=e3 a)/\(-9223372036854775808<=a/\a<=9223372036854775807):=by
 obtain⟨a,rfl,-,wf⟩:=DataW.trod_int Tryz.underlying3 h
 exact⟨a,rfl,Go.bounds_i64 wf⟩
theorem zWg (h:DataW.trod enc Tryz.prog W 0 iC ll n 50 cs=some y) (hl:cs.length=1):∃ a:List Int,(re (ZW W) cs a)/\(a.length<=9223372036854775807/\∀ x∈a,-9223372036854775808<=x/\x<=9223372036854775807):=by
 obtain⟨ao,cap,l,rfl,hz,hL⟩:=jV (Pr:=fun r x=>(r=e3 x)/\(-9223372036854775808<=x/\x<=9223372036854775807)) (sz:=1) Tryz.underlying50 (by kernel_rfl) (by decide) el_3 h
 unfold maxLen at hL
 exact⟨l,⟨ao,cap,rfl,hz.weak (fun _ _ h=>h.1)⟩,⟨by omega,hz.all (q:=fun x => -9223372036854775808<=x/\x<=9223372036854775807) (fun _ _ h=>h.2)⟩⟩
theorem el_5 (h:DataW.trod enc Tryz.prog W 0 iC ll n 5 cs=some y) (hl:cs.length=1):∃ a:Int,(cs=e5 a)/\(0<=a/\a<=255):=by
 obtain⟨a,rfl,-,wf⟩:=DataW.trod_int Tryz.underlying5 h
 exact⟨a,rfl,Go.bounds_u8 wf⟩
theorem el_4 (h:DataW.trod enc Tryz.prog W 0 iC ll n 4 cs=some y) (hl:cs.length=1):∃ a:Bool,(cs=e4 a)/\(True):=by
 obtain⟨a,rfl,-⟩:=DataW.trod_bool Tryz.underlying4 h
 exact⟨a,rfl,trivial⟩
theorem z1mu (h:DataW.trod enc Tryz.prog W 0 iC ll n 387 cs=some y) (hl:cs.length=6):∃ a:yK,(cs=XI a)/\(kd387 a):=by
 obtain⟨y0,m0,h0⟩:=xI 0 Tryz.underlying387 h rfl
 try dsimp only at h0
 rw[cl_9] at h0
 obtain⟨a0,r0,k0⟩:=el_9 _ _ _ h0 (by simp[hl])
 obtain⟨y1,m1,h1⟩:=xI 1 Tryz.underlying387 h rfl
 try dsimp only at h1
 rw[cl_5] at h1
 obtain⟨a1,r1,k1⟩:=el_5 _ _ _ h1 (by simp[hl])
 obtain⟨y2,m2,h2⟩:=xI 2 Tryz.underlying387 h rfl
 try dsimp only at h2
 rw[cl_4] at h2
 obtain⟨a2,r2,k2⟩:=el_4 _ _ _ h2 (by simp[hl])
 obtain⟨y3,m3,h3⟩:=xI 3 Tryz.underlying387 h rfl
 try dsimp only at h3
 rw[cl_3] at h3
 obtain⟨a3,r3,k3⟩:=el_3 _ _ _ h3 (by simp[hl])
 obtain⟨y4,m4,h4⟩:=xI 4 Tryz.underlying387 h rfl
 try dsimp only at h4
 rw[cl_3] at h4
 obtain⟨a4,r4,k4⟩:=el_3 _ _ _ h4 (by simp[hl])
 obtain⟨y5,m5,h5⟩:=xI 5 Tryz.underlying387 h rfl
 try dsimp only at h5
 rw[cl_3] at h5
 obtain⟨a5,r5,k5⟩:=el_3 _ _ _ h5 (by simp[hl])
 obtain⟨u0,u1,u2,u3,u4,u5,rfl⟩:∃ u0 u1 u2 u3 u4 u5,cs=[u0,u1,u2,u3,u4,u5]:=by match cs,hl with | [u0,u1,u2,u3,u4,u5],_=>exact⟨_,_,_,_,_,_,rfl⟩
 simp[e9] at r0
 simp[e5] at r1
 simp[e4] at r2
 simp[e3] at r3
 simp[e3] at r4
 simp[e3] at r5
 exact⟨⟨a0,a1,a2,a3,a4,a5⟩,by simp[XI, *],⟨k1,k3,k4,k5⟩⟩
theorem z1mv (h:DataW.trod enc Tryz.prog W 0 iC ll n 378 cs=some y) (hl:cs.length=1):∃ a:List yK,(p378 (ZW W) cs a)/\(a.length<=9223372036854775807/\∀ x∈a,kd387 x):=by
 obtain⟨ao,cap,l,rfl,hz,hL⟩:=jV (Pr:=fun r x=>(r=XI x)/\(kd387 x)) (sz:=6) Tryz.underlying378 (by kernel_rfl) (by decide) z1mu h
 unfold maxLen at hL
 exact⟨l,⟨ao,cap,rfl,hz.weak (fun _ _ h=>h.1)⟩,⟨by omega,hz.all (q:=fun x=>kd387 x) (fun _ _ h=>h.2)⟩⟩
theorem z1mw (h:DataW.trod enc Tryz.prog W 0 iC ll n 392 cs=some y) (hl:cs.length=4):∃ a:yM,(cs=XJ a)/\(kd392 a):=by
 obtain⟨y0,m0,h0⟩:=xI 0 Tryz.underlying392 h rfl
 try dsimp only at h0
 rw[cl_5] at h0
 obtain⟨a0,r0,k0⟩:=el_5 _ _ _ h0 (by simp[hl])
 obtain⟨y1,m1,h1⟩:=xI 1 Tryz.underlying392 h rfl
 try dsimp only at h1
 rw[cl_3] at h1
 obtain⟨a1,r1,k1⟩:=el_3 _ _ _ h1 (by simp[hl])
 obtain⟨y2,m2,h2⟩:=xI 2 Tryz.underlying392 h rfl
 try dsimp only at h2
 rw[cl_3] at h2
 obtain⟨a2,r2,k2⟩:=el_3 _ _ _ h2 (by simp[hl])
 obtain⟨y3,m3,h3⟩:=xI 3 Tryz.underlying392 h rfl
 try dsimp only at h3
 rw[cl_3] at h3
 obtain⟨a3,r3,k3⟩:=el_3 _ _ _ h3 (by simp[hl])
 obtain⟨u0,u1,u2,u3,rfl⟩:∃ u0 u1 u2 u3,cs=[u0,u1,u2,u3]:=by match cs,hl with | [u0,u1,u2,u3],_=>exact⟨_,_,_,_,rfl⟩
 simp[e5] at r0
 simp[e3] at r1
 simp[e3] at r2
 simp[e3] at r3
 exact⟨⟨a0,a1,a2,a3⟩,by simp[XJ, *],⟨k0,k1,k2,k3⟩⟩
theorem z1mx (h:DataW.trod enc Tryz.prog W 0 iC ll n 388 cs=some y) (hl:cs.length=1):∃ a:List yM,(p388 (ZW W) cs a)/\(a.length<=9223372036854775807/\∀ x∈a,kd392 x):=by
 obtain⟨ao,cap,l,rfl,hz,hL⟩:=jV (Pr:=fun r x=>(r=XJ x)/\(kd392 x)) (sz:=4) Tryz.underlying388 (by kernel_rfl) (by decide) z1mw h
 unfold maxLen at hL
 exact⟨l,⟨ao,cap,rfl,hz.weak (fun _ _ h=>h.1)⟩,⟨by omega,hz.all (q:=fun x=>kd392 x) (fun _ _ h=>h.2)⟩⟩
theorem z1my (h:DataW.trod enc Tryz.prog W 0 iC ll n 390 cs=some y) (hl:cs.length=5):∃ a:yJ,(Y5 (ZW W) cs a)/\(kd390 a):=by
 obtain⟨y0,m0,h0⟩:=xI 0 Tryz.underlying390 h rfl
 try dsimp only at h0
 rw[cl_9] at h0
 obtain⟨a0,r0,k0⟩:=el_9 _ _ _ h0 (by simp[hl])
 obtain⟨y1,m1,h1⟩:=xI 1 Tryz.underlying390 h rfl
 try dsimp only at h1
 rw[cl_3] at h1
 obtain⟨a1,r1,k1⟩:=el_3 _ _ _ h1 (by simp[hl])
 obtain⟨y2,m2,h2⟩:=xI 2 Tryz.underlying390 h rfl
 try dsimp only at h2
 rw[cl_3] at h2
 obtain⟨a2,r2,k2⟩:=el_3 _ _ _ h2 (by simp[hl])
 obtain⟨y3,m3,h3⟩:=xI 3 Tryz.underlying390 h rfl
 try dsimp only at h3
 rw[cl_3] at h3
 obtain⟨a3,r3,k3⟩:=el_3 _ _ _ h3 (by simp[hl])
 obtain⟨y4,m4,h4⟩:=xI 4 Tryz.underlying390 h rfl
 try dsimp only at h4
 rw[z1mt] at h4
 obtain⟨a4,r4,k4⟩:=z1mx _ _ _ h4 (by simp[hl])
 obtain⟨u0,u1,u2,u3,u4,rfl⟩:∃ u0 u1 u2 u3 u4,cs=[u0,u1,u2,u3,u4]:=by match cs,hl with | [u0,u1,u2,u3,u4],_=>exact⟨_,_,_,_,_,rfl⟩
 simp[e9] at r0
 simp[e3] at r1
 simp[e3] at r2
 simp[e3] at r3
 obtain⟨zo,zp,r4,As⟩:=r4
 simp at r4
 refine⟨⟨a0,a1,a2,a3,a4⟩,⟨zo,zp,by simp[*],As⟩,⟨k1,k2,k3,k4⟩⟩
theorem z1mz (h:DataW.trod enc Tryz.prog W 0 iC ll n 379 cs=some y) (hl:cs.length=1):∃ a:List yJ,(p379 (ZW W) cs a)/\(a.length<=9223372036854775807/\∀ x∈a,kd390 x):=by
 obtain⟨ao,cap,l,rfl,hz,hL⟩:=jV (Pr:=fun r x=>(Y5 (ZW W) r x)/\(kd390 x)) (sz:=5) Tryz.underlying379 (by kernel_rfl) (by decide) z1my h
 unfold maxLen at hL
 exact⟨l,⟨ao,cap,rfl,hz.weak (fun _ _ h=>h.1)⟩,⟨by omega,hz.all (q:=fun x=>kd390 x) (fun _ _ h=>h.2)⟩⟩
theorem z1mA (h:DataW.trod enc Tryz.prog W 0 iC ll n 381 cs=some y) (hl:cs.length=10):∃ a:yI,(Y6 (ZW W) cs a)/\(kd381 a):=by
 obtain⟨y0,m0,h0⟩:=xI 0 Tryz.underlying381 h rfl
 try dsimp only at h0
 rw[cl_9] at h0
 obtain⟨a0,r0,k0⟩:=el_9 _ _ _ h0 (by simp[hl])
 obtain⟨y1,m1,h1⟩:=xI 1 Tryz.underlying381 h rfl
 try dsimp only at h1
 rw[cl_3] at h1
 obtain⟨a1,r1,k1⟩:=el_3 _ _ _ h1 (by simp[hl])
 obtain⟨y2,m2,h2⟩:=xI 2 Tryz.underlying381 h rfl
 try dsimp only at h2
 rw[cl_3] at h2
 obtain⟨a2,r2,k2⟩:=el_3 _ _ _ h2 (by simp[hl])
 obtain⟨y3,m3,h3⟩:=xI 3 Tryz.underlying381 h rfl
 try dsimp only at h3
 rw[cl_3] at h3
 obtain⟨a3,r3,k3⟩:=el_3 _ _ _ h3 (by simp[hl])
 obtain⟨y4,m4,h4⟩:=xI 4 Tryz.underlying381 h rfl
 try dsimp only at h4
 rw[zWd] at h4
 obtain⟨a4,r4,k4⟩:=zWg _ _ _ h4 (by simp[hl])
 obtain⟨y5,m5,h5⟩:=xI 5 Tryz.underlying381 h rfl
 try dsimp only at h5
 rw[cl_3] at h5
 obtain⟨a5,r5,k5⟩:=el_3 _ _ _ h5 (by simp[hl])
 obtain⟨y6,m6,h6⟩:=xI 6 Tryz.underlying381 h rfl
 try dsimp only at h6
 rw[cl_3] at h6
 obtain⟨a6,r6,k6⟩:=el_3 _ _ _ h6 (by simp[hl])
 obtain⟨y7,m7,h7⟩:=xI 7 Tryz.underlying381 h rfl
 try dsimp only at h7
 rw[zWd] at h7
 obtain⟨a7,r7,k7⟩:=zWg _ _ _ h7 (by simp[hl])
 obtain⟨y8,m8,h8⟩:=xI 8 Tryz.underlying381 h rfl
 try dsimp only at h8
 rw[z1mr] at h8
 obtain⟨a8,r8,k8⟩:=z1mv _ _ _ h8 (by simp[hl])
 obtain⟨y9,m9,h9⟩:=xI 9 Tryz.underlying381 h rfl
 try dsimp only at h9
 rw[z1ms] at h9
 obtain⟨a9,r9,k9⟩:=z1mz _ _ _ h9 (by simp[hl])
 obtain⟨u0,u1,u2,u3,u4,u5,u6,u7,u8,u9,rfl⟩:∃ u0 u1 u2 u3 u4 u5 u6 u7 u8 u9,cs=[u0,u1,u2,u3,u4,u5,u6,u7,u8,u9]:=by match cs,hl with | [u0,u1,u2,u3,u4,u5,u6,u7,u8,u9],_=>exact⟨_,_,_,_,_,_,_,_,_,_,rfl⟩
 simp[e9] at r0
 simp[e3] at r1
 simp[e3] at r2
 simp[e3] at r3
 obtain⟨zo,zp,r4,As⟩:=r4
 simp at r4
 simp[e3] at r5
 simp[e3] at r6
 obtain⟨BA,BB,r7,CY⟩:=r7
 simp at r7
 obtain⟨Ea,Eb,r8,z8x0⟩:=r8
 simp at r8
 obtain⟨Ec,Ed,r9,z9x0⟩:=r9
 simp at r9
 refine⟨⟨a0,a1,a2,a3,a4,a5,a6,a7,a8,a9⟩,⟨zo,zp,BA,BB,Ea,Eb,Ec,Ed,by simp[*],As,CY,z8x0,z9x0⟩,⟨k1,k2,k3,k4,k5,k6,k7,k8,k9⟩⟩
theorem z1mB (h:DataW.trod enc Tryz.prog W 0 iC ll n 124 cs=some y) (hl:cs.length=1):∃ a:List yI,(p124 (ZW W) cs a)/\(a.length<=9223372036854775807/\∀ x∈a,kd381 x):=by
 obtain⟨ao,cap,l,rfl,hz,hL⟩:=jV (Pr:=fun r x=>(Y6 (ZW W) r x)/\(kd381 x)) (sz:=10) Tryz.underlying124 (by kernel_rfl) (by decide) z1mA h
 unfold maxLen at hL
 exact⟨l,⟨ao,cap,rfl,hz.weak (fun _ _ h=>h.1)⟩,⟨by omega,hz.all (q:=fun x=>kd381 x) (fun _ _ h=>h.2)⟩⟩
theorem z1mC (h:DataW.trod enc Tryz.prog W 0 iC ll n 126 cs=some y) (hl:cs.length=4):∃ a:yx,(vU (ZW W) cs a)/\(kd126 a):=by
 obtain⟨y0,m0,h0⟩:=xI 0 Tryz.underlying126 h rfl
 try dsimp only at h0
 rw[cl_9] at h0
 obtain⟨a0,r0,k0⟩:=el_9 _ _ _ h0 (by simp[hl])
 obtain⟨y1,m1,h1⟩:=xI 1 Tryz.underlying126 h rfl
 try dsimp only at h1
 rw[cl_3] at h1
 obtain⟨a1,r1,k1⟩:=el_3 _ _ _ h1 (by simp[hl])
 obtain⟨y2,m2,h2⟩:=xI 2 Tryz.underlying126 h rfl
 try dsimp only at h2
 rw[cl_3] at h2
 obtain⟨a2,r2,k2⟩:=el_3 _ _ _ h2 (by simp[hl])
 obtain⟨y3,m3,h3⟩:=xI 3 Tryz.underlying126 h rfl
 try dsimp only at h3
 rw[z1mo] at h3
 obtain⟨a3,r3,k3⟩:=z1mB _ _ _ h3 (by simp[hl])
 obtain⟨u0,u1,u2,u3,rfl⟩:∃ u0 u1 u2 u3,cs=[u0,u1,u2,u3]:=by match cs,hl with | [u0,u1,u2,u3],_=>exact⟨_,_,_,_,rfl⟩
 simp[e9] at r0
 simp[e3] at r1
 simp[e3] at r2
 obtain⟨BC,BD,r3,CZ⟩:=r3
 simp at r3
 refine⟨⟨a0,a1,a2,a3⟩,⟨BC,BD,by simp[*],CZ⟩,⟨k1,k2,k3⟩⟩
theorem z1mD (h:DataW.trod enc Tryz.prog W 0 iC ll n 22 cs=some y) (hl:cs.length=1):∃ a:List yx,(p22 (ZW W) cs a)/\(a.length<=9223372036854775807/\∀ x∈a,kd126 x):=by
 obtain⟨ao,cap,l,rfl,hz,hL⟩:=jV (Pr:=fun r x=>(vU (ZW W) r x)/\(kd126 x)) (sz:=4) Tryz.underlying22 (by kernel_rfl) (by decide) z1mC h
 unfold maxLen at hL
 exact⟨l,⟨ao,cap,rfl,hz.weak (fun _ _ h=>h.1)⟩,⟨by omega,hz.all (q:=fun x=>kd126 x) (fun _ _ h=>h.2)⟩⟩
theorem zMk (h:DataW.trod enc Tryz.prog W 0 iC ll n 66 cs=some y) (hl:cs.length=3):∃ a:yv,(cs=lZ a)/\(True):=by
 obtain⟨y0,m0,h0⟩:=xI 0 Tryz.underlying66 h rfl
 try dsimp only at h0
 rw[cl_9] at h0
 obtain⟨a0,r0,k0⟩:=el_9 _ _ _ h0 (by simp[hl])
 obtain⟨y1,m1,h1⟩:=xI 1 Tryz.underlying66 h rfl
 try dsimp only at h1
 rw[cl_9] at h1
 obtain⟨a1,r1,k1⟩:=el_9 _ _ _ h1 (by simp[hl])
 obtain⟨y2,m2,h2⟩:=xI 2 Tryz.underlying66 h rfl
 try dsimp only at h2
 rw[cl_9] at h2
 obtain⟨a2,r2,k2⟩:=el_9 _ _ _ h2 (by simp[hl])
 obtain⟨u0,u1,u2,rfl⟩:∃ u0 u1 u2,cs=[u0,u1,u2]:=by match cs,hl with | [u0,u1,u2],_=>exact⟨_,_,_,rfl⟩
 simp[e9] at r0
 simp[e9] at r1
 simp[e9] at r2
 exact⟨⟨a0,a1,a2⟩,by simp[lZ, *],trivial⟩
theorem zWh (h:DataW.trod enc Tryz.prog W 0 iC ll n 67 cs=some y) (hl:cs.length=1):∃ a:List yv,(p67 (ZW W) cs a)/\(a.length<=9223372036854775807):=by
 obtain⟨ao,cap,l,rfl,hz,hL⟩:=jV (Pr:=fun r x=>(r=lZ x)/\(True)) (sz:=3) Tryz.underlying67 (by kernel_rfl) (by decide) zMk h
 unfold maxLen at hL
 exact⟨l,⟨ao,cap,rfl,hz.weak (fun _ _ h=>h.1)⟩,by omega⟩
theorem z1mE (h:DataW.trod enc Tryz.prog W 0 iC ll n 369 cs=some y) (hl:cs.length=4):∃ a:yC,(qr (ZW W) cs a)/\(kd369 a):=by
 obtain⟨y0,m0,h0⟩:=xI 0 Tryz.underlying369 h rfl
 try dsimp only at h0
 rw[zWe] at h0
 obtain⟨a0,r0,k0⟩:=zMk _ _ _ h0 (by simp[hl])
 obtain⟨y1,m1,h1⟩:=xI 1 Tryz.underlying369 h rfl
 try dsimp only at h1
 rw[zWf] at h1
 obtain⟨a1,r1,k1⟩:=zWh _ _ _ h1 (by simp[hl])
 obtain⟨u0,u1,u2,u3,rfl⟩:∃ u0 u1 u2 u3,cs=[u0,u1,u2,u3]:=by match cs,hl with | [u0,u1,u2,u3],_=>exact⟨_,_,_,_,rfl⟩
 simp[lZ] at r0
 obtain⟨Af,Ag,r1,BE⟩:=r1
 simp at r1
 refine⟨⟨a0,a1⟩,⟨Af,Ag,by simp[*],BE⟩,k1⟩
theorem z1mF (h:DataW.trod enc Tryz.prog W 0 iC ll n 23 cs=some y) (hl:cs.length=1):∃ a:List yC,(p23 (ZW W) cs a)/\(a.length<=9223372036854775807/\∀ x∈a,kd369 x):=by
 obtain⟨ao,cap,l,rfl,hz,hL⟩:=jV (Pr:=fun r x=>(qr (ZW W) r x)/\(kd369 x)) (sz:=4) Tryz.underlying23 (by kernel_rfl) (by decide) z1mE h
 unfold maxLen at hL
 exact⟨l,⟨ao,cap,rfl,hz.weak (fun _ _ h=>h.1)⟩,⟨by omega,hz.all (q:=fun x=>kd369 x) (fun _ _ h=>h.2)⟩⟩
theorem z1mG (h:DataW.trod enc Tryz.prog W 0 iC ll n 64 cs=some y) (hl:cs.length=4):∃ a:yz,(cs=jm a)/\(kd64 a):=by
 obtain⟨y0,m0,h0⟩:=xI 0 Tryz.underlying64 h rfl
 try dsimp only at h0
 rw[cl_9] at h0
 obtain⟨a0,r0,k0⟩:=el_9 _ _ _ h0 (by simp[hl])
 obtain⟨y1,m1,h1⟩:=xI 1 Tryz.underlying64 h rfl
 try dsimp only at h1
 rw[cl_3] at h1
 obtain⟨a1,r1,k1⟩:=el_3 _ _ _ h1 (by simp[hl])
 obtain⟨y2,m2,h2⟩:=xI 2 Tryz.underlying64 h rfl
 try dsimp only at h2
 rw[cl_3] at h2
 obtain⟨a2,r2,k2⟩:=el_3 _ _ _ h2 (by simp[hl])
 obtain⟨y3,m3,h3⟩:=xI 3 Tryz.underlying64 h rfl
 try dsimp only at h3
 rw[cl_3] at h3
 obtain⟨a3,r3,k3⟩:=el_3 _ _ _ h3 (by simp[hl])
 obtain⟨u0,u1,u2,u3,rfl⟩:∃ u0 u1 u2 u3,cs=[u0,u1,u2,u3]:=by match cs,hl with | [u0,u1,u2,u3],_=>exact⟨_,_,_,_,rfl⟩
 simp[e9] at r0
 simp[e3] at r1
 simp[e3] at r2
 simp[e3] at r3
 exact⟨⟨a0,a1,a2,a3⟩,by simp[jm, *],⟨k1,k2,k3⟩⟩
theorem z1mH (h:DataW.trod enc Tryz.prog W 0 iC ll n 24 cs=some y) (hl:cs.length=1):∃ a:List yz,(p24 (ZW W) cs a)/\(a.length<=9223372036854775807/\∀ x∈a,kd64 x):=by
 obtain⟨ao,cap,l,rfl,hz,hL⟩:=jV (Pr:=fun r x=>(r=jm x)/\(kd64 x)) (sz:=4) Tryz.underlying24 (by kernel_rfl) (by decide) z1mG h
 unfold maxLen at hL
 exact⟨l,⟨ao,cap,rfl,hz.weak (fun _ _ h=>h.1)⟩,⟨by omega,hz.all (q:=fun x=>kd64 x) (fun _ _ h=>h.2)⟩⟩
theorem z1mI (h:DataW.trod enc Tryz.prog W 0 iC ll n 62 cs=some y) (hl:cs.length=4):∃ a:yA,(cs=qm a)/\(kd62 a):=by
 obtain⟨y0,m0,h0⟩:=xI 0 Tryz.underlying62 h rfl
 try dsimp only at h0
 rw[cl_9] at h0
 obtain⟨a0,r0,k0⟩:=el_9 _ _ _ h0 (by simp[hl])
 obtain⟨y1,m1,h1⟩:=xI 1 Tryz.underlying62 h rfl
 try dsimp only at h1
 rw[cl_9] at h1
 obtain⟨a1,r1,k1⟩:=el_9 _ _ _ h1 (by simp[hl])
 obtain⟨y2,m2,h2⟩:=xI 2 Tryz.underlying62 h rfl
 try dsimp only at h2
 rw[cl_3] at h2
 obtain⟨a2,r2,k2⟩:=el_3 _ _ _ h2 (by simp[hl])
 obtain⟨y3,m3,h3⟩:=xI 3 Tryz.underlying62 h rfl
 try dsimp only at h3
 rw[cl_3] at h3
 obtain⟨a3,r3,k3⟩:=el_3 _ _ _ h3 (by simp[hl])
 obtain⟨u0,u1,u2,u3,rfl⟩:∃ u0 u1 u2 u3,cs=[u0,u1,u2,u3]:=by match cs,hl with | [u0,u1,u2,u3],_=>exact⟨_,_,_,_,rfl⟩
 simp[e9] at r0
 simp[e9] at r1
 simp[e3] at r2
 simp[e3] at r3
 exact⟨⟨a0,a1,a2,a3⟩,by simp[qm, *],⟨k2,k3⟩⟩
theorem z1mJ (h:DataW.trod enc Tryz.prog W 0 iC ll n 25 cs=some y) (hl:cs.length=1):∃ a:List yA,(p25 (ZW W) cs a)/\(a.length<=9223372036854775807/\∀ x∈a,kd62 x):=by
 obtain⟨ao,cap,l,rfl,hz,hL⟩:=jV (Pr:=fun r x=>(r=qm x)/\(kd62 x)) (sz:=4) Tryz.underlying25 (by kernel_rfl) (by decide) z1mI h
 unfold maxLen at hL
 exact⟨l,⟨ao,cap,rfl,hz.weak (fun _ _ h=>h.1)⟩,⟨by omega,hz.all (q:=fun x=>kd62 x) (fun _ _ h=>h.2)⟩⟩
theorem z1mK (h:DataW.trod enc Tryz.prog W 0 iC ll n 69 cs=some y) (hl:cs.length=7):∃ a:ym,(qK (ZW W) cs a)/\(kd69 a):=by
 obtain⟨y0,m0,h0⟩:=xI 0 Tryz.underlying69 h rfl
 try dsimp only at h0
 rw[cl_9] at h0
 obtain⟨a0,r0,k0⟩:=el_9 _ _ _ h0 (by simp[hl])
 obtain⟨y1,m1,h1⟩:=xI 1 Tryz.underlying69 h rfl
 try dsimp only at h1
 rw[zWe] at h1
 obtain⟨a1,r1,k1⟩:=zMk _ _ _ h1 (by simp[hl])
 obtain⟨y2,m2,h2⟩:=xI 2 Tryz.underlying69 h rfl
 try dsimp only at h2
 rw[cl_3] at h2
 obtain⟨a2,r2,k2⟩:=el_3 _ _ _ h2 (by simp[hl])
 obtain⟨y3,m3,h3⟩:=xI 3 Tryz.underlying69 h rfl
 try dsimp only at h3
 rw[cl_3] at h3
 obtain⟨a3,r3,k3⟩:=el_3 _ _ _ h3 (by simp[hl])
 obtain⟨y4,m4,h4⟩:=xI 4 Tryz.underlying69 h rfl
 try dsimp only at h4
 rw[zWf] at h4
 obtain⟨a4,r4,k4⟩:=zWh _ _ _ h4 (by simp[hl])
 obtain⟨u0,u1,u2,u3,u4,u5,u6,rfl⟩:∃ u0 u1 u2 u3 u4 u5 u6,cs=[u0,u1,u2,u3,u4,u5,u6]:=by match cs,hl with | [u0,u1,u2,u3,u4,u5,u6],_=>exact⟨_,_,_,_,_,_,_,rfl⟩
 simp[e9] at r0
 simp[lZ] at r1
 simp[e3] at r2
 simp[e3] at r3
 obtain⟨zo,zp,r4,As⟩:=r4
 simp at r4
 refine⟨⟨a0,a1,a2,a3,a4⟩,⟨zo,zp,by simp[*],As⟩,⟨k2,k3,k4⟩⟩
theorem z1mL (h:DataW.trod enc Tryz.prog W 0 iC ll n 26 cs=some y) (hl:cs.length=1):∃ a:List ym,(p26 (ZW W) cs a)/\(a.length<=9223372036854775807/\∀ x∈a,kd69 x):=by
 obtain⟨ao,cap,l,rfl,hz,hL⟩:=jV (Pr:=fun r x=>(qK (ZW W) r x)/\(kd69 x)) (sz:=7) Tryz.underlying26 (by kernel_rfl) (by decide) z1mK h
 unfold maxLen at hL
 exact⟨l,⟨ao,cap,rfl,hz.weak (fun _ _ h=>h.1)⟩,⟨by omega,hz.all (q:=fun x=>kd69 x) (fun _ _ h=>h.2)⟩⟩
theorem z1mM (h:DataW.trod enc Tryz.prog W 0 iC ll n 371 cs=some y) (hl:cs.length=5):∃ a:yG,(cs=qI a)/\(kd371 a):=by
 obtain⟨y0,m0,h0⟩:=xI 0 Tryz.underlying371 h rfl
 try dsimp only at h0
 rw[cl_9] at h0
 obtain⟨a0,r0,k0⟩:=el_9 _ _ _ h0 (by simp[hl])
 obtain⟨y1,m1,h1⟩:=xI 1 Tryz.underlying371 h rfl
 try dsimp only at h1
 rw[cl_9] at h1
 obtain⟨a1,r1,k1⟩:=el_9 _ _ _ h1 (by simp[hl])
 obtain⟨y2,m2,h2⟩:=xI 2 Tryz.underlying371 h rfl
 try dsimp only at h2
 rw[cl_5] at h2
 obtain⟨a2,r2,k2⟩:=el_5 _ _ _ h2 (by simp[hl])
 obtain⟨y3,m3,h3⟩:=xI 3 Tryz.underlying371 h rfl
 try dsimp only at h3
 rw[cl_5] at h3
 obtain⟨a3,r3,k3⟩:=el_5 _ _ _ h3 (by simp[hl])
 obtain⟨y4,m4,h4⟩:=xI 4 Tryz.underlying371 h rfl
 try dsimp only at h4
 rw[cl_5] at h4
 obtain⟨a4,r4,k4⟩:=el_5 _ _ _ h4 (by simp[hl])
 obtain⟨u0,u1,u2,u3,u4,rfl⟩:∃ u0 u1 u2 u3 u4,cs=[u0,u1,u2,u3,u4]:=by match cs,hl with | [u0,u1,u2,u3,u4],_=>exact⟨_,_,_,_,_,rfl⟩
 simp[e9] at r0
 simp[e9] at r1
 simp[e5] at r2
 simp[e5] at r3
 simp[e5] at r4
 exact⟨⟨a0,a1,a2,a3,a4⟩,by simp[qI, *],⟨k2,k3,k4⟩⟩
theorem z1mN (h:DataW.trod enc Tryz.prog W 0 iC ll n 27 cs=some y) (hl:cs.length=1):∃ a:List yG,(p27 (ZW W) cs a)/\(a.length<=9223372036854775807/\∀ x∈a,kd371 x):=by
 obtain⟨ao,cap,l,rfl,hz,hL⟩:=jV (Pr:=fun r x=>(r=qI x)/\(kd371 x)) (sz:=5) Tryz.underlying27 (by kernel_rfl) (by decide) z1mM h
 unfold maxLen at hL
 exact⟨l,⟨ao,cap,rfl,hz.weak (fun _ _ h=>h.1)⟩,⟨by omega,hz.all (q:=fun x=>kd371 x) (fun _ _ h=>h.2)⟩⟩
theorem z1mO (h:DataW.trod enc Tryz.prog W 0 iC ll n 385 cs=some y) (hl:cs.length=2):∃ a:yH,(cs=XK a)/\(kd385 a):=by
 obtain⟨y0,m0,h0⟩:=xI 0 Tryz.underlying385 h rfl
 try dsimp only at h0
 rw[cl_9] at h0
 obtain⟨a0,r0,k0⟩:=el_9 _ _ _ h0 (by simp[hl])
 obtain⟨y1,m1,h1⟩:=xI 1 Tryz.underlying385 h rfl
 try dsimp only at h1
 rw[cl_3] at h1
 obtain⟨a1,r1,k1⟩:=el_3 _ _ _ h1 (by simp[hl])
 obtain⟨u0,u1,rfl⟩:∃ u0 u1,cs=[u0,u1]:=by match cs,hl with | [u0,u1],_=>exact⟨_,_,rfl⟩
 simp[e9] at r0
 simp[e3] at r1
 exact⟨⟨a0,a1⟩,by simp[XK, *],k1⟩
theorem z1mP (h:DataW.trod enc Tryz.prog W 0 iC ll n 372 cs=some y) (hl:cs.length=1):∃ a:List yH,(p372 (ZW W) cs a)/\(a.length<=9223372036854775807/\∀ x∈a,kd385 x):=by
 obtain⟨ao,cap,l,rfl,hz,hL⟩:=jV (Pr:=fun r x=>(r=XK x)/\(kd385 x)) (sz:=2) Tryz.underlying372 (by kernel_rfl) (by decide) z1mO h
 unfold maxLen at hL
 exact⟨l,⟨ao,cap,rfl,hz.weak (fun _ _ h=>h.1)⟩,⟨by omega,hz.all (q:=fun x=>kd385 x) (fun _ _ h=>h.2)⟩⟩
theorem z1mQ (h:DataW.trod enc Tryz.prog W 0 iC ll n 373 cs=some y) (hl:cs.length=1):∃ a:List ByteArray,(p373 (ZW W) cs a)/\(a.length<=9223372036854775807):=by
 obtain⟨ao,cap,l,rfl,hz,hL⟩:=jV (Pr:=fun r x=>(r=e9 x)/\(True)) (sz:=1) Tryz.underlying373 (by kernel_rfl) (by decide) el_9 h
 unfold maxLen at hL
 exact⟨l,⟨ao,cap,rfl,hz.weak (fun _ _ h=>h.1)⟩,by omega⟩
theorem z1mR (h:DataW.trod enc Tryz.prog W 0 iC ll n 375 cs=some y) (hl:cs.length=3):∃ a:yF,(qs (ZW W) cs a)/\(kd375 a):=by
 obtain⟨y0,m0,h0⟩:=xI 0 Tryz.underlying375 h rfl
 try dsimp only at h0
 rw[cl_9] at h0
 obtain⟨a0,r0,k0⟩:=el_9 _ _ _ h0 (by simp[hl])
 obtain⟨y1,m1,h1⟩:=xI 1 Tryz.underlying375 h rfl
 try dsimp only at h1
 rw[z1mp] at h1
 obtain⟨a1,r1,k1⟩:=z1mP _ _ _ h1 (by simp[hl])
 obtain⟨y2,m2,h2⟩:=xI 2 Tryz.underlying375 h rfl
 try dsimp only at h2
 rw[z1mq] at h2
 obtain⟨a2,r2,k2⟩:=z1mQ _ _ _ h2 (by simp[hl])
 obtain⟨u0,u1,u2,rfl⟩:∃ u0 u1 u2,cs=[u0,u1,u2]:=by match cs,hl with | [u0,u1,u2],_=>exact⟨_,_,_,rfl⟩
 simp[e9] at r0
 obtain⟨Af,Ag,r1,BE⟩:=r1
 simp at r1
 obtain⟨BF,BG,r2,C0⟩:=r2
 simp at r2
 refine⟨⟨a0,a1,a2⟩,⟨Af,Ag,BF,BG,by simp[*],BE,C0⟩,⟨k1,k2⟩⟩
theorem z1mS (h:DataW.trod enc Tryz.prog W 0 iC ll n 28 cs=some y) (hl:cs.length=1):∃ a:List yF,(p28 (ZW W) cs a)/\(a.length<=9223372036854775807/\∀ x∈a,kd375 x):=by
 obtain⟨ao,cap,l,rfl,hz,hL⟩:=jV (Pr:=fun r x=>(qs (ZW W) r x)/\(kd375 x)) (sz:=3) Tryz.underlying28 (by kernel_rfl) (by decide) z1mR h
 unfold maxLen at hL
 exact⟨l,⟨ao,cap,rfl,hz.weak (fun _ _ h=>h.1)⟩,⟨by omega,hz.all (q:=fun x=>kd375 x) (fun _ _ h=>h.2)⟩⟩
theorem z1mT (h:DataW.trod enc Tryz.prog W 0 iC ll n 377 cs=some y) (hl:cs.length=4):∃ a:yE,(cs=qJ a)/\(kd377 a):=by
 obtain⟨y0,m0,h0⟩:=xI 0 Tryz.underlying377 h rfl
 try dsimp only at h0
 rw[cl_9] at h0
 obtain⟨a0,r0,k0⟩:=el_9 _ _ _ h0 (by simp[hl])
 obtain⟨y1,m1,h1⟩:=xI 1 Tryz.underlying377 h rfl
 try dsimp only at h1
 rw[cl_3] at h1
 obtain⟨a1,r1,k1⟩:=el_3 _ _ _ h1 (by simp[hl])
 obtain⟨y2,m2,h2⟩:=xI 2 Tryz.underlying377 h rfl
 try dsimp only at h2
 rw[cl_9] at h2
 obtain⟨a2,r2,k2⟩:=el_9 _ _ _ h2 (by simp[hl])
 obtain⟨y3,m3,h3⟩:=xI 3 Tryz.underlying377 h rfl
 try dsimp only at h3
 rw[cl_3] at h3
 obtain⟨a3,r3,k3⟩:=el_3 _ _ _ h3 (by simp[hl])
 obtain⟨u0,u1,u2,u3,rfl⟩:∃ u0 u1 u2 u3,cs=[u0,u1,u2,u3]:=by match cs,hl with | [u0,u1,u2,u3],_=>exact⟨_,_,_,_,rfl⟩
 simp[e9] at r0
 simp[e3] at r1
 simp[e9] at r2
 simp[e3] at r3
 exact⟨⟨a0,a1,a2,a3⟩,by simp[qJ, *],⟨k1,k3⟩⟩
theorem z1mU (h:DataW.trod enc Tryz.prog W 0 iC ll n 29 cs=some y) (hl:cs.length=1):∃ a:List yE,(p29 (ZW W) cs a)/\(a.length<=9223372036854775807/\∀ x∈a,kd377 x):=by
 obtain⟨ao,cap,l,rfl,hz,hL⟩:=jV (Pr:=fun r x=>(r=qJ x)/\(kd377 x)) (sz:=4) Tryz.underlying29 (by kernel_rfl) (by decide) z1mT h
 unfold maxLen at hL
 exact⟨l,⟨ao,cap,rfl,hz.weak (fun _ _ h=>h.1)⟩,⟨by omega,hz.all (q:=fun x=>kd377 x) (fun _ _ h=>h.2)⟩⟩
theorem z1mV (h:DataW.trod enc Tryz.prog W 0 iC ll n 31 cs=some y) (hl:cs.length=8):∃ a:zi,(p31 (ZW W) cs a)/\(kd31 a):=by
 obtain⟨y0,m0,h0⟩:=xI 0 Tryz.underlying31 h rfl
 try dsimp only at h0
 rw[z1mg] at h0
 obtain⟨a0,r0,k0⟩:=z1mD _ _ _ h0 (by simp[hl])
 obtain⟨y1,m1,h1⟩:=xI 1 Tryz.underlying31 h rfl
 try dsimp only at h1
 rw[z1mh] at h1
 obtain⟨a1,r1,k1⟩:=z1mF _ _ _ h1 (by simp[hl])
 obtain⟨y2,m2,h2⟩:=xI 2 Tryz.underlying31 h rfl
 try dsimp only at h2
 rw[z1mi] at h2
 obtain⟨a2,r2,k2⟩:=z1mH _ _ _ h2 (by simp[hl])
 obtain⟨y3,m3,h3⟩:=xI 3 Tryz.underlying31 h rfl
 try dsimp only at h3
 rw[z1mj] at h3
 obtain⟨a3,r3,k3⟩:=z1mJ _ _ _ h3 (by simp[hl])
 obtain⟨y4,m4,h4⟩:=xI 4 Tryz.underlying31 h rfl
 try dsimp only at h4
 rw[z1mk] at h4
 obtain⟨a4,r4,k4⟩:=z1mL _ _ _ h4 (by simp[hl])
 obtain⟨y5,m5,h5⟩:=xI 5 Tryz.underlying31 h rfl
 try dsimp only at h5
 rw[z1ml] at h5
 obtain⟨a5,r5,k5⟩:=z1mN _ _ _ h5 (by simp[hl])
 obtain⟨y6,m6,h6⟩:=xI 6 Tryz.underlying31 h rfl
 try dsimp only at h6
 rw[z1mm] at h6
 obtain⟨a6,r6,k6⟩:=z1mS _ _ _ h6 (by simp[hl])
 obtain⟨y7,m7,h7⟩:=xI 7 Tryz.underlying31 h rfl
 try dsimp only at h7
 rw[z1mn] at h7
 obtain⟨a7,r7,k7⟩:=z1mU _ _ _ h7 (by simp[hl])
 obtain⟨u0,u1,u2,u3,u4,u5,u6,u7,rfl⟩:∃ u0 u1 u2 u3 u4 u5 u6 u7,cs=[u0,u1,u2,u3,u4,u5,u6,u7]:=by match cs,hl with | [u0,u1,u2,u3,u4,u5,u6,u7],_=>exact⟨_,_,_,_,_,_,_,_,rfl⟩
 obtain⟨BH,BI,r0,C1⟩:=r0
 simp at r0
 obtain⟨Af,Ag,r1,BE⟩:=r1
 simp at r1
 obtain⟨BF,BG,r2,C0⟩:=r2
 simp at r2
 obtain⟨BC,BD,r3,CZ⟩:=r3
 simp at r3
 obtain⟨zo,zp,r4,As⟩:=r4
 simp at r4
 obtain⟨Ee,Eg,r5,z5x0⟩:=r5
 simp at r5
 obtain⟨Eh,Ei,r6,z6x0⟩:=r6
 simp at r6
 obtain⟨BA,BB,r7,CY⟩:=r7
 simp at r7
 refine⟨⟨a0,a1,a2,a3,a4,a5,a6,a7⟩,⟨BH,BI,Af,Ag,BF,BG,BC,BD,zo,zp,Ee,Eg,Eh,Ei,BA,BB,by simp[*],C1,BE,C0,CZ,As,z5x0,z6x0,CY⟩,⟨k0,k1,k2,k3,k4,k5,k6,k7⟩⟩
theorem z1mW (h:DataW.trod enc Tryz.prog W 0 iC ll n 60 cs=some y) (hl:cs.length=3):∃ a:za,(cs=vw a)/\(kd60 a):=by
 obtain⟨y0,m0,h0⟩:=xI 0 Tryz.underlying60 h rfl
 try dsimp only at h0
 rw[cl_3] at h0
 obtain⟨a0,r0,k0⟩:=el_3 _ _ _ h0 (by simp[hl])
 obtain⟨y1,m1,h1⟩:=xI 1 Tryz.underlying60 h rfl
 try dsimp only at h1
 rw[cl_3] at h1
 obtain⟨a1,r1,k1⟩:=el_3 _ _ _ h1 (by simp[hl])
 obtain⟨y2,m2,h2⟩:=xI 2 Tryz.underlying60 h rfl
 try dsimp only at h2
 rw[cl_3] at h2
 obtain⟨a2,r2,k2⟩:=el_3 _ _ _ h2 (by simp[hl])
 obtain⟨u0,u1,u2,rfl⟩:∃ u0 u1 u2,cs=[u0,u1,u2]:=by match cs,hl with | [u0,u1,u2],_=>exact⟨_,_,_,rfl⟩
 simp[e3] at r0
 simp[e3] at r1
 simp[e3] at r2
 exact⟨⟨a0,a1,a2⟩,by simp[vw, *],⟨k0,k1,k2⟩⟩
theorem z1mX (h:DataW.trod enc Tryz.prog W 0 iC ll n 58 cs=some y) (hl:cs.length=1):∃ a:List za,(qt (ZW W) cs a)/\(a.length<=9223372036854775807/\∀ x∈a,kd60 x):=by
 obtain⟨ao,cap,l,rfl,hz,hL⟩:=jV (Pr:=fun r x=>(r=vw x)/\(kd60 x)) (sz:=3) Tryz.underlying58 (by kernel_rfl) (by decide) z1mW h
 unfold maxLen at hL
 exact⟨l,⟨ao,cap,rfl,hz.weak (fun _ _ h=>h.1)⟩,⟨by omega,hz.all (q:=fun x=>kd60 x) (fun _ _ h=>h.2)⟩⟩
theorem z1mY (h:DataW.trod enc Tryz.prog W 0 iC ll n 37 cs=some y) (hl:cs.length=4):∃ a:ye,(cs=xY a)/\(kd37 a):=by
 obtain⟨y0,m0,h0⟩:=xI 0 Tryz.underlying37 h rfl
 try dsimp only at h0
 rw[cl_3] at h0
 obtain⟨a0,r0,k0⟩:=el_3 _ _ _ h0 (by simp[hl])
 obtain⟨y1,m1,h1⟩:=xI 1 Tryz.underlying37 h rfl
 try dsimp only at h1
 rw[cl_3] at h1
 obtain⟨a1,r1,k1⟩:=el_3 _ _ _ h1 (by simp[hl])
 obtain⟨y2,m2,h2⟩:=xI 2 Tryz.underlying37 h rfl
 try dsimp only at h2
 rw[cl_3] at h2
 obtain⟨a2,r2,k2⟩:=el_3 _ _ _ h2 (by simp[hl])
 obtain⟨y3,m3,h3⟩:=xI 3 Tryz.underlying37 h rfl
 try dsimp only at h3
 rw[cl_3] at h3
 obtain⟨a3,r3,k3⟩:=el_3 _ _ _ h3 (by simp[hl])
 obtain⟨u0,u1,u2,u3,rfl⟩:∃ u0 u1 u2 u3,cs=[u0,u1,u2,u3]:=by match cs,hl with | [u0,u1,u2,u3],_=>exact⟨_,_,_,_,rfl⟩
 simp[e3] at r0
 simp[e3] at r1
 simp[e3] at r2
 simp[e3] at r3
 exact⟨⟨a0,a1,a2,a3⟩,by simp[xY, *],⟨k0,k1,k2,k3⟩⟩
end
theorem own:ownKnob Tryz.prog.godebug=none:=by kernel_rfl
theorem laid:laidOutB Tryz.prog=true:=by kernel_rfl
set_option maxRecDepth 100000 in
theorem lifted (os:Os) (zJ:os.Started) (H:Type) (enc:TypeId×Value->H):
  ReturnsInHanded {} Tryz.checked os 3 .any (Rows.holisticTellsSpec.pre6 enc Tryz.prog Tryz.f3 Rows.holisticTellsRow.domain false) (Rows.holisticTellsSpec.post enc Tryz.prog Tryz.f3 false true false false):=by
 refine returnsInHanded_of_change (C:=Tryz.checked) own zJ (by kernel_rfl) Tryz.func3
  (ChangeSpec.witness6 (enc:=enc) (C:=Tryz.checked) false ⟨#[],#[(.agg #[.slice none 0 0,.slice none 0 0,.slice none 0 0,.slice none 0 0,.slice none 0 0,.slice none 0 0,.slice none 0 0,.slice none 0 0]),.int .i64 0,.slice none 0 0,.slice none 0 0],[]⟩ 8 (by kernel_rfl) (by kernel_rfl) (by kernel_rfl) (by kernel_rfl)) ?_
 intro W base args ds gs xp Ej hW hcnd _
 have Ar:∀(j:Nat) t v,Tryz.f3.params[j]?=some t->args[j]?=some v->Value.okWide Tryz.prog W .any base t v:=Ej
 have C4:=hW
 obtain⟨p,q,hA0,hV,rfl,hfz,Ap⟩:=hW
 have hA:DataW.TrodAll enc Tryz.prog W 0 (fun _=>true) true Tryz.f3.params.toList args.toList ds p:=hA0
 rw[Tryz.params3] at hA Ar
 obtain⟨v0,vs0,d0,ds0,p0,q0,hargs,rfl,rfl,h0,r0⟩:=trodAll_cons hA
 obtain⟨v1,vs1,d1,ds1,p1,q1,rfl,rfl,rfl,h1,r1⟩:=trodAll_cons r0
 obtain⟨v2,vs2,d2,ds2,p2,q2,rfl,rfl,rfl,h2,r2⟩:=trodAll_cons r1
 obtain⟨v3,vs3,d3,ds3,p3,q3,rfl,rfl,rfl,h3,r3⟩:=trodAll_cons r2
 obtain⟨rfl,rfl,rfl⟩:=trodAll_nil r3
 obtain rfl:args = #[v0,v1,v2,v3]:=by cases args;simp_all
 obtain⟨rfl,rfl⟩:=trodVars_none hV
 obtain⟨fuel0,hf0⟩:=h0
 obtain⟨cs0,rfl,DB,hg0⟩:=GD (Ar 0 31 v0 rfl rfl) hf0 Tryz.underlying31 (show Tryz.prog.cellsOf 31=8 by kernel_rfl)
 obtain⟨x0,hr0,bd0⟩:=z1mV _ _ _ hg0 DB
 obtain⟨BH,BI,Ek,El,Em,En,Eo,Ep,Es,Et,Eu,Ew,Ex,Ey,Ez,EA,rfl,C1,z0x1,z0x2,z0x3,z0x4,z0x5,z0x6,z0x7⟩:=hr0
 obtain⟨x1,rfl,hd1,xv,wf1⟩:=open_int Tryz.underlying3 (Ar 1 3 v1 rfl rfl) h1
 have bd1:=Go.bounds_i64 wf1
 obtain⟨Cb,m2,zF,x2,rfl,hs2,hL2⟩:=Vo (Pr:=fun r x=>(qt (ZW W) r x)/\(x.length<=9223372036854775807/\∀ y∈x,kd60 y)) (sz:=1) Tryz.underlying32 (by kernel_rfl) (by decide) z1mX (Ar 2 32 v2 rfl rfl) h2
 unfold maxLen at hL2
 obtain⟨rfl,hz2⟩:=dc hs2
 have bd2:=hz2.all (q:=fun x=>x.length<=9223372036854775807/\∀ y∈x,kd60 y) (fun _ _ h=>h.2)
 replace hz2:=hz2.weak (Pr':=(qt (ZW W))) (fun _ _ h=>h.1)
 obtain⟨Cc,m3,zG,x3,rfl,hs3,hL3⟩:=Vo (Pr:=fun r x=>(r=xY x)/\(kd37 x)) (sz:=4) Tryz.underlying33 (by kernel_rfl) (by decide) z1mY (Ar 3 33 v3 rfl rfl) h3
 unfold maxLen at hL3
 obtain⟨rfl,hz3⟩:=dc hs3
 have bd3:=hz3.all (q:=fun x=>kd37 x) (fun _ _ h=>h.2)
 replace hz3:=hz3.weak (Pr':=(fun r x=>r=xY x)) (fun _ _ h=>h.1)
 have EB:=law x0 x1 x2 x3
 refine(cv (Z:=ZW W) (zsX:=BH) (zsY:=BI) (zsZ:=Ek) (zt0:=El) (zt1:=Em) (zt2:=En) (zt3:=Eo) (zt4:=Ep) (zt5:=Es) (zt6:=Et) (zt7:=Eu) (zt8:=Ew) (zt9:=Ex) (zta:=Ey) (ztb:=Ez) (ztc:=EA) (zwM:=Cb) (zwN:=zF) (ztd:=Cc) (zte:=zG) (z1F:=x0) (zlU:=x1) (zbR:=x2) (z4b:=x3) (r:=true) EB W (ZW_pz W) C1 z0x1 z0x2 z0x3 z0x4 z0x5 z0x6 z0x7 hz2 hz3).mono fun e W' ⟨he,hh⟩=>?_
 subst he
 exact⟨_,rfl,QP laid (by kernel_rfl) rfl rfl Tryz.underlying4 C4 (fun _=>⟨rfl,rfl,rfl⟩) hh.below⟩
theorem jand {a b:Bool} (h:a=true) (k:b=true):(a&&b)=true:=by rw[h,k];rfl
theorem jf0:(Rows.holisticTellsRow.wf (OpenSpec.ofChange Rows.holisticTellsSpec))=true:=by kernel_rfl
theorem jf1:(laidOutB Tryz.pinned.checked.prog)=true:=by kernel_rfl
theorem jf2:(mapsRowed Tryz.pinned.checked.prog)=true:=by kernel_rfl
theorem jf3:(Tryz.f3.params.all (Tryz.pinned.checked.prog.readableRec ·))=true:=by kernel_rfl
theorem jf4:(namedTie Tryz.pinned.checked.prog Rows.holisticTellsRow.named Rows.holisticTellsSpec.vars)=true:=by kernel_rfl
theorem jf5:((Rows.holisticTellsRow.stops == []))=true:=by kernel_rfl
theorem jf6:((Tryz.pinned.checked.prog.stops == []))=true:=by kernel_rfl
theorem jf7:((Rows.holisticTellsRow.knobs == []))=true:=by kernel_rfl
theorem jf8:((Tryz.pinned.checked.prog.stopKnobs == []))=true:=by kernel_rfl
theorem jf9:((Rows.holisticTellsRow.inPlace == Tryz.pinned.checked.prog.inPlace 3))=true:=by kernel_rfl
theorem jf10:((Rows.holisticTellsRow.unfollowed == Tryz.pinned.checked.prog.unfollowed 3))=true:=by kernel_rfl
theorem jf11:((Rows.holisticTellsRow.recurses == Tryz.pinned.checked.prog.recurses 3))=true:=by kernel_rfl
theorem jf12:((Rows.holisticTellsRow.named == Tryz.pinned.checked.prog.varsNamed 3))=true:=by kernel_rfl
theorem jf13:((Rows.holisticTellsRow.maps == (Tryz.f3.params.toList++Rows.holisticTellsSpec.plain.varTypes Tryz.pinned.checked.prog).any (Tryz.pinned.checked.prog.mapsRec ·)))=true:=by kernel_rfl
theorem jf14:((Rows.holisticTellsRow.ifaces == (Tryz.f3.params.toList++Rows.holisticTellsSpec.plain.varTypes Tryz.pinned.checked.prog).any (Tryz.pinned.checked.prog.ifacesRec ·)))=true:=by kernel_rfl
theorem jf15:((Rows.holisticTellsRow.mapsOut == Tryz.pinned.checked.prog.mapsAmong Tryz.f3.resultTypes.toList))=true:=by kernel_rfl
theorem jf16:((Rows.holisticTellsRow.loops == (Tryz.f3.params.toList++Rows.holisticTellsSpec.plain.varTypes Tryz.pinned.checked.prog).any (Tryz.pinned.checked.prog.loopsFrom ·)))=true:=by kernel_rfl
theorem jf17:((Rows.holisticTellsRow.wideKeys == (Tryz.f3.params.toList++Rows.holisticTellsSpec.plain.varTypes Tryz.pinned.checked.prog++Tryz.f3.resultTypes.toList).any (Tryz.pinned.checked.prog.wideKeysFrom ·)))=true:=by kernel_rfl
theorem jf18:(Rows.holisticTellsSpec.vars.all (Tryz.pinned.checked.prog.varReadable ·))=true:=by kernel_rfl
theorem jf19:(Tryz.f3.resultTypes.all (fun t=>Tryz.pinned.checked.prog.readableRec t&&decide (t<Tryz.pinned.checked.prog.types.size)))=true:=by kernel_rfl
theorem jf20:((Rows.holisticTellsRow.ifacesOut == Tryz.f3.resultTypes.toList.any (Tryz.pinned.checked.prog.ifacesRec ·)))=true:=by kernel_rfl
theorem jf21:((Rows.holisticTellsRow.loopsOut == Tryz.f3.resultTypes.toList.any (Tryz.pinned.checked.prog.loopsFrom ·)))=true:=by kernel_rfl
theorem jf22:((Rows.holisticTellsRow.plainKeys == Tryz.pinned.checked.prog.plainKeys))=true:=by kernel_rfl
theorem jf23:(Rows.holisticTellsRow.shortTexts.isNone)=true:=by kernel_rfl
theorem jf24:(Tryz.pinned.checked.prog.stopsHeard)=true:=by kernel_rfl
theorem jf25:(Tryz.pinned.checked.prog.mayEnter)=true:=by kernel_rfl
theorem jf26:((Rows.holisticTellsRow.lifted == Tryz.pinned.checked.prog.liftsFinal))=true:=by kernel_rfl
theorem jf27:((Tryz.pinned.checked.prog.make == some Rows.holisticTellsRow.make))=true:=by kernel_rfl
theorem jf28:((Rows.holisticTellsRow.kinds == (if Rows.holisticTellsRow.domain.isEmpty then[] else Tryz.f3.params.toList.map fun t=>match Tryz.pinned.checked.prog.underlying t with | some (.int k)=>some k | _=>none)))=true:=by kernel_rfl
theorem jf29:((Rows.holisticTellsRow.pinned == Rows.holisticTellsRow.pinnedBy))=true:=by kernel_rfl
theorem jf30:((Rows.holisticTellsRow.veiled == (Tryz.f3.params.toList++Rows.holisticTellsSpec.plain.varTypes Tryz.pinned.checked.prog++Tryz.f3.resultTypes.toList).any (Tryz.pinned.checked.prog.veiledRec ·)))=true:=by kernel_rfl
theorem jf31:(Rows.holisticTellsRow.veiledFits Tryz.pinned.checked.prog Tryz.f3.params.toList (Tryz.f3.params.toList++Rows.holisticTellsSpec.plain.varTypes Tryz.pinned.checked.prog++Tryz.f3.resultTypes.toList))=true:=by kernel_rfl
set_option maxRecDepth 100000 in
theorem jclosed:joinedFacts Tryz.pinned.checked.prog 3 Tryz.f3 Rows.holisticTellsSpec Rows.holisticTellsRow=true:=by
 unfold joinedFacts
 exact(jand (jand (jand (jand (jand (jand (jand (jand (jand (jand (jand (jand (jand (jand (jand (jand (jand (jand (jand (jand (jand (jand (jand (jand (jand (jand (jand (jand (jand (jand (jand jf0 jf1) jf2) jf3) jf4) jf5) jf6) jf7) jf8) jf9) jf10) jf11) jf12) jf13) jf14) jf15) jf16) jf17) jf18) jf19) jf20) jf21) jf22) jf23) jf24) jf25) jf26) jf27) jf28) jf29) jf30) jf31)
theorem over:Rows.holisticTellsRow.holds Tryz.pinned (OpenSpec.ofChange Rows.holisticTellsSpec):=
 OpenClaim.holds_of_wide 3 Tryz.f3 rfl rfl rfl rfl rfl rfl rfl ⟨rfl,rfl,rfl,rfl,rfl⟩ rfl rfl rfl rfl rfl (by kernel_rfl) Tryz.func3 jclosed
  (of_decide_eq_true (by kernel_rfl)) (by unfold Func.isWrapper;first | (rw[if_pos (by decide +kernel)];kernel_rfl) | (rw[if_neg (by decide +kernel)];exact⟨rfl,rfl⟩))
  (fun os zJ H enc _=>lifted os zJ H enc)
theorem proved:Rows.HolisticTellsSaid:=over
#print axioms proved
end Go.Proofs.YthjnhebofpebpaaGreat.holisticTells
