/-
 Whatever the input, the law HolisticWrong of layer 36 returns true, and its arguments read behind the call as before it. No conditions.
-/
import Derived.Test.YthjnhebofpebpaaGreatPHolisticWrong
import Derived.Test.YthjnhebofpebpaaGreatZMem
import Derived.Test.YthjnhebofpebpaaGreatRows
set_option linter.all false
namespace Go.Proofs.YthjnhebofpebpaaGreat.holisticWrong
open Go.ChangeShapes Go.WideShapes Go.ChangeAt Go.RowKit Sep
set_option linter.unusedVariables false
def p31 (Z:Zp) (r:List Value) (x:zt):Prop:=∃(kd:Option Addr) (fx:Nat) (Bn:Option Addr) (zy:Nat) (Ci:Option Addr) (Ao:Nat) (CZ:Option Addr) (AN:Nat) (ao4:Option Addr) (D8:Nat) (ao5:Option Addr) (D9:Nat) (ao6:Option Addr) (Ea:Nat) (ao7:Option Addr) (Eb:Nat),r=[(.slice kd x.fM.length fx),(.slice Bn x.yd.length zy),(.slice Ci x.fS.length Ao),(.slice CZ x.fK.length AN),(.slice ao4 x.yb.length D8),(.slice ao5 x.fH.length D9),(.slice ao6 x.fU.length Ea),(.slice ao7 x.yc.length Eb)]/\ZS Z 4 (ju Z) kd fx x.fM/\ZS Z 4 (kv Z) Bn zy x.yd/\ZS Z 4 (fun r x=>r=qJ x) Ci Ao x.fS/\ZS Z 4 (fun r x=>r=qt x) CZ AN x.fK/\ZS Z 7 (vK Z) ao4 D8 x.yb/\ZS Z 5 (fun r x=>r=kK x) ao5 D9 x.fH/\ZS Z 3 (kw Z) ao6 Ea x.fU/\ZS Z 4 (fun r x=>r=kL x) ao7 Eb x.yc
def p22 (Z:Zp) (r:List Value) (x:List yt):Prop:=∃(kd:Option Addr) (fx:Nat),r=[(.slice kd x.length fx)]/\ZS Z 4 (ju Z) kd fx x
def p124 (Z:Zp) (r:List Value) (x:List yG):Prop:=∃(kd:Option Addr) (fx:Nat),r=[(.slice kd x.length fx)]/\ZS Z 10 (ee Z) kd fx x
def p378 (Z:Zp) (r:List Value) (x:List yI):Prop:=∃(kd:Option Addr) (fx:Nat),r=[(.slice kd x.length fx)]/\ZS Z 6 (fun r x=>r=nX x) kd fx x
def e5 (x:Int):List Value:=[(.int .u8 x)]
def e4 (x:Bool):List Value:=[(.bool x)]
def p379 (Z:Zp) (r:List Value) (x:List yH):Prop:=∃(kd:Option Addr) (fx:Nat),r=[(.slice kd x.length fx)]/\ZS Z 5 (ec Z) kd fx x
def p388 (Z:Zp) (r:List Value) (x:List yK):Prop:=∃(kd:Option Addr) (fx:Nat),r=[(.slice kd x.length fx)]/\ZS Z 4 (fun r x=>r=nY x) kd fx x
def p23 (Z:Zp) (r:List Value) (x:List yA):Prop:=∃(kd:Option Addr) (fx:Nat),r=[(.slice kd x.length fx)]/\ZS Z 4 (kv Z) kd fx x
def p67 (Z:Zp) (r:List Value) (x:List yf):Prop:=∃(kd:Option Addr) (fx:Nat),r=[(.slice kd x.length fx)]/\ZS Z 3 (fun r x=>r=oA x) kd fx x
def p24 (Z:Zp) (r:List Value) (x:List yw):Prop:=∃(kd:Option Addr) (fx:Nat),r=[(.slice kd x.length fx)]/\ZS Z 4 (fun r x=>r=qJ x) kd fx x
def p25 (Z:Zp) (r:List Value) (x:List yx):Prop:=∃(kd:Option Addr) (fx:Nat),r=[(.slice kd x.length fx)]/\ZS Z 4 (fun r x=>r=qt x) kd fx x
def p26 (Z:Zp) (r:List Value) (x:List z6):Prop:=∃(kd:Option Addr) (fx:Nat),r=[(.slice kd x.length fx)]/\ZS Z 7 (vK Z) kd fx x
def p27 (Z:Zp) (r:List Value) (x:List yF):Prop:=∃(kd:Option Addr) (fx:Nat),r=[(.slice kd x.length fx)]/\ZS Z 5 (fun r x=>r=kK x) kd fx x
def p28 (Z:Zp) (r:List Value) (x:List yC):Prop:=∃(kd:Option Addr) (fx:Nat),r=[(.slice kd x.length fx)]/\ZS Z 3 (kw Z) kd fx x
def p372 (Z:Zp) (r:List Value) (x:List yE):Prop:=∃(kd:Option Addr) (fx:Nat),r=[(.slice kd x.length fx)]/\ZS Z 2 (fun r x=>r=nZ x) kd fx x
def p373 (Z:Zp) (r:List Value) (x:List ByteArray):Prop:=∃(kd:Option Addr) (fx:Nat),r=[(.slice kd x.length fx)]/\ZS Z 1 (fun r x=>r=e9 x) kd fx x
def p29 (Z:Zp) (r:List Value) (x:List yB):Prop:=∃(kd:Option Addr) (fx:Nat),r=[(.slice kd x.length fx)]/\ZS Z 4 (fun r x=>r=kL x) kd fx x
abbrev JJ (a:Int):Prop:=-9223372036854775808<=a/\a<=9223372036854775807
abbrev kd387 (a:yI):Prop:=(0<=a.xi/\a.xi<=255)/\(JJ a.yQ)/\(JJ a.xd)/\(JJ a.yO)
abbrev kd392 (a:yK):Prop:=(0<=a.fOp/\a.fOp<=255)/\(JJ a.fA)/\(JJ a.fB)/\(JJ a.fC)
abbrev kd390 (a:yH):Prop:=(JJ a.xg)/\(JJ a.yL)/\(JJ a.xc)/\(a.yM.length<=9223372036854775807/\∀ x∈a.yM,kd392 x)
abbrev kd381 (a:yG):Prop:=(JJ a.yL)/\(JJ a.yX)/\(JJ a.yN)/\(a.yS.length<=9223372036854775807/\∀ x∈a.yS,-9223372036854775808<=x/\x<=9223372036854775807)/\(JJ a.yW)/\(JJ a.yV)/\(a.yY.length<=9223372036854775807/\∀ x∈a.yY,-9223372036854775808<=x/\x<=9223372036854775807)/\(a.fP.length<=9223372036854775807/\∀ x∈a.fP,kd387 x)/\(a.yT.length<=9223372036854775807/\∀ x∈a.yT,kd390 x)
abbrev kd126 (a:yt):Prop:=(JJ a.yN)/\(JJ a.xa)/\(a.yR.length<=9223372036854775807/\∀ x∈a.yR,kd381 x)
abbrev kd369 (a:yA):Prop:=(a.yy.length<=9223372036854775807)
abbrev kd64 (a:yw):Prop:=(JJ a.yD)/\(JJ a.yj)/\(JJ a.fT)
abbrev kd62 (a:yx):Prop:=(JJ a.yD)/\(JJ a.yp)
abbrev kd69 (a:z6):Prop:=(JJ a.yr)/\(JJ a.yo)/\(a.yy.length<=9223372036854775807)
abbrev kd371 (a:yF):Prop:=(0<=a.xb/\a.xb<=255)/\(0<=a.yZ/\a.yZ<=255)/\(0<=a.fDo/\a.fDo<=255)
abbrev kd385 (a:yE):Prop:=(JJ a.yM)
abbrev kd375 (a:yC):Prop:=(a.yP.length<=9223372036854775807/\∀ x∈a.yP,kd385 x)/\(a.yU.length<=9223372036854775807)
abbrev kd377 (a:yB):Prop:=(JJ a.fVA)/\(JJ a.fVB)
abbrev kd31 (a:zt):Prop:=(a.fM.length<=9223372036854775807/\∀ x∈a.fM,kd126 x)/\(a.yd.length<=9223372036854775807/\∀ x∈a.yd,kd369 x)/\(a.fS.length<=9223372036854775807/\∀ x∈a.fS,kd64 x)/\(a.fK.length<=9223372036854775807/\∀ x∈a.fK,kd62 x)/\(a.yb.length<=9223372036854775807/\∀ x∈a.yb,kd69 x)/\(a.fH.length<=9223372036854775807/\∀ x∈a.fH,kd371 x)/\(a.fU.length<=9223372036854775807/\∀ x∈a.fU,kd375 x)/\(a.yc.length<=9223372036854775807/\∀ x∈a.yc,kd377 x)
abbrev kd60 (a:zd):Prop:=(JJ a.ya)/\(JJ a.yh)/\(JJ a.fQ)
variable {H:Type} {enc:TypeId×Value->H} {W:World} {f6:Nat->Bool} {kA:Bool}
theorem el_9 (n:Nat) (cs:List Value) (y:DataW H×List MemPlace) (h:DataW.trod enc Tryz.prog W 0 f6 kA n 9 cs=some y) (hl:cs.length=1):∃ a:ByteArray,(cs=e9 a)/\(True):=by
 obtain⟨a,rfl,-,-⟩:=DataW.trod_string Tryz.underlying9 h
 exact⟨a,rfl,trivial⟩
theorem el_3 (n:Nat) (cs:List Value) (y:DataW H×List MemPlace) (h:DataW.trod enc Tryz.prog W 0 f6 kA n 3 cs=some y) (hl:cs.length=1):∃ a:Int,(cs=e3 a)/\(JJ a):=by
 obtain⟨a,rfl,-,wf⟩:=DataW.trod_int Tryz.underlying3 h
 exact⟨a,rfl,Go.bounds_i64 wf⟩
theorem zJ0 (n:Nat) (cs:List Value) (y:DataW H×List MemPlace) (h:DataW.trod enc Tryz.prog W 0 f6 kA n 50 cs=some y) (hl:cs.length=1):∃ a:List Int,(iO (ZW W) cs a)/\(a.length<=9223372036854775807/\∀ x∈a,-9223372036854775808<=x/\x<=9223372036854775807):=by
 obtain⟨ao,cap,l,rfl,hz,hL⟩:=jm (Pr:=fun r x=>(r=e3 x)/\(JJ x)) (sz:=1) Tryz.underlying50 (by kernel_rfl) (by decide) el_3 h
 unfold maxLen at hL
 exact⟨l,⟨ao,cap,rfl,hz.weak (fun _ _ h=>h.1)⟩,⟨by omega,hz.all (q:=fun x => -9223372036854775808<=x/\x<=9223372036854775807) (fun _ _ h=>h.2)⟩⟩
theorem el_5 (n:Nat) (cs:List Value) (y:DataW H×List MemPlace) (h:DataW.trod enc Tryz.prog W 0 f6 kA n 5 cs=some y) (hl:cs.length=1):∃ a:Int,(cs=e5 a)/\(0<=a/\a<=255):=by
 obtain⟨a,rfl,-,wf⟩:=DataW.trod_int Tryz.underlying5 h
 exact⟨a,rfl,Go.bounds_u8 wf⟩
theorem el_4 (n:Nat) (cs:List Value) (y:DataW H×List MemPlace) (h:DataW.trod enc Tryz.prog W 0 f6 kA n 4 cs=some y) (hl:cs.length=1):∃ a:Bool,(cs=e4 a)/\(True):=by
 obtain⟨a,rfl,-⟩:=DataW.trod_bool Tryz.underlying4 h
 exact⟨a,rfl,trivial⟩
theorem z11U (n:Nat) (cs:List Value) (y:DataW H×List MemPlace) (h:DataW.trod enc Tryz.prog W 0 f6 kA n 387 cs=some y) (hl:cs.length=6):∃ a:yI,(cs=nX a)/\(kd387 a):=by
 obtain⟨y0,m0,h0⟩:=xE 0 Tryz.underlying387 h rfl
 have c0:Tryz.prog.cellsOf 9=1:=by kernel_rfl
 try dsimp only at h0
 rw[c0] at h0
 obtain⟨a0,r0,k0⟩:=el_9 _ _ _ h0 (by simp[hl])
 obtain⟨y1,m1,h1⟩:=xE 1 Tryz.underlying387 h rfl
 have c1:Tryz.prog.cellsOf 5=1:=by kernel_rfl
 try dsimp only at h1
 rw[c1] at h1
 obtain⟨a1,r1,k1⟩:=el_5 _ _ _ h1 (by simp[hl])
 obtain⟨y2,m2,h2⟩:=xE 2 Tryz.underlying387 h rfl
 have c2:Tryz.prog.cellsOf 4=1:=by kernel_rfl
 try dsimp only at h2
 rw[c2] at h2
 obtain⟨a2,r2,k2⟩:=el_4 _ _ _ h2 (by simp[hl])
 obtain⟨y3,m3,h3⟩:=xE 3 Tryz.underlying387 h rfl
 have c3:Tryz.prog.cellsOf 3=1:=by kernel_rfl
 try dsimp only at h3
 rw[c3] at h3
 obtain⟨a3,r3,k3⟩:=el_3 _ _ _ h3 (by simp[hl])
 obtain⟨y4,m4,h4⟩:=xE 4 Tryz.underlying387 h rfl
 have c4:Tryz.prog.cellsOf 3=1:=by kernel_rfl
 try dsimp only at h4
 rw[c4] at h4
 obtain⟨a4,r4,k4⟩:=el_3 _ _ _ h4 (by simp[hl])
 obtain⟨y5,m5,h5⟩:=xE 5 Tryz.underlying387 h rfl
 have c5:Tryz.prog.cellsOf 3=1:=by kernel_rfl
 try dsimp only at h5
 rw[c5] at h5
 obtain⟨a5,r5,k5⟩:=el_3 _ _ _ h5 (by simp[hl])
 obtain⟨u0,u1,u2,u3,u4,u5,rfl⟩:∃ u0 u1 u2 u3 u4 u5,cs=[u0,u1,u2,u3,u4,u5]:=by match cs,hl with | [u0,u1,u2,u3,u4,u5],_=>exact⟨_,_,_,_,_,_,rfl⟩
 simp[e9] at r0
 simp[e5] at r1
 simp[e4] at r2
 simp[e3] at r3
 simp[e3] at r4
 simp[e3] at r5
 exact⟨⟨a0,a1,a2,a3,a4,a5⟩,by simp[nX, *],⟨k1,k3,k4,k5⟩⟩
theorem z11V (n:Nat) (cs:List Value) (y:DataW H×List MemPlace) (h:DataW.trod enc Tryz.prog W 0 f6 kA n 378 cs=some y) (hl:cs.length=1):∃ a:List yI,(p378 (ZW W) cs a)/\(a.length<=9223372036854775807/\∀ x∈a,kd387 x):=by
 obtain⟨ao,cap,l,rfl,hz,hL⟩:=jm (Pr:=fun r x=>(r=nX x)/\(kd387 x)) (sz:=6) Tryz.underlying378 (by kernel_rfl) (by decide) z11U h
 unfold maxLen at hL
 exact⟨l,⟨ao,cap,rfl,hz.weak (fun _ _ h=>h.1)⟩,⟨by omega,hz.all (q:=fun x=>kd387 x) (fun _ _ h=>h.2)⟩⟩
theorem z11W (n:Nat) (cs:List Value) (y:DataW H×List MemPlace) (h:DataW.trod enc Tryz.prog W 0 f6 kA n 392 cs=some y) (hl:cs.length=4):∃ a:yK,(cs=nY a)/\(kd392 a):=by
 obtain⟨y0,m0,h0⟩:=xE 0 Tryz.underlying392 h rfl
 have c0:Tryz.prog.cellsOf 5=1:=by kernel_rfl
 try dsimp only at h0
 rw[c0] at h0
 obtain⟨a0,r0,k0⟩:=el_5 _ _ _ h0 (by simp[hl])
 obtain⟨y1,m1,h1⟩:=xE 1 Tryz.underlying392 h rfl
 have c1:Tryz.prog.cellsOf 3=1:=by kernel_rfl
 try dsimp only at h1
 rw[c1] at h1
 obtain⟨a1,r1,k1⟩:=el_3 _ _ _ h1 (by simp[hl])
 obtain⟨y2,m2,h2⟩:=xE 2 Tryz.underlying392 h rfl
 have c2:Tryz.prog.cellsOf 3=1:=by kernel_rfl
 try dsimp only at h2
 rw[c2] at h2
 obtain⟨a2,r2,k2⟩:=el_3 _ _ _ h2 (by simp[hl])
 obtain⟨y3,m3,h3⟩:=xE 3 Tryz.underlying392 h rfl
 have c3:Tryz.prog.cellsOf 3=1:=by kernel_rfl
 try dsimp only at h3
 rw[c3] at h3
 obtain⟨a3,r3,k3⟩:=el_3 _ _ _ h3 (by simp[hl])
 obtain⟨u0,u1,u2,u3,rfl⟩:∃ u0 u1 u2 u3,cs=[u0,u1,u2,u3]:=by match cs,hl with | [u0,u1,u2,u3],_=>exact⟨_,_,_,_,rfl⟩
 simp[e5] at r0
 simp[e3] at r1
 simp[e3] at r2
 simp[e3] at r3
 exact⟨⟨a0,a1,a2,a3⟩,by simp[nY, *],⟨k0,k1,k2,k3⟩⟩
theorem z11X (n:Nat) (cs:List Value) (y:DataW H×List MemPlace) (h:DataW.trod enc Tryz.prog W 0 f6 kA n 388 cs=some y) (hl:cs.length=1):∃ a:List yK,(p388 (ZW W) cs a)/\(a.length<=9223372036854775807/\∀ x∈a,kd392 x):=by
 obtain⟨ao,cap,l,rfl,hz,hL⟩:=jm (Pr:=fun r x=>(r=nY x)/\(kd392 x)) (sz:=4) Tryz.underlying388 (by kernel_rfl) (by decide) z11W h
 unfold maxLen at hL
 exact⟨l,⟨ao,cap,rfl,hz.weak (fun _ _ h=>h.1)⟩,⟨by omega,hz.all (q:=fun x=>kd392 x) (fun _ _ h=>h.2)⟩⟩
theorem z11Y (n:Nat) (cs:List Value) (y:DataW H×List MemPlace) (h:DataW.trod enc Tryz.prog W 0 f6 kA n 390 cs=some y) (hl:cs.length=5):∃ a:yH,(ec (ZW W) cs a)/\(kd390 a):=by
 obtain⟨y0,m0,h0⟩:=xE 0 Tryz.underlying390 h rfl
 have c0:Tryz.prog.cellsOf 9=1:=by kernel_rfl
 try dsimp only at h0
 rw[c0] at h0
 obtain⟨a0,r0,k0⟩:=el_9 _ _ _ h0 (by simp[hl])
 obtain⟨y1,m1,h1⟩:=xE 1 Tryz.underlying390 h rfl
 have c1:Tryz.prog.cellsOf 3=1:=by kernel_rfl
 try dsimp only at h1
 rw[c1] at h1
 obtain⟨a1,r1,k1⟩:=el_3 _ _ _ h1 (by simp[hl])
 obtain⟨y2,m2,h2⟩:=xE 2 Tryz.underlying390 h rfl
 have c2:Tryz.prog.cellsOf 3=1:=by kernel_rfl
 try dsimp only at h2
 rw[c2] at h2
 obtain⟨a2,r2,k2⟩:=el_3 _ _ _ h2 (by simp[hl])
 obtain⟨y3,m3,h3⟩:=xE 3 Tryz.underlying390 h rfl
 have c3:Tryz.prog.cellsOf 3=1:=by kernel_rfl
 try dsimp only at h3
 rw[c3] at h3
 obtain⟨a3,r3,k3⟩:=el_3 _ _ _ h3 (by simp[hl])
 obtain⟨y4,m4,h4⟩:=xE 4 Tryz.underlying390 h rfl
 have c4:Tryz.prog.cellsOf 388=1:=by kernel_rfl
 try dsimp only at h4
 rw[c4] at h4
 obtain⟨a4,r4,k4⟩:=z11X _ _ _ h4 (by simp[hl])
 obtain⟨u0,u1,u2,u3,u4,rfl⟩:∃ u0 u1 u2 u3 u4,cs=[u0,u1,u2,u3,u4]:=by match cs,hl with | [u0,u1,u2,u3,u4],_=>exact⟨_,_,_,_,_,rfl⟩
 simp[e9] at r0
 simp[e3] at r1
 simp[e3] at r2
 simp[e3] at r3
 obtain⟨zH,zJ,r4,AP⟩:=r4
 simp at r4
 refine⟨⟨a0,a1,a2,a3,a4⟩,⟨zH,zJ,by simp[*],AP⟩,⟨k1,k2,k3,k4⟩⟩
theorem z11Z (n:Nat) (cs:List Value) (y:DataW H×List MemPlace) (h:DataW.trod enc Tryz.prog W 0 f6 kA n 379 cs=some y) (hl:cs.length=1):∃ a:List yH,(p379 (ZW W) cs a)/\(a.length<=9223372036854775807/\∀ x∈a,kd390 x):=by
 obtain⟨ao,cap,l,rfl,hz,hL⟩:=jm (Pr:=fun r x=>(ec (ZW W) r x)/\(kd390 x)) (sz:=5) Tryz.underlying379 (by kernel_rfl) (by decide) z11Y h
 unfold maxLen at hL
 exact⟨l,⟨ao,cap,rfl,hz.weak (fun _ _ h=>h.1)⟩,⟨by omega,hz.all (q:=fun x=>kd390 x) (fun _ _ h=>h.2)⟩⟩
theorem z120 (n:Nat) (cs:List Value) (y:DataW H×List MemPlace) (h:DataW.trod enc Tryz.prog W 0 f6 kA n 381 cs=some y) (hl:cs.length=10):∃ a:yG,(ee (ZW W) cs a)/\(kd381 a):=by
 obtain⟨y0,m0,h0⟩:=xE 0 Tryz.underlying381 h rfl
 have c0:Tryz.prog.cellsOf 9=1:=by kernel_rfl
 try dsimp only at h0
 rw[c0] at h0
 obtain⟨a0,r0,k0⟩:=el_9 _ _ _ h0 (by simp[hl])
 obtain⟨y1,m1,h1⟩:=xE 1 Tryz.underlying381 h rfl
 have c1:Tryz.prog.cellsOf 3=1:=by kernel_rfl
 try dsimp only at h1
 rw[c1] at h1
 obtain⟨a1,r1,k1⟩:=el_3 _ _ _ h1 (by simp[hl])
 obtain⟨y2,m2,h2⟩:=xE 2 Tryz.underlying381 h rfl
 have c2:Tryz.prog.cellsOf 3=1:=by kernel_rfl
 try dsimp only at h2
 rw[c2] at h2
 obtain⟨a2,r2,k2⟩:=el_3 _ _ _ h2 (by simp[hl])
 obtain⟨y3,m3,h3⟩:=xE 3 Tryz.underlying381 h rfl
 have c3:Tryz.prog.cellsOf 3=1:=by kernel_rfl
 try dsimp only at h3
 rw[c3] at h3
 obtain⟨a3,r3,k3⟩:=el_3 _ _ _ h3 (by simp[hl])
 obtain⟨y4,m4,h4⟩:=xE 4 Tryz.underlying381 h rfl
 have c4:Tryz.prog.cellsOf 50=1:=by kernel_rfl
 try dsimp only at h4
 rw[c4] at h4
 obtain⟨a4,r4,k4⟩:=zJ0 _ _ _ h4 (by simp[hl])
 obtain⟨y5,m5,h5⟩:=xE 5 Tryz.underlying381 h rfl
 have c5:Tryz.prog.cellsOf 3=1:=by kernel_rfl
 try dsimp only at h5
 rw[c5] at h5
 obtain⟨a5,r5,k5⟩:=el_3 _ _ _ h5 (by simp[hl])
 obtain⟨y6,m6,h6⟩:=xE 6 Tryz.underlying381 h rfl
 have c6:Tryz.prog.cellsOf 3=1:=by kernel_rfl
 try dsimp only at h6
 rw[c6] at h6
 obtain⟨a6,r6,k6⟩:=el_3 _ _ _ h6 (by simp[hl])
 obtain⟨y7,m7,h7⟩:=xE 7 Tryz.underlying381 h rfl
 have c7:Tryz.prog.cellsOf 50=1:=by kernel_rfl
 try dsimp only at h7
 rw[c7] at h7
 obtain⟨a7,r7,k7⟩:=zJ0 _ _ _ h7 (by simp[hl])
 obtain⟨y8,m8,h8⟩:=xE 8 Tryz.underlying381 h rfl
 have c8:Tryz.prog.cellsOf 378=1:=by kernel_rfl
 try dsimp only at h8
 rw[c8] at h8
 obtain⟨a8,r8,k8⟩:=z11V _ _ _ h8 (by simp[hl])
 obtain⟨y9,m9,h9⟩:=xE 9 Tryz.underlying381 h rfl
 have c9:Tryz.prog.cellsOf 379=1:=by kernel_rfl
 try dsimp only at h9
 rw[c9] at h9
 obtain⟨a9,r9,k9⟩:=z11Z _ _ _ h9 (by simp[hl])
 obtain⟨u0,u1,u2,u3,u4,u5,u6,u7,u8,u9,rfl⟩:∃ u0 u1 u2 u3 u4 u5 u6 u7 u8 u9,cs=[u0,u1,u2,u3,u4,u5,u6,u7,u8,u9]:=by match cs,hl with | [u0,u1,u2,u3,u4,u5,u6,u7,u8,u9],_=>exact⟨_,_,_,_,_,_,_,_,_,_,rfl⟩
 simp[e9] at r0
 simp[e3] at r1
 simp[e3] at r2
 simp[e3] at r3
 obtain⟨zH,zJ,r4,AP⟩:=r4
 simp at r4
 simp[e3] at r5
 simp[e3] at r6
 obtain⟨BK,BN,r7,C7⟩:=r7
 simp at r7
 obtain⟨Ec,Ed,r8,z8x0⟩:=r8
 simp at r8
 obtain⟨Ee,Eg,r9,z9x0⟩:=r9
 simp at r9
 refine⟨⟨a0,a1,a2,a3,a4,a5,a6,a7,a8,a9⟩,⟨zH,zJ,BK,BN,Ec,Ed,Ee,Eg,by simp[*],AP,C7,z8x0,z9x0⟩,⟨k1,k2,k3,k4,k5,k6,k7,k8,k9⟩⟩
theorem z121 (n:Nat) (cs:List Value) (y:DataW H×List MemPlace) (h:DataW.trod enc Tryz.prog W 0 f6 kA n 124 cs=some y) (hl:cs.length=1):∃ a:List yG,(p124 (ZW W) cs a)/\(a.length<=9223372036854775807/\∀ x∈a,kd381 x):=by
 obtain⟨ao,cap,l,rfl,hz,hL⟩:=jm (Pr:=fun r x=>(ee (ZW W) r x)/\(kd381 x)) (sz:=10) Tryz.underlying124 (by kernel_rfl) (by decide) z120 h
 unfold maxLen at hL
 exact⟨l,⟨ao,cap,rfl,hz.weak (fun _ _ h=>h.1)⟩,⟨by omega,hz.all (q:=fun x=>kd381 x) (fun _ _ h=>h.2)⟩⟩
theorem z122 (n:Nat) (cs:List Value) (y:DataW H×List MemPlace) (h:DataW.trod enc Tryz.prog W 0 f6 kA n 126 cs=some y) (hl:cs.length=4):∃ a:yt,(ju (ZW W) cs a)/\(kd126 a):=by
 obtain⟨y0,m0,h0⟩:=xE 0 Tryz.underlying126 h rfl
 have c0:Tryz.prog.cellsOf 9=1:=by kernel_rfl
 try dsimp only at h0
 rw[c0] at h0
 obtain⟨a0,r0,k0⟩:=el_9 _ _ _ h0 (by simp[hl])
 obtain⟨y1,m1,h1⟩:=xE 1 Tryz.underlying126 h rfl
 have c1:Tryz.prog.cellsOf 3=1:=by kernel_rfl
 try dsimp only at h1
 rw[c1] at h1
 obtain⟨a1,r1,k1⟩:=el_3 _ _ _ h1 (by simp[hl])
 obtain⟨y2,m2,h2⟩:=xE 2 Tryz.underlying126 h rfl
 have c2:Tryz.prog.cellsOf 3=1:=by kernel_rfl
 try dsimp only at h2
 rw[c2] at h2
 obtain⟨a2,r2,k2⟩:=el_3 _ _ _ h2 (by simp[hl])
 obtain⟨y3,m3,h3⟩:=xE 3 Tryz.underlying126 h rfl
 have c3:Tryz.prog.cellsOf 124=1:=by kernel_rfl
 try dsimp only at h3
 rw[c3] at h3
 obtain⟨a3,r3,k3⟩:=z121 _ _ _ h3 (by simp[hl])
 obtain⟨u0,u1,u2,u3,rfl⟩:∃ u0 u1 u2 u3,cs=[u0,u1,u2,u3]:=by match cs,hl with | [u0,u1,u2,u3],_=>exact⟨_,_,_,_,rfl⟩
 simp[e9] at r0
 simp[e3] at r1
 simp[e3] at r2
 obtain⟨BO,BP,r3,C8⟩:=r3
 simp at r3
 refine⟨⟨a0,a1,a2,a3⟩,⟨BO,BP,by simp[*],C8⟩,⟨k1,k2,k3⟩⟩
theorem z123 (n:Nat) (cs:List Value) (y:DataW H×List MemPlace) (h:DataW.trod enc Tryz.prog W 0 f6 kA n 22 cs=some y) (hl:cs.length=1):∃ a:List yt,(p22 (ZW W) cs a)/\(a.length<=9223372036854775807/\∀ x∈a,kd126 x):=by
 obtain⟨ao,cap,l,rfl,hz,hL⟩:=jm (Pr:=fun r x=>(ju (ZW W) r x)/\(kd126 x)) (sz:=4) Tryz.underlying22 (by kernel_rfl) (by decide) z122 h
 unfold maxLen at hL
 exact⟨l,⟨ao,cap,rfl,hz.weak (fun _ _ h=>h.1)⟩,⟨by omega,hz.all (q:=fun x=>kd126 x) (fun _ _ h=>h.2)⟩⟩
theorem zAw (n:Nat) (cs:List Value) (y:DataW H×List MemPlace) (h:DataW.trod enc Tryz.prog W 0 f6 kA n 66 cs=some y) (hl:cs.length=3):∃ a:yf,(cs=oA a)/\(True):=by
 obtain⟨y0,m0,h0⟩:=xE 0 Tryz.underlying66 h rfl
 have c0:Tryz.prog.cellsOf 9=1:=by kernel_rfl
 try dsimp only at h0
 rw[c0] at h0
 obtain⟨a0,r0,k0⟩:=el_9 _ _ _ h0 (by simp[hl])
 obtain⟨y1,m1,h1⟩:=xE 1 Tryz.underlying66 h rfl
 have c1:Tryz.prog.cellsOf 9=1:=by kernel_rfl
 try dsimp only at h1
 rw[c1] at h1
 obtain⟨a1,r1,k1⟩:=el_9 _ _ _ h1 (by simp[hl])
 obtain⟨y2,m2,h2⟩:=xE 2 Tryz.underlying66 h rfl
 have c2:Tryz.prog.cellsOf 9=1:=by kernel_rfl
 try dsimp only at h2
 rw[c2] at h2
 obtain⟨a2,r2,k2⟩:=el_9 _ _ _ h2 (by simp[hl])
 obtain⟨u0,u1,u2,rfl⟩:∃ u0 u1 u2,cs=[u0,u1,u2]:=by match cs,hl with | [u0,u1,u2],_=>exact⟨_,_,_,rfl⟩
 simp[e9] at r0
 simp[e9] at r1
 simp[e9] at r2
 exact⟨⟨a0,a1,a2⟩,by simp[oA, *],trivial⟩
theorem zJ1 (n:Nat) (cs:List Value) (y:DataW H×List MemPlace) (h:DataW.trod enc Tryz.prog W 0 f6 kA n 67 cs=some y) (hl:cs.length=1):∃ a:List yf,(p67 (ZW W) cs a)/\(a.length<=9223372036854775807):=by
 obtain⟨ao,cap,l,rfl,hz,hL⟩:=jm (Pr:=fun r x=>(r=oA x)/\(True)) (sz:=3) Tryz.underlying67 (by kernel_rfl) (by decide) zAw h
 unfold maxLen at hL
 exact⟨l,⟨ao,cap,rfl,hz.weak (fun _ _ h=>h.1)⟩,by omega⟩
theorem z124 (n:Nat) (cs:List Value) (y:DataW H×List MemPlace) (h:DataW.trod enc Tryz.prog W 0 f6 kA n 369 cs=some y) (hl:cs.length=4):∃ a:yA,(kv (ZW W) cs a)/\(kd369 a):=by
 obtain⟨y0,m0,h0⟩:=xE 0 Tryz.underlying369 h rfl
 have c0:Tryz.prog.cellsOf 66=3:=by kernel_rfl
 try dsimp only at h0
 rw[c0] at h0
 obtain⟨a0,r0,k0⟩:=zAw _ _ _ h0 (by simp[hl])
 obtain⟨y1,m1,h1⟩:=xE 1 Tryz.underlying369 h rfl
 have c1:Tryz.prog.cellsOf 67=1:=by kernel_rfl
 try dsimp only at h1
 rw[c1] at h1
 obtain⟨a1,r1,k1⟩:=zJ1 _ _ _ h1 (by simp[hl])
 obtain⟨u0,u1,u2,u3,rfl⟩:∃ u0 u1 u2 u3,cs=[u0,u1,u2,u3]:=by match cs,hl with | [u0,u1,u2,u3],_=>exact⟨_,_,_,_,rfl⟩
 simp[oA] at r0
 obtain⟨AD,AE,r1,BQ⟩:=r1
 simp at r1
 refine⟨⟨a0,a1⟩,⟨AD,AE,by simp[*],BQ⟩,k1⟩
theorem z125 (n:Nat) (cs:List Value) (y:DataW H×List MemPlace) (h:DataW.trod enc Tryz.prog W 0 f6 kA n 23 cs=some y) (hl:cs.length=1):∃ a:List yA,(p23 (ZW W) cs a)/\(a.length<=9223372036854775807/\∀ x∈a,kd369 x):=by
 obtain⟨ao,cap,l,rfl,hz,hL⟩:=jm (Pr:=fun r x=>(kv (ZW W) r x)/\(kd369 x)) (sz:=4) Tryz.underlying23 (by kernel_rfl) (by decide) z124 h
 unfold maxLen at hL
 exact⟨l,⟨ao,cap,rfl,hz.weak (fun _ _ h=>h.1)⟩,⟨by omega,hz.all (q:=fun x=>kd369 x) (fun _ _ h=>h.2)⟩⟩
theorem z126 (n:Nat) (cs:List Value) (y:DataW H×List MemPlace) (h:DataW.trod enc Tryz.prog W 0 f6 kA n 64 cs=some y) (hl:cs.length=4):∃ a:yw,(cs=qJ a)/\(kd64 a):=by
 obtain⟨y0,m0,h0⟩:=xE 0 Tryz.underlying64 h rfl
 have c0:Tryz.prog.cellsOf 9=1:=by kernel_rfl
 try dsimp only at h0
 rw[c0] at h0
 obtain⟨a0,r0,k0⟩:=el_9 _ _ _ h0 (by simp[hl])
 obtain⟨y1,m1,h1⟩:=xE 1 Tryz.underlying64 h rfl
 have c1:Tryz.prog.cellsOf 3=1:=by kernel_rfl
 try dsimp only at h1
 rw[c1] at h1
 obtain⟨a1,r1,k1⟩:=el_3 _ _ _ h1 (by simp[hl])
 obtain⟨y2,m2,h2⟩:=xE 2 Tryz.underlying64 h rfl
 have c2:Tryz.prog.cellsOf 3=1:=by kernel_rfl
 try dsimp only at h2
 rw[c2] at h2
 obtain⟨a2,r2,k2⟩:=el_3 _ _ _ h2 (by simp[hl])
 obtain⟨y3,m3,h3⟩:=xE 3 Tryz.underlying64 h rfl
 have c3:Tryz.prog.cellsOf 3=1:=by kernel_rfl
 try dsimp only at h3
 rw[c3] at h3
 obtain⟨a3,r3,k3⟩:=el_3 _ _ _ h3 (by simp[hl])
 obtain⟨u0,u1,u2,u3,rfl⟩:∃ u0 u1 u2 u3,cs=[u0,u1,u2,u3]:=by match cs,hl with | [u0,u1,u2,u3],_=>exact⟨_,_,_,_,rfl⟩
 simp[e9] at r0
 simp[e3] at r1
 simp[e3] at r2
 simp[e3] at r3
 exact⟨⟨a0,a1,a2,a3⟩,by simp[qJ, *],⟨k1,k2,k3⟩⟩
theorem z127 (n:Nat) (cs:List Value) (y:DataW H×List MemPlace) (h:DataW.trod enc Tryz.prog W 0 f6 kA n 24 cs=some y) (hl:cs.length=1):∃ a:List yw,(p24 (ZW W) cs a)/\(a.length<=9223372036854775807/\∀ x∈a,kd64 x):=by
 obtain⟨ao,cap,l,rfl,hz,hL⟩:=jm (Pr:=fun r x=>(r=qJ x)/\(kd64 x)) (sz:=4) Tryz.underlying24 (by kernel_rfl) (by decide) z126 h
 unfold maxLen at hL
 exact⟨l,⟨ao,cap,rfl,hz.weak (fun _ _ h=>h.1)⟩,⟨by omega,hz.all (q:=fun x=>kd64 x) (fun _ _ h=>h.2)⟩⟩
theorem z128 (n:Nat) (cs:List Value) (y:DataW H×List MemPlace) (h:DataW.trod enc Tryz.prog W 0 f6 kA n 62 cs=some y) (hl:cs.length=4):∃ a:yx,(cs=qt a)/\(kd62 a):=by
 obtain⟨y0,m0,h0⟩:=xE 0 Tryz.underlying62 h rfl
 have c0:Tryz.prog.cellsOf 9=1:=by kernel_rfl
 try dsimp only at h0
 rw[c0] at h0
 obtain⟨a0,r0,k0⟩:=el_9 _ _ _ h0 (by simp[hl])
 obtain⟨y1,m1,h1⟩:=xE 1 Tryz.underlying62 h rfl
 have c1:Tryz.prog.cellsOf 9=1:=by kernel_rfl
 try dsimp only at h1
 rw[c1] at h1
 obtain⟨a1,r1,k1⟩:=el_9 _ _ _ h1 (by simp[hl])
 obtain⟨y2,m2,h2⟩:=xE 2 Tryz.underlying62 h rfl
 have c2:Tryz.prog.cellsOf 3=1:=by kernel_rfl
 try dsimp only at h2
 rw[c2] at h2
 obtain⟨a2,r2,k2⟩:=el_3 _ _ _ h2 (by simp[hl])
 obtain⟨y3,m3,h3⟩:=xE 3 Tryz.underlying62 h rfl
 have c3:Tryz.prog.cellsOf 3=1:=by kernel_rfl
 try dsimp only at h3
 rw[c3] at h3
 obtain⟨a3,r3,k3⟩:=el_3 _ _ _ h3 (by simp[hl])
 obtain⟨u0,u1,u2,u3,rfl⟩:∃ u0 u1 u2 u3,cs=[u0,u1,u2,u3]:=by match cs,hl with | [u0,u1,u2,u3],_=>exact⟨_,_,_,_,rfl⟩
 simp[e9] at r0
 simp[e9] at r1
 simp[e3] at r2
 simp[e3] at r3
 exact⟨⟨a0,a1,a2,a3⟩,by simp[qt, *],⟨k2,k3⟩⟩
theorem z129 (n:Nat) (cs:List Value) (y:DataW H×List MemPlace) (h:DataW.trod enc Tryz.prog W 0 f6 kA n 25 cs=some y) (hl:cs.length=1):∃ a:List yx,(p25 (ZW W) cs a)/\(a.length<=9223372036854775807/\∀ x∈a,kd62 x):=by
 obtain⟨ao,cap,l,rfl,hz,hL⟩:=jm (Pr:=fun r x=>(r=qt x)/\(kd62 x)) (sz:=4) Tryz.underlying25 (by kernel_rfl) (by decide) z128 h
 unfold maxLen at hL
 exact⟨l,⟨ao,cap,rfl,hz.weak (fun _ _ h=>h.1)⟩,⟨by omega,hz.all (q:=fun x=>kd62 x) (fun _ _ h=>h.2)⟩⟩
theorem z12a (n:Nat) (cs:List Value) (y:DataW H×List MemPlace) (h:DataW.trod enc Tryz.prog W 0 f6 kA n 69 cs=some y) (hl:cs.length=7):∃ a:z6,(vK (ZW W) cs a)/\(kd69 a):=by
 obtain⟨y0,m0,h0⟩:=xE 0 Tryz.underlying69 h rfl
 have c0:Tryz.prog.cellsOf 9=1:=by kernel_rfl
 try dsimp only at h0
 rw[c0] at h0
 obtain⟨a0,r0,k0⟩:=el_9 _ _ _ h0 (by simp[hl])
 obtain⟨y1,m1,h1⟩:=xE 1 Tryz.underlying69 h rfl
 have c1:Tryz.prog.cellsOf 66=3:=by kernel_rfl
 try dsimp only at h1
 rw[c1] at h1
 obtain⟨a1,r1,k1⟩:=zAw _ _ _ h1 (by simp[hl])
 obtain⟨y2,m2,h2⟩:=xE 2 Tryz.underlying69 h rfl
 have c2:Tryz.prog.cellsOf 3=1:=by kernel_rfl
 try dsimp only at h2
 rw[c2] at h2
 obtain⟨a2,r2,k2⟩:=el_3 _ _ _ h2 (by simp[hl])
 obtain⟨y3,m3,h3⟩:=xE 3 Tryz.underlying69 h rfl
 have c3:Tryz.prog.cellsOf 3=1:=by kernel_rfl
 try dsimp only at h3
 rw[c3] at h3
 obtain⟨a3,r3,k3⟩:=el_3 _ _ _ h3 (by simp[hl])
 obtain⟨y4,m4,h4⟩:=xE 4 Tryz.underlying69 h rfl
 have c4:Tryz.prog.cellsOf 67=1:=by kernel_rfl
 try dsimp only at h4
 rw[c4] at h4
 obtain⟨a4,r4,k4⟩:=zJ1 _ _ _ h4 (by simp[hl])
 obtain⟨u0,u1,u2,u3,u4,u5,u6,rfl⟩:∃ u0 u1 u2 u3 u4 u5 u6,cs=[u0,u1,u2,u3,u4,u5,u6]:=by match cs,hl with | [u0,u1,u2,u3,u4,u5,u6],_=>exact⟨_,_,_,_,_,_,_,rfl⟩
 simp[e9] at r0
 simp[oA] at r1
 simp[e3] at r2
 simp[e3] at r3
 obtain⟨zH,zJ,r4,AP⟩:=r4
 simp at r4
 refine⟨⟨a0,a1,a2,a3,a4⟩,⟨zH,zJ,by simp[*],AP⟩,⟨k2,k3,k4⟩⟩
theorem z12b (n:Nat) (cs:List Value) (y:DataW H×List MemPlace) (h:DataW.trod enc Tryz.prog W 0 f6 kA n 26 cs=some y) (hl:cs.length=1):∃ a:List z6,(p26 (ZW W) cs a)/\(a.length<=9223372036854775807/\∀ x∈a,kd69 x):=by
 obtain⟨ao,cap,l,rfl,hz,hL⟩:=jm (Pr:=fun r x=>(vK (ZW W) r x)/\(kd69 x)) (sz:=7) Tryz.underlying26 (by kernel_rfl) (by decide) z12a h
 unfold maxLen at hL
 exact⟨l,⟨ao,cap,rfl,hz.weak (fun _ _ h=>h.1)⟩,⟨by omega,hz.all (q:=fun x=>kd69 x) (fun _ _ h=>h.2)⟩⟩
theorem z12c (n:Nat) (cs:List Value) (y:DataW H×List MemPlace) (h:DataW.trod enc Tryz.prog W 0 f6 kA n 371 cs=some y) (hl:cs.length=5):∃ a:yF,(cs=kK a)/\(kd371 a):=by
 obtain⟨y0,m0,h0⟩:=xE 0 Tryz.underlying371 h rfl
 have c0:Tryz.prog.cellsOf 9=1:=by kernel_rfl
 try dsimp only at h0
 rw[c0] at h0
 obtain⟨a0,r0,k0⟩:=el_9 _ _ _ h0 (by simp[hl])
 obtain⟨y1,m1,h1⟩:=xE 1 Tryz.underlying371 h rfl
 have c1:Tryz.prog.cellsOf 9=1:=by kernel_rfl
 try dsimp only at h1
 rw[c1] at h1
 obtain⟨a1,r1,k1⟩:=el_9 _ _ _ h1 (by simp[hl])
 obtain⟨y2,m2,h2⟩:=xE 2 Tryz.underlying371 h rfl
 have c2:Tryz.prog.cellsOf 5=1:=by kernel_rfl
 try dsimp only at h2
 rw[c2] at h2
 obtain⟨a2,r2,k2⟩:=el_5 _ _ _ h2 (by simp[hl])
 obtain⟨y3,m3,h3⟩:=xE 3 Tryz.underlying371 h rfl
 have c3:Tryz.prog.cellsOf 5=1:=by kernel_rfl
 try dsimp only at h3
 rw[c3] at h3
 obtain⟨a3,r3,k3⟩:=el_5 _ _ _ h3 (by simp[hl])
 obtain⟨y4,m4,h4⟩:=xE 4 Tryz.underlying371 h rfl
 have c4:Tryz.prog.cellsOf 5=1:=by kernel_rfl
 try dsimp only at h4
 rw[c4] at h4
 obtain⟨a4,r4,k4⟩:=el_5 _ _ _ h4 (by simp[hl])
 obtain⟨u0,u1,u2,u3,u4,rfl⟩:∃ u0 u1 u2 u3 u4,cs=[u0,u1,u2,u3,u4]:=by match cs,hl with | [u0,u1,u2,u3,u4],_=>exact⟨_,_,_,_,_,rfl⟩
 simp[e9] at r0
 simp[e9] at r1
 simp[e5] at r2
 simp[e5] at r3
 simp[e5] at r4
 exact⟨⟨a0,a1,a2,a3,a4⟩,by simp[kK, *],⟨k2,k3,k4⟩⟩
theorem z12d (n:Nat) (cs:List Value) (y:DataW H×List MemPlace) (h:DataW.trod enc Tryz.prog W 0 f6 kA n 27 cs=some y) (hl:cs.length=1):∃ a:List yF,(p27 (ZW W) cs a)/\(a.length<=9223372036854775807/\∀ x∈a,kd371 x):=by
 obtain⟨ao,cap,l,rfl,hz,hL⟩:=jm (Pr:=fun r x=>(r=kK x)/\(kd371 x)) (sz:=5) Tryz.underlying27 (by kernel_rfl) (by decide) z12c h
 unfold maxLen at hL
 exact⟨l,⟨ao,cap,rfl,hz.weak (fun _ _ h=>h.1)⟩,⟨by omega,hz.all (q:=fun x=>kd371 x) (fun _ _ h=>h.2)⟩⟩
theorem z12e (n:Nat) (cs:List Value) (y:DataW H×List MemPlace) (h:DataW.trod enc Tryz.prog W 0 f6 kA n 385 cs=some y) (hl:cs.length=2):∃ a:yE,(cs=nZ a)/\(kd385 a):=by
 obtain⟨y0,m0,h0⟩:=xE 0 Tryz.underlying385 h rfl
 have c0:Tryz.prog.cellsOf 9=1:=by kernel_rfl
 try dsimp only at h0
 rw[c0] at h0
 obtain⟨a0,r0,k0⟩:=el_9 _ _ _ h0 (by simp[hl])
 obtain⟨y1,m1,h1⟩:=xE 1 Tryz.underlying385 h rfl
 have c1:Tryz.prog.cellsOf 3=1:=by kernel_rfl
 try dsimp only at h1
 rw[c1] at h1
 obtain⟨a1,r1,k1⟩:=el_3 _ _ _ h1 (by simp[hl])
 obtain⟨u0,u1,rfl⟩:∃ u0 u1,cs=[u0,u1]:=by match cs,hl with | [u0,u1],_=>exact⟨_,_,rfl⟩
 simp[e9] at r0
 simp[e3] at r1
 exact⟨⟨a0,a1⟩,by simp[nZ, *],k1⟩
theorem z12f (n:Nat) (cs:List Value) (y:DataW H×List MemPlace) (h:DataW.trod enc Tryz.prog W 0 f6 kA n 372 cs=some y) (hl:cs.length=1):∃ a:List yE,(p372 (ZW W) cs a)/\(a.length<=9223372036854775807/\∀ x∈a,kd385 x):=by
 obtain⟨ao,cap,l,rfl,hz,hL⟩:=jm (Pr:=fun r x=>(r=nZ x)/\(kd385 x)) (sz:=2) Tryz.underlying372 (by kernel_rfl) (by decide) z12e h
 unfold maxLen at hL
 exact⟨l,⟨ao,cap,rfl,hz.weak (fun _ _ h=>h.1)⟩,⟨by omega,hz.all (q:=fun x=>kd385 x) (fun _ _ h=>h.2)⟩⟩
theorem z12g (n:Nat) (cs:List Value) (y:DataW H×List MemPlace) (h:DataW.trod enc Tryz.prog W 0 f6 kA n 373 cs=some y) (hl:cs.length=1):∃ a:List ByteArray,(p373 (ZW W) cs a)/\(a.length<=9223372036854775807):=by
 obtain⟨ao,cap,l,rfl,hz,hL⟩:=jm (Pr:=fun r x=>(r=e9 x)/\(True)) (sz:=1) Tryz.underlying373 (by kernel_rfl) (by decide) el_9 h
 unfold maxLen at hL
 exact⟨l,⟨ao,cap,rfl,hz.weak (fun _ _ h=>h.1)⟩,by omega⟩
theorem z12h (n:Nat) (cs:List Value) (y:DataW H×List MemPlace) (h:DataW.trod enc Tryz.prog W 0 f6 kA n 375 cs=some y) (hl:cs.length=3):∃ a:yC,(kw (ZW W) cs a)/\(kd375 a):=by
 obtain⟨y0,m0,h0⟩:=xE 0 Tryz.underlying375 h rfl
 have c0:Tryz.prog.cellsOf 9=1:=by kernel_rfl
 try dsimp only at h0
 rw[c0] at h0
 obtain⟨a0,r0,k0⟩:=el_9 _ _ _ h0 (by simp[hl])
 obtain⟨y1,m1,h1⟩:=xE 1 Tryz.underlying375 h rfl
 have c1:Tryz.prog.cellsOf 372=1:=by kernel_rfl
 try dsimp only at h1
 rw[c1] at h1
 obtain⟨a1,r1,k1⟩:=z12f _ _ _ h1 (by simp[hl])
 obtain⟨y2,m2,h2⟩:=xE 2 Tryz.underlying375 h rfl
 have c2:Tryz.prog.cellsOf 373=1:=by kernel_rfl
 try dsimp only at h2
 rw[c2] at h2
 obtain⟨a2,r2,k2⟩:=z12g _ _ _ h2 (by simp[hl])
 obtain⟨u0,u1,u2,rfl⟩:∃ u0 u1 u2,cs=[u0,u1,u2]:=by match cs,hl with | [u0,u1,u2],_=>exact⟨_,_,_,rfl⟩
 simp[e9] at r0
 obtain⟨AD,AE,r1,BQ⟩:=r1
 simp at r1
 obtain⟨BR,BS,r2,C9⟩:=r2
 simp at r2
 refine⟨⟨a0,a1,a2⟩,⟨AD,AE,BR,BS,by simp[*],BQ,C9⟩,⟨k1,k2⟩⟩
theorem z12i (n:Nat) (cs:List Value) (y:DataW H×List MemPlace) (h:DataW.trod enc Tryz.prog W 0 f6 kA n 28 cs=some y) (hl:cs.length=1):∃ a:List yC,(p28 (ZW W) cs a)/\(a.length<=9223372036854775807/\∀ x∈a,kd375 x):=by
 obtain⟨ao,cap,l,rfl,hz,hL⟩:=jm (Pr:=fun r x=>(kw (ZW W) r x)/\(kd375 x)) (sz:=3) Tryz.underlying28 (by kernel_rfl) (by decide) z12h h
 unfold maxLen at hL
 exact⟨l,⟨ao,cap,rfl,hz.weak (fun _ _ h=>h.1)⟩,⟨by omega,hz.all (q:=fun x=>kd375 x) (fun _ _ h=>h.2)⟩⟩
theorem z12j (n:Nat) (cs:List Value) (y:DataW H×List MemPlace) (h:DataW.trod enc Tryz.prog W 0 f6 kA n 377 cs=some y) (hl:cs.length=4):∃ a:yB,(cs=kL a)/\(kd377 a):=by
 obtain⟨y0,m0,h0⟩:=xE 0 Tryz.underlying377 h rfl
 have c0:Tryz.prog.cellsOf 9=1:=by kernel_rfl
 try dsimp only at h0
 rw[c0] at h0
 obtain⟨a0,r0,k0⟩:=el_9 _ _ _ h0 (by simp[hl])
 obtain⟨y1,m1,h1⟩:=xE 1 Tryz.underlying377 h rfl
 have c1:Tryz.prog.cellsOf 3=1:=by kernel_rfl
 try dsimp only at h1
 rw[c1] at h1
 obtain⟨a1,r1,k1⟩:=el_3 _ _ _ h1 (by simp[hl])
 obtain⟨y2,m2,h2⟩:=xE 2 Tryz.underlying377 h rfl
 have c2:Tryz.prog.cellsOf 9=1:=by kernel_rfl
 try dsimp only at h2
 rw[c2] at h2
 obtain⟨a2,r2,k2⟩:=el_9 _ _ _ h2 (by simp[hl])
 obtain⟨y3,m3,h3⟩:=xE 3 Tryz.underlying377 h rfl
 have c3:Tryz.prog.cellsOf 3=1:=by kernel_rfl
 try dsimp only at h3
 rw[c3] at h3
 obtain⟨a3,r3,k3⟩:=el_3 _ _ _ h3 (by simp[hl])
 obtain⟨u0,u1,u2,u3,rfl⟩:∃ u0 u1 u2 u3,cs=[u0,u1,u2,u3]:=by match cs,hl with | [u0,u1,u2,u3],_=>exact⟨_,_,_,_,rfl⟩
 simp[e9] at r0
 simp[e3] at r1
 simp[e9] at r2
 simp[e3] at r3
 exact⟨⟨a0,a1,a2,a3⟩,by simp[kL, *],⟨k1,k3⟩⟩
theorem z12k (n:Nat) (cs:List Value) (y:DataW H×List MemPlace) (h:DataW.trod enc Tryz.prog W 0 f6 kA n 29 cs=some y) (hl:cs.length=1):∃ a:List yB,(p29 (ZW W) cs a)/\(a.length<=9223372036854775807/\∀ x∈a,kd377 x):=by
 obtain⟨ao,cap,l,rfl,hz,hL⟩:=jm (Pr:=fun r x=>(r=kL x)/\(kd377 x)) (sz:=4) Tryz.underlying29 (by kernel_rfl) (by decide) z12j h
 unfold maxLen at hL
 exact⟨l,⟨ao,cap,rfl,hz.weak (fun _ _ h=>h.1)⟩,⟨by omega,hz.all (q:=fun x=>kd377 x) (fun _ _ h=>h.2)⟩⟩
theorem z12l (n:Nat) (cs:List Value) (y:DataW H×List MemPlace) (h:DataW.trod enc Tryz.prog W 0 f6 kA n 31 cs=some y) (hl:cs.length=8):∃ a:zt,(p31 (ZW W) cs a)/\(kd31 a):=by
 obtain⟨y0,m0,h0⟩:=xE 0 Tryz.underlying31 h rfl
 have c0:Tryz.prog.cellsOf 22=1:=by kernel_rfl
 try dsimp only at h0
 rw[c0] at h0
 obtain⟨a0,r0,k0⟩:=z123 _ _ _ h0 (by simp[hl])
 obtain⟨y1,m1,h1⟩:=xE 1 Tryz.underlying31 h rfl
 have c1:Tryz.prog.cellsOf 23=1:=by kernel_rfl
 try dsimp only at h1
 rw[c1] at h1
 obtain⟨a1,r1,k1⟩:=z125 _ _ _ h1 (by simp[hl])
 obtain⟨y2,m2,h2⟩:=xE 2 Tryz.underlying31 h rfl
 have c2:Tryz.prog.cellsOf 24=1:=by kernel_rfl
 try dsimp only at h2
 rw[c2] at h2
 obtain⟨a2,r2,k2⟩:=z127 _ _ _ h2 (by simp[hl])
 obtain⟨y3,m3,h3⟩:=xE 3 Tryz.underlying31 h rfl
 have c3:Tryz.prog.cellsOf 25=1:=by kernel_rfl
 try dsimp only at h3
 rw[c3] at h3
 obtain⟨a3,r3,k3⟩:=z129 _ _ _ h3 (by simp[hl])
 obtain⟨y4,m4,h4⟩:=xE 4 Tryz.underlying31 h rfl
 have c4:Tryz.prog.cellsOf 26=1:=by kernel_rfl
 try dsimp only at h4
 rw[c4] at h4
 obtain⟨a4,r4,k4⟩:=z12b _ _ _ h4 (by simp[hl])
 obtain⟨y5,m5,h5⟩:=xE 5 Tryz.underlying31 h rfl
 have c5:Tryz.prog.cellsOf 27=1:=by kernel_rfl
 try dsimp only at h5
 rw[c5] at h5
 obtain⟨a5,r5,k5⟩:=z12d _ _ _ h5 (by simp[hl])
 obtain⟨y6,m6,h6⟩:=xE 6 Tryz.underlying31 h rfl
 have c6:Tryz.prog.cellsOf 28=1:=by kernel_rfl
 try dsimp only at h6
 rw[c6] at h6
 obtain⟨a6,r6,k6⟩:=z12i _ _ _ h6 (by simp[hl])
 obtain⟨y7,m7,h7⟩:=xE 7 Tryz.underlying31 h rfl
 have c7:Tryz.prog.cellsOf 29=1:=by kernel_rfl
 try dsimp only at h7
 rw[c7] at h7
 obtain⟨a7,r7,k7⟩:=z12k _ _ _ h7 (by simp[hl])
 obtain⟨u0,u1,u2,u3,u4,u5,u6,u7,rfl⟩:∃ u0 u1 u2 u3 u4 u5 u6 u7,cs=[u0,u1,u2,u3,u4,u5,u6,u7]:=by match cs,hl with | [u0,u1,u2,u3,u4,u5,u6,u7],_=>exact⟨_,_,_,_,_,_,_,_,rfl⟩
 obtain⟨BT,BU,r0,Da⟩:=r0
 simp at r0
 obtain⟨AD,AE,r1,BQ⟩:=r1
 simp at r1
 obtain⟨BR,BS,r2,C9⟩:=r2
 simp at r2
 obtain⟨BO,BP,r3,C8⟩:=r3
 simp at r3
 obtain⟨zH,zJ,r4,AP⟩:=r4
 simp at r4
 obtain⟨Eh,Ei,r5,z5x0⟩:=r5
 simp at r5
 obtain⟨Ej,Ek,r6,z6x0⟩:=r6
 simp at r6
 obtain⟨BK,BN,r7,C7⟩:=r7
 simp at r7
 refine⟨⟨a0,a1,a2,a3,a4,a5,a6,a7⟩,⟨BT,BU,AD,AE,BR,BS,BO,BP,zH,zJ,Eh,Ei,Ej,Ek,BK,BN,by simp[*],Da,BQ,C9,C8,AP,z5x0,z6x0,C7⟩,⟨k0,k1,k2,k3,k4,k5,k6,k7⟩⟩
theorem z12m (n:Nat) (cs:List Value) (y:DataW H×List MemPlace) (h:DataW.trod enc Tryz.prog W 0 f6 kA n 60 cs=some y) (hl:cs.length=3):∃ a:zd,(cs=gk a)/\(kd60 a):=by
 obtain⟨y0,m0,h0⟩:=xE 0 Tryz.underlying60 h rfl
 have c0:Tryz.prog.cellsOf 3=1:=by kernel_rfl
 try dsimp only at h0
 rw[c0] at h0
 obtain⟨a0,r0,k0⟩:=el_3 _ _ _ h0 (by simp[hl])
 obtain⟨y1,m1,h1⟩:=xE 1 Tryz.underlying60 h rfl
 have c1:Tryz.prog.cellsOf 3=1:=by kernel_rfl
 try dsimp only at h1
 rw[c1] at h1
 obtain⟨a1,r1,k1⟩:=el_3 _ _ _ h1 (by simp[hl])
 obtain⟨y2,m2,h2⟩:=xE 2 Tryz.underlying60 h rfl
 have c2:Tryz.prog.cellsOf 3=1:=by kernel_rfl
 try dsimp only at h2
 rw[c2] at h2
 obtain⟨a2,r2,k2⟩:=el_3 _ _ _ h2 (by simp[hl])
 obtain⟨u0,u1,u2,rfl⟩:∃ u0 u1 u2,cs=[u0,u1,u2]:=by match cs,hl with | [u0,u1,u2],_=>exact⟨_,_,_,rfl⟩
 simp[e3] at r0
 simp[e3] at r1
 simp[e3] at r2
 exact⟨⟨a0,a1,a2⟩,by simp[gk, *],⟨k0,k1,k2⟩⟩
theorem z12n (n:Nat) (cs:List Value) (y:DataW H×List MemPlace) (h:DataW.trod enc Tryz.prog W 0 f6 kA n 58 cs=some y) (hl:cs.length=1):∃ a:List zd,(wT (ZW W) cs a)/\(a.length<=9223372036854775807/\∀ x∈a,kd60 x):=by
 obtain⟨ao,cap,l,rfl,hz,hL⟩:=jm (Pr:=fun r x=>(r=gk x)/\(kd60 x)) (sz:=3) Tryz.underlying58 (by kernel_rfl) (by decide) z12m h
 unfold maxLen at hL
 exact⟨l,⟨ao,cap,rfl,hz.weak (fun _ _ h=>h.1)⟩,⟨by omega,hz.all (q:=fun x=>kd60 x) (fun _ _ h=>h.2)⟩⟩
theorem own:ownKnob Tryz.prog.godebug=none:=by kernel_rfl
theorem laid:laidOutB Tryz.prog=true:=by kernel_rfl
set_option maxRecDepth 100000 in
theorem lifted (os:Os) (Aq:os.Started) (H:Type) (enc:TypeId×Value->H):
  ReturnsInHanded {} Tryz.checked os 7 .any (Rows.holisticWrongSpec.pre6 enc Tryz.prog Tryz.f7 Rows.holisticWrongRow.domain false) (Rows.holisticWrongSpec.post enc Tryz.prog Tryz.f7 false true false false):=by
 refine returnsInHanded_of_change (C:=Tryz.checked) own Aq (by kernel_rfl) Tryz.func7
  (ChangeSpec.witness6 (enc:=enc) (C:=Tryz.checked) false ⟨#[],#[(.agg #[.slice none 0 0,.slice none 0 0,.slice none 0 0,.slice none 0 0,.slice none 0 0,.slice none 0 0,.slice none 0 0,.slice none 0 0]),.int .i64 0,.slice none 0 0,.int .u8 0,.int .u8 0],[]⟩ 8 (by kernel_rfl) (by kernel_rfl) (by kernel_rfl) (by kernel_rfl)) ?_
 intro W base args ds gs zm El hW hcnd _
 have Bh:∀(j:Nat) t v,Tryz.f7.params[j]?=some t->args[j]?=some v->Value.okWide Tryz.prog W .any base t v:=El
 have Dc:=hW
 obtain⟨p,q,hA0,hV,rfl,hfz,Dy⟩:=hW
 have hA:DataW.TrodAll enc Tryz.prog W 0 (fun _=>true) true Tryz.f7.params.toList args.toList ds p:=hA0
 rw[Tryz.params7] at hA Bh
 obtain⟨v0,vs0,d0,ds0,p0,q0,hargs,rfl,rfl,h0,r0⟩:=trodAll_cons hA
 obtain⟨v1,vs1,d1,ds1,p1,q1,rfl,rfl,rfl,h1,r1⟩:=trodAll_cons r0
 obtain⟨v2,vs2,d2,ds2,p2,q2,rfl,rfl,rfl,h2,r2⟩:=trodAll_cons r1
 obtain⟨v3,vs3,d3,ds3,p3,q3,rfl,rfl,rfl,h3,r3⟩:=trodAll_cons r2
 obtain⟨v4,vs4,d4,ds4,p4,q4,rfl,rfl,rfl,h4,r4⟩:=trodAll_cons r3
 obtain⟨rfl,rfl,rfl⟩:=trodAll_nil r4
 obtain rfl:args = #[v0,v1,v2,v3,v4]:=by cases args;simp_all
 obtain⟨rfl,rfl⟩:=trodVars_none hV
 obtain⟨fuel0,hf0⟩:=h0
 obtain⟨cs0,rfl,DH,hg0⟩:=Q8 (Bh 0 31 v0 rfl rfl) hf0 Tryz.underlying31 (show Tryz.prog.cellsOf 31=8 by kernel_rfl)
 obtain⟨x0,hr0,bd0⟩:=z12l _ _ _ hg0 DH
 obtain⟨BT,BU,Em,En,Eo,Ep,Es,Et,Eu,Ew,Ex,Ey,Ez,EA,EB,EC,rfl,Da,z0x1,z0x2,z0x3,z0x4,z0x5,z0x6,z0x7⟩:=hr0
 obtain⟨x1,rfl,hd1,zB,wf1⟩:=open_int Tryz.underlying3 (Bh 1 3 v1 rfl rfl) h1
 have bd1:=Go.bounds_i64 wf1
 obtain⟨Ci,m2,Ao,x2,rfl,hs2,hL2⟩:=Vt (Pr:=fun r x=>(wT (ZW W) r x)/\(x.length<=9223372036854775807/\∀ y∈x,kd60 y)) (sz:=1) Tryz.underlying32 (by kernel_rfl) (by decide) z12n (Bh 2 32 v2 rfl rfl) h2
 unfold maxLen at hL2
 obtain⟨rfl,hz2⟩:=eJ hs2
 have bd2:=hz2.all (q:=fun x=>x.length<=9223372036854775807/\∀ y∈x,kd60 y) (fun _ _ h=>h.2)
 replace hz2:=hz2.weak (Pr':=(wT (ZW W))) (fun _ _ h=>h.1)
 obtain⟨x3,rfl,hd3,hp3,wf3⟩:=open_int Tryz.underlying5 (Bh 3 5 v3 rfl rfl) h3
 have bd3:=Go.bounds_u8 wf3
 obtain⟨x4,rfl,hd4,hp4,wf4⟩:=open_int Tryz.underlying5 (Bh 4 5 v4 rfl rfl) h4
 have bd4:=Go.bounds_u8 wf4
 have ED:=law x0 x1 x2 x3 x4 bd3 bd4
 refine(oX (Z:=ZW W) (z3w:=BT) (z3x:=BU) (z3y:=Em) (z3z:=En) (z3A:=Eo) (z3B:=Ep) (z3C:=Es) (z3D:=Et) (zsA:=Eu) (zsB:=Ew) (z3E:=Ex) (z3F:=Ey) (z3G:=Ez) (z3H:=EA) (z3I:=EB) (z3J:=EC) (zi9:=Ci) (zia:=Ao) (zb:=x0) (zi7:=x1) (z5u:=x2) (zF:=x3) (zg8:=x4) (r:=true) ED W (ZW_pz W) Da z0x1 z0x2 z0x3 z0x4 z0x5 z0x6 z0x7 hz2).mono fun e W' ⟨he,hh⟩=>?_
 subst he
 exact⟨_,rfl,XG laid (by kernel_rfl) rfl rfl Tryz.underlying4 Dc (fun _=>⟨rfl,rfl,rfl⟩) hh.below⟩
theorem jand {a b:Bool} (h:a=true) (k:b=true):(a&&b)=true:=by rw[h,k];rfl
theorem jf0:(Rows.holisticWrongRow.wf (OpenSpec.ofChange Rows.holisticWrongSpec))=true:=by kernel_rfl
theorem jf1:(laidOutB Tryz.pinned.checked.prog)=true:=by kernel_rfl
theorem jf2:(mapsRowed Tryz.pinned.checked.prog)=true:=by kernel_rfl
theorem jf3:(Tryz.f7.params.all (Tryz.pinned.checked.prog.readableRec ·))=true:=by kernel_rfl
theorem jf4:(namedTie Tryz.pinned.checked.prog Rows.holisticWrongRow.named Rows.holisticWrongSpec.vars)=true:=by kernel_rfl
theorem jf5:((Rows.holisticWrongRow.stops == []))=true:=by kernel_rfl
theorem jf6:((Tryz.pinned.checked.prog.stops == []))=true:=by kernel_rfl
theorem jf7:((Rows.holisticWrongRow.knobs == []))=true:=by kernel_rfl
theorem jf8:((Tryz.pinned.checked.prog.stopKnobs == []))=true:=by kernel_rfl
theorem jf9:((Rows.holisticWrongRow.inPlace == Tryz.pinned.checked.prog.inPlace 7))=true:=by kernel_rfl
theorem jf10:((Rows.holisticWrongRow.unfollowed == Tryz.pinned.checked.prog.unfollowed 7))=true:=by kernel_rfl
theorem jf11:((Rows.holisticWrongRow.recurses == Tryz.pinned.checked.prog.recurses 7))=true:=by kernel_rfl
theorem jf12:((Rows.holisticWrongRow.named == Tryz.pinned.checked.prog.varsNamed 7))=true:=by kernel_rfl
theorem jf13:((Rows.holisticWrongRow.maps == (Tryz.f7.params.toList++Rows.holisticWrongSpec.plain.varTypes Tryz.pinned.checked.prog).any (Tryz.pinned.checked.prog.mapsRec ·)))=true:=by kernel_rfl
theorem jf14:((Rows.holisticWrongRow.ifaces == (Tryz.f7.params.toList++Rows.holisticWrongSpec.plain.varTypes Tryz.pinned.checked.prog).any (Tryz.pinned.checked.prog.ifacesRec ·)))=true:=by kernel_rfl
theorem jf15:((Rows.holisticWrongRow.mapsOut == Tryz.pinned.checked.prog.mapsAmong Tryz.f7.resultTypes.toList))=true:=by kernel_rfl
theorem jf16:((Rows.holisticWrongRow.loops == (Tryz.f7.params.toList++Rows.holisticWrongSpec.plain.varTypes Tryz.pinned.checked.prog).any (Tryz.pinned.checked.prog.loopsFrom ·)))=true:=by kernel_rfl
theorem jf17:((Rows.holisticWrongRow.wideKeys == (Tryz.f7.params.toList++Rows.holisticWrongSpec.plain.varTypes Tryz.pinned.checked.prog++Tryz.f7.resultTypes.toList).any (Tryz.pinned.checked.prog.wideKeysFrom ·)))=true:=by kernel_rfl
theorem jf18:(Rows.holisticWrongSpec.vars.all (Tryz.pinned.checked.prog.varReadable ·))=true:=by kernel_rfl
theorem jf19:(Tryz.f7.resultTypes.all (fun t=>Tryz.pinned.checked.prog.readableRec t&&decide (t<Tryz.pinned.checked.prog.types.size)))=true:=by kernel_rfl
theorem jf20:((Rows.holisticWrongRow.ifacesOut == Tryz.f7.resultTypes.toList.any (Tryz.pinned.checked.prog.ifacesRec ·)))=true:=by kernel_rfl
theorem jf21:((Rows.holisticWrongRow.loopsOut == Tryz.f7.resultTypes.toList.any (Tryz.pinned.checked.prog.loopsFrom ·)))=true:=by kernel_rfl
theorem jf22:((Rows.holisticWrongRow.plainKeys == Tryz.pinned.checked.prog.plainKeys))=true:=by kernel_rfl
theorem jf23:(Rows.holisticWrongRow.shortTexts.isNone)=true:=by kernel_rfl
theorem jf24:(Tryz.pinned.checked.prog.stopsHeard)=true:=by kernel_rfl
theorem jf25:(Tryz.pinned.checked.prog.mayEnter)=true:=by kernel_rfl
theorem jf26:((Rows.holisticWrongRow.lifted == Tryz.pinned.checked.prog.liftsFinal))=true:=by kernel_rfl
theorem jf27:((Tryz.pinned.checked.prog.make == some Rows.holisticWrongRow.make))=true:=by kernel_rfl
theorem jf28:((Rows.holisticWrongRow.kinds == (if Rows.holisticWrongRow.domain.isEmpty then[] else Tryz.f7.params.toList.map fun t=>match Tryz.pinned.checked.prog.underlying t with | some (.int k)=>some k | _=>none)))=true:=by kernel_rfl
theorem jf29:((Rows.holisticWrongRow.pinned == Rows.holisticWrongRow.pinnedBy))=true:=by kernel_rfl
theorem jf30:((Rows.holisticWrongRow.veiled == (Tryz.f7.params.toList++Rows.holisticWrongSpec.plain.varTypes Tryz.pinned.checked.prog++Tryz.f7.resultTypes.toList).any (Tryz.pinned.checked.prog.veiledRec ·)))=true:=by kernel_rfl
theorem jf31:(Rows.holisticWrongRow.veiledFits Tryz.pinned.checked.prog Tryz.f7.params.toList (Tryz.f7.params.toList++Rows.holisticWrongSpec.plain.varTypes Tryz.pinned.checked.prog++Tryz.f7.resultTypes.toList))=true:=by kernel_rfl
set_option maxRecDepth 100000 in
theorem jclosed:joinedFacts Tryz.pinned.checked.prog 7 Tryz.f7 Rows.holisticWrongSpec Rows.holisticWrongRow=true:=by
 unfold joinedFacts
 exact(jand (jand (jand (jand (jand (jand (jand (jand (jand (jand (jand (jand (jand (jand (jand (jand (jand (jand (jand (jand (jand (jand (jand (jand (jand (jand (jand (jand (jand (jand (jand jf0 jf1) jf2) jf3) jf4) jf5) jf6) jf7) jf8) jf9) jf10) jf11) jf12) jf13) jf14) jf15) jf16) jf17) jf18) jf19) jf20) jf21) jf22) jf23) jf24) jf25) jf26) jf27) jf28) jf29) jf30) jf31)
theorem over:Rows.holisticWrongRow.holds Tryz.pinned (OpenSpec.ofChange Rows.holisticWrongSpec):=
 OpenClaim.holds_of_wide 7 Tryz.f7 rfl rfl rfl rfl rfl rfl rfl ⟨rfl,rfl,rfl,rfl,rfl⟩ rfl rfl rfl rfl rfl (by kernel_rfl) Tryz.func7 jclosed
  (of_decide_eq_true (by kernel_rfl)) (by unfold Func.isWrapper;first | (rw[if_pos (by decide +kernel)];kernel_rfl) | (rw[if_neg (by decide +kernel)];exact⟨rfl,rfl⟩))
  (fun os Aq H enc _=>lifted os Aq H enc)
theorem proved:Rows.HolisticWrongSaid:=over
#print axioms proved
end Go.Proofs.YthjnhebofpebpaaGreat.holisticWrong
