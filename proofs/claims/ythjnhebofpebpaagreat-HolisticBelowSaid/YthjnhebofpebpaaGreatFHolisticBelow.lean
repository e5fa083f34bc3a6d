/-
 Whatever the input, the law HolisticBelow of layer 36 returns true, and its arguments read behind the call as before it. No conditions.
-/
import Derived.Test.YthjnhebofpebpaaGreatPHolisticBelow
import Derived.Test.YthjnhebofpebpaaGreatZMem
import Derived.Test.YthjnhebofpebpaaGreatRows
set_option linter.all false
namespace Go.Proofs.YthjnhebofpebpaaGreat.holisticBelow
open Go.ChangeShapes Go.WideShapes Go.ChangeAt Go.RowKit Sep
set_option linter.unusedVariables false
def p31 (Z:Zp) (r:List Value) (x:zs):Prop:=∃(ao0:Option Addr) (cap0:Nat) (ao1:Option Addr) (cap1:Nat) (ao2:Option Addr) (cap2:Nat) (ao3:Option Addr) (cap3:Nat) (ao4:Option Addr) (cap4:Nat) (ao5:Option Addr) (cap5:Nat) (ao6:Option Addr) (cap6:Nat) (ao7:Option Addr) (cap7:Nat),r=[(.slice ao0 x.fM.length cap0),(.slice ao1 x.fC0.length cap1),(.slice ao2 x.fS.length cap2),(.slice ao3 x.fK.length cap3),(.slice ao4 x.fVLs.length cap4),(.slice ao5 x.fH.length cap5),(.slice ao6 x.fU.length cap6),(.slice ao7 x.fV0.length cap7)]/\ZS Z 4 (y3F Z) ao0 cap0 x.fM/\ZS Z 4 (y4l Z) ao1 cap1 x.fC0/\ZS Z 4 (fun r x=>r=e64 x) ao2 cap2 x.fS/\ZS Z 4 (fun r x=>r=e62 x) ao3 cap3 x.fK/\ZS Z 7 (p69 Z) ao4 cap4 x.fVLs/\ZS Z 5 (fun r x=>r=y4D x) ao5 cap5 x.fH/\ZS Z 3 (y4m Z) ao6 cap6 x.fU/\ZS Z 4 (fun r x=>r=y4E x) ao7 cap7 x.fV0
def p22 (Z:Zp) (r:List Value) (x:List z6z):Prop:=∃(ao0:Option Addr) (cap0:Nat),r=[(.slice ao0 x.length cap0)]/\ZS Z 4 (y3F Z) ao0 cap0 x
def p124 (Z:Zp) (r:List Value) (x:List Sapi_Part):Prop:=∃(ao0:Option Addr) (cap0:Nat),r=[(.slice ao0 x.length cap0)]/\ZS Z 10 (p381 Z) ao0 cap0 x
def p378 (Z:Zp) (r:List Value) (x:List Sapi_Port):Prop:=∃(ao0:Option Addr) (cap0:Nat),r=[(.slice ao0 x.length cap0)]/\ZS Z 6 (fun r x=>r=e387 x) ao0 cap0 x
def e4 (x:Bool):List Value:=[(.bool x)]
def p379 (Z:Zp) (r:List Value) (x:List Sapi_Proc):Prop:=∃(ao0:Option Addr) (cap0:Nat),r=[(.slice ao0 x.length cap0)]/\ZS Z 5 (p390 Z) ao0 cap0 x
def p388 (Z:Zp) (r:List Value) (x:List Sapi_Ins):Prop:=∃(ao0:Option Addr) (cap0:Nat),r=[(.slice ao0 x.length cap0)]/\ZS Z 4 (fun r x=>r=e392 x) ao0 cap0 x
def p23 (Z:Zp) (r:List Value) (x:List zhs):Prop:=∃(ao0:Option Addr) (cap0:Nat),r=[(.slice ao0 x.length cap0)]/\ZS Z 4 (y4l Z) ao0 cap0 x
def p67 (Z:Zp) (r:List Value) (x:List Sapi_Ref):Prop:=∃(ao0:Option Addr) (cap0:Nat),r=[(.slice ao0 x.length cap0)]/\ZS Z 3 (fun r x=>r=e66 x) ao0 cap0 x
def p24 (Z:Zp) (r:List Value) (x:List z87):Prop:=∃(ao0:Option Addr) (cap0:Nat),r=[(.slice ao0 x.length cap0)]/\ZS Z 4 (fun r x=>r=e64 x) ao0 cap0 x
def p25 (Z:Zp) (r:List Value) (x:List z74):Prop:=∃(ao0:Option Addr) (cap0:Nat),r=[(.slice ao0 x.length cap0)]/\ZS Z 4 (fun r x=>r=e62 x) ao0 cap0 x
def p26 (Z:Zp) (r:List Value) (x:List z16):Prop:=∃(ao0:Option Addr) (cap0:Nat),r=[(.slice ao0 x.length cap0)]/\ZS Z 7 (p69 Z) ao0 cap0 x
def p27 (Z:Zp) (r:List Value) (x:List Sapi_Health):Prop:=∃(ao0:Option Addr) (cap0:Nat),r=[(.slice ao0 x.length cap0)]/\ZS Z 5 (fun r x=>r=y4D x) ao0 cap0 x
def p28 (Z:Zp) (r:List Value) (x:List Sapi_Cause):Prop:=∃(ao0:Option Addr) (cap0:Nat),r=[(.slice ao0 x.length cap0)]/\ZS Z 3 (y4m Z) ao0 cap0 x
def p372 (Z:Zp) (r:List Value) (x:List Sapi_Report):Prop:=∃(ao0:Option Addr) (cap0:Nat),r=[(.slice ao0 x.length cap0)]/\ZS Z 2 (fun r x=>r=e385 x) ao0 cap0 x
def p373 (Z:Zp) (r:List Value) (x:List ByteArray):Prop:=∃(ao0:Option Addr) (cap0:Nat),r=[(.slice ao0 x.length cap0)]/\ZS Z 1 (fun r x=>r=e9 x) ao0 cap0 x
def p29 (Z:Zp) (r:List Value) (x:List Sapi_Version):Prop:=∃(ao0:Option Addr) (cap0:Nat),r=[(.slice ao0 x.length cap0)]/\ZS Z 4 (fun r x=>r=y4E x) ao0 cap0 x
abbrev kd387 (a:Sapi_Port):Prop:=(0<=a.fKind/\a.fKind<=255)/\(-9223372036854775808<=a.fSize/\a.fSize<=9223372036854775807)/\(-9223372036854775808<=a.fDepth/\a.fDepth<=9223372036854775807)/\(-9223372036854775808<=a.fRefresh/\a.fRefresh<=9223372036854775807)
abbrev kd392 (a:Sapi_Ins):Prop:=(0<=a.fOp/\a.fOp<=255)/\(-9223372036854775808<=a.fA/\a.fA<=9223372036854775807)/\(-9223372036854775808<=a.fB/\a.fB<=9223372036854775807)/\(-9223372036854775808<=a.fC/\a.fC<=9223372036854775807)
abbrev kd390 (a:Sapi_Proc):Prop:=(-9223372036854775808<=a.fPrio/\a.fPrio<=9223372036854775807)/\(-9223372036854775808<=a.fPeriod/\a.fPeriod<=9223372036854775807)/\(-9223372036854775808<=a.fLimit/\a.fLimit<=9223372036854775807)/\(a.fCode.length<=9223372036854775807/\∀ x∈a.fCode,kd392 x)
abbrev kd381 (a:Sapi_Part):Prop:=(-9223372036854775808<=a.fPeriod/\a.fPeriod<=9223372036854775807)/\(-9223372036854775808<=a.fLength/\a.fLength<=9223372036854775807)/\(-9223372036854775808<=a.fMem/\a.fMem<=9223372036854775807)/\(a.fSemas.length<=9223372036854775807/\∀ x∈a.fSemas,-9223372036854775808<=x/\x<=9223372036854775807)/\(-9223372036854775808<=a.fEvents/\a.fEvents<=9223372036854775807)/\(-9223372036854775808<=a.fBoards/\a.fBoards<=9223372036854775807)/\(a.fBufs.length<=9223372036854775807/\∀ x∈a.fBufs,-9223372036854775808<=x/\x<=9223372036854775807)/\(a.fP.length<=9223372036854775807/\∀ x∈a.fP,kd387 x)/\(a.fProcs.length<=9223372036854775807/\∀ x∈a.fProcs,kd390 x)
abbrev kd126 (a:z6z):Prop:=(-9223372036854775808<=a.fMem/\a.fMem<=9223372036854775807)/\(-9223372036854775808<=a.fFrame/\a.fFrame<=9223372036854775807)/\(a.fParts.length<=9223372036854775807/\∀ x∈a.fParts,kd381 x)
abbrev kd369 (a:zhs):Prop:=(a.fTo.length<=9223372036854775807)
abbrev kd64 (a:z87):Prop:=(-9223372036854775808<=a.fNet/\a.fNet<=9223372036854775807)/\(-9223372036854775808<=a.fDelay/\a.fDelay<=9223372036854775807)/\(-9223372036854775808<=a.fT/\a.fT<=9223372036854775807)
abbrev kd62 (a:z74):Prop:=(-9223372036854775808<=a.fNet/\a.fNet<=9223372036854775807)/\(-9223372036854775808<=a.fSlow/\a.fSlow<=9223372036854775807)
abbrev kd69 (a:z16):Prop:=(-9223372036854775808<=a.fBag/\a.fBag<=9223372036854775807)/\(-9223372036854775808<=a.fMax/\a.fMax<=9223372036854775807)/\(a.fTo.length<=9223372036854775807)
abbrev kd371 (a:Sapi_Health):Prop:=(0<=a.fFault/\a.fFault<=255)/\(0<=a.fLevel/\a.fLevel<=255)/\(0<=a.fDo/\a.fDo<=255)
abbrev kd385 (a:Sapi_Report):Prop:=(-9223372036854775808<=a.fCode/\a.fCode<=9223372036854775807)
abbrev kd375 (a:Sapi_Cause):Prop:=(a.fNeeds.length<=9223372036854775807/\∀ x∈a.fNeeds,kd385 x)/\(a.fUnless.length<=9223372036854775807)
abbrev kd377 (a:Sapi_Version):Prop:=(-9223372036854775808<=a.fVA/\a.fVA<=9223372036854775807)/\(-9223372036854775808<=a.fVB/\a.fVB<=9223372036854775807)
abbrev kd31 (a:zs):Prop:=(a.fM.length<=9223372036854775807/\∀ x∈a.fM,kd126 x)/\(a.fC0.length<=9223372036854775807/\∀ x∈a.fC0,kd369 x)/\(a.fS.length<=9223372036854775807/\∀ x∈a.fS,kd64 x)/\(a.fK.length<=9223372036854775807/\∀ x∈a.fK,kd62 x)/\(a.fVLs.length<=9223372036854775807/\∀ x∈a.fVLs,kd69 x)/\(a.fH.length<=9223372036854775807/\∀ x∈a.fH,kd371 x)/\(a.fU.length<=9223372036854775807/\∀ x∈a.fU,kd375 x)/\(a.fV0.length<=9223372036854775807/\∀ x∈a.fV0,kd377 x)
abbrev kd60 (a:ze):Prop:=(-9223372036854775808<=a.fNode/\a.fNode<=9223372036854775807)/\(-9223372036854775808<=a.fNext/\a.fNext<=9223372036854775807)/\(-9223372036854775808<=a.fQ/\a.fQ<=9223372036854775807)
variable {H:Type} {enc:TypeId×Value->H} {W:World} {spare:Nat->Bool} {held:Bool}
theorem el_9 (n:Nat) (cs:List Value) (y:DataW H×List MemPlace) (h:DataW.trod enc Tryz.prog W 0 spare held n 9 cs=some y) (hl:cs.length=1):∃ a:ByteArray,(cs=e9 a)/\(True):=by
 obtain⟨a,rfl,-,-⟩:=DataW.trod_string Tryz.underlying9 h
 exact⟨a,rfl,trivial⟩
theorem el_3 (n:Nat) (cs:List Value) (y:DataW H×List MemPlace) (h:DataW.trod enc Tryz.prog W 0 spare held n 3 cs=some y) (hl:cs.length=1):∃ a:Int,(cs=e3 a)/\(-9223372036854775808<=a/\a<=9223372036854775807):=by
 obtain⟨a,rfl,-,wf⟩:=DataW.trod_int Tryz.underlying3 h
 exact⟨a,rfl,Go.bounds_i64 wf⟩
theorem el_50 (n:Nat) (cs:List Value) (y:DataW H×List MemPlace) (h:DataW.trod enc Tryz.prog W 0 spare held n 50 cs=some y) (hl:cs.length=1):∃ a:List Int,(p50 (ZW W) cs a)/\(a.length<=9223372036854775807/\∀ x∈a,-9223372036854775808<=x/\x<=9223372036854775807):=by
 obtain⟨ao,cap,l,rfl,hz,hL⟩:=y3z (Pr:=fun r x=>(r=e3 x)/\(-9223372036854775808<=x/\x<=9223372036854775807)) (sz:=1) Tryz.underlying50 (by kernel_rfl) (by decide) el_3 h
 unfold maxLen at hL
 exact⟨l,⟨ao,cap,rfl,hz.weak (fun _ _ h=>h.1)⟩,⟨by omega,hz.all (q:=fun x => -9223372036854775808<=x/\x<=9223372036854775807) (fun _ _ h=>h.2)⟩⟩
theorem el_5 (n:Nat) (cs:List Value) (y:DataW H×List MemPlace) (h:DataW.trod enc Tryz.prog W 0 spare held n 5 cs=some y) (hl:cs.length=1):∃ a:Int,(cs=e5 a)/\(0<=a/\a<=255):=by
 obtain⟨a,rfl,-,wf⟩:=DataW.trod_int Tryz.underlying5 h
 exact⟨a,rfl,Go.bounds_u8 wf⟩
theorem el_4 (n:Nat) (cs:List Value) (y:DataW H×List MemPlace) (h:DataW.trod enc Tryz.prog W 0 spare held n 4 cs=some y) (hl:cs.length=1):∃ a:Bool,(cs=e4 a)/\(True):=by
 obtain⟨a,rfl,-⟩:=DataW.trod_bool Tryz.underlying4 h
 exact⟨a,rfl,trivial⟩
theorem z11T (n:Nat) (cs:List Value) (y:DataW H×List MemPlace) (h:DataW.trod enc Tryz.prog W 0 spare held n 387 cs=some y) (hl:cs.length=6):∃ a:Sapi_Port,(cs=e387 a)/\(kd387 a):=by
 obtain⟨y0,m0,h0⟩:=yA 0 Tryz.underlying387 h rfl
 have c0:Tryz.prog.cellsOf 9=1:=by kernel_rfl
 try dsimp only at h0
 rw[c0] at h0
 obtain⟨a0,r0,k0⟩:=el_9 _ _ _ h0 (by simp[hl])
 obtain⟨y1,m1,h1⟩:=yA 1 Tryz.underlying387 h rfl
 have c1:Tryz.prog.cellsOf 5=1:=by kernel_rfl
 try dsimp only at h1
 rw[c1] at h1
 obtain⟨a1,r1,k1⟩:=el_5 _ _ _ h1 (by simp[hl])
 obtain⟨y2,m2,h2⟩:=yA 2 Tryz.underlying387 h rfl
 have c2:Tryz.prog.cellsOf 4=1:=by kernel_rfl
 try dsimp only at h2
 rw[c2] at h2
 obtain⟨a2,r2,k2⟩:=el_4 _ _ _ h2 (by simp[hl])
 obtain⟨y3,m3,h3⟩:=yA 3 Tryz.underlying387 h rfl
 have c3:Tryz.prog.cellsOf 3=1:=by kernel_rfl
 try dsimp only at h3
 rw[c3] at h3
 obtain⟨a3,r3,k3⟩:=el_3 _ _ _ h3 (by simp[hl])
 obtain⟨y4,m4,h4⟩:=yA 4 Tryz.underlying387 h rfl
 have c4:Tryz.prog.cellsOf 3=1:=by kernel_rfl
 try dsimp only at h4
 rw[c4] at h4
 obtain⟨a4,r4,k4⟩:=el_3 _ _ _ h4 (by simp[hl])
 obtain⟨y5,m5,h5⟩:=yA 5 Tryz.underlying387 h rfl
 have c5:Tryz.prog.cellsOf 3=1:=by kernel_rfl
 try dsimp only at h5
 rw[c5] at h5
 obtain⟨a5,r5,k5⟩:=el_3 _ _ _ h5 (by simp[hl])
 obtain⟨u0,u1,u2,u3,u4,u5,rfl⟩:∃ u0 u1 u2 u3 u4 u5,cs=[u0,u1,u2,u3,u4,u5]:=by match cs,hl with | [u0,u1,u2,u3,u4,u5],_=>exact⟨_,_,_,_,_,_,rfl⟩
 simp[e9] at r0
 simp[e5] at r1
 simp[e4] at r2
 simp[e3] at r3
 simp[e3] at r4
 simp[e3] at r5
 exact⟨⟨a0,a1,a2,a3,a4,a5⟩,by simp[e387, *],⟨k1,k3,k4,k5⟩⟩
theorem z11U (n:Nat) (cs:List Value) (y:DataW H×List MemPlace) (h:DataW.trod enc Tryz.prog W 0 spare held n 378 cs=some y) (hl:cs.length=1):∃ a:List Sapi_Port,(p378 (ZW W) cs a)/\(a.length<=9223372036854775807/\∀ x∈a,kd387 x):=by
 obtain⟨ao,cap,l,rfl,hz,hL⟩:=y3z (Pr:=fun r x=>(r=e387 x)/\(kd387 x)) (sz:=6) Tryz.underlying378 (by kernel_rfl) (by decide) z11T h
 unfold maxLen at hL
 exact⟨l,⟨ao,cap,rfl,hz.weak (fun _ _ h=>h.1)⟩,⟨by omega,hz.all (q:=fun x=>kd387 x) (fun _ _ h=>h.2)⟩⟩
theorem z11V (n:Nat) (cs:List Value) (y:DataW H×List MemPlace) (h:DataW.trod enc Tryz.prog W 0 spare held n 392 cs=some y) (hl:cs.length=4):∃ a:Sapi_Ins,(cs=e392 a)/\(kd392 a):=by
 obtain⟨y0,m0,h0⟩:=yA 0 Tryz.underlying392 h rfl
 have c0:Tryz.prog.cellsOf 5=1:=by kernel_rfl
 try dsimp only at h0
 rw[c0] at h0
 obtain⟨a0,r0,k0⟩:=el_5 _ _ _ h0 (by simp[hl])
 obtain⟨y1,m1,h1⟩:=yA 1 Tryz.underlying392 h rfl
 have c1:Tryz.prog.cellsOf 3=1:=by kernel_rfl
 try dsimp only at h1
 rw[c1] at h1
 obtain⟨a1,r1,k1⟩:=el_3 _ _ _ h1 (by simp[hl])
 obtain⟨y2,m2,h2⟩:=yA 2 Tryz.underlying392 h rfl
 have c2:Tryz.prog.cellsOf 3=1:=by kernel_rfl
 try dsimp only at h2
 rw[c2] at h2
 obtain⟨a2,r2,k2⟩:=el_3 _ _ _ h2 (by simp[hl])
 obtain⟨y3,m3,h3⟩:=yA 3 Tryz.underlying392 h rfl
 have c3:Tryz.prog.cellsOf 3=1:=by kernel_rfl
 try dsimp only at h3
 rw[c3] at h3
 obtain⟨a3,r3,k3⟩:=el_3 _ _ _ h3 (by simp[hl])
 obtain⟨u0,u1,u2,u3,rfl⟩:∃ u0 u1 u2 u3,cs=[u0,u1,u2,u3]:=by match cs,hl with | [u0,u1,u2,u3],_=>exact⟨_,_,_,_,rfl⟩
 simp[e5] at r0
 simp[e3] at r1
 simp[e3] at r2
 simp[e3] at r3
 exact⟨⟨a0,a1,a2,a3⟩,by simp[e392, *],⟨k0,k1,k2,k3⟩⟩
theorem z11W (n:Nat) (cs:List Value) (y:DataW H×List MemPlace) (h:DataW.trod enc Tryz.prog W 0 spare held n 388 cs=some y) (hl:cs.length=1):∃ a:List Sapi_Ins,(p388 (ZW W) cs a)/\(a.length<=9223372036854775807/\∀ x∈a,kd392 x):=by
 obtain⟨ao,cap,l,rfl,hz,hL⟩:=y3z (Pr:=fun r x=>(r=e392 x)/\(kd392 x)) (sz:=4) Tryz.underlying388 (by kernel_rfl) (by decide) z11V h
 unfold maxLen at hL
 exact⟨l,⟨ao,cap,rfl,hz.weak (fun _ _ h=>h.1)⟩,⟨by omega,hz.all (q:=fun x=>kd392 x) (fun _ _ h=>h.2)⟩⟩
theorem z11X (n:Nat) (cs:List Value) (y:DataW H×List MemPlace) (h:DataW.trod enc Tryz.prog W 0 spare held n 390 cs=some y) (hl:cs.length=5):∃ a:Sapi_Proc,(p390 (ZW W) cs a)/\(kd390 a):=by
 obtain⟨y0,m0,h0⟩:=yA 0 Tryz.underlying390 h rfl
 have c0:Tryz.prog.cellsOf 9=1:=by kernel_rfl
 try dsimp only at h0
 rw[c0] at h0
 obtain⟨a0,r0,k0⟩:=el_9 _ _ _ h0 (by simp[hl])
 obtain⟨y1,m1,h1⟩:=yA 1 Tryz.underlying390 h rfl
 have c1:Tryz.prog.cellsOf 3=1:=by kernel_rfl
 try dsimp only at h1
 rw[c1] at h1
 obtain⟨a1,r1,k1⟩:=el_3 _ _ _ h1 (by simp[hl])
 obtain⟨y2,m2,h2⟩:=yA 2 Tryz.underlying390 h rfl
 have c2:Tryz.prog.cellsOf 3=1:=by kernel_rfl
 try dsimp only at h2
 rw[c2] at h2
 obtain⟨a2,r2,k2⟩:=el_3 _ _ _ h2 (by simp[hl])
 obtain⟨y3,m3,h3⟩:=yA 3 Tryz.underlying390 h rfl
 have c3:Tryz.prog.cellsOf 3=1:=by kernel_rfl
 try dsimp only at h3
 rw[c3] at h3
 obtain⟨a3,r3,k3⟩:=el_3 _ _ _ h3 (by simp[hl])
 obtain⟨y4,m4,h4⟩:=yA 4 Tryz.underlying390 h rfl
 have c4:Tryz.prog.cellsOf 388=1:=by kernel_rfl
 try dsimp only at h4
 rw[c4] at h4
 obtain⟨a4,r4,k4⟩:=z11W _ _ _ h4 (by simp[hl])
 obtain⟨u0,u1,u2,u3,u4,rfl⟩:∃ u0 u1 u2 u3 u4,cs=[u0,u1,u2,u3,u4]:=by match cs,hl with | [u0,u1,u2,u3,u4],_=>exact⟨_,_,_,_,_,rfl⟩
 simp[e9] at r0
 simp[e3] at r1
 simp[e3] at r2
 simp[e3] at r3
 obtain⟨ao4x0,cp4x0,r4,z4x0⟩:=r4
 simp at r4
 refine⟨⟨a0,a1,a2,a3,a4⟩,⟨ao4x0,cp4x0,by simp[*],z4x0⟩,⟨k1,k2,k3,k4⟩⟩
theorem z11Y (n:Nat) (cs:List Value) (y:DataW H×List MemPlace) (h:DataW.trod enc Tryz.prog W 0 spare held n 379 cs=some y) (hl:cs.length=1):∃ a:List Sapi_Proc,(p379 (ZW W) cs a)/\(a.length<=9223372036854775807/\∀ x∈a,kd390 x):=by
 obtain⟨ao,cap,l,rfl,hz,hL⟩:=y3z (Pr:=fun r x=>(p390 (ZW W) r x)/\(kd390 x)) (sz:=5) Tryz.underlying379 (by kernel_rfl) (by decide) z11X h
 unfold maxLen at hL
 exact⟨l,⟨ao,cap,rfl,hz.weak (fun _ _ h=>h.1)⟩,⟨by omega,hz.all (q:=fun x=>kd390 x) (fun _ _ h=>h.2)⟩⟩
theorem z11Z (n:Nat) (cs:List Value) (y:DataW H×List MemPlace) (h:DataW.trod enc Tryz.prog W 0 spare held n 381 cs=some y) (hl:cs.length=10):∃ a:Sapi_Part,(p381 (ZW W) cs a)/\(kd381 a):=by
 obtain⟨y0,m0,h0⟩:=yA 0 Tryz.underlying381 h rfl
 have c0:Tryz.prog.cellsOf 9=1:=by kernel_rfl
 try dsimp only at h0
 rw[c0] at h0
 obtain⟨a0,r0,k0⟩:=el_9 _ _ _ h0 (by simp[hl])
 obtain⟨y1,m1,h1⟩:=yA 1 Tryz.underlying381 h rfl
 have c1:Tryz.prog.cellsOf 3=1:=by kernel_rfl
 try dsimp only at h1
 rw[c1] at h1
 obtain⟨a1,r1,k1⟩:=el_3 _ _ _ h1 (by simp[hl])
 obtain⟨y2,m2,h2⟩:=yA 2 Tryz.underlying381 h rfl
 have c2:Tryz.prog.cellsOf 3=1:=by kernel_rfl
 try dsimp only at h2
 rw[c2] at h2
 obtain⟨a2,r2,k2⟩:=el_3 _ _ _ h2 (by simp[hl])
 obtain⟨y3,m3,h3⟩:=yA 3 Tryz.underlying381 h rfl
 have c3:Tryz.prog.cellsOf 3=1:=by kernel_rfl
 try dsimp only at h3
 rw[c3] at h3
 obtain⟨a3,r3,k3⟩:=el_3 _ _ _ h3 (by simp[hl])
 obtain⟨y4,m4,h4⟩:=yA 4 Tryz.underlying381 h rfl
 have c4:Tryz.prog.cellsOf 50=1:=by kernel_rfl
 try dsimp only at h4
 rw[c4] at h4
 obtain⟨a4,r4,k4⟩:=el_50 _ _ _ h4 (by simp[hl])
 obtain⟨y5,m5,h5⟩:=yA 5 Tryz.underlying381 h rfl
 have c5:Tryz.prog.cellsOf 3=1:=by kernel_rfl
 try dsimp only at h5
 rw[c5] at h5
 obtain⟨a5,r5,k5⟩:=el_3 _ _ _ h5 (by simp[hl])
 obtain⟨y6,m6,h6⟩:=yA 6 Tryz.underlying381 h rfl
 have c6:Tryz.prog.cellsOf 3=1:=by kernel_rfl
 try dsimp only at h6
 rw[c6] at h6
 obtain⟨a6,r6,k6⟩:=el_3 _ _ _ h6 (by simp[hl])
 obtain⟨y7,m7,h7⟩:=yA 7 Tryz.underlying381 h rfl
 have c7:Tryz.prog.cellsOf 50=1:=by kernel_rfl
 try dsimp only at h7
 rw[c7] at h7
 obtain⟨a7,r7,k7⟩:=el_50 _ _ _ h7 (by simp[hl])
 obtain⟨y8,m8,h8⟩:=yA 8 Tryz.underlying381 h rfl
 have c8:Tryz.prog.cellsOf 378=1:=by kernel_rfl
 try dsimp only at h8
 rw[c8] at h8
 obtain⟨a8,r8,k8⟩:=z11U _ _ _ h8 (by simp[hl])
 obtain⟨y9,m9,h9⟩:=yA 9 Tryz.underlying381 h rfl
 have c9:Tryz.prog.cellsOf 379=1:=by kernel_rfl
 try dsimp only at h9
 rw[c9] at h9
 obtain⟨a9,r9,k9⟩:=z11Y _ _ _ h9 (by simp[hl])
 obtain⟨u0,u1,u2,u3,u4,u5,u6,u7,u8,u9,rfl⟩:∃ u0 u1 u2 u3 u4 u5 u6 u7 u8 u9,cs=[u0,u1,u2,u3,u4,u5,u6,u7,u8,u9]:=by match cs,hl with | [u0,u1,u2,u3,u4,u5,u6,u7,u8,u9],_=>exact⟨_,_,_,_,_,_,_,_,_,_,rfl⟩
 simp[e9] at r0
 simp[e3] at r1
 simp[e3] at r2
 simp[e3] at r3
 obtain⟨ao4x0,cp4x0,r4,z4x0⟩:=r4
 simp at r4
 simp[e3] at r5
 simp[e3] at r6
 obtain⟨ao7x0,cp7x0,r7,z7x0⟩:=r7
 simp at r7
 obtain⟨ao8x0,cp8x0,r8,z8x0⟩:=r8
 simp at r8
 obtain⟨ao9x0,cp9x0,r9,z9x0⟩:=r9
 simp at r9
 refine⟨⟨a0,a1,a2,a3,a4,a5,a6,a7,a8,a9⟩,⟨ao4x0,cp4x0,ao7x0,cp7x0,ao8x0,cp8x0,ao9x0,cp9x0,by simp[*],z4x0,z7x0,z8x0,z9x0⟩,⟨k1,k2,k3,k4,k5,k6,k7,k8,k9⟩⟩
theorem z120 (n:Nat) (cs:List Value) (y:DataW H×List MemPlace) (h:DataW.trod enc Tryz.prog W 0 spare held n 124 cs=some y) (hl:cs.length=1):∃ a:List Sapi_Part,(p124 (ZW W) cs a)/\(a.length<=9223372036854775807/\∀ x∈a,kd381 x):=by
 obtain⟨ao,cap,l,rfl,hz,hL⟩:=y3z (Pr:=fun r x=>(p381 (ZW W) r x)/\(kd381 x)) (sz:=10) Tryz.underlying124 (by kernel_rfl) (by decide) z11Z h
 unfold maxLen at hL
 exact⟨l,⟨ao,cap,rfl,hz.weak (fun _ _ h=>h.1)⟩,⟨by omega,hz.all (q:=fun x=>kd381 x) (fun _ _ h=>h.2)⟩⟩
theorem z121 (n:Nat) (cs:List Value) (y:DataW H×List MemPlace) (h:DataW.trod enc Tryz.prog W 0 spare held n 126 cs=some y) (hl:cs.length=4):∃ a:z6z,(y3F (ZW W) cs a)/\(kd126 a):=by
 obtain⟨y0,m0,h0⟩:=yA 0 Tryz.underlying126 h rfl
 have c0:Tryz.prog.cellsOf 9=1:=by kernel_rfl
 try dsimp only at h0
 rw[c0] at h0
 obtain⟨a0,r0,k0⟩:=el_9 _ _ _ h0 (by simp[hl])
 obtain⟨y1,m1,h1⟩:=yA 1 Tryz.underlying126 h rfl
 have c1:Tryz.prog.cellsOf 3=1:=by kernel_rfl
 try dsimp only at h1
 rw[c1] at h1
 obtain⟨a1,r1,k1⟩:=el_3 _ _ _ h1 (by simp[hl])
 obtain⟨y2,m2,h2⟩:=yA 2 Tryz.underlying126 h rfl
 have c2:Tryz.prog.cellsOf 3=1:=by kernel_rfl
 try dsimp only at h2
 rw[c2] at h2
 obtain⟨a2,r2,k2⟩:=el_3 _ _ _ h2 (by simp[hl])
 obtain⟨y3,m3,h3⟩:=yA 3 Tryz.underlying126 h rfl
 have c3:Tryz.prog.cellsOf 124=1:=by kernel_rfl
 try dsimp only at h3
 rw[c3] at h3
 obtain⟨a3,r3,k3⟩:=z120 _ _ _ h3 (by simp[hl])
 obtain⟨u0,u1,u2,u3,rfl⟩:∃ u0 u1 u2 u3,cs=[u0,u1,u2,u3]:=by match cs,hl with | [u0,u1,u2,u3],_=>exact⟨_,_,_,_,rfl⟩
 simp[e9] at r0
 simp[e3] at r1
 simp[e3] at r2
 obtain⟨ao3x0,cp3x0,r3,z3x0⟩:=r3
 simp at r3
 refine⟨⟨a0,a1,a2,a3⟩,⟨ao3x0,cp3x0,by simp[*],z3x0⟩,⟨k1,k2,k3⟩⟩
theorem el_22 (n:Nat) (cs:List Value) (y:DataW H×List MemPlace) (h:DataW.trod enc Tryz.prog W 0 spare held n 22 cs=some y) (hl:cs.length=1):∃ a:List z6z,(p22 (ZW W) cs a)/\(a.length<=9223372036854775807/\∀ x∈a,kd126 x):=by
 obtain⟨ao,cap,l,rfl,hz,hL⟩:=y3z (Pr:=fun r x=>(y3F (ZW W) r x)/\(kd126 x)) (sz:=4) Tryz.underlying22 (by kernel_rfl) (by decide) z121 h
 unfold maxLen at hL
 exact⟨l,⟨ao,cap,rfl,hz.weak (fun _ _ h=>h.1)⟩,⟨by omega,hz.all (q:=fun x=>kd126 x) (fun _ _ h=>h.2)⟩⟩
theorem el_66 (n:Nat) (cs:List Value) (y:DataW H×List MemPlace) (h:DataW.trod enc Tryz.prog W 0 spare held n 66 cs=some y) (hl:cs.length=3):∃ a:Sapi_Ref,(cs=e66 a)/\(True):=by
 obtain⟨y0,m0,h0⟩:=yA 0 Tryz.underlying66 h rfl
 have c0:Tryz.prog.cellsOf 9=1:=by kernel_rfl
 try dsimp only at h0
 rw[c0] at h0
 obtain⟨a0,r0,k0⟩:=el_9 _ _ _ h0 (by simp[hl])
 obtain⟨y1,m1,h1⟩:=yA 1 Tryz.underlying66 h rfl
 have c1:Tryz.prog.cellsOf 9=1:=by kernel_rfl
 try dsimp only at h1
 rw[c1] at h1
 obtain⟨a1,r1,k1⟩:=el_9 _ _ _ h1 (by simp[hl])
 obtain⟨y2,m2,h2⟩:=yA 2 Tryz.underlying66 h rfl
 have c2:Tryz.prog.cellsOf 9=1:=by kernel_rfl
 try dsimp only at h2
 rw[c2] at h2
 obtain⟨a2,r2,k2⟩:=el_9 _ _ _ h2 (by simp[hl])
 obtain⟨u0,u1,u2,rfl⟩:∃ u0 u1 u2,cs=[u0,u1,u2]:=by match cs,hl with | [u0,u1,u2],_=>exact⟨_,_,_,rfl⟩
 simp[e9] at r0
 simp[e9] at r1
 simp[e9] at r2
 exact⟨⟨a0,a1,a2⟩,by simp[e66, *],trivial⟩
theorem el_67 (n:Nat) (cs:List Value) (y:DataW H×List MemPlace) (h:DataW.trod enc Tryz.prog W 0 spare held n 67 cs=some y) (hl:cs.length=1):∃ a:List Sapi_Ref,(p67 (ZW W) cs a)/\(a.length<=9223372036854775807):=by
 obtain⟨ao,cap,l,rfl,hz,hL⟩:=y3z (Pr:=fun r x=>(r=e66 x)/\(True)) (sz:=3) Tryz.underlying67 (by kernel_rfl) (by decide) el_66 h
 unfold maxLen at hL
 exact⟨l,⟨ao,cap,rfl,hz.weak (fun _ _ h=>h.1)⟩,by omega⟩
theorem z122 (n:Nat) (cs:List Value) (y:DataW H×List MemPlace) (h:DataW.trod enc Tryz.prog W 0 spare held n 369 cs=some y) (hl:cs.length=4):∃ a:zhs,(y4l (ZW W) cs a)/\(kd369 a):=by
 obtain⟨y0,m0,h0⟩:=yA 0 Tryz.underlying369 h rfl
 have c0:Tryz.prog.cellsOf 66=3:=by kernel_rfl
 try dsimp only at h0
 rw[c0] at h0
 obtain⟨a0,r0,k0⟩:=el_66 _ _ _ h0 (by simp[hl])
 obtain⟨y1,m1,h1⟩:=yA 1 Tryz.underlying369 h rfl
 have c1:Tryz.prog.cellsOf 67=1:=by kernel_rfl
 try dsimp only at h1
 rw[c1] at h1
 obtain⟨a1,r1,k1⟩:=el_67 _ _ _ h1 (by simp[hl])
 obtain⟨u0,u1,u2,u3,rfl⟩:∃ u0 u1 u2 u3,cs=[u0,u1,u2,u3]:=by match cs,hl with | [u0,u1,u2,u3],_=>exact⟨_,_,_,_,rfl⟩
 simp[e66] at r0
 obtain⟨ao1x0,cp1x0,r1,z1x0⟩:=r1
 simp at r1
 refine⟨⟨a0,a1⟩,⟨ao1x0,cp1x0,by simp[*],z1x0⟩,k1⟩
theorem el_23 (n:Nat) (cs:List Value) (y:DataW H×List MemPlace) (h:DataW.trod enc Tryz.prog W 0 spare held n 23 cs=some y) (hl:cs.length=1):∃ a:List zhs,(p23 (ZW W) cs a)/\(a.length<=9223372036854775807/\∀ x∈a,kd369 x):=by
 obtain⟨ao,cap,l,rfl,hz,hL⟩:=y3z (Pr:=fun r x=>(y4l (ZW W) r x)/\(kd369 x)) (sz:=4) Tryz.underlying23 (by kernel_rfl) (by decide) z122 h
 unfold maxLen at hL
 exact⟨l,⟨ao,cap,rfl,hz.weak (fun _ _ h=>h.1)⟩,⟨by omega,hz.all (q:=fun x=>kd369 x) (fun _ _ h=>h.2)⟩⟩
theorem el_64 (n:Nat) (cs:List Value) (y:DataW H×List MemPlace) (h:DataW.trod enc Tryz.prog W 0 spare held n 64 cs=some y) (hl:cs.length=4):∃ a:z87,(cs=e64 a)/\(kd64 a):=by
 obtain⟨y0,m0,h0⟩:=yA 0 Tryz.underlying64 h rfl
 have c0:Tryz.prog.cellsOf 9=1:=by kernel_rfl
 try dsimp only at h0
 rw[c0] at h0
 obtain⟨a0,r0,k0⟩:=el_9 _ _ _ h0 (by simp[hl])
 obtain⟨y1,m1,h1⟩:=yA 1 Tryz.underlying64 h rfl
 have c1:Tryz.prog.cellsOf 3=1:=by kernel_rfl
 try dsimp only at h1
 rw[c1] at h1
 obtain⟨a1,r1,k1⟩:=el_3 _ _ _ h1 (by simp[hl])
 obtain⟨y2,m2,h2⟩:=yA 2 Tryz.underlying64 h rfl
 have c2:Tryz.prog.cellsOf 3=1:=by kernel_rfl
 try dsimp only at h2
 rw[c2] at h2
 obtain⟨a2,r2,k2⟩:=el_3 _ _ _ h2 (by simp[hl])
 obtain⟨y3,m3,h3⟩:=yA 3 Tryz.underlying64 h rfl
 have c3:Tryz.prog.cellsOf 3=1:=by kernel_rfl
 try dsimp only at h3
 rw[c3] at h3
 obtain⟨a3,r3,k3⟩:=el_3 _ _ _ h3 (by simp[hl])
 obtain⟨u0,u1,u2,u3,rfl⟩:∃ u0 u1 u2 u3,cs=[u0,u1,u2,u3]:=by match cs,hl with | [u0,u1,u2,u3],_=>exact⟨_,_,_,_,rfl⟩
 simp[e9] at r0
 simp[e3] at r1
 simp[e3] at r2
 simp[e3] at r3
 exact⟨⟨a0,a1,a2,a3⟩,by simp[e64, *],⟨k1,k2,k3⟩⟩
theorem el_24 (n:Nat) (cs:List Value) (y:DataW H×List MemPlace) (h:DataW.trod enc Tryz.prog W 0 spare held n 24 cs=some y) (hl:cs.length=1):∃ a:List z87,(p24 (ZW W) cs a)/\(a.length<=9223372036854775807/\∀ x∈a,kd64 x):=by
 obtain⟨ao,cap,l,rfl,hz,hL⟩:=y3z (Pr:=fun r x=>(r=e64 x)/\(kd64 x)) (sz:=4) Tryz.underlying24 (by kernel_rfl) (by decide) el_64 h
 unfold maxLen at hL
 exact⟨l,⟨ao,cap,rfl,hz.weak (fun _ _ h=>h.1)⟩,⟨by omega,hz.all (q:=fun x=>kd64 x) (fun _ _ h=>h.2)⟩⟩
theorem el_62 (n:Nat) (cs:List Value) (y:DataW H×List MemPlace) (h:DataW.trod enc Tryz.prog W 0 spare held n 62 cs=some y) (hl:cs.length=4):∃ a:z74,(cs=e62 a)/\(kd62 a):=by
 obtain⟨y0,m0,h0⟩:=yA 0 Tryz.underlying62 h rfl
 have c0:Tryz.prog.cellsOf 9=1:=by kernel_rfl
 try dsimp only at h0
 rw[c0] at h0
 obtain⟨a0,r0,k0⟩:=el_9 _ _ _ h0 (by simp[hl])
 obtain⟨y1,m1,h1⟩:=yA 1 Tryz.underlying62 h rfl
 have c1:Tryz.prog.cellsOf 9=1:=by kernel_rfl
 try dsimp only at h1
 rw[c1] at h1
 obtain⟨a1,r1,k1⟩:=el_9 _ _ _ h1 (by simp[hl])
 obtain⟨y2,m2,h2⟩:=yA 2 Tryz.underlying62 h rfl
 have c2:Tryz.prog.cellsOf 3=1:=by kernel_rfl
 try dsimp only at h2
 rw[c2] at h2
 obtain⟨a2,r2,k2⟩:=el_3 _ _ _ h2 (by simp[hl])
 obtain⟨y3,m3,h3⟩:=yA 3 Tryz.underlying62 h rfl
 have c3:Tryz.prog.cellsOf 3=1:=by kernel_rfl
 try dsimp only at h3
 rw[c3] at h3
 obtain⟨a3,r3,k3⟩:=el_3 _ _ _ h3 (by simp[hl])
 obtain⟨u0,u1,u2,u3,rfl⟩:∃ u0 u1 u2 u3,cs=[u0,u1,u2,u3]:=by match cs,hl with | [u0,u1,u2,u3],_=>exact⟨_,_,_,_,rfl⟩
 simp[e9] at r0
 simp[e9] at r1
 simp[e3] at r2
 simp[e3] at r3
 exact⟨⟨a0,a1,a2,a3⟩,by simp[e62, *],⟨k2,k3⟩⟩
theorem el_25 (n:Nat) (cs:List Value) (y:DataW H×List MemPlace) (h:DataW.trod enc Tryz.prog W 0 spare held n 25 cs=some y) (hl:cs.length=1):∃ a:List z74,(p25 (ZW W) cs a)/\(a.length<=9223372036854775807/\∀ x∈a,kd62 x):=by
 obtain⟨ao,cap,l,rfl,hz,hL⟩:=y3z (Pr:=fun r x=>(r=e62 x)/\(kd62 x)) (sz:=4) Tryz.underlying25 (by kernel_rfl) (by decide) el_62 h
 unfold maxLen at hL
 exact⟨l,⟨ao,cap,rfl,hz.weak (fun _ _ h=>h.1)⟩,⟨by omega,hz.all (q:=fun x=>kd62 x) (fun _ _ h=>h.2)⟩⟩
theorem el_69 (n:Nat) (cs:List Value) (y:DataW H×List MemPlace) (h:DataW.trod enc Tryz.prog W 0 spare held n 69 cs=some y) (hl:cs.length=7):∃ a:z16,(p69 (ZW W) cs a)/\(kd69 a):=by
 obtain⟨y0,m0,h0⟩:=yA 0 Tryz.underlying69 h rfl
 have c0:Tryz.prog.cellsOf 9=1:=by kernel_rfl
 try dsimp only at h0
 rw[c0] at h0
 obtain⟨a0,r0,k0⟩:=el_9 _ _ _ h0 (by simp[hl])
 obtain⟨y1,m1,h1⟩:=yA 1 Tryz.underlying69 h rfl
 have c1:Tryz.prog.cellsOf 66=3:=by kernel_rfl
 try dsimp only at h1
 rw[c1] at h1
 obtain⟨a1,r1,k1⟩:=el_66 _ _ _ h1 (by simp[hl])
 obtain⟨y2,m2,h2⟩:=yA 2 Tryz.underlying69 h rfl
 have c2:Tryz.prog.cellsOf 3=1:=by kernel_rfl
 try dsimp only at h2
 rw[c2] at h2
 obtain⟨a2,r2,k2⟩:=el_3 _ _ _ h2 (by simp[hl])
 obtain⟨y3,m3,h3⟩:=yA 3 Tryz.underlying69 h rfl
 have c3:Tryz.prog.cellsOf 3=1:=by kernel_rfl
 try dsimp only at h3
 rw[c3] at h3
 obtain⟨a3,r3,k3⟩:=el_3 _ _ _ h3 (by simp[hl])
 obtain⟨y4,m4,h4⟩:=yA 4 Tryz.underlying69 h rfl
 have c4:Tryz.prog.cellsOf 67=1:=by kernel_rfl
 try dsimp only at h4
 rw[c4] at h4
 obtain⟨a4,r4,k4⟩:=el_67 _ _ _ h4 (by simp[hl])
 obtain⟨u0,u1,u2,u3,u4,u5,u6,rfl⟩:∃ u0 u1 u2 u3 u4 u5 u6,cs=[u0,u1,u2,u3,u4,u5,u6]:=by match cs,hl with | [u0,u1,u2,u3,u4,u5,u6],_=>exact⟨_,_,_,_,_,_,_,rfl⟩
 simp[e9] at r0
 simp[e66] at r1
 simp[e3] at r2
 simp[e3] at r3
 obtain⟨ao4x0,cp4x0,r4,z4x0⟩:=r4
 simp at r4
 refine⟨⟨a0,a1,a2,a3,a4⟩,⟨ao4x0,cp4x0,by simp[*],z4x0⟩,⟨k2,k3,k4⟩⟩
theorem el_26 (n:Nat) (cs:List Value) (y:DataW H×List MemPlace) (h:DataW.trod enc Tryz.prog W 0 spare held n 26 cs=some y) (hl:cs.length=1):∃ a:List z16,(p26 (ZW W) cs a)/\(a.length<=9223372036854775807/\∀ x∈a,kd69 x):=by
 obtain⟨ao,cap,l,rfl,hz,hL⟩:=y3z (Pr:=fun r x=>(p69 (ZW W) r x)/\(kd69 x)) (sz:=7) Tryz.underlying26 (by kernel_rfl) (by decide) el_69 h
 unfold maxLen at hL
 exact⟨l,⟨ao,cap,rfl,hz.weak (fun _ _ h=>h.1)⟩,⟨by omega,hz.all (q:=fun x=>kd69 x) (fun _ _ h=>h.2)⟩⟩
theorem z123 (n:Nat) (cs:List Value) (y:DataW H×List MemPlace) (h:DataW.trod enc Tryz.prog W 0 spare held n 371 cs=some y) (hl:cs.length=5):∃ a:Sapi_Health,(cs=y4D a)/\(kd371 a):=by
 obtain⟨y0,m0,h0⟩:=yA 0 Tryz.underlying371 h rfl
 have c0:Tryz.prog.cellsOf 9=1:=by kernel_rfl
 try dsimp only at h0
 rw[c0] at h0
 obtain⟨a0,r0,k0⟩:=el_9 _ _ _ h0 (by simp[hl])
 obtain⟨y1,m1,h1⟩:=yA 1 Tryz.underlying371 h rfl
 have c1:Tryz.prog.cellsOf 9=1:=by kernel_rfl
 try dsimp only at h1
 rw[c1] at h1
 obtain⟨a1,r1,k1⟩:=el_9 _ _ _ h1 (by simp[hl])
 obtain⟨y2,m2,h2⟩:=yA 2 Tryz.underlying371 h rfl
 have c2:Tryz.prog.cellsOf 5=1:=by kernel_rfl
 try dsimp only at h2
 rw[c2] at h2
 obtain⟨a2,r2,k2⟩:=el_5 _ _ _ h2 (by simp[hl])
 obtain⟨y3,m3,h3⟩:=yA 3 Tryz.underlying371 h rfl
 have c3:Tryz.prog.cellsOf 5=1:=by kernel_rfl
 try dsimp only at h3
 rw[c3] at h3
 obtain⟨a3,r3,k3⟩:=el_5 _ _ _ h3 (by simp[hl])
 obtain⟨y4,m4,h4⟩:=yA 4 Tryz.underlying371 h rfl
 have c4:Tryz.prog.cellsOf 5=1:=by kernel_rfl
 try dsimp only at h4
 rw[c4] at h4
 obtain⟨a4,r4,k4⟩:=el_5 _ _ _ h4 (by simp[hl])
 obtain⟨u0,u1,u2,u3,u4,rfl⟩:∃ u0 u1 u2 u3 u4,cs=[u0,u1,u2,u3,u4]:=by match cs,hl with | [u0,u1,u2,u3,u4],_=>exact⟨_,_,_,_,_,rfl⟩
 simp[e9] at r0
 simp[e9] at r1
 simp[e5] at r2
 simp[e5] at r3
 simp[e5] at r4
 exact⟨⟨a0,a1,a2,a3,a4⟩,by simp[y4D, *],⟨k2,k3,k4⟩⟩
theorem el_27 (n:Nat) (cs:List Value) (y:DataW H×List MemPlace) (h:DataW.trod enc Tryz.prog W 0 spare held n 27 cs=some y) (hl:cs.length=1):∃ a:List Sapi_Health,(p27 (ZW W) cs a)/\(a.length<=9223372036854775807/\∀ x∈a,kd371 x):=by
 obtain⟨ao,cap,l,rfl,hz,hL⟩:=y3z (Pr:=fun r x=>(r=y4D x)/\(kd371 x)) (sz:=5) Tryz.underlying27 (by kernel_rfl) (by decide) z123 h
 unfold maxLen at hL
 exact⟨l,⟨ao,cap,rfl,hz.weak (fun _ _ h=>h.1)⟩,⟨by omega,hz.all (q:=fun x=>kd371 x) (fun _ _ h=>h.2)⟩⟩
theorem z124 (n:Nat) (cs:List Value) (y:DataW H×List MemPlace) (h:DataW.trod enc Tryz.prog W 0 spare held n 385 cs=some y) (hl:cs.length=2):∃ a:Sapi_Report,(cs=e385 a)/\(kd385 a):=by
 obtain⟨y0,m0,h0⟩:=yA 0 Tryz.underlying385 h rfl
 have c0:Tryz.prog.cellsOf 9=1:=by kernel_rfl
 try dsimp only at h0
 rw[c0] at h0
 obtain⟨a0,r0,k0⟩:=el_9 _ _ _ h0 (by simp[hl])
 obtain⟨y1,m1,h1⟩:=yA 1 Tryz.underlying385 h rfl
 have c1:Tryz.prog.cellsOf 3=1:=by kernel_rfl
 try dsimp only at h1
 rw[c1] at h1
 obtain⟨a1,r1,k1⟩:=el_3 _ _ _ h1 (by simp[hl])
 obtain⟨u0,u1,rfl⟩:∃ u0 u1,cs=[u0,u1]:=by match cs,hl with | [u0,u1],_=>exact⟨_,_,rfl⟩
 simp[e9] at r0
 simp[e3] at r1
 exact⟨⟨a0,a1⟩,by simp[e385, *],k1⟩
theorem z125 (n:Nat) (cs:List Value) (y:DataW H×List MemPlace) (h:DataW.trod enc Tryz.prog W 0 spare held n 372 cs=some y) (hl:cs.length=1):∃ a:List Sapi_Report,(p372 (ZW W) cs a)/\(a.length<=9223372036854775807/\∀ x∈a,kd385 x):=by
 obtain⟨ao,cap,l,rfl,hz,hL⟩:=y3z (Pr:=fun r x=>(r=e385 x)/\(kd385 x)) (sz:=2) Tryz.underlying372 (by kernel_rfl) (by decide) z124 h
 unfold maxLen at hL
 exact⟨l,⟨ao,cap,rfl,hz.weak (fun _ _ h=>h.1)⟩,⟨by omega,hz.all (q:=fun x=>kd385 x) (fun _ _ h=>h.2)⟩⟩
theorem z126 (n:Nat) (cs:List Value) (y:DataW H×List MemPlace) (h:DataW.trod enc Tryz.prog W 0 spare held n 373 cs=some y) (hl:cs.length=1):∃ a:List ByteArray,(p373 (ZW W) cs a)/\(a.length<=9223372036854775807):=by
 obtain⟨ao,cap,l,rfl,hz,hL⟩:=y3z (Pr:=fun r x=>(r=e9 x)/\(True)) (sz:=1) Tryz.underlying373 (by kernel_rfl) (by decide) el_9 h
 unfold maxLen at hL
 exact⟨l,⟨ao,cap,rfl,hz.weak (fun _ _ h=>h.1)⟩,by omega⟩
theorem z127 (n:Nat) (cs:List Value) (y:DataW H×List MemPlace) (h:DataW.trod enc Tryz.prog W 0 spare held n 375 cs=some y) (hl:cs.length=3):∃ a:Sapi_Cause,(y4m (ZW W) cs a)/\(kd375 a):=by
 obtain⟨y0,m0,h0⟩:=yA 0 Tryz.underlying375 h rfl
 have c0:Tryz.prog.cellsOf 9=1:=by kernel_rfl
 try dsimp only at h0
 rw[c0] at h0
 obtain⟨a0,r0,k0⟩:=el_9 _ _ _ h0 (by simp[hl])
 obtain⟨y1,m1,h1⟩:=yA 1 Tryz.underlying375 h rfl
 have c1:Tryz.prog.cellsOf 372=1:=by kernel_rfl
 try dsimp only at h1
 rw[c1] at h1
 obtain⟨a1,r1,k1⟩:=z125 _ _ _ h1 (by simp[hl])
 obtain⟨y2,m2,h2⟩:=yA 2 Tryz.underlying375 h rfl
 have c2:Tryz.prog.cellsOf 373=1:=by kernel_rfl
 try dsimp only at h2
 rw[c2] at h2
 obtain⟨a2,r2,k2⟩:=z126 _ _ _ h2 (by simp[hl])
 obtain⟨u0,u1,u2,rfl⟩:∃ u0 u1 u2,cs=[u0,u1,u2]:=by match cs,hl with | [u0,u1,u2],_=>exact⟨_,_,_,rfl⟩
 simp[e9] at r0
 obtain⟨ao1x0,cp1x0,r1,z1x0⟩:=r1
 simp at r1
 obtain⟨ao2x0,cp2x0,r2,z2x0⟩:=r2
 simp at r2
 refine⟨⟨a0,a1,a2⟩,⟨ao1x0,cp1x0,ao2x0,cp2x0,by simp[*],z1x0,z2x0⟩,⟨k1,k2⟩⟩
theorem el_28 (n:Nat) (cs:List Value) (y:DataW H×List MemPlace) (h:DataW.trod enc Tryz.prog W 0 spare held n 28 cs=some y) (hl:cs.length=1):∃ a:List Sapi_Cause,(p28 (ZW W) cs a)/\(a.length<=9223372036854775807/\∀ x∈a,kd375 x):=by
 obtain⟨ao,cap,l,rfl,hz,hL⟩:=y3z (Pr:=fun r x=>(y4m (ZW W) r x)/\(kd375 x)) (sz:=3) Tryz.underlying28 (by kernel_rfl) (by decide) z127 h
 unfold maxLen at hL
 exact⟨l,⟨ao,cap,rfl,hz.weak (fun _ _ h=>h.1)⟩,⟨by omega,hz.all (q:=fun x=>kd375 x) (fun _ _ h=>h.2)⟩⟩
theorem z128 (n:Nat) (cs:List Value) (y:DataW H×List MemPlace) (h:DataW.trod enc Tryz.prog W 0 spare held n 377 cs=some y) (hl:cs.length=4):∃ a:Sapi_Version,(cs=y4E a)/\(kd377 a):=by
 obtain⟨y0,m0,h0⟩:=yA 0 Tryz.underlying377 h rfl
 have c0:Tryz.prog.cellsOf 9=1:=by kernel_rfl
 try dsimp only at h0
 rw[c0] at h0
 obtain⟨a0,r0,k0⟩:=el_9 _ _ _ h0 (by simp[hl])
 obtain⟨y1,m1,h1⟩:=yA 1 Tryz.underlying377 h rfl
 have c1:Tryz.prog.cellsOf 3=1:=by kernel_rfl
 try dsimp only at h1
 rw[c1] at h1
 obtain⟨a1,r1,k1⟩:=el_3 _ _ _ h1 (by simp[hl])
 obtain⟨y2,m2,h2⟩:=yA 2 Tryz.underlying377 h rfl
 have c2:Tryz.prog.cellsOf 9=1:=by kernel_rfl
 try dsimp only at h2
 rw[c2] at h2
 obtain⟨a2,r2,k2⟩:=el_9 _ _ _ h2 (by simp[hl])
 obtain⟨y3,m3,h3⟩:=yA 3 Tryz.underlying377 h rfl
 have c3:Tryz.prog.cellsOf 3=1:=by kernel_rfl
 try dsimp only at h3
 rw[c3] at h3
 obtain⟨a3,r3,k3⟩:=el_3 _ _ _ h3 (by simp[hl])
 obtain⟨u0,u1,u2,u3,rfl⟩:∃ u0 u1 u2 u3,cs=[u0,u1,u2,u3]:=by match cs,hl with | [u0,u1,u2,u3],_=>exact⟨_,_,_,_,rfl⟩
 simp[e9] at r0
 simp[e3] at r1
 simp[e9] at r2
 simp[e3] at r3
 exact⟨⟨a0,a1,a2,a3⟩,by simp[y4E, *],⟨k1,k3⟩⟩
theorem el_29 (n:Nat) (cs:List Value) (y:DataW H×List MemPlace) (h:DataW.trod enc Tryz.prog W 0 spare held n 29 cs=some y) (hl:cs.length=1):∃ a:List Sapi_Version,(p29 (ZW W) cs a)/\(a.length<=9223372036854775807/\∀ x∈a,kd377 x):=by
 obtain⟨ao,cap,l,rfl,hz,hL⟩:=y3z (Pr:=fun r x=>(r=y4E x)/\(kd377 x)) (sz:=4) Tryz.underlying29 (by kernel_rfl) (by decide) z128 h
 unfold maxLen at hL
 exact⟨l,⟨ao,cap,rfl,hz.weak (fun _ _ h=>h.1)⟩,⟨by omega,hz.all (q:=fun x=>kd377 x) (fun _ _ h=>h.2)⟩⟩
theorem el_31 (n:Nat) (cs:List Value) (y:DataW H×List MemPlace) (h:DataW.trod enc Tryz.prog W 0 spare held n 31 cs=some y) (hl:cs.length=8):∃ a:zs,(p31 (ZW W) cs a)/\(kd31 a):=by
 obtain⟨y0,m0,h0⟩:=yA 0 Tryz.underlying31 h rfl
 have c0:Tryz.prog.cellsOf 22=1:=by kernel_rfl
 try dsimp only at h0
 rw[c0] at h0
 obtain⟨a0,r0,k0⟩:=el_22 _ _ _ h0 (by simp[hl])
 obtain⟨y1,m1,h1⟩:=yA 1 Tryz.underlying31 h rfl
 have c1:Tryz.prog.cellsOf 23=1:=by kernel_rfl
 try dsimp only at h1
 rw[c1] at h1
 obtain⟨a1,r1,k1⟩:=el_23 _ _ _ h1 (by simp[hl])
 obtain⟨y2,m2,h2⟩:=yA 2 Tryz.underlying31 h rfl
 have c2:Tryz.prog.cellsOf 24=1:=by kernel_rfl
 try dsimp only at h2
 rw[c2] at h2
 obtain⟨a2,r2,k2⟩:=el_24 _ _ _ h2 (by simp[hl])
 obtain⟨y3,m3,h3⟩:=yA 3 Tryz.underlying31 h rfl
 have c3:Tryz.prog.cellsOf 25=1:=by kernel_rfl
 try dsimp only at h3
 rw[c3] at h3
 obtain⟨a3,r3,k3⟩:=el_25 _ _ _ h3 (by simp[hl])
 obtain⟨y4,m4,h4⟩:=yA 4 Tryz.underlying31 h rfl
 have c4:Tryz.prog.cellsOf 26=1:=by kernel_rfl
 try dsimp only at h4
 rw[c4] at h4
 obtain⟨a4,r4,k4⟩:=el_26 _ _ _ h4 (by simp[hl])
 obtain⟨y5,m5,h5⟩:=yA 5 Tryz.underlying31 h rfl
 have c5:Tryz.prog.cellsOf 27=1:=by kernel_rfl
 try dsimp only at h5
 rw[c5] at h5
 obtain⟨a5,r5,k5⟩:=el_27 _ _ _ h5 (by simp[hl])
 obtain⟨y6,m6,h6⟩:=yA 6 Tryz.underlying31 h rfl
 have c6:Tryz.prog.cellsOf 28=1:=by kernel_rfl
 try dsimp only at h6
 rw[c6] at h6
 obtain⟨a6,r6,k6⟩:=el_28 _ _ _ h6 (by simp[hl])
 obtain⟨y7,m7,h7⟩:=yA 7 Tryz.underlying31 h rfl
 have c7:Tryz.prog.cellsOf 29=1:=by kernel_rfl
 try dsimp only at h7
 rw[c7] at h7
 obtain⟨a7,r7,k7⟩:=el_29 _ _ _ h7 (by simp[hl])
 obtain⟨u0,u1,u2,u3,u4,u5,u6,u7,rfl⟩:∃ u0 u1 u2 u3 u4 u5 u6 u7,cs=[u0,u1,u2,u3,u4,u5,u6,u7]:=by match cs,hl with | [u0,u1,u2,u3,u4,u5,u6,u7],_=>exact⟨_,_,_,_,_,_,_,_,rfl⟩
 obtain⟨ao0x0,cp0x0,r0,z0x0⟩:=r0
 simp at r0
 obtain⟨ao1x0,cp1x0,r1,z1x0⟩:=r1
 simp at r1
 obtain⟨ao2x0,cp2x0,r2,z2x0⟩:=r2
 simp at r2
 obtain⟨ao3x0,cp3x0,r3,z3x0⟩:=r3
 simp at r3
 obtain⟨ao4x0,cp4x0,r4,z4x0⟩:=r4
 simp at r4
 obtain⟨ao5x0,cp5x0,r5,z5x0⟩:=r5
 simp at r5
 obtain⟨ao6x0,cp6x0,r6,z6x0⟩:=r6
 simp at r6
 obtain⟨ao7x0,cp7x0,r7,z7x0⟩:=r7
 simp at r7
 refine⟨⟨a0,a1,a2,a3,a4,a5,a6,a7⟩,⟨ao0x0,cp0x0,ao1x0,cp1x0,ao2x0,cp2x0,ao3x0,cp3x0,ao4x0,cp4x0,ao5x0,cp5x0,ao6x0,cp6x0,ao7x0,cp7x0,by simp[*],z0x0,z1x0,z2x0,z3x0,z4x0,z5x0,z6x0,z7x0⟩,⟨k0,k1,k2,k3,k4,k5,k6,k7⟩⟩
theorem el_60 (n:Nat) (cs:List Value) (y:DataW H×List MemPlace) (h:DataW.trod enc Tryz.prog W 0 spare held n 60 cs=some y) (hl:cs.length=3):∃ a:ze,(cs=e60 a)/\(kd60 a):=by
 obtain⟨y0,m0,h0⟩:=yA 0 Tryz.underlying60 h rfl
 have c0:Tryz.prog.cellsOf 3=1:=by kernel_rfl
 try dsimp only at h0
 rw[c0] at h0
 obtain⟨a0,r0,k0⟩:=el_3 _ _ _ h0 (by simp[hl])
 obtain⟨y1,m1,h1⟩:=yA 1 Tryz.underlying60 h rfl
 have c1:Tryz.prog.cellsOf 3=1:=by kernel_rfl
 try dsimp only at h1
 rw[c1] at h1
 obtain⟨a1,r1,k1⟩:=el_3 _ _ _ h1 (by simp[hl])
 obtain⟨y2,m2,h2⟩:=yA 2 Tryz.underlying60 h rfl
 have c2:Tryz.prog.cellsOf 3=1:=by kernel_rfl
 try dsimp only at h2
 rw[c2] at h2
 obtain⟨a2,r2,k2⟩:=el_3 _ _ _ h2 (by simp[hl])
 obtain⟨u0,u1,u2,rfl⟩:∃ u0 u1 u2,cs=[u0,u1,u2]:=by match cs,hl with | [u0,u1,u2],_=>exact⟨_,_,_,rfl⟩
 simp[e3] at r0
 simp[e3] at r1
 simp[e3] at r2
 exact⟨⟨a0,a1,a2⟩,by simp[e60, *],⟨k0,k1,k2⟩⟩
theorem el_58 (n:Nat) (cs:List Value) (y:DataW H×List MemPlace) (h:DataW.trod enc Tryz.prog W 0 spare held n 58 cs=some y) (hl:cs.length=1):∃ a:List ze,(p58 (ZW W) cs a)/\(a.length<=9223372036854775807/\∀ x∈a,kd60 x):=by
 obtain⟨ao,cap,l,rfl,hz,hL⟩:=y3z (Pr:=fun r x=>(r=e60 x)/\(kd60 x)) (sz:=3) Tryz.underlying58 (by kernel_rfl) (by decide) el_60 h
 unfold maxLen at hL
 exact⟨l,⟨ao,cap,rfl,hz.weak (fun _ _ h=>h.1)⟩,⟨by omega,hz.all (q:=fun x=>kd60 x) (fun _ _ h=>h.2)⟩⟩
theorem own:ownKnob Tryz.prog.godebug=none:=by kernel_rfl
theorem laid:laidOutB Tryz.prog=true:=by kernel_rfl
set_option maxRecDepth 100000 in
theorem lifted (os:Os) (started:os.Started) (H:Type) (enc:TypeId×Value->H):
  ReturnsInHanded {} Tryz.checked os 4 .any (Rows.holisticBelowSpec.pre6 enc Tryz.prog Tryz.f4 Rows.holisticBelowRow.domain false) (Rows.holisticBelowSpec.post enc Tryz.prog Tryz.f4 false true false false):=by
 refine returnsInHanded_of_change (C:=Tryz.checked) own started (by kernel_rfl) Tryz.func4
  (ChangeSpec.witness6 (enc:=enc) (C:=Tryz.checked) false ⟨#[],#[(.agg #[.slice none 0 0,.slice none 0 0,.slice none 0 0,.slice none 0 0,.slice none 0 0,.slice none 0 0,.slice none 0 0,.slice none 0 0]),.int .i64 0,.slice none 0 0],[]⟩ 8 (by kernel_rfl) (by kernel_rfl) (by kernel_rfl) (by kernel_rfl)) ?_
 intro W base args ds gs before hval0 hW hcnd _
 have hval:∀(j:Nat) t v,Tryz.f4.params[j]?=some t->args[j]?=some v->Value.okWide Tryz.prog W .any base t v:=hval0
 have hW':=hW
 obtain⟨p,q,hA0,hV,rfl,hfz,hnd⟩:=hW
 have hA:DataW.TrodAll enc Tryz.prog W 0 (fun _=>true) true Tryz.f4.params.toList args.toList ds p:=hA0
 rw[Tryz.params4] at hA hval
 obtain⟨v0,vs0,d0,ds0,p0,q0,hargs,rfl,rfl,h0,r0⟩:=trodAll_cons hA
 obtain⟨v1,vs1,d1,ds1,p1,q1,rfl,rfl,rfl,h1,r1⟩:=trodAll_cons r0
 obtain⟨v2,vs2,d2,ds2,p2,q2,rfl,rfl,rfl,h2,r2⟩:=trodAll_cons r1
 obtain⟨rfl,rfl,rfl⟩:=trodAll_nil r2
 obtain rfl:args = #[v0,v1,v2]:=by cases args;simp_all
 obtain⟨rfl,rfl⟩:=trodVars_none hV
 obtain⟨fuel0,hf0⟩:=h0
 obtain⟨cs0,rfl,hl0,hg0⟩:=agg_of (hval 0 31 v0 rfl rfl) hf0 Tryz.underlying31 (show Tryz.prog.cellsOf 31=8 by kernel_rfl)
 obtain⟨x0,hr0,bd0⟩:=el_31 _ _ _ hg0 hl0
 obtain⟨ao0x0,cp0x0,ao0x1,cp0x1,ao0x2,cp0x2,ao0x3,cp0x3,ao0x4,cp0x4,ao0x5,cp0x5,ao0x6,cp0x6,ao0x7,cp0x7,rfl,z0x0,z0x1,z0x2,z0x3,z0x4,z0x5,z0x6,z0x7⟩:=hr0
 obtain⟨x1,rfl,hd1,hp1,wf1⟩:=open_int Tryz.underlying3 (hval 1 3 v1 rfl rfl) h1
 have bd1:=Go.bounds_i64 wf1
 obtain⟨ao2,m2,cap2,x2,rfl,hs2,hL2⟩:=open_sl (Pr:=fun r x=>(p58 (ZW W) r x)/\(x.length<=9223372036854775807/\∀ y∈x,kd60 y)) (sz:=1) Tryz.underlying32 (by kernel_rfl) (by decide) el_58 (hval 2 32 v2 rfl rfl) h2
 unfold maxLen at hL2
 obtain⟨rfl,hz2⟩:=ygJ hs2
 have bd2:=hz2.all (q:=fun x=>x.length<=9223372036854775807/\∀ y∈x,kd60 y) (fun _ _ h=>h.2)
 replace hz2:=hz2.weak (Pr':=(p58 (ZW W))) (fun _ _ h=>h.1)
 have htrue:=law x0 x1 x2
 refine(yca (Z:=ZW W) (zsj:=ao0x0) (zsk:=cp0x0) (zsl:=ao0x1) (zsm:=cp0x1) (zsn:=ao0x2) (zso:=cp0x2) (zsp:=ao0x3) (zsq:=cp0x3) (zsr:=ao0x4) (zss:=cp0x4) (zst:=ao0x5) (zsu:=cp0x5) (zsv:=ao0x6) (zsw:=cp0x6) (zsx:=ao0x7) (zsy:=cp0x7) (zCR:=ao2) (zCS:=cap2) (z2j:=x0) (zkV:=x1) (zfl:=x2) (r:=true) htrue W (ZW_pz W) z0x0 z0x1 z0x2 z0x3 z0x4 z0x5 z0x6 z0x7 hz2).mono fun e W' ⟨he,hh⟩=>?_
 subst he
 exact⟨_,rfl,yk4 laid (by kernel_rfl) rfl rfl Tryz.underlying4 hW' (fun _=>⟨rfl,rfl,rfl⟩) hh.below⟩
theorem jand {a b:Bool} (h:a=true) (k:b=true):(a&&b)=true:=by rw[h,k];rfl
theorem jf0:(Rows.holisticBelowRow.wf (OpenSpec.ofChange Rows.holisticBelowSpec))=true:=by kernel_rfl
theorem jf1:(laidOutB Tryz.pinned.checked.prog)=true:=by kernel_rfl
theorem jf2:(mapsRowed Tryz.pinned.checked.prog)=true:=by kernel_rfl
theorem jf3:(Tryz.f4.params.all (Tryz.pinned.checked.prog.readableRec ·))=true:=by kernel_rfl
theorem jf4:(namedTie Tryz.pinned.checked.prog Rows.holisticBelowRow.named Rows.holisticBelowSpec.vars)=true:=by kernel_rfl
theorem jf5:((Rows.holisticBelowRow.stops == []))=true:=by kernel_rfl
theorem jf6:((Tryz.pinned.checked.prog.stops == []))=true:=by kernel_rfl
theorem jf7:((Rows.holisticBelowRow.knobs == []))=true:=by kernel_rfl
theorem jf8:((Tryz.pinned.checked.prog.stopKnobs == []))=true:=by kernel_rfl
theorem jf9:((Rows.holisticBelowRow.inPlace == Tryz.pinned.checked.prog.inPlace 4))=true:=by kernel_rfl
theorem jf10:((Rows.holisticBelowRow.unfollowed == Tryz.pinned.checked.prog.unfollowed 4))=true:=by kernel_rfl
theorem jf11:((Rows.holisticBelowRow.recurses == Tryz.pinned.checked.prog.recurses 4))=true:=by kernel_rfl
theorem jf12:((Rows.holisticBelowRow.named == Tryz.pinned.checked.prog.varsNamed 4))=true:=by kernel_rfl
theorem jf13:((Rows.holisticBelowRow.maps == (Tryz.f4.params.toList++Rows.holisticBelowSpec.plain.varTypes Tryz.pinned.checked.prog).any (Tryz.pinned.checked.prog.mapsRec ·)))=true:=by kernel_rfl
theorem jf14:((Rows.holisticBelowRow.ifaces == (Tryz.f4.params.toList++Rows.holisticBelowSpec.plain.varTypes Tryz.pinned.checked.prog).any (Tryz.pinned.checked.prog.ifacesRec ·)))=true:=by kernel_rfl
theorem jf15:((Rows.holisticBelowRow.mapsOut == Tryz.pinned.checked.prog.mapsAmong Tryz.f4.resultTypes.toList))=true:=by kernel_rfl
theorem jf16:((Rows.holisticBelowRow.loops == (Tryz.f4.params.toList++Rows.holisticBelowSpec.plain.varTypes Tryz.pinned.checked.prog).any (Tryz.pinned.checked.prog.loopsFrom ·)))=true:=by kernel_rfl
theorem jf17:((Rows.holisticBelowRow.wideKeys == (Tryz.f4.params.toList++Rows.holisticBelowSpec.plain.varTypes Tryz.pinned.checked.prog++Tryz.f4.resultTypes.toList).any (Tryz.pinned.checked.prog.wideKeysFrom ·)))=true:=by kernel_rfl
theorem jf18:(Rows.holisticBelowSpec.vars.all (Tryz.pinned.checked.prog.varReadable ·))=true:=by kernel_rfl
theorem jf19:(Tryz.f4.resultTypes.all (fun t=>Tryz.pinned.checked.prog.readableRec t&&decide (t<Tryz.pinned.checked.prog.types.size)))=true:=by kernel_rfl
theorem jf20:((Rows.holisticBelowRow.ifacesOut == Tryz.f4.resultTypes.toList.any (Tryz.pinned.checked.prog.ifacesRec ·)))=true:=by kernel_rfl
theorem jf21:((Rows.holisticBelowRow.loopsOut == Tryz.f4.resultTypes.toList.any (Tryz.pinned.checked.prog.loopsFrom ·)))=true:=by kernel_rfl
theorem jf22:((Rows.holisticBelowRow.plainKeys == Tryz.pinned.checked.prog.plainKeys))=true:=by kernel_rfl
theorem jf23:(Rows.holisticBelowRow.shortTexts.isNone)=true:=by kernel_rfl
theorem jf24:(Tryz.pinned.checked.prog.stopsHeard)=true:=by kernel_rfl
theorem jf25:(Tryz.pinned.checked.prog.mayEnter)=true:=by kernel_rfl
theorem jf26:((Rows.holisticBelowRow.lifted == Tryz.pinned.checked.prog.liftsFinal))=true:=by kernel_rfl
theorem jf27:((Tryz.pinned.checked.prog.make == some Rows.holisticBelowRow.make))=true:=by kernel_rfl
theorem jf28:((Rows.holisticBelowRow.kinds == (if Rows.holisticBelowRow.domain.isEmpty then[] else Tryz.f4.params.toList.map fun t=>match Tryz.pinned.checked.prog.underlying t with | some (.int k)=>some k | _=>none)))=true:=by kernel_rfl
theorem jf29:((Rows.holisticBelowRow.pinned == Rows.holisticBelowRow.pinnedBy))=true:=by kernel_rfl
theorem jf30:((Rows.holisticBelowRow.veiled == (Tryz.f4.params.toList++Rows.holisticBelowSpec.plain.varTypes Tryz.pinned.checked.prog++Tryz.f4.resultTypes.toList).any (Tryz.pinned.checked.prog.veiledRec ·)))=true:=by kernel_rfl
theorem jf31:(Rows.holisticBelowRow.veiledFits Tryz.pinned.checked.prog Tryz.f4.params.toList (Tryz.f4.params.toList++Rows.holisticBelowSpec.plain.varTypes Tryz.pinned.checked.prog++Tryz.f4.resultTypes.toList))=true:=by kernel_rfl
set_option maxRecDepth 100000 in
theorem jclosed:joinedFacts Tryz.pinned.checked.prog 4 Tryz.f4 Rows.holisticBelowSpec Rows.holisticBelowRow=true:=by
 unfold joinedFacts
 exact(jand (jand (jand (jand (jand (jand (jand (jand (jand (jand (jand (jand (jand (jand (jand (jand (jand (jand (jand (jand (jand (jand (jand (jand (jand (jand (jand (jand (jand (jand (jand jf0 jf1) jf2) jf3) jf4) jf5) jf6) jf7) jf8) jf9) jf10) jf11) jf12) jf13) jf14) jf15) jf16) jf17) jf18) jf19) jf20) jf21) jf22) jf23) jf24) jf25) jf26) jf27) jf28) jf29) jf30) jf31)
theorem over:Rows.holisticBelowRow.holds Tryz.pinned (OpenSpec.ofChange Rows.holisticBelowSpec):=
 OpenClaim.holds_of_wide 4 Tryz.f4 rfl rfl rfl rfl rfl rfl rfl ⟨rfl,rfl,rfl,rfl,rfl⟩ rfl rfl rfl rfl rfl (by kernel_rfl) Tryz.func4 jclosed
  (of_decide_eq_true (by kernel_rfl)) (by unfold Func.isWrapper;first | (rw[if_pos (by decide +kernel)];kernel_rfl) | (rw[if_neg (by decide +kernel)];exact⟨rfl,rfl⟩))
  (fun os started H enc _=>lifted os started H enc)
theorem proved:Rows.HolisticBelowSaid:=over
#print axioms proved
end Go.Proofs.YthjnhebofpebpaaGreat.holisticBelow
