/-
 Whatever the input, the law BoundLess of layer 35 returns true, and its arguments read behind the call as before it. No conditions.
-/
import Derived.Test.YtcahmabkeaijdaaGreatPBoundLess
import Derived.Test.YtcahmabkeaijdaaGreatZMem
import Derived.Test.YtcahmabkeaijdaaGreatRows
set_option linter.all false
namespace Go.Proofs.YtcahmabkeaijdaaGreat.boundLess
open Go.ChangeShapes Go.WideShapes Go.ChangeAt Go.RowKit Sep
set_option linter.unusedVariables false
def p31 (Z:Zp) (r:List Value) (x:zB):Prop:=∃(ao0:Option Addr) (cap0:Nat) (ao1:Option Addr) (cap1:Nat) (ao2:Option Addr) (cap2:Nat) (ao3:Option Addr) (cap3:Nat) (ao4:Option Addr) (cap4:Nat) (ao5:Option Addr) (cap5:Nat) (ao6:Option Addr) (cap6:Nat) (ao7:Option Addr) (cap7:Nat),r=[(.slice ao0 x.fM.length cap0),(.slice ao1 x.fC0.length cap1),(.slice ao2 x.fS.length cap2),(.slice ao3 x.fK.length cap3),(.slice ao4 x.fVLs.length cap4),(.slice ao5 x.fH.length cap5),(.slice ao6 x.fU.length cap6),(.slice ao7 x.fV0.length cap7)]∧ZS Z 4 (y48 Z) ao0 cap0 x.fM∧ZS Z 4 (y4M Z) ao1 cap1 x.fC0∧ZS Z 4 (fun r x=>r=e66 x) ao2 cap2 x.fS∧ZS Z 4 (fun r x=>r=e64 x) ao3 cap3 x.fK∧ZS Z 7 (p46 Z) ao4 cap4 x.fVLs∧ZS Z 5 (fun r x=>r=y4Z x) ao5 cap5 x.fH∧ZS Z 3 (y4N Z) ao6 cap6 x.fU∧ZS Z 4 (fun r x=>r=y50 x) ao7 cap7 x.fV0
def p22 (Z:Zp) (r:List Value) (x:List z5P):Prop:=∃(ao0:Option Addr) (cap0:Nat),r=[(.slice ao0 x.length cap0)]∧ZS Z 4 (y48 Z) ao0 cap0 x
def p106 (Z:Zp) (r:List Value) (x:List Sapi_Part):Prop:=∃(ao0:Option Addr) (cap0:Nat),r=[(.slice ao0 x.length cap0)]∧ZS Z 10 (p340 Z) ao0 cap0 x
def p109 (Z:Zp) (r:List Value) (x:List Int):Prop:=∃(ao0:Option Addr) (cap0:Nat),r=[(.slice ao0 x.length cap0)]∧ZS Z 1 (fun r x=>r=e3 x) ao0 cap0 x
def p337 (Z:Zp) (r:List Value) (x:List Sapi_Port):Prop:=∃(ao0:Option Addr) (cap0:Nat),r=[(.slice ao0 x.length cap0)]∧ZS Z 6 (fun r x=>r=e346 x) ao0 cap0 x
def e4 (x:Bool):List Value:=[(.bool x)]
def p338 (Z:Zp) (r:List Value) (x:List Sapi_Proc):Prop:=∃(ao0:Option Addr) (cap0:Nat),r=[(.slice ao0 x.length cap0)]∧ZS Z 5 (p349 Z) ao0 cap0 x
def p347 (Z:Zp) (r:List Value) (x:List Sapi_Ins):Prop:=∃(ao0:Option Addr) (cap0:Nat),r=[(.slice ao0 x.length cap0)]∧ZS Z 4 (fun r x=>r=e351 x) ao0 cap0 x
def p23 (Z:Zp) (r:List Value) (x:List zfK):Prop:=∃(ao0:Option Addr) (cap0:Nat),r=[(.slice ao0 x.length cap0)]∧ZS Z 4 (y4M Z) ao0 cap0 x
def p44 (Z:Zp) (r:List Value) (x:List Sapi_Ref):Prop:=∃(ao0:Option Addr) (cap0:Nat),r=[(.slice ao0 x.length cap0)]∧ZS Z 3 (fun r x=>r=e43 x) ao0 cap0 x
def p24 (Z:Zp) (r:List Value) (x:List z7g):Prop:=∃(ao0:Option Addr) (cap0:Nat),r=[(.slice ao0 x.length cap0)]∧ZS Z 4 (fun r x=>r=e66 x) ao0 cap0 x
def p25 (Z:Zp) (r:List Value) (x:List z6g):Prop:=∃(ao0:Option Addr) (cap0:Nat),r=[(.slice ao0 x.length cap0)]∧ZS Z 4 (fun r x=>r=e64 x) ao0 cap0 x
def p26 (Z:Zp) (r:List Value) (x:List zj):Prop:=∃(ao0:Option Addr) (cap0:Nat),r=[(.slice ao0 x.length cap0)]∧ZS Z 7 (p46 Z) ao0 cap0 x
def p27 (Z:Zp) (r:List Value) (x:List Sapi_Health):Prop:=∃(ao0:Option Addr) (cap0:Nat),r=[(.slice ao0 x.length cap0)]∧ZS Z 5 (fun r x=>r=y4Z x) ao0 cap0 x
def p28 (Z:Zp) (r:List Value) (x:List Sapi_Cause):Prop:=∃(ao0:Option Addr) (cap0:Nat),r=[(.slice ao0 x.length cap0)]∧ZS Z 3 (y4N Z) ao0 cap0 x
def p331 (Z:Zp) (r:List Value) (x:List Sapi_Report):Prop:=∃(ao0:Option Addr) (cap0:Nat),r=[(.slice ao0 x.length cap0)]∧ZS Z 2 (fun r x=>r=e344 x) ao0 cap0 x
def p332 (Z:Zp) (r:List Value) (x:List ByteArray):Prop:=∃(ao0:Option Addr) (cap0:Nat),r=[(.slice ao0 x.length cap0)]∧ZS Z 1 (fun r x=>r=e9 x) ao0 cap0 x
def p29 (Z:Zp) (r:List Value) (x:List Sapi_Version):Prop:=∃(ao0:Option Addr) (cap0:Nat),r=[(.slice ao0 x.length cap0)]∧ZS Z 4 (fun r x=>r=y50 x) ao0 cap0 x
abbrev kd346 (a:Sapi_Port):Prop:=(0≤a.fKind∧a.fKind≤255)∧(-9223372036854775808≤a.fSize∧a.fSize≤9223372036854775807)∧(-9223372036854775808≤a.fDepth∧a.fDepth≤9223372036854775807)∧(-9223372036854775808≤a.fRefresh∧a.fRefresh≤9223372036854775807)
abbrev kd351 (a:Sapi_Ins):Prop:=(0≤a.fOp∧a.fOp≤255)∧(-9223372036854775808≤a.fA∧a.fA≤9223372036854775807)∧(-9223372036854775808≤a.fB∧a.fB≤9223372036854775807)∧(-9223372036854775808≤a.fC∧a.fC≤9223372036854775807)
abbrev kd349 (a:Sapi_Proc):Prop:=(-9223372036854775808≤a.fPrio∧a.fPrio≤9223372036854775807)∧(-9223372036854775808≤a.fPeriod∧a.fPeriod≤9223372036854775807)∧(-9223372036854775808≤a.fLimit∧a.fLimit≤9223372036854775807)∧(a.fCode.length≤9223372036854775807∧∀ x∈a.fCode,kd351 x)
abbrev kd340 (a:Sapi_Part):Prop:=(-9223372036854775808≤a.fPeriod∧a.fPeriod≤9223372036854775807)∧(-9223372036854775808≤a.fLength∧a.fLength≤9223372036854775807)∧(-9223372036854775808≤a.fMem∧a.fMem≤9223372036854775807)∧(a.fSemas.length≤9223372036854775807∧∀ x∈a.fSemas,-9223372036854775808≤x∧x≤9223372036854775807)∧(-9223372036854775808≤a.fEvents∧a.fEvents≤9223372036854775807)∧(-9223372036854775808≤a.fBoards∧a.fBoards≤9223372036854775807)∧(a.fBufs.length≤9223372036854775807∧∀ x∈a.fBufs,-9223372036854775808≤x∧x≤9223372036854775807)∧(a.fP.length≤9223372036854775807∧∀ x∈a.fP,kd346 x)∧(a.fProcs.length≤9223372036854775807∧∀ x∈a.fProcs,kd349 x)
abbrev kd108 (a:z5P):Prop:=(-9223372036854775808≤a.fMem∧a.fMem≤9223372036854775807)∧(-9223372036854775808≤a.fFrame∧a.fFrame≤9223372036854775807)∧(a.fParts.length≤9223372036854775807∧∀ x∈a.fParts,kd340 x)
abbrev kd328 (a:zfK):Prop:=(a.fTo.length≤9223372036854775807)
abbrev kd66 (a:z7g):Prop:=(-9223372036854775808≤a.fNet∧a.fNet≤9223372036854775807)∧(-9223372036854775808≤a.fDelay∧a.fDelay≤9223372036854775807)∧(-9223372036854775808≤a.fT∧a.fT≤9223372036854775807)
abbrev kd64 (a:z6g):Prop:=(-9223372036854775808≤a.fNet∧a.fNet≤9223372036854775807)∧(-9223372036854775808≤a.fSlow∧a.fSlow≤9223372036854775807)
abbrev kd46 (a:zj):Prop:=(-9223372036854775808≤a.fBag∧a.fBag≤9223372036854775807)∧(-9223372036854775808≤a.fMax∧a.fMax≤9223372036854775807)∧(a.fTo.length≤9223372036854775807)
abbrev kd330 (a:Sapi_Health):Prop:=(0≤a.fFault∧a.fFault≤255)∧(0≤a.fLevel∧a.fLevel≤255)∧(0≤a.fDo∧a.fDo≤255)
abbrev kd344 (a:Sapi_Report):Prop:=(-9223372036854775808≤a.fCode∧a.fCode≤9223372036854775807)
abbrev kd334 (a:Sapi_Cause):Prop:=(a.fNeeds.length≤9223372036854775807∧∀ x∈a.fNeeds,kd344 x)∧(a.fUnless.length≤9223372036854775807)
abbrev kd336 (a:Sapi_Version):Prop:=(-9223372036854775808≤a.fVA∧a.fVA≤9223372036854775807)∧(-9223372036854775808≤a.fVB∧a.fVB≤9223372036854775807)
abbrev kd31 (a:zB):Prop:=(a.fM.length≤9223372036854775807∧∀ x∈a.fM,kd108 x)∧(a.fC0.length≤9223372036854775807∧∀ x∈a.fC0,kd328 x)∧(a.fS.length≤9223372036854775807∧∀ x∈a.fS,kd66 x)∧(a.fK.length≤9223372036854775807∧∀ x∈a.fK,kd64 x)∧(a.fVLs.length≤9223372036854775807∧∀ x∈a.fVLs,kd46 x)∧(a.fH.length≤9223372036854775807∧∀ x∈a.fH,kd330 x)∧(a.fU.length≤9223372036854775807∧∀ x∈a.fU,kd334 x)∧(a.fV0.length≤9223372036854775807∧∀ x∈a.fV0,kd336 x)
abbrev kd62 (a:zd):Prop:=(-9223372036854775808≤a.fNode∧a.fNode≤9223372036854775807)∧(-9223372036854775808≤a.fNext∧a.fNext≤9223372036854775807)∧(-9223372036854775808≤a.fQ∧a.fQ≤9223372036854775807)
theorem el_9 {H:Type} {enc:TypeId×Value→H} {W:World} {spare:Nat→Bool} {held:Bool} (n:Nat) (cs:List Value) (y:DataW H×List MemPlace) (h:DataW.trod enc Tryz.prog W 0 spare held n 9 cs=some y) (hl:cs.length=1):∃ a:ByteArray,(cs=e9 a)∧(True):=by
 obtain⟨a,rfl,-,-⟩:=DataW.trod_string Tryz.underlying9 h
 exact⟨a,rfl,trivial⟩
theorem el_3 {H:Type} {enc:TypeId×Value→H} {W:World} {spare:Nat→Bool} {held:Bool} (n:Nat) (cs:List Value) (y:DataW H×List MemPlace) (h:DataW.trod enc Tryz.prog W 0 spare held n 3 cs=some y) (hl:cs.length=1):∃ a:Int,(cs=e3 a)∧(-9223372036854775808≤a∧a≤9223372036854775807):=by
 obtain⟨a,rfl,-,wf⟩:=DataW.trod_int Tryz.underlying3 h
 exact⟨a,rfl,Go.bounds_i64 wf⟩
theorem zEZ {H:Type} {enc:TypeId×Value→H} {W:World} {spare:Nat→Bool} {held:Bool} (n:Nat) (cs:List Value) (y:DataW H×List MemPlace) (h:DataW.trod enc Tryz.prog W 0 spare held n 109 cs=some y) (hl:cs.length=1):∃ a:List Int,(p109 (ZW W) cs a)∧(a.length≤9223372036854775807∧∀ x∈a,-9223372036854775808≤x∧x≤9223372036854775807):=by
 obtain⟨ao,cap,l,rfl,hz,hL⟩:=y39 (Pr:=fun r x=>(r=e3 x)∧(-9223372036854775808≤x∧x≤9223372036854775807)) (sz:=1) Tryz.underlying109 (by kernel_rfl) (by decide) el_3 h
 unfold maxLen at hL
 exact⟨l,⟨ao,cap,rfl,hz.weak (fun _ _ h=>h.1)⟩,⟨by omega,hz.all (q:=fun x => -9223372036854775808≤x∧x≤9223372036854775807) (fun _ _ h=>h.2)⟩⟩
theorem el_5 {H:Type} {enc:TypeId×Value→H} {W:World} {spare:Nat→Bool} {held:Bool} (n:Nat) (cs:List Value) (y:DataW H×List MemPlace) (h:DataW.trod enc Tryz.prog W 0 spare held n 5 cs=some y) (hl:cs.length=1):∃ a:Int,(cs=e5 a)∧(0≤a∧a≤255):=by
 obtain⟨a,rfl,-,wf⟩:=DataW.trod_int Tryz.underlying5 h
 exact⟨a,rfl,Go.bounds_u8 wf⟩
theorem el_4 {H:Type} {enc:TypeId×Value→H} {W:World} {spare:Nat→Bool} {held:Bool} (n:Nat) (cs:List Value) (y:DataW H×List MemPlace) (h:DataW.trod enc Tryz.prog W 0 spare held n 4 cs=some y) (hl:cs.length=1):∃ a:Bool,(cs=e4 a)∧(True):=by
 obtain⟨a,rfl,-⟩:=DataW.trod_bool Tryz.underlying4 h
 exact⟨a,rfl,trivial⟩
theorem zTD {H:Type} {enc:TypeId×Value→H} {W:World} {spare:Nat→Bool} {held:Bool} (n:Nat) (cs:List Value) (y:DataW H×List MemPlace) (h:DataW.trod enc Tryz.prog W 0 spare held n 346 cs=some y) (hl:cs.length=6):∃ a:Sapi_Port,(cs=e346 a)∧(kd346 a):=by
 obtain⟨y0,m0,h0⟩:=yx 0 Tryz.underlying346 h rfl
 have c0:Tryz.prog.cellsOf 9=1:=by kernel_rfl
 try dsimp only at h0
 rw[c0] at h0
 obtain⟨a0,r0,k0⟩:=el_9 _ _ _ h0 (by simp[hl])
 obtain⟨y1,m1,h1⟩:=yx 1 Tryz.underlying346 h rfl
 have c1:Tryz.prog.cellsOf 5=1:=by kernel_rfl
 try dsimp only at h1
 rw[c1] at h1
 obtain⟨a1,r1,k1⟩:=el_5 _ _ _ h1 (by simp[hl])
 obtain⟨y2,m2,h2⟩:=yx 2 Tryz.underlying346 h rfl
 have c2:Tryz.prog.cellsOf 4=1:=by kernel_rfl
 try dsimp only at h2
 rw[c2] at h2
 obtain⟨a2,r2,k2⟩:=el_4 _ _ _ h2 (by simp[hl])
 obtain⟨y3,m3,h3⟩:=yx 3 Tryz.underlying346 h rfl
 have c3:Tryz.prog.cellsOf 3=1:=by kernel_rfl
 try dsimp only at h3
 rw[c3] at h3
 obtain⟨a3,r3,k3⟩:=el_3 _ _ _ h3 (by simp[hl])
 obtain⟨y4,m4,h4⟩:=yx 4 Tryz.underlying346 h rfl
 have c4:Tryz.prog.cellsOf 3=1:=by kernel_rfl
 try dsimp only at h4
 rw[c4] at h4
 obtain⟨a4,r4,k4⟩:=el_3 _ _ _ h4 (by simp[hl])
 obtain⟨y5,m5,h5⟩:=yx 5 Tryz.underlying346 h rfl
 have c5:Tryz.prog.cellsOf 3=1:=by kernel_rfl
 try dsimp only at h5
 rw[c5] at h5
 obtain⟨a5,r5,k5⟩:=el_3 _ _ _ h5 (by simp[hl])
 obtain⟨u0,u1,u2,u3,u4,u5,rfl⟩:∃ u0 u1 u2 u3 u4 u5,cs=[u0,u1,u2,u3,u4,u5]:=by match cs,hl with | [u0,u1,u2,u3,u4,u5],_=>exact⟨_,_,_,_,_,_,rfl⟩
 simp[e9] at r0
 simp[e5] at r1
 simp[e4] at r2
 simp[e3] at r3
 simp[e3] at r4
 simp[e3] at r5
 exact⟨⟨a0,a1,a2,a3,a4,a5⟩,by simp[e346, *],⟨k1,k3,k4,k5⟩⟩
theorem zTE {H:Type} {enc:TypeId×Value→H} {W:World} {spare:Nat→Bool} {held:Bool} (n:Nat) (cs:List Value) (y:DataW H×List MemPlace) (h:DataW.trod enc Tryz.prog W 0 spare held n 337 cs=some y) (hl:cs.length=1):∃ a:List Sapi_Port,(p337 (ZW W) cs a)∧(a.length≤9223372036854775807∧∀ x∈a,kd346 x):=by
 obtain⟨ao,cap,l,rfl,hz,hL⟩:=y39 (Pr:=fun r x=>(r=e346 x)∧(kd346 x)) (sz:=6) Tryz.underlying337 (by kernel_rfl) (by decide) zTD h
 unfold maxLen at hL
 exact⟨l,⟨ao,cap,rfl,hz.weak (fun _ _ h=>h.1)⟩,⟨by omega,hz.all (q:=fun x=>kd346 x) (fun _ _ h=>h.2)⟩⟩
theorem zTF {H:Type} {enc:TypeId×Value→H} {W:World} {spare:Nat→Bool} {held:Bool} (n:Nat) (cs:List Value) (y:DataW H×List MemPlace) (h:DataW.trod enc Tryz.prog W 0 spare held n 351 cs=some y) (hl:cs.length=4):∃ a:Sapi_Ins,(cs=e351 a)∧(kd351 a):=by
 obtain⟨y0,m0,h0⟩:=yx 0 Tryz.underlying351 h rfl
 have c0:Tryz.prog.cellsOf 5=1:=by kernel_rfl
 try dsimp only at h0
 rw[c0] at h0
 obtain⟨a0,r0,k0⟩:=el_5 _ _ _ h0 (by simp[hl])
 obtain⟨y1,m1,h1⟩:=yx 1 Tryz.underlying351 h rfl
 have c1:Tryz.prog.cellsOf 3=1:=by kernel_rfl
 try dsimp only at h1
 rw[c1] at h1
 obtain⟨a1,r1,k1⟩:=el_3 _ _ _ h1 (by simp[hl])
 obtain⟨y2,m2,h2⟩:=yx 2 Tryz.underlying351 h rfl
 have c2:Tryz.prog.cellsOf 3=1:=by kernel_rfl
 try dsimp only at h2
 rw[c2] at h2
 obtain⟨a2,r2,k2⟩:=el_3 _ _ _ h2 (by simp[hl])
 obtain⟨y3,m3,h3⟩:=yx 3 Tryz.underlying351 h rfl
 have c3:Tryz.prog.cellsOf 3=1:=by kernel_rfl
 try dsimp only at h3
 rw[c3] at h3
 obtain⟨a3,r3,k3⟩:=el_3 _ _ _ h3 (by simp[hl])
 obtain⟨u0,u1,u2,u3,rfl⟩:∃ u0 u1 u2 u3,cs=[u0,u1,u2,u3]:=by match cs,hl with | [u0,u1,u2,u3],_=>exact⟨_,_,_,_,rfl⟩
 simp[e5] at r0
 simp[e3] at r1
 simp[e3] at r2
 simp[e3] at r3
 exact⟨⟨a0,a1,a2,a3⟩,by simp[e351, *],⟨k0,k1,k2,k3⟩⟩
theorem zTG {H:Type} {enc:TypeId×Value→H} {W:World} {spare:Nat→Bool} {held:Bool} (n:Nat) (cs:List Value) (y:DataW H×List MemPlace) (h:DataW.trod enc Tryz.prog W 0 spare held n 347 cs=some y) (hl:cs.length=1):∃ a:List Sapi_Ins,(p347 (ZW W) cs a)∧(a.length≤9223372036854775807∧∀ x∈a,kd351 x):=by
 obtain⟨ao,cap,l,rfl,hz,hL⟩:=y39 (Pr:=fun r x=>(r=e351 x)∧(kd351 x)) (sz:=4) Tryz.underlying347 (by kernel_rfl) (by decide) zTF h
 unfold maxLen at hL
 exact⟨l,⟨ao,cap,rfl,hz.weak (fun _ _ h=>h.1)⟩,⟨by omega,hz.all (q:=fun x=>kd351 x) (fun _ _ h=>h.2)⟩⟩
theorem zTH {H:Type} {enc:TypeId×Value→H} {W:World} {spare:Nat→Bool} {held:Bool} (n:Nat) (cs:List Value) (y:DataW H×List MemPlace) (h:DataW.trod enc Tryz.prog W 0 spare held n 349 cs=some y) (hl:cs.length=5):∃ a:Sapi_Proc,(p349 (ZW W) cs a)∧(kd349 a):=by
 obtain⟨y0,m0,h0⟩:=yx 0 Tryz.underlying349 h rfl
 have c0:Tryz.prog.cellsOf 9=1:=by kernel_rfl
 try dsimp only at h0
 rw[c0] at h0
 obtain⟨a0,r0,k0⟩:=el_9 _ _ _ h0 (by simp[hl])
 obtain⟨y1,m1,h1⟩:=yx 1 Tryz.underlying349 h rfl
 have c1:Tryz.prog.cellsOf 3=1:=by kernel_rfl
 try dsimp only at h1
 rw[c1] at h1
 obtain⟨a1,r1,k1⟩:=el_3 _ _ _ h1 (by simp[hl])
 obtain⟨y2,m2,h2⟩:=yx 2 Tryz.underlying349 h rfl
 have c2:Tryz.prog.cellsOf 3=1:=by kernel_rfl
 try dsimp only at h2
 rw[c2] at h2
 obtain⟨a2,r2,k2⟩:=el_3 _ _ _ h2 (by simp[hl])
 obtain⟨y3,m3,h3⟩:=yx 3 Tryz.underlying349 h rfl
 have c3:Tryz.prog.cellsOf 3=1:=by kernel_rfl
 try dsimp only at h3
 rw[c3] at h3
 obtain⟨a3,r3,k3⟩:=el_3 _ _ _ h3 (by simp[hl])
 obtain⟨y4,m4,h4⟩:=yx 4 Tryz.underlying349 h rfl
 have c4:Tryz.prog.cellsOf 347=1:=by kernel_rfl
 try dsimp only at h4
 rw[c4] at h4
 obtain⟨a4,r4,k4⟩:=zTG _ _ _ h4 (by simp[hl])
 obtain⟨u0,u1,u2,u3,u4,rfl⟩:∃ u0 u1 u2 u3 u4,cs=[u0,u1,u2,u3,u4]:=by match cs,hl with | [u0,u1,u2,u3,u4],_=>exact⟨_,_,_,_,_,rfl⟩
 simp[e9] at r0
 simp[e3] at r1
 simp[e3] at r2
 simp[e3] at r3
 obtain⟨ao4x0,cp4x0,r4,z4x0⟩:=r4
 simp at r4
 refine⟨⟨a0,a1,a2,a3,a4⟩,⟨ao4x0,cp4x0,by simp[*],z4x0⟩,⟨k1,k2,k3,k4⟩⟩
theorem zTI {H:Type} {enc:TypeId×Value→H} {W:World} {spare:Nat→Bool} {held:Bool} (n:Nat) (cs:List Value) (y:DataW H×List MemPlace) (h:DataW.trod enc Tryz.prog W 0 spare held n 338 cs=some y) (hl:cs.length=1):∃ a:List Sapi_Proc,(p338 (ZW W) cs a)∧(a.length≤9223372036854775807∧∀ x∈a,kd349 x):=by
 obtain⟨ao,cap,l,rfl,hz,hL⟩:=y39 (Pr:=fun r x=>(p349 (ZW W) r x)∧(kd349 x)) (sz:=5) Tryz.underlying338 (by kernel_rfl) (by decide) zTH h
 unfold maxLen at hL
 exact⟨l,⟨ao,cap,rfl,hz.weak (fun _ _ h=>h.1)⟩,⟨by omega,hz.all (q:=fun x=>kd349 x) (fun _ _ h=>h.2)⟩⟩
theorem zTJ {H:Type} {enc:TypeId×Value→H} {W:World} {spare:Nat→Bool} {held:Bool} (n:Nat) (cs:List Value) (y:DataW H×List MemPlace) (h:DataW.trod enc Tryz.prog W 0 spare held n 340 cs=some y) (hl:cs.length=10):∃ a:Sapi_Part,(p340 (ZW W) cs a)∧(kd340 a):=by
 obtain⟨y0,m0,h0⟩:=yx 0 Tryz.underlying340 h rfl
 have c0:Tryz.prog.cellsOf 9=1:=by kernel_rfl
 try dsimp only at h0
 rw[c0] at h0
 obtain⟨a0,r0,k0⟩:=el_9 _ _ _ h0 (by simp[hl])
 obtain⟨y1,m1,h1⟩:=yx 1 Tryz.underlying340 h rfl
 have c1:Tryz.prog.cellsOf 3=1:=by kernel_rfl
 try dsimp only at h1
 rw[c1] at h1
 obtain⟨a1,r1,k1⟩:=el_3 _ _ _ h1 (by simp[hl])
 obtain⟨y2,m2,h2⟩:=yx 2 Tryz.underlying340 h rfl
 have c2:Tryz.prog.cellsOf 3=1:=by kernel_rfl
 try dsimp only at h2
 rw[c2] at h2
 obtain⟨a2,r2,k2⟩:=el_3 _ _ _ h2 (by simp[hl])
 obtain⟨y3,m3,h3⟩:=yx 3 Tryz.underlying340 h rfl
 have c3:Tryz.prog.cellsOf 3=1:=by kernel_rfl
 try dsimp only at h3
 rw[c3] at h3
 obtain⟨a3,r3,k3⟩:=el_3 _ _ _ h3 (by simp[hl])
 obtain⟨y4,m4,h4⟩:=yx 4 Tryz.underlying340 h rfl
 have c4:Tryz.prog.cellsOf 109=1:=by kernel_rfl
 try dsimp only at h4
 rw[c4] at h4
 obtain⟨a4,r4,k4⟩:=zEZ _ _ _ h4 (by simp[hl])
 obtain⟨y5,m5,h5⟩:=yx 5 Tryz.underlying340 h rfl
 have c5:Tryz.prog.cellsOf 3=1:=by kernel_rfl
 try dsimp only at h5
 rw[c5] at h5
 obtain⟨a5,r5,k5⟩:=el_3 _ _ _ h5 (by simp[hl])
 obtain⟨y6,m6,h6⟩:=yx 6 Tryz.underlying340 h rfl
 have c6:Tryz.prog.cellsOf 3=1:=by kernel_rfl
 try dsimp only at h6
 rw[c6] at h6
 obtain⟨a6,r6,k6⟩:=el_3 _ _ _ h6 (by simp[hl])
 obtain⟨y7,m7,h7⟩:=yx 7 Tryz.underlying340 h rfl
 have c7:Tryz.prog.cellsOf 109=1:=by kernel_rfl
 try dsimp only at h7
 rw[c7] at h7
 obtain⟨a7,r7,k7⟩:=zEZ _ _ _ h7 (by simp[hl])
 obtain⟨y8,m8,h8⟩:=yx 8 Tryz.underlying340 h rfl
 have c8:Tryz.prog.cellsOf 337=1:=by kernel_rfl
 try dsimp only at h8
 rw[c8] at h8
 obtain⟨a8,r8,k8⟩:=zTE _ _ _ h8 (by simp[hl])
 obtain⟨y9,m9,h9⟩:=yx 9 Tryz.underlying340 h rfl
 have c9:Tryz.prog.cellsOf 338=1:=by kernel_rfl
 try dsimp only at h9
 rw[c9] at h9
 obtain⟨a9,r9,k9⟩:=zTI _ _ _ h9 (by simp[hl])
 obtain⟨u0,u1,u2,u3,u4,u5,u6,u7,u8,u9,rfl⟩:∃ u0 u1 u2 u3 u4 u5 u6 u7 u8 u9,cs=[u0,u1,u2,u3,u4,u5,u6,u7,u8,u9]:=by match cs,hl with | [u0,u1,u2,u3,u4,u5,u6,u7,u8,u9],_=>exact⟨_,_,_,_,_,_,_,_,_,_,rfl⟩
 simp[e9] at r0
 simp[e3] at r1
 simp[e3] at r2
 simp[e3] at r3
 obtain⟨ao4x0,cp4x0,r4,z4x0⟩:=r4
 simp at r4
 simp[e3] at r5
 simp[e3] at r6
 obtain⟨ao7x0,cp7x0,r7,z7x0⟩:=r7
 simp at r7
 obtain⟨ao8x0,cp8x0,r8,z8x0⟩:=r8
 simp at r8
 obtain⟨ao9x0,cp9x0,r9,z9x0⟩:=r9
 simp at r9
 refine⟨⟨a0,a1,a2,a3,a4,a5,a6,a7,a8,a9⟩,⟨ao4x0,cp4x0,ao7x0,cp7x0,ao8x0,cp8x0,ao9x0,cp9x0,by simp[*],z4x0,z7x0,z8x0,z9x0⟩,⟨k1,k2,k3,k4,k5,k6,k7,k8,k9⟩⟩
theorem zTK {H:Type} {enc:TypeId×Value→H} {W:World} {spare:Nat→Bool} {held:Bool} (n:Nat) (cs:List Value) (y:DataW H×List MemPlace) (h:DataW.trod enc Tryz.prog W 0 spare held n 106 cs=some y) (hl:cs.length=1):∃ a:List Sapi_Part,(p106 (ZW W) cs a)∧(a.length≤9223372036854775807∧∀ x∈a,kd340 x):=by
 obtain⟨ao,cap,l,rfl,hz,hL⟩:=y39 (Pr:=fun r x=>(p340 (ZW W) r x)∧(kd340 x)) (sz:=10) Tryz.underlying106 (by kernel_rfl) (by decide) zTJ h
 unfold maxLen at hL
 exact⟨l,⟨ao,cap,rfl,hz.weak (fun _ _ h=>h.1)⟩,⟨by omega,hz.all (q:=fun x=>kd340 x) (fun _ _ h=>h.2)⟩⟩
theorem zTL {H:Type} {enc:TypeId×Value→H} {W:World} {spare:Nat→Bool} {held:Bool} (n:Nat) (cs:List Value) (y:DataW H×List MemPlace) (h:DataW.trod enc Tryz.prog W 0 spare held n 108 cs=some y) (hl:cs.length=4):∃ a:z5P,(y48 (ZW W) cs a)∧(kd108 a):=by
 obtain⟨y0,m0,h0⟩:=yx 0 Tryz.underlying108 h rfl
 have c0:Tryz.prog.cellsOf 9=1:=by kernel_rfl
 try dsimp only at h0
 rw[c0] at h0
 obtain⟨a0,r0,k0⟩:=el_9 _ _ _ h0 (by simp[hl])
 obtain⟨y1,m1,h1⟩:=yx 1 Tryz.underlying108 h rfl
 have c1:Tryz.prog.cellsOf 3=1:=by kernel_rfl
 try dsimp only at h1
 rw[c1] at h1
 obtain⟨a1,r1,k1⟩:=el_3 _ _ _ h1 (by simp[hl])
 obtain⟨y2,m2,h2⟩:=yx 2 Tryz.underlying108 h rfl
 have c2:Tryz.prog.cellsOf 3=1:=by kernel_rfl
 try dsimp only at h2
 rw[c2] at h2
 obtain⟨a2,r2,k2⟩:=el_3 _ _ _ h2 (by simp[hl])
 obtain⟨y3,m3,h3⟩:=yx 3 Tryz.underlying108 h rfl
 have c3:Tryz.prog.cellsOf 106=1:=by kernel_rfl
 try dsimp only at h3
 rw[c3] at h3
 obtain⟨a3,r3,k3⟩:=zTK _ _ _ h3 (by simp[hl])
 obtain⟨u0,u1,u2,u3,rfl⟩:∃ u0 u1 u2 u3,cs=[u0,u1,u2,u3]:=by match cs,hl with | [u0,u1,u2,u3],_=>exact⟨_,_,_,_,rfl⟩
 simp[e9] at r0
 simp[e3] at r1
 simp[e3] at r2
 obtain⟨ao3x0,cp3x0,r3,z3x0⟩:=r3
 simp at r3
 refine⟨⟨a0,a1,a2,a3⟩,⟨ao3x0,cp3x0,by simp[*],z3x0⟩,⟨k1,k2,k3⟩⟩
theorem el_22 {H:Type} {enc:TypeId×Value→H} {W:World} {spare:Nat→Bool} {held:Bool} (n:Nat) (cs:List Value) (y:DataW H×List MemPlace) (h:DataW.trod enc Tryz.prog W 0 spare held n 22 cs=some y) (hl:cs.length=1):∃ a:List z5P,(p22 (ZW W) cs a)∧(a.length≤9223372036854775807∧∀ x∈a,kd108 x):=by
 obtain⟨ao,cap,l,rfl,hz,hL⟩:=y39 (Pr:=fun r x=>(y48 (ZW W) r x)∧(kd108 x)) (sz:=4) Tryz.underlying22 (by kernel_rfl) (by decide) zTL h
 unfold maxLen at hL
 exact⟨l,⟨ao,cap,rfl,hz.weak (fun _ _ h=>h.1)⟩,⟨by omega,hz.all (q:=fun x=>kd108 x) (fun _ _ h=>h.2)⟩⟩
theorem el_43 {H:Type} {enc:TypeId×Value→H} {W:World} {spare:Nat→Bool} {held:Bool} (n:Nat) (cs:List Value) (y:DataW H×List MemPlace) (h:DataW.trod enc Tryz.prog W 0 spare held n 43 cs=some y) (hl:cs.length=3):∃ a:Sapi_Ref,(cs=e43 a)∧(True):=by
 obtain⟨y0,m0,h0⟩:=yx 0 Tryz.underlying43 h rfl
 have c0:Tryz.prog.cellsOf 9=1:=by kernel_rfl
 try dsimp only at h0
 rw[c0] at h0
 obtain⟨a0,r0,k0⟩:=el_9 _ _ _ h0 (by simp[hl])
 obtain⟨y1,m1,h1⟩:=yx 1 Tryz.underlying43 h rfl
 have c1:Tryz.prog.cellsOf 9=1:=by kernel_rfl
 try dsimp only at h1
 rw[c1] at h1
 obtain⟨a1,r1,k1⟩:=el_9 _ _ _ h1 (by simp[hl])
 obtain⟨y2,m2,h2⟩:=yx 2 Tryz.underlying43 h rfl
 have c2:Tryz.prog.cellsOf 9=1:=by kernel_rfl
 try dsimp only at h2
 rw[c2] at h2
 obtain⟨a2,r2,k2⟩:=el_9 _ _ _ h2 (by simp[hl])
 obtain⟨u0,u1,u2,rfl⟩:∃ u0 u1 u2,cs=[u0,u1,u2]:=by match cs,hl with | [u0,u1,u2],_=>exact⟨_,_,_,rfl⟩
 simp[e9] at r0
 simp[e9] at r1
 simp[e9] at r2
 exact⟨⟨a0,a1,a2⟩,by simp[e43, *],trivial⟩
theorem el_44 {H:Type} {enc:TypeId×Value→H} {W:World} {spare:Nat→Bool} {held:Bool} (n:Nat) (cs:List Value) (y:DataW H×List MemPlace) (h:DataW.trod enc Tryz.prog W 0 spare held n 44 cs=some y) (hl:cs.length=1):∃ a:List Sapi_Ref,(p44 (ZW W) cs a)∧(a.length≤9223372036854775807):=by
 obtain⟨ao,cap,l,rfl,hz,hL⟩:=y39 (Pr:=fun r x=>(r=e43 x)∧(True)) (sz:=3) Tryz.underlying44 (by kernel_rfl) (by decide) el_43 h
 unfold maxLen at hL
 exact⟨l,⟨ao,cap,rfl,hz.weak (fun _ _ h=>h.1)⟩,by omega⟩
theorem zTM {H:Type} {enc:TypeId×Value→H} {W:World} {spare:Nat→Bool} {held:Bool} (n:Nat) (cs:List Value) (y:DataW H×List MemPlace) (h:DataW.trod enc Tryz.prog W 0 spare held n 328 cs=some y) (hl:cs.length=4):∃ a:zfK,(y4M (ZW W) cs a)∧(kd328 a):=by
 obtain⟨y0,m0,h0⟩:=yx 0 Tryz.underlying328 h rfl
 have c0:Tryz.prog.cellsOf 43=3:=by kernel_rfl
 try dsimp only at h0
 rw[c0] at h0
 obtain⟨a0,r0,k0⟩:=el_43 _ _ _ h0 (by simp[hl])
 obtain⟨y1,m1,h1⟩:=yx 1 Tryz.underlying328 h rfl
 have c1:Tryz.prog.cellsOf 44=1:=by kernel_rfl
 try dsimp only at h1
 rw[c1] at h1
 obtain⟨a1,r1,k1⟩:=el_44 _ _ _ h1 (by simp[hl])
 obtain⟨u0,u1,u2,u3,rfl⟩:∃ u0 u1 u2 u3,cs=[u0,u1,u2,u3]:=by match cs,hl with | [u0,u1,u2,u3],_=>exact⟨_,_,_,_,rfl⟩
 simp[e43] at r0
 obtain⟨ao1x0,cp1x0,r1,z1x0⟩:=r1
 simp at r1
 refine⟨⟨a0,a1⟩,⟨ao1x0,cp1x0,by simp[*],z1x0⟩,k1⟩
theorem el_23 {H:Type} {enc:TypeId×Value→H} {W:World} {spare:Nat→Bool} {held:Bool} (n:Nat) (cs:List Value) (y:DataW H×List MemPlace) (h:DataW.trod enc Tryz.prog W 0 spare held n 23 cs=some y) (hl:cs.length=1):∃ a:List zfK,(p23 (ZW W) cs a)∧(a.length≤9223372036854775807∧∀ x∈a,kd328 x):=by
 obtain⟨ao,cap,l,rfl,hz,hL⟩:=y39 (Pr:=fun r x=>(y4M (ZW W) r x)∧(kd328 x)) (sz:=4) Tryz.underlying23 (by kernel_rfl) (by decide) zTM h
 unfold maxLen at hL
 exact⟨l,⟨ao,cap,rfl,hz.weak (fun _ _ h=>h.1)⟩,⟨by omega,hz.all (q:=fun x=>kd328 x) (fun _ _ h=>h.2)⟩⟩
theorem el_66 {H:Type} {enc:TypeId×Value→H} {W:World} {spare:Nat→Bool} {held:Bool} (n:Nat) (cs:List Value) (y:DataW H×List MemPlace) (h:DataW.trod enc Tryz.prog W 0 spare held n 66 cs=some y) (hl:cs.length=4):∃ a:z7g,(cs=e66 a)∧(kd66 a):=by
 obtain⟨y0,m0,h0⟩:=yx 0 Tryz.underlying66 h rfl
 have c0:Tryz.prog.cellsOf 9=1:=by kernel_rfl
 try dsimp only at h0
 rw[c0] at h0
 obtain⟨a0,r0,k0⟩:=el_9 _ _ _ h0 (by simp[hl])
 obtain⟨y1,m1,h1⟩:=yx 1 Tryz.underlying66 h rfl
 have c1:Tryz.prog.cellsOf 3=1:=by kernel_rfl
 try dsimp only at h1
 rw[c1] at h1
 obtain⟨a1,r1,k1⟩:=el_3 _ _ _ h1 (by simp[hl])
 obtain⟨y2,m2,h2⟩:=yx 2 Tryz.underlying66 h rfl
 have c2:Tryz.prog.cellsOf 3=1:=by kernel_rfl
 try dsimp only at h2
 rw[c2] at h2
 obtain⟨a2,r2,k2⟩:=el_3 _ _ _ h2 (by simp[hl])
 obtain⟨y3,m3,h3⟩:=yx 3 Tryz.underlying66 h rfl
 have c3:Tryz.prog.cellsOf 3=1:=by kernel_rfl
 try dsimp only at h3
 rw[c3] at h3
 obtain⟨a3,r3,k3⟩:=el_3 _ _ _ h3 (by simp[hl])
 obtain⟨u0,u1,u2,u3,rfl⟩:∃ u0 u1 u2 u3,cs=[u0,u1,u2,u3]:=by match cs,hl with | [u0,u1,u2,u3],_=>exact⟨_,_,_,_,rfl⟩
 simp[e9] at r0
 simp[e3] at r1
 simp[e3] at r2
 simp[e3] at r3
 exact⟨⟨a0,a1,a2,a3⟩,by simp[e66, *],⟨k1,k2,k3⟩⟩
theorem el_24 {H:Type} {enc:TypeId×Value→H} {W:World} {spare:Nat→Bool} {held:Bool} (n:Nat) (cs:List Value) (y:DataW H×List MemPlace) (h:DataW.trod enc Tryz.prog W 0 spare held n 24 cs=some y) (hl:cs.length=1):∃ a:List z7g,(p24 (ZW W) cs a)∧(a.length≤9223372036854775807∧∀ x∈a,kd66 x):=by
 obtain⟨ao,cap,l,rfl,hz,hL⟩:=y39 (Pr:=fun r x=>(r=e66 x)∧(kd66 x)) (sz:=4) Tryz.underlying24 (by kernel_rfl) (by decide) el_66 h
 unfold maxLen at hL
 exact⟨l,⟨ao,cap,rfl,hz.weak (fun _ _ h=>h.1)⟩,⟨by omega,hz.all (q:=fun x=>kd66 x) (fun _ _ h=>h.2)⟩⟩
theorem el_64 {H:Type} {enc:TypeId×Value→H} {W:World} {spare:Nat→Bool} {held:Bool} (n:Nat) (cs:List Value) (y:DataW H×List MemPlace) (h:DataW.trod enc Tryz.prog W 0 spare held n 64 cs=some y) (hl:cs.length=4):∃ a:z6g,(cs=e64 a)∧(kd64 a):=by
 obtain⟨y0,m0,h0⟩:=yx 0 Tryz.underlying64 h rfl
 have c0:Tryz.prog.cellsOf 9=1:=by kernel_rfl
 try dsimp only at h0
 rw[c0] at h0
 obtain⟨a0,r0,k0⟩:=el_9 _ _ _ h0 (by simp[hl])
 obtain⟨y1,m1,h1⟩:=yx 1 Tryz.underlying64 h rfl
 have c1:Tryz.prog.cellsOf 9=1:=by kernel_rfl
 try dsimp only at h1
 rw[c1] at h1
 obtain⟨a1,r1,k1⟩:=el_9 _ _ _ h1 (by simp[hl])
 obtain⟨y2,m2,h2⟩:=yx 2 Tryz.underlying64 h rfl
 have c2:Tryz.prog.cellsOf 3=1:=by kernel_rfl
 try dsimp only at h2
 rw[c2] at h2
 obtain⟨a2,r2,k2⟩:=el_3 _ _ _ h2 (by simp[hl])
 obtain⟨y3,m3,h3⟩:=yx 3 Tryz.underlying64 h rfl
 have c3:Tryz.prog.cellsOf 3=1:=by kernel_rfl
 try dsimp only at h3
 rw[c3] at h3
 obtain⟨a3,r3,k3⟩:=el_3 _ _ _ h3 (by simp[hl])
 obtain⟨u0,u1,u2,u3,rfl⟩:∃ u0 u1 u2 u3,cs=[u0,u1,u2,u3]:=by match cs,hl with | [u0,u1,u2,u3],_=>exact⟨_,_,_,_,rfl⟩
 simp[e9] at r0
 simp[e9] at r1
 simp[e3] at r2
 simp[e3] at r3
 exact⟨⟨a0,a1,a2,a3⟩,by simp[e64, *],⟨k2,k3⟩⟩
theorem el_25 {H:Type} {enc:TypeId×Value→H} {W:World} {spare:Nat→Bool} {held:Bool} (n:Nat) (cs:List Value) (y:DataW H×List MemPlace) (h:DataW.trod enc Tryz.prog W 0 spare held n 25 cs=some y) (hl:cs.length=1):∃ a:List z6g,(p25 (ZW W) cs a)∧(a.length≤9223372036854775807∧∀ x∈a,kd64 x):=by
 obtain⟨ao,cap,l,rfl,hz,hL⟩:=y39 (Pr:=fun r x=>(r=e64 x)∧(kd64 x)) (sz:=4) Tryz.underlying25 (by kernel_rfl) (by decide) el_64 h
 unfold maxLen at hL
 exact⟨l,⟨ao,cap,rfl,hz.weak (fun _ _ h=>h.1)⟩,⟨by omega,hz.all (q:=fun x=>kd64 x) (fun _ _ h=>h.2)⟩⟩
theorem el_46 {H:Type} {enc:TypeId×Value→H} {W:World} {spare:Nat→Bool} {held:Bool} (n:Nat) (cs:List Value) (y:DataW H×List MemPlace) (h:DataW.trod enc Tryz.prog W 0 spare held n 46 cs=some y) (hl:cs.length=7):∃ a:zj,(p46 (ZW W) cs a)∧(kd46 a):=by
 obtain⟨y0,m0,h0⟩:=yx 0 Tryz.underlying46 h rfl
 have c0:Tryz.prog.cellsOf 9=1:=by kernel_rfl
 try dsimp only at h0
 rw[c0] at h0
 obtain⟨a0,r0,k0⟩:=el_9 _ _ _ h0 (by simp[hl])
 obtain⟨y1,m1,h1⟩:=yx 1 Tryz.underlying46 h rfl
 have c1:Tryz.prog.cellsOf 43=3:=by kernel_rfl
 try dsimp only at h1
 rw[c1] at h1
 obtain⟨a1,r1,k1⟩:=el_43 _ _ _ h1 (by simp[hl])
 obtain⟨y2,m2,h2⟩:=yx 2 Tryz.underlying46 h rfl
 have c2:Tryz.prog.cellsOf 3=1:=by kernel_rfl
 try dsimp only at h2
 rw[c2] at h2
 obtain⟨a2,r2,k2⟩:=el_3 _ _ _ h2 (by simp[hl])
 obtain⟨y3,m3,h3⟩:=yx 3 Tryz.underlying46 h rfl
 have c3:Tryz.prog.cellsOf 3=1:=by kernel_rfl
 try dsimp only at h3
 rw[c3] at h3
 obtain⟨a3,r3,k3⟩:=el_3 _ _ _ h3 (by simp[hl])
 obtain⟨y4,m4,h4⟩:=yx 4 Tryz.underlying46 h rfl
 have c4:Tryz.prog.cellsOf 44=1:=by kernel_rfl
 try dsimp only at h4
 rw[c4] at h4
 obtain⟨a4,r4,k4⟩:=el_44 _ _ _ h4 (by simp[hl])
 obtain⟨u0,u1,u2,u3,u4,u5,u6,rfl⟩:∃ u0 u1 u2 u3 u4 u5 u6,cs=[u0,u1,u2,u3,u4,u5,u6]:=by match cs,hl with | [u0,u1,u2,u3,u4,u5,u6],_=>exact⟨_,_,_,_,_,_,_,rfl⟩
 simp[e9] at r0
 simp[e43] at r1
 simp[e3] at r2
 simp[e3] at r3
 obtain⟨ao4x0,cp4x0,r4,z4x0⟩:=r4
 simp at r4
 refine⟨⟨a0,a1,a2,a3,a4⟩,⟨ao4x0,cp4x0,by simp[*],z4x0⟩,⟨k2,k3,k4⟩⟩
theorem el_26 {H:Type} {enc:TypeId×Value→H} {W:World} {spare:Nat→Bool} {held:Bool} (n:Nat) (cs:List Value) (y:DataW H×List MemPlace) (h:DataW.trod enc Tryz.prog W 0 spare held n 26 cs=some y) (hl:cs.length=1):∃ a:List zj,(p26 (ZW W) cs a)∧(a.length≤9223372036854775807∧∀ x∈a,kd46 x):=by
 obtain⟨ao,cap,l,rfl,hz,hL⟩:=y39 (Pr:=fun r x=>(p46 (ZW W) r x)∧(kd46 x)) (sz:=7) Tryz.underlying26 (by kernel_rfl) (by decide) el_46 h
 unfold maxLen at hL
 exact⟨l,⟨ao,cap,rfl,hz.weak (fun _ _ h=>h.1)⟩,⟨by omega,hz.all (q:=fun x=>kd46 x) (fun _ _ h=>h.2)⟩⟩
theorem zTN {H:Type} {enc:TypeId×Value→H} {W:World} {spare:Nat→Bool} {held:Bool} (n:Nat) (cs:List Value) (y:DataW H×List MemPlace) (h:DataW.trod enc Tryz.prog W 0 spare held n 330 cs=some y) (hl:cs.length=5):∃ a:Sapi_Health,(cs=y4Z a)∧(kd330 a):=by
 obtain⟨y0,m0,h0⟩:=yx 0 Tryz.underlying330 h rfl
 have c0:Tryz.prog.cellsOf 9=1:=by kernel_rfl
 try dsimp only at h0
 rw[c0] at h0
 obtain⟨a0,r0,k0⟩:=el_9 _ _ _ h0 (by simp[hl])
 obtain⟨y1,m1,h1⟩:=yx 1 Tryz.underlying330 h rfl
 have c1:Tryz.prog.cellsOf 9=1:=by kernel_rfl
 try dsimp only at h1
 rw[c1] at h1
 obtain⟨a1,r1,k1⟩:=el_9 _ _ _ h1 (by simp[hl])
 obtain⟨y2,m2,h2⟩:=yx 2 Tryz.underlying330 h rfl
 have c2:Tryz.prog.cellsOf 5=1:=by kernel_rfl
 try dsimp only at h2
 rw[c2] at h2
 obtain⟨a2,r2,k2⟩:=el_5 _ _ _ h2 (by simp[hl])
 obtain⟨y3,m3,h3⟩:=yx 3 Tryz.underlying330 h rfl
 have c3:Tryz.prog.cellsOf 5=1:=by kernel_rfl
 try dsimp only at h3
 rw[c3] at h3
 obtain⟨a3,r3,k3⟩:=el_5 _ _ _ h3 (by simp[hl])
 obtain⟨y4,m4,h4⟩:=yx 4 Tryz.underlying330 h rfl
 have c4:Tryz.prog.cellsOf 5=1:=by kernel_rfl
 try dsimp only at h4
 rw[c4] at h4
 obtain⟨a4,r4,k4⟩:=el_5 _ _ _ h4 (by simp[hl])
 obtain⟨u0,u1,u2,u3,u4,rfl⟩:∃ u0 u1 u2 u3 u4,cs=[u0,u1,u2,u3,u4]:=by match cs,hl with | [u0,u1,u2,u3,u4],_=>exact⟨_,_,_,_,_,rfl⟩
 simp[e9] at r0
 simp[e9] at r1
 simp[e5] at r2
 simp[e5] at r3
 simp[e5] at r4
 exact⟨⟨a0,a1,a2,a3,a4⟩,by simp[y4Z, *],⟨k2,k3,k4⟩⟩
theorem el_27 {H:Type} {enc:TypeId×Value→H} {W:World} {spare:Nat→Bool} {held:Bool} (n:Nat) (cs:List Value) (y:DataW H×List MemPlace) (h:DataW.trod enc Tryz.prog W 0 spare held n 27 cs=some y) (hl:cs.length=1):∃ a:List Sapi_Health,(p27 (ZW W) cs a)∧(a.length≤9223372036854775807∧∀ x∈a,kd330 x):=by
 obtain⟨ao,cap,l,rfl,hz,hL⟩:=y39 (Pr:=fun r x=>(r=y4Z x)∧(kd330 x)) (sz:=5) Tryz.underlying27 (by kernel_rfl) (by decide) zTN h
 unfold maxLen at hL
 exact⟨l,⟨ao,cap,rfl,hz.weak (fun _ _ h=>h.1)⟩,⟨by omega,hz.all (q:=fun x=>kd330 x) (fun _ _ h=>h.2)⟩⟩
theorem zTO {H:Type} {enc:TypeId×Value→H} {W:World} {spare:Nat→Bool} {held:Bool} (n:Nat) (cs:List Value) (y:DataW H×List MemPlace) (h:DataW.trod enc Tryz.prog W 0 spare held n 344 cs=some y) (hl:cs.length=2):∃ a:Sapi_Report,(cs=e344 a)∧(kd344 a):=by
 obtain⟨y0,m0,h0⟩:=yx 0 Tryz.underlying344 h rfl
 have c0:Tryz.prog.cellsOf 9=1:=by kernel_rfl
 try dsimp only at h0
 rw[c0] at h0
 obtain⟨a0,r0,k0⟩:=el_9 _ _ _ h0 (by simp[hl])
 obtain⟨y1,m1,h1⟩:=yx 1 Tryz.underlying344 h rfl
 have c1:Tryz.prog.cellsOf 3=1:=by kernel_rfl
 try dsimp only at h1
 rw[c1] at h1
 obtain⟨a1,r1,k1⟩:=el_3 _ _ _ h1 (by simp[hl])
 obtain⟨u0,u1,rfl⟩:∃ u0 u1,cs=[u0,u1]:=by match cs,hl with | [u0,u1],_=>exact⟨_,_,rfl⟩
 simp[e9] at r0
 simp[e3] at r1
 exact⟨⟨a0,a1⟩,by simp[e344, *],k1⟩
theorem zTP {H:Type} {enc:TypeId×Value→H} {W:World} {spare:Nat→Bool} {held:Bool} (n:Nat) (cs:List Value) (y:DataW H×List MemPlace) (h:DataW.trod enc Tryz.prog W 0 spare held n 331 cs=some y) (hl:cs.length=1):∃ a:List Sapi_Report,(p331 (ZW W) cs a)∧(a.length≤9223372036854775807∧∀ x∈a,kd344 x):=by
 obtain⟨ao,cap,l,rfl,hz,hL⟩:=y39 (Pr:=fun r x=>(r=e344 x)∧(kd344 x)) (sz:=2) Tryz.underlying331 (by kernel_rfl) (by decide) zTO h
 unfold maxLen at hL
 exact⟨l,⟨ao,cap,rfl,hz.weak (fun _ _ h=>h.1)⟩,⟨by omega,hz.all (q:=fun x=>kd344 x) (fun _ _ h=>h.2)⟩⟩
theorem zTQ {H:Type} {enc:TypeId×Value→H} {W:World} {spare:Nat→Bool} {held:Bool} (n:Nat) (cs:List Value) (y:DataW H×List MemPlace) (h:DataW.trod enc Tryz.prog W 0 spare held n 332 cs=some y) (hl:cs.length=1):∃ a:List ByteArray,(p332 (ZW W) cs a)∧(a.length≤9223372036854775807):=by
 obtain⟨ao,cap,l,rfl,hz,hL⟩:=y39 (Pr:=fun r x=>(r=e9 x)∧(True)) (sz:=1) Tryz.underlying332 (by kernel_rfl) (by decide) el_9 h
 unfold maxLen at hL
 exact⟨l,⟨ao,cap,rfl,hz.weak (fun _ _ h=>h.1)⟩,by omega⟩
theorem zTR {H:Type} {enc:TypeId×Value→H} {W:World} {spare:Nat→Bool} {held:Bool} (n:Nat) (cs:List Value) (y:DataW H×List MemPlace) (h:DataW.trod enc Tryz.prog W 0 spare held n 334 cs=some y) (hl:cs.length=3):∃ a:Sapi_Cause,(y4N (ZW W) cs a)∧(kd334 a):=by
 obtain⟨y0,m0,h0⟩:=yx 0 Tryz.underlying334 h rfl
 have c0:Tryz.prog.cellsOf 9=1:=by kernel_rfl
 try dsimp only at h0
 rw[c0] at h0
 obtain⟨a0,r0,k0⟩:=el_9 _ _ _ h0 (by simp[hl])
 obtain⟨y1,m1,h1⟩:=yx 1 Tryz.underlying334 h rfl
 have c1:Tryz.prog.cellsOf 331=1:=by kernel_rfl
 try dsimp only at h1
 rw[c1] at h1
 obtain⟨a1,r1,k1⟩:=zTP _ _ _ h1 (by simp[hl])
 obtain⟨y2,m2,h2⟩:=yx 2 Tryz.underlying334 h rfl
 have c2:Tryz.prog.cellsOf 332=1:=by kernel_rfl
 try dsimp only at h2
 rw[c2] at h2
 obtain⟨a2,r2,k2⟩:=zTQ _ _ _ h2 (by simp[hl])
 obtain⟨u0,u1,u2,rfl⟩:∃ u0 u1 u2,cs=[u0,u1,u2]:=by match cs,hl with | [u0,u1,u2],_=>exact⟨_,_,_,rfl⟩
 simp[e9] at r0
 obtain⟨ao1x0,cp1x0,r1,z1x0⟩:=r1
 simp at r1
 obtain⟨ao2x0,cp2x0,r2,z2x0⟩:=r2
 simp at r2
 refine⟨⟨a0,a1,a2⟩,⟨ao1x0,cp1x0,ao2x0,cp2x0,by simp[*],z1x0,z2x0⟩,⟨k1,k2⟩⟩
theorem el_28 {H:Type} {enc:TypeId×Value→H} {W:World} {spare:Nat→Bool} {held:Bool} (n:Nat) (cs:List Value) (y:DataW H×List MemPlace) (h:DataW.trod enc Tryz.prog W 0 spare held n 28 cs=some y) (hl:cs.length=1):∃ a:List Sapi_Cause,(p28 (ZW W) cs a)∧(a.length≤9223372036854775807∧∀ x∈a,kd334 x):=by
 obtain⟨ao,cap,l,rfl,hz,hL⟩:=y39 (Pr:=fun r x=>(y4N (ZW W) r x)∧(kd334 x)) (sz:=3) Tryz.underlying28 (by kernel_rfl) (by decide) zTR h
 unfold maxLen at hL
 exact⟨l,⟨ao,cap,rfl,hz.weak (fun _ _ h=>h.1)⟩,⟨by omega,hz.all (q:=fun x=>kd334 x) (fun _ _ h=>h.2)⟩⟩
theorem zTS {H:Type} {enc:TypeId×Value→H} {W:World} {spare:Nat→Bool} {held:Bool} (n:Nat) (cs:List Value) (y:DataW H×List MemPlace) (h:DataW.trod enc Tryz.prog W 0 spare held n 336 cs=some y) (hl:cs.length=4):∃ a:Sapi_Version,(cs=y50 a)∧(kd336 a):=by
 obtain⟨y0,m0,h0⟩:=yx 0 Tryz.underlying336 h rfl
 have c0:Tryz.prog.cellsOf 9=1:=by kernel_rfl
 try dsimp only at h0
 rw[c0] at h0
 obtain⟨a0,r0,k0⟩:=el_9 _ _ _ h0 (by simp[hl])
 obtain⟨y1,m1,h1⟩:=yx 1 Tryz.underlying336 h rfl
 have c1:Tryz.prog.cellsOf 3=1:=by kernel_rfl
 try dsimp only at h1
 rw[c1] at h1
 obtain⟨a1,r1,k1⟩:=el_3 _ _ _ h1 (by simp[hl])
 obtain⟨y2,m2,h2⟩:=yx 2 Tryz.underlying336 h rfl
 have c2:Tryz.prog.cellsOf 9=1:=by kernel_rfl
 try dsimp only at h2
 rw[c2] at h2
 obtain⟨a2,r2,k2⟩:=el_9 _ _ _ h2 (by simp[hl])
 obtain⟨y3,m3,h3⟩:=yx 3 Tryz.underlying336 h rfl
 have c3:Tryz.prog.cellsOf 3=1:=by kernel_rfl
 try dsimp only at h3
 rw[c3] at h3
 obtain⟨a3,r3,k3⟩:=el_3 _ _ _ h3 (by simp[hl])
 obtain⟨u0,u1,u2,u3,rfl⟩:∃ u0 u1 u2 u3,cs=[u0,u1,u2,u3]:=by match cs,hl with | [u0,u1,u2,u3],_=>exact⟨_,_,_,_,rfl⟩
 simp[e9] at r0
 simp[e3] at r1
 simp[e9] at r2
 simp[e3] at r3
 exact⟨⟨a0,a1,a2,a3⟩,by simp[y50, *],⟨k1,k3⟩⟩
theorem el_29 {H:Type} {enc:TypeId×Value→H} {W:World} {spare:Nat→Bool} {held:Bool} (n:Nat) (cs:List Value) (y:DataW H×List MemPlace) (h:DataW.trod enc Tryz.prog W 0 spare held n 29 cs=some y) (hl:cs.length=1):∃ a:List Sapi_Version,(p29 (ZW W) cs a)∧(a.length≤9223372036854775807∧∀ x∈a,kd336 x):=by
 obtain⟨ao,cap,l,rfl,hz,hL⟩:=y39 (Pr:=fun r x=>(r=y50 x)∧(kd336 x)) (sz:=4) Tryz.underlying29 (by kernel_rfl) (by decide) zTS h
 unfold maxLen at hL
 exact⟨l,⟨ao,cap,rfl,hz.weak (fun _ _ h=>h.1)⟩,⟨by omega,hz.all (q:=fun x=>kd336 x) (fun _ _ h=>h.2)⟩⟩
theorem el_31 {H:Type} {enc:TypeId×Value→H} {W:World} {spare:Nat→Bool} {held:Bool} (n:Nat) (cs:List Value) (y:DataW H×List MemPlace) (h:DataW.trod enc Tryz.prog W 0 spare held n 31 cs=some y) (hl:cs.length=8):∃ a:zB,(p31 (ZW W) cs a)∧(kd31 a):=by
 obtain⟨y0,m0,h0⟩:=yx 0 Tryz.underlying31 h rfl
 have c0:Tryz.prog.cellsOf 22=1:=by kernel_rfl
 try dsimp only at h0
 rw[c0] at h0
 obtain⟨a0,r0,k0⟩:=el_22 _ _ _ h0 (by simp[hl])
 obtain⟨y1,m1,h1⟩:=yx 1 Tryz.underlying31 h rfl
 have c1:Tryz.prog.cellsOf 23=1:=by kernel_rfl
 try dsimp only at h1
 rw[c1] at h1
 obtain⟨a1,r1,k1⟩:=el_23 _ _ _ h1 (by simp[hl])
 obtain⟨y2,m2,h2⟩:=yx 2 Tryz.underlying31 h rfl
 have c2:Tryz.prog.cellsOf 24=1:=by kernel_rfl
 try dsimp only at h2
 rw[c2] at h2
 obtain⟨a2,r2,k2⟩:=el_24 _ _ _ h2 (by simp[hl])
 obtain⟨y3,m3,h3⟩:=yx 3 Tryz.underlying31 h rfl
 have c3:Tryz.prog.cellsOf 25=1:=by kernel_rfl
 try dsimp only at h3
 rw[c3] at h3
 obtain⟨a3,r3,k3⟩:=el_25 _ _ _ h3 (by simp[hl])
 obtain⟨y4,m4,h4⟩:=yx 4 Tryz.underlying31 h rfl
 have c4:Tryz.prog.cellsOf 26=1:=by kernel_rfl
 try dsimp only at h4
 rw[c4] at h4
 obtain⟨a4,r4,k4⟩:=el_26 _ _ _ h4 (by simp[hl])
 obtain⟨y5,m5,h5⟩:=yx 5 Tryz.underlying31 h rfl
 have c5:Tryz.prog.cellsOf 27=1:=by kernel_rfl
 try dsimp only at h5
 rw[c5] at h5
 obtain⟨a5,r5,k5⟩:=el_27 _ _ _ h5 (by simp[hl])
 obtain⟨y6,m6,h6⟩:=yx 6 Tryz.underlying31 h rfl
 have c6:Tryz.prog.cellsOf 28=1:=by kernel_rfl
 try dsimp only at h6
 rw[c6] at h6
 obtain⟨a6,r6,k6⟩:=el_28 _ _ _ h6 (by simp[hl])
 obtain⟨y7,m7,h7⟩:=yx 7 Tryz.underlying31 h rfl
 have c7:Tryz.prog.cellsOf 29=1:=by kernel_rfl
 try dsimp only at h7
 rw[c7] at h7
 obtain⟨a7,r7,k7⟩:=el_29 _ _ _ h7 (by simp[hl])
 obtain⟨u0,u1,u2,u3,u4,u5,u6,u7,rfl⟩:∃ u0 u1 u2 u3 u4 u5 u6 u7,cs=[u0,u1,u2,u3,u4,u5,u6,u7]:=by match cs,hl with | [u0,u1,u2,u3,u4,u5,u6,u7],_=>exact⟨_,_,_,_,_,_,_,_,rfl⟩
 obtain⟨ao0x0,cp0x0,r0,z0x0⟩:=r0
 simp at r0
 obtain⟨ao1x0,cp1x0,r1,z1x0⟩:=r1
 simp at r1
 obtain⟨ao2x0,cp2x0,r2,z2x0⟩:=r2
 simp at r2
 obtain⟨ao3x0,cp3x0,r3,z3x0⟩:=r3
 simp at r3
 obtain⟨ao4x0,cp4x0,r4,z4x0⟩:=r4
 simp at r4
 obtain⟨ao5x0,cp5x0,r5,z5x0⟩:=r5
 simp at r5
 obtain⟨ao6x0,cp6x0,r6,z6x0⟩:=r6
 simp at r6
 obtain⟨ao7x0,cp7x0,r7,z7x0⟩:=r7
 simp at r7
 refine⟨⟨a0,a1,a2,a3,a4,a5,a6,a7⟩,⟨ao0x0,cp0x0,ao1x0,cp1x0,ao2x0,cp2x0,ao3x0,cp3x0,ao4x0,cp4x0,ao5x0,cp5x0,ao6x0,cp6x0,ao7x0,cp7x0,by simp[*],z0x0,z1x0,z2x0,z3x0,z4x0,z5x0,z6x0,z7x0⟩,⟨k0,k1,k2,k3,k4,k5,k6,k7⟩⟩
theorem el_62 {H:Type} {enc:TypeId×Value→H} {W:World} {spare:Nat→Bool} {held:Bool} (n:Nat) (cs:List Value) (y:DataW H×List MemPlace) (h:DataW.trod enc Tryz.prog W 0 spare held n 62 cs=some y) (hl:cs.length=3):∃ a:zd,(cs=e62 a)∧(kd62 a):=by
 obtain⟨y0,m0,h0⟩:=yx 0 Tryz.underlying62 h rfl
 have c0:Tryz.prog.cellsOf 3=1:=by kernel_rfl
 try dsimp only at h0
 rw[c0] at h0
 obtain⟨a0,r0,k0⟩:=el_3 _ _ _ h0 (by simp[hl])
 obtain⟨y1,m1,h1⟩:=yx 1 Tryz.underlying62 h rfl
 have c1:Tryz.prog.cellsOf 3=1:=by kernel_rfl
 try dsimp only at h1
 rw[c1] at h1
 obtain⟨a1,r1,k1⟩:=el_3 _ _ _ h1 (by simp[hl])
 obtain⟨y2,m2,h2⟩:=yx 2 Tryz.underlying62 h rfl
 have c2:Tryz.prog.cellsOf 3=1:=by kernel_rfl
 try dsimp only at h2
 rw[c2] at h2
 obtain⟨a2,r2,k2⟩:=el_3 _ _ _ h2 (by simp[hl])
 obtain⟨u0,u1,u2,rfl⟩:∃ u0 u1 u2,cs=[u0,u1,u2]:=by match cs,hl with | [u0,u1,u2],_=>exact⟨_,_,_,rfl⟩
 simp[e3] at r0
 simp[e3] at r1
 simp[e3] at r2
 exact⟨⟨a0,a1,a2⟩,by simp[e62, *],⟨k0,k1,k2⟩⟩
theorem el_48 {H:Type} {enc:TypeId×Value→H} {W:World} {spare:Nat→Bool} {held:Bool} (n:Nat) (cs:List Value) (y:DataW H×List MemPlace) (h:DataW.trod enc Tryz.prog W 0 spare held n 48 cs=some y) (hl:cs.length=1):∃ a:List zd,(p48 (ZW W) cs a)∧(a.length≤9223372036854775807∧∀ x∈a,kd62 x):=by
 obtain⟨ao,cap,l,rfl,hz,hL⟩:=y39 (Pr:=fun r x=>(r=e62 x)∧(kd62 x)) (sz:=3) Tryz.underlying48 (by kernel_rfl) (by decide) el_62 h
 unfold maxLen at hL
 exact⟨l,⟨ao,cap,rfl,hz.weak (fun _ _ h=>h.1)⟩,⟨by omega,hz.all (q:=fun x=>kd62 x) (fun _ _ h=>h.2)⟩⟩
theorem own:ownKnob Tryz.prog.godebug=none:=by kernel_rfl
theorem laid:laidOutB Tryz.prog=true:=by kernel_rfl
set_option maxRecDepth 100000 in
theorem lifted (os:Os) (started:os.Started) (H:Type) (enc:TypeId×Value→H):
  ReturnsInHanded {} Tryz.checked os 3 .any (Rows.boundLessSpec.pre6 enc Tryz.prog Tryz.f3 Rows.boundLessRow.domain false) (Rows.boundLessSpec.post enc Tryz.prog Tryz.f3 false true false false):=by
 refine returnsInHanded_of_change (C:=Tryz.checked) own started (by kernel_rfl) Tryz.func3
  (ChangeSpec.witness6 (enc:=enc) (C:=Tryz.checked) false ⟨#[],#[(.agg #[.slice none 0 0,.slice none 0 0,.slice none 0 0,.slice none 0 0,.slice none 0 0,.slice none 0 0,.slice none 0 0,.slice none 0 0]),.int .i64 0,.slice none 0 0,.int .u8 0,.int .u8 0,.int .u8 0],[]⟩ 8 (by kernel_rfl) (by kernel_rfl) (by kernel_rfl) (by kernel_rfl)) ?_
 intro W base args ds gs before hval0 hW hcnd _
 have hval:∀(j:Nat) t v,Tryz.f3.params[j]?=some t→args[j]?=some v→Value.okWide Tryz.prog W .any base t v:=hval0
 have hW':=hW
 obtain⟨p,q,hA0,hV,rfl,hfz,hnd⟩:=hW
 have hA:DataW.TrodAll enc Tryz.prog W 0 (fun _=>true) true Tryz.f3.params.toList args.toList ds p:=hA0
 rw[Tryz.params3] at hA hval
 obtain⟨v0,vs0,d0,ds0,p0,q0,hargs,rfl,rfl,h0,r0⟩:=trodAll_cons hA
 obtain⟨v1,vs1,d1,ds1,p1,q1,rfl,rfl,rfl,h1,r1⟩:=trodAll_cons r0
 obtain⟨v2,vs2,d2,ds2,p2,q2,rfl,rfl,rfl,h2,r2⟩:=trodAll_cons r1
 obtain⟨v3,vs3,d3,ds3,p3,q3,rfl,rfl,rfl,h3,r3⟩:=trodAll_cons r2
 obtain⟨v4,vs4,d4,ds4,p4,q4,rfl,rfl,rfl,h4,r4⟩:=trodAll_cons r3
 obtain⟨v5,vs5,d5,ds5,p5,q5,rfl,rfl,rfl,h5,r5⟩:=trodAll_cons r4
 obtain⟨rfl,rfl,rfl⟩:=trodAll_nil r5
 obtain rfl:args = #[v0,v1,v2,v3,v4,v5]:=by cases args;simp_all
 obtain⟨rfl,rfl⟩:=trodVars_none hV
 obtain⟨fuel0,hf0⟩:=h0
 obtain⟨cs0,rfl,hl0,hg0⟩:=agg_of (hval 0 31 v0 rfl rfl) hf0 Tryz.underlying31 (show Tryz.prog.cellsOf 31=8 by kernel_rfl)
 obtain⟨x0,hr0,bd0⟩:=el_31 _ _ _ hg0 hl0
 obtain⟨ao0x0,cp0x0,ao0x1,cp0x1,ao0x2,cp0x2,ao0x3,cp0x3,ao0x4,cp0x4,ao0x5,cp0x5,ao0x6,cp0x6,ao0x7,cp0x7,rfl,z0x0,z0x1,z0x2,z0x3,z0x4,z0x5,z0x6,z0x7⟩:=hr0
 obtain⟨x1,rfl,hd1,hp1,wf1⟩:=open_int Tryz.underlying3 (hval 1 3 v1 rfl rfl) h1
 have bd1:=Go.bounds_i64 wf1
 obtain⟨ao2,m2,cap2,x2,rfl,hs2,hL2⟩:=open_sl (Pr:=fun r x=>(p48 (ZW W) r x)∧(x.length≤9223372036854775807∧∀ y∈x,kd62 y)) (sz:=1) Tryz.underlying32 (by kernel_rfl) (by decide) el_48 (hval 2 32 v2 rfl rfl) h2
 unfold maxLen at hL2
 obtain⟨rfl,hz2⟩:=yem hs2
 have bd2:=hz2.all (q:=fun x=>x.length≤9223372036854775807∧∀ y∈x,kd62 y) (fun _ _ h=>h.2)
 replace hz2:=hz2.weak (Pr':=(p48 (ZW W))) (fun _ _ h=>h.1)
 obtain⟨x3,rfl,hd3,hp3,wf3⟩:=open_int Tryz.underlying5 (hval 3 5 v3 rfl rfl) h3
 have bd3:=Go.bounds_u8 wf3
 obtain⟨x4,rfl,hd4,hp4,wf4⟩:=open_int Tryz.underlying5 (hval 4 5 v4 rfl rfl) h4
 have bd4:=Go.bounds_u8 wf4
 obtain⟨x5,rfl,hd5,hp5,wf5⟩:=open_int Tryz.underlying5 (hval 5 5 v5 rfl rfl) h5
 have bd5:=Go.bounds_u8 wf5
 have htrue:=law x0 x1 x2 x3 x4 x5 bd3 bd4 bd5
 refine(ycz (Z:=ZW W) (z12:=ao0x0) (z13:=cp0x0) (z14:=ao0x1) (z15:=cp0x1) (z16:=ao0x2) (z17:=cp0x2) (z18:=ao0x3) (z19:=cp0x3) (z2m:=ao0x4) (z2n:=cp0x4) (z1a:=ao0x5) (z1b:=cp0x5) (z1c:=ao0x6) (z1d:=cp0x6) (z1e:=ao0x7) (z1f:=cp0x7) (z3M:=ao2) (z3N:=cap2) (z6:=x0) (z3q:=x1) (zM:=x2) (zs:=x3) (z4M:=x4) (z4L:=x5) (r:=true) htrue W (ZW_pz W) z0x0 z0x1 z0x2 z0x3 z0x4 z0x5 z0x6 z0x7 hz2).mono fun e W' ⟨he,hh⟩=>?_
 subst he
 exact⟨_,rfl,yhf laid (by kernel_rfl) rfl rfl Tryz.underlying4 hW' (fun _=>⟨rfl,rfl,rfl⟩) hh.below⟩
theorem over:Rows.boundLessRow.holds Tryz.pinned (OpenSpec.ofChange Rows.boundLessSpec):=
 OpenClaim.holds_of_wide 3 Tryz.f3 rfl rfl rfl rfl rfl rfl rfl ⟨rfl,rfl,rfl,rfl,rfl⟩ rfl rfl rfl rfl rfl (by kernel_rfl) Tryz.func3 (by kernel_rfl)
  (of_decide_eq_true (by kernel_rfl)) (by unfold Func.isWrapper;first | (rw[if_pos (by decide +kernel)];kernel_rfl) | (rw[if_neg (by decide +kernel)];exact⟨rfl,rfl⟩))
  (fun os started H enc _=>lifted os started H enc)
theorem proved:Rows.BoundLessSaid:=over
#print axioms proved
end Go.Proofs.YtcahmabkeaijdaaGreat.boundLess
