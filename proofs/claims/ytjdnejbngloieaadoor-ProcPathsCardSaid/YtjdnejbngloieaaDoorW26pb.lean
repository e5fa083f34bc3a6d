/- A part of this claim's proof: models of functions, walks, plain laws. No conditions. -/
import Derived.Test.YtjdnejbngloieaaDoorW26pa
namespace Go.Proofs.YtjdnejbngloieaaDoor
open Go Go.RowKit Sep
set_option linter.all false
set_option maxRecDepth 30000
set_option maxHeartbeats 4000000
def y2u (ze : Sproc_execution) : Option Sproc_execution :=
 (yk ze ze.fX.fA).bind fun zk1=>chk ((0 : Int) ≤ ze.fX.fA ∧ ze.fX.fA < 4) ((yk ze ze.fX.fB).bind fun zk2=>chk ((0 : Int) ≤ ze.fX.fB ∧ ze.fX.fB < 4) (if decide ((nth ([ze.fState.fRegs.a0,ze.fState.fRegs.a1,ze.fState.fRegs.a2,ze.fState.fRegs.a3] : List Int) ze.fX.fA) < (nth ([ze.fState.fRegs.a0,ze.fState.fRegs.a1,ze.fState.fRegs.a2,ze.fState.fRegs.a3] : List Int) ze.fX.fB)) then some (⟨(⟨ze.fX.fC,ze.fState.fLeft,ze.fState.fRegs⟩ : Sproc_State),ze.fX,ze.fMem,ze.fAct⟩ : Sproc_execution) else some ze))
set_option maxRecDepth 20000 in
theorem y4S (Z : Zp) (z4m : Nat) (z4n : Option Addr) (z4o : Nat) (z4p : Option Addr) (z4q : Nat) (ze : Sproc_execution) (r : Sproc_execution)
  (h : y2u ze = some r) (w₀ : World) (hz : PZ (fps [stb z4m 65 [(.int .i64 ze.fState.fPc),(.int .i64 ze.fState.fLeft),(.int .u8 ze.fState.fRegs.a0),(.int .u8 ze.fState.fRegs.a1),(.int .u8 ze.fState.fRegs.a2),(.int .u8 ze.fState.fRegs.a3),(.int .u8 ze.fX.fOp),(.int .i64 ze.fX.fA),(.int .i64 ze.fX.fB),(.int .i64 ze.fX.fC),(.slice z4n ze.fMem.length z4o),(.int .u8 ze.fAct.fKind),(.int .i64 ze.fAct.fA),(.int .i64 ze.fAct.fB),(.slice z4p ze.fAct.fData.length z4q)]]) w₀ Z)
  (z9d : ZS Z 1 (fun r x=>r = e5 x) z4n z4o ze.fMem)
  (z9e : ZS Z 1 (fun r x=>r = e5 x) z4p z4q ze.fAct.fData)
  (hown : Hp (fps [stb z4m 65 [(.int .i64 ze.fState.fPc),(.int .i64 ze.fState.fLeft),(.int .u8 ze.fState.fRegs.a0),(.int .u8 ze.fState.fRegs.a1),(.int .u8 ze.fState.fRegs.a2),(.int .u8 ze.fState.fRegs.a3),(.int .u8 ze.fX.fOp),(.int .i64 ze.fX.fA),(.int .i64 ze.fX.fB),(.int .i64 ze.fX.fC),(.slice z4n ze.fMem.length z4o),(.int .u8 ze.fAct.fKind),(.int .i64 ze.fAct.fA),(.int .i64 ze.fAct.fB),(.slice z4p ze.fAct.fData.length z4q)]]) w₀ w₀ [stb z4m 65 [(.int .i64 ze.fState.fPc),(.int .i64 ze.fState.fLeft),(.int .u8 ze.fState.fRegs.a0),(.int .u8 ze.fState.fRegs.a1),(.int .u8 ze.fState.fRegs.a2),(.int .u8 ze.fState.fRegs.a3),(.int .u8 ze.fX.fOp),(.int .i64 ze.fX.fA),(.int .i64 ze.fX.fB),(.int .i64 ze.fX.fC),(.slice z4n ze.fMem.length z4o),(.int .u8 ze.fAct.fKind),(.int .i64 ze.fAct.fA),(.int .i64 ze.fAct.fB),(.slice z4p ze.fAct.fData.length z4q)]]) :
  Calls Tryd.prog 104 #[(.pointer (some ⟨z4m,0,none⟩))] w₀ fun e w'=>∃ zfk : Option Addr,∃ zfl : Nat,∃ zfm : Option Addr,∃ zfn : Nat,e = .returned (.tuple #[]) ∧ ((ZS Z 1 (fun r x=>r = e5 x) zfk zfl r.fMem) ∧ (ZS Z 1 (fun r x=>r = e5 x) zfm zfn r.fAct.fData)) ∧ Hp (fps [stb z4m 65 [(.int .i64 ze.fState.fPc),(.int .i64 ze.fState.fLeft),(.int .u8 ze.fState.fRegs.a0),(.int .u8 ze.fState.fRegs.a1),(.int .u8 ze.fState.fRegs.a2),(.int .u8 ze.fState.fRegs.a3),(.int .u8 ze.fX.fOp),(.int .i64 ze.fX.fA),(.int .i64 ze.fX.fB),(.int .i64 ze.fX.fC),(.slice z4n ze.fMem.length z4o),(.int .u8 ze.fAct.fKind),(.int .i64 ze.fAct.fA),(.int .i64 ze.fAct.fB),(.slice z4p ze.fAct.fData.length z4q)]]) w₀ w' [stb z4m 65 [(.int .i64 r.fState.fPc),(.int .i64 r.fState.fLeft),(.int .u8 r.fState.fRegs.a0),(.int .u8 r.fState.fRegs.a1),(.int .u8 r.fState.fRegs.a2),(.int .u8 r.fState.fRegs.a3),(.int .u8 r.fX.fOp),(.int .i64 r.fX.fA),(.int .i64 r.fX.fB),(.int .i64 r.fX.fC),(.slice zfk r.fMem.length zfl),(.int .u8 r.fAct.fKind),(.int .i64 r.fAct.fA),(.int .i64 r.fAct.fB),(.slice zfm r.fAct.fData.length zfn)]]:=by
 unfold y2u at h
 refine Calls.ya (vs:=[(.pointer (some ⟨z4m,0,none⟩))]) (pre:=[stb z4m 65 [(.int .i64 ze.fState.fPc),(.int .i64 ze.fState.fLeft),(.int .u8 ze.fState.fRegs.a0),(.int .u8 ze.fState.fRegs.a1),(.int .u8 ze.fState.fRegs.a2),(.int .u8 ze.fState.fRegs.a3),(.int .u8 ze.fX.fOp),(.int .i64 ze.fX.fA),(.int .i64 ze.fX.fB),(.int .i64 ze.fX.fC),(.slice z4n ze.fMem.length z4o),(.int .u8 ze.fAct.fKind),(.int .i64 ze.fAct.fA),(.int .i64 ze.fAct.fB),(.slice z4p ze.fAct.fData.length z4q)]]) (env:=[(0,(.pointer (some ⟨z4m,0,none⟩)))]) Tryd.func104 rfl Tryd.ntmps104 rfl (hown) rfl ?_
 refine WC.b ?_
 obtain ⟨zk1,zk3,h⟩:=zd h
 obtain ⟨zk4,h⟩:=yb h
 obtain ⟨zk2,zk5,h⟩:=zd h
 obtain ⟨zk6,h⟩:=yb h
 refine WC.y1j (fun i=>[].contains i) [] rfl ?_
 refine WD.a (i:=0) (d:=2) (by kernel_rfl) rfl z1 z2 rfl rfl rfl (fun _=>q_m rfl) ?_
 refine WD.a (i:=1) (d:=3) (by kernel_rfl) rfl z1 z2 rfl rfl rfl (fun _=>q_m rfl) ?_
 refine WD.a (i:=2) (d:=4) (by kernel_rfl) rfl z1 z2 rfl rfl rfl (fun _=>y9 rfl) ?_
 refine WD.a (i:=3) (d:=5) (by kernel_rfl) rfl z1 z2 rfl rfl rfl (fun _=>y4 yM rfl rfl) ?_
 refine WD.a (i:=4) (d:=6) (by kernel_rfl) rfl z1 z2 rfl rfl rfl (fun _=>y4 y1p rfl rfl) ?_
 refine WD.e (i:=5) (d:=7) (by kernel_rfl) rfl z1 z2 rfl rfl rfl (y6 yh rfl (yi .here rfl)) ?_
 refine WD.c (i:=6) (d:=8) (by kernel_rfl) rfl z1 z2 rfl rfl rfl (zm (l:=[.tmp 2,.tmp 7]) Tryd.call108 (.cons rfl (.cons rfl .nil))) (ccl hz .nil (.cons .here .nil) fun w pz ho la=>yn _ _ _ _ _ _ _ _ _ zk3 w pz (z9d.mono (Zle.left _ _)) (z9e.mono (Zle.left _ _)) ((la _ (.head _) _).stb)) ?_
 refine WD.a (i:=7) (d:=9) (by kernel_rfl) rfl z1 z2 rfl rfl rfl (fun _=>y9 rfl) ?_
 refine WD.e (i:=8) (d:=10) (by kernel_rfl) rfl z1 z2 rfl rfl rfl (y6 yP rfl (y1Q (l:=([ze.fState.fRegs.a0,ze.fState.fRegs.a1,ze.fState.fRegs.a2,ze.fState.fRegs.a3] : List Int)) (f:=Value.int .u8) (k:=2) (m:=6) .here rfl rfl zk4)) ?_
 refine WD.a (i:=9) (d:=11) (by kernel_rfl) rfl z1 z2 rfl rfl rfl (fun _=>q_m rfl) ?_
 refine WD.a (i:=10) (d:=12) (by kernel_rfl) rfl z1 z2 rfl rfl rfl (fun _=>q_m rfl) ?_
 refine WD.a (i:=11) (d:=13) (by kernel_rfl) rfl z1 z2 rfl rfl rfl (fun _=>y9 rfl) ?_
 refine WD.a (i:=12) (d:=14) (by kernel_rfl) rfl z1 z2 rfl rfl rfl (fun _=>y4 yM rfl rfl) ?_
 refine WD.a (i:=13) (d:=15) (by kernel_rfl) rfl z1 z2 rfl rfl rfl (fun _=>y4 y1J rfl rfl) ?_
 refine WD.e (i:=14) (d:=16) (by kernel_rfl) rfl z1 z2 rfl rfl rfl (y6 yh rfl (yi .here rfl)) ?_
 refine WD.c (i:=15) (d:=17) (by kernel_rfl) rfl z1 z2 rfl rfl rfl (zm (l:=[.tmp 11,.tmp 16]) Tryd.call108 (.cons rfl (.cons rfl .nil))) (ccl hz .nil (.cons .here .nil) fun w pz ho la=>yn _ _ _ _ _ _ _ _ _ zk5 w pz (z9d.mono (Zle.left _ _)) (z9e.mono (Zle.left _ _)) ((la _ (.head _) _).stb)) ?_
 refine WD.a (i:=16) (d:=18) (by kernel_rfl) rfl z1 z2 rfl rfl rfl (fun _=>y9 rfl) ?_
 refine WD.e (i:=17) (d:=19) (by kernel_rfl) rfl z1 z2 rfl rfl rfl (y6 yP rfl (y1Q (l:=([ze.fState.fRegs.a0,ze.fState.fRegs.a1,ze.fState.fRegs.a2,ze.fState.fRegs.a3] : List Int)) (f:=Value.int .u8) (k:=2) (m:=6) .here rfl rfl zk6)) ?_
 refine WD.a (i:=18) (d:=20) (by kernel_rfl) rfl z1 z2 rfl rfl rfl (fun _=>q_lss rfl rfl) ?_
 refine WD.done (by kernel_rfl) ?_
 refine WX.a ?_
 refine WC.cond rfl (fun zaI=>?_) (fun zaI=>?_)
 ·replace h:=yc h zaI
  refine WC.a (WL.pu rfl (WL.pu rfl ?_))
  refine WL.a (d:=23) rfl rfl rfl (y9 rfl) ?_
  refine WL.a (d:=24) rfl rfl rfl (y4 yM rfl rfl) ?_
  refine WL.a (d:=25) rfl rfl rfl (y4 y3L rfl rfl) ?_
  refine WL.a (d:=26) rfl rfl rfl (y6 yh rfl (yi .here rfl)) ?_
  refine WL.a (d:=27) rfl rfl rfl (y9 rfl) ?_
  refine WL.a (d:=28) rfl rfl rfl (y4 y1x rfl rfl) ?_
  refine WL.a (d:=29) rfl rfl rfl (y4 y2T rfl rfl) ?_
  refine WL.yq rfl rfl (y1E (ds:=[(.int .i64 ze.fX.fC),(.int .i64 ze.fState.fLeft),(.int .u8 ze.fState.fRegs.a0),(.int .u8 ze.fState.fRegs.a1),(.int .u8 ze.fState.fRegs.a2),(.int .u8 ze.fState.fRegs.a3),(.int .u8 ze.fX.fOp),(.int .i64 ze.fX.fA),(.int .i64 ze.fX.fB),(.int .i64 ze.fX.fC),(.slice z4n ze.fMem.length z4o),(.int .u8 ze.fAct.fKind),(.int .i64 ze.fAct.fA),(.int .i64 ze.fAct.fB),(.slice z4p ze.fAct.fData.length z4q)]) y36 rfl rfl rfl rfl rfl .here rfl rfl) ?_
  refine WL.nil ?_
  obtain rfl:=Option.some.inj h
  refine WX.yl Tryd.results104 .nil (fun w hw=>?_)
  exact ⟨z4n,z4o,z4p,z4q,y1m,⟨z9d,z9e⟩,hw.sub (.cons .here .nil)⟩
 ·replace h:=yd h zaI
  refine WC.skip ?_
  obtain rfl:=Option.some.inj h
  refine WX.yl Tryd.results104 .nil (fun w hw=>?_)
  exact ⟨z4n,z4o,z4p,z4q,y1m,⟨z9d,z9e⟩,hw.sub (.cons .here .nil)⟩
def y2J (z6 : Sproc_execution) : Option Sproc_execution :=
 (yk z6 z6.fX.fB).bind fun zk7=>chk ((0 : Int) ≤ z6.fX.fB ∧ z6.fX.fB < 4) (if decide ((nth ([z6.fState.fRegs.a0,z6.fState.fRegs.a1,z6.fState.fRegs.a2,z6.fState.fRegs.a3] : List Int) z6.fX.fB) ≠ 0) then (yk z6 z6.fX.fA).bind fun zk8=>chk ((0 : Int) ≤ z6.fX.fA ∧ z6.fX.fA < 4) (chk ((nth ([z6.fState.fRegs.a0,z6.fState.fRegs.a1,z6.fState.fRegs.a2,z6.fState.fRegs.a3] : List Int) z6.fX.fB : Int) ≠ 0) (some (⟨(⟨z6.fState.fPc,z6.fState.fLeft,(⟨nth (([z6.fState.fRegs.a0,z6.fState.fRegs.a1,z6.fState.fRegs.a2,z6.fState.fRegs.a3] : List Int).set (z6.fX.fA : Int).toNat (u8 (Int.tdiv (nth ([z6.fState.fRegs.a0,z6.fState.fRegs.a1,z6.fState.fRegs.a2,z6.fState.fRegs.a3] : List Int) z6.fX.fA) (nth ([z6.fState.fRegs.a0,z6.fState.fRegs.a1,z6.fState.fRegs.a2,z6.fState.fRegs.a3] : List Int) z6.fX.fB)))) 0,nth (([z6.fState.fRegs.a0,z6.fState.fRegs.a1,z6.fState.fRegs.a2,z6.fState.fRegs.a3] : List Int).set (z6.fX.fA : Int).toNat (u8 (Int.tdiv (nth ([z6.fState.fRegs.a0,z6.fState.fRegs.a1,z6.fState.fRegs.a2,z6.fState.fRegs.a3] : List Int) z6.fX.fA) (nth ([z6.fState.fRegs.a0,z6.fState.fRegs.a1,z6.fState.fRegs.a2,z6.fState.fRegs.a3] : List Int) z6.fX.fB)))) 1,nth (([z6.fState.fRegs.a0,z6.fState.fRegs.a1,z6.fState.fRegs.a2,z6.fState.fRegs.a3] : List Int).set (z6.fX.fA : Int).toNat (u8 (Int.tdiv (nth ([z6.fState.fRegs.a0,z6.fState.fRegs.a1,z6.fState.fRegs.a2,z6.fState.fRegs.a3] : List Int) z6.fX.fA) (nth ([z6.fState.fRegs.a0,z6.fState.fRegs.a1,z6.fState.fRegs.a2,z6.fState.fRegs.a3] : List Int) z6.fX.fB)))) 2,nth (([z6.fState.fRegs.a0,z6.fState.fRegs.a1,z6.fState.fRegs.a2,z6.fState.fRegs.a3] : List Int).set (z6.fX.fA : Int).toNat (u8 (Int.tdiv (nth ([z6.fState.fRegs.a0,z6.fState.fRegs.a1,z6.fState.fRegs.a2,z6.fState.fRegs.a3] : List Int) z6.fX.fA) (nth ([z6.fState.fRegs.a0,z6.fState.fRegs.a1,z6.fState.fRegs.a2,z6.fState.fRegs.a3] : List Int) z6.fX.fB)))) 3⟩ : S34)⟩ : Sproc_State),z6.fX,z6.fMem,z6.fAct⟩ : Sproc_execution))) else (y1t z6 4 0).bind fun zaJ=>some zaJ)
set_option maxRecDepth 20000 in
theorem y5h (Z : Zp) (z4r : Nat) (z5r : Option Addr) (z5s : Nat) (z5t : Option Addr) (z5u : Nat) (z6 : Sproc_execution) (r : Sproc_execution)
  (h : y2J z6 = some r) (w₀ : World) (hz : PZ (fps [stb z4r 65 [(.int .i64 z6.fState.fPc),(.int .i64 z6.fState.fLeft),(.int .u8 z6.fState.fRegs.a0),(.int .u8 z6.fState.fRegs.a1),(.int .u8 z6.fState.fRegs.a2),(.int .u8 z6.fState.fRegs.a3),(.int .u8 z6.fX.fOp),(.int .i64 z6.fX.fA),(.int .i64 z6.fX.fB),(.int .i64 z6.fX.fC),(.slice z5r z6.fMem.length z5s),(.int .u8 z6.fAct.fKind),(.int .i64 z6.fAct.fA),(.int .i64 z6.fAct.fB),(.slice z5t z6.fAct.fData.length z5u)]]) w₀ Z)
  (z9f : ZS Z 1 (fun r x=>r = e5 x) z5r z5s z6.fMem)
  (z9g : ZS Z 1 (fun r x=>r = e5 x) z5t z5u z6.fAct.fData)
  (hown : Hp (fps [stb z4r 65 [(.int .i64 z6.fState.fPc),(.int .i64 z6.fState.fLeft),(.int .u8 z6.fState.fRegs.a0),(.int .u8 z6.fState.fRegs.a1),(.int .u8 z6.fState.fRegs.a2),(.int .u8 z6.fState.fRegs.a3),(.int .u8 z6.fX.fOp),(.int .i64 z6.fX.fA),(.int .i64 z6.fX.fB),(.int .i64 z6.fX.fC),(.slice z5r z6.fMem.length z5s),(.int .u8 z6.fAct.fKind),(.int .i64 z6.fAct.fA),(.int .i64 z6.fAct.fB),(.slice z5t z6.fAct.fData.length z5u)]]) w₀ w₀ [stb z4r 65 [(.int .i64 z6.fState.fPc),(.int .i64 z6.fState.fLeft),(.int .u8 z6.fState.fRegs.a0),(.int .u8 z6.fState.fRegs.a1),(.int .u8 z6.fState.fRegs.a2),(.int .u8 z6.fState.fRegs.a3),(.int .u8 z6.fX.fOp),(.int .i64 z6.fX.fA),(.int .i64 z6.fX.fB),(.int .i64 z6.fX.fC),(.slice z5r z6.fMem.length z5s),(.int .u8 z6.fAct.fKind),(.int .i64 z6.fAct.fA),(.int .i64 z6.fAct.fB),(.slice z5t z6.fAct.fData.length z5u)]]) :
  Calls Tryd.prog 105 #[(.pointer (some ⟨z4r,0,none⟩))] w₀ fun e w'=>∃ Zn : Zp,∃ zfo : Option Addr,∃ zfp : Nat,∃ zfq : Option Addr,∃ zfr : Nat,e = .returned (.tuple #[]) ∧ ((ZS (Z ++ Zn) 1 (fun r x=>r = e5 x) zfo zfp r.fMem) ∧ (ZS (Z ++ Zn) 1 (fun r x=>r = e5 x) zfq zfr r.fAct.fData)) ∧ Hp (fps [stb z4r 65 [(.int .i64 z6.fState.fPc),(.int .i64 z6.fState.fLeft),(.int .u8 z6.fState.fRegs.a0),(.int .u8 z6.fState.fRegs.a1),(.int .u8 z6.fState.fRegs.a2),(.int .u8 z6.fState.fRegs.a3),(.int .u8 z6.fX.fOp),(.int .i64 z6.fX.fA),(.int .i64 z6.fX.fB),(.int .i64 z6.fX.fC),(.slice z5r z6.fMem.length z5s),(.int .u8 z6.fAct.fKind),(.int .i64 z6.fAct.fA),(.int .i64 z6.fAct.fB),(.slice z5t z6.fAct.fData.length z5u)]]) w₀ w' [fz Zn,stb z4r 65 [(.int .i64 r.fState.fPc),(.int .i64 r.fState.fLeft),(.int .u8 r.fState.fRegs.a0),(.int .u8 r.fState.fRegs.a1),(.int .u8 r.fState.fRegs.a2),(.int .u8 r.fState.fRegs.a3),(.int .u8 r.fX.fOp),(.int .i64 r.fX.fA),(.int .i64 r.fX.fB),(.int .i64 r.fX.fC),(.slice zfo r.fMem.length zfp),(.int .u8 r.fAct.fKind),(.int .i64 r.fAct.fA),(.int .i64 r.fAct.fB),(.slice zfq r.fAct.fData.length zfr)]]:=by
 unfold y2J at h
 refine Calls.ya (vs:=[(.pointer (some ⟨z4r,0,none⟩))]) (pre:=[stb z4r 65 [(.int .i64 z6.fState.fPc),(.int .i64 z6.fState.fLeft),(.int .u8 z6.fState.fRegs.a0),(.int .u8 z6.fState.fRegs.a1),(.int .u8 z6.fState.fRegs.a2),(.int .u8 z6.fState.fRegs.a3),(.int .u8 z6.fX.fOp),(.int .i64 z6.fX.fA),(.int .i64 z6.fX.fB),(.int .i64 z6.fX.fC),(.slice z5r z6.fMem.length z5s),(.int .u8 z6.fAct.fKind),(.int .i64 z6.fAct.fA),(.int .i64 z6.fAct.fB),(.slice z5t z6.fAct.fData.length z5u)]]) (env:=[(0,(.pointer (some ⟨z4r,0,none⟩)))]) Tryd.func105 rfl Tryd.ntmps105 rfl (hown) rfl ?_
 refine WC.pool (WC.b ?_)
 obtain ⟨zk7,zk9,h⟩:=zd h
 obtain ⟨zka,h⟩:=yb h
 refine WC.a (WL.pu rfl (WL.pu rfl ?_))
 refine WL.a (d:=5) rfl rfl rfl (y9 rfl) ?_
 refine WL.a (d:=6) rfl rfl rfl (y4 yM rfl rfl) ?_
 refine WL.a (d:=7) rfl rfl rfl (y4 y1J rfl rfl) ?_
 refine WL.a (d:=8) rfl rfl rfl (y6 yh rfl (yi .h1 rfl)) ?_
 refine WL.b (dd:=9) rfl rfl rfl (zm (l:=[.tmp 3,.tmp 8]) Tryd.call108 (.cons rfl (.cons rfl .nil))) .nil (y2C hz .nil .here (.cons .h1 .nil) fun w pz ho la=>yn _ _ _ _ _ _ _ _ _ zk9 w pz ((z9f.mono (Zle.left _ _)).mono (Zle.left _ _)) ((z9g.mono (Zle.left _ _)).mono (Zle.left _ _)) ((la _ (.head _) _).stb)) ?_
 refine WL.a (d:=10) rfl rfl rfl (y9 rfl) ?_
 refine WL.a (d:=11) rfl rfl rfl (y6 yP rfl (y1Q (l:=([z6.fState.fRegs.a0,z6.fState.fRegs.a1,z6.fState.fRegs.a2,z6.fState.fRegs.a3] : List Int)) (f:=Value.int .u8) (k:=2) (m:=6) .h1 rfl rfl zka)) ?_
 refine WL.pu rfl (WL.nil (WX.a (WC.b (WC.a (WL.pu rfl (WL.pu rfl (WL.nil (WX.a ?_))))))))
 refine WC.cond rfl (fun zaK=>?_) (fun zaK=>?_)
 ·replace h:=yc h zaK
  obtain ⟨zk8,zkb,h⟩:=zd h
  obtain ⟨zfs,h⟩:=yb h
  obtain ⟨zkc,h⟩:=yb h
  refine WC.a (WL.pu rfl (WL.pu rfl ?_))
  refine WL.a (d:=16) rfl rfl rfl (y9 rfl) ?_
  refine WL.a (d:=17) rfl rfl rfl (y4 yM rfl rfl) ?_
  refine WL.a (d:=18) rfl rfl rfl (y4 y1p rfl rfl) ?_
  refine WL.a (d:=19) rfl rfl rfl (y6 yh rfl (yi .h1 rfl)) ?_
  refine WL.b (dd:=20) rfl rfl rfl (zm (l:=[.tmp 14,.tmp 19]) Tryd.call108 (.cons rfl (.cons rfl .nil))) .nil (y2C hz .nil .here (.cons .h1 .nil) fun w pz ho la=>yn _ _ _ _ _ _ _ _ _ zkb w pz ((z9f.mono (Zle.left _ _)).mono (Zle.left _ _)) ((z9g.mono (Zle.left _ _)).mono (Zle.left _ _)) ((la _ (.head _) _).stb)) ?_
  refine WL.a (d:=21) rfl rfl rfl (y9 rfl) ?_
  refine WL.a (d:=22) rfl rfl rfl (y6 yP rfl (y1Q (l:=([z6.fState.fRegs.a0,z6.fState.fRegs.a1,z6.fState.fRegs.a2,z6.fState.fRegs.a3] : List Int)) (f:=Value.int .u8) (k:=2) (m:=6) .h1 rfl rfl zfs)) ?_
  refine WL.pu rfl ?_
  refine WL.a (d:=24) rfl rfl rfl (q_quo rfl rfl zkc rfl) ?_
  refine WL.a (d:=25) rfl rfl rfl (y9 rfl) ?_
  refine WL.yq rfl rfl (y3B (l:=([z6.fState.fRegs.a0,z6.fState.fRegs.a1,z6.fState.fRegs.a2,z6.fState.fRegs.a3] : List Int)) (f:=Value.int .u8) (u:=u8 (Int.tdiv (nth ([z6.fState.fRegs.a0,z6.fState.fRegs.a1,z6.fState.fRegs.a2,z6.fState.fRegs.a3] : List Int) z6.fX.fA) (nth ([z6.fState.fRegs.a0,z6.fState.fRegs.a1,z6.fState.fRegs.a2,z6.fState.fRegs.a3] : List Int) z6.fX.fB))) (k:=2) (m:=6) (j:=4) (ds:=[(.int .i64 z6.fState.fPc),(.int .i64 z6.fState.fLeft),(.int .u8 (nth (([z6.fState.fRegs.a0,z6.fState.fRegs.a1,z6.fState.fRegs.a2,z6.fState.fRegs.a3] : List Int).set (z6.fX.fA : Int).toNat (u8 (Int.tdiv (nth ([z6.fState.fRegs.a0,z6.fState.fRegs.a1,z6.fState.fRegs.a2,z6.fState.fRegs.a3] : List Int) z6.fX.fA) (nth ([z6.fState.fRegs.a0,z6.fState.fRegs.a1,z6.fState.fRegs.a2,z6.fState.fRegs.a3] : List Int) z6.fX.fB)))) 0)),(.int .u8 (nth (([z6.fState.fRegs.a0,z6.fState.fRegs.a1,z6.fState.fRegs.a2,z6.fState.fRegs.a3] : List Int).set (z6.fX.fA : Int).toNat (u8 (Int.tdiv (nth ([z6.fState.fRegs.a0,z6.fState.fRegs.a1,z6.fState.fRegs.a2,z6.fState.fRegs.a3] : List Int) z6.fX.fA) (nth ([z6.fState.fRegs.a0,z6.fState.fRegs.a1,z6.fState.fRegs.a2,z6.fState.fRegs.a3] : List Int) z6.fX.fB)))) 1)),(.int .u8 (nth (([z6.fState.fRegs.a0,z6.fState.fRegs.a1,z6.fState.fRegs.a2,z6.fState.fRegs.a3] : List Int).set (z6.fX.fA : Int).toNat (u8 (Int.tdiv (nth ([z6.fState.fRegs.a0,z6.fState.fRegs.a1,z6.fState.fRegs.a2,z6.fState.fRegs.a3] : List Int) z6.fX.fA) (nth ([z6.fState.fRegs.a0,z6.fState.fRegs.a1,z6.fState.fRegs.a2,z6.fState.fRegs.a3] : List Int) z6.fX.fB)))) 2)),(.int .u8 (nth (([z6.fState.fRegs.a0,z6.fState.fRegs.a1,z6.fState.fRegs.a2,z6.fState.fRegs.a3] : List Int).set (z6.fX.fA : Int).toNat (u8 (Int.tdiv (nth ([z6.fState.fRegs.a0,z6.fState.fRegs.a1,z6.fState.fRegs.a2,z6.fState.fRegs.a3] : List Int) z6.fX.fA) (nth ([z6.fState.fRegs.a0,z6.fState.fRegs.a1,z6.fState.fRegs.a2,z6.fState.fRegs.a3] : List Int) z6.fX.fB)))) 3)),(.int .u8 z6.fX.fOp),(.int .i64 z6.fX.fA),(.int .i64 z6.fX.fB),(.int .i64 z6.fX.fC),(.slice z5r z6.fMem.length z5s),(.int .u8 z6.fAct.fKind),(.int .i64 z6.fAct.fA),(.int .i64 z6.fAct.fB),(.slice z5t z6.fAct.fData.length z5u)]) y4G rfl rfl rfl rfl .h1 rfl rfl zfs rfl rfl) ?_
  refine WL.nil ?_
  obtain rfl:=Option.some.inj h
  refine WX.yl Tryd.results105 .nil (fun w hw=>?_)
  exact ⟨[],z5r,z5s,z5t,z5u,y1m,⟨(z9f.mono (Zle.left _ _)),(z9g.mono (Zle.left _ _))⟩,hw.sub (.cons .h1 (.cons .here .nil))⟩
 ·replace h:=yd h zaK
  obtain ⟨zaJ,zkd,h⟩:=zd h
  refine WC.a (WL.pu rfl ?_)
  refine WL.yp (dd:=27) rfl rfl rfl (zm (l:=[.tmp 26,.const (.int .u8 4),.const (.int .i64 0)]) Tryd.call112 (.cons rfl (.cons rfl (.cons rfl .nil)))) (.cons .h1 .nil) (ccz hz (.cons .h1 .nil) .here fun w pz ho=>y2k _ _ _ _ _ _ _ _ _ _ zkd w pz (z9f.mono (Zle.left _ _)) (z9g.mono (Zle.left _ _)) ho) ?_
  rintro zke zkf zkg zkh zki
  refine WL.nil ?_
  refine WX.freezeS (ls:=zaJ.fAct.fData) .h1 .h1 hz (RR.yK (enc:=e5) (fun _=>rfl) _) ?_
  intro zkj zkk zkl
  obtain rfl:=Option.some.inj h
  refine WX.yl Tryd.results105 .nil (fun w hw=>?_)
  exact ⟨zkj,zke,zkf,zkg,zkh,y1m,⟨(zki.mono zkk),zkl⟩,hw.sub (.cons .here (.cons .here .nil))⟩
def y2e (zx : Sproc_execution) : Option Sproc_execution :=
 (y1t zx 3 zx.fX.fA).bind fun zft=>some zft
set_option maxRecDepth 20000 in
theorem y4w (Z : Zp) (z4s : Nat) (z7A : Option Addr) (z7B : Nat) (z7C : Option Addr) (z7D : Nat) (zx : Sproc_execution) (r : Sproc_execution)
  (h : y2e zx = some r) (w₀ : World) (hz : PZ (fps [stb z4s 65 [(.int .i64 zx.fState.fPc),(.int .i64 zx.fState.fLeft),(.int .u8 zx.fState.fRegs.a0),(.int .u8 zx.fState.fRegs.a1),(.int .u8 zx.fState.fRegs.a2),(.int .u8 zx.fState.fRegs.a3),(.int .u8 zx.fX.fOp),(.int .i64 zx.fX.fA),(.int .i64 zx.fX.fB),(.int .i64 zx.fX.fC),(.slice z7A zx.fMem.length z7B),(.int .u8 zx.fAct.fKind),(.int .i64 zx.fAct.fA),(.int .i64 zx.fAct.fB),(.slice z7C zx.fAct.fData.length z7D)]]) w₀ Z)
  (zkm : ZS Z 1 (fun r x=>r = e5 x) z7A z7B zx.fMem)
  (zkn : ZS Z 1 (fun r x=>r = e5 x) z7C z7D zx.fAct.fData)
  (hown : Hp (fps [stb z4s 65 [(.int .i64 zx.fState.fPc),(.int .i64 zx.fState.fLeft),(.int .u8 zx.fState.fRegs.a0),(.int .u8 zx.fState.fRegs.a1),(.int .u8 zx.fState.fRegs.a2),(.int .u8 zx.fState.fRegs.a3),(.int .u8 zx.fX.fOp),(.int .i64 zx.fX.fA),(.int .i64 zx.fX.fB),(.int .i64 zx.fX.fC),(.slice z7A zx.fMem.length z7B),(.int .u8 zx.fAct.fKind),(.int .i64 zx.fAct.fA),(.int .i64 zx.fAct.fB),(.slice z7C zx.fAct.fData.length z7D)]]) w₀ w₀ [stb z4s 65 [(.int .i64 zx.fState.fPc),(.int .i64 zx.fState.fLeft),(.int .u8 zx.fState.fRegs.a0),(.int .u8 zx.fState.fRegs.a1),(.int .u8 zx.fState.fRegs.a2),(.int .u8 zx.fState.fRegs.a3),(.int .u8 zx.fX.fOp),(.int .i64 zx.fX.fA),(.int .i64 zx.fX.fB),(.int .i64 zx.fX.fC),(.slice z7A zx.fMem.length z7B),(.int .u8 zx.fAct.fKind),(.int .i64 zx.fAct.fA),(.int .i64 zx.fAct.fB),(.slice z7C zx.fAct.fData.length z7D)]]) :
  Calls Tryd.prog 106 #[(.pointer (some ⟨z4s,0,none⟩))] w₀ fun e w'=>∃ zfu : Option Addr,∃ zfv : Nat,∃ zfw : Option Addr,∃ zfx : Nat,e = .returned (.tuple #[]) ∧ (ZS Z 1 (fun r x=>r = e5 x) zfu zfv r.fMem) ∧ Hp (fps [stb z4s 65 [(.int .i64 zx.fState.fPc),(.int .i64 zx.fState.fLeft),(.int .u8 zx.fState.fRegs.a0),(.int .u8 zx.fState.fRegs.a1),(.int .u8 zx.fState.fRegs.a2),(.int .u8 zx.fState.fRegs.a3),(.int .u8 zx.fX.fOp),(.int .i64 zx.fX.fA),(.int .i64 zx.fX.fB),(.int .i64 zx.fX.fC),(.slice z7A zx.fMem.length z7B),(.int .u8 zx.fAct.fKind),(.int .i64 zx.fAct.fA),(.int .i64 zx.fAct.fB),(.slice z7C zx.fAct.fData.length z7D)]]) w₀ w' [stb z4s 65 [(.int .i64 r.fState.fPc),(.int .i64 r.fState.fLeft),(.int .u8 r.fState.fRegs.a0),(.int .u8 r.fState.fRegs.a1),(.int .u8 r.fState.fRegs.a2),(.int .u8 r.fState.fRegs.a3),(.int .u8 r.fX.fOp),(.int .i64 r.fX.fA),(.int .i64 r.fX.fB),(.int .i64 r.fX.fC),(.slice zfu r.fMem.length zfv),(.int .u8 r.fAct.fKind),(.int .i64 r.fAct.fA),(.int .i64 r.fAct.fB),(.slice zfw r.fAct.fData.length zfx)],row (.slice zfw r.fAct.fData.length zfx) 5 1 (r.fAct.fData.flatMap e5)]:=by
 unfold y2e at h
 refine Calls.ya (vs:=[(.pointer (some ⟨z4s,0,none⟩))]) (pre:=[stb z4s 65 [(.int .i64 zx.fState.fPc),(.int .i64 zx.fState.fLeft),(.int .u8 zx.fState.fRegs.a0),(.int .u8 zx.fState.fRegs.a1),(.int .u8 zx.fState.fRegs.a2),(.int .u8 zx.fState.fRegs.a3),(.int .u8 zx.fX.fOp),(.int .i64 zx.fX.fA),(.int .i64 zx.fX.fB),(.int .i64 zx.fX.fC),(.slice z7A zx.fMem.length z7B),(.int .u8 zx.fAct.fKind),(.int .i64 zx.fAct.fA),(.int .i64 zx.fAct.fB),(.slice z7C zx.fAct.fData.length z7D)]]) (env:=[(0,(.pointer (some ⟨z4s,0,none⟩)))]) Tryd.func106 rfl Tryd.ntmps106 rfl (hown) rfl ?_
 obtain ⟨zft,zko,h⟩:=zd h
 refine WC.a (WL.pu rfl (WL.pu rfl ?_))
 refine WL.a (d:=4) rfl rfl rfl (y9 rfl) ?_
 refine WL.a (d:=5) rfl rfl rfl (y4 yM rfl rfl) ?_
 refine WL.a (d:=6) rfl rfl rfl (y4 y1p rfl rfl) ?_
 refine WL.a (d:=7) rfl rfl rfl (y6 yh rfl (yi .here rfl)) ?_
 refine WL.yp (dd:=8) rfl rfl rfl (zm (l:=[.tmp 2,.const (.int .u8 3),.tmp 7]) Tryd.call112 (.cons rfl (.cons rfl (.cons rfl .nil)))) (.cons .here .nil) (cc hz (.cons .here .nil) fun w pz ho=>y2k _ _ _ _ _ _ _ _ _ _ zko w pz zkm zkn ho) ?_
 rintro zkp zkq zkr zks zkt
 refine WL.nil ?_
 obtain rfl:=Option.some.inj h
 refine WX.yl Tryd.results106 .nil (fun w hw=>?_)
 exact ⟨zkp,zkq,zkr,zks,y1m,zkt,hw.sub (.cons .here (.cons .here .nil))⟩
def y2v (zh : Sproc_execution) : Option Sproc_execution :=
 some (⟨(⟨i64 (zh.fState.fPc - 1),zh.fState.fLeft,zh.fState.fRegs⟩ : Sproc_State),zh.fX,zh.fMem,(⟨16,0,0,([] : List Int)⟩ : Sproc_Act)⟩ : Sproc_execution)
set_option maxRecDepth 20000 in
theorem y4T (Z : Zp) (z4t : Nat) (z4u : Option Addr) (z4v : Nat) (z6a : Option Addr) (z6b : Nat) (zh : Sproc_execution) (r : Sproc_execution)
  (h : y2v zh = some r) (w₀ : World) (hz : PZ (fps [stb z4t 65 [(.int .i64 zh.fState.fPc),(.int .i64 zh.fState.fLeft),(.int .u8 zh.fState.fRegs.a0),(.int .u8 zh.fState.fRegs.a1),(.int .u8 zh.fState.fRegs.a2),(.int .u8 zh.fState.fRegs.a3),(.int .u8 zh.fX.fOp),(.int .i64 zh.fX.fA),(.int .i64 zh.fX.fB),(.int .i64 zh.fX.fC),(.slice z4u zh.fMem.length z4v),(.int .u8 zh.fAct.fKind),(.int .i64 zh.fAct.fA),(.int .i64 zh.fAct.fB),(.slice z6a zh.fAct.fData.length z6b)]]) w₀ Z)
  (zku : ZS Z 1 (fun r x=>r = e5 x) z4u z4v zh.fMem)
  (zs4 : ZS Z 1 (fun r x=>r = e5 x) z6a z6b zh.fAct.fData)
  (hown : Hp (fps [stb z4t 65 [(.int .i64 zh.fState.fPc),(.int .i64 zh.fState.fLeft),(.int .u8 zh.fState.fRegs.a0),(.int .u8 zh.fState.fRegs.a1),(.int .u8 zh.fState.fRegs.a2),(.int .u8 zh.fState.fRegs.a3),(.int .u8 zh.fX.fOp),(.int .i64 zh.fX.fA),(.int .i64 zh.fX.fB),(.int .i64 zh.fX.fC),(.slice z4u zh.fMem.length z4v),(.int .u8 zh.fAct.fKind),(.int .i64 zh.fAct.fA),(.int .i64 zh.fAct.fB),(.slice z6a zh.fAct.fData.length z6b)]]) w₀ w₀ [stb z4t 65 [(.int .i64 zh.fState.fPc),(.int .i64 zh.fState.fLeft),(.int .u8 zh.fState.fRegs.a0),(.int .u8 zh.fState.fRegs.a1),(.int .u8 zh.fState.fRegs.a2),(.int .u8 zh.fState.fRegs.a3),(.int .u8 zh.fX.fOp),(.int .i64 zh.fX.fA),(.int .i64 zh.fX.fB),(.int .i64 zh.fX.fC),(.slice z4u zh.fMem.length z4v),(.int .u8 zh.fAct.fKind),(.int .i64 zh.fAct.fA),(.int .i64 zh.fAct.fB),(.slice z6a zh.fAct.fData.length z6b)]]) :
  Calls Tryd.prog 107 #[(.pointer (some ⟨z4t,0,none⟩))] w₀ fun e w'=>∃ zfy : Option Addr,∃ zfz : Nat,∃ zfA : Option Addr,∃ zfB : Nat,e = .returned (.tuple #[]) ∧ (ZS Z 1 (fun r x=>r = e5 x) zfy zfz r.fMem) ∧ Hp (fps [stb z4t 65 [(.int .i64 zh.fState.fPc),(.int .i64 zh.fState.fLeft),(.int .u8 zh.fState.fRegs.a0),(.int .u8 zh.fState.fRegs.a1),(.int .u8 zh.fState.fRegs.a2),(.int .u8 zh.fState.fRegs.a3),(.int .u8 zh.fX.fOp),(.int .i64 zh.fX.fA),(.int .i64 zh.fX.fB),(.int .i64 zh.fX.fC),(.slice z4u zh.fMem.length z4v),(.int .u8 zh.fAct.fKind),(.int .i64 zh.fAct.fA),(.int .i64 zh.fAct.fB),(.slice z6a zh.fAct.fData.length z6b)]]) w₀ w' [stb z4t 65 [(.int .i64 r.fState.fPc),(.int .i64 r.fState.fLeft),(.int .u8 r.fState.fRegs.a0),(.int .u8 r.fState.fRegs.a1),(.int .u8 r.fState.fRegs.a2),(.int .u8 r.fState.fRegs.a3),(.int .u8 r.fX.fOp),(.int .i64 r.fX.fA),(.int .i64 r.fX.fB),(.int .i64 r.fX.fC),(.slice zfy r.fMem.length zfz),(.int .u8 r.fAct.fKind),(.int .i64 r.fAct.fA),(.int .i64 r.fAct.fB),(.slice zfA r.fAct.fData.length zfB)],row (.slice zfA r.fAct.fData.length zfB) 5 1 (r.fAct.fData.flatMap e5)]:=by
 unfold y2v at h
 refine Calls.ya (vs:=[(.pointer (some ⟨z4t,0,none⟩))]) (pre:=[stb z4t 65 [(.int .i64 zh.fState.fPc),(.int .i64 zh.fState.fLeft),(.int .u8 zh.fState.fRegs.a0),(.int .u8 zh.fState.fRegs.a1),(.int .u8 zh.fState.fRegs.a2),(.int .u8 zh.fState.fRegs.a3),(.int .u8 zh.fX.fOp),(.int .i64 zh.fX.fA),(.int .i64 zh.fX.fB),(.int .i64 zh.fX.fC),(.slice z4u zh.fMem.length z4v),(.int .u8 zh.fAct.fKind),(.int .i64 zh.fAct.fA),(.int .i64 zh.fAct.fB),(.slice z6a zh.fAct.fData.length z6b)]]) (env:=[(0,(.pointer (some ⟨z4t,0,none⟩)))]) Tryd.func107 rfl Tryd.ntmps107 rfl (hown) rfl ?_
 refine WC.b (WC.a (WL.pu rfl ?_))
 refine WL.a (d:=3) rfl rfl rfl (y9 rfl) ?_
 refine WL.a (d:=4) rfl rfl rfl (y4 y1x rfl rfl) ?_
 refine WL.a (d:=5) rfl rfl rfl (y4 y2T rfl rfl) ?_
 refine WL.a (d:=6) rfl rfl rfl (y6 yh rfl (yi .here rfl)) ?_
 refine WL.pu rfl ?_
 refine WL.a (d:=8) rfl rfl rfl (y9 rfl) ?_
 refine WL.a (d:=9) rfl rfl rfl (y4 y1x rfl rfl) ?_
 refine WL.a (d:=10) rfl rfl rfl (y4 y2T rfl rfl) ?_
 refine WL.yq rfl rfl (y1E (ds:=[(.int .i64 (i64 (zh.fState.fPc - 1))),(.int .i64 zh.fState.fLeft),(.int .u8 zh.fState.fRegs.a0),(.int .u8 zh.fState.fRegs.a1),(.int .u8 zh.fState.fRegs.a2),(.int .u8 zh.fState.fRegs.a3),(.int .u8 zh.fX.fOp),(.int .i64 zh.fX.fA),(.int .i64 zh.fX.fB),(.int .i64 zh.fX.fC),(.slice z4u zh.fMem.length z4v),(.int .u8 zh.fAct.fKind),(.int .i64 zh.fAct.fA),(.int .i64 zh.fAct.fB),(.slice z6a zh.fAct.fData.length z6b)]) y36 rfl rfl rfl rfl rfl .here rfl rfl) ?_
 refine WL.nil (WX.a (WC.a (WL.pu rfl ?_)))
 refine WL.a (d:=12) rfl rfl rfl (y1b (v:=(.agg #[(.int .u8 16),(.int .i64 0),(.int .i64 0),(.slice none 0 0)])) (Eos.parts (l:=[.const (.int .u8 16)]) (.cons rfl .nil) [0]) (fun _=>by kernel_rfl)) ?_
 refine WL.a (d:=13) rfl rfl rfl (y9 rfl) ?_
 refine WL.a (d:=14) rfl rfl rfl (y4 y3Y rfl rfl) ?_
 refine WL.yq rfl rfl (y1E (ds:=[(.int .i64 (i64 (zh.fState.fPc - 1))),(.int .i64 zh.fState.fLeft),(.int .u8 zh.fState.fRegs.a0),(.int .u8 zh.fState.fRegs.a1),(.int .u8 zh.fState.fRegs.a2),(.int .u8 zh.fState.fRegs.a3),(.int .u8 zh.fX.fOp),(.int .i64 zh.fX.fA),(.int .i64 zh.fX.fB),(.int .i64 zh.fX.fC),(.slice z4u zh.fMem.length z4v),(.int .u8 16),(.int .i64 0),(.int .i64 0),(.slice none 0 0)]) y1X rfl rfl rfl rfl rfl .here rfl rfl) ?_
 refine WL.nil ?_
 refine WX.nilRow 5 1 ?_
 obtain rfl:=Option.some.inj h
 refine WX.yl Tryd.results107 .nil (fun w hw=>?_)
 exact ⟨z4u,z4v,none,0,y1m,zku,hw.sub (.cons .h1 (.cons .here .nil))⟩
def y2f (z6c : List Sapi_Ins) (zf : Sproc_State) (zZ : List Int) : Option (Sproc_State × Sproc_Act) :=
 (y3u z6c zf.fPc).bind fun zS=>if !zS.2 then some (zf,(⟨15,5,0,[]⟩ : Sproc_Act)) else jp15 (fun (z3D : Int) (z3E : Int) (z3F : Int) (z3G : Int) (z3H : Int) (z3I : Int) (z5v : Int) (z5w : Int) (z5x : Int) (z5y : Int) (z4w : List Int) (z3J : Int) (z3K : Int) (z3L : Int) (z3k : List Int)=>some ((⟨z3D,z3E,(⟨z3F,z3G,z3H,z3I⟩ : S34)⟩ : Sproc_State),(⟨z3J,z3K,z3L,z3k⟩ : Sproc_Act))) fun z1y=>chk ((0 : Int) ≤ zS.1.fOp ∧ zS.1.fOp < 26) (sw [(1,(y2j (⟨(⟨i64 (zf.fPc + 1),zf.fLeft,zf.fRegs⟩ : Sproc_State),zS.1,zZ,(⟨0,0,0,[]⟩ : Sproc_Act)⟩ : Sproc_execution)).bind fun z14=>z1y z14.fState.fPc z14.fState.fLeft z14.fState.fRegs.a0 z14.fState.fRegs.a1 z14.fState.fRegs.a2 z14.fState.fRegs.a3 z14.fX.fOp z14.fX.fA z14.fX.fB z14.fX.fC z14.fMem z14.fAct.fKind z14.fAct.fA z14.fAct.fB z14.fAct.fData),(2,(y2E (⟨(⟨i64 (zf.fPc + 1),zf.fLeft,zf.fRegs⟩ : Sproc_State),zS.1,zZ,(⟨0,0,0,[]⟩ : Sproc_Act)⟩ : Sproc_execution)).bind fun z15=>z1y z15.fState.fPc z15.fState.fLeft z15.fState.fRegs.a0 z15.fState.fRegs.a1 z15.fState.fRegs.a2 z15.fState.fRegs.a3 z15.fX.fOp z15.fX.fA z15.fX.fB z15.fX.fC z15.fMem z15.fAct.fKind z15.fAct.fA z15.fAct.fB z15.fAct.fData),(3,(y2F (⟨(⟨i64 (zf.fPc + 1),zf.fLeft,zf.fRegs⟩ : Sproc_State),zS.1,zZ,(⟨0,0,0,[]⟩ : Sproc_Act)⟩ : Sproc_execution)).bind fun z16=>z1y z16.fState.fPc z16.fState.fLeft z16.fState.fRegs.a0 z16.fState.fRegs.a1 z16.fState.fRegs.a2 z16.fState.fRegs.a3 z16.fX.fOp z16.fX.fA z16.fX.fB z16.fX.fC z16.fMem z16.fAct.fKind z16.fAct.fA z16.fAct.fB z16.fAct.fData),(4,(y2G (⟨(⟨i64 (zf.fPc + 1),zf.fLeft,zf.fRegs⟩ : Sproc_State),zS.1,zZ,(⟨0,0,0,[]⟩ : Sproc_Act)⟩ : Sproc_execution)).bind fun z17=>z1y z17.fState.fPc z17.fState.fLeft z17.fState.fRegs.a0 z17.fState.fRegs.a1 z17.fState.fRegs.a2 z17.fState.fRegs.a3 z17.fX.fOp z17.fX.fA z17.fX.fB z17.fX.fC z17.fMem z17.fAct.fKind z17.fAct.fA z17.fAct.fB z17.fAct.fData),(5,(y2l (⟨(⟨i64 (zf.fPc + 1),zf.fLeft,zf.fRegs⟩ : Sproc_State),zS.1,zZ,(⟨0,0,0,[]⟩ : Sproc_Act)⟩ : Sproc_execution)).bind fun z18=>z1y z18.fState.fPc z18.fState.fLeft z18.fState.fRegs.a0 z18.fState.fRegs.a1 z18.fState.fRegs.a2 z18.fState.fRegs.a3 z18.fX.fOp z18.fX.fA z18.fX.fB z18.fX.fC z18.fMem z18.fAct.fKind z18.fAct.fA z18.fAct.fB z18.fAct.fData),(6,(y29 (⟨(⟨i64 (zf.fPc + 1),zf.fLeft,zf.fRegs⟩ : Sproc_State),zS.1,zZ,(⟨0,0,0,[]⟩ : Sproc_Act)⟩ : Sproc_execution)).bind fun z19=>z1y z19.fState.fPc z19.fState.fLeft z19.fState.fRegs.a0 z19.fState.fRegs.a1 z19.fState.fRegs.a2 z19.fState.fRegs.a3 z19.fX.fOp z19.fX.fA z19.fX.fB z19.fX.fC z19.fMem z19.fAct.fKind z19.fAct.fA z19.fAct.fB z19.fAct.fData),(7,(y2m (⟨(⟨i64 (zf.fPc + 1),zf.fLeft,zf.fRegs⟩ : Sproc_State),zS.1,zZ,(⟨0,0,0,[]⟩ : Sproc_Act)⟩ : Sproc_execution)).bind fun z1a=>z1y z1a.fState.fPc z1a.fState.fLeft z1a.fState.fRegs.a0 z1a.fState.fRegs.a1 z1a.fState.fRegs.a2 z1a.fState.fRegs.a3 z1a.fX.fOp z1a.fX.fA z1a.fX.fB z1a.fX.fC z1a.fMem z1a.fAct.fKind z1a.fAct.fA z1a.fAct.fB z1a.fAct.fData),(8,(y2n (⟨(⟨i64 (zf.fPc + 1),zf.fLeft,zf.fRegs⟩ : Sproc_State),zS.1,zZ,(⟨0,0,0,[]⟩ : Sproc_Act)⟩ : Sproc_execution)).bind fun z1b=>z1y z1b.fState.fPc z1b.fState.fLeft z1b.fState.fRegs.a0 z1b.fState.fRegs.a1 z1b.fState.fRegs.a2 z1b.fState.fRegs.a3 z1b.fX.fOp z1b.fX.fA z1b.fX.fB z1b.fX.fC z1b.fMem z1b.fAct.fKind z1b.fAct.fA z1b.fAct.fB z1b.fAct.fData),(9,(y2o (⟨(⟨i64 (zf.fPc + 1),zf.fLeft,zf.fRegs⟩ : Sproc_State),zS.1,zZ,(⟨0,0,0,[]⟩ : Sproc_Act)⟩ : Sproc_execution)).bind fun z1c=>z1y z1c.fState.fPc z1c.fState.fLeft z1c.fState.fRegs.a0 z1c.fState.fRegs.a1 z1c.fState.fRegs.a2 z1c.fState.fRegs.a3 z1c.fX.fOp z1c.fX.fA z1c.fX.fB z1c.fX.fC z1c.fMem z1c.fAct.fKind z1c.fAct.fA z1c.fAct.fB z1c.fAct.fData),(10,(y1W (⟨(⟨i64 (zf.fPc + 1),zf.fLeft,zf.fRegs⟩ : Sproc_State),zS.1,zZ,(⟨0,0,0,[]⟩ : Sproc_Act)⟩ : Sproc_execution)).bind fun z1d=>z1y z1d.fState.fPc z1d.fState.fLeft z1d.fState.fRegs.a0 z1d.fState.fRegs.a1 z1d.fState.fRegs.a2 z1d.fState.fRegs.a3 z1d.fX.fOp z1d.fX.fA z1d.fX.fB z1d.fX.fC z1d.fMem z1d.fAct.fKind z1d.fAct.fA z1d.fAct.fB z1d.fAct.fData),(11,(y2a (⟨(⟨i64 (zf.fPc + 1),zf.fLeft,zf.fRegs⟩ : Sproc_State),zS.1,zZ,(⟨0,0,0,[]⟩ : Sproc_Act)⟩ : Sproc_execution)).bind fun z1e=>z1y z1e.fState.fPc z1e.fState.fLeft z1e.fState.fRegs.a0 z1e.fState.fRegs.a1 z1e.fState.fRegs.a2 z1e.fState.fRegs.a3 z1e.fX.fOp z1e.fX.fA z1e.fX.fB z1e.fX.fC z1e.fMem z1e.fAct.fKind z1e.fAct.fA z1e.fAct.fB z1e.fAct.fData),(12,(y2b (⟨(⟨i64 (zf.fPc + 1),zf.fLeft,zf.fRegs⟩ : Sproc_State),zS.1,zZ,(⟨0,0,0,[]⟩ : Sproc_Act)⟩ : Sproc_execution)).bind fun z1f=>z1y z1f.fState.fPc z1f.fState.fLeft z1f.fState.fRegs.a0 z1f.fState.fRegs.a1 z1f.fState.fRegs.a2 z1f.fState.fRegs.a3 z1f.fX.fOp z1f.fX.fA z1f.fX.fB z1f.fX.fC z1f.fMem z1f.fAct.fKind z1f.fAct.fA z1f.fAct.fB z1f.fAct.fData),(13,(y2c (⟨(⟨i64 (zf.fPc + 1),zf.fLeft,zf.fRegs⟩ : Sproc_State),zS.1,zZ,(⟨0,0,0,[]⟩ : Sproc_Act)⟩ : Sproc_execution)).bind fun z1g=>z1y z1g.fState.fPc z1g.fState.fLeft z1g.fState.fRegs.a0 z1g.fState.fRegs.a1 z1g.fState.fRegs.a2 z1g.fState.fRegs.a3 z1g.fX.fOp z1g.fX.fA z1g.fX.fB z1g.fX.fC z1g.fMem z1g.fAct.fKind z1g.fAct.fA z1g.fAct.fB z1g.fAct.fData),(14,(y2H (⟨(⟨i64 (zf.fPc + 1),zf.fLeft,zf.fRegs⟩ : Sproc_State),zS.1,zZ,(⟨0,0,0,[]⟩ : Sproc_Act)⟩ : Sproc_execution)).bind fun z1h=>z1y z1h.fState.fPc z1h.fState.fLeft z1h.fState.fRegs.a0 z1h.fState.fRegs.a1 z1h.fState.fRegs.a2 z1h.fState.fRegs.a3 z1h.fX.fOp z1h.fX.fA z1h.fX.fB z1h.fX.fC z1h.fMem z1h.fAct.fKind z1h.fAct.fA z1h.fAct.fB z1h.fAct.fData),(15,(y2I (⟨(⟨i64 (zf.fPc + 1),zf.fLeft,zf.fRegs⟩ : Sproc_State),zS.1,zZ,(⟨0,0,0,[]⟩ : Sproc_Act)⟩ : Sproc_execution)).bind fun z1i=>z1y z1i.fState.fPc z1i.fState.fLeft z1i.fState.fRegs.a0 z1i.fState.fRegs.a1 z1i.fState.fRegs.a2 z1i.fState.fRegs.a3 z1i.fX.fOp z1i.fX.fA z1i.fX.fB z1i.fX.fC z1i.fMem z1i.fAct.fKind z1i.fAct.fA z1i.fAct.fB z1i.fAct.fData),(16,(y2p (⟨(⟨i64 (zf.fPc + 1),zf.fLeft,zf.fRegs⟩ : Sproc_State),zS.1,zZ,(⟨0,0,0,[]⟩ : Sproc_Act)⟩ : Sproc_execution)).bind fun z1j=>z1y z1j.fState.fPc z1j.fState.fLeft z1j.fState.fRegs.a0 z1j.fState.fRegs.a1 z1j.fState.fRegs.a2 z1j.fState.fRegs.a3 z1j.fX.fOp z1j.fX.fA z1j.fX.fB z1j.fX.fC z1j.fMem z1j.fAct.fKind z1j.fAct.fA z1j.fAct.fB z1j.fAct.fData),(17,(y2q (⟨(⟨i64 (zf.fPc + 1),zf.fLeft,zf.fRegs⟩ : Sproc_State),zS.1,zZ,(⟨0,0,0,[]⟩ : Sproc_Act)⟩ : Sproc_execution)).bind fun z1k=>z1y z1k.fState.fPc z1k.fState.fLeft z1k.fState.fRegs.a0 z1k.fState.fRegs.a1 z1k.fState.fRegs.a2 z1k.fState.fRegs.a3 z1k.fX.fOp z1k.fX.fA z1k.fX.fB z1k.fX.fC z1k.fMem z1k.fAct.fKind z1k.fAct.fA z1k.fAct.fB z1k.fAct.fData),(18,(y2d (⟨(⟨i64 (zf.fPc + 1),zf.fLeft,zf.fRegs⟩ : Sproc_State),zS.1,zZ,(⟨0,0,0,[]⟩ : Sproc_Act)⟩ : Sproc_execution)).bind fun z1l=>z1y z1l.fState.fPc z1l.fState.fLeft z1l.fState.fRegs.a0 z1l.fState.fRegs.a1 z1l.fState.fRegs.a2 z1l.fState.fRegs.a3 z1l.fX.fOp z1l.fX.fA z1l.fX.fB z1l.fX.fC z1l.fMem z1l.fAct.fKind z1l.fAct.fA z1l.fAct.fB z1l.fAct.fData),(19,(y2r (⟨(⟨i64 (zf.fPc + 1),zf.fLeft,zf.fRegs⟩ : Sproc_State),zS.1,zZ,(⟨0,0,0,[]⟩ : Sproc_Act)⟩ : Sproc_execution)).bind fun z11=>z1y z11.fState.fPc z11.fState.fLeft z11.fState.fRegs.a0 z11.fState.fRegs.a1 z11.fState.fRegs.a2 z11.fState.fRegs.a3 z11.fX.fOp z11.fX.fA z11.fX.fB z11.fX.fC z11.fMem z11.fAct.fKind z11.fAct.fA z11.fAct.fB z11.fAct.fData),(20,(y2s (⟨(⟨i64 (zf.fPc + 1),zf.fLeft,zf.fRegs⟩ : Sproc_State),zS.1,zZ,(⟨0,0,0,[]⟩ : Sproc_Act)⟩ : Sproc_execution)).bind fun z1m=>z1y z1m.fState.fPc z1m.fState.fLeft z1m.fState.fRegs.a0 z1m.fState.fRegs.a1 z1m.fState.fRegs.a2 z1m.fState.fRegs.a3 z1m.fX.fOp z1m.fX.fA z1m.fX.fB z1m.fX.fC z1m.fMem z1m.fAct.fKind z1m.fAct.fA z1m.fAct.fB z1m.fAct.fData),(21,(y2t (⟨(⟨i64 (zf.fPc + 1),zf.fLeft,zf.fRegs⟩ : Sproc_State),zS.1,zZ,(⟨0,0,0,[]⟩ : Sproc_Act)⟩ : Sproc_execution)).bind fun z1n=>z1y z1n.fState.fPc z1n.fState.fLeft z1n.fState.fRegs.a0 z1n.fState.fRegs.a1 z1n.fState.fRegs.a2 z1n.fState.fRegs.a3 z1n.fX.fOp z1n.fX.fA z1n.fX.fB z1n.fX.fC z1n.fMem z1n.fAct.fKind z1n.fAct.fA z1n.fAct.fB z1n.fAct.fData),(22,(y2u (⟨(⟨i64 (zf.fPc + 1),zf.fLeft,zf.fRegs⟩ : Sproc_State),zS.1,zZ,(⟨0,0,0,[]⟩ : Sproc_Act)⟩ : Sproc_execution)).bind fun z1o=>z1y z1o.fState.fPc z1o.fState.fLeft z1o.fState.fRegs.a0 z1o.fState.fRegs.a1 z1o.fState.fRegs.a2 z1o.fState.fRegs.a3 z1o.fX.fOp z1o.fX.fA z1o.fX.fB z1o.fX.fC z1o.fMem z1o.fAct.fKind z1o.fAct.fA z1o.fAct.fB z1o.fAct.fData),(23,(y2J (⟨(⟨i64 (zf.fPc + 1),zf.fLeft,zf.fRegs⟩ : Sproc_State),zS.1,zZ,(⟨0,0,0,[]⟩ : Sproc_Act)⟩ : Sproc_execution)).bind fun z1p=>z1y z1p.fState.fPc z1p.fState.fLeft z1p.fState.fRegs.a0 z1p.fState.fRegs.a1 z1p.fState.fRegs.a2 z1p.fState.fRegs.a3 z1p.fX.fOp z1p.fX.fA z1p.fX.fB z1p.fX.fC z1p.fMem z1p.fAct.fKind z1p.fAct.fA z1p.fAct.fB z1p.fAct.fData),(24,(y2e (⟨(⟨i64 (zf.fPc + 1),zf.fLeft,zf.fRegs⟩ : Sproc_State),zS.1,zZ,(⟨0,0,0,[]⟩ : Sproc_Act)⟩ : Sproc_execution)).bind fun z12=>z1y z12.fState.fPc z12.fState.fLeft z12.fState.fRegs.a0 z12.fState.fRegs.a1 z12.fState.fRegs.a2 z12.fState.fRegs.a3 z12.fX.fOp z12.fX.fA z12.fX.fB z12.fX.fC z12.fMem z12.fAct.fKind z12.fAct.fA z12.fAct.fB z12.fAct.fData),(25,(y2v (⟨(⟨i64 (zf.fPc + 1),zf.fLeft,zf.fRegs⟩ : Sproc_State),zS.1,zZ,(⟨0,0,0,[]⟩ : Sproc_Act)⟩ : Sproc_execution)).bind fun z13=>z1y z13.fState.fPc z13.fState.fLeft z13.fState.fRegs.a0 z13.fState.fRegs.a1 z13.fState.fRegs.a2 z13.fState.fRegs.a3 z13.fX.fOp z13.fX.fA z13.fX.fB z13.fX.fC z13.fMem z13.fAct.fKind z13.fAct.fA z13.fAct.fB z13.fAct.fData)] zS.1.fOp)
set_option maxRecDepth 20000 in
theorem y1M (Z : Zp) (z9h : Option Addr) (z9i : Nat) (z6d : Option Addr) (z6e : Nat) (z6c : List Sapi_Ins) (zf : Sproc_State) (zZ : List Int) (r : Sproc_State × Sproc_Act)
  (h : y2f z6c zf zZ = some r) (w₀ : World) (hz : PZ [] w₀ Z)
  (hG0 : ZC Z ⟨0,0,none⟩ tabG0)
  (hG1 : ZS Z 1 (p74 Z) (some ⟨1,0,none⟩) 26 y18)
  (zkv : ZS Z 4 (fun r x=>r = e33 x) z9h z9i z6c)
  (z1C : ZS Z 1 (fun r x=>r = e5 x) z6d z6e zZ) :
  Calls Tryd.prog 18 #[(.slice z9h z6c.length z9i),(.agg #[(.int .i64 zf.fPc),(.int .i64 zf.fLeft),(.int .u8 zf.fRegs.a0),(.int .u8 zf.fRegs.a1),(.int .u8 zf.fRegs.a2),(.int .u8 zf.fRegs.a3)]),(.slice z6d zZ.length z6e)] w₀ fun e w'=>∃ Zn : Zp,∃ zfC : Option Addr,∃ zfD : Nat,e = .returned (.tuple #[(.agg #[(.int .i64 r.1.fPc),(.int .i64 r.1.fLeft),(.int .u8 r.1.fRegs.a0),(.int .u8 r.1.fRegs.a1),(.int .u8 r.1.fRegs.a2),(.int .u8 r.1.fRegs.a3)]),(.agg #[(.int .u8 r.2.fKind),(.int .i64 r.2.fA),(.int .i64 r.2.fB),(.slice zfC r.2.fData.length zfD)])]) ∧ (ZS (Z ++ Zn) 1 (fun r x=>r = e5 x) zfC zfD r.2.fData) ∧ Hp [] w₀ w' [fz Zn]:=by
 unfold y2f at h
 refine Calls.ya (vs:=[(.slice z9h z6c.length z9i),(.agg #[(.int .i64 zf.fPc),(.int .i64 zf.fLeft),(.int .u8 zf.fRegs.a0),(.int .u8 zf.fRegs.a1),(.int .u8 zf.fRegs.a2),(.int .u8 zf.fRegs.a3)]),(.slice z6d zZ.length z6e)]) (pre:=[]) (env:=[(0,(.slice z9h z6c.length z9i)),(1,(.agg #[(.int .i64 zf.fPc),(.int .i64 zf.fLeft),(.int .u8 zf.fRegs.a0),(.int .u8 zf.fRegs.a1),(.int .u8 zf.fRegs.a2),(.int .u8 zf.fRegs.a3)])),(2,(.slice z6d zZ.length z6e))]) Tryd.func18 rfl Tryd.ntmps18 rfl (Hp.nil w₀ _) rfl ?_
 refine WC.pool (WC.b (WC.a ?_))
 refine WL.new (dd:=4) rfl rfl rfl (y4k (cs:=[(.int .i64 zf.fPc),(.int .i64 zf.fLeft),(.int .u8 zf.fRegs.a0),(.int .u8 zf.fRegs.a1),(.int .u8 zf.fRegs.a2),(.int .u8 zf.fRegs.a3)]) rfl rfl) ?_
 intro zs5 _
 refine WL.new (dd:=6) rfl rfl rfl (yG (cs:=[(.int .i64 0),(.int .i64 0),(.int .u8 0),(.int .u8 0),(.int .u8 0),(.int .u8 0)]) y1R rfl) ?_
 intro zfE _
 refine WL.new (dd:=7) rfl rfl rfl (yG (cs:=[(.int .u8 0),(.int .i64 0),(.int .i64 0),(.slice none 0 0)]) y2D rfl) ?_
 intro zfF _
 refine WL.nil (WX.a (WC.b ?_))
 obtain ⟨zS,zkw,h⟩:=zd h
 refine WC.a (WL.pu rfl ?_)
 refine WL.a (d:=13) rfl rfl rfl (y4 y2T rfl rfl) ?_
 refine WL.a (d:=14) rfl rfl rfl (y6 yh rfl (yi .h2 rfl)) ?_
 refine WL.b (dd:=15) rfl rfl rfl (zm (l:=[.tmp 12,.tmp 14]) Tryd.call33 (.cons rfl (.cons rfl .nil))) .nil (ccz hz .nil .h3 fun w pz ho=>y6H _ _ _ _ _ _ zkw w pz ((hG1.mono (Zle.left _ _)).weak (fun _ _ h=>y13 (Zle.left _ _) h)) (zkv.mono (Zle.left _ _))) ?_
 refine WL.pu rfl (WL.pu rfl (WL.pu rfl ?_))
 refine WL.new (dd:=8) rfl rfl rfl (yG (cs:=[(.int .u8 0),(.int .i64 0),(.int .i64 0),(.int .i64 0)]) y3m rfl) ?_
 intro zs6 _
 refine WL.yq rfl rfl (yC y3K rfl rfl rfl .here rfl rfl rfl) ?_
 refine WL.pu rfl (WL.nil (WX.a (WC.b (WC.b (WC.a (WL.pu rfl (WL.pu rfl (WL.nil (WX.a ?_)))))))))
 refine WC.cond rfl (fun zaL=>?_) (fun zaL=>?_)
 ·replace h:=yc h zaL
  refine WC.b (WC.a ?_)
  refine WL.a (d:=20) rfl rfl rfl (y16 y2h rfl (y1l .h3) rfl) ?_
  refine WL.a (d:=21) rfl rfl rfl (y1b (v:=(.agg #[(.int .u8 15),(.int .i64 5),(.int .i64 0),(.slice none 0 0)])) (Eos.parts (l:=[.const (.int .u8 15),.const (.int .i64 5)]) (.cons rfl (.cons rfl .nil)) [0,1]) (fun _=>by kernel_rfl)) ?_
  refine WL.yq rfl rfl (yC y2S rfl rfl rfl .h2 rfl rfl rfl) ?_
  refine WL.yq rfl rfl (yC y1X rfl rfl rfl .h2 rfl rfl rfl) ?_
  refine WL.nil (WX.a (WC.ret (WX.y7 ?_)))
  obtain rfl:=Option.some.inj h
  refine WX.y8 Tryd.results18 (.agg rfl y2h rfl (y1l .h1) (.agg rfl y3M rfl (y1l .here) .nil)) (fun w hw=>?_)
  exact ⟨[],none,0,y1B rfl rfl,(ZS.nil _ _ _),hw.sub (.cons .h4 .nil)⟩
 ·replace h:=yd h zaL
  refine WC.skip (WX.a (WC.b (WC.a ?_)))
  refine WL.a (d:=22) rfl rfl rfl (y16 y2h rfl (y1l .h3) rfl) ?_
  refine WL.a (d:=23) rfl rfl rfl (y16 y1N rfl (y1l .here) rfl) ?_
  refine WL.pu rfl ?_
  refine WL.a (d:=25) rfl rfl rfl (y1b (v:=(.agg #[(.int .i64 zf.fPc),(.int .i64 zf.fLeft),(.int .u8 zf.fRegs.a0),(.int .u8 zf.fRegs.a1),(.int .u8 zf.fRegs.a2),(.int .u8 zf.fRegs.a3),(.int .u8 zS.1.fOp),(.int .i64 zS.1.fA),(.int .i64 zS.1.fB),(.int .i64 zS.1.fC),(.slice z6d zZ.length z6e),(.int .u8 0),(.int .i64 0),(.int .i64 0),(.slice none 0 0)])) (Eos.parts (l:=[.tmp 22,.tmp 23,.tmp 24]) (.cons rfl (.cons rfl (.cons rfl .nil))) [0,1,2]) (fun _=>by kernel_rfl)) ?_
  refine WL.new (dd:=26) rfl rfl rfl (y4k (cs:=[(.int .i64 zf.fPc),(.int .i64 zf.fLeft),(.int .u8 zf.fRegs.a0),(.int .u8 zf.fRegs.a1),(.int .u8 zf.fRegs.a2),(.int .u8 zf.fRegs.a3),(.int .u8 zS.1.fOp),(.int .i64 zS.1.fA),(.int .i64 zS.1.fB),(.int .i64 zS.1.fC),(.slice z6d zZ.length z6e),(.int .u8 0),(.int .i64 0),(.int .i64 0),(.slice none 0 0)]) rfl rfl) ?_
  intro zaM _
  refine WL.pu rfl (WL.nil (WX.a (WC.b (WC.a (WL.pu rfl ?_)))))
  refine WL.a (d:=28) rfl rfl rfl (y9 rfl) ?_
  refine WL.a (d:=29) rfl rfl rfl (y4 y1x rfl rfl) ?_
  refine WL.a (d:=30) rfl rfl rfl (y4 y2T rfl rfl) ?_
  refine WL.a (d:=31) rfl rfl rfl (y6 yh rfl (yi .here rfl)) ?_
  refine WL.pu rfl ?_
  refine WL.a (d:=33) rfl rfl rfl (y9 rfl) ?_
  refine WL.a (d:=34) rfl rfl rfl (y4 y1x rfl rfl) ?_
  refine WL.a (d:=35) rfl rfl rfl (y4 y2T rfl rfl) ?_
  refine WL.yq rfl rfl (y1E (ds:=[(.int .i64 (i64 (zf.fPc + 1))),(.int .i64 zf.fLeft),(.int .u8 zf.fRegs.a0),(.int .u8 zf.fRegs.a1),(.int .u8 zf.fRegs.a2),(.int .u8 zf.fRegs.a3),(.int .u8 zS.1.fOp),(.int .i64 zS.1.fA),(.int .i64 zS.1.fB),(.int .i64 zS.1.fC),(.slice z6d zZ.length z6e),(.int .u8 0),(.int .i64 0),(.int .i64 0),(.slice none 0 0)]) y36 rfl rfl rfl rfl rfl .here rfl rfl) ?_
  refine WL.nil (WX.a ?_)
  obtain ⟨z1y,zkx,h⟩:=y7Z h
  refine WC.y7k (fun (z3D : Int) (z3E : Int) (z3F : Int) (z3G : Int) (z3H : Int) (z3I : Int) (z5v : Int) (z5w : Int) (z5x : Int) (z5y : Int) (z4w : List Int) (z3J : Int) (z3K : Int) (z3L : Int) (z3k : List Int) (z5z : Zp) (z7E : Option Addr) (z7F : Nat) (z5A : Option Addr) (z5B : Nat)=>(z1y z3D z3E z3F z3G z3H z3I z5v z5w z5x z5y z4w z3J z3K z3L z3k = some r) ∧ (Zle (Z ++ []) (Z ++ z5z)) ∧ (ZS (Z ++ z5z) 1 (fun r x=>r = e5 x) z7E z7F z4w) ∧ (ZS (Z ++ z5z) 1 (fun r x=>r = e5 x) z5A z5B z3k)) (fun (z3D : Int) (z3E : Int) (z3F : Int) (z3G : Int) (z3H : Int) (z3I : Int) (z5v : Int) (z5w : Int) (z5x : Int) (z5y : Int) (z4w : List Int) (z3J : Int) (z3K : Int) (z3L : Int) (z3k : List Int) (z5z : Zp) (z7E : Option Addr) (z7F : Nat) (z5A : Option Addr) (z5B : Nat)=>[(6,(.pointer (some ⟨zfE,0,none⟩))),(7,(.pointer (some ⟨zfF,0,none⟩))),(10,(.pointer (some ⟨zaM,0,none⟩)))]) (fun (z3D : Int) (z3E : Int) (z3F : Int) (z3G : Int) (z3H : Int) (z3I : Int) (z5v : Int) (z5w : Int) (z5x : Int) (z5y : Int) (z4w : List Int) (z3J : Int) (z3K : Int) (z3L : Int) (z3k : List Int) (z5z : Zp) (z7E : Option Addr) (z7F : Nat) (z5A : Option Addr) (z5B : Nat)=>[fz z5z,stb zfE 39 [(.int .i64 0),(.int .i64 0),(.int .u8 0),(.int .u8 0),(.int .u8 0),(.int .u8 0)],stb zfF 41 [(.int .u8 0),(.int .i64 0),(.int .i64 0),(.slice none 0 0)],stb zaM 65 [(.int .i64 z3D),(.int .i64 z3E),(.int .u8 z3F),(.int .u8 z3G),(.int .u8 z3H),(.int .u8 z3I),(.int .u8 z5v),(.int .i64 z5w),(.int .i64 z5x),(.int .i64 z5y),(.slice z7E z4w.length z7F),(.int .u8 z3J),(.int .i64 z3K),(.int .i64 z3L),(.slice z5A z3k.length z5B)]]) ?_ ?_
  ·skip
   obtain ⟨zky,h⟩:=yb h
   refine WC.a ?_
   refine WL.a (d:=36) rfl rfl rfl (y4 y3d rfl rfl) ?_
   refine WL.a (d:=37) rfl rfl rfl (y6 yP rfl (yi .h1 rfl)) ?_
   refine WL.a (d:=38) rfl rfl rfl (y4m arT_67 rfl rfl zky rfl) ?_
   rcases yL h with ⟨zkz,h⟩ | h
   ·skip
    obtain ⟨z14,zkA,h⟩:=zd h
    refine WL.a (d:=39) rfl rfl rfl (y6 yN rfl (y14 (k:=1) (hz.pv2 .h5) (hG0.mono (Zle.left _ _)) zkz rfl)) ?_
    refine WL.pu rfl ?_
    refine WL.yp (dd:=41) rfl rfl rfl (yy (l:=[.tmp 40]) Tryd.call84 rfl (.cons rfl .nil)) (.cons .here .nil) (ccz hz (.cons .here .nil) .h4 fun w pz ho=>y4I _ _ _ _ _ _ _ _ zkA w pz (z1C.mono (Zle.left _ _)) (ZS.nil _ _ _) ho) ?_
    rintro zkB zkC zkD zkE ⟨zkF,zkG⟩
    refine WL.nil ?_
    exact WX.mid (G:=Int × Int × Int × Int × Int × Int × Int × Int × Int × Int × List Int × Int × Int × Int × List Int × Zp × Option Addr × Nat × Option Addr × Nat) ⟨z14.fState.fPc,z14.fState.fLeft,z14.fState.fRegs.a0,z14.fState.fRegs.a1,z14.fState.fRegs.a2,z14.fState.fRegs.a3,z14.fX.fOp,z14.fX.fA,z14.fX.fB,z14.fX.fC,z14.fMem,z14.fAct.fKind,z14.fAct.fA,z14.fAct.fB,z14.fAct.fData,[],zkB,zkC,zkD,zkE⟩ ⟨h,(Zle.refl _),zkF,zkG⟩ (.cons rfl (.cons rfl (.cons rfl .nil))) (.cons .h5 (.cons .h3 (.cons .h2 (.cons .here .nil))))
   rcases yL h with ⟨zkH,h⟩ | h
   ·skip
    obtain ⟨z15,zkI,h⟩:=zd h
    refine WL.a (d:=39) rfl rfl rfl (y6 yN rfl (y14 (k:=2) (hz.pv2 .h5) (hG0.mono (Zle.left _ _)) zkH rfl)) ?_
    refine WL.pu rfl ?_
    refine WL.yp (dd:=41) rfl rfl rfl (yy (l:=[.tmp 40]) Tryd.call85 rfl (.cons rfl .nil)) (.cons .here .nil) (ccz hz (.cons .here .nil) .h4 fun w pz ho=>y5b _ _ _ _ _ _ _ _ zkI w pz (z1C.mono (Zle.left _ _)) (ZS.nil _ _ _) ho) ?_
    rintro zkJ zkK zkL zkM ⟨zkN,zkO⟩
    refine WL.nil ?_
    exact WX.mid (G:=Int × Int × Int × Int × Int × Int × Int × Int × Int × Int × List Int × Int × Int × Int × List Int × Zp × Option Addr × Nat × Option Addr × Nat) ⟨z15.fState.fPc,z15.fState.fLeft,z15.fState.fRegs.a0,z15.fState.fRegs.a1,z15.fState.fRegs.a2,z15.fState.fRegs.a3,z15.fX.fOp,z15.fX.fA,z15.fX.fB,z15.fX.fC,z15.fMem,z15.fAct.fKind,z15.fAct.fA,z15.fAct.fB,z15.fAct.fData,[],zkJ,zkK,zkL,zkM⟩ ⟨h,(Zle.refl _),zkN,zkO⟩ (.cons rfl (.cons rfl (.cons rfl .nil))) (.cons .h5 (.cons .h3 (.cons .h2 (.cons .here .nil))))
   rcases yL h with ⟨zkP,h⟩ | h
   ·skip
    obtain ⟨z16,zkQ,h⟩:=zd h
    refine WL.a (d:=39) rfl rfl rfl (y6 yN rfl (y14 (k:=3) (hz.pv2 .h5) (hG0.mono (Zle.left _ _)) zkP rfl)) ?_
    refine WL.pu rfl ?_
    refine WL.yp (dd:=41) rfl rfl rfl (yy (l:=[.tmp 40]) Tryd.call82 rfl (.cons rfl .nil)) (.cons .here .nil) (ccz hz (.cons .here .nil) .h4 fun w pz ho=>y5c _ _ _ _ _ _ _ _ zkQ w pz (z1C.mono (Zle.left _ _)) (ZS.nil _ _ _) ho) ?_
    rintro zkR zkS zkT zkU ⟨zkV,zkW⟩
    refine WL.nil ?_
    exact WX.mid (G:=Int × Int × Int × Int × Int × Int × Int × Int × Int × Int × List Int × Int × Int × Int × List Int × Zp × Option Addr × Nat × Option Addr × Nat) ⟨z16.fState.fPc,z16.fState.fLeft,z16.fState.fRegs.a0,z16.fState.fRegs.a1,z16.fState.fRegs.a2,z16.fState.fRegs.a3,z16.fX.fOp,z16.fX.fA,z16.fX.fB,z16.fX.fC,z16.fMem,z16.fAct.fKind,z16.fAct.fA,z16.fAct.fB,z16.fAct.fData,[],zkR,zkS,zkT,zkU⟩ ⟨h,(Zle.refl _),zkV,zkW⟩ (.cons rfl (.cons rfl (.cons rfl .nil))) (.cons .h5 (.cons .h3 (.cons .h2 (.cons .here .nil))))
   rcases yL h with ⟨zkX,h⟩ | h
   ·skip
    obtain ⟨z17,zkY,h⟩:=zd h
    refine WL.a (d:=39) rfl rfl rfl (y6 yN rfl (y14 (k:=4) (hz.pv2 .h5) (hG0.mono (Zle.left _ _)) zkX rfl)) ?_
    refine WL.pu rfl ?_
    refine WL.yp (dd:=41) rfl rfl rfl (yy (l:=[.tmp 40]) Tryd.call86 rfl (.cons rfl .nil)) (.cons .here .nil) (ccz hz (.cons .here .nil) .h4 fun w pz ho=>y5d _ _ _ _ _ _ _ _ zkY w pz (z1C.mono (Zle.left _ _)) (ZS.nil _ _ _) ho) ?_
    rintro zkZ zl0 zl1 zl2 ⟨zl3,zl4⟩
    refine WL.nil ?_
    exact WX.mid (G:=Int × Int × Int × Int × Int × Int × Int × Int × Int × Int × List Int × Int × Int × Int × List Int × Zp × Option Addr × Nat × Option Addr × Nat) ⟨z17.fState.fPc,z17.fState.fLeft,z17.fState.fRegs.a0,z17.fState.fRegs.a1,z17.fState.fRegs.a2,z17.fState.fRegs.a3,z17.fX.fOp,z17.fX.fA,z17.fX.fB,z17.fX.fC,z17.fMem,z17.fAct.fKind,z17.fAct.fA,z17.fAct.fB,z17.fAct.fData,[],zkZ,zl0,zl1,zl2⟩ ⟨h,(Zle.refl _),zl3,zl4⟩ (.cons rfl (.cons rfl (.cons rfl .nil))) (.cons .h5 (.cons .h3 (.cons .h2 (.cons .here .nil))))
   rcases yL h with ⟨zl5,h⟩ | h
   ·skip
    obtain ⟨z18,zl6,h⟩:=zd h
    refine WL.a (d:=39) rfl rfl rfl (y6 yN rfl (y14 (k:=5) (hz.pv2 .h5) (hG0.mono (Zle.left _ _)) zl5 rfl)) ?_
    refine WL.pu rfl ?_
    refine WL.y2A (dd:=41) rfl rfl rfl (yy (l:=[.tmp 40]) Tryd.call87 rfl (.cons rfl .nil)) (.cons .here .nil) (ccz hz (.cons .here .nil) .h4 fun w pz ho=>y4J _ _ _ _ _ _ _ _ zl6 w pz (z1C.mono (Zle.left _ _)) (ZS.nil _ _ _) ho) ?_
    rintro zl7 zl8 zl9 zla zlb ⟨zlc,zld⟩
    refine WL.merge .here .h5 ?_
    refine WL.nil ?_
    exact WX.mid (G:=Int × Int × Int × Int × Int × Int × Int × Int × Int × Int × List Int × Int × Int × Int × List Int × Zp × Option Addr × Nat × Option Addr × Nat) ⟨z18.fState.fPc,z18.fState.fLeft,z18.fState.fRegs.a0,z18.fState.fRegs.a1,z18.fState.fRegs.a2,z18.fState.fRegs.a3,z18.fX.fOp,z18.fX.fA,z18.fX.fB,z18.fX.fC,z18.fMem,z18.fAct.fKind,z18.fAct.fA,z18.fAct.fB,z18.fAct.fData,([] ++ zl7),zl8,zl9,zla,zlb⟩ ⟨h,((Zle.left _ _).trans (Zle.y5 _ _ _)),(zlc.mono (Zle.y5 _ _ _)),(zld.mono (Zle.y5 _ _ _))⟩ (.cons rfl (.cons rfl (.cons rfl .nil))) (.cons .here (.cons .h3 (.cons .h2 (.cons .here .nil))))
   rcases yL h with ⟨zle,h⟩ | h
   ·skip
    obtain ⟨z19,zlf,h⟩:=zd h
    refine WL.a (d:=39) rfl rfl rfl (y6 yN rfl (y14 (k:=6) (hz.pv2 .h5) (hG0.mono (Zle.left _ _)) zle rfl)) ?_
    refine WL.pu rfl ?_
    refine WL.y2A (dd:=41) rfl rfl rfl (yy (l:=[.tmp 40]) Tryd.call88 rfl (.cons rfl .nil)) (.cons .here .nil) (ccz hz (.cons .here .nil) .h4 fun w pz ho=>y4r _ _ _ _ _ _ _ _ zlf w pz (z1C.mono (Zle.left _ _)) (ZS.nil _ _ _) ho) ?_
    rintro zlg zlh zli zlj zlk ⟨zll,zlm⟩
    refine WL.merge .here .h5 ?_
    refine WL.nil ?_
    exact WX.mid (G:=Int × Int × Int × Int × Int × Int × Int × Int × Int × Int × List Int × Int × Int × Int × List Int × Zp × Option Addr × Nat × Option Addr × Nat) ⟨z19.fState.fPc,z19.fState.fLeft,z19.fState.fRegs.a0,z19.fState.fRegs.a1,z19.fState.fRegs.a2,z19.fState.fRegs.a3,z19.fX.fOp,z19.fX.fA,z19.fX.fB,z19.fX.fC,z19.fMem,z19.fAct.fKind,z19.fAct.fA,z19.fAct.fB,z19.fAct.fData,([] ++ zlg),zlh,zli,zlj,zlk⟩ ⟨h,((Zle.left _ _).trans (Zle.y5 _ _ _)),(zll.mono (Zle.y5 _ _ _)),(zlm.mono (Zle.y5 _ _ _))⟩ (.cons rfl (.cons rfl (.cons rfl .nil))) (.cons .here (.cons .h3 (.cons .h2 (.cons .here .nil))))
   rcases yL h with ⟨zln,h⟩ | h
   ·skip
    obtain ⟨z1a,zlo,h⟩:=zd h
    refine WL.a (d:=39) rfl rfl rfl (y6 yN rfl (y14 (k:=7) (hz.pv2 .h5) (hG0.mono (Zle.left _ _)) zln rfl)) ?_
    refine WL.pu rfl ?_
    refine WL.y2A (dd:=41) rfl rfl rfl (yy (l:=[.tmp 40]) Tryd.call89 rfl (.cons rfl .nil)) (.cons .here .nil) (ccz hz (.cons .here .nil) .h4 fun w pz ho=>y4K _ _ _ _ _ _ _ _ zlo w pz (z1C.mono (Zle.left _ _)) (ZS.nil _ _ _) ho) ?_
    rintro zlp zlq zlr zls zlt ⟨zlu,zlv⟩
    refine WL.merge .here .h5 ?_
    refine WL.nil ?_
    exact WX.mid (G:=Int × Int × Int × Int × Int × Int × Int × Int × Int × Int × List Int × Int × Int × Int × List Int × Zp × Option Addr × Nat × Option Addr × Nat) ⟨z1a.fState.fPc,z1a.fState.fLeft,z1a.fState.fRegs.a0,z1a.fState.fRegs.a1,z1a.fState.fRegs.a2,z1a.fState.fRegs.a3,z1a.fX.fOp,z1a.fX.fA,z1a.fX.fB,z1a.fX.fC,z1a.fMem,z1a.fAct.fKind,z1a.fAct.fA,z1a.fAct.fB,z1a.fAct.fData,([] ++ zlp),zlq,zlr,zls,zlt⟩ ⟨h,((Zle.left _ _).trans (Zle.y5 _ _ _)),(zlu.mono (Zle.y5 _ _ _)),(zlv.mono (Zle.y5 _ _ _))⟩ (.cons rfl (.cons rfl (.cons rfl .nil))) (.cons .here (.cons .h3 (.cons .h2 (.cons .here .nil))))
   rcases yL h with ⟨zlw,h⟩ | h
   ·skip
    obtain ⟨z1b,zlx,h⟩:=zd h
    refine WL.a (d:=39) rfl rfl rfl (y6 yN rfl (y14 (k:=8) (hz.pv2 .h5) (hG0.mono (Zle.left _ _)) zlw rfl)) ?_
    refine WL.pu rfl ?_
    refine WL.yp (dd:=41) rfl rfl rfl (yy (l:=[.tmp 40]) Tryd.call90 rfl (.cons rfl .nil)) (.cons .here .nil) (ccz hz (.cons .here .nil) .h4 fun w pz ho=>y4L _ _ _ _ _ _ _ _ zlx w pz (z1C.mono (Zle.left _ _)) (ZS.nil _ _ _) ho) ?_
    rintro zly zlz zlA zlB ⟨zlC,zlD⟩
    refine WL.nil ?_
    exact WX.mid (G:=Int × Int × Int × Int × Int × Int × Int × Int × Int × Int × List Int × Int × Int × Int × List Int × Zp × Option Addr × Nat × Option Addr × Nat) ⟨z1b.fState.fPc,z1b.fState.fLeft,z1b.fState.fRegs.a0,z1b.fState.fRegs.a1,z1b.fState.fRegs.a2,z1b.fState.fRegs.a3,z1b.fX.fOp,z1b.fX.fA,z1b.fX.fB,z1b.fX.fC,z1b.fMem,z1b.fAct.fKind,z1b.fAct.fA,z1b.fAct.fB,z1b.fAct.fData,[],zly,zlz,zlA,zlB⟩ ⟨h,(Zle.refl _),zlC,zlD⟩ (.cons rfl (.cons rfl (.cons rfl .nil))) (.cons .h5 (.cons .h3 (.cons .h2 (.cons .here .nil))))
   rcases yL h with ⟨zlE,h⟩ | h
   ·skip
    obtain ⟨z1c,zlF,h⟩:=zd h
    refine WL.a (d:=39) rfl rfl rfl (y6 yN rfl (y14 (k:=9) (hz.pv2 .h5) (hG0.mono (Zle.left _ _)) zlE rfl)) ?_
    refine WL.pu rfl ?_
    refine WL.yp (dd:=41) rfl rfl rfl (yy (l:=[.tmp 40]) Tryd.call91 rfl (.cons rfl .nil)) (.cons .here .nil) (ccz hz (.cons .here .nil) .h4 fun w pz ho=>y4M _ _ _ _ _ _ _ _ zlF w pz (z1C.mono (Zle.left _ _)) (ZS.nil _ _ _) ho) ?_
    rintro zlG zlH zlI zlJ ⟨zlK,zlL⟩
    refine WL.nil ?_
    exact WX.mid (G:=Int × Int × Int × Int × Int × Int × Int × Int × Int × Int × List Int × Int × Int × Int × List Int × Zp × Option Addr × Nat × Option Addr × Nat) ⟨z1c.fState.fPc,z1c.fState.fLeft,z1c.fState.fRegs.a0,z1c.fState.fRegs.a1,z1c.fState.fRegs.a2,z1c.fState.fRegs.a3,z1c.fX.fOp,z1c.fX.fA,z1c.fX.fB,z1c.fX.fC,z1c.fMem,z1c.fAct.fKind,z1c.fAct.fA,z1c.fAct.fB,z1c.fAct.fData,[],zlG,zlH,zlI,zlJ⟩ ⟨h,(Zle.refl _),zlK,zlL⟩ (.cons rfl (.cons rfl (.cons rfl .nil))) (.cons .h5 (.cons .h3 (.cons .h2 (.cons .here .nil))))
   rcases yL h with ⟨zlM,h⟩ | h
   ·skip
    obtain ⟨z1d,zlN,h⟩:=zd h
    refine WL.a (d:=39) rfl rfl rfl (y6 yN rfl (y14 (k:=10) (hz.pv2 .h5) (hG0.mono (Zle.left _ _)) zlM rfl)) ?_
    refine WL.pu rfl ?_
    refine WL.yp (dd:=41) rfl rfl rfl (yy (l:=[.tmp 40]) Tryd.call92 rfl (.cons rfl .nil)) (.cons .here .nil) (ccz hz (.cons .here .nil) .h4 fun w pz ho=>y4c _ _ _ _ _ _ _ _ zlN w pz (z1C.mono (Zle.left _ _)) (ZS.nil _ _ _) ho) ?_
    rintro zlO zlP zlQ zlR ⟨zlS,zlT⟩
    refine WL.nil ?_
    exact WX.mid (G:=Int × Int × Int × Int × Int × Int × Int × Int × Int × Int × List Int × Int × Int × Int × List Int × Zp × Option Addr × Nat × Option Addr × Nat) ⟨z1d.fState.fPc,z1d.fState.fLeft,z1d.fState.fRegs.a0,z1d.fState.fRegs.a1,z1d.fState.fRegs.a2,z1d.fState.fRegs.a3,z1d.fX.fOp,z1d.fX.fA,z1d.fX.fB,z1d.fX.fC,z1d.fMem,z1d.fAct.fKind,z1d.fAct.fA,z1d.fAct.fB,z1d.fAct.fData,[],zlO,zlP,zlQ,zlR⟩ ⟨h,(Zle.refl _),zlS,zlT⟩ (.cons rfl (.cons rfl (.cons rfl .nil))) (.cons .h5 (.cons .h3 (.cons .h2 (.cons .here .nil))))
   rcases yL h with ⟨zlU,h⟩ | h
   ·skip
    obtain ⟨z1e,zlV,h⟩:=zd h
    refine WL.a (d:=39) rfl rfl rfl (y6 yN rfl (y14 (k:=11) (hz.pv2 .h5) (hG0.mono (Zle.left _ _)) zlU rfl)) ?_
    refine WL.pu rfl ?_
    refine WL.yp (dd:=41) rfl rfl rfl (yy (l:=[.tmp 40]) Tryd.call93 rfl (.cons rfl .nil)) (.cons .here .nil) (ccz hz (.cons .here .nil) .h4 fun w pz ho=>y4s _ _ _ _ _ _ _ _ zlV w pz (z1C.mono (Zle.left _ _)) (ZS.nil _ _ _) ho) ?_
    rintro zlW zlX zlY zlZ ⟨zm0,zm1⟩
    refine WL.nil ?_
    exact WX.mid (G:=Int × Int × Int × Int × Int × Int × Int × Int × Int × Int × List Int × Int × Int × Int × List Int × Zp × Option Addr × Nat × Option Addr × Nat) ⟨z1e.fState.fPc,z1e.fState.fLeft,z1e.fState.fRegs.a0,z1e.fState.fRegs.a1,z1e.fState.fRegs.a2,z1e.fState.fRegs.a3,z1e.fX.fOp,z1e.fX.fA,z1e.fX.fB,z1e.fX.fC,z1e.fMem,z1e.fAct.fKind,z1e.fAct.fA,z1e.fAct.fB,z1e.fAct.fData,[],zlW,zlX,zlY,zlZ⟩ ⟨h,(Zle.refl _),zm0,zm1⟩ (.cons rfl (.cons rfl (.cons rfl .nil))) (.cons .h5 (.cons .h3 (.cons .h2 (.cons .here .nil))))
   rcases yL h with ⟨zm2,h⟩ | h
   ·skip
    obtain ⟨z1f,zm3,h⟩:=zd h
    refine WL.a (d:=39) rfl rfl rfl (y6 yN rfl (y14 (k:=12) (hz.pv2 .h5) (hG0.mono (Zle.left _ _)) zm2 rfl)) ?_
    refine WL.pu rfl ?_
    refine WL.yp (dd:=41) rfl rfl rfl (yy (l:=[.tmp 40]) Tryd.call94 rfl (.cons rfl .nil)) (.cons .here .nil) (ccz hz (.cons .here .nil) .h4 fun w pz ho=>y4t _ _ _ _ _ _ _ _ zm3 w pz (z1C.mono (Zle.left _ _)) (ZS.nil _ _ _) ho) ?_
    rintro zm4 zm5 zm6 zm7 ⟨zm8,zm9⟩
    refine WL.nil ?_
    exact WX.mid (G:=Int × Int × Int × Int × Int × Int × Int × Int × Int × Int × List Int × Int × Int × Int × List Int × Zp × Option Addr × Nat × Option Addr × Nat) ⟨z1f.fState.fPc,z1f.fState.fLeft,z1f.fState.fRegs.a0,z1f.fState.fRegs.a1,z1f.fState.fRegs.a2,z1f.fState.fRegs.a3,z1f.fX.fOp,z1f.fX.fA,z1f.fX.fB,z1f.fX.fC,z1f.fMem,z1f.fAct.fKind,z1f.fAct.fA,z1f.fAct.fB,z1f.fAct.fData,[],zm4,zm5,zm6,zm7⟩ ⟨h,(Zle.refl _),zm8,zm9⟩ (.cons rfl (.cons rfl (.cons rfl .nil))) (.cons .h5 (.cons .h3 (.cons .h2 (.cons .here .nil))))
   rcases yL h with ⟨zma,h⟩ | h
   ·skip
    obtain ⟨z1g,zmb,h⟩:=zd h
    refine WL.a (d:=39) rfl rfl rfl (y6 yN rfl (y14 (k:=13) (hz.pv2 .h5) (hG0.mono (Zle.left _ _)) zma rfl)) ?_
    refine WL.pu rfl ?_
    refine WL.yp (dd:=41) rfl rfl rfl (yy (l:=[.tmp 40]) Tryd.call95 rfl (.cons rfl .nil)) (.cons .here .nil) (ccz hz (.cons .here .nil) .h4 fun w pz ho=>y4u _ _ _ _ _ _ _ _ zmb w pz (z1C.mono (Zle.left _ _)) (ZS.nil _ _ _) ho) ?_
    rintro zmc zmd zme zmf ⟨zmg,zmh⟩
    refine WL.nil ?_
    exact WX.mid (G:=Int × Int × Int × Int × Int × Int × Int × Int × Int × Int × List Int × Int × Int × Int × List Int × Zp × Option Addr × Nat × Option Addr × Nat) ⟨z1g.fState.fPc,z1g.fState.fLeft,z1g.fState.fRegs.a0,z1g.fState.fRegs.a1,z1g.fState.fRegs.a2,z1g.fState.fRegs.a3,z1g.fX.fOp,z1g.fX.fA,z1g.fX.fB,z1g.fX.fC,z1g.fMem,z1g.fAct.fKind,z1g.fAct.fA,z1g.fAct.fB,z1g.fAct.fData,[],zmc,zmd,zme,zmf⟩ ⟨h,(Zle.refl _),zmg,zmh⟩ (.cons rfl (.cons rfl (.cons rfl .nil))) (.cons .h5 (.cons .h3 (.cons .h2 (.cons .here .nil))))
   rcases yL h with ⟨zmi,h⟩ | h
   ·skip
    obtain ⟨z1h,zmj,h⟩:=zd h
    refine WL.a (d:=39) rfl rfl rfl (y6 yN rfl (y14 (k:=14) (hz.pv2 .h5) (hG0.mono (Zle.left _ _)) zmi rfl)) ?_
    refine WL.pu rfl ?_
    refine WL.y2A (dd:=41) rfl rfl rfl (yy (l:=[.tmp 40]) Tryd.call96 rfl (.cons rfl .nil)) (.cons .here .nil) (ccz hz (.cons .here .nil) .h4 fun w pz ho=>y5f _ _ _ _ _ _ _ _ zmj w pz (z1C.mono (Zle.left _ _)) (ZS.nil _ _ _) ho) ?_
    rintro zmk zml zmm zmn zmo ⟨zmp,zmq⟩
    refine WL.merge .here .h5 ?_
    refine WL.nil ?_
    exact WX.mid (G:=Int × Int × Int × Int × Int × Int × Int × Int × Int × Int × List Int × Int × Int × Int × List Int × Zp × Option Addr × Nat × Option Addr × Nat) ⟨z1h.fState.fPc,z1h.fState.fLeft,z1h.fState.fRegs.a0,z1h.fState.fRegs.a1,z1h.fState.fRegs.a2,z1h.fState.fRegs.a3,z1h.fX.fOp,z1h.fX.fA,z1h.fX.fB,z1h.fX.fC,z1h.fMem,z1h.fAct.fKind,z1h.fAct.fA,z1h.fAct.fB,z1h.fAct.fData,([] ++ zmk),zml,zmm,zmn,zmo⟩ ⟨h,((Zle.left _ _).trans (Zle.y5 _ _ _)),(zmp.mono (Zle.y5 _ _ _)),(zmq.mono (Zle.y5 _ _ _))⟩ (.cons rfl (.cons rfl (.cons rfl .nil))) (.cons .here (.cons .h3 (.cons .h2 (.cons .here .nil))))
   rcases yL h with ⟨zmr,h⟩ | h
   ·skip
    obtain ⟨z1i,zms,h⟩:=zd h
    refine WL.a (d:=39) rfl rfl rfl (y6 yN rfl (y14 (k:=15) (hz.pv2 .h5) (hG0.mono (Zle.left _ _)) zmr rfl)) ?_
    refine WL.pu rfl ?_
    refine WL.yp (dd:=41) rfl rfl rfl (yy (l:=[.tmp 40]) Tryd.call97 rfl (.cons rfl .nil)) (.cons .here .nil) (ccz hz (.cons .here .nil) .h4 fun w pz ho=>y5g _ _ _ _ _ _ _ _ zms w pz (z1C.mono (Zle.left _ _)) (ZS.nil _ _ _) ho) ?_
    rintro zmt zmu zmv zmw ⟨zmx,zmy⟩
    refine WL.nil ?_
    exact WX.mid (G:=Int × Int × Int × Int × Int × Int × Int × Int × Int × Int × List Int × Int × Int × Int × List Int × Zp × Option Addr × Nat × Option Addr × Nat) ⟨z1i.fState.fPc,z1i.fState.fLeft,z1i.fState.fRegs.a0,z1i.fState.fRegs.a1,z1i.fState.fRegs.a2,z1i.fState.fRegs.a3,z1i.fX.fOp,z1i.fX.fA,z1i.fX.fB,z1i.fX.fC,z1i.fMem,z1i.fAct.fKind,z1i.fAct.fA,z1i.fAct.fB,z1i.fAct.fData,[],zmt,zmu,zmv,zmw⟩ ⟨h,(Zle.refl _),zmx,zmy⟩ (.cons rfl (.cons rfl (.cons rfl .nil))) (.cons .h5 (.cons .h3 (.cons .h2 (.cons .here .nil))))
   rcases yL h with ⟨zmz,h⟩ | h
   ·skip
    obtain ⟨z1j,zmA,h⟩:=zd h
    refine WL.a (d:=39) rfl rfl rfl (y6 yN rfl (y14 (k:=16) (hz.pv2 .h5) (hG0.mono (Zle.left _ _)) zmz rfl)) ?_
    refine WL.pu rfl ?_
    refine WL.y2A (dd:=41) rfl rfl rfl (yy (l:=[.tmp 40]) Tryd.call98 rfl (.cons rfl .nil)) (.cons .here .nil) (ccz hz (.cons .here .nil) .h4 fun w pz ho=>y4N _ _ _ _ _ _ _ _ zmA w pz (z1C.mono (Zle.left _ _)) (ZS.nil _ _ _) ho) ?_
    rintro zmB zmC zmD zmE zmF ⟨zmG,zmH⟩
    refine WL.merge .here .h5 ?_
    refine WL.nil ?_
    exact WX.mid (G:=Int × Int × Int × Int × Int × Int × Int × Int × Int × Int × List Int × Int × Int × Int × List Int × Zp × Option Addr × Nat × Option Addr × Nat) ⟨z1j.fState.fPc,z1j.fState.fLeft,z1j.fState.fRegs.a0,z1j.fState.fRegs.a1,z1j.fState.fRegs.a2,z1j.fState.fRegs.a3,z1j.fX.fOp,z1j.fX.fA,z1j.fX.fB,z1j.fX.fC,z1j.fMem,z1j.fAct.fKind,z1j.fAct.fA,z1j.fAct.fB,z1j.fAct.fData,([] ++ zmB),zmC,zmD,zmE,zmF⟩ ⟨h,((Zle.left _ _).trans (Zle.y5 _ _ _)),(zmG.mono (Zle.y5 _ _ _)),(zmH.mono (Zle.y5 _ _ _))⟩ (.cons rfl (.cons rfl (.cons rfl .nil))) (.cons .here (.cons .h3 (.cons .h2 (.cons .here .nil))))
   rcases yL h with ⟨zmI,h⟩ | h
   ·skip
    obtain ⟨z1k,zmJ,h⟩:=zd h
    refine WL.a (d:=39) rfl rfl rfl (y6 yN rfl (y14 (k:=17) (hz.pv2 .h5) (hG0.mono (Zle.left _ _)) zmI rfl)) ?_
    refine WL.pu rfl ?_
    refine WL.yp (dd:=41) rfl rfl rfl (yy (l:=[.tmp 40]) Tryd.call99 rfl (.cons rfl .nil)) (.cons .here .nil) (ccz hz (.cons .here .nil) .h4 fun w pz ho=>y4O _ _ _ _ _ _ _ _ zmJ w pz (z1C.mono (Zle.left _ _)) (ZS.nil _ _ _) ho) ?_
    rintro zmK zmL zmM zmN ⟨zmO,zmP⟩
    refine WL.nil ?_
    exact WX.mid (G:=Int × Int × Int × Int × Int × Int × Int × Int × Int × Int × List Int × Int × Int × Int × List Int × Zp × Option Addr × Nat × Option Addr × Nat) ⟨z1k.fState.fPc,z1k.fState.fLeft,z1k.fState.fRegs.a0,z1k.fState.fRegs.a1,z1k.fState.fRegs.a2,z1k.fState.fRegs.a3,z1k.fX.fOp,z1k.fX.fA,z1k.fX.fB,z1k.fX.fC,z1k.fMem,z1k.fAct.fKind,z1k.fAct.fA,z1k.fAct.fB,z1k.fAct.fData,[],zmK,zmL,zmM,zmN⟩ ⟨h,(Zle.refl _),zmO,zmP⟩ (.cons rfl (.cons rfl (.cons rfl .nil))) (.cons .h5 (.cons .h3 (.cons .h2 (.cons .here .nil))))
   rcases yL h with ⟨zmQ,h⟩ | h
   ·skip
    obtain ⟨z1l,zmR,h⟩:=zd h
    refine WL.a (d:=39) rfl rfl rfl (y6 yN rfl (y14 (k:=18) (hz.pv2 .h5) (hG0.mono (Zle.left _ _)) zmQ rfl)) ?_
    refine WL.pu rfl ?_
    refine WL.yp (dd:=41) rfl rfl rfl (yy (l:=[.tmp 40]) Tryd.call100 rfl (.cons rfl .nil)) (.cons .here .nil) (ccz hz (.cons .here .nil) .h4 fun w pz ho=>y4v _ _ _ _ _ _ _ _ zmR w pz (z1C.mono (Zle.left _ _)) (ZS.nil _ _ _) ho) ?_
    rintro zmS zmT zmU zmV ⟨zmW,zmX⟩
    refine WL.nil ?_
    exact WX.mid (G:=Int × Int × Int × Int × Int × Int × Int × Int × Int × Int × List Int × Int × Int × Int × List Int × Zp × Option Addr × Nat × Option Addr × Nat) ⟨z1l.fState.fPc,z1l.fState.fLeft,z1l.fState.fRegs.a0,z1l.fState.fRegs.a1,z1l.fState.fRegs.a2,z1l.fState.fRegs.a3,z1l.fX.fOp,z1l.fX.fA,z1l.fX.fB,z1l.fX.fC,z1l.fMem,z1l.fAct.fKind,z1l.fAct.fA,z1l.fAct.fB,z1l.fAct.fData,[],zmS,zmT,zmU,zmV⟩ ⟨h,(Zle.refl _),zmW,zmX⟩ (.cons rfl (.cons rfl (.cons rfl .nil))) (.cons .h5 (.cons .h3 (.cons .h2 (.cons .here .nil))))
   rcases yL h with ⟨zmY,h⟩ | h
   ·skip
    obtain ⟨z11,zmZ,h⟩:=zd h
    refine WL.a (d:=39) rfl rfl rfl (y6 yN rfl (y14 (k:=19) (hz.pv2 .h5) (hG0.mono (Zle.left _ _)) zmY rfl)) ?_
    refine WL.pu rfl ?_
    refine WL.yp (dd:=41) rfl rfl rfl (yy (l:=[.tmp 40]) Tryd.call101 rfl (.cons rfl .nil)) (.cons .here .nil) (ccz hz (.cons .here .nil) .h4 fun w pz ho=>y4P _ _ _ _ _ _ _ _ zmZ w pz (z1C.mono (Zle.left _ _)) (ZS.nil _ _ _) ho) ?_
    rintro zn0 zn1 zn2 zn3 zn4
    refine WL.nil ?_
    refine WX.freezeS (ls:=z11.fAct.fData) .h1 .h5 hz (RR.yK (enc:=e5) (fun _=>rfl) _) ?_
    intro zn5 zfG zn6
    exact WX.mid (G:=Int × Int × Int × Int × Int × Int × Int × Int × Int × Int × List Int × Int × Int × Int × List Int × Zp × Option Addr × Nat × Option Addr × Nat) ⟨z11.fState.fPc,z11.fState.fLeft,z11.fState.fRegs.a0,z11.fState.fRegs.a1,z11.fState.fRegs.a2,z11.fState.fRegs.a3,z11.fX.fOp,z11.fX.fA,z11.fX.fB,z11.fX.fC,z11.fMem,z11.fAct.fKind,z11.fAct.fA,z11.fAct.fB,z11.fAct.fData,zn5,zn0,zn1,zn2,zn3⟩ ⟨h,zfG,(zn4.mono zfG),zn6⟩ (.cons rfl (.cons rfl (.cons rfl .nil))) (.cons .here (.cons .h3 (.cons .h2 (.cons .here .nil))))
   rcases yL h with ⟨zn7,h⟩ | h
   ·skip
    obtain ⟨z1m,zn8,h⟩:=zd h
    refine WL.a (d:=39) rfl rfl rfl (y6 yN rfl (y14 (k:=20) (hz.pv2 .h5) (hG0.mono (Zle.left _ _)) zn7 rfl)) ?_
    refine WL.pu rfl ?_
    refine WL.yp (dd:=41) rfl rfl rfl (yy (l:=[.tmp 40]) Tryd.call102 rfl (.cons rfl .nil)) (.cons .here .nil) (ccz hz (.cons .here .nil) .h4 fun w pz ho=>y4Q _ _ _ _ _ _ _ _ zn8 w pz (z1C.mono (Zle.left _ _)) (ZS.nil _ _ _) ho) ?_
    rintro zn9 zna znb znc ⟨znd,zne⟩
    refine WL.nil ?_
    exact WX.mid (G:=Int × Int × Int × Int × Int × Int × Int × Int × Int × Int × List Int × Int × Int × Int × List Int × Zp × Option Addr × Nat × Option Addr × Nat) ⟨z1m.fState.fPc,z1m.fState.fLeft,z1m.fState.fRegs.a0,z1m.fState.fRegs.a1,z1m.fState.fRegs.a2,z1m.fState.fRegs.a3,z1m.fX.fOp,z1m.fX.fA,z1m.fX.fB,z1m.fX.fC,z1m.fMem,z1m.fAct.fKind,z1m.fAct.fA,z1m.fAct.fB,z1m.fAct.fData,[],zn9,zna,znb,znc⟩ ⟨h,(Zle.refl _),znd,zne⟩ (.cons rfl (.cons rfl (.cons rfl .nil))) (.cons .h5 (.cons .h3 (.cons .h2 (.cons .here .nil))))
   rcases yL h with ⟨znf,h⟩ | h
   ·skip
    obtain ⟨z1n,zng,h⟩:=zd h
    refine WL.a (d:=39) rfl rfl rfl (y6 yN rfl (y14 (k:=21) (hz.pv2 .h5) (hG0.mono (Zle.left _ _)) znf rfl)) ?_
    refine WL.pu rfl ?_
    refine WL.yp (dd:=41) rfl rfl rfl (yy (l:=[.tmp 40]) Tryd.call103 rfl (.cons rfl .nil)) (.cons .here .nil) (ccz hz (.cons .here .nil) .h4 fun w pz ho=>y4R _ _ _ _ _ _ _ _ zng w pz (z1C.mono (Zle.left _ _)) (ZS.nil _ _ _) ho) ?_
    rintro znh zni znj znk ⟨znl,znm⟩
    refine WL.nil ?_
    exact WX.mid (G:=Int × Int × Int × Int × Int × Int × Int × Int × Int × Int × List Int × Int × Int × Int × List Int × Zp × Option Addr × Nat × Option Addr × Nat) ⟨z1n.fState.fPc,z1n.fState.fLeft,z1n.fState.fRegs.a0,z1n.fState.fRegs.a1,z1n.fState.fRegs.a2,z1n.fState.fRegs.a3,z1n.fX.fOp,z1n.fX.fA,z1n.fX.fB,z1n.fX.fC,z1n.fMem,z1n.fAct.fKind,z1n.fAct.fA,z1n.fAct.fB,z1n.fAct.fData,[],znh,zni,znj,znk⟩ ⟨h,(Zle.refl _),znl,znm⟩ (.cons rfl (.cons rfl (.cons rfl .nil))) (.cons .h5 (.cons .h3 (.cons .h2 (.cons .here .nil))))
   rcases yL h with ⟨znn,h⟩ | h
   ·skip
    obtain ⟨z1o,zno,h⟩:=zd h
    refine WL.a (d:=39) rfl rfl rfl (y6 yN rfl (y14 (k:=22) (hz.pv2 .h5) (hG0.mono (Zle.left _ _)) znn rfl)) ?_
    refine WL.pu rfl ?_
    refine WL.yp (dd:=41) rfl rfl rfl (yy (l:=[.tmp 40]) Tryd.call104 rfl (.cons rfl .nil)) (.cons .here .nil) (ccz hz (.cons .here .nil) .h4 fun w pz ho=>y4S _ _ _ _ _ _ _ _ zno w pz (z1C.mono (Zle.left _ _)) (ZS.nil _ _ _) ho) ?_
    rintro znp znq znr zns ⟨znt,znu⟩
    refine WL.nil ?_
    exact WX.mid (G:=Int × Int × Int × Int × Int × Int × Int × Int × Int × Int × List Int × Int × Int × Int × List Int × Zp × Option Addr × Nat × Option Addr × Nat) ⟨z1o.fState.fPc,z1o.fState.fLeft,z1o.fState.fRegs.a0,z1o.fState.fRegs.a1,z1o.fState.fRegs.a2,z1o.fState.fRegs.a3,z1o.fX.fOp,z1o.fX.fA,z1o.fX.fB,z1o.fX.fC,z1o.fMem,z1o.fAct.fKind,z1o.fAct.fA,z1o.fAct.fB,z1o.fAct.fData,[],znp,znq,znr,zns⟩ ⟨h,(Zle.refl _),znt,znu⟩ (.cons rfl (.cons rfl (.cons rfl .nil))) (.cons .h5 (.cons .h3 (.cons .h2 (.cons .here .nil))))
   rcases yL h with ⟨znv,h⟩ | h
   ·skip
    obtain ⟨z1p,znw,h⟩:=zd h
    refine WL.a (d:=39) rfl rfl rfl (y6 yN rfl (y14 (k:=23) (hz.pv2 .h5) (hG0.mono (Zle.left _ _)) znv rfl)) ?_
    refine WL.pu rfl ?_
    refine WL.y2A (dd:=41) rfl rfl rfl (yy (l:=[.tmp 40]) Tryd.call105 rfl (.cons rfl .nil)) (.cons .here .nil) (ccz hz (.cons .here .nil) .h4 fun w pz ho=>y5h _ _ _ _ _ _ _ _ znw w pz (z1C.mono (Zle.left _ _)) (ZS.nil _ _ _) ho) ?_
    rintro znx zny znz znA znB ⟨znC,znD⟩
    refine WL.merge .here .h5 ?_
    refine WL.nil ?_
    exact WX.mid (G:=Int × Int × Int × Int × Int × Int × Int × Int × Int × Int × List Int × Int × Int × Int × List Int × Zp × Option Addr × Nat × Option Addr × Nat) ⟨z1p.fState.fPc,z1p.fState.fLeft,z1p.fState.fRegs.a0,z1p.fState.fRegs.a1,z1p.fState.fRegs.a2,z1p.fState.fRegs.a3,z1p.fX.fOp,z1p.fX.fA,z1p.fX.fB,z1p.fX.fC,z1p.fMem,z1p.fAct.fKind,z1p.fAct.fA,z1p.fAct.fB,z1p.fAct.fData,([] ++ znx),zny,znz,znA,znB⟩ ⟨h,((Zle.left _ _).trans (Zle.y5 _ _ _)),(znC.mono (Zle.y5 _ _ _)),(znD.mono (Zle.y5 _ _ _))⟩ (.cons rfl (.cons rfl (.cons rfl .nil))) (.cons .here (.cons .h3 (.cons .h2 (.cons .here .nil))))
   rcases yL h with ⟨znE,h⟩ | h
   ·skip
    obtain ⟨z12,znF,h⟩:=zd h
    refine WL.a (d:=39) rfl rfl rfl (y6 yN rfl (y14 (k:=24) (hz.pv2 .h5) (hG0.mono (Zle.left _ _)) znE rfl)) ?_
    refine WL.pu rfl ?_
    refine WL.yp (dd:=41) rfl rfl rfl (yy (l:=[.tmp 40]) Tryd.call106 rfl (.cons rfl .nil)) (.cons .here .nil) (ccz hz (.cons .here .nil) .h4 fun w pz ho=>y4w _ _ _ _ _ _ _ _ znF w pz (z1C.mono (Zle.left _ _)) (ZS.nil _ _ _) ho) ?_
    rintro znG znH znI znJ znK
    refine WL.nil ?_
    refine WX.freezeS (ls:=z12.fAct.fData) .h1 .h5 hz (RR.yK (enc:=e5) (fun _=>rfl) _) ?_
    intro znL zfH znM
    exact WX.mid (G:=Int × Int × Int × Int × Int × Int × Int × Int × Int × Int × List Int × Int × Int × Int × List Int × Zp × Option Addr × Nat × Option Addr × Nat) ⟨z12.fState.fPc,z12.fState.fLeft,z12.fState.fRegs.a0,z12.fState.fRegs.a1,z12.fState.fRegs.a2,z12.fState.fRegs.a3,z12.fX.fOp,z12.fX.fA,z12.fX.fB,z12.fX.fC,z12.fMem,z12.fAct.fKind,z12.fAct.fA,z12.fAct.fB,z12.fAct.fData,znL,znG,znH,znI,znJ⟩ ⟨h,zfH,(znK.mono zfH),znM⟩ (.cons rfl (.cons rfl (.cons rfl .nil))) (.cons .here (.cons .h3 (.cons .h2 (.cons .here .nil))))
   rcases yL h with ⟨znN,h⟩ | h
   ·skip
    obtain ⟨z13,znO,h⟩:=zd h
    refine WL.a (d:=39) rfl rfl rfl (y6 yN rfl (y14 (k:=25) (hz.pv2 .h5) (hG0.mono (Zle.left _ _)) znN rfl)) ?_
    refine WL.pu rfl ?_
    refine WL.yp (dd:=41) rfl rfl rfl (yy (l:=[.tmp 40]) Tryd.call107 rfl (.cons rfl .nil)) (.cons .here .nil) (ccz hz (.cons .here .nil) .h4 fun w pz ho=>y4T _ _ _ _ _ _ _ _ znO w pz (z1C.mono (Zle.left _ _)) (ZS.nil _ _ _) ho) ?_
    rintro znP znQ znR znS znT
    refine WL.nil ?_
    refine WX.freezeS (ls:=z13.fAct.fData) .h1 .h5 hz (RR.yK (enc:=e5) (fun _=>rfl) _) ?_
    intro znU zfI znV
    exact WX.mid (G:=Int × Int × Int × Int × Int × Int × Int × Int × Int × Int × List Int × Int × Int × Int × List Int × Zp × Option Addr × Nat × Option Addr × Nat) ⟨z13.fState.fPc,z13.fState.fLeft,z13.fState.fRegs.a0,z13.fState.fRegs.a1,z13.fState.fRegs.a2,z13.fState.fRegs.a3,z13.fX.fOp,z13.fX.fA,z13.fX.fB,z13.fX.fC,z13.fMem,z13.fAct.fKind,z13.fAct.fA,z13.fAct.fB,z13.fAct.fData,znU,znP,znQ,znR,znS⟩ ⟨h,zfI,(znT.mono zfI),znV⟩ (.cons rfl (.cons rfl (.cons rfl .nil))) (.cons .here (.cons .h3 (.cons .h2 (.cons .here .nil))))
   cases h
  ·rintro z3D z3E z3F z3G z3H z3I z5v z5w z5x z5y z4w z3J z3K z3L z3k z5z z7E z7F z5A z5B ⟨h,zs7,zs8,znW⟩
   replace h:=(zkx z3D z3E z3F z3G z3H z3I z5v z5w z5x z5y z4w z3J z3K z3L z3k).symm.trans h
   refine WC.b ?_
   refine WC.y1j (fun i=>[8,9].contains i) [stb zaM 65 [(.int .i64 z3D),(.int .i64 z3E),(.int .u8 z3F),(.int .u8 z3G),(.int .u8 z3H),(.int .u8 z3I),(.int .u8 z5v),(.int .i64 z5w),(.int .i64 z5x),(.int .i64 z5y),(.slice z7E z4w.length z7F),(.int .u8 z3J),(.int .i64 z3K),(.int .i64 z3L),(.slice z5A z3k.length z5B)]] rfl ?_
   refine WD.a (i:=0) (d:=42) (by kernel_rfl) rfl z1 z2 rfl rfl rfl (fun _=>q_m rfl) ?_
   refine WD.a (i:=1) (d:=43) (by kernel_rfl) rfl z1 z2 rfl rfl rfl (fun _=>y9 rfl) ?_
   refine WD.a (i:=2) (d:=44) (by kernel_rfl) rfl z1 z2 rfl rfl rfl (fun _=>y4 y1x rfl rfl) ?_
   refine WD.e (i:=3) (d:=45) (by kernel_rfl) rfl z1 z2 rfl rfl rfl (y6p (cs:=[(.int .i64 z3D),(.int .i64 z3E),(.int .u8 z3F),(.int .u8 z3G),(.int .u8 z3H),(.int .u8 z3I)]) y2h rfl rfl (rd_sub (s:=6) .h3 rfl)) ?_
   refine WD.a (i:=4) (d:=46) (by kernel_rfl) rfl z1 z2 rfl rfl rfl (fun _=>q_m rfl) ?_
   refine WD.a (i:=5) (d:=47) (by kernel_rfl) rfl z1 z2 rfl rfl rfl (fun _=>y9 rfl) ?_
   refine WD.a (i:=6) (d:=48) (by kernel_rfl) rfl z1 z2 rfl rfl rfl (fun _=>y4 y3Y rfl rfl) ?_
   refine WD.y7V (i:=7) (d:=49) (by kernel_rfl) rfl z1 z2 rfl rfl rfl (Sin.of (.cons .h3 .nil)) (y6p (cs:=[(.int .u8 z3J),(.int .i64 z3K),(.int .i64 z3L),(.slice z5A z3k.length z5B)]) y3M rfl rfl (rd_sub (s:=4) .here rfl)) ?_
   refine WD.forced0 (i:=8) rfl (by kernel_rfl) rfl rfl rfl (Sin.of (.cons .h3 .nil)) (yC y2S rfl rfl rfl .h1 rfl rfl rfl) ?_
   refine WD.y30 (i:=9) rfl (by kernel_rfl) rfl rfl rfl (by kernel_rfl) (yC y1X rfl rfl rfl .h2 rfl rfl rfl) ?_
   refine WD.done (by kernel_rfl) ?_
   refine WX.a (WC.ret ?_)
   obtain rfl:=Option.some.inj h
   refine WX.y8 Tryd.results18 (.agg rfl y2h rfl (y1l .h1) (.agg rfl y3M rfl (y1l .here) .nil)) (fun w hw=>?_)
   exact ⟨z5z,z5A,z5B,y1B rfl rfl,znW,hw.sub (.cons .h2 .nil)⟩
def y1O (z2e : Sapi_Ins) (z8l : List Sapi_Ins) : Option Bool :=
 (y2i z2e ((z8l.length : Nat) : Int)).bind fun zfJ=>some (!zfJ)
set_option maxRecDepth 20000 in
theorem y6v (Z : Zp) (z9j : Addr) (zfK : Option Addr) (zfL : Nat) (z2e : Sapi_Ins) (z8l : List Sapi_Ins) (r : Bool)
  (h : y1O z2e z8l = some r) (w₀ : World) (hz : PZ [] w₀ Z)
  (hG1 : ZS Z 1 (p74 Z) (some ⟨1,0,none⟩) 26 y18)
  (zs9 : ZS Z 4 (fun r x=>r = e33 x) zfK zfL z8l)
  (znX : ZC Z z9j [(.slice zfK z8l.length zfL)]) :
  Calls Tryd.prog 31 #[(.agg #[(.int .u8 z2e.fOp),(.int .i64 z2e.fA),(.int .i64 z2e.fB),(.int .i64 z2e.fC)]),(.pointer (some z9j))] w₀ fun e w'=>e = .returned (.bool r) ∧ Hp [] w₀ w' []:=by
 unfold y1O at h
 refine Calls.ya (vs:=[(.agg #[(.int .u8 z2e.fOp),(.int .i64 z2e.fA),(.int .i64 z2e.fB),(.int .i64 z2e.fC)]),(.pointer (some z9j))]) (pre:=[]) (env:=[(0,(.agg #[(.int .u8 z2e.fOp),(.int .i64 z2e.fA),(.int .i64 z2e.fB),(.int .i64 z2e.fC)])),(1,(.pointer (some z9j)))]) Tryd.func31 rfl Tryd.ntmps31 rfl (Hp.nil w₀ _) rfl ?_
 refine WC.b (WC.a ?_)
 refine WL.new (dd:=2) rfl rfl rfl (y4k (cs:=[(.int .u8 z2e.fOp),(.int .i64 z2e.fA),(.int .i64 z2e.fB),(.int .i64 z2e.fC)]) rfl rfl) ?_
 intro zsa _
 refine WL.pu rfl (WL.nil (WX.a (WC.b ?_)))
 obtain ⟨zfJ,znY,h⟩:=zd h
 refine WC.a ?_
 refine WL.a (d:=4) rfl rfl rfl (y16 y1N rfl (y1l .here) rfl) ?_
 refine WL.a (d:=5) rfl rfl rfl (y6 y3t rfl (y33 hz.pv znX rfl)) ?_
 refine WL.a (d:=6) rfl rfl rfl (yH Tryd.underlying22 rfl) ?_
 refine WL.b (dd:=7) rfl rfl rfl (zm (l:=[.tmp 4,.tmp 6]) Tryd.call32 (.cons rfl (.cons rfl .nil))) .nil (cc hz .nil fun w pz ho=>y5J _ _ _ _ znY w pz hG1) ?_
 refine WL.pu rfl (WL.pu rfl (WL.nil (WX.a (WC.ret ?_))))
 obtain rfl:=Option.some.inj h
 refine WX.y8 Tryd.results31 (.tmp rfl .nil) (fun w hw=>?_)
 exact ⟨yx rfl,hw.sub .nil⟩
def yt (z1F : List Sapi_Ins) (z3l : Sapi_Ins → Option Bool) (z4x : Option Int) : Nat → Int → Option Int
 | 0,_=>none
 | zaN + 1,z1J=>if decide (z1J < ((z1F.length : Nat) : Int)) then chk ((0 : Int) ≤ z1J ∧ z1J < ((z1F.length : Nat) : Int)) ((z3l (⟨((nth z1F z1J).fOp),((nth z1F z1J).fA),((nth z1F z1J).fB),((nth z1F z1J).fC)⟩ : Sapi_Ins)).bind fun zaO=>if zaO then some z1J else yt z1F z3l z4x zaN (i64 (z1J + 1))) else z4x
theorem y2w {n : Nat} {z1F : List Sapi_Ins} {z3l : Sapi_Ins → Option Bool} {z4x : Option Int} {z1J : Int} {r : Int} (h : yt z1F z3l z4x n z1J = some r) : ∃ m,n = m + 1:=by
 cases n with
 | zero=>cases h
 | succ m=>exact ⟨m,rfl⟩
def yX (z1F : List Sapi_Ins) (z3l : Sapi_Ins → Option Bool) : Option Int :=
 jp0 (some (-1)) fun z4x=>yt z1F z3l z4x yB 0
set_option maxRecDepth 20000 in
theorem y3j (Z : Zp) (z8m : Option Addr) (z8n : Nat) (z4y : FuncId) (z6f : List Value) (z1F : List Sapi_Ins) (z3l : Sapi_Ins → Option Bool) (r : Int)
  (h : yX z1F z3l = some r) (w₀ : World) (hz : PZ [] w₀ Z)
  (znZ : ZS Z 4 (fun r x=>r = e33 x) z8m z8n z1F)
  (zo0 : ∀ args w,(callFunc z4y args).run Tryd.prog w = .ok (.enter z4y args) w)
  (zo1 : ∀ w : World,PZ [] w Z → ∀ (x0 : Sapi_Ins) (r : Bool),z3l x0 = some r → Calls Tryd.prog z4y (([(.agg #[(.int .u8 x0.fOp),(.int .i64 x0.fA),(.int .i64 x0.fB),(.int .i64 x0.fC)])] : List Value) ++ z6f).toArray w fun e w'=>e = .returned (.bool r) ∧ Hp [] w w' []) :
  Calls Tryd.prog 42 #[(.slice z8m z1F.length z8n),(.func (.func z4y) #[] (z6f).toArray)] w₀ fun e w'=>e = .returned (.int .i64 r) ∧ Hp [] w₀ w' []:=by
 unfold yX at h
 refine Calls.ya (vs:=[(.slice z8m z1F.length z8n),(.func (.func z4y) #[] (z6f).toArray)]) (pre:=[]) (env:=[(0,(.slice z8m z1F.length z8n)),(1,(.func (.func z4y) #[] (z6f).toArray))]) Tryd.func42 rfl Tryd.ntmps42 rfl (Hp.nil w₀ _) rfl ?_
 refine WC.b (WC.a (WL.pu rfl (WL.nil (WX.a ?_))))
 obtain ⟨z4x,zo2,h⟩:=y27 h
 refine WC.y1F ((z4x = some r)) ([]) ([]) ?_ ?_
 ·skip
  refine WC.b (WC.a (WL.pu rfl ?_))
  refine WL.a (d:=7) rfl rfl rfl (yH Tryd.underlying22 rfl) ?_
  refine WL.pu rfl (WL.nil (WX.a (WC.block ?_)))
  refine WC.y2B (fun (z7G : Nat) (z1J : Int)=>(yt z1F z3l z4x z7G z1J = some r)) (fun (z7G : Nat) (z1J : Int)=>[(0,(.slice z8m z1F.length z8n)),(1,(.func (.func z4y) #[] (z6f).toArray)),(7,(.int .i64 ((z1F.length : Nat) : Int))),(8,(.int .i64 z1J))]) (fun (z7G : Nat) (z1J : Int)=>[]) (fun (z7G : Nat) (z1J : Int)=>z7G) ⟨yB,0⟩ h (.cons rfl (.cons rfl (.cons rfl (.cons rfl .nil)))) .nil ?_
  rintro z7G z1J h
  obtain ⟨zaN,rfl⟩:=y2w h
  rw [yt] at h
  refine WC.b (WC.a (WL.pu rfl (WL.nil (WX.a (WC.b ?_)))))
  refine WC.cond rfl (fun zaP=>?_) (fun zaP=>?_)
  ·replace h:=yc h zaP
   refine WC.skip (WX.a (WC.b (WC.block (WC.b (WC.a (WL.pu rfl (WL.pu rfl (WL.nil (WX.a (WC.b ?_))))))))))
   obtain ⟨zo3,h⟩:=yb h
   obtain ⟨zaO,zo4,h⟩:=zd h
   refine WC.a (WL.pu rfl (WL.pu rfl (WL.pu rfl ?_)))
   refine WL.znth (dd:=14) rfl rfl (Z:=Z) (Pr:=(fun r x=>r = e33 x)) y15 rfl rfl znZ zo3 ?_
   rintro zsb zsc zo5 zsd rfl
   refine WL.a (d:=15) rfl rfl rfl (y16 y1N rfl (y56 hz.pv zo5) rfl) ?_
   refine WL.b (dd:=16) rfl rfl rfl (yy (l:=[.tmp 15]) (f:=z4y) (caps:=z6f) zo0 rfl (.cons rfl .nil)) .nil (fun w hw=>zo1 w (hz.now hw) (⟨((nth z1F z1J).fOp),((nth z1F z1J).fA),((nth z1F z1J).fB),((nth z1F z1J).fC)⟩ : Sapi_Ins) zaO  zo4) ?_
   refine WL.nil (WX.a ?_)
   refine WC.cond rfl (fun zaQ=>?_) (fun zaQ=>?_)
   ·replace h:=yc h zaQ
    refine WC.b (WC.a (WL.pu rfl (WL.pu rfl (WL.nil (WX.a (WC.ret (WX.yf (WX.y7 (WX.y7 (WX.yf (WX.y7 ?_)))))))))))
    obtain rfl:=Option.some.inj h
    refine WX.y8 Tryd.results42 (.tmp rfl .nil) (fun w hw=>?_)
    exact ⟨yx rfl,hw.sub .nil⟩
   ·replace h:=yd h zaQ
    refine WC.skip (WX.ye (WX.a (WC.a (WL.pu rfl (WL.pu rfl (WL.nil ?_))))))
    exact WX.round (G:=Nat × Int) ⟨zaN,(i64 (z1J + 1))⟩ h (Nat.lt_succ_self _) (.cons rfl (.cons rfl (.cons rfl (.cons rfl .nil)))) .nil
  ·replace h:=yd h zaP
   refine WC.exit (WX.yg (WX.yg (WX.yD ?_)))
   exact WX.mid (G:=Unit) () h .nil .nil
 ·rintro  h
  replace h:=zo2.symm.trans h
  refine WC.b (WC.a (WL.pu rfl (WL.nil (WX.a (WC.ret ?_)))))
  obtain rfl:=Option.some.inj h
  refine WX.y8 Tryd.results42 (.tmp rfl .nil) (fun w hw=>?_)
  exact ⟨yx rfl,hw.sub .nil⟩
def yI (z6g : List Sapi_Ins) (z7H : Sapi_Ins → Option Bool) : Option Bool :=
 (yX z6g z7H).bind fun zfM=>some (decide (zfM ≥ 0))
set_option maxRecDepth 20000 in
theorem y2Y (Z : Zp) (z9k : Option Addr) (z9l : Nat) (z5C : FuncId) (z7I : List Value) (z6g : List Sapi_Ins) (z7H : Sapi_Ins → Option Bool) (r : Bool)
  (h : yI z6g z7H = some r) (w₀ : World) (hz : PZ [] w₀ Z)
  (zo6 : ZS Z 4 (fun r x=>r = e33 x) z9k z9l z6g)
  (zo7 : ∀ args w,(callFunc z5C args).run Tryd.prog w = .ok (.enter z5C args) w)
  (zo8 : ∀ w : World,PZ [] w Z → ∀ (x0 : Sapi_Ins) (r : Bool),z7H x0 = some r → Calls Tryd.prog z5C (([(.agg #[(.int .u8 x0.fOp),(.int .i64 x0.fA),(.int .i64 x0.fB),(.int .i64 x0.fC)])] : List Value) ++ z7I).toArray w fun e w'=>e = .returned (.bool r) ∧ Hp [] w w' []) :
  Calls Tryd.prog 30 #[(.slice z9k z6g.length z9l),(.func (.func z5C) #[] (z7I).toArray)] w₀ fun e w'=>e = .returned (.bool r) ∧ Hp [] w₀ w' []:=by
 unfold yI at h
 refine Calls.ya (vs:=[(.slice z9k z6g.length z9l),(.func (.func z5C) #[] (z7I).toArray)]) (pre:=[]) (env:=[(0,(.slice z9k z6g.length z9l)),(1,(.func (.func z5C) #[] (z7I).toArray))]) Tryd.func30 rfl Tryd.ntmps30 rfl (Hp.nil w₀ _) rfl ?_
 refine WC.b (WC.a (WL.pu rfl (WL.nil (WX.a (WC.b ?_)))))
 obtain ⟨zfM,zo9,h⟩:=zd h
 refine WC.a (WL.pu rfl (WL.pu rfl ?_))
 refine WL.b (dd:=7) rfl rfl rfl (zm (l:=[.tmp 5,.tmp 6]) Tryd.call42 (.cons rfl (.cons rfl .nil))) .nil (cc hz .nil fun w pz ho=>y3j _ _ _ (z4y:=z5C) (z6f:=z7I) _ (z3l:=z7H) _ zo9 w pz zo6 zo7 zo8) ?_
 refine WL.pu rfl (WL.pu rfl (WL.nil (WX.a (WC.ret ?_))))
 obtain rfl:=Option.some.inj h
 refine WX.y8 Tryd.results30 (.tmp rfl .nil) (fun w hw=>?_)
 exact ⟨yx rfl,hw.sub .nil⟩
def y2x (z3M : List Sapi_Ins) : Option Bool :=
 (yI z3M (fun (y0 : Sapi_Ins)=>y1O y0 z3M)).bind fun zfN=>some (!zfN)
set_option maxRecDepth 20000 in
theorem y5K (Z : Zp) (z8o : Option Addr) (z8p : Nat) (z3M : List Sapi_Ins) (r : Bool)
  (h : y2x z3M = some r) (w₀ : World) (hz : PZ [] w₀ Z)
  (hG1 : ZS Z 1 (p74 Z) (some ⟨1,0,none⟩) 26 y18)
  (zfO : ZS Z 4 (fun r x=>r = e33 x) z8o z8p z3M) :
  Calls Tryd.prog 14 #[(.slice z8o z3M.length z8p)] w₀ fun e w'=>e = .returned (.bool r) ∧ Hp [] w₀ w' []:=by
 unfold y2x at h
 refine Calls.ya (vs:=[(.slice z8o z3M.length z8p)]) (pre:=[]) (env:=[(0,(.slice z8o z3M.length z8p))]) Tryd.func14 rfl Tryd.ntmps14 rfl (Hp.nil w₀ _) rfl ?_
 refine WC.b (WC.a ?_)
 refine WL.new (dd:=1) rfl rfl rfl (y4k (cs:=[(.slice z8o z3M.length z8p)]) rfl rfl) ?_
 intro zoa _
 refine WL.pu rfl (WL.nil (WX.a (WC.b ?_)))
 obtain ⟨zfN,zob,h⟩:=zd h
 refine WC.a ?_
 refine WL.a (d:=3) rfl rfl rfl (y6 y3t rfl (yi .here rfl)) ?_
 refine WL.a (d:=4) rfl rfl rfl (y6c (Eos.caps (l:=[.tmp 1]) (.cons rfl .nil))) ?_
 refine WL.b (dd:=5) rfl rfl rfl (zm (l:=[.tmp 3,.tmp 4]) Tryd.call30 (.cons rfl (.cons rfl .nil))) .nil (ccl hz .nil (.cons .here .nil) fun w pz ho la=>y2Y _ _ _ (z5C:=31) (z7I:=[(.pointer (some ⟨zoa,0,none⟩))]) _ (z7H:=(fun (y0 : Sapi_Ins)=>y1O y0 z3M)) _ zob w pz (zfO.mono (Zle.left _ _)) Tryd.call31 (fun w' hz' y0  r  hr=>y6v _ _ _ _ _ _ _ hr w' hz' ((hG1.mono (Zle.left _ _)).weak (fun _ _ h=>y13 (Zle.left _ _) h)) (zfO.mono (Zle.left _ _)) ((la _ (.head _) _).stb))) ?_
 refine WL.pu rfl (WL.pu rfl (WL.nil (WX.a (WC.ret ?_))))
 obtain rfl:=Option.some.inj h
 refine WX.y8 Tryd.results14 (.tmp rfl .nil) (fun w hw=>?_)
 exact ⟨yx rfl,hw.sub .nil⟩
def yz (zN : List Int) (zM : Int) (z4z : (List Int) → Int → Option (List Int)) : Nat → (List Int) → Int → Int → Option (List Int)
 | 0,_,_,_=>none
 | zaR + 1,zX,z1S,k2_9037=>if decide (k2_9037 < ((zN.length - (zM : Int).toNat : Nat) : Int)) then jp2 (fun (z37 : List Int) (z4A : Int)=>yz zN zM z4z zaR z37 z4A (i64 (k2_9037 + 1))) fun z9m=>chk ((0 : Int) ≤ k2_9037 ∧ k2_9037 < ((zN.length - (zM : Int).toNat : Nat) : Int)) (chk ((0 : Int) ≤ (i64 (k2_9037 - 1)) ∧ (i64 (k2_9037 - 1)) < ((zN.length - (zM : Int).toNat : Nat) : Int)) (if decide ((nth zX (zM + k2_9037)) ≠ (nth zX (zM + (i64 (k2_9037 - 1))))) then chk ((0 : Int) ≤ k2_9037 ∧ k2_9037 < ((zN.length - (zM : Int).toNat : Nat) : Int)) (chk ((0 : Int) ≤ z1S ∧ z1S < ((zX.length : Nat) : Int)) (z9m (zX.set (z1S : Int).toNat (nth zX (zM + k2_9037))) (i64 (z1S + 1)))) else z9m zX z1S)) else z4z zX z1S
theorem y3n {n : Nat} {zN : List Int} {zM : Int} {z4z : (List Int) → Int → Option (List Int)} {zX : List Int} {z1S : Int} {k2_9037 : Int} {r : List Int} (h : yz zN zM z4z n zX z1S k2_9037 = some r) : ∃ m,n = m + 1:=by
 cases n with
 | zero=>cases h
 | succ m=>exact ⟨m,rfl⟩
def yE (zN : List Int) (z4B : Option (List Int)) : Nat → Int → Option (List Int)
 | 0,_=>none
 | zaS + 1,zM=>if decide (zM < ((zN.length : Nat) : Int)) then jp0 (yE zN z4B zaS (i64 (zM + 1))) fun zaT=>chk ((0 : Int) ≤ zM ∧ zM < ((zN.length : Nat) : Int)) (chk ((0 : Int) ≤ (i64 (zM - 1)) ∧ (i64 (zM - 1)) < ((zN.length : Nat) : Int)) (if decide ((nth zN zM) = (nth zN (i64 (zM - 1)))) then chk ((0 : Int) ≤ zM ∧ zM < ((zN.length : Nat) : Int)) (jp2 (fun (z1T : List Int) (z1U : Int)=>chk ((0 : Int) ≤ z1U ∧ z1U ≤ ((z1T.length : Nat) : Int)) (chk ((0 : Int) ≤ z1U ∧ z1U ≤ (((z1T.take (z1U : Int).toNat ++ List.replicate (z1T.length - (z1U : Int).toNat) (0 : Int)).length : Nat) : Int)) (some ((z1T.take (z1U : Int).toNat ++ List.replicate (z1T.length - (z1U : Int).toNat) (0 : Int)).take (z1U : Int).toNat)))) fun z4z=>yz zN zM z4z yB zN zM 1) else zaT)) else z4B
theorem y3o {n : Nat} {zN : List Int} {z4B : Option (List Int)} {zM : Int} {r : List Int} (h : yE zN z4B n zM = some r) : ∃ m,n = m + 1:=by
 cases n with
 | zero=>cases h
 | succ m=>exact ⟨m,rfl⟩
def yF (zN : List Int) : Option (List Int) :=
 if decide (((zN.length : Nat) : Int) < 2) then some zN else jp0 (some zN) fun z4B=>yE zN z4B yB 1
set_option maxRecDepth 20000 in
theorem y49 (Z : Zp) (z2y : Option Addr) (z1u : Nat) (zN : List Int) (r : List Int)
  (h : yF zN = some r) (w₀ : World) (hz : PZ (fps [row (.slice z2y zN.length z1u) 3 1 (zN.flatMap e3)]) w₀ Z)
  (hown : Hp (fps [row (.slice z2y zN.length z1u) 3 1 (zN.flatMap e3)]) w₀ w₀ [row (.slice z2y zN.length z1u) 3 1 (zN.flatMap e3)]) :
  Calls Tryd.prog 35 #[(.slice z2y zN.length z1u)] w₀ fun e w'=>∃ zfP : Option Addr,∃ zfQ : Nat,e = .returned (.slice zfP r.length zfQ) ∧ True ∧ Hp (fps [row (.slice z2y zN.length z1u) 3 1 (zN.flatMap e3)]) w₀ w' [row (.slice zfP r.length zfQ) 3 1 (r.flatMap e3)]:=by
 unfold yF at h
 refine Calls.ya (vs:=[(.slice z2y zN.length z1u)]) (pre:=[row (.slice z2y zN.length z1u) 3 1 (zN.flatMap e3)]) (env:=[(0,(.slice z2y zN.length z1u))]) Tryd.func35 rfl Tryd.ntmps35 rfl (hown) rfl ?_
 refine WC.b (WC.a (WL.pu rfl (WL.nil (WX.a (WC.b (WC.b (WC.a (WL.pu rfl ?_))))))))
 refine WL.a (d:=7) rfl rfl rfl (yH Tryd.underlying30 rfl) ?_
 refine WL.pu rfl (WL.nil (WX.a ?_))
 refine WC.cond rfl (fun zaU=>?_) (fun zaU=>?_)
 ·replace h:=yc h zaU
  refine WC.b (WC.a (WL.pu rfl (WL.pu rfl (WL.nil (WX.a (WC.ret (WX.y7 ?_)))))))
  obtain rfl:=Option.some.inj h
  refine WX.y8 Tryd.results35 (.tmp rfl .nil) (fun w hw=>?_)
  exact ⟨z2y,z1u,yx rfl,trivial,hw.sub (.cons .here .nil)⟩
 ·replace h:=yd h zaU
  refine WC.skip (WX.a ?_)
  obtain ⟨z4B,zoc,h⟩:=y27 h
  refine WC.y1F ((z4B = some r)) ([(0,(.slice z2y zN.length z1u))]) ([row (.slice z2y zN.length z1u) 3 1 (zN.flatMap e3)]) ?_ ?_
  ·skip
   refine WC.b (WC.a (WL.pu rfl (WL.nil (WX.a (WC.block ?_)))))
   refine WC.y2B (fun (z7J : Nat) (zM : Int)=>(yE zN z4B z7J zM = some r)) (fun (z7J : Nat) (zM : Int)=>[(0,(.slice z2y zN.length z1u)),(3,(.int .i64 zM))]) (fun (z7J : Nat) (zM : Int)=>[row (.slice z2y zN.length z1u) 3 1 (zN.flatMap e3)]) (fun (z7J : Nat) (zM : Int)=>z7J) ⟨yB,1⟩ h (.cons rfl (.cons rfl .nil)) (.cons .here .nil) ?_
   rintro z7J zM h
   obtain ⟨zaS,rfl⟩:=y3o h
   rw [yE] at h
   refine WC.b (WC.b (WC.a (WL.pu rfl (WL.pu rfl ?_))))
   refine WL.a (d:=12) rfl rfl rfl (yH Tryd.underlying30 rfl) ?_
   refine WL.pu rfl (WL.nil (WX.a ?_))
   refine WC.cond rfl (fun zaV=>?_) (fun zaV=>?_)
   ·replace h:=yc h zaV
    refine WC.skip (WX.a ?_)
    obtain ⟨zaT,zod,h⟩:=y27 h
    refine WC.y1F ((zaT = some r)) ([(0,(.slice z2y zN.length z1u)),(3,(.int .i64 zM))]) ([row (.slice z2y zN.length z1u) 3 1 (zN.flatMap e3)]) ?_ ?_
    ·skip
     refine WC.block (WC.b ?_)
     obtain ⟨z8q,h⟩:=yb h
     obtain ⟨z9n,h⟩:=yb h
     refine WC.y1j (fun i=>[].contains i) [] rfl ?_
     refine WD.a (i:=0) (d:=16) (by kernel_rfl) rfl z1 z2 rfl rfl rfl (fun _=>q_m rfl) ?_
     refine WD.a (i:=1) (d:=17) (by kernel_rfl) rfl z1 z2 rfl rfl rfl (fun _=>q_m rfl) ?_
     refine WD.know (fun w hw=>Hp.y32 .here hw (by intro hz'; have:=z8q; rw [hz'] at this; omega)) ?_
     rintro ⟨z38,rfl⟩
     refine WD.a (i:=2) (d:=18) (by kernel_rfl) rfl z1 z2 rfl rfl rfl (fun _=>yw yu rfl rfl z8q.1 z8q.2 y1H) ?_
     refine WD.e (i:=3) (d:=19) (by kernel_rfl) rfl z1 z2 rfl rfl rfl (y6 yh rfl (y1P .here ((y1C (enc:=e3) (l:=zN) (i:=zM) (sz:=1) (fun _=>rfl) z8q.1 z8q.2) 0 _ rfl))) ?_
     refine WD.a (i:=4) (d:=20) (by kernel_rfl) rfl z1 z2 rfl rfl rfl (fun _=>q_m rfl) ?_
     refine WD.a (i:=5) (d:=21) (by kernel_rfl) rfl z1 z2 rfl rfl rfl (fun _=>q_m rfl) ?_
     refine WD.a (i:=6) (d:=22) (by kernel_rfl) rfl z1 z2 rfl rfl rfl (fun _=>y6b rfl rfl rfl) ?_
     refine WD.a (i:=7) (d:=23) (by kernel_rfl) rfl z1 z2 rfl rfl rfl (fun _=>yw yu rfl rfl z9n.1 z9n.2 y1H) ?_
     refine WD.e (i:=8) (d:=24) (by kernel_rfl) rfl z1 z2 rfl rfl rfl (y6 yh rfl (y1P .here ((y1C (enc:=e3) (l:=zN) (i:=i64 (zM - 1)) (sz:=1) (fun _=>rfl) z9n.1 z9n.2) 0 _ rfl))) ?_
     refine WD.a (i:=9) (d:=25) (by kernel_rfl) rfl z1 z2 rfl rfl rfl (fun _=>q_eql rfl rfl) ?_
     refine WD.done (by kernel_rfl) ?_
     refine WX.a ?_
     refine WC.cond rfl (fun zaW=>?_) (fun zaW=>?_)
     ·replace h:=yc h zaW
      refine WC.b ?_
      obtain ⟨z6h,h⟩:=yb h
      refine WC.a (WL.pu rfl (WL.pu rfl ?_))
      refine WL.y86 (dd:=28) rfl rfl yu rfl rfl .here z6h ?_
      refine WL.pu rfl (WL.nil (WX.a ?_))
      obtain ⟨z4z,zoe,h⟩:=y57 h
      refine WC.y3V (fun (z1T : List Int) (z1U : Int)=>(z4z z1T z1U = some r) ∧ (z1T.length = zN.length)) (fun (z1T : List Int) (z1U : Int)=>[(0,(.slice (some ⟨z38,0,none⟩) z1T.length z1u)),(3,(.int .i64 z1U))]) (fun (z1T : List Int) (z1U : Int)=>[row (.slice (some ⟨z38,0,none⟩) z1T.length z1u) 3 1 (z1T.flatMap e3)]) ?_ ?_
      ·skip
       refine WC.b (WC.a (WL.pu rfl (WL.nil (WX.a (WC.block ?_)))))
       refine WC.y6Y (fun (z7K : Nat) (zX : List Int) (z1S : Int) (k2_9037 : Int)=>(yz zN zM z4z z7K zX z1S k2_9037 = some r) ∧ (zX.length = zN.length)) (fun (z7K : Nat) (zX : List Int) (z1S : Int) (k2_9037 : Int)=>[(0,(.slice (some ⟨z38,0,none⟩) zX.length z1u)),(3,(.int .i64 z1S)),(4,(.slice (some ⟨z38,(zM : Int).toNat * 1,none⟩) (zN.length - (zM : Int).toNat) (z1u - (zM : Int).toNat))),(5,(.int .i64 k2_9037))]) (fun (z7K : Nat) (zX : List Int) (z1S : Int) (k2_9037 : Int)=>[row (.slice (some ⟨z38,0,none⟩) zX.length z1u) 3 1 (zX.flatMap e3)]) (fun (z7K : Nat) (zX : List Int) (z1S : Int) (k2_9037 : Int)=>z7K) ⟨yB,zN,zM,1⟩ ⟨h,rfl⟩ (.cons rfl (.cons rfl (.cons rfl (.cons rfl .nil)))) (.cons .here .nil) ?_
       rintro z7K zX z1S k2_9037 ⟨h,z7L⟩
       obtain ⟨zaR,rfl⟩:=y3n h
       rw [yz] at h
       refine WC.b (WC.b (WC.a (WL.pu rfl (WL.pu rfl ?_))))
       refine WL.a (d:=31) rfl rfl rfl (yH Tryd.underlying30 rfl) ?_
       refine WL.pu rfl (WL.nil (WX.a ?_))
       refine WC.cond rfl (fun zaX=>?_) (fun zaX=>?_)
       ·replace h:=yc h zaX
        refine WC.skip (WX.a ?_)
        obtain ⟨z9m,zof,h⟩:=y57 h
        refine WC.y3V (fun (z37 : List Int) (z4A : Int)=>(z9m z37 z4A = some r) ∧ (z37.length = zN.length)) (fun (z37 : List Int) (z4A : Int)=>[(0,(.slice (some ⟨z38,0,none⟩) z37.length z1u)),(3,(.int .i64 z4A)),(4,(.slice (some ⟨z38,(zM : Int).toNat * 1,none⟩) (zN.length - (zM : Int).toNat) (z1u - (zM : Int).toNat))),(5,(.int .i64 k2_9037))]) (fun (z37 : List Int) (z4A : Int)=>[row (.slice (some ⟨z38,0,none⟩) z37.length z1u) 3 1 (z37.flatMap e3)]) ?_ ?_
        ·skip
         refine WC.block (WC.b ?_)
         obtain ⟨z9o,h⟩:=yb h
         obtain ⟨z9p,h⟩:=yb h
         refine WC.y1j (fun i=>[].contains i) [] rfl ?_
         refine WD.a (i:=0) (d:=35) (by kernel_rfl) rfl z1 z2 rfl rfl rfl (fun _=>q_m rfl) ?_
         refine WD.a (i:=1) (d:=36) (by kernel_rfl) rfl z1 z2 rfl rfl rfl (fun _=>q_m rfl) ?_
         have zfR : (0 : Int) ≤ zM + k2_9037 ∧ zM + k2_9037 < ((zX.length : Nat) : Int):=by have h1:=z7L; have h2:=z6h; have h3:=z9o; omega
         refine WD.a (i:=2) (d:=37) (by kernel_rfl) rfl z1 z2 rfl rfl rfl (fun _=>yw yu rfl rfl z9o.1 z9o.2 (y64 z6h.1 z9o.1)) ?_
         refine WD.e (i:=3) (d:=38) (by kernel_rfl) rfl z1 z2 rfl rfl rfl (y6 yh rfl (y1P .here ((y1C (enc:=e3) (l:=zX) (i:=zM + k2_9037) (sz:=1) (fun _=>rfl) zfR.1 zfR.2) 0 _ rfl))) ?_
         refine WD.a (i:=4) (d:=39) (by kernel_rfl) rfl z1 z2 rfl rfl rfl (fun _=>q_m rfl) ?_
         refine WD.a (i:=5) (d:=40) (by kernel_rfl) rfl z1 z2 rfl rfl rfl (fun _=>q_m rfl) ?_
         refine WD.a (i:=6) (d:=41) (by kernel_rfl) rfl z1 z2 rfl rfl rfl (fun _=>y6b rfl rfl rfl) ?_
         have zfS : (0 : Int) ≤ zM + (i64 (k2_9037 - 1)) ∧ zM + (i64 (k2_9037 - 1)) < ((zX.length : Nat) : Int):=by have h1:=z7L; have h2:=z6h; have h3:=z9p; omega
         refine WD.a (i:=7) (d:=42) (by kernel_rfl) rfl z1 z2 rfl rfl rfl (fun _=>yw yu rfl rfl z9p.1 z9p.2 (y64 z6h.1 z9p.1)) ?_
         refine WD.e (i:=8) (d:=43) (by kernel_rfl) rfl z1 z2 rfl rfl rfl (y6 yh rfl (y1P .here ((y1C (enc:=e3) (l:=zX) (i:=zM + (i64 (k2_9037 - 1))) (sz:=1) (fun _=>rfl) zfS.1 zfS.2) 0 _ rfl))) ?_
         refine WD.a (i:=9) (d:=44) (by kernel_rfl) rfl z1 z2 rfl rfl rfl (fun _=>q_neq rfl rfl) ?_
         refine WD.done (by kernel_rfl) ?_
         refine WX.a ?_
         refine WC.cond rfl (fun zaY=>?_) (fun zaY=>?_)
         ·replace h:=yc h zaY
          refine WC.b ?_
          obtain ⟨z9q,h⟩:=yb h
          obtain ⟨z7M,h⟩:=yb h
          refine WC.a (WL.pu rfl (WL.pu rfl (WL.pu rfl (WL.pu rfl ?_))))
          have zfT : (0 : Int) ≤ zM + k2_9037 ∧ zM + k2_9037 < ((zX.length : Nat) : Int):=by have h1:=z7L; have h2:=z6h; have h3:=z9q; omega
          refine WL.a (d:=49) rfl rfl rfl (yw yu rfl rfl z9q.1 z9q.2 (y64 z6h.1 z9q.1)) ?_
          refine WL.a (d:=50) rfl rfl rfl (y6 yh rfl (y1P .here ((y1C (enc:=e3) (l:=zX) (i:=zM + k2_9037) (sz:=1) (fun _=>rfl) zfT.1 zfT.2) 0 _ rfl))) ?_
          refine WL.a (d:=51) rfl rfl rfl (yw yu rfl rfl z7M.1 z7M.2 y1H) ?_
          refine WL.yq rfl rfl (y3U (vs:=[(.int .i64 (nth zX (zM + k2_9037)))]) (ds:=(zX.set (z1S : Int).toNat (nth zX (zM + k2_9037))).flatMap e3) y36 rfl rfl rfl rfl (y5Q rfl y6e) .here (y58 (enc:=e3) (sz:=1) (k:=0) (fun _=>rfl) z7M.1 z7M.2 (by decide)) (y53 (enc:=e3) (l:=zX) (sz:=1) (vs:=[(.int .i64 (nth zX (zM + k2_9037)))]) (y:=(nth zX (zM + k2_9037))) (k:=0) (fun _=>rfl) z7M.1 z7M.2 rfl (Nat.le_of_ble_eq_true rfl))) ?_
          refine WL.relen .here (u:=(.slice (some ⟨z38,0,none⟩) ((zX.set (z1S : Int).toNat (nth zX (zM + k2_9037))).length) z1u)) (y45 (List.length_set).symm) ?_
          refine WL.repin (i:=0) rfl (u:=(.slice (some ⟨z38,0,none⟩) ((zX.set (z1S : Int).toNat (nth zX (zM + k2_9037))).length) z1u)) (y45 (List.length_set).symm) ?_
          refine WL.nil (WX.a (WC.a (WL.pu rfl (WL.pu rfl (WL.pu rfl (WL.nil (WX.ye ?_)))))))
          exact WX.mid (G:=List Int × Int) ⟨(zX.set (z1S : Int).toNat (nth zX (zM + k2_9037))),(i64 (z1S + 1))⟩ ⟨h,((List.length_set).trans z7L)⟩ (.cons rfl (.cons rfl (.cons rfl (.cons rfl .nil)))) (.cons .here .nil)
         ·replace h:=yd h zaY
          refine WC.skip (WX.ye ?_)
          exact WX.mid (G:=List Int × Int) ⟨zX,z1S⟩ ⟨h,z7L⟩ (.cons rfl (.cons rfl (.cons rfl (.cons rfl .nil)))) (.cons .here .nil)
        ·rintro z37 z4A ⟨h,zog⟩
         replace h:=(zof z37 z4A).symm.trans h
         refine WC.a (WL.pu rfl (WL.pu rfl (WL.pu rfl (WL.nil ?_))))
         exact WX.round (G:=Nat × List Int × Int × Int) ⟨zaR,z37,z4A,(i64 (k2_9037 + 1))⟩ ⟨h,zog⟩ (Nat.lt_succ_self _) (.cons rfl (.cons rfl (.cons rfl (.cons rfl .nil)))) (.cons .here .nil)
       ·replace h:=yd h zaX
        refine WC.exit (WX.yg (WX.yg (WX.yD ?_)))
        exact WX.mid (G:=List Int × Int) ⟨zX,z1S⟩ ⟨h,z7L⟩ (.cons rfl (.cons rfl .nil)) (.cons .here .nil)
      ·rintro z1T z1U ⟨h,zse⟩
       replace h:=(zoe z1T z1U).symm.trans h
       refine WC.b ?_
       obtain ⟨z9r,h⟩:=yb h
       refine WC.a (WL.pu rfl (WL.pu rfl ?_))
       refine WL.y81 (dd:=56) rfl rfl yu rfl rfl .here z9r ?_
       intro zsf zsg zoh
       refine WL.yq rfl rfl (y70 (enc:=e3) (z0:=(0 : Int)) (l:=z1T) yu y4H rfl zoh z9r (fun _=>rfl) (by decide) rfl y6i .here) ?_
       refine WL.relen .here (u:=(.slice (some ⟨z38,0,none⟩) ((z1T.take (z1U : Int).toNat ++ List.replicate (z1T.length - (z1U : Int).toNat) (0 : Int)).length) z1u)) (y45 (y5C z9r).symm) ?_
       refine WL.repin (i:=0) rfl (u:=(.slice (some ⟨z38,0,none⟩) ((z1T.take (z1U : Int).toNat ++ List.replicate (z1T.length - (z1U : Int).toNat) (0 : Int)).length) z1u)) (y45 (y5C z9r).symm) ?_
       refine WL.nil (WX.a (WC.b ?_))
       obtain ⟨zoi,h⟩:=yb h
       refine WC.a (WL.pu rfl (WL.pu rfl ?_))
       refine WL.y80 (dd:=59) (enc:=e3) (ls:=z1T.take (z1U : Int).toNat ++ List.replicate (z1T.length - (z1U : Int).toNat) (0 : Int)) rfl rfl yu rfl rfl .here (fun _=>rfl) zoi ?_
       intro zoj zol
       refine WL.pu rfl (WL.nil (WX.a (WC.ret (WX.yf (WX.y7 (WX.y7 (WX.yf (WX.y7 ?_))))))))
       obtain rfl:=Option.some.inj h
       refine WX.y8 Tryd.results35 (.tmp rfl .nil) (fun w hw=>?_)
       exact ⟨zoj,zol,yx rfl,trivial,hw.sub (.cons .here .nil)⟩
     ·replace h:=yd h zaW
      refine WC.skip (WX.ye ?_)
      exact WX.mid (G:=Unit) () h (.cons rfl (.cons rfl .nil)) (.cons .here .nil)
    ·rintro  h
     replace h:=zod.symm.trans h
     refine WC.a (WL.pu rfl (WL.pu rfl (WL.pu rfl (WL.nil ?_))))
     exact WX.round (G:=Nat × Int) ⟨zaS,(i64 (zM + 1))⟩ h (Nat.lt_succ_self _) (.cons rfl (.cons rfl .nil)) (.cons .here .nil)
   ·replace h:=yd h zaV
    refine WC.exit (WX.yg (WX.yg (WX.yD ?_)))
    exact WX.mid (G:=Unit) () h (.cons rfl .nil) (.cons .here .nil)
  ·rintro  h
   replace h:=zoc.symm.trans h
   refine WC.b (WC.a (WL.pu rfl (WL.pu rfl (WL.nil (WX.a (WC.ret ?_))))))
   obtain rfl:=Option.some.inj h
   refine WX.y8 Tryd.results35 (.tmp rfl .nil) (fun w hw=>?_)
   exact ⟨z2y,z1u,yx rfl,trivial,hw.sub (.cons .here .nil)⟩
def y1y (z6i : List Sapi_Ins) (z1V : Int) : Option (List Int) :=
 (y3u z6i z1V).bind fun z1s=>if !z1s.2 then some ([] : List Int) else jp1 (fun (z3m : List Int)=>(y1Y z3m).bind fun z9s=>(yF z9s).bind fun zfU=>some zfU) fun z8r=>jp1 (fun (z5D : Bool)=>if z5D then some ([] : List Int) else if decide (z1s.1.fOp = 20) then some ([z1s.1.fA] : List Int) else if decide (z1s.1.fOp = 21) then chk ((((([i64 (z1V + 1)] : List Int) ++ ([z1s.1.fB] : List Int)).length : Nat) : Int) * 8 ≤ 140737488355328 ∧ (((([i64 (z1V + 1)] : List Int) ++ ([z1s.1.fB] : List Int)).length : Nat) : Int) ≤ 4611686018427387904) (z8r (([i64 (z1V + 1)] : List Int) ++ ([z1s.1.fB] : List Int))) else if decide (z1s.1.fOp = 22) then chk ((((([i64 (z1V + 1)] : List Int) ++ ([z1s.1.fC] : List Int)).length : Nat) : Int) * 8 ≤ 140737488355328 ∧ (((([i64 (z1V + 1)] : List Int) ++ ([z1s.1.fC] : List Int)).length : Nat) : Int) ≤ 4611686018427387904) (z8r (([i64 (z1V + 1)] : List Int) ++ ([z1s.1.fC] : List Int))) else z8r ([i64 (z1V + 1)] : List Int)) fun z9t=>if decide (z1s.1.fOp = 19) then z9t (decide (z1s.1.fOp = 19)) else z9t (decide (z1s.1.fOp = 25))
set_option maxRecDepth 20000 in
theorem y3S (Z : Zp) (z9u : Option Addr) (z9v : Nat) (z6i : List Sapi_Ins) (z1V : Int) (r : List Int)
  (h : y1y z6i z1V = some r) (w₀ : World) (hz : PZ [] w₀ Z)
  (hG1 : ZS Z 1 (p74 Z) (some ⟨1,0,none⟩) 26 y18)
  (zom : ZS Z 4 (fun r x=>r = e33 x) z9u z9v z6i) :
  Calls Tryd.prog 15 #[(.slice z9u z6i.length z9v),(.int .i64 z1V)] w₀ fun e w'=>∃ zfV : Option Addr,∃ zfW : Nat,e = .returned (.slice zfV r.length zfW) ∧ True ∧ Hp [] w₀ w' [row (.slice zfV r.length zfW) 3 1 (r.flatMap e3)]:=by
 unfold y1y at h
 refine Calls.ya (vs:=[(.slice z9u z6i.length z9v),(.int .i64 z1V)]) (pre:=[]) (env:=[(0,(.slice z9u z6i.length z9v)),(1,(.int .i64 z1V))]) Tryd.func15 rfl Tryd.ntmps15 rfl (Hp.nil w₀ _) rfl ?_
 refine WC.b (WC.a (WL.pu rfl (WL.nil (WX.a (WC.b ?_)))))
 obtain ⟨z1s,zon,h⟩:=zd h
 refine WC.a (WL.pu rfl (WL.pu rfl ?_))
 refine WL.b (dd:=11) rfl rfl rfl (zm (l:=[.tmp 9,.tmp 10]) Tryd.call33 (.cons rfl (.cons rfl .nil))) .nil (cc hz .nil fun w pz ho=>y6H _ _ _ _ _ _ zon w pz hG1 zom) ?_
 refine WL.pu rfl (WL.pu rfl (WL.pu rfl ?_))
 refine WL.new (dd:=5) rfl rfl rfl (yG (cs:=[(.int .u8 0),(.int .i64 0),(.int .i64 0),(.int .i64 0)]) y3m rfl) ?_
 intro zfX _
 refine WL.yq rfl rfl (yC y3K rfl rfl rfl .here rfl rfl rfl) ?_
 refine WL.pu rfl (WL.nil (WX.a (WC.b (WC.b (WC.a (WL.pu rfl (WL.pu rfl (WL.nil (WX.a ?_)))))))))
 refine WC.cond rfl (fun zaZ=>?_) (fun zaZ=>?_)
 ·replace h:=yc h zaZ
  refine WC.b (WC.a (WL.pu rfl (WL.nil (WX.a (WC.ret (WX.y7 ?_))))))
  refine WX.nilRow 3 1 ?_
  obtain rfl:=Option.some.inj h
  refine WX.y8 Tryd.results15 (.tmp rfl .nil) (fun w hw=>?_)
  exact ⟨none,0,yx rfl,trivial,hw.sub (.cons .here .nil)⟩
 ·replace h:=yd h zaZ
  refine WC.skip (WX.a (WC.b (WC.a (WL.pu rfl (WL.pu rfl ?_)))))
  refine WL.new (dd:=18) rfl rfl rfl (yo (cs:=([i64 (z1V + 1)] : List Int).flatMap e3) yu (Eos.parts (l:=[.tmp 17]) (.cons rfl .nil) [0]) (fun _=>by kernel_rfl) rfl (by unfold maxLen; omega)) ?_
  intro zb0 _
  refine WL.pu rfl (WL.nil (WX.a ?_))
  obtain ⟨z8r,zoo,h⟩:=yS h
  refine WC.y6d (fun (z3m : List Int) (z6j : Option Addr) (z6k : Nat)=>(z8r z3m = some r)) (fun (z3m : List Int) (z6j : Option Addr) (z6k : Nat)=>[(7,(.slice z6j z3m.length z6k))]) (fun (z3m : List Int) (z6j : Option Addr) (z6k : Nat)=>[row (.slice z6j z3m.length z6k) 3 1 (z3m.flatMap e3)]) ?_ ?_
  ·skip
   refine WC.b (WC.a ?_)
   refine WL.a (d:=19) rfl rfl rfl (y4 y3d rfl rfl) ?_
   refine WL.a (d:=20) rfl rfl rfl (y6 yP rfl (yi .h1 rfl)) ?_
   refine WL.nil (WX.a (WC.block ?_))
   obtain ⟨z9t,zop,h⟩:=yS h
   refine WC.yO (fun (z5D : Bool)=>(z9t z5D = some r)) (fun (z5D : Bool)=>[(5,(.pointer (some ⟨zfX,0,none⟩))),(7,(.slice (some ⟨zb0,0,none⟩) (([i64 (z1V + 1)] : List Int).length) 1)),(20,(.int .u8 z1s.1.fOp)),(21,(.bool z5D))]) (fun (z5D : Bool)=>[row (.slice (some ⟨zb0,0,none⟩) (([i64 (z1V + 1)] : List Int).length) 1) 3 1 (([i64 (z1V + 1)] : List Int).flatMap e3),stb zfX 33 [(.int .u8 z1s.1.fOp),(.int .i64 z1s.1.fA),(.int .i64 z1s.1.fB),(.int .i64 z1s.1.fC)]]) ?_ ?_
   ·skip
    refine WC.b (WC.a (WL.pu rfl (WL.pu rfl (WL.nil (WX.a ?_)))))
    refine WC.cond rfl (fun zb1=>?_) (fun zb1=>?_)
    ·replace h:=yc h zb1
     refine WC.skip ?_
     exact WX.mid (G:=Bool) (decide (z1s.1.fOp = 19)) h (.cons rfl (.cons rfl (.cons rfl (.cons rfl .nil)))) (.cons .here (.cons .here .nil))
    ·replace h:=yd h zb1
     refine WC.a (WL.pu rfl (WL.pu rfl (WL.nil ?_)))
     exact WX.mid (G:=Bool) (decide (z1s.1.fOp = 25)) h (.cons rfl (.cons rfl (.cons rfl (.cons rfl .nil)))) (.cons .here (.cons .here .nil))
   ·rintro z5D h
    replace h:=(zop z5D).symm.trans h
    refine WC.cond rfl (fun zb2=>?_) (fun zb2=>?_)
    ·replace h:=yc h zb2
     refine WC.b (WC.a (WL.pu rfl (WL.nil (WX.a (WC.ret (WX.yf (WX.y7 ?_)))))))
     refine WX.nilRow 3 1 ?_
     obtain rfl:=Option.some.inj h
     refine WX.y8 Tryd.results15 (.tmp rfl .nil) (fun w hw=>?_)
     exact ⟨none,0,yx rfl,trivial,hw.sub (.cons .here .nil)⟩
    ·replace h:=yd h zb2
     refine WC.b (WC.a (WL.pu rfl (WL.pu rfl (WL.nil (WX.a ?_)))))
     refine WC.cond rfl (fun zb3=>?_) (fun zb3=>?_)
     ·replace h:=yc h zb3
      refine WC.b (WC.a ?_)
      refine WL.a (d:=26) rfl rfl rfl (y4 y1p rfl rfl) ?_
      refine WL.a (d:=27) rfl rfl rfl (y6 yh rfl (yi .h1 rfl)) ?_
      refine WL.new (dd:=28) rfl rfl rfl (yo (cs:=([z1s.1.fA] : List Int).flatMap e3) yu (Eos.parts (l:=[.tmp 27]) (.cons rfl .nil) [0]) (fun _=>by kernel_rfl) rfl (by unfold maxLen; omega)) ?_
      intro zoq _
      refine WL.pu rfl (WL.nil (WX.a (WC.ret (WX.yf (WX.y7 ?_)))))
      obtain rfl:=Option.some.inj h
      refine WX.y8 Tryd.results15 (.tmp rfl .nil) (fun w hw=>?_)
      exact ⟨(some ⟨zoq,0,none⟩),1,yx rfl,trivial,hw.sub (.cons .here .nil)⟩
     ·replace h:=yd h zb3
      refine WC.b (WC.a (WL.pu rfl (WL.pu rfl (WL.nil (WX.a ?_)))))
      refine WC.cond rfl (fun zb4=>?_) (fun zb4=>?_)
      ·replace h:=yc h zb4
       obtain ⟨zor,h⟩:=yb h
       refine WC.a (WL.pu rfl ?_)
       refine WL.a (d:=32) rfl rfl rfl (y4 y1J rfl rfl) ?_
       refine WL.a (d:=33) rfl rfl rfl (y6 yh rfl (yi .h1 rfl)) ?_
       refine WL.new (dd:=34) rfl rfl rfl (yo (cs:=([z1s.1.fB] : List Int).flatMap e3) yu (Eos.parts (l:=[.tmp 33]) (.cons rfl .nil) [0]) (fun _=>by kernel_rfl) rfl (by unfold maxLen; omega)) ?_
       intro zsh _
       refine WL.eff (d:=35) rfl rfl rfl (y3s (enc:=e3) (l1:=([i64 (z1V + 1)] : List Int)) (l2:=([z1s.1.fB] : List Int)) yu rfl rfl .h1 (fun _=>rfl) rfl rfl (y52 .here) (y3G y6i _) zor) ?_
       rintro ⟨zos,zot⟩ _
       refine WL.pu rfl (WL.nil (WX.ye ?_))
       exact WX.mid (G:=List Int × Option Addr × Nat) ⟨(([i64 (z1V + 1)] : List Int) ++ ([z1s.1.fB] : List Int)),zos,zot⟩ h (.cons rfl .nil) (.cons .here .nil)
      ·replace h:=yd h zb4
       refine WC.b (WC.a (WL.pu rfl (WL.pu rfl (WL.nil (WX.a ?_)))))
       refine WC.cond rfl (fun zb5=>?_) (fun zb5=>?_)
       ·replace h:=yc h zb5
        obtain ⟨zou,h⟩:=yb h
        refine WC.a (WL.pu rfl ?_)
        refine WL.a (d:=39) rfl rfl rfl (y4 y3L rfl rfl) ?_
        refine WL.a (d:=40) rfl rfl rfl (y6 yh rfl (yi .h1 rfl)) ?_
        refine WL.new (dd:=41) rfl rfl rfl (yo (cs:=([z1s.1.fC] : List Int).flatMap e3) yu (Eos.parts (l:=[.tmp 40]) (.cons rfl .nil) [0]) (fun _=>by kernel_rfl) rfl (by unfold maxLen; omega)) ?_
        intro zsi _
        refine WL.eff (d:=42) rfl rfl rfl (y3s (enc:=e3) (l1:=([i64 (z1V + 1)] : List Int)) (l2:=([z1s.1.fC] : List Int)) yu rfl rfl .h1 (fun _=>rfl) rfl rfl (y52 .here) (y3G y6i _) zou) ?_
        rintro ⟨zov,zow⟩ _
        refine WL.pu rfl (WL.nil (WX.ye ?_))
        exact WX.mid (G:=List Int × Option Addr × Nat) ⟨(([i64 (z1V + 1)] : List Int) ++ ([z1s.1.fC] : List Int)),zov,zow⟩ h (.cons rfl .nil) (.cons .here .nil)
       ·replace h:=yd h zb5
        refine WC.skip (WX.ye ?_)
        exact WX.mid (G:=List Int × Option Addr × Nat) ⟨([i64 (z1V + 1)] : List Int),(some ⟨zb0,0,none⟩),1⟩ h (.cons rfl .nil) (.cons .here .nil)
  ·rintro z3m z6j z6k h
   replace h:=(zoo z3m).symm.trans h
   refine WC.b ?_
   obtain ⟨z9s,zox,h⟩:=zd h
   refine WC.a (WL.pu rfl ?_)
   refine WL.y7W (dd:=44) rfl rfl rfl (zm (l:=[.tmp 43]) Tryd.call34 (.cons rfl .nil)) (.cons .here .nil) (cc hz (.cons .here .nil) fun w pz ho=>y6R (Z:=_) (ao:=z6j) (cap:=z6k) (l:=z3m) (r:=z9s) w pz  zox ho) ?_
   rintro  zoy
   refine WL.repin (i:=7) rfl (u:=(.slice z6j z9s.length z6k)) (y45 zoy.symm) ?_
   refine WL.nil (WX.a (WC.b ?_))
   obtain ⟨zfU,zoz,h⟩:=zd h
   refine WC.a (WL.pu rfl ?_)
   refine WL.y24 (dd:=46) rfl rfl rfl (zm (l:=[.tmp 45]) Tryd.call35 (.cons rfl .nil)) (.cons .here .nil) (cc hz (.cons .here .nil) fun w pz ho=>y49 _ _ _ _ _ zoz w pz  ho) ?_
   rintro zoA zoB _
   refine WL.pu rfl (WL.nil (WX.a (WC.ret ?_)))
   obtain rfl:=Option.some.inj h
   refine WX.y8 Tryd.results15 (.tmp rfl .nil) (fun w hw=>?_)
   exact ⟨zoA,zoB,yx rfl,trivial,hw.sub (.cons .here .nil)⟩
def yV (z2f : List Int) (z9w : Int → (List (Int × Int)) → (List Sapi_Ins) → Option (Bool × (List (Int × Int)))) (z1q : List Sapi_Ins) (z4C : Int → (List (Int × Int)) → Option (Bool × (List (Int × Int)))) : Nat → Int → Int → (List (Int × Int)) → Option (Bool × (List (Int × Int)))
 | 0,_,_,_=>none
 | zb6 + 1,z2T,z22,z2U=>if decide (z22 < ((z2f.length : Nat) : Int)) then chk ((0 : Int) ≤ z22 ∧ z22 < ((z2f.length : Nat) : Int)) ((z9w (nth z2f z22) z2U z1q).bind fun z5E=>if !z5E.1 then some (false,z5E.2) else yV z2f z9w z1q z4C zb6 (max z2T (y28 z5E.2 (nth z2f z22) 0)) (i64 (z22 + 1)) z5E.2) else z4C z2T z2U
theorem y4a {n : Nat} {z2f : List Int} {z9w : Int → (List (Int × Int)) → (List Sapi_Ins) → Option (Bool × (List (Int × Int)))} {z1q : List Sapi_Ins} {z4C : Int → (List (Int × Int)) → Option (Bool × (List (Int × Int)))} {z2T : Int} {z22 : Int} {z2U : List (Int × Int)} {r : Bool × (List (Int × Int))} (h : yV z2f z9w z1q z4C n z2T z22 z2U = some r) : ∃ m,n = m + 1:=by
 cases n with
 | zero=>cases h
 | succ m=>exact ⟨m,rfl⟩
def yQ : Nat → Int → (List (Int × Int)) → (List Sapi_Ins) → Option (Bool × (List (Int × Int)))
 | 0,_,_,_=>none
 | zb7 + 1,zU,z1D,z1q=>if y46 z1D zU then some ((decide ((y28 z1D zU 0) ≠ (-1))),z1D) else jp2 (fun (z2G : Int) (z3n : List (Int × Int))=>jp1 (fun (z5F : List (Int × Int))=>some (true,z5F)) fun z9x=>chk ((0 : Int) ≤ zU ∧ zU < ((z1q.length : Nat) : Int)) (if decide (((nth z1q zU).fOp) = 1) then chk ((0 : Int) ≤ zU ∧ zU < ((z1q.length : Nat) : Int)) (z9x (y19 (y19 z3n zU (i64 (z2G + 1))) zU (i64 (z2G + ((nth z1q zU).fA))))) else z9x (y19 z3n zU (i64 (z2G + 1))))) fun z4C=>(y1y z1q zU).bind fun z2f=>yV z2f (yQ zb7) z1q z4C yB 0 0 (y19 z1D zU (-1))
def y3p (zU : Int) (z1D : List (Int × Int)) (z1q : List Sapi_Ins) : Option (Bool × (List (Int × Int))):=yQ yB zU z1D z1q
set_option maxRecDepth 20000 in
theorem y5i : ∀ (n : Nat) (Z : Zp) (z2s : Addr) (z1K : Nat) (z2t : Addr) (z3o : Option Addr) (z3p : Nat) (z2z : Addr) (zU : Int) (z1D : List (Int × Int)) (z1q : List Sapi_Ins) (r : Bool × (List (Int × Int))) (w₀ : World) (hz : PZ (fps [y1q z1K (Value.int .i64) (Value.int .i64) z1D]) w₀ Z)
  (hG1 : ZS Z 1 (p74 Z) (some ⟨1,0,none⟩) 26 y18)
  (z3N : ZC Z z2s [(.map (some z1K))])
  (z5G : ZS Z 4 (fun r x=>r = e33 x) z3o z3p z1q)
  (z5H : ZC Z z2t [(.slice z3o z1q.length z3p)])
  (z7N : ZC Z z2z [(.func (.func 29) #[] #[(.pointer (some z2s)),(.pointer (some z2t)),(.pointer (some z2z))])]) (h : yQ n zU z1D z1q = some r)
  (hown : Hp (fps [y1q z1K (Value.int .i64) (Value.int .i64) z1D]) w₀ w₀ [y1q z1K (Value.int .i64) (Value.int .i64) z1D]),Calls Tryd.prog 29 #[(.int .i64 zU),(.pointer (some z2s)),(.pointer (some z2t)),(.pointer (some z2z))] w₀ fun e w'=>e = .returned (.bool r.1) ∧ Hp (fps [y1q z1K (Value.int .i64) (Value.int .i64) z1D]) w₀ w' [y1q z1K (Value.int .i64) (Value.int .i64) r.2]:=by
 intro n
 induction n with
 | zero=>intro Z z2s z1K z2t z3o z3p z2z zU z1D z1q r w₀ hz hG1 z3N z5G z5H z7N h hown; cases h
 | succ zb7 ih =>
  intro Z z2s z1K z2t z3o z3p z2z zU z1D z1q r w₀ hz hG1 z3N z5G z5H z7N h hown
  rw [yQ] at h
  refine Calls.ya (vs:=[(.int .i64 zU),(.pointer (some z2s)),(.pointer (some z2t)),(.pointer (some z2z))]) (pre:=[y1q z1K (Value.int .i64) (Value.int .i64) z1D]) (env:=[(0,(.int .i64 zU)),(1,(.pointer (some z2s))),(2,(.pointer (some z2t))),(3,(.pointer (some z2z)))]) Tryd.func29 rfl Tryd.ntmps29 rfl (hown) rfl ?_
  refine WC.b (WC.a (WL.pu rfl (WL.nil (WX.a (WC.b (WC.b (WC.a ?_)))))))
  refine WL.a (d:=12) rfl rfl rfl (y6 y3Z rfl (y33 hz.pv z3N rfl)) ?_
  refine WL.pu rfl ?_
  refine WL.a (d:=14) rfl rfl rfl (y85 (k:=zU) (dflt:=(0 : Int)) y47 Tryd.underlying54 y4H rfl rfl rfl .here) ?_
  refine WL.pu rfl (WL.pu rfl (WL.pu rfl (WL.pu rfl (WL.pu rfl (WL.nil (WX.a (WC.b (WC.a (WL.pu rfl (WL.nil (WX.a ?_)))))))))))
  refine WC.cond rfl (fun zb8=>?_) (fun zb8=>?_)
  ·replace h:=yc h zb8
   refine WC.b (WC.a (WL.pu rfl (WL.pu rfl (WL.pu rfl (WL.nil (WX.a (WC.ret (WX.y7 ?_))))))))
   obtain rfl:=Option.some.inj h
   refine WX.y8 Tryd.results29 (.tmp rfl .nil) (fun w hw=>?_)
   exact ⟨yx rfl,hw.sub (.cons .here .nil)⟩
  ·replace h:=yd h zb8
   refine WC.skip (WX.a (WC.b (WC.a ?_)))
   refine WL.a (d:=20) rfl rfl rfl (y6 y3Z rfl (y33 hz.pv z3N rfl)) ?_
   refine WL.pu rfl ?_
   refine WL.yq rfl rfl (y4q (k:=zU) (v:=(-1)) y47 Tryd.underlying54 rfl rfl rfl rfl .here) ?_
   refine WL.nil (WX.a (WC.b (WC.a (WL.pu rfl (WL.nil (WX.a ?_))))))
   obtain ⟨z4C,zoC,h⟩:=y57 h
   refine WC.y3V (fun (z2G : Int) (z3n : List (Int × Int))=>(z4C z2G z3n = some r)) (fun (z2G : Int) (z3n : List (Int × Int))=>[(0,(.int .i64 zU)),(1,(.pointer (some z2s))),(2,(.pointer (some z2t))),(8,(.int .i64 z2G))]) (fun (z2G : Int) (z3n : List (Int × Int))=>[y1q z1K (Value.int .i64) (Value.int .i64) z3n]) ?_ ?_
   ·skip
    refine WC.b ?_
    obtain ⟨z2f,zoD,h⟩:=zd h
    refine WC.a ?_
    refine WL.a (d:=22) rfl rfl rfl (y6 y3t rfl (y33 hz.pv z5H rfl)) ?_
    refine WL.pu rfl ?_
    refine WL.y24 (dd:=24) rfl rfl rfl (zm (l:=[.tmp 22,.tmp 23]) Tryd.call15 (.cons rfl (.cons rfl .nil))) .nil (cc hz .nil fun w pz ho=>y3S _ _ _ _ _ _ zoD w pz hG1 z5G) ?_
    rintro zfY zfZ _
    refine WL.a (d:=25) rfl rfl rfl (yH Tryd.underlying30 rfl) ?_
    refine WL.pu rfl (WL.nil (WX.a (WC.block ?_)))
    refine WC.y6Y (fun (z7O : Nat) (z2T : Int) (z22 : Int) (z2U : List (Int × Int))=>(yV z2f (yQ zb7) z1q z4C z7O z2T z22 z2U = some r)) (fun (z7O : Nat) (z2T : Int) (z22 : Int) (z2U : List (Int × Int))=>[(0,(.int .i64 zU)),(1,(.pointer (some z2s))),(2,(.pointer (some z2t))),(3,(.pointer (some z2z))),(8,(.int .i64 z2T)),(24,(.slice zfY z2f.length zfZ)),(25,(.int .i64 ((z2f.length : Nat) : Int))),(26,(.int .i64 z22))]) (fun (z7O : Nat) (z2T : Int) (z22 : Int) (z2U : List (Int × Int))=>[row (.slice zfY z2f.length zfZ) 3 1 (z2f.flatMap e3),y1q z1K (Value.int .i64) (Value.int .i64) z2U]) (fun (z7O : Nat) (z2T : Int) (z22 : Int) (z2U : List (Int × Int))=>z7O) ⟨yB,0,0,(y19 z1D zU (-1))⟩ h (.cons rfl (.cons rfl (.cons rfl (.cons rfl (.cons rfl (.cons rfl (.cons rfl (.cons rfl .nil)))))))) (.cons .here (.cons .here .nil)) ?_
    rintro z7O z2T z22 z2U h
    obtain ⟨zb6,rfl⟩:=y4a h
    rw [yV] at h
    refine WC.b (WC.a (WL.pu rfl (WL.nil (WX.a (WC.b ?_)))))
    refine WC.cond rfl (fun zb9=>?_) (fun zb9=>?_)
    ·replace h:=yc h zb9
     refine WC.skip (WX.a (WC.b (WC.block (WC.b ?_))))
     obtain ⟨z8s,h⟩:=yb h
     refine WC.a ?_
     refine WL.know (fun w hw=>Hp.y32 .here hw (by intro hz'; have:=z8s; rw [hz'] at this; omega)) ?_
     rintro ⟨zsj,rfl⟩
     refine WL.a (d:=28) rfl rfl rfl (yw yu rfl rfl z8s.1 z8s.2 y1H) ?_
     refine WL.a (d:=29) rfl rfl rfl (y6 yh rfl (y1P .here ((y1C (enc:=e3) (l:=z2f) (i:=z22) (sz:=1) (fun _=>rfl) z8s.1 z8s.2) 0 _ rfl))) ?_
     refine WL.pu rfl (WL.nil (WX.a (WC.b (WC.b ?_))))
     obtain ⟨z5E,zoE,h⟩:=zd h
     refine WC.a ?_
     refine WL.a (d:=30) rfl rfl rfl (y6 y7z rfl (y33 hz.pv z7N rfl)) ?_
     refine WL.pu rfl ?_
     refine WL.b (dd:=32) rfl rfl rfl (yy (l:=[.tmp 31]) Tryd.call29 rfl (.cons rfl .nil)) (.cons .h1 .nil) (cc hz (.cons .h1 .nil) fun w pz ho=>ih (Z:=_) (z2s:=z2s) (z1K:=z1K) (z2t:=z2t) (z3o:=z3o) (z3p:=z3p) (z2z:=z2z) (zU:=(nth z2f z22)) (z1D:=z2U) (z1q:=z1q) (r:=z5E) w pz hG1 z3N z5G z5H z7N zoE ho) ?_
     refine WL.pu rfl (WL.nil (WX.a ?_))
     refine WC.cond rfl (fun zba=>?_) (fun zba=>?_)
     ·replace h:=yc h zba
      refine WC.b (WC.a (WL.pu rfl (WL.nil (WX.a (WC.ret (WX.y7 (WX.yf (WX.y7 (WX.y7 (WX.yf (WX.y7 ?_)))))))))))
      obtain rfl:=Option.some.inj h
      refine WX.y8 Tryd.results29 (.tmp rfl .nil) (fun w hw=>?_)
      exact ⟨yx rfl,hw.sub (.cons .here .nil)⟩
     ·replace h:=yd h zba
      refine WC.skip (WX.a (WC.a (WL.pu rfl ?_)))
      refine WL.a (d:=35) rfl rfl rfl (y6 y3Z rfl (y33 hz.pv z3N rfl)) ?_
      refine WL.pu rfl ?_
      refine WL.a (d:=37) rfl rfl rfl (y75 (k:=(nth z2f z22)) (dflt:=(0 : Int)) y47 Tryd.underlying54 y4H rfl rfl rfl .here) ?_
      refine WL.a (d:=38) rfl rfl rfl (q_max rfl rfl rfl) ?_
      refine WL.pu rfl (WL.nil (WX.ye (WX.a (WC.a (WL.pu rfl (WL.pu rfl (WL.nil ?_)))))))
      exact WX.round (G:=Nat × Int × Int × (List (Int × Int))) ⟨zb6,(max z2T (y28 z5E.2 (nth z2f z22) 0)),(i64 (z22 + 1)),z5E.2⟩ h (Nat.lt_succ_self _) (.cons rfl (.cons rfl (.cons rfl (.cons rfl (.cons rfl (.cons rfl (.cons rfl (.cons rfl .nil)))))))) (.cons .h1 (.cons .here .nil))
    ·replace h:=yd h zb9
     refine WC.exit (WX.yg (WX.yg (WX.yD ?_)))
     exact WX.mid (G:=Int × (List (Int × Int))) ⟨z2T,z2U⟩ h (.cons rfl (.cons rfl (.cons rfl (.cons rfl .nil)))) (.cons .h1 .nil)
   ·rintro z2G z3n h
    replace h:=(zoC z2G z3n).symm.trans h
    refine WC.b (WC.a ?_)
    refine WL.a (d:=40) rfl rfl rfl (y6 y3Z rfl (y33 hz.pv z3N rfl)) ?_
    refine WL.pu rfl (WL.pu rfl (WL.pu rfl ?_))
    refine WL.yq rfl rfl (y4q (k:=zU) (v:=i64 (z2G + 1)) y47 Tryd.underlying54 rfl rfl rfl rfl .here) ?_
    refine WL.nil (WX.a ?_)
    obtain ⟨z9x,zoF,h⟩:=yS h
    refine WC.yO (fun (z5F : List (Int × Int))=>(z9x z5F = some r)) (fun (z5F : List (Int × Int))=>[]) (fun (z5F : List (Int × Int))=>[y1q z1K (Value.int .i64) (Value.int .i64) z5F]) ?_ ?_
    ·skip
     refine WC.b ?_
     obtain ⟨zoG,h⟩:=yb h
     refine WC.a ?_
     refine WL.a (d:=44) rfl rfl rfl (y6 y3t rfl (y33 hz.pv z5H rfl)) ?_
     refine WL.pu rfl ?_
     refine WL.znth (dd:=46) rfl rfl (Z:=Z) (Pr:=(fun r x=>r = e33 x)) y15 rfl rfl z5G zoG ?_
     rintro zsk zsl zoH zsm rfl
     refine WL.a (d:=47) rfl rfl rfl (y4 y3d rfl rfl) ?_
     refine WL.a (d:=48) rfl rfl rfl (y6 yP rfl (y3z hz.pv zoH rfl)) ?_
     refine WL.pu rfl (WL.nil (WX.a ?_))
     refine WC.cond rfl (fun zbb=>?_) (fun zbb=>?_)
     ·replace h:=yc h zbb
      obtain ⟨zoI,h⟩:=yb h
      refine WC.y1j (fun i=>[9].contains i) [] rfl ?_
      refine WD.e (i:=0) (d:=50) (by kernel_rfl) rfl z1 z2 rfl rfl rfl (y6 y3Z rfl (y33 hz.pv z3N rfl)) ?_
      refine WD.a (i:=1) (d:=51) (by kernel_rfl) rfl z1 z2 rfl rfl rfl (fun _=>q_m rfl) ?_
      refine WD.a (i:=2) (d:=52) (by kernel_rfl) rfl z1 z2 rfl rfl rfl (fun _=>q_m rfl) ?_
      refine WD.e (i:=3) (d:=53) (by kernel_rfl) rfl z1 z2 rfl rfl rfl (y6 y3t rfl (y33 hz.pv z5H rfl)) ?_
      refine WD.a (i:=4) (d:=54) (by kernel_rfl) rfl z1 z2 rfl rfl rfl (fun _=>q_m rfl) ?_
      refine WD.znth (j:=5) (dd:=55) (by kernel_rfl) rfl z1 z2 rfl rfl (Z:=Z) (Pr:=(fun r x=>r = e33 x)) y15 rfl rfl z5G zoI ?_
      rintro zsn zso zoJ zsp rfl
      refine WD.a (i:=6) (d:=56) (by kernel_rfl) rfl z1 z2 rfl rfl rfl (fun _=>y4 y1p rfl rfl) ?_
      refine WD.e (i:=7) (d:=57) (by kernel_rfl) rfl z1 z2 rfl rfl rfl (y6 yh rfl (y3z hz.pv zoJ rfl)) ?_
      refine WD.a (i:=8) (d:=58) (by kernel_rfl) rfl z1 z2 rfl rfl rfl (fun _=>q_add rfl rfl rfl) ?_
      refine WD.y30 (i:=9) rfl (by kernel_rfl) rfl rfl rfl (by kernel_rfl) (y4q (k:=zU) (v:=i64 (z2G + ((nth z1q zU).fA))) y47 Tryd.underlying54 rfl rfl rfl rfl .here) ?_
      refine WD.done (by kernel_rfl) ?_
      exact WX.mid (G:=(List (Int × Int))) (y19 (y19 z3n zU (i64 (z2G + 1))) zU (i64 (z2G + ((nth z1q zU).fA)))) h .nil (.cons .here .nil)
     ·replace h:=yd h zbb
      refine WC.skip ?_
      exact WX.mid (G:=(List (Int × Int))) (y19 z3n zU (i64 (z2G + 1))) h .nil (.cons .here .nil)
    ·rintro z5F h
     replace h:=(zoF z5F).symm.trans h
     refine WC.b (WC.a (WL.pu rfl (WL.nil (WX.a (WC.ret ?_)))))
     obtain rfl:=Option.some.inj h
     refine WX.y8 Tryd.results29 (.tmp rfl .nil) (fun w hw=>?_)
     exact ⟨yx rfl,hw.sub (.cons .here .nil)⟩
theorem y67 (Z : Zp) (z2s : Addr) (z1K : Nat) (z2t : Addr) (z3o : Option Addr) (z3p : Nat) (z2z : Addr) (zU : Int) (z1D : List (Int × Int)) (z1q : List Sapi_Ins) (r : Bool × (List (Int × Int))) (w₀ : World) (hz : PZ (fps [y1q z1K (Value.int .i64) (Value.int .i64) z1D]) w₀ Z)
  (hG1 : ZS Z 1 (p74 Z) (some ⟨1,0,none⟩) 26 y18)
  (z3N : ZC Z z2s [(.map (some z1K))])
  (z5G : ZS Z 4 (fun r x=>r = e33 x) z3o z3p z1q)
  (z5H : ZC Z z2t [(.slice z3o z1q.length z3p)])
  (z7N : ZC Z z2z [(.func (.func 29) #[] #[(.pointer (some z2s)),(.pointer (some z2t)),(.pointer (some z2z))])]) (h : y3p zU z1D z1q = some r)
  (hown : Hp (fps [y1q z1K (Value.int .i64) (Value.int .i64) z1D]) w₀ w₀ [y1q z1K (Value.int .i64) (Value.int .i64) z1D]) : Calls Tryd.prog 29 #[(.int .i64 zU),(.pointer (some z2s)),(.pointer (some z2t)),(.pointer (some z2z))] w₀ fun e w'=>e = .returned (.bool r.1) ∧ Hp (fps [y1q z1K (Value.int .i64) (Value.int .i64) z1D]) w₀ w' [y1q z1K (Value.int .i64) (Value.int .i64) r.2]:=y5i yB Z z2s z1K z2t z3o z3p z2z zU z1D z1q r w₀ hz hG1 z3N z5G z5H z7N h hown
def y1k (z2H : List Sapi_Ins) (z2N : Int) : Option (Int × Bool) :=
 (y2x z2H).bind fun z9y=>if ((!z9y) || (decide (z2N < 0))) || (decide (z2N > ((z2H.length : Nat) : Int))) then some (0,false) else (y3p z2N (y19 ([] : List (Int × Int)) ((z2H.length : Nat) : Int) 0) z2H).bind fun z9z=>if !z9z.1 then some (0,false) else some ((y28 z9z.2 z2N 0),true)
set_option maxRecDepth 20000 in
theorem y3e (Z : Zp) (z7P : Option Addr) (z7Q : Nat) (z2H : List Sapi_Ins) (z2N : Int) (r : Int × Bool)
  (h : y1k z2H z2N = some r) (w₀ : World) (hz : PZ [] w₀ Z)
  (hG1 : ZS Z 1 (p74 Z) (some ⟨1,0,none⟩) 26 y18)
  (zg0 : ZS Z 4 (fun r x=>r = e33 x) z7P z7Q z2H) :
  Calls Tryd.prog 13 #[(.slice z7P z2H.length z7Q),(.int .i64 z2N)] w₀ fun e w'=>e = .returned (.tuple #[(.int .i64 r.1),(.bool r.2)]) ∧ Hp [] w₀ w' []:=by
 unfold y1k at h
 refine Calls.ya (vs:=[(.slice z7P z2H.length z7Q),(.int .i64 z2N)]) (pre:=[]) (env:=[(0,(.slice z7P z2H.length z7Q)),(1,(.int .i64 z2N))]) Tryd.func13 rfl Tryd.ntmps13 rfl (Hp.nil w₀ _) rfl ?_
 refine WC.b (WC.a ?_)
 refine WL.new (dd:=2) rfl rfl rfl (y4k (cs:=[(.slice z7P z2H.length z7Q)]) rfl rfl) ?_
 intro zoK _
 refine WL.pu rfl (WL.pu rfl (WL.nil (WX.a (WC.b (WC.b ?_)))))
 obtain ⟨z9y,zoL,h⟩:=zd h
 refine WC.a ?_
 refine WL.a (d:=8) rfl rfl rfl (y6 y3t rfl (yi .here rfl)) ?_
 refine WL.b (dd:=9) rfl rfl rfl (zm (l:=[.tmp 8]) Tryd.call14 (.cons rfl .nil)) .nil (cc hz .nil fun w pz ho=>y5K _ _ _ _ _ zoL w pz hG1 zg0) ?_
 refine WL.pu rfl (WL.pu rfl ?_)
 refine WL.seg false 2 11 (B:=(!z9y) || (decide (z2N < 0))) rfl rfl rfl rfl rfl rfl (fun h=>(or_l h).symm) (fun _ zoM=>?_) ?_
 ·skip
  refine WL.pu rfl (WL.pu rfl (WL.pu rfl ?_))
  exact WL.ys (or_r zoM) rfl rfl .all
 refine WL.pu rfl ?_
 refine WL.seg false 4 15 (B:=((!z9y) || (decide (z2N < 0))) || (decide (z2N > ((z2H.length : Nat) : Int)))) rfl rfl rfl rfl rfl rfl (fun h=>(or_l h).symm) (fun _ zoN=>?_) ?_
 ·skip
  refine WL.pu rfl ?_
  refine WL.a (d:=17) rfl rfl rfl (y6 y3t rfl (yi .here rfl)) ?_
  refine WL.a (d:=18) rfl rfl rfl (yH Tryd.underlying22 rfl) ?_
  refine WL.pu rfl (WL.pu rfl ?_)
  exact WL.ys (or_r zoN) rfl rfl .all
 refine WL.nil (WX.a ?_)
 refine WC.cond rfl (fun zbc=>?_) (fun zbc=>?_)
 ·replace h:=yc h zbc
  refine WC.b (WC.a (WL.pu rfl (WL.pu rfl (WL.nil (WX.a (WC.ret (WX.y7 ?_)))))))
  obtain rfl:=Option.some.inj h
  refine WX.y8 Tryd.results13 (.tmp rfl (.tmp rfl .nil)) (fun w hw=>?_)
  exact ⟨y1B rfl rfl,hw.sub .nil⟩
 ·replace h:=yd h zbc
  refine WC.skip (WX.a (WC.b (WC.a ?_)))
  refine WL.new (dd:=21) rfl rfl rfl (y83 (Value.int .i64) (Value.int .i64)) ?_
  intro zoO _
  refine WL.a (d:=22) rfl rfl rfl (y6 y3t rfl (yi .h1 rfl)) ?_
  refine WL.a (d:=23) rfl rfl rfl (yH Tryd.underlying22 rfl) ?_
  refine WL.yq rfl rfl (e_insert (k:=((z2H.length : Nat) : Int)) (v:=0) y47 Tryd.underlying54 rfl rfl rfl rfl .here) ?_
  refine WL.pu rfl ?_
  refine WL.new (dd:=6) rfl rfl rfl (yG (cs:=[(.map none)]) zeroT_54 rfl) ?_
  intro zoP _
  refine WL.yq rfl rfl (yC sizT_54 rfl rfl rfl .here rfl rfl rfl) ?_
  refine WL.nil (WX.a (WC.b (WC.a ?_)))
  refine WL.new (dd:=7) rfl rfl rfl (yG (cs:=[.nilFunc]) zeroT_55 rfl) ?_
  intro zoQ _
  refine WL.nil (WX.a (WC.b (WC.a ?_)))
  refine WL.a (d:=25) rfl rfl rfl (y6c (Eos.caps (l:=[.tmp 6,.tmp 2,.tmp 7]) (.cons rfl (.cons rfl (.cons rfl .nil))))) ?_
  refine WL.yq rfl rfl (yC sizT_55 rfl rfl rfl .here rfl rfl rfl) ?_
  refine WL.nil (WX.a (WC.b (WC.b ?_)))
  obtain ⟨z9z,zoR,h⟩:=zd h
  refine WC.a ?_
  refine WL.a (d:=26) rfl rfl rfl (y6 y7z rfl (yi .here rfl)) ?_
  refine WL.pu rfl ?_
  refine WL.b (dd:=28) rfl rfl rfl (yy (l:=[.tmp 27]) Tryd.call29 rfl (.cons rfl .nil)) (.cons .h2 .nil) (ccl hz (.cons .h2 .nil) (.cons .h1 (.cons .h1 (.cons .here .nil))) fun w pz ho la=>y67 (Z:=_) (z2s:=⟨zoP,0,none⟩) (z1K:=zoO) (z2t:=⟨zoK,0,none⟩) (z3o:=z7P) (z3p:=z7Q) (z2z:=⟨zoQ,0,none⟩) (zU:=z2N) (z1D:=(y19 ([] : List (Int × Int)) ((z2H.length : Nat) : Int) 0)) (z1q:=z2H) (r:=z9z) w pz ((hG1.mono (Zle.left _ _)).weak (fun _ _ h=>y13 (Zle.left _ _) h)) ((la _ (.head _) _).stb) (zg0.mono (Zle.left _ _)) ((la _ (.tail _ (.head _)) _).stb) ((la _ (.tail _ (.tail _ (.head _))) _).stb) zoR ho) ?_
  refine WL.pu rfl (WL.nil (WX.a ?_))
  refine WC.cond rfl (fun zbd=>?_) (fun zbd=>?_)
  ·replace h:=yc h zbd
   refine WC.b (WC.a (WL.pu rfl (WL.pu rfl (WL.nil (WX.a (WC.ret (WX.y7 ?_)))))))
   obtain rfl:=Option.some.inj h
   refine WX.y8 Tryd.results13 (.tmp rfl (.tmp rfl .nil)) (fun w hw=>?_)
   exact ⟨y1B rfl rfl,hw.sub .nil⟩
  ·replace h:=yd h zbd
   refine WC.skip (WX.a (WC.b (WC.a ?_)))
   refine WL.a (d:=30) rfl rfl rfl (y6 y3Z rfl (yi .h2 rfl)) ?_
   refine WL.pu rfl ?_
   refine WL.a (d:=32) rfl rfl rfl (y75 (k:=z2N) (dflt:=(0 : Int)) y47 Tryd.underlying54 y4H rfl rfl rfl .here) ?_
   refine WL.pu rfl (WL.pu rfl (WL.nil (WX.a (WC.ret ?_))))
   obtain rfl:=Option.some.inj h
   refine WX.y8 Tryd.results13 (.tmp rfl (.tmp rfl .nil)) (fun w hw=>?_)
   exact ⟨y1B rfl rfl,hw.sub .nil⟩
def y1I (z2u : List Int) (z2A : List Int) (z4D : Option Bool) : Nat → Int → Option Bool
 | 0,_=>none
 | zbe + 1,z2j=>if decide (z2j < ((z2u.length : Nat) : Int)) then chk ((0 : Int) ≤ z2j ∧ z2j < ((z2u.length : Nat) : Int)) (chk ((0 : Int) ≤ z2j ∧ z2j < ((z2A.length : Nat) : Int)) (if decide ((nth z2u z2j) ≠ (nth z2A z2j)) then some false else y1I z2u z2A z4D zbe (i64 (z2j + 1)))) else z4D
theorem y4d {n : Nat} {z2u : List Int} {z2A : List Int} {z4D : Option Bool} {z2j : Int} {r : Bool} (h : y1I z2u z2A z4D n z2j = some r) : ∃ m,n = m + 1:=by
 cases n with
 | zero=>cases h
 | succ m=>exact ⟨m,rfl⟩
def y3C (z2u : List Int) (z2A : List Int) : Option Bool :=
 if decide (((z2u.length : Nat) : Int) ≠ ((z2A.length : Nat) : Int)) then some false else jp0 (some true) fun z4D=>y1I z2u z2A z4D yB 0
set_option maxRecDepth 20000 in
theorem y6j (Z : Zp) (z8t : Option Addr) (z8u : Nat) (z8v : Option Addr) (z8w : Nat) (z2u : List Int) (z2A : List Int) (r : Bool)
  (h : y3C z2u z2A = some r) (w₀ : World) (hz : PZ [] w₀ Z)
  (zoS : ZS Z 1 (fun r x=>r = e5 x) z8t z8u z2u)
  (zoT : ZS Z 1 (fun r x=>r = e5 x) z8v z8w z2A) :
  Calls Tryd.prog 22 #[(.slice z8t z2u.length z8u),(.slice z8v z2A.length z8w)] w₀ fun e w'=>e = .returned (.bool r) ∧ Hp [] w₀ w' []:=by
 unfold y3C at h
 refine Calls.ya (vs:=[(.slice z8t z2u.length z8u),(.slice z8v z2A.length z8w)]) (pre:=[]) (env:=[(0,(.slice z8t z2u.length z8u)),(1,(.slice z8v z2A.length z8w))]) Tryd.func22 rfl Tryd.ntmps22 rfl (Hp.nil w₀ _) rfl ?_
 refine WC.b (WC.a (WL.pu rfl (WL.nil (WX.a (WC.b (WC.b (WC.a (WL.pu rfl ?_))))))))
 refine WL.a (d:=7) rfl rfl rfl (yH Tryd.underlying35 rfl) ?_
 refine WL.pu rfl ?_
 refine WL.a (d:=9) rfl rfl rfl (yH Tryd.underlying35 rfl) ?_
 refine WL.pu rfl (WL.nil (WX.a ?_))
 refine WC.cond rfl (fun zbf=>?_) (fun zbf=>?_)
 ·replace h:=yc h zbf
  refine WC.b (WC.a (WL.pu rfl (WL.nil (WX.a (WC.ret (WX.y7 ?_))))))
  obtain rfl:=Option.some.inj h
  refine WX.y8 Tryd.results22 (.tmp rfl .nil) (fun w hw=>?_)
  exact ⟨yx rfl,hw.sub .nil⟩
 ·replace h:=yd h zbf
  refine WC.skip (WX.a ?_)
  obtain ⟨z4D,zoU,h⟩:=y27 h
  refine WC.y1F ((z4D = some r)) ([]) ([]) ?_ ?_
  ·skip
   refine WC.b (WC.a (WL.pu rfl (WL.nil (WX.a (WC.block ?_)))))
   refine WC.y2B (fun (z7R : Nat) (z2j : Int)=>(y1I z2u z2A z4D z7R z2j = some r)) (fun (z7R : Nat) (z2j : Int)=>[(0,(.slice z8t z2u.length z8u)),(1,(.slice z8v z2A.length z8w)),(5,(.int .i64 z2j))]) (fun (z7R : Nat) (z2j : Int)=>[]) (fun (z7R : Nat) (z2j : Int)=>z7R) ⟨yB,0⟩ h (.cons rfl (.cons rfl (.cons rfl .nil))) .nil ?_
   rintro z7R z2j h
   obtain ⟨zbe,rfl⟩:=y4d h
   rw [y1I] at h
   refine WC.b (WC.b (WC.a (WL.pu rfl (WL.pu rfl ?_))))
   refine WL.a (d:=13) rfl rfl rfl (yH Tryd.underlying35 rfl) ?_
   refine WL.pu rfl (WL.nil (WX.a ?_))
   refine WC.cond rfl (fun zbg=>?_) (fun zbg=>?_)
   ·replace h:=yc h zbg
    refine WC.skip (WX.a (WC.b (WC.block (WC.b ?_))))
    obtain ⟨zoV,h⟩:=yb h
    obtain ⟨zoW,h⟩:=yb h
    refine WC.y1j (fun i=>[].contains i) [] rfl ?_
    refine WD.a (i:=0) (d:=17) (by kernel_rfl) rfl z1 z2 rfl rfl rfl (fun _=>q_m rfl) ?_
    refine WD.a (i:=1) (d:=18) (by kernel_rfl) rfl z1 z2 rfl rfl rfl (fun _=>q_m rfl) ?_
    refine WD.znth (j:=2) (dd:=19) (by kernel_rfl) rfl z1 z2 rfl rfl (Z:=Z) (Pr:=(fun r x=>r = e5 x)) y2L rfl rfl zoS zoV ?_
    rintro zsq zsr zoX zss rfl
    refine WD.e (i:=3) (d:=20) (by kernel_rfl) rfl z1 z2 rfl rfl rfl (y6 yP rfl (y33 hz.pv zoX rfl)) ?_
    refine WD.a (i:=4) (d:=21) (by kernel_rfl) rfl z1 z2 rfl rfl rfl (fun _=>q_m rfl) ?_
    refine WD.a (i:=5) (d:=22) (by kernel_rfl) rfl z1 z2 rfl rfl rfl (fun _=>q_m rfl) ?_
    refine WD.znth (j:=6) (dd:=23) (by kernel_rfl) rfl z1 z2 rfl rfl (Z:=Z) (Pr:=(fun r x=>r = e5 x)) y2L rfl rfl zoT zoW ?_
    rintro zst zsu zoY zsv rfl
    refine WD.e (i:=7) (d:=24) (by kernel_rfl) rfl z1 z2 rfl rfl rfl (y6 yP rfl (y33 hz.pv zoY rfl)) ?_
    refine WD.a (i:=8) (d:=25) (by kernel_rfl) rfl z1 z2 rfl rfl rfl (fun _=>q_neq rfl rfl) ?_
    refine WD.done (by kernel_rfl) ?_
    refine WX.a ?_
    refine WC.cond rfl (fun zbh=>?_) (fun zbh=>?_)
    ·replace h:=yc h zbh
     refine WC.b (WC.a (WL.pu rfl (WL.nil (WX.a (WC.ret (WX.yf (WX.y7 (WX.y7 (WX.yf (WX.y7 ?_))))))))))
     obtain rfl:=Option.some.inj h
     refine WX.y8 Tryd.results22 (.tmp rfl .nil) (fun w hw=>?_)
     exact ⟨yx rfl,hw.sub .nil⟩
    ·replace h:=yd h zbh
     refine WC.skip (WX.ye (WX.a (WC.a (WL.pu rfl (WL.pu rfl (WL.pu rfl (WL.nil ?_)))))))
     exact WX.round (G:=Nat × Int) ⟨zbe,(i64 (z2j + 1))⟩ h (Nat.lt_succ_self _) (.cons rfl (.cons rfl (.cons rfl .nil))) .nil
   ·replace h:=yd h zbg
    refine WC.exit (WX.yg (WX.yg (WX.yD ?_)))
    exact WX.mid (G:=Unit) () h .nil .nil
  ·rintro  h
   replace h:=zoU.symm.trans h
   refine WC.b (WC.a (WL.pu rfl (WL.nil (WX.a (WC.ret ?_)))))
   obtain rfl:=Option.some.inj h
   refine WX.y8 Tryd.results22 (.tmp rfl .nil) (fun w hw=>?_)
   exact ⟨yx rfl,hw.sub .nil⟩
def y1K (z1v : Sproc_Act) (z1w : Sproc_Act) : Option Bool :=
 (if ((decide (z1v.fKind = z1w.fKind)) && (decide (z1v.fA = z1w.fA))) && (decide (z1v.fB = z1w.fB)) then (y3C z1v.fData z1w.fData).bind fun zg1=>some zg1 else some false).bind fun zbi=>some zbi
set_option maxRecDepth 20000 in
theorem y2X (Z : Zp) (z8x : Option Addr) (z8y : Nat) (z8z : Option Addr) (z8A : Nat) (z1v : Sproc_Act) (z1w : Sproc_Act) (r : Bool)
  (h : y1K z1v z1w = some r) (w₀ : World) (hz : PZ [] w₀ Z)
  (zoZ : ZS Z 1 (fun r x=>r = e5 x) z8x z8y z1v.fData)
  (zp0 : ZS Z 1 (fun r x=>r = e5 x) z8z z8A z1w.fData) :
  Calls Tryd.prog 19 #[(.agg #[(.int .u8 z1v.fKind),(.int .i64 z1v.fA),(.int .i64 z1v.fB),(.slice z8x z1v.fData.length z8y)]),(.agg #[(.int .u8 z1w.fKind),(.int .i64 z1w.fA),(.int .i64 z1w.fB),(.slice z8z z1w.fData.length z8A)])] w₀ fun e w'=>e = .returned (.bool r) ∧ Hp [] w₀ w' []:=by
 unfold y1K at h
 refine Calls.ya (vs:=[(.agg #[(.int .u8 z1v.fKind),(.int .i64 z1v.fA),(.int .i64 z1v.fB),(.slice z8x z1v.fData.length z8y)]),(.agg #[(.int .u8 z1w.fKind),(.int .i64 z1w.fA),(.int .i64 z1w.fB),(.slice z8z z1w.fData.length z8A)])]) (pre:=[]) (env:=[(0,(.agg #[(.int .u8 z1v.fKind),(.int .i64 z1v.fA),(.int .i64 z1v.fB),(.slice z8x z1v.fData.length z8y)])),(1,(.agg #[(.int .u8 z1w.fKind),(.int .i64 z1w.fA),(.int .i64 z1w.fB),(.slice z8z z1w.fData.length z8A)]))]) Tryd.func19 rfl Tryd.ntmps19 rfl (Hp.nil w₀ _) rfl ?_
 refine WC.b (WC.a ?_)
 refine WL.new (dd:=2) rfl rfl rfl (y4k (cs:=[(.int .u8 z1v.fKind),(.int .i64 z1v.fA),(.int .i64 z1v.fB),(.slice z8x z1v.fData.length z8y)]) rfl rfl) ?_
 intro zsw _
 refine WL.new (dd:=3) rfl rfl rfl (y4k (cs:=[(.int .u8 z1w.fKind),(.int .i64 z1w.fA),(.int .i64 z1w.fB),(.slice z8z z1w.fData.length z8A)]) rfl rfl) ?_
 intro zsx _
 refine WL.pu rfl (WL.nil (WX.a (WC.b ?_)))
 obtain ⟨zbi,zg2,h⟩:=zd h
 refine WC.a ?_
 refine WL.a (d:=5) rfl rfl rfl (y4 y6u rfl rfl) ?_
 refine WL.a (d:=6) rfl rfl rfl (y6 yP rfl (yi .h1 rfl)) ?_
 refine WL.a (d:=7) rfl rfl rfl (y4 y6u rfl rfl) ?_
 refine WL.a (d:=8) rfl rfl rfl (y6 yP rfl (yi .here rfl)) ?_
 refine WL.pu rfl (WL.pu rfl ?_)
 refine WL.seg true 5 10 (B:=(decide (z1v.fKind = z1w.fKind)) && (decide (z1v.fA = z1w.fA))) rfl rfl rfl rfl rfl rfl (fun h=>(y1T h).symm) (fun _ zp1=>?_) ?_
 ·skip
  refine WL.a (d:=11) rfl rfl rfl (y4 y7A rfl rfl) ?_
  refine WL.a (d:=12) rfl rfl rfl (y6 yh rfl (yi .h1 rfl)) ?_
  refine WL.a (d:=13) rfl rfl rfl (y4 y7A rfl rfl) ?_
  refine WL.a (d:=14) rfl rfl rfl (y6 yh rfl (yi .here rfl)) ?_
  refine WL.pu rfl (WL.pu rfl ?_)
  exact WL.ys (y1U zp1) rfl rfl .all
 refine WL.pu rfl ?_
 refine WL.seg true 5 17 (B:=((decide (z1v.fKind = z1w.fKind)) && (decide (z1v.fA = z1w.fA))) && (decide (z1v.fB = z1w.fB))) rfl rfl rfl rfl rfl rfl (fun h=>(y1T h).symm) (fun _ zp2=>?_) ?_
 ·skip
  refine WL.a (d:=18) rfl rfl rfl (y4 y7B rfl rfl) ?_
  refine WL.a (d:=19) rfl rfl rfl (y6 yh rfl (yi .h1 rfl)) ?_
  refine WL.a (d:=20) rfl rfl rfl (y4 y7B rfl rfl) ?_
  refine WL.a (d:=21) rfl rfl rfl (y6 yh rfl (yi .here rfl)) ?_
  refine WL.pu rfl (WL.pu rfl ?_)
  exact WL.ys (y1U zp2) rfl rfl .all
 refine WL.pu rfl ?_
 refine WL.seg true 5 24 (B:=zbi) rfl rfl rfl rfl rfl rfl (fun h=>(Option.some.inj (yd zg2 h)).symm) (fun _ zp3=>?_) ?_
 ·skip
  have z8B:=yc zg2 zp3
  obtain ⟨zg1,zp4,z8B⟩:=zd z8B
  replace z8B:=Option.some.inj z8B
  refine WL.a (d:=25) rfl rfl rfl (y4 y7C rfl rfl) ?_
  refine WL.a (d:=26) rfl rfl rfl (y6 y5T rfl (yi .h1 rfl)) ?_
  refine WL.a (d:=27) rfl rfl rfl (y4 y7C rfl rfl) ?_
  refine WL.a (d:=28) rfl rfl rfl (y6 y5T rfl (yi .here rfl)) ?_
  refine WL.b (dd:=29) rfl rfl rfl (zm (l:=[.tmp 26,.tmp 28]) Tryd.call22 (.cons rfl (.cons rfl .nil))) .nil (cc hz .nil fun w pz ho=>y6j _ _ _ _ _ _ _ _ zp4 w pz zoZ zp0) ?_
  refine WL.pu rfl ?_
  exact WL.ys z8B rfl rfl .all
 refine WL.pu rfl (WL.nil (WX.a (WC.ret ?_)))
 obtain rfl:=Option.some.inj h
 refine WX.y8 Tryd.results19 (.tmp rfl .nil) (fun w hw=>?_)
 exact ⟨yx rfl,hw.sub .nil⟩
end Go.Proofs.YtjdnejbngloieaaDoor
