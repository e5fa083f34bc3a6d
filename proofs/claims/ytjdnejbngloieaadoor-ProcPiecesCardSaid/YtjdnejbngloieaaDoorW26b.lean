/- A part of this claim's proof: models of functions, walks, plain laws. No conditions. -/
import Derived.Test.YtjdnejbngloieaaDoorW26a
namespace Go.Proofs.YtjdnejbngloieaaDoor
open Go Go.RowKit Sep
set_option linter.all false
set_option maxRecDepth 30000
set_option maxHeartbeats 4000000
def y2L (zi : Sproc_execution) : Option Sproc_execution :=
 (yk zi zi.fX.fA).bind fun zo8=>chk ((0 : Int) ≤ zi.fX.fA ∧ zi.fX.fA < 4) ((yk zi zi.fX.fB).bind fun zo9=>chk ((0 : Int) ≤ zi.fX.fB ∧ zi.fX.fB < 4) (if decide ((nth ([zi.fState.fRegs.a0,zi.fState.fRegs.a1,zi.fState.fRegs.a2,zi.fState.fRegs.a3] : List Int) zi.fX.fA) < (nth ([zi.fState.fRegs.a0,zi.fState.fRegs.a1,zi.fState.fRegs.a2,zi.fState.fRegs.a3] : List Int) zi.fX.fB)) then some (⟨(⟨zi.fX.fC,zi.fState.fLeft,zi.fState.fRegs⟩ : Sproc_State),zi.fX,zi.fMem,zi.fAct⟩ : Sproc_execution) else some zi))
set_option maxRecDepth 20000 in
theorem y54 (Z : Zp) (z8y : Nat) (z8z : Option Addr) (z8A : Nat) (z8B : Option Addr) (z8C : Nat) (zi : Sproc_execution) (r : Sproc_execution)
  (h : y2L zi = some r) (w₀ : World) (hz : PZ (fps [stb z8y 65 [(.int .i64 zi.fState.fPc),(.int .i64 zi.fState.fLeft),(.int .u8 zi.fState.fRegs.a0),(.int .u8 zi.fState.fRegs.a1),(.int .u8 zi.fState.fRegs.a2),(.int .u8 zi.fState.fRegs.a3),(.int .u8 zi.fX.fOp),(.int .i64 zi.fX.fA),(.int .i64 zi.fX.fB),(.int .i64 zi.fX.fC),(.slice z8z zi.fMem.length z8A),(.int .u8 zi.fAct.fKind),(.int .i64 zi.fAct.fA),(.int .i64 zi.fAct.fB),(.slice z8B zi.fAct.fData.length z8C)]]) w₀ Z)
  (zev : ZS Z 1 (fun r x=>r = e5 x) z8z z8A zi.fMem)
  (zew : ZS Z 1 (fun r x=>r = e5 x) z8B z8C zi.fAct.fData)
  (hown : Hp (fps [stb z8y 65 [(.int .i64 zi.fState.fPc),(.int .i64 zi.fState.fLeft),(.int .u8 zi.fState.fRegs.a0),(.int .u8 zi.fState.fRegs.a1),(.int .u8 zi.fState.fRegs.a2),(.int .u8 zi.fState.fRegs.a3),(.int .u8 zi.fX.fOp),(.int .i64 zi.fX.fA),(.int .i64 zi.fX.fB),(.int .i64 zi.fX.fC),(.slice z8z zi.fMem.length z8A),(.int .u8 zi.fAct.fKind),(.int .i64 zi.fAct.fA),(.int .i64 zi.fAct.fB),(.slice z8B zi.fAct.fData.length z8C)]]) w₀ w₀ [stb z8y 65 [(.int .i64 zi.fState.fPc),(.int .i64 zi.fState.fLeft),(.int .u8 zi.fState.fRegs.a0),(.int .u8 zi.fState.fRegs.a1),(.int .u8 zi.fState.fRegs.a2),(.int .u8 zi.fState.fRegs.a3),(.int .u8 zi.fX.fOp),(.int .i64 zi.fX.fA),(.int .i64 zi.fX.fB),(.int .i64 zi.fX.fC),(.slice z8z zi.fMem.length z8A),(.int .u8 zi.fAct.fKind),(.int .i64 zi.fAct.fA),(.int .i64 zi.fAct.fB),(.slice z8B zi.fAct.fData.length z8C)]]) :
  Calls Tryd.prog 104 #[(.pointer (some ⟨z8y,0,none⟩))] w₀ fun e w'=>∃ zjw : Option Addr,∃ zjx : Nat,∃ zjy : Option Addr,∃ zjz : Nat,e = .returned (.tuple #[]) ∧ ((ZS Z 1 (fun r x=>r = e5 x) zjw zjx r.fMem) ∧ (ZS Z 1 (fun r x=>r = e5 x) zjy zjz r.fAct.fData)) ∧ Hp (fps [stb z8y 65 [(.int .i64 zi.fState.fPc),(.int .i64 zi.fState.fLeft),(.int .u8 zi.fState.fRegs.a0),(.int .u8 zi.fState.fRegs.a1),(.int .u8 zi.fState.fRegs.a2),(.int .u8 zi.fState.fRegs.a3),(.int .u8 zi.fX.fOp),(.int .i64 zi.fX.fA),(.int .i64 zi.fX.fB),(.int .i64 zi.fX.fC),(.slice z8z zi.fMem.length z8A),(.int .u8 zi.fAct.fKind),(.int .i64 zi.fAct.fA),(.int .i64 zi.fAct.fB),(.slice z8B zi.fAct.fData.length z8C)]]) w₀ w' [stb z8y 65 [(.int .i64 r.fState.fPc),(.int .i64 r.fState.fLeft),(.int .u8 r.fState.fRegs.a0),(.int .u8 r.fState.fRegs.a1),(.int .u8 r.fState.fRegs.a2),(.int .u8 r.fState.fRegs.a3),(.int .u8 r.fX.fOp),(.int .i64 r.fX.fA),(.int .i64 r.fX.fB),(.int .i64 r.fX.fC),(.slice zjw r.fMem.length zjx),(.int .u8 r.fAct.fKind),(.int .i64 r.fAct.fA),(.int .i64 r.fAct.fB),(.slice zjy r.fAct.fData.length zjz)]]:=by
 unfold y2L at h
 refine Calls.y8 (vs:=[(.pointer (some ⟨z8y,0,none⟩))]) (pre:=[stb z8y 65 [(.int .i64 zi.fState.fPc),(.int .i64 zi.fState.fLeft),(.int .u8 zi.fState.fRegs.a0),(.int .u8 zi.fState.fRegs.a1),(.int .u8 zi.fState.fRegs.a2),(.int .u8 zi.fState.fRegs.a3),(.int .u8 zi.fX.fOp),(.int .i64 zi.fX.fA),(.int .i64 zi.fX.fB),(.int .i64 zi.fX.fC),(.slice z8z zi.fMem.length z8A),(.int .u8 zi.fAct.fKind),(.int .i64 zi.fAct.fA),(.int .i64 zi.fAct.fB),(.slice z8B zi.fAct.fData.length z8C)]]) (env:=[(0,(.pointer (some ⟨z8y,0,none⟩)))]) Tryd.func104 rfl Tryd.ntmps104 rfl (hown) rfl ?_
 refine WC.b ?_
 obtain ⟨zo8,zoa,h⟩:=zb h
 obtain ⟨zob,h⟩:=ya h
 obtain ⟨zo9,zoc,h⟩:=zb h
 obtain ⟨zod,h⟩:=ya h
 refine WC.y11 (fun i=>[].contains i) [] rfl ?_
 refine WD.a (i:=0) (d:=2) (by kernel_rfl) rfl z2 z6 rfl rfl rfl (fun _=>q_m rfl) ?_
 refine WD.a (i:=1) (d:=3) (by kernel_rfl) rfl z2 z6 rfl rfl rfl (fun _=>q_m rfl) ?_
 refine WD.a (i:=2) (d:=4) (by kernel_rfl) rfl z2 z6 rfl rfl rfl (fun _=>y6 rfl) ?_
 refine WD.a (i:=3) (d:=5) (by kernel_rfl) rfl z2 z6 rfl rfl rfl (fun _=>y4 yl rfl rfl) ?_
 refine WD.a (i:=4) (d:=6) (by kernel_rfl) rfl z2 z6 rfl rfl rfl (fun _=>y4 yR rfl rfl) ?_
 refine WD.e (i:=5) (d:=7) (by kernel_rfl) rfl z2 z6 rfl rfl rfl (y5 yd rfl (yb .here rfl)) ?_
 refine WD.c (i:=6) (d:=8) (by kernel_rfl) rfl z2 z6 rfl rfl rfl (zk (l:=[.tmp 2,.tmp 7]) Tryd.call108 (.cons rfl (.cons rfl .nil))) (ccl hz .nil (.cons .here .nil) fun w pz ho la=>yu _ _ _ _ _ _ _ _ _ zoa w pz (zev.mono (Zle.left _ _)) (zew.mono (Zle.left _ _)) ((la _ (.head _) _).stb)) ?_
 refine WD.a (i:=7) (d:=9) (by kernel_rfl) rfl z2 z6 rfl rfl rfl (fun _=>y6 rfl) ?_
 refine WD.e (i:=8) (d:=10) (by kernel_rfl) rfl z2 z6 rfl rfl rfl (y5 yC rfl (yY (l:=([zi.fState.fRegs.a0,zi.fState.fRegs.a1,zi.fState.fRegs.a2,zi.fState.fRegs.a3] : List Int)) (f:=Value.int .u8) (k:=2) (m:=6) .here rfl rfl zob)) ?_
 refine WD.a (i:=9) (d:=11) (by kernel_rfl) rfl z2 z6 rfl rfl rfl (fun _=>q_m rfl) ?_
 refine WD.a (i:=10) (d:=12) (by kernel_rfl) rfl z2 z6 rfl rfl rfl (fun _=>q_m rfl) ?_
 refine WD.a (i:=11) (d:=13) (by kernel_rfl) rfl z2 z6 rfl rfl rfl (fun _=>y6 rfl) ?_
 refine WD.a (i:=12) (d:=14) (by kernel_rfl) rfl z2 z6 rfl rfl rfl (fun _=>y4 yl rfl rfl) ?_
 refine WD.a (i:=13) (d:=15) (by kernel_rfl) rfl z2 z6 rfl rfl rfl (fun _=>y4 y16 rfl rfl) ?_
 refine WD.e (i:=14) (d:=16) (by kernel_rfl) rfl z2 z6 rfl rfl rfl (y5 yd rfl (yb .here rfl)) ?_
 refine WD.c (i:=15) (d:=17) (by kernel_rfl) rfl z2 z6 rfl rfl rfl (zk (l:=[.tmp 11,.tmp 16]) Tryd.call108 (.cons rfl (.cons rfl .nil))) (ccl hz .nil (.cons .here .nil) fun w pz ho la=>yu _ _ _ _ _ _ _ _ _ zoc w pz (zev.mono (Zle.left _ _)) (zew.mono (Zle.left _ _)) ((la _ (.head _) _).stb)) ?_
 refine WD.a (i:=16) (d:=18) (by kernel_rfl) rfl z2 z6 rfl rfl rfl (fun _=>y6 rfl) ?_
 refine WD.e (i:=17) (d:=19) (by kernel_rfl) rfl z2 z6 rfl rfl rfl (y5 yC rfl (yY (l:=([zi.fState.fRegs.a0,zi.fState.fRegs.a1,zi.fState.fRegs.a2,zi.fState.fRegs.a3] : List Int)) (f:=Value.int .u8) (k:=2) (m:=6) .here rfl rfl zod)) ?_
 refine WD.a (i:=18) (d:=20) (by kernel_rfl) rfl z2 z6 rfl rfl rfl (fun _=>q_lss rfl rfl) ?_
 refine WD.done (by kernel_rfl) ?_
 refine WX.a ?_
 refine WC.cond rfl (fun zfH=>?_) (fun zfH=>?_)
 ·replace h:=ym h zfH
  refine WC.a (WL.pu rfl (WL.pu rfl ?_))
  refine WL.a (d:=23) rfl rfl rfl (y6 rfl) ?_
  refine WL.a (d:=24) rfl rfl rfl (y4 yl rfl rfl) ?_
  refine WL.a (d:=25) rfl rfl rfl (y4 y3v rfl rfl) ?_
  refine WL.a (d:=26) rfl rfl rfl (y5 yd rfl (yb .here rfl)) ?_
  refine WL.a (d:=27) rfl rfl rfl (y6 rfl) ?_
  refine WL.a (d:=28) rfl rfl rfl (y4 yH rfl rfl) ?_
  refine WL.a (d:=29) rfl rfl rfl (y4 y1d rfl rfl) ?_
  refine WL.yf rfl rfl (yK (ds:=[(.int .i64 zi.fX.fC),(.int .i64 zi.fState.fLeft),(.int .u8 zi.fState.fRegs.a0),(.int .u8 zi.fState.fRegs.a1),(.int .u8 zi.fState.fRegs.a2),(.int .u8 zi.fState.fRegs.a3),(.int .u8 zi.fX.fOp),(.int .i64 zi.fX.fA),(.int .i64 zi.fX.fB),(.int .i64 zi.fX.fC),(.slice z8z zi.fMem.length z8A),(.int .u8 zi.fAct.fKind),(.int .i64 zi.fAct.fA),(.int .i64 zi.fAct.fB),(.slice z8B zi.fAct.fData.length z8C)]) y20 rfl rfl rfl rfl rfl .here rfl rfl) ?_
  refine WL.nil ?_
  obtain rfl:=Option.some.inj h
  refine WX.y9 Tryd.results104 .nil (fun w hw=>?_)
  exact ⟨z8z,z8A,z8B,z8C,yB,⟨zev,zew⟩,hw.sub (.cons .here .nil)⟩
 ·replace h:=yn h zfH
  refine WC.skip ?_
  obtain rfl:=Option.some.inj h
  refine WX.y9 Tryd.results104 .nil (fun w hw=>?_)
  exact ⟨z8z,z8A,z8B,z8C,yB,⟨zev,zew⟩,hw.sub (.cons .here .nil)⟩
def y2X (z7 : Sproc_execution) : Option Sproc_execution :=
 (yk z7 z7.fX.fB).bind fun zoe=>chk ((0 : Int) ≤ z7.fX.fB ∧ z7.fX.fB < 4) (if decide ((nth ([z7.fState.fRegs.a0,z7.fState.fRegs.a1,z7.fState.fRegs.a2,z7.fState.fRegs.a3] : List Int) z7.fX.fB) ≠ 0) then (yk z7 z7.fX.fA).bind fun zof=>chk ((0 : Int) ≤ z7.fX.fA ∧ z7.fX.fA < 4) (chk ((nth ([z7.fState.fRegs.a0,z7.fState.fRegs.a1,z7.fState.fRegs.a2,z7.fState.fRegs.a3] : List Int) z7.fX.fB : Int) ≠ 0) (some (⟨(⟨z7.fState.fPc,z7.fState.fLeft,(⟨nth (([z7.fState.fRegs.a0,z7.fState.fRegs.a1,z7.fState.fRegs.a2,z7.fState.fRegs.a3] : List Int).set (z7.fX.fA : Int).toNat (u8 (Int.tdiv (nth ([z7.fState.fRegs.a0,z7.fState.fRegs.a1,z7.fState.fRegs.a2,z7.fState.fRegs.a3] : List Int) z7.fX.fA) (nth ([z7.fState.fRegs.a0,z7.fState.fRegs.a1,z7.fState.fRegs.a2,z7.fState.fRegs.a3] : List Int) z7.fX.fB)))) 0,nth (([z7.fState.fRegs.a0,z7.fState.fRegs.a1,z7.fState.fRegs.a2,z7.fState.fRegs.a3] : List Int).set (z7.fX.fA : Int).toNat (u8 (Int.tdiv (nth ([z7.fState.fRegs.a0,z7.fState.fRegs.a1,z7.fState.fRegs.a2,z7.fState.fRegs.a3] : List Int) z7.fX.fA) (nth ([z7.fState.fRegs.a0,z7.fState.fRegs.a1,z7.fState.fRegs.a2,z7.fState.fRegs.a3] : List Int) z7.fX.fB)))) 1,nth (([z7.fState.fRegs.a0,z7.fState.fRegs.a1,z7.fState.fRegs.a2,z7.fState.fRegs.a3] : List Int).set (z7.fX.fA : Int).toNat (u8 (Int.tdiv (nth ([z7.fState.fRegs.a0,z7.fState.fRegs.a1,z7.fState.fRegs.a2,z7.fState.fRegs.a3] : List Int) z7.fX.fA) (nth ([z7.fState.fRegs.a0,z7.fState.fRegs.a1,z7.fState.fRegs.a2,z7.fState.fRegs.a3] : List Int) z7.fX.fB)))) 2,nth (([z7.fState.fRegs.a0,z7.fState.fRegs.a1,z7.fState.fRegs.a2,z7.fState.fRegs.a3] : List Int).set (z7.fX.fA : Int).toNat (u8 (Int.tdiv (nth ([z7.fState.fRegs.a0,z7.fState.fRegs.a1,z7.fState.fRegs.a2,z7.fState.fRegs.a3] : List Int) z7.fX.fA) (nth ([z7.fState.fRegs.a0,z7.fState.fRegs.a1,z7.fState.fRegs.a2,z7.fState.fRegs.a3] : List Int) z7.fX.fB)))) 3⟩ : S34)⟩ : Sproc_State),z7.fX,z7.fMem,z7.fAct⟩ : Sproc_execution))) else (y1r z7 4 0).bind fun zfI=>some zfI)
set_option maxRecDepth 20000 in
theorem y5w (Z : Zp) (z8D : Nat) (za6 : Option Addr) (za7 : Nat) (za8 : Option Addr) (za9 : Nat) (z7 : Sproc_execution) (r : Sproc_execution)
  (h : y2X z7 = some r) (w₀ : World) (hz : PZ (fps [stb z8D 65 [(.int .i64 z7.fState.fPc),(.int .i64 z7.fState.fLeft),(.int .u8 z7.fState.fRegs.a0),(.int .u8 z7.fState.fRegs.a1),(.int .u8 z7.fState.fRegs.a2),(.int .u8 z7.fState.fRegs.a3),(.int .u8 z7.fX.fOp),(.int .i64 z7.fX.fA),(.int .i64 z7.fX.fB),(.int .i64 z7.fX.fC),(.slice za6 z7.fMem.length za7),(.int .u8 z7.fAct.fKind),(.int .i64 z7.fAct.fA),(.int .i64 z7.fAct.fB),(.slice za8 z7.fAct.fData.length za9)]]) w₀ Z)
  (zex : ZS Z 1 (fun r x=>r = e5 x) za6 za7 z7.fMem)
  (zey : ZS Z 1 (fun r x=>r = e5 x) za8 za9 z7.fAct.fData)
  (hown : Hp (fps [stb z8D 65 [(.int .i64 z7.fState.fPc),(.int .i64 z7.fState.fLeft),(.int .u8 z7.fState.fRegs.a0),(.int .u8 z7.fState.fRegs.a1),(.int .u8 z7.fState.fRegs.a2),(.int .u8 z7.fState.fRegs.a3),(.int .u8 z7.fX.fOp),(.int .i64 z7.fX.fA),(.int .i64 z7.fX.fB),(.int .i64 z7.fX.fC),(.slice za6 z7.fMem.length za7),(.int .u8 z7.fAct.fKind),(.int .i64 z7.fAct.fA),(.int .i64 z7.fAct.fB),(.slice za8 z7.fAct.fData.length za9)]]) w₀ w₀ [stb z8D 65 [(.int .i64 z7.fState.fPc),(.int .i64 z7.fState.fLeft),(.int .u8 z7.fState.fRegs.a0),(.int .u8 z7.fState.fRegs.a1),(.int .u8 z7.fState.fRegs.a2),(.int .u8 z7.fState.fRegs.a3),(.int .u8 z7.fX.fOp),(.int .i64 z7.fX.fA),(.int .i64 z7.fX.fB),(.int .i64 z7.fX.fC),(.slice za6 z7.fMem.length za7),(.int .u8 z7.fAct.fKind),(.int .i64 z7.fAct.fA),(.int .i64 z7.fAct.fB),(.slice za8 z7.fAct.fData.length za9)]]) :
  Calls Tryd.prog 105 #[(.pointer (some ⟨z8D,0,none⟩))] w₀ fun e w'=>∃ Zn : Zp,∃ zjA : Option Addr,∃ zjB : Nat,∃ zjC : Option Addr,∃ zjD : Nat,e = .returned (.tuple #[]) ∧ ((ZS (Z ++ Zn) 1 (fun r x=>r = e5 x) zjA zjB r.fMem) ∧ (ZS (Z ++ Zn) 1 (fun r x=>r = e5 x) zjC zjD r.fAct.fData)) ∧ Hp (fps [stb z8D 65 [(.int .i64 z7.fState.fPc),(.int .i64 z7.fState.fLeft),(.int .u8 z7.fState.fRegs.a0),(.int .u8 z7.fState.fRegs.a1),(.int .u8 z7.fState.fRegs.a2),(.int .u8 z7.fState.fRegs.a3),(.int .u8 z7.fX.fOp),(.int .i64 z7.fX.fA),(.int .i64 z7.fX.fB),(.int .i64 z7.fX.fC),(.slice za6 z7.fMem.length za7),(.int .u8 z7.fAct.fKind),(.int .i64 z7.fAct.fA),(.int .i64 z7.fAct.fB),(.slice za8 z7.fAct.fData.length za9)]]) w₀ w' [fz Zn,stb z8D 65 [(.int .i64 r.fState.fPc),(.int .i64 r.fState.fLeft),(.int .u8 r.fState.fRegs.a0),(.int .u8 r.fState.fRegs.a1),(.int .u8 r.fState.fRegs.a2),(.int .u8 r.fState.fRegs.a3),(.int .u8 r.fX.fOp),(.int .i64 r.fX.fA),(.int .i64 r.fX.fB),(.int .i64 r.fX.fC),(.slice zjA r.fMem.length zjB),(.int .u8 r.fAct.fKind),(.int .i64 r.fAct.fA),(.int .i64 r.fAct.fB),(.slice zjC r.fAct.fData.length zjD)]]:=by
 unfold y2X at h
 refine Calls.y8 (vs:=[(.pointer (some ⟨z8D,0,none⟩))]) (pre:=[stb z8D 65 [(.int .i64 z7.fState.fPc),(.int .i64 z7.fState.fLeft),(.int .u8 z7.fState.fRegs.a0),(.int .u8 z7.fState.fRegs.a1),(.int .u8 z7.fState.fRegs.a2),(.int .u8 z7.fState.fRegs.a3),(.int .u8 z7.fX.fOp),(.int .i64 z7.fX.fA),(.int .i64 z7.fX.fB),(.int .i64 z7.fX.fC),(.slice za6 z7.fMem.length za7),(.int .u8 z7.fAct.fKind),(.int .i64 z7.fAct.fA),(.int .i64 z7.fAct.fB),(.slice za8 z7.fAct.fData.length za9)]]) (env:=[(0,(.pointer (some ⟨z8D,0,none⟩)))]) Tryd.func105 rfl Tryd.ntmps105 rfl (hown) rfl ?_
 refine WC.pool (WC.b ?_)
 obtain ⟨zoe,zog,h⟩:=zb h
 obtain ⟨zoh,h⟩:=ya h
 refine WC.a (WL.pu rfl (WL.pu rfl ?_))
 refine WL.a (d:=5) rfl rfl rfl (y6 rfl) ?_
 refine WL.a (d:=6) rfl rfl rfl (y4 yl rfl rfl) ?_
 refine WL.a (d:=7) rfl rfl rfl (y4 y16 rfl rfl) ?_
 refine WL.a (d:=8) rfl rfl rfl (y5 yd rfl (yb .h1 rfl)) ?_
 refine WL.b (dd:=9) rfl rfl rfl (zk (l:=[.tmp 3,.tmp 8]) Tryd.call108 (.cons rfl (.cons rfl .nil))) .nil (y2c hz .nil .here (.cons .h1 .nil) fun w pz ho la=>yu _ _ _ _ _ _ _ _ _ zog w pz ((zex.mono (Zle.left _ _)).mono (Zle.left _ _)) ((zey.mono (Zle.left _ _)).mono (Zle.left _ _)) ((la _ (.head _) _).stb)) ?_
 refine WL.a (d:=10) rfl rfl rfl (y6 rfl) ?_
 refine WL.a (d:=11) rfl rfl rfl (y5 yC rfl (yY (l:=([z7.fState.fRegs.a0,z7.fState.fRegs.a1,z7.fState.fRegs.a2,z7.fState.fRegs.a3] : List Int)) (f:=Value.int .u8) (k:=2) (m:=6) .h1 rfl rfl zoh)) ?_
 refine WL.pu rfl (WL.nil (WX.a (WC.b (WC.a (WL.pu rfl (WL.pu rfl (WL.nil (WX.a ?_))))))))
 refine WC.cond rfl (fun zfJ=>?_) (fun zfJ=>?_)
 ·replace h:=ym h zfJ
  obtain ⟨zof,zoi,h⟩:=zb h
  obtain ⟨zjE,h⟩:=ya h
  obtain ⟨zoj,h⟩:=ya h
  refine WC.a (WL.pu rfl (WL.pu rfl ?_))
  refine WL.a (d:=16) rfl rfl rfl (y6 rfl) ?_
  refine WL.a (d:=17) rfl rfl rfl (y4 yl rfl rfl) ?_
  refine WL.a (d:=18) rfl rfl rfl (y4 yR rfl rfl) ?_
  refine WL.a (d:=19) rfl rfl rfl (y5 yd rfl (yb .h1 rfl)) ?_
  refine WL.b (dd:=20) rfl rfl rfl (zk (l:=[.tmp 14,.tmp 19]) Tryd.call108 (.cons rfl (.cons rfl .nil))) .nil (y2c hz .nil .here (.cons .h1 .nil) fun w pz ho la=>yu _ _ _ _ _ _ _ _ _ zoi w pz ((zex.mono (Zle.left _ _)).mono (Zle.left _ _)) ((zey.mono (Zle.left _ _)).mono (Zle.left _ _)) ((la _ (.head _) _).stb)) ?_
  refine WL.a (d:=21) rfl rfl rfl (y6 rfl) ?_
  refine WL.a (d:=22) rfl rfl rfl (y5 yC rfl (yY (l:=([z7.fState.fRegs.a0,z7.fState.fRegs.a1,z7.fState.fRegs.a2,z7.fState.fRegs.a3] : List Int)) (f:=Value.int .u8) (k:=2) (m:=6) .h1 rfl rfl zjE)) ?_
  refine WL.pu rfl ?_
  refine WL.a (d:=24) rfl rfl rfl (q_quo rfl rfl zoj rfl) ?_
  refine WL.a (d:=25) rfl rfl rfl (y6 rfl) ?_
  refine WL.yf rfl rfl (y1M (l:=([z7.fState.fRegs.a0,z7.fState.fRegs.a1,z7.fState.fRegs.a2,z7.fState.fRegs.a3] : List Int)) (f:=Value.int .u8) (u:=u8 (Int.tdiv (nth ([z7.fState.fRegs.a0,z7.fState.fRegs.a1,z7.fState.fRegs.a2,z7.fState.fRegs.a3] : List Int) z7.fX.fA) (nth ([z7.fState.fRegs.a0,z7.fState.fRegs.a1,z7.fState.fRegs.a2,z7.fState.fRegs.a3] : List Int) z7.fX.fB))) (k:=2) (m:=6) (j:=4) (ds:=[(.int .i64 z7.fState.fPc),(.int .i64 z7.fState.fLeft),(.int .u8 (nth (([z7.fState.fRegs.a0,z7.fState.fRegs.a1,z7.fState.fRegs.a2,z7.fState.fRegs.a3] : List Int).set (z7.fX.fA : Int).toNat (u8 (Int.tdiv (nth ([z7.fState.fRegs.a0,z7.fState.fRegs.a1,z7.fState.fRegs.a2,z7.fState.fRegs.a3] : List Int) z7.fX.fA) (nth ([z7.fState.fRegs.a0,z7.fState.fRegs.a1,z7.fState.fRegs.a2,z7.fState.fRegs.a3] : List Int) z7.fX.fB)))) 0)),(.int .u8 (nth (([z7.fState.fRegs.a0,z7.fState.fRegs.a1,z7.fState.fRegs.a2,z7.fState.fRegs.a3] : List Int).set (z7.fX.fA : Int).toNat (u8 (Int.tdiv (nth ([z7.fState.fRegs.a0,z7.fState.fRegs.a1,z7.fState.fRegs.a2,z7.fState.fRegs.a3] : List Int) z7.fX.fA) (nth ([z7.fState.fRegs.a0,z7.fState.fRegs.a1,z7.fState.fRegs.a2,z7.fState.fRegs.a3] : List Int) z7.fX.fB)))) 1)),(.int .u8 (nth (([z7.fState.fRegs.a0,z7.fState.fRegs.a1,z7.fState.fRegs.a2,z7.fState.fRegs.a3] : List Int).set (z7.fX.fA : Int).toNat (u8 (Int.tdiv (nth ([z7.fState.fRegs.a0,z7.fState.fRegs.a1,z7.fState.fRegs.a2,z7.fState.fRegs.a3] : List Int) z7.fX.fA) (nth ([z7.fState.fRegs.a0,z7.fState.fRegs.a1,z7.fState.fRegs.a2,z7.fState.fRegs.a3] : List Int) z7.fX.fB)))) 2)),(.int .u8 (nth (([z7.fState.fRegs.a0,z7.fState.fRegs.a1,z7.fState.fRegs.a2,z7.fState.fRegs.a3] : List Int).set (z7.fX.fA : Int).toNat (u8 (Int.tdiv (nth ([z7.fState.fRegs.a0,z7.fState.fRegs.a1,z7.fState.fRegs.a2,z7.fState.fRegs.a3] : List Int) z7.fX.fA) (nth ([z7.fState.fRegs.a0,z7.fState.fRegs.a1,z7.fState.fRegs.a2,z7.fState.fRegs.a3] : List Int) z7.fX.fB)))) 3)),(.int .u8 z7.fX.fOp),(.int .i64 z7.fX.fA),(.int .i64 z7.fX.fB),(.int .i64 z7.fX.fC),(.slice za6 z7.fMem.length za7),(.int .u8 z7.fAct.fKind),(.int .i64 z7.fAct.fA),(.int .i64 z7.fAct.fB),(.slice za8 z7.fAct.fData.length za9)]) y30 rfl rfl rfl rfl .h1 rfl rfl zjE rfl rfl) ?_
  refine WL.nil ?_
  obtain rfl:=Option.some.inj h
  refine WX.y9 Tryd.results105 .nil (fun w hw=>?_)
  exact ⟨[],za6,za7,za8,za9,yB,⟨(zex.mono (Zle.left _ _)),(zey.mono (Zle.left _ _))⟩,hw.sub (.cons .h1 (.cons .here .nil))⟩
 ·replace h:=yn h zfJ
  obtain ⟨zfI,zol,h⟩:=zb h
  refine WC.a (WL.pu rfl ?_)
  refine WL.yv (dd:=27) rfl rfl rfl (zk (l:=[.tmp 26,.const (.int .u8 4),.const (.int .i64 0)]) Tryd.call112 (.cons rfl (.cons rfl (.cons rfl .nil)))) (.cons .h1 .nil) (ccz hz (.cons .h1 .nil) .here fun w pz ho=>y2A _ _ _ _ _ _ _ _ _ _ zol w pz (zex.mono (Zle.left _ _)) (zey.mono (Zle.left _ _)) ho) ?_
  rintro zom zon zoo zop zoq
  refine WL.nil ?_
  refine WX.freezeS (ls:=zfI.fAct.fData) .h1 .h1 hz (RR.yI (enc:=e5) (fun _=>rfl) _) ?_
  intro zor zos zot
  obtain rfl:=Option.some.inj h
  refine WX.y9 Tryd.results105 .nil (fun w hw=>?_)
  exact ⟨zor,zom,zon,zoo,zop,yB,⟨(zoq.mono zos),zot⟩,hw.sub (.cons .here (.cons .here .nil))⟩
def y2v (zA : Sproc_execution) : Option Sproc_execution :=
 (y1r zA 3 zA.fX.fA).bind fun zjF=>some zjF
set_option maxRecDepth 20000 in
theorem y4B (Z : Zp) (z8E : Nat) (zd5 : Option Addr) (zd6 : Nat) (zd7 : Option Addr) (zd8 : Nat) (zA : Sproc_execution) (r : Sproc_execution)
  (h : y2v zA = some r) (w₀ : World) (hz : PZ (fps [stb z8E 65 [(.int .i64 zA.fState.fPc),(.int .i64 zA.fState.fLeft),(.int .u8 zA.fState.fRegs.a0),(.int .u8 zA.fState.fRegs.a1),(.int .u8 zA.fState.fRegs.a2),(.int .u8 zA.fState.fRegs.a3),(.int .u8 zA.fX.fOp),(.int .i64 zA.fX.fA),(.int .i64 zA.fX.fB),(.int .i64 zA.fX.fC),(.slice zd5 zA.fMem.length zd6),(.int .u8 zA.fAct.fKind),(.int .i64 zA.fAct.fA),(.int .i64 zA.fAct.fB),(.slice zd7 zA.fAct.fData.length zd8)]]) w₀ Z)
  (zou : ZS Z 1 (fun r x=>r = e5 x) zd5 zd6 zA.fMem)
  (zov : ZS Z 1 (fun r x=>r = e5 x) zd7 zd8 zA.fAct.fData)
  (hown : Hp (fps [stb z8E 65 [(.int .i64 zA.fState.fPc),(.int .i64 zA.fState.fLeft),(.int .u8 zA.fState.fRegs.a0),(.int .u8 zA.fState.fRegs.a1),(.int .u8 zA.fState.fRegs.a2),(.int .u8 zA.fState.fRegs.a3),(.int .u8 zA.fX.fOp),(.int .i64 zA.fX.fA),(.int .i64 zA.fX.fB),(.int .i64 zA.fX.fC),(.slice zd5 zA.fMem.length zd6),(.int .u8 zA.fAct.fKind),(.int .i64 zA.fAct.fA),(.int .i64 zA.fAct.fB),(.slice zd7 zA.fAct.fData.length zd8)]]) w₀ w₀ [stb z8E 65 [(.int .i64 zA.fState.fPc),(.int .i64 zA.fState.fLeft),(.int .u8 zA.fState.fRegs.a0),(.int .u8 zA.fState.fRegs.a1),(.int .u8 zA.fState.fRegs.a2),(.int .u8 zA.fState.fRegs.a3),(.int .u8 zA.fX.fOp),(.int .i64 zA.fX.fA),(.int .i64 zA.fX.fB),(.int .i64 zA.fX.fC),(.slice zd5 zA.fMem.length zd6),(.int .u8 zA.fAct.fKind),(.int .i64 zA.fAct.fA),(.int .i64 zA.fAct.fB),(.slice zd7 zA.fAct.fData.length zd8)]]) :
  Calls Tryd.prog 106 #[(.pointer (some ⟨z8E,0,none⟩))] w₀ fun e w'=>∃ zjG : Option Addr,∃ zjH : Nat,∃ zjI : Option Addr,∃ zjJ : Nat,e = .returned (.tuple #[]) ∧ (ZS Z 1 (fun r x=>r = e5 x) zjG zjH r.fMem) ∧ Hp (fps [stb z8E 65 [(.int .i64 zA.fState.fPc),(.int .i64 zA.fState.fLeft),(.int .u8 zA.fState.fRegs.a0),(.int .u8 zA.fState.fRegs.a1),(.int .u8 zA.fState.fRegs.a2),(.int .u8 zA.fState.fRegs.a3),(.int .u8 zA.fX.fOp),(.int .i64 zA.fX.fA),(.int .i64 zA.fX.fB),(.int .i64 zA.fX.fC),(.slice zd5 zA.fMem.length zd6),(.int .u8 zA.fAct.fKind),(.int .i64 zA.fAct.fA),(.int .i64 zA.fAct.fB),(.slice zd7 zA.fAct.fData.length zd8)]]) w₀ w' [stb z8E 65 [(.int .i64 r.fState.fPc),(.int .i64 r.fState.fLeft),(.int .u8 r.fState.fRegs.a0),(.int .u8 r.fState.fRegs.a1),(.int .u8 r.fState.fRegs.a2),(.int .u8 r.fState.fRegs.a3),(.int .u8 r.fX.fOp),(.int .i64 r.fX.fA),(.int .i64 r.fX.fB),(.int .i64 r.fX.fC),(.slice zjG r.fMem.length zjH),(.int .u8 r.fAct.fKind),(.int .i64 r.fAct.fA),(.int .i64 r.fAct.fB),(.slice zjI r.fAct.fData.length zjJ)],row (.slice zjI r.fAct.fData.length zjJ) 5 1 (r.fAct.fData.flatMap e5)]:=by
 unfold y2v at h
 refine Calls.y8 (vs:=[(.pointer (some ⟨z8E,0,none⟩))]) (pre:=[stb z8E 65 [(.int .i64 zA.fState.fPc),(.int .i64 zA.fState.fLeft),(.int .u8 zA.fState.fRegs.a0),(.int .u8 zA.fState.fRegs.a1),(.int .u8 zA.fState.fRegs.a2),(.int .u8 zA.fState.fRegs.a3),(.int .u8 zA.fX.fOp),(.int .i64 zA.fX.fA),(.int .i64 zA.fX.fB),(.int .i64 zA.fX.fC),(.slice zd5 zA.fMem.length zd6),(.int .u8 zA.fAct.fKind),(.int .i64 zA.fAct.fA),(.int .i64 zA.fAct.fB),(.slice zd7 zA.fAct.fData.length zd8)]]) (env:=[(0,(.pointer (some ⟨z8E,0,none⟩)))]) Tryd.func106 rfl Tryd.ntmps106 rfl (hown) rfl ?_
 obtain ⟨zjF,zow,h⟩:=zb h
 refine WC.a (WL.pu rfl (WL.pu rfl ?_))
 refine WL.a (d:=4) rfl rfl rfl (y6 rfl) ?_
 refine WL.a (d:=5) rfl rfl rfl (y4 yl rfl rfl) ?_
 refine WL.a (d:=6) rfl rfl rfl (y4 yR rfl rfl) ?_
 refine WL.a (d:=7) rfl rfl rfl (y5 yd rfl (yb .here rfl)) ?_
 refine WL.yv (dd:=8) rfl rfl rfl (zk (l:=[.tmp 2,.const (.int .u8 3),.tmp 7]) Tryd.call112 (.cons rfl (.cons rfl (.cons rfl .nil)))) (.cons .here .nil) (cc hz (.cons .here .nil) fun w pz ho=>y2A _ _ _ _ _ _ _ _ _ _ zow w pz zou zov ho) ?_
 rintro zox zoy zoz zoA zoB
 refine WL.nil ?_
 obtain rfl:=Option.some.inj h
 refine WX.y9 Tryd.results106 .nil (fun w hw=>?_)
 exact ⟨zox,zoy,zoz,zoA,yB,zoB,hw.sub (.cons .here (.cons .here .nil))⟩
def y2M (zm : Sproc_execution) : Option Sproc_execution :=
 some (⟨(⟨i64 (zm.fState.fPc - 1),zm.fState.fLeft,zm.fState.fRegs⟩ : Sproc_State),zm.fX,zm.fMem,(⟨16,0,0,([] : List Int)⟩ : Sproc_Act)⟩ : Sproc_execution)
set_option maxRecDepth 20000 in
theorem y55 (Z : Zp) (z8F : Nat) (z8G : Option Addr) (z8H : Nat) (zbv : Option Addr) (zbw : Nat) (zm : Sproc_execution) (r : Sproc_execution)
  (h : y2M zm = some r) (w₀ : World) (hz : PZ (fps [stb z8F 65 [(.int .i64 zm.fState.fPc),(.int .i64 zm.fState.fLeft),(.int .u8 zm.fState.fRegs.a0),(.int .u8 zm.fState.fRegs.a1),(.int .u8 zm.fState.fRegs.a2),(.int .u8 zm.fState.fRegs.a3),(.int .u8 zm.fX.fOp),(.int .i64 zm.fX.fA),(.int .i64 zm.fX.fB),(.int .i64 zm.fX.fC),(.slice z8G zm.fMem.length z8H),(.int .u8 zm.fAct.fKind),(.int .i64 zm.fAct.fA),(.int .i64 zm.fAct.fB),(.slice zbv zm.fAct.fData.length zbw)]]) w₀ Z)
  (zoC : ZS Z 1 (fun r x=>r = e5 x) z8G z8H zm.fMem)
  (zx2 : ZS Z 1 (fun r x=>r = e5 x) zbv zbw zm.fAct.fData)
  (hown : Hp (fps [stb z8F 65 [(.int .i64 zm.fState.fPc),(.int .i64 zm.fState.fLeft),(.int .u8 zm.fState.fRegs.a0),(.int .u8 zm.fState.fRegs.a1),(.int .u8 zm.fState.fRegs.a2),(.int .u8 zm.fState.fRegs.a3),(.int .u8 zm.fX.fOp),(.int .i64 zm.fX.fA),(.int .i64 zm.fX.fB),(.int .i64 zm.fX.fC),(.slice z8G zm.fMem.length z8H),(.int .u8 zm.fAct.fKind),(.int .i64 zm.fAct.fA),(.int .i64 zm.fAct.fB),(.slice zbv zm.fAct.fData.length zbw)]]) w₀ w₀ [stb z8F 65 [(.int .i64 zm.fState.fPc),(.int .i64 zm.fState.fLeft),(.int .u8 zm.fState.fRegs.a0),(.int .u8 zm.fState.fRegs.a1),(.int .u8 zm.fState.fRegs.a2),(.int .u8 zm.fState.fRegs.a3),(.int .u8 zm.fX.fOp),(.int .i64 zm.fX.fA),(.int .i64 zm.fX.fB),(.int .i64 zm.fX.fC),(.slice z8G zm.fMem.length z8H),(.int .u8 zm.fAct.fKind),(.int .i64 zm.fAct.fA),(.int .i64 zm.fAct.fB),(.slice zbv zm.fAct.fData.length zbw)]]) :
  Calls Tryd.prog 107 #[(.pointer (some ⟨z8F,0,none⟩))] w₀ fun e w'=>∃ zjK : Option Addr,∃ zjL : Nat,∃ zjM : Option Addr,∃ zjN : Nat,e = .returned (.tuple #[]) ∧ (ZS Z 1 (fun r x=>r = e5 x) zjK zjL r.fMem) ∧ Hp (fps [stb z8F 65 [(.int .i64 zm.fState.fPc),(.int .i64 zm.fState.fLeft),(.int .u8 zm.fState.fRegs.a0),(.int .u8 zm.fState.fRegs.a1),(.int .u8 zm.fState.fRegs.a2),(.int .u8 zm.fState.fRegs.a3),(.int .u8 zm.fX.fOp),(.int .i64 zm.fX.fA),(.int .i64 zm.fX.fB),(.int .i64 zm.fX.fC),(.slice z8G zm.fMem.length z8H),(.int .u8 zm.fAct.fKind),(.int .i64 zm.fAct.fA),(.int .i64 zm.fAct.fB),(.slice zbv zm.fAct.fData.length zbw)]]) w₀ w' [stb z8F 65 [(.int .i64 r.fState.fPc),(.int .i64 r.fState.fLeft),(.int .u8 r.fState.fRegs.a0),(.int .u8 r.fState.fRegs.a1),(.int .u8 r.fState.fRegs.a2),(.int .u8 r.fState.fRegs.a3),(.int .u8 r.fX.fOp),(.int .i64 r.fX.fA),(.int .i64 r.fX.fB),(.int .i64 r.fX.fC),(.slice zjK r.fMem.length zjL),(.int .u8 r.fAct.fKind),(.int .i64 r.fAct.fA),(.int .i64 r.fAct.fB),(.slice zjM r.fAct.fData.length zjN)],row (.slice zjM r.fAct.fData.length zjN) 5 1 (r.fAct.fData.flatMap e5)]:=by
 unfold y2M at h
 refine Calls.y8 (vs:=[(.pointer (some ⟨z8F,0,none⟩))]) (pre:=[stb z8F 65 [(.int .i64 zm.fState.fPc),(.int .i64 zm.fState.fLeft),(.int .u8 zm.fState.fRegs.a0),(.int .u8 zm.fState.fRegs.a1),(.int .u8 zm.fState.fRegs.a2),(.int .u8 zm.fState.fRegs.a3),(.int .u8 zm.fX.fOp),(.int .i64 zm.fX.fA),(.int .i64 zm.fX.fB),(.int .i64 zm.fX.fC),(.slice z8G zm.fMem.length z8H),(.int .u8 zm.fAct.fKind),(.int .i64 zm.fAct.fA),(.int .i64 zm.fAct.fB),(.slice zbv zm.fAct.fData.length zbw)]]) (env:=[(0,(.pointer (some ⟨z8F,0,none⟩)))]) Tryd.func107 rfl Tryd.ntmps107 rfl (hown) rfl ?_
 refine WC.b (WC.a (WL.pu rfl ?_))
 refine WL.a (d:=3) rfl rfl rfl (y6 rfl) ?_
 refine WL.a (d:=4) rfl rfl rfl (y4 yH rfl rfl) ?_
 refine WL.a (d:=5) rfl rfl rfl (y4 y1d rfl rfl) ?_
 refine WL.a (d:=6) rfl rfl rfl (y5 yd rfl (yb .here rfl)) ?_
 refine WL.pu rfl ?_
 refine WL.a (d:=8) rfl rfl rfl (y6 rfl) ?_
 refine WL.a (d:=9) rfl rfl rfl (y4 yH rfl rfl) ?_
 refine WL.a (d:=10) rfl rfl rfl (y4 y1d rfl rfl) ?_
 refine WL.yf rfl rfl (yK (ds:=[(.int .i64 (i64 (zm.fState.fPc - 1))),(.int .i64 zm.fState.fLeft),(.int .u8 zm.fState.fRegs.a0),(.int .u8 zm.fState.fRegs.a1),(.int .u8 zm.fState.fRegs.a2),(.int .u8 zm.fState.fRegs.a3),(.int .u8 zm.fX.fOp),(.int .i64 zm.fX.fA),(.int .i64 zm.fX.fB),(.int .i64 zm.fX.fC),(.slice z8G zm.fMem.length z8H),(.int .u8 zm.fAct.fKind),(.int .i64 zm.fAct.fA),(.int .i64 zm.fAct.fB),(.slice zbv zm.fAct.fData.length zbw)]) y20 rfl rfl rfl rfl rfl .here rfl rfl) ?_
 refine WL.nil (WX.a (WC.a (WL.pu rfl ?_)))
 refine WL.a (d:=12) rfl rfl rfl (yP (v:=(.agg #[(.int .u8 16),(.int .i64 0),(.int .i64 0),(.slice none 0 0)])) (Eos.parts (l:=[.const (.int .u8 16)]) (.cons rfl .nil) [0]) (fun _=>by kernel_rfl)) ?_
 refine WL.a (d:=13) rfl rfl rfl (y6 rfl) ?_
 refine WL.a (d:=14) rfl rfl rfl (y4 y2f rfl rfl) ?_
 refine WL.yf rfl rfl (yK (ds:=[(.int .i64 (i64 (zm.fState.fPc - 1))),(.int .i64 zm.fState.fLeft),(.int .u8 zm.fState.fRegs.a0),(.int .u8 zm.fState.fRegs.a1),(.int .u8 zm.fState.fRegs.a2),(.int .u8 zm.fState.fRegs.a3),(.int .u8 zm.fX.fOp),(.int .i64 zm.fX.fA),(.int .i64 zm.fX.fB),(.int .i64 zm.fX.fC),(.slice z8G zm.fMem.length z8H),(.int .u8 16),(.int .i64 0),(.int .i64 0),(.slice none 0 0)]) yV rfl rfl rfl rfl rfl .here rfl rfl) ?_
 refine WL.nil ?_
 refine WX.nilRow 5 1 ?_
 obtain rfl:=Option.some.inj h
 refine WX.y9 Tryd.results107 .nil (fun w hw=>?_)
 exact ⟨z8G,z8H,none,0,yB,zoC,hw.sub (.cons .h1 (.cons .here .nil))⟩
def y2w (zbx : List Sapi_Ins) (zj : Sproc_State) (z1B : List Int) : Option (Sproc_State × Sproc_Act) :=
 (y3b zbx zj.fPc).bind fun z1g=>if !z1g.2 then some (zj,(⟨15,5,0,[]⟩ : Sproc_Act)) else jp15 (fun (z7l : Int) (z7m : Int) (z7n : Int) (z7o : Int) (z7p : Int) (z7q : Int) (zaa : Int) (zab : Int) (zac : Int) (zad : Int) (z8I : List Int) (z7r : Int) (z7s : Int) (z7t : Int) (z6z : List Int)=>some ((⟨z7l,z7m,(⟨z7n,z7o,z7p,z7q⟩ : S34)⟩ : Sproc_State),(⟨z7r,z7s,z7t,z6z⟩ : Sproc_Act))) fun z2j=>chk ((0 : Int) ≤ z1g.1.fOp ∧ z1g.1.fOp < 26) (sw [(1,(y2z (⟨(⟨i64 (zj.fPc + 1),zj.fLeft,zj.fRegs⟩ : Sproc_State),z1g.1,z1B,(⟨0,0,0,[]⟩ : Sproc_Act)⟩ : Sproc_execution)).bind fun z1K=>z2j z1K.fState.fPc z1K.fState.fLeft z1K.fState.fRegs.a0 z1K.fState.fRegs.a1 z1K.fState.fRegs.a2 z1K.fState.fRegs.a3 z1K.fX.fOp z1K.fX.fA z1K.fX.fB z1K.fX.fC z1K.fMem z1K.fAct.fKind z1K.fAct.fA z1K.fAct.fB z1K.fAct.fData),(2,(y2S (⟨(⟨i64 (zj.fPc + 1),zj.fLeft,zj.fRegs⟩ : Sproc_State),z1g.1,z1B,(⟨0,0,0,[]⟩ : Sproc_Act)⟩ : Sproc_execution)).bind fun z1L=>z2j z1L.fState.fPc z1L.fState.fLeft z1L.fState.fRegs.a0 z1L.fState.fRegs.a1 z1L.fState.fRegs.a2 z1L.fState.fRegs.a3 z1L.fX.fOp z1L.fX.fA z1L.fX.fB z1L.fX.fC z1L.fMem z1L.fAct.fKind z1L.fAct.fA z1L.fAct.fB z1L.fAct.fData),(3,(y2T (⟨(⟨i64 (zj.fPc + 1),zj.fLeft,zj.fRegs⟩ : Sproc_State),z1g.1,z1B,(⟨0,0,0,[]⟩ : Sproc_Act)⟩ : Sproc_execution)).bind fun z1M=>z2j z1M.fState.fPc z1M.fState.fLeft z1M.fState.fRegs.a0 z1M.fState.fRegs.a1 z1M.fState.fRegs.a2 z1M.fState.fRegs.a3 z1M.fX.fOp z1M.fX.fA z1M.fX.fB z1M.fX.fC z1M.fMem z1M.fAct.fKind z1M.fAct.fA z1M.fAct.fB z1M.fAct.fData),(4,(y2U (⟨(⟨i64 (zj.fPc + 1),zj.fLeft,zj.fRegs⟩ : Sproc_State),z1g.1,z1B,(⟨0,0,0,[]⟩ : Sproc_Act)⟩ : Sproc_execution)).bind fun z1N=>z2j z1N.fState.fPc z1N.fState.fLeft z1N.fState.fRegs.a0 z1N.fState.fRegs.a1 z1N.fState.fRegs.a2 z1N.fState.fRegs.a3 z1N.fX.fOp z1N.fX.fA z1N.fX.fB z1N.fX.fC z1N.fMem z1N.fAct.fKind z1N.fAct.fA z1N.fAct.fB z1N.fAct.fData),(5,(y2B (⟨(⟨i64 (zj.fPc + 1),zj.fLeft,zj.fRegs⟩ : Sproc_State),z1g.1,z1B,(⟨0,0,0,[]⟩ : Sproc_Act)⟩ : Sproc_execution)).bind fun z1O=>z2j z1O.fState.fPc z1O.fState.fLeft z1O.fState.fRegs.a0 z1O.fState.fRegs.a1 z1O.fState.fRegs.a2 z1O.fState.fRegs.a3 z1O.fX.fOp z1O.fX.fA z1O.fX.fB z1O.fX.fC z1O.fMem z1O.fAct.fKind z1O.fAct.fA z1O.fAct.fB z1O.fAct.fData),(6,(y2q (⟨(⟨i64 (zj.fPc + 1),zj.fLeft,zj.fRegs⟩ : Sproc_State),z1g.1,z1B,(⟨0,0,0,[]⟩ : Sproc_Act)⟩ : Sproc_execution)).bind fun z1P=>z2j z1P.fState.fPc z1P.fState.fLeft z1P.fState.fRegs.a0 z1P.fState.fRegs.a1 z1P.fState.fRegs.a2 z1P.fState.fRegs.a3 z1P.fX.fOp z1P.fX.fA z1P.fX.fB z1P.fX.fC z1P.fMem z1P.fAct.fKind z1P.fAct.fA z1P.fAct.fB z1P.fAct.fData),(7,(y2D (⟨(⟨i64 (zj.fPc + 1),zj.fLeft,zj.fRegs⟩ : Sproc_State),z1g.1,z1B,(⟨0,0,0,[]⟩ : Sproc_Act)⟩ : Sproc_execution)).bind fun z1Q=>z2j z1Q.fState.fPc z1Q.fState.fLeft z1Q.fState.fRegs.a0 z1Q.fState.fRegs.a1 z1Q.fState.fRegs.a2 z1Q.fState.fRegs.a3 z1Q.fX.fOp z1Q.fX.fA z1Q.fX.fB z1Q.fX.fC z1Q.fMem z1Q.fAct.fKind z1Q.fAct.fA z1Q.fAct.fB z1Q.fAct.fData),(8,(y2E (⟨(⟨i64 (zj.fPc + 1),zj.fLeft,zj.fRegs⟩ : Sproc_State),z1g.1,z1B,(⟨0,0,0,[]⟩ : Sproc_Act)⟩ : Sproc_execution)).bind fun z1R=>z2j z1R.fState.fPc z1R.fState.fLeft z1R.fState.fRegs.a0 z1R.fState.fRegs.a1 z1R.fState.fRegs.a2 z1R.fState.fRegs.a3 z1R.fX.fOp z1R.fX.fA z1R.fX.fB z1R.fX.fC z1R.fMem z1R.fAct.fKind z1R.fAct.fA z1R.fAct.fB z1R.fAct.fData),(9,(y2F (⟨(⟨i64 (zj.fPc + 1),zj.fLeft,zj.fRegs⟩ : Sproc_State),z1g.1,z1B,(⟨0,0,0,[]⟩ : Sproc_Act)⟩ : Sproc_execution)).bind fun z1S=>z2j z1S.fState.fPc z1S.fState.fLeft z1S.fState.fRegs.a0 z1S.fState.fRegs.a1 z1S.fState.fRegs.a2 z1S.fState.fRegs.a3 z1S.fX.fOp z1S.fX.fA z1S.fX.fB z1S.fX.fC z1S.fMem z1S.fAct.fKind z1S.fAct.fA z1S.fAct.fB z1S.fAct.fData),(10,(y2m (⟨(⟨i64 (zj.fPc + 1),zj.fLeft,zj.fRegs⟩ : Sproc_State),z1g.1,z1B,(⟨0,0,0,[]⟩ : Sproc_Act)⟩ : Sproc_execution)).bind fun z1T=>z2j z1T.fState.fPc z1T.fState.fLeft z1T.fState.fRegs.a0 z1T.fState.fRegs.a1 z1T.fState.fRegs.a2 z1T.fState.fRegs.a3 z1T.fX.fOp z1T.fX.fA z1T.fX.fB z1T.fX.fC z1T.fMem z1T.fAct.fKind z1T.fAct.fA z1T.fAct.fB z1T.fAct.fData),(11,(y2r (⟨(⟨i64 (zj.fPc + 1),zj.fLeft,zj.fRegs⟩ : Sproc_State),z1g.1,z1B,(⟨0,0,0,[]⟩ : Sproc_Act)⟩ : Sproc_execution)).bind fun z1U=>z2j z1U.fState.fPc z1U.fState.fLeft z1U.fState.fRegs.a0 z1U.fState.fRegs.a1 z1U.fState.fRegs.a2 z1U.fState.fRegs.a3 z1U.fX.fOp z1U.fX.fA z1U.fX.fB z1U.fX.fC z1U.fMem z1U.fAct.fKind z1U.fAct.fA z1U.fAct.fB z1U.fAct.fData),(12,(y2s (⟨(⟨i64 (zj.fPc + 1),zj.fLeft,zj.fRegs⟩ : Sproc_State),z1g.1,z1B,(⟨0,0,0,[]⟩ : Sproc_Act)⟩ : Sproc_execution)).bind fun z1V=>z2j z1V.fState.fPc z1V.fState.fLeft z1V.fState.fRegs.a0 z1V.fState.fRegs.a1 z1V.fState.fRegs.a2 z1V.fState.fRegs.a3 z1V.fX.fOp z1V.fX.fA z1V.fX.fB z1V.fX.fC z1V.fMem z1V.fAct.fKind z1V.fAct.fA z1V.fAct.fB z1V.fAct.fData),(13,(y2t (⟨(⟨i64 (zj.fPc + 1),zj.fLeft,zj.fRegs⟩ : Sproc_State),z1g.1,z1B,(⟨0,0,0,[]⟩ : Sproc_Act)⟩ : Sproc_execution)).bind fun z1W=>z2j z1W.fState.fPc z1W.fState.fLeft z1W.fState.fRegs.a0 z1W.fState.fRegs.a1 z1W.fState.fRegs.a2 z1W.fState.fRegs.a3 z1W.fX.fOp z1W.fX.fA z1W.fX.fB z1W.fX.fC z1W.fMem z1W.fAct.fKind z1W.fAct.fA z1W.fAct.fB z1W.fAct.fData),(14,(y2V (⟨(⟨i64 (zj.fPc + 1),zj.fLeft,zj.fRegs⟩ : Sproc_State),z1g.1,z1B,(⟨0,0,0,[]⟩ : Sproc_Act)⟩ : Sproc_execution)).bind fun z1X=>z2j z1X.fState.fPc z1X.fState.fLeft z1X.fState.fRegs.a0 z1X.fState.fRegs.a1 z1X.fState.fRegs.a2 z1X.fState.fRegs.a3 z1X.fX.fOp z1X.fX.fA z1X.fX.fB z1X.fX.fC z1X.fMem z1X.fAct.fKind z1X.fAct.fA z1X.fAct.fB z1X.fAct.fData),(15,(y2W (⟨(⟨i64 (zj.fPc + 1),zj.fLeft,zj.fRegs⟩ : Sproc_State),z1g.1,z1B,(⟨0,0,0,[]⟩ : Sproc_Act)⟩ : Sproc_execution)).bind fun z1Y=>z2j z1Y.fState.fPc z1Y.fState.fLeft z1Y.fState.fRegs.a0 z1Y.fState.fRegs.a1 z1Y.fState.fRegs.a2 z1Y.fState.fRegs.a3 z1Y.fX.fOp z1Y.fX.fA z1Y.fX.fB z1Y.fX.fC z1Y.fMem z1Y.fAct.fKind z1Y.fAct.fA z1Y.fAct.fB z1Y.fAct.fData),(16,(y2G (⟨(⟨i64 (zj.fPc + 1),zj.fLeft,zj.fRegs⟩ : Sproc_State),z1g.1,z1B,(⟨0,0,0,[]⟩ : Sproc_Act)⟩ : Sproc_execution)).bind fun z1Z=>z2j z1Z.fState.fPc z1Z.fState.fLeft z1Z.fState.fRegs.a0 z1Z.fState.fRegs.a1 z1Z.fState.fRegs.a2 z1Z.fState.fRegs.a3 z1Z.fX.fOp z1Z.fX.fA z1Z.fX.fB z1Z.fX.fC z1Z.fMem z1Z.fAct.fKind z1Z.fAct.fA z1Z.fAct.fB z1Z.fAct.fData),(17,(y2H (⟨(⟨i64 (zj.fPc + 1),zj.fLeft,zj.fRegs⟩ : Sproc_State),z1g.1,z1B,(⟨0,0,0,[]⟩ : Sproc_Act)⟩ : Sproc_execution)).bind fun z20=>z2j z20.fState.fPc z20.fState.fLeft z20.fState.fRegs.a0 z20.fState.fRegs.a1 z20.fState.fRegs.a2 z20.fState.fRegs.a3 z20.fX.fOp z20.fX.fA z20.fX.fB z20.fX.fC z20.fMem z20.fAct.fKind z20.fAct.fA z20.fAct.fB z20.fAct.fData),(18,(y2u (⟨(⟨i64 (zj.fPc + 1),zj.fLeft,zj.fRegs⟩ : Sproc_State),z1g.1,z1B,(⟨0,0,0,[]⟩ : Sproc_Act)⟩ : Sproc_execution)).bind fun z21=>z2j z21.fState.fPc z21.fState.fLeft z21.fState.fRegs.a0 z21.fState.fRegs.a1 z21.fState.fRegs.a2 z21.fState.fRegs.a3 z21.fX.fOp z21.fX.fA z21.fX.fB z21.fX.fC z21.fMem z21.fAct.fKind z21.fAct.fA z21.fAct.fB z21.fAct.fData),(19,(y2I (⟨(⟨i64 (zj.fPc + 1),zj.fLeft,zj.fRegs⟩ : Sproc_State),z1g.1,z1B,(⟨0,0,0,[]⟩ : Sproc_Act)⟩ : Sproc_execution)).bind fun z1G=>z2j z1G.fState.fPc z1G.fState.fLeft z1G.fState.fRegs.a0 z1G.fState.fRegs.a1 z1G.fState.fRegs.a2 z1G.fState.fRegs.a3 z1G.fX.fOp z1G.fX.fA z1G.fX.fB z1G.fX.fC z1G.fMem z1G.fAct.fKind z1G.fAct.fA z1G.fAct.fB z1G.fAct.fData),(20,(y2J (⟨(⟨i64 (zj.fPc + 1),zj.fLeft,zj.fRegs⟩ : Sproc_State),z1g.1,z1B,(⟨0,0,0,[]⟩ : Sproc_Act)⟩ : Sproc_execution)).bind fun z22=>z2j z22.fState.fPc z22.fState.fLeft z22.fState.fRegs.a0 z22.fState.fRegs.a1 z22.fState.fRegs.a2 z22.fState.fRegs.a3 z22.fX.fOp z22.fX.fA z22.fX.fB z22.fX.fC z22.fMem z22.fAct.fKind z22.fAct.fA z22.fAct.fB z22.fAct.fData),(21,(y2K (⟨(⟨i64 (zj.fPc + 1),zj.fLeft,zj.fRegs⟩ : Sproc_State),z1g.1,z1B,(⟨0,0,0,[]⟩ : Sproc_Act)⟩ : Sproc_execution)).bind fun z23=>z2j z23.fState.fPc z23.fState.fLeft z23.fState.fRegs.a0 z23.fState.fRegs.a1 z23.fState.fRegs.a2 z23.fState.fRegs.a3 z23.fX.fOp z23.fX.fA z23.fX.fB z23.fX.fC z23.fMem z23.fAct.fKind z23.fAct.fA z23.fAct.fB z23.fAct.fData),(22,(y2L (⟨(⟨i64 (zj.fPc + 1),zj.fLeft,zj.fRegs⟩ : Sproc_State),z1g.1,z1B,(⟨0,0,0,[]⟩ : Sproc_Act)⟩ : Sproc_execution)).bind fun z24=>z2j z24.fState.fPc z24.fState.fLeft z24.fState.fRegs.a0 z24.fState.fRegs.a1 z24.fState.fRegs.a2 z24.fState.fRegs.a3 z24.fX.fOp z24.fX.fA z24.fX.fB z24.fX.fC z24.fMem z24.fAct.fKind z24.fAct.fA z24.fAct.fB z24.fAct.fData),(23,(y2X (⟨(⟨i64 (zj.fPc + 1),zj.fLeft,zj.fRegs⟩ : Sproc_State),z1g.1,z1B,(⟨0,0,0,[]⟩ : Sproc_Act)⟩ : Sproc_execution)).bind fun z25=>z2j z25.fState.fPc z25.fState.fLeft z25.fState.fRegs.a0 z25.fState.fRegs.a1 z25.fState.fRegs.a2 z25.fState.fRegs.a3 z25.fX.fOp z25.fX.fA z25.fX.fB z25.fX.fC z25.fMem z25.fAct.fKind z25.fAct.fA z25.fAct.fB z25.fAct.fData),(24,(y2v (⟨(⟨i64 (zj.fPc + 1),zj.fLeft,zj.fRegs⟩ : Sproc_State),z1g.1,z1B,(⟨0,0,0,[]⟩ : Sproc_Act)⟩ : Sproc_execution)).bind fun z1H=>z2j z1H.fState.fPc z1H.fState.fLeft z1H.fState.fRegs.a0 z1H.fState.fRegs.a1 z1H.fState.fRegs.a2 z1H.fState.fRegs.a3 z1H.fX.fOp z1H.fX.fA z1H.fX.fB z1H.fX.fC z1H.fMem z1H.fAct.fKind z1H.fAct.fA z1H.fAct.fB z1H.fAct.fData),(25,(y2M (⟨(⟨i64 (zj.fPc + 1),zj.fLeft,zj.fRegs⟩ : Sproc_State),z1g.1,z1B,(⟨0,0,0,[]⟩ : Sproc_Act)⟩ : Sproc_execution)).bind fun z1I=>z2j z1I.fState.fPc z1I.fState.fLeft z1I.fState.fRegs.a0 z1I.fState.fRegs.a1 z1I.fState.fRegs.a2 z1I.fState.fRegs.a3 z1I.fX.fOp z1I.fX.fA z1I.fX.fB z1I.fX.fC z1I.fMem z1I.fAct.fKind z1I.fAct.fA z1I.fAct.fB z1I.fAct.fData)] z1g.1.fOp)
set_option maxRecDepth 20000 in
theorem y2e (Z : Zp) (zez : Option Addr) (zeA : Nat) (zby : Option Addr) (zbz : Nat) (zbx : List Sapi_Ins) (zj : Sproc_State) (z1B : List Int) (r : Sproc_State × Sproc_Act)
  (h : y2w zbx zj z1B = some r) (w₀ : World) (hz : PZ [] w₀ Z)
  (hG0 : ZC Z ⟨0,0,none⟩ y60)
  (hG1 : ZS Z 1 (p74 Z) (some ⟨1,0,none⟩) 26 y19)
  (zoD : ZS Z 4 (fun r x=>r = e33 x) zez zeA zbx)
  (z2x : ZS Z 1 (fun r x=>r = e5 x) zby zbz z1B) :
  Calls Tryd.prog 18 #[(.slice zez zbx.length zeA),(.agg #[(.int .i64 zj.fPc),(.int .i64 zj.fLeft),(.int .u8 zj.fRegs.a0),(.int .u8 zj.fRegs.a1),(.int .u8 zj.fRegs.a2),(.int .u8 zj.fRegs.a3)]),(.slice zby z1B.length zbz)] w₀ fun e w'=>∃ Zn : Zp,∃ zjO : Option Addr,∃ zjP : Nat,e = .returned (.tuple #[(.agg #[(.int .i64 r.1.fPc),(.int .i64 r.1.fLeft),(.int .u8 r.1.fRegs.a0),(.int .u8 r.1.fRegs.a1),(.int .u8 r.1.fRegs.a2),(.int .u8 r.1.fRegs.a3)]),(.agg #[(.int .u8 r.2.fKind),(.int .i64 r.2.fA),(.int .i64 r.2.fB),(.slice zjO r.2.fData.length zjP)])]) ∧ (ZS (Z ++ Zn) 1 (fun r x=>r = e5 x) zjO zjP r.2.fData) ∧ Hp [] w₀ w' [fz Zn]:=by
 unfold y2w at h
 refine Calls.y8 (vs:=[(.slice zez zbx.length zeA),(.agg #[(.int .i64 zj.fPc),(.int .i64 zj.fLeft),(.int .u8 zj.fRegs.a0),(.int .u8 zj.fRegs.a1),(.int .u8 zj.fRegs.a2),(.int .u8 zj.fRegs.a3)]),(.slice zby z1B.length zbz)]) (pre:=[]) (env:=[(0,(.slice zez zbx.length zeA)),(1,(.agg #[(.int .i64 zj.fPc),(.int .i64 zj.fLeft),(.int .u8 zj.fRegs.a0),(.int .u8 zj.fRegs.a1),(.int .u8 zj.fRegs.a2),(.int .u8 zj.fRegs.a3)])),(2,(.slice zby z1B.length zbz))]) Tryd.func18 rfl Tryd.ntmps18 rfl (Hp.nil w₀ _) rfl ?_
 refine WC.pool (WC.b (WC.a ?_))
 refine WL.new (dd:=4) rfl rfl rfl (y3p (cs:=[(.int .i64 zj.fPc),(.int .i64 zj.fLeft),(.int .u8 zj.fRegs.a0),(.int .u8 zj.fRegs.a1),(.int .u8 zj.fRegs.a2),(.int .u8 zj.fRegs.a3)]) rfl rfl) ?_
 intro zx3 _
 refine WL.new (dd:=6) rfl rfl rfl (yA (cs:=[(.int .i64 0),(.int .i64 0),(.int .u8 0),(.int .u8 0),(.int .u8 0),(.int .u8 0)]) y1i rfl) ?_
 intro zjQ _
 refine WL.new (dd:=7) rfl rfl rfl (yA (cs:=[(.int .u8 0),(.int .i64 0),(.int .i64 0),(.slice none 0 0)]) y1o rfl) ?_
 intro zjR _
 refine WL.nil (WX.a (WC.b ?_))
 obtain ⟨z1g,zoE,h⟩:=zb h
 refine WC.a (WL.pu rfl ?_)
 refine WL.a (d:=13) rfl rfl rfl (y4 y1d rfl rfl) ?_
 refine WL.a (d:=14) rfl rfl rfl (y5 yd rfl (yb .h2 rfl)) ?_
 refine WL.b (dd:=15) rfl rfl rfl (zk (l:=[.tmp 12,.tmp 14]) Tryd.call33 (.cons rfl (.cons rfl .nil))) .nil (ccz hz .nil .h3 fun w pz ho=>y5S _ _ _ _ _ _ zoE w pz ((hG1.mono (Zle.left _ _)).weak (fun _ _ h=>y10 (Zle.left _ _) h)) (zoD.mono (Zle.left _ _))) ?_
 refine WL.pu rfl (WL.pu rfl (WL.pu rfl ?_))
 refine WL.new (dd:=8) rfl rfl rfl (yA (cs:=[(.int .u8 0),(.int .i64 0),(.int .i64 0),(.int .i64 0)]) y49 rfl) ?_
 intro zx4 _
 refine WL.yf rfl rfl (yt y43 rfl rfl rfl .here rfl rfl rfl) ?_
 refine WL.pu rfl (WL.nil (WX.a (WC.b (WC.b (WC.a (WL.pu rfl (WL.pu rfl (WL.nil (WX.a ?_)))))))))
 refine WC.cond rfl (fun zfK=>?_) (fun zfK=>?_)
 ·replace h:=ym h zfK
  refine WC.b (WC.a ?_)
  refine WL.a (d:=20) rfl rfl rfl (yE yQ rfl (yz .h3) rfl) ?_
  refine WL.a (d:=21) rfl rfl rfl (yP (v:=(.agg #[(.int .u8 15),(.int .i64 5),(.int .i64 0),(.slice none 0 0)])) (Eos.parts (l:=[.const (.int .u8 15),.const (.int .i64 5)]) (.cons rfl (.cons rfl .nil)) [0,1]) (fun _=>by kernel_rfl)) ?_
  refine WL.yf rfl rfl (yt y1l rfl rfl rfl .h2 rfl rfl rfl) ?_
  refine WL.yf rfl rfl (yt yV rfl rfl rfl .h2 rfl rfl rfl) ?_
  refine WL.nil (WX.a (WC.ret (WX.yh ?_)))
  obtain rfl:=Option.some.inj h
  refine WX.yi Tryd.results18 (.agg rfl yQ rfl (yz .h1) (.agg rfl y1q rfl (yz .here) .nil)) (fun w hw=>?_)
  exact ⟨[],none,0,y3M rfl rfl,(ZS.nil _ _ _),hw.sub (.cons .h4 .nil)⟩
 ·replace h:=yn h zfK
  refine WC.skip (WX.a (WC.b (WC.a ?_)))
  refine WL.a (d:=22) rfl rfl rfl (yE yQ rfl (yz .h3) rfl) ?_
  refine WL.a (d:=23) rfl rfl rfl (yE y3h rfl (yz .here) rfl) ?_
  refine WL.pu rfl ?_
  refine WL.a (d:=25) rfl rfl rfl (yP (v:=(.agg #[(.int .i64 zj.fPc),(.int .i64 zj.fLeft),(.int .u8 zj.fRegs.a0),(.int .u8 zj.fRegs.a1),(.int .u8 zj.fRegs.a2),(.int .u8 zj.fRegs.a3),(.int .u8 z1g.1.fOp),(.int .i64 z1g.1.fA),(.int .i64 z1g.1.fB),(.int .i64 z1g.1.fC),(.slice zby z1B.length zbz),(.int .u8 0),(.int .i64 0),(.int .i64 0),(.slice none 0 0)])) (Eos.parts (l:=[.tmp 22,.tmp 23,.tmp 24]) (.cons rfl (.cons rfl (.cons rfl .nil))) [0,1,2]) (fun _=>by kernel_rfl)) ?_
  refine WL.new (dd:=26) rfl rfl rfl (y3p (cs:=[(.int .i64 zj.fPc),(.int .i64 zj.fLeft),(.int .u8 zj.fRegs.a0),(.int .u8 zj.fRegs.a1),(.int .u8 zj.fRegs.a2),(.int .u8 zj.fRegs.a3),(.int .u8 z1g.1.fOp),(.int .i64 z1g.1.fA),(.int .i64 z1g.1.fB),(.int .i64 z1g.1.fC),(.slice zby z1B.length zbz),(.int .u8 0),(.int .i64 0),(.int .i64 0),(.slice none 0 0)]) rfl rfl) ?_
  intro zfL _
  refine WL.pu rfl (WL.nil (WX.a (WC.b (WC.a (WL.pu rfl ?_)))))
  refine WL.a (d:=28) rfl rfl rfl (y6 rfl) ?_
  refine WL.a (d:=29) rfl rfl rfl (y4 yH rfl rfl) ?_
  refine WL.a (d:=30) rfl rfl rfl (y4 y1d rfl rfl) ?_
  refine WL.a (d:=31) rfl rfl rfl (y5 yd rfl (yb .here rfl)) ?_
  refine WL.pu rfl ?_
  refine WL.a (d:=33) rfl rfl rfl (y6 rfl) ?_
  refine WL.a (d:=34) rfl rfl rfl (y4 yH rfl rfl) ?_
  refine WL.a (d:=35) rfl rfl rfl (y4 y1d rfl rfl) ?_
  refine WL.yf rfl rfl (yK (ds:=[(.int .i64 (i64 (zj.fPc + 1))),(.int .i64 zj.fLeft),(.int .u8 zj.fRegs.a0),(.int .u8 zj.fRegs.a1),(.int .u8 zj.fRegs.a2),(.int .u8 zj.fRegs.a3),(.int .u8 z1g.1.fOp),(.int .i64 z1g.1.fA),(.int .i64 z1g.1.fB),(.int .i64 z1g.1.fC),(.slice zby z1B.length zbz),(.int .u8 0),(.int .i64 0),(.int .i64 0),(.slice none 0 0)]) y20 rfl rfl rfl rfl rfl .here rfl rfl) ?_
  refine WL.nil (WX.a ?_)
  obtain ⟨z2j,zoF,h⟩:=y7Q h
  refine WC.y7g (fun (z7l : Int) (z7m : Int) (z7n : Int) (z7o : Int) (z7p : Int) (z7q : Int) (zaa : Int) (zab : Int) (zac : Int) (zad : Int) (z8I : List Int) (z7r : Int) (z7s : Int) (z7t : Int) (z6z : List Int) (zae : Zp) (zd9 : Option Addr) (zda : Nat) (zaf : Option Addr) (zag : Nat)=>(z2j z7l z7m z7n z7o z7p z7q zaa zab zac zad z8I z7r z7s z7t z6z = some r) ∧ (Zle (Z ++ []) (Z ++ zae)) ∧ (ZS (Z ++ zae) 1 (fun r x=>r = e5 x) zd9 zda z8I) ∧ (ZS (Z ++ zae) 1 (fun r x=>r = e5 x) zaf zag z6z)) (fun (z7l : Int) (z7m : Int) (z7n : Int) (z7o : Int) (z7p : Int) (z7q : Int) (zaa : Int) (zab : Int) (zac : Int) (zad : Int) (z8I : List Int) (z7r : Int) (z7s : Int) (z7t : Int) (z6z : List Int) (zae : Zp) (zd9 : Option Addr) (zda : Nat) (zaf : Option Addr) (zag : Nat)=>[(6,(.pointer (some ⟨zjQ,0,none⟩))),(7,(.pointer (some ⟨zjR,0,none⟩))),(10,(.pointer (some ⟨zfL,0,none⟩)))]) (fun (z7l : Int) (z7m : Int) (z7n : Int) (z7o : Int) (z7p : Int) (z7q : Int) (zaa : Int) (zab : Int) (zac : Int) (zad : Int) (z8I : List Int) (z7r : Int) (z7s : Int) (z7t : Int) (z6z : List Int) (zae : Zp) (zd9 : Option Addr) (zda : Nat) (zaf : Option Addr) (zag : Nat)=>[fz zae,stb zjQ 39 [(.int .i64 0),(.int .i64 0),(.int .u8 0),(.int .u8 0),(.int .u8 0),(.int .u8 0)],stb zjR 41 [(.int .u8 0),(.int .i64 0),(.int .i64 0),(.slice none 0 0)],stb zfL 65 [(.int .i64 z7l),(.int .i64 z7m),(.int .u8 z7n),(.int .u8 z7o),(.int .u8 z7p),(.int .u8 z7q),(.int .u8 zaa),(.int .i64 zab),(.int .i64 zac),(.int .i64 zad),(.slice zd9 z8I.length zda),(.int .u8 z7r),(.int .i64 z7s),(.int .i64 z7t),(.slice zaf z6z.length zag)]]) ?_ ?_
  ·skip
   obtain ⟨zoG,h⟩:=ya h
   refine WC.a ?_
   refine WL.a (d:=36) rfl rfl rfl (y4 y3P rfl rfl) ?_
   refine WL.a (d:=37) rfl rfl rfl (y5 yC rfl (yb .h1 rfl)) ?_
   refine WL.a (d:=38) rfl rfl rfl (y3u arT_67 rfl rfl zoG rfl) ?_
   rcases yo h with ⟨zoH,h⟩ | h
   ·skip
    obtain ⟨z1K,zoI,h⟩:=zb h
    refine WL.a (d:=39) rfl rfl rfl (y5 yp rfl (yw (k:=1) (hz.pv2 .h5) (hG0.mono (Zle.left _ _)) zoH rfl)) ?_
    refine WL.pu rfl ?_
    refine WL.yv (dd:=41) rfl rfl rfl (ye (l:=[.tmp 40]) Tryd.call84 rfl (.cons rfl .nil)) (.cons .here .nil) (ccz hz (.cons .here .nil) .h4 fun w pz ho=>y4U _ _ _ _ _ _ _ _ zoI w pz (z2x.mono (Zle.left _ _)) (ZS.nil _ _ _) ho) ?_
    rintro zoJ zoK zoL zoM ⟨zoN,zoO⟩
    refine WL.nil ?_
    exact WX.mid (G:=Int × Int × Int × Int × Int × Int × Int × Int × Int × Int × List Int × Int × Int × Int × List Int × Zp × Option Addr × Nat × Option Addr × Nat) ⟨z1K.fState.fPc,z1K.fState.fLeft,z1K.fState.fRegs.a0,z1K.fState.fRegs.a1,z1K.fState.fRegs.a2,z1K.fState.fRegs.a3,z1K.fX.fOp,z1K.fX.fA,z1K.fX.fB,z1K.fX.fC,z1K.fMem,z1K.fAct.fKind,z1K.fAct.fA,z1K.fAct.fB,z1K.fAct.fData,[],zoJ,zoK,zoL,zoM⟩ ⟨h,(Zle.refl _),zoN,zoO⟩ (.cons rfl (.cons rfl (.cons rfl .nil))) (.cons .h5 (.cons .h3 (.cons .h2 (.cons .here .nil))))
   rcases yo h with ⟨zoP,h⟩ | h
   ·skip
    obtain ⟨z1L,zoQ,h⟩:=zb h
    refine WL.a (d:=39) rfl rfl rfl (y5 yp rfl (yw (k:=2) (hz.pv2 .h5) (hG0.mono (Zle.left _ _)) zoP rfl)) ?_
    refine WL.pu rfl ?_
    refine WL.yv (dd:=41) rfl rfl rfl (ye (l:=[.tmp 40]) Tryd.call85 rfl (.cons rfl .nil)) (.cons .here .nil) (ccz hz (.cons .here .nil) .h4 fun w pz ho=>y5q _ _ _ _ _ _ _ _ zoQ w pz (z2x.mono (Zle.left _ _)) (ZS.nil _ _ _) ho) ?_
    rintro zoR zoS zoT zoU ⟨zoV,zoW⟩
    refine WL.nil ?_
    exact WX.mid (G:=Int × Int × Int × Int × Int × Int × Int × Int × Int × Int × List Int × Int × Int × Int × List Int × Zp × Option Addr × Nat × Option Addr × Nat) ⟨z1L.fState.fPc,z1L.fState.fLeft,z1L.fState.fRegs.a0,z1L.fState.fRegs.a1,z1L.fState.fRegs.a2,z1L.fState.fRegs.a3,z1L.fX.fOp,z1L.fX.fA,z1L.fX.fB,z1L.fX.fC,z1L.fMem,z1L.fAct.fKind,z1L.fAct.fA,z1L.fAct.fB,z1L.fAct.fData,[],zoR,zoS,zoT,zoU⟩ ⟨h,(Zle.refl _),zoV,zoW⟩ (.cons rfl (.cons rfl (.cons rfl .nil))) (.cons .h5 (.cons .h3 (.cons .h2 (.cons .here .nil))))
   rcases yo h with ⟨zoX,h⟩ | h
   ·skip
    obtain ⟨z1M,zoY,h⟩:=zb h
    refine WL.a (d:=39) rfl rfl rfl (y5 yp rfl (yw (k:=3) (hz.pv2 .h5) (hG0.mono (Zle.left _ _)) zoX rfl)) ?_
    refine WL.pu rfl ?_
    refine WL.yv (dd:=41) rfl rfl rfl (ye (l:=[.tmp 40]) Tryd.call82 rfl (.cons rfl .nil)) (.cons .here .nil) (ccz hz (.cons .here .nil) .h4 fun w pz ho=>y5r _ _ _ _ _ _ _ _ zoY w pz (z2x.mono (Zle.left _ _)) (ZS.nil _ _ _) ho) ?_
    rintro zoZ zp0 zp1 zp2 ⟨zp3,zp4⟩
    refine WL.nil ?_
    exact WX.mid (G:=Int × Int × Int × Int × Int × Int × Int × Int × Int × Int × List Int × Int × Int × Int × List Int × Zp × Option Addr × Nat × Option Addr × Nat) ⟨z1M.fState.fPc,z1M.fState.fLeft,z1M.fState.fRegs.a0,z1M.fState.fRegs.a1,z1M.fState.fRegs.a2,z1M.fState.fRegs.a3,z1M.fX.fOp,z1M.fX.fA,z1M.fX.fB,z1M.fX.fC,z1M.fMem,z1M.fAct.fKind,z1M.fAct.fA,z1M.fAct.fB,z1M.fAct.fData,[],zoZ,zp0,zp1,zp2⟩ ⟨h,(Zle.refl _),zp3,zp4⟩ (.cons rfl (.cons rfl (.cons rfl .nil))) (.cons .h5 (.cons .h3 (.cons .h2 (.cons .here .nil))))
   rcases yo h with ⟨zp5,h⟩ | h
   ·skip
    obtain ⟨z1N,zp6,h⟩:=zb h
    refine WL.a (d:=39) rfl rfl rfl (y5 yp rfl (yw (k:=4) (hz.pv2 .h5) (hG0.mono (Zle.left _ _)) zp5 rfl)) ?_
    refine WL.pu rfl ?_
    refine WL.yv (dd:=41) rfl rfl rfl (ye (l:=[.tmp 40]) Tryd.call86 rfl (.cons rfl .nil)) (.cons .here .nil) (ccz hz (.cons .here .nil) .h4 fun w pz ho=>y5s _ _ _ _ _ _ _ _ zp6 w pz (z2x.mono (Zle.left _ _)) (ZS.nil _ _ _) ho) ?_
    rintro zp7 zp8 zp9 zpa ⟨zpb,zpc⟩
    refine WL.nil ?_
    exact WX.mid (G:=Int × Int × Int × Int × Int × Int × Int × Int × Int × Int × List Int × Int × Int × Int × List Int × Zp × Option Addr × Nat × Option Addr × Nat) ⟨z1N.fState.fPc,z1N.fState.fLeft,z1N.fState.fRegs.a0,z1N.fState.fRegs.a1,z1N.fState.fRegs.a2,z1N.fState.fRegs.a3,z1N.fX.fOp,z1N.fX.fA,z1N.fX.fB,z1N.fX.fC,z1N.fMem,z1N.fAct.fKind,z1N.fAct.fA,z1N.fAct.fB,z1N.fAct.fData,[],zp7,zp8,zp9,zpa⟩ ⟨h,(Zle.refl _),zpb,zpc⟩ (.cons rfl (.cons rfl (.cons rfl .nil))) (.cons .h5 (.cons .h3 (.cons .h2 (.cons .here .nil))))
   rcases yo h with ⟨zpd,h⟩ | h
   ·skip
    obtain ⟨z1O,zpe,h⟩:=zb h
    refine WL.a (d:=39) rfl rfl rfl (y5 yp rfl (yw (k:=5) (hz.pv2 .h5) (hG0.mono (Zle.left _ _)) zpd rfl)) ?_
    refine WL.pu rfl ?_
    refine WL.y2Q (dd:=41) rfl rfl rfl (ye (l:=[.tmp 40]) Tryd.call87 rfl (.cons rfl .nil)) (.cons .here .nil) (ccz hz (.cons .here .nil) .h4 fun w pz ho=>y4V _ _ _ _ _ _ _ _ zpe w pz (z2x.mono (Zle.left _ _)) (ZS.nil _ _ _) ho) ?_
    rintro zpf zpg zph zpi zpj ⟨zpk,zpl⟩
    refine WL.merge .here .h5 ?_
    refine WL.nil ?_
    exact WX.mid (G:=Int × Int × Int × Int × Int × Int × Int × Int × Int × Int × List Int × Int × Int × Int × List Int × Zp × Option Addr × Nat × Option Addr × Nat) ⟨z1O.fState.fPc,z1O.fState.fLeft,z1O.fState.fRegs.a0,z1O.fState.fRegs.a1,z1O.fState.fRegs.a2,z1O.fState.fRegs.a3,z1O.fX.fOp,z1O.fX.fA,z1O.fX.fB,z1O.fX.fC,z1O.fMem,z1O.fAct.fKind,z1O.fAct.fA,z1O.fAct.fB,z1O.fAct.fData,([] ++ zpf),zpg,zph,zpi,zpj⟩ ⟨h,((Zle.left _ _).trans (Zle.y7 _ _ _)),(zpk.mono (Zle.y7 _ _ _)),(zpl.mono (Zle.y7 _ _ _))⟩ (.cons rfl (.cons rfl (.cons rfl .nil))) (.cons .here (.cons .h3 (.cons .h2 (.cons .here .nil))))
   rcases yo h with ⟨zpm,h⟩ | h
   ·skip
    obtain ⟨z1P,zpn,h⟩:=zb h
    refine WL.a (d:=39) rfl rfl rfl (y5 yp rfl (yw (k:=6) (hz.pv2 .h5) (hG0.mono (Zle.left _ _)) zpm rfl)) ?_
    refine WL.pu rfl ?_
    refine WL.y2Q (dd:=41) rfl rfl rfl (ye (l:=[.tmp 40]) Tryd.call88 rfl (.cons rfl .nil)) (.cons .here .nil) (ccz hz (.cons .here .nil) .h4 fun w pz ho=>y4w _ _ _ _ _ _ _ _ zpn w pz (z2x.mono (Zle.left _ _)) (ZS.nil _ _ _) ho) ?_
    rintro zpo zpp zpq zpr zps ⟨zpt,zpu⟩
    refine WL.merge .here .h5 ?_
    refine WL.nil ?_
    exact WX.mid (G:=Int × Int × Int × Int × Int × Int × Int × Int × Int × Int × List Int × Int × Int × Int × List Int × Zp × Option Addr × Nat × Option Addr × Nat) ⟨z1P.fState.fPc,z1P.fState.fLeft,z1P.fState.fRegs.a0,z1P.fState.fRegs.a1,z1P.fState.fRegs.a2,z1P.fState.fRegs.a3,z1P.fX.fOp,z1P.fX.fA,z1P.fX.fB,z1P.fX.fC,z1P.fMem,z1P.fAct.fKind,z1P.fAct.fA,z1P.fAct.fB,z1P.fAct.fData,([] ++ zpo),zpp,zpq,zpr,zps⟩ ⟨h,((Zle.left _ _).trans (Zle.y7 _ _ _)),(zpt.mono (Zle.y7 _ _ _)),(zpu.mono (Zle.y7 _ _ _))⟩ (.cons rfl (.cons rfl (.cons rfl .nil))) (.cons .here (.cons .h3 (.cons .h2 (.cons .here .nil))))
   rcases yo h with ⟨zpv,h⟩ | h
   ·skip
    obtain ⟨z1Q,zpw,h⟩:=zb h
    refine WL.a (d:=39) rfl rfl rfl (y5 yp rfl (yw (k:=7) (hz.pv2 .h5) (hG0.mono (Zle.left _ _)) zpv rfl)) ?_
    refine WL.pu rfl ?_
    refine WL.y2Q (dd:=41) rfl rfl rfl (ye (l:=[.tmp 40]) Tryd.call89 rfl (.cons rfl .nil)) (.cons .here .nil) (ccz hz (.cons .here .nil) .h4 fun w pz ho=>y4W _ _ _ _ _ _ _ _ zpw w pz (z2x.mono (Zle.left _ _)) (ZS.nil _ _ _) ho) ?_
    rintro zpx zpy zpz zpA zpB ⟨zpC,zpD⟩
    refine WL.merge .here .h5 ?_
    refine WL.nil ?_
    exact WX.mid (G:=Int × Int × Int × Int × Int × Int × Int × Int × Int × Int × List Int × Int × Int × Int × List Int × Zp × Option Addr × Nat × Option Addr × Nat) ⟨z1Q.fState.fPc,z1Q.fState.fLeft,z1Q.fState.fRegs.a0,z1Q.fState.fRegs.a1,z1Q.fState.fRegs.a2,z1Q.fState.fRegs.a3,z1Q.fX.fOp,z1Q.fX.fA,z1Q.fX.fB,z1Q.fX.fC,z1Q.fMem,z1Q.fAct.fKind,z1Q.fAct.fA,z1Q.fAct.fB,z1Q.fAct.fData,([] ++ zpx),zpy,zpz,zpA,zpB⟩ ⟨h,((Zle.left _ _).trans (Zle.y7 _ _ _)),(zpC.mono (Zle.y7 _ _ _)),(zpD.mono (Zle.y7 _ _ _))⟩ (.cons rfl (.cons rfl (.cons rfl .nil))) (.cons .here (.cons .h3 (.cons .h2 (.cons .here .nil))))
   rcases yo h with ⟨zpE,h⟩ | h
   ·skip
    obtain ⟨z1R,zpF,h⟩:=zb h
    refine WL.a (d:=39) rfl rfl rfl (y5 yp rfl (yw (k:=8) (hz.pv2 .h5) (hG0.mono (Zle.left _ _)) zpE rfl)) ?_
    refine WL.pu rfl ?_
    refine WL.yv (dd:=41) rfl rfl rfl (ye (l:=[.tmp 40]) Tryd.call90 rfl (.cons rfl .nil)) (.cons .here .nil) (ccz hz (.cons .here .nil) .h4 fun w pz ho=>y4X _ _ _ _ _ _ _ _ zpF w pz (z2x.mono (Zle.left _ _)) (ZS.nil _ _ _) ho) ?_
    rintro zpG zpH zpI zpJ ⟨zpK,zpL⟩
    refine WL.nil ?_
    exact WX.mid (G:=Int × Int × Int × Int × Int × Int × Int × Int × Int × Int × List Int × Int × Int × Int × List Int × Zp × Option Addr × Nat × Option Addr × Nat) ⟨z1R.fState.fPc,z1R.fState.fLeft,z1R.fState.fRegs.a0,z1R.fState.fRegs.a1,z1R.fState.fRegs.a2,z1R.fState.fRegs.a3,z1R.fX.fOp,z1R.fX.fA,z1R.fX.fB,z1R.fX.fC,z1R.fMem,z1R.fAct.fKind,z1R.fAct.fA,z1R.fAct.fB,z1R.fAct.fData,[],zpG,zpH,zpI,zpJ⟩ ⟨h,(Zle.refl _),zpK,zpL⟩ (.cons rfl (.cons rfl (.cons rfl .nil))) (.cons .h5 (.cons .h3 (.cons .h2 (.cons .here .nil))))
   rcases yo h with ⟨zpM,h⟩ | h
   ·skip
    obtain ⟨z1S,zpN,h⟩:=zb h
    refine WL.a (d:=39) rfl rfl rfl (y5 yp rfl (yw (k:=9) (hz.pv2 .h5) (hG0.mono (Zle.left _ _)) zpM rfl)) ?_
    refine WL.pu rfl ?_
    refine WL.yv (dd:=41) rfl rfl rfl (ye (l:=[.tmp 40]) Tryd.call91 rfl (.cons rfl .nil)) (.cons .here .nil) (ccz hz (.cons .here .nil) .h4 fun w pz ho=>y4Y _ _ _ _ _ _ _ _ zpN w pz (z2x.mono (Zle.left _ _)) (ZS.nil _ _ _) ho) ?_
    rintro zpO zpP zpQ zpR ⟨zpS,zpT⟩
    refine WL.nil ?_
    exact WX.mid (G:=Int × Int × Int × Int × Int × Int × Int × Int × Int × Int × List Int × Int × Int × Int × List Int × Zp × Option Addr × Nat × Option Addr × Nat) ⟨z1S.fState.fPc,z1S.fState.fLeft,z1S.fState.fRegs.a0,z1S.fState.fRegs.a1,z1S.fState.fRegs.a2,z1S.fState.fRegs.a3,z1S.fX.fOp,z1S.fX.fA,z1S.fX.fB,z1S.fX.fC,z1S.fMem,z1S.fAct.fKind,z1S.fAct.fA,z1S.fAct.fB,z1S.fAct.fData,[],zpO,zpP,zpQ,zpR⟩ ⟨h,(Zle.refl _),zpS,zpT⟩ (.cons rfl (.cons rfl (.cons rfl .nil))) (.cons .h5 (.cons .h3 (.cons .h2 (.cons .here .nil))))
   rcases yo h with ⟨zpU,h⟩ | h
   ·skip
    obtain ⟨z1T,zpV,h⟩:=zb h
    refine WL.a (d:=39) rfl rfl rfl (y5 yp rfl (yw (k:=10) (hz.pv2 .h5) (hG0.mono (Zle.left _ _)) zpU rfl)) ?_
    refine WL.pu rfl ?_
    refine WL.yv (dd:=41) rfl rfl rfl (ye (l:=[.tmp 40]) Tryd.call92 rfl (.cons rfl .nil)) (.cons .here .nil) (ccz hz (.cons .here .nil) .h4 fun w pz ho=>y4j _ _ _ _ _ _ _ _ zpV w pz (z2x.mono (Zle.left _ _)) (ZS.nil _ _ _) ho) ?_
    rintro zpW zpX zpY zpZ ⟨zq0,zq1⟩
    refine WL.nil ?_
    exact WX.mid (G:=Int × Int × Int × Int × Int × Int × Int × Int × Int × Int × List Int × Int × Int × Int × List Int × Zp × Option Addr × Nat × Option Addr × Nat) ⟨z1T.fState.fPc,z1T.fState.fLeft,z1T.fState.fRegs.a0,z1T.fState.fRegs.a1,z1T.fState.fRegs.a2,z1T.fState.fRegs.a3,z1T.fX.fOp,z1T.fX.fA,z1T.fX.fB,z1T.fX.fC,z1T.fMem,z1T.fAct.fKind,z1T.fAct.fA,z1T.fAct.fB,z1T.fAct.fData,[],zpW,zpX,zpY,zpZ⟩ ⟨h,(Zle.refl _),zq0,zq1⟩ (.cons rfl (.cons rfl (.cons rfl .nil))) (.cons .h5 (.cons .h3 (.cons .h2 (.cons .here .nil))))
   rcases yo h with ⟨zq2,h⟩ | h
   ·skip
    obtain ⟨z1U,zq3,h⟩:=zb h
    refine WL.a (d:=39) rfl rfl rfl (y5 yp rfl (yw (k:=11) (hz.pv2 .h5) (hG0.mono (Zle.left _ _)) zq2 rfl)) ?_
    refine WL.pu rfl ?_
    refine WL.yv (dd:=41) rfl rfl rfl (ye (l:=[.tmp 40]) Tryd.call93 rfl (.cons rfl .nil)) (.cons .here .nil) (ccz hz (.cons .here .nil) .h4 fun w pz ho=>y4x _ _ _ _ _ _ _ _ zq3 w pz (z2x.mono (Zle.left _ _)) (ZS.nil _ _ _) ho) ?_
    rintro zq4 zq5 zq6 zq7 ⟨zq8,zq9⟩
    refine WL.nil ?_
    exact WX.mid (G:=Int × Int × Int × Int × Int × Int × Int × Int × Int × Int × List Int × Int × Int × Int × List Int × Zp × Option Addr × Nat × Option Addr × Nat) ⟨z1U.fState.fPc,z1U.fState.fLeft,z1U.fState.fRegs.a0,z1U.fState.fRegs.a1,z1U.fState.fRegs.a2,z1U.fState.fRegs.a3,z1U.fX.fOp,z1U.fX.fA,z1U.fX.fB,z1U.fX.fC,z1U.fMem,z1U.fAct.fKind,z1U.fAct.fA,z1U.fAct.fB,z1U.fAct.fData,[],zq4,zq5,zq6,zq7⟩ ⟨h,(Zle.refl _),zq8,zq9⟩ (.cons rfl (.cons rfl (.cons rfl .nil))) (.cons .h5 (.cons .h3 (.cons .h2 (.cons .here .nil))))
   rcases yo h with ⟨zqa,h⟩ | h
   ·skip
    obtain ⟨z1V,zqb,h⟩:=zb h
    refine WL.a (d:=39) rfl rfl rfl (y5 yp rfl (yw (k:=12) (hz.pv2 .h5) (hG0.mono (Zle.left _ _)) zqa rfl)) ?_
    refine WL.pu rfl ?_
    refine WL.yv (dd:=41) rfl rfl rfl (ye (l:=[.tmp 40]) Tryd.call94 rfl (.cons rfl .nil)) (.cons .here .nil) (ccz hz (.cons .here .nil) .h4 fun w pz ho=>y4y _ _ _ _ _ _ _ _ zqb w pz (z2x.mono (Zle.left _ _)) (ZS.nil _ _ _) ho) ?_
    rintro zqc zqd zqe zqf ⟨zqg,zqh⟩
    refine WL.nil ?_
    exact WX.mid (G:=Int × Int × Int × Int × Int × Int × Int × Int × Int × Int × List Int × Int × Int × Int × List Int × Zp × Option Addr × Nat × Option Addr × Nat) ⟨z1V.fState.fPc,z1V.fState.fLeft,z1V.fState.fRegs.a0,z1V.fState.fRegs.a1,z1V.fState.fRegs.a2,z1V.fState.fRegs.a3,z1V.fX.fOp,z1V.fX.fA,z1V.fX.fB,z1V.fX.fC,z1V.fMem,z1V.fAct.fKind,z1V.fAct.fA,z1V.fAct.fB,z1V.fAct.fData,[],zqc,zqd,zqe,zqf⟩ ⟨h,(Zle.refl _),zqg,zqh⟩ (.cons rfl (.cons rfl (.cons rfl .nil))) (.cons .h5 (.cons .h3 (.cons .h2 (.cons .here .nil))))
   rcases yo h with ⟨zqi,h⟩ | h
   ·skip
    obtain ⟨z1W,zqj,h⟩:=zb h
    refine WL.a (d:=39) rfl rfl rfl (y5 yp rfl (yw (k:=13) (hz.pv2 .h5) (hG0.mono (Zle.left _ _)) zqi rfl)) ?_
    refine WL.pu rfl ?_
    refine WL.yv (dd:=41) rfl rfl rfl (ye (l:=[.tmp 40]) Tryd.call95 rfl (.cons rfl .nil)) (.cons .here .nil) (ccz hz (.cons .here .nil) .h4 fun w pz ho=>y4z _ _ _ _ _ _ _ _ zqj w pz (z2x.mono (Zle.left _ _)) (ZS.nil _ _ _) ho) ?_
    rintro zqk zql zqm zqn ⟨zqo,zqp⟩
    refine WL.nil ?_
    exact WX.mid (G:=Int × Int × Int × Int × Int × Int × Int × Int × Int × Int × List Int × Int × Int × Int × List Int × Zp × Option Addr × Nat × Option Addr × Nat) ⟨z1W.fState.fPc,z1W.fState.fLeft,z1W.fState.fRegs.a0,z1W.fState.fRegs.a1,z1W.fState.fRegs.a2,z1W.fState.fRegs.a3,z1W.fX.fOp,z1W.fX.fA,z1W.fX.fB,z1W.fX.fC,z1W.fMem,z1W.fAct.fKind,z1W.fAct.fA,z1W.fAct.fB,z1W.fAct.fData,[],zqk,zql,zqm,zqn⟩ ⟨h,(Zle.refl _),zqo,zqp⟩ (.cons rfl (.cons rfl (.cons rfl .nil))) (.cons .h5 (.cons .h3 (.cons .h2 (.cons .here .nil))))
   rcases yo h with ⟨zqq,h⟩ | h
   ·skip
    obtain ⟨z1X,zqr,h⟩:=zb h
    refine WL.a (d:=39) rfl rfl rfl (y5 yp rfl (yw (k:=14) (hz.pv2 .h5) (hG0.mono (Zle.left _ _)) zqq rfl)) ?_
    refine WL.pu rfl ?_
    refine WL.y2Q (dd:=41) rfl rfl rfl (ye (l:=[.tmp 40]) Tryd.call96 rfl (.cons rfl .nil)) (.cons .here .nil) (ccz hz (.cons .here .nil) .h4 fun w pz ho=>y5u _ _ _ _ _ _ _ _ zqr w pz (z2x.mono (Zle.left _ _)) (ZS.nil _ _ _) ho) ?_
    rintro zqs zqt zqu zqv zqw ⟨zqx,zqy⟩
    refine WL.merge .here .h5 ?_
    refine WL.nil ?_
    exact WX.mid (G:=Int × Int × Int × Int × Int × Int × Int × Int × Int × Int × List Int × Int × Int × Int × List Int × Zp × Option Addr × Nat × Option Addr × Nat) ⟨z1X.fState.fPc,z1X.fState.fLeft,z1X.fState.fRegs.a0,z1X.fState.fRegs.a1,z1X.fState.fRegs.a2,z1X.fState.fRegs.a3,z1X.fX.fOp,z1X.fX.fA,z1X.fX.fB,z1X.fX.fC,z1X.fMem,z1X.fAct.fKind,z1X.fAct.fA,z1X.fAct.fB,z1X.fAct.fData,([] ++ zqs),zqt,zqu,zqv,zqw⟩ ⟨h,((Zle.left _ _).trans (Zle.y7 _ _ _)),(zqx.mono (Zle.y7 _ _ _)),(zqy.mono (Zle.y7 _ _ _))⟩ (.cons rfl (.cons rfl (.cons rfl .nil))) (.cons .here (.cons .h3 (.cons .h2 (.cons .here .nil))))
   rcases yo h with ⟨zqz,h⟩ | h
   ·skip
    obtain ⟨z1Y,zqA,h⟩:=zb h
    refine WL.a (d:=39) rfl rfl rfl (y5 yp rfl (yw (k:=15) (hz.pv2 .h5) (hG0.mono (Zle.left _ _)) zqz rfl)) ?_
    refine WL.pu rfl ?_
    refine WL.yv (dd:=41) rfl rfl rfl (ye (l:=[.tmp 40]) Tryd.call97 rfl (.cons rfl .nil)) (.cons .here .nil) (ccz hz (.cons .here .nil) .h4 fun w pz ho=>y5v _ _ _ _ _ _ _ _ zqA w pz (z2x.mono (Zle.left _ _)) (ZS.nil _ _ _) ho) ?_
    rintro zqB zqC zqD zqE ⟨zqF,zqG⟩
    refine WL.nil ?_
    exact WX.mid (G:=Int × Int × Int × Int × Int × Int × Int × Int × Int × Int × List Int × Int × Int × Int × List Int × Zp × Option Addr × Nat × Option Addr × Nat) ⟨z1Y.fState.fPc,z1Y.fState.fLeft,z1Y.fState.fRegs.a0,z1Y.fState.fRegs.a1,z1Y.fState.fRegs.a2,z1Y.fState.fRegs.a3,z1Y.fX.fOp,z1Y.fX.fA,z1Y.fX.fB,z1Y.fX.fC,z1Y.fMem,z1Y.fAct.fKind,z1Y.fAct.fA,z1Y.fAct.fB,z1Y.fAct.fData,[],zqB,zqC,zqD,zqE⟩ ⟨h,(Zle.refl _),zqF,zqG⟩ (.cons rfl (.cons rfl (.cons rfl .nil))) (.cons .h5 (.cons .h3 (.cons .h2 (.cons .here .nil))))
   rcases yo h with ⟨zqH,h⟩ | h
   ·skip
    obtain ⟨z1Z,zqI,h⟩:=zb h
    refine WL.a (d:=39) rfl rfl rfl (y5 yp rfl (yw (k:=16) (hz.pv2 .h5) (hG0.mono (Zle.left _ _)) zqH rfl)) ?_
    refine WL.pu rfl ?_
    refine WL.y2Q (dd:=41) rfl rfl rfl (ye (l:=[.tmp 40]) Tryd.call98 rfl (.cons rfl .nil)) (.cons .here .nil) (ccz hz (.cons .here .nil) .h4 fun w pz ho=>y4Z _ _ _ _ _ _ _ _ zqI w pz (z2x.mono (Zle.left _ _)) (ZS.nil _ _ _) ho) ?_
    rintro zqJ zqK zqL zqM zqN ⟨zqO,zqP⟩
    refine WL.merge .here .h5 ?_
    refine WL.nil ?_
    exact WX.mid (G:=Int × Int × Int × Int × Int × Int × Int × Int × Int × Int × List Int × Int × Int × Int × List Int × Zp × Option Addr × Nat × Option Addr × Nat) ⟨z1Z.fState.fPc,z1Z.fState.fLeft,z1Z.fState.fRegs.a0,z1Z.fState.fRegs.a1,z1Z.fState.fRegs.a2,z1Z.fState.fRegs.a3,z1Z.fX.fOp,z1Z.fX.fA,z1Z.fX.fB,z1Z.fX.fC,z1Z.fMem,z1Z.fAct.fKind,z1Z.fAct.fA,z1Z.fAct.fB,z1Z.fAct.fData,([] ++ zqJ),zqK,zqL,zqM,zqN⟩ ⟨h,((Zle.left _ _).trans (Zle.y7 _ _ _)),(zqO.mono (Zle.y7 _ _ _)),(zqP.mono (Zle.y7 _ _ _))⟩ (.cons rfl (.cons rfl (.cons rfl .nil))) (.cons .here (.cons .h3 (.cons .h2 (.cons .here .nil))))
   rcases yo h with ⟨zqQ,h⟩ | h
   ·skip
    obtain ⟨z20,zqR,h⟩:=zb h
    refine WL.a (d:=39) rfl rfl rfl (y5 yp rfl (yw (k:=17) (hz.pv2 .h5) (hG0.mono (Zle.left _ _)) zqQ rfl)) ?_
    refine WL.pu rfl ?_
    refine WL.yv (dd:=41) rfl rfl rfl (ye (l:=[.tmp 40]) Tryd.call99 rfl (.cons rfl .nil)) (.cons .here .nil) (ccz hz (.cons .here .nil) .h4 fun w pz ho=>y50 _ _ _ _ _ _ _ _ zqR w pz (z2x.mono (Zle.left _ _)) (ZS.nil _ _ _) ho) ?_
    rintro zqS zqT zqU zqV ⟨zqW,zqX⟩
    refine WL.nil ?_
    exact WX.mid (G:=Int × Int × Int × Int × Int × Int × Int × Int × Int × Int × List Int × Int × Int × Int × List Int × Zp × Option Addr × Nat × Option Addr × Nat) ⟨z20.fState.fPc,z20.fState.fLeft,z20.fState.fRegs.a0,z20.fState.fRegs.a1,z20.fState.fRegs.a2,z20.fState.fRegs.a3,z20.fX.fOp,z20.fX.fA,z20.fX.fB,z20.fX.fC,z20.fMem,z20.fAct.fKind,z20.fAct.fA,z20.fAct.fB,z20.fAct.fData,[],zqS,zqT,zqU,zqV⟩ ⟨h,(Zle.refl _),zqW,zqX⟩ (.cons rfl (.cons rfl (.cons rfl .nil))) (.cons .h5 (.cons .h3 (.cons .h2 (.cons .here .nil))))
   rcases yo h with ⟨zqY,h⟩ | h
   ·skip
    obtain ⟨z21,zqZ,h⟩:=zb h
    refine WL.a (d:=39) rfl rfl rfl (y5 yp rfl (yw (k:=18) (hz.pv2 .h5) (hG0.mono (Zle.left _ _)) zqY rfl)) ?_
    refine WL.pu rfl ?_
    refine WL.yv (dd:=41) rfl rfl rfl (ye (l:=[.tmp 40]) Tryd.call100 rfl (.cons rfl .nil)) (.cons .here .nil) (ccz hz (.cons .here .nil) .h4 fun w pz ho=>y4A _ _ _ _ _ _ _ _ zqZ w pz (z2x.mono (Zle.left _ _)) (ZS.nil _ _ _) ho) ?_
    rintro zr0 zr1 zr2 zr3 ⟨zr4,zr5⟩
    refine WL.nil ?_
    exact WX.mid (G:=Int × Int × Int × Int × Int × Int × Int × Int × Int × Int × List Int × Int × Int × Int × List Int × Zp × Option Addr × Nat × Option Addr × Nat) ⟨z21.fState.fPc,z21.fState.fLeft,z21.fState.fRegs.a0,z21.fState.fRegs.a1,z21.fState.fRegs.a2,z21.fState.fRegs.a3,z21.fX.fOp,z21.fX.fA,z21.fX.fB,z21.fX.fC,z21.fMem,z21.fAct.fKind,z21.fAct.fA,z21.fAct.fB,z21.fAct.fData,[],zr0,zr1,zr2,zr3⟩ ⟨h,(Zle.refl _),zr4,zr5⟩ (.cons rfl (.cons rfl (.cons rfl .nil))) (.cons .h5 (.cons .h3 (.cons .h2 (.cons .here .nil))))
   rcases yo h with ⟨zr6,h⟩ | h
   ·skip
    obtain ⟨z1G,zr7,h⟩:=zb h
    refine WL.a (d:=39) rfl rfl rfl (y5 yp rfl (yw (k:=19) (hz.pv2 .h5) (hG0.mono (Zle.left _ _)) zr6 rfl)) ?_
    refine WL.pu rfl ?_
    refine WL.yv (dd:=41) rfl rfl rfl (ye (l:=[.tmp 40]) Tryd.call101 rfl (.cons rfl .nil)) (.cons .here .nil) (ccz hz (.cons .here .nil) .h4 fun w pz ho=>y51 _ _ _ _ _ _ _ _ zr7 w pz (z2x.mono (Zle.left _ _)) (ZS.nil _ _ _) ho) ?_
    rintro zr8 zr9 zra zrb zrc
    refine WL.nil ?_
    refine WX.freezeS (ls:=z1G.fAct.fData) .h1 .h5 hz (RR.yI (enc:=e5) (fun _=>rfl) _) ?_
    intro zrd zjS zre
    exact WX.mid (G:=Int × Int × Int × Int × Int × Int × Int × Int × Int × Int × List Int × Int × Int × Int × List Int × Zp × Option Addr × Nat × Option Addr × Nat) ⟨z1G.fState.fPc,z1G.fState.fLeft,z1G.fState.fRegs.a0,z1G.fState.fRegs.a1,z1G.fState.fRegs.a2,z1G.fState.fRegs.a3,z1G.fX.fOp,z1G.fX.fA,z1G.fX.fB,z1G.fX.fC,z1G.fMem,z1G.fAct.fKind,z1G.fAct.fA,z1G.fAct.fB,z1G.fAct.fData,zrd,zr8,zr9,zra,zrb⟩ ⟨h,zjS,(zrc.mono zjS),zre⟩ (.cons rfl (.cons rfl (.cons rfl .nil))) (.cons .here (.cons .h3 (.cons .h2 (.cons .here .nil))))
   rcases yo h with ⟨zrf,h⟩ | h
   ·skip
    obtain ⟨z22,zrg,h⟩:=zb h
    refine WL.a (d:=39) rfl rfl rfl (y5 yp rfl (yw (k:=20) (hz.pv2 .h5) (hG0.mono (Zle.left _ _)) zrf rfl)) ?_
    refine WL.pu rfl ?_
    refine WL.yv (dd:=41) rfl rfl rfl (ye (l:=[.tmp 40]) Tryd.call102 rfl (.cons rfl .nil)) (.cons .here .nil) (ccz hz (.cons .here .nil) .h4 fun w pz ho=>y52 _ _ _ _ _ _ _ _ zrg w pz (z2x.mono (Zle.left _ _)) (ZS.nil _ _ _) ho) ?_
    rintro zrh zri zrj zrk ⟨zrl,zrm⟩
    refine WL.nil ?_
    exact WX.mid (G:=Int × Int × Int × Int × Int × Int × Int × Int × Int × Int × List Int × Int × Int × Int × List Int × Zp × Option Addr × Nat × Option Addr × Nat) ⟨z22.fState.fPc,z22.fState.fLeft,z22.fState.fRegs.a0,z22.fState.fRegs.a1,z22.fState.fRegs.a2,z22.fState.fRegs.a3,z22.fX.fOp,z22.fX.fA,z22.fX.fB,z22.fX.fC,z22.fMem,z22.fAct.fKind,z22.fAct.fA,z22.fAct.fB,z22.fAct.fData,[],zrh,zri,zrj,zrk⟩ ⟨h,(Zle.refl _),zrl,zrm⟩ (.cons rfl (.cons rfl (.cons rfl .nil))) (.cons .h5 (.cons .h3 (.cons .h2 (.cons .here .nil))))
   rcases yo h with ⟨zrn,h⟩ | h
   ·skip
    obtain ⟨z23,zro,h⟩:=zb h
    refine WL.a (d:=39) rfl rfl rfl (y5 yp rfl (yw (k:=21) (hz.pv2 .h5) (hG0.mono (Zle.left _ _)) zrn rfl)) ?_
    refine WL.pu rfl ?_
    refine WL.yv (dd:=41) rfl rfl rfl (ye (l:=[.tmp 40]) Tryd.call103 rfl (.cons rfl .nil)) (.cons .here .nil) (ccz hz (.cons .here .nil) .h4 fun w pz ho=>y53 _ _ _ _ _ _ _ _ zro w pz (z2x.mono (Zle.left _ _)) (ZS.nil _ _ _) ho) ?_
    rintro zrp zrq zrr zrs ⟨zrt,zru⟩
    refine WL.nil ?_
    exact WX.mid (G:=Int × Int × Int × Int × Int × Int × Int × Int × Int × Int × List Int × Int × Int × Int × List Int × Zp × Option Addr × Nat × Option Addr × Nat) ⟨z23.fState.fPc,z23.fState.fLeft,z23.fState.fRegs.a0,z23.fState.fRegs.a1,z23.fState.fRegs.a2,z23.fState.fRegs.a3,z23.fX.fOp,z23.fX.fA,z23.fX.fB,z23.fX.fC,z23.fMem,z23.fAct.fKind,z23.fAct.fA,z23.fAct.fB,z23.fAct.fData,[],zrp,zrq,zrr,zrs⟩ ⟨h,(Zle.refl _),zrt,zru⟩ (.cons rfl (.cons rfl (.cons rfl .nil))) (.cons .h5 (.cons .h3 (.cons .h2 (.cons .here .nil))))
   rcases yo h with ⟨zrv,h⟩ | h
   ·skip
    obtain ⟨z24,zrw,h⟩:=zb h
    refine WL.a (d:=39) rfl rfl rfl (y5 yp rfl (yw (k:=22) (hz.pv2 .h5) (hG0.mono (Zle.left _ _)) zrv rfl)) ?_
    refine WL.pu rfl ?_
    refine WL.yv (dd:=41) rfl rfl rfl (ye (l:=[.tmp 40]) Tryd.call104 rfl (.cons rfl .nil)) (.cons .here .nil) (ccz hz (.cons .here .nil) .h4 fun w pz ho=>y54 _ _ _ _ _ _ _ _ zrw w pz (z2x.mono (Zle.left _ _)) (ZS.nil _ _ _) ho) ?_
    rintro zrx zry zrz zrA ⟨zrB,zrC⟩
    refine WL.nil ?_
    exact WX.mid (G:=Int × Int × Int × Int × Int × Int × Int × Int × Int × Int × List Int × Int × Int × Int × List Int × Zp × Option Addr × Nat × Option Addr × Nat) ⟨z24.fState.fPc,z24.fState.fLeft,z24.fState.fRegs.a0,z24.fState.fRegs.a1,z24.fState.fRegs.a2,z24.fState.fRegs.a3,z24.fX.fOp,z24.fX.fA,z24.fX.fB,z24.fX.fC,z24.fMem,z24.fAct.fKind,z24.fAct.fA,z24.fAct.fB,z24.fAct.fData,[],zrx,zry,zrz,zrA⟩ ⟨h,(Zle.refl _),zrB,zrC⟩ (.cons rfl (.cons rfl (.cons rfl .nil))) (.cons .h5 (.cons .h3 (.cons .h2 (.cons .here .nil))))
   rcases yo h with ⟨zrD,h⟩ | h
   ·skip
    obtain ⟨z25,zrE,h⟩:=zb h
    refine WL.a (d:=39) rfl rfl rfl (y5 yp rfl (yw (k:=23) (hz.pv2 .h5) (hG0.mono (Zle.left _ _)) zrD rfl)) ?_
    refine WL.pu rfl ?_
    refine WL.y2Q (dd:=41) rfl rfl rfl (ye (l:=[.tmp 40]) Tryd.call105 rfl (.cons rfl .nil)) (.cons .here .nil) (ccz hz (.cons .here .nil) .h4 fun w pz ho=>y5w _ _ _ _ _ _ _ _ zrE w pz (z2x.mono (Zle.left _ _)) (ZS.nil _ _ _) ho) ?_
    rintro zrF zrG zrH zrI zrJ ⟨zrK,zrL⟩
    refine WL.merge .here .h5 ?_
    refine WL.nil ?_
    exact WX.mid (G:=Int × Int × Int × Int × Int × Int × Int × Int × Int × Int × List Int × Int × Int × Int × List Int × Zp × Option Addr × Nat × Option Addr × Nat) ⟨z25.fState.fPc,z25.fState.fLeft,z25.fState.fRegs.a0,z25.fState.fRegs.a1,z25.fState.fRegs.a2,z25.fState.fRegs.a3,z25.fX.fOp,z25.fX.fA,z25.fX.fB,z25.fX.fC,z25.fMem,z25.fAct.fKind,z25.fAct.fA,z25.fAct.fB,z25.fAct.fData,([] ++ zrF),zrG,zrH,zrI,zrJ⟩ ⟨h,((Zle.left _ _).trans (Zle.y7 _ _ _)),(zrK.mono (Zle.y7 _ _ _)),(zrL.mono (Zle.y7 _ _ _))⟩ (.cons rfl (.cons rfl (.cons rfl .nil))) (.cons .here (.cons .h3 (.cons .h2 (.cons .here .nil))))
   rcases yo h with ⟨zrM,h⟩ | h
   ·skip
    obtain ⟨z1H,zrN,h⟩:=zb h
    refine WL.a (d:=39) rfl rfl rfl (y5 yp rfl (yw (k:=24) (hz.pv2 .h5) (hG0.mono (Zle.left _ _)) zrM rfl)) ?_
    refine WL.pu rfl ?_
    refine WL.yv (dd:=41) rfl rfl rfl (ye (l:=[.tmp 40]) Tryd.call106 rfl (.cons rfl .nil)) (.cons .here .nil) (ccz hz (.cons .here .nil) .h4 fun w pz ho=>y4B _ _ _ _ _ _ _ _ zrN w pz (z2x.mono (Zle.left _ _)) (ZS.nil _ _ _) ho) ?_
    rintro zrO zrP zrQ zrR zrS
    refine WL.nil ?_
    refine WX.freezeS (ls:=z1H.fAct.fData) .h1 .h5 hz (RR.yI (enc:=e5) (fun _=>rfl) _) ?_
    intro zrT zjT zrU
    exact WX.mid (G:=Int × Int × Int × Int × Int × Int × Int × Int × Int × Int × List Int × Int × Int × Int × List Int × Zp × Option Addr × Nat × Option Addr × Nat) ⟨z1H.fState.fPc,z1H.fState.fLeft,z1H.fState.fRegs.a0,z1H.fState.fRegs.a1,z1H.fState.fRegs.a2,z1H.fState.fRegs.a3,z1H.fX.fOp,z1H.fX.fA,z1H.fX.fB,z1H.fX.fC,z1H.fMem,z1H.fAct.fKind,z1H.fAct.fA,z1H.fAct.fB,z1H.fAct.fData,zrT,zrO,zrP,zrQ,zrR⟩ ⟨h,zjT,(zrS.mono zjT),zrU⟩ (.cons rfl (.cons rfl (.cons rfl .nil))) (.cons .here (.cons .h3 (.cons .h2 (.cons .here .nil))))
   rcases yo h with ⟨zrV,h⟩ | h
   ·skip
    obtain ⟨z1I,zrW,h⟩:=zb h
    refine WL.a (d:=39) rfl rfl rfl (y5 yp rfl (yw (k:=25) (hz.pv2 .h5) (hG0.mono (Zle.left _ _)) zrV rfl)) ?_
    refine WL.pu rfl ?_
    refine WL.yv (dd:=41) rfl rfl rfl (ye (l:=[.tmp 40]) Tryd.call107 rfl (.cons rfl .nil)) (.cons .here .nil) (ccz hz (.cons .here .nil) .h4 fun w pz ho=>y55 _ _ _ _ _ _ _ _ zrW w pz (z2x.mono (Zle.left _ _)) (ZS.nil _ _ _) ho) ?_
    rintro zrX zrY zrZ zs0 zs1
    refine WL.nil ?_
    refine WX.freezeS (ls:=z1I.fAct.fData) .h1 .h5 hz (RR.yI (enc:=e5) (fun _=>rfl) _) ?_
    intro zs2 zjU zs3
    exact WX.mid (G:=Int × Int × Int × Int × Int × Int × Int × Int × Int × Int × List Int × Int × Int × Int × List Int × Zp × Option Addr × Nat × Option Addr × Nat) ⟨z1I.fState.fPc,z1I.fState.fLeft,z1I.fState.fRegs.a0,z1I.fState.fRegs.a1,z1I.fState.fRegs.a2,z1I.fState.fRegs.a3,z1I.fX.fOp,z1I.fX.fA,z1I.fX.fB,z1I.fX.fC,z1I.fMem,z1I.fAct.fKind,z1I.fAct.fA,z1I.fAct.fB,z1I.fAct.fData,zs2,zrX,zrY,zrZ,zs0⟩ ⟨h,zjU,(zs1.mono zjU),zs3⟩ (.cons rfl (.cons rfl (.cons rfl .nil))) (.cons .here (.cons .h3 (.cons .h2 (.cons .here .nil))))
   cases h
  ·rintro z7l z7m z7n z7o z7p z7q zaa zab zac zad z8I z7r z7s z7t z6z zae zd9 zda zaf zag ⟨h,zx5,zx6,zs4⟩
   replace h:=(zoF z7l z7m z7n z7o z7p z7q zaa zab zac zad z8I z7r z7s z7t z6z).symm.trans h
   refine WC.b ?_
   refine WC.y11 (fun i=>[8,9].contains i) [stb zfL 65 [(.int .i64 z7l),(.int .i64 z7m),(.int .u8 z7n),(.int .u8 z7o),(.int .u8 z7p),(.int .u8 z7q),(.int .u8 zaa),(.int .i64 zab),(.int .i64 zac),(.int .i64 zad),(.slice zd9 z8I.length zda),(.int .u8 z7r),(.int .i64 z7s),(.int .i64 z7t),(.slice zaf z6z.length zag)]] rfl ?_
   refine WD.a (i:=0) (d:=42) (by kernel_rfl) rfl z2 z6 rfl rfl rfl (fun _=>q_m rfl) ?_
   refine WD.a (i:=1) (d:=43) (by kernel_rfl) rfl z2 z6 rfl rfl rfl (fun _=>y6 rfl) ?_
   refine WD.a (i:=2) (d:=44) (by kernel_rfl) rfl z2 z6 rfl rfl rfl (fun _=>y4 yH rfl rfl) ?_
   refine WD.e (i:=3) (d:=45) (by kernel_rfl) rfl z2 z6 rfl rfl rfl (y4S (cs:=[(.int .i64 z7l),(.int .i64 z7m),(.int .u8 z7n),(.int .u8 z7o),(.int .u8 z7p),(.int .u8 z7q)]) yQ rfl rfl (y6n (s:=6) .h3 rfl)) ?_
   refine WD.a (i:=4) (d:=46) (by kernel_rfl) rfl z2 z6 rfl rfl rfl (fun _=>q_m rfl) ?_
   refine WD.a (i:=5) (d:=47) (by kernel_rfl) rfl z2 z6 rfl rfl rfl (fun _=>y6 rfl) ?_
   refine WD.a (i:=6) (d:=48) (by kernel_rfl) rfl z2 z6 rfl rfl rfl (fun _=>y4 y2f rfl rfl) ?_
   refine WD.y1k (i:=7) (d:=49) (by kernel_rfl) rfl z2 z6 rfl rfl rfl (Sin.of (.cons .h3 .nil)) (y4S (cs:=[(.int .u8 z7r),(.int .i64 z7s),(.int .i64 z7t),(.slice zaf z6z.length zag)]) y1q rfl rfl (y6n (s:=4) .here rfl)) ?_
   refine WD.forced0 (i:=8) rfl (by kernel_rfl) rfl rfl rfl (Sin.of (.cons .h3 .nil)) (yt y1l rfl rfl rfl .h1 rfl rfl rfl) ?_
   refine WD.y1J (i:=9) rfl (by kernel_rfl) rfl rfl rfl (by kernel_rfl) (yt yV rfl rfl rfl .h2 rfl rfl rfl) ?_
   refine WD.done (by kernel_rfl) ?_
   refine WX.a (WC.ret ?_)
   obtain rfl:=Option.some.inj h
   refine WX.yi Tryd.results18 (.agg rfl yQ rfl (yz .h1) (.agg rfl y1q rfl (yz .here) .nil)) (fun w hw=>?_)
   exact ⟨zae,zaf,zag,y3M rfl rfl,zs4,hw.sub (.cons .h2 .nil)⟩
def y3i (z3O : Sapi_Ins) (zdx : List Sapi_Ins) : Option Bool :=
 (y2y z3O ((zdx.length : Nat) : Int)).bind fun zjV=>some (!zjV)
set_option maxRecDepth 20000 in
theorem y6D (Z : Zp) (zeB : Addr) (zjW : Option Addr) (zjX : Nat) (z3O : Sapi_Ins) (zdx : List Sapi_Ins) (r : Bool)
  (h : y3i z3O zdx = some r) (w₀ : World) (hz : PZ [] w₀ Z)
  (hG1 : ZS Z 1 (p74 Z) (some ⟨1,0,none⟩) 26 y19)
  (zx7 : ZS Z 4 (fun r x=>r = e33 x) zjW zjX zdx)
  (zs5 : ZC Z zeB [(.slice zjW zdx.length zjX)]) :
  Calls Tryd.prog 31 #[(.agg #[(.int .u8 z3O.fOp),(.int .i64 z3O.fA),(.int .i64 z3O.fB),(.int .i64 z3O.fC)]),(.pointer (some zeB))] w₀ fun e w'=>e = .returned (.bool r) ∧ Hp [] w₀ w' []:=by
 unfold y3i at h
 refine Calls.y8 (vs:=[(.agg #[(.int .u8 z3O.fOp),(.int .i64 z3O.fA),(.int .i64 z3O.fB),(.int .i64 z3O.fC)]),(.pointer (some zeB))]) (pre:=[]) (env:=[(0,(.agg #[(.int .u8 z3O.fOp),(.int .i64 z3O.fA),(.int .i64 z3O.fB),(.int .i64 z3O.fC)])),(1,(.pointer (some zeB)))]) Tryd.func31 rfl Tryd.ntmps31 rfl (Hp.nil w₀ _) rfl ?_
 refine WC.b (WC.a ?_)
 refine WL.new (dd:=2) rfl rfl rfl (y3p (cs:=[(.int .u8 z3O.fOp),(.int .i64 z3O.fA),(.int .i64 z3O.fB),(.int .i64 z3O.fC)]) rfl rfl) ?_
 intro zx8 _
 refine WL.pu rfl (WL.nil (WX.a (WC.b ?_)))
 obtain ⟨zjV,zs6,h⟩:=zb h
 refine WC.a ?_
 refine WL.a (d:=4) rfl rfl rfl (yE y3h rfl (yz .here) rfl) ?_
 refine WL.a (d:=5) rfl rfl rfl (y5 y3w rfl (y3r hz.pv zs5 rfl)) ?_
 refine WL.a (d:=6) rfl rfl rfl (y1L Tryd.underlying22 rfl) ?_
 refine WL.b (dd:=7) rfl rfl rfl (zk (l:=[.tmp 4,.tmp 6]) Tryd.call32 (.cons rfl (.cons rfl .nil))) .nil (cc hz .nil fun w pz ho=>y5R _ _ _ _ zs6 w pz hG1) ?_
 refine WL.pu rfl (WL.pu rfl (WL.nil (WX.a (WC.ret ?_))))
 obtain rfl:=Option.some.inj h
 refine WX.yi Tryd.results31 (.tmp rfl .nil) (fun w hw=>?_)
 exact ⟨y1a rfl,hw.sub .nil⟩
def yM (z2z : List Sapi_Ins) (z6A : Sapi_Ins → Option Bool) (z8J : Option Int) : Nat → Int → Option Int
 | 0,_=>none
 | zfM + 1,z2K=>if decide (z2K < ((z2z.length : Nat) : Int)) then chk ((0 : Int) ≤ z2K ∧ z2K < ((z2z.length : Nat) : Int)) ((z6A (⟨((nth z2z z2K).fOp),((nth z2z z2K).fA),((nth z2z z2K).fB),((nth z2z z2K).fC)⟩ : Sapi_Ins)).bind fun zfN=>if zfN then some z2K else yM z2z z6A z8J zfM (i64 (z2K + 1))) else z8J
theorem y2N {n : Nat} {z2z : List Sapi_Ins} {z6A : Sapi_Ins → Option Bool} {z8J : Option Int} {z2K : Int} {r : Int} (h : yM z2z z6A z8J n z2K = some r) : ∃ m,n = m + 1:=by
 cases n with
 | zero=>cases h
 | succ m=>exact ⟨m,rfl⟩
def y1j (z2z : List Sapi_Ins) (z6A : Sapi_Ins → Option Bool) : Option Int :=
 jp0 (some (-1)) fun z8J=>yM z2z z6A z8J y2g 0
set_option maxRecDepth 20000 in
theorem y3k (Z : Zp) (zdy : Option Addr) (zdz : Nat) (z8K : FuncId) (zbA : List Value) (z2z : List Sapi_Ins) (z6A : Sapi_Ins → Option Bool) (r : Int)
  (h : y1j z2z z6A = some r) (w₀ : World) (hz : PZ [] w₀ Z)
  (zs7 : ZS Z 4 (fun r x=>r = e33 x) zdy zdz z2z)
  (zs8 : ∀ args w,(callFunc z8K args).run Tryd.prog w = .ok (.enter z8K args) w)
  (zs9 : ∀ w : World,PZ [] w Z → ∀ (x0 : Sapi_Ins) (r : Bool),z6A x0 = some r → Calls Tryd.prog z8K (([(.agg #[(.int .u8 x0.fOp),(.int .i64 x0.fA),(.int .i64 x0.fB),(.int .i64 x0.fC)])] : List Value) ++ zbA).toArray w fun e w'=>e = .returned (.bool r) ∧ Hp [] w w' []) :
  Calls Tryd.prog 42 #[(.slice zdy z2z.length zdz),(.func (.func z8K) #[] (zbA).toArray)] w₀ fun e w'=>e = .returned (.int .i64 r) ∧ Hp [] w₀ w' []:=by
 unfold y1j at h
 refine Calls.y8 (vs:=[(.slice zdy z2z.length zdz),(.func (.func z8K) #[] (zbA).toArray)]) (pre:=[]) (env:=[(0,(.slice zdy z2z.length zdz)),(1,(.func (.func z8K) #[] (zbA).toArray))]) Tryd.func42 rfl Tryd.ntmps42 rfl (Hp.nil w₀ _) rfl ?_
 refine WC.b (WC.a (WL.pu rfl (WL.nil (WX.a ?_))))
 obtain ⟨z8J,zsa,h⟩:=y48 h
 refine WC.y3F ((z8J = some r)) ([]) ([]) ?_ ?_
 ·skip
  refine WC.b (WC.a (WL.pu rfl ?_))
  refine WL.a (d:=7) rfl rfl rfl (y1L Tryd.underlying22 rfl) ?_
  refine WL.pu rfl (WL.nil (WX.a (WC.block ?_)))
  refine WC.y5j (fun (zdb : Nat) (z2K : Int)=>(yM z2z z6A z8J zdb z2K = some r)) (fun (zdb : Nat) (z2K : Int)=>[(0,(.slice zdy z2z.length zdz)),(1,(.func (.func z8K) #[] (zbA).toArray)),(7,(.int .i64 ((z2z.length : Nat) : Int))),(8,(.int .i64 z2K))]) (fun (zdb : Nat) (z2K : Int)=>[]) (fun (zdb : Nat) (z2K : Int)=>zdb) ⟨y2g,0⟩ h (.cons rfl (.cons rfl (.cons rfl (.cons rfl .nil)))) .nil ?_
  rintro zdb z2K h
  obtain ⟨zfM,rfl⟩:=y2N h
  rw [yM] at h
  refine WC.b (WC.a (WL.pu rfl (WL.nil (WX.a (WC.b ?_)))))
  refine WC.cond rfl (fun zfO=>?_) (fun zfO=>?_)
  ·replace h:=ym h zfO
   refine WC.skip (WX.a (WC.b (WC.block (WC.b (WC.a (WL.pu rfl (WL.pu rfl (WL.nil (WX.a (WC.b ?_))))))))))
   obtain ⟨zsb,h⟩:=ya h
   obtain ⟨zfN,zsc,h⟩:=zb h
   refine WC.a (WL.pu rfl (WL.pu rfl (WL.pu rfl ?_)))
   refine WL.znth (dd:=14) rfl rfl (Z:=Z) (Pr:=(fun r x=>r = e33 x)) y3J rfl rfl zs7 zsb ?_
   rintro zx9 zxa zsd zxb rfl
   refine WL.a (d:=15) rfl rfl rfl (yE y3h rfl (rd_zs hz.pv zsd) rfl) ?_
   refine WL.b (dd:=16) rfl rfl rfl (ye (l:=[.tmp 15]) (f:=z8K) (caps:=zbA) zs8 rfl (.cons rfl .nil)) .nil (fun w hw=>zs9 w (hz.now hw) (⟨((nth z2z z2K).fOp),((nth z2z z2K).fA),((nth z2z z2K).fB),((nth z2z z2K).fC)⟩ : Sapi_Ins) zfN  zsc) ?_
   refine WL.nil (WX.a ?_)
   refine WC.cond rfl (fun zfP=>?_) (fun zfP=>?_)
   ·replace h:=ym h zfP
    refine WC.b (WC.a (WL.pu rfl (WL.pu rfl (WL.nil (WX.a (WC.ret (WX.yS (WX.yh (WX.yh (WX.yS (WX.yh ?_)))))))))))
    obtain rfl:=Option.some.inj h
    refine WX.yi Tryd.results42 (.tmp rfl .nil) (fun w hw=>?_)
    exact ⟨y1a rfl,hw.sub .nil⟩
   ·replace h:=yn h zfP
    refine WC.skip (WX.yr (WX.a (WC.a (WL.pu rfl (WL.pu rfl (WL.nil ?_))))))
    exact WX.round (G:=Nat × Int) ⟨zfM,(i64 (z2K + 1))⟩ h (Nat.lt_succ_self _) (.cons rfl (.cons rfl (.cons rfl (.cons rfl .nil)))) .nil
  ·replace h:=yn h zfO
   refine WC.exit (WX.yO (WX.yO (WX.y1K ?_)))
   exact WX.mid (G:=Unit) () h .nil .nil
 ·rintro  h
  replace h:=zsa.symm.trans h
  refine WC.b (WC.a (WL.pu rfl (WL.nil (WX.a (WC.ret ?_)))))
  obtain rfl:=Option.some.inj h
  refine WX.yi Tryd.results42 (.tmp rfl .nil) (fun w hw=>?_)
  exact ⟨y1a rfl,hw.sub .nil⟩
def y1b (zbB : List Sapi_Ins) (zdc : Sapi_Ins → Option Bool) : Option Bool :=
 (y1j zbB zdc).bind fun zjY=>some (decide (zjY ≥ 0))
set_option maxRecDepth 20000 in
theorem y37 (Z : Zp) (zeC : Option Addr) (zeD : Nat) (zah : FuncId) (zdd : List Value) (zbB : List Sapi_Ins) (zdc : Sapi_Ins → Option Bool) (r : Bool)
  (h : y1b zbB zdc = some r) (w₀ : World) (hz : PZ [] w₀ Z)
  (zse : ZS Z 4 (fun r x=>r = e33 x) zeC zeD zbB)
  (zsf : ∀ args w,(callFunc zah args).run Tryd.prog w = .ok (.enter zah args) w)
  (zsg : ∀ w : World,PZ [] w Z → ∀ (x0 : Sapi_Ins) (r : Bool),zdc x0 = some r → Calls Tryd.prog zah (([(.agg #[(.int .u8 x0.fOp),(.int .i64 x0.fA),(.int .i64 x0.fB),(.int .i64 x0.fC)])] : List Value) ++ zdd).toArray w fun e w'=>e = .returned (.bool r) ∧ Hp [] w w' []) :
  Calls Tryd.prog 30 #[(.slice zeC zbB.length zeD),(.func (.func zah) #[] (zdd).toArray)] w₀ fun e w'=>e = .returned (.bool r) ∧ Hp [] w₀ w' []:=by
 unfold y1b at h
 refine Calls.y8 (vs:=[(.slice zeC zbB.length zeD),(.func (.func zah) #[] (zdd).toArray)]) (pre:=[]) (env:=[(0,(.slice zeC zbB.length zeD)),(1,(.func (.func zah) #[] (zdd).toArray))]) Tryd.func30 rfl Tryd.ntmps30 rfl (Hp.nil w₀ _) rfl ?_
 refine WC.b (WC.a (WL.pu rfl (WL.nil (WX.a (WC.b ?_)))))
 obtain ⟨zjY,zsh,h⟩:=zb h
 refine WC.a (WL.pu rfl (WL.pu rfl ?_))
 refine WL.b (dd:=7) rfl rfl rfl (zk (l:=[.tmp 5,.tmp 6]) Tryd.call42 (.cons rfl (.cons rfl .nil))) .nil (cc hz .nil fun w pz ho=>y3k _ _ _ (z8K:=zah) (zbA:=zdd) _ (z6A:=zdc) _ zsh w pz zse zsf zsg) ?_
 refine WL.pu rfl (WL.pu rfl (WL.nil (WX.a (WC.ret ?_))))
 obtain rfl:=Option.some.inj h
 refine WX.yi Tryd.results30 (.tmp rfl .nil) (fun w hw=>?_)
 exact ⟨y1a rfl,hw.sub .nil⟩
def y4b (z7u : List Sapi_Ins) : Option Bool :=
 (y1b z7u (fun (y0 : Sapi_Ins)=>y3i y0 z7u)).bind fun zjZ=>some (!zjZ)
set_option maxRecDepth 20000 in
theorem y7a (Z : Zp) (zdA : Option Addr) (zdB : Nat) (z7u : List Sapi_Ins) (r : Bool)
  (h : y4b z7u = some r) (w₀ : World) (hz : PZ [] w₀ Z)
  (hG1 : ZS Z 1 (p74 Z) (some ⟨1,0,none⟩) 26 y19)
  (zk0 : ZS Z 4 (fun r x=>r = e33 x) zdA zdB z7u) :
  Calls Tryd.prog 14 #[(.slice zdA z7u.length zdB)] w₀ fun e w'=>e = .returned (.bool r) ∧ Hp [] w₀ w' []:=by
 unfold y4b at h
 refine Calls.y8 (vs:=[(.slice zdA z7u.length zdB)]) (pre:=[]) (env:=[(0,(.slice zdA z7u.length zdB))]) Tryd.func14 rfl Tryd.ntmps14 rfl (Hp.nil w₀ _) rfl ?_
 refine WC.b (WC.a ?_)
 refine WL.new (dd:=1) rfl rfl rfl (y3p (cs:=[(.slice zdA z7u.length zdB)]) rfl rfl) ?_
 intro zsi _
 refine WL.pu rfl (WL.nil (WX.a (WC.b ?_)))
 obtain ⟨zjZ,zsj,h⟩:=zb h
 refine WC.a ?_
 refine WL.a (d:=3) rfl rfl rfl (y5 y3w rfl (yb .here rfl)) ?_
 refine WL.a (d:=4) rfl rfl rfl (y6l (Eos.caps (l:=[.tmp 1]) (.cons rfl .nil))) ?_
 refine WL.b (dd:=5) rfl rfl rfl (zk (l:=[.tmp 3,.tmp 4]) Tryd.call30 (.cons rfl (.cons rfl .nil))) .nil (ccl hz .nil (.cons .here .nil) fun w pz ho la=>y37 _ _ _ (zah:=31) (zdd:=[(.pointer (some ⟨zsi,0,none⟩))]) _ (zdc:=(fun (y0 : Sapi_Ins)=>y3i y0 z7u)) _ zsj w pz (zk0.mono (Zle.left _ _)) Tryd.call31 (fun w' hz' y0  r  hr=>y6D _ _ _ _ _ _ _ hr w' hz' ((hG1.mono (Zle.left _ _)).weak (fun _ _ h=>y10 (Zle.left _ _) h)) (zk0.mono (Zle.left _ _)) ((la _ (.head _) _).stb))) ?_
 refine WL.pu rfl (WL.pu rfl (WL.nil (WX.a (WC.ret ?_))))
 obtain rfl:=Option.some.inj h
 refine WX.yi Tryd.results14 (.tmp rfl .nil) (fun w hw=>?_)
 exact ⟨y1a rfl,hw.sub .nil⟩
def y14 (zY : List Int) (zX : Int) (z8L : (List Int) → Int → Option (List Int)) : Nat → (List Int) → Int → Int → Option (List Int)
 | 0,_,_,_=>none
 | zfQ + 1,z1j,z2U,k2_9039=>if decide (k2_9039 < ((zY.length - (zX : Int).toNat : Nat) : Int)) then jp2 (fun (z5s : List Int) (z8M : Int)=>y14 zY zX z8L zfQ z5s z8M (i64 (k2_9039 + 1))) fun zeE=>chk ((0 : Int) ≤ k2_9039 ∧ k2_9039 < ((zY.length - (zX : Int).toNat : Nat) : Int)) (chk ((0 : Int) ≤ (i64 (k2_9039 - 1)) ∧ (i64 (k2_9039 - 1)) < ((zY.length - (zX : Int).toNat : Nat) : Int)) (if decide ((nth z1j (zX + k2_9039)) ≠ (nth z1j (zX + (i64 (k2_9039 - 1))))) then chk ((0 : Int) ≤ k2_9039 ∧ k2_9039 < ((zY.length - (zX : Int).toNat : Nat) : Int)) (chk ((0 : Int) ≤ z2U ∧ z2U < ((z1j.length : Nat) : Int)) (zeE (z1j.set (z2U : Int).toNat (nth z1j (zX + k2_9039))) (i64 (z2U + 1)))) else zeE z1j z2U)) else z8L z1j z2U
theorem y3s {n : Nat} {zY : List Int} {zX : Int} {z8L : (List Int) → Int → Option (List Int)} {z1j : List Int} {z2U : Int} {k2_9039 : Int} {r : List Int} (h : y14 zY zX z8L n z1j z2U k2_9039 = some r) : ∃ m,n = m + 1:=by
 cases n with
 | zero=>cases h
 | succ m=>exact ⟨m,rfl⟩
def y15 (zY : List Int) (z8N : Option (List Int)) : Nat → Int → Option (List Int)
 | 0,_=>none
 | zfR + 1,zX=>if decide (zX < ((zY.length : Nat) : Int)) then jp0 (y15 zY z8N zfR (i64 (zX + 1))) fun zfS=>chk ((0 : Int) ≤ zX ∧ zX < ((zY.length : Nat) : Int)) (chk ((0 : Int) ≤ (i64 (zX - 1)) ∧ (i64 (zX - 1)) < ((zY.length : Nat) : Int)) (if decide ((nth zY zX) = (nth zY (i64 (zX - 1)))) then chk ((0 : Int) ≤ zX ∧ zX < ((zY.length : Nat) : Int)) (jp2 (fun (z2V : List Int) (z2W : Int)=>chk ((0 : Int) ≤ z2W ∧ z2W ≤ ((z2V.length : Nat) : Int)) (chk ((0 : Int) ≤ z2W ∧ z2W ≤ (((z2V.take (z2W : Int).toNat ++ List.replicate (z2V.length - (z2W : Int).toNat) (0 : Int)).length : Nat) : Int)) (some ((z2V.take (z2W : Int).toNat ++ List.replicate (z2V.length - (z2W : Int).toNat) (0 : Int)).take (z2W : Int).toNat)))) fun z8L=>y14 zY zX z8L y2g zY zX 1) else zfS)) else z8N
theorem y3t {n : Nat} {zY : List Int} {z8N : Option (List Int)} {zX : Int} {r : List Int} (h : y15 zY z8N n zX = some r) : ∃ m,n = m + 1:=by
 cases n with
 | zero=>cases h
 | succ m=>exact ⟨m,rfl⟩
def y2h (zY : List Int) : Option (List Int) :=
 if decide (((zY.length : Nat) : Int) < 2) then some zY else jp0 (some zY) fun z8N=>y15 zY z8N y2g 1
set_option maxRecDepth 20000 in
theorem y4c (Z : Zp) (z4f : Option Addr) (z2e : Nat) (zY : List Int) (r : List Int)
  (h : y2h zY = some r) (w₀ : World) (hz : PZ (fps [row (.slice z4f zY.length z2e) 3 1 (zY.flatMap e3)]) w₀ Z)
  (hown : Hp (fps [row (.slice z4f zY.length z2e) 3 1 (zY.flatMap e3)]) w₀ w₀ [row (.slice z4f zY.length z2e) 3 1 (zY.flatMap e3)]) :
  Calls Tryd.prog 35 #[(.slice z4f zY.length z2e)] w₀ fun e w'=>∃ zk1 : Option Addr,∃ zk2 : Nat,e = .returned (.slice zk1 r.length zk2) ∧ True ∧ Hp (fps [row (.slice z4f zY.length z2e) 3 1 (zY.flatMap e3)]) w₀ w' [row (.slice zk1 r.length zk2) 3 1 (r.flatMap e3)]:=by
 unfold y2h at h
 refine Calls.y8 (vs:=[(.slice z4f zY.length z2e)]) (pre:=[row (.slice z4f zY.length z2e) 3 1 (zY.flatMap e3)]) (env:=[(0,(.slice z4f zY.length z2e))]) Tryd.func35 rfl Tryd.ntmps35 rfl (hown) rfl ?_
 refine WC.b (WC.a (WL.pu rfl (WL.nil (WX.a (WC.b (WC.b (WC.a (WL.pu rfl ?_))))))))
 refine WL.a (d:=7) rfl rfl rfl (y1L Tryd.underlying30 rfl) ?_
 refine WL.pu rfl (WL.nil (WX.a ?_))
 refine WC.cond rfl (fun zfT=>?_) (fun zfT=>?_)
 ·replace h:=ym h zfT
  refine WC.b (WC.a (WL.pu rfl (WL.pu rfl (WL.nil (WX.a (WC.ret (WX.yh ?_)))))))
  obtain rfl:=Option.some.inj h
  refine WX.yi Tryd.results35 (.tmp rfl .nil) (fun w hw=>?_)
  exact ⟨z4f,z2e,y1a rfl,trivial,hw.sub (.cons .here .nil)⟩
 ·replace h:=yn h zfT
  refine WC.skip (WX.a ?_)
  obtain ⟨z8N,zsk,h⟩:=y48 h
  refine WC.y3F ((z8N = some r)) ([(0,(.slice z4f zY.length z2e))]) ([row (.slice z4f zY.length z2e) 3 1 (zY.flatMap e3)]) ?_ ?_
  ·skip
   refine WC.b (WC.a (WL.pu rfl (WL.nil (WX.a (WC.block ?_)))))
   refine WC.y5j (fun (zde : Nat) (zX : Int)=>(y15 zY z8N zde zX = some r)) (fun (zde : Nat) (zX : Int)=>[(0,(.slice z4f zY.length z2e)),(3,(.int .i64 zX))]) (fun (zde : Nat) (zX : Int)=>[row (.slice z4f zY.length z2e) 3 1 (zY.flatMap e3)]) (fun (zde : Nat) (zX : Int)=>zde) ⟨y2g,1⟩ h (.cons rfl (.cons rfl .nil)) (.cons .here .nil) ?_
   rintro zde zX h
   obtain ⟨zfR,rfl⟩:=y3t h
   rw [y15] at h
   refine WC.b (WC.b (WC.a (WL.pu rfl (WL.pu rfl ?_))))
   refine WL.a (d:=12) rfl rfl rfl (y1L Tryd.underlying30 rfl) ?_
   refine WL.pu rfl (WL.nil (WX.a ?_))
   refine WC.cond rfl (fun zfU=>?_) (fun zfU=>?_)
   ·replace h:=ym h zfU
    refine WC.skip (WX.a ?_)
    obtain ⟨zfS,zsl,h⟩:=y48 h
    refine WC.y3F ((zfS = some r)) ([(0,(.slice z4f zY.length z2e)),(3,(.int .i64 zX))]) ([row (.slice z4f zY.length z2e) 3 1 (zY.flatMap e3)]) ?_ ?_
    ·skip
     refine WC.block (WC.b ?_)
     obtain ⟨zdC,h⟩:=ya h
     obtain ⟨zeF,h⟩:=ya h
     refine WC.y11 (fun i=>[].contains i) [] rfl ?_
     refine WD.a (i:=0) (d:=16) (by kernel_rfl) rfl z2 z6 rfl rfl rfl (fun _=>q_m rfl) ?_
     refine WD.a (i:=1) (d:=17) (by kernel_rfl) rfl z2 z6 rfl rfl rfl (fun _=>q_m rfl) ?_
     refine WD.know (fun w hw=>Hp.y3T .here hw (by intro hz'; have:=zdC; rw [hz'] at this; omega)) ?_
     rintro ⟨z5t,rfl⟩
     refine WD.a (i:=2) (d:=18) (by kernel_rfl) rfl z2 z6 rfl rfl rfl (fun _=>yT yU rfl rfl zdC.1 zdC.2 y39) ?_
     refine WD.e (i:=3) (d:=19) (by kernel_rfl) rfl z2 z6 rfl rfl rfl (y5 yd rfl (y3n .here ((y31 (enc:=e3) (l:=zY) (i:=zX) (sz:=1) (fun _=>rfl) zdC.1 zdC.2) 0 _ rfl))) ?_
     refine WD.a (i:=4) (d:=20) (by kernel_rfl) rfl z2 z6 rfl rfl rfl (fun _=>q_m rfl) ?_
     refine WD.a (i:=5) (d:=21) (by kernel_rfl) rfl z2 z6 rfl rfl rfl (fun _=>q_m rfl) ?_
     refine WD.a (i:=6) (d:=22) (by kernel_rfl) rfl z2 z6 rfl rfl rfl (fun _=>y6k rfl rfl rfl) ?_
     refine WD.a (i:=7) (d:=23) (by kernel_rfl) rfl z2 z6 rfl rfl rfl (fun _=>yT yU rfl rfl zeF.1 zeF.2 y39) ?_
     refine WD.e (i:=8) (d:=24) (by kernel_rfl) rfl z2 z6 rfl rfl rfl (y5 yd rfl (y3n .here ((y31 (enc:=e3) (l:=zY) (i:=i64 (zX - 1)) (sz:=1) (fun _=>rfl) zeF.1 zeF.2) 0 _ rfl))) ?_
     refine WD.a (i:=9) (d:=25) (by kernel_rfl) rfl z2 z6 rfl rfl rfl (fun _=>q_eql rfl rfl) ?_
     refine WD.done (by kernel_rfl) ?_
     refine WX.a ?_
     refine WC.cond rfl (fun zfV=>?_) (fun zfV=>?_)
     ·replace h:=ym h zfV
      refine WC.b ?_
      obtain ⟨zbC,h⟩:=ya h
      refine WC.a (WL.pu rfl (WL.pu rfl ?_))
      refine WL.y7W (dd:=28) rfl rfl yU rfl rfl .here zbC ?_
      refine WL.pu rfl (WL.nil (WX.a ?_))
      obtain ⟨z8L,zsm,h⟩:=y5m h
      refine WC.y3Y (fun (z2V : List Int) (z2W : Int)=>(z8L z2V z2W = some r) ∧ (z2V.length = zY.length)) (fun (z2V : List Int) (z2W : Int)=>[(0,(.slice (some ⟨z5t,0,none⟩) z2V.length z2e)),(3,(.int .i64 z2W))]) (fun (z2V : List Int) (z2W : Int)=>[row (.slice (some ⟨z5t,0,none⟩) z2V.length z2e) 3 1 (z2V.flatMap e3)]) ?_ ?_
      ·skip
       refine WC.b (WC.a (WL.pu rfl (WL.nil (WX.a (WC.block ?_)))))
       refine WC.y6V (fun (zdf : Nat) (z1j : List Int) (z2U : Int) (k2_9039 : Int)=>(y14 zY zX z8L zdf z1j z2U k2_9039 = some r) ∧ (z1j.length = zY.length)) (fun (zdf : Nat) (z1j : List Int) (z2U : Int) (k2_9039 : Int)=>[(0,(.slice (some ⟨z5t,0,none⟩) z1j.length z2e)),(3,(.int .i64 z2U)),(4,(.slice (some ⟨z5t,(zX : Int).toNat * 1,none⟩) (zY.length - (zX : Int).toNat) (z2e - (zX : Int).toNat))),(5,(.int .i64 k2_9039))]) (fun (zdf : Nat) (z1j : List Int) (z2U : Int) (k2_9039 : Int)=>[row (.slice (some ⟨z5t,0,none⟩) z1j.length z2e) 3 1 (z1j.flatMap e3)]) (fun (zdf : Nat) (z1j : List Int) (z2U : Int) (k2_9039 : Int)=>zdf) ⟨y2g,zY,zX,1⟩ ⟨h,rfl⟩ (.cons rfl (.cons rfl (.cons rfl (.cons rfl .nil)))) (.cons .here .nil) ?_
       rintro zdf z1j z2U k2_9039 ⟨h,zdg⟩
       obtain ⟨zfQ,rfl⟩:=y3s h
       rw [y14] at h
       refine WC.b (WC.b (WC.a (WL.pu rfl (WL.pu rfl ?_))))
       refine WL.a (d:=31) rfl rfl rfl (y1L Tryd.underlying30 rfl) ?_
       refine WL.pu rfl (WL.nil (WX.a ?_))
       refine WC.cond rfl (fun zfW=>?_) (fun zfW=>?_)
       ·replace h:=ym h zfW
        refine WC.skip (WX.a ?_)
        obtain ⟨zeE,zsn,h⟩:=y5m h
        refine WC.y3Y (fun (z5s : List Int) (z8M : Int)=>(zeE z5s z8M = some r) ∧ (z5s.length = zY.length)) (fun (z5s : List Int) (z8M : Int)=>[(0,(.slice (some ⟨z5t,0,none⟩) z5s.length z2e)),(3,(.int .i64 z8M)),(4,(.slice (some ⟨z5t,(zX : Int).toNat * 1,none⟩) (zY.length - (zX : Int).toNat) (z2e - (zX : Int).toNat))),(5,(.int .i64 k2_9039))]) (fun (z5s : List Int) (z8M : Int)=>[row (.slice (some ⟨z5t,0,none⟩) z5s.length z2e) 3 1 (z5s.flatMap e3)]) ?_ ?_
        ·skip
         refine WC.block (WC.b ?_)
         obtain ⟨zeG,h⟩:=ya h
         obtain ⟨zeH,h⟩:=ya h
         refine WC.y11 (fun i=>[].contains i) [] rfl ?_
         refine WD.a (i:=0) (d:=35) (by kernel_rfl) rfl z2 z6 rfl rfl rfl (fun _=>q_m rfl) ?_
         refine WD.a (i:=1) (d:=36) (by kernel_rfl) rfl z2 z6 rfl rfl rfl (fun _=>q_m rfl) ?_
         have zk3 : (0 : Int) ≤ zX + k2_9039 ∧ zX + k2_9039 < ((z1j.length : Nat) : Int):=by have h1:=zdg; have h2:=zbC; have h3:=zeG; omega
         refine WD.a (i:=2) (d:=37) (by kernel_rfl) rfl z2 z6 rfl rfl rfl (fun _=>yT yU rfl rfl zeG.1 zeG.2 (y6d zbC.1 zeG.1)) ?_
         refine WD.e (i:=3) (d:=38) (by kernel_rfl) rfl z2 z6 rfl rfl rfl (y5 yd rfl (y3n .here ((y31 (enc:=e3) (l:=z1j) (i:=zX + k2_9039) (sz:=1) (fun _=>rfl) zk3.1 zk3.2) 0 _ rfl))) ?_
         refine WD.a (i:=4) (d:=39) (by kernel_rfl) rfl z2 z6 rfl rfl rfl (fun _=>q_m rfl) ?_
         refine WD.a (i:=5) (d:=40) (by kernel_rfl) rfl z2 z6 rfl rfl rfl (fun _=>q_m rfl) ?_
         refine WD.a (i:=6) (d:=41) (by kernel_rfl) rfl z2 z6 rfl rfl rfl (fun _=>y6k rfl rfl rfl) ?_
         have zk4 : (0 : Int) ≤ zX + (i64 (k2_9039 - 1)) ∧ zX + (i64 (k2_9039 - 1)) < ((z1j.length : Nat) : Int):=by have h1:=zdg; have h2:=zbC; have h3:=zeH; omega
         refine WD.a (i:=7) (d:=42) (by kernel_rfl) rfl z2 z6 rfl rfl rfl (fun _=>yT yU rfl rfl zeH.1 zeH.2 (y6d zbC.1 zeH.1)) ?_
         refine WD.e (i:=8) (d:=43) (by kernel_rfl) rfl z2 z6 rfl rfl rfl (y5 yd rfl (y3n .here ((y31 (enc:=e3) (l:=z1j) (i:=zX + (i64 (k2_9039 - 1))) (sz:=1) (fun _=>rfl) zk4.1 zk4.2) 0 _ rfl))) ?_
         refine WD.a (i:=9) (d:=44) (by kernel_rfl) rfl z2 z6 rfl rfl rfl (fun _=>q_neq rfl rfl) ?_
         refine WD.done (by kernel_rfl) ?_
         refine WX.a ?_
         refine WC.cond rfl (fun zfX=>?_) (fun zfX=>?_)
         ·replace h:=ym h zfX
          refine WC.b ?_
          obtain ⟨zeI,h⟩:=ya h
          obtain ⟨zdh,h⟩:=ya h
          refine WC.a (WL.pu rfl (WL.pu rfl (WL.pu rfl (WL.pu rfl ?_))))
          have zk5 : (0 : Int) ≤ zX + k2_9039 ∧ zX + k2_9039 < ((z1j.length : Nat) : Int):=by have h1:=zdg; have h2:=zbC; have h3:=zeI; omega
          refine WL.a (d:=49) rfl rfl rfl (yT yU rfl rfl zeI.1 zeI.2 (y6d zbC.1 zeI.1)) ?_
          refine WL.a (d:=50) rfl rfl rfl (y5 yd rfl (y3n .here ((y31 (enc:=e3) (l:=z1j) (i:=zX + k2_9039) (sz:=1) (fun _=>rfl) zk5.1 zk5.2) 0 _ rfl))) ?_
          refine WL.a (d:=51) rfl rfl rfl (yT yU rfl rfl zdh.1 zdh.2 y39) ?_
          refine WL.yf rfl rfl (y5i (vs:=[(.int .i64 (nth z1j (zX + k2_9039)))]) (ds:=(z1j.set (z2U : Int).toNat (nth z1j (zX + k2_9039))).flatMap e3) y20 rfl rfl rfl rfl (y6x rfl y6X) .here (y6c (enc:=e3) (sz:=1) (k:=0) (fun _=>rfl) zdh.1 zdh.2 (by decide)) (y6b (enc:=e3) (l:=z1j) (sz:=1) (vs:=[(.int .i64 (nth z1j (zX + k2_9039)))]) (y:=(nth z1j (zX + k2_9039))) (k:=0) (fun _=>rfl) zdh.1 zdh.2 rfl (Nat.le_of_ble_eq_true rfl))) ?_
          refine WL.relen .here (u:=(.slice (some ⟨z5t,0,none⟩) ((z1j.set (z2U : Int).toNat (nth z1j (zX + k2_9039))).length) z2e)) (slen (List.length_set).symm) ?_
          refine WL.repin (i:=0) rfl (u:=(.slice (some ⟨z5t,0,none⟩) ((z1j.set (z2U : Int).toNat (nth z1j (zX + k2_9039))).length) z2e)) (slen (List.length_set).symm) ?_
          refine WL.nil (WX.a (WC.a (WL.pu rfl (WL.pu rfl (WL.pu rfl (WL.nil (WX.yr ?_)))))))
          exact WX.mid (G:=List Int × Int) ⟨(z1j.set (z2U : Int).toNat (nth z1j (zX + k2_9039))),(i64 (z2U + 1))⟩ ⟨h,((List.length_set).trans zdg)⟩ (.cons rfl (.cons rfl (.cons rfl (.cons rfl .nil)))) (.cons .here .nil)
         ·replace h:=yn h zfX
          refine WC.skip (WX.yr ?_)
          exact WX.mid (G:=List Int × Int) ⟨z1j,z2U⟩ ⟨h,zdg⟩ (.cons rfl (.cons rfl (.cons rfl (.cons rfl .nil)))) (.cons .here .nil)
        ·rintro z5s z8M ⟨h,zso⟩
         replace h:=(zsn z5s z8M).symm.trans h
         refine WC.a (WL.pu rfl (WL.pu rfl (WL.pu rfl (WL.nil ?_))))
         exact WX.round (G:=Nat × List Int × Int × Int) ⟨zfQ,z5s,z8M,(i64 (k2_9039 + 1))⟩ ⟨h,zso⟩ (Nat.lt_succ_self _) (.cons rfl (.cons rfl (.cons rfl (.cons rfl .nil)))) (.cons .here .nil)
       ·replace h:=yn h zfW
        refine WC.exit (WX.yO (WX.yO (WX.y1K ?_)))
        exact WX.mid (G:=List Int × Int) ⟨z1j,z2U⟩ ⟨h,zdg⟩ (.cons rfl (.cons rfl .nil)) (.cons .here .nil)
      ·rintro z2V z2W ⟨h,zxc⟩
       replace h:=(zsm z2V z2W).symm.trans h
       refine WC.b ?_
       obtain ⟨zeJ,h⟩:=ya h
       refine WC.a (WL.pu rfl (WL.pu rfl ?_))
       refine WL.y7S (dd:=56) rfl rfl yU rfl rfl .here zeJ ?_
       intro zxd zxe zsp
       refine WL.yf rfl rfl (y70 (enc:=e3) (z0:=(0 : Int)) (l:=z2V) yU y63 rfl zsp zeJ (fun _=>rfl) (by decide) rfl y6r .here) ?_
       refine WL.relen .here (u:=(.slice (some ⟨z5t,0,none⟩) ((z2V.take (z2W : Int).toNat ++ List.replicate (z2V.length - (z2W : Int).toNat) (0 : Int)).length) z2e)) (slen (y5L zeJ).symm) ?_
       refine WL.repin (i:=0) rfl (u:=(.slice (some ⟨z5t,0,none⟩) ((z2V.take (z2W : Int).toNat ++ List.replicate (z2V.length - (z2W : Int).toNat) (0 : Int)).length) z2e)) (slen (y5L zeJ).symm) ?_
       refine WL.nil (WX.a (WC.b ?_))
       obtain ⟨zsq,h⟩:=ya h
       refine WC.a (WL.pu rfl (WL.pu rfl ?_))
       refine WL.y7R (dd:=59) (enc:=e3) (ls:=z2V.take (z2W : Int).toNat ++ List.replicate (z2V.length - (z2W : Int).toNat) (0 : Int)) rfl rfl yU rfl rfl .here (fun _=>rfl) zsq ?_
       intro zsr zss
       refine WL.pu rfl (WL.nil (WX.a (WC.ret (WX.yS (WX.yh (WX.yh (WX.yS (WX.yh ?_))))))))
       obtain rfl:=Option.some.inj h
       refine WX.yi Tryd.results35 (.tmp rfl .nil) (fun w hw=>?_)
       exact ⟨zsr,zss,y1a rfl,trivial,hw.sub (.cons .here .nil)⟩
     ·replace h:=yn h zfV
      refine WC.skip (WX.yr ?_)
      exact WX.mid (G:=Unit) () h (.cons rfl (.cons rfl .nil)) (.cons .here .nil)
    ·rintro  h
     replace h:=zsl.symm.trans h
     refine WC.a (WL.pu rfl (WL.pu rfl (WL.pu rfl (WL.nil ?_))))
     exact WX.round (G:=Nat × Int) ⟨zfR,(i64 (zX + 1))⟩ h (Nat.lt_succ_self _) (.cons rfl (.cons rfl .nil)) (.cons .here .nil)
   ·replace h:=yn h zfU
    refine WC.exit (WX.yO (WX.yO (WX.y1K ?_)))
    exact WX.mid (G:=Unit) () h (.cons rfl .nil) (.cons .here .nil)
  ·rintro  h
   replace h:=zsk.symm.trans h
   refine WC.b (WC.a (WL.pu rfl (WL.pu rfl (WL.nil (WX.a (WC.ret ?_))))))
   obtain rfl:=Option.some.inj h
   refine WX.yi Tryd.results35 (.tmp rfl .nil) (fun w hw=>?_)
   exact ⟨z4f,z2e,y1a rfl,trivial,hw.sub (.cons .here .nil)⟩
def y3l (zbD : List Sapi_Ins) (z2X : Int) : Option (List Int) :=
 (y3b zbD z2X).bind fun z2b=>if !z2b.2 then some ([] : List Int) else jp1 (fun (z6B : List Int)=>(y5D z6B).bind fun zeK=>(y2h zeK).bind fun zk6=>some zk6) fun zdD=>jp1 (fun (zai : Bool)=>if zai then some ([] : List Int) else if decide (z2b.1.fOp = 20) then some ([z2b.1.fA] : List Int) else if decide (z2b.1.fOp = 21) then chk ((((([i64 (z2X + 1)] : List Int) ++ ([z2b.1.fB] : List Int)).length : Nat) : Int) * 8 ≤ 140737488355328 ∧ (((([i64 (z2X + 1)] : List Int) ++ ([z2b.1.fB] : List Int)).length : Nat) : Int) ≤ 4611686018427387904) (zdD (([i64 (z2X + 1)] : List Int) ++ ([z2b.1.fB] : List Int))) else if decide (z2b.1.fOp = 22) then chk ((((([i64 (z2X + 1)] : List Int) ++ ([z2b.1.fC] : List Int)).length : Nat) : Int) * 8 ≤ 140737488355328 ∧ (((([i64 (z2X + 1)] : List Int) ++ ([z2b.1.fC] : List Int)).length : Nat) : Int) ≤ 4611686018427387904) (zdD (([i64 (z2X + 1)] : List Int) ++ ([z2b.1.fC] : List Int))) else zdD ([i64 (z2X + 1)] : List Int)) fun zeL=>if decide (z2b.1.fOp = 19) then zeL (decide (z2b.1.fOp = 19)) else zeL (decide (z2b.1.fOp = 25))
set_option maxRecDepth 20000 in
theorem y65 (Z : Zp) (zeM : Option Addr) (zeN : Nat) (zbD : List Sapi_Ins) (z2X : Int) (r : List Int)
  (h : y3l zbD z2X = some r) (w₀ : World) (hz : PZ [] w₀ Z)
  (hG1 : ZS Z 1 (p74 Z) (some ⟨1,0,none⟩) 26 y19)
  (zst : ZS Z 4 (fun r x=>r = e33 x) zeM zeN zbD) :
  Calls Tryd.prog 15 #[(.slice zeM zbD.length zeN),(.int .i64 z2X)] w₀ fun e w'=>∃ zk7 : Option Addr,∃ zk8 : Nat,e = .returned (.slice zk7 r.length zk8) ∧ True ∧ Hp [] w₀ w' [row (.slice zk7 r.length zk8) 3 1 (r.flatMap e3)]:=by
 unfold y3l at h
 refine Calls.y8 (vs:=[(.slice zeM zbD.length zeN),(.int .i64 z2X)]) (pre:=[]) (env:=[(0,(.slice zeM zbD.length zeN)),(1,(.int .i64 z2X))]) Tryd.func15 rfl Tryd.ntmps15 rfl (Hp.nil w₀ _) rfl ?_
 refine WC.b (WC.a (WL.pu rfl (WL.nil (WX.a (WC.b ?_)))))
 obtain ⟨z2b,zsu,h⟩:=zb h
 refine WC.a (WL.pu rfl (WL.pu rfl ?_))
 refine WL.b (dd:=11) rfl rfl rfl (zk (l:=[.tmp 9,.tmp 10]) Tryd.call33 (.cons rfl (.cons rfl .nil))) .nil (cc hz .nil fun w pz ho=>y5S _ _ _ _ _ _ zsu w pz hG1 zst) ?_
 refine WL.pu rfl (WL.pu rfl (WL.pu rfl ?_))
 refine WL.new (dd:=5) rfl rfl rfl (yA (cs:=[(.int .u8 0),(.int .i64 0),(.int .i64 0),(.int .i64 0)]) y49 rfl) ?_
 intro zk9 _
 refine WL.yf rfl rfl (yt y43 rfl rfl rfl .here rfl rfl rfl) ?_
 refine WL.pu rfl (WL.nil (WX.a (WC.b (WC.b (WC.a (WL.pu rfl (WL.pu rfl (WL.nil (WX.a ?_)))))))))
 refine WC.cond rfl (fun zfY=>?_) (fun zfY=>?_)
 ·replace h:=ym h zfY
  refine WC.b (WC.a (WL.pu rfl (WL.nil (WX.a (WC.ret (WX.yh ?_))))))
  refine WX.nilRow 3 1 ?_
  obtain rfl:=Option.some.inj h
  refine WX.yi Tryd.results15 (.tmp rfl .nil) (fun w hw=>?_)
  exact ⟨none,0,y1a rfl,trivial,hw.sub (.cons .here .nil)⟩
 ·replace h:=yn h zfY
  refine WC.skip (WX.a (WC.b (WC.a (WL.pu rfl (WL.pu rfl ?_)))))
  refine WL.new (dd:=18) rfl rfl rfl (yx (cs:=([i64 (z2X + 1)] : List Int).flatMap e3) yU (Eos.parts (l:=[.tmp 17]) (.cons rfl .nil) [0]) (fun _=>by kernel_rfl) rfl (by unfold maxLen; omega)) ?_
  intro zfZ _
  refine WL.pu rfl (WL.nil (WX.a ?_))
  obtain ⟨zdD,zsv,h⟩:=y3N h
  refine WC.y7D (fun (z6B : List Int) (zbE : Option Addr) (zbF : Nat)=>(zdD z6B = some r)) (fun (z6B : List Int) (zbE : Option Addr) (zbF : Nat)=>[(7,(.slice zbE z6B.length zbF))]) (fun (z6B : List Int) (zbE : Option Addr) (zbF : Nat)=>[row (.slice zbE z6B.length zbF) 3 1 (z6B.flatMap e3)]) ?_ ?_
  ·skip
   refine WC.b (WC.a ?_)
   refine WL.a (d:=19) rfl rfl rfl (y4 y3P rfl rfl) ?_
   refine WL.a (d:=20) rfl rfl rfl (y5 yC rfl (yb .h1 rfl)) ?_
   refine WL.nil (WX.a (WC.block ?_))
   obtain ⟨zeL,zsw,h⟩:=y3N h
   refine WC.y3G (fun (zai : Bool)=>(zeL zai = some r)) (fun (zai : Bool)=>[(5,(.pointer (some ⟨zk9,0,none⟩))),(7,(.slice (some ⟨zfZ,0,none⟩) (([i64 (z2X + 1)] : List Int).length) 1)),(20,(.int .u8 z2b.1.fOp)),(21,(.bool zai))]) (fun (zai : Bool)=>[row (.slice (some ⟨zfZ,0,none⟩) (([i64 (z2X + 1)] : List Int).length) 1) 3 1 (([i64 (z2X + 1)] : List Int).flatMap e3),stb zk9 33 [(.int .u8 z2b.1.fOp),(.int .i64 z2b.1.fA),(.int .i64 z2b.1.fB),(.int .i64 z2b.1.fC)]]) ?_ ?_
   ·skip
    refine WC.b (WC.a (WL.pu rfl (WL.pu rfl (WL.nil (WX.a ?_)))))
    refine WC.cond rfl (fun zg0=>?_) (fun zg0=>?_)
    ·replace h:=ym h zg0
     refine WC.skip ?_
     exact WX.mid (G:=Bool) (decide (z2b.1.fOp = 19)) h (.cons rfl (.cons rfl (.cons rfl (.cons rfl .nil)))) (.cons .here (.cons .here .nil))
    ·replace h:=yn h zg0
     refine WC.a (WL.pu rfl (WL.pu rfl (WL.nil ?_)))
     exact WX.mid (G:=Bool) (decide (z2b.1.fOp = 25)) h (.cons rfl (.cons rfl (.cons rfl (.cons rfl .nil)))) (.cons .here (.cons .here .nil))
   ·rintro zai h
    replace h:=(zsw zai).symm.trans h
    refine WC.cond rfl (fun zg1=>?_) (fun zg1=>?_)
    ·replace h:=ym h zg1
     refine WC.b (WC.a (WL.pu rfl (WL.nil (WX.a (WC.ret (WX.yS (WX.yh ?_)))))))
     refine WX.nilRow 3 1 ?_
     obtain rfl:=Option.some.inj h
     refine WX.yi Tryd.results15 (.tmp rfl .nil) (fun w hw=>?_)
     exact ⟨none,0,y1a rfl,trivial,hw.sub (.cons .here .nil)⟩
    ·replace h:=yn h zg1
     refine WC.b (WC.a (WL.pu rfl (WL.pu rfl (WL.nil (WX.a ?_)))))
     refine WC.cond rfl (fun zg2=>?_) (fun zg2=>?_)
     ·replace h:=ym h zg2
      refine WC.b (WC.a ?_)
      refine WL.a (d:=26) rfl rfl rfl (y4 yR rfl rfl) ?_
      refine WL.a (d:=27) rfl rfl rfl (y5 yd rfl (yb .h1 rfl)) ?_
      refine WL.new (dd:=28) rfl rfl rfl (yx (cs:=([z2b.1.fA] : List Int).flatMap e3) yU (Eos.parts (l:=[.tmp 27]) (.cons rfl .nil) [0]) (fun _=>by kernel_rfl) rfl (by unfold maxLen; omega)) ?_
      intro zsx _
      refine WL.pu rfl (WL.nil (WX.a (WC.ret (WX.yS (WX.yh ?_)))))
      obtain rfl:=Option.some.inj h
      refine WX.yi Tryd.results15 (.tmp rfl .nil) (fun w hw=>?_)
      exact ⟨(some ⟨zsx,0,none⟩),1,y1a rfl,trivial,hw.sub (.cons .here .nil)⟩
     ·replace h:=yn h zg2
      refine WC.b (WC.a (WL.pu rfl (WL.pu rfl (WL.nil (WX.a ?_)))))
      refine WC.cond rfl (fun zg3=>?_) (fun zg3=>?_)
      ·replace h:=ym h zg3
       obtain ⟨zsy,h⟩:=ya h
       refine WC.a (WL.pu rfl ?_)
       refine WL.a (d:=32) rfl rfl rfl (y4 y16 rfl rfl) ?_
       refine WL.a (d:=33) rfl rfl rfl (y5 yd rfl (yb .h1 rfl)) ?_
       refine WL.new (dd:=34) rfl rfl rfl (yx (cs:=([z2b.1.fB] : List Int).flatMap e3) yU (Eos.parts (l:=[.tmp 33]) (.cons rfl .nil) [0]) (fun _=>by kernel_rfl) rfl (by unfold maxLen; omega)) ?_
       intro zxf _
       refine WL.eff (d:=35) rfl rfl rfl (y3U (enc:=e3) (l1:=([i64 (z2X + 1)] : List Int)) (l2:=([z2b.1.fB] : List Int)) yU rfl rfl .h1 (fun _=>rfl) rfl rfl (y69 .here) (y41 y6r _) zsy) ?_
       rintro ⟨zsz,zsA⟩ _
       refine WL.pu rfl (WL.nil (WX.yr ?_))
       exact WX.mid (G:=List Int × Option Addr × Nat) ⟨(([i64 (z2X + 1)] : List Int) ++ ([z2b.1.fB] : List Int)),zsz,zsA⟩ h (.cons rfl .nil) (.cons .here .nil)
      ·replace h:=yn h zg3
       refine WC.b (WC.a (WL.pu rfl (WL.pu rfl (WL.nil (WX.a ?_)))))
       refine WC.cond rfl (fun zg4=>?_) (fun zg4=>?_)
       ·replace h:=ym h zg4
        obtain ⟨zsB,h⟩:=ya h
        refine WC.a (WL.pu rfl ?_)
        refine WL.a (d:=39) rfl rfl rfl (y4 y3v rfl rfl) ?_
        refine WL.a (d:=40) rfl rfl rfl (y5 yd rfl (yb .h1 rfl)) ?_
        refine WL.new (dd:=41) rfl rfl rfl (yx (cs:=([z2b.1.fC] : List Int).flatMap e3) yU (Eos.parts (l:=[.tmp 40]) (.cons rfl .nil) [0]) (fun _=>by kernel_rfl) rfl (by unfold maxLen; omega)) ?_
        intro zxg _
        refine WL.eff (d:=42) rfl rfl rfl (y3U (enc:=e3) (l1:=([i64 (z2X + 1)] : List Int)) (l2:=([z2b.1.fC] : List Int)) yU rfl rfl .h1 (fun _=>rfl) rfl rfl (y69 .here) (y41 y6r _) zsB) ?_
        rintro ⟨zsC,zsD⟩ _
        refine WL.pu rfl (WL.nil (WX.yr ?_))
        exact WX.mid (G:=List Int × Option Addr × Nat) ⟨(([i64 (z2X + 1)] : List Int) ++ ([z2b.1.fC] : List Int)),zsC,zsD⟩ h (.cons rfl .nil) (.cons .here .nil)
       ·replace h:=yn h zg4
        refine WC.skip (WX.yr ?_)
        exact WX.mid (G:=List Int × Option Addr × Nat) ⟨([i64 (z2X + 1)] : List Int),(some ⟨zfZ,0,none⟩),1⟩ h (.cons rfl .nil) (.cons .here .nil)
  ·rintro z6B zbE zbF h
   replace h:=(zsv z6B).symm.trans h
   refine WC.b ?_
   obtain ⟨zeK,zsE,h⟩:=zb h
   refine WC.a (WL.pu rfl ?_)
   refine WL.y7L (dd:=44) rfl rfl rfl (zk (l:=[.tmp 43]) Tryd.call34 (.cons rfl .nil)) (.cons .here .nil) (cc hz (.cons .here .nil) fun w pz ho=>y6Q (Z:=_) (ao:=zbE) (cap:=zbF) (l:=z6B) (r:=zeK) w pz  zsE ho) ?_
   rintro  zsF
   refine WL.repin (i:=7) rfl (u:=(.slice zbE zeK.length zbF)) (slen zsF.symm) ?_
   refine WL.nil (WX.a (WC.b ?_))
   obtain ⟨zk6,zsG,h⟩:=zb h
   refine WC.a (WL.pu rfl ?_)
   refine WL.y1y (dd:=46) rfl rfl rfl (zk (l:=[.tmp 45]) Tryd.call35 (.cons rfl .nil)) (.cons .here .nil) (cc hz (.cons .here .nil) fun w pz ho=>y4c _ _ _ _ _ zsG w pz  ho) ?_
   rintro zsH zsI _
   refine WL.pu rfl (WL.nil (WX.a (WC.ret ?_)))
   obtain rfl:=Option.some.inj h
   refine WX.yi Tryd.results15 (.tmp rfl .nil) (fun w hw=>?_)
   exact ⟨zsH,zsI,y1a rfl,trivial,hw.sub (.cons .here .nil)⟩
def y1H (z3P : List Int) (zeO : Int → (List (Int × Int)) → (List Sapi_Ins) → Option (Bool × (List (Int × Int)))) (z26 : List Sapi_Ins) (z8O : Int → (List (Int × Int)) → Option (Bool × (List (Int × Int)))) : Nat → Int → Int → (List (Int × Int)) → Option (Bool × (List (Int × Int)))
 | 0,_,_,_=>none
 | zg5 + 1,z4Q,z3t,z4R=>if decide (z3t < ((z3P.length : Nat) : Int)) then chk ((0 : Int) ≤ z3t ∧ z3t < ((z3P.length : Nat) : Int)) ((zeO (nth z3P z3t) z4R z26).bind fun zaj=>if !zaj.1 then some (false,zaj.2) else y1H z3P zeO z26 z8O zg5 (max z4Q (y3H zaj.2 (nth z3P z3t) 0)) (i64 (z3t + 1)) zaj.2) else z8O z4Q z4R
theorem y4d {n : Nat} {z3P : List Int} {zeO : Int → (List (Int × Int)) → (List Sapi_Ins) → Option (Bool × (List (Int × Int)))} {z26 : List Sapi_Ins} {z8O : Int → (List (Int × Int)) → Option (Bool × (List (Int × Int)))} {z4Q : Int} {z3t : Int} {z4R : List (Int × Int)} {r : Bool × (List (Int × Int))} (h : y1H z3P zeO z26 z8O n z4Q z3t z4R = some r) : ∃ m,n = m + 1:=by
 cases n with
 | zero=>cases h
 | succ m=>exact ⟨m,rfl⟩
def y1v : Nat → Int → (List (Int × Int)) → (List Sapi_Ins) → Option (Bool × (List (Int × Int)))
 | 0,_,_,_=>none
 | zg6 + 1,z1i,z2y,z26=>if mhas z2y z1i then some ((decide ((y3H z2y z1i 0) ≠ (-1))),z2y) else jp2 (fun (z4l : Int) (z6C : List (Int × Int))=>jp1 (fun (zak : List (Int × Int))=>some (true,zak)) fun zeP=>chk ((0 : Int) ≤ z1i ∧ z1i < ((z26.length : Nat) : Int)) (if decide (((nth z26 z1i).fOp) = 1) then chk ((0 : Int) ≤ z1i ∧ z1i < ((z26.length : Nat) : Int)) (zeP (y29 (y29 z6C z1i (i64 (z4l + 1))) z1i (i64 (z4l + ((nth z26 z1i).fA))))) else zeP (y29 z6C z1i (i64 (z4l + 1))))) fun z8O=>(y3l z26 z1i).bind fun z3P=>y1H z3P (y1v zg6) z26 z8O y2g 0 0 (y29 z2y z1i (-1))
def y4e (z1i : Int) (z2y : List (Int × Int)) (z26 : List Sapi_Ins) : Option (Bool × (List (Int × Int))):=y1v y2g z1i z2y z26
set_option maxRecDepth 20000 in
theorem y5x : ∀ (n : Nat) (Z : Zp) (z42 : Addr) (z2L : Nat) (z43 : Addr) (z6D : Option Addr) (z6E : Nat) (z4g : Addr) (z1i : Int) (z2y : List (Int × Int)) (z26 : List Sapi_Ins) (r : Bool × (List (Int × Int))) (w₀ : World) (hz : PZ (fps [y1n z2L (Value.int .i64) (Value.int .i64) z2y]) w₀ Z)
  (hG1 : ZS Z 1 (p74 Z) (some ⟨1,0,none⟩) 26 y19)
  (z7v : ZC Z z42 [(.map (some z2L))])
  (zal : ZS Z 4 (fun r x=>r = e33 x) z6D z6E z26)
  (zam : ZC Z z43 [(.slice z6D z26.length z6E)])
  (zdi : ZC Z z4g [(.func (.func 29) #[] #[(.pointer (some z42)),(.pointer (some z43)),(.pointer (some z4g))])]) (h : y1v n z1i z2y z26 = some r)
  (hown : Hp (fps [y1n z2L (Value.int .i64) (Value.int .i64) z2y]) w₀ w₀ [y1n z2L (Value.int .i64) (Value.int .i64) z2y]),Calls Tryd.prog 29 #[(.int .i64 z1i),(.pointer (some z42)),(.pointer (some z43)),(.pointer (some z4g))] w₀ fun e w'=>e = .returned (.bool r.1) ∧ Hp (fps [y1n z2L (Value.int .i64) (Value.int .i64) z2y]) w₀ w' [y1n z2L (Value.int .i64) (Value.int .i64) r.2]:=by
 intro n
 induction n with
 | zero=>intro Z z42 z2L z43 z6D z6E z4g z1i z2y z26 r w₀ hz hG1 z7v zal zam zdi h hown; cases h
 | succ zg6 ih =>
  intro Z z42 z2L z43 z6D z6E z4g z1i z2y z26 r w₀ hz hG1 z7v zal zam zdi h hown
  rw [y1v] at h
  refine Calls.y8 (vs:=[(.int .i64 z1i),(.pointer (some z42)),(.pointer (some z43)),(.pointer (some z4g))]) (pre:=[y1n z2L (Value.int .i64) (Value.int .i64) z2y]) (env:=[(0,(.int .i64 z1i)),(1,(.pointer (some z42))),(2,(.pointer (some z43))),(3,(.pointer (some z4g)))]) Tryd.func29 rfl Tryd.ntmps29 rfl (hown) rfl ?_
  refine WC.b (WC.a (WL.pu rfl (WL.nil (WX.a (WC.b (WC.b (WC.a ?_)))))))
  refine WL.a (d:=12) rfl rfl rfl (y5 y45 rfl (y3r hz.pv z7v rfl)) ?_
  refine WL.pu rfl ?_
  refine WL.a (d:=14) rfl rfl rfl (y7V (k:=z1i) (dflt:=(0 : Int)) y4a Tryd.underlying54 y63 rfl rfl rfl .here) ?_
  refine WL.pu rfl (WL.pu rfl (WL.pu rfl (WL.pu rfl (WL.pu rfl (WL.nil (WX.a (WC.b (WC.a (WL.pu rfl (WL.nil (WX.a ?_)))))))))))
  refine WC.cond rfl (fun zg7=>?_) (fun zg7=>?_)
  ·replace h:=ym h zg7
   refine WC.b (WC.a (WL.pu rfl (WL.pu rfl (WL.pu rfl (WL.nil (WX.a (WC.ret (WX.yh ?_))))))))
   obtain rfl:=Option.some.inj h
   refine WX.yi Tryd.results29 (.tmp rfl .nil) (fun w hw=>?_)
   exact ⟨y1a rfl,hw.sub (.cons .here .nil)⟩
  ·replace h:=yn h zg7
   refine WC.skip (WX.a (WC.b (WC.a ?_)))
   refine WL.a (d:=20) rfl rfl rfl (y5 y45 rfl (y3r hz.pv z7v rfl)) ?_
   refine WL.pu rfl ?_
   refine WL.yf rfl rfl (y4v (k:=z1i) (v:=(-1)) y4a Tryd.underlying54 rfl rfl rfl rfl .here) ?_
   refine WL.nil (WX.a (WC.b (WC.a (WL.pu rfl (WL.nil (WX.a ?_))))))
   obtain ⟨z8O,zsJ,h⟩:=y5m h
   refine WC.y3Y (fun (z4l : Int) (z6C : List (Int × Int))=>(z8O z4l z6C = some r)) (fun (z4l : Int) (z6C : List (Int × Int))=>[(0,(.int .i64 z1i)),(1,(.pointer (some z42))),(2,(.pointer (some z43))),(8,(.int .i64 z4l))]) (fun (z4l : Int) (z6C : List (Int × Int))=>[y1n z2L (Value.int .i64) (Value.int .i64) z6C]) ?_ ?_
   ·skip
    refine WC.b ?_
    obtain ⟨z3P,zsK,h⟩:=zb h
    refine WC.a ?_
    refine WL.a (d:=22) rfl rfl rfl (y5 y3w rfl (y3r hz.pv zam rfl)) ?_
    refine WL.pu rfl ?_
    refine WL.y1y (dd:=24) rfl rfl rfl (zk (l:=[.tmp 22,.tmp 23]) Tryd.call15 (.cons rfl (.cons rfl .nil))) .nil (cc hz .nil fun w pz ho=>y65 _ _ _ _ _ _ zsK w pz hG1 zal) ?_
    rintro zka zkb _
    refine WL.a (d:=25) rfl rfl rfl (y1L Tryd.underlying30 rfl) ?_
    refine WL.pu rfl (WL.nil (WX.a (WC.block ?_)))
    refine WC.y6V (fun (zdj : Nat) (z4Q : Int) (z3t : Int) (z4R : List (Int × Int))=>(y1H z3P (y1v zg6) z26 z8O zdj z4Q z3t z4R = some r)) (fun (zdj : Nat) (z4Q : Int) (z3t : Int) (z4R : List (Int × Int))=>[(0,(.int .i64 z1i)),(1,(.pointer (some z42))),(2,(.pointer (some z43))),(3,(.pointer (some z4g))),(8,(.int .i64 z4Q)),(24,(.slice zka z3P.length zkb)),(25,(.int .i64 ((z3P.length : Nat) : Int))),(26,(.int .i64 z3t))]) (fun (zdj : Nat) (z4Q : Int) (z3t : Int) (z4R : List (Int × Int))=>[row (.slice zka z3P.length zkb) 3 1 (z3P.flatMap e3),y1n z2L (Value.int .i64) (Value.int .i64) z4R]) (fun (zdj : Nat) (z4Q : Int) (z3t : Int) (z4R : List (Int × Int))=>zdj) ⟨y2g,0,0,(y29 z2y z1i (-1))⟩ h (.cons rfl (.cons rfl (.cons rfl (.cons rfl (.cons rfl (.cons rfl (.cons rfl (.cons rfl .nil)))))))) (.cons .here (.cons .here .nil)) ?_
    rintro zdj z4Q z3t z4R h
    obtain ⟨zg5,rfl⟩:=y4d h
    rw [y1H] at h
    refine WC.b (WC.a (WL.pu rfl (WL.nil (WX.a (WC.b ?_)))))
    refine WC.cond rfl (fun zg8=>?_) (fun zg8=>?_)
    ·replace h:=ym h zg8
     refine WC.skip (WX.a (WC.b (WC.block (WC.b ?_))))
     obtain ⟨zdE,h⟩:=ya h
     refine WC.a ?_
     refine WL.know (fun w hw=>Hp.y3T .here hw (by intro hz'; have:=zdE; rw [hz'] at this; omega)) ?_
     rintro ⟨zxh,rfl⟩
     refine WL.a (d:=28) rfl rfl rfl (yT yU rfl rfl zdE.1 zdE.2 y39) ?_
     refine WL.a (d:=29) rfl rfl rfl (y5 yd rfl (y3n .here ((y31 (enc:=e3) (l:=z3P) (i:=z3t) (sz:=1) (fun _=>rfl) zdE.1 zdE.2) 0 _ rfl))) ?_
     refine WL.pu rfl (WL.nil (WX.a (WC.b (WC.b ?_))))
     obtain ⟨zaj,zsL,h⟩:=zb h
     refine WC.a ?_
     refine WL.a (d:=30) rfl rfl rfl (y5 y7w rfl (y3r hz.pv zdi rfl)) ?_
     refine WL.pu rfl ?_
     refine WL.b (dd:=32) rfl rfl rfl (ye (l:=[.tmp 31]) Tryd.call29 rfl (.cons rfl .nil)) (.cons .h1 .nil) (cc hz (.cons .h1 .nil) fun w pz ho=>ih (Z:=_) (z42:=z42) (z2L:=z2L) (z43:=z43) (z6D:=z6D) (z6E:=z6E) (z4g:=z4g) (z1i:=(nth z3P z3t)) (z2y:=z4R) (z26:=z26) (r:=zaj) w pz hG1 z7v zal zam zdi zsL ho) ?_
     refine WL.pu rfl (WL.nil (WX.a ?_))
     refine WC.cond rfl (fun zg9=>?_) (fun zg9=>?_)
     ·replace h:=ym h zg9
      refine WC.b (WC.a (WL.pu rfl (WL.nil (WX.a (WC.ret (WX.yh (WX.yS (WX.yh (WX.yh (WX.yS (WX.yh ?_)))))))))))
      obtain rfl:=Option.some.inj h
      refine WX.yi Tryd.results29 (.tmp rfl .nil) (fun w hw=>?_)
      exact ⟨y1a rfl,hw.sub (.cons .here .nil)⟩
     ·replace h:=yn h zg9
      refine WC.skip (WX.a (WC.a (WL.pu rfl ?_)))
      refine WL.a (d:=35) rfl rfl rfl (y5 y45 rfl (y3r hz.pv z7v rfl)) ?_
      refine WL.pu rfl ?_
      refine WL.a (d:=37) rfl rfl rfl (y75 (k:=(nth z3P z3t)) (dflt:=(0 : Int)) y4a Tryd.underlying54 y63 rfl rfl rfl .here) ?_
      refine WL.a (d:=38) rfl rfl rfl (q_max rfl rfl rfl) ?_
      refine WL.pu rfl (WL.nil (WX.yr (WX.a (WC.a (WL.pu rfl (WL.pu rfl (WL.nil ?_)))))))
      exact WX.round (G:=Nat × Int × Int × (List (Int × Int))) ⟨zg5,(max z4Q (y3H zaj.2 (nth z3P z3t) 0)),(i64 (z3t + 1)),zaj.2⟩ h (Nat.lt_succ_self _) (.cons rfl (.cons rfl (.cons rfl (.cons rfl (.cons rfl (.cons rfl (.cons rfl (.cons rfl .nil)))))))) (.cons .h1 (.cons .here .nil))
    ·replace h:=yn h zg8
     refine WC.exit (WX.yO (WX.yO (WX.y1K ?_)))
     exact WX.mid (G:=Int × (List (Int × Int))) ⟨z4Q,z4R⟩ h (.cons rfl (.cons rfl (.cons rfl (.cons rfl .nil)))) (.cons .h1 .nil)
   ·rintro z4l z6C h
    replace h:=(zsJ z4l z6C).symm.trans h
    refine WC.b (WC.a ?_)
    refine WL.a (d:=40) rfl rfl rfl (y5 y45 rfl (y3r hz.pv z7v rfl)) ?_
    refine WL.pu rfl (WL.pu rfl (WL.pu rfl ?_))
    refine WL.yf rfl rfl (y4v (k:=z1i) (v:=i64 (z4l + 1)) y4a Tryd.underlying54 rfl rfl rfl rfl .here) ?_
    refine WL.nil (WX.a ?_)
    obtain ⟨zeP,zsM,h⟩:=y3N h
    refine WC.y3G (fun (zak : List (Int × Int))=>(zeP zak = some r)) (fun (zak : List (Int × Int))=>[]) (fun (zak : List (Int × Int))=>[y1n z2L (Value.int .i64) (Value.int .i64) zak]) ?_ ?_
    ·skip
     refine WC.b ?_
     obtain ⟨zsN,h⟩:=ya h
     refine WC.a ?_
     refine WL.a (d:=44) rfl rfl rfl (y5 y3w rfl (y3r hz.pv zam rfl)) ?_
     refine WL.pu rfl ?_
     refine WL.znth (dd:=46) rfl rfl (Z:=Z) (Pr:=(fun r x=>r = e33 x)) y3J rfl rfl zal zsN ?_
     rintro zxi zxj zsO zxk rfl
     refine WL.a (d:=47) rfl rfl rfl (y4 y3P rfl rfl) ?_
     refine WL.a (d:=48) rfl rfl rfl (y5 yC rfl (y6Y hz.pv zsO rfl)) ?_
     refine WL.pu rfl (WL.nil (WX.a ?_))
     refine WC.cond rfl (fun zga=>?_) (fun zga=>?_)
     ·replace h:=ym h zga
      obtain ⟨zsP,h⟩:=ya h
      refine WC.y11 (fun i=>[9].contains i) [] rfl ?_
      refine WD.e (i:=0) (d:=50) (by kernel_rfl) rfl z2 z6 rfl rfl rfl (y5 y45 rfl (y3r hz.pv z7v rfl)) ?_
      refine WD.a (i:=1) (d:=51) (by kernel_rfl) rfl z2 z6 rfl rfl rfl (fun _=>q_m rfl) ?_
      refine WD.a (i:=2) (d:=52) (by kernel_rfl) rfl z2 z6 rfl rfl rfl (fun _=>q_m rfl) ?_
      refine WD.e (i:=3) (d:=53) (by kernel_rfl) rfl z2 z6 rfl rfl rfl (y5 y3w rfl (y3r hz.pv zam rfl)) ?_
      refine WD.a (i:=4) (d:=54) (by kernel_rfl) rfl z2 z6 rfl rfl rfl (fun _=>q_m rfl) ?_
      refine WD.znth (j:=5) (dd:=55) (by kernel_rfl) rfl z2 z6 rfl rfl (Z:=Z) (Pr:=(fun r x=>r = e33 x)) y3J rfl rfl zal zsP ?_
      rintro zxl zxm zsQ zxn rfl
      refine WD.a (i:=6) (d:=56) (by kernel_rfl) rfl z2 z6 rfl rfl rfl (fun _=>y4 yR rfl rfl) ?_
      refine WD.e (i:=7) (d:=57) (by kernel_rfl) rfl z2 z6 rfl rfl rfl (y5 yd rfl (y6Y hz.pv zsQ rfl)) ?_
      refine WD.a (i:=8) (d:=58) (by kernel_rfl) rfl z2 z6 rfl rfl rfl (fun _=>y5h rfl rfl rfl) ?_
      refine WD.y1J (i:=9) rfl (by kernel_rfl) rfl rfl rfl (by kernel_rfl) (y4v (k:=z1i) (v:=i64 (z4l + ((nth z26 z1i).fA))) y4a Tryd.underlying54 rfl rfl rfl rfl .here) ?_
      refine WD.done (by kernel_rfl) ?_
      exact WX.mid (G:=(List (Int × Int))) (y29 (y29 z6C z1i (i64 (z4l + 1))) z1i (i64 (z4l + ((nth z26 z1i).fA)))) h .nil (.cons .here .nil)
     ·replace h:=yn h zga
      refine WC.skip ?_
      exact WX.mid (G:=(List (Int × Int))) (y29 z6C z1i (i64 (z4l + 1))) h .nil (.cons .here .nil)
    ·rintro zak h
     replace h:=(zsM zak).symm.trans h
     refine WC.b (WC.a (WL.pu rfl (WL.nil (WX.a (WC.ret ?_)))))
     obtain rfl:=Option.some.inj h
     refine WX.yi Tryd.results29 (.tmp rfl .nil) (fun w hw=>?_)
     exact ⟨y1a rfl,hw.sub (.cons .here .nil)⟩
theorem y6g (Z : Zp) (z42 : Addr) (z2L : Nat) (z43 : Addr) (z6D : Option Addr) (z6E : Nat) (z4g : Addr) (z1i : Int) (z2y : List (Int × Int)) (z26 : List Sapi_Ins) (r : Bool × (List (Int × Int))) (w₀ : World) (hz : PZ (fps [y1n z2L (Value.int .i64) (Value.int .i64) z2y]) w₀ Z)
  (hG1 : ZS Z 1 (p74 Z) (some ⟨1,0,none⟩) 26 y19)
  (z7v : ZC Z z42 [(.map (some z2L))])
  (zal : ZS Z 4 (fun r x=>r = e33 x) z6D z6E z26)
  (zam : ZC Z z43 [(.slice z6D z26.length z6E)])
  (zdi : ZC Z z4g [(.func (.func 29) #[] #[(.pointer (some z42)),(.pointer (some z43)),(.pointer (some z4g))])]) (h : y4e z1i z2y z26 = some r)
  (hown : Hp (fps [y1n z2L (Value.int .i64) (Value.int .i64) z2y]) w₀ w₀ [y1n z2L (Value.int .i64) (Value.int .i64) z2y]) : Calls Tryd.prog 29 #[(.int .i64 z1i),(.pointer (some z42)),(.pointer (some z43)),(.pointer (some z4g))] w₀ fun e w'=>e = .returned (.bool r.1) ∧ Hp (fps [y1n z2L (Value.int .i64) (Value.int .i64) z2y]) w₀ w' [y1n z2L (Value.int .i64) (Value.int .i64) r.2]:=y5x y2g Z z42 z2L z43 z6D z6E z4g z1i z2y z26 r w₀ hz hG1 z7v zal zam zdi h hown
def y2O (z4m : List Sapi_Ins) (z4w : Int) : Option (Int × Bool) :=
 (y4b z4m).bind fun zeQ=>if ((!zeQ) || (decide (z4w < 0))) || (decide (z4w > ((z4m.length : Nat) : Int))) then some (0,false) else (y4e z4w (y29 ([] : List (Int × Int)) ((z4m.length : Nat) : Int) 0) z4m).bind fun zeR=>if !zeR.1 then some (0,false) else some ((y3H zeR.2 z4w 0),true)
set_option maxRecDepth 20000 in
theorem y3Q (Z : Zp) (zdk : Option Addr) (zdl : Nat) (z4m : List Sapi_Ins) (z4w : Int) (r : Int × Bool)
  (h : y2O z4m z4w = some r) (w₀ : World) (hz : PZ [] w₀ Z)
  (hG1 : ZS Z 1 (p74 Z) (some ⟨1,0,none⟩) 26 y19)
  (zkc : ZS Z 4 (fun r x=>r = e33 x) zdk zdl z4m) :
  Calls Tryd.prog 13 #[(.slice zdk z4m.length zdl),(.int .i64 z4w)] w₀ fun e w'=>e = .returned (.tuple #[(.int .i64 r.1),(.bool r.2)]) ∧ Hp [] w₀ w' []:=by
 unfold y2O at h
 refine Calls.y8 (vs:=[(.slice zdk z4m.length zdl),(.int .i64 z4w)]) (pre:=[]) (env:=[(0,(.slice zdk z4m.length zdl)),(1,(.int .i64 z4w))]) Tryd.func13 rfl Tryd.ntmps13 rfl (Hp.nil w₀ _) rfl ?_
 refine WC.b (WC.a ?_)
 refine WL.new (dd:=2) rfl rfl rfl (y3p (cs:=[(.slice zdk z4m.length zdl)]) rfl rfl) ?_
 intro zsR _
 refine WL.pu rfl (WL.pu rfl (WL.nil (WX.a (WC.b (WC.b ?_)))))
 obtain ⟨zeQ,zsS,h⟩:=zb h
 refine WC.a ?_
 refine WL.a (d:=8) rfl rfl rfl (y5 y3w rfl (yb .here rfl)) ?_
 refine WL.b (dd:=9) rfl rfl rfl (zk (l:=[.tmp 8]) Tryd.call14 (.cons rfl .nil)) .nil (cc hz .nil fun w pz ho=>y7a _ _ _ _ _ zsS w pz hG1 zkc) ?_
 refine WL.pu rfl (WL.pu rfl ?_)
 refine WL.seg false 2 11 (B:=(!zeQ) || (decide (z4w < 0))) rfl rfl rfl rfl rfl rfl (fun h=>(or_l h).symm) (fun _ zsT=>?_) ?_
 ·skip
  refine WL.pu rfl (WL.pu rfl (WL.pu rfl ?_))
  exact WL.yD (or_r zsT) rfl rfl .all
 refine WL.pu rfl ?_
 refine WL.seg false 4 15 (B:=((!zeQ) || (decide (z4w < 0))) || (decide (z4w > ((z4m.length : Nat) : Int)))) rfl rfl rfl rfl rfl rfl (fun h=>(or_l h).symm) (fun _ zsU=>?_) ?_
 ·skip
  refine WL.pu rfl ?_
  refine WL.a (d:=17) rfl rfl rfl (y5 y3w rfl (yb .here rfl)) ?_
  refine WL.a (d:=18) rfl rfl rfl (y1L Tryd.underlying22 rfl) ?_
  refine WL.pu rfl (WL.pu rfl ?_)
  exact WL.yD (or_r zsU) rfl rfl .all
 refine WL.nil (WX.a ?_)
 refine WC.cond rfl (fun zgb=>?_) (fun zgb=>?_)
 ·replace h:=ym h zgb
  refine WC.b (WC.a (WL.pu rfl (WL.pu rfl (WL.nil (WX.a (WC.ret (WX.yh ?_)))))))
  obtain rfl:=Option.some.inj h
  refine WX.yi Tryd.results13 (.tmp rfl (.tmp rfl .nil)) (fun w hw=>?_)
  exact ⟨y3M rfl rfl,hw.sub .nil⟩
 ·replace h:=yn h zgb
  refine WC.skip (WX.a (WC.b (WC.a ?_)))
  refine WL.new (dd:=21) rfl rfl rfl (y7T (Value.int .i64) (Value.int .i64)) ?_
  intro zsV _
  refine WL.a (d:=22) rfl rfl rfl (y5 y3w rfl (yb .h1 rfl)) ?_
  refine WL.a (d:=23) rfl rfl rfl (y1L Tryd.underlying22 rfl) ?_
  refine WL.yf rfl rfl (e_insert (k:=((z4m.length : Nat) : Int)) (v:=0) y4a Tryd.underlying54 rfl rfl rfl rfl .here) ?_
  refine WL.pu rfl ?_
  refine WL.new (dd:=6) rfl rfl rfl (yA (cs:=[(.map none)]) zeroT_54 rfl) ?_
  intro zsW _
  refine WL.yf rfl rfl (yt sizT_54 rfl rfl rfl .here rfl rfl rfl) ?_
  refine WL.nil (WX.a (WC.b (WC.a ?_)))
  refine WL.new (dd:=7) rfl rfl rfl (yA (cs:=[.nilFunc]) zeroT_55 rfl) ?_
  intro zsX _
  refine WL.nil (WX.a (WC.b (WC.a ?_)))
  refine WL.a (d:=25) rfl rfl rfl (y6l (Eos.caps (l:=[.tmp 6,.tmp 2,.tmp 7]) (.cons rfl (.cons rfl (.cons rfl .nil))))) ?_
  refine WL.yf rfl rfl (yt sizT_55 rfl rfl rfl .here rfl rfl rfl) ?_
  refine WL.nil (WX.a (WC.b (WC.b ?_)))
  obtain ⟨zeR,zsY,h⟩:=zb h
  refine WC.a ?_
  refine WL.a (d:=26) rfl rfl rfl (y5 y7w rfl (yb .here rfl)) ?_
  refine WL.pu rfl ?_
  refine WL.b (dd:=28) rfl rfl rfl (ye (l:=[.tmp 27]) Tryd.call29 rfl (.cons rfl .nil)) (.cons .h2 .nil) (ccl hz (.cons .h2 .nil) (.cons .h1 (.cons .h1 (.cons .here .nil))) fun w pz ho la=>y6g (Z:=_) (z42:=⟨zsW,0,none⟩) (z2L:=zsV) (z43:=⟨zsR,0,none⟩) (z6D:=zdk) (z6E:=zdl) (z4g:=⟨zsX,0,none⟩) (z1i:=z4w) (z2y:=(y29 ([] : List (Int × Int)) ((z4m.length : Nat) : Int) 0)) (z26:=z4m) (r:=zeR) w pz ((hG1.mono (Zle.left _ _)).weak (fun _ _ h=>y10 (Zle.left _ _) h)) ((la _ (.head _) _).stb) (zkc.mono (Zle.left _ _)) ((la _ (.tail _ (.head _)) _).stb) ((la _ (.tail _ (.tail _ (.head _))) _).stb) zsY ho) ?_
  refine WL.pu rfl (WL.nil (WX.a ?_))
  refine WC.cond rfl (fun zgc=>?_) (fun zgc=>?_)
  ·replace h:=ym h zgc
   refine WC.b (WC.a (WL.pu rfl (WL.pu rfl (WL.nil (WX.a (WC.ret (WX.yh ?_)))))))
   obtain rfl:=Option.some.inj h
   refine WX.yi Tryd.results13 (.tmp rfl (.tmp rfl .nil)) (fun w hw=>?_)
   exact ⟨y3M rfl rfl,hw.sub .nil⟩
  ·replace h:=yn h zgc
   refine WC.skip (WX.a (WC.b (WC.a ?_)))
   refine WL.a (d:=30) rfl rfl rfl (y5 y45 rfl (yb .h2 rfl)) ?_
   refine WL.pu rfl ?_
   refine WL.a (d:=32) rfl rfl rfl (y75 (k:=z4w) (dflt:=(0 : Int)) y4a Tryd.underlying54 y63 rfl rfl rfl .here) ?_
   refine WL.pu rfl (WL.pu rfl (WL.nil (WX.a (WC.ret ?_))))
   obtain rfl:=Option.some.inj h
   refine WX.yi Tryd.results13 (.tmp rfl (.tmp rfl .nil)) (fun w hw=>?_)
   exact ⟨y3M rfl rfl,hw.sub .nil⟩
def y1f (z44 : List Int) (z4h : List Int) (z8P : Option Bool) : Nat → Int → Option Bool
 | 0,_=>none
 | zgd + 1,z3V=>if decide (z3V < ((z44.length : Nat) : Int)) then chk ((0 : Int) ≤ z3V ∧ z3V < ((z44.length : Nat) : Int)) (chk ((0 : Int) ≤ z3V ∧ z3V < ((z4h.length : Nat) : Int)) (if decide ((nth z44 z3V) ≠ (nth z4h z3V)) then some false else y1f z44 z4h z8P zgd (i64 (z3V + 1)))) else z8P
theorem y4k {n : Nat} {z44 : List Int} {z4h : List Int} {z8P : Option Bool} {z3V : Int} {r : Bool} (h : y1f z44 z4h z8P n z3V = some r) : ∃ m,n = m + 1:=by
 cases n with
 | zero=>cases h
 | succ m=>exact ⟨m,rfl⟩
def y1w (z44 : List Int) (z4h : List Int) : Option Bool :=
 if decide (((z44.length : Nat) : Int) ≠ ((z4h.length : Nat) : Int)) then some false else jp0 (some true) fun z8P=>y1f z44 z4h z8P y2g 0
set_option maxRecDepth 20000 in
theorem y3K (Z : Zp) (zdF : Option Addr) (zdG : Nat) (zdH : Option Addr) (zdI : Nat) (z44 : List Int) (z4h : List Int) (r : Bool)
  (h : y1w z44 z4h = some r) (w₀ : World) (hz : PZ [] w₀ Z)
  (zsZ : ZS Z 1 (fun r x=>r = e5 x) zdF zdG z44)
  (zt0 : ZS Z 1 (fun r x=>r = e5 x) zdH zdI z4h) :
  Calls Tryd.prog 22 #[(.slice zdF z44.length zdG),(.slice zdH z4h.length zdI)] w₀ fun e w'=>e = .returned (.bool r) ∧ Hp [] w₀ w' []:=by
 unfold y1w at h
 refine Calls.y8 (vs:=[(.slice zdF z44.length zdG),(.slice zdH z4h.length zdI)]) (pre:=[]) (env:=[(0,(.slice zdF z44.length zdG)),(1,(.slice zdH z4h.length zdI))]) Tryd.func22 rfl Tryd.ntmps22 rfl (Hp.nil w₀ _) rfl ?_
 refine WC.b (WC.a (WL.pu rfl (WL.nil (WX.a (WC.b (WC.b (WC.a (WL.pu rfl ?_))))))))
 refine WL.a (d:=7) rfl rfl rfl (y1L Tryd.underlying35 rfl) ?_
 refine WL.pu rfl ?_
 refine WL.a (d:=9) rfl rfl rfl (y1L Tryd.underlying35 rfl) ?_
 refine WL.pu rfl (WL.nil (WX.a ?_))
 refine WC.cond rfl (fun zge=>?_) (fun zge=>?_)
 ·replace h:=ym h zge
  refine WC.b (WC.a (WL.pu rfl (WL.nil (WX.a (WC.ret (WX.yh ?_))))))
  obtain rfl:=Option.some.inj h
  refine WX.yi Tryd.results22 (.tmp rfl .nil) (fun w hw=>?_)
  exact ⟨y1a rfl,hw.sub .nil⟩
 ·replace h:=yn h zge
  refine WC.skip (WX.a ?_)
  obtain ⟨z8P,zt1,h⟩:=y48 h
  refine WC.y3F ((z8P = some r)) ([]) ([]) ?_ ?_
  ·skip
   refine WC.b (WC.a (WL.pu rfl (WL.nil (WX.a (WC.block ?_)))))
   refine WC.y5j (fun (zdm : Nat) (z3V : Int)=>(y1f z44 z4h z8P zdm z3V = some r)) (fun (zdm : Nat) (z3V : Int)=>[(0,(.slice zdF z44.length zdG)),(1,(.slice zdH z4h.length zdI)),(5,(.int .i64 z3V))]) (fun (zdm : Nat) (z3V : Int)=>[]) (fun (zdm : Nat) (z3V : Int)=>zdm) ⟨y2g,0⟩ h (.cons rfl (.cons rfl (.cons rfl .nil))) .nil ?_
   rintro zdm z3V h
   obtain ⟨zgd,rfl⟩:=y4k h
   rw [y1f] at h
   refine WC.b (WC.b (WC.a (WL.pu rfl (WL.pu rfl ?_))))
   refine WL.a (d:=13) rfl rfl rfl (y1L Tryd.underlying35 rfl) ?_
   refine WL.pu rfl (WL.nil (WX.a ?_))
   refine WC.cond rfl (fun zgf=>?_) (fun zgf=>?_)
   ·replace h:=ym h zgf
    refine WC.skip (WX.a (WC.b (WC.block (WC.b ?_))))
    obtain ⟨zt2,h⟩:=ya h
    obtain ⟨zt3,h⟩:=ya h
    refine WC.y11 (fun i=>[].contains i) [] rfl ?_
    refine WD.a (i:=0) (d:=17) (by kernel_rfl) rfl z2 z6 rfl rfl rfl (fun _=>q_m rfl) ?_
    refine WD.a (i:=1) (d:=18) (by kernel_rfl) rfl z2 z6 rfl rfl rfl (fun _=>q_m rfl) ?_
    refine WD.znth (j:=2) (dd:=19) (by kernel_rfl) rfl z2 z6 rfl rfl (Z:=Z) (Pr:=(fun r x=>r = e5 x)) y1F rfl rfl zsZ zt2 ?_
    rintro zxo zxp zt4 zxq rfl
    refine WD.e (i:=3) (d:=20) (by kernel_rfl) rfl z2 z6 rfl rfl rfl (y5 yC rfl (y3r hz.pv zt4 rfl)) ?_
    refine WD.a (i:=4) (d:=21) (by kernel_rfl) rfl z2 z6 rfl rfl rfl (fun _=>q_m rfl) ?_
    refine WD.a (i:=5) (d:=22) (by kernel_rfl) rfl z2 z6 rfl rfl rfl (fun _=>q_m rfl) ?_
    refine WD.znth (j:=6) (dd:=23) (by kernel_rfl) rfl z2 z6 rfl rfl (Z:=Z) (Pr:=(fun r x=>r = e5 x)) y1F rfl rfl zt0 zt3 ?_
    rintro zxr zxs zt5 zxt rfl
    refine WD.e (i:=7) (d:=24) (by kernel_rfl) rfl z2 z6 rfl rfl rfl (y5 yC rfl (y3r hz.pv zt5 rfl)) ?_
    refine WD.a (i:=8) (d:=25) (by kernel_rfl) rfl z2 z6 rfl rfl rfl (fun _=>q_neq rfl rfl) ?_
    refine WD.done (by kernel_rfl) ?_
    refine WX.a ?_
    refine WC.cond rfl (fun zgg=>?_) (fun zgg=>?_)
    ·replace h:=ym h zgg
     refine WC.b (WC.a (WL.pu rfl (WL.nil (WX.a (WC.ret (WX.yS (WX.yh (WX.yh (WX.yS (WX.yh ?_))))))))))
     obtain rfl:=Option.some.inj h
     refine WX.yi Tryd.results22 (.tmp rfl .nil) (fun w hw=>?_)
     exact ⟨y1a rfl,hw.sub .nil⟩
    ·replace h:=yn h zgg
     refine WC.skip (WX.yr (WX.a (WC.a (WL.pu rfl (WL.pu rfl (WL.pu rfl (WL.nil ?_)))))))
     exact WX.round (G:=Nat × Int) ⟨zgd,(i64 (z3V + 1))⟩ h (Nat.lt_succ_self _) (.cons rfl (.cons rfl (.cons rfl .nil))) .nil
   ·replace h:=yn h zgf
    refine WC.exit (WX.yO (WX.yO (WX.y1K ?_)))
    exact WX.mid (G:=Unit) () h .nil .nil
  ·rintro  h
   replace h:=zt1.symm.trans h
   refine WC.b (WC.a (WL.pu rfl (WL.nil (WX.a (WC.ret ?_)))))
   obtain rfl:=Option.some.inj h
   refine WX.yi Tryd.results22 (.tmp rfl .nil) (fun w hw=>?_)
   exact ⟨y1a rfl,hw.sub .nil⟩
def y13 (z2f : Sproc_Act) (z2g : Sproc_Act) : Option Bool :=
 (if ((decide (z2f.fKind = z2g.fKind)) && (decide (z2f.fA = z2g.fA))) && (decide (z2f.fB = z2g.fB)) then (y1w z2f.fData z2g.fData).bind fun zkd=>some zkd else some false).bind fun zgh=>some zgh
set_option maxRecDepth 20000 in
theorem y22 (Z : Zp) (zdJ : Option Addr) (zdK : Nat) (zdL : Option Addr) (zdM : Nat) (z2f : Sproc_Act) (z2g : Sproc_Act) (r : Bool)
  (h : y13 z2f z2g = some r) (w₀ : World) (hz : PZ [] w₀ Z)
  (zt6 : ZS Z 1 (fun r x=>r = e5 x) zdJ zdK z2f.fData)
  (zt7 : ZS Z 1 (fun r x=>r = e5 x) zdL zdM z2g.fData) :
  Calls Tryd.prog 19 #[(.agg #[(.int .u8 z2f.fKind),(.int .i64 z2f.fA),(.int .i64 z2f.fB),(.slice zdJ z2f.fData.length zdK)]),(.agg #[(.int .u8 z2g.fKind),(.int .i64 z2g.fA),(.int .i64 z2g.fB),(.slice zdL z2g.fData.length zdM)])] w₀ fun e w'=>e = .returned (.bool r) ∧ Hp [] w₀ w' []:=by
 unfold y13 at h
 refine Calls.y8 (vs:=[(.agg #[(.int .u8 z2f.fKind),(.int .i64 z2f.fA),(.int .i64 z2f.fB),(.slice zdJ z2f.fData.length zdK)]),(.agg #[(.int .u8 z2g.fKind),(.int .i64 z2g.fA),(.int .i64 z2g.fB),(.slice zdL z2g.fData.length zdM)])]) (pre:=[]) (env:=[(0,(.agg #[(.int .u8 z2f.fKind),(.int .i64 z2f.fA),(.int .i64 z2f.fB),(.slice zdJ z2f.fData.length zdK)])),(1,(.agg #[(.int .u8 z2g.fKind),(.int .i64 z2g.fA),(.int .i64 z2g.fB),(.slice zdL z2g.fData.length zdM)]))]) Tryd.func19 rfl Tryd.ntmps19 rfl (Hp.nil w₀ _) rfl ?_
 refine WC.b (WC.a ?_)
 refine WL.new (dd:=2) rfl rfl rfl (y3p (cs:=[(.int .u8 z2f.fKind),(.int .i64 z2f.fA),(.int .i64 z2f.fB),(.slice zdJ z2f.fData.length zdK)]) rfl rfl) ?_
 intro zxu _
 refine WL.new (dd:=3) rfl rfl rfl (y3p (cs:=[(.int .u8 z2g.fKind),(.int .i64 z2g.fA),(.int .i64 z2g.fB),(.slice zdL z2g.fData.length zdM)]) rfl rfl) ?_
 intro zxv _
 refine WL.pu rfl (WL.nil (WX.a (WC.b ?_)))
 obtain ⟨zgh,zke,h⟩:=zb h
 refine WC.a ?_
 refine WL.a (d:=5) rfl rfl rfl (y4 y4T rfl rfl) ?_
 refine WL.a (d:=6) rfl rfl rfl (y5 yC rfl (yb .h1 rfl)) ?_
 refine WL.a (d:=7) rfl rfl rfl (y4 y4T rfl rfl) ?_
 refine WL.a (d:=8) rfl rfl rfl (y5 yC rfl (yb .here rfl)) ?_
 refine WL.pu rfl (WL.pu rfl ?_)
 refine WL.seg true 5 10 (B:=(decide (z2f.fKind = z2g.fKind)) && (decide (z2f.fA = z2g.fA))) rfl rfl rfl rfl rfl rfl (fun h=>(y3D h).symm) (fun _ zt8=>?_) ?_
 ·skip
  refine WL.a (d:=11) rfl rfl rfl (y4 y6B rfl rfl) ?_
  refine WL.a (d:=12) rfl rfl rfl (y5 yd rfl (yb .h1 rfl)) ?_
  refine WL.a (d:=13) rfl rfl rfl (y4 y6B rfl rfl) ?_
  refine WL.a (d:=14) rfl rfl rfl (y5 yd rfl (yb .here rfl)) ?_
  refine WL.pu rfl (WL.pu rfl ?_)
  exact WL.yD (y3E zt8) rfl rfl .all
 refine WL.pu rfl ?_
 refine WL.seg true 5 17 (B:=((decide (z2f.fKind = z2g.fKind)) && (decide (z2f.fA = z2g.fA))) && (decide (z2f.fB = z2g.fB))) rfl rfl rfl rfl rfl rfl (fun h=>(y3D h).symm) (fun _ zt9=>?_) ?_
 ·skip
  refine WL.a (d:=18) rfl rfl rfl (y4 y6C rfl rfl) ?_
  refine WL.a (d:=19) rfl rfl rfl (y5 yd rfl (yb .h1 rfl)) ?_
  refine WL.a (d:=20) rfl rfl rfl (y4 y6C rfl rfl) ?_
  refine WL.a (d:=21) rfl rfl rfl (y5 yd rfl (yb .here rfl)) ?_
  refine WL.pu rfl (WL.pu rfl ?_)
  exact WL.yD (y3E zt9) rfl rfl .all
 refine WL.pu rfl ?_
 refine WL.seg true 5 24 (B:=zgh) rfl rfl rfl rfl rfl rfl (fun h=>(Option.some.inj (yn zke h)).symm) (fun _ zta=>?_) ?_
 ·skip
  have zdN:=ym zke zta
  obtain ⟨zkd,ztb,zdN⟩:=zb zdN
  replace zdN:=Option.some.inj zdN
  refine WL.a (d:=25) rfl rfl rfl (y4 y7x rfl rfl) ?_
  refine WL.a (d:=26) rfl rfl rfl (y5 y44 rfl (yb .h1 rfl)) ?_
  refine WL.a (d:=27) rfl rfl rfl (y4 y7x rfl rfl) ?_
  refine WL.a (d:=28) rfl rfl rfl (y5 y44 rfl (yb .here rfl)) ?_
  refine WL.b (dd:=29) rfl rfl rfl (zk (l:=[.tmp 26,.tmp 28]) Tryd.call22 (.cons rfl (.cons rfl .nil))) .nil (cc hz .nil fun w pz ho=>y3K _ _ _ _ _ _ _ _ ztb w pz zt6 zt7) ?_
  refine WL.pu rfl ?_
  exact WL.yD zdN rfl rfl .all
 refine WL.pu rfl (WL.nil (WX.a (WC.ret ?_)))
 obtain rfl:=Option.some.inj h
 refine WX.yi Tryd.results19 (.tmp rfl .nil) (fun w hw=>?_)
 exact ⟨y1a rfl,hw.sub .nil⟩
end Go.Proofs.YtjdnejbngloieaaDoor
