/- A part of this claim's proof: models of functions, walks, plain laws. No conditions. -/
import Derived.Test.YtjdnejbngloieaaDoorW26a
namespace Go.Proofs.YtjdnejbngloieaaDoor
open Go Go.RowKit Sep
set_option linter.all false
set_option maxRecDepth 30000
set_option maxHeartbeats 4000000
def y2Q (zj : Sproc_execution) : Option Sproc_execution :=
 (yn zj zj.fX.fA).bind fun zoi=>chk ((0 : Int) ≤ zj.fX.fA ∧ zj.fX.fA < 4) ((yn zj zj.fX.fB).bind fun zoj=>chk ((0 : Int) ≤ zj.fX.fB ∧ zj.fX.fB < 4) (if decide ((nth ([zj.fState.fRegs.a0,zj.fState.fRegs.a1,zj.fState.fRegs.a2,zj.fState.fRegs.a3] : List Int) zj.fX.fA) < (nth ([zj.fState.fRegs.a0,zj.fState.fRegs.a1,zj.fState.fRegs.a2,zj.fState.fRegs.a3] : List Int) zj.fX.fB)) then some (⟨(⟨zj.fX.fC,zj.fState.fLeft,zj.fState.fRegs⟩ : Sproc_State),zj.fX,zj.fMem,zj.fAct⟩ : Sproc_execution) else some zj))
set_option maxRecDepth 20000 in
theorem y5c (Z : Zp) (z8F : Nat) (z8G : Option Addr) (z8H : Nat) (z8I : Option Addr) (z8J : Nat) (zj : Sproc_execution) (r : Sproc_execution)
  (h : y2Q zj = some r) (w₀ : World) (hz : PZ (fps [stb z8F 65 [(.int .i64 zj.fState.fPc),(.int .i64 zj.fState.fLeft),(.int .u8 zj.fState.fRegs.a0),(.int .u8 zj.fState.fRegs.a1),(.int .u8 zj.fState.fRegs.a2),(.int .u8 zj.fState.fRegs.a3),(.int .u8 zj.fX.fOp),(.int .i64 zj.fX.fA),(.int .i64 zj.fX.fB),(.int .i64 zj.fX.fC),(.slice z8G zj.fMem.length z8H),(.int .u8 zj.fAct.fKind),(.int .i64 zj.fAct.fA),(.int .i64 zj.fAct.fB),(.slice z8I zj.fAct.fData.length z8J)]]) w₀ Z)
  (zeC : ZS Z 1 (fun r x=>r = e5 x) z8G z8H zj.fMem)
  (zeD : ZS Z 1 (fun r x=>r = e5 x) z8I z8J zj.fAct.fData)
  (hown : Hp (fps [stb z8F 65 [(.int .i64 zj.fState.fPc),(.int .i64 zj.fState.fLeft),(.int .u8 zj.fState.fRegs.a0),(.int .u8 zj.fState.fRegs.a1),(.int .u8 zj.fState.fRegs.a2),(.int .u8 zj.fState.fRegs.a3),(.int .u8 zj.fX.fOp),(.int .i64 zj.fX.fA),(.int .i64 zj.fX.fB),(.int .i64 zj.fX.fC),(.slice z8G zj.fMem.length z8H),(.int .u8 zj.fAct.fKind),(.int .i64 zj.fAct.fA),(.int .i64 zj.fAct.fB),(.slice z8I zj.fAct.fData.length z8J)]]) w₀ w₀ [stb z8F 65 [(.int .i64 zj.fState.fPc),(.int .i64 zj.fState.fLeft),(.int .u8 zj.fState.fRegs.a0),(.int .u8 zj.fState.fRegs.a1),(.int .u8 zj.fState.fRegs.a2),(.int .u8 zj.fState.fRegs.a3),(.int .u8 zj.fX.fOp),(.int .i64 zj.fX.fA),(.int .i64 zj.fX.fB),(.int .i64 zj.fX.fC),(.slice z8G zj.fMem.length z8H),(.int .u8 zj.fAct.fKind),(.int .i64 zj.fAct.fA),(.int .i64 zj.fAct.fB),(.slice z8I zj.fAct.fData.length z8J)]]) :
  Calls Tryd.prog 104 #[(.pointer (some ⟨z8F,0,none⟩))] w₀ fun e w'=>∃ zjP : Option Addr,∃ zjQ : Nat,∃ zjR : Option Addr,∃ zjS : Nat,e = .returned (.tuple #[]) ∧ ((ZS Z 1 (fun r x=>r = e5 x) zjP zjQ r.fMem) ∧ (ZS Z 1 (fun r x=>r = e5 x) zjR zjS r.fAct.fData)) ∧ Hp (fps [stb z8F 65 [(.int .i64 zj.fState.fPc),(.int .i64 zj.fState.fLeft),(.int .u8 zj.fState.fRegs.a0),(.int .u8 zj.fState.fRegs.a1),(.int .u8 zj.fState.fRegs.a2),(.int .u8 zj.fState.fRegs.a3),(.int .u8 zj.fX.fOp),(.int .i64 zj.fX.fA),(.int .i64 zj.fX.fB),(.int .i64 zj.fX.fC),(.slice z8G zj.fMem.length z8H),(.int .u8 zj.fAct.fKind),(.int .i64 zj.fAct.fA),(.int .i64 zj.fAct.fB),(.slice z8I zj.fAct.fData.length z8J)]]) w₀ w' [stb z8F 65 [(.int .i64 r.fState.fPc),(.int .i64 r.fState.fLeft),(.int .u8 r.fState.fRegs.a0),(.int .u8 r.fState.fRegs.a1),(.int .u8 r.fState.fRegs.a2),(.int .u8 r.fState.fRegs.a3),(.int .u8 r.fX.fOp),(.int .i64 r.fX.fA),(.int .i64 r.fX.fB),(.int .i64 r.fX.fC),(.slice zjP r.fMem.length zjQ),(.int .u8 r.fAct.fKind),(.int .i64 r.fAct.fA),(.int .i64 r.fAct.fB),(.slice zjR r.fAct.fData.length zjS)]]:=by
 unfold y2Q at h
 refine Calls.y8 (vs:=[(.pointer (some ⟨z8F,0,none⟩))]) (pre:=[stb z8F 65 [(.int .i64 zj.fState.fPc),(.int .i64 zj.fState.fLeft),(.int .u8 zj.fState.fRegs.a0),(.int .u8 zj.fState.fRegs.a1),(.int .u8 zj.fState.fRegs.a2),(.int .u8 zj.fState.fRegs.a3),(.int .u8 zj.fX.fOp),(.int .i64 zj.fX.fA),(.int .i64 zj.fX.fB),(.int .i64 zj.fX.fC),(.slice z8G zj.fMem.length z8H),(.int .u8 zj.fAct.fKind),(.int .i64 zj.fAct.fA),(.int .i64 zj.fAct.fB),(.slice z8I zj.fAct.fData.length z8J)]]) (env:=[(0,(.pointer (some ⟨z8F,0,none⟩)))]) Tryd.func104 rfl Tryd.ntmps104 rfl (hown) rfl ?_
 refine WC.b ?_
 obtain ⟨zoi,zol,h⟩:=zd h
 obtain ⟨zom,h⟩:=ya h
 obtain ⟨zoj,zon,h⟩:=zd h
 obtain ⟨zoo,h⟩:=ya h
 refine WC.yX (fun i=>[].contains i) [] rfl ?_
 refine WD.a (i:=0) (d:=2) (by kernel_rfl) rfl z2 z6 rfl rfl rfl (fun _=>q_m rfl) ?_
 refine WD.a (i:=1) (d:=3) (by kernel_rfl) rfl z2 z6 rfl rfl rfl (fun _=>q_m rfl) ?_
 refine WD.a (i:=2) (d:=4) (by kernel_rfl) rfl z2 z6 rfl rfl rfl (fun _=>y6 rfl) ?_
 refine WD.a (i:=3) (d:=5) (by kernel_rfl) rfl z2 z6 rfl rfl rfl (fun _=>y4 yo rfl rfl) ?_
 refine WD.a (i:=4) (d:=6) (by kernel_rfl) rfl z2 z6 rfl rfl rfl (fun _=>y4 yS rfl rfl) ?_
 refine WD.e (i:=5) (d:=7) (by kernel_rfl) rfl z2 z6 rfl rfl rfl (y5 yd rfl (yb .here rfl)) ?_
 refine WD.c (i:=6) (d:=8) (by kernel_rfl) rfl z2 z6 rfl rfl rfl (zl (l:=[.tmp 2,.tmp 7]) Tryd.call108 (.cons rfl (.cons rfl .nil))) (ccl hz .nil (.cons .here .nil) fun w pz ho la=>yt _ _ _ _ _ _ _ _ _ zol w pz (zeC.mono (Zle.left _ _)) (zeD.mono (Zle.left _ _)) ((la _ (.head _) _).stb)) ?_
 refine WD.a (i:=7) (d:=9) (by kernel_rfl) rfl z2 z6 rfl rfl rfl (fun _=>y6 rfl) ?_
 refine WD.e (i:=8) (d:=10) (by kernel_rfl) rfl z2 z6 rfl rfl rfl (y5 yB rfl (yZ (l:=([zj.fState.fRegs.a0,zj.fState.fRegs.a1,zj.fState.fRegs.a2,zj.fState.fRegs.a3] : List Int)) (f:=Value.int .u8) (k:=2) (m:=6) .here rfl rfl zom)) ?_
 refine WD.a (i:=9) (d:=11) (by kernel_rfl) rfl z2 z6 rfl rfl rfl (fun _=>q_m rfl) ?_
 refine WD.a (i:=10) (d:=12) (by kernel_rfl) rfl z2 z6 rfl rfl rfl (fun _=>q_m rfl) ?_
 refine WD.a (i:=11) (d:=13) (by kernel_rfl) rfl z2 z6 rfl rfl rfl (fun _=>y6 rfl) ?_
 refine WD.a (i:=12) (d:=14) (by kernel_rfl) rfl z2 z6 rfl rfl rfl (fun _=>y4 yo rfl rfl) ?_
 refine WD.a (i:=13) (d:=15) (by kernel_rfl) rfl z2 z6 rfl rfl rfl (fun _=>y4 y14 rfl rfl) ?_
 refine WD.e (i:=14) (d:=16) (by kernel_rfl) rfl z2 z6 rfl rfl rfl (y5 yd rfl (yb .here rfl)) ?_
 refine WD.c (i:=15) (d:=17) (by kernel_rfl) rfl z2 z6 rfl rfl rfl (zl (l:=[.tmp 11,.tmp 16]) Tryd.call108 (.cons rfl (.cons rfl .nil))) (ccl hz .nil (.cons .here .nil) fun w pz ho la=>yt _ _ _ _ _ _ _ _ _ zon w pz (zeC.mono (Zle.left _ _)) (zeD.mono (Zle.left _ _)) ((la _ (.head _) _).stb)) ?_
 refine WD.a (i:=16) (d:=18) (by kernel_rfl) rfl z2 z6 rfl rfl rfl (fun _=>y6 rfl) ?_
 refine WD.e (i:=17) (d:=19) (by kernel_rfl) rfl z2 z6 rfl rfl rfl (y5 yB rfl (yZ (l:=([zj.fState.fRegs.a0,zj.fState.fRegs.a1,zj.fState.fRegs.a2,zj.fState.fRegs.a3] : List Int)) (f:=Value.int .u8) (k:=2) (m:=6) .here rfl rfl zoo)) ?_
 refine WD.a (i:=18) (d:=20) (by kernel_rfl) rfl z2 z6 rfl rfl rfl (fun _=>q_lss rfl rfl) ?_
 refine WD.done (by kernel_rfl) ?_
 refine WX.a ?_
 refine WC.cond rfl (fun zfT=>?_) (fun zfT=>?_)
 ·replace h:=yl h zfT
  refine WC.a (WL.pu rfl (WL.pu rfl ?_))
  refine WL.a (d:=23) rfl rfl rfl (y6 rfl) ?_
  refine WL.a (d:=24) rfl rfl rfl (y4 yo rfl rfl) ?_
  refine WL.a (d:=25) rfl rfl rfl (y4 y3q rfl rfl) ?_
  refine WL.a (d:=26) rfl rfl rfl (y5 yd rfl (yb .here rfl)) ?_
  refine WL.a (d:=27) rfl rfl rfl (y6 rfl) ?_
  refine WL.a (d:=28) rfl rfl rfl (y4 yI rfl rfl) ?_
  refine WL.a (d:=29) rfl rfl rfl (y4 y1c rfl rfl) ?_
  refine WL.yg rfl rfl (yK (ds:=[(.int .i64 zj.fX.fC),(.int .i64 zj.fState.fLeft),(.int .u8 zj.fState.fRegs.a0),(.int .u8 zj.fState.fRegs.a1),(.int .u8 zj.fState.fRegs.a2),(.int .u8 zj.fState.fRegs.a3),(.int .u8 zj.fX.fOp),(.int .i64 zj.fX.fA),(.int .i64 zj.fX.fB),(.int .i64 zj.fX.fC),(.slice z8G zj.fMem.length z8H),(.int .u8 zj.fAct.fKind),(.int .i64 zj.fAct.fA),(.int .i64 zj.fAct.fB),(.slice z8I zj.fAct.fData.length z8J)]) y20 rfl rfl rfl rfl rfl .here rfl rfl) ?_
  refine WL.nil ?_
  obtain rfl:=Option.some.inj h
  refine WX.y9 Tryd.results104 .nil (fun w hw=>?_)
  exact ⟨z8G,z8H,z8I,z8J,yC,⟨zeC,zeD⟩,hw.sub (.cons .here .nil)⟩
 ·replace h:=ym h zfT
  refine WC.skip ?_
  obtain rfl:=Option.some.inj h
  refine WX.y9 Tryd.results104 .nil (fun w hw=>?_)
  exact ⟨z8G,z8H,z8I,z8J,yC,⟨zeC,zeD⟩,hw.sub (.cons .here .nil)⟩
def y32 (z8 : Sproc_execution) : Option Sproc_execution :=
 (yn z8 z8.fX.fB).bind fun zop=>chk ((0 : Int) ≤ z8.fX.fB ∧ z8.fX.fB < 4) (if decide ((nth ([z8.fState.fRegs.a0,z8.fState.fRegs.a1,z8.fState.fRegs.a2,z8.fState.fRegs.a3] : List Int) z8.fX.fB) ≠ 0) then (yn z8 z8.fX.fA).bind fun zoq=>chk ((0 : Int) ≤ z8.fX.fA ∧ z8.fX.fA < 4) (chk ((nth ([z8.fState.fRegs.a0,z8.fState.fRegs.a1,z8.fState.fRegs.a2,z8.fState.fRegs.a3] : List Int) z8.fX.fB : Int) ≠ 0) (some (⟨(⟨z8.fState.fPc,z8.fState.fLeft,(⟨nth (([z8.fState.fRegs.a0,z8.fState.fRegs.a1,z8.fState.fRegs.a2,z8.fState.fRegs.a3] : List Int).set (z8.fX.fA : Int).toNat (u8 (Int.tdiv (nth ([z8.fState.fRegs.a0,z8.fState.fRegs.a1,z8.fState.fRegs.a2,z8.fState.fRegs.a3] : List Int) z8.fX.fA) (nth ([z8.fState.fRegs.a0,z8.fState.fRegs.a1,z8.fState.fRegs.a2,z8.fState.fRegs.a3] : List Int) z8.fX.fB)))) 0,nth (([z8.fState.fRegs.a0,z8.fState.fRegs.a1,z8.fState.fRegs.a2,z8.fState.fRegs.a3] : List Int).set (z8.fX.fA : Int).toNat (u8 (Int.tdiv (nth ([z8.fState.fRegs.a0,z8.fState.fRegs.a1,z8.fState.fRegs.a2,z8.fState.fRegs.a3] : List Int) z8.fX.fA) (nth ([z8.fState.fRegs.a0,z8.fState.fRegs.a1,z8.fState.fRegs.a2,z8.fState.fRegs.a3] : List Int) z8.fX.fB)))) 1,nth (([z8.fState.fRegs.a0,z8.fState.fRegs.a1,z8.fState.fRegs.a2,z8.fState.fRegs.a3] : List Int).set (z8.fX.fA : Int).toNat (u8 (Int.tdiv (nth ([z8.fState.fRegs.a0,z8.fState.fRegs.a1,z8.fState.fRegs.a2,z8.fState.fRegs.a3] : List Int) z8.fX.fA) (nth ([z8.fState.fRegs.a0,z8.fState.fRegs.a1,z8.fState.fRegs.a2,z8.fState.fRegs.a3] : List Int) z8.fX.fB)))) 2,nth (([z8.fState.fRegs.a0,z8.fState.fRegs.a1,z8.fState.fRegs.a2,z8.fState.fRegs.a3] : List Int).set (z8.fX.fA : Int).toNat (u8 (Int.tdiv (nth ([z8.fState.fRegs.a0,z8.fState.fRegs.a1,z8.fState.fRegs.a2,z8.fState.fRegs.a3] : List Int) z8.fX.fA) (nth ([z8.fState.fRegs.a0,z8.fState.fRegs.a1,z8.fState.fRegs.a2,z8.fState.fRegs.a3] : List Int) z8.fX.fB)))) 3⟩ : S34)⟩ : Sproc_State),z8.fX,z8.fMem,z8.fAct⟩ : Sproc_execution))) else (y1w z8 4 0).bind fun zfU=>some zfU)
set_option maxRecDepth 20000 in
theorem y5D (Z : Zp) (z8K : Nat) (zad : Option Addr) (zae : Nat) (zaf : Option Addr) (zag : Nat) (z8 : Sproc_execution) (r : Sproc_execution)
  (h : y32 z8 = some r) (w₀ : World) (hz : PZ (fps [stb z8K 65 [(.int .i64 z8.fState.fPc),(.int .i64 z8.fState.fLeft),(.int .u8 z8.fState.fRegs.a0),(.int .u8 z8.fState.fRegs.a1),(.int .u8 z8.fState.fRegs.a2),(.int .u8 z8.fState.fRegs.a3),(.int .u8 z8.fX.fOp),(.int .i64 z8.fX.fA),(.int .i64 z8.fX.fB),(.int .i64 z8.fX.fC),(.slice zad z8.fMem.length zae),(.int .u8 z8.fAct.fKind),(.int .i64 z8.fAct.fA),(.int .i64 z8.fAct.fB),(.slice zaf z8.fAct.fData.length zag)]]) w₀ Z)
  (zeE : ZS Z 1 (fun r x=>r = e5 x) zad zae z8.fMem)
  (zeF : ZS Z 1 (fun r x=>r = e5 x) zaf zag z8.fAct.fData)
  (hown : Hp (fps [stb z8K 65 [(.int .i64 z8.fState.fPc),(.int .i64 z8.fState.fLeft),(.int .u8 z8.fState.fRegs.a0),(.int .u8 z8.fState.fRegs.a1),(.int .u8 z8.fState.fRegs.a2),(.int .u8 z8.fState.fRegs.a3),(.int .u8 z8.fX.fOp),(.int .i64 z8.fX.fA),(.int .i64 z8.fX.fB),(.int .i64 z8.fX.fC),(.slice zad z8.fMem.length zae),(.int .u8 z8.fAct.fKind),(.int .i64 z8.fAct.fA),(.int .i64 z8.fAct.fB),(.slice zaf z8.fAct.fData.length zag)]]) w₀ w₀ [stb z8K 65 [(.int .i64 z8.fState.fPc),(.int .i64 z8.fState.fLeft),(.int .u8 z8.fState.fRegs.a0),(.int .u8 z8.fState.fRegs.a1),(.int .u8 z8.fState.fRegs.a2),(.int .u8 z8.fState.fRegs.a3),(.int .u8 z8.fX.fOp),(.int .i64 z8.fX.fA),(.int .i64 z8.fX.fB),(.int .i64 z8.fX.fC),(.slice zad z8.fMem.length zae),(.int .u8 z8.fAct.fKind),(.int .i64 z8.fAct.fA),(.int .i64 z8.fAct.fB),(.slice zaf z8.fAct.fData.length zag)]]) :
  Calls Tryd.prog 105 #[(.pointer (some ⟨z8K,0,none⟩))] w₀ fun e w'=>∃ Zn : Zp,∃ zjT : Option Addr,∃ zjU : Nat,∃ zjV : Option Addr,∃ zjW : Nat,e = .returned (.tuple #[]) ∧ ((ZS (Z ++ Zn) 1 (fun r x=>r = e5 x) zjT zjU r.fMem) ∧ (ZS (Z ++ Zn) 1 (fun r x=>r = e5 x) zjV zjW r.fAct.fData)) ∧ Hp (fps [stb z8K 65 [(.int .i64 z8.fState.fPc),(.int .i64 z8.fState.fLeft),(.int .u8 z8.fState.fRegs.a0),(.int .u8 z8.fState.fRegs.a1),(.int .u8 z8.fState.fRegs.a2),(.int .u8 z8.fState.fRegs.a3),(.int .u8 z8.fX.fOp),(.int .i64 z8.fX.fA),(.int .i64 z8.fX.fB),(.int .i64 z8.fX.fC),(.slice zad z8.fMem.length zae),(.int .u8 z8.fAct.fKind),(.int .i64 z8.fAct.fA),(.int .i64 z8.fAct.fB),(.slice zaf z8.fAct.fData.length zag)]]) w₀ w' [fz Zn,stb z8K 65 [(.int .i64 r.fState.fPc),(.int .i64 r.fState.fLeft),(.int .u8 r.fState.fRegs.a0),(.int .u8 r.fState.fRegs.a1),(.int .u8 r.fState.fRegs.a2),(.int .u8 r.fState.fRegs.a3),(.int .u8 r.fX.fOp),(.int .i64 r.fX.fA),(.int .i64 r.fX.fB),(.int .i64 r.fX.fC),(.slice zjT r.fMem.length zjU),(.int .u8 r.fAct.fKind),(.int .i64 r.fAct.fA),(.int .i64 r.fAct.fB),(.slice zjV r.fAct.fData.length zjW)]]:=by
 unfold y32 at h
 refine Calls.y8 (vs:=[(.pointer (some ⟨z8K,0,none⟩))]) (pre:=[stb z8K 65 [(.int .i64 z8.fState.fPc),(.int .i64 z8.fState.fLeft),(.int .u8 z8.fState.fRegs.a0),(.int .u8 z8.fState.fRegs.a1),(.int .u8 z8.fState.fRegs.a2),(.int .u8 z8.fState.fRegs.a3),(.int .u8 z8.fX.fOp),(.int .i64 z8.fX.fA),(.int .i64 z8.fX.fB),(.int .i64 z8.fX.fC),(.slice zad z8.fMem.length zae),(.int .u8 z8.fAct.fKind),(.int .i64 z8.fAct.fA),(.int .i64 z8.fAct.fB),(.slice zaf z8.fAct.fData.length zag)]]) (env:=[(0,(.pointer (some ⟨z8K,0,none⟩)))]) Tryd.func105 rfl Tryd.ntmps105 rfl (hown) rfl ?_
 refine WC.pool (WC.b ?_)
 obtain ⟨zop,zor,h⟩:=zd h
 obtain ⟨zos,h⟩:=ya h
 refine WC.a (WL.pu rfl (WL.pu rfl ?_))
 refine WL.a (d:=5) rfl rfl rfl (y6 rfl) ?_
 refine WL.a (d:=6) rfl rfl rfl (y4 yo rfl rfl) ?_
 refine WL.a (d:=7) rfl rfl rfl (y4 y14 rfl rfl) ?_
 refine WL.a (d:=8) rfl rfl rfl (y5 yd rfl (yb .h1 rfl)) ?_
 refine WL.b (dd:=9) rfl rfl rfl (zl (l:=[.tmp 3,.tmp 8]) Tryd.call108 (.cons rfl (.cons rfl .nil))) .nil (y2W hz .nil .here (.cons .h1 .nil) fun w pz ho la=>yt _ _ _ _ _ _ _ _ _ zor w pz ((zeE.mono (Zle.left _ _)).mono (Zle.left _ _)) ((zeF.mono (Zle.left _ _)).mono (Zle.left _ _)) ((la _ (.head _) _).stb)) ?_
 refine WL.a (d:=10) rfl rfl rfl (y6 rfl) ?_
 refine WL.a (d:=11) rfl rfl rfl (y5 yB rfl (yZ (l:=([z8.fState.fRegs.a0,z8.fState.fRegs.a1,z8.fState.fRegs.a2,z8.fState.fRegs.a3] : List Int)) (f:=Value.int .u8) (k:=2) (m:=6) .h1 rfl rfl zos)) ?_
 refine WL.pu rfl (WL.nil (WX.a (WC.b (WC.a (WL.pu rfl (WL.pu rfl (WL.nil (WX.a ?_))))))))
 refine WC.cond rfl (fun zfV=>?_) (fun zfV=>?_)
 ·replace h:=yl h zfV
  obtain ⟨zoq,zot,h⟩:=zd h
  obtain ⟨zjX,h⟩:=ya h
  obtain ⟨zou,h⟩:=ya h
  refine WC.a (WL.pu rfl (WL.pu rfl ?_))
  refine WL.a (d:=16) rfl rfl rfl (y6 rfl) ?_
  refine WL.a (d:=17) rfl rfl rfl (y4 yo rfl rfl) ?_
  refine WL.a (d:=18) rfl rfl rfl (y4 yS rfl rfl) ?_
  refine WL.a (d:=19) rfl rfl rfl (y5 yd rfl (yb .h1 rfl)) ?_
  refine WL.b (dd:=20) rfl rfl rfl (zl (l:=[.tmp 14,.tmp 19]) Tryd.call108 (.cons rfl (.cons rfl .nil))) .nil (y2W hz .nil .here (.cons .h1 .nil) fun w pz ho la=>yt _ _ _ _ _ _ _ _ _ zot w pz ((zeE.mono (Zle.left _ _)).mono (Zle.left _ _)) ((zeF.mono (Zle.left _ _)).mono (Zle.left _ _)) ((la _ (.head _) _).stb)) ?_
  refine WL.a (d:=21) rfl rfl rfl (y6 rfl) ?_
  refine WL.a (d:=22) rfl rfl rfl (y5 yB rfl (yZ (l:=([z8.fState.fRegs.a0,z8.fState.fRegs.a1,z8.fState.fRegs.a2,z8.fState.fRegs.a3] : List Int)) (f:=Value.int .u8) (k:=2) (m:=6) .h1 rfl rfl zjX)) ?_
  refine WL.pu rfl ?_
  refine WL.a (d:=24) rfl rfl rfl (q_quo rfl rfl zou rfl) ?_
  refine WL.a (d:=25) rfl rfl rfl (y6 rfl) ?_
  refine WL.yg rfl rfl (y1m (l:=([z8.fState.fRegs.a0,z8.fState.fRegs.a1,z8.fState.fRegs.a2,z8.fState.fRegs.a3] : List Int)) (f:=Value.int .u8) (u:=u8 (Int.tdiv (nth ([z8.fState.fRegs.a0,z8.fState.fRegs.a1,z8.fState.fRegs.a2,z8.fState.fRegs.a3] : List Int) z8.fX.fA) (nth ([z8.fState.fRegs.a0,z8.fState.fRegs.a1,z8.fState.fRegs.a2,z8.fState.fRegs.a3] : List Int) z8.fX.fB))) (k:=2) (m:=6) (j:=4) (ds:=[(.int .i64 z8.fState.fPc),(.int .i64 z8.fState.fLeft),(.int .u8 (nth (([z8.fState.fRegs.a0,z8.fState.fRegs.a1,z8.fState.fRegs.a2,z8.fState.fRegs.a3] : List Int).set (z8.fX.fA : Int).toNat (u8 (Int.tdiv (nth ([z8.fState.fRegs.a0,z8.fState.fRegs.a1,z8.fState.fRegs.a2,z8.fState.fRegs.a3] : List Int) z8.fX.fA) (nth ([z8.fState.fRegs.a0,z8.fState.fRegs.a1,z8.fState.fRegs.a2,z8.fState.fRegs.a3] : List Int) z8.fX.fB)))) 0)),(.int .u8 (nth (([z8.fState.fRegs.a0,z8.fState.fRegs.a1,z8.fState.fRegs.a2,z8.fState.fRegs.a3] : List Int).set (z8.fX.fA : Int).toNat (u8 (Int.tdiv (nth ([z8.fState.fRegs.a0,z8.fState.fRegs.a1,z8.fState.fRegs.a2,z8.fState.fRegs.a3] : List Int) z8.fX.fA) (nth ([z8.fState.fRegs.a0,z8.fState.fRegs.a1,z8.fState.fRegs.a2,z8.fState.fRegs.a3] : List Int) z8.fX.fB)))) 1)),(.int .u8 (nth (([z8.fState.fRegs.a0,z8.fState.fRegs.a1,z8.fState.fRegs.a2,z8.fState.fRegs.a3] : List Int).set (z8.fX.fA : Int).toNat (u8 (Int.tdiv (nth ([z8.fState.fRegs.a0,z8.fState.fRegs.a1,z8.fState.fRegs.a2,z8.fState.fRegs.a3] : List Int) z8.fX.fA) (nth ([z8.fState.fRegs.a0,z8.fState.fRegs.a1,z8.fState.fRegs.a2,z8.fState.fRegs.a3] : List Int) z8.fX.fB)))) 2)),(.int .u8 (nth (([z8.fState.fRegs.a0,z8.fState.fRegs.a1,z8.fState.fRegs.a2,z8.fState.fRegs.a3] : List Int).set (z8.fX.fA : Int).toNat (u8 (Int.tdiv (nth ([z8.fState.fRegs.a0,z8.fState.fRegs.a1,z8.fState.fRegs.a2,z8.fState.fRegs.a3] : List Int) z8.fX.fA) (nth ([z8.fState.fRegs.a0,z8.fState.fRegs.a1,z8.fState.fRegs.a2,z8.fState.fRegs.a3] : List Int) z8.fX.fB)))) 3)),(.int .u8 z8.fX.fOp),(.int .i64 z8.fX.fA),(.int .i64 z8.fX.fB),(.int .i64 z8.fX.fC),(.slice zad z8.fMem.length zae),(.int .u8 z8.fAct.fKind),(.int .i64 z8.fAct.fA),(.int .i64 z8.fAct.fB),(.slice zaf z8.fAct.fData.length zag)]) y2h rfl rfl rfl rfl .h1 rfl rfl zjX rfl rfl) ?_
  refine WL.nil ?_
  obtain rfl:=Option.some.inj h
  refine WX.y9 Tryd.results105 .nil (fun w hw=>?_)
  exact ⟨[],zad,zae,zaf,zag,yC,⟨(zeE.mono (Zle.left _ _)),(zeF.mono (Zle.left _ _))⟩,hw.sub (.cons .h1 (.cons .here .nil))⟩
 ·replace h:=ym h zfV
  obtain ⟨zfU,zov,h⟩:=zd h
  refine WC.a (WL.pu rfl ?_)
  refine WL.yw (dd:=27) rfl rfl rfl (zl (l:=[.tmp 26,.const (.int .u8 4),.const (.int .i64 0)]) Tryd.call112 (.cons rfl (.cons rfl (.cons rfl .nil)))) (.cons .h1 .nil) (ccz hz (.cons .h1 .nil) .here fun w pz ho=>y2F _ _ _ _ _ _ _ _ _ _ zov w pz (zeE.mono (Zle.left _ _)) (zeF.mono (Zle.left _ _)) ho) ?_
  rintro zow zox zoy zoz zoA
  refine WL.nil ?_
  refine WX.freezeS (ls:=zfU.fAct.fData) .h1 .h1 hz (RR.y1b (enc:=e5) (fun _=>rfl) _) ?_
  intro zoB zoC zoD
  obtain rfl:=Option.some.inj h
  refine WX.y9 Tryd.results105 .nil (fun w hw=>?_)
  exact ⟨zoB,zow,zox,zoy,zoz,yC,⟨(zoA.mono zoC),zoD⟩,hw.sub (.cons .here (.cons .here .nil))⟩
def y2z (zC : Sproc_execution) : Option Sproc_execution :=
 (y1w zC 3 zC.fX.fA).bind fun zjY=>some zjY
set_option maxRecDepth 20000 in
theorem y4I (Z : Zp) (z8L : Nat) (zdi : Option Addr) (zdj : Nat) (zdk : Option Addr) (zdl : Nat) (zC : Sproc_execution) (r : Sproc_execution)
  (h : y2z zC = some r) (w₀ : World) (hz : PZ (fps [stb z8L 65 [(.int .i64 zC.fState.fPc),(.int .i64 zC.fState.fLeft),(.int .u8 zC.fState.fRegs.a0),(.int .u8 zC.fState.fRegs.a1),(.int .u8 zC.fState.fRegs.a2),(.int .u8 zC.fState.fRegs.a3),(.int .u8 zC.fX.fOp),(.int .i64 zC.fX.fA),(.int .i64 zC.fX.fB),(.int .i64 zC.fX.fC),(.slice zdi zC.fMem.length zdj),(.int .u8 zC.fAct.fKind),(.int .i64 zC.fAct.fA),(.int .i64 zC.fAct.fB),(.slice zdk zC.fAct.fData.length zdl)]]) w₀ Z)
  (zoE : ZS Z 1 (fun r x=>r = e5 x) zdi zdj zC.fMem)
  (zoF : ZS Z 1 (fun r x=>r = e5 x) zdk zdl zC.fAct.fData)
  (hown : Hp (fps [stb z8L 65 [(.int .i64 zC.fState.fPc),(.int .i64 zC.fState.fLeft),(.int .u8 zC.fState.fRegs.a0),(.int .u8 zC.fState.fRegs.a1),(.int .u8 zC.fState.fRegs.a2),(.int .u8 zC.fState.fRegs.a3),(.int .u8 zC.fX.fOp),(.int .i64 zC.fX.fA),(.int .i64 zC.fX.fB),(.int .i64 zC.fX.fC),(.slice zdi zC.fMem.length zdj),(.int .u8 zC.fAct.fKind),(.int .i64 zC.fAct.fA),(.int .i64 zC.fAct.fB),(.slice zdk zC.fAct.fData.length zdl)]]) w₀ w₀ [stb z8L 65 [(.int .i64 zC.fState.fPc),(.int .i64 zC.fState.fLeft),(.int .u8 zC.fState.fRegs.a0),(.int .u8 zC.fState.fRegs.a1),(.int .u8 zC.fState.fRegs.a2),(.int .u8 zC.fState.fRegs.a3),(.int .u8 zC.fX.fOp),(.int .i64 zC.fX.fA),(.int .i64 zC.fX.fB),(.int .i64 zC.fX.fC),(.slice zdi zC.fMem.length zdj),(.int .u8 zC.fAct.fKind),(.int .i64 zC.fAct.fA),(.int .i64 zC.fAct.fB),(.slice zdk zC.fAct.fData.length zdl)]]) :
  Calls Tryd.prog 106 #[(.pointer (some ⟨z8L,0,none⟩))] w₀ fun e w'=>∃ zjZ : Option Addr,∃ zk0 : Nat,∃ zk1 : Option Addr,∃ zk2 : Nat,e = .returned (.tuple #[]) ∧ (ZS Z 1 (fun r x=>r = e5 x) zjZ zk0 r.fMem) ∧ Hp (fps [stb z8L 65 [(.int .i64 zC.fState.fPc),(.int .i64 zC.fState.fLeft),(.int .u8 zC.fState.fRegs.a0),(.int .u8 zC.fState.fRegs.a1),(.int .u8 zC.fState.fRegs.a2),(.int .u8 zC.fState.fRegs.a3),(.int .u8 zC.fX.fOp),(.int .i64 zC.fX.fA),(.int .i64 zC.fX.fB),(.int .i64 zC.fX.fC),(.slice zdi zC.fMem.length zdj),(.int .u8 zC.fAct.fKind),(.int .i64 zC.fAct.fA),(.int .i64 zC.fAct.fB),(.slice zdk zC.fAct.fData.length zdl)]]) w₀ w' [stb z8L 65 [(.int .i64 r.fState.fPc),(.int .i64 r.fState.fLeft),(.int .u8 r.fState.fRegs.a0),(.int .u8 r.fState.fRegs.a1),(.int .u8 r.fState.fRegs.a2),(.int .u8 r.fState.fRegs.a3),(.int .u8 r.fX.fOp),(.int .i64 r.fX.fA),(.int .i64 r.fX.fB),(.int .i64 r.fX.fC),(.slice zjZ r.fMem.length zk0),(.int .u8 r.fAct.fKind),(.int .i64 r.fAct.fA),(.int .i64 r.fAct.fB),(.slice zk1 r.fAct.fData.length zk2)],row (.slice zk1 r.fAct.fData.length zk2) 5 1 (r.fAct.fData.flatMap e5)]:=by
 unfold y2z at h
 refine Calls.y8 (vs:=[(.pointer (some ⟨z8L,0,none⟩))]) (pre:=[stb z8L 65 [(.int .i64 zC.fState.fPc),(.int .i64 zC.fState.fLeft),(.int .u8 zC.fState.fRegs.a0),(.int .u8 zC.fState.fRegs.a1),(.int .u8 zC.fState.fRegs.a2),(.int .u8 zC.fState.fRegs.a3),(.int .u8 zC.fX.fOp),(.int .i64 zC.fX.fA),(.int .i64 zC.fX.fB),(.int .i64 zC.fX.fC),(.slice zdi zC.fMem.length zdj),(.int .u8 zC.fAct.fKind),(.int .i64 zC.fAct.fA),(.int .i64 zC.fAct.fB),(.slice zdk zC.fAct.fData.length zdl)]]) (env:=[(0,(.pointer (some ⟨z8L,0,none⟩)))]) Tryd.func106 rfl Tryd.ntmps106 rfl (hown) rfl ?_
 obtain ⟨zjY,zoG,h⟩:=zd h
 refine WC.a (WL.pu rfl (WL.pu rfl ?_))
 refine WL.a (d:=4) rfl rfl rfl (y6 rfl) ?_
 refine WL.a (d:=5) rfl rfl rfl (y4 yo rfl rfl) ?_
 refine WL.a (d:=6) rfl rfl rfl (y4 yS rfl rfl) ?_
 refine WL.a (d:=7) rfl rfl rfl (y5 yd rfl (yb .here rfl)) ?_
 refine WL.yw (dd:=8) rfl rfl rfl (zl (l:=[.tmp 2,.const (.int .u8 3),.tmp 7]) Tryd.call112 (.cons rfl (.cons rfl (.cons rfl .nil)))) (.cons .here .nil) (cc hz (.cons .here .nil) fun w pz ho=>y2F _ _ _ _ _ _ _ _ _ _ zoG w pz zoE zoF ho) ?_
 rintro zoH zoI zoJ zoK zoL
 refine WL.nil ?_
 obtain rfl:=Option.some.inj h
 refine WX.y9 Tryd.results106 .nil (fun w hw=>?_)
 exact ⟨zoH,zoI,zoJ,zoK,yC,zoL,hw.sub (.cons .here (.cons .here .nil))⟩
def y2R (zo : Sproc_execution) : Option Sproc_execution :=
 some (⟨(⟨i64 (zo.fState.fPc - 1),zo.fState.fLeft,zo.fState.fRegs⟩ : Sproc_State),zo.fX,zo.fMem,(⟨16,0,0,([] : List Int)⟩ : Sproc_Act)⟩ : Sproc_execution)
set_option maxRecDepth 20000 in
theorem y5d (Z : Zp) (z8M : Nat) (z8N : Option Addr) (z8O : Nat) (zbF : Option Addr) (zbG : Nat) (zo : Sproc_execution) (r : Sproc_execution)
  (h : y2R zo = some r) (w₀ : World) (hz : PZ (fps [stb z8M 65 [(.int .i64 zo.fState.fPc),(.int .i64 zo.fState.fLeft),(.int .u8 zo.fState.fRegs.a0),(.int .u8 zo.fState.fRegs.a1),(.int .u8 zo.fState.fRegs.a2),(.int .u8 zo.fState.fRegs.a3),(.int .u8 zo.fX.fOp),(.int .i64 zo.fX.fA),(.int .i64 zo.fX.fB),(.int .i64 zo.fX.fC),(.slice z8N zo.fMem.length z8O),(.int .u8 zo.fAct.fKind),(.int .i64 zo.fAct.fA),(.int .i64 zo.fAct.fB),(.slice zbF zo.fAct.fData.length zbG)]]) w₀ Z)
  (zoM : ZS Z 1 (fun r x=>r = e5 x) z8N z8O zo.fMem)
  (zxg : ZS Z 1 (fun r x=>r = e5 x) zbF zbG zo.fAct.fData)
  (hown : Hp (fps [stb z8M 65 [(.int .i64 zo.fState.fPc),(.int .i64 zo.fState.fLeft),(.int .u8 zo.fState.fRegs.a0),(.int .u8 zo.fState.fRegs.a1),(.int .u8 zo.fState.fRegs.a2),(.int .u8 zo.fState.fRegs.a3),(.int .u8 zo.fX.fOp),(.int .i64 zo.fX.fA),(.int .i64 zo.fX.fB),(.int .i64 zo.fX.fC),(.slice z8N zo.fMem.length z8O),(.int .u8 zo.fAct.fKind),(.int .i64 zo.fAct.fA),(.int .i64 zo.fAct.fB),(.slice zbF zo.fAct.fData.length zbG)]]) w₀ w₀ [stb z8M 65 [(.int .i64 zo.fState.fPc),(.int .i64 zo.fState.fLeft),(.int .u8 zo.fState.fRegs.a0),(.int .u8 zo.fState.fRegs.a1),(.int .u8 zo.fState.fRegs.a2),(.int .u8 zo.fState.fRegs.a3),(.int .u8 zo.fX.fOp),(.int .i64 zo.fX.fA),(.int .i64 zo.fX.fB),(.int .i64 zo.fX.fC),(.slice z8N zo.fMem.length z8O),(.int .u8 zo.fAct.fKind),(.int .i64 zo.fAct.fA),(.int .i64 zo.fAct.fB),(.slice zbF zo.fAct.fData.length zbG)]]) :
  Calls Tryd.prog 107 #[(.pointer (some ⟨z8M,0,none⟩))] w₀ fun e w'=>∃ zk3 : Option Addr,∃ zk4 : Nat,∃ zk5 : Option Addr,∃ zk6 : Nat,e = .returned (.tuple #[]) ∧ (ZS Z 1 (fun r x=>r = e5 x) zk3 zk4 r.fMem) ∧ Hp (fps [stb z8M 65 [(.int .i64 zo.fState.fPc),(.int .i64 zo.fState.fLeft),(.int .u8 zo.fState.fRegs.a0),(.int .u8 zo.fState.fRegs.a1),(.int .u8 zo.fState.fRegs.a2),(.int .u8 zo.fState.fRegs.a3),(.int .u8 zo.fX.fOp),(.int .i64 zo.fX.fA),(.int .i64 zo.fX.fB),(.int .i64 zo.fX.fC),(.slice z8N zo.fMem.length z8O),(.int .u8 zo.fAct.fKind),(.int .i64 zo.fAct.fA),(.int .i64 zo.fAct.fB),(.slice zbF zo.fAct.fData.length zbG)]]) w₀ w' [stb z8M 65 [(.int .i64 r.fState.fPc),(.int .i64 r.fState.fLeft),(.int .u8 r.fState.fRegs.a0),(.int .u8 r.fState.fRegs.a1),(.int .u8 r.fState.fRegs.a2),(.int .u8 r.fState.fRegs.a3),(.int .u8 r.fX.fOp),(.int .i64 r.fX.fA),(.int .i64 r.fX.fB),(.int .i64 r.fX.fC),(.slice zk3 r.fMem.length zk4),(.int .u8 r.fAct.fKind),(.int .i64 r.fAct.fA),(.int .i64 r.fAct.fB),(.slice zk5 r.fAct.fData.length zk6)],row (.slice zk5 r.fAct.fData.length zk6) 5 1 (r.fAct.fData.flatMap e5)]:=by
 unfold y2R at h
 refine Calls.y8 (vs:=[(.pointer (some ⟨z8M,0,none⟩))]) (pre:=[stb z8M 65 [(.int .i64 zo.fState.fPc),(.int .i64 zo.fState.fLeft),(.int .u8 zo.fState.fRegs.a0),(.int .u8 zo.fState.fRegs.a1),(.int .u8 zo.fState.fRegs.a2),(.int .u8 zo.fState.fRegs.a3),(.int .u8 zo.fX.fOp),(.int .i64 zo.fX.fA),(.int .i64 zo.fX.fB),(.int .i64 zo.fX.fC),(.slice z8N zo.fMem.length z8O),(.int .u8 zo.fAct.fKind),(.int .i64 zo.fAct.fA),(.int .i64 zo.fAct.fB),(.slice zbF zo.fAct.fData.length zbG)]]) (env:=[(0,(.pointer (some ⟨z8M,0,none⟩)))]) Tryd.func107 rfl Tryd.ntmps107 rfl (hown) rfl ?_
 refine WC.b (WC.a (WL.pu rfl ?_))
 refine WL.a (d:=3) rfl rfl rfl (y6 rfl) ?_
 refine WL.a (d:=4) rfl rfl rfl (y4 yI rfl rfl) ?_
 refine WL.a (d:=5) rfl rfl rfl (y4 y1c rfl rfl) ?_
 refine WL.a (d:=6) rfl rfl rfl (y5 yd rfl (yb .here rfl)) ?_
 refine WL.pu rfl ?_
 refine WL.a (d:=8) rfl rfl rfl (y6 rfl) ?_
 refine WL.a (d:=9) rfl rfl rfl (y4 yI rfl rfl) ?_
 refine WL.a (d:=10) rfl rfl rfl (y4 y1c rfl rfl) ?_
 refine WL.yg rfl rfl (yK (ds:=[(.int .i64 (i64 (zo.fState.fPc - 1))),(.int .i64 zo.fState.fLeft),(.int .u8 zo.fState.fRegs.a0),(.int .u8 zo.fState.fRegs.a1),(.int .u8 zo.fState.fRegs.a2),(.int .u8 zo.fState.fRegs.a3),(.int .u8 zo.fX.fOp),(.int .i64 zo.fX.fA),(.int .i64 zo.fX.fB),(.int .i64 zo.fX.fC),(.slice z8N zo.fMem.length z8O),(.int .u8 zo.fAct.fKind),(.int .i64 zo.fAct.fA),(.int .i64 zo.fAct.fB),(.slice zbF zo.fAct.fData.length zbG)]) y20 rfl rfl rfl rfl rfl .here rfl rfl) ?_
 refine WL.nil (WX.a (WC.a (WL.pu rfl ?_)))
 refine WL.a (d:=12) rfl rfl rfl (yR (v:=(.agg #[(.int .u8 16),(.int .i64 0),(.int .i64 0),(.slice none 0 0)])) (Eos.parts (l:=[.const (.int .u8 16)]) (.cons rfl .nil) [0]) (fun _=>by kernel_rfl)) ?_
 refine WL.a (d:=13) rfl rfl rfl (y6 rfl) ?_
 refine WL.a (d:=14) rfl rfl rfl (y4 y2e rfl rfl) ?_
 refine WL.yg rfl rfl (yK (ds:=[(.int .i64 (i64 (zo.fState.fPc - 1))),(.int .i64 zo.fState.fLeft),(.int .u8 zo.fState.fRegs.a0),(.int .u8 zo.fState.fRegs.a1),(.int .u8 zo.fState.fRegs.a2),(.int .u8 zo.fState.fRegs.a3),(.int .u8 zo.fX.fOp),(.int .i64 zo.fX.fA),(.int .i64 zo.fX.fB),(.int .i64 zo.fX.fC),(.slice z8N zo.fMem.length z8O),(.int .u8 16),(.int .i64 0),(.int .i64 0),(.slice none 0 0)]) y1g rfl rfl rfl rfl rfl .here rfl rfl) ?_
 refine WL.nil ?_
 refine WX.nilRow 5 1 ?_
 obtain rfl:=Option.some.inj h
 refine WX.y9 Tryd.results107 .nil (fun w hw=>?_)
 exact ⟨z8N,z8O,none,0,yC,zoM,hw.sub (.cons .h1 (.cons .here .nil))⟩
def y2A (zbH : List Sapi_Ins) (zk : Sproc_State) (z1E : List Int) : Option (Sproc_State × Sproc_Act) :=
 (y2U zbH zk.fPc).bind fun z1i=>if !z1i.2 then some (zk,(⟨15,5,0,[]⟩ : Sproc_Act)) else jp15 (fun (z7n : Int) (z7o : Int) (z7p : Int) (z7q : Int) (z7r : Int) (z7s : Int) (zah : Int) (zai : Int) (zaj : Int) (zak : Int) (z8P : List Int) (z7t : Int) (z7u : Int) (z7v : Int) (z6z : List Int)=>some ((⟨z7n,z7o,(⟨z7p,z7q,z7r,z7s⟩ : S34)⟩ : Sproc_State),(⟨z7t,z7u,z7v,z6z⟩ : Sproc_Act))) fun z2n=>chk ((0 : Int) ≤ z1i.1.fOp ∧ z1i.1.fOp < 26) (sw [(1,(y2E (⟨(⟨i64 (zk.fPc + 1),zk.fLeft,zk.fRegs⟩ : Sproc_State),z1i.1,z1E,(⟨0,0,0,[]⟩ : Sproc_Act)⟩ : Sproc_execution)).bind fun z1N=>z2n z1N.fState.fPc z1N.fState.fLeft z1N.fState.fRegs.a0 z1N.fState.fRegs.a1 z1N.fState.fRegs.a2 z1N.fState.fRegs.a3 z1N.fX.fOp z1N.fX.fA z1N.fX.fB z1N.fX.fC z1N.fMem z1N.fAct.fKind z1N.fAct.fA z1N.fAct.fB z1N.fAct.fData),(2,(y2X (⟨(⟨i64 (zk.fPc + 1),zk.fLeft,zk.fRegs⟩ : Sproc_State),z1i.1,z1E,(⟨0,0,0,[]⟩ : Sproc_Act)⟩ : Sproc_execution)).bind fun z1O=>z2n z1O.fState.fPc z1O.fState.fLeft z1O.fState.fRegs.a0 z1O.fState.fRegs.a1 z1O.fState.fRegs.a2 z1O.fState.fRegs.a3 z1O.fX.fOp z1O.fX.fA z1O.fX.fB z1O.fX.fC z1O.fMem z1O.fAct.fKind z1O.fAct.fA z1O.fAct.fB z1O.fAct.fData),(3,(y2Y (⟨(⟨i64 (zk.fPc + 1),zk.fLeft,zk.fRegs⟩ : Sproc_State),z1i.1,z1E,(⟨0,0,0,[]⟩ : Sproc_Act)⟩ : Sproc_execution)).bind fun z1P=>z2n z1P.fState.fPc z1P.fState.fLeft z1P.fState.fRegs.a0 z1P.fState.fRegs.a1 z1P.fState.fRegs.a2 z1P.fState.fRegs.a3 z1P.fX.fOp z1P.fX.fA z1P.fX.fB z1P.fX.fC z1P.fMem z1P.fAct.fKind z1P.fAct.fA z1P.fAct.fB z1P.fAct.fData),(4,(y2Z (⟨(⟨i64 (zk.fPc + 1),zk.fLeft,zk.fRegs⟩ : Sproc_State),z1i.1,z1E,(⟨0,0,0,[]⟩ : Sproc_Act)⟩ : Sproc_execution)).bind fun z1Q=>z2n z1Q.fState.fPc z1Q.fState.fLeft z1Q.fState.fRegs.a0 z1Q.fState.fRegs.a1 z1Q.fState.fRegs.a2 z1Q.fState.fRegs.a3 z1Q.fX.fOp z1Q.fX.fA z1Q.fX.fB z1Q.fX.fC z1Q.fMem z1Q.fAct.fKind z1Q.fAct.fA z1Q.fAct.fB z1Q.fAct.fData),(5,(y2G (⟨(⟨i64 (zk.fPc + 1),zk.fLeft,zk.fRegs⟩ : Sproc_State),z1i.1,z1E,(⟨0,0,0,[]⟩ : Sproc_Act)⟩ : Sproc_execution)).bind fun z1R=>z2n z1R.fState.fPc z1R.fState.fLeft z1R.fState.fRegs.a0 z1R.fState.fRegs.a1 z1R.fState.fRegs.a2 z1R.fState.fRegs.a3 z1R.fX.fOp z1R.fX.fA z1R.fX.fB z1R.fX.fC z1R.fMem z1R.fAct.fKind z1R.fAct.fA z1R.fAct.fB z1R.fAct.fData),(6,(y2u (⟨(⟨i64 (zk.fPc + 1),zk.fLeft,zk.fRegs⟩ : Sproc_State),z1i.1,z1E,(⟨0,0,0,[]⟩ : Sproc_Act)⟩ : Sproc_execution)).bind fun z1S=>z2n z1S.fState.fPc z1S.fState.fLeft z1S.fState.fRegs.a0 z1S.fState.fRegs.a1 z1S.fState.fRegs.a2 z1S.fState.fRegs.a3 z1S.fX.fOp z1S.fX.fA z1S.fX.fB z1S.fX.fC z1S.fMem z1S.fAct.fKind z1S.fAct.fA z1S.fAct.fB z1S.fAct.fData),(7,(y2I (⟨(⟨i64 (zk.fPc + 1),zk.fLeft,zk.fRegs⟩ : Sproc_State),z1i.1,z1E,(⟨0,0,0,[]⟩ : Sproc_Act)⟩ : Sproc_execution)).bind fun z1T=>z2n z1T.fState.fPc z1T.fState.fLeft z1T.fState.fRegs.a0 z1T.fState.fRegs.a1 z1T.fState.fRegs.a2 z1T.fState.fRegs.a3 z1T.fX.fOp z1T.fX.fA z1T.fX.fB z1T.fX.fC z1T.fMem z1T.fAct.fKind z1T.fAct.fA z1T.fAct.fB z1T.fAct.fData),(8,(y2J (⟨(⟨i64 (zk.fPc + 1),zk.fLeft,zk.fRegs⟩ : Sproc_State),z1i.1,z1E,(⟨0,0,0,[]⟩ : Sproc_Act)⟩ : Sproc_execution)).bind fun z1U=>z2n z1U.fState.fPc z1U.fState.fLeft z1U.fState.fRegs.a0 z1U.fState.fRegs.a1 z1U.fState.fRegs.a2 z1U.fState.fRegs.a3 z1U.fX.fOp z1U.fX.fA z1U.fX.fB z1U.fX.fC z1U.fMem z1U.fAct.fKind z1U.fAct.fA z1U.fAct.fB z1U.fAct.fData),(9,(y2K (⟨(⟨i64 (zk.fPc + 1),zk.fLeft,zk.fRegs⟩ : Sproc_State),z1i.1,z1E,(⟨0,0,0,[]⟩ : Sproc_Act)⟩ : Sproc_execution)).bind fun z1V=>z2n z1V.fState.fPc z1V.fState.fLeft z1V.fState.fRegs.a0 z1V.fState.fRegs.a1 z1V.fState.fRegs.a2 z1V.fState.fRegs.a3 z1V.fX.fOp z1V.fX.fA z1V.fX.fB z1V.fX.fC z1V.fMem z1V.fAct.fKind z1V.fAct.fA z1V.fAct.fB z1V.fAct.fData),(10,(y2n (⟨(⟨i64 (zk.fPc + 1),zk.fLeft,zk.fRegs⟩ : Sproc_State),z1i.1,z1E,(⟨0,0,0,[]⟩ : Sproc_Act)⟩ : Sproc_execution)).bind fun z1W=>z2n z1W.fState.fPc z1W.fState.fLeft z1W.fState.fRegs.a0 z1W.fState.fRegs.a1 z1W.fState.fRegs.a2 z1W.fState.fRegs.a3 z1W.fX.fOp z1W.fX.fA z1W.fX.fB z1W.fX.fC z1W.fMem z1W.fAct.fKind z1W.fAct.fA z1W.fAct.fB z1W.fAct.fData),(11,(y2v (⟨(⟨i64 (zk.fPc + 1),zk.fLeft,zk.fRegs⟩ : Sproc_State),z1i.1,z1E,(⟨0,0,0,[]⟩ : Sproc_Act)⟩ : Sproc_execution)).bind fun z1X=>z2n z1X.fState.fPc z1X.fState.fLeft z1X.fState.fRegs.a0 z1X.fState.fRegs.a1 z1X.fState.fRegs.a2 z1X.fState.fRegs.a3 z1X.fX.fOp z1X.fX.fA z1X.fX.fB z1X.fX.fC z1X.fMem z1X.fAct.fKind z1X.fAct.fA z1X.fAct.fB z1X.fAct.fData),(12,(y2w (⟨(⟨i64 (zk.fPc + 1),zk.fLeft,zk.fRegs⟩ : Sproc_State),z1i.1,z1E,(⟨0,0,0,[]⟩ : Sproc_Act)⟩ : Sproc_execution)).bind fun z1Y=>z2n z1Y.fState.fPc z1Y.fState.fLeft z1Y.fState.fRegs.a0 z1Y.fState.fRegs.a1 z1Y.fState.fRegs.a2 z1Y.fState.fRegs.a3 z1Y.fX.fOp z1Y.fX.fA z1Y.fX.fB z1Y.fX.fC z1Y.fMem z1Y.fAct.fKind z1Y.fAct.fA z1Y.fAct.fB z1Y.fAct.fData),(13,(y2x (⟨(⟨i64 (zk.fPc + 1),zk.fLeft,zk.fRegs⟩ : Sproc_State),z1i.1,z1E,(⟨0,0,0,[]⟩ : Sproc_Act)⟩ : Sproc_execution)).bind fun z1Z=>z2n z1Z.fState.fPc z1Z.fState.fLeft z1Z.fState.fRegs.a0 z1Z.fState.fRegs.a1 z1Z.fState.fRegs.a2 z1Z.fState.fRegs.a3 z1Z.fX.fOp z1Z.fX.fA z1Z.fX.fB z1Z.fX.fC z1Z.fMem z1Z.fAct.fKind z1Z.fAct.fA z1Z.fAct.fB z1Z.fAct.fData),(14,(y30 (⟨(⟨i64 (zk.fPc + 1),zk.fLeft,zk.fRegs⟩ : Sproc_State),z1i.1,z1E,(⟨0,0,0,[]⟩ : Sproc_Act)⟩ : Sproc_execution)).bind fun z20=>z2n z20.fState.fPc z20.fState.fLeft z20.fState.fRegs.a0 z20.fState.fRegs.a1 z20.fState.fRegs.a2 z20.fState.fRegs.a3 z20.fX.fOp z20.fX.fA z20.fX.fB z20.fX.fC z20.fMem z20.fAct.fKind z20.fAct.fA z20.fAct.fB z20.fAct.fData),(15,(y31 (⟨(⟨i64 (zk.fPc + 1),zk.fLeft,zk.fRegs⟩ : Sproc_State),z1i.1,z1E,(⟨0,0,0,[]⟩ : Sproc_Act)⟩ : Sproc_execution)).bind fun z21=>z2n z21.fState.fPc z21.fState.fLeft z21.fState.fRegs.a0 z21.fState.fRegs.a1 z21.fState.fRegs.a2 z21.fState.fRegs.a3 z21.fX.fOp z21.fX.fA z21.fX.fB z21.fX.fC z21.fMem z21.fAct.fKind z21.fAct.fA z21.fAct.fB z21.fAct.fData),(16,(y2L (⟨(⟨i64 (zk.fPc + 1),zk.fLeft,zk.fRegs⟩ : Sproc_State),z1i.1,z1E,(⟨0,0,0,[]⟩ : Sproc_Act)⟩ : Sproc_execution)).bind fun z22=>z2n z22.fState.fPc z22.fState.fLeft z22.fState.fRegs.a0 z22.fState.fRegs.a1 z22.fState.fRegs.a2 z22.fState.fRegs.a3 z22.fX.fOp z22.fX.fA z22.fX.fB z22.fX.fC z22.fMem z22.fAct.fKind z22.fAct.fA z22.fAct.fB z22.fAct.fData),(17,(y2M (⟨(⟨i64 (zk.fPc + 1),zk.fLeft,zk.fRegs⟩ : Sproc_State),z1i.1,z1E,(⟨0,0,0,[]⟩ : Sproc_Act)⟩ : Sproc_execution)).bind fun z23=>z2n z23.fState.fPc z23.fState.fLeft z23.fState.fRegs.a0 z23.fState.fRegs.a1 z23.fState.fRegs.a2 z23.fState.fRegs.a3 z23.fX.fOp z23.fX.fA z23.fX.fB z23.fX.fC z23.fMem z23.fAct.fKind z23.fAct.fA z23.fAct.fB z23.fAct.fData),(18,(y2y (⟨(⟨i64 (zk.fPc + 1),zk.fLeft,zk.fRegs⟩ : Sproc_State),z1i.1,z1E,(⟨0,0,0,[]⟩ : Sproc_Act)⟩ : Sproc_execution)).bind fun z24=>z2n z24.fState.fPc z24.fState.fLeft z24.fState.fRegs.a0 z24.fState.fRegs.a1 z24.fState.fRegs.a2 z24.fState.fRegs.a3 z24.fX.fOp z24.fX.fA z24.fX.fB z24.fX.fC z24.fMem z24.fAct.fKind z24.fAct.fA z24.fAct.fB z24.fAct.fData),(19,(y2N (⟨(⟨i64 (zk.fPc + 1),zk.fLeft,zk.fRegs⟩ : Sproc_State),z1i.1,z1E,(⟨0,0,0,[]⟩ : Sproc_Act)⟩ : Sproc_execution)).bind fun z1J=>z2n z1J.fState.fPc z1J.fState.fLeft z1J.fState.fRegs.a0 z1J.fState.fRegs.a1 z1J.fState.fRegs.a2 z1J.fState.fRegs.a3 z1J.fX.fOp z1J.fX.fA z1J.fX.fB z1J.fX.fC z1J.fMem z1J.fAct.fKind z1J.fAct.fA z1J.fAct.fB z1J.fAct.fData),(20,(y2O (⟨(⟨i64 (zk.fPc + 1),zk.fLeft,zk.fRegs⟩ : Sproc_State),z1i.1,z1E,(⟨0,0,0,[]⟩ : Sproc_Act)⟩ : Sproc_execution)).bind fun z25=>z2n z25.fState.fPc z25.fState.fLeft z25.fState.fRegs.a0 z25.fState.fRegs.a1 z25.fState.fRegs.a2 z25.fState.fRegs.a3 z25.fX.fOp z25.fX.fA z25.fX.fB z25.fX.fC z25.fMem z25.fAct.fKind z25.fAct.fA z25.fAct.fB z25.fAct.fData),(21,(y2P (⟨(⟨i64 (zk.fPc + 1),zk.fLeft,zk.fRegs⟩ : Sproc_State),z1i.1,z1E,(⟨0,0,0,[]⟩ : Sproc_Act)⟩ : Sproc_execution)).bind fun z26=>z2n z26.fState.fPc z26.fState.fLeft z26.fState.fRegs.a0 z26.fState.fRegs.a1 z26.fState.fRegs.a2 z26.fState.fRegs.a3 z26.fX.fOp z26.fX.fA z26.fX.fB z26.fX.fC z26.fMem z26.fAct.fKind z26.fAct.fA z26.fAct.fB z26.fAct.fData),(22,(y2Q (⟨(⟨i64 (zk.fPc + 1),zk.fLeft,zk.fRegs⟩ : Sproc_State),z1i.1,z1E,(⟨0,0,0,[]⟩ : Sproc_Act)⟩ : Sproc_execution)).bind fun z27=>z2n z27.fState.fPc z27.fState.fLeft z27.fState.fRegs.a0 z27.fState.fRegs.a1 z27.fState.fRegs.a2 z27.fState.fRegs.a3 z27.fX.fOp z27.fX.fA z27.fX.fB z27.fX.fC z27.fMem z27.fAct.fKind z27.fAct.fA z27.fAct.fB z27.fAct.fData),(23,(y32 (⟨(⟨i64 (zk.fPc + 1),zk.fLeft,zk.fRegs⟩ : Sproc_State),z1i.1,z1E,(⟨0,0,0,[]⟩ : Sproc_Act)⟩ : Sproc_execution)).bind fun z29=>z2n z29.fState.fPc z29.fState.fLeft z29.fState.fRegs.a0 z29.fState.fRegs.a1 z29.fState.fRegs.a2 z29.fState.fRegs.a3 z29.fX.fOp z29.fX.fA z29.fX.fB z29.fX.fC z29.fMem z29.fAct.fKind z29.fAct.fA z29.fAct.fB z29.fAct.fData),(24,(y2z (⟨(⟨i64 (zk.fPc + 1),zk.fLeft,zk.fRegs⟩ : Sproc_State),z1i.1,z1E,(⟨0,0,0,[]⟩ : Sproc_Act)⟩ : Sproc_execution)).bind fun z1K=>z2n z1K.fState.fPc z1K.fState.fLeft z1K.fState.fRegs.a0 z1K.fState.fRegs.a1 z1K.fState.fRegs.a2 z1K.fState.fRegs.a3 z1K.fX.fOp z1K.fX.fA z1K.fX.fB z1K.fX.fC z1K.fMem z1K.fAct.fKind z1K.fAct.fA z1K.fAct.fB z1K.fAct.fData),(25,(y2R (⟨(⟨i64 (zk.fPc + 1),zk.fLeft,zk.fRegs⟩ : Sproc_State),z1i.1,z1E,(⟨0,0,0,[]⟩ : Sproc_Act)⟩ : Sproc_execution)).bind fun z1L=>z2n z1L.fState.fPc z1L.fState.fLeft z1L.fState.fRegs.a0 z1L.fState.fRegs.a1 z1L.fState.fRegs.a2 z1L.fState.fRegs.a3 z1L.fX.fOp z1L.fX.fA z1L.fX.fB z1L.fX.fC z1L.fMem z1L.fAct.fKind z1L.fAct.fA z1L.fAct.fB z1L.fAct.fData)] z1i.1.fOp)
set_option maxRecDepth 20000 in
theorem y2d (Z : Zp) (zeG : Option Addr) (zeH : Nat) (zbI : Option Addr) (zbJ : Nat) (zbH : List Sapi_Ins) (zk : Sproc_State) (z1E : List Int) (r : Sproc_State × Sproc_Act)
  (h : y2A zbH zk z1E = some r) (w₀ : World) (hz : PZ [] w₀ Z)
  (hG0 : ZC Z ⟨0,0,none⟩ y67)
  (hG1 : ZS Z 1 (p74 Z) (some ⟨1,0,none⟩) 26 y17)
  (zoN : ZS Z 4 (fun r x=>r = e33 x) zeG zeH zbH)
  (z2C : ZS Z 1 (fun r x=>r = e5 x) zbI zbJ z1E) :
  Calls Tryd.prog 18 #[(.slice zeG zbH.length zeH),(.agg #[(.int .i64 zk.fPc),(.int .i64 zk.fLeft),(.int .u8 zk.fRegs.a0),(.int .u8 zk.fRegs.a1),(.int .u8 zk.fRegs.a2),(.int .u8 zk.fRegs.a3)]),(.slice zbI z1E.length zbJ)] w₀ fun e w'=>∃ Zn : Zp,∃ zk7 : Option Addr,∃ zk8 : Nat,e = .returned (.tuple #[(.agg #[(.int .i64 r.1.fPc),(.int .i64 r.1.fLeft),(.int .u8 r.1.fRegs.a0),(.int .u8 r.1.fRegs.a1),(.int .u8 r.1.fRegs.a2),(.int .u8 r.1.fRegs.a3)]),(.agg #[(.int .u8 r.2.fKind),(.int .i64 r.2.fA),(.int .i64 r.2.fB),(.slice zk7 r.2.fData.length zk8)])]) ∧ (ZS (Z ++ Zn) 1 (fun r x=>r = e5 x) zk7 zk8 r.2.fData) ∧ Hp [] w₀ w' [fz Zn]:=by
 unfold y2A at h
 refine Calls.y8 (vs:=[(.slice zeG zbH.length zeH),(.agg #[(.int .i64 zk.fPc),(.int .i64 zk.fLeft),(.int .u8 zk.fRegs.a0),(.int .u8 zk.fRegs.a1),(.int .u8 zk.fRegs.a2),(.int .u8 zk.fRegs.a3)]),(.slice zbI z1E.length zbJ)]) (pre:=[]) (env:=[(0,(.slice zeG zbH.length zeH)),(1,(.agg #[(.int .i64 zk.fPc),(.int .i64 zk.fLeft),(.int .u8 zk.fRegs.a0),(.int .u8 zk.fRegs.a1),(.int .u8 zk.fRegs.a2),(.int .u8 zk.fRegs.a3)])),(2,(.slice zbI z1E.length zbJ))]) Tryd.func18 rfl Tryd.ntmps18 rfl (Hp.nil w₀ _) rfl ?_
 refine WC.pool (WC.b (WC.a ?_))
 refine WL.new (dd:=4) rfl rfl rfl (y3m (cs:=[(.int .i64 zk.fPc),(.int .i64 zk.fLeft),(.int .u8 zk.fRegs.a0),(.int .u8 zk.fRegs.a1),(.int .u8 zk.fRegs.a2),(.int .u8 zk.fRegs.a3)]) rfl rfl) ?_
 intro zxh _
 refine WL.new (dd:=6) rfl rfl rfl (yE (cs:=[(.int .i64 0),(.int .i64 0),(.int .u8 0),(.int .u8 0),(.int .u8 0),(.int .u8 0)]) y1z rfl) ?_
 intro zk9 _
 refine WL.new (dd:=7) rfl rfl rfl (yE (cs:=[(.int .u8 0),(.int .i64 0),(.int .i64 0),(.slice none 0 0)]) y2g rfl) ?_
 intro zka _
 refine WL.nil (WX.a (WC.b ?_))
 obtain ⟨z1i,zoO,h⟩:=zd h
 refine WC.a (WL.pu rfl ?_)
 refine WL.a (d:=13) rfl rfl rfl (y4 y1c rfl rfl) ?_
 refine WL.a (d:=14) rfl rfl rfl (y5 yd rfl (yb .h2 rfl)) ?_
 refine WL.b (dd:=15) rfl rfl rfl (zl (l:=[.tmp 12,.tmp 14]) Tryd.call33 (.cons rfl (.cons rfl .nil))) .nil (ccz hz .nil .h3 fun w pz ho=>y4B _ _ _ _ _ _ zoO w pz ((hG1.mono (Zle.left _ _)).weak (fun _ _ h=>y12 (Zle.left _ _) h)) (zoN.mono (Zle.left _ _))) ?_
 refine WL.pu rfl (WL.pu rfl (WL.pu rfl ?_))
 refine WL.new (dd:=8) rfl rfl rfl (yE (cs:=[(.int .u8 0),(.int .i64 0),(.int .i64 0),(.int .i64 0)]) y3W rfl) ?_
 intro zxi _
 refine WL.yg rfl rfl (yu y3X rfl rfl rfl .here rfl rfl rfl) ?_
 refine WL.pu rfl (WL.nil (WX.a (WC.b (WC.b (WC.a (WL.pu rfl (WL.pu rfl (WL.nil (WX.a ?_)))))))))
 refine WC.cond rfl (fun zfW=>?_) (fun zfW=>?_)
 ·replace h:=yl h zfW
  refine WC.b (WC.a ?_)
  refine WL.a (d:=20) rfl rfl rfl (yV y13 rfl (yJ .h3) rfl) ?_
  refine WL.a (d:=21) rfl rfl rfl (yR (v:=(.agg #[(.int .u8 15),(.int .i64 5),(.int .i64 0),(.slice none 0 0)])) (Eos.parts (l:=[.const (.int .u8 15),.const (.int .i64 5)]) (.cons rfl (.cons rfl .nil)) [0,1]) (fun _=>by kernel_rfl)) ?_
  refine WL.yg rfl rfl (yu y1p rfl rfl rfl .h2 rfl rfl rfl) ?_
  refine WL.yg rfl rfl (yu y1g rfl rfl rfl .h2 rfl rfl rfl) ?_
  refine WL.nil (WX.a (WC.ret (WX.yf ?_)))
  obtain rfl:=Option.some.inj h
  refine WX.yh Tryd.results18 (.agg rfl y13 rfl (yJ .h1) (.agg rfl y35 rfl (yJ .here) .nil)) (fun w hw=>?_)
  exact ⟨[],none,0,y3T rfl rfl,(ZS.nil _ _ _),hw.sub (.cons .h4 .nil)⟩
 ·replace h:=ym h zfW
  refine WC.skip (WX.a (WC.b (WC.a ?_)))
  refine WL.a (d:=22) rfl rfl rfl (yV y13 rfl (yJ .h3) rfl) ?_
  refine WL.a (d:=23) rfl rfl rfl (yV y3p rfl (yJ .here) rfl) ?_
  refine WL.pu rfl ?_
  refine WL.a (d:=25) rfl rfl rfl (yR (v:=(.agg #[(.int .i64 zk.fPc),(.int .i64 zk.fLeft),(.int .u8 zk.fRegs.a0),(.int .u8 zk.fRegs.a1),(.int .u8 zk.fRegs.a2),(.int .u8 zk.fRegs.a3),(.int .u8 z1i.1.fOp),(.int .i64 z1i.1.fA),(.int .i64 z1i.1.fB),(.int .i64 z1i.1.fC),(.slice zbI z1E.length zbJ),(.int .u8 0),(.int .i64 0),(.int .i64 0),(.slice none 0 0)])) (Eos.parts (l:=[.tmp 22,.tmp 23,.tmp 24]) (.cons rfl (.cons rfl (.cons rfl .nil))) [0,1,2]) (fun _=>by kernel_rfl)) ?_
  refine WL.new (dd:=26) rfl rfl rfl (y3m (cs:=[(.int .i64 zk.fPc),(.int .i64 zk.fLeft),(.int .u8 zk.fRegs.a0),(.int .u8 zk.fRegs.a1),(.int .u8 zk.fRegs.a2),(.int .u8 zk.fRegs.a3),(.int .u8 z1i.1.fOp),(.int .i64 z1i.1.fA),(.int .i64 z1i.1.fB),(.int .i64 z1i.1.fC),(.slice zbI z1E.length zbJ),(.int .u8 0),(.int .i64 0),(.int .i64 0),(.slice none 0 0)]) rfl rfl) ?_
  intro zfX _
  refine WL.pu rfl (WL.nil (WX.a (WC.b (WC.a (WL.pu rfl ?_)))))
  refine WL.a (d:=28) rfl rfl rfl (y6 rfl) ?_
  refine WL.a (d:=29) rfl rfl rfl (y4 yI rfl rfl) ?_
  refine WL.a (d:=30) rfl rfl rfl (y4 y1c rfl rfl) ?_
  refine WL.a (d:=31) rfl rfl rfl (y5 yd rfl (yb .here rfl)) ?_
  refine WL.pu rfl ?_
  refine WL.a (d:=33) rfl rfl rfl (y6 rfl) ?_
  refine WL.a (d:=34) rfl rfl rfl (y4 yI rfl rfl) ?_
  refine WL.a (d:=35) rfl rfl rfl (y4 y1c rfl rfl) ?_
  refine WL.yg rfl rfl (yK (ds:=[(.int .i64 (i64 (zk.fPc + 1))),(.int .i64 zk.fLeft),(.int .u8 zk.fRegs.a0),(.int .u8 zk.fRegs.a1),(.int .u8 zk.fRegs.a2),(.int .u8 zk.fRegs.a3),(.int .u8 z1i.1.fOp),(.int .i64 z1i.1.fA),(.int .i64 z1i.1.fB),(.int .i64 z1i.1.fC),(.slice zbI z1E.length zbJ),(.int .u8 0),(.int .i64 0),(.int .i64 0),(.slice none 0 0)]) y20 rfl rfl rfl rfl rfl .here rfl rfl) ?_
  refine WL.nil (WX.a ?_)
  obtain ⟨z2n,zoP,h⟩:=y85 h
  refine WC.y7x (fun (z7n : Int) (z7o : Int) (z7p : Int) (z7q : Int) (z7r : Int) (z7s : Int) (zah : Int) (zai : Int) (zaj : Int) (zak : Int) (z8P : List Int) (z7t : Int) (z7u : Int) (z7v : Int) (z6z : List Int) (zal : Zp) (zdm : Option Addr) (zdn : Nat) (zam : Option Addr) (zan : Nat)=>(z2n z7n z7o z7p z7q z7r z7s zah zai zaj zak z8P z7t z7u z7v z6z = some r) ∧ (Zle (Z ++ []) (Z ++ zal)) ∧ (ZS (Z ++ zal) 1 (fun r x=>r = e5 x) zdm zdn z8P) ∧ (ZS (Z ++ zal) 1 (fun r x=>r = e5 x) zam zan z6z)) (fun (z7n : Int) (z7o : Int) (z7p : Int) (z7q : Int) (z7r : Int) (z7s : Int) (zah : Int) (zai : Int) (zaj : Int) (zak : Int) (z8P : List Int) (z7t : Int) (z7u : Int) (z7v : Int) (z6z : List Int) (zal : Zp) (zdm : Option Addr) (zdn : Nat) (zam : Option Addr) (zan : Nat)=>[(6,(.pointer (some ⟨zk9,0,none⟩))),(7,(.pointer (some ⟨zka,0,none⟩))),(10,(.pointer (some ⟨zfX,0,none⟩)))]) (fun (z7n : Int) (z7o : Int) (z7p : Int) (z7q : Int) (z7r : Int) (z7s : Int) (zah : Int) (zai : Int) (zaj : Int) (zak : Int) (z8P : List Int) (z7t : Int) (z7u : Int) (z7v : Int) (z6z : List Int) (zal : Zp) (zdm : Option Addr) (zdn : Nat) (zam : Option Addr) (zan : Nat)=>[fz zal,stb zk9 39 [(.int .i64 0),(.int .i64 0),(.int .u8 0),(.int .u8 0),(.int .u8 0),(.int .u8 0)],stb zka 41 [(.int .u8 0),(.int .i64 0),(.int .i64 0),(.slice none 0 0)],stb zfX 65 [(.int .i64 z7n),(.int .i64 z7o),(.int .u8 z7p),(.int .u8 z7q),(.int .u8 z7r),(.int .u8 z7s),(.int .u8 zah),(.int .i64 zai),(.int .i64 zaj),(.int .i64 zak),(.slice zdm z8P.length zdn),(.int .u8 z7t),(.int .i64 z7u),(.int .i64 z7v),(.slice zam z6z.length zan)]]) ?_ ?_
  ·skip
   obtain ⟨zoQ,h⟩:=ya h
   refine WC.a ?_
   refine WL.a (d:=36) rfl rfl rfl (y4 y2C rfl rfl) ?_
   refine WL.a (d:=37) rfl rfl rfl (y5 yB rfl (yb .h1 rfl)) ?_
   refine WL.a (d:=38) rfl rfl rfl (y2s arT_67 rfl rfl zoQ rfl) ?_
   rcases yp h with ⟨zoR,h⟩ | h
   ·skip
    obtain ⟨z1N,zoS,h⟩:=zd h
    refine WL.a (d:=39) rfl rfl rfl (y5 yq rfl (yx (k:=1) (hz.pv2 .h5) (hG0.mono (Zle.left _ _)) zoR rfl)) ?_
    refine WL.pu rfl ?_
    refine WL.yw (dd:=41) rfl rfl rfl (ye (l:=[.tmp 40]) Tryd.call84 rfl (.cons rfl .nil)) (.cons .here .nil) (ccz hz (.cons .here .nil) .h4 fun w pz ho=>y52 _ _ _ _ _ _ _ _ zoS w pz (z2C.mono (Zle.left _ _)) (ZS.nil _ _ _) ho) ?_
    rintro zoT zoU zoV zoW ⟨zoX,zoY⟩
    refine WL.nil ?_
    exact WX.mid (G:=Int × Int × Int × Int × Int × Int × Int × Int × Int × Int × List Int × Int × Int × Int × List Int × Zp × Option Addr × Nat × Option Addr × Nat) ⟨z1N.fState.fPc,z1N.fState.fLeft,z1N.fState.fRegs.a0,z1N.fState.fRegs.a1,z1N.fState.fRegs.a2,z1N.fState.fRegs.a3,z1N.fX.fOp,z1N.fX.fA,z1N.fX.fB,z1N.fX.fC,z1N.fMem,z1N.fAct.fKind,z1N.fAct.fA,z1N.fAct.fB,z1N.fAct.fData,[],zoT,zoU,zoV,zoW⟩ ⟨h,(Zle.refl _),zoX,zoY⟩ (.cons rfl (.cons rfl (.cons rfl .nil))) (.cons .h5 (.cons .h3 (.cons .h2 (.cons .here .nil))))
   rcases yp h with ⟨zoZ,h⟩ | h
   ·skip
    obtain ⟨z1O,zp0,h⟩:=zd h
    refine WL.a (d:=39) rfl rfl rfl (y5 yq rfl (yx (k:=2) (hz.pv2 .h5) (hG0.mono (Zle.left _ _)) zoZ rfl)) ?_
    refine WL.pu rfl ?_
    refine WL.yw (dd:=41) rfl rfl rfl (ye (l:=[.tmp 40]) Tryd.call85 rfl (.cons rfl .nil)) (.cons .here .nil) (ccz hz (.cons .here .nil) .h4 fun w pz ho=>y5x _ _ _ _ _ _ _ _ zp0 w pz (z2C.mono (Zle.left _ _)) (ZS.nil _ _ _) ho) ?_
    rintro zp1 zp2 zp3 zp4 ⟨zp5,zp6⟩
    refine WL.nil ?_
    exact WX.mid (G:=Int × Int × Int × Int × Int × Int × Int × Int × Int × Int × List Int × Int × Int × Int × List Int × Zp × Option Addr × Nat × Option Addr × Nat) ⟨z1O.fState.fPc,z1O.fState.fLeft,z1O.fState.fRegs.a0,z1O.fState.fRegs.a1,z1O.fState.fRegs.a2,z1O.fState.fRegs.a3,z1O.fX.fOp,z1O.fX.fA,z1O.fX.fB,z1O.fX.fC,z1O.fMem,z1O.fAct.fKind,z1O.fAct.fA,z1O.fAct.fB,z1O.fAct.fData,[],zp1,zp2,zp3,zp4⟩ ⟨h,(Zle.refl _),zp5,zp6⟩ (.cons rfl (.cons rfl (.cons rfl .nil))) (.cons .h5 (.cons .h3 (.cons .h2 (.cons .here .nil))))
   rcases yp h with ⟨zp7,h⟩ | h
   ·skip
    obtain ⟨z1P,zp8,h⟩:=zd h
    refine WL.a (d:=39) rfl rfl rfl (y5 yq rfl (yx (k:=3) (hz.pv2 .h5) (hG0.mono (Zle.left _ _)) zp7 rfl)) ?_
    refine WL.pu rfl ?_
    refine WL.yw (dd:=41) rfl rfl rfl (ye (l:=[.tmp 40]) Tryd.call82 rfl (.cons rfl .nil)) (.cons .here .nil) (ccz hz (.cons .here .nil) .h4 fun w pz ho=>y5y _ _ _ _ _ _ _ _ zp8 w pz (z2C.mono (Zle.left _ _)) (ZS.nil _ _ _) ho) ?_
    rintro zp9 zpa zpb zpc ⟨zpd,zpe⟩
    refine WL.nil ?_
    exact WX.mid (G:=Int × Int × Int × Int × Int × Int × Int × Int × Int × Int × List Int × Int × Int × Int × List Int × Zp × Option Addr × Nat × Option Addr × Nat) ⟨z1P.fState.fPc,z1P.fState.fLeft,z1P.fState.fRegs.a0,z1P.fState.fRegs.a1,z1P.fState.fRegs.a2,z1P.fState.fRegs.a3,z1P.fX.fOp,z1P.fX.fA,z1P.fX.fB,z1P.fX.fC,z1P.fMem,z1P.fAct.fKind,z1P.fAct.fA,z1P.fAct.fB,z1P.fAct.fData,[],zp9,zpa,zpb,zpc⟩ ⟨h,(Zle.refl _),zpd,zpe⟩ (.cons rfl (.cons rfl (.cons rfl .nil))) (.cons .h5 (.cons .h3 (.cons .h2 (.cons .here .nil))))
   rcases yp h with ⟨zpf,h⟩ | h
   ·skip
    obtain ⟨z1Q,zpg,h⟩:=zd h
    refine WL.a (d:=39) rfl rfl rfl (y5 yq rfl (yx (k:=4) (hz.pv2 .h5) (hG0.mono (Zle.left _ _)) zpf rfl)) ?_
    refine WL.pu rfl ?_
    refine WL.yw (dd:=41) rfl rfl rfl (ye (l:=[.tmp 40]) Tryd.call86 rfl (.cons rfl .nil)) (.cons .here .nil) (ccz hz (.cons .here .nil) .h4 fun w pz ho=>y5z _ _ _ _ _ _ _ _ zpg w pz (z2C.mono (Zle.left _ _)) (ZS.nil _ _ _) ho) ?_
    rintro zph zpi zpj zpk ⟨zpl,zpm⟩
    refine WL.nil ?_
    exact WX.mid (G:=Int × Int × Int × Int × Int × Int × Int × Int × Int × Int × List Int × Int × Int × Int × List Int × Zp × Option Addr × Nat × Option Addr × Nat) ⟨z1Q.fState.fPc,z1Q.fState.fLeft,z1Q.fState.fRegs.a0,z1Q.fState.fRegs.a1,z1Q.fState.fRegs.a2,z1Q.fState.fRegs.a3,z1Q.fX.fOp,z1Q.fX.fA,z1Q.fX.fB,z1Q.fX.fC,z1Q.fMem,z1Q.fAct.fKind,z1Q.fAct.fA,z1Q.fAct.fB,z1Q.fAct.fData,[],zph,zpi,zpj,zpk⟩ ⟨h,(Zle.refl _),zpl,zpm⟩ (.cons rfl (.cons rfl (.cons rfl .nil))) (.cons .h5 (.cons .h3 (.cons .h2 (.cons .here .nil))))
   rcases yp h with ⟨zpn,h⟩ | h
   ·skip
    obtain ⟨z1R,zpo,h⟩:=zd h
    refine WL.a (d:=39) rfl rfl rfl (y5 yq rfl (yx (k:=5) (hz.pv2 .h5) (hG0.mono (Zle.left _ _)) zpn rfl)) ?_
    refine WL.pu rfl ?_
    refine WL.y2T (dd:=41) rfl rfl rfl (ye (l:=[.tmp 40]) Tryd.call87 rfl (.cons rfl .nil)) (.cons .here .nil) (ccz hz (.cons .here .nil) .h4 fun w pz ho=>y53 _ _ _ _ _ _ _ _ zpo w pz (z2C.mono (Zle.left _ _)) (ZS.nil _ _ _) ho) ?_
    rintro zpp zpq zpr zps zpt ⟨zpu,zpv⟩
    refine WL.merge .here .h5 ?_
    refine WL.nil ?_
    exact WX.mid (G:=Int × Int × Int × Int × Int × Int × Int × Int × Int × Int × List Int × Int × Int × Int × List Int × Zp × Option Addr × Nat × Option Addr × Nat) ⟨z1R.fState.fPc,z1R.fState.fLeft,z1R.fState.fRegs.a0,z1R.fState.fRegs.a1,z1R.fState.fRegs.a2,z1R.fState.fRegs.a3,z1R.fX.fOp,z1R.fX.fA,z1R.fX.fB,z1R.fX.fC,z1R.fMem,z1R.fAct.fKind,z1R.fAct.fA,z1R.fAct.fB,z1R.fAct.fData,([] ++ zpp),zpq,zpr,zps,zpt⟩ ⟨h,((Zle.left _ _).trans (Zle.y7 _ _ _)),(zpu.mono (Zle.y7 _ _ _)),(zpv.mono (Zle.y7 _ _ _))⟩ (.cons rfl (.cons rfl (.cons rfl .nil))) (.cons .here (.cons .h3 (.cons .h2 (.cons .here .nil))))
   rcases yp h with ⟨zpw,h⟩ | h
   ·skip
    obtain ⟨z1S,zpx,h⟩:=zd h
    refine WL.a (d:=39) rfl rfl rfl (y5 yq rfl (yx (k:=6) (hz.pv2 .h5) (hG0.mono (Zle.left _ _)) zpw rfl)) ?_
    refine WL.pu rfl ?_
    refine WL.y2T (dd:=41) rfl rfl rfl (ye (l:=[.tmp 40]) Tryd.call88 rfl (.cons rfl .nil)) (.cons .here .nil) (ccz hz (.cons .here .nil) .h4 fun w pz ho=>y4D _ _ _ _ _ _ _ _ zpx w pz (z2C.mono (Zle.left _ _)) (ZS.nil _ _ _) ho) ?_
    rintro zpy zpz zpA zpB zpC ⟨zpD,zpE⟩
    refine WL.merge .here .h5 ?_
    refine WL.nil ?_
    exact WX.mid (G:=Int × Int × Int × Int × Int × Int × Int × Int × Int × Int × List Int × Int × Int × Int × List Int × Zp × Option Addr × Nat × Option Addr × Nat) ⟨z1S.fState.fPc,z1S.fState.fLeft,z1S.fState.fRegs.a0,z1S.fState.fRegs.a1,z1S.fState.fRegs.a2,z1S.fState.fRegs.a3,z1S.fX.fOp,z1S.fX.fA,z1S.fX.fB,z1S.fX.fC,z1S.fMem,z1S.fAct.fKind,z1S.fAct.fA,z1S.fAct.fB,z1S.fAct.fData,([] ++ zpy),zpz,zpA,zpB,zpC⟩ ⟨h,((Zle.left _ _).trans (Zle.y7 _ _ _)),(zpD.mono (Zle.y7 _ _ _)),(zpE.mono (Zle.y7 _ _ _))⟩ (.cons rfl (.cons rfl (.cons rfl .nil))) (.cons .here (.cons .h3 (.cons .h2 (.cons .here .nil))))
   rcases yp h with ⟨zpF,h⟩ | h
   ·skip
    obtain ⟨z1T,zpG,h⟩:=zd h
    refine WL.a (d:=39) rfl rfl rfl (y5 yq rfl (yx (k:=7) (hz.pv2 .h5) (hG0.mono (Zle.left _ _)) zpF rfl)) ?_
    refine WL.pu rfl ?_
    refine WL.y2T (dd:=41) rfl rfl rfl (ye (l:=[.tmp 40]) Tryd.call89 rfl (.cons rfl .nil)) (.cons .here .nil) (ccz hz (.cons .here .nil) .h4 fun w pz ho=>y54 _ _ _ _ _ _ _ _ zpG w pz (z2C.mono (Zle.left _ _)) (ZS.nil _ _ _) ho) ?_
    rintro zpH zpI zpJ zpK zpL ⟨zpM,zpN⟩
    refine WL.merge .here .h5 ?_
    refine WL.nil ?_
    exact WX.mid (G:=Int × Int × Int × Int × Int × Int × Int × Int × Int × Int × List Int × Int × Int × Int × List Int × Zp × Option Addr × Nat × Option Addr × Nat) ⟨z1T.fState.fPc,z1T.fState.fLeft,z1T.fState.fRegs.a0,z1T.fState.fRegs.a1,z1T.fState.fRegs.a2,z1T.fState.fRegs.a3,z1T.fX.fOp,z1T.fX.fA,z1T.fX.fB,z1T.fX.fC,z1T.fMem,z1T.fAct.fKind,z1T.fAct.fA,z1T.fAct.fB,z1T.fAct.fData,([] ++ zpH),zpI,zpJ,zpK,zpL⟩ ⟨h,((Zle.left _ _).trans (Zle.y7 _ _ _)),(zpM.mono (Zle.y7 _ _ _)),(zpN.mono (Zle.y7 _ _ _))⟩ (.cons rfl (.cons rfl (.cons rfl .nil))) (.cons .here (.cons .h3 (.cons .h2 (.cons .here .nil))))
   rcases yp h with ⟨zpO,h⟩ | h
   ·skip
    obtain ⟨z1U,zpP,h⟩:=zd h
    refine WL.a (d:=39) rfl rfl rfl (y5 yq rfl (yx (k:=8) (hz.pv2 .h5) (hG0.mono (Zle.left _ _)) zpO rfl)) ?_
    refine WL.pu rfl ?_
    refine WL.yw (dd:=41) rfl rfl rfl (ye (l:=[.tmp 40]) Tryd.call90 rfl (.cons rfl .nil)) (.cons .here .nil) (ccz hz (.cons .here .nil) .h4 fun w pz ho=>y55 _ _ _ _ _ _ _ _ zpP w pz (z2C.mono (Zle.left _ _)) (ZS.nil _ _ _) ho) ?_
    rintro zpQ zpR zpS zpT ⟨zpU,zpV⟩
    refine WL.nil ?_
    exact WX.mid (G:=Int × Int × Int × Int × Int × Int × Int × Int × Int × Int × List Int × Int × Int × Int × List Int × Zp × Option Addr × Nat × Option Addr × Nat) ⟨z1U.fState.fPc,z1U.fState.fLeft,z1U.fState.fRegs.a0,z1U.fState.fRegs.a1,z1U.fState.fRegs.a2,z1U.fState.fRegs.a3,z1U.fX.fOp,z1U.fX.fA,z1U.fX.fB,z1U.fX.fC,z1U.fMem,z1U.fAct.fKind,z1U.fAct.fA,z1U.fAct.fB,z1U.fAct.fData,[],zpQ,zpR,zpS,zpT⟩ ⟨h,(Zle.refl _),zpU,zpV⟩ (.cons rfl (.cons rfl (.cons rfl .nil))) (.cons .h5 (.cons .h3 (.cons .h2 (.cons .here .nil))))
   rcases yp h with ⟨zpW,h⟩ | h
   ·skip
    obtain ⟨z1V,zpX,h⟩:=zd h
    refine WL.a (d:=39) rfl rfl rfl (y5 yq rfl (yx (k:=9) (hz.pv2 .h5) (hG0.mono (Zle.left _ _)) zpW rfl)) ?_
    refine WL.pu rfl ?_
    refine WL.yw (dd:=41) rfl rfl rfl (ye (l:=[.tmp 40]) Tryd.call91 rfl (.cons rfl .nil)) (.cons .here .nil) (ccz hz (.cons .here .nil) .h4 fun w pz ho=>y56 _ _ _ _ _ _ _ _ zpX w pz (z2C.mono (Zle.left _ _)) (ZS.nil _ _ _) ho) ?_
    rintro zpY zpZ zq0 zq1 ⟨zq2,zq3⟩
    refine WL.nil ?_
    exact WX.mid (G:=Int × Int × Int × Int × Int × Int × Int × Int × Int × Int × List Int × Int × Int × Int × List Int × Zp × Option Addr × Nat × Option Addr × Nat) ⟨z1V.fState.fPc,z1V.fState.fLeft,z1V.fState.fRegs.a0,z1V.fState.fRegs.a1,z1V.fState.fRegs.a2,z1V.fState.fRegs.a3,z1V.fX.fOp,z1V.fX.fA,z1V.fX.fB,z1V.fX.fC,z1V.fMem,z1V.fAct.fKind,z1V.fAct.fA,z1V.fAct.fB,z1V.fAct.fData,[],zpY,zpZ,zq0,zq1⟩ ⟨h,(Zle.refl _),zq2,zq3⟩ (.cons rfl (.cons rfl (.cons rfl .nil))) (.cons .h5 (.cons .h3 (.cons .h2 (.cons .here .nil))))
   rcases yp h with ⟨zq4,h⟩ | h
   ·skip
    obtain ⟨z1W,zq5,h⟩:=zd h
    refine WL.a (d:=39) rfl rfl rfl (y5 yq rfl (yx (k:=10) (hz.pv2 .h5) (hG0.mono (Zle.left _ _)) zq4 rfl)) ?_
    refine WL.pu rfl ?_
    refine WL.yw (dd:=41) rfl rfl rfl (ye (l:=[.tmp 40]) Tryd.call92 rfl (.cons rfl .nil)) (.cons .here .nil) (ccz hz (.cons .here .nil) .h4 fun w pz ho=>y4m _ _ _ _ _ _ _ _ zq5 w pz (z2C.mono (Zle.left _ _)) (ZS.nil _ _ _) ho) ?_
    rintro zq6 zq7 zq8 zq9 ⟨zqa,zqb⟩
    refine WL.nil ?_
    exact WX.mid (G:=Int × Int × Int × Int × Int × Int × Int × Int × Int × Int × List Int × Int × Int × Int × List Int × Zp × Option Addr × Nat × Option Addr × Nat) ⟨z1W.fState.fPc,z1W.fState.fLeft,z1W.fState.fRegs.a0,z1W.fState.fRegs.a1,z1W.fState.fRegs.a2,z1W.fState.fRegs.a3,z1W.fX.fOp,z1W.fX.fA,z1W.fX.fB,z1W.fX.fC,z1W.fMem,z1W.fAct.fKind,z1W.fAct.fA,z1W.fAct.fB,z1W.fAct.fData,[],zq6,zq7,zq8,zq9⟩ ⟨h,(Zle.refl _),zqa,zqb⟩ (.cons rfl (.cons rfl (.cons rfl .nil))) (.cons .h5 (.cons .h3 (.cons .h2 (.cons .here .nil))))
   rcases yp h with ⟨zqc,h⟩ | h
   ·skip
    obtain ⟨z1X,zqd,h⟩:=zd h
    refine WL.a (d:=39) rfl rfl rfl (y5 yq rfl (yx (k:=11) (hz.pv2 .h5) (hG0.mono (Zle.left _ _)) zqc rfl)) ?_
    refine WL.pu rfl ?_
    refine WL.yw (dd:=41) rfl rfl rfl (ye (l:=[.tmp 40]) Tryd.call93 rfl (.cons rfl .nil)) (.cons .here .nil) (ccz hz (.cons .here .nil) .h4 fun w pz ho=>y4E _ _ _ _ _ _ _ _ zqd w pz (z2C.mono (Zle.left _ _)) (ZS.nil _ _ _) ho) ?_
    rintro zqe zqf zqg zqh ⟨zqi,zqj⟩
    refine WL.nil ?_
    exact WX.mid (G:=Int × Int × Int × Int × Int × Int × Int × Int × Int × Int × List Int × Int × Int × Int × List Int × Zp × Option Addr × Nat × Option Addr × Nat) ⟨z1X.fState.fPc,z1X.fState.fLeft,z1X.fState.fRegs.a0,z1X.fState.fRegs.a1,z1X.fState.fRegs.a2,z1X.fState.fRegs.a3,z1X.fX.fOp,z1X.fX.fA,z1X.fX.fB,z1X.fX.fC,z1X.fMem,z1X.fAct.fKind,z1X.fAct.fA,z1X.fAct.fB,z1X.fAct.fData,[],zqe,zqf,zqg,zqh⟩ ⟨h,(Zle.refl _),zqi,zqj⟩ (.cons rfl (.cons rfl (.cons rfl .nil))) (.cons .h5 (.cons .h3 (.cons .h2 (.cons .here .nil))))
   rcases yp h with ⟨zqk,h⟩ | h
   ·skip
    obtain ⟨z1Y,zql,h⟩:=zd h
    refine WL.a (d:=39) rfl rfl rfl (y5 yq rfl (yx (k:=12) (hz.pv2 .h5) (hG0.mono (Zle.left _ _)) zqk rfl)) ?_
    refine WL.pu rfl ?_
    refine WL.yw (dd:=41) rfl rfl rfl (ye (l:=[.tmp 40]) Tryd.call94 rfl (.cons rfl .nil)) (.cons .here .nil) (ccz hz (.cons .here .nil) .h4 fun w pz ho=>y4F _ _ _ _ _ _ _ _ zql w pz (z2C.mono (Zle.left _ _)) (ZS.nil _ _ _) ho) ?_
    rintro zqm zqn zqo zqp ⟨zqq,zqr⟩
    refine WL.nil ?_
    exact WX.mid (G:=Int × Int × Int × Int × Int × Int × Int × Int × Int × Int × List Int × Int × Int × Int × List Int × Zp × Option Addr × Nat × Option Addr × Nat) ⟨z1Y.fState.fPc,z1Y.fState.fLeft,z1Y.fState.fRegs.a0,z1Y.fState.fRegs.a1,z1Y.fState.fRegs.a2,z1Y.fState.fRegs.a3,z1Y.fX.fOp,z1Y.fX.fA,z1Y.fX.fB,z1Y.fX.fC,z1Y.fMem,z1Y.fAct.fKind,z1Y.fAct.fA,z1Y.fAct.fB,z1Y.fAct.fData,[],zqm,zqn,zqo,zqp⟩ ⟨h,(Zle.refl _),zqq,zqr⟩ (.cons rfl (.cons rfl (.cons rfl .nil))) (.cons .h5 (.cons .h3 (.cons .h2 (.cons .here .nil))))
   rcases yp h with ⟨zqs,h⟩ | h
   ·skip
    obtain ⟨z1Z,zqt,h⟩:=zd h
    refine WL.a (d:=39) rfl rfl rfl (y5 yq rfl (yx (k:=13) (hz.pv2 .h5) (hG0.mono (Zle.left _ _)) zqs rfl)) ?_
    refine WL.pu rfl ?_
    refine WL.yw (dd:=41) rfl rfl rfl (ye (l:=[.tmp 40]) Tryd.call95 rfl (.cons rfl .nil)) (.cons .here .nil) (ccz hz (.cons .here .nil) .h4 fun w pz ho=>y4G _ _ _ _ _ _ _ _ zqt w pz (z2C.mono (Zle.left _ _)) (ZS.nil _ _ _) ho) ?_
    rintro zqu zqv zqw zqx ⟨zqy,zqz⟩
    refine WL.nil ?_
    exact WX.mid (G:=Int × Int × Int × Int × Int × Int × Int × Int × Int × Int × List Int × Int × Int × Int × List Int × Zp × Option Addr × Nat × Option Addr × Nat) ⟨z1Z.fState.fPc,z1Z.fState.fLeft,z1Z.fState.fRegs.a0,z1Z.fState.fRegs.a1,z1Z.fState.fRegs.a2,z1Z.fState.fRegs.a3,z1Z.fX.fOp,z1Z.fX.fA,z1Z.fX.fB,z1Z.fX.fC,z1Z.fMem,z1Z.fAct.fKind,z1Z.fAct.fA,z1Z.fAct.fB,z1Z.fAct.fData,[],zqu,zqv,zqw,zqx⟩ ⟨h,(Zle.refl _),zqy,zqz⟩ (.cons rfl (.cons rfl (.cons rfl .nil))) (.cons .h5 (.cons .h3 (.cons .h2 (.cons .here .nil))))
   rcases yp h with ⟨zqA,h⟩ | h
   ·skip
    obtain ⟨z20,zqB,h⟩:=zd h
    refine WL.a (d:=39) rfl rfl rfl (y5 yq rfl (yx (k:=14) (hz.pv2 .h5) (hG0.mono (Zle.left _ _)) zqA rfl)) ?_
    refine WL.pu rfl ?_
    refine WL.y2T (dd:=41) rfl rfl rfl (ye (l:=[.tmp 40]) Tryd.call96 rfl (.cons rfl .nil)) (.cons .here .nil) (ccz hz (.cons .here .nil) .h4 fun w pz ho=>y5B _ _ _ _ _ _ _ _ zqB w pz (z2C.mono (Zle.left _ _)) (ZS.nil _ _ _) ho) ?_
    rintro zqC zqD zqE zqF zqG ⟨zqH,zqI⟩
    refine WL.merge .here .h5 ?_
    refine WL.nil ?_
    exact WX.mid (G:=Int × Int × Int × Int × Int × Int × Int × Int × Int × Int × List Int × Int × Int × Int × List Int × Zp × Option Addr × Nat × Option Addr × Nat) ⟨z20.fState.fPc,z20.fState.fLeft,z20.fState.fRegs.a0,z20.fState.fRegs.a1,z20.fState.fRegs.a2,z20.fState.fRegs.a3,z20.fX.fOp,z20.fX.fA,z20.fX.fB,z20.fX.fC,z20.fMem,z20.fAct.fKind,z20.fAct.fA,z20.fAct.fB,z20.fAct.fData,([] ++ zqC),zqD,zqE,zqF,zqG⟩ ⟨h,((Zle.left _ _).trans (Zle.y7 _ _ _)),(zqH.mono (Zle.y7 _ _ _)),(zqI.mono (Zle.y7 _ _ _))⟩ (.cons rfl (.cons rfl (.cons rfl .nil))) (.cons .here (.cons .h3 (.cons .h2 (.cons .here .nil))))
   rcases yp h with ⟨zqJ,h⟩ | h
   ·skip
    obtain ⟨z21,zqK,h⟩:=zd h
    refine WL.a (d:=39) rfl rfl rfl (y5 yq rfl (yx (k:=15) (hz.pv2 .h5) (hG0.mono (Zle.left _ _)) zqJ rfl)) ?_
    refine WL.pu rfl ?_
    refine WL.yw (dd:=41) rfl rfl rfl (ye (l:=[.tmp 40]) Tryd.call97 rfl (.cons rfl .nil)) (.cons .here .nil) (ccz hz (.cons .here .nil) .h4 fun w pz ho=>y5C _ _ _ _ _ _ _ _ zqK w pz (z2C.mono (Zle.left _ _)) (ZS.nil _ _ _) ho) ?_
    rintro zqL zqM zqN zqO ⟨zqP,zqQ⟩
    refine WL.nil ?_
    exact WX.mid (G:=Int × Int × Int × Int × Int × Int × Int × Int × Int × Int × List Int × Int × Int × Int × List Int × Zp × Option Addr × Nat × Option Addr × Nat) ⟨z21.fState.fPc,z21.fState.fLeft,z21.fState.fRegs.a0,z21.fState.fRegs.a1,z21.fState.fRegs.a2,z21.fState.fRegs.a3,z21.fX.fOp,z21.fX.fA,z21.fX.fB,z21.fX.fC,z21.fMem,z21.fAct.fKind,z21.fAct.fA,z21.fAct.fB,z21.fAct.fData,[],zqL,zqM,zqN,zqO⟩ ⟨h,(Zle.refl _),zqP,zqQ⟩ (.cons rfl (.cons rfl (.cons rfl .nil))) (.cons .h5 (.cons .h3 (.cons .h2 (.cons .here .nil))))
   rcases yp h with ⟨zqR,h⟩ | h
   ·skip
    obtain ⟨z22,zqS,h⟩:=zd h
    refine WL.a (d:=39) rfl rfl rfl (y5 yq rfl (yx (k:=16) (hz.pv2 .h5) (hG0.mono (Zle.left _ _)) zqR rfl)) ?_
    refine WL.pu rfl ?_
    refine WL.y2T (dd:=41) rfl rfl rfl (ye (l:=[.tmp 40]) Tryd.call98 rfl (.cons rfl .nil)) (.cons .here .nil) (ccz hz (.cons .here .nil) .h4 fun w pz ho=>y57 _ _ _ _ _ _ _ _ zqS w pz (z2C.mono (Zle.left _ _)) (ZS.nil _ _ _) ho) ?_
    rintro zqT zqU zqV zqW zqX ⟨zqY,zqZ⟩
    refine WL.merge .here .h5 ?_
    refine WL.nil ?_
    exact WX.mid (G:=Int × Int × Int × Int × Int × Int × Int × Int × Int × Int × List Int × Int × Int × Int × List Int × Zp × Option Addr × Nat × Option Addr × Nat) ⟨z22.fState.fPc,z22.fState.fLeft,z22.fState.fRegs.a0,z22.fState.fRegs.a1,z22.fState.fRegs.a2,z22.fState.fRegs.a3,z22.fX.fOp,z22.fX.fA,z22.fX.fB,z22.fX.fC,z22.fMem,z22.fAct.fKind,z22.fAct.fA,z22.fAct.fB,z22.fAct.fData,([] ++ zqT),zqU,zqV,zqW,zqX⟩ ⟨h,((Zle.left _ _).trans (Zle.y7 _ _ _)),(zqY.mono (Zle.y7 _ _ _)),(zqZ.mono (Zle.y7 _ _ _))⟩ (.cons rfl (.cons rfl (.cons rfl .nil))) (.cons .here (.cons .h3 (.cons .h2 (.cons .here .nil))))
   rcases yp h with ⟨zr0,h⟩ | h
   ·skip
    obtain ⟨z23,zr1,h⟩:=zd h
    refine WL.a (d:=39) rfl rfl rfl (y5 yq rfl (yx (k:=17) (hz.pv2 .h5) (hG0.mono (Zle.left _ _)) zr0 rfl)) ?_
    refine WL.pu rfl ?_
    refine WL.yw (dd:=41) rfl rfl rfl (ye (l:=[.tmp 40]) Tryd.call99 rfl (.cons rfl .nil)) (.cons .here .nil) (ccz hz (.cons .here .nil) .h4 fun w pz ho=>y58 _ _ _ _ _ _ _ _ zr1 w pz (z2C.mono (Zle.left _ _)) (ZS.nil _ _ _) ho) ?_
    rintro zr2 zr3 zr4 zr5 ⟨zr6,zr7⟩
    refine WL.nil ?_
    exact WX.mid (G:=Int × Int × Int × Int × Int × Int × Int × Int × Int × Int × List Int × Int × Int × Int × List Int × Zp × Option Addr × Nat × Option Addr × Nat) ⟨z23.fState.fPc,z23.fState.fLeft,z23.fState.fRegs.a0,z23.fState.fRegs.a1,z23.fState.fRegs.a2,z23.fState.fRegs.a3,z23.fX.fOp,z23.fX.fA,z23.fX.fB,z23.fX.fC,z23.fMem,z23.fAct.fKind,z23.fAct.fA,z23.fAct.fB,z23.fAct.fData,[],zr2,zr3,zr4,zr5⟩ ⟨h,(Zle.refl _),zr6,zr7⟩ (.cons rfl (.cons rfl (.cons rfl .nil))) (.cons .h5 (.cons .h3 (.cons .h2 (.cons .here .nil))))
   rcases yp h with ⟨zr8,h⟩ | h
   ·skip
    obtain ⟨z24,zr9,h⟩:=zd h
    refine WL.a (d:=39) rfl rfl rfl (y5 yq rfl (yx (k:=18) (hz.pv2 .h5) (hG0.mono (Zle.left _ _)) zr8 rfl)) ?_
    refine WL.pu rfl ?_
    refine WL.yw (dd:=41) rfl rfl rfl (ye (l:=[.tmp 40]) Tryd.call100 rfl (.cons rfl .nil)) (.cons .here .nil) (ccz hz (.cons .here .nil) .h4 fun w pz ho=>y4H _ _ _ _ _ _ _ _ zr9 w pz (z2C.mono (Zle.left _ _)) (ZS.nil _ _ _) ho) ?_
    rintro zra zrb zrc zrd ⟨zre,zrf⟩
    refine WL.nil ?_
    exact WX.mid (G:=Int × Int × Int × Int × Int × Int × Int × Int × Int × Int × List Int × Int × Int × Int × List Int × Zp × Option Addr × Nat × Option Addr × Nat) ⟨z24.fState.fPc,z24.fState.fLeft,z24.fState.fRegs.a0,z24.fState.fRegs.a1,z24.fState.fRegs.a2,z24.fState.fRegs.a3,z24.fX.fOp,z24.fX.fA,z24.fX.fB,z24.fX.fC,z24.fMem,z24.fAct.fKind,z24.fAct.fA,z24.fAct.fB,z24.fAct.fData,[],zra,zrb,zrc,zrd⟩ ⟨h,(Zle.refl _),zre,zrf⟩ (.cons rfl (.cons rfl (.cons rfl .nil))) (.cons .h5 (.cons .h3 (.cons .h2 (.cons .here .nil))))
   rcases yp h with ⟨zrg,h⟩ | h
   ·skip
    obtain ⟨z1J,zrh,h⟩:=zd h
    refine WL.a (d:=39) rfl rfl rfl (y5 yq rfl (yx (k:=19) (hz.pv2 .h5) (hG0.mono (Zle.left _ _)) zrg rfl)) ?_
    refine WL.pu rfl ?_
    refine WL.yw (dd:=41) rfl rfl rfl (ye (l:=[.tmp 40]) Tryd.call101 rfl (.cons rfl .nil)) (.cons .here .nil) (ccz hz (.cons .here .nil) .h4 fun w pz ho=>y59 _ _ _ _ _ _ _ _ zrh w pz (z2C.mono (Zle.left _ _)) (ZS.nil _ _ _) ho) ?_
    rintro zri zrj zrk zrl zrm
    refine WL.nil ?_
    refine WX.freezeS (ls:=z1J.fAct.fData) .h1 .h5 hz (RR.y1b (enc:=e5) (fun _=>rfl) _) ?_
    intro zrn zkb zro
    exact WX.mid (G:=Int × Int × Int × Int × Int × Int × Int × Int × Int × Int × List Int × Int × Int × Int × List Int × Zp × Option Addr × Nat × Option Addr × Nat) ⟨z1J.fState.fPc,z1J.fState.fLeft,z1J.fState.fRegs.a0,z1J.fState.fRegs.a1,z1J.fState.fRegs.a2,z1J.fState.fRegs.a3,z1J.fX.fOp,z1J.fX.fA,z1J.fX.fB,z1J.fX.fC,z1J.fMem,z1J.fAct.fKind,z1J.fAct.fA,z1J.fAct.fB,z1J.fAct.fData,zrn,zri,zrj,zrk,zrl⟩ ⟨h,zkb,(zrm.mono zkb),zro⟩ (.cons rfl (.cons rfl (.cons rfl .nil))) (.cons .here (.cons .h3 (.cons .h2 (.cons .here .nil))))
   rcases yp h with ⟨zrp,h⟩ | h
   ·skip
    obtain ⟨z25,zrq,h⟩:=zd h
    refine WL.a (d:=39) rfl rfl rfl (y5 yq rfl (yx (k:=20) (hz.pv2 .h5) (hG0.mono (Zle.left _ _)) zrp rfl)) ?_
    refine WL.pu rfl ?_
    refine WL.yw (dd:=41) rfl rfl rfl (ye (l:=[.tmp 40]) Tryd.call102 rfl (.cons rfl .nil)) (.cons .here .nil) (ccz hz (.cons .here .nil) .h4 fun w pz ho=>y5a _ _ _ _ _ _ _ _ zrq w pz (z2C.mono (Zle.left _ _)) (ZS.nil _ _ _) ho) ?_
    rintro zrr zrs zrt zru ⟨zrv,zrw⟩
    refine WL.nil ?_
    exact WX.mid (G:=Int × Int × Int × Int × Int × Int × Int × Int × Int × Int × List Int × Int × Int × Int × List Int × Zp × Option Addr × Nat × Option Addr × Nat) ⟨z25.fState.fPc,z25.fState.fLeft,z25.fState.fRegs.a0,z25.fState.fRegs.a1,z25.fState.fRegs.a2,z25.fState.fRegs.a3,z25.fX.fOp,z25.fX.fA,z25.fX.fB,z25.fX.fC,z25.fMem,z25.fAct.fKind,z25.fAct.fA,z25.fAct.fB,z25.fAct.fData,[],zrr,zrs,zrt,zru⟩ ⟨h,(Zle.refl _),zrv,zrw⟩ (.cons rfl (.cons rfl (.cons rfl .nil))) (.cons .h5 (.cons .h3 (.cons .h2 (.cons .here .nil))))
   rcases yp h with ⟨zrx,h⟩ | h
   ·skip
    obtain ⟨z26,zry,h⟩:=zd h
    refine WL.a (d:=39) rfl rfl rfl (y5 yq rfl (yx (k:=21) (hz.pv2 .h5) (hG0.mono (Zle.left _ _)) zrx rfl)) ?_
    refine WL.pu rfl ?_
    refine WL.yw (dd:=41) rfl rfl rfl (ye (l:=[.tmp 40]) Tryd.call103 rfl (.cons rfl .nil)) (.cons .here .nil) (ccz hz (.cons .here .nil) .h4 fun w pz ho=>y5b _ _ _ _ _ _ _ _ zry w pz (z2C.mono (Zle.left _ _)) (ZS.nil _ _ _) ho) ?_
    rintro zrz zrA zrB zrC ⟨zrD,zrE⟩
    refine WL.nil ?_
    exact WX.mid (G:=Int × Int × Int × Int × Int × Int × Int × Int × Int × Int × List Int × Int × Int × Int × List Int × Zp × Option Addr × Nat × Option Addr × Nat) ⟨z26.fState.fPc,z26.fState.fLeft,z26.fState.fRegs.a0,z26.fState.fRegs.a1,z26.fState.fRegs.a2,z26.fState.fRegs.a3,z26.fX.fOp,z26.fX.fA,z26.fX.fB,z26.fX.fC,z26.fMem,z26.fAct.fKind,z26.fAct.fA,z26.fAct.fB,z26.fAct.fData,[],zrz,zrA,zrB,zrC⟩ ⟨h,(Zle.refl _),zrD,zrE⟩ (.cons rfl (.cons rfl (.cons rfl .nil))) (.cons .h5 (.cons .h3 (.cons .h2 (.cons .here .nil))))
   rcases yp h with ⟨zrF,h⟩ | h
   ·skip
    obtain ⟨z27,zrG,h⟩:=zd h
    refine WL.a (d:=39) rfl rfl rfl (y5 yq rfl (yx (k:=22) (hz.pv2 .h5) (hG0.mono (Zle.left _ _)) zrF rfl)) ?_
    refine WL.pu rfl ?_
    refine WL.yw (dd:=41) rfl rfl rfl (ye (l:=[.tmp 40]) Tryd.call104 rfl (.cons rfl .nil)) (.cons .here .nil) (ccz hz (.cons .here .nil) .h4 fun w pz ho=>y5c _ _ _ _ _ _ _ _ zrG w pz (z2C.mono (Zle.left _ _)) (ZS.nil _ _ _) ho) ?_
    rintro zrH zrI zrJ zrK ⟨zrL,zrM⟩
    refine WL.nil ?_
    exact WX.mid (G:=Int × Int × Int × Int × Int × Int × Int × Int × Int × Int × List Int × Int × Int × Int × List Int × Zp × Option Addr × Nat × Option Addr × Nat) ⟨z27.fState.fPc,z27.fState.fLeft,z27.fState.fRegs.a0,z27.fState.fRegs.a1,z27.fState.fRegs.a2,z27.fState.fRegs.a3,z27.fX.fOp,z27.fX.fA,z27.fX.fB,z27.fX.fC,z27.fMem,z27.fAct.fKind,z27.fAct.fA,z27.fAct.fB,z27.fAct.fData,[],zrH,zrI,zrJ,zrK⟩ ⟨h,(Zle.refl _),zrL,zrM⟩ (.cons rfl (.cons rfl (.cons rfl .nil))) (.cons .h5 (.cons .h3 (.cons .h2 (.cons .here .nil))))
   rcases yp h with ⟨zrN,h⟩ | h
   ·skip
    obtain ⟨z29,zrO,h⟩:=zd h
    refine WL.a (d:=39) rfl rfl rfl (y5 yq rfl (yx (k:=23) (hz.pv2 .h5) (hG0.mono (Zle.left _ _)) zrN rfl)) ?_
    refine WL.pu rfl ?_
    refine WL.y2T (dd:=41) rfl rfl rfl (ye (l:=[.tmp 40]) Tryd.call105 rfl (.cons rfl .nil)) (.cons .here .nil) (ccz hz (.cons .here .nil) .h4 fun w pz ho=>y5D _ _ _ _ _ _ _ _ zrO w pz (z2C.mono (Zle.left _ _)) (ZS.nil _ _ _) ho) ?_
    rintro zrP zrQ zrR zrS zrT ⟨zrU,zrV⟩
    refine WL.merge .here .h5 ?_
    refine WL.nil ?_
    exact WX.mid (G:=Int × Int × Int × Int × Int × Int × Int × Int × Int × Int × List Int × Int × Int × Int × List Int × Zp × Option Addr × Nat × Option Addr × Nat) ⟨z29.fState.fPc,z29.fState.fLeft,z29.fState.fRegs.a0,z29.fState.fRegs.a1,z29.fState.fRegs.a2,z29.fState.fRegs.a3,z29.fX.fOp,z29.fX.fA,z29.fX.fB,z29.fX.fC,z29.fMem,z29.fAct.fKind,z29.fAct.fA,z29.fAct.fB,z29.fAct.fData,([] ++ zrP),zrQ,zrR,zrS,zrT⟩ ⟨h,((Zle.left _ _).trans (Zle.y7 _ _ _)),(zrU.mono (Zle.y7 _ _ _)),(zrV.mono (Zle.y7 _ _ _))⟩ (.cons rfl (.cons rfl (.cons rfl .nil))) (.cons .here (.cons .h3 (.cons .h2 (.cons .here .nil))))
   rcases yp h with ⟨zrW,h⟩ | h
   ·skip
    obtain ⟨z1K,zrX,h⟩:=zd h
    refine WL.a (d:=39) rfl rfl rfl (y5 yq rfl (yx (k:=24) (hz.pv2 .h5) (hG0.mono (Zle.left _ _)) zrW rfl)) ?_
    refine WL.pu rfl ?_
    refine WL.yw (dd:=41) rfl rfl rfl (ye (l:=[.tmp 40]) Tryd.call106 rfl (.cons rfl .nil)) (.cons .here .nil) (ccz hz (.cons .here .nil) .h4 fun w pz ho=>y4I _ _ _ _ _ _ _ _ zrX w pz (z2C.mono (Zle.left _ _)) (ZS.nil _ _ _) ho) ?_
    rintro zrY zrZ zs0 zs1 zs2
    refine WL.nil ?_
    refine WX.freezeS (ls:=z1K.fAct.fData) .h1 .h5 hz (RR.y1b (enc:=e5) (fun _=>rfl) _) ?_
    intro zs3 zkc zs4
    exact WX.mid (G:=Int × Int × Int × Int × Int × Int × Int × Int × Int × Int × List Int × Int × Int × Int × List Int × Zp × Option Addr × Nat × Option Addr × Nat) ⟨z1K.fState.fPc,z1K.fState.fLeft,z1K.fState.fRegs.a0,z1K.fState.fRegs.a1,z1K.fState.fRegs.a2,z1K.fState.fRegs.a3,z1K.fX.fOp,z1K.fX.fA,z1K.fX.fB,z1K.fX.fC,z1K.fMem,z1K.fAct.fKind,z1K.fAct.fA,z1K.fAct.fB,z1K.fAct.fData,zs3,zrY,zrZ,zs0,zs1⟩ ⟨h,zkc,(zs2.mono zkc),zs4⟩ (.cons rfl (.cons rfl (.cons rfl .nil))) (.cons .here (.cons .h3 (.cons .h2 (.cons .here .nil))))
   rcases yp h with ⟨zs5,h⟩ | h
   ·skip
    obtain ⟨z1L,zs6,h⟩:=zd h
    refine WL.a (d:=39) rfl rfl rfl (y5 yq rfl (yx (k:=25) (hz.pv2 .h5) (hG0.mono (Zle.left _ _)) zs5 rfl)) ?_
    refine WL.pu rfl ?_
    refine WL.yw (dd:=41) rfl rfl rfl (ye (l:=[.tmp 40]) Tryd.call107 rfl (.cons rfl .nil)) (.cons .here .nil) (ccz hz (.cons .here .nil) .h4 fun w pz ho=>y5d _ _ _ _ _ _ _ _ zs6 w pz (z2C.mono (Zle.left _ _)) (ZS.nil _ _ _) ho) ?_
    rintro zs7 zs8 zs9 zsa zsb
    refine WL.nil ?_
    refine WX.freezeS (ls:=z1L.fAct.fData) .h1 .h5 hz (RR.y1b (enc:=e5) (fun _=>rfl) _) ?_
    intro zsc zkd zsd
    exact WX.mid (G:=Int × Int × Int × Int × Int × Int × Int × Int × Int × Int × List Int × Int × Int × Int × List Int × Zp × Option Addr × Nat × Option Addr × Nat) ⟨z1L.fState.fPc,z1L.fState.fLeft,z1L.fState.fRegs.a0,z1L.fState.fRegs.a1,z1L.fState.fRegs.a2,z1L.fState.fRegs.a3,z1L.fX.fOp,z1L.fX.fA,z1L.fX.fB,z1L.fX.fC,z1L.fMem,z1L.fAct.fKind,z1L.fAct.fA,z1L.fAct.fB,z1L.fAct.fData,zsc,zs7,zs8,zs9,zsa⟩ ⟨h,zkd,(zsb.mono zkd),zsd⟩ (.cons rfl (.cons rfl (.cons rfl .nil))) (.cons .here (.cons .h3 (.cons .h2 (.cons .here .nil))))
   cases h
  ·rintro z7n z7o z7p z7q z7r z7s zah zai zaj zak z8P z7t z7u z7v z6z zal zdm zdn zam zan ⟨h,zxj,zxk,zse⟩
   replace h:=(zoP z7n z7o z7p z7q z7r z7s zah zai zaj zak z8P z7t z7u z7v z6z).symm.trans h
   refine WC.b ?_
   refine WC.yX (fun i=>[8,9].contains i) [stb zfX 65 [(.int .i64 z7n),(.int .i64 z7o),(.int .u8 z7p),(.int .u8 z7q),(.int .u8 z7r),(.int .u8 z7s),(.int .u8 zah),(.int .i64 zai),(.int .i64 zaj),(.int .i64 zak),(.slice zdm z8P.length zdn),(.int .u8 z7t),(.int .i64 z7u),(.int .i64 z7v),(.slice zam z6z.length zan)]] rfl ?_
   refine WD.a (i:=0) (d:=42) (by kernel_rfl) rfl z2 z6 rfl rfl rfl (fun _=>q_m rfl) ?_
   refine WD.a (i:=1) (d:=43) (by kernel_rfl) rfl z2 z6 rfl rfl rfl (fun _=>y6 rfl) ?_
   refine WD.a (i:=2) (d:=44) (by kernel_rfl) rfl z2 z6 rfl rfl rfl (fun _=>y4 yI rfl rfl) ?_
   refine WD.e (i:=3) (d:=45) (by kernel_rfl) rfl z2 z6 rfl rfl rfl (y4Z (cs:=[(.int .i64 z7n),(.int .i64 z7o),(.int .u8 z7p),(.int .u8 z7q),(.int .u8 z7r),(.int .u8 z7s)]) y13 rfl rfl (y6w (s:=6) .h3 rfl)) ?_
   refine WD.a (i:=4) (d:=46) (by kernel_rfl) rfl z2 z6 rfl rfl rfl (fun _=>q_m rfl) ?_
   refine WD.a (i:=5) (d:=47) (by kernel_rfl) rfl z2 z6 rfl rfl rfl (fun _=>y6 rfl) ?_
   refine WD.a (i:=6) (d:=48) (by kernel_rfl) rfl z2 z6 rfl rfl rfl (fun _=>y4 y2e rfl rfl) ?_
   refine WD.y1u (i:=7) (d:=49) (by kernel_rfl) rfl z2 z6 rfl rfl rfl (Sin.of (.cons .h3 .nil)) (y4Z (cs:=[(.int .u8 z7t),(.int .i64 z7u),(.int .i64 z7v),(.slice zam z6z.length zan)]) y35 rfl rfl (y6w (s:=4) .here rfl)) ?_
   refine WD.forced0 (i:=8) rfl (by kernel_rfl) rfl rfl rfl (Sin.of (.cons .h3 .nil)) (yu y1p rfl rfl rfl .h1 rfl rfl rfl) ?_
   refine WD.y1t (i:=9) rfl (by kernel_rfl) rfl rfl rfl (by kernel_rfl) (yu y1g rfl rfl rfl .h2 rfl rfl rfl) ?_
   refine WD.done (by kernel_rfl) ?_
   refine WX.a (WC.ret ?_)
   obtain rfl:=Option.some.inj h
   refine WX.yh Tryd.results18 (.agg rfl y13 rfl (yJ .h1) (.agg rfl y35 rfl (yJ .here) .nil)) (fun w hw=>?_)
   exact ⟨zal,zam,zan,y3T rfl rfl,zse,hw.sub (.cons .h2 .nil)⟩
def y2f (z3Y : Sapi_Ins) (zdH : List Sapi_Ins) : Option Bool :=
 (y2D z3Y ((zdH.length : Nat) : Int)).bind fun zke=>some (!zke)
set_option maxRecDepth 20000 in
theorem y6P (Z : Zp) (zeI : Addr) (zkf : Option Addr) (zkg : Nat) (z3Y : Sapi_Ins) (zdH : List Sapi_Ins) (r : Bool)
  (h : y2f z3Y zdH = some r) (w₀ : World) (hz : PZ [] w₀ Z)
  (hG1 : ZS Z 1 (p74 Z) (some ⟨1,0,none⟩) 26 y17)
  (zxl : ZS Z 4 (fun r x=>r = e33 x) zkf zkg zdH)
  (zsf : ZC Z zeI [(.slice zkf zdH.length zkg)]) :
  Calls Tryd.prog 31 #[(.agg #[(.int .u8 z3Y.fOp),(.int .i64 z3Y.fA),(.int .i64 z3Y.fB),(.int .i64 z3Y.fC)]),(.pointer (some zeI))] w₀ fun e w'=>e = .returned (.bool r) ∧ Hp [] w₀ w' []:=by
 unfold y2f at h
 refine Calls.y8 (vs:=[(.agg #[(.int .u8 z3Y.fOp),(.int .i64 z3Y.fA),(.int .i64 z3Y.fB),(.int .i64 z3Y.fC)]),(.pointer (some zeI))]) (pre:=[]) (env:=[(0,(.agg #[(.int .u8 z3Y.fOp),(.int .i64 z3Y.fA),(.int .i64 z3Y.fB),(.int .i64 z3Y.fC)])),(1,(.pointer (some zeI)))]) Tryd.func31 rfl Tryd.ntmps31 rfl (Hp.nil w₀ _) rfl ?_
 refine WC.b (WC.a ?_)
 refine WL.new (dd:=2) rfl rfl rfl (y3m (cs:=[(.int .u8 z3Y.fOp),(.int .i64 z3Y.fA),(.int .i64 z3Y.fB),(.int .i64 z3Y.fC)]) rfl rfl) ?_
 intro zxm _
 refine WL.pu rfl (WL.nil (WX.a (WC.b ?_)))
 obtain ⟨zke,zsg,h⟩:=zd h
 refine WC.a ?_
 refine WL.a (d:=4) rfl rfl rfl (yV y3p rfl (yJ .here) rfl) ?_
 refine WL.a (d:=5) rfl rfl rfl (y5 y3I rfl (y3u hz.pv zsf rfl)) ?_
 refine WL.a (d:=6) rfl rfl rfl (y1s Tryd.underlying22 rfl) ?_
 refine WL.b (dd:=7) rfl rfl rfl (zl (l:=[.tmp 4,.tmp 6]) Tryd.call32 (.cons rfl (.cons rfl .nil))) .nil (cc hz .nil fun w pz ho=>y61 _ _ _ _ zsg w pz hG1) ?_
 refine WL.pu rfl (WL.pu rfl (WL.nil (WX.a (WC.ret ?_))))
 obtain rfl:=Option.some.inj h
 refine WX.yh Tryd.results31 (.tmp rfl .nil) (fun w hw=>?_)
 exact ⟨y1a rfl,hw.sub .nil⟩
def yA (z2E : List Sapi_Ins) (z6A : Sapi_Ins → Option Bool) (z8Q : Option Int) : Nat → Int → Option Int
 | 0,_=>none
 | zfY + 1,z2P=>if decide (z2P < ((z2E.length : Nat) : Int)) then chk ((0 : Int) ≤ z2P ∧ z2P < ((z2E.length : Nat) : Int)) ((z6A (⟨((nth z2E z2P).fOp),((nth z2E z2P).fA),((nth z2E z2P).fB),((nth z2E z2P).fC)⟩ : Sapi_Ins)).bind fun zfZ=>if zfZ then some z2P else yA z2E z6A z8Q zfY (i64 (z2P + 1))) else z8Q
theorem y2S {n : Nat} {z2E : List Sapi_Ins} {z6A : Sapi_Ins → Option Bool} {z8Q : Option Int} {z2P : Int} {r : Int} (h : yA z2E z6A z8Q n z2P = some r) : ∃ m,n = m + 1:=by
 cases n with
 | zero=>cases h
 | succ m=>exact ⟨m,rfl⟩
def y16 (z2E : List Sapi_Ins) (z6A : Sapi_Ins → Option Bool) : Option Int :=
 jp0 (some (-1)) fun z8Q=>yA z2E z6A z8Q y1K 0
set_option maxRecDepth 20000 in
theorem y3v (Z : Zp) (zdI : Option Addr) (zdJ : Nat) (z8R : FuncId) (zbK : List Value) (z2E : List Sapi_Ins) (z6A : Sapi_Ins → Option Bool) (r : Int)
  (h : y16 z2E z6A = some r) (w₀ : World) (hz : PZ [] w₀ Z)
  (zsh : ZS Z 4 (fun r x=>r = e33 x) zdI zdJ z2E)
  (zsi : ∀ args w,(callFunc z8R args).run Tryd.prog w = .ok (.enter z8R args) w)
  (zsj : ∀ w : World,PZ [] w Z → ∀ (x0 : Sapi_Ins) (r : Bool),z6A x0 = some r → Calls Tryd.prog z8R (([(.agg #[(.int .u8 x0.fOp),(.int .i64 x0.fA),(.int .i64 x0.fB),(.int .i64 x0.fC)])] : List Value) ++ zbK).toArray w fun e w'=>e = .returned (.bool r) ∧ Hp [] w w' []) :
  Calls Tryd.prog 42 #[(.slice zdI z2E.length zdJ),(.func (.func z8R) #[] (zbK).toArray)] w₀ fun e w'=>e = .returned (.int .i64 r) ∧ Hp [] w₀ w' []:=by
 unfold y16 at h
 refine Calls.y8 (vs:=[(.slice zdI z2E.length zdJ),(.func (.func z8R) #[] (zbK).toArray)]) (pre:=[]) (env:=[(0,(.slice zdI z2E.length zdJ)),(1,(.func (.func z8R) #[] (zbK).toArray))]) Tryd.func42 rfl Tryd.ntmps42 rfl (Hp.nil w₀ _) rfl ?_
 refine WC.b (WC.a (WL.pu rfl (WL.nil (WX.a ?_))))
 obtain ⟨z8Q,zsk,h⟩:=y3U h
 refine WC.y3n ((z8Q = some r)) ([]) ([]) ?_ ?_
 ·skip
  refine WC.b (WC.a (WL.pu rfl ?_))
  refine WL.a (d:=7) rfl rfl rfl (y1s Tryd.underlying22 rfl) ?_
  refine WL.pu rfl (WL.nil (WX.a (WC.block ?_)))
  refine WC.y5q (fun (zdo : Nat) (z2P : Int)=>(yA z2E z6A z8Q zdo z2P = some r)) (fun (zdo : Nat) (z2P : Int)=>[(0,(.slice zdI z2E.length zdJ)),(1,(.func (.func z8R) #[] (zbK).toArray)),(7,(.int .i64 ((z2E.length : Nat) : Int))),(8,(.int .i64 z2P))]) (fun (zdo : Nat) (z2P : Int)=>[]) (fun (zdo : Nat) (z2P : Int)=>zdo) ⟨y1K,0⟩ h (.cons rfl (.cons rfl (.cons rfl (.cons rfl .nil)))) .nil ?_
  rintro zdo z2P h
  obtain ⟨zfY,rfl⟩:=y2S h
  rw [yA] at h
  refine WC.b (WC.a (WL.pu rfl (WL.nil (WX.a (WC.b ?_)))))
  refine WC.cond rfl (fun zg0=>?_) (fun zg0=>?_)
  ·replace h:=yl h zg0
   refine WC.skip (WX.a (WC.b (WC.block (WC.b (WC.a (WL.pu rfl (WL.pu rfl (WL.nil (WX.a (WC.b ?_))))))))))
   obtain ⟨zsl,h⟩:=ya h
   obtain ⟨zfZ,zsm,h⟩:=zd h
   refine WC.a (WL.pu rfl (WL.pu rfl (WL.pu rfl ?_)))
   refine WL.znth (dd:=14) rfl rfl (Z:=Z) (Pr:=(fun r x=>r = e33 x)) y3P rfl rfl zsh zsl ?_
   rintro zxn zxo zsn zxp rfl
   refine WL.a (d:=15) rfl rfl rfl (yV y3p rfl (rd_zs hz.pv zsn) rfl) ?_
   refine WL.b (dd:=16) rfl rfl rfl (ye (l:=[.tmp 15]) (f:=z8R) (caps:=zbK) zsi rfl (.cons rfl .nil)) .nil (fun w hw=>zsj w (hz.now hw) (⟨((nth z2E z2P).fOp),((nth z2E z2P).fA),((nth z2E z2P).fB),((nth z2E z2P).fC)⟩ : Sapi_Ins) zfZ  zsm) ?_
   refine WL.nil (WX.a ?_)
   refine WC.cond rfl (fun zg1=>?_) (fun zg1=>?_)
   ·replace h:=yl h zg1
    refine WC.b (WC.a (WL.pu rfl (WL.pu rfl (WL.nil (WX.a (WC.ret (WX.yL (WX.yf (WX.yf (WX.yL (WX.yf ?_)))))))))))
    obtain rfl:=Option.some.inj h
    refine WX.yh Tryd.results42 (.tmp rfl .nil) (fun w hw=>?_)
    exact ⟨y1a rfl,hw.sub .nil⟩
   ·replace h:=ym h zg1
    refine WC.skip (WX.yk (WX.a (WC.a (WL.pu rfl (WL.pu rfl (WL.nil ?_))))))
    exact WX.round (G:=Nat × Int) ⟨zfY,(i64 (z2P + 1))⟩ h (Nat.lt_succ_self _) (.cons rfl (.cons rfl (.cons rfl (.cons rfl .nil)))) .nil
  ·replace h:=ym h zg0
   refine WC.exit (WX.yQ (WX.yQ (WX.y1L ?_)))
   exact WX.mid (G:=Unit) () h .nil .nil
 ·rintro  h
  replace h:=zsk.symm.trans h
  refine WC.b (WC.a (WL.pu rfl (WL.nil (WX.a (WC.ret ?_)))))
  obtain rfl:=Option.some.inj h
  refine WX.yh Tryd.results42 (.tmp rfl .nil) (fun w hw=>?_)
  exact ⟨y1a rfl,hw.sub .nil⟩
def yW (zbL : List Sapi_Ins) (zdp : Sapi_Ins → Option Bool) : Option Bool :=
 (y16 zbL zdp).bind fun zkh=>some (decide (zkh ≥ 0))
set_option maxRecDepth 20000 in
theorem y3c (Z : Zp) (zeJ : Option Addr) (zeK : Nat) (zao : FuncId) (zdq : List Value) (zbL : List Sapi_Ins) (zdp : Sapi_Ins → Option Bool) (r : Bool)
  (h : yW zbL zdp = some r) (w₀ : World) (hz : PZ [] w₀ Z)
  (zso : ZS Z 4 (fun r x=>r = e33 x) zeJ zeK zbL)
  (zsp : ∀ args w,(callFunc zao args).run Tryd.prog w = .ok (.enter zao args) w)
  (zsq : ∀ w : World,PZ [] w Z → ∀ (x0 : Sapi_Ins) (r : Bool),zdp x0 = some r → Calls Tryd.prog zao (([(.agg #[(.int .u8 x0.fOp),(.int .i64 x0.fA),(.int .i64 x0.fB),(.int .i64 x0.fC)])] : List Value) ++ zdq).toArray w fun e w'=>e = .returned (.bool r) ∧ Hp [] w w' []) :
  Calls Tryd.prog 30 #[(.slice zeJ zbL.length zeK),(.func (.func zao) #[] (zdq).toArray)] w₀ fun e w'=>e = .returned (.bool r) ∧ Hp [] w₀ w' []:=by
 unfold yW at h
 refine Calls.y8 (vs:=[(.slice zeJ zbL.length zeK),(.func (.func zao) #[] (zdq).toArray)]) (pre:=[]) (env:=[(0,(.slice zeJ zbL.length zeK)),(1,(.func (.func zao) #[] (zdq).toArray))]) Tryd.func30 rfl Tryd.ntmps30 rfl (Hp.nil w₀ _) rfl ?_
 refine WC.b (WC.a (WL.pu rfl (WL.nil (WX.a (WC.b ?_)))))
 obtain ⟨zkh,zsr,h⟩:=zd h
 refine WC.a (WL.pu rfl (WL.pu rfl ?_))
 refine WL.b (dd:=7) rfl rfl rfl (zl (l:=[.tmp 5,.tmp 6]) Tryd.call42 (.cons rfl (.cons rfl .nil))) .nil (cc hz .nil fun w pz ho=>y3v _ _ _ (z8R:=zao) (zbK:=zdq) _ (z6A:=zdp) _ zsr w pz zso zsp zsq) ?_
 refine WL.pu rfl (WL.pu rfl (WL.nil (WX.a (WC.ret ?_))))
 obtain rfl:=Option.some.inj h
 refine WX.yh Tryd.results30 (.tmp rfl .nil) (fun w hw=>?_)
 exact ⟨y1a rfl,hw.sub .nil⟩
def y2i (z7w : List Sapi_Ins) : Option Bool :=
 (yW z7w (fun (y0 : Sapi_Ins)=>y2f y0 z7w)).bind fun zki=>some (!zki)
set_option maxRecDepth 20000 in
theorem y4h (Z : Zp) (zdK : Option Addr) (zdL : Nat) (z7w : List Sapi_Ins) (r : Bool)
  (h : y2i z7w = some r) (w₀ : World) (hz : PZ [] w₀ Z)
  (hG1 : ZS Z 1 (p74 Z) (some ⟨1,0,none⟩) 26 y17)
  (zkj : ZS Z 4 (fun r x=>r = e33 x) zdK zdL z7w) :
  Calls Tryd.prog 14 #[(.slice zdK z7w.length zdL)] w₀ fun e w'=>e = .returned (.bool r) ∧ Hp [] w₀ w' []:=by
 unfold y2i at h
 refine Calls.y8 (vs:=[(.slice zdK z7w.length zdL)]) (pre:=[]) (env:=[(0,(.slice zdK z7w.length zdL))]) Tryd.func14 rfl Tryd.ntmps14 rfl (Hp.nil w₀ _) rfl ?_
 refine WC.b (WC.a ?_)
 refine WL.new (dd:=1) rfl rfl rfl (y3m (cs:=[(.slice zdK z7w.length zdL)]) rfl rfl) ?_
 intro zss _
 refine WL.pu rfl (WL.nil (WX.a (WC.b ?_)))
 obtain ⟨zki,zst,h⟩:=zd h
 refine WC.a ?_
 refine WL.a (d:=3) rfl rfl rfl (y5 y3I rfl (yb .here rfl)) ?_
 refine WL.a (d:=4) rfl rfl rfl (y6u (Eos.caps (l:=[.tmp 1]) (.cons rfl .nil))) ?_
 refine WL.b (dd:=5) rfl rfl rfl (zl (l:=[.tmp 3,.tmp 4]) Tryd.call30 (.cons rfl (.cons rfl .nil))) .nil (ccl hz .nil (.cons .here .nil) fun w pz ho la=>y3c _ _ _ (zao:=31) (zdq:=[(.pointer (some ⟨zss,0,none⟩))]) _ (zdp:=(fun (y0 : Sapi_Ins)=>y2f y0 z7w)) _ zst w pz (zkj.mono (Zle.left _ _)) Tryd.call31 (fun w' hz' y0  r  hr=>y6P _ _ _ _ _ _ _ hr w' hz' ((hG1.mono (Zle.left _ _)).weak (fun _ _ h=>y12 (Zle.left _ _) h)) (zkj.mono (Zle.left _ _)) ((la _ (.head _) _).stb))) ?_
 refine WL.pu rfl (WL.pu rfl (WL.nil (WX.a (WC.ret ?_))))
 obtain rfl:=Option.some.inj h
 refine WX.yh Tryd.results14 (.tmp rfl .nil) (fun w hw=>?_)
 exact ⟨y1a rfl,hw.sub .nil⟩
def yF (z11 : List Int) (z10 : Int) (z8S : (List Int) → Int → Option (List Int)) : Nat → (List Int) → Int → Int → Option (List Int)
 | 0,_,_,_=>none
 | zg2 + 1,z1l,z2Z,k2_9039=>if decide (k2_9039 < ((z11.length - (z10 : Int).toNat : Nat) : Int)) then jp2 (fun (z5z : List Int) (z8T : Int)=>yF z11 z10 z8S zg2 z5z z8T (i64 (k2_9039 + 1))) fun zeL=>chk ((0 : Int) ≤ k2_9039 ∧ k2_9039 < ((z11.length - (z10 : Int).toNat : Nat) : Int)) (chk ((0 : Int) ≤ (i64 (k2_9039 - 1)) ∧ (i64 (k2_9039 - 1)) < ((z11.length - (z10 : Int).toNat : Nat) : Int)) (if decide ((nth z1l (z10 + k2_9039)) ≠ (nth z1l (z10 + (i64 (k2_9039 - 1))))) then chk ((0 : Int) ≤ k2_9039 ∧ k2_9039 < ((z11.length - (z10 : Int).toNat : Nat) : Int)) (chk ((0 : Int) ≤ z2Z ∧ z2Z < ((z1l.length : Nat) : Int)) (zeL (z1l.set (z2Z : Int).toNat (nth z1l (z10 + k2_9039))) (i64 (z2Z + 1)))) else zeL z1l z2Z)) else z8S z1l z2Z
theorem y3E {n : Nat} {z11 : List Int} {z10 : Int} {z8S : (List Int) → Int → Option (List Int)} {z1l : List Int} {z2Z : Int} {k2_9039 : Int} {r : List Int} (h : yF z11 z10 z8S n z1l z2Z k2_9039 = some r) : ∃ m,n = m + 1:=by
 cases n with
 | zero=>cases h
 | succ m=>exact ⟨m,rfl⟩
def yO (z11 : List Int) (z8U : Option (List Int)) : Nat → Int → Option (List Int)
 | 0,_=>none
 | zg3 + 1,z10=>if decide (z10 < ((z11.length : Nat) : Int)) then jp0 (yO z11 z8U zg3 (i64 (z10 + 1))) fun zg4=>chk ((0 : Int) ≤ z10 ∧ z10 < ((z11.length : Nat) : Int)) (chk ((0 : Int) ≤ (i64 (z10 - 1)) ∧ (i64 (z10 - 1)) < ((z11.length : Nat) : Int)) (if decide ((nth z11 z10) = (nth z11 (i64 (z10 - 1)))) then chk ((0 : Int) ≤ z10 ∧ z10 < ((z11.length : Nat) : Int)) (jp2 (fun (z30 : List Int) (z31 : Int)=>chk ((0 : Int) ≤ z31 ∧ z31 ≤ ((z30.length : Nat) : Int)) (chk ((0 : Int) ≤ z31 ∧ z31 ≤ (((z30.take (z31 : Int).toNat ++ List.replicate (z30.length - (z31 : Int).toNat) (0 : Int)).length : Nat) : Int)) (some ((z30.take (z31 : Int).toNat ++ List.replicate (z30.length - (z31 : Int).toNat) (0 : Int)).take (z31 : Int).toNat)))) fun z8S=>yF z11 z10 z8S y1K z11 z10 1) else zg4)) else z8U
theorem y3F {n : Nat} {z11 : List Int} {z8U : Option (List Int)} {z10 : Int} {r : List Int} (h : yO z11 z8U n z10 = some r) : ∃ m,n = m + 1:=by
 cases n with
 | zero=>cases h
 | succ m=>exact ⟨m,rfl⟩
def yP (z11 : List Int) : Option (List Int) :=
 if decide (((z11.length : Nat) : Int) < 2) then some z11 else jp0 (some z11) fun z8U=>yO z11 z8U y1K 1
set_option maxRecDepth 20000 in
theorem y4i (Z : Zp) (z4n : Option Addr) (z2i : Nat) (z11 : List Int) (r : List Int)
  (h : yP z11 = some r) (w₀ : World) (hz : PZ (fps [row (.slice z4n z11.length z2i) 3 1 (z11.flatMap e3)]) w₀ Z)
  (hown : Hp (fps [row (.slice z4n z11.length z2i) 3 1 (z11.flatMap e3)]) w₀ w₀ [row (.slice z4n z11.length z2i) 3 1 (z11.flatMap e3)]) :
  Calls Tryd.prog 35 #[(.slice z4n z11.length z2i)] w₀ fun e w'=>∃ zkk : Option Addr,∃ zkl : Nat,e = .returned (.slice zkk r.length zkl) ∧ True ∧ Hp (fps [row (.slice z4n z11.length z2i) 3 1 (z11.flatMap e3)]) w₀ w' [row (.slice zkk r.length zkl) 3 1 (r.flatMap e3)]:=by
 unfold yP at h
 refine Calls.y8 (vs:=[(.slice z4n z11.length z2i)]) (pre:=[row (.slice z4n z11.length z2i) 3 1 (z11.flatMap e3)]) (env:=[(0,(.slice z4n z11.length z2i))]) Tryd.func35 rfl Tryd.ntmps35 rfl (hown) rfl ?_
 refine WC.b (WC.a (WL.pu rfl (WL.nil (WX.a (WC.b (WC.b (WC.a (WL.pu rfl ?_))))))))
 refine WL.a (d:=7) rfl rfl rfl (y1s Tryd.underlying30 rfl) ?_
 refine WL.pu rfl (WL.nil (WX.a ?_))
 refine WC.cond rfl (fun zg5=>?_) (fun zg5=>?_)
 ·replace h:=yl h zg5
  refine WC.b (WC.a (WL.pu rfl (WL.pu rfl (WL.nil (WX.a (WC.ret (WX.yf ?_)))))))
  obtain rfl:=Option.some.inj h
  refine WX.yh Tryd.results35 (.tmp rfl .nil) (fun w hw=>?_)
  exact ⟨z4n,z2i,y1a rfl,trivial,hw.sub (.cons .here .nil)⟩
 ·replace h:=ym h zg5
  refine WC.skip (WX.a ?_)
  obtain ⟨z8U,zsu,h⟩:=y3U h
  refine WC.y3n ((z8U = some r)) ([(0,(.slice z4n z11.length z2i))]) ([row (.slice z4n z11.length z2i) 3 1 (z11.flatMap e3)]) ?_ ?_
  ·skip
   refine WC.b (WC.a (WL.pu rfl (WL.nil (WX.a (WC.block ?_)))))
   refine WC.y5q (fun (zdr : Nat) (z10 : Int)=>(yO z11 z8U zdr z10 = some r)) (fun (zdr : Nat) (z10 : Int)=>[(0,(.slice z4n z11.length z2i)),(3,(.int .i64 z10))]) (fun (zdr : Nat) (z10 : Int)=>[row (.slice z4n z11.length z2i) 3 1 (z11.flatMap e3)]) (fun (zdr : Nat) (z10 : Int)=>zdr) ⟨y1K,1⟩ h (.cons rfl (.cons rfl .nil)) (.cons .here .nil) ?_
   rintro zdr z10 h
   obtain ⟨zg3,rfl⟩:=y3F h
   rw [yO] at h
   refine WC.b (WC.b (WC.a (WL.pu rfl (WL.pu rfl ?_))))
   refine WL.a (d:=12) rfl rfl rfl (y1s Tryd.underlying30 rfl) ?_
   refine WL.pu rfl (WL.nil (WX.a ?_))
   refine WC.cond rfl (fun zg6=>?_) (fun zg6=>?_)
   ·replace h:=yl h zg6
    refine WC.skip (WX.a ?_)
    obtain ⟨zg4,zsv,h⟩:=y3U h
    refine WC.y3n ((zg4 = some r)) ([(0,(.slice z4n z11.length z2i)),(3,(.int .i64 z10))]) ([row (.slice z4n z11.length z2i) 3 1 (z11.flatMap e3)]) ?_ ?_
    ·skip
     refine WC.block (WC.b ?_)
     obtain ⟨zdM,h⟩:=ya h
     obtain ⟨zeM,h⟩:=ya h
     refine WC.yX (fun i=>[].contains i) [] rfl ?_
     refine WD.a (i:=0) (d:=16) (by kernel_rfl) rfl z2 z6 rfl rfl rfl (fun _=>q_m rfl) ?_
     refine WD.a (i:=1) (d:=17) (by kernel_rfl) rfl z2 z6 rfl rfl rfl (fun _=>q_m rfl) ?_
     refine WD.know (fun w hw=>Hp.y3Z .here hw (by intro hz'; have:=zdM; rw [hz'] at this; omega)) ?_
     rintro ⟨z5A,rfl⟩
     refine WD.a (i:=2) (d:=18) (by kernel_rfl) rfl z2 z6 rfl rfl rfl (fun _=>yT yU rfl rfl zdM.1 zdM.2 y3f) ?_
     refine WD.e (i:=3) (d:=19) (by kernel_rfl) rfl z2 z6 rfl rfl rfl (y5 yd rfl (y3x .here ((y33 (enc:=e3) (l:=z11) (i:=z10) (sz:=1) (fun _=>rfl) zdM.1 zdM.2) 0 _ rfl))) ?_
     refine WD.a (i:=4) (d:=20) (by kernel_rfl) rfl z2 z6 rfl rfl rfl (fun _=>q_m rfl) ?_
     refine WD.a (i:=5) (d:=21) (by kernel_rfl) rfl z2 z6 rfl rfl rfl (fun _=>q_m rfl) ?_
     refine WD.a (i:=6) (d:=22) (by kernel_rfl) rfl z2 z6 rfl rfl rfl (fun _=>y6t rfl rfl rfl) ?_
     refine WD.a (i:=7) (d:=23) (by kernel_rfl) rfl z2 z6 rfl rfl rfl (fun _=>yT yU rfl rfl zeM.1 zeM.2 y3f) ?_
     refine WD.e (i:=8) (d:=24) (by kernel_rfl) rfl z2 z6 rfl rfl rfl (y5 yd rfl (y3x .here ((y33 (enc:=e3) (l:=z11) (i:=i64 (z10 - 1)) (sz:=1) (fun _=>rfl) zeM.1 zeM.2) 0 _ rfl))) ?_
     refine WD.a (i:=9) (d:=25) (by kernel_rfl) rfl z2 z6 rfl rfl rfl (fun _=>q_eql rfl rfl) ?_
     refine WD.done (by kernel_rfl) ?_
     refine WX.a ?_
     refine WC.cond rfl (fun zg7=>?_) (fun zg7=>?_)
     ·replace h:=yl h zg7
      refine WC.b ?_
      obtain ⟨zbM,h⟩:=ya h
      refine WC.a (WL.pu rfl (WL.pu rfl ?_))
      refine WL.y8d (dd:=28) rfl rfl yU rfl rfl .here zbM ?_
      refine WL.pu rfl (WL.nil (WX.a ?_))
      obtain ⟨z8S,zsw,h⟩:=y5t h
      refine WC.y44 (fun (z30 : List Int) (z31 : Int)=>(z8S z30 z31 = some r) ∧ (z30.length = z11.length)) (fun (z30 : List Int) (z31 : Int)=>[(0,(.slice (some ⟨z5A,0,none⟩) z30.length z2i)),(3,(.int .i64 z31))]) (fun (z30 : List Int) (z31 : Int)=>[row (.slice (some ⟨z5A,0,none⟩) z30.length z2i) 3 1 (z30.flatMap e3)]) ?_ ?_
      ·skip
       refine WC.b (WC.a (WL.pu rfl (WL.nil (WX.a (WC.block ?_)))))
       refine WC.y79 (fun (zds : Nat) (z1l : List Int) (z2Z : Int) (k2_9039 : Int)=>(yF z11 z10 z8S zds z1l z2Z k2_9039 = some r) ∧ (z1l.length = z11.length)) (fun (zds : Nat) (z1l : List Int) (z2Z : Int) (k2_9039 : Int)=>[(0,(.slice (some ⟨z5A,0,none⟩) z1l.length z2i)),(3,(.int .i64 z2Z)),(4,(.slice (some ⟨z5A,(z10 : Int).toNat * 1,none⟩) (z11.length - (z10 : Int).toNat) (z2i - (z10 : Int).toNat))),(5,(.int .i64 k2_9039))]) (fun (zds : Nat) (z1l : List Int) (z2Z : Int) (k2_9039 : Int)=>[row (.slice (some ⟨z5A,0,none⟩) z1l.length z2i) 3 1 (z1l.flatMap e3)]) (fun (zds : Nat) (z1l : List Int) (z2Z : Int) (k2_9039 : Int)=>zds) ⟨y1K,z11,z10,1⟩ ⟨h,rfl⟩ (.cons rfl (.cons rfl (.cons rfl (.cons rfl .nil)))) (.cons .here .nil) ?_
       rintro zds z1l z2Z k2_9039 ⟨h,zdt⟩
       obtain ⟨zg2,rfl⟩:=y3E h
       rw [yF] at h
       refine WC.b (WC.b (WC.a (WL.pu rfl (WL.pu rfl ?_))))
       refine WL.a (d:=31) rfl rfl rfl (y1s Tryd.underlying30 rfl) ?_
       refine WL.pu rfl (WL.nil (WX.a ?_))
       refine WC.cond rfl (fun zg8=>?_) (fun zg8=>?_)
       ·replace h:=yl h zg8
        refine WC.skip (WX.a ?_)
        obtain ⟨zeL,zsx,h⟩:=y5t h
        refine WC.y44 (fun (z5z : List Int) (z8T : Int)=>(zeL z5z z8T = some r) ∧ (z5z.length = z11.length)) (fun (z5z : List Int) (z8T : Int)=>[(0,(.slice (some ⟨z5A,0,none⟩) z5z.length z2i)),(3,(.int .i64 z8T)),(4,(.slice (some ⟨z5A,(z10 : Int).toNat * 1,none⟩) (z11.length - (z10 : Int).toNat) (z2i - (z10 : Int).toNat))),(5,(.int .i64 k2_9039))]) (fun (z5z : List Int) (z8T : Int)=>[row (.slice (some ⟨z5A,0,none⟩) z5z.length z2i) 3 1 (z5z.flatMap e3)]) ?_ ?_
        ·skip
         refine WC.block (WC.b ?_)
         obtain ⟨zeN,h⟩:=ya h
         obtain ⟨zeO,h⟩:=ya h
         refine WC.yX (fun i=>[].contains i) [] rfl ?_
         refine WD.a (i:=0) (d:=35) (by kernel_rfl) rfl z2 z6 rfl rfl rfl (fun _=>q_m rfl) ?_
         refine WD.a (i:=1) (d:=36) (by kernel_rfl) rfl z2 z6 rfl rfl rfl (fun _=>q_m rfl) ?_
         have zkm : (0 : Int) ≤ z10 + k2_9039 ∧ z10 + k2_9039 < ((z1l.length : Nat) : Int):=by have h1:=zdt; have h2:=zbM; have h3:=zeN; omega
         refine WD.a (i:=2) (d:=37) (by kernel_rfl) rfl z2 z6 rfl rfl rfl (fun _=>yT yU rfl rfl zeN.1 zeN.2 (y6n zbM.1 zeN.1)) ?_
         refine WD.e (i:=3) (d:=38) (by kernel_rfl) rfl z2 z6 rfl rfl rfl (y5 yd rfl (y3x .here ((y33 (enc:=e3) (l:=z1l) (i:=z10 + k2_9039) (sz:=1) (fun _=>rfl) zkm.1 zkm.2) 0 _ rfl))) ?_
         refine WD.a (i:=4) (d:=39) (by kernel_rfl) rfl z2 z6 rfl rfl rfl (fun _=>q_m rfl) ?_
         refine WD.a (i:=5) (d:=40) (by kernel_rfl) rfl z2 z6 rfl rfl rfl (fun _=>q_m rfl) ?_
         refine WD.a (i:=6) (d:=41) (by kernel_rfl) rfl z2 z6 rfl rfl rfl (fun _=>y6t rfl rfl rfl) ?_
         have zkn : (0 : Int) ≤ z10 + (i64 (k2_9039 - 1)) ∧ z10 + (i64 (k2_9039 - 1)) < ((z1l.length : Nat) : Int):=by have h1:=zdt; have h2:=zbM; have h3:=zeO; omega
         refine WD.a (i:=7) (d:=42) (by kernel_rfl) rfl z2 z6 rfl rfl rfl (fun _=>yT yU rfl rfl zeO.1 zeO.2 (y6n zbM.1 zeO.1)) ?_
         refine WD.e (i:=8) (d:=43) (by kernel_rfl) rfl z2 z6 rfl rfl rfl (y5 yd rfl (y3x .here ((y33 (enc:=e3) (l:=z1l) (i:=z10 + (i64 (k2_9039 - 1))) (sz:=1) (fun _=>rfl) zkn.1 zkn.2) 0 _ rfl))) ?_
         refine WD.a (i:=9) (d:=44) (by kernel_rfl) rfl z2 z6 rfl rfl rfl (fun _=>q_neq rfl rfl) ?_
         refine WD.done (by kernel_rfl) ?_
         refine WX.a ?_
         refine WC.cond rfl (fun zg9=>?_) (fun zg9=>?_)
         ·replace h:=yl h zg9
          refine WC.b ?_
          obtain ⟨zeP,h⟩:=ya h
          obtain ⟨zdu,h⟩:=ya h
          refine WC.a (WL.pu rfl (WL.pu rfl (WL.pu rfl (WL.pu rfl ?_))))
          have zko : (0 : Int) ≤ z10 + k2_9039 ∧ z10 + k2_9039 < ((z1l.length : Nat) : Int):=by have h1:=zdt; have h2:=zbM; have h3:=zeP; omega
          refine WL.a (d:=49) rfl rfl rfl (yT yU rfl rfl zeP.1 zeP.2 (y6n zbM.1 zeP.1)) ?_
          refine WL.a (d:=50) rfl rfl rfl (y5 yd rfl (y3x .here ((y33 (enc:=e3) (l:=z1l) (i:=z10 + k2_9039) (sz:=1) (fun _=>rfl) zko.1 zko.2) 0 _ rfl))) ?_
          refine WL.a (d:=51) rfl rfl rfl (yT yU rfl rfl zdu.1 zdu.2 y3f) ?_
          refine WL.yg rfl rfl (y5p (vs:=[(.int .i64 (nth z1l (z10 + k2_9039)))]) (ds:=(z1l.set (z2Z : Int).toNat (nth z1l (z10 + k2_9039))).flatMap e3) y20 rfl rfl rfl rfl (y6I rfl y7b) .here (y6m (enc:=e3) (sz:=1) (k:=0) (fun _=>rfl) zdu.1 zdu.2 (by decide)) (y6l (enc:=e3) (l:=z1l) (sz:=1) (vs:=[(.int .i64 (nth z1l (z10 + k2_9039)))]) (y:=(nth z1l (z10 + k2_9039))) (k:=0) (fun _=>rfl) zdu.1 zdu.2 rfl (Nat.le_of_ble_eq_true rfl))) ?_
          refine WL.relen .here (u:=(.slice (some ⟨z5A,0,none⟩) ((z1l.set (z2Z : Int).toNat (nth z1l (z10 + k2_9039))).length) z2i)) (slen (List.length_set).symm) ?_
          refine WL.repin (i:=0) rfl (u:=(.slice (some ⟨z5A,0,none⟩) ((z1l.set (z2Z : Int).toNat (nth z1l (z10 + k2_9039))).length) z2i)) (slen (List.length_set).symm) ?_
          refine WL.nil (WX.a (WC.a (WL.pu rfl (WL.pu rfl (WL.pu rfl (WL.nil (WX.yk ?_)))))))
          exact WX.mid (G:=List Int × Int) ⟨(z1l.set (z2Z : Int).toNat (nth z1l (z10 + k2_9039))),(i64 (z2Z + 1))⟩ ⟨h,((List.length_set).trans zdt)⟩ (.cons rfl (.cons rfl (.cons rfl (.cons rfl .nil)))) (.cons .here .nil)
         ·replace h:=ym h zg9
          refine WC.skip (WX.yk ?_)
          exact WX.mid (G:=List Int × Int) ⟨z1l,z2Z⟩ ⟨h,zdt⟩ (.cons rfl (.cons rfl (.cons rfl (.cons rfl .nil)))) (.cons .here .nil)
        ·rintro z5z z8T ⟨h,zsy⟩
         replace h:=(zsx z5z z8T).symm.trans h
         refine WC.a (WL.pu rfl (WL.pu rfl (WL.pu rfl (WL.nil ?_))))
         exact WX.round (G:=Nat × List Int × Int × Int) ⟨zg2,z5z,z8T,(i64 (k2_9039 + 1))⟩ ⟨h,zsy⟩ (Nat.lt_succ_self _) (.cons rfl (.cons rfl (.cons rfl (.cons rfl .nil)))) (.cons .here .nil)
       ·replace h:=ym h zg8
        refine WC.exit (WX.yQ (WX.yQ (WX.y1L ?_)))
        exact WX.mid (G:=List Int × Int) ⟨z1l,z2Z⟩ ⟨h,zdt⟩ (.cons rfl (.cons rfl .nil)) (.cons .here .nil)
      ·rintro z30 z31 ⟨h,zxq⟩
       replace h:=(zsw z30 z31).symm.trans h
       refine WC.b ?_
       obtain ⟨zeQ,h⟩:=ya h
       refine WC.a (WL.pu rfl (WL.pu rfl ?_))
       refine WL.y87 (dd:=56) rfl rfl yU rfl rfl .here zeQ ?_
       intro zxr zxs zsz
       refine WL.yg rfl rfl (y7e (enc:=e3) (z0:=(0 : Int)) (l:=z30) yU y6b rfl zsz zeQ (fun _=>rfl) (by decide) rfl y6A .here) ?_
       refine WL.relen .here (u:=(.slice (some ⟨z5A,0,none⟩) ((z30.take (z31 : Int).toNat ++ List.replicate (z30.length - (z31 : Int).toNat) (0 : Int)).length) z2i)) (slen (y5T zeQ).symm) ?_
       refine WL.repin (i:=0) rfl (u:=(.slice (some ⟨z5A,0,none⟩) ((z30.take (z31 : Int).toNat ++ List.replicate (z30.length - (z31 : Int).toNat) (0 : Int)).length) z2i)) (slen (y5T zeQ).symm) ?_
       refine WL.nil (WX.a (WC.b ?_))
       obtain ⟨zsA,h⟩:=ya h
       refine WC.a (WL.pu rfl (WL.pu rfl ?_))
       refine WL.y86 (dd:=59) (enc:=e3) (ls:=z30.take (z31 : Int).toNat ++ List.replicate (z30.length - (z31 : Int).toNat) (0 : Int)) rfl rfl yU rfl rfl .here (fun _=>rfl) zsA ?_
       intro zsB zsC
       refine WL.pu rfl (WL.nil (WX.a (WC.ret (WX.yL (WX.yf (WX.yf (WX.yL (WX.yf ?_))))))))
       obtain rfl:=Option.some.inj h
       refine WX.yh Tryd.results35 (.tmp rfl .nil) (fun w hw=>?_)
       exact ⟨zsB,zsC,y1a rfl,trivial,hw.sub (.cons .here .nil)⟩
     ·replace h:=ym h zg7
      refine WC.skip (WX.yk ?_)
      exact WX.mid (G:=Unit) () h (.cons rfl (.cons rfl .nil)) (.cons .here .nil)
    ·rintro  h
     replace h:=zsv.symm.trans h
     refine WC.a (WL.pu rfl (WL.pu rfl (WL.pu rfl (WL.nil ?_))))
     exact WX.round (G:=Nat × Int) ⟨zg3,(i64 (z10 + 1))⟩ h (Nat.lt_succ_self _) (.cons rfl (.cons rfl .nil)) (.cons .here .nil)
   ·replace h:=ym h zg6
    refine WC.exit (WX.yQ (WX.yQ (WX.y1L ?_)))
    exact WX.mid (G:=Unit) () h (.cons rfl .nil) (.cons .here .nil)
  ·rintro  h
   replace h:=zsu.symm.trans h
   refine WC.b (WC.a (WL.pu rfl (WL.pu rfl (WL.nil (WX.a (WC.ret ?_))))))
   obtain rfl:=Option.some.inj h
   refine WX.yh Tryd.results35 (.tmp rfl .nil) (fun w hw=>?_)
   exact ⟨z4n,z2i,y1a rfl,trivial,hw.sub (.cons .here .nil)⟩
def y2c (zbN : List Sapi_Ins) (z32 : Int) : Option (List Int) :=
 (y2U zbN z32).bind fun z2f=>if !z2f.2 then some ([] : List Int) else jp1 (fun (z6B : List Int)=>(y2o z6B).bind fun zeR=>(yP zeR).bind fun zkp=>some zkp) fun zdN=>jp1 (fun (zap : Bool)=>if zap then some ([] : List Int) else if decide (z2f.1.fOp = 20) then some ([z2f.1.fA] : List Int) else if decide (z2f.1.fOp = 21) then chk ((((([i64 (z32 + 1)] : List Int) ++ ([z2f.1.fB] : List Int)).length : Nat) : Int) * 8 ≤ 140737488355328 ∧ (((([i64 (z32 + 1)] : List Int) ++ ([z2f.1.fB] : List Int)).length : Nat) : Int) ≤ 4611686018427387904) (zdN (([i64 (z32 + 1)] : List Int) ++ ([z2f.1.fB] : List Int))) else if decide (z2f.1.fOp = 22) then chk ((((([i64 (z32 + 1)] : List Int) ++ ([z2f.1.fC] : List Int)).length : Nat) : Int) * 8 ≤ 140737488355328 ∧ (((([i64 (z32 + 1)] : List Int) ++ ([z2f.1.fC] : List Int)).length : Nat) : Int) ≤ 4611686018427387904) (zdN (([i64 (z32 + 1)] : List Int) ++ ([z2f.1.fC] : List Int))) else zdN ([i64 (z32 + 1)] : List Int)) fun zeS=>if decide (z2f.1.fOp = 19) then zeS (decide (z2f.1.fOp = 19)) else zeS (decide (z2f.1.fOp = 25))
set_option maxRecDepth 20000 in
theorem y6e (Z : Zp) (zeT : Option Addr) (zeU : Nat) (zbN : List Sapi_Ins) (z32 : Int) (r : List Int)
  (h : y2c zbN z32 = some r) (w₀ : World) (hz : PZ [] w₀ Z)
  (hG1 : ZS Z 1 (p74 Z) (some ⟨1,0,none⟩) 26 y17)
  (zsD : ZS Z 4 (fun r x=>r = e33 x) zeT zeU zbN) :
  Calls Tryd.prog 15 #[(.slice zeT zbN.length zeU),(.int .i64 z32)] w₀ fun e w'=>∃ zkq : Option Addr,∃ zkr : Nat,e = .returned (.slice zkq r.length zkr) ∧ True ∧ Hp [] w₀ w' [row (.slice zkq r.length zkr) 3 1 (r.flatMap e3)]:=by
 unfold y2c at h
 refine Calls.y8 (vs:=[(.slice zeT zbN.length zeU),(.int .i64 z32)]) (pre:=[]) (env:=[(0,(.slice zeT zbN.length zeU)),(1,(.int .i64 z32))]) Tryd.func15 rfl Tryd.ntmps15 rfl (Hp.nil w₀ _) rfl ?_
 refine WC.b (WC.a (WL.pu rfl (WL.nil (WX.a (WC.b ?_)))))
 obtain ⟨z2f,zsE,h⟩:=zd h
 refine WC.a (WL.pu rfl (WL.pu rfl ?_))
 refine WL.b (dd:=11) rfl rfl rfl (zl (l:=[.tmp 9,.tmp 10]) Tryd.call33 (.cons rfl (.cons rfl .nil))) .nil (cc hz .nil fun w pz ho=>y4B _ _ _ _ _ _ zsE w pz hG1 zsD) ?_
 refine WL.pu rfl (WL.pu rfl (WL.pu rfl ?_))
 refine WL.new (dd:=5) rfl rfl rfl (yE (cs:=[(.int .u8 0),(.int .i64 0),(.int .i64 0),(.int .i64 0)]) y3W rfl) ?_
 intro zks _
 refine WL.yg rfl rfl (yu y3X rfl rfl rfl .here rfl rfl rfl) ?_
 refine WL.pu rfl (WL.nil (WX.a (WC.b (WC.b (WC.a (WL.pu rfl (WL.pu rfl (WL.nil (WX.a ?_)))))))))
 refine WC.cond rfl (fun zga=>?_) (fun zga=>?_)
 ·replace h:=yl h zga
  refine WC.b (WC.a (WL.pu rfl (WL.nil (WX.a (WC.ret (WX.yf ?_))))))
  refine WX.nilRow 3 1 ?_
  obtain rfl:=Option.some.inj h
  refine WX.yh Tryd.results15 (.tmp rfl .nil) (fun w hw=>?_)
  exact ⟨none,0,y1a rfl,trivial,hw.sub (.cons .here .nil)⟩
 ·replace h:=ym h zga
  refine WC.skip (WX.a (WC.b (WC.a (WL.pu rfl (WL.pu rfl ?_)))))
  refine WL.new (dd:=18) rfl rfl rfl (yy (cs:=([i64 (z32 + 1)] : List Int).flatMap e3) yU (Eos.parts (l:=[.tmp 17]) (.cons rfl .nil) [0]) (fun _=>by kernel_rfl) rfl (by unfold maxLen; omega)) ?_
  intro zgb _
  refine WL.pu rfl (WL.nil (WX.a ?_))
  obtain ⟨zdN,zsF,h⟩:=y3g h
  refine WC.y7R (fun (z6B : List Int) (zbO : Option Addr) (zbP : Nat)=>(zdN z6B = some r)) (fun (z6B : List Int) (zbO : Option Addr) (zbP : Nat)=>[(7,(.slice zbO z6B.length zbP))]) (fun (z6B : List Int) (zbO : Option Addr) (zbP : Nat)=>[row (.slice zbO z6B.length zbP) 3 1 (z6B.flatMap e3)]) ?_ ?_
  ·skip
   refine WC.b (WC.a ?_)
   refine WL.a (d:=19) rfl rfl rfl (y4 y2C rfl rfl) ?_
   refine WL.a (d:=20) rfl rfl rfl (y5 yB rfl (yb .h1 rfl)) ?_
   refine WL.nil (WX.a (WC.block ?_))
   obtain ⟨zeS,zsG,h⟩:=y3g h
   refine WC.y2V (fun (zap : Bool)=>(zeS zap = some r)) (fun (zap : Bool)=>[(5,(.pointer (some ⟨zks,0,none⟩))),(7,(.slice (some ⟨zgb,0,none⟩) (([i64 (z32 + 1)] : List Int).length) 1)),(20,(.int .u8 z2f.1.fOp)),(21,(.bool zap))]) (fun (zap : Bool)=>[row (.slice (some ⟨zgb,0,none⟩) (([i64 (z32 + 1)] : List Int).length) 1) 3 1 (([i64 (z32 + 1)] : List Int).flatMap e3),stb zks 33 [(.int .u8 z2f.1.fOp),(.int .i64 z2f.1.fA),(.int .i64 z2f.1.fB),(.int .i64 z2f.1.fC)]]) ?_ ?_
   ·skip
    refine WC.b (WC.a (WL.pu rfl (WL.pu rfl (WL.nil (WX.a ?_)))))
    refine WC.cond rfl (fun zgc=>?_) (fun zgc=>?_)
    ·replace h:=yl h zgc
     refine WC.skip ?_
     exact WX.mid (G:=Bool) (decide (z2f.1.fOp = 19)) h (.cons rfl (.cons rfl (.cons rfl (.cons rfl .nil)))) (.cons .here (.cons .here .nil))
    ·replace h:=ym h zgc
     refine WC.a (WL.pu rfl (WL.pu rfl (WL.nil ?_)))
     exact WX.mid (G:=Bool) (decide (z2f.1.fOp = 25)) h (.cons rfl (.cons rfl (.cons rfl (.cons rfl .nil)))) (.cons .here (.cons .here .nil))
   ·rintro zap h
    replace h:=(zsG zap).symm.trans h
    refine WC.cond rfl (fun zgd=>?_) (fun zgd=>?_)
    ·replace h:=yl h zgd
     refine WC.b (WC.a (WL.pu rfl (WL.nil (WX.a (WC.ret (WX.yL (WX.yf ?_)))))))
     refine WX.nilRow 3 1 ?_
     obtain rfl:=Option.some.inj h
     refine WX.yh Tryd.results15 (.tmp rfl .nil) (fun w hw=>?_)
     exact ⟨none,0,y1a rfl,trivial,hw.sub (.cons .here .nil)⟩
    ·replace h:=ym h zgd
     refine WC.b (WC.a (WL.pu rfl (WL.pu rfl (WL.nil (WX.a ?_)))))
     refine WC.cond rfl (fun zge=>?_) (fun zge=>?_)
     ·replace h:=yl h zge
      refine WC.b (WC.a ?_)
      refine WL.a (d:=26) rfl rfl rfl (y4 yS rfl rfl) ?_
      refine WL.a (d:=27) rfl rfl rfl (y5 yd rfl (yb .h1 rfl)) ?_
      refine WL.new (dd:=28) rfl rfl rfl (yy (cs:=([z2f.1.fA] : List Int).flatMap e3) yU (Eos.parts (l:=[.tmp 27]) (.cons rfl .nil) [0]) (fun _=>by kernel_rfl) rfl (by unfold maxLen; omega)) ?_
      intro zsH _
      refine WL.pu rfl (WL.nil (WX.a (WC.ret (WX.yL (WX.yf ?_)))))
      obtain rfl:=Option.some.inj h
      refine WX.yh Tryd.results15 (.tmp rfl .nil) (fun w hw=>?_)
      exact ⟨(some ⟨zsH,0,none⟩),1,y1a rfl,trivial,hw.sub (.cons .here .nil)⟩
     ·replace h:=ym h zge
      refine WC.b (WC.a (WL.pu rfl (WL.pu rfl (WL.nil (WX.a ?_)))))
      refine WC.cond rfl (fun zgf=>?_) (fun zgf=>?_)
      ·replace h:=yl h zgf
       obtain ⟨zsI,h⟩:=ya h
       refine WC.a (WL.pu rfl ?_)
       refine WL.a (d:=32) rfl rfl rfl (y4 y14 rfl rfl) ?_
       refine WL.a (d:=33) rfl rfl rfl (y5 yd rfl (yb .h1 rfl)) ?_
       refine WL.new (dd:=34) rfl rfl rfl (yy (cs:=([z2f.1.fB] : List Int).flatMap e3) yU (Eos.parts (l:=[.tmp 33]) (.cons rfl .nil) [0]) (fun _=>by kernel_rfl) rfl (by unfold maxLen; omega)) ?_
       intro zxt _
       refine WL.eff (d:=35) rfl rfl rfl (y40 (enc:=e3) (l1:=([i64 (z32 + 1)] : List Int)) (l2:=([z2f.1.fB] : List Int)) yU rfl rfl .h1 (fun _=>rfl) rfl rfl (y6j .here) (y46 y6A _) zsI) ?_
       rintro ⟨zsJ,zsK⟩ _
       refine WL.pu rfl (WL.nil (WX.yk ?_))
       exact WX.mid (G:=List Int × Option Addr × Nat) ⟨(([i64 (z32 + 1)] : List Int) ++ ([z2f.1.fB] : List Int)),zsJ,zsK⟩ h (.cons rfl .nil) (.cons .here .nil)
      ·replace h:=ym h zgf
       refine WC.b (WC.a (WL.pu rfl (WL.pu rfl (WL.nil (WX.a ?_)))))
       refine WC.cond rfl (fun zgg=>?_) (fun zgg=>?_)
       ·replace h:=yl h zgg
        obtain ⟨zsL,h⟩:=ya h
        refine WC.a (WL.pu rfl ?_)
        refine WL.a (d:=39) rfl rfl rfl (y4 y3q rfl rfl) ?_
        refine WL.a (d:=40) rfl rfl rfl (y5 yd rfl (yb .h1 rfl)) ?_
        refine WL.new (dd:=41) rfl rfl rfl (yy (cs:=([z2f.1.fC] : List Int).flatMap e3) yU (Eos.parts (l:=[.tmp 40]) (.cons rfl .nil) [0]) (fun _=>by kernel_rfl) rfl (by unfold maxLen; omega)) ?_
        intro zxu _
        refine WL.eff (d:=42) rfl rfl rfl (y40 (enc:=e3) (l1:=([i64 (z32 + 1)] : List Int)) (l2:=([z2f.1.fC] : List Int)) yU rfl rfl .h1 (fun _=>rfl) rfl rfl (y6j .here) (y46 y6A _) zsL) ?_
        rintro ⟨zsM,zsN⟩ _
        refine WL.pu rfl (WL.nil (WX.yk ?_))
        exact WX.mid (G:=List Int × Option Addr × Nat) ⟨(([i64 (z32 + 1)] : List Int) ++ ([z2f.1.fC] : List Int)),zsM,zsN⟩ h (.cons rfl .nil) (.cons .here .nil)
       ·replace h:=ym h zgg
        refine WC.skip (WX.yk ?_)
        exact WX.mid (G:=List Int × Option Addr × Nat) ⟨([i64 (z32 + 1)] : List Int),(some ⟨zgb,0,none⟩),1⟩ h (.cons rfl .nil) (.cons .here .nil)
  ·rintro z6B zbO zbP h
   replace h:=(zsF z6B).symm.trans h
   refine WC.b ?_
   obtain ⟨zeR,zsO,h⟩:=zd h
   refine WC.a (WL.pu rfl ?_)
   refine WL.y80 (dd:=44) rfl rfl rfl (zl (l:=[.tmp 43]) Tryd.call34 (.cons rfl .nil)) (.cons .here .nil) (cc hz (.cons .here .nil) fun w pz ho=>y74 (Z:=_) (ao:=zbO) (cap:=zbP) (l:=z6B) (r:=zeR) w pz  zsO ho) ?_
   rintro  zsP
   refine WL.repin (i:=7) rfl (u:=(.slice zbO zeR.length zbP)) (slen zsP.symm) ?_
   refine WL.nil (WX.a (WC.b ?_))
   obtain ⟨zkp,zsQ,h⟩:=zd h
   refine WC.a (WL.pu rfl ?_)
   refine WL.y1Z (dd:=46) rfl rfl rfl (zl (l:=[.tmp 45]) Tryd.call35 (.cons rfl .nil)) (.cons .here .nil) (cc hz (.cons .here .nil) fun w pz ho=>y4i _ _ _ _ _ zsQ w pz  ho) ?_
   rintro zsR zsS _
   refine WL.pu rfl (WL.nil (WX.a (WC.ret ?_)))
   obtain rfl:=Option.some.inj h
   refine WX.yh Tryd.results15 (.tmp rfl .nil) (fun w hw=>?_)
   exact ⟨zsR,zsS,y1a rfl,trivial,hw.sub (.cons .here .nil)⟩
def y15 (z3Z : List Int) (zeV : Int → (List (Int × Int)) → (List Sapi_Ins) → Option (Bool × (List (Int × Int)))) (z2b : List Sapi_Ins) (z8V : Int → (List (Int × Int)) → Option (Bool × (List (Int × Int)))) : Nat → Int → Int → (List (Int × Int)) → Option (Bool × (List (Int × Int)))
 | 0,_,_,_=>none
 | zgh + 1,z4V,z3C,z4W=>if decide (z3C < ((z3Z.length : Nat) : Int)) then chk ((0 : Int) ≤ z3C ∧ z3C < ((z3Z.length : Nat) : Int)) ((zeV (nth z3Z z3C) z4W z2b).bind fun zaq=>if !zaq.1 then some (false,zaq.2) else y15 z3Z zeV z2b z8V zgh (max z4V (y2t zaq.2 (nth z3Z z3C) 0)) (i64 (z3C + 1)) zaq.2) else z8V z4V z4W
theorem y4j {n : Nat} {z3Z : List Int} {zeV : Int → (List (Int × Int)) → (List Sapi_Ins) → Option (Bool × (List (Int × Int)))} {z2b : List Sapi_Ins} {z8V : Int → (List (Int × Int)) → Option (Bool × (List (Int × Int)))} {z4V : Int} {z3C : Int} {z4W : List (Int × Int)} {r : Bool × (List (Int × Int))} (h : y15 z3Z zeV z2b z8V n z4V z3C z4W = some r) : ∃ m,n = m + 1:=by
 cases n with
 | zero=>cases h
 | succ m=>exact ⟨m,rfl⟩
def y10 : Nat → Int → (List (Int × Int)) → (List Sapi_Ins) → Option (Bool × (List (Int × Int)))
 | 0,_,_,_=>none
 | zgi + 1,z1k,z2D,z2b=>if y4f z2D z1k then some ((decide ((y2t z2D z1k 0) ≠ (-1))),z2D) else jp2 (fun (z40 : Int) (z4C : List (Int × Int))=>jp1 (fun (z7x : List (Int × Int))=>some (true,z7x)) fun zbQ=>chk ((0 : Int) ≤ z1k ∧ z1k < ((z2b.length : Nat) : Int)) (if decide (((nth z2b z1k).fOp) = 1) then chk ((0 : Int) ≤ z1k ∧ z1k < ((z2b.length : Nat) : Int)) (zbQ (y1i (y1i z4C z1k (i64 (z40 + 1))) z1k (i64 (z40 + ((nth z2b z1k).fA))))) else zbQ (y1i z4C z1k (i64 (z40 + 1))))) fun z8V=>(y2c z2b z1k).bind fun z3Z=>y15 z3Z (y10 zgi) z2b z8V y1K 0 0 (y1i z2D z1k (-1))
def y3G (z1k : Int) (z2D : List (Int × Int)) (z2b : List Sapi_Ins) : Option (Bool × (List (Int × Int))):=y10 y1K z1k z2D z2b
set_option maxRecDepth 20000 in
theorem y5E : ∀ (n : Nat) (Z : Zp) (z4c : Addr) (z2Q : Nat) (z4d : Addr) (z6C : Option Addr) (z6D : Nat) (z4o : Addr) (z1k : Int) (z2D : List (Int × Int)) (z2b : List Sapi_Ins) (r : Bool × (List (Int × Int))) (w₀ : World) (hz : PZ (fps [y1r z2Q (Value.int .i64) (Value.int .i64) z2D]) w₀ Z)
  (hG1 : ZS Z 1 (p74 Z) (some ⟨1,0,none⟩) 26 y17)
  (z7y : ZC Z z4c [(.map (some z2Q))])
  (zar : ZS Z 4 (fun r x=>r = e33 x) z6C z6D z2b)
  (zas : ZC Z z4d [(.slice z6C z2b.length z6D)])
  (zdv : ZC Z z4o [(.func (.func 29) #[] #[(.pointer (some z4c)),(.pointer (some z4d)),(.pointer (some z4o))])]) (h : y10 n z1k z2D z2b = some r)
  (hown : Hp (fps [y1r z2Q (Value.int .i64) (Value.int .i64) z2D]) w₀ w₀ [y1r z2Q (Value.int .i64) (Value.int .i64) z2D]),Calls Tryd.prog 29 #[(.int .i64 z1k),(.pointer (some z4c)),(.pointer (some z4d)),(.pointer (some z4o))] w₀ fun e w'=>e = .returned (.bool r.1) ∧ Hp (fps [y1r z2Q (Value.int .i64) (Value.int .i64) z2D]) w₀ w' [y1r z2Q (Value.int .i64) (Value.int .i64) r.2]:=by
 intro n
 induction n with
 | zero=>intro Z z4c z2Q z4d z6C z6D z4o z1k z2D z2b r w₀ hz hG1 z7y zar zas zdv h hown; cases h
 | succ zgi ih =>
  intro Z z4c z2Q z4d z6C z6D z4o z1k z2D z2b r w₀ hz hG1 z7y zar zas zdv h hown
  rw [y10] at h
  refine Calls.y8 (vs:=[(.int .i64 z1k),(.pointer (some z4c)),(.pointer (some z4d)),(.pointer (some z4o))]) (pre:=[y1r z2Q (Value.int .i64) (Value.int .i64) z2D]) (env:=[(0,(.int .i64 z1k)),(1,(.pointer (some z4c))),(2,(.pointer (some z4d))),(3,(.pointer (some z4o)))]) Tryd.func29 rfl Tryd.ntmps29 rfl (hown) rfl ?_
  refine WC.b (WC.a (WL.pu rfl (WL.nil (WX.a (WC.b (WC.b (WC.a ?_)))))))
  refine WL.a (d:=12) rfl rfl rfl (y5 y4a rfl (y3u hz.pv z7y rfl)) ?_
  refine WL.pu rfl ?_
  refine WL.a (d:=14) rfl rfl rfl (y8c (k:=z1k) (dflt:=(0 : Int)) y4g Tryd.underlying54 y6b rfl rfl rfl .here) ?_
  refine WL.pu rfl (WL.pu rfl (WL.pu rfl (WL.pu rfl (WL.pu rfl (WL.nil (WX.a (WC.b (WC.a (WL.pu rfl (WL.nil (WX.a ?_)))))))))))
  refine WC.cond rfl (fun zgj=>?_) (fun zgj=>?_)
  ·replace h:=yl h zgj
   refine WC.b (WC.a (WL.pu rfl (WL.pu rfl (WL.pu rfl (WL.nil (WX.a (WC.ret (WX.yf ?_))))))))
   obtain rfl:=Option.some.inj h
   refine WX.yh Tryd.results29 (.tmp rfl .nil) (fun w hw=>?_)
   exact ⟨y1a rfl,hw.sub (.cons .here .nil)⟩
  ·replace h:=ym h zgj
   refine WC.skip (WX.a (WC.b (WC.a ?_)))
   refine WL.a (d:=20) rfl rfl rfl (y5 y4a rfl (y3u hz.pv z7y rfl)) ?_
   refine WL.pu rfl ?_
   refine WL.yg rfl rfl (y4C (k:=z1k) (v:=(-1)) y4g Tryd.underlying54 rfl rfl rfl rfl .here) ?_
   refine WL.nil (WX.a (WC.b (WC.a (WL.pu rfl (WL.nil (WX.a ?_))))))
   obtain ⟨z8V,zsT,h⟩:=y5t h
   refine WC.y44 (fun (z40 : Int) (z4C : List (Int × Int))=>(z8V z40 z4C = some r)) (fun (z40 : Int) (z4C : List (Int × Int))=>[(0,(.int .i64 z1k)),(1,(.pointer (some z4c))),(2,(.pointer (some z4d))),(8,(.int .i64 z40))]) (fun (z40 : Int) (z4C : List (Int × Int))=>[y1r z2Q (Value.int .i64) (Value.int .i64) z4C]) ?_ ?_
   ·skip
    refine WC.b ?_
    obtain ⟨z3Z,zsU,h⟩:=zd h
    refine WC.a ?_
    refine WL.a (d:=22) rfl rfl rfl (y5 y3I rfl (y3u hz.pv zas rfl)) ?_
    refine WL.pu rfl ?_
    refine WL.y1Z (dd:=24) rfl rfl rfl (zl (l:=[.tmp 22,.tmp 23]) Tryd.call15 (.cons rfl (.cons rfl .nil))) .nil (cc hz .nil fun w pz ho=>y6e _ _ _ _ _ _ zsU w pz hG1 zar) ?_
    rintro zkt zku _
    refine WL.a (d:=25) rfl rfl rfl (y1s Tryd.underlying30 rfl) ?_
    refine WL.pu rfl (WL.nil (WX.a (WC.block ?_)))
    refine WC.y79 (fun (zdw : Nat) (z4V : Int) (z3C : Int) (z4W : List (Int × Int))=>(y15 z3Z (y10 zgi) z2b z8V zdw z4V z3C z4W = some r)) (fun (zdw : Nat) (z4V : Int) (z3C : Int) (z4W : List (Int × Int))=>[(0,(.int .i64 z1k)),(1,(.pointer (some z4c))),(2,(.pointer (some z4d))),(3,(.pointer (some z4o))),(8,(.int .i64 z4V)),(24,(.slice zkt z3Z.length zku)),(25,(.int .i64 ((z3Z.length : Nat) : Int))),(26,(.int .i64 z3C))]) (fun (zdw : Nat) (z4V : Int) (z3C : Int) (z4W : List (Int × Int))=>[row (.slice zkt z3Z.length zku) 3 1 (z3Z.flatMap e3),y1r z2Q (Value.int .i64) (Value.int .i64) z4W]) (fun (zdw : Nat) (z4V : Int) (z3C : Int) (z4W : List (Int × Int))=>zdw) ⟨y1K,0,0,(y1i z2D z1k (-1))⟩ h (.cons rfl (.cons rfl (.cons rfl (.cons rfl (.cons rfl (.cons rfl (.cons rfl (.cons rfl .nil)))))))) (.cons .here (.cons .here .nil)) ?_
    rintro zdw z4V z3C z4W h
    obtain ⟨zgh,rfl⟩:=y4j h
    rw [y15] at h
    refine WC.b (WC.a (WL.pu rfl (WL.nil (WX.a (WC.b ?_)))))
    refine WC.cond rfl (fun zgk=>?_) (fun zgk=>?_)
    ·replace h:=yl h zgk
     refine WC.skip (WX.a (WC.b (WC.block (WC.b ?_))))
     obtain ⟨zdO,h⟩:=ya h
     refine WC.a ?_
     refine WL.know (fun w hw=>Hp.y3Z .here hw (by intro hz'; have:=zdO; rw [hz'] at this; omega)) ?_
     rintro ⟨zxv,rfl⟩
     refine WL.a (d:=28) rfl rfl rfl (yT yU rfl rfl zdO.1 zdO.2 y3f) ?_
     refine WL.a (d:=29) rfl rfl rfl (y5 yd rfl (y3x .here ((y33 (enc:=e3) (l:=z3Z) (i:=z3C) (sz:=1) (fun _=>rfl) zdO.1 zdO.2) 0 _ rfl))) ?_
     refine WL.pu rfl (WL.nil (WX.a (WC.b (WC.b ?_))))
     obtain ⟨zaq,zsV,h⟩:=zd h
     refine WC.a ?_
     refine WL.a (d:=30) rfl rfl rfl (y5 y7I rfl (y3u hz.pv zdv rfl)) ?_
     refine WL.pu rfl ?_
     refine WL.b (dd:=32) rfl rfl rfl (ye (l:=[.tmp 31]) Tryd.call29 rfl (.cons rfl .nil)) (.cons .h1 .nil) (cc hz (.cons .h1 .nil) fun w pz ho=>ih (Z:=_) (z4c:=z4c) (z2Q:=z2Q) (z4d:=z4d) (z6C:=z6C) (z6D:=z6D) (z4o:=z4o) (z1k:=(nth z3Z z3C)) (z2D:=z4W) (z2b:=z2b) (r:=zaq) w pz hG1 z7y zar zas zdv zsV ho) ?_
     refine WL.pu rfl (WL.nil (WX.a ?_))
     refine WC.cond rfl (fun zgl=>?_) (fun zgl=>?_)
     ·replace h:=yl h zgl
      refine WC.b (WC.a (WL.pu rfl (WL.nil (WX.a (WC.ret (WX.yf (WX.yL (WX.yf (WX.yf (WX.yL (WX.yf ?_)))))))))))
      obtain rfl:=Option.some.inj h
      refine WX.yh Tryd.results29 (.tmp rfl .nil) (fun w hw=>?_)
      exact ⟨y1a rfl,hw.sub (.cons .here .nil)⟩
     ·replace h:=ym h zgl
      refine WC.skip (WX.a (WC.a (WL.pu rfl ?_)))
      refine WL.a (d:=35) rfl rfl rfl (y5 y4a rfl (y3u hz.pv z7y rfl)) ?_
      refine WL.pu rfl ?_
      refine WL.a (d:=37) rfl rfl rfl (y7i (k:=(nth z3Z z3C)) (dflt:=(0 : Int)) y4g Tryd.underlying54 y6b rfl rfl rfl .here) ?_
      refine WL.a (d:=38) rfl rfl rfl (q_max rfl rfl rfl) ?_
      refine WL.pu rfl (WL.nil (WX.yk (WX.a (WC.a (WL.pu rfl (WL.pu rfl (WL.nil ?_)))))))
      exact WX.round (G:=Nat × Int × Int × (List (Int × Int))) ⟨zgh,(max z4V (y2t zaq.2 (nth z3Z z3C) 0)),(i64 (z3C + 1)),zaq.2⟩ h (Nat.lt_succ_self _) (.cons rfl (.cons rfl (.cons rfl (.cons rfl (.cons rfl (.cons rfl (.cons rfl (.cons rfl .nil)))))))) (.cons .h1 (.cons .here .nil))
    ·replace h:=ym h zgk
     refine WC.exit (WX.yQ (WX.yQ (WX.y1L ?_)))
     exact WX.mid (G:=Int × (List (Int × Int))) ⟨z4V,z4W⟩ h (.cons rfl (.cons rfl (.cons rfl (.cons rfl .nil)))) (.cons .h1 .nil)
   ·rintro z40 z4C h
    replace h:=(zsT z40 z4C).symm.trans h
    refine WC.b (WC.a ?_)
    refine WL.a (d:=40) rfl rfl rfl (y5 y4a rfl (y3u hz.pv z7y rfl)) ?_
    refine WL.pu rfl (WL.pu rfl (WL.pu rfl ?_))
    refine WL.yg rfl rfl (y4C (k:=z1k) (v:=i64 (z40 + 1)) y4g Tryd.underlying54 rfl rfl rfl rfl .here) ?_
    refine WL.nil (WX.a ?_)
    obtain ⟨zbQ,zsW,h⟩:=y3g h
    refine WC.y2V (fun (z7x : List (Int × Int))=>(zbQ z7x = some r)) (fun (z7x : List (Int × Int))=>[]) (fun (z7x : List (Int × Int))=>[y1r z2Q (Value.int .i64) (Value.int .i64) z7x]) ?_ ?_
    ·skip
     refine WC.b ?_
     obtain ⟨zsX,h⟩:=ya h
     refine WC.a ?_
     refine WL.a (d:=44) rfl rfl rfl (y5 y3I rfl (y3u hz.pv zas rfl)) ?_
     refine WL.pu rfl ?_
     refine WL.znth (dd:=46) rfl rfl (Z:=Z) (Pr:=(fun r x=>r = e33 x)) y3P rfl rfl zar zsX ?_
     rintro zxw zxx zsY zxy rfl
     refine WL.a (d:=47) rfl rfl rfl (y4 y2C rfl rfl) ?_
     refine WL.a (d:=48) rfl rfl rfl (y5 yB rfl (y7c hz.pv zsY rfl)) ?_
     refine WL.pu rfl (WL.nil (WX.a ?_))
     refine WC.cond rfl (fun zgm=>?_) (fun zgm=>?_)
     ·replace h:=yl h zgm
      obtain ⟨zsZ,h⟩:=ya h
      refine WC.yX (fun i=>[9].contains i) [] rfl ?_
      refine WD.e (i:=0) (d:=50) (by kernel_rfl) rfl z2 z6 rfl rfl rfl (y5 y4a rfl (y3u hz.pv z7y rfl)) ?_
      refine WD.a (i:=1) (d:=51) (by kernel_rfl) rfl z2 z6 rfl rfl rfl (fun _=>q_m rfl) ?_
      refine WD.a (i:=2) (d:=52) (by kernel_rfl) rfl z2 z6 rfl rfl rfl (fun _=>q_m rfl) ?_
      refine WD.e (i:=3) (d:=53) (by kernel_rfl) rfl z2 z6 rfl rfl rfl (y5 y3I rfl (y3u hz.pv zas rfl)) ?_
      refine WD.a (i:=4) (d:=54) (by kernel_rfl) rfl z2 z6 rfl rfl rfl (fun _=>q_m rfl) ?_
      refine WD.znth (j:=5) (dd:=55) (by kernel_rfl) rfl z2 z6 rfl rfl (Z:=Z) (Pr:=(fun r x=>r = e33 x)) y3P rfl rfl zar zsZ ?_
      rintro zxz zxA zt0 zxB rfl
      refine WD.a (i:=6) (d:=56) (by kernel_rfl) rfl z2 z6 rfl rfl rfl (fun _=>y4 yS rfl rfl) ?_
      refine WD.e (i:=7) (d:=57) (by kernel_rfl) rfl z2 z6 rfl rfl rfl (y5 yd rfl (y7c hz.pv zt0 rfl)) ?_
      refine WD.a (i:=8) (d:=58) (by kernel_rfl) rfl z2 z6 rfl rfl rfl (fun _=>y4v rfl rfl rfl) ?_
      refine WD.y1t (i:=9) rfl (by kernel_rfl) rfl rfl rfl (by kernel_rfl) (y4C (k:=z1k) (v:=i64 (z40 + ((nth z2b z1k).fA))) y4g Tryd.underlying54 rfl rfl rfl rfl .here) ?_
      refine WD.done (by kernel_rfl) ?_
      exact WX.mid (G:=(List (Int × Int))) (y1i (y1i z4C z1k (i64 (z40 + 1))) z1k (i64 (z40 + ((nth z2b z1k).fA)))) h .nil (.cons .here .nil)
     ·replace h:=ym h zgm
      refine WC.skip ?_
      exact WX.mid (G:=(List (Int × Int))) (y1i z4C z1k (i64 (z40 + 1))) h .nil (.cons .here .nil)
    ·rintro z7x h
     replace h:=(zsW z7x).symm.trans h
     refine WC.b (WC.a (WL.pu rfl (WL.nil (WX.a (WC.ret ?_)))))
     obtain rfl:=Option.some.inj h
     refine WX.yh Tryd.results29 (.tmp rfl .nil) (fun w hw=>?_)
     exact ⟨y1a rfl,hw.sub (.cons .here .nil)⟩
theorem y6q (Z : Zp) (z4c : Addr) (z2Q : Nat) (z4d : Addr) (z6C : Option Addr) (z6D : Nat) (z4o : Addr) (z1k : Int) (z2D : List (Int × Int)) (z2b : List Sapi_Ins) (r : Bool × (List (Int × Int))) (w₀ : World) (hz : PZ (fps [y1r z2Q (Value.int .i64) (Value.int .i64) z2D]) w₀ Z)
  (hG1 : ZS Z 1 (p74 Z) (some ⟨1,0,none⟩) 26 y17)
  (z7y : ZC Z z4c [(.map (some z2Q))])
  (zar : ZS Z 4 (fun r x=>r = e33 x) z6C z6D z2b)
  (zas : ZC Z z4d [(.slice z6C z2b.length z6D)])
  (zdv : ZC Z z4o [(.func (.func 29) #[] #[(.pointer (some z4c)),(.pointer (some z4d)),(.pointer (some z4o))])]) (h : y3G z1k z2D z2b = some r)
  (hown : Hp (fps [y1r z2Q (Value.int .i64) (Value.int .i64) z2D]) w₀ w₀ [y1r z2Q (Value.int .i64) (Value.int .i64) z2D]) : Calls Tryd.prog 29 #[(.int .i64 z1k),(.pointer (some z4c)),(.pointer (some z4d)),(.pointer (some z4o))] w₀ fun e w'=>e = .returned (.bool r.1) ∧ Hp (fps [y1r z2Q (Value.int .i64) (Value.int .i64) z2D]) w₀ w' [y1r z2Q (Value.int .i64) (Value.int .i64) r.2]:=y5E y1K Z z4c z2Q z4d z6C z6D z4o z1k z2D z2b r w₀ hz hG1 z7y zar zas zdv h hown
def y1x (z4t : List Sapi_Ins) (z4D : Int) : Option (Int × Bool) :=
 (y2i z4t).bind fun zeW=>if ((!zeW) || (decide (z4D < 0))) || (decide (z4D > ((z4t.length : Nat) : Int))) then some (0,false) else (y3G z4D (y1i ([] : List (Int × Int)) ((z4t.length : Nat) : Int) 0) z4t).bind fun zeX=>if !zeX.1 then some (0,false) else some ((y2t zeX.2 z4D 0),true)
set_option maxRecDepth 20000 in
theorem y3r (Z : Zp) (zdx : Option Addr) (zdy : Nat) (z4t : List Sapi_Ins) (z4D : Int) (r : Int × Bool)
  (h : y1x z4t z4D = some r) (w₀ : World) (hz : PZ [] w₀ Z)
  (hG1 : ZS Z 1 (p74 Z) (some ⟨1,0,none⟩) 26 y17)
  (zkv : ZS Z 4 (fun r x=>r = e33 x) zdx zdy z4t) :
  Calls Tryd.prog 13 #[(.slice zdx z4t.length zdy),(.int .i64 z4D)] w₀ fun e w'=>e = .returned (.tuple #[(.int .i64 r.1),(.bool r.2)]) ∧ Hp [] w₀ w' []:=by
 unfold y1x at h
 refine Calls.y8 (vs:=[(.slice zdx z4t.length zdy),(.int .i64 z4D)]) (pre:=[]) (env:=[(0,(.slice zdx z4t.length zdy)),(1,(.int .i64 z4D))]) Tryd.func13 rfl Tryd.ntmps13 rfl (Hp.nil w₀ _) rfl ?_
 refine WC.b (WC.a ?_)
 refine WL.new (dd:=2) rfl rfl rfl (y3m (cs:=[(.slice zdx z4t.length zdy)]) rfl rfl) ?_
 intro zt1 _
 refine WL.pu rfl (WL.pu rfl (WL.nil (WX.a (WC.b (WC.b ?_)))))
 obtain ⟨zeW,zt2,h⟩:=zd h
 refine WC.a ?_
 refine WL.a (d:=8) rfl rfl rfl (y5 y3I rfl (yb .here rfl)) ?_
 refine WL.b (dd:=9) rfl rfl rfl (zl (l:=[.tmp 8]) Tryd.call14 (.cons rfl .nil)) .nil (cc hz .nil fun w pz ho=>y4h _ _ _ _ _ zt2 w pz hG1 zkv) ?_
 refine WL.pu rfl (WL.pu rfl ?_)
 refine WL.seg false 2 11 (B:=(!zeW) || (decide (z4D < 0))) rfl rfl rfl rfl rfl rfl (fun h=>(or_l h).symm) (fun _ zt3=>?_) ?_
 ·skip
  refine WL.pu rfl (WL.pu rfl (WL.pu rfl ?_))
  exact WL.yN (or_r zt3) rfl rfl .all
 refine WL.pu rfl ?_
 refine WL.seg false 4 15 (B:=((!zeW) || (decide (z4D < 0))) || (decide (z4D > ((z4t.length : Nat) : Int)))) rfl rfl rfl rfl rfl rfl (fun h=>(or_l h).symm) (fun _ zt4=>?_) ?_
 ·skip
  refine WL.pu rfl ?_
  refine WL.a (d:=17) rfl rfl rfl (y5 y3I rfl (yb .here rfl)) ?_
  refine WL.a (d:=18) rfl rfl rfl (y1s Tryd.underlying22 rfl) ?_
  refine WL.pu rfl (WL.pu rfl ?_)
  exact WL.yN (or_r zt4) rfl rfl .all
 refine WL.nil (WX.a ?_)
 refine WC.cond rfl (fun zgn=>?_) (fun zgn=>?_)
 ·replace h:=yl h zgn
  refine WC.b (WC.a (WL.pu rfl (WL.pu rfl (WL.nil (WX.a (WC.ret (WX.yf ?_)))))))
  obtain rfl:=Option.some.inj h
  refine WX.yh Tryd.results13 (.tmp rfl (.tmp rfl .nil)) (fun w hw=>?_)
  exact ⟨y3T rfl rfl,hw.sub .nil⟩
 ·replace h:=ym h zgn
  refine WC.skip (WX.a (WC.b (WC.a ?_)))
  refine WL.new (dd:=21) rfl rfl rfl (y8a (Value.int .i64) (Value.int .i64)) ?_
  intro zt5 _
  refine WL.a (d:=22) rfl rfl rfl (y5 y3I rfl (yb .h1 rfl)) ?_
  refine WL.a (d:=23) rfl rfl rfl (y1s Tryd.underlying22 rfl) ?_
  refine WL.yg rfl rfl (e_insert (k:=((z4t.length : Nat) : Int)) (v:=0) y4g Tryd.underlying54 rfl rfl rfl rfl .here) ?_
  refine WL.pu rfl ?_
  refine WL.new (dd:=6) rfl rfl rfl (yE (cs:=[(.map none)]) zeroT_54 rfl) ?_
  intro zt6 _
  refine WL.yg rfl rfl (yu sizT_54 rfl rfl rfl .here rfl rfl rfl) ?_
  refine WL.nil (WX.a (WC.b (WC.a ?_)))
  refine WL.new (dd:=7) rfl rfl rfl (yE (cs:=[.nilFunc]) zeroT_55 rfl) ?_
  intro zt7 _
  refine WL.nil (WX.a (WC.b (WC.a ?_)))
  refine WL.a (d:=25) rfl rfl rfl (y6u (Eos.caps (l:=[.tmp 6,.tmp 2,.tmp 7]) (.cons rfl (.cons rfl (.cons rfl .nil))))) ?_
  refine WL.yg rfl rfl (yu sizT_55 rfl rfl rfl .here rfl rfl rfl) ?_
  refine WL.nil (WX.a (WC.b (WC.b ?_)))
  obtain ⟨zeX,zt8,h⟩:=zd h
  refine WC.a ?_
  refine WL.a (d:=26) rfl rfl rfl (y5 y7I rfl (yb .here rfl)) ?_
  refine WL.pu rfl ?_
  refine WL.b (dd:=28) rfl rfl rfl (ye (l:=[.tmp 27]) Tryd.call29 rfl (.cons rfl .nil)) (.cons .h2 .nil) (ccl hz (.cons .h2 .nil) (.cons .h1 (.cons .h1 (.cons .here .nil))) fun w pz ho la=>y6q (Z:=_) (z4c:=⟨zt6,0,none⟩) (z2Q:=zt5) (z4d:=⟨zt1,0,none⟩) (z6C:=zdx) (z6D:=zdy) (z4o:=⟨zt7,0,none⟩) (z1k:=z4D) (z2D:=(y1i ([] : List (Int × Int)) ((z4t.length : Nat) : Int) 0)) (z2b:=z4t) (r:=zeX) w pz ((hG1.mono (Zle.left _ _)).weak (fun _ _ h=>y12 (Zle.left _ _) h)) ((la _ (.head _) _).stb) (zkv.mono (Zle.left _ _)) ((la _ (.tail _ (.head _)) _).stb) ((la _ (.tail _ (.tail _ (.head _))) _).stb) zt8 ho) ?_
  refine WL.pu rfl (WL.nil (WX.a ?_))
  refine WC.cond rfl (fun zgo=>?_) (fun zgo=>?_)
  ·replace h:=yl h zgo
   refine WC.b (WC.a (WL.pu rfl (WL.pu rfl (WL.nil (WX.a (WC.ret (WX.yf ?_)))))))
   obtain rfl:=Option.some.inj h
   refine WX.yh Tryd.results13 (.tmp rfl (.tmp rfl .nil)) (fun w hw=>?_)
   exact ⟨y3T rfl rfl,hw.sub .nil⟩
  ·replace h:=ym h zgo
   refine WC.skip (WX.a (WC.b (WC.a ?_)))
   refine WL.a (d:=30) rfl rfl rfl (y5 y4a rfl (yb .h2 rfl)) ?_
   refine WL.pu rfl ?_
   refine WL.a (d:=32) rfl rfl rfl (y7i (k:=z4D) (dflt:=(0 : Int)) y4g Tryd.underlying54 y6b rfl rfl rfl .here) ?_
   refine WL.pu rfl (WL.pu rfl (WL.nil (WX.a (WC.ret ?_))))
   obtain rfl:=Option.some.inj h
   refine WX.yh Tryd.results13 (.tmp rfl (.tmp rfl .nil)) (fun w hw=>?_)
   exact ⟨y3T rfl rfl,hw.sub .nil⟩
def y21 (z4e : List Int) (z4p : List Int) (z8W : Option Bool) : Nat → Int → Option Bool
 | 0,_=>none
 | zgp + 1,z47=>if decide (z47 < ((z4e.length : Nat) : Int)) then chk ((0 : Int) ≤ z47 ∧ z47 < ((z4e.length : Nat) : Int)) (chk ((0 : Int) ≤ z47 ∧ z47 < ((z4p.length : Nat) : Int)) (if decide ((nth z4e z47) ≠ (nth z4p z47)) then some false else y21 z4e z4p z8W zgp (i64 (z47 + 1)))) else z8W
theorem y4n {n : Nat} {z4e : List Int} {z4p : List Int} {z8W : Option Bool} {z47 : Int} {r : Bool} (h : y21 z4e z4p z8W n z47 = some r) : ∃ m,n = m + 1:=by
 cases n with
 | zero=>cases h
 | succ m=>exact ⟨m,rfl⟩
def y3Q (z4e : List Int) (z4p : List Int) : Option Bool :=
 if decide (((z4e.length : Nat) : Int) ≠ ((z4p.length : Nat) : Int)) then some false else jp0 (some true) fun z8W=>y21 z4e z4p z8W y1K 0
set_option maxRecDepth 20000 in
theorem y6B (Z : Zp) (zdP : Option Addr) (zdQ : Nat) (zdR : Option Addr) (zdS : Nat) (z4e : List Int) (z4p : List Int) (r : Bool)
  (h : y3Q z4e z4p = some r) (w₀ : World) (hz : PZ [] w₀ Z)
  (zt9 : ZS Z 1 (fun r x=>r = e5 x) zdP zdQ z4e)
  (zta : ZS Z 1 (fun r x=>r = e5 x) zdR zdS z4p) :
  Calls Tryd.prog 22 #[(.slice zdP z4e.length zdQ),(.slice zdR z4p.length zdS)] w₀ fun e w'=>e = .returned (.bool r) ∧ Hp [] w₀ w' []:=by
 unfold y3Q at h
 refine Calls.y8 (vs:=[(.slice zdP z4e.length zdQ),(.slice zdR z4p.length zdS)]) (pre:=[]) (env:=[(0,(.slice zdP z4e.length zdQ)),(1,(.slice zdR z4p.length zdS))]) Tryd.func22 rfl Tryd.ntmps22 rfl (Hp.nil w₀ _) rfl ?_
 refine WC.b (WC.a (WL.pu rfl (WL.nil (WX.a (WC.b (WC.b (WC.a (WL.pu rfl ?_))))))))
 refine WL.a (d:=7) rfl rfl rfl (y1s Tryd.underlying35 rfl) ?_
 refine WL.pu rfl ?_
 refine WL.a (d:=9) rfl rfl rfl (y1s Tryd.underlying35 rfl) ?_
 refine WL.pu rfl (WL.nil (WX.a ?_))
 refine WC.cond rfl (fun zgq=>?_) (fun zgq=>?_)
 ·replace h:=yl h zgq
  refine WC.b (WC.a (WL.pu rfl (WL.nil (WX.a (WC.ret (WX.yf ?_))))))
  obtain rfl:=Option.some.inj h
  refine WX.yh Tryd.results22 (.tmp rfl .nil) (fun w hw=>?_)
  exact ⟨y1a rfl,hw.sub .nil⟩
 ·replace h:=ym h zgq
  refine WC.skip (WX.a ?_)
  obtain ⟨z8W,ztb,h⟩:=y3U h
  refine WC.y3n ((z8W = some r)) ([]) ([]) ?_ ?_
  ·skip
   refine WC.b (WC.a (WL.pu rfl (WL.nil (WX.a (WC.block ?_)))))
   refine WC.y5q (fun (zdz : Nat) (z47 : Int)=>(y21 z4e z4p z8W zdz z47 = some r)) (fun (zdz : Nat) (z47 : Int)=>[(0,(.slice zdP z4e.length zdQ)),(1,(.slice zdR z4p.length zdS)),(5,(.int .i64 z47))]) (fun (zdz : Nat) (z47 : Int)=>[]) (fun (zdz : Nat) (z47 : Int)=>zdz) ⟨y1K,0⟩ h (.cons rfl (.cons rfl (.cons rfl .nil))) .nil ?_
   rintro zdz z47 h
   obtain ⟨zgp,rfl⟩:=y4n h
   rw [y21] at h
   refine WC.b (WC.b (WC.a (WL.pu rfl (WL.pu rfl ?_))))
   refine WL.a (d:=13) rfl rfl rfl (y1s Tryd.underlying35 rfl) ?_
   refine WL.pu rfl (WL.nil (WX.a ?_))
   refine WC.cond rfl (fun zgr=>?_) (fun zgr=>?_)
   ·replace h:=yl h zgr
    refine WC.skip (WX.a (WC.b (WC.block (WC.b ?_))))
    obtain ⟨ztc,h⟩:=ya h
    obtain ⟨ztd,h⟩:=ya h
    refine WC.yX (fun i=>[].contains i) [] rfl ?_
    refine WD.a (i:=0) (d:=17) (by kernel_rfl) rfl z2 z6 rfl rfl rfl (fun _=>q_m rfl) ?_
    refine WD.a (i:=1) (d:=18) (by kernel_rfl) rfl z2 z6 rfl rfl rfl (fun _=>q_m rfl) ?_
    refine WD.znth (j:=2) (dd:=19) (by kernel_rfl) rfl z2 z6 rfl rfl (Z:=Z) (Pr:=(fun r x=>r = e5 x)) y1v rfl rfl zt9 ztc ?_
    rintro zxC zxD zte zxE rfl
    refine WD.e (i:=3) (d:=20) (by kernel_rfl) rfl z2 z6 rfl rfl rfl (y5 yB rfl (y3u hz.pv zte rfl)) ?_
    refine WD.a (i:=4) (d:=21) (by kernel_rfl) rfl z2 z6 rfl rfl rfl (fun _=>q_m rfl) ?_
    refine WD.a (i:=5) (d:=22) (by kernel_rfl) rfl z2 z6 rfl rfl rfl (fun _=>q_m rfl) ?_
    refine WD.znth (j:=6) (dd:=23) (by kernel_rfl) rfl z2 z6 rfl rfl (Z:=Z) (Pr:=(fun r x=>r = e5 x)) y1v rfl rfl zta ztd ?_
    rintro zxF zxG ztf zxH rfl
    refine WD.e (i:=7) (d:=24) (by kernel_rfl) rfl z2 z6 rfl rfl rfl (y5 yB rfl (y3u hz.pv ztf rfl)) ?_
    refine WD.a (i:=8) (d:=25) (by kernel_rfl) rfl z2 z6 rfl rfl rfl (fun _=>q_neq rfl rfl) ?_
    refine WD.done (by kernel_rfl) ?_
    refine WX.a ?_
    refine WC.cond rfl (fun zgs=>?_) (fun zgs=>?_)
    ·replace h:=yl h zgs
     refine WC.b (WC.a (WL.pu rfl (WL.nil (WX.a (WC.ret (WX.yL (WX.yf (WX.yf (WX.yL (WX.yf ?_))))))))))
     obtain rfl:=Option.some.inj h
     refine WX.yh Tryd.results22 (.tmp rfl .nil) (fun w hw=>?_)
     exact ⟨y1a rfl,hw.sub .nil⟩
    ·replace h:=ym h zgs
     refine WC.skip (WX.yk (WX.a (WC.a (WL.pu rfl (WL.pu rfl (WL.pu rfl (WL.nil ?_)))))))
     exact WX.round (G:=Nat × Int) ⟨zgp,(i64 (z47 + 1))⟩ h (Nat.lt_succ_self _) (.cons rfl (.cons rfl (.cons rfl .nil))) .nil
   ·replace h:=ym h zgr
    refine WC.exit (WX.yQ (WX.yQ (WX.y1L ?_)))
    exact WX.mid (G:=Unit) () h .nil .nil
  ·rintro  h
   replace h:=ztb.symm.trans h
   refine WC.b (WC.a (WL.pu rfl (WL.nil (WX.a (WC.ret ?_)))))
   obtain rfl:=Option.some.inj h
   refine WX.yh Tryd.results22 (.tmp rfl .nil) (fun w hw=>?_)
   exact ⟨y1a rfl,hw.sub .nil⟩
def y23 (z2j : Sproc_Act) (z2k : Sproc_Act) : Option Bool :=
 (if ((decide (z2j.fKind = z2k.fKind)) && (decide (z2j.fA = z2k.fA))) && (decide (z2j.fB = z2k.fB)) then (y3Q z2j.fData z2k.fData).bind fun zkw=>some zkw else some false).bind fun zgt=>some zgt
set_option maxRecDepth 20000 in
theorem y3a (Z : Zp) (zdT : Option Addr) (zdU : Nat) (zdV : Option Addr) (zdW : Nat) (z2j : Sproc_Act) (z2k : Sproc_Act) (r : Bool)
  (h : y23 z2j z2k = some r) (w₀ : World) (hz : PZ [] w₀ Z)
  (ztg : ZS Z 1 (fun r x=>r = e5 x) zdT zdU z2j.fData)
  (zth : ZS Z 1 (fun r x=>r = e5 x) zdV zdW z2k.fData) :
  Calls Tryd.prog 19 #[(.agg #[(.int .u8 z2j.fKind),(.int .i64 z2j.fA),(.int .i64 z2j.fB),(.slice zdT z2j.fData.length zdU)]),(.agg #[(.int .u8 z2k.fKind),(.int .i64 z2k.fA),(.int .i64 z2k.fB),(.slice zdV z2k.fData.length zdW)])] w₀ fun e w'=>e = .returned (.bool r) ∧ Hp [] w₀ w' []:=by
 unfold y23 at h
 refine Calls.y8 (vs:=[(.agg #[(.int .u8 z2j.fKind),(.int .i64 z2j.fA),(.int .i64 z2j.fB),(.slice zdT z2j.fData.length zdU)]),(.agg #[(.int .u8 z2k.fKind),(.int .i64 z2k.fA),(.int .i64 z2k.fB),(.slice zdV z2k.fData.length zdW)])]) (pre:=[]) (env:=[(0,(.agg #[(.int .u8 z2j.fKind),(.int .i64 z2j.fA),(.int .i64 z2j.fB),(.slice zdT z2j.fData.length zdU)])),(1,(.agg #[(.int .u8 z2k.fKind),(.int .i64 z2k.fA),(.int .i64 z2k.fB),(.slice zdV z2k.fData.length zdW)]))]) Tryd.func19 rfl Tryd.ntmps19 rfl (Hp.nil w₀ _) rfl ?_
 refine WC.b (WC.a ?_)
 refine WL.new (dd:=2) rfl rfl rfl (y3m (cs:=[(.int .u8 z2j.fKind),(.int .i64 z2j.fA),(.int .i64 z2j.fB),(.slice zdT z2j.fData.length zdU)]) rfl rfl) ?_
 intro zxI _
 refine WL.new (dd:=3) rfl rfl rfl (y3m (cs:=[(.int .u8 z2k.fKind),(.int .i64 z2k.fA),(.int .i64 z2k.fB),(.slice zdV z2k.fData.length zdW)]) rfl rfl) ?_
 intro zxJ _
 refine WL.pu rfl (WL.nil (WX.a (WC.b ?_)))
 obtain ⟨zgt,zkx,h⟩:=zd h
 refine WC.a ?_
 refine WL.a (d:=5) rfl rfl rfl (y4 y6a rfl rfl) ?_
 refine WL.a (d:=6) rfl rfl rfl (y5 yB rfl (yb .h1 rfl)) ?_
 refine WL.a (d:=7) rfl rfl rfl (y4 y6a rfl rfl) ?_
 refine WL.a (d:=8) rfl rfl rfl (y5 yB rfl (yb .here rfl)) ?_
 refine WL.pu rfl (WL.pu rfl ?_)
 refine WL.seg true 5 10 (B:=(decide (z2j.fKind = z2k.fKind)) && (decide (z2j.fA = z2k.fA))) rfl rfl rfl rfl rfl rfl (fun h=>(y3A h).symm) (fun _ zti=>?_) ?_
 ·skip
  refine WL.a (d:=11) rfl rfl rfl (y4 y6N rfl rfl) ?_
  refine WL.a (d:=12) rfl rfl rfl (y5 yd rfl (yb .h1 rfl)) ?_
  refine WL.a (d:=13) rfl rfl rfl (y4 y6N rfl rfl) ?_
  refine WL.a (d:=14) rfl rfl rfl (y5 yd rfl (yb .here rfl)) ?_
  refine WL.pu rfl (WL.pu rfl ?_)
  exact WL.yN (y3B zti) rfl rfl .all
 refine WL.pu rfl ?_
 refine WL.seg true 5 17 (B:=((decide (z2j.fKind = z2k.fKind)) && (decide (z2j.fA = z2k.fA))) && (decide (z2j.fB = z2k.fB))) rfl rfl rfl rfl rfl rfl (fun h=>(y3A h).symm) (fun _ ztj=>?_) ?_
 ·skip
  refine WL.a (d:=18) rfl rfl rfl (y4 y6O rfl rfl) ?_
  refine WL.a (d:=19) rfl rfl rfl (y5 yd rfl (yb .h1 rfl)) ?_
  refine WL.a (d:=20) rfl rfl rfl (y4 y6O rfl rfl) ?_
  refine WL.a (d:=21) rfl rfl rfl (y5 yd rfl (yb .here rfl)) ?_
  refine WL.pu rfl (WL.pu rfl ?_)
  exact WL.yN (y3B ztj) rfl rfl .all
 refine WL.pu rfl ?_
 refine WL.seg true 5 24 (B:=zgt) rfl rfl rfl rfl rfl rfl (fun h=>(Option.some.inj (ym zkx h)).symm) (fun _ ztk=>?_) ?_
 ·skip
  have zdX:=yl zkx ztk
  obtain ⟨zkw,ztl,zdX⟩:=zd zdX
  replace zdX:=Option.some.inj zdX
  refine WL.a (d:=25) rfl rfl rfl (y4 y7J rfl rfl) ?_
  refine WL.a (d:=26) rfl rfl rfl (y5 y49 rfl (yb .h1 rfl)) ?_
  refine WL.a (d:=27) rfl rfl rfl (y4 y7J rfl rfl) ?_
  refine WL.a (d:=28) rfl rfl rfl (y5 y49 rfl (yb .here rfl)) ?_
  refine WL.b (dd:=29) rfl rfl rfl (zl (l:=[.tmp 26,.tmp 28]) Tryd.call22 (.cons rfl (.cons rfl .nil))) .nil (cc hz .nil fun w pz ho=>y6B _ _ _ _ _ _ _ _ ztl w pz ztg zth) ?_
  refine WL.pu rfl ?_
  exact WL.yN zdX rfl rfl .all
 refine WL.pu rfl (WL.nil (WX.a (WC.ret ?_)))
 obtain rfl:=Option.some.inj h
 refine WX.yh Tryd.results19 (.tmp rfl .nil) (fun w hw=>?_)
 exact ⟨y1a rfl,hw.sub .nil⟩
end Go.Proofs.YtjdnejbngloieaaDoor
