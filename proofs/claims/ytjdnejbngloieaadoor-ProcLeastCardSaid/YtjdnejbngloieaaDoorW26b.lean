/- A part of this claim's proof: models of functions, walks, plain laws. No conditions. -/
import Derived.Test.YtjdnejbngloieaaDoorW26a
namespace Go.Proofs.YtjdnejbngloieaaDoor
open Go Go.RowKit Sep
set_option linter.all false
set_option maxRecDepth 30000
set_option maxHeartbeats 4000000
def y22 (zd : Sproc_execution) : Option Sproc_execution :=
 (yb zd zd.fX.fA).bind fun zfQ=>chk ((0 : Int) ≤ zd.fX.fA ∧ zd.fX.fA < 4) ((yb zd zd.fX.fB).bind fun zfR=>chk ((0 : Int) ≤ zd.fX.fB ∧ zd.fX.fB < 4) (if decide ((nth ([zd.fState.fRegs.a0,zd.fState.fRegs.a1,zd.fState.fRegs.a2,zd.fState.fRegs.a3] : List Int) zd.fX.fA) < (nth ([zd.fState.fRegs.a0,zd.fState.fRegs.a1,zd.fState.fRegs.a2,zd.fState.fRegs.a3] : List Int) zd.fX.fB)) then some (⟨(⟨zd.fX.fC,zd.fState.fLeft,zd.fState.fRegs⟩ : Sproc_State),zd.fX,zd.fMem,zd.fAct⟩ : Sproc_execution) else some zd))
set_option maxRecDepth 20000 in
theorem y41 (Z : Zp) (z3F : Nat) (z3G : Option Addr) (z3H : Nat) (z3I : Option Addr) (z3J : Nat) (zd : Sproc_execution) (r : Sproc_execution)
  (h : y22 zd = some r) (w₀ : World) (hz : PZ (fps [stb z3F 65 [(.int .i64 zd.fState.fPc),(.int .i64 zd.fState.fLeft),(.int .u8 zd.fState.fRegs.a0),(.int .u8 zd.fState.fRegs.a1),(.int .u8 zd.fState.fRegs.a2),(.int .u8 zd.fState.fRegs.a3),(.int .u8 zd.fX.fOp),(.int .i64 zd.fX.fA),(.int .i64 zd.fX.fB),(.int .i64 zd.fX.fC),(.slice z3G zd.fMem.length z3H),(.int .u8 zd.fAct.fKind),(.int .i64 zd.fAct.fA),(.int .i64 zd.fAct.fB),(.slice z3I zd.fAct.fData.length z3J)]]) w₀ Z)
  (z7h : ZS Z 1 (fun r x=>r = e5 x) z3G z3H zd.fMem)
  (z7i : ZS Z 1 (fun r x=>r = e5 x) z3I z3J zd.fAct.fData)
  (hown : Hp (fps [stb z3F 65 [(.int .i64 zd.fState.fPc),(.int .i64 zd.fState.fLeft),(.int .u8 zd.fState.fRegs.a0),(.int .u8 zd.fState.fRegs.a1),(.int .u8 zd.fState.fRegs.a2),(.int .u8 zd.fState.fRegs.a3),(.int .u8 zd.fX.fOp),(.int .i64 zd.fX.fA),(.int .i64 zd.fX.fB),(.int .i64 zd.fX.fC),(.slice z3G zd.fMem.length z3H),(.int .u8 zd.fAct.fKind),(.int .i64 zd.fAct.fA),(.int .i64 zd.fAct.fB),(.slice z3I zd.fAct.fData.length z3J)]]) w₀ w₀ [stb z3F 65 [(.int .i64 zd.fState.fPc),(.int .i64 zd.fState.fLeft),(.int .u8 zd.fState.fRegs.a0),(.int .u8 zd.fState.fRegs.a1),(.int .u8 zd.fState.fRegs.a2),(.int .u8 zd.fState.fRegs.a3),(.int .u8 zd.fX.fOp),(.int .i64 zd.fX.fA),(.int .i64 zd.fX.fB),(.int .i64 zd.fX.fC),(.slice z3G zd.fMem.length z3H),(.int .u8 zd.fAct.fKind),(.int .i64 zd.fAct.fA),(.int .i64 zd.fAct.fB),(.slice z3I zd.fAct.fData.length z3J)]]) :
  Calls Tryd.prog 104 #[(.pointer (some ⟨z3F,0,none⟩))] w₀ fun e w'=>∃ zbK : Option Addr,∃ zbL : Nat,∃ zbM : Option Addr,∃ zbN : Nat,e = .returned (.tuple #[]) ∧ ((ZS Z 1 (fun r x=>r = e5 x) zbK zbL r.fMem) ∧ (ZS Z 1 (fun r x=>r = e5 x) zbM zbN r.fAct.fData)) ∧ Hp (fps [stb z3F 65 [(.int .i64 zd.fState.fPc),(.int .i64 zd.fState.fLeft),(.int .u8 zd.fState.fRegs.a0),(.int .u8 zd.fState.fRegs.a1),(.int .u8 zd.fState.fRegs.a2),(.int .u8 zd.fState.fRegs.a3),(.int .u8 zd.fX.fOp),(.int .i64 zd.fX.fA),(.int .i64 zd.fX.fB),(.int .i64 zd.fX.fC),(.slice z3G zd.fMem.length z3H),(.int .u8 zd.fAct.fKind),(.int .i64 zd.fAct.fA),(.int .i64 zd.fAct.fB),(.slice z3I zd.fAct.fData.length z3J)]]) w₀ w' [stb z3F 65 [(.int .i64 r.fState.fPc),(.int .i64 r.fState.fLeft),(.int .u8 r.fState.fRegs.a0),(.int .u8 r.fState.fRegs.a1),(.int .u8 r.fState.fRegs.a2),(.int .u8 r.fState.fRegs.a3),(.int .u8 r.fX.fOp),(.int .i64 r.fX.fA),(.int .i64 r.fX.fB),(.int .i64 r.fX.fC),(.slice zbK r.fMem.length zbL),(.int .u8 r.fAct.fKind),(.int .i64 r.fAct.fA),(.int .i64 r.fAct.fB),(.slice zbM r.fAct.fData.length zbN)]]:=by
 unfold y22 at h
 refine Calls.y8 (vs:=[(.pointer (some ⟨z3F,0,none⟩))]) (pre:=[stb z3F 65 [(.int .i64 zd.fState.fPc),(.int .i64 zd.fState.fLeft),(.int .u8 zd.fState.fRegs.a0),(.int .u8 zd.fState.fRegs.a1),(.int .u8 zd.fState.fRegs.a2),(.int .u8 zd.fState.fRegs.a3),(.int .u8 zd.fX.fOp),(.int .i64 zd.fX.fA),(.int .i64 zd.fX.fB),(.int .i64 zd.fX.fC),(.slice z3G zd.fMem.length z3H),(.int .u8 zd.fAct.fKind),(.int .i64 zd.fAct.fA),(.int .i64 zd.fAct.fB),(.slice z3I zd.fAct.fData.length z3J)]]) (env:=[(0,(.pointer (some ⟨z3F,0,none⟩)))]) Tryd.func104 rfl Tryd.ntmps104 rfl (hown) rfl ?_
 refine WC.b ?_
 obtain ⟨zfQ,zfS,h⟩:=zh h
 obtain ⟨zfT,h⟩:=y9 h
 obtain ⟨zfR,zfU,h⟩:=zh h
 obtain ⟨zfV,h⟩:=y9 h
 refine WC.y1a (fun i=>[].contains i) [] rfl ?_
 refine WD.a (i:=0) (d:=2) (by kernel_rfl) rfl z1 z2 rfl rfl rfl (fun _=>q_m rfl) ?_
 refine WD.a (i:=1) (d:=3) (by kernel_rfl) rfl z1 z2 rfl rfl rfl (fun _=>q_m rfl) ?_
 refine WD.a (i:=2) (d:=4) (by kernel_rfl) rfl z1 z2 rfl rfl rfl (fun _=>y7 rfl) ?_
 refine WD.a (i:=3) (d:=5) (by kernel_rfl) rfl z1 z2 rfl rfl rfl (fun _=>y4 yH rfl rfl) ?_
 refine WD.a (i:=4) (d:=6) (by kernel_rfl) rfl z1 z2 rfl rfl rfl (fun _=>y4 y1b rfl rfl) ?_
 refine WD.e (i:=5) (d:=7) (by kernel_rfl) rfl z1 z2 rfl rfl rfl (y6 yf rfl (yc .here rfl)) ?_
 refine WD.c (i:=6) (d:=8) (by kernel_rfl) rfl z1 z2 rfl rfl rfl (zI (l:=[.tmp 2,.tmp 7]) Tryd.call108 (.cons rfl (.cons rfl .nil))) (ccl hz .nil (.cons .here .nil) fun w pz ho la=>yh _ _ _ _ _ _ _ _ _ zfS w pz (z7h.mono (Zle.left _ _)) (z7i.mono (Zle.left _ _)) ((la _ (.head _) _).stb)) ?_
 refine WD.a (i:=7) (d:=9) (by kernel_rfl) rfl z1 z2 rfl rfl rfl (fun _=>y7 rfl) ?_
 refine WD.e (i:=8) (d:=10) (by kernel_rfl) rfl z1 z2 rfl rfl rfl (y6 yN rfl (y1r (l:=([zd.fState.fRegs.a0,zd.fState.fRegs.a1,zd.fState.fRegs.a2,zd.fState.fRegs.a3] : List Int)) (f:=Value.int .u8) (k:=2) (m:=6) .here rfl rfl zfT)) ?_
 refine WD.a (i:=9) (d:=11) (by kernel_rfl) rfl z1 z2 rfl rfl rfl (fun _=>q_m rfl) ?_
 refine WD.a (i:=10) (d:=12) (by kernel_rfl) rfl z1 z2 rfl rfl rfl (fun _=>q_m rfl) ?_
 refine WD.a (i:=11) (d:=13) (by kernel_rfl) rfl z1 z2 rfl rfl rfl (fun _=>y7 rfl) ?_
 refine WD.a (i:=12) (d:=14) (by kernel_rfl) rfl z1 z2 rfl rfl rfl (fun _=>y4 yH rfl rfl) ?_
 refine WD.a (i:=13) (d:=15) (by kernel_rfl) rfl z1 z2 rfl rfl rfl (fun _=>y4 y1x rfl rfl) ?_
 refine WD.e (i:=14) (d:=16) (by kernel_rfl) rfl z1 z2 rfl rfl rfl (y6 yf rfl (yc .here rfl)) ?_
 refine WD.c (i:=15) (d:=17) (by kernel_rfl) rfl z1 z2 rfl rfl rfl (zI (l:=[.tmp 11,.tmp 16]) Tryd.call108 (.cons rfl (.cons rfl .nil))) (ccl hz .nil (.cons .here .nil) fun w pz ho la=>yh _ _ _ _ _ _ _ _ _ zfU w pz (z7h.mono (Zle.left _ _)) (z7i.mono (Zle.left _ _)) ((la _ (.head _) _).stb)) ?_
 refine WD.a (i:=16) (d:=18) (by kernel_rfl) rfl z1 z2 rfl rfl rfl (fun _=>y7 rfl) ?_
 refine WD.e (i:=17) (d:=19) (by kernel_rfl) rfl z1 z2 rfl rfl rfl (y6 yN rfl (y1r (l:=([zd.fState.fRegs.a0,zd.fState.fRegs.a1,zd.fState.fRegs.a2,zd.fState.fRegs.a3] : List Int)) (f:=Value.int .u8) (k:=2) (m:=6) .here rfl rfl zfV)) ?_
 refine WD.a (i:=18) (d:=20) (by kernel_rfl) rfl z1 z2 rfl rfl rfl (fun _=>q_lss rfl rfl) ?_
 refine WD.done (by kernel_rfl) ?_
 refine WX.a ?_
 refine WC.cond rfl (fun z8s=>?_) (fun z8s=>?_)
 ·replace h:=ym h z8s
  refine WC.a (WL.pu rfl (WL.pu rfl ?_))
  refine WL.a (d:=23) rfl rfl rfl (y7 rfl) ?_
  refine WL.a (d:=24) rfl rfl rfl (y4 yH rfl rfl) ?_
  refine WL.a (d:=25) rfl rfl rfl (y4 y3O rfl rfl) ?_
  refine WL.a (d:=26) rfl rfl rfl (y6 yf rfl (yc .here rfl)) ?_
  refine WL.a (d:=27) rfl rfl rfl (y7 rfl) ?_
  refine WL.a (d:=28) rfl rfl rfl (y4 y1c rfl rfl) ?_
  refine WL.a (d:=29) rfl rfl rfl (y4 y2j rfl rfl) ?_
  refine WL.yo rfl rfl (y1g (ds:=[(.int .i64 zd.fX.fC),(.int .i64 zd.fState.fLeft),(.int .u8 zd.fState.fRegs.a0),(.int .u8 zd.fState.fRegs.a1),(.int .u8 zd.fState.fRegs.a2),(.int .u8 zd.fState.fRegs.a3),(.int .u8 zd.fX.fOp),(.int .i64 zd.fX.fA),(.int .i64 zd.fX.fB),(.int .i64 zd.fX.fC),(.slice z3G zd.fMem.length z3H),(.int .u8 zd.fAct.fKind),(.int .i64 zd.fAct.fA),(.int .i64 zd.fAct.fB),(.slice z3I zd.fAct.fData.length z3J)]) y2V rfl rfl rfl rfl rfl .here rfl rfl) ?_
  refine WL.nil ?_
  obtain rfl:=Option.some.inj h
  refine WX.yd Tryd.results104 .nil (fun w hw=>?_)
  exact ⟨z3G,z3H,z3I,z3J,y12,⟨z7h,z7i⟩,hw.sub (.cons .here .nil)⟩
 ·replace h:=yn h z8s
  refine WC.skip ?_
  obtain rfl:=Option.some.inj h
  refine WX.yd Tryd.results104 .nil (fun w hw=>?_)
  exact ⟨z3G,z3H,z3I,z3J,y12,⟨z7h,z7i⟩,hw.sub (.cons .here .nil)⟩
def y2e (z6 : Sproc_execution) : Option Sproc_execution :=
 (yb z6 z6.fX.fB).bind fun zfW=>chk ((0 : Int) ≤ z6.fX.fB ∧ z6.fX.fB < 4) (if decide ((nth ([z6.fState.fRegs.a0,z6.fState.fRegs.a1,z6.fState.fRegs.a2,z6.fState.fRegs.a3] : List Int) z6.fX.fB) ≠ 0) then (yb z6 z6.fX.fA).bind fun zfX=>chk ((0 : Int) ≤ z6.fX.fA ∧ z6.fX.fA < 4) (chk ((nth ([z6.fState.fRegs.a0,z6.fState.fRegs.a1,z6.fState.fRegs.a2,z6.fState.fRegs.a3] : List Int) z6.fX.fB : Int) ≠ 0) (some (⟨(⟨z6.fState.fPc,z6.fState.fLeft,(⟨nth (([z6.fState.fRegs.a0,z6.fState.fRegs.a1,z6.fState.fRegs.a2,z6.fState.fRegs.a3] : List Int).set (z6.fX.fA : Int).toNat (u8 (Int.tdiv (nth ([z6.fState.fRegs.a0,z6.fState.fRegs.a1,z6.fState.fRegs.a2,z6.fState.fRegs.a3] : List Int) z6.fX.fA) (nth ([z6.fState.fRegs.a0,z6.fState.fRegs.a1,z6.fState.fRegs.a2,z6.fState.fRegs.a3] : List Int) z6.fX.fB)))) 0,nth (([z6.fState.fRegs.a0,z6.fState.fRegs.a1,z6.fState.fRegs.a2,z6.fState.fRegs.a3] : List Int).set (z6.fX.fA : Int).toNat (u8 (Int.tdiv (nth ([z6.fState.fRegs.a0,z6.fState.fRegs.a1,z6.fState.fRegs.a2,z6.fState.fRegs.a3] : List Int) z6.fX.fA) (nth ([z6.fState.fRegs.a0,z6.fState.fRegs.a1,z6.fState.fRegs.a2,z6.fState.fRegs.a3] : List Int) z6.fX.fB)))) 1,nth (([z6.fState.fRegs.a0,z6.fState.fRegs.a1,z6.fState.fRegs.a2,z6.fState.fRegs.a3] : List Int).set (z6.fX.fA : Int).toNat (u8 (Int.tdiv (nth ([z6.fState.fRegs.a0,z6.fState.fRegs.a1,z6.fState.fRegs.a2,z6.fState.fRegs.a3] : List Int) z6.fX.fA) (nth ([z6.fState.fRegs.a0,z6.fState.fRegs.a1,z6.fState.fRegs.a2,z6.fState.fRegs.a3] : List Int) z6.fX.fB)))) 2,nth (([z6.fState.fRegs.a0,z6.fState.fRegs.a1,z6.fState.fRegs.a2,z6.fState.fRegs.a3] : List Int).set (z6.fX.fA : Int).toNat (u8 (Int.tdiv (nth ([z6.fState.fRegs.a0,z6.fState.fRegs.a1,z6.fState.fRegs.a2,z6.fState.fRegs.a3] : List Int) z6.fX.fA) (nth ([z6.fState.fRegs.a0,z6.fState.fRegs.a1,z6.fState.fRegs.a2,z6.fState.fRegs.a3] : List Int) z6.fX.fB)))) 3⟩ : S34)⟩ : Sproc_State),z6.fX,z6.fMem,z6.fAct⟩ : Sproc_execution))) else (y17 z6 4 0).bind fun z8t=>some z8t)
set_option maxRecDepth 20000 in
theorem y4m (Z : Zp) (z3K : Nat) (z4x : Option Addr) (z4y : Nat) (z4z : Option Addr) (z4A : Nat) (z6 : Sproc_execution) (r : Sproc_execution)
  (h : y2e z6 = some r) (w₀ : World) (hz : PZ (fps [stb z3K 65 [(.int .i64 z6.fState.fPc),(.int .i64 z6.fState.fLeft),(.int .u8 z6.fState.fRegs.a0),(.int .u8 z6.fState.fRegs.a1),(.int .u8 z6.fState.fRegs.a2),(.int .u8 z6.fState.fRegs.a3),(.int .u8 z6.fX.fOp),(.int .i64 z6.fX.fA),(.int .i64 z6.fX.fB),(.int .i64 z6.fX.fC),(.slice z4x z6.fMem.length z4y),(.int .u8 z6.fAct.fKind),(.int .i64 z6.fAct.fA),(.int .i64 z6.fAct.fB),(.slice z4z z6.fAct.fData.length z4A)]]) w₀ Z)
  (z7j : ZS Z 1 (fun r x=>r = e5 x) z4x z4y z6.fMem)
  (z7k : ZS Z 1 (fun r x=>r = e5 x) z4z z4A z6.fAct.fData)
  (hown : Hp (fps [stb z3K 65 [(.int .i64 z6.fState.fPc),(.int .i64 z6.fState.fLeft),(.int .u8 z6.fState.fRegs.a0),(.int .u8 z6.fState.fRegs.a1),(.int .u8 z6.fState.fRegs.a2),(.int .u8 z6.fState.fRegs.a3),(.int .u8 z6.fX.fOp),(.int .i64 z6.fX.fA),(.int .i64 z6.fX.fB),(.int .i64 z6.fX.fC),(.slice z4x z6.fMem.length z4y),(.int .u8 z6.fAct.fKind),(.int .i64 z6.fAct.fA),(.int .i64 z6.fAct.fB),(.slice z4z z6.fAct.fData.length z4A)]]) w₀ w₀ [stb z3K 65 [(.int .i64 z6.fState.fPc),(.int .i64 z6.fState.fLeft),(.int .u8 z6.fState.fRegs.a0),(.int .u8 z6.fState.fRegs.a1),(.int .u8 z6.fState.fRegs.a2),(.int .u8 z6.fState.fRegs.a3),(.int .u8 z6.fX.fOp),(.int .i64 z6.fX.fA),(.int .i64 z6.fX.fB),(.int .i64 z6.fX.fC),(.slice z4x z6.fMem.length z4y),(.int .u8 z6.fAct.fKind),(.int .i64 z6.fAct.fA),(.int .i64 z6.fAct.fB),(.slice z4z z6.fAct.fData.length z4A)]]) :
  Calls Tryd.prog 105 #[(.pointer (some ⟨z3K,0,none⟩))] w₀ fun e w'=>∃ Zn : Zp,∃ zbO : Option Addr,∃ zbP : Nat,∃ zbQ : Option Addr,∃ zbR : Nat,e = .returned (.tuple #[]) ∧ ((ZS (Z ++ Zn) 1 (fun r x=>r = e5 x) zbO zbP r.fMem) ∧ (ZS (Z ++ Zn) 1 (fun r x=>r = e5 x) zbQ zbR r.fAct.fData)) ∧ Hp (fps [stb z3K 65 [(.int .i64 z6.fState.fPc),(.int .i64 z6.fState.fLeft),(.int .u8 z6.fState.fRegs.a0),(.int .u8 z6.fState.fRegs.a1),(.int .u8 z6.fState.fRegs.a2),(.int .u8 z6.fState.fRegs.a3),(.int .u8 z6.fX.fOp),(.int .i64 z6.fX.fA),(.int .i64 z6.fX.fB),(.int .i64 z6.fX.fC),(.slice z4x z6.fMem.length z4y),(.int .u8 z6.fAct.fKind),(.int .i64 z6.fAct.fA),(.int .i64 z6.fAct.fB),(.slice z4z z6.fAct.fData.length z4A)]]) w₀ w' [fz Zn,stb z3K 65 [(.int .i64 r.fState.fPc),(.int .i64 r.fState.fLeft),(.int .u8 r.fState.fRegs.a0),(.int .u8 r.fState.fRegs.a1),(.int .u8 r.fState.fRegs.a2),(.int .u8 r.fState.fRegs.a3),(.int .u8 r.fX.fOp),(.int .i64 r.fX.fA),(.int .i64 r.fX.fB),(.int .i64 r.fX.fC),(.slice zbO r.fMem.length zbP),(.int .u8 r.fAct.fKind),(.int .i64 r.fAct.fA),(.int .i64 r.fAct.fB),(.slice zbQ r.fAct.fData.length zbR)]]:=by
 unfold y2e at h
 refine Calls.y8 (vs:=[(.pointer (some ⟨z3K,0,none⟩))]) (pre:=[stb z3K 65 [(.int .i64 z6.fState.fPc),(.int .i64 z6.fState.fLeft),(.int .u8 z6.fState.fRegs.a0),(.int .u8 z6.fState.fRegs.a1),(.int .u8 z6.fState.fRegs.a2),(.int .u8 z6.fState.fRegs.a3),(.int .u8 z6.fX.fOp),(.int .i64 z6.fX.fA),(.int .i64 z6.fX.fB),(.int .i64 z6.fX.fC),(.slice z4x z6.fMem.length z4y),(.int .u8 z6.fAct.fKind),(.int .i64 z6.fAct.fA),(.int .i64 z6.fAct.fB),(.slice z4z z6.fAct.fData.length z4A)]]) (env:=[(0,(.pointer (some ⟨z3K,0,none⟩)))]) Tryd.func105 rfl Tryd.ntmps105 rfl (hown) rfl ?_
 refine WC.pool (WC.b ?_)
 obtain ⟨zfW,zfY,h⟩:=zh h
 obtain ⟨zfZ,h⟩:=y9 h
 refine WC.a (WL.pu rfl (WL.pu rfl ?_))
 refine WL.a (d:=5) rfl rfl rfl (y7 rfl) ?_
 refine WL.a (d:=6) rfl rfl rfl (y4 yH rfl rfl) ?_
 refine WL.a (d:=7) rfl rfl rfl (y4 y1x rfl rfl) ?_
 refine WL.a (d:=8) rfl rfl rfl (y6 yf rfl (yc .h1 rfl)) ?_
 refine WL.b (dd:=9) rfl rfl rfl (zI (l:=[.tmp 3,.tmp 8]) Tryd.call108 (.cons rfl (.cons rfl .nil))) .nil (y27 hz .nil .here (.cons .h1 .nil) fun w pz ho la=>yh _ _ _ _ _ _ _ _ _ zfY w pz ((z7j.mono (Zle.left _ _)).mono (Zle.left _ _)) ((z7k.mono (Zle.left _ _)).mono (Zle.left _ _)) ((la _ (.head _) _).stb)) ?_
 refine WL.a (d:=10) rfl rfl rfl (y7 rfl) ?_
 refine WL.a (d:=11) rfl rfl rfl (y6 yN rfl (y1r (l:=([z6.fState.fRegs.a0,z6.fState.fRegs.a1,z6.fState.fRegs.a2,z6.fState.fRegs.a3] : List Int)) (f:=Value.int .u8) (k:=2) (m:=6) .h1 rfl rfl zfZ)) ?_
 refine WL.pu rfl (WL.nil (WX.a (WC.b (WC.a (WL.pu rfl (WL.pu rfl (WL.nil (WX.a ?_))))))))
 refine WC.cond rfl (fun z8u=>?_) (fun z8u=>?_)
 ·replace h:=ym h z8u
  obtain ⟨zfX,zg0,h⟩:=zh h
  obtain ⟨zbS,h⟩:=y9 h
  obtain ⟨zg1,h⟩:=y9 h
  refine WC.a (WL.pu rfl (WL.pu rfl ?_))
  refine WL.a (d:=16) rfl rfl rfl (y7 rfl) ?_
  refine WL.a (d:=17) rfl rfl rfl (y4 yH rfl rfl) ?_
  refine WL.a (d:=18) rfl rfl rfl (y4 y1b rfl rfl) ?_
  refine WL.a (d:=19) rfl rfl rfl (y6 yf rfl (yc .h1 rfl)) ?_
  refine WL.b (dd:=20) rfl rfl rfl (zI (l:=[.tmp 14,.tmp 19]) Tryd.call108 (.cons rfl (.cons rfl .nil))) .nil (y27 hz .nil .here (.cons .h1 .nil) fun w pz ho la=>yh _ _ _ _ _ _ _ _ _ zg0 w pz ((z7j.mono (Zle.left _ _)).mono (Zle.left _ _)) ((z7k.mono (Zle.left _ _)).mono (Zle.left _ _)) ((la _ (.head _) _).stb)) ?_
  refine WL.a (d:=21) rfl rfl rfl (y7 rfl) ?_
  refine WL.a (d:=22) rfl rfl rfl (y6 yN rfl (y1r (l:=([z6.fState.fRegs.a0,z6.fState.fRegs.a1,z6.fState.fRegs.a2,z6.fState.fRegs.a3] : List Int)) (f:=Value.int .u8) (k:=2) (m:=6) .h1 rfl rfl zbS)) ?_
  refine WL.pu rfl ?_
  refine WL.a (d:=24) rfl rfl rfl (q_quo rfl rfl zg1 rfl) ?_
  refine WL.a (d:=25) rfl rfl rfl (y7 rfl) ?_
  refine WL.yo rfl rfl (y2U (l:=([z6.fState.fRegs.a0,z6.fState.fRegs.a1,z6.fState.fRegs.a2,z6.fState.fRegs.a3] : List Int)) (f:=Value.int .u8) (u:=u8 (Int.tdiv (nth ([z6.fState.fRegs.a0,z6.fState.fRegs.a1,z6.fState.fRegs.a2,z6.fState.fRegs.a3] : List Int) z6.fX.fA) (nth ([z6.fState.fRegs.a0,z6.fState.fRegs.a1,z6.fState.fRegs.a2,z6.fState.fRegs.a3] : List Int) z6.fX.fB))) (k:=2) (m:=6) (j:=4) (ds:=[(.int .i64 z6.fState.fPc),(.int .i64 z6.fState.fLeft),(.int .u8 (nth (([z6.fState.fRegs.a0,z6.fState.fRegs.a1,z6.fState.fRegs.a2,z6.fState.fRegs.a3] : List Int).set (z6.fX.fA : Int).toNat (u8 (Int.tdiv (nth ([z6.fState.fRegs.a0,z6.fState.fRegs.a1,z6.fState.fRegs.a2,z6.fState.fRegs.a3] : List Int) z6.fX.fA) (nth ([z6.fState.fRegs.a0,z6.fState.fRegs.a1,z6.fState.fRegs.a2,z6.fState.fRegs.a3] : List Int) z6.fX.fB)))) 0)),(.int .u8 (nth (([z6.fState.fRegs.a0,z6.fState.fRegs.a1,z6.fState.fRegs.a2,z6.fState.fRegs.a3] : List Int).set (z6.fX.fA : Int).toNat (u8 (Int.tdiv (nth ([z6.fState.fRegs.a0,z6.fState.fRegs.a1,z6.fState.fRegs.a2,z6.fState.fRegs.a3] : List Int) z6.fX.fA) (nth ([z6.fState.fRegs.a0,z6.fState.fRegs.a1,z6.fState.fRegs.a2,z6.fState.fRegs.a3] : List Int) z6.fX.fB)))) 1)),(.int .u8 (nth (([z6.fState.fRegs.a0,z6.fState.fRegs.a1,z6.fState.fRegs.a2,z6.fState.fRegs.a3] : List Int).set (z6.fX.fA : Int).toNat (u8 (Int.tdiv (nth ([z6.fState.fRegs.a0,z6.fState.fRegs.a1,z6.fState.fRegs.a2,z6.fState.fRegs.a3] : List Int) z6.fX.fA) (nth ([z6.fState.fRegs.a0,z6.fState.fRegs.a1,z6.fState.fRegs.a2,z6.fState.fRegs.a3] : List Int) z6.fX.fB)))) 2)),(.int .u8 (nth (([z6.fState.fRegs.a0,z6.fState.fRegs.a1,z6.fState.fRegs.a2,z6.fState.fRegs.a3] : List Int).set (z6.fX.fA : Int).toNat (u8 (Int.tdiv (nth ([z6.fState.fRegs.a0,z6.fState.fRegs.a1,z6.fState.fRegs.a2,z6.fState.fRegs.a3] : List Int) z6.fX.fA) (nth ([z6.fState.fRegs.a0,z6.fState.fRegs.a1,z6.fState.fRegs.a2,z6.fState.fRegs.a3] : List Int) z6.fX.fB)))) 3)),(.int .u8 z6.fX.fOp),(.int .i64 z6.fX.fA),(.int .i64 z6.fX.fB),(.int .i64 z6.fX.fC),(.slice z4x z6.fMem.length z4y),(.int .u8 z6.fAct.fKind),(.int .i64 z6.fAct.fA),(.int .i64 z6.fAct.fB),(.slice z4z z6.fAct.fData.length z4A)]) y3Q rfl rfl rfl rfl .h1 rfl rfl zbS rfl rfl) ?_
  refine WL.nil ?_
  obtain rfl:=Option.some.inj h
  refine WX.yd Tryd.results105 .nil (fun w hw=>?_)
  exact ⟨[],z4x,z4y,z4z,z4A,y12,⟨(z7j.mono (Zle.left _ _)),(z7k.mono (Zle.left _ _))⟩,hw.sub (.cons .h1 (.cons .here .nil))⟩
 ·replace h:=yn h z8u
  obtain ⟨z8t,zg2,h⟩:=zh h
  refine WC.a (WL.pu rfl ?_)
  refine WL.yj (dd:=27) rfl rfl rfl (zI (l:=[.tmp 26,.const (.int .u8 4),.const (.int .i64 0)]) Tryd.call112 (.cons rfl (.cons rfl (.cons rfl .nil)))) (.cons .h1 .nil) (ccz hz (.cons .h1 .nil) .here fun w pz ho=>y1S _ _ _ _ _ _ _ _ _ _ zg2 w pz (z7j.mono (Zle.left _ _)) (z7k.mono (Zle.left _ _)) ho) ?_
  rintro zg3 zg4 zg5 zg6 zg7
  refine WL.nil ?_
  refine WX.freezeS (ls:=z8t.fAct.fData) .h1 .h1 hz (RR.yP (enc:=e5) (fun _=>rfl) _) ?_
  intro zg8 zg9 zga
  obtain rfl:=Option.some.inj h
  refine WX.yd Tryd.results105 .nil (fun w hw=>?_)
  exact ⟨zg8,zg3,zg4,zg5,zg6,y12,⟨(zg7.mono zg9),zga⟩,hw.sub (.cons .here (.cons .here .nil))⟩
def y1L (zu : Sproc_execution) : Option Sproc_execution :=
 (y17 zu 3 zu.fX.fA).bind fun zbT=>some zbT
set_option maxRecDepth 20000 in
theorem y3I (Z : Zp) (z3L : Nat) (z6l : Option Addr) (z6m : Nat) (z6n : Option Addr) (z6o : Nat) (zu : Sproc_execution) (r : Sproc_execution)
  (h : y1L zu = some r) (w₀ : World) (hz : PZ (fps [stb z3L 65 [(.int .i64 zu.fState.fPc),(.int .i64 zu.fState.fLeft),(.int .u8 zu.fState.fRegs.a0),(.int .u8 zu.fState.fRegs.a1),(.int .u8 zu.fState.fRegs.a2),(.int .u8 zu.fState.fRegs.a3),(.int .u8 zu.fX.fOp),(.int .i64 zu.fX.fA),(.int .i64 zu.fX.fB),(.int .i64 zu.fX.fC),(.slice z6l zu.fMem.length z6m),(.int .u8 zu.fAct.fKind),(.int .i64 zu.fAct.fA),(.int .i64 zu.fAct.fB),(.slice z6n zu.fAct.fData.length z6o)]]) w₀ Z)
  (zgb : ZS Z 1 (fun r x=>r = e5 x) z6l z6m zu.fMem)
  (zgc : ZS Z 1 (fun r x=>r = e5 x) z6n z6o zu.fAct.fData)
  (hown : Hp (fps [stb z3L 65 [(.int .i64 zu.fState.fPc),(.int .i64 zu.fState.fLeft),(.int .u8 zu.fState.fRegs.a0),(.int .u8 zu.fState.fRegs.a1),(.int .u8 zu.fState.fRegs.a2),(.int .u8 zu.fState.fRegs.a3),(.int .u8 zu.fX.fOp),(.int .i64 zu.fX.fA),(.int .i64 zu.fX.fB),(.int .i64 zu.fX.fC),(.slice z6l zu.fMem.length z6m),(.int .u8 zu.fAct.fKind),(.int .i64 zu.fAct.fA),(.int .i64 zu.fAct.fB),(.slice z6n zu.fAct.fData.length z6o)]]) w₀ w₀ [stb z3L 65 [(.int .i64 zu.fState.fPc),(.int .i64 zu.fState.fLeft),(.int .u8 zu.fState.fRegs.a0),(.int .u8 zu.fState.fRegs.a1),(.int .u8 zu.fState.fRegs.a2),(.int .u8 zu.fState.fRegs.a3),(.int .u8 zu.fX.fOp),(.int .i64 zu.fX.fA),(.int .i64 zu.fX.fB),(.int .i64 zu.fX.fC),(.slice z6l zu.fMem.length z6m),(.int .u8 zu.fAct.fKind),(.int .i64 zu.fAct.fA),(.int .i64 zu.fAct.fB),(.slice z6n zu.fAct.fData.length z6o)]]) :
  Calls Tryd.prog 106 #[(.pointer (some ⟨z3L,0,none⟩))] w₀ fun e w'=>∃ zbU : Option Addr,∃ zbV : Nat,∃ zbW : Option Addr,∃ zbX : Nat,e = .returned (.tuple #[]) ∧ (ZS Z 1 (fun r x=>r = e5 x) zbU zbV r.fMem) ∧ Hp (fps [stb z3L 65 [(.int .i64 zu.fState.fPc),(.int .i64 zu.fState.fLeft),(.int .u8 zu.fState.fRegs.a0),(.int .u8 zu.fState.fRegs.a1),(.int .u8 zu.fState.fRegs.a2),(.int .u8 zu.fState.fRegs.a3),(.int .u8 zu.fX.fOp),(.int .i64 zu.fX.fA),(.int .i64 zu.fX.fB),(.int .i64 zu.fX.fC),(.slice z6l zu.fMem.length z6m),(.int .u8 zu.fAct.fKind),(.int .i64 zu.fAct.fA),(.int .i64 zu.fAct.fB),(.slice z6n zu.fAct.fData.length z6o)]]) w₀ w' [stb z3L 65 [(.int .i64 r.fState.fPc),(.int .i64 r.fState.fLeft),(.int .u8 r.fState.fRegs.a0),(.int .u8 r.fState.fRegs.a1),(.int .u8 r.fState.fRegs.a2),(.int .u8 r.fState.fRegs.a3),(.int .u8 r.fX.fOp),(.int .i64 r.fX.fA),(.int .i64 r.fX.fB),(.int .i64 r.fX.fC),(.slice zbU r.fMem.length zbV),(.int .u8 r.fAct.fKind),(.int .i64 r.fAct.fA),(.int .i64 r.fAct.fB),(.slice zbW r.fAct.fData.length zbX)],row (.slice zbW r.fAct.fData.length zbX) 5 1 (r.fAct.fData.flatMap e5)]:=by
 unfold y1L at h
 refine Calls.y8 (vs:=[(.pointer (some ⟨z3L,0,none⟩))]) (pre:=[stb z3L 65 [(.int .i64 zu.fState.fPc),(.int .i64 zu.fState.fLeft),(.int .u8 zu.fState.fRegs.a0),(.int .u8 zu.fState.fRegs.a1),(.int .u8 zu.fState.fRegs.a2),(.int .u8 zu.fState.fRegs.a3),(.int .u8 zu.fX.fOp),(.int .i64 zu.fX.fA),(.int .i64 zu.fX.fB),(.int .i64 zu.fX.fC),(.slice z6l zu.fMem.length z6m),(.int .u8 zu.fAct.fKind),(.int .i64 zu.fAct.fA),(.int .i64 zu.fAct.fB),(.slice z6n zu.fAct.fData.length z6o)]]) (env:=[(0,(.pointer (some ⟨z3L,0,none⟩)))]) Tryd.func106 rfl Tryd.ntmps106 rfl (hown) rfl ?_
 obtain ⟨zbT,zgd,h⟩:=zh h
 refine WC.a (WL.pu rfl (WL.pu rfl ?_))
 refine WL.a (d:=4) rfl rfl rfl (y7 rfl) ?_
 refine WL.a (d:=5) rfl rfl rfl (y4 yH rfl rfl) ?_
 refine WL.a (d:=6) rfl rfl rfl (y4 y1b rfl rfl) ?_
 refine WL.a (d:=7) rfl rfl rfl (y6 yf rfl (yc .here rfl)) ?_
 refine WL.yj (dd:=8) rfl rfl rfl (zI (l:=[.tmp 2,.const (.int .u8 3),.tmp 7]) Tryd.call112 (.cons rfl (.cons rfl (.cons rfl .nil)))) (.cons .here .nil) (cc hz (.cons .here .nil) fun w pz ho=>y1S _ _ _ _ _ _ _ _ _ _ zgd w pz zgb zgc ho) ?_
 rintro zge zgf zgg zgh zgi
 refine WL.nil ?_
 obtain rfl:=Option.some.inj h
 refine WX.yd Tryd.results106 .nil (fun w hw=>?_)
 exact ⟨zge,zgf,zgg,zgh,y12,zgi,hw.sub (.cons .here (.cons .here .nil))⟩
def y23 (zg : Sproc_execution) : Option Sproc_execution :=
 some (⟨(⟨i64 (zg.fState.fPc - 1),zg.fState.fLeft,zg.fState.fRegs⟩ : Sproc_State),zg.fX,zg.fMem,(⟨16,0,0,([] : List Int)⟩ : Sproc_Act)⟩ : Sproc_execution)
set_option maxRecDepth 20000 in
theorem y42 (Z : Zp) (z3M : Nat) (z3N : Option Addr) (z3O : Nat) (z52 : Option Addr) (z54 : Nat) (zg : Sproc_execution) (r : Sproc_execution)
  (h : y23 zg = some r) (w₀ : World) (hz : PZ (fps [stb z3M 65 [(.int .i64 zg.fState.fPc),(.int .i64 zg.fState.fLeft),(.int .u8 zg.fState.fRegs.a0),(.int .u8 zg.fState.fRegs.a1),(.int .u8 zg.fState.fRegs.a2),(.int .u8 zg.fState.fRegs.a3),(.int .u8 zg.fX.fOp),(.int .i64 zg.fX.fA),(.int .i64 zg.fX.fB),(.int .i64 zg.fX.fC),(.slice z3N zg.fMem.length z3O),(.int .u8 zg.fAct.fKind),(.int .i64 zg.fAct.fA),(.int .i64 zg.fAct.fB),(.slice z52 zg.fAct.fData.length z54)]]) w₀ Z)
  (zgj : ZS Z 1 (fun r x=>r = e5 x) z3N z3O zg.fMem)
  (zmo : ZS Z 1 (fun r x=>r = e5 x) z52 z54 zg.fAct.fData)
  (hown : Hp (fps [stb z3M 65 [(.int .i64 zg.fState.fPc),(.int .i64 zg.fState.fLeft),(.int .u8 zg.fState.fRegs.a0),(.int .u8 zg.fState.fRegs.a1),(.int .u8 zg.fState.fRegs.a2),(.int .u8 zg.fState.fRegs.a3),(.int .u8 zg.fX.fOp),(.int .i64 zg.fX.fA),(.int .i64 zg.fX.fB),(.int .i64 zg.fX.fC),(.slice z3N zg.fMem.length z3O),(.int .u8 zg.fAct.fKind),(.int .i64 zg.fAct.fA),(.int .i64 zg.fAct.fB),(.slice z52 zg.fAct.fData.length z54)]]) w₀ w₀ [stb z3M 65 [(.int .i64 zg.fState.fPc),(.int .i64 zg.fState.fLeft),(.int .u8 zg.fState.fRegs.a0),(.int .u8 zg.fState.fRegs.a1),(.int .u8 zg.fState.fRegs.a2),(.int .u8 zg.fState.fRegs.a3),(.int .u8 zg.fX.fOp),(.int .i64 zg.fX.fA),(.int .i64 zg.fX.fB),(.int .i64 zg.fX.fC),(.slice z3N zg.fMem.length z3O),(.int .u8 zg.fAct.fKind),(.int .i64 zg.fAct.fA),(.int .i64 zg.fAct.fB),(.slice z52 zg.fAct.fData.length z54)]]) :
  Calls Tryd.prog 107 #[(.pointer (some ⟨z3M,0,none⟩))] w₀ fun e w'=>∃ zbY : Option Addr,∃ zbZ : Nat,∃ zc0 : Option Addr,∃ zc1 : Nat,e = .returned (.tuple #[]) ∧ (ZS Z 1 (fun r x=>r = e5 x) zbY zbZ r.fMem) ∧ Hp (fps [stb z3M 65 [(.int .i64 zg.fState.fPc),(.int .i64 zg.fState.fLeft),(.int .u8 zg.fState.fRegs.a0),(.int .u8 zg.fState.fRegs.a1),(.int .u8 zg.fState.fRegs.a2),(.int .u8 zg.fState.fRegs.a3),(.int .u8 zg.fX.fOp),(.int .i64 zg.fX.fA),(.int .i64 zg.fX.fB),(.int .i64 zg.fX.fC),(.slice z3N zg.fMem.length z3O),(.int .u8 zg.fAct.fKind),(.int .i64 zg.fAct.fA),(.int .i64 zg.fAct.fB),(.slice z52 zg.fAct.fData.length z54)]]) w₀ w' [stb z3M 65 [(.int .i64 r.fState.fPc),(.int .i64 r.fState.fLeft),(.int .u8 r.fState.fRegs.a0),(.int .u8 r.fState.fRegs.a1),(.int .u8 r.fState.fRegs.a2),(.int .u8 r.fState.fRegs.a3),(.int .u8 r.fX.fOp),(.int .i64 r.fX.fA),(.int .i64 r.fX.fB),(.int .i64 r.fX.fC),(.slice zbY r.fMem.length zbZ),(.int .u8 r.fAct.fKind),(.int .i64 r.fAct.fA),(.int .i64 r.fAct.fB),(.slice zc0 r.fAct.fData.length zc1)],row (.slice zc0 r.fAct.fData.length zc1) 5 1 (r.fAct.fData.flatMap e5)]:=by
 unfold y23 at h
 refine Calls.y8 (vs:=[(.pointer (some ⟨z3M,0,none⟩))]) (pre:=[stb z3M 65 [(.int .i64 zg.fState.fPc),(.int .i64 zg.fState.fLeft),(.int .u8 zg.fState.fRegs.a0),(.int .u8 zg.fState.fRegs.a1),(.int .u8 zg.fState.fRegs.a2),(.int .u8 zg.fState.fRegs.a3),(.int .u8 zg.fX.fOp),(.int .i64 zg.fX.fA),(.int .i64 zg.fX.fB),(.int .i64 zg.fX.fC),(.slice z3N zg.fMem.length z3O),(.int .u8 zg.fAct.fKind),(.int .i64 zg.fAct.fA),(.int .i64 zg.fAct.fB),(.slice z52 zg.fAct.fData.length z54)]]) (env:=[(0,(.pointer (some ⟨z3M,0,none⟩)))]) Tryd.func107 rfl Tryd.ntmps107 rfl (hown) rfl ?_
 refine WC.b (WC.a (WL.pu rfl ?_))
 refine WL.a (d:=3) rfl rfl rfl (y7 rfl) ?_
 refine WL.a (d:=4) rfl rfl rfl (y4 y1c rfl rfl) ?_
 refine WL.a (d:=5) rfl rfl rfl (y4 y2j rfl rfl) ?_
 refine WL.a (d:=6) rfl rfl rfl (y6 yf rfl (yc .here rfl)) ?_
 refine WL.pu rfl ?_
 refine WL.a (d:=8) rfl rfl rfl (y7 rfl) ?_
 refine WL.a (d:=9) rfl rfl rfl (y4 y1c rfl rfl) ?_
 refine WL.a (d:=10) rfl rfl rfl (y4 y2j rfl rfl) ?_
 refine WL.yo rfl rfl (y1g (ds:=[(.int .i64 (i64 (zg.fState.fPc - 1))),(.int .i64 zg.fState.fLeft),(.int .u8 zg.fState.fRegs.a0),(.int .u8 zg.fState.fRegs.a1),(.int .u8 zg.fState.fRegs.a2),(.int .u8 zg.fState.fRegs.a3),(.int .u8 zg.fX.fOp),(.int .i64 zg.fX.fA),(.int .i64 zg.fX.fB),(.int .i64 zg.fX.fC),(.slice z3N zg.fMem.length z3O),(.int .u8 zg.fAct.fKind),(.int .i64 zg.fAct.fA),(.int .i64 zg.fAct.fB),(.slice z52 zg.fAct.fData.length z54)]) y2V rfl rfl rfl rfl rfl .here rfl rfl) ?_
 refine WL.nil (WX.a (WC.a (WL.pu rfl ?_)))
 refine WL.a (d:=12) rfl rfl rfl (yZ (v:=(.agg #[(.int .u8 16),(.int .i64 0),(.int .i64 0),(.slice none 0 0)])) (Eos.parts (l:=[.const (.int .u8 16)]) (.cons rfl .nil) [0]) (fun _=>by kernel_rfl)) ?_
 refine WL.a (d:=13) rfl rfl rfl (y7 rfl) ?_
 refine WL.a (d:=14) rfl rfl rfl (y4 y3e rfl rfl) ?_
 refine WL.yo rfl rfl (y1g (ds:=[(.int .i64 (i64 (zg.fState.fPc - 1))),(.int .i64 zg.fState.fLeft),(.int .u8 zg.fState.fRegs.a0),(.int .u8 zg.fState.fRegs.a1),(.int .u8 zg.fState.fRegs.a2),(.int .u8 zg.fState.fRegs.a3),(.int .u8 zg.fX.fOp),(.int .i64 zg.fX.fA),(.int .i64 zg.fX.fB),(.int .i64 zg.fX.fC),(.slice z3N zg.fMem.length z3O),(.int .u8 16),(.int .i64 0),(.int .i64 0),(.slice none 0 0)]) y1y rfl rfl rfl rfl rfl .here rfl rfl) ?_
 refine WL.nil ?_
 refine WX.nilRow 5 1 ?_
 obtain rfl:=Option.some.inj h
 refine WX.yd Tryd.results107 .nil (fun w hw=>?_)
 exact ⟨z3N,z3O,none,0,y12,zgj,hw.sub (.cons .h1 (.cons .here .nil))⟩
def y1M (z55 : List Sapi_Ins) (ze : Sproc_State) (zU : List Int) : Option (Sproc_State × Sproc_Act) :=
 (y2N z55 ze.fPc).bind fun zR=>if !zR.2 then some (ze,(⟨15,5,0,[]⟩ : Sproc_Act)) else jp15 (fun (z2W : Int) (z2X : Int) (z2Y : Int) (z2Z : Int) (z30 : Int) (z31 : Int) (z4B : Int) (z4C : Int) (z4D : Int) (z4E : Int) (z3P : List Int) (z32 : Int) (z33 : Int) (z34 : Int) (z2M : List Int)=>some ((⟨z2W,z2X,(⟨z2Y,z2Z,z30,z31⟩ : S34)⟩ : Sproc_State),(⟨z32,z33,z34,z2M⟩ : Sproc_Act))) fun z1s=>chk ((0 : Int) ≤ zR.1.fOp ∧ zR.1.fOp < 26) (sw [(1,(y1R (⟨(⟨i64 (ze.fPc + 1),ze.fLeft,ze.fRegs⟩ : Sproc_State),zR.1,zU,(⟨0,0,0,[]⟩ : Sproc_Act)⟩ : Sproc_execution)).bind fun zY=>z1s zY.fState.fPc zY.fState.fLeft zY.fState.fRegs.a0 zY.fState.fRegs.a1 zY.fState.fRegs.a2 zY.fState.fRegs.a3 zY.fX.fOp zY.fX.fA zY.fX.fB zY.fX.fC zY.fMem zY.fAct.fKind zY.fAct.fA zY.fAct.fB zY.fAct.fData),(2,(y29 (⟨(⟨i64 (ze.fPc + 1),ze.fLeft,ze.fRegs⟩ : Sproc_State),zR.1,zU,(⟨0,0,0,[]⟩ : Sproc_Act)⟩ : Sproc_execution)).bind fun zZ=>z1s zZ.fState.fPc zZ.fState.fLeft zZ.fState.fRegs.a0 zZ.fState.fRegs.a1 zZ.fState.fRegs.a2 zZ.fState.fRegs.a3 zZ.fX.fOp zZ.fX.fA zZ.fX.fB zZ.fX.fC zZ.fMem zZ.fAct.fKind zZ.fAct.fA zZ.fAct.fB zZ.fAct.fData),(3,(y2a (⟨(⟨i64 (ze.fPc + 1),ze.fLeft,ze.fRegs⟩ : Sproc_State),zR.1,zU,(⟨0,0,0,[]⟩ : Sproc_Act)⟩ : Sproc_execution)).bind fun z10=>z1s z10.fState.fPc z10.fState.fLeft z10.fState.fRegs.a0 z10.fState.fRegs.a1 z10.fState.fRegs.a2 z10.fState.fRegs.a3 z10.fX.fOp z10.fX.fA z10.fX.fB z10.fX.fC z10.fMem z10.fAct.fKind z10.fAct.fA z10.fAct.fB z10.fAct.fData),(4,(y2b (⟨(⟨i64 (ze.fPc + 1),ze.fLeft,ze.fRegs⟩ : Sproc_State),zR.1,zU,(⟨0,0,0,[]⟩ : Sproc_Act)⟩ : Sproc_execution)).bind fun z11=>z1s z11.fState.fPc z11.fState.fLeft z11.fState.fRegs.a0 z11.fState.fRegs.a1 z11.fState.fRegs.a2 z11.fState.fRegs.a3 z11.fX.fOp z11.fX.fA z11.fX.fB z11.fX.fC z11.fMem z11.fAct.fKind z11.fAct.fA z11.fAct.fB z11.fAct.fData),(5,(y1T (⟨(⟨i64 (ze.fPc + 1),ze.fLeft,ze.fRegs⟩ : Sproc_State),zR.1,zU,(⟨0,0,0,[]⟩ : Sproc_Act)⟩ : Sproc_execution)).bind fun z12=>z1s z12.fState.fPc z12.fState.fLeft z12.fState.fRegs.a0 z12.fState.fRegs.a1 z12.fState.fRegs.a2 z12.fState.fRegs.a3 z12.fX.fOp z12.fX.fA z12.fX.fB z12.fX.fC z12.fMem z12.fAct.fKind z12.fAct.fA z12.fAct.fB z12.fAct.fData),(6,(y1G (⟨(⟨i64 (ze.fPc + 1),ze.fLeft,ze.fRegs⟩ : Sproc_State),zR.1,zU,(⟨0,0,0,[]⟩ : Sproc_Act)⟩ : Sproc_execution)).bind fun z13=>z1s z13.fState.fPc z13.fState.fLeft z13.fState.fRegs.a0 z13.fState.fRegs.a1 z13.fState.fRegs.a2 z13.fState.fRegs.a3 z13.fX.fOp z13.fX.fA z13.fX.fB z13.fX.fC z13.fMem z13.fAct.fKind z13.fAct.fA z13.fAct.fB z13.fAct.fData),(7,(y1U (⟨(⟨i64 (ze.fPc + 1),ze.fLeft,ze.fRegs⟩ : Sproc_State),zR.1,zU,(⟨0,0,0,[]⟩ : Sproc_Act)⟩ : Sproc_execution)).bind fun z14=>z1s z14.fState.fPc z14.fState.fLeft z14.fState.fRegs.a0 z14.fState.fRegs.a1 z14.fState.fRegs.a2 z14.fState.fRegs.a3 z14.fX.fOp z14.fX.fA z14.fX.fB z14.fX.fC z14.fMem z14.fAct.fKind z14.fAct.fA z14.fAct.fB z14.fAct.fData),(8,(y1V (⟨(⟨i64 (ze.fPc + 1),ze.fLeft,ze.fRegs⟩ : Sproc_State),zR.1,zU,(⟨0,0,0,[]⟩ : Sproc_Act)⟩ : Sproc_execution)).bind fun z15=>z1s z15.fState.fPc z15.fState.fLeft z15.fState.fRegs.a0 z15.fState.fRegs.a1 z15.fState.fRegs.a2 z15.fState.fRegs.a3 z15.fX.fOp z15.fX.fA z15.fX.fB z15.fX.fC z15.fMem z15.fAct.fKind z15.fAct.fA z15.fAct.fB z15.fAct.fData),(9,(y1W (⟨(⟨i64 (ze.fPc + 1),ze.fLeft,ze.fRegs⟩ : Sproc_State),zR.1,zU,(⟨0,0,0,[]⟩ : Sproc_Act)⟩ : Sproc_execution)).bind fun z16=>z1s z16.fState.fPc z16.fState.fLeft z16.fState.fRegs.a0 z16.fState.fRegs.a1 z16.fState.fRegs.a2 z16.fState.fRegs.a3 z16.fX.fOp z16.fX.fA z16.fX.fB z16.fX.fC z16.fMem z16.fAct.fKind z16.fAct.fA z16.fAct.fB z16.fAct.fData),(10,(y1w (⟨(⟨i64 (ze.fPc + 1),ze.fLeft,ze.fRegs⟩ : Sproc_State),zR.1,zU,(⟨0,0,0,[]⟩ : Sproc_Act)⟩ : Sproc_execution)).bind fun z17=>z1s z17.fState.fPc z17.fState.fLeft z17.fState.fRegs.a0 z17.fState.fRegs.a1 z17.fState.fRegs.a2 z17.fState.fRegs.a3 z17.fX.fOp z17.fX.fA z17.fX.fB z17.fX.fC z17.fMem z17.fAct.fKind z17.fAct.fA z17.fAct.fB z17.fAct.fData),(11,(y1H (⟨(⟨i64 (ze.fPc + 1),ze.fLeft,ze.fRegs⟩ : Sproc_State),zR.1,zU,(⟨0,0,0,[]⟩ : Sproc_Act)⟩ : Sproc_execution)).bind fun z18=>z1s z18.fState.fPc z18.fState.fLeft z18.fState.fRegs.a0 z18.fState.fRegs.a1 z18.fState.fRegs.a2 z18.fState.fRegs.a3 z18.fX.fOp z18.fX.fA z18.fX.fB z18.fX.fC z18.fMem z18.fAct.fKind z18.fAct.fA z18.fAct.fB z18.fAct.fData),(12,(y1I (⟨(⟨i64 (ze.fPc + 1),ze.fLeft,ze.fRegs⟩ : Sproc_State),zR.1,zU,(⟨0,0,0,[]⟩ : Sproc_Act)⟩ : Sproc_execution)).bind fun z19=>z1s z19.fState.fPc z19.fState.fLeft z19.fState.fRegs.a0 z19.fState.fRegs.a1 z19.fState.fRegs.a2 z19.fState.fRegs.a3 z19.fX.fOp z19.fX.fA z19.fX.fB z19.fX.fC z19.fMem z19.fAct.fKind z19.fAct.fA z19.fAct.fB z19.fAct.fData),(13,(y1J (⟨(⟨i64 (ze.fPc + 1),ze.fLeft,ze.fRegs⟩ : Sproc_State),zR.1,zU,(⟨0,0,0,[]⟩ : Sproc_Act)⟩ : Sproc_execution)).bind fun z1a=>z1s z1a.fState.fPc z1a.fState.fLeft z1a.fState.fRegs.a0 z1a.fState.fRegs.a1 z1a.fState.fRegs.a2 z1a.fState.fRegs.a3 z1a.fX.fOp z1a.fX.fA z1a.fX.fB z1a.fX.fC z1a.fMem z1a.fAct.fKind z1a.fAct.fA z1a.fAct.fB z1a.fAct.fData),(14,(y2c (⟨(⟨i64 (ze.fPc + 1),ze.fLeft,ze.fRegs⟩ : Sproc_State),zR.1,zU,(⟨0,0,0,[]⟩ : Sproc_Act)⟩ : Sproc_execution)).bind fun z1b=>z1s z1b.fState.fPc z1b.fState.fLeft z1b.fState.fRegs.a0 z1b.fState.fRegs.a1 z1b.fState.fRegs.a2 z1b.fState.fRegs.a3 z1b.fX.fOp z1b.fX.fA z1b.fX.fB z1b.fX.fC z1b.fMem z1b.fAct.fKind z1b.fAct.fA z1b.fAct.fB z1b.fAct.fData),(15,(y2d (⟨(⟨i64 (ze.fPc + 1),ze.fLeft,ze.fRegs⟩ : Sproc_State),zR.1,zU,(⟨0,0,0,[]⟩ : Sproc_Act)⟩ : Sproc_execution)).bind fun z1c=>z1s z1c.fState.fPc z1c.fState.fLeft z1c.fState.fRegs.a0 z1c.fState.fRegs.a1 z1c.fState.fRegs.a2 z1c.fState.fRegs.a3 z1c.fX.fOp z1c.fX.fA z1c.fX.fB z1c.fX.fC z1c.fMem z1c.fAct.fKind z1c.fAct.fA z1c.fAct.fB z1c.fAct.fData),(16,(y1X (⟨(⟨i64 (ze.fPc + 1),ze.fLeft,ze.fRegs⟩ : Sproc_State),zR.1,zU,(⟨0,0,0,[]⟩ : Sproc_Act)⟩ : Sproc_execution)).bind fun z1d=>z1s z1d.fState.fPc z1d.fState.fLeft z1d.fState.fRegs.a0 z1d.fState.fRegs.a1 z1d.fState.fRegs.a2 z1d.fState.fRegs.a3 z1d.fX.fOp z1d.fX.fA z1d.fX.fB z1d.fX.fC z1d.fMem z1d.fAct.fKind z1d.fAct.fA z1d.fAct.fB z1d.fAct.fData),(17,(y1Y (⟨(⟨i64 (ze.fPc + 1),ze.fLeft,ze.fRegs⟩ : Sproc_State),zR.1,zU,(⟨0,0,0,[]⟩ : Sproc_Act)⟩ : Sproc_execution)).bind fun z1e=>z1s z1e.fState.fPc z1e.fState.fLeft z1e.fState.fRegs.a0 z1e.fState.fRegs.a1 z1e.fState.fRegs.a2 z1e.fState.fRegs.a3 z1e.fX.fOp z1e.fX.fA z1e.fX.fB z1e.fX.fC z1e.fMem z1e.fAct.fKind z1e.fAct.fA z1e.fAct.fB z1e.fAct.fData),(18,(y1K (⟨(⟨i64 (ze.fPc + 1),ze.fLeft,ze.fRegs⟩ : Sproc_State),zR.1,zU,(⟨0,0,0,[]⟩ : Sproc_Act)⟩ : Sproc_execution)).bind fun z1f=>z1s z1f.fState.fPc z1f.fState.fLeft z1f.fState.fRegs.a0 z1f.fState.fRegs.a1 z1f.fState.fRegs.a2 z1f.fState.fRegs.a3 z1f.fX.fOp z1f.fX.fA z1f.fX.fB z1f.fX.fC z1f.fMem z1f.fAct.fKind z1f.fAct.fA z1f.fAct.fB z1f.fAct.fData),(19,(y1Z (⟨(⟨i64 (ze.fPc + 1),ze.fLeft,ze.fRegs⟩ : Sproc_State),zR.1,zU,(⟨0,0,0,[]⟩ : Sproc_Act)⟩ : Sproc_execution)).bind fun zV=>z1s zV.fState.fPc zV.fState.fLeft zV.fState.fRegs.a0 zV.fState.fRegs.a1 zV.fState.fRegs.a2 zV.fState.fRegs.a3 zV.fX.fOp zV.fX.fA zV.fX.fB zV.fX.fC zV.fMem zV.fAct.fKind zV.fAct.fA zV.fAct.fB zV.fAct.fData),(20,(y20 (⟨(⟨i64 (ze.fPc + 1),ze.fLeft,ze.fRegs⟩ : Sproc_State),zR.1,zU,(⟨0,0,0,[]⟩ : Sproc_Act)⟩ : Sproc_execution)).bind fun z1g=>z1s z1g.fState.fPc z1g.fState.fLeft z1g.fState.fRegs.a0 z1g.fState.fRegs.a1 z1g.fState.fRegs.a2 z1g.fState.fRegs.a3 z1g.fX.fOp z1g.fX.fA z1g.fX.fB z1g.fX.fC z1g.fMem z1g.fAct.fKind z1g.fAct.fA z1g.fAct.fB z1g.fAct.fData),(21,(y21 (⟨(⟨i64 (ze.fPc + 1),ze.fLeft,ze.fRegs⟩ : Sproc_State),zR.1,zU,(⟨0,0,0,[]⟩ : Sproc_Act)⟩ : Sproc_execution)).bind fun z1h=>z1s z1h.fState.fPc z1h.fState.fLeft z1h.fState.fRegs.a0 z1h.fState.fRegs.a1 z1h.fState.fRegs.a2 z1h.fState.fRegs.a3 z1h.fX.fOp z1h.fX.fA z1h.fX.fB z1h.fX.fC z1h.fMem z1h.fAct.fKind z1h.fAct.fA z1h.fAct.fB z1h.fAct.fData),(22,(y22 (⟨(⟨i64 (ze.fPc + 1),ze.fLeft,ze.fRegs⟩ : Sproc_State),zR.1,zU,(⟨0,0,0,[]⟩ : Sproc_Act)⟩ : Sproc_execution)).bind fun z1i=>z1s z1i.fState.fPc z1i.fState.fLeft z1i.fState.fRegs.a0 z1i.fState.fRegs.a1 z1i.fState.fRegs.a2 z1i.fState.fRegs.a3 z1i.fX.fOp z1i.fX.fA z1i.fX.fB z1i.fX.fC z1i.fMem z1i.fAct.fKind z1i.fAct.fA z1i.fAct.fB z1i.fAct.fData),(23,(y2e (⟨(⟨i64 (ze.fPc + 1),ze.fLeft,ze.fRegs⟩ : Sproc_State),zR.1,zU,(⟨0,0,0,[]⟩ : Sproc_Act)⟩ : Sproc_execution)).bind fun z1j=>z1s z1j.fState.fPc z1j.fState.fLeft z1j.fState.fRegs.a0 z1j.fState.fRegs.a1 z1j.fState.fRegs.a2 z1j.fState.fRegs.a3 z1j.fX.fOp z1j.fX.fA z1j.fX.fB z1j.fX.fC z1j.fMem z1j.fAct.fKind z1j.fAct.fA z1j.fAct.fB z1j.fAct.fData),(24,(y1L (⟨(⟨i64 (ze.fPc + 1),ze.fLeft,ze.fRegs⟩ : Sproc_State),zR.1,zU,(⟨0,0,0,[]⟩ : Sproc_Act)⟩ : Sproc_execution)).bind fun zW=>z1s zW.fState.fPc zW.fState.fLeft zW.fState.fRegs.a0 zW.fState.fRegs.a1 zW.fState.fRegs.a2 zW.fState.fRegs.a3 zW.fX.fOp zW.fX.fA zW.fX.fB zW.fX.fC zW.fMem zW.fAct.fKind zW.fAct.fA zW.fAct.fB zW.fAct.fData),(25,(y23 (⟨(⟨i64 (ze.fPc + 1),ze.fLeft,ze.fRegs⟩ : Sproc_State),zR.1,zU,(⟨0,0,0,[]⟩ : Sproc_Act)⟩ : Sproc_execution)).bind fun zX=>z1s zX.fState.fPc zX.fState.fLeft zX.fState.fRegs.a0 zX.fState.fRegs.a1 zX.fState.fRegs.a2 zX.fState.fRegs.a3 zX.fX.fOp zX.fX.fA zX.fX.fB zX.fX.fC zX.fMem zX.fAct.fKind zX.fAct.fA zX.fAct.fB zX.fAct.fData)] zR.1.fOp)
set_option maxRecDepth 20000 in
theorem y1p (Z : Zp) (z7l : Option Addr) (z7m : Nat) (z56 : Option Addr) (z57 : Nat) (z55 : List Sapi_Ins) (ze : Sproc_State) (zU : List Int) (r : Sproc_State × Sproc_Act)
  (h : y1M z55 ze zU = some r) (w₀ : World) (hz : PZ [] w₀ Z)
  (hG0 : ZC Z ⟨0,0,none⟩ tabG0)
  (hG1 : ZS Z 1 (p74 Z) (some ⟨1,0,none⟩) 26 y18)
  (zgk : ZS Z 4 (fun r x=>r = e33 x) z7l z7m z55)
  (z1u : ZS Z 1 (fun r x=>r = e5 x) z56 z57 zU) :
  Calls Tryd.prog 18 #[(.slice z7l z55.length z7m),(.agg #[(.int .i64 ze.fPc),(.int .i64 ze.fLeft),(.int .u8 ze.fRegs.a0),(.int .u8 ze.fRegs.a1),(.int .u8 ze.fRegs.a2),(.int .u8 ze.fRegs.a3)]),(.slice z56 zU.length z57)] w₀ fun e w'=>∃ Zn : Zp,∃ zc2 : Option Addr,∃ zc3 : Nat,e = .returned (.tuple #[(.agg #[(.int .i64 r.1.fPc),(.int .i64 r.1.fLeft),(.int .u8 r.1.fRegs.a0),(.int .u8 r.1.fRegs.a1),(.int .u8 r.1.fRegs.a2),(.int .u8 r.1.fRegs.a3)]),(.agg #[(.int .u8 r.2.fKind),(.int .i64 r.2.fA),(.int .i64 r.2.fB),(.slice zc2 r.2.fData.length zc3)])]) ∧ (ZS (Z ++ Zn) 1 (fun r x=>r = e5 x) zc2 zc3 r.2.fData) ∧ Hp [] w₀ w' [fz Zn]:=by
 unfold y1M at h
 refine Calls.y8 (vs:=[(.slice z7l z55.length z7m),(.agg #[(.int .i64 ze.fPc),(.int .i64 ze.fLeft),(.int .u8 ze.fRegs.a0),(.int .u8 ze.fRegs.a1),(.int .u8 ze.fRegs.a2),(.int .u8 ze.fRegs.a3)]),(.slice z56 zU.length z57)]) (pre:=[]) (env:=[(0,(.slice z7l z55.length z7m)),(1,(.agg #[(.int .i64 ze.fPc),(.int .i64 ze.fLeft),(.int .u8 ze.fRegs.a0),(.int .u8 ze.fRegs.a1),(.int .u8 ze.fRegs.a2),(.int .u8 ze.fRegs.a3)])),(2,(.slice z56 zU.length z57))]) Tryd.func18 rfl Tryd.ntmps18 rfl (Hp.nil w₀ _) rfl ?_
 refine WC.pool (WC.b (WC.a ?_))
 refine WL.new (dd:=4) rfl rfl rfl (y3v (cs:=[(.int .i64 ze.fPc),(.int .i64 ze.fLeft),(.int .u8 ze.fRegs.a0),(.int .u8 ze.fRegs.a1),(.int .u8 ze.fRegs.a2),(.int .u8 ze.fRegs.a3)]) rfl rfl) ?_
 intro zmp _
 refine WL.new (dd:=6) rfl rfl rfl (yA (cs:=[(.int .i64 0),(.int .i64 0),(.int .u8 0),(.int .u8 0),(.int .u8 0),(.int .u8 0)]) y1s rfl) ?_
 intro zc4 _
 refine WL.new (dd:=7) rfl rfl rfl (yA (cs:=[(.int .u8 0),(.int .i64 0),(.int .i64 0),(.slice none 0 0)]) y28 rfl) ?_
 intro zc5 _
 refine WL.nil (WX.a (WC.b ?_))
 obtain ⟨zR,zgl,h⟩:=zh h
 refine WC.a (WL.pu rfl ?_)
 refine WL.a (d:=13) rfl rfl rfl (y4 y2j rfl rfl) ?_
 refine WL.a (d:=14) rfl rfl rfl (y6 yf rfl (yc .h2 rfl)) ?_
 refine WL.b (dd:=15) rfl rfl rfl (zI (l:=[.tmp 12,.tmp 14]) Tryd.call33 (.cons rfl (.cons rfl .nil))) .nil (ccz hz .nil .h3 fun w pz ho=>y5v _ _ _ _ _ _ zgl w pz ((hG1.mono (Zle.left _ _)).weak (fun _ _ h=>yE (Zle.left _ _) h)) (zgk.mono (Zle.left _ _))) ?_
 refine WL.pu rfl (WL.pu rfl (WL.pu rfl ?_))
 refine WL.new (dd:=8) rfl rfl rfl (yA (cs:=[(.int .u8 0),(.int .i64 0),(.int .i64 0),(.int .i64 0)]) y4e rfl) ?_
 intro zmq _
 refine WL.yo rfl rfl (yy y3N rfl rfl rfl .here rfl rfl rfl) ?_
 refine WL.pu rfl (WL.nil (WX.a (WC.b (WC.b (WC.a (WL.pu rfl (WL.pu rfl (WL.nil (WX.a ?_)))))))))
 refine WC.cond rfl (fun z8v=>?_) (fun z8v=>?_)
 ·replace h:=ym h z8v
  refine WC.b (WC.a ?_)
  refine WL.a (d:=20) rfl rfl rfl (y16 y1P rfl (y13 .h3) rfl) ?_
  refine WL.a (d:=21) rfl rfl rfl (yZ (v:=(.agg #[(.int .u8 15),(.int .i64 5),(.int .i64 0),(.slice none 0 0)])) (Eos.parts (l:=[.const (.int .u8 15),.const (.int .i64 5)]) (.cons rfl (.cons rfl .nil)) [0,1]) (fun _=>by kernel_rfl)) ?_
  refine WL.yo rfl rfl (yy y2i rfl rfl rfl .h2 rfl rfl rfl) ?_
  refine WL.yo rfl rfl (yy y1y rfl rfl rfl .h2 rfl rfl rfl) ?_
  refine WL.nil (WX.a (WC.ret (WX.ya ?_)))
  obtain rfl:=Option.some.inj h
  refine WX.ye Tryd.results18 (.agg rfl y1P rfl (y13 .h1) (.agg rfl y32 rfl (y13 .here) .nil)) (fun w hw=>?_)
  exact ⟨[],none,0,ret2 rfl rfl,(ZS.nil _ _ _),hw.sub (.cons .h4 .nil)⟩
 ·replace h:=yn h z8v
  refine WC.skip (WX.a (WC.b (WC.a ?_)))
  refine WL.a (d:=22) rfl rfl rfl (y16 y1P rfl (y13 .h3) rfl) ?_
  refine WL.a (d:=23) rfl rfl rfl (y16 y2L rfl (y13 .here) rfl) ?_
  refine WL.pu rfl ?_
  refine WL.a (d:=25) rfl rfl rfl (yZ (v:=(.agg #[(.int .i64 ze.fPc),(.int .i64 ze.fLeft),(.int .u8 ze.fRegs.a0),(.int .u8 ze.fRegs.a1),(.int .u8 ze.fRegs.a2),(.int .u8 ze.fRegs.a3),(.int .u8 zR.1.fOp),(.int .i64 zR.1.fA),(.int .i64 zR.1.fB),(.int .i64 zR.1.fC),(.slice z56 zU.length z57),(.int .u8 0),(.int .i64 0),(.int .i64 0),(.slice none 0 0)])) (Eos.parts (l:=[.tmp 22,.tmp 23,.tmp 24]) (.cons rfl (.cons rfl (.cons rfl .nil))) [0,1,2]) (fun _=>by kernel_rfl)) ?_
  refine WL.new (dd:=26) rfl rfl rfl (y3v (cs:=[(.int .i64 ze.fPc),(.int .i64 ze.fLeft),(.int .u8 ze.fRegs.a0),(.int .u8 ze.fRegs.a1),(.int .u8 ze.fRegs.a2),(.int .u8 ze.fRegs.a3),(.int .u8 zR.1.fOp),(.int .i64 zR.1.fA),(.int .i64 zR.1.fB),(.int .i64 zR.1.fC),(.slice z56 zU.length z57),(.int .u8 0),(.int .i64 0),(.int .i64 0),(.slice none 0 0)]) rfl rfl) ?_
  intro z8w _
  refine WL.pu rfl (WL.nil (WX.a (WC.b (WC.a (WL.pu rfl ?_)))))
  refine WL.a (d:=28) rfl rfl rfl (y7 rfl) ?_
  refine WL.a (d:=29) rfl rfl rfl (y4 y1c rfl rfl) ?_
  refine WL.a (d:=30) rfl rfl rfl (y4 y2j rfl rfl) ?_
  refine WL.a (d:=31) rfl rfl rfl (y6 yf rfl (yc .here rfl)) ?_
  refine WL.pu rfl ?_
  refine WL.a (d:=33) rfl rfl rfl (y7 rfl) ?_
  refine WL.a (d:=34) rfl rfl rfl (y4 y1c rfl rfl) ?_
  refine WL.a (d:=35) rfl rfl rfl (y4 y2j rfl rfl) ?_
  refine WL.yo rfl rfl (y1g (ds:=[(.int .i64 (i64 (ze.fPc + 1))),(.int .i64 ze.fLeft),(.int .u8 ze.fRegs.a0),(.int .u8 ze.fRegs.a1),(.int .u8 ze.fRegs.a2),(.int .u8 ze.fRegs.a3),(.int .u8 zR.1.fOp),(.int .i64 zR.1.fA),(.int .i64 zR.1.fB),(.int .i64 zR.1.fC),(.slice z56 zU.length z57),(.int .u8 0),(.int .i64 0),(.int .i64 0),(.slice none 0 0)]) y2V rfl rfl rfl rfl rfl .here rfl rfl) ?_
  refine WL.nil (WX.a ?_)
  obtain ⟨z1s,zgm,h⟩:=y6z h
  refine WC.y64 (fun (z2W : Int) (z2X : Int) (z2Y : Int) (z2Z : Int) (z30 : Int) (z31 : Int) (z4B : Int) (z4C : Int) (z4D : Int) (z4E : Int) (z3P : List Int) (z32 : Int) (z33 : Int) (z34 : Int) (z2M : List Int) (z4F : Zp) (z6p : Option Addr) (z6q : Nat) (z4G : Option Addr) (z4H : Nat)=>(z1s z2W z2X z2Y z2Z z30 z31 z4B z4C z4D z4E z3P z32 z33 z34 z2M = some r) ∧ (Zle (Z ++ []) (Z ++ z4F)) ∧ (ZS (Z ++ z4F) 1 (fun r x=>r = e5 x) z6p z6q z3P) ∧ (ZS (Z ++ z4F) 1 (fun r x=>r = e5 x) z4G z4H z2M)) (fun (z2W : Int) (z2X : Int) (z2Y : Int) (z2Z : Int) (z30 : Int) (z31 : Int) (z4B : Int) (z4C : Int) (z4D : Int) (z4E : Int) (z3P : List Int) (z32 : Int) (z33 : Int) (z34 : Int) (z2M : List Int) (z4F : Zp) (z6p : Option Addr) (z6q : Nat) (z4G : Option Addr) (z4H : Nat)=>[(6,(.pointer (some ⟨zc4,0,none⟩))),(7,(.pointer (some ⟨zc5,0,none⟩))),(10,(.pointer (some ⟨z8w,0,none⟩)))]) (fun (z2W : Int) (z2X : Int) (z2Y : Int) (z2Z : Int) (z30 : Int) (z31 : Int) (z4B : Int) (z4C : Int) (z4D : Int) (z4E : Int) (z3P : List Int) (z32 : Int) (z33 : Int) (z34 : Int) (z2M : List Int) (z4F : Zp) (z6p : Option Addr) (z6q : Nat) (z4G : Option Addr) (z4H : Nat)=>[fz z4F,stb zc4 39 [(.int .i64 0),(.int .i64 0),(.int .u8 0),(.int .u8 0),(.int .u8 0),(.int .u8 0)],stb zc5 41 [(.int .u8 0),(.int .i64 0),(.int .i64 0),(.slice none 0 0)],stb z8w 65 [(.int .i64 z2W),(.int .i64 z2X),(.int .u8 z2Y),(.int .u8 z2Z),(.int .u8 z30),(.int .u8 z31),(.int .u8 z4B),(.int .i64 z4C),(.int .i64 z4D),(.int .i64 z4E),(.slice z6p z3P.length z6q),(.int .u8 z32),(.int .i64 z33),(.int .i64 z34),(.slice z4G z2M.length z4H)]]) ?_ ?_
  ·skip
   obtain ⟨zgn,h⟩:=y9 h
   refine WC.a ?_
   refine WL.a (d:=36) rfl rfl rfl (y4 y31 rfl rfl) ?_
   refine WL.a (d:=37) rfl rfl rfl (y6 yN rfl (yc .h1 rfl)) ?_
   refine WL.a (d:=38) rfl rfl rfl (y3B arT_67 rfl rfl zgn rfl) ?_
   rcases yG h with ⟨zgo,h⟩ | h
   ·skip
    obtain ⟨zY,zgp,h⟩:=zh h
    refine WL.a (d:=39) rfl rfl rfl (y6 yI rfl (yT (k:=1) (hz.pv2 .h5) (hG0.mono (Zle.left _ _)) zgo rfl)) ?_
    refine WL.pu rfl ?_
    refine WL.yj (dd:=41) rfl rfl rfl (yq (l:=[.tmp 40]) Tryd.call84 rfl (.cons rfl .nil)) (.cons .here .nil) (ccz hz (.cons .here .nil) .h4 fun w pz ho=>y3R _ _ _ _ _ _ _ _ zgp w pz (z1u.mono (Zle.left _ _)) (ZS.nil _ _ _) ho) ?_
    rintro zgq zgr zgs zgt ⟨zgu,zgv⟩
    refine WL.nil ?_
    exact WX.mid (G:=Int × Int × Int × Int × Int × Int × Int × Int × Int × Int × List Int × Int × Int × Int × List Int × Zp × Option Addr × Nat × Option Addr × Nat) ⟨zY.fState.fPc,zY.fState.fLeft,zY.fState.fRegs.a0,zY.fState.fRegs.a1,zY.fState.fRegs.a2,zY.fState.fRegs.a3,zY.fX.fOp,zY.fX.fA,zY.fX.fB,zY.fX.fC,zY.fMem,zY.fAct.fKind,zY.fAct.fA,zY.fAct.fB,zY.fAct.fData,[],zgq,zgr,zgs,zgt⟩ ⟨h,(Zle.refl _),zgu,zgv⟩ (.cons rfl (.cons rfl (.cons rfl .nil))) (.cons .h5 (.cons .h3 (.cons .h2 (.cons .here .nil))))
   rcases yG h with ⟨zgw,h⟩ | h
   ·skip
    obtain ⟨zZ,zgx,h⟩:=zh h
    refine WL.a (d:=39) rfl rfl rfl (y6 yI rfl (yT (k:=2) (hz.pv2 .h5) (hG0.mono (Zle.left _ _)) zgw rfl)) ?_
    refine WL.pu rfl ?_
    refine WL.yj (dd:=41) rfl rfl rfl (yq (l:=[.tmp 40]) Tryd.call85 rfl (.cons rfl .nil)) (.cons .here .nil) (ccz hz (.cons .here .nil) .h4 fun w pz ho=>y4g _ _ _ _ _ _ _ _ zgx w pz (z1u.mono (Zle.left _ _)) (ZS.nil _ _ _) ho) ?_
    rintro zgy zgz zgA zgB ⟨zgC,zgD⟩
    refine WL.nil ?_
    exact WX.mid (G:=Int × Int × Int × Int × Int × Int × Int × Int × Int × Int × List Int × Int × Int × Int × List Int × Zp × Option Addr × Nat × Option Addr × Nat) ⟨zZ.fState.fPc,zZ.fState.fLeft,zZ.fState.fRegs.a0,zZ.fState.fRegs.a1,zZ.fState.fRegs.a2,zZ.fState.fRegs.a3,zZ.fX.fOp,zZ.fX.fA,zZ.fX.fB,zZ.fX.fC,zZ.fMem,zZ.fAct.fKind,zZ.fAct.fA,zZ.fAct.fB,zZ.fAct.fData,[],zgy,zgz,zgA,zgB⟩ ⟨h,(Zle.refl _),zgC,zgD⟩ (.cons rfl (.cons rfl (.cons rfl .nil))) (.cons .h5 (.cons .h3 (.cons .h2 (.cons .here .nil))))
   rcases yG h with ⟨zgE,h⟩ | h
   ·skip
    obtain ⟨z10,zgF,h⟩:=zh h
    refine WL.a (d:=39) rfl rfl rfl (y6 yI rfl (yT (k:=3) (hz.pv2 .h5) (hG0.mono (Zle.left _ _)) zgE rfl)) ?_
    refine WL.pu rfl ?_
    refine WL.yj (dd:=41) rfl rfl rfl (yq (l:=[.tmp 40]) Tryd.call82 rfl (.cons rfl .nil)) (.cons .here .nil) (ccz hz (.cons .here .nil) .h4 fun w pz ho=>y4h _ _ _ _ _ _ _ _ zgF w pz (z1u.mono (Zle.left _ _)) (ZS.nil _ _ _) ho) ?_
    rintro zgG zgH zgI zgJ ⟨zgK,zgL⟩
    refine WL.nil ?_
    exact WX.mid (G:=Int × Int × Int × Int × Int × Int × Int × Int × Int × Int × List Int × Int × Int × Int × List Int × Zp × Option Addr × Nat × Option Addr × Nat) ⟨z10.fState.fPc,z10.fState.fLeft,z10.fState.fRegs.a0,z10.fState.fRegs.a1,z10.fState.fRegs.a2,z10.fState.fRegs.a3,z10.fX.fOp,z10.fX.fA,z10.fX.fB,z10.fX.fC,z10.fMem,z10.fAct.fKind,z10.fAct.fA,z10.fAct.fB,z10.fAct.fData,[],zgG,zgH,zgI,zgJ⟩ ⟨h,(Zle.refl _),zgK,zgL⟩ (.cons rfl (.cons rfl (.cons rfl .nil))) (.cons .h5 (.cons .h3 (.cons .h2 (.cons .here .nil))))
   rcases yG h with ⟨zgM,h⟩ | h
   ·skip
    obtain ⟨z11,zgN,h⟩:=zh h
    refine WL.a (d:=39) rfl rfl rfl (y6 yI rfl (yT (k:=4) (hz.pv2 .h5) (hG0.mono (Zle.left _ _)) zgM rfl)) ?_
    refine WL.pu rfl ?_
    refine WL.yj (dd:=41) rfl rfl rfl (yq (l:=[.tmp 40]) Tryd.call86 rfl (.cons rfl .nil)) (.cons .here .nil) (ccz hz (.cons .here .nil) .h4 fun w pz ho=>y4i _ _ _ _ _ _ _ _ zgN w pz (z1u.mono (Zle.left _ _)) (ZS.nil _ _ _) ho) ?_
    rintro zgO zgP zgQ zgR ⟨zgS,zgT⟩
    refine WL.nil ?_
    exact WX.mid (G:=Int × Int × Int × Int × Int × Int × Int × Int × Int × Int × List Int × Int × Int × Int × List Int × Zp × Option Addr × Nat × Option Addr × Nat) ⟨z11.fState.fPc,z11.fState.fLeft,z11.fState.fRegs.a0,z11.fState.fRegs.a1,z11.fState.fRegs.a2,z11.fState.fRegs.a3,z11.fX.fOp,z11.fX.fA,z11.fX.fB,z11.fX.fC,z11.fMem,z11.fAct.fKind,z11.fAct.fA,z11.fAct.fB,z11.fAct.fData,[],zgO,zgP,zgQ,zgR⟩ ⟨h,(Zle.refl _),zgS,zgT⟩ (.cons rfl (.cons rfl (.cons rfl .nil))) (.cons .h5 (.cons .h3 (.cons .h2 (.cons .here .nil))))
   rcases yG h with ⟨zgU,h⟩ | h
   ·skip
    obtain ⟨z12,zgV,h⟩:=zh h
    refine WL.a (d:=39) rfl rfl rfl (y6 yI rfl (yT (k:=5) (hz.pv2 .h5) (hG0.mono (Zle.left _ _)) zgU rfl)) ?_
    refine WL.pu rfl ?_
    refine WL.y26 (dd:=41) rfl rfl rfl (yq (l:=[.tmp 40]) Tryd.call87 rfl (.cons rfl .nil)) (.cons .here .nil) (ccz hz (.cons .here .nil) .h4 fun w pz ho=>y3S _ _ _ _ _ _ _ _ zgV w pz (z1u.mono (Zle.left _ _)) (ZS.nil _ _ _) ho) ?_
    rintro zgW zgX zgY zgZ zh0 ⟨zh1,zh2⟩
    refine WL.merge .here .h5 ?_
    refine WL.nil ?_
    exact WX.mid (G:=Int × Int × Int × Int × Int × Int × Int × Int × Int × Int × List Int × Int × Int × Int × List Int × Zp × Option Addr × Nat × Option Addr × Nat) ⟨z12.fState.fPc,z12.fState.fLeft,z12.fState.fRegs.a0,z12.fState.fRegs.a1,z12.fState.fRegs.a2,z12.fState.fRegs.a3,z12.fX.fOp,z12.fX.fA,z12.fX.fB,z12.fX.fC,z12.fMem,z12.fAct.fKind,z12.fAct.fA,z12.fAct.fB,z12.fAct.fData,([] ++ zgW),zgX,zgY,zgZ,zh0⟩ ⟨h,((Zle.left _ _).trans (Zle.y5 _ _ _)),(zh1.mono (Zle.y5 _ _ _)),(zh2.mono (Zle.y5 _ _ _))⟩ (.cons rfl (.cons rfl (.cons rfl .nil))) (.cons .here (.cons .h3 (.cons .h2 (.cons .here .nil))))
   rcases yG h with ⟨zh3,h⟩ | h
   ·skip
    obtain ⟨z13,zh4,h⟩:=zh h
    refine WL.a (d:=39) rfl rfl rfl (y6 yI rfl (yT (k:=6) (hz.pv2 .h5) (hG0.mono (Zle.left _ _)) zh3 rfl)) ?_
    refine WL.pu rfl ?_
    refine WL.y26 (dd:=41) rfl rfl rfl (yq (l:=[.tmp 40]) Tryd.call88 rfl (.cons rfl .nil)) (.cons .here .nil) (ccz hz (.cons .here .nil) .h4 fun w pz ho=>y3D _ _ _ _ _ _ _ _ zh4 w pz (z1u.mono (Zle.left _ _)) (ZS.nil _ _ _) ho) ?_
    rintro zh5 zh6 zh7 zh8 zh9 ⟨zha,zhb⟩
    refine WL.merge .here .h5 ?_
    refine WL.nil ?_
    exact WX.mid (G:=Int × Int × Int × Int × Int × Int × Int × Int × Int × Int × List Int × Int × Int × Int × List Int × Zp × Option Addr × Nat × Option Addr × Nat) ⟨z13.fState.fPc,z13.fState.fLeft,z13.fState.fRegs.a0,z13.fState.fRegs.a1,z13.fState.fRegs.a2,z13.fState.fRegs.a3,z13.fX.fOp,z13.fX.fA,z13.fX.fB,z13.fX.fC,z13.fMem,z13.fAct.fKind,z13.fAct.fA,z13.fAct.fB,z13.fAct.fData,([] ++ zh5),zh6,zh7,zh8,zh9⟩ ⟨h,((Zle.left _ _).trans (Zle.y5 _ _ _)),(zha.mono (Zle.y5 _ _ _)),(zhb.mono (Zle.y5 _ _ _))⟩ (.cons rfl (.cons rfl (.cons rfl .nil))) (.cons .here (.cons .h3 (.cons .h2 (.cons .here .nil))))
   rcases yG h with ⟨zhc,h⟩ | h
   ·skip
    obtain ⟨z14,zhd,h⟩:=zh h
    refine WL.a (d:=39) rfl rfl rfl (y6 yI rfl (yT (k:=7) (hz.pv2 .h5) (hG0.mono (Zle.left _ _)) zhc rfl)) ?_
    refine WL.pu rfl ?_
    refine WL.y26 (dd:=41) rfl rfl rfl (yq (l:=[.tmp 40]) Tryd.call89 rfl (.cons rfl .nil)) (.cons .here .nil) (ccz hz (.cons .here .nil) .h4 fun w pz ho=>y3T _ _ _ _ _ _ _ _ zhd w pz (z1u.mono (Zle.left _ _)) (ZS.nil _ _ _) ho) ?_
    rintro zhe zhf zhg zhh zhi ⟨zhj,zhk⟩
    refine WL.merge .here .h5 ?_
    refine WL.nil ?_
    exact WX.mid (G:=Int × Int × Int × Int × Int × Int × Int × Int × Int × Int × List Int × Int × Int × Int × List Int × Zp × Option Addr × Nat × Option Addr × Nat) ⟨z14.fState.fPc,z14.fState.fLeft,z14.fState.fRegs.a0,z14.fState.fRegs.a1,z14.fState.fRegs.a2,z14.fState.fRegs.a3,z14.fX.fOp,z14.fX.fA,z14.fX.fB,z14.fX.fC,z14.fMem,z14.fAct.fKind,z14.fAct.fA,z14.fAct.fB,z14.fAct.fData,([] ++ zhe),zhf,zhg,zhh,zhi⟩ ⟨h,((Zle.left _ _).trans (Zle.y5 _ _ _)),(zhj.mono (Zle.y5 _ _ _)),(zhk.mono (Zle.y5 _ _ _))⟩ (.cons rfl (.cons rfl (.cons rfl .nil))) (.cons .here (.cons .h3 (.cons .h2 (.cons .here .nil))))
   rcases yG h with ⟨zhl,h⟩ | h
   ·skip
    obtain ⟨z15,zhm,h⟩:=zh h
    refine WL.a (d:=39) rfl rfl rfl (y6 yI rfl (yT (k:=8) (hz.pv2 .h5) (hG0.mono (Zle.left _ _)) zhl rfl)) ?_
    refine WL.pu rfl ?_
    refine WL.yj (dd:=41) rfl rfl rfl (yq (l:=[.tmp 40]) Tryd.call90 rfl (.cons rfl .nil)) (.cons .here .nil) (ccz hz (.cons .here .nil) .h4 fun w pz ho=>y3U _ _ _ _ _ _ _ _ zhm w pz (z1u.mono (Zle.left _ _)) (ZS.nil _ _ _) ho) ?_
    rintro zhn zho zhp zhq ⟨zhr,zhs⟩
    refine WL.nil ?_
    exact WX.mid (G:=Int × Int × Int × Int × Int × Int × Int × Int × Int × Int × List Int × Int × Int × Int × List Int × Zp × Option Addr × Nat × Option Addr × Nat) ⟨z15.fState.fPc,z15.fState.fLeft,z15.fState.fRegs.a0,z15.fState.fRegs.a1,z15.fState.fRegs.a2,z15.fState.fRegs.a3,z15.fX.fOp,z15.fX.fA,z15.fX.fB,z15.fX.fC,z15.fMem,z15.fAct.fKind,z15.fAct.fA,z15.fAct.fB,z15.fAct.fData,[],zhn,zho,zhp,zhq⟩ ⟨h,(Zle.refl _),zhr,zhs⟩ (.cons rfl (.cons rfl (.cons rfl .nil))) (.cons .h5 (.cons .h3 (.cons .h2 (.cons .here .nil))))
   rcases yG h with ⟨zht,h⟩ | h
   ·skip
    obtain ⟨z16,zhu,h⟩:=zh h
    refine WL.a (d:=39) rfl rfl rfl (y6 yI rfl (yT (k:=9) (hz.pv2 .h5) (hG0.mono (Zle.left _ _)) zht rfl)) ?_
    refine WL.pu rfl ?_
    refine WL.yj (dd:=41) rfl rfl rfl (yq (l:=[.tmp 40]) Tryd.call91 rfl (.cons rfl .nil)) (.cons .here .nil) (ccz hz (.cons .here .nil) .h4 fun w pz ho=>y3V _ _ _ _ _ _ _ _ zhu w pz (z1u.mono (Zle.left _ _)) (ZS.nil _ _ _) ho) ?_
    rintro zhv zhw zhx zhy ⟨zhz,zhA⟩
    refine WL.nil ?_
    exact WX.mid (G:=Int × Int × Int × Int × Int × Int × Int × Int × Int × Int × List Int × Int × Int × Int × List Int × Zp × Option Addr × Nat × Option Addr × Nat) ⟨z16.fState.fPc,z16.fState.fLeft,z16.fState.fRegs.a0,z16.fState.fRegs.a1,z16.fState.fRegs.a2,z16.fState.fRegs.a3,z16.fX.fOp,z16.fX.fA,z16.fX.fB,z16.fX.fC,z16.fMem,z16.fAct.fKind,z16.fAct.fA,z16.fAct.fB,z16.fAct.fData,[],zhv,zhw,zhx,zhy⟩ ⟨h,(Zle.refl _),zhz,zhA⟩ (.cons rfl (.cons rfl (.cons rfl .nil))) (.cons .h5 (.cons .h3 (.cons .h2 (.cons .here .nil))))
   rcases yG h with ⟨zhB,h⟩ | h
   ·skip
    obtain ⟨z17,zhC,h⟩:=zh h
    refine WL.a (d:=39) rfl rfl rfl (y6 yI rfl (yT (k:=10) (hz.pv2 .h5) (hG0.mono (Zle.left _ _)) zhB rfl)) ?_
    refine WL.pu rfl ?_
    refine WL.yj (dd:=41) rfl rfl rfl (yq (l:=[.tmp 40]) Tryd.call92 rfl (.cons rfl .nil)) (.cons .here .nil) (ccz hz (.cons .here .nil) .h4 fun w pz ho=>y3s _ _ _ _ _ _ _ _ zhC w pz (z1u.mono (Zle.left _ _)) (ZS.nil _ _ _) ho) ?_
    rintro zhD zhE zhF zhG ⟨zhH,zhI⟩
    refine WL.nil ?_
    exact WX.mid (G:=Int × Int × Int × Int × Int × Int × Int × Int × Int × Int × List Int × Int × Int × Int × List Int × Zp × Option Addr × Nat × Option Addr × Nat) ⟨z17.fState.fPc,z17.fState.fLeft,z17.fState.fRegs.a0,z17.fState.fRegs.a1,z17.fState.fRegs.a2,z17.fState.fRegs.a3,z17.fX.fOp,z17.fX.fA,z17.fX.fB,z17.fX.fC,z17.fMem,z17.fAct.fKind,z17.fAct.fA,z17.fAct.fB,z17.fAct.fData,[],zhD,zhE,zhF,zhG⟩ ⟨h,(Zle.refl _),zhH,zhI⟩ (.cons rfl (.cons rfl (.cons rfl .nil))) (.cons .h5 (.cons .h3 (.cons .h2 (.cons .here .nil))))
   rcases yG h with ⟨zhJ,h⟩ | h
   ·skip
    obtain ⟨z18,zhK,h⟩:=zh h
    refine WL.a (d:=39) rfl rfl rfl (y6 yI rfl (yT (k:=11) (hz.pv2 .h5) (hG0.mono (Zle.left _ _)) zhJ rfl)) ?_
    refine WL.pu rfl ?_
    refine WL.yj (dd:=41) rfl rfl rfl (yq (l:=[.tmp 40]) Tryd.call93 rfl (.cons rfl .nil)) (.cons .here .nil) (ccz hz (.cons .here .nil) .h4 fun w pz ho=>y3E _ _ _ _ _ _ _ _ zhK w pz (z1u.mono (Zle.left _ _)) (ZS.nil _ _ _) ho) ?_
    rintro zhL zhM zhN zhO ⟨zhP,zhQ⟩
    refine WL.nil ?_
    exact WX.mid (G:=Int × Int × Int × Int × Int × Int × Int × Int × Int × Int × List Int × Int × Int × Int × List Int × Zp × Option Addr × Nat × Option Addr × Nat) ⟨z18.fState.fPc,z18.fState.fLeft,z18.fState.fRegs.a0,z18.fState.fRegs.a1,z18.fState.fRegs.a2,z18.fState.fRegs.a3,z18.fX.fOp,z18.fX.fA,z18.fX.fB,z18.fX.fC,z18.fMem,z18.fAct.fKind,z18.fAct.fA,z18.fAct.fB,z18.fAct.fData,[],zhL,zhM,zhN,zhO⟩ ⟨h,(Zle.refl _),zhP,zhQ⟩ (.cons rfl (.cons rfl (.cons rfl .nil))) (.cons .h5 (.cons .h3 (.cons .h2 (.cons .here .nil))))
   rcases yG h with ⟨zhR,h⟩ | h
   ·skip
    obtain ⟨z19,zhS,h⟩:=zh h
    refine WL.a (d:=39) rfl rfl rfl (y6 yI rfl (yT (k:=12) (hz.pv2 .h5) (hG0.mono (Zle.left _ _)) zhR rfl)) ?_
    refine WL.pu rfl ?_
    refine WL.yj (dd:=41) rfl rfl rfl (yq (l:=[.tmp 40]) Tryd.call94 rfl (.cons rfl .nil)) (.cons .here .nil) (ccz hz (.cons .here .nil) .h4 fun w pz ho=>y3F _ _ _ _ _ _ _ _ zhS w pz (z1u.mono (Zle.left _ _)) (ZS.nil _ _ _) ho) ?_
    rintro zhT zhU zhV zhW ⟨zhX,zhY⟩
    refine WL.nil ?_
    exact WX.mid (G:=Int × Int × Int × Int × Int × Int × Int × Int × Int × Int × List Int × Int × Int × Int × List Int × Zp × Option Addr × Nat × Option Addr × Nat) ⟨z19.fState.fPc,z19.fState.fLeft,z19.fState.fRegs.a0,z19.fState.fRegs.a1,z19.fState.fRegs.a2,z19.fState.fRegs.a3,z19.fX.fOp,z19.fX.fA,z19.fX.fB,z19.fX.fC,z19.fMem,z19.fAct.fKind,z19.fAct.fA,z19.fAct.fB,z19.fAct.fData,[],zhT,zhU,zhV,zhW⟩ ⟨h,(Zle.refl _),zhX,zhY⟩ (.cons rfl (.cons rfl (.cons rfl .nil))) (.cons .h5 (.cons .h3 (.cons .h2 (.cons .here .nil))))
   rcases yG h with ⟨zhZ,h⟩ | h
   ·skip
    obtain ⟨z1a,zi0,h⟩:=zh h
    refine WL.a (d:=39) rfl rfl rfl (y6 yI rfl (yT (k:=13) (hz.pv2 .h5) (hG0.mono (Zle.left _ _)) zhZ rfl)) ?_
    refine WL.pu rfl ?_
    refine WL.yj (dd:=41) rfl rfl rfl (yq (l:=[.tmp 40]) Tryd.call95 rfl (.cons rfl .nil)) (.cons .here .nil) (ccz hz (.cons .here .nil) .h4 fun w pz ho=>y3G _ _ _ _ _ _ _ _ zi0 w pz (z1u.mono (Zle.left _ _)) (ZS.nil _ _ _) ho) ?_
    rintro zi1 zi2 zi3 zi4 ⟨zi5,zi6⟩
    refine WL.nil ?_
    exact WX.mid (G:=Int × Int × Int × Int × Int × Int × Int × Int × Int × Int × List Int × Int × Int × Int × List Int × Zp × Option Addr × Nat × Option Addr × Nat) ⟨z1a.fState.fPc,z1a.fState.fLeft,z1a.fState.fRegs.a0,z1a.fState.fRegs.a1,z1a.fState.fRegs.a2,z1a.fState.fRegs.a3,z1a.fX.fOp,z1a.fX.fA,z1a.fX.fB,z1a.fX.fC,z1a.fMem,z1a.fAct.fKind,z1a.fAct.fA,z1a.fAct.fB,z1a.fAct.fData,[],zi1,zi2,zi3,zi4⟩ ⟨h,(Zle.refl _),zi5,zi6⟩ (.cons rfl (.cons rfl (.cons rfl .nil))) (.cons .h5 (.cons .h3 (.cons .h2 (.cons .here .nil))))
   rcases yG h with ⟨zi7,h⟩ | h
   ·skip
    obtain ⟨z1b,zi8,h⟩:=zh h
    refine WL.a (d:=39) rfl rfl rfl (y6 yI rfl (yT (k:=14) (hz.pv2 .h5) (hG0.mono (Zle.left _ _)) zi7 rfl)) ?_
    refine WL.pu rfl ?_
    refine WL.y26 (dd:=41) rfl rfl rfl (yq (l:=[.tmp 40]) Tryd.call96 rfl (.cons rfl .nil)) (.cons .here .nil) (ccz hz (.cons .here .nil) .h4 fun w pz ho=>y4k _ _ _ _ _ _ _ _ zi8 w pz (z1u.mono (Zle.left _ _)) (ZS.nil _ _ _) ho) ?_
    rintro zi9 zia zib zic zid ⟨zie,zif⟩
    refine WL.merge .here .h5 ?_
    refine WL.nil ?_
    exact WX.mid (G:=Int × Int × Int × Int × Int × Int × Int × Int × Int × Int × List Int × Int × Int × Int × List Int × Zp × Option Addr × Nat × Option Addr × Nat) ⟨z1b.fState.fPc,z1b.fState.fLeft,z1b.fState.fRegs.a0,z1b.fState.fRegs.a1,z1b.fState.fRegs.a2,z1b.fState.fRegs.a3,z1b.fX.fOp,z1b.fX.fA,z1b.fX.fB,z1b.fX.fC,z1b.fMem,z1b.fAct.fKind,z1b.fAct.fA,z1b.fAct.fB,z1b.fAct.fData,([] ++ zi9),zia,zib,zic,zid⟩ ⟨h,((Zle.left _ _).trans (Zle.y5 _ _ _)),(zie.mono (Zle.y5 _ _ _)),(zif.mono (Zle.y5 _ _ _))⟩ (.cons rfl (.cons rfl (.cons rfl .nil))) (.cons .here (.cons .h3 (.cons .h2 (.cons .here .nil))))
   rcases yG h with ⟨zig,h⟩ | h
   ·skip
    obtain ⟨z1c,zih,h⟩:=zh h
    refine WL.a (d:=39) rfl rfl rfl (y6 yI rfl (yT (k:=15) (hz.pv2 .h5) (hG0.mono (Zle.left _ _)) zig rfl)) ?_
    refine WL.pu rfl ?_
    refine WL.yj (dd:=41) rfl rfl rfl (yq (l:=[.tmp 40]) Tryd.call97 rfl (.cons rfl .nil)) (.cons .here .nil) (ccz hz (.cons .here .nil) .h4 fun w pz ho=>y4l _ _ _ _ _ _ _ _ zih w pz (z1u.mono (Zle.left _ _)) (ZS.nil _ _ _) ho) ?_
    rintro zii zij zik zil ⟨zim,zin⟩
    refine WL.nil ?_
    exact WX.mid (G:=Int × Int × Int × Int × Int × Int × Int × Int × Int × Int × List Int × Int × Int × Int × List Int × Zp × Option Addr × Nat × Option Addr × Nat) ⟨z1c.fState.fPc,z1c.fState.fLeft,z1c.fState.fRegs.a0,z1c.fState.fRegs.a1,z1c.fState.fRegs.a2,z1c.fState.fRegs.a3,z1c.fX.fOp,z1c.fX.fA,z1c.fX.fB,z1c.fX.fC,z1c.fMem,z1c.fAct.fKind,z1c.fAct.fA,z1c.fAct.fB,z1c.fAct.fData,[],zii,zij,zik,zil⟩ ⟨h,(Zle.refl _),zim,zin⟩ (.cons rfl (.cons rfl (.cons rfl .nil))) (.cons .h5 (.cons .h3 (.cons .h2 (.cons .here .nil))))
   rcases yG h with ⟨zio,h⟩ | h
   ·skip
    obtain ⟨z1d,ziq,h⟩:=zh h
    refine WL.a (d:=39) rfl rfl rfl (y6 yI rfl (yT (k:=16) (hz.pv2 .h5) (hG0.mono (Zle.left _ _)) zio rfl)) ?_
    refine WL.pu rfl ?_
    refine WL.y26 (dd:=41) rfl rfl rfl (yq (l:=[.tmp 40]) Tryd.call98 rfl (.cons rfl .nil)) (.cons .here .nil) (ccz hz (.cons .here .nil) .h4 fun w pz ho=>y3W _ _ _ _ _ _ _ _ ziq w pz (z1u.mono (Zle.left _ _)) (ZS.nil _ _ _) ho) ?_
    rintro zir zis zit ziu ziv ⟨ziw,zix⟩
    refine WL.merge .here .h5 ?_
    refine WL.nil ?_
    exact WX.mid (G:=Int × Int × Int × Int × Int × Int × Int × Int × Int × Int × List Int × Int × Int × Int × List Int × Zp × Option Addr × Nat × Option Addr × Nat) ⟨z1d.fState.fPc,z1d.fState.fLeft,z1d.fState.fRegs.a0,z1d.fState.fRegs.a1,z1d.fState.fRegs.a2,z1d.fState.fRegs.a3,z1d.fX.fOp,z1d.fX.fA,z1d.fX.fB,z1d.fX.fC,z1d.fMem,z1d.fAct.fKind,z1d.fAct.fA,z1d.fAct.fB,z1d.fAct.fData,([] ++ zir),zis,zit,ziu,ziv⟩ ⟨h,((Zle.left _ _).trans (Zle.y5 _ _ _)),(ziw.mono (Zle.y5 _ _ _)),(zix.mono (Zle.y5 _ _ _))⟩ (.cons rfl (.cons rfl (.cons rfl .nil))) (.cons .here (.cons .h3 (.cons .h2 (.cons .here .nil))))
   rcases yG h with ⟨ziy,h⟩ | h
   ·skip
    obtain ⟨z1e,ziz,h⟩:=zh h
    refine WL.a (d:=39) rfl rfl rfl (y6 yI rfl (yT (k:=17) (hz.pv2 .h5) (hG0.mono (Zle.left _ _)) ziy rfl)) ?_
    refine WL.pu rfl ?_
    refine WL.yj (dd:=41) rfl rfl rfl (yq (l:=[.tmp 40]) Tryd.call99 rfl (.cons rfl .nil)) (.cons .here .nil) (ccz hz (.cons .here .nil) .h4 fun w pz ho=>y3X _ _ _ _ _ _ _ _ ziz w pz (z1u.mono (Zle.left _ _)) (ZS.nil _ _ _) ho) ?_
    rintro ziA ziB ziC ziD ⟨ziE,ziF⟩
    refine WL.nil ?_
    exact WX.mid (G:=Int × Int × Int × Int × Int × Int × Int × Int × Int × Int × List Int × Int × Int × Int × List Int × Zp × Option Addr × Nat × Option Addr × Nat) ⟨z1e.fState.fPc,z1e.fState.fLeft,z1e.fState.fRegs.a0,z1e.fState.fRegs.a1,z1e.fState.fRegs.a2,z1e.fState.fRegs.a3,z1e.fX.fOp,z1e.fX.fA,z1e.fX.fB,z1e.fX.fC,z1e.fMem,z1e.fAct.fKind,z1e.fAct.fA,z1e.fAct.fB,z1e.fAct.fData,[],ziA,ziB,ziC,ziD⟩ ⟨h,(Zle.refl _),ziE,ziF⟩ (.cons rfl (.cons rfl (.cons rfl .nil))) (.cons .h5 (.cons .h3 (.cons .h2 (.cons .here .nil))))
   rcases yG h with ⟨ziG,h⟩ | h
   ·skip
    obtain ⟨z1f,ziH,h⟩:=zh h
    refine WL.a (d:=39) rfl rfl rfl (y6 yI rfl (yT (k:=18) (hz.pv2 .h5) (hG0.mono (Zle.left _ _)) ziG rfl)) ?_
    refine WL.pu rfl ?_
    refine WL.yj (dd:=41) rfl rfl rfl (yq (l:=[.tmp 40]) Tryd.call100 rfl (.cons rfl .nil)) (.cons .here .nil) (ccz hz (.cons .here .nil) .h4 fun w pz ho=>y3H _ _ _ _ _ _ _ _ ziH w pz (z1u.mono (Zle.left _ _)) (ZS.nil _ _ _) ho) ?_
    rintro ziI ziJ ziK ziL ⟨ziM,ziN⟩
    refine WL.nil ?_
    exact WX.mid (G:=Int × Int × Int × Int × Int × Int × Int × Int × Int × Int × List Int × Int × Int × Int × List Int × Zp × Option Addr × Nat × Option Addr × Nat) ⟨z1f.fState.fPc,z1f.fState.fLeft,z1f.fState.fRegs.a0,z1f.fState.fRegs.a1,z1f.fState.fRegs.a2,z1f.fState.fRegs.a3,z1f.fX.fOp,z1f.fX.fA,z1f.fX.fB,z1f.fX.fC,z1f.fMem,z1f.fAct.fKind,z1f.fAct.fA,z1f.fAct.fB,z1f.fAct.fData,[],ziI,ziJ,ziK,ziL⟩ ⟨h,(Zle.refl _),ziM,ziN⟩ (.cons rfl (.cons rfl (.cons rfl .nil))) (.cons .h5 (.cons .h3 (.cons .h2 (.cons .here .nil))))
   rcases yG h with ⟨ziO,h⟩ | h
   ·skip
    obtain ⟨zV,ziP,h⟩:=zh h
    refine WL.a (d:=39) rfl rfl rfl (y6 yI rfl (yT (k:=19) (hz.pv2 .h5) (hG0.mono (Zle.left _ _)) ziO rfl)) ?_
    refine WL.pu rfl ?_
    refine WL.yj (dd:=41) rfl rfl rfl (yq (l:=[.tmp 40]) Tryd.call101 rfl (.cons rfl .nil)) (.cons .here .nil) (ccz hz (.cons .here .nil) .h4 fun w pz ho=>y3Y _ _ _ _ _ _ _ _ ziP w pz (z1u.mono (Zle.left _ _)) (ZS.nil _ _ _) ho) ?_
    rintro ziQ ziR ziS ziT ziU
    refine WL.nil ?_
    refine WX.freezeS (ls:=zV.fAct.fData) .h1 .h5 hz (RR.yP (enc:=e5) (fun _=>rfl) _) ?_
    intro ziV zc6 ziW
    exact WX.mid (G:=Int × Int × Int × Int × Int × Int × Int × Int × Int × Int × List Int × Int × Int × Int × List Int × Zp × Option Addr × Nat × Option Addr × Nat) ⟨zV.fState.fPc,zV.fState.fLeft,zV.fState.fRegs.a0,zV.fState.fRegs.a1,zV.fState.fRegs.a2,zV.fState.fRegs.a3,zV.fX.fOp,zV.fX.fA,zV.fX.fB,zV.fX.fC,zV.fMem,zV.fAct.fKind,zV.fAct.fA,zV.fAct.fB,zV.fAct.fData,ziV,ziQ,ziR,ziS,ziT⟩ ⟨h,zc6,(ziU.mono zc6),ziW⟩ (.cons rfl (.cons rfl (.cons rfl .nil))) (.cons .here (.cons .h3 (.cons .h2 (.cons .here .nil))))
   rcases yG h with ⟨ziX,h⟩ | h
   ·skip
    obtain ⟨z1g,ziY,h⟩:=zh h
    refine WL.a (d:=39) rfl rfl rfl (y6 yI rfl (yT (k:=20) (hz.pv2 .h5) (hG0.mono (Zle.left _ _)) ziX rfl)) ?_
    refine WL.pu rfl ?_
    refine WL.yj (dd:=41) rfl rfl rfl (yq (l:=[.tmp 40]) Tryd.call102 rfl (.cons rfl .nil)) (.cons .here .nil) (ccz hz (.cons .here .nil) .h4 fun w pz ho=>y3Z _ _ _ _ _ _ _ _ ziY w pz (z1u.mono (Zle.left _ _)) (ZS.nil _ _ _) ho) ?_
    rintro ziZ zj0 zj1 zj2 ⟨zj3,zj4⟩
    refine WL.nil ?_
    exact WX.mid (G:=Int × Int × Int × Int × Int × Int × Int × Int × Int × Int × List Int × Int × Int × Int × List Int × Zp × Option Addr × Nat × Option Addr × Nat) ⟨z1g.fState.fPc,z1g.fState.fLeft,z1g.fState.fRegs.a0,z1g.fState.fRegs.a1,z1g.fState.fRegs.a2,z1g.fState.fRegs.a3,z1g.fX.fOp,z1g.fX.fA,z1g.fX.fB,z1g.fX.fC,z1g.fMem,z1g.fAct.fKind,z1g.fAct.fA,z1g.fAct.fB,z1g.fAct.fData,[],ziZ,zj0,zj1,zj2⟩ ⟨h,(Zle.refl _),zj3,zj4⟩ (.cons rfl (.cons rfl (.cons rfl .nil))) (.cons .h5 (.cons .h3 (.cons .h2 (.cons .here .nil))))
   rcases yG h with ⟨zj5,h⟩ | h
   ·skip
    obtain ⟨z1h,zj6,h⟩:=zh h
    refine WL.a (d:=39) rfl rfl rfl (y6 yI rfl (yT (k:=21) (hz.pv2 .h5) (hG0.mono (Zle.left _ _)) zj5 rfl)) ?_
    refine WL.pu rfl ?_
    refine WL.yj (dd:=41) rfl rfl rfl (yq (l:=[.tmp 40]) Tryd.call103 rfl (.cons rfl .nil)) (.cons .here .nil) (ccz hz (.cons .here .nil) .h4 fun w pz ho=>y40 _ _ _ _ _ _ _ _ zj6 w pz (z1u.mono (Zle.left _ _)) (ZS.nil _ _ _) ho) ?_
    rintro zj7 zj8 zj9 zja ⟨zjb,zjc⟩
    refine WL.nil ?_
    exact WX.mid (G:=Int × Int × Int × Int × Int × Int × Int × Int × Int × Int × List Int × Int × Int × Int × List Int × Zp × Option Addr × Nat × Option Addr × Nat) ⟨z1h.fState.fPc,z1h.fState.fLeft,z1h.fState.fRegs.a0,z1h.fState.fRegs.a1,z1h.fState.fRegs.a2,z1h.fState.fRegs.a3,z1h.fX.fOp,z1h.fX.fA,z1h.fX.fB,z1h.fX.fC,z1h.fMem,z1h.fAct.fKind,z1h.fAct.fA,z1h.fAct.fB,z1h.fAct.fData,[],zj7,zj8,zj9,zja⟩ ⟨h,(Zle.refl _),zjb,zjc⟩ (.cons rfl (.cons rfl (.cons rfl .nil))) (.cons .h5 (.cons .h3 (.cons .h2 (.cons .here .nil))))
   rcases yG h with ⟨zjd,h⟩ | h
   ·skip
    obtain ⟨z1i,zje,h⟩:=zh h
    refine WL.a (d:=39) rfl rfl rfl (y6 yI rfl (yT (k:=22) (hz.pv2 .h5) (hG0.mono (Zle.left _ _)) zjd rfl)) ?_
    refine WL.pu rfl ?_
    refine WL.yj (dd:=41) rfl rfl rfl (yq (l:=[.tmp 40]) Tryd.call104 rfl (.cons rfl .nil)) (.cons .here .nil) (ccz hz (.cons .here .nil) .h4 fun w pz ho=>y41 _ _ _ _ _ _ _ _ zje w pz (z1u.mono (Zle.left _ _)) (ZS.nil _ _ _) ho) ?_
    rintro zjf zjg zjh zji ⟨zjj,zjk⟩
    refine WL.nil ?_
    exact WX.mid (G:=Int × Int × Int × Int × Int × Int × Int × Int × Int × Int × List Int × Int × Int × Int × List Int × Zp × Option Addr × Nat × Option Addr × Nat) ⟨z1i.fState.fPc,z1i.fState.fLeft,z1i.fState.fRegs.a0,z1i.fState.fRegs.a1,z1i.fState.fRegs.a2,z1i.fState.fRegs.a3,z1i.fX.fOp,z1i.fX.fA,z1i.fX.fB,z1i.fX.fC,z1i.fMem,z1i.fAct.fKind,z1i.fAct.fA,z1i.fAct.fB,z1i.fAct.fData,[],zjf,zjg,zjh,zji⟩ ⟨h,(Zle.refl _),zjj,zjk⟩ (.cons rfl (.cons rfl (.cons rfl .nil))) (.cons .h5 (.cons .h3 (.cons .h2 (.cons .here .nil))))
   rcases yG h with ⟨zjl,h⟩ | h
   ·skip
    obtain ⟨z1j,zjm,h⟩:=zh h
    refine WL.a (d:=39) rfl rfl rfl (y6 yI rfl (yT (k:=23) (hz.pv2 .h5) (hG0.mono (Zle.left _ _)) zjl rfl)) ?_
    refine WL.pu rfl ?_
    refine WL.y26 (dd:=41) rfl rfl rfl (yq (l:=[.tmp 40]) Tryd.call105 rfl (.cons rfl .nil)) (.cons .here .nil) (ccz hz (.cons .here .nil) .h4 fun w pz ho=>y4m _ _ _ _ _ _ _ _ zjm w pz (z1u.mono (Zle.left _ _)) (ZS.nil _ _ _) ho) ?_
    rintro zjn zjo zjp zjq zjr ⟨zjs,zjt⟩
    refine WL.merge .here .h5 ?_
    refine WL.nil ?_
    exact WX.mid (G:=Int × Int × Int × Int × Int × Int × Int × Int × Int × Int × List Int × Int × Int × Int × List Int × Zp × Option Addr × Nat × Option Addr × Nat) ⟨z1j.fState.fPc,z1j.fState.fLeft,z1j.fState.fRegs.a0,z1j.fState.fRegs.a1,z1j.fState.fRegs.a2,z1j.fState.fRegs.a3,z1j.fX.fOp,z1j.fX.fA,z1j.fX.fB,z1j.fX.fC,z1j.fMem,z1j.fAct.fKind,z1j.fAct.fA,z1j.fAct.fB,z1j.fAct.fData,([] ++ zjn),zjo,zjp,zjq,zjr⟩ ⟨h,((Zle.left _ _).trans (Zle.y5 _ _ _)),(zjs.mono (Zle.y5 _ _ _)),(zjt.mono (Zle.y5 _ _ _))⟩ (.cons rfl (.cons rfl (.cons rfl .nil))) (.cons .here (.cons .h3 (.cons .h2 (.cons .here .nil))))
   rcases yG h with ⟨zju,h⟩ | h
   ·skip
    obtain ⟨zW,zjv,h⟩:=zh h
    refine WL.a (d:=39) rfl rfl rfl (y6 yI rfl (yT (k:=24) (hz.pv2 .h5) (hG0.mono (Zle.left _ _)) zju rfl)) ?_
    refine WL.pu rfl ?_
    refine WL.yj (dd:=41) rfl rfl rfl (yq (l:=[.tmp 40]) Tryd.call106 rfl (.cons rfl .nil)) (.cons .here .nil) (ccz hz (.cons .here .nil) .h4 fun w pz ho=>y3I _ _ _ _ _ _ _ _ zjv w pz (z1u.mono (Zle.left _ _)) (ZS.nil _ _ _) ho) ?_
    rintro zjw zjx zjy zjz zjA
    refine WL.nil ?_
    refine WX.freezeS (ls:=zW.fAct.fData) .h1 .h5 hz (RR.yP (enc:=e5) (fun _=>rfl) _) ?_
    intro zjB zc7 zjC
    exact WX.mid (G:=Int × Int × Int × Int × Int × Int × Int × Int × Int × Int × List Int × Int × Int × Int × List Int × Zp × Option Addr × Nat × Option Addr × Nat) ⟨zW.fState.fPc,zW.fState.fLeft,zW.fState.fRegs.a0,zW.fState.fRegs.a1,zW.fState.fRegs.a2,zW.fState.fRegs.a3,zW.fX.fOp,zW.fX.fA,zW.fX.fB,zW.fX.fC,zW.fMem,zW.fAct.fKind,zW.fAct.fA,zW.fAct.fB,zW.fAct.fData,zjB,zjw,zjx,zjy,zjz⟩ ⟨h,zc7,(zjA.mono zc7),zjC⟩ (.cons rfl (.cons rfl (.cons rfl .nil))) (.cons .here (.cons .h3 (.cons .h2 (.cons .here .nil))))
   rcases yG h with ⟨zjD,h⟩ | h
   ·skip
    obtain ⟨zX,zjE,h⟩:=zh h
    refine WL.a (d:=39) rfl rfl rfl (y6 yI rfl (yT (k:=25) (hz.pv2 .h5) (hG0.mono (Zle.left _ _)) zjD rfl)) ?_
    refine WL.pu rfl ?_
    refine WL.yj (dd:=41) rfl rfl rfl (yq (l:=[.tmp 40]) Tryd.call107 rfl (.cons rfl .nil)) (.cons .here .nil) (ccz hz (.cons .here .nil) .h4 fun w pz ho=>y42 _ _ _ _ _ _ _ _ zjE w pz (z1u.mono (Zle.left _ _)) (ZS.nil _ _ _) ho) ?_
    rintro zjF zjG zjH zjI zjJ
    refine WL.nil ?_
    refine WX.freezeS (ls:=zX.fAct.fData) .h1 .h5 hz (RR.yP (enc:=e5) (fun _=>rfl) _) ?_
    intro zjK zc8 zjL
    exact WX.mid (G:=Int × Int × Int × Int × Int × Int × Int × Int × Int × Int × List Int × Int × Int × Int × List Int × Zp × Option Addr × Nat × Option Addr × Nat) ⟨zX.fState.fPc,zX.fState.fLeft,zX.fState.fRegs.a0,zX.fState.fRegs.a1,zX.fState.fRegs.a2,zX.fState.fRegs.a3,zX.fX.fOp,zX.fX.fA,zX.fX.fB,zX.fX.fC,zX.fMem,zX.fAct.fKind,zX.fAct.fA,zX.fAct.fB,zX.fAct.fData,zjK,zjF,zjG,zjH,zjI⟩ ⟨h,zc8,(zjJ.mono zc8),zjL⟩ (.cons rfl (.cons rfl (.cons rfl .nil))) (.cons .here (.cons .h3 (.cons .h2 (.cons .here .nil))))
   cases h
  ·rintro z2W z2X z2Y z2Z z30 z31 z4B z4C z4D z4E z3P z32 z33 z34 z2M z4F z6p z6q z4G z4H ⟨h,zmr,zms,zjM⟩
   replace h:=(zgm z2W z2X z2Y z2Z z30 z31 z4B z4C z4D z4E z3P z32 z33 z34 z2M).symm.trans h
   refine WC.b ?_
   refine WC.y1a (fun i=>[8,9].contains i) [stb z8w 65 [(.int .i64 z2W),(.int .i64 z2X),(.int .u8 z2Y),(.int .u8 z2Z),(.int .u8 z30),(.int .u8 z31),(.int .u8 z4B),(.int .i64 z4C),(.int .i64 z4D),(.int .i64 z4E),(.slice z6p z3P.length z6q),(.int .u8 z32),(.int .i64 z33),(.int .i64 z34),(.slice z4G z2M.length z4H)]] rfl ?_
   refine WD.a (i:=0) (d:=42) (by kernel_rfl) rfl z1 z2 rfl rfl rfl (fun _=>q_m rfl) ?_
   refine WD.a (i:=1) (d:=43) (by kernel_rfl) rfl z1 z2 rfl rfl rfl (fun _=>y7 rfl) ?_
   refine WD.a (i:=2) (d:=44) (by kernel_rfl) rfl z1 z2 rfl rfl rfl (fun _=>y4 y1c rfl rfl) ?_
   refine WD.e (i:=3) (d:=45) (by kernel_rfl) rfl z1 z2 rfl rfl rfl (y5j (cs:=[(.int .i64 z2W),(.int .i64 z2X),(.int .u8 z2Y),(.int .u8 z2Z),(.int .u8 z30),(.int .u8 z31)]) y1P rfl rfl (rd_sub (s:=6) .h3 rfl)) ?_
   refine WD.a (i:=4) (d:=46) (by kernel_rfl) rfl z1 z2 rfl rfl rfl (fun _=>q_m rfl) ?_
   refine WD.a (i:=5) (d:=47) (by kernel_rfl) rfl z1 z2 rfl rfl rfl (fun _=>y7 rfl) ?_
   refine WD.a (i:=6) (d:=48) (by kernel_rfl) rfl z1 z2 rfl rfl rfl (fun _=>y4 y3e rfl rfl) ?_
   refine WD.y6u (i:=7) (d:=49) (by kernel_rfl) rfl z1 z2 rfl rfl rfl (Sin.of (.cons .h3 .nil)) (y5j (cs:=[(.int .u8 z32),(.int .i64 z33),(.int .i64 z34),(.slice z4G z2M.length z4H)]) y32 rfl rfl (rd_sub (s:=4) .here rfl)) ?_
   refine WD.forced0 (i:=8) rfl (by kernel_rfl) rfl rfl rfl (Sin.of (.cons .h3 .nil)) (yy y2i rfl rfl rfl .h1 rfl rfl rfl) ?_
   refine WD.y2p (i:=9) rfl (by kernel_rfl) rfl rfl rfl (by kernel_rfl) (yy y1y rfl rfl rfl .h2 rfl rfl rfl) ?_
   refine WD.done (by kernel_rfl) ?_
   refine WX.a (WC.ret ?_)
   obtain rfl:=Option.some.inj h
   refine WX.ye Tryd.results18 (.agg rfl y1P rfl (y13 .h1) (.agg rfl y32 rfl (y13 .here) .nil)) (fun w hw=>?_)
   exact ⟨z4F,z4G,z4H,ret2 rfl rfl,zjM,hw.sub (.cons .h2 .nil)⟩
def y1q (z1Y : Sapi_Ins) (z6H : List Sapi_Ins) : Option Bool :=
 (y1Q z1Y ((z6H.length : Nat) : Int)).bind fun zc9=>some (!zc9)
set_option maxRecDepth 20000 in
theorem y5p (Z : Zp) (z7n : Addr) (zca : Option Addr) (zcb : Nat) (z1Y : Sapi_Ins) (z6H : List Sapi_Ins) (r : Bool)
  (h : y1q z1Y z6H = some r) (w₀ : World) (hz : PZ [] w₀ Z)
  (hG1 : ZS Z 1 (p74 Z) (some ⟨1,0,none⟩) 26 y18)
  (zmt : ZS Z 4 (fun r x=>r = e33 x) zca zcb z6H)
  (zjN : ZC Z z7n [(.slice zca z6H.length zcb)]) :
  Calls Tryd.prog 31 #[(.agg #[(.int .u8 z1Y.fOp),(.int .i64 z1Y.fA),(.int .i64 z1Y.fB),(.int .i64 z1Y.fC)]),(.pointer (some z7n))] w₀ fun e w'=>e = .returned (.bool r) ∧ Hp [] w₀ w' []:=by
 unfold y1q at h
 refine Calls.y8 (vs:=[(.agg #[(.int .u8 z1Y.fOp),(.int .i64 z1Y.fA),(.int .i64 z1Y.fB),(.int .i64 z1Y.fC)]),(.pointer (some z7n))]) (pre:=[]) (env:=[(0,(.agg #[(.int .u8 z1Y.fOp),(.int .i64 z1Y.fA),(.int .i64 z1Y.fB),(.int .i64 z1Y.fC)])),(1,(.pointer (some z7n)))]) Tryd.func31 rfl Tryd.ntmps31 rfl (Hp.nil w₀ _) rfl ?_
 refine WC.b (WC.a ?_)
 refine WL.new (dd:=2) rfl rfl rfl (y3v (cs:=[(.int .u8 z1Y.fOp),(.int .i64 z1Y.fA),(.int .i64 z1Y.fB),(.int .i64 z1Y.fC)]) rfl rfl) ?_
 intro zmu _
 refine WL.pu rfl (WL.nil (WX.a (WC.b ?_)))
 obtain ⟨zc9,zjO,h⟩:=zh h
 refine WC.a ?_
 refine WL.a (d:=4) rfl rfl rfl (y16 y2L rfl (y13 .here) rfl) ?_
 refine WL.a (d:=5) rfl rfl rfl (y6 y2M rfl (y2F hz.pv zjN rfl)) ?_
 refine WL.a (d:=6) rfl rfl rfl (y1i Tryd.underlying22 rfl) ?_
 refine WL.b (dd:=7) rfl rfl rfl (zI (l:=[.tmp 4,.tmp 6]) Tryd.call32 (.cons rfl (.cons rfl .nil))) .nil (cc hz .nil fun w pz ho=>y4N _ _ _ _ zjO w pz hG1) ?_
 refine WL.pu rfl (WL.pu rfl (WL.nil (WX.a (WC.ret ?_))))
 obtain rfl:=Option.some.inj h
 refine WX.ye Tryd.results31 (.tmp rfl .nil) (fun w hw=>?_)
 exact ⟨yX rfl,hw.sub .nil⟩
def yl (z1w : List Sapi_Ins) (z2N : Sapi_Ins → Option Bool) (z3Q : Option Int) : Nat → Int → Option Int
 | 0,_=>none
 | z8x + 1,z1z=>if decide (z1z < ((z1w.length : Nat) : Int)) then chk ((0 : Int) ≤ z1z ∧ z1z < ((z1w.length : Nat) : Int)) ((z2N (⟨((nth z1w z1z).fOp),((nth z1w z1z).fA),((nth z1w z1z).fB),((nth z1w z1z).fC)⟩ : Sapi_Ins)).bind fun z8y=>if z8y then some z1z else yl z1w z2N z3Q z8x (i64 (z1z + 1))) else z3Q
theorem y24 {n : Nat} {z1w : List Sapi_Ins} {z2N : Sapi_Ins → Option Bool} {z3Q : Option Int} {z1z : Int} {r : Int} (h : yl z1w z2N z3Q n z1z = some r) : ∃ m,n = m + 1:=by
 cases n with
 | zero=>cases h
 | succ m=>exact ⟨m,rfl⟩
def yM (z1w : List Sapi_Ins) (z2N : Sapi_Ins → Option Bool) : Option Int :=
 jp0 (some (-1)) fun z3Q=>yl z1w z2N z3Q y1k 0
set_option maxRecDepth 20000 in
theorem y2B (Z : Zp) (z6I : Option Addr) (z6J : Nat) (z3R : FuncId) (z58 : List Value) (z1w : List Sapi_Ins) (z2N : Sapi_Ins → Option Bool) (r : Int)
  (h : yM z1w z2N = some r) (w₀ : World) (hz : PZ [] w₀ Z)
  (zjP : ZS Z 4 (fun r x=>r = e33 x) z6I z6J z1w)
  (zjQ : ∀ args w,(callFunc z3R args).run Tryd.prog w = .ok (.enter z3R args) w)
  (zjR : ∀ w : World,PZ [] w Z → ∀ (x0 : Sapi_Ins) (r : Bool),z2N x0 = some r → Calls Tryd.prog z3R (([(.agg #[(.int .u8 x0.fOp),(.int .i64 x0.fA),(.int .i64 x0.fB),(.int .i64 x0.fC)])] : List Value) ++ z58).toArray w fun e w'=>e = .returned (.bool r) ∧ Hp [] w w' []) :
  Calls Tryd.prog 42 #[(.slice z6I z1w.length z6J),(.func (.func z3R) #[] (z58).toArray)] w₀ fun e w'=>e = .returned (.int .i64 r) ∧ Hp [] w₀ w' []:=by
 unfold yM at h
 refine Calls.y8 (vs:=[(.slice z6I z1w.length z6J),(.func (.func z3R) #[] (z58).toArray)]) (pre:=[]) (env:=[(0,(.slice z6I z1w.length z6J)),(1,(.func (.func z3R) #[] (z58).toArray))]) Tryd.func42 rfl Tryd.ntmps42 rfl (Hp.nil w₀ _) rfl ?_
 refine WC.b (WC.a (WL.pu rfl (WL.nil (WX.a ?_))))
 obtain ⟨z3Q,zjS,h⟩:=y3k h
 refine WC.y2S ((z3Q = some r)) ([]) ([]) ?_ ?_
 ·skip
  refine WC.b (WC.a (WL.pu rfl ?_))
  refine WL.a (d:=7) rfl rfl rfl (y1i Tryd.underlying22 rfl) ?_
  refine WL.pu rfl (WL.nil (WX.a (WC.block ?_)))
  refine WC.y48 (fun (z6r : Nat) (z1z : Int)=>(yl z1w z2N z3Q z6r z1z = some r)) (fun (z6r : Nat) (z1z : Int)=>[(0,(.slice z6I z1w.length z6J)),(1,(.func (.func z3R) #[] (z58).toArray)),(7,(.int .i64 ((z1w.length : Nat) : Int))),(8,(.int .i64 z1z))]) (fun (z6r : Nat) (z1z : Int)=>[]) (fun (z6r : Nat) (z1z : Int)=>z6r) ⟨y1k,0⟩ h (.cons rfl (.cons rfl (.cons rfl (.cons rfl .nil)))) .nil ?_
  rintro z6r z1z h
  obtain ⟨z8x,rfl⟩:=y24 h
  rw [yl] at h
  refine WC.b (WC.a (WL.pu rfl (WL.nil (WX.a (WC.b ?_)))))
  refine WC.cond rfl (fun z8z=>?_) (fun z8z=>?_)
  ·replace h:=ym h z8z
   refine WC.skip (WX.a (WC.b (WC.block (WC.b (WC.a (WL.pu rfl (WL.pu rfl (WL.nil (WX.a (WC.b ?_))))))))))
   obtain ⟨zjT,h⟩:=y9 h
   obtain ⟨z8y,zjU,h⟩:=zh h
   refine WC.a (WL.pu rfl (WL.pu rfl (WL.pu rfl ?_)))
   refine WL.znth (dd:=14) rfl rfl (Z:=Z) (Pr:=(fun r x=>r = e33 x)) y2s rfl rfl zjP zjT ?_
   rintro zmv zmw zjV zmx rfl
   refine WL.a (d:=15) rfl rfl rfl (y16 y2L rfl (rd_zs hz.pv zjV) rfl) ?_
   refine WL.b (dd:=16) rfl rfl rfl (yq (l:=[.tmp 15]) (f:=z3R) (caps:=z58) zjQ rfl (.cons rfl .nil)) .nil (fun w hw=>zjR w (hz.now hw) (⟨((nth z1w z1z).fOp),((nth z1w z1z).fA),((nth z1w z1z).fB),((nth z1w z1z).fC)⟩ : Sapi_Ins) z8y  zjU) ?_
   refine WL.nil (WX.a ?_)
   refine WC.cond rfl (fun z8A=>?_) (fun z8A=>?_)
   ·replace h:=ym h z8A
    refine WC.b (WC.a (WL.pu rfl (WL.pu rfl (WL.nil (WX.a (WC.ret (WX.yC (WX.ya (WX.ya (WX.yC (WX.ya ?_)))))))))))
    obtain rfl:=Option.some.inj h
    refine WX.ye Tryd.results42 (.tmp rfl .nil) (fun w hw=>?_)
    exact ⟨yX rfl,hw.sub .nil⟩
   ·replace h:=yn h z8A
    refine WC.skip (WX.yi (WX.a (WC.a (WL.pu rfl (WL.pu rfl (WL.nil ?_))))))
    exact WX.round (G:=Nat × Int) ⟨z8x,(i64 (z1z + 1))⟩ h (Nat.lt_succ_self _) (.cons rfl (.cons rfl (.cons rfl (.cons rfl .nil)))) .nil
  ·replace h:=yn h z8z
   refine WC.exit (WX.yx (WX.yx (WX.y1h ?_)))
   exact WX.mid (G:=Unit) () h .nil .nil
 ·rintro  h
  replace h:=zjS.symm.trans h
  refine WC.b (WC.a (WL.pu rfl (WL.nil (WX.a (WC.ret ?_)))))
  obtain rfl:=Option.some.inj h
  refine WX.ye Tryd.results42 (.tmp rfl .nil) (fun w hw=>?_)
  exact ⟨yX rfl,hw.sub .nil⟩
def yD (z59 : List Sapi_Ins) (z6s : Sapi_Ins → Option Bool) : Option Bool :=
 (yM z59 z6s).bind fun zcc=>some (decide (zcc ≥ 0))
set_option maxRecDepth 20000 in
theorem y2n (Z : Zp) (z7o : Option Addr) (z7p : Nat) (z4I : FuncId) (z6t : List Value) (z59 : List Sapi_Ins) (z6s : Sapi_Ins → Option Bool) (r : Bool)
  (h : yD z59 z6s = some r) (w₀ : World) (hz : PZ [] w₀ Z)
  (zjW : ZS Z 4 (fun r x=>r = e33 x) z7o z7p z59)
  (zjX : ∀ args w,(callFunc z4I args).run Tryd.prog w = .ok (.enter z4I args) w)
  (zjY : ∀ w : World,PZ [] w Z → ∀ (x0 : Sapi_Ins) (r : Bool),z6s x0 = some r → Calls Tryd.prog z4I (([(.agg #[(.int .u8 x0.fOp),(.int .i64 x0.fA),(.int .i64 x0.fB),(.int .i64 x0.fC)])] : List Value) ++ z6t).toArray w fun e w'=>e = .returned (.bool r) ∧ Hp [] w w' []) :
  Calls Tryd.prog 30 #[(.slice z7o z59.length z7p),(.func (.func z4I) #[] (z6t).toArray)] w₀ fun e w'=>e = .returned (.bool r) ∧ Hp [] w₀ w' []:=by
 unfold yD at h
 refine Calls.y8 (vs:=[(.slice z7o z59.length z7p),(.func (.func z4I) #[] (z6t).toArray)]) (pre:=[]) (env:=[(0,(.slice z7o z59.length z7p)),(1,(.func (.func z4I) #[] (z6t).toArray))]) Tryd.func30 rfl Tryd.ntmps30 rfl (Hp.nil w₀ _) rfl ?_
 refine WC.b (WC.a (WL.pu rfl (WL.nil (WX.a (WC.b ?_)))))
 obtain ⟨zcc,zjZ,h⟩:=zh h
 refine WC.a (WL.pu rfl (WL.pu rfl ?_))
 refine WL.b (dd:=7) rfl rfl rfl (zI (l:=[.tmp 5,.tmp 6]) Tryd.call42 (.cons rfl (.cons rfl .nil))) .nil (cc hz .nil fun w pz ho=>y2B _ _ _ (z3R:=z4I) (z58:=z6t) _ (z2N:=z6s) _ zjZ w pz zjW zjX zjY) ?_
 refine WL.pu rfl (WL.pu rfl (WL.nil (WX.a (WC.ret ?_))))
 obtain rfl:=Option.some.inj h
 refine WX.ye Tryd.results30 (.tmp rfl .nil) (fun w hw=>?_)
 exact ⟨yX rfl,hw.sub .nil⟩
def y1t (z35 : List Sapi_Ins) : Option Bool :=
 (yD z35 (fun (y0 : Sapi_Ins)=>y1q y0 z35)).bind fun zcd=>some (!zcd)
set_option maxRecDepth 20000 in
theorem y3o (Z : Zp) (z6K : Option Addr) (z6L : Nat) (z35 : List Sapi_Ins) (r : Bool)
  (h : y1t z35 = some r) (w₀ : World) (hz : PZ [] w₀ Z)
  (hG1 : ZS Z 1 (p74 Z) (some ⟨1,0,none⟩) 26 y18)
  (zce : ZS Z 4 (fun r x=>r = e33 x) z6K z6L z35) :
  Calls Tryd.prog 14 #[(.slice z6K z35.length z6L)] w₀ fun e w'=>e = .returned (.bool r) ∧ Hp [] w₀ w' []:=by
 unfold y1t at h
 refine Calls.y8 (vs:=[(.slice z6K z35.length z6L)]) (pre:=[]) (env:=[(0,(.slice z6K z35.length z6L))]) Tryd.func14 rfl Tryd.ntmps14 rfl (Hp.nil w₀ _) rfl ?_
 refine WC.b (WC.a ?_)
 refine WL.new (dd:=1) rfl rfl rfl (y3v (cs:=[(.slice z6K z35.length z6L)]) rfl rfl) ?_
 intro zk0 _
 refine WL.pu rfl (WL.nil (WX.a (WC.b ?_)))
 obtain ⟨zcd,zk1,h⟩:=zh h
 refine WC.a ?_
 refine WL.a (d:=3) rfl rfl rfl (y6 y2M rfl (yc .here rfl)) ?_
 refine WL.a (d:=4) rfl rfl rfl (y59 (Eos.caps (l:=[.tmp 1]) (.cons rfl .nil))) ?_
 refine WL.b (dd:=5) rfl rfl rfl (zI (l:=[.tmp 3,.tmp 4]) Tryd.call30 (.cons rfl (.cons rfl .nil))) .nil (ccl hz .nil (.cons .here .nil) fun w pz ho la=>y2n _ _ _ (z4I:=31) (z6t:=[(.pointer (some ⟨zk0,0,none⟩))]) _ (z6s:=(fun (y0 : Sapi_Ins)=>y1q y0 z35)) _ zk1 w pz (zce.mono (Zle.left _ _)) Tryd.call31 (fun w' hz' y0  r  hr=>y5p _ _ _ _ _ _ _ hr w' hz' ((hG1.mono (Zle.left _ _)).weak (fun _ _ h=>yE (Zle.left _ _) h)) (zce.mono (Zle.left _ _)) ((la _ (.head _) _).stb))) ?_
 refine WL.pu rfl (WL.pu rfl (WL.nil (WX.a (WC.ret ?_))))
 obtain rfl:=Option.some.inj h
 refine WX.ye Tryd.results14 (.tmp rfl .nil) (fun w hw=>?_)
 exact ⟨yX rfl,hw.sub .nil⟩
def yr (zL : List Int) (zK : Int) (z3S : (List Int) → Int → Option (List Int)) : Nat → (List Int) → Int → Int → Option (List Int)
 | 0,_,_,_=>none
 | z8B + 1,zT,z1I,k2_9039=>if decide (k2_9039 < ((zL.length - (zK : Int).toNat : Nat) : Int)) then jp2 (fun (z2z : List Int) (z3T : Int)=>yr zL zK z3S z8B z2z z3T (i64 (k2_9039 + 1))) fun z7q=>chk ((0 : Int) ≤ k2_9039 ∧ k2_9039 < ((zL.length - (zK : Int).toNat : Nat) : Int)) (chk ((0 : Int) ≤ (i64 (k2_9039 - 1)) ∧ (i64 (k2_9039 - 1)) < ((zL.length - (zK : Int).toNat : Nat) : Int)) (if decide ((nth zT (zK + k2_9039)) ≠ (nth zT (zK + (i64 (k2_9039 - 1))))) then chk ((0 : Int) ≤ k2_9039 ∧ k2_9039 < ((zL.length - (zK : Int).toNat : Nat) : Int)) (chk ((0 : Int) ≤ z1I ∧ z1I < ((zT.length : Nat) : Int)) (z7q (zT.set (z1I : Int).toNat (nth zT (zK + k2_9039))) (i64 (z1I + 1)))) else z7q zT z1I)) else z3S zT z1I
theorem y2H {n : Nat} {zL : List Int} {zK : Int} {z3S : (List Int) → Int → Option (List Int)} {zT : List Int} {z1I : Int} {k2_9039 : Int} {r : List Int} (h : yr zL zK z3S n zT z1I k2_9039 = some r) : ∃ m,n = m + 1:=by
 cases n with
 | zero=>cases h
 | succ m=>exact ⟨m,rfl⟩
def yv (zL : List Int) (z3U : Option (List Int)) : Nat → Int → Option (List Int)
 | 0,_=>none
 | z8C + 1,zK=>if decide (zK < ((zL.length : Nat) : Int)) then jp0 (yv zL z3U z8C (i64 (zK + 1))) fun z8D=>chk ((0 : Int) ≤ zK ∧ zK < ((zL.length : Nat) : Int)) (chk ((0 : Int) ≤ (i64 (zK - 1)) ∧ (i64 (zK - 1)) < ((zL.length : Nat) : Int)) (if decide ((nth zL zK) = (nth zL (i64 (zK - 1)))) then chk ((0 : Int) ≤ zK ∧ zK < ((zL.length : Nat) : Int)) (jp2 (fun (z1J : List Int) (z1K : Int)=>chk ((0 : Int) ≤ z1K ∧ z1K ≤ ((z1J.length : Nat) : Int)) (chk ((0 : Int) ≤ z1K ∧ z1K ≤ (((z1J.take (z1K : Int).toNat ++ List.replicate (z1J.length - (z1K : Int).toNat) (0 : Int)).length : Nat) : Int)) (some ((z1J.take (z1K : Int).toNat ++ List.replicate (z1J.length - (z1K : Int).toNat) (0 : Int)).take (z1K : Int).toNat)))) fun z3S=>yr zL zK z3S y1k zL zK 1) else z8D)) else z3U
theorem y2I {n : Nat} {zL : List Int} {z3U : Option (List Int)} {zK : Int} {r : List Int} (h : yv zL z3U n zK = some r) : ∃ m,n = m + 1:=by
 cases n with
 | zero=>cases h
 | succ m=>exact ⟨m,rfl⟩
def yw (zL : List Int) : Option (List Int) :=
 if decide (((zL.length : Nat) : Int) < 2) then some zL else jp0 (some zL) fun z3U=>yv zL z3U y1k 1
set_option maxRecDepth 20000 in
theorem y3p (Z : Zp) (z2c : Option Addr) (z1o : Nat) (zL : List Int) (r : List Int)
  (h : yw zL = some r) (w₀ : World) (hz : PZ (fps [row (.slice z2c zL.length z1o) 3 1 (zL.flatMap e3)]) w₀ Z)
  (hown : Hp (fps [row (.slice z2c zL.length z1o) 3 1 (zL.flatMap e3)]) w₀ w₀ [row (.slice z2c zL.length z1o) 3 1 (zL.flatMap e3)]) :
  Calls Tryd.prog 35 #[(.slice z2c zL.length z1o)] w₀ fun e w'=>∃ zcf : Option Addr,∃ zcg : Nat,e = .returned (.slice zcf r.length zcg) ∧ True ∧ Hp (fps [row (.slice z2c zL.length z1o) 3 1 (zL.flatMap e3)]) w₀ w' [row (.slice zcf r.length zcg) 3 1 (r.flatMap e3)]:=by
 unfold yw at h
 refine Calls.y8 (vs:=[(.slice z2c zL.length z1o)]) (pre:=[row (.slice z2c zL.length z1o) 3 1 (zL.flatMap e3)]) (env:=[(0,(.slice z2c zL.length z1o))]) Tryd.func35 rfl Tryd.ntmps35 rfl (hown) rfl ?_
 refine WC.b (WC.a (WL.pu rfl (WL.nil (WX.a (WC.b (WC.b (WC.a (WL.pu rfl ?_))))))))
 refine WL.a (d:=7) rfl rfl rfl (y1i Tryd.underlying30 rfl) ?_
 refine WL.pu rfl (WL.nil (WX.a ?_))
 refine WC.cond rfl (fun z8E=>?_) (fun z8E=>?_)
 ·replace h:=ym h z8E
  refine WC.b (WC.a (WL.pu rfl (WL.pu rfl (WL.nil (WX.a (WC.ret (WX.ya ?_)))))))
  obtain rfl:=Option.some.inj h
  refine WX.ye Tryd.results35 (.tmp rfl .nil) (fun w hw=>?_)
  exact ⟨z2c,z1o,yX rfl,trivial,hw.sub (.cons .here .nil)⟩
 ·replace h:=yn h z8E
  refine WC.skip (WX.a ?_)
  obtain ⟨z3U,zk2,h⟩:=y3k h
  refine WC.y2S ((z3U = some r)) ([(0,(.slice z2c zL.length z1o))]) ([row (.slice z2c zL.length z1o) 3 1 (zL.flatMap e3)]) ?_ ?_
  ·skip
   refine WC.b (WC.a (WL.pu rfl (WL.nil (WX.a (WC.block ?_)))))
   refine WC.y48 (fun (z6u : Nat) (zK : Int)=>(yv zL z3U z6u zK = some r)) (fun (z6u : Nat) (zK : Int)=>[(0,(.slice z2c zL.length z1o)),(3,(.int .i64 zK))]) (fun (z6u : Nat) (zK : Int)=>[row (.slice z2c zL.length z1o) 3 1 (zL.flatMap e3)]) (fun (z6u : Nat) (zK : Int)=>z6u) ⟨y1k,1⟩ h (.cons rfl (.cons rfl .nil)) (.cons .here .nil) ?_
   rintro z6u zK h
   obtain ⟨z8C,rfl⟩:=y2I h
   rw [yv] at h
   refine WC.b (WC.b (WC.a (WL.pu rfl (WL.pu rfl ?_))))
   refine WL.a (d:=12) rfl rfl rfl (y1i Tryd.underlying30 rfl) ?_
   refine WL.pu rfl (WL.nil (WX.a ?_))
   refine WC.cond rfl (fun z8F=>?_) (fun z8F=>?_)
   ·replace h:=ym h z8F
    refine WC.skip (WX.a ?_)
    obtain ⟨z8D,zk3,h⟩:=y3k h
    refine WC.y2S ((z8D = some r)) ([(0,(.slice z2c zL.length z1o)),(3,(.int .i64 zK))]) ([row (.slice z2c zL.length z1o) 3 1 (zL.flatMap e3)]) ?_ ?_
    ·skip
     refine WC.block (WC.b ?_)
     obtain ⟨z6M,h⟩:=y9 h
     obtain ⟨z7r,h⟩:=y9 h
     refine WC.y1a (fun i=>[].contains i) [] rfl ?_
     refine WD.a (i:=0) (d:=16) (by kernel_rfl) rfl z1 z2 rfl rfl rfl (fun _=>q_m rfl) ?_
     refine WD.a (i:=1) (d:=17) (by kernel_rfl) rfl z1 z2 rfl rfl rfl (fun _=>q_m rfl) ?_
     refine WD.know (fun w hw=>Hp.y3x .here hw (by intro hz'; have:=z6M; rw [hz'] at this; omega)) ?_
     rintro ⟨z2A,rfl⟩
     refine WD.a (i:=2) (d:=18) (by kernel_rfl) rfl z1 z2 rfl rfl rfl (fun _=>yt yu rfl rfl z6M.1 z6M.2 y1D) ?_
     refine WD.e (i:=3) (d:=19) (by kernel_rfl) rfl z1 z2 rfl rfl rfl (y6 yf rfl (y1C .here ((y1m (enc:=e3) (l:=zL) (i:=zK) (sz:=1) (fun _=>rfl) z6M.1 z6M.2) 0 _ rfl))) ?_
     refine WD.a (i:=4) (d:=20) (by kernel_rfl) rfl z1 z2 rfl rfl rfl (fun _=>q_m rfl) ?_
     refine WD.a (i:=5) (d:=21) (by kernel_rfl) rfl z1 z2 rfl rfl rfl (fun _=>q_m rfl) ?_
     refine WD.a (i:=6) (d:=22) (by kernel_rfl) rfl z1 z2 rfl rfl rfl (fun _=>y58 rfl rfl rfl) ?_
     refine WD.a (i:=7) (d:=23) (by kernel_rfl) rfl z1 z2 rfl rfl rfl (fun _=>yt yu rfl rfl z7r.1 z7r.2 y1D) ?_
     refine WD.e (i:=8) (d:=24) (by kernel_rfl) rfl z1 z2 rfl rfl rfl (y6 yf rfl (y1C .here ((y1m (enc:=e3) (l:=zL) (i:=i64 (zK - 1)) (sz:=1) (fun _=>rfl) z7r.1 z7r.2) 0 _ rfl))) ?_
     refine WD.a (i:=9) (d:=25) (by kernel_rfl) rfl z1 z2 rfl rfl rfl (fun _=>q_eql rfl rfl) ?_
     refine WD.done (by kernel_rfl) ?_
     refine WX.a ?_
     refine WC.cond rfl (fun z8G=>?_) (fun z8G=>?_)
     ·replace h:=ym h z8G
      refine WC.b ?_
      obtain ⟨z5a,h⟩:=y9 h
      refine WC.a (WL.pu rfl (WL.pu rfl ?_))
      refine WL.y6H (dd:=28) rfl rfl yu rfl rfl .here z5a ?_
      refine WL.pu rfl (WL.nil (WX.a ?_))
      obtain ⟨z3S,zk4,h⟩:=y4b h
      refine WC.y39 (fun (z1J : List Int) (z1K : Int)=>(z3S z1J z1K = some r) ∧ (z1J.length = zL.length)) (fun (z1J : List Int) (z1K : Int)=>[(0,(.slice (some ⟨z2A,0,none⟩) z1J.length z1o)),(3,(.int .i64 z1K))]) (fun (z1J : List Int) (z1K : Int)=>[row (.slice (some ⟨z2A,0,none⟩) z1J.length z1o) 3 1 (z1J.flatMap e3)]) ?_ ?_
      ·skip
       refine WC.b (WC.a (WL.pu rfl (WL.nil (WX.a (WC.block ?_)))))
       refine WC.y5M (fun (z6v : Nat) (zT : List Int) (z1I : Int) (k2_9039 : Int)=>(yr zL zK z3S z6v zT z1I k2_9039 = some r) ∧ (zT.length = zL.length)) (fun (z6v : Nat) (zT : List Int) (z1I : Int) (k2_9039 : Int)=>[(0,(.slice (some ⟨z2A,0,none⟩) zT.length z1o)),(3,(.int .i64 z1I)),(4,(.slice (some ⟨z2A,(zK : Int).toNat * 1,none⟩) (zL.length - (zK : Int).toNat) (z1o - (zK : Int).toNat))),(5,(.int .i64 k2_9039))]) (fun (z6v : Nat) (zT : List Int) (z1I : Int) (k2_9039 : Int)=>[row (.slice (some ⟨z2A,0,none⟩) zT.length z1o) 3 1 (zT.flatMap e3)]) (fun (z6v : Nat) (zT : List Int) (z1I : Int) (k2_9039 : Int)=>z6v) ⟨y1k,zL,zK,1⟩ ⟨h,rfl⟩ (.cons rfl (.cons rfl (.cons rfl (.cons rfl .nil)))) (.cons .here .nil) ?_
       rintro z6v zT z1I k2_9039 ⟨h,z6w⟩
       obtain ⟨z8B,rfl⟩:=y2H h
       rw [yr] at h
       refine WC.b (WC.b (WC.a (WL.pu rfl (WL.pu rfl ?_))))
       refine WL.a (d:=31) rfl rfl rfl (y1i Tryd.underlying30 rfl) ?_
       refine WL.pu rfl (WL.nil (WX.a ?_))
       refine WC.cond rfl (fun z8H=>?_) (fun z8H=>?_)
       ·replace h:=ym h z8H
        refine WC.skip (WX.a ?_)
        obtain ⟨z7q,zk5,h⟩:=y4b h
        refine WC.y39 (fun (z2z : List Int) (z3T : Int)=>(z7q z2z z3T = some r) ∧ (z2z.length = zL.length)) (fun (z2z : List Int) (z3T : Int)=>[(0,(.slice (some ⟨z2A,0,none⟩) z2z.length z1o)),(3,(.int .i64 z3T)),(4,(.slice (some ⟨z2A,(zK : Int).toNat * 1,none⟩) (zL.length - (zK : Int).toNat) (z1o - (zK : Int).toNat))),(5,(.int .i64 k2_9039))]) (fun (z2z : List Int) (z3T : Int)=>[row (.slice (some ⟨z2A,0,none⟩) z2z.length z1o) 3 1 (z2z.flatMap e3)]) ?_ ?_
        ·skip
         refine WC.block (WC.b ?_)
         obtain ⟨z7s,h⟩:=y9 h
         obtain ⟨z7t,h⟩:=y9 h
         refine WC.y1a (fun i=>[].contains i) [] rfl ?_
         refine WD.a (i:=0) (d:=35) (by kernel_rfl) rfl z1 z2 rfl rfl rfl (fun _=>q_m rfl) ?_
         refine WD.a (i:=1) (d:=36) (by kernel_rfl) rfl z1 z2 rfl rfl rfl (fun _=>q_m rfl) ?_
         have zch : (0 : Int) ≤ zK + k2_9039 ∧ zK + k2_9039 < ((zT.length : Nat) : Int):=by have h1:=z6w; have h2:=z5a; have h3:=z7s; omega
         refine WD.a (i:=2) (d:=37) (by kernel_rfl) rfl z1 z2 rfl rfl rfl (fun _=>yt yu rfl rfl z7s.1 z7s.2 (y51 z5a.1 z7s.1)) ?_
         refine WD.e (i:=3) (d:=38) (by kernel_rfl) rfl z1 z2 rfl rfl rfl (y6 yf rfl (y1C .here ((y1m (enc:=e3) (l:=zT) (i:=zK + k2_9039) (sz:=1) (fun _=>rfl) zch.1 zch.2) 0 _ rfl))) ?_
         refine WD.a (i:=4) (d:=39) (by kernel_rfl) rfl z1 z2 rfl rfl rfl (fun _=>q_m rfl) ?_
         refine WD.a (i:=5) (d:=40) (by kernel_rfl) rfl z1 z2 rfl rfl rfl (fun _=>q_m rfl) ?_
         refine WD.a (i:=6) (d:=41) (by kernel_rfl) rfl z1 z2 rfl rfl rfl (fun _=>y58 rfl rfl rfl) ?_
         have zci : (0 : Int) ≤ zK + (i64 (k2_9039 - 1)) ∧ zK + (i64 (k2_9039 - 1)) < ((zT.length : Nat) : Int):=by have h1:=z6w; have h2:=z5a; have h3:=z7t; omega
         refine WD.a (i:=7) (d:=42) (by kernel_rfl) rfl z1 z2 rfl rfl rfl (fun _=>yt yu rfl rfl z7t.1 z7t.2 (y51 z5a.1 z7t.1)) ?_
         refine WD.e (i:=8) (d:=43) (by kernel_rfl) rfl z1 z2 rfl rfl rfl (y6 yf rfl (y1C .here ((y1m (enc:=e3) (l:=zT) (i:=zK + (i64 (k2_9039 - 1))) (sz:=1) (fun _=>rfl) zci.1 zci.2) 0 _ rfl))) ?_
         refine WD.a (i:=9) (d:=44) (by kernel_rfl) rfl z1 z2 rfl rfl rfl (fun _=>q_neq rfl rfl) ?_
         refine WD.done (by kernel_rfl) ?_
         refine WX.a ?_
         refine WC.cond rfl (fun z8I=>?_) (fun z8I=>?_)
         ·replace h:=ym h z8I
          refine WC.b ?_
          obtain ⟨z7u,h⟩:=y9 h
          obtain ⟨z6x,h⟩:=y9 h
          refine WC.a (WL.pu rfl (WL.pu rfl (WL.pu rfl (WL.pu rfl ?_))))
          have zcj : (0 : Int) ≤ zK + k2_9039 ∧ zK + k2_9039 < ((zT.length : Nat) : Int):=by have h1:=z6w; have h2:=z5a; have h3:=z7u; omega
          refine WL.a (d:=49) rfl rfl rfl (yt yu rfl rfl z7u.1 z7u.2 (y51 z5a.1 z7u.1)) ?_
          refine WL.a (d:=50) rfl rfl rfl (y6 yf rfl (y1C .here ((y1m (enc:=e3) (l:=zT) (i:=zK + k2_9039) (sz:=1) (fun _=>rfl) zcj.1 zcj.2) 0 _ rfl))) ?_
          refine WL.a (d:=51) rfl rfl rfl (yt yu rfl rfl z6x.1 z6x.2 y1D) ?_
          refine WL.yo rfl rfl (y5a (vs:=[(.int .i64 (nth zT (zK + k2_9039)))]) (ds:=(zT.set (z1I : Int).toNat (nth zT (zK + k2_9039))).flatMap e3) y2V rfl rfl rfl rfl (y6a rfl oc_nil) .here (y5Q (enc:=e3) (sz:=1) (k:=0) (fun _=>rfl) z6x.1 z6x.2 (by decide)) (y5O (enc:=e3) (l:=zT) (sz:=1) (vs:=[(.int .i64 (nth zT (zK + k2_9039)))]) (y:=(nth zT (zK + k2_9039))) (k:=0) (fun _=>rfl) z6x.1 z6x.2 rfl (Nat.le_of_ble_eq_true rfl))) ?_
          refine WL.relen .here (u:=(.slice (some ⟨z2A,0,none⟩) ((zT.set (z1I : Int).toNat (nth zT (zK + k2_9039))).length) z1o)) (slen (List.length_set).symm) ?_
          refine WL.repin (i:=0) rfl (u:=(.slice (some ⟨z2A,0,none⟩) ((zT.set (z1I : Int).toNat (nth zT (zK + k2_9039))).length) z1o)) (slen (List.length_set).symm) ?_
          refine WL.nil (WX.a (WC.a (WL.pu rfl (WL.pu rfl (WL.pu rfl (WL.nil (WX.yi ?_)))))))
          exact WX.mid (G:=List Int × Int) ⟨(zT.set (z1I : Int).toNat (nth zT (zK + k2_9039))),(i64 (z1I + 1))⟩ ⟨h,((List.length_set).trans z6w)⟩ (.cons rfl (.cons rfl (.cons rfl (.cons rfl .nil)))) (.cons .here .nil)
         ·replace h:=yn h z8I
          refine WC.skip (WX.yi ?_)
          exact WX.mid (G:=List Int × Int) ⟨zT,z1I⟩ ⟨h,z6w⟩ (.cons rfl (.cons rfl (.cons rfl (.cons rfl .nil)))) (.cons .here .nil)
        ·rintro z2z z3T ⟨h,zk6⟩
         replace h:=(zk5 z2z z3T).symm.trans h
         refine WC.a (WL.pu rfl (WL.pu rfl (WL.pu rfl (WL.nil ?_))))
         exact WX.round (G:=Nat × List Int × Int × Int) ⟨z8B,z2z,z3T,(i64 (k2_9039 + 1))⟩ ⟨h,zk6⟩ (Nat.lt_succ_self _) (.cons rfl (.cons rfl (.cons rfl (.cons rfl .nil)))) (.cons .here .nil)
       ·replace h:=yn h z8H
        refine WC.exit (WX.yx (WX.yx (WX.y1h ?_)))
        exact WX.mid (G:=List Int × Int) ⟨zT,z1I⟩ ⟨h,z6w⟩ (.cons rfl (.cons rfl .nil)) (.cons .here .nil)
      ·rintro z1J z1K ⟨h,zmy⟩
       replace h:=(zk4 z1J z1K).symm.trans h
       refine WC.b ?_
       obtain ⟨z7v,h⟩:=y9 h
       refine WC.a (WL.pu rfl (WL.pu rfl ?_))
       refine WL.y6B (dd:=56) rfl rfl yu rfl rfl .here z7v ?_
       intro zmz zmA zk7
       refine WL.yo rfl rfl (y5P (enc:=e3) (z0:=(0 : Int)) (l:=z1J) yu y4U rfl zk7 z7v (fun _=>rfl) (by decide) rfl y5e .here) ?_
       refine WL.relen .here (u:=(.slice (some ⟨z2A,0,none⟩) ((z1J.take (z1K : Int).toNat ++ List.replicate (z1J.length - (z1K : Int).toNat) (0 : Int)).length) z1o)) (slen (y4H z7v).symm) ?_
       refine WL.repin (i:=0) rfl (u:=(.slice (some ⟨z2A,0,none⟩) ((z1J.take (z1K : Int).toNat ++ List.replicate (z1J.length - (z1K : Int).toNat) (0 : Int)).length) z1o)) (slen (y4H z7v).symm) ?_
       refine WL.nil (WX.a (WC.b ?_))
       obtain ⟨zk8,h⟩:=y9 h
       refine WC.a (WL.pu rfl (WL.pu rfl ?_))
       refine WL.y6A (dd:=59) (enc:=e3) (ls:=z1J.take (z1K : Int).toNat ++ List.replicate (z1J.length - (z1K : Int).toNat) (0 : Int)) rfl rfl yu rfl rfl .here (fun _=>rfl) zk8 ?_
       intro zk9 zka
       refine WL.pu rfl (WL.nil (WX.a (WC.ret (WX.yC (WX.ya (WX.ya (WX.yC (WX.ya ?_))))))))
       obtain rfl:=Option.some.inj h
       refine WX.ye Tryd.results35 (.tmp rfl .nil) (fun w hw=>?_)
       exact ⟨zk9,zka,yX rfl,trivial,hw.sub (.cons .here .nil)⟩
     ·replace h:=yn h z8G
      refine WC.skip (WX.yi ?_)
      exact WX.mid (G:=Unit) () h (.cons rfl (.cons rfl .nil)) (.cons .here .nil)
    ·rintro  h
     replace h:=zk3.symm.trans h
     refine WC.a (WL.pu rfl (WL.pu rfl (WL.pu rfl (WL.nil ?_))))
     exact WX.round (G:=Nat × Int) ⟨z8C,(i64 (zK + 1))⟩ h (Nat.lt_succ_self _) (.cons rfl (.cons rfl .nil)) (.cons .here .nil)
   ·replace h:=yn h z8F
    refine WC.exit (WX.yx (WX.yx (WX.y1h ?_)))
    exact WX.mid (G:=Unit) () h (.cons rfl .nil) (.cons .here .nil)
  ·rintro  h
   replace h:=zk2.symm.trans h
   refine WC.b (WC.a (WL.pu rfl (WL.pu rfl (WL.nil (WX.a (WC.ret ?_))))))
   obtain rfl:=Option.some.inj h
   refine WX.ye Tryd.results35 (.tmp rfl .nil) (fun w hw=>?_)
   exact ⟨z2c,z1o,yX rfl,trivial,hw.sub (.cons .here .nil)⟩
def y1d (z5b : List Sapi_Ins) (z1L : Int) : Option (List Int) :=
 (y2N z5b z1L).bind fun z1l=>if !z1l.2 then some ([] : List Int) else jp1 (fun (z2O : List Int)=>(y1z z2O).bind fun z7w=>(yw z7w).bind fun zck=>some zck) fun z6N=>jp1 (fun (z4J : Bool)=>if z4J then some ([] : List Int) else if decide (z1l.1.fOp = 20) then some ([z1l.1.fA] : List Int) else if decide (z1l.1.fOp = 21) then chk ((((([i64 (z1L + 1)] : List Int) ++ ([z1l.1.fB] : List Int)).length : Nat) : Int) * 8 ≤ 140737488355328 ∧ (((([i64 (z1L + 1)] : List Int) ++ ([z1l.1.fB] : List Int)).length : Nat) : Int) ≤ 4611686018427387904) (z6N (([i64 (z1L + 1)] : List Int) ++ ([z1l.1.fB] : List Int))) else if decide (z1l.1.fOp = 22) then chk ((((([i64 (z1L + 1)] : List Int) ++ ([z1l.1.fC] : List Int)).length : Nat) : Int) * 8 ≤ 140737488355328 ∧ (((([i64 (z1L + 1)] : List Int) ++ ([z1l.1.fC] : List Int)).length : Nat) : Int) ≤ 4611686018427387904) (z6N (([i64 (z1L + 1)] : List Int) ++ ([z1l.1.fC] : List Int))) else z6N ([i64 (z1L + 1)] : List Int)) fun z7x=>if decide (z1l.1.fOp = 19) then z7x (decide (z1l.1.fOp = 19)) else z7x (decide (z1l.1.fOp = 25))
set_option maxRecDepth 20000 in
theorem y37 (Z : Zp) (z7y : Option Addr) (z7z : Nat) (z5b : List Sapi_Ins) (z1L : Int) (r : List Int)
  (h : y1d z5b z1L = some r) (w₀ : World) (hz : PZ [] w₀ Z)
  (hG1 : ZS Z 1 (p74 Z) (some ⟨1,0,none⟩) 26 y18)
  (zkb : ZS Z 4 (fun r x=>r = e33 x) z7y z7z z5b) :
  Calls Tryd.prog 15 #[(.slice z7y z5b.length z7z),(.int .i64 z1L)] w₀ fun e w'=>∃ zcl : Option Addr,∃ zcm : Nat,e = .returned (.slice zcl r.length zcm) ∧ True ∧ Hp [] w₀ w' [row (.slice zcl r.length zcm) 3 1 (r.flatMap e3)]:=by
 unfold y1d at h
 refine Calls.y8 (vs:=[(.slice z7y z5b.length z7z),(.int .i64 z1L)]) (pre:=[]) (env:=[(0,(.slice z7y z5b.length z7z)),(1,(.int .i64 z1L))]) Tryd.func15 rfl Tryd.ntmps15 rfl (Hp.nil w₀ _) rfl ?_
 refine WC.b (WC.a (WL.pu rfl (WL.nil (WX.a (WC.b ?_)))))
 obtain ⟨z1l,zkc,h⟩:=zh h
 refine WC.a (WL.pu rfl (WL.pu rfl ?_))
 refine WL.b (dd:=11) rfl rfl rfl (zI (l:=[.tmp 9,.tmp 10]) Tryd.call33 (.cons rfl (.cons rfl .nil))) .nil (cc hz .nil fun w pz ho=>y5v _ _ _ _ _ _ zkc w pz hG1 zkb) ?_
 refine WL.pu rfl (WL.pu rfl (WL.pu rfl ?_))
 refine WL.new (dd:=5) rfl rfl rfl (yA (cs:=[(.int .u8 0),(.int .i64 0),(.int .i64 0),(.int .i64 0)]) y4e rfl) ?_
 intro zcn _
 refine WL.yo rfl rfl (yy y3N rfl rfl rfl .here rfl rfl rfl) ?_
 refine WL.pu rfl (WL.nil (WX.a (WC.b (WC.b (WC.a (WL.pu rfl (WL.pu rfl (WL.nil (WX.a ?_)))))))))
 refine WC.cond rfl (fun z8J=>?_) (fun z8J=>?_)
 ·replace h:=ym h z8J
  refine WC.b (WC.a (WL.pu rfl (WL.nil (WX.a (WC.ret (WX.ya ?_))))))
  refine WX.nilRow 3 1 ?_
  obtain rfl:=Option.some.inj h
  refine WX.ye Tryd.results15 (.tmp rfl .nil) (fun w hw=>?_)
  exact ⟨none,0,yX rfl,trivial,hw.sub (.cons .here .nil)⟩
 ·replace h:=yn h z8J
  refine WC.skip (WX.a (WC.b (WC.a (WL.pu rfl (WL.pu rfl ?_)))))
  refine WL.new (dd:=18) rfl rfl rfl (yp (cs:=([i64 (z1L + 1)] : List Int).flatMap e3) yu (Eos.parts (l:=[.tmp 17]) (.cons rfl .nil) [0]) (fun _=>by kernel_rfl) rfl (by unfold maxLen; omega)) ?_
  intro z8K _
  refine WL.pu rfl (WL.nil (WX.a ?_))
  obtain ⟨z6N,zkd,h⟩:=y2G h
  refine WC.y6m (fun (z2O : List Int) (z5c : Option Addr) (z5d : Nat)=>(z6N z2O = some r)) (fun (z2O : List Int) (z5c : Option Addr) (z5d : Nat)=>[(7,(.slice z5c z2O.length z5d))]) (fun (z2O : List Int) (z5c : Option Addr) (z5d : Nat)=>[row (.slice z5c z2O.length z5d) 3 1 (z2O.flatMap e3)]) ?_ ?_
  ·skip
   refine WC.b (WC.a ?_)
   refine WL.a (d:=19) rfl rfl rfl (y4 y31 rfl rfl) ?_
   refine WL.a (d:=20) rfl rfl rfl (y6 yN rfl (yc .h1 rfl)) ?_
   refine WL.nil (WX.a (WC.block ?_))
   obtain ⟨z7x,zke,h⟩:=y2G h
   refine WC.y2y (fun (z4J : Bool)=>(z7x z4J = some r)) (fun (z4J : Bool)=>[(5,(.pointer (some ⟨zcn,0,none⟩))),(7,(.slice (some ⟨z8K,0,none⟩) (([i64 (z1L + 1)] : List Int).length) 1)),(20,(.int .u8 z1l.1.fOp)),(21,(.bool z4J))]) (fun (z4J : Bool)=>[row (.slice (some ⟨z8K,0,none⟩) (([i64 (z1L + 1)] : List Int).length) 1) 3 1 (([i64 (z1L + 1)] : List Int).flatMap e3),stb zcn 33 [(.int .u8 z1l.1.fOp),(.int .i64 z1l.1.fA),(.int .i64 z1l.1.fB),(.int .i64 z1l.1.fC)]]) ?_ ?_
   ·skip
    refine WC.b (WC.a (WL.pu rfl (WL.pu rfl (WL.nil (WX.a ?_)))))
    refine WC.cond rfl (fun z8L=>?_) (fun z8L=>?_)
    ·replace h:=ym h z8L
     refine WC.skip ?_
     exact WX.mid (G:=Bool) (decide (z1l.1.fOp = 19)) h (.cons rfl (.cons rfl (.cons rfl (.cons rfl .nil)))) (.cons .here (.cons .here .nil))
    ·replace h:=yn h z8L
     refine WC.a (WL.pu rfl (WL.pu rfl (WL.nil ?_)))
     exact WX.mid (G:=Bool) (decide (z1l.1.fOp = 25)) h (.cons rfl (.cons rfl (.cons rfl (.cons rfl .nil)))) (.cons .here (.cons .here .nil))
   ·rintro z4J h
    replace h:=(zke z4J).symm.trans h
    refine WC.cond rfl (fun z8M=>?_) (fun z8M=>?_)
    ·replace h:=ym h z8M
     refine WC.b (WC.a (WL.pu rfl (WL.nil (WX.a (WC.ret (WX.yC (WX.ya ?_)))))))
     refine WX.nilRow 3 1 ?_
     obtain rfl:=Option.some.inj h
     refine WX.ye Tryd.results15 (.tmp rfl .nil) (fun w hw=>?_)
     exact ⟨none,0,yX rfl,trivial,hw.sub (.cons .here .nil)⟩
    ·replace h:=yn h z8M
     refine WC.b (WC.a (WL.pu rfl (WL.pu rfl (WL.nil (WX.a ?_)))))
     refine WC.cond rfl (fun z8N=>?_) (fun z8N=>?_)
     ·replace h:=ym h z8N
      refine WC.b (WC.a ?_)
      refine WL.a (d:=26) rfl rfl rfl (y4 y1b rfl rfl) ?_
      refine WL.a (d:=27) rfl rfl rfl (y6 yf rfl (yc .h1 rfl)) ?_
      refine WL.new (dd:=28) rfl rfl rfl (yp (cs:=([z1l.1.fA] : List Int).flatMap e3) yu (Eos.parts (l:=[.tmp 27]) (.cons rfl .nil) [0]) (fun _=>by kernel_rfl) rfl (by unfold maxLen; omega)) ?_
      intro zkf _
      refine WL.pu rfl (WL.nil (WX.a (WC.ret (WX.yC (WX.ya ?_)))))
      obtain rfl:=Option.some.inj h
      refine WX.ye Tryd.results15 (.tmp rfl .nil) (fun w hw=>?_)
      exact ⟨(some ⟨zkf,0,none⟩),1,yX rfl,trivial,hw.sub (.cons .here .nil)⟩
     ·replace h:=yn h z8N
      refine WC.b (WC.a (WL.pu rfl (WL.pu rfl (WL.nil (WX.a ?_)))))
      refine WC.cond rfl (fun z8O=>?_) (fun z8O=>?_)
      ·replace h:=ym h z8O
       obtain ⟨zkg,h⟩:=y9 h
       refine WC.a (WL.pu rfl ?_)
       refine WL.a (d:=32) rfl rfl rfl (y4 y1x rfl rfl) ?_
       refine WL.a (d:=33) rfl rfl rfl (y6 yf rfl (yc .h1 rfl)) ?_
       refine WL.new (dd:=34) rfl rfl rfl (yp (cs:=([z1l.1.fB] : List Int).flatMap e3) yu (Eos.parts (l:=[.tmp 33]) (.cons rfl .nil) [0]) (fun _=>by kernel_rfl) rfl (by unfold maxLen; omega)) ?_
       intro zmB _
       refine WL.eff (d:=35) rfl rfl rfl (y3z (enc:=e3) (l1:=([i64 (z1L + 1)] : List Int)) (l2:=([z1l.1.fB] : List Int)) yu rfl rfl .h1 (fun _=>rfl) rfl rfl (y4Z .here) (y3L y5e _) zkg) ?_
       rintro ⟨zkh,zki⟩ _
       refine WL.pu rfl (WL.nil (WX.yi ?_))
       exact WX.mid (G:=List Int × Option Addr × Nat) ⟨(([i64 (z1L + 1)] : List Int) ++ ([z1l.1.fB] : List Int)),zkh,zki⟩ h (.cons rfl .nil) (.cons .here .nil)
      ·replace h:=yn h z8O
       refine WC.b (WC.a (WL.pu rfl (WL.pu rfl (WL.nil (WX.a ?_)))))
       refine WC.cond rfl (fun z8P=>?_) (fun z8P=>?_)
       ·replace h:=ym h z8P
        obtain ⟨zkj,h⟩:=y9 h
        refine WC.a (WL.pu rfl ?_)
        refine WL.a (d:=39) rfl rfl rfl (y4 y3O rfl rfl) ?_
        refine WL.a (d:=40) rfl rfl rfl (y6 yf rfl (yc .h1 rfl)) ?_
        refine WL.new (dd:=41) rfl rfl rfl (yp (cs:=([z1l.1.fC] : List Int).flatMap e3) yu (Eos.parts (l:=[.tmp 40]) (.cons rfl .nil) [0]) (fun _=>by kernel_rfl) rfl (by unfold maxLen; omega)) ?_
        intro zmC _
        refine WL.eff (d:=42) rfl rfl rfl (y3z (enc:=e3) (l1:=([i64 (z1L + 1)] : List Int)) (l2:=([z1l.1.fC] : List Int)) yu rfl rfl .h1 (fun _=>rfl) rfl rfl (y4Z .here) (y3L y5e _) zkj) ?_
        rintro ⟨zkk,zkl⟩ _
        refine WL.pu rfl (WL.nil (WX.yi ?_))
        exact WX.mid (G:=List Int × Option Addr × Nat) ⟨(([i64 (z1L + 1)] : List Int) ++ ([z1l.1.fC] : List Int)),zkk,zkl⟩ h (.cons rfl .nil) (.cons .here .nil)
       ·replace h:=yn h z8P
        refine WC.skip (WX.yi ?_)
        exact WX.mid (G:=List Int × Option Addr × Nat) ⟨([i64 (z1L + 1)] : List Int),(some ⟨z8K,0,none⟩),1⟩ h (.cons rfl .nil) (.cons .here .nil)
  ·rintro z2O z5c z5d h
   replace h:=(zkd z2O).symm.trans h
   refine WC.b ?_
   obtain ⟨z7w,zkm,h⟩:=zh h
   refine WC.a (WL.pu rfl ?_)
   refine WL.y6v (dd:=44) rfl rfl rfl (zI (l:=[.tmp 43]) Tryd.call34 (.cons rfl .nil)) (.cons .here .nil) (cc hz (.cons .here .nil) fun w pz ho=>y5F (Z:=_) (ao:=z5c) (cap:=z5d) (l:=z2O) (r:=z7w) w pz  zkm ho) ?_
   rintro  zkn
   refine WL.repin (i:=7) rfl (u:=(.slice z5c z7w.length z5d)) (slen zkn.symm) ?_
   refine WL.nil (WX.a (WC.b ?_))
   obtain ⟨zck,zko,h⟩:=zh h
   refine WC.a (WL.pu rfl ?_)
   refine WL.y4C (dd:=46) rfl rfl rfl (zI (l:=[.tmp 45]) Tryd.call35 (.cons rfl .nil)) (.cons .here .nil) (cc hz (.cons .here .nil) fun w pz ho=>y3p _ _ _ _ _ zko w pz  ho) ?_
   rintro zkp zkq _
   refine WL.pu rfl (WL.nil (WX.a (WC.ret ?_)))
   obtain rfl:=Option.some.inj h
   refine WX.ye Tryd.results15 (.tmp rfl .nil) (fun w hw=>?_)
   exact ⟨zkp,zkq,yX rfl,trivial,hw.sub (.cons .here .nil)⟩
def yL (z1Z : List Int) (z7A : Int → (List (Int × Int)) → (List Sapi_Ins) → Option (Bool × (List (Int × Int)))) (z1k : List Sapi_Ins) (z3V : Int → (List (Int × Int)) → Option (Bool × (List (Int × Int)))) : Nat → Int → Int → (List (Int × Int)) → Option (Bool × (List (Int × Int)))
 | 0,_,_,_=>none
 | z8Q + 1,z2p,z1P,z2q=>if decide (z1P < ((z1Z.length : Nat) : Int)) then chk ((0 : Int) ≤ z1P ∧ z1P < ((z1Z.length : Nat) : Int)) ((z7A (nth z1Z z1P) z2q z1k).bind fun z4K=>if !z4K.1 then some (false,z4K.2) else yL z1Z z7A z1k z3V z8Q (max z2p (y1F z4K.2 (nth z1Z z1P) 0)) (i64 (z1P + 1)) z4K.2) else z3V z2p z2q
theorem y3q {n : Nat} {z1Z : List Int} {z7A : Int → (List (Int × Int)) → (List Sapi_Ins) → Option (Bool × (List (Int × Int)))} {z1k : List Sapi_Ins} {z3V : Int → (List (Int × Int)) → Option (Bool × (List (Int × Int)))} {z2p : Int} {z1P : Int} {z2q : List (Int × Int)} {r : Bool × (List (Int × Int))} (h : yL z1Z z7A z1k z3V n z2p z1P z2q = some r) : ∃ m,n = m + 1:=by
 cases n with
 | zero=>cases h
 | succ m=>exact ⟨m,rfl⟩
def yJ : Nat → Int → (List (Int × Int)) → (List Sapi_Ins) → Option (Bool × (List (Int × Int)))
 | 0,_,_,_=>none
 | z8R + 1,zS,z1v,z1k=>if y3l z1v zS then some ((decide ((y1F z1v zS 0) ≠ (-1))),z1v) else jp2 (fun (z20 : Int) (z2l : List (Int × Int))=>jp1 (fun (z36 : List (Int × Int))=>some (true,z36)) fun z5e=>chk ((0 : Int) ≤ zS ∧ zS < ((z1k.length : Nat) : Int)) (if decide (((nth z1k zS).fOp) = 1) then chk ((0 : Int) ≤ zS ∧ zS < ((z1k.length : Nat) : Int)) (z5e (yU (yU z2l zS (i64 (z20 + 1))) zS (i64 (z20 + ((nth z1k zS).fA))))) else z5e (yU z2l zS (i64 (z20 + 1))))) fun z3V=>(y1d z1k zS).bind fun z1Z=>yL z1Z (yJ z8R) z1k z3V y1k 0 0 (yU z1v zS (-1))
def y2J (zS : Int) (z1v : List (Int × Int)) (z1k : List Sapi_Ins) : Option (Bool × (List (Int × Int))):=yJ y1k zS z1v z1k
set_option maxRecDepth 20000 in
theorem y4n : ∀ (n : Nat) (Z : Zp) (z26 : Addr) (z1A : Nat) (z27 : Addr) (z2P : Option Addr) (z2Q : Nat) (z2d : Addr) (zS : Int) (z1v : List (Int × Int)) (z1k : List Sapi_Ins) (r : Bool × (List (Int × Int))) (w₀ : World) (hz : PZ (fps [y14 z1A (Value.int .i64) (Value.int .i64) z1v]) w₀ Z)
  (hG1 : ZS Z 1 (p74 Z) (some ⟨1,0,none⟩) 26 y18)
  (z37 : ZC Z z26 [(.map (some z1A))])
  (z4L : ZS Z 4 (fun r x=>r = e33 x) z2P z2Q z1k)
  (z4M : ZC Z z27 [(.slice z2P z1k.length z2Q)])
  (z6y : ZC Z z2d [(.func (.func 29) #[] #[(.pointer (some z26)),(.pointer (some z27)),(.pointer (some z2d))])]) (h : yJ n zS z1v z1k = some r)
  (hown : Hp (fps [y14 z1A (Value.int .i64) (Value.int .i64) z1v]) w₀ w₀ [y14 z1A (Value.int .i64) (Value.int .i64) z1v]),Calls Tryd.prog 29 #[(.int .i64 zS),(.pointer (some z26)),(.pointer (some z27)),(.pointer (some z2d))] w₀ fun e w'=>e = .returned (.bool r.1) ∧ Hp (fps [y14 z1A (Value.int .i64) (Value.int .i64) z1v]) w₀ w' [y14 z1A (Value.int .i64) (Value.int .i64) r.2]:=by
 intro n
 induction n with
 | zero=>intro Z z26 z1A z27 z2P z2Q z2d zS z1v z1k r w₀ hz hG1 z37 z4L z4M z6y h hown; cases h
 | succ z8R ih =>
  intro Z z26 z1A z27 z2P z2Q z2d zS z1v z1k r w₀ hz hG1 z37 z4L z4M z6y h hown
  rw [yJ] at h
  refine Calls.y8 (vs:=[(.int .i64 zS),(.pointer (some z26)),(.pointer (some z27)),(.pointer (some z2d))]) (pre:=[y14 z1A (Value.int .i64) (Value.int .i64) z1v]) (env:=[(0,(.int .i64 zS)),(1,(.pointer (some z26))),(2,(.pointer (some z27))),(3,(.pointer (some z2d)))]) Tryd.func29 rfl Tryd.ntmps29 rfl (hown) rfl ?_
  refine WC.b (WC.a (WL.pu rfl (WL.nil (WX.a (WC.b (WC.b (WC.a ?_)))))))
  refine WL.a (d:=12) rfl rfl rfl (y6 y3f rfl (y2F hz.pv z37 rfl)) ?_
  refine WL.pu rfl ?_
  refine WL.a (d:=14) rfl rfl rfl (y6G (k:=zS) (dflt:=(0 : Int)) y3m Tryd.underlying54 y4U rfl rfl rfl .here) ?_
  refine WL.pu rfl (WL.pu rfl (WL.pu rfl (WL.pu rfl (WL.pu rfl (WL.nil (WX.a (WC.b (WC.a (WL.pu rfl (WL.nil (WX.a ?_)))))))))))
  refine WC.cond rfl (fun z8S=>?_) (fun z8S=>?_)
  ·replace h:=ym h z8S
   refine WC.b (WC.a (WL.pu rfl (WL.pu rfl (WL.pu rfl (WL.nil (WX.a (WC.ret (WX.ya ?_))))))))
   obtain rfl:=Option.some.inj h
   refine WX.ye Tryd.results29 (.tmp rfl .nil) (fun w hw=>?_)
   exact ⟨yX rfl,hw.sub (.cons .here .nil)⟩
  ·replace h:=yn h z8S
   refine WC.skip (WX.a (WC.b (WC.a ?_)))
   refine WL.a (d:=20) rfl rfl rfl (y6 y3f rfl (y2F hz.pv z37 rfl)) ?_
   refine WL.pu rfl ?_
   refine WL.yo rfl rfl (y3C (k:=zS) (v:=(-1)) y3m Tryd.underlying54 rfl rfl rfl rfl .here) ?_
   refine WL.nil (WX.a (WC.b (WC.a (WL.pu rfl (WL.nil (WX.a ?_))))))
   obtain ⟨z3V,zkr,h⟩:=y4b h
   refine WC.y39 (fun (z20 : Int) (z2l : List (Int × Int))=>(z3V z20 z2l = some r)) (fun (z20 : Int) (z2l : List (Int × Int))=>[(0,(.int .i64 zS)),(1,(.pointer (some z26))),(2,(.pointer (some z27))),(8,(.int .i64 z20))]) (fun (z20 : Int) (z2l : List (Int × Int))=>[y14 z1A (Value.int .i64) (Value.int .i64) z2l]) ?_ ?_
   ·skip
    refine WC.b ?_
    obtain ⟨z1Z,zks,h⟩:=zh h
    refine WC.a ?_
    refine WL.a (d:=22) rfl rfl rfl (y6 y2M rfl (y2F hz.pv z4M rfl)) ?_
    refine WL.pu rfl ?_
    refine WL.y4C (dd:=24) rfl rfl rfl (zI (l:=[.tmp 22,.tmp 23]) Tryd.call15 (.cons rfl (.cons rfl .nil))) .nil (cc hz .nil fun w pz ho=>y37 _ _ _ _ _ _ zks w pz hG1 z4L) ?_
    rintro zco zcp _
    refine WL.a (d:=25) rfl rfl rfl (y1i Tryd.underlying30 rfl) ?_
    refine WL.pu rfl (WL.nil (WX.a (WC.block ?_)))
    refine WC.y5M (fun (z6z : Nat) (z2p : Int) (z1P : Int) (z2q : List (Int × Int))=>(yL z1Z (yJ z8R) z1k z3V z6z z2p z1P z2q = some r)) (fun (z6z : Nat) (z2p : Int) (z1P : Int) (z2q : List (Int × Int))=>[(0,(.int .i64 zS)),(1,(.pointer (some z26))),(2,(.pointer (some z27))),(3,(.pointer (some z2d))),(8,(.int .i64 z2p)),(24,(.slice zco z1Z.length zcp)),(25,(.int .i64 ((z1Z.length : Nat) : Int))),(26,(.int .i64 z1P))]) (fun (z6z : Nat) (z2p : Int) (z1P : Int) (z2q : List (Int × Int))=>[row (.slice zco z1Z.length zcp) 3 1 (z1Z.flatMap e3),y14 z1A (Value.int .i64) (Value.int .i64) z2q]) (fun (z6z : Nat) (z2p : Int) (z1P : Int) (z2q : List (Int × Int))=>z6z) ⟨y1k,0,0,(yU z1v zS (-1))⟩ h (.cons rfl (.cons rfl (.cons rfl (.cons rfl (.cons rfl (.cons rfl (.cons rfl (.cons rfl .nil)))))))) (.cons .here (.cons .here .nil)) ?_
    rintro z6z z2p z1P z2q h
    obtain ⟨z8Q,rfl⟩:=y3q h
    rw [yL] at h
    refine WC.b (WC.a (WL.pu rfl (WL.nil (WX.a (WC.b ?_)))))
    refine WC.cond rfl (fun z8T=>?_) (fun z8T=>?_)
    ·replace h:=ym h z8T
     refine WC.skip (WX.a (WC.b (WC.block (WC.b ?_))))
     obtain ⟨z6O,h⟩:=y9 h
     refine WC.a ?_
     refine WL.know (fun w hw=>Hp.y3x .here hw (by intro hz'; have:=z6O; rw [hz'] at this; omega)) ?_
     rintro ⟨zmD,rfl⟩
     refine WL.a (d:=28) rfl rfl rfl (yt yu rfl rfl z6O.1 z6O.2 y1D) ?_
     refine WL.a (d:=29) rfl rfl rfl (y6 yf rfl (y1C .here ((y1m (enc:=e3) (l:=z1Z) (i:=z1P) (sz:=1) (fun _=>rfl) z6O.1 z6O.2) 0 _ rfl))) ?_
     refine WL.pu rfl (WL.nil (WX.a (WC.b (WC.b ?_))))
     obtain ⟨z4K,zkt,h⟩:=zh h
     refine WC.a ?_
     refine WL.a (d:=30) rfl rfl rfl (y6 y6f rfl (y2F hz.pv z6y rfl)) ?_
     refine WL.pu rfl ?_
     refine WL.b (dd:=32) rfl rfl rfl (yq (l:=[.tmp 31]) Tryd.call29 rfl (.cons rfl .nil)) (.cons .h1 .nil) (cc hz (.cons .h1 .nil) fun w pz ho=>ih (Z:=_) (z26:=z26) (z1A:=z1A) (z27:=z27) (z2P:=z2P) (z2Q:=z2Q) (z2d:=z2d) (zS:=(nth z1Z z1P)) (z1v:=z2q) (z1k:=z1k) (r:=z4K) w pz hG1 z37 z4L z4M z6y zkt ho) ?_
     refine WL.pu rfl (WL.nil (WX.a ?_))
     refine WC.cond rfl (fun z8U=>?_) (fun z8U=>?_)
     ·replace h:=ym h z8U
      refine WC.b (WC.a (WL.pu rfl (WL.nil (WX.a (WC.ret (WX.ya (WX.yC (WX.ya (WX.ya (WX.yC (WX.ya ?_)))))))))))
      obtain rfl:=Option.some.inj h
      refine WX.ye Tryd.results29 (.tmp rfl .nil) (fun w hw=>?_)
      exact ⟨yX rfl,hw.sub (.cons .here .nil)⟩
     ·replace h:=yn h z8U
      refine WC.skip (WX.a (WC.a (WL.pu rfl ?_)))
      refine WL.a (d:=35) rfl rfl rfl (y6 y3f rfl (y2F hz.pv z37 rfl)) ?_
      refine WL.pu rfl ?_
      refine WL.a (d:=37) rfl rfl rfl (y5U (k:=(nth z1Z z1P)) (dflt:=(0 : Int)) y3m Tryd.underlying54 y4U rfl rfl rfl .here) ?_
      refine WL.a (d:=38) rfl rfl rfl (q_max rfl rfl rfl) ?_
      refine WL.pu rfl (WL.nil (WX.yi (WX.a (WC.a (WL.pu rfl (WL.pu rfl (WL.nil ?_)))))))
      exact WX.round (G:=Nat × Int × Int × (List (Int × Int))) ⟨z8Q,(max z2p (y1F z4K.2 (nth z1Z z1P) 0)),(i64 (z1P + 1)),z4K.2⟩ h (Nat.lt_succ_self _) (.cons rfl (.cons rfl (.cons rfl (.cons rfl (.cons rfl (.cons rfl (.cons rfl (.cons rfl .nil)))))))) (.cons .h1 (.cons .here .nil))
    ·replace h:=yn h z8T
     refine WC.exit (WX.yx (WX.yx (WX.y1h ?_)))
     exact WX.mid (G:=Int × (List (Int × Int))) ⟨z2p,z2q⟩ h (.cons rfl (.cons rfl (.cons rfl (.cons rfl .nil)))) (.cons .h1 .nil)
   ·rintro z20 z2l h
    replace h:=(zkr z20 z2l).symm.trans h
    refine WC.b (WC.a ?_)
    refine WL.a (d:=40) rfl rfl rfl (y6 y3f rfl (y2F hz.pv z37 rfl)) ?_
    refine WL.pu rfl (WL.pu rfl (WL.pu rfl ?_))
    refine WL.yo rfl rfl (y3C (k:=zS) (v:=i64 (z20 + 1)) y3m Tryd.underlying54 rfl rfl rfl rfl .here) ?_
    refine WL.nil (WX.a ?_)
    obtain ⟨z5e,zku,h⟩:=y2G h
    refine WC.y2y (fun (z36 : List (Int × Int))=>(z5e z36 = some r)) (fun (z36 : List (Int × Int))=>[]) (fun (z36 : List (Int × Int))=>[y14 z1A (Value.int .i64) (Value.int .i64) z36]) ?_ ?_
    ·skip
     refine WC.b ?_
     obtain ⟨zkv,h⟩:=y9 h
     refine WC.a ?_
     refine WL.a (d:=44) rfl rfl rfl (y6 y2M rfl (y2F hz.pv z4M rfl)) ?_
     refine WL.pu rfl ?_
     refine WL.znth (dd:=46) rfl rfl (Z:=Z) (Pr:=(fun r x=>r = e33 x)) y2s rfl rfl z4L zkv ?_
     rintro zmE zmF zkw zmG rfl
     refine WL.a (d:=47) rfl rfl rfl (y4 y31 rfl rfl) ?_
     refine WL.a (d:=48) rfl rfl rfl (y6 yN rfl (y4F hz.pv zkw rfl)) ?_
     refine WL.pu rfl (WL.nil (WX.a ?_))
     refine WC.cond rfl (fun z8V=>?_) (fun z8V=>?_)
     ·replace h:=ym h z8V
      obtain ⟨zkx,h⟩:=y9 h
      refine WC.y1a (fun i=>[9].contains i) [] rfl ?_
      refine WD.e (i:=0) (d:=50) (by kernel_rfl) rfl z1 z2 rfl rfl rfl (y6 y3f rfl (y2F hz.pv z37 rfl)) ?_
      refine WD.a (i:=1) (d:=51) (by kernel_rfl) rfl z1 z2 rfl rfl rfl (fun _=>q_m rfl) ?_
      refine WD.a (i:=2) (d:=52) (by kernel_rfl) rfl z1 z2 rfl rfl rfl (fun _=>q_m rfl) ?_
      refine WD.e (i:=3) (d:=53) (by kernel_rfl) rfl z1 z2 rfl rfl rfl (y6 y2M rfl (y2F hz.pv z4M rfl)) ?_
      refine WD.a (i:=4) (d:=54) (by kernel_rfl) rfl z1 z2 rfl rfl rfl (fun _=>q_m rfl) ?_
      refine WD.znth (j:=5) (dd:=55) (by kernel_rfl) rfl z1 z2 rfl rfl (Z:=Z) (Pr:=(fun r x=>r = e33 x)) y2s rfl rfl z4L zkx ?_
      rintro zmH zmI zky zmJ rfl
      refine WD.a (i:=6) (d:=56) (by kernel_rfl) rfl z1 z2 rfl rfl rfl (fun _=>y4 y1b rfl rfl) ?_
      refine WD.e (i:=7) (d:=57) (by kernel_rfl) rfl z1 z2 rfl rfl rfl (y6 yf rfl (y4F hz.pv zky rfl)) ?_
      refine WD.a (i:=8) (d:=58) (by kernel_rfl) rfl z1 z2 rfl rfl rfl (fun _=>q_add rfl rfl rfl) ?_
      refine WD.y2p (i:=9) rfl (by kernel_rfl) rfl rfl rfl (by kernel_rfl) (y3C (k:=zS) (v:=i64 (z20 + ((nth z1k zS).fA))) y3m Tryd.underlying54 rfl rfl rfl rfl .here) ?_
      refine WD.done (by kernel_rfl) ?_
      exact WX.mid (G:=(List (Int × Int))) (yU (yU z2l zS (i64 (z20 + 1))) zS (i64 (z20 + ((nth z1k zS).fA)))) h .nil (.cons .here .nil)
     ·replace h:=yn h z8V
      refine WC.skip ?_
      exact WX.mid (G:=(List (Int × Int))) (yU z2l zS (i64 (z20 + 1))) h .nil (.cons .here .nil)
    ·rintro z36 h
     replace h:=(zku z36).symm.trans h
     refine WC.b (WC.a (WL.pu rfl (WL.nil (WX.a (WC.ret ?_)))))
     obtain rfl:=Option.some.inj h
     refine WX.ye Tryd.results29 (.tmp rfl .nil) (fun w hw=>?_)
     exact ⟨yX rfl,hw.sub (.cons .here .nil)⟩
theorem y54 (Z : Zp) (z26 : Addr) (z1A : Nat) (z27 : Addr) (z2P : Option Addr) (z2Q : Nat) (z2d : Addr) (zS : Int) (z1v : List (Int × Int)) (z1k : List Sapi_Ins) (r : Bool × (List (Int × Int))) (w₀ : World) (hz : PZ (fps [y14 z1A (Value.int .i64) (Value.int .i64) z1v]) w₀ Z)
  (hG1 : ZS Z 1 (p74 Z) (some ⟨1,0,none⟩) 26 y18)
  (z37 : ZC Z z26 [(.map (some z1A))])
  (z4L : ZS Z 4 (fun r x=>r = e33 x) z2P z2Q z1k)
  (z4M : ZC Z z27 [(.slice z2P z1k.length z2Q)])
  (z6y : ZC Z z2d [(.func (.func 29) #[] #[(.pointer (some z26)),(.pointer (some z27)),(.pointer (some z2d))])]) (h : y2J zS z1v z1k = some r)
  (hown : Hp (fps [y14 z1A (Value.int .i64) (Value.int .i64) z1v]) w₀ w₀ [y14 z1A (Value.int .i64) (Value.int .i64) z1v]) : Calls Tryd.prog 29 #[(.int .i64 zS),(.pointer (some z26)),(.pointer (some z27)),(.pointer (some z2d))] w₀ fun e w'=>e = .returned (.bool r.1) ∧ Hp (fps [y14 z1A (Value.int .i64) (Value.int .i64) z1v]) w₀ w' [y14 z1A (Value.int .i64) (Value.int .i64) r.2]:=y4n y1k Z z26 z1A z27 z2P z2Q z2d zS z1v z1k r w₀ hz hG1 z37 z4L z4M z6y h hown
def y11 (z2h : List Sapi_Ins) (z2m : Int) : Option (Int × Bool) :=
 (y1t z2h).bind fun z7B=>if ((!z7B) || (decide (z2m < 0))) || (decide (z2m > ((z2h.length : Nat) : Int))) then some (0,false) else (y2J z2m (yU ([] : List (Int × Int)) ((z2h.length : Nat) : Int) 0) z2h).bind fun z7C=>if !z7C.1 then some (0,false) else some ((y1F z7C.2 z2m 0),true)
set_option maxRecDepth 20000 in
theorem y25 (Z : Zp) (z6A : Option Addr) (z6B : Nat) (z2h : List Sapi_Ins) (z2m : Int) (r : Int × Bool)
  (h : y11 z2h z2m = some r) (w₀ : World) (hz : PZ [] w₀ Z)
  (hG1 : ZS Z 1 (p74 Z) (some ⟨1,0,none⟩) 26 y18)
  (zcq : ZS Z 4 (fun r x=>r = e33 x) z6A z6B z2h) :
  Calls Tryd.prog 13 #[(.slice z6A z2h.length z6B),(.int .i64 z2m)] w₀ fun e w'=>e = .returned (.tuple #[(.int .i64 r.1),(.bool r.2)]) ∧ Hp [] w₀ w' []:=by
 unfold y11 at h
 refine Calls.y8 (vs:=[(.slice z6A z2h.length z6B),(.int .i64 z2m)]) (pre:=[]) (env:=[(0,(.slice z6A z2h.length z6B)),(1,(.int .i64 z2m))]) Tryd.func13 rfl Tryd.ntmps13 rfl (Hp.nil w₀ _) rfl ?_
 refine WC.b (WC.a ?_)
 refine WL.new (dd:=2) rfl rfl rfl (y3v (cs:=[(.slice z6A z2h.length z6B)]) rfl rfl) ?_
 intro zkz _
 refine WL.pu rfl (WL.pu rfl (WL.nil (WX.a (WC.b (WC.b ?_)))))
 obtain ⟨z7B,zkA,h⟩:=zh h
 refine WC.a ?_
 refine WL.a (d:=8) rfl rfl rfl (y6 y2M rfl (yc .here rfl)) ?_
 refine WL.b (dd:=9) rfl rfl rfl (zI (l:=[.tmp 8]) Tryd.call14 (.cons rfl .nil)) .nil (cc hz .nil fun w pz ho=>y3o _ _ _ _ _ zkA w pz hG1 zcq) ?_
 refine WL.pu rfl (WL.pu rfl ?_)
 refine WL.seg false 2 11 (B:=(!z7B) || (decide (z2m < 0))) rfl rfl rfl rfl rfl rfl (fun h=>(or_l h).symm) (fun _ zkB=>?_) ?_
 ·skip
  refine WL.pu rfl (WL.pu rfl (WL.pu rfl ?_))
  exact WL.yz (or_r zkB) rfl rfl .all
 refine WL.pu rfl ?_
 refine WL.seg false 4 15 (B:=((!z7B) || (decide (z2m < 0))) || (decide (z2m > ((z2h.length : Nat) : Int)))) rfl rfl rfl rfl rfl rfl (fun h=>(or_l h).symm) (fun _ zkC=>?_) ?_
 ·skip
  refine WL.pu rfl ?_
  refine WL.a (d:=17) rfl rfl rfl (y6 y2M rfl (yc .here rfl)) ?_
  refine WL.a (d:=18) rfl rfl rfl (y1i Tryd.underlying22 rfl) ?_
  refine WL.pu rfl (WL.pu rfl ?_)
  exact WL.yz (or_r zkC) rfl rfl .all
 refine WL.nil (WX.a ?_)
 refine WC.cond rfl (fun z8W=>?_) (fun z8W=>?_)
 ·replace h:=ym h z8W
  refine WC.b (WC.a (WL.pu rfl (WL.pu rfl (WL.nil (WX.a (WC.ret (WX.ya ?_)))))))
  obtain rfl:=Option.some.inj h
  refine WX.ye Tryd.results13 (.tmp rfl (.tmp rfl .nil)) (fun w hw=>?_)
  exact ⟨ret2 rfl rfl,hw.sub .nil⟩
 ·replace h:=yn h z8W
  refine WC.skip (WX.a (WC.b (WC.a ?_)))
  refine WL.new (dd:=21) rfl rfl rfl (y6E (Value.int .i64) (Value.int .i64)) ?_
  intro zkD _
  refine WL.a (d:=22) rfl rfl rfl (y6 y2M rfl (yc .h1 rfl)) ?_
  refine WL.a (d:=23) rfl rfl rfl (y1i Tryd.underlying22 rfl) ?_
  refine WL.yo rfl rfl (e_insert (k:=((z2h.length : Nat) : Int)) (v:=0) y3m Tryd.underlying54 rfl rfl rfl rfl .here) ?_
  refine WL.pu rfl ?_
  refine WL.new (dd:=6) rfl rfl rfl (yA (cs:=[(.map none)]) zeroT_54 rfl) ?_
  intro zkE _
  refine WL.yo rfl rfl (yy sizT_54 rfl rfl rfl .here rfl rfl rfl) ?_
  refine WL.nil (WX.a (WC.b (WC.a ?_)))
  refine WL.new (dd:=7) rfl rfl rfl (yA (cs:=[.nilFunc]) zeroT_55 rfl) ?_
  intro zkF _
  refine WL.nil (WX.a (WC.b (WC.a ?_)))
  refine WL.a (d:=25) rfl rfl rfl (y59 (Eos.caps (l:=[.tmp 6,.tmp 2,.tmp 7]) (.cons rfl (.cons rfl (.cons rfl .nil))))) ?_
  refine WL.yo rfl rfl (yy sizT_55 rfl rfl rfl .here rfl rfl rfl) ?_
  refine WL.nil (WX.a (WC.b (WC.b ?_)))
  obtain ⟨z7C,zkG,h⟩:=zh h
  refine WC.a ?_
  refine WL.a (d:=26) rfl rfl rfl (y6 y6f rfl (yc .here rfl)) ?_
  refine WL.pu rfl ?_
  refine WL.b (dd:=28) rfl rfl rfl (yq (l:=[.tmp 27]) Tryd.call29 rfl (.cons rfl .nil)) (.cons .h2 .nil) (ccl hz (.cons .h2 .nil) (.cons .h1 (.cons .h1 (.cons .here .nil))) fun w pz ho la=>y54 (Z:=_) (z26:=⟨zkE,0,none⟩) (z1A:=zkD) (z27:=⟨zkz,0,none⟩) (z2P:=z6A) (z2Q:=z6B) (z2d:=⟨zkF,0,none⟩) (zS:=z2m) (z1v:=(yU ([] : List (Int × Int)) ((z2h.length : Nat) : Int) 0)) (z1k:=z2h) (r:=z7C) w pz ((hG1.mono (Zle.left _ _)).weak (fun _ _ h=>yE (Zle.left _ _) h)) ((la _ (.head _) _).stb) (zcq.mono (Zle.left _ _)) ((la _ (.tail _ (.head _)) _).stb) ((la _ (.tail _ (.tail _ (.head _))) _).stb) zkG ho) ?_
  refine WL.pu rfl (WL.nil (WX.a ?_))
  refine WC.cond rfl (fun z8X=>?_) (fun z8X=>?_)
  ·replace h:=ym h z8X
   refine WC.b (WC.a (WL.pu rfl (WL.pu rfl (WL.nil (WX.a (WC.ret (WX.ya ?_)))))))
   obtain rfl:=Option.some.inj h
   refine WX.ye Tryd.results13 (.tmp rfl (.tmp rfl .nil)) (fun w hw=>?_)
   exact ⟨ret2 rfl rfl,hw.sub .nil⟩
  ·replace h:=yn h z8X
   refine WC.skip (WX.a (WC.b (WC.a ?_)))
   refine WL.a (d:=30) rfl rfl rfl (y6 y3f rfl (yc .h2 rfl)) ?_
   refine WL.pu rfl ?_
   refine WL.a (d:=32) rfl rfl rfl (y5U (k:=z2m) (dflt:=(0 : Int)) y3m Tryd.underlying54 y4U rfl rfl rfl .here) ?_
   refine WL.pu rfl (WL.pu rfl (WL.nil (WX.a (WC.ret ?_))))
   obtain rfl:=Option.some.inj h
   refine WX.ye Tryd.results13 (.tmp rfl (.tmp rfl .nil)) (fun w hw=>?_)
   exact ⟨ret2 rfl rfl,hw.sub .nil⟩
def y1l (z29 : List Int) (z2e : List Int) (z3W : Option Bool) : Nat → Int → Option Bool
 | 0,_=>none
 | z8Y + 1,z22=>if decide (z22 < ((z29.length : Nat) : Int)) then chk ((0 : Int) ≤ z22 ∧ z22 < ((z29.length : Nat) : Int)) (chk ((0 : Int) ≤ z22 ∧ z22 < ((z2e.length : Nat) : Int)) (if decide ((nth z29 z22) ≠ (nth z2e z22)) then some false else y1l z29 z2e z3W z8Y (i64 (z22 + 1)))) else z3W
theorem y3t {n : Nat} {z29 : List Int} {z2e : List Int} {z3W : Option Bool} {z22 : Int} {r : Bool} (h : y1l z29 z2e z3W n z22 = some r) : ∃ m,n = m + 1:=by
 cases n with
 | zero=>cases h
 | succ m=>exact ⟨m,rfl⟩
def y2W (z29 : List Int) (z2e : List Int) : Option Bool :=
 if decide (((z29.length : Nat) : Int) ≠ ((z2e.length : Nat) : Int)) then some false else jp0 (some true) fun z3W=>y1l z29 z2e z3W y1k 0
set_option maxRecDepth 20000 in
theorem y5f (Z : Zp) (z6P : Option Addr) (z6Q : Nat) (z6R : Option Addr) (z6S : Nat) (z29 : List Int) (z2e : List Int) (r : Bool)
  (h : y2W z29 z2e = some r) (w₀ : World) (hz : PZ [] w₀ Z)
  (zkH : ZS Z 1 (fun r x=>r = e5 x) z6P z6Q z29)
  (zkI : ZS Z 1 (fun r x=>r = e5 x) z6R z6S z2e) :
  Calls Tryd.prog 22 #[(.slice z6P z29.length z6Q),(.slice z6R z2e.length z6S)] w₀ fun e w'=>e = .returned (.bool r) ∧ Hp [] w₀ w' []:=by
 unfold y2W at h
 refine Calls.y8 (vs:=[(.slice z6P z29.length z6Q),(.slice z6R z2e.length z6S)]) (pre:=[]) (env:=[(0,(.slice z6P z29.length z6Q)),(1,(.slice z6R z2e.length z6S))]) Tryd.func22 rfl Tryd.ntmps22 rfl (Hp.nil w₀ _) rfl ?_
 refine WC.b (WC.a (WL.pu rfl (WL.nil (WX.a (WC.b (WC.b (WC.a (WL.pu rfl ?_))))))))
 refine WL.a (d:=7) rfl rfl rfl (y1i Tryd.underlying35 rfl) ?_
 refine WL.pu rfl ?_
 refine WL.a (d:=9) rfl rfl rfl (y1i Tryd.underlying35 rfl) ?_
 refine WL.pu rfl (WL.nil (WX.a ?_))
 refine WC.cond rfl (fun z8Z=>?_) (fun z8Z=>?_)
 ·replace h:=ym h z8Z
  refine WC.b (WC.a (WL.pu rfl (WL.nil (WX.a (WC.ret (WX.ya ?_))))))
  obtain rfl:=Option.some.inj h
  refine WX.ye Tryd.results22 (.tmp rfl .nil) (fun w hw=>?_)
  exact ⟨yX rfl,hw.sub .nil⟩
 ·replace h:=yn h z8Z
  refine WC.skip (WX.a ?_)
  obtain ⟨z3W,zkJ,h⟩:=y3k h
  refine WC.y2S ((z3W = some r)) ([]) ([]) ?_ ?_
  ·skip
   refine WC.b (WC.a (WL.pu rfl (WL.nil (WX.a (WC.block ?_)))))
   refine WC.y48 (fun (z6C : Nat) (z22 : Int)=>(y1l z29 z2e z3W z6C z22 = some r)) (fun (z6C : Nat) (z22 : Int)=>[(0,(.slice z6P z29.length z6Q)),(1,(.slice z6R z2e.length z6S)),(5,(.int .i64 z22))]) (fun (z6C : Nat) (z22 : Int)=>[]) (fun (z6C : Nat) (z22 : Int)=>z6C) ⟨y1k,0⟩ h (.cons rfl (.cons rfl (.cons rfl .nil))) .nil ?_
   rintro z6C z22 h
   obtain ⟨z8Y,rfl⟩:=y3t h
   rw [y1l] at h
   refine WC.b (WC.b (WC.a (WL.pu rfl (WL.pu rfl ?_))))
   refine WL.a (d:=13) rfl rfl rfl (y1i Tryd.underlying35 rfl) ?_
   refine WL.pu rfl (WL.nil (WX.a ?_))
   refine WC.cond rfl (fun z90=>?_) (fun z90=>?_)
   ·replace h:=ym h z90
    refine WC.skip (WX.a (WC.b (WC.block (WC.b ?_))))
    obtain ⟨zkK,h⟩:=y9 h
    obtain ⟨zkL,h⟩:=y9 h
    refine WC.y1a (fun i=>[].contains i) [] rfl ?_
    refine WD.a (i:=0) (d:=17) (by kernel_rfl) rfl z1 z2 rfl rfl rfl (fun _=>q_m rfl) ?_
    refine WD.a (i:=1) (d:=18) (by kernel_rfl) rfl z1 z2 rfl rfl rfl (fun _=>q_m rfl) ?_
    refine WD.znth (j:=2) (dd:=19) (by kernel_rfl) rfl z1 z2 rfl rfl (Z:=Z) (Pr:=(fun r x=>r = e5 x)) y2g rfl rfl zkH zkK ?_
    rintro zmK zmL zkM zmM rfl
    refine WD.e (i:=3) (d:=20) (by kernel_rfl) rfl z1 z2 rfl rfl rfl (y6 yN rfl (y2F hz.pv zkM rfl)) ?_
    refine WD.a (i:=4) (d:=21) (by kernel_rfl) rfl z1 z2 rfl rfl rfl (fun _=>q_m rfl) ?_
    refine WD.a (i:=5) (d:=22) (by kernel_rfl) rfl z1 z2 rfl rfl rfl (fun _=>q_m rfl) ?_
    refine WD.znth (j:=6) (dd:=23) (by kernel_rfl) rfl z1 z2 rfl rfl (Z:=Z) (Pr:=(fun r x=>r = e5 x)) y2g rfl rfl zkI zkL ?_
    rintro zmN zmO zkN zmP rfl
    refine WD.e (i:=7) (d:=24) (by kernel_rfl) rfl z1 z2 rfl rfl rfl (y6 yN rfl (y2F hz.pv zkN rfl)) ?_
    refine WD.a (i:=8) (d:=25) (by kernel_rfl) rfl z1 z2 rfl rfl rfl (fun _=>q_neq rfl rfl) ?_
    refine WD.done (by kernel_rfl) ?_
    refine WX.a ?_
    refine WC.cond rfl (fun z91=>?_) (fun z91=>?_)
    ·replace h:=ym h z91
     refine WC.b (WC.a (WL.pu rfl (WL.nil (WX.a (WC.ret (WX.yC (WX.ya (WX.ya (WX.yC (WX.ya ?_))))))))))
     obtain rfl:=Option.some.inj h
     refine WX.ye Tryd.results22 (.tmp rfl .nil) (fun w hw=>?_)
     exact ⟨yX rfl,hw.sub .nil⟩
    ·replace h:=yn h z91
     refine WC.skip (WX.yi (WX.a (WC.a (WL.pu rfl (WL.pu rfl (WL.pu rfl (WL.nil ?_)))))))
     exact WX.round (G:=Nat × Int) ⟨z8Y,(i64 (z22 + 1))⟩ h (Nat.lt_succ_self _) (.cons rfl (.cons rfl (.cons rfl .nil))) .nil
   ·replace h:=yn h z90
    refine WC.exit (WX.yx (WX.yx (WX.y1h ?_)))
    exact WX.mid (G:=Unit) () h .nil .nil
  ·rintro  h
   replace h:=zkJ.symm.trans h
   refine WC.b (WC.a (WL.pu rfl (WL.nil (WX.a (WC.ret ?_)))))
   obtain rfl:=Option.some.inj h
   refine WX.ye Tryd.results22 (.tmp rfl .nil) (fun w hw=>?_)
   exact ⟨yX rfl,hw.sub .nil⟩
def y1n (z1p : Sproc_Act) (z1q : Sproc_Act) : Option Bool :=
 (if ((decide (z1p.fKind = z1q.fKind)) && (decide (z1p.fA = z1q.fA))) && (decide (z1p.fB = z1q.fB)) then (y2W z1p.fData z1q.fData).bind fun zcr=>some zcr else some false).bind fun z92=>some z92
set_option maxRecDepth 20000 in
theorem y2m (Z : Zp) (z6T : Option Addr) (z6U : Nat) (z6V : Option Addr) (z6W : Nat) (z1p : Sproc_Act) (z1q : Sproc_Act) (r : Bool)
  (h : y1n z1p z1q = some r) (w₀ : World) (hz : PZ [] w₀ Z)
  (zkO : ZS Z 1 (fun r x=>r = e5 x) z6T z6U z1p.fData)
  (zkP : ZS Z 1 (fun r x=>r = e5 x) z6V z6W z1q.fData) :
  Calls Tryd.prog 19 #[(.agg #[(.int .u8 z1p.fKind),(.int .i64 z1p.fA),(.int .i64 z1p.fB),(.slice z6T z1p.fData.length z6U)]),(.agg #[(.int .u8 z1q.fKind),(.int .i64 z1q.fA),(.int .i64 z1q.fB),(.slice z6V z1q.fData.length z6W)])] w₀ fun e w'=>e = .returned (.bool r) ∧ Hp [] w₀ w' []:=by
 unfold y1n at h
 refine Calls.y8 (vs:=[(.agg #[(.int .u8 z1p.fKind),(.int .i64 z1p.fA),(.int .i64 z1p.fB),(.slice z6T z1p.fData.length z6U)]),(.agg #[(.int .u8 z1q.fKind),(.int .i64 z1q.fA),(.int .i64 z1q.fB),(.slice z6V z1q.fData.length z6W)])]) (pre:=[]) (env:=[(0,(.agg #[(.int .u8 z1p.fKind),(.int .i64 z1p.fA),(.int .i64 z1p.fB),(.slice z6T z1p.fData.length z6U)])),(1,(.agg #[(.int .u8 z1q.fKind),(.int .i64 z1q.fA),(.int .i64 z1q.fB),(.slice z6V z1q.fData.length z6W)]))]) Tryd.func19 rfl Tryd.ntmps19 rfl (Hp.nil w₀ _) rfl ?_
 refine WC.b (WC.a ?_)
 refine WL.new (dd:=2) rfl rfl rfl (y3v (cs:=[(.int .u8 z1p.fKind),(.int .i64 z1p.fA),(.int .i64 z1p.fB),(.slice z6T z1p.fData.length z6U)]) rfl rfl) ?_
 intro zmQ _
 refine WL.new (dd:=3) rfl rfl rfl (y3v (cs:=[(.int .u8 z1q.fKind),(.int .i64 z1q.fA),(.int .i64 z1q.fB),(.slice z6V z1q.fData.length z6W)]) rfl rfl) ?_
 intro zmR _
 refine WL.pu rfl (WL.nil (WX.a (WC.b ?_)))
 obtain ⟨z92,zcs,h⟩:=zh h
 refine WC.a ?_
 refine WL.a (d:=5) rfl rfl rfl (y4 y5o rfl rfl) ?_
 refine WL.a (d:=6) rfl rfl rfl (y6 yN rfl (yc .h1 rfl)) ?_
 refine WL.a (d:=7) rfl rfl rfl (y4 y5o rfl rfl) ?_
 refine WL.a (d:=8) rfl rfl rfl (y6 yN rfl (yc .here rfl)) ?_
 refine WL.pu rfl (WL.pu rfl ?_)
 refine WL.seg true 5 10 (B:=(decide (z1p.fKind = z1q.fKind)) && (decide (z1p.fA = z1q.fA))) rfl rfl rfl rfl rfl rfl (fun h=>(y2w h).symm) (fun _ zkQ=>?_) ?_
 ·skip
  refine WL.a (d:=11) rfl rfl rfl (y4 y6g rfl rfl) ?_
  refine WL.a (d:=12) rfl rfl rfl (y6 yf rfl (yc .h1 rfl)) ?_
  refine WL.a (d:=13) rfl rfl rfl (y4 y6g rfl rfl) ?_
  refine WL.a (d:=14) rfl rfl rfl (y6 yf rfl (yc .here rfl)) ?_
  refine WL.pu rfl (WL.pu rfl ?_)
  exact WL.yz (y2x zkQ) rfl rfl .all
 refine WL.pu rfl ?_
 refine WL.seg true 5 17 (B:=((decide (z1p.fKind = z1q.fKind)) && (decide (z1p.fA = z1q.fA))) && (decide (z1p.fB = z1q.fB))) rfl rfl rfl rfl rfl rfl (fun h=>(y2w h).symm) (fun _ zkR=>?_) ?_
 ·skip
  refine WL.a (d:=18) rfl rfl rfl (y4 y6h rfl rfl) ?_
  refine WL.a (d:=19) rfl rfl rfl (y6 yf rfl (yc .h1 rfl)) ?_
  refine WL.a (d:=20) rfl rfl rfl (y4 y6h rfl rfl) ?_
  refine WL.a (d:=21) rfl rfl rfl (y6 yf rfl (yc .here rfl)) ?_
  refine WL.pu rfl (WL.pu rfl ?_)
  exact WL.yz (y2x zkR) rfl rfl .all
 refine WL.pu rfl ?_
 refine WL.seg true 5 24 (B:=z92) rfl rfl rfl rfl rfl rfl (fun h=>(Option.some.inj (yn zcs h)).symm) (fun _ zkS=>?_) ?_
 ·skip
  have z6X:=ym zcs zkS
  obtain ⟨zcr,zkT,z6X⟩:=zh z6X
  replace z6X:=Option.some.inj z6X
  refine WL.a (d:=25) rfl rfl rfl (y4 y6i rfl rfl) ?_
  refine WL.a (d:=26) rfl rfl rfl (y6 y4T rfl (yc .h1 rfl)) ?_
  refine WL.a (d:=27) rfl rfl rfl (y4 y6i rfl rfl) ?_
  refine WL.a (d:=28) rfl rfl rfl (y6 y4T rfl (yc .here rfl)) ?_
  refine WL.b (dd:=29) rfl rfl rfl (zI (l:=[.tmp 26,.tmp 28]) Tryd.call22 (.cons rfl (.cons rfl .nil))) .nil (cc hz .nil fun w pz ho=>y5f _ _ _ _ _ _ _ _ zkT w pz zkO zkP) ?_
  refine WL.pu rfl ?_
  exact WL.yz z6X rfl rfl .all
 refine WL.pu rfl (WL.nil (WX.a (WC.ret ?_)))
 obtain rfl:=Option.some.inj h
 refine WX.ye Tryd.results19 (.tmp rfl .nil) (fun w hw=>?_)
 exact ⟨yX rfl,hw.sub .nil⟩
end Go.Proofs.YtjdnejbngloieaaDoor
