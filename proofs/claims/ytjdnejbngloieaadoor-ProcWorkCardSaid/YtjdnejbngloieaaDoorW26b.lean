/- A part of this claim's proof: models of functions, walks, plain laws. No conditions. -/
import Derived.Test.YtjdnejbngloieaaDoorW26a
namespace Go.Proofs.YtjdnejbngloieaaDoor
open Go Go.RowKit Sep
set_option linter.all false
set_option maxRecDepth 30000
set_option maxHeartbeats 4000000
def y1L (zd : Sproc_execution) : Option Sproc_execution :=
 (yc zd zd.fX.fA).bind fun zfS=>chk ((0 : Int) ≤ zd.fX.fA ∧ zd.fX.fA < 4) ((yc zd zd.fX.fB).bind fun zfT=>chk ((0 : Int) ≤ zd.fX.fB ∧ zd.fX.fB < 4) (if decide ((nth ([zd.fState.fRegs.a0,zd.fState.fRegs.a1,zd.fState.fRegs.a2,zd.fState.fRegs.a3] : List Int) zd.fX.fA) < (nth ([zd.fState.fRegs.a0,zd.fState.fRegs.a1,zd.fState.fRegs.a2,zd.fState.fRegs.a3] : List Int) zd.fX.fB)) then some (⟨(⟨zd.fX.fC,zd.fState.fLeft,zd.fState.fRegs⟩ : Sproc_State),zd.fX,zd.fMem,zd.fAct⟩ : Sproc_execution) else some zd))
set_option maxRecDepth 20000 in
theorem y40 (Z : Zp) (z3J : Nat) (z3K : Option Addr) (z3L : Nat) (z3M : Option Addr) (z3N : Nat) (zd : Sproc_execution) (r : Sproc_execution)
  (h : y1L zd = some r) (w₀ : World) (hz : PZ (fps [stb z3J 65 [(.int .i64 zd.fState.fPc),(.int .i64 zd.fState.fLeft),(.int .u8 zd.fState.fRegs.a0),(.int .u8 zd.fState.fRegs.a1),(.int .u8 zd.fState.fRegs.a2),(.int .u8 zd.fState.fRegs.a3),(.int .u8 zd.fX.fOp),(.int .i64 zd.fX.fA),(.int .i64 zd.fX.fB),(.int .i64 zd.fX.fC),(.slice z3K zd.fMem.length z3L),(.int .u8 zd.fAct.fKind),(.int .i64 zd.fAct.fA),(.int .i64 zd.fAct.fB),(.slice z3M zd.fAct.fData.length z3N)]]) w₀ Z)
  (z7y : ZS Z 1 (fun r x=>r = e5 x) z3K z3L zd.fMem)
  (z7z : ZS Z 1 (fun r x=>r = e5 x) z3M z3N zd.fAct.fData)
  (hown : Hp (fps [stb z3J 65 [(.int .i64 zd.fState.fPc),(.int .i64 zd.fState.fLeft),(.int .u8 zd.fState.fRegs.a0),(.int .u8 zd.fState.fRegs.a1),(.int .u8 zd.fState.fRegs.a2),(.int .u8 zd.fState.fRegs.a3),(.int .u8 zd.fX.fOp),(.int .i64 zd.fX.fA),(.int .i64 zd.fX.fB),(.int .i64 zd.fX.fC),(.slice z3K zd.fMem.length z3L),(.int .u8 zd.fAct.fKind),(.int .i64 zd.fAct.fA),(.int .i64 zd.fAct.fB),(.slice z3M zd.fAct.fData.length z3N)]]) w₀ w₀ [stb z3J 65 [(.int .i64 zd.fState.fPc),(.int .i64 zd.fState.fLeft),(.int .u8 zd.fState.fRegs.a0),(.int .u8 zd.fState.fRegs.a1),(.int .u8 zd.fState.fRegs.a2),(.int .u8 zd.fState.fRegs.a3),(.int .u8 zd.fX.fOp),(.int .i64 zd.fX.fA),(.int .i64 zd.fX.fB),(.int .i64 zd.fX.fC),(.slice z3K zd.fMem.length z3L),(.int .u8 zd.fAct.fKind),(.int .i64 zd.fAct.fA),(.int .i64 zd.fAct.fB),(.slice z3M zd.fAct.fData.length z3N)]]) :
  Calls Tryd.prog 104 #[(.pointer (some ⟨z3J,0,none⟩))] w₀ fun e w'=>∃ zbQ : Option Addr,∃ zbR : Nat,∃ zbS : Option Addr,∃ zbT : Nat,e = .returned (.tuple #[]) ∧ ((ZS Z 1 (fun r x=>r = e5 x) zbQ zbR r.fMem) ∧ (ZS Z 1 (fun r x=>r = e5 x) zbS zbT r.fAct.fData)) ∧ Hp (fps [stb z3J 65 [(.int .i64 zd.fState.fPc),(.int .i64 zd.fState.fLeft),(.int .u8 zd.fState.fRegs.a0),(.int .u8 zd.fState.fRegs.a1),(.int .u8 zd.fState.fRegs.a2),(.int .u8 zd.fState.fRegs.a3),(.int .u8 zd.fX.fOp),(.int .i64 zd.fX.fA),(.int .i64 zd.fX.fB),(.int .i64 zd.fX.fC),(.slice z3K zd.fMem.length z3L),(.int .u8 zd.fAct.fKind),(.int .i64 zd.fAct.fA),(.int .i64 zd.fAct.fB),(.slice z3M zd.fAct.fData.length z3N)]]) w₀ w' [stb z3J 65 [(.int .i64 r.fState.fPc),(.int .i64 r.fState.fLeft),(.int .u8 r.fState.fRegs.a0),(.int .u8 r.fState.fRegs.a1),(.int .u8 r.fState.fRegs.a2),(.int .u8 r.fState.fRegs.a3),(.int .u8 r.fX.fOp),(.int .i64 r.fX.fA),(.int .i64 r.fX.fB),(.int .i64 r.fX.fC),(.slice zbQ r.fMem.length zbR),(.int .u8 r.fAct.fKind),(.int .i64 r.fAct.fA),(.int .i64 r.fAct.fB),(.slice zbS r.fAct.fData.length zbT)]]:=by
 unfold y1L at h
 refine Calls.y9 (vs:=[(.pointer (some ⟨z3J,0,none⟩))]) (pre:=[stb z3J 65 [(.int .i64 zd.fState.fPc),(.int .i64 zd.fState.fLeft),(.int .u8 zd.fState.fRegs.a0),(.int .u8 zd.fState.fRegs.a1),(.int .u8 zd.fState.fRegs.a2),(.int .u8 zd.fState.fRegs.a3),(.int .u8 zd.fX.fOp),(.int .i64 zd.fX.fA),(.int .i64 zd.fX.fB),(.int .i64 zd.fX.fC),(.slice z3K zd.fMem.length z3L),(.int .u8 zd.fAct.fKind),(.int .i64 zd.fAct.fA),(.int .i64 zd.fAct.fB),(.slice z3M zd.fAct.fData.length z3N)]]) (env:=[(0,(.pointer (some ⟨z3J,0,none⟩)))]) Tryd.func104 rfl Tryd.ntmps104 rfl (hown) rfl ?_
 refine WC.b ?_
 obtain ⟨zfS,zfU,h⟩:=zh h
 obtain ⟨zfV,h⟩:=ya h
 obtain ⟨zfT,zfW,h⟩:=zh h
 obtain ⟨zfX,h⟩:=ya h
 refine WC.y1n (fun i=>[].contains i) [] rfl ?_
 refine WD.a (i:=0) (d:=2) (by kernel_rfl) rfl z7 z8 rfl rfl rfl (fun _=>q_m rfl) ?_
 refine WD.a (i:=1) (d:=3) (by kernel_rfl) rfl z7 z8 rfl rfl rfl (fun _=>q_m rfl) ?_
 refine WD.a (i:=2) (d:=4) (by kernel_rfl) rfl z7 z8 rfl rfl rfl (fun _=>y7 rfl) ?_
 refine WD.a (i:=3) (d:=5) (by kernel_rfl) rfl z7 z8 rfl rfl rfl (fun _=>y4 yH rfl rfl) ?_
 refine WD.a (i:=4) (d:=6) (by kernel_rfl) rfl z7 z8 rfl rfl rfl (fun _=>y4 y1r rfl rfl) ?_
 refine WD.e (i:=5) (d:=7) (by kernel_rfl) rfl z7 z8 rfl rfl rfl (y6 yg rfl (yb .here rfl)) ?_
 refine WD.c (i:=6) (d:=8) (by kernel_rfl) rfl z7 z8 rfl rfl rfl (zI (l:=[.tmp 2,.tmp 7]) Tryd.call108 (.cons rfl (.cons rfl .nil))) (ccl hz .nil (.cons .here .nil) fun w pz ho la=>yh _ _ _ _ _ _ _ _ _ zfU w pz (z7y.mono (Zle.left _ _)) (z7z.mono (Zle.left _ _)) ((la _ (.head _) _).stb)) ?_
 refine WD.a (i:=7) (d:=9) (by kernel_rfl) rfl z7 z8 rfl rfl rfl (fun _=>y7 rfl) ?_
 refine WD.e (i:=8) (d:=10) (by kernel_rfl) rfl z7 z8 rfl rfl rfl (y6 yS rfl (y20 (l:=([zd.fState.fRegs.a0,zd.fState.fRegs.a1,zd.fState.fRegs.a2,zd.fState.fRegs.a3] : List Int)) (f:=Value.int .u8) (k:=2) (m:=6) .here rfl rfl zfV)) ?_
 refine WD.a (i:=9) (d:=11) (by kernel_rfl) rfl z7 z8 rfl rfl rfl (fun _=>q_m rfl) ?_
 refine WD.a (i:=10) (d:=12) (by kernel_rfl) rfl z7 z8 rfl rfl rfl (fun _=>q_m rfl) ?_
 refine WD.a (i:=11) (d:=13) (by kernel_rfl) rfl z7 z8 rfl rfl rfl (fun _=>y7 rfl) ?_
 refine WD.a (i:=12) (d:=14) (by kernel_rfl) rfl z7 z8 rfl rfl rfl (fun _=>y4 yH rfl rfl) ?_
 refine WD.a (i:=13) (d:=15) (by kernel_rfl) rfl z7 z8 rfl rfl rfl (fun _=>y4 y23 rfl rfl) ?_
 refine WD.e (i:=14) (d:=16) (by kernel_rfl) rfl z7 z8 rfl rfl rfl (y6 yg rfl (yb .here rfl)) ?_
 refine WD.c (i:=15) (d:=17) (by kernel_rfl) rfl z7 z8 rfl rfl rfl (zI (l:=[.tmp 11,.tmp 16]) Tryd.call108 (.cons rfl (.cons rfl .nil))) (ccl hz .nil (.cons .here .nil) fun w pz ho la=>yh _ _ _ _ _ _ _ _ _ zfW w pz (z7y.mono (Zle.left _ _)) (z7z.mono (Zle.left _ _)) ((la _ (.head _) _).stb)) ?_
 refine WD.a (i:=16) (d:=18) (by kernel_rfl) rfl z7 z8 rfl rfl rfl (fun _=>y7 rfl) ?_
 refine WD.e (i:=17) (d:=19) (by kernel_rfl) rfl z7 z8 rfl rfl rfl (y6 yS rfl (y20 (l:=([zd.fState.fRegs.a0,zd.fState.fRegs.a1,zd.fState.fRegs.a2,zd.fState.fRegs.a3] : List Int)) (f:=Value.int .u8) (k:=2) (m:=6) .here rfl rfl zfX)) ?_
 refine WD.a (i:=18) (d:=20) (by kernel_rfl) rfl z7 z8 rfl rfl rfl (fun _=>q_lss rfl rfl) ?_
 refine WD.done (by kernel_rfl) ?_
 refine WX.a ?_
 refine WC.cond rfl (fun z8E=>?_) (fun z8E=>?_)
 ·replace h:=yn h z8E
  refine WC.a (WL.pu rfl (WL.pu rfl ?_))
  refine WL.a (d:=23) rfl rfl rfl (y7 rfl) ?_
  refine WL.a (d:=24) rfl rfl rfl (y4 yH rfl rfl) ?_
  refine WL.a (d:=25) rfl rfl rfl (y4 y3O rfl rfl) ?_
  refine WL.a (d:=26) rfl rfl rfl (y6 yg rfl (yb .here rfl)) ?_
  refine WL.a (d:=27) rfl rfl rfl (y7 rfl) ?_
  refine WL.a (d:=28) rfl rfl rfl (y4 y1j rfl rfl) ?_
  refine WL.a (d:=29) rfl rfl rfl (y4 y1X rfl rfl) ?_
  refine WL.yk rfl rfl (y1p (ds:=[(.int .i64 zd.fX.fC),(.int .i64 zd.fState.fLeft),(.int .u8 zd.fState.fRegs.a0),(.int .u8 zd.fState.fRegs.a1),(.int .u8 zd.fState.fRegs.a2),(.int .u8 zd.fState.fRegs.a3),(.int .u8 zd.fX.fOp),(.int .i64 zd.fX.fA),(.int .i64 zd.fX.fB),(.int .i64 zd.fX.fC),(.slice z3K zd.fMem.length z3L),(.int .u8 zd.fAct.fKind),(.int .i64 zd.fAct.fA),(.int .i64 zd.fAct.fB),(.slice z3M zd.fAct.fData.length z3N)]) y33 rfl rfl rfl rfl rfl .here rfl rfl) ?_
  refine WL.nil ?_
  obtain rfl:=Option.some.inj h
  refine WX.ye Tryd.results104 .nil (fun w hw=>?_)
  exact ⟨z3K,z3L,z3M,z3N,y1b,⟨z7y,z7z⟩,hw.sub (.cons .here .nil)⟩
 ·replace h:=yo h z8E
  refine WC.skip ?_
  obtain rfl:=Option.some.inj h
  refine WX.ye Tryd.results104 .nil (fun w hw=>?_)
  exact ⟨z3K,z3L,z3M,z3N,y1b,⟨z7y,z7z⟩,hw.sub (.cons .here .nil)⟩
def y1U (z1 : Sproc_execution) : Option Sproc_execution :=
 (yc z1 z1.fX.fB).bind fun zfY=>chk ((0 : Int) ≤ z1.fX.fB ∧ z1.fX.fB < 4) (if decide ((nth ([z1.fState.fRegs.a0,z1.fState.fRegs.a1,z1.fState.fRegs.a2,z1.fState.fRegs.a3] : List Int) z1.fX.fB) ≠ 0) then (yc z1 z1.fX.fA).bind fun zfZ=>chk ((0 : Int) ≤ z1.fX.fA ∧ z1.fX.fA < 4) (chk ((nth ([z1.fState.fRegs.a0,z1.fState.fRegs.a1,z1.fState.fRegs.a2,z1.fState.fRegs.a3] : List Int) z1.fX.fB : Int) ≠ 0) (some (⟨(⟨z1.fState.fPc,z1.fState.fLeft,(⟨nth (([z1.fState.fRegs.a0,z1.fState.fRegs.a1,z1.fState.fRegs.a2,z1.fState.fRegs.a3] : List Int).set (z1.fX.fA : Int).toNat (u8 (Int.tdiv (nth ([z1.fState.fRegs.a0,z1.fState.fRegs.a1,z1.fState.fRegs.a2,z1.fState.fRegs.a3] : List Int) z1.fX.fA) (nth ([z1.fState.fRegs.a0,z1.fState.fRegs.a1,z1.fState.fRegs.a2,z1.fState.fRegs.a3] : List Int) z1.fX.fB)))) 0,nth (([z1.fState.fRegs.a0,z1.fState.fRegs.a1,z1.fState.fRegs.a2,z1.fState.fRegs.a3] : List Int).set (z1.fX.fA : Int).toNat (u8 (Int.tdiv (nth ([z1.fState.fRegs.a0,z1.fState.fRegs.a1,z1.fState.fRegs.a2,z1.fState.fRegs.a3] : List Int) z1.fX.fA) (nth ([z1.fState.fRegs.a0,z1.fState.fRegs.a1,z1.fState.fRegs.a2,z1.fState.fRegs.a3] : List Int) z1.fX.fB)))) 1,nth (([z1.fState.fRegs.a0,z1.fState.fRegs.a1,z1.fState.fRegs.a2,z1.fState.fRegs.a3] : List Int).set (z1.fX.fA : Int).toNat (u8 (Int.tdiv (nth ([z1.fState.fRegs.a0,z1.fState.fRegs.a1,z1.fState.fRegs.a2,z1.fState.fRegs.a3] : List Int) z1.fX.fA) (nth ([z1.fState.fRegs.a0,z1.fState.fRegs.a1,z1.fState.fRegs.a2,z1.fState.fRegs.a3] : List Int) z1.fX.fB)))) 2,nth (([z1.fState.fRegs.a0,z1.fState.fRegs.a1,z1.fState.fRegs.a2,z1.fState.fRegs.a3] : List Int).set (z1.fX.fA : Int).toNat (u8 (Int.tdiv (nth ([z1.fState.fRegs.a0,z1.fState.fRegs.a1,z1.fState.fRegs.a2,z1.fState.fRegs.a3] : List Int) z1.fX.fA) (nth ([z1.fState.fRegs.a0,z1.fState.fRegs.a1,z1.fState.fRegs.a2,z1.fState.fRegs.a3] : List Int) z1.fX.fB)))) 3⟩ : S34)⟩ : Sproc_State),z1.fX,z1.fMem,z1.fAct⟩ : Sproc_execution))) else (yz z1 4 0).bind fun z8F=>some z8F)
set_option maxRecDepth 20000 in
theorem y4m (Z : Zp) (z3O : Nat) (z4B : Option Addr) (z4C : Nat) (z4D : Option Addr) (z4E : Nat) (z1 : Sproc_execution) (r : Sproc_execution)
  (h : y1U z1 = some r) (w₀ : World) (hz : PZ (fps [stb z3O 65 [(.int .i64 z1.fState.fPc),(.int .i64 z1.fState.fLeft),(.int .u8 z1.fState.fRegs.a0),(.int .u8 z1.fState.fRegs.a1),(.int .u8 z1.fState.fRegs.a2),(.int .u8 z1.fState.fRegs.a3),(.int .u8 z1.fX.fOp),(.int .i64 z1.fX.fA),(.int .i64 z1.fX.fB),(.int .i64 z1.fX.fC),(.slice z4B z1.fMem.length z4C),(.int .u8 z1.fAct.fKind),(.int .i64 z1.fAct.fA),(.int .i64 z1.fAct.fB),(.slice z4D z1.fAct.fData.length z4E)]]) w₀ Z)
  (z7A : ZS Z 1 (fun r x=>r = e5 x) z4B z4C z1.fMem)
  (z7B : ZS Z 1 (fun r x=>r = e5 x) z4D z4E z1.fAct.fData)
  (hown : Hp (fps [stb z3O 65 [(.int .i64 z1.fState.fPc),(.int .i64 z1.fState.fLeft),(.int .u8 z1.fState.fRegs.a0),(.int .u8 z1.fState.fRegs.a1),(.int .u8 z1.fState.fRegs.a2),(.int .u8 z1.fState.fRegs.a3),(.int .u8 z1.fX.fOp),(.int .i64 z1.fX.fA),(.int .i64 z1.fX.fB),(.int .i64 z1.fX.fC),(.slice z4B z1.fMem.length z4C),(.int .u8 z1.fAct.fKind),(.int .i64 z1.fAct.fA),(.int .i64 z1.fAct.fB),(.slice z4D z1.fAct.fData.length z4E)]]) w₀ w₀ [stb z3O 65 [(.int .i64 z1.fState.fPc),(.int .i64 z1.fState.fLeft),(.int .u8 z1.fState.fRegs.a0),(.int .u8 z1.fState.fRegs.a1),(.int .u8 z1.fState.fRegs.a2),(.int .u8 z1.fState.fRegs.a3),(.int .u8 z1.fX.fOp),(.int .i64 z1.fX.fA),(.int .i64 z1.fX.fB),(.int .i64 z1.fX.fC),(.slice z4B z1.fMem.length z4C),(.int .u8 z1.fAct.fKind),(.int .i64 z1.fAct.fA),(.int .i64 z1.fAct.fB),(.slice z4D z1.fAct.fData.length z4E)]]) :
  Calls Tryd.prog 105 #[(.pointer (some ⟨z3O,0,none⟩))] w₀ fun e w'=>∃ Zn : Zp,∃ zbU : Option Addr,∃ zbV : Nat,∃ zbW : Option Addr,∃ zbX : Nat,e = .returned (.tuple #[]) ∧ ((ZS (Z ++ Zn) 1 (fun r x=>r = e5 x) zbU zbV r.fMem) ∧ (ZS (Z ++ Zn) 1 (fun r x=>r = e5 x) zbW zbX r.fAct.fData)) ∧ Hp (fps [stb z3O 65 [(.int .i64 z1.fState.fPc),(.int .i64 z1.fState.fLeft),(.int .u8 z1.fState.fRegs.a0),(.int .u8 z1.fState.fRegs.a1),(.int .u8 z1.fState.fRegs.a2),(.int .u8 z1.fState.fRegs.a3),(.int .u8 z1.fX.fOp),(.int .i64 z1.fX.fA),(.int .i64 z1.fX.fB),(.int .i64 z1.fX.fC),(.slice z4B z1.fMem.length z4C),(.int .u8 z1.fAct.fKind),(.int .i64 z1.fAct.fA),(.int .i64 z1.fAct.fB),(.slice z4D z1.fAct.fData.length z4E)]]) w₀ w' [fz Zn,stb z3O 65 [(.int .i64 r.fState.fPc),(.int .i64 r.fState.fLeft),(.int .u8 r.fState.fRegs.a0),(.int .u8 r.fState.fRegs.a1),(.int .u8 r.fState.fRegs.a2),(.int .u8 r.fState.fRegs.a3),(.int .u8 r.fX.fOp),(.int .i64 r.fX.fA),(.int .i64 r.fX.fB),(.int .i64 r.fX.fC),(.slice zbU r.fMem.length zbV),(.int .u8 r.fAct.fKind),(.int .i64 r.fAct.fA),(.int .i64 r.fAct.fB),(.slice zbW r.fAct.fData.length zbX)]]:=by
 unfold y1U at h
 refine Calls.y9 (vs:=[(.pointer (some ⟨z3O,0,none⟩))]) (pre:=[stb z3O 65 [(.int .i64 z1.fState.fPc),(.int .i64 z1.fState.fLeft),(.int .u8 z1.fState.fRegs.a0),(.int .u8 z1.fState.fRegs.a1),(.int .u8 z1.fState.fRegs.a2),(.int .u8 z1.fState.fRegs.a3),(.int .u8 z1.fX.fOp),(.int .i64 z1.fX.fA),(.int .i64 z1.fX.fB),(.int .i64 z1.fX.fC),(.slice z4B z1.fMem.length z4C),(.int .u8 z1.fAct.fKind),(.int .i64 z1.fAct.fA),(.int .i64 z1.fAct.fB),(.slice z4D z1.fAct.fData.length z4E)]]) (env:=[(0,(.pointer (some ⟨z3O,0,none⟩)))]) Tryd.func105 rfl Tryd.ntmps105 rfl (hown) rfl ?_
 refine WC.pool (WC.b ?_)
 obtain ⟨zfY,zg0,h⟩:=zh h
 obtain ⟨zg1,h⟩:=ya h
 refine WC.a (WL.pu rfl (WL.pu rfl ?_))
 refine WL.a (d:=5) rfl rfl rfl (y7 rfl) ?_
 refine WL.a (d:=6) rfl rfl rfl (y4 yH rfl rfl) ?_
 refine WL.a (d:=7) rfl rfl rfl (y4 y23 rfl rfl) ?_
 refine WL.a (d:=8) rfl rfl rfl (y6 yg rfl (yb .h1 rfl)) ?_
 refine WL.b (dd:=9) rfl rfl rfl (zI (l:=[.tmp 3,.tmp 8]) Tryd.call108 (.cons rfl (.cons rfl .nil))) .nil (y2c hz .nil .here (.cons .h1 .nil) fun w pz ho la=>yh _ _ _ _ _ _ _ _ _ zg0 w pz ((z7A.mono (Zle.left _ _)).mono (Zle.left _ _)) ((z7B.mono (Zle.left _ _)).mono (Zle.left _ _)) ((la _ (.head _) _).stb)) ?_
 refine WL.a (d:=10) rfl rfl rfl (y7 rfl) ?_
 refine WL.a (d:=11) rfl rfl rfl (y6 yS rfl (y20 (l:=([z1.fState.fRegs.a0,z1.fState.fRegs.a1,z1.fState.fRegs.a2,z1.fState.fRegs.a3] : List Int)) (f:=Value.int .u8) (k:=2) (m:=6) .h1 rfl rfl zg1)) ?_
 refine WL.pu rfl (WL.nil (WX.a (WC.b (WC.a (WL.pu rfl (WL.pu rfl (WL.nil (WX.a ?_))))))))
 refine WC.cond rfl (fun z8G=>?_) (fun z8G=>?_)
 ·replace h:=yn h z8G
  obtain ⟨zfZ,zg2,h⟩:=zh h
  obtain ⟨zbY,h⟩:=ya h
  obtain ⟨zg3,h⟩:=ya h
  refine WC.a (WL.pu rfl (WL.pu rfl ?_))
  refine WL.a (d:=16) rfl rfl rfl (y7 rfl) ?_
  refine WL.a (d:=17) rfl rfl rfl (y4 yH rfl rfl) ?_
  refine WL.a (d:=18) rfl rfl rfl (y4 y1r rfl rfl) ?_
  refine WL.a (d:=19) rfl rfl rfl (y6 yg rfl (yb .h1 rfl)) ?_
  refine WL.b (dd:=20) rfl rfl rfl (zI (l:=[.tmp 14,.tmp 19]) Tryd.call108 (.cons rfl (.cons rfl .nil))) .nil (y2c hz .nil .here (.cons .h1 .nil) fun w pz ho la=>yh _ _ _ _ _ _ _ _ _ zg2 w pz ((z7A.mono (Zle.left _ _)).mono (Zle.left _ _)) ((z7B.mono (Zle.left _ _)).mono (Zle.left _ _)) ((la _ (.head _) _).stb)) ?_
  refine WL.a (d:=21) rfl rfl rfl (y7 rfl) ?_
  refine WL.a (d:=22) rfl rfl rfl (y6 yS rfl (y20 (l:=([z1.fState.fRegs.a0,z1.fState.fRegs.a1,z1.fState.fRegs.a2,z1.fState.fRegs.a3] : List Int)) (f:=Value.int .u8) (k:=2) (m:=6) .h1 rfl rfl zbY)) ?_
  refine WL.pu rfl ?_
  refine WL.a (d:=24) rfl rfl rfl (q_quo rfl rfl zg3 rfl) ?_
  refine WL.a (d:=25) rfl rfl rfl (y7 rfl) ?_
  refine WL.yk rfl rfl (y32 (l:=([z1.fState.fRegs.a0,z1.fState.fRegs.a1,z1.fState.fRegs.a2,z1.fState.fRegs.a3] : List Int)) (f:=Value.int .u8) (u:=u8 (Int.tdiv (nth ([z1.fState.fRegs.a0,z1.fState.fRegs.a1,z1.fState.fRegs.a2,z1.fState.fRegs.a3] : List Int) z1.fX.fA) (nth ([z1.fState.fRegs.a0,z1.fState.fRegs.a1,z1.fState.fRegs.a2,z1.fState.fRegs.a3] : List Int) z1.fX.fB))) (k:=2) (m:=6) (j:=4) (ds:=[(.int .i64 z1.fState.fPc),(.int .i64 z1.fState.fLeft),(.int .u8 (nth (([z1.fState.fRegs.a0,z1.fState.fRegs.a1,z1.fState.fRegs.a2,z1.fState.fRegs.a3] : List Int).set (z1.fX.fA : Int).toNat (u8 (Int.tdiv (nth ([z1.fState.fRegs.a0,z1.fState.fRegs.a1,z1.fState.fRegs.a2,z1.fState.fRegs.a3] : List Int) z1.fX.fA) (nth ([z1.fState.fRegs.a0,z1.fState.fRegs.a1,z1.fState.fRegs.a2,z1.fState.fRegs.a3] : List Int) z1.fX.fB)))) 0)),(.int .u8 (nth (([z1.fState.fRegs.a0,z1.fState.fRegs.a1,z1.fState.fRegs.a2,z1.fState.fRegs.a3] : List Int).set (z1.fX.fA : Int).toNat (u8 (Int.tdiv (nth ([z1.fState.fRegs.a0,z1.fState.fRegs.a1,z1.fState.fRegs.a2,z1.fState.fRegs.a3] : List Int) z1.fX.fA) (nth ([z1.fState.fRegs.a0,z1.fState.fRegs.a1,z1.fState.fRegs.a2,z1.fState.fRegs.a3] : List Int) z1.fX.fB)))) 1)),(.int .u8 (nth (([z1.fState.fRegs.a0,z1.fState.fRegs.a1,z1.fState.fRegs.a2,z1.fState.fRegs.a3] : List Int).set (z1.fX.fA : Int).toNat (u8 (Int.tdiv (nth ([z1.fState.fRegs.a0,z1.fState.fRegs.a1,z1.fState.fRegs.a2,z1.fState.fRegs.a3] : List Int) z1.fX.fA) (nth ([z1.fState.fRegs.a0,z1.fState.fRegs.a1,z1.fState.fRegs.a2,z1.fState.fRegs.a3] : List Int) z1.fX.fB)))) 2)),(.int .u8 (nth (([z1.fState.fRegs.a0,z1.fState.fRegs.a1,z1.fState.fRegs.a2,z1.fState.fRegs.a3] : List Int).set (z1.fX.fA : Int).toNat (u8 (Int.tdiv (nth ([z1.fState.fRegs.a0,z1.fState.fRegs.a1,z1.fState.fRegs.a2,z1.fState.fRegs.a3] : List Int) z1.fX.fA) (nth ([z1.fState.fRegs.a0,z1.fState.fRegs.a1,z1.fState.fRegs.a2,z1.fState.fRegs.a3] : List Int) z1.fX.fB)))) 3)),(.int .u8 z1.fX.fOp),(.int .i64 z1.fX.fA),(.int .i64 z1.fX.fB),(.int .i64 z1.fX.fC),(.slice z4B z1.fMem.length z4C),(.int .u8 z1.fAct.fKind),(.int .i64 z1.fAct.fA),(.int .i64 z1.fAct.fB),(.slice z4D z1.fAct.fData.length z4E)]) y3P rfl rfl rfl rfl .h1 rfl rfl zbY rfl rfl) ?_
  refine WL.nil ?_
  obtain rfl:=Option.some.inj h
  refine WX.ye Tryd.results105 .nil (fun w hw=>?_)
  exact ⟨[],z4B,z4C,z4D,z4E,y1b,⟨(z7A.mono (Zle.left _ _)),(z7B.mono (Zle.left _ _))⟩,hw.sub (.cons .h1 (.cons .here .nil))⟩
 ·replace h:=yo h z8G
  obtain ⟨z8F,zg4,h⟩:=zh h
  refine WC.a (WL.pu rfl ?_)
  refine WL.yj (dd:=27) rfl rfl rfl (zI (l:=[.tmp 26,.const (.int .u8 4),.const (.int .i64 0)]) Tryd.call112 (.cons rfl (.cons rfl (.cons rfl .nil)))) (.cons .h1 .nil) (ccz hz (.cons .h1 .nil) .here fun w pz ho=>y2e _ _ _ _ _ _ _ _ _ _ zg4 w pz (z7A.mono (Zle.left _ _)) (z7B.mono (Zle.left _ _)) ho) ?_
  rintro zg5 zg6 zg7 zg8 zg9
  refine WL.nil ?_
  refine WX.freezeS (ls:=z8F.fAct.fData) .h1 .h1 hz (RR.yM (enc:=e5) (fun _=>rfl) _) ?_
  intro zga zgb zgc
  obtain rfl:=Option.some.inj h
  refine WX.ye Tryd.results105 .nil (fun w hw=>?_)
  exact ⟨zga,zg5,zg6,zg7,zg8,y1b,⟨(zg9.mono zgb),zgc⟩,hw.sub (.cons .here (.cons .here .nil))⟩
def y1y (zu : Sproc_execution) : Option Sproc_execution :=
 (yz zu 3 zu.fX.fA).bind fun zbZ=>some zbZ
set_option maxRecDepth 20000 in
theorem y3J (Z : Zp) (z3P : Nat) (z6x : Option Addr) (z6y : Nat) (z6z : Option Addr) (z6A : Nat) (zu : Sproc_execution) (r : Sproc_execution)
  (h : y1y zu = some r) (w₀ : World) (hz : PZ (fps [stb z3P 65 [(.int .i64 zu.fState.fPc),(.int .i64 zu.fState.fLeft),(.int .u8 zu.fState.fRegs.a0),(.int .u8 zu.fState.fRegs.a1),(.int .u8 zu.fState.fRegs.a2),(.int .u8 zu.fState.fRegs.a3),(.int .u8 zu.fX.fOp),(.int .i64 zu.fX.fA),(.int .i64 zu.fX.fB),(.int .i64 zu.fX.fC),(.slice z6x zu.fMem.length z6y),(.int .u8 zu.fAct.fKind),(.int .i64 zu.fAct.fA),(.int .i64 zu.fAct.fB),(.slice z6z zu.fAct.fData.length z6A)]]) w₀ Z)
  (zgd : ZS Z 1 (fun r x=>r = e5 x) z6x z6y zu.fMem)
  (zge : ZS Z 1 (fun r x=>r = e5 x) z6z z6A zu.fAct.fData)
  (hown : Hp (fps [stb z3P 65 [(.int .i64 zu.fState.fPc),(.int .i64 zu.fState.fLeft),(.int .u8 zu.fState.fRegs.a0),(.int .u8 zu.fState.fRegs.a1),(.int .u8 zu.fState.fRegs.a2),(.int .u8 zu.fState.fRegs.a3),(.int .u8 zu.fX.fOp),(.int .i64 zu.fX.fA),(.int .i64 zu.fX.fB),(.int .i64 zu.fX.fC),(.slice z6x zu.fMem.length z6y),(.int .u8 zu.fAct.fKind),(.int .i64 zu.fAct.fA),(.int .i64 zu.fAct.fB),(.slice z6z zu.fAct.fData.length z6A)]]) w₀ w₀ [stb z3P 65 [(.int .i64 zu.fState.fPc),(.int .i64 zu.fState.fLeft),(.int .u8 zu.fState.fRegs.a0),(.int .u8 zu.fState.fRegs.a1),(.int .u8 zu.fState.fRegs.a2),(.int .u8 zu.fState.fRegs.a3),(.int .u8 zu.fX.fOp),(.int .i64 zu.fX.fA),(.int .i64 zu.fX.fB),(.int .i64 zu.fX.fC),(.slice z6x zu.fMem.length z6y),(.int .u8 zu.fAct.fKind),(.int .i64 zu.fAct.fA),(.int .i64 zu.fAct.fB),(.slice z6z zu.fAct.fData.length z6A)]]) :
  Calls Tryd.prog 106 #[(.pointer (some ⟨z3P,0,none⟩))] w₀ fun e w'=>∃ zc0 : Option Addr,∃ zc1 : Nat,∃ zc2 : Option Addr,∃ zc3 : Nat,e = .returned (.tuple #[]) ∧ (ZS Z 1 (fun r x=>r = e5 x) zc0 zc1 r.fMem) ∧ Hp (fps [stb z3P 65 [(.int .i64 zu.fState.fPc),(.int .i64 zu.fState.fLeft),(.int .u8 zu.fState.fRegs.a0),(.int .u8 zu.fState.fRegs.a1),(.int .u8 zu.fState.fRegs.a2),(.int .u8 zu.fState.fRegs.a3),(.int .u8 zu.fX.fOp),(.int .i64 zu.fX.fA),(.int .i64 zu.fX.fB),(.int .i64 zu.fX.fC),(.slice z6x zu.fMem.length z6y),(.int .u8 zu.fAct.fKind),(.int .i64 zu.fAct.fA),(.int .i64 zu.fAct.fB),(.slice z6z zu.fAct.fData.length z6A)]]) w₀ w' [stb z3P 65 [(.int .i64 r.fState.fPc),(.int .i64 r.fState.fLeft),(.int .u8 r.fState.fRegs.a0),(.int .u8 r.fState.fRegs.a1),(.int .u8 r.fState.fRegs.a2),(.int .u8 r.fState.fRegs.a3),(.int .u8 r.fX.fOp),(.int .i64 r.fX.fA),(.int .i64 r.fX.fB),(.int .i64 r.fX.fC),(.slice zc0 r.fMem.length zc1),(.int .u8 r.fAct.fKind),(.int .i64 r.fAct.fA),(.int .i64 r.fAct.fB),(.slice zc2 r.fAct.fData.length zc3)],row (.slice zc2 r.fAct.fData.length zc3) 5 1 (r.fAct.fData.flatMap e5)]:=by
 unfold y1y at h
 refine Calls.y9 (vs:=[(.pointer (some ⟨z3P,0,none⟩))]) (pre:=[stb z3P 65 [(.int .i64 zu.fState.fPc),(.int .i64 zu.fState.fLeft),(.int .u8 zu.fState.fRegs.a0),(.int .u8 zu.fState.fRegs.a1),(.int .u8 zu.fState.fRegs.a2),(.int .u8 zu.fState.fRegs.a3),(.int .u8 zu.fX.fOp),(.int .i64 zu.fX.fA),(.int .i64 zu.fX.fB),(.int .i64 zu.fX.fC),(.slice z6x zu.fMem.length z6y),(.int .u8 zu.fAct.fKind),(.int .i64 zu.fAct.fA),(.int .i64 zu.fAct.fB),(.slice z6z zu.fAct.fData.length z6A)]]) (env:=[(0,(.pointer (some ⟨z3P,0,none⟩)))]) Tryd.func106 rfl Tryd.ntmps106 rfl (hown) rfl ?_
 obtain ⟨zbZ,zgf,h⟩:=zh h
 refine WC.a (WL.pu rfl (WL.pu rfl ?_))
 refine WL.a (d:=4) rfl rfl rfl (y7 rfl) ?_
 refine WL.a (d:=5) rfl rfl rfl (y4 yH rfl rfl) ?_
 refine WL.a (d:=6) rfl rfl rfl (y4 y1r rfl rfl) ?_
 refine WL.a (d:=7) rfl rfl rfl (y6 yg rfl (yb .here rfl)) ?_
 refine WL.yj (dd:=8) rfl rfl rfl (zI (l:=[.tmp 2,.const (.int .u8 3),.tmp 7]) Tryd.call112 (.cons rfl (.cons rfl (.cons rfl .nil)))) (.cons .here .nil) (cc hz (.cons .here .nil) fun w pz ho=>y2e _ _ _ _ _ _ _ _ _ _ zgf w pz zgd zge ho) ?_
 rintro zgg zgh zgi zgj zgk
 refine WL.nil ?_
 obtain rfl:=Option.some.inj h
 refine WX.ye Tryd.results106 .nil (fun w hw=>?_)
 exact ⟨zgg,zgh,zgi,zgj,y1b,zgk,hw.sub (.cons .here (.cons .here .nil))⟩
def y1M (zg : Sproc_execution) : Option Sproc_execution :=
 some (⟨(⟨i64 (zg.fState.fPc - 1),zg.fState.fLeft,zg.fState.fRegs⟩ : Sproc_State),zg.fX,zg.fMem,(⟨16,0,0,([] : List Int)⟩ : Sproc_Act)⟩ : Sproc_execution)
set_option maxRecDepth 20000 in
theorem y41 (Z : Zp) (z3Q : Nat) (z3R : Option Addr) (z3S : Nat) (z5a : Option Addr) (z5b : Nat) (zg : Sproc_execution) (r : Sproc_execution)
  (h : y1M zg = some r) (w₀ : World) (hz : PZ (fps [stb z3Q 65 [(.int .i64 zg.fState.fPc),(.int .i64 zg.fState.fLeft),(.int .u8 zg.fState.fRegs.a0),(.int .u8 zg.fState.fRegs.a1),(.int .u8 zg.fState.fRegs.a2),(.int .u8 zg.fState.fRegs.a3),(.int .u8 zg.fX.fOp),(.int .i64 zg.fX.fA),(.int .i64 zg.fX.fB),(.int .i64 zg.fX.fC),(.slice z3R zg.fMem.length z3S),(.int .u8 zg.fAct.fKind),(.int .i64 zg.fAct.fA),(.int .i64 zg.fAct.fB),(.slice z5a zg.fAct.fData.length z5b)]]) w₀ Z)
  (zgl : ZS Z 1 (fun r x=>r = e5 x) z3R z3S zg.fMem)
  (zmr : ZS Z 1 (fun r x=>r = e5 x) z5a z5b zg.fAct.fData)
  (hown : Hp (fps [stb z3Q 65 [(.int .i64 zg.fState.fPc),(.int .i64 zg.fState.fLeft),(.int .u8 zg.fState.fRegs.a0),(.int .u8 zg.fState.fRegs.a1),(.int .u8 zg.fState.fRegs.a2),(.int .u8 zg.fState.fRegs.a3),(.int .u8 zg.fX.fOp),(.int .i64 zg.fX.fA),(.int .i64 zg.fX.fB),(.int .i64 zg.fX.fC),(.slice z3R zg.fMem.length z3S),(.int .u8 zg.fAct.fKind),(.int .i64 zg.fAct.fA),(.int .i64 zg.fAct.fB),(.slice z5a zg.fAct.fData.length z5b)]]) w₀ w₀ [stb z3Q 65 [(.int .i64 zg.fState.fPc),(.int .i64 zg.fState.fLeft),(.int .u8 zg.fState.fRegs.a0),(.int .u8 zg.fState.fRegs.a1),(.int .u8 zg.fState.fRegs.a2),(.int .u8 zg.fState.fRegs.a3),(.int .u8 zg.fX.fOp),(.int .i64 zg.fX.fA),(.int .i64 zg.fX.fB),(.int .i64 zg.fX.fC),(.slice z3R zg.fMem.length z3S),(.int .u8 zg.fAct.fKind),(.int .i64 zg.fAct.fA),(.int .i64 zg.fAct.fB),(.slice z5a zg.fAct.fData.length z5b)]]) :
  Calls Tryd.prog 107 #[(.pointer (some ⟨z3Q,0,none⟩))] w₀ fun e w'=>∃ zc4 : Option Addr,∃ zc5 : Nat,∃ zc6 : Option Addr,∃ zc7 : Nat,e = .returned (.tuple #[]) ∧ (ZS Z 1 (fun r x=>r = e5 x) zc4 zc5 r.fMem) ∧ Hp (fps [stb z3Q 65 [(.int .i64 zg.fState.fPc),(.int .i64 zg.fState.fLeft),(.int .u8 zg.fState.fRegs.a0),(.int .u8 zg.fState.fRegs.a1),(.int .u8 zg.fState.fRegs.a2),(.int .u8 zg.fState.fRegs.a3),(.int .u8 zg.fX.fOp),(.int .i64 zg.fX.fA),(.int .i64 zg.fX.fB),(.int .i64 zg.fX.fC),(.slice z3R zg.fMem.length z3S),(.int .u8 zg.fAct.fKind),(.int .i64 zg.fAct.fA),(.int .i64 zg.fAct.fB),(.slice z5a zg.fAct.fData.length z5b)]]) w₀ w' [stb z3Q 65 [(.int .i64 r.fState.fPc),(.int .i64 r.fState.fLeft),(.int .u8 r.fState.fRegs.a0),(.int .u8 r.fState.fRegs.a1),(.int .u8 r.fState.fRegs.a2),(.int .u8 r.fState.fRegs.a3),(.int .u8 r.fX.fOp),(.int .i64 r.fX.fA),(.int .i64 r.fX.fB),(.int .i64 r.fX.fC),(.slice zc4 r.fMem.length zc5),(.int .u8 r.fAct.fKind),(.int .i64 r.fAct.fA),(.int .i64 r.fAct.fB),(.slice zc6 r.fAct.fData.length zc7)],row (.slice zc6 r.fAct.fData.length zc7) 5 1 (r.fAct.fData.flatMap e5)]:=by
 unfold y1M at h
 refine Calls.y9 (vs:=[(.pointer (some ⟨z3Q,0,none⟩))]) (pre:=[stb z3Q 65 [(.int .i64 zg.fState.fPc),(.int .i64 zg.fState.fLeft),(.int .u8 zg.fState.fRegs.a0),(.int .u8 zg.fState.fRegs.a1),(.int .u8 zg.fState.fRegs.a2),(.int .u8 zg.fState.fRegs.a3),(.int .u8 zg.fX.fOp),(.int .i64 zg.fX.fA),(.int .i64 zg.fX.fB),(.int .i64 zg.fX.fC),(.slice z3R zg.fMem.length z3S),(.int .u8 zg.fAct.fKind),(.int .i64 zg.fAct.fA),(.int .i64 zg.fAct.fB),(.slice z5a zg.fAct.fData.length z5b)]]) (env:=[(0,(.pointer (some ⟨z3Q,0,none⟩)))]) Tryd.func107 rfl Tryd.ntmps107 rfl (hown) rfl ?_
 refine WC.b (WC.a (WL.pu rfl ?_))
 refine WL.a (d:=3) rfl rfl rfl (y7 rfl) ?_
 refine WL.a (d:=4) rfl rfl rfl (y4 y1j rfl rfl) ?_
 refine WL.a (d:=5) rfl rfl rfl (y4 y1X rfl rfl) ?_
 refine WL.a (d:=6) rfl rfl rfl (y6 yg rfl (yb .here rfl)) ?_
 refine WL.pu rfl ?_
 refine WL.a (d:=8) rfl rfl rfl (y7 rfl) ?_
 refine WL.a (d:=9) rfl rfl rfl (y4 y1j rfl rfl) ?_
 refine WL.a (d:=10) rfl rfl rfl (y4 y1X rfl rfl) ?_
 refine WL.yk rfl rfl (y1p (ds:=[(.int .i64 (i64 (zg.fState.fPc - 1))),(.int .i64 zg.fState.fLeft),(.int .u8 zg.fState.fRegs.a0),(.int .u8 zg.fState.fRegs.a1),(.int .u8 zg.fState.fRegs.a2),(.int .u8 zg.fState.fRegs.a3),(.int .u8 zg.fX.fOp),(.int .i64 zg.fX.fA),(.int .i64 zg.fX.fB),(.int .i64 zg.fX.fC),(.slice z3R zg.fMem.length z3S),(.int .u8 zg.fAct.fKind),(.int .i64 zg.fAct.fA),(.int .i64 zg.fAct.fB),(.slice z5a zg.fAct.fData.length z5b)]) y33 rfl rfl rfl rfl rfl .here rfl rfl) ?_
 refine WL.nil (WX.a (WC.a (WL.pu rfl ?_)))
 refine WL.a (d:=12) rfl rfl rfl (yX (v:=(.agg #[(.int .u8 16),(.int .i64 0),(.int .i64 0),(.slice none 0 0)])) (Eos.parts (l:=[.const (.int .u8 16)]) (.cons rfl .nil) [0]) (fun _=>by kernel_rfl)) ?_
 refine WL.a (d:=13) rfl rfl rfl (y7 rfl) ?_
 refine WL.a (d:=14) rfl rfl rfl (y4 y3i rfl rfl) ?_
 refine WL.yk rfl rfl (y1p (ds:=[(.int .i64 (i64 (zg.fState.fPc - 1))),(.int .i64 zg.fState.fLeft),(.int .u8 zg.fState.fRegs.a0),(.int .u8 zg.fState.fRegs.a1),(.int .u8 zg.fState.fRegs.a2),(.int .u8 zg.fState.fRegs.a3),(.int .u8 zg.fX.fOp),(.int .i64 zg.fX.fA),(.int .i64 zg.fX.fB),(.int .i64 zg.fX.fC),(.slice z3R zg.fMem.length z3S),(.int .u8 16),(.int .i64 0),(.int .i64 0),(.slice none 0 0)]) y1Y rfl rfl rfl rfl rfl .here rfl rfl) ?_
 refine WL.nil ?_
 refine WX.nilRow 5 1 ?_
 obtain rfl:=Option.some.inj h
 refine WX.ye Tryd.results107 .nil (fun w hw=>?_)
 exact ⟨z3R,z3S,none,0,y1b,zgl,hw.sub (.cons .h1 (.cons .here .nil))⟩
def y1f (z5c : List Sapi_Ins) (ze : Sproc_State) (zS : List Int) : Option (Sproc_State × Sproc_Act) :=
 (y2P z5c ze.fPc).bind fun zO=>if !zO.2 then some (ze,(⟨15,5,0,[]⟩ : Sproc_Act)) else jp15 (fun (z2Y : Int) (z2Z : Int) (z30 : Int) (z31 : Int) (z32 : Int) (z33 : Int) (z4F : Int) (z4G : Int) (z4H : Int) (z4I : Int) (z3T : List Int) (z34 : Int) (z35 : Int) (z36 : Int) (z2P : List Int)=>some ((⟨z2Y,z2Z,(⟨z30,z31,z32,z33⟩ : S34)⟩ : Sproc_State),(⟨z34,z35,z36,z2P⟩ : Sproc_Act))) fun z1p=>chk ((0 : Int) ≤ zO.1.fOp ∧ zO.1.fOp < 26) (sw [(1,(y1B (⟨(⟨i64 (ze.fPc + 1),ze.fLeft,ze.fRegs⟩ : Sproc_State),zO.1,zS,(⟨0,0,0,[]⟩ : Sproc_Act)⟩ : Sproc_execution)).bind fun zW=>z1p zW.fState.fPc zW.fState.fLeft zW.fState.fRegs.a0 zW.fState.fRegs.a1 zW.fState.fRegs.a2 zW.fState.fRegs.a3 zW.fX.fOp zW.fX.fA zW.fX.fB zW.fX.fC zW.fMem zW.fAct.fKind zW.fAct.fA zW.fAct.fB zW.fAct.fData),(2,(y1P (⟨(⟨i64 (ze.fPc + 1),ze.fLeft,ze.fRegs⟩ : Sproc_State),zO.1,zS,(⟨0,0,0,[]⟩ : Sproc_Act)⟩ : Sproc_execution)).bind fun zX=>z1p zX.fState.fPc zX.fState.fLeft zX.fState.fRegs.a0 zX.fState.fRegs.a1 zX.fState.fRegs.a2 zX.fState.fRegs.a3 zX.fX.fOp zX.fX.fA zX.fX.fB zX.fX.fC zX.fMem zX.fAct.fKind zX.fAct.fA zX.fAct.fB zX.fAct.fData),(3,(y1Q (⟨(⟨i64 (ze.fPc + 1),ze.fLeft,ze.fRegs⟩ : Sproc_State),zO.1,zS,(⟨0,0,0,[]⟩ : Sproc_Act)⟩ : Sproc_execution)).bind fun zY=>z1p zY.fState.fPc zY.fState.fLeft zY.fState.fRegs.a0 zY.fState.fRegs.a1 zY.fState.fRegs.a2 zY.fState.fRegs.a3 zY.fX.fOp zY.fX.fA zY.fX.fB zY.fX.fC zY.fMem zY.fAct.fKind zY.fAct.fA zY.fAct.fB zY.fAct.fData),(4,(y1R (⟨(⟨i64 (ze.fPc + 1),ze.fLeft,ze.fRegs⟩ : Sproc_State),zO.1,zS,(⟨0,0,0,[]⟩ : Sproc_Act)⟩ : Sproc_execution)).bind fun zZ=>z1p zZ.fState.fPc zZ.fState.fLeft zZ.fState.fRegs.a0 zZ.fState.fRegs.a1 zZ.fState.fRegs.a2 zZ.fState.fRegs.a3 zZ.fX.fOp zZ.fX.fA zZ.fX.fB zZ.fX.fC zZ.fMem zZ.fAct.fKind zZ.fAct.fA zZ.fAct.fB zZ.fAct.fData),(5,(y1C (⟨(⟨i64 (ze.fPc + 1),ze.fLeft,ze.fRegs⟩ : Sproc_State),zO.1,zS,(⟨0,0,0,[]⟩ : Sproc_Act)⟩ : Sproc_execution)).bind fun z10=>z1p z10.fState.fPc z10.fState.fLeft z10.fState.fRegs.a0 z10.fState.fRegs.a1 z10.fState.fRegs.a2 z10.fState.fRegs.a3 z10.fX.fOp z10.fX.fA z10.fX.fB z10.fX.fC z10.fMem z10.fAct.fKind z10.fAct.fA z10.fAct.fB z10.fAct.fData),(6,(y1t (⟨(⟨i64 (ze.fPc + 1),ze.fLeft,ze.fRegs⟩ : Sproc_State),zO.1,zS,(⟨0,0,0,[]⟩ : Sproc_Act)⟩ : Sproc_execution)).bind fun z11=>z1p z11.fState.fPc z11.fState.fLeft z11.fState.fRegs.a0 z11.fState.fRegs.a1 z11.fState.fRegs.a2 z11.fState.fRegs.a3 z11.fX.fOp z11.fX.fA z11.fX.fB z11.fX.fC z11.fMem z11.fAct.fKind z11.fAct.fA z11.fAct.fB z11.fAct.fData),(7,(y1D (⟨(⟨i64 (ze.fPc + 1),ze.fLeft,ze.fRegs⟩ : Sproc_State),zO.1,zS,(⟨0,0,0,[]⟩ : Sproc_Act)⟩ : Sproc_execution)).bind fun z12=>z1p z12.fState.fPc z12.fState.fLeft z12.fState.fRegs.a0 z12.fState.fRegs.a1 z12.fState.fRegs.a2 z12.fState.fRegs.a3 z12.fX.fOp z12.fX.fA z12.fX.fB z12.fX.fC z12.fMem z12.fAct.fKind z12.fAct.fA z12.fAct.fB z12.fAct.fData),(8,(y1E (⟨(⟨i64 (ze.fPc + 1),ze.fLeft,ze.fRegs⟩ : Sproc_State),zO.1,zS,(⟨0,0,0,[]⟩ : Sproc_Act)⟩ : Sproc_execution)).bind fun z13=>z1p z13.fState.fPc z13.fState.fLeft z13.fState.fRegs.a0 z13.fState.fRegs.a1 z13.fState.fRegs.a2 z13.fState.fRegs.a3 z13.fX.fOp z13.fX.fA z13.fX.fB z13.fX.fC z13.fMem z13.fAct.fKind z13.fAct.fA z13.fAct.fB z13.fAct.fData),(9,(y1F (⟨(⟨i64 (ze.fPc + 1),ze.fLeft,ze.fRegs⟩ : Sproc_State),zO.1,zS,(⟨0,0,0,[]⟩ : Sproc_Act)⟩ : Sproc_execution)).bind fun z14=>z1p z14.fState.fPc z14.fState.fLeft z14.fState.fRegs.a0 z14.fState.fRegs.a1 z14.fState.fRegs.a2 z14.fState.fRegs.a3 z14.fX.fOp z14.fX.fA z14.fX.fB z14.fX.fC z14.fMem z14.fAct.fKind z14.fAct.fA z14.fAct.fB z14.fAct.fData),(10,(y1k (⟨(⟨i64 (ze.fPc + 1),ze.fLeft,ze.fRegs⟩ : Sproc_State),zO.1,zS,(⟨0,0,0,[]⟩ : Sproc_Act)⟩ : Sproc_execution)).bind fun z15=>z1p z15.fState.fPc z15.fState.fLeft z15.fState.fRegs.a0 z15.fState.fRegs.a1 z15.fState.fRegs.a2 z15.fState.fRegs.a3 z15.fX.fOp z15.fX.fA z15.fX.fB z15.fX.fC z15.fMem z15.fAct.fKind z15.fAct.fA z15.fAct.fB z15.fAct.fData),(11,(y1u (⟨(⟨i64 (ze.fPc + 1),ze.fLeft,ze.fRegs⟩ : Sproc_State),zO.1,zS,(⟨0,0,0,[]⟩ : Sproc_Act)⟩ : Sproc_execution)).bind fun z16=>z1p z16.fState.fPc z16.fState.fLeft z16.fState.fRegs.a0 z16.fState.fRegs.a1 z16.fState.fRegs.a2 z16.fState.fRegs.a3 z16.fX.fOp z16.fX.fA z16.fX.fB z16.fX.fC z16.fMem z16.fAct.fKind z16.fAct.fA z16.fAct.fB z16.fAct.fData),(12,(y1v (⟨(⟨i64 (ze.fPc + 1),ze.fLeft,ze.fRegs⟩ : Sproc_State),zO.1,zS,(⟨0,0,0,[]⟩ : Sproc_Act)⟩ : Sproc_execution)).bind fun z17=>z1p z17.fState.fPc z17.fState.fLeft z17.fState.fRegs.a0 z17.fState.fRegs.a1 z17.fState.fRegs.a2 z17.fState.fRegs.a3 z17.fX.fOp z17.fX.fA z17.fX.fB z17.fX.fC z17.fMem z17.fAct.fKind z17.fAct.fA z17.fAct.fB z17.fAct.fData),(13,(y1w (⟨(⟨i64 (ze.fPc + 1),ze.fLeft,ze.fRegs⟩ : Sproc_State),zO.1,zS,(⟨0,0,0,[]⟩ : Sproc_Act)⟩ : Sproc_execution)).bind fun z18=>z1p z18.fState.fPc z18.fState.fLeft z18.fState.fRegs.a0 z18.fState.fRegs.a1 z18.fState.fRegs.a2 z18.fState.fRegs.a3 z18.fX.fOp z18.fX.fA z18.fX.fB z18.fX.fC z18.fMem z18.fAct.fKind z18.fAct.fA z18.fAct.fB z18.fAct.fData),(14,(y1S (⟨(⟨i64 (ze.fPc + 1),ze.fLeft,ze.fRegs⟩ : Sproc_State),zO.1,zS,(⟨0,0,0,[]⟩ : Sproc_Act)⟩ : Sproc_execution)).bind fun z19=>z1p z19.fState.fPc z19.fState.fLeft z19.fState.fRegs.a0 z19.fState.fRegs.a1 z19.fState.fRegs.a2 z19.fState.fRegs.a3 z19.fX.fOp z19.fX.fA z19.fX.fB z19.fX.fC z19.fMem z19.fAct.fKind z19.fAct.fA z19.fAct.fB z19.fAct.fData),(15,(y1T (⟨(⟨i64 (ze.fPc + 1),ze.fLeft,ze.fRegs⟩ : Sproc_State),zO.1,zS,(⟨0,0,0,[]⟩ : Sproc_Act)⟩ : Sproc_execution)).bind fun z1a=>z1p z1a.fState.fPc z1a.fState.fLeft z1a.fState.fRegs.a0 z1a.fState.fRegs.a1 z1a.fState.fRegs.a2 z1a.fState.fRegs.a3 z1a.fX.fOp z1a.fX.fA z1a.fX.fB z1a.fX.fC z1a.fMem z1a.fAct.fKind z1a.fAct.fA z1a.fAct.fB z1a.fAct.fData),(16,(y1G (⟨(⟨i64 (ze.fPc + 1),ze.fLeft,ze.fRegs⟩ : Sproc_State),zO.1,zS,(⟨0,0,0,[]⟩ : Sproc_Act)⟩ : Sproc_execution)).bind fun z1b=>z1p z1b.fState.fPc z1b.fState.fLeft z1b.fState.fRegs.a0 z1b.fState.fRegs.a1 z1b.fState.fRegs.a2 z1b.fState.fRegs.a3 z1b.fX.fOp z1b.fX.fA z1b.fX.fB z1b.fX.fC z1b.fMem z1b.fAct.fKind z1b.fAct.fA z1b.fAct.fB z1b.fAct.fData),(17,(y1H (⟨(⟨i64 (ze.fPc + 1),ze.fLeft,ze.fRegs⟩ : Sproc_State),zO.1,zS,(⟨0,0,0,[]⟩ : Sproc_Act)⟩ : Sproc_execution)).bind fun z1c=>z1p z1c.fState.fPc z1c.fState.fLeft z1c.fState.fRegs.a0 z1c.fState.fRegs.a1 z1c.fState.fRegs.a2 z1c.fState.fRegs.a3 z1c.fX.fOp z1c.fX.fA z1c.fX.fB z1c.fX.fC z1c.fMem z1c.fAct.fKind z1c.fAct.fA z1c.fAct.fB z1c.fAct.fData),(18,(y1x (⟨(⟨i64 (ze.fPc + 1),ze.fLeft,ze.fRegs⟩ : Sproc_State),zO.1,zS,(⟨0,0,0,[]⟩ : Sproc_Act)⟩ : Sproc_execution)).bind fun z1d=>z1p z1d.fState.fPc z1d.fState.fLeft z1d.fState.fRegs.a0 z1d.fState.fRegs.a1 z1d.fState.fRegs.a2 z1d.fState.fRegs.a3 z1d.fX.fOp z1d.fX.fA z1d.fX.fB z1d.fX.fC z1d.fMem z1d.fAct.fKind z1d.fAct.fA z1d.fAct.fB z1d.fAct.fData),(19,(y1I (⟨(⟨i64 (ze.fPc + 1),ze.fLeft,ze.fRegs⟩ : Sproc_State),zO.1,zS,(⟨0,0,0,[]⟩ : Sproc_Act)⟩ : Sproc_execution)).bind fun zT=>z1p zT.fState.fPc zT.fState.fLeft zT.fState.fRegs.a0 zT.fState.fRegs.a1 zT.fState.fRegs.a2 zT.fState.fRegs.a3 zT.fX.fOp zT.fX.fA zT.fX.fB zT.fX.fC zT.fMem zT.fAct.fKind zT.fAct.fA zT.fAct.fB zT.fAct.fData),(20,(y1J (⟨(⟨i64 (ze.fPc + 1),ze.fLeft,ze.fRegs⟩ : Sproc_State),zO.1,zS,(⟨0,0,0,[]⟩ : Sproc_Act)⟩ : Sproc_execution)).bind fun z1e=>z1p z1e.fState.fPc z1e.fState.fLeft z1e.fState.fRegs.a0 z1e.fState.fRegs.a1 z1e.fState.fRegs.a2 z1e.fState.fRegs.a3 z1e.fX.fOp z1e.fX.fA z1e.fX.fB z1e.fX.fC z1e.fMem z1e.fAct.fKind z1e.fAct.fA z1e.fAct.fB z1e.fAct.fData),(21,(y1K (⟨(⟨i64 (ze.fPc + 1),ze.fLeft,ze.fRegs⟩ : Sproc_State),zO.1,zS,(⟨0,0,0,[]⟩ : Sproc_Act)⟩ : Sproc_execution)).bind fun z1f=>z1p z1f.fState.fPc z1f.fState.fLeft z1f.fState.fRegs.a0 z1f.fState.fRegs.a1 z1f.fState.fRegs.a2 z1f.fState.fRegs.a3 z1f.fX.fOp z1f.fX.fA z1f.fX.fB z1f.fX.fC z1f.fMem z1f.fAct.fKind z1f.fAct.fA z1f.fAct.fB z1f.fAct.fData),(22,(y1L (⟨(⟨i64 (ze.fPc + 1),ze.fLeft,ze.fRegs⟩ : Sproc_State),zO.1,zS,(⟨0,0,0,[]⟩ : Sproc_Act)⟩ : Sproc_execution)).bind fun z1g=>z1p z1g.fState.fPc z1g.fState.fLeft z1g.fState.fRegs.a0 z1g.fState.fRegs.a1 z1g.fState.fRegs.a2 z1g.fState.fRegs.a3 z1g.fX.fOp z1g.fX.fA z1g.fX.fB z1g.fX.fC z1g.fMem z1g.fAct.fKind z1g.fAct.fA z1g.fAct.fB z1g.fAct.fData),(23,(y1U (⟨(⟨i64 (ze.fPc + 1),ze.fLeft,ze.fRegs⟩ : Sproc_State),zO.1,zS,(⟨0,0,0,[]⟩ : Sproc_Act)⟩ : Sproc_execution)).bind fun z1h=>z1p z1h.fState.fPc z1h.fState.fLeft z1h.fState.fRegs.a0 z1h.fState.fRegs.a1 z1h.fState.fRegs.a2 z1h.fState.fRegs.a3 z1h.fX.fOp z1h.fX.fA z1h.fX.fB z1h.fX.fC z1h.fMem z1h.fAct.fKind z1h.fAct.fA z1h.fAct.fB z1h.fAct.fData),(24,(y1y (⟨(⟨i64 (ze.fPc + 1),ze.fLeft,ze.fRegs⟩ : Sproc_State),zO.1,zS,(⟨0,0,0,[]⟩ : Sproc_Act)⟩ : Sproc_execution)).bind fun zU=>z1p zU.fState.fPc zU.fState.fLeft zU.fState.fRegs.a0 zU.fState.fRegs.a1 zU.fState.fRegs.a2 zU.fState.fRegs.a3 zU.fX.fOp zU.fX.fA zU.fX.fB zU.fX.fC zU.fMem zU.fAct.fKind zU.fAct.fA zU.fAct.fB zU.fAct.fData),(25,(y1M (⟨(⟨i64 (ze.fPc + 1),ze.fLeft,ze.fRegs⟩ : Sproc_State),zO.1,zS,(⟨0,0,0,[]⟩ : Sproc_Act)⟩ : Sproc_execution)).bind fun zV=>z1p zV.fState.fPc zV.fState.fLeft zV.fState.fRegs.a0 zV.fState.fRegs.a1 zV.fState.fRegs.a2 zV.fState.fRegs.a3 zV.fX.fOp zV.fX.fA zV.fX.fB zV.fX.fC zV.fMem zV.fAct.fKind zV.fAct.fA zV.fAct.fB zV.fAct.fData)] zO.1.fOp)
set_option maxRecDepth 20000 in
theorem y1z (Z : Zp) (z7C : Option Addr) (z7D : Nat) (z5d : Option Addr) (z5e : Nat) (z5c : List Sapi_Ins) (ze : Sproc_State) (zS : List Int) (r : Sproc_State × Sproc_Act)
  (h : y1f z5c ze zS = some r) (w₀ : World) (hz : PZ [] w₀ Z)
  (hG0 : ZC Z ⟨0,0,none⟩ tabG0)
  (hG1 : ZS Z 1 (p74 Z) (some ⟨1,0,none⟩) 26 yP)
  (zgm : ZS Z 4 (fun r x=>r = e33 x) z7C z7D z5c)
  (z1r : ZS Z 1 (fun r x=>r = e5 x) z5d z5e zS) :
  Calls Tryd.prog 18 #[(.slice z7C z5c.length z7D),(.agg #[(.int .i64 ze.fPc),(.int .i64 ze.fLeft),(.int .u8 ze.fRegs.a0),(.int .u8 ze.fRegs.a1),(.int .u8 ze.fRegs.a2),(.int .u8 ze.fRegs.a3)]),(.slice z5d zS.length z5e)] w₀ fun e w'=>∃ Zn : Zp,∃ zc8 : Option Addr,∃ zc9 : Nat,e = .returned (.tuple #[(.agg #[(.int .i64 r.1.fPc),(.int .i64 r.1.fLeft),(.int .u8 r.1.fRegs.a0),(.int .u8 r.1.fRegs.a1),(.int .u8 r.1.fRegs.a2),(.int .u8 r.1.fRegs.a3)]),(.agg #[(.int .u8 r.2.fKind),(.int .i64 r.2.fA),(.int .i64 r.2.fB),(.slice zc8 r.2.fData.length zc9)])]) ∧ (ZS (Z ++ Zn) 1 (fun r x=>r = e5 x) zc8 zc9 r.2.fData) ∧ Hp [] w₀ w' [fz Zn]:=by
 unfold y1f at h
 refine Calls.y9 (vs:=[(.slice z7C z5c.length z7D),(.agg #[(.int .i64 ze.fPc),(.int .i64 ze.fLeft),(.int .u8 ze.fRegs.a0),(.int .u8 ze.fRegs.a1),(.int .u8 ze.fRegs.a2),(.int .u8 ze.fRegs.a3)]),(.slice z5d zS.length z5e)]) (pre:=[]) (env:=[(0,(.slice z7C z5c.length z7D)),(1,(.agg #[(.int .i64 ze.fPc),(.int .i64 ze.fLeft),(.int .u8 ze.fRegs.a0),(.int .u8 ze.fRegs.a1),(.int .u8 ze.fRegs.a2),(.int .u8 ze.fRegs.a3)])),(2,(.slice z5d zS.length z5e))]) Tryd.func18 rfl Tryd.ntmps18 rfl (Hp.nil w₀ _) rfl ?_
 refine WC.pool (WC.b (WC.a ?_))
 refine WL.new (dd:=4) rfl rfl rfl (y3e (cs:=[(.int .i64 ze.fPc),(.int .i64 ze.fLeft),(.int .u8 ze.fRegs.a0),(.int .u8 ze.fRegs.a1),(.int .u8 ze.fRegs.a2),(.int .u8 ze.fRegs.a3)]) rfl rfl) ?_
 intro zms _
 refine WL.new (dd:=6) rfl rfl rfl (yw (cs:=[(.int .i64 0),(.int .i64 0),(.int .u8 0),(.int .u8 0),(.int .u8 0),(.int .u8 0)]) y1q rfl) ?_
 intro zca _
 refine WL.new (dd:=7) rfl rfl rfl (yw (cs:=[(.int .u8 0),(.int .i64 0),(.int .i64 0),(.slice none 0 0)]) y2b rfl) ?_
 intro zcb _
 refine WL.nil (WX.a (WC.b ?_))
 obtain ⟨zO,zgn,h⟩:=zh h
 refine WC.a (WL.pu rfl ?_)
 refine WL.a (d:=13) rfl rfl rfl (y4 y1X rfl rfl) ?_
 refine WL.a (d:=14) rfl rfl rfl (y6 yg rfl (yb .h2 rfl)) ?_
 refine WL.b (dd:=15) rfl rfl rfl (zI (l:=[.tmp 12,.tmp 14]) Tryd.call33 (.cons rfl (.cons rfl .nil))) .nil (ccz hz .nil .h3 fun w pz ho=>y5u _ _ _ _ _ _ zgn w pz ((hG1.mono (Zle.left _ _)).weak (fun _ _ h=>yV (Zle.left _ _) h)) (zgm.mono (Zle.left _ _))) ?_
 refine WL.pu rfl (WL.pu rfl (WL.pu rfl ?_))
 refine WL.new (dd:=8) rfl rfl rfl (yw (cs:=[(.int .u8 0),(.int .i64 0),(.int .i64 0),(.int .i64 0)]) y4e rfl) ?_
 intro zmt _
 refine WL.yk rfl rfl (yu y3N rfl rfl rfl .here rfl rfl rfl) ?_
 refine WL.pu rfl (WL.nil (WX.a (WC.b (WC.b (WC.a (WL.pu rfl (WL.pu rfl (WL.nil (WX.a ?_)))))))))
 refine WC.cond rfl (fun z8H=>?_) (fun z8H=>?_)
 ·replace h:=yn h z8H
  refine WC.b (WC.a ?_)
  refine WL.a (d:=20) rfl rfl rfl (yT y1W rfl (yR .h3) rfl) ?_
  refine WL.a (d:=21) rfl rfl rfl (yX (v:=(.agg #[(.int .u8 15),(.int .i64 5),(.int .i64 0),(.slice none 0 0)])) (Eos.parts (l:=[.const (.int .u8 15),.const (.int .i64 5)]) (.cons rfl (.cons rfl .nil)) [0,1]) (fun _=>by kernel_rfl)) ?_
  refine WL.yk rfl rfl (yu y1V rfl rfl rfl .h2 rfl rfl rfl) ?_
  refine WL.yk rfl rfl (yu y1Y rfl rfl rfl .h2 rfl rfl rfl) ?_
  refine WL.nil (WX.a (WC.ret (WX.yd ?_)))
  obtain rfl:=Option.some.inj h
  refine WX.yf Tryd.results18 (.agg rfl y1W rfl (yR .h1) (.agg rfl y2N rfl (yR .here) .nil)) (fun w hw=>?_)
  exact ⟨[],none,0,ret2 rfl rfl,(ZS.nil _ _ _),hw.sub (.cons .h4 .nil)⟩
 ·replace h:=yo h z8H
  refine WC.skip (WX.a (WC.b (WC.a ?_)))
  refine WL.a (d:=22) rfl rfl rfl (yT y1W rfl (yR .h3) rfl) ?_
  refine WL.a (d:=23) rfl rfl rfl (yT y2M rfl (yR .here) rfl) ?_
  refine WL.pu rfl ?_
  refine WL.a (d:=25) rfl rfl rfl (yX (v:=(.agg #[(.int .i64 ze.fPc),(.int .i64 ze.fLeft),(.int .u8 ze.fRegs.a0),(.int .u8 ze.fRegs.a1),(.int .u8 ze.fRegs.a2),(.int .u8 ze.fRegs.a3),(.int .u8 zO.1.fOp),(.int .i64 zO.1.fA),(.int .i64 zO.1.fB),(.int .i64 zO.1.fC),(.slice z5d zS.length z5e),(.int .u8 0),(.int .i64 0),(.int .i64 0),(.slice none 0 0)])) (Eos.parts (l:=[.tmp 22,.tmp 23,.tmp 24]) (.cons rfl (.cons rfl (.cons rfl .nil))) [0,1,2]) (fun _=>by kernel_rfl)) ?_
  refine WL.new (dd:=26) rfl rfl rfl (y3e (cs:=[(.int .i64 ze.fPc),(.int .i64 ze.fLeft),(.int .u8 ze.fRegs.a0),(.int .u8 ze.fRegs.a1),(.int .u8 ze.fRegs.a2),(.int .u8 ze.fRegs.a3),(.int .u8 zO.1.fOp),(.int .i64 zO.1.fA),(.int .i64 zO.1.fB),(.int .i64 zO.1.fC),(.slice z5d zS.length z5e),(.int .u8 0),(.int .i64 0),(.int .i64 0),(.slice none 0 0)]) rfl rfl) ?_
  intro z8I _
  refine WL.pu rfl (WL.nil (WX.a (WC.b (WC.a (WL.pu rfl ?_)))))
  refine WL.a (d:=28) rfl rfl rfl (y7 rfl) ?_
  refine WL.a (d:=29) rfl rfl rfl (y4 y1j rfl rfl) ?_
  refine WL.a (d:=30) rfl rfl rfl (y4 y1X rfl rfl) ?_
  refine WL.a (d:=31) rfl rfl rfl (y6 yg rfl (yb .here rfl)) ?_
  refine WL.pu rfl ?_
  refine WL.a (d:=33) rfl rfl rfl (y7 rfl) ?_
  refine WL.a (d:=34) rfl rfl rfl (y4 y1j rfl rfl) ?_
  refine WL.a (d:=35) rfl rfl rfl (y4 y1X rfl rfl) ?_
  refine WL.yk rfl rfl (y1p (ds:=[(.int .i64 (i64 (ze.fPc + 1))),(.int .i64 ze.fLeft),(.int .u8 ze.fRegs.a0),(.int .u8 ze.fRegs.a1),(.int .u8 ze.fRegs.a2),(.int .u8 ze.fRegs.a3),(.int .u8 zO.1.fOp),(.int .i64 zO.1.fA),(.int .i64 zO.1.fB),(.int .i64 zO.1.fC),(.slice z5d zS.length z5e),(.int .u8 0),(.int .i64 0),(.int .i64 0),(.slice none 0 0)]) y33 rfl rfl rfl rfl rfl .here rfl rfl) ?_
  refine WL.nil (WX.a ?_)
  obtain ⟨z1p,zgo,h⟩:=y6L h
  refine WC.y6a (fun (z2Y : Int) (z2Z : Int) (z30 : Int) (z31 : Int) (z32 : Int) (z33 : Int) (z4F : Int) (z4G : Int) (z4H : Int) (z4I : Int) (z3T : List Int) (z34 : Int) (z35 : Int) (z36 : Int) (z2P : List Int) (z4J : Zp) (z6B : Option Addr) (z6C : Nat) (z4K : Option Addr) (z4L : Nat)=>(z1p z2Y z2Z z30 z31 z32 z33 z4F z4G z4H z4I z3T z34 z35 z36 z2P = some r) ∧ (Zle (Z ++ []) (Z ++ z4J)) ∧ (ZS (Z ++ z4J) 1 (fun r x=>r = e5 x) z6B z6C z3T) ∧ (ZS (Z ++ z4J) 1 (fun r x=>r = e5 x) z4K z4L z2P)) (fun (z2Y : Int) (z2Z : Int) (z30 : Int) (z31 : Int) (z32 : Int) (z33 : Int) (z4F : Int) (z4G : Int) (z4H : Int) (z4I : Int) (z3T : List Int) (z34 : Int) (z35 : Int) (z36 : Int) (z2P : List Int) (z4J : Zp) (z6B : Option Addr) (z6C : Nat) (z4K : Option Addr) (z4L : Nat)=>[(6,(.pointer (some ⟨zca,0,none⟩))),(7,(.pointer (some ⟨zcb,0,none⟩))),(10,(.pointer (some ⟨z8I,0,none⟩)))]) (fun (z2Y : Int) (z2Z : Int) (z30 : Int) (z31 : Int) (z32 : Int) (z33 : Int) (z4F : Int) (z4G : Int) (z4H : Int) (z4I : Int) (z3T : List Int) (z34 : Int) (z35 : Int) (z36 : Int) (z2P : List Int) (z4J : Zp) (z6B : Option Addr) (z6C : Nat) (z4K : Option Addr) (z4L : Nat)=>[fz z4J,stb zca 39 [(.int .i64 0),(.int .i64 0),(.int .u8 0),(.int .u8 0),(.int .u8 0),(.int .u8 0)],stb zcb 41 [(.int .u8 0),(.int .i64 0),(.int .i64 0),(.slice none 0 0)],stb z8I 65 [(.int .i64 z2Y),(.int .i64 z2Z),(.int .u8 z30),(.int .u8 z31),(.int .u8 z32),(.int .u8 z33),(.int .u8 z4F),(.int .i64 z4G),(.int .i64 z4H),(.int .i64 z4I),(.slice z6B z3T.length z6C),(.int .u8 z34),(.int .i64 z35),(.int .i64 z36),(.slice z4K z2P.length z4L)]]) ?_ ?_
  ·skip
   obtain ⟨zgp,h⟩:=ya h
   refine WC.a ?_
   refine WL.a (d:=36) rfl rfl rfl (y4 y3h rfl rfl) ?_
   refine WL.a (d:=37) rfl rfl rfl (y6 yS rfl (yb .h1 rfl)) ?_
   refine WL.a (d:=38) rfl rfl rfl (y3A arT_67 rfl rfl zgp rfl) ?_
   rcases yG h with ⟨zgq,h⟩ | h
   ·skip
    obtain ⟨zW,zgr,h⟩:=zh h
    refine WL.a (d:=39) rfl rfl rfl (y6 yI rfl (yW (k:=1) (hz.pv2 .h5) (hG0.mono (Zle.left _ _)) zgq rfl)) ?_
    refine WL.pu rfl ?_
    refine WL.yj (dd:=41) rfl rfl rfl (yr (l:=[.tmp 40]) Tryd.call84 rfl (.cons rfl .nil)) (.cons .here .nil) (ccz hz (.cons .here .nil) .h4 fun w pz ho=>y3Q _ _ _ _ _ _ _ _ zgr w pz (z1r.mono (Zle.left _ _)) (ZS.nil _ _ _) ho) ?_
    rintro zgs zgt zgu zgv ⟨zgw,zgx⟩
    refine WL.nil ?_
    exact WX.mid (G:=Int × Int × Int × Int × Int × Int × Int × Int × Int × Int × List Int × Int × Int × Int × List Int × Zp × Option Addr × Nat × Option Addr × Nat) ⟨zW.fState.fPc,zW.fState.fLeft,zW.fState.fRegs.a0,zW.fState.fRegs.a1,zW.fState.fRegs.a2,zW.fState.fRegs.a3,zW.fX.fOp,zW.fX.fA,zW.fX.fB,zW.fX.fC,zW.fMem,zW.fAct.fKind,zW.fAct.fA,zW.fAct.fB,zW.fAct.fData,[],zgs,zgt,zgu,zgv⟩ ⟨h,(Zle.refl _),zgw,zgx⟩ (.cons rfl (.cons rfl (.cons rfl .nil))) (.cons .h5 (.cons .h3 (.cons .h2 (.cons .here .nil))))
   rcases yG h with ⟨zgy,h⟩ | h
   ·skip
    obtain ⟨zX,zgz,h⟩:=zh h
    refine WL.a (d:=39) rfl rfl rfl (y6 yI rfl (yW (k:=2) (hz.pv2 .h5) (hG0.mono (Zle.left _ _)) zgy rfl)) ?_
    refine WL.pu rfl ?_
    refine WL.yj (dd:=41) rfl rfl rfl (yr (l:=[.tmp 40]) Tryd.call85 rfl (.cons rfl .nil)) (.cons .here .nil) (ccz hz (.cons .here .nil) .h4 fun w pz ho=>y4g _ _ _ _ _ _ _ _ zgz w pz (z1r.mono (Zle.left _ _)) (ZS.nil _ _ _) ho) ?_
    rintro zgA zgB zgC zgD ⟨zgE,zgF⟩
    refine WL.nil ?_
    exact WX.mid (G:=Int × Int × Int × Int × Int × Int × Int × Int × Int × Int × List Int × Int × Int × Int × List Int × Zp × Option Addr × Nat × Option Addr × Nat) ⟨zX.fState.fPc,zX.fState.fLeft,zX.fState.fRegs.a0,zX.fState.fRegs.a1,zX.fState.fRegs.a2,zX.fState.fRegs.a3,zX.fX.fOp,zX.fX.fA,zX.fX.fB,zX.fX.fC,zX.fMem,zX.fAct.fKind,zX.fAct.fA,zX.fAct.fB,zX.fAct.fData,[],zgA,zgB,zgC,zgD⟩ ⟨h,(Zle.refl _),zgE,zgF⟩ (.cons rfl (.cons rfl (.cons rfl .nil))) (.cons .h5 (.cons .h3 (.cons .h2 (.cons .here .nil))))
   rcases yG h with ⟨zgG,h⟩ | h
   ·skip
    obtain ⟨zY,zgH,h⟩:=zh h
    refine WL.a (d:=39) rfl rfl rfl (y6 yI rfl (yW (k:=3) (hz.pv2 .h5) (hG0.mono (Zle.left _ _)) zgG rfl)) ?_
    refine WL.pu rfl ?_
    refine WL.yj (dd:=41) rfl rfl rfl (yr (l:=[.tmp 40]) Tryd.call82 rfl (.cons rfl .nil)) (.cons .here .nil) (ccz hz (.cons .here .nil) .h4 fun w pz ho=>y4h _ _ _ _ _ _ _ _ zgH w pz (z1r.mono (Zle.left _ _)) (ZS.nil _ _ _) ho) ?_
    rintro zgI zgJ zgK zgL ⟨zgM,zgN⟩
    refine WL.nil ?_
    exact WX.mid (G:=Int × Int × Int × Int × Int × Int × Int × Int × Int × Int × List Int × Int × Int × Int × List Int × Zp × Option Addr × Nat × Option Addr × Nat) ⟨zY.fState.fPc,zY.fState.fLeft,zY.fState.fRegs.a0,zY.fState.fRegs.a1,zY.fState.fRegs.a2,zY.fState.fRegs.a3,zY.fX.fOp,zY.fX.fA,zY.fX.fB,zY.fX.fC,zY.fMem,zY.fAct.fKind,zY.fAct.fA,zY.fAct.fB,zY.fAct.fData,[],zgI,zgJ,zgK,zgL⟩ ⟨h,(Zle.refl _),zgM,zgN⟩ (.cons rfl (.cons rfl (.cons rfl .nil))) (.cons .h5 (.cons .h3 (.cons .h2 (.cons .here .nil))))
   rcases yG h with ⟨zgO,h⟩ | h
   ·skip
    obtain ⟨zZ,zgP,h⟩:=zh h
    refine WL.a (d:=39) rfl rfl rfl (y6 yI rfl (yW (k:=4) (hz.pv2 .h5) (hG0.mono (Zle.left _ _)) zgO rfl)) ?_
    refine WL.pu rfl ?_
    refine WL.yj (dd:=41) rfl rfl rfl (yr (l:=[.tmp 40]) Tryd.call86 rfl (.cons rfl .nil)) (.cons .here .nil) (ccz hz (.cons .here .nil) .h4 fun w pz ho=>y4i _ _ _ _ _ _ _ _ zgP w pz (z1r.mono (Zle.left _ _)) (ZS.nil _ _ _) ho) ?_
    rintro zgQ zgR zgS zgT ⟨zgU,zgV⟩
    refine WL.nil ?_
    exact WX.mid (G:=Int × Int × Int × Int × Int × Int × Int × Int × Int × Int × List Int × Int × Int × Int × List Int × Zp × Option Addr × Nat × Option Addr × Nat) ⟨zZ.fState.fPc,zZ.fState.fLeft,zZ.fState.fRegs.a0,zZ.fState.fRegs.a1,zZ.fState.fRegs.a2,zZ.fState.fRegs.a3,zZ.fX.fOp,zZ.fX.fA,zZ.fX.fB,zZ.fX.fC,zZ.fMem,zZ.fAct.fKind,zZ.fAct.fA,zZ.fAct.fB,zZ.fAct.fData,[],zgQ,zgR,zgS,zgT⟩ ⟨h,(Zle.refl _),zgU,zgV⟩ (.cons rfl (.cons rfl (.cons rfl .nil))) (.cons .h5 (.cons .h3 (.cons .h2 (.cons .here .nil))))
   rcases yG h with ⟨zgW,h⟩ | h
   ·skip
    obtain ⟨z10,zgX,h⟩:=zh h
    refine WL.a (d:=39) rfl rfl rfl (y6 yI rfl (yW (k:=5) (hz.pv2 .h5) (hG0.mono (Zle.left _ _)) zgW rfl)) ?_
    refine WL.pu rfl ?_
    refine WL.y2g (dd:=41) rfl rfl rfl (yr (l:=[.tmp 40]) Tryd.call87 rfl (.cons rfl .nil)) (.cons .here .nil) (ccz hz (.cons .here .nil) .h4 fun w pz ho=>y3R _ _ _ _ _ _ _ _ zgX w pz (z1r.mono (Zle.left _ _)) (ZS.nil _ _ _) ho) ?_
    rintro zgY zgZ zh0 zh1 zh2 ⟨zh3,zh4⟩
    refine WL.merge .here .h5 ?_
    refine WL.nil ?_
    exact WX.mid (G:=Int × Int × Int × Int × Int × Int × Int × Int × Int × Int × List Int × Int × Int × Int × List Int × Zp × Option Addr × Nat × Option Addr × Nat) ⟨z10.fState.fPc,z10.fState.fLeft,z10.fState.fRegs.a0,z10.fState.fRegs.a1,z10.fState.fRegs.a2,z10.fState.fRegs.a3,z10.fX.fOp,z10.fX.fA,z10.fX.fB,z10.fX.fC,z10.fMem,z10.fAct.fKind,z10.fAct.fA,z10.fAct.fB,z10.fAct.fData,([] ++ zgY),zgZ,zh0,zh1,zh2⟩ ⟨h,((Zle.left _ _).trans (Zle.y5 _ _ _)),(zh3.mono (Zle.y5 _ _ _)),(zh4.mono (Zle.y5 _ _ _))⟩ (.cons rfl (.cons rfl (.cons rfl .nil))) (.cons .here (.cons .h3 (.cons .h2 (.cons .here .nil))))
   rcases yG h with ⟨zh5,h⟩ | h
   ·skip
    obtain ⟨z11,zh6,h⟩:=zh h
    refine WL.a (d:=39) rfl rfl rfl (y6 yI rfl (yW (k:=6) (hz.pv2 .h5) (hG0.mono (Zle.left _ _)) zh5 rfl)) ?_
    refine WL.pu rfl ?_
    refine WL.y2g (dd:=41) rfl rfl rfl (yr (l:=[.tmp 40]) Tryd.call88 rfl (.cons rfl .nil)) (.cons .here .nil) (ccz hz (.cons .here .nil) .h4 fun w pz ho=>y3E _ _ _ _ _ _ _ _ zh6 w pz (z1r.mono (Zle.left _ _)) (ZS.nil _ _ _) ho) ?_
    rintro zh7 zh8 zh9 zha zhb ⟨zhc,zhd⟩
    refine WL.merge .here .h5 ?_
    refine WL.nil ?_
    exact WX.mid (G:=Int × Int × Int × Int × Int × Int × Int × Int × Int × Int × List Int × Int × Int × Int × List Int × Zp × Option Addr × Nat × Option Addr × Nat) ⟨z11.fState.fPc,z11.fState.fLeft,z11.fState.fRegs.a0,z11.fState.fRegs.a1,z11.fState.fRegs.a2,z11.fState.fRegs.a3,z11.fX.fOp,z11.fX.fA,z11.fX.fB,z11.fX.fC,z11.fMem,z11.fAct.fKind,z11.fAct.fA,z11.fAct.fB,z11.fAct.fData,([] ++ zh7),zh8,zh9,zha,zhb⟩ ⟨h,((Zle.left _ _).trans (Zle.y5 _ _ _)),(zhc.mono (Zle.y5 _ _ _)),(zhd.mono (Zle.y5 _ _ _))⟩ (.cons rfl (.cons rfl (.cons rfl .nil))) (.cons .here (.cons .h3 (.cons .h2 (.cons .here .nil))))
   rcases yG h with ⟨zhe,h⟩ | h
   ·skip
    obtain ⟨z12,zhf,h⟩:=zh h
    refine WL.a (d:=39) rfl rfl rfl (y6 yI rfl (yW (k:=7) (hz.pv2 .h5) (hG0.mono (Zle.left _ _)) zhe rfl)) ?_
    refine WL.pu rfl ?_
    refine WL.y2g (dd:=41) rfl rfl rfl (yr (l:=[.tmp 40]) Tryd.call89 rfl (.cons rfl .nil)) (.cons .here .nil) (ccz hz (.cons .here .nil) .h4 fun w pz ho=>y3S _ _ _ _ _ _ _ _ zhf w pz (z1r.mono (Zle.left _ _)) (ZS.nil _ _ _) ho) ?_
    rintro zhg zhh zhi zhj zhk ⟨zhl,zhm⟩
    refine WL.merge .here .h5 ?_
    refine WL.nil ?_
    exact WX.mid (G:=Int × Int × Int × Int × Int × Int × Int × Int × Int × Int × List Int × Int × Int × Int × List Int × Zp × Option Addr × Nat × Option Addr × Nat) ⟨z12.fState.fPc,z12.fState.fLeft,z12.fState.fRegs.a0,z12.fState.fRegs.a1,z12.fState.fRegs.a2,z12.fState.fRegs.a3,z12.fX.fOp,z12.fX.fA,z12.fX.fB,z12.fX.fC,z12.fMem,z12.fAct.fKind,z12.fAct.fA,z12.fAct.fB,z12.fAct.fData,([] ++ zhg),zhh,zhi,zhj,zhk⟩ ⟨h,((Zle.left _ _).trans (Zle.y5 _ _ _)),(zhl.mono (Zle.y5 _ _ _)),(zhm.mono (Zle.y5 _ _ _))⟩ (.cons rfl (.cons rfl (.cons rfl .nil))) (.cons .here (.cons .h3 (.cons .h2 (.cons .here .nil))))
   rcases yG h with ⟨zhn,h⟩ | h
   ·skip
    obtain ⟨z13,zho,h⟩:=zh h
    refine WL.a (d:=39) rfl rfl rfl (y6 yI rfl (yW (k:=8) (hz.pv2 .h5) (hG0.mono (Zle.left _ _)) zhn rfl)) ?_
    refine WL.pu rfl ?_
    refine WL.yj (dd:=41) rfl rfl rfl (yr (l:=[.tmp 40]) Tryd.call90 rfl (.cons rfl .nil)) (.cons .here .nil) (ccz hz (.cons .here .nil) .h4 fun w pz ho=>y3T _ _ _ _ _ _ _ _ zho w pz (z1r.mono (Zle.left _ _)) (ZS.nil _ _ _) ho) ?_
    rintro zhp zhq zhr zhs ⟨zht,zhu⟩
    refine WL.nil ?_
    exact WX.mid (G:=Int × Int × Int × Int × Int × Int × Int × Int × Int × Int × List Int × Int × Int × Int × List Int × Zp × Option Addr × Nat × Option Addr × Nat) ⟨z13.fState.fPc,z13.fState.fLeft,z13.fState.fRegs.a0,z13.fState.fRegs.a1,z13.fState.fRegs.a2,z13.fState.fRegs.a3,z13.fX.fOp,z13.fX.fA,z13.fX.fB,z13.fX.fC,z13.fMem,z13.fAct.fKind,z13.fAct.fA,z13.fAct.fB,z13.fAct.fData,[],zhp,zhq,zhr,zhs⟩ ⟨h,(Zle.refl _),zht,zhu⟩ (.cons rfl (.cons rfl (.cons rfl .nil))) (.cons .h5 (.cons .h3 (.cons .h2 (.cons .here .nil))))
   rcases yG h with ⟨zhv,h⟩ | h
   ·skip
    obtain ⟨z14,zhw,h⟩:=zh h
    refine WL.a (d:=39) rfl rfl rfl (y6 yI rfl (yW (k:=9) (hz.pv2 .h5) (hG0.mono (Zle.left _ _)) zhv rfl)) ?_
    refine WL.pu rfl ?_
    refine WL.yj (dd:=41) rfl rfl rfl (yr (l:=[.tmp 40]) Tryd.call91 rfl (.cons rfl .nil)) (.cons .here .nil) (ccz hz (.cons .here .nil) .h4 fun w pz ho=>y3U _ _ _ _ _ _ _ _ zhw w pz (z1r.mono (Zle.left _ _)) (ZS.nil _ _ _) ho) ?_
    rintro zhx zhy zhz zhA ⟨zhB,zhC⟩
    refine WL.nil ?_
    exact WX.mid (G:=Int × Int × Int × Int × Int × Int × Int × Int × Int × Int × List Int × Int × Int × Int × List Int × Zp × Option Addr × Nat × Option Addr × Nat) ⟨z14.fState.fPc,z14.fState.fLeft,z14.fState.fRegs.a0,z14.fState.fRegs.a1,z14.fState.fRegs.a2,z14.fState.fRegs.a3,z14.fX.fOp,z14.fX.fA,z14.fX.fB,z14.fX.fC,z14.fMem,z14.fAct.fKind,z14.fAct.fA,z14.fAct.fB,z14.fAct.fData,[],zhx,zhy,zhz,zhA⟩ ⟨h,(Zle.refl _),zhB,zhC⟩ (.cons rfl (.cons rfl (.cons rfl .nil))) (.cons .h5 (.cons .h3 (.cons .h2 (.cons .here .nil))))
   rcases yG h with ⟨zhD,h⟩ | h
   ·skip
    obtain ⟨z15,zhE,h⟩:=zh h
    refine WL.a (d:=39) rfl rfl rfl (y6 yI rfl (yW (k:=10) (hz.pv2 .h5) (hG0.mono (Zle.left _ _)) zhD rfl)) ?_
    refine WL.pu rfl ?_
    refine WL.yj (dd:=41) rfl rfl rfl (yr (l:=[.tmp 40]) Tryd.call92 rfl (.cons rfl .nil)) (.cons .here .nil) (ccz hz (.cons .here .nil) .h4 fun w pz ho=>y3u _ _ _ _ _ _ _ _ zhE w pz (z1r.mono (Zle.left _ _)) (ZS.nil _ _ _) ho) ?_
    rintro zhF zhG zhH zhI ⟨zhJ,zhK⟩
    refine WL.nil ?_
    exact WX.mid (G:=Int × Int × Int × Int × Int × Int × Int × Int × Int × Int × List Int × Int × Int × Int × List Int × Zp × Option Addr × Nat × Option Addr × Nat) ⟨z15.fState.fPc,z15.fState.fLeft,z15.fState.fRegs.a0,z15.fState.fRegs.a1,z15.fState.fRegs.a2,z15.fState.fRegs.a3,z15.fX.fOp,z15.fX.fA,z15.fX.fB,z15.fX.fC,z15.fMem,z15.fAct.fKind,z15.fAct.fA,z15.fAct.fB,z15.fAct.fData,[],zhF,zhG,zhH,zhI⟩ ⟨h,(Zle.refl _),zhJ,zhK⟩ (.cons rfl (.cons rfl (.cons rfl .nil))) (.cons .h5 (.cons .h3 (.cons .h2 (.cons .here .nil))))
   rcases yG h with ⟨zhL,h⟩ | h
   ·skip
    obtain ⟨z16,zhM,h⟩:=zh h
    refine WL.a (d:=39) rfl rfl rfl (y6 yI rfl (yW (k:=11) (hz.pv2 .h5) (hG0.mono (Zle.left _ _)) zhL rfl)) ?_
    refine WL.pu rfl ?_
    refine WL.yj (dd:=41) rfl rfl rfl (yr (l:=[.tmp 40]) Tryd.call93 rfl (.cons rfl .nil)) (.cons .here .nil) (ccz hz (.cons .here .nil) .h4 fun w pz ho=>y3F _ _ _ _ _ _ _ _ zhM w pz (z1r.mono (Zle.left _ _)) (ZS.nil _ _ _) ho) ?_
    rintro zhN zhO zhP zhQ ⟨zhR,zhS⟩
    refine WL.nil ?_
    exact WX.mid (G:=Int × Int × Int × Int × Int × Int × Int × Int × Int × Int × List Int × Int × Int × Int × List Int × Zp × Option Addr × Nat × Option Addr × Nat) ⟨z16.fState.fPc,z16.fState.fLeft,z16.fState.fRegs.a0,z16.fState.fRegs.a1,z16.fState.fRegs.a2,z16.fState.fRegs.a3,z16.fX.fOp,z16.fX.fA,z16.fX.fB,z16.fX.fC,z16.fMem,z16.fAct.fKind,z16.fAct.fA,z16.fAct.fB,z16.fAct.fData,[],zhN,zhO,zhP,zhQ⟩ ⟨h,(Zle.refl _),zhR,zhS⟩ (.cons rfl (.cons rfl (.cons rfl .nil))) (.cons .h5 (.cons .h3 (.cons .h2 (.cons .here .nil))))
   rcases yG h with ⟨zhT,h⟩ | h
   ·skip
    obtain ⟨z17,zhU,h⟩:=zh h
    refine WL.a (d:=39) rfl rfl rfl (y6 yI rfl (yW (k:=12) (hz.pv2 .h5) (hG0.mono (Zle.left _ _)) zhT rfl)) ?_
    refine WL.pu rfl ?_
    refine WL.yj (dd:=41) rfl rfl rfl (yr (l:=[.tmp 40]) Tryd.call94 rfl (.cons rfl .nil)) (.cons .here .nil) (ccz hz (.cons .here .nil) .h4 fun w pz ho=>y3G _ _ _ _ _ _ _ _ zhU w pz (z1r.mono (Zle.left _ _)) (ZS.nil _ _ _) ho) ?_
    rintro zhV zhW zhX zhY ⟨zhZ,zi0⟩
    refine WL.nil ?_
    exact WX.mid (G:=Int × Int × Int × Int × Int × Int × Int × Int × Int × Int × List Int × Int × Int × Int × List Int × Zp × Option Addr × Nat × Option Addr × Nat) ⟨z17.fState.fPc,z17.fState.fLeft,z17.fState.fRegs.a0,z17.fState.fRegs.a1,z17.fState.fRegs.a2,z17.fState.fRegs.a3,z17.fX.fOp,z17.fX.fA,z17.fX.fB,z17.fX.fC,z17.fMem,z17.fAct.fKind,z17.fAct.fA,z17.fAct.fB,z17.fAct.fData,[],zhV,zhW,zhX,zhY⟩ ⟨h,(Zle.refl _),zhZ,zi0⟩ (.cons rfl (.cons rfl (.cons rfl .nil))) (.cons .h5 (.cons .h3 (.cons .h2 (.cons .here .nil))))
   rcases yG h with ⟨zi1,h⟩ | h
   ·skip
    obtain ⟨z18,zi2,h⟩:=zh h
    refine WL.a (d:=39) rfl rfl rfl (y6 yI rfl (yW (k:=13) (hz.pv2 .h5) (hG0.mono (Zle.left _ _)) zi1 rfl)) ?_
    refine WL.pu rfl ?_
    refine WL.yj (dd:=41) rfl rfl rfl (yr (l:=[.tmp 40]) Tryd.call95 rfl (.cons rfl .nil)) (.cons .here .nil) (ccz hz (.cons .here .nil) .h4 fun w pz ho=>y3H _ _ _ _ _ _ _ _ zi2 w pz (z1r.mono (Zle.left _ _)) (ZS.nil _ _ _) ho) ?_
    rintro zi3 zi4 zi5 zi6 ⟨zi7,zi8⟩
    refine WL.nil ?_
    exact WX.mid (G:=Int × Int × Int × Int × Int × Int × Int × Int × Int × Int × List Int × Int × Int × Int × List Int × Zp × Option Addr × Nat × Option Addr × Nat) ⟨z18.fState.fPc,z18.fState.fLeft,z18.fState.fRegs.a0,z18.fState.fRegs.a1,z18.fState.fRegs.a2,z18.fState.fRegs.a3,z18.fX.fOp,z18.fX.fA,z18.fX.fB,z18.fX.fC,z18.fMem,z18.fAct.fKind,z18.fAct.fA,z18.fAct.fB,z18.fAct.fData,[],zi3,zi4,zi5,zi6⟩ ⟨h,(Zle.refl _),zi7,zi8⟩ (.cons rfl (.cons rfl (.cons rfl .nil))) (.cons .h5 (.cons .h3 (.cons .h2 (.cons .here .nil))))
   rcases yG h with ⟨zi9,h⟩ | h
   ·skip
    obtain ⟨z19,zia,h⟩:=zh h
    refine WL.a (d:=39) rfl rfl rfl (y6 yI rfl (yW (k:=14) (hz.pv2 .h5) (hG0.mono (Zle.left _ _)) zi9 rfl)) ?_
    refine WL.pu rfl ?_
    refine WL.y2g (dd:=41) rfl rfl rfl (yr (l:=[.tmp 40]) Tryd.call96 rfl (.cons rfl .nil)) (.cons .here .nil) (ccz hz (.cons .here .nil) .h4 fun w pz ho=>y4k _ _ _ _ _ _ _ _ zia w pz (z1r.mono (Zle.left _ _)) (ZS.nil _ _ _) ho) ?_
    rintro zib zic zid zie zif ⟨zig,zih⟩
    refine WL.merge .here .h5 ?_
    refine WL.nil ?_
    exact WX.mid (G:=Int × Int × Int × Int × Int × Int × Int × Int × Int × Int × List Int × Int × Int × Int × List Int × Zp × Option Addr × Nat × Option Addr × Nat) ⟨z19.fState.fPc,z19.fState.fLeft,z19.fState.fRegs.a0,z19.fState.fRegs.a1,z19.fState.fRegs.a2,z19.fState.fRegs.a3,z19.fX.fOp,z19.fX.fA,z19.fX.fB,z19.fX.fC,z19.fMem,z19.fAct.fKind,z19.fAct.fA,z19.fAct.fB,z19.fAct.fData,([] ++ zib),zic,zid,zie,zif⟩ ⟨h,((Zle.left _ _).trans (Zle.y5 _ _ _)),(zig.mono (Zle.y5 _ _ _)),(zih.mono (Zle.y5 _ _ _))⟩ (.cons rfl (.cons rfl (.cons rfl .nil))) (.cons .here (.cons .h3 (.cons .h2 (.cons .here .nil))))
   rcases yG h with ⟨zii,h⟩ | h
   ·skip
    obtain ⟨z1a,zij,h⟩:=zh h
    refine WL.a (d:=39) rfl rfl rfl (y6 yI rfl (yW (k:=15) (hz.pv2 .h5) (hG0.mono (Zle.left _ _)) zii rfl)) ?_
    refine WL.pu rfl ?_
    refine WL.yj (dd:=41) rfl rfl rfl (yr (l:=[.tmp 40]) Tryd.call97 rfl (.cons rfl .nil)) (.cons .here .nil) (ccz hz (.cons .here .nil) .h4 fun w pz ho=>y4l _ _ _ _ _ _ _ _ zij w pz (z1r.mono (Zle.left _ _)) (ZS.nil _ _ _) ho) ?_
    rintro zik zil zim zin ⟨zio,ziq⟩
    refine WL.nil ?_
    exact WX.mid (G:=Int × Int × Int × Int × Int × Int × Int × Int × Int × Int × List Int × Int × Int × Int × List Int × Zp × Option Addr × Nat × Option Addr × Nat) ⟨z1a.fState.fPc,z1a.fState.fLeft,z1a.fState.fRegs.a0,z1a.fState.fRegs.a1,z1a.fState.fRegs.a2,z1a.fState.fRegs.a3,z1a.fX.fOp,z1a.fX.fA,z1a.fX.fB,z1a.fX.fC,z1a.fMem,z1a.fAct.fKind,z1a.fAct.fA,z1a.fAct.fB,z1a.fAct.fData,[],zik,zil,zim,zin⟩ ⟨h,(Zle.refl _),zio,ziq⟩ (.cons rfl (.cons rfl (.cons rfl .nil))) (.cons .h5 (.cons .h3 (.cons .h2 (.cons .here .nil))))
   rcases yG h with ⟨zir,h⟩ | h
   ·skip
    obtain ⟨z1b,zis,h⟩:=zh h
    refine WL.a (d:=39) rfl rfl rfl (y6 yI rfl (yW (k:=16) (hz.pv2 .h5) (hG0.mono (Zle.left _ _)) zir rfl)) ?_
    refine WL.pu rfl ?_
    refine WL.y2g (dd:=41) rfl rfl rfl (yr (l:=[.tmp 40]) Tryd.call98 rfl (.cons rfl .nil)) (.cons .here .nil) (ccz hz (.cons .here .nil) .h4 fun w pz ho=>y3V _ _ _ _ _ _ _ _ zis w pz (z1r.mono (Zle.left _ _)) (ZS.nil _ _ _) ho) ?_
    rintro zit ziu ziv ziw zix ⟨ziy,ziz⟩
    refine WL.merge .here .h5 ?_
    refine WL.nil ?_
    exact WX.mid (G:=Int × Int × Int × Int × Int × Int × Int × Int × Int × Int × List Int × Int × Int × Int × List Int × Zp × Option Addr × Nat × Option Addr × Nat) ⟨z1b.fState.fPc,z1b.fState.fLeft,z1b.fState.fRegs.a0,z1b.fState.fRegs.a1,z1b.fState.fRegs.a2,z1b.fState.fRegs.a3,z1b.fX.fOp,z1b.fX.fA,z1b.fX.fB,z1b.fX.fC,z1b.fMem,z1b.fAct.fKind,z1b.fAct.fA,z1b.fAct.fB,z1b.fAct.fData,([] ++ zit),ziu,ziv,ziw,zix⟩ ⟨h,((Zle.left _ _).trans (Zle.y5 _ _ _)),(ziy.mono (Zle.y5 _ _ _)),(ziz.mono (Zle.y5 _ _ _))⟩ (.cons rfl (.cons rfl (.cons rfl .nil))) (.cons .here (.cons .h3 (.cons .h2 (.cons .here .nil))))
   rcases yG h with ⟨ziA,h⟩ | h
   ·skip
    obtain ⟨z1c,ziB,h⟩:=zh h
    refine WL.a (d:=39) rfl rfl rfl (y6 yI rfl (yW (k:=17) (hz.pv2 .h5) (hG0.mono (Zle.left _ _)) ziA rfl)) ?_
    refine WL.pu rfl ?_
    refine WL.yj (dd:=41) rfl rfl rfl (yr (l:=[.tmp 40]) Tryd.call99 rfl (.cons rfl .nil)) (.cons .here .nil) (ccz hz (.cons .here .nil) .h4 fun w pz ho=>y3W _ _ _ _ _ _ _ _ ziB w pz (z1r.mono (Zle.left _ _)) (ZS.nil _ _ _) ho) ?_
    rintro ziC ziD ziE ziF ⟨ziG,ziH⟩
    refine WL.nil ?_
    exact WX.mid (G:=Int × Int × Int × Int × Int × Int × Int × Int × Int × Int × List Int × Int × Int × Int × List Int × Zp × Option Addr × Nat × Option Addr × Nat) ⟨z1c.fState.fPc,z1c.fState.fLeft,z1c.fState.fRegs.a0,z1c.fState.fRegs.a1,z1c.fState.fRegs.a2,z1c.fState.fRegs.a3,z1c.fX.fOp,z1c.fX.fA,z1c.fX.fB,z1c.fX.fC,z1c.fMem,z1c.fAct.fKind,z1c.fAct.fA,z1c.fAct.fB,z1c.fAct.fData,[],ziC,ziD,ziE,ziF⟩ ⟨h,(Zle.refl _),ziG,ziH⟩ (.cons rfl (.cons rfl (.cons rfl .nil))) (.cons .h5 (.cons .h3 (.cons .h2 (.cons .here .nil))))
   rcases yG h with ⟨ziI,h⟩ | h
   ·skip
    obtain ⟨z1d,ziJ,h⟩:=zh h
    refine WL.a (d:=39) rfl rfl rfl (y6 yI rfl (yW (k:=18) (hz.pv2 .h5) (hG0.mono (Zle.left _ _)) ziI rfl)) ?_
    refine WL.pu rfl ?_
    refine WL.yj (dd:=41) rfl rfl rfl (yr (l:=[.tmp 40]) Tryd.call100 rfl (.cons rfl .nil)) (.cons .here .nil) (ccz hz (.cons .here .nil) .h4 fun w pz ho=>y3I _ _ _ _ _ _ _ _ ziJ w pz (z1r.mono (Zle.left _ _)) (ZS.nil _ _ _) ho) ?_
    rintro ziK ziL ziM ziN ⟨ziO,ziP⟩
    refine WL.nil ?_
    exact WX.mid (G:=Int × Int × Int × Int × Int × Int × Int × Int × Int × Int × List Int × Int × Int × Int × List Int × Zp × Option Addr × Nat × Option Addr × Nat) ⟨z1d.fState.fPc,z1d.fState.fLeft,z1d.fState.fRegs.a0,z1d.fState.fRegs.a1,z1d.fState.fRegs.a2,z1d.fState.fRegs.a3,z1d.fX.fOp,z1d.fX.fA,z1d.fX.fB,z1d.fX.fC,z1d.fMem,z1d.fAct.fKind,z1d.fAct.fA,z1d.fAct.fB,z1d.fAct.fData,[],ziK,ziL,ziM,ziN⟩ ⟨h,(Zle.refl _),ziO,ziP⟩ (.cons rfl (.cons rfl (.cons rfl .nil))) (.cons .h5 (.cons .h3 (.cons .h2 (.cons .here .nil))))
   rcases yG h with ⟨ziQ,h⟩ | h
   ·skip
    obtain ⟨zT,ziR,h⟩:=zh h
    refine WL.a (d:=39) rfl rfl rfl (y6 yI rfl (yW (k:=19) (hz.pv2 .h5) (hG0.mono (Zle.left _ _)) ziQ rfl)) ?_
    refine WL.pu rfl ?_
    refine WL.yj (dd:=41) rfl rfl rfl (yr (l:=[.tmp 40]) Tryd.call101 rfl (.cons rfl .nil)) (.cons .here .nil) (ccz hz (.cons .here .nil) .h4 fun w pz ho=>y3X _ _ _ _ _ _ _ _ ziR w pz (z1r.mono (Zle.left _ _)) (ZS.nil _ _ _) ho) ?_
    rintro ziS ziT ziU ziV ziW
    refine WL.nil ?_
    refine WX.freezeS (ls:=zT.fAct.fData) .h1 .h5 hz (RR.yM (enc:=e5) (fun _=>rfl) _) ?_
    intro ziX zcc ziY
    exact WX.mid (G:=Int × Int × Int × Int × Int × Int × Int × Int × Int × Int × List Int × Int × Int × Int × List Int × Zp × Option Addr × Nat × Option Addr × Nat) ⟨zT.fState.fPc,zT.fState.fLeft,zT.fState.fRegs.a0,zT.fState.fRegs.a1,zT.fState.fRegs.a2,zT.fState.fRegs.a3,zT.fX.fOp,zT.fX.fA,zT.fX.fB,zT.fX.fC,zT.fMem,zT.fAct.fKind,zT.fAct.fA,zT.fAct.fB,zT.fAct.fData,ziX,ziS,ziT,ziU,ziV⟩ ⟨h,zcc,(ziW.mono zcc),ziY⟩ (.cons rfl (.cons rfl (.cons rfl .nil))) (.cons .here (.cons .h3 (.cons .h2 (.cons .here .nil))))
   rcases yG h with ⟨ziZ,h⟩ | h
   ·skip
    obtain ⟨z1e,zj0,h⟩:=zh h
    refine WL.a (d:=39) rfl rfl rfl (y6 yI rfl (yW (k:=20) (hz.pv2 .h5) (hG0.mono (Zle.left _ _)) ziZ rfl)) ?_
    refine WL.pu rfl ?_
    refine WL.yj (dd:=41) rfl rfl rfl (yr (l:=[.tmp 40]) Tryd.call102 rfl (.cons rfl .nil)) (.cons .here .nil) (ccz hz (.cons .here .nil) .h4 fun w pz ho=>y3Y _ _ _ _ _ _ _ _ zj0 w pz (z1r.mono (Zle.left _ _)) (ZS.nil _ _ _) ho) ?_
    rintro zj1 zj2 zj3 zj4 ⟨zj5,zj6⟩
    refine WL.nil ?_
    exact WX.mid (G:=Int × Int × Int × Int × Int × Int × Int × Int × Int × Int × List Int × Int × Int × Int × List Int × Zp × Option Addr × Nat × Option Addr × Nat) ⟨z1e.fState.fPc,z1e.fState.fLeft,z1e.fState.fRegs.a0,z1e.fState.fRegs.a1,z1e.fState.fRegs.a2,z1e.fState.fRegs.a3,z1e.fX.fOp,z1e.fX.fA,z1e.fX.fB,z1e.fX.fC,z1e.fMem,z1e.fAct.fKind,z1e.fAct.fA,z1e.fAct.fB,z1e.fAct.fData,[],zj1,zj2,zj3,zj4⟩ ⟨h,(Zle.refl _),zj5,zj6⟩ (.cons rfl (.cons rfl (.cons rfl .nil))) (.cons .h5 (.cons .h3 (.cons .h2 (.cons .here .nil))))
   rcases yG h with ⟨zj7,h⟩ | h
   ·skip
    obtain ⟨z1f,zj8,h⟩:=zh h
    refine WL.a (d:=39) rfl rfl rfl (y6 yI rfl (yW (k:=21) (hz.pv2 .h5) (hG0.mono (Zle.left _ _)) zj7 rfl)) ?_
    refine WL.pu rfl ?_
    refine WL.yj (dd:=41) rfl rfl rfl (yr (l:=[.tmp 40]) Tryd.call103 rfl (.cons rfl .nil)) (.cons .here .nil) (ccz hz (.cons .here .nil) .h4 fun w pz ho=>y3Z _ _ _ _ _ _ _ _ zj8 w pz (z1r.mono (Zle.left _ _)) (ZS.nil _ _ _) ho) ?_
    rintro zj9 zja zjb zjc ⟨zjd,zje⟩
    refine WL.nil ?_
    exact WX.mid (G:=Int × Int × Int × Int × Int × Int × Int × Int × Int × Int × List Int × Int × Int × Int × List Int × Zp × Option Addr × Nat × Option Addr × Nat) ⟨z1f.fState.fPc,z1f.fState.fLeft,z1f.fState.fRegs.a0,z1f.fState.fRegs.a1,z1f.fState.fRegs.a2,z1f.fState.fRegs.a3,z1f.fX.fOp,z1f.fX.fA,z1f.fX.fB,z1f.fX.fC,z1f.fMem,z1f.fAct.fKind,z1f.fAct.fA,z1f.fAct.fB,z1f.fAct.fData,[],zj9,zja,zjb,zjc⟩ ⟨h,(Zle.refl _),zjd,zje⟩ (.cons rfl (.cons rfl (.cons rfl .nil))) (.cons .h5 (.cons .h3 (.cons .h2 (.cons .here .nil))))
   rcases yG h with ⟨zjf,h⟩ | h
   ·skip
    obtain ⟨z1g,zjg,h⟩:=zh h
    refine WL.a (d:=39) rfl rfl rfl (y6 yI rfl (yW (k:=22) (hz.pv2 .h5) (hG0.mono (Zle.left _ _)) zjf rfl)) ?_
    refine WL.pu rfl ?_
    refine WL.yj (dd:=41) rfl rfl rfl (yr (l:=[.tmp 40]) Tryd.call104 rfl (.cons rfl .nil)) (.cons .here .nil) (ccz hz (.cons .here .nil) .h4 fun w pz ho=>y40 _ _ _ _ _ _ _ _ zjg w pz (z1r.mono (Zle.left _ _)) (ZS.nil _ _ _) ho) ?_
    rintro zjh zji zjj zjk ⟨zjl,zjm⟩
    refine WL.nil ?_
    exact WX.mid (G:=Int × Int × Int × Int × Int × Int × Int × Int × Int × Int × List Int × Int × Int × Int × List Int × Zp × Option Addr × Nat × Option Addr × Nat) ⟨z1g.fState.fPc,z1g.fState.fLeft,z1g.fState.fRegs.a0,z1g.fState.fRegs.a1,z1g.fState.fRegs.a2,z1g.fState.fRegs.a3,z1g.fX.fOp,z1g.fX.fA,z1g.fX.fB,z1g.fX.fC,z1g.fMem,z1g.fAct.fKind,z1g.fAct.fA,z1g.fAct.fB,z1g.fAct.fData,[],zjh,zji,zjj,zjk⟩ ⟨h,(Zle.refl _),zjl,zjm⟩ (.cons rfl (.cons rfl (.cons rfl .nil))) (.cons .h5 (.cons .h3 (.cons .h2 (.cons .here .nil))))
   rcases yG h with ⟨zjn,h⟩ | h
   ·skip
    obtain ⟨z1h,zjo,h⟩:=zh h
    refine WL.a (d:=39) rfl rfl rfl (y6 yI rfl (yW (k:=23) (hz.pv2 .h5) (hG0.mono (Zle.left _ _)) zjn rfl)) ?_
    refine WL.pu rfl ?_
    refine WL.y2g (dd:=41) rfl rfl rfl (yr (l:=[.tmp 40]) Tryd.call105 rfl (.cons rfl .nil)) (.cons .here .nil) (ccz hz (.cons .here .nil) .h4 fun w pz ho=>y4m _ _ _ _ _ _ _ _ zjo w pz (z1r.mono (Zle.left _ _)) (ZS.nil _ _ _) ho) ?_
    rintro zjp zjq zjr zjs zjt ⟨zju,zjv⟩
    refine WL.merge .here .h5 ?_
    refine WL.nil ?_
    exact WX.mid (G:=Int × Int × Int × Int × Int × Int × Int × Int × Int × Int × List Int × Int × Int × Int × List Int × Zp × Option Addr × Nat × Option Addr × Nat) ⟨z1h.fState.fPc,z1h.fState.fLeft,z1h.fState.fRegs.a0,z1h.fState.fRegs.a1,z1h.fState.fRegs.a2,z1h.fState.fRegs.a3,z1h.fX.fOp,z1h.fX.fA,z1h.fX.fB,z1h.fX.fC,z1h.fMem,z1h.fAct.fKind,z1h.fAct.fA,z1h.fAct.fB,z1h.fAct.fData,([] ++ zjp),zjq,zjr,zjs,zjt⟩ ⟨h,((Zle.left _ _).trans (Zle.y5 _ _ _)),(zju.mono (Zle.y5 _ _ _)),(zjv.mono (Zle.y5 _ _ _))⟩ (.cons rfl (.cons rfl (.cons rfl .nil))) (.cons .here (.cons .h3 (.cons .h2 (.cons .here .nil))))
   rcases yG h with ⟨zjw,h⟩ | h
   ·skip
    obtain ⟨zU,zjx,h⟩:=zh h
    refine WL.a (d:=39) rfl rfl rfl (y6 yI rfl (yW (k:=24) (hz.pv2 .h5) (hG0.mono (Zle.left _ _)) zjw rfl)) ?_
    refine WL.pu rfl ?_
    refine WL.yj (dd:=41) rfl rfl rfl (yr (l:=[.tmp 40]) Tryd.call106 rfl (.cons rfl .nil)) (.cons .here .nil) (ccz hz (.cons .here .nil) .h4 fun w pz ho=>y3J _ _ _ _ _ _ _ _ zjx w pz (z1r.mono (Zle.left _ _)) (ZS.nil _ _ _) ho) ?_
    rintro zjy zjz zjA zjB zjC
    refine WL.nil ?_
    refine WX.freezeS (ls:=zU.fAct.fData) .h1 .h5 hz (RR.yM (enc:=e5) (fun _=>rfl) _) ?_
    intro zjD zcd zjE
    exact WX.mid (G:=Int × Int × Int × Int × Int × Int × Int × Int × Int × Int × List Int × Int × Int × Int × List Int × Zp × Option Addr × Nat × Option Addr × Nat) ⟨zU.fState.fPc,zU.fState.fLeft,zU.fState.fRegs.a0,zU.fState.fRegs.a1,zU.fState.fRegs.a2,zU.fState.fRegs.a3,zU.fX.fOp,zU.fX.fA,zU.fX.fB,zU.fX.fC,zU.fMem,zU.fAct.fKind,zU.fAct.fA,zU.fAct.fB,zU.fAct.fData,zjD,zjy,zjz,zjA,zjB⟩ ⟨h,zcd,(zjC.mono zcd),zjE⟩ (.cons rfl (.cons rfl (.cons rfl .nil))) (.cons .here (.cons .h3 (.cons .h2 (.cons .here .nil))))
   rcases yG h with ⟨zjF,h⟩ | h
   ·skip
    obtain ⟨zV,zjG,h⟩:=zh h
    refine WL.a (d:=39) rfl rfl rfl (y6 yI rfl (yW (k:=25) (hz.pv2 .h5) (hG0.mono (Zle.left _ _)) zjF rfl)) ?_
    refine WL.pu rfl ?_
    refine WL.yj (dd:=41) rfl rfl rfl (yr (l:=[.tmp 40]) Tryd.call107 rfl (.cons rfl .nil)) (.cons .here .nil) (ccz hz (.cons .here .nil) .h4 fun w pz ho=>y41 _ _ _ _ _ _ _ _ zjG w pz (z1r.mono (Zle.left _ _)) (ZS.nil _ _ _) ho) ?_
    rintro zjH zjI zjJ zjK zjL
    refine WL.nil ?_
    refine WX.freezeS (ls:=zV.fAct.fData) .h1 .h5 hz (RR.yM (enc:=e5) (fun _=>rfl) _) ?_
    intro zjM zce zjN
    exact WX.mid (G:=Int × Int × Int × Int × Int × Int × Int × Int × Int × Int × List Int × Int × Int × Int × List Int × Zp × Option Addr × Nat × Option Addr × Nat) ⟨zV.fState.fPc,zV.fState.fLeft,zV.fState.fRegs.a0,zV.fState.fRegs.a1,zV.fState.fRegs.a2,zV.fState.fRegs.a3,zV.fX.fOp,zV.fX.fA,zV.fX.fB,zV.fX.fC,zV.fMem,zV.fAct.fKind,zV.fAct.fA,zV.fAct.fB,zV.fAct.fData,zjM,zjH,zjI,zjJ,zjK⟩ ⟨h,zce,(zjL.mono zce),zjN⟩ (.cons rfl (.cons rfl (.cons rfl .nil))) (.cons .here (.cons .h3 (.cons .h2 (.cons .here .nil))))
   cases h
  ·rintro z2Y z2Z z30 z31 z32 z33 z4F z4G z4H z4I z3T z34 z35 z36 z2P z4J z6B z6C z4K z4L ⟨h,zmu,zmv,zjO⟩
   replace h:=(zgo z2Y z2Z z30 z31 z32 z33 z4F z4G z4H z4I z3T z34 z35 z36 z2P).symm.trans h
   refine WC.b ?_
   refine WC.y1n (fun i=>[8,9].contains i) [stb z8I 65 [(.int .i64 z2Y),(.int .i64 z2Z),(.int .u8 z30),(.int .u8 z31),(.int .u8 z32),(.int .u8 z33),(.int .u8 z4F),(.int .i64 z4G),(.int .i64 z4H),(.int .i64 z4I),(.slice z6B z3T.length z6C),(.int .u8 z34),(.int .i64 z35),(.int .i64 z36),(.slice z4K z2P.length z4L)]] rfl ?_
   refine WD.a (i:=0) (d:=42) (by kernel_rfl) rfl z7 z8 rfl rfl rfl (fun _=>q_m rfl) ?_
   refine WD.a (i:=1) (d:=43) (by kernel_rfl) rfl z7 z8 rfl rfl rfl (fun _=>y7 rfl) ?_
   refine WD.a (i:=2) (d:=44) (by kernel_rfl) rfl z7 z8 rfl rfl rfl (fun _=>y4 y1j rfl rfl) ?_
   refine WD.e (i:=3) (d:=45) (by kernel_rfl) rfl z7 z8 rfl rfl rfl (y4O (cs:=[(.int .i64 z2Y),(.int .i64 z2Z),(.int .u8 z30),(.int .u8 z31),(.int .u8 z32),(.int .u8 z33)]) y1W rfl rfl (y5L (s:=6) .h3 rfl)) ?_
   refine WD.a (i:=4) (d:=46) (by kernel_rfl) rfl z7 z8 rfl rfl rfl (fun _=>q_m rfl) ?_
   refine WD.a (i:=5) (d:=47) (by kernel_rfl) rfl z7 z8 rfl rfl rfl (fun _=>y7 rfl) ?_
   refine WD.a (i:=6) (d:=48) (by kernel_rfl) rfl z7 z8 rfl rfl rfl (fun _=>y4 y3i rfl rfl) ?_
   refine WD.y6F (i:=7) (d:=49) (by kernel_rfl) rfl z7 z8 rfl rfl rfl (Sin.of (.cons .h3 .nil)) (y4O (cs:=[(.int .u8 z34),(.int .i64 z35),(.int .i64 z36),(.slice z4K z2P.length z4L)]) y2N rfl rfl (y5L (s:=4) .here rfl)) ?_
   refine WD.forced0 (i:=8) rfl (by kernel_rfl) rfl rfl rfl (Sin.of (.cons .h3 .nil)) (yu y1V rfl rfl rfl .h1 rfl rfl rfl) ?_
   refine WD.y2q (i:=9) rfl (by kernel_rfl) rfl rfl rfl (by kernel_rfl) (yu y1Y rfl rfl rfl .h2 rfl rfl rfl) ?_
   refine WD.done (by kernel_rfl) ?_
   refine WX.a (WC.ret ?_)
   obtain rfl:=Option.some.inj h
   refine WX.yf Tryd.results18 (.agg rfl y1W rfl (yR .h1) (.agg rfl y2N rfl (yR .here) .nil)) (fun w hw=>?_)
   exact ⟨z4J,z4K,z4L,ret2 rfl rfl,zjO,hw.sub (.cons .h2 .nil)⟩
def y1Z (z1U : Sapi_Ins) (z6X : List Sapi_Ins) : Option Bool :=
 (y2d z1U ((z6X.length : Nat) : Int)).bind fun zcf=>some (!zcf)
set_option maxRecDepth 20000 in
theorem y5o (Z : Zp) (z7E : Addr) (zcg : Option Addr) (zch : Nat) (z1U : Sapi_Ins) (z6X : List Sapi_Ins) (r : Bool)
  (h : y1Z z1U z6X = some r) (w₀ : World) (hz : PZ [] w₀ Z)
  (hG1 : ZS Z 1 (p74 Z) (some ⟨1,0,none⟩) 26 yP)
  (zmw : ZS Z 4 (fun r x=>r = e33 x) zcg zch z6X)
  (zjP : ZC Z z7E [(.slice zcg z6X.length zch)]) :
  Calls Tryd.prog 31 #[(.agg #[(.int .u8 z1U.fOp),(.int .i64 z1U.fA),(.int .i64 z1U.fB),(.int .i64 z1U.fC)]),(.pointer (some z7E))] w₀ fun e w'=>e = .returned (.bool r) ∧ Hp [] w₀ w' []:=by
 unfold y1Z at h
 refine Calls.y9 (vs:=[(.agg #[(.int .u8 z1U.fOp),(.int .i64 z1U.fA),(.int .i64 z1U.fB),(.int .i64 z1U.fC)]),(.pointer (some z7E))]) (pre:=[]) (env:=[(0,(.agg #[(.int .u8 z1U.fOp),(.int .i64 z1U.fA),(.int .i64 z1U.fB),(.int .i64 z1U.fC)])),(1,(.pointer (some z7E)))]) Tryd.func31 rfl Tryd.ntmps31 rfl (Hp.nil w₀ _) rfl ?_
 refine WC.b (WC.a ?_)
 refine WL.new (dd:=2) rfl rfl rfl (y3e (cs:=[(.int .u8 z1U.fOp),(.int .i64 z1U.fA),(.int .i64 z1U.fB),(.int .i64 z1U.fC)]) rfl rfl) ?_
 intro zmx _
 refine WL.pu rfl (WL.nil (WX.a (WC.b ?_)))
 obtain ⟨zcf,zjQ,h⟩:=zh h
 refine WC.a ?_
 refine WL.a (d:=4) rfl rfl rfl (yT y2M rfl (yR .here) rfl) ?_
 refine WL.a (d:=5) rfl rfl rfl (y6 y2O rfl (y2H hz.pv zjP rfl)) ?_
 refine WL.a (d:=6) rfl rfl rfl (y27 Tryd.underlying22 rfl) ?_
 refine WL.b (dd:=7) rfl rfl rfl (zI (l:=[.tmp 4,.tmp 6]) Tryd.call32 (.cons rfl (.cons rfl .nil))) .nil (cc hz .nil fun w pz ho=>y4L _ _ _ _ zjQ w pz hG1) ?_
 refine WL.pu rfl (WL.pu rfl (WL.nil (WX.a (WC.ret ?_))))
 obtain rfl:=Option.some.inj h
 refine WX.yf Tryd.results31 (.tmp rfl .nil) (fun w hw=>?_)
 exact ⟨y17 rfl,hw.sub .nil⟩
def ym (z1t : List Sapi_Ins) (z2Q : Sapi_Ins → Option Bool) (z3U : Option Int) : Nat → Int → Option Int
 | 0,_=>none
 | z8J + 1,z1w=>if decide (z1w < ((z1t.length : Nat) : Int)) then chk ((0 : Int) ≤ z1w ∧ z1w < ((z1t.length : Nat) : Int)) ((z2Q (⟨((nth z1t z1w).fOp),((nth z1t z1w).fA),((nth z1t z1w).fB),((nth z1t z1w).fC)⟩ : Sapi_Ins)).bind fun z8K=>if z8K then some z1w else ym z1t z2Q z3U z8J (i64 (z1w + 1))) else z3U
theorem y2f {n : Nat} {z1t : List Sapi_Ins} {z2Q : Sapi_Ins → Option Bool} {z3U : Option Int} {z1w : Int} {r : Int} (h : ym z1t z2Q z3U n z1w = some r) : ∃ m,n = m + 1:=by
 cases n with
 | zero=>cases h
 | succ m=>exact ⟨m,rfl⟩
def yO (z1t : List Sapi_Ins) (z2Q : Sapi_Ins → Option Bool) : Option Int :=
 jp0 (some (-1)) fun z3U=>ym z1t z2Q z3U y1o 0
set_option maxRecDepth 20000 in
theorem y2C (Z : Zp) (z6Y : Option Addr) (z6Z : Nat) (z3V : FuncId) (z5f : List Value) (z1t : List Sapi_Ins) (z2Q : Sapi_Ins → Option Bool) (r : Int)
  (h : yO z1t z2Q = some r) (w₀ : World) (hz : PZ [] w₀ Z)
  (zjR : ZS Z 4 (fun r x=>r = e33 x) z6Y z6Z z1t)
  (zjS : ∀ args w,(callFunc z3V args).run Tryd.prog w = .ok (.enter z3V args) w)
  (zjT : ∀ w : World,PZ [] w Z → ∀ (x0 : Sapi_Ins) (r : Bool),z2Q x0 = some r → Calls Tryd.prog z3V (([(.agg #[(.int .u8 x0.fOp),(.int .i64 x0.fA),(.int .i64 x0.fB),(.int .i64 x0.fC)])] : List Value) ++ z5f).toArray w fun e w'=>e = .returned (.bool r) ∧ Hp [] w w' []) :
  Calls Tryd.prog 42 #[(.slice z6Y z1t.length z6Z),(.func (.func z3V) #[] (z5f).toArray)] w₀ fun e w'=>e = .returned (.int .i64 r) ∧ Hp [] w₀ w' []:=by
 unfold yO at h
 refine Calls.y9 (vs:=[(.slice z6Y z1t.length z6Z),(.func (.func z3V) #[] (z5f).toArray)]) (pre:=[]) (env:=[(0,(.slice z6Y z1t.length z6Z)),(1,(.func (.func z3V) #[] (z5f).toArray))]) Tryd.func42 rfl Tryd.ntmps42 rfl (Hp.nil w₀ _) rfl ?_
 refine WC.b (WC.a (WL.pu rfl (WL.nil (WX.a ?_))))
 obtain ⟨z3U,zjU,h⟩:=y3n h
 refine WC.y2Y ((z3U = some r)) ([]) ([]) ?_ ?_
 ·skip
  refine WC.b (WC.a (WL.pu rfl ?_))
  refine WL.a (d:=7) rfl rfl rfl (y27 Tryd.underlying22 rfl) ?_
  refine WL.pu rfl (WL.nil (WX.a (WC.block ?_)))
  refine WC.y48 (fun (z6D : Nat) (z1w : Int)=>(ym z1t z2Q z3U z6D z1w = some r)) (fun (z6D : Nat) (z1w : Int)=>[(0,(.slice z6Y z1t.length z6Z)),(1,(.func (.func z3V) #[] (z5f).toArray)),(7,(.int .i64 ((z1t.length : Nat) : Int))),(8,(.int .i64 z1w))]) (fun (z6D : Nat) (z1w : Int)=>[]) (fun (z6D : Nat) (z1w : Int)=>z6D) ⟨y1o,0⟩ h (.cons rfl (.cons rfl (.cons rfl (.cons rfl .nil)))) .nil ?_
  rintro z6D z1w h
  obtain ⟨z8J,rfl⟩:=y2f h
  rw [ym] at h
  refine WC.b (WC.a (WL.pu rfl (WL.nil (WX.a (WC.b ?_)))))
  refine WC.cond rfl (fun z8L=>?_) (fun z8L=>?_)
  ·replace h:=yn h z8L
   refine WC.skip (WX.a (WC.b (WC.block (WC.b (WC.a (WL.pu rfl (WL.pu rfl (WL.nil (WX.a (WC.b ?_))))))))))
   obtain ⟨zjV,h⟩:=ya h
   obtain ⟨z8K,zjW,h⟩:=zh h
   refine WC.a (WL.pu rfl (WL.pu rfl (WL.pu rfl ?_)))
   refine WL.znth (dd:=14) rfl rfl (Z:=Z) (Pr:=(fun r x=>r = e33 x)) y2E rfl rfl zjR zjV ?_
   rintro zmy zmz zjX zmA rfl
   refine WL.a (d:=15) rfl rfl rfl (yT y2M rfl (rd_zs hz.pv zjX) rfl) ?_
   refine WL.b (dd:=16) rfl rfl rfl (yr (l:=[.tmp 15]) (f:=z3V) (caps:=z5f) zjS rfl (.cons rfl .nil)) .nil (fun w hw=>zjT w (hz.now hw) (⟨((nth z1t z1w).fOp),((nth z1t z1w).fA),((nth z1t z1w).fB),((nth z1t z1w).fC)⟩ : Sapi_Ins) z8K  zjW) ?_
   refine WL.nil (WX.a ?_)
   refine WC.cond rfl (fun z8M=>?_) (fun z8M=>?_)
   ·replace h:=yn h z8M
    refine WC.b (WC.a (WL.pu rfl (WL.pu rfl (WL.nil (WX.a (WC.ret (WX.yD (WX.yd (WX.yd (WX.yD (WX.yd ?_)))))))))))
    obtain rfl:=Option.some.inj h
    refine WX.yf Tryd.results42 (.tmp rfl .nil) (fun w hw=>?_)
    exact ⟨y17 rfl,hw.sub .nil⟩
   ·replace h:=yo h z8M
    refine WC.skip (WX.yi (WX.a (WC.a (WL.pu rfl (WL.pu rfl (WL.nil ?_))))))
    exact WX.round (G:=Nat × Int) ⟨z8J,(i64 (z1w + 1))⟩ h (Nat.lt_succ_self _) (.cons rfl (.cons rfl (.cons rfl (.cons rfl .nil)))) .nil
  ·replace h:=yo h z8L
   refine WC.exit (WX.yA (WX.yA (WX.y1s ?_)))
   exact WX.mid (G:=Unit) () h .nil .nil
 ·rintro  h
  replace h:=zjU.symm.trans h
  refine WC.b (WC.a (WL.pu rfl (WL.nil (WX.a (WC.ret ?_)))))
  obtain rfl:=Option.some.inj h
  refine WX.yf Tryd.results42 (.tmp rfl .nil) (fun w hw=>?_)
  exact ⟨y17 rfl,hw.sub .nil⟩
def yE (z5g : List Sapi_Ins) (z6E : Sapi_Ins → Option Bool) : Option Bool :=
 (yO z5g z6E).bind fun zci=>some (decide (zci ≥ 0))
set_option maxRecDepth 20000 in
theorem y2o (Z : Zp) (z7F : Option Addr) (z7G : Nat) (z4M : FuncId) (z6F : List Value) (z5g : List Sapi_Ins) (z6E : Sapi_Ins → Option Bool) (r : Bool)
  (h : yE z5g z6E = some r) (w₀ : World) (hz : PZ [] w₀ Z)
  (zjY : ZS Z 4 (fun r x=>r = e33 x) z7F z7G z5g)
  (zjZ : ∀ args w,(callFunc z4M args).run Tryd.prog w = .ok (.enter z4M args) w)
  (zk0 : ∀ w : World,PZ [] w Z → ∀ (x0 : Sapi_Ins) (r : Bool),z6E x0 = some r → Calls Tryd.prog z4M (([(.agg #[(.int .u8 x0.fOp),(.int .i64 x0.fA),(.int .i64 x0.fB),(.int .i64 x0.fC)])] : List Value) ++ z6F).toArray w fun e w'=>e = .returned (.bool r) ∧ Hp [] w w' []) :
  Calls Tryd.prog 30 #[(.slice z7F z5g.length z7G),(.func (.func z4M) #[] (z6F).toArray)] w₀ fun e w'=>e = .returned (.bool r) ∧ Hp [] w₀ w' []:=by
 unfold yE at h
 refine Calls.y9 (vs:=[(.slice z7F z5g.length z7G),(.func (.func z4M) #[] (z6F).toArray)]) (pre:=[]) (env:=[(0,(.slice z7F z5g.length z7G)),(1,(.func (.func z4M) #[] (z6F).toArray))]) Tryd.func30 rfl Tryd.ntmps30 rfl (Hp.nil w₀ _) rfl ?_
 refine WC.b (WC.a (WL.pu rfl (WL.nil (WX.a (WC.b ?_)))))
 obtain ⟨zci,zk1,h⟩:=zh h
 refine WC.a (WL.pu rfl (WL.pu rfl ?_))
 refine WL.b (dd:=7) rfl rfl rfl (zI (l:=[.tmp 5,.tmp 6]) Tryd.call42 (.cons rfl (.cons rfl .nil))) .nil (cc hz .nil fun w pz ho=>y2C _ _ _ (z3V:=z4M) (z5f:=z6F) _ (z2Q:=z6E) _ zk1 w pz zjY zjZ zk0) ?_
 refine WL.pu rfl (WL.pu rfl (WL.nil (WX.a (WC.ret ?_))))
 obtain rfl:=Option.some.inj h
 refine WX.yf Tryd.results30 (.tmp rfl .nil) (fun w hw=>?_)
 exact ⟨y17 rfl,hw.sub .nil⟩
def y2u (z37 : List Sapi_Ins) : Option Bool :=
 (yE z37 (fun (y0 : Sapi_Ins)=>y1Z y0 z37)).bind fun zcj=>some (!zcj)
set_option maxRecDepth 20000 in
theorem y5Z (Z : Zp) (z70 : Option Addr) (z71 : Nat) (z37 : List Sapi_Ins) (r : Bool)
  (h : y2u z37 = some r) (w₀ : World) (hz : PZ [] w₀ Z)
  (hG1 : ZS Z 1 (p74 Z) (some ⟨1,0,none⟩) 26 yP)
  (zck : ZS Z 4 (fun r x=>r = e33 x) z70 z71 z37) :
  Calls Tryd.prog 14 #[(.slice z70 z37.length z71)] w₀ fun e w'=>e = .returned (.bool r) ∧ Hp [] w₀ w' []:=by
 unfold y2u at h
 refine Calls.y9 (vs:=[(.slice z70 z37.length z71)]) (pre:=[]) (env:=[(0,(.slice z70 z37.length z71))]) Tryd.func14 rfl Tryd.ntmps14 rfl (Hp.nil w₀ _) rfl ?_
 refine WC.b (WC.a ?_)
 refine WL.new (dd:=1) rfl rfl rfl (y3e (cs:=[(.slice z70 z37.length z71)]) rfl rfl) ?_
 intro zk2 _
 refine WL.pu rfl (WL.nil (WX.a (WC.b ?_)))
 obtain ⟨zcj,zk3,h⟩:=zh h
 refine WC.a ?_
 refine WL.a (d:=3) rfl rfl rfl (y6 y2O rfl (yb .here rfl)) ?_
 refine WL.a (d:=4) rfl rfl rfl (y56 (Eos.caps (l:=[.tmp 1]) (.cons rfl .nil))) ?_
 refine WL.b (dd:=5) rfl rfl rfl (zI (l:=[.tmp 3,.tmp 4]) Tryd.call30 (.cons rfl (.cons rfl .nil))) .nil (ccl hz .nil (.cons .here .nil) fun w pz ho la=>y2o _ _ _ (z4M:=31) (z6F:=[(.pointer (some ⟨zk2,0,none⟩))]) _ (z6E:=(fun (y0 : Sapi_Ins)=>y1Z y0 z37)) _ zk3 w pz (zck.mono (Zle.left _ _)) Tryd.call31 (fun w' hz' y0  r  hr=>y5o _ _ _ _ _ _ _ hr w' hz' ((hG1.mono (Zle.left _ _)).weak (fun _ _ h=>yV (Zle.left _ _) h)) (zck.mono (Zle.left _ _)) ((la _ (.head _) _).stb))) ?_
 refine WL.pu rfl (WL.pu rfl (WL.nil (WX.a (WC.ret ?_))))
 obtain rfl:=Option.some.inj h
 refine WX.yf Tryd.results14 (.tmp rfl .nil) (fun w hw=>?_)
 exact ⟨y17 rfl,hw.sub .nil⟩
def ys (zK : List Int) (zJ : Int) (z3W : (List Int) → Int → Option (List Int)) : Nat → (List Int) → Int → Int → Option (List Int)
 | 0,_,_,_=>none
 | z8N + 1,zQ,z1E,k2_9039=>if decide (k2_9039 < ((zK.length - (zJ : Int).toNat : Nat) : Int)) then jp2 (fun (z2y : List Int) (z3X : Int)=>ys zK zJ z3W z8N z2y z3X (i64 (k2_9039 + 1))) fun z7H=>chk ((0 : Int) ≤ k2_9039 ∧ k2_9039 < ((zK.length - (zJ : Int).toNat : Nat) : Int)) (chk ((0 : Int) ≤ (i64 (k2_9039 - 1)) ∧ (i64 (k2_9039 - 1)) < ((zK.length - (zJ : Int).toNat : Nat) : Int)) (if decide ((nth zQ (zJ + k2_9039)) ≠ (nth zQ (zJ + (i64 (k2_9039 - 1))))) then chk ((0 : Int) ≤ k2_9039 ∧ k2_9039 < ((zK.length - (zJ : Int).toNat : Nat) : Int)) (chk ((0 : Int) ≤ z1E ∧ z1E < ((zQ.length : Nat) : Int)) (z7H (zQ.set (z1E : Int).toNat (nth zQ (zJ + k2_9039))) (i64 (z1E + 1)))) else z7H zQ z1E)) else z3W zQ z1E
theorem y2I {n : Nat} {zK : List Int} {zJ : Int} {z3W : (List Int) → Int → Option (List Int)} {zQ : List Int} {z1E : Int} {k2_9039 : Int} {r : List Int} (h : ys zK zJ z3W n zQ z1E k2_9039 = some r) : ∃ m,n = m + 1:=by
 cases n with
 | zero=>cases h
 | succ m=>exact ⟨m,rfl⟩
def yx (zK : List Int) (z3Y : Option (List Int)) : Nat → Int → Option (List Int)
 | 0,_=>none
 | z8O + 1,zJ=>if decide (zJ < ((zK.length : Nat) : Int)) then jp0 (yx zK z3Y z8O (i64 (zJ + 1))) fun z8P=>chk ((0 : Int) ≤ zJ ∧ zJ < ((zK.length : Nat) : Int)) (chk ((0 : Int) ≤ (i64 (zJ - 1)) ∧ (i64 (zJ - 1)) < ((zK.length : Nat) : Int)) (if decide ((nth zK zJ) = (nth zK (i64 (zJ - 1)))) then chk ((0 : Int) ≤ zJ ∧ zJ < ((zK.length : Nat) : Int)) (jp2 (fun (z1F : List Int) (z1G : Int)=>chk ((0 : Int) ≤ z1G ∧ z1G ≤ ((z1F.length : Nat) : Int)) (chk ((0 : Int) ≤ z1G ∧ z1G ≤ (((z1F.take (z1G : Int).toNat ++ List.replicate (z1F.length - (z1G : Int).toNat) (0 : Int)).length : Nat) : Int)) (some ((z1F.take (z1G : Int).toNat ++ List.replicate (z1F.length - (z1G : Int).toNat) (0 : Int)).take (z1G : Int).toNat)))) fun z3W=>ys zK zJ z3W y1o zK zJ 1) else z8P)) else z3Y
theorem y2J {n : Nat} {zK : List Int} {z3Y : Option (List Int)} {zJ : Int} {r : List Int} (h : yx zK z3Y n zJ = some r) : ∃ m,n = m + 1:=by
 cases n with
 | zero=>cases h
 | succ m=>exact ⟨m,rfl⟩
def yy (zK : List Int) : Option (List Int) :=
 if decide (((zK.length : Nat) : Int) < 2) then some zK else jp0 (some zK) fun z3Y=>yx zK z3Y y1o 1
set_option maxRecDepth 20000 in
theorem y3q (Z : Zp) (z27 : Option Addr) (z1l : Nat) (zK : List Int) (r : List Int)
  (h : yy zK = some r) (w₀ : World) (hz : PZ (fps [row (.slice z27 zK.length z1l) 3 1 (zK.flatMap e3)]) w₀ Z)
  (hown : Hp (fps [row (.slice z27 zK.length z1l) 3 1 (zK.flatMap e3)]) w₀ w₀ [row (.slice z27 zK.length z1l) 3 1 (zK.flatMap e3)]) :
  Calls Tryd.prog 35 #[(.slice z27 zK.length z1l)] w₀ fun e w'=>∃ zcl : Option Addr,∃ zcm : Nat,e = .returned (.slice zcl r.length zcm) ∧ True ∧ Hp (fps [row (.slice z27 zK.length z1l) 3 1 (zK.flatMap e3)]) w₀ w' [row (.slice zcl r.length zcm) 3 1 (r.flatMap e3)]:=by
 unfold yy at h
 refine Calls.y9 (vs:=[(.slice z27 zK.length z1l)]) (pre:=[row (.slice z27 zK.length z1l) 3 1 (zK.flatMap e3)]) (env:=[(0,(.slice z27 zK.length z1l))]) Tryd.func35 rfl Tryd.ntmps35 rfl (hown) rfl ?_
 refine WC.b (WC.a (WL.pu rfl (WL.nil (WX.a (WC.b (WC.b (WC.a (WL.pu rfl ?_))))))))
 refine WL.a (d:=7) rfl rfl rfl (y27 Tryd.underlying30 rfl) ?_
 refine WL.pu rfl (WL.nil (WX.a ?_))
 refine WC.cond rfl (fun z8Q=>?_) (fun z8Q=>?_)
 ·replace h:=yn h z8Q
  refine WC.b (WC.a (WL.pu rfl (WL.pu rfl (WL.nil (WX.a (WC.ret (WX.yd ?_)))))))
  obtain rfl:=Option.some.inj h
  refine WX.yf Tryd.results35 (.tmp rfl .nil) (fun w hw=>?_)
  exact ⟨z27,z1l,y17 rfl,trivial,hw.sub (.cons .here .nil)⟩
 ·replace h:=yo h z8Q
  refine WC.skip (WX.a ?_)
  obtain ⟨z3Y,zk4,h⟩:=y3n h
  refine WC.y2Y ((z3Y = some r)) ([(0,(.slice z27 zK.length z1l))]) ([row (.slice z27 zK.length z1l) 3 1 (zK.flatMap e3)]) ?_ ?_
  ·skip
   refine WC.b (WC.a (WL.pu rfl (WL.nil (WX.a (WC.block ?_)))))
   refine WC.y48 (fun (z6G : Nat) (zJ : Int)=>(yx zK z3Y z6G zJ = some r)) (fun (z6G : Nat) (zJ : Int)=>[(0,(.slice z27 zK.length z1l)),(3,(.int .i64 zJ))]) (fun (z6G : Nat) (zJ : Int)=>[row (.slice z27 zK.length z1l) 3 1 (zK.flatMap e3)]) (fun (z6G : Nat) (zJ : Int)=>z6G) ⟨y1o,1⟩ h (.cons rfl (.cons rfl .nil)) (.cons .here .nil) ?_
   rintro z6G zJ h
   obtain ⟨z8O,rfl⟩:=y2J h
   rw [yx] at h
   refine WC.b (WC.b (WC.a (WL.pu rfl (WL.pu rfl ?_))))
   refine WL.a (d:=12) rfl rfl rfl (y27 Tryd.underlying30 rfl) ?_
   refine WL.pu rfl (WL.nil (WX.a ?_))
   refine WC.cond rfl (fun z8R=>?_) (fun z8R=>?_)
   ·replace h:=yn h z8R
    refine WC.skip (WX.a ?_)
    obtain ⟨z8P,zk5,h⟩:=y3n h
    refine WC.y2Y ((z8P = some r)) ([(0,(.slice z27 zK.length z1l)),(3,(.int .i64 zJ))]) ([row (.slice z27 zK.length z1l) 3 1 (zK.flatMap e3)]) ?_ ?_
    ·skip
     refine WC.block (WC.b ?_)
     obtain ⟨z72,h⟩:=ya h
     obtain ⟨z7I,h⟩:=ya h
     refine WC.y1n (fun i=>[].contains i) [] rfl ?_
     refine WD.a (i:=0) (d:=16) (by kernel_rfl) rfl z7 z8 rfl rfl rfl (fun _=>q_m rfl) ?_
     refine WD.a (i:=1) (d:=17) (by kernel_rfl) rfl z7 z8 rfl rfl rfl (fun _=>q_m rfl) ?_
     refine WD.know (fun w hw=>Hp.y4B .here hw (by intro hz'; have:=z72; rw [hz'] at this; omega)) ?_
     rintro ⟨z2z,rfl⟩
     refine WD.a (i:=2) (d:=18) (by kernel_rfl) rfl z7 z8 rfl rfl rfl (fun _=>yL yC rfl rfl z72.1 z72.2 y30) ?_
     refine WD.e (i:=3) (d:=19) (by kernel_rfl) rfl z7 z8 rfl rfl rfl (y6 yg rfl (y2V .here ((y2y (enc:=e3) (l:=zK) (i:=zJ) (sz:=1) (fun _=>rfl) z72.1 z72.2) 0 _ rfl))) ?_
     refine WD.a (i:=4) (d:=20) (by kernel_rfl) rfl z7 z8 rfl rfl rfl (fun _=>q_m rfl) ?_
     refine WD.a (i:=5) (d:=21) (by kernel_rfl) rfl z7 z8 rfl rfl rfl (fun _=>q_m rfl) ?_
     refine WD.a (i:=6) (d:=22) (by kernel_rfl) rfl z7 z8 rfl rfl rfl (fun _=>q_sub rfl rfl rfl) ?_
     refine WD.a (i:=7) (d:=23) (by kernel_rfl) rfl z7 z8 rfl rfl rfl (fun _=>yL yC rfl rfl z7I.1 z7I.2 y30) ?_
     refine WD.e (i:=8) (d:=24) (by kernel_rfl) rfl z7 z8 rfl rfl rfl (y6 yg rfl (y2V .here ((y2y (enc:=e3) (l:=zK) (i:=i64 (zJ - 1)) (sz:=1) (fun _=>rfl) z7I.1 z7I.2) 0 _ rfl))) ?_
     refine WD.a (i:=9) (d:=25) (by kernel_rfl) rfl z7 z8 rfl rfl rfl (fun _=>q_eql rfl rfl) ?_
     refine WD.done (by kernel_rfl) ?_
     refine WX.a ?_
     refine WC.cond rfl (fun z8S=>?_) (fun z8S=>?_)
     ·replace h:=yn h z8S
      refine WC.b ?_
      obtain ⟨z5h,h⟩:=ya h
      refine WC.a (WL.pu rfl (WL.pu rfl ?_))
      refine WL.y6T (dd:=28) rfl rfl yC rfl rfl .here z5h ?_
      refine WL.pu rfl (WL.nil (WX.a ?_))
      obtain ⟨z3W,zk6,h⟩:=y4b h
      refine WC.y3f (fun (z1F : List Int) (z1G : Int)=>(z3W z1F z1G = some r) ∧ (z1F.length = zK.length)) (fun (z1F : List Int) (z1G : Int)=>[(0,(.slice (some ⟨z2z,0,none⟩) z1F.length z1l)),(3,(.int .i64 z1G))]) (fun (z1F : List Int) (z1G : Int)=>[row (.slice (some ⟨z2z,0,none⟩) z1F.length z1l) 3 1 (z1F.flatMap e3)]) ?_ ?_
      ·skip
       refine WC.b (WC.a (WL.pu rfl (WL.nil (WX.a (WC.block ?_)))))
       refine WC.y5J (fun (z6H : Nat) (zQ : List Int) (z1E : Int) (k2_9039 : Int)=>(ys zK zJ z3W z6H zQ z1E k2_9039 = some r) ∧ (zQ.length = zK.length)) (fun (z6H : Nat) (zQ : List Int) (z1E : Int) (k2_9039 : Int)=>[(0,(.slice (some ⟨z2z,0,none⟩) zQ.length z1l)),(3,(.int .i64 z1E)),(4,(.slice (some ⟨z2z,(zJ : Int).toNat * 1,none⟩) (zK.length - (zJ : Int).toNat) (z1l - (zJ : Int).toNat))),(5,(.int .i64 k2_9039))]) (fun (z6H : Nat) (zQ : List Int) (z1E : Int) (k2_9039 : Int)=>[row (.slice (some ⟨z2z,0,none⟩) zQ.length z1l) 3 1 (zQ.flatMap e3)]) (fun (z6H : Nat) (zQ : List Int) (z1E : Int) (k2_9039 : Int)=>z6H) ⟨y1o,zK,zJ,1⟩ ⟨h,rfl⟩ (.cons rfl (.cons rfl (.cons rfl (.cons rfl .nil)))) (.cons .here .nil) ?_
       rintro z6H zQ z1E k2_9039 ⟨h,z6I⟩
       obtain ⟨z8N,rfl⟩:=y2I h
       rw [ys] at h
       refine WC.b (WC.b (WC.a (WL.pu rfl (WL.pu rfl ?_))))
       refine WL.a (d:=31) rfl rfl rfl (y27 Tryd.underlying30 rfl) ?_
       refine WL.pu rfl (WL.nil (WX.a ?_))
       refine WC.cond rfl (fun z8T=>?_) (fun z8T=>?_)
       ·replace h:=yn h z8T
        refine WC.skip (WX.a ?_)
        obtain ⟨z7H,zk7,h⟩:=y4b h
        refine WC.y3f (fun (z2y : List Int) (z3X : Int)=>(z7H z2y z3X = some r) ∧ (z2y.length = zK.length)) (fun (z2y : List Int) (z3X : Int)=>[(0,(.slice (some ⟨z2z,0,none⟩) z2y.length z1l)),(3,(.int .i64 z3X)),(4,(.slice (some ⟨z2z,(zJ : Int).toNat * 1,none⟩) (zK.length - (zJ : Int).toNat) (z1l - (zJ : Int).toNat))),(5,(.int .i64 k2_9039))]) (fun (z2y : List Int) (z3X : Int)=>[row (.slice (some ⟨z2z,0,none⟩) z2y.length z1l) 3 1 (z2y.flatMap e3)]) ?_ ?_
        ·skip
         refine WC.block (WC.b ?_)
         obtain ⟨z7J,h⟩:=ya h
         obtain ⟨z7K,h⟩:=ya h
         refine WC.y1n (fun i=>[].contains i) [] rfl ?_
         refine WD.a (i:=0) (d:=35) (by kernel_rfl) rfl z7 z8 rfl rfl rfl (fun _=>q_m rfl) ?_
         refine WD.a (i:=1) (d:=36) (by kernel_rfl) rfl z7 z8 rfl rfl rfl (fun _=>q_m rfl) ?_
         have zcn : (0 : Int) ≤ zJ + k2_9039 ∧ zJ + k2_9039 < ((zQ.length : Nat) : Int):=by have h1:=z6I; have h2:=z5h; have h3:=z7J; omega
         refine WD.a (i:=2) (d:=37) (by kernel_rfl) rfl z7 z8 rfl rfl rfl (fun _=>yL yC rfl rfl z7J.1 z7J.2 (y4Z z5h.1 z7J.1)) ?_
         refine WD.e (i:=3) (d:=38) (by kernel_rfl) rfl z7 z8 rfl rfl rfl (y6 yg rfl (y2V .here ((y2y (enc:=e3) (l:=zQ) (i:=zJ + k2_9039) (sz:=1) (fun _=>rfl) zcn.1 zcn.2) 0 _ rfl))) ?_
         refine WD.a (i:=4) (d:=39) (by kernel_rfl) rfl z7 z8 rfl rfl rfl (fun _=>q_m rfl) ?_
         refine WD.a (i:=5) (d:=40) (by kernel_rfl) rfl z7 z8 rfl rfl rfl (fun _=>q_m rfl) ?_
         refine WD.a (i:=6) (d:=41) (by kernel_rfl) rfl z7 z8 rfl rfl rfl (fun _=>q_sub rfl rfl rfl) ?_
         have zco : (0 : Int) ≤ zJ + (i64 (k2_9039 - 1)) ∧ zJ + (i64 (k2_9039 - 1)) < ((zQ.length : Nat) : Int):=by have h1:=z6I; have h2:=z5h; have h3:=z7K; omega
         refine WD.a (i:=7) (d:=42) (by kernel_rfl) rfl z7 z8 rfl rfl rfl (fun _=>yL yC rfl rfl z7K.1 z7K.2 (y4Z z5h.1 z7K.1)) ?_
         refine WD.e (i:=8) (d:=43) (by kernel_rfl) rfl z7 z8 rfl rfl rfl (y6 yg rfl (y2V .here ((y2y (enc:=e3) (l:=zQ) (i:=zJ + (i64 (k2_9039 - 1))) (sz:=1) (fun _=>rfl) zco.1 zco.2) 0 _ rfl))) ?_
         refine WD.a (i:=9) (d:=44) (by kernel_rfl) rfl z7 z8 rfl rfl rfl (fun _=>q_neq rfl rfl) ?_
         refine WD.done (by kernel_rfl) ?_
         refine WX.a ?_
         refine WC.cond rfl (fun z8U=>?_) (fun z8U=>?_)
         ·replace h:=yn h z8U
          refine WC.b ?_
          obtain ⟨z7L,h⟩:=ya h
          obtain ⟨z6J,h⟩:=ya h
          refine WC.a (WL.pu rfl (WL.pu rfl (WL.pu rfl (WL.pu rfl ?_))))
          have zcp : (0 : Int) ≤ zJ + k2_9039 ∧ zJ + k2_9039 < ((zQ.length : Nat) : Int):=by have h1:=z6I; have h2:=z5h; have h3:=z7L; omega
          refine WL.a (d:=49) rfl rfl rfl (yL yC rfl rfl z7L.1 z7L.2 (y4Z z5h.1 z7L.1)) ?_
          refine WL.a (d:=50) rfl rfl rfl (y6 yg rfl (y2V .here ((y2y (enc:=e3) (l:=zQ) (i:=zJ + k2_9039) (sz:=1) (fun _=>rfl) zcp.1 zcp.2) 0 _ rfl))) ?_
          refine WL.a (d:=51) rfl rfl rfl (yL yC rfl rfl z6J.1 z6J.2 y30) ?_
          refine WL.yk rfl rfl (y57 (vs:=[(.int .i64 (nth zQ (zJ + k2_9039)))]) (ds:=(zQ.set (z1E : Int).toNat (nth zQ (zJ + k2_9039))).flatMap e3) y33 rfl rfl rfl rfl (y6i rfl oc_nil) .here (y5P (enc:=e3) (sz:=1) (k:=0) (fun _=>rfl) z6J.1 z6J.2 (by decide)) (y5M (enc:=e3) (l:=zQ) (sz:=1) (vs:=[(.int .i64 (nth zQ (zJ + k2_9039)))]) (y:=(nth zQ (zJ + k2_9039))) (k:=0) (fun _=>rfl) z6J.1 z6J.2 rfl (Nat.le_of_ble_eq_true rfl))) ?_
          refine WL.relen .here (u:=(.slice (some ⟨z2z,0,none⟩) ((zQ.set (z1E : Int).toNat (nth zQ (zJ + k2_9039))).length) z1l)) (slen (List.length_set).symm) ?_
          refine WL.repin (i:=0) rfl (u:=(.slice (some ⟨z2z,0,none⟩) ((zQ.set (z1E : Int).toNat (nth zQ (zJ + k2_9039))).length) z1l)) (slen (List.length_set).symm) ?_
          refine WL.nil (WX.a (WC.a (WL.pu rfl (WL.pu rfl (WL.pu rfl (WL.nil (WX.yi ?_)))))))
          exact WX.mid (G:=List Int × Int) ⟨(zQ.set (z1E : Int).toNat (nth zQ (zJ + k2_9039))),(i64 (z1E + 1))⟩ ⟨h,((List.length_set).trans z6I)⟩ (.cons rfl (.cons rfl (.cons rfl (.cons rfl .nil)))) (.cons .here .nil)
         ·replace h:=yo h z8U
          refine WC.skip (WX.yi ?_)
          exact WX.mid (G:=List Int × Int) ⟨zQ,z1E⟩ ⟨h,z6I⟩ (.cons rfl (.cons rfl (.cons rfl (.cons rfl .nil)))) (.cons .here .nil)
        ·rintro z2y z3X ⟨h,zk8⟩
         replace h:=(zk7 z2y z3X).symm.trans h
         refine WC.a (WL.pu rfl (WL.pu rfl (WL.pu rfl (WL.nil ?_))))
         exact WX.round (G:=Nat × List Int × Int × Int) ⟨z8N,z2y,z3X,(i64 (k2_9039 + 1))⟩ ⟨h,zk8⟩ (Nat.lt_succ_self _) (.cons rfl (.cons rfl (.cons rfl (.cons rfl .nil)))) (.cons .here .nil)
       ·replace h:=yo h z8T
        refine WC.exit (WX.yA (WX.yA (WX.y1s ?_)))
        exact WX.mid (G:=List Int × Int) ⟨zQ,z1E⟩ ⟨h,z6I⟩ (.cons rfl (.cons rfl .nil)) (.cons .here .nil)
      ·rintro z1F z1G ⟨h,zmB⟩
       replace h:=(zk6 z1F z1G).symm.trans h
       refine WC.b ?_
       obtain ⟨z7M,h⟩:=ya h
       refine WC.a (WL.pu rfl (WL.pu rfl ?_))
       refine WL.y6N (dd:=56) rfl rfl yC rfl rfl .here z7M ?_
       intro zmC zmD zk9
       refine WL.yk rfl rfl (y5O (enc:=e3) (z0:=(0 : Int)) (l:=z1F) yC y4S rfl zk9 z7M (fun _=>rfl) (by decide) rfl y5b .here) ?_
       refine WL.relen .here (u:=(.slice (some ⟨z2z,0,none⟩) ((z1F.take (z1G : Int).toNat ++ List.replicate (z1F.length - (z1G : Int).toNat) (0 : Int)).length) z1l)) (slen (y4E z7M).symm) ?_
       refine WL.repin (i:=0) rfl (u:=(.slice (some ⟨z2z,0,none⟩) ((z1F.take (z1G : Int).toNat ++ List.replicate (z1F.length - (z1G : Int).toNat) (0 : Int)).length) z1l)) (slen (y4E z7M).symm) ?_
       refine WL.nil (WX.a (WC.b ?_))
       obtain ⟨zka,h⟩:=ya h
       refine WC.a (WL.pu rfl (WL.pu rfl ?_))
       refine WL.y6M (dd:=59) (enc:=e3) (ls:=z1F.take (z1G : Int).toNat ++ List.replicate (z1F.length - (z1G : Int).toNat) (0 : Int)) rfl rfl yC rfl rfl .here (fun _=>rfl) zka ?_
       intro zkb zkc
       refine WL.pu rfl (WL.nil (WX.a (WC.ret (WX.yD (WX.yd (WX.yd (WX.yD (WX.yd ?_))))))))
       obtain rfl:=Option.some.inj h
       refine WX.yf Tryd.results35 (.tmp rfl .nil) (fun w hw=>?_)
       exact ⟨zkb,zkc,y17 rfl,trivial,hw.sub (.cons .here .nil)⟩
     ·replace h:=yo h z8S
      refine WC.skip (WX.yi ?_)
      exact WX.mid (G:=Unit) () h (.cons rfl (.cons rfl .nil)) (.cons .here .nil)
    ·rintro  h
     replace h:=zk5.symm.trans h
     refine WC.a (WL.pu rfl (WL.pu rfl (WL.pu rfl (WL.nil ?_))))
     exact WX.round (G:=Nat × Int) ⟨z8O,(i64 (zJ + 1))⟩ h (Nat.lt_succ_self _) (.cons rfl (.cons rfl .nil)) (.cons .here .nil)
   ·replace h:=yo h z8R
    refine WC.exit (WX.yA (WX.yA (WX.y1s ?_)))
    exact WX.mid (G:=Unit) () h (.cons rfl .nil) (.cons .here .nil)
  ·rintro  h
   replace h:=zk4.symm.trans h
   refine WC.b (WC.a (WL.pu rfl (WL.pu rfl (WL.nil (WX.a (WC.ret ?_))))))
   obtain rfl:=Option.some.inj h
   refine WX.yf Tryd.results35 (.tmp rfl .nil) (fun w hw=>?_)
   exact ⟨z27,z1l,y17 rfl,trivial,hw.sub (.cons .here .nil)⟩
def y1O (z5i : List Sapi_Ins) (z1H : Int) : Option (List Int) :=
 (y2P z5i z1H).bind fun z1j=>if !z1j.2 then some ([] : List Int) else jp1 (fun (z2R : List Int)=>(y24 z2R).bind fun z7N=>(yy z7N).bind fun zcq=>some zcq) fun z73=>jp1 (fun (z4N : Bool)=>if z4N then some ([] : List Int) else if decide (z1j.1.fOp = 20) then some ([z1j.1.fA] : List Int) else if decide (z1j.1.fOp = 21) then chk ((((([i64 (z1H + 1)] : List Int) ++ ([z1j.1.fB] : List Int)).length : Nat) : Int) * 8 ≤ 140737488355328 ∧ (((([i64 (z1H + 1)] : List Int) ++ ([z1j.1.fB] : List Int)).length : Nat) : Int) ≤ 4611686018427387904) (z73 (([i64 (z1H + 1)] : List Int) ++ ([z1j.1.fB] : List Int))) else if decide (z1j.1.fOp = 22) then chk ((((([i64 (z1H + 1)] : List Int) ++ ([z1j.1.fC] : List Int)).length : Nat) : Int) * 8 ≤ 140737488355328 ∧ (((([i64 (z1H + 1)] : List Int) ++ ([z1j.1.fC] : List Int)).length : Nat) : Int) ≤ 4611686018427387904) (z73 (([i64 (z1H + 1)] : List Int) ++ ([z1j.1.fC] : List Int))) else z73 ([i64 (z1H + 1)] : List Int)) fun z7O=>if decide (z1j.1.fOp = 19) then z7O (decide (z1j.1.fOp = 19)) else z7O (decide (z1j.1.fOp = 25))
set_option maxRecDepth 20000 in
theorem y4T (Z : Zp) (z7P : Option Addr) (z7Q : Nat) (z5i : List Sapi_Ins) (z1H : Int) (r : List Int)
  (h : y1O z5i z1H = some r) (w₀ : World) (hz : PZ [] w₀ Z)
  (hG1 : ZS Z 1 (p74 Z) (some ⟨1,0,none⟩) 26 yP)
  (zkd : ZS Z 4 (fun r x=>r = e33 x) z7P z7Q z5i) :
  Calls Tryd.prog 15 #[(.slice z7P z5i.length z7Q),(.int .i64 z1H)] w₀ fun e w'=>∃ zcr : Option Addr,∃ zcs : Nat,e = .returned (.slice zcr r.length zcs) ∧ True ∧ Hp [] w₀ w' [row (.slice zcr r.length zcs) 3 1 (r.flatMap e3)]:=by
 unfold y1O at h
 refine Calls.y9 (vs:=[(.slice z7P z5i.length z7Q),(.int .i64 z1H)]) (pre:=[]) (env:=[(0,(.slice z7P z5i.length z7Q)),(1,(.int .i64 z1H))]) Tryd.func15 rfl Tryd.ntmps15 rfl (Hp.nil w₀ _) rfl ?_
 refine WC.b (WC.a (WL.pu rfl (WL.nil (WX.a (WC.b ?_)))))
 obtain ⟨z1j,zke,h⟩:=zh h
 refine WC.a (WL.pu rfl (WL.pu rfl ?_))
 refine WL.b (dd:=11) rfl rfl rfl (zI (l:=[.tmp 9,.tmp 10]) Tryd.call33 (.cons rfl (.cons rfl .nil))) .nil (cc hz .nil fun w pz ho=>y5u _ _ _ _ _ _ zke w pz hG1 zkd) ?_
 refine WL.pu rfl (WL.pu rfl (WL.pu rfl ?_))
 refine WL.new (dd:=5) rfl rfl rfl (yw (cs:=[(.int .u8 0),(.int .i64 0),(.int .i64 0),(.int .i64 0)]) y4e rfl) ?_
 intro zct _
 refine WL.yk rfl rfl (yu y3N rfl rfl rfl .here rfl rfl rfl) ?_
 refine WL.pu rfl (WL.nil (WX.a (WC.b (WC.b (WC.a (WL.pu rfl (WL.pu rfl (WL.nil (WX.a ?_)))))))))
 refine WC.cond rfl (fun z8V=>?_) (fun z8V=>?_)
 ·replace h:=yn h z8V
  refine WC.b (WC.a (WL.pu rfl (WL.nil (WX.a (WC.ret (WX.yd ?_))))))
  refine WX.nilRow 3 1 ?_
  obtain rfl:=Option.some.inj h
  refine WX.yf Tryd.results15 (.tmp rfl .nil) (fun w hw=>?_)
  exact ⟨none,0,y17 rfl,trivial,hw.sub (.cons .here .nil)⟩
 ·replace h:=yo h z8V
  refine WC.skip (WX.a (WC.b (WC.a (WL.pu rfl (WL.pu rfl ?_)))))
  refine WL.new (dd:=18) rfl rfl rfl (yp (cs:=([i64 (z1H + 1)] : List Int).flatMap e3) yC (Eos.parts (l:=[.tmp 17]) (.cons rfl .nil) [0]) (fun _=>by kernel_rfl) rfl (by unfold maxLen; omega)) ?_
  intro z8W _
  refine WL.pu rfl (WL.nil (WX.a ?_))
  obtain ⟨z73,zkf,h⟩:=y35 h
  refine WC.y6v (fun (z2R : List Int) (z5j : Option Addr) (z5k : Nat)=>(z73 z2R = some r)) (fun (z2R : List Int) (z5j : Option Addr) (z5k : Nat)=>[(7,(.slice z5j z2R.length z5k))]) (fun (z2R : List Int) (z5j : Option Addr) (z5k : Nat)=>[row (.slice z5j z2R.length z5k) 3 1 (z2R.flatMap e3)]) ?_ ?_
  ·skip
   refine WC.b (WC.a ?_)
   refine WL.a (d:=19) rfl rfl rfl (y4 y3h rfl rfl) ?_
   refine WL.a (d:=20) rfl rfl rfl (y6 yS rfl (yb .h1 rfl)) ?_
   refine WL.nil (WX.a (WC.block ?_))
   obtain ⟨z7O,zkg,h⟩:=y35 h
   refine WC.y2Z (fun (z4N : Bool)=>(z7O z4N = some r)) (fun (z4N : Bool)=>[(5,(.pointer (some ⟨zct,0,none⟩))),(7,(.slice (some ⟨z8W,0,none⟩) (([i64 (z1H + 1)] : List Int).length) 1)),(20,(.int .u8 z1j.1.fOp)),(21,(.bool z4N))]) (fun (z4N : Bool)=>[row (.slice (some ⟨z8W,0,none⟩) (([i64 (z1H + 1)] : List Int).length) 1) 3 1 (([i64 (z1H + 1)] : List Int).flatMap e3),stb zct 33 [(.int .u8 z1j.1.fOp),(.int .i64 z1j.1.fA),(.int .i64 z1j.1.fB),(.int .i64 z1j.1.fC)]]) ?_ ?_
   ·skip
    refine WC.b (WC.a (WL.pu rfl (WL.pu rfl (WL.nil (WX.a ?_)))))
    refine WC.cond rfl (fun z8X=>?_) (fun z8X=>?_)
    ·replace h:=yn h z8X
     refine WC.skip ?_
     exact WX.mid (G:=Bool) (decide (z1j.1.fOp = 19)) h (.cons rfl (.cons rfl (.cons rfl (.cons rfl .nil)))) (.cons .here (.cons .here .nil))
    ·replace h:=yo h z8X
     refine WC.a (WL.pu rfl (WL.pu rfl (WL.nil ?_)))
     exact WX.mid (G:=Bool) (decide (z1j.1.fOp = 25)) h (.cons rfl (.cons rfl (.cons rfl (.cons rfl .nil)))) (.cons .here (.cons .here .nil))
   ·rintro z4N h
    replace h:=(zkg z4N).symm.trans h
    refine WC.cond rfl (fun z8Y=>?_) (fun z8Y=>?_)
    ·replace h:=yn h z8Y
     refine WC.b (WC.a (WL.pu rfl (WL.nil (WX.a (WC.ret (WX.yD (WX.yd ?_)))))))
     refine WX.nilRow 3 1 ?_
     obtain rfl:=Option.some.inj h
     refine WX.yf Tryd.results15 (.tmp rfl .nil) (fun w hw=>?_)
     exact ⟨none,0,y17 rfl,trivial,hw.sub (.cons .here .nil)⟩
    ·replace h:=yo h z8Y
     refine WC.b (WC.a (WL.pu rfl (WL.pu rfl (WL.nil (WX.a ?_)))))
     refine WC.cond rfl (fun z8Z=>?_) (fun z8Z=>?_)
     ·replace h:=yn h z8Z
      refine WC.b (WC.a ?_)
      refine WL.a (d:=26) rfl rfl rfl (y4 y1r rfl rfl) ?_
      refine WL.a (d:=27) rfl rfl rfl (y6 yg rfl (yb .h1 rfl)) ?_
      refine WL.new (dd:=28) rfl rfl rfl (yp (cs:=([z1j.1.fA] : List Int).flatMap e3) yC (Eos.parts (l:=[.tmp 27]) (.cons rfl .nil) [0]) (fun _=>by kernel_rfl) rfl (by unfold maxLen; omega)) ?_
      intro zkh _
      refine WL.pu rfl (WL.nil (WX.a (WC.ret (WX.yD (WX.yd ?_)))))
      obtain rfl:=Option.some.inj h
      refine WX.yf Tryd.results15 (.tmp rfl .nil) (fun w hw=>?_)
      exact ⟨(some ⟨zkh,0,none⟩),1,y17 rfl,trivial,hw.sub (.cons .here .nil)⟩
     ·replace h:=yo h z8Z
      refine WC.b (WC.a (WL.pu rfl (WL.pu rfl (WL.nil (WX.a ?_)))))
      refine WC.cond rfl (fun z90=>?_) (fun z90=>?_)
      ·replace h:=yn h z90
       obtain ⟨zki,h⟩:=ya h
       refine WC.a (WL.pu rfl ?_)
       refine WL.a (d:=32) rfl rfl rfl (y4 y23 rfl rfl) ?_
       refine WL.a (d:=33) rfl rfl rfl (y6 yg rfl (yb .h1 rfl)) ?_
       refine WL.new (dd:=34) rfl rfl rfl (yp (cs:=([z1j.1.fB] : List Int).flatMap e3) yC (Eos.parts (l:=[.tmp 33]) (.cons rfl .nil) [0]) (fun _=>by kernel_rfl) rfl (by unfold maxLen; omega)) ?_
       intro zmE _
       refine WL.eff (d:=35) rfl rfl rfl (y3y (enc:=e3) (l1:=([i64 (z1H + 1)] : List Int)) (l2:=([z1j.1.fB] : List Int)) yC rfl rfl .h1 (fun _=>rfl) rfl rfl (y4X .here) (y3M y5b _) zki) ?_
       rintro ⟨zkj,zkk⟩ _
       refine WL.pu rfl (WL.nil (WX.yi ?_))
       exact WX.mid (G:=List Int × Option Addr × Nat) ⟨(([i64 (z1H + 1)] : List Int) ++ ([z1j.1.fB] : List Int)),zkj,zkk⟩ h (.cons rfl .nil) (.cons .here .nil)
      ·replace h:=yo h z90
       refine WC.b (WC.a (WL.pu rfl (WL.pu rfl (WL.nil (WX.a ?_)))))
       refine WC.cond rfl (fun z91=>?_) (fun z91=>?_)
       ·replace h:=yn h z91
        obtain ⟨zkl,h⟩:=ya h
        refine WC.a (WL.pu rfl ?_)
        refine WL.a (d:=39) rfl rfl rfl (y4 y3O rfl rfl) ?_
        refine WL.a (d:=40) rfl rfl rfl (y6 yg rfl (yb .h1 rfl)) ?_
        refine WL.new (dd:=41) rfl rfl rfl (yp (cs:=([z1j.1.fC] : List Int).flatMap e3) yC (Eos.parts (l:=[.tmp 40]) (.cons rfl .nil) [0]) (fun _=>by kernel_rfl) rfl (by unfold maxLen; omega)) ?_
        intro zmF _
        refine WL.eff (d:=42) rfl rfl rfl (y3y (enc:=e3) (l1:=([i64 (z1H + 1)] : List Int)) (l2:=([z1j.1.fC] : List Int)) yC rfl rfl .h1 (fun _=>rfl) rfl rfl (y4X .here) (y3M y5b _) zkl) ?_
        rintro ⟨zkm,zkn⟩ _
        refine WL.pu rfl (WL.nil (WX.yi ?_))
        exact WX.mid (G:=List Int × Option Addr × Nat) ⟨(([i64 (z1H + 1)] : List Int) ++ ([z1j.1.fC] : List Int)),zkm,zkn⟩ h (.cons rfl .nil) (.cons .here .nil)
       ·replace h:=yo h z91
        refine WC.skip (WX.yi ?_)
        exact WX.mid (G:=List Int × Option Addr × Nat) ⟨([i64 (z1H + 1)] : List Int),(some ⟨z8W,0,none⟩),1⟩ h (.cons rfl .nil) (.cons .here .nil)
  ·rintro z2R z5j z5k h
   replace h:=(zkf z2R).symm.trans h
   refine WC.b ?_
   obtain ⟨z7N,zko,h⟩:=zh h
   refine WC.a (WL.pu rfl ?_)
   refine WL.y6G (dd:=44) rfl rfl rfl (zI (l:=[.tmp 43]) Tryd.call34 (.cons rfl .nil)) (.cons .here .nil) (cc hz (.cons .here .nil) fun w pz ho=>y5E (Z:=_) (ao:=z5j) (cap:=z5k) (l:=z2R) (r:=z7N) w pz  zko ho) ?_
   rintro  zkp
   refine WL.repin (i:=7) rfl (u:=(.slice z5j z7N.length z5k)) (slen zkp.symm) ?_
   refine WL.nil (WX.a (WC.b ?_))
   obtain ⟨zcq,zkq,h⟩:=zh h
   refine WC.a (WL.pu rfl ?_)
   refine WL.y5r (dd:=46) rfl rfl rfl (zI (l:=[.tmp 45]) Tryd.call35 (.cons rfl .nil)) (.cons .here .nil) (cc hz (.cons .here .nil) fun w pz ho=>y3q _ _ _ _ _ zkq w pz  ho) ?_
   rintro zkr zks _
   refine WL.pu rfl (WL.nil (WX.a (WC.ret ?_)))
   obtain rfl:=Option.some.inj h
   refine WX.yf Tryd.results15 (.tmp rfl .nil) (fun w hw=>?_)
   exact ⟨zkr,zks,y17 rfl,trivial,hw.sub (.cons .here .nil)⟩
def yN (z1V : List Int) (z7R : Int → (List (Int × Int)) → (List Sapi_Ins) → Option (Bool × (List (Int × Int)))) (z1i : List Sapi_Ins) (z3Z : Int → (List (Int × Int)) → Option (Bool × (List (Int × Int)))) : Nat → Int → Int → (List (Int × Int)) → Option (Bool × (List (Int × Int)))
 | 0,_,_,_=>none
 | z92 + 1,z2o,z1M,z2p=>if decide (z1M < ((z1V.length : Nat) : Int)) then chk ((0 : Int) ≤ z1M ∧ z1M < ((z1V.length : Nat) : Int)) ((z7R (nth z1V z1M) z2p z1i).bind fun z4O=>if !z4O.1 then some (false,z4O.2) else yN z1V z7R z1i z3Z z92 (max z2o (y2a z4O.2 (nth z1V z1M) 0)) (i64 (z1M + 1)) z4O.2) else z3Z z2o z2p
theorem y3r {n : Nat} {z1V : List Int} {z7R : Int → (List (Int × Int)) → (List Sapi_Ins) → Option (Bool × (List (Int × Int)))} {z1i : List Sapi_Ins} {z3Z : Int → (List (Int × Int)) → Option (Bool × (List (Int × Int)))} {z2o : Int} {z1M : Int} {z2p : List (Int × Int)} {r : Bool × (List (Int × Int))} (h : yN z1V z7R z1i z3Z n z2o z1M z2p = some r) : ∃ m,n = m + 1:=by
 cases n with
 | zero=>cases h
 | succ m=>exact ⟨m,rfl⟩
def yJ : Nat → Int → (List (Int × Int)) → (List Sapi_Ins) → Option (Bool × (List (Int × Int)))
 | 0,_,_,_=>none
 | z93 + 1,zP,z1s,z1i=>if y3o z1s zP then some ((decide ((y2a z1s zP 0) ≠ (-1))),z1s) else jp2 (fun (z1W : Int) (z2j : List (Int × Int))=>jp1 (fun (z38 : List (Int × Int))=>some (true,z38)) fun z5l=>chk ((0 : Int) ≤ zP ∧ zP < ((z1i.length : Nat) : Int)) (if decide (((nth z1i zP).fOp) = 1) then chk ((0 : Int) ≤ zP ∧ zP < ((z1i.length : Nat) : Int)) (z5l (y14 (y14 z2j zP (i64 (z1W + 1))) zP (i64 (z1W + ((nth z1i zP).fA))))) else z5l (y14 z2j zP (i64 (z1W + 1))))) fun z3Z=>(y1O z1i zP).bind fun z1V=>yN z1V (yJ z93) z1i z3Z y1o 0 0 (y14 z1s zP (-1))
def y2K (zP : Int) (z1s : List (Int × Int)) (z1i : List Sapi_Ins) : Option (Bool × (List (Int × Int))):=yJ y1o zP z1s z1i
set_option maxRecDepth 20000 in
theorem y4n : ∀ (n : Nat) (Z : Zp) (z22 : Addr) (z1x : Nat) (z23 : Addr) (z2S : Option Addr) (z2T : Nat) (z29 : Addr) (zP : Int) (z1s : List (Int × Int)) (z1i : List Sapi_Ins) (r : Bool × (List (Int × Int))) (w₀ : World) (hz : PZ (fps [y1e z1x (Value.int .i64) (Value.int .i64) z1s]) w₀ Z)
  (hG1 : ZS Z 1 (p74 Z) (some ⟨1,0,none⟩) 26 yP)
  (z39 : ZC Z z22 [(.map (some z1x))])
  (z4P : ZS Z 4 (fun r x=>r = e33 x) z2S z2T z1i)
  (z4Q : ZC Z z23 [(.slice z2S z1i.length z2T)])
  (z6K : ZC Z z29 [(.func (.func 29) #[] #[(.pointer (some z22)),(.pointer (some z23)),(.pointer (some z29))])]) (h : yJ n zP z1s z1i = some r)
  (hown : Hp (fps [y1e z1x (Value.int .i64) (Value.int .i64) z1s]) w₀ w₀ [y1e z1x (Value.int .i64) (Value.int .i64) z1s]),Calls Tryd.prog 29 #[(.int .i64 zP),(.pointer (some z22)),(.pointer (some z23)),(.pointer (some z29))] w₀ fun e w'=>e = .returned (.bool r.1) ∧ Hp (fps [y1e z1x (Value.int .i64) (Value.int .i64) z1s]) w₀ w' [y1e z1x (Value.int .i64) (Value.int .i64) r.2]:=by
 intro n
 induction n with
 | zero=>intro Z z22 z1x z23 z2S z2T z29 zP z1s z1i r w₀ hz hG1 z39 z4P z4Q z6K h hown; cases h
 | succ z93 ih =>
  intro Z z22 z1x z23 z2S z2T z29 zP z1s z1i r w₀ hz hG1 z39 z4P z4Q z6K h hown
  rw [yJ] at h
  refine Calls.y9 (vs:=[(.int .i64 zP),(.pointer (some z22)),(.pointer (some z23)),(.pointer (some z29))]) (pre:=[y1e z1x (Value.int .i64) (Value.int .i64) z1s]) (env:=[(0,(.int .i64 zP)),(1,(.pointer (some z22))),(2,(.pointer (some z23))),(3,(.pointer (some z29)))]) Tryd.func29 rfl Tryd.ntmps29 rfl (hown) rfl ?_
  refine WC.b (WC.a (WL.pu rfl (WL.nil (WX.a (WC.b (WC.b (WC.a ?_)))))))
  refine WL.a (d:=12) rfl rfl rfl (y6 y3j rfl (y2H hz.pv z39 rfl)) ?_
  refine WL.pu rfl ?_
  refine WL.a (d:=14) rfl rfl rfl (y6S (k:=zP) (dflt:=(0 : Int)) y3p Tryd.underlying54 y4S rfl rfl rfl .here) ?_
  refine WL.pu rfl (WL.pu rfl (WL.pu rfl (WL.pu rfl (WL.pu rfl (WL.nil (WX.a (WC.b (WC.a (WL.pu rfl (WL.nil (WX.a ?_)))))))))))
  refine WC.cond rfl (fun z94=>?_) (fun z94=>?_)
  ·replace h:=yn h z94
   refine WC.b (WC.a (WL.pu rfl (WL.pu rfl (WL.pu rfl (WL.nil (WX.a (WC.ret (WX.yd ?_))))))))
   obtain rfl:=Option.some.inj h
   refine WX.yf Tryd.results29 (.tmp rfl .nil) (fun w hw=>?_)
   exact ⟨y17 rfl,hw.sub (.cons .here .nil)⟩
  ·replace h:=yo h z94
   refine WC.skip (WX.a (WC.b (WC.a ?_)))
   refine WL.a (d:=20) rfl rfl rfl (y6 y3j rfl (y2H hz.pv z39 rfl)) ?_
   refine WL.pu rfl ?_
   refine WL.yk rfl rfl (y3D (k:=zP) (v:=(-1)) y3p Tryd.underlying54 rfl rfl rfl rfl .here) ?_
   refine WL.nil (WX.a (WC.b (WC.a (WL.pu rfl (WL.nil (WX.a ?_))))))
   obtain ⟨z3Z,zkt,h⟩:=y4b h
   refine WC.y3f (fun (z1W : Int) (z2j : List (Int × Int))=>(z3Z z1W z2j = some r)) (fun (z1W : Int) (z2j : List (Int × Int))=>[(0,(.int .i64 zP)),(1,(.pointer (some z22))),(2,(.pointer (some z23))),(8,(.int .i64 z1W))]) (fun (z1W : Int) (z2j : List (Int × Int))=>[y1e z1x (Value.int .i64) (Value.int .i64) z2j]) ?_ ?_
   ·skip
    refine WC.b ?_
    obtain ⟨z1V,zku,h⟩:=zh h
    refine WC.a ?_
    refine WL.a (d:=22) rfl rfl rfl (y6 y2O rfl (y2H hz.pv z4Q rfl)) ?_
    refine WL.pu rfl ?_
    refine WL.y5r (dd:=24) rfl rfl rfl (zI (l:=[.tmp 22,.tmp 23]) Tryd.call15 (.cons rfl (.cons rfl .nil))) .nil (cc hz .nil fun w pz ho=>y4T _ _ _ _ _ _ zku w pz hG1 z4P) ?_
    rintro zcu zcv _
    refine WL.a (d:=25) rfl rfl rfl (y27 Tryd.underlying30 rfl) ?_
    refine WL.pu rfl (WL.nil (WX.a (WC.block ?_)))
    refine WC.y5J (fun (z6L : Nat) (z2o : Int) (z1M : Int) (z2p : List (Int × Int))=>(yN z1V (yJ z93) z1i z3Z z6L z2o z1M z2p = some r)) (fun (z6L : Nat) (z2o : Int) (z1M : Int) (z2p : List (Int × Int))=>[(0,(.int .i64 zP)),(1,(.pointer (some z22))),(2,(.pointer (some z23))),(3,(.pointer (some z29))),(8,(.int .i64 z2o)),(24,(.slice zcu z1V.length zcv)),(25,(.int .i64 ((z1V.length : Nat) : Int))),(26,(.int .i64 z1M))]) (fun (z6L : Nat) (z2o : Int) (z1M : Int) (z2p : List (Int × Int))=>[row (.slice zcu z1V.length zcv) 3 1 (z1V.flatMap e3),y1e z1x (Value.int .i64) (Value.int .i64) z2p]) (fun (z6L : Nat) (z2o : Int) (z1M : Int) (z2p : List (Int × Int))=>z6L) ⟨y1o,0,0,(y14 z1s zP (-1))⟩ h (.cons rfl (.cons rfl (.cons rfl (.cons rfl (.cons rfl (.cons rfl (.cons rfl (.cons rfl .nil)))))))) (.cons .here (.cons .here .nil)) ?_
    rintro z6L z2o z1M z2p h
    obtain ⟨z92,rfl⟩:=y3r h
    rw [yN] at h
    refine WC.b (WC.a (WL.pu rfl (WL.nil (WX.a (WC.b ?_)))))
    refine WC.cond rfl (fun z95=>?_) (fun z95=>?_)
    ·replace h:=yn h z95
     refine WC.skip (WX.a (WC.b (WC.block (WC.b ?_))))
     obtain ⟨z74,h⟩:=ya h
     refine WC.a ?_
     refine WL.know (fun w hw=>Hp.y4B .here hw (by intro hz'; have:=z74; rw [hz'] at this; omega)) ?_
     rintro ⟨zmG,rfl⟩
     refine WL.a (d:=28) rfl rfl rfl (yL yC rfl rfl z74.1 z74.2 y30) ?_
     refine WL.a (d:=29) rfl rfl rfl (y6 yg rfl (y2V .here ((y2y (enc:=e3) (l:=z1V) (i:=z1M) (sz:=1) (fun _=>rfl) z74.1 z74.2) 0 _ rfl))) ?_
     refine WL.pu rfl (WL.nil (WX.a (WC.b (WC.b ?_))))
     obtain ⟨z4O,zkv,h⟩:=zh h
     refine WC.a ?_
     refine WL.a (d:=30) rfl rfl rfl (y6 y6o rfl (y2H hz.pv z6K rfl)) ?_
     refine WL.pu rfl ?_
     refine WL.b (dd:=32) rfl rfl rfl (yr (l:=[.tmp 31]) Tryd.call29 rfl (.cons rfl .nil)) (.cons .h1 .nil) (cc hz (.cons .h1 .nil) fun w pz ho=>ih (Z:=_) (z22:=z22) (z1x:=z1x) (z23:=z23) (z2S:=z2S) (z2T:=z2T) (z29:=z29) (zP:=(nth z1V z1M)) (z1s:=z2p) (z1i:=z1i) (r:=z4O) w pz hG1 z39 z4P z4Q z6K zkv ho) ?_
     refine WL.pu rfl (WL.nil (WX.a ?_))
     refine WC.cond rfl (fun z96=>?_) (fun z96=>?_)
     ·replace h:=yn h z96
      refine WC.b (WC.a (WL.pu rfl (WL.nil (WX.a (WC.ret (WX.yd (WX.yD (WX.yd (WX.yd (WX.yD (WX.yd ?_)))))))))))
      obtain rfl:=Option.some.inj h
      refine WX.yf Tryd.results29 (.tmp rfl .nil) (fun w hw=>?_)
      exact ⟨y17 rfl,hw.sub (.cons .here .nil)⟩
     ·replace h:=yo h z96
      refine WC.skip (WX.a (WC.a (WL.pu rfl ?_)))
      refine WL.a (d:=35) rfl rfl rfl (y6 y3j rfl (y2H hz.pv z39 rfl)) ?_
      refine WL.pu rfl ?_
      refine WL.a (d:=37) rfl rfl rfl (y5U (k:=(nth z1V z1M)) (dflt:=(0 : Int)) y3p Tryd.underlying54 y4S rfl rfl rfl .here) ?_
      refine WL.a (d:=38) rfl rfl rfl (q_max rfl rfl rfl) ?_
      refine WL.pu rfl (WL.nil (WX.yi (WX.a (WC.a (WL.pu rfl (WL.pu rfl (WL.nil ?_)))))))
      exact WX.round (G:=Nat × Int × Int × (List (Int × Int))) ⟨z92,(max z2o (y2a z4O.2 (nth z1V z1M) 0)),(i64 (z1M + 1)),z4O.2⟩ h (Nat.lt_succ_self _) (.cons rfl (.cons rfl (.cons rfl (.cons rfl (.cons rfl (.cons rfl (.cons rfl (.cons rfl .nil)))))))) (.cons .h1 (.cons .here .nil))
    ·replace h:=yo h z95
     refine WC.exit (WX.yA (WX.yA (WX.y1s ?_)))
     exact WX.mid (G:=Int × (List (Int × Int))) ⟨z2o,z2p⟩ h (.cons rfl (.cons rfl (.cons rfl (.cons rfl .nil)))) (.cons .h1 .nil)
   ·rintro z1W z2j h
    replace h:=(zkt z1W z2j).symm.trans h
    refine WC.b (WC.a ?_)
    refine WL.a (d:=40) rfl rfl rfl (y6 y3j rfl (y2H hz.pv z39 rfl)) ?_
    refine WL.pu rfl (WL.pu rfl (WL.pu rfl ?_))
    refine WL.yk rfl rfl (y3D (k:=zP) (v:=i64 (z1W + 1)) y3p Tryd.underlying54 rfl rfl rfl rfl .here) ?_
    refine WL.nil (WX.a ?_)
    obtain ⟨z5l,zkw,h⟩:=y35 h
    refine WC.y2Z (fun (z38 : List (Int × Int))=>(z5l z38 = some r)) (fun (z38 : List (Int × Int))=>[]) (fun (z38 : List (Int × Int))=>[y1e z1x (Value.int .i64) (Value.int .i64) z38]) ?_ ?_
    ·skip
     refine WC.b ?_
     obtain ⟨zkx,h⟩:=ya h
     refine WC.a ?_
     refine WL.a (d:=44) rfl rfl rfl (y6 y2O rfl (y2H hz.pv z4Q rfl)) ?_
     refine WL.pu rfl ?_
     refine WL.znth (dd:=46) rfl rfl (Z:=Z) (Pr:=(fun r x=>r = e33 x)) y2E rfl rfl z4P zkx ?_
     rintro zmH zmI zky zmJ rfl
     refine WL.a (d:=47) rfl rfl rfl (y4 y3h rfl rfl) ?_
     refine WL.a (d:=48) rfl rfl rfl (y6 yS rfl (y5N hz.pv zky rfl)) ?_
     refine WL.pu rfl (WL.nil (WX.a ?_))
     refine WC.cond rfl (fun z97=>?_) (fun z97=>?_)
     ·replace h:=yn h z97
      obtain ⟨zkz,h⟩:=ya h
      refine WC.y1n (fun i=>[9].contains i) [] rfl ?_
      refine WD.e (i:=0) (d:=50) (by kernel_rfl) rfl z7 z8 rfl rfl rfl (y6 y3j rfl (y2H hz.pv z39 rfl)) ?_
      refine WD.a (i:=1) (d:=51) (by kernel_rfl) rfl z7 z8 rfl rfl rfl (fun _=>q_m rfl) ?_
      refine WD.a (i:=2) (d:=52) (by kernel_rfl) rfl z7 z8 rfl rfl rfl (fun _=>q_m rfl) ?_
      refine WD.e (i:=3) (d:=53) (by kernel_rfl) rfl z7 z8 rfl rfl rfl (y6 y2O rfl (y2H hz.pv z4Q rfl)) ?_
      refine WD.a (i:=4) (d:=54) (by kernel_rfl) rfl z7 z8 rfl rfl rfl (fun _=>q_m rfl) ?_
      refine WD.znth (j:=5) (dd:=55) (by kernel_rfl) rfl z7 z8 rfl rfl (Z:=Z) (Pr:=(fun r x=>r = e33 x)) y2E rfl rfl z4P zkz ?_
      rintro zmK zmL zkA zmM rfl
      refine WD.a (i:=6) (d:=56) (by kernel_rfl) rfl z7 z8 rfl rfl rfl (fun _=>y4 y1r rfl rfl) ?_
      refine WD.e (i:=7) (d:=57) (by kernel_rfl) rfl z7 z8 rfl rfl rfl (y6 yg rfl (y5N hz.pv zkA rfl)) ?_
      refine WD.a (i:=8) (d:=58) (by kernel_rfl) rfl z7 z8 rfl rfl rfl (fun _=>q_add rfl rfl rfl) ?_
      refine WD.y2q (i:=9) rfl (by kernel_rfl) rfl rfl rfl (by kernel_rfl) (y3D (k:=zP) (v:=i64 (z1W + ((nth z1i zP).fA))) y3p Tryd.underlying54 rfl rfl rfl rfl .here) ?_
      refine WD.done (by kernel_rfl) ?_
      exact WX.mid (G:=(List (Int × Int))) (y14 (y14 z2j zP (i64 (z1W + 1))) zP (i64 (z1W + ((nth z1i zP).fA)))) h .nil (.cons .here .nil)
     ·replace h:=yo h z97
      refine WC.skip ?_
      exact WX.mid (G:=(List (Int × Int))) (y14 z2j zP (i64 (z1W + 1))) h .nil (.cons .here .nil)
    ·rintro z38 h
     replace h:=(zkw z38).symm.trans h
     refine WC.b (WC.a (WL.pu rfl (WL.nil (WX.a (WC.ret ?_)))))
     obtain rfl:=Option.some.inj h
     refine WX.yf Tryd.results29 (.tmp rfl .nil) (fun w hw=>?_)
     exact ⟨y17 rfl,hw.sub (.cons .here .nil)⟩
theorem y52 (Z : Zp) (z22 : Addr) (z1x : Nat) (z23 : Addr) (z2S : Option Addr) (z2T : Nat) (z29 : Addr) (zP : Int) (z1s : List (Int × Int)) (z1i : List Sapi_Ins) (r : Bool × (List (Int × Int))) (w₀ : World) (hz : PZ (fps [y1e z1x (Value.int .i64) (Value.int .i64) z1s]) w₀ Z)
  (hG1 : ZS Z 1 (p74 Z) (some ⟨1,0,none⟩) 26 yP)
  (z39 : ZC Z z22 [(.map (some z1x))])
  (z4P : ZS Z 4 (fun r x=>r = e33 x) z2S z2T z1i)
  (z4Q : ZC Z z23 [(.slice z2S z1i.length z2T)])
  (z6K : ZC Z z29 [(.func (.func 29) #[] #[(.pointer (some z22)),(.pointer (some z23)),(.pointer (some z29))])]) (h : y2K zP z1s z1i = some r)
  (hown : Hp (fps [y1e z1x (Value.int .i64) (Value.int .i64) z1s]) w₀ w₀ [y1e z1x (Value.int .i64) (Value.int .i64) z1s]) : Calls Tryd.prog 29 #[(.int .i64 zP),(.pointer (some z22)),(.pointer (some z23)),(.pointer (some z29))] w₀ fun e w'=>e = .returned (.bool r.1) ∧ Hp (fps [y1e z1x (Value.int .i64) (Value.int .i64) z1s]) w₀ w' [y1e z1x (Value.int .i64) (Value.int .i64) r.2]:=y4n y1o Z z22 z1x z23 z2S z2T z29 zP z1s z1i r w₀ hz hG1 z39 z4P z4Q z6K h hown
def y1a (z2e : List Sapi_Ins) (z2k : Int) : Option (Int × Bool) :=
 (y2u z2e).bind fun z7S=>if ((!z7S) || (decide (z2k < 0))) || (decide (z2k > ((z2e.length : Nat) : Int))) then some (0,false) else (y2K z2k (y14 ([] : List (Int × Int)) ((z2e.length : Nat) : Int) 0) z2e).bind fun z7T=>if !z7T.1 then some (0,false) else some ((y2a z7T.2 z2k 0),true)
set_option maxRecDepth 20000 in
theorem y2A (Z : Zp) (z6M : Option Addr) (z6N : Nat) (z2e : List Sapi_Ins) (z2k : Int) (r : Int × Bool)
  (h : y1a z2e z2k = some r) (w₀ : World) (hz : PZ [] w₀ Z)
  (hG1 : ZS Z 1 (p74 Z) (some ⟨1,0,none⟩) 26 yP)
  (zcw : ZS Z 4 (fun r x=>r = e33 x) z6M z6N z2e) :
  Calls Tryd.prog 13 #[(.slice z6M z2e.length z6N),(.int .i64 z2k)] w₀ fun e w'=>e = .returned (.tuple #[(.int .i64 r.1),(.bool r.2)]) ∧ Hp [] w₀ w' []:=by
 unfold y1a at h
 refine Calls.y9 (vs:=[(.slice z6M z2e.length z6N),(.int .i64 z2k)]) (pre:=[]) (env:=[(0,(.slice z6M z2e.length z6N)),(1,(.int .i64 z2k))]) Tryd.func13 rfl Tryd.ntmps13 rfl (Hp.nil w₀ _) rfl ?_
 refine WC.b (WC.a ?_)
 refine WL.new (dd:=2) rfl rfl rfl (y3e (cs:=[(.slice z6M z2e.length z6N)]) rfl rfl) ?_
 intro zkB _
 refine WL.pu rfl (WL.pu rfl (WL.nil (WX.a (WC.b (WC.b ?_)))))
 obtain ⟨z7S,zkC,h⟩:=zh h
 refine WC.a ?_
 refine WL.a (d:=8) rfl rfl rfl (y6 y2O rfl (yb .here rfl)) ?_
 refine WL.b (dd:=9) rfl rfl rfl (zI (l:=[.tmp 8]) Tryd.call14 (.cons rfl .nil)) .nil (cc hz .nil fun w pz ho=>y5Z _ _ _ _ _ zkC w pz hG1 zcw) ?_
 refine WL.pu rfl (WL.pu rfl ?_)
 refine WL.seg false 2 11 (B:=(!z7S) || (decide (z2k < 0))) rfl rfl rfl rfl rfl rfl (fun h=>(or_l h).symm) (fun _ zkD=>?_) ?_
 ·skip
  refine WL.pu rfl (WL.pu rfl (WL.pu rfl ?_))
  exact WL.yv (or_r zkD) rfl rfl .all
 refine WL.pu rfl ?_
 refine WL.seg false 4 15 (B:=((!z7S) || (decide (z2k < 0))) || (decide (z2k > ((z2e.length : Nat) : Int)))) rfl rfl rfl rfl rfl rfl (fun h=>(or_l h).symm) (fun _ zkE=>?_) ?_
 ·skip
  refine WL.pu rfl ?_
  refine WL.a (d:=17) rfl rfl rfl (y6 y2O rfl (yb .here rfl)) ?_
  refine WL.a (d:=18) rfl rfl rfl (y27 Tryd.underlying22 rfl) ?_
  refine WL.pu rfl (WL.pu rfl ?_)
  exact WL.yv (or_r zkE) rfl rfl .all
 refine WL.nil (WX.a ?_)
 refine WC.cond rfl (fun z98=>?_) (fun z98=>?_)
 ·replace h:=yn h z98
  refine WC.b (WC.a (WL.pu rfl (WL.pu rfl (WL.nil (WX.a (WC.ret (WX.yd ?_)))))))
  obtain rfl:=Option.some.inj h
  refine WX.yf Tryd.results13 (.tmp rfl (.tmp rfl .nil)) (fun w hw=>?_)
  exact ⟨ret2 rfl rfl,hw.sub .nil⟩
 ·replace h:=yo h z98
  refine WC.skip (WX.a (WC.b (WC.a ?_)))
  refine WL.new (dd:=21) rfl rfl rfl (y6Q (Value.int .i64) (Value.int .i64)) ?_
  intro zkF _
  refine WL.a (d:=22) rfl rfl rfl (y6 y2O rfl (yb .h1 rfl)) ?_
  refine WL.a (d:=23) rfl rfl rfl (y27 Tryd.underlying22 rfl) ?_
  refine WL.yk rfl rfl (e_insert (k:=((z2e.length : Nat) : Int)) (v:=0) y3p Tryd.underlying54 rfl rfl rfl rfl .here) ?_
  refine WL.pu rfl ?_
  refine WL.new (dd:=6) rfl rfl rfl (yw (cs:=[(.map none)]) zeroT_54 rfl) ?_
  intro zkG _
  refine WL.yk rfl rfl (yu sizT_54 rfl rfl rfl .here rfl rfl rfl) ?_
  refine WL.nil (WX.a (WC.b (WC.a ?_)))
  refine WL.new (dd:=7) rfl rfl rfl (yw (cs:=[.nilFunc]) zeroT_55 rfl) ?_
  intro zkH _
  refine WL.nil (WX.a (WC.b (WC.a ?_)))
  refine WL.a (d:=25) rfl rfl rfl (y56 (Eos.caps (l:=[.tmp 6,.tmp 2,.tmp 7]) (.cons rfl (.cons rfl (.cons rfl .nil))))) ?_
  refine WL.yk rfl rfl (yu sizT_55 rfl rfl rfl .here rfl rfl rfl) ?_
  refine WL.nil (WX.a (WC.b (WC.b ?_)))
  obtain ⟨z7T,zkI,h⟩:=zh h
  refine WC.a ?_
  refine WL.a (d:=26) rfl rfl rfl (y6 y6o rfl (yb .here rfl)) ?_
  refine WL.pu rfl ?_
  refine WL.b (dd:=28) rfl rfl rfl (yr (l:=[.tmp 27]) Tryd.call29 rfl (.cons rfl .nil)) (.cons .h2 .nil) (ccl hz (.cons .h2 .nil) (.cons .h1 (.cons .h1 (.cons .here .nil))) fun w pz ho la=>y52 (Z:=_) (z22:=⟨zkG,0,none⟩) (z1x:=zkF) (z23:=⟨zkB,0,none⟩) (z2S:=z6M) (z2T:=z6N) (z29:=⟨zkH,0,none⟩) (zP:=z2k) (z1s:=(y14 ([] : List (Int × Int)) ((z2e.length : Nat) : Int) 0)) (z1i:=z2e) (r:=z7T) w pz ((hG1.mono (Zle.left _ _)).weak (fun _ _ h=>yV (Zle.left _ _) h)) ((la _ (.head _) _).stb) (zcw.mono (Zle.left _ _)) ((la _ (.tail _ (.head _)) _).stb) ((la _ (.tail _ (.tail _ (.head _))) _).stb) zkI ho) ?_
  refine WL.pu rfl (WL.nil (WX.a ?_))
  refine WC.cond rfl (fun z99=>?_) (fun z99=>?_)
  ·replace h:=yn h z99
   refine WC.b (WC.a (WL.pu rfl (WL.pu rfl (WL.nil (WX.a (WC.ret (WX.yd ?_)))))))
   obtain rfl:=Option.some.inj h
   refine WX.yf Tryd.results13 (.tmp rfl (.tmp rfl .nil)) (fun w hw=>?_)
   exact ⟨ret2 rfl rfl,hw.sub .nil⟩
  ·replace h:=yo h z99
   refine WC.skip (WX.a (WC.b (WC.a ?_)))
   refine WL.a (d:=30) rfl rfl rfl (y6 y3j rfl (yb .h2 rfl)) ?_
   refine WL.pu rfl ?_
   refine WL.a (d:=32) rfl rfl rfl (y5U (k:=z2k) (dflt:=(0 : Int)) y3p Tryd.underlying54 y4S rfl rfl rfl .here) ?_
   refine WL.pu rfl (WL.pu rfl (WL.nil (WX.a (WC.ret ?_))))
   obtain rfl:=Option.some.inj h
   refine WX.yf Tryd.results13 (.tmp rfl (.tmp rfl .nil)) (fun w hw=>?_)
   exact ⟨ret2 rfl rfl,hw.sub .nil⟩
def y18 (z24 : List Int) (z2a : List Int) (z40 : Option Bool) : Nat → Int → Option Bool
 | 0,_=>none
 | z9a + 1,z1Z=>if decide (z1Z < ((z24.length : Nat) : Int)) then chk ((0 : Int) ≤ z1Z ∧ z1Z < ((z24.length : Nat) : Int)) (chk ((0 : Int) ≤ z1Z ∧ z1Z < ((z2a.length : Nat) : Int)) (if decide ((nth z24 z1Z) ≠ (nth z2a z1Z)) then some false else y18 z24 z2a z40 z9a (i64 (z1Z + 1)))) else z40
theorem y3v {n : Nat} {z24 : List Int} {z2a : List Int} {z40 : Option Bool} {z1Z : Int} {r : Bool} (h : y18 z24 z2a z40 n z1Z = some r) : ∃ m,n = m + 1:=by
 cases n with
 | zero=>cases h
 | succ m=>exact ⟨m,rfl⟩
def y28 (z24 : List Int) (z2a : List Int) : Option Bool :=
 if decide (((z24.length : Nat) : Int) ≠ ((z2a.length : Nat) : Int)) then some false else jp0 (some true) fun z40=>y18 z24 z2a z40 y1o 0
set_option maxRecDepth 20000 in
theorem y5c (Z : Zp) (z75 : Option Addr) (z76 : Nat) (z77 : Option Addr) (z78 : Nat) (z24 : List Int) (z2a : List Int) (r : Bool)
  (h : y28 z24 z2a = some r) (w₀ : World) (hz : PZ [] w₀ Z)
  (zkJ : ZS Z 1 (fun r x=>r = e5 x) z75 z76 z24)
  (zkK : ZS Z 1 (fun r x=>r = e5 x) z77 z78 z2a) :
  Calls Tryd.prog 22 #[(.slice z75 z24.length z76),(.slice z77 z2a.length z78)] w₀ fun e w'=>e = .returned (.bool r) ∧ Hp [] w₀ w' []:=by
 unfold y28 at h
 refine Calls.y9 (vs:=[(.slice z75 z24.length z76),(.slice z77 z2a.length z78)]) (pre:=[]) (env:=[(0,(.slice z75 z24.length z76)),(1,(.slice z77 z2a.length z78))]) Tryd.func22 rfl Tryd.ntmps22 rfl (Hp.nil w₀ _) rfl ?_
 refine WC.b (WC.a (WL.pu rfl (WL.nil (WX.a (WC.b (WC.b (WC.a (WL.pu rfl ?_))))))))
 refine WL.a (d:=7) rfl rfl rfl (y27 Tryd.underlying35 rfl) ?_
 refine WL.pu rfl ?_
 refine WL.a (d:=9) rfl rfl rfl (y27 Tryd.underlying35 rfl) ?_
 refine WL.pu rfl (WL.nil (WX.a ?_))
 refine WC.cond rfl (fun z9b=>?_) (fun z9b=>?_)
 ·replace h:=yn h z9b
  refine WC.b (WC.a (WL.pu rfl (WL.nil (WX.a (WC.ret (WX.yd ?_))))))
  obtain rfl:=Option.some.inj h
  refine WX.yf Tryd.results22 (.tmp rfl .nil) (fun w hw=>?_)
  exact ⟨y17 rfl,hw.sub .nil⟩
 ·replace h:=yo h z9b
  refine WC.skip (WX.a ?_)
  obtain ⟨z40,zkL,h⟩:=y3n h
  refine WC.y2Y ((z40 = some r)) ([]) ([]) ?_ ?_
  ·skip
   refine WC.b (WC.a (WL.pu rfl (WL.nil (WX.a (WC.block ?_)))))
   refine WC.y48 (fun (z6O : Nat) (z1Z : Int)=>(y18 z24 z2a z40 z6O z1Z = some r)) (fun (z6O : Nat) (z1Z : Int)=>[(0,(.slice z75 z24.length z76)),(1,(.slice z77 z2a.length z78)),(5,(.int .i64 z1Z))]) (fun (z6O : Nat) (z1Z : Int)=>[]) (fun (z6O : Nat) (z1Z : Int)=>z6O) ⟨y1o,0⟩ h (.cons rfl (.cons rfl (.cons rfl .nil))) .nil ?_
   rintro z6O z1Z h
   obtain ⟨z9a,rfl⟩:=y3v h
   rw [y18] at h
   refine WC.b (WC.b (WC.a (WL.pu rfl (WL.pu rfl ?_))))
   refine WL.a (d:=13) rfl rfl rfl (y27 Tryd.underlying35 rfl) ?_
   refine WL.pu rfl (WL.nil (WX.a ?_))
   refine WC.cond rfl (fun z9c=>?_) (fun z9c=>?_)
   ·replace h:=yn h z9c
    refine WC.skip (WX.a (WC.b (WC.block (WC.b ?_))))
    obtain ⟨zkM,h⟩:=ya h
    obtain ⟨zkN,h⟩:=ya h
    refine WC.y1n (fun i=>[].contains i) [] rfl ?_
    refine WD.a (i:=0) (d:=17) (by kernel_rfl) rfl z7 z8 rfl rfl rfl (fun _=>q_m rfl) ?_
    refine WD.a (i:=1) (d:=18) (by kernel_rfl) rfl z7 z8 rfl rfl rfl (fun _=>q_m rfl) ?_
    refine WD.znth (j:=2) (dd:=19) (by kernel_rfl) rfl z7 z8 rfl rfl (Z:=Z) (Pr:=(fun r x=>r = e5 x)) y2k rfl rfl zkJ zkM ?_
    rintro zmN zmO zkO zmP rfl
    refine WD.e (i:=3) (d:=20) (by kernel_rfl) rfl z7 z8 rfl rfl rfl (y6 yS rfl (y2H hz.pv zkO rfl)) ?_
    refine WD.a (i:=4) (d:=21) (by kernel_rfl) rfl z7 z8 rfl rfl rfl (fun _=>q_m rfl) ?_
    refine WD.a (i:=5) (d:=22) (by kernel_rfl) rfl z7 z8 rfl rfl rfl (fun _=>q_m rfl) ?_
    refine WD.znth (j:=6) (dd:=23) (by kernel_rfl) rfl z7 z8 rfl rfl (Z:=Z) (Pr:=(fun r x=>r = e5 x)) y2k rfl rfl zkK zkN ?_
    rintro zmQ zmR zkP zmS rfl
    refine WD.e (i:=7) (d:=24) (by kernel_rfl) rfl z7 z8 rfl rfl rfl (y6 yS rfl (y2H hz.pv zkP rfl)) ?_
    refine WD.a (i:=8) (d:=25) (by kernel_rfl) rfl z7 z8 rfl rfl rfl (fun _=>q_neq rfl rfl) ?_
    refine WD.done (by kernel_rfl) ?_
    refine WX.a ?_
    refine WC.cond rfl (fun z9d=>?_) (fun z9d=>?_)
    ·replace h:=yn h z9d
     refine WC.b (WC.a (WL.pu rfl (WL.nil (WX.a (WC.ret (WX.yD (WX.yd (WX.yd (WX.yD (WX.yd ?_))))))))))
     obtain rfl:=Option.some.inj h
     refine WX.yf Tryd.results22 (.tmp rfl .nil) (fun w hw=>?_)
     exact ⟨y17 rfl,hw.sub .nil⟩
    ·replace h:=yo h z9d
     refine WC.skip (WX.yi (WX.a (WC.a (WL.pu rfl (WL.pu rfl (WL.pu rfl (WL.nil ?_)))))))
     exact WX.round (G:=Nat × Int) ⟨z9a,(i64 (z1Z + 1))⟩ h (Nat.lt_succ_self _) (.cons rfl (.cons rfl (.cons rfl .nil))) .nil
   ·replace h:=yo h z9c
    refine WC.exit (WX.yA (WX.yA (WX.y1s ?_)))
    exact WX.mid (G:=Unit) () h .nil .nil
  ·rintro  h
   replace h:=zkL.symm.trans h
   refine WC.b (WC.a (WL.pu rfl (WL.nil (WX.a (WC.ret ?_)))))
   obtain rfl:=Option.some.inj h
   refine WX.yf Tryd.results22 (.tmp rfl .nil) (fun w hw=>?_)
   exact ⟨y17 rfl,hw.sub .nil⟩
def y11 (z1m : Sproc_Act) (z1n : Sproc_Act) : Option Bool :=
 (if ((decide (z1m.fKind = z1n.fKind)) && (decide (z1m.fA = z1n.fA))) && (decide (z1m.fB = z1n.fB)) then (y28 z1m.fData z1n.fData).bind fun zcx=>some zcx else some false).bind fun z9e=>some z9e
set_option maxRecDepth 20000 in
theorem y29 (Z : Zp) (z79 : Option Addr) (z7a : Nat) (z7b : Option Addr) (z7c : Nat) (z1m : Sproc_Act) (z1n : Sproc_Act) (r : Bool)
  (h : y11 z1m z1n = some r) (w₀ : World) (hz : PZ [] w₀ Z)
  (zkQ : ZS Z 1 (fun r x=>r = e5 x) z79 z7a z1m.fData)
  (zkR : ZS Z 1 (fun r x=>r = e5 x) z7b z7c z1n.fData) :
  Calls Tryd.prog 19 #[(.agg #[(.int .u8 z1m.fKind),(.int .i64 z1m.fA),(.int .i64 z1m.fB),(.slice z79 z1m.fData.length z7a)]),(.agg #[(.int .u8 z1n.fKind),(.int .i64 z1n.fA),(.int .i64 z1n.fB),(.slice z7b z1n.fData.length z7c)])] w₀ fun e w'=>e = .returned (.bool r) ∧ Hp [] w₀ w' []:=by
 unfold y11 at h
 refine Calls.y9 (vs:=[(.agg #[(.int .u8 z1m.fKind),(.int .i64 z1m.fA),(.int .i64 z1m.fB),(.slice z79 z1m.fData.length z7a)]),(.agg #[(.int .u8 z1n.fKind),(.int .i64 z1n.fA),(.int .i64 z1n.fB),(.slice z7b z1n.fData.length z7c)])]) (pre:=[]) (env:=[(0,(.agg #[(.int .u8 z1m.fKind),(.int .i64 z1m.fA),(.int .i64 z1m.fB),(.slice z79 z1m.fData.length z7a)])),(1,(.agg #[(.int .u8 z1n.fKind),(.int .i64 z1n.fA),(.int .i64 z1n.fB),(.slice z7b z1n.fData.length z7c)]))]) Tryd.func19 rfl Tryd.ntmps19 rfl (Hp.nil w₀ _) rfl ?_
 refine WC.b (WC.a ?_)
 refine WL.new (dd:=2) rfl rfl rfl (y3e (cs:=[(.int .u8 z1m.fKind),(.int .i64 z1m.fA),(.int .i64 z1m.fB),(.slice z79 z1m.fData.length z7a)]) rfl rfl) ?_
 intro zmT _
 refine WL.new (dd:=3) rfl rfl rfl (y3e (cs:=[(.int .u8 z1n.fKind),(.int .i64 z1n.fA),(.int .i64 z1n.fB),(.slice z7b z1n.fData.length z7c)]) rfl rfl) ?_
 intro zmU _
 refine WL.pu rfl (WL.nil (WX.a (WC.b ?_)))
 obtain ⟨z9e,zcy,h⟩:=zh h
 refine WC.a ?_
 refine WL.a (d:=5) rfl rfl rfl (y4 y5m rfl rfl) ?_
 refine WL.a (d:=6) rfl rfl rfl (y6 yS rfl (yb .h1 rfl)) ?_
 refine WL.a (d:=7) rfl rfl rfl (y4 y5m rfl rfl) ?_
 refine WL.a (d:=8) rfl rfl rfl (y6 yS rfl (yb .here rfl)) ?_
 refine WL.pu rfl (WL.pu rfl ?_)
 refine WL.seg true 5 10 (B:=(decide (z1m.fKind = z1n.fKind)) && (decide (z1m.fA = z1n.fA))) rfl rfl rfl rfl rfl rfl (fun h=>(y2W h).symm) (fun _ zkS=>?_) ?_
 ·skip
  refine WL.a (d:=11) rfl rfl rfl (y4 y6p rfl rfl) ?_
  refine WL.a (d:=12) rfl rfl rfl (y6 yg rfl (yb .h1 rfl)) ?_
  refine WL.a (d:=13) rfl rfl rfl (y4 y6p rfl rfl) ?_
  refine WL.a (d:=14) rfl rfl rfl (y6 yg rfl (yb .here rfl)) ?_
  refine WL.pu rfl (WL.pu rfl ?_)
  exact WL.yv (y2X zkS) rfl rfl .all
 refine WL.pu rfl ?_
 refine WL.seg true 5 17 (B:=((decide (z1m.fKind = z1n.fKind)) && (decide (z1m.fA = z1n.fA))) && (decide (z1m.fB = z1n.fB))) rfl rfl rfl rfl rfl rfl (fun h=>(y2W h).symm) (fun _ zkT=>?_) ?_
 ·skip
  refine WL.a (d:=18) rfl rfl rfl (y4 y6q rfl rfl) ?_
  refine WL.a (d:=19) rfl rfl rfl (y6 yg rfl (yb .h1 rfl)) ?_
  refine WL.a (d:=20) rfl rfl rfl (y4 y6q rfl rfl) ?_
  refine WL.a (d:=21) rfl rfl rfl (y6 yg rfl (yb .here rfl)) ?_
  refine WL.pu rfl (WL.pu rfl ?_)
  exact WL.yv (y2X zkT) rfl rfl .all
 refine WL.pu rfl ?_
 refine WL.seg true 5 24 (B:=z9e) rfl rfl rfl rfl rfl rfl (fun h=>(Option.some.inj (yo zcy h)).symm) (fun _ zkU=>?_) ?_
 ·skip
  have z7d:=yn zcy zkU
  obtain ⟨zcx,zkV,z7d⟩:=zh z7d
  replace z7d:=Option.some.inj z7d
  refine WL.a (d:=25) rfl rfl rfl (y4 y6r rfl rfl) ?_
  refine WL.a (d:=26) rfl rfl rfl (y6 y4R rfl (yb .h1 rfl)) ?_
  refine WL.a (d:=27) rfl rfl rfl (y4 y6r rfl rfl) ?_
  refine WL.a (d:=28) rfl rfl rfl (y6 y4R rfl (yb .here rfl)) ?_
  refine WL.b (dd:=29) rfl rfl rfl (zI (l:=[.tmp 26,.tmp 28]) Tryd.call22 (.cons rfl (.cons rfl .nil))) .nil (cc hz .nil fun w pz ho=>y5c _ _ _ _ _ _ _ _ zkV w pz zkQ zkR) ?_
  refine WL.pu rfl ?_
  exact WL.yv z7d rfl rfl .all
 refine WL.pu rfl (WL.nil (WX.a (WC.ret ?_)))
 obtain rfl:=Option.some.inj h
 refine WX.yf Tryd.results19 (.tmp rfl .nil) (fun w hw=>?_)
 exact ⟨y17 rfl,hw.sub .nil⟩
end Go.Proofs.YtjdnejbngloieaaDoor
