/- A part of this claim's proof: models of functions, walks, plain laws. No conditions. -/
import Derived.Test.YtjdnejbngloieaaDoorW26a
namespace Go.Proofs.YtjdnejbngloieaaDoor
open Go Go.RowKit Sep
set_option linter.all false
set_option maxRecDepth 30000
set_option maxHeartbeats 4000000
def y1K (zd : Sproc_execution) : Option Sproc_execution :=
 (yc zd zd.fX.fA).bind fun zfP=>chk ((0 : Int) ≤ zd.fX.fA ∧ zd.fX.fA < 4) ((yc zd zd.fX.fB).bind fun zfQ=>chk ((0 : Int) ≤ zd.fX.fB ∧ zd.fX.fB < 4) (if decide ((nth ([zd.fState.fRegs.a0,zd.fState.fRegs.a1,zd.fState.fRegs.a2,zd.fState.fRegs.a3] : List Int) zd.fX.fA) < (nth ([zd.fState.fRegs.a0,zd.fState.fRegs.a1,zd.fState.fRegs.a2,zd.fState.fRegs.a3] : List Int) zd.fX.fB)) then some (⟨(⟨zd.fX.fC,zd.fState.fLeft,zd.fState.fRegs⟩ : Sproc_State),zd.fX,zd.fMem,zd.fAct⟩ : Sproc_execution) else some zd))
set_option maxRecDepth 20000 in
theorem y3Y (Z : Zp) (z3J : Nat) (z3K : Option Addr) (z3L : Nat) (z3M : Option Addr) (z3N : Nat) (zd : Sproc_execution) (r : Sproc_execution)
  (h : y1K zd = some r) (w₀ : World) (hz : PZ (fps [stb z3J 65 [(.int .i64 zd.fState.fPc),(.int .i64 zd.fState.fLeft),(.int .u8 zd.fState.fRegs.a0),(.int .u8 zd.fState.fRegs.a1),(.int .u8 zd.fState.fRegs.a2),(.int .u8 zd.fState.fRegs.a3),(.int .u8 zd.fX.fOp),(.int .i64 zd.fX.fA),(.int .i64 zd.fX.fB),(.int .i64 zd.fX.fC),(.slice z3K zd.fMem.length z3L),(.int .u8 zd.fAct.fKind),(.int .i64 zd.fAct.fA),(.int .i64 zd.fAct.fB),(.slice z3M zd.fAct.fData.length z3N)]]) w₀ Z)
  (z7r : ZS Z 1 (fun r x=>r = e5 x) z3K z3L zd.fMem)
  (z7s : ZS Z 1 (fun r x=>r = e5 x) z3M z3N zd.fAct.fData)
  (hown : Hp (fps [stb z3J 65 [(.int .i64 zd.fState.fPc),(.int .i64 zd.fState.fLeft),(.int .u8 zd.fState.fRegs.a0),(.int .u8 zd.fState.fRegs.a1),(.int .u8 zd.fState.fRegs.a2),(.int .u8 zd.fState.fRegs.a3),(.int .u8 zd.fX.fOp),(.int .i64 zd.fX.fA),(.int .i64 zd.fX.fB),(.int .i64 zd.fX.fC),(.slice z3K zd.fMem.length z3L),(.int .u8 zd.fAct.fKind),(.int .i64 zd.fAct.fA),(.int .i64 zd.fAct.fB),(.slice z3M zd.fAct.fData.length z3N)]]) w₀ w₀ [stb z3J 65 [(.int .i64 zd.fState.fPc),(.int .i64 zd.fState.fLeft),(.int .u8 zd.fState.fRegs.a0),(.int .u8 zd.fState.fRegs.a1),(.int .u8 zd.fState.fRegs.a2),(.int .u8 zd.fState.fRegs.a3),(.int .u8 zd.fX.fOp),(.int .i64 zd.fX.fA),(.int .i64 zd.fX.fB),(.int .i64 zd.fX.fC),(.slice z3K zd.fMem.length z3L),(.int .u8 zd.fAct.fKind),(.int .i64 zd.fAct.fA),(.int .i64 zd.fAct.fB),(.slice z3M zd.fAct.fData.length z3N)]]) :
  Calls Tryd.prog 104 #[(.pointer (some ⟨z3J,0,none⟩))] w₀ fun e w'=>∃ zbN : Option Addr,∃ zbO : Nat,∃ zbP : Option Addr,∃ zbQ : Nat,e = .returned (.tuple #[]) ∧ ((ZS Z 1 (fun r x=>r = e5 x) zbN zbO r.fMem) ∧ (ZS Z 1 (fun r x=>r = e5 x) zbP zbQ r.fAct.fData)) ∧ Hp (fps [stb z3J 65 [(.int .i64 zd.fState.fPc),(.int .i64 zd.fState.fLeft),(.int .u8 zd.fState.fRegs.a0),(.int .u8 zd.fState.fRegs.a1),(.int .u8 zd.fState.fRegs.a2),(.int .u8 zd.fState.fRegs.a3),(.int .u8 zd.fX.fOp),(.int .i64 zd.fX.fA),(.int .i64 zd.fX.fB),(.int .i64 zd.fX.fC),(.slice z3K zd.fMem.length z3L),(.int .u8 zd.fAct.fKind),(.int .i64 zd.fAct.fA),(.int .i64 zd.fAct.fB),(.slice z3M zd.fAct.fData.length z3N)]]) w₀ w' [stb z3J 65 [(.int .i64 r.fState.fPc),(.int .i64 r.fState.fLeft),(.int .u8 r.fState.fRegs.a0),(.int .u8 r.fState.fRegs.a1),(.int .u8 r.fState.fRegs.a2),(.int .u8 r.fState.fRegs.a3),(.int .u8 r.fX.fOp),(.int .i64 r.fX.fA),(.int .i64 r.fX.fB),(.int .i64 r.fX.fC),(.slice zbN r.fMem.length zbO),(.int .u8 r.fAct.fKind),(.int .i64 r.fAct.fA),(.int .i64 r.fAct.fB),(.slice zbP r.fAct.fData.length zbQ)]]:=by
 unfold y1K at h
 refine Calls.y9 (vs:=[(.pointer (some ⟨z3J,0,none⟩))]) (pre:=[stb z3J 65 [(.int .i64 zd.fState.fPc),(.int .i64 zd.fState.fLeft),(.int .u8 zd.fState.fRegs.a0),(.int .u8 zd.fState.fRegs.a1),(.int .u8 zd.fState.fRegs.a2),(.int .u8 zd.fState.fRegs.a3),(.int .u8 zd.fX.fOp),(.int .i64 zd.fX.fA),(.int .i64 zd.fX.fB),(.int .i64 zd.fX.fC),(.slice z3K zd.fMem.length z3L),(.int .u8 zd.fAct.fKind),(.int .i64 zd.fAct.fA),(.int .i64 zd.fAct.fB),(.slice z3M zd.fAct.fData.length z3N)]]) (env:=[(0,(.pointer (some ⟨z3J,0,none⟩)))]) Tryd.func104 rfl Tryd.ntmps104 rfl (hown) rfl ?_
 refine WC.b ?_
 obtain ⟨zfP,zfR,h⟩:=zi h
 obtain ⟨zfS,h⟩:=yb h
 obtain ⟨zfQ,zfT,h⟩:=zi h
 obtain ⟨zfU,h⟩:=yb h
 refine WC.y1h (fun i=>[].contains i) [] rfl ?_
 refine WD.a (i:=0) (d:=2) (by kernel_rfl) rfl z7 z8 rfl rfl rfl (fun _=>q_m rfl) ?_
 refine WD.a (i:=1) (d:=3) (by kernel_rfl) rfl z7 z8 rfl rfl rfl (fun _=>q_m rfl) ?_
 refine WD.a (i:=2) (d:=4) (by kernel_rfl) rfl z7 z8 rfl rfl rfl (fun _=>y7 rfl) ?_
 refine WD.a (i:=3) (d:=5) (by kernel_rfl) rfl z7 z8 rfl rfl rfl (fun _=>y4 yE rfl rfl) ?_
 refine WD.a (i:=4) (d:=6) (by kernel_rfl) rfl z7 z8 rfl rfl rfl (fun _=>y4 y1q rfl rfl) ?_
 refine WD.e (i:=5) (d:=7) (by kernel_rfl) rfl z7 z8 rfl rfl rfl (y6 ye rfl (ya .here rfl)) ?_
 refine WD.c (i:=6) (d:=8) (by kernel_rfl) rfl z7 z8 rfl rfl rfl (zK (l:=[.tmp 2,.tmp 7]) Tryd.call108 (.cons rfl (.cons rfl .nil))) (ccl hz .nil (.cons .here .nil) fun w pz ho la=>yh _ _ _ _ _ _ _ _ _ zfR w pz (z7r.mono (Zle.left _ _)) (z7s.mono (Zle.left _ _)) ((la _ (.head _) _).stb)) ?_
 refine WD.a (i:=7) (d:=9) (by kernel_rfl) rfl z7 z8 rfl rfl rfl (fun _=>y7 rfl) ?_
 refine WD.e (i:=8) (d:=10) (by kernel_rfl) rfl z7 z8 rfl rfl rfl (y6 yx rfl (y1x (l:=([zd.fState.fRegs.a0,zd.fState.fRegs.a1,zd.fState.fRegs.a2,zd.fState.fRegs.a3] : List Int)) (f:=Value.int .u8) (k:=2) (m:=6) .here rfl rfl zfS)) ?_
 refine WD.a (i:=9) (d:=11) (by kernel_rfl) rfl z7 z8 rfl rfl rfl (fun _=>q_m rfl) ?_
 refine WD.a (i:=10) (d:=12) (by kernel_rfl) rfl z7 z8 rfl rfl rfl (fun _=>q_m rfl) ?_
 refine WD.a (i:=11) (d:=13) (by kernel_rfl) rfl z7 z8 rfl rfl rfl (fun _=>y7 rfl) ?_
 refine WD.a (i:=12) (d:=14) (by kernel_rfl) rfl z7 z8 rfl rfl rfl (fun _=>y4 yE rfl rfl) ?_
 refine WD.a (i:=13) (d:=15) (by kernel_rfl) rfl z7 z8 rfl rfl rfl (fun _=>y4 y22 rfl rfl) ?_
 refine WD.e (i:=14) (d:=16) (by kernel_rfl) rfl z7 z8 rfl rfl rfl (y6 ye rfl (ya .here rfl)) ?_
 refine WD.c (i:=15) (d:=17) (by kernel_rfl) rfl z7 z8 rfl rfl rfl (zK (l:=[.tmp 11,.tmp 16]) Tryd.call108 (.cons rfl (.cons rfl .nil))) (ccl hz .nil (.cons .here .nil) fun w pz ho la=>yh _ _ _ _ _ _ _ _ _ zfT w pz (z7r.mono (Zle.left _ _)) (z7s.mono (Zle.left _ _)) ((la _ (.head _) _).stb)) ?_
 refine WD.a (i:=16) (d:=18) (by kernel_rfl) rfl z7 z8 rfl rfl rfl (fun _=>y7 rfl) ?_
 refine WD.e (i:=17) (d:=19) (by kernel_rfl) rfl z7 z8 rfl rfl rfl (y6 yx rfl (y1x (l:=([zd.fState.fRegs.a0,zd.fState.fRegs.a1,zd.fState.fRegs.a2,zd.fState.fRegs.a3] : List Int)) (f:=Value.int .u8) (k:=2) (m:=6) .here rfl rfl zfU)) ?_
 refine WD.a (i:=18) (d:=20) (by kernel_rfl) rfl z7 z8 rfl rfl rfl (fun _=>q_lss rfl rfl) ?_
 refine WD.done (by kernel_rfl) ?_
 refine WX.a ?_
 refine WC.cond rfl (fun z8y=>?_) (fun z8y=>?_)
 ·replace h:=ym h z8y
  refine WC.a (WL.pu rfl (WL.pu rfl ?_))
  refine WL.a (d:=23) rfl rfl rfl (y7 rfl) ?_
  refine WL.a (d:=24) rfl rfl rfl (y4 yE rfl rfl) ?_
  refine WL.a (d:=25) rfl rfl rfl (y4 y3M rfl rfl) ?_
  refine WL.a (d:=26) rfl rfl rfl (y6 ye rfl (ya .here rfl)) ?_
  refine WL.a (d:=27) rfl rfl rfl (y7 rfl) ?_
  refine WL.a (d:=28) rfl rfl rfl (y4 y1i rfl rfl) ?_
  refine WL.a (d:=29) rfl rfl rfl (y4 y1V rfl rfl) ?_
  refine WL.yk rfl rfl (y1n (ds:=[(.int .i64 zd.fX.fC),(.int .i64 zd.fState.fLeft),(.int .u8 zd.fState.fRegs.a0),(.int .u8 zd.fState.fRegs.a1),(.int .u8 zd.fState.fRegs.a2),(.int .u8 zd.fState.fRegs.a3),(.int .u8 zd.fX.fOp),(.int .i64 zd.fX.fA),(.int .i64 zd.fX.fB),(.int .i64 zd.fX.fC),(.slice z3K zd.fMem.length z3L),(.int .u8 zd.fAct.fKind),(.int .i64 zd.fAct.fA),(.int .i64 zd.fAct.fB),(.slice z3M zd.fAct.fData.length z3N)]) y33 rfl rfl rfl rfl rfl .here rfl rfl) ?_
  refine WL.nil ?_
  obtain rfl:=Option.some.inj h
  refine WX.yf Tryd.results104 .nil (fun w hw=>?_)
  exact ⟨z3K,z3L,z3M,z3N,y15,⟨z7r,z7s⟩,hw.sub (.cons .here .nil)⟩
 ·replace h:=yn h z8y
  refine WC.skip ?_
  obtain rfl:=Option.some.inj h
  refine WX.yf Tryd.results104 .nil (fun w hw=>?_)
  exact ⟨z3K,z3L,z3M,z3N,y15,⟨z7r,z7s⟩,hw.sub (.cons .here .nil)⟩
def y1U (z1 : Sproc_execution) : Option Sproc_execution :=
 (yc z1 z1.fX.fB).bind fun zfV=>chk ((0 : Int) ≤ z1.fX.fB ∧ z1.fX.fB < 4) (if decide ((nth ([z1.fState.fRegs.a0,z1.fState.fRegs.a1,z1.fState.fRegs.a2,z1.fState.fRegs.a3] : List Int) z1.fX.fB) ≠ 0) then (yc z1 z1.fX.fA).bind fun zfW=>chk ((0 : Int) ≤ z1.fX.fA ∧ z1.fX.fA < 4) (chk ((nth ([z1.fState.fRegs.a0,z1.fState.fRegs.a1,z1.fState.fRegs.a2,z1.fState.fRegs.a3] : List Int) z1.fX.fB : Int) ≠ 0) (some (⟨(⟨z1.fState.fPc,z1.fState.fLeft,(⟨nth (([z1.fState.fRegs.a0,z1.fState.fRegs.a1,z1.fState.fRegs.a2,z1.fState.fRegs.a3] : List Int).set (z1.fX.fA : Int).toNat (u8 (Int.tdiv (nth ([z1.fState.fRegs.a0,z1.fState.fRegs.a1,z1.fState.fRegs.a2,z1.fState.fRegs.a3] : List Int) z1.fX.fA) (nth ([z1.fState.fRegs.a0,z1.fState.fRegs.a1,z1.fState.fRegs.a2,z1.fState.fRegs.a3] : List Int) z1.fX.fB)))) 0,nth (([z1.fState.fRegs.a0,z1.fState.fRegs.a1,z1.fState.fRegs.a2,z1.fState.fRegs.a3] : List Int).set (z1.fX.fA : Int).toNat (u8 (Int.tdiv (nth ([z1.fState.fRegs.a0,z1.fState.fRegs.a1,z1.fState.fRegs.a2,z1.fState.fRegs.a3] : List Int) z1.fX.fA) (nth ([z1.fState.fRegs.a0,z1.fState.fRegs.a1,z1.fState.fRegs.a2,z1.fState.fRegs.a3] : List Int) z1.fX.fB)))) 1,nth (([z1.fState.fRegs.a0,z1.fState.fRegs.a1,z1.fState.fRegs.a2,z1.fState.fRegs.a3] : List Int).set (z1.fX.fA : Int).toNat (u8 (Int.tdiv (nth ([z1.fState.fRegs.a0,z1.fState.fRegs.a1,z1.fState.fRegs.a2,z1.fState.fRegs.a3] : List Int) z1.fX.fA) (nth ([z1.fState.fRegs.a0,z1.fState.fRegs.a1,z1.fState.fRegs.a2,z1.fState.fRegs.a3] : List Int) z1.fX.fB)))) 2,nth (([z1.fState.fRegs.a0,z1.fState.fRegs.a1,z1.fState.fRegs.a2,z1.fState.fRegs.a3] : List Int).set (z1.fX.fA : Int).toNat (u8 (Int.tdiv (nth ([z1.fState.fRegs.a0,z1.fState.fRegs.a1,z1.fState.fRegs.a2,z1.fState.fRegs.a3] : List Int) z1.fX.fA) (nth ([z1.fState.fRegs.a0,z1.fState.fRegs.a1,z1.fState.fRegs.a2,z1.fState.fRegs.a3] : List Int) z1.fX.fB)))) 3⟩ : S34)⟩ : Sproc_State),z1.fX,z1.fMem,z1.fAct⟩ : Sproc_execution))) else (yz z1 4 0).bind fun z8z=>some z8z)
set_option maxRecDepth 20000 in
theorem y4i (Z : Zp) (z3O : Nat) (z4E : Option Addr) (z4F : Nat) (z4G : Option Addr) (z4H : Nat) (z1 : Sproc_execution) (r : Sproc_execution)
  (h : y1U z1 = some r) (w₀ : World) (hz : PZ (fps [stb z3O 65 [(.int .i64 z1.fState.fPc),(.int .i64 z1.fState.fLeft),(.int .u8 z1.fState.fRegs.a0),(.int .u8 z1.fState.fRegs.a1),(.int .u8 z1.fState.fRegs.a2),(.int .u8 z1.fState.fRegs.a3),(.int .u8 z1.fX.fOp),(.int .i64 z1.fX.fA),(.int .i64 z1.fX.fB),(.int .i64 z1.fX.fC),(.slice z4E z1.fMem.length z4F),(.int .u8 z1.fAct.fKind),(.int .i64 z1.fAct.fA),(.int .i64 z1.fAct.fB),(.slice z4G z1.fAct.fData.length z4H)]]) w₀ Z)
  (z7t : ZS Z 1 (fun r x=>r = e5 x) z4E z4F z1.fMem)
  (z7u : ZS Z 1 (fun r x=>r = e5 x) z4G z4H z1.fAct.fData)
  (hown : Hp (fps [stb z3O 65 [(.int .i64 z1.fState.fPc),(.int .i64 z1.fState.fLeft),(.int .u8 z1.fState.fRegs.a0),(.int .u8 z1.fState.fRegs.a1),(.int .u8 z1.fState.fRegs.a2),(.int .u8 z1.fState.fRegs.a3),(.int .u8 z1.fX.fOp),(.int .i64 z1.fX.fA),(.int .i64 z1.fX.fB),(.int .i64 z1.fX.fC),(.slice z4E z1.fMem.length z4F),(.int .u8 z1.fAct.fKind),(.int .i64 z1.fAct.fA),(.int .i64 z1.fAct.fB),(.slice z4G z1.fAct.fData.length z4H)]]) w₀ w₀ [stb z3O 65 [(.int .i64 z1.fState.fPc),(.int .i64 z1.fState.fLeft),(.int .u8 z1.fState.fRegs.a0),(.int .u8 z1.fState.fRegs.a1),(.int .u8 z1.fState.fRegs.a2),(.int .u8 z1.fState.fRegs.a3),(.int .u8 z1.fX.fOp),(.int .i64 z1.fX.fA),(.int .i64 z1.fX.fB),(.int .i64 z1.fX.fC),(.slice z4E z1.fMem.length z4F),(.int .u8 z1.fAct.fKind),(.int .i64 z1.fAct.fA),(.int .i64 z1.fAct.fB),(.slice z4G z1.fAct.fData.length z4H)]]) :
  Calls Tryd.prog 105 #[(.pointer (some ⟨z3O,0,none⟩))] w₀ fun e w'=>∃ Zn : Zp,∃ zbR : Option Addr,∃ zbS : Nat,∃ zbT : Option Addr,∃ zbU : Nat,e = .returned (.tuple #[]) ∧ ((ZS (Z ++ Zn) 1 (fun r x=>r = e5 x) zbR zbS r.fMem) ∧ (ZS (Z ++ Zn) 1 (fun r x=>r = e5 x) zbT zbU r.fAct.fData)) ∧ Hp (fps [stb z3O 65 [(.int .i64 z1.fState.fPc),(.int .i64 z1.fState.fLeft),(.int .u8 z1.fState.fRegs.a0),(.int .u8 z1.fState.fRegs.a1),(.int .u8 z1.fState.fRegs.a2),(.int .u8 z1.fState.fRegs.a3),(.int .u8 z1.fX.fOp),(.int .i64 z1.fX.fA),(.int .i64 z1.fX.fB),(.int .i64 z1.fX.fC),(.slice z4E z1.fMem.length z4F),(.int .u8 z1.fAct.fKind),(.int .i64 z1.fAct.fA),(.int .i64 z1.fAct.fB),(.slice z4G z1.fAct.fData.length z4H)]]) w₀ w' [fz Zn,stb z3O 65 [(.int .i64 r.fState.fPc),(.int .i64 r.fState.fLeft),(.int .u8 r.fState.fRegs.a0),(.int .u8 r.fState.fRegs.a1),(.int .u8 r.fState.fRegs.a2),(.int .u8 r.fState.fRegs.a3),(.int .u8 r.fX.fOp),(.int .i64 r.fX.fA),(.int .i64 r.fX.fB),(.int .i64 r.fX.fC),(.slice zbR r.fMem.length zbS),(.int .u8 r.fAct.fKind),(.int .i64 r.fAct.fA),(.int .i64 r.fAct.fB),(.slice zbT r.fAct.fData.length zbU)]]:=by
 unfold y1U at h
 refine Calls.y9 (vs:=[(.pointer (some ⟨z3O,0,none⟩))]) (pre:=[stb z3O 65 [(.int .i64 z1.fState.fPc),(.int .i64 z1.fState.fLeft),(.int .u8 z1.fState.fRegs.a0),(.int .u8 z1.fState.fRegs.a1),(.int .u8 z1.fState.fRegs.a2),(.int .u8 z1.fState.fRegs.a3),(.int .u8 z1.fX.fOp),(.int .i64 z1.fX.fA),(.int .i64 z1.fX.fB),(.int .i64 z1.fX.fC),(.slice z4E z1.fMem.length z4F),(.int .u8 z1.fAct.fKind),(.int .i64 z1.fAct.fA),(.int .i64 z1.fAct.fB),(.slice z4G z1.fAct.fData.length z4H)]]) (env:=[(0,(.pointer (some ⟨z3O,0,none⟩)))]) Tryd.func105 rfl Tryd.ntmps105 rfl (hown) rfl ?_
 refine WC.pool (WC.b ?_)
 obtain ⟨zfV,zfX,h⟩:=zi h
 obtain ⟨zfY,h⟩:=yb h
 refine WC.a (WL.pu rfl (WL.pu rfl ?_))
 refine WL.a (d:=5) rfl rfl rfl (y7 rfl) ?_
 refine WL.a (d:=6) rfl rfl rfl (y4 yE rfl rfl) ?_
 refine WL.a (d:=7) rfl rfl rfl (y4 y22 rfl rfl) ?_
 refine WL.a (d:=8) rfl rfl rfl (y6 ye rfl (ya .h1 rfl)) ?_
 refine WL.b (dd:=9) rfl rfl rfl (zK (l:=[.tmp 3,.tmp 8]) Tryd.call108 (.cons rfl (.cons rfl .nil))) .nil (y2f hz .nil .here (.cons .h1 .nil) fun w pz ho la=>yh _ _ _ _ _ _ _ _ _ zfX w pz ((z7t.mono (Zle.left _ _)).mono (Zle.left _ _)) ((z7u.mono (Zle.left _ _)).mono (Zle.left _ _)) ((la _ (.head _) _).stb)) ?_
 refine WL.a (d:=10) rfl rfl rfl (y7 rfl) ?_
 refine WL.a (d:=11) rfl rfl rfl (y6 yx rfl (y1x (l:=([z1.fState.fRegs.a0,z1.fState.fRegs.a1,z1.fState.fRegs.a2,z1.fState.fRegs.a3] : List Int)) (f:=Value.int .u8) (k:=2) (m:=6) .h1 rfl rfl zfY)) ?_
 refine WL.pu rfl (WL.nil (WX.a (WC.b (WC.a (WL.pu rfl (WL.pu rfl (WL.nil (WX.a ?_))))))))
 refine WC.cond rfl (fun z8A=>?_) (fun z8A=>?_)
 ·replace h:=ym h z8A
  obtain ⟨zfW,zfZ,h⟩:=zi h
  obtain ⟨zbV,h⟩:=yb h
  obtain ⟨zg0,h⟩:=yb h
  refine WC.a (WL.pu rfl (WL.pu rfl ?_))
  refine WL.a (d:=16) rfl rfl rfl (y7 rfl) ?_
  refine WL.a (d:=17) rfl rfl rfl (y4 yE rfl rfl) ?_
  refine WL.a (d:=18) rfl rfl rfl (y4 y1q rfl rfl) ?_
  refine WL.a (d:=19) rfl rfl rfl (y6 ye rfl (ya .h1 rfl)) ?_
  refine WL.b (dd:=20) rfl rfl rfl (zK (l:=[.tmp 14,.tmp 19]) Tryd.call108 (.cons rfl (.cons rfl .nil))) .nil (y2f hz .nil .here (.cons .h1 .nil) fun w pz ho la=>yh _ _ _ _ _ _ _ _ _ zfZ w pz ((z7t.mono (Zle.left _ _)).mono (Zle.left _ _)) ((z7u.mono (Zle.left _ _)).mono (Zle.left _ _)) ((la _ (.head _) _).stb)) ?_
  refine WL.a (d:=21) rfl rfl rfl (y7 rfl) ?_
  refine WL.a (d:=22) rfl rfl rfl (y6 yx rfl (y1x (l:=([z1.fState.fRegs.a0,z1.fState.fRegs.a1,z1.fState.fRegs.a2,z1.fState.fRegs.a3] : List Int)) (f:=Value.int .u8) (k:=2) (m:=6) .h1 rfl rfl zbV)) ?_
  refine WL.pu rfl ?_
  refine WL.a (d:=24) rfl rfl rfl (q_quo rfl rfl zg0 rfl) ?_
  refine WL.a (d:=25) rfl rfl rfl (y7 rfl) ?_
  refine WL.yk rfl rfl (y32 (l:=([z1.fState.fRegs.a0,z1.fState.fRegs.a1,z1.fState.fRegs.a2,z1.fState.fRegs.a3] : List Int)) (f:=Value.int .u8) (u:=u8 (Int.tdiv (nth ([z1.fState.fRegs.a0,z1.fState.fRegs.a1,z1.fState.fRegs.a2,z1.fState.fRegs.a3] : List Int) z1.fX.fA) (nth ([z1.fState.fRegs.a0,z1.fState.fRegs.a1,z1.fState.fRegs.a2,z1.fState.fRegs.a3] : List Int) z1.fX.fB))) (k:=2) (m:=6) (j:=4) (ds:=[(.int .i64 z1.fState.fPc),(.int .i64 z1.fState.fLeft),(.int .u8 (nth (([z1.fState.fRegs.a0,z1.fState.fRegs.a1,z1.fState.fRegs.a2,z1.fState.fRegs.a3] : List Int).set (z1.fX.fA : Int).toNat (u8 (Int.tdiv (nth ([z1.fState.fRegs.a0,z1.fState.fRegs.a1,z1.fState.fRegs.a2,z1.fState.fRegs.a3] : List Int) z1.fX.fA) (nth ([z1.fState.fRegs.a0,z1.fState.fRegs.a1,z1.fState.fRegs.a2,z1.fState.fRegs.a3] : List Int) z1.fX.fB)))) 0)),(.int .u8 (nth (([z1.fState.fRegs.a0,z1.fState.fRegs.a1,z1.fState.fRegs.a2,z1.fState.fRegs.a3] : List Int).set (z1.fX.fA : Int).toNat (u8 (Int.tdiv (nth ([z1.fState.fRegs.a0,z1.fState.fRegs.a1,z1.fState.fRegs.a2,z1.fState.fRegs.a3] : List Int) z1.fX.fA) (nth ([z1.fState.fRegs.a0,z1.fState.fRegs.a1,z1.fState.fRegs.a2,z1.fState.fRegs.a3] : List Int) z1.fX.fB)))) 1)),(.int .u8 (nth (([z1.fState.fRegs.a0,z1.fState.fRegs.a1,z1.fState.fRegs.a2,z1.fState.fRegs.a3] : List Int).set (z1.fX.fA : Int).toNat (u8 (Int.tdiv (nth ([z1.fState.fRegs.a0,z1.fState.fRegs.a1,z1.fState.fRegs.a2,z1.fState.fRegs.a3] : List Int) z1.fX.fA) (nth ([z1.fState.fRegs.a0,z1.fState.fRegs.a1,z1.fState.fRegs.a2,z1.fState.fRegs.a3] : List Int) z1.fX.fB)))) 2)),(.int .u8 (nth (([z1.fState.fRegs.a0,z1.fState.fRegs.a1,z1.fState.fRegs.a2,z1.fState.fRegs.a3] : List Int).set (z1.fX.fA : Int).toNat (u8 (Int.tdiv (nth ([z1.fState.fRegs.a0,z1.fState.fRegs.a1,z1.fState.fRegs.a2,z1.fState.fRegs.a3] : List Int) z1.fX.fA) (nth ([z1.fState.fRegs.a0,z1.fState.fRegs.a1,z1.fState.fRegs.a2,z1.fState.fRegs.a3] : List Int) z1.fX.fB)))) 3)),(.int .u8 z1.fX.fOp),(.int .i64 z1.fX.fA),(.int .i64 z1.fX.fB),(.int .i64 z1.fX.fC),(.slice z4E z1.fMem.length z4F),(.int .u8 z1.fAct.fKind),(.int .i64 z1.fAct.fA),(.int .i64 z1.fAct.fB),(.slice z4G z1.fAct.fData.length z4H)]) y3o rfl rfl rfl rfl .h1 rfl rfl zbV rfl rfl) ?_
  refine WL.nil ?_
  obtain rfl:=Option.some.inj h
  refine WX.yf Tryd.results105 .nil (fun w hw=>?_)
  exact ⟨[],z4E,z4F,z4G,z4H,y15,⟨(z7t.mono (Zle.left _ _)),(z7u.mono (Zle.left _ _))⟩,hw.sub (.cons .h1 (.cons .here .nil))⟩
 ·replace h:=yn h z8A
  obtain ⟨z8z,zg1,h⟩:=zi h
  refine WC.a (WL.pu rfl ?_)
  refine WL.yl (dd:=27) rfl rfl rfl (zK (l:=[.tmp 26,.const (.int .u8 4),.const (.int .i64 0)]) Tryd.call112 (.cons rfl (.cons rfl (.cons rfl .nil)))) (.cons .h1 .nil) (ccz hz (.cons .h1 .nil) .here fun w pz ho=>y29 _ _ _ _ _ _ _ _ _ _ zg1 w pz (z7t.mono (Zle.left _ _)) (z7u.mono (Zle.left _ _)) ho) ?_
  rintro zg2 zg3 zg4 zg5 zg6
  refine WL.nil ?_
  refine WX.freezeS (ls:=z8z.fAct.fData) .h1 .h1 hz (RR.yI (enc:=e5) (fun _=>rfl) _) ?_
  intro zg7 zg8 zg9
  obtain rfl:=Option.some.inj h
  refine WX.yf Tryd.results105 .nil (fun w hw=>?_)
  exact ⟨zg7,zg2,zg3,zg4,zg5,y15,⟨(zg6.mono zg8),zg9⟩,hw.sub (.cons .here (.cons .here .nil))⟩
def y1w (zx : Sproc_execution) : Option Sproc_execution :=
 (yz zx 3 zx.fX.fA).bind fun zbW=>some zbW
set_option maxRecDepth 20000 in
theorem y3G (Z : Zp) (z3P : Nat) (z6r : Option Addr) (z6s : Nat) (z6t : Option Addr) (z6u : Nat) (zx : Sproc_execution) (r : Sproc_execution)
  (h : y1w zx = some r) (w₀ : World) (hz : PZ (fps [stb z3P 65 [(.int .i64 zx.fState.fPc),(.int .i64 zx.fState.fLeft),(.int .u8 zx.fState.fRegs.a0),(.int .u8 zx.fState.fRegs.a1),(.int .u8 zx.fState.fRegs.a2),(.int .u8 zx.fState.fRegs.a3),(.int .u8 zx.fX.fOp),(.int .i64 zx.fX.fA),(.int .i64 zx.fX.fB),(.int .i64 zx.fX.fC),(.slice z6r zx.fMem.length z6s),(.int .u8 zx.fAct.fKind),(.int .i64 zx.fAct.fA),(.int .i64 zx.fAct.fB),(.slice z6t zx.fAct.fData.length z6u)]]) w₀ Z)
  (zga : ZS Z 1 (fun r x=>r = e5 x) z6r z6s zx.fMem)
  (zgb : ZS Z 1 (fun r x=>r = e5 x) z6t z6u zx.fAct.fData)
  (hown : Hp (fps [stb z3P 65 [(.int .i64 zx.fState.fPc),(.int .i64 zx.fState.fLeft),(.int .u8 zx.fState.fRegs.a0),(.int .u8 zx.fState.fRegs.a1),(.int .u8 zx.fState.fRegs.a2),(.int .u8 zx.fState.fRegs.a3),(.int .u8 zx.fX.fOp),(.int .i64 zx.fX.fA),(.int .i64 zx.fX.fB),(.int .i64 zx.fX.fC),(.slice z6r zx.fMem.length z6s),(.int .u8 zx.fAct.fKind),(.int .i64 zx.fAct.fA),(.int .i64 zx.fAct.fB),(.slice z6t zx.fAct.fData.length z6u)]]) w₀ w₀ [stb z3P 65 [(.int .i64 zx.fState.fPc),(.int .i64 zx.fState.fLeft),(.int .u8 zx.fState.fRegs.a0),(.int .u8 zx.fState.fRegs.a1),(.int .u8 zx.fState.fRegs.a2),(.int .u8 zx.fState.fRegs.a3),(.int .u8 zx.fX.fOp),(.int .i64 zx.fX.fA),(.int .i64 zx.fX.fB),(.int .i64 zx.fX.fC),(.slice z6r zx.fMem.length z6s),(.int .u8 zx.fAct.fKind),(.int .i64 zx.fAct.fA),(.int .i64 zx.fAct.fB),(.slice z6t zx.fAct.fData.length z6u)]]) :
  Calls Tryd.prog 106 #[(.pointer (some ⟨z3P,0,none⟩))] w₀ fun e w'=>∃ zbX : Option Addr,∃ zbY : Nat,∃ zbZ : Option Addr,∃ zc0 : Nat,e = .returned (.tuple #[]) ∧ (ZS Z 1 (fun r x=>r = e5 x) zbX zbY r.fMem) ∧ Hp (fps [stb z3P 65 [(.int .i64 zx.fState.fPc),(.int .i64 zx.fState.fLeft),(.int .u8 zx.fState.fRegs.a0),(.int .u8 zx.fState.fRegs.a1),(.int .u8 zx.fState.fRegs.a2),(.int .u8 zx.fState.fRegs.a3),(.int .u8 zx.fX.fOp),(.int .i64 zx.fX.fA),(.int .i64 zx.fX.fB),(.int .i64 zx.fX.fC),(.slice z6r zx.fMem.length z6s),(.int .u8 zx.fAct.fKind),(.int .i64 zx.fAct.fA),(.int .i64 zx.fAct.fB),(.slice z6t zx.fAct.fData.length z6u)]]) w₀ w' [stb z3P 65 [(.int .i64 r.fState.fPc),(.int .i64 r.fState.fLeft),(.int .u8 r.fState.fRegs.a0),(.int .u8 r.fState.fRegs.a1),(.int .u8 r.fState.fRegs.a2),(.int .u8 r.fState.fRegs.a3),(.int .u8 r.fX.fOp),(.int .i64 r.fX.fA),(.int .i64 r.fX.fB),(.int .i64 r.fX.fC),(.slice zbX r.fMem.length zbY),(.int .u8 r.fAct.fKind),(.int .i64 r.fAct.fA),(.int .i64 r.fAct.fB),(.slice zbZ r.fAct.fData.length zc0)],row (.slice zbZ r.fAct.fData.length zc0) 5 1 (r.fAct.fData.flatMap e5)]:=by
 unfold y1w at h
 refine Calls.y9 (vs:=[(.pointer (some ⟨z3P,0,none⟩))]) (pre:=[stb z3P 65 [(.int .i64 zx.fState.fPc),(.int .i64 zx.fState.fLeft),(.int .u8 zx.fState.fRegs.a0),(.int .u8 zx.fState.fRegs.a1),(.int .u8 zx.fState.fRegs.a2),(.int .u8 zx.fState.fRegs.a3),(.int .u8 zx.fX.fOp),(.int .i64 zx.fX.fA),(.int .i64 zx.fX.fB),(.int .i64 zx.fX.fC),(.slice z6r zx.fMem.length z6s),(.int .u8 zx.fAct.fKind),(.int .i64 zx.fAct.fA),(.int .i64 zx.fAct.fB),(.slice z6t zx.fAct.fData.length z6u)]]) (env:=[(0,(.pointer (some ⟨z3P,0,none⟩)))]) Tryd.func106 rfl Tryd.ntmps106 rfl (hown) rfl ?_
 obtain ⟨zbW,zgc,h⟩:=zi h
 refine WC.a (WL.pu rfl (WL.pu rfl ?_))
 refine WL.a (d:=4) rfl rfl rfl (y7 rfl) ?_
 refine WL.a (d:=5) rfl rfl rfl (y4 yE rfl rfl) ?_
 refine WL.a (d:=6) rfl rfl rfl (y4 y1q rfl rfl) ?_
 refine WL.a (d:=7) rfl rfl rfl (y6 ye rfl (ya .here rfl)) ?_
 refine WL.yl (dd:=8) rfl rfl rfl (zK (l:=[.tmp 2,.const (.int .u8 3),.tmp 7]) Tryd.call112 (.cons rfl (.cons rfl (.cons rfl .nil)))) (.cons .here .nil) (cc hz (.cons .here .nil) fun w pz ho=>y29 _ _ _ _ _ _ _ _ _ _ zgc w pz zga zgb ho) ?_
 rintro zgd zge zgf zgg zgh
 refine WL.nil ?_
 obtain rfl:=Option.some.inj h
 refine WX.yf Tryd.results106 .nil (fun w hw=>?_)
 exact ⟨zgd,zge,zgf,zgg,y15,zgh,hw.sub (.cons .here (.cons .here .nil))⟩
def y1L (zh : Sproc_execution) : Option Sproc_execution :=
 some (⟨(⟨i64 (zh.fState.fPc - 1),zh.fState.fLeft,zh.fState.fRegs⟩ : Sproc_State),zh.fX,zh.fMem,(⟨16,0,0,([] : List Int)⟩ : Sproc_Act)⟩ : Sproc_execution)
set_option maxRecDepth 20000 in
theorem y3Z (Z : Zp) (z3Q : Nat) (z3R : Option Addr) (z3S : Nat) (z5b : Option Addr) (z5c : Nat) (zh : Sproc_execution) (r : Sproc_execution)
  (h : y1L zh = some r) (w₀ : World) (hz : PZ (fps [stb z3Q 65 [(.int .i64 zh.fState.fPc),(.int .i64 zh.fState.fLeft),(.int .u8 zh.fState.fRegs.a0),(.int .u8 zh.fState.fRegs.a1),(.int .u8 zh.fState.fRegs.a2),(.int .u8 zh.fState.fRegs.a3),(.int .u8 zh.fX.fOp),(.int .i64 zh.fX.fA),(.int .i64 zh.fX.fB),(.int .i64 zh.fX.fC),(.slice z3R zh.fMem.length z3S),(.int .u8 zh.fAct.fKind),(.int .i64 zh.fAct.fA),(.int .i64 zh.fAct.fB),(.slice z5b zh.fAct.fData.length z5c)]]) w₀ Z)
  (zgi : ZS Z 1 (fun r x=>r = e5 x) z3R z3S zh.fMem)
  (zmy : ZS Z 1 (fun r x=>r = e5 x) z5b z5c zh.fAct.fData)
  (hown : Hp (fps [stb z3Q 65 [(.int .i64 zh.fState.fPc),(.int .i64 zh.fState.fLeft),(.int .u8 zh.fState.fRegs.a0),(.int .u8 zh.fState.fRegs.a1),(.int .u8 zh.fState.fRegs.a2),(.int .u8 zh.fState.fRegs.a3),(.int .u8 zh.fX.fOp),(.int .i64 zh.fX.fA),(.int .i64 zh.fX.fB),(.int .i64 zh.fX.fC),(.slice z3R zh.fMem.length z3S),(.int .u8 zh.fAct.fKind),(.int .i64 zh.fAct.fA),(.int .i64 zh.fAct.fB),(.slice z5b zh.fAct.fData.length z5c)]]) w₀ w₀ [stb z3Q 65 [(.int .i64 zh.fState.fPc),(.int .i64 zh.fState.fLeft),(.int .u8 zh.fState.fRegs.a0),(.int .u8 zh.fState.fRegs.a1),(.int .u8 zh.fState.fRegs.a2),(.int .u8 zh.fState.fRegs.a3),(.int .u8 zh.fX.fOp),(.int .i64 zh.fX.fA),(.int .i64 zh.fX.fB),(.int .i64 zh.fX.fC),(.slice z3R zh.fMem.length z3S),(.int .u8 zh.fAct.fKind),(.int .i64 zh.fAct.fA),(.int .i64 zh.fAct.fB),(.slice z5b zh.fAct.fData.length z5c)]]) :
  Calls Tryd.prog 107 #[(.pointer (some ⟨z3Q,0,none⟩))] w₀ fun e w'=>∃ zc1 : Option Addr,∃ zc2 : Nat,∃ zc3 : Option Addr,∃ zc4 : Nat,e = .returned (.tuple #[]) ∧ (ZS Z 1 (fun r x=>r = e5 x) zc1 zc2 r.fMem) ∧ Hp (fps [stb z3Q 65 [(.int .i64 zh.fState.fPc),(.int .i64 zh.fState.fLeft),(.int .u8 zh.fState.fRegs.a0),(.int .u8 zh.fState.fRegs.a1),(.int .u8 zh.fState.fRegs.a2),(.int .u8 zh.fState.fRegs.a3),(.int .u8 zh.fX.fOp),(.int .i64 zh.fX.fA),(.int .i64 zh.fX.fB),(.int .i64 zh.fX.fC),(.slice z3R zh.fMem.length z3S),(.int .u8 zh.fAct.fKind),(.int .i64 zh.fAct.fA),(.int .i64 zh.fAct.fB),(.slice z5b zh.fAct.fData.length z5c)]]) w₀ w' [stb z3Q 65 [(.int .i64 r.fState.fPc),(.int .i64 r.fState.fLeft),(.int .u8 r.fState.fRegs.a0),(.int .u8 r.fState.fRegs.a1),(.int .u8 r.fState.fRegs.a2),(.int .u8 r.fState.fRegs.a3),(.int .u8 r.fX.fOp),(.int .i64 r.fX.fA),(.int .i64 r.fX.fB),(.int .i64 r.fX.fC),(.slice zc1 r.fMem.length zc2),(.int .u8 r.fAct.fKind),(.int .i64 r.fAct.fA),(.int .i64 r.fAct.fB),(.slice zc3 r.fAct.fData.length zc4)],row (.slice zc3 r.fAct.fData.length zc4) 5 1 (r.fAct.fData.flatMap e5)]:=by
 unfold y1L at h
 refine Calls.y9 (vs:=[(.pointer (some ⟨z3Q,0,none⟩))]) (pre:=[stb z3Q 65 [(.int .i64 zh.fState.fPc),(.int .i64 zh.fState.fLeft),(.int .u8 zh.fState.fRegs.a0),(.int .u8 zh.fState.fRegs.a1),(.int .u8 zh.fState.fRegs.a2),(.int .u8 zh.fState.fRegs.a3),(.int .u8 zh.fX.fOp),(.int .i64 zh.fX.fA),(.int .i64 zh.fX.fB),(.int .i64 zh.fX.fC),(.slice z3R zh.fMem.length z3S),(.int .u8 zh.fAct.fKind),(.int .i64 zh.fAct.fA),(.int .i64 zh.fAct.fB),(.slice z5b zh.fAct.fData.length z5c)]]) (env:=[(0,(.pointer (some ⟨z3Q,0,none⟩)))]) Tryd.func107 rfl Tryd.ntmps107 rfl (hown) rfl ?_
 refine WC.b (WC.a (WL.pu rfl ?_))
 refine WL.a (d:=3) rfl rfl rfl (y7 rfl) ?_
 refine WL.a (d:=4) rfl rfl rfl (y4 y1i rfl rfl) ?_
 refine WL.a (d:=5) rfl rfl rfl (y4 y1V rfl rfl) ?_
 refine WL.a (d:=6) rfl rfl rfl (y6 ye rfl (ya .here rfl)) ?_
 refine WL.pu rfl ?_
 refine WL.a (d:=8) rfl rfl rfl (y7 rfl) ?_
 refine WL.a (d:=9) rfl rfl rfl (y4 y1i rfl rfl) ?_
 refine WL.a (d:=10) rfl rfl rfl (y4 y1V rfl rfl) ?_
 refine WL.yk rfl rfl (y1n (ds:=[(.int .i64 (i64 (zh.fState.fPc - 1))),(.int .i64 zh.fState.fLeft),(.int .u8 zh.fState.fRegs.a0),(.int .u8 zh.fState.fRegs.a1),(.int .u8 zh.fState.fRegs.a2),(.int .u8 zh.fState.fRegs.a3),(.int .u8 zh.fX.fOp),(.int .i64 zh.fX.fA),(.int .i64 zh.fX.fB),(.int .i64 zh.fX.fC),(.slice z3R zh.fMem.length z3S),(.int .u8 zh.fAct.fKind),(.int .i64 zh.fAct.fA),(.int .i64 zh.fAct.fB),(.slice z5b zh.fAct.fData.length z5c)]) y33 rfl rfl rfl rfl rfl .here rfl rfl) ?_
 refine WL.nil (WX.a (WC.a (WL.pu rfl ?_)))
 refine WL.a (d:=12) rfl rfl rfl (y13 (v:=(.agg #[(.int .u8 16),(.int .i64 0),(.int .i64 0),(.slice none 0 0)])) (Eos.parts (l:=[.const (.int .u8 16)]) (.cons rfl .nil) [0]) (fun _=>by kernel_rfl)) ?_
 refine WL.a (d:=13) rfl rfl rfl (y7 rfl) ?_
 refine WL.a (d:=14) rfl rfl rfl (y4 y3h rfl rfl) ?_
 refine WL.yk rfl rfl (y1n (ds:=[(.int .i64 (i64 (zh.fState.fPc - 1))),(.int .i64 zh.fState.fLeft),(.int .u8 zh.fState.fRegs.a0),(.int .u8 zh.fState.fRegs.a1),(.int .u8 zh.fState.fRegs.a2),(.int .u8 zh.fState.fRegs.a3),(.int .u8 zh.fX.fOp),(.int .i64 zh.fX.fA),(.int .i64 zh.fX.fB),(.int .i64 zh.fX.fC),(.slice z3R zh.fMem.length z3S),(.int .u8 16),(.int .i64 0),(.int .i64 0),(.slice none 0 0)]) y1z rfl rfl rfl rfl rfl .here rfl rfl) ?_
 refine WL.nil ?_
 refine WX.nilRow 5 1 ?_
 obtain rfl:=Option.some.inj h
 refine WX.yf Tryd.results107 .nil (fun w hw=>?_)
 exact ⟨z3R,z3S,none,0,y15,zgi,hw.sub (.cons .h1 (.cons .here .nil))⟩
def y12 (z5d : List Sapi_Ins) (zf : Sproc_State) (zT : List Int) : Option (Sproc_State × Sproc_Act) :=
 (y2P z5d zf.fPc).bind fun zQ=>if !zQ.2 then some (zf,(⟨15,5,0,[]⟩ : Sproc_Act)) else jp15 (fun (z2W : Int) (z2X : Int) (z2Y : Int) (z2Z : Int) (z30 : Int) (z31 : Int) (z4I : Int) (z4J : Int) (z4K : Int) (z4L : Int) (z3T : List Int) (z32 : Int) (z33 : Int) (z34 : Int) (z2M : List Int)=>some ((⟨z2W,z2X,(⟨z2Y,z2Z,z30,z31⟩ : S34)⟩ : Sproc_State),(⟨z32,z33,z34,z2M⟩ : Sproc_Act))) fun z1r=>chk ((0 : Int) ≤ zQ.1.fOp ∧ zQ.1.fOp < 26) (sw [(1,(y1A (⟨(⟨i64 (zf.fPc + 1),zf.fLeft,zf.fRegs⟩ : Sproc_State),zQ.1,zT,(⟨0,0,0,[]⟩ : Sproc_Act)⟩ : Sproc_execution)).bind fun zX=>z1r zX.fState.fPc zX.fState.fLeft zX.fState.fRegs.a0 zX.fState.fRegs.a1 zX.fState.fRegs.a2 zX.fState.fRegs.a3 zX.fX.fOp zX.fX.fA zX.fX.fB zX.fX.fC zX.fMem zX.fAct.fKind zX.fAct.fA zX.fAct.fB zX.fAct.fData),(2,(y1P (⟨(⟨i64 (zf.fPc + 1),zf.fLeft,zf.fRegs⟩ : Sproc_State),zQ.1,zT,(⟨0,0,0,[]⟩ : Sproc_Act)⟩ : Sproc_execution)).bind fun zY=>z1r zY.fState.fPc zY.fState.fLeft zY.fState.fRegs.a0 zY.fState.fRegs.a1 zY.fState.fRegs.a2 zY.fState.fRegs.a3 zY.fX.fOp zY.fX.fA zY.fX.fB zY.fX.fC zY.fMem zY.fAct.fKind zY.fAct.fA zY.fAct.fB zY.fAct.fData),(3,(y1Q (⟨(⟨i64 (zf.fPc + 1),zf.fLeft,zf.fRegs⟩ : Sproc_State),zQ.1,zT,(⟨0,0,0,[]⟩ : Sproc_Act)⟩ : Sproc_execution)).bind fun zZ=>z1r zZ.fState.fPc zZ.fState.fLeft zZ.fState.fRegs.a0 zZ.fState.fRegs.a1 zZ.fState.fRegs.a2 zZ.fState.fRegs.a3 zZ.fX.fOp zZ.fX.fA zZ.fX.fB zZ.fX.fC zZ.fMem zZ.fAct.fKind zZ.fAct.fA zZ.fAct.fB zZ.fAct.fData),(4,(y1R (⟨(⟨i64 (zf.fPc + 1),zf.fLeft,zf.fRegs⟩ : Sproc_State),zQ.1,zT,(⟨0,0,0,[]⟩ : Sproc_Act)⟩ : Sproc_execution)).bind fun z10=>z1r z10.fState.fPc z10.fState.fLeft z10.fState.fRegs.a0 z10.fState.fRegs.a1 z10.fState.fRegs.a2 z10.fState.fRegs.a3 z10.fX.fOp z10.fX.fA z10.fX.fB z10.fX.fC z10.fMem z10.fAct.fKind z10.fAct.fA z10.fAct.fB z10.fAct.fData),(5,(y1B (⟨(⟨i64 (zf.fPc + 1),zf.fLeft,zf.fRegs⟩ : Sproc_State),zQ.1,zT,(⟨0,0,0,[]⟩ : Sproc_Act)⟩ : Sproc_execution)).bind fun z11=>z1r z11.fState.fPc z11.fState.fLeft z11.fState.fRegs.a0 z11.fState.fRegs.a1 z11.fState.fRegs.a2 z11.fState.fRegs.a3 z11.fX.fOp z11.fX.fA z11.fX.fB z11.fX.fC z11.fMem z11.fAct.fKind z11.fAct.fA z11.fAct.fB z11.fAct.fData),(6,(y1r (⟨(⟨i64 (zf.fPc + 1),zf.fLeft,zf.fRegs⟩ : Sproc_State),zQ.1,zT,(⟨0,0,0,[]⟩ : Sproc_Act)⟩ : Sproc_execution)).bind fun z12=>z1r z12.fState.fPc z12.fState.fLeft z12.fState.fRegs.a0 z12.fState.fRegs.a1 z12.fState.fRegs.a2 z12.fState.fRegs.a3 z12.fX.fOp z12.fX.fA z12.fX.fB z12.fX.fC z12.fMem z12.fAct.fKind z12.fAct.fA z12.fAct.fB z12.fAct.fData),(7,(y1C (⟨(⟨i64 (zf.fPc + 1),zf.fLeft,zf.fRegs⟩ : Sproc_State),zQ.1,zT,(⟨0,0,0,[]⟩ : Sproc_Act)⟩ : Sproc_execution)).bind fun z13=>z1r z13.fState.fPc z13.fState.fLeft z13.fState.fRegs.a0 z13.fState.fRegs.a1 z13.fState.fRegs.a2 z13.fState.fRegs.a3 z13.fX.fOp z13.fX.fA z13.fX.fB z13.fX.fC z13.fMem z13.fAct.fKind z13.fAct.fA z13.fAct.fB z13.fAct.fData),(8,(y1D (⟨(⟨i64 (zf.fPc + 1),zf.fLeft,zf.fRegs⟩ : Sproc_State),zQ.1,zT,(⟨0,0,0,[]⟩ : Sproc_Act)⟩ : Sproc_execution)).bind fun z14=>z1r z14.fState.fPc z14.fState.fLeft z14.fState.fRegs.a0 z14.fState.fRegs.a1 z14.fState.fRegs.a2 z14.fState.fRegs.a3 z14.fX.fOp z14.fX.fA z14.fX.fB z14.fX.fC z14.fMem z14.fAct.fKind z14.fAct.fA z14.fAct.fB z14.fAct.fData),(9,(y1E (⟨(⟨i64 (zf.fPc + 1),zf.fLeft,zf.fRegs⟩ : Sproc_State),zQ.1,zT,(⟨0,0,0,[]⟩ : Sproc_Act)⟩ : Sproc_execution)).bind fun z15=>z1r z15.fState.fPc z15.fState.fLeft z15.fState.fRegs.a0 z15.fState.fRegs.a1 z15.fState.fRegs.a2 z15.fState.fRegs.a3 z15.fX.fOp z15.fX.fA z15.fX.fB z15.fX.fC z15.fMem z15.fAct.fKind z15.fAct.fA z15.fAct.fB z15.fAct.fData),(10,(y1j (⟨(⟨i64 (zf.fPc + 1),zf.fLeft,zf.fRegs⟩ : Sproc_State),zQ.1,zT,(⟨0,0,0,[]⟩ : Sproc_Act)⟩ : Sproc_execution)).bind fun z16=>z1r z16.fState.fPc z16.fState.fLeft z16.fState.fRegs.a0 z16.fState.fRegs.a1 z16.fState.fRegs.a2 z16.fState.fRegs.a3 z16.fX.fOp z16.fX.fA z16.fX.fB z16.fX.fC z16.fMem z16.fAct.fKind z16.fAct.fA z16.fAct.fB z16.fAct.fData),(11,(y1s (⟨(⟨i64 (zf.fPc + 1),zf.fLeft,zf.fRegs⟩ : Sproc_State),zQ.1,zT,(⟨0,0,0,[]⟩ : Sproc_Act)⟩ : Sproc_execution)).bind fun z17=>z1r z17.fState.fPc z17.fState.fLeft z17.fState.fRegs.a0 z17.fState.fRegs.a1 z17.fState.fRegs.a2 z17.fState.fRegs.a3 z17.fX.fOp z17.fX.fA z17.fX.fB z17.fX.fC z17.fMem z17.fAct.fKind z17.fAct.fA z17.fAct.fB z17.fAct.fData),(12,(y1t (⟨(⟨i64 (zf.fPc + 1),zf.fLeft,zf.fRegs⟩ : Sproc_State),zQ.1,zT,(⟨0,0,0,[]⟩ : Sproc_Act)⟩ : Sproc_execution)).bind fun z18=>z1r z18.fState.fPc z18.fState.fLeft z18.fState.fRegs.a0 z18.fState.fRegs.a1 z18.fState.fRegs.a2 z18.fState.fRegs.a3 z18.fX.fOp z18.fX.fA z18.fX.fB z18.fX.fC z18.fMem z18.fAct.fKind z18.fAct.fA z18.fAct.fB z18.fAct.fData),(13,(y1u (⟨(⟨i64 (zf.fPc + 1),zf.fLeft,zf.fRegs⟩ : Sproc_State),zQ.1,zT,(⟨0,0,0,[]⟩ : Sproc_Act)⟩ : Sproc_execution)).bind fun z19=>z1r z19.fState.fPc z19.fState.fLeft z19.fState.fRegs.a0 z19.fState.fRegs.a1 z19.fState.fRegs.a2 z19.fState.fRegs.a3 z19.fX.fOp z19.fX.fA z19.fX.fB z19.fX.fC z19.fMem z19.fAct.fKind z19.fAct.fA z19.fAct.fB z19.fAct.fData),(14,(y1S (⟨(⟨i64 (zf.fPc + 1),zf.fLeft,zf.fRegs⟩ : Sproc_State),zQ.1,zT,(⟨0,0,0,[]⟩ : Sproc_Act)⟩ : Sproc_execution)).bind fun z1a=>z1r z1a.fState.fPc z1a.fState.fLeft z1a.fState.fRegs.a0 z1a.fState.fRegs.a1 z1a.fState.fRegs.a2 z1a.fState.fRegs.a3 z1a.fX.fOp z1a.fX.fA z1a.fX.fB z1a.fX.fC z1a.fMem z1a.fAct.fKind z1a.fAct.fA z1a.fAct.fB z1a.fAct.fData),(15,(y1T (⟨(⟨i64 (zf.fPc + 1),zf.fLeft,zf.fRegs⟩ : Sproc_State),zQ.1,zT,(⟨0,0,0,[]⟩ : Sproc_Act)⟩ : Sproc_execution)).bind fun z1b=>z1r z1b.fState.fPc z1b.fState.fLeft z1b.fState.fRegs.a0 z1b.fState.fRegs.a1 z1b.fState.fRegs.a2 z1b.fState.fRegs.a3 z1b.fX.fOp z1b.fX.fA z1b.fX.fB z1b.fX.fC z1b.fMem z1b.fAct.fKind z1b.fAct.fA z1b.fAct.fB z1b.fAct.fData),(16,(y1F (⟨(⟨i64 (zf.fPc + 1),zf.fLeft,zf.fRegs⟩ : Sproc_State),zQ.1,zT,(⟨0,0,0,[]⟩ : Sproc_Act)⟩ : Sproc_execution)).bind fun z1c=>z1r z1c.fState.fPc z1c.fState.fLeft z1c.fState.fRegs.a0 z1c.fState.fRegs.a1 z1c.fState.fRegs.a2 z1c.fState.fRegs.a3 z1c.fX.fOp z1c.fX.fA z1c.fX.fB z1c.fX.fC z1c.fMem z1c.fAct.fKind z1c.fAct.fA z1c.fAct.fB z1c.fAct.fData),(17,(y1G (⟨(⟨i64 (zf.fPc + 1),zf.fLeft,zf.fRegs⟩ : Sproc_State),zQ.1,zT,(⟨0,0,0,[]⟩ : Sproc_Act)⟩ : Sproc_execution)).bind fun z1d=>z1r z1d.fState.fPc z1d.fState.fLeft z1d.fState.fRegs.a0 z1d.fState.fRegs.a1 z1d.fState.fRegs.a2 z1d.fState.fRegs.a3 z1d.fX.fOp z1d.fX.fA z1d.fX.fB z1d.fX.fC z1d.fMem z1d.fAct.fKind z1d.fAct.fA z1d.fAct.fB z1d.fAct.fData),(18,(y1v (⟨(⟨i64 (zf.fPc + 1),zf.fLeft,zf.fRegs⟩ : Sproc_State),zQ.1,zT,(⟨0,0,0,[]⟩ : Sproc_Act)⟩ : Sproc_execution)).bind fun z1e=>z1r z1e.fState.fPc z1e.fState.fLeft z1e.fState.fRegs.a0 z1e.fState.fRegs.a1 z1e.fState.fRegs.a2 z1e.fState.fRegs.a3 z1e.fX.fOp z1e.fX.fA z1e.fX.fB z1e.fX.fC z1e.fMem z1e.fAct.fKind z1e.fAct.fA z1e.fAct.fB z1e.fAct.fData),(19,(y1H (⟨(⟨i64 (zf.fPc + 1),zf.fLeft,zf.fRegs⟩ : Sproc_State),zQ.1,zT,(⟨0,0,0,[]⟩ : Sproc_Act)⟩ : Sproc_execution)).bind fun zU=>z1r zU.fState.fPc zU.fState.fLeft zU.fState.fRegs.a0 zU.fState.fRegs.a1 zU.fState.fRegs.a2 zU.fState.fRegs.a3 zU.fX.fOp zU.fX.fA zU.fX.fB zU.fX.fC zU.fMem zU.fAct.fKind zU.fAct.fA zU.fAct.fB zU.fAct.fData),(20,(y1I (⟨(⟨i64 (zf.fPc + 1),zf.fLeft,zf.fRegs⟩ : Sproc_State),zQ.1,zT,(⟨0,0,0,[]⟩ : Sproc_Act)⟩ : Sproc_execution)).bind fun z1f=>z1r z1f.fState.fPc z1f.fState.fLeft z1f.fState.fRegs.a0 z1f.fState.fRegs.a1 z1f.fState.fRegs.a2 z1f.fState.fRegs.a3 z1f.fX.fOp z1f.fX.fA z1f.fX.fB z1f.fX.fC z1f.fMem z1f.fAct.fKind z1f.fAct.fA z1f.fAct.fB z1f.fAct.fData),(21,(y1J (⟨(⟨i64 (zf.fPc + 1),zf.fLeft,zf.fRegs⟩ : Sproc_State),zQ.1,zT,(⟨0,0,0,[]⟩ : Sproc_Act)⟩ : Sproc_execution)).bind fun z1g=>z1r z1g.fState.fPc z1g.fState.fLeft z1g.fState.fRegs.a0 z1g.fState.fRegs.a1 z1g.fState.fRegs.a2 z1g.fState.fRegs.a3 z1g.fX.fOp z1g.fX.fA z1g.fX.fB z1g.fX.fC z1g.fMem z1g.fAct.fKind z1g.fAct.fA z1g.fAct.fB z1g.fAct.fData),(22,(y1K (⟨(⟨i64 (zf.fPc + 1),zf.fLeft,zf.fRegs⟩ : Sproc_State),zQ.1,zT,(⟨0,0,0,[]⟩ : Sproc_Act)⟩ : Sproc_execution)).bind fun z1h=>z1r z1h.fState.fPc z1h.fState.fLeft z1h.fState.fRegs.a0 z1h.fState.fRegs.a1 z1h.fState.fRegs.a2 z1h.fState.fRegs.a3 z1h.fX.fOp z1h.fX.fA z1h.fX.fB z1h.fX.fC z1h.fMem z1h.fAct.fKind z1h.fAct.fA z1h.fAct.fB z1h.fAct.fData),(23,(y1U (⟨(⟨i64 (zf.fPc + 1),zf.fLeft,zf.fRegs⟩ : Sproc_State),zQ.1,zT,(⟨0,0,0,[]⟩ : Sproc_Act)⟩ : Sproc_execution)).bind fun z1i=>z1r z1i.fState.fPc z1i.fState.fLeft z1i.fState.fRegs.a0 z1i.fState.fRegs.a1 z1i.fState.fRegs.a2 z1i.fState.fRegs.a3 z1i.fX.fOp z1i.fX.fA z1i.fX.fB z1i.fX.fC z1i.fMem z1i.fAct.fKind z1i.fAct.fA z1i.fAct.fB z1i.fAct.fData),(24,(y1w (⟨(⟨i64 (zf.fPc + 1),zf.fLeft,zf.fRegs⟩ : Sproc_State),zQ.1,zT,(⟨0,0,0,[]⟩ : Sproc_Act)⟩ : Sproc_execution)).bind fun zV=>z1r zV.fState.fPc zV.fState.fLeft zV.fState.fRegs.a0 zV.fState.fRegs.a1 zV.fState.fRegs.a2 zV.fState.fRegs.a3 zV.fX.fOp zV.fX.fA zV.fX.fB zV.fX.fC zV.fMem zV.fAct.fKind zV.fAct.fA zV.fAct.fB zV.fAct.fData),(25,(y1L (⟨(⟨i64 (zf.fPc + 1),zf.fLeft,zf.fRegs⟩ : Sproc_State),zQ.1,zT,(⟨0,0,0,[]⟩ : Sproc_Act)⟩ : Sproc_execution)).bind fun zW=>z1r zW.fState.fPc zW.fState.fLeft zW.fState.fRegs.a0 zW.fState.fRegs.a1 zW.fState.fRegs.a2 zW.fState.fRegs.a3 zW.fX.fOp zW.fX.fA zW.fX.fB zW.fX.fC zW.fMem zW.fAct.fKind zW.fAct.fA zW.fAct.fB zW.fAct.fData)] zQ.1.fOp)
set_option maxRecDepth 20000 in
theorem y1d (Z : Zp) (z7v : Option Addr) (z7w : Nat) (z5e : Option Addr) (z5f : Nat) (z5d : List Sapi_Ins) (zf : Sproc_State) (zT : List Int) (r : Sproc_State × Sproc_Act)
  (h : y12 z5d zf zT = some r) (w₀ : World) (hz : PZ [] w₀ Z)
  (hG0 : ZC Z ⟨0,0,none⟩ tabG0)
  (hG1 : ZS Z 1 (p74 Z) (some ⟨1,0,none⟩) 26 yX)
  (zgj : ZS Z 4 (fun r x=>r = e33 x) z7v z7w z5d)
  (z1t : ZS Z 1 (fun r x=>r = e5 x) z5e z5f zT) :
  Calls Tryd.prog 18 #[(.slice z7v z5d.length z7w),(.agg #[(.int .i64 zf.fPc),(.int .i64 zf.fLeft),(.int .u8 zf.fRegs.a0),(.int .u8 zf.fRegs.a1),(.int .u8 zf.fRegs.a2),(.int .u8 zf.fRegs.a3)]),(.slice z5e zT.length z5f)] w₀ fun e w'=>∃ Zn : Zp,∃ zc5 : Option Addr,∃ zc6 : Nat,e = .returned (.tuple #[(.agg #[(.int .i64 r.1.fPc),(.int .i64 r.1.fLeft),(.int .u8 r.1.fRegs.a0),(.int .u8 r.1.fRegs.a1),(.int .u8 r.1.fRegs.a2),(.int .u8 r.1.fRegs.a3)]),(.agg #[(.int .u8 r.2.fKind),(.int .i64 r.2.fA),(.int .i64 r.2.fB),(.slice zc5 r.2.fData.length zc6)])]) ∧ (ZS (Z ++ Zn) 1 (fun r x=>r = e5 x) zc5 zc6 r.2.fData) ∧ Hp [] w₀ w' [fz Zn]:=by
 unfold y12 at h
 refine Calls.y9 (vs:=[(.slice z7v z5d.length z7w),(.agg #[(.int .i64 zf.fPc),(.int .i64 zf.fLeft),(.int .u8 zf.fRegs.a0),(.int .u8 zf.fRegs.a1),(.int .u8 zf.fRegs.a2),(.int .u8 zf.fRegs.a3)]),(.slice z5e zT.length z5f)]) (pre:=[]) (env:=[(0,(.slice z7v z5d.length z7w)),(1,(.agg #[(.int .i64 zf.fPc),(.int .i64 zf.fLeft),(.int .u8 zf.fRegs.a0),(.int .u8 zf.fRegs.a1),(.int .u8 zf.fRegs.a2),(.int .u8 zf.fRegs.a3)])),(2,(.slice z5e zT.length z5f))]) Tryd.func18 rfl Tryd.ntmps18 rfl (Hp.nil w₀ _) rfl ?_
 refine WC.pool (WC.b (WC.a ?_))
 refine WL.new (dd:=4) rfl rfl rfl (y3b (cs:=[(.int .i64 zf.fPc),(.int .i64 zf.fLeft),(.int .u8 zf.fRegs.a0),(.int .u8 zf.fRegs.a1),(.int .u8 zf.fRegs.a2),(.int .u8 zf.fRegs.a3)]) rfl rfl) ?_
 intro zmz _
 refine WL.new (dd:=6) rfl rfl rfl (yv (cs:=[(.int .i64 0),(.int .i64 0),(.int .u8 0),(.int .u8 0),(.int .u8 0),(.int .u8 0)]) y1o rfl) ?_
 intro zc7 _
 refine WL.new (dd:=7) rfl rfl rfl (yv (cs:=[(.int .u8 0),(.int .i64 0),(.int .i64 0),(.slice none 0 0)]) y1X rfl) ?_
 intro zc8 _
 refine WL.nil (WX.a (WC.b ?_))
 obtain ⟨zQ,zgk,h⟩:=zi h
 refine WC.a (WL.pu rfl ?_)
 refine WL.a (d:=13) rfl rfl rfl (y4 y1V rfl rfl) ?_
 refine WL.a (d:=14) rfl rfl rfl (y6 ye rfl (ya .h2 rfl)) ?_
 refine WL.b (dd:=15) rfl rfl rfl (zK (l:=[.tmp 12,.tmp 14]) Tryd.call33 (.cons rfl (.cons rfl .nil))) .nil (ccz hz .nil .h3 fun w pz ho=>y5s _ _ _ _ _ _ zgk w pz ((hG1.mono (Zle.left _ _)).weak (fun _ _ h=>yQ (Zle.left _ _) h)) (zgj.mono (Zle.left _ _))) ?_
 refine WL.pu rfl (WL.pu rfl (WL.pu rfl ?_))
 refine WL.new (dd:=8) rfl rfl rfl (yv (cs:=[(.int .u8 0),(.int .i64 0),(.int .i64 0),(.int .i64 0)]) y4a rfl) ?_
 intro zmA _
 refine WL.yk rfl rfl (ys y3K rfl rfl rfl .here rfl rfl rfl) ?_
 refine WL.pu rfl (WL.nil (WX.a (WC.b (WC.b (WC.a (WL.pu rfl (WL.pu rfl (WL.nil (WX.a ?_)))))))))
 refine WC.cond rfl (fun z8B=>?_) (fun z8B=>?_)
 ·replace h:=ym h z8B
  refine WC.b (WC.a ?_)
  refine WL.a (d:=20) rfl rfl rfl (yJ y1p rfl (yH .h3) rfl) ?_
  refine WL.a (d:=21) rfl rfl rfl (y13 (v:=(.agg #[(.int .u8 15),(.int .i64 5),(.int .i64 0),(.slice none 0 0)])) (Eos.parts (l:=[.const (.int .u8 15),.const (.int .i64 5)]) (.cons rfl (.cons rfl .nil)) [0,1]) (fun _=>by kernel_rfl)) ?_
  refine WL.yk rfl rfl (ys y21 rfl rfl rfl .h2 rfl rfl rfl) ?_
  refine WL.yk rfl rfl (ys y1z rfl rfl rfl .h2 rfl rfl rfl) ?_
  refine WL.nil (WX.a (WC.ret (WX.yd ?_)))
  obtain rfl:=Option.some.inj h
  refine WX.yg Tryd.results18 (.agg rfl y1p rfl (yH .h1) (.agg rfl y2x rfl (yH .here) .nil)) (fun w hw=>?_)
  exact ⟨[],none,0,ret2 rfl rfl,(ZS.nil _ _ _),hw.sub (.cons .h4 .nil)⟩
 ·replace h:=yn h z8B
  refine WC.skip (WX.a (WC.b (WC.a ?_)))
  refine WL.a (d:=22) rfl rfl rfl (yJ y1p rfl (yH .h3) rfl) ?_
  refine WL.a (d:=23) rfl rfl rfl (yJ y2M rfl (yH .here) rfl) ?_
  refine WL.pu rfl ?_
  refine WL.a (d:=25) rfl rfl rfl (y13 (v:=(.agg #[(.int .i64 zf.fPc),(.int .i64 zf.fLeft),(.int .u8 zf.fRegs.a0),(.int .u8 zf.fRegs.a1),(.int .u8 zf.fRegs.a2),(.int .u8 zf.fRegs.a3),(.int .u8 zQ.1.fOp),(.int .i64 zQ.1.fA),(.int .i64 zQ.1.fB),(.int .i64 zQ.1.fC),(.slice z5e zT.length z5f),(.int .u8 0),(.int .i64 0),(.int .i64 0),(.slice none 0 0)])) (Eos.parts (l:=[.tmp 22,.tmp 23,.tmp 24]) (.cons rfl (.cons rfl (.cons rfl .nil))) [0,1,2]) (fun _=>by kernel_rfl)) ?_
  refine WL.new (dd:=26) rfl rfl rfl (y3b (cs:=[(.int .i64 zf.fPc),(.int .i64 zf.fLeft),(.int .u8 zf.fRegs.a0),(.int .u8 zf.fRegs.a1),(.int .u8 zf.fRegs.a2),(.int .u8 zf.fRegs.a3),(.int .u8 zQ.1.fOp),(.int .i64 zQ.1.fA),(.int .i64 zQ.1.fB),(.int .i64 zQ.1.fC),(.slice z5e zT.length z5f),(.int .u8 0),(.int .i64 0),(.int .i64 0),(.slice none 0 0)]) rfl rfl) ?_
  intro z8C _
  refine WL.pu rfl (WL.nil (WX.a (WC.b (WC.a (WL.pu rfl ?_)))))
  refine WL.a (d:=28) rfl rfl rfl (y7 rfl) ?_
  refine WL.a (d:=29) rfl rfl rfl (y4 y1i rfl rfl) ?_
  refine WL.a (d:=30) rfl rfl rfl (y4 y1V rfl rfl) ?_
  refine WL.a (d:=31) rfl rfl rfl (y6 ye rfl (ya .here rfl)) ?_
  refine WL.pu rfl ?_
  refine WL.a (d:=33) rfl rfl rfl (y7 rfl) ?_
  refine WL.a (d:=34) rfl rfl rfl (y4 y1i rfl rfl) ?_
  refine WL.a (d:=35) rfl rfl rfl (y4 y1V rfl rfl) ?_
  refine WL.yk rfl rfl (y1n (ds:=[(.int .i64 (i64 (zf.fPc + 1))),(.int .i64 zf.fLeft),(.int .u8 zf.fRegs.a0),(.int .u8 zf.fRegs.a1),(.int .u8 zf.fRegs.a2),(.int .u8 zf.fRegs.a3),(.int .u8 zQ.1.fOp),(.int .i64 zQ.1.fA),(.int .i64 zQ.1.fB),(.int .i64 zQ.1.fC),(.slice z5e zT.length z5f),(.int .u8 0),(.int .i64 0),(.int .i64 0),(.slice none 0 0)]) y33 rfl rfl rfl rfl rfl .here rfl rfl) ?_
  refine WL.nil (WX.a ?_)
  obtain ⟨z1r,zgl,h⟩:=y6v h
  refine WC.y5W (fun (z2W : Int) (z2X : Int) (z2Y : Int) (z2Z : Int) (z30 : Int) (z31 : Int) (z4I : Int) (z4J : Int) (z4K : Int) (z4L : Int) (z3T : List Int) (z32 : Int) (z33 : Int) (z34 : Int) (z2M : List Int) (z4M : Zp) (z6v : Option Addr) (z6w : Nat) (z4N : Option Addr) (z4O : Nat)=>(z1r z2W z2X z2Y z2Z z30 z31 z4I z4J z4K z4L z3T z32 z33 z34 z2M = some r) ∧ (Zle (Z ++ []) (Z ++ z4M)) ∧ (ZS (Z ++ z4M) 1 (fun r x=>r = e5 x) z6v z6w z3T) ∧ (ZS (Z ++ z4M) 1 (fun r x=>r = e5 x) z4N z4O z2M)) (fun (z2W : Int) (z2X : Int) (z2Y : Int) (z2Z : Int) (z30 : Int) (z31 : Int) (z4I : Int) (z4J : Int) (z4K : Int) (z4L : Int) (z3T : List Int) (z32 : Int) (z33 : Int) (z34 : Int) (z2M : List Int) (z4M : Zp) (z6v : Option Addr) (z6w : Nat) (z4N : Option Addr) (z4O : Nat)=>[(6,(.pointer (some ⟨zc7,0,none⟩))),(7,(.pointer (some ⟨zc8,0,none⟩))),(10,(.pointer (some ⟨z8C,0,none⟩)))]) (fun (z2W : Int) (z2X : Int) (z2Y : Int) (z2Z : Int) (z30 : Int) (z31 : Int) (z4I : Int) (z4J : Int) (z4K : Int) (z4L : Int) (z3T : List Int) (z32 : Int) (z33 : Int) (z34 : Int) (z2M : List Int) (z4M : Zp) (z6v : Option Addr) (z6w : Nat) (z4N : Option Addr) (z4O : Nat)=>[fz z4M,stb zc7 39 [(.int .i64 0),(.int .i64 0),(.int .u8 0),(.int .u8 0),(.int .u8 0),(.int .u8 0)],stb zc8 41 [(.int .u8 0),(.int .i64 0),(.int .i64 0),(.slice none 0 0)],stb z8C 65 [(.int .i64 z2W),(.int .i64 z2X),(.int .u8 z2Y),(.int .u8 z2Z),(.int .u8 z30),(.int .u8 z31),(.int .u8 z4I),(.int .i64 z4J),(.int .i64 z4K),(.int .i64 z4L),(.slice z6v z3T.length z6w),(.int .u8 z32),(.int .i64 z33),(.int .i64 z34),(.slice z4N z2M.length z4O)]]) ?_ ?_
  ·skip
   obtain ⟨zgm,h⟩:=yb h
   refine WC.a ?_
   refine WL.a (d:=36) rfl rfl rfl (y4 y36 rfl rfl) ?_
   refine WL.a (d:=37) rfl rfl rfl (y6 yx rfl (ya .h1 rfl)) ?_
   refine WL.a (d:=38) rfl rfl rfl (y2L arT_67 rfl rfl zgm rfl) ?_
   rcases yD h with ⟨zgn,h⟩ | h
   ·skip
    obtain ⟨zX,zgo,h⟩:=zi h
    refine WL.a (d:=39) rfl rfl rfl (y6 yF rfl (yT (k:=1) (hz.pv2 .h5) (hG0.mono (Zle.left _ _)) zgn rfl)) ?_
    refine WL.pu rfl ?_
    refine WL.yl (dd:=41) rfl rfl rfl (yq (l:=[.tmp 40]) Tryd.call84 rfl (.cons rfl .nil)) (.cons .here .nil) (ccz hz (.cons .here .nil) .h4 fun w pz ho=>y3O _ _ _ _ _ _ _ _ zgo w pz (z1t.mono (Zle.left _ _)) (ZS.nil _ _ _) ho) ?_
    rintro zgp zgq zgr zgs ⟨zgt,zgu⟩
    refine WL.nil ?_
    exact WX.mid (G:=Int × Int × Int × Int × Int × Int × Int × Int × Int × Int × List Int × Int × Int × Int × List Int × Zp × Option Addr × Nat × Option Addr × Nat) ⟨zX.fState.fPc,zX.fState.fLeft,zX.fState.fRegs.a0,zX.fState.fRegs.a1,zX.fState.fRegs.a2,zX.fState.fRegs.a3,zX.fX.fOp,zX.fX.fA,zX.fX.fB,zX.fX.fC,zX.fMem,zX.fAct.fKind,zX.fAct.fA,zX.fAct.fB,zX.fAct.fData,[],zgp,zgq,zgr,zgs⟩ ⟨h,(Zle.refl _),zgt,zgu⟩ (.cons rfl (.cons rfl (.cons rfl .nil))) (.cons .h5 (.cons .h3 (.cons .h2 (.cons .here .nil))))
   rcases yD h with ⟨zgv,h⟩ | h
   ·skip
    obtain ⟨zY,zgw,h⟩:=zi h
    refine WL.a (d:=39) rfl rfl rfl (y6 yF rfl (yT (k:=2) (hz.pv2 .h5) (hG0.mono (Zle.left _ _)) zgv rfl)) ?_
    refine WL.pu rfl ?_
    refine WL.yl (dd:=41) rfl rfl rfl (yq (l:=[.tmp 40]) Tryd.call85 rfl (.cons rfl .nil)) (.cons .here .nil) (ccz hz (.cons .here .nil) .h4 fun w pz ho=>y4c _ _ _ _ _ _ _ _ zgw w pz (z1t.mono (Zle.left _ _)) (ZS.nil _ _ _) ho) ?_
    rintro zgx zgy zgz zgA ⟨zgB,zgC⟩
    refine WL.nil ?_
    exact WX.mid (G:=Int × Int × Int × Int × Int × Int × Int × Int × Int × Int × List Int × Int × Int × Int × List Int × Zp × Option Addr × Nat × Option Addr × Nat) ⟨zY.fState.fPc,zY.fState.fLeft,zY.fState.fRegs.a0,zY.fState.fRegs.a1,zY.fState.fRegs.a2,zY.fState.fRegs.a3,zY.fX.fOp,zY.fX.fA,zY.fX.fB,zY.fX.fC,zY.fMem,zY.fAct.fKind,zY.fAct.fA,zY.fAct.fB,zY.fAct.fData,[],zgx,zgy,zgz,zgA⟩ ⟨h,(Zle.refl _),zgB,zgC⟩ (.cons rfl (.cons rfl (.cons rfl .nil))) (.cons .h5 (.cons .h3 (.cons .h2 (.cons .here .nil))))
   rcases yD h with ⟨zgD,h⟩ | h
   ·skip
    obtain ⟨zZ,zgE,h⟩:=zi h
    refine WL.a (d:=39) rfl rfl rfl (y6 yF rfl (yT (k:=3) (hz.pv2 .h5) (hG0.mono (Zle.left _ _)) zgD rfl)) ?_
    refine WL.pu rfl ?_
    refine WL.yl (dd:=41) rfl rfl rfl (yq (l:=[.tmp 40]) Tryd.call82 rfl (.cons rfl .nil)) (.cons .here .nil) (ccz hz (.cons .here .nil) .h4 fun w pz ho=>y4d _ _ _ _ _ _ _ _ zgE w pz (z1t.mono (Zle.left _ _)) (ZS.nil _ _ _) ho) ?_
    rintro zgF zgG zgH zgI ⟨zgJ,zgK⟩
    refine WL.nil ?_
    exact WX.mid (G:=Int × Int × Int × Int × Int × Int × Int × Int × Int × Int × List Int × Int × Int × Int × List Int × Zp × Option Addr × Nat × Option Addr × Nat) ⟨zZ.fState.fPc,zZ.fState.fLeft,zZ.fState.fRegs.a0,zZ.fState.fRegs.a1,zZ.fState.fRegs.a2,zZ.fState.fRegs.a3,zZ.fX.fOp,zZ.fX.fA,zZ.fX.fB,zZ.fX.fC,zZ.fMem,zZ.fAct.fKind,zZ.fAct.fA,zZ.fAct.fB,zZ.fAct.fData,[],zgF,zgG,zgH,zgI⟩ ⟨h,(Zle.refl _),zgJ,zgK⟩ (.cons rfl (.cons rfl (.cons rfl .nil))) (.cons .h5 (.cons .h3 (.cons .h2 (.cons .here .nil))))
   rcases yD h with ⟨zgL,h⟩ | h
   ·skip
    obtain ⟨z10,zgM,h⟩:=zi h
    refine WL.a (d:=39) rfl rfl rfl (y6 yF rfl (yT (k:=4) (hz.pv2 .h5) (hG0.mono (Zle.left _ _)) zgL rfl)) ?_
    refine WL.pu rfl ?_
    refine WL.yl (dd:=41) rfl rfl rfl (yq (l:=[.tmp 40]) Tryd.call86 rfl (.cons rfl .nil)) (.cons .here .nil) (ccz hz (.cons .here .nil) .h4 fun w pz ho=>y4e _ _ _ _ _ _ _ _ zgM w pz (z1t.mono (Zle.left _ _)) (ZS.nil _ _ _) ho) ?_
    rintro zgN zgO zgP zgQ ⟨zgR,zgS⟩
    refine WL.nil ?_
    exact WX.mid (G:=Int × Int × Int × Int × Int × Int × Int × Int × Int × Int × List Int × Int × Int × Int × List Int × Zp × Option Addr × Nat × Option Addr × Nat) ⟨z10.fState.fPc,z10.fState.fLeft,z10.fState.fRegs.a0,z10.fState.fRegs.a1,z10.fState.fRegs.a2,z10.fState.fRegs.a3,z10.fX.fOp,z10.fX.fA,z10.fX.fB,z10.fX.fC,z10.fMem,z10.fAct.fKind,z10.fAct.fA,z10.fAct.fB,z10.fAct.fData,[],zgN,zgO,zgP,zgQ⟩ ⟨h,(Zle.refl _),zgR,zgS⟩ (.cons rfl (.cons rfl (.cons rfl .nil))) (.cons .h5 (.cons .h3 (.cons .h2 (.cons .here .nil))))
   rcases yD h with ⟨zgT,h⟩ | h
   ·skip
    obtain ⟨z11,zgU,h⟩:=zi h
    refine WL.a (d:=39) rfl rfl rfl (y6 yF rfl (yT (k:=5) (hz.pv2 .h5) (hG0.mono (Zle.left _ _)) zgT rfl)) ?_
    refine WL.pu rfl ?_
    refine WL.y2c (dd:=41) rfl rfl rfl (yq (l:=[.tmp 40]) Tryd.call87 rfl (.cons rfl .nil)) (.cons .here .nil) (ccz hz (.cons .here .nil) .h4 fun w pz ho=>y3P _ _ _ _ _ _ _ _ zgU w pz (z1t.mono (Zle.left _ _)) (ZS.nil _ _ _) ho) ?_
    rintro zgV zgW zgX zgY zgZ ⟨zh0,zh1⟩
    refine WL.merge .here .h5 ?_
    refine WL.nil ?_
    exact WX.mid (G:=Int × Int × Int × Int × Int × Int × Int × Int × Int × Int × List Int × Int × Int × Int × List Int × Zp × Option Addr × Nat × Option Addr × Nat) ⟨z11.fState.fPc,z11.fState.fLeft,z11.fState.fRegs.a0,z11.fState.fRegs.a1,z11.fState.fRegs.a2,z11.fState.fRegs.a3,z11.fX.fOp,z11.fX.fA,z11.fX.fB,z11.fX.fC,z11.fMem,z11.fAct.fKind,z11.fAct.fA,z11.fAct.fB,z11.fAct.fData,([] ++ zgV),zgW,zgX,zgY,zgZ⟩ ⟨h,((Zle.left _ _).trans (Zle.y5 _ _ _)),(zh0.mono (Zle.y5 _ _ _)),(zh1.mono (Zle.y5 _ _ _))⟩ (.cons rfl (.cons rfl (.cons rfl .nil))) (.cons .here (.cons .h3 (.cons .h2 (.cons .here .nil))))
   rcases yD h with ⟨zh2,h⟩ | h
   ·skip
    obtain ⟨z12,zh3,h⟩:=zi h
    refine WL.a (d:=39) rfl rfl rfl (y6 yF rfl (yT (k:=6) (hz.pv2 .h5) (hG0.mono (Zle.left _ _)) zh2 rfl)) ?_
    refine WL.pu rfl ?_
    refine WL.y2c (dd:=41) rfl rfl rfl (yq (l:=[.tmp 40]) Tryd.call88 rfl (.cons rfl .nil)) (.cons .here .nil) (ccz hz (.cons .here .nil) .h4 fun w pz ho=>y3B _ _ _ _ _ _ _ _ zh3 w pz (z1t.mono (Zle.left _ _)) (ZS.nil _ _ _) ho) ?_
    rintro zh4 zh5 zh6 zh7 zh8 ⟨zh9,zha⟩
    refine WL.merge .here .h5 ?_
    refine WL.nil ?_
    exact WX.mid (G:=Int × Int × Int × Int × Int × Int × Int × Int × Int × Int × List Int × Int × Int × Int × List Int × Zp × Option Addr × Nat × Option Addr × Nat) ⟨z12.fState.fPc,z12.fState.fLeft,z12.fState.fRegs.a0,z12.fState.fRegs.a1,z12.fState.fRegs.a2,z12.fState.fRegs.a3,z12.fX.fOp,z12.fX.fA,z12.fX.fB,z12.fX.fC,z12.fMem,z12.fAct.fKind,z12.fAct.fA,z12.fAct.fB,z12.fAct.fData,([] ++ zh4),zh5,zh6,zh7,zh8⟩ ⟨h,((Zle.left _ _).trans (Zle.y5 _ _ _)),(zh9.mono (Zle.y5 _ _ _)),(zha.mono (Zle.y5 _ _ _))⟩ (.cons rfl (.cons rfl (.cons rfl .nil))) (.cons .here (.cons .h3 (.cons .h2 (.cons .here .nil))))
   rcases yD h with ⟨zhb,h⟩ | h
   ·skip
    obtain ⟨z13,zhc,h⟩:=zi h
    refine WL.a (d:=39) rfl rfl rfl (y6 yF rfl (yT (k:=7) (hz.pv2 .h5) (hG0.mono (Zle.left _ _)) zhb rfl)) ?_
    refine WL.pu rfl ?_
    refine WL.y2c (dd:=41) rfl rfl rfl (yq (l:=[.tmp 40]) Tryd.call89 rfl (.cons rfl .nil)) (.cons .here .nil) (ccz hz (.cons .here .nil) .h4 fun w pz ho=>y3Q _ _ _ _ _ _ _ _ zhc w pz (z1t.mono (Zle.left _ _)) (ZS.nil _ _ _) ho) ?_
    rintro zhd zhe zhf zhg zhh ⟨zhi,zhj⟩
    refine WL.merge .here .h5 ?_
    refine WL.nil ?_
    exact WX.mid (G:=Int × Int × Int × Int × Int × Int × Int × Int × Int × Int × List Int × Int × Int × Int × List Int × Zp × Option Addr × Nat × Option Addr × Nat) ⟨z13.fState.fPc,z13.fState.fLeft,z13.fState.fRegs.a0,z13.fState.fRegs.a1,z13.fState.fRegs.a2,z13.fState.fRegs.a3,z13.fX.fOp,z13.fX.fA,z13.fX.fB,z13.fX.fC,z13.fMem,z13.fAct.fKind,z13.fAct.fA,z13.fAct.fB,z13.fAct.fData,([] ++ zhd),zhe,zhf,zhg,zhh⟩ ⟨h,((Zle.left _ _).trans (Zle.y5 _ _ _)),(zhi.mono (Zle.y5 _ _ _)),(zhj.mono (Zle.y5 _ _ _))⟩ (.cons rfl (.cons rfl (.cons rfl .nil))) (.cons .here (.cons .h3 (.cons .h2 (.cons .here .nil))))
   rcases yD h with ⟨zhk,h⟩ | h
   ·skip
    obtain ⟨z14,zhl,h⟩:=zi h
    refine WL.a (d:=39) rfl rfl rfl (y6 yF rfl (yT (k:=8) (hz.pv2 .h5) (hG0.mono (Zle.left _ _)) zhk rfl)) ?_
    refine WL.pu rfl ?_
    refine WL.yl (dd:=41) rfl rfl rfl (yq (l:=[.tmp 40]) Tryd.call90 rfl (.cons rfl .nil)) (.cons .here .nil) (ccz hz (.cons .here .nil) .h4 fun w pz ho=>y3R _ _ _ _ _ _ _ _ zhl w pz (z1t.mono (Zle.left _ _)) (ZS.nil _ _ _) ho) ?_
    rintro zhm zhn zho zhp ⟨zhq,zhr⟩
    refine WL.nil ?_
    exact WX.mid (G:=Int × Int × Int × Int × Int × Int × Int × Int × Int × Int × List Int × Int × Int × Int × List Int × Zp × Option Addr × Nat × Option Addr × Nat) ⟨z14.fState.fPc,z14.fState.fLeft,z14.fState.fRegs.a0,z14.fState.fRegs.a1,z14.fState.fRegs.a2,z14.fState.fRegs.a3,z14.fX.fOp,z14.fX.fA,z14.fX.fB,z14.fX.fC,z14.fMem,z14.fAct.fKind,z14.fAct.fA,z14.fAct.fB,z14.fAct.fData,[],zhm,zhn,zho,zhp⟩ ⟨h,(Zle.refl _),zhq,zhr⟩ (.cons rfl (.cons rfl (.cons rfl .nil))) (.cons .h5 (.cons .h3 (.cons .h2 (.cons .here .nil))))
   rcases yD h with ⟨zhs,h⟩ | h
   ·skip
    obtain ⟨z15,zht,h⟩:=zi h
    refine WL.a (d:=39) rfl rfl rfl (y6 yF rfl (yT (k:=9) (hz.pv2 .h5) (hG0.mono (Zle.left _ _)) zhs rfl)) ?_
    refine WL.pu rfl ?_
    refine WL.yl (dd:=41) rfl rfl rfl (yq (l:=[.tmp 40]) Tryd.call91 rfl (.cons rfl .nil)) (.cons .here .nil) (ccz hz (.cons .here .nil) .h4 fun w pz ho=>y3S _ _ _ _ _ _ _ _ zht w pz (z1t.mono (Zle.left _ _)) (ZS.nil _ _ _) ho) ?_
    rintro zhu zhv zhw zhx ⟨zhy,zhz⟩
    refine WL.nil ?_
    exact WX.mid (G:=Int × Int × Int × Int × Int × Int × Int × Int × Int × Int × List Int × Int × Int × Int × List Int × Zp × Option Addr × Nat × Option Addr × Nat) ⟨z15.fState.fPc,z15.fState.fLeft,z15.fState.fRegs.a0,z15.fState.fRegs.a1,z15.fState.fRegs.a2,z15.fState.fRegs.a3,z15.fX.fOp,z15.fX.fA,z15.fX.fB,z15.fX.fC,z15.fMem,z15.fAct.fKind,z15.fAct.fA,z15.fAct.fB,z15.fAct.fData,[],zhu,zhv,zhw,zhx⟩ ⟨h,(Zle.refl _),zhy,zhz⟩ (.cons rfl (.cons rfl (.cons rfl .nil))) (.cons .h5 (.cons .h3 (.cons .h2 (.cons .here .nil))))
   rcases yD h with ⟨zhA,h⟩ | h
   ·skip
    obtain ⟨z16,zhB,h⟩:=zi h
    refine WL.a (d:=39) rfl rfl rfl (y6 yF rfl (yT (k:=10) (hz.pv2 .h5) (hG0.mono (Zle.left _ _)) zhA rfl)) ?_
    refine WL.pu rfl ?_
    refine WL.yl (dd:=41) rfl rfl rfl (yq (l:=[.tmp 40]) Tryd.call92 rfl (.cons rfl .nil)) (.cons .here .nil) (ccz hz (.cons .here .nil) .h4 fun w pz ho=>y3v _ _ _ _ _ _ _ _ zhB w pz (z1t.mono (Zle.left _ _)) (ZS.nil _ _ _) ho) ?_
    rintro zhC zhD zhE zhF ⟨zhG,zhH⟩
    refine WL.nil ?_
    exact WX.mid (G:=Int × Int × Int × Int × Int × Int × Int × Int × Int × Int × List Int × Int × Int × Int × List Int × Zp × Option Addr × Nat × Option Addr × Nat) ⟨z16.fState.fPc,z16.fState.fLeft,z16.fState.fRegs.a0,z16.fState.fRegs.a1,z16.fState.fRegs.a2,z16.fState.fRegs.a3,z16.fX.fOp,z16.fX.fA,z16.fX.fB,z16.fX.fC,z16.fMem,z16.fAct.fKind,z16.fAct.fA,z16.fAct.fB,z16.fAct.fData,[],zhC,zhD,zhE,zhF⟩ ⟨h,(Zle.refl _),zhG,zhH⟩ (.cons rfl (.cons rfl (.cons rfl .nil))) (.cons .h5 (.cons .h3 (.cons .h2 (.cons .here .nil))))
   rcases yD h with ⟨zhI,h⟩ | h
   ·skip
    obtain ⟨z17,zhJ,h⟩:=zi h
    refine WL.a (d:=39) rfl rfl rfl (y6 yF rfl (yT (k:=11) (hz.pv2 .h5) (hG0.mono (Zle.left _ _)) zhI rfl)) ?_
    refine WL.pu rfl ?_
    refine WL.yl (dd:=41) rfl rfl rfl (yq (l:=[.tmp 40]) Tryd.call93 rfl (.cons rfl .nil)) (.cons .here .nil) (ccz hz (.cons .here .nil) .h4 fun w pz ho=>y3C _ _ _ _ _ _ _ _ zhJ w pz (z1t.mono (Zle.left _ _)) (ZS.nil _ _ _) ho) ?_
    rintro zhK zhL zhM zhN ⟨zhO,zhP⟩
    refine WL.nil ?_
    exact WX.mid (G:=Int × Int × Int × Int × Int × Int × Int × Int × Int × Int × List Int × Int × Int × Int × List Int × Zp × Option Addr × Nat × Option Addr × Nat) ⟨z17.fState.fPc,z17.fState.fLeft,z17.fState.fRegs.a0,z17.fState.fRegs.a1,z17.fState.fRegs.a2,z17.fState.fRegs.a3,z17.fX.fOp,z17.fX.fA,z17.fX.fB,z17.fX.fC,z17.fMem,z17.fAct.fKind,z17.fAct.fA,z17.fAct.fB,z17.fAct.fData,[],zhK,zhL,zhM,zhN⟩ ⟨h,(Zle.refl _),zhO,zhP⟩ (.cons rfl (.cons rfl (.cons rfl .nil))) (.cons .h5 (.cons .h3 (.cons .h2 (.cons .here .nil))))
   rcases yD h with ⟨zhQ,h⟩ | h
   ·skip
    obtain ⟨z18,zhR,h⟩:=zi h
    refine WL.a (d:=39) rfl rfl rfl (y6 yF rfl (yT (k:=12) (hz.pv2 .h5) (hG0.mono (Zle.left _ _)) zhQ rfl)) ?_
    refine WL.pu rfl ?_
    refine WL.yl (dd:=41) rfl rfl rfl (yq (l:=[.tmp 40]) Tryd.call94 rfl (.cons rfl .nil)) (.cons .here .nil) (ccz hz (.cons .here .nil) .h4 fun w pz ho=>y3D _ _ _ _ _ _ _ _ zhR w pz (z1t.mono (Zle.left _ _)) (ZS.nil _ _ _) ho) ?_
    rintro zhS zhT zhU zhV ⟨zhW,zhX⟩
    refine WL.nil ?_
    exact WX.mid (G:=Int × Int × Int × Int × Int × Int × Int × Int × Int × Int × List Int × Int × Int × Int × List Int × Zp × Option Addr × Nat × Option Addr × Nat) ⟨z18.fState.fPc,z18.fState.fLeft,z18.fState.fRegs.a0,z18.fState.fRegs.a1,z18.fState.fRegs.a2,z18.fState.fRegs.a3,z18.fX.fOp,z18.fX.fA,z18.fX.fB,z18.fX.fC,z18.fMem,z18.fAct.fKind,z18.fAct.fA,z18.fAct.fB,z18.fAct.fData,[],zhS,zhT,zhU,zhV⟩ ⟨h,(Zle.refl _),zhW,zhX⟩ (.cons rfl (.cons rfl (.cons rfl .nil))) (.cons .h5 (.cons .h3 (.cons .h2 (.cons .here .nil))))
   rcases yD h with ⟨zhY,h⟩ | h
   ·skip
    obtain ⟨z19,zhZ,h⟩:=zi h
    refine WL.a (d:=39) rfl rfl rfl (y6 yF rfl (yT (k:=13) (hz.pv2 .h5) (hG0.mono (Zle.left _ _)) zhY rfl)) ?_
    refine WL.pu rfl ?_
    refine WL.yl (dd:=41) rfl rfl rfl (yq (l:=[.tmp 40]) Tryd.call95 rfl (.cons rfl .nil)) (.cons .here .nil) (ccz hz (.cons .here .nil) .h4 fun w pz ho=>y3E _ _ _ _ _ _ _ _ zhZ w pz (z1t.mono (Zle.left _ _)) (ZS.nil _ _ _) ho) ?_
    rintro zi0 zi1 zi2 zi3 ⟨zi4,zi5⟩
    refine WL.nil ?_
    exact WX.mid (G:=Int × Int × Int × Int × Int × Int × Int × Int × Int × Int × List Int × Int × Int × Int × List Int × Zp × Option Addr × Nat × Option Addr × Nat) ⟨z19.fState.fPc,z19.fState.fLeft,z19.fState.fRegs.a0,z19.fState.fRegs.a1,z19.fState.fRegs.a2,z19.fState.fRegs.a3,z19.fX.fOp,z19.fX.fA,z19.fX.fB,z19.fX.fC,z19.fMem,z19.fAct.fKind,z19.fAct.fA,z19.fAct.fB,z19.fAct.fData,[],zi0,zi1,zi2,zi3⟩ ⟨h,(Zle.refl _),zi4,zi5⟩ (.cons rfl (.cons rfl (.cons rfl .nil))) (.cons .h5 (.cons .h3 (.cons .h2 (.cons .here .nil))))
   rcases yD h with ⟨zi6,h⟩ | h
   ·skip
    obtain ⟨z1a,zi7,h⟩:=zi h
    refine WL.a (d:=39) rfl rfl rfl (y6 yF rfl (yT (k:=14) (hz.pv2 .h5) (hG0.mono (Zle.left _ _)) zi6 rfl)) ?_
    refine WL.pu rfl ?_
    refine WL.y2c (dd:=41) rfl rfl rfl (yq (l:=[.tmp 40]) Tryd.call96 rfl (.cons rfl .nil)) (.cons .here .nil) (ccz hz (.cons .here .nil) .h4 fun w pz ho=>y4g _ _ _ _ _ _ _ _ zi7 w pz (z1t.mono (Zle.left _ _)) (ZS.nil _ _ _) ho) ?_
    rintro zi8 zi9 zia zib zic ⟨zid,zie⟩
    refine WL.merge .here .h5 ?_
    refine WL.nil ?_
    exact WX.mid (G:=Int × Int × Int × Int × Int × Int × Int × Int × Int × Int × List Int × Int × Int × Int × List Int × Zp × Option Addr × Nat × Option Addr × Nat) ⟨z1a.fState.fPc,z1a.fState.fLeft,z1a.fState.fRegs.a0,z1a.fState.fRegs.a1,z1a.fState.fRegs.a2,z1a.fState.fRegs.a3,z1a.fX.fOp,z1a.fX.fA,z1a.fX.fB,z1a.fX.fC,z1a.fMem,z1a.fAct.fKind,z1a.fAct.fA,z1a.fAct.fB,z1a.fAct.fData,([] ++ zi8),zi9,zia,zib,zic⟩ ⟨h,((Zle.left _ _).trans (Zle.y5 _ _ _)),(zid.mono (Zle.y5 _ _ _)),(zie.mono (Zle.y5 _ _ _))⟩ (.cons rfl (.cons rfl (.cons rfl .nil))) (.cons .here (.cons .h3 (.cons .h2 (.cons .here .nil))))
   rcases yD h with ⟨zif,h⟩ | h
   ·skip
    obtain ⟨z1b,zig,h⟩:=zi h
    refine WL.a (d:=39) rfl rfl rfl (y6 yF rfl (yT (k:=15) (hz.pv2 .h5) (hG0.mono (Zle.left _ _)) zif rfl)) ?_
    refine WL.pu rfl ?_
    refine WL.yl (dd:=41) rfl rfl rfl (yq (l:=[.tmp 40]) Tryd.call97 rfl (.cons rfl .nil)) (.cons .here .nil) (ccz hz (.cons .here .nil) .h4 fun w pz ho=>y4h _ _ _ _ _ _ _ _ zig w pz (z1t.mono (Zle.left _ _)) (ZS.nil _ _ _) ho) ?_
    rintro zih zii zij zik ⟨zil,zim⟩
    refine WL.nil ?_
    exact WX.mid (G:=Int × Int × Int × Int × Int × Int × Int × Int × Int × Int × List Int × Int × Int × Int × List Int × Zp × Option Addr × Nat × Option Addr × Nat) ⟨z1b.fState.fPc,z1b.fState.fLeft,z1b.fState.fRegs.a0,z1b.fState.fRegs.a1,z1b.fState.fRegs.a2,z1b.fState.fRegs.a3,z1b.fX.fOp,z1b.fX.fA,z1b.fX.fB,z1b.fX.fC,z1b.fMem,z1b.fAct.fKind,z1b.fAct.fA,z1b.fAct.fB,z1b.fAct.fData,[],zih,zii,zij,zik⟩ ⟨h,(Zle.refl _),zil,zim⟩ (.cons rfl (.cons rfl (.cons rfl .nil))) (.cons .h5 (.cons .h3 (.cons .h2 (.cons .here .nil))))
   rcases yD h with ⟨zin,h⟩ | h
   ·skip
    obtain ⟨z1c,zio,h⟩:=zi h
    refine WL.a (d:=39) rfl rfl rfl (y6 yF rfl (yT (k:=16) (hz.pv2 .h5) (hG0.mono (Zle.left _ _)) zin rfl)) ?_
    refine WL.pu rfl ?_
    refine WL.y2c (dd:=41) rfl rfl rfl (yq (l:=[.tmp 40]) Tryd.call98 rfl (.cons rfl .nil)) (.cons .here .nil) (ccz hz (.cons .here .nil) .h4 fun w pz ho=>y3T _ _ _ _ _ _ _ _ zio w pz (z1t.mono (Zle.left _ _)) (ZS.nil _ _ _) ho) ?_
    rintro ziq zir zis zit ziu ⟨ziv,ziw⟩
    refine WL.merge .here .h5 ?_
    refine WL.nil ?_
    exact WX.mid (G:=Int × Int × Int × Int × Int × Int × Int × Int × Int × Int × List Int × Int × Int × Int × List Int × Zp × Option Addr × Nat × Option Addr × Nat) ⟨z1c.fState.fPc,z1c.fState.fLeft,z1c.fState.fRegs.a0,z1c.fState.fRegs.a1,z1c.fState.fRegs.a2,z1c.fState.fRegs.a3,z1c.fX.fOp,z1c.fX.fA,z1c.fX.fB,z1c.fX.fC,z1c.fMem,z1c.fAct.fKind,z1c.fAct.fA,z1c.fAct.fB,z1c.fAct.fData,([] ++ ziq),zir,zis,zit,ziu⟩ ⟨h,((Zle.left _ _).trans (Zle.y5 _ _ _)),(ziv.mono (Zle.y5 _ _ _)),(ziw.mono (Zle.y5 _ _ _))⟩ (.cons rfl (.cons rfl (.cons rfl .nil))) (.cons .here (.cons .h3 (.cons .h2 (.cons .here .nil))))
   rcases yD h with ⟨zix,h⟩ | h
   ·skip
    obtain ⟨z1d,ziy,h⟩:=zi h
    refine WL.a (d:=39) rfl rfl rfl (y6 yF rfl (yT (k:=17) (hz.pv2 .h5) (hG0.mono (Zle.left _ _)) zix rfl)) ?_
    refine WL.pu rfl ?_
    refine WL.yl (dd:=41) rfl rfl rfl (yq (l:=[.tmp 40]) Tryd.call99 rfl (.cons rfl .nil)) (.cons .here .nil) (ccz hz (.cons .here .nil) .h4 fun w pz ho=>y3U _ _ _ _ _ _ _ _ ziy w pz (z1t.mono (Zle.left _ _)) (ZS.nil _ _ _) ho) ?_
    rintro ziz ziA ziB ziC ⟨ziD,ziE⟩
    refine WL.nil ?_
    exact WX.mid (G:=Int × Int × Int × Int × Int × Int × Int × Int × Int × Int × List Int × Int × Int × Int × List Int × Zp × Option Addr × Nat × Option Addr × Nat) ⟨z1d.fState.fPc,z1d.fState.fLeft,z1d.fState.fRegs.a0,z1d.fState.fRegs.a1,z1d.fState.fRegs.a2,z1d.fState.fRegs.a3,z1d.fX.fOp,z1d.fX.fA,z1d.fX.fB,z1d.fX.fC,z1d.fMem,z1d.fAct.fKind,z1d.fAct.fA,z1d.fAct.fB,z1d.fAct.fData,[],ziz,ziA,ziB,ziC⟩ ⟨h,(Zle.refl _),ziD,ziE⟩ (.cons rfl (.cons rfl (.cons rfl .nil))) (.cons .h5 (.cons .h3 (.cons .h2 (.cons .here .nil))))
   rcases yD h with ⟨ziF,h⟩ | h
   ·skip
    obtain ⟨z1e,ziG,h⟩:=zi h
    refine WL.a (d:=39) rfl rfl rfl (y6 yF rfl (yT (k:=18) (hz.pv2 .h5) (hG0.mono (Zle.left _ _)) ziF rfl)) ?_
    refine WL.pu rfl ?_
    refine WL.yl (dd:=41) rfl rfl rfl (yq (l:=[.tmp 40]) Tryd.call100 rfl (.cons rfl .nil)) (.cons .here .nil) (ccz hz (.cons .here .nil) .h4 fun w pz ho=>y3F _ _ _ _ _ _ _ _ ziG w pz (z1t.mono (Zle.left _ _)) (ZS.nil _ _ _) ho) ?_
    rintro ziH ziI ziJ ziK ⟨ziL,ziM⟩
    refine WL.nil ?_
    exact WX.mid (G:=Int × Int × Int × Int × Int × Int × Int × Int × Int × Int × List Int × Int × Int × Int × List Int × Zp × Option Addr × Nat × Option Addr × Nat) ⟨z1e.fState.fPc,z1e.fState.fLeft,z1e.fState.fRegs.a0,z1e.fState.fRegs.a1,z1e.fState.fRegs.a2,z1e.fState.fRegs.a3,z1e.fX.fOp,z1e.fX.fA,z1e.fX.fB,z1e.fX.fC,z1e.fMem,z1e.fAct.fKind,z1e.fAct.fA,z1e.fAct.fB,z1e.fAct.fData,[],ziH,ziI,ziJ,ziK⟩ ⟨h,(Zle.refl _),ziL,ziM⟩ (.cons rfl (.cons rfl (.cons rfl .nil))) (.cons .h5 (.cons .h3 (.cons .h2 (.cons .here .nil))))
   rcases yD h with ⟨ziN,h⟩ | h
   ·skip
    obtain ⟨zU,ziO,h⟩:=zi h
    refine WL.a (d:=39) rfl rfl rfl (y6 yF rfl (yT (k:=19) (hz.pv2 .h5) (hG0.mono (Zle.left _ _)) ziN rfl)) ?_
    refine WL.pu rfl ?_
    refine WL.yl (dd:=41) rfl rfl rfl (yq (l:=[.tmp 40]) Tryd.call101 rfl (.cons rfl .nil)) (.cons .here .nil) (ccz hz (.cons .here .nil) .h4 fun w pz ho=>y3V _ _ _ _ _ _ _ _ ziO w pz (z1t.mono (Zle.left _ _)) (ZS.nil _ _ _) ho) ?_
    rintro ziP ziQ ziR ziS ziT
    refine WL.nil ?_
    refine WX.freezeS (ls:=zU.fAct.fData) .h1 .h5 hz (RR.yI (enc:=e5) (fun _=>rfl) _) ?_
    intro ziU zc9 ziV
    exact WX.mid (G:=Int × Int × Int × Int × Int × Int × Int × Int × Int × Int × List Int × Int × Int × Int × List Int × Zp × Option Addr × Nat × Option Addr × Nat) ⟨zU.fState.fPc,zU.fState.fLeft,zU.fState.fRegs.a0,zU.fState.fRegs.a1,zU.fState.fRegs.a2,zU.fState.fRegs.a3,zU.fX.fOp,zU.fX.fA,zU.fX.fB,zU.fX.fC,zU.fMem,zU.fAct.fKind,zU.fAct.fA,zU.fAct.fB,zU.fAct.fData,ziU,ziP,ziQ,ziR,ziS⟩ ⟨h,zc9,(ziT.mono zc9),ziV⟩ (.cons rfl (.cons rfl (.cons rfl .nil))) (.cons .here (.cons .h3 (.cons .h2 (.cons .here .nil))))
   rcases yD h with ⟨ziW,h⟩ | h
   ·skip
    obtain ⟨z1f,ziX,h⟩:=zi h
    refine WL.a (d:=39) rfl rfl rfl (y6 yF rfl (yT (k:=20) (hz.pv2 .h5) (hG0.mono (Zle.left _ _)) ziW rfl)) ?_
    refine WL.pu rfl ?_
    refine WL.yl (dd:=41) rfl rfl rfl (yq (l:=[.tmp 40]) Tryd.call102 rfl (.cons rfl .nil)) (.cons .here .nil) (ccz hz (.cons .here .nil) .h4 fun w pz ho=>y3W _ _ _ _ _ _ _ _ ziX w pz (z1t.mono (Zle.left _ _)) (ZS.nil _ _ _) ho) ?_
    rintro ziY ziZ zj0 zj1 ⟨zj2,zj3⟩
    refine WL.nil ?_
    exact WX.mid (G:=Int × Int × Int × Int × Int × Int × Int × Int × Int × Int × List Int × Int × Int × Int × List Int × Zp × Option Addr × Nat × Option Addr × Nat) ⟨z1f.fState.fPc,z1f.fState.fLeft,z1f.fState.fRegs.a0,z1f.fState.fRegs.a1,z1f.fState.fRegs.a2,z1f.fState.fRegs.a3,z1f.fX.fOp,z1f.fX.fA,z1f.fX.fB,z1f.fX.fC,z1f.fMem,z1f.fAct.fKind,z1f.fAct.fA,z1f.fAct.fB,z1f.fAct.fData,[],ziY,ziZ,zj0,zj1⟩ ⟨h,(Zle.refl _),zj2,zj3⟩ (.cons rfl (.cons rfl (.cons rfl .nil))) (.cons .h5 (.cons .h3 (.cons .h2 (.cons .here .nil))))
   rcases yD h with ⟨zj4,h⟩ | h
   ·skip
    obtain ⟨z1g,zj5,h⟩:=zi h
    refine WL.a (d:=39) rfl rfl rfl (y6 yF rfl (yT (k:=21) (hz.pv2 .h5) (hG0.mono (Zle.left _ _)) zj4 rfl)) ?_
    refine WL.pu rfl ?_
    refine WL.yl (dd:=41) rfl rfl rfl (yq (l:=[.tmp 40]) Tryd.call103 rfl (.cons rfl .nil)) (.cons .here .nil) (ccz hz (.cons .here .nil) .h4 fun w pz ho=>y3X _ _ _ _ _ _ _ _ zj5 w pz (z1t.mono (Zle.left _ _)) (ZS.nil _ _ _) ho) ?_
    rintro zj6 zj7 zj8 zj9 ⟨zja,zjb⟩
    refine WL.nil ?_
    exact WX.mid (G:=Int × Int × Int × Int × Int × Int × Int × Int × Int × Int × List Int × Int × Int × Int × List Int × Zp × Option Addr × Nat × Option Addr × Nat) ⟨z1g.fState.fPc,z1g.fState.fLeft,z1g.fState.fRegs.a0,z1g.fState.fRegs.a1,z1g.fState.fRegs.a2,z1g.fState.fRegs.a3,z1g.fX.fOp,z1g.fX.fA,z1g.fX.fB,z1g.fX.fC,z1g.fMem,z1g.fAct.fKind,z1g.fAct.fA,z1g.fAct.fB,z1g.fAct.fData,[],zj6,zj7,zj8,zj9⟩ ⟨h,(Zle.refl _),zja,zjb⟩ (.cons rfl (.cons rfl (.cons rfl .nil))) (.cons .h5 (.cons .h3 (.cons .h2 (.cons .here .nil))))
   rcases yD h with ⟨zjc,h⟩ | h
   ·skip
    obtain ⟨z1h,zjd,h⟩:=zi h
    refine WL.a (d:=39) rfl rfl rfl (y6 yF rfl (yT (k:=22) (hz.pv2 .h5) (hG0.mono (Zle.left _ _)) zjc rfl)) ?_
    refine WL.pu rfl ?_
    refine WL.yl (dd:=41) rfl rfl rfl (yq (l:=[.tmp 40]) Tryd.call104 rfl (.cons rfl .nil)) (.cons .here .nil) (ccz hz (.cons .here .nil) .h4 fun w pz ho=>y3Y _ _ _ _ _ _ _ _ zjd w pz (z1t.mono (Zle.left _ _)) (ZS.nil _ _ _) ho) ?_
    rintro zje zjf zjg zjh ⟨zji,zjj⟩
    refine WL.nil ?_
    exact WX.mid (G:=Int × Int × Int × Int × Int × Int × Int × Int × Int × Int × List Int × Int × Int × Int × List Int × Zp × Option Addr × Nat × Option Addr × Nat) ⟨z1h.fState.fPc,z1h.fState.fLeft,z1h.fState.fRegs.a0,z1h.fState.fRegs.a1,z1h.fState.fRegs.a2,z1h.fState.fRegs.a3,z1h.fX.fOp,z1h.fX.fA,z1h.fX.fB,z1h.fX.fC,z1h.fMem,z1h.fAct.fKind,z1h.fAct.fA,z1h.fAct.fB,z1h.fAct.fData,[],zje,zjf,zjg,zjh⟩ ⟨h,(Zle.refl _),zji,zjj⟩ (.cons rfl (.cons rfl (.cons rfl .nil))) (.cons .h5 (.cons .h3 (.cons .h2 (.cons .here .nil))))
   rcases yD h with ⟨zjk,h⟩ | h
   ·skip
    obtain ⟨z1i,zjl,h⟩:=zi h
    refine WL.a (d:=39) rfl rfl rfl (y6 yF rfl (yT (k:=23) (hz.pv2 .h5) (hG0.mono (Zle.left _ _)) zjk rfl)) ?_
    refine WL.pu rfl ?_
    refine WL.y2c (dd:=41) rfl rfl rfl (yq (l:=[.tmp 40]) Tryd.call105 rfl (.cons rfl .nil)) (.cons .here .nil) (ccz hz (.cons .here .nil) .h4 fun w pz ho=>y4i _ _ _ _ _ _ _ _ zjl w pz (z1t.mono (Zle.left _ _)) (ZS.nil _ _ _) ho) ?_
    rintro zjm zjn zjo zjp zjq ⟨zjr,zjs⟩
    refine WL.merge .here .h5 ?_
    refine WL.nil ?_
    exact WX.mid (G:=Int × Int × Int × Int × Int × Int × Int × Int × Int × Int × List Int × Int × Int × Int × List Int × Zp × Option Addr × Nat × Option Addr × Nat) ⟨z1i.fState.fPc,z1i.fState.fLeft,z1i.fState.fRegs.a0,z1i.fState.fRegs.a1,z1i.fState.fRegs.a2,z1i.fState.fRegs.a3,z1i.fX.fOp,z1i.fX.fA,z1i.fX.fB,z1i.fX.fC,z1i.fMem,z1i.fAct.fKind,z1i.fAct.fA,z1i.fAct.fB,z1i.fAct.fData,([] ++ zjm),zjn,zjo,zjp,zjq⟩ ⟨h,((Zle.left _ _).trans (Zle.y5 _ _ _)),(zjr.mono (Zle.y5 _ _ _)),(zjs.mono (Zle.y5 _ _ _))⟩ (.cons rfl (.cons rfl (.cons rfl .nil))) (.cons .here (.cons .h3 (.cons .h2 (.cons .here .nil))))
   rcases yD h with ⟨zjt,h⟩ | h
   ·skip
    obtain ⟨zV,zju,h⟩:=zi h
    refine WL.a (d:=39) rfl rfl rfl (y6 yF rfl (yT (k:=24) (hz.pv2 .h5) (hG0.mono (Zle.left _ _)) zjt rfl)) ?_
    refine WL.pu rfl ?_
    refine WL.yl (dd:=41) rfl rfl rfl (yq (l:=[.tmp 40]) Tryd.call106 rfl (.cons rfl .nil)) (.cons .here .nil) (ccz hz (.cons .here .nil) .h4 fun w pz ho=>y3G _ _ _ _ _ _ _ _ zju w pz (z1t.mono (Zle.left _ _)) (ZS.nil _ _ _) ho) ?_
    rintro zjv zjw zjx zjy zjz
    refine WL.nil ?_
    refine WX.freezeS (ls:=zV.fAct.fData) .h1 .h5 hz (RR.yI (enc:=e5) (fun _=>rfl) _) ?_
    intro zjA zca zjB
    exact WX.mid (G:=Int × Int × Int × Int × Int × Int × Int × Int × Int × Int × List Int × Int × Int × Int × List Int × Zp × Option Addr × Nat × Option Addr × Nat) ⟨zV.fState.fPc,zV.fState.fLeft,zV.fState.fRegs.a0,zV.fState.fRegs.a1,zV.fState.fRegs.a2,zV.fState.fRegs.a3,zV.fX.fOp,zV.fX.fA,zV.fX.fB,zV.fX.fC,zV.fMem,zV.fAct.fKind,zV.fAct.fA,zV.fAct.fB,zV.fAct.fData,zjA,zjv,zjw,zjx,zjy⟩ ⟨h,zca,(zjz.mono zca),zjB⟩ (.cons rfl (.cons rfl (.cons rfl .nil))) (.cons .here (.cons .h3 (.cons .h2 (.cons .here .nil))))
   rcases yD h with ⟨zjC,h⟩ | h
   ·skip
    obtain ⟨zW,zjD,h⟩:=zi h
    refine WL.a (d:=39) rfl rfl rfl (y6 yF rfl (yT (k:=25) (hz.pv2 .h5) (hG0.mono (Zle.left _ _)) zjC rfl)) ?_
    refine WL.pu rfl ?_
    refine WL.yl (dd:=41) rfl rfl rfl (yq (l:=[.tmp 40]) Tryd.call107 rfl (.cons rfl .nil)) (.cons .here .nil) (ccz hz (.cons .here .nil) .h4 fun w pz ho=>y3Z _ _ _ _ _ _ _ _ zjD w pz (z1t.mono (Zle.left _ _)) (ZS.nil _ _ _) ho) ?_
    rintro zjE zjF zjG zjH zjI
    refine WL.nil ?_
    refine WX.freezeS (ls:=zW.fAct.fData) .h1 .h5 hz (RR.yI (enc:=e5) (fun _=>rfl) _) ?_
    intro zjJ zcb zjK
    exact WX.mid (G:=Int × Int × Int × Int × Int × Int × Int × Int × Int × Int × List Int × Int × Int × Int × List Int × Zp × Option Addr × Nat × Option Addr × Nat) ⟨zW.fState.fPc,zW.fState.fLeft,zW.fState.fRegs.a0,zW.fState.fRegs.a1,zW.fState.fRegs.a2,zW.fState.fRegs.a3,zW.fX.fOp,zW.fX.fA,zW.fX.fB,zW.fX.fC,zW.fMem,zW.fAct.fKind,zW.fAct.fA,zW.fAct.fB,zW.fAct.fData,zjJ,zjE,zjF,zjG,zjH⟩ ⟨h,zcb,(zjI.mono zcb),zjK⟩ (.cons rfl (.cons rfl (.cons rfl .nil))) (.cons .here (.cons .h3 (.cons .h2 (.cons .here .nil))))
   cases h
  ·rintro z2W z2X z2Y z2Z z30 z31 z4I z4J z4K z4L z3T z32 z33 z34 z2M z4M z6v z6w z4N z4O ⟨h,zmB,zmC,zjL⟩
   replace h:=(zgl z2W z2X z2Y z2Z z30 z31 z4I z4J z4K z4L z3T z32 z33 z34 z2M).symm.trans h
   refine WC.b ?_
   refine WC.y1h (fun i=>[8,9].contains i) [stb z8C 65 [(.int .i64 z2W),(.int .i64 z2X),(.int .u8 z2Y),(.int .u8 z2Z),(.int .u8 z30),(.int .u8 z31),(.int .u8 z4I),(.int .i64 z4J),(.int .i64 z4K),(.int .i64 z4L),(.slice z6v z3T.length z6w),(.int .u8 z32),(.int .i64 z33),(.int .i64 z34),(.slice z4N z2M.length z4O)]] rfl ?_
   refine WD.a (i:=0) (d:=42) (by kernel_rfl) rfl z7 z8 rfl rfl rfl (fun _=>q_m rfl) ?_
   refine WD.a (i:=1) (d:=43) (by kernel_rfl) rfl z7 z8 rfl rfl rfl (fun _=>y7 rfl) ?_
   refine WD.a (i:=2) (d:=44) (by kernel_rfl) rfl z7 z8 rfl rfl rfl (fun _=>y4 y1i rfl rfl) ?_
   refine WD.e (i:=3) (d:=45) (by kernel_rfl) rfl z7 z8 rfl rfl rfl (y5e (cs:=[(.int .i64 z2W),(.int .i64 z2X),(.int .u8 z2Y),(.int .u8 z2Z),(.int .u8 z30),(.int .u8 z31)]) y1p rfl rfl (rd_sub (s:=6) .h3 rfl)) ?_
   refine WD.a (i:=4) (d:=46) (by kernel_rfl) rfl z7 z8 rfl rfl rfl (fun _=>q_m rfl) ?_
   refine WD.a (i:=5) (d:=47) (by kernel_rfl) rfl z7 z8 rfl rfl rfl (fun _=>y7 rfl) ?_
   refine WD.a (i:=6) (d:=48) (by kernel_rfl) rfl z7 z8 rfl rfl rfl (fun _=>y4 y3h rfl rfl) ?_
   refine WD.y6q (i:=7) (d:=49) (by kernel_rfl) rfl z7 z8 rfl rfl rfl (Sin.of (.cons .h3 .nil)) (y5e (cs:=[(.int .u8 z32),(.int .i64 z33),(.int .i64 z34),(.slice z4N z2M.length z4O)]) y2x rfl rfl (rd_sub (s:=4) .here rfl)) ?_
   refine WD.forced0 (i:=8) rfl (by kernel_rfl) rfl rfl rfl (Sin.of (.cons .h3 .nil)) (ys y21 rfl rfl rfl .h1 rfl rfl rfl) ?_
   refine WD.y2n (i:=9) rfl (by kernel_rfl) rfl rfl rfl (by kernel_rfl) (ys y1z rfl rfl rfl .h2 rfl rfl rfl) ?_
   refine WD.done (by kernel_rfl) ?_
   refine WX.a (WC.ret ?_)
   obtain rfl:=Option.some.inj h
   refine WX.yg Tryd.results18 (.agg rfl y1p rfl (yH .h1) (.agg rfl y2x rfl (yH .here) .nil)) (fun w hw=>?_)
   exact ⟨z4M,z4N,z4O,ret2 rfl rfl,zjL,hw.sub (.cons .h2 .nil)⟩
def y2y (z1X : Sapi_Ins) (z6Q : List Sapi_Ins) : Option Bool :=
 (y28 z1X ((z6Q.length : Nat) : Int)).bind fun zcc=>some (!zcc)
set_option maxRecDepth 20000 in
theorem y5l (Z : Zp) (z7x : Addr) (zcd : Option Addr) (zce : Nat) (z1X : Sapi_Ins) (z6Q : List Sapi_Ins) (r : Bool)
  (h : y2y z1X z6Q = some r) (w₀ : World) (hz : PZ [] w₀ Z)
  (hG1 : ZS Z 1 (p74 Z) (some ⟨1,0,none⟩) 26 yX)
  (zmD : ZS Z 4 (fun r x=>r = e33 x) zcd zce z6Q)
  (zjM : ZC Z z7x [(.slice zcd z6Q.length zce)]) :
  Calls Tryd.prog 31 #[(.agg #[(.int .u8 z1X.fOp),(.int .i64 z1X.fA),(.int .i64 z1X.fB),(.int .i64 z1X.fC)]),(.pointer (some z7x))] w₀ fun e w'=>e = .returned (.bool r) ∧ Hp [] w₀ w' []:=by
 unfold y2y at h
 refine Calls.y9 (vs:=[(.agg #[(.int .u8 z1X.fOp),(.int .i64 z1X.fA),(.int .i64 z1X.fB),(.int .i64 z1X.fC)]),(.pointer (some z7x))]) (pre:=[]) (env:=[(0,(.agg #[(.int .u8 z1X.fOp),(.int .i64 z1X.fA),(.int .i64 z1X.fB),(.int .i64 z1X.fC)])),(1,(.pointer (some z7x)))]) Tryd.func31 rfl Tryd.ntmps31 rfl (Hp.nil w₀ _) rfl ?_
 refine WC.b (WC.a ?_)
 refine WL.new (dd:=2) rfl rfl rfl (y3b (cs:=[(.int .u8 z1X.fOp),(.int .i64 z1X.fA),(.int .i64 z1X.fB),(.int .i64 z1X.fC)]) rfl rfl) ?_
 intro zmE _
 refine WL.pu rfl (WL.nil (WX.a (WC.b ?_)))
 obtain ⟨zcc,zjN,h⟩:=zi h
 refine WC.a ?_
 refine WL.a (d:=4) rfl rfl rfl (yJ y2M rfl (yH .here) rfl) ?_
 refine WL.a (d:=5) rfl rfl rfl (y6 y2O rfl (y2z hz.pv zjM rfl)) ?_
 refine WL.a (d:=6) rfl rfl rfl (y1a Tryd.underlying22 rfl) ?_
 refine WL.b (dd:=7) rfl rfl rfl (zK (l:=[.tmp 4,.tmp 6]) Tryd.call32 (.cons rfl (.cons rfl .nil))) .nil (cc hz .nil fun w pz ho=>y4H _ _ _ _ zjN w pz hG1) ?_
 refine WL.pu rfl (WL.pu rfl (WL.nil (WX.a (WC.ret ?_))))
 obtain rfl:=Option.some.inj h
 refine WX.yg Tryd.results31 (.tmp rfl .nil) (fun w hw=>?_)
 exact ⟨yZ rfl,hw.sub .nil⟩
def yw (z1v : List Sapi_Ins) (z2N : Sapi_Ins → Option Bool) (z3U : Option Int) : Nat → Int → Option Int
 | 0,_=>none
 | z8D + 1,z1y=>if decide (z1y < ((z1v.length : Nat) : Int)) then chk ((0 : Int) ≤ z1y ∧ z1y < ((z1v.length : Nat) : Int)) ((z2N (⟨((nth z1v z1y).fOp),((nth z1v z1y).fA),((nth z1v z1y).fB),((nth z1v z1y).fC)⟩ : Sapi_Ins)).bind fun z8E=>if z8E then some z1y else yw z1v z2N z3U z8D (i64 (z1y + 1))) else z3U
theorem y2a {n : Nat} {z1v : List Sapi_Ins} {z2N : Sapi_Ins → Option Bool} {z3U : Option Int} {z1y : Int} {r : Int} (h : yw z1v z2N z3U n z1y = some r) : ∃ m,n = m + 1:=by
 cases n with
 | zero=>cases h
 | succ m=>exact ⟨m,rfl⟩
def y16 (z1v : List Sapi_Ins) (z2N : Sapi_Ins → Option Bool) : Option Int :=
 jp0 (some (-1)) fun z3U=>yw z1v z2N z3U y1M 0
set_option maxRecDepth 20000 in
theorem y2A (Z : Zp) (z6R : Option Addr) (z6S : Nat) (z3V : FuncId) (z5g : List Value) (z1v : List Sapi_Ins) (z2N : Sapi_Ins → Option Bool) (r : Int)
  (h : y16 z1v z2N = some r) (w₀ : World) (hz : PZ [] w₀ Z)
  (zjO : ZS Z 4 (fun r x=>r = e33 x) z6R z6S z1v)
  (zjP : ∀ args w,(callFunc z3V args).run Tryd.prog w = .ok (.enter z3V args) w)
  (zjQ : ∀ w : World,PZ [] w Z → ∀ (x0 : Sapi_Ins) (r : Bool),z2N x0 = some r → Calls Tryd.prog z3V (([(.agg #[(.int .u8 x0.fOp),(.int .i64 x0.fA),(.int .i64 x0.fB),(.int .i64 x0.fC)])] : List Value) ++ z5g).toArray w fun e w'=>e = .returned (.bool r) ∧ Hp [] w w' []) :
  Calls Tryd.prog 42 #[(.slice z6R z1v.length z6S),(.func (.func z3V) #[] (z5g).toArray)] w₀ fun e w'=>e = .returned (.int .i64 r) ∧ Hp [] w₀ w' []:=by
 unfold y16 at h
 refine Calls.y9 (vs:=[(.slice z6R z1v.length z6S),(.func (.func z3V) #[] (z5g).toArray)]) (pre:=[]) (env:=[(0,(.slice z6R z1v.length z6S)),(1,(.func (.func z3V) #[] (z5g).toArray))]) Tryd.func42 rfl Tryd.ntmps42 rfl (Hp.nil w₀ _) rfl ?_
 refine WC.b (WC.a (WL.pu rfl (WL.nil (WX.a ?_))))
 obtain ⟨z3U,zjR,h⟩:=y3m h
 refine WC.y2Z ((z3U = some r)) ([]) ([]) ?_ ?_
 ·skip
  refine WC.b (WC.a (WL.pu rfl ?_))
  refine WL.a (d:=7) rfl rfl rfl (y1a Tryd.underlying22 rfl) ?_
  refine WL.pu rfl (WL.nil (WX.a (WC.block ?_)))
  refine WC.y45 (fun (z6x : Nat) (z1y : Int)=>(yw z1v z2N z3U z6x z1y = some r)) (fun (z6x : Nat) (z1y : Int)=>[(0,(.slice z6R z1v.length z6S)),(1,(.func (.func z3V) #[] (z5g).toArray)),(7,(.int .i64 ((z1v.length : Nat) : Int))),(8,(.int .i64 z1y))]) (fun (z6x : Nat) (z1y : Int)=>[]) (fun (z6x : Nat) (z1y : Int)=>z6x) ⟨y1M,0⟩ h (.cons rfl (.cons rfl (.cons rfl (.cons rfl .nil)))) .nil ?_
  rintro z6x z1y h
  obtain ⟨z8D,rfl⟩:=y2a h
  rw [yw] at h
  refine WC.b (WC.a (WL.pu rfl (WL.nil (WX.a (WC.b ?_)))))
  refine WC.cond rfl (fun z8F=>?_) (fun z8F=>?_)
  ·replace h:=ym h z8F
   refine WC.skip (WX.a (WC.b (WC.block (WC.b (WC.a (WL.pu rfl (WL.pu rfl (WL.nil (WX.a (WC.b ?_))))))))))
   obtain ⟨zjS,h⟩:=yb h
   obtain ⟨z8E,zjT,h⟩:=zi h
   refine WC.a (WL.pu rfl (WL.pu rfl (WL.pu rfl ?_)))
   refine WL.znth (dd:=14) rfl rfl (Z:=Z) (Pr:=(fun r x=>r = e33 x)) y2E rfl rfl zjO zjS ?_
   rintro zmF zmG zjU zmH rfl
   refine WL.a (d:=15) rfl rfl rfl (yJ y2M rfl (rd_zs hz.pv zjU) rfl) ?_
   refine WL.b (dd:=16) rfl rfl rfl (yq (l:=[.tmp 15]) (f:=z3V) (caps:=z5g) zjP rfl (.cons rfl .nil)) .nil (fun w hw=>zjQ w (hz.now hw) (⟨((nth z1v z1y).fOp),((nth z1v z1y).fA),((nth z1v z1y).fB),((nth z1v z1y).fC)⟩ : Sapi_Ins) z8E  zjT) ?_
   refine WL.nil (WX.a ?_)
   refine WC.cond rfl (fun z8G=>?_) (fun z8G=>?_)
   ·replace h:=ym h z8G
    refine WC.b (WC.a (WL.pu rfl (WL.pu rfl (WL.nil (WX.a (WC.ret (WX.yK (WX.yd (WX.yd (WX.yK (WX.yd ?_)))))))))))
    obtain rfl:=Option.some.inj h
    refine WX.yg Tryd.results42 (.tmp rfl .nil) (fun w hw=>?_)
    exact ⟨yZ rfl,hw.sub .nil⟩
   ·replace h:=yn h z8G
    refine WC.skip (WX.yi (WX.a (WC.a (WL.pu rfl (WL.pu rfl (WL.nil ?_))))))
    exact WX.round (G:=Nat × Int) ⟨z8D,(i64 (z1y + 1))⟩ h (Nat.lt_succ_self _) (.cons rfl (.cons rfl (.cons rfl (.cons rfl .nil)))) .nil
  ·replace h:=yn h z8F
   refine WC.exit (WX.yu (WX.yu (WX.y1b ?_)))
   exact WX.mid (G:=Unit) () h .nil .nil
 ·rintro  h
  replace h:=zjR.symm.trans h
  refine WC.b (WC.a (WL.pu rfl (WL.nil (WX.a (WC.ret ?_)))))
  obtain rfl:=Option.some.inj h
  refine WX.yg Tryd.results42 (.tmp rfl .nil) (fun w hw=>?_)
  exact ⟨yZ rfl,hw.sub .nil⟩
def yV (z5h : List Sapi_Ins) (z6y : Sapi_Ins → Option Bool) : Option Bool :=
 (y16 z5h z6y).bind fun zcf=>some (decide (zcf ≥ 0))
set_option maxRecDepth 20000 in
theorem y2m (Z : Zp) (z7y : Option Addr) (z7z : Nat) (z4P : FuncId) (z6z : List Value) (z5h : List Sapi_Ins) (z6y : Sapi_Ins → Option Bool) (r : Bool)
  (h : yV z5h z6y = some r) (w₀ : World) (hz : PZ [] w₀ Z)
  (zjV : ZS Z 4 (fun r x=>r = e33 x) z7y z7z z5h)
  (zjW : ∀ args w,(callFunc z4P args).run Tryd.prog w = .ok (.enter z4P args) w)
  (zjX : ∀ w : World,PZ [] w Z → ∀ (x0 : Sapi_Ins) (r : Bool),z6y x0 = some r → Calls Tryd.prog z4P (([(.agg #[(.int .u8 x0.fOp),(.int .i64 x0.fA),(.int .i64 x0.fB),(.int .i64 x0.fC)])] : List Value) ++ z6z).toArray w fun e w'=>e = .returned (.bool r) ∧ Hp [] w w' []) :
  Calls Tryd.prog 30 #[(.slice z7y z5h.length z7z),(.func (.func z4P) #[] (z6z).toArray)] w₀ fun e w'=>e = .returned (.bool r) ∧ Hp [] w₀ w' []:=by
 unfold yV at h
 refine Calls.y9 (vs:=[(.slice z7y z5h.length z7z),(.func (.func z4P) #[] (z6z).toArray)]) (pre:=[]) (env:=[(0,(.slice z7y z5h.length z7z)),(1,(.func (.func z4P) #[] (z6z).toArray))]) Tryd.func30 rfl Tryd.ntmps30 rfl (Hp.nil w₀ _) rfl ?_
 refine WC.b (WC.a (WL.pu rfl (WL.nil (WX.a (WC.b ?_)))))
 obtain ⟨zcf,zjY,h⟩:=zi h
 refine WC.a (WL.pu rfl (WL.pu rfl ?_))
 refine WL.b (dd:=7) rfl rfl rfl (zK (l:=[.tmp 5,.tmp 6]) Tryd.call42 (.cons rfl (.cons rfl .nil))) .nil (cc hz .nil fun w pz ho=>y2A _ _ _ (z3V:=z4P) (z5g:=z6z) _ (z2N:=z6y) _ zjY w pz zjV zjW zjX) ?_
 refine WL.pu rfl (WL.pu rfl (WL.nil (WX.a (WC.ret ?_))))
 obtain rfl:=Option.some.inj h
 refine WX.yg Tryd.results30 (.tmp rfl .nil) (fun w hw=>?_)
 exact ⟨yZ rfl,hw.sub .nil⟩
def y3q (z35 : List Sapi_Ins) : Option Bool :=
 (yV z35 (fun (y0 : Sapi_Ins)=>y2y y0 z35)).bind fun zcg=>some (!zcg)
set_option maxRecDepth 20000 in
theorem y5R (Z : Zp) (z6T : Option Addr) (z6U : Nat) (z35 : List Sapi_Ins) (r : Bool)
  (h : y3q z35 = some r) (w₀ : World) (hz : PZ [] w₀ Z)
  (hG1 : ZS Z 1 (p74 Z) (some ⟨1,0,none⟩) 26 yX)
  (zch : ZS Z 4 (fun r x=>r = e33 x) z6T z6U z35) :
  Calls Tryd.prog 14 #[(.slice z6T z35.length z6U)] w₀ fun e w'=>e = .returned (.bool r) ∧ Hp [] w₀ w' []:=by
 unfold y3q at h
 refine Calls.y9 (vs:=[(.slice z6T z35.length z6U)]) (pre:=[]) (env:=[(0,(.slice z6T z35.length z6U))]) Tryd.func14 rfl Tryd.ntmps14 rfl (Hp.nil w₀ _) rfl ?_
 refine WC.b (WC.a ?_)
 refine WL.new (dd:=1) rfl rfl rfl (y3b (cs:=[(.slice z6T z35.length z6U)]) rfl rfl) ?_
 intro zjZ _
 refine WL.pu rfl (WL.nil (WX.a (WC.b ?_)))
 obtain ⟨zcg,zk0,h⟩:=zi h
 refine WC.a ?_
 refine WL.a (d:=3) rfl rfl rfl (y6 y2O rfl (ya .here rfl)) ?_
 refine WL.a (d:=4) rfl rfl rfl (y54 (Eos.caps (l:=[.tmp 1]) (.cons rfl .nil))) ?_
 refine WL.b (dd:=5) rfl rfl rfl (zK (l:=[.tmp 3,.tmp 4]) Tryd.call30 (.cons rfl (.cons rfl .nil))) .nil (ccl hz .nil (.cons .here .nil) fun w pz ho la=>y2m _ _ _ (z4P:=31) (z6z:=[(.pointer (some ⟨zjZ,0,none⟩))]) _ (z6y:=(fun (y0 : Sapi_Ins)=>y2y y0 z35)) _ zk0 w pz (zch.mono (Zle.left _ _)) Tryd.call31 (fun w' hz' y0  r  hr=>y5l _ _ _ _ _ _ _ hr w' hz' ((hG1.mono (Zle.left _ _)).weak (fun _ _ h=>yQ (Zle.left _ _) h)) (zch.mono (Zle.left _ _)) ((la _ (.head _) _).stb))) ?_
 refine WL.pu rfl (WL.pu rfl (WL.nil (WX.a (WC.ret ?_))))
 obtain rfl:=Option.some.inj h
 refine WX.yg Tryd.results14 (.tmp rfl .nil) (fun w hw=>?_)
 exact ⟨yZ rfl,hw.sub .nil⟩
def yN (zM : List Int) (zL : Int) (z3W : (List Int) → Int → Option (List Int)) : Nat → (List Int) → Int → Int → Option (List Int)
 | 0,_,_,_=>none
 | z8H + 1,zS,z1H,k2_9039=>if decide (k2_9039 < ((zM.length - (zL : Int).toNat : Nat) : Int)) then jp2 (fun (z2A : List Int) (z3X : Int)=>yN zM zL z3W z8H z2A z3X (i64 (k2_9039 + 1))) fun z7A=>chk ((0 : Int) ≤ k2_9039 ∧ k2_9039 < ((zM.length - (zL : Int).toNat : Nat) : Int)) (chk ((0 : Int) ≤ (i64 (k2_9039 - 1)) ∧ (i64 (k2_9039 - 1)) < ((zM.length - (zL : Int).toNat : Nat) : Int)) (if decide ((nth zS (zL + k2_9039)) ≠ (nth zS (zL + (i64 (k2_9039 - 1))))) then chk ((0 : Int) ≤ k2_9039 ∧ k2_9039 < ((zM.length - (zL : Int).toNat : Nat) : Int)) (chk ((0 : Int) ≤ z1H ∧ z1H < ((zS.length : Nat) : Int)) (z7A (zS.set (z1H : Int).toNat (nth zS (zL + k2_9039))) (i64 (z1H + 1)))) else z7A zS z1H)) else z3W zS z1H
theorem y2H {n : Nat} {zM : List Int} {zL : Int} {z3W : (List Int) → Int → Option (List Int)} {zS : List Int} {z1H : Int} {k2_9039 : Int} {r : List Int} (h : yN zM zL z3W n zS z1H k2_9039 = some r) : ∃ m,n = m + 1:=by
 cases n with
 | zero=>cases h
 | succ m=>exact ⟨m,rfl⟩
def yO (zM : List Int) (z3Y : Option (List Int)) : Nat → Int → Option (List Int)
 | 0,_=>none
 | z8I + 1,zL=>if decide (zL < ((zM.length : Nat) : Int)) then jp0 (yO zM z3Y z8I (i64 (zL + 1))) fun z8J=>chk ((0 : Int) ≤ zL ∧ zL < ((zM.length : Nat) : Int)) (chk ((0 : Int) ≤ (i64 (zL - 1)) ∧ (i64 (zL - 1)) < ((zM.length : Nat) : Int)) (if decide ((nth zM zL) = (nth zM (i64 (zL - 1)))) then chk ((0 : Int) ≤ zL ∧ zL < ((zM.length : Nat) : Int)) (jp2 (fun (z1I : List Int) (z1J : Int)=>chk ((0 : Int) ≤ z1J ∧ z1J ≤ ((z1I.length : Nat) : Int)) (chk ((0 : Int) ≤ z1J ∧ z1J ≤ (((z1I.take (z1J : Int).toNat ++ List.replicate (z1I.length - (z1J : Int).toNat) (0 : Int)).length : Nat) : Int)) (some ((z1I.take (z1J : Int).toNat ++ List.replicate (z1I.length - (z1J : Int).toNat) (0 : Int)).take (z1J : Int).toNat)))) fun z3W=>yN zM zL z3W y1M zM zL 1) else z8J)) else z3Y
theorem y2I {n : Nat} {zM : List Int} {z3Y : Option (List Int)} {zL : Int} {r : List Int} (h : yO zM z3Y n zL = some r) : ∃ m,n = m + 1:=by
 cases n with
 | zero=>cases h
 | succ m=>exact ⟨m,rfl⟩
def y1Y (zM : List Int) : Option (List Int) :=
 if decide (((zM.length : Nat) : Int) < 2) then some zM else jp0 (some zM) fun z3Y=>yO zM z3Y y1M 1
set_option maxRecDepth 20000 in
theorem y3r (Z : Zp) (z2a : Option Addr) (z1n : Nat) (zM : List Int) (r : List Int)
  (h : y1Y zM = some r) (w₀ : World) (hz : PZ (fps [row (.slice z2a zM.length z1n) 3 1 (zM.flatMap e3)]) w₀ Z)
  (hown : Hp (fps [row (.slice z2a zM.length z1n) 3 1 (zM.flatMap e3)]) w₀ w₀ [row (.slice z2a zM.length z1n) 3 1 (zM.flatMap e3)]) :
  Calls Tryd.prog 35 #[(.slice z2a zM.length z1n)] w₀ fun e w'=>∃ zci : Option Addr,∃ zcj : Nat,e = .returned (.slice zci r.length zcj) ∧ True ∧ Hp (fps [row (.slice z2a zM.length z1n) 3 1 (zM.flatMap e3)]) w₀ w' [row (.slice zci r.length zcj) 3 1 (r.flatMap e3)]:=by
 unfold y1Y at h
 refine Calls.y9 (vs:=[(.slice z2a zM.length z1n)]) (pre:=[row (.slice z2a zM.length z1n) 3 1 (zM.flatMap e3)]) (env:=[(0,(.slice z2a zM.length z1n))]) Tryd.func35 rfl Tryd.ntmps35 rfl (hown) rfl ?_
 refine WC.b (WC.a (WL.pu rfl (WL.nil (WX.a (WC.b (WC.b (WC.a (WL.pu rfl ?_))))))))
 refine WL.a (d:=7) rfl rfl rfl (y1a Tryd.underlying30 rfl) ?_
 refine WL.pu rfl (WL.nil (WX.a ?_))
 refine WC.cond rfl (fun z8K=>?_) (fun z8K=>?_)
 ·replace h:=ym h z8K
  refine WC.b (WC.a (WL.pu rfl (WL.pu rfl (WL.nil (WX.a (WC.ret (WX.yd ?_)))))))
  obtain rfl:=Option.some.inj h
  refine WX.yg Tryd.results35 (.tmp rfl .nil) (fun w hw=>?_)
  exact ⟨z2a,z1n,yZ rfl,trivial,hw.sub (.cons .here .nil)⟩
 ·replace h:=yn h z8K
  refine WC.skip (WX.a ?_)
  obtain ⟨z3Y,zk1,h⟩:=y3m h
  refine WC.y2Z ((z3Y = some r)) ([(0,(.slice z2a zM.length z1n))]) ([row (.slice z2a zM.length z1n) 3 1 (zM.flatMap e3)]) ?_ ?_
  ·skip
   refine WC.b (WC.a (WL.pu rfl (WL.nil (WX.a (WC.block ?_)))))
   refine WC.y45 (fun (z6A : Nat) (zL : Int)=>(yO zM z3Y z6A zL = some r)) (fun (z6A : Nat) (zL : Int)=>[(0,(.slice z2a zM.length z1n)),(3,(.int .i64 zL))]) (fun (z6A : Nat) (zL : Int)=>[row (.slice z2a zM.length z1n) 3 1 (zM.flatMap e3)]) (fun (z6A : Nat) (zL : Int)=>z6A) ⟨y1M,1⟩ h (.cons rfl (.cons rfl .nil)) (.cons .here .nil) ?_
   rintro z6A zL h
   obtain ⟨z8I,rfl⟩:=y2I h
   rw [yO] at h
   refine WC.b (WC.b (WC.a (WL.pu rfl (WL.pu rfl ?_))))
   refine WL.a (d:=12) rfl rfl rfl (y1a Tryd.underlying30 rfl) ?_
   refine WL.pu rfl (WL.nil (WX.a ?_))
   refine WC.cond rfl (fun z8L=>?_) (fun z8L=>?_)
   ·replace h:=ym h z8L
    refine WC.skip (WX.a ?_)
    obtain ⟨z8J,zk2,h⟩:=y3m h
    refine WC.y2Z ((z8J = some r)) ([(0,(.slice z2a zM.length z1n)),(3,(.int .i64 zL))]) ([row (.slice z2a zM.length z1n) 3 1 (zM.flatMap e3)]) ?_ ?_
    ·skip
     refine WC.block (WC.b ?_)
     obtain ⟨z6V,h⟩:=yb h
     obtain ⟨z7B,h⟩:=yb h
     refine WC.y1h (fun i=>[].contains i) [] rfl ?_
     refine WD.a (i:=0) (d:=16) (by kernel_rfl) rfl z7 z8 rfl rfl rfl (fun _=>q_m rfl) ?_
     refine WD.a (i:=1) (d:=17) (by kernel_rfl) rfl z7 z8 rfl rfl rfl (fun _=>q_m rfl) ?_
     refine WD.know (fun w hw=>Hp.y4x .here hw (by intro hz'; have:=z6V; rw [hz'] at this; omega)) ?_
     rintro ⟨z2B,rfl⟩
     refine WD.a (i:=2) (d:=18) (by kernel_rfl) rfl z7 z8 rfl rfl rfl (fun _=>yB yA rfl rfl z6V.1 z6V.2 y2C) ?_
     refine WD.e (i:=3) (d:=19) (by kernel_rfl) rfl z7 z8 rfl rfl rfl (y6 ye rfl (y2V .here ((y2v (enc:=e3) (l:=zM) (i:=zL) (sz:=1) (fun _=>rfl) z6V.1 z6V.2) 0 _ rfl))) ?_
     refine WD.a (i:=4) (d:=20) (by kernel_rfl) rfl z7 z8 rfl rfl rfl (fun _=>q_m rfl) ?_
     refine WD.a (i:=5) (d:=21) (by kernel_rfl) rfl z7 z8 rfl rfl rfl (fun _=>q_m rfl) ?_
     refine WD.a (i:=6) (d:=22) (by kernel_rfl) rfl z7 z8 rfl rfl rfl (fun _=>q_sub rfl rfl rfl) ?_
     refine WD.a (i:=7) (d:=23) (by kernel_rfl) rfl z7 z8 rfl rfl rfl (fun _=>yB yA rfl rfl z7B.1 z7B.2 y2C) ?_
     refine WD.e (i:=8) (d:=24) (by kernel_rfl) rfl z7 z8 rfl rfl rfl (y6 ye rfl (y2V .here ((y2v (enc:=e3) (l:=zM) (i:=i64 (zL - 1)) (sz:=1) (fun _=>rfl) z7B.1 z7B.2) 0 _ rfl))) ?_
     refine WD.a (i:=9) (d:=25) (by kernel_rfl) rfl z7 z8 rfl rfl rfl (fun _=>q_eql rfl rfl) ?_
     refine WD.done (by kernel_rfl) ?_
     refine WX.a ?_
     refine WC.cond rfl (fun z8M=>?_) (fun z8M=>?_)
     ·replace h:=ym h z8M
      refine WC.b ?_
      obtain ⟨z5i,h⟩:=yb h
      refine WC.a (WL.pu rfl (WL.pu rfl ?_))
      refine WL.y6B (dd:=28) rfl rfl yA rfl rfl .here z5i ?_
      refine WL.pu rfl (WL.nil (WX.a ?_))
      obtain ⟨z3W,zk3,h⟩:=y48 h
      refine WC.y3c (fun (z1I : List Int) (z1J : Int)=>(z3W z1I z1J = some r) ∧ (z1I.length = zM.length)) (fun (z1I : List Int) (z1J : Int)=>[(0,(.slice (some ⟨z2B,0,none⟩) z1I.length z1n)),(3,(.int .i64 z1J))]) (fun (z1I : List Int) (z1J : Int)=>[row (.slice (some ⟨z2B,0,none⟩) z1I.length z1n) 3 1 (z1I.flatMap e3)]) ?_ ?_
      ·skip
       refine WC.b (WC.a (WL.pu rfl (WL.nil (WX.a (WC.block ?_)))))
       refine WC.y5E (fun (z6B : Nat) (zS : List Int) (z1H : Int) (k2_9039 : Int)=>(yN zM zL z3W z6B zS z1H k2_9039 = some r) ∧ (zS.length = zM.length)) (fun (z6B : Nat) (zS : List Int) (z1H : Int) (k2_9039 : Int)=>[(0,(.slice (some ⟨z2B,0,none⟩) zS.length z1n)),(3,(.int .i64 z1H)),(4,(.slice (some ⟨z2B,(zL : Int).toNat * 1,none⟩) (zM.length - (zL : Int).toNat) (z1n - (zL : Int).toNat))),(5,(.int .i64 k2_9039))]) (fun (z6B : Nat) (zS : List Int) (z1H : Int) (k2_9039 : Int)=>[row (.slice (some ⟨z2B,0,none⟩) zS.length z1n) 3 1 (zS.flatMap e3)]) (fun (z6B : Nat) (zS : List Int) (z1H : Int) (k2_9039 : Int)=>z6B) ⟨y1M,zM,zL,1⟩ ⟨h,rfl⟩ (.cons rfl (.cons rfl (.cons rfl (.cons rfl .nil)))) (.cons .here .nil) ?_
       rintro z6B zS z1H k2_9039 ⟨h,z6C⟩
       obtain ⟨z8H,rfl⟩:=y2H h
       rw [yN] at h
       refine WC.b (WC.b (WC.a (WL.pu rfl (WL.pu rfl ?_))))
       refine WL.a (d:=31) rfl rfl rfl (y1a Tryd.underlying30 rfl) ?_
       refine WL.pu rfl (WL.nil (WX.a ?_))
       refine WC.cond rfl (fun z8N=>?_) (fun z8N=>?_)
       ·replace h:=ym h z8N
        refine WC.skip (WX.a ?_)
        obtain ⟨z7A,zk4,h⟩:=y48 h
        refine WC.y3c (fun (z2A : List Int) (z3X : Int)=>(z7A z2A z3X = some r) ∧ (z2A.length = zM.length)) (fun (z2A : List Int) (z3X : Int)=>[(0,(.slice (some ⟨z2B,0,none⟩) z2A.length z1n)),(3,(.int .i64 z3X)),(4,(.slice (some ⟨z2B,(zL : Int).toNat * 1,none⟩) (zM.length - (zL : Int).toNat) (z1n - (zL : Int).toNat))),(5,(.int .i64 k2_9039))]) (fun (z2A : List Int) (z3X : Int)=>[row (.slice (some ⟨z2B,0,none⟩) z2A.length z1n) 3 1 (z2A.flatMap e3)]) ?_ ?_
        ·skip
         refine WC.block (WC.b ?_)
         obtain ⟨z7C,h⟩:=yb h
         obtain ⟨z7D,h⟩:=yb h
         refine WC.y1h (fun i=>[].contains i) [] rfl ?_
         refine WD.a (i:=0) (d:=35) (by kernel_rfl) rfl z7 z8 rfl rfl rfl (fun _=>q_m rfl) ?_
         refine WD.a (i:=1) (d:=36) (by kernel_rfl) rfl z7 z8 rfl rfl rfl (fun _=>q_m rfl) ?_
         have zck : (0 : Int) ≤ zL + k2_9039 ∧ zL + k2_9039 < ((zS.length : Nat) : Int):=by have h1:=z6C; have h2:=z5i; have h3:=z7C; omega
         refine WD.a (i:=2) (d:=37) (by kernel_rfl) rfl z7 z8 rfl rfl rfl (fun _=>yB yA rfl rfl z7C.1 z7C.2 (y4Z z5i.1 z7C.1)) ?_
         refine WD.e (i:=3) (d:=38) (by kernel_rfl) rfl z7 z8 rfl rfl rfl (y6 ye rfl (y2V .here ((y2v (enc:=e3) (l:=zS) (i:=zL + k2_9039) (sz:=1) (fun _=>rfl) zck.1 zck.2) 0 _ rfl))) ?_
         refine WD.a (i:=4) (d:=39) (by kernel_rfl) rfl z7 z8 rfl rfl rfl (fun _=>q_m rfl) ?_
         refine WD.a (i:=5) (d:=40) (by kernel_rfl) rfl z7 z8 rfl rfl rfl (fun _=>q_m rfl) ?_
         refine WD.a (i:=6) (d:=41) (by kernel_rfl) rfl z7 z8 rfl rfl rfl (fun _=>q_sub rfl rfl rfl) ?_
         have zcl : (0 : Int) ≤ zL + (i64 (k2_9039 - 1)) ∧ zL + (i64 (k2_9039 - 1)) < ((zS.length : Nat) : Int):=by have h1:=z6C; have h2:=z5i; have h3:=z7D; omega
         refine WD.a (i:=7) (d:=42) (by kernel_rfl) rfl z7 z8 rfl rfl rfl (fun _=>yB yA rfl rfl z7D.1 z7D.2 (y4Z z5i.1 z7D.1)) ?_
         refine WD.e (i:=8) (d:=43) (by kernel_rfl) rfl z7 z8 rfl rfl rfl (y6 ye rfl (y2V .here ((y2v (enc:=e3) (l:=zS) (i:=zL + (i64 (k2_9039 - 1))) (sz:=1) (fun _=>rfl) zcl.1 zcl.2) 0 _ rfl))) ?_
         refine WD.a (i:=9) (d:=44) (by kernel_rfl) rfl z7 z8 rfl rfl rfl (fun _=>q_neq rfl rfl) ?_
         refine WD.done (by kernel_rfl) ?_
         refine WX.a ?_
         refine WC.cond rfl (fun z8O=>?_) (fun z8O=>?_)
         ·replace h:=ym h z8O
          refine WC.b ?_
          obtain ⟨z7E,h⟩:=yb h
          obtain ⟨z6D,h⟩:=yb h
          refine WC.a (WL.pu rfl (WL.pu rfl (WL.pu rfl (WL.pu rfl ?_))))
          have zcm : (0 : Int) ≤ zL + k2_9039 ∧ zL + k2_9039 < ((zS.length : Nat) : Int):=by have h1:=z6C; have h2:=z5i; have h3:=z7E; omega
          refine WL.a (d:=49) rfl rfl rfl (yB yA rfl rfl z7E.1 z7E.2 (y4Z z5i.1 z7E.1)) ?_
          refine WL.a (d:=50) rfl rfl rfl (y6 ye rfl (y2V .here ((y2v (enc:=e3) (l:=zS) (i:=zL + k2_9039) (sz:=1) (fun _=>rfl) zcm.1 zcm.2) 0 _ rfl))) ?_
          refine WL.a (d:=51) rfl rfl rfl (yB yA rfl rfl z6D.1 z6D.2 y2C) ?_
          refine WL.yk rfl rfl (y44 (vs:=[(.int .i64 (nth zS (zL + k2_9039)))]) (ds:=(zS.set (z1H : Int).toNat (nth zS (zL + k2_9039))).flatMap e3) y33 rfl rfl rfl rfl (y5g rfl y5G) .here (y4Y (enc:=e3) (sz:=1) (k:=0) (fun _=>rfl) z6D.1 z6D.2 (by decide)) (y4X (enc:=e3) (l:=zS) (sz:=1) (vs:=[(.int .i64 (nth zS (zL + k2_9039)))]) (y:=(nth zS (zL + k2_9039))) (k:=0) (fun _=>rfl) z6D.1 z6D.2 rfl (Nat.le_of_ble_eq_true rfl))) ?_
          refine WL.relen .here (u:=(.slice (some ⟨z2B,0,none⟩) ((zS.set (z1H : Int).toNat (nth zS (zL + k2_9039))).length) z1n)) (slen (List.length_set).symm) ?_
          refine WL.repin (i:=0) rfl (u:=(.slice (some ⟨z2B,0,none⟩) ((zS.set (z1H : Int).toNat (nth zS (zL + k2_9039))).length) z1n)) (slen (List.length_set).symm) ?_
          refine WL.nil (WX.a (WC.a (WL.pu rfl (WL.pu rfl (WL.pu rfl (WL.nil (WX.yi ?_)))))))
          exact WX.mid (G:=List Int × Int) ⟨(zS.set (z1H : Int).toNat (nth zS (zL + k2_9039))),(i64 (z1H + 1))⟩ ⟨h,((List.length_set).trans z6C)⟩ (.cons rfl (.cons rfl (.cons rfl (.cons rfl .nil)))) (.cons .here .nil)
         ·replace h:=yn h z8O
          refine WC.skip (WX.yi ?_)
          exact WX.mid (G:=List Int × Int) ⟨zS,z1H⟩ ⟨h,z6C⟩ (.cons rfl (.cons rfl (.cons rfl (.cons rfl .nil)))) (.cons .here .nil)
        ·rintro z2A z3X ⟨h,zk5⟩
         replace h:=(zk4 z2A z3X).symm.trans h
         refine WC.a (WL.pu rfl (WL.pu rfl (WL.pu rfl (WL.nil ?_))))
         exact WX.round (G:=Nat × List Int × Int × Int) ⟨z8H,z2A,z3X,(i64 (k2_9039 + 1))⟩ ⟨h,zk5⟩ (Nat.lt_succ_self _) (.cons rfl (.cons rfl (.cons rfl (.cons rfl .nil)))) (.cons .here .nil)
       ·replace h:=yn h z8N
        refine WC.exit (WX.yu (WX.yu (WX.y1b ?_)))
        exact WX.mid (G:=List Int × Int) ⟨zS,z1H⟩ ⟨h,z6C⟩ (.cons rfl (.cons rfl .nil)) (.cons .here .nil)
      ·rintro z1I z1J ⟨h,zmI⟩
       replace h:=(zk3 z1I z1J).symm.trans h
       refine WC.b ?_
       obtain ⟨z7F,h⟩:=yb h
       refine WC.a (WL.pu rfl (WL.pu rfl ?_))
       refine WL.y6x (dd:=56) rfl rfl yA rfl rfl .here z7F ?_
       intro zmJ zmK zk6
       refine WL.yk rfl rfl (y5H (enc:=e3) (z0:=(0 : Int)) (l:=z1I) yA y4L rfl zk6 z7F (fun _=>rfl) (by decide) rfl y59 .here) ?_
       refine WL.relen .here (u:=(.slice (some ⟨z2B,0,none⟩) ((z1I.take (z1J : Int).toNat ++ List.replicate (z1I.length - (z1J : Int).toNat) (0 : Int)).length) z1n)) (slen (y4A z7F).symm) ?_
       refine WL.repin (i:=0) rfl (u:=(.slice (some ⟨z2B,0,none⟩) ((z1I.take (z1J : Int).toNat ++ List.replicate (z1I.length - (z1J : Int).toNat) (0 : Int)).length) z1n)) (slen (y4A z7F).symm) ?_
       refine WL.nil (WX.a (WC.b ?_))
       obtain ⟨zk7,h⟩:=yb h
       refine WC.a (WL.pu rfl (WL.pu rfl ?_))
       refine WL.y6w (dd:=59) (enc:=e3) (ls:=z1I.take (z1J : Int).toNat ++ List.replicate (z1I.length - (z1J : Int).toNat) (0 : Int)) rfl rfl yA rfl rfl .here (fun _=>rfl) zk7 ?_
       intro zk8 zk9
       refine WL.pu rfl (WL.nil (WX.a (WC.ret (WX.yK (WX.yd (WX.yd (WX.yK (WX.yd ?_))))))))
       obtain rfl:=Option.some.inj h
       refine WX.yg Tryd.results35 (.tmp rfl .nil) (fun w hw=>?_)
       exact ⟨zk8,zk9,yZ rfl,trivial,hw.sub (.cons .here .nil)⟩
     ·replace h:=yn h z8M
      refine WC.skip (WX.yi ?_)
      exact WX.mid (G:=Unit) () h (.cons rfl (.cons rfl .nil)) (.cons .here .nil)
    ·rintro  h
     replace h:=zk2.symm.trans h
     refine WC.a (WL.pu rfl (WL.pu rfl (WL.pu rfl (WL.nil ?_))))
     exact WX.round (G:=Nat × Int) ⟨z8I,(i64 (zL + 1))⟩ h (Nat.lt_succ_self _) (.cons rfl (.cons rfl .nil)) (.cons .here .nil)
   ·replace h:=yn h z8L
    refine WC.exit (WX.yu (WX.yu (WX.y1b ?_)))
    exact WX.mid (G:=Unit) () h (.cons rfl .nil) (.cons .here .nil)
  ·rintro  h
   replace h:=zk1.symm.trans h
   refine WC.b (WC.a (WL.pu rfl (WL.pu rfl (WL.nil (WX.a (WC.ret ?_))))))
   obtain rfl:=Option.some.inj h
   refine WX.yg Tryd.results35 (.tmp rfl .nil) (fun w hw=>?_)
   exact ⟨z2a,z1n,yZ rfl,trivial,hw.sub (.cons .here .nil)⟩
def y2B (z5j : List Sapi_Ins) (z1K : Int) : Option (List Int) :=
 (y2P z5j z1K).bind fun z1k=>if !z1k.2 then some ([] : List Int) else jp1 (fun (z2O : List Int)=>(y4o z2O).bind fun z7G=>(y1Y z7G).bind fun zcn=>some zcn) fun z6W=>jp1 (fun (z4Q : Bool)=>if z4Q then some ([] : List Int) else if decide (z1k.1.fOp = 20) then some ([z1k.1.fA] : List Int) else if decide (z1k.1.fOp = 21) then chk ((((([i64 (z1K + 1)] : List Int) ++ ([z1k.1.fB] : List Int)).length : Nat) : Int) * 8 ≤ 140737488355328 ∧ (((([i64 (z1K + 1)] : List Int) ++ ([z1k.1.fB] : List Int)).length : Nat) : Int) ≤ 4611686018427387904) (z6W (([i64 (z1K + 1)] : List Int) ++ ([z1k.1.fB] : List Int))) else if decide (z1k.1.fOp = 22) then chk ((((([i64 (z1K + 1)] : List Int) ++ ([z1k.1.fC] : List Int)).length : Nat) : Int) * 8 ≤ 140737488355328 ∧ (((([i64 (z1K + 1)] : List Int) ++ ([z1k.1.fC] : List Int)).length : Nat) : Int) ≤ 4611686018427387904) (z6W (([i64 (z1K + 1)] : List Int) ++ ([z1k.1.fC] : List Int))) else z6W ([i64 (z1K + 1)] : List Int)) fun z7H=>if decide (z1k.1.fOp = 19) then z7H (decide (z1k.1.fOp = 19)) else z7H (decide (z1k.1.fOp = 25))
set_option maxRecDepth 20000 in
theorem y4P (Z : Zp) (z7I : Option Addr) (z7J : Nat) (z5j : List Sapi_Ins) (z1K : Int) (r : List Int)
  (h : y2B z5j z1K = some r) (w₀ : World) (hz : PZ [] w₀ Z)
  (hG1 : ZS Z 1 (p74 Z) (some ⟨1,0,none⟩) 26 yX)
  (zka : ZS Z 4 (fun r x=>r = e33 x) z7I z7J z5j) :
  Calls Tryd.prog 15 #[(.slice z7I z5j.length z7J),(.int .i64 z1K)] w₀ fun e w'=>∃ zco : Option Addr,∃ zcp : Nat,e = .returned (.slice zco r.length zcp) ∧ True ∧ Hp [] w₀ w' [row (.slice zco r.length zcp) 3 1 (r.flatMap e3)]:=by
 unfold y2B at h
 refine Calls.y9 (vs:=[(.slice z7I z5j.length z7J),(.int .i64 z1K)]) (pre:=[]) (env:=[(0,(.slice z7I z5j.length z7J)),(1,(.int .i64 z1K))]) Tryd.func15 rfl Tryd.ntmps15 rfl (Hp.nil w₀ _) rfl ?_
 refine WC.b (WC.a (WL.pu rfl (WL.nil (WX.a (WC.b ?_)))))
 obtain ⟨z1k,zkb,h⟩:=zi h
 refine WC.a (WL.pu rfl (WL.pu rfl ?_))
 refine WL.b (dd:=11) rfl rfl rfl (zK (l:=[.tmp 9,.tmp 10]) Tryd.call33 (.cons rfl (.cons rfl .nil))) .nil (cc hz .nil fun w pz ho=>y5s _ _ _ _ _ _ zkb w pz hG1 zka) ?_
 refine WL.pu rfl (WL.pu rfl (WL.pu rfl ?_))
 refine WL.new (dd:=5) rfl rfl rfl (yv (cs:=[(.int .u8 0),(.int .i64 0),(.int .i64 0),(.int .i64 0)]) y4a rfl) ?_
 intro zcq _
 refine WL.yk rfl rfl (ys y3K rfl rfl rfl .here rfl rfl rfl) ?_
 refine WL.pu rfl (WL.nil (WX.a (WC.b (WC.b (WC.a (WL.pu rfl (WL.pu rfl (WL.nil (WX.a ?_)))))))))
 refine WC.cond rfl (fun z8P=>?_) (fun z8P=>?_)
 ·replace h:=ym h z8P
  refine WC.b (WC.a (WL.pu rfl (WL.nil (WX.a (WC.ret (WX.yd ?_))))))
  refine WX.nilRow 3 1 ?_
  obtain rfl:=Option.some.inj h
  refine WX.yg Tryd.results15 (.tmp rfl .nil) (fun w hw=>?_)
  exact ⟨none,0,yZ rfl,trivial,hw.sub (.cons .here .nil)⟩
 ·replace h:=yn h z8P
  refine WC.skip (WX.a (WC.b (WC.a (WL.pu rfl (WL.pu rfl ?_)))))
  refine WL.new (dd:=18) rfl rfl rfl (yp (cs:=([i64 (z1K + 1)] : List Int).flatMap e3) yA (Eos.parts (l:=[.tmp 17]) (.cons rfl .nil) [0]) (fun _=>by kernel_rfl) rfl (by unfold maxLen; omega)) ?_
  intro z8Q _
  refine WL.pu rfl (WL.nil (WX.a ?_))
  obtain ⟨z6W,zkc,h⟩:=y2p h
  refine WC.y6h (fun (z2O : List Int) (z5k : Option Addr) (z5l : Nat)=>(z6W z2O = some r)) (fun (z2O : List Int) (z5k : Option Addr) (z5l : Nat)=>[(7,(.slice z5k z2O.length z5l))]) (fun (z2O : List Int) (z5k : Option Addr) (z5l : Nat)=>[row (.slice z5k z2O.length z5l) 3 1 (z2O.flatMap e3)]) ?_ ?_
  ·skip
   refine WC.b (WC.a ?_)
   refine WL.a (d:=19) rfl rfl rfl (y4 y36 rfl rfl) ?_
   refine WL.a (d:=20) rfl rfl rfl (y6 yx rfl (ya .h1 rfl)) ?_
   refine WL.nil (WX.a (WC.block ?_))
   obtain ⟨z7H,zkd,h⟩:=y2p h
   refine WC.y2d (fun (z4Q : Bool)=>(z7H z4Q = some r)) (fun (z4Q : Bool)=>[(5,(.pointer (some ⟨zcq,0,none⟩))),(7,(.slice (some ⟨z8Q,0,none⟩) (([i64 (z1K + 1)] : List Int).length) 1)),(20,(.int .u8 z1k.1.fOp)),(21,(.bool z4Q))]) (fun (z4Q : Bool)=>[row (.slice (some ⟨z8Q,0,none⟩) (([i64 (z1K + 1)] : List Int).length) 1) 3 1 (([i64 (z1K + 1)] : List Int).flatMap e3),stb zcq 33 [(.int .u8 z1k.1.fOp),(.int .i64 z1k.1.fA),(.int .i64 z1k.1.fB),(.int .i64 z1k.1.fC)]]) ?_ ?_
   ·skip
    refine WC.b (WC.a (WL.pu rfl (WL.pu rfl (WL.nil (WX.a ?_)))))
    refine WC.cond rfl (fun z8R=>?_) (fun z8R=>?_)
    ·replace h:=ym h z8R
     refine WC.skip ?_
     exact WX.mid (G:=Bool) (decide (z1k.1.fOp = 19)) h (.cons rfl (.cons rfl (.cons rfl (.cons rfl .nil)))) (.cons .here (.cons .here .nil))
    ·replace h:=yn h z8R
     refine WC.a (WL.pu rfl (WL.pu rfl (WL.nil ?_)))
     exact WX.mid (G:=Bool) (decide (z1k.1.fOp = 25)) h (.cons rfl (.cons rfl (.cons rfl (.cons rfl .nil)))) (.cons .here (.cons .here .nil))
   ·rintro z4Q h
    replace h:=(zkd z4Q).symm.trans h
    refine WC.cond rfl (fun z8S=>?_) (fun z8S=>?_)
    ·replace h:=ym h z8S
     refine WC.b (WC.a (WL.pu rfl (WL.nil (WX.a (WC.ret (WX.yK (WX.yd ?_)))))))
     refine WX.nilRow 3 1 ?_
     obtain rfl:=Option.some.inj h
     refine WX.yg Tryd.results15 (.tmp rfl .nil) (fun w hw=>?_)
     exact ⟨none,0,yZ rfl,trivial,hw.sub (.cons .here .nil)⟩
    ·replace h:=yn h z8S
     refine WC.b (WC.a (WL.pu rfl (WL.pu rfl (WL.nil (WX.a ?_)))))
     refine WC.cond rfl (fun z8T=>?_) (fun z8T=>?_)
     ·replace h:=ym h z8T
      refine WC.b (WC.a ?_)
      refine WL.a (d:=26) rfl rfl rfl (y4 y1q rfl rfl) ?_
      refine WL.a (d:=27) rfl rfl rfl (y6 ye rfl (ya .h1 rfl)) ?_
      refine WL.new (dd:=28) rfl rfl rfl (yp (cs:=([z1k.1.fA] : List Int).flatMap e3) yA (Eos.parts (l:=[.tmp 27]) (.cons rfl .nil) [0]) (fun _=>by kernel_rfl) rfl (by unfold maxLen; omega)) ?_
      intro zke _
      refine WL.pu rfl (WL.nil (WX.a (WC.ret (WX.yK (WX.yd ?_)))))
      obtain rfl:=Option.some.inj h
      refine WX.yg Tryd.results15 (.tmp rfl .nil) (fun w hw=>?_)
      exact ⟨(some ⟨zke,0,none⟩),1,yZ rfl,trivial,hw.sub (.cons .here .nil)⟩
     ·replace h:=yn h z8T
      refine WC.b (WC.a (WL.pu rfl (WL.pu rfl (WL.nil (WX.a ?_)))))
      refine WC.cond rfl (fun z8U=>?_) (fun z8U=>?_)
      ·replace h:=ym h z8U
       obtain ⟨zkf,h⟩:=yb h
       refine WC.a (WL.pu rfl ?_)
       refine WL.a (d:=32) rfl rfl rfl (y4 y22 rfl rfl) ?_
       refine WL.a (d:=33) rfl rfl rfl (y6 ye rfl (ya .h1 rfl)) ?_
       refine WL.new (dd:=34) rfl rfl rfl (yp (cs:=([z1k.1.fB] : List Int).flatMap e3) yA (Eos.parts (l:=[.tmp 33]) (.cons rfl .nil) [0]) (fun _=>by kernel_rfl) rfl (by unfold maxLen; omega)) ?_
       intro zmL _
       refine WL.eff (d:=35) rfl rfl rfl (y3y (enc:=e3) (l1:=([i64 (z1K + 1)] : List Int)) (l2:=([z1k.1.fB] : List Int)) yA rfl rfl .h1 (fun _=>rfl) rfl rfl (y4V .here) (y3J y59 _) zkf) ?_
       rintro ⟨zkg,zkh⟩ _
       refine WL.pu rfl (WL.nil (WX.yi ?_))
       exact WX.mid (G:=List Int × Option Addr × Nat) ⟨(([i64 (z1K + 1)] : List Int) ++ ([z1k.1.fB] : List Int)),zkg,zkh⟩ h (.cons rfl .nil) (.cons .here .nil)
      ·replace h:=yn h z8U
       refine WC.b (WC.a (WL.pu rfl (WL.pu rfl (WL.nil (WX.a ?_)))))
       refine WC.cond rfl (fun z8V=>?_) (fun z8V=>?_)
       ·replace h:=ym h z8V
        obtain ⟨zki,h⟩:=yb h
        refine WC.a (WL.pu rfl ?_)
        refine WL.a (d:=39) rfl rfl rfl (y4 y3M rfl rfl) ?_
        refine WL.a (d:=40) rfl rfl rfl (y6 ye rfl (ya .h1 rfl)) ?_
        refine WL.new (dd:=41) rfl rfl rfl (yp (cs:=([z1k.1.fC] : List Int).flatMap e3) yA (Eos.parts (l:=[.tmp 40]) (.cons rfl .nil) [0]) (fun _=>by kernel_rfl) rfl (by unfold maxLen; omega)) ?_
        intro zmM _
        refine WL.eff (d:=42) rfl rfl rfl (y3y (enc:=e3) (l1:=([i64 (z1K + 1)] : List Int)) (l2:=([z1k.1.fC] : List Int)) yA rfl rfl .h1 (fun _=>rfl) rfl rfl (y4V .here) (y3J y59 _) zki) ?_
        rintro ⟨zkj,zkk⟩ _
        refine WL.pu rfl (WL.nil (WX.yi ?_))
        exact WX.mid (G:=List Int × Option Addr × Nat) ⟨(([i64 (z1K + 1)] : List Int) ++ ([z1k.1.fC] : List Int)),zkj,zkk⟩ h (.cons rfl .nil) (.cons .here .nil)
       ·replace h:=yn h z8V
        refine WC.skip (WX.yi ?_)
        exact WX.mid (G:=List Int × Option Addr × Nat) ⟨([i64 (z1K + 1)] : List Int),(some ⟨z8Q,0,none⟩),1⟩ h (.cons rfl .nil) (.cons .here .nil)
  ·rintro z2O z5k z5l h
   replace h:=(zkc z2O).symm.trans h
   refine WC.b ?_
   obtain ⟨z7G,zkl,h⟩:=zi h
   refine WC.a (WL.pu rfl ?_)
   refine WL.y6r (dd:=44) rfl rfl rfl (zK (l:=[.tmp 43]) Tryd.call34 (.cons rfl .nil)) (.cons .here .nil) (cc hz (.cons .here .nil) fun w pz ho=>y5y (Z:=_) (ao:=z5k) (cap:=z5l) (l:=z2O) (r:=z7G) w pz  zkl ho) ?_
   rintro  zkm
   refine WL.repin (i:=7) rfl (u:=(.slice z5k z7G.length z5l)) (slen zkm.symm) ?_
   refine WL.nil (WX.a (WC.b ?_))
   obtain ⟨zcn,zkn,h⟩:=zi h
   refine WC.a (WL.pu rfl ?_)
   refine WL.y5n (dd:=46) rfl rfl rfl (zK (l:=[.tmp 45]) Tryd.call35 (.cons rfl .nil)) (.cons .here .nil) (cc hz (.cons .here .nil) fun w pz ho=>y3r _ _ _ _ _ zkn w pz  ho) ?_
   rintro zko zkp _
   refine WL.pu rfl (WL.nil (WX.a (WC.ret ?_)))
   obtain rfl:=Option.some.inj h
   refine WX.yg Tryd.results15 (.tmp rfl .nil) (fun w hw=>?_)
   exact ⟨zko,zkp,yZ rfl,trivial,hw.sub (.cons .here .nil)⟩
def y1l (z1Y : List Int) (z7K : Int → (List (Int × Int)) → (List Sapi_Ins) → Option (Bool × (List (Int × Int)))) (z1j : List Sapi_Ins) (z3Z : Int → (List (Int × Int)) → Option (Bool × (List (Int × Int)))) : Nat → Int → Int → (List (Int × Int)) → Option (Bool × (List (Int × Int)))
 | 0,_,_,_=>none
 | z8W + 1,z2p,z1O,z2q=>if decide (z1O < ((z1Y.length : Nat) : Int)) then chk ((0 : Int) ≤ z1O ∧ z1O < ((z1Y.length : Nat) : Int)) ((z7K (nth z1Y z1O) z2q z1j).bind fun z4R=>if !z4R.1 then some (false,z4R.2) else y1l z1Y z7K z1j z3Z z8W (max z2p (y30 z4R.2 (nth z1Y z1O) 0)) (i64 (z1O + 1)) z4R.2) else z3Z z2p z2q
theorem y3s {n : Nat} {z1Y : List Int} {z7K : Int → (List (Int × Int)) → (List Sapi_Ins) → Option (Bool × (List (Int × Int)))} {z1j : List Sapi_Ins} {z3Z : Int → (List (Int × Int)) → Option (Bool × (List (Int × Int)))} {z2p : Int} {z1O : Int} {z2q : List (Int × Int)} {r : Bool × (List (Int × Int))} (h : y1l z1Y z7K z1j z3Z n z2p z1O z2q = some r) : ∃ m,n = m + 1:=by
 cases n with
 | zero=>cases h
 | succ m=>exact ⟨m,rfl⟩
def y1f : Nat → Int → (List (Int × Int)) → (List Sapi_Ins) → Option (Bool × (List (Int × Int)))
 | 0,_,_,_=>none
 | z8X + 1,zR,z1u,z1j=>if mhas z1u zR then some ((decide ((y30 z1u zR 0) ≠ (-1))),z1u) else jp2 (fun (z2g : Int) (z2P : List (Int × Int))=>jp1 (fun (z4S : List (Int × Int))=>some (true,z4S)) fun z7L=>chk ((0 : Int) ≤ zR ∧ zR < ((z1j.length : Nat) : Int)) (if decide (((nth z1j zR).fOp) = 1) then chk ((0 : Int) ≤ zR ∧ zR < ((z1j.length : Nat) : Int)) (z7L (y1N (y1N z2P zR (i64 (z2g + 1))) zR (i64 (z2g + ((nth z1j zR).fA))))) else z7L (y1N z2P zR (i64 (z2g + 1))))) fun z3Z=>(y2B z1j zR).bind fun z1Y=>y1l z1Y (y1f z8X) z1j z3Z y1M 0 0 (y1N z1u zR (-1))
def y3t (zR : Int) (z1u : List (Int × Int)) (z1j : List Sapi_Ins) : Option (Bool × (List (Int × Int))):=y1f y1M zR z1u z1j
set_option maxRecDepth 20000 in
theorem y4j : ∀ (n : Nat) (Z : Zp) (z23 : Addr) (z1z : Nat) (z24 : Addr) (z2Q : Option Addr) (z2R : Nat) (z2b : Addr) (zR : Int) (z1u : List (Int × Int)) (z1j : List Sapi_Ins) (r : Bool × (List (Int × Int))) (w₀ : World) (hz : PZ (fps [y18 z1z (Value.int .i64) (Value.int .i64) z1u]) w₀ Z)
  (hG1 : ZS Z 1 (p74 Z) (some ⟨1,0,none⟩) 26 yX)
  (z36 : ZC Z z23 [(.map (some z1z))])
  (z4T : ZS Z 4 (fun r x=>r = e33 x) z2Q z2R z1j)
  (z4U : ZC Z z24 [(.slice z2Q z1j.length z2R)])
  (z6E : ZC Z z2b [(.func (.func 29) #[] #[(.pointer (some z23)),(.pointer (some z24)),(.pointer (some z2b))])]) (h : y1f n zR z1u z1j = some r)
  (hown : Hp (fps [y18 z1z (Value.int .i64) (Value.int .i64) z1u]) w₀ w₀ [y18 z1z (Value.int .i64) (Value.int .i64) z1u]),Calls Tryd.prog 29 #[(.int .i64 zR),(.pointer (some z23)),(.pointer (some z24)),(.pointer (some z2b))] w₀ fun e w'=>e = .returned (.bool r.1) ∧ Hp (fps [y18 z1z (Value.int .i64) (Value.int .i64) z1u]) w₀ w' [y18 z1z (Value.int .i64) (Value.int .i64) r.2]:=by
 intro n
 induction n with
 | zero=>intro Z z23 z1z z24 z2Q z2R z2b zR z1u z1j r w₀ hz hG1 z36 z4T z4U z6E h hown; cases h
 | succ z8X ih =>
  intro Z z23 z1z z24 z2Q z2R z2b zR z1u z1j r w₀ hz hG1 z36 z4T z4U z6E h hown
  rw [y1f] at h
  refine Calls.y9 (vs:=[(.int .i64 zR),(.pointer (some z23)),(.pointer (some z24)),(.pointer (some z2b))]) (pre:=[y18 z1z (Value.int .i64) (Value.int .i64) z1u]) (env:=[(0,(.int .i64 zR)),(1,(.pointer (some z23))),(2,(.pointer (some z24))),(3,(.pointer (some z2b)))]) Tryd.func29 rfl Tryd.ntmps29 rfl (hown) rfl ?_
  refine WC.b (WC.a (WL.pu rfl (WL.nil (WX.a (WC.b (WC.b (WC.a ?_)))))))
  refine WL.a (d:=12) rfl rfl rfl (y6 y3i rfl (y2z hz.pv z36 rfl)) ?_
  refine WL.pu rfl ?_
  refine WL.a (d:=14) rfl rfl rfl (y6A (k:=zR) (dflt:=(0 : Int)) y3p Tryd.underlying54 y4L rfl rfl rfl .here) ?_
  refine WL.pu rfl (WL.pu rfl (WL.pu rfl (WL.pu rfl (WL.pu rfl (WL.nil (WX.a (WC.b (WC.a (WL.pu rfl (WL.nil (WX.a ?_)))))))))))
  refine WC.cond rfl (fun z8Y=>?_) (fun z8Y=>?_)
  ·replace h:=ym h z8Y
   refine WC.b (WC.a (WL.pu rfl (WL.pu rfl (WL.pu rfl (WL.nil (WX.a (WC.ret (WX.yd ?_))))))))
   obtain rfl:=Option.some.inj h
   refine WX.yg Tryd.results29 (.tmp rfl .nil) (fun w hw=>?_)
   exact ⟨yZ rfl,hw.sub (.cons .here .nil)⟩
  ·replace h:=yn h z8Y
   refine WC.skip (WX.a (WC.b (WC.a ?_)))
   refine WL.a (d:=20) rfl rfl rfl (y6 y3i rfl (y2z hz.pv z36 rfl)) ?_
   refine WL.pu rfl ?_
   refine WL.yk rfl rfl (y3A (k:=zR) (v:=(-1)) y3p Tryd.underlying54 rfl rfl rfl rfl .here) ?_
   refine WL.nil (WX.a (WC.b (WC.a (WL.pu rfl (WL.nil (WX.a ?_))))))
   obtain ⟨z3Z,zkq,h⟩:=y48 h
   refine WC.y3c (fun (z2g : Int) (z2P : List (Int × Int))=>(z3Z z2g z2P = some r)) (fun (z2g : Int) (z2P : List (Int × Int))=>[(0,(.int .i64 zR)),(1,(.pointer (some z23))),(2,(.pointer (some z24))),(8,(.int .i64 z2g))]) (fun (z2g : Int) (z2P : List (Int × Int))=>[y18 z1z (Value.int .i64) (Value.int .i64) z2P]) ?_ ?_
   ·skip
    refine WC.b ?_
    obtain ⟨z1Y,zkr,h⟩:=zi h
    refine WC.a ?_
    refine WL.a (d:=22) rfl rfl rfl (y6 y2O rfl (y2z hz.pv z4U rfl)) ?_
    refine WL.pu rfl ?_
    refine WL.y5n (dd:=24) rfl rfl rfl (zK (l:=[.tmp 22,.tmp 23]) Tryd.call15 (.cons rfl (.cons rfl .nil))) .nil (cc hz .nil fun w pz ho=>y4P _ _ _ _ _ _ zkr w pz hG1 z4T) ?_
    rintro zcr zcs _
    refine WL.a (d:=25) rfl rfl rfl (y1a Tryd.underlying30 rfl) ?_
    refine WL.pu rfl (WL.nil (WX.a (WC.block ?_)))
    refine WC.y5E (fun (z6F : Nat) (z2p : Int) (z1O : Int) (z2q : List (Int × Int))=>(y1l z1Y (y1f z8X) z1j z3Z z6F z2p z1O z2q = some r)) (fun (z6F : Nat) (z2p : Int) (z1O : Int) (z2q : List (Int × Int))=>[(0,(.int .i64 zR)),(1,(.pointer (some z23))),(2,(.pointer (some z24))),(3,(.pointer (some z2b))),(8,(.int .i64 z2p)),(24,(.slice zcr z1Y.length zcs)),(25,(.int .i64 ((z1Y.length : Nat) : Int))),(26,(.int .i64 z1O))]) (fun (z6F : Nat) (z2p : Int) (z1O : Int) (z2q : List (Int × Int))=>[row (.slice zcr z1Y.length zcs) 3 1 (z1Y.flatMap e3),y18 z1z (Value.int .i64) (Value.int .i64) z2q]) (fun (z6F : Nat) (z2p : Int) (z1O : Int) (z2q : List (Int × Int))=>z6F) ⟨y1M,0,0,(y1N z1u zR (-1))⟩ h (.cons rfl (.cons rfl (.cons rfl (.cons rfl (.cons rfl (.cons rfl (.cons rfl (.cons rfl .nil)))))))) (.cons .here (.cons .here .nil)) ?_
    rintro z6F z2p z1O z2q h
    obtain ⟨z8W,rfl⟩:=y3s h
    rw [y1l] at h
    refine WC.b (WC.a (WL.pu rfl (WL.nil (WX.a (WC.b ?_)))))
    refine WC.cond rfl (fun z8Z=>?_) (fun z8Z=>?_)
    ·replace h:=ym h z8Z
     refine WC.skip (WX.a (WC.b (WC.block (WC.b ?_))))
     obtain ⟨z6X,h⟩:=yb h
     refine WC.a ?_
     refine WL.know (fun w hw=>Hp.y4x .here hw (by intro hz'; have:=z6X; rw [hz'] at this; omega)) ?_
     rintro ⟨zmN,rfl⟩
     refine WL.a (d:=28) rfl rfl rfl (yB yA rfl rfl z6X.1 z6X.2 y2C) ?_
     refine WL.a (d:=29) rfl rfl rfl (y6 ye rfl (y2V .here ((y2v (enc:=e3) (l:=z1Y) (i:=z1O) (sz:=1) (fun _=>rfl) z6X.1 z6X.2) 0 _ rfl))) ?_
     refine WL.pu rfl (WL.nil (WX.a (WC.b (WC.b ?_))))
     obtain ⟨z4R,zks,h⟩:=zi h
     refine WC.a ?_
     refine WL.a (d:=30) rfl rfl rfl (y6 y6a rfl (y2z hz.pv z6E rfl)) ?_
     refine WL.pu rfl ?_
     refine WL.b (dd:=32) rfl rfl rfl (yq (l:=[.tmp 31]) Tryd.call29 rfl (.cons rfl .nil)) (.cons .h1 .nil) (cc hz (.cons .h1 .nil) fun w pz ho=>ih (Z:=_) (z23:=z23) (z1z:=z1z) (z24:=z24) (z2Q:=z2Q) (z2R:=z2R) (z2b:=z2b) (zR:=(nth z1Y z1O)) (z1u:=z2q) (z1j:=z1j) (r:=z4R) w pz hG1 z36 z4T z4U z6E zks ho) ?_
     refine WL.pu rfl (WL.nil (WX.a ?_))
     refine WC.cond rfl (fun z90=>?_) (fun z90=>?_)
     ·replace h:=ym h z90
      refine WC.b (WC.a (WL.pu rfl (WL.nil (WX.a (WC.ret (WX.yd (WX.yK (WX.yd (WX.yd (WX.yK (WX.yd ?_)))))))))))
      obtain rfl:=Option.some.inj h
      refine WX.yg Tryd.results29 (.tmp rfl .nil) (fun w hw=>?_)
      exact ⟨yZ rfl,hw.sub (.cons .here .nil)⟩
     ·replace h:=yn h z90
      refine WC.skip (WX.a (WC.a (WL.pu rfl ?_)))
      refine WL.a (d:=35) rfl rfl rfl (y6 y3i rfl (y2z hz.pv z36 rfl)) ?_
      refine WL.pu rfl ?_
      refine WL.a (d:=37) rfl rfl rfl (y5L (k:=(nth z1Y z1O)) (dflt:=(0 : Int)) y3p Tryd.underlying54 y4L rfl rfl rfl .here) ?_
      refine WL.a (d:=38) rfl rfl rfl (q_max rfl rfl rfl) ?_
      refine WL.pu rfl (WL.nil (WX.yi (WX.a (WC.a (WL.pu rfl (WL.pu rfl (WL.nil ?_)))))))
      exact WX.round (G:=Nat × Int × Int × (List (Int × Int))) ⟨z8W,(max z2p (y30 z4R.2 (nth z1Y z1O) 0)),(i64 (z1O + 1)),z4R.2⟩ h (Nat.lt_succ_self _) (.cons rfl (.cons rfl (.cons rfl (.cons rfl (.cons rfl (.cons rfl (.cons rfl (.cons rfl .nil)))))))) (.cons .h1 (.cons .here .nil))
    ·replace h:=yn h z8Z
     refine WC.exit (WX.yu (WX.yu (WX.y1b ?_)))
     exact WX.mid (G:=Int × (List (Int × Int))) ⟨z2p,z2q⟩ h (.cons rfl (.cons rfl (.cons rfl (.cons rfl .nil)))) (.cons .h1 .nil)
   ·rintro z2g z2P h
    replace h:=(zkq z2g z2P).symm.trans h
    refine WC.b (WC.a ?_)
    refine WL.a (d:=40) rfl rfl rfl (y6 y3i rfl (y2z hz.pv z36 rfl)) ?_
    refine WL.pu rfl (WL.pu rfl (WL.pu rfl ?_))
    refine WL.yk rfl rfl (y3A (k:=zR) (v:=i64 (z2g + 1)) y3p Tryd.underlying54 rfl rfl rfl rfl .here) ?_
    refine WL.nil (WX.a ?_)
    obtain ⟨z7L,zkt,h⟩:=y2p h
    refine WC.y2d (fun (z4S : List (Int × Int))=>(z7L z4S = some r)) (fun (z4S : List (Int × Int))=>[]) (fun (z4S : List (Int × Int))=>[y18 z1z (Value.int .i64) (Value.int .i64) z4S]) ?_ ?_
    ·skip
     refine WC.b ?_
     obtain ⟨zku,h⟩:=yb h
     refine WC.a ?_
     refine WL.a (d:=44) rfl rfl rfl (y6 y2O rfl (y2z hz.pv z4U rfl)) ?_
     refine WL.pu rfl ?_
     refine WL.znth (dd:=46) rfl rfl (Z:=Z) (Pr:=(fun r x=>r = e33 x)) y2E rfl rfl z4T zku ?_
     rintro zmO zmP zkv zmQ rfl
     refine WL.a (d:=47) rfl rfl rfl (y4 y36 rfl rfl) ?_
     refine WL.a (d:=48) rfl rfl rfl (y6 yx rfl (y55 hz.pv zkv rfl)) ?_
     refine WL.pu rfl (WL.nil (WX.a ?_))
     refine WC.cond rfl (fun z91=>?_) (fun z91=>?_)
     ·replace h:=ym h z91
      obtain ⟨zkw,h⟩:=yb h
      refine WC.y1h (fun i=>[9].contains i) [] rfl ?_
      refine WD.e (i:=0) (d:=50) (by kernel_rfl) rfl z7 z8 rfl rfl rfl (y6 y3i rfl (y2z hz.pv z36 rfl)) ?_
      refine WD.a (i:=1) (d:=51) (by kernel_rfl) rfl z7 z8 rfl rfl rfl (fun _=>q_m rfl) ?_
      refine WD.a (i:=2) (d:=52) (by kernel_rfl) rfl z7 z8 rfl rfl rfl (fun _=>q_m rfl) ?_
      refine WD.e (i:=3) (d:=53) (by kernel_rfl) rfl z7 z8 rfl rfl rfl (y6 y2O rfl (y2z hz.pv z4U rfl)) ?_
      refine WD.a (i:=4) (d:=54) (by kernel_rfl) rfl z7 z8 rfl rfl rfl (fun _=>q_m rfl) ?_
      refine WD.znth (j:=5) (dd:=55) (by kernel_rfl) rfl z7 z8 rfl rfl (Z:=Z) (Pr:=(fun r x=>r = e33 x)) y2E rfl rfl z4T zkw ?_
      rintro zmR zmS zkx zmT rfl
      refine WD.a (i:=6) (d:=56) (by kernel_rfl) rfl z7 z8 rfl rfl rfl (fun _=>y4 y1q rfl rfl) ?_
      refine WD.e (i:=7) (d:=57) (by kernel_rfl) rfl z7 z8 rfl rfl rfl (y6 ye rfl (y55 hz.pv zkx rfl)) ?_
      refine WD.a (i:=8) (d:=58) (by kernel_rfl) rfl z7 z8 rfl rfl rfl (fun _=>q_add rfl rfl rfl) ?_
      refine WD.y2n (i:=9) rfl (by kernel_rfl) rfl rfl rfl (by kernel_rfl) (y3A (k:=zR) (v:=i64 (z2g + ((nth z1j zR).fA))) y3p Tryd.underlying54 rfl rfl rfl rfl .here) ?_
      refine WD.done (by kernel_rfl) ?_
      exact WX.mid (G:=(List (Int × Int))) (y1N (y1N z2P zR (i64 (z2g + 1))) zR (i64 (z2g + ((nth z1j zR).fA)))) h .nil (.cons .here .nil)
     ·replace h:=yn h z91
      refine WC.skip ?_
      exact WX.mid (G:=(List (Int × Int))) (y1N z2P zR (i64 (z2g + 1))) h .nil (.cons .here .nil)
    ·rintro z4S h
     replace h:=(zkt z4S).symm.trans h
     refine WC.b (WC.a (WL.pu rfl (WL.nil (WX.a (WC.ret ?_)))))
     obtain rfl:=Option.some.inj h
     refine WX.yg Tryd.results29 (.tmp rfl .nil) (fun w hw=>?_)
     exact ⟨yZ rfl,hw.sub (.cons .here .nil)⟩
theorem y52 (Z : Zp) (z23 : Addr) (z1z : Nat) (z24 : Addr) (z2Q : Option Addr) (z2R : Nat) (z2b : Addr) (zR : Int) (z1u : List (Int × Int)) (z1j : List Sapi_Ins) (r : Bool × (List (Int × Int))) (w₀ : World) (hz : PZ (fps [y18 z1z (Value.int .i64) (Value.int .i64) z1u]) w₀ Z)
  (hG1 : ZS Z 1 (p74 Z) (some ⟨1,0,none⟩) 26 yX)
  (z36 : ZC Z z23 [(.map (some z1z))])
  (z4T : ZS Z 4 (fun r x=>r = e33 x) z2Q z2R z1j)
  (z4U : ZC Z z24 [(.slice z2Q z1j.length z2R)])
  (z6E : ZC Z z2b [(.func (.func 29) #[] #[(.pointer (some z23)),(.pointer (some z24)),(.pointer (some z2b))])]) (h : y3t zR z1u z1j = some r)
  (hown : Hp (fps [y18 z1z (Value.int .i64) (Value.int .i64) z1u]) w₀ w₀ [y18 z1z (Value.int .i64) (Value.int .i64) z1u]) : Calls Tryd.prog 29 #[(.int .i64 zR),(.pointer (some z23)),(.pointer (some z24)),(.pointer (some z2b))] w₀ fun e w'=>e = .returned (.bool r.1) ∧ Hp (fps [y18 z1z (Value.int .i64) (Value.int .i64) z1u]) w₀ w' [y18 z1z (Value.int .i64) (Value.int .i64) r.2]:=y4j y1M Z z23 z1z z24 z2Q z2R z2b zR z1u z1j r w₀ hz hG1 z36 z4T z4U z6E h hown
def y2b (z2h : List Sapi_Ins) (z2m : Int) : Option (Int × Bool) :=
 (y3q z2h).bind fun z7M=>if ((!z7M) || (decide (z2m < 0))) || (decide (z2m > ((z2h.length : Nat) : Int))) then some (0,false) else (y3t z2m (y1N ([] : List (Int × Int)) ((z2h.length : Nat) : Int) 0) z2h).bind fun z7N=>if !z7N.1 then some (0,false) else some ((y30 z7N.2 z2m 0),true)
set_option maxRecDepth 20000 in
theorem y37 (Z : Zp) (z6G : Option Addr) (z6H : Nat) (z2h : List Sapi_Ins) (z2m : Int) (r : Int × Bool)
  (h : y2b z2h z2m = some r) (w₀ : World) (hz : PZ [] w₀ Z)
  (hG1 : ZS Z 1 (p74 Z) (some ⟨1,0,none⟩) 26 yX)
  (zct : ZS Z 4 (fun r x=>r = e33 x) z6G z6H z2h) :
  Calls Tryd.prog 13 #[(.slice z6G z2h.length z6H),(.int .i64 z2m)] w₀ fun e w'=>e = .returned (.tuple #[(.int .i64 r.1),(.bool r.2)]) ∧ Hp [] w₀ w' []:=by
 unfold y2b at h
 refine Calls.y9 (vs:=[(.slice z6G z2h.length z6H),(.int .i64 z2m)]) (pre:=[]) (env:=[(0,(.slice z6G z2h.length z6H)),(1,(.int .i64 z2m))]) Tryd.func13 rfl Tryd.ntmps13 rfl (Hp.nil w₀ _) rfl ?_
 refine WC.b (WC.a ?_)
 refine WL.new (dd:=2) rfl rfl rfl (y3b (cs:=[(.slice z6G z2h.length z6H)]) rfl rfl) ?_
 intro zky _
 refine WL.pu rfl (WL.pu rfl (WL.nil (WX.a (WC.b (WC.b ?_)))))
 obtain ⟨z7M,zkz,h⟩:=zi h
 refine WC.a ?_
 refine WL.a (d:=8) rfl rfl rfl (y6 y2O rfl (ya .here rfl)) ?_
 refine WL.b (dd:=9) rfl rfl rfl (zK (l:=[.tmp 8]) Tryd.call14 (.cons rfl .nil)) .nil (cc hz .nil fun w pz ho=>y5R _ _ _ _ _ zkz w pz hG1 zct) ?_
 refine WL.pu rfl (WL.pu rfl ?_)
 refine WL.seg false 2 11 (B:=(!z7M) || (decide (z2m < 0))) rfl rfl rfl rfl rfl rfl (fun h=>(y2X h).symm) (fun _ zkA=>?_) ?_
 ·skip
  refine WL.pu rfl (WL.pu rfl (WL.pu rfl ?_))
  exact WL.yj (y2Y zkA) rfl rfl .all
 refine WL.pu rfl ?_
 refine WL.seg false 4 15 (B:=((!z7M) || (decide (z2m < 0))) || (decide (z2m > ((z2h.length : Nat) : Int)))) rfl rfl rfl rfl rfl rfl (fun h=>(y2X h).symm) (fun _ zkB=>?_) ?_
 ·skip
  refine WL.pu rfl ?_
  refine WL.a (d:=17) rfl rfl rfl (y6 y2O rfl (ya .here rfl)) ?_
  refine WL.a (d:=18) rfl rfl rfl (y1a Tryd.underlying22 rfl) ?_
  refine WL.pu rfl (WL.pu rfl ?_)
  exact WL.yj (y2Y zkB) rfl rfl .all
 refine WL.nil (WX.a ?_)
 refine WC.cond rfl (fun z92=>?_) (fun z92=>?_)
 ·replace h:=ym h z92
  refine WC.b (WC.a (WL.pu rfl (WL.pu rfl (WL.nil (WX.a (WC.ret (WX.yd ?_)))))))
  obtain rfl:=Option.some.inj h
  refine WX.yg Tryd.results13 (.tmp rfl (.tmp rfl .nil)) (fun w hw=>?_)
  exact ⟨ret2 rfl rfl,hw.sub .nil⟩
 ·replace h:=yn h z92
  refine WC.skip (WX.a (WC.b (WC.a ?_)))
  refine WL.new (dd:=21) rfl rfl rfl (y6y (Value.int .i64) (Value.int .i64)) ?_
  intro zkC _
  refine WL.a (d:=22) rfl rfl rfl (y6 y2O rfl (ya .h1 rfl)) ?_
  refine WL.a (d:=23) rfl rfl rfl (y1a Tryd.underlying22 rfl) ?_
  refine WL.yk rfl rfl (e_insert (k:=((z2h.length : Nat) : Int)) (v:=0) y3p Tryd.underlying54 rfl rfl rfl rfl .here) ?_
  refine WL.pu rfl ?_
  refine WL.new (dd:=6) rfl rfl rfl (yv (cs:=[(.map none)]) zeroT_54 rfl) ?_
  intro zkD _
  refine WL.yk rfl rfl (ys sizT_54 rfl rfl rfl .here rfl rfl rfl) ?_
  refine WL.nil (WX.a (WC.b (WC.a ?_)))
  refine WL.new (dd:=7) rfl rfl rfl (yv (cs:=[.nilFunc]) zeroT_55 rfl) ?_
  intro zkE _
  refine WL.nil (WX.a (WC.b (WC.a ?_)))
  refine WL.a (d:=25) rfl rfl rfl (y54 (Eos.caps (l:=[.tmp 6,.tmp 2,.tmp 7]) (.cons rfl (.cons rfl (.cons rfl .nil))))) ?_
  refine WL.yk rfl rfl (ys sizT_55 rfl rfl rfl .here rfl rfl rfl) ?_
  refine WL.nil (WX.a (WC.b (WC.b ?_)))
  obtain ⟨z7N,zkF,h⟩:=zi h
  refine WC.a ?_
  refine WL.a (d:=26) rfl rfl rfl (y6 y6a rfl (ya .here rfl)) ?_
  refine WL.pu rfl ?_
  refine WL.b (dd:=28) rfl rfl rfl (yq (l:=[.tmp 27]) Tryd.call29 rfl (.cons rfl .nil)) (.cons .h2 .nil) (ccl hz (.cons .h2 .nil) (.cons .h1 (.cons .h1 (.cons .here .nil))) fun w pz ho la=>y52 (Z:=_) (z23:=⟨zkD,0,none⟩) (z1z:=zkC) (z24:=⟨zky,0,none⟩) (z2Q:=z6G) (z2R:=z6H) (z2b:=⟨zkE,0,none⟩) (zR:=z2m) (z1u:=(y1N ([] : List (Int × Int)) ((z2h.length : Nat) : Int) 0)) (z1j:=z2h) (r:=z7N) w pz ((hG1.mono (Zle.left _ _)).weak (fun _ _ h=>yQ (Zle.left _ _) h)) ((la _ (.head _) _).stb) (zct.mono (Zle.left _ _)) ((la _ (.tail _ (.head _)) _).stb) ((la _ (.tail _ (.tail _ (.head _))) _).stb) zkF ho) ?_
  refine WL.pu rfl (WL.nil (WX.a ?_))
  refine WC.cond rfl (fun z93=>?_) (fun z93=>?_)
  ·replace h:=ym h z93
   refine WC.b (WC.a (WL.pu rfl (WL.pu rfl (WL.nil (WX.a (WC.ret (WX.yd ?_)))))))
   obtain rfl:=Option.some.inj h
   refine WX.yg Tryd.results13 (.tmp rfl (.tmp rfl .nil)) (fun w hw=>?_)
   exact ⟨ret2 rfl rfl,hw.sub .nil⟩
  ·replace h:=yn h z93
   refine WC.skip (WX.a (WC.b (WC.a ?_)))
   refine WL.a (d:=30) rfl rfl rfl (y6 y3i rfl (ya .h2 rfl)) ?_
   refine WL.pu rfl ?_
   refine WL.a (d:=32) rfl rfl rfl (y5L (k:=z2m) (dflt:=(0 : Int)) y3p Tryd.underlying54 y4L rfl rfl rfl .here) ?_
   refine WL.pu rfl (WL.pu rfl (WL.nil (WX.a (WC.ret ?_))))
   obtain rfl:=Option.some.inj h
   refine WX.yg Tryd.results13 (.tmp rfl (.tmp rfl .nil)) (fun w hw=>?_)
   exact ⟨ret2 rfl rfl,hw.sub .nil⟩
def y10 (z25 : List Int) (z2c : List Int) (z40 : Option Bool) : Nat → Int → Option Bool
 | 0,_=>none
 | z94 + 1,z20=>if decide (z20 < ((z25.length : Nat) : Int)) then chk ((0 : Int) ≤ z20 ∧ z20 < ((z25.length : Nat) : Int)) (chk ((0 : Int) ≤ z20 ∧ z20 < ((z2c.length : Nat) : Int)) (if decide ((nth z25 z20) ≠ (nth z2c z20)) then some false else y10 z25 z2c z40 z94 (i64 (z20 + 1)))) else z40
theorem y3w {n : Nat} {z25 : List Int} {z2c : List Int} {z40 : Option Bool} {z20 : Int} {r : Bool} (h : y10 z25 z2c z40 n z20 = some r) : ∃ m,n = m + 1:=by
 cases n with
 | zero=>cases h
 | succ m=>exact ⟨m,rfl⟩
def y25 (z25 : List Int) (z2c : List Int) : Option Bool :=
 if decide (((z25.length : Nat) : Int) ≠ ((z2c.length : Nat) : Int)) then some false else jp0 (some true) fun z40=>y10 z25 z2c z40 y1M 0
set_option maxRecDepth 20000 in
theorem y5a (Z : Zp) (z6Y : Option Addr) (z6Z : Nat) (z70 : Option Addr) (z71 : Nat) (z25 : List Int) (z2c : List Int) (r : Bool)
  (h : y25 z25 z2c = some r) (w₀ : World) (hz : PZ [] w₀ Z)
  (zkG : ZS Z 1 (fun r x=>r = e5 x) z6Y z6Z z25)
  (zkH : ZS Z 1 (fun r x=>r = e5 x) z70 z71 z2c) :
  Calls Tryd.prog 22 #[(.slice z6Y z25.length z6Z),(.slice z70 z2c.length z71)] w₀ fun e w'=>e = .returned (.bool r) ∧ Hp [] w₀ w' []:=by
 unfold y25 at h
 refine Calls.y9 (vs:=[(.slice z6Y z25.length z6Z),(.slice z70 z2c.length z71)]) (pre:=[]) (env:=[(0,(.slice z6Y z25.length z6Z)),(1,(.slice z70 z2c.length z71))]) Tryd.func22 rfl Tryd.ntmps22 rfl (Hp.nil w₀ _) rfl ?_
 refine WC.b (WC.a (WL.pu rfl (WL.nil (WX.a (WC.b (WC.b (WC.a (WL.pu rfl ?_))))))))
 refine WL.a (d:=7) rfl rfl rfl (y1a Tryd.underlying35 rfl) ?_
 refine WL.pu rfl ?_
 refine WL.a (d:=9) rfl rfl rfl (y1a Tryd.underlying35 rfl) ?_
 refine WL.pu rfl (WL.nil (WX.a ?_))
 refine WC.cond rfl (fun z95=>?_) (fun z95=>?_)
 ·replace h:=ym h z95
  refine WC.b (WC.a (WL.pu rfl (WL.nil (WX.a (WC.ret (WX.yd ?_))))))
  obtain rfl:=Option.some.inj h
  refine WX.yg Tryd.results22 (.tmp rfl .nil) (fun w hw=>?_)
  exact ⟨yZ rfl,hw.sub .nil⟩
 ·replace h:=yn h z95
  refine WC.skip (WX.a ?_)
  obtain ⟨z40,zkI,h⟩:=y3m h
  refine WC.y2Z ((z40 = some r)) ([]) ([]) ?_ ?_
  ·skip
   refine WC.b (WC.a (WL.pu rfl (WL.nil (WX.a (WC.block ?_)))))
   refine WC.y45 (fun (z6I : Nat) (z20 : Int)=>(y10 z25 z2c z40 z6I z20 = some r)) (fun (z6I : Nat) (z20 : Int)=>[(0,(.slice z6Y z25.length z6Z)),(1,(.slice z70 z2c.length z71)),(5,(.int .i64 z20))]) (fun (z6I : Nat) (z20 : Int)=>[]) (fun (z6I : Nat) (z20 : Int)=>z6I) ⟨y1M,0⟩ h (.cons rfl (.cons rfl (.cons rfl .nil))) .nil ?_
   rintro z6I z20 h
   obtain ⟨z94,rfl⟩:=y3w h
   rw [y10] at h
   refine WC.b (WC.b (WC.a (WL.pu rfl (WL.pu rfl ?_))))
   refine WL.a (d:=13) rfl rfl rfl (y1a Tryd.underlying35 rfl) ?_
   refine WL.pu rfl (WL.nil (WX.a ?_))
   refine WC.cond rfl (fun z96=>?_) (fun z96=>?_)
   ·replace h:=ym h z96
    refine WC.skip (WX.a (WC.b (WC.block (WC.b ?_))))
    obtain ⟨zkJ,h⟩:=yb h
    obtain ⟨zkK,h⟩:=yb h
    refine WC.y1h (fun i=>[].contains i) [] rfl ?_
    refine WD.a (i:=0) (d:=17) (by kernel_rfl) rfl z7 z8 rfl rfl rfl (fun _=>q_m rfl) ?_
    refine WD.a (i:=1) (d:=18) (by kernel_rfl) rfl z7 z8 rfl rfl rfl (fun _=>q_m rfl) ?_
    refine WD.znth (j:=2) (dd:=19) (by kernel_rfl) rfl z7 z8 rfl rfl (Z:=Z) (Pr:=(fun r x=>r = e5 x)) y1W rfl rfl zkG zkJ ?_
    rintro zmU zmV zkL zmW rfl
    refine WD.e (i:=3) (d:=20) (by kernel_rfl) rfl z7 z8 rfl rfl rfl (y6 yx rfl (y2z hz.pv zkL rfl)) ?_
    refine WD.a (i:=4) (d:=21) (by kernel_rfl) rfl z7 z8 rfl rfl rfl (fun _=>q_m rfl) ?_
    refine WD.a (i:=5) (d:=22) (by kernel_rfl) rfl z7 z8 rfl rfl rfl (fun _=>q_m rfl) ?_
    refine WD.znth (j:=6) (dd:=23) (by kernel_rfl) rfl z7 z8 rfl rfl (Z:=Z) (Pr:=(fun r x=>r = e5 x)) y1W rfl rfl zkH zkK ?_
    rintro zmX zmY zkM zmZ rfl
    refine WD.e (i:=7) (d:=24) (by kernel_rfl) rfl z7 z8 rfl rfl rfl (y6 yx rfl (y2z hz.pv zkM rfl)) ?_
    refine WD.a (i:=8) (d:=25) (by kernel_rfl) rfl z7 z8 rfl rfl rfl (fun _=>q_neq rfl rfl) ?_
    refine WD.done (by kernel_rfl) ?_
    refine WX.a ?_
    refine WC.cond rfl (fun z97=>?_) (fun z97=>?_)
    ·replace h:=ym h z97
     refine WC.b (WC.a (WL.pu rfl (WL.nil (WX.a (WC.ret (WX.yK (WX.yd (WX.yd (WX.yK (WX.yd ?_))))))))))
     obtain rfl:=Option.some.inj h
     refine WX.yg Tryd.results22 (.tmp rfl .nil) (fun w hw=>?_)
     exact ⟨yZ rfl,hw.sub .nil⟩
    ·replace h:=yn h z97
     refine WC.skip (WX.yi (WX.a (WC.a (WL.pu rfl (WL.pu rfl (WL.pu rfl (WL.nil ?_)))))))
     exact WX.round (G:=Nat × Int) ⟨z94,(i64 (z20 + 1))⟩ h (Nat.lt_succ_self _) (.cons rfl (.cons rfl (.cons rfl .nil))) .nil
   ·replace h:=yn h z96
    refine WC.exit (WX.yu (WX.yu (WX.y1b ?_)))
    exact WX.mid (G:=Unit) () h .nil .nil
  ·rintro  h
   replace h:=zkI.symm.trans h
   refine WC.b (WC.a (WL.pu rfl (WL.nil (WX.a (WC.ret ?_)))))
   obtain rfl:=Option.some.inj h
   refine WX.yg Tryd.results22 (.tmp rfl .nil) (fun w hw=>?_)
   exact ⟨yZ rfl,hw.sub .nil⟩
def yM (z1o : Sproc_Act) (z1p : Sproc_Act) : Option Bool :=
 (if ((decide (z1o.fKind = z1p.fKind)) && (decide (z1o.fA = z1p.fA))) && (decide (z1o.fB = z1p.fB)) then (y25 z1o.fData z1p.fData).bind fun zcu=>some zcu else some false).bind fun z98=>some z98
set_option maxRecDepth 20000 in
theorem y26 (Z : Zp) (z72 : Option Addr) (z73 : Nat) (z74 : Option Addr) (z75 : Nat) (z1o : Sproc_Act) (z1p : Sproc_Act) (r : Bool)
  (h : yM z1o z1p = some r) (w₀ : World) (hz : PZ [] w₀ Z)
  (zkN : ZS Z 1 (fun r x=>r = e5 x) z72 z73 z1o.fData)
  (zkO : ZS Z 1 (fun r x=>r = e5 x) z74 z75 z1p.fData) :
  Calls Tryd.prog 19 #[(.agg #[(.int .u8 z1o.fKind),(.int .i64 z1o.fA),(.int .i64 z1o.fB),(.slice z72 z1o.fData.length z73)]),(.agg #[(.int .u8 z1p.fKind),(.int .i64 z1p.fA),(.int .i64 z1p.fB),(.slice z74 z1p.fData.length z75)])] w₀ fun e w'=>e = .returned (.bool r) ∧ Hp [] w₀ w' []:=by
 unfold yM at h
 refine Calls.y9 (vs:=[(.agg #[(.int .u8 z1o.fKind),(.int .i64 z1o.fA),(.int .i64 z1o.fB),(.slice z72 z1o.fData.length z73)]),(.agg #[(.int .u8 z1p.fKind),(.int .i64 z1p.fA),(.int .i64 z1p.fB),(.slice z74 z1p.fData.length z75)])]) (pre:=[]) (env:=[(0,(.agg #[(.int .u8 z1o.fKind),(.int .i64 z1o.fA),(.int .i64 z1o.fB),(.slice z72 z1o.fData.length z73)])),(1,(.agg #[(.int .u8 z1p.fKind),(.int .i64 z1p.fA),(.int .i64 z1p.fB),(.slice z74 z1p.fData.length z75)]))]) Tryd.func19 rfl Tryd.ntmps19 rfl (Hp.nil w₀ _) rfl ?_
 refine WC.b (WC.a ?_)
 refine WL.new (dd:=2) rfl rfl rfl (y3b (cs:=[(.int .u8 z1o.fKind),(.int .i64 z1o.fA),(.int .i64 z1o.fB),(.slice z72 z1o.fData.length z73)]) rfl rfl) ?_
 intro zn0 _
 refine WL.new (dd:=3) rfl rfl rfl (y3b (cs:=[(.int .u8 z1p.fKind),(.int .i64 z1p.fA),(.int .i64 z1p.fB),(.slice z74 z1p.fData.length z75)]) rfl rfl) ?_
 intro zn1 _
 refine WL.pu rfl (WL.nil (WX.a (WC.b ?_)))
 obtain ⟨z98,zcv,h⟩:=zi h
 refine WC.a ?_
 refine WL.a (d:=5) rfl rfl rfl (y4 y2N rfl rfl) ?_
 refine WL.a (d:=6) rfl rfl rfl (y6 yx rfl (ya .h1 rfl)) ?_
 refine WL.a (d:=7) rfl rfl rfl (y4 y2N rfl rfl) ?_
 refine WL.a (d:=8) rfl rfl rfl (y6 yx rfl (ya .here rfl)) ?_
 refine WL.pu rfl (WL.pu rfl ?_)
 refine WL.seg true 5 10 (B:=(decide (z1o.fKind = z1p.fKind)) && (decide (z1o.fA = z1p.fA))) rfl rfl rfl rfl rfl rfl (fun h=>(y2j h).symm) (fun _ zkP=>?_) ?_
 ·skip
  refine WL.a (d:=11) rfl rfl rfl (y4 y3j rfl rfl) ?_
  refine WL.a (d:=12) rfl rfl rfl (y6 ye rfl (ya .h1 rfl)) ?_
  refine WL.a (d:=13) rfl rfl rfl (y4 y3j rfl rfl) ?_
  refine WL.a (d:=14) rfl rfl rfl (y6 ye rfl (ya .here rfl)) ?_
  refine WL.pu rfl (WL.pu rfl ?_)
  exact WL.yj (y2k zkP) rfl rfl .all
 refine WL.pu rfl ?_
 refine WL.seg true 5 17 (B:=((decide (z1o.fKind = z1p.fKind)) && (decide (z1o.fA = z1p.fA))) && (decide (z1o.fB = z1p.fB))) rfl rfl rfl rfl rfl rfl (fun h=>(y2j h).symm) (fun _ zkQ=>?_) ?_
 ·skip
  refine WL.a (d:=18) rfl rfl rfl (y4 y4M rfl rfl) ?_
  refine WL.a (d:=19) rfl rfl rfl (y6 ye rfl (ya .h1 rfl)) ?_
  refine WL.a (d:=20) rfl rfl rfl (y4 y4M rfl rfl) ?_
  refine WL.a (d:=21) rfl rfl rfl (y6 ye rfl (ya .here rfl)) ?_
  refine WL.pu rfl (WL.pu rfl ?_)
  exact WL.yj (y2k zkQ) rfl rfl .all
 refine WL.pu rfl ?_
 refine WL.seg true 5 24 (B:=z98) rfl rfl rfl rfl rfl rfl (fun h=>(Option.some.inj (yn zcv h)).symm) (fun _ zkR=>?_) ?_
 ·skip
  have z76:=ym zcv zkR
  obtain ⟨zcu,zkS,z76⟩:=zi z76
  replace z76:=Option.some.inj z76
  refine WL.a (d:=25) rfl rfl rfl (y4 y4N rfl rfl) ?_
  refine WL.a (d:=26) rfl rfl rfl (y6 y3g rfl (ya .h1 rfl)) ?_
  refine WL.a (d:=27) rfl rfl rfl (y4 y4N rfl rfl) ?_
  refine WL.a (d:=28) rfl rfl rfl (y6 y3g rfl (ya .here rfl)) ?_
  refine WL.b (dd:=29) rfl rfl rfl (zK (l:=[.tmp 26,.tmp 28]) Tryd.call22 (.cons rfl (.cons rfl .nil))) .nil (cc hz .nil fun w pz ho=>y5a _ _ _ _ _ _ _ _ zkS w pz zkN zkO) ?_
  refine WL.pu rfl ?_
  exact WL.yj z76 rfl rfl .all
 refine WL.pu rfl (WL.nil (WX.a (WC.ret ?_)))
 obtain rfl:=Option.some.inj h
 refine WX.yg Tryd.results19 (.tmp rfl .nil) (fun w hw=>?_)
 exact ⟨yZ rfl,hw.sub .nil⟩
end Go.Proofs.YtjdnejbngloieaaDoor
