/- A part of this claim's proof: models of functions, walks, plain laws. No conditions. -/
import Derived.Test.YtjdnejbngloieaaDoorW26c
namespace Go.Proofs.YtjdnejbngloieaaDoor
open Go Go.RowKit Sep
set_option linter.all false
set_option maxRecDepth 30000
set_option maxHeartbeats 4000000
def y1A (z1n : Sproc_State) (z2o : Sapi_Ins) (z3f : List Int) (zaN : Int) (zaO : Int) (zaP : Int) (z3E : List Int) : Option (Int × Int) :=
 (yc z1n z2o z3f zaN zaO zaP z3E 6 []).bind fun zgO=>some (zgO.1,zgO.2)
set_option maxRecDepth 20000 in
theorem y4m (Z : Zp) (z98 : Nat) (z5Y : Option Addr) (z5Z : Nat) (z6Y : Option Addr) (z6Z : Nat) (z1n : Sproc_State) (z2o : Sapi_Ins) (z3f : List Int) (zaN : Int) (zaO : Int) (zaP : Int) (z3E : List Int) (r : Int × Int)
  (h : y1A z1n z2o z3f zaN zaO zaP z3E = some r) (w₀ : World) (hz : PZ (fps [stb z98 65 [(.int .i64 z1n.fPc),(.int .i64 z1n.fLeft),(.int .u8 z1n.fRegs.a0),(.int .u8 z1n.fRegs.a1),(.int .u8 z1n.fRegs.a2),(.int .u8 z1n.fRegs.a3),(.int .u8 z2o.fOp),(.int .i64 z2o.fA),(.int .i64 z2o.fB),(.int .i64 z2o.fC),(.slice z5Y z3f.length z5Z),(.int .u8 zaN),(.int .i64 zaO),(.int .i64 zaP),(.slice z6Y z3E.length z6Z)],row (.slice z5Y z3f.length z5Z) 5 1 (z3f.flatMap e5),row (.slice z6Y z3E.length z6Z) 5 1 (z3E.flatMap e5)]) w₀ Z)
  (hown : Hp (fps [stb z98 65 [(.int .i64 z1n.fPc),(.int .i64 z1n.fLeft),(.int .u8 z1n.fRegs.a0),(.int .u8 z1n.fRegs.a1),(.int .u8 z1n.fRegs.a2),(.int .u8 z1n.fRegs.a3),(.int .u8 z2o.fOp),(.int .i64 z2o.fA),(.int .i64 z2o.fB),(.int .i64 z2o.fC),(.slice z5Y z3f.length z5Z),(.int .u8 zaN),(.int .i64 zaO),(.int .i64 zaP),(.slice z6Y z3E.length z6Z)],row (.slice z5Y z3f.length z5Z) 5 1 (z3f.flatMap e5),row (.slice z6Y z3E.length z6Z) 5 1 (z3E.flatMap e5)]) w₀ w₀ [stb z98 65 [(.int .i64 z1n.fPc),(.int .i64 z1n.fLeft),(.int .u8 z1n.fRegs.a0),(.int .u8 z1n.fRegs.a1),(.int .u8 z1n.fRegs.a2),(.int .u8 z1n.fRegs.a3),(.int .u8 z2o.fOp),(.int .i64 z2o.fA),(.int .i64 z2o.fB),(.int .i64 z2o.fC),(.slice z5Y z3f.length z5Z),(.int .u8 zaN),(.int .i64 zaO),(.int .i64 zaP),(.slice z6Y z3E.length z6Z)],row (.slice z5Y z3f.length z5Z) 5 1 (z3f.flatMap e5),row (.slice z6Y z3E.length z6Z) 5 1 (z3E.flatMap e5)]) :
  Calls Tryd.prog 93 #[(.pointer (some ⟨z98,0,none⟩))] w₀ fun e w'=>e = .returned (.tuple #[]) ∧ Hp (fps [stb z98 65 [(.int .i64 z1n.fPc),(.int .i64 z1n.fLeft),(.int .u8 z1n.fRegs.a0),(.int .u8 z1n.fRegs.a1),(.int .u8 z1n.fRegs.a2),(.int .u8 z1n.fRegs.a3),(.int .u8 z2o.fOp),(.int .i64 z2o.fA),(.int .i64 z2o.fB),(.int .i64 z2o.fC),(.slice z5Y z3f.length z5Z),(.int .u8 zaN),(.int .i64 zaO),(.int .i64 zaP),(.slice z6Y z3E.length z6Z)],row (.slice z5Y z3f.length z5Z) 5 1 (z3f.flatMap e5),row (.slice z6Y z3E.length z6Z) 5 1 (z3E.flatMap e5)]) w₀ w' [stb z98 65 [(.int .i64 z1n.fPc),(.int .i64 z1n.fLeft),(.int .u8 z1n.fRegs.a0),(.int .u8 z1n.fRegs.a1),(.int .u8 z1n.fRegs.a2),(.int .u8 z1n.fRegs.a3),(.int .u8 z2o.fOp),(.int .i64 z2o.fA),(.int .i64 z2o.fB),(.int .i64 z2o.fC),(.slice z5Y z3f.length z5Z),(.int .u8 r.1),(.int .i64 r.2),(.int .i64 0),(.slice none 0 0)],row (.slice z5Y z3f.length z5Z) 5 1 (z3f.flatMap e5),row (.slice z6Y z3E.length z6Z) 5 1 (z3E.flatMap e5)]:=by
 unfold y1A at h
 refine Calls.y8 (vs:=[(.pointer (some ⟨z98,0,none⟩))]) (pre:=[stb z98 65 [(.int .i64 z1n.fPc),(.int .i64 z1n.fLeft),(.int .u8 z1n.fRegs.a0),(.int .u8 z1n.fRegs.a1),(.int .u8 z1n.fRegs.a2),(.int .u8 z1n.fRegs.a3),(.int .u8 z2o.fOp),(.int .i64 z2o.fA),(.int .i64 z2o.fB),(.int .i64 z2o.fC),(.slice z5Y z3f.length z5Z),(.int .u8 zaN),(.int .i64 zaO),(.int .i64 zaP),(.slice z6Y z3E.length z6Z)],row (.slice z5Y z3f.length z5Z) 5 1 (z3f.flatMap e5),row (.slice z6Y z3E.length z6Z) 5 1 (z3E.flatMap e5)]) (env:=[(0,(.pointer (some ⟨z98,0,none⟩)))]) Tryd.func93 rfl Tryd.ntmps93 rfl (hown) rfl ?_
 obtain ⟨zgO,zuw,h⟩:=zb h
 refine WC.a (WL.pu rfl ?_)
 refine WL.b (dd:=3) rfl rfl rfl (zk (l:=[.tmp 2,.const (.int .u8 6),.const (.slice none 0 0)]) Tryd.call110 (.cons rfl (.cons rfl (.cons rfl .nil)))) (.cons .here (.cons .here (.cons .here .nil))) (cc hz (.cons .here (.cons .here (.cons .here .nil))) fun w pz ho=>yG _ _ _ _ _ _ _ _ _ _ _ _ _ _ _ _ _ _ zuw w pz (ZS.nil _ _ _) ho) ?_
 refine WL.nil ?_
 obtain rfl:=Option.some.inj h
 refine WX.y9 Tryd.results93 .nil (fun w hw=>?_)
 exact ⟨yB,hw.sub (.cons .here (.cons .here (.cons .here .nil)))⟩
def y1B (z1o : Sproc_State) (z2p : Sapi_Ins) (z3g : List Int) (zaQ : Int) (zaR : Int) (zaS : Int) (z3F : List Int) : Option (Int × Int) :=
 (yc z1o z2p z3g zaQ zaR zaS z3F 7 []).bind fun zgP=>some (zgP.1,zgP.2)
set_option maxRecDepth 20000 in
theorem y4n (Z : Zp) (z99 : Nat) (z60 : Option Addr) (z61 : Nat) (z70 : Option Addr) (z71 : Nat) (z1o : Sproc_State) (z2p : Sapi_Ins) (z3g : List Int) (zaQ : Int) (zaR : Int) (zaS : Int) (z3F : List Int) (r : Int × Int)
  (h : y1B z1o z2p z3g zaQ zaR zaS z3F = some r) (w₀ : World) (hz : PZ (fps [stb z99 65 [(.int .i64 z1o.fPc),(.int .i64 z1o.fLeft),(.int .u8 z1o.fRegs.a0),(.int .u8 z1o.fRegs.a1),(.int .u8 z1o.fRegs.a2),(.int .u8 z1o.fRegs.a3),(.int .u8 z2p.fOp),(.int .i64 z2p.fA),(.int .i64 z2p.fB),(.int .i64 z2p.fC),(.slice z60 z3g.length z61),(.int .u8 zaQ),(.int .i64 zaR),(.int .i64 zaS),(.slice z70 z3F.length z71)],row (.slice z60 z3g.length z61) 5 1 (z3g.flatMap e5),row (.slice z70 z3F.length z71) 5 1 (z3F.flatMap e5)]) w₀ Z)
  (hown : Hp (fps [stb z99 65 [(.int .i64 z1o.fPc),(.int .i64 z1o.fLeft),(.int .u8 z1o.fRegs.a0),(.int .u8 z1o.fRegs.a1),(.int .u8 z1o.fRegs.a2),(.int .u8 z1o.fRegs.a3),(.int .u8 z2p.fOp),(.int .i64 z2p.fA),(.int .i64 z2p.fB),(.int .i64 z2p.fC),(.slice z60 z3g.length z61),(.int .u8 zaQ),(.int .i64 zaR),(.int .i64 zaS),(.slice z70 z3F.length z71)],row (.slice z60 z3g.length z61) 5 1 (z3g.flatMap e5),row (.slice z70 z3F.length z71) 5 1 (z3F.flatMap e5)]) w₀ w₀ [stb z99 65 [(.int .i64 z1o.fPc),(.int .i64 z1o.fLeft),(.int .u8 z1o.fRegs.a0),(.int .u8 z1o.fRegs.a1),(.int .u8 z1o.fRegs.a2),(.int .u8 z1o.fRegs.a3),(.int .u8 z2p.fOp),(.int .i64 z2p.fA),(.int .i64 z2p.fB),(.int .i64 z2p.fC),(.slice z60 z3g.length z61),(.int .u8 zaQ),(.int .i64 zaR),(.int .i64 zaS),(.slice z70 z3F.length z71)],row (.slice z60 z3g.length z61) 5 1 (z3g.flatMap e5),row (.slice z70 z3F.length z71) 5 1 (z3F.flatMap e5)]) :
  Calls Tryd.prog 94 #[(.pointer (some ⟨z99,0,none⟩))] w₀ fun e w'=>e = .returned (.tuple #[]) ∧ Hp (fps [stb z99 65 [(.int .i64 z1o.fPc),(.int .i64 z1o.fLeft),(.int .u8 z1o.fRegs.a0),(.int .u8 z1o.fRegs.a1),(.int .u8 z1o.fRegs.a2),(.int .u8 z1o.fRegs.a3),(.int .u8 z2p.fOp),(.int .i64 z2p.fA),(.int .i64 z2p.fB),(.int .i64 z2p.fC),(.slice z60 z3g.length z61),(.int .u8 zaQ),(.int .i64 zaR),(.int .i64 zaS),(.slice z70 z3F.length z71)],row (.slice z60 z3g.length z61) 5 1 (z3g.flatMap e5),row (.slice z70 z3F.length z71) 5 1 (z3F.flatMap e5)]) w₀ w' [stb z99 65 [(.int .i64 z1o.fPc),(.int .i64 z1o.fLeft),(.int .u8 z1o.fRegs.a0),(.int .u8 z1o.fRegs.a1),(.int .u8 z1o.fRegs.a2),(.int .u8 z1o.fRegs.a3),(.int .u8 z2p.fOp),(.int .i64 z2p.fA),(.int .i64 z2p.fB),(.int .i64 z2p.fC),(.slice z60 z3g.length z61),(.int .u8 r.1),(.int .i64 r.2),(.int .i64 0),(.slice none 0 0)],row (.slice z60 z3g.length z61) 5 1 (z3g.flatMap e5),row (.slice z70 z3F.length z71) 5 1 (z3F.flatMap e5)]:=by
 unfold y1B at h
 refine Calls.y8 (vs:=[(.pointer (some ⟨z99,0,none⟩))]) (pre:=[stb z99 65 [(.int .i64 z1o.fPc),(.int .i64 z1o.fLeft),(.int .u8 z1o.fRegs.a0),(.int .u8 z1o.fRegs.a1),(.int .u8 z1o.fRegs.a2),(.int .u8 z1o.fRegs.a3),(.int .u8 z2p.fOp),(.int .i64 z2p.fA),(.int .i64 z2p.fB),(.int .i64 z2p.fC),(.slice z60 z3g.length z61),(.int .u8 zaQ),(.int .i64 zaR),(.int .i64 zaS),(.slice z70 z3F.length z71)],row (.slice z60 z3g.length z61) 5 1 (z3g.flatMap e5),row (.slice z70 z3F.length z71) 5 1 (z3F.flatMap e5)]) (env:=[(0,(.pointer (some ⟨z99,0,none⟩)))]) Tryd.func94 rfl Tryd.ntmps94 rfl (hown) rfl ?_
 obtain ⟨zgP,zux,h⟩:=zb h
 refine WC.a (WL.pu rfl ?_)
 refine WL.b (dd:=3) rfl rfl rfl (zk (l:=[.tmp 2,.const (.int .u8 7),.const (.slice none 0 0)]) Tryd.call110 (.cons rfl (.cons rfl (.cons rfl .nil)))) (.cons .here (.cons .here (.cons .here .nil))) (cc hz (.cons .here (.cons .here (.cons .here .nil))) fun w pz ho=>yG _ _ _ _ _ _ _ _ _ _ _ _ _ _ _ _ _ _ zux w pz (ZS.nil _ _ _) ho) ?_
 refine WL.nil ?_
 obtain rfl:=Option.some.inj h
 refine WX.y9 Tryd.results94 .nil (fun w hw=>?_)
 exact ⟨yB,hw.sub (.cons .here (.cons .here (.cons .here .nil)))⟩
def y1C (z1p : Sproc_State) (z2q : Sapi_Ins) (z3h : List Int) (zaT : Int) (zaU : Int) (zaV : Int) (z3G : List Int) : Option (Int × Int) :=
 (yc z1p z2q z3h zaT zaU zaV z3G 8 []).bind fun zgQ=>some (zgQ.1,zgQ.2)
set_option maxRecDepth 20000 in
theorem y4o (Z : Zp) (z9a : Nat) (z62 : Option Addr) (z63 : Nat) (z72 : Option Addr) (z73 : Nat) (z1p : Sproc_State) (z2q : Sapi_Ins) (z3h : List Int) (zaT : Int) (zaU : Int) (zaV : Int) (z3G : List Int) (r : Int × Int)
  (h : y1C z1p z2q z3h zaT zaU zaV z3G = some r) (w₀ : World) (hz : PZ (fps [stb z9a 65 [(.int .i64 z1p.fPc),(.int .i64 z1p.fLeft),(.int .u8 z1p.fRegs.a0),(.int .u8 z1p.fRegs.a1),(.int .u8 z1p.fRegs.a2),(.int .u8 z1p.fRegs.a3),(.int .u8 z2q.fOp),(.int .i64 z2q.fA),(.int .i64 z2q.fB),(.int .i64 z2q.fC),(.slice z62 z3h.length z63),(.int .u8 zaT),(.int .i64 zaU),(.int .i64 zaV),(.slice z72 z3G.length z73)],row (.slice z62 z3h.length z63) 5 1 (z3h.flatMap e5),row (.slice z72 z3G.length z73) 5 1 (z3G.flatMap e5)]) w₀ Z)
  (hown : Hp (fps [stb z9a 65 [(.int .i64 z1p.fPc),(.int .i64 z1p.fLeft),(.int .u8 z1p.fRegs.a0),(.int .u8 z1p.fRegs.a1),(.int .u8 z1p.fRegs.a2),(.int .u8 z1p.fRegs.a3),(.int .u8 z2q.fOp),(.int .i64 z2q.fA),(.int .i64 z2q.fB),(.int .i64 z2q.fC),(.slice z62 z3h.length z63),(.int .u8 zaT),(.int .i64 zaU),(.int .i64 zaV),(.slice z72 z3G.length z73)],row (.slice z62 z3h.length z63) 5 1 (z3h.flatMap e5),row (.slice z72 z3G.length z73) 5 1 (z3G.flatMap e5)]) w₀ w₀ [stb z9a 65 [(.int .i64 z1p.fPc),(.int .i64 z1p.fLeft),(.int .u8 z1p.fRegs.a0),(.int .u8 z1p.fRegs.a1),(.int .u8 z1p.fRegs.a2),(.int .u8 z1p.fRegs.a3),(.int .u8 z2q.fOp),(.int .i64 z2q.fA),(.int .i64 z2q.fB),(.int .i64 z2q.fC),(.slice z62 z3h.length z63),(.int .u8 zaT),(.int .i64 zaU),(.int .i64 zaV),(.slice z72 z3G.length z73)],row (.slice z62 z3h.length z63) 5 1 (z3h.flatMap e5),row (.slice z72 z3G.length z73) 5 1 (z3G.flatMap e5)]) :
  Calls Tryd.prog 95 #[(.pointer (some ⟨z9a,0,none⟩))] w₀ fun e w'=>e = .returned (.tuple #[]) ∧ Hp (fps [stb z9a 65 [(.int .i64 z1p.fPc),(.int .i64 z1p.fLeft),(.int .u8 z1p.fRegs.a0),(.int .u8 z1p.fRegs.a1),(.int .u8 z1p.fRegs.a2),(.int .u8 z1p.fRegs.a3),(.int .u8 z2q.fOp),(.int .i64 z2q.fA),(.int .i64 z2q.fB),(.int .i64 z2q.fC),(.slice z62 z3h.length z63),(.int .u8 zaT),(.int .i64 zaU),(.int .i64 zaV),(.slice z72 z3G.length z73)],row (.slice z62 z3h.length z63) 5 1 (z3h.flatMap e5),row (.slice z72 z3G.length z73) 5 1 (z3G.flatMap e5)]) w₀ w' [stb z9a 65 [(.int .i64 z1p.fPc),(.int .i64 z1p.fLeft),(.int .u8 z1p.fRegs.a0),(.int .u8 z1p.fRegs.a1),(.int .u8 z1p.fRegs.a2),(.int .u8 z1p.fRegs.a3),(.int .u8 z2q.fOp),(.int .i64 z2q.fA),(.int .i64 z2q.fB),(.int .i64 z2q.fC),(.slice z62 z3h.length z63),(.int .u8 r.1),(.int .i64 r.2),(.int .i64 0),(.slice none 0 0)],row (.slice z62 z3h.length z63) 5 1 (z3h.flatMap e5),row (.slice z72 z3G.length z73) 5 1 (z3G.flatMap e5)]:=by
 unfold y1C at h
 refine Calls.y8 (vs:=[(.pointer (some ⟨z9a,0,none⟩))]) (pre:=[stb z9a 65 [(.int .i64 z1p.fPc),(.int .i64 z1p.fLeft),(.int .u8 z1p.fRegs.a0),(.int .u8 z1p.fRegs.a1),(.int .u8 z1p.fRegs.a2),(.int .u8 z1p.fRegs.a3),(.int .u8 z2q.fOp),(.int .i64 z2q.fA),(.int .i64 z2q.fB),(.int .i64 z2q.fC),(.slice z62 z3h.length z63),(.int .u8 zaT),(.int .i64 zaU),(.int .i64 zaV),(.slice z72 z3G.length z73)],row (.slice z62 z3h.length z63) 5 1 (z3h.flatMap e5),row (.slice z72 z3G.length z73) 5 1 (z3G.flatMap e5)]) (env:=[(0,(.pointer (some ⟨z9a,0,none⟩)))]) Tryd.func95 rfl Tryd.ntmps95 rfl (hown) rfl ?_
 obtain ⟨zgQ,zuy,h⟩:=zb h
 refine WC.a (WL.pu rfl ?_)
 refine WL.b (dd:=3) rfl rfl rfl (zk (l:=[.tmp 2,.const (.int .u8 8),.const (.slice none 0 0)]) Tryd.call110 (.cons rfl (.cons rfl (.cons rfl .nil)))) (.cons .here (.cons .here (.cons .here .nil))) (cc hz (.cons .here (.cons .here (.cons .here .nil))) fun w pz ho=>yG _ _ _ _ _ _ _ _ _ _ _ _ _ _ _ _ _ _ zuy w pz (ZS.nil _ _ _) ho) ?_
 refine WL.nil ?_
 obtain rfl:=Option.some.inj h
 refine WX.y9 Tryd.results95 .nil (fun w hw=>?_)
 exact ⟨yB,hw.sub (.cons .here (.cons .here (.cons .here .nil)))⟩
def y26 (zT : Sproc_State) (z1z : Sapi_Ins) (z31 : List Int) (z9b : Int) (z9c : Int) (z9d : Int) (z3i : List Int) : Option (Int × Int) :=
 (yj zT z1z z31 z9b z9c z9d z3i z1z.fB).bind fun zuz=>chk ((0 : Int) ≤ z1z.fB ∧ z1z.fB < 4) ((yg zT z1z z31 z9b z9c z9d z3i 9 ([nth ([zT.fRegs.a0,zT.fRegs.a1,zT.fRegs.a2,zT.fRegs.a3] : List Int) z1z.fB] : List Int)).bind fun zgR=>some (zgR.1,zgR.2))
set_option maxRecDepth 20000 in
theorem y5a (Z : Zp) (z9e : Nat) (z64 : Option Addr) (z65 : Nat) (z74 : Option Addr) (z75 : Nat) (zT : Sproc_State) (z1z : Sapi_Ins) (z31 : List Int) (z9b : Int) (z9c : Int) (z9d : Int) (z3i : List Int) (r : Int × Int)
  (h : y26 zT z1z z31 z9b z9c z9d z3i = some r) (w₀ : World) (hz : PZ (fps [stb z9e 65 [(.int .i64 zT.fPc),(.int .i64 zT.fLeft),(.int .u8 zT.fRegs.a0),(.int .u8 zT.fRegs.a1),(.int .u8 zT.fRegs.a2),(.int .u8 zT.fRegs.a3),(.int .u8 z1z.fOp),(.int .i64 z1z.fA),(.int .i64 z1z.fB),(.int .i64 z1z.fC),(.slice z64 z31.length z65),(.int .u8 z9b),(.int .i64 z9c),(.int .i64 z9d),(.slice z74 z3i.length z75)],row (.slice z64 z31.length z65) 5 1 (z31.flatMap e5),row (.slice z74 z3i.length z75) 5 1 (z3i.flatMap e5)]) w₀ Z)
  (hown : Hp (fps [stb z9e 65 [(.int .i64 zT.fPc),(.int .i64 zT.fLeft),(.int .u8 zT.fRegs.a0),(.int .u8 zT.fRegs.a1),(.int .u8 zT.fRegs.a2),(.int .u8 zT.fRegs.a3),(.int .u8 z1z.fOp),(.int .i64 z1z.fA),(.int .i64 z1z.fB),(.int .i64 z1z.fC),(.slice z64 z31.length z65),(.int .u8 z9b),(.int .i64 z9c),(.int .i64 z9d),(.slice z74 z3i.length z75)],row (.slice z64 z31.length z65) 5 1 (z31.flatMap e5),row (.slice z74 z3i.length z75) 5 1 (z3i.flatMap e5)]) w₀ w₀ [stb z9e 65 [(.int .i64 zT.fPc),(.int .i64 zT.fLeft),(.int .u8 zT.fRegs.a0),(.int .u8 zT.fRegs.a1),(.int .u8 zT.fRegs.a2),(.int .u8 zT.fRegs.a3),(.int .u8 z1z.fOp),(.int .i64 z1z.fA),(.int .i64 z1z.fB),(.int .i64 z1z.fC),(.slice z64 z31.length z65),(.int .u8 z9b),(.int .i64 z9c),(.int .i64 z9d),(.slice z74 z3i.length z75)],row (.slice z64 z31.length z65) 5 1 (z31.flatMap e5),row (.slice z74 z3i.length z75) 5 1 (z3i.flatMap e5)]) :
  Calls Tryd.prog 96 #[(.pointer (some ⟨z9e,0,none⟩))] w₀ fun e w'=>∃ zkz : Option Addr,∃ zkA : Nat,e = .returned (.tuple #[]) ∧ True ∧ Hp (fps [stb z9e 65 [(.int .i64 zT.fPc),(.int .i64 zT.fLeft),(.int .u8 zT.fRegs.a0),(.int .u8 zT.fRegs.a1),(.int .u8 zT.fRegs.a2),(.int .u8 zT.fRegs.a3),(.int .u8 z1z.fOp),(.int .i64 z1z.fA),(.int .i64 z1z.fB),(.int .i64 z1z.fC),(.slice z64 z31.length z65),(.int .u8 z9b),(.int .i64 z9c),(.int .i64 z9d),(.slice z74 z3i.length z75)],row (.slice z64 z31.length z65) 5 1 (z31.flatMap e5),row (.slice z74 z3i.length z75) 5 1 (z3i.flatMap e5)]) w₀ w' [stb z9e 65 [(.int .i64 zT.fPc),(.int .i64 zT.fLeft),(.int .u8 zT.fRegs.a0),(.int .u8 zT.fRegs.a1),(.int .u8 zT.fRegs.a2),(.int .u8 zT.fRegs.a3),(.int .u8 z1z.fOp),(.int .i64 z1z.fA),(.int .i64 z1z.fB),(.int .i64 z1z.fC),(.slice z64 z31.length z65),(.int .u8 r.1),(.int .i64 r.2),(.int .i64 0),(.slice zkz (([nth ([zT.fRegs.a0,zT.fRegs.a1,zT.fRegs.a2,zT.fRegs.a3] : List Int) z1z.fB] : List Int).length) zkA)],row (.slice z64 z31.length z65) 5 1 (z31.flatMap e5),row (.slice zkz (([nth ([zT.fRegs.a0,zT.fRegs.a1,zT.fRegs.a2,zT.fRegs.a3] : List Int) z1z.fB] : List Int).length) zkA) 5 1 (([nth ([zT.fRegs.a0,zT.fRegs.a1,zT.fRegs.a2,zT.fRegs.a3] : List Int) z1z.fB] : List Int).flatMap e5),row (.slice z74 z3i.length z75) 5 1 (z3i.flatMap e5)]:=by
 unfold y26 at h
 refine Calls.y8 (vs:=[(.pointer (some ⟨z9e,0,none⟩))]) (pre:=[stb z9e 65 [(.int .i64 zT.fPc),(.int .i64 zT.fLeft),(.int .u8 zT.fRegs.a0),(.int .u8 zT.fRegs.a1),(.int .u8 zT.fRegs.a2),(.int .u8 zT.fRegs.a3),(.int .u8 z1z.fOp),(.int .i64 z1z.fA),(.int .i64 z1z.fB),(.int .i64 z1z.fC),(.slice z64 z31.length z65),(.int .u8 z9b),(.int .i64 z9c),(.int .i64 z9d),(.slice z74 z3i.length z75)],row (.slice z64 z31.length z65) 5 1 (z31.flatMap e5),row (.slice z74 z3i.length z75) 5 1 (z3i.flatMap e5)]) (env:=[(0,(.pointer (some ⟨z9e,0,none⟩)))]) Tryd.func96 rfl Tryd.ntmps96 rfl (hown) rfl ?_
 obtain ⟨zuz,zuA,h⟩:=zb h
 obtain ⟨zuB,h⟩:=ya h
 obtain ⟨zgR,zuC,h⟩:=zb h
 refine WC.a (WL.pu rfl (WL.pu rfl (WL.pu rfl ?_)))
 refine WL.a (d:=5) rfl rfl rfl (y6 rfl) ?_
 refine WL.a (d:=6) rfl rfl rfl (y4 yl rfl rfl) ?_
 refine WL.a (d:=7) rfl rfl rfl (y4 y16 rfl rfl) ?_
 refine WL.a (d:=8) rfl rfl rfl (y5 yd rfl (yb .here rfl)) ?_
 refine WL.b (dd:=9) rfl rfl rfl (zk (l:=[.tmp 3,.tmp 8]) Tryd.call108 (.cons rfl (.cons rfl .nil))) (.cons .h1 (.cons .h1 .nil)) (ccl hz (.cons .h1 (.cons .h1 .nil)) (.cons .here .nil) fun w pz ho la=>yq _ _ _ _ _ _ _ _ _ _ _ _ _ _ _ zuA w pz ((la _ (.head _) _).stb) ho) ?_
 refine WL.a (d:=10) rfl rfl rfl (y6 rfl) ?_
 refine WL.a (d:=11) rfl rfl rfl (y5 yC rfl (yY (l:=([zT.fRegs.a0,zT.fRegs.a1,zT.fRegs.a2,zT.fRegs.a3] : List Int)) (f:=Value.int .u8) (k:=2) (m:=6) .h2 rfl rfl zuB)) ?_
 refine WL.new (dd:=12) rfl rfl rfl (yx (cs:=([nth ([zT.fRegs.a0,zT.fRegs.a1,zT.fRegs.a2,zT.fRegs.a3] : List Int) z1z.fB] : List Int).flatMap e5) y1F (Eos.parts (l:=[.tmp 11]) (.cons rfl .nil) [0]) (fun _=>by kernel_rfl) rfl (by unfold maxLen; omega)) ?_
 intro zuD _
 refine WL.b (dd:=13) rfl rfl rfl (zk (l:=[.tmp 2,.const (.int .u8 9),.tmp 12]) Tryd.call110 (.cons rfl (.cons rfl (.cons rfl .nil)))) (.cons .h3 (.cons .h1 (.cons .h1 (.cons .here .nil)))) (cc hz (.cons .h3 (.cons .h1 (.cons .h1 (.cons .here .nil)))) fun w pz ho=>y2j _ _ _ _ _ _ _ _ _ _ _ _ _ _ _ _ _ _ zuC w pz  ho) ?_
 refine WL.nil ?_
 obtain rfl:=Option.some.inj h
 refine WX.y9 Tryd.results96 .nil (fun w hw=>?_)
 exact ⟨(some ⟨zuD,0,none⟩),1,yB,trivial,hw.sub (.cons .here (.cons .here (.cons .here (.cons .here .nil))))⟩
def y27 (z1q : Sproc_State) (z2r : Sapi_Ins) (z3j : List Int) (zaW : Int) (zaX : Int) (zaY : Int) (z3H : List Int) : Option (Int × Int) :=
 (yc z1q z2r z3j zaW zaX zaY z3H 10 []).bind fun zgS=>some (zgS.1,zgS.2)
set_option maxRecDepth 20000 in
theorem y5b (Z : Zp) (z9f : Nat) (z66 : Option Addr) (z67 : Nat) (z76 : Option Addr) (z77 : Nat) (z1q : Sproc_State) (z2r : Sapi_Ins) (z3j : List Int) (zaW : Int) (zaX : Int) (zaY : Int) (z3H : List Int) (r : Int × Int)
  (h : y27 z1q z2r z3j zaW zaX zaY z3H = some r) (w₀ : World) (hz : PZ (fps [stb z9f 65 [(.int .i64 z1q.fPc),(.int .i64 z1q.fLeft),(.int .u8 z1q.fRegs.a0),(.int .u8 z1q.fRegs.a1),(.int .u8 z1q.fRegs.a2),(.int .u8 z1q.fRegs.a3),(.int .u8 z2r.fOp),(.int .i64 z2r.fA),(.int .i64 z2r.fB),(.int .i64 z2r.fC),(.slice z66 z3j.length z67),(.int .u8 zaW),(.int .i64 zaX),(.int .i64 zaY),(.slice z76 z3H.length z77)],row (.slice z66 z3j.length z67) 5 1 (z3j.flatMap e5),row (.slice z76 z3H.length z77) 5 1 (z3H.flatMap e5)]) w₀ Z)
  (hown : Hp (fps [stb z9f 65 [(.int .i64 z1q.fPc),(.int .i64 z1q.fLeft),(.int .u8 z1q.fRegs.a0),(.int .u8 z1q.fRegs.a1),(.int .u8 z1q.fRegs.a2),(.int .u8 z1q.fRegs.a3),(.int .u8 z2r.fOp),(.int .i64 z2r.fA),(.int .i64 z2r.fB),(.int .i64 z2r.fC),(.slice z66 z3j.length z67),(.int .u8 zaW),(.int .i64 zaX),(.int .i64 zaY),(.slice z76 z3H.length z77)],row (.slice z66 z3j.length z67) 5 1 (z3j.flatMap e5),row (.slice z76 z3H.length z77) 5 1 (z3H.flatMap e5)]) w₀ w₀ [stb z9f 65 [(.int .i64 z1q.fPc),(.int .i64 z1q.fLeft),(.int .u8 z1q.fRegs.a0),(.int .u8 z1q.fRegs.a1),(.int .u8 z1q.fRegs.a2),(.int .u8 z1q.fRegs.a3),(.int .u8 z2r.fOp),(.int .i64 z2r.fA),(.int .i64 z2r.fB),(.int .i64 z2r.fC),(.slice z66 z3j.length z67),(.int .u8 zaW),(.int .i64 zaX),(.int .i64 zaY),(.slice z76 z3H.length z77)],row (.slice z66 z3j.length z67) 5 1 (z3j.flatMap e5),row (.slice z76 z3H.length z77) 5 1 (z3H.flatMap e5)]) :
  Calls Tryd.prog 97 #[(.pointer (some ⟨z9f,0,none⟩))] w₀ fun e w'=>e = .returned (.tuple #[]) ∧ Hp (fps [stb z9f 65 [(.int .i64 z1q.fPc),(.int .i64 z1q.fLeft),(.int .u8 z1q.fRegs.a0),(.int .u8 z1q.fRegs.a1),(.int .u8 z1q.fRegs.a2),(.int .u8 z1q.fRegs.a3),(.int .u8 z2r.fOp),(.int .i64 z2r.fA),(.int .i64 z2r.fB),(.int .i64 z2r.fC),(.slice z66 z3j.length z67),(.int .u8 zaW),(.int .i64 zaX),(.int .i64 zaY),(.slice z76 z3H.length z77)],row (.slice z66 z3j.length z67) 5 1 (z3j.flatMap e5),row (.slice z76 z3H.length z77) 5 1 (z3H.flatMap e5)]) w₀ w' [stb z9f 65 [(.int .i64 z1q.fPc),(.int .i64 z1q.fLeft),(.int .u8 z1q.fRegs.a0),(.int .u8 z1q.fRegs.a1),(.int .u8 z1q.fRegs.a2),(.int .u8 z1q.fRegs.a3),(.int .u8 z2r.fOp),(.int .i64 z2r.fA),(.int .i64 z2r.fB),(.int .i64 z2r.fC),(.slice z66 z3j.length z67),(.int .u8 r.1),(.int .i64 r.2),(.int .i64 0),(.slice none 0 0)],row (.slice z66 z3j.length z67) 5 1 (z3j.flatMap e5),row (.slice z76 z3H.length z77) 5 1 (z3H.flatMap e5)]:=by
 unfold y27 at h
 refine Calls.y8 (vs:=[(.pointer (some ⟨z9f,0,none⟩))]) (pre:=[stb z9f 65 [(.int .i64 z1q.fPc),(.int .i64 z1q.fLeft),(.int .u8 z1q.fRegs.a0),(.int .u8 z1q.fRegs.a1),(.int .u8 z1q.fRegs.a2),(.int .u8 z1q.fRegs.a3),(.int .u8 z2r.fOp),(.int .i64 z2r.fA),(.int .i64 z2r.fB),(.int .i64 z2r.fC),(.slice z66 z3j.length z67),(.int .u8 zaW),(.int .i64 zaX),(.int .i64 zaY),(.slice z76 z3H.length z77)],row (.slice z66 z3j.length z67) 5 1 (z3j.flatMap e5),row (.slice z76 z3H.length z77) 5 1 (z3H.flatMap e5)]) (env:=[(0,(.pointer (some ⟨z9f,0,none⟩)))]) Tryd.func97 rfl Tryd.ntmps97 rfl (hown) rfl ?_
 obtain ⟨zgS,zuE,h⟩:=zb h
 refine WC.a (WL.pu rfl ?_)
 refine WL.b (dd:=3) rfl rfl rfl (zk (l:=[.tmp 2,.const (.int .u8 10),.const (.slice none 0 0)]) Tryd.call110 (.cons rfl (.cons rfl (.cons rfl .nil)))) (.cons .here (.cons .here (.cons .here .nil))) (cc hz (.cons .here (.cons .here (.cons .here .nil))) fun w pz ho=>yG _ _ _ _ _ _ _ _ _ _ _ _ _ _ _ _ _ _ zuE w pz (ZS.nil _ _ _) ho) ?_
 refine WL.nil ?_
 obtain rfl:=Option.some.inj h
 refine WX.y9 Tryd.results97 .nil (fun w hw=>?_)
 exact ⟨yB,hw.sub (.cons .here (.cons .here (.cons .here .nil)))⟩
def y1T (zU : Sproc_State) (z1A : Sapi_Ins) (z32 : List Int) (z9g : Int) (z9h : Int) (z9i : Int) (z3k : List Int) : Option (Int × Int) :=
 (yj zU z1A z32 z9g z9h z9i z3k z1A.fB).bind fun zuF=>chk ((0 : Int) ≤ z1A.fB ∧ z1A.fB < 4) ((yg zU z1A z32 z9g z9h z9i z3k 11 ([nth ([zU.fRegs.a0,zU.fRegs.a1,zU.fRegs.a2,zU.fRegs.a3] : List Int) z1A.fB] : List Int)).bind fun zgT=>some (zgT.1,zgT.2))
set_option maxRecDepth 20000 in
theorem y4H (Z : Zp) (z9j : Nat) (z68 : Option Addr) (z69 : Nat) (z78 : Option Addr) (z79 : Nat) (zU : Sproc_State) (z1A : Sapi_Ins) (z32 : List Int) (z9g : Int) (z9h : Int) (z9i : Int) (z3k : List Int) (r : Int × Int)
  (h : y1T zU z1A z32 z9g z9h z9i z3k = some r) (w₀ : World) (hz : PZ (fps [stb z9j 65 [(.int .i64 zU.fPc),(.int .i64 zU.fLeft),(.int .u8 zU.fRegs.a0),(.int .u8 zU.fRegs.a1),(.int .u8 zU.fRegs.a2),(.int .u8 zU.fRegs.a3),(.int .u8 z1A.fOp),(.int .i64 z1A.fA),(.int .i64 z1A.fB),(.int .i64 z1A.fC),(.slice z68 z32.length z69),(.int .u8 z9g),(.int .i64 z9h),(.int .i64 z9i),(.slice z78 z3k.length z79)],row (.slice z68 z32.length z69) 5 1 (z32.flatMap e5),row (.slice z78 z3k.length z79) 5 1 (z3k.flatMap e5)]) w₀ Z)
  (hown : Hp (fps [stb z9j 65 [(.int .i64 zU.fPc),(.int .i64 zU.fLeft),(.int .u8 zU.fRegs.a0),(.int .u8 zU.fRegs.a1),(.int .u8 zU.fRegs.a2),(.int .u8 zU.fRegs.a3),(.int .u8 z1A.fOp),(.int .i64 z1A.fA),(.int .i64 z1A.fB),(.int .i64 z1A.fC),(.slice z68 z32.length z69),(.int .u8 z9g),(.int .i64 z9h),(.int .i64 z9i),(.slice z78 z3k.length z79)],row (.slice z68 z32.length z69) 5 1 (z32.flatMap e5),row (.slice z78 z3k.length z79) 5 1 (z3k.flatMap e5)]) w₀ w₀ [stb z9j 65 [(.int .i64 zU.fPc),(.int .i64 zU.fLeft),(.int .u8 zU.fRegs.a0),(.int .u8 zU.fRegs.a1),(.int .u8 zU.fRegs.a2),(.int .u8 zU.fRegs.a3),(.int .u8 z1A.fOp),(.int .i64 z1A.fA),(.int .i64 z1A.fB),(.int .i64 z1A.fC),(.slice z68 z32.length z69),(.int .u8 z9g),(.int .i64 z9h),(.int .i64 z9i),(.slice z78 z3k.length z79)],row (.slice z68 z32.length z69) 5 1 (z32.flatMap e5),row (.slice z78 z3k.length z79) 5 1 (z3k.flatMap e5)]) :
  Calls Tryd.prog 98 #[(.pointer (some ⟨z9j,0,none⟩))] w₀ fun e w'=>∃ zkB : Option Addr,∃ zkC : Nat,e = .returned (.tuple #[]) ∧ True ∧ Hp (fps [stb z9j 65 [(.int .i64 zU.fPc),(.int .i64 zU.fLeft),(.int .u8 zU.fRegs.a0),(.int .u8 zU.fRegs.a1),(.int .u8 zU.fRegs.a2),(.int .u8 zU.fRegs.a3),(.int .u8 z1A.fOp),(.int .i64 z1A.fA),(.int .i64 z1A.fB),(.int .i64 z1A.fC),(.slice z68 z32.length z69),(.int .u8 z9g),(.int .i64 z9h),(.int .i64 z9i),(.slice z78 z3k.length z79)],row (.slice z68 z32.length z69) 5 1 (z32.flatMap e5),row (.slice z78 z3k.length z79) 5 1 (z3k.flatMap e5)]) w₀ w' [stb z9j 65 [(.int .i64 zU.fPc),(.int .i64 zU.fLeft),(.int .u8 zU.fRegs.a0),(.int .u8 zU.fRegs.a1),(.int .u8 zU.fRegs.a2),(.int .u8 zU.fRegs.a3),(.int .u8 z1A.fOp),(.int .i64 z1A.fA),(.int .i64 z1A.fB),(.int .i64 z1A.fC),(.slice z68 z32.length z69),(.int .u8 r.1),(.int .i64 r.2),(.int .i64 0),(.slice zkB (([nth ([zU.fRegs.a0,zU.fRegs.a1,zU.fRegs.a2,zU.fRegs.a3] : List Int) z1A.fB] : List Int).length) zkC)],row (.slice z68 z32.length z69) 5 1 (z32.flatMap e5),row (.slice zkB (([nth ([zU.fRegs.a0,zU.fRegs.a1,zU.fRegs.a2,zU.fRegs.a3] : List Int) z1A.fB] : List Int).length) zkC) 5 1 (([nth ([zU.fRegs.a0,zU.fRegs.a1,zU.fRegs.a2,zU.fRegs.a3] : List Int) z1A.fB] : List Int).flatMap e5),row (.slice z78 z3k.length z79) 5 1 (z3k.flatMap e5)]:=by
 unfold y1T at h
 refine Calls.y8 (vs:=[(.pointer (some ⟨z9j,0,none⟩))]) (pre:=[stb z9j 65 [(.int .i64 zU.fPc),(.int .i64 zU.fLeft),(.int .u8 zU.fRegs.a0),(.int .u8 zU.fRegs.a1),(.int .u8 zU.fRegs.a2),(.int .u8 zU.fRegs.a3),(.int .u8 z1A.fOp),(.int .i64 z1A.fA),(.int .i64 z1A.fB),(.int .i64 z1A.fC),(.slice z68 z32.length z69),(.int .u8 z9g),(.int .i64 z9h),(.int .i64 z9i),(.slice z78 z3k.length z79)],row (.slice z68 z32.length z69) 5 1 (z32.flatMap e5),row (.slice z78 z3k.length z79) 5 1 (z3k.flatMap e5)]) (env:=[(0,(.pointer (some ⟨z9j,0,none⟩)))]) Tryd.func98 rfl Tryd.ntmps98 rfl (hown) rfl ?_
 obtain ⟨zuF,zuG,h⟩:=zb h
 obtain ⟨zuH,h⟩:=ya h
 obtain ⟨zgT,zuI,h⟩:=zb h
 refine WC.a (WL.pu rfl (WL.pu rfl (WL.pu rfl ?_)))
 refine WL.a (d:=5) rfl rfl rfl (y6 rfl) ?_
 refine WL.a (d:=6) rfl rfl rfl (y4 yl rfl rfl) ?_
 refine WL.a (d:=7) rfl rfl rfl (y4 y16 rfl rfl) ?_
 refine WL.a (d:=8) rfl rfl rfl (y5 yd rfl (yb .here rfl)) ?_
 refine WL.b (dd:=9) rfl rfl rfl (zk (l:=[.tmp 3,.tmp 8]) Tryd.call108 (.cons rfl (.cons rfl .nil))) (.cons .h1 (.cons .h1 .nil)) (ccl hz (.cons .h1 (.cons .h1 .nil)) (.cons .here .nil) fun w pz ho la=>yq _ _ _ _ _ _ _ _ _ _ _ _ _ _ _ zuG w pz ((la _ (.head _) _).stb) ho) ?_
 refine WL.a (d:=10) rfl rfl rfl (y6 rfl) ?_
 refine WL.a (d:=11) rfl rfl rfl (y5 yC rfl (yY (l:=([zU.fRegs.a0,zU.fRegs.a1,zU.fRegs.a2,zU.fRegs.a3] : List Int)) (f:=Value.int .u8) (k:=2) (m:=6) .h2 rfl rfl zuH)) ?_
 refine WL.new (dd:=12) rfl rfl rfl (yx (cs:=([nth ([zU.fRegs.a0,zU.fRegs.a1,zU.fRegs.a2,zU.fRegs.a3] : List Int) z1A.fB] : List Int).flatMap e5) y1F (Eos.parts (l:=[.tmp 11]) (.cons rfl .nil) [0]) (fun _=>by kernel_rfl) rfl (by unfold maxLen; omega)) ?_
 intro zuJ _
 refine WL.b (dd:=13) rfl rfl rfl (zk (l:=[.tmp 2,.const (.int .u8 11),.tmp 12]) Tryd.call110 (.cons rfl (.cons rfl (.cons rfl .nil)))) (.cons .h3 (.cons .h1 (.cons .h1 (.cons .here .nil)))) (cc hz (.cons .h3 (.cons .h1 (.cons .h1 (.cons .here .nil)))) fun w pz ho=>y2j _ _ _ _ _ _ _ _ _ _ _ _ _ _ _ _ _ _ zuI w pz  ho) ?_
 refine WL.nil ?_
 obtain rfl:=Option.some.inj h
 refine WX.y9 Tryd.results98 .nil (fun w hw=>?_)
 exact ⟨(some ⟨zuJ,0,none⟩),1,yB,trivial,hw.sub (.cons .here (.cons .here (.cons .here (.cons .here .nil))))⟩
def y1U (z1r : Sproc_State) (z2s : Sapi_Ins) (z3l : List Int) (zaZ : Int) (zb0 : Int) (zb1 : Int) (z3I : List Int) : Option (Int × Int) :=
 (yc z1r z2s z3l zaZ zb0 zb1 z3I 12 []).bind fun zgU=>some (zgU.1,zgU.2)
set_option maxRecDepth 20000 in
theorem y4I (Z : Zp) (z9k : Nat) (z6a : Option Addr) (z6b : Nat) (z7a : Option Addr) (z7b : Nat) (z1r : Sproc_State) (z2s : Sapi_Ins) (z3l : List Int) (zaZ : Int) (zb0 : Int) (zb1 : Int) (z3I : List Int) (r : Int × Int)
  (h : y1U z1r z2s z3l zaZ zb0 zb1 z3I = some r) (w₀ : World) (hz : PZ (fps [stb z9k 65 [(.int .i64 z1r.fPc),(.int .i64 z1r.fLeft),(.int .u8 z1r.fRegs.a0),(.int .u8 z1r.fRegs.a1),(.int .u8 z1r.fRegs.a2),(.int .u8 z1r.fRegs.a3),(.int .u8 z2s.fOp),(.int .i64 z2s.fA),(.int .i64 z2s.fB),(.int .i64 z2s.fC),(.slice z6a z3l.length z6b),(.int .u8 zaZ),(.int .i64 zb0),(.int .i64 zb1),(.slice z7a z3I.length z7b)],row (.slice z6a z3l.length z6b) 5 1 (z3l.flatMap e5),row (.slice z7a z3I.length z7b) 5 1 (z3I.flatMap e5)]) w₀ Z)
  (hown : Hp (fps [stb z9k 65 [(.int .i64 z1r.fPc),(.int .i64 z1r.fLeft),(.int .u8 z1r.fRegs.a0),(.int .u8 z1r.fRegs.a1),(.int .u8 z1r.fRegs.a2),(.int .u8 z1r.fRegs.a3),(.int .u8 z2s.fOp),(.int .i64 z2s.fA),(.int .i64 z2s.fB),(.int .i64 z2s.fC),(.slice z6a z3l.length z6b),(.int .u8 zaZ),(.int .i64 zb0),(.int .i64 zb1),(.slice z7a z3I.length z7b)],row (.slice z6a z3l.length z6b) 5 1 (z3l.flatMap e5),row (.slice z7a z3I.length z7b) 5 1 (z3I.flatMap e5)]) w₀ w₀ [stb z9k 65 [(.int .i64 z1r.fPc),(.int .i64 z1r.fLeft),(.int .u8 z1r.fRegs.a0),(.int .u8 z1r.fRegs.a1),(.int .u8 z1r.fRegs.a2),(.int .u8 z1r.fRegs.a3),(.int .u8 z2s.fOp),(.int .i64 z2s.fA),(.int .i64 z2s.fB),(.int .i64 z2s.fC),(.slice z6a z3l.length z6b),(.int .u8 zaZ),(.int .i64 zb0),(.int .i64 zb1),(.slice z7a z3I.length z7b)],row (.slice z6a z3l.length z6b) 5 1 (z3l.flatMap e5),row (.slice z7a z3I.length z7b) 5 1 (z3I.flatMap e5)]) :
  Calls Tryd.prog 99 #[(.pointer (some ⟨z9k,0,none⟩))] w₀ fun e w'=>e = .returned (.tuple #[]) ∧ Hp (fps [stb z9k 65 [(.int .i64 z1r.fPc),(.int .i64 z1r.fLeft),(.int .u8 z1r.fRegs.a0),(.int .u8 z1r.fRegs.a1),(.int .u8 z1r.fRegs.a2),(.int .u8 z1r.fRegs.a3),(.int .u8 z2s.fOp),(.int .i64 z2s.fA),(.int .i64 z2s.fB),(.int .i64 z2s.fC),(.slice z6a z3l.length z6b),(.int .u8 zaZ),(.int .i64 zb0),(.int .i64 zb1),(.slice z7a z3I.length z7b)],row (.slice z6a z3l.length z6b) 5 1 (z3l.flatMap e5),row (.slice z7a z3I.length z7b) 5 1 (z3I.flatMap e5)]) w₀ w' [stb z9k 65 [(.int .i64 z1r.fPc),(.int .i64 z1r.fLeft),(.int .u8 z1r.fRegs.a0),(.int .u8 z1r.fRegs.a1),(.int .u8 z1r.fRegs.a2),(.int .u8 z1r.fRegs.a3),(.int .u8 z2s.fOp),(.int .i64 z2s.fA),(.int .i64 z2s.fB),(.int .i64 z2s.fC),(.slice z6a z3l.length z6b),(.int .u8 r.1),(.int .i64 r.2),(.int .i64 0),(.slice none 0 0)],row (.slice z6a z3l.length z6b) 5 1 (z3l.flatMap e5),row (.slice z7a z3I.length z7b) 5 1 (z3I.flatMap e5)]:=by
 unfold y1U at h
 refine Calls.y8 (vs:=[(.pointer (some ⟨z9k,0,none⟩))]) (pre:=[stb z9k 65 [(.int .i64 z1r.fPc),(.int .i64 z1r.fLeft),(.int .u8 z1r.fRegs.a0),(.int .u8 z1r.fRegs.a1),(.int .u8 z1r.fRegs.a2),(.int .u8 z1r.fRegs.a3),(.int .u8 z2s.fOp),(.int .i64 z2s.fA),(.int .i64 z2s.fB),(.int .i64 z2s.fC),(.slice z6a z3l.length z6b),(.int .u8 zaZ),(.int .i64 zb0),(.int .i64 zb1),(.slice z7a z3I.length z7b)],row (.slice z6a z3l.length z6b) 5 1 (z3l.flatMap e5),row (.slice z7a z3I.length z7b) 5 1 (z3I.flatMap e5)]) (env:=[(0,(.pointer (some ⟨z9k,0,none⟩)))]) Tryd.func99 rfl Tryd.ntmps99 rfl (hown) rfl ?_
 obtain ⟨zgU,zuK,h⟩:=zb h
 refine WC.a (WL.pu rfl ?_)
 refine WL.b (dd:=3) rfl rfl rfl (zk (l:=[.tmp 2,.const (.int .u8 12),.const (.slice none 0 0)]) Tryd.call110 (.cons rfl (.cons rfl (.cons rfl .nil)))) (.cons .here (.cons .here (.cons .here .nil))) (cc hz (.cons .here (.cons .here (.cons .here .nil))) fun w pz ho=>yG _ _ _ _ _ _ _ _ _ _ _ _ _ _ _ _ _ _ zuK w pz (ZS.nil _ _ _) ho) ?_
 refine WL.nil ?_
 obtain rfl:=Option.some.inj h
 refine WX.y9 Tryd.results99 .nil (fun w hw=>?_)
 exact ⟨yB,hw.sub (.cons .here (.cons .here (.cons .here .nil)))⟩
def y1D (z1s : Sproc_State) (z2t : Sapi_Ins) (z3m : List Int) (zb2 : Int) (zb3 : Int) (zb4 : Int) (z3J : List Int) : Option (Int × Int) :=
 (yc z1s z2t z3m zb2 zb3 zb4 z3J 13 []).bind fun zgV=>some (zgV.1,zgV.2)
set_option maxRecDepth 20000 in
theorem y4p (Z : Zp) (z9l : Nat) (z6c : Option Addr) (z6d : Nat) (z7c : Option Addr) (z7d : Nat) (z1s : Sproc_State) (z2t : Sapi_Ins) (z3m : List Int) (zb2 : Int) (zb3 : Int) (zb4 : Int) (z3J : List Int) (r : Int × Int)
  (h : y1D z1s z2t z3m zb2 zb3 zb4 z3J = some r) (w₀ : World) (hz : PZ (fps [stb z9l 65 [(.int .i64 z1s.fPc),(.int .i64 z1s.fLeft),(.int .u8 z1s.fRegs.a0),(.int .u8 z1s.fRegs.a1),(.int .u8 z1s.fRegs.a2),(.int .u8 z1s.fRegs.a3),(.int .u8 z2t.fOp),(.int .i64 z2t.fA),(.int .i64 z2t.fB),(.int .i64 z2t.fC),(.slice z6c z3m.length z6d),(.int .u8 zb2),(.int .i64 zb3),(.int .i64 zb4),(.slice z7c z3J.length z7d)],row (.slice z6c z3m.length z6d) 5 1 (z3m.flatMap e5),row (.slice z7c z3J.length z7d) 5 1 (z3J.flatMap e5)]) w₀ Z)
  (hown : Hp (fps [stb z9l 65 [(.int .i64 z1s.fPc),(.int .i64 z1s.fLeft),(.int .u8 z1s.fRegs.a0),(.int .u8 z1s.fRegs.a1),(.int .u8 z1s.fRegs.a2),(.int .u8 z1s.fRegs.a3),(.int .u8 z2t.fOp),(.int .i64 z2t.fA),(.int .i64 z2t.fB),(.int .i64 z2t.fC),(.slice z6c z3m.length z6d),(.int .u8 zb2),(.int .i64 zb3),(.int .i64 zb4),(.slice z7c z3J.length z7d)],row (.slice z6c z3m.length z6d) 5 1 (z3m.flatMap e5),row (.slice z7c z3J.length z7d) 5 1 (z3J.flatMap e5)]) w₀ w₀ [stb z9l 65 [(.int .i64 z1s.fPc),(.int .i64 z1s.fLeft),(.int .u8 z1s.fRegs.a0),(.int .u8 z1s.fRegs.a1),(.int .u8 z1s.fRegs.a2),(.int .u8 z1s.fRegs.a3),(.int .u8 z2t.fOp),(.int .i64 z2t.fA),(.int .i64 z2t.fB),(.int .i64 z2t.fC),(.slice z6c z3m.length z6d),(.int .u8 zb2),(.int .i64 zb3),(.int .i64 zb4),(.slice z7c z3J.length z7d)],row (.slice z6c z3m.length z6d) 5 1 (z3m.flatMap e5),row (.slice z7c z3J.length z7d) 5 1 (z3J.flatMap e5)]) :
  Calls Tryd.prog 100 #[(.pointer (some ⟨z9l,0,none⟩))] w₀ fun e w'=>e = .returned (.tuple #[]) ∧ Hp (fps [stb z9l 65 [(.int .i64 z1s.fPc),(.int .i64 z1s.fLeft),(.int .u8 z1s.fRegs.a0),(.int .u8 z1s.fRegs.a1),(.int .u8 z1s.fRegs.a2),(.int .u8 z1s.fRegs.a3),(.int .u8 z2t.fOp),(.int .i64 z2t.fA),(.int .i64 z2t.fB),(.int .i64 z2t.fC),(.slice z6c z3m.length z6d),(.int .u8 zb2),(.int .i64 zb3),(.int .i64 zb4),(.slice z7c z3J.length z7d)],row (.slice z6c z3m.length z6d) 5 1 (z3m.flatMap e5),row (.slice z7c z3J.length z7d) 5 1 (z3J.flatMap e5)]) w₀ w' [stb z9l 65 [(.int .i64 z1s.fPc),(.int .i64 z1s.fLeft),(.int .u8 z1s.fRegs.a0),(.int .u8 z1s.fRegs.a1),(.int .u8 z1s.fRegs.a2),(.int .u8 z1s.fRegs.a3),(.int .u8 z2t.fOp),(.int .i64 z2t.fA),(.int .i64 z2t.fB),(.int .i64 z2t.fC),(.slice z6c z3m.length z6d),(.int .u8 r.1),(.int .i64 r.2),(.int .i64 0),(.slice none 0 0)],row (.slice z6c z3m.length z6d) 5 1 (z3m.flatMap e5),row (.slice z7c z3J.length z7d) 5 1 (z3J.flatMap e5)]:=by
 unfold y1D at h
 refine Calls.y8 (vs:=[(.pointer (some ⟨z9l,0,none⟩))]) (pre:=[stb z9l 65 [(.int .i64 z1s.fPc),(.int .i64 z1s.fLeft),(.int .u8 z1s.fRegs.a0),(.int .u8 z1s.fRegs.a1),(.int .u8 z1s.fRegs.a2),(.int .u8 z1s.fRegs.a3),(.int .u8 z2t.fOp),(.int .i64 z2t.fA),(.int .i64 z2t.fB),(.int .i64 z2t.fC),(.slice z6c z3m.length z6d),(.int .u8 zb2),(.int .i64 zb3),(.int .i64 zb4),(.slice z7c z3J.length z7d)],row (.slice z6c z3m.length z6d) 5 1 (z3m.flatMap e5),row (.slice z7c z3J.length z7d) 5 1 (z3J.flatMap e5)]) (env:=[(0,(.pointer (some ⟨z9l,0,none⟩)))]) Tryd.func100 rfl Tryd.ntmps100 rfl (hown) rfl ?_
 obtain ⟨zgV,zuL,h⟩:=zb h
 refine WC.a (WL.pu rfl ?_)
 refine WL.b (dd:=3) rfl rfl rfl (zk (l:=[.tmp 2,.const (.int .u8 13),.const (.slice none 0 0)]) Tryd.call110 (.cons rfl (.cons rfl (.cons rfl .nil)))) (.cons .here (.cons .here (.cons .here .nil))) (cc hz (.cons .here (.cons .here (.cons .here .nil))) fun w pz ho=>yG _ _ _ _ _ _ _ _ _ _ _ _ _ _ _ _ _ _ zuL w pz (ZS.nil _ _ _) ho) ?_
 refine WL.nil ?_
 obtain rfl:=Option.some.inj h
 refine WX.y9 Tryd.results100 .nil (fun w hw=>?_)
 exact ⟨yB,hw.sub (.cons .here (.cons .here (.cons .here .nil)))⟩
def y1V (z1d : Sproc_State) (z2a : Sapi_Ins) (z3n : List Int) (zbW : Int) (zbX : Int) (zbY : Int) (z3T : List Int) : Option Unit :=
 some ()
set_option maxRecDepth 20000 in
theorem y4J (Z : Zp) (z9m : Nat) (z58 : Option Addr) (z59 : Nat) (z7e : Option Addr) (z7f : Nat) (z1d : Sproc_State) (z2a : Sapi_Ins) (z3n : List Int) (zbW : Int) (zbX : Int) (zbY : Int) (z3T : List Int) (r : Unit)
  (h : y1V z1d z2a z3n zbW zbX zbY z3T = some r) (w₀ : World) (hz : PZ (fps [stb z9m 65 [(.int .i64 z1d.fPc),(.int .i64 z1d.fLeft),(.int .u8 z1d.fRegs.a0),(.int .u8 z1d.fRegs.a1),(.int .u8 z1d.fRegs.a2),(.int .u8 z1d.fRegs.a3),(.int .u8 z2a.fOp),(.int .i64 z2a.fA),(.int .i64 z2a.fB),(.int .i64 z2a.fC),(.slice z58 z3n.length z59),(.int .u8 zbW),(.int .i64 zbX),(.int .i64 zbY),(.slice z7e z3T.length z7f)],row (.slice z58 z3n.length z59) 5 1 (z3n.flatMap e5),row (.slice z7e z3T.length z7f) 5 1 (z3T.flatMap e5)]) w₀ Z)
  (hown : Hp (fps [stb z9m 65 [(.int .i64 z1d.fPc),(.int .i64 z1d.fLeft),(.int .u8 z1d.fRegs.a0),(.int .u8 z1d.fRegs.a1),(.int .u8 z1d.fRegs.a2),(.int .u8 z1d.fRegs.a3),(.int .u8 z2a.fOp),(.int .i64 z2a.fA),(.int .i64 z2a.fB),(.int .i64 z2a.fC),(.slice z58 z3n.length z59),(.int .u8 zbW),(.int .i64 zbX),(.int .i64 zbY),(.slice z7e z3T.length z7f)],row (.slice z58 z3n.length z59) 5 1 (z3n.flatMap e5),row (.slice z7e z3T.length z7f) 5 1 (z3T.flatMap e5)]) w₀ w₀ [stb z9m 65 [(.int .i64 z1d.fPc),(.int .i64 z1d.fLeft),(.int .u8 z1d.fRegs.a0),(.int .u8 z1d.fRegs.a1),(.int .u8 z1d.fRegs.a2),(.int .u8 z1d.fRegs.a3),(.int .u8 z2a.fOp),(.int .i64 z2a.fA),(.int .i64 z2a.fB),(.int .i64 z2a.fC),(.slice z58 z3n.length z59),(.int .u8 zbW),(.int .i64 zbX),(.int .i64 zbY),(.slice z7e z3T.length z7f)],row (.slice z58 z3n.length z59) 5 1 (z3n.flatMap e5),row (.slice z7e z3T.length z7f) 5 1 (z3T.flatMap e5)]) :
  Calls Tryd.prog 101 #[(.pointer (some ⟨z9m,0,none⟩))] w₀ fun e w'=>e = .returned (.tuple #[]) ∧ Hp (fps [stb z9m 65 [(.int .i64 z1d.fPc),(.int .i64 z1d.fLeft),(.int .u8 z1d.fRegs.a0),(.int .u8 z1d.fRegs.a1),(.int .u8 z1d.fRegs.a2),(.int .u8 z1d.fRegs.a3),(.int .u8 z2a.fOp),(.int .i64 z2a.fA),(.int .i64 z2a.fB),(.int .i64 z2a.fC),(.slice z58 z3n.length z59),(.int .u8 zbW),(.int .i64 zbX),(.int .i64 zbY),(.slice z7e z3T.length z7f)],row (.slice z58 z3n.length z59) 5 1 (z3n.flatMap e5),row (.slice z7e z3T.length z7f) 5 1 (z3T.flatMap e5)]) w₀ w' [stb z9m 65 [(.int .i64 z1d.fPc),(.int .i64 z1d.fLeft),(.int .u8 z1d.fRegs.a0),(.int .u8 z1d.fRegs.a1),(.int .u8 z1d.fRegs.a2),(.int .u8 z1d.fRegs.a3),(.int .u8 z2a.fOp),(.int .i64 z2a.fA),(.int .i64 z2a.fB),(.int .i64 z2a.fC),(.slice z58 z3n.length z59),(.int .u8 14),(.int .i64 0),(.int .i64 0),(.slice none 0 0)],row (.slice z58 z3n.length z59) 5 1 (z3n.flatMap e5),row (.slice z7e z3T.length z7f) 5 1 (z3T.flatMap e5)]:=by
 unfold y1V at h
 refine Calls.y8 (vs:=[(.pointer (some ⟨z9m,0,none⟩))]) (pre:=[stb z9m 65 [(.int .i64 z1d.fPc),(.int .i64 z1d.fLeft),(.int .u8 z1d.fRegs.a0),(.int .u8 z1d.fRegs.a1),(.int .u8 z1d.fRegs.a2),(.int .u8 z1d.fRegs.a3),(.int .u8 z2a.fOp),(.int .i64 z2a.fA),(.int .i64 z2a.fB),(.int .i64 z2a.fC),(.slice z58 z3n.length z59),(.int .u8 zbW),(.int .i64 zbX),(.int .i64 zbY),(.slice z7e z3T.length z7f)],row (.slice z58 z3n.length z59) 5 1 (z3n.flatMap e5),row (.slice z7e z3T.length z7f) 5 1 (z3T.flatMap e5)]) (env:=[(0,(.pointer (some ⟨z9m,0,none⟩)))]) Tryd.func101 rfl Tryd.ntmps101 rfl (hown) rfl ?_
 refine WC.a (WL.pu rfl ?_)
 refine WL.a (d:=3) rfl rfl rfl (yP (v:=(.agg #[(.int .u8 14),(.int .i64 0),(.int .i64 0),(.slice none 0 0)])) (Eos.parts (l:=[.const (.int .u8 14)]) (.cons rfl .nil) [0]) (fun _=>by kernel_rfl)) ?_
 refine WL.a (d:=4) rfl rfl rfl (y6 rfl) ?_
 refine WL.a (d:=5) rfl rfl rfl (y4 y2f rfl rfl) ?_
 refine WL.yf rfl rfl (yK (ds:=[(.int .i64 z1d.fPc),(.int .i64 z1d.fLeft),(.int .u8 z1d.fRegs.a0),(.int .u8 z1d.fRegs.a1),(.int .u8 z1d.fRegs.a2),(.int .u8 z1d.fRegs.a3),(.int .u8 z2a.fOp),(.int .i64 z2a.fA),(.int .i64 z2a.fB),(.int .i64 z2a.fC),(.slice z58 z3n.length z59),(.int .u8 14),(.int .i64 0),(.int .i64 0),(.slice none 0 0)]) yV rfl rfl rfl rfl rfl .here rfl rfl) ?_
 refine WL.nil ?_
 skip
 refine WX.y9 Tryd.results101 .nil (fun w hw=>?_)
 exact ⟨yB,hw.sub (.cons .here (.cons .here (.cons .here .nil)))⟩
def y1W (z1h : Sproc_State) (z1J : Sapi_Ins) (z3o : List Int) (z9n : Int) (z9o : Int) (z9p : Int) (z3p : List Int) : Option Int :=
 some z1J.fA
set_option maxRecDepth 20000 in
theorem y4K (Z : Zp) (z9q : Nat) (z5a : Option Addr) (z5b : Nat) (z5c : Option Addr) (z5d : Nat) (z1h : Sproc_State) (z1J : Sapi_Ins) (z3o : List Int) (z9n : Int) (z9o : Int) (z9p : Int) (z3p : List Int) (r : Int)
  (h : y1W z1h z1J z3o z9n z9o z9p z3p = some r) (w₀ : World) (hz : PZ (fps [stb z9q 65 [(.int .i64 z1h.fPc),(.int .i64 z1h.fLeft),(.int .u8 z1h.fRegs.a0),(.int .u8 z1h.fRegs.a1),(.int .u8 z1h.fRegs.a2),(.int .u8 z1h.fRegs.a3),(.int .u8 z1J.fOp),(.int .i64 z1J.fA),(.int .i64 z1J.fB),(.int .i64 z1J.fC),(.slice z5a z3o.length z5b),(.int .u8 z9n),(.int .i64 z9o),(.int .i64 z9p),(.slice z5c z3p.length z5d)],row (.slice z5a z3o.length z5b) 5 1 (z3o.flatMap e5),row (.slice z5c z3p.length z5d) 5 1 (z3p.flatMap e5)]) w₀ Z)
  (hown : Hp (fps [stb z9q 65 [(.int .i64 z1h.fPc),(.int .i64 z1h.fLeft),(.int .u8 z1h.fRegs.a0),(.int .u8 z1h.fRegs.a1),(.int .u8 z1h.fRegs.a2),(.int .u8 z1h.fRegs.a3),(.int .u8 z1J.fOp),(.int .i64 z1J.fA),(.int .i64 z1J.fB),(.int .i64 z1J.fC),(.slice z5a z3o.length z5b),(.int .u8 z9n),(.int .i64 z9o),(.int .i64 z9p),(.slice z5c z3p.length z5d)],row (.slice z5a z3o.length z5b) 5 1 (z3o.flatMap e5),row (.slice z5c z3p.length z5d) 5 1 (z3p.flatMap e5)]) w₀ w₀ [stb z9q 65 [(.int .i64 z1h.fPc),(.int .i64 z1h.fLeft),(.int .u8 z1h.fRegs.a0),(.int .u8 z1h.fRegs.a1),(.int .u8 z1h.fRegs.a2),(.int .u8 z1h.fRegs.a3),(.int .u8 z1J.fOp),(.int .i64 z1J.fA),(.int .i64 z1J.fB),(.int .i64 z1J.fC),(.slice z5a z3o.length z5b),(.int .u8 z9n),(.int .i64 z9o),(.int .i64 z9p),(.slice z5c z3p.length z5d)],row (.slice z5a z3o.length z5b) 5 1 (z3o.flatMap e5),row (.slice z5c z3p.length z5d) 5 1 (z3p.flatMap e5)]) :
  Calls Tryd.prog 102 #[(.pointer (some ⟨z9q,0,none⟩))] w₀ fun e w'=>e = .returned (.tuple #[]) ∧ Hp (fps [stb z9q 65 [(.int .i64 z1h.fPc),(.int .i64 z1h.fLeft),(.int .u8 z1h.fRegs.a0),(.int .u8 z1h.fRegs.a1),(.int .u8 z1h.fRegs.a2),(.int .u8 z1h.fRegs.a3),(.int .u8 z1J.fOp),(.int .i64 z1J.fA),(.int .i64 z1J.fB),(.int .i64 z1J.fC),(.slice z5a z3o.length z5b),(.int .u8 z9n),(.int .i64 z9o),(.int .i64 z9p),(.slice z5c z3p.length z5d)],row (.slice z5a z3o.length z5b) 5 1 (z3o.flatMap e5),row (.slice z5c z3p.length z5d) 5 1 (z3p.flatMap e5)]) w₀ w' [stb z9q 65 [(.int .i64 r),(.int .i64 z1h.fLeft),(.int .u8 z1h.fRegs.a0),(.int .u8 z1h.fRegs.a1),(.int .u8 z1h.fRegs.a2),(.int .u8 z1h.fRegs.a3),(.int .u8 z1J.fOp),(.int .i64 z1J.fA),(.int .i64 z1J.fB),(.int .i64 z1J.fC),(.slice z5a z3o.length z5b),(.int .u8 z9n),(.int .i64 z9o),(.int .i64 z9p),(.slice z5c z3p.length z5d)],row (.slice z5a z3o.length z5b) 5 1 (z3o.flatMap e5),row (.slice z5c z3p.length z5d) 5 1 (z3p.flatMap e5)]:=by
 unfold y1W at h
 refine Calls.y8 (vs:=[(.pointer (some ⟨z9q,0,none⟩))]) (pre:=[stb z9q 65 [(.int .i64 z1h.fPc),(.int .i64 z1h.fLeft),(.int .u8 z1h.fRegs.a0),(.int .u8 z1h.fRegs.a1),(.int .u8 z1h.fRegs.a2),(.int .u8 z1h.fRegs.a3),(.int .u8 z1J.fOp),(.int .i64 z1J.fA),(.int .i64 z1J.fB),(.int .i64 z1J.fC),(.slice z5a z3o.length z5b),(.int .u8 z9n),(.int .i64 z9o),(.int .i64 z9p),(.slice z5c z3p.length z5d)],row (.slice z5a z3o.length z5b) 5 1 (z3o.flatMap e5),row (.slice z5c z3p.length z5d) 5 1 (z3p.flatMap e5)]) (env:=[(0,(.pointer (some ⟨z9q,0,none⟩)))]) Tryd.func102 rfl Tryd.ntmps102 rfl (hown) rfl ?_
 refine WC.a (WL.pu rfl (WL.pu rfl ?_))
 refine WL.a (d:=4) rfl rfl rfl (y6 rfl) ?_
 refine WL.a (d:=5) rfl rfl rfl (y4 yl rfl rfl) ?_
 refine WL.a (d:=6) rfl rfl rfl (y4 yR rfl rfl) ?_
 refine WL.a (d:=7) rfl rfl rfl (y5 yd rfl (yb .here rfl)) ?_
 refine WL.a (d:=8) rfl rfl rfl (y6 rfl) ?_
 refine WL.a (d:=9) rfl rfl rfl (y4 yH rfl rfl) ?_
 refine WL.a (d:=10) rfl rfl rfl (y4 y1d rfl rfl) ?_
 refine WL.yf rfl rfl (yK (ds:=[(.int .i64 z1J.fA),(.int .i64 z1h.fLeft),(.int .u8 z1h.fRegs.a0),(.int .u8 z1h.fRegs.a1),(.int .u8 z1h.fRegs.a2),(.int .u8 z1h.fRegs.a3),(.int .u8 z1J.fOp),(.int .i64 z1J.fA),(.int .i64 z1J.fB),(.int .i64 z1J.fC),(.slice z5a z3o.length z5b),(.int .u8 z9n),(.int .i64 z9o),(.int .i64 z9p),(.slice z5c z3p.length z5d)]) y20 rfl rfl rfl rfl rfl .here rfl rfl) ?_
 refine WL.nil ?_
 obtain rfl:=Option.some.inj h
 refine WX.y9 Tryd.results102 .nil (fun w hw=>?_)
 exact ⟨yB,hw.sub (.cons .here (.cons .here (.cons .here .nil)))⟩
def y1X (z12 : Sproc_State) (z1x : Sapi_Ins) (z33 : List Int) (z7M : Int) (z7N : Int) (z7O : Int) (z34 : List Int) : Option Int :=
 (yj z12 z1x z33 z7M z7N z7O z34 z1x.fA).bind fun zuM=>chk ((0 : Int) ≤ z1x.fA ∧ z1x.fA < 4) (if decide ((nth ([z12.fRegs.a0,z12.fRegs.a1,z12.fRegs.a2,z12.fRegs.a3] : List Int) z1x.fA) = 0) then some z1x.fB else some z12.fPc)
set_option maxRecDepth 20000 in
theorem y4L (Z : Zp) (z9r : Nat) (z5e : Option Addr) (z5f : Nat) (z5g : Option Addr) (z5h : Nat) (z12 : Sproc_State) (z1x : Sapi_Ins) (z33 : List Int) (z7M : Int) (z7N : Int) (z7O : Int) (z34 : List Int) (r : Int)
  (h : y1X z12 z1x z33 z7M z7N z7O z34 = some r) (w₀ : World) (hz : PZ (fps [stb z9r 65 [(.int .i64 z12.fPc),(.int .i64 z12.fLeft),(.int .u8 z12.fRegs.a0),(.int .u8 z12.fRegs.a1),(.int .u8 z12.fRegs.a2),(.int .u8 z12.fRegs.a3),(.int .u8 z1x.fOp),(.int .i64 z1x.fA),(.int .i64 z1x.fB),(.int .i64 z1x.fC),(.slice z5e z33.length z5f),(.int .u8 z7M),(.int .i64 z7N),(.int .i64 z7O),(.slice z5g z34.length z5h)],row (.slice z5e z33.length z5f) 5 1 (z33.flatMap e5),row (.slice z5g z34.length z5h) 5 1 (z34.flatMap e5)]) w₀ Z)
  (hown : Hp (fps [stb z9r 65 [(.int .i64 z12.fPc),(.int .i64 z12.fLeft),(.int .u8 z12.fRegs.a0),(.int .u8 z12.fRegs.a1),(.int .u8 z12.fRegs.a2),(.int .u8 z12.fRegs.a3),(.int .u8 z1x.fOp),(.int .i64 z1x.fA),(.int .i64 z1x.fB),(.int .i64 z1x.fC),(.slice z5e z33.length z5f),(.int .u8 z7M),(.int .i64 z7N),(.int .i64 z7O),(.slice z5g z34.length z5h)],row (.slice z5e z33.length z5f) 5 1 (z33.flatMap e5),row (.slice z5g z34.length z5h) 5 1 (z34.flatMap e5)]) w₀ w₀ [stb z9r 65 [(.int .i64 z12.fPc),(.int .i64 z12.fLeft),(.int .u8 z12.fRegs.a0),(.int .u8 z12.fRegs.a1),(.int .u8 z12.fRegs.a2),(.int .u8 z12.fRegs.a3),(.int .u8 z1x.fOp),(.int .i64 z1x.fA),(.int .i64 z1x.fB),(.int .i64 z1x.fC),(.slice z5e z33.length z5f),(.int .u8 z7M),(.int .i64 z7N),(.int .i64 z7O),(.slice z5g z34.length z5h)],row (.slice z5e z33.length z5f) 5 1 (z33.flatMap e5),row (.slice z5g z34.length z5h) 5 1 (z34.flatMap e5)]) :
  Calls Tryd.prog 103 #[(.pointer (some ⟨z9r,0,none⟩))] w₀ fun e w'=>e = .returned (.tuple #[]) ∧ Hp (fps [stb z9r 65 [(.int .i64 z12.fPc),(.int .i64 z12.fLeft),(.int .u8 z12.fRegs.a0),(.int .u8 z12.fRegs.a1),(.int .u8 z12.fRegs.a2),(.int .u8 z12.fRegs.a3),(.int .u8 z1x.fOp),(.int .i64 z1x.fA),(.int .i64 z1x.fB),(.int .i64 z1x.fC),(.slice z5e z33.length z5f),(.int .u8 z7M),(.int .i64 z7N),(.int .i64 z7O),(.slice z5g z34.length z5h)],row (.slice z5e z33.length z5f) 5 1 (z33.flatMap e5),row (.slice z5g z34.length z5h) 5 1 (z34.flatMap e5)]) w₀ w' [stb z9r 65 [(.int .i64 r),(.int .i64 z12.fLeft),(.int .u8 z12.fRegs.a0),(.int .u8 z12.fRegs.a1),(.int .u8 z12.fRegs.a2),(.int .u8 z12.fRegs.a3),(.int .u8 z1x.fOp),(.int .i64 z1x.fA),(.int .i64 z1x.fB),(.int .i64 z1x.fC),(.slice z5e z33.length z5f),(.int .u8 z7M),(.int .i64 z7N),(.int .i64 z7O),(.slice z5g z34.length z5h)],row (.slice z5e z33.length z5f) 5 1 (z33.flatMap e5),row (.slice z5g z34.length z5h) 5 1 (z34.flatMap e5)]:=by
 unfold y1X at h
 refine Calls.y8 (vs:=[(.pointer (some ⟨z9r,0,none⟩))]) (pre:=[stb z9r 65 [(.int .i64 z12.fPc),(.int .i64 z12.fLeft),(.int .u8 z12.fRegs.a0),(.int .u8 z12.fRegs.a1),(.int .u8 z12.fRegs.a2),(.int .u8 z12.fRegs.a3),(.int .u8 z1x.fOp),(.int .i64 z1x.fA),(.int .i64 z1x.fB),(.int .i64 z1x.fC),(.slice z5e z33.length z5f),(.int .u8 z7M),(.int .i64 z7N),(.int .i64 z7O),(.slice z5g z34.length z5h)],row (.slice z5e z33.length z5f) 5 1 (z33.flatMap e5),row (.slice z5g z34.length z5h) 5 1 (z34.flatMap e5)]) (env:=[(0,(.pointer (some ⟨z9r,0,none⟩)))]) Tryd.func103 rfl Tryd.ntmps103 rfl (hown) rfl ?_
 refine WC.b ?_
 obtain ⟨zuM,zuN,h⟩:=zb h
 obtain ⟨zuO,h⟩:=ya h
 refine WC.a (WL.pu rfl (WL.pu rfl ?_))
 refine WL.a (d:=4) rfl rfl rfl (y6 rfl) ?_
 refine WL.a (d:=5) rfl rfl rfl (y4 yl rfl rfl) ?_
 refine WL.a (d:=6) rfl rfl rfl (y4 yR rfl rfl) ?_
 refine WL.a (d:=7) rfl rfl rfl (y5 yd rfl (yb .here rfl)) ?_
 refine WL.b (dd:=8) rfl rfl rfl (zk (l:=[.tmp 2,.tmp 7]) Tryd.call108 (.cons rfl (.cons rfl .nil))) (.cons .h1 (.cons .h1 .nil)) (ccl hz (.cons .h1 (.cons .h1 .nil)) (.cons .here .nil) fun w pz ho la=>yq _ _ _ _ _ _ _ _ _ _ _ _ _ _ _ zuN w pz ((la _ (.head _) _).stb) ho) ?_
 refine WL.a (d:=9) rfl rfl rfl (y6 rfl) ?_
 refine WL.a (d:=10) rfl rfl rfl (y5 yC rfl (yY (l:=([z12.fRegs.a0,z12.fRegs.a1,z12.fRegs.a2,z12.fRegs.a3] : List Int)) (f:=Value.int .u8) (k:=2) (m:=6) .h2 rfl rfl zuO)) ?_
 refine WL.pu rfl (WL.nil (WX.a ?_))
 refine WC.cond rfl (fun zgW=>?_) (fun zgW=>?_)
 ·replace h:=ym h zgW
  refine WC.a (WL.pu rfl (WL.pu rfl ?_))
  refine WL.a (d:=14) rfl rfl rfl (y6 rfl) ?_
  refine WL.a (d:=15) rfl rfl rfl (y4 yl rfl rfl) ?_
  refine WL.a (d:=16) rfl rfl rfl (y4 y16 rfl rfl) ?_
  refine WL.a (d:=17) rfl rfl rfl (y5 yd rfl (yb .h2 rfl)) ?_
  refine WL.a (d:=18) rfl rfl rfl (y6 rfl) ?_
  refine WL.a (d:=19) rfl rfl rfl (y4 yH rfl rfl) ?_
  refine WL.a (d:=20) rfl rfl rfl (y4 y1d rfl rfl) ?_
  refine WL.yf rfl rfl (yK (ds:=[(.int .i64 z1x.fB),(.int .i64 z12.fLeft),(.int .u8 z12.fRegs.a0),(.int .u8 z12.fRegs.a1),(.int .u8 z12.fRegs.a2),(.int .u8 z12.fRegs.a3),(.int .u8 z1x.fOp),(.int .i64 z1x.fA),(.int .i64 z1x.fB),(.int .i64 z1x.fC),(.slice z5e z33.length z5f),(.int .u8 z7M),(.int .i64 z7N),(.int .i64 z7O),(.slice z5g z34.length z5h)]) y20 rfl rfl rfl rfl rfl .h2 rfl rfl) ?_
  refine WL.nil ?_
  obtain rfl:=Option.some.inj h
  refine WX.y9 Tryd.results103 .nil (fun w hw=>?_)
  exact ⟨yB,hw.sub (.cons .here (.cons .here (.cons .here .nil)))⟩
 ·replace h:=yn h zgW
  refine WC.skip ?_
  obtain rfl:=Option.some.inj h
  refine WX.y9 Tryd.results103 .nil (fun w hw=>?_)
  exact ⟨yB,hw.sub (.cons .h2 (.cons .here (.cons .here .nil)))⟩
def y1Y (zR : Sproc_State) (z18 : Sapi_Ins) (z2G : List Int) (z6e : Int) (z6f : Int) (z6g : Int) (z2H : List Int) : Option Int :=
 (yj zR z18 z2G z6e z6f z6g z2H z18.fA).bind fun zuP=>chk ((0 : Int) ≤ z18.fA ∧ z18.fA < 4) ((yj zR z18 z2G z6e z6f z6g z2H z18.fB).bind fun zuQ=>chk ((0 : Int) ≤ z18.fB ∧ z18.fB < 4) (if decide ((nth ([zR.fRegs.a0,zR.fRegs.a1,zR.fRegs.a2,zR.fRegs.a3] : List Int) z18.fA) < (nth ([zR.fRegs.a0,zR.fRegs.a1,zR.fRegs.a2,zR.fRegs.a3] : List Int) z18.fB)) then some z18.fC else some zR.fPc))
set_option maxRecDepth 20000 in
theorem y4M (Z : Zp) (z7P : Nat) (z4H : Option Addr) (z4I : Nat) (z4J : Option Addr) (z4K : Nat) (zR : Sproc_State) (z18 : Sapi_Ins) (z2G : List Int) (z6e : Int) (z6f : Int) (z6g : Int) (z2H : List Int) (r : Int)
  (h : y1Y zR z18 z2G z6e z6f z6g z2H = some r) (w₀ : World) (hz : PZ (fps [stb z7P 65 [(.int .i64 zR.fPc),(.int .i64 zR.fLeft),(.int .u8 zR.fRegs.a0),(.int .u8 zR.fRegs.a1),(.int .u8 zR.fRegs.a2),(.int .u8 zR.fRegs.a3),(.int .u8 z18.fOp),(.int .i64 z18.fA),(.int .i64 z18.fB),(.int .i64 z18.fC),(.slice z4H z2G.length z4I),(.int .u8 z6e),(.int .i64 z6f),(.int .i64 z6g),(.slice z4J z2H.length z4K)],row (.slice z4H z2G.length z4I) 5 1 (z2G.flatMap e5),row (.slice z4J z2H.length z4K) 5 1 (z2H.flatMap e5)]) w₀ Z)
  (hown : Hp (fps [stb z7P 65 [(.int .i64 zR.fPc),(.int .i64 zR.fLeft),(.int .u8 zR.fRegs.a0),(.int .u8 zR.fRegs.a1),(.int .u8 zR.fRegs.a2),(.int .u8 zR.fRegs.a3),(.int .u8 z18.fOp),(.int .i64 z18.fA),(.int .i64 z18.fB),(.int .i64 z18.fC),(.slice z4H z2G.length z4I),(.int .u8 z6e),(.int .i64 z6f),(.int .i64 z6g),(.slice z4J z2H.length z4K)],row (.slice z4H z2G.length z4I) 5 1 (z2G.flatMap e5),row (.slice z4J z2H.length z4K) 5 1 (z2H.flatMap e5)]) w₀ w₀ [stb z7P 65 [(.int .i64 zR.fPc),(.int .i64 zR.fLeft),(.int .u8 zR.fRegs.a0),(.int .u8 zR.fRegs.a1),(.int .u8 zR.fRegs.a2),(.int .u8 zR.fRegs.a3),(.int .u8 z18.fOp),(.int .i64 z18.fA),(.int .i64 z18.fB),(.int .i64 z18.fC),(.slice z4H z2G.length z4I),(.int .u8 z6e),(.int .i64 z6f),(.int .i64 z6g),(.slice z4J z2H.length z4K)],row (.slice z4H z2G.length z4I) 5 1 (z2G.flatMap e5),row (.slice z4J z2H.length z4K) 5 1 (z2H.flatMap e5)]) :
  Calls Tryd.prog 104 #[(.pointer (some ⟨z7P,0,none⟩))] w₀ fun e w'=>e = .returned (.tuple #[]) ∧ Hp (fps [stb z7P 65 [(.int .i64 zR.fPc),(.int .i64 zR.fLeft),(.int .u8 zR.fRegs.a0),(.int .u8 zR.fRegs.a1),(.int .u8 zR.fRegs.a2),(.int .u8 zR.fRegs.a3),(.int .u8 z18.fOp),(.int .i64 z18.fA),(.int .i64 z18.fB),(.int .i64 z18.fC),(.slice z4H z2G.length z4I),(.int .u8 z6e),(.int .i64 z6f),(.int .i64 z6g),(.slice z4J z2H.length z4K)],row (.slice z4H z2G.length z4I) 5 1 (z2G.flatMap e5),row (.slice z4J z2H.length z4K) 5 1 (z2H.flatMap e5)]) w₀ w' [stb z7P 65 [(.int .i64 r),(.int .i64 zR.fLeft),(.int .u8 zR.fRegs.a0),(.int .u8 zR.fRegs.a1),(.int .u8 zR.fRegs.a2),(.int .u8 zR.fRegs.a3),(.int .u8 z18.fOp),(.int .i64 z18.fA),(.int .i64 z18.fB),(.int .i64 z18.fC),(.slice z4H z2G.length z4I),(.int .u8 z6e),(.int .i64 z6f),(.int .i64 z6g),(.slice z4J z2H.length z4K)],row (.slice z4H z2G.length z4I) 5 1 (z2G.flatMap e5),row (.slice z4J z2H.length z4K) 5 1 (z2H.flatMap e5)]:=by
 unfold y1Y at h
 refine Calls.y8 (vs:=[(.pointer (some ⟨z7P,0,none⟩))]) (pre:=[stb z7P 65 [(.int .i64 zR.fPc),(.int .i64 zR.fLeft),(.int .u8 zR.fRegs.a0),(.int .u8 zR.fRegs.a1),(.int .u8 zR.fRegs.a2),(.int .u8 zR.fRegs.a3),(.int .u8 z18.fOp),(.int .i64 z18.fA),(.int .i64 z18.fB),(.int .i64 z18.fC),(.slice z4H z2G.length z4I),(.int .u8 z6e),(.int .i64 z6f),(.int .i64 z6g),(.slice z4J z2H.length z4K)],row (.slice z4H z2G.length z4I) 5 1 (z2G.flatMap e5),row (.slice z4J z2H.length z4K) 5 1 (z2H.flatMap e5)]) (env:=[(0,(.pointer (some ⟨z7P,0,none⟩)))]) Tryd.func104 rfl Tryd.ntmps104 rfl (hown) rfl ?_
 refine WC.b ?_
 obtain ⟨zuP,zuR,h⟩:=zb h
 obtain ⟨zuS,h⟩:=ya h
 obtain ⟨zuQ,zuT,h⟩:=zb h
 obtain ⟨zuU,h⟩:=ya h
 refine WC.y11 (fun i=>[6,15].contains i) [stb z7P 65 [(.int .i64 zR.fPc),(.int .i64 zR.fLeft),(.int .u8 zR.fRegs.a0),(.int .u8 zR.fRegs.a1),(.int .u8 zR.fRegs.a2),(.int .u8 zR.fRegs.a3),(.int .u8 z18.fOp),(.int .i64 z18.fA),(.int .i64 z18.fB),(.int .i64 z18.fC),(.slice z4H z2G.length z4I),(.int .u8 z6e),(.int .i64 z6f),(.int .i64 z6g),(.slice z4J z2H.length z4K)]] rfl ?_
 refine WD.a (i:=0) (d:=2) (by kernel_rfl) rfl z2 z6 rfl rfl rfl (fun _=>q_m rfl) ?_
 refine WD.a (i:=1) (d:=3) (by kernel_rfl) rfl z2 z6 rfl rfl rfl (fun _=>q_m rfl) ?_
 refine WD.a (i:=2) (d:=4) (by kernel_rfl) rfl z2 z6 rfl rfl rfl (fun _=>y6 rfl) ?_
 refine WD.a (i:=3) (d:=5) (by kernel_rfl) rfl z2 z6 rfl rfl rfl (fun _=>y4 yl rfl rfl) ?_
 refine WD.a (i:=4) (d:=6) (by kernel_rfl) rfl z2 z6 rfl rfl rfl (fun _=>y4 yR rfl rfl) ?_
 refine WD.e (i:=5) (d:=7) (by kernel_rfl) rfl z2 z6 rfl rfl rfl (y5 yd rfl (yb .here rfl)) ?_
 refine WD.a (i:=9) (d:=11) (by kernel_rfl) rfl z2 z6 rfl rfl rfl (fun _=>q_m rfl) ?_
 refine WD.a (i:=10) (d:=12) (by kernel_rfl) rfl z2 z6 rfl rfl rfl (fun _=>q_m rfl) ?_
 refine WD.a (i:=11) (d:=13) (by kernel_rfl) rfl z2 z6 rfl rfl rfl (fun _=>y6 rfl) ?_
 refine WD.a (i:=12) (d:=14) (by kernel_rfl) rfl z2 z6 rfl rfl rfl (fun _=>y4 yl rfl rfl) ?_
 refine WD.a (i:=13) (d:=15) (by kernel_rfl) rfl z2 z6 rfl rfl rfl (fun _=>y4 y16 rfl rfl) ?_
 refine WD.y1k (i:=14) (d:=16) (by kernel_rfl) rfl z2 z6 rfl rfl rfl (Sin.of (.cons .here .nil)) (y5 yd rfl (yb .here rfl)) ?_
 refine WD.call0 (i:=6) (dd:=8) rfl (by kernel_rfl) rfl rfl rfl (.inl ⟨rfl,(Sin.of (.cons .h2 .nil))⟩) (zk (l:=[.tmp 2,.tmp 7]) Tryd.call108 (.cons rfl (.cons rfl .nil))) (.cons .h1 (.cons .h1 .nil)) (ccl hz (.cons .h1 (.cons .h1 .nil)) (.cons .here .nil) fun w pz ho la=>Calls.mono (yq _ _ _ _ _ _ _ _ _ _ _ _ _ _ _ zuR w pz ((la _ (.head _) _).stb) ho) (fun _ _ h'=>⟨h'.1,trivial,h'.2⟩)) ?_
 intro _
 refine WD.a (i:=7) (d:=9) (by kernel_rfl) rfl z2 z6 rfl rfl rfl (fun _=>y6 rfl) ?_
 refine WD.y1k (i:=8) (d:=10) (by kernel_rfl) rfl z2 z6 rfl rfl rfl (Sin.of (.cons .h2 .nil)) (y5 yC rfl (yY (l:=([zR.fRegs.a0,zR.fRegs.a1,zR.fRegs.a2,zR.fRegs.a3] : List Int)) (f:=Value.int .u8) (k:=2) (m:=6) .here rfl rfl zuS)) ?_
 refine WD.call0 (i:=15) (dd:=17) rfl (by kernel_rfl) rfl rfl rfl (.inl ⟨rfl,(Sin.of (.cons .h2 .nil))⟩) (zk (l:=[.tmp 11,.tmp 16]) Tryd.call108 (.cons rfl (.cons rfl .nil))) (.cons .here (.cons .here .nil)) (ccl hz (.cons .here (.cons .here .nil)) (.cons .here .nil) fun w pz ho la=>Calls.mono (yq _ _ _ _ _ _ _ _ _ _ _ _ _ _ _ zuT w pz ((la _ (.head _) _).stb) ho) (fun _ _ h'=>⟨h'.1,trivial,h'.2⟩)) ?_
 intro _
 refine WD.a (i:=16) (d:=18) (by kernel_rfl) rfl z2 z6 rfl rfl rfl (fun _=>y6 rfl) ?_
 refine WD.e (i:=17) (d:=19) (by kernel_rfl) rfl z2 z6 rfl rfl rfl (y5 yC rfl (yY (l:=([zR.fRegs.a0,zR.fRegs.a1,zR.fRegs.a2,zR.fRegs.a3] : List Int)) (f:=Value.int .u8) (k:=2) (m:=6) .h2 rfl rfl zuU)) ?_
 refine WD.a (i:=18) (d:=20) (by kernel_rfl) rfl z2 z6 rfl rfl rfl (fun _=>q_lss rfl rfl) ?_
 refine WD.done (by kernel_rfl) ?_
 refine WX.a ?_
 refine WC.cond rfl (fun zgX=>?_) (fun zgX=>?_)
 ·replace h:=ym h zgX
  refine WC.a (WL.pu rfl (WL.pu rfl ?_))
  refine WL.a (d:=23) rfl rfl rfl (y6 rfl) ?_
  refine WL.a (d:=24) rfl rfl rfl (y4 yl rfl rfl) ?_
  refine WL.a (d:=25) rfl rfl rfl (y4 y3v rfl rfl) ?_
  refine WL.a (d:=26) rfl rfl rfl (y5 yd rfl (yb .h2 rfl)) ?_
  refine WL.a (d:=27) rfl rfl rfl (y6 rfl) ?_
  refine WL.a (d:=28) rfl rfl rfl (y4 yH rfl rfl) ?_
  refine WL.a (d:=29) rfl rfl rfl (y4 y1d rfl rfl) ?_
  refine WL.yf rfl rfl (yK (ds:=[(.int .i64 z18.fC),(.int .i64 zR.fLeft),(.int .u8 zR.fRegs.a0),(.int .u8 zR.fRegs.a1),(.int .u8 zR.fRegs.a2),(.int .u8 zR.fRegs.a3),(.int .u8 z18.fOp),(.int .i64 z18.fA),(.int .i64 z18.fB),(.int .i64 z18.fC),(.slice z4H z2G.length z4I),(.int .u8 z6e),(.int .i64 z6f),(.int .i64 z6g),(.slice z4J z2H.length z4K)]) y20 rfl rfl rfl rfl rfl .h2 rfl rfl) ?_
  refine WL.nil ?_
  obtain rfl:=Option.some.inj h
  refine WX.y9 Tryd.results104 .nil (fun w hw=>?_)
  exact ⟨yB,hw.sub (.cons .here (.cons .here (.cons .here .nil)))⟩
 ·replace h:=yn h zgX
  refine WC.skip ?_
  obtain rfl:=Option.some.inj h
  refine WX.y9 Tryd.results104 .nil (fun w hw=>?_)
  exact ⟨yB,hw.sub (.cons .h2 (.cons .here (.cons .here .nil)))⟩
def y28 (zd : Sproc_State) (zS : Sapi_Ins) (z2I : List Int) (z6h : Int) (z6i : Int) (z6j : Int) (z35 : List Int) : Option (Int × Int × Int × Int × Int × Int × Int × List Int) :=
 (yj zd zS z2I z6h z6i z6j z35 zS.fB).bind fun zuV=>chk ((0 : Int) ≤ zS.fB ∧ zS.fB < 4) (if decide ((nth ([zd.fRegs.a0,zd.fRegs.a1,zd.fRegs.a2,zd.fRegs.a3] : List Int) zS.fB) ≠ 0) then (yj zd zS z2I z6h z6i z6j z35 zS.fA).bind fun zuW=>chk ((0 : Int) ≤ zS.fA ∧ zS.fA < 4) (chk ((nth ([zd.fRegs.a0,zd.fRegs.a1,zd.fRegs.a2,zd.fRegs.a3] : List Int) zS.fB : Int) ≠ 0) (some ((nth (([zd.fRegs.a0,zd.fRegs.a1,zd.fRegs.a2,zd.fRegs.a3] : List Int).set (zS.fA : Int).toNat (u8 (Int.tdiv (nth ([zd.fRegs.a0,zd.fRegs.a1,zd.fRegs.a2,zd.fRegs.a3] : List Int) zS.fA) (nth ([zd.fRegs.a0,zd.fRegs.a1,zd.fRegs.a2,zd.fRegs.a3] : List Int) zS.fB)))) 0),(nth (([zd.fRegs.a0,zd.fRegs.a1,zd.fRegs.a2,zd.fRegs.a3] : List Int).set (zS.fA : Int).toNat (u8 (Int.tdiv (nth ([zd.fRegs.a0,zd.fRegs.a1,zd.fRegs.a2,zd.fRegs.a3] : List Int) zS.fA) (nth ([zd.fRegs.a0,zd.fRegs.a1,zd.fRegs.a2,zd.fRegs.a3] : List Int) zS.fB)))) 1),(nth (([zd.fRegs.a0,zd.fRegs.a1,zd.fRegs.a2,zd.fRegs.a3] : List Int).set (zS.fA : Int).toNat (u8 (Int.tdiv (nth ([zd.fRegs.a0,zd.fRegs.a1,zd.fRegs.a2,zd.fRegs.a3] : List Int) zS.fA) (nth ([zd.fRegs.a0,zd.fRegs.a1,zd.fRegs.a2,zd.fRegs.a3] : List Int) zS.fB)))) 2),(nth (([zd.fRegs.a0,zd.fRegs.a1,zd.fRegs.a2,zd.fRegs.a3] : List Int).set (zS.fA : Int).toNat (u8 (Int.tdiv (nth ([zd.fRegs.a0,zd.fRegs.a1,zd.fRegs.a2,zd.fRegs.a3] : List Int) zS.fA) (nth ([zd.fRegs.a0,zd.fRegs.a1,zd.fRegs.a2,zd.fRegs.a3] : List Int) zS.fB)))) 3),z6h,z6i,z6j,z35))) else (yN zd zS z2I z6h z6i z6j z35 4 0).bind fun zgY=>some (zd.fRegs.a0,zd.fRegs.a1,zd.fRegs.a2,zd.fRegs.a3,15,zgY.1,zgY.2,([] : List Int)))
set_option maxRecDepth 20000 in
theorem y5c (Z : Zp) (z9s : Nat) (z5i : Option Addr) (z5j : Nat) (z6k : Option Addr) (z6l : Nat) (zd : Sproc_State) (zS : Sapi_Ins) (z2I : List Int) (z6h : Int) (z6i : Int) (z6j : Int) (z35 : List Int) (r : Int × Int × Int × Int × Int × Int × Int × List Int)
  (h : y28 zd zS z2I z6h z6i z6j z35 = some r) (w₀ : World) (hz : PZ (fps [stb z9s 65 [(.int .i64 zd.fPc),(.int .i64 zd.fLeft),(.int .u8 zd.fRegs.a0),(.int .u8 zd.fRegs.a1),(.int .u8 zd.fRegs.a2),(.int .u8 zd.fRegs.a3),(.int .u8 zS.fOp),(.int .i64 zS.fA),(.int .i64 zS.fB),(.int .i64 zS.fC),(.slice z5i z2I.length z5j),(.int .u8 z6h),(.int .i64 z6i),(.int .i64 z6j),(.slice z6k z35.length z6l)],row (.slice z5i z2I.length z5j) 5 1 (z2I.flatMap e5),row (.slice z6k z35.length z6l) 5 1 (z35.flatMap e5)]) w₀ Z)
  (hown : Hp (fps [stb z9s 65 [(.int .i64 zd.fPc),(.int .i64 zd.fLeft),(.int .u8 zd.fRegs.a0),(.int .u8 zd.fRegs.a1),(.int .u8 zd.fRegs.a2),(.int .u8 zd.fRegs.a3),(.int .u8 zS.fOp),(.int .i64 zS.fA),(.int .i64 zS.fB),(.int .i64 zS.fC),(.slice z5i z2I.length z5j),(.int .u8 z6h),(.int .i64 z6i),(.int .i64 z6j),(.slice z6k z35.length z6l)],row (.slice z5i z2I.length z5j) 5 1 (z2I.flatMap e5),row (.slice z6k z35.length z6l) 5 1 (z35.flatMap e5)]) w₀ w₀ [stb z9s 65 [(.int .i64 zd.fPc),(.int .i64 zd.fLeft),(.int .u8 zd.fRegs.a0),(.int .u8 zd.fRegs.a1),(.int .u8 zd.fRegs.a2),(.int .u8 zd.fRegs.a3),(.int .u8 zS.fOp),(.int .i64 zS.fA),(.int .i64 zS.fB),(.int .i64 zS.fC),(.slice z5i z2I.length z5j),(.int .u8 z6h),(.int .i64 z6i),(.int .i64 z6j),(.slice z6k z35.length z6l)],row (.slice z5i z2I.length z5j) 5 1 (z2I.flatMap e5),row (.slice z6k z35.length z6l) 5 1 (z35.flatMap e5)]) :
  Calls Tryd.prog 105 #[(.pointer (some ⟨z9s,0,none⟩))] w₀ fun e w'=>∃ zkD : Option Addr,∃ zkE : Nat,e = .returned (.tuple #[]) ∧ True ∧ Hp (fps [stb z9s 65 [(.int .i64 zd.fPc),(.int .i64 zd.fLeft),(.int .u8 zd.fRegs.a0),(.int .u8 zd.fRegs.a1),(.int .u8 zd.fRegs.a2),(.int .u8 zd.fRegs.a3),(.int .u8 zS.fOp),(.int .i64 zS.fA),(.int .i64 zS.fB),(.int .i64 zS.fC),(.slice z5i z2I.length z5j),(.int .u8 z6h),(.int .i64 z6i),(.int .i64 z6j),(.slice z6k z35.length z6l)],row (.slice z5i z2I.length z5j) 5 1 (z2I.flatMap e5),row (.slice z6k z35.length z6l) 5 1 (z35.flatMap e5)]) w₀ w' [stb z9s 65 [(.int .i64 zd.fPc),(.int .i64 zd.fLeft),(.int .u8 r.1),(.int .u8 r.2.1),(.int .u8 r.2.2.1),(.int .u8 r.2.2.2.1),(.int .u8 zS.fOp),(.int .i64 zS.fA),(.int .i64 zS.fB),(.int .i64 zS.fC),(.slice z5i z2I.length z5j),(.int .u8 r.2.2.2.2.1),(.int .i64 r.2.2.2.2.2.1),(.int .i64 r.2.2.2.2.2.2.1),(.slice zkD r.2.2.2.2.2.2.2.length zkE)],row (.slice z5i z2I.length z5j) 5 1 (z2I.flatMap e5),row (.slice zkD r.2.2.2.2.2.2.2.length zkE) 5 1 (r.2.2.2.2.2.2.2.flatMap e5)]:=by
 unfold y28 at h
 refine Calls.y8 (vs:=[(.pointer (some ⟨z9s,0,none⟩))]) (pre:=[stb z9s 65 [(.int .i64 zd.fPc),(.int .i64 zd.fLeft),(.int .u8 zd.fRegs.a0),(.int .u8 zd.fRegs.a1),(.int .u8 zd.fRegs.a2),(.int .u8 zd.fRegs.a3),(.int .u8 zS.fOp),(.int .i64 zS.fA),(.int .i64 zS.fB),(.int .i64 zS.fC),(.slice z5i z2I.length z5j),(.int .u8 z6h),(.int .i64 z6i),(.int .i64 z6j),(.slice z6k z35.length z6l)],row (.slice z5i z2I.length z5j) 5 1 (z2I.flatMap e5),row (.slice z6k z35.length z6l) 5 1 (z35.flatMap e5)]) (env:=[(0,(.pointer (some ⟨z9s,0,none⟩)))]) Tryd.func105 rfl Tryd.ntmps105 rfl (hown) rfl ?_
 refine WC.b ?_
 obtain ⟨zuV,zuX,h⟩:=zb h
 obtain ⟨zuY,h⟩:=ya h
 refine WC.a (WL.pu rfl (WL.pu rfl ?_))
 refine WL.a (d:=5) rfl rfl rfl (y6 rfl) ?_
 refine WL.a (d:=6) rfl rfl rfl (y4 yl rfl rfl) ?_
 refine WL.a (d:=7) rfl rfl rfl (y4 y16 rfl rfl) ?_
 refine WL.a (d:=8) rfl rfl rfl (y5 yd rfl (yb .here rfl)) ?_
 refine WL.b (dd:=9) rfl rfl rfl (zk (l:=[.tmp 3,.tmp 8]) Tryd.call108 (.cons rfl (.cons rfl .nil))) (.cons .h1 (.cons .h1 .nil)) (ccl hz (.cons .h1 (.cons .h1 .nil)) (.cons .here .nil) fun w pz ho la=>yq _ _ _ _ _ _ _ _ _ _ _ _ _ _ _ zuX w pz ((la _ (.head _) _).stb) ho) ?_
 refine WL.a (d:=10) rfl rfl rfl (y6 rfl) ?_
 refine WL.a (d:=11) rfl rfl rfl (y5 yC rfl (yY (l:=([zd.fRegs.a0,zd.fRegs.a1,zd.fRegs.a2,zd.fRegs.a3] : List Int)) (f:=Value.int .u8) (k:=2) (m:=6) .h2 rfl rfl zuY)) ?_
 refine WL.pu rfl (WL.nil (WX.a (WC.b (WC.a (WL.pu rfl (WL.pu rfl (WL.nil (WX.a ?_))))))))
 refine WC.cond rfl (fun zgZ=>?_) (fun zgZ=>?_)
 ·replace h:=ym h zgZ
  obtain ⟨zuW,zuZ,h⟩:=zb h
  obtain ⟨zkF,h⟩:=ya h
  obtain ⟨zv0,h⟩:=ya h
  refine WC.a (WL.pu rfl (WL.pu rfl ?_))
  refine WL.a (d:=16) rfl rfl rfl (y6 rfl) ?_
  refine WL.a (d:=17) rfl rfl rfl (y4 yl rfl rfl) ?_
  refine WL.a (d:=18) rfl rfl rfl (y4 yR rfl rfl) ?_
  refine WL.a (d:=19) rfl rfl rfl (y5 yd rfl (yb .h2 rfl)) ?_
  refine WL.b (dd:=20) rfl rfl rfl (zk (l:=[.tmp 14,.tmp 19]) Tryd.call108 (.cons rfl (.cons rfl .nil))) (.cons .here (.cons .here .nil)) (ccl hz (.cons .here (.cons .here .nil)) (.cons .here .nil) fun w pz ho la=>yq _ _ _ _ _ _ _ _ _ _ _ _ _ _ _ zuZ w pz ((la _ (.head _) _).stb) ho) ?_
  refine WL.a (d:=21) rfl rfl rfl (y6 rfl) ?_
  refine WL.a (d:=22) rfl rfl rfl (y5 yC rfl (yY (l:=([zd.fRegs.a0,zd.fRegs.a1,zd.fRegs.a2,zd.fRegs.a3] : List Int)) (f:=Value.int .u8) (k:=2) (m:=6) .h2 rfl rfl zkF)) ?_
  refine WL.pu rfl ?_
  refine WL.a (d:=24) rfl rfl rfl (q_quo rfl rfl zv0 rfl) ?_
  refine WL.a (d:=25) rfl rfl rfl (y6 rfl) ?_
  refine WL.yf rfl rfl (y1M (l:=([zd.fRegs.a0,zd.fRegs.a1,zd.fRegs.a2,zd.fRegs.a3] : List Int)) (f:=Value.int .u8) (u:=u8 (Int.tdiv (nth ([zd.fRegs.a0,zd.fRegs.a1,zd.fRegs.a2,zd.fRegs.a3] : List Int) zS.fA) (nth ([zd.fRegs.a0,zd.fRegs.a1,zd.fRegs.a2,zd.fRegs.a3] : List Int) zS.fB))) (k:=2) (m:=6) (j:=4) (ds:=[(.int .i64 zd.fPc),(.int .i64 zd.fLeft),(.int .u8 (nth (([zd.fRegs.a0,zd.fRegs.a1,zd.fRegs.a2,zd.fRegs.a3] : List Int).set (zS.fA : Int).toNat (u8 (Int.tdiv (nth ([zd.fRegs.a0,zd.fRegs.a1,zd.fRegs.a2,zd.fRegs.a3] : List Int) zS.fA) (nth ([zd.fRegs.a0,zd.fRegs.a1,zd.fRegs.a2,zd.fRegs.a3] : List Int) zS.fB)))) 0)),(.int .u8 (nth (([zd.fRegs.a0,zd.fRegs.a1,zd.fRegs.a2,zd.fRegs.a3] : List Int).set (zS.fA : Int).toNat (u8 (Int.tdiv (nth ([zd.fRegs.a0,zd.fRegs.a1,zd.fRegs.a2,zd.fRegs.a3] : List Int) zS.fA) (nth ([zd.fRegs.a0,zd.fRegs.a1,zd.fRegs.a2,zd.fRegs.a3] : List Int) zS.fB)))) 1)),(.int .u8 (nth (([zd.fRegs.a0,zd.fRegs.a1,zd.fRegs.a2,zd.fRegs.a3] : List Int).set (zS.fA : Int).toNat (u8 (Int.tdiv (nth ([zd.fRegs.a0,zd.fRegs.a1,zd.fRegs.a2,zd.fRegs.a3] : List Int) zS.fA) (nth ([zd.fRegs.a0,zd.fRegs.a1,zd.fRegs.a2,zd.fRegs.a3] : List Int) zS.fB)))) 2)),(.int .u8 (nth (([zd.fRegs.a0,zd.fRegs.a1,zd.fRegs.a2,zd.fRegs.a3] : List Int).set (zS.fA : Int).toNat (u8 (Int.tdiv (nth ([zd.fRegs.a0,zd.fRegs.a1,zd.fRegs.a2,zd.fRegs.a3] : List Int) zS.fA) (nth ([zd.fRegs.a0,zd.fRegs.a1,zd.fRegs.a2,zd.fRegs.a3] : List Int) zS.fB)))) 3)),(.int .u8 zS.fOp),(.int .i64 zS.fA),(.int .i64 zS.fB),(.int .i64 zS.fC),(.slice z5i z2I.length z5j),(.int .u8 z6h),(.int .i64 z6i),(.int .i64 z6j),(.slice z6k z35.length z6l)]) y30 rfl rfl rfl rfl .h2 rfl rfl zkF rfl rfl) ?_
  refine WL.nil ?_
  obtain rfl:=Option.some.inj h
  refine WX.y9 Tryd.results105 .nil (fun w hw=>?_)
  exact ⟨z6k,z6l,yB,trivial,hw.sub (.cons .here (.cons .here (.cons .here .nil)))⟩
 ·replace h:=yn h zgZ
  obtain ⟨zgY,zv1,h⟩:=zb h
  refine WC.a (WL.pu rfl ?_)
  refine WL.b (dd:=27) rfl rfl rfl (zk (l:=[.tmp 26,.const (.int .u8 4),.const (.int .i64 0)]) Tryd.call112 (.cons rfl (.cons rfl (.cons rfl .nil)))) (.cons .h2 (.cons .here (.cons .here .nil))) (cc hz (.cons .h2 (.cons .here (.cons .here .nil))) fun w pz ho=>y2x _ _ _ _ _ _ _ _ _ _ _ _ _ _ _ _ zv1 w pz  ho) ?_
  refine WL.nil ?_
  refine WX.nilRow 5 1 ?_
  obtain rfl:=Option.some.inj h
  refine WX.y9 Tryd.results105 .nil (fun w hw=>?_)
  exact ⟨none,0,yB,trivial,hw.sub (.cons .h1 (.cons .h1 (.cons .here .nil)))⟩
def y1E (z1t : Sproc_State) (z2h : Sapi_Ins) (z3q : List Int) (zb5 : Int) (zb6 : Int) (zb7 : Int) (z3K : List Int) : Option (Int × Int) :=
 (yN z1t z2h z3q zb5 zb6 zb7 z3K 3 z2h.fA).bind fun zh0=>some (zh0.1,zh0.2)
set_option maxRecDepth 20000 in
theorem y4q (Z : Zp) (z9t : Nat) (z6m : Option Addr) (z6n : Nat) (z7g : Option Addr) (z7h : Nat) (z1t : Sproc_State) (z2h : Sapi_Ins) (z3q : List Int) (zb5 : Int) (zb6 : Int) (zb7 : Int) (z3K : List Int) (r : Int × Int)
  (h : y1E z1t z2h z3q zb5 zb6 zb7 z3K = some r) (w₀ : World) (hz : PZ (fps [stb z9t 65 [(.int .i64 z1t.fPc),(.int .i64 z1t.fLeft),(.int .u8 z1t.fRegs.a0),(.int .u8 z1t.fRegs.a1),(.int .u8 z1t.fRegs.a2),(.int .u8 z1t.fRegs.a3),(.int .u8 z2h.fOp),(.int .i64 z2h.fA),(.int .i64 z2h.fB),(.int .i64 z2h.fC),(.slice z6m z3q.length z6n),(.int .u8 zb5),(.int .i64 zb6),(.int .i64 zb7),(.slice z7g z3K.length z7h)],row (.slice z6m z3q.length z6n) 5 1 (z3q.flatMap e5),row (.slice z7g z3K.length z7h) 5 1 (z3K.flatMap e5)]) w₀ Z)
  (hown : Hp (fps [stb z9t 65 [(.int .i64 z1t.fPc),(.int .i64 z1t.fLeft),(.int .u8 z1t.fRegs.a0),(.int .u8 z1t.fRegs.a1),(.int .u8 z1t.fRegs.a2),(.int .u8 z1t.fRegs.a3),(.int .u8 z2h.fOp),(.int .i64 z2h.fA),(.int .i64 z2h.fB),(.int .i64 z2h.fC),(.slice z6m z3q.length z6n),(.int .u8 zb5),(.int .i64 zb6),(.int .i64 zb7),(.slice z7g z3K.length z7h)],row (.slice z6m z3q.length z6n) 5 1 (z3q.flatMap e5),row (.slice z7g z3K.length z7h) 5 1 (z3K.flatMap e5)]) w₀ w₀ [stb z9t 65 [(.int .i64 z1t.fPc),(.int .i64 z1t.fLeft),(.int .u8 z1t.fRegs.a0),(.int .u8 z1t.fRegs.a1),(.int .u8 z1t.fRegs.a2),(.int .u8 z1t.fRegs.a3),(.int .u8 z2h.fOp),(.int .i64 z2h.fA),(.int .i64 z2h.fB),(.int .i64 z2h.fC),(.slice z6m z3q.length z6n),(.int .u8 zb5),(.int .i64 zb6),(.int .i64 zb7),(.slice z7g z3K.length z7h)],row (.slice z6m z3q.length z6n) 5 1 (z3q.flatMap e5),row (.slice z7g z3K.length z7h) 5 1 (z3K.flatMap e5)]) :
  Calls Tryd.prog 106 #[(.pointer (some ⟨z9t,0,none⟩))] w₀ fun e w'=>e = .returned (.tuple #[]) ∧ Hp (fps [stb z9t 65 [(.int .i64 z1t.fPc),(.int .i64 z1t.fLeft),(.int .u8 z1t.fRegs.a0),(.int .u8 z1t.fRegs.a1),(.int .u8 z1t.fRegs.a2),(.int .u8 z1t.fRegs.a3),(.int .u8 z2h.fOp),(.int .i64 z2h.fA),(.int .i64 z2h.fB),(.int .i64 z2h.fC),(.slice z6m z3q.length z6n),(.int .u8 zb5),(.int .i64 zb6),(.int .i64 zb7),(.slice z7g z3K.length z7h)],row (.slice z6m z3q.length z6n) 5 1 (z3q.flatMap e5),row (.slice z7g z3K.length z7h) 5 1 (z3K.flatMap e5)]) w₀ w' [stb z9t 65 [(.int .i64 z1t.fPc),(.int .i64 z1t.fLeft),(.int .u8 z1t.fRegs.a0),(.int .u8 z1t.fRegs.a1),(.int .u8 z1t.fRegs.a2),(.int .u8 z1t.fRegs.a3),(.int .u8 z2h.fOp),(.int .i64 z2h.fA),(.int .i64 z2h.fB),(.int .i64 z2h.fC),(.slice z6m z3q.length z6n),(.int .u8 15),(.int .i64 r.1),(.int .i64 r.2),(.slice none 0 0)],row (.slice z6m z3q.length z6n) 5 1 (z3q.flatMap e5),row (.slice z7g z3K.length z7h) 5 1 (z3K.flatMap e5)]:=by
 unfold y1E at h
 refine Calls.y8 (vs:=[(.pointer (some ⟨z9t,0,none⟩))]) (pre:=[stb z9t 65 [(.int .i64 z1t.fPc),(.int .i64 z1t.fLeft),(.int .u8 z1t.fRegs.a0),(.int .u8 z1t.fRegs.a1),(.int .u8 z1t.fRegs.a2),(.int .u8 z1t.fRegs.a3),(.int .u8 z2h.fOp),(.int .i64 z2h.fA),(.int .i64 z2h.fB),(.int .i64 z2h.fC),(.slice z6m z3q.length z6n),(.int .u8 zb5),(.int .i64 zb6),(.int .i64 zb7),(.slice z7g z3K.length z7h)],row (.slice z6m z3q.length z6n) 5 1 (z3q.flatMap e5),row (.slice z7g z3K.length z7h) 5 1 (z3K.flatMap e5)]) (env:=[(0,(.pointer (some ⟨z9t,0,none⟩)))]) Tryd.func106 rfl Tryd.ntmps106 rfl (hown) rfl ?_
 obtain ⟨zh0,zv2,h⟩:=zb h
 refine WC.a (WL.pu rfl (WL.pu rfl ?_))
 refine WL.a (d:=4) rfl rfl rfl (y6 rfl) ?_
 refine WL.a (d:=5) rfl rfl rfl (y4 yl rfl rfl) ?_
 refine WL.a (d:=6) rfl rfl rfl (y4 yR rfl rfl) ?_
 refine WL.a (d:=7) rfl rfl rfl (y5 yd rfl (yb .here rfl)) ?_
 refine WL.b (dd:=8) rfl rfl rfl (zk (l:=[.tmp 2,.const (.int .u8 3),.tmp 7]) Tryd.call112 (.cons rfl (.cons rfl (.cons rfl .nil)))) (.cons .here (.cons .here (.cons .here .nil))) (cc hz (.cons .here (.cons .here (.cons .here .nil))) fun w pz ho=>y2x _ _ _ _ _ _ _ _ _ _ _ _ _ _ _ _ zv2 w pz  ho) ?_
 refine WL.nil ?_
 obtain rfl:=Option.some.inj h
 refine WX.y9 Tryd.results106 .nil (fun w hw=>?_)
 exact ⟨yB,hw.sub (.cons .here (.cons .here (.cons .here .nil)))⟩
def y1Z (z13 : Sproc_State) (z1D : Sapi_Ins) (z36 : List Int) (zb8 : Int) (zb9 : Int) (zba : Int) (z3L : List Int) : Option Int :=
 some (i64 (z13.fPc - 1))
set_option maxRecDepth 20000 in
theorem y4N (Z : Zp) (z9u : Nat) (z4L : Option Addr) (z4M : Nat) (z6o : Option Addr) (z6p : Nat) (z13 : Sproc_State) (z1D : Sapi_Ins) (z36 : List Int) (zb8 : Int) (zb9 : Int) (zba : Int) (z3L : List Int) (r : Int)
  (h : y1Z z13 z1D z36 zb8 zb9 zba z3L = some r) (w₀ : World) (hz : PZ (fps [stb z9u 65 [(.int .i64 z13.fPc),(.int .i64 z13.fLeft),(.int .u8 z13.fRegs.a0),(.int .u8 z13.fRegs.a1),(.int .u8 z13.fRegs.a2),(.int .u8 z13.fRegs.a3),(.int .u8 z1D.fOp),(.int .i64 z1D.fA),(.int .i64 z1D.fB),(.int .i64 z1D.fC),(.slice z4L z36.length z4M),(.int .u8 zb8),(.int .i64 zb9),(.int .i64 zba),(.slice z6o z3L.length z6p)],row (.slice z4L z36.length z4M) 5 1 (z36.flatMap e5),row (.slice z6o z3L.length z6p) 5 1 (z3L.flatMap e5)]) w₀ Z)
  (hown : Hp (fps [stb z9u 65 [(.int .i64 z13.fPc),(.int .i64 z13.fLeft),(.int .u8 z13.fRegs.a0),(.int .u8 z13.fRegs.a1),(.int .u8 z13.fRegs.a2),(.int .u8 z13.fRegs.a3),(.int .u8 z1D.fOp),(.int .i64 z1D.fA),(.int .i64 z1D.fB),(.int .i64 z1D.fC),(.slice z4L z36.length z4M),(.int .u8 zb8),(.int .i64 zb9),(.int .i64 zba),(.slice z6o z3L.length z6p)],row (.slice z4L z36.length z4M) 5 1 (z36.flatMap e5),row (.slice z6o z3L.length z6p) 5 1 (z3L.flatMap e5)]) w₀ w₀ [stb z9u 65 [(.int .i64 z13.fPc),(.int .i64 z13.fLeft),(.int .u8 z13.fRegs.a0),(.int .u8 z13.fRegs.a1),(.int .u8 z13.fRegs.a2),(.int .u8 z13.fRegs.a3),(.int .u8 z1D.fOp),(.int .i64 z1D.fA),(.int .i64 z1D.fB),(.int .i64 z1D.fC),(.slice z4L z36.length z4M),(.int .u8 zb8),(.int .i64 zb9),(.int .i64 zba),(.slice z6o z3L.length z6p)],row (.slice z4L z36.length z4M) 5 1 (z36.flatMap e5),row (.slice z6o z3L.length z6p) 5 1 (z3L.flatMap e5)]) :
  Calls Tryd.prog 107 #[(.pointer (some ⟨z9u,0,none⟩))] w₀ fun e w'=>e = .returned (.tuple #[]) ∧ Hp (fps [stb z9u 65 [(.int .i64 z13.fPc),(.int .i64 z13.fLeft),(.int .u8 z13.fRegs.a0),(.int .u8 z13.fRegs.a1),(.int .u8 z13.fRegs.a2),(.int .u8 z13.fRegs.a3),(.int .u8 z1D.fOp),(.int .i64 z1D.fA),(.int .i64 z1D.fB),(.int .i64 z1D.fC),(.slice z4L z36.length z4M),(.int .u8 zb8),(.int .i64 zb9),(.int .i64 zba),(.slice z6o z3L.length z6p)],row (.slice z4L z36.length z4M) 5 1 (z36.flatMap e5),row (.slice z6o z3L.length z6p) 5 1 (z3L.flatMap e5)]) w₀ w' [stb z9u 65 [(.int .i64 r),(.int .i64 z13.fLeft),(.int .u8 z13.fRegs.a0),(.int .u8 z13.fRegs.a1),(.int .u8 z13.fRegs.a2),(.int .u8 z13.fRegs.a3),(.int .u8 z1D.fOp),(.int .i64 z1D.fA),(.int .i64 z1D.fB),(.int .i64 z1D.fC),(.slice z4L z36.length z4M),(.int .u8 16),(.int .i64 0),(.int .i64 0),(.slice none 0 0)],row (.slice z4L z36.length z4M) 5 1 (z36.flatMap e5),row (.slice z6o z3L.length z6p) 5 1 (z3L.flatMap e5)]:=by
 unfold y1Z at h
 refine Calls.y8 (vs:=[(.pointer (some ⟨z9u,0,none⟩))]) (pre:=[stb z9u 65 [(.int .i64 z13.fPc),(.int .i64 z13.fLeft),(.int .u8 z13.fRegs.a0),(.int .u8 z13.fRegs.a1),(.int .u8 z13.fRegs.a2),(.int .u8 z13.fRegs.a3),(.int .u8 z1D.fOp),(.int .i64 z1D.fA),(.int .i64 z1D.fB),(.int .i64 z1D.fC),(.slice z4L z36.length z4M),(.int .u8 zb8),(.int .i64 zb9),(.int .i64 zba),(.slice z6o z3L.length z6p)],row (.slice z4L z36.length z4M) 5 1 (z36.flatMap e5),row (.slice z6o z3L.length z6p) 5 1 (z3L.flatMap e5)]) (env:=[(0,(.pointer (some ⟨z9u,0,none⟩)))]) Tryd.func107 rfl Tryd.ntmps107 rfl (hown) rfl ?_
 refine WC.b (WC.a (WL.pu rfl ?_))
 refine WL.a (d:=3) rfl rfl rfl (y6 rfl) ?_
 refine WL.a (d:=4) rfl rfl rfl (y4 yH rfl rfl) ?_
 refine WL.a (d:=5) rfl rfl rfl (y4 y1d rfl rfl) ?_
 refine WL.a (d:=6) rfl rfl rfl (y5 yd rfl (yb .here rfl)) ?_
 refine WL.pu rfl ?_
 refine WL.a (d:=8) rfl rfl rfl (y6 rfl) ?_
 refine WL.a (d:=9) rfl rfl rfl (y4 yH rfl rfl) ?_
 refine WL.a (d:=10) rfl rfl rfl (y4 y1d rfl rfl) ?_
 refine WL.yf rfl rfl (yK (ds:=[(.int .i64 (i64 (z13.fPc - 1))),(.int .i64 z13.fLeft),(.int .u8 z13.fRegs.a0),(.int .u8 z13.fRegs.a1),(.int .u8 z13.fRegs.a2),(.int .u8 z13.fRegs.a3),(.int .u8 z1D.fOp),(.int .i64 z1D.fA),(.int .i64 z1D.fB),(.int .i64 z1D.fC),(.slice z4L z36.length z4M),(.int .u8 zb8),(.int .i64 zb9),(.int .i64 zba),(.slice z6o z3L.length z6p)]) y20 rfl rfl rfl rfl rfl .here rfl rfl) ?_
 refine WL.nil (WX.a (WC.a (WL.pu rfl ?_)))
 refine WL.a (d:=12) rfl rfl rfl (yP (v:=(.agg #[(.int .u8 16),(.int .i64 0),(.int .i64 0),(.slice none 0 0)])) (Eos.parts (l:=[.const (.int .u8 16)]) (.cons rfl .nil) [0]) (fun _=>by kernel_rfl)) ?_
 refine WL.a (d:=13) rfl rfl rfl (y6 rfl) ?_
 refine WL.a (d:=14) rfl rfl rfl (y4 y2f rfl rfl) ?_
 refine WL.yf rfl rfl (yK (ds:=[(.int .i64 (i64 (z13.fPc - 1))),(.int .i64 z13.fLeft),(.int .u8 z13.fRegs.a0),(.int .u8 z13.fRegs.a1),(.int .u8 z13.fRegs.a2),(.int .u8 z13.fRegs.a3),(.int .u8 z1D.fOp),(.int .i64 z1D.fA),(.int .i64 z1D.fB),(.int .i64 z1D.fC),(.slice z4L z36.length z4M),(.int .u8 16),(.int .i64 0),(.int .i64 0),(.slice none 0 0)]) yV rfl rfl rfl rfl rfl .here rfl rfl) ?_
 refine WL.nil ?_
 obtain rfl:=Option.some.inj h
 refine WX.y9 Tryd.results107 .nil (fun w hw=>?_)
 exact ⟨yB,hw.sub (.cons .here (.cons .here (.cons .here .nil)))⟩
def y3c (zbZ : List Sapi_Ins) (z1 : Sproc_State) (z14 : List Int) : Option (Sproc_State × Sproc_Act) :=
 (y3b zbZ z1.fPc).bind fun zZ=>if !zZ.2 then some (z1,(⟨15,5,0,([] : List Int)⟩ : Sproc_Act)) else jp10 (fun (z7Q : Int) (z7R : Int) (z7S : Int) (z7T : Int) (z7U : Int) (z7V : Int) (z7W : Int) (z7X : Int) (z7Y : Int) (z6q : List Int)=>some ((⟨z7Q,z7R,(⟨z7S,z7T,z7U,z7V⟩ : S34)⟩ : Sproc_State),(⟨z7W,z7X,z7Y,z6q⟩ : Sproc_Act))) fun z2u=>chk ((0 : Int) ≤ zZ.1.fOp ∧ zZ.1.fOp < 26) (sw [(1,(y1O (⟨i64 (z1.fPc + 1),z1.fLeft,z1.fRegs⟩ : Sproc_State) zZ.1 z14 0 0 0 ([] : List Int)).bind fun ze1=>z2u ze1.1 ze1.2 ((⟨i64 (z1.fPc + 1),z1.fLeft,z1.fRegs⟩ : Sproc_State).fRegs.a0) ((⟨i64 (z1.fPc + 1),z1.fLeft,z1.fRegs⟩ : Sproc_State).fRegs.a1) ((⟨i64 (z1.fPc + 1),z1.fLeft,z1.fRegs⟩ : Sproc_State).fRegs.a2) ((⟨i64 (z1.fPc + 1),z1.fLeft,z1.fRegs⟩ : Sproc_State).fRegs.a3) 0 0 0 ([] : List Int)),(2,(y23 (⟨i64 (z1.fPc + 1),z1.fLeft,z1.fRegs⟩ : Sproc_State) zZ.1 z14 0 0 0 ([] : List Int)).bind fun z9v=>z2u ((⟨i64 (z1.fPc + 1),z1.fLeft,z1.fRegs⟩ : Sproc_State).fPc) ((⟨i64 (z1.fPc + 1),z1.fLeft,z1.fRegs⟩ : Sproc_State).fLeft) z9v.1 z9v.2.1 z9v.2.2.1 z9v.2.2.2 0 0 0 ([] : List Int)),(3,(y24 (⟨i64 (z1.fPc + 1),z1.fLeft,z1.fRegs⟩ : Sproc_State) zZ.1 z14 0 0 0 ([] : List Int)).bind fun z9w=>z2u ((⟨i64 (z1.fPc + 1),z1.fLeft,z1.fRegs⟩ : Sproc_State).fPc) ((⟨i64 (z1.fPc + 1),z1.fLeft,z1.fRegs⟩ : Sproc_State).fLeft) z9w.1 z9w.2.1 z9w.2.2.1 z9w.2.2.2 0 0 0 ([] : List Int)),(4,(y25 (⟨i64 (z1.fPc + 1),z1.fLeft,z1.fRegs⟩ : Sproc_State) zZ.1 z14 0 0 0 ([] : List Int)).bind fun z9x=>z2u ((⟨i64 (z1.fPc + 1),z1.fLeft,z1.fRegs⟩ : Sproc_State).fPc) ((⟨i64 (z1.fPc + 1),z1.fLeft,z1.fRegs⟩ : Sproc_State).fLeft) z9x.1 z9x.2.1 z9x.2.2.1 z9x.2.2.2 0 0 0 ([] : List Int)),(5,(y1P (⟨i64 (z1.fPc + 1),z1.fLeft,z1.fRegs⟩ : Sproc_State) zZ.1 z14 0 0 0 ([] : List Int)).bind fun z4c=>z2u ((⟨i64 (z1.fPc + 1),z1.fLeft,z1.fRegs⟩ : Sproc_State).fPc) ((⟨i64 (z1.fPc + 1),z1.fLeft,z1.fRegs⟩ : Sproc_State).fLeft) z4c.1 z4c.2.1 z4c.2.2.1 z4c.2.2.2.1 z4c.2.2.2.2.1 z4c.2.2.2.2.2.1 z4c.2.2.2.2.2.2.1 z4c.2.2.2.2.2.2.2),(6,(y1z (⟨i64 (z1.fPc + 1),z1.fLeft,z1.fRegs⟩ : Sproc_State) zZ.1 z14 0 0 0 ([] : List Int)).bind fun z9y=>z2u ((⟨i64 (z1.fPc + 1),z1.fLeft,z1.fRegs⟩ : Sproc_State).fPc) ((⟨i64 (z1.fPc + 1),z1.fLeft,z1.fRegs⟩ : Sproc_State).fLeft) ((⟨i64 (z1.fPc + 1),z1.fLeft,z1.fRegs⟩ : Sproc_State).fRegs.a0) ((⟨i64 (z1.fPc + 1),z1.fLeft,z1.fRegs⟩ : Sproc_State).fRegs.a1) ((⟨i64 (z1.fPc + 1),z1.fLeft,z1.fRegs⟩ : Sproc_State).fRegs.a2) ((⟨i64 (z1.fPc + 1),z1.fLeft,z1.fRegs⟩ : Sproc_State).fRegs.a3) z9y.1 z9y.2.1 z9y.2.2.1 z9y.2.2.2),(7,(y1Q (⟨i64 (z1.fPc + 1),z1.fLeft,z1.fRegs⟩ : Sproc_State) zZ.1 z14 0 0 0 ([] : List Int)).bind fun zc0=>z2u ((⟨i64 (z1.fPc + 1),z1.fLeft,z1.fRegs⟩ : Sproc_State).fPc) ((⟨i64 (z1.fPc + 1),z1.fLeft,z1.fRegs⟩ : Sproc_State).fLeft) ((⟨i64 (z1.fPc + 1),z1.fLeft,z1.fRegs⟩ : Sproc_State).fRegs.a0) ((⟨i64 (z1.fPc + 1),z1.fLeft,z1.fRegs⟩ : Sproc_State).fRegs.a1) ((⟨i64 (z1.fPc + 1),z1.fLeft,z1.fRegs⟩ : Sproc_State).fRegs.a2) ((⟨i64 (z1.fPc + 1),z1.fLeft,z1.fRegs⟩ : Sproc_State).fRegs.a3) zc0.1 zc0.2.1 0 zc0.2.2),(8,(y1R (⟨i64 (z1.fPc + 1),z1.fLeft,z1.fRegs⟩ : Sproc_State) zZ.1 z14 0 0 0 ([] : List Int)).bind fun ze2=>z2u ((⟨i64 (z1.fPc + 1),z1.fLeft,z1.fRegs⟩ : Sproc_State).fPc) ((⟨i64 (z1.fPc + 1),z1.fLeft,z1.fRegs⟩ : Sproc_State).fLeft) ((⟨i64 (z1.fPc + 1),z1.fLeft,z1.fRegs⟩ : Sproc_State).fRegs.a0) ((⟨i64 (z1.fPc + 1),z1.fLeft,z1.fRegs⟩ : Sproc_State).fRegs.a1) ((⟨i64 (z1.fPc + 1),z1.fLeft,z1.fRegs⟩ : Sproc_State).fRegs.a2) ((⟨i64 (z1.fPc + 1),z1.fLeft,z1.fRegs⟩ : Sproc_State).fRegs.a3) ze2.1 ze2.2 0 ([] : List Int)),(9,(y1S (⟨i64 (z1.fPc + 1),z1.fLeft,z1.fRegs⟩ : Sproc_State) zZ.1 z14 0 0 0 ([] : List Int)).bind fun ze3=>z2u ((⟨i64 (z1.fPc + 1),z1.fLeft,z1.fRegs⟩ : Sproc_State).fPc) ((⟨i64 (z1.fPc + 1),z1.fLeft,z1.fRegs⟩ : Sproc_State).fLeft) ((⟨i64 (z1.fPc + 1),z1.fLeft,z1.fRegs⟩ : Sproc_State).fRegs.a0) ((⟨i64 (z1.fPc + 1),z1.fLeft,z1.fRegs⟩ : Sproc_State).fRegs.a1) ((⟨i64 (z1.fPc + 1),z1.fLeft,z1.fRegs⟩ : Sproc_State).fRegs.a2) ((⟨i64 (z1.fPc + 1),z1.fLeft,z1.fRegs⟩ : Sproc_State).fRegs.a3) ze3.1 ze3.2 0 ([] : List Int)),(10,(y1x (⟨i64 (z1.fPc + 1),z1.fLeft,z1.fRegs⟩ : Sproc_State) zZ.1 z14 0 0 0 ([] : List Int)).bind fun ze4=>z2u ((⟨i64 (z1.fPc + 1),z1.fLeft,z1.fRegs⟩ : Sproc_State).fPc) ((⟨i64 (z1.fPc + 1),z1.fLeft,z1.fRegs⟩ : Sproc_State).fLeft) ((⟨i64 (z1.fPc + 1),z1.fLeft,z1.fRegs⟩ : Sproc_State).fRegs.a0) ((⟨i64 (z1.fPc + 1),z1.fLeft,z1.fRegs⟩ : Sproc_State).fRegs.a1) ((⟨i64 (z1.fPc + 1),z1.fLeft,z1.fRegs⟩ : Sproc_State).fRegs.a2) ((⟨i64 (z1.fPc + 1),z1.fLeft,z1.fRegs⟩ : Sproc_State).fRegs.a3) ze4.1 ze4.2 0 ([] : List Int)),(11,(y1A (⟨i64 (z1.fPc + 1),z1.fLeft,z1.fRegs⟩ : Sproc_State) zZ.1 z14 0 0 0 ([] : List Int)).bind fun ze5=>z2u ((⟨i64 (z1.fPc + 1),z1.fLeft,z1.fRegs⟩ : Sproc_State).fPc) ((⟨i64 (z1.fPc + 1),z1.fLeft,z1.fRegs⟩ : Sproc_State).fLeft) ((⟨i64 (z1.fPc + 1),z1.fLeft,z1.fRegs⟩ : Sproc_State).fRegs.a0) ((⟨i64 (z1.fPc + 1),z1.fLeft,z1.fRegs⟩ : Sproc_State).fRegs.a1) ((⟨i64 (z1.fPc + 1),z1.fLeft,z1.fRegs⟩ : Sproc_State).fRegs.a2) ((⟨i64 (z1.fPc + 1),z1.fLeft,z1.fRegs⟩ : Sproc_State).fRegs.a3) ze5.1 ze5.2 0 ([] : List Int)),(12,(y1B (⟨i64 (z1.fPc + 1),z1.fLeft,z1.fRegs⟩ : Sproc_State) zZ.1 z14 0 0 0 ([] : List Int)).bind fun ze6=>z2u ((⟨i64 (z1.fPc + 1),z1.fLeft,z1.fRegs⟩ : Sproc_State).fPc) ((⟨i64 (z1.fPc + 1),z1.fLeft,z1.fRegs⟩ : Sproc_State).fLeft) ((⟨i64 (z1.fPc + 1),z1.fLeft,z1.fRegs⟩ : Sproc_State).fRegs.a0) ((⟨i64 (z1.fPc + 1),z1.fLeft,z1.fRegs⟩ : Sproc_State).fRegs.a1) ((⟨i64 (z1.fPc + 1),z1.fLeft,z1.fRegs⟩ : Sproc_State).fRegs.a2) ((⟨i64 (z1.fPc + 1),z1.fLeft,z1.fRegs⟩ : Sproc_State).fRegs.a3) ze6.1 ze6.2 0 ([] : List Int)),(13,(y1C (⟨i64 (z1.fPc + 1),z1.fLeft,z1.fRegs⟩ : Sproc_State) zZ.1 z14 0 0 0 ([] : List Int)).bind fun ze7=>z2u ((⟨i64 (z1.fPc + 1),z1.fLeft,z1.fRegs⟩ : Sproc_State).fPc) ((⟨i64 (z1.fPc + 1),z1.fLeft,z1.fRegs⟩ : Sproc_State).fLeft) ((⟨i64 (z1.fPc + 1),z1.fLeft,z1.fRegs⟩ : Sproc_State).fRegs.a0) ((⟨i64 (z1.fPc + 1),z1.fLeft,z1.fRegs⟩ : Sproc_State).fRegs.a1) ((⟨i64 (z1.fPc + 1),z1.fLeft,z1.fRegs⟩ : Sproc_State).fRegs.a2) ((⟨i64 (z1.fPc + 1),z1.fLeft,z1.fRegs⟩ : Sproc_State).fRegs.a3) ze7.1 ze7.2 0 ([] : List Int)),(14,(y26 (⟨i64 (z1.fPc + 1),z1.fLeft,z1.fRegs⟩ : Sproc_State) zZ.1 z14 0 0 0 ([] : List Int)).bind fun ze8=>z2u ((⟨i64 (z1.fPc + 1),z1.fLeft,z1.fRegs⟩ : Sproc_State).fPc) ((⟨i64 (z1.fPc + 1),z1.fLeft,z1.fRegs⟩ : Sproc_State).fLeft) ((⟨i64 (z1.fPc + 1),z1.fLeft,z1.fRegs⟩ : Sproc_State).fRegs.a0) ((⟨i64 (z1.fPc + 1),z1.fLeft,z1.fRegs⟩ : Sproc_State).fRegs.a1) ((⟨i64 (z1.fPc + 1),z1.fLeft,z1.fRegs⟩ : Sproc_State).fRegs.a2) ((⟨i64 (z1.fPc + 1),z1.fLeft,z1.fRegs⟩ : Sproc_State).fRegs.a3) ze8.1 ze8.2 0 ([nth ([(⟨i64 (z1.fPc + 1),z1.fLeft,z1.fRegs⟩ : Sproc_State).fRegs.a0,(⟨i64 (z1.fPc + 1),z1.fLeft,z1.fRegs⟩ : Sproc_State).fRegs.a1,(⟨i64 (z1.fPc + 1),z1.fLeft,z1.fRegs⟩ : Sproc_State).fRegs.a2,(⟨i64 (z1.fPc + 1),z1.fLeft,z1.fRegs⟩ : Sproc_State).fRegs.a3] : List Int) zZ.1.fB] : List Int)),(15,(y27 (⟨i64 (z1.fPc + 1),z1.fLeft,z1.fRegs⟩ : Sproc_State) zZ.1 z14 0 0 0 ([] : List Int)).bind fun ze9=>z2u ((⟨i64 (z1.fPc + 1),z1.fLeft,z1.fRegs⟩ : Sproc_State).fPc) ((⟨i64 (z1.fPc + 1),z1.fLeft,z1.fRegs⟩ : Sproc_State).fLeft) ((⟨i64 (z1.fPc + 1),z1.fLeft,z1.fRegs⟩ : Sproc_State).fRegs.a0) ((⟨i64 (z1.fPc + 1),z1.fLeft,z1.fRegs⟩ : Sproc_State).fRegs.a1) ((⟨i64 (z1.fPc + 1),z1.fLeft,z1.fRegs⟩ : Sproc_State).fRegs.a2) ((⟨i64 (z1.fPc + 1),z1.fLeft,z1.fRegs⟩ : Sproc_State).fRegs.a3) ze9.1 ze9.2 0 ([] : List Int)),(16,(y1T (⟨i64 (z1.fPc + 1),z1.fLeft,z1.fRegs⟩ : Sproc_State) zZ.1 z14 0 0 0 ([] : List Int)).bind fun zea=>z2u ((⟨i64 (z1.fPc + 1),z1.fLeft,z1.fRegs⟩ : Sproc_State).fPc) ((⟨i64 (z1.fPc + 1),z1.fLeft,z1.fRegs⟩ : Sproc_State).fLeft) ((⟨i64 (z1.fPc + 1),z1.fLeft,z1.fRegs⟩ : Sproc_State).fRegs.a0) ((⟨i64 (z1.fPc + 1),z1.fLeft,z1.fRegs⟩ : Sproc_State).fRegs.a1) ((⟨i64 (z1.fPc + 1),z1.fLeft,z1.fRegs⟩ : Sproc_State).fRegs.a2) ((⟨i64 (z1.fPc + 1),z1.fLeft,z1.fRegs⟩ : Sproc_State).fRegs.a3) zea.1 zea.2 0 ([nth ([(⟨i64 (z1.fPc + 1),z1.fLeft,z1.fRegs⟩ : Sproc_State).fRegs.a0,(⟨i64 (z1.fPc + 1),z1.fLeft,z1.fRegs⟩ : Sproc_State).fRegs.a1,(⟨i64 (z1.fPc + 1),z1.fLeft,z1.fRegs⟩ : Sproc_State).fRegs.a2,(⟨i64 (z1.fPc + 1),z1.fLeft,z1.fRegs⟩ : Sproc_State).fRegs.a3] : List Int) zZ.1.fB] : List Int)),(17,(y1U (⟨i64 (z1.fPc + 1),z1.fLeft,z1.fRegs⟩ : Sproc_State) zZ.1 z14 0 0 0 ([] : List Int)).bind fun zeb=>z2u ((⟨i64 (z1.fPc + 1),z1.fLeft,z1.fRegs⟩ : Sproc_State).fPc) ((⟨i64 (z1.fPc + 1),z1.fLeft,z1.fRegs⟩ : Sproc_State).fLeft) ((⟨i64 (z1.fPc + 1),z1.fLeft,z1.fRegs⟩ : Sproc_State).fRegs.a0) ((⟨i64 (z1.fPc + 1),z1.fLeft,z1.fRegs⟩ : Sproc_State).fRegs.a1) ((⟨i64 (z1.fPc + 1),z1.fLeft,z1.fRegs⟩ : Sproc_State).fRegs.a2) ((⟨i64 (z1.fPc + 1),z1.fLeft,z1.fRegs⟩ : Sproc_State).fRegs.a3) zeb.1 zeb.2 0 ([] : List Int)),(18,(y1D (⟨i64 (z1.fPc + 1),z1.fLeft,z1.fRegs⟩ : Sproc_State) zZ.1 z14 0 0 0 ([] : List Int)).bind fun zec=>z2u ((⟨i64 (z1.fPc + 1),z1.fLeft,z1.fRegs⟩ : Sproc_State).fPc) ((⟨i64 (z1.fPc + 1),z1.fLeft,z1.fRegs⟩ : Sproc_State).fLeft) ((⟨i64 (z1.fPc + 1),z1.fLeft,z1.fRegs⟩ : Sproc_State).fRegs.a0) ((⟨i64 (z1.fPc + 1),z1.fLeft,z1.fRegs⟩ : Sproc_State).fRegs.a1) ((⟨i64 (z1.fPc + 1),z1.fLeft,z1.fRegs⟩ : Sproc_State).fRegs.a2) ((⟨i64 (z1.fPc + 1),z1.fLeft,z1.fRegs⟩ : Sproc_State).fRegs.a3) zec.1 zec.2 0 ([] : List Int)),(19,(y1V (⟨i64 (z1.fPc + 1),z1.fLeft,z1.fRegs⟩ : Sproc_State) zZ.1 z14 0 0 0 ([] : List Int)).bind fun zv3=>z2u ((⟨i64 (z1.fPc + 1),z1.fLeft,z1.fRegs⟩ : Sproc_State).fPc) ((⟨i64 (z1.fPc + 1),z1.fLeft,z1.fRegs⟩ : Sproc_State).fLeft) ((⟨i64 (z1.fPc + 1),z1.fLeft,z1.fRegs⟩ : Sproc_State).fRegs.a0) ((⟨i64 (z1.fPc + 1),z1.fLeft,z1.fRegs⟩ : Sproc_State).fRegs.a1) ((⟨i64 (z1.fPc + 1),z1.fLeft,z1.fRegs⟩ : Sproc_State).fRegs.a2) ((⟨i64 (z1.fPc + 1),z1.fLeft,z1.fRegs⟩ : Sproc_State).fRegs.a3) 14 0 0 ([] : List Int)),(20,(y1W (⟨i64 (z1.fPc + 1),z1.fLeft,z1.fRegs⟩ : Sproc_State) zZ.1 z14 0 0 0 ([] : List Int)).bind fun zh1=>z2u zh1 ((⟨i64 (z1.fPc + 1),z1.fLeft,z1.fRegs⟩ : Sproc_State).fLeft) ((⟨i64 (z1.fPc + 1),z1.fLeft,z1.fRegs⟩ : Sproc_State).fRegs.a0) ((⟨i64 (z1.fPc + 1),z1.fLeft,z1.fRegs⟩ : Sproc_State).fRegs.a1) ((⟨i64 (z1.fPc + 1),z1.fLeft,z1.fRegs⟩ : Sproc_State).fRegs.a2) ((⟨i64 (z1.fPc + 1),z1.fLeft,z1.fRegs⟩ : Sproc_State).fRegs.a3) 0 0 0 ([] : List Int)),(21,(y1X (⟨i64 (z1.fPc + 1),z1.fLeft,z1.fRegs⟩ : Sproc_State) zZ.1 z14 0 0 0 ([] : List Int)).bind fun zh2=>z2u zh2 ((⟨i64 (z1.fPc + 1),z1.fLeft,z1.fRegs⟩ : Sproc_State).fLeft) ((⟨i64 (z1.fPc + 1),z1.fLeft,z1.fRegs⟩ : Sproc_State).fRegs.a0) ((⟨i64 (z1.fPc + 1),z1.fLeft,z1.fRegs⟩ : Sproc_State).fRegs.a1) ((⟨i64 (z1.fPc + 1),z1.fLeft,z1.fRegs⟩ : Sproc_State).fRegs.a2) ((⟨i64 (z1.fPc + 1),z1.fLeft,z1.fRegs⟩ : Sproc_State).fRegs.a3) 0 0 0 ([] : List Int)),(22,(y1Y (⟨i64 (z1.fPc + 1),z1.fLeft,z1.fRegs⟩ : Sproc_State) zZ.1 z14 0 0 0 ([] : List Int)).bind fun zh3=>z2u zh3 ((⟨i64 (z1.fPc + 1),z1.fLeft,z1.fRegs⟩ : Sproc_State).fLeft) ((⟨i64 (z1.fPc + 1),z1.fLeft,z1.fRegs⟩ : Sproc_State).fRegs.a0) ((⟨i64 (z1.fPc + 1),z1.fLeft,z1.fRegs⟩ : Sproc_State).fRegs.a1) ((⟨i64 (z1.fPc + 1),z1.fLeft,z1.fRegs⟩ : Sproc_State).fRegs.a2) ((⟨i64 (z1.fPc + 1),z1.fLeft,z1.fRegs⟩ : Sproc_State).fRegs.a3) 0 0 0 ([] : List Int)),(23,(y28 (⟨i64 (z1.fPc + 1),z1.fLeft,z1.fRegs⟩ : Sproc_State) zZ.1 z14 0 0 0 ([] : List Int)).bind fun z4d=>z2u ((⟨i64 (z1.fPc + 1),z1.fLeft,z1.fRegs⟩ : Sproc_State).fPc) ((⟨i64 (z1.fPc + 1),z1.fLeft,z1.fRegs⟩ : Sproc_State).fLeft) z4d.1 z4d.2.1 z4d.2.2.1 z4d.2.2.2.1 z4d.2.2.2.2.1 z4d.2.2.2.2.2.1 z4d.2.2.2.2.2.2.1 z4d.2.2.2.2.2.2.2),(24,(y1E (⟨i64 (z1.fPc + 1),z1.fLeft,z1.fRegs⟩ : Sproc_State) zZ.1 z14 0 0 0 ([] : List Int)).bind fun zed=>z2u ((⟨i64 (z1.fPc + 1),z1.fLeft,z1.fRegs⟩ : Sproc_State).fPc) ((⟨i64 (z1.fPc + 1),z1.fLeft,z1.fRegs⟩ : Sproc_State).fLeft) ((⟨i64 (z1.fPc + 1),z1.fLeft,z1.fRegs⟩ : Sproc_State).fRegs.a0) ((⟨i64 (z1.fPc + 1),z1.fLeft,z1.fRegs⟩ : Sproc_State).fRegs.a1) ((⟨i64 (z1.fPc + 1),z1.fLeft,z1.fRegs⟩ : Sproc_State).fRegs.a2) ((⟨i64 (z1.fPc + 1),z1.fLeft,z1.fRegs⟩ : Sproc_State).fRegs.a3) 15 zed.1 zed.2 ([] : List Int)),(25,(y1Z (⟨i64 (z1.fPc + 1),z1.fLeft,z1.fRegs⟩ : Sproc_State) zZ.1 z14 0 0 0 ([] : List Int)).bind fun zh4=>z2u zh4 ((⟨i64 (z1.fPc + 1),z1.fLeft,z1.fRegs⟩ : Sproc_State).fLeft) ((⟨i64 (z1.fPc + 1),z1.fLeft,z1.fRegs⟩ : Sproc_State).fRegs.a0) ((⟨i64 (z1.fPc + 1),z1.fLeft,z1.fRegs⟩ : Sproc_State).fRegs.a1) ((⟨i64 (z1.fPc + 1),z1.fLeft,z1.fRegs⟩ : Sproc_State).fRegs.a2) ((⟨i64 (z1.fPc + 1),z1.fLeft,z1.fRegs⟩ : Sproc_State).fRegs.a3) 16 0 0 ([] : List Int))] zZ.1.fOp)
set_option maxRecDepth 20000 in
theorem y7b (Z : Zp) (zeW : Option Addr) (zeX : Nat) (z4t : Option Addr) (z4u : Nat) (zbZ : List Sapi_Ins) (z1 : Sproc_State) (z14 : List Int) (r : Sproc_State × Sproc_Act)
  (h : y3c zbZ z1 z14 = some r) (w₀ : World) (hz : PZ (fps [row (.slice z4t z14.length z4u) 5 1 (z14.flatMap e5)]) w₀ Z)
  (hG0 : ZC Z ⟨0,0,none⟩ y60)
  (hG1 : ZS Z 1 (p74 Z) (some ⟨1,0,none⟩) 26 y19)
  (zv4 : ZS Z 4 (fun r x=>r = e33 x) zeW zeX zbZ)
  (hown : Hp (fps [row (.slice z4t z14.length z4u) 5 1 (z14.flatMap e5)]) w₀ w₀ [row (.slice z4t z14.length z4u) 5 1 (z14.flatMap e5)]) :
  Calls Tryd.prog 18 #[(.slice zeW zbZ.length zeX),(.agg #[(.int .i64 z1.fPc),(.int .i64 z1.fLeft),(.int .u8 z1.fRegs.a0),(.int .u8 z1.fRegs.a1),(.int .u8 z1.fRegs.a2),(.int .u8 z1.fRegs.a3)]),(.slice z4t z14.length z4u)] w₀ fun e w'=>∃ zkG : Option Addr,∃ zkH : Nat,e = .returned (.tuple #[(.agg #[(.int .i64 r.1.fPc),(.int .i64 r.1.fLeft),(.int .u8 r.1.fRegs.a0),(.int .u8 r.1.fRegs.a1),(.int .u8 r.1.fRegs.a2),(.int .u8 r.1.fRegs.a3)]),(.agg #[(.int .u8 r.2.fKind),(.int .i64 r.2.fA),(.int .i64 r.2.fB),(.slice zkG r.2.fData.length zkH)])]) ∧ True ∧ Hp (fps [row (.slice z4t z14.length z4u) 5 1 (z14.flatMap e5)]) w₀ w' [row (.slice zkG r.2.fData.length zkH) 5 1 (r.2.fData.flatMap e5),row (.slice z4t z14.length z4u) 5 1 (z14.flatMap e5)]:=by
 unfold y3c at h
 refine Calls.y8 (vs:=[(.slice zeW zbZ.length zeX),(.agg #[(.int .i64 z1.fPc),(.int .i64 z1.fLeft),(.int .u8 z1.fRegs.a0),(.int .u8 z1.fRegs.a1),(.int .u8 z1.fRegs.a2),(.int .u8 z1.fRegs.a3)]),(.slice z4t z14.length z4u)]) (pre:=[row (.slice z4t z14.length z4u) 5 1 (z14.flatMap e5)]) (env:=[(0,(.slice zeW zbZ.length zeX)),(1,(.agg #[(.int .i64 z1.fPc),(.int .i64 z1.fLeft),(.int .u8 z1.fRegs.a0),(.int .u8 z1.fRegs.a1),(.int .u8 z1.fRegs.a2),(.int .u8 z1.fRegs.a3)])),(2,(.slice z4t z14.length z4u))]) Tryd.func18 rfl Tryd.ntmps18 rfl (hown) rfl ?_
 refine WC.b (WC.a ?_)
 refine WL.new (dd:=4) rfl rfl rfl (y3p (cs:=[(.int .i64 z1.fPc),(.int .i64 z1.fLeft),(.int .u8 z1.fRegs.a0),(.int .u8 z1.fRegs.a1),(.int .u8 z1.fRegs.a2),(.int .u8 z1.fRegs.a3)]) rfl rfl) ?_
 intro zxP _
 refine WL.new (dd:=6) rfl rfl rfl (yA (cs:=[(.int .i64 0),(.int .i64 0),(.int .u8 0),(.int .u8 0),(.int .u8 0),(.int .u8 0)]) y1i rfl) ?_
 intro zkI _
 refine WL.new (dd:=7) rfl rfl rfl (yA (cs:=[(.int .u8 0),(.int .i64 0),(.int .i64 0),(.slice none 0 0)]) y1o rfl) ?_
 intro zkJ _
 refine WL.nil (WX.a (WC.b ?_))
 obtain ⟨zZ,zv5,h⟩:=zb h
 refine WC.a (WL.pu rfl ?_)
 refine WL.a (d:=13) rfl rfl rfl (y4 y1d rfl rfl) ?_
 refine WL.a (d:=14) rfl rfl rfl (y5 yd rfl (yb .h2 rfl)) ?_
 refine WL.b (dd:=15) rfl rfl rfl (zk (l:=[.tmp 12,.tmp 14]) Tryd.call33 (.cons rfl (.cons rfl .nil))) .nil (cc hz .nil fun w pz ho=>y5S _ _ _ _ _ _ zv5 w pz hG1 zv4) ?_
 refine WL.pu rfl (WL.pu rfl (WL.pu rfl ?_))
 refine WL.new (dd:=8) rfl rfl rfl (yA (cs:=[(.int .u8 0),(.int .i64 0),(.int .i64 0),(.int .i64 0)]) y49 rfl) ?_
 intro zxQ _
 refine WL.yf rfl rfl (yt y43 rfl rfl rfl .here rfl rfl rfl) ?_
 refine WL.pu rfl (WL.nil (WX.a (WC.b (WC.b (WC.a (WL.pu rfl (WL.pu rfl (WL.nil (WX.a ?_)))))))))
 refine WC.cond rfl (fun zh5=>?_) (fun zh5=>?_)
 ·replace h:=ym h zh5
  refine WC.b (WC.a ?_)
  refine WL.a (d:=20) rfl rfl rfl (yE yQ rfl (yz .h3) rfl) ?_
  refine WL.a (d:=21) rfl rfl rfl (yP (v:=(.agg #[(.int .u8 15),(.int .i64 5),(.int .i64 0),(.slice none 0 0)])) (Eos.parts (l:=[.const (.int .u8 15),.const (.int .i64 5)]) (.cons rfl (.cons rfl .nil)) [0,1]) (fun _=>by kernel_rfl)) ?_
  refine WL.yf rfl rfl (yt y1l rfl rfl rfl .h2 rfl rfl rfl) ?_
  refine WL.yf rfl rfl (yt yV rfl rfl rfl .h2 rfl rfl rfl) ?_
  refine WL.nil (WX.a (WC.ret (WX.yh ?_)))
  refine WX.nilRow 5 1 ?_
  obtain rfl:=Option.some.inj h
  refine WX.yi Tryd.results18 (.agg rfl yQ rfl (yz .h2) (.agg rfl y1q rfl (yz .h1) .nil)) (fun w hw=>?_)
  exact ⟨none,0,y3M rfl rfl,trivial,hw.sub (.cons .here (.cons .h4 .nil))⟩
 ·replace h:=yn h zh5
  refine WC.skip (WX.a (WC.b (WC.a ?_)))
  refine WL.a (d:=22) rfl rfl rfl (yE yQ rfl (yz .h3) rfl) ?_
  refine WL.a (d:=23) rfl rfl rfl (yE y3h rfl (yz .here) rfl) ?_
  refine WL.pu rfl ?_
  refine WL.a (d:=25) rfl rfl rfl (yP (v:=(.agg #[(.int .i64 z1.fPc),(.int .i64 z1.fLeft),(.int .u8 z1.fRegs.a0),(.int .u8 z1.fRegs.a1),(.int .u8 z1.fRegs.a2),(.int .u8 z1.fRegs.a3),(.int .u8 zZ.1.fOp),(.int .i64 zZ.1.fA),(.int .i64 zZ.1.fB),(.int .i64 zZ.1.fC),(.slice z4t z14.length z4u),(.int .u8 0),(.int .i64 0),(.int .i64 0),(.slice none 0 0)])) (Eos.parts (l:=[.tmp 22,.tmp 23,.tmp 24]) (.cons rfl (.cons rfl (.cons rfl .nil))) [0,1,2]) (fun _=>by kernel_rfl)) ?_
  refine WL.new (dd:=26) rfl rfl rfl (y3p (cs:=[(.int .i64 z1.fPc),(.int .i64 z1.fLeft),(.int .u8 z1.fRegs.a0),(.int .u8 z1.fRegs.a1),(.int .u8 z1.fRegs.a2),(.int .u8 z1.fRegs.a3),(.int .u8 zZ.1.fOp),(.int .i64 zZ.1.fA),(.int .i64 zZ.1.fB),(.int .i64 zZ.1.fC),(.slice z4t z14.length z4u),(.int .u8 0),(.int .i64 0),(.int .i64 0),(.slice none 0 0)]) rfl rfl) ?_
  intro zh6 _
  refine WL.pu rfl (WL.nil (WX.a (WC.b (WC.a (WL.pu rfl ?_)))))
  refine WL.a (d:=28) rfl rfl rfl (y6 rfl) ?_
  refine WL.a (d:=29) rfl rfl rfl (y4 yH rfl rfl) ?_
  refine WL.a (d:=30) rfl rfl rfl (y4 y1d rfl rfl) ?_
  refine WL.a (d:=31) rfl rfl rfl (y5 yd rfl (yb .here rfl)) ?_
  refine WL.pu rfl ?_
  refine WL.a (d:=33) rfl rfl rfl (y6 rfl) ?_
  refine WL.a (d:=34) rfl rfl rfl (y4 yH rfl rfl) ?_
  refine WL.a (d:=35) rfl rfl rfl (y4 y1d rfl rfl) ?_
  refine WL.yf rfl rfl (yK (ds:=[(.int .i64 (i64 (z1.fPc + 1))),(.int .i64 z1.fLeft),(.int .u8 z1.fRegs.a0),(.int .u8 z1.fRegs.a1),(.int .u8 z1.fRegs.a2),(.int .u8 z1.fRegs.a3),(.int .u8 zZ.1.fOp),(.int .i64 zZ.1.fA),(.int .i64 zZ.1.fB),(.int .i64 zZ.1.fC),(.slice z4t z14.length z4u),(.int .u8 0),(.int .i64 0),(.int .i64 0),(.slice none 0 0)]) y20 rfl rfl rfl rfl rfl .here rfl rfl) ?_
  refine WL.nil (WX.a ?_)
  obtain ⟨z2u,zv6,h⟩:=y7P h
  refine WC.y7e (fun (z7Q : Int) (z7R : Int) (z7S : Int) (z7T : Int) (z7U : Int) (z7V : Int) (z7W : Int) (z7X : Int) (z7Y : Int) (z6q : List Int) (zbb : Option Addr) (zbc : Nat)=>(z2u z7Q z7R z7S z7T z7U z7V z7W z7X z7Y z6q = some r)) (fun (z7Q : Int) (z7R : Int) (z7S : Int) (z7T : Int) (z7U : Int) (z7V : Int) (z7W : Int) (z7X : Int) (z7Y : Int) (z6q : List Int) (zbb : Option Addr) (zbc : Nat)=>[(6,(.pointer (some ⟨zkI,0,none⟩))),(7,(.pointer (some ⟨zkJ,0,none⟩))),(10,(.pointer (some ⟨zh6,0,none⟩)))]) (fun (z7Q : Int) (z7R : Int) (z7S : Int) (z7T : Int) (z7U : Int) (z7V : Int) (z7W : Int) (z7X : Int) (z7Y : Int) (z6q : List Int) (zbb : Option Addr) (zbc : Nat)=>[row (.slice z4t z14.length z4u) 5 1 (z14.flatMap e5),stb zkI 39 [(.int .i64 0),(.int .i64 0),(.int .u8 0),(.int .u8 0),(.int .u8 0),(.int .u8 0)],stb zkJ 41 [(.int .u8 0),(.int .i64 0),(.int .i64 0),(.slice none 0 0)],stb zh6 65 [(.int .i64 z7Q),(.int .i64 z7R),(.int .u8 z7S),(.int .u8 z7T),(.int .u8 z7U),(.int .u8 z7V),(.int .u8 zZ.1.fOp),(.int .i64 zZ.1.fA),(.int .i64 zZ.1.fB),(.int .i64 zZ.1.fC),(.slice z4t z14.length z4u),(.int .u8 z7W),(.int .i64 z7X),(.int .i64 z7Y),(.slice zbb z6q.length zbc)],row (.slice zbb z6q.length zbc) 5 1 (z6q.flatMap e5)]) ?_ ?_
  ·skip
   obtain ⟨zv7,h⟩:=ya h
   refine WC.a ?_
   refine WL.a (d:=36) rfl rfl rfl (y4 y3P rfl rfl) ?_
   refine WL.a (d:=37) rfl rfl rfl (y5 yC rfl (yb .h1 rfl)) ?_
   refine WL.a (d:=38) rfl rfl rfl (y3u arT_67 rfl rfl zv7 rfl) ?_
   rcases yo h with ⟨zv8,h⟩ | h
   ·skip
    obtain ⟨ze1,zv9,h⟩:=zb h
    refine WL.a (d:=39) rfl rfl rfl (y5 yp rfl (yw (k:=1) hz.pv hG0 zv8 rfl)) ?_
    refine WL.pu rfl ?_
    refine WL.nilRow 5 1 ?_
    refine WL.b (dd:=41) rfl rfl rfl (ye (l:=[.tmp 40]) Tryd.call84 rfl (.cons rfl .nil)) (.cons .h1 (.cons .h5 (.cons .here .nil))) (cc hz (.cons .h1 (.cons .h5 (.cons .here .nil))) fun w pz ho=>y4C _ _ _ _ _ _ _ _ _ _ _ _ _ _ zv9 w pz  ho) ?_
    refine WL.nil ?_
    exact WX.mid (G:=Int × Int × Int × Int × Int × Int × Int × Int × Int × List Int × Option Addr × Nat) ⟨ze1.1,ze1.2,((⟨i64 (z1.fPc + 1),z1.fLeft,z1.fRegs⟩ : Sproc_State).fRegs.a0),((⟨i64 (z1.fPc + 1),z1.fLeft,z1.fRegs⟩ : Sproc_State).fRegs.a1),((⟨i64 (z1.fPc + 1),z1.fLeft,z1.fRegs⟩ : Sproc_State).fRegs.a2),((⟨i64 (z1.fPc + 1),z1.fLeft,z1.fRegs⟩ : Sproc_State).fRegs.a3),0,0,0,([] : List Int),none,0⟩ h (.cons rfl (.cons rfl (.cons rfl .nil))) (.cons .h1 (.cons .h4 (.cons .h3 (.cons .here (.cons .here .nil)))))
   rcases yo h with ⟨zva,h⟩ | h
   ·skip
    obtain ⟨z9v,zvb,h⟩:=zb h
    refine WL.a (d:=39) rfl rfl rfl (y5 yp rfl (yw (k:=2) hz.pv hG0 zva rfl)) ?_
    refine WL.pu rfl ?_
    refine WL.nilRow 5 1 ?_
    refine WL.b (dd:=41) rfl rfl rfl (ye (l:=[.tmp 40]) Tryd.call85 rfl (.cons rfl .nil)) (.cons .h1 (.cons .h5 (.cons .here .nil))) (cc hz (.cons .h1 (.cons .h5 (.cons .here .nil))) fun w pz ho=>y57 _ _ _ _ _ _ _ _ _ _ _ _ _ _ zvb w pz  ho) ?_
    refine WL.nil ?_
    exact WX.mid (G:=Int × Int × Int × Int × Int × Int × Int × Int × Int × List Int × Option Addr × Nat) ⟨((⟨i64 (z1.fPc + 1),z1.fLeft,z1.fRegs⟩ : Sproc_State).fPc),((⟨i64 (z1.fPc + 1),z1.fLeft,z1.fRegs⟩ : Sproc_State).fLeft),z9v.1,z9v.2.1,z9v.2.2.1,z9v.2.2.2,0,0,0,([] : List Int),none,0⟩ h (.cons rfl (.cons rfl (.cons rfl .nil))) (.cons .h1 (.cons .h4 (.cons .h3 (.cons .here (.cons .here .nil)))))
   rcases yo h with ⟨zvc,h⟩ | h
   ·skip
    obtain ⟨z9w,zvd,h⟩:=zb h
    refine WL.a (d:=39) rfl rfl rfl (y5 yp rfl (yw (k:=3) hz.pv hG0 zvc rfl)) ?_
    refine WL.pu rfl ?_
    refine WL.nilRow 5 1 ?_
    refine WL.b (dd:=41) rfl rfl rfl (ye (l:=[.tmp 40]) Tryd.call82 rfl (.cons rfl .nil)) (.cons .h1 (.cons .h5 (.cons .here .nil))) (cc hz (.cons .h1 (.cons .h5 (.cons .here .nil))) fun w pz ho=>y58 _ _ _ _ _ _ _ _ _ _ _ _ _ _ zvd w pz  ho) ?_
    refine WL.nil ?_
    exact WX.mid (G:=Int × Int × Int × Int × Int × Int × Int × Int × Int × List Int × Option Addr × Nat) ⟨((⟨i64 (z1.fPc + 1),z1.fLeft,z1.fRegs⟩ : Sproc_State).fPc),((⟨i64 (z1.fPc + 1),z1.fLeft,z1.fRegs⟩ : Sproc_State).fLeft),z9w.1,z9w.2.1,z9w.2.2.1,z9w.2.2.2,0,0,0,([] : List Int),none,0⟩ h (.cons rfl (.cons rfl (.cons rfl .nil))) (.cons .h1 (.cons .h4 (.cons .h3 (.cons .here (.cons .here .nil)))))
   rcases yo h with ⟨zve,h⟩ | h
   ·skip
    obtain ⟨z9x,zvf,h⟩:=zb h
    refine WL.a (d:=39) rfl rfl rfl (y5 yp rfl (yw (k:=4) hz.pv hG0 zve rfl)) ?_
    refine WL.pu rfl ?_
    refine WL.nilRow 5 1 ?_
    refine WL.b (dd:=41) rfl rfl rfl (ye (l:=[.tmp 40]) Tryd.call86 rfl (.cons rfl .nil)) (.cons .h1 (.cons .h5 (.cons .here .nil))) (cc hz (.cons .h1 (.cons .h5 (.cons .here .nil))) fun w pz ho=>y59 _ _ _ _ _ _ _ _ _ _ _ _ _ _ zvf w pz  ho) ?_
    refine WL.nil ?_
    exact WX.mid (G:=Int × Int × Int × Int × Int × Int × Int × Int × Int × List Int × Option Addr × Nat) ⟨((⟨i64 (z1.fPc + 1),z1.fLeft,z1.fRegs⟩ : Sproc_State).fPc),((⟨i64 (z1.fPc + 1),z1.fLeft,z1.fRegs⟩ : Sproc_State).fLeft),z9x.1,z9x.2.1,z9x.2.2.1,z9x.2.2.2,0,0,0,([] : List Int),none,0⟩ h (.cons rfl (.cons rfl (.cons rfl .nil))) (.cons .h1 (.cons .h4 (.cons .h3 (.cons .here (.cons .here .nil)))))
   rcases yo h with ⟨zvg,h⟩ | h
   ·skip
    obtain ⟨z4c,zvh,h⟩:=zb h
    refine WL.a (d:=39) rfl rfl rfl (y5 yp rfl (yw (k:=5) hz.pv hG0 zvg rfl)) ?_
    refine WL.pu rfl ?_
    refine WL.nilRow 5 1 ?_
    refine WL.y1y (dd:=41) rfl rfl rfl (ye (l:=[.tmp 40]) Tryd.call87 rfl (.cons rfl .nil)) (.cons .h1 (.cons .h5 (.cons .here .nil))) (cc hz (.cons .h1 (.cons .h5 (.cons .here .nil))) fun w pz ho=>y4D _ _ _ _ _ _ _ _ _ _ _ _ _ _ zvh w pz  ho) ?_
    rintro zvi zvj _
    refine WL.nil ?_
    exact WX.mid (G:=Int × Int × Int × Int × Int × Int × Int × Int × Int × List Int × Option Addr × Nat) ⟨((⟨i64 (z1.fPc + 1),z1.fLeft,z1.fRegs⟩ : Sproc_State).fPc),((⟨i64 (z1.fPc + 1),z1.fLeft,z1.fRegs⟩ : Sproc_State).fLeft),z4c.1,z4c.2.1,z4c.2.2.1,z4c.2.2.2.1,z4c.2.2.2.2.1,z4c.2.2.2.2.2.1,z4c.2.2.2.2.2.2.1,z4c.2.2.2.2.2.2.2,zvi,zvj⟩ h (.cons rfl (.cons rfl (.cons rfl .nil))) (.cons .h1 (.cons .h4 (.cons .h3 (.cons .here (.cons .here .nil)))))
   rcases yo h with ⟨zvk,h⟩ | h
   ·skip
    obtain ⟨z9y,zvl,h⟩:=zb h
    refine WL.a (d:=39) rfl rfl rfl (y5 yp rfl (yw (k:=6) hz.pv hG0 zvk rfl)) ?_
    refine WL.pu rfl ?_
    refine WL.nilRow 5 1 ?_
    refine WL.y1y (dd:=41) rfl rfl rfl (ye (l:=[.tmp 40]) Tryd.call88 rfl (.cons rfl .nil)) (.cons .h1 (.cons .h5 (.cons .here .nil))) (cc hz (.cons .h1 (.cons .h5 (.cons .here .nil))) fun w pz ho=>y4l _ _ _ _ _ _ _ _ _ _ _ _ _ _ zvl w pz  ho) ?_
    rintro zvm zvn _
    refine WL.nil ?_
    exact WX.mid (G:=Int × Int × Int × Int × Int × Int × Int × Int × Int × List Int × Option Addr × Nat) ⟨((⟨i64 (z1.fPc + 1),z1.fLeft,z1.fRegs⟩ : Sproc_State).fPc),((⟨i64 (z1.fPc + 1),z1.fLeft,z1.fRegs⟩ : Sproc_State).fLeft),((⟨i64 (z1.fPc + 1),z1.fLeft,z1.fRegs⟩ : Sproc_State).fRegs.a0),((⟨i64 (z1.fPc + 1),z1.fLeft,z1.fRegs⟩ : Sproc_State).fRegs.a1),((⟨i64 (z1.fPc + 1),z1.fLeft,z1.fRegs⟩ : Sproc_State).fRegs.a2),((⟨i64 (z1.fPc + 1),z1.fLeft,z1.fRegs⟩ : Sproc_State).fRegs.a3),z9y.1,z9y.2.1,z9y.2.2.1,z9y.2.2.2,zvm,zvn⟩ h (.cons rfl (.cons rfl (.cons rfl .nil))) (.cons .h1 (.cons .h4 (.cons .h3 (.cons .here (.cons .here .nil)))))
   rcases yo h with ⟨zvo,h⟩ | h
   ·skip
    obtain ⟨zc0,zvp,h⟩:=zb h
    refine WL.a (d:=39) rfl rfl rfl (y5 yp rfl (yw (k:=7) hz.pv hG0 zvo rfl)) ?_
    refine WL.pu rfl ?_
    refine WL.nilRow 5 1 ?_
    refine WL.y1y (dd:=41) rfl rfl rfl (ye (l:=[.tmp 40]) Tryd.call89 rfl (.cons rfl .nil)) (.cons .h1 (.cons .h5 (.cons .here .nil))) (cc hz (.cons .h1 (.cons .h5 (.cons .here .nil))) fun w pz ho=>y4E _ _ _ _ _ _ _ _ _ _ _ _ _ _ zvp w pz  ho) ?_
    rintro zvq zvr _
    refine WL.nil ?_
    exact WX.mid (G:=Int × Int × Int × Int × Int × Int × Int × Int × Int × List Int × Option Addr × Nat) ⟨((⟨i64 (z1.fPc + 1),z1.fLeft,z1.fRegs⟩ : Sproc_State).fPc),((⟨i64 (z1.fPc + 1),z1.fLeft,z1.fRegs⟩ : Sproc_State).fLeft),((⟨i64 (z1.fPc + 1),z1.fLeft,z1.fRegs⟩ : Sproc_State).fRegs.a0),((⟨i64 (z1.fPc + 1),z1.fLeft,z1.fRegs⟩ : Sproc_State).fRegs.a1),((⟨i64 (z1.fPc + 1),z1.fLeft,z1.fRegs⟩ : Sproc_State).fRegs.a2),((⟨i64 (z1.fPc + 1),z1.fLeft,z1.fRegs⟩ : Sproc_State).fRegs.a3),zc0.1,zc0.2.1,0,zc0.2.2,zvq,zvr⟩ h (.cons rfl (.cons rfl (.cons rfl .nil))) (.cons .h1 (.cons .h5 (.cons .h4 (.cons .here (.cons .here .nil)))))
   rcases yo h with ⟨zvs,h⟩ | h
   ·skip
    obtain ⟨ze2,zvt,h⟩:=zb h
    refine WL.a (d:=39) rfl rfl rfl (y5 yp rfl (yw (k:=8) hz.pv hG0 zvs rfl)) ?_
    refine WL.pu rfl ?_
    refine WL.nilRow 5 1 ?_
    refine WL.b (dd:=41) rfl rfl rfl (ye (l:=[.tmp 40]) Tryd.call90 rfl (.cons rfl .nil)) (.cons .h1 (.cons .h5 (.cons .here .nil))) (cc hz (.cons .h1 (.cons .h5 (.cons .here .nil))) fun w pz ho=>y4F _ _ _ _ _ _ _ _ _ _ _ _ _ _ zvt w pz  ho) ?_
    refine WL.nil ?_
    refine WX.nilRow 5 1 ?_
    exact WX.mid (G:=Int × Int × Int × Int × Int × Int × Int × Int × Int × List Int × Option Addr × Nat) ⟨((⟨i64 (z1.fPc + 1),z1.fLeft,z1.fRegs⟩ : Sproc_State).fPc),((⟨i64 (z1.fPc + 1),z1.fLeft,z1.fRegs⟩ : Sproc_State).fLeft),((⟨i64 (z1.fPc + 1),z1.fLeft,z1.fRegs⟩ : Sproc_State).fRegs.a0),((⟨i64 (z1.fPc + 1),z1.fLeft,z1.fRegs⟩ : Sproc_State).fRegs.a1),((⟨i64 (z1.fPc + 1),z1.fLeft,z1.fRegs⟩ : Sproc_State).fRegs.a2),((⟨i64 (z1.fPc + 1),z1.fLeft,z1.fRegs⟩ : Sproc_State).fRegs.a3),ze2.1,ze2.2,0,([] : List Int),none,0⟩ h (.cons rfl (.cons rfl (.cons rfl .nil))) (.cons .h2 (.cons .h5 (.cons .h4 (.cons .h1 (.cons .here .nil)))))
   rcases yo h with ⟨zvu,h⟩ | h
   ·skip
    obtain ⟨ze3,zvv,h⟩:=zb h
    refine WL.a (d:=39) rfl rfl rfl (y5 yp rfl (yw (k:=9) hz.pv hG0 zvu rfl)) ?_
    refine WL.pu rfl ?_
    refine WL.nilRow 5 1 ?_
    refine WL.b (dd:=41) rfl rfl rfl (ye (l:=[.tmp 40]) Tryd.call91 rfl (.cons rfl .nil)) (.cons .h1 (.cons .h5 (.cons .here .nil))) (cc hz (.cons .h1 (.cons .h5 (.cons .here .nil))) fun w pz ho=>y4G _ _ _ _ _ _ _ _ _ _ _ _ _ _ zvv w pz  ho) ?_
    refine WL.nil ?_
    refine WX.nilRow 5 1 ?_
    exact WX.mid (G:=Int × Int × Int × Int × Int × Int × Int × Int × Int × List Int × Option Addr × Nat) ⟨((⟨i64 (z1.fPc + 1),z1.fLeft,z1.fRegs⟩ : Sproc_State).fPc),((⟨i64 (z1.fPc + 1),z1.fLeft,z1.fRegs⟩ : Sproc_State).fLeft),((⟨i64 (z1.fPc + 1),z1.fLeft,z1.fRegs⟩ : Sproc_State).fRegs.a0),((⟨i64 (z1.fPc + 1),z1.fLeft,z1.fRegs⟩ : Sproc_State).fRegs.a1),((⟨i64 (z1.fPc + 1),z1.fLeft,z1.fRegs⟩ : Sproc_State).fRegs.a2),((⟨i64 (z1.fPc + 1),z1.fLeft,z1.fRegs⟩ : Sproc_State).fRegs.a3),ze3.1,ze3.2,0,([] : List Int),none,0⟩ h (.cons rfl (.cons rfl (.cons rfl .nil))) (.cons .h2 (.cons .h5 (.cons .h4 (.cons .h1 (.cons .here .nil)))))
   rcases yo h with ⟨zvw,h⟩ | h
   ·skip
    obtain ⟨ze4,zvx,h⟩:=zb h
    refine WL.a (d:=39) rfl rfl rfl (y5 yp rfl (yw (k:=10) hz.pv hG0 zvw rfl)) ?_
    refine WL.pu rfl ?_
    refine WL.nilRow 5 1 ?_
    refine WL.b (dd:=41) rfl rfl rfl (ye (l:=[.tmp 40]) Tryd.call92 rfl (.cons rfl .nil)) (.cons .h1 (.cons .h5 (.cons .here .nil))) (cc hz (.cons .h1 (.cons .h5 (.cons .here .nil))) fun w pz ho=>y4f _ _ _ _ _ _ _ _ _ _ _ _ _ _ zvx w pz  ho) ?_
    refine WL.nil ?_
    refine WX.nilRow 5 1 ?_
    exact WX.mid (G:=Int × Int × Int × Int × Int × Int × Int × Int × Int × List Int × Option Addr × Nat) ⟨((⟨i64 (z1.fPc + 1),z1.fLeft,z1.fRegs⟩ : Sproc_State).fPc),((⟨i64 (z1.fPc + 1),z1.fLeft,z1.fRegs⟩ : Sproc_State).fLeft),((⟨i64 (z1.fPc + 1),z1.fLeft,z1.fRegs⟩ : Sproc_State).fRegs.a0),((⟨i64 (z1.fPc + 1),z1.fLeft,z1.fRegs⟩ : Sproc_State).fRegs.a1),((⟨i64 (z1.fPc + 1),z1.fLeft,z1.fRegs⟩ : Sproc_State).fRegs.a2),((⟨i64 (z1.fPc + 1),z1.fLeft,z1.fRegs⟩ : Sproc_State).fRegs.a3),ze4.1,ze4.2,0,([] : List Int),none,0⟩ h (.cons rfl (.cons rfl (.cons rfl .nil))) (.cons .h2 (.cons .h5 (.cons .h4 (.cons .h1 (.cons .here .nil)))))
   rcases yo h with ⟨zvy,h⟩ | h
   ·skip
    obtain ⟨ze5,zvz,h⟩:=zb h
    refine WL.a (d:=39) rfl rfl rfl (y5 yp rfl (yw (k:=11) hz.pv hG0 zvy rfl)) ?_
    refine WL.pu rfl ?_
    refine WL.nilRow 5 1 ?_
    refine WL.b (dd:=41) rfl rfl rfl (ye (l:=[.tmp 40]) Tryd.call93 rfl (.cons rfl .nil)) (.cons .h1 (.cons .h5 (.cons .here .nil))) (cc hz (.cons .h1 (.cons .h5 (.cons .here .nil))) fun w pz ho=>y4m _ _ _ _ _ _ _ _ _ _ _ _ _ _ zvz w pz  ho) ?_
    refine WL.nil ?_
    refine WX.nilRow 5 1 ?_
    exact WX.mid (G:=Int × Int × Int × Int × Int × Int × Int × Int × Int × List Int × Option Addr × Nat) ⟨((⟨i64 (z1.fPc + 1),z1.fLeft,z1.fRegs⟩ : Sproc_State).fPc),((⟨i64 (z1.fPc + 1),z1.fLeft,z1.fRegs⟩ : Sproc_State).fLeft),((⟨i64 (z1.fPc + 1),z1.fLeft,z1.fRegs⟩ : Sproc_State).fRegs.a0),((⟨i64 (z1.fPc + 1),z1.fLeft,z1.fRegs⟩ : Sproc_State).fRegs.a1),((⟨i64 (z1.fPc + 1),z1.fLeft,z1.fRegs⟩ : Sproc_State).fRegs.a2),((⟨i64 (z1.fPc + 1),z1.fLeft,z1.fRegs⟩ : Sproc_State).fRegs.a3),ze5.1,ze5.2,0,([] : List Int),none,0⟩ h (.cons rfl (.cons rfl (.cons rfl .nil))) (.cons .h2 (.cons .h5 (.cons .h4 (.cons .h1 (.cons .here .nil)))))
   rcases yo h with ⟨zvA,h⟩ | h
   ·skip
    obtain ⟨ze6,zvB,h⟩:=zb h
    refine WL.a (d:=39) rfl rfl rfl (y5 yp rfl (yw (k:=12) hz.pv hG0 zvA rfl)) ?_
    refine WL.pu rfl ?_
    refine WL.nilRow 5 1 ?_
    refine WL.b (dd:=41) rfl rfl rfl (ye (l:=[.tmp 40]) Tryd.call94 rfl (.cons rfl .nil)) (.cons .h1 (.cons .h5 (.cons .here .nil))) (cc hz (.cons .h1 (.cons .h5 (.cons .here .nil))) fun w pz ho=>y4n _ _ _ _ _ _ _ _ _ _ _ _ _ _ zvB w pz  ho) ?_
    refine WL.nil ?_
    refine WX.nilRow 5 1 ?_
    exact WX.mid (G:=Int × Int × Int × Int × Int × Int × Int × Int × Int × List Int × Option Addr × Nat) ⟨((⟨i64 (z1.fPc + 1),z1.fLeft,z1.fRegs⟩ : Sproc_State).fPc),((⟨i64 (z1.fPc + 1),z1.fLeft,z1.fRegs⟩ : Sproc_State).fLeft),((⟨i64 (z1.fPc + 1),z1.fLeft,z1.fRegs⟩ : Sproc_State).fRegs.a0),((⟨i64 (z1.fPc + 1),z1.fLeft,z1.fRegs⟩ : Sproc_State).fRegs.a1),((⟨i64 (z1.fPc + 1),z1.fLeft,z1.fRegs⟩ : Sproc_State).fRegs.a2),((⟨i64 (z1.fPc + 1),z1.fLeft,z1.fRegs⟩ : Sproc_State).fRegs.a3),ze6.1,ze6.2,0,([] : List Int),none,0⟩ h (.cons rfl (.cons rfl (.cons rfl .nil))) (.cons .h2 (.cons .h5 (.cons .h4 (.cons .h1 (.cons .here .nil)))))
   rcases yo h with ⟨zvC,h⟩ | h
   ·skip
    obtain ⟨ze7,zvD,h⟩:=zb h
    refine WL.a (d:=39) rfl rfl rfl (y5 yp rfl (yw (k:=13) hz.pv hG0 zvC rfl)) ?_
    refine WL.pu rfl ?_
    refine WL.nilRow 5 1 ?_
    refine WL.b (dd:=41) rfl rfl rfl (ye (l:=[.tmp 40]) Tryd.call95 rfl (.cons rfl .nil)) (.cons .h1 (.cons .h5 (.cons .here .nil))) (cc hz (.cons .h1 (.cons .h5 (.cons .here .nil))) fun w pz ho=>y4o _ _ _ _ _ _ _ _ _ _ _ _ _ _ zvD w pz  ho) ?_
    refine WL.nil ?_
    refine WX.nilRow 5 1 ?_
    exact WX.mid (G:=Int × Int × Int × Int × Int × Int × Int × Int × Int × List Int × Option Addr × Nat) ⟨((⟨i64 (z1.fPc + 1),z1.fLeft,z1.fRegs⟩ : Sproc_State).fPc),((⟨i64 (z1.fPc + 1),z1.fLeft,z1.fRegs⟩ : Sproc_State).fLeft),((⟨i64 (z1.fPc + 1),z1.fLeft,z1.fRegs⟩ : Sproc_State).fRegs.a0),((⟨i64 (z1.fPc + 1),z1.fLeft,z1.fRegs⟩ : Sproc_State).fRegs.a1),((⟨i64 (z1.fPc + 1),z1.fLeft,z1.fRegs⟩ : Sproc_State).fRegs.a2),((⟨i64 (z1.fPc + 1),z1.fLeft,z1.fRegs⟩ : Sproc_State).fRegs.a3),ze7.1,ze7.2,0,([] : List Int),none,0⟩ h (.cons rfl (.cons rfl (.cons rfl .nil))) (.cons .h2 (.cons .h5 (.cons .h4 (.cons .h1 (.cons .here .nil)))))
   rcases yo h with ⟨zvE,h⟩ | h
   ·skip
    obtain ⟨ze8,zvF,h⟩:=zb h
    refine WL.a (d:=39) rfl rfl rfl (y5 yp rfl (yw (k:=14) hz.pv hG0 zvE rfl)) ?_
    refine WL.pu rfl ?_
    refine WL.nilRow 5 1 ?_
    refine WL.y1y (dd:=41) rfl rfl rfl (ye (l:=[.tmp 40]) Tryd.call96 rfl (.cons rfl .nil)) (.cons .h1 (.cons .h5 (.cons .here .nil))) (cc hz (.cons .h1 (.cons .h5 (.cons .here .nil))) fun w pz ho=>y5a _ _ _ _ _ _ _ _ _ _ _ _ _ _ zvF w pz  ho) ?_
    rintro zvG zvH _
    refine WL.nil ?_
    exact WX.mid (G:=Int × Int × Int × Int × Int × Int × Int × Int × Int × List Int × Option Addr × Nat) ⟨((⟨i64 (z1.fPc + 1),z1.fLeft,z1.fRegs⟩ : Sproc_State).fPc),((⟨i64 (z1.fPc + 1),z1.fLeft,z1.fRegs⟩ : Sproc_State).fLeft),((⟨i64 (z1.fPc + 1),z1.fLeft,z1.fRegs⟩ : Sproc_State).fRegs.a0),((⟨i64 (z1.fPc + 1),z1.fLeft,z1.fRegs⟩ : Sproc_State).fRegs.a1),((⟨i64 (z1.fPc + 1),z1.fLeft,z1.fRegs⟩ : Sproc_State).fRegs.a2),((⟨i64 (z1.fPc + 1),z1.fLeft,z1.fRegs⟩ : Sproc_State).fRegs.a3),ze8.1,ze8.2,0,([nth ([(⟨i64 (z1.fPc + 1),z1.fLeft,z1.fRegs⟩ : Sproc_State).fRegs.a0,(⟨i64 (z1.fPc + 1),z1.fLeft,z1.fRegs⟩ : Sproc_State).fRegs.a1,(⟨i64 (z1.fPc + 1),z1.fLeft,z1.fRegs⟩ : Sproc_State).fRegs.a2,(⟨i64 (z1.fPc + 1),z1.fLeft,z1.fRegs⟩ : Sproc_State).fRegs.a3] : List Int) zZ.1.fB] : List Int),zvG,zvH⟩ h (.cons rfl (.cons rfl (.cons rfl .nil))) (.cons .h1 (.cons .h5 (.cons .h4 (.cons .here (.cons .here .nil)))))
   rcases yo h with ⟨zvI,h⟩ | h
   ·skip
    obtain ⟨ze9,zvJ,h⟩:=zb h
    refine WL.a (d:=39) rfl rfl rfl (y5 yp rfl (yw (k:=15) hz.pv hG0 zvI rfl)) ?_
    refine WL.pu rfl ?_
    refine WL.nilRow 5 1 ?_
    refine WL.b (dd:=41) rfl rfl rfl (ye (l:=[.tmp 40]) Tryd.call97 rfl (.cons rfl .nil)) (.cons .h1 (.cons .h5 (.cons .here .nil))) (cc hz (.cons .h1 (.cons .h5 (.cons .here .nil))) fun w pz ho=>y5b _ _ _ _ _ _ _ _ _ _ _ _ _ _ zvJ w pz  ho) ?_
    refine WL.nil ?_
    refine WX.nilRow 5 1 ?_
    exact WX.mid (G:=Int × Int × Int × Int × Int × Int × Int × Int × Int × List Int × Option Addr × Nat) ⟨((⟨i64 (z1.fPc + 1),z1.fLeft,z1.fRegs⟩ : Sproc_State).fPc),((⟨i64 (z1.fPc + 1),z1.fLeft,z1.fRegs⟩ : Sproc_State).fLeft),((⟨i64 (z1.fPc + 1),z1.fLeft,z1.fRegs⟩ : Sproc_State).fRegs.a0),((⟨i64 (z1.fPc + 1),z1.fLeft,z1.fRegs⟩ : Sproc_State).fRegs.a1),((⟨i64 (z1.fPc + 1),z1.fLeft,z1.fRegs⟩ : Sproc_State).fRegs.a2),((⟨i64 (z1.fPc + 1),z1.fLeft,z1.fRegs⟩ : Sproc_State).fRegs.a3),ze9.1,ze9.2,0,([] : List Int),none,0⟩ h (.cons rfl (.cons rfl (.cons rfl .nil))) (.cons .h2 (.cons .h5 (.cons .h4 (.cons .h1 (.cons .here .nil)))))
   rcases yo h with ⟨zvK,h⟩ | h
   ·skip
    obtain ⟨zea,zvL,h⟩:=zb h
    refine WL.a (d:=39) rfl rfl rfl (y5 yp rfl (yw (k:=16) hz.pv hG0 zvK rfl)) ?_
    refine WL.pu rfl ?_
    refine WL.nilRow 5 1 ?_
    refine WL.y1y (dd:=41) rfl rfl rfl (ye (l:=[.tmp 40]) Tryd.call98 rfl (.cons rfl .nil)) (.cons .h1 (.cons .h5 (.cons .here .nil))) (cc hz (.cons .h1 (.cons .h5 (.cons .here .nil))) fun w pz ho=>y4H _ _ _ _ _ _ _ _ _ _ _ _ _ _ zvL w pz  ho) ?_
    rintro zvM zvN _
    refine WL.nil ?_
    exact WX.mid (G:=Int × Int × Int × Int × Int × Int × Int × Int × Int × List Int × Option Addr × Nat) ⟨((⟨i64 (z1.fPc + 1),z1.fLeft,z1.fRegs⟩ : Sproc_State).fPc),((⟨i64 (z1.fPc + 1),z1.fLeft,z1.fRegs⟩ : Sproc_State).fLeft),((⟨i64 (z1.fPc + 1),z1.fLeft,z1.fRegs⟩ : Sproc_State).fRegs.a0),((⟨i64 (z1.fPc + 1),z1.fLeft,z1.fRegs⟩ : Sproc_State).fRegs.a1),((⟨i64 (z1.fPc + 1),z1.fLeft,z1.fRegs⟩ : Sproc_State).fRegs.a2),((⟨i64 (z1.fPc + 1),z1.fLeft,z1.fRegs⟩ : Sproc_State).fRegs.a3),zea.1,zea.2,0,([nth ([(⟨i64 (z1.fPc + 1),z1.fLeft,z1.fRegs⟩ : Sproc_State).fRegs.a0,(⟨i64 (z1.fPc + 1),z1.fLeft,z1.fRegs⟩ : Sproc_State).fRegs.a1,(⟨i64 (z1.fPc + 1),z1.fLeft,z1.fRegs⟩ : Sproc_State).fRegs.a2,(⟨i64 (z1.fPc + 1),z1.fLeft,z1.fRegs⟩ : Sproc_State).fRegs.a3] : List Int) zZ.1.fB] : List Int),zvM,zvN⟩ h (.cons rfl (.cons rfl (.cons rfl .nil))) (.cons .h1 (.cons .h5 (.cons .h4 (.cons .here (.cons .here .nil)))))
   rcases yo h with ⟨zvO,h⟩ | h
   ·skip
    obtain ⟨zeb,zvP,h⟩:=zb h
    refine WL.a (d:=39) rfl rfl rfl (y5 yp rfl (yw (k:=17) hz.pv hG0 zvO rfl)) ?_
    refine WL.pu rfl ?_
    refine WL.nilRow 5 1 ?_
    refine WL.b (dd:=41) rfl rfl rfl (ye (l:=[.tmp 40]) Tryd.call99 rfl (.cons rfl .nil)) (.cons .h1 (.cons .h5 (.cons .here .nil))) (cc hz (.cons .h1 (.cons .h5 (.cons .here .nil))) fun w pz ho=>y4I _ _ _ _ _ _ _ _ _ _ _ _ _ _ zvP w pz  ho) ?_
    refine WL.nil ?_
    refine WX.nilRow 5 1 ?_
    exact WX.mid (G:=Int × Int × Int × Int × Int × Int × Int × Int × Int × List Int × Option Addr × Nat) ⟨((⟨i64 (z1.fPc + 1),z1.fLeft,z1.fRegs⟩ : Sproc_State).fPc),((⟨i64 (z1.fPc + 1),z1.fLeft,z1.fRegs⟩ : Sproc_State).fLeft),((⟨i64 (z1.fPc + 1),z1.fLeft,z1.fRegs⟩ : Sproc_State).fRegs.a0),((⟨i64 (z1.fPc + 1),z1.fLeft,z1.fRegs⟩ : Sproc_State).fRegs.a1),((⟨i64 (z1.fPc + 1),z1.fLeft,z1.fRegs⟩ : Sproc_State).fRegs.a2),((⟨i64 (z1.fPc + 1),z1.fLeft,z1.fRegs⟩ : Sproc_State).fRegs.a3),zeb.1,zeb.2,0,([] : List Int),none,0⟩ h (.cons rfl (.cons rfl (.cons rfl .nil))) (.cons .h2 (.cons .h5 (.cons .h4 (.cons .h1 (.cons .here .nil)))))
   rcases yo h with ⟨zvQ,h⟩ | h
   ·skip
    obtain ⟨zec,zvR,h⟩:=zb h
    refine WL.a (d:=39) rfl rfl rfl (y5 yp rfl (yw (k:=18) hz.pv hG0 zvQ rfl)) ?_
    refine WL.pu rfl ?_
    refine WL.nilRow 5 1 ?_
    refine WL.b (dd:=41) rfl rfl rfl (ye (l:=[.tmp 40]) Tryd.call100 rfl (.cons rfl .nil)) (.cons .h1 (.cons .h5 (.cons .here .nil))) (cc hz (.cons .h1 (.cons .h5 (.cons .here .nil))) fun w pz ho=>y4p _ _ _ _ _ _ _ _ _ _ _ _ _ _ zvR w pz  ho) ?_
    refine WL.nil ?_
    refine WX.nilRow 5 1 ?_
    exact WX.mid (G:=Int × Int × Int × Int × Int × Int × Int × Int × Int × List Int × Option Addr × Nat) ⟨((⟨i64 (z1.fPc + 1),z1.fLeft,z1.fRegs⟩ : Sproc_State).fPc),((⟨i64 (z1.fPc + 1),z1.fLeft,z1.fRegs⟩ : Sproc_State).fLeft),((⟨i64 (z1.fPc + 1),z1.fLeft,z1.fRegs⟩ : Sproc_State).fRegs.a0),((⟨i64 (z1.fPc + 1),z1.fLeft,z1.fRegs⟩ : Sproc_State).fRegs.a1),((⟨i64 (z1.fPc + 1),z1.fLeft,z1.fRegs⟩ : Sproc_State).fRegs.a2),((⟨i64 (z1.fPc + 1),z1.fLeft,z1.fRegs⟩ : Sproc_State).fRegs.a3),zec.1,zec.2,0,([] : List Int),none,0⟩ h (.cons rfl (.cons rfl (.cons rfl .nil))) (.cons .h2 (.cons .h5 (.cons .h4 (.cons .h1 (.cons .here .nil)))))
   rcases yo h with ⟨zvS,h⟩ | h
   ·skip
    obtain ⟨zv3,zvT,h⟩:=zb h
    refine WL.a (d:=39) rfl rfl rfl (y5 yp rfl (yw (k:=19) hz.pv hG0 zvS rfl)) ?_
    refine WL.pu rfl ?_
    refine WL.nilRow 5 1 ?_
    refine WL.b (dd:=41) rfl rfl rfl (ye (l:=[.tmp 40]) Tryd.call101 rfl (.cons rfl .nil)) (.cons .h1 (.cons .h5 (.cons .here .nil))) (cc hz (.cons .h1 (.cons .h5 (.cons .here .nil))) fun w pz ho=>y4J _ _ _ _ _ _ _ _ _ _ _ _ _ _ zvT w pz  ho) ?_
    refine WL.nil ?_
    refine WX.nilRow 5 1 ?_
    exact WX.mid (G:=Int × Int × Int × Int × Int × Int × Int × Int × Int × List Int × Option Addr × Nat) ⟨((⟨i64 (z1.fPc + 1),z1.fLeft,z1.fRegs⟩ : Sproc_State).fPc),((⟨i64 (z1.fPc + 1),z1.fLeft,z1.fRegs⟩ : Sproc_State).fLeft),((⟨i64 (z1.fPc + 1),z1.fLeft,z1.fRegs⟩ : Sproc_State).fRegs.a0),((⟨i64 (z1.fPc + 1),z1.fLeft,z1.fRegs⟩ : Sproc_State).fRegs.a1),((⟨i64 (z1.fPc + 1),z1.fLeft,z1.fRegs⟩ : Sproc_State).fRegs.a2),((⟨i64 (z1.fPc + 1),z1.fLeft,z1.fRegs⟩ : Sproc_State).fRegs.a3),14,0,0,([] : List Int),none,0⟩ h (.cons rfl (.cons rfl (.cons rfl .nil))) (.cons .h2 (.cons .h5 (.cons .h4 (.cons .h1 (.cons .here .nil)))))
   rcases yo h with ⟨zvU,h⟩ | h
   ·skip
    obtain ⟨zh1,zvV,h⟩:=zb h
    refine WL.a (d:=39) rfl rfl rfl (y5 yp rfl (yw (k:=20) hz.pv hG0 zvU rfl)) ?_
    refine WL.pu rfl ?_
    refine WL.nilRow 5 1 ?_
    refine WL.b (dd:=41) rfl rfl rfl (ye (l:=[.tmp 40]) Tryd.call102 rfl (.cons rfl .nil)) (.cons .h1 (.cons .h5 (.cons .here .nil))) (cc hz (.cons .h1 (.cons .h5 (.cons .here .nil))) fun w pz ho=>y4K _ _ _ _ _ _ _ _ _ _ _ _ _ _ zvV w pz  ho) ?_
    refine WL.nil ?_
    exact WX.mid (G:=Int × Int × Int × Int × Int × Int × Int × Int × Int × List Int × Option Addr × Nat) ⟨zh1,((⟨i64 (z1.fPc + 1),z1.fLeft,z1.fRegs⟩ : Sproc_State).fLeft),((⟨i64 (z1.fPc + 1),z1.fLeft,z1.fRegs⟩ : Sproc_State).fRegs.a0),((⟨i64 (z1.fPc + 1),z1.fLeft,z1.fRegs⟩ : Sproc_State).fRegs.a1),((⟨i64 (z1.fPc + 1),z1.fLeft,z1.fRegs⟩ : Sproc_State).fRegs.a2),((⟨i64 (z1.fPc + 1),z1.fLeft,z1.fRegs⟩ : Sproc_State).fRegs.a3),0,0,0,([] : List Int),none,0⟩ h (.cons rfl (.cons rfl (.cons rfl .nil))) (.cons .h1 (.cons .h4 (.cons .h3 (.cons .here (.cons .here .nil)))))
   rcases yo h with ⟨zvW,h⟩ | h
   ·skip
    obtain ⟨zh2,zvX,h⟩:=zb h
    refine WL.a (d:=39) rfl rfl rfl (y5 yp rfl (yw (k:=21) hz.pv hG0 zvW rfl)) ?_
    refine WL.pu rfl ?_
    refine WL.nilRow 5 1 ?_
    refine WL.b (dd:=41) rfl rfl rfl (ye (l:=[.tmp 40]) Tryd.call103 rfl (.cons rfl .nil)) (.cons .h1 (.cons .h5 (.cons .here .nil))) (cc hz (.cons .h1 (.cons .h5 (.cons .here .nil))) fun w pz ho=>y4L _ _ _ _ _ _ _ _ _ _ _ _ _ _ zvX w pz  ho) ?_
    refine WL.nil ?_
    exact WX.mid (G:=Int × Int × Int × Int × Int × Int × Int × Int × Int × List Int × Option Addr × Nat) ⟨zh2,((⟨i64 (z1.fPc + 1),z1.fLeft,z1.fRegs⟩ : Sproc_State).fLeft),((⟨i64 (z1.fPc + 1),z1.fLeft,z1.fRegs⟩ : Sproc_State).fRegs.a0),((⟨i64 (z1.fPc + 1),z1.fLeft,z1.fRegs⟩ : Sproc_State).fRegs.a1),((⟨i64 (z1.fPc + 1),z1.fLeft,z1.fRegs⟩ : Sproc_State).fRegs.a2),((⟨i64 (z1.fPc + 1),z1.fLeft,z1.fRegs⟩ : Sproc_State).fRegs.a3),0,0,0,([] : List Int),none,0⟩ h (.cons rfl (.cons rfl (.cons rfl .nil))) (.cons .h1 (.cons .h4 (.cons .h3 (.cons .here (.cons .here .nil)))))
   rcases yo h with ⟨zvY,h⟩ | h
   ·skip
    obtain ⟨zh3,zvZ,h⟩:=zb h
    refine WL.a (d:=39) rfl rfl rfl (y5 yp rfl (yw (k:=22) hz.pv hG0 zvY rfl)) ?_
    refine WL.pu rfl ?_
    refine WL.nilRow 5 1 ?_
    refine WL.b (dd:=41) rfl rfl rfl (ye (l:=[.tmp 40]) Tryd.call104 rfl (.cons rfl .nil)) (.cons .h1 (.cons .h5 (.cons .here .nil))) (cc hz (.cons .h1 (.cons .h5 (.cons .here .nil))) fun w pz ho=>y4M _ _ _ _ _ _ _ _ _ _ _ _ _ _ zvZ w pz  ho) ?_
    refine WL.nil ?_
    exact WX.mid (G:=Int × Int × Int × Int × Int × Int × Int × Int × Int × List Int × Option Addr × Nat) ⟨zh3,((⟨i64 (z1.fPc + 1),z1.fLeft,z1.fRegs⟩ : Sproc_State).fLeft),((⟨i64 (z1.fPc + 1),z1.fLeft,z1.fRegs⟩ : Sproc_State).fRegs.a0),((⟨i64 (z1.fPc + 1),z1.fLeft,z1.fRegs⟩ : Sproc_State).fRegs.a1),((⟨i64 (z1.fPc + 1),z1.fLeft,z1.fRegs⟩ : Sproc_State).fRegs.a2),((⟨i64 (z1.fPc + 1),z1.fLeft,z1.fRegs⟩ : Sproc_State).fRegs.a3),0,0,0,([] : List Int),none,0⟩ h (.cons rfl (.cons rfl (.cons rfl .nil))) (.cons .h1 (.cons .h4 (.cons .h3 (.cons .here (.cons .here .nil)))))
   rcases yo h with ⟨zw0,h⟩ | h
   ·skip
    obtain ⟨z4d,zw1,h⟩:=zb h
    refine WL.a (d:=39) rfl rfl rfl (y5 yp rfl (yw (k:=23) hz.pv hG0 zw0 rfl)) ?_
    refine WL.pu rfl ?_
    refine WL.nilRow 5 1 ?_
    refine WL.y1y (dd:=41) rfl rfl rfl (ye (l:=[.tmp 40]) Tryd.call105 rfl (.cons rfl .nil)) (.cons .h1 (.cons .h5 (.cons .here .nil))) (cc hz (.cons .h1 (.cons .h5 (.cons .here .nil))) fun w pz ho=>y5c _ _ _ _ _ _ _ _ _ _ _ _ _ _ zw1 w pz  ho) ?_
    rintro zw2 zw3 _
    refine WL.nil ?_
    exact WX.mid (G:=Int × Int × Int × Int × Int × Int × Int × Int × Int × List Int × Option Addr × Nat) ⟨((⟨i64 (z1.fPc + 1),z1.fLeft,z1.fRegs⟩ : Sproc_State).fPc),((⟨i64 (z1.fPc + 1),z1.fLeft,z1.fRegs⟩ : Sproc_State).fLeft),z4d.1,z4d.2.1,z4d.2.2.1,z4d.2.2.2.1,z4d.2.2.2.2.1,z4d.2.2.2.2.2.1,z4d.2.2.2.2.2.2.1,z4d.2.2.2.2.2.2.2,zw2,zw3⟩ h (.cons rfl (.cons rfl (.cons rfl .nil))) (.cons .h1 (.cons .h4 (.cons .h3 (.cons .here (.cons .here .nil)))))
   rcases yo h with ⟨zw4,h⟩ | h
   ·skip
    obtain ⟨zed,zw5,h⟩:=zb h
    refine WL.a (d:=39) rfl rfl rfl (y5 yp rfl (yw (k:=24) hz.pv hG0 zw4 rfl)) ?_
    refine WL.pu rfl ?_
    refine WL.nilRow 5 1 ?_
    refine WL.b (dd:=41) rfl rfl rfl (ye (l:=[.tmp 40]) Tryd.call106 rfl (.cons rfl .nil)) (.cons .h1 (.cons .h5 (.cons .here .nil))) (cc hz (.cons .h1 (.cons .h5 (.cons .here .nil))) fun w pz ho=>y4q _ _ _ _ _ _ _ _ _ _ _ _ _ _ zw5 w pz  ho) ?_
    refine WL.nil ?_
    refine WX.nilRow 5 1 ?_
    exact WX.mid (G:=Int × Int × Int × Int × Int × Int × Int × Int × Int × List Int × Option Addr × Nat) ⟨((⟨i64 (z1.fPc + 1),z1.fLeft,z1.fRegs⟩ : Sproc_State).fPc),((⟨i64 (z1.fPc + 1),z1.fLeft,z1.fRegs⟩ : Sproc_State).fLeft),((⟨i64 (z1.fPc + 1),z1.fLeft,z1.fRegs⟩ : Sproc_State).fRegs.a0),((⟨i64 (z1.fPc + 1),z1.fLeft,z1.fRegs⟩ : Sproc_State).fRegs.a1),((⟨i64 (z1.fPc + 1),z1.fLeft,z1.fRegs⟩ : Sproc_State).fRegs.a2),((⟨i64 (z1.fPc + 1),z1.fLeft,z1.fRegs⟩ : Sproc_State).fRegs.a3),15,zed.1,zed.2,([] : List Int),none,0⟩ h (.cons rfl (.cons rfl (.cons rfl .nil))) (.cons .h2 (.cons .h5 (.cons .h4 (.cons .h1 (.cons .here .nil)))))
   rcases yo h with ⟨zw6,h⟩ | h
   ·skip
    obtain ⟨zh4,zw7,h⟩:=zb h
    refine WL.a (d:=39) rfl rfl rfl (y5 yp rfl (yw (k:=25) hz.pv hG0 zw6 rfl)) ?_
    refine WL.pu rfl ?_
    refine WL.nilRow 5 1 ?_
    refine WL.b (dd:=41) rfl rfl rfl (ye (l:=[.tmp 40]) Tryd.call107 rfl (.cons rfl .nil)) (.cons .h1 (.cons .h5 (.cons .here .nil))) (cc hz (.cons .h1 (.cons .h5 (.cons .here .nil))) fun w pz ho=>y4N _ _ _ _ _ _ _ _ _ _ _ _ _ _ zw7 w pz  ho) ?_
    refine WL.nil ?_
    refine WX.nilRow 5 1 ?_
    exact WX.mid (G:=Int × Int × Int × Int × Int × Int × Int × Int × Int × List Int × Option Addr × Nat) ⟨zh4,((⟨i64 (z1.fPc + 1),z1.fLeft,z1.fRegs⟩ : Sproc_State).fLeft),((⟨i64 (z1.fPc + 1),z1.fLeft,z1.fRegs⟩ : Sproc_State).fRegs.a0),((⟨i64 (z1.fPc + 1),z1.fLeft,z1.fRegs⟩ : Sproc_State).fRegs.a1),((⟨i64 (z1.fPc + 1),z1.fLeft,z1.fRegs⟩ : Sproc_State).fRegs.a2),((⟨i64 (z1.fPc + 1),z1.fLeft,z1.fRegs⟩ : Sproc_State).fRegs.a3),16,0,0,([] : List Int),none,0⟩ h (.cons rfl (.cons rfl (.cons rfl .nil))) (.cons .h2 (.cons .h5 (.cons .h4 (.cons .h1 (.cons .here .nil)))))
   cases h
  ·rintro z7Q z7R z7S z7T z7U z7V z7W z7X z7Y z6q zbb zbc h
   replace h:=(zv6 z7Q z7R z7S z7T z7U z7V z7W z7X z7Y z6q).symm.trans h
   refine WC.b ?_
   refine WC.y11 (fun i=>[8,9].contains i) [stb zh6 65 [(.int .i64 z7Q),(.int .i64 z7R),(.int .u8 z7S),(.int .u8 z7T),(.int .u8 z7U),(.int .u8 z7V),(.int .u8 zZ.1.fOp),(.int .i64 zZ.1.fA),(.int .i64 zZ.1.fB),(.int .i64 zZ.1.fC),(.slice z4t z14.length z4u),(.int .u8 z7W),(.int .i64 z7X),(.int .i64 z7Y),(.slice zbb z6q.length zbc)]] rfl ?_
   refine WD.a (i:=0) (d:=42) (by kernel_rfl) rfl z2 z6 rfl rfl rfl (fun _=>q_m rfl) ?_
   refine WD.a (i:=1) (d:=43) (by kernel_rfl) rfl z2 z6 rfl rfl rfl (fun _=>y6 rfl) ?_
   refine WD.a (i:=2) (d:=44) (by kernel_rfl) rfl z2 z6 rfl rfl rfl (fun _=>y4 yH rfl rfl) ?_
   refine WD.e (i:=3) (d:=45) (by kernel_rfl) rfl z2 z6 rfl rfl rfl (y4S (cs:=[(.int .i64 z7Q),(.int .i64 z7R),(.int .u8 z7S),(.int .u8 z7T),(.int .u8 z7U),(.int .u8 z7V)]) yQ rfl rfl (y6n (s:=6) .h3 rfl)) ?_
   refine WD.a (i:=4) (d:=46) (by kernel_rfl) rfl z2 z6 rfl rfl rfl (fun _=>q_m rfl) ?_
   refine WD.a (i:=5) (d:=47) (by kernel_rfl) rfl z2 z6 rfl rfl rfl (fun _=>y6 rfl) ?_
   refine WD.a (i:=6) (d:=48) (by kernel_rfl) rfl z2 z6 rfl rfl rfl (fun _=>y4 y2f rfl rfl) ?_
   refine WD.y1k (i:=7) (d:=49) (by kernel_rfl) rfl z2 z6 rfl rfl rfl (Sin.of (.cons .h3 .nil)) (y4S (cs:=[(.int .u8 z7W),(.int .i64 z7X),(.int .i64 z7Y),(.slice zbb z6q.length zbc)]) y1q rfl rfl (y6n (s:=4) .here rfl)) ?_
   refine WD.forced0 (i:=8) rfl (by kernel_rfl) rfl rfl rfl (Sin.of (.cons .h3 .nil)) (yt y1l rfl rfl rfl .h1 rfl rfl rfl) ?_
   refine WD.y1J (i:=9) rfl (by kernel_rfl) rfl rfl rfl (by kernel_rfl) (yt yV rfl rfl rfl .h2 rfl rfl rfl) ?_
   refine WD.done (by kernel_rfl) ?_
   refine WX.a (WC.ret ?_)
   obtain rfl:=Option.some.inj h
   refine WX.yi Tryd.results18 (.agg rfl yQ rfl (yz .h1) (.agg rfl y1q rfl (yz .here) .nil)) (fun w hw=>?_)
   exact ⟨zbb,zbc,y3M rfl rfl,trivial,hw.sub (.cons .h4 (.cons .h2 .nil))⟩
end Go.Proofs.YtjdnejbngloieaaDoor
