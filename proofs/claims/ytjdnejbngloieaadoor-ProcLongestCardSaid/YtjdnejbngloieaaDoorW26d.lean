/- A part of this claim's proof: models of functions, walks, plain laws. No conditions. -/
import Derived.Test.YtjdnejbngloieaaDoorW26c
namespace Go.Proofs.YtjdnejbngloieaaDoor
open Go Go.RowKit Sep
set_option linter.all false
set_option maxRecDepth 30000
set_option maxHeartbeats 4000000
def y1D (z1p : Sproc_State) (z2s : Sapi_Ins) (z3o : List Int) (zaT : Int) (zaU : Int) (zaV : Int) (z3N : List Int) : Option (Int × Int) :=
 (yc z1p z2s z3o zaT zaU zaV z3N 6 []).bind fun zh0=>some (zh0.1,zh0.2)
set_option maxRecDepth 20000 in
theorem y4p (Z : Zp) (z9f : Nat) (z65 : Option Addr) (z66 : Nat) (z6X : Option Addr) (z6Y : Nat) (z1p : Sproc_State) (z2s : Sapi_Ins) (z3o : List Int) (zaT : Int) (zaU : Int) (zaV : Int) (z3N : List Int) (r : Int × Int)
  (h : y1D z1p z2s z3o zaT zaU zaV z3N = some r) (w₀ : World) (hz : PZ (fps [stb z9f 65 [(.int .i64 z1p.fPc),(.int .i64 z1p.fLeft),(.int .u8 z1p.fRegs.a0),(.int .u8 z1p.fRegs.a1),(.int .u8 z1p.fRegs.a2),(.int .u8 z1p.fRegs.a3),(.int .u8 z2s.fOp),(.int .i64 z2s.fA),(.int .i64 z2s.fB),(.int .i64 z2s.fC),(.slice z65 z3o.length z66),(.int .u8 zaT),(.int .i64 zaU),(.int .i64 zaV),(.slice z6X z3N.length z6Y)],row (.slice z65 z3o.length z66) 5 1 (z3o.flatMap e5),row (.slice z6X z3N.length z6Y) 5 1 (z3N.flatMap e5)]) w₀ Z)
  (hown : Hp (fps [stb z9f 65 [(.int .i64 z1p.fPc),(.int .i64 z1p.fLeft),(.int .u8 z1p.fRegs.a0),(.int .u8 z1p.fRegs.a1),(.int .u8 z1p.fRegs.a2),(.int .u8 z1p.fRegs.a3),(.int .u8 z2s.fOp),(.int .i64 z2s.fA),(.int .i64 z2s.fB),(.int .i64 z2s.fC),(.slice z65 z3o.length z66),(.int .u8 zaT),(.int .i64 zaU),(.int .i64 zaV),(.slice z6X z3N.length z6Y)],row (.slice z65 z3o.length z66) 5 1 (z3o.flatMap e5),row (.slice z6X z3N.length z6Y) 5 1 (z3N.flatMap e5)]) w₀ w₀ [stb z9f 65 [(.int .i64 z1p.fPc),(.int .i64 z1p.fLeft),(.int .u8 z1p.fRegs.a0),(.int .u8 z1p.fRegs.a1),(.int .u8 z1p.fRegs.a2),(.int .u8 z1p.fRegs.a3),(.int .u8 z2s.fOp),(.int .i64 z2s.fA),(.int .i64 z2s.fB),(.int .i64 z2s.fC),(.slice z65 z3o.length z66),(.int .u8 zaT),(.int .i64 zaU),(.int .i64 zaV),(.slice z6X z3N.length z6Y)],row (.slice z65 z3o.length z66) 5 1 (z3o.flatMap e5),row (.slice z6X z3N.length z6Y) 5 1 (z3N.flatMap e5)]) :
  Calls Tryd.prog 93 #[(.pointer (some ⟨z9f,0,none⟩))] w₀ fun e w'=>e = .returned (.tuple #[]) ∧ Hp (fps [stb z9f 65 [(.int .i64 z1p.fPc),(.int .i64 z1p.fLeft),(.int .u8 z1p.fRegs.a0),(.int .u8 z1p.fRegs.a1),(.int .u8 z1p.fRegs.a2),(.int .u8 z1p.fRegs.a3),(.int .u8 z2s.fOp),(.int .i64 z2s.fA),(.int .i64 z2s.fB),(.int .i64 z2s.fC),(.slice z65 z3o.length z66),(.int .u8 zaT),(.int .i64 zaU),(.int .i64 zaV),(.slice z6X z3N.length z6Y)],row (.slice z65 z3o.length z66) 5 1 (z3o.flatMap e5),row (.slice z6X z3N.length z6Y) 5 1 (z3N.flatMap e5)]) w₀ w' [stb z9f 65 [(.int .i64 z1p.fPc),(.int .i64 z1p.fLeft),(.int .u8 z1p.fRegs.a0),(.int .u8 z1p.fRegs.a1),(.int .u8 z1p.fRegs.a2),(.int .u8 z1p.fRegs.a3),(.int .u8 z2s.fOp),(.int .i64 z2s.fA),(.int .i64 z2s.fB),(.int .i64 z2s.fC),(.slice z65 z3o.length z66),(.int .u8 r.1),(.int .i64 r.2),(.int .i64 0),(.slice none 0 0)],row (.slice z65 z3o.length z66) 5 1 (z3o.flatMap e5),row (.slice z6X z3N.length z6Y) 5 1 (z3N.flatMap e5)]:=by
 unfold y1D at h
 refine Calls.y8 (vs:=[(.pointer (some ⟨z9f,0,none⟩))]) (pre:=[stb z9f 65 [(.int .i64 z1p.fPc),(.int .i64 z1p.fLeft),(.int .u8 z1p.fRegs.a0),(.int .u8 z1p.fRegs.a1),(.int .u8 z1p.fRegs.a2),(.int .u8 z1p.fRegs.a3),(.int .u8 z2s.fOp),(.int .i64 z2s.fA),(.int .i64 z2s.fB),(.int .i64 z2s.fC),(.slice z65 z3o.length z66),(.int .u8 zaT),(.int .i64 zaU),(.int .i64 zaV),(.slice z6X z3N.length z6Y)],row (.slice z65 z3o.length z66) 5 1 (z3o.flatMap e5),row (.slice z6X z3N.length z6Y) 5 1 (z3N.flatMap e5)]) (env:=[(0,(.pointer (some ⟨z9f,0,none⟩)))]) Tryd.func93 rfl Tryd.ntmps93 rfl (hown) rfl ?_
 obtain ⟨zh0,zuG,h⟩:=zd h
 refine WC.a (WL.pu rfl ?_)
 refine WL.b (dd:=3) rfl rfl rfl (zl (l:=[.tmp 2,.const (.int .u8 6),.const (.slice none 0 0)]) Tryd.call110 (.cons rfl (.cons rfl (.cons rfl .nil)))) (.cons .here (.cons .here (.cons .here .nil))) (cc hz (.cons .here (.cons .here (.cons .here .nil))) fun w pz ho=>yH _ _ _ _ _ _ _ _ _ _ _ _ _ _ _ _ _ _ zuG w pz (ZS.nil _ _ _) ho) ?_
 refine WL.nil ?_
 obtain rfl:=Option.some.inj h
 refine WX.y9 Tryd.results93 .nil (fun w hw=>?_)
 exact ⟨yC,hw.sub (.cons .here (.cons .here (.cons .here .nil)))⟩
def y1E (z1q : Sproc_State) (z2t : Sapi_Ins) (z3p : List Int) (zaW : Int) (zaX : Int) (zaY : Int) (z3O : List Int) : Option (Int × Int) :=
 (yc z1q z2t z3p zaW zaX zaY z3O 7 []).bind fun zh1=>some (zh1.1,zh1.2)
set_option maxRecDepth 20000 in
theorem y4q (Z : Zp) (z9g : Nat) (z67 : Option Addr) (z68 : Nat) (z6Z : Option Addr) (z70 : Nat) (z1q : Sproc_State) (z2t : Sapi_Ins) (z3p : List Int) (zaW : Int) (zaX : Int) (zaY : Int) (z3O : List Int) (r : Int × Int)
  (h : y1E z1q z2t z3p zaW zaX zaY z3O = some r) (w₀ : World) (hz : PZ (fps [stb z9g 65 [(.int .i64 z1q.fPc),(.int .i64 z1q.fLeft),(.int .u8 z1q.fRegs.a0),(.int .u8 z1q.fRegs.a1),(.int .u8 z1q.fRegs.a2),(.int .u8 z1q.fRegs.a3),(.int .u8 z2t.fOp),(.int .i64 z2t.fA),(.int .i64 z2t.fB),(.int .i64 z2t.fC),(.slice z67 z3p.length z68),(.int .u8 zaW),(.int .i64 zaX),(.int .i64 zaY),(.slice z6Z z3O.length z70)],row (.slice z67 z3p.length z68) 5 1 (z3p.flatMap e5),row (.slice z6Z z3O.length z70) 5 1 (z3O.flatMap e5)]) w₀ Z)
  (hown : Hp (fps [stb z9g 65 [(.int .i64 z1q.fPc),(.int .i64 z1q.fLeft),(.int .u8 z1q.fRegs.a0),(.int .u8 z1q.fRegs.a1),(.int .u8 z1q.fRegs.a2),(.int .u8 z1q.fRegs.a3),(.int .u8 z2t.fOp),(.int .i64 z2t.fA),(.int .i64 z2t.fB),(.int .i64 z2t.fC),(.slice z67 z3p.length z68),(.int .u8 zaW),(.int .i64 zaX),(.int .i64 zaY),(.slice z6Z z3O.length z70)],row (.slice z67 z3p.length z68) 5 1 (z3p.flatMap e5),row (.slice z6Z z3O.length z70) 5 1 (z3O.flatMap e5)]) w₀ w₀ [stb z9g 65 [(.int .i64 z1q.fPc),(.int .i64 z1q.fLeft),(.int .u8 z1q.fRegs.a0),(.int .u8 z1q.fRegs.a1),(.int .u8 z1q.fRegs.a2),(.int .u8 z1q.fRegs.a3),(.int .u8 z2t.fOp),(.int .i64 z2t.fA),(.int .i64 z2t.fB),(.int .i64 z2t.fC),(.slice z67 z3p.length z68),(.int .u8 zaW),(.int .i64 zaX),(.int .i64 zaY),(.slice z6Z z3O.length z70)],row (.slice z67 z3p.length z68) 5 1 (z3p.flatMap e5),row (.slice z6Z z3O.length z70) 5 1 (z3O.flatMap e5)]) :
  Calls Tryd.prog 94 #[(.pointer (some ⟨z9g,0,none⟩))] w₀ fun e w'=>e = .returned (.tuple #[]) ∧ Hp (fps [stb z9g 65 [(.int .i64 z1q.fPc),(.int .i64 z1q.fLeft),(.int .u8 z1q.fRegs.a0),(.int .u8 z1q.fRegs.a1),(.int .u8 z1q.fRegs.a2),(.int .u8 z1q.fRegs.a3),(.int .u8 z2t.fOp),(.int .i64 z2t.fA),(.int .i64 z2t.fB),(.int .i64 z2t.fC),(.slice z67 z3p.length z68),(.int .u8 zaW),(.int .i64 zaX),(.int .i64 zaY),(.slice z6Z z3O.length z70)],row (.slice z67 z3p.length z68) 5 1 (z3p.flatMap e5),row (.slice z6Z z3O.length z70) 5 1 (z3O.flatMap e5)]) w₀ w' [stb z9g 65 [(.int .i64 z1q.fPc),(.int .i64 z1q.fLeft),(.int .u8 z1q.fRegs.a0),(.int .u8 z1q.fRegs.a1),(.int .u8 z1q.fRegs.a2),(.int .u8 z1q.fRegs.a3),(.int .u8 z2t.fOp),(.int .i64 z2t.fA),(.int .i64 z2t.fB),(.int .i64 z2t.fC),(.slice z67 z3p.length z68),(.int .u8 r.1),(.int .i64 r.2),(.int .i64 0),(.slice none 0 0)],row (.slice z67 z3p.length z68) 5 1 (z3p.flatMap e5),row (.slice z6Z z3O.length z70) 5 1 (z3O.flatMap e5)]:=by
 unfold y1E at h
 refine Calls.y8 (vs:=[(.pointer (some ⟨z9g,0,none⟩))]) (pre:=[stb z9g 65 [(.int .i64 z1q.fPc),(.int .i64 z1q.fLeft),(.int .u8 z1q.fRegs.a0),(.int .u8 z1q.fRegs.a1),(.int .u8 z1q.fRegs.a2),(.int .u8 z1q.fRegs.a3),(.int .u8 z2t.fOp),(.int .i64 z2t.fA),(.int .i64 z2t.fB),(.int .i64 z2t.fC),(.slice z67 z3p.length z68),(.int .u8 zaW),(.int .i64 zaX),(.int .i64 zaY),(.slice z6Z z3O.length z70)],row (.slice z67 z3p.length z68) 5 1 (z3p.flatMap e5),row (.slice z6Z z3O.length z70) 5 1 (z3O.flatMap e5)]) (env:=[(0,(.pointer (some ⟨z9g,0,none⟩)))]) Tryd.func94 rfl Tryd.ntmps94 rfl (hown) rfl ?_
 obtain ⟨zh1,zuH,h⟩:=zd h
 refine WC.a (WL.pu rfl ?_)
 refine WL.b (dd:=3) rfl rfl rfl (zl (l:=[.tmp 2,.const (.int .u8 7),.const (.slice none 0 0)]) Tryd.call110 (.cons rfl (.cons rfl (.cons rfl .nil)))) (.cons .here (.cons .here (.cons .here .nil))) (cc hz (.cons .here (.cons .here (.cons .here .nil))) fun w pz ho=>yH _ _ _ _ _ _ _ _ _ _ _ _ _ _ _ _ _ _ zuH w pz (ZS.nil _ _ _) ho) ?_
 refine WL.nil ?_
 obtain rfl:=Option.some.inj h
 refine WX.y9 Tryd.results94 .nil (fun w hw=>?_)
 exact ⟨yC,hw.sub (.cons .here (.cons .here (.cons .here .nil)))⟩
def y1F (z1r : Sproc_State) (z2u : Sapi_Ins) (z3q : List Int) (zaZ : Int) (zb0 : Int) (zb1 : Int) (z3P : List Int) : Option (Int × Int) :=
 (yc z1r z2u z3q zaZ zb0 zb1 z3P 8 []).bind fun zh2=>some (zh2.1,zh2.2)
set_option maxRecDepth 20000 in
theorem y4r (Z : Zp) (z9h : Nat) (z69 : Option Addr) (z6a : Nat) (z71 : Option Addr) (z72 : Nat) (z1r : Sproc_State) (z2u : Sapi_Ins) (z3q : List Int) (zaZ : Int) (zb0 : Int) (zb1 : Int) (z3P : List Int) (r : Int × Int)
  (h : y1F z1r z2u z3q zaZ zb0 zb1 z3P = some r) (w₀ : World) (hz : PZ (fps [stb z9h 65 [(.int .i64 z1r.fPc),(.int .i64 z1r.fLeft),(.int .u8 z1r.fRegs.a0),(.int .u8 z1r.fRegs.a1),(.int .u8 z1r.fRegs.a2),(.int .u8 z1r.fRegs.a3),(.int .u8 z2u.fOp),(.int .i64 z2u.fA),(.int .i64 z2u.fB),(.int .i64 z2u.fC),(.slice z69 z3q.length z6a),(.int .u8 zaZ),(.int .i64 zb0),(.int .i64 zb1),(.slice z71 z3P.length z72)],row (.slice z69 z3q.length z6a) 5 1 (z3q.flatMap e5),row (.slice z71 z3P.length z72) 5 1 (z3P.flatMap e5)]) w₀ Z)
  (hown : Hp (fps [stb z9h 65 [(.int .i64 z1r.fPc),(.int .i64 z1r.fLeft),(.int .u8 z1r.fRegs.a0),(.int .u8 z1r.fRegs.a1),(.int .u8 z1r.fRegs.a2),(.int .u8 z1r.fRegs.a3),(.int .u8 z2u.fOp),(.int .i64 z2u.fA),(.int .i64 z2u.fB),(.int .i64 z2u.fC),(.slice z69 z3q.length z6a),(.int .u8 zaZ),(.int .i64 zb0),(.int .i64 zb1),(.slice z71 z3P.length z72)],row (.slice z69 z3q.length z6a) 5 1 (z3q.flatMap e5),row (.slice z71 z3P.length z72) 5 1 (z3P.flatMap e5)]) w₀ w₀ [stb z9h 65 [(.int .i64 z1r.fPc),(.int .i64 z1r.fLeft),(.int .u8 z1r.fRegs.a0),(.int .u8 z1r.fRegs.a1),(.int .u8 z1r.fRegs.a2),(.int .u8 z1r.fRegs.a3),(.int .u8 z2u.fOp),(.int .i64 z2u.fA),(.int .i64 z2u.fB),(.int .i64 z2u.fC),(.slice z69 z3q.length z6a),(.int .u8 zaZ),(.int .i64 zb0),(.int .i64 zb1),(.slice z71 z3P.length z72)],row (.slice z69 z3q.length z6a) 5 1 (z3q.flatMap e5),row (.slice z71 z3P.length z72) 5 1 (z3P.flatMap e5)]) :
  Calls Tryd.prog 95 #[(.pointer (some ⟨z9h,0,none⟩))] w₀ fun e w'=>e = .returned (.tuple #[]) ∧ Hp (fps [stb z9h 65 [(.int .i64 z1r.fPc),(.int .i64 z1r.fLeft),(.int .u8 z1r.fRegs.a0),(.int .u8 z1r.fRegs.a1),(.int .u8 z1r.fRegs.a2),(.int .u8 z1r.fRegs.a3),(.int .u8 z2u.fOp),(.int .i64 z2u.fA),(.int .i64 z2u.fB),(.int .i64 z2u.fC),(.slice z69 z3q.length z6a),(.int .u8 zaZ),(.int .i64 zb0),(.int .i64 zb1),(.slice z71 z3P.length z72)],row (.slice z69 z3q.length z6a) 5 1 (z3q.flatMap e5),row (.slice z71 z3P.length z72) 5 1 (z3P.flatMap e5)]) w₀ w' [stb z9h 65 [(.int .i64 z1r.fPc),(.int .i64 z1r.fLeft),(.int .u8 z1r.fRegs.a0),(.int .u8 z1r.fRegs.a1),(.int .u8 z1r.fRegs.a2),(.int .u8 z1r.fRegs.a3),(.int .u8 z2u.fOp),(.int .i64 z2u.fA),(.int .i64 z2u.fB),(.int .i64 z2u.fC),(.slice z69 z3q.length z6a),(.int .u8 r.1),(.int .i64 r.2),(.int .i64 0),(.slice none 0 0)],row (.slice z69 z3q.length z6a) 5 1 (z3q.flatMap e5),row (.slice z71 z3P.length z72) 5 1 (z3P.flatMap e5)]:=by
 unfold y1F at h
 refine Calls.y8 (vs:=[(.pointer (some ⟨z9h,0,none⟩))]) (pre:=[stb z9h 65 [(.int .i64 z1r.fPc),(.int .i64 z1r.fLeft),(.int .u8 z1r.fRegs.a0),(.int .u8 z1r.fRegs.a1),(.int .u8 z1r.fRegs.a2),(.int .u8 z1r.fRegs.a3),(.int .u8 z2u.fOp),(.int .i64 z2u.fA),(.int .i64 z2u.fB),(.int .i64 z2u.fC),(.slice z69 z3q.length z6a),(.int .u8 zaZ),(.int .i64 zb0),(.int .i64 zb1),(.slice z71 z3P.length z72)],row (.slice z69 z3q.length z6a) 5 1 (z3q.flatMap e5),row (.slice z71 z3P.length z72) 5 1 (z3P.flatMap e5)]) (env:=[(0,(.pointer (some ⟨z9h,0,none⟩)))]) Tryd.func95 rfl Tryd.ntmps95 rfl (hown) rfl ?_
 obtain ⟨zh2,zuI,h⟩:=zd h
 refine WC.a (WL.pu rfl ?_)
 refine WL.b (dd:=3) rfl rfl rfl (zl (l:=[.tmp 2,.const (.int .u8 8),.const (.slice none 0 0)]) Tryd.call110 (.cons rfl (.cons rfl (.cons rfl .nil)))) (.cons .here (.cons .here (.cons .here .nil))) (cc hz (.cons .here (.cons .here (.cons .here .nil))) fun w pz ho=>yH _ _ _ _ _ _ _ _ _ _ _ _ _ _ _ _ _ _ zuI w pz (ZS.nil _ _ _) ho) ?_
 refine WL.nil ?_
 obtain rfl:=Option.some.inj h
 refine WX.y9 Tryd.results95 .nil (fun w hw=>?_)
 exact ⟨yC,hw.sub (.cons .here (.cons .here (.cons .here .nil)))⟩
def y27 (zW : Sproc_State) (z1B : Sapi_Ins) (z36 : List Int) (z9i : Int) (z9j : Int) (z9k : Int) (z3r : List Int) : Option (Int × Int) :=
 (yj zW z1B z36 z9i z9j z9k z3r z1B.fB).bind fun zuJ=>chk ((0 : Int) ≤ z1B.fB ∧ z1B.fB < 4) ((yi zW z1B z36 z9i z9j z9k z3r 9 ([nth ([zW.fRegs.a0,zW.fRegs.a1,zW.fRegs.a2,zW.fRegs.a3] : List Int) z1B.fB] : List Int)).bind fun zh3=>some (zh3.1,zh3.2))
set_option maxRecDepth 20000 in
theorem y5i (Z : Zp) (z9l : Nat) (z6b : Option Addr) (z6c : Nat) (z73 : Option Addr) (z74 : Nat) (zW : Sproc_State) (z1B : Sapi_Ins) (z36 : List Int) (z9i : Int) (z9j : Int) (z9k : Int) (z3r : List Int) (r : Int × Int)
  (h : y27 zW z1B z36 z9i z9j z9k z3r = some r) (w₀ : World) (hz : PZ (fps [stb z9l 65 [(.int .i64 zW.fPc),(.int .i64 zW.fLeft),(.int .u8 zW.fRegs.a0),(.int .u8 zW.fRegs.a1),(.int .u8 zW.fRegs.a2),(.int .u8 zW.fRegs.a3),(.int .u8 z1B.fOp),(.int .i64 z1B.fA),(.int .i64 z1B.fB),(.int .i64 z1B.fC),(.slice z6b z36.length z6c),(.int .u8 z9i),(.int .i64 z9j),(.int .i64 z9k),(.slice z73 z3r.length z74)],row (.slice z6b z36.length z6c) 5 1 (z36.flatMap e5),row (.slice z73 z3r.length z74) 5 1 (z3r.flatMap e5)]) w₀ Z)
  (hown : Hp (fps [stb z9l 65 [(.int .i64 zW.fPc),(.int .i64 zW.fLeft),(.int .u8 zW.fRegs.a0),(.int .u8 zW.fRegs.a1),(.int .u8 zW.fRegs.a2),(.int .u8 zW.fRegs.a3),(.int .u8 z1B.fOp),(.int .i64 z1B.fA),(.int .i64 z1B.fB),(.int .i64 z1B.fC),(.slice z6b z36.length z6c),(.int .u8 z9i),(.int .i64 z9j),(.int .i64 z9k),(.slice z73 z3r.length z74)],row (.slice z6b z36.length z6c) 5 1 (z36.flatMap e5),row (.slice z73 z3r.length z74) 5 1 (z3r.flatMap e5)]) w₀ w₀ [stb z9l 65 [(.int .i64 zW.fPc),(.int .i64 zW.fLeft),(.int .u8 zW.fRegs.a0),(.int .u8 zW.fRegs.a1),(.int .u8 zW.fRegs.a2),(.int .u8 zW.fRegs.a3),(.int .u8 z1B.fOp),(.int .i64 z1B.fA),(.int .i64 z1B.fB),(.int .i64 z1B.fC),(.slice z6b z36.length z6c),(.int .u8 z9i),(.int .i64 z9j),(.int .i64 z9k),(.slice z73 z3r.length z74)],row (.slice z6b z36.length z6c) 5 1 (z36.flatMap e5),row (.slice z73 z3r.length z74) 5 1 (z3r.flatMap e5)]) :
  Calls Tryd.prog 96 #[(.pointer (some ⟨z9l,0,none⟩))] w₀ fun e w'=>∃ zkS : Option Addr,∃ zkT : Nat,e = .returned (.tuple #[]) ∧ True ∧ Hp (fps [stb z9l 65 [(.int .i64 zW.fPc),(.int .i64 zW.fLeft),(.int .u8 zW.fRegs.a0),(.int .u8 zW.fRegs.a1),(.int .u8 zW.fRegs.a2),(.int .u8 zW.fRegs.a3),(.int .u8 z1B.fOp),(.int .i64 z1B.fA),(.int .i64 z1B.fB),(.int .i64 z1B.fC),(.slice z6b z36.length z6c),(.int .u8 z9i),(.int .i64 z9j),(.int .i64 z9k),(.slice z73 z3r.length z74)],row (.slice z6b z36.length z6c) 5 1 (z36.flatMap e5),row (.slice z73 z3r.length z74) 5 1 (z3r.flatMap e5)]) w₀ w' [stb z9l 65 [(.int .i64 zW.fPc),(.int .i64 zW.fLeft),(.int .u8 zW.fRegs.a0),(.int .u8 zW.fRegs.a1),(.int .u8 zW.fRegs.a2),(.int .u8 zW.fRegs.a3),(.int .u8 z1B.fOp),(.int .i64 z1B.fA),(.int .i64 z1B.fB),(.int .i64 z1B.fC),(.slice z6b z36.length z6c),(.int .u8 r.1),(.int .i64 r.2),(.int .i64 0),(.slice zkS (([nth ([zW.fRegs.a0,zW.fRegs.a1,zW.fRegs.a2,zW.fRegs.a3] : List Int) z1B.fB] : List Int).length) zkT)],row (.slice z6b z36.length z6c) 5 1 (z36.flatMap e5),row (.slice zkS (([nth ([zW.fRegs.a0,zW.fRegs.a1,zW.fRegs.a2,zW.fRegs.a3] : List Int) z1B.fB] : List Int).length) zkT) 5 1 (([nth ([zW.fRegs.a0,zW.fRegs.a1,zW.fRegs.a2,zW.fRegs.a3] : List Int) z1B.fB] : List Int).flatMap e5),row (.slice z73 z3r.length z74) 5 1 (z3r.flatMap e5)]:=by
 unfold y27 at h
 refine Calls.y8 (vs:=[(.pointer (some ⟨z9l,0,none⟩))]) (pre:=[stb z9l 65 [(.int .i64 zW.fPc),(.int .i64 zW.fLeft),(.int .u8 zW.fRegs.a0),(.int .u8 zW.fRegs.a1),(.int .u8 zW.fRegs.a2),(.int .u8 zW.fRegs.a3),(.int .u8 z1B.fOp),(.int .i64 z1B.fA),(.int .i64 z1B.fB),(.int .i64 z1B.fC),(.slice z6b z36.length z6c),(.int .u8 z9i),(.int .i64 z9j),(.int .i64 z9k),(.slice z73 z3r.length z74)],row (.slice z6b z36.length z6c) 5 1 (z36.flatMap e5),row (.slice z73 z3r.length z74) 5 1 (z3r.flatMap e5)]) (env:=[(0,(.pointer (some ⟨z9l,0,none⟩)))]) Tryd.func96 rfl Tryd.ntmps96 rfl (hown) rfl ?_
 obtain ⟨zuJ,zuK,h⟩:=zd h
 obtain ⟨zuL,h⟩:=ya h
 obtain ⟨zh3,zuM,h⟩:=zd h
 refine WC.a (WL.pu rfl (WL.pu rfl (WL.pu rfl ?_)))
 refine WL.a (d:=5) rfl rfl rfl (y6 rfl) ?_
 refine WL.a (d:=6) rfl rfl rfl (y4 yo rfl rfl) ?_
 refine WL.a (d:=7) rfl rfl rfl (y4 y14 rfl rfl) ?_
 refine WL.a (d:=8) rfl rfl rfl (y5 yd rfl (yb .here rfl)) ?_
 refine WL.b (dd:=9) rfl rfl rfl (zl (l:=[.tmp 3,.tmp 8]) Tryd.call108 (.cons rfl (.cons rfl .nil))) (.cons .h1 (.cons .h1 .nil)) (ccl hz (.cons .h1 (.cons .h1 .nil)) (.cons .here .nil) fun w pz ho la=>yr _ _ _ _ _ _ _ _ _ _ _ _ _ _ _ zuK w pz ((la _ (.head _) _).stb) ho) ?_
 refine WL.a (d:=10) rfl rfl rfl (y6 rfl) ?_
 refine WL.a (d:=11) rfl rfl rfl (y5 yB rfl (yZ (l:=([zW.fRegs.a0,zW.fRegs.a1,zW.fRegs.a2,zW.fRegs.a3] : List Int)) (f:=Value.int .u8) (k:=2) (m:=6) .h2 rfl rfl zuL)) ?_
 refine WL.new (dd:=12) rfl rfl rfl (yy (cs:=([nth ([zW.fRegs.a0,zW.fRegs.a1,zW.fRegs.a2,zW.fRegs.a3] : List Int) z1B.fB] : List Int).flatMap e5) y1v (Eos.parts (l:=[.tmp 11]) (.cons rfl .nil) [0]) (fun _=>by kernel_rfl) rfl (by unfold maxLen; omega)) ?_
 intro zuN _
 refine WL.b (dd:=13) rfl rfl rfl (zl (l:=[.tmp 2,.const (.int .u8 9),.tmp 12]) Tryd.call110 (.cons rfl (.cons rfl (.cons rfl .nil)))) (.cons .h3 (.cons .h1 (.cons .h1 (.cons .here .nil)))) (cc hz (.cons .h3 (.cons .h1 (.cons .h1 (.cons .here .nil)))) fun w pz ho=>y2k _ _ _ _ _ _ _ _ _ _ _ _ _ _ _ _ _ _ zuM w pz  ho) ?_
 refine WL.nil ?_
 obtain rfl:=Option.some.inj h
 refine WX.y9 Tryd.results96 .nil (fun w hw=>?_)
 exact ⟨(some ⟨zuN,0,none⟩),1,yC,trivial,hw.sub (.cons .here (.cons .here (.cons .here (.cons .here .nil))))⟩
def y28 (z1s : Sproc_State) (z2v : Sapi_Ins) (z3s : List Int) (zb2 : Int) (zb3 : Int) (zb4 : Int) (z3Q : List Int) : Option (Int × Int) :=
 (yc z1s z2v z3s zb2 zb3 zb4 z3Q 10 []).bind fun zh4=>some (zh4.1,zh4.2)
set_option maxRecDepth 20000 in
theorem y5j (Z : Zp) (z9m : Nat) (z6d : Option Addr) (z6e : Nat) (z75 : Option Addr) (z76 : Nat) (z1s : Sproc_State) (z2v : Sapi_Ins) (z3s : List Int) (zb2 : Int) (zb3 : Int) (zb4 : Int) (z3Q : List Int) (r : Int × Int)
  (h : y28 z1s z2v z3s zb2 zb3 zb4 z3Q = some r) (w₀ : World) (hz : PZ (fps [stb z9m 65 [(.int .i64 z1s.fPc),(.int .i64 z1s.fLeft),(.int .u8 z1s.fRegs.a0),(.int .u8 z1s.fRegs.a1),(.int .u8 z1s.fRegs.a2),(.int .u8 z1s.fRegs.a3),(.int .u8 z2v.fOp),(.int .i64 z2v.fA),(.int .i64 z2v.fB),(.int .i64 z2v.fC),(.slice z6d z3s.length z6e),(.int .u8 zb2),(.int .i64 zb3),(.int .i64 zb4),(.slice z75 z3Q.length z76)],row (.slice z6d z3s.length z6e) 5 1 (z3s.flatMap e5),row (.slice z75 z3Q.length z76) 5 1 (z3Q.flatMap e5)]) w₀ Z)
  (hown : Hp (fps [stb z9m 65 [(.int .i64 z1s.fPc),(.int .i64 z1s.fLeft),(.int .u8 z1s.fRegs.a0),(.int .u8 z1s.fRegs.a1),(.int .u8 z1s.fRegs.a2),(.int .u8 z1s.fRegs.a3),(.int .u8 z2v.fOp),(.int .i64 z2v.fA),(.int .i64 z2v.fB),(.int .i64 z2v.fC),(.slice z6d z3s.length z6e),(.int .u8 zb2),(.int .i64 zb3),(.int .i64 zb4),(.slice z75 z3Q.length z76)],row (.slice z6d z3s.length z6e) 5 1 (z3s.flatMap e5),row (.slice z75 z3Q.length z76) 5 1 (z3Q.flatMap e5)]) w₀ w₀ [stb z9m 65 [(.int .i64 z1s.fPc),(.int .i64 z1s.fLeft),(.int .u8 z1s.fRegs.a0),(.int .u8 z1s.fRegs.a1),(.int .u8 z1s.fRegs.a2),(.int .u8 z1s.fRegs.a3),(.int .u8 z2v.fOp),(.int .i64 z2v.fA),(.int .i64 z2v.fB),(.int .i64 z2v.fC),(.slice z6d z3s.length z6e),(.int .u8 zb2),(.int .i64 zb3),(.int .i64 zb4),(.slice z75 z3Q.length z76)],row (.slice z6d z3s.length z6e) 5 1 (z3s.flatMap e5),row (.slice z75 z3Q.length z76) 5 1 (z3Q.flatMap e5)]) :
  Calls Tryd.prog 97 #[(.pointer (some ⟨z9m,0,none⟩))] w₀ fun e w'=>e = .returned (.tuple #[]) ∧ Hp (fps [stb z9m 65 [(.int .i64 z1s.fPc),(.int .i64 z1s.fLeft),(.int .u8 z1s.fRegs.a0),(.int .u8 z1s.fRegs.a1),(.int .u8 z1s.fRegs.a2),(.int .u8 z1s.fRegs.a3),(.int .u8 z2v.fOp),(.int .i64 z2v.fA),(.int .i64 z2v.fB),(.int .i64 z2v.fC),(.slice z6d z3s.length z6e),(.int .u8 zb2),(.int .i64 zb3),(.int .i64 zb4),(.slice z75 z3Q.length z76)],row (.slice z6d z3s.length z6e) 5 1 (z3s.flatMap e5),row (.slice z75 z3Q.length z76) 5 1 (z3Q.flatMap e5)]) w₀ w' [stb z9m 65 [(.int .i64 z1s.fPc),(.int .i64 z1s.fLeft),(.int .u8 z1s.fRegs.a0),(.int .u8 z1s.fRegs.a1),(.int .u8 z1s.fRegs.a2),(.int .u8 z1s.fRegs.a3),(.int .u8 z2v.fOp),(.int .i64 z2v.fA),(.int .i64 z2v.fB),(.int .i64 z2v.fC),(.slice z6d z3s.length z6e),(.int .u8 r.1),(.int .i64 r.2),(.int .i64 0),(.slice none 0 0)],row (.slice z6d z3s.length z6e) 5 1 (z3s.flatMap e5),row (.slice z75 z3Q.length z76) 5 1 (z3Q.flatMap e5)]:=by
 unfold y28 at h
 refine Calls.y8 (vs:=[(.pointer (some ⟨z9m,0,none⟩))]) (pre:=[stb z9m 65 [(.int .i64 z1s.fPc),(.int .i64 z1s.fLeft),(.int .u8 z1s.fRegs.a0),(.int .u8 z1s.fRegs.a1),(.int .u8 z1s.fRegs.a2),(.int .u8 z1s.fRegs.a3),(.int .u8 z2v.fOp),(.int .i64 z2v.fA),(.int .i64 z2v.fB),(.int .i64 z2v.fC),(.slice z6d z3s.length z6e),(.int .u8 zb2),(.int .i64 zb3),(.int .i64 zb4),(.slice z75 z3Q.length z76)],row (.slice z6d z3s.length z6e) 5 1 (z3s.flatMap e5),row (.slice z75 z3Q.length z76) 5 1 (z3Q.flatMap e5)]) (env:=[(0,(.pointer (some ⟨z9m,0,none⟩)))]) Tryd.func97 rfl Tryd.ntmps97 rfl (hown) rfl ?_
 obtain ⟨zh4,zuO,h⟩:=zd h
 refine WC.a (WL.pu rfl ?_)
 refine WL.b (dd:=3) rfl rfl rfl (zl (l:=[.tmp 2,.const (.int .u8 10),.const (.slice none 0 0)]) Tryd.call110 (.cons rfl (.cons rfl (.cons rfl .nil)))) (.cons .here (.cons .here (.cons .here .nil))) (cc hz (.cons .here (.cons .here (.cons .here .nil))) fun w pz ho=>yH _ _ _ _ _ _ _ _ _ _ _ _ _ _ _ _ _ _ zuO w pz (ZS.nil _ _ _) ho) ?_
 refine WL.nil ?_
 obtain rfl:=Option.some.inj h
 refine WX.y9 Tryd.results97 .nil (fun w hw=>?_)
 exact ⟨yC,hw.sub (.cons .here (.cons .here (.cons .here .nil)))⟩
def y1S (zX : Sproc_State) (z1C : Sapi_Ins) (z37 : List Int) (z9n : Int) (z9o : Int) (z9p : Int) (z3t : List Int) : Option (Int × Int) :=
 (yj zX z1C z37 z9n z9o z9p z3t z1C.fB).bind fun zuP=>chk ((0 : Int) ≤ z1C.fB ∧ z1C.fB < 4) ((yi zX z1C z37 z9n z9o z9p z3t 11 ([nth ([zX.fRegs.a0,zX.fRegs.a1,zX.fRegs.a2,zX.fRegs.a3] : List Int) z1C.fB] : List Int)).bind fun zh5=>some (zh5.1,zh5.2))
set_option maxRecDepth 20000 in
theorem y4O (Z : Zp) (z9q : Nat) (z6f : Option Addr) (z6g : Nat) (z77 : Option Addr) (z78 : Nat) (zX : Sproc_State) (z1C : Sapi_Ins) (z37 : List Int) (z9n : Int) (z9o : Int) (z9p : Int) (z3t : List Int) (r : Int × Int)
  (h : y1S zX z1C z37 z9n z9o z9p z3t = some r) (w₀ : World) (hz : PZ (fps [stb z9q 65 [(.int .i64 zX.fPc),(.int .i64 zX.fLeft),(.int .u8 zX.fRegs.a0),(.int .u8 zX.fRegs.a1),(.int .u8 zX.fRegs.a2),(.int .u8 zX.fRegs.a3),(.int .u8 z1C.fOp),(.int .i64 z1C.fA),(.int .i64 z1C.fB),(.int .i64 z1C.fC),(.slice z6f z37.length z6g),(.int .u8 z9n),(.int .i64 z9o),(.int .i64 z9p),(.slice z77 z3t.length z78)],row (.slice z6f z37.length z6g) 5 1 (z37.flatMap e5),row (.slice z77 z3t.length z78) 5 1 (z3t.flatMap e5)]) w₀ Z)
  (hown : Hp (fps [stb z9q 65 [(.int .i64 zX.fPc),(.int .i64 zX.fLeft),(.int .u8 zX.fRegs.a0),(.int .u8 zX.fRegs.a1),(.int .u8 zX.fRegs.a2),(.int .u8 zX.fRegs.a3),(.int .u8 z1C.fOp),(.int .i64 z1C.fA),(.int .i64 z1C.fB),(.int .i64 z1C.fC),(.slice z6f z37.length z6g),(.int .u8 z9n),(.int .i64 z9o),(.int .i64 z9p),(.slice z77 z3t.length z78)],row (.slice z6f z37.length z6g) 5 1 (z37.flatMap e5),row (.slice z77 z3t.length z78) 5 1 (z3t.flatMap e5)]) w₀ w₀ [stb z9q 65 [(.int .i64 zX.fPc),(.int .i64 zX.fLeft),(.int .u8 zX.fRegs.a0),(.int .u8 zX.fRegs.a1),(.int .u8 zX.fRegs.a2),(.int .u8 zX.fRegs.a3),(.int .u8 z1C.fOp),(.int .i64 z1C.fA),(.int .i64 z1C.fB),(.int .i64 z1C.fC),(.slice z6f z37.length z6g),(.int .u8 z9n),(.int .i64 z9o),(.int .i64 z9p),(.slice z77 z3t.length z78)],row (.slice z6f z37.length z6g) 5 1 (z37.flatMap e5),row (.slice z77 z3t.length z78) 5 1 (z3t.flatMap e5)]) :
  Calls Tryd.prog 98 #[(.pointer (some ⟨z9q,0,none⟩))] w₀ fun e w'=>∃ zkU : Option Addr,∃ zkV : Nat,e = .returned (.tuple #[]) ∧ True ∧ Hp (fps [stb z9q 65 [(.int .i64 zX.fPc),(.int .i64 zX.fLeft),(.int .u8 zX.fRegs.a0),(.int .u8 zX.fRegs.a1),(.int .u8 zX.fRegs.a2),(.int .u8 zX.fRegs.a3),(.int .u8 z1C.fOp),(.int .i64 z1C.fA),(.int .i64 z1C.fB),(.int .i64 z1C.fC),(.slice z6f z37.length z6g),(.int .u8 z9n),(.int .i64 z9o),(.int .i64 z9p),(.slice z77 z3t.length z78)],row (.slice z6f z37.length z6g) 5 1 (z37.flatMap e5),row (.slice z77 z3t.length z78) 5 1 (z3t.flatMap e5)]) w₀ w' [stb z9q 65 [(.int .i64 zX.fPc),(.int .i64 zX.fLeft),(.int .u8 zX.fRegs.a0),(.int .u8 zX.fRegs.a1),(.int .u8 zX.fRegs.a2),(.int .u8 zX.fRegs.a3),(.int .u8 z1C.fOp),(.int .i64 z1C.fA),(.int .i64 z1C.fB),(.int .i64 z1C.fC),(.slice z6f z37.length z6g),(.int .u8 r.1),(.int .i64 r.2),(.int .i64 0),(.slice zkU (([nth ([zX.fRegs.a0,zX.fRegs.a1,zX.fRegs.a2,zX.fRegs.a3] : List Int) z1C.fB] : List Int).length) zkV)],row (.slice z6f z37.length z6g) 5 1 (z37.flatMap e5),row (.slice zkU (([nth ([zX.fRegs.a0,zX.fRegs.a1,zX.fRegs.a2,zX.fRegs.a3] : List Int) z1C.fB] : List Int).length) zkV) 5 1 (([nth ([zX.fRegs.a0,zX.fRegs.a1,zX.fRegs.a2,zX.fRegs.a3] : List Int) z1C.fB] : List Int).flatMap e5),row (.slice z77 z3t.length z78) 5 1 (z3t.flatMap e5)]:=by
 unfold y1S at h
 refine Calls.y8 (vs:=[(.pointer (some ⟨z9q,0,none⟩))]) (pre:=[stb z9q 65 [(.int .i64 zX.fPc),(.int .i64 zX.fLeft),(.int .u8 zX.fRegs.a0),(.int .u8 zX.fRegs.a1),(.int .u8 zX.fRegs.a2),(.int .u8 zX.fRegs.a3),(.int .u8 z1C.fOp),(.int .i64 z1C.fA),(.int .i64 z1C.fB),(.int .i64 z1C.fC),(.slice z6f z37.length z6g),(.int .u8 z9n),(.int .i64 z9o),(.int .i64 z9p),(.slice z77 z3t.length z78)],row (.slice z6f z37.length z6g) 5 1 (z37.flatMap e5),row (.slice z77 z3t.length z78) 5 1 (z3t.flatMap e5)]) (env:=[(0,(.pointer (some ⟨z9q,0,none⟩)))]) Tryd.func98 rfl Tryd.ntmps98 rfl (hown) rfl ?_
 obtain ⟨zuP,zuQ,h⟩:=zd h
 obtain ⟨zuR,h⟩:=ya h
 obtain ⟨zh5,zuS,h⟩:=zd h
 refine WC.a (WL.pu rfl (WL.pu rfl (WL.pu rfl ?_)))
 refine WL.a (d:=5) rfl rfl rfl (y6 rfl) ?_
 refine WL.a (d:=6) rfl rfl rfl (y4 yo rfl rfl) ?_
 refine WL.a (d:=7) rfl rfl rfl (y4 y14 rfl rfl) ?_
 refine WL.a (d:=8) rfl rfl rfl (y5 yd rfl (yb .here rfl)) ?_
 refine WL.b (dd:=9) rfl rfl rfl (zl (l:=[.tmp 3,.tmp 8]) Tryd.call108 (.cons rfl (.cons rfl .nil))) (.cons .h1 (.cons .h1 .nil)) (ccl hz (.cons .h1 (.cons .h1 .nil)) (.cons .here .nil) fun w pz ho la=>yr _ _ _ _ _ _ _ _ _ _ _ _ _ _ _ zuQ w pz ((la _ (.head _) _).stb) ho) ?_
 refine WL.a (d:=10) rfl rfl rfl (y6 rfl) ?_
 refine WL.a (d:=11) rfl rfl rfl (y5 yB rfl (yZ (l:=([zX.fRegs.a0,zX.fRegs.a1,zX.fRegs.a2,zX.fRegs.a3] : List Int)) (f:=Value.int .u8) (k:=2) (m:=6) .h2 rfl rfl zuR)) ?_
 refine WL.new (dd:=12) rfl rfl rfl (yy (cs:=([nth ([zX.fRegs.a0,zX.fRegs.a1,zX.fRegs.a2,zX.fRegs.a3] : List Int) z1C.fB] : List Int).flatMap e5) y1v (Eos.parts (l:=[.tmp 11]) (.cons rfl .nil) [0]) (fun _=>by kernel_rfl) rfl (by unfold maxLen; omega)) ?_
 intro zuT _
 refine WL.b (dd:=13) rfl rfl rfl (zl (l:=[.tmp 2,.const (.int .u8 11),.tmp 12]) Tryd.call110 (.cons rfl (.cons rfl (.cons rfl .nil)))) (.cons .h3 (.cons .h1 (.cons .h1 (.cons .here .nil)))) (cc hz (.cons .h3 (.cons .h1 (.cons .h1 (.cons .here .nil)))) fun w pz ho=>y2k _ _ _ _ _ _ _ _ _ _ _ _ _ _ _ _ _ _ zuS w pz  ho) ?_
 refine WL.nil ?_
 obtain rfl:=Option.some.inj h
 refine WX.y9 Tryd.results98 .nil (fun w hw=>?_)
 exact ⟨(some ⟨zuT,0,none⟩),1,yC,trivial,hw.sub (.cons .here (.cons .here (.cons .here (.cons .here .nil))))⟩
def y1T (z1t : Sproc_State) (z2w : Sapi_Ins) (z3u : List Int) (zb5 : Int) (zb6 : Int) (zb7 : Int) (z3R : List Int) : Option (Int × Int) :=
 (yc z1t z2w z3u zb5 zb6 zb7 z3R 12 []).bind fun zh6=>some (zh6.1,zh6.2)
set_option maxRecDepth 20000 in
theorem y4P (Z : Zp) (z9r : Nat) (z6h : Option Addr) (z6i : Nat) (z79 : Option Addr) (z7a : Nat) (z1t : Sproc_State) (z2w : Sapi_Ins) (z3u : List Int) (zb5 : Int) (zb6 : Int) (zb7 : Int) (z3R : List Int) (r : Int × Int)
  (h : y1T z1t z2w z3u zb5 zb6 zb7 z3R = some r) (w₀ : World) (hz : PZ (fps [stb z9r 65 [(.int .i64 z1t.fPc),(.int .i64 z1t.fLeft),(.int .u8 z1t.fRegs.a0),(.int .u8 z1t.fRegs.a1),(.int .u8 z1t.fRegs.a2),(.int .u8 z1t.fRegs.a3),(.int .u8 z2w.fOp),(.int .i64 z2w.fA),(.int .i64 z2w.fB),(.int .i64 z2w.fC),(.slice z6h z3u.length z6i),(.int .u8 zb5),(.int .i64 zb6),(.int .i64 zb7),(.slice z79 z3R.length z7a)],row (.slice z6h z3u.length z6i) 5 1 (z3u.flatMap e5),row (.slice z79 z3R.length z7a) 5 1 (z3R.flatMap e5)]) w₀ Z)
  (hown : Hp (fps [stb z9r 65 [(.int .i64 z1t.fPc),(.int .i64 z1t.fLeft),(.int .u8 z1t.fRegs.a0),(.int .u8 z1t.fRegs.a1),(.int .u8 z1t.fRegs.a2),(.int .u8 z1t.fRegs.a3),(.int .u8 z2w.fOp),(.int .i64 z2w.fA),(.int .i64 z2w.fB),(.int .i64 z2w.fC),(.slice z6h z3u.length z6i),(.int .u8 zb5),(.int .i64 zb6),(.int .i64 zb7),(.slice z79 z3R.length z7a)],row (.slice z6h z3u.length z6i) 5 1 (z3u.flatMap e5),row (.slice z79 z3R.length z7a) 5 1 (z3R.flatMap e5)]) w₀ w₀ [stb z9r 65 [(.int .i64 z1t.fPc),(.int .i64 z1t.fLeft),(.int .u8 z1t.fRegs.a0),(.int .u8 z1t.fRegs.a1),(.int .u8 z1t.fRegs.a2),(.int .u8 z1t.fRegs.a3),(.int .u8 z2w.fOp),(.int .i64 z2w.fA),(.int .i64 z2w.fB),(.int .i64 z2w.fC),(.slice z6h z3u.length z6i),(.int .u8 zb5),(.int .i64 zb6),(.int .i64 zb7),(.slice z79 z3R.length z7a)],row (.slice z6h z3u.length z6i) 5 1 (z3u.flatMap e5),row (.slice z79 z3R.length z7a) 5 1 (z3R.flatMap e5)]) :
  Calls Tryd.prog 99 #[(.pointer (some ⟨z9r,0,none⟩))] w₀ fun e w'=>e = .returned (.tuple #[]) ∧ Hp (fps [stb z9r 65 [(.int .i64 z1t.fPc),(.int .i64 z1t.fLeft),(.int .u8 z1t.fRegs.a0),(.int .u8 z1t.fRegs.a1),(.int .u8 z1t.fRegs.a2),(.int .u8 z1t.fRegs.a3),(.int .u8 z2w.fOp),(.int .i64 z2w.fA),(.int .i64 z2w.fB),(.int .i64 z2w.fC),(.slice z6h z3u.length z6i),(.int .u8 zb5),(.int .i64 zb6),(.int .i64 zb7),(.slice z79 z3R.length z7a)],row (.slice z6h z3u.length z6i) 5 1 (z3u.flatMap e5),row (.slice z79 z3R.length z7a) 5 1 (z3R.flatMap e5)]) w₀ w' [stb z9r 65 [(.int .i64 z1t.fPc),(.int .i64 z1t.fLeft),(.int .u8 z1t.fRegs.a0),(.int .u8 z1t.fRegs.a1),(.int .u8 z1t.fRegs.a2),(.int .u8 z1t.fRegs.a3),(.int .u8 z2w.fOp),(.int .i64 z2w.fA),(.int .i64 z2w.fB),(.int .i64 z2w.fC),(.slice z6h z3u.length z6i),(.int .u8 r.1),(.int .i64 r.2),(.int .i64 0),(.slice none 0 0)],row (.slice z6h z3u.length z6i) 5 1 (z3u.flatMap e5),row (.slice z79 z3R.length z7a) 5 1 (z3R.flatMap e5)]:=by
 unfold y1T at h
 refine Calls.y8 (vs:=[(.pointer (some ⟨z9r,0,none⟩))]) (pre:=[stb z9r 65 [(.int .i64 z1t.fPc),(.int .i64 z1t.fLeft),(.int .u8 z1t.fRegs.a0),(.int .u8 z1t.fRegs.a1),(.int .u8 z1t.fRegs.a2),(.int .u8 z1t.fRegs.a3),(.int .u8 z2w.fOp),(.int .i64 z2w.fA),(.int .i64 z2w.fB),(.int .i64 z2w.fC),(.slice z6h z3u.length z6i),(.int .u8 zb5),(.int .i64 zb6),(.int .i64 zb7),(.slice z79 z3R.length z7a)],row (.slice z6h z3u.length z6i) 5 1 (z3u.flatMap e5),row (.slice z79 z3R.length z7a) 5 1 (z3R.flatMap e5)]) (env:=[(0,(.pointer (some ⟨z9r,0,none⟩)))]) Tryd.func99 rfl Tryd.ntmps99 rfl (hown) rfl ?_
 obtain ⟨zh6,zuU,h⟩:=zd h
 refine WC.a (WL.pu rfl ?_)
 refine WL.b (dd:=3) rfl rfl rfl (zl (l:=[.tmp 2,.const (.int .u8 12),.const (.slice none 0 0)]) Tryd.call110 (.cons rfl (.cons rfl (.cons rfl .nil)))) (.cons .here (.cons .here (.cons .here .nil))) (cc hz (.cons .here (.cons .here (.cons .here .nil))) fun w pz ho=>yH _ _ _ _ _ _ _ _ _ _ _ _ _ _ _ _ _ _ zuU w pz (ZS.nil _ _ _) ho) ?_
 refine WL.nil ?_
 obtain rfl:=Option.some.inj h
 refine WX.y9 Tryd.results99 .nil (fun w hw=>?_)
 exact ⟨yC,hw.sub (.cons .here (.cons .here (.cons .here .nil)))⟩
def y1G (z1u : Sproc_State) (z2x : Sapi_Ins) (z3v : List Int) (zb8 : Int) (zb9 : Int) (zba : Int) (z3S : List Int) : Option (Int × Int) :=
 (yc z1u z2x z3v zb8 zb9 zba z3S 13 []).bind fun zh7=>some (zh7.1,zh7.2)
set_option maxRecDepth 20000 in
theorem y4s (Z : Zp) (z9s : Nat) (z6j : Option Addr) (z6k : Nat) (z7b : Option Addr) (z7c : Nat) (z1u : Sproc_State) (z2x : Sapi_Ins) (z3v : List Int) (zb8 : Int) (zb9 : Int) (zba : Int) (z3S : List Int) (r : Int × Int)
  (h : y1G z1u z2x z3v zb8 zb9 zba z3S = some r) (w₀ : World) (hz : PZ (fps [stb z9s 65 [(.int .i64 z1u.fPc),(.int .i64 z1u.fLeft),(.int .u8 z1u.fRegs.a0),(.int .u8 z1u.fRegs.a1),(.int .u8 z1u.fRegs.a2),(.int .u8 z1u.fRegs.a3),(.int .u8 z2x.fOp),(.int .i64 z2x.fA),(.int .i64 z2x.fB),(.int .i64 z2x.fC),(.slice z6j z3v.length z6k),(.int .u8 zb8),(.int .i64 zb9),(.int .i64 zba),(.slice z7b z3S.length z7c)],row (.slice z6j z3v.length z6k) 5 1 (z3v.flatMap e5),row (.slice z7b z3S.length z7c) 5 1 (z3S.flatMap e5)]) w₀ Z)
  (hown : Hp (fps [stb z9s 65 [(.int .i64 z1u.fPc),(.int .i64 z1u.fLeft),(.int .u8 z1u.fRegs.a0),(.int .u8 z1u.fRegs.a1),(.int .u8 z1u.fRegs.a2),(.int .u8 z1u.fRegs.a3),(.int .u8 z2x.fOp),(.int .i64 z2x.fA),(.int .i64 z2x.fB),(.int .i64 z2x.fC),(.slice z6j z3v.length z6k),(.int .u8 zb8),(.int .i64 zb9),(.int .i64 zba),(.slice z7b z3S.length z7c)],row (.slice z6j z3v.length z6k) 5 1 (z3v.flatMap e5),row (.slice z7b z3S.length z7c) 5 1 (z3S.flatMap e5)]) w₀ w₀ [stb z9s 65 [(.int .i64 z1u.fPc),(.int .i64 z1u.fLeft),(.int .u8 z1u.fRegs.a0),(.int .u8 z1u.fRegs.a1),(.int .u8 z1u.fRegs.a2),(.int .u8 z1u.fRegs.a3),(.int .u8 z2x.fOp),(.int .i64 z2x.fA),(.int .i64 z2x.fB),(.int .i64 z2x.fC),(.slice z6j z3v.length z6k),(.int .u8 zb8),(.int .i64 zb9),(.int .i64 zba),(.slice z7b z3S.length z7c)],row (.slice z6j z3v.length z6k) 5 1 (z3v.flatMap e5),row (.slice z7b z3S.length z7c) 5 1 (z3S.flatMap e5)]) :
  Calls Tryd.prog 100 #[(.pointer (some ⟨z9s,0,none⟩))] w₀ fun e w'=>e = .returned (.tuple #[]) ∧ Hp (fps [stb z9s 65 [(.int .i64 z1u.fPc),(.int .i64 z1u.fLeft),(.int .u8 z1u.fRegs.a0),(.int .u8 z1u.fRegs.a1),(.int .u8 z1u.fRegs.a2),(.int .u8 z1u.fRegs.a3),(.int .u8 z2x.fOp),(.int .i64 z2x.fA),(.int .i64 z2x.fB),(.int .i64 z2x.fC),(.slice z6j z3v.length z6k),(.int .u8 zb8),(.int .i64 zb9),(.int .i64 zba),(.slice z7b z3S.length z7c)],row (.slice z6j z3v.length z6k) 5 1 (z3v.flatMap e5),row (.slice z7b z3S.length z7c) 5 1 (z3S.flatMap e5)]) w₀ w' [stb z9s 65 [(.int .i64 z1u.fPc),(.int .i64 z1u.fLeft),(.int .u8 z1u.fRegs.a0),(.int .u8 z1u.fRegs.a1),(.int .u8 z1u.fRegs.a2),(.int .u8 z1u.fRegs.a3),(.int .u8 z2x.fOp),(.int .i64 z2x.fA),(.int .i64 z2x.fB),(.int .i64 z2x.fC),(.slice z6j z3v.length z6k),(.int .u8 r.1),(.int .i64 r.2),(.int .i64 0),(.slice none 0 0)],row (.slice z6j z3v.length z6k) 5 1 (z3v.flatMap e5),row (.slice z7b z3S.length z7c) 5 1 (z3S.flatMap e5)]:=by
 unfold y1G at h
 refine Calls.y8 (vs:=[(.pointer (some ⟨z9s,0,none⟩))]) (pre:=[stb z9s 65 [(.int .i64 z1u.fPc),(.int .i64 z1u.fLeft),(.int .u8 z1u.fRegs.a0),(.int .u8 z1u.fRegs.a1),(.int .u8 z1u.fRegs.a2),(.int .u8 z1u.fRegs.a3),(.int .u8 z2x.fOp),(.int .i64 z2x.fA),(.int .i64 z2x.fB),(.int .i64 z2x.fC),(.slice z6j z3v.length z6k),(.int .u8 zb8),(.int .i64 zb9),(.int .i64 zba),(.slice z7b z3S.length z7c)],row (.slice z6j z3v.length z6k) 5 1 (z3v.flatMap e5),row (.slice z7b z3S.length z7c) 5 1 (z3S.flatMap e5)]) (env:=[(0,(.pointer (some ⟨z9s,0,none⟩)))]) Tryd.func100 rfl Tryd.ntmps100 rfl (hown) rfl ?_
 obtain ⟨zh7,zuV,h⟩:=zd h
 refine WC.a (WL.pu rfl ?_)
 refine WL.b (dd:=3) rfl rfl rfl (zl (l:=[.tmp 2,.const (.int .u8 13),.const (.slice none 0 0)]) Tryd.call110 (.cons rfl (.cons rfl (.cons rfl .nil)))) (.cons .here (.cons .here (.cons .here .nil))) (cc hz (.cons .here (.cons .here (.cons .here .nil))) fun w pz ho=>yH _ _ _ _ _ _ _ _ _ _ _ _ _ _ _ _ _ _ zuV w pz (ZS.nil _ _ _) ho) ?_
 refine WL.nil ?_
 obtain rfl:=Option.some.inj h
 refine WX.y9 Tryd.results100 .nil (fun w hw=>?_)
 exact ⟨yC,hw.sub (.cons .here (.cons .here (.cons .here .nil)))⟩
def y1U (z1f : Sproc_State) (z2e : Sapi_Ins) (z3w : List Int) (zc7 : Int) (zc8 : Int) (zc9 : Int) (z44 : List Int) : Option Unit :=
 some ()
set_option maxRecDepth 20000 in
theorem y4Q (Z : Zp) (z9t : Nat) (z5d : Option Addr) (z5e : Nat) (z7d : Option Addr) (z7e : Nat) (z1f : Sproc_State) (z2e : Sapi_Ins) (z3w : List Int) (zc7 : Int) (zc8 : Int) (zc9 : Int) (z44 : List Int) (r : Unit)
  (h : y1U z1f z2e z3w zc7 zc8 zc9 z44 = some r) (w₀ : World) (hz : PZ (fps [stb z9t 65 [(.int .i64 z1f.fPc),(.int .i64 z1f.fLeft),(.int .u8 z1f.fRegs.a0),(.int .u8 z1f.fRegs.a1),(.int .u8 z1f.fRegs.a2),(.int .u8 z1f.fRegs.a3),(.int .u8 z2e.fOp),(.int .i64 z2e.fA),(.int .i64 z2e.fB),(.int .i64 z2e.fC),(.slice z5d z3w.length z5e),(.int .u8 zc7),(.int .i64 zc8),(.int .i64 zc9),(.slice z7d z44.length z7e)],row (.slice z5d z3w.length z5e) 5 1 (z3w.flatMap e5),row (.slice z7d z44.length z7e) 5 1 (z44.flatMap e5)]) w₀ Z)
  (hown : Hp (fps [stb z9t 65 [(.int .i64 z1f.fPc),(.int .i64 z1f.fLeft),(.int .u8 z1f.fRegs.a0),(.int .u8 z1f.fRegs.a1),(.int .u8 z1f.fRegs.a2),(.int .u8 z1f.fRegs.a3),(.int .u8 z2e.fOp),(.int .i64 z2e.fA),(.int .i64 z2e.fB),(.int .i64 z2e.fC),(.slice z5d z3w.length z5e),(.int .u8 zc7),(.int .i64 zc8),(.int .i64 zc9),(.slice z7d z44.length z7e)],row (.slice z5d z3w.length z5e) 5 1 (z3w.flatMap e5),row (.slice z7d z44.length z7e) 5 1 (z44.flatMap e5)]) w₀ w₀ [stb z9t 65 [(.int .i64 z1f.fPc),(.int .i64 z1f.fLeft),(.int .u8 z1f.fRegs.a0),(.int .u8 z1f.fRegs.a1),(.int .u8 z1f.fRegs.a2),(.int .u8 z1f.fRegs.a3),(.int .u8 z2e.fOp),(.int .i64 z2e.fA),(.int .i64 z2e.fB),(.int .i64 z2e.fC),(.slice z5d z3w.length z5e),(.int .u8 zc7),(.int .i64 zc8),(.int .i64 zc9),(.slice z7d z44.length z7e)],row (.slice z5d z3w.length z5e) 5 1 (z3w.flatMap e5),row (.slice z7d z44.length z7e) 5 1 (z44.flatMap e5)]) :
  Calls Tryd.prog 101 #[(.pointer (some ⟨z9t,0,none⟩))] w₀ fun e w'=>e = .returned (.tuple #[]) ∧ Hp (fps [stb z9t 65 [(.int .i64 z1f.fPc),(.int .i64 z1f.fLeft),(.int .u8 z1f.fRegs.a0),(.int .u8 z1f.fRegs.a1),(.int .u8 z1f.fRegs.a2),(.int .u8 z1f.fRegs.a3),(.int .u8 z2e.fOp),(.int .i64 z2e.fA),(.int .i64 z2e.fB),(.int .i64 z2e.fC),(.slice z5d z3w.length z5e),(.int .u8 zc7),(.int .i64 zc8),(.int .i64 zc9),(.slice z7d z44.length z7e)],row (.slice z5d z3w.length z5e) 5 1 (z3w.flatMap e5),row (.slice z7d z44.length z7e) 5 1 (z44.flatMap e5)]) w₀ w' [stb z9t 65 [(.int .i64 z1f.fPc),(.int .i64 z1f.fLeft),(.int .u8 z1f.fRegs.a0),(.int .u8 z1f.fRegs.a1),(.int .u8 z1f.fRegs.a2),(.int .u8 z1f.fRegs.a3),(.int .u8 z2e.fOp),(.int .i64 z2e.fA),(.int .i64 z2e.fB),(.int .i64 z2e.fC),(.slice z5d z3w.length z5e),(.int .u8 14),(.int .i64 0),(.int .i64 0),(.slice none 0 0)],row (.slice z5d z3w.length z5e) 5 1 (z3w.flatMap e5),row (.slice z7d z44.length z7e) 5 1 (z44.flatMap e5)]:=by
 unfold y1U at h
 refine Calls.y8 (vs:=[(.pointer (some ⟨z9t,0,none⟩))]) (pre:=[stb z9t 65 [(.int .i64 z1f.fPc),(.int .i64 z1f.fLeft),(.int .u8 z1f.fRegs.a0),(.int .u8 z1f.fRegs.a1),(.int .u8 z1f.fRegs.a2),(.int .u8 z1f.fRegs.a3),(.int .u8 z2e.fOp),(.int .i64 z2e.fA),(.int .i64 z2e.fB),(.int .i64 z2e.fC),(.slice z5d z3w.length z5e),(.int .u8 zc7),(.int .i64 zc8),(.int .i64 zc9),(.slice z7d z44.length z7e)],row (.slice z5d z3w.length z5e) 5 1 (z3w.flatMap e5),row (.slice z7d z44.length z7e) 5 1 (z44.flatMap e5)]) (env:=[(0,(.pointer (some ⟨z9t,0,none⟩)))]) Tryd.func101 rfl Tryd.ntmps101 rfl (hown) rfl ?_
 refine WC.a (WL.pu rfl ?_)
 refine WL.a (d:=3) rfl rfl rfl (yR (v:=(.agg #[(.int .u8 14),(.int .i64 0),(.int .i64 0),(.slice none 0 0)])) (Eos.parts (l:=[.const (.int .u8 14)]) (.cons rfl .nil) [0]) (fun _=>by kernel_rfl)) ?_
 refine WL.a (d:=4) rfl rfl rfl (y6 rfl) ?_
 refine WL.a (d:=5) rfl rfl rfl (y4 y2e rfl rfl) ?_
 refine WL.yg rfl rfl (yK (ds:=[(.int .i64 z1f.fPc),(.int .i64 z1f.fLeft),(.int .u8 z1f.fRegs.a0),(.int .u8 z1f.fRegs.a1),(.int .u8 z1f.fRegs.a2),(.int .u8 z1f.fRegs.a3),(.int .u8 z2e.fOp),(.int .i64 z2e.fA),(.int .i64 z2e.fB),(.int .i64 z2e.fC),(.slice z5d z3w.length z5e),(.int .u8 14),(.int .i64 0),(.int .i64 0),(.slice none 0 0)]) y1g rfl rfl rfl rfl rfl .here rfl rfl) ?_
 refine WL.nil ?_
 skip
 refine WX.y9 Tryd.results101 .nil (fun w hw=>?_)
 exact ⟨yC,hw.sub (.cons .here (.cons .here (.cons .here .nil)))⟩
def y1V (z1j : Sproc_State) (z1M : Sapi_Ins) (z3x : List Int) (z9u : Int) (z9v : Int) (z9w : Int) (z3y : List Int) : Option Int :=
 some z1M.fA
set_option maxRecDepth 20000 in
theorem y4R (Z : Zp) (z9x : Nat) (z5f : Option Addr) (z5g : Nat) (z5h : Option Addr) (z5i : Nat) (z1j : Sproc_State) (z1M : Sapi_Ins) (z3x : List Int) (z9u : Int) (z9v : Int) (z9w : Int) (z3y : List Int) (r : Int)
  (h : y1V z1j z1M z3x z9u z9v z9w z3y = some r) (w₀ : World) (hz : PZ (fps [stb z9x 65 [(.int .i64 z1j.fPc),(.int .i64 z1j.fLeft),(.int .u8 z1j.fRegs.a0),(.int .u8 z1j.fRegs.a1),(.int .u8 z1j.fRegs.a2),(.int .u8 z1j.fRegs.a3),(.int .u8 z1M.fOp),(.int .i64 z1M.fA),(.int .i64 z1M.fB),(.int .i64 z1M.fC),(.slice z5f z3x.length z5g),(.int .u8 z9u),(.int .i64 z9v),(.int .i64 z9w),(.slice z5h z3y.length z5i)],row (.slice z5f z3x.length z5g) 5 1 (z3x.flatMap e5),row (.slice z5h z3y.length z5i) 5 1 (z3y.flatMap e5)]) w₀ Z)
  (hown : Hp (fps [stb z9x 65 [(.int .i64 z1j.fPc),(.int .i64 z1j.fLeft),(.int .u8 z1j.fRegs.a0),(.int .u8 z1j.fRegs.a1),(.int .u8 z1j.fRegs.a2),(.int .u8 z1j.fRegs.a3),(.int .u8 z1M.fOp),(.int .i64 z1M.fA),(.int .i64 z1M.fB),(.int .i64 z1M.fC),(.slice z5f z3x.length z5g),(.int .u8 z9u),(.int .i64 z9v),(.int .i64 z9w),(.slice z5h z3y.length z5i)],row (.slice z5f z3x.length z5g) 5 1 (z3x.flatMap e5),row (.slice z5h z3y.length z5i) 5 1 (z3y.flatMap e5)]) w₀ w₀ [stb z9x 65 [(.int .i64 z1j.fPc),(.int .i64 z1j.fLeft),(.int .u8 z1j.fRegs.a0),(.int .u8 z1j.fRegs.a1),(.int .u8 z1j.fRegs.a2),(.int .u8 z1j.fRegs.a3),(.int .u8 z1M.fOp),(.int .i64 z1M.fA),(.int .i64 z1M.fB),(.int .i64 z1M.fC),(.slice z5f z3x.length z5g),(.int .u8 z9u),(.int .i64 z9v),(.int .i64 z9w),(.slice z5h z3y.length z5i)],row (.slice z5f z3x.length z5g) 5 1 (z3x.flatMap e5),row (.slice z5h z3y.length z5i) 5 1 (z3y.flatMap e5)]) :
  Calls Tryd.prog 102 #[(.pointer (some ⟨z9x,0,none⟩))] w₀ fun e w'=>e = .returned (.tuple #[]) ∧ Hp (fps [stb z9x 65 [(.int .i64 z1j.fPc),(.int .i64 z1j.fLeft),(.int .u8 z1j.fRegs.a0),(.int .u8 z1j.fRegs.a1),(.int .u8 z1j.fRegs.a2),(.int .u8 z1j.fRegs.a3),(.int .u8 z1M.fOp),(.int .i64 z1M.fA),(.int .i64 z1M.fB),(.int .i64 z1M.fC),(.slice z5f z3x.length z5g),(.int .u8 z9u),(.int .i64 z9v),(.int .i64 z9w),(.slice z5h z3y.length z5i)],row (.slice z5f z3x.length z5g) 5 1 (z3x.flatMap e5),row (.slice z5h z3y.length z5i) 5 1 (z3y.flatMap e5)]) w₀ w' [stb z9x 65 [(.int .i64 r),(.int .i64 z1j.fLeft),(.int .u8 z1j.fRegs.a0),(.int .u8 z1j.fRegs.a1),(.int .u8 z1j.fRegs.a2),(.int .u8 z1j.fRegs.a3),(.int .u8 z1M.fOp),(.int .i64 z1M.fA),(.int .i64 z1M.fB),(.int .i64 z1M.fC),(.slice z5f z3x.length z5g),(.int .u8 z9u),(.int .i64 z9v),(.int .i64 z9w),(.slice z5h z3y.length z5i)],row (.slice z5f z3x.length z5g) 5 1 (z3x.flatMap e5),row (.slice z5h z3y.length z5i) 5 1 (z3y.flatMap e5)]:=by
 unfold y1V at h
 refine Calls.y8 (vs:=[(.pointer (some ⟨z9x,0,none⟩))]) (pre:=[stb z9x 65 [(.int .i64 z1j.fPc),(.int .i64 z1j.fLeft),(.int .u8 z1j.fRegs.a0),(.int .u8 z1j.fRegs.a1),(.int .u8 z1j.fRegs.a2),(.int .u8 z1j.fRegs.a3),(.int .u8 z1M.fOp),(.int .i64 z1M.fA),(.int .i64 z1M.fB),(.int .i64 z1M.fC),(.slice z5f z3x.length z5g),(.int .u8 z9u),(.int .i64 z9v),(.int .i64 z9w),(.slice z5h z3y.length z5i)],row (.slice z5f z3x.length z5g) 5 1 (z3x.flatMap e5),row (.slice z5h z3y.length z5i) 5 1 (z3y.flatMap e5)]) (env:=[(0,(.pointer (some ⟨z9x,0,none⟩)))]) Tryd.func102 rfl Tryd.ntmps102 rfl (hown) rfl ?_
 refine WC.a (WL.pu rfl (WL.pu rfl ?_))
 refine WL.a (d:=4) rfl rfl rfl (y6 rfl) ?_
 refine WL.a (d:=5) rfl rfl rfl (y4 yo rfl rfl) ?_
 refine WL.a (d:=6) rfl rfl rfl (y4 yS rfl rfl) ?_
 refine WL.a (d:=7) rfl rfl rfl (y5 yd rfl (yb .here rfl)) ?_
 refine WL.a (d:=8) rfl rfl rfl (y6 rfl) ?_
 refine WL.a (d:=9) rfl rfl rfl (y4 yI rfl rfl) ?_
 refine WL.a (d:=10) rfl rfl rfl (y4 y1c rfl rfl) ?_
 refine WL.yg rfl rfl (yK (ds:=[(.int .i64 z1M.fA),(.int .i64 z1j.fLeft),(.int .u8 z1j.fRegs.a0),(.int .u8 z1j.fRegs.a1),(.int .u8 z1j.fRegs.a2),(.int .u8 z1j.fRegs.a3),(.int .u8 z1M.fOp),(.int .i64 z1M.fA),(.int .i64 z1M.fB),(.int .i64 z1M.fC),(.slice z5f z3x.length z5g),(.int .u8 z9u),(.int .i64 z9v),(.int .i64 z9w),(.slice z5h z3y.length z5i)]) y20 rfl rfl rfl rfl rfl .here rfl rfl) ?_
 refine WL.nil ?_
 obtain rfl:=Option.some.inj h
 refine WX.y9 Tryd.results102 .nil (fun w hw=>?_)
 exact ⟨yC,hw.sub (.cons .here (.cons .here (.cons .here .nil)))⟩
def y1W (z15 : Sproc_State) (z1z : Sapi_Ins) (z38 : List Int) (z7P : Int) (z7Q : Int) (z7R : Int) (z39 : List Int) : Option Int :=
 (yj z15 z1z z38 z7P z7Q z7R z39 z1z.fA).bind fun zuW=>chk ((0 : Int) ≤ z1z.fA ∧ z1z.fA < 4) (if decide ((nth ([z15.fRegs.a0,z15.fRegs.a1,z15.fRegs.a2,z15.fRegs.a3] : List Int) z1z.fA) = 0) then some z1z.fB else some z15.fPc)
set_option maxRecDepth 20000 in
theorem y4S (Z : Zp) (z9y : Nat) (z5j : Option Addr) (z5k : Nat) (z5l : Option Addr) (z5m : Nat) (z15 : Sproc_State) (z1z : Sapi_Ins) (z38 : List Int) (z7P : Int) (z7Q : Int) (z7R : Int) (z39 : List Int) (r : Int)
  (h : y1W z15 z1z z38 z7P z7Q z7R z39 = some r) (w₀ : World) (hz : PZ (fps [stb z9y 65 [(.int .i64 z15.fPc),(.int .i64 z15.fLeft),(.int .u8 z15.fRegs.a0),(.int .u8 z15.fRegs.a1),(.int .u8 z15.fRegs.a2),(.int .u8 z15.fRegs.a3),(.int .u8 z1z.fOp),(.int .i64 z1z.fA),(.int .i64 z1z.fB),(.int .i64 z1z.fC),(.slice z5j z38.length z5k),(.int .u8 z7P),(.int .i64 z7Q),(.int .i64 z7R),(.slice z5l z39.length z5m)],row (.slice z5j z38.length z5k) 5 1 (z38.flatMap e5),row (.slice z5l z39.length z5m) 5 1 (z39.flatMap e5)]) w₀ Z)
  (hown : Hp (fps [stb z9y 65 [(.int .i64 z15.fPc),(.int .i64 z15.fLeft),(.int .u8 z15.fRegs.a0),(.int .u8 z15.fRegs.a1),(.int .u8 z15.fRegs.a2),(.int .u8 z15.fRegs.a3),(.int .u8 z1z.fOp),(.int .i64 z1z.fA),(.int .i64 z1z.fB),(.int .i64 z1z.fC),(.slice z5j z38.length z5k),(.int .u8 z7P),(.int .i64 z7Q),(.int .i64 z7R),(.slice z5l z39.length z5m)],row (.slice z5j z38.length z5k) 5 1 (z38.flatMap e5),row (.slice z5l z39.length z5m) 5 1 (z39.flatMap e5)]) w₀ w₀ [stb z9y 65 [(.int .i64 z15.fPc),(.int .i64 z15.fLeft),(.int .u8 z15.fRegs.a0),(.int .u8 z15.fRegs.a1),(.int .u8 z15.fRegs.a2),(.int .u8 z15.fRegs.a3),(.int .u8 z1z.fOp),(.int .i64 z1z.fA),(.int .i64 z1z.fB),(.int .i64 z1z.fC),(.slice z5j z38.length z5k),(.int .u8 z7P),(.int .i64 z7Q),(.int .i64 z7R),(.slice z5l z39.length z5m)],row (.slice z5j z38.length z5k) 5 1 (z38.flatMap e5),row (.slice z5l z39.length z5m) 5 1 (z39.flatMap e5)]) :
  Calls Tryd.prog 103 #[(.pointer (some ⟨z9y,0,none⟩))] w₀ fun e w'=>e = .returned (.tuple #[]) ∧ Hp (fps [stb z9y 65 [(.int .i64 z15.fPc),(.int .i64 z15.fLeft),(.int .u8 z15.fRegs.a0),(.int .u8 z15.fRegs.a1),(.int .u8 z15.fRegs.a2),(.int .u8 z15.fRegs.a3),(.int .u8 z1z.fOp),(.int .i64 z1z.fA),(.int .i64 z1z.fB),(.int .i64 z1z.fC),(.slice z5j z38.length z5k),(.int .u8 z7P),(.int .i64 z7Q),(.int .i64 z7R),(.slice z5l z39.length z5m)],row (.slice z5j z38.length z5k) 5 1 (z38.flatMap e5),row (.slice z5l z39.length z5m) 5 1 (z39.flatMap e5)]) w₀ w' [stb z9y 65 [(.int .i64 r),(.int .i64 z15.fLeft),(.int .u8 z15.fRegs.a0),(.int .u8 z15.fRegs.a1),(.int .u8 z15.fRegs.a2),(.int .u8 z15.fRegs.a3),(.int .u8 z1z.fOp),(.int .i64 z1z.fA),(.int .i64 z1z.fB),(.int .i64 z1z.fC),(.slice z5j z38.length z5k),(.int .u8 z7P),(.int .i64 z7Q),(.int .i64 z7R),(.slice z5l z39.length z5m)],row (.slice z5j z38.length z5k) 5 1 (z38.flatMap e5),row (.slice z5l z39.length z5m) 5 1 (z39.flatMap e5)]:=by
 unfold y1W at h
 refine Calls.y8 (vs:=[(.pointer (some ⟨z9y,0,none⟩))]) (pre:=[stb z9y 65 [(.int .i64 z15.fPc),(.int .i64 z15.fLeft),(.int .u8 z15.fRegs.a0),(.int .u8 z15.fRegs.a1),(.int .u8 z15.fRegs.a2),(.int .u8 z15.fRegs.a3),(.int .u8 z1z.fOp),(.int .i64 z1z.fA),(.int .i64 z1z.fB),(.int .i64 z1z.fC),(.slice z5j z38.length z5k),(.int .u8 z7P),(.int .i64 z7Q),(.int .i64 z7R),(.slice z5l z39.length z5m)],row (.slice z5j z38.length z5k) 5 1 (z38.flatMap e5),row (.slice z5l z39.length z5m) 5 1 (z39.flatMap e5)]) (env:=[(0,(.pointer (some ⟨z9y,0,none⟩)))]) Tryd.func103 rfl Tryd.ntmps103 rfl (hown) rfl ?_
 refine WC.b ?_
 obtain ⟨zuW,zuX,h⟩:=zd h
 obtain ⟨zuY,h⟩:=ya h
 refine WC.a (WL.pu rfl (WL.pu rfl ?_))
 refine WL.a (d:=4) rfl rfl rfl (y6 rfl) ?_
 refine WL.a (d:=5) rfl rfl rfl (y4 yo rfl rfl) ?_
 refine WL.a (d:=6) rfl rfl rfl (y4 yS rfl rfl) ?_
 refine WL.a (d:=7) rfl rfl rfl (y5 yd rfl (yb .here rfl)) ?_
 refine WL.b (dd:=8) rfl rfl rfl (zl (l:=[.tmp 2,.tmp 7]) Tryd.call108 (.cons rfl (.cons rfl .nil))) (.cons .h1 (.cons .h1 .nil)) (ccl hz (.cons .h1 (.cons .h1 .nil)) (.cons .here .nil) fun w pz ho la=>yr _ _ _ _ _ _ _ _ _ _ _ _ _ _ _ zuX w pz ((la _ (.head _) _).stb) ho) ?_
 refine WL.a (d:=9) rfl rfl rfl (y6 rfl) ?_
 refine WL.a (d:=10) rfl rfl rfl (y5 yB rfl (yZ (l:=([z15.fRegs.a0,z15.fRegs.a1,z15.fRegs.a2,z15.fRegs.a3] : List Int)) (f:=Value.int .u8) (k:=2) (m:=6) .h2 rfl rfl zuY)) ?_
 refine WL.pu rfl (WL.nil (WX.a ?_))
 refine WC.cond rfl (fun zh8=>?_) (fun zh8=>?_)
 ·replace h:=yl h zh8
  refine WC.a (WL.pu rfl (WL.pu rfl ?_))
  refine WL.a (d:=14) rfl rfl rfl (y6 rfl) ?_
  refine WL.a (d:=15) rfl rfl rfl (y4 yo rfl rfl) ?_
  refine WL.a (d:=16) rfl rfl rfl (y4 y14 rfl rfl) ?_
  refine WL.a (d:=17) rfl rfl rfl (y5 yd rfl (yb .h2 rfl)) ?_
  refine WL.a (d:=18) rfl rfl rfl (y6 rfl) ?_
  refine WL.a (d:=19) rfl rfl rfl (y4 yI rfl rfl) ?_
  refine WL.a (d:=20) rfl rfl rfl (y4 y1c rfl rfl) ?_
  refine WL.yg rfl rfl (yK (ds:=[(.int .i64 z1z.fB),(.int .i64 z15.fLeft),(.int .u8 z15.fRegs.a0),(.int .u8 z15.fRegs.a1),(.int .u8 z15.fRegs.a2),(.int .u8 z15.fRegs.a3),(.int .u8 z1z.fOp),(.int .i64 z1z.fA),(.int .i64 z1z.fB),(.int .i64 z1z.fC),(.slice z5j z38.length z5k),(.int .u8 z7P),(.int .i64 z7Q),(.int .i64 z7R),(.slice z5l z39.length z5m)]) y20 rfl rfl rfl rfl rfl .h2 rfl rfl) ?_
  refine WL.nil ?_
  obtain rfl:=Option.some.inj h
  refine WX.y9 Tryd.results103 .nil (fun w hw=>?_)
  exact ⟨yC,hw.sub (.cons .here (.cons .here (.cons .here .nil)))⟩
 ·replace h:=ym h zh8
  refine WC.skip ?_
  obtain rfl:=Option.some.inj h
  refine WX.y9 Tryd.results103 .nil (fun w hw=>?_)
  exact ⟨yC,hw.sub (.cons .h2 (.cons .here (.cons .here .nil)))⟩
def y1X (zU : Sproc_State) (z1a : Sapi_Ins) (z2L : List Int) (z6l : Int) (z6m : Int) (z6n : Int) (z2M : List Int) : Option Int :=
 (yj zU z1a z2L z6l z6m z6n z2M z1a.fA).bind fun zuZ=>chk ((0 : Int) ≤ z1a.fA ∧ z1a.fA < 4) ((yj zU z1a z2L z6l z6m z6n z2M z1a.fB).bind fun zv0=>chk ((0 : Int) ≤ z1a.fB ∧ z1a.fB < 4) (if decide ((nth ([zU.fRegs.a0,zU.fRegs.a1,zU.fRegs.a2,zU.fRegs.a3] : List Int) z1a.fA) < (nth ([zU.fRegs.a0,zU.fRegs.a1,zU.fRegs.a2,zU.fRegs.a3] : List Int) z1a.fB)) then some z1a.fC else some zU.fPc))
set_option maxRecDepth 20000 in
theorem y4T (Z : Zp) (z7S : Nat) (z4O : Option Addr) (z4P : Nat) (z4Q : Option Addr) (z4R : Nat) (zU : Sproc_State) (z1a : Sapi_Ins) (z2L : List Int) (z6l : Int) (z6m : Int) (z6n : Int) (z2M : List Int) (r : Int)
  (h : y1X zU z1a z2L z6l z6m z6n z2M = some r) (w₀ : World) (hz : PZ (fps [stb z7S 65 [(.int .i64 zU.fPc),(.int .i64 zU.fLeft),(.int .u8 zU.fRegs.a0),(.int .u8 zU.fRegs.a1),(.int .u8 zU.fRegs.a2),(.int .u8 zU.fRegs.a3),(.int .u8 z1a.fOp),(.int .i64 z1a.fA),(.int .i64 z1a.fB),(.int .i64 z1a.fC),(.slice z4O z2L.length z4P),(.int .u8 z6l),(.int .i64 z6m),(.int .i64 z6n),(.slice z4Q z2M.length z4R)],row (.slice z4O z2L.length z4P) 5 1 (z2L.flatMap e5),row (.slice z4Q z2M.length z4R) 5 1 (z2M.flatMap e5)]) w₀ Z)
  (hown : Hp (fps [stb z7S 65 [(.int .i64 zU.fPc),(.int .i64 zU.fLeft),(.int .u8 zU.fRegs.a0),(.int .u8 zU.fRegs.a1),(.int .u8 zU.fRegs.a2),(.int .u8 zU.fRegs.a3),(.int .u8 z1a.fOp),(.int .i64 z1a.fA),(.int .i64 z1a.fB),(.int .i64 z1a.fC),(.slice z4O z2L.length z4P),(.int .u8 z6l),(.int .i64 z6m),(.int .i64 z6n),(.slice z4Q z2M.length z4R)],row (.slice z4O z2L.length z4P) 5 1 (z2L.flatMap e5),row (.slice z4Q z2M.length z4R) 5 1 (z2M.flatMap e5)]) w₀ w₀ [stb z7S 65 [(.int .i64 zU.fPc),(.int .i64 zU.fLeft),(.int .u8 zU.fRegs.a0),(.int .u8 zU.fRegs.a1),(.int .u8 zU.fRegs.a2),(.int .u8 zU.fRegs.a3),(.int .u8 z1a.fOp),(.int .i64 z1a.fA),(.int .i64 z1a.fB),(.int .i64 z1a.fC),(.slice z4O z2L.length z4P),(.int .u8 z6l),(.int .i64 z6m),(.int .i64 z6n),(.slice z4Q z2M.length z4R)],row (.slice z4O z2L.length z4P) 5 1 (z2L.flatMap e5),row (.slice z4Q z2M.length z4R) 5 1 (z2M.flatMap e5)]) :
  Calls Tryd.prog 104 #[(.pointer (some ⟨z7S,0,none⟩))] w₀ fun e w'=>e = .returned (.tuple #[]) ∧ Hp (fps [stb z7S 65 [(.int .i64 zU.fPc),(.int .i64 zU.fLeft),(.int .u8 zU.fRegs.a0),(.int .u8 zU.fRegs.a1),(.int .u8 zU.fRegs.a2),(.int .u8 zU.fRegs.a3),(.int .u8 z1a.fOp),(.int .i64 z1a.fA),(.int .i64 z1a.fB),(.int .i64 z1a.fC),(.slice z4O z2L.length z4P),(.int .u8 z6l),(.int .i64 z6m),(.int .i64 z6n),(.slice z4Q z2M.length z4R)],row (.slice z4O z2L.length z4P) 5 1 (z2L.flatMap e5),row (.slice z4Q z2M.length z4R) 5 1 (z2M.flatMap e5)]) w₀ w' [stb z7S 65 [(.int .i64 r),(.int .i64 zU.fLeft),(.int .u8 zU.fRegs.a0),(.int .u8 zU.fRegs.a1),(.int .u8 zU.fRegs.a2),(.int .u8 zU.fRegs.a3),(.int .u8 z1a.fOp),(.int .i64 z1a.fA),(.int .i64 z1a.fB),(.int .i64 z1a.fC),(.slice z4O z2L.length z4P),(.int .u8 z6l),(.int .i64 z6m),(.int .i64 z6n),(.slice z4Q z2M.length z4R)],row (.slice z4O z2L.length z4P) 5 1 (z2L.flatMap e5),row (.slice z4Q z2M.length z4R) 5 1 (z2M.flatMap e5)]:=by
 unfold y1X at h
 refine Calls.y8 (vs:=[(.pointer (some ⟨z7S,0,none⟩))]) (pre:=[stb z7S 65 [(.int .i64 zU.fPc),(.int .i64 zU.fLeft),(.int .u8 zU.fRegs.a0),(.int .u8 zU.fRegs.a1),(.int .u8 zU.fRegs.a2),(.int .u8 zU.fRegs.a3),(.int .u8 z1a.fOp),(.int .i64 z1a.fA),(.int .i64 z1a.fB),(.int .i64 z1a.fC),(.slice z4O z2L.length z4P),(.int .u8 z6l),(.int .i64 z6m),(.int .i64 z6n),(.slice z4Q z2M.length z4R)],row (.slice z4O z2L.length z4P) 5 1 (z2L.flatMap e5),row (.slice z4Q z2M.length z4R) 5 1 (z2M.flatMap e5)]) (env:=[(0,(.pointer (some ⟨z7S,0,none⟩)))]) Tryd.func104 rfl Tryd.ntmps104 rfl (hown) rfl ?_
 refine WC.b ?_
 obtain ⟨zuZ,zv1,h⟩:=zd h
 obtain ⟨zv2,h⟩:=ya h
 obtain ⟨zv0,zv3,h⟩:=zd h
 obtain ⟨zv4,h⟩:=ya h
 refine WC.yX (fun i=>[6,15].contains i) [stb z7S 65 [(.int .i64 zU.fPc),(.int .i64 zU.fLeft),(.int .u8 zU.fRegs.a0),(.int .u8 zU.fRegs.a1),(.int .u8 zU.fRegs.a2),(.int .u8 zU.fRegs.a3),(.int .u8 z1a.fOp),(.int .i64 z1a.fA),(.int .i64 z1a.fB),(.int .i64 z1a.fC),(.slice z4O z2L.length z4P),(.int .u8 z6l),(.int .i64 z6m),(.int .i64 z6n),(.slice z4Q z2M.length z4R)]] rfl ?_
 refine WD.a (i:=0) (d:=2) (by kernel_rfl) rfl z2 z6 rfl rfl rfl (fun _=>q_m rfl) ?_
 refine WD.a (i:=1) (d:=3) (by kernel_rfl) rfl z2 z6 rfl rfl rfl (fun _=>q_m rfl) ?_
 refine WD.a (i:=2) (d:=4) (by kernel_rfl) rfl z2 z6 rfl rfl rfl (fun _=>y6 rfl) ?_
 refine WD.a (i:=3) (d:=5) (by kernel_rfl) rfl z2 z6 rfl rfl rfl (fun _=>y4 yo rfl rfl) ?_
 refine WD.a (i:=4) (d:=6) (by kernel_rfl) rfl z2 z6 rfl rfl rfl (fun _=>y4 yS rfl rfl) ?_
 refine WD.e (i:=5) (d:=7) (by kernel_rfl) rfl z2 z6 rfl rfl rfl (y5 yd rfl (yb .here rfl)) ?_
 refine WD.a (i:=9) (d:=11) (by kernel_rfl) rfl z2 z6 rfl rfl rfl (fun _=>q_m rfl) ?_
 refine WD.a (i:=10) (d:=12) (by kernel_rfl) rfl z2 z6 rfl rfl rfl (fun _=>q_m rfl) ?_
 refine WD.a (i:=11) (d:=13) (by kernel_rfl) rfl z2 z6 rfl rfl rfl (fun _=>y6 rfl) ?_
 refine WD.a (i:=12) (d:=14) (by kernel_rfl) rfl z2 z6 rfl rfl rfl (fun _=>y4 yo rfl rfl) ?_
 refine WD.a (i:=13) (d:=15) (by kernel_rfl) rfl z2 z6 rfl rfl rfl (fun _=>y4 y14 rfl rfl) ?_
 refine WD.y1u (i:=14) (d:=16) (by kernel_rfl) rfl z2 z6 rfl rfl rfl (Sin.of (.cons .here .nil)) (y5 yd rfl (yb .here rfl)) ?_
 refine WD.call0 (i:=6) (dd:=8) rfl (by kernel_rfl) rfl rfl rfl (.inl ⟨rfl,(Sin.of (.cons .h2 .nil))⟩) (zl (l:=[.tmp 2,.tmp 7]) Tryd.call108 (.cons rfl (.cons rfl .nil))) (.cons .h1 (.cons .h1 .nil)) (ccl hz (.cons .h1 (.cons .h1 .nil)) (.cons .here .nil) fun w pz ho la=>Calls.mono (yr _ _ _ _ _ _ _ _ _ _ _ _ _ _ _ zv1 w pz ((la _ (.head _) _).stb) ho) (fun _ _ h'=>⟨h'.1,trivial,h'.2⟩)) ?_
 intro _
 refine WD.a (i:=7) (d:=9) (by kernel_rfl) rfl z2 z6 rfl rfl rfl (fun _=>y6 rfl) ?_
 refine WD.y1u (i:=8) (d:=10) (by kernel_rfl) rfl z2 z6 rfl rfl rfl (Sin.of (.cons .h2 .nil)) (y5 yB rfl (yZ (l:=([zU.fRegs.a0,zU.fRegs.a1,zU.fRegs.a2,zU.fRegs.a3] : List Int)) (f:=Value.int .u8) (k:=2) (m:=6) .here rfl rfl zv2)) ?_
 refine WD.call0 (i:=15) (dd:=17) rfl (by kernel_rfl) rfl rfl rfl (.inl ⟨rfl,(Sin.of (.cons .h2 .nil))⟩) (zl (l:=[.tmp 11,.tmp 16]) Tryd.call108 (.cons rfl (.cons rfl .nil))) (.cons .here (.cons .here .nil)) (ccl hz (.cons .here (.cons .here .nil)) (.cons .here .nil) fun w pz ho la=>Calls.mono (yr _ _ _ _ _ _ _ _ _ _ _ _ _ _ _ zv3 w pz ((la _ (.head _) _).stb) ho) (fun _ _ h'=>⟨h'.1,trivial,h'.2⟩)) ?_
 intro _
 refine WD.a (i:=16) (d:=18) (by kernel_rfl) rfl z2 z6 rfl rfl rfl (fun _=>y6 rfl) ?_
 refine WD.e (i:=17) (d:=19) (by kernel_rfl) rfl z2 z6 rfl rfl rfl (y5 yB rfl (yZ (l:=([zU.fRegs.a0,zU.fRegs.a1,zU.fRegs.a2,zU.fRegs.a3] : List Int)) (f:=Value.int .u8) (k:=2) (m:=6) .h2 rfl rfl zv4)) ?_
 refine WD.a (i:=18) (d:=20) (by kernel_rfl) rfl z2 z6 rfl rfl rfl (fun _=>q_lss rfl rfl) ?_
 refine WD.done (by kernel_rfl) ?_
 refine WX.a ?_
 refine WC.cond rfl (fun zh9=>?_) (fun zh9=>?_)
 ·replace h:=yl h zh9
  refine WC.a (WL.pu rfl (WL.pu rfl ?_))
  refine WL.a (d:=23) rfl rfl rfl (y6 rfl) ?_
  refine WL.a (d:=24) rfl rfl rfl (y4 yo rfl rfl) ?_
  refine WL.a (d:=25) rfl rfl rfl (y4 y3q rfl rfl) ?_
  refine WL.a (d:=26) rfl rfl rfl (y5 yd rfl (yb .h2 rfl)) ?_
  refine WL.a (d:=27) rfl rfl rfl (y6 rfl) ?_
  refine WL.a (d:=28) rfl rfl rfl (y4 yI rfl rfl) ?_
  refine WL.a (d:=29) rfl rfl rfl (y4 y1c rfl rfl) ?_
  refine WL.yg rfl rfl (yK (ds:=[(.int .i64 z1a.fC),(.int .i64 zU.fLeft),(.int .u8 zU.fRegs.a0),(.int .u8 zU.fRegs.a1),(.int .u8 zU.fRegs.a2),(.int .u8 zU.fRegs.a3),(.int .u8 z1a.fOp),(.int .i64 z1a.fA),(.int .i64 z1a.fB),(.int .i64 z1a.fC),(.slice z4O z2L.length z4P),(.int .u8 z6l),(.int .i64 z6m),(.int .i64 z6n),(.slice z4Q z2M.length z4R)]) y20 rfl rfl rfl rfl rfl .h2 rfl rfl) ?_
  refine WL.nil ?_
  obtain rfl:=Option.some.inj h
  refine WX.y9 Tryd.results104 .nil (fun w hw=>?_)
  exact ⟨yC,hw.sub (.cons .here (.cons .here (.cons .here .nil)))⟩
 ·replace h:=ym h zh9
  refine WC.skip ?_
  obtain rfl:=Option.some.inj h
  refine WX.y9 Tryd.results104 .nil (fun w hw=>?_)
  exact ⟨yC,hw.sub (.cons .h2 (.cons .here (.cons .here .nil)))⟩
def y29 (ze : Sproc_State) (zV : Sapi_Ins) (z2N : List Int) (z6o : Int) (z6p : Int) (z6q : Int) (z3a : List Int) : Option (Int × Int × Int × Int × Int × Int × Int × List Int) :=
 (yj ze zV z2N z6o z6p z6q z3a zV.fB).bind fun zv5=>chk ((0 : Int) ≤ zV.fB ∧ zV.fB < 4) (if decide ((nth ([ze.fRegs.a0,ze.fRegs.a1,ze.fRegs.a2,ze.fRegs.a3] : List Int) zV.fB) ≠ 0) then (yj ze zV z2N z6o z6p z6q z3a zV.fA).bind fun zv6=>chk ((0 : Int) ≤ zV.fA ∧ zV.fA < 4) (chk ((nth ([ze.fRegs.a0,ze.fRegs.a1,ze.fRegs.a2,ze.fRegs.a3] : List Int) zV.fB : Int) ≠ 0) (some ((nth (([ze.fRegs.a0,ze.fRegs.a1,ze.fRegs.a2,ze.fRegs.a3] : List Int).set (zV.fA : Int).toNat (u8 (Int.tdiv (nth ([ze.fRegs.a0,ze.fRegs.a1,ze.fRegs.a2,ze.fRegs.a3] : List Int) zV.fA) (nth ([ze.fRegs.a0,ze.fRegs.a1,ze.fRegs.a2,ze.fRegs.a3] : List Int) zV.fB)))) 0),(nth (([ze.fRegs.a0,ze.fRegs.a1,ze.fRegs.a2,ze.fRegs.a3] : List Int).set (zV.fA : Int).toNat (u8 (Int.tdiv (nth ([ze.fRegs.a0,ze.fRegs.a1,ze.fRegs.a2,ze.fRegs.a3] : List Int) zV.fA) (nth ([ze.fRegs.a0,ze.fRegs.a1,ze.fRegs.a2,ze.fRegs.a3] : List Int) zV.fB)))) 1),(nth (([ze.fRegs.a0,ze.fRegs.a1,ze.fRegs.a2,ze.fRegs.a3] : List Int).set (zV.fA : Int).toNat (u8 (Int.tdiv (nth ([ze.fRegs.a0,ze.fRegs.a1,ze.fRegs.a2,ze.fRegs.a3] : List Int) zV.fA) (nth ([ze.fRegs.a0,ze.fRegs.a1,ze.fRegs.a2,ze.fRegs.a3] : List Int) zV.fB)))) 2),(nth (([ze.fRegs.a0,ze.fRegs.a1,ze.fRegs.a2,ze.fRegs.a3] : List Int).set (zV.fA : Int).toNat (u8 (Int.tdiv (nth ([ze.fRegs.a0,ze.fRegs.a1,ze.fRegs.a2,ze.fRegs.a3] : List Int) zV.fA) (nth ([ze.fRegs.a0,ze.fRegs.a1,ze.fRegs.a2,ze.fRegs.a3] : List Int) zV.fB)))) 3),z6o,z6p,z6q,z3a))) else (yM ze zV z2N z6o z6p z6q z3a 4 0).bind fun zha=>some (ze.fRegs.a0,ze.fRegs.a1,ze.fRegs.a2,ze.fRegs.a3,15,zha.1,zha.2,([] : List Int)))
set_option maxRecDepth 20000 in
theorem y5k (Z : Zp) (z9z : Nat) (z5n : Option Addr) (z5o : Nat) (z6r : Option Addr) (z6s : Nat) (ze : Sproc_State) (zV : Sapi_Ins) (z2N : List Int) (z6o : Int) (z6p : Int) (z6q : Int) (z3a : List Int) (r : Int × Int × Int × Int × Int × Int × Int × List Int)
  (h : y29 ze zV z2N z6o z6p z6q z3a = some r) (w₀ : World) (hz : PZ (fps [stb z9z 65 [(.int .i64 ze.fPc),(.int .i64 ze.fLeft),(.int .u8 ze.fRegs.a0),(.int .u8 ze.fRegs.a1),(.int .u8 ze.fRegs.a2),(.int .u8 ze.fRegs.a3),(.int .u8 zV.fOp),(.int .i64 zV.fA),(.int .i64 zV.fB),(.int .i64 zV.fC),(.slice z5n z2N.length z5o),(.int .u8 z6o),(.int .i64 z6p),(.int .i64 z6q),(.slice z6r z3a.length z6s)],row (.slice z5n z2N.length z5o) 5 1 (z2N.flatMap e5),row (.slice z6r z3a.length z6s) 5 1 (z3a.flatMap e5)]) w₀ Z)
  (hown : Hp (fps [stb z9z 65 [(.int .i64 ze.fPc),(.int .i64 ze.fLeft),(.int .u8 ze.fRegs.a0),(.int .u8 ze.fRegs.a1),(.int .u8 ze.fRegs.a2),(.int .u8 ze.fRegs.a3),(.int .u8 zV.fOp),(.int .i64 zV.fA),(.int .i64 zV.fB),(.int .i64 zV.fC),(.slice z5n z2N.length z5o),(.int .u8 z6o),(.int .i64 z6p),(.int .i64 z6q),(.slice z6r z3a.length z6s)],row (.slice z5n z2N.length z5o) 5 1 (z2N.flatMap e5),row (.slice z6r z3a.length z6s) 5 1 (z3a.flatMap e5)]) w₀ w₀ [stb z9z 65 [(.int .i64 ze.fPc),(.int .i64 ze.fLeft),(.int .u8 ze.fRegs.a0),(.int .u8 ze.fRegs.a1),(.int .u8 ze.fRegs.a2),(.int .u8 ze.fRegs.a3),(.int .u8 zV.fOp),(.int .i64 zV.fA),(.int .i64 zV.fB),(.int .i64 zV.fC),(.slice z5n z2N.length z5o),(.int .u8 z6o),(.int .i64 z6p),(.int .i64 z6q),(.slice z6r z3a.length z6s)],row (.slice z5n z2N.length z5o) 5 1 (z2N.flatMap e5),row (.slice z6r z3a.length z6s) 5 1 (z3a.flatMap e5)]) :
  Calls Tryd.prog 105 #[(.pointer (some ⟨z9z,0,none⟩))] w₀ fun e w'=>∃ zkW : Option Addr,∃ zkX : Nat,e = .returned (.tuple #[]) ∧ True ∧ Hp (fps [stb z9z 65 [(.int .i64 ze.fPc),(.int .i64 ze.fLeft),(.int .u8 ze.fRegs.a0),(.int .u8 ze.fRegs.a1),(.int .u8 ze.fRegs.a2),(.int .u8 ze.fRegs.a3),(.int .u8 zV.fOp),(.int .i64 zV.fA),(.int .i64 zV.fB),(.int .i64 zV.fC),(.slice z5n z2N.length z5o),(.int .u8 z6o),(.int .i64 z6p),(.int .i64 z6q),(.slice z6r z3a.length z6s)],row (.slice z5n z2N.length z5o) 5 1 (z2N.flatMap e5),row (.slice z6r z3a.length z6s) 5 1 (z3a.flatMap e5)]) w₀ w' [stb z9z 65 [(.int .i64 ze.fPc),(.int .i64 ze.fLeft),(.int .u8 r.1),(.int .u8 r.2.1),(.int .u8 r.2.2.1),(.int .u8 r.2.2.2.1),(.int .u8 zV.fOp),(.int .i64 zV.fA),(.int .i64 zV.fB),(.int .i64 zV.fC),(.slice z5n z2N.length z5o),(.int .u8 r.2.2.2.2.1),(.int .i64 r.2.2.2.2.2.1),(.int .i64 r.2.2.2.2.2.2.1),(.slice zkW r.2.2.2.2.2.2.2.length zkX)],row (.slice z5n z2N.length z5o) 5 1 (z2N.flatMap e5),row (.slice zkW r.2.2.2.2.2.2.2.length zkX) 5 1 (r.2.2.2.2.2.2.2.flatMap e5)]:=by
 unfold y29 at h
 refine Calls.y8 (vs:=[(.pointer (some ⟨z9z,0,none⟩))]) (pre:=[stb z9z 65 [(.int .i64 ze.fPc),(.int .i64 ze.fLeft),(.int .u8 ze.fRegs.a0),(.int .u8 ze.fRegs.a1),(.int .u8 ze.fRegs.a2),(.int .u8 ze.fRegs.a3),(.int .u8 zV.fOp),(.int .i64 zV.fA),(.int .i64 zV.fB),(.int .i64 zV.fC),(.slice z5n z2N.length z5o),(.int .u8 z6o),(.int .i64 z6p),(.int .i64 z6q),(.slice z6r z3a.length z6s)],row (.slice z5n z2N.length z5o) 5 1 (z2N.flatMap e5),row (.slice z6r z3a.length z6s) 5 1 (z3a.flatMap e5)]) (env:=[(0,(.pointer (some ⟨z9z,0,none⟩)))]) Tryd.func105 rfl Tryd.ntmps105 rfl (hown) rfl ?_
 refine WC.b ?_
 obtain ⟨zv5,zv7,h⟩:=zd h
 obtain ⟨zv8,h⟩:=ya h
 refine WC.a (WL.pu rfl (WL.pu rfl ?_))
 refine WL.a (d:=5) rfl rfl rfl (y6 rfl) ?_
 refine WL.a (d:=6) rfl rfl rfl (y4 yo rfl rfl) ?_
 refine WL.a (d:=7) rfl rfl rfl (y4 y14 rfl rfl) ?_
 refine WL.a (d:=8) rfl rfl rfl (y5 yd rfl (yb .here rfl)) ?_
 refine WL.b (dd:=9) rfl rfl rfl (zl (l:=[.tmp 3,.tmp 8]) Tryd.call108 (.cons rfl (.cons rfl .nil))) (.cons .h1 (.cons .h1 .nil)) (ccl hz (.cons .h1 (.cons .h1 .nil)) (.cons .here .nil) fun w pz ho la=>yr _ _ _ _ _ _ _ _ _ _ _ _ _ _ _ zv7 w pz ((la _ (.head _) _).stb) ho) ?_
 refine WL.a (d:=10) rfl rfl rfl (y6 rfl) ?_
 refine WL.a (d:=11) rfl rfl rfl (y5 yB rfl (yZ (l:=([ze.fRegs.a0,ze.fRegs.a1,ze.fRegs.a2,ze.fRegs.a3] : List Int)) (f:=Value.int .u8) (k:=2) (m:=6) .h2 rfl rfl zv8)) ?_
 refine WL.pu rfl (WL.nil (WX.a (WC.b (WC.a (WL.pu rfl (WL.pu rfl (WL.nil (WX.a ?_))))))))
 refine WC.cond rfl (fun zhb=>?_) (fun zhb=>?_)
 ·replace h:=yl h zhb
  obtain ⟨zv6,zv9,h⟩:=zd h
  obtain ⟨zkY,h⟩:=ya h
  obtain ⟨zva,h⟩:=ya h
  refine WC.a (WL.pu rfl (WL.pu rfl ?_))
  refine WL.a (d:=16) rfl rfl rfl (y6 rfl) ?_
  refine WL.a (d:=17) rfl rfl rfl (y4 yo rfl rfl) ?_
  refine WL.a (d:=18) rfl rfl rfl (y4 yS rfl rfl) ?_
  refine WL.a (d:=19) rfl rfl rfl (y5 yd rfl (yb .h2 rfl)) ?_
  refine WL.b (dd:=20) rfl rfl rfl (zl (l:=[.tmp 14,.tmp 19]) Tryd.call108 (.cons rfl (.cons rfl .nil))) (.cons .here (.cons .here .nil)) (ccl hz (.cons .here (.cons .here .nil)) (.cons .here .nil) fun w pz ho la=>yr _ _ _ _ _ _ _ _ _ _ _ _ _ _ _ zv9 w pz ((la _ (.head _) _).stb) ho) ?_
  refine WL.a (d:=21) rfl rfl rfl (y6 rfl) ?_
  refine WL.a (d:=22) rfl rfl rfl (y5 yB rfl (yZ (l:=([ze.fRegs.a0,ze.fRegs.a1,ze.fRegs.a2,ze.fRegs.a3] : List Int)) (f:=Value.int .u8) (k:=2) (m:=6) .h2 rfl rfl zkY)) ?_
  refine WL.pu rfl ?_
  refine WL.a (d:=24) rfl rfl rfl (q_quo rfl rfl zva rfl) ?_
  refine WL.a (d:=25) rfl rfl rfl (y6 rfl) ?_
  refine WL.yg rfl rfl (y1m (l:=([ze.fRegs.a0,ze.fRegs.a1,ze.fRegs.a2,ze.fRegs.a3] : List Int)) (f:=Value.int .u8) (u:=u8 (Int.tdiv (nth ([ze.fRegs.a0,ze.fRegs.a1,ze.fRegs.a2,ze.fRegs.a3] : List Int) zV.fA) (nth ([ze.fRegs.a0,ze.fRegs.a1,ze.fRegs.a2,ze.fRegs.a3] : List Int) zV.fB))) (k:=2) (m:=6) (j:=4) (ds:=[(.int .i64 ze.fPc),(.int .i64 ze.fLeft),(.int .u8 (nth (([ze.fRegs.a0,ze.fRegs.a1,ze.fRegs.a2,ze.fRegs.a3] : List Int).set (zV.fA : Int).toNat (u8 (Int.tdiv (nth ([ze.fRegs.a0,ze.fRegs.a1,ze.fRegs.a2,ze.fRegs.a3] : List Int) zV.fA) (nth ([ze.fRegs.a0,ze.fRegs.a1,ze.fRegs.a2,ze.fRegs.a3] : List Int) zV.fB)))) 0)),(.int .u8 (nth (([ze.fRegs.a0,ze.fRegs.a1,ze.fRegs.a2,ze.fRegs.a3] : List Int).set (zV.fA : Int).toNat (u8 (Int.tdiv (nth ([ze.fRegs.a0,ze.fRegs.a1,ze.fRegs.a2,ze.fRegs.a3] : List Int) zV.fA) (nth ([ze.fRegs.a0,ze.fRegs.a1,ze.fRegs.a2,ze.fRegs.a3] : List Int) zV.fB)))) 1)),(.int .u8 (nth (([ze.fRegs.a0,ze.fRegs.a1,ze.fRegs.a2,ze.fRegs.a3] : List Int).set (zV.fA : Int).toNat (u8 (Int.tdiv (nth ([ze.fRegs.a0,ze.fRegs.a1,ze.fRegs.a2,ze.fRegs.a3] : List Int) zV.fA) (nth ([ze.fRegs.a0,ze.fRegs.a1,ze.fRegs.a2,ze.fRegs.a3] : List Int) zV.fB)))) 2)),(.int .u8 (nth (([ze.fRegs.a0,ze.fRegs.a1,ze.fRegs.a2,ze.fRegs.a3] : List Int).set (zV.fA : Int).toNat (u8 (Int.tdiv (nth ([ze.fRegs.a0,ze.fRegs.a1,ze.fRegs.a2,ze.fRegs.a3] : List Int) zV.fA) (nth ([ze.fRegs.a0,ze.fRegs.a1,ze.fRegs.a2,ze.fRegs.a3] : List Int) zV.fB)))) 3)),(.int .u8 zV.fOp),(.int .i64 zV.fA),(.int .i64 zV.fB),(.int .i64 zV.fC),(.slice z5n z2N.length z5o),(.int .u8 z6o),(.int .i64 z6p),(.int .i64 z6q),(.slice z6r z3a.length z6s)]) y2h rfl rfl rfl rfl .h2 rfl rfl zkY rfl rfl) ?_
  refine WL.nil ?_
  obtain rfl:=Option.some.inj h
  refine WX.y9 Tryd.results105 .nil (fun w hw=>?_)
  exact ⟨z6r,z6s,yC,trivial,hw.sub (.cons .here (.cons .here (.cons .here .nil)))⟩
 ·replace h:=ym h zhb
  obtain ⟨zha,zvb,h⟩:=zd h
  refine WC.a (WL.pu rfl ?_)
  refine WL.b (dd:=27) rfl rfl rfl (zl (l:=[.tmp 26,.const (.int .u8 4),.const (.int .i64 0)]) Tryd.call112 (.cons rfl (.cons rfl (.cons rfl .nil)))) (.cons .h2 (.cons .here (.cons .here .nil))) (cc hz (.cons .h2 (.cons .here (.cons .here .nil))) fun w pz ho=>y2B _ _ _ _ _ _ _ _ _ _ _ _ _ _ _ _ zvb w pz  ho) ?_
  refine WL.nil ?_
  refine WX.nilRow 5 1 ?_
  obtain rfl:=Option.some.inj h
  refine WX.y9 Tryd.results105 .nil (fun w hw=>?_)
  exact ⟨none,0,yC,trivial,hw.sub (.cons .h1 (.cons .h1 (.cons .here .nil)))⟩
def y1H (z1v : Sproc_State) (z2l : Sapi_Ins) (z3z : List Int) (zbb : Int) (zbc : Int) (zbd : Int) (z3T : List Int) : Option (Int × Int) :=
 (yM z1v z2l z3z zbb zbc zbd z3T 3 z2l.fA).bind fun zhc=>some (zhc.1,zhc.2)
set_option maxRecDepth 20000 in
theorem y4t (Z : Zp) (z9A : Nat) (z6t : Option Addr) (z6u : Nat) (z7f : Option Addr) (z7g : Nat) (z1v : Sproc_State) (z2l : Sapi_Ins) (z3z : List Int) (zbb : Int) (zbc : Int) (zbd : Int) (z3T : List Int) (r : Int × Int)
  (h : y1H z1v z2l z3z zbb zbc zbd z3T = some r) (w₀ : World) (hz : PZ (fps [stb z9A 65 [(.int .i64 z1v.fPc),(.int .i64 z1v.fLeft),(.int .u8 z1v.fRegs.a0),(.int .u8 z1v.fRegs.a1),(.int .u8 z1v.fRegs.a2),(.int .u8 z1v.fRegs.a3),(.int .u8 z2l.fOp),(.int .i64 z2l.fA),(.int .i64 z2l.fB),(.int .i64 z2l.fC),(.slice z6t z3z.length z6u),(.int .u8 zbb),(.int .i64 zbc),(.int .i64 zbd),(.slice z7f z3T.length z7g)],row (.slice z6t z3z.length z6u) 5 1 (z3z.flatMap e5),row (.slice z7f z3T.length z7g) 5 1 (z3T.flatMap e5)]) w₀ Z)
  (hown : Hp (fps [stb z9A 65 [(.int .i64 z1v.fPc),(.int .i64 z1v.fLeft),(.int .u8 z1v.fRegs.a0),(.int .u8 z1v.fRegs.a1),(.int .u8 z1v.fRegs.a2),(.int .u8 z1v.fRegs.a3),(.int .u8 z2l.fOp),(.int .i64 z2l.fA),(.int .i64 z2l.fB),(.int .i64 z2l.fC),(.slice z6t z3z.length z6u),(.int .u8 zbb),(.int .i64 zbc),(.int .i64 zbd),(.slice z7f z3T.length z7g)],row (.slice z6t z3z.length z6u) 5 1 (z3z.flatMap e5),row (.slice z7f z3T.length z7g) 5 1 (z3T.flatMap e5)]) w₀ w₀ [stb z9A 65 [(.int .i64 z1v.fPc),(.int .i64 z1v.fLeft),(.int .u8 z1v.fRegs.a0),(.int .u8 z1v.fRegs.a1),(.int .u8 z1v.fRegs.a2),(.int .u8 z1v.fRegs.a3),(.int .u8 z2l.fOp),(.int .i64 z2l.fA),(.int .i64 z2l.fB),(.int .i64 z2l.fC),(.slice z6t z3z.length z6u),(.int .u8 zbb),(.int .i64 zbc),(.int .i64 zbd),(.slice z7f z3T.length z7g)],row (.slice z6t z3z.length z6u) 5 1 (z3z.flatMap e5),row (.slice z7f z3T.length z7g) 5 1 (z3T.flatMap e5)]) :
  Calls Tryd.prog 106 #[(.pointer (some ⟨z9A,0,none⟩))] w₀ fun e w'=>e = .returned (.tuple #[]) ∧ Hp (fps [stb z9A 65 [(.int .i64 z1v.fPc),(.int .i64 z1v.fLeft),(.int .u8 z1v.fRegs.a0),(.int .u8 z1v.fRegs.a1),(.int .u8 z1v.fRegs.a2),(.int .u8 z1v.fRegs.a3),(.int .u8 z2l.fOp),(.int .i64 z2l.fA),(.int .i64 z2l.fB),(.int .i64 z2l.fC),(.slice z6t z3z.length z6u),(.int .u8 zbb),(.int .i64 zbc),(.int .i64 zbd),(.slice z7f z3T.length z7g)],row (.slice z6t z3z.length z6u) 5 1 (z3z.flatMap e5),row (.slice z7f z3T.length z7g) 5 1 (z3T.flatMap e5)]) w₀ w' [stb z9A 65 [(.int .i64 z1v.fPc),(.int .i64 z1v.fLeft),(.int .u8 z1v.fRegs.a0),(.int .u8 z1v.fRegs.a1),(.int .u8 z1v.fRegs.a2),(.int .u8 z1v.fRegs.a3),(.int .u8 z2l.fOp),(.int .i64 z2l.fA),(.int .i64 z2l.fB),(.int .i64 z2l.fC),(.slice z6t z3z.length z6u),(.int .u8 15),(.int .i64 r.1),(.int .i64 r.2),(.slice none 0 0)],row (.slice z6t z3z.length z6u) 5 1 (z3z.flatMap e5),row (.slice z7f z3T.length z7g) 5 1 (z3T.flatMap e5)]:=by
 unfold y1H at h
 refine Calls.y8 (vs:=[(.pointer (some ⟨z9A,0,none⟩))]) (pre:=[stb z9A 65 [(.int .i64 z1v.fPc),(.int .i64 z1v.fLeft),(.int .u8 z1v.fRegs.a0),(.int .u8 z1v.fRegs.a1),(.int .u8 z1v.fRegs.a2),(.int .u8 z1v.fRegs.a3),(.int .u8 z2l.fOp),(.int .i64 z2l.fA),(.int .i64 z2l.fB),(.int .i64 z2l.fC),(.slice z6t z3z.length z6u),(.int .u8 zbb),(.int .i64 zbc),(.int .i64 zbd),(.slice z7f z3T.length z7g)],row (.slice z6t z3z.length z6u) 5 1 (z3z.flatMap e5),row (.slice z7f z3T.length z7g) 5 1 (z3T.flatMap e5)]) (env:=[(0,(.pointer (some ⟨z9A,0,none⟩)))]) Tryd.func106 rfl Tryd.ntmps106 rfl (hown) rfl ?_
 obtain ⟨zhc,zvc,h⟩:=zd h
 refine WC.a (WL.pu rfl (WL.pu rfl ?_))
 refine WL.a (d:=4) rfl rfl rfl (y6 rfl) ?_
 refine WL.a (d:=5) rfl rfl rfl (y4 yo rfl rfl) ?_
 refine WL.a (d:=6) rfl rfl rfl (y4 yS rfl rfl) ?_
 refine WL.a (d:=7) rfl rfl rfl (y5 yd rfl (yb .here rfl)) ?_
 refine WL.b (dd:=8) rfl rfl rfl (zl (l:=[.tmp 2,.const (.int .u8 3),.tmp 7]) Tryd.call112 (.cons rfl (.cons rfl (.cons rfl .nil)))) (.cons .here (.cons .here (.cons .here .nil))) (cc hz (.cons .here (.cons .here (.cons .here .nil))) fun w pz ho=>y2B _ _ _ _ _ _ _ _ _ _ _ _ _ _ _ _ zvc w pz  ho) ?_
 refine WL.nil ?_
 obtain rfl:=Option.some.inj h
 refine WX.y9 Tryd.results106 .nil (fun w hw=>?_)
 exact ⟨yC,hw.sub (.cons .here (.cons .here (.cons .here .nil)))⟩
def y1Y (z16 : Sproc_State) (z1G : Sapi_Ins) (z3b : List Int) (zbe : Int) (zbf : Int) (zbg : Int) (z3U : List Int) : Option Int :=
 some (i64 (z16.fPc - 1))
set_option maxRecDepth 20000 in
theorem y4U (Z : Zp) (z9B : Nat) (z4S : Option Addr) (z4T : Nat) (z6v : Option Addr) (z6w : Nat) (z16 : Sproc_State) (z1G : Sapi_Ins) (z3b : List Int) (zbe : Int) (zbf : Int) (zbg : Int) (z3U : List Int) (r : Int)
  (h : y1Y z16 z1G z3b zbe zbf zbg z3U = some r) (w₀ : World) (hz : PZ (fps [stb z9B 65 [(.int .i64 z16.fPc),(.int .i64 z16.fLeft),(.int .u8 z16.fRegs.a0),(.int .u8 z16.fRegs.a1),(.int .u8 z16.fRegs.a2),(.int .u8 z16.fRegs.a3),(.int .u8 z1G.fOp),(.int .i64 z1G.fA),(.int .i64 z1G.fB),(.int .i64 z1G.fC),(.slice z4S z3b.length z4T),(.int .u8 zbe),(.int .i64 zbf),(.int .i64 zbg),(.slice z6v z3U.length z6w)],row (.slice z4S z3b.length z4T) 5 1 (z3b.flatMap e5),row (.slice z6v z3U.length z6w) 5 1 (z3U.flatMap e5)]) w₀ Z)
  (hown : Hp (fps [stb z9B 65 [(.int .i64 z16.fPc),(.int .i64 z16.fLeft),(.int .u8 z16.fRegs.a0),(.int .u8 z16.fRegs.a1),(.int .u8 z16.fRegs.a2),(.int .u8 z16.fRegs.a3),(.int .u8 z1G.fOp),(.int .i64 z1G.fA),(.int .i64 z1G.fB),(.int .i64 z1G.fC),(.slice z4S z3b.length z4T),(.int .u8 zbe),(.int .i64 zbf),(.int .i64 zbg),(.slice z6v z3U.length z6w)],row (.slice z4S z3b.length z4T) 5 1 (z3b.flatMap e5),row (.slice z6v z3U.length z6w) 5 1 (z3U.flatMap e5)]) w₀ w₀ [stb z9B 65 [(.int .i64 z16.fPc),(.int .i64 z16.fLeft),(.int .u8 z16.fRegs.a0),(.int .u8 z16.fRegs.a1),(.int .u8 z16.fRegs.a2),(.int .u8 z16.fRegs.a3),(.int .u8 z1G.fOp),(.int .i64 z1G.fA),(.int .i64 z1G.fB),(.int .i64 z1G.fC),(.slice z4S z3b.length z4T),(.int .u8 zbe),(.int .i64 zbf),(.int .i64 zbg),(.slice z6v z3U.length z6w)],row (.slice z4S z3b.length z4T) 5 1 (z3b.flatMap e5),row (.slice z6v z3U.length z6w) 5 1 (z3U.flatMap e5)]) :
  Calls Tryd.prog 107 #[(.pointer (some ⟨z9B,0,none⟩))] w₀ fun e w'=>e = .returned (.tuple #[]) ∧ Hp (fps [stb z9B 65 [(.int .i64 z16.fPc),(.int .i64 z16.fLeft),(.int .u8 z16.fRegs.a0),(.int .u8 z16.fRegs.a1),(.int .u8 z16.fRegs.a2),(.int .u8 z16.fRegs.a3),(.int .u8 z1G.fOp),(.int .i64 z1G.fA),(.int .i64 z1G.fB),(.int .i64 z1G.fC),(.slice z4S z3b.length z4T),(.int .u8 zbe),(.int .i64 zbf),(.int .i64 zbg),(.slice z6v z3U.length z6w)],row (.slice z4S z3b.length z4T) 5 1 (z3b.flatMap e5),row (.slice z6v z3U.length z6w) 5 1 (z3U.flatMap e5)]) w₀ w' [stb z9B 65 [(.int .i64 r),(.int .i64 z16.fLeft),(.int .u8 z16.fRegs.a0),(.int .u8 z16.fRegs.a1),(.int .u8 z16.fRegs.a2),(.int .u8 z16.fRegs.a3),(.int .u8 z1G.fOp),(.int .i64 z1G.fA),(.int .i64 z1G.fB),(.int .i64 z1G.fC),(.slice z4S z3b.length z4T),(.int .u8 16),(.int .i64 0),(.int .i64 0),(.slice none 0 0)],row (.slice z4S z3b.length z4T) 5 1 (z3b.flatMap e5),row (.slice z6v z3U.length z6w) 5 1 (z3U.flatMap e5)]:=by
 unfold y1Y at h
 refine Calls.y8 (vs:=[(.pointer (some ⟨z9B,0,none⟩))]) (pre:=[stb z9B 65 [(.int .i64 z16.fPc),(.int .i64 z16.fLeft),(.int .u8 z16.fRegs.a0),(.int .u8 z16.fRegs.a1),(.int .u8 z16.fRegs.a2),(.int .u8 z16.fRegs.a3),(.int .u8 z1G.fOp),(.int .i64 z1G.fA),(.int .i64 z1G.fB),(.int .i64 z1G.fC),(.slice z4S z3b.length z4T),(.int .u8 zbe),(.int .i64 zbf),(.int .i64 zbg),(.slice z6v z3U.length z6w)],row (.slice z4S z3b.length z4T) 5 1 (z3b.flatMap e5),row (.slice z6v z3U.length z6w) 5 1 (z3U.flatMap e5)]) (env:=[(0,(.pointer (some ⟨z9B,0,none⟩)))]) Tryd.func107 rfl Tryd.ntmps107 rfl (hown) rfl ?_
 refine WC.b (WC.a (WL.pu rfl ?_))
 refine WL.a (d:=3) rfl rfl rfl (y6 rfl) ?_
 refine WL.a (d:=4) rfl rfl rfl (y4 yI rfl rfl) ?_
 refine WL.a (d:=5) rfl rfl rfl (y4 y1c rfl rfl) ?_
 refine WL.a (d:=6) rfl rfl rfl (y5 yd rfl (yb .here rfl)) ?_
 refine WL.pu rfl ?_
 refine WL.a (d:=8) rfl rfl rfl (y6 rfl) ?_
 refine WL.a (d:=9) rfl rfl rfl (y4 yI rfl rfl) ?_
 refine WL.a (d:=10) rfl rfl rfl (y4 y1c rfl rfl) ?_
 refine WL.yg rfl rfl (yK (ds:=[(.int .i64 (i64 (z16.fPc - 1))),(.int .i64 z16.fLeft),(.int .u8 z16.fRegs.a0),(.int .u8 z16.fRegs.a1),(.int .u8 z16.fRegs.a2),(.int .u8 z16.fRegs.a3),(.int .u8 z1G.fOp),(.int .i64 z1G.fA),(.int .i64 z1G.fB),(.int .i64 z1G.fC),(.slice z4S z3b.length z4T),(.int .u8 zbe),(.int .i64 zbf),(.int .i64 zbg),(.slice z6v z3U.length z6w)]) y20 rfl rfl rfl rfl rfl .here rfl rfl) ?_
 refine WL.nil (WX.a (WC.a (WL.pu rfl ?_)))
 refine WL.a (d:=12) rfl rfl rfl (yR (v:=(.agg #[(.int .u8 16),(.int .i64 0),(.int .i64 0),(.slice none 0 0)])) (Eos.parts (l:=[.const (.int .u8 16)]) (.cons rfl .nil) [0]) (fun _=>by kernel_rfl)) ?_
 refine WL.a (d:=13) rfl rfl rfl (y6 rfl) ?_
 refine WL.a (d:=14) rfl rfl rfl (y4 y2e rfl rfl) ?_
 refine WL.yg rfl rfl (yK (ds:=[(.int .i64 (i64 (z16.fPc - 1))),(.int .i64 z16.fLeft),(.int .u8 z16.fRegs.a0),(.int .u8 z16.fRegs.a1),(.int .u8 z16.fRegs.a2),(.int .u8 z16.fRegs.a3),(.int .u8 z1G.fOp),(.int .i64 z1G.fA),(.int .i64 z1G.fB),(.int .i64 z1G.fC),(.slice z4S z3b.length z4T),(.int .u8 16),(.int .i64 0),(.int .i64 0),(.slice none 0 0)]) y1g rfl rfl rfl rfl rfl .here rfl rfl) ?_
 refine WL.nil ?_
 obtain rfl:=Option.some.inj h
 refine WX.y9 Tryd.results107 .nil (fun w hw=>?_)
 exact ⟨yC,hw.sub (.cons .here (.cons .here (.cons .here .nil)))⟩
def y3i (zca : List Sapi_Ins) (z1 : Sproc_State) (z17 : List Int) : Option (Sproc_State × Sproc_Act) :=
 (y2U zca z1.fPc).bind fun z12=>if !z12.2 then some (z1,(⟨15,5,0,([] : List Int)⟩ : Sproc_Act)) else jp10 (fun (z7T : Int) (z7U : Int) (z7V : Int) (z7W : Int) (z7X : Int) (z7Y : Int) (z7Z : Int) (z80 : Int) (z81 : Int) (z6x : List Int)=>some ((⟨z7T,z7U,(⟨z7V,z7W,z7X,z7Y⟩ : S34)⟩ : Sproc_State),(⟨z7Z,z80,z81,z6x⟩ : Sproc_Act))) fun z2y=>chk ((0 : Int) ≤ z12.1.fOp ∧ z12.1.fOp < 26) (sw [(1,(y1N (⟨i64 (z1.fPc + 1),z1.fLeft,z1.fRegs⟩ : Sproc_State) z12.1 z17 0 0 0 ([] : List Int)).bind fun zeb=>z2y zeb.1 zeb.2 ((⟨i64 (z1.fPc + 1),z1.fLeft,z1.fRegs⟩ : Sproc_State).fRegs.a0) ((⟨i64 (z1.fPc + 1),z1.fLeft,z1.fRegs⟩ : Sproc_State).fRegs.a1) ((⟨i64 (z1.fPc + 1),z1.fLeft,z1.fRegs⟩ : Sproc_State).fRegs.a2) ((⟨i64 (z1.fPc + 1),z1.fLeft,z1.fRegs⟩ : Sproc_State).fRegs.a3) 0 0 0 ([] : List Int)),(2,(y24 (⟨i64 (z1.fPc + 1),z1.fLeft,z1.fRegs⟩ : Sproc_State) z12.1 z17 0 0 0 ([] : List Int)).bind fun z9C=>z2y ((⟨i64 (z1.fPc + 1),z1.fLeft,z1.fRegs⟩ : Sproc_State).fPc) ((⟨i64 (z1.fPc + 1),z1.fLeft,z1.fRegs⟩ : Sproc_State).fLeft) z9C.1 z9C.2.1 z9C.2.2.1 z9C.2.2.2 0 0 0 ([] : List Int)),(3,(y25 (⟨i64 (z1.fPc + 1),z1.fLeft,z1.fRegs⟩ : Sproc_State) z12.1 z17 0 0 0 ([] : List Int)).bind fun z9D=>z2y ((⟨i64 (z1.fPc + 1),z1.fLeft,z1.fRegs⟩ : Sproc_State).fPc) ((⟨i64 (z1.fPc + 1),z1.fLeft,z1.fRegs⟩ : Sproc_State).fLeft) z9D.1 z9D.2.1 z9D.2.2.1 z9D.2.2.2 0 0 0 ([] : List Int)),(4,(y26 (⟨i64 (z1.fPc + 1),z1.fLeft,z1.fRegs⟩ : Sproc_State) z12.1 z17 0 0 0 ([] : List Int)).bind fun z9E=>z2y ((⟨i64 (z1.fPc + 1),z1.fLeft,z1.fRegs⟩ : Sproc_State).fPc) ((⟨i64 (z1.fPc + 1),z1.fLeft,z1.fRegs⟩ : Sproc_State).fLeft) z9E.1 z9E.2.1 z9E.2.2.1 z9E.2.2.2 0 0 0 ([] : List Int)),(5,(y1O (⟨i64 (z1.fPc + 1),z1.fLeft,z1.fRegs⟩ : Sproc_State) z12.1 z17 0 0 0 ([] : List Int)).bind fun z4l=>z2y ((⟨i64 (z1.fPc + 1),z1.fLeft,z1.fRegs⟩ : Sproc_State).fPc) ((⟨i64 (z1.fPc + 1),z1.fLeft,z1.fRegs⟩ : Sproc_State).fLeft) z4l.1 z4l.2.1 z4l.2.2.1 z4l.2.2.2.1 z4l.2.2.2.2.1 z4l.2.2.2.2.2.1 z4l.2.2.2.2.2.2.1 z4l.2.2.2.2.2.2.2),(6,(y1C (⟨i64 (z1.fPc + 1),z1.fLeft,z1.fRegs⟩ : Sproc_State) z12.1 z17 0 0 0 ([] : List Int)).bind fun z9F=>z2y ((⟨i64 (z1.fPc + 1),z1.fLeft,z1.fRegs⟩ : Sproc_State).fPc) ((⟨i64 (z1.fPc + 1),z1.fLeft,z1.fRegs⟩ : Sproc_State).fLeft) ((⟨i64 (z1.fPc + 1),z1.fLeft,z1.fRegs⟩ : Sproc_State).fRegs.a0) ((⟨i64 (z1.fPc + 1),z1.fLeft,z1.fRegs⟩ : Sproc_State).fRegs.a1) ((⟨i64 (z1.fPc + 1),z1.fLeft,z1.fRegs⟩ : Sproc_State).fRegs.a2) ((⟨i64 (z1.fPc + 1),z1.fLeft,z1.fRegs⟩ : Sproc_State).fRegs.a3) z9F.1 z9F.2.1 z9F.2.2.1 z9F.2.2.2),(7,(y1P (⟨i64 (z1.fPc + 1),z1.fLeft,z1.fRegs⟩ : Sproc_State) z12.1 z17 0 0 0 ([] : List Int)).bind fun zcb=>z2y ((⟨i64 (z1.fPc + 1),z1.fLeft,z1.fRegs⟩ : Sproc_State).fPc) ((⟨i64 (z1.fPc + 1),z1.fLeft,z1.fRegs⟩ : Sproc_State).fLeft) ((⟨i64 (z1.fPc + 1),z1.fLeft,z1.fRegs⟩ : Sproc_State).fRegs.a0) ((⟨i64 (z1.fPc + 1),z1.fLeft,z1.fRegs⟩ : Sproc_State).fRegs.a1) ((⟨i64 (z1.fPc + 1),z1.fLeft,z1.fRegs⟩ : Sproc_State).fRegs.a2) ((⟨i64 (z1.fPc + 1),z1.fLeft,z1.fRegs⟩ : Sproc_State).fRegs.a3) zcb.1 zcb.2.1 0 zcb.2.2),(8,(y1Q (⟨i64 (z1.fPc + 1),z1.fLeft,z1.fRegs⟩ : Sproc_State) z12.1 z17 0 0 0 ([] : List Int)).bind fun zec=>z2y ((⟨i64 (z1.fPc + 1),z1.fLeft,z1.fRegs⟩ : Sproc_State).fPc) ((⟨i64 (z1.fPc + 1),z1.fLeft,z1.fRegs⟩ : Sproc_State).fLeft) ((⟨i64 (z1.fPc + 1),z1.fLeft,z1.fRegs⟩ : Sproc_State).fRegs.a0) ((⟨i64 (z1.fPc + 1),z1.fLeft,z1.fRegs⟩ : Sproc_State).fRegs.a1) ((⟨i64 (z1.fPc + 1),z1.fLeft,z1.fRegs⟩ : Sproc_State).fRegs.a2) ((⟨i64 (z1.fPc + 1),z1.fLeft,z1.fRegs⟩ : Sproc_State).fRegs.a3) zec.1 zec.2 0 ([] : List Int)),(9,(y1R (⟨i64 (z1.fPc + 1),z1.fLeft,z1.fRegs⟩ : Sproc_State) z12.1 z17 0 0 0 ([] : List Int)).bind fun zed=>z2y ((⟨i64 (z1.fPc + 1),z1.fLeft,z1.fRegs⟩ : Sproc_State).fPc) ((⟨i64 (z1.fPc + 1),z1.fLeft,z1.fRegs⟩ : Sproc_State).fLeft) ((⟨i64 (z1.fPc + 1),z1.fLeft,z1.fRegs⟩ : Sproc_State).fRegs.a0) ((⟨i64 (z1.fPc + 1),z1.fLeft,z1.fRegs⟩ : Sproc_State).fRegs.a1) ((⟨i64 (z1.fPc + 1),z1.fLeft,z1.fRegs⟩ : Sproc_State).fRegs.a2) ((⟨i64 (z1.fPc + 1),z1.fLeft,z1.fRegs⟩ : Sproc_State).fRegs.a3) zed.1 zed.2 0 ([] : List Int)),(10,(y1B (⟨i64 (z1.fPc + 1),z1.fLeft,z1.fRegs⟩ : Sproc_State) z12.1 z17 0 0 0 ([] : List Int)).bind fun zee=>z2y ((⟨i64 (z1.fPc + 1),z1.fLeft,z1.fRegs⟩ : Sproc_State).fPc) ((⟨i64 (z1.fPc + 1),z1.fLeft,z1.fRegs⟩ : Sproc_State).fLeft) ((⟨i64 (z1.fPc + 1),z1.fLeft,z1.fRegs⟩ : Sproc_State).fRegs.a0) ((⟨i64 (z1.fPc + 1),z1.fLeft,z1.fRegs⟩ : Sproc_State).fRegs.a1) ((⟨i64 (z1.fPc + 1),z1.fLeft,z1.fRegs⟩ : Sproc_State).fRegs.a2) ((⟨i64 (z1.fPc + 1),z1.fLeft,z1.fRegs⟩ : Sproc_State).fRegs.a3) zee.1 zee.2 0 ([] : List Int)),(11,(y1D (⟨i64 (z1.fPc + 1),z1.fLeft,z1.fRegs⟩ : Sproc_State) z12.1 z17 0 0 0 ([] : List Int)).bind fun zef=>z2y ((⟨i64 (z1.fPc + 1),z1.fLeft,z1.fRegs⟩ : Sproc_State).fPc) ((⟨i64 (z1.fPc + 1),z1.fLeft,z1.fRegs⟩ : Sproc_State).fLeft) ((⟨i64 (z1.fPc + 1),z1.fLeft,z1.fRegs⟩ : Sproc_State).fRegs.a0) ((⟨i64 (z1.fPc + 1),z1.fLeft,z1.fRegs⟩ : Sproc_State).fRegs.a1) ((⟨i64 (z1.fPc + 1),z1.fLeft,z1.fRegs⟩ : Sproc_State).fRegs.a2) ((⟨i64 (z1.fPc + 1),z1.fLeft,z1.fRegs⟩ : Sproc_State).fRegs.a3) zef.1 zef.2 0 ([] : List Int)),(12,(y1E (⟨i64 (z1.fPc + 1),z1.fLeft,z1.fRegs⟩ : Sproc_State) z12.1 z17 0 0 0 ([] : List Int)).bind fun zeg=>z2y ((⟨i64 (z1.fPc + 1),z1.fLeft,z1.fRegs⟩ : Sproc_State).fPc) ((⟨i64 (z1.fPc + 1),z1.fLeft,z1.fRegs⟩ : Sproc_State).fLeft) ((⟨i64 (z1.fPc + 1),z1.fLeft,z1.fRegs⟩ : Sproc_State).fRegs.a0) ((⟨i64 (z1.fPc + 1),z1.fLeft,z1.fRegs⟩ : Sproc_State).fRegs.a1) ((⟨i64 (z1.fPc + 1),z1.fLeft,z1.fRegs⟩ : Sproc_State).fRegs.a2) ((⟨i64 (z1.fPc + 1),z1.fLeft,z1.fRegs⟩ : Sproc_State).fRegs.a3) zeg.1 zeg.2 0 ([] : List Int)),(13,(y1F (⟨i64 (z1.fPc + 1),z1.fLeft,z1.fRegs⟩ : Sproc_State) z12.1 z17 0 0 0 ([] : List Int)).bind fun zeh=>z2y ((⟨i64 (z1.fPc + 1),z1.fLeft,z1.fRegs⟩ : Sproc_State).fPc) ((⟨i64 (z1.fPc + 1),z1.fLeft,z1.fRegs⟩ : Sproc_State).fLeft) ((⟨i64 (z1.fPc + 1),z1.fLeft,z1.fRegs⟩ : Sproc_State).fRegs.a0) ((⟨i64 (z1.fPc + 1),z1.fLeft,z1.fRegs⟩ : Sproc_State).fRegs.a1) ((⟨i64 (z1.fPc + 1),z1.fLeft,z1.fRegs⟩ : Sproc_State).fRegs.a2) ((⟨i64 (z1.fPc + 1),z1.fLeft,z1.fRegs⟩ : Sproc_State).fRegs.a3) zeh.1 zeh.2 0 ([] : List Int)),(14,(y27 (⟨i64 (z1.fPc + 1),z1.fLeft,z1.fRegs⟩ : Sproc_State) z12.1 z17 0 0 0 ([] : List Int)).bind fun zei=>z2y ((⟨i64 (z1.fPc + 1),z1.fLeft,z1.fRegs⟩ : Sproc_State).fPc) ((⟨i64 (z1.fPc + 1),z1.fLeft,z1.fRegs⟩ : Sproc_State).fLeft) ((⟨i64 (z1.fPc + 1),z1.fLeft,z1.fRegs⟩ : Sproc_State).fRegs.a0) ((⟨i64 (z1.fPc + 1),z1.fLeft,z1.fRegs⟩ : Sproc_State).fRegs.a1) ((⟨i64 (z1.fPc + 1),z1.fLeft,z1.fRegs⟩ : Sproc_State).fRegs.a2) ((⟨i64 (z1.fPc + 1),z1.fLeft,z1.fRegs⟩ : Sproc_State).fRegs.a3) zei.1 zei.2 0 ([nth ([(⟨i64 (z1.fPc + 1),z1.fLeft,z1.fRegs⟩ : Sproc_State).fRegs.a0,(⟨i64 (z1.fPc + 1),z1.fLeft,z1.fRegs⟩ : Sproc_State).fRegs.a1,(⟨i64 (z1.fPc + 1),z1.fLeft,z1.fRegs⟩ : Sproc_State).fRegs.a2,(⟨i64 (z1.fPc + 1),z1.fLeft,z1.fRegs⟩ : Sproc_State).fRegs.a3] : List Int) z12.1.fB] : List Int)),(15,(y28 (⟨i64 (z1.fPc + 1),z1.fLeft,z1.fRegs⟩ : Sproc_State) z12.1 z17 0 0 0 ([] : List Int)).bind fun zej=>z2y ((⟨i64 (z1.fPc + 1),z1.fLeft,z1.fRegs⟩ : Sproc_State).fPc) ((⟨i64 (z1.fPc + 1),z1.fLeft,z1.fRegs⟩ : Sproc_State).fLeft) ((⟨i64 (z1.fPc + 1),z1.fLeft,z1.fRegs⟩ : Sproc_State).fRegs.a0) ((⟨i64 (z1.fPc + 1),z1.fLeft,z1.fRegs⟩ : Sproc_State).fRegs.a1) ((⟨i64 (z1.fPc + 1),z1.fLeft,z1.fRegs⟩ : Sproc_State).fRegs.a2) ((⟨i64 (z1.fPc + 1),z1.fLeft,z1.fRegs⟩ : Sproc_State).fRegs.a3) zej.1 zej.2 0 ([] : List Int)),(16,(y1S (⟨i64 (z1.fPc + 1),z1.fLeft,z1.fRegs⟩ : Sproc_State) z12.1 z17 0 0 0 ([] : List Int)).bind fun zek=>z2y ((⟨i64 (z1.fPc + 1),z1.fLeft,z1.fRegs⟩ : Sproc_State).fPc) ((⟨i64 (z1.fPc + 1),z1.fLeft,z1.fRegs⟩ : Sproc_State).fLeft) ((⟨i64 (z1.fPc + 1),z1.fLeft,z1.fRegs⟩ : Sproc_State).fRegs.a0) ((⟨i64 (z1.fPc + 1),z1.fLeft,z1.fRegs⟩ : Sproc_State).fRegs.a1) ((⟨i64 (z1.fPc + 1),z1.fLeft,z1.fRegs⟩ : Sproc_State).fRegs.a2) ((⟨i64 (z1.fPc + 1),z1.fLeft,z1.fRegs⟩ : Sproc_State).fRegs.a3) zek.1 zek.2 0 ([nth ([(⟨i64 (z1.fPc + 1),z1.fLeft,z1.fRegs⟩ : Sproc_State).fRegs.a0,(⟨i64 (z1.fPc + 1),z1.fLeft,z1.fRegs⟩ : Sproc_State).fRegs.a1,(⟨i64 (z1.fPc + 1),z1.fLeft,z1.fRegs⟩ : Sproc_State).fRegs.a2,(⟨i64 (z1.fPc + 1),z1.fLeft,z1.fRegs⟩ : Sproc_State).fRegs.a3] : List Int) z12.1.fB] : List Int)),(17,(y1T (⟨i64 (z1.fPc + 1),z1.fLeft,z1.fRegs⟩ : Sproc_State) z12.1 z17 0 0 0 ([] : List Int)).bind fun zel=>z2y ((⟨i64 (z1.fPc + 1),z1.fLeft,z1.fRegs⟩ : Sproc_State).fPc) ((⟨i64 (z1.fPc + 1),z1.fLeft,z1.fRegs⟩ : Sproc_State).fLeft) ((⟨i64 (z1.fPc + 1),z1.fLeft,z1.fRegs⟩ : Sproc_State).fRegs.a0) ((⟨i64 (z1.fPc + 1),z1.fLeft,z1.fRegs⟩ : Sproc_State).fRegs.a1) ((⟨i64 (z1.fPc + 1),z1.fLeft,z1.fRegs⟩ : Sproc_State).fRegs.a2) ((⟨i64 (z1.fPc + 1),z1.fLeft,z1.fRegs⟩ : Sproc_State).fRegs.a3) zel.1 zel.2 0 ([] : List Int)),(18,(y1G (⟨i64 (z1.fPc + 1),z1.fLeft,z1.fRegs⟩ : Sproc_State) z12.1 z17 0 0 0 ([] : List Int)).bind fun zem=>z2y ((⟨i64 (z1.fPc + 1),z1.fLeft,z1.fRegs⟩ : Sproc_State).fPc) ((⟨i64 (z1.fPc + 1),z1.fLeft,z1.fRegs⟩ : Sproc_State).fLeft) ((⟨i64 (z1.fPc + 1),z1.fLeft,z1.fRegs⟩ : Sproc_State).fRegs.a0) ((⟨i64 (z1.fPc + 1),z1.fLeft,z1.fRegs⟩ : Sproc_State).fRegs.a1) ((⟨i64 (z1.fPc + 1),z1.fLeft,z1.fRegs⟩ : Sproc_State).fRegs.a2) ((⟨i64 (z1.fPc + 1),z1.fLeft,z1.fRegs⟩ : Sproc_State).fRegs.a3) zem.1 zem.2 0 ([] : List Int)),(19,(y1U (⟨i64 (z1.fPc + 1),z1.fLeft,z1.fRegs⟩ : Sproc_State) z12.1 z17 0 0 0 ([] : List Int)).bind fun zvd=>z2y ((⟨i64 (z1.fPc + 1),z1.fLeft,z1.fRegs⟩ : Sproc_State).fPc) ((⟨i64 (z1.fPc + 1),z1.fLeft,z1.fRegs⟩ : Sproc_State).fLeft) ((⟨i64 (z1.fPc + 1),z1.fLeft,z1.fRegs⟩ : Sproc_State).fRegs.a0) ((⟨i64 (z1.fPc + 1),z1.fLeft,z1.fRegs⟩ : Sproc_State).fRegs.a1) ((⟨i64 (z1.fPc + 1),z1.fLeft,z1.fRegs⟩ : Sproc_State).fRegs.a2) ((⟨i64 (z1.fPc + 1),z1.fLeft,z1.fRegs⟩ : Sproc_State).fRegs.a3) 14 0 0 ([] : List Int)),(20,(y1V (⟨i64 (z1.fPc + 1),z1.fLeft,z1.fRegs⟩ : Sproc_State) z12.1 z17 0 0 0 ([] : List Int)).bind fun zhd=>z2y zhd ((⟨i64 (z1.fPc + 1),z1.fLeft,z1.fRegs⟩ : Sproc_State).fLeft) ((⟨i64 (z1.fPc + 1),z1.fLeft,z1.fRegs⟩ : Sproc_State).fRegs.a0) ((⟨i64 (z1.fPc + 1),z1.fLeft,z1.fRegs⟩ : Sproc_State).fRegs.a1) ((⟨i64 (z1.fPc + 1),z1.fLeft,z1.fRegs⟩ : Sproc_State).fRegs.a2) ((⟨i64 (z1.fPc + 1),z1.fLeft,z1.fRegs⟩ : Sproc_State).fRegs.a3) 0 0 0 ([] : List Int)),(21,(y1W (⟨i64 (z1.fPc + 1),z1.fLeft,z1.fRegs⟩ : Sproc_State) z12.1 z17 0 0 0 ([] : List Int)).bind fun zhe=>z2y zhe ((⟨i64 (z1.fPc + 1),z1.fLeft,z1.fRegs⟩ : Sproc_State).fLeft) ((⟨i64 (z1.fPc + 1),z1.fLeft,z1.fRegs⟩ : Sproc_State).fRegs.a0) ((⟨i64 (z1.fPc + 1),z1.fLeft,z1.fRegs⟩ : Sproc_State).fRegs.a1) ((⟨i64 (z1.fPc + 1),z1.fLeft,z1.fRegs⟩ : Sproc_State).fRegs.a2) ((⟨i64 (z1.fPc + 1),z1.fLeft,z1.fRegs⟩ : Sproc_State).fRegs.a3) 0 0 0 ([] : List Int)),(22,(y1X (⟨i64 (z1.fPc + 1),z1.fLeft,z1.fRegs⟩ : Sproc_State) z12.1 z17 0 0 0 ([] : List Int)).bind fun zhf=>z2y zhf ((⟨i64 (z1.fPc + 1),z1.fLeft,z1.fRegs⟩ : Sproc_State).fLeft) ((⟨i64 (z1.fPc + 1),z1.fLeft,z1.fRegs⟩ : Sproc_State).fRegs.a0) ((⟨i64 (z1.fPc + 1),z1.fLeft,z1.fRegs⟩ : Sproc_State).fRegs.a1) ((⟨i64 (z1.fPc + 1),z1.fLeft,z1.fRegs⟩ : Sproc_State).fRegs.a2) ((⟨i64 (z1.fPc + 1),z1.fLeft,z1.fRegs⟩ : Sproc_State).fRegs.a3) 0 0 0 ([] : List Int)),(23,(y29 (⟨i64 (z1.fPc + 1),z1.fLeft,z1.fRegs⟩ : Sproc_State) z12.1 z17 0 0 0 ([] : List Int)).bind fun z4m=>z2y ((⟨i64 (z1.fPc + 1),z1.fLeft,z1.fRegs⟩ : Sproc_State).fPc) ((⟨i64 (z1.fPc + 1),z1.fLeft,z1.fRegs⟩ : Sproc_State).fLeft) z4m.1 z4m.2.1 z4m.2.2.1 z4m.2.2.2.1 z4m.2.2.2.2.1 z4m.2.2.2.2.2.1 z4m.2.2.2.2.2.2.1 z4m.2.2.2.2.2.2.2),(24,(y1H (⟨i64 (z1.fPc + 1),z1.fLeft,z1.fRegs⟩ : Sproc_State) z12.1 z17 0 0 0 ([] : List Int)).bind fun zen=>z2y ((⟨i64 (z1.fPc + 1),z1.fLeft,z1.fRegs⟩ : Sproc_State).fPc) ((⟨i64 (z1.fPc + 1),z1.fLeft,z1.fRegs⟩ : Sproc_State).fLeft) ((⟨i64 (z1.fPc + 1),z1.fLeft,z1.fRegs⟩ : Sproc_State).fRegs.a0) ((⟨i64 (z1.fPc + 1),z1.fLeft,z1.fRegs⟩ : Sproc_State).fRegs.a1) ((⟨i64 (z1.fPc + 1),z1.fLeft,z1.fRegs⟩ : Sproc_State).fRegs.a2) ((⟨i64 (z1.fPc + 1),z1.fLeft,z1.fRegs⟩ : Sproc_State).fRegs.a3) 15 zen.1 zen.2 ([] : List Int)),(25,(y1Y (⟨i64 (z1.fPc + 1),z1.fLeft,z1.fRegs⟩ : Sproc_State) z12.1 z17 0 0 0 ([] : List Int)).bind fun zhg=>z2y zhg ((⟨i64 (z1.fPc + 1),z1.fLeft,z1.fRegs⟩ : Sproc_State).fLeft) ((⟨i64 (z1.fPc + 1),z1.fLeft,z1.fRegs⟩ : Sproc_State).fRegs.a0) ((⟨i64 (z1.fPc + 1),z1.fLeft,z1.fRegs⟩ : Sproc_State).fRegs.a1) ((⟨i64 (z1.fPc + 1),z1.fLeft,z1.fRegs⟩ : Sproc_State).fRegs.a2) ((⟨i64 (z1.fPc + 1),z1.fLeft,z1.fRegs⟩ : Sproc_State).fRegs.a3) 16 0 0 ([] : List Int))] z12.1.fOp)
set_option maxRecDepth 20000 in
theorem y7m (Z : Zp) (zf2 : Option Addr) (zf3 : Nat) (z4A : Option Addr) (z4B : Nat) (zca : List Sapi_Ins) (z1 : Sproc_State) (z17 : List Int) (r : Sproc_State × Sproc_Act)
  (h : y3i zca z1 z17 = some r) (w₀ : World) (hz : PZ (fps [row (.slice z4A z17.length z4B) 5 1 (z17.flatMap e5)]) w₀ Z)
  (hG0 : ZC Z ⟨0,0,none⟩ y67)
  (hG1 : ZS Z 1 (p74 Z) (some ⟨1,0,none⟩) 26 y17)
  (zve : ZS Z 4 (fun r x=>r = e33 x) zf2 zf3 zca)
  (hown : Hp (fps [row (.slice z4A z17.length z4B) 5 1 (z17.flatMap e5)]) w₀ w₀ [row (.slice z4A z17.length z4B) 5 1 (z17.flatMap e5)]) :
  Calls Tryd.prog 18 #[(.slice zf2 zca.length zf3),(.agg #[(.int .i64 z1.fPc),(.int .i64 z1.fLeft),(.int .u8 z1.fRegs.a0),(.int .u8 z1.fRegs.a1),(.int .u8 z1.fRegs.a2),(.int .u8 z1.fRegs.a3)]),(.slice z4A z17.length z4B)] w₀ fun e w'=>∃ zkZ : Option Addr,∃ zl0 : Nat,e = .returned (.tuple #[(.agg #[(.int .i64 r.1.fPc),(.int .i64 r.1.fLeft),(.int .u8 r.1.fRegs.a0),(.int .u8 r.1.fRegs.a1),(.int .u8 r.1.fRegs.a2),(.int .u8 r.1.fRegs.a3)]),(.agg #[(.int .u8 r.2.fKind),(.int .i64 r.2.fA),(.int .i64 r.2.fB),(.slice zkZ r.2.fData.length zl0)])]) ∧ True ∧ Hp (fps [row (.slice z4A z17.length z4B) 5 1 (z17.flatMap e5)]) w₀ w' [row (.slice zkZ r.2.fData.length zl0) 5 1 (r.2.fData.flatMap e5),row (.slice z4A z17.length z4B) 5 1 (z17.flatMap e5)]:=by
 unfold y3i at h
 refine Calls.y8 (vs:=[(.slice zf2 zca.length zf3),(.agg #[(.int .i64 z1.fPc),(.int .i64 z1.fLeft),(.int .u8 z1.fRegs.a0),(.int .u8 z1.fRegs.a1),(.int .u8 z1.fRegs.a2),(.int .u8 z1.fRegs.a3)]),(.slice z4A z17.length z4B)]) (pre:=[row (.slice z4A z17.length z4B) 5 1 (z17.flatMap e5)]) (env:=[(0,(.slice zf2 zca.length zf3)),(1,(.agg #[(.int .i64 z1.fPc),(.int .i64 z1.fLeft),(.int .u8 z1.fRegs.a0),(.int .u8 z1.fRegs.a1),(.int .u8 z1.fRegs.a2),(.int .u8 z1.fRegs.a3)])),(2,(.slice z4A z17.length z4B))]) Tryd.func18 rfl Tryd.ntmps18 rfl (hown) rfl ?_
 refine WC.b (WC.a ?_)
 refine WL.new (dd:=4) rfl rfl rfl (y3m (cs:=[(.int .i64 z1.fPc),(.int .i64 z1.fLeft),(.int .u8 z1.fRegs.a0),(.int .u8 z1.fRegs.a1),(.int .u8 z1.fRegs.a2),(.int .u8 z1.fRegs.a3)]) rfl rfl) ?_
 intro zy3 _
 refine WL.new (dd:=6) rfl rfl rfl (yE (cs:=[(.int .i64 0),(.int .i64 0),(.int .u8 0),(.int .u8 0),(.int .u8 0),(.int .u8 0)]) y1z rfl) ?_
 intro zl1 _
 refine WL.new (dd:=7) rfl rfl rfl (yE (cs:=[(.int .u8 0),(.int .i64 0),(.int .i64 0),(.slice none 0 0)]) y2g rfl) ?_
 intro zl2 _
 refine WL.nil (WX.a (WC.b ?_))
 obtain ⟨z12,zvf,h⟩:=zd h
 refine WC.a (WL.pu rfl ?_)
 refine WL.a (d:=13) rfl rfl rfl (y4 y1c rfl rfl) ?_
 refine WL.a (d:=14) rfl rfl rfl (y5 yd rfl (yb .h2 rfl)) ?_
 refine WL.b (dd:=15) rfl rfl rfl (zl (l:=[.tmp 12,.tmp 14]) Tryd.call33 (.cons rfl (.cons rfl .nil))) .nil (cc hz .nil fun w pz ho=>y4B _ _ _ _ _ _ zvf w pz hG1 zve) ?_
 refine WL.pu rfl (WL.pu rfl (WL.pu rfl ?_))
 refine WL.new (dd:=8) rfl rfl rfl (yE (cs:=[(.int .u8 0),(.int .i64 0),(.int .i64 0),(.int .i64 0)]) y3W rfl) ?_
 intro zy4 _
 refine WL.yg rfl rfl (yu y3X rfl rfl rfl .here rfl rfl rfl) ?_
 refine WL.pu rfl (WL.nil (WX.a (WC.b (WC.b (WC.a (WL.pu rfl (WL.pu rfl (WL.nil (WX.a ?_)))))))))
 refine WC.cond rfl (fun zhh=>?_) (fun zhh=>?_)
 ·replace h:=yl h zhh
  refine WC.b (WC.a ?_)
  refine WL.a (d:=20) rfl rfl rfl (yV y13 rfl (yJ .h3) rfl) ?_
  refine WL.a (d:=21) rfl rfl rfl (yR (v:=(.agg #[(.int .u8 15),(.int .i64 5),(.int .i64 0),(.slice none 0 0)])) (Eos.parts (l:=[.const (.int .u8 15),.const (.int .i64 5)]) (.cons rfl (.cons rfl .nil)) [0,1]) (fun _=>by kernel_rfl)) ?_
  refine WL.yg rfl rfl (yu y1p rfl rfl rfl .h2 rfl rfl rfl) ?_
  refine WL.yg rfl rfl (yu y1g rfl rfl rfl .h2 rfl rfl rfl) ?_
  refine WL.nil (WX.a (WC.ret (WX.yf ?_)))
  refine WX.nilRow 5 1 ?_
  obtain rfl:=Option.some.inj h
  refine WX.yh Tryd.results18 (.agg rfl y13 rfl (yJ .h2) (.agg rfl y35 rfl (yJ .h1) .nil)) (fun w hw=>?_)
  exact ⟨none,0,y3T rfl rfl,trivial,hw.sub (.cons .here (.cons .h4 .nil))⟩
 ·replace h:=ym h zhh
  refine WC.skip (WX.a (WC.b (WC.a ?_)))
  refine WL.a (d:=22) rfl rfl rfl (yV y13 rfl (yJ .h3) rfl) ?_
  refine WL.a (d:=23) rfl rfl rfl (yV y3p rfl (yJ .here) rfl) ?_
  refine WL.pu rfl ?_
  refine WL.a (d:=25) rfl rfl rfl (yR (v:=(.agg #[(.int .i64 z1.fPc),(.int .i64 z1.fLeft),(.int .u8 z1.fRegs.a0),(.int .u8 z1.fRegs.a1),(.int .u8 z1.fRegs.a2),(.int .u8 z1.fRegs.a3),(.int .u8 z12.1.fOp),(.int .i64 z12.1.fA),(.int .i64 z12.1.fB),(.int .i64 z12.1.fC),(.slice z4A z17.length z4B),(.int .u8 0),(.int .i64 0),(.int .i64 0),(.slice none 0 0)])) (Eos.parts (l:=[.tmp 22,.tmp 23,.tmp 24]) (.cons rfl (.cons rfl (.cons rfl .nil))) [0,1,2]) (fun _=>by kernel_rfl)) ?_
  refine WL.new (dd:=26) rfl rfl rfl (y3m (cs:=[(.int .i64 z1.fPc),(.int .i64 z1.fLeft),(.int .u8 z1.fRegs.a0),(.int .u8 z1.fRegs.a1),(.int .u8 z1.fRegs.a2),(.int .u8 z1.fRegs.a3),(.int .u8 z12.1.fOp),(.int .i64 z12.1.fA),(.int .i64 z12.1.fB),(.int .i64 z12.1.fC),(.slice z4A z17.length z4B),(.int .u8 0),(.int .i64 0),(.int .i64 0),(.slice none 0 0)]) rfl rfl) ?_
  intro zhi _
  refine WL.pu rfl (WL.nil (WX.a (WC.b (WC.a (WL.pu rfl ?_)))))
  refine WL.a (d:=28) rfl rfl rfl (y6 rfl) ?_
  refine WL.a (d:=29) rfl rfl rfl (y4 yI rfl rfl) ?_
  refine WL.a (d:=30) rfl rfl rfl (y4 y1c rfl rfl) ?_
  refine WL.a (d:=31) rfl rfl rfl (y5 yd rfl (yb .here rfl)) ?_
  refine WL.pu rfl ?_
  refine WL.a (d:=33) rfl rfl rfl (y6 rfl) ?_
  refine WL.a (d:=34) rfl rfl rfl (y4 yI rfl rfl) ?_
  refine WL.a (d:=35) rfl rfl rfl (y4 y1c rfl rfl) ?_
  refine WL.yg rfl rfl (yK (ds:=[(.int .i64 (i64 (z1.fPc + 1))),(.int .i64 z1.fLeft),(.int .u8 z1.fRegs.a0),(.int .u8 z1.fRegs.a1),(.int .u8 z1.fRegs.a2),(.int .u8 z1.fRegs.a3),(.int .u8 z12.1.fOp),(.int .i64 z12.1.fA),(.int .i64 z12.1.fB),(.int .i64 z12.1.fC),(.slice z4A z17.length z4B),(.int .u8 0),(.int .i64 0),(.int .i64 0),(.slice none 0 0)]) y20 rfl rfl rfl rfl rfl .here rfl rfl) ?_
  refine WL.nil (WX.a ?_)
  obtain ⟨z2y,zvg,h⟩:=y84 h
  refine WC.y7v (fun (z7T : Int) (z7U : Int) (z7V : Int) (z7W : Int) (z7X : Int) (z7Y : Int) (z7Z : Int) (z80 : Int) (z81 : Int) (z6x : List Int) (zbh : Option Addr) (zbi : Nat)=>(z2y z7T z7U z7V z7W z7X z7Y z7Z z80 z81 z6x = some r)) (fun (z7T : Int) (z7U : Int) (z7V : Int) (z7W : Int) (z7X : Int) (z7Y : Int) (z7Z : Int) (z80 : Int) (z81 : Int) (z6x : List Int) (zbh : Option Addr) (zbi : Nat)=>[(6,(.pointer (some ⟨zl1,0,none⟩))),(7,(.pointer (some ⟨zl2,0,none⟩))),(10,(.pointer (some ⟨zhi,0,none⟩)))]) (fun (z7T : Int) (z7U : Int) (z7V : Int) (z7W : Int) (z7X : Int) (z7Y : Int) (z7Z : Int) (z80 : Int) (z81 : Int) (z6x : List Int) (zbh : Option Addr) (zbi : Nat)=>[row (.slice z4A z17.length z4B) 5 1 (z17.flatMap e5),stb zl1 39 [(.int .i64 0),(.int .i64 0),(.int .u8 0),(.int .u8 0),(.int .u8 0),(.int .u8 0)],stb zl2 41 [(.int .u8 0),(.int .i64 0),(.int .i64 0),(.slice none 0 0)],stb zhi 65 [(.int .i64 z7T),(.int .i64 z7U),(.int .u8 z7V),(.int .u8 z7W),(.int .u8 z7X),(.int .u8 z7Y),(.int .u8 z12.1.fOp),(.int .i64 z12.1.fA),(.int .i64 z12.1.fB),(.int .i64 z12.1.fC),(.slice z4A z17.length z4B),(.int .u8 z7Z),(.int .i64 z80),(.int .i64 z81),(.slice zbh z6x.length zbi)],row (.slice zbh z6x.length zbi) 5 1 (z6x.flatMap e5)]) ?_ ?_
  ·skip
   obtain ⟨zvh,h⟩:=ya h
   refine WC.a ?_
   refine WL.a (d:=36) rfl rfl rfl (y4 y2C rfl rfl) ?_
   refine WL.a (d:=37) rfl rfl rfl (y5 yB rfl (yb .h1 rfl)) ?_
   refine WL.a (d:=38) rfl rfl rfl (y2s arT_67 rfl rfl zvh rfl) ?_
   rcases yp h with ⟨zvi,h⟩ | h
   ·skip
    obtain ⟨zeb,zvj,h⟩:=zd h
    refine WL.a (d:=39) rfl rfl rfl (y5 yq rfl (yx (k:=1) hz.pv hG0 zvi rfl)) ?_
    refine WL.pu rfl ?_
    refine WL.nilRow 5 1 ?_
    refine WL.b (dd:=41) rfl rfl rfl (ye (l:=[.tmp 40]) Tryd.call84 rfl (.cons rfl .nil)) (.cons .h1 (.cons .h5 (.cons .here .nil))) (cc hz (.cons .h1 (.cons .h5 (.cons .here .nil))) fun w pz ho=>y4J _ _ _ _ _ _ _ _ _ _ _ _ _ _ zvj w pz  ho) ?_
    refine WL.nil ?_
    exact WX.mid (G:=Int × Int × Int × Int × Int × Int × Int × Int × Int × List Int × Option Addr × Nat) ⟨zeb.1,zeb.2,((⟨i64 (z1.fPc + 1),z1.fLeft,z1.fRegs⟩ : Sproc_State).fRegs.a0),((⟨i64 (z1.fPc + 1),z1.fLeft,z1.fRegs⟩ : Sproc_State).fRegs.a1),((⟨i64 (z1.fPc + 1),z1.fLeft,z1.fRegs⟩ : Sproc_State).fRegs.a2),((⟨i64 (z1.fPc + 1),z1.fLeft,z1.fRegs⟩ : Sproc_State).fRegs.a3),0,0,0,([] : List Int),none,0⟩ h (.cons rfl (.cons rfl (.cons rfl .nil))) (.cons .h1 (.cons .h4 (.cons .h3 (.cons .here (.cons .here .nil)))))
   rcases yp h with ⟨zvk,h⟩ | h
   ·skip
    obtain ⟨z9C,zvl,h⟩:=zd h
    refine WL.a (d:=39) rfl rfl rfl (y5 yq rfl (yx (k:=2) hz.pv hG0 zvk rfl)) ?_
    refine WL.pu rfl ?_
    refine WL.nilRow 5 1 ?_
    refine WL.b (dd:=41) rfl rfl rfl (ye (l:=[.tmp 40]) Tryd.call85 rfl (.cons rfl .nil)) (.cons .h1 (.cons .h5 (.cons .here .nil))) (cc hz (.cons .h1 (.cons .h5 (.cons .here .nil))) fun w pz ho=>y5f _ _ _ _ _ _ _ _ _ _ _ _ _ _ zvl w pz  ho) ?_
    refine WL.nil ?_
    exact WX.mid (G:=Int × Int × Int × Int × Int × Int × Int × Int × Int × List Int × Option Addr × Nat) ⟨((⟨i64 (z1.fPc + 1),z1.fLeft,z1.fRegs⟩ : Sproc_State).fPc),((⟨i64 (z1.fPc + 1),z1.fLeft,z1.fRegs⟩ : Sproc_State).fLeft),z9C.1,z9C.2.1,z9C.2.2.1,z9C.2.2.2,0,0,0,([] : List Int),none,0⟩ h (.cons rfl (.cons rfl (.cons rfl .nil))) (.cons .h1 (.cons .h4 (.cons .h3 (.cons .here (.cons .here .nil)))))
   rcases yp h with ⟨zvm,h⟩ | h
   ·skip
    obtain ⟨z9D,zvn,h⟩:=zd h
    refine WL.a (d:=39) rfl rfl rfl (y5 yq rfl (yx (k:=3) hz.pv hG0 zvm rfl)) ?_
    refine WL.pu rfl ?_
    refine WL.nilRow 5 1 ?_
    refine WL.b (dd:=41) rfl rfl rfl (ye (l:=[.tmp 40]) Tryd.call82 rfl (.cons rfl .nil)) (.cons .h1 (.cons .h5 (.cons .here .nil))) (cc hz (.cons .h1 (.cons .h5 (.cons .here .nil))) fun w pz ho=>y5g _ _ _ _ _ _ _ _ _ _ _ _ _ _ zvn w pz  ho) ?_
    refine WL.nil ?_
    exact WX.mid (G:=Int × Int × Int × Int × Int × Int × Int × Int × Int × List Int × Option Addr × Nat) ⟨((⟨i64 (z1.fPc + 1),z1.fLeft,z1.fRegs⟩ : Sproc_State).fPc),((⟨i64 (z1.fPc + 1),z1.fLeft,z1.fRegs⟩ : Sproc_State).fLeft),z9D.1,z9D.2.1,z9D.2.2.1,z9D.2.2.2,0,0,0,([] : List Int),none,0⟩ h (.cons rfl (.cons rfl (.cons rfl .nil))) (.cons .h1 (.cons .h4 (.cons .h3 (.cons .here (.cons .here .nil)))))
   rcases yp h with ⟨zvo,h⟩ | h
   ·skip
    obtain ⟨z9E,zvp,h⟩:=zd h
    refine WL.a (d:=39) rfl rfl rfl (y5 yq rfl (yx (k:=4) hz.pv hG0 zvo rfl)) ?_
    refine WL.pu rfl ?_
    refine WL.nilRow 5 1 ?_
    refine WL.b (dd:=41) rfl rfl rfl (ye (l:=[.tmp 40]) Tryd.call86 rfl (.cons rfl .nil)) (.cons .h1 (.cons .h5 (.cons .here .nil))) (cc hz (.cons .h1 (.cons .h5 (.cons .here .nil))) fun w pz ho=>y5h _ _ _ _ _ _ _ _ _ _ _ _ _ _ zvp w pz  ho) ?_
    refine WL.nil ?_
    exact WX.mid (G:=Int × Int × Int × Int × Int × Int × Int × Int × Int × List Int × Option Addr × Nat) ⟨((⟨i64 (z1.fPc + 1),z1.fLeft,z1.fRegs⟩ : Sproc_State).fPc),((⟨i64 (z1.fPc + 1),z1.fLeft,z1.fRegs⟩ : Sproc_State).fLeft),z9E.1,z9E.2.1,z9E.2.2.1,z9E.2.2.2,0,0,0,([] : List Int),none,0⟩ h (.cons rfl (.cons rfl (.cons rfl .nil))) (.cons .h1 (.cons .h4 (.cons .h3 (.cons .here (.cons .here .nil)))))
   rcases yp h with ⟨zvq,h⟩ | h
   ·skip
    obtain ⟨z4l,zvr,h⟩:=zd h
    refine WL.a (d:=39) rfl rfl rfl (y5 yq rfl (yx (k:=5) hz.pv hG0 zvq rfl)) ?_
    refine WL.pu rfl ?_
    refine WL.nilRow 5 1 ?_
    refine WL.y1Z (dd:=41) rfl rfl rfl (ye (l:=[.tmp 40]) Tryd.call87 rfl (.cons rfl .nil)) (.cons .h1 (.cons .h5 (.cons .here .nil))) (cc hz (.cons .h1 (.cons .h5 (.cons .here .nil))) fun w pz ho=>y4K _ _ _ _ _ _ _ _ _ _ _ _ _ _ zvr w pz  ho) ?_
    rintro zvs zvt _
    refine WL.nil ?_
    exact WX.mid (G:=Int × Int × Int × Int × Int × Int × Int × Int × Int × List Int × Option Addr × Nat) ⟨((⟨i64 (z1.fPc + 1),z1.fLeft,z1.fRegs⟩ : Sproc_State).fPc),((⟨i64 (z1.fPc + 1),z1.fLeft,z1.fRegs⟩ : Sproc_State).fLeft),z4l.1,z4l.2.1,z4l.2.2.1,z4l.2.2.2.1,z4l.2.2.2.2.1,z4l.2.2.2.2.2.1,z4l.2.2.2.2.2.2.1,z4l.2.2.2.2.2.2.2,zvs,zvt⟩ h (.cons rfl (.cons rfl (.cons rfl .nil))) (.cons .h1 (.cons .h4 (.cons .h3 (.cons .here (.cons .here .nil)))))
   rcases yp h with ⟨zvu,h⟩ | h
   ·skip
    obtain ⟨z9F,zvv,h⟩:=zd h
    refine WL.a (d:=39) rfl rfl rfl (y5 yq rfl (yx (k:=6) hz.pv hG0 zvu rfl)) ?_
    refine WL.pu rfl ?_
    refine WL.nilRow 5 1 ?_
    refine WL.y1Z (dd:=41) rfl rfl rfl (ye (l:=[.tmp 40]) Tryd.call88 rfl (.cons rfl .nil)) (.cons .h1 (.cons .h5 (.cons .here .nil))) (cc hz (.cons .h1 (.cons .h5 (.cons .here .nil))) fun w pz ho=>y4o _ _ _ _ _ _ _ _ _ _ _ _ _ _ zvv w pz  ho) ?_
    rintro zvw zvx _
    refine WL.nil ?_
    exact WX.mid (G:=Int × Int × Int × Int × Int × Int × Int × Int × Int × List Int × Option Addr × Nat) ⟨((⟨i64 (z1.fPc + 1),z1.fLeft,z1.fRegs⟩ : Sproc_State).fPc),((⟨i64 (z1.fPc + 1),z1.fLeft,z1.fRegs⟩ : Sproc_State).fLeft),((⟨i64 (z1.fPc + 1),z1.fLeft,z1.fRegs⟩ : Sproc_State).fRegs.a0),((⟨i64 (z1.fPc + 1),z1.fLeft,z1.fRegs⟩ : Sproc_State).fRegs.a1),((⟨i64 (z1.fPc + 1),z1.fLeft,z1.fRegs⟩ : Sproc_State).fRegs.a2),((⟨i64 (z1.fPc + 1),z1.fLeft,z1.fRegs⟩ : Sproc_State).fRegs.a3),z9F.1,z9F.2.1,z9F.2.2.1,z9F.2.2.2,zvw,zvx⟩ h (.cons rfl (.cons rfl (.cons rfl .nil))) (.cons .h1 (.cons .h4 (.cons .h3 (.cons .here (.cons .here .nil)))))
   rcases yp h with ⟨zvy,h⟩ | h
   ·skip
    obtain ⟨zcb,zvz,h⟩:=zd h
    refine WL.a (d:=39) rfl rfl rfl (y5 yq rfl (yx (k:=7) hz.pv hG0 zvy rfl)) ?_
    refine WL.pu rfl ?_
    refine WL.nilRow 5 1 ?_
    refine WL.y1Z (dd:=41) rfl rfl rfl (ye (l:=[.tmp 40]) Tryd.call89 rfl (.cons rfl .nil)) (.cons .h1 (.cons .h5 (.cons .here .nil))) (cc hz (.cons .h1 (.cons .h5 (.cons .here .nil))) fun w pz ho=>y4L _ _ _ _ _ _ _ _ _ _ _ _ _ _ zvz w pz  ho) ?_
    rintro zvA zvB _
    refine WL.nil ?_
    exact WX.mid (G:=Int × Int × Int × Int × Int × Int × Int × Int × Int × List Int × Option Addr × Nat) ⟨((⟨i64 (z1.fPc + 1),z1.fLeft,z1.fRegs⟩ : Sproc_State).fPc),((⟨i64 (z1.fPc + 1),z1.fLeft,z1.fRegs⟩ : Sproc_State).fLeft),((⟨i64 (z1.fPc + 1),z1.fLeft,z1.fRegs⟩ : Sproc_State).fRegs.a0),((⟨i64 (z1.fPc + 1),z1.fLeft,z1.fRegs⟩ : Sproc_State).fRegs.a1),((⟨i64 (z1.fPc + 1),z1.fLeft,z1.fRegs⟩ : Sproc_State).fRegs.a2),((⟨i64 (z1.fPc + 1),z1.fLeft,z1.fRegs⟩ : Sproc_State).fRegs.a3),zcb.1,zcb.2.1,0,zcb.2.2,zvA,zvB⟩ h (.cons rfl (.cons rfl (.cons rfl .nil))) (.cons .h1 (.cons .h5 (.cons .h4 (.cons .here (.cons .here .nil)))))
   rcases yp h with ⟨zvC,h⟩ | h
   ·skip
    obtain ⟨zec,zvD,h⟩:=zd h
    refine WL.a (d:=39) rfl rfl rfl (y5 yq rfl (yx (k:=8) hz.pv hG0 zvC rfl)) ?_
    refine WL.pu rfl ?_
    refine WL.nilRow 5 1 ?_
    refine WL.b (dd:=41) rfl rfl rfl (ye (l:=[.tmp 40]) Tryd.call90 rfl (.cons rfl .nil)) (.cons .h1 (.cons .h5 (.cons .here .nil))) (cc hz (.cons .h1 (.cons .h5 (.cons .here .nil))) fun w pz ho=>y4M _ _ _ _ _ _ _ _ _ _ _ _ _ _ zvD w pz  ho) ?_
    refine WL.nil ?_
    refine WX.nilRow 5 1 ?_
    exact WX.mid (G:=Int × Int × Int × Int × Int × Int × Int × Int × Int × List Int × Option Addr × Nat) ⟨((⟨i64 (z1.fPc + 1),z1.fLeft,z1.fRegs⟩ : Sproc_State).fPc),((⟨i64 (z1.fPc + 1),z1.fLeft,z1.fRegs⟩ : Sproc_State).fLeft),((⟨i64 (z1.fPc + 1),z1.fLeft,z1.fRegs⟩ : Sproc_State).fRegs.a0),((⟨i64 (z1.fPc + 1),z1.fLeft,z1.fRegs⟩ : Sproc_State).fRegs.a1),((⟨i64 (z1.fPc + 1),z1.fLeft,z1.fRegs⟩ : Sproc_State).fRegs.a2),((⟨i64 (z1.fPc + 1),z1.fLeft,z1.fRegs⟩ : Sproc_State).fRegs.a3),zec.1,zec.2,0,([] : List Int),none,0⟩ h (.cons rfl (.cons rfl (.cons rfl .nil))) (.cons .h2 (.cons .h5 (.cons .h4 (.cons .h1 (.cons .here .nil)))))
   rcases yp h with ⟨zvE,h⟩ | h
   ·skip
    obtain ⟨zed,zvF,h⟩:=zd h
    refine WL.a (d:=39) rfl rfl rfl (y5 yq rfl (yx (k:=9) hz.pv hG0 zvE rfl)) ?_
    refine WL.pu rfl ?_
    refine WL.nilRow 5 1 ?_
    refine WL.b (dd:=41) rfl rfl rfl (ye (l:=[.tmp 40]) Tryd.call91 rfl (.cons rfl .nil)) (.cons .h1 (.cons .h5 (.cons .here .nil))) (cc hz (.cons .h1 (.cons .h5 (.cons .here .nil))) fun w pz ho=>y4N _ _ _ _ _ _ _ _ _ _ _ _ _ _ zvF w pz  ho) ?_
    refine WL.nil ?_
    refine WX.nilRow 5 1 ?_
    exact WX.mid (G:=Int × Int × Int × Int × Int × Int × Int × Int × Int × List Int × Option Addr × Nat) ⟨((⟨i64 (z1.fPc + 1),z1.fLeft,z1.fRegs⟩ : Sproc_State).fPc),((⟨i64 (z1.fPc + 1),z1.fLeft,z1.fRegs⟩ : Sproc_State).fLeft),((⟨i64 (z1.fPc + 1),z1.fLeft,z1.fRegs⟩ : Sproc_State).fRegs.a0),((⟨i64 (z1.fPc + 1),z1.fLeft,z1.fRegs⟩ : Sproc_State).fRegs.a1),((⟨i64 (z1.fPc + 1),z1.fLeft,z1.fRegs⟩ : Sproc_State).fRegs.a2),((⟨i64 (z1.fPc + 1),z1.fLeft,z1.fRegs⟩ : Sproc_State).fRegs.a3),zed.1,zed.2,0,([] : List Int),none,0⟩ h (.cons rfl (.cons rfl (.cons rfl .nil))) (.cons .h2 (.cons .h5 (.cons .h4 (.cons .h1 (.cons .here .nil)))))
   rcases yp h with ⟨zvG,h⟩ | h
   ·skip
    obtain ⟨zee,zvH,h⟩:=zd h
    refine WL.a (d:=39) rfl rfl rfl (y5 yq rfl (yx (k:=10) hz.pv hG0 zvG rfl)) ?_
    refine WL.pu rfl ?_
    refine WL.nilRow 5 1 ?_
    refine WL.b (dd:=41) rfl rfl rfl (ye (l:=[.tmp 40]) Tryd.call92 rfl (.cons rfl .nil)) (.cons .h1 (.cons .h5 (.cons .here .nil))) (cc hz (.cons .h1 (.cons .h5 (.cons .here .nil))) fun w pz ho=>y4k _ _ _ _ _ _ _ _ _ _ _ _ _ _ zvH w pz  ho) ?_
    refine WL.nil ?_
    refine WX.nilRow 5 1 ?_
    exact WX.mid (G:=Int × Int × Int × Int × Int × Int × Int × Int × Int × List Int × Option Addr × Nat) ⟨((⟨i64 (z1.fPc + 1),z1.fLeft,z1.fRegs⟩ : Sproc_State).fPc),((⟨i64 (z1.fPc + 1),z1.fLeft,z1.fRegs⟩ : Sproc_State).fLeft),((⟨i64 (z1.fPc + 1),z1.fLeft,z1.fRegs⟩ : Sproc_State).fRegs.a0),((⟨i64 (z1.fPc + 1),z1.fLeft,z1.fRegs⟩ : Sproc_State).fRegs.a1),((⟨i64 (z1.fPc + 1),z1.fLeft,z1.fRegs⟩ : Sproc_State).fRegs.a2),((⟨i64 (z1.fPc + 1),z1.fLeft,z1.fRegs⟩ : Sproc_State).fRegs.a3),zee.1,zee.2,0,([] : List Int),none,0⟩ h (.cons rfl (.cons rfl (.cons rfl .nil))) (.cons .h2 (.cons .h5 (.cons .h4 (.cons .h1 (.cons .here .nil)))))
   rcases yp h with ⟨zvI,h⟩ | h
   ·skip
    obtain ⟨zef,zvJ,h⟩:=zd h
    refine WL.a (d:=39) rfl rfl rfl (y5 yq rfl (yx (k:=11) hz.pv hG0 zvI rfl)) ?_
    refine WL.pu rfl ?_
    refine WL.nilRow 5 1 ?_
    refine WL.b (dd:=41) rfl rfl rfl (ye (l:=[.tmp 40]) Tryd.call93 rfl (.cons rfl .nil)) (.cons .h1 (.cons .h5 (.cons .here .nil))) (cc hz (.cons .h1 (.cons .h5 (.cons .here .nil))) fun w pz ho=>y4p _ _ _ _ _ _ _ _ _ _ _ _ _ _ zvJ w pz  ho) ?_
    refine WL.nil ?_
    refine WX.nilRow 5 1 ?_
    exact WX.mid (G:=Int × Int × Int × Int × Int × Int × Int × Int × Int × List Int × Option Addr × Nat) ⟨((⟨i64 (z1.fPc + 1),z1.fLeft,z1.fRegs⟩ : Sproc_State).fPc),((⟨i64 (z1.fPc + 1),z1.fLeft,z1.fRegs⟩ : Sproc_State).fLeft),((⟨i64 (z1.fPc + 1),z1.fLeft,z1.fRegs⟩ : Sproc_State).fRegs.a0),((⟨i64 (z1.fPc + 1),z1.fLeft,z1.fRegs⟩ : Sproc_State).fRegs.a1),((⟨i64 (z1.fPc + 1),z1.fLeft,z1.fRegs⟩ : Sproc_State).fRegs.a2),((⟨i64 (z1.fPc + 1),z1.fLeft,z1.fRegs⟩ : Sproc_State).fRegs.a3),zef.1,zef.2,0,([] : List Int),none,0⟩ h (.cons rfl (.cons rfl (.cons rfl .nil))) (.cons .h2 (.cons .h5 (.cons .h4 (.cons .h1 (.cons .here .nil)))))
   rcases yp h with ⟨zvK,h⟩ | h
   ·skip
    obtain ⟨zeg,zvL,h⟩:=zd h
    refine WL.a (d:=39) rfl rfl rfl (y5 yq rfl (yx (k:=12) hz.pv hG0 zvK rfl)) ?_
    refine WL.pu rfl ?_
    refine WL.nilRow 5 1 ?_
    refine WL.b (dd:=41) rfl rfl rfl (ye (l:=[.tmp 40]) Tryd.call94 rfl (.cons rfl .nil)) (.cons .h1 (.cons .h5 (.cons .here .nil))) (cc hz (.cons .h1 (.cons .h5 (.cons .here .nil))) fun w pz ho=>y4q _ _ _ _ _ _ _ _ _ _ _ _ _ _ zvL w pz  ho) ?_
    refine WL.nil ?_
    refine WX.nilRow 5 1 ?_
    exact WX.mid (G:=Int × Int × Int × Int × Int × Int × Int × Int × Int × List Int × Option Addr × Nat) ⟨((⟨i64 (z1.fPc + 1),z1.fLeft,z1.fRegs⟩ : Sproc_State).fPc),((⟨i64 (z1.fPc + 1),z1.fLeft,z1.fRegs⟩ : Sproc_State).fLeft),((⟨i64 (z1.fPc + 1),z1.fLeft,z1.fRegs⟩ : Sproc_State).fRegs.a0),((⟨i64 (z1.fPc + 1),z1.fLeft,z1.fRegs⟩ : Sproc_State).fRegs.a1),((⟨i64 (z1.fPc + 1),z1.fLeft,z1.fRegs⟩ : Sproc_State).fRegs.a2),((⟨i64 (z1.fPc + 1),z1.fLeft,z1.fRegs⟩ : Sproc_State).fRegs.a3),zeg.1,zeg.2,0,([] : List Int),none,0⟩ h (.cons rfl (.cons rfl (.cons rfl .nil))) (.cons .h2 (.cons .h5 (.cons .h4 (.cons .h1 (.cons .here .nil)))))
   rcases yp h with ⟨zvM,h⟩ | h
   ·skip
    obtain ⟨zeh,zvN,h⟩:=zd h
    refine WL.a (d:=39) rfl rfl rfl (y5 yq rfl (yx (k:=13) hz.pv hG0 zvM rfl)) ?_
    refine WL.pu rfl ?_
    refine WL.nilRow 5 1 ?_
    refine WL.b (dd:=41) rfl rfl rfl (ye (l:=[.tmp 40]) Tryd.call95 rfl (.cons rfl .nil)) (.cons .h1 (.cons .h5 (.cons .here .nil))) (cc hz (.cons .h1 (.cons .h5 (.cons .here .nil))) fun w pz ho=>y4r _ _ _ _ _ _ _ _ _ _ _ _ _ _ zvN w pz  ho) ?_
    refine WL.nil ?_
    refine WX.nilRow 5 1 ?_
    exact WX.mid (G:=Int × Int × Int × Int × Int × Int × Int × Int × Int × List Int × Option Addr × Nat) ⟨((⟨i64 (z1.fPc + 1),z1.fLeft,z1.fRegs⟩ : Sproc_State).fPc),((⟨i64 (z1.fPc + 1),z1.fLeft,z1.fRegs⟩ : Sproc_State).fLeft),((⟨i64 (z1.fPc + 1),z1.fLeft,z1.fRegs⟩ : Sproc_State).fRegs.a0),((⟨i64 (z1.fPc + 1),z1.fLeft,z1.fRegs⟩ : Sproc_State).fRegs.a1),((⟨i64 (z1.fPc + 1),z1.fLeft,z1.fRegs⟩ : Sproc_State).fRegs.a2),((⟨i64 (z1.fPc + 1),z1.fLeft,z1.fRegs⟩ : Sproc_State).fRegs.a3),zeh.1,zeh.2,0,([] : List Int),none,0⟩ h (.cons rfl (.cons rfl (.cons rfl .nil))) (.cons .h2 (.cons .h5 (.cons .h4 (.cons .h1 (.cons .here .nil)))))
   rcases yp h with ⟨zvO,h⟩ | h
   ·skip
    obtain ⟨zei,zvP,h⟩:=zd h
    refine WL.a (d:=39) rfl rfl rfl (y5 yq rfl (yx (k:=14) hz.pv hG0 zvO rfl)) ?_
    refine WL.pu rfl ?_
    refine WL.nilRow 5 1 ?_
    refine WL.y1Z (dd:=41) rfl rfl rfl (ye (l:=[.tmp 40]) Tryd.call96 rfl (.cons rfl .nil)) (.cons .h1 (.cons .h5 (.cons .here .nil))) (cc hz (.cons .h1 (.cons .h5 (.cons .here .nil))) fun w pz ho=>y5i _ _ _ _ _ _ _ _ _ _ _ _ _ _ zvP w pz  ho) ?_
    rintro zvQ zvR _
    refine WL.nil ?_
    exact WX.mid (G:=Int × Int × Int × Int × Int × Int × Int × Int × Int × List Int × Option Addr × Nat) ⟨((⟨i64 (z1.fPc + 1),z1.fLeft,z1.fRegs⟩ : Sproc_State).fPc),((⟨i64 (z1.fPc + 1),z1.fLeft,z1.fRegs⟩ : Sproc_State).fLeft),((⟨i64 (z1.fPc + 1),z1.fLeft,z1.fRegs⟩ : Sproc_State).fRegs.a0),((⟨i64 (z1.fPc + 1),z1.fLeft,z1.fRegs⟩ : Sproc_State).fRegs.a1),((⟨i64 (z1.fPc + 1),z1.fLeft,z1.fRegs⟩ : Sproc_State).fRegs.a2),((⟨i64 (z1.fPc + 1),z1.fLeft,z1.fRegs⟩ : Sproc_State).fRegs.a3),zei.1,zei.2,0,([nth ([(⟨i64 (z1.fPc + 1),z1.fLeft,z1.fRegs⟩ : Sproc_State).fRegs.a0,(⟨i64 (z1.fPc + 1),z1.fLeft,z1.fRegs⟩ : Sproc_State).fRegs.a1,(⟨i64 (z1.fPc + 1),z1.fLeft,z1.fRegs⟩ : Sproc_State).fRegs.a2,(⟨i64 (z1.fPc + 1),z1.fLeft,z1.fRegs⟩ : Sproc_State).fRegs.a3] : List Int) z12.1.fB] : List Int),zvQ,zvR⟩ h (.cons rfl (.cons rfl (.cons rfl .nil))) (.cons .h1 (.cons .h5 (.cons .h4 (.cons .here (.cons .here .nil)))))
   rcases yp h with ⟨zvS,h⟩ | h
   ·skip
    obtain ⟨zej,zvT,h⟩:=zd h
    refine WL.a (d:=39) rfl rfl rfl (y5 yq rfl (yx (k:=15) hz.pv hG0 zvS rfl)) ?_
    refine WL.pu rfl ?_
    refine WL.nilRow 5 1 ?_
    refine WL.b (dd:=41) rfl rfl rfl (ye (l:=[.tmp 40]) Tryd.call97 rfl (.cons rfl .nil)) (.cons .h1 (.cons .h5 (.cons .here .nil))) (cc hz (.cons .h1 (.cons .h5 (.cons .here .nil))) fun w pz ho=>y5j _ _ _ _ _ _ _ _ _ _ _ _ _ _ zvT w pz  ho) ?_
    refine WL.nil ?_
    refine WX.nilRow 5 1 ?_
    exact WX.mid (G:=Int × Int × Int × Int × Int × Int × Int × Int × Int × List Int × Option Addr × Nat) ⟨((⟨i64 (z1.fPc + 1),z1.fLeft,z1.fRegs⟩ : Sproc_State).fPc),((⟨i64 (z1.fPc + 1),z1.fLeft,z1.fRegs⟩ : Sproc_State).fLeft),((⟨i64 (z1.fPc + 1),z1.fLeft,z1.fRegs⟩ : Sproc_State).fRegs.a0),((⟨i64 (z1.fPc + 1),z1.fLeft,z1.fRegs⟩ : Sproc_State).fRegs.a1),((⟨i64 (z1.fPc + 1),z1.fLeft,z1.fRegs⟩ : Sproc_State).fRegs.a2),((⟨i64 (z1.fPc + 1),z1.fLeft,z1.fRegs⟩ : Sproc_State).fRegs.a3),zej.1,zej.2,0,([] : List Int),none,0⟩ h (.cons rfl (.cons rfl (.cons rfl .nil))) (.cons .h2 (.cons .h5 (.cons .h4 (.cons .h1 (.cons .here .nil)))))
   rcases yp h with ⟨zvU,h⟩ | h
   ·skip
    obtain ⟨zek,zvV,h⟩:=zd h
    refine WL.a (d:=39) rfl rfl rfl (y5 yq rfl (yx (k:=16) hz.pv hG0 zvU rfl)) ?_
    refine WL.pu rfl ?_
    refine WL.nilRow 5 1 ?_
    refine WL.y1Z (dd:=41) rfl rfl rfl (ye (l:=[.tmp 40]) Tryd.call98 rfl (.cons rfl .nil)) (.cons .h1 (.cons .h5 (.cons .here .nil))) (cc hz (.cons .h1 (.cons .h5 (.cons .here .nil))) fun w pz ho=>y4O _ _ _ _ _ _ _ _ _ _ _ _ _ _ zvV w pz  ho) ?_
    rintro zvW zvX _
    refine WL.nil ?_
    exact WX.mid (G:=Int × Int × Int × Int × Int × Int × Int × Int × Int × List Int × Option Addr × Nat) ⟨((⟨i64 (z1.fPc + 1),z1.fLeft,z1.fRegs⟩ : Sproc_State).fPc),((⟨i64 (z1.fPc + 1),z1.fLeft,z1.fRegs⟩ : Sproc_State).fLeft),((⟨i64 (z1.fPc + 1),z1.fLeft,z1.fRegs⟩ : Sproc_State).fRegs.a0),((⟨i64 (z1.fPc + 1),z1.fLeft,z1.fRegs⟩ : Sproc_State).fRegs.a1),((⟨i64 (z1.fPc + 1),z1.fLeft,z1.fRegs⟩ : Sproc_State).fRegs.a2),((⟨i64 (z1.fPc + 1),z1.fLeft,z1.fRegs⟩ : Sproc_State).fRegs.a3),zek.1,zek.2,0,([nth ([(⟨i64 (z1.fPc + 1),z1.fLeft,z1.fRegs⟩ : Sproc_State).fRegs.a0,(⟨i64 (z1.fPc + 1),z1.fLeft,z1.fRegs⟩ : Sproc_State).fRegs.a1,(⟨i64 (z1.fPc + 1),z1.fLeft,z1.fRegs⟩ : Sproc_State).fRegs.a2,(⟨i64 (z1.fPc + 1),z1.fLeft,z1.fRegs⟩ : Sproc_State).fRegs.a3] : List Int) z12.1.fB] : List Int),zvW,zvX⟩ h (.cons rfl (.cons rfl (.cons rfl .nil))) (.cons .h1 (.cons .h5 (.cons .h4 (.cons .here (.cons .here .nil)))))
   rcases yp h with ⟨zvY,h⟩ | h
   ·skip
    obtain ⟨zel,zvZ,h⟩:=zd h
    refine WL.a (d:=39) rfl rfl rfl (y5 yq rfl (yx (k:=17) hz.pv hG0 zvY rfl)) ?_
    refine WL.pu rfl ?_
    refine WL.nilRow 5 1 ?_
    refine WL.b (dd:=41) rfl rfl rfl (ye (l:=[.tmp 40]) Tryd.call99 rfl (.cons rfl .nil)) (.cons .h1 (.cons .h5 (.cons .here .nil))) (cc hz (.cons .h1 (.cons .h5 (.cons .here .nil))) fun w pz ho=>y4P _ _ _ _ _ _ _ _ _ _ _ _ _ _ zvZ w pz  ho) ?_
    refine WL.nil ?_
    refine WX.nilRow 5 1 ?_
    exact WX.mid (G:=Int × Int × Int × Int × Int × Int × Int × Int × Int × List Int × Option Addr × Nat) ⟨((⟨i64 (z1.fPc + 1),z1.fLeft,z1.fRegs⟩ : Sproc_State).fPc),((⟨i64 (z1.fPc + 1),z1.fLeft,z1.fRegs⟩ : Sproc_State).fLeft),((⟨i64 (z1.fPc + 1),z1.fLeft,z1.fRegs⟩ : Sproc_State).fRegs.a0),((⟨i64 (z1.fPc + 1),z1.fLeft,z1.fRegs⟩ : Sproc_State).fRegs.a1),((⟨i64 (z1.fPc + 1),z1.fLeft,z1.fRegs⟩ : Sproc_State).fRegs.a2),((⟨i64 (z1.fPc + 1),z1.fLeft,z1.fRegs⟩ : Sproc_State).fRegs.a3),zel.1,zel.2,0,([] : List Int),none,0⟩ h (.cons rfl (.cons rfl (.cons rfl .nil))) (.cons .h2 (.cons .h5 (.cons .h4 (.cons .h1 (.cons .here .nil)))))
   rcases yp h with ⟨zw0,h⟩ | h
   ·skip
    obtain ⟨zem,zw1,h⟩:=zd h
    refine WL.a (d:=39) rfl rfl rfl (y5 yq rfl (yx (k:=18) hz.pv hG0 zw0 rfl)) ?_
    refine WL.pu rfl ?_
    refine WL.nilRow 5 1 ?_
    refine WL.b (dd:=41) rfl rfl rfl (ye (l:=[.tmp 40]) Tryd.call100 rfl (.cons rfl .nil)) (.cons .h1 (.cons .h5 (.cons .here .nil))) (cc hz (.cons .h1 (.cons .h5 (.cons .here .nil))) fun w pz ho=>y4s _ _ _ _ _ _ _ _ _ _ _ _ _ _ zw1 w pz  ho) ?_
    refine WL.nil ?_
    refine WX.nilRow 5 1 ?_
    exact WX.mid (G:=Int × Int × Int × Int × Int × Int × Int × Int × Int × List Int × Option Addr × Nat) ⟨((⟨i64 (z1.fPc + 1),z1.fLeft,z1.fRegs⟩ : Sproc_State).fPc),((⟨i64 (z1.fPc + 1),z1.fLeft,z1.fRegs⟩ : Sproc_State).fLeft),((⟨i64 (z1.fPc + 1),z1.fLeft,z1.fRegs⟩ : Sproc_State).fRegs.a0),((⟨i64 (z1.fPc + 1),z1.fLeft,z1.fRegs⟩ : Sproc_State).fRegs.a1),((⟨i64 (z1.fPc + 1),z1.fLeft,z1.fRegs⟩ : Sproc_State).fRegs.a2),((⟨i64 (z1.fPc + 1),z1.fLeft,z1.fRegs⟩ : Sproc_State).fRegs.a3),zem.1,zem.2,0,([] : List Int),none,0⟩ h (.cons rfl (.cons rfl (.cons rfl .nil))) (.cons .h2 (.cons .h5 (.cons .h4 (.cons .h1 (.cons .here .nil)))))
   rcases yp h with ⟨zw2,h⟩ | h
   ·skip
    obtain ⟨zvd,zw3,h⟩:=zd h
    refine WL.a (d:=39) rfl rfl rfl (y5 yq rfl (yx (k:=19) hz.pv hG0 zw2 rfl)) ?_
    refine WL.pu rfl ?_
    refine WL.nilRow 5 1 ?_
    refine WL.b (dd:=41) rfl rfl rfl (ye (l:=[.tmp 40]) Tryd.call101 rfl (.cons rfl .nil)) (.cons .h1 (.cons .h5 (.cons .here .nil))) (cc hz (.cons .h1 (.cons .h5 (.cons .here .nil))) fun w pz ho=>y4Q _ _ _ _ _ _ _ _ _ _ _ _ _ _ zw3 w pz  ho) ?_
    refine WL.nil ?_
    refine WX.nilRow 5 1 ?_
    exact WX.mid (G:=Int × Int × Int × Int × Int × Int × Int × Int × Int × List Int × Option Addr × Nat) ⟨((⟨i64 (z1.fPc + 1),z1.fLeft,z1.fRegs⟩ : Sproc_State).fPc),((⟨i64 (z1.fPc + 1),z1.fLeft,z1.fRegs⟩ : Sproc_State).fLeft),((⟨i64 (z1.fPc + 1),z1.fLeft,z1.fRegs⟩ : Sproc_State).fRegs.a0),((⟨i64 (z1.fPc + 1),z1.fLeft,z1.fRegs⟩ : Sproc_State).fRegs.a1),((⟨i64 (z1.fPc + 1),z1.fLeft,z1.fRegs⟩ : Sproc_State).fRegs.a2),((⟨i64 (z1.fPc + 1),z1.fLeft,z1.fRegs⟩ : Sproc_State).fRegs.a3),14,0,0,([] : List Int),none,0⟩ h (.cons rfl (.cons rfl (.cons rfl .nil))) (.cons .h2 (.cons .h5 (.cons .h4 (.cons .h1 (.cons .here .nil)))))
   rcases yp h with ⟨zw4,h⟩ | h
   ·skip
    obtain ⟨zhd,zw5,h⟩:=zd h
    refine WL.a (d:=39) rfl rfl rfl (y5 yq rfl (yx (k:=20) hz.pv hG0 zw4 rfl)) ?_
    refine WL.pu rfl ?_
    refine WL.nilRow 5 1 ?_
    refine WL.b (dd:=41) rfl rfl rfl (ye (l:=[.tmp 40]) Tryd.call102 rfl (.cons rfl .nil)) (.cons .h1 (.cons .h5 (.cons .here .nil))) (cc hz (.cons .h1 (.cons .h5 (.cons .here .nil))) fun w pz ho=>y4R _ _ _ _ _ _ _ _ _ _ _ _ _ _ zw5 w pz  ho) ?_
    refine WL.nil ?_
    exact WX.mid (G:=Int × Int × Int × Int × Int × Int × Int × Int × Int × List Int × Option Addr × Nat) ⟨zhd,((⟨i64 (z1.fPc + 1),z1.fLeft,z1.fRegs⟩ : Sproc_State).fLeft),((⟨i64 (z1.fPc + 1),z1.fLeft,z1.fRegs⟩ : Sproc_State).fRegs.a0),((⟨i64 (z1.fPc + 1),z1.fLeft,z1.fRegs⟩ : Sproc_State).fRegs.a1),((⟨i64 (z1.fPc + 1),z1.fLeft,z1.fRegs⟩ : Sproc_State).fRegs.a2),((⟨i64 (z1.fPc + 1),z1.fLeft,z1.fRegs⟩ : Sproc_State).fRegs.a3),0,0,0,([] : List Int),none,0⟩ h (.cons rfl (.cons rfl (.cons rfl .nil))) (.cons .h1 (.cons .h4 (.cons .h3 (.cons .here (.cons .here .nil)))))
   rcases yp h with ⟨zw6,h⟩ | h
   ·skip
    obtain ⟨zhe,zw7,h⟩:=zd h
    refine WL.a (d:=39) rfl rfl rfl (y5 yq rfl (yx (k:=21) hz.pv hG0 zw6 rfl)) ?_
    refine WL.pu rfl ?_
    refine WL.nilRow 5 1 ?_
    refine WL.b (dd:=41) rfl rfl rfl (ye (l:=[.tmp 40]) Tryd.call103 rfl (.cons rfl .nil)) (.cons .h1 (.cons .h5 (.cons .here .nil))) (cc hz (.cons .h1 (.cons .h5 (.cons .here .nil))) fun w pz ho=>y4S _ _ _ _ _ _ _ _ _ _ _ _ _ _ zw7 w pz  ho) ?_
    refine WL.nil ?_
    exact WX.mid (G:=Int × Int × Int × Int × Int × Int × Int × Int × Int × List Int × Option Addr × Nat) ⟨zhe,((⟨i64 (z1.fPc + 1),z1.fLeft,z1.fRegs⟩ : Sproc_State).fLeft),((⟨i64 (z1.fPc + 1),z1.fLeft,z1.fRegs⟩ : Sproc_State).fRegs.a0),((⟨i64 (z1.fPc + 1),z1.fLeft,z1.fRegs⟩ : Sproc_State).fRegs.a1),((⟨i64 (z1.fPc + 1),z1.fLeft,z1.fRegs⟩ : Sproc_State).fRegs.a2),((⟨i64 (z1.fPc + 1),z1.fLeft,z1.fRegs⟩ : Sproc_State).fRegs.a3),0,0,0,([] : List Int),none,0⟩ h (.cons rfl (.cons rfl (.cons rfl .nil))) (.cons .h1 (.cons .h4 (.cons .h3 (.cons .here (.cons .here .nil)))))
   rcases yp h with ⟨zw8,h⟩ | h
   ·skip
    obtain ⟨zhf,zw9,h⟩:=zd h
    refine WL.a (d:=39) rfl rfl rfl (y5 yq rfl (yx (k:=22) hz.pv hG0 zw8 rfl)) ?_
    refine WL.pu rfl ?_
    refine WL.nilRow 5 1 ?_
    refine WL.b (dd:=41) rfl rfl rfl (ye (l:=[.tmp 40]) Tryd.call104 rfl (.cons rfl .nil)) (.cons .h1 (.cons .h5 (.cons .here .nil))) (cc hz (.cons .h1 (.cons .h5 (.cons .here .nil))) fun w pz ho=>y4T _ _ _ _ _ _ _ _ _ _ _ _ _ _ zw9 w pz  ho) ?_
    refine WL.nil ?_
    exact WX.mid (G:=Int × Int × Int × Int × Int × Int × Int × Int × Int × List Int × Option Addr × Nat) ⟨zhf,((⟨i64 (z1.fPc + 1),z1.fLeft,z1.fRegs⟩ : Sproc_State).fLeft),((⟨i64 (z1.fPc + 1),z1.fLeft,z1.fRegs⟩ : Sproc_State).fRegs.a0),((⟨i64 (z1.fPc + 1),z1.fLeft,z1.fRegs⟩ : Sproc_State).fRegs.a1),((⟨i64 (z1.fPc + 1),z1.fLeft,z1.fRegs⟩ : Sproc_State).fRegs.a2),((⟨i64 (z1.fPc + 1),z1.fLeft,z1.fRegs⟩ : Sproc_State).fRegs.a3),0,0,0,([] : List Int),none,0⟩ h (.cons rfl (.cons rfl (.cons rfl .nil))) (.cons .h1 (.cons .h4 (.cons .h3 (.cons .here (.cons .here .nil)))))
   rcases yp h with ⟨zwa,h⟩ | h
   ·skip
    obtain ⟨z4m,zwb,h⟩:=zd h
    refine WL.a (d:=39) rfl rfl rfl (y5 yq rfl (yx (k:=23) hz.pv hG0 zwa rfl)) ?_
    refine WL.pu rfl ?_
    refine WL.nilRow 5 1 ?_
    refine WL.y1Z (dd:=41) rfl rfl rfl (ye (l:=[.tmp 40]) Tryd.call105 rfl (.cons rfl .nil)) (.cons .h1 (.cons .h5 (.cons .here .nil))) (cc hz (.cons .h1 (.cons .h5 (.cons .here .nil))) fun w pz ho=>y5k _ _ _ _ _ _ _ _ _ _ _ _ _ _ zwb w pz  ho) ?_
    rintro zwc zwd _
    refine WL.nil ?_
    exact WX.mid (G:=Int × Int × Int × Int × Int × Int × Int × Int × Int × List Int × Option Addr × Nat) ⟨((⟨i64 (z1.fPc + 1),z1.fLeft,z1.fRegs⟩ : Sproc_State).fPc),((⟨i64 (z1.fPc + 1),z1.fLeft,z1.fRegs⟩ : Sproc_State).fLeft),z4m.1,z4m.2.1,z4m.2.2.1,z4m.2.2.2.1,z4m.2.2.2.2.1,z4m.2.2.2.2.2.1,z4m.2.2.2.2.2.2.1,z4m.2.2.2.2.2.2.2,zwc,zwd⟩ h (.cons rfl (.cons rfl (.cons rfl .nil))) (.cons .h1 (.cons .h4 (.cons .h3 (.cons .here (.cons .here .nil)))))
   rcases yp h with ⟨zwe,h⟩ | h
   ·skip
    obtain ⟨zen,zwf,h⟩:=zd h
    refine WL.a (d:=39) rfl rfl rfl (y5 yq rfl (yx (k:=24) hz.pv hG0 zwe rfl)) ?_
    refine WL.pu rfl ?_
    refine WL.nilRow 5 1 ?_
    refine WL.b (dd:=41) rfl rfl rfl (ye (l:=[.tmp 40]) Tryd.call106 rfl (.cons rfl .nil)) (.cons .h1 (.cons .h5 (.cons .here .nil))) (cc hz (.cons .h1 (.cons .h5 (.cons .here .nil))) fun w pz ho=>y4t _ _ _ _ _ _ _ _ _ _ _ _ _ _ zwf w pz  ho) ?_
    refine WL.nil ?_
    refine WX.nilRow 5 1 ?_
    exact WX.mid (G:=Int × Int × Int × Int × Int × Int × Int × Int × Int × List Int × Option Addr × Nat) ⟨((⟨i64 (z1.fPc + 1),z1.fLeft,z1.fRegs⟩ : Sproc_State).fPc),((⟨i64 (z1.fPc + 1),z1.fLeft,z1.fRegs⟩ : Sproc_State).fLeft),((⟨i64 (z1.fPc + 1),z1.fLeft,z1.fRegs⟩ : Sproc_State).fRegs.a0),((⟨i64 (z1.fPc + 1),z1.fLeft,z1.fRegs⟩ : Sproc_State).fRegs.a1),((⟨i64 (z1.fPc + 1),z1.fLeft,z1.fRegs⟩ : Sproc_State).fRegs.a2),((⟨i64 (z1.fPc + 1),z1.fLeft,z1.fRegs⟩ : Sproc_State).fRegs.a3),15,zen.1,zen.2,([] : List Int),none,0⟩ h (.cons rfl (.cons rfl (.cons rfl .nil))) (.cons .h2 (.cons .h5 (.cons .h4 (.cons .h1 (.cons .here .nil)))))
   rcases yp h with ⟨zwg,h⟩ | h
   ·skip
    obtain ⟨zhg,zwh,h⟩:=zd h
    refine WL.a (d:=39) rfl rfl rfl (y5 yq rfl (yx (k:=25) hz.pv hG0 zwg rfl)) ?_
    refine WL.pu rfl ?_
    refine WL.nilRow 5 1 ?_
    refine WL.b (dd:=41) rfl rfl rfl (ye (l:=[.tmp 40]) Tryd.call107 rfl (.cons rfl .nil)) (.cons .h1 (.cons .h5 (.cons .here .nil))) (cc hz (.cons .h1 (.cons .h5 (.cons .here .nil))) fun w pz ho=>y4U _ _ _ _ _ _ _ _ _ _ _ _ _ _ zwh w pz  ho) ?_
    refine WL.nil ?_
    refine WX.nilRow 5 1 ?_
    exact WX.mid (G:=Int × Int × Int × Int × Int × Int × Int × Int × Int × List Int × Option Addr × Nat) ⟨zhg,((⟨i64 (z1.fPc + 1),z1.fLeft,z1.fRegs⟩ : Sproc_State).fLeft),((⟨i64 (z1.fPc + 1),z1.fLeft,z1.fRegs⟩ : Sproc_State).fRegs.a0),((⟨i64 (z1.fPc + 1),z1.fLeft,z1.fRegs⟩ : Sproc_State).fRegs.a1),((⟨i64 (z1.fPc + 1),z1.fLeft,z1.fRegs⟩ : Sproc_State).fRegs.a2),((⟨i64 (z1.fPc + 1),z1.fLeft,z1.fRegs⟩ : Sproc_State).fRegs.a3),16,0,0,([] : List Int),none,0⟩ h (.cons rfl (.cons rfl (.cons rfl .nil))) (.cons .h2 (.cons .h5 (.cons .h4 (.cons .h1 (.cons .here .nil)))))
   cases h
  ·rintro z7T z7U z7V z7W z7X z7Y z7Z z80 z81 z6x zbh zbi h
   replace h:=(zvg z7T z7U z7V z7W z7X z7Y z7Z z80 z81 z6x).symm.trans h
   refine WC.b ?_
   refine WC.yX (fun i=>[8,9].contains i) [stb zhi 65 [(.int .i64 z7T),(.int .i64 z7U),(.int .u8 z7V),(.int .u8 z7W),(.int .u8 z7X),(.int .u8 z7Y),(.int .u8 z12.1.fOp),(.int .i64 z12.1.fA),(.int .i64 z12.1.fB),(.int .i64 z12.1.fC),(.slice z4A z17.length z4B),(.int .u8 z7Z),(.int .i64 z80),(.int .i64 z81),(.slice zbh z6x.length zbi)]] rfl ?_
   refine WD.a (i:=0) (d:=42) (by kernel_rfl) rfl z2 z6 rfl rfl rfl (fun _=>q_m rfl) ?_
   refine WD.a (i:=1) (d:=43) (by kernel_rfl) rfl z2 z6 rfl rfl rfl (fun _=>y6 rfl) ?_
   refine WD.a (i:=2) (d:=44) (by kernel_rfl) rfl z2 z6 rfl rfl rfl (fun _=>y4 yI rfl rfl) ?_
   refine WD.e (i:=3) (d:=45) (by kernel_rfl) rfl z2 z6 rfl rfl rfl (y4Z (cs:=[(.int .i64 z7T),(.int .i64 z7U),(.int .u8 z7V),(.int .u8 z7W),(.int .u8 z7X),(.int .u8 z7Y)]) y13 rfl rfl (y6w (s:=6) .h3 rfl)) ?_
   refine WD.a (i:=4) (d:=46) (by kernel_rfl) rfl z2 z6 rfl rfl rfl (fun _=>q_m rfl) ?_
   refine WD.a (i:=5) (d:=47) (by kernel_rfl) rfl z2 z6 rfl rfl rfl (fun _=>y6 rfl) ?_
   refine WD.a (i:=6) (d:=48) (by kernel_rfl) rfl z2 z6 rfl rfl rfl (fun _=>y4 y2e rfl rfl) ?_
   refine WD.y1u (i:=7) (d:=49) (by kernel_rfl) rfl z2 z6 rfl rfl rfl (Sin.of (.cons .h3 .nil)) (y4Z (cs:=[(.int .u8 z7Z),(.int .i64 z80),(.int .i64 z81),(.slice zbh z6x.length zbi)]) y35 rfl rfl (y6w (s:=4) .here rfl)) ?_
   refine WD.forced0 (i:=8) rfl (by kernel_rfl) rfl rfl rfl (Sin.of (.cons .h3 .nil)) (yu y1p rfl rfl rfl .h1 rfl rfl rfl) ?_
   refine WD.y1t (i:=9) rfl (by kernel_rfl) rfl rfl rfl (by kernel_rfl) (yu y1g rfl rfl rfl .h2 rfl rfl rfl) ?_
   refine WD.done (by kernel_rfl) ?_
   refine WX.a (WC.ret ?_)
   obtain rfl:=Option.some.inj h
   refine WX.yh Tryd.results18 (.agg rfl y13 rfl (yJ .h1) (.agg rfl y35 rfl (yJ .here) .nil)) (fun w hw=>?_)
   exact ⟨zbh,zbi,y3T rfl rfl,trivial,hw.sub (.cons .h4 (.cons .h2 .nil))⟩
def y37 (zcc : List Sapi_Ins) (z7 : Sproc_State) (z1D : List Int) : Option Sproc_State :=
 (y2U zcc (i64 (z7.fPc - 1))).bind fun zn=>if (!zn.2) || (((decide (zn.1.fOp ≠ 8)) && (decide (zn.1.fOp ≠ 15))) && (decide (zn.1.fOp ≠ 17))) then some z7 else chk ((0 : Int) ≤ zn.1.fB ∧ zn.1.fB < 4) (jp4 (fun (z3c : Int) (z3d : Int) (z3e : Int) (z3f : Int)=>jp4 (fun (zbj : Int) (zbk : Int) (zbl : Int) (zbm : Int)=>some (⟨z7.fPc,z7.fLeft,(⟨zbj,zbk,zbl,zbm⟩ : S34)⟩ : Sproc_State)) fun zf4=>if decide (zn.1.fOp = 8) then chk ((0 : Int) ≤ zn.1.fC ∧ zn.1.fC < 4) (zf4 (nth (([z3c,z3d,z3e,z3f] : List Int).set (zn.1.fC : Int).toNat (u8 ((z1D.length : Nat) : Int))) 0) (nth (([z3c,z3d,z3e,z3f] : List Int).set (zn.1.fC : Int).toNat (u8 ((z1D.length : Nat) : Int))) 1) (nth (([z3c,z3d,z3e,z3f] : List Int).set (zn.1.fC : Int).toNat (u8 ((z1D.length : Nat) : Int))) 2) (nth (([z3c,z3d,z3e,z3f] : List Int).set (zn.1.fC : Int).toNat (u8 ((z1D.length : Nat) : Int))) 3)) else zf4 z3c z3d z3e z3f) fun zf5=>if decide (((z1D.length : Nat) : Int) > 0) then chk ((0 : Int) ≤ 0 ∧ 0 < ((z1D.length : Nat) : Int)) (chk ((0 : Int) ≤ zn.1.fB ∧ zn.1.fB < 4) (zf5 (nth (([nth (([z7.fRegs.a0,z7.fRegs.a1,z7.fRegs.a2,z7.fRegs.a3] : List Int).set (zn.1.fB : Int).toNat 0) 0,nth (([z7.fRegs.a0,z7.fRegs.a1,z7.fRegs.a2,z7.fRegs.a3] : List Int).set (zn.1.fB : Int).toNat 0) 1,nth (([z7.fRegs.a0,z7.fRegs.a1,z7.fRegs.a2,z7.fRegs.a3] : List Int).set (zn.1.fB : Int).toNat 0) 2,nth (([z7.fRegs.a0,z7.fRegs.a1,z7.fRegs.a2,z7.fRegs.a3] : List Int).set (zn.1.fB : Int).toNat 0) 3] : List Int).set (zn.1.fB : Int).toNat (nth z1D 0)) 0) (nth (([nth (([z7.fRegs.a0,z7.fRegs.a1,z7.fRegs.a2,z7.fRegs.a3] : List Int).set (zn.1.fB : Int).toNat 0) 0,nth (([z7.fRegs.a0,z7.fRegs.a1,z7.fRegs.a2,z7.fRegs.a3] : List Int).set (zn.1.fB : Int).toNat 0) 1,nth (([z7.fRegs.a0,z7.fRegs.a1,z7.fRegs.a2,z7.fRegs.a3] : List Int).set (zn.1.fB : Int).toNat 0) 2,nth (([z7.fRegs.a0,z7.fRegs.a1,z7.fRegs.a2,z7.fRegs.a3] : List Int).set (zn.1.fB : Int).toNat 0) 3] : List Int).set (zn.1.fB : Int).toNat (nth z1D 0)) 1) (nth (([nth (([z7.fRegs.a0,z7.fRegs.a1,z7.fRegs.a2,z7.fRegs.a3] : List Int).set (zn.1.fB : Int).toNat 0) 0,nth (([z7.fRegs.a0,z7.fRegs.a1,z7.fRegs.a2,z7.fRegs.a3] : List Int).set (zn.1.fB : Int).toNat 0) 1,nth (([z7.fRegs.a0,z7.fRegs.a1,z7.fRegs.a2,z7.fRegs.a3] : List Int).set (zn.1.fB : Int).toNat 0) 2,nth (([z7.fRegs.a0,z7.fRegs.a1,z7.fRegs.a2,z7.fRegs.a3] : List Int).set (zn.1.fB : Int).toNat 0) 3] : List Int).set (zn.1.fB : Int).toNat (nth z1D 0)) 2) (nth (([nth (([z7.fRegs.a0,z7.fRegs.a1,z7.fRegs.a2,z7.fRegs.a3] : List Int).set (zn.1.fB : Int).toNat 0) 0,nth (([z7.fRegs.a0,z7.fRegs.a1,z7.fRegs.a2,z7.fRegs.a3] : List Int).set (zn.1.fB : Int).toNat 0) 1,nth (([z7.fRegs.a0,z7.fRegs.a1,z7.fRegs.a2,z7.fRegs.a3] : List Int).set (zn.1.fB : Int).toNat 0) 2,nth (([z7.fRegs.a0,z7.fRegs.a1,z7.fRegs.a2,z7.fRegs.a3] : List Int).set (zn.1.fB : Int).toNat 0) 3] : List Int).set (zn.1.fB : Int).toNat (nth z1D 0)) 3))) else zf5 (nth (([z7.fRegs.a0,z7.fRegs.a1,z7.fRegs.a2,z7.fRegs.a3] : List Int).set (zn.1.fB : Int).toNat 0) 0) (nth (([z7.fRegs.a0,z7.fRegs.a1,z7.fRegs.a2,z7.fRegs.a3] : List Int).set (zn.1.fB : Int).toNat 0) 1) (nth (([z7.fRegs.a0,z7.fRegs.a1,z7.fRegs.a2,z7.fRegs.a3] : List Int).set (zn.1.fB : Int).toNat 0) 2) (nth (([z7.fRegs.a0,z7.fRegs.a1,z7.fRegs.a2,z7.fRegs.a3] : List Int).set (zn.1.fB : Int).toNat 0) 3))
set_option maxRecDepth 20000 in
theorem y6g (Z : Zp) (zf6 : Option Addr) (zf7 : Nat) (zeo : Option Addr) (zep : Nat) (zcc : List Sapi_Ins) (z7 : Sproc_State) (z1D : List Int) (r : Sproc_State)
  (h : y37 zcc z7 z1D = some r) (w₀ : World) (hz : PZ [] w₀ Z)
  (hG1 : ZS Z 1 (p74 Z) (some ⟨1,0,none⟩) 26 y17)
  (zwi : ZS Z 4 (fun r x=>r = e33 x) zf6 zf7 zcc)
  (zwj : ZS Z 1 (fun r x=>r = e5 x) zeo zep z1D) :
  Calls Tryd.prog 36 #[(.slice zf6 zcc.length zf7),(.agg #[(.int .i64 z7.fPc),(.int .i64 z7.fLeft),(.int .u8 z7.fRegs.a0),(.int .u8 z7.fRegs.a1),(.int .u8 z7.fRegs.a2),(.int .u8 z7.fRegs.a3)]),(.slice zeo z1D.length zep)] w₀ fun e w'=>e = .returned (.agg #[(.int .i64 r.fPc),(.int .i64 r.fLeft),(.int .u8 r.fRegs.a0),(.int .u8 r.fRegs.a1),(.int .u8 r.fRegs.a2),(.int .u8 r.fRegs.a3)]) ∧ Hp [] w₀ w' []:=by
 unfold y37 at h
 refine Calls.y8 (vs:=[(.slice zf6 zcc.length zf7),(.agg #[(.int .i64 z7.fPc),(.int .i64 z7.fLeft),(.int .u8 z7.fRegs.a0),(.int .u8 z7.fRegs.a1),(.int .u8 z7.fRegs.a2),(.int .u8 z7.fRegs.a3)]),(.slice zeo z1D.length zep)]) (pre:=[]) (env:=[(0,(.slice zf6 zcc.length zf7)),(1,(.agg #[(.int .i64 z7.fPc),(.int .i64 z7.fLeft),(.int .u8 z7.fRegs.a0),(.int .u8 z7.fRegs.a1),(.int .u8 z7.fRegs.a2),(.int .u8 z7.fRegs.a3)])),(2,(.slice zeo z1D.length zep))]) Tryd.func36 rfl Tryd.ntmps36 rfl (Hp.nil w₀ _) rfl ?_
 refine WC.b (WC.a ?_)
 refine WL.new (dd:=4) rfl rfl rfl (y3m (cs:=[(.int .i64 z7.fPc),(.int .i64 z7.fLeft),(.int .u8 z7.fRegs.a0),(.int .u8 z7.fRegs.a1),(.int .u8 z7.fRegs.a2),(.int .u8 z7.fRegs.a3)]) rfl rfl) ?_
 intro zf8 _
 refine WL.new (dd:=6) rfl rfl rfl (yE (cs:=[(.int .i64 0),(.int .i64 0),(.int .u8 0),(.int .u8 0),(.int .u8 0),(.int .u8 0)]) y1z rfl) ?_
 intro zf9 _
 refine WL.nil (WX.a (WC.b ?_))
 obtain ⟨zn,zwk,h⟩:=zd h
 refine WC.a (WL.pu rfl ?_)
 refine WL.a (d:=11) rfl rfl rfl (y4 y1c rfl rfl) ?_
 refine WL.a (d:=12) rfl rfl rfl (y5 yd rfl (yb .h1 rfl)) ?_
 refine WL.pu rfl ?_
 refine WL.b (dd:=14) rfl rfl rfl (zl (l:=[.tmp 10,.tmp 13]) Tryd.call33 (.cons rfl (.cons rfl .nil))) .nil (cc hz .nil fun w pz ho=>y4B _ _ _ _ _ _ zwk w pz hG1 zwi) ?_
 refine WL.pu rfl (WL.pu rfl (WL.pu rfl ?_))
 refine WL.new (dd:=7) rfl rfl rfl (yE (cs:=[(.int .u8 0),(.int .i64 0),(.int .i64 0),(.int .i64 0)]) y3W rfl) ?_
 intro zl3 _
 refine WL.yg rfl rfl (yu y3X rfl rfl rfl .here rfl rfl rfl) ?_
 refine WL.pu rfl (WL.nil (WX.a (WC.b (WC.b (WC.a (WL.pu rfl (WL.pu rfl (WL.pu rfl ?_))))))))
 refine WL.seg false 13 19 (B:=(!zn.2) || (((decide (zn.1.fOp ≠ 8)) && (decide (zn.1.fOp ≠ 15))) && (decide (zn.1.fOp ≠ 17)))) rfl rfl rfl rfl rfl rfl (fun h=>(or_l h).symm) (fun _ zwl=>?_) ?_
 ·skip
  refine WL.a (d:=20) rfl rfl rfl (y4 y2C rfl rfl) ?_
  refine WL.a (d:=21) rfl rfl rfl (y5 yB rfl (yb .here rfl)) ?_
  refine WL.pu rfl (WL.pu rfl ?_)
  refine WL.seg true 3 23 (B:=(decide (zn.1.fOp ≠ 8)) && (decide (zn.1.fOp ≠ 15))) rfl rfl rfl rfl rfl rfl (fun h=>(y3A h).symm) (fun _ zwm=>?_) ?_
  ·skip
   refine WL.a (d:=24) rfl rfl rfl (y4 y2C rfl rfl) ?_
   refine WL.a (d:=25) rfl rfl rfl (y5 yB rfl (yb .here rfl)) ?_
   refine WL.pu rfl (WL.pu rfl ?_)
   exact WL.yN (y3B zwm) rfl rfl .all
  refine WL.pu rfl ?_
  refine WL.seg true 3 28 (B:=((decide (zn.1.fOp ≠ 8)) && (decide (zn.1.fOp ≠ 15))) && (decide (zn.1.fOp ≠ 17))) rfl rfl rfl rfl rfl rfl (fun h=>(y3A h).symm) (fun _ zwn=>?_) ?_
  ·skip
   refine WL.a (d:=29) rfl rfl rfl (y4 y2C rfl rfl) ?_
   refine WL.a (d:=30) rfl rfl rfl (y5 yB rfl (yb .here rfl)) ?_
   refine WL.pu rfl (WL.pu rfl ?_)
   exact WL.yN (y3B zwn) rfl rfl .all
  refine WL.pu rfl ?_
  exact WL.yN (or_r zwl) rfl rfl .all
 refine WL.nil (WX.a ?_)
 refine WC.cond rfl (fun zhj=>?_) (fun zhj=>?_)
 ·replace h:=yl h zhj
  refine WC.b (WC.a ?_)
  refine WL.a (d:=34) rfl rfl rfl (yV y13 rfl (yJ .h2) rfl) ?_
  refine WL.yg rfl rfl (yu y1p rfl rfl rfl .h1 rfl rfl rfl) ?_
  refine WL.nil (WX.a (WC.ret (WX.yf ?_)))
  obtain rfl:=Option.some.inj h
  refine WX.yh Tryd.results36 (.agg rfl y13 rfl (yJ .here) .nil) (fun w hw=>?_)
  exact ⟨y1a rfl,hw.sub .nil⟩
 ·replace h:=ym h zhj
  refine WC.skip (WX.a (WC.b ?_))
  obtain ⟨zl4,h⟩:=ya h
  refine WC.a ?_
  refine WL.a (d:=35) rfl rfl rfl (y4 y14 rfl rfl) ?_
  refine WL.a (d:=36) rfl rfl rfl (y5 yd rfl (yb .here rfl)) ?_
  refine WL.a (d:=37) rfl rfl rfl (y4 y51 rfl rfl) ?_
  refine WL.a (d:=38) rfl rfl rfl (y2s y60 rfl rfl zl4 y4z) ?_
  refine WL.yg rfl rfl (y1m (l:=([z7.fRegs.a0,z7.fRegs.a1,z7.fRegs.a2,z7.fRegs.a3] : List Int)) (f:=Value.int .u8) (u:=0) (k:=2) (m:=6) (j:=4) (ds:=[(.int .i64 z7.fPc),(.int .i64 z7.fLeft),(.int .u8 (nth (([z7.fRegs.a0,z7.fRegs.a1,z7.fRegs.a2,z7.fRegs.a3] : List Int).set (zn.1.fB : Int).toNat 0) 0)),(.int .u8 (nth (([z7.fRegs.a0,z7.fRegs.a1,z7.fRegs.a2,z7.fRegs.a3] : List Int).set (zn.1.fB : Int).toNat 0) 1)),(.int .u8 (nth (([z7.fRegs.a0,z7.fRegs.a1,z7.fRegs.a2,z7.fRegs.a3] : List Int).set (zn.1.fB : Int).toNat 0) 2)),(.int .u8 (nth (([z7.fRegs.a0,z7.fRegs.a1,z7.fRegs.a2,z7.fRegs.a3] : List Int).set (zn.1.fB : Int).toNat 0) 3))]) y2h rfl rfl rfl rfl .h2 rfl rfl zl4 rfl rfl) ?_
  refine WL.nil (WX.a ?_)
  obtain ⟨zf5,zwo,h⟩:=y7d h
  refine WC.y6v (fun (z3c : Int) (z3d : Int) (z3e : Int) (z3f : Int)=>(zf5 z3c z3d z3e z3f = some r)) (fun (z3c : Int) (z3d : Int) (z3e : Int) (z3f : Int)=>[(2,(.slice zeo z1D.length zep)),(4,(.pointer (some ⟨zf8,0,none⟩))),(6,(.pointer (some ⟨zf9,0,none⟩))),(7,(.pointer (some ⟨zl3,0,none⟩)))]) (fun (z3c : Int) (z3d : Int) (z3e : Int) (z3f : Int)=>[stb zf8 39 [(.int .i64 z7.fPc),(.int .i64 z7.fLeft),(.int .u8 z3c),(.int .u8 z3d),(.int .u8 z3e),(.int .u8 z3f)],stb zf9 39 [(.int .i64 0),(.int .i64 0),(.int .u8 0),(.int .u8 0),(.int .u8 0),(.int .u8 0)],stb zl3 33 [(.int .u8 zn.1.fOp),(.int .i64 zn.1.fA),(.int .i64 zn.1.fB),(.int .i64 zn.1.fC)]]) ?_ ?_
  ·skip
   refine WC.b (WC.a (WL.pu rfl ?_))
   refine WL.a (d:=40) rfl rfl rfl (y1s Tryd.underlying35 rfl) ?_
   refine WL.pu rfl (WL.nil (WX.a ?_))
   refine WC.cond rfl (fun zhk=>?_) (fun zhk=>?_)
   ·replace h:=yl h zhk
    obtain ⟨zwp,h⟩:=ya h
    obtain ⟨zl5,h⟩:=ya h
    refine WC.yX (fun i=>[7].contains i) [] rfl ?_
    refine WD.a (i:=0) (d:=42) (by kernel_rfl) rfl z2 z6 rfl rfl rfl (fun _=>y4 y14 rfl rfl) ?_
    refine WD.e (i:=1) (d:=43) (by kernel_rfl) rfl z2 z6 rfl rfl rfl (y5 yd rfl (yb .h1 rfl)) ?_
    refine WD.a (i:=2) (d:=44) (by kernel_rfl) rfl z2 z6 rfl rfl rfl (fun _=>q_m rfl) ?_
    refine WD.znth (j:=3) (dd:=45) (by kernel_rfl) rfl z2 z6 rfl rfl (Z:=Z) (Pr:=(fun r x=>r = e5 x)) y1v rfl rfl zwj zwp ?_
    rintro zy5 zy6 zwq zy7 rfl
    refine WD.e (i:=4) (d:=46) (by kernel_rfl) rfl z2 z6 rfl rfl rfl (y5 yB rfl (y3u hz.pv zwq rfl)) ?_
    refine WD.a (i:=5) (d:=47) (by kernel_rfl) rfl z2 z6 rfl rfl rfl (fun _=>y4 y51 rfl rfl) ?_
    refine WD.a (i:=6) (d:=48) (by kernel_rfl) rfl z2 z6 rfl rfl rfl (fun _=>y2s y60 rfl rfl zl5 y4z) ?_
    refine WD.y1t (i:=7) rfl (by kernel_rfl) rfl rfl rfl (by kernel_rfl) (y1m (l:=([nth (([z7.fRegs.a0,z7.fRegs.a1,z7.fRegs.a2,z7.fRegs.a3] : List Int).set (zn.1.fB : Int).toNat 0) 0,nth (([z7.fRegs.a0,z7.fRegs.a1,z7.fRegs.a2,z7.fRegs.a3] : List Int).set (zn.1.fB : Int).toNat 0) 1,nth (([z7.fRegs.a0,z7.fRegs.a1,z7.fRegs.a2,z7.fRegs.a3] : List Int).set (zn.1.fB : Int).toNat 0) 2,nth (([z7.fRegs.a0,z7.fRegs.a1,z7.fRegs.a2,z7.fRegs.a3] : List Int).set (zn.1.fB : Int).toNat 0) 3] : List Int)) (f:=Value.int .u8) (u:=(nth z1D 0)) (k:=2) (m:=6) (j:=4) (ds:=[(.int .i64 z7.fPc),(.int .i64 z7.fLeft),(.int .u8 (nth (([nth (([z7.fRegs.a0,z7.fRegs.a1,z7.fRegs.a2,z7.fRegs.a3] : List Int).set (zn.1.fB : Int).toNat 0) 0,nth (([z7.fRegs.a0,z7.fRegs.a1,z7.fRegs.a2,z7.fRegs.a3] : List Int).set (zn.1.fB : Int).toNat 0) 1,nth (([z7.fRegs.a0,z7.fRegs.a1,z7.fRegs.a2,z7.fRegs.a3] : List Int).set (zn.1.fB : Int).toNat 0) 2,nth (([z7.fRegs.a0,z7.fRegs.a1,z7.fRegs.a2,z7.fRegs.a3] : List Int).set (zn.1.fB : Int).toNat 0) 3] : List Int).set (zn.1.fB : Int).toNat (nth z1D 0)) 0)),(.int .u8 (nth (([nth (([z7.fRegs.a0,z7.fRegs.a1,z7.fRegs.a2,z7.fRegs.a3] : List Int).set (zn.1.fB : Int).toNat 0) 0,nth (([z7.fRegs.a0,z7.fRegs.a1,z7.fRegs.a2,z7.fRegs.a3] : List Int).set (zn.1.fB : Int).toNat 0) 1,nth (([z7.fRegs.a0,z7.fRegs.a1,z7.fRegs.a2,z7.fRegs.a3] : List Int).set (zn.1.fB : Int).toNat 0) 2,nth (([z7.fRegs.a0,z7.fRegs.a1,z7.fRegs.a2,z7.fRegs.a3] : List Int).set (zn.1.fB : Int).toNat 0) 3] : List Int).set (zn.1.fB : Int).toNat (nth z1D 0)) 1)),(.int .u8 (nth (([nth (([z7.fRegs.a0,z7.fRegs.a1,z7.fRegs.a2,z7.fRegs.a3] : List Int).set (zn.1.fB : Int).toNat 0) 0,nth (([z7.fRegs.a0,z7.fRegs.a1,z7.fRegs.a2,z7.fRegs.a3] : List Int).set (zn.1.fB : Int).toNat 0) 1,nth (([z7.fRegs.a0,z7.fRegs.a1,z7.fRegs.a2,z7.fRegs.a3] : List Int).set (zn.1.fB : Int).toNat 0) 2,nth (([z7.fRegs.a0,z7.fRegs.a1,z7.fRegs.a2,z7.fRegs.a3] : List Int).set (zn.1.fB : Int).toNat 0) 3] : List Int).set (zn.1.fB : Int).toNat (nth z1D 0)) 2)),(.int .u8 (nth (([nth (([z7.fRegs.a0,z7.fRegs.a1,z7.fRegs.a2,z7.fRegs.a3] : List Int).set (zn.1.fB : Int).toNat 0) 0,nth (([z7.fRegs.a0,z7.fRegs.a1,z7.fRegs.a2,z7.fRegs.a3] : List Int).set (zn.1.fB : Int).toNat 0) 1,nth (([z7.fRegs.a0,z7.fRegs.a1,z7.fRegs.a2,z7.fRegs.a3] : List Int).set (zn.1.fB : Int).toNat 0) 2,nth (([z7.fRegs.a0,z7.fRegs.a1,z7.fRegs.a2,z7.fRegs.a3] : List Int).set (zn.1.fB : Int).toNat 0) 3] : List Int).set (zn.1.fB : Int).toNat (nth z1D 0)) 3))]) y2h rfl rfl rfl rfl .here rfl rfl zl5 rfl rfl) ?_
    refine WD.done (by kernel_rfl) ?_
    exact WX.mid (G:=Int × Int × Int × Int) ⟨(nth (([nth (([z7.fRegs.a0,z7.fRegs.a1,z7.fRegs.a2,z7.fRegs.a3] : List Int).set (zn.1.fB : Int).toNat 0) 0,nth (([z7.fRegs.a0,z7.fRegs.a1,z7.fRegs.a2,z7.fRegs.a3] : List Int).set (zn.1.fB : Int).toNat 0) 1,nth (([z7.fRegs.a0,z7.fRegs.a1,z7.fRegs.a2,z7.fRegs.a3] : List Int).set (zn.1.fB : Int).toNat 0) 2,nth (([z7.fRegs.a0,z7.fRegs.a1,z7.fRegs.a2,z7.fRegs.a3] : List Int).set (zn.1.fB : Int).toNat 0) 3] : List Int).set (zn.1.fB : Int).toNat (nth z1D 0)) 0),(nth (([nth (([z7.fRegs.a0,z7.fRegs.a1,z7.fRegs.a2,z7.fRegs.a3] : List Int).set (zn.1.fB : Int).toNat 0) 0,nth (([z7.fRegs.a0,z7.fRegs.a1,z7.fRegs.a2,z7.fRegs.a3] : List Int).set (zn.1.fB : Int).toNat 0) 1,nth (([z7.fRegs.a0,z7.fRegs.a1,z7.fRegs.a2,z7.fRegs.a3] : List Int).set (zn.1.fB : Int).toNat 0) 2,nth (([z7.fRegs.a0,z7.fRegs.a1,z7.fRegs.a2,z7.fRegs.a3] : List Int).set (zn.1.fB : Int).toNat 0) 3] : List Int).set (zn.1.fB : Int).toNat (nth z1D 0)) 1),(nth (([nth (([z7.fRegs.a0,z7.fRegs.a1,z7.fRegs.a2,z7.fRegs.a3] : List Int).set (zn.1.fB : Int).toNat 0) 0,nth (([z7.fRegs.a0,z7.fRegs.a1,z7.fRegs.a2,z7.fRegs.a3] : List Int).set (zn.1.fB : Int).toNat 0) 1,nth (([z7.fRegs.a0,z7.fRegs.a1,z7.fRegs.a2,z7.fRegs.a3] : List Int).set (zn.1.fB : Int).toNat 0) 2,nth (([z7.fRegs.a0,z7.fRegs.a1,z7.fRegs.a2,z7.fRegs.a3] : List Int).set (zn.1.fB : Int).toNat 0) 3] : List Int).set (zn.1.fB : Int).toNat (nth z1D 0)) 2),(nth (([nth (([z7.fRegs.a0,z7.fRegs.a1,z7.fRegs.a2,z7.fRegs.a3] : List Int).set (zn.1.fB : Int).toNat 0) 0,nth (([z7.fRegs.a0,z7.fRegs.a1,z7.fRegs.a2,z7.fRegs.a3] : List Int).set (zn.1.fB : Int).toNat 0) 1,nth (([z7.fRegs.a0,z7.fRegs.a1,z7.fRegs.a2,z7.fRegs.a3] : List Int).set (zn.1.fB : Int).toNat 0) 2,nth (([z7.fRegs.a0,z7.fRegs.a1,z7.fRegs.a2,z7.fRegs.a3] : List Int).set (zn.1.fB : Int).toNat 0) 3] : List Int).set (zn.1.fB : Int).toNat (nth z1D 0)) 3)⟩ h (.cons rfl (.cons rfl (.cons rfl (.cons rfl .nil)))) (.cons .here (.cons .h1 (.cons .here .nil)))
   ·replace h:=ym h zhk
    refine WC.skip ?_
    exact WX.mid (G:=Int × Int × Int × Int) ⟨(nth (([z7.fRegs.a0,z7.fRegs.a1,z7.fRegs.a2,z7.fRegs.a3] : List Int).set (zn.1.fB : Int).toNat 0) 0),(nth (([z7.fRegs.a0,z7.fRegs.a1,z7.fRegs.a2,z7.fRegs.a3] : List Int).set (zn.1.fB : Int).toNat 0) 1),(nth (([z7.fRegs.a0,z7.fRegs.a1,z7.fRegs.a2,z7.fRegs.a3] : List Int).set (zn.1.fB : Int).toNat 0) 2),(nth (([z7.fRegs.a0,z7.fRegs.a1,z7.fRegs.a2,z7.fRegs.a3] : List Int).set (zn.1.fB : Int).toNat 0) 3)⟩ h (.cons rfl (.cons rfl (.cons rfl (.cons rfl .nil)))) (.cons .here (.cons .h1 (.cons .here .nil)))
  ·rintro z3c z3d z3e z3f h
   replace h:=(zwo z3c z3d z3e z3f).symm.trans h
   obtain ⟨zf4,zwr,h⟩:=y7d h
   refine WC.y6v (fun (zbj : Int) (zbk : Int) (zbl : Int) (zbm : Int)=>(zf4 zbj zbk zbl zbm = some r)) (fun (zbj : Int) (zbk : Int) (zbl : Int) (zbm : Int)=>[(4,(.pointer (some ⟨zf8,0,none⟩))),(6,(.pointer (some ⟨zf9,0,none⟩)))]) (fun (zbj : Int) (zbk : Int) (zbl : Int) (zbm : Int)=>[stb zf8 39 [(.int .i64 z7.fPc),(.int .i64 z7.fLeft),(.int .u8 zbj),(.int .u8 zbk),(.int .u8 zbl),(.int .u8 zbm)],stb zf9 39 [(.int .i64 0),(.int .i64 0),(.int .u8 0),(.int .u8 0),(.int .u8 0),(.int .u8 0)]]) ?_ ?_
   ·skip
    refine WC.b (WC.a ?_)
    refine WL.a (d:=49) rfl rfl rfl (y4 y2C rfl rfl) ?_
    refine WL.a (d:=50) rfl rfl rfl (y5 yB rfl (yb .h2 rfl)) ?_
    refine WL.pu rfl (WL.nil (WX.a ?_))
    refine WC.cond rfl (fun zhl=>?_) (fun zhl=>?_)
    ·replace h:=yl h zhl
     obtain ⟨zl6,h⟩:=ya h
     refine WC.a ?_
     refine WL.a (d:=52) rfl rfl rfl (y4 y3q rfl rfl) ?_
     refine WL.a (d:=53) rfl rfl rfl (y5 yd rfl (yb .h2 rfl)) ?_
     refine WL.pu rfl ?_
     refine WL.a (d:=55) rfl rfl rfl (y1s Tryd.underlying35 rfl) ?_
     refine WL.a (d:=56) rfl rfl rfl (y3d Tryd.underlying3 Tryd.underlying5 rfl rfl) ?_
     refine WL.a (d:=57) rfl rfl rfl (y4 y51 rfl rfl) ?_
     refine WL.a (d:=58) rfl rfl rfl (y2s y60 rfl rfl zl6 y4z) ?_
     refine WL.yg rfl rfl (y1m (l:=([z3c,z3d,z3e,z3f] : List Int)) (f:=Value.int .u8) (u:=u8 ((z1D.length : Nat) : Int)) (k:=2) (m:=6) (j:=4) (ds:=[(.int .i64 z7.fPc),(.int .i64 z7.fLeft),(.int .u8 (nth (([z3c,z3d,z3e,z3f] : List Int).set (zn.1.fC : Int).toNat (u8 ((z1D.length : Nat) : Int))) 0)),(.int .u8 (nth (([z3c,z3d,z3e,z3f] : List Int).set (zn.1.fC : Int).toNat (u8 ((z1D.length : Nat) : Int))) 1)),(.int .u8 (nth (([z3c,z3d,z3e,z3f] : List Int).set (zn.1.fC : Int).toNat (u8 ((z1D.length : Nat) : Int))) 2)),(.int .u8 (nth (([z3c,z3d,z3e,z3f] : List Int).set (zn.1.fC : Int).toNat (u8 ((z1D.length : Nat) : Int))) 3))]) y2h rfl rfl rfl rfl .here rfl rfl zl6 rfl rfl) ?_
     refine WL.nil ?_
     exact WX.mid (G:=Int × Int × Int × Int) ⟨(nth (([z3c,z3d,z3e,z3f] : List Int).set (zn.1.fC : Int).toNat (u8 ((z1D.length : Nat) : Int))) 0),(nth (([z3c,z3d,z3e,z3f] : List Int).set (zn.1.fC : Int).toNat (u8 ((z1D.length : Nat) : Int))) 1),(nth (([z3c,z3d,z3e,z3f] : List Int).set (zn.1.fC : Int).toNat (u8 ((z1D.length : Nat) : Int))) 2),(nth (([z3c,z3d,z3e,z3f] : List Int).set (zn.1.fC : Int).toNat (u8 ((z1D.length : Nat) : Int))) 3)⟩ h (.cons rfl (.cons rfl .nil)) (.cons .here (.cons .here .nil))
    ·replace h:=ym h zhl
     refine WC.skip ?_
     exact WX.mid (G:=Int × Int × Int × Int) ⟨z3c,z3d,z3e,z3f⟩ h (.cons rfl (.cons rfl .nil)) (.cons .here (.cons .here .nil))
   ·rintro zbj zbk zbl zbm h
    replace h:=(zwr zbj zbk zbl zbm).symm.trans h
    refine WC.b (WC.a ?_)
    refine WL.a (d:=59) rfl rfl rfl (yV y13 rfl (yJ .here) rfl) ?_
    refine WL.yg rfl rfl (yu y1p rfl rfl rfl .h1 rfl rfl rfl) ?_
    refine WL.nil (WX.a (WC.ret ?_))
    obtain rfl:=Option.some.inj h
    refine WX.yh Tryd.results36 (.agg rfl y13 rfl (yJ .here) .nil) (fun w hw=>?_)
    exact ⟨y1a rfl,hw.sub .nil⟩
end Go.Proofs.YtjdnejbngloieaaDoor
