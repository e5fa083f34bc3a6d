/- A part of this claim's proof: models of functions, walks, plain laws. No conditions. -/
import Derived.Test.YtaefhckdgfpeaaaGreatZMem
import Derived.Laws.IdiomCopy
import Derived.Laws.IdiomStrings
import Derived.Lib.AppendStr
set_option linter.all false
namespace Sep
open Go Go.RowKit
section
variable {v0 v1 v2 v3 v4 v5 v6 v7 v8 v9 zS Ak Al Ar As AJ Bm BH BI BJ BK Ce v22:Value}{α:Type}{i0 i1 i2 i3 i4 i5 i6 i7 i9 id zT Am An Au Av AK BL BM BN BO Cf Cg:Nat}{z y:Code}
section
variable [Rnd] {P:Program} {n:Nat} {F:List Nat} {Ek:World} {env:List (Nat×Value)} {L Lc Lr R:List Asrt} {ops:Array Oper} {Q:Exit->Act->World->Prop} {na:List Oper} {o:Oper} {v:Value}
 {tl:Nat->Bool} {Ls:List Asrt} {fuel:Nat} {listed:Array Bool} {QD:Act->World->Prop}
theorem Lj{R:Type}{c:Operand}{x:Code}{b:Bool}{u v:Option R}{r:R}{Q:Exit->Act->World->Prop}[hc:Ej (eo env c) (some (.bool b))](h:(if b=true then u else v)=some r)(ht:b=true->u=some r->WC P n F Ek Q x env L)(hf:b=false->v=some r->WC P n F Ek Q y env L):WC P n F Ek Q (.cond c x y) env L:=Er (hc:=⟨hc.1⟩) (fun e=>ht e (qf h e)) (fun e=>hf e (qg h e))
theorem Lg(i:Nat){d:Nat}(hi:(ops[i]?,o.dst)=(some o,some d))(hq:∀ {Ek} a w,SS n [] Ek env [] a w->(execOp a.eval o).run P w = .ok (.value v) w)(k:WD P n F Ek ops tl Ls QD fuel (listed.setIfInBounds i true) ((d,v)::env) L)(zn:rV ops=true:=by kernel_rfl)(hr:(Region.ready .any ops listed).contains i=true:=by exact z2W (by kernel_rfl))(hf:tg ops (fun _=>false) listed i=true:=by exact z2X (by kernel_rfl))(hg:gd env ops o=some true:=by exact rfl)(ng:Nat.blt d n=true:=by exact rfl):WD P n F Ek ops tl Ls QD (fuel+1) listed env L:=D8 zn (Prod.mk.inj hi).1 hr hf hg (Prod.mk.inj hi).2 ng (fun _=>hq) k
theorem Li(i:Nat){d:Nat}(hi:(ops[i]?,o.dst)=(some o,some d))(hq:∀ a w,SS n F Ek env L a w->(execOp a.eval o).run P w = .ok (.value v) w)(k:WD P n F Ek ops tl Ls QD fuel (listed.setIfInBounds i true) ((d,v)::env) L)(zn:rV ops=true:=by kernel_rfl)(hr:(Region.ready .any ops listed).contains i=true:=by exact z2W (by kernel_rfl))(hf:tg ops tl listed i=true:=by exact z2X (by kernel_rfl))(hg:gd env ops o=some true:=by exact rfl)(ng:Nat.blt d n=true:=by exact rfl):WD P n F Ek ops tl Ls QD (fuel+1) listed env L:=Oq zn (Prod.mk.inj hi).1 hr hf hg (Prod.mk.inj hi).2 ng hq k
theorem Na(i:Nat){d:Nat}(hi:(ops[i]?,o.dst)=(some o,some d))(hs:wS L Ls)(hq:∀ a w,SS n F Ek env Ls a w->(execOp a.eval o).run P w = .ok (.value v) w)(k:WD P n F Ek ops tl Ls QD fuel (listed.setIfInBounds i true) ((d,v)::env) L)(zn:rV ops=true:=by kernel_rfl)(hr:(Region.ready .any ops listed).contains i=true:=by exact z2W (by kernel_rfl))(hf:tg ops (fun _=>false) listed i=true:=by exact z2X (by kernel_rfl))(hg:gd env ops o=some true:=by exact rfl)(ng:Nat.blt d n=true:=by exact rfl):WD P n F Ek ops tl Ls QD (fuel+1) listed env L:=C9 zn (Prod.mk.inj hi).1 hr hf hg (Prod.mk.inj hi).2 ng hs hq k
theorem Lo(i:Nat){d:Nat}(hi:(ops[i]?,o.dst)=(some o,some d))(k:WD P n F Ek ops tl Ls QD fuel (listed.setIfInBounds i true) ((d,undef)::env) L)(zn:rV ops=true:=by kernel_rfl)(hr:(Region.ready .any ops listed).contains i=true:=by exact z2W (by kernel_rfl))(hf:tg ops (fun _=>false) listed i=true:=by exact z2X (by kernel_rfl))(hg:gd env ops o=some false:=by exact rfl)(ng:Nat.blt d n=true:=by exact rfl):WD P n F Ek ops tl Ls QD (fuel+1) listed env L:=Ou zn (Prod.mk.inj hi).1 hr hf hg (Prod.mk.inj hi).2 ng k
theorem L5{f:FuncId}{vs:Array Value}(i:Nat){d:Nat}(hi:(ops[i]?,o.dst)=(some o,some d))(kA:∀ a w,SS n F Ek env L a w->(execOp a.eval o).run P w = .ok (.enter f vs) w)(hc:∀ w,Hp F Ek w L->Calls P f vs w fun e w'=>e = .returned v/\Hp [] w w' [])(k:WD P n F Ek ops tl Ls QD fuel (listed.setIfInBounds i true) ((d,v)::env) L)(zn:rV ops=true:=by kernel_rfl)(hr:(Region.ready .any ops listed).contains i=true:=by exact z2W (by kernel_rfl))(hf:tg ops tl listed i=true:=by exact z2X (by kernel_rfl))(hg:gd env ops o=some true:=by exact rfl)(ng:Nat.blt d n=true:=by exact rfl):WD P n F Ek ops tl Ls QD (fuel+1) listed env L:=Ot zn (Prod.mk.inj hi).1 hr hf hg (Prod.mk.inj hi).2 ng kA hc k
theorem Lf(d:Nat)(hq:∀ a w,SS n F Ek env L a w->(execOp a.eval o).run P w = .ok (.value v) w)(k:WL P n F Ek ops Q na ((d,v)::env) L)(hg:gd env ops o=some true:=by exact rfl)(hd:o.dst=some d:=by exact rfl)(ng:Nat.blt d n=true:=by exact rfl):WL P n F Ek ops Q (o::na) env L:=Hr hg hd ng hq k
theorem Lh{G:Type}{φ:G->Prop}{val:G->Value}{L':G->List Asrt}(d:Nat)(hq:Yg P n F Ek env L o φ val L')(k:∀ g,φ g->WL P n F Ek ops Q na ((d,val g)::env) (L' g))(hg:gd env ops o=some true:=by exact rfl)(hd:o.dst=some d:=by exact rfl)(ng:Nat.blt d n=true:=by exact rfl):WL P n F Ek ops Q (o::na) env L:=WL.new hg hd ng hq k
theorem WL.fA{G:Type}{φ:G->Prop}{val:G->Value}{L':G->List Asrt}(d:Nat)(hq:Ef P n F Ek env L o φ val L')(k:∀ g,φ g->WL P n F Ek ops Q na ((d,val g)::env) (L' g))(hg:gd env ops o=some true:=by exact rfl)(hd:o.dst=some d:=by exact rfl)(ng:Nat.blt d n=true:=by exact rfl):WL P n F Ek ops Q (o::na) env L:=Hx hg hd ng hq k
theorem Lm{f:FuncId}{vs:Array Value}{M:List Asrt}(d:Nat)(kA:∀ a w,SS n F Ek env L a w->(execOp a.eval o).run P w = .ok (.enter f vs) w)(hs:Sel L Lc Lr)(hc:∀ w,Hp F Ek w L->Calls P f vs w fun e w'=>e = .returned v/\Hp (fps Lc) w w' M)(k:WL P n F Ek ops Q na ((d,v)::env) (M++Lr))(hg:gd env ops o=some true:=by exact rfl)(hd:o.dst=some d:=by exact rfl)(ng:Nat.blt d n=true:=by exact rfl):WL P n F Ek ops Q (o::na) env L:=Oo hg hd ng kA hs hc k
end
section
variable [Rnd] {P:Program} {f:FuncId} {fn:Func} {c:Code} {w:World} {R:Ending->World->Prop} {n:Nat} {pre:List Asrt}
theorem Ns(hf:P.funcs[f]?=some fn)(hn:fn.ntmps=n)(hb:fn.body=some c)(k : @WC Rnd.base P n [] w (bodyPost P fn R) c [] [])(nP:Nat.ble 0 n=true:=by exact rfl):Calls P f #[] w R:=Ex (vs:=[]) (pre:=[]) hf hb hn nP (Hp.nil w _) rfl k
theorem N7(hf:P.funcs[f]?=some fn)(hn:fn.ntmps=n)(iA:Hp (fps pre) w w pre)(hb:fn.body=some c)(k : @WC Rnd.base P n (fps pre) w (bodyPost P fn R) c [(0,v0)] pre)(nP:Nat.ble 1 n=true:=by exact rfl):Calls P f #[v0] w R:=Ex (vs:=[v0]) (pre:=pre) hf hb hn nP iA rfl k
theorem L3(hf:P.funcs[f]?=some fn)(hn:fn.ntmps=n)(hb:fn.body=some c)(k : @WC Rnd.base P n [] w (bodyPost P fn R) c [(0,v0)] [])(nP:Nat.ble 1 n=true:=by exact rfl):Calls P f #[v0] w R:=Ex (vs:=[v0]) (pre:=[]) hf hb hn nP (Hp.nil w _) rfl k
theorem Nk(hf:P.funcs[f]?=some fn)(hn:fn.ntmps=n)(iA:Hp (fps pre) w w pre)(hb:fn.body=some c)(k : @WC Rnd.base P n (fps pre) w (bodyPost P fn R) c [(0,v0),(1,v1)] pre)(nP:Nat.ble 2 n=true:=by exact rfl):Calls P f #[v0,v1] w R:=Ex (vs:=[v0,v1]) (pre:=pre) hf hb hn nP iA rfl k
theorem Lz(hf:P.funcs[f]?=some fn)(hn:fn.ntmps=n)(hb:fn.body=some c)(k : @WC Rnd.base P n [] w (bodyPost P fn R) c [(0,v0),(1,v1)] [])(nP:Nat.ble 2 n=true:=by exact rfl):Calls P f #[v0,v1] w R:=Ex (vs:=[v0,v1]) (pre:=[]) hf hb hn nP (Hp.nil w _) rfl k
theorem Ey(hf:P.funcs[f]?=some fn)(hn:fn.ntmps=n)(iA:Hp (fps pre) w w pre)(hb:fn.body=some c)(k : @WC Rnd.base P n (fps pre) w (bodyPost P fn R) c [(0,v0),(1,v1),(2,v2)] pre)(nP:Nat.ble 3 n=true:=by exact rfl):Calls P f #[v0,v1,v2] w R:=Ex (vs:=[v0,v1,v2]) (pre:=pre) hf hb hn nP iA rfl k
theorem Ng(hf:P.funcs[f]?=some fn)(hn:fn.ntmps=n)(hb:fn.body=some c)(k : @WC Rnd.base P n [] w (bodyPost P fn R) c [(0,v0),(1,v1),(2,v2)] [])(nP:Nat.ble 3 n=true:=by exact rfl):Calls P f #[v0,v1,v2] w R:=Ex (vs:=[v0,v1,v2]) (pre:=[]) hf hb hn nP (Hp.nil w _) rfl k
theorem Et(hf:P.funcs[f]?=some fn)(hn:fn.ntmps=n)(iA:Hp (fps pre) w w pre)(hb:fn.body=some c)(k : @WC Rnd.base P n (fps pre) w (bodyPost P fn R) c [(0,v0),(1,v1),(2,v2),(3,v3)] pre)(nP:Nat.ble 4 n=true:=by exact rfl):Calls P f #[v0,v1,v2,v3] w R:=Ex (vs:=[v0,v1,v2,v3]) (pre:=pre) hf hb hn nP iA rfl k
theorem Nl(hf:P.funcs[f]?=some fn)(hn:fn.ntmps=n)(hb:fn.body=some c)(k : @WC Rnd.base P n [] w (bodyPost P fn R) c [(0,v0),(1,v1),(2,v2),(3,v3)] [])(nP:Nat.ble 4 n=true:=by exact rfl):Calls P f #[v0,v1,v2,v3] w R:=Ex (vs:=[v0,v1,v2,v3]) (pre:=[]) hf hb hn nP (Hp.nil w _) rfl k
theorem H5(hf:P.funcs[f]?=some fn)(hn:fn.ntmps=n)(iA:Hp (fps pre) w w pre)(hb:fn.body=some c)(k : @WC Rnd.base P n (fps pre) w (bodyPost P fn R) c [(0,v0),(1,v1),(2,v2),(3,v3),(4,v4)] pre)(nP:Nat.ble 5 n=true:=by exact rfl):Calls P f #[v0,v1,v2,v3,v4] w R:=Ex (vs:=[v0,v1,v2,v3,v4]) (pre:=pre) hf hb hn nP iA rfl k
theorem Hk(hf:P.funcs[f]?=some fn)(hn:fn.ntmps=n)(hb:fn.body=some c)(k : @WC Rnd.base P n [] w (bodyPost P fn R) c [(0,v0),(1,v1),(2,v2),(3,v3),(4,v4)] [])(nP:Nat.ble 5 n=true:=by exact rfl):Calls P f #[v0,v1,v2,v3,v4] w R:=Ex (vs:=[v0,v1,v2,v3,v4]) (pre:=[]) hf hb hn nP (Hp.nil w _) rfl k
theorem H4(hf:P.funcs[f]?=some fn)(hn:fn.ntmps=n)(hb:fn.body=some c)(k : @WC Rnd.base P n [] w (bodyPost P fn R) c [(0,v0),(1,v1),(2,v2),(3,v3),(4,v4),(5,v5),(6,v6)] [])(nP:Nat.ble 7 n=true:=by exact rfl):Calls P f #[v0,v1,v2,v3,v4,v5,v6] w R:=Ex (vs:=[v0,v1,v2,v3,v4,v5,v6]) (pre:=[]) hf hb hn nP (Hp.nil w _) rfl k
end
theorem Restr.r2{env:List (Nat×Value)}(h0:Sep.lk env i0=some v0)(h1:Sep.lk env i1=some v1):Restr env [(i0,v0),(i1,v1)] := .cons h0 (.cons h1 .nil)
theorem Restr.r3{env:List (Nat×Value)}(h0:Sep.lk env i0=some v0)(h1:Sep.lk env i1=some v1)(h2:Sep.lk env i2=some v2):Restr env [(i0,v0),(i1,v1),(i2,v2)] := .cons h0 (.cons h1 (.cons h2 .nil))
theorem Restr.r4{env:List (Nat×Value)}(h0:Sep.lk env i0=some v0)(h1:Sep.lk env i1=some v1)(h2:Sep.lk env i2=some v2)(h3:Sep.lk env i3=some v3):Restr env [(i0,v0),(i1,v1),(i2,v2),(i3,v3)] := .cons h0 (.cons h1 (.cons h2 (.cons h3 .nil)))
theorem Restr.r5{env:List (Nat×Value)}(h0:Sep.lk env i0=some v0)(h1:Sep.lk env i1=some v1)(h2:Sep.lk env i2=some v2)(h3:Sep.lk env i3=some v3)(h4:Sep.lk env i4=some v4):Restr env [(i0,v0),(i1,v1),(i2,v2),(i3,v3),(i4,v4)] := .cons h0 (.cons h1 (.cons h2 (.cons h3 (.cons h4 .nil))))
theorem Eos.r2{env:List (Nat×Value)}{i0 i1:Operand}(h0:Sep.eo env i0=some v0)(h1:Sep.eo env i1=some v1):Eos env [i0,i1] [v0,v1] := .cons h0 (.cons h1 .nil)
theorem Eos.r3{env:List (Nat×Value)}{i0 i1 i2:Operand}(h0:Sep.eo env i0=some v0)(h1:Sep.eo env i1=some v1)(h2:Sep.eo env i2=some v2):Eos env [i0,i1,i2] [v0,v1,v2] := .cons h0 (.cons h1 (.cons h2 .nil))
theorem Eos.r4{env:List (Nat×Value)}{i0 i1 i2 i3:Operand}(h0:Sep.eo env i0=some v0)(h1:Sep.eo env i1=some v1)(h2:Sep.eo env i2=some v2)(h3:Sep.eo env i3=some v3):Eos env [i0,i1,i2,i3] [v0,v1,v2,v3] := .cons h0 (.cons h1 (.cons h2 (.cons h3 .nil)))
theorem Eos.r5{env:List (Nat×Value)}{i0 i1 i2 i3 i4:Operand}(h0:Sep.eo env i0=some v0)(h1:Sep.eo env i1=some v1)(h2:Sep.eo env i2=some v2)(h3:Sep.eo env i3=some v3)(h4:Sep.eo env i4=some v4):Eos env [i0,i1,i2,i3,i4] [v0,v1,v2,v3,v4] := .cons h0 (.cons h1 (.cons h2 (.cons h3 (.cons h4 .nil))))
theorem Sel.s2{x0 x1:α}{L R1 R2:List α}(h0:Pick L x0 R1)(h1:Pick R1 x1 R2):Sel L [x0,x1] R2 := .cons h0 (.cons h1 .nil)
theorem Sel.s3{x0 x1 x2:α}{L R1 R2 R3:List α}(h0:Pick L x0 R1)(h1:Pick R1 x1 R2)(h2:Pick R2 x2 R3):Sel L [x0,x1,x2] R3 := .cons h0 (.cons h1 (.cons h2 .nil))
theorem Sel.s4{x0 x1 x2 x3:α}{L R1 R2 R3 R4:List α}(h0:Pick L x0 R1)(h1:Pick R1 x1 R2)(h2:Pick R2 x2 R3)(h3:Pick R3 x3 R4):Sel L [x0,x1,x2,x3] R4 := .cons h0 (.cons h1 (.cons h2 (.cons h3 .nil)))
theorem Sel.s5{x0 x1 x2 x3 x4:α}{L R1 R2 R3 R4 R5:List α}(h0:Pick L x0 R1)(h1:Pick R1 x1 R2)(h2:Pick R2 x2 R3)(h3:Pick R3 x3 R4)(h4:Pick R4 x4 R5):Sel L [x0,x1,x2,x3,x4] R5 := .cons h0 (.cons h1 (.cons h2 (.cons h3 (.cons h4 .nil))))
theorem Sel.s6{x0 x1 x2 x3 x4 x5:α}{L R1 R2 R3 R4 R5 R6:List α}(h0:Pick L x0 R1)(h1:Pick R1 x1 R2)(h2:Pick R2 x2 R3)(h3:Pick R3 x3 R4)(h4:Pick R4 x4 R5)(h5:Pick R5 x5 R6):Sel L [x0,x1,x2,x3,x4,x5] R6 := .cons h0 (.cons h1 (.cons h2 (.cons h3 (.cons h4 (.cons h5 .nil)))))
theorem Sel.s7{x0 x1 x2 x3 x4 x5 x6:α}{L R1 R2 R3 R4 R5 R6 R7:List α}(h0:Pick L x0 R1)(h1:Pick R1 x1 R2)(h2:Pick R2 x2 R3)(h3:Pick R3 x3 R4)(h4:Pick R4 x4 R5)(h5:Pick R5 x5 R6)(h6:Pick R6 x6 R7):Sel L [x0,x1,x2,x3,x4,x5,x6] R7 := .cons h0 (.cons h1 (.cons h2 (.cons h3 (.cons h4 (.cons h5 (.cons h6 .nil))))))
theorem Sel.s8{x0 x1 x2 x3 x4 x5 x6 x7:α}{L R1 R2 R3 R4 R5 R6 R7 R8:List α}(h0:Pick L x0 R1)(h1:Pick R1 x1 R2)(h2:Pick R2 x2 R3)(h3:Pick R3 x3 R4)(h4:Pick R4 x4 R5)(h5:Pick R5 x5 R6)(h6:Pick R6 x6 R7)(h7:Pick R7 x7 R8):Sel L [x0,x1,x2,x3,x4,x5,x6,x7] R8 := .cons h0 (.cons h1 (.cons h2 (.cons h3 (.cons h4 (.cons h5 (.cons h6 (.cons h7 .nil)))))))
theorem Sel.s9{x0 x1 x2 x3 x4 x5 x6 x7 x8:α}{L R1 R2 R3 R4 R5 R6 R7 R8 R9:List α}(h0:Pick L x0 R1)(h1:Pick R1 x1 R2)(h2:Pick R2 x2 R3)(h3:Pick R3 x3 R4)(h4:Pick R4 x4 R5)(h5:Pick R5 x5 R6)(h6:Pick R6 x6 R7)(h7:Pick R7 x7 R8)(h8:Pick R8 x8 R9):Sel L [x0,x1,x2,x3,x4,x5,x6,x7,x8] R9 := .cons h0 (.cons h1 (.cons h2 (.cons h3 (.cons h4 (.cons h5 (.cons h6 (.cons h7 (.cons h8 .nil))))))))
theorem Sel.s10{x0 x1 x2 x3 x4 x5 x6 x7 x8 x9:α}{L R1 R2 R3 R4 R5 R6 R7 R8 R9 AZ:List α}(h0:Pick L x0 R1)(h1:Pick R1 x1 R2)(h2:Pick R2 x2 R3)(h3:Pick R3 x3 R4)(h4:Pick R4 x4 R5)(h5:Pick R5 x5 R6)(h6:Pick R6 x6 R7)(h7:Pick R7 x7 R8)(h8:Pick R8 x8 R9)(h9:Pick R9 x9 AZ):Sel L [x0,x1,x2,x3,x4,x5,x6,x7,x8,x9] AZ := .cons h0 (.cons h1 (.cons h2 (.cons h3 (.cons h4 (.cons h5 (.cons h6 (.cons h7 (.cons h8 (.cons h9 .nil)))))))))
theorem Sel.s11{x0 x1 x2 x3 x4 x5 x6 x7 x8 x9 rv:α}{L R1 R2 R3 R4 R5 R6 R7 R8 R9 AZ BP:List α}(h0:Pick L x0 R1)(h1:Pick R1 x1 R2)(h2:Pick R2 x2 R3)(h3:Pick R3 x3 R4)(h4:Pick R4 x4 R5)(h5:Pick R5 x5 R6)(h6:Pick R6 x6 R7)(h7:Pick R7 x7 R8)(h8:Pick R8 x8 R9)(h9:Pick R9 x9 AZ)(zu:Pick AZ rv BP):Sel L [x0,x1,x2,x3,x4,x5,x6,x7,x8,x9,rv] BP := .cons h0 (.cons h1 (.cons h2 (.cons h3 (.cons h4 (.cons h5 (.cons h6 (.cons h7 (.cons h8 (.cons h9 (.cons zu .nil))))))))))
theorem Sel.s12{x0 x1 x2 x3 x4 x5 x6 x7 x8 x9 rv sY:α}{L R1 R2 R3 R4 R5 R6 R7 R8 R9 AZ BP CM:List α}(h0:Pick L x0 R1)(h1:Pick R1 x1 R2)(h2:Pick R2 x2 R3)(h3:Pick R3 x3 R4)(h4:Pick R4 x4 R5)(h5:Pick R5 x5 R6)(h6:Pick R6 x6 R7)(h7:Pick R7 x7 R8)(h8:Pick R8 x8 R9)(h9:Pick R9 x9 AZ)(zu:Pick AZ rv BP)(zw:Pick BP sY CM):Sel L [x0,x1,x2,x3,x4,x5,x6,x7,x8,x9,rv,sY] CM := .cons h0 (.cons h1 (.cons h2 (.cons h3 (.cons h4 (.cons h5 (.cons h6 (.cons h7 (.cons h8 (.cons h9 (.cons zu (.cons zw .nil)))))))))))
theorem Sel.s13{x0 x1 x2 x3 x4 x5 x6 x7 x8 x9 rv sY uV:α}{L R1 R2 R3 R4 R5 R6 R7 R8 R9 AZ BP CM R13:List α}(h0:Pick L x0 R1)(h1:Pick R1 x1 R2)(h2:Pick R2 x2 R3)(h3:Pick R3 x3 R4)(h4:Pick R4 x4 R5)(h5:Pick R5 x5 R6)(h6:Pick R6 x6 R7)(h7:Pick R7 x7 R8)(h8:Pick R8 x8 R9)(h9:Pick R9 x9 AZ)(zu:Pick AZ rv BP)(zw:Pick BP sY CM)(Ae:Pick CM uV R13):Sel L [x0,x1,x2,x3,x4,x5,x6,x7,x8,x9,rv,sY,uV] R13 := .cons h0 (.cons h1 (.cons h2 (.cons h3 (.cons h4 (.cons h5 (.cons h6 (.cons h7 (.cons h8 (.cons h9 (.cons zu (.cons zw (.cons Ae .nil))))))))))))
theorem Sel.a2  {x0 x1 : α} {R : List α} : Sel (x0 :: x1 :: R) [x0, x1] R := .cons .here (.cons .here .nil)
theorem Sel.a3  {x0 x1 x2 : α} {R : List α} : Sel (x0 :: x1 :: x2 :: R) [x0, x1, x2] R := .cons .here (.cons .here (.cons .here .nil))
theorem Sel.a4  {x0 x1 x2 x3 : α} {R : List α} : Sel (x0 :: x1 :: x2 :: x3 :: R) [x0, x1, x2, x3] R := .cons .here (.cons .here (.cons .here (.cons .here .nil)))
theorem Sel.a5  {x0 x1 x2 x3 x4 : α} {R : List α} : Sel (x0 :: x1 :: x2 :: x3 :: x4 :: R) [x0, x1, x2, x3, x4] R := .cons .here (.cons .here (.cons .here (.cons .here (.cons .here .nil))))
theorem Sel.a6  {x0 x1 x2 x3 x4 x5 : α} {R : List α} : Sel (x0 :: x1 :: x2 :: x3 :: x4 :: x5 :: R) [x0, x1, x2, x3, x4, x5] R := .cons .here (.cons .here (.cons .here (.cons .here (.cons .here (.cons .here .nil)))))
theorem Sel.a7  {x0 x1 x2 x3 x4 x5 x6 : α} {R : List α} : Sel (x0 :: x1 :: x2 :: x3 :: x4 :: x5 :: x6 :: R) [x0, x1, x2, x3, x4, x5, x6] R := .cons .here (.cons .here (.cons .here (.cons .here (.cons .here (.cons .here (.cons .here .nil))))))
theorem Sel.a8  {x0 x1 x2 x3 x4 x5 x6 x7 : α} {R : List α} : Sel (x0 :: x1 :: x2 :: x3 :: x4 :: x5 :: x6 :: x7 :: R) [x0, x1, x2, x3, x4, x5, x6, x7] R := .cons .here (.cons .here (.cons .here (.cons .here (.cons .here (.cons .here (.cons .here (.cons .here .nil)))))))
theorem Sel.a9  {x0 x1 x2 x3 x4 x5 x6 x7 x8 : α} {R : List α} : Sel (x0 :: x1 :: x2 :: x3 :: x4 :: x5 :: x6 :: x7 :: x8 :: R) [x0, x1, x2, x3, x4, x5, x6, x7, x8] R := .cons .here (.cons .here (.cons .here (.cons .here (.cons .here (.cons .here (.cons .here (.cons .here (.cons .here .nil))))))))
theorem Sel.a10  {x0 x1 x2 x3 x4 x5 x6 x7 x8 x9 : α} {R : List α} : Sel (x0 :: x1 :: x2 :: x3 :: x4 :: x5 :: x6 :: x7 :: x8 :: x9 :: R) [x0, x1, x2, x3, x4, x5, x6, x7, x8, x9] R := .cons .here (.cons .here (.cons .here (.cons .here (.cons .here (.cons .here (.cons .here (.cons .here (.cons .here (.cons .here .nil)))))))))
theorem Sel.a11  {x0 x1 x2 x3 x4 x5 x6 x7 x8 x9 rv : α} {R : List α} : Sel (x0 :: x1 :: x2 :: x3 :: x4 :: x5 :: x6 :: x7 :: x8 :: x9 :: rv :: R) [x0, x1, x2, x3, x4, x5, x6, x7, x8, x9, rv] R := .cons .here (.cons .here (.cons .here (.cons .here (.cons .here (.cons .here (.cons .here (.cons .here (.cons .here (.cons .here (.cons .here .nil))))))))))
theorem Sel.a12  {x0 x1 x2 x3 x4 x5 x6 x7 x8 x9 rv sY : α} {R : List α} : Sel (x0 :: x1 :: x2 :: x3 :: x4 :: x5 :: x6 :: x7 :: x8 :: x9 :: rv :: sY :: R) [x0, x1, x2, x3, x4, x5, x6, x7, x8, x9, rv, sY] R := .cons .here (.cons .here (.cons .here (.cons .here (.cons .here (.cons .here (.cons .here (.cons .here (.cons .here (.cons .here (.cons .here (.cons .here .nil)))))))))))
theorem Sel.a13  {x0 x1 x2 x3 x4 x5 x6 x7 x8 x9 rv sY uV : α} {R : List α} : Sel (x0 :: x1 :: x2 :: x3 :: x4 :: x5 :: x6 :: x7 :: x8 :: x9 :: rv :: sY :: uV :: R) [x0, x1, x2, x3, x4, x5, x6, x7, x8, x9, rv, sY, uV] R := .cons .here (.cons .here (.cons .here (.cons .here (.cons .here (.cons .here (.cons .here (.cons .here (.cons .here (.cons .here (.cons .here (.cons .here (.cons .here .nil))))))))))))
theorem Sel.a14  {x0 x1 x2 x3 x4 x5 x6 x7 x8 x9 rv sY uV wd : α} {R : List α} : Sel (x0 :: x1 :: x2 :: x3 :: x4 :: x5 :: x6 :: x7 :: x8 :: x9 :: rv :: sY :: uV :: wd :: R) [x0, x1, x2, x3, x4, x5, x6, x7, x8, x9, rv, sY, uV, wd] R := .cons .here (.cons .here (.cons .here (.cons .here (.cons .here (.cons .here (.cons .here (.cons .here (.cons .here (.cons .here (.cons .here (.cons .here (.cons .here (.cons .here .nil)))))))))))))
theorem Sel.a15  {x0 x1 x2 x3 x4 x5 x6 x7 x8 x9 rv sY uV wd wy : α} {R : List α} : Sel (x0 :: x1 :: x2 :: x3 :: x4 :: x5 :: x6 :: x7 :: x8 :: x9 :: rv :: sY :: uV :: wd :: wy :: R) [x0, x1, x2, x3, x4, x5, x6, x7, x8, x9, rv, sY, uV, wd, wy] R := .cons .here (.cons .here (.cons .here (.cons .here (.cons .here (.cons .here (.cons .here (.cons .here (.cons .here (.cons .here (.cons .here (.cons .here (.cons .here (.cons .here (.cons .here .nil))))))))))))))
theorem Sel.a16  {x0 x1 x2 x3 x4 x5 x6 x7 x8 x9 rv sY uV wd wy wH : α} {R : List α} : Sel (x0 :: x1 :: x2 :: x3 :: x4 :: x5 :: x6 :: x7 :: x8 :: x9 :: rv :: sY :: uV :: wd :: wy :: wH :: R) [x0, x1, x2, x3, x4, x5, x6, x7, x8, x9, rv, sY, uV, wd, wy, wH] R := .cons .here (.cons .here (.cons .here (.cons .here (.cons .here (.cons .here (.cons .here (.cons .here (.cons .here (.cons .here (.cons .here (.cons .here (.cons .here (.cons .here (.cons .here (.cons .here .nil)))))))))))))))
theorem Sel.a17  {x0 x1 x2 x3 x4 x5 x6 x7 x8 x9 rv sY uV wd wy wH zh : α} {R : List α} : Sel (x0 :: x1 :: x2 :: x3 :: x4 :: x5 :: x6 :: x7 :: x8 :: x9 :: rv :: sY :: uV :: wd :: wy :: wH :: zh :: R) [x0, x1, x2, x3, x4, x5, x6, x7, x8, x9, rv, sY, uV, wd, wy, wH, zh] R := .cons .here (.cons .here (.cons .here (.cons .here (.cons .here (.cons .here (.cons .here (.cons .here (.cons .here (.cons .here (.cons .here (.cons .here (.cons .here (.cons .here (.cons .here (.cons .here (.cons .here .nil))))))))))))))))
def puK (n:Nat)(ops:Array Oper):Nat->List Oper->List (Nat×Value)->Option (List Oper×List (Nat×Value))
 | 0,l,e=>some (l,e)
 | k+1,l,e=>match l with
  | []=>none
  | o::l=>(puE n ops e o).bind fun p=>puK n ops k l (p::e)
section
variable [Rnd] {P:Program}{n:Nat}{F:List Nat}{Ek:World}{env e':List (Nat×Value)}{L:List Asrt}{ops:Array Oper}{Q:Exit->Act->World->Prop}{l l':List Oper}
theorem puU:∀{k:Nat}{l:List Oper}{env:List (Nat×Value)},puK n ops k l env=some (l',e')->WL P n F Ek ops Q l' e' L->WL P n F Ek ops Q l env L
 | 0,_,_,h,k=>by cases h;exact k
 | _+1,[],_,h,_=>by cases h
 | j+1,o::l,env,h,k=>by
  rw[puK] at h
  cases hp:puE n ops env o with
  | none=>rw[hp] at h;cases h
  | some p=>
   rw[hp] at h
   exact La hp (puU (k:=j) h k)
theorem B0q{Q2:Exit->Act->World->Prop}(k:WL P n F Ek l'.toArray (Exit.then (fun a w=>z.wpIn FN 0 P Q2 a w) Q2) l' env L):WC P n F Ek Q2 (.seq (.region id l'.toArray false) z) env L:=Lb (Le (k))
theorem B1q{Q2:Exit->Act->World->Prop}(h:puK n l.toArray 1 l env=some (l',e'))(k:WL P n F Ek l.toArray (Exit.then (fun a w=>z.wpIn FN 0 P Q2 a w) Q2) l' e' L):WC P n F Ek Q2 (.seq (.region id l.toArray false) z) env L:=Lb (Le (puU (k:=1) h (k)))
theorem B1n{Q2:Exit->Act->World->Prop}(h:puK n l.toArray 1 l env=some ([],e'))(k:WC P n F Ek Q2 z e' L):WC P n F Ek Q2 (.seq (.region id l.toArray false) z) env L:=Lb (Le (puU (k:=1) h (WL.nil (Ld k))))
theorem B2q{Q2:Exit->Act->World->Prop}(h:puK n l.toArray 2 l env=some (l',e'))(k:WL P n F Ek l.toArray (Exit.then (fun a w=>z.wpIn FN 0 P Q2 a w) Q2) l' e' L):WC P n F Ek Q2 (.seq (.region id l.toArray false) z) env L:=Lb (Le (puU (k:=2) h (k)))
theorem B2n{Q2:Exit->Act->World->Prop}(h:puK n l.toArray 2 l env=some ([],e'))(k:WC P n F Ek Q2 z e' L):WC P n F Ek Q2 (.seq (.region id l.toArray false) z) env L:=Lb (Le (puU (k:=2) h (WL.nil (Ld k))))
theorem B3n{Q2:Exit->Act->World->Prop}(h:puK n l.toArray 3 l env=some ([],e'))(k:WC P n F Ek Q2 z e' L):WC P n F Ek Q2 (.seq (.region id l.toArray false) z) env L:=Lb (Le (puU (k:=3) h (WL.nil (Ld k))))
theorem B4n{Q2:Exit->Act->World->Prop}(h:puK n l.toArray 4 l env=some ([],e'))(k:WC P n F Ek Q2 z e' L):WC P n F Ek Q2 (.seq (.region id l.toArray false) z) env L:=Lb (Le (puU (k:=4) h (WL.nil (Ld k))))
theorem D1q{QQ:Exit->Act->World->Prop}(h:puK n l.toArray 1 l env=some (l',e'))(k:WL P n F Ek l.toArray QQ l' e' L):WC P n F Ek QQ (.region id l.toArray false) env L:=Le (puU (k:=1) h (k))
theorem D2q{QQ:Exit->Act->World->Prop}(h:puK n l.toArray 2 l env=some (l',e'))(k:WL P n F Ek l.toArray QQ l' e' L):WC P n F Ek QQ (.region id l.toArray false) env L:=Le (puU (k:=2) h (k))
theorem D3q{QQ:Exit->Act->World->Prop}(h:puK n l.toArray 3 l env=some (l',e'))(k:WL P n F Ek l.toArray QQ l' e' L):WC P n F Ek QQ (.region id l.toArray false) env L:=Le (puU (k:=3) h (k))
theorem Q0n(k:WC P n F Ek Q y env L):WL P n F Ek ops (Exit.then (fun a w=>y.wpIn FN 0 P Q a w) Q) [] env L:=(WL.nil (Ld k))
theorem Q1n(h:puK n ops 1 l env=some ([],e'))(k:WC P n F Ek Q y e' L):WL P n F Ek ops (Exit.then (fun a w=>y.wpIn FN 0 P Q a w) Q) l env L:=puU (k:=1) h (WL.nil (Ld k))
theorem Q2q{QQ:Exit->Act->World->Prop}(h:puK n ops 2 l env=some (l',e'))(k:WL P n F Ek ops QQ l' e' L):WL P n F Ek ops QQ l env L:=puU (k:=2) h (k)
theorem Q2n(h:puK n ops 2 l env=some ([],e'))(k:WC P n F Ek Q y e' L):WL P n F Ek ops (Exit.then (fun a w=>y.wpIn FN 0 P Q a w) Q) l env L:=puU (k:=2) h (WL.nil (Ld k))
theorem Q3q{QQ:Exit->Act->World->Prop}(h:puK n ops 3 l env=some (l',e'))(k:WL P n F Ek ops QQ l' e' L):WL P n F Ek ops QQ l env L:=puU (k:=3) h (k)
theorem Q5n(h:puK n ops 5 l env=some ([],e'))(k:WC P n F Ek Q y e' L):WL P n F Ek ops (Exit.then (fun a w=>y.wpIn FN 0 P Q a w) Q) l env L:=puU (k:=5) h (WL.nil (Ld k))
end
theorem Restr.qo{env:List (Nat×Value)}:∀{l:List (Nat×Value)},l.map (fun p=>Sep.lk env p.1)=l.map (fun p=>some p.2)->Restr env l
 | [],_=>.nil
 | _::_,h=>by
  rw[List.map_cons,List.map_cons] at h
  injection h with a b
  exact .cons a (Restr.qo b)
theorem Eos.qo{env:List (Nat×Value)}:∀{os:List Operand}{ws:List Value},os.map (fun o=>Sep.eo env o)=ws.map some->Eos env os ws
 | [],[],_=>.nil
 | _::_,_::_,h=>by
  rw[List.map_cons,List.map_cons] at h
  injection h with a b
  exact .cons a (Eos.qo b)
 | [],_::_,h=>by cases h
 | _::_,[],h=>by cases h
section
variable [Rnd]{P:Program}{n:Nat}{F:List Nat}{Ek:World}{env:List (Nat×Value)}{L M K:List Asrt}{fn:Func}{u:Value}
theorem Ea{t:Nat}{v:Value}(hr:fn.results=[ResultVar.tmp t].toArray)(h1:Sep.lk env t=some v:=by exact rfl)(h2:v=u:=by exact rfl):@WX Rnd.base n F Ek (bodyPost P fn fun e w'=>e = .returned u/\Hp F Ek w' []) .ret env L:=Lk hr (.tmp h1 .nil) fun w hw=>⟨by rw[h2];rfl,hw.sub .nil⟩
theorem Eb{rs:List ResultVar}{vs:List Value}(hr:fn.results=rs.toArray)(hv:ResV P F Ek env L rs vs)(hs:Sel L K M)(h2:bh vs=u:=by exact rfl):@WX Rnd.base n F Ek (bodyPost P fn fun e w'=>e = .returned u/\Hp F Ek w' K) .ret env L:=Lk hr hv fun w hw=>⟨by rw[h2],hw.sub hs⟩
end
def Ed(env:List (Nat×Value)):List Operand->Option (List Value)
 | []=>some []
 | o::os=>match Sep.eo env o with
  | none=>none
  | some v=>match Ed env os with
   | none=>none
   | some vs=>some (v::vs)
theorem Ee{env:List (Nat×Value)}:∀{l:List Operand}{vs:List Value},Ed env l=some vs->Eos env l vs
 | [],_,h=>by cases h;exact .nil
 | o::l,vs,h=>by
  unfold Ed at h
  split at h
  ·cases h
  ·rename_i h1
   split at h
   ·cases h
   ·rename_i h2;cases h;exact .cons h1 (Ee h2)
section
variable [Rnd]{P:Program}{n:Nat}{F:List Nat}{Ek:World}{env:List (Nat×Value)}{L:List Asrt}{eA:Array Oper}{Q:Exit->Act->World->Prop}{ir:List Oper}{f:FuncId}{l:List Operand}{CB:Array TypeId}{vs:List Value}{d:Nat}{d':Option Tmp}{ty:TypeId}{pos:String}{after:Array Edge}{g:Option (Nat×Bool)}{v:Value}{Z:Zp}
theorem Eh(Bm:∀ args w,(callFunc f args).run P w = .ok (.enter f args) w)[he:Ej (Ed env l) (some vs)]:∀ a w,SS n F Ek env L a w->(execOp a.eval ⟨d',.call ⟨.value (.func f),l.toArray,CB⟩,ty,pos,after,g⟩).run P w = .ok (.enter f vs.toArray) w:=za Bm (Ee he.1)
theorem Eg(Bm:∀ args w,(callFunc f args).run P w = .ok (.enter f args) w)[he:Ej (Ed env l) (some vs)](hz:PZ F Ek Z)(hc:∀{w},PZ [] w Z->Calls P f vs.toArray w fun e w'=>e = .returned v/\Hp [] w w' [])(k:WL P n F Ek eA Q ir ((d,v)::env) L)(hg:gd env eA ⟨some d,.call ⟨.value (.func f),l.toArray,CB⟩,ty,pos,after,g⟩=some true:=by exact rfl)(hk:Nat.blt d n=true:=by exact rfl):WL P n F Ek eA Q (⟨some d,.call ⟨.value (.func f),l.toArray,CB⟩,ty,pos,after,g⟩::ir) env L:=Lm d (Eh Bm) .nil (cc hz .nil fun _ pz _=>hc pz) k hg (ng:=hk)
end
section
variable [Rnd]{P:Program}{n:Nat}{F:List Nat}{Ek:World}{env:List (Nat×Value)}{L R:List Asrt}{d:Option Tmp}{ty:TypeId}{pos:String}{after:Array Edge}{g:Option (Nat×Bool)}{x:Operand}{v:Value}{t T:TypeId}{b off:Nat}{cs:List Value}
theorem Ei(hT:jt P t)(hm:Pick L (stb b T cs) R)[hx:Ej (eo env x) (some (.pointer (some ⟨b,off,none⟩)))][hv:Ej cs[off]? (some v)]:Qt P n F Ek env L ⟨d,.load t x,ty,pos,after,g⟩ v:=w8 hT hx.1 (wc hm hv.1)
end
theorem Restr.q{env l:List (Nat×Value)}[h:Ej (l.map fun p=>Sep.lk env p.1) (l.map fun p=>some p.2)]:Restr env l:=Restr.qo h.1
theorem Eos.q{env:List (Nat×Value)}{os:List Operand}{ws:List Value}[h:Ej (os.map fun o=>Sep.eo env o) (ws.map some)]:Eos env os ws:=Eos.qo h.1
theorem Restr.ap{env:List (Nat×Value)}:∀{a b:List (Nat×Value)},Restr env a->Restr env b->Restr env (a++b)
 | _,_,.nil,h=>h
 | _,_,.cons x t,h=>.cons x (Restr.ap t h)
theorem Restr.t{env l:List (Nat×Value)}(N:Nat)[h:Ej ((l.take N).map fun p=>Sep.lk env p.1) ((l.take N).map fun p=>some p.2)](k:Restr env (l.drop N)):Restr env l:=by
 have u:=Restr.ap (Restr.qo h.1) k
 rwa[List.take_append_drop] at u
end
section
theorem Yj{P:Program}{kt:TypeId}{κ:Type}[DecidableEq κ]{ek:κ->Value}(heq:∀ u v w,(Op.equal kt (ek u) (ek v)).run P w = .ok (decide (u=v)) w)(k:κ):
  ∀(es:List MapEntry) (ks:List κ) (i:Nat) (w:World),es.map (·.key)=ks.map ek->
   (Instr.findAsking kt (ek k) es i).run P w = .ok ((ks.findIdx? fun k'=>decide (k=k')).map fun j=>(i+j,((es[j]?).map (·.val)).getD undef)) w
 | [],[],i,w,_=>by simp[Instr.findAsking]
 | [],_::_,_,_,h=>by simp at h
 | _::_,[],_,_,h=>by simp at h
 | e::es,k'::ks,i,w,h=>by
  simp only[List.map_cons,List.cons.injEq] at h
  unfold Instr.findAsking
  rw[h.1]
  simp only[Sem.run_bind,heq,Result.andThen_ok,List.findIdx?_cons]
  by_cases hk:k=k'
  ·subst hk;simp
  ·simp only[hk,decide_false,Bool.false_eq_true,if_false]
   rw[Yj heq k es ks (i+1) w h.2]
   cases ks.findIdx? (fun k'=>decide (k=k')) with
   | none=>rfl
   | some j=>simp;omega
theorem ay{P:Program}{kt:TypeId}{κ:Type}[DecidableEq κ]{enc:κ->List Value}{dd:TypeDesc}(hd:P.underlying kt=some dd)(hs:∀ a b,Instr.sameNow dd (.agg a) (.agg b)=none)(hchk:∀ b k w,(Instr.checkKey b 10000 kt (.agg (enc k).toArray)).run P w = .ok () w)(heq:∀ u v w,(Op.equal kt (.agg (enc u).toArray) (.agg (enc v).toArray)).run P w = .ok (decide (u=v)) w)(CN:∀ k,Instr.sameBits 10000 (.agg (enc k).toArray) (.agg (enc k).toArray)=true):KeyT P kt (fun x => .agg (enc x).toArray) where
 chk:=hchk
 find k es ks w hk:=by
  unfold Instr.findKey
  simp only[Sem.run_bind,run_underlying hd,Result.andThen_ok]
  cases es with
  | nil=>cases ks with
   | nil=>simp[Instr.findNow]
   | cons=>simp at hk
  | cons e es=>cases ks with
   | nil=>simp at hk
   | cons k' ks=>
    have h0:Instr.findNow dd (.agg (enc k).toArray) (e::es) 0=none:=by
     unfold Instr.findNow
     simp only[List.map_cons,List.cons.injEq] at hk
     rw[hk.1,hs]
    rw[h0]
    have:=Yj (P:=P) (kt:=kt) (ek:=fun x=>Value.agg (enc x).toArray) heq k (e::es) (k'::ks) 0 w hk
    simpa using this
 stays k w:=by simp[Instr.keyThatStays,CN]
end
section
variable {κ α β:Type}{name:String}
section vh
variable {κ β α γ:Type} [DecidableEq κ]
def jk(lg:List (κ×((Nat×β)×α))):List (κ×Option Addr):=lg.map fun p=>(p.1,some ⟨p.2.1.1,0,none⟩)
def mq(lg:List (κ×((Nat×β)×α))):List (κ×α):=lg.map fun p=>(p.1,p.2.2)
def mR(k:κ):List (κ×γ)->List (κ×γ)
 | []=>[]
 | p::l=>if k=p.1 then l else p::mR k l
def vh(els:Nat×β->α->List Asrt)(lg:List (κ×((Nat×β)×α))):Asrt:=wM (lg.flatMap fun p=>els p.2.1 p.2.2)
theorem Q8(k:κ)(v:γ):∀ lg:List (κ×γ),(wU lg k v).Perm ((k,v)::mR k lg)
 | [] => .refl _
 | p::l=>by
  unfold wU mR
  by_cases hk:k=p.1
  ·subst hk;simp only[if_true];exact .refl _
  ·simp only[hk,if_false]
   exact((Q8 k v l).cons p).trans (.swap _ _ _)
theorem ew(k:κ):∀ lg:List (κ×γ),jD lg k=true->∃ v,(∀ d,ww lg k d=v)/\lg.Perm ((k,v)::mR k lg)
 | [],h=>by simp[jD] at h
 | p::l,h=>by
  unfold jD at h
  unfold mR
  by_cases hk:k=p.1
  ·subst hk;exact⟨p.2,fun d=>by simp[ww],by simp⟩
  ·simp only[hk,if_false] at h ⊢
   obtain⟨v,h1,h2⟩:=ew k l h
   exact⟨v,fun d=>by unfold ww;simp[hk,h1 d],(h2.cons p).trans (.swap _ _ _)⟩
theorem Jc(k:κ):∀ lg:List (κ×γ),∃ l1,lg.Perm (l1++mR k lg)
 | []=>⟨[],.refl _⟩
 | p::l=>by
  unfold mR
  by_cases hk:k=p.1
  ·exact⟨[p],by simp[hk]⟩
  ·obtain⟨l1,h⟩:=Jc k l
   simp only[hk,if_false]
   exact⟨l1,(h.cons p).trans List.perm_middle.symm⟩
theorem Q9(lg:List (κ×((Nat×β)×α)))(k:κ)(b:Nat)(g:β)(x:α):jk (wU lg k ((b,g),x))=wU (jk lg) k (some ⟨b,0,none⟩):=by
 induction lg with
 | nil=>rfl
 | cons p l ih=>
  unfold jk at ih ⊢
  rw[List.map_cons]
  unfold wU
  by_cases hk:k=p.1
  ·simp[hk]
  ·simp only[hk,if_false,List.map_cons,ih]
theorem df{lg:List (κ×((Nat×β)×α))}{l:List (κ×α)}(h:mq lg=l)(k:κ)(g:Nat×β)(x:α):mq (wU lg k (g,x))=wU l k x:=by
 subst h
 induction lg with
 | nil=>rfl
 | cons p l ih=>
  unfold mq at ih ⊢
  rw[List.map_cons]
  unfold wU
  by_cases hk:k=p.1
  ·simp[hk]
  ·simp only[hk,if_false,List.map_cons,ih]
theorem Fu{lg:List (κ×((Nat×β)×α))}(k:κ):jD (mq lg) k=jD lg k:=by
 induction lg with
 | nil=>rfl
 | cons p l ih=>unfold mq at ih ⊢;rw[List.map_cons];unfold jD;by_cases hk:k=p.1 <;> simp[hk,ih]
theorem Jd{lg:List (κ×((Nat×β)×α))}(k:κ)(d:α)(g:Nat×β):ww (mq lg) k d=(ww lg k (g,d)).2:=by
 induction lg with
 | nil=>rfl
 | cons p l ih=>unfold mq at ih ⊢;rw[List.map_cons];unfold ww;by_cases hk:k=p.1 <;> simp[hk,ih]
theorem XN{lg:List (κ×((Nat×β)×α))}{l:List (κ×α)}(h:mq lg=l)(k:κ):(ww (jk lg) k none).isNone = !jD l k:=by
 subst h
 induction lg with
 | nil=>rfl
 | cons p l ih=>unfold jk mq at ih ⊢;rw[List.map_cons,List.map_cons];unfold ww jD;by_cases hk:k=p.1 <;> simp[hk,ih]
section hp
variable {F:List Nat} {Ek w:World} {L R R':List Asrt} {els:Nat×β->α->List Asrt} {lg:List (κ×((Nat×β)×α))} {l:List (κ×α)}
theorem Hp.az(els:Nat×β->α->List Asrt)(h:Hp F Ek w L):Hp F Ek w (vh (κ:=κ) els []::L):=Hp.ur (M:=[]) h
theorem lY{δ:Type}{f:δ->List Asrt}{a b:List δ}(h:a.Perm b):(a.flatMap f).Perm (b.flatMap f):=List.Perm.flatMap_right f h
theorem Hp.JX[Inhabited α]{k:κ}(hm:mq lg=l)(hk:jD l k=true)(hp:Pick L (vh els lg) R)(L':Nat×β->List Asrt)(he:∀ g,els g (ww l k default)++vh els (mR k lg)::R=L' g)(h:Hp F Ek w L):∃ g:Nat×β,ww (jk lg) k none=some ⟨g.1,0,none⟩/\Hp F Ek w (L' g):=by
 subst hm
 have zD:jD lg k=true:=by rw[<- Fu];exact hk
 obtain⟨v,h1,h2⟩:=ew k lg zD
 refine⟨v.1,?_,?_⟩
 ·have h3:=XN (lg:=lg) rfl k
  rw[hk] at h3
  clear h3 hk h2 hp h he
  induction lg with
  | nil=>simp[jD] at zD
  | cons p l ih=>
   unfold jk at ih ⊢
   rw[List.map_cons]
   unfold jD at zD
   have CO:=h1
   unfold ww at CO ⊢
   by_cases hk:k=p.1
   ·simp only[hk,if_true] at CO ⊢;rw[CO p.2]
   ·simp only[hk,if_false] at CO zD ⊢;exact ih zD (fun d=>CO d)
 ·rw[<- he]
  have h3:ww (mq lg) k default=v.2:=by rw[Jd k default v.1,h1]
  rw[h3]
  have h4:=h.pickAll hp
  have h5:=h4.perm ((lY (f:=fun p:κ×((Nat×β)×α)=>els p.2.1 p.2.2) h2).append_right R)
  rw[List.flatMap_cons,List.append_assoc] at h5
  have h6:Hp F Ek w (((mR k lg).flatMap fun p=>els p.2.1 p.2.2)++(els v.1 v.2++R)):=h5.perm (by
   rw[<- List.append_assoc,<- List.append_assoc];exact List.perm_append_comm.append_right R)
  have h7:=Hp.ur h6
  exact h7.perm List.perm_middle.symm
theorem Hp.objsClose{k:κ}{b:Nat}{g:β}{x:α}(hs:Sel L (els (b,g) x++[vh els (mR k lg)]) R)(h:Hp F Ek w L):Hp F Ek w (vh els (wU lg k ((b,g),x))::R):=by
 have h1:=(h.selAll hs).open_
 have h2:Hp F Ek w (vh els (mR k lg)::(els (b,g) x++R)):=h1.perm (by
  rw[List.append_assoc];exact List.perm_middle)
 have h3:=Hp.open_ h2
 refine Hp.ur (h3.perm ?_)
 refine List.Perm.trans ?_ ((lY (f:=fun p:κ×((Nat×β)×α)=>els p.2.1 p.2.2) (Q8 k ((b,g),x) lg).symm).append_right R)
 rw[List.flatMap_cons,List.append_assoc]
 rw[<- List.append_assoc,<- List.append_assoc]
 exact List.perm_append_comm.append_right R
theorem Hp.objsRem(k:κ)(hp:Pick L (vh els lg) R)(h:Hp F Ek w L):Hp F Ek w (vh els (mR k lg)::R):=by
 obtain⟨l1,h1⟩:=Jc k lg
 have h2:=(h.pickAll hp).perm ((lY (f:=fun p:κ×((Nat×β)×α)=>els p.2.1 p.2.2) h1).append_right R)
 rw[List.flatMap_append,List.append_assoc] at h2
 refine Hp.ur ?_
 exact⟨h2.os,h2.tape,h2.output,h2.size,h2.block,fun x hx=>h2.ok x (List.mem_append_right _ hx),fun x hx=>h2.lt x (List.mem_append_right _ hx),fun x hx=>h2.ow x (List.mem_append_right _ hx),(List.pairwise_append.1 h2.sep).2.1⟩
theorem Hp.KG{k:κ}{b:Nat}{g:β}{x:α}(hp:Pick L (vh els lg) R')(hs:Sel R' (els (b,g) x) R)(h:Hp F Ek w L):Hp F Ek w (vh els (wU lg k ((b,g),x))::R):=by
 have h1:=h.objsRem k hp
 have h2:Hp F Ek w (els (b,g) x++[vh els (mR k lg)]++R):=by
  have:(vh els (mR k lg)::R').Perm (els (b,g) x++[vh els (mR k lg)]++R):=by
   rw[List.append_assoc]
   exact((hs.perm).cons _).trans List.perm_middle.symm
  exact h1.perm this
 exact h2.objsClose (R:=R) (by
  have:∀(A B:List Asrt),Sel (A++B) A B:=by
   intro A B
   induction A with
   | nil=>exact .nil
   | cons a A ih=>exact .cons .here ih
  exact this _ _)
end hp
end vh
theorem ey{κ γ:Type}[DecidableEq κ]{k:κ}{v d:γ}:∀ {l:List (κ×γ)},jD l k=true->ww l k d=v->wU l k v=l
 | [],h,_=>by simp[jD] at h
 | p::l,h,hv=>by
  unfold jD at h
  unfold ww at hv
  unfold wU
  by_cases hk:k=p.1
  ·subst hk;simp only[if_true] at hv ⊢;subst hv;rfl
  ·simp only[hk,if_false] at h hv ⊢;rw[ey h hv]
theorem Gq[DecidableEq κ]{lg:List (κ×((Nat×β)×α))}{l:List (κ×α)}(h:mq lg=l)(k:κ):jD (jk lg) k=jD l k:=by
 subst h
 induction lg with
 | nil=>rfl
 | cons p l ih=>unfold jk mq at ih ⊢;rw[List.map_cons,List.map_cons];unfold jD;by_cases hk:k=p.1 <;> simp[hk,ih]
theorem KH[DecidableEq κ]{lg:List (κ×((Nat×β)×α))}{l:List (κ×α)}{k:κ}{b:Nat}(hm:mq lg=l)(hk:jD l k=true)(hp:ww (jk lg) k none=some ⟨b,0,none⟩)(g:β)(x:α):
  jk lg=jk (wU lg k ((b,g),x)):=by
 rw[Q9];exact(ey (by rw[Gq hm];exact hk) hp).symm
theorem Hp.aA{F:List Nat}{Ek w:World}{L R:List Asrt}{b:Nat}{ek:κ->Value}{ev:α->Value}{l l':List (κ×α)}(hm:Pick L (wp b ek ev l) R)(he:l=l')(h:Hp F Ek w L):Hp F Ek w (wp b ek ev l'::R):=by
 subst he;exact h.front hm
section gh
variable [Rnd]
variable {P:Program} {n:Nat} {F:List Nat} {Ek:World} {env:List (Nat×Value)} {L R:List Asrt} {ops:Array Oper} {Q:Exit->Act->World->Prop} {l:List Oper} {G:Type} {φ:G->Prop} {L':G->List Asrt} {M:List Asrt}
theorem Hq(h:∀ w,Hp F Ek w L->∃ g,φ g/\Hp F Ek w (L' g))(k:∀ g,φ g->WL P n F Ek ops Q l env (L' g)):WL P n F Ek ops Q l env L:=fun a w hs=>by
 obtain⟨g,h1,h2⟩:=h w hs.hp;exact k g h1 a w (hs.world h2)
theorem Nq(h:∀ w,Hp F Ek w L->Hp F Ek w M)(k:WL P n F Ek ops Q l env M):WL P n F Ek ops Q l env L:=fun a w hs=>k a w (hs.world (h w hs.hp))
theorem Ov{c:Code}(h:∀ w,Hp F Ek w L->Hp F Ek w M)(k:WC P n F Ek Q c env M):WC P n F Ek Q c env L:=fun a w hs=>k a w (hs.world (h w hs.hp))
theorem D7{e:Exit}(h:∀ w,Hp F Ek w L->Hp F Ek w M)(k:WX n F Ek Q e env M):WX n F Ek Q e env L:=fun a w hs=>k a w (hs.world (h w hs.hp))
variable {tl:Nat->Bool} {Ls:List Asrt} {fuel:Nat} {listed:Array Bool} {QD:Act->World->Prop}
theorem Dy(h:∀ w,Hp F Ek w L->∃ g,φ g/\Hp F Ek w (L' g))(k:∀ g,φ g->WD P n F Ek ops tl Ls QD fuel listed env (L' g)):WD P n F Ek ops tl Ls QD fuel listed env L:=fun a w hs=>by
 obtain⟨g,h1,h2⟩:=h w hs.hp;exact k g h1 a w (hs.world h2)
theorem E8(h:∀ w,Hp F Ek w L->Hp F Ek w M)(k:WD P n F Ek ops tl Ls QD fuel listed env M):WD P n F Ek ops tl Ls QD fuel listed env L:=fun a w hs=>k a w (hs.world (h w hs.hp))
end gh
section ifc
variable [Rnd]
variable {P:Program} {n:Nat} {F:List Nat} {Ek:World} {env:List (Nat×Value)} {L R:List Asrt} {d:Option Tmp} {ty:TypeId} {pos:String} {after:Array Edge} {g:Option (Nat×Bool)} {x y:Operand} {v:Value} {t e T:TypeId}
theorem ez{dd:TypeDesc}(hu:P.underlying t=some dd)(hd:(match dd with | .interface _=>false | _=>true)=true)(hx:eo env x=some v):Qt P n F Ek env L ⟨d,.makeInterface t x,ty,pos,after,g⟩ (.iface t v):=by
 intro a w h
 cases dd <;> simp_all [execOp,h.eval hx,Instr.makeInterface,run_underlying hu]
theorem Je{dd:TypeDesc}{t':TypeId}(hu:P.underlying T=some dd)(hd:(match dd with | .interface _=>false | _=>true)=true)(hx:eo env x=some (.iface T v)):Qt P n F Ek env L ⟨d,.typeAssert x t' T false,ty,pos,after,g⟩ v:=by
 intro a w h
 cases dd <;> simp_all [execOp,h.eval hx,Instr.typeAssert,run_underlying hu]
theorem WM{f:FuncId}{l:List Operand}{vs:List Value}{zN:Array TypeId}(hm:∀ w,(method (P.types.size+Made.depth) T v name).run P w = .ok (f,v) w)(zp:∀ args w,(callFunc f args).run P w = .ok (.enter f args) w)(hx:eo env x=some (.iface T v))(he:Eos env l vs):
  ∀ a w,SS n F Ek env L a w->(execOp a.eval ⟨d,.call ⟨.invoke x name,l.toArray,zN⟩,ty,pos,after,g⟩).run P w = .ok (.enter f (v::vs).toArray) w:=by
 intro a w h
 have h1:=he.map h
 have h2:(Array.map a.eval l.toArray)=vs.toArray:=by rw[<- h1];simp
 simp[execOp,resolve,invoke,h.eval hx,callMethod,run_program,hm w,zp,h2]
theorem cO{f:FuncId}{l:List Operand}{vs:List Value}{zN:Array TypeId}{A:Addr}(hm:∀ w,w.cell? A=some v->(method (P.types.size+Made.depth) T (.pointer (some A)) name).run P w = .ok (f,v) w)(zp:∀ args w,(callFunc f args).run P w = .ok (.enter f args) w)(hx:eo env x=some (.iface T (.pointer (some A))))(hR:∀ w,Hp F Ek w L->w.cell? A=some v)(he:Eos env l vs):
  ∀ a w,SS n F Ek env L a w->(execOp a.eval ⟨d,.call ⟨.invoke x name,l.toArray,zN⟩,ty,pos,after,g⟩).run P w = .ok (.enter f (v::vs).toArray) w:=by
 intro a w h
 have h1:=he.map h
 have h2:(Array.map a.eval l.toArray)=vs.toArray:=by rw[<- h1];simp
 simp[execOp,resolve,invoke,h.eval hx,callMethod,run_program,hm w (hR w h.hp),zp,h2]
theorem aB{i:TypeInfo}{m:Method}{f fuel:Nat}{A:Addr}{w:World}(hi:P.info? T=some i)(hf:i.methods.find? (·.name == name)=some m)(hp:m.path = #[])(hfn:m.func=some (f,false))(hu:P.underlying T=some (.pointer e))(he:jt P e)(h:w.cell? A=some v):(method (fuel+1) T (.pointer (some A)) name).run P w = .ok (f,v) w:=by
 have h1:=congrFun he w
 skip
 have hti:∀ w,(typeInfo T).run P w = .ok i w:=fun w=>by simp[typeInfo,run_program,hi]
 have hw:∀ x y:String,Builtin.ssaWrapNilChk_ #[T] T #[.pointer (some A),strVal x,strVal y]=pure (.pointer (some A)):=fun x y=>rfl
 simp only[method,Sem.run_bind,hti,Result.andThen_ok,hf,hp,hfn,Array.isEmpty_empty,if_true]
 simp[follow,receiverAt,run_underlying hu,Place.get,hw,loadVar,h1,asAddr,h]
theorem Mj[DecidableEq κ]{lg:List (κ×((Nat×β)×α))}{l:List (κ×α)}{k:κ}{t':TypeId}(hm:mq lg=l)(ht:P.underlying t=some (.pointer e))(hx:eo env x=some (.pointer (ww (jk lg) k none)))(hy:eo env y=some (.pointer none)):
  Qt P n F Ek env L ⟨d,.binOp .eql t x y t',ty,pos,after,g⟩ (.bool (!jD l k)):=by
 rw[<- XN hm]
 exact J0 ht hx hy
end ifc
end
section
variable {w:World}{s:Nat}
section ent
variable {κ α:Type} [DecidableEq κ]
def Jf(b:Nat)(ek:κ->Value)(ev:α->Value)(l:List (κ×α))(k:κ)(s:Nat):Asrt where
 fp:=[b]
 ok w:=∃ es iO i e,w.heap[b]?=some (.map es iO)/\es.toList.map (fun e=>(e.key,e.val))=l.map (fun p=>(ek p.1,ev p.2))/\sj es iO/\
  ((l.map (·.1)).findIdx? fun k'=>decide (k=k'))=some i/\es[i]?=some e/\e.born=s
 loc w w' h hl hk:=by
  obtain⟨es,iO,i,e,h1,h2⟩:=hk
  exact⟨es,iO,i,e,by rw[h b (by simp) (hl b (by simp))];exact h1,h2⟩
variable [Rnd]
variable {P:Program} {n:Nat} {F:List Nat} {Ek:World} {env:List (Nat×Value)} {L R:List Asrt} {d:Option Tmp} {ty:TypeId} {pos:String} {after:Array Edge} {g:Option (Nat×Bool)} {x y z:Operand} {t kt e:TypeId}
 {ek:κ->Value} {ev:α->Value} {l:List (κ×α)} {b:Nat} {k:κ} {v dflt:α} {zv:Value}
theorem Hp.setMapG{X Y:Asrt}{o:Obj}(h:Hp F Ek w L)(hm:Pick L X R)(hX:X.fp=[b])(hY:Y.fp=[b])(BE:∀ w',w'.heap[b]?=some o->Y.ok w'):
  Hp F Ek { w with heap:=w.heap.setIfInBounds b o } (Y::R):=by
 have tW:b<w.heap.size:=(h.front hm).lt _ (List.mem_cons_self ..) b (by simp[hX])
 refine(h.front hm).upd (x:=X) (y:=Y) .here rfl ⟨rfl,Nat.le_refl _⟩ rfl (by simp) (fun k _ zD=>?_) (BE _ (by simp[tW])) ?_
 ·have:b≠k:=fun e=>zD (by simp[hX,e])
  simp[Array.getElem?_setIfInBounds,this]
 ·intro b' hb'
  rw[hY] at hb'
  simp only[List.mem_singleton] at hb'
  subst hb'
  exact⟨by simpa using tW,.inl (by simp[hX])⟩
theorem Qa{γ:Type}{k:κ}{u v:γ}:∀ {l:List (κ×γ)},wU (wU l k u) k v=wU l k v
 | []=>by simp[wU]
 | p::l=>by
  by_cases hk:k=p.1
  ·subst hk;simp[wU]
  ·simp only[wU,hk,if_false];rw[Qa]
theorem XO{k:κ}:∀ {l:List κ},(l.findIdx? fun k'=>decide (k=k'))=none->((l++[k]).findIdx? fun k'=>decide (k=k'))=some l.length
 | [],_=>by simp
 | a::l,h=>by
  rw[List.findIdx?_cons] at h
  rw[List.cons_append,List.findIdx?_cons]
  by_cases hk:k=a
  ·subst hk;simp at h
  ·simp only[hk,decide_false,Bool.false_eq_true,if_false,Option.map_eq_none_iff] at h ⊢
   rw[XO h];rfl
theorem KI(K:KeyT P kt ek)(ht:P.underlying t=some (.map kt e))(hz:vk P e zv)(hd:zv=ev dflt)(hx:eo env x=some (.map (some b)))(hy:eo env y=some (ek k))(hm:Pick L (wp b ek ev l) R):
  Ef P n F Ek env L ⟨d,.mapEntry t x y,ty,pos,after,g⟩ (fun _:Nat=>True) (fun s => .tuple #[ev (ww l k dflt),.int .i64 ((s:Nat):Int)]) (fun s=>Jf b ek ev (wU l k (ww l k dflt)) k s::R):=by
 intro a w h
 obtain⟨es,iO,hb,he,nE⟩:=h.hp.ok _ hm.mem
 have h1:=K.find k es.toList (l.map (·.1)) w (bT he)
 have h2:=cW (ek:=ek) (ev:=ev) (k:=k) (d:=dflt) l es.toList he
 have h3:=YR (k:=k) l
 have BX:=congrFun hz w
 cases hf:(l.map (·.1)).findIdx? (fun k'=>decide (k=k')) with
 | none=>
  rw[hf] at h1 h2 h3
  simp only[Option.map_none] at h1 h2
  refine⟨iO,{ w with heap:=w.heap.setIfInBounds b (.map (es.push { key:=ek k,val:=ev dflt,born:=iO }) (iO+1)) },?_,trivial,?_⟩
  ·simp[execOp,h.eval hx,h.eval hy,Instr.mapEntry,Sem.run_bind,run_underlying ht,Result.andThen,MapKept.run_getObj_map hb,K.chk,h1,BX,hd,MapKept.run_setObj_map _ hb,goInt,<- h2]
  ·refine h.hp.setMapG (X:=wp b ek ev l) hm rfl rfl (fun w' pQ=>⟨_,_,l.length,{ key:=ek k,val:=ev dflt,born:=iO },pQ,?_,nE.push _ _,?_,?_,rfl⟩)
   ·rw[cY l hf]
    have:ev (ww l k dflt)=ev dflt:=h2.symm
    simp[he,this]
   ·rw[cY l hf,List.map_append]
    simpa using XO hf
   ·have hl:es.size=l.length:=by have:=congrArg List.length he;simpa using this
    rw[<- hl];simp
 | some i=>
  rw[hf] at h1 h2 h3
  obtain⟨i1,i2,i3⟩:=cX (v:=ww l k dflt) l es.toList i he hf
  have CD:i<es.size:=by simpa using i1
  have e0:es[i]?=some es[i]:=Array.getElem?_eq_getElem CD
  have Ah:es[i].key=ek k:=by
   rw[Array.getElem?_toList,e0] at i2;simpa using i2
  have hv0:es[i].val=ev (ww l k dflt):=by
   simp only[Option.map_some] at h2
   rw[Array.getElem?_toList,e0] at h2;simpa using h2
  refine⟨es[i].born,{ w with heap:=w.heap.setIfInBounds b (.map (es.modify i fun e=>{ e with key:=ek k }) iO) },?_,trivial,?_⟩
  ·simp[execOp,h.eval hx,h.eval hy,Instr.mapEntry,Sem.run_bind,run_underlying ht,Result.andThen,MapKept.run_getObj_map hb,K.chk,h1,e0,Ah,K.stays,MapKept.run_setObj_map _ hb,goInt,hv0]
  ·have hmod:(es.modify i fun e=>{ e with key:=ek k })=es:=by
    apply Array.ext_getElem?
    intro j
    rw[Array.getElem?_modify]
    by_cases zR:i=j
    ·subst zR;rw[e0];simp[<- Ah]
    ·simp[zR]
   have hs:wU l k (ww l k dflt)=l:=ey (d:=dflt) (by rw[<- h3];rfl) rfl
   rw[hmod,hs]
   exact h.hp.setMapG (X:=wp b ek ev l) hm rfl rfl (fun w' pQ=>⟨es,iO,i,es[i],pQ,he,nE,hf,e0,rfl⟩)
theorem Gr{es:Array MapEntry}{i:Nat}{e0:MapEntry}(hn:(es.toList.map (·.born)).Nodup)(h:es[i]?=some e0):es.findIdx? (fun e=>((e.born:Nat):Int) == ((e0.born:Nat):Int))=some i:=by
 rw[Array.findIdx?_eq_some_iff_getElem]
 obtain⟨hi,h1⟩:=Array.getElem?_eq_some_iff.1 h
 refine⟨hi,by simp[h1],?_⟩
 intro j hj
 simp only[beq_iff_eq]
 intro hc
 have wo:j<es.size:=by omega
 have AB:es[j].born=e0.born:=Int.ofNat.inj hc
 have h2:=(List.pairwise_iff_getElem.1 hn) j i (by simpa using wo) (by simpa using hi) hj
 apply h2
 simp[AB,h1]
theorem Jg{vv:Value}(hx:eo env x=some (.map (some b)))(hy:eo env y=some (.int .i64 ((s:Nat):Int)))(hv:eo env z=some vv)(BY:vv=ev v)(hm:Pick L (Jf b ek ev l k s) R):
  Yh P n F Ek env L ⟨none,.entryStore t x y z,ty,pos,after,g⟩ (wp b ek ev (wU l k v)::R):=by
 intro a w h
 subst BY
 obtain⟨es,iO,i,e0,hb,he,nE,hf,hi,rfl⟩:=h.hp.ok _ hm.mem
 have hfi:=Gr nE.2 hi
 obtain⟨i1,i2,i3⟩:=cX (v:=v) l es.toList i he hf
 have Ah:e0.key=ek k:=by rw[Array.getElem?_toList,hi] at i2;simpa using i2
 refine⟨{ w with heap:=w.heap.setIfInBounds b (.map (es.modify i fun e=>{ e with val:=ev v }) iO) },.inl ?_,?_⟩
 ·simp[execOp,h.eval hx,h.eval hy,h.eval hv,Instr.entryStore,Sem.run_bind,Result.andThen,MapKept.run_getObj_map hb,asInt,asIntOf,hfi,MapKept.run_setObj_map _ hb]
 ·refine h.hp.setMapG (X:=Jf b ek ev l k e0.born) hm rfl rfl (fun w' pQ=>⟨_,_,pQ,?_,nE.modify _ _ (fun _=>rfl)⟩)
  rw[<- i3,Array.toList_modify]
  apply List.ext_getElem?
  intro j
  simp only[List.getElem?_map,List.getElem?_modify]
  by_cases zR:i=j
  ·subst zR
   rw[Array.getElem?_toList,hi]
   simp[Ah]
  ·simp[zR]
theorem QC{vv:Value}{u:α}(hx:eo env x=some (.map (some b)))(hy:eo env y=some (.int .i64 ((s:Nat):Int)))(hv:eo env z=some vv)(BY:vv=ev v)(hm:Pick L (Jf b ek ev (wU l k u) k s) R):
  Yh P n F Ek env L ⟨none,.entryStore t x y z,ty,pos,after,g⟩ (wp b ek ev (wU l k v)::R):=by
 have:=Jg (P:=P) (n:=n) (F:=F) (Ek:=Ek) (L:=L) (env:=env) (t:=t) (ty:=ty) (pos:=pos) (after:=after) (g:=g) (v:=v) hx hy hv BY hm
 rwa [Qa] at this
def WN(b:Nat)(ek:κ->Value)(ev:α->Value)(k:κ)(d v:α):Asrt where
 fp:=[b]
 ok w:=∃ l,(wp b ek ev l).ok w/\ww l k d=v
 loc w w' h hl hk:=by
  obtain⟨l,h1,h2⟩:=hk
  exact⟨l,(wp b ek ev l).loc w w' h hl h1,h2⟩
theorem pt{d:α}(h:(wp b ek ev l).ok w):(WN b ek ev k d (ww l k d)).ok w:=⟨l,h,rfl⟩
theorem Qb{γ:Type}{k:κ}{u d:γ}:∀ {l:List (κ×γ)},ww (wU l k u) k d=u
 | []=>by simp[wU,ww]
 | p::l=>by
  by_cases hk:k=p.1
  ·subst hk;simp[wU,ww]
  ·simp only[wU,hk,if_false,ww];exact Qb
theorem Gs{d:α}(h:(Jf b ek ev (wU l k (ww l k d)) k s).ok w):(WN b ek ev k d (ww l k d)).ok w:=by
 obtain⟨es,iO,i,e,h1,h2,h3,_⟩:=h
 exact⟨_,⟨es,iO,h1,h2,h3⟩,Qb⟩
theorem Qc{u:α}(K:KeyT P kt ek)(ht:P.underlying t=some (.map kt e))(hz:vk P e zv)(hd:zv=ev dflt)(hx:eo env x=some (.map (some b)))(hy:eo env y=some (ek k))(hm:Pick L (WN b ek ev k dflt u) R):
  Qt P n F Ek env L ⟨d,.lookup t x y false,ty,pos,after,g⟩ (ev u):=by
 intro a w h
 obtain⟨l,h1,h2⟩:=h.hp.ok _ hm.mem
 have zj:=h.hp.front hm
 have h3:Hp F Ek w (wp b ek ev l::R):=by
  refine⟨zj.os,zj.tape,zj.output,zj.size,zj.block,fun y hy=>?_,fun y hy c hc=>?_,fun y hy c hc=>?_,List.pairwise_cons.2 (List.pairwise_cons.1 zj.sep)⟩
  ·rcases List.mem_cons.1 hy with rfl | hy
   ·exact h1
   ·exact zj.ok y (List.mem_cons_of_mem _ hy)
  ·rcases List.mem_cons.1 hy with rfl | hy
   ·exact zj.lt _ (List.mem_cons_self ..) c hc
   ·exact zj.lt y (List.mem_cons_of_mem _ hy) c hc
  ·rcases List.mem_cons.1 hy with rfl | hy
   ·exact zj.ow _ (List.mem_cons_self ..) c hc
   ·exact zj.ow y (List.mem_cons_of_mem _ hy) c hc
 subst h2
 exact qL K ht hz (hd:=⟨hd⟩) (hx:=⟨hx⟩) (hy:=⟨hy⟩) .here a w (h.world h3)
end ent
theorem Dr[Rnd]{P:Program}{n dd:Nat}{F:List Nat}{Ek:World}{env:List (Nat×Value)}{L:List Asrt}{ops:Array Oper}{G:Type}{φ:G->Prop}{val:G->Value}{L':G->List Asrt}{o:Oper}{tl:Nat->Bool}{Ls:List Asrt}{fuel:Nat}{listed:Array Bool}{QD:Act->World->Prop}{i:Nat}(hi:ops[i]?=some o)(hr:Region.ready .any ops listed=[i])(hg:gd env ops o=some true)(hd:o.dst=some dd)(ng:Nat.blt dd n=true)(ht:tl i=true)(hq:Ef P n F Ek env L o φ val L')(nE:∀ g,wS (L' g) Ls)(k:∀ g,φ g->WD P n F Ek ops tl Ls QD fuel (listed.setIfInBounds i true) ((dd,val g)::env) (L' g)):WD P n F Ek ops tl Ls QD (fuel+1) listed env L:=
 WD.old hi hr (hg:=⟨hg⟩) hd (ng:=⟨ng⟩) (ht:=⟨ht⟩) nE hq k
section app
variable [Rnd] {F:List Nat} {Ek:World} {L:List Asrt} {Z:Zp}
theorem RR.oc{α:Type}{Pr:List Value->α->Prop}{sz:Nat}{cs:List Value}{l:List α}(h:RR sz Pr cs l)(hP:∀ r x,Pr r x->∀ u∈r,u.oneCell'=true):∀ u∈cs,u.oneCell'=true:=by
 obtain⟨rows,h1,h2,h3,h4⟩:=h
 intro u hu
 rw[<- h1] at hu
 obtain⟨r,hr,hur⟩:=List.mem_flatten.1 hu
 obtain⟨i,hi,rfl⟩:=List.getElem_of_mem hr
 exact hP _ _ (h4 i rows[i] (l[i]'(by omega)) (List.getElem?_eq_getElem hi) (List.getElem?_eq_getElem (by omega))) u hur
theorem RR.store{α:Type}[Inhabited α]{Pr:List Value->α->Prop}{sz:Nat}{cs r tl vs:List Value}{l:List α}{i:Int}{y:α}{k:Nat}(h:RR sz Pr cs l)(h0:0<=i)(h1:i<l.length)(hd:cs.drop (i.toNat*sz)=r++tl)(hr:r.length=sz)(hk:k+vs.length<=sz)(hP:Pr (mf r k vs) y):RR sz Pr (mf cs (i.toNat*sz+k) vs) (l.set i.toNat y)/\i.toNat*sz+k+vs.length<=cs.length:=by
 have nj:=h.len
 have hi:i.toNat<l.length:=by omega
 have AU:(i.toNat+1)*sz<=l.length*sz:=Nat.mul_le_mul_right _ (by omega)
 rw[Nat.succ_mul] at AU
 obtain⟨rows,a1,a2,a3,a4⟩:=h
 have w9:i.toNat*sz+k+vs.length<=cs.length:=by omega
 refine⟨⟨rows.set i.toNat (mf r k vs),?_,?_,by simp[a3],?_⟩,w9⟩
 ·have AH:i.toNat<rows.length:=by omega
  have e1:rows=rows.take i.toNat++rows[i.toNat]::rows.drop (i.toNat+1):=by
   rw[List.getElem_cons_drop,List.take_append_drop]
  have e2:(rows.take i.toNat).flatten.length=i.toNat*sz:=by
   have:∀(rs:List (List Value)),(∀ r∈rs,r.length=sz)->rs.flatten.length=rs.length*sz:=by
    intro rs
    induction rs with
    | nil=>simp
    | cons r rs ih=>intro hh;rw[List.flatten_cons,List.length_append,hh r (by simp),ih (fun r hr=>hh r (List.mem_cons_of_mem _ hr)),List.length_cons,Nat.succ_mul,Nat.add_comm]
   rw[this _ (fun r hr=>a2 r (List.mem_of_mem_take hr)),List.length_take,Nat.min_eq_left (by omega)]
  have e3:cs=(rows.take i.toNat).flatten++(rows[i.toNat]++(rows.drop (i.toNat+1)).flatten):=by
   rw[<- a1]
   have:=congrArg List.flatten e1
   rw[List.flatten_append,List.flatten_cons] at this
   exact this
  have e4:cs.drop (i.toNat*sz)=rows[i.toNat]++(rows.drop (i.toNat+1)).flatten:=by
   rw[e3,<- e2,List.drop_left]
  rw[e4] at hd
  have e5:rows[i.toNat]=r/\(rows.drop (i.toNat+1)).flatten=tl:=List.append_inj hd (by rw[a2 _ (List.getElem_mem AH),hr])
  rw[List.set_eq_take_append_cons_drop,if_pos AH,List.flatten_append,List.flatten_cons]
  rw[e3,e5.1]
  unfold mf
  rw[<- e2]
  generalize (rows.take i.toNat).flatten=A
  generalize (rows.drop (i.toNat+1)).flatten=B
  have t1:(A++(r++B)).take (A.length+k)=A++r.take k:=by
   rw[List.take_length_add_append,List.take_append_of_le_length (by omega)]
  have t2:(A++(r++B)).drop (A.length+k+vs.length)=r.drop (k+vs.length)++B:=by
   rw[Nat.add_assoc,List.drop_length_add_append,List.drop_append_of_le_length (by omega)]
  rw[t1,t2]
  simp only[List.append_assoc]
 ·intro r' Ba
  rcases List.mem_or_eq_of_mem_set Ba with h' | rfl
  ·exact a2 _ h'
  ·unfold mf;simp;omega
 ·intro j r' x Ba hx
  rw[List.getElem?_set] at Ba hx
  by_cases hj:i.toNat=j
  ·subst hj
   rw[if_pos rfl] at Ba hx
   rw[if_pos (by omega)] at Ba hx
   simp at Ba hx
   subst Ba hx
   exact hP
  ·rw[if_neg hj] at Ba hx
   exact a4 _ _ _ Ba hx
end app
end
section
def pw(es:List MapEntry)(seen:Array Nat):List MapEntry:=es.filter fun e => !seen.contains e.born
theorem Yk{α β:Type}(f:α->β)(l:List α)(i:Nat):(l.eraseIdx i).map f=(l.map f).eraseIdx i:=by
 simp only[List.eraseIdx_eq_take_drop_succ,List.map_append,List.map_take,List.map_drop]
theorem JY{l:List MapEntry}{i:Nat}{e:MapEntry}(hn:(l.map (·.born)).Nodup)(h:l[i]?=some e):l.filter (fun q=>q.born != e.born)=l.eraseIdx i:=by
 induction l generalizing i with
 | nil=>simp at h
 | cons a t ih=>
  simp only[List.map_cons,List.nodup_cons,List.mem_map,not_exists,not_and] at hn
  cases i with
  | zero=>
   simp only[List.getElem?_cons_zero,Option.some.injEq] at h
   subst h
   rw[List.filter_cons_of_neg (by simp),List.eraseIdx_cons_zero]
   exact List.filter_eq_self.2 fun q hq=>bne_iff_ne.2 (hn.1 q hq)
  | succ i=>
   rw[List.getElem?_cons_succ] at h
   have hm:e∈t:=List.mem_of_getElem? h
   rw[List.filter_cons_of_pos (by simpa using fun hc=>hn.1 e hm hc.symm),ih hn.2 h,List.eraseIdx_cons_succ]
theorem JZ{es:List MapEntry}{seen:Array Nat}{i:Nat}{e:MapEntry}(hn:(es.map (·.born)).Nodup)(h:(pw es seen)[i]?=some e):pw es (seen.push e.born)=(pw es seen).eraseIdx i:=by
 rw[<- JY (l:=pw es seen) (i:=i) (List.Sublist.nodup (List.Sublist.map _ List.filter_sublist) hn) h]
 unfold pw
 rw[List.filter_filter]
 congr 1;funext q
 rw[Array.contains_push,Bool.not_or,Bool.and_comm]
 simp[bne,Bool.beq_comm,BEq.comm]
theorem Gt{l:List MapEntry}{e:MapEntry}(hn:(l.map (·.born)).Nodup)(h:e∈l):l.find? (fun x=>x.born == e.born)=some e:=by
 induction l with
 | nil=>simp at h
 | cons a t ih=>
  simp only[List.map_cons,List.nodup_cons,List.mem_map,not_exists,not_and] at hn
  rcases List.mem_cons.1 h with rfl | h
  ·simp
  ·rw[List.find?_cons_of_neg (by simpa using fun hc=>hn.1 e h hc.symm)];exact ih hn.2 h
section
variable {κ α:Type}
def sk(r b:Nat)(ek:κ->Value)(ev:α->Value)(l rem:List (κ×α))(nZ:Option (κ×α)):Asrt where
 fp:=[r,b]
 ok w:=r≠b/\∃ es iO seen,w.heap[b]?=some (.map es iO)/\es.toList.map (fun e=>(e.key,e.val))=l.map (fun p=>(ek p.1,ev p.2))/\sj es iO/\w.heap[r]?=some (.mapIter (some b) iO seen iO)/\
  (pw es.toList seen).map (fun e=>(e.key,e.val))=rem.map (fun p=>(ek p.1,ev p.2))/\
  ∀ c,nZ=some c->∃ s e,seen.back?=some s/\es.find? (fun x=>x.born == s)=some e/\e.key=ek c.1/\e.val=ev c.2
 loc w w' h hl hk:=by
  obtain⟨h0,es,iO,seen,h1,h2,h3,h4,h5⟩:=hk
  exact⟨h0,es,iO,seen,by rw[h b (by simp) (hl b (by simp))];exact h1,h2,h3,by rw[h r (by simp) (hl r (by simp))];exact h4,h5⟩
end
section
variable [Rnd]
variable {P:Program} {n:Nat} {F:List Nat} {Ek:World} {env:List (Nat×Value)} {L R:List Asrt} {d:Option Tmp} {ty:TypeId} {pos:String} {after:Array Edge} {g:Option (Nat×Bool)} {x y z:Operand} {t kt e:TypeId}
 {κ α:Type} {ek:κ->Value} {ev:α->Value} {l rem:List (κ×α)} {nZ:Option (κ×α)} {r b:Nat}
theorem Mk(ht:P.underlying t=some (.map kt e))(hx:eo env x=some (.map (some b)))(hm:Pick L (wp b ek ev l) R):
  Ef P n F Ek env L ⟨d,.range t x,ty,pos,after,g⟩ (fun _:Nat=>True) (fun r => .pointer (some ⟨r,0,none⟩)) (fun r=>sk r b ek ev l l none::R):=by
 intro a w h
 obtain⟨es,iO,hb,he,nE⟩:=h.hp.ok _ hm.mem
 have zH:b<w.heap.size:=(h.hp.front hm).lt _ (List.mem_cons_self ..) b (by simp[wp])
 refine⟨w.heap.size,w.alloc (.mapIter (some b) iO #[] iO),?_,trivial,?_⟩
 ·simp[execOp,h.eval hx,Instr.range,Sem.run_bind,run_underlying ht,Result.andThen,MapKept.run_getObj_map hb]
 ·have h1:=(h.hp.front hm).alloc (.mapIter (some b) iO #[] iO)
  have hA:=Ext.alloc w (.mapIter (some b) iO #[] iO)
  refine(h.hp.front hm).upd (x:=wp b ek ev l) (y:=sk w.heap.size b ek ev l l none) .here hA.os hA.tape hA.output hA.size (fun k hk _=>hA.block k hk) ⟨by omega,es,iO,#[],?_,he,nE,?_,?_,by simp⟩ ?_
  ·rw[hA.block b zH];exact hb
  ·exact heap_alloc_new w _
  ·unfold pw;rw[List.filter_eq_self.2 (by simp)];exact he
  ·intro q hq
   simp only[sk,List.mem_cons,List.not_mem_nil,or_false] at hq
   rcases hq with rfl | rfl
   ·exact⟨by simp,.inr (Nat.le_refl _)⟩
   ·exact⟨Nat.lt_of_lt_of_le zH hA.size,.inl (by simp[wp])⟩
theorem WO{w:World}{m:Nat}(hm:0<m):∃ i N,i<m/\w.drawn<=N/\(Go.choose (.mapNext m)).run P w = .ok i { w with drawn:=N }:=by
 by_cases h:m<=1
 ·exact⟨0,w.drawn,by omega,Nat.le_refl _,by simp[Go.choose,Sem.run,Question.forced,h]⟩
 ·exact⟨w.tape w.drawn (.mapNext m) % m,w.drawn+1,Nat.mod_lt _ hm,Nat.le_succ _,by simp[-run_choose_drew,Go.choose,Sem.run,Question.forced,h,Question.cut]⟩
theorem Ml(hx:eo env x=some (.pointer (some ⟨r,0,none⟩)))(hm:Pick L (sk r b ek ev l rem nZ) R):
  Ef P n F Ek env L ⟨d,.next x false,ty,pos,after,g⟩ (fun o:Option (Nat×(κ×α))=>match o with | none=>rem=[] | some p=>rem[p.1]?=some p.2)
   (fun o=>match o with | none => .tuple #[.bool false] | some p => .tuple #[.bool true,ek p.2.1,ev p.2.2])
   (fun o=>match o with | none=>sk r b ek ev l [] nZ::R | some p=>sk r b ek ev l (rem.eraseIdx p.1) (some p.2)::R):=by
 intro a w h
 obtain⟨hrb,es,iO,seen,hb,he,nE,hr,hl,hc⟩:=h.hp.ok _ hm.mem
 have hrl:r<w.heap.size:=(h.hp.front hm).lt _ (List.mem_cons_self ..) r (by simp[sk])
 have zH:b<w.heap.size:=(h.hp.front hm).lt _ (List.mem_cons_self ..) b (by simp[sk])
 have BQ:(getObj r).run P w = .ok (.mapIter (some b) iO seen iO) w:=by simp[getObj,Sem.run,hr]
 have hg2:=MapKept.run_getObj_map (P:=P) hb
 have hu:(!seen.isEmpty && !es.isEmpty&&es.all (fun q=>decide (q.born>=iO)))=false:=by
  by_cases h0:es.isEmpty=true
  ·simp[h0]
  ·have:es.all (fun q=>decide (q.born>=iO))=false:=by
    rw[Bool.eq_false_iff]
    intro AB
    rw[Array.all_eq_true_iff_forall_mem] at AB
    have hs:0<es.size:=by
     rw[Array.isEmpty_iff_size_eq_zero] at h0;omega
    have h1:=of_decide_eq_true (AB es[0] (Array.getElem_mem hs))
    have h2:=nE.1 es[0] (by simp)
    omega
   simp[this]
 have hL:(es.filter fun q => !seen.contains q.born).toList=pw es.toList seen:=by unfold pw;rw[Array.toList_filter]
 have CP:(es.filter fun q => !seen.contains q.born).filter (fun q=>decide (q.born<iO))=es.filter fun q => !seen.contains q.born:=by
  apply Array.ext'
  rw[Array.toList_filter,List.filter_eq_self]
  intro q hq
  rw[hL] at hq
  exact decide_eq_true (nE.1 q (List.mem_filter.1 hq).1)
 have zo:(es.filter fun q => !seen.contains q.born).filter (fun q=>decide (q.born>=iO)) = #[]:=by
  apply Array.ext'
  rw[Array.toList_filter,Array.toList_empty,List.filter_eq_nil_iff]
  intro q hq
  rw[hL] at hq
  have:=nE.1 q (List.mem_filter.1 hq).1
  simp;omega
 have nj:rem.length=(pw es.toList seen).length:=by simpa using (congrArg List.length hl).symm
 have hg3:∀ o N,(setObj r o).run P { w with drawn:=N } = .ok () ({ w with drawn:=N }.putObj r o):=fun o N=>by
  simp[setObj,Sem.run,hr,World.putObj]
 generalize hLe:(es.filter fun q => !seen.contains q.born)=left at hL CP zo
 have hrl':rem.length=left.size:=by rw[nj,<- hL];simp
 have hl':=hl
 rw[<- hL] at hl
 by_cases h0:left.size=0
 ·have hl0:left = #[]:=Array.eq_empty_of_size_eq_zero h0
  obtain rfl:rem=[]:=List.eq_nil_of_length_eq_zero (by omega)
  obtain⟨i,N,hi,hN,kA⟩:=WO (P:=P) (w:=w) Nat.one_pos
  obtain rfl:i=0:=by omega
  refine⟨none,{ w with drawn:=N },?_,rfl,(h.hp.front hm).ext (Ext.drew w N hN)⟩
  ·simp only[execOp,h.eval hx,Instr.next,Sem.run_bind,BQ,hg2,Result.andThen,hu,hLe,hl0,Bool.false_eq_true,if_false,Array.filter_empty,Array.isEmpty_empty,if_true,Array.append_empty,Array.map_empty]
   simp[-run_choose_drew,kA,Sem.run_bind,Result.andThen,Sem.run,pure]
 ·obtain⟨i,N,hi,hN,kA⟩:=WO (P:=P) (w:=w) (m:=left.size) (by omega)
  have AH:i<rem.length:=by omega
  have hE:=h.hp.ext (Ext.drew w N hN)
  have CQ:=congrArg (fun z=>z[i]?) hl
  simp only[List.getElem?_map,Array.getElem?_toList,List.getElem?_eq_getElem AH,Array.getElem?_eq_getElem hi,Option.map_some,Option.some.injEq,Prod.mk.injEq] at CQ
  have CR:(left.filter fun q=>decide (q.born<iO))=left:=CP
  have uQ:left.isEmpty=false:=by rw[Bool.eq_false_iff];intro hc;exact h0 (Array.isEmpty_iff_size_eq_zero.1 hc)
  refine⟨some (i,rem[i]),{ w with drawn:=N }.putObj r (.mapIter (some b) iO (seen.push left[i].born) iO),?_,List.getElem?_eq_getElem AH,?_⟩
  ·simp only[execOp,h.eval hx,Instr.next,Sem.run_bind,BQ,hg2,Result.andThen,hu,hLe,CR,zo]
   simp[-run_choose_drew,kA,Sem.run_bind,Result.andThen,Sem.run,pure,uQ,hg3,hi,CQ.1,CQ.2]
  ·have BZ:(pw es.toList seen)[i]?=some left[i]:=by rw[<- hL,Array.getElem?_toList,Array.getElem?_eq_getElem hi]
   have hme:left[i]∈es.toList:=(List.mem_filter.1 (List.mem_of_getElem? BZ)).1
   refine(hE.front hm).upd (x:=sk r b ek ev l rem nZ) (y:=sk r b ek ev l (rem.eraseIdx i) (some rem[i])) (w':={ w with drawn:=N }.putObj r (.mapIter (some b) iO (seen.push left[i].born) iO)) .here rfl ⟨rfl,Nat.le_refl _⟩ rfl (by rw[World.putObj_size];exact Nat.le_refl _) (fun k _ hk=>World.putObj_heap_other fun hc=>hk (by simp[sk,hc])) ⟨hrb,es,iO,seen.push left[i].born,?_,he,nE,World.putObj_heap_same hrl,?_,?_⟩ fun q hq=>⟨by rw[World.putObj_size];simp only[sk,List.mem_cons,List.not_mem_nil,or_false] at hq;rcases hq with rfl | rfl <;> assumption,.inl hq⟩
   ·rw[World.putObj_heap_other (Ne.symm hrb)];exact hb
   ·rw[JZ nE.2 BZ,Yk,hl',Yk]
   ·rintro c AB
    obtain rfl:rem[i]=c:=oJ AB
    refine⟨left[i].born,left[i],by simp,?_,CQ.1,CQ.2⟩
    rw[<- Array.find?_toList];exact Gt nE.2 hme
theorem Mm{c:κ×α}(hx:eo env x=some (.pointer (some ⟨r,0,none⟩)))(hm:Pick L (sk r b ek ev l rem (some c)) R):
  Qt P n F Ek env L ⟨d,.entry x,ty,pos,after,g⟩ (.tuple #[ek c.1,ev c.2]):=by
 intro a w h
 obtain⟨hrb,es,iO,seen,hb,he,nE,hr,hl,hc⟩:=h.hp.ok _ hm.mem
 have BQ:(getObj r).run P w = .ok (.mapIter (some b) iO seen iO) w:=by simp[getObj,Sem.run,hr]
 have hg2:=MapKept.run_getObj_map (P:=P) hb
 obtain⟨s,e,h1,h2,h3,h4⟩:=hc c rfl
 simp[execOp,h.eval hx,Instr.entry,Sem.run_bind,BQ,hg2,Result.andThen,h1,h2,h3,h4,Sem.run,pure]
theorem Hp.Gu{w:World}(hm:Pick L (sk r b ek ev l rem nZ) R)(h:Hp F Ek w L):Hp F Ek w (wp b ek ev l::R):=by
 have h1:=h.front hm
 obtain⟨hrb,es,iO,seen,hb,he,nE,hr,hl,hc⟩:=h1.ok _ (List.mem_cons_self ..)
 refine h1.upd (x:=sk r b ek ev l rem nZ) (y:=wp b ek ev l) .here rfl (TD.refl _) rfl (Nat.le_refl _) (fun _ _ _=>rfl) ⟨es,iO,hb,he,nE⟩ fun q hq=>?_
 have hq':q=b:=by simpa [wp] using hq
 subst hq'
 exact⟨h1.lt _ (List.mem_cons_self ..) _ (by simp[sk]),.inl (by simp[sk])⟩
theorem H8{dd:Nat}{ops:Array Oper}{Q:Exit->Act->World->Prop}{na:List Oper}{o:Oper}(ho:o=⟨some dd,.next x false,ty,pos,after,none⟩)(ng:Nat.blt dd n=true)(hx:eo env x=some (.pointer (some ⟨r,0,none⟩)))(hm:Pick L (sk r b ek ev l rem nZ) R)(k0:rem=[]->WL P n F Ek ops Q na ((dd,.tuple #[.bool false])::env) (wp b ek ev l::R))(k1:∀(i:Nat) (y:κ×α) (m:List (κ×α)),rem[i]?=some y->m=rem.eraseIdx i->WL P n F Ek ops Q na ((dd,.tuple #[.bool true,ek y.1,ev y.2])::env) (sk r b ek ev l m (some y)::R)):WL P n F Ek ops Q (o::na) env L:=by
 subst ho
 refine Hx rfl rfl ng (Ml hx hm) fun g hg=>?_
 cases g with
 | none=>exact Nq (fun _ h=>Hp.Gu .here h) (k0 hg)
 | some p=>exact k1 p.1 p.2 _ hg rfl
end
end
section
section
variable {P:Program} {n:Nat} {F:Fence} {Q:Exit->Act->World->Prop} {a:Act} {w:World}
theorem rE{b:Frame}{k:List Item}{cs:List Frame}{c:Code}:step P (lone (b.atR a (.code (.scope c)::k)) cs w) = .next (lone (b.atR a (.code c :: .inScope c::k)) cs w):=
 step_lone_go (by simp[stepG,stepG.exec,Frame.atR])
theorem QE{b:Frame}{k:List Item}{cs:List Frame}{c:Code}:step P (lone (b.atR a (.inScope c::k)) cs w) = .next (lone (b.atR a k) cs w):=
 step_lone_go (by simp[stepG,stepG.exec,Frame.atR])
theorem KJ{c:Code}(h:c.wpIn F n P (Exit.noGoto Q) a w):(Code.scope c).wpIn F n P Q a w:=by
 intro b k cs BC hb hr
 have h0:(lone (b.atR a (.code (.scope c)::k)) cs w).fenced P F:=fenced_calm hb hr rfl
 obtain⟨e,so,sA,hq,re⟩:=h b (.inScope c::k) cs BC hb hr
 cases e with
 | normal=>exact⟨.normal,so,sA,hq,.head h0 rE (StepsIn.trans re (.one (fenced_calm hb hr rfl) QE))⟩
 | exit id=>
  have hx:exitTo id (.inScope c::k)=exitTo id k:=by simp[exitTo]
  exact⟨.exit id,so,sA,hq,fun k' hk => .head h0 rE (re.1 k' (by rw[hx];exact hk)),
   fun Ba hk=>let ⟨k₁,h1,h2⟩:=re.2 Ba (by rw[hx];exact hk);⟨k₁,h1,.head h0 rE h2⟩⟩
 | goto l=>exact hq.elim
 | ret=>exact⟨_,so,sA,hq,.of_steps (.one h0 rE) re⟩
 | panic ch=>exact⟨_,so,sA,hq,.of_steps (.one h0 rE) re⟩
 | outgrown=>exact⟨_,so,sA,hq,.of_steps (.one h0 rE) re⟩
end
section
variable [Rnd]
variable {P:Program} {n:Nat} {F:List Nat} {Ek:World} {Q:Exit->Act->World->Prop} {env:List (Nat×Value)} {L:List Asrt}
theorem Df{c:Code}(k:WC P n F Ek (Exit.noGoto Q) c env L):WC P n F Ek Q (.scope c) env L:=fun a w h=>KJ (k a w h)
theorem Dk{l:Nat}(k:WX n F Ek Q .normal env L):WC P n F Ek Q (.label l) env L:=fun a w h=>wpIn_label (k a w h)
theorem C5(k:WX n F Ek Q .ret env L):WX n F Ek (Exit.noGoto Q) .ret env L:=k
end
end
section
variable {m k:Nat}{α:Type}{i:Int}{cs:List Value}{A:Addr}
def sw{R:Type}:List (Int×Option R)->Int->Option R
 | [],_=>none
 | p::l,i=>if i=p.1 then p.2 else sw l i
structure arT (P:Program) (t e:TypeId) (len sz:Nat):Prop where
 un:P.underlying t=some (.array len e)
 sz:∀ w,(Go.sizeOf e).run P w = .ok sz w
theorem hG{P:Program}{t e:TypeId}{len sz:Nat}{inf:TypeInfo}(h:P.underlying t=some (.array len e))(hi:P.info? e=some inf)(hz:inf.zero.isSome=true)(hs:inf.size=sz):arT P t e len sz:=
 ⟨h,fun w=>by
  obtain⟨z,hz⟩:=Option.isSome_iff_exists.1 hz
  simp[Go.sizeOf,typeInfo,hi,hs]⟩
theorem Kf{β:Type}[Inhabited α]{l:List α}{n:Nat}(f:α->β)(h:l.length=n):l.map f=(List.range n).map fun j:Nat=>f (nth l (j:Int)):=by
 subst h
 apply List.ext_getElem
 ·simp
 ·intro i h1 h2
  rw[List.getElem_map,List.getElem_map,List.getElem_range]
  congr 1
  have:i<l.length:=by simpa using h1
  rw[<- ti (l:=l) (i:=(i:Int)) (by omega) (by omega)]
  simp
section
variable [Rnd]
variable {P:Program} {n:Nat} {F:List Nat} {Ek:World} {env:List (Nat×Value)} {L R:List Asrt} {ops:Array Oper} {Q:Exit->Act->World->Prop} {na:List Oper}
 {dd:Nat} {d:Option Tmp} {ty:TypeId} {pos:String} {after:Array Edge} {g:Option (Nat×Bool)} {x y c:Operand} {v u:Value} {t e T:TypeId} {sz len:Nat} {Z:Zp}
theorem qF{A':Addr}{k:IntKind}(ht:arT P t e len sz)[hx:Ej (eo env x) (some (.pointer (some A)))][hy:Ej (eo env y) (some (.int k i))](h0:0<=i/\i<(len:Int))(hA:A.add (i.toNat*sz)=A'):
  Qt P n F Ek env L ⟨d,.indexAddr t x y,ty,pos,after,g⟩ (.pointer (some A')):=by
 intro a w h
 subst hA
 simp[execOp,h.eval hx.1,h.eval hy.1,Instr.indexAt,run_underlying ht.un,asIntOf,Instr.sureAddr,h0.1,h0.2,ht.sz]
theorem Fv{b:Nat}:(⟨b,k,none⟩:Addr).add m=(⟨b,0,none⟩:Addr).add (k+m):=by rw[Addr.add_lit,Addr.add_lit,Nat.zero_add]
theorem jL{b:Nat}:(⟨b,k,none⟩:Addr).add (m*1)=(⟨b,0,none⟩:Addr).add (k+m):=by rw[Nat.mul_one];exact Fv
theorem WP:A.add (m*1)=A.add (0+m):=by rw[Nat.mul_one,Nat.zero_add]
theorem MU:(A.add k).add (m*1)=A.add (k+m):=by rw[Nat.mul_one,Addr.sh]
theorem Kg[Inhabited α]{l:List α}{f:α->Value}(zF:cs=cs.take k++(l.map f++cs.drop m))(hk:(cs.take k).length=k)(h0:0<=i/\i<(l.length:Int)):cs[k+i.toNat]?=some (f (nth l i)):=by
 rw[zF,List.getElem?_append_right (by omega),hk,Nat.add_sub_cancel_left,List.getElem?_append_left (by rw[List.length_map];omega),List.getElem?_map,List.getElem?_eq_getElem (by omega),ti h0.1 h0.2]
 rfl
theorem nr[Inhabited α]{b:Nat}{l:List α}{f:α->Value}(hm:Pick L (stb b T cs) R)(zF:cs=cs.take k++(l.map f++cs.drop m))(hk:(cs.take k).length=k)(h0:0<=i/\i<(l.length:Int)):
  ∀ w,Hp F Ek w L->w.cell? ((⟨b,0,none⟩:Addr).add (k+i.toNat))=some (f (nth l i)):=by
 intro w h
 rw[Addr.add_lit,Nat.zero_add]
 exact wc hm (Kg zF hk h0) w h
theorem ns[Inhabited α]{l:List α}{f:α->Value}(pv:PV F Ek L Z)(hc:ZC Z A cs)[zF:Ej cs (cs.take k++(l.map f++cs.drop m))](hk:(cs.take k).length=k)(h0:0<=i/\i<(l.length:Int)):
  ∀ w,Hp F Ek w L->w.cell? (A.add (k+i.toNat))=some (f (nth l i)):=wP pv hc (hv:=⟨(Kg zF.1 hk h0)⟩)
theorem Fw{A B l:List Value}{u:Value}{i:Nat}(hi:i<l.length):mf (A++(l++B)) (A.length+i) [u]=A++(l.set i u++B):=by
 unfold mf
 rw[List.take_length_add_append,List.take_append_of_le_length (by omega)]
 have:A.length+i+[u].length=A.length+(i+1):=by simp only[List.length_singleton];omega
 rw[this,List.drop_length_add_append,List.drop_append_of_le_length (by omega),List.set_eq_take_append_cons_drop,if_pos hi]
 simp
theorem aC[Inhabited α]{b:Nat}{ds:List Value}{l:List α}{f:α->Value}{u:α}{j:Nat}(hT:q8 P t 1)(hx:eo env x=some (.pointer (some ((⟨b,0,none⟩:Addr).add (k+i.toNat)))))(hy:eo env y=some (f u))(hv:(f u).cells = #[f u])(h1:(f u).oneCell'=true)(hm:Pick L (stb b T cs) R)(zF:cs=cs.take k++(l.map f++cs.drop m))(hk:(cs.take k).length=k)(h0:0<=i/\i<(l.length:Int))(hj:l.length=j)(zZ:ds=cs.take k++((List.range j).map (fun q:Nat=>f (nth (l.set i.toNat u) (q:Int)))++cs.drop m)):
  Yh P n F Ek env L ⟨none,.store t x y,ty,pos,after,g⟩ (stb b T ds::R):=by
 rw[Addr.add_lit,Nat.zero_add] at hx
 refine Vr (vs:=[f u]) hT hx hy (by rw[hv]) rfl (fun q hq=>by rw[List.mem_singleton.1 hq];exact h1) hm ?_ ?_
 ·have:cs.length=k+(l.length+(cs.drop m).length):=by
   conv=>lhs;rw[zF]
   rw[List.length_append,List.length_append,List.length_map,hk]
  omega
 ·rw[zZ,<- Kf f (by rw[List.length_set];exact hj),List.map_set]
  have:=Fw (A:=cs.take k) (B:=cs.drop m) (l:=l.map f) (u:=f u) (i:=i.toNat) (by rw[List.length_map];omega)
  rw[<- zF,hk] at this
  exact this
theorem XP[Inhabited α]{l:List α}{f:α->Value}{kk:IntKind}(ht:arT P t e l.length 1)(h1:jt P e)(hx:eo env x=some (.agg cs.toArray))(hy:eo env y=some (.int kk i))(zF:cs=l.map f)(h0:0<=i/\i<(l.length:Int)):
  Qt P n F Ek env L ⟨d,.index t x y,ty,pos,after,g⟩ (f (nth l i)):=by
 intro a w h
 have h2:=congrFun h1 w
 have hn:cs[i.toNat]?=some (f (nth l i)):=by
  rw[zF,List.getElem?_map,List.getElem?_eq_getElem (by omega),ti h0.1 h0.2];rfl
 simp[execOp,h.eval hx,h.eval hy,Instr.index,run_underlying ht.un,asIntOf,h0.1,h0.2,ht.sz,part,h2,hn]
end
end
section
section
variable {P:Program} {n:Nat} {F:List Nat} {Ek:World} {env:List (Nat×Value)} {L R:List Asrt} {Q:Exit->Act->World->Prop} {ops:Array Oper} {na:List Oper}
 {dd:Nat} {d:Option Tmp} {ty:TypeId} {pos:String} {after:Array Edge} {g:Option (Nat×Bool)} {x y:Operand} {t e:TypeId} {sz by_:Nat} {Z:Zp}
theorem W2{s:ByteArray}(ht:P.underlying t=some .string)(hx:eo env x=some (.string s)):
  Qt P n F Ek env L ⟨d,.call ⟨.builtin .len,#[x],#[t]⟩,ty,pos,after,g⟩ (.int .i64 ((s.size:Nat):Int)):=by
 intro a w h
 simp[execOp,h.eval hx,resolve,invoke,builtin,Builtin.len_,run_underlying ht,goInt]
end
end
section
section
variable {κ α:Type} [DecidableEq κ]
def slv(p:(Option Addr×Nat)×List α):Value := .slice p.1.1 p.2.length p.1.2
def jd(lg:List (κ×((Nat×(Option Addr×Nat))×List α))):List (κ×((Option Addr×Nat)×List α)):=lg.map fun p=>(p.1,(p.2.1.2,p.2.2))
def qM(e:TypeId)(sz:Nat)(enc:α->List Value)(g:Nat×(Option Addr×Nat))(x:List α):List Asrt:=[row (.slice g.2.1 x.length g.2.2) e sz (x.flatMap enc)]
variable {lg:List (κ×((Nat×(Option Addr×Nat))×List α))} {l:List (κ×List α)}
theorem YT(k:κ)(g:Nat×(Option Addr×Nat))(x:List α):∀ lg:List (κ×((Nat×(Option Addr×Nat))×List α)),jd (wU lg k (g,x))=wU (jd lg) k (g.2,x)
 | []=>rfl
 | p::lg=>by
  unfold wU jd
  by_cases h:k=p.1
  ·simp[h]
  ·have:=YT k g x lg
   unfold jd at this
   simp[h,this]
theorem YU(k:κ):∀ lg:List (κ×((Nat×(Option Addr×Nat))×List α)),ww (jd lg) k ((none,0),[])=((ww lg k ((0,(none,0)),[])).1.2,(ww lg k ((0,(none,0)),[])).2)
 | []=>rfl
 | p::lg=>by
  have ih:=YU k lg
  unfold jd at ih ⊢
  rw[List.map_cons]
  unfold ww
  by_cases h:k=p.1
  ·simp[h]
  ·simp only[h,if_false];exact ih
theorem VD{γ:Type}{k:κ}{d:γ}:∀ {lg:List (κ×γ)},jD lg k=false->ww lg k d=d/\mR k lg=lg
 | [],_=>⟨rfl,rfl⟩
 | p::lg,h=>by
  unfold jD at h
  by_cases e:k=p.1
  ·simp[e] at h
  ·simp only[e,if_false] at h
   obtain⟨h1,h2⟩:=VD (d:=d) h
   unfold ww mR
   simp only[e,if_false]
   exact⟨h1,by rw[h2]⟩
variable {F:List Nat} {Ek w:World} {L R R':List Asrt} {e:TypeId} {sz:Nat} {enc:α->List Value}
theorem Hp.eB(k:κ)(hm:mq lg=l)(hp:Pick L (vh (qM e sz enc) lg) R)(h:Hp F Ek w L):
  ∃ g:Option Addr×Nat,ww (jd lg) k ((none,0),[])=(g,ww l k [])/\Hp F Ek w (row (.slice g.1 (ww l k []).length g.2) e sz ((ww l k []).flatMap enc)::vh (qM e sz enc) (mR k lg)::R):=by
 subst hm
 rw[YU,Jd k [] (0,(none,0))]
 refine⟨(ww lg k ((0,(none,0)),[])).1.2,rfl,?_⟩
 by_cases hk:jD lg k=true
 ·obtain⟨v,h1,h2⟩:=ew k lg hk
  rw[h1]
  have h4:=h.pickAll hp
  have h5:=h4.perm ((lY (f:=fun p:κ×((Nat×(Option Addr×Nat))×List α)=>qM e sz enc p.2.1 p.2.2) h2).append_right R)
  rw[List.flatMap_cons,List.append_assoc] at h5
  have h6:Hp F Ek w (((mR k lg).flatMap fun p=>qM e sz enc p.2.1 p.2.2)++(qM e sz enc v.1 v.2++R)):=h5.perm (by
   rw[<- List.append_assoc,<- List.append_assoc];exact List.perm_append_comm.append_right R)
  have h7:=Hp.ur h6
  exact h7.perm List.perm_middle.symm
 ·have zD:jD lg k=false:=by simpa using hk
  obtain⟨h1,h2⟩:=VD (d:=(((0,(none,0)),[]):(Nat×(Option Addr×Nat))×List α)) zD
  rw[h1,h2]
  exact(h.nilRow e sz).perm ((hp.perm).cons _)
theorem Hp.WQ{k:κ}{ao:Option Addr}{cap:Nat}{x:List α}(hs:Sel L [row (.slice ao x.length cap) e sz (x.flatMap enc),vh (qM e sz enc) (mR k lg)] R)(h:Hp F Ek w L):
  Hp F Ek w (vh (qM e sz enc) (wU lg k ((0,(ao,cap)),x))::R):=
 Hp.objsClose (els:=qM e sz enc) (b:=0) (g:=(ao,cap)) hs h
theorem Sel.skip{β:Type}{y:β}:∀ {L L' M:List β},Sel L L' M->Sel (y::L) L' (y::M)
 | _,_,_,.nil => .nil
 | _,_,_,.cons h t => .cons (.there h) (Sel.skip t)
theorem Hp.Qd{k:κ}{g:Option Addr×Nat}(hm:mq lg=l)(hp:ww (jd lg) k ((none,0),[])=(g,ww l k []))(hs:Sel L [row (.slice g.1 (ww l k []).length g.2) e sz ((ww l k []).flatMap enc),vh (qM e sz enc) (mR k lg)] R)(h:Hp F Ek w L):
  Hp F Ek w (vh (qM e sz enc) lg::R):=by
 by_cases hk:jD lg k=true
 ·obtain⟨v,h1,h2⟩:=ew k lg hk
  rw[YU,h1] at hp
  have e1:v.1.2=g:=congrArg Prod.fst hp
  have e2:v.2=ww l k []:=congrArg Prod.snd hp
  have h3:=Hp.objsClose (lg:=lg) (k:=k) (els:=qM e sz enc) (b:=v.1.1) (g:=g) (x:=ww l k []) hs h
  rwa [show wU lg k ((v.1.1,g),ww l k [])=lg from ey (d:=v) hk (by rw[h1,<- e1,<- e2])] at h3
 ·have zD:jD lg k=false:=by simpa using hk
  rw[(VD (d:=(((0,(none,0)),[]):(Nat×(Option Addr×Nat))×List α)) zD).2] at hs
  have h1:=Hp.open_ (h.selAll hs)
  exact h1.sub (.cons (.there .here) (Sel.skip .all))
end
section
variable [Rnd] {P:Program} {n:Nat} {F:List Nat} {Ek:World} {ops:Array Oper} {tl:Nat->Bool} {Ls:List Asrt} {fuel:Nat} {listed:Array Bool} {Q:Act->World->Prop} {env:List (Nat×Value)} {L L':List Asrt} {o:Oper}
theorem Dd{i:Nat}(hi:ops[i]?=some o)(hr:Region.ready .any ops listed=[i])(hg:gd env ops o=some true)(hd:o.dst=none)(ht:tl i=true)(nE:wS L' Ls)(hq:Yh P n F Ek env L o L')(k:WD P n F Ek ops tl Ls Q fuel (listed.setIfInBounds i true) env L'):WD P n F Ek ops tl Ls Q (fuel+1) listed env L:=WD.forced0 hi hr (hg:=⟨hg⟩) (hd:=⟨hd⟩) (ht:=⟨ht⟩) nE hq k
end
theorem aF{F:List Nat}{Ek:World}{L R:List Asrt}{b off:Nat}{T:TypeId}{ks:List (Nat×Value)}{u v:Value}(hm:Pick L (pp b T ks) R)(hu:(off,u)∈ks)(hv:(off+1,v)∈ks):
  ∀ w,Hp F Ek w L->∀ j x,[u,v][j]?=some x->w.cell? (Addr.add ⟨b,off,none⟩ j)=some x:=by
 intro w h j x hx
 match j,hx with
 | 0,hx=>
  have e:Addr.add ⟨b,off,none⟩ 0=⟨b,off,none⟩:=by simp[Addr.add]
  rw[e,mF hm hu w h];simpa using hx
 | 1,hx=>
  have e:Addr.add ⟨b,off,none⟩ 1=⟨b,off+1,none⟩:=by simp[Addr.add]
  rw[e,mF hm hv w h];simpa using hx
 | j+2,hx=>simp at hx
end
section
variable {m cap i:Nat}{cs:List Value}
section
variable [Rnd] {P:Program} {n:Nat} {F:List Nat} {Ek:World} {env:List (Nat×Value)} {L R:List Asrt} {d:Option Tmp} {ty:TypeId} {pos:String} {after:Array Edge} {g:Option (Nat×Bool)} {x y:Operand} {t e:TypeId} {sz by_:Nat}
theorem Hp.rowShort{b:Nat}{w:World}(hm:Pick L (row (.slice (some ⟨b,0,none⟩) m cap) e sz cs) R)(hi:i<=m)(h:Hp F Ek w L):Hp F Ek w (row (.slice (some ⟨b,0,none⟩) i cap) e sz (cs.take (i*sz))::R):=by
 have wK:=(h.rowShape hm).1
 refine(h.front hm).upd (x:=row (.slice (some ⟨b,0,none⟩) m cap) e sz cs) (y:=row (.slice (some ⟨b,0,none⟩) i cap) e sz (cs.take (i*sz))) .here rfl ⟨rfl,Nat.le_refl _⟩ rfl (Nat.le_refl _) (fun _ _ _=>rfl) ?_ ?_
 ·obtain⟨m',e',iA⟩:=h.ok _ hm.mem
  rcases iA.2 with⟨zC,_⟩ | ⟨b0,tP,nZ,zC,BF,BT,z6,zI,zL,zM⟩
  ·cases zC
  injection zC with e1 e2 e3
  injection e1 with e1
  injection e1 with e1
  subst e1 e2 e3
  have hmi:i*sz<=m*sz:=Nat.mul_le_mul_right _ hi
  refine⟨i,_,by simp;omega,.inr ⟨b,cap,nZ,rfl,BF,BT,by omega,zI,zL,?_⟩⟩
  rw[<- zM,List.take_take];congr 1;omega
 ·intro b' hb'
  simp[row,Value.ownBlock] at hb'
  subst hb'
  have:=h.lt _ hm.mem b' (by simp[row,Value.ownBlock])
  exact⟨this,.inl (by simp[row,Value.ownBlock])⟩
theorem Jh{b j capk:Nat}{bo:Option Addr}{dty:TypeId}(ht:elT P t e sz by_)(hx:eo env x=some (.slice (some ⟨b,0,none⟩) i cap))(hy:eo env y=some (.slice bo (m-j) capk))(hbo:m-j≠0->bo=some (Addr.add ⟨b,0,none⟩ (j*sz)))(hm:Pick L (row (.slice (some ⟨b,0,none⟩) m cap) e sz cs) R)(zR:i<=j)(hjm:j<=m)(h1:∀ u∈cs,u.oneCell'=true)(zf:m*by_<=140737488355328):
  Ef P n F Ek env L ⟨d,.call ⟨.builtin .append,#[x,y],#[t,t]⟩,dty,pos,after,g⟩ (fun _:Option Addr×Nat=>True) (fun p => .slice p.1 (i+(m-j)) p.2) (fun p=>row (.slice p.1 (i+(m-j)) p.2) e sz (cs.take (i*sz)++cs.drop (j*sz))::R):=by
 intro a w h
 obtain⟨wK,BR,Cx,_⟩:=h.hp.rowShape hm
 have hs:=h.world (h.hp.rowShort hm (show i<=m by omega))
 have nj:(cs.drop (j*sz)).length=(m-j)*sz:=by rw[List.length_drop,wK,<- Nat.sub_mul]
 refine XI hs ht hx hy .here nj (fun uQ=>?_) (fun u hu=>h1 u (List.mem_of_mem_drop hu)) (by omega) (Nat.le_trans (Nat.mul_le_mul_right _ (by omega)) zf)
 have hk:m-j≠0:=by
  intro hz;rw[hz,Nat.zero_mul] at nj;exact uQ (List.eq_nil_of_length_eq_zero nj)
 refine⟨_,hbo hk,fun q u hu=>?_⟩
 obtain⟨m',e',iA⟩:=h.hp.ok _ hm.mem
 rw[Addr.sh]
 rw[List.getElem?_drop] at hu
 exact iA.cells (g:=b) rfl _ _ hu
theorem Hp.rowLong{b len:Nat}{w:World}(h1:len<=m)(h2:m<=cap)(h:Hp F Ek w (row (.slice (some ⟨b,0,none⟩) len cap) e sz cs::R)):
  ∃ tl:List Value,Hp F Ek w (row (.slice (some ⟨b,0,none⟩) m cap) e sz (cs++tl)::R):=by
 have hm:Pick (row (.slice (some ⟨b,0,none⟩) len cap) e sz cs::R) (row (.slice (some ⟨b,0,none⟩) len cap) e sz cs) R := .here
 have wK:=(h.rowShape hm).1
 obtain⟨m',e',iA⟩:=h.ok _ hm.mem
 rcases iA.2 with⟨zC,_⟩ | ⟨b0,tP,nZ,zC,BF,BT,z6,zI,zL,zM⟩
 ·cases zC
 injection zC with e1 e2 e3
 injection e1 with e1
 injection e1 with e1
 subst e1 e2 e3
 have h3:len*sz<=m*sz:=Nat.mul_le_mul_right _ h1
 have h4:m*sz<=cap*sz:=Nat.mul_le_mul_right _ h2
 have key:cs++(nZ.toList.drop (len*sz)).take (m*sz-len*sz)=nZ.toList.take (m*sz):=by
  rw[<- zM,<- List.take_add];congr 1;omega
 refine⟨(nZ.toList.drop (len*sz)).take (m*sz-len*sz),?_⟩
 refine(h.front hm).upd (x:=row (.slice (some ⟨b,0,none⟩) len cap) e sz cs) (y:=row (.slice (some ⟨b,0,none⟩) m cap) e sz _) .here rfl ⟨rfl,Nat.le_refl _⟩ rfl (Nat.le_refl _) (fun _ _ _=>rfl) ?_ ?_
 ·refine⟨m,_,?_,.inr ⟨b,cap,nZ,rfl,BF,BT,h2,zI,zL,key.symm⟩⟩
  rw[key,List.length_take,Array.length_toList,zL];omega
 ·intro b' hb'
  simp[row,Value.ownBlock] at hb'
  subst hb'
  have:=h.lt _ hm.mem b' (by simp[row,Value.ownBlock])
  exact⟨this,.inl (by simp[row,Value.ownBlock])⟩
theorem KK{b j capk:Nat}{bo:Option Addr}{dty:TypeId}(ht:elT P t e sz by_)(hx:eo env x=some (.slice (some ⟨b,0,none⟩) i cap))(hy:eo env y=some (.slice bo (m-j) capk))(hbo:m-j≠0->bo=some (Addr.add ⟨b,0,none⟩ (j*sz)))(hm:Pick L (row (.slice (some ⟨b,0,none⟩) m cap) e sz cs) R)(zR:i<=j)(hjm:j<=m)(h1:∀ u∈cs,u.oneCell'=true)(zf:m*by_<=140737488355328):
  Ef P n F Ek env L ⟨d,.call ⟨.builtin .append,#[x,y],#[t,t]⟩,dty,pos,after,g⟩ (fun _:List Value=>True) (fun _ => .slice (some ⟨b,0,none⟩) (i+(m-j)) cap)
   (fun tl=>row (.slice (some ⟨b,0,none⟩) m cap) e sz (cs.take (i*sz)++cs.drop (j*sz)++tl)::R):=by
 intro a w h
 obtain⟨wK,BR,Cx,_⟩:=h.hp.rowShape hm
 obtain⟨p,w',hr,_,hp⟩:=Jh (d:=d) (dty:=dty) (pos:=pos) (after:=after) (g:=g) ht hx hy hbo hm zR hjm h1 zf a w h
 have nj:(cs.drop (j*sz)).length=(m-j)*sz:=by rw[List.length_drop,wK,<- Nat.sub_mul]
 obtain⟨m',e',iA⟩:=h.hp.ok _ hm.mem
 have B4:=iA.cells (g:=b) rfl
 obtain⟨inf,z,Bl,hz,nP,hb,Az⟩:=ht.inf
 have kA:∃ rx,(execOp a.eval ⟨d,.call ⟨.builtin .append,#[x,y],#[t,t]⟩,dty,pos,after,g⟩).run P w = .ok (.value (.slice (some ⟨b,0,none⟩) (i+(m-j)) cap)) rx:=by
  by_cases hk:m-j=0
  ·rw[hk] at hy ⊢
   have AU:i<=cap:=by omega
   refine⟨w,?_⟩
   cases bo <;> simp[execOp,h.eval hx,h.eval hy,resolve,invoke,builtin,Builtin.append_,run_underlying ht.sl,Go.sizeOf,typeInfo,Bl,Builtin.lenOf,Builtin.firstCells,AU,loadCells,loadCellsFrom,storeCells]
  ·rcases iA.2 with⟨zC,_⟩ | ⟨b0,tP,nZ,zC,BF,BT,z6,zI,zL,zM⟩
   ·cases zC
   injection zC with e1 e2 e3
   injection e1 with e1
   injection e1 with e1
   subst e1 e2 e3
   have hbo':=hbo hk
   subst hbo'
   subst nP
   have w9:i*inf.size+(cs.drop (j*inf.size)).length<=nZ.size:=by rw[nj,zL,<- Nat.add_mul];exact Nat.mul_le_mul_right _ (by omega)
   have hq:=d7 (P:=P) (w:=w) (t:=t) (ty:=dty) ht.sl Bl (sLen:=i) (sCap:=cap) BT (a:=Addr.add ⟨b,0,none⟩ (j*inf.size)) (m:=m-j) (c:=capk) (news:=cs.drop (j*inf.size)) nj (fun q u hu=>by
    rw[Addr.sh]
    rw[List.getElem?_drop] at hu
    exact B4 _ _ hu) (fun u hu=>h1 u (List.mem_of_mem_drop hu)) (by omega) w9
   obtain⟨w2,hq2⟩:∃ w2,(Builtin.append_ #[t,t] dty #[.slice (some ⟨b,0,none⟩) i cap,.slice (some (Addr.add ⟨b,0,none⟩ (j*inf.size))) (m-j) capk]).run P w = .ok (.slice (some ⟨b,0,none⟩) (i+(m-j)) cap) w2:=⟨_,hq⟩
   exact⟨w2,by simp[execOp,h.eval hx,h.eval hy,resolve,invoke,builtin,hq2]⟩
 obtain⟨rx,B5⟩:=kA
 rw[hr] at B5
 injection B5 with e1 e2
 injection e1 with e1
 injection e1 with e3 _ e4
 dsimp only at hp hr
 rw[e3,e4] at hp hr
 obtain⟨tl,Cs⟩:=hp.rowLong (m:=m) (by omega) BR
 exact⟨tl,w',hr,trivial,Cs⟩
theorem Fx{ao:Option Addr}{k1 k2 k3:IntKind}{lo hi mx:Int}{lx nY uL:Operand}(ht:elT P t e sz by_)(hx:eo env x=some (.slice ao m cap))(hl:eo env lx=some (.int k1 lo))(hh:eo env nY=some (.int k2 hi))(hm:eo env uL=some (.int k3 mx))(h0:0<=lo)(h1:lo<=hi)(h2:hi<=mx)(h3:mx<=(cap:Int)):
  Qt P n F Ek env L ⟨d,.slice t x (some lx) (some nY) (some uL),ty,pos,after,g⟩ (.slice (if mx.toNat=lo.toNat then ao else ao.map (·.add (lo.toNat*sz))) (hi.toNat-lo.toNat) (mx.toNat-lo.toNat)):=by
 intro a w h
 obtain⟨inf,z,Bl,hz,nP,hb,Az⟩:=ht.inf
 have q1:hi<=((mx.toNat:Nat):Int):=by omega
 have q2:lo<=((hi.toNat:Nat):Int):=by omega
 have q3:0<=hi:=by omega
 have q4:0<=mx:=by omega
 simp[execOp,h.eval hx,h.eval hl,h.eval hh,h.eval hm,Instr.sliceAt,Instr.slice,Instr.sliceBounds,Instr.sliceBound,run_underlying ht.sl,Go.sizeOf,typeInfo,Bl,nP,asIntOf,h0,h3,q1,q2,q3,q4]
 rw[if_pos (by omega),if_pos (by omega)]
end
end
section
section
variable [Rnd] {P:Program} {n:Nat} {F:List Nat} {Ek:World} {ops:Array Oper} {tl:Nat->Bool} {Ls:List Asrt} {fuel:Nat} {listed:Array Bool}
 {env:List (Nat×Value)} {L:List Asrt} {o:Oper} {QD:Act->World->Prop} {v:Value} {d i:Nat}
theorem vl.quiet(hi:ops[i]?=some o)(hg:gd env ops o=some true)(hd:o.dst=some d)(ng:Nat.blt d n=true)(nE:tl i=true->wS L Ls)(hq:∀ a w,SS n F Ek env L a w->(execOp a.eval o).run P w = .ok (.value v) w)(k:WD P n F Ek ops tl Ls QD fuel (listed.setIfInBounds i true) ((d,v)::env) L):vl P n F Ek ops tl Ls QD fuel listed env L i:=
 vl.forced (G:=Unit) (φ:=fun _=>True) (val:=fun _=>v) (L':=fun _=>L) hi hg hd ng (fun a w h=>⟨(),w,hq a w h,trivial,h.hp,fun _=>Ext.refl w⟩) (fun ht _=>nE ht) (fun _ _=>k)
end
end
section
variable {cs:List Value}
def gL(v:Value):List Value:=[v]
theorem eC:∀ l:List Value,l.flatMap gL=l
 | []=>rfl
 | v::l=>by rw[List.flatMap_cons,eC l];rfl
section
variable {κ α:Type}
inductive RM (Pr:List Value->α->Prop):List (κ×List Value)->List (κ×List α)->Prop
 | nil:RM Pr [] []
 | cons {k:κ} {cs:List Value} {x:List α} {lc:List (κ×List Value)} {l:List (κ×List α)} (h:RR 1 Pr cs x) (t:RM Pr lc l):RM Pr ((k,cs)::lc) ((k,x)::l)
variable {Pr Pr':List Value->α->Prop} {lc:List (κ×List Value)} {l:List (κ×List α)}
theorem RM.weak(h:RM Pr lc l)(k:∀ r x,Pr r x->Pr' r x):RM Pr' lc l:=by
 induction h with
 | nil=>exact .nil
 | cons h _ ih=>exact .cons (h.weak k) ih
theorem RR.slv{ao:Option Addr}{cap:Nat}{cs:List Value}{x:List α}(h:RR 1 Pr cs x):slv ((ao,cap),cs) = .slice ao x.length cap:=by
 have:=h.len
 unfold Sep.slv
 simp only
 rw[this,Nat.mul_one]
variable [DecidableEq κ]
theorem RM.get(h:RM Pr lc l)(k:κ):RR 1 Pr (ww lc k []) (ww l k []):=by
 induction h with
 | nil=>exact RR.nil _ _
 | @cons k' cs x lc l h t ih=>
  unfold ww
  by_cases e:k=k'
  ·simp only[e,if_true];exact h
  ·simp only[e,if_false];exact ih
theorem RM.put(h:RM Pr lc l)(k:κ){x:List α}(hr:RR 1 Pr cs x):RM Pr (wU lc k cs) (wU l k x):=by
 induction h with
 | nil=>exact .cons hr .nil
 | @cons k' cs' x' lc l h t ih=>
  unfold wU
  by_cases e:k=k'
  ·simp only[e,if_true];exact .cons hr t
  ·simp only[e,if_false];exact .cons h ih
variable {lg:List (κ×((Nat×(Option Addr×Nat))×List Value))}
theorem RM.putD{g:Option Addr×Nat}(h:RM Pr (mq lg) l)(k:κ){x:List α}(hr:RR 1 Pr cs x):RM Pr (mq (wU lg k ((0,g),cs))) (wU l k x):=by
 rw[df rfl];exact h.put k hr
variable {F:List Nat} {Ek w:World} {L R:List Asrt} {e:TypeId}
theorem Hp.KL(k:κ)(hm:RM Pr (mq lg) l)(hp:Pick L (vh (qM e 1 gL) lg) R)(h:Hp F Ek w L):
  ∃ g:(Option Addr×Nat)×List Value,(ww (jd lg) k ((none,0),[])=g/\RR 1 Pr g.2 (ww l k []))/\Hp F Ek w (row (.slice g.1.1 (ww l k []).length g.1.2) e 1 g.2::vh (qM e 1 gL) (mR k lg)::R):=by
 obtain⟨g,h1,h2⟩:=Hp.eB k rfl hp h
 have h3:=hm.get k
 refine⟨(g,ww (mq lg) k []),⟨h1,h3⟩,?_⟩
 rw[eC] at h2
 have h4:=h3.len
 rw[Nat.mul_one] at h4
 rw[h4] at h2
 exact h2
theorem Hp.K1{k:κ}{ao:Option Addr}{cap m:Nat}(hl:m=cs.length)(hs:Sel L [row (.slice ao m cap) e 1 cs,vh (qM e 1 gL) (mR k lg)] R)(h:Hp F Ek w L):
  Hp F Ek w (vh (qM e 1 gL) (wU lg k ((0,(ao,cap)),cs))::R):=by
 subst hl
 refine Hp.WQ (enc:=gL) (x:=cs) ?_ h
 rw[eC];exact hs
theorem RR.len1{x:List α}(h:RR 1 Pr cs x):x.length=cs.length:=by
 have:=h.len;omega
end
end
section
section
variable {α:Type}
def WR(Z:Zp)(Pr:List Value->α->Prop)(ao:Option Addr)(cap:Nat)(l:List α):Prop:=∃ l':List α,l'.Perm l/\ZS Z 1 Pr ao cap l'
theorem WR.up{Z Z':Zp}{Pr Pr':List Value->α->Prop}{ao:Option Addr}{cap:Nat}{l:List α}(h:WR Z Pr ao cap l)(k:wg Z Z')(hw:∀ r x,Pr r x->Pr' r x):WR Z' Pr' ao cap l:=
 let ⟨l',h1,h2⟩:=h;⟨l',h1,(h2.mono k).weak hw⟩
theorem WR.of{Z:Zp}{Pr:List Value->α->Prop}{ao:Option Addr}{cap:Nat}{l:List α}(h:ZS Z 1 Pr ao cap l):WR Z Pr ao cap l:=⟨l,.refl _,h⟩
inductive RG {κ:Type} (Z:Zp) (Pr:List Value->α->Prop):List (κ×((Option Addr×Nat)×List Value))->List (κ×List α)->Prop
 | nil:RG Z Pr [] []
 | cons {k:κ} {ao:Option Addr} {cap:Nat} {cs:List Value} {x:List α} {lg:List (κ×((Option Addr×Nat)×List Value))} {l:List (κ×List α)} (hl:x.length=cs.length) (h:ZS Z 1 Pr ao cap x) (t:RG Z Pr lg l):RG Z Pr ((k,((ao,cap),cs))::lg) ((k,x)::l)
variable {κ:Type} {Z Z':Zp} {Pr Pr':List Value->α->Prop} {lg:List (κ×((Option Addr×Nat)×List Value))} {l:List (κ×List α)}
theorem RG.up(h:RG Z Pr lg l)(k:wg Z Z')(hw:∀ r x,Pr r x->Pr' r x):RG Z' Pr' lg l:=by
 induction h with
 | nil=>exact .nil
 | cons hl h _ ih=>exact .cons hl ((h.mono k).weak hw) ih
theorem RG.len(h:RG Z Pr lg l):l.length=lg.length:=by
 induction h with
 | nil=>rfl
 | cons _ _ _ ih=>simp[ih]
theorem RG.at(h:RG Z Pr lg l):∀ {i:Nat} {y:κ×((Option Addr×Nat)×List Value)},lg[i]?=some y->∃ x,l[i]?=some (y.1,x)/\x.length=y.2.2.length/\ZS Z 1 Pr y.2.1.1 y.2.1.2 x/\RG Z Pr (lg.eraseIdx i) (l.eraseIdx i):=by
 induction h with
 | nil=>intro i y h;simp at h
 | @cons k ao cap cs x lg l hl hz t ih=>
  intro i y h
  cases i with
  | zero=>
   simp only[List.getElem?_cons_zero,Option.some.injEq] at h
   subst h
   exact⟨x,by simp,hl,hz,by simpa using t⟩
  | succ i=>
   rw[List.getElem?_cons_succ] at h
   obtain⟨x',h1,h2,h3,h4⟩:=ih h
   exact⟨x',by simpa using h1,h2,h3,by simpa using RG.cons hl hz h4⟩
theorem WS{β:Type}:∀ {l:List β} {i:Nat} {x:β},l[i]?=some x->(x::l.eraseIdx i).Perm l
 | [],i,x,h=>by simp at h
 | a::l,0,x,h=>by
  simp only[List.getElem?_cons_zero,Option.some.injEq] at h
  subst h;simp
 | a::l,i+1,x,h=>by
  rw[List.getElem?_cons_succ] at h
  rw[List.eraseIdx_cons_succ]
  exact(List.Perm.swap _ _ _).trans ((WS h).cons a)
end
section
variable {κ α:Type} {F:List Nat} {Ek w:World} {R:List Asrt} {e:TypeId} {Z:Zp} {Pr:Zp->List Value->α->Prop}
theorem Hp.Yl(mono:∀ {Z Z':Zp},wg Z Z'->∀ {r x},Pr Z r x->Pr Z' r x)(hp:PZ F Ek Z):∀(lg:List (κ×((Nat×(Option Addr×Nat))×List Value))) (l:List (κ×List α)) (Zn:Zp),RM (Pr (Z++Zn)) (mq lg) l->Hp F Ek w (vh (qM e 1 gL) lg::fz Zn::R)->
  ∃ nh,wg (Z++Zn) (Z++nh)/\RG (Z++nh) (Pr (Z++nh)) (jd lg) l/\Hp F Ek w (fz nh::R)
 | [],l,Zn,hm,h=>by
  cases hm
  refine⟨Zn,wg.refl _,.nil,?_⟩
  have h1:=Hp.open_ h
  simpa using h1
 | (k,((n,(ao,cap)),cs))::lg,l,Zn,hm,h=>by
  cases hm with
  | @cons _ _ x _ l hr t=>
  have h1:=Hp.open_ h
  rw[List.flatMap_cons] at h1
  have hl:=RR.len1 hr
  have h2:Hp F Ek w (row (.slice ao x.length cap) e 1 cs::fz Zn::((lg.flatMap fun p=>qM e 1 gL p.2.1 p.2.2)++R)):=by
   refine h1.perm ?_
   show([row (.slice ao cs.length cap) e 1 (cs.flatMap gL)]++(lg.flatMap fun p=>qM e 1 gL p.2.1 p.2.2)++fz Zn::R).Perm _
   rw[eC,hl,List.append_assoc,List.singleton_append]
   exact(List.perm_middle).cons _
  obtain⟨Zn1,k1,k2,k3⟩:=Hp.freezeS (Z:=Z) .here .here hp hr h2
  have h3:Hp F Ek w (vh (qM e 1 gL) lg::fz Zn1::R):=Hp.ur (k3.perm List.perm_middle.symm)
  obtain⟨Zn2,j1,j2,j3⟩:=Hp.Yl mono hp lg l Zn1 (t.weak fun _ _ h=>mono k1 h) h3
  exact⟨Zn2,k1.trans j1,.cons hl ((k2.mono j1).weak fun _ _ h=>mono (k1.trans j1) h) j2,j3⟩
end
section
variable [Rnd]
variable {P:Program} {n:Nat} {F:List Nat} {Ek:World} {env:List (Nat×Value)} {L R:List Asrt} {d:Option Tmp} {ty:TypeId} {pos:String} {after:Array Edge} {g:Option (Nat×Bool)} {x y z:Operand} {t kt e:TypeId}
 {κ α:Type} [DecidableEq κ] {ek:κ->Value} {ev:α->Value} {l:List (κ×α)} {b:Nat} {k:κ} {dflt:α} {zv:Value} {Z:Zp}
theorem KM{w:World}(K:KeyT P kt ek)(ht:P.underlying t=some (.map kt e))(hz:vk P e zv)(hd:zv=ev dflt)(hk:(wp b ek ev l).ok w):
  (Instr.lookup t (.map (some b)) (ek k) false).run P w = .ok (ev (ww l k dflt)) w:=by
 obtain⟨es,iO,hb,he,nE⟩:=hk
 have h1:=K.find k es.toList (l.map (·.1)) w (bT he)
 have h2:=cW (ek:=ek) (ev:=ev) (k:=k) (d:=dflt) l es.toList he
 have BX:=congrFun hz w
 simp only[Instr.lookup,Sem.run_bind,run_underlying ht,Result.andThen,MapKept.run_getObj_map hb,K.chk]
 cases hf:(l.map (·.1)).findIdx? (fun k'=>decide (k=k')) with
 | none=>rw[hf] at h1 h2;simp only[Option.map_none] at h1 h2;simp[h1,BX,hd,h2]
 | some i=>rw[hf] at h1 h2;simp only[Option.map_some,Array.getElem?_toList] at h1 h2;simp[h1,h2]
theorem Gv(K:KeyT P kt ek)(ht:P.underlying t=some (.map kt e))(hz:vk P e zv)(hd:zv=ev dflt)(hx:eo env x=some (.map (some b)))(hy:eo env y=some (ek k))(pv:PV F Ek L Z)(hA:ZA Z (wp b ek ev l)):
  Qt P n F Ek env L ⟨d,.lookup t x y false,ty,pos,after,g⟩ (ev (ww l k dflt)):=by
 intro a w h
 simp[execOp,h.eval hx,h.eval hy,KM K ht hz hd (hA w (pv w h.hp))]
end
end
section
section
variable [Rnd] {P:Program} {n:Nat} {F:List Nat} {Ek:World} {env:List (Nat×Value)} {L R:List Asrt} {d:Option Tmp} {ty:TypeId} {pos:String} {after:Array Edge} {g:Option (Nat×Bool)} {x y:Operand} {t e:TypeId} {sz by_:Nat}
end
end
section
def arl(b:Nat)(T:TypeId)(f:Int->Value)(m:Nat)(l:List Int):Asrt where
 fp:=[b]
 ok w:=(stb b T (l.map f)).ok w/\l.length=m
 loc w w' h hl hk:=⟨(stb b T (l.map f)).loc w w' (by simpa [cS] using h) (by simpa [cS] using hl) hk.1,hk.2⟩
section
variable [Rnd]
variable {P:Program} {n:Nat} {F:List Nat} {Ek:World} {env:List (Nat×Value)} {L R:List Asrt} {ops:Array Oper} {Q:Exit->Act->World->Prop} {na:List Oper}
 {dd:Nat} {d:Option Tmp} {ty:TypeId} {pos:String} {after:Array Edge} {g:Option (Nat×Bool)} {x y c:Operand} {v u:Value} {t e T:TypeId} {sz:Nat} {b m:Nat} {f:Int->Value} {l:List Int} {i:Int}
theorem Wk.arl(h:l.length=m):Wk (Sep.stb b T (l.map f)::L) (Sep.arl b T f m l::L) := .any rfl (fun _ hk=>⟨hk,h⟩) (Wk.refl _)
theorem Wk.VE:Wk (Sep.arl b T f m l::L) (Sep.stb b T (l.map f)::L) := .any rfl (fun _ hk=>hk.1) (Wk.refl _)
theorem dh{z:Int}(hz:vk P T v)[hc:Ej v.cells ((List.replicate m z).map f).toArray]:
  Yg P n F Ek env L ⟨d,.alloc T,ty,pos,after,g⟩ (fun _:Nat=>True) (fun b => .pointer (some ⟨b,0,none⟩)) (fun b=>arl b T f m (List.replicate m z)::L):=fun a w h=>by
 obtain⟨b,w',h1,h2,h3,h4⟩:=wn (ty:=ty) (pos:=pos) (after:=after) (g:=g) (d:=d) hz (hc:=⟨hc.1⟩) a w h
 exact⟨b,w',h1,h2,(Wk.arl (by simp)).hp h3,h4⟩
theorem WT(hm:Pick L (arl b T f m l) R)(h0:0<=i/\i<(m:Int)):∀ w,Hp F Ek w L->w.cell? ((⟨b,0,none⟩:Addr).add (0+i.toNat))=some (f (nth l i)):=by
 intro w h
 obtain⟨h1,h2⟩:=h.ok _ hm.mem
 exact nr (k:=0) (m:=l.length) .here (by simp) (by simp) (by omega) w (Wk.VE.hp (h.front hm))
theorem ce{u:Int}(hT:q8 P t 1)[hx:Ej (eo env x) (some (.pointer (some ((⟨b,0,none⟩:Addr).add (0+i.toNat)))))][hy:Ej (eo env y) (some (f u))][hv:Ej (f u).cells #[f u]][h1:Ej (f u).oneCell' true](hm:Pick L (arl b T f m l) R)(h0:0<=i/\i<(m:Int)):Yh P n F Ek env L ⟨none,.store t x y,ty,pos,after,g⟩ (arl b T f m (l.set i.toNat u)::R):=fun a w h=>by
 obtain⟨_,hl⟩:=h.hp.ok _ hm.mem
 have h':=h.world (Wk.VE.hp (h.hp.front hm))
 obtain⟨w',r,hp⟩:=aC (P:=P) (ty:=ty) (pos:=pos) (after:=after) (g:=g) (ds:=(l.set i.toNat u).map f) (l:=l) (k:=0) (m:=l.length) (j:=l.length) hT hx.1 hy.1 hv.1 h1.1 .here (by simp) (by simp) (by omega) rfl
  (by rw[<- Kf f (by simp)];simp) a w h'
 exact⟨w',r,(Wk.arl (by simpa using hl)).hp hp⟩
theorem aG(ht:arT P t e m 1)(hx:eo env x=some (.pointer (some ⟨b,0,none⟩)))(hm:Pick L (arl b T f m l) R):
  Qt P n F Ek env L ⟨d,.slice t x none none none,ty,pos,after,g⟩ (.slice (some ⟨b,0,none⟩) l.length l.length):=by
 intro a w h
 obtain⟨_,hl⟩:=h.hp.ok _ hm.mem
 simp[execOp,h.eval hx,Instr.sliceAt,Instr.sliceBounds,run_underlying ht.un,Instr.sureAddr,ht.sz,hl,Addr.add]
theorem Hp.YV{w:World}{e:TypeId}{enc:Int->List Value}(hm:Pick L (arl b T f m l) R)(hM:m<=maxLen)(he:∀ x,enc x=[f x])(h:Hp F Ek w L):Hp F Ek w (row (.slice (some ⟨b,0,none⟩) l.length l.length) e 1 (l.flatMap enc)::R):=by
 refine(Wk.any (x:=arl b T f m l) (by simp[row,Value.ownBlock,arl]) (fun w hk=>?_) (Wk.refl R)).hp (h.front hm)
 obtain⟨h1,h2⟩:=hk
 have e1:∀ l:List Int,l.flatMap enc=l.map f:=fun l=>by
  induction l with
  | nil=>rfl
  | cons a l ih=>rw[List.flatMap_cons,List.map_cons,he,ih];rfl
 rw[e1]
 refine⟨l.length,_,by simp,.inr ⟨b,l.length,(l.map f).toArray,rfl,Nat.zero_le _,cR.1 h1,Nat.le_refl _,by omega,by simp,by simpa using List.take_of_length_le (by simp)⟩⟩
theorem K2{k:IntKind}{lo:Nat}{lx:Operand}(ht:arT P t e m 1)(hx:eo env x=some (.pointer (some ⟨b,0,none⟩)))(hl:eo env lx=some (.int k lo))(h0:lo<m):
  Qt P n F Ek env L ⟨d,.slice t x (some lx) none none,ty,pos,after,g⟩ (.slice (some ⟨b,lo,none⟩) (m-lo) (m-lo)):=by
 intro a w h
 have h1:((lo:Nat):Int)<=((m:Nat):Int):=by omega
 have h2:¬m=lo:=by omega
 simp[execOp,h.eval hx,h.eval hl,Instr.sliceAt,Instr.sliceBounds,Instr.sliceBound,asIntOf,run_underlying ht.un,Instr.sureAddr,ht.sz,Addr.add,h1,h2]
 rw[if_pos (by omega)]
 by_cases e:lo=0
 ·subst e;rfl
 ·rw[if_neg e]
theorem Gw{by_ lo:Nat}{bo:Option Addr}{capk:Nat}{t1 t2:TypeId}{enc:Int->List Value}{q:List Int}(ht:elT P t1 e 1 by_)(hx:eo env x=some (.slice (some ⟨b,lo,none⟩) (m-lo) (m-lo)))(hy:eo env y=some (.slice bo q.length capk))(hm:Pick L (arl b T f m l) R)(hlo:lo<=m)(he:∀ x,enc x=[f x])(h1:∀ x,(f x).oneCell'=true)(hn:∀ w,Hp F Ek w L->q.flatMap enc≠[]->∃ A,bo=some A/\∀ j u,(q.flatMap enc)[j]?=some u->w.cell? (A.add j)=some u):
  Ef P n F Ek env L ⟨d,.call ⟨.builtin .copy,#[x,y],#[t1,t2]⟩,ty,pos,after,g⟩ (fun _:Unit=>True) (fun _ => .int .i64 ((q.take (m-lo)).length:Nat)) (fun _=>arl b T f m (l.take lo++(q.take (m-lo)++l.drop (lo+(q.take (m-lo)).length)))::R):=by
 intro a w h
 have ef:∀ l:List Int,l.flatMap enc=l.map f:=fun l=>by
  induction l with
  | nil=>rfl
  | cons a l ih=>rw[List.flatMap_cons,List.map_cons,he,ih];rfl
 obtain⟨hk,hl⟩:=h.hp.ok _ hm.mem
 have hk:=cR.1 hk
 obtain⟨inf,z,hi,hz,nP,hb,Az⟩:=ht.inf
 have nP:(P.info? e).map (·.size)=some 1:=by rw[hi,Option.map_some,nP]
 generalize hqk:q.take (m-lo)=qk
 have hqk2:qk.length=min q.length (m-lo):=by rw[<- hqk,List.length_take];omega
 have BS:∀ w',w'=w.setRow b ((l.take lo++(qk++l.drop (lo+qk.length))).map f).toArray->Hp F Ek w' (arl b T f m (l.take lo++(qk++l.drop (lo+qk.length)))::R):=by
  rintro _ rfl
  have h2:=(h.hp.front hm)
  have h3:=Hp.setRow (ds:=(l.take lo++(qk++l.drop (lo+qk.length))).map f) (Wk.VE.hp h2) .here
  refine(Wk.arl ?_).hp h3
  simp only[List.length_append,List.length_take,List.length_drop]
  omega
 by_cases Bn:qk.length=0
 ·have hq0:qk=[]:=List.eq_nil_of_length_eq_zero Bn
  have hr:=run_copy_none (P:=P) w t1 t2 ty e (some ⟨b,lo,none⟩) bo (m-lo) (m-lo) q.length capk ht.sl nP (by show min _ _=0;omega)
  refine⟨(),w,?_,trivial,?_⟩
  ·simp[execOp,resolve,invoke,builtin,h.eval hx,h.eval hy,hr,hq0,goInt]
  ·have e1:l.take lo++(qk++l.drop (lo+qk.length))=l:=by rw[hq0];simp
   rw[e1];exact h.hp.front hm
 ·have uQ:q.flatMap enc≠[]:=by
   rw[ef];intro hc
   have:q=[]:=List.map_eq_nil_iff.1 hc
   subst this;simp at hqk;subst hqk;exact Bn rfl
  obtain⟨A,rfl,hA⟩:=hn w h.hp uQ
  have hr:=run_copy_row (P:=P) w t1 t2 ty e b lo (m-lo) (m-lo) A q.length capk (l.map f).toArray T (qk.map f) ht.sl nP hk (by rw[List.length_map];exact hqk2) (fun j v hv=>hA j v (by
   rw[ef]
   rw[<- hqk,List.map_take,List.getElem?_take] at hv
   split at hv
   ·exact hv
   ·cases hv)) (by simp;omega) (fun v hv=>by obtain⟨x,_,rfl⟩:=List.mem_map.1 hv;exact h1 x)
  refine⟨(),w.setRow b ((l.take lo++(qk++l.drop (lo+qk.length))).map f).toArray,?_,trivial,BS _ rfl⟩
  have e1:(((l.map f).toArray.toList.take lo++qk.map f++(l.map f).toArray.toList.drop (lo+(qk.map f).length)).toArray)=((l.take lo++(qk++l.drop (lo+qk.length))).map f).toArray:=by simp
  rw[e1] at hr
  simp[execOp,resolve,invoke,builtin,h.eval hx,h.eval hy,hr,goInt]
end
end
section
variable {cap:Nat}{enc:Int->List Value}{s:ByteArray}{k:IntKind}{p r:Int}
def px(l:List Int):ByteArray:=⟨(l.map fun n=>UInt8.ofNat n.toNat).toArray⟩
def kw(s:ByteArray):List Int:=s.data.toList.map fun b=>(b.toNat:Int)
theorem W3(s:ByteArray):(kw s).length=s.size:=by unfold kw;simp
theorem WU(s:ByteArray):Go.Lib.strCells s=(kw s).map (Value.int .u8):=by unfold Go.Lib.strCells kw;simp
section
variable [Rnd]
variable {P:Program} {n:Nat} {F:List Nat} {Ek:World} {env:List (Nat×Value)} {L R:List Asrt} {ops:Array Oper} {Q:Exit->Act->World->Prop} {na:List Oper}
 {dd:Nat} {d:Option Tmp} {ty:TypeId} {pos:String} {after:Array Edge} {g:Option (Nat×Bool)} {x y c:Operand} {v u:Value} {t t' e T:TypeId} {sz:Nat} {Z Zn:Zp}
theorem Kh(hx:eo env x=some (.int k p))(hw:bits .xor k (if k.signed then -1 else k.max) p=r):Qt P n F Ek env L ⟨d,.unOp .xor t x,ty,pos,after,g⟩ (.int k r):=by
 intro a w h;simp[execOp,h.eval hx,Op.unary,intBits_xor,hw]
theorem VF{q:Int}[hx:Ej (eo env x) (some (.int k p))][hy:Ej (eo env y) (some (.int k q))][hw:Ej (bits .or k p q) r]:Qt P n F Ek env L ⟨d,.binOp .or t x y t',ty,pos,after,g⟩ (.int k r):=by
 intro a w h;simp[execOp,h.eval hx.1,h.eval hy.1,binOp_or,eqGuard_or,intBits_or,hw.1]
theorem aH{q:Int}[hx:Ej (eo env x) (some (.int k p))][hy:Ej (eo env y) (some (.int k q))][hw:Ej (bits .xor k p q) r]:Qt P n F Ek env L ⟨d,.binOp .xor t x y t',ty,pos,after,g⟩ (.int k r):=by
 intro a w h;simp[execOp,h.eval hx.1,h.eval hy.1,binOp_xor,eqGuard_xor,intBits_xor,hw.1]
theorem MV{a b:ByteArray}(hM:(a.size:Int)+(b.size:Int)<=4611686018427387904)(hx:eo env x=some (.string a))(hy:eo env y=some (.string b)):Qt P n F Ek env L ⟨d,.binOp .add t x y t',ty,pos,after,g⟩ (.string (a++b)):=by
 intro a' w h
 have:(a.size:Int)+(b.size:Int)<=9223372036854775807:=by omega
 simp[execOp,h.eval hx,h.eval hy,eqGuard,binOp_string_add,Op.stringOp,this]
theorem WV:∀(l:List Int) (r:ByteArray),l.foldl (fun r n=>r.push (UInt8.ofNat n.toNat)) r=⟨r.data++(l.map fun n=>UInt8.ofNat n.toNat).toArray⟩
 | [],r=>by simp
 | b::l,r=>by
  simp only[List.foldl_cons]
  rw[WV l]
  simp[ByteArray.push]
theorem VG{bo:Option Addr}{q:List Int}(hs:P.underlying t=some (.slice e))(hb:P.underlying e=some (.int .u8))(hd:P.underlying t'=some .string)(hx:eo env x=some (.slice bo q.length cap))(he:∀ x,enc x=[.int .u8 x])(hn:∀ w,Hp F Ek w L->q.flatMap enc≠[]->∃ A,bo=some A/\∀ j u,(q.flatMap enc)[j]?=some u->w.cell? (A.add j)=some u):
  Qt P n F Ek env L ⟨d,.convert t t' x,ty,pos,after,g⟩ (.string (px q)):=by
 intro a w h
 have ef:∀ l:List Int,l.flatMap enc=l.map (Value.int .u8):=fun l=>by
  induction l with
  | nil=>rfl
  | cons a l ih=>rw[List.flatMap_cons,List.map_cons,he,ih];rfl
 have hr:=run_convert_bytes_string w t t' e bo q.length cap hs hb hd
 have hE:(convert t t' (.slice bo q.length cap)).run P w = .ok (.string (px q)) w:=by
  rw[hr]
  by_cases hq:q=[]
  ·subst hq
   cases bo with
   | none=>rfl
   | some A=>
    have hl:=run_loadCells_list (P:=P) w A [] (by simp)
    rw[show([]:List Int).length=0 from rfl]
    exact run_bytesToString w A 0 cap [] (by simpa using hl)
  ·obtain⟨A,rfl,hA⟩:=hn w h.hp (by rw[ef];intro hc;exact hq (List.map_eq_nil_iff.1 hc))
   rw[ef] at hA
   have hl:=run_loadCells_list (P:=P) w A (q.map (Value.int .u8)) hA
   rw[List.length_map] at hl
   rw[run_bytesToString w A q.length cap q hl,WV]
   have he0:ByteArray.empty.data = #[]:=rfl
   rw[he0]
   simp[px]
 simp[execOp,h.eval hx,hE]
def sbk(b:Nat)(e:TypeId)(s:ByteArray)(cap:Nat):Asrt:=wA b (.cells (bytesRow s cap) e ((bytesRow s cap).size,(bytesRow s cap).size+1))
theorem KN(hs:P.underlying t=some .string)(hd:P.underlying t'=some (.slice e))(hb:P.underlying e=some (.int .u8))(hx:eo env x=some (.string s))(hM:(s.size:Int)<=4611686018427387904):
  Ef P n F Ek env L ⟨d,.convert t t' x,ty,pos,after,g⟩ (fun p:Nat×Nat=>s.size<=p.2/\p.2<=maxLen) (fun p => .slice (some ⟨p.1,0,none⟩) (kw s).length p.2) (fun p=>sbk p.1 e s p.2::L):=by
 intro a w h
 have hr:=run_bytes_of_string w t t' e s hs hd hb
 have uY:Hp F Ek w.drew L:=h.hp.ext ⟨rfl,⟨rfl,Nat.le_succ _⟩,rfl,Nat.le_refl _,fun _ _=>rfl⟩
 refine⟨(w.heap.size,grownCap w s.size 0 e),w.drew.alloc (.cells (bytesRow s (grownCap w s.size 0 e)) e ((bytesRow s (grownCap w s.size 0 e)).size,(bytesRow s (grownCap w s.size 0 e)).size+1)),?_,⟨grownCap_ge w s.size 0 e,grownCap_le_maxLen w s.size 0 e (by simp only[maxLen];omega)⟩,?_⟩
 ·rw[W3]
  simp[execOp,h.eval hx,hr]
 ·refine(uY.ext (.alloc w.drew _)).add ?_ (by simp[sbk,wA]) (by simp[sbk,wA,h.hp.size]) ?_
  ·exact heap_alloc_new w.drew _
  ·intro y hy b hb hc
   simp[sbk,wA] at hb
   have:=h.hp.lt y hy b hc
   omega
theorem Gx{b:Nat}(hZ:ZA Z (sbk b e s cap))(he:∀ x,enc x=[.int .u8 x])(hc:s.size<=cap)(hM:cap<=maxLen):ZS Z 1 (fun r x=>r=enc x) (some ⟨b,0,none⟩) cap (kw s):=by
 refine⟨by rw[W3];exact hc,hM,(kw s).flatMap enc,RR.flat (fun x=>by rw[he];rfl) _,fun _=>⟨_,rfl,fun w hw j u hu=>?_⟩⟩
 have h1:w.heap[b]?=some (.cells (bytesRow s cap) e ((bytesRow s cap).size,(bytesRow s cap).size+1)):=hZ w hw
 rw[Addr.add_lit,cell_of_row w b _ _ _ _ h1]
 have ef:∀ l:List Int,l.flatMap enc=l.map (Value.int .u8):=fun l=>by
  induction l with
  | nil=>rfl
  | cons a l ih=>rw[List.flatMap_cons,List.map_cons,he,ih];rfl
 rw[ef] at hu
 have hj:j<(kw s).length:=by have:=(List.getElem?_eq_some_iff.1 hu).1;simpa using this
 rw[Nat.zero_add]
 have e2:bytesRow s cap=((kw s).map (Value.int .u8)).toArray++Array.replicate (cap-s.size) (.int .u8 0):=by
  unfold bytesRow;congr 1
  rw[<- WU];unfold Go.Lib.strCells;apply Array.ext';simp
 rw[e2,Array.getElem?_append_left (by simpa using hj)]
 simpa using hu
theorem Dq{l:List Oper}{b:Nat}{R':List Asrt}(hm:Pick L (sbk b e s cap) R)(hz:Pick R (fz Zn) R')(he:∀ x,enc x=[.int .u8 x])(hc:s.size<=cap/\cap<=maxLen)(k:∀ nh,wg (Z++Zn) (Z++nh)->ZS (Z++nh) 1 (fun r x=>r=enc x) (some ⟨b,0,none⟩) cap (kw s)->WL P n F Ek ops Q l env (fz nh::R')):WL P n F Ek ops Q l env L:=fun a w h=>by
 obtain⟨nh,h1,h2,h3⟩:=h.hp.freeze hm hz
 exact k nh h1.app (Gx (h2.mono (wg.right _ _)) he hc.1 hc.2) a w (h.world h3)
theorem K3{A0:Addr}{l1:List Int}{t2 dty:TypeId}(ht:elT P t e 1 1)(Bn:(P.info? e).bind (·.zero)=some (.int .u8 0))(hu:P.underlying t2=some .string)(hx:eo env x=some (.slice (some A0) l1.length cap))(hy:eo env y=some (.string s))(hm:Pick L (row (.slice (some A0) l1.length cap) e 1 (l1.flatMap enc)) R)(he:∀ x,enc x=[.int .u8 x])(hb:(((l1++kw s).length:Nat):Int)*1<=140737488355328/\(((l1++kw s).length:Nat):Int)<=4611686018427387904):
  Ef P n F Ek env L ⟨d,.call ⟨.builtin .append,#[x,y],#[t,t2]⟩,dty,pos,after,g⟩ (fun _:Option Addr×Nat=>True) (fun p => .slice p.1 (l1++kw s).length p.2) (fun p=>row (.slice p.1 (l1++kw s).length p.2) e 1 ((l1++kw s).flatMap enc)::R):=by
 intro a w h
 obtain⟨inf,z,hi,hz,nP,zf,Az⟩:=ht.inf
 have nd:inf.zero=some (.int .u8 0):=by rw[hi] at Bn;simpa using Bn
 obtain⟨m',e',iA⟩:=h.hp.ok _ hm.mem
 have ef:∀ l:List Int,l.flatMap enc=l.map (Value.int .u8):=fun l=>by
  induction l with
  | nil=>rfl
  | cons a l ih=>rw[List.flatMap_cons,List.map_cons,he,ih];rfl
 have hmm:m'=l1.length:=by
  have h1:=iA.1
  rw[ef] at h1;simpa using h1.symm
 subst hmm
 have nj:(l1++kw s).length=l1.length+s.size:=by rw[List.length_append,W3]
 rw[nj] at hb ⊢
 have zF:(l1++kw s).flatMap enc=l1.flatMap enc++Go.Lib.strCells s:=by rw[List.flatMap_append,ef (kw s),WU]
 rw[zF]
 have hf:=h.hp.front hm
 rcases iA.2 with⟨hv,_⟩ | ⟨b0,tP,nZ,hv,_,hh,z6,zI,zL,zM⟩
 ·cases hv
 injection hv with e1 e2 e3
 injection e1 with e1
 subst e1 e3
 have AW:(Go.Lib.strCells s).length=s.size:=Go.Lib.strCells_length s
 by_cases vN:l1.length+s.size<=cap
 ·have hp:=hf.room (news:=Go.Lib.strCells s) (k:=s.size) (by omega) vN iA.1 hh zI zL zM
  have nE:=run_storeCells_at P b0 l1.length e' (Go.Lib.strCells s) 0 nZ w hh (by rw[AW];omega) (Go.Lib.strCells_oneCell s)
  have hfs:=Go.Lib.run_firstCells_string (P:=P) w 1 s
  simp only[Nat.add_zero,AW] at nE
  rw[Nat.mul_one,AW] at hp
  refine⟨(_,_),_,?_,trivial,hp⟩
  simp[execOp,h.eval hx,h.eval hy,resolve,invoke,builtin,Builtin.append_,run_underlying ht.sl,run_underlying hu,Go.sizeOf,typeInfo,hi,nP,Builtin.lenOf,vN,hfs,Addr.add_lit,nE]
 ·have hq:=Go.Lib.run_append_grow_string (P:=P) w t t2 dty e inf z ht.sl hu hi hz ⟨b0,0,none⟩ l1.length cap (l1.flatMap enc) (by rw[nP];exact iA.1) (iA.cells (g:=b0) rfl) s (by omega) (by omega) (by rw[zf];exact growslice_fits (by omega) (by omega))
  have hp:=((hf.sub (M:=[row (.slice (some ⟨b0,0,none⟩) l1.length cap) e 1 (l1.flatMap enc)]) (Sel.tl _ _)).grown (e:=e) (sz:=1) (z:=z.cells) (m:=l1.length+s.size) (cs:=l1.flatMap enc++Go.Lib.strCells s) (old:=cap) Az (by rw[List.length_append,iA.1,AW];omega) (by unfold maxLen;omega))
  rw[<- List.append_toArray] at hp
  exact⟨(some ⟨w.heap.size,0,none⟩,grownCap w (l1.length+s.size) cap e),_,by simp[execOp,h.eval hx,h.eval hy,resolve,invoke,builtin,hq],trivial,hp⟩
end
end
section
theorem K4{P:Program}(w:World)(d:Nat)(t:TypeId)(a b:ByteArray)(h:P.underlying t=some .string):(Op.equalIn (d+1) t (.string a) (.string b)).run P w = .ok (decide (a=b)) w:=by
 rw[run_equalIn_string w d t a b h,<- beq_toListBytes,cV]
def WW(P:Program)(Z:Zp)(l:Nat){α σ G H:Type}(av:H->α->List Value)(ar br:H->α->List Asrt)(pr:H->α->Prop)(Y:α->σ->Option (Bool×σ))(J:G->σ->Asrt)(Φ:G->σ->Prop):Prop:=
 ∀(x:α) (h:H) (g:G) (s:σ) (b:Bool) (s':σ) (w:World),Y x s=some (b,s')->Φ g s->pr h x->Hp (fps (ar h x++[J g s])) w w (ar h x++[J g s])->PZ (fps (ar h x++[J g s])) w Z->
  ∃ fn tmps as_ bo,(Instr.yield l (av h x).toArray).run P w = .ok (.round l fn tmps as_ bo) w/\
   RoundIn Fence.wide 0 P l fn tmps as_ bo w fun e w'=>∃ g',e = .returned (.bool b)/\Φ g' s'/\Hp (fps (ar h x++[J g s])) w w' (br h x++[J g' s'])
section
variable {P:Program} {n:Nat} {F:List Nat} {Ek:World} {env:List (Nat×Value)} {L L':List Asrt} {l D:Nat} {R:Ending->World->Prop} {fn:FuncId} {tmps:Array Value} {ps:List Tmp} {as_ bo:Code} {rc:Rc}
theorem YW{Z:Zp}{α σ G H:Type}{av:H->α->List Value}{ar br:H->α->List Asrt}{pr:H->α->Prop}{Y:α->σ->Option (Bool×σ)}{LI:G->σ->List Asrt}{pc:σ->Option Code}{Φ:G->σ->Prop}(Bs:rc=k9 fn tmps ps as_ bo D)(hev:Ev env tmps)(nP:tmps.size=n)(hl:∀ h x,(av h x).length=ps.length)(hps:∀ p∈ps,p<n)(k:∀ x h g s b s' F w,Y x s=some (b,s')->Φ g s->pr h x->PZ F w Z->
   @WC (rX l) P n F w (W0 P l bo fun e w'=>∃ g',e = .returned (.bool b)/\Φ g' s'/\Hp F w w' (br h x++[wM (LI g' s'++[wA l (rc (ka (pc s')) (pc s'))])])) as_ (ax ps (av h x) env)
    (ar h x++(LI g s++[wA l (rc (ka (pc s)) (pc s))]))):
  WW P Z l av ar br pr Y (fun g s=>wM (LI g s++[wA l (rc (ka (pc s)) (pc s))])) Φ:=by
 subst Bs
 intro x h g s b s' w hY tt Cp hp hz
 have AV:Hp (fps (ar h x++[wM (LI g s++[wA l (k9 fn tmps ps as_ bo D (ka (pc s)) (pc s))])])) w w (ar h x++(LI g s++[wA l (k9 fn tmps ps as_ bo D (ka (pc s)) (pc s))])):=by
  have CB:Pick (ar h x++[wM (LI g s++[wA l (k9 fn tmps ps as_ bo D (ka (pc s)) (pc s))])]) (wM (LI g s++[wA l (k9 fn tmps ps as_ bo D (ka (pc s)) (pc s))])) (ar h x):=by
   generalize ar h x=A
   induction A with
   | nil=>exact .here
   | cons a A ih=>exact .there ih
  have:=hp.pickAll CB
  have z7:∀(A B:List Asrt),Sel (A++B) (B++A) []:=by
   intro A B
   have h1:∀(A B C:List Asrt),Sel (A++B) C []->∀ a,Sel (A++a::B) (a::C) []:=by
    intro A B C h a
    refine .cons ?_ h
    clear h
    induction A with
    | nil=>exact .here
    | cons x A ih=>exact .there ih
   induction B generalizing A with
   | nil=>simpa using Sel.all
   | cons b B ih=>simpa using h1 A B _ (by simpa using ih A) b
  exact this.sub (z7 _ _)
 have hb:w.heap[l]?=some (k9 fn tmps ps as_ bo D (ka (pc s)) (pc s)):=
  AV.ok (wA l (k9 fn tmps ps as_ bo D (ka (pc s)) (pc s))) (by simp)
 refine⟨_,_,_,_,run_yield hb (by simp[hl]),roundIn_of_wpIn (F := @FN (rX l)) (l:=l) trivial ?_⟩
 refine k x h g s b s' _ w hY tt Cp hz _ w (@SS.mk (rX l) _ _ _ _ _ _ _ rfl ?_ ?_ AV)
 ·have hz:=YQ (ps.zip (av h x)) tmps
  simp only[<- Array.foldl_toList,Array.toList_zip] at *
  simpa [nP] using hz
 ·have hz:=Ev.VB ps (av h x) env tmps hev (fun p hp=>by rw[nP];exact hps p hp)
  simp only[<- Array.foldl_toList,Array.toList_zip] at *
  simpa using hz
end
section
variable [Rnd]
variable {P:Program} {n:Nat} {F:List Nat} {Ek:World} {env:List (Nat×Value)} {L Lr:List Asrt} {ops:Array Oper} {Q:Exit->Act->World->Prop} {na:List Oper} {dd:Nat} {ty:TypeId} {pos:String} {after:Array Edge} {gu:Option (Nat×Bool)}
theorem Dv{Z:Zp}{l:Nat}{α σ G H:Type}{av:H->α->List Value}{ar br:H->α->List Asrt}{pr:H->α->Prop}{Y:α->σ->Option (Bool×σ)}{J:G->σ->Asrt}{Φ:G->σ->Prop}{c:Operand}{xs:List Operand}{zN:Array TypeId}{x:α}{h:H}{g:G}{s s':σ}{b:Bool}(hY:WW P Z l av ar br pr Y J Φ)(hg:gd env ops ⟨some dd,.call ⟨.value c,xs.toArray,zN⟩,ty,pos,after,gu⟩=some true)(ng:Nat.blt dd n=true)(hc:eo env c=some (.func (.yield l) #[] #[]))(he:Eos env xs (av h x))(hs:Sel L (ar h x++[J g s]) Lr)(hb:Y x s=some (b,s'))(tt:Φ g s)(Cp:pr h x)(hz:∀ w,Hp F Ek w L->PZ (fps (ar h x++[J g s])) w Z)(k:∀ g',Φ g' s'->WL P n F Ek ops Q na ((dd,.bool b)::env) ((br h x++[J g' s'])++Lr)):
  WL P n F Ek ops Q (⟨some dd,.call ⟨.value c,xs.toArray,zN⟩,ty,pos,after,gu⟩::na) env L:=by
 intro a w zs
 refine lA (js zs hg) ?_
 obtain⟨fn,tmps,as_,bo,hy,hr⟩:=hY x h g s b s' w hb tt Cp (zs.hp.owns hs) (hz w zs.hp)
 refine⟨fun _ _=>trivial,?_⟩
 have hm:=he.map zs
 have kA:(execOp a.eval ⟨some dd,.call ⟨.value c,xs.toArray,zN⟩,ty,pos,after,gu⟩).run P w = .ok (.round l fn tmps as_ bo) w:=by
  simp[execOp,resolve,zs.eval hc,Deferred.ofValue,invoke,hm,hy]
 rw[lz _ kA (fun d e=>by cases e),Oper.uponIn_round]
 refine⟨fun h=>by simp[FN] at h,RoundIn.mono (F:=FN) (show RoundIn FN 0 P l fn tmps as_ bo w _ from hr) ?_⟩
 rintro e w' ⟨g',rfl,zJ,hp⟩
 exact k g' zJ _ _ (zs.put ng _ (zs.hp.call hs hp))
theorem Db{tl:Nat->Bool}{Ls:List Asrt}{fuel i:Nat}{listed:Array Bool}{QD:Act->World->Prop}{Z:Zp}{l:Nat}{α σ G H:Type}{av:H->α->List Value}{ar:H->α->List Asrt}{Y:α->σ->Option (Bool×σ)}{J:G->σ->Asrt}{Φ:G->σ->Prop}{c:Operand}{xs:List Operand}{zN:Array TypeId}{x:α}{h:H}{g:G}{s s':σ}{b:Bool}(hY:cU P Z l av ar Y J Φ)(hi:ops[i]?=some ⟨some dd,.call ⟨.value c,xs.toArray,zN⟩,ty,pos,after,gu⟩)(hr:Region.ready .any ops listed=[i])(hg:gd env ops ⟨some dd,.call ⟨.value c,xs.toArray,zN⟩,ty,pos,after,gu⟩=some true)(ng:Nat.blt dd n=true)(ht:tl i=true)(hc:eo env c=some (.func (.yield l) #[] #[]))(he:Eos env xs (av h x))(hs:Sel L (ar h x++[J g s]) Lr)(hb:Y x s=some (b,s'))(tt:Φ g s)(hz:∀ w,Hp F Ek w L->PZ (fps (ar h x++[J g s])) w Z)(nE:∀ g',wS ([J g' s']++Lr) Ls)(k:∀ g',Φ g' s'->WD P n F Ek ops tl Ls QD fuel (listed.setIfInBounds i true) ((dd,.bool b)::env) ([J g' s']++Lr)):
  WD P n F Ek ops tl Ls QD (fuel+1) listed env L:=by
 intro a w h0 w' e
 have zs:=h0.world (h0.hp.ext e)
 rw[hr]
 refine⟨by simp,fun j hj=>?_⟩
 simp at hj;subst hj
 obtain⟨fn,tmps,as_,bo,hy,hrd⟩:=hY x h g s b s' w' hb tt (zs.hp.owns hs) (hz w' zs.hp)
 have hm:=he.map zs
 have kA:(execOp a.eval ⟨some dd,.call ⟨.value c,xs.toArray,zN⟩,ty,pos,after,gu⟩).run P w' = .ok (.round l fn tmps as_ bo) w':=by
  simp[execOp,resolve,zs.eval hc,Deferred.ofValue,invoke,hm,hy]
 unfold opN
 simp only[hi,js zs hg,if_true,kA,Oper.vT]
 refine RoundIn.mono (F:=FN) (show RoundIn FN 0 P l fn tmps as_ bo w' _ from hrd) ?_
 rintro e' rx ⟨g',rfl,zJ,hp⟩
 have zo:=zs.hp.call hs hp
 exact⟨_,rfl,⟨fun hf=>(by rw[ht] at hf;cases hf),fun _ _=>(nE g').hp zo⟩,k g' zJ _ _ (zs.put ng _ zo)⟩
end
end
section
variable {A1 A2 G A3 A4:Type}{M:List Asrt}{x y:Code}{w:World}
abbrev mks(Ds:List Nat):List Deferred:=Ds.map fun D=>{ target := .collected D,args := #[] }
abbrev ve(Ds:List Nat):Rnd:=⟨none,mks Ds⟩
abbrev qK(Ds:List Nat):Asrt:=wM (Ds.map wW)
section
variable {P:Program} {n:Nat} {F:List Nat} {Ek:World} {env:List (Nat×Value)} {L L' R R':List Asrt} {Q:Exit->Act->World->Prop} {Ds:List Nat} {D p i:Nat} {cs:List Code} {c:Code}
theorem Ki{α:Type}:∀(M R:List α),Sel (M++R) M R
 | [],_ => .nil
 | _::M,R => .cons .here (Ki M R)
theorem Ji{α:Type}(x:α)(R:List α):∀ M:List α,Pick (M++x::R) x (M++R)
 | [] => .here
 | _::M => .there (Ji x R M)
theorem Hp.mark(h:Hp F Ek w L)(h1:Pick L (wW D) R)(h2:Pick R (qK Ds) R'):Hp F Ek w (qK (D::Ds)::R'):=
 ((h.front h1).pickAll (.there h2)).selAll (M:=(D::Ds).map wW) (.cons (Ji _ _ _) (Ki _ _))
theorem Hp.marks0(h:Hp F Ek w L):Hp F Ek w (qK []::L):=h.selAll (M:=[]) .nil
theorem N8[Rnd]{e:Exit}(h1:Pick L (wW D) R)(h2:Pick R (qK Ds) R')(k:WX n F Ek Q e env (qK (D::Ds)::R')):WX n F Ek Q e env L:=fun a w h=>k a w (h.world (h.hp.mark h1 h2))
theorem Hu[Rnd](h1:Pick L (wW D) R)(h2:Pick R (qK Ds) R')(k:WC P n F Ek Q c env (qK (D::Ds)::R')):WC P n F Ek Q c env L:=fun a w h=>k a w (h.world (h.hp.mark h1 h2))
theorem Ht(k : @WC (ve []) P n F Ek Q c env (qK []::L)) : @WC Rnd.base P n F Ek Q c env L:=fun a w h=>k a w (@SS.mk (ve []) _ _ _ _ _ _ _ h.defers h.size h.ev h.hp.marks0)
def WJL(P:Program)(n:Nat)(F:List Nat)(Ek:World)(Q:Exit->Act->World->Prop)(Ds:List Nat)(env:List (Nat×Value))(L:List Asrt):Option Code->Prop
 | none => @WX (ve Ds) n F Ek Q .normal env L
 | some c => @WC (ve Ds) P n F Ek Q c env L
theorem wjNL(k : @WX (ve Ds) n F Ek Q .normal env L):WJL P n F Ek Q Ds env L (vY [] p):=by
 cases p with
 | zero=>exact k
 | succ p=>simpa [vY,WJL] using k
theorem wj0L(hp:p=0)(k : @WX (ve Ds) n F Ek Q .normal env L):WJL P n F Ek Q Ds env L (vY cs p):=by subst hp;exact k
theorem wjSL(hp:p=i+1)(hc:cs[i]?=some c)(k : @WC (ve Ds) P n F Ek Q c env L):WJL P n F Ek Q Ds env L (vY cs p):=by subst hp;simp only[vY,hc];exact k
theorem Dm{g:Operand}{f:FuncId}{caps:List Value}{ps:List Tmp}{as_ bo:Code}(hg:eo env g=some (.func (.func f) #[] caps.toArray))(CC:∀ args w,(callFunc f args).run P w = .ok (.enter f args) w)(k:∀ fn tmps l D (rc:Rc),rc=k9 fn tmps ps as_ bo D->Ev env tmps->tmps.size=n->∀ w,Hp F Ek w (wA l (rc .ready none)::wW D::L)->
   Calls P f (.func (.yield l) #[] #[]::caps).toArray w fun e w'=>∃ v pe L',e = .returned v/\Hp F Ek w' (wA l (rc (ka pe) pe)::L')/\WJL P n F Ek Q (D::Ds) env L' pe):
  @WC (ve Ds) P n F Ek Q (.rangeFunc g ps.toArray as_ bo) env L:=by
 intro a w h
 letI:Rnd:=ve Ds
 refine wpIn_rangeFunc fun fn _=>?_
 have uY:=(h.hp.alloc (.deferred (some []))).alloc (k9 fn a.tmps ps as_ bo w.heap.size .ready none)
 rw[World.size_alloc] at uY
 refine⟨w.heap.size+1,mk1 w.heap.size,_,{ target := .fn (.func f) caps.toArray,args := #[.func (.yield (w.heap.size+1)) #[] #[]] },(w.alloc (.deferred (some []))).alloc (k9 fn a.tmps ps as_ bo w.heap.size .ready none),f,(.func (.yield (w.heap.size+1)) #[] #[]::caps).toArray,(w.alloc (.deferred (some []))).alloc (k9 fn a.tmps ps as_ bo w.heap.size .ready none),run_enterLoop_outer ..,?_,fun _ _=>trivial,?_,fun hc=>by simp[FN] at hc,?_⟩
 ·have he:=h.eval hg
  simp only[resolve,rangeCall]
  rw[he]
  simp[Deferred.ofValue,Act.eval,k9]
 ·simp[invoke,CC]
 ·refine(Vq (k fn a.tmps _ _ _ rfl h.ev h.size _ uY)).mono ?_
  rintro e w' ⟨v,pe,L',rfl,hp,hj⟩
  have hb:w'.heap[w.heap.size+1]?=some (k9 fn a.tmps ps as_ bo w.heap.size (ka pe) pe):=hp.ok _ (List.mem_cons_self ..)
  have zj:Hp F Ek (w'.putObj (w.heap.size+1) (k9 fn a.tmps ps as_ bo w.heap.size .exhausted pe)) L':=
   (hp.setBlk (o':=k9 fn a.tmps ps as_ bo w.heap.size .exhausted pe) .here).sub (L':=L') (M:=[wA (w.heap.size+1) (k9 fn a.tmps ps as_ bo w.heap.size .exhausted pe)]) (Sel.tl _ _)
  refine⟨pe,_,run_endLoop hb (by cases pe <;> simp[ka]),?_⟩
  have hd:a.defers=mks Ds:=h.defers
  cases pe with
  | none=>exact hj _ _ (@SS.mk (ve (w.heap.size::Ds)) _ _ _ _ _ _ _ (by simp[hd];rfl) h.size h.ev zj)
  | some c=>exact hj _ _ (@SS.mk (ve (w.heap.size::Ds)) _ _ _ _ _ _ _ (by simp[hd];rfl) h.size h.ev zj)
theorem Kj{fn:Func}{tmps:Array Value}{R:Ending->World->Prop}{L':List Asrt}(k:∀ w,Hp F Ek w L'->LeavesInM (@FN Rnd.base) 0 P fn tmps R [] .returning w):
  ∀(Ds:List Nat) (w:World),Hp F Ek w (Ds.map wW++L')->LeavesInM (@FN Rnd.base) 0 P fn tmps R (mks Ds) .returning w
 | [],w,h=>k w h
 | D::Ds,w,h=>by
  have hb:w.heap[D]?=some (.deferred (some [])):=h.ok (wW D) (List.mem_cons_self ..)
  have zj:=(h.setBlk (o' := .deferred none) .here).sub (L':=Ds.map wW++L') (M:=[_]) (Sel.tl _ _)
  exact⟨by simp,.inl ⟨D,_,rfl,run_takeDeferred hb,Kj k Ds _ zj⟩⟩
theorem Fy{fn:Func}{R:Ending->World->Prop}{rs:List ResultVar}{vs:List Value}{a:Act}(h : @SS (ve Ds) n F Ek env L a w)(hp:Pick L (qK Ds) L')(hr:fn.results=rs.toArray)(hv:ResV P F Ek env L' rs vs)(k:∀ w,Hp F Ek w L'->R (.returned (bh vs)) w):LeavesInM (@FN Rnd.base) 0 P fn a.tmps R a.defers .returning w:=by
 letI:Rnd:=ve Ds
 have hd:a.defers=mks Ds:=h.defers
 rw[hd]
 exact Kj (L':=L') (fun w' zj=>⟨_,hv.run hr (@SS.mk (ve Ds) _ _ _ _ _ _ _ h.defers h.size h.ev zj),k _ zj⟩) Ds w (h.hp.pickAll hp)
theorem Hz{fn:Func}{R:Ending->World->Prop}{rs:List ResultVar}{vs:List Value}(hp:Pick L (qK Ds) L')(hr:fn.results=rs.toArray)(hv:ResV P F Ek env L' rs vs)(k:∀ w,Hp F Ek w L'->R (.returned (bh vs)) w) : @WX (ve Ds) n F Ek (bodyPostM (@FN Rnd.base) 0 P fn R) .ret env L:=fun _ _ h=>Fy h hp hr hv k
theorem Do(D:G->List Nat)(φ:G->Prop)(f9:G->List (Nat×Value))(LI:G->List Asrt)(k1 : @WC (ve Ds) P n F Ek (Exit.then (fun a w=>∃ g,φ g /\ @SS (ve (D g)) n F Ek (f9 g) (LI g) a w) Q) x env L)(k2:∀ g,φ g -> @WC (ve (D g)) P n F Ek Q y (f9 g) (LI g)) : @WC (ve Ds) P n F Ek Q (.seq x y) env L:=by
 intro a w h
 refine wpIn_seq (Go.wpIn_mono (k1 a w h) ?_)
 intro e a' w' hq
 cases e with
 | normal=>obtain⟨g,tt,hs⟩:=hq;exact k2 g tt a' w' hs
 | _=>exact hq
theorem E2{D:G->List Nat}{φ:G->Prop}{f9:G->List (Nat×Value)}{LI:G->List Asrt}(g:G)(tt:φ g)(hr:Restr env (f9 g))(hL:Sel L (LI g) M):
  @WX (ve (D g)) n F Ek (Exit.then (fun a w=>∃ g,φ g /\ @SS (ve (D g)) n F Ek (f9 g) (LI g) a w) Q) .normal env L:=
 fun _ _ h=>⟨g,tt,@SS.drop (ve (D g)) _ _ _ _ _ _ _ _ _ (@SS.restr (ve (D g)) _ _ _ _ _ _ _ _ h hr) hL⟩
theorem Hm(D:G->List Nat)(φ:G->Prop)(f9:G->List (Nat×Value))(LI:G->List Asrt)(k1 : @WC (ve Ds) P n F Ek (Exit.then (fun a w=>∃ g,φ g /\ @SS (ve (D g)) n F Ek (f9 g) (LI g) a w) Q) c env L)(k2:∀ g,φ g -> @WX (ve (D g)) n F Ek Q .normal (f9 g) (LI g)) : @WC (ve Ds) P n F Ek Q c env L:=by
 intro a w h
 refine Go.wpIn_mono (k1 a w h) ?_
 intro e a' w' hq
 cases e with
 | normal=>obtain⟨g,tt,hs⟩:=hq;exact k2 g tt a' w' hs
 | _=>exact hq
theorem D6(D:G->List Nat)(φ:G->Prop)(f9:G->List (Nat×Value))(LI:G->List Asrt)(μ:G->Nat)(lN:G)(hD:D lN=Ds)(h0:φ lN)(hr:Restr env (f9 lN))(hL:Sel L (LI lN) M)(round:∀ g,φ g -> @WC (ve (D g)) P n F Ek (Exit.then (fun a w=>∃ g',(φ g'/\μ g'<μ g) /\ @SS (ve (D g')) n F Ek (f9 g') (LI g') a w) Q) c (f9 g) (LI g)):
  @WC (ve Ds) P n F Ek Q (.loop c) env L:=by
 subst hD
 intro a w h b k cs BC hb AM
 have key:∀ m g,μ g=m->φ g->∀ a w,@SS (ve (D g)) n F Ek (f9 g) (LI g) a w->
   ∃ e a' w',Q e a' w'/\ArrivesIn (Machine.fenced P (@FN Rnd.base)) P (lone (b.atR a (.code c :: .inLoop c::k)) cs w) b k cs e a' w':=by
  intro m
  induction m using Nat.strongRecOn with
  | _ m ih=>
   intro g hm tt a w h
   obtain⟨e,so,sA,hq,re⟩:=round g tt a w h b (.inLoop c::k) cs BC hb AM
   cases e with
   | normal=>
    obtain⟨g',⟨zJ,tW⟩,hs⟩:=hq
    obtain⟨AN,AO,zU,zV,wF⟩:=ih (μ g') (hm▸tW) g' rfl zJ so sA hs
    exact⟨AN,AO,zU,zV,.of_steps (StepsIn.trans re (.one (fenced_calm hb AM rfl) stepR_inLoop)) wF⟩
   | exit id=>exact⟨_,so,sA,hq,.pass (x := .inLoop c) rfl (fun _ _ => .inl (by simp)) re⟩
   | goto l=>exact⟨_,so,sA,hq,.pass (x := .inLoop c) rfl (fun _ _ => .inl (by simp)) re⟩
   | ret=>exact⟨_,so,sA,hq,.pass (x := .inLoop c) rfl (fun _ _ => .inl (by simp)) re⟩
   | panic ch=>exact⟨_,so,sA,hq,.pass (x := .inLoop c) rfl (fun _ _ => .inl (by simp)) re⟩
   | outgrown=>exact⟨_,so,sA,hq,.pass (x := .inLoop c) rfl (fun _ _ => .inl (by simp)) re⟩
 obtain⟨e,a',w',hq,re⟩:=key _ lN rfl h0 a w (@SS.drop (ve (D lN)) _ _ _ _ _ _ _ _ _ (@SS.restr (ve (D lN)) _ _ _ _ _ _ _ _ h hr) hL)
 exact⟨e,a',w',hq,.of_steps (.one (fenced_calm hb AM rfl) stepR_loop) re⟩
theorem H6{D:G->List Nat}{φ:G->Prop}{f9:G->List (Nat×Value)}{LI:G->List Asrt}{μ:G->Nat}{m:Nat}(g:G)(tt:φ g)(hμ:μ g<m)(hr:Restr env (f9 g))(hL:Sel L (LI g) M):
  @WX (ve (D g)) n F Ek (Exit.then (fun a w=>∃ g',(φ g'/\μ g'<m) /\ @SS (ve (D g')) n F Ek (f9 g') (LI g') a w) Q) .normal env L:=
 fun _ _ h=>⟨g,⟨tt,hμ⟩,@SS.drop (ve (D g)) _ _ _ _ _ _ _ _ _ (@SS.restr (ve (D g)) _ _ _ _ _ _ _ _ h hr) hL⟩
theorem Dl(φ:List Nat->A1->Prop)(f9:List Nat->A1->List (Nat×Value))(LI:List Nat->A1->List Asrt)(k1 : @WC (ve Ds) P n F Ek (Exit.then (fun a w=>∃ g:List Nat×A1,(φ g.1 g.2) /\ @SS (ve g.1) n F Ek (f9 g.1 g.2) (LI g.1 g.2) a w) Q) x env L)(k2:∀ x0 x1,(φ x0 x1) -> @WC (ve x0) P n F Ek Q y (f9 x0 x1) (LI x0 x1)) : @WC (ve Ds) P n F Ek Q (.seq x y) env L:=
 Do (G:=List Nat×A1) (fun g=>g.1) (fun g=>(φ g.1 g.2)) (fun g=>(f9 g.1 g.2)) (fun g=>(LI g.1 g.2)) k1 (fun g h=>k2 g.1 g.2 h)
theorem Di(φ:List Nat->A1->Prop)(f9:List Nat->A1->List (Nat×Value))(LI:List Nat->A1->List Asrt)(k1 : @WC (ve Ds) P n F Ek (Exit.then (fun a w=>∃ g:List Nat×A1,(φ g.1 g.2) /\ @SS (ve g.1) n F Ek (f9 g.1 g.2) (LI g.1 g.2) a w) Q) c env L)(k2:∀ x0 x1,(φ x0 x1) -> @WX (ve x0) n F Ek Q .normal (f9 x0 x1) (LI x0 x1)) : @WC (ve Ds) P n F Ek Q (c) env L:=
 Hm (G:=List Nat×A1) (fun g=>g.1) (fun g=>(φ g.1 g.2)) (fun g=>(f9 g.1 g.2)) (fun g=>(LI g.1 g.2)) k1 (fun g h=>k2 g.1 g.2 h)
theorem D1(φ:List Nat->A1->A2->Prop)(f9:List Nat->A1->A2->List (Nat×Value))(LI:List Nat->A1->A2->List Asrt)(k1 : @WC (ve Ds) P n F Ek (Exit.then (fun a w=>∃ g:List Nat×A1×A2,(cu3 φ g) /\ @SS (ve g.1) n F Ek (cu3 f9 g) (cu3 LI g) a w) Q) x env L)(k2:∀ x0 x1 x2,(φ x0 x1 x2) -> @WC (ve x0) P n F Ek Q y (f9 x0 x1 x2) (LI x0 x1 x2)) : @WC (ve Ds) P n F Ek Q (.seq x y) env L:=
 Do (G:=List Nat×A1×A2) (fun g=>g.1) (fun g=>(cu3 φ g)) (fun g=>(cu3 f9 g)) (fun g=>(cu3 LI g)) k1 (fun g h=>k2 g.1 g.2.1 g.2.2 h)
theorem Dh(φ:List Nat->A1->A2->Prop)(f9:List Nat->A1->A2->List (Nat×Value))(LI:List Nat->A1->A2->List Asrt)(k1 : @WC (ve Ds) P n F Ek (Exit.then (fun a w=>∃ g:List Nat×A1×A2,(cu3 φ g) /\ @SS (ve g.1) n F Ek (cu3 f9 g) (cu3 LI g) a w) Q) c env L)(k2:∀ x0 x1 x2,(φ x0 x1 x2) -> @WX (ve x0) n F Ek Q .normal (f9 x0 x1 x2) (LI x0 x1 x2)) : @WC (ve Ds) P n F Ek Q (c) env L:=
 Hm (G:=List Nat×A1×A2) (fun g=>g.1) (fun g=>(cu3 φ g)) (fun g=>(cu3 f9 g)) (fun g=>(cu3 LI g)) k1 (fun g h=>k2 g.1 g.2.1 g.2.2 h)
theorem B3(φ:List Nat->A1->A2->A3->Prop)(f9:List Nat->A1->A2->A3->List (Nat×Value))(LI:List Nat->A1->A2->A3->List Asrt)(k1 : @WC (ve Ds) P n F Ek (Exit.then (fun a w=>∃ g:List Nat×A1×A2×A3,(cu4 φ g) /\ @SS (ve g.1) n F Ek (cu4 f9 g) (cu4 LI g) a w) Q) x env L)(k2:∀ x0 x1 x2 x3,(φ x0 x1 x2 x3) -> @WC (ve x0) P n F Ek Q y (f9 x0 x1 x2 x3) (LI x0 x1 x2 x3)) : @WC (ve Ds) P n F Ek Q (.seq x y) env L:=
 Do (G:=List Nat×A1×A2×A3) (fun g=>g.1) (fun g=>(cu4 φ g)) (fun g=>(cu4 f9 g)) (fun g=>(cu4 LI g)) k1 (fun g h=>k2 g.1 g.2.1 g.2.2.1 g.2.2.2 h)
theorem Dg(φ:List Nat->A1->A2->A3->A4->Prop)(f9:List Nat->A1->A2->A3->A4->List (Nat×Value))(LI:List Nat->A1->A2->A3->A4->List Asrt)(k1 : @WC (ve Ds) P n F Ek (Exit.then (fun a w=>∃ g:List Nat×A1×A2×A3×A4,(cu5 φ g) /\ @SS (ve g.1) n F Ek (cu5 f9 g) (cu5 LI g) a w) Q) c env L)(k2:∀ x0 x1 x2 x3 x4,(φ x0 x1 x2 x3 x4) -> @WX (ve x0) n F Ek Q .normal (f9 x0 x1 x2 x3 x4) (LI x0 x1 x2 x3 x4)) : @WC (ve Ds) P n F Ek Q (c) env L:=
 Hm (G:=List Nat×A1×A2×A3×A4) (fun g=>g.1) (fun g=>(cu5 φ g)) (fun g=>(cu5 f9 g)) (fun g=>(cu5 LI g)) k1 (fun g h=>k2 g.1 g.2.1 g.2.2.1 g.2.2.2.1 g.2.2.2.2 h)
theorem D5{A0:Type}(φ:A0->List Nat->A2->A3->A4->Prop)(f9:A0->List Nat->A2->A3->A4->List (Nat×Value))(LI:A0->List Nat->A2->A3->A4->List Asrt)(μ:A0->List Nat->A2->A3->A4->Nat)(lN:A0×List Nat×A2×A3×A4)(hD:lN.2.1=Ds)(h0:((fun g=>(cu5 φ g)):A0×List Nat×A2×A3×A4->Prop) lN)(hr:Restr env (((fun g=>(cu5 f9 g)):A0×List Nat×A2×A3×A4->_) lN))(hL:Sel L (((fun g=>(cu5 LI g)):A0×List Nat×A2×A3×A4->_) lN) M)(round:∀ x0 x1 x2 x3 x4,(φ x0 x1 x2 x3 x4) -> @WC (ve x1) P n F Ek (Exit.then (fun a w=>∃ g':A0×List Nat×A2×A3×A4,(((fun g=>(cu5 φ g)):A0×List Nat×A2×A3×A4->Prop) g'/\((fun g=>(cu5 μ g)):A0×List Nat×A2×A3×A4->Nat) g'<(μ x0 x1 x2 x3 x4)) /\ @SS (ve g'.2.1) n F Ek (((fun g=>(cu5 f9 g)):A0×List Nat×A2×A3×A4->_) g') (((fun g=>(cu5 LI g)):A0×List Nat×A2×A3×A4->_) g') a w) Q) c (f9 x0 x1 x2 x3 x4) (LI x0 x1 x2 x3 x4)):
  @WC (ve Ds) P n F Ek Q (.loop c) env L:=
 D6 (G:=A0×List Nat×A2×A3×A4) (fun g=>g.2.1) (fun g=>(cu5 φ g)) (fun g=>(cu5 f9 g)) (fun g=>(cu5 LI g)) (fun g=>(cu5 μ g)) lN hD h0 hr hL (fun g h=>round g.1 g.2.1 g.2.2.1 g.2.2.2.1 g.2.2.2.2 h)
theorem Og{A0 A5:Type}(φ:A0->List Nat->A2->A3->A4->A5->Prop)(f9:A0->List Nat->A2->A3->A4->A5->List (Nat×Value))(LI:A0->List Nat->A2->A3->A4->A5->List Asrt)(μ:A0->List Nat->A2->A3->A4->A5->Nat)(lN:A0×List Nat×A2×A3×A4×A5)(hD:lN.2.1=Ds)(h0:((fun g=>(cu6 φ g)):A0×List Nat×A2×A3×A4×A5->Prop) lN)(hr:Restr env (((fun g=>(cu6 f9 g)):A0×List Nat×A2×A3×A4×A5->_) lN))(hL:Sel L (((fun g=>(cu6 LI g)):A0×List Nat×A2×A3×A4×A5->_) lN) M)(round:∀ x0 x1 x2 x3 x4 x5,(φ x0 x1 x2 x3 x4 x5) -> @WC (ve x1) P n F Ek (Exit.then (fun a w=>∃ g':A0×List Nat×A2×A3×A4×A5,(((fun g=>(cu6 φ g)):A0×List Nat×A2×A3×A4×A5->Prop) g'/\((fun g=>(cu6 μ g)):A0×List Nat×A2×A3×A4×A5->Nat) g'<(μ x0 x1 x2 x3 x4 x5)) /\ @SS (ve g'.2.1) n F Ek (((fun g=>(cu6 f9 g)):A0×List Nat×A2×A3×A4×A5->_) g') (((fun g=>(cu6 LI g)):A0×List Nat×A2×A3×A4×A5->_) g') a w) Q) c (f9 x0 x1 x2 x3 x4 x5) (LI x0 x1 x2 x3 x4 x5)):
  @WC (ve Ds) P n F Ek Q (.loop c) env L:=
 D6 (G:=A0×List Nat×A2×A3×A4×A5) (fun g=>g.2.1) (fun g=>(cu6 φ g)) (fun g=>(cu6 f9 g)) (fun g=>(cu6 LI g)) (fun g=>(cu6 μ g)) lN hD h0 hr hL (fun g h=>round g.1 g.2.1 g.2.2.1 g.2.2.2.1 g.2.2.2.2.1 g.2.2.2.2.2 h)
end
end
end Sep
namespace Sep
open Go Go.RowKit
variable {i:Int}
section
variable {F:List Nat} {Ek w:World} {L R R':List Asrt} {e:TypeId} {sz:Nat} {α:Type} {enc:α->List Value} {m m':MG α} {d:List α} {ao:Option Addr} {cap:Nat}
theorem Hp.Gz(hp:Pick L (row (.slice ao d.length cap) e sz (d.flatMap enc)) R)(h:Hp F Ek w L):Hp F Ek w (mat e sz enc [((ao,cap),d)]::R):=h.selAll (.cons hp .nil)
theorem Mn{l:List (List α)}(h:m.map (·.2)=l)(hc:0<=i/\i<l.length){d:List α}(hd:d.length=(Sep.nth l i).length):(m.set i.toNat ((Sep.nth m i).1,d)).flatMap em=m.flatMap em:=by
 have AB:=QT h hc
 have hn:=Fm h hc
 have hi:i.toNat<m.length:=by omega
 have e1:m.flatMap em=m.map fun p=>Value.slice p.1.1 p.2.length p.1.2:=by
  clear h hc hd AB hn hi
  induction m with
  | nil=>rfl
  | cons a m ih=>rw[List.flatMap_cons,ih];rfl
 have e2:(m.set i.toNat ((Sep.nth m i).1,d)).flatMap em=(m.set i.toNat ((Sep.nth m i).1,d)).map fun p=>Value.slice p.1.1 p.2.length p.1.2:=by
  generalize m.set i.toNat ((Sep.nth m i).1,d)=m2
  induction m2 with
  | nil=>rfl
  | cons a m ih=>rw[List.flatMap_cons,ih];rfl
 rw[e1,e2,List.map_set]
 apply List.ext_getElem
 ·simp
 ·intro k h1 h2
  rw[List.getElem_set]
  split
  ·rename_i hk
   subst hk
   simp only[List.getElem_map]
   have:Sep.nth m i=m[i.toNat]:=(ti AB.1 AB.2).symm
   rw[hd,<- hn,this]
  ·rfl
theorem Hp.emSet{oe:TypeId}{aO:Option Addr}{Bb:Nat}{l:List (List α)}(hp:Pick L (row (.slice aO l.length Bb) oe 1 (m.flatMap em)) R)(hm:m.map (·.2)=l)(hc:0<=i/\i<l.length)(hd:d.length=(Sep.nth l i).length)(h:Hp F Ek w L):
  Hp F Ek w (row (.slice aO (l.set i.toNat d).length Bb) oe 1 ((m.set i.toNat ((Sep.nth m i).1,d)).flatMap em)::R):=by
 rw[Mn hm hc hd,List.length_set]
 exact h.front hp
theorem Hp.GA{oe:TypeId}{aO ao:Option Addr}{Bb:Nat}{l:List (List α)}(hp:Pick L (row (.slice aO l.length Bb) oe 1 (m.flatMap em)) R)(hm:m.map (·.2)=l)(hc:0<=i/\i<l.length)(hd:d.length=(Sep.nth l i).length)(he:(Sep.nth m i).1.1=ao)(h:Hp F Ek w L):
  Hp F Ek w (row (.slice aO (l.set i.toNat d).length Bb) oe 1 ((m.set i.toNat ((ao,(Sep.nth m i).1.2),d)).flatMap em)::R):=by
 subst he;exact Hp.emSet hp hm hc hd h
theorem Mo{l l':List (List α)}(h:m.map (·.2)=l)(h':m'.map (·.2)=l'):(m++m').map (·.2)=l++l':=by rw[List.map_append,h,h']
theorem GB:∀(A B:List Asrt),Sel (A++B) A B
 | [],_ => .nil
 | a::A,B => .cons .here (GB A B)
theorem Hp.GC(h1:Pick L (mat e sz enc m) R)(h2:Pick R (mat e sz enc m') R')(h:Hp F Ek w L):Hp F Ek w (mat e sz enc (m++m')::R'):=by
 have a:=(h.front h1).sub (.cons .here (.cons h2 .all))
 have b:=Hp.pickAll a (.here)
 have c:Hp F Ek w (m.map (bk e sz enc)++(m'.map (bk e sz enc)++R')):=by
  have hp:∀(A:List Asrt) (x:Asrt) (B:List Asrt),Pick (A++x::B) x (A++B):=fun A x B=>by
   induction A with
   | nil=>exact .here
   | cons a A ih=>exact .there ih
  have c:=Hp.pickAll b (hp _ _ _)
  exact c.perm (by
   rw[<- List.append_assoc,<- List.append_assoc]
   exact List.perm_append_comm.append_right _)
 rw[<- List.append_assoc,<- List.map_append] at c
 exact c.selAll (GB _ _)
end
section
variable [Rnd] {P:Program} {n:Nat} {F:List Nat} {Ek:World} {env:List (Nat×Value)} {L R:List Asrt} {d:Option Tmp} {ty:TypeId} {pos:String} {after:Array Edge} {g:Option (Nat×Bool)} {x y:Operand} {t e:TypeId} {by_:Nat}
theorem GD{α:Type}{ao bo:Option Addr}{cap capk:Nat}{m1 m2:MG α}{l1 l2:List (List α)}{dty:TypeId}(ht:elT P t e 1 by_)(hx:eo env x=some (.slice ao l1.length cap))(hy:eo env y=some (.slice bo l2.length capk))(hm:Pick L (row (.slice ao l1.length cap) e 1 (m1.flatMap em)) R)(h1:m1.map (·.2)=l1)(h2:m2.map (·.2)=l2)(vM:∀ w,Hp F Ek w L->m2.flatMap em≠[]->∃ A,bo=some A/\∀ j u,(m2.flatMap em)[j]?=some u->w.cell? (A.add j)=some u)(hb:((l1++l2).length:Int)*by_<=140737488355328/\((l1++l2).length:Int)<=4611686018427387904):
  Ef P n F Ek env L ⟨d,.call ⟨.builtin .append,#[x,y],#[t,t]⟩,dty,pos,after,g⟩ (fun _:Option Addr×Nat=>True) (fun p => .slice p.1 (l1++l2).length p.2) (fun p=>row (.slice p.1 (l1++l2).length p.2) e 1 ((m1++m2).flatMap em)::R):=by
 have e1:=Fl h1
 have e2:=Fl h2
 rw[List.length_append] at hb ⊢
 rw[<- e1] at hx hm hb ⊢
 rw[<- e2] at hy hb ⊢
 have:=vb (n:=n) (dty:=dty) (d:=d) (pos:=pos) (after:=after) (g:=g) (enc:=em) (l1:=m1) (l2:=m2) ht (hx:=⟨hx⟩) (hy:=⟨hy⟩) hm (fun _=>rfl) vM (vm em_oc _) (by rw[List.length_append];exact hb)
 rw[List.length_append] at this
 exact this
end
end Sep
namespace Sep
open Go Go.RowKit
section
variable [Rnd] {P:Program} {n:Nat} {F:List Nat} {Ek:World} {env:List (Nat×Value)} {L:List Asrt} {d:Option Tmp} {ty:TypeId} {pos:String} {after:Array Edge} {g:Option (Nat×Bool)} {x y z:Operand} {k:IntKind} {p q u r:Int}
theorem MW{Cu:Array TypeId}(hx:eo env x=some (.int k p))(hy:eo env y=some (.int k q))(hz:eo env z=some (.int k u))(hw:min (min p q) u=r):Qt P n F Ek env L ⟨d,.call ⟨.builtin .min,#[x,y,z],Cu⟩,ty,pos,after,g⟩ (.int k r):=by
 intro a w h
 have h1:(if q<p then q else p)=min p q:=by simp only[Int.min_def];split <;> split <;> omega
 have h2:(if u<min p q then u else min p q)=r:=by subst hw;simp only[Int.min_def];split <;> split <;> omega
 simp[execOp,h.eval hx,h.eval hy,h.eval hz,resolve,invoke,builtin,Builtin.min_,Builtin.min2,h1,h2]
end
end Sep
