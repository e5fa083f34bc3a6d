/- A part of this claim's proof: models of functions, walks, plain laws. No conditions. -/
import Derived.Test.YthjnhebofpebpaaGreatZMem
set_option linter.all false
namespace Sep
open Go Go.RowKit
section
variable {v0 v1 v2 v3 v4 v5 v6 v7 v8 v9 Al Az AA AB AC AD Bc Bd Be BO BP Cm v22 C8:Value}{α:Type}{i0 i1 i2 i4 i5 i7 id i9 Am AE AF AG AH AJ Bf Bg BQ BR Cn Co C9:Nat}{z y:Code}
section
variable [Rnd] {P:Program} {n:Nat} {F:List Nat} {w₀:World} {env:List (Nat×Value)} {L Lc Lr R:List Asrt} {eA:Array Oper} {Q:Exit->Act->World->Prop} {ir:List Oper} {o:Oper} {v:Value}
 {tl:Nat->Bool} {Ls:List Asrt} {fuel:Nat} {listed:Array Bool} {QD:Act->World->Prop}
theorem Lk{R:Type}{c:Operand}{x:Code}{b:Bool}{u v:Option R}{r:R}{Q:Exit->Act->World->Prop}(hc:eo env c=some (.bool b))(h:(if b=true then u else v)=some r)(ht:b=true->u=some r->WC P n F w₀ Q x env L)(hf:b=false->v=some r->WC P n F w₀ Q y env L):WC P n F w₀ Q (.cond c x y) env L:=WC.cond hc (fun e=>ht e (q7 h e)) (fun e=>hf e (q8 h e))
theorem Lf(i d:Nat)(hi:eA[i]?=some o)(hq:∀ {w₀} a w,SS n [] w₀ env [] a w->(execOp a.eval o).run P w = .ok (.value v) w)(k:WD P n F w₀ eA tl Ls QD fuel (listed.setIfInBounds i true) ((d,v)::env) L)(wX:tX eA=true:=by kernel_rfl)(hr:(Region.ready .any eA listed).contains i=true:=by exact zO (by kernel_rfl))(hf:uf eA (fun _=>false) listed i=true:=by exact zP (by kernel_rfl))(hg:gd env eA o=some true:=by exact rfl)(hd:o.dst=some d:=by exact rfl)(kS:Nat.blt d n=true:=by exact rfl):WD P n F w₀ eA tl Ls QD (fuel+1) listed env L:=WD.a wX hi hr hf hg hd kS (fun _=>hq) k
theorem Lh(i d:Nat)(hi:eA[i]?=some o)(hq:∀ a w,SS n F w₀ env L a w->(execOp a.eval o).run P w = .ok (.value v) w)(k:WD P n F w₀ eA tl Ls QD fuel (listed.setIfInBounds i true) ((d,v)::env) L)(wX:tX eA=true:=by kernel_rfl)(hr:(Region.ready .any eA listed).contains i=true:=by exact zO (by kernel_rfl))(hf:uf eA tl listed i=true:=by exact zP (by kernel_rfl))(hg:gd env eA o=some true:=by exact rfl)(hd:o.dst=some d:=by exact rfl)(kS:Nat.blt d n=true:=by exact rfl):WD P n F w₀ eA tl Ls QD (fuel+1) listed env L:=WD.e wX hi hr hf hg hd kS hq k
theorem Mb(i d:Nat)(hi:eA[i]?=some o)(hs:wB L Ls)(hq:∀ a w,SS n F w₀ env Ls a w->(execOp a.eval o).run P w = .ok (.value v) w)(k:WD P n F w₀ eA tl Ls QD fuel (listed.setIfInBounds i true) ((d,v)::env) L)(wX:tX eA=true:=by kernel_rfl)(hr:(Region.ready .any eA listed).contains i=true:=by exact zO (by kernel_rfl))(hf:uf eA (fun _=>false) listed i=true:=by exact zP (by kernel_rfl))(hg:gd env eA o=some true:=by exact rfl)(hd:o.dst=some d:=by exact rfl)(kS:Nat.blt d n=true:=by exact rfl):WD P n F w₀ eA tl Ls QD (fuel+1) listed env L:=WD.QM wX hi hr hf hg hd kS hs hq k
theorem Lj(i d:Nat)(hi:eA[i]?=some o)(k:WD P n F w₀ eA tl Ls QD fuel (listed.setIfInBounds i true) ((d,undef)::env) L)(wX:tX eA=true:=by kernel_rfl)(hr:(Region.ready .any eA listed).contains i=true:=by exact zO (by kernel_rfl))(hf:uf eA (fun _=>false) listed i=true:=by exact zP (by kernel_rfl))(hg:gd env eA o=some false:=by exact rfl)(hd:o.dst=some d:=by exact rfl)(kS:Nat.blt d n=true:=by exact rfl):WD P n F w₀ eA tl Ls QD (fuel+1) listed env L:=WD.b wX hi hr hf hg hd kS k
theorem L5{f:FuncId}{vs:Array Value}(i d:Nat)(hi:eA[i]?=some o)(iB:∀ a w,SS n F w₀ env L a w->(execOp a.eval o).run P w = .ok (.enter f vs) w)(hc:∀ w,Hp F w₀ w L->Calls P f vs w fun e w'=>e = .returned v/\Hp [] w w' [])(k:WD P n F w₀ eA tl Ls QD fuel (listed.setIfInBounds i true) ((d,v)::env) L)(wX:tX eA=true:=by kernel_rfl)(hr:(Region.ready .any eA listed).contains i=true:=by exact zO (by kernel_rfl))(hf:uf eA tl listed i=true:=by exact zP (by kernel_rfl))(hg:gd env eA o=some true:=by exact rfl)(hd:o.dst=some d:=by exact rfl)(kS:Nat.blt d n=true:=by exact rfl):WD P n F w₀ eA tl Ls QD (fuel+1) listed env L:=WD.c wX hi hr hf hg hd kS iB hc k
theorem Le(d:Nat)(hq:∀ a w,SS n F w₀ env L a w->(execOp a.eval o).run P w = .ok (.value v) w)(k:WL P n F w₀ eA Q ir ((d,v)::env) L)(hg:gd env eA o=some true:=by exact rfl)(hd:o.dst=some d:=by exact rfl)(kS:Nat.blt d n=true:=by exact rfl):WL P n F w₀ eA Q (o::ir) env L:=WL.a hg hd kS hq k
theorem Lg{G:Type}{φ:G->Prop}{val:G->Value}{L':G->List Asrt}(d:Nat)(hq:eU P n F w₀ env L o φ val L')(k:∀ g,φ g->WL P n F w₀ eA Q ir ((d,val g)::env) (L' g))(hg:gd env eA o=some true:=by exact rfl)(hd:o.dst=some d:=by exact rfl)(kS:Nat.blt d n=true:=by exact rfl):WL P n F w₀ eA Q (o::ir) env L:=WL.new hg hd kS hq k
theorem WL.fA{G:Type}{φ:G->Prop}{val:G->Value}{L':G->List Asrt}(d:Nat)(hq:Ef P n F w₀ env L o φ val L')(k:∀ g,φ g->WL P n F w₀ eA Q ir ((d,val g)::env) (L' g))(hg:gd env eA o=some true:=by exact rfl)(hd:o.dst=some d:=by exact rfl)(kS:Nat.blt d n=true:=by exact rfl):WL P n F w₀ eA Q (o::ir) env L:=WL.eff hg hd kS hq k
theorem Lp{f:FuncId}{vs:Array Value}{M:List Asrt}(d:Nat)(iB:∀ a w,SS n F w₀ env L a w->(execOp a.eval o).run P w = .ok (.enter f vs) w)(hs:Sel L Lc Lr)(hc:∀ w,Hp F w₀ w L->Calls P f vs w fun e w'=>e = .returned v/\Hp (fps Lc) w w' M)(k:WL P n F w₀ eA Q ir ((d,v)::env) (M++Lr))(hg:gd env eA o=some true:=by exact rfl)(hd:o.dst=some d:=by exact rfl)(kS:Nat.blt d n=true:=by exact rfl):WL P n F w₀ eA Q (o::ir) env L:=WL.b hg hd kS iB hs hc k
end
section
variable [Rnd] {P:Program} {f:FuncId} {fn:Func} {c:Code} {w:World} {R:Ending->World->Prop} {n:Nat} {pre:List Asrt}
theorem Calls.on0(hf:P.funcs[f]?=some fn)(hn:fn.ntmps=n)(k : @WC Rnd.base P n [] w (bodyPost P fn R) c [] [])(hb:fn.body=some c:=by exact rfl)(lK:Nat.ble 0 n=true:=by exact rfl):Calls P f #[] w R:=Calls.fu (vs:=[]) (pre:=[]) hf hb hn lK (Hp.nil w _) rfl k
theorem Calls.oh1(hf:P.funcs[f]?=some fn)(hn:fn.ntmps=n)(iq:Hp (fps pre) w w pre)(k : @WC Rnd.base P n (fps pre) w (bodyPost P fn R) c [(0,v0)] pre)(hb:fn.body=some c:=by exact rfl)(lK:Nat.ble 1 n=true:=by exact rfl):Calls P f #[v0] w R:=Calls.fu (vs:=[v0]) (pre:=pre) hf hb hn lK iq rfl k
theorem L9(hf:P.funcs[f]?=some fn)(hn:fn.ntmps=n)(k : @WC Rnd.base P n [] w (bodyPost P fn R) c [(0,v0)] [])(hb:fn.body=some c:=by exact rfl)(lK:Nat.ble 1 n=true:=by exact rfl):Calls P f #[v0] w R:=Calls.fu (vs:=[v0]) (pre:=[]) hf hb hn lK (Hp.nil w _) rfl k
theorem Mf(hf:P.funcs[f]?=some fn)(hn:fn.ntmps=n)(iq:Hp (fps pre) w w pre)(k : @WC Rnd.base P n (fps pre) w (bodyPost P fn R) c [(0,v0),(1,v1)] pre)(hb:fn.body=some c:=by exact rfl)(lK:Nat.ble 2 n=true:=by exact rfl):Calls P f #[v0,v1] w R:=Calls.fu (vs:=[v0,v1]) (pre:=pre) hf hb hn lK iq rfl k
theorem L3(hf:P.funcs[f]?=some fn)(hn:fn.ntmps=n)(k : @WC Rnd.base P n [] w (bodyPost P fn R) c [(0,v0),(1,v1)] [])(hb:fn.body=some c:=by exact rfl)(lK:Nat.ble 2 n=true:=by exact rfl):Calls P f #[v0,v1] w R:=Calls.fu (vs:=[v0,v1]) (pre:=[]) hf hb hn lK (Hp.nil w _) rfl k
theorem Calls.oh3(hf:P.funcs[f]?=some fn)(hn:fn.ntmps=n)(iq:Hp (fps pre) w w pre)(k : @WC Rnd.base P n (fps pre) w (bodyPost P fn R) c [(0,v0),(1,v1),(2,v2)] pre)(hb:fn.body=some c:=by exact rfl)(lK:Nat.ble 3 n=true:=by exact rfl):Calls P f #[v0,v1,v2] w R:=Calls.fu (vs:=[v0,v1,v2]) (pre:=pre) hf hb hn lK iq rfl k
theorem Me(hf:P.funcs[f]?=some fn)(hn:fn.ntmps=n)(k : @WC Rnd.base P n [] w (bodyPost P fn R) c [(0,v0),(1,v1),(2,v2)] [])(hb:fn.body=some c:=by exact rfl)(lK:Nat.ble 3 n=true:=by exact rfl):Calls P f #[v0,v1,v2] w R:=Calls.fu (vs:=[v0,v1,v2]) (pre:=[]) hf hb hn lK (Hp.nil w _) rfl k
theorem Calls.tg(hf:P.funcs[f]?=some fn)(hn:fn.ntmps=n)(iq:Hp (fps pre) w w pre)(k : @WC Rnd.base P n (fps pre) w (bodyPost P fn R) c [(0,v0),(1,v1),(2,v2),(3,v3)] pre)(hb:fn.body=some c:=by exact rfl)(lK:Nat.ble 4 n=true:=by exact rfl):Calls P f #[v0,v1,v2,v3] w R:=Calls.fu (vs:=[v0,v1,v2,v3]) (pre:=pre) hf hb hn lK iq rfl k
theorem Calls.on4(hf:P.funcs[f]?=some fn)(hn:fn.ntmps=n)(k : @WC Rnd.base P n [] w (bodyPost P fn R) c [(0,v0),(1,v1),(2,v2),(3,v3)] [])(hb:fn.body=some c:=by exact rfl)(lK:Nat.ble 4 n=true:=by exact rfl):Calls P f #[v0,v1,v2,v3] w R:=Calls.fu (vs:=[v0,v1,v2,v3]) (pre:=[]) hf hb hn lK (Hp.nil w _) rfl k
theorem Calls.on5(hf:P.funcs[f]?=some fn)(hn:fn.ntmps=n)(k : @WC Rnd.base P n [] w (bodyPost P fn R) c [(0,v0),(1,v1),(2,v2),(3,v3),(4,v4)] [])(hb:fn.body=some c:=by exact rfl)(lK:Nat.ble 5 n=true:=by exact rfl):Calls P f #[v0,v1,v2,v3,v4] w R:=Calls.fu (vs:=[v0,v1,v2,v3,v4]) (pre:=[]) hf hb hn lK (Hp.nil w _) rfl k
end
theorem Restr.r2{env:List (Nat×Value)}(h0:Sep.lk env i0=some v0)(h1:Sep.lk env i1=some v1):Restr env [(i0,v0),(i1,v1)] := .cons h0 (.cons h1 .nil)
theorem Restr.r3{env:List (Nat×Value)}(h0:Sep.lk env i0=some v0)(h1:Sep.lk env i1=some v1)(h2:Sep.lk env i2=some v2):Restr env [(i0,v0),(i1,v1),(i2,v2)] := .cons h0 (.cons h1 (.cons h2 .nil))
theorem Restr.r4{env:List (Nat×Value)}{i3:Nat}(h0:Sep.lk env i0=some v0)(h1:Sep.lk env i1=some v1)(h2:Sep.lk env i2=some v2)(h3:Sep.lk env i3=some v3):Restr env [(i0,v0),(i1,v1),(i2,v2),(i3,v3)] := .cons h0 (.cons h1 (.cons h2 (.cons h3 .nil)))
theorem Restr.r5{env:List (Nat×Value)}{i3:Nat}(h0:Sep.lk env i0=some v0)(h1:Sep.lk env i1=some v1)(h2:Sep.lk env i2=some v2)(h3:Sep.lk env i3=some v3)(h4:Sep.lk env i4=some v4):Restr env [(i0,v0),(i1,v1),(i2,v2),(i3,v3),(i4,v4)] := .cons h0 (.cons h1 (.cons h2 (.cons h3 (.cons h4 .nil))))
theorem Restr.r6{env:List (Nat×Value)}{i3:Nat}(h0:Sep.lk env i0=some v0)(h1:Sep.lk env i1=some v1)(h2:Sep.lk env i2=some v2)(h3:Sep.lk env i3=some v3)(h4:Sep.lk env i4=some v4)(h5:Sep.lk env i5=some v5):Restr env [(i0,v0),(i1,v1),(i2,v2),(i3,v3),(i4,v4),(i5,v5)] := .cons h0 (.cons h1 (.cons h2 (.cons h3 (.cons h4 (.cons h5 .nil)))))
theorem Restr.r7{env:List (Nat×Value)}{i3 i6:Nat}(h0:Sep.lk env i0=some v0)(h1:Sep.lk env i1=some v1)(h2:Sep.lk env i2=some v2)(h3:Sep.lk env i3=some v3)(h4:Sep.lk env i4=some v4)(h5:Sep.lk env i5=some v5)(h6:Sep.lk env i6=some v6):Restr env [(i0,v0),(i1,v1),(i2,v2),(i3,v3),(i4,v4),(i5,v5),(i6,v6)] := .cons h0 (.cons h1 (.cons h2 (.cons h3 (.cons h4 (.cons h5 (.cons h6 .nil))))))
theorem Restr.r8{env:List (Nat×Value)}{i3 i6:Nat}(h0:Sep.lk env i0=some v0)(h1:Sep.lk env i1=some v1)(h2:Sep.lk env i2=some v2)(h3:Sep.lk env i3=some v3)(h4:Sep.lk env i4=some v4)(h5:Sep.lk env i5=some v5)(h6:Sep.lk env i6=some v6)(h7:Sep.lk env i7=some v7):Restr env [(i0,v0),(i1,v1),(i2,v2),(i3,v3),(i4,v4),(i5,v5),(i6,v6),(i7,v7)] := .cons h0 (.cons h1 (.cons h2 (.cons h3 (.cons h4 (.cons h5 (.cons h6 (.cons h7 .nil)))))))
theorem Restr.r9{env:List (Nat×Value)}{i3 i6 i8:Nat}(h0:Sep.lk env i0=some v0)(h1:Sep.lk env i1=some v1)(h2:Sep.lk env i2=some v2)(h3:Sep.lk env i3=some v3)(h4:Sep.lk env i4=some v4)(h5:Sep.lk env i5=some v5)(h6:Sep.lk env i6=some v6)(h7:Sep.lk env i7=some v7)(h8:Sep.lk env i8=some v8):Restr env [(i0,v0),(i1,v1),(i2,v2),(i3,v3),(i4,v4),(i5,v5),(i6,v6),(i7,v7),(i8,v8)] := .cons h0 (.cons h1 (.cons h2 (.cons h3 (.cons h4 (.cons h5 (.cons h6 (.cons h7 (.cons h8 .nil))))))))
theorem Restr.r10{env:List (Nat×Value)}{i3 i6 i8:Nat}(h0:Sep.lk env i0=some v0)(h1:Sep.lk env i1=some v1)(h2:Sep.lk env i2=some v2)(h3:Sep.lk env i3=some v3)(h4:Sep.lk env i4=some v4)(h5:Sep.lk env i5=some v5)(h6:Sep.lk env i6=some v6)(h7:Sep.lk env i7=some v7)(h8:Sep.lk env i8=some v8)(h9:Sep.lk env i9=some v9):Restr env [(i0,v0),(i1,v1),(i2,v2),(i3,v3),(i4,v4),(i5,v5),(i6,v6),(i7,v7),(i8,v8),(i9,v9)] := .cons h0 (.cons h1 (.cons h2 (.cons h3 (.cons h4 (.cons h5 (.cons h6 (.cons h7 (.cons h8 (.cons h9 .nil)))))))))
theorem Restr.r11{env:List (Nat×Value)}{i3 i6 i8:Nat}(h0:Sep.lk env i0=some v0)(h1:Sep.lk env i1=some v1)(h2:Sep.lk env i2=some v2)(h3:Sep.lk env i3=some v3)(h4:Sep.lk env i4=some v4)(h5:Sep.lk env i5=some v5)(h6:Sep.lk env i6=some v6)(h7:Sep.lk env i7=some v7)(h8:Sep.lk env i8=some v8)(h9:Sep.lk env i9=some v9)(zW:Sep.lk env Am=some Al):Restr env [(i0,v0),(i1,v1),(i2,v2),(i3,v3),(i4,v4),(i5,v5),(i6,v6),(i7,v7),(i8,v8),(i9,v9),(Am,Al)] := .cons h0 (.cons h1 (.cons h2 (.cons h3 (.cons h4 (.cons h5 (.cons h6 (.cons h7 (.cons h8 (.cons h9 (.cons zW .nil))))))))))
theorem Restr.r16{env:List (Nat×Value)}{i3 i6 i8:Nat}(h0:Sep.lk env i0=some v0)(h1:Sep.lk env i1=some v1)(h2:Sep.lk env i2=some v2)(h3:Sep.lk env i3=some v3)(h4:Sep.lk env i4=some v4)(h5:Sep.lk env i5=some v5)(h6:Sep.lk env i6=some v6)(h7:Sep.lk env i7=some v7)(h8:Sep.lk env i8=some v8)(h9:Sep.lk env i9=some v9)(zW:Sep.lk env Am=some Al)(zY:Sep.lk env AE=some Az)(AS:Sep.lk env AF=some AA)(AU:Sep.lk env AG=some AB)(AV:Sep.lk env AH=some AC)(AW:Sep.lk env AJ=some AD):Restr env [(i0,v0),(i1,v1),(i2,v2),(i3,v3),(i4,v4),(i5,v5),(i6,v6),(i7,v7),(i8,v8),(i9,v9),(Am,Al),(AE,Az),(AF,AA),(AG,AB),(AH,AC),(AJ,AD)] := .cons h0 (.cons h1 (.cons h2 (.cons h3 (.cons h4 (.cons h5 (.cons h6 (.cons h7 (.cons h8 (.cons h9 (.cons zW (.cons zY (.cons AS (.cons AU (.cons AV (.cons AW .nil)))))))))))))))
theorem Restr.r19{env:List (Nat×Value)}{i3 i6 i8 i16:Nat}(h0:Sep.lk env i0=some v0)(h1:Sep.lk env i1=some v1)(h2:Sep.lk env i2=some v2)(h3:Sep.lk env i3=some v3)(h4:Sep.lk env i4=some v4)(h5:Sep.lk env i5=some v5)(h6:Sep.lk env i6=some v6)(h7:Sep.lk env i7=some v7)(h8:Sep.lk env i8=some v8)(h9:Sep.lk env i9=some v9)(zW:Sep.lk env Am=some Al)(zY:Sep.lk env AE=some Az)(AS:Sep.lk env AF=some AA)(AU:Sep.lk env AG=some AB)(AV:Sep.lk env AH=some AC)(AW:Sep.lk env AJ=some AD)(Bq:Sep.lk env i16=some Bc)(Br:Sep.lk env Bf=some Bd)(Bs:Sep.lk env Bg=some Be):Restr env [(i0,v0),(i1,v1),(i2,v2),(i3,v3),(i4,v4),(i5,v5),(i6,v6),(i7,v7),(i8,v8),(i9,v9),(Am,Al),(AE,Az),(AF,AA),(AG,AB),(AH,AC),(AJ,AD),(i16,Bc),(Bf,Bd),(Bg,Be)] := .cons h0 (.cons h1 (.cons h2 (.cons h3 (.cons h4 (.cons h5 (.cons h6 (.cons h7 (.cons h8 (.cons h9 (.cons zW (.cons zY (.cons AS (.cons AU (.cons AV (.cons AW (.cons Bq (.cons Br (.cons Bs .nil))))))))))))))))))
theorem Restr.r21{env:List (Nat×Value)}{i3 i6 i8 i16:Nat}(h0:Sep.lk env i0=some v0)(h1:Sep.lk env i1=some v1)(h2:Sep.lk env i2=some v2)(h3:Sep.lk env i3=some v3)(h4:Sep.lk env i4=some v4)(h5:Sep.lk env i5=some v5)(h6:Sep.lk env i6=some v6)(h7:Sep.lk env i7=some v7)(h8:Sep.lk env i8=some v8)(h9:Sep.lk env i9=some v9)(zW:Sep.lk env Am=some Al)(zY:Sep.lk env AE=some Az)(AS:Sep.lk env AF=some AA)(AU:Sep.lk env AG=some AB)(AV:Sep.lk env AH=some AC)(AW:Sep.lk env AJ=some AD)(Bq:Sep.lk env i16=some Bc)(Br:Sep.lk env Bf=some Bd)(Bs:Sep.lk env Bg=some Be)(B9:Sep.lk env BQ=some BO)(Ca:Sep.lk env BR=some BP):Restr env [(i0,v0),(i1,v1),(i2,v2),(i3,v3),(i4,v4),(i5,v5),(i6,v6),(i7,v7),(i8,v8),(i9,v9),(Am,Al),(AE,Az),(AF,AA),(AG,AB),(AH,AC),(AJ,AD),(i16,Bc),(Bf,Bd),(Bg,Be),(BQ,BO),(BR,BP)] := .cons h0 (.cons h1 (.cons h2 (.cons h3 (.cons h4 (.cons h5 (.cons h6 (.cons h7 (.cons h8 (.cons h9 (.cons zW (.cons zY (.cons AS (.cons AU (.cons AV (.cons AW (.cons Bq (.cons Br (.cons Bs (.cons B9 (.cons Ca .nil))))))))))))))))))))
theorem Restr.r23{env:List (Nat×Value)}{i3 i6 i8 i16:Nat}(h0:Sep.lk env i0=some v0)(h1:Sep.lk env i1=some v1)(h2:Sep.lk env i2=some v2)(h3:Sep.lk env i3=some v3)(h4:Sep.lk env i4=some v4)(h5:Sep.lk env i5=some v5)(h6:Sep.lk env i6=some v6)(h7:Sep.lk env i7=some v7)(h8:Sep.lk env i8=some v8)(h9:Sep.lk env i9=some v9)(zW:Sep.lk env Am=some Al)(zY:Sep.lk env AE=some Az)(AS:Sep.lk env AF=some AA)(AU:Sep.lk env AG=some AB)(AV:Sep.lk env AH=some AC)(AW:Sep.lk env AJ=some AD)(Bq:Sep.lk env i16=some Bc)(Br:Sep.lk env Bf=some Bd)(Bs:Sep.lk env Bg=some Be)(B9:Sep.lk env BQ=some BO)(Ca:Sep.lk env BR=some BP)(Bt:Sep.lk env Cn=some Cm)(Bu:Sep.lk env Co=some v22):Restr env [(i0,v0),(i1,v1),(i2,v2),(i3,v3),(i4,v4),(i5,v5),(i6,v6),(i7,v7),(i8,v8),(i9,v9),(Am,Al),(AE,Az),(AF,AA),(AG,AB),(AH,AC),(AJ,AD),(i16,Bc),(Bf,Bd),(Bg,Be),(BQ,BO),(BR,BP),(Cn,Cm),(Co,v22)] := .cons h0 (.cons h1 (.cons h2 (.cons h3 (.cons h4 (.cons h5 (.cons h6 (.cons h7 (.cons h8 (.cons h9 (.cons zW (.cons zY (.cons AS (.cons AU (.cons AV (.cons AW (.cons Bq (.cons Br (.cons Bs (.cons B9 (.cons Ca (.cons Bt (.cons Bu .nil))))))))))))))))))))))
theorem Restr.r24{env:List (Nat×Value)}{i3 i6 i8 i16:Nat}(h0:Sep.lk env i0=some v0)(h1:Sep.lk env i1=some v1)(h2:Sep.lk env i2=some v2)(h3:Sep.lk env i3=some v3)(h4:Sep.lk env i4=some v4)(h5:Sep.lk env i5=some v5)(h6:Sep.lk env i6=some v6)(h7:Sep.lk env i7=some v7)(h8:Sep.lk env i8=some v8)(h9:Sep.lk env i9=some v9)(zW:Sep.lk env Am=some Al)(zY:Sep.lk env AE=some Az)(AS:Sep.lk env AF=some AA)(AU:Sep.lk env AG=some AB)(AV:Sep.lk env AH=some AC)(AW:Sep.lk env AJ=some AD)(Bq:Sep.lk env i16=some Bc)(Br:Sep.lk env Bf=some Bd)(Bs:Sep.lk env Bg=some Be)(B9:Sep.lk env BQ=some BO)(Ca:Sep.lk env BR=some BP)(Bt:Sep.lk env Cn=some Cm)(Bu:Sep.lk env Co=some v22)(DF:Sep.lk env C9=some C8):Restr env [(i0,v0),(i1,v1),(i2,v2),(i3,v3),(i4,v4),(i5,v5),(i6,v6),(i7,v7),(i8,v8),(i9,v9),(Am,Al),(AE,Az),(AF,AA),(AG,AB),(AH,AC),(AJ,AD),(i16,Bc),(Bf,Bd),(Bg,Be),(BQ,BO),(BR,BP),(Cn,Cm),(Co,v22),(C9,C8)] := .cons h0 (.cons h1 (.cons h2 (.cons h3 (.cons h4 (.cons h5 (.cons h6 (.cons h7 (.cons h8 (.cons h9 (.cons zW (.cons zY (.cons AS (.cons AU (.cons AV (.cons AW (.cons Bq (.cons Br (.cons Bs (.cons B9 (.cons Ca (.cons Bt (.cons Bu (.cons DF .nil)))))))))))))))))))))))
theorem Restr.r25{env:List (Nat×Value)}{i3 i6 i8 i16 DG:Nat}{DH:Value}(h0:Sep.lk env i0=some v0)(h1:Sep.lk env i1=some v1)(h2:Sep.lk env i2=some v2)(h3:Sep.lk env i3=some v3)(h4:Sep.lk env i4=some v4)(h5:Sep.lk env i5=some v5)(h6:Sep.lk env i6=some v6)(h7:Sep.lk env i7=some v7)(h8:Sep.lk env i8=some v8)(h9:Sep.lk env i9=some v9)(zW:Sep.lk env Am=some Al)(zY:Sep.lk env AE=some Az)(AS:Sep.lk env AF=some AA)(AU:Sep.lk env AG=some AB)(AV:Sep.lk env AH=some AC)(AW:Sep.lk env AJ=some AD)(Bq:Sep.lk env i16=some Bc)(Br:Sep.lk env Bf=some Bd)(Bs:Sep.lk env Bg=some Be)(B9:Sep.lk env BQ=some BO)(Ca:Sep.lk env BR=some BP)(Bt:Sep.lk env Cn=some Cm)(Bu:Sep.lk env Co=some v22)(DF:Sep.lk env C9=some C8)(h24:Sep.lk env DG=some DH):Restr env [(i0,v0),(i1,v1),(i2,v2),(i3,v3),(i4,v4),(i5,v5),(i6,v6),(i7,v7),(i8,v8),(i9,v9),(Am,Al),(AE,Az),(AF,AA),(AG,AB),(AH,AC),(AJ,AD),(i16,Bc),(Bf,Bd),(Bg,Be),(BQ,BO),(BR,BP),(Cn,Cm),(Co,v22),(C9,C8),(DG,DH)] := .cons h0 (.cons h1 (.cons h2 (.cons h3 (.cons h4 (.cons h5 (.cons h6 (.cons h7 (.cons h8 (.cons h9 (.cons zW (.cons zY (.cons AS (.cons AU (.cons AV (.cons AW (.cons Bq (.cons Br (.cons Bs (.cons B9 (.cons Ca (.cons Bt (.cons Bu (.cons DF (.cons h24 .nil))))))))))))))))))))))))
theorem Restr.r29{env:List (Nat×Value)}{i3 i6 i8 i16 DG i25 i26 i27 i28:Nat}{DH v25 v26 v27 v28:Value}(h0:Sep.lk env i0=some v0)(h1:Sep.lk env i1=some v1)(h2:Sep.lk env i2=some v2)(h3:Sep.lk env i3=some v3)(h4:Sep.lk env i4=some v4)(h5:Sep.lk env i5=some v5)(h6:Sep.lk env i6=some v6)(h7:Sep.lk env i7=some v7)(h8:Sep.lk env i8=some v8)(h9:Sep.lk env i9=some v9)(zW:Sep.lk env Am=some Al)(zY:Sep.lk env AE=some Az)(AS:Sep.lk env AF=some AA)(AU:Sep.lk env AG=some AB)(AV:Sep.lk env AH=some AC)(AW:Sep.lk env AJ=some AD)(Bq:Sep.lk env i16=some Bc)(Br:Sep.lk env Bf=some Bd)(Bs:Sep.lk env Bg=some Be)(B9:Sep.lk env BQ=some BO)(Ca:Sep.lk env BR=some BP)(Bt:Sep.lk env Cn=some Cm)(Bu:Sep.lk env Co=some v22)(DF:Sep.lk env C9=some C8)(h24:Sep.lk env DG=some DH)(h25:Sep.lk env i25=some v25)(h26:Sep.lk env i26=some v26)(h27:Sep.lk env i27=some v27)(h28:Sep.lk env i28=some v28):Restr env [(i0,v0),(i1,v1),(i2,v2),(i3,v3),(i4,v4),(i5,v5),(i6,v6),(i7,v7),(i8,v8),(i9,v9),(Am,Al),(AE,Az),(AF,AA),(AG,AB),(AH,AC),(AJ,AD),(i16,Bc),(Bf,Bd),(Bg,Be),(BQ,BO),(BR,BP),(Cn,Cm),(Co,v22),(C9,C8),(DG,DH),(i25,v25),(i26,v26),(i27,v27),(i28,v28)] := .cons h0 (.cons h1 (.cons h2 (.cons h3 (.cons h4 (.cons h5 (.cons h6 (.cons h7 (.cons h8 (.cons h9 (.cons zW (.cons zY (.cons AS (.cons AU (.cons AV (.cons AW (.cons Bq (.cons Br (.cons Bs (.cons B9 (.cons Ca (.cons Bt (.cons Bu (.cons DF (.cons h24 (.cons h25 (.cons h26 (.cons h27 (.cons h28 .nil))))))))))))))))))))))))))))
theorem Eos.r2{env:List (Nat×Value)}{i0 i1:Operand}(h0:Sep.eo env i0=some v0)(h1:Sep.eo env i1=some v1):Eos env [i0,i1] [v0,v1] := .cons h0 (.cons h1 .nil)
theorem Eos.r3{env:List (Nat×Value)}{i0 i1 i2:Operand}(h0:Sep.eo env i0=some v0)(h1:Sep.eo env i1=some v1)(h2:Sep.eo env i2=some v2):Eos env [i0,i1,i2] [v0,v1,v2] := .cons h0 (.cons h1 (.cons h2 .nil))
theorem Eos.r4{env:List (Nat×Value)}{i0 i1 i2 i3:Operand}(h0:Sep.eo env i0=some v0)(h1:Sep.eo env i1=some v1)(h2:Sep.eo env i2=some v2)(h3:Sep.eo env i3=some v3):Eos env [i0,i1,i2,i3] [v0,v1,v2,v3] := .cons h0 (.cons h1 (.cons h2 (.cons h3 .nil)))
theorem Eos.r5{env:List (Nat×Value)}{i0 i1 i2 i3 i4:Operand}(h0:Sep.eo env i0=some v0)(h1:Sep.eo env i1=some v1)(h2:Sep.eo env i2=some v2)(h3:Sep.eo env i3=some v3)(h4:Sep.eo env i4=some v4):Eos env [i0,i1,i2,i3,i4] [v0,v1,v2,v3,v4] := .cons h0 (.cons h1 (.cons h2 (.cons h3 (.cons h4 .nil))))
theorem Eos.r6{env:List (Nat×Value)}{i0 i1 i2 i3 i4 i5:Operand}(h0:Sep.eo env i0=some v0)(h1:Sep.eo env i1=some v1)(h2:Sep.eo env i2=some v2)(h3:Sep.eo env i3=some v3)(h4:Sep.eo env i4=some v4)(h5:Sep.eo env i5=some v5):Eos env [i0,i1,i2,i3,i4,i5] [v0,v1,v2,v3,v4,v5] := .cons h0 (.cons h1 (.cons h2 (.cons h3 (.cons h4 (.cons h5 .nil)))))
theorem Eos.r7{env:List (Nat×Value)}{i0 i1 i2 i3 i4 i5 i6:Operand}(h0:Sep.eo env i0=some v0)(h1:Sep.eo env i1=some v1)(h2:Sep.eo env i2=some v2)(h3:Sep.eo env i3=some v3)(h4:Sep.eo env i4=some v4)(h5:Sep.eo env i5=some v5)(h6:Sep.eo env i6=some v6):Eos env [i0,i1,i2,i3,i4,i5,i6] [v0,v1,v2,v3,v4,v5,v6] := .cons h0 (.cons h1 (.cons h2 (.cons h3 (.cons h4 (.cons h5 (.cons h6 .nil))))))
theorem Eos.r8{env:List (Nat×Value)}{i0 i1 i2 i3 i4 i5 i6 i7:Operand}(h0:Sep.eo env i0=some v0)(h1:Sep.eo env i1=some v1)(h2:Sep.eo env i2=some v2)(h3:Sep.eo env i3=some v3)(h4:Sep.eo env i4=some v4)(h5:Sep.eo env i5=some v5)(h6:Sep.eo env i6=some v6)(h7:Sep.eo env i7=some v7):Eos env [i0,i1,i2,i3,i4,i5,i6,i7] [v0,v1,v2,v3,v4,v5,v6,v7] := .cons h0 (.cons h1 (.cons h2 (.cons h3 (.cons h4 (.cons h5 (.cons h6 (.cons h7 .nil)))))))
theorem Sel.s2{x0 x1:α}{L R1 R2:List α}(h0:Pick L x0 R1)(h1:Pick R1 x1 R2):Sel L [x0,x1] R2 := .cons h0 (.cons h1 .nil)
theorem Sel.s3{x0 x1 x2:α}{L R1 R2 R3:List α}(h0:Pick L x0 R1)(h1:Pick R1 x1 R2)(h2:Pick R2 x2 R3):Sel L [x0,x1,x2] R3 := .cons h0 (.cons h1 (.cons h2 .nil))
theorem Sel.s4{x0 x1 x2 x3:α}{L R1 R2 R3 R4:List α}(h0:Pick L x0 R1)(h1:Pick R1 x1 R2)(h2:Pick R2 x2 R3)(h3:Pick R3 x3 R4):Sel L [x0,x1,x2,x3] R4 := .cons h0 (.cons h1 (.cons h2 (.cons h3 .nil)))
theorem Sel.s5{x0 x1 x2 x3 x4:α}{L R1 R2 R3 R4 R5:List α}(h0:Pick L x0 R1)(h1:Pick R1 x1 R2)(h2:Pick R2 x2 R3)(h3:Pick R3 x3 R4)(h4:Pick R4 x4 R5):Sel L [x0,x1,x2,x3,x4] R5 := .cons h0 (.cons h1 (.cons h2 (.cons h3 (.cons h4 .nil))))
theorem Sel.s6{x0 x1 x2 x3 x4 x5:α}{L R1 R2 R3 R4 R5 R6:List α}(h0:Pick L x0 R1)(h1:Pick R1 x1 R2)(h2:Pick R2 x2 R3)(h3:Pick R3 x3 R4)(h4:Pick R4 x4 R5)(h5:Pick R5 x5 R6):Sel L [x0,x1,x2,x3,x4,x5] R6 := .cons h0 (.cons h1 (.cons h2 (.cons h3 (.cons h4 (.cons h5 .nil)))))
theorem Sel.s7{x0 x1 x2 x3 x4 x5 x6:α}{L R1 R2 R3 R4 R5 R6 R7:List α}(h0:Pick L x0 R1)(h1:Pick R1 x1 R2)(h2:Pick R2 x2 R3)(h3:Pick R3 x3 R4)(h4:Pick R4 x4 R5)(h5:Pick R5 x5 R6)(h6:Pick R6 x6 R7):Sel L [x0,x1,x2,x3,x4,x5,x6] R7 := .cons h0 (.cons h1 (.cons h2 (.cons h3 (.cons h4 (.cons h5 (.cons h6 .nil))))))
theorem Sel.s8{x0 x1 x2 x3 x4 x5 x6 x7:α}{L R1 R2 R3 R4 R5 R6 R7 R8:List α}(h0:Pick L x0 R1)(h1:Pick R1 x1 R2)(h2:Pick R2 x2 R3)(h3:Pick R3 x3 R4)(h4:Pick R4 x4 R5)(h5:Pick R5 x5 R6)(h6:Pick R6 x6 R7)(h7:Pick R7 x7 R8):Sel L [x0,x1,x2,x3,x4,x5,x6,x7] R8 := .cons h0 (.cons h1 (.cons h2 (.cons h3 (.cons h4 (.cons h5 (.cons h6 (.cons h7 .nil)))))))
theorem Sel.s9{x0 x1 x2 x3 x4 x5 x6 x7 x8:α}{L R1 R2 R3 R4 R5 R6 R7 R8 R9:List α}(h0:Pick L x0 R1)(h1:Pick R1 x1 R2)(h2:Pick R2 x2 R3)(h3:Pick R3 x3 R4)(h4:Pick R4 x4 R5)(h5:Pick R5 x5 R6)(h6:Pick R6 x6 R7)(h7:Pick R7 x7 R8)(h8:Pick R8 x8 R9):Sel L [x0,x1,x2,x3,x4,x5,x6,x7,x8] R9 := .cons h0 (.cons h1 (.cons h2 (.cons h3 (.cons h4 (.cons h5 (.cons h6 (.cons h7 (.cons h8 .nil))))))))
theorem Sel.s10{x0 x1 x2 x3 x4 x5 x6 x7 x8 x9:α}{L R1 R2 R3 R4 R5 R6 R7 R8 R9 DI:List α}(h0:Pick L x0 R1)(h1:Pick R1 x1 R2)(h2:Pick R2 x2 R3)(h3:Pick R3 x3 R4)(h4:Pick R4 x4 R5)(h5:Pick R5 x5 R6)(h6:Pick R6 x6 R7)(h7:Pick R7 x7 R8)(h8:Pick R8 x8 R9)(h9:Pick R9 x9 DI):Sel L [x0,x1,x2,x3,x4,x5,x6,x7,x8,x9] DI := .cons h0 (.cons h1 (.cons h2 (.cons h3 (.cons h4 (.cons h5 (.cons h6 (.cons h7 (.cons h8 (.cons h9 .nil)))))))))
theorem Sel.s11{x0 x1 x2 x3 x4 x5 x6 x7 x8 x9 zy:α}{L R1 R2 R3 R4 R5 R6 R7 R8 R9 DI R11:List α}(h0:Pick L x0 R1)(h1:Pick R1 x1 R2)(h2:Pick R2 x2 R3)(h3:Pick R3 x3 R4)(h4:Pick R4 x4 R5)(h5:Pick R5 x5 R6)(h6:Pick R6 x6 R7)(h7:Pick R7 x7 R8)(h8:Pick R8 x8 R9)(h9:Pick R9 x9 DI)(zW:Pick DI zy R11):Sel L [x0,x1,x2,x3,x4,x5,x6,x7,x8,x9,zy] R11 := .cons h0 (.cons h1 (.cons h2 (.cons h3 (.cons h4 (.cons h5 (.cons h6 (.cons h7 (.cons h8 (.cons h9 (.cons zW .nil))))))))))
theorem Sel.a2  {x0 x1 : α} {R : List α} : Sel (x0 :: x1 :: R) [x0, x1] R := .s2 .here .here
theorem Sel.a3  {x0 x1 x2 : α} {R : List α} : Sel (x0 :: x1 :: x2 :: R) [x0, x1, x2] R := .s3 .here .here .here
theorem Sel.a4  {x0 x1 x2 x3 : α} {R : List α} : Sel (x0 :: x1 :: x2 :: x3 :: R) [x0, x1, x2, x3] R := .s4 .here .here .here .here
theorem Sel.a5  {x0 x1 x2 x3 x4 : α} {R : List α} : Sel (x0 :: x1 :: x2 :: x3 :: x4 :: R) [x0, x1, x2, x3, x4] R := .s5 .here .here .here .here .here
theorem Sel.a6  {x0 x1 x2 x3 x4 x5 : α} {R : List α} : Sel (x0 :: x1 :: x2 :: x3 :: x4 :: x5 :: R) [x0, x1, x2, x3, x4, x5] R := .s6 .here .here .here .here .here .here
theorem Sel.a8  {x0 x1 x2 x3 x4 x5 x6 x7 : α} {R : List α} : Sel (x0 :: x1 :: x2 :: x3 :: x4 :: x5 :: x6 :: x7 :: R) [x0, x1, x2, x3, x4, x5, x6, x7] R := .s8 .here .here .here .here .here .here .here .here
theorem Sel.a9  {x0 x1 x2 x3 x4 x5 x6 x7 x8 : α} {R : List α} : Sel (x0 :: x1 :: x2 :: x3 :: x4 :: x5 :: x6 :: x7 :: x8 :: R) [x0, x1, x2, x3, x4, x5, x6, x7, x8] R := .s9 .here .here .here .here .here .here .here .here .here
theorem Sel.a10  {x0 x1 x2 x3 x4 x5 x6 x7 x8 x9 : α} {R : List α} : Sel (x0 :: x1 :: x2 :: x3 :: x4 :: x5 :: x6 :: x7 :: x8 :: x9 :: R) [x0, x1, x2, x3, x4, x5, x6, x7, x8, x9] R := .s10 .here .here .here .here .here .here .here .here .here .here
theorem Sel.a11  {x0 x1 x2 x3 x4 x5 x6 x7 x8 x9 zy : α} {R : List α} : Sel (x0 :: x1 :: x2 :: x3 :: x4 :: x5 :: x6 :: x7 :: x8 :: x9 :: zy :: R) [x0, x1, x2, x3, x4, x5, x6, x7, x8, x9, zy] R := .s11 .here .here .here .here .here .here .here .here .here .here .here
def puK (n:Nat)(eA:Array Oper):Nat->List Oper->List (Nat×Value)->Option (List Oper×List (Nat×Value))
 | 0,l,e=>some (l,e)
 | k+1,l,e=>match l with
  | []=>none
  | o::l=>(puE n eA e o).bind fun p=>puK n eA k l (p::e)
section
variable [Rnd] {P:Program}{n:Nat}{F:List Nat}{w₀:World}{env e':List (Nat×Value)}{L:List Asrt}{eA:Array Oper}{Q:Exit->Act->World->Prop}{l l':List Oper}
theorem puU:∀{k:Nat}{l:List Oper}{env:List (Nat×Value)},puK n eA k l env=some (l',e')->WL P n F w₀ eA Q l' e' L->WL P n F w₀ eA Q l env L
 | 0,_,_,h,k=>by cases h;exact k
 | _+1,[],_,h,_=>by cases h
 | j+1,o::l,env,h,k=>by
  rw[puK] at h
  cases hp:puE n eA env o with
  | none=>rw[hp] at h;cases h
  | some p=>
   rw[hp] at h
   exact La hp (puU (k:=j) h k)
theorem B0q{Q2:Exit->Act->World->Prop}(k:WL P n F w₀ l'.toArray (Exit.then (fun a w=>z.wpIn FN 0 P Q2 a w) Q2) l' env L):WC P n F w₀ Q2 (.seq (.region id l'.toArray false) z) env L:=WC.b (Ld (k))
theorem B1q{Q2:Exit->Act->World->Prop}(h:puK n l.toArray 1 l env=some (l',e'))(k:WL P n F w₀ l.toArray (Exit.then (fun a w=>z.wpIn FN 0 P Q2 a w) Q2) l' e' L):WC P n F w₀ Q2 (.seq (.region id l.toArray false) z) env L:=WC.b (Ld (puU (k:=1) h (k)))
theorem B1n{Q2:Exit->Act->World->Prop}(h:puK n l.toArray 1 l env=some ([],e'))(k:WC P n F w₀ Q2 z e' L):WC P n F w₀ Q2 (.seq (.region id l.toArray false) z) env L:=WC.b (Ld (puU (k:=1) h (WL.nil (Lb k))))
theorem B2q{Q2:Exit->Act->World->Prop}(h:puK n l.toArray 2 l env=some (l',e'))(k:WL P n F w₀ l.toArray (Exit.then (fun a w=>z.wpIn FN 0 P Q2 a w) Q2) l' e' L):WC P n F w₀ Q2 (.seq (.region id l.toArray false) z) env L:=WC.b (Ld (puU (k:=2) h (k)))
theorem B2n{Q2:Exit->Act->World->Prop}(h:puK n l.toArray 2 l env=some ([],e'))(k:WC P n F w₀ Q2 z e' L):WC P n F w₀ Q2 (.seq (.region id l.toArray false) z) env L:=WC.b (Ld (puU (k:=2) h (WL.nil (Lb k))))
theorem B3n{Q2:Exit->Act->World->Prop}(h:puK n l.toArray 3 l env=some ([],e'))(k:WC P n F w₀ Q2 z e' L):WC P n F w₀ Q2 (.seq (.region id l.toArray false) z) env L:=WC.b (Ld (puU (k:=3) h (WL.nil (Lb k))))
theorem B4n{Q2:Exit->Act->World->Prop}(h:puK n l.toArray 4 l env=some ([],e'))(k:WC P n F w₀ Q2 z e' L):WC P n F w₀ Q2 (.seq (.region id l.toArray false) z) env L:=WC.b (Ld (puU (k:=4) h (WL.nil (Lb k))))
theorem D1q{QQ:Exit->Act->World->Prop}(h:puK n l.toArray 1 l env=some (l',e'))(k:WL P n F w₀ l.toArray QQ l' e' L):WC P n F w₀ QQ (.region id l.toArray false) env L:=Ld (puU (k:=1) h (k))
theorem D2q{QQ:Exit->Act->World->Prop}(h:puK n l.toArray 2 l env=some (l',e'))(k:WL P n F w₀ l.toArray QQ l' e' L):WC P n F w₀ QQ (.region id l.toArray false) env L:=Ld (puU (k:=2) h (k))
theorem D3q{QQ:Exit->Act->World->Prop}(h:puK n l.toArray 3 l env=some (l',e'))(k:WL P n F w₀ l.toArray QQ l' e' L):WC P n F w₀ QQ (.region id l.toArray false) env L:=Ld (puU (k:=3) h (k))
theorem Q0n(k:WC P n F w₀ Q y env L):WL P n F w₀ eA (Exit.then (fun a w=>y.wpIn FN 0 P Q a w) Q) [] env L:=(WL.nil (Lb k))
theorem Q1n(h:puK n eA 1 l env=some ([],e'))(k:WC P n F w₀ Q y e' L):WL P n F w₀ eA (Exit.then (fun a w=>y.wpIn FN 0 P Q a w) Q) l env L:=puU (k:=1) h (WL.nil (Lb k))
theorem Q2q{QQ:Exit->Act->World->Prop}(h:puK n eA 2 l env=some (l',e'))(k:WL P n F w₀ eA QQ l' e' L):WL P n F w₀ eA QQ l env L:=puU (k:=2) h (k)
theorem Q2n(h:puK n eA 2 l env=some ([],e'))(k:WC P n F w₀ Q y e' L):WL P n F w₀ eA (Exit.then (fun a w=>y.wpIn FN 0 P Q a w) Q) l env L:=puU (k:=2) h (WL.nil (Lb k))
theorem Q5n(h:puK n eA 5 l env=some ([],e'))(k:WC P n F w₀ Q y e' L):WL P n F w₀ eA (Exit.then (fun a w=>y.wpIn FN 0 P Q a w) Q) l env L:=puU (k:=5) h (WL.nil (Lb k))
end
theorem Restr.q{env:List (Nat×Value)}:∀{l:List (Nat×Value)},l.map (fun p=>Sep.lk env p.1)=l.map (fun p=>some p.2)->Restr env l
 | [],_=>.nil
 | _::_,h=>by
  rw[List.map_cons,List.map_cons] at h
  injection h with a b
  exact .cons a (Restr.q b)
theorem Eos.q{env:List (Nat×Value)}:∀{os:List Operand}{ws:List Value},os.map (fun o=>Sep.eo env o)=ws.map some->Eos env os ws
 | [],[],_=>.nil
 | _::_,_::_,h=>by
  rw[List.map_cons,List.map_cons] at h
  injection h with a b
  exact .cons a (Eos.q b)
 | [],_::_,h=>by cases h
 | _::_,[],h=>by cases h
end
section
/-! ### keys that are structs or arrays of numbers -/
theorem bO{P:Program}{kt:TypeId}{κ:Type}[DecidableEq κ]{ek:κ->Value}(Da:∀ u v w,(Op.equal kt (ek u) (ek v)).run P w = .ok (decide (u=v)) w)(k:κ):
  ∀(es:List MapEntry) (ks:List κ) (i:Nat) (w:World),es.map (·.key)=ks.map ek->
   (Instr.findAsking kt (ek k) es i).run P w = .ok ((ks.findIdx? fun k'=>decide (k=k')).map fun j=>(i+j,((es[j]?).map (·.val)).getD undef)) w
 | [],[],i,w,_=>by simp[Instr.findAsking]
 | [],_::_,_,_,h=>by simp at h
 | _::_,[],_,_,h=>by simp at h
 | e::es,k'::ks,i,w,h=>by
  simp only[List.map_cons,List.cons.injEq] at h
  unfold Instr.findAsking
  rw[h.1]
  simp only[Sem.run_bind,Da,Result.andThen_ok,List.findIdx?_cons]
  by_cases hk:k=k'
  ·subst hk;simp
  ·simp only[hk,decide_false,Bool.false_eq_true,if_false]
   rw[bO Da k es ks (i+1) w h.2]
   cases ks.findIdx? (fun k'=>decide (k=k')) with
   | none=>rfl
   | some j=>simp;omega
theorem nv{P:Program}{kt:TypeId}{κ:Type}[DecidableEq κ]{enc:κ->List Value}{dd:TypeDesc}(hd:P.underlying kt=some dd)(hs:∀ a b,Instr.sameNow dd (.agg a) (.agg b)=none)(hchk:∀ b k w,(Instr.checkKey b 10000 kt (.agg (enc k).toArray)).run P w = .ok () w)(Da:∀ u v w,(Op.equal kt (.agg (enc u).toArray) (.agg (enc v).toArray)).run P w = .ok (decide (u=v)) w)(DJ:∀ k,Instr.sameBits 10000 (.agg (enc k).toArray) (.agg (enc k).toArray)=true):KeyT P kt (fun x => .agg (enc x).toArray) where
 chk:=hchk
 find k es ks w hk:=by
  unfold Instr.findKey
  simp only[Sem.run_bind,run_underlying hd,Result.andThen_ok]
  cases es with
  | nil=>cases ks with
   | nil=>simp[Instr.findNow]
   | cons=>simp at hk
  | cons e es=>cases ks with
   | nil=>simp at hk
   | cons k' ks=>
    have h0:Instr.findNow dd (.agg (enc k).toArray) (e::es) 0=none:=by
     unfold Instr.findNow
     simp only[List.map_cons,List.cons.injEq] at hk
     rw[hk.1,hs]
    rw[h0]
    have:=bO (P:=P) (kt:=kt) (ek:=fun x=>Value.agg (enc x).toArray) Da k (e::es) (k'::ks) 0 w hk
    simpa using this
 stays k w:=by simp[Instr.keyThatStays,DJ]
end
section
/-! ### maps of owned objects: the map holds pointers, the objects lie beside it -/
section qq
variable {κ β α γ:Type} [DecidableEq κ]
def rO(lg:List (κ×((Nat×β)×α))):List (κ×α):=lg.map fun p=>(p.1,p.2.2)
def sW(k:κ):List (κ×γ)->List (κ×γ)
 | []=>[]
 | p::l=>if k=p.1 then l else p::sW k l
def qq(els:Nat×β->α->List Asrt)(lg:List (κ×((Nat×β)×α))):Asrt:=vE (lg.flatMap fun p=>els p.2.1 p.2.2)
theorem Ys(k:κ)(v:γ):∀ lg:List (κ×γ),(xT lg k v).Perm ((k,v)::sW k lg)
 | [] => .refl _
 | p::l=>by
  unfold xT sW
  by_cases hk:k=p.1
  ·subst hk;simp only[if_true];exact .refl _
  ·simp only[hk,if_false]
   exact((Ys k v l).cons p).trans (.swap _ _ _)
theorem dl(k:κ):∀ lg:List (κ×γ),ji lg k=true->∃ v,(∀ d,xx lg k d=v)/\lg.Perm ((k,v)::sW k lg)
 | [],h=>by simp[ji] at h
 | p::l,h=>by
  unfold ji at h
  unfold sW
  by_cases hk:k=p.1
  ·subst hk;exact⟨p.2,fun d=>by simp[xx],by simp⟩
  ·simp only[hk,if_false] at h ⊢
   obtain⟨v,h1,h2⟩:=dl k l h
   exact⟨v,fun d=>by unfold xx;simp[hk,h1 d],(h2.cons p).trans (.swap _ _ _)⟩
theorem XC{lg:List (κ×((Nat×β)×α))}{l:List (κ×α)}(h:rO lg=l)(k:κ)(g:Nat×β)(x:α):rO (xT lg k (g,x))=xT l k x:=by
 subst h
 induction lg with
 | nil=>rfl
 | cons p l ih=>
  unfold rO at ih ⊢
  rw[List.map_cons]
  unfold xT
  by_cases hk:k=p.1
  ·simp[hk]
  ·simp only[hk,if_false,List.map_cons,ih]
theorem K6{lg:List (κ×((Nat×β)×α))}(k:κ)(d:α)(g:Nat×β):xx (rO lg) k d=(xx lg k (g,d)).2:=by
 induction lg with
 | nil=>rfl
 | cons p l ih=>unfold rO at ih ⊢;rw[List.map_cons];unfold xx;by_cases hk:k=p.1 <;> simp[hk,ih]
section hp
variable {F:List Nat} {w₀ w:World} {L R R':List Asrt} {els:Nat×β->α->List Asrt} {lg:List (κ×((Nat×β)×α))} {l:List (κ×α)}
theorem Hp.nY(els:Nat×β->α->List Asrt)(h:Hp F w₀ w L):Hp F w₀ w (qq (κ:=κ) els []::L):=Hp.pS (M:=[]) h
theorem dm{δ:Type}{f:δ->List Asrt}{a b:List δ}(h:a.Perm b):(a.flatMap f).Perm (b.flatMap f):=List.Perm.flatMap_right f h
theorem Hp.dp{k:κ}{b:Nat}{g:β}{x:α}(hs:Sel L (els (b,g) x++[qq els (sW k lg)]) R)(h:Hp F w₀ w L):Hp F w₀ w (qq els (xT lg k ((b,g),x))::R):=by
 have h1:=(h.selAll hs).open_
 have h2:Hp F w₀ w (qq els (sW k lg)::(els (b,g) x++R)):=h1.perm (by
  rw[List.append_assoc];exact List.perm_middle)
 have h3:=Hp.open_ h2
 refine Hp.pS (h3.perm ?_)
 refine List.Perm.trans ?_ ((dm (f:=fun p:κ×((Nat×β)×α)=>els p.2.1 p.2.2) (Ys k ((b,g),x) lg).symm).append_right R)
 rw[List.flatMap_cons,List.append_assoc]
 rw[<- List.append_assoc,<- List.append_assoc]
 exact List.perm_append_comm.append_right R
end hp
end qq
theorem dq{κ γ:Type}[DecidableEq κ]{k:κ}{v d:γ}:∀ {l:List (κ×γ)},ji l k=true->xx l k d=v->xT l k v=l
 | [],h,_=>by simp[ji] at h
 | p::l,h,hv=>by
  unfold ji at h
  unfold xx at hv
  unfold xT
  by_cases hk:k=p.1
  ·subst hk;simp only[if_true] at hv ⊢;subst hv;rfl
  ·simp only[hk,if_false] at h hv ⊢;rw[dq h hv]
theorem Hp.XD{κ α:Type}{F:List Nat}{w₀ w:World}{L R:List Asrt}{b:Nat}{ek:κ->Value}{ev:α->Value}{l l':List (κ×α)}(hm:Pick L (xB b ek ev l) R)(he:l=l')(h:Hp F w₀ w L):Hp F w₀ w (xB b ek ev l'::R):=by
 subst he;exact h.front hm
section gh
variable [Rnd]
variable {P:Program} {n:Nat} {F:List Nat} {w₀:World} {env:List (Nat×Value)} {L R:List Asrt} {eA:Array Oper} {Q:Exit->Act->World->Prop} {l:List Oper} {G:Type} {φ:G->Prop} {L':G->List Asrt} {M:List Asrt}
theorem WL.gh(h:∀ w,Hp F w₀ w L->∃ g,φ g/\Hp F w₀ w (L' g))(k:∀ g,φ g->WL P n F w₀ eA Q l env (L' g)):WL P n F w₀ eA Q l env L:=fun a w hs=>by
 obtain⟨g,h1,h2⟩:=h w hs.hp;exact k g h1 a w (hs.world h2)
theorem WL.ghL(h:∀ w,Hp F w₀ w L->Hp F w₀ w M)(k:WL P n F w₀ eA Q l env M):WL P n F w₀ eA Q l env L:=fun a w hs=>k a w (hs.world (h w hs.hp))
theorem WC.ghL{c:Code}(h:∀ w,Hp F w₀ w L->Hp F w₀ w M)(k:WC P n F w₀ Q c env M):WC P n F w₀ Q c env L:=fun a w hs=>k a w (hs.world (h w hs.hp))
theorem WX.ghL{e:Exit}(h:∀ w,Hp F w₀ w L->Hp F w₀ w M)(k:WX n F w₀ Q e env M):WX n F w₀ Q e env L:=fun a w hs=>k a w (hs.world (h w hs.hp))
variable {tl:Nat->Bool} {Ls:List Asrt} {fuel:Nat} {listed:Array Bool} {QD:Act->World->Prop}
theorem WD.gh(h:∀ w,Hp F w₀ w L->∃ g,φ g/\Hp F w₀ w (L' g))(k:∀ g,φ g->WD P n F w₀ eA tl Ls QD fuel listed env (L' g)):WD P n F w₀ eA tl Ls QD fuel listed env L:=fun a w hs=>by
 obtain⟨g,h1,h2⟩:=h w hs.hp;exact k g h1 a w (hs.world h2)
theorem WD.ghL(h:∀ w,Hp F w₀ w L->Hp F w₀ w M)(k:WD P n F w₀ eA tl Ls QD fuel listed env M):WD P n F w₀ eA tl Ls QD fuel listed env L:=fun a w hs=>k a w (hs.world (h w hs.hp))
end gh
/-! ### interface values -/
section ifc
variable [Rnd]
variable {P:Program} {n:Nat} {F:List Nat} {w₀:World} {env:List (Nat×Value)} {L R:List Asrt} {d:Option Tmp} {ty:TypeId} {pos:String} {after:Array Edge} {g:Option (Nat×Bool)} {x y:Operand} {v:Value} {t e T:TypeId}
end ifc
end
section
variable {s:Nat}
/-! ### 'm[k] op= v': the entry is made sure of, and stored to by its stamp -/
section ent
variable {κ α:Type} [DecidableEq κ]
def XE(b:Nat)(ek:κ->Value)(ev:α->Value)(l:List (κ×α))(k:κ)(s:Nat):Asrt where
 fp:=[b]
 ok w:=∃ es iw i e,w.heap[b]?=some (.map es iw)/\es.toList.map (fun e=>(e.key,e.val))=l.map (fun p=>(ek p.1,ev p.2))/\uJ es iw/\
  ((l.map (·.1)).findIdx? fun k'=>decide (k=k'))=some i/\es[i]?=some e/\e.born=s
 loc w w' h hl hk:=by
  obtain⟨es,iw,i,e,h1,h2⟩:=hk
  exact⟨es,iw,i,e,by rw[h b (by simp) (hl b (by simp))];exact h1,h2⟩
variable [Rnd]
variable {P:Program} {n:Nat} {F:List Nat} {w₀:World} {env:List (Nat×Value)} {L R:List Asrt} {d:Option Tmp} {ty:TypeId} {pos:String} {after:Array Edge} {g:Option (Nat×Bool)} {x y z:Operand} {t kt e:TypeId}
 {ek:κ->Value} {ev:α->Value} {l:List (κ×α)} {b:Nat} {k:κ} {v dflt:α} {zv:Value}
theorem Hp.setMapG{w:World}{X Y:Asrt}{o:Obj}(h:Hp F w₀ w L)(hm:Pick L X R)(hX:X.fp=[b])(hY:Y.fp=[b])(zk:∀ w',w'.heap[b]?=some o->Y.ok w'):
  Hp F w₀ { w with heap:=w.heap.setIfInBounds b o } (Y::R):=by
 have mO:b<w.heap.size:=(h.front hm).lt _ (List.mem_cons_self ..) b (by simp[hX])
 refine(h.front hm).upd (x:=X) (y:=Y) .here rfl ⟨rfl,Nat.le_refl _⟩ rfl (by simp) (fun k _ Aj=>?_) (zk _ (by simp[mO])) ?_
 ·have:b≠k:=fun e=>Aj (by simp[hX,e])
  simp[Array.getElem?_setIfInBounds,this]
 ·intro b' hb'
  rw[hY] at hb'
  simp only[List.mem_singleton] at hb'
  subst hb'
  exact⟨by simpa using mO,.inl (by simp[hX])⟩
theorem Yt{γ:Type}{k:κ}{u v:γ}:∀ {l:List (κ×γ)},xT (xT l k u) k v=xT l k v
 | []=>by simp[xT]
 | p::l=>by
  by_cases hk:k=p.1
  ·subst hk;simp[xT]
  ·simp only[xT,hk,if_false];rw[Yt]
theorem eZ{k:κ}:∀ {l:List κ},(l.findIdx? fun k'=>decide (k=k'))=none->((l++[k]).findIdx? fun k'=>decide (k=k'))=some l.length
 | [],_=>by simp
 | a::l,h=>by
  rw[List.findIdx?_cons] at h
  rw[List.cons_append,List.findIdx?_cons]
  by_cases hk:k=a
  ·subst hk;simp at h
  ·simp only[hk,decide_false,Bool.false_eq_true,if_false,Option.map_eq_none_iff] at h ⊢
   rw[eZ h];rfl
theorem Qg(K:KeyT P kt ek)(ht:P.underlying t=some (.map kt e))(hz:qB P e zv)(hd:zv=ev dflt)(hx:eo env x=some (.map (some b)))(hy:eo env y=some (ek k))(hm:Pick L (xB b ek ev l) R):
  Ef P n F w₀ env L ⟨d,.mapEntry t x y,ty,pos,after,g⟩ (fun _:Nat=>True) (fun s => .tuple #[ev (xx l k dflt),.int .i64 ((s:Nat):Int)]) (fun s=>XE b ek ev (xT l k (xx l k dflt)) k s::R):=by
 intro a w h
 obtain⟨es,iw,hb,he,lJ⟩:=h.hp.ok _ hm.mem
 have h1:=K.find k es.toList (l.map (·.1)) w (oX he)
 have h2:=pT (ek:=ek) (ev:=ev) (k:=k) (d:=dflt) l es.toList he
 have h3:=di (k:=k) l
 have CH:=congrFun hz w
 cases hf:(l.map (·.1)).findIdx? (fun k'=>decide (k=k')) with
 | none=>
  rw[hf] at h1 h2 h3
  simp only[Option.map_none] at h1 h2
  refine⟨iw,{ w with heap:=w.heap.setIfInBounds b (.map (es.push { key:=ek k,val:=ev dflt,born:=iw }) (iw+1)) },?_,trivial,?_⟩
  ·simp[execOp,h.eval hx,h.eval hy,Instr.mapEntry,Sem.run_bind,run_underlying ht,Result.andThen,MapKept.run_getObj_map hb,K.chk,h1,CH,hd,MapKept.run_setObj_map _ hb,goInt,<- h2]
  ·refine h.hp.setMapG (X:=xB b ek ev l) hm rfl rfl (fun w' mT=>⟨_,_,l.length,{ key:=ek k,val:=ev dflt,born:=iw },mT,?_,lJ.push _ _,?_,?_,rfl⟩)
   ·rw[pV l hf]
    have:ev (xx l k dflt)=ev dflt:=h2.symm
    simp[he,this]
   ·rw[pV l hf,List.map_append]
    simpa using eZ hf
   ·have hl:es.size=l.length:=by have:=congrArg List.length he;simpa using this
    rw[<- hl];simp
 | some i=>
  rw[hf] at h1 h2 h3
  obtain⟨i1,i2,i3⟩:=pU (v:=xx l k dflt) l es.toList i he hf
  have Dy:i<es.size:=by simpa using i1
  have e0:es[i]?=some es[i]:=Array.getElem?_eq_getElem Dy
  have Bb:es[i].key=ek k:=by
   rw[Array.getElem?_toList,e0] at i2;simpa using i2
  have zZ:es[i].val=ev (xx l k dflt):=by
   simp only[Option.map_some] at h2
   rw[Array.getElem?_toList,e0] at h2;simpa using h2
  refine⟨es[i].born,{ w with heap:=w.heap.setIfInBounds b (.map (es.modify i fun e=>{ e with key:=ek k }) iw) },?_,trivial,?_⟩
  ·simp[execOp,h.eval hx,h.eval hy,Instr.mapEntry,Sem.run_bind,run_underlying ht,Result.andThen,MapKept.run_getObj_map hb,K.chk,h1,e0,Bb,K.stays,MapKept.run_setObj_map _ hb,goInt,zZ]
  ·have hmod:(es.modify i fun e=>{ e with key:=ek k })=es:=by
    apply Array.ext_getElem?
    intro j
    rw[Array.getElem?_modify]
    by_cases zK:i=j
    ·subst zK;rw[e0];simp[<- Bb]
    ·simp[zK]
   have hs:xT l k (xx l k dflt)=l:=dq (d:=dflt) (by rw[<- h3];rfl) rfl
   rw[hmod,hs]
   exact h.hp.setMapG (X:=xB b ek ev l) hm rfl rfl (fun w' mT=>⟨es,iw,i,es[i],mT,he,lJ,hf,e0,rfl⟩)
theorem QX{es:Array MapEntry}{i:Nat}{e0:MapEntry}(hn:(es.toList.map (·.born)).Nodup)(h:es[i]?=some e0):es.findIdx? (fun e=>((e.born:Nat):Int) == ((e0.born:Nat):Int))=some i:=by
 rw[Array.findIdx?_eq_some_iff_getElem]
 obtain⟨hi,h1⟩:=Array.getElem?_eq_some_iff.1 h
 refine⟨hi,by simp[h1],?_⟩
 intro j hj
 simp only[beq_iff_eq]
 intro hc
 have ul:j<es.size:=by omega
 have Db:es[j].born=e0.born:=Int.ofNat.inj hc
 have h2:=(List.pairwise_iff_getElem.1 hn) j i (by simpa using ul) (by simpa using hi) hj
 apply h2
 simp[Db,h1]
theorem XF{vv:Value}(hx:eo env x=some (.map (some b)))(hy:eo env y=some (.int .i64 ((s:Nat):Int)))(hv:eo env z=some vv)(CI:vv=ev v)(hm:Pick L (XE b ek ev l k s) R):
  d6 P n F w₀ env L ⟨none,.entryStore t x y z,ty,pos,after,g⟩ (xB b ek ev (xT l k v)::R):=by
 intro a w h
 subst CI
 obtain⟨es,iw,i,e0,hb,he,lJ,hf,hi,rfl⟩:=h.hp.ok _ hm.mem
 have hfi:=QX lJ.2 hi
 obtain⟨i1,i2,i3⟩:=pU (v:=v) l es.toList i he hf
 have Bb:e0.key=ek k:=by rw[Array.getElem?_toList,hi] at i2;simpa using i2
 refine⟨{ w with heap:=w.heap.setIfInBounds b (.map (es.modify i fun e=>{ e with val:=ev v }) iw) },.inl ?_,?_⟩
 ·simp[execOp,h.eval hx,h.eval hy,h.eval hv,Instr.entryStore,Sem.run_bind,Result.andThen,MapKept.run_getObj_map hb,asInt,asIntOf,hfi,MapKept.run_setObj_map _ hb]
 ·refine h.hp.setMapG (X:=XE b ek ev l k e0.born) hm rfl rfl (fun w' mT=>⟨_,_,mT,?_,lJ.modify _ _ (fun _=>rfl)⟩)
  rw[<- i3,Array.toList_modify]
  apply List.ext_getElem?
  intro j
  simp only[List.getElem?_map,List.getElem?_modify]
  by_cases zK:i=j
  ·subst zK
   rw[Array.getElem?_toList,hi]
   simp[Bb]
  ·simp[zK]
theorem X0{vv:Value}{u:α}(hx:eo env x=some (.map (some b)))(hy:eo env y=some (.int .i64 ((s:Nat):Int)))(hv:eo env z=some vv)(CI:vv=ev v)(hm:Pick L (XE b ek ev (xT l k u) k s) R):
  d6 P n F w₀ env L ⟨none,.entryStore t x y z,ty,pos,after,g⟩ (xB b ek ev (xT l k v)::R):=by
 have:=XF (P:=P) (n:=n) (F:=F) (w₀:=w₀) (L:=L) (env:=env) (t:=t) (ty:=ty) (pos:=pos) (after:=after) (g:=g) (v:=v) hx hy hv CI hm
 rwa [Yt] at this
def nZ(b:Nat)(ek:κ->Value)(ev:α->Value)(k:κ)(d v:α):Asrt where
 fp:=[b]
 ok w:=∃ l,(xB b ek ev l).ok w/\xx l k d=v
 loc w w' h hl hk:=by
  obtain⟨l,h1,h2⟩:=hk
  exact⟨l,(xB b ek ev l).loc w w' h hl h1,h2⟩
theorem sr{w:World}{d:α}(h:(xB b ek ev l).ok w):(nZ b ek ev k d (xx l k d)).ok w:=⟨l,h,rfl⟩
theorem Yu{γ:Type}{k:κ}{u d:γ}:∀ {l:List (κ×γ)},xx (xT l k u) k d=u
 | []=>by simp[xT,xx]
 | p::l=>by
  by_cases hk:k=p.1
  ·subst hk;simp[xT,xx]
  ·simp only[xT,hk,if_false,xx];exact Yu
theorem QY{w:World}{d:α}(h:(XE b ek ev (xT l k (xx l k d)) k s).ok w):(nZ b ek ev k d (xx l k d)).ok w:=by
 obtain⟨es,iw,i,e,h1,h2,h3,_⟩:=h
 exact⟨_,⟨es,iw,h1,h2,h3⟩,Yu⟩
theorem Yv{u:α}(K:KeyT P kt ek)(ht:P.underlying t=some (.map kt e))(hz:qB P e zv)(hd:zv=ev dflt)(hx:eo env x=some (.map (some b)))(hy:eo env y=some (ek k))(hm:Pick L (nZ b ek ev k dflt u) R):
  Qt P n F w₀ env L ⟨d,.lookup t x y false,ty,pos,after,g⟩ (ev u):=by
 intro a w h
 obtain⟨l,h1,h2⟩:=h.hp.ok _ hm.mem
 have zU:=h.hp.front hm
 have h3:Hp F w₀ w (xB b ek ev l::R):=by
  refine⟨zU.os,zU.tape,zU.output,zU.size,zU.block,fun y hy=>?_,fun y hy c hc=>?_,fun y hy c hc=>?_,List.pairwise_cons.2 (List.pairwise_cons.1 zU.sep)⟩
  ·rcases List.mem_cons.1 hy with rfl | hy
   ·exact h1
   ·exact zU.ok y (List.mem_cons_of_mem _ hy)
  ·rcases List.mem_cons.1 hy with rfl | hy
   ·exact zU.lt _ (List.mem_cons_self ..) c hc
   ·exact zU.lt y (List.mem_cons_of_mem _ hy) c hc
  ·rcases List.mem_cons.1 hy with rfl | hy
   ·exact zU.ow _ (List.mem_cons_self ..) c hc
   ·exact zU.ow y (List.mem_cons_of_mem _ hy) c hc
 subst h2
 exact j8 K ht hz hd hx hy .here a w (h.world h3)
end ent
theorem WD.oldQ[Rnd]{P:Program}{n dd:Nat}{F:List Nat}{w₀:World}{env:List (Nat×Value)}{L:List Asrt}{eA:Array Oper}{G:Type}{φ:G->Prop}{val:G->Value}{L':G->List Asrt}{o:Oper}{tl:Nat->Bool}{Ls:List Asrt}{fuel:Nat}{listed:Array Bool}{QD:Act->World->Prop}{i:Nat}(hi:eA[i]?=some o)(hr:Region.ready .any eA listed=[i])(hg:gd env eA o=some true)(hd:o.dst=some dd)(kS:Nat.blt dd n=true)(ht:tl i=true)(hq:Ef P n F w₀ env L o φ val L')(lJ:∀ g,wB (L' g) Ls)(k:∀ g,φ g->WD P n F w₀ eA tl Ls QD fuel (listed.setIfInBounds i true) ((dd,val g)::env) (L' g)):WD P n F w₀ eA tl Ls QD (fuel+1) listed env L:=
 WD.old hi hr hg hd kS ht lJ hq k
section app
variable [Rnd] {F:List Nat} {w₀:World} {L:List Asrt} {Z:Zp}
theorem RR.oc{α:Type}{Pr:List Value->α->Prop}{sz:Nat}{cs:List Value}{l:List α}(h:RR sz Pr cs l)(hP:∀ r x,Pr r x->∀ u∈r,u.oneCell'=true):∀ u∈cs,u.oneCell'=true:=by
 obtain⟨rows,h1,h2,h3,h4⟩:=h
 intro u hu
 rw[<- h1] at hu
 obtain⟨r,hr,hur⟩:=List.mem_flatten.1 hu
 obtain⟨i,hi,rfl⟩:=List.getElem_of_mem hr
 exact hP _ _ (h4 i rows[i] (l[i]'(by omega)) (List.getElem?_eq_getElem hi) (List.getElem?_eq_getElem (by omega))) u hur
end app
end
section
/-! ### a range over a map -/
def ss(es:List MapEntry)(seen:Array Nat):List MapEntry:=es.filter fun e => !seen.contains e.born
theorem bP{α β:Type}(f:α->β)(l:List α)(i:Nat):(l.eraseIdx i).map f=(l.map f).eraseIdx i:=by
 simp only[List.eraseIdx_eq_take_drop_succ,List.map_append,List.map_take,List.map_drop]
theorem V2{l:List MapEntry}{i:Nat}{e:MapEntry}(hn:(l.map (·.born)).Nodup)(h:l[i]?=some e):l.filter (fun q=>q.born != e.born)=l.eraseIdx i:=by
 induction l generalizing i with
 | nil=>simp at h
 | cons a t ih=>
  simp only[List.map_cons,List.nodup_cons,List.mem_map,not_exists,not_and] at hn
  cases i with
  | zero=>
   simp only[List.getElem?_cons_zero,Option.some.injEq] at h
   subst h
   rw[List.filter_cons_of_neg (by simp),List.eraseIdx_cons_zero]
   exact List.filter_eq_self.2 fun q hq=>bne_iff_ne.2 (hn.1 q hq)
  | succ i=>
   rw[List.getElem?_cons_succ] at h
   have hm:e∈t:=List.mem_of_getElem? h
   rw[List.filter_cons_of_pos (by simpa using fun hc=>hn.1 e hm hc.symm),ih hn.2 h,List.eraseIdx_cons_succ]
theorem V3{es:List MapEntry}{seen:Array Nat}{i:Nat}{e:MapEntry}(hn:(es.map (·.born)).Nodup)(h:(ss es seen)[i]?=some e):ss es (seen.push e.born)=(ss es seen).eraseIdx i:=by
 rw[<- V2 (l:=ss es seen) (i:=i) (List.Sublist.nodup (List.Sublist.map _ List.filter_sublist) hn) h]
 unfold ss
 rw[List.filter_filter]
 congr 1;funext q
 rw[Array.contains_push,Bool.not_or,Bool.and_comm]
 simp[bne,Bool.beq_comm,BEq.comm]
theorem QZ{l:List MapEntry}{e:MapEntry}(hn:(l.map (·.born)).Nodup)(h:e∈l):l.find? (fun x=>x.born == e.born)=some e:=by
 induction l with
 | nil=>simp at h
 | cons a t ih=>
  simp only[List.map_cons,List.nodup_cons,List.mem_map,not_exists,not_and] at hn
  rcases List.mem_cons.1 h with rfl | h
  ·simp
  ·rw[List.find?_cons_of_neg (by simpa using fun hc=>hn.1 e h hc.symm)];exact ih hn.2 h
section
variable {κ α:Type}
def uK(r b:Nat)(ek:κ->Value)(ev:α->Value)(l rem:List (κ×α))(lL:Option (κ×α)):Asrt where
 fp:=[r,b]
 ok w:=r≠b/\∃ es iw seen,w.heap[b]?=some (.map es iw)/\es.toList.map (fun e=>(e.key,e.val))=l.map (fun p=>(ek p.1,ev p.2))/\uJ es iw/\w.heap[r]?=some (.mapIter (some b) iw seen iw)/\
  (ss es.toList seen).map (fun e=>(e.key,e.val))=rem.map (fun p=>(ek p.1,ev p.2))/\
  ∀ c,lL=some c->∃ s e,seen.back?=some s/\es.find? (fun x=>x.born == s)=some e/\e.key=ek c.1/\e.val=ev c.2
 loc w w' h hl hk:=by
  obtain⟨h0,es,iw,seen,h1,h2,h3,h4,h5⟩:=hk
  exact⟨h0,es,iw,seen,by rw[h b (by simp) (hl b (by simp))];exact h1,h2,h3,by rw[h r (by simp) (hl r (by simp))];exact h4,h5⟩
end
section
variable [Rnd]
variable {P:Program} {n:Nat} {F:List Nat} {w₀:World} {env:List (Nat×Value)} {L R:List Asrt} {d:Option Tmp} {ty:TypeId} {pos:String} {after:Array Edge} {g:Option (Nat×Bool)} {x y z:Operand} {t kt e:TypeId}
 {κ α:Type} {ek:κ->Value} {ev:α->Value} {l rem:List (κ×α)} {lL:Option (κ×α)} {r b:Nat}
theorem G6(ht:P.underlying t=some (.map kt e))(hx:eo env x=some (.map (some b)))(hm:Pick L (xB b ek ev l) R):
  Ef P n F w₀ env L ⟨d,.range t x,ty,pos,after,g⟩ (fun _:Nat=>True) (fun r => .pointer (some ⟨r,0,none⟩)) (fun r=>uK r b ek ev l l none::R):=by
 intro a w h
 obtain⟨es,iw,hb,he,lJ⟩:=h.hp.ok _ hm.mem
 have Ba:b<w.heap.size:=(h.hp.front hm).lt _ (List.mem_cons_self ..) b (by simp[xB])
 refine⟨w.heap.size,w.alloc (.mapIter (some b) iw #[] iw),?_,trivial,?_⟩
 ·simp[execOp,h.eval hx,Instr.range,Sem.run_bind,run_underlying ht,Result.andThen,MapKept.run_getObj_map hb]
 ·have h1:=(h.hp.front hm).alloc (.mapIter (some b) iw #[] iw)
  have hA:=Ext.alloc w (.mapIter (some b) iw #[] iw)
  refine(h.hp.front hm).upd (x:=xB b ek ev l) (y:=uK w.heap.size b ek ev l l none) .here hA.os hA.tape hA.output hA.size (fun k hk _=>hA.block k hk) ⟨by omega,es,iw,#[],?_,he,lJ,?_,?_,by simp⟩ ?_
  ·rw[hA.block b Ba];exact hb
  ·exact heap_alloc_new w _
  ·unfold ss;rw[List.filter_eq_self.2 (by simp)];exact he
  ·intro q hq
   simp only[uK,List.mem_cons,List.not_mem_nil,or_false] at hq
   rcases hq with rfl | rfl
   ·exact⟨by simp,.inr (Nat.le_refl _)⟩
   ·exact⟨Nat.lt_of_lt_of_le Ba hA.size,.inl (by simp[xB])⟩
theorem aa{w:World}{m:Nat}(hm:0<m):∃ i N,i<m/\w.drawn<=N/\(Go.choose (.mapNext m)).run P w = .ok i { w with drawn:=N }:=by
 by_cases h:m<=1
 ·exact⟨0,w.drawn,by omega,Nat.le_refl _,by simp[Go.choose,Sem.run,Question.forced,h]⟩
 ·exact⟨w.tape w.drawn (.mapNext m) % m,w.drawn+1,Nat.mod_lt _ hm,Nat.le_succ _,by simp[-run_choose_drew,Go.choose,Sem.run,Question.forced,h,Question.cut]⟩
theorem G7(hx:eo env x=some (.pointer (some ⟨r,0,none⟩)))(hm:Pick L (uK r b ek ev l rem lL) R):
  Ef P n F w₀ env L ⟨d,.next x false,ty,pos,after,g⟩ (fun o:Option (Nat×(κ×α))=>match o with | none=>rem=[] | some p=>rem[p.1]?=some p.2)
   (fun o=>match o with | none => .tuple #[.bool false] | some p => .tuple #[.bool true,ek p.2.1,ev p.2.2])
   (fun o=>match o with | none=>uK r b ek ev l [] lL::R | some p=>uK r b ek ev l (rem.eraseIdx p.1) (some p.2)::R):=by
 intro a w h
 obtain⟨hrb,es,iw,seen,hb,he,lJ,hr,hl,hc⟩:=h.hp.ok _ hm.mem
 have Ay:r<w.heap.size:=(h.hp.front hm).lt _ (List.mem_cons_self ..) r (by simp[uK])
 have Ba:b<w.heap.size:=(h.hp.front hm).lt _ (List.mem_cons_self ..) b (by simp[uK])
 have Cp:(getObj r).run P w = .ok (.mapIter (some b) iw seen iw) w:=by simp[getObj,Sem.run,hr]
 have Dc:=MapKept.run_getObj_map (P:=P) hb
 have hu:(!seen.isEmpty && !es.isEmpty&&es.all (fun q=>decide (q.born>=iw)))=false:=by
  by_cases h0:es.isEmpty=true
  ·simp[h0]
  ·have:es.all (fun q=>decide (q.born>=iw))=false:=by
    rw[Bool.eq_false_iff]
    intro Db
    rw[Array.all_eq_true_iff_forall_mem] at Db
    have hs:0<es.size:=by
     rw[Array.isEmpty_iff_size_eq_zero] at h0;omega
    have h1:=of_decide_eq_true (Db es[0] (Array.getElem_mem hs))
    have h2:=lJ.1 es[0] (by simp)
    omega
   simp[this]
 have hL:(es.filter fun q => !seen.contains q.born).toList=ss es.toList seen:=by unfold ss;rw[Array.toList_filter]
 have DK:(es.filter fun q => !seen.contains q.born).filter (fun q=>decide (q.born<iw))=es.filter fun q => !seen.contains q.born:=by
  apply Array.ext'
  rw[Array.toList_filter,List.filter_eq_self]
  intro q hq
  rw[hL] at hq
  exact decide_eq_true (lJ.1 q (List.mem_filter.1 hq).1)
 have xZ:(es.filter fun q => !seen.contains q.born).filter (fun q=>decide (q.born>=iw)) = #[]:=by
  apply Array.ext'
  rw[Array.toList_filter,Array.toList_empty,List.filter_eq_nil_iff]
  intro q hq
  rw[hL] at hq
  have:=lJ.1 q (List.mem_filter.1 hq).1
  simp;omega
 have iS:rem.length=(ss es.toList seen).length:=by simpa using (congrArg List.length hl).symm
 have hg3:∀ o N,(setObj r o).run P { w with drawn:=N } = .ok () ({ w with drawn:=N }.putObj r o):=fun o N=>by
  simp[setObj,Sem.run,hr,World.putObj]
 generalize hLe:(es.filter fun q => !seen.contains q.born)=left at hL DK xZ
 have hrl':rem.length=left.size:=by rw[iS,<- hL];simp
 have hl':=hl
 rw[<- hL] at hl
 by_cases h0:left.size=0
 ·have DB:left = #[]:=Array.eq_empty_of_size_eq_zero h0
  obtain rfl:rem=[]:=List.eq_nil_of_length_eq_zero (by omega)
  obtain⟨i,N,hi,hN,iB⟩:=aa (P:=P) (w:=w) Nat.one_pos
  obtain rfl:i=0:=by omega
  refine⟨none,{ w with drawn:=N },?_,rfl,(h.hp.front hm).ext (Ext.nn w N hN)⟩
  ·simp only[execOp,h.eval hx,Instr.next,Sem.run_bind,Cp,Dc,Result.andThen,hu,hLe,DB,Bool.false_eq_true,if_false,Array.filter_empty,Array.isEmpty_empty,if_true,Array.append_empty,Array.map_empty]
   simp[-run_choose_drew,iB,Sem.run_bind,Result.andThen,Sem.run,pure]
 ·obtain⟨i,N,hi,hN,iB⟩:=aa (P:=P) (w:=w) (m:=left.size) (by omega)
  have BV:i<rem.length:=by omega
  have hE:=h.hp.ext (Ext.nn w N hN)
  have DN:=congrArg (fun z=>z[i]?) hl
  simp only[List.getElem?_map,Array.getElem?_toList,List.getElem?_eq_getElem BV,Array.getElem?_eq_getElem hi,Option.map_some,Option.some.injEq,Prod.mk.injEq] at DN
  have DP:(left.filter fun q=>decide (q.born<iw))=left:=DK
  have ov:left.isEmpty=false:=by rw[Bool.eq_false_iff];intro hc;exact h0 (Array.isEmpty_iff_size_eq_zero.1 hc)
  refine⟨some (i,rem[i]),{ w with drawn:=N }.putObj r (.mapIter (some b) iw (seen.push left[i].born) iw),?_,List.getElem?_eq_getElem BV,?_⟩
  ·simp only[execOp,h.eval hx,Instr.next,Sem.run_bind,Cp,Dc,Result.andThen,hu,hLe,DP,xZ]
   simp[-run_choose_drew,iB,Sem.run_bind,Result.andThen,Sem.run,pure,ov,hg3,hi,DN.1,DN.2]
  ·have CJ:(ss es.toList seen)[i]?=some left[i]:=by rw[<- hL,Array.getElem?_toList,Array.getElem?_eq_getElem hi]
   have hme:left[i]∈es.toList:=(List.mem_filter.1 (List.mem_of_getElem? CJ)).1
   refine(hE.front hm).upd (x:=uK r b ek ev l rem lL) (y:=uK r b ek ev l (rem.eraseIdx i) (some rem[i])) (w':={ w with drawn:=N }.putObj r (.mapIter (some b) iw (seen.push left[i].born) iw)) .here rfl ⟨rfl,Nat.le_refl _⟩ rfl (by rw[World.putObj_size];exact Nat.le_refl _) (fun k _ hk=>World.putObj_heap_other fun hc=>hk (by simp[uK,hc])) ⟨hrb,es,iw,seen.push left[i].born,?_,he,lJ,World.putObj_heap_same Ay,?_,?_⟩ fun q hq=>⟨by rw[World.putObj_size];simp only[uK,List.mem_cons,List.not_mem_nil,or_false] at hq;rcases hq with rfl | rfl <;> assumption,.inl hq⟩
   ·rw[World.putObj_heap_other (Ne.symm hrb)];exact hb
   ·rw[V3 lJ.2 CJ,bP,hl',bP]
   ·rintro c Db
    obtain rfl:rem[i]=c:=oJ Db
    refine⟨left[i].born,left[i],by simp,?_,DN.1,DN.2⟩
    rw[<- Array.find?_toList];exact QZ lJ.2 hme
theorem G8{c:κ×α}(hx:eo env x=some (.pointer (some ⟨r,0,none⟩)))(hm:Pick L (uK r b ek ev l rem (some c)) R):
  Qt P n F w₀ env L ⟨d,.entry x,ty,pos,after,g⟩ (.tuple #[ek c.1,ev c.2]):=by
 intro a w h
 obtain⟨hrb,es,iw,seen,hb,he,lJ,hr,hl,hc⟩:=h.hp.ok _ hm.mem
 have Cp:(getObj r).run P w = .ok (.mapIter (some b) iw seen iw) w:=by simp[getObj,Sem.run,hr]
 have Dc:=MapKept.run_getObj_map (P:=P) hb
 obtain⟨s,e,h1,h2,h3,h4⟩:=hc c rfl
 simp[execOp,h.eval hx,Instr.entry,Sem.run_bind,Cp,Dc,Result.andThen,h1,h2,h3,h4,Sem.run,pure]
theorem Hp.J0{w:World}(hm:Pick L (uK r b ek ev l rem lL) R)(h:Hp F w₀ w L):Hp F w₀ w (xB b ek ev l::R):=by
 have h1:=h.front hm
 obtain⟨hrb,es,iw,seen,hb,he,lJ,hr,hl,hc⟩:=h1.ok _ (List.mem_cons_self ..)
 refine h1.upd (x:=uK r b ek ev l rem lL) (y:=xB b ek ev l) .here rfl (TD.refl _) rfl (Nat.le_refl _) (fun _ _ _=>rfl) ⟨es,iw,hb,he,lJ⟩ fun q hq=>?_
 have DQ:q=b:=by simpa [xB] using hq
 subst DQ
 exact⟨h1.lt _ (List.mem_cons_self ..) _ (by simp[uK]),.inl (by simp[uK])⟩
theorem WL.nextM{dd:Nat}{eA:Array Oper}{Q:Exit->Act->World->Prop}{ir:List Oper}{o:Oper}(ho:o=⟨some dd,.next x false,ty,pos,after,none⟩)(kS:Nat.blt dd n=true)(hx:eo env x=some (.pointer (some ⟨r,0,none⟩)))(hm:Pick L (uK r b ek ev l rem lL) R)(k0:rem=[]->WL P n F w₀ eA Q ir ((dd,.tuple #[.bool false])::env) (xB b ek ev l::R))(k1:∀(i:Nat) (y:κ×α) (m:List (κ×α)),rem[i]?=some y->m=rem.eraseIdx i->WL P n F w₀ eA Q ir ((dd,.tuple #[.bool true,ek y.1,ev y.2])::env) (uK r b ek ev l m (some y)::R)):WL P n F w₀ eA Q (o::ir) env L:=by
 subst ho
 refine WL.eff rfl rfl kS (G7 hx hm) fun g hg=>?_
 cases g with
 | none=>exact WL.ghL (fun _ h=>Hp.J0 .here h) (k0 hg)
 | some p=>exact k1 p.1 p.2 _ hg rfl
end
end
section
/-! ### a scope that no goto leaves; a label -/
section
variable {P:Program} {n:Nat} {F:Fence} {Q:Exit->Act->World->Prop} {a:Act} {w:World}
theorem tN{b:Frame}{k:List Item}{cs:List Frame}{c:Code}:step P (lone (b.atR a (.code (.scope c)::k)) cs w) = .next (lone (b.atR a (.code c :: .inScope c::k)) cs w):=
 step_lone_go (by simp[stepG,stepG.exec,Frame.atR])
theorem X1{b:Frame}{k:List Item}{cs:List Frame}{c:Code}:step P (lone (b.atR a (.inScope c::k)) cs w) = .next (lone (b.atR a k) cs w):=
 step_lone_go (by simp[stepG,stepG.exec,Frame.atR])
theorem Qh{c:Code}(h:c.wpIn F n P (Exit.noGoto Q) a w):(Code.scope c).wpIn F n P Q a w:=by
 intro b k cs C2 hb hr
 have h0:(lone (b.atR a (.code (.scope c)::k)) cs w).fenced P F:=fenced_calm hb hr rfl
 obtain⟨e,pf,pg,hq,oQ⟩:=h b (.inScope c::k) cs C2 hb hr
 cases e with
 | normal=>exact⟨.normal,pf,pg,hq,.head h0 tN (StepsIn.trans oQ (.one (fenced_calm hb hr rfl) X1))⟩
 | exit id=>
  have hx:exitTo id (.inScope c::k)=exitTo id k:=by simp[exitTo]
  exact⟨.exit id,pf,pg,hq,fun k' hk => .head h0 tN (oQ.1 k' (by rw[hx];exact hk)),
   fun hr' hk=>let ⟨k₁,h1,h2⟩:=oQ.2 hr' (by rw[hx];exact hk);⟨k₁,h1,.head h0 tN h2⟩⟩
 | goto l=>exact hq.elim
 | ret=>exact⟨_,pf,pg,hq,.of_steps (.one h0 tN) oQ⟩
 | panic ch=>exact⟨_,pf,pg,hq,.of_steps (.one h0 tN) oQ⟩
 | outgrown=>exact⟨_,pf,pg,hq,.of_steps (.one h0 tN) oQ⟩
end
section
variable [Rnd]
variable {P:Program} {n:Nat} {F:List Nat} {w₀:World} {Q:Exit->Act->World->Prop} {env:List (Nat×Value)} {L:List Asrt}
theorem WC.scope{c:Code}(k:WC P n F w₀ (Exit.noGoto Q) c env L):WC P n F w₀ Q (.scope c) env L:=fun a w h=>Qh (k a w h)
theorem WC.label{l:Nat}(k:WX n F w₀ Q .normal env L):WC P n F w₀ Q (.label l) env L:=fun a w h=>wpIn_label (k a w h)
theorem WX.n4(k:WX n F w₀ Q .ret env L):WX n F w₀ (Exit.noGoto Q) .ret env L:=k
end
end
section
/-! ### arrays at an index that is not known; tables of functions; strings -/
def sw{R:Type}:List (Int×Option R)->Int->Option R
 | [],_=>none
 | p::l,i=>if i=p.1 then p.2 else sw l i
structure arT (P:Program) (t e:TypeId) (len sz:Nat):Prop where
 un:P.underlying t=some (.array len e)
 sz:∀ w,(Go.sizeOf e).run P w = .ok sz w
section
variable [Rnd]
variable {P:Program} {n:Nat} {F:List Nat} {w₀:World} {env:List (Nat×Value)} {L R:List Asrt} {eA:Array Oper} {Q:Exit->Act->World->Prop} {ir:List Oper}
 {dd:Nat} {d:Option Tmp} {ty:TypeId} {pos:String} {after:Array Edge} {g:Option (Nat×Bool)} {x y c:Operand} {v u:Value} {t e T:TypeId} {sz len:Nat} {Z:Zp}
end
end
section
/-! ### maps of slices that are appended to: each value owns its row -/
section
variable {κ α:Type} [DecidableEq κ]
def slv(p:(Option Addr×Nat)×List α):Value := .slice p.1.1 p.2.length p.1.2
def qX(lg:List (κ×((Nat×(Option Addr×Nat))×List α))):List (κ×((Option Addr×Nat)×List α)):=lg.map fun p=>(p.1,(p.2.1.2,p.2.2))
def qa(e:TypeId)(sz:Nat)(enc:α->List Value)(g:Nat×(Option Addr×Nat))(x:List α):List Asrt:=[row (.slice g.2.1 x.length g.2.2) e sz (x.flatMap enc)]
variable {lg:List (κ×((Nat×(Option Addr×Nat))×List α))} {l:List (κ×List α)}
theorem dt(k:κ)(g:Nat×(Option Addr×Nat))(x:List α):∀ lg:List (κ×((Nat×(Option Addr×Nat))×List α)),qX (xT lg k (g,x))=xT (qX lg) k (g.2,x)
 | []=>rfl
 | p::lg=>by
  unfold xT qX
  by_cases h:k=p.1
  ·simp[h]
  ·have:=dt k g x lg
   unfold qX at this
   simp[h,this]
theorem du(k:κ):∀ lg:List (κ×((Nat×(Option Addr×Nat))×List α)),xx (qX lg) k ((none,0),[])=((xx lg k ((0,(none,0)),[])).1.2,(xx lg k ((0,(none,0)),[])).2)
 | []=>rfl
 | p::lg=>by
  have ih:=du k lg
  unfold qX at ih ⊢
  rw[List.map_cons]
  unfold xx
  by_cases h:k=p.1
  ·simp[h]
  ·simp only[h,if_false];exact ih
theorem Y4{γ:Type}{k:κ}{d:γ}:∀ {lg:List (κ×γ)},ji lg k=false->xx lg k d=d/\sW k lg=lg
 | [],_=>⟨rfl,rfl⟩
 | p::lg,h=>by
  unfold ji at h
  by_cases e:k=p.1
  ·simp[e] at h
  ·simp only[e,if_false] at h
   obtain⟨h1,h2⟩:=Y4 (d:=d) h
   unfold xx sW
   simp only[e,if_false]
   exact⟨h1,by rw[h2]⟩
variable {F:List Nat} {w₀ w:World} {L R R':List Asrt} {e:TypeId} {sz:Nat} {enc:α->List Value}
theorem Hp.lX(k:κ)(hm:rO lg=l)(hp:Pick L (qq (qa e sz enc) lg) R)(h:Hp F w₀ w L):
  ∃ g:Option Addr×Nat,xx (qX lg) k ((none,0),[])=(g,xx l k [])/\Hp F w₀ w (row (.slice g.1 (xx l k []).length g.2) e sz ((xx l k []).flatMap enc)::qq (qa e sz enc) (sW k lg)::R):=by
 subst hm
 rw[du,K6 k [] (0,(none,0))]
 refine⟨(xx lg k ((0,(none,0)),[])).1.2,rfl,?_⟩
 by_cases hk:ji lg k=true
 ·obtain⟨v,h1,h2⟩:=dl k lg hk
  rw[h1]
  have h4:=h.pickAll hp
  have h5:=h4.perm ((dm (f:=fun p:κ×((Nat×(Option Addr×Nat))×List α)=>qa e sz enc p.2.1 p.2.2) h2).append_right R)
  rw[List.flatMap_cons,List.append_assoc] at h5
  have h6:Hp F w₀ w (((sW k lg).flatMap fun p=>qa e sz enc p.2.1 p.2.2)++(qa e sz enc v.1 v.2++R)):=h5.perm (by
   rw[<- List.append_assoc,<- List.append_assoc];exact List.perm_append_comm.append_right R)
  have h7:=Hp.pS h6
  exact h7.perm List.perm_middle.symm
 ·have Aj:ji lg k=false:=by simpa using hk
  obtain⟨h1,h2⟩:=Y4 (d:=(((0,(none,0)),[]):(Nat×(Option Addr×Nat))×List α)) Aj
  rw[h1,h2]
  exact(h.nilRow e sz).perm ((hp.perm).cons _)
theorem Hp.ab{k:κ}{ao:Option Addr}{cap:Nat}{x:List α}(hs:Sel L [row (.slice ao x.length cap) e sz (x.flatMap enc),qq (qa e sz enc) (sW k lg)] R)(h:Hp F w₀ w L):
  Hp F w₀ w (qq (qa e sz enc) (xT lg k ((0,(ao,cap)),x))::R):=
 Hp.dp (els:=qa e sz enc) (b:=0) (g:=(ao,cap)) hs h
theorem Sel.skip{β:Type}{y:β}:∀ {L L' M:List β},Sel L L' M->Sel (y::L) L' (y::M)
 | _,_,_,.nil => .nil
 | _,_,_,.cons h t => .cons (.there h) (Sel.skip t)
theorem Hp.Yw{k:κ}{g:Option Addr×Nat}(hm:rO lg=l)(hp:xx (qX lg) k ((none,0),[])=(g,xx l k []))(hs:Sel L [row (.slice g.1 (xx l k []).length g.2) e sz ((xx l k []).flatMap enc),qq (qa e sz enc) (sW k lg)] R)(h:Hp F w₀ w L):
  Hp F w₀ w (qq (qa e sz enc) lg::R):=by
 by_cases hk:ji lg k=true
 ·obtain⟨v,h1,h2⟩:=dl k lg hk
  rw[du,h1] at hp
  have e1:v.1.2=g:=congrArg Prod.fst hp
  have e2:v.2=xx l k []:=congrArg Prod.snd hp
  have h3:=Hp.dp (lg:=lg) (k:=k) (els:=qa e sz enc) (b:=v.1.1) (g:=g) (x:=xx l k []) hs h
  rwa [show xT lg k ((v.1.1,g),xx l k [])=lg from dq (d:=v) hk (by rw[h1,<- e1,<- e2])] at h3
 ·have Aj:ji lg k=false:=by simpa using hk
  rw[(Y4 (d:=(((0,(none,0)),[]):(Nat×(Option Addr×Nat))×List α)) Aj).2] at hs
  have h1:=Hp.open_ (h.selAll hs)
  exact h1.sub (.cons (.there .here) (Sel.skip .all))
end
section
variable [Rnd] {P:Program} {n:Nat} {F:List Nat} {w₀:World} {eA:Array Oper} {tl:Nat->Bool} {Ls:List Asrt} {fuel:Nat} {listed:Array Bool} {Q:Act->World->Prop} {env:List (Nat×Value)} {L L':List Asrt} {o:Oper}
theorem WD.Qi{i:Nat}(hi:eA[i]?=some o)(hr:Region.ready .any eA listed=[i])(hg:gd env eA o=some true)(hd:o.dst=none)(ht:tl i=true)(lJ:wB L' Ls)(hq:d6 P n F w₀ env L o L')(k:WD P n F w₀ eA tl Ls Q fuel (listed.setIfInBounds i true) env L'):WD P n F w₀ eA tl Ls Q (fuel+1) listed env L:=WD.forced0 hi hr hg hd ht lJ hq k
end
theorem cL{F:List Nat}{w₀:World}{L R:List Asrt}{b off:Nat}{T:TypeId}{ks:List (Nat×Value)}{u v:Value}(hm:Pick L (sq b T ks) R)(hu:(off,u)∈ks)(hv:(off+1,v)∈ks):
  ∀ w,Hp F w₀ w L->∀ j x,[u,v][j]?=some x->w.cell? (Addr.add ⟨b,off,none⟩ j)=some x:=by
 intro w h j x hx
 match j,hx with
 | 0,hx=>
  have e:Addr.add ⟨b,off,none⟩ 0=⟨b,off,none⟩:=by simp[Addr.add]
  rw[e,fZ hm hu w h];simpa using hx
 | 1,hx=>
  have e:Addr.add ⟨b,off,none⟩ 1=⟨b,off+1,none⟩:=by simp[Addr.add]
  rw[e,fZ hm hv w h];simpa using hx
 | j+2,hx=>simp at hx
end
section
variable {m cap mU i:Nat}{cs:List Value}{bo:Option Addr}{dty:TypeId}
section
variable [Rnd] {P:Program} {n:Nat} {F:List Nat} {w₀:World} {env:List (Nat×Value)} {L R:List Asrt} {d:Option Tmp} {ty:TypeId} {pos:String} {after:Array Edge} {g:Option (Nat×Bool)} {x y:Operand} {t e:TypeId} {sz rJ:Nat}
theorem V4{ao:Option Addr}{k:Nat}{news:List Value}{a:Act}{w:World}(h:SS n F w₀ env L a w)(ht:elT P t e sz rJ)(hx:eo env x=some (.slice ao m cap))(hy:eo env y=some (.slice bo k mU))(hm:Pick L (row (.slice ao m cap) e sz cs) R)(hl:news.length=k*sz)(zm:news≠[]->∃ A,bo=some A/\∀ j u,news[j]?=some u->w.cell? (A.add j)=some u)(h1:∀ u∈news,u.oneCell'=true)(Dr:m+k<=maxLen)(xn:(m+k)*rJ<=140737488355328):
  ∃(p:Option Addr×Nat) (w':World),(execOp a.eval ⟨d,.call ⟨.builtin .append,#[x,y],#[t,t]⟩,dty,pos,after,g⟩).run P w = .ok (.value (.slice p.1 (m+k) p.2)) w'/\True/\Hp F w₀ w' (row (.slice p.1 (m+k) p.2) e sz (cs++news)::R):=by
 obtain⟨inf,z,hi,hz,lK,hb,Cz⟩:=ht.inf
 obtain⟨m',iq⟩:=h.hp.ok _ hm.mem
 have hmm:m'=m:=by
  have hs:=h.hp.rowShape hm
  have:=iq.1.symm.trans hs.1
  exact Nat.eq_of_mul_eq_mul_right ht.pos this
 subst hmm
 subst lK
 subst hb
 have Ao:=h.hp.rowShape hm
 by_cases Bb:k=0
 ·subst Bb
  have hn:news=[]:=List.eq_nil_of_length_eq_zero (by simpa using hl)
  subst hn
  refine⟨(ao,cap),w,?_,trivial,?_⟩
  ·have zs:m'<=cap:=Ao.2.1
   cases bo <;> cases ao <;> simp[execOp,h.eval hx,h.eval hy,resolve,invoke,builtin,Builtin.append_,run_underlying ht.sl,Go.sizeOf,typeInfo,hi,Builtin.lenOf,Builtin.firstCells,zs,loadCells,loadCellsFrom,storeCells]
  ·simpa using h.hp.front hm
 ·have ov:news≠[]:=by
   intro e;subst e
   have:0=k*inf.size:=by simpa using hl
   have:=Nat.mul_pos (Nat.pos_of_ne_zero Bb) ht.pos
   omega
  obtain⟨A,rfl,hA⟩:=zm ov
  have h63':((m'+k:Nat):Int)<=9223372036854775807:=by simp only[maxLen] at Dr;omega
  obtain⟨v',w',hr,ho,Bl,_⟩:=run_append_own (P:=P) w 0 t dty e inf z inf.size inf.bytes ht.sl hi hz rfl rfl Cz ht.pos _ m' cs iq A k mU news hl hA h1 Dr xn (Nat.zero_le _)
  have xZ:∀ b,v'.ownBlock=some b->(Value.slice ao m' cap).ownBlock=some b\/w.heap.size<=b:=by
   rcases iq.2 with⟨hv,hn⟩ | ⟨b0,lO,lL,hv,_,hh,zL,xE,zx,zS⟩
   ·injection hv with e1 e2 e3
    subst e1 e3 hn
    have hq:=run_append_nil (P:=P) w t dty e inf z ht.sl hi hz A k mU news hl hA (by omega) (by omega) (by simp only[Nat.zero_add] at xn;omega)
    rw[hr] at hq
    injection hq with e1 _
    subst e1
    intro b hb;simp[Value.ownBlock] at hb;exact .inr (by omega)
   ·injection hv with e1 e2 e3
    subst e1 e3
    by_cases hroom:m'+k<=cap
    ·have wH:m'*inf.size+news.length<=lL.size:=by rw[hl,zx,<- Nat.add_mul];exact Nat.mul_le_mul_right _ hroom
     have hq:=run_append_room (P:=P) w t dty e inf ht.sl hi b0 m' cap lL hh A k mU news hl hA h1 hroom wH
     rw[hr] at hq
     injection hq with e1 _
     subst e1
     intro b hb;exact .inl hb
    ·have holds:∀ j u,cs[j]?=some u->w.cell? ((⟨b0,0,none⟩:Addr).add j)=some u:=iq.cells (g:=b0) rfl
     have hq:=run_append_grow (P:=P) w t dty e inf z ht.sl hi hz ⟨b0,0,none⟩ m' cap cs iq.1 holds A k mU news hl hA (by omega) (by omega) (growslice_fits (by omega) xn)
     rw[hr] at hq
     injection hq with e1 _
     subst e1
     intro b hb;simp[Value.ownBlock] at hb;exact .inr (by omega)
  have hdr:w.drawn<=w'.drawn:=by
   rcases iq.2 with⟨hv,hn⟩ | ⟨b0,lO,lL,hv,_,hh,zL,xE,zx,zS⟩
   ·injection hv with e1 e2 e3
    subst e1 e3 hn
    have hq:=run_append_nil (P:=P) w t dty e inf z ht.sl hi hz A k mU news hl hA (by omega) (by omega) (by simp only[Nat.zero_add] at xn;omega)
    rw[hr] at hq
    injection hq with _ e1
    rw[e1];first | exact Nat.le_refl _ | exact Nat.le_add_right _ _
   ·injection hv with e1 e2 e3
    subst e1 e3
    by_cases hroom:m'+k<=cap
    ·have wH:m'*inf.size+news.length<=lL.size:=by rw[hl,zx,<- Nat.add_mul];exact Nat.mul_le_mul_right _ hroom
     have hq:=run_append_room (P:=P) w t dty e inf ht.sl hi b0 m' cap lL hh A k mU news hl hA h1 hroom wH
     rw[hr] at hq
     injection hq with _ e1
     rw[e1];first | exact Nat.le_refl _ | exact Nat.le_add_right _ _
    ·have holds:∀ j u,cs[j]?=some u->w.cell? ((⟨b0,0,none⟩:Addr).add j)=some u:=iq.cells (g:=b0) rfl
     have hq:=run_append_grow (P:=P) w t dty e inf z ht.sl hi hz ⟨b0,0,none⟩ m' cap cs iq.1 holds A k mU news hl hA (by omega) (by omega) (growslice_fits (by omega) xn)
     rw[hr] at hq
     injection hq with _ e1
     rw[e1];first | exact Nat.le_refl _ | exact Nat.le_add_right _ _
  obtain⟨p,rfl⟩:∃ p:Option Addr×Nat,v' = .slice p.1 (m'+k) p.2:=by
   rcases ho.2 with⟨hv,hn⟩ | ⟨b,lO,lL,hv,_⟩
   ·exact⟨(none,0),by rw[hv,hn]⟩
   ·exact⟨(some ⟨b,0,none⟩,lO),by rw[hv]⟩
  refine⟨p,w',?_,trivial,?_⟩
  ·simp[execOp,h.eval hx,h.eval hy,resolve,invoke,builtin,hr]
  ·refine(h.hp.front hm).upd (x:=row (.slice ao m' cap) e inf.size cs) (y:=row (.slice p.1 (m'+k) p.2) e inf.size (cs++news)) .here Bl.os ⟨Bl.tape,hdr⟩ Bl.output Bl.size ?_ ⟨_,ho⟩ ?_
   ·intro j hj Ds
    refine Bl.block j hj (fun hc=>Ds ?_)
    simp[row,<- hc]
   ·intro b hb
    have hb':(Value.slice p.1 (m'+k) p.2).ownBlock=some b:=by simpa [row] using hb
    refine⟨(ho.lt b hb').2,?_⟩
    rcases xZ b hb' with h2 | h2
    ·exact .inl (by simp[row,h2])
    ·exact .inr h2
theorem Hp.rowShort{b:Nat}{w:World}(hm:Pick L (row (.slice (some ⟨b,0,none⟩) m cap) e sz cs) R)(hi:i<=m)(h:Hp F w₀ w L):Hp F w₀ w (row (.slice (some ⟨b,0,none⟩) i cap) e sz (cs.take (i*sz))::R):=by
 have xo:=(h.rowShape hm).1
 refine(h.front hm).upd (x:=row (.slice (some ⟨b,0,none⟩) m cap) e sz cs) (y:=row (.slice (some ⟨b,0,none⟩) i cap) e sz (cs.take (i*sz))) .here rfl ⟨rfl,Nat.le_refl _⟩ rfl (Nat.le_refl _) (fun _ _ _=>rfl) ?_ ?_
 ·obtain⟨m',iq⟩:=h.ok _ hm.mem
  rcases iq.2 with⟨zr,_⟩ | ⟨b0,lO,lL,zr,Ck,CC,zL,xE,zx,zS⟩
  ·cases zr
  injection zr with e1 e2 e3
  injection e1 with e1
  injection e1 with e1
  subst e1 e2 e3
  have hmi:i*sz<=m*sz:=Nat.mul_le_mul_right _ hi
  refine⟨i,by simp;omega,.inr ⟨b,cap,lL,rfl,Ck,CC,by omega,xE,zx,?_⟩⟩
  rw[<- zS,List.take_take];congr 1;omega
 ·intro b' hb'
  simp[row,Value.ownBlock] at hb'
  subst hb'
  have:=h.lt _ hm.mem b' (by simp[row,Value.ownBlock])
  exact⟨this,.inl (by simp[row,Value.ownBlock])⟩
theorem XG{b j:Nat}(ht:elT P t e sz rJ)(hx:eo env x=some (.slice (some ⟨b,0,none⟩) i cap))(hy:eo env y=some (.slice bo (m-j) mU))(hbo:m-j≠0->bo=some (Addr.add ⟨b,0,none⟩ (j*sz)))(hm:Pick L (row (.slice (some ⟨b,0,none⟩) m cap) e sz cs) R)(zK:i<=j)(hjm:j<=m)(h1:∀ u∈cs,u.oneCell'=true)(xn:m*rJ<=140737488355328):
  Ef P n F w₀ env L ⟨d,.call ⟨.builtin .append,#[x,y],#[t,t]⟩,dty,pos,after,g⟩ (fun _:Option Addr×Nat=>True) (fun p => .slice p.1 (i+(m-j)) p.2) (fun p=>row (.slice p.1 (i+(m-j)) p.2) e sz (cs.take (i*sz)++cs.drop (j*sz))::R):=by
 intro a w h
 obtain⟨xo,Au,C3,_⟩:=h.hp.rowShape hm
 have hs:=h.world (h.hp.rowShort hm (show i<=m by omega))
 have iS:(cs.drop (j*sz)).length=(m-j)*sz:=by rw[List.length_drop,xo,<- Nat.sub_mul]
 refine V4 hs ht hx hy .here iS (fun ov=>?_) (fun u hu=>h1 u (List.mem_of_mem_drop hu)) (by omega) (Nat.le_trans (Nat.mul_le_mul_right _ (by omega)) xn)
 have hk:m-j≠0:=by
  intro hz;rw[hz,Nat.zero_mul] at iS;exact ov (List.eq_nil_of_length_eq_zero iS)
 refine⟨_,hbo hk,fun q u hu=>?_⟩
 obtain⟨m',iq⟩:=h.hp.ok _ hm.mem
 rw[Addr.sj]
 rw[List.getElem?_drop] at hu
 exact iq.cells (g:=b) rfl _ _ hu
theorem Hp.rowLong{b len:Nat}{w:World}(h1:len<=m)(h2:m<=cap)(h:Hp F w₀ w (row (.slice (some ⟨b,0,none⟩) len cap) e sz cs::R)):
  ∃ tl:List Value,Hp F w₀ w (row (.slice (some ⟨b,0,none⟩) m cap) e sz (cs++tl)::R):=by
 have hm:Pick (row (.slice (some ⟨b,0,none⟩) len cap) e sz cs::R) (row (.slice (some ⟨b,0,none⟩) len cap) e sz cs) R := .here
 have xo:=(h.rowShape hm).1
 obtain⟨m',iq⟩:=h.ok _ hm.mem
 rcases iq.2 with⟨zr,_⟩ | ⟨b0,lO,lL,zr,Ck,CC,zL,xE,zx,zS⟩
 ·cases zr
 injection zr with e1 e2 e3
 injection e1 with e1
 injection e1 with e1
 subst e1 e2 e3
 have h3:len*sz<=m*sz:=Nat.mul_le_mul_right _ h1
 have h4:m*sz<=cap*sz:=Nat.mul_le_mul_right _ h2
 have key:cs++(lL.toList.drop (len*sz)).take (m*sz-len*sz)=lL.toList.take (m*sz):=by
  rw[<- zS,<- List.take_add];congr 1;omega
 refine⟨(lL.toList.drop (len*sz)).take (m*sz-len*sz),?_⟩
 refine(h.front hm).upd (x:=row (.slice (some ⟨b,0,none⟩) len cap) e sz cs) (y:=row (.slice (some ⟨b,0,none⟩) m cap) e sz _) .here rfl ⟨rfl,Nat.le_refl _⟩ rfl (Nat.le_refl _) (fun _ _ _=>rfl) ?_ ?_
 ·refine⟨m,?_,.inr ⟨b,cap,lL,rfl,Ck,CC,h2,xE,zx,key.symm⟩⟩
  rw[key,List.length_take,Array.length_toList,zx];omega
 ·intro b' hb'
  simp[row,Value.ownBlock] at hb'
  subst hb'
  have:=h.lt _ hm.mem b' (by simp[row,Value.ownBlock])
  exact⟨this,.inl (by simp[row,Value.ownBlock])⟩
theorem Qj{b j:Nat}(ht:elT P t e sz rJ)(hx:eo env x=some (.slice (some ⟨b,0,none⟩) i cap))(hy:eo env y=some (.slice bo (m-j) mU))(hbo:m-j≠0->bo=some (Addr.add ⟨b,0,none⟩ (j*sz)))(hm:Pick L (row (.slice (some ⟨b,0,none⟩) m cap) e sz cs) R)(zK:i<=j)(hjm:j<=m)(h1:∀ u∈cs,u.oneCell'=true)(xn:m*rJ<=140737488355328):
  Ef P n F w₀ env L ⟨d,.call ⟨.builtin .append,#[x,y],#[t,t]⟩,dty,pos,after,g⟩ (fun _:List Value=>True) (fun _ => .slice (some ⟨b,0,none⟩) (i+(m-j)) cap)
   (fun tl=>row (.slice (some ⟨b,0,none⟩) m cap) e sz (cs.take (i*sz)++cs.drop (j*sz)++tl)::R):=by
 intro a w h
 obtain⟨xo,Au,C3,_⟩:=h.hp.rowShape hm
 obtain⟨p,w',hr,_,hp⟩:=XG (d:=d) (dty:=dty) (pos:=pos) (after:=after) (g:=g) ht hx hy hbo hm zK hjm h1 xn a w h
 have iS:(cs.drop (j*sz)).length=(m-j)*sz:=by rw[List.length_drop,xo,<- Nat.sub_mul]
 obtain⟨m',iq⟩:=h.hp.ok _ hm.mem
 have CK:=iq.cells (g:=b) rfl
 obtain⟨inf,z,BN,hz,lK,hb,Cz⟩:=ht.inf
 have iB:∃ ou,(execOp a.eval ⟨d,.call ⟨.builtin .append,#[x,y],#[t,t]⟩,dty,pos,after,g⟩).run P w = .ok (.value (.slice (some ⟨b,0,none⟩) (i+(m-j)) cap)) ou:=by
  by_cases hk:m-j=0
  ·rw[hk] at hy ⊢
   have zs:i<=cap:=by omega
   refine⟨w,?_⟩
   cases bo <;> simp[execOp,h.eval hx,h.eval hy,resolve,invoke,builtin,Builtin.append_,run_underlying ht.sl,Go.sizeOf,typeInfo,BN,Builtin.lenOf,Builtin.firstCells,zs,loadCells,loadCellsFrom,storeCells]
  ·rcases iq.2 with⟨zr,_⟩ | ⟨b0,lO,lL,zr,Ck,CC,zL,xE,zx,zS⟩
   ·cases zr
   injection zr with e1 e2 e3
   injection e1 with e1
   injection e1 with e1
   subst e1 e2 e3
   have hbo':=hbo hk
   subst hbo'
   subst lK
   have wH:i*inf.size+(cs.drop (j*inf.size)).length<=lL.size:=by rw[iS,zx,<- Nat.add_mul];exact Nat.mul_le_mul_right _ (by omega)
   have hq:=run_append_room (P:=P) w t dty e inf ht.sl BN b i cap lL CC (Addr.add ⟨b,0,none⟩ (j*inf.size)) (m-j) mU (cs.drop (j*inf.size)) iS (fun q u hu=>by
    rw[Addr.sj]
    rw[List.getElem?_drop] at hu
    exact CK _ _ hu) (fun u hu=>h1 u (List.mem_of_mem_drop hu)) (by omega) wH
   obtain⟨w2,DR⟩:∃ w2,(Builtin.append_ #[t,t] dty #[.slice (some ⟨b,0,none⟩) i cap,.slice (some (Addr.add ⟨b,0,none⟩ (j*inf.size))) (m-j) mU]).run P w = .ok (.slice (some ⟨b,0,none⟩) (i+(m-j)) cap) w2:=⟨_,hq⟩
   exact⟨w2,by simp[execOp,h.eval hx,h.eval hy,resolve,invoke,builtin,DR]⟩
 obtain⟨ou,DS⟩:=iB
 rw[hr] at DS
 injection DS with e1 e2
 injection e1 with e1
 injection e1 with e3 _ e4
 dsimp only at hp hr
 rw[e3,e4] at hp hr
 obtain⟨tl,Do⟩:=hp.rowLong (m:=m) (by omega) Au
 exact⟨tl,w',hr,trivial,Do⟩
theorem K7{ao:Option Addr}{k1 k2 k3:IntKind}{lo hi mx:Int}{lx hx' mx':Operand}(ht:elT P t e sz rJ)(hx:eo env x=some (.slice ao m cap))(hl:eo env lx=some (.int k1 lo))(hh:eo env hx'=some (.int k2 hi))(hm:eo env mx'=some (.int k3 mx))(h0:0<=lo)(h1:lo<=hi)(h2:hi<=mx)(h3:mx<=(cap:Int)):
  Qt P n F w₀ env L ⟨d,.slice t x (some lx) (some hx') (some mx'),ty,pos,after,g⟩ (.slice (if mx.toNat=lo.toNat then ao else ao.map (·.add (lo.toNat*sz))) (hi.toNat-lo.toNat) (mx.toNat-lo.toNat)):=by
 intro a w h
 obtain⟨inf,z,BN,hz,lK,hb,Cz⟩:=ht.inf
 have q1:hi<=((mx.toNat:Nat):Int):=by omega
 have q2:lo<=((hi.toNat:Nat):Int):=by omega
 have q3:0<=hi:=by omega
 have q4:0<=mx:=by omega
 simp[execOp,h.eval hx,h.eval hl,h.eval hh,h.eval hm,Instr.sliceAt,Instr.slice,Instr.sliceBounds,Instr.sliceBound,run_underlying ht.sl,Go.sizeOf,typeInfo,BN,lK,asIntOf,h0,h3,q1,q2,q3,q4]
 rw[if_pos (by omega),if_pos (by omega)]
end
end
section
section
variable [Rnd] {P:Program} {n:Nat} {F:List Nat} {w₀:World} {eA:Array Oper} {tl:Nat->Bool} {Ls:List Asrt} {fuel:Nat} {listed:Array Bool}
 {env:List (Nat×Value)} {L:List Asrt} {o:Oper} {QD:Act->World->Prop} {v:Value} {d i:Nat}
theorem wF.quiet(hi:eA[i]?=some o)(hg:gd env eA o=some true)(hd:o.dst=some d)(kS:Nat.blt d n=true)(lJ:tl i=true->wB L Ls)(hq:∀ a w,SS n F w₀ env L a w->(execOp a.eval o).run P w = .ok (.value v) w)(k:WD P n F w₀ eA tl Ls QD fuel (listed.setIfInBounds i true) ((d,v)::env) L):wF P n F w₀ eA tl Ls QD fuel listed env L i:=
 wF.forced (G:=Unit) (φ:=fun _=>True) (val:=fun _=>v) (L':=fun _=>L) hi hg hd kS (fun a w h=>⟨(),w,hq a w h,trivial,h.hp,fun _=>Ext.refl w⟩) (fun ht _=>lJ ht) (fun _ _=>k)
end
end
section
variable {cs:List Value}
/-! ### maps of slices whose elements are no flat data (each a cell): the cells, and what they stand for -/
def gf(v:Value):List Value:=[v]
theorem lY:∀ l:List Value,l.flatMap gf=l
 | []=>rfl
 | v::l=>by rw[List.flatMap_cons,lY l];rfl
section
variable {κ α:Type}
inductive RM (Pr:List Value->α->Prop):List (κ×List Value)->List (κ×List α)->Prop
 | nil:RM Pr [] []
 | cons {k:κ} {cs:List Value} {x:List α} {lc:List (κ×List Value)} {l:List (κ×List α)} (h:RR 1 Pr cs x) (t:RM Pr lc l):RM Pr ((k,cs)::lc) ((k,x)::l)
variable {Pr Pr':List Value->α->Prop} {lc:List (κ×List Value)} {l:List (κ×List α)}
theorem RM.weak(h:RM Pr lc l)(k:∀ r x,Pr r x->Pr' r x):RM Pr' lc l:=by
 induction h with
 | nil=>exact .nil
 | cons h _ ih=>exact .cons (h.weak k) ih
theorem RR.slv{ao:Option Addr}{cap:Nat}{cs:List Value}{x:List α}(h:RR 1 Pr cs x):slv ((ao,cap),cs) = .slice ao x.length cap:=by
 have:=h.len
 unfold Sep.slv
 simp only
 rw[this,Nat.mul_one]
variable [DecidableEq κ]
theorem RM.get(h:RM Pr lc l)(k:κ):RR 1 Pr (xx lc k []) (xx l k []):=by
 induction h with
 | nil=>exact RR.nil _ _
 | @cons k' cs x lc l h t ih=>
  unfold xx
  by_cases e:k=k'
  ·simp only[e,if_true];exact h
  ·simp only[e,if_false];exact ih
theorem RM.put(h:RM Pr lc l)(k:κ){x:List α}(hr:RR 1 Pr cs x):RM Pr (xT lc k cs) (xT l k x):=by
 induction h with
 | nil=>exact .cons hr .nil
 | @cons k' cs' x' lc l h t ih=>
  unfold xT
  by_cases e:k=k'
  ·simp only[e,if_true];exact .cons hr t
  ·simp only[e,if_false];exact .cons h ih
variable {lg:List (κ×((Nat×(Option Addr×Nat))×List Value))}
theorem RM.putD{g:Option Addr×Nat}(h:RM Pr (rO lg) l)(k:κ){x:List α}(hr:RR 1 Pr cs x):RM Pr (rO (xT lg k ((0,g),cs))) (xT l k x):=by
 rw[XC rfl];exact h.put k hr
variable {F:List Nat} {w₀ w:World} {L R:List Asrt} {e:TypeId}
theorem Hp.Qk(k:κ)(hm:RM Pr (rO lg) l)(hp:Pick L (qq (qa e 1 gf) lg) R)(h:Hp F w₀ w L):
  ∃ g:(Option Addr×Nat)×List Value,(xx (qX lg) k ((none,0),[])=g/\RR 1 Pr g.2 (xx l k []))/\Hp F w₀ w (row (.slice g.1.1 (xx l k []).length g.1.2) e 1 g.2::qq (qa e 1 gf) (sW k lg)::R):=by
 obtain⟨g,h1,h2⟩:=Hp.lX k rfl hp h
 have h3:=hm.get k
 refine⟨(g,xx (rO lg) k []),⟨h1,h3⟩,?_⟩
 rw[lY] at h2
 have h4:=h3.len
 rw[Nat.mul_one] at h4
 rw[h4] at h2
 exact h2
theorem Hp.V5{k:κ}{ao:Option Addr}{cap m:Nat}(hl:m=cs.length)(hs:Sel L [row (.slice ao m cap) e 1 cs,qq (qa e 1 gf) (sW k lg)] R)(h:Hp F w₀ w L):
  Hp F w₀ w (qq (qa e 1 gf) (xT lg k ((0,(ao,cap)),cs))::R):=by
 subst hl
 refine Hp.ab (enc:=gf) (x:=cs) ?_ h
 rw[lY];exact hs
theorem RR.len1{x:List α}(h:RR 1 Pr cs x):x.length=cs.length:=by
 have:=h.len;omega
end
end
section
/-! ### closures as_ data: slices whose order is not said, groups that join the pool, a map of the pool -/
section
variable {α:Type}
def ad(Z:Zp)(Pr:List Value->α->Prop)(ao:Option Addr)(cap:Nat)(l:List α):Prop:=∃ l':List α,l'.Perm l/\ZS Z 1 Pr ao cap l'
theorem ad.up{Z Z':Zp}{Pr Pr':List Value->α->Prop}{ao:Option Addr}{cap:Nat}{l:List α}(h:ad Z Pr ao cap l)(k:xm Z Z')(hw:∀ r x,Pr r x->Pr' r x):ad Z' Pr' ao cap l:=
 let ⟨l',h1,h2⟩:=h;⟨l',h1,(h2.mono k).weak hw⟩
theorem ad.of{Z:Zp}{Pr:List Value->α->Prop}{ao:Option Addr}{cap:Nat}{l:List α}(h:ZS Z 1 Pr ao cap l):ad Z Pr ao cap l:=⟨l,.refl _,h⟩
inductive RG {κ:Type} (Z:Zp) (Pr:List Value->α->Prop):List (κ×((Option Addr×Nat)×List Value))->List (κ×List α)->Prop
 | nil:RG Z Pr [] []
 | cons {k:κ} {ao:Option Addr} {cap:Nat} {cs:List Value} {x:List α} {lg:List (κ×((Option Addr×Nat)×List Value))} {l:List (κ×List α)} (hl:x.length=cs.length) (h:ZS Z 1 Pr ao cap x) (t:RG Z Pr lg l):RG Z Pr ((k,((ao,cap),cs))::lg) ((k,x)::l)
variable {κ:Type} {Z Z':Zp} {Pr Pr':List Value->α->Prop} {lg:List (κ×((Option Addr×Nat)×List Value))} {l:List (κ×List α)}
theorem RG.up(h:RG Z Pr lg l)(k:xm Z Z')(hw:∀ r x,Pr r x->Pr' r x):RG Z' Pr' lg l:=by
 induction h with
 | nil=>exact .nil
 | cons hl h _ ih=>exact .cons hl ((h.mono k).weak hw) ih
theorem RG.len(h:RG Z Pr lg l):l.length=lg.length:=by
 induction h with
 | nil=>rfl
 | cons _ _ _ ih=>simp[ih]
theorem RG.at(h:RG Z Pr lg l):∀ {i:Nat} {y:κ×((Option Addr×Nat)×List Value)},lg[i]?=some y->∃ x,l[i]?=some (y.1,x)/\x.length=y.2.2.length/\ZS Z 1 Pr y.2.1.1 y.2.1.2 x/\RG Z Pr (lg.eraseIdx i) (l.eraseIdx i):=by
 induction h with
 | nil=>intro i y h;simp at h
 | @cons k ao cap cs x lg l hl hz t ih=>
  intro i y h
  cases i with
  | zero=>
   simp only[List.getElem?_cons_zero,Option.some.injEq] at h
   subst h
   exact⟨x,by simp,hl,hz,by simpa using t⟩
  | succ i=>
   rw[List.getElem?_cons_succ] at h
   obtain⟨x',h1,h2,h3,h4⟩:=ih h
   exact⟨x',by simpa using h1,h2,h3,by simpa using RG.cons hl hz h4⟩
theorem ae{β:Type}:∀ {l:List β} {i:Nat} {x:β},l[i]?=some x->(x::l.eraseIdx i).Perm l
 | [],i,x,h=>by simp at h
 | a::l,0,x,h=>by
  simp only[List.getElem?_cons_zero,Option.some.injEq] at h
  subst h;simp
 | a::l,i+1,x,h=>by
  rw[List.getElem?_cons_succ] at h
  rw[List.eraseIdx_cons_succ]
  exact(List.Perm.swap _ _ _).trans ((ae h).cons a)
end
section
variable {κ α:Type} {F:List Nat} {w₀ w:World} {R:List Asrt} {e:TypeId} {Z:Zp} {Pr:Zp->List Value->α->Prop}
theorem Hp.bQ(mono:∀ {Z Z':Zp},xm Z Z'->∀ {r x},Pr Z r x->Pr Z' r x)(hp:PZ F w₀ Z):∀(lg:List (κ×((Nat×(Option Addr×Nat))×List Value))) (l:List (κ×List α)) (Zn:Zp),RM (Pr (Z++Zn)) (rO lg) l->Hp F w₀ w (qq (qa e 1 gf) lg::fz Zn::R)->
  ∃ lI,xm (Z++Zn) (Z++lI)/\RG (Z++lI) (Pr (Z++lI)) (qX lg) l/\Hp F w₀ w (fz lI::R)
 | [],l,Zn,hm,h=>by
  cases hm
  refine⟨Zn,xm.refl _,.nil,?_⟩
  have h1:=Hp.open_ h
  simpa using h1
 | (k,((n,(ao,cap)),cs))::lg,l,Zn,hm,h=>by
  cases hm with
  | @cons _ _ x _ l hr t=>
  have h1:=Hp.open_ h
  rw[List.flatMap_cons] at h1
  have hl:=RR.len1 hr
  have h2:Hp F w₀ w (row (.slice ao x.length cap) e 1 cs::fz Zn::((lg.flatMap fun p=>qa e 1 gf p.2.1 p.2.2)++R)):=by
   refine h1.perm ?_
   show([row (.slice ao cs.length cap) e 1 (cs.flatMap gf)]++(lg.flatMap fun p=>qa e 1 gf p.2.1 p.2.2)++fz Zn::R).Perm _
   rw[lY,hl,List.append_assoc,List.singleton_append]
   exact(List.perm_middle).cons _
  obtain⟨Zn1,k1,k2,k3⟩:=Hp.freezeS (Z:=Z) .here .here hp hr h2
  have h3:Hp F w₀ w (qq (qa e 1 gf) lg::fz Zn1::R):=Hp.pS (k3.perm List.perm_middle.symm)
  obtain⟨Zn2,j1,j2,j3⟩:=Hp.bQ mono hp lg l Zn1 (t.weak fun _ _ h=>mono k1 h) h3
  exact⟨Zn2,k1.trans j1,.cons hl ((k2.mono j1).weak fun _ _ h=>mono (k1.trans j1) h) j2,j3⟩
end
section
variable [Rnd]
variable {P:Program} {n:Nat} {F:List Nat} {w₀:World} {env:List (Nat×Value)} {L R:List Asrt} {d:Option Tmp} {ty:TypeId} {pos:String} {after:Array Edge} {g:Option (Nat×Bool)} {x y z:Operand} {t kt e:TypeId}
 {κ α:Type} [DecidableEq κ] {ek:κ->Value} {ev:α->Value} {l:List (κ×α)} {b:Nat} {k:κ} {dflt:α} {zv:Value} {Z:Zp}
theorem Ql{w:World}(K:KeyT P kt ek)(ht:P.underlying t=some (.map kt e))(hz:qB P e zv)(hd:zv=ev dflt)(hk:(xB b ek ev l).ok w):
  (Instr.lookup t (.map (some b)) (ek k) false).run P w = .ok (ev (xx l k dflt)) w:=by
 obtain⟨es,iw,hb,he,lJ⟩:=hk
 have h1:=K.find k es.toList (l.map (·.1)) w (oX he)
 have h2:=pT (ek:=ek) (ev:=ev) (k:=k) (d:=dflt) l es.toList he
 have CH:=congrFun hz w
 simp only[Instr.lookup,Sem.run_bind,run_underlying ht,Result.andThen,MapKept.run_getObj_map hb,K.chk]
 cases hf:(l.map (·.1)).findIdx? (fun k'=>decide (k=k')) with
 | none=>rw[hf] at h1 h2;simp only[Option.map_none] at h1 h2;simp[h1,CH,hd,h2]
 | some i=>rw[hf] at h1 h2;simp only[Option.map_some,Array.getElem?_toList] at h1 h2;simp[h1,h2]
theorem J1(K:KeyT P kt ek)(ht:P.underlying t=some (.map kt e))(hz:qB P e zv)(hd:zv=ev dflt)(hx:eo env x=some (.map (some b)))(hy:eo env y=some (ek k))(pv:PV F w₀ L Z)(hA:ZA Z (xB b ek ev l)):
  Qt P n F w₀ env L ⟨d,.lookup t x y false,ty,pos,after,g⟩ (ev (xx l k dflt)):=by
 intro a w h
 simp[execOp,h.eval hx,h.eval hy,Ql K ht hz hd (hA w (pv w h.hp))]
end
end
end Sep
