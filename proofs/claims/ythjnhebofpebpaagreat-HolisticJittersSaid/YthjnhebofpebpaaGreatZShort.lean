/- A part of this claim's proof: models of functions, walks, plain laws. No conditions. -/
import Derived.Test.YthjnhebofpebpaaGreatZMem
set_option linter.all false
namespace Sep
open Go Go.RowKit
section
variable [Rnd] {P:Program} {n:Nat} {F:List Nat} {w₀:World} {env:List (Nat×Value)} {L Lc Lr R:List Asrt} {ops:Array Oper} {Q:Exit→Act→World→Prop} {rest:List Oper} {o:Oper} {v:Value}
 {tl:Nat→Bool} {Ls:List Asrt} {fuel:Nat} {listed:Array Bool} {QD:Act→World→Prop}
theorem Lf(i d:Nat)(hi:ops[i]?=some o)(hq:∀ w₀ a w,SS n [] w₀ env [] a w→(execOp a.eval o).run P w = .ok (.value v) w)(k:WD P n F w₀ ops tl Ls QD fuel (listed.setIfInBounds i true) ((d,v)::env) L)(hns:y6o ops=true:=by kernel_rfl)(hr:(Region.ready .any ops listed).contains i=true:=by exact z1Z (by kernel_rfl))(hf:y5H ops (fun _=>false) listed i=true:=by exact z20 (by kernel_rfl))(hg:gd env ops o=some true:=by exact rfl)(hd:o.dst=some d:=by exact rfl)(hdn:Nat.blt d n=true:=by exact rfl):WD P n F w₀ ops tl Ls QD (fuel+1) listed env L:=WD.a hns hi hr hf hg hd hdn hq k
theorem Li(i d:Nat)(hi:ops[i]?=some o)(hq:∀ a w,SS n F w₀ env L a w→(execOp a.eval o).run P w = .ok (.value v) w)(k:WD P n F w₀ ops tl Ls QD fuel (listed.setIfInBounds i true) ((d,v)::env) L)(hns:y6o ops=true:=by kernel_rfl)(hr:(Region.ready .any ops listed).contains i=true:=by exact z1Z (by kernel_rfl))(hf:y5H ops tl listed i=true:=by exact z20 (by kernel_rfl))(hg:gd env ops o=some true:=by exact rfl)(hd:o.dst=some d:=by exact rfl)(hdn:Nat.blt d n=true:=by exact rfl):WD P n F w₀ ops tl Ls QD (fuel+1) listed env L:=WD.e hns hi hr hf hg hd hdn hq k
theorem L7(i d:Nat)(hi:ops[i]?=some o)(hs:Sin L Ls)(hq:∀ a w,SS n F w₀ env Ls a w→(execOp a.eval o).run P w = .ok (.value v) w)(k:WD P n F w₀ ops tl Ls QD fuel (listed.setIfInBounds i true) ((d,v)::env) L)(hns:y6o ops=true:=by kernel_rfl)(hr:(Region.ready .any ops listed).contains i=true:=by exact z1Z (by kernel_rfl))(hf:y5H ops (fun _=>false) listed i=true:=by exact z20 (by kernel_rfl))(hg:gd env ops o=some true:=by exact rfl)(hd:o.dst=some d:=by exact rfl)(hdn:Nat.blt d n=true:=by exact rfl):WD P n F w₀ ops tl Ls QD (fuel+1) listed env L:=WD.yia hns hi hr hf hg hd hdn hs hq k
theorem Lm(i d:Nat)(hi:ops[i]?=some o)(k:WD P n F w₀ ops tl Ls QD fuel (listed.setIfInBounds i true) ((d,undef)::env) L)(hns:y6o ops=true:=by kernel_rfl)(hr:(Region.ready .any ops listed).contains i=true:=by exact z1Z (by kernel_rfl))(hf:y5H ops (fun _=>false) listed i=true:=by exact z20 (by kernel_rfl))(hg:gd env ops o=some false:=by exact rfl)(hd:o.dst=some d:=by exact rfl)(hdn:Nat.blt d n=true:=by exact rfl):WD P n F w₀ ops tl Ls QD (fuel+1) listed env L:=WD.b hns hi hr hf hg hd hdn k
theorem L4{f:FuncId}{vs:Array Value}(i d:Nat)(hi:ops[i]?=some o)(hrun:∀ a w,SS n F w₀ env L a w→(execOp a.eval o).run P w = .ok (.enter f vs) w)(hc:∀ w,Hp F w₀ w L→Calls P f vs w fun e w'=>e = .returned v∧Hp [] w w' [])(k:WD P n F w₀ ops tl Ls QD fuel (listed.setIfInBounds i true) ((d,v)::env) L)(hns:y6o ops=true:=by kernel_rfl)(hr:(Region.ready .any ops listed).contains i=true:=by exact z1Z (by kernel_rfl))(hf:y5H ops tl listed i=true:=by exact z20 (by kernel_rfl))(hg:gd env ops o=some true:=by exact rfl)(hd:o.dst=some d:=by exact rfl)(hdn:Nat.blt d n=true:=by exact rfl):WD P n F w₀ ops tl Ls QD (fuel+1) listed env L:=WD.c hns hi hr hf hg hd hdn hrun hc k
theorem Le(d:Nat)(hq:∀ a w,SS n F w₀ env L a w→(execOp a.eval o).run P w = .ok (.value v) w)(k:WL P n F w₀ ops Q rest ((d,v)::env) L)(hg:gd env ops o=some true:=by exact rfl)(hd:o.dst=some d:=by exact rfl)(hdn:Nat.blt d n=true:=by exact rfl):WL P n F w₀ ops Q (o::rest) env L:=WL.a hg hd hdn hq k
theorem Lg{G:Type}{φ:G→Prop}{val:G→Value}{L':G→List Asrt}(d:Nat)(hq:EfX P n F w₀ env L o φ val L')(k:∀ g,φ g→WL P n F w₀ ops Q rest ((d,val g)::env) (L' g))(hg:gd env ops o=some true:=by exact rfl)(hd:o.dst=some d:=by exact rfl)(hdn:Nat.blt d n=true:=by exact rfl):WL P n F w₀ ops Q (o::rest) env L:=WL.new hg hd hdn hq k
theorem WL.fA{G:Type}{φ:G→Prop}{val:G→Value}{L':G→List Asrt}(d:Nat)(hq:Ef P n F w₀ env L o φ val L')(k:∀ g,φ g→WL P n F w₀ ops Q rest ((d,val g)::env) (L' g))(hg:gd env ops o=some true:=by exact rfl)(hd:o.dst=some d:=by exact rfl)(hdn:Nat.blt d n=true:=by exact rfl):WL P n F w₀ ops Q (o::rest) env L:=WL.eff hg hd hdn hq k
theorem Lk{f:FuncId}{vs:Array Value}{M:List Asrt}(d:Nat)(hrun:∀ a w,SS n F w₀ env L a w→(execOp a.eval o).run P w = .ok (.enter f vs) w)(hs:Sel L Lc Lr)(hc:∀ w,Hp F w₀ w L→Calls P f vs w fun e w'=>e = .returned v∧Hp (fps Lc) w w' M)(k:WL P n F w₀ ops Q rest ((d,v)::env) (M++Lr))(hg:gd env ops o=some true:=by exact rfl)(hd:o.dst=some d:=by exact rfl)(hdn:Nat.blt d n=true:=by exact rfl):WL P n F w₀ ops Q (o::rest) env L:=WL.b hg hd hdn hrun hs hc k
end
section
variable [Rnd] {P:Program} {f:FuncId} {fn:Func} {c:Code} {w:World} {R:Ending→World→Prop} {n:Nat} {pre:List Asrt}
theorem Calls.on0(hf:P.funcs[f]?=some fn)(hn:fn.ntmps=n)(k : @WC Rnd.base P n [] w (bodyPost P fn R) c [] [])(hb:fn.body=some c:=by exact rfl)(hsz:Nat.ble 0 n=true:=by exact rfl):Calls P f #[] w R:=Calls.y5I (vs:=[]) (pre:=[]) hf hb hn hsz (Hp.nil w _) rfl k
theorem Calls.oh1{v0:Value}(hf:P.funcs[f]?=some fn)(hn:fn.ntmps=n)(hown:Hp (fps pre) w w pre)(k : @WC Rnd.base P n (fps pre) w (bodyPost P fn R) c [(0,v0)] pre)(hb:fn.body=some c:=by exact rfl)(hsz:Nat.ble 1 n=true:=by exact rfl):Calls P f #[v0] w R:=Calls.y5I (vs:=[v0]) (pre:=pre) hf hb hn hsz hown rfl k
theorem L6{v0:Value}(hf:P.funcs[f]?=some fn)(hn:fn.ntmps=n)(k : @WC Rnd.base P n [] w (bodyPost P fn R) c [(0,v0)] [])(hb:fn.body=some c:=by exact rfl)(hsz:Nat.ble 1 n=true:=by exact rfl):Calls P f #[v0] w R:=Calls.y5I (vs:=[v0]) (pre:=[]) hf hb hn hsz (Hp.nil w _) rfl k
theorem Kg{v0 v1:Value}(hf:P.funcs[f]?=some fn)(hn:fn.ntmps=n)(hown:Hp (fps pre) w w pre)(k : @WC Rnd.base P n (fps pre) w (bodyPost P fn R) c [(0,v0),(1,v1)] pre)(hb:fn.body=some c:=by exact rfl)(hsz:Nat.ble 2 n=true:=by exact rfl):Calls P f #[v0,v1] w R:=Calls.y5I (vs:=[v0,v1]) (pre:=pre) hf hb hn hsz hown rfl k
theorem Lz{v0 v1:Value}(hf:P.funcs[f]?=some fn)(hn:fn.ntmps=n)(k : @WC Rnd.base P n [] w (bodyPost P fn R) c [(0,v0),(1,v1)] [])(hb:fn.body=some c:=by exact rfl)(hsz:Nat.ble 2 n=true:=by exact rfl):Calls P f #[v0,v1] w R:=Calls.y5I (vs:=[v0,v1]) (pre:=[]) hf hb hn hsz (Hp.nil w _) rfl k
theorem Calls.oh3{v0 v1 v2:Value}(hf:P.funcs[f]?=some fn)(hn:fn.ntmps=n)(hown:Hp (fps pre) w w pre)(k : @WC Rnd.base P n (fps pre) w (bodyPost P fn R) c [(0,v0),(1,v1),(2,v2)] pre)(hb:fn.body=some c:=by exact rfl)(hsz:Nat.ble 3 n=true:=by exact rfl):Calls P f #[v0,v1,v2] w R:=Calls.y5I (vs:=[v0,v1,v2]) (pre:=pre) hf hb hn hsz hown rfl k
theorem Ke{v0 v1 v2:Value}(hf:P.funcs[f]?=some fn)(hn:fn.ntmps=n)(k : @WC Rnd.base P n [] w (bodyPost P fn R) c [(0,v0),(1,v1),(2,v2)] [])(hb:fn.body=some c:=by exact rfl)(hsz:Nat.ble 3 n=true:=by exact rfl):Calls P f #[v0,v1,v2] w R:=Calls.y5I (vs:=[v0,v1,v2]) (pre:=[]) hf hb hn hsz (Hp.nil w _) rfl k
theorem Calls.oh4{v0 v1 v2 v3:Value}(hf:P.funcs[f]?=some fn)(hn:fn.ntmps=n)(hown:Hp (fps pre) w w pre)(k : @WC Rnd.base P n (fps pre) w (bodyPost P fn R) c [(0,v0),(1,v1),(2,v2),(3,v3)] pre)(hb:fn.body=some c:=by exact rfl)(hsz:Nat.ble 4 n=true:=by exact rfl):Calls P f #[v0,v1,v2,v3] w R:=Calls.y5I (vs:=[v0,v1,v2,v3]) (pre:=pre) hf hb hn hsz hown rfl k
theorem Calls.on5{v0 v1 v2 v3 v4:Value}(hf:P.funcs[f]?=some fn)(hn:fn.ntmps=n)(k : @WC Rnd.base P n [] w (bodyPost P fn R) c [(0,v0),(1,v1),(2,v2),(3,v3),(4,v4)] [])(hb:fn.body=some c:=by exact rfl)(hsz:Nat.ble 5 n=true:=by exact rfl):Calls P f #[v0,v1,v2,v3,v4] w R:=Calls.y5I (vs:=[v0,v1,v2,v3,v4]) (pre:=[]) hf hb hn hsz (Hp.nil w _) rfl k
end
theorem Restr.r2{env:List (Nat×Value)}{i0 i1:Nat}{v0 v1:Value}(h0:Sep.lk env i0=some v0)(h1:Sep.lk env i1=some v1):Restr env [(i0,v0),(i1,v1)] := .cons h0 (.cons h1 .nil)
theorem Restr.r3{env:List (Nat×Value)}{i0 i1 i2:Nat}{v0 v1 v2:Value}(h0:Sep.lk env i0=some v0)(h1:Sep.lk env i1=some v1)(h2:Sep.lk env i2=some v2):Restr env [(i0,v0),(i1,v1),(i2,v2)] := .cons h0 (.cons h1 (.cons h2 .nil))
theorem Restr.r4{env:List (Nat×Value)}{i0 i1 i2 i3:Nat}{v0 v1 v2 v3:Value}(h0:Sep.lk env i0=some v0)(h1:Sep.lk env i1=some v1)(h2:Sep.lk env i2=some v2)(h3:Sep.lk env i3=some v3):Restr env [(i0,v0),(i1,v1),(i2,v2),(i3,v3)] := .cons h0 (.cons h1 (.cons h2 (.cons h3 .nil)))
theorem Restr.r5{env:List (Nat×Value)}{i0 i1 i2 i3 i4:Nat}{v0 v1 v2 v3 v4:Value}(h0:Sep.lk env i0=some v0)(h1:Sep.lk env i1=some v1)(h2:Sep.lk env i2=some v2)(h3:Sep.lk env i3=some v3)(h4:Sep.lk env i4=some v4):Restr env [(i0,v0),(i1,v1),(i2,v2),(i3,v3),(i4,v4)] := .cons h0 (.cons h1 (.cons h2 (.cons h3 (.cons h4 .nil))))
theorem Restr.r6{env:List (Nat×Value)}{i0 i1 i2 i3 i4 i5:Nat}{v0 v1 v2 v3 v4 v5:Value}(h0:Sep.lk env i0=some v0)(h1:Sep.lk env i1=some v1)(h2:Sep.lk env i2=some v2)(h3:Sep.lk env i3=some v3)(h4:Sep.lk env i4=some v4)(h5:Sep.lk env i5=some v5):Restr env [(i0,v0),(i1,v1),(i2,v2),(i3,v3),(i4,v4),(i5,v5)] := .cons h0 (.cons h1 (.cons h2 (.cons h3 (.cons h4 (.cons h5 .nil)))))
theorem Restr.r7{env:List (Nat×Value)}{i0 i1 i2 i3 i4 i5 i6:Nat}{v0 v1 v2 v3 v4 v5 v6:Value}(h0:Sep.lk env i0=some v0)(h1:Sep.lk env i1=some v1)(h2:Sep.lk env i2=some v2)(h3:Sep.lk env i3=some v3)(h4:Sep.lk env i4=some v4)(h5:Sep.lk env i5=some v5)(h6:Sep.lk env i6=some v6):Restr env [(i0,v0),(i1,v1),(i2,v2),(i3,v3),(i4,v4),(i5,v5),(i6,v6)] := .cons h0 (.cons h1 (.cons h2 (.cons h3 (.cons h4 (.cons h5 (.cons h6 .nil))))))
theorem Restr.r8{env:List (Nat×Value)}{i0 i1 i2 i3 i4 i5 i6 i7:Nat}{v0 v1 v2 v3 v4 v5 v6 v7:Value}(h0:Sep.lk env i0=some v0)(h1:Sep.lk env i1=some v1)(h2:Sep.lk env i2=some v2)(h3:Sep.lk env i3=some v3)(h4:Sep.lk env i4=some v4)(h5:Sep.lk env i5=some v5)(h6:Sep.lk env i6=some v6)(h7:Sep.lk env i7=some v7):Restr env [(i0,v0),(i1,v1),(i2,v2),(i3,v3),(i4,v4),(i5,v5),(i6,v6),(i7,v7)] := .cons h0 (.cons h1 (.cons h2 (.cons h3 (.cons h4 (.cons h5 (.cons h6 (.cons h7 .nil)))))))
theorem Restr.r9{env:List (Nat×Value)}{i0 i1 i2 i3 i4 i5 i6 i7 i8:Nat}{v0 v1 v2 v3 v4 v5 v6 v7 v8:Value}(h0:Sep.lk env i0=some v0)(h1:Sep.lk env i1=some v1)(h2:Sep.lk env i2=some v2)(h3:Sep.lk env i3=some v3)(h4:Sep.lk env i4=some v4)(h5:Sep.lk env i5=some v5)(h6:Sep.lk env i6=some v6)(h7:Sep.lk env i7=some v7)(h8:Sep.lk env i8=some v8):Restr env [(i0,v0),(i1,v1),(i2,v2),(i3,v3),(i4,v4),(i5,v5),(i6,v6),(i7,v7),(i8,v8)] := .cons h0 (.cons h1 (.cons h2 (.cons h3 (.cons h4 (.cons h5 (.cons h6 (.cons h7 (.cons h8 .nil))))))))
theorem Restr.r10{env:List (Nat×Value)}{i0 i1 i2 i3 i4 i5 i6 i7 i8 i9:Nat}{v0 v1 v2 v3 v4 v5 v6 v7 v8 v9:Value}(h0:Sep.lk env i0=some v0)(h1:Sep.lk env i1=some v1)(h2:Sep.lk env i2=some v2)(h3:Sep.lk env i3=some v3)(h4:Sep.lk env i4=some v4)(h5:Sep.lk env i5=some v5)(h6:Sep.lk env i6=some v6)(h7:Sep.lk env i7=some v7)(h8:Sep.lk env i8=some v8)(h9:Sep.lk env i9=some v9):Restr env [(i0,v0),(i1,v1),(i2,v2),(i3,v3),(i4,v4),(i5,v5),(i6,v6),(i7,v7),(i8,v8),(i9,v9)] := .cons h0 (.cons h1 (.cons h2 (.cons h3 (.cons h4 (.cons h5 (.cons h6 (.cons h7 (.cons h8 (.cons h9 .nil)))))))))
theorem Restr.r11{env:List (Nat×Value)}{i0 i1 i2 i3 i4 i5 i6 i7 i8 i9 i10:Nat}{v0 v1 v2 v3 v4 v5 v6 v7 v8 v9 v10:Value}(h0:Sep.lk env i0=some v0)(h1:Sep.lk env i1=some v1)(h2:Sep.lk env i2=some v2)(h3:Sep.lk env i3=some v3)(h4:Sep.lk env i4=some v4)(h5:Sep.lk env i5=some v5)(h6:Sep.lk env i6=some v6)(h7:Sep.lk env i7=some v7)(h8:Sep.lk env i8=some v8)(h9:Sep.lk env i9=some v9)(h10:Sep.lk env i10=some v10):Restr env [(i0,v0),(i1,v1),(i2,v2),(i3,v3),(i4,v4),(i5,v5),(i6,v6),(i7,v7),(i8,v8),(i9,v9),(i10,v10)] := .cons h0 (.cons h1 (.cons h2 (.cons h3 (.cons h4 (.cons h5 (.cons h6 (.cons h7 (.cons h8 (.cons h9 (.cons h10 .nil))))))))))
theorem Restr.r12{env:List (Nat×Value)}{i0 i1 i2 i3 i4 i5 i6 i7 i8 i9 i10 i11:Nat}{v0 v1 v2 v3 v4 v5 v6 v7 v8 v9 v10 v11:Value}(h0:Sep.lk env i0=some v0)(h1:Sep.lk env i1=some v1)(h2:Sep.lk env i2=some v2)(h3:Sep.lk env i3=some v3)(h4:Sep.lk env i4=some v4)(h5:Sep.lk env i5=some v5)(h6:Sep.lk env i6=some v6)(h7:Sep.lk env i7=some v7)(h8:Sep.lk env i8=some v8)(h9:Sep.lk env i9=some v9)(h10:Sep.lk env i10=some v10)(h11:Sep.lk env i11=some v11):Restr env [(i0,v0),(i1,v1),(i2,v2),(i3,v3),(i4,v4),(i5,v5),(i6,v6),(i7,v7),(i8,v8),(i9,v9),(i10,v10),(i11,v11)] := .cons h0 (.cons h1 (.cons h2 (.cons h3 (.cons h4 (.cons h5 (.cons h6 (.cons h7 (.cons h8 (.cons h9 (.cons h10 (.cons h11 .nil)))))))))))
theorem Restr.r13{env:List (Nat×Value)}{i0 i1 i2 i3 i4 i5 i6 i7 i8 i9 i10 i11 i12:Nat}{v0 v1 v2 v3 v4 v5 v6 v7 v8 v9 v10 v11 v12:Value}(h0:Sep.lk env i0=some v0)(h1:Sep.lk env i1=some v1)(h2:Sep.lk env i2=some v2)(h3:Sep.lk env i3=some v3)(h4:Sep.lk env i4=some v4)(h5:Sep.lk env i5=some v5)(h6:Sep.lk env i6=some v6)(h7:Sep.lk env i7=some v7)(h8:Sep.lk env i8=some v8)(h9:Sep.lk env i9=some v9)(h10:Sep.lk env i10=some v10)(h11:Sep.lk env i11=some v11)(h12:Sep.lk env i12=some v12):Restr env [(i0,v0),(i1,v1),(i2,v2),(i3,v3),(i4,v4),(i5,v5),(i6,v6),(i7,v7),(i8,v8),(i9,v9),(i10,v10),(i11,v11),(i12,v12)] := .cons h0 (.cons h1 (.cons h2 (.cons h3 (.cons h4 (.cons h5 (.cons h6 (.cons h7 (.cons h8 (.cons h9 (.cons h10 (.cons h11 (.cons h12 .nil))))))))))))
theorem Restr.r14{env:List (Nat×Value)}{i0 i1 i2 i3 i4 i5 i6 i7 i8 i9 i10 i11 i12 i13:Nat}{v0 v1 v2 v3 v4 v5 v6 v7 v8 v9 v10 v11 v12 v13:Value}(h0:Sep.lk env i0=some v0)(h1:Sep.lk env i1=some v1)(h2:Sep.lk env i2=some v2)(h3:Sep.lk env i3=some v3)(h4:Sep.lk env i4=some v4)(h5:Sep.lk env i5=some v5)(h6:Sep.lk env i6=some v6)(h7:Sep.lk env i7=some v7)(h8:Sep.lk env i8=some v8)(h9:Sep.lk env i9=some v9)(h10:Sep.lk env i10=some v10)(h11:Sep.lk env i11=some v11)(h12:Sep.lk env i12=some v12)(h13:Sep.lk env i13=some v13):Restr env [(i0,v0),(i1,v1),(i2,v2),(i3,v3),(i4,v4),(i5,v5),(i6,v6),(i7,v7),(i8,v8),(i9,v9),(i10,v10),(i11,v11),(i12,v12),(i13,v13)] := .cons h0 (.cons h1 (.cons h2 (.cons h3 (.cons h4 (.cons h5 (.cons h6 (.cons h7 (.cons h8 (.cons h9 (.cons h10 (.cons h11 (.cons h12 (.cons h13 .nil)))))))))))))
theorem Restr.r15{env:List (Nat×Value)}{i0 i1 i2 i3 i4 i5 i6 i7 i8 i9 i10 i11 i12 i13 i14:Nat}{v0 v1 v2 v3 v4 v5 v6 v7 v8 v9 v10 v11 v12 v13 v14:Value}(h0:Sep.lk env i0=some v0)(h1:Sep.lk env i1=some v1)(h2:Sep.lk env i2=some v2)(h3:Sep.lk env i3=some v3)(h4:Sep.lk env i4=some v4)(h5:Sep.lk env i5=some v5)(h6:Sep.lk env i6=some v6)(h7:Sep.lk env i7=some v7)(h8:Sep.lk env i8=some v8)(h9:Sep.lk env i9=some v9)(h10:Sep.lk env i10=some v10)(h11:Sep.lk env i11=some v11)(h12:Sep.lk env i12=some v12)(h13:Sep.lk env i13=some v13)(h14:Sep.lk env i14=some v14):Restr env [(i0,v0),(i1,v1),(i2,v2),(i3,v3),(i4,v4),(i5,v5),(i6,v6),(i7,v7),(i8,v8),(i9,v9),(i10,v10),(i11,v11),(i12,v12),(i13,v13),(i14,v14)] := .cons h0 (.cons h1 (.cons h2 (.cons h3 (.cons h4 (.cons h5 (.cons h6 (.cons h7 (.cons h8 (.cons h9 (.cons h10 (.cons h11 (.cons h12 (.cons h13 (.cons h14 .nil))))))))))))))
theorem Restr.r16{env:List (Nat×Value)}{i0 i1 i2 i3 i4 i5 i6 i7 i8 i9 i10 i11 i12 i13 i14 i15:Nat}{v0 v1 v2 v3 v4 v5 v6 v7 v8 v9 v10 v11 v12 v13 v14 v15:Value}(h0:Sep.lk env i0=some v0)(h1:Sep.lk env i1=some v1)(h2:Sep.lk env i2=some v2)(h3:Sep.lk env i3=some v3)(h4:Sep.lk env i4=some v4)(h5:Sep.lk env i5=some v5)(h6:Sep.lk env i6=some v6)(h7:Sep.lk env i7=some v7)(h8:Sep.lk env i8=some v8)(h9:Sep.lk env i9=some v9)(h10:Sep.lk env i10=some v10)(h11:Sep.lk env i11=some v11)(h12:Sep.lk env i12=some v12)(h13:Sep.lk env i13=some v13)(h14:Sep.lk env i14=some v14)(h15:Sep.lk env i15=some v15):Restr env [(i0,v0),(i1,v1),(i2,v2),(i3,v3),(i4,v4),(i5,v5),(i6,v6),(i7,v7),(i8,v8),(i9,v9),(i10,v10),(i11,v11),(i12,v12),(i13,v13),(i14,v14),(i15,v15)] := .cons h0 (.cons h1 (.cons h2 (.cons h3 (.cons h4 (.cons h5 (.cons h6 (.cons h7 (.cons h8 (.cons h9 (.cons h10 (.cons h11 (.cons h12 (.cons h13 (.cons h14 (.cons h15 .nil)))))))))))))))
theorem Restr.r17{env:List (Nat×Value)}{i0 i1 i2 i3 i4 i5 i6 i7 i8 i9 i10 i11 i12 i13 i14 i15 i16:Nat}{v0 v1 v2 v3 v4 v5 v6 v7 v8 v9 v10 v11 v12 v13 v14 v15 v16:Value}(h0:Sep.lk env i0=some v0)(h1:Sep.lk env i1=some v1)(h2:Sep.lk env i2=some v2)(h3:Sep.lk env i3=some v3)(h4:Sep.lk env i4=some v4)(h5:Sep.lk env i5=some v5)(h6:Sep.lk env i6=some v6)(h7:Sep.lk env i7=some v7)(h8:Sep.lk env i8=some v8)(h9:Sep.lk env i9=some v9)(h10:Sep.lk env i10=some v10)(h11:Sep.lk env i11=some v11)(h12:Sep.lk env i12=some v12)(h13:Sep.lk env i13=some v13)(h14:Sep.lk env i14=some v14)(h15:Sep.lk env i15=some v15)(h16:Sep.lk env i16=some v16):Restr env [(i0,v0),(i1,v1),(i2,v2),(i3,v3),(i4,v4),(i5,v5),(i6,v6),(i7,v7),(i8,v8),(i9,v9),(i10,v10),(i11,v11),(i12,v12),(i13,v13),(i14,v14),(i15,v15),(i16,v16)] := .cons h0 (.cons h1 (.cons h2 (.cons h3 (.cons h4 (.cons h5 (.cons h6 (.cons h7 (.cons h8 (.cons h9 (.cons h10 (.cons h11 (.cons h12 (.cons h13 (.cons h14 (.cons h15 (.cons h16 .nil))))))))))))))))
theorem Restr.r18{env:List (Nat×Value)}{i0 i1 i2 i3 i4 i5 i6 i7 i8 i9 i10 i11 i12 i13 i14 i15 i16 i17:Nat}{v0 v1 v2 v3 v4 v5 v6 v7 v8 v9 v10 v11 v12 v13 v14 v15 v16 v17:Value}(h0:Sep.lk env i0=some v0)(h1:Sep.lk env i1=some v1)(h2:Sep.lk env i2=some v2)(h3:Sep.lk env i3=some v3)(h4:Sep.lk env i4=some v4)(h5:Sep.lk env i5=some v5)(h6:Sep.lk env i6=some v6)(h7:Sep.lk env i7=some v7)(h8:Sep.lk env i8=some v8)(h9:Sep.lk env i9=some v9)(h10:Sep.lk env i10=some v10)(h11:Sep.lk env i11=some v11)(h12:Sep.lk env i12=some v12)(h13:Sep.lk env i13=some v13)(h14:Sep.lk env i14=some v14)(h15:Sep.lk env i15=some v15)(h16:Sep.lk env i16=some v16)(h17:Sep.lk env i17=some v17):Restr env [(i0,v0),(i1,v1),(i2,v2),(i3,v3),(i4,v4),(i5,v5),(i6,v6),(i7,v7),(i8,v8),(i9,v9),(i10,v10),(i11,v11),(i12,v12),(i13,v13),(i14,v14),(i15,v15),(i16,v16),(i17,v17)] := .cons h0 (.cons h1 (.cons h2 (.cons h3 (.cons h4 (.cons h5 (.cons h6 (.cons h7 (.cons h8 (.cons h9 (.cons h10 (.cons h11 (.cons h12 (.cons h13 (.cons h14 (.cons h15 (.cons h16 (.cons h17 .nil)))))))))))))))))
theorem Restr.r19{env:List (Nat×Value)}{i0 i1 i2 i3 i4 i5 i6 i7 i8 i9 i10 i11 i12 i13 i14 i15 i16 i17 i18:Nat}{v0 v1 v2 v3 v4 v5 v6 v7 v8 v9 v10 v11 v12 v13 v14 v15 v16 v17 v18:Value}(h0:Sep.lk env i0=some v0)(h1:Sep.lk env i1=some v1)(h2:Sep.lk env i2=some v2)(h3:Sep.lk env i3=some v3)(h4:Sep.lk env i4=some v4)(h5:Sep.lk env i5=some v5)(h6:Sep.lk env i6=some v6)(h7:Sep.lk env i7=some v7)(h8:Sep.lk env i8=some v8)(h9:Sep.lk env i9=some v9)(h10:Sep.lk env i10=some v10)(h11:Sep.lk env i11=some v11)(h12:Sep.lk env i12=some v12)(h13:Sep.lk env i13=some v13)(h14:Sep.lk env i14=some v14)(h15:Sep.lk env i15=some v15)(h16:Sep.lk env i16=some v16)(h17:Sep.lk env i17=some v17)(h18:Sep.lk env i18=some v18):Restr env [(i0,v0),(i1,v1),(i2,v2),(i3,v3),(i4,v4),(i5,v5),(i6,v6),(i7,v7),(i8,v8),(i9,v9),(i10,v10),(i11,v11),(i12,v12),(i13,v13),(i14,v14),(i15,v15),(i16,v16),(i17,v17),(i18,v18)] := .cons h0 (.cons h1 (.cons h2 (.cons h3 (.cons h4 (.cons h5 (.cons h6 (.cons h7 (.cons h8 (.cons h9 (.cons h10 (.cons h11 (.cons h12 (.cons h13 (.cons h14 (.cons h15 (.cons h16 (.cons h17 (.cons h18 .nil))))))))))))))))))
theorem Restr.r21{env:List (Nat×Value)}{i0 i1 i2 i3 i4 i5 i6 i7 i8 i9 i10 i11 i12 i13 i14 i15 i16 i17 i18 i19 i20:Nat}{v0 v1 v2 v3 v4 v5 v6 v7 v8 v9 v10 v11 v12 v13 v14 v15 v16 v17 v18 v19 v20:Value}(h0:Sep.lk env i0=some v0)(h1:Sep.lk env i1=some v1)(h2:Sep.lk env i2=some v2)(h3:Sep.lk env i3=some v3)(h4:Sep.lk env i4=some v4)(h5:Sep.lk env i5=some v5)(h6:Sep.lk env i6=some v6)(h7:Sep.lk env i7=some v7)(h8:Sep.lk env i8=some v8)(h9:Sep.lk env i9=some v9)(h10:Sep.lk env i10=some v10)(h11:Sep.lk env i11=some v11)(h12:Sep.lk env i12=some v12)(h13:Sep.lk env i13=some v13)(h14:Sep.lk env i14=some v14)(h15:Sep.lk env i15=some v15)(h16:Sep.lk env i16=some v16)(h17:Sep.lk env i17=some v17)(h18:Sep.lk env i18=some v18)(h19:Sep.lk env i19=some v19)(h20:Sep.lk env i20=some v20):Restr env [(i0,v0),(i1,v1),(i2,v2),(i3,v3),(i4,v4),(i5,v5),(i6,v6),(i7,v7),(i8,v8),(i9,v9),(i10,v10),(i11,v11),(i12,v12),(i13,v13),(i14,v14),(i15,v15),(i16,v16),(i17,v17),(i18,v18),(i19,v19),(i20,v20)] := .cons h0 (.cons h1 (.cons h2 (.cons h3 (.cons h4 (.cons h5 (.cons h6 (.cons h7 (.cons h8 (.cons h9 (.cons h10 (.cons h11 (.cons h12 (.cons h13 (.cons h14 (.cons h15 (.cons h16 (.cons h17 (.cons h18 (.cons h19 (.cons h20 .nil))))))))))))))))))))
theorem Restr.r23{env:List (Nat×Value)}{i0 i1 i2 i3 i4 i5 i6 i7 i8 i9 i10 i11 i12 i13 i14 i15 i16 i17 i18 i19 i20 i21 i22:Nat}{v0 v1 v2 v3 v4 v5 v6 v7 v8 v9 v10 v11 v12 v13 v14 v15 v16 v17 v18 v19 v20 v21 v22:Value}(h0:Sep.lk env i0=some v0)(h1:Sep.lk env i1=some v1)(h2:Sep.lk env i2=some v2)(h3:Sep.lk env i3=some v3)(h4:Sep.lk env i4=some v4)(h5:Sep.lk env i5=some v5)(h6:Sep.lk env i6=some v6)(h7:Sep.lk env i7=some v7)(h8:Sep.lk env i8=some v8)(h9:Sep.lk env i9=some v9)(h10:Sep.lk env i10=some v10)(h11:Sep.lk env i11=some v11)(h12:Sep.lk env i12=some v12)(h13:Sep.lk env i13=some v13)(h14:Sep.lk env i14=some v14)(h15:Sep.lk env i15=some v15)(h16:Sep.lk env i16=some v16)(h17:Sep.lk env i17=some v17)(h18:Sep.lk env i18=some v18)(h19:Sep.lk env i19=some v19)(h20:Sep.lk env i20=some v20)(h21:Sep.lk env i21=some v21)(h22:Sep.lk env i22=some v22):Restr env [(i0,v0),(i1,v1),(i2,v2),(i3,v3),(i4,v4),(i5,v5),(i6,v6),(i7,v7),(i8,v8),(i9,v9),(i10,v10),(i11,v11),(i12,v12),(i13,v13),(i14,v14),(i15,v15),(i16,v16),(i17,v17),(i18,v18),(i19,v19),(i20,v20),(i21,v21),(i22,v22)] := .cons h0 (.cons h1 (.cons h2 (.cons h3 (.cons h4 (.cons h5 (.cons h6 (.cons h7 (.cons h8 (.cons h9 (.cons h10 (.cons h11 (.cons h12 (.cons h13 (.cons h14 (.cons h15 (.cons h16 (.cons h17 (.cons h18 (.cons h19 (.cons h20 (.cons h21 (.cons h22 .nil))))))))))))))))))))))
theorem Restr.r25{env:List (Nat×Value)}{i0 i1 i2 i3 i4 i5 i6 i7 i8 i9 i10 i11 i12 i13 i14 i15 i16 i17 i18 i19 i20 i21 i22 i23 i24:Nat}{v0 v1 v2 v3 v4 v5 v6 v7 v8 v9 v10 v11 v12 v13 v14 v15 v16 v17 v18 v19 v20 v21 v22 v23 v24:Value}(h0:Sep.lk env i0=some v0)(h1:Sep.lk env i1=some v1)(h2:Sep.lk env i2=some v2)(h3:Sep.lk env i3=some v3)(h4:Sep.lk env i4=some v4)(h5:Sep.lk env i5=some v5)(h6:Sep.lk env i6=some v6)(h7:Sep.lk env i7=some v7)(h8:Sep.lk env i8=some v8)(h9:Sep.lk env i9=some v9)(h10:Sep.lk env i10=some v10)(h11:Sep.lk env i11=some v11)(h12:Sep.lk env i12=some v12)(h13:Sep.lk env i13=some v13)(h14:Sep.lk env i14=some v14)(h15:Sep.lk env i15=some v15)(h16:Sep.lk env i16=some v16)(h17:Sep.lk env i17=some v17)(h18:Sep.lk env i18=some v18)(h19:Sep.lk env i19=some v19)(h20:Sep.lk env i20=some v20)(h21:Sep.lk env i21=some v21)(h22:Sep.lk env i22=some v22)(h23:Sep.lk env i23=some v23)(h24:Sep.lk env i24=some v24):Restr env [(i0,v0),(i1,v1),(i2,v2),(i3,v3),(i4,v4),(i5,v5),(i6,v6),(i7,v7),(i8,v8),(i9,v9),(i10,v10),(i11,v11),(i12,v12),(i13,v13),(i14,v14),(i15,v15),(i16,v16),(i17,v17),(i18,v18),(i19,v19),(i20,v20),(i21,v21),(i22,v22),(i23,v23),(i24,v24)] := .cons h0 (.cons h1 (.cons h2 (.cons h3 (.cons h4 (.cons h5 (.cons h6 (.cons h7 (.cons h8 (.cons h9 (.cons h10 (.cons h11 (.cons h12 (.cons h13 (.cons h14 (.cons h15 (.cons h16 (.cons h17 (.cons h18 (.cons h19 (.cons h20 (.cons h21 (.cons h22 (.cons h23 (.cons h24 .nil))))))))))))))))))))))))
theorem Restr.r29{env:List (Nat×Value)}{i0 i1 i2 i3 i4 i5 i6 i7 i8 i9 i10 i11 i12 i13 i14 i15 i16 i17 i18 i19 i20 i21 i22 i23 i24 i25 i26 i27 i28:Nat}{v0 v1 v2 v3 v4 v5 v6 v7 v8 v9 v10 v11 v12 v13 v14 v15 v16 v17 v18 v19 v20 v21 v22 v23 v24 v25 v26 v27 v28:Value}(h0:Sep.lk env i0=some v0)(h1:Sep.lk env i1=some v1)(h2:Sep.lk env i2=some v2)(h3:Sep.lk env i3=some v3)(h4:Sep.lk env i4=some v4)(h5:Sep.lk env i5=some v5)(h6:Sep.lk env i6=some v6)(h7:Sep.lk env i7=some v7)(h8:Sep.lk env i8=some v8)(h9:Sep.lk env i9=some v9)(h10:Sep.lk env i10=some v10)(h11:Sep.lk env i11=some v11)(h12:Sep.lk env i12=some v12)(h13:Sep.lk env i13=some v13)(h14:Sep.lk env i14=some v14)(h15:Sep.lk env i15=some v15)(h16:Sep.lk env i16=some v16)(h17:Sep.lk env i17=some v17)(h18:Sep.lk env i18=some v18)(h19:Sep.lk env i19=some v19)(h20:Sep.lk env i20=some v20)(h21:Sep.lk env i21=some v21)(h22:Sep.lk env i22=some v22)(h23:Sep.lk env i23=some v23)(h24:Sep.lk env i24=some v24)(h25:Sep.lk env i25=some v25)(h26:Sep.lk env i26=some v26)(h27:Sep.lk env i27=some v27)(h28:Sep.lk env i28=some v28):Restr env [(i0,v0),(i1,v1),(i2,v2),(i3,v3),(i4,v4),(i5,v5),(i6,v6),(i7,v7),(i8,v8),(i9,v9),(i10,v10),(i11,v11),(i12,v12),(i13,v13),(i14,v14),(i15,v15),(i16,v16),(i17,v17),(i18,v18),(i19,v19),(i20,v20),(i21,v21),(i22,v22),(i23,v23),(i24,v24),(i25,v25),(i26,v26),(i27,v27),(i28,v28)] := .cons h0 (.cons h1 (.cons h2 (.cons h3 (.cons h4 (.cons h5 (.cons h6 (.cons h7 (.cons h8 (.cons h9 (.cons h10 (.cons h11 (.cons h12 (.cons h13 (.cons h14 (.cons h15 (.cons h16 (.cons h17 (.cons h18 (.cons h19 (.cons h20 (.cons h21 (.cons h22 (.cons h23 (.cons h24 (.cons h25 (.cons h26 (.cons h27 (.cons h28 .nil))))))))))))))))))))))))))))
theorem Eos.r2{env:List (Nat×Value)}{i0 i1:Operand}{v0 v1:Value}(h0:Sep.eo env i0=some v0)(h1:Sep.eo env i1=some v1):Eos env [i0,i1] [v0,v1] := .cons h0 (.cons h1 .nil)
theorem Eos.r3{env:List (Nat×Value)}{i0 i1 i2:Operand}{v0 v1 v2:Value}(h0:Sep.eo env i0=some v0)(h1:Sep.eo env i1=some v1)(h2:Sep.eo env i2=some v2):Eos env [i0,i1,i2] [v0,v1,v2] := .cons h0 (.cons h1 (.cons h2 .nil))
theorem Eos.r4{env:List (Nat×Value)}{i0 i1 i2 i3:Operand}{v0 v1 v2 v3:Value}(h0:Sep.eo env i0=some v0)(h1:Sep.eo env i1=some v1)(h2:Sep.eo env i2=some v2)(h3:Sep.eo env i3=some v3):Eos env [i0,i1,i2,i3] [v0,v1,v2,v3] := .cons h0 (.cons h1 (.cons h2 (.cons h3 .nil)))
theorem Eos.r5{env:List (Nat×Value)}{i0 i1 i2 i3 i4:Operand}{v0 v1 v2 v3 v4:Value}(h0:Sep.eo env i0=some v0)(h1:Sep.eo env i1=some v1)(h2:Sep.eo env i2=some v2)(h3:Sep.eo env i3=some v3)(h4:Sep.eo env i4=some v4):Eos env [i0,i1,i2,i3,i4] [v0,v1,v2,v3,v4] := .cons h0 (.cons h1 (.cons h2 (.cons h3 (.cons h4 .nil))))
theorem Eos.r6{env:List (Nat×Value)}{i0 i1 i2 i3 i4 i5:Operand}{v0 v1 v2 v3 v4 v5:Value}(h0:Sep.eo env i0=some v0)(h1:Sep.eo env i1=some v1)(h2:Sep.eo env i2=some v2)(h3:Sep.eo env i3=some v3)(h4:Sep.eo env i4=some v4)(h5:Sep.eo env i5=some v5):Eos env [i0,i1,i2,i3,i4,i5] [v0,v1,v2,v3,v4,v5] := .cons h0 (.cons h1 (.cons h2 (.cons h3 (.cons h4 (.cons h5 .nil)))))
theorem Eos.r7{env:List (Nat×Value)}{i0 i1 i2 i3 i4 i5 i6:Operand}{v0 v1 v2 v3 v4 v5 v6:Value}(h0:Sep.eo env i0=some v0)(h1:Sep.eo env i1=some v1)(h2:Sep.eo env i2=some v2)(h3:Sep.eo env i3=some v3)(h4:Sep.eo env i4=some v4)(h5:Sep.eo env i5=some v5)(h6:Sep.eo env i6=some v6):Eos env [i0,i1,i2,i3,i4,i5,i6] [v0,v1,v2,v3,v4,v5,v6] := .cons h0 (.cons h1 (.cons h2 (.cons h3 (.cons h4 (.cons h5 (.cons h6 .nil))))))
theorem Eos.r8{env:List (Nat×Value)}{i0 i1 i2 i3 i4 i5 i6 i7:Operand}{v0 v1 v2 v3 v4 v5 v6 v7:Value}(h0:Sep.eo env i0=some v0)(h1:Sep.eo env i1=some v1)(h2:Sep.eo env i2=some v2)(h3:Sep.eo env i3=some v3)(h4:Sep.eo env i4=some v4)(h5:Sep.eo env i5=some v5)(h6:Sep.eo env i6=some v6)(h7:Sep.eo env i7=some v7):Eos env [i0,i1,i2,i3,i4,i5,i6,i7] [v0,v1,v2,v3,v4,v5,v6,v7] := .cons h0 (.cons h1 (.cons h2 (.cons h3 (.cons h4 (.cons h5 (.cons h6 (.cons h7 .nil)))))))
theorem Sel.s2{α:Type}{x0 x1:α}{L R1 R2:List α}(h0:Pick L x0 R1)(h1:Pick R1 x1 R2):Sel L [x0,x1] R2 := .cons h0 (.cons h1 .nil)
theorem Sel.s3{α:Type}{x0 x1 x2:α}{L R1 R2 R3:List α}(h0:Pick L x0 R1)(h1:Pick R1 x1 R2)(h2:Pick R2 x2 R3):Sel L [x0,x1,x2] R3 := .cons h0 (.cons h1 (.cons h2 .nil))
theorem Sel.s4{α:Type}{x0 x1 x2 x3:α}{L R1 R2 R3 R4:List α}(h0:Pick L x0 R1)(h1:Pick R1 x1 R2)(h2:Pick R2 x2 R3)(h3:Pick R3 x3 R4):Sel L [x0,x1,x2,x3] R4 := .cons h0 (.cons h1 (.cons h2 (.cons h3 .nil)))
theorem Sel.s5{α:Type}{x0 x1 x2 x3 x4:α}{L R1 R2 R3 R4 R5:List α}(h0:Pick L x0 R1)(h1:Pick R1 x1 R2)(h2:Pick R2 x2 R3)(h3:Pick R3 x3 R4)(h4:Pick R4 x4 R5):Sel L [x0,x1,x2,x3,x4] R5 := .cons h0 (.cons h1 (.cons h2 (.cons h3 (.cons h4 .nil))))
theorem Sel.s6{α:Type}{x0 x1 x2 x3 x4 x5:α}{L R1 R2 R3 R4 R5 R6:List α}(h0:Pick L x0 R1)(h1:Pick R1 x1 R2)(h2:Pick R2 x2 R3)(h3:Pick R3 x3 R4)(h4:Pick R4 x4 R5)(h5:Pick R5 x5 R6):Sel L [x0,x1,x2,x3,x4,x5] R6 := .cons h0 (.cons h1 (.cons h2 (.cons h3 (.cons h4 (.cons h5 .nil)))))
theorem Sel.s7{α:Type}{x0 x1 x2 x3 x4 x5 x6:α}{L R1 R2 R3 R4 R5 R6 R7:List α}(h0:Pick L x0 R1)(h1:Pick R1 x1 R2)(h2:Pick R2 x2 R3)(h3:Pick R3 x3 R4)(h4:Pick R4 x4 R5)(h5:Pick R5 x5 R6)(h6:Pick R6 x6 R7):Sel L [x0,x1,x2,x3,x4,x5,x6] R7 := .cons h0 (.cons h1 (.cons h2 (.cons h3 (.cons h4 (.cons h5 (.cons h6 .nil))))))
theorem Sel.s8{α:Type}{x0 x1 x2 x3 x4 x5 x6 x7:α}{L R1 R2 R3 R4 R5 R6 R7 R8:List α}(h0:Pick L x0 R1)(h1:Pick R1 x1 R2)(h2:Pick R2 x2 R3)(h3:Pick R3 x3 R4)(h4:Pick R4 x4 R5)(h5:Pick R5 x5 R6)(h6:Pick R6 x6 R7)(h7:Pick R7 x7 R8):Sel L [x0,x1,x2,x3,x4,x5,x6,x7] R8 := .cons h0 (.cons h1 (.cons h2 (.cons h3 (.cons h4 (.cons h5 (.cons h6 (.cons h7 .nil)))))))
theorem Sel.s9{α:Type}{x0 x1 x2 x3 x4 x5 x6 x7 x8:α}{L R1 R2 R3 R4 R5 R6 R7 R8 R9:List α}(h0:Pick L x0 R1)(h1:Pick R1 x1 R2)(h2:Pick R2 x2 R3)(h3:Pick R3 x3 R4)(h4:Pick R4 x4 R5)(h5:Pick R5 x5 R6)(h6:Pick R6 x6 R7)(h7:Pick R7 x7 R8)(h8:Pick R8 x8 R9):Sel L [x0,x1,x2,x3,x4,x5,x6,x7,x8] R9 := .cons h0 (.cons h1 (.cons h2 (.cons h3 (.cons h4 (.cons h5 (.cons h6 (.cons h7 (.cons h8 .nil))))))))
theorem Sel.s10{α:Type}{x0 x1 x2 x3 x4 x5 x6 x7 x8 x9:α}{L R1 R2 R3 R4 R5 R6 R7 R8 R9 R10:List α}(h0:Pick L x0 R1)(h1:Pick R1 x1 R2)(h2:Pick R2 x2 R3)(h3:Pick R3 x3 R4)(h4:Pick R4 x4 R5)(h5:Pick R5 x5 R6)(h6:Pick R6 x6 R7)(h7:Pick R7 x7 R8)(h8:Pick R8 x8 R9)(h9:Pick R9 x9 R10):Sel L [x0,x1,x2,x3,x4,x5,x6,x7,x8,x9] R10 := .cons h0 (.cons h1 (.cons h2 (.cons h3 (.cons h4 (.cons h5 (.cons h6 (.cons h7 (.cons h8 (.cons h9 .nil)))))))))
theorem Sel.s11{α:Type}{x0 x1 x2 x3 x4 x5 x6 x7 x8 x9 x10:α}{L R1 R2 R3 R4 R5 R6 R7 R8 R9 R10 R11:List α}(h0:Pick L x0 R1)(h1:Pick R1 x1 R2)(h2:Pick R2 x2 R3)(h3:Pick R3 x3 R4)(h4:Pick R4 x4 R5)(h5:Pick R5 x5 R6)(h6:Pick R6 x6 R7)(h7:Pick R7 x7 R8)(h8:Pick R8 x8 R9)(h9:Pick R9 x9 R10)(h10:Pick R10 x10 R11):Sel L [x0,x1,x2,x3,x4,x5,x6,x7,x8,x9,x10] R11 := .cons h0 (.cons h1 (.cons h2 (.cons h3 (.cons h4 (.cons h5 (.cons h6 (.cons h7 (.cons h8 (.cons h9 (.cons h10 .nil))))))))))
theorem Pick.o{α:Type}{x:α}{R:List α}:Pick (x::R) x R := .here
theorem Sel.a2 {α : Type} {x0 x1 : α} {R : List α} : Sel (x0 :: x1 :: R) [x0, x1] R := .s2 .here .here
theorem Sel.a3 {α : Type} {x0 x1 x2 : α} {R : List α} : Sel (x0 :: x1 :: x2 :: R) [x0, x1, x2] R := .s3 .here .here .here
theorem Sel.a4 {α : Type} {x0 x1 x2 x3 : α} {R : List α} : Sel (x0 :: x1 :: x2 :: x3 :: R) [x0, x1, x2, x3] R := .s4 .here .here .here .here
theorem Sel.a5 {α : Type} {x0 x1 x2 x3 x4 : α} {R : List α} : Sel (x0 :: x1 :: x2 :: x3 :: x4 :: R) [x0, x1, x2, x3, x4] R := .s5 .here .here .here .here .here
theorem Sel.a6 {α : Type} {x0 x1 x2 x3 x4 x5 : α} {R : List α} : Sel (x0 :: x1 :: x2 :: x3 :: x4 :: x5 :: R) [x0, x1, x2, x3, x4, x5] R := .s6 .here .here .here .here .here .here
theorem Sel.a8 {α : Type} {x0 x1 x2 x3 x4 x5 x6 x7 : α} {R : List α} : Sel (x0 :: x1 :: x2 :: x3 :: x4 :: x5 :: x6 :: x7 :: R) [x0, x1, x2, x3, x4, x5, x6, x7] R := .s8 .here .here .here .here .here .here .here .here
theorem Sel.a9 {α : Type} {x0 x1 x2 x3 x4 x5 x6 x7 x8 : α} {R : List α} : Sel (x0 :: x1 :: x2 :: x3 :: x4 :: x5 :: x6 :: x7 :: x8 :: R) [x0, x1, x2, x3, x4, x5, x6, x7, x8] R := .s9 .here .here .here .here .here .here .here .here .here
theorem Sel.a10 {α : Type} {x0 x1 x2 x3 x4 x5 x6 x7 x8 x9 : α} {R : List α} : Sel (x0 :: x1 :: x2 :: x3 :: x4 :: x5 :: x6 :: x7 :: x8 :: x9 :: R) [x0, x1, x2, x3, x4, x5, x6, x7, x8, x9] R := .s10 .here .here .here .here .here .here .here .here .here .here
theorem Sel.a11 {α : Type} {x0 x1 x2 x3 x4 x5 x6 x7 x8 x9 x10 : α} {R : List α} : Sel (x0 :: x1 :: x2 :: x3 :: x4 :: x5 :: x6 :: x7 :: x8 :: x9 :: x10 :: R) [x0, x1, x2, x3, x4, x5, x6, x7, x8, x9, x10] R := .s11 .here .here .here .here .here .here .here .here .here .here .here
end Sep
namespace Sep
open Go Go.RowKit
/-! ### keys that are structs or arrays of numbers -/
theorem ycc{P:Program}{kt:TypeId}{κ:Type}[DecidableEq κ]{ek:κ→Value}(heq:∀ u v w,(Op.equal kt (ek u) (ek v)).run P w = .ok (decide (u=v)) w)(k:κ):
  ∀(es:List MapEntry) (ks:List κ) (i:Nat) (w:World),es.map (·.key)=ks.map ek→
   (Instr.findAsking kt (ek k) es i).run P w = .ok ((ks.findIdx? fun k'=>decide (k=k')).map fun j=>(i+j,((es[j]?).map (·.val)).getD undef)) w
 | [],[],i,w,_=>by simp[Instr.findAsking]
 | [],_::_,_,_,h=>by simp at h
 | _::_,[],_,_,h=>by simp at h
 | e::es,k'::ks,i,w,h=>by
  simp only[List.map_cons,List.cons.injEq] at h
  unfold Instr.findAsking
  rw[h.1]
  simp only[Sem.run_bind,heq,Result.andThen_ok,List.findIdx?_cons]
  by_cases hk:k=k'
  ·subst hk;simp
  ·simp only[hk,decide_false,Bool.false_eq_true,if_false]
   rw[ycc heq k es ks (i+1) w h.2]
   cases ks.findIdx? (fun k'=>decide (k=k')) with
   | none=>rfl
   | some j=>simp;omega
theorem ybI{P:Program}{kt:TypeId}{κ:Type}[DecidableEq κ]{enc:κ→List Value}{dd:TypeDesc}(hd:P.underlying kt=some dd)(hs:∀ a b,Instr.sameNow dd (.agg a) (.agg b)=none)(hchk:∀ b k w,(Instr.checkKey b 10000 kt (.agg (enc k).toArray)).run P w = .ok () w)(heq:∀ u v w,(Op.equal kt (.agg (enc u).toArray) (.agg (enc v).toArray)).run P w = .ok (decide (u=v)) w)(hbits:∀ k,Instr.sameBits 10000 (.agg (enc k).toArray) (.agg (enc k).toArray)=true):KeyT P kt (fun x => .agg (enc x).toArray) where
 chk:=hchk
 find k es ks w hk:=by
  unfold Instr.findKey
  simp only[Sem.run_bind,run_underlying hd,Result.andThen_ok]
  cases es with
  | nil=>cases ks with
   | nil=>simp[Instr.findNow]
   | cons=>simp at hk
  | cons e es=>cases ks with
   | nil=>simp at hk
   | cons k' ks=>
    have h0:Instr.findNow dd (.agg (enc k).toArray) (e::es) 0=none:=by
     unfold Instr.findNow
     simp only[List.map_cons,List.cons.injEq] at hk
     rw[hk.1,hs]
    rw[h0]
    have:=ycc (P:=P) (kt:=kt) (ek:=fun x=>Value.agg (enc x).toArray) heq k (e::es) (k'::ks) 0 w hk
    simpa using this
 stays k w:=by simp[Instr.keyThatStays,hbits]
end Sep
namespace Sep
open Go Go.RowKit
/-! ### maps of owned objects: the map holds pointers, the objects lie beside it -/
section y2m
variable {κ β α γ:Type} [DecidableEq κ]
def dat(lg:List (κ×((Nat×β)×α))):List (κ×α):=lg.map fun p=>(p.1,p.2.2)
def y7T(k:κ):List (κ×γ)→List (κ×γ)
 | []=>[]
 | p::l=>if k=p.1 then l else p::y7T k l
def y2m(els:Nat×β→α→List Asrt)(lg:List (κ×((Nat×β)×α))):Asrt:=y1M (lg.flatMap fun p=>els p.2.1 p.2.2)
theorem yfd(k:κ)(v:γ):∀ lg:List (κ×γ),(yF lg k v).Perm ((k,v)::y7T k lg)
 | [] => .refl _
 | p::l=>by
  unfold yF y7T
  by_cases hk:k=p.1
  ·subst hk;simp only[if_true];exact .refl _
  ·simp only[hk,if_false]
   exact((yfd k v l).cons p).trans (.swap _ _ _)
theorem ycA(k:κ):∀ lg:List (κ×γ),y2V lg k=true→∃ v,(∀ d,yf lg k d=v)∧lg.Perm ((k,v)::y7T k lg)
 | [],h=>by simp[y2V] at h
 | p::l,h=>by
  unfold y2V at h
  unfold y7T
  by_cases hk:k=p.1
  ·subst hk;exact⟨p.2,fun d=>by simp[yf],by simp⟩
  ·simp only[hk,if_false] at h ⊢
   obtain⟨v,h1,h2⟩:=ycA k l h
   exact⟨v,fun d=>by unfold yf;simp[hk,h1 d],(h2.cons p).trans (.swap _ _ _)⟩
theorem yfV{lg:List (κ×((Nat×β)×α))}{l:List (κ×α)}(h:dat lg=l)(k:κ)(g:Nat×β)(x:α):dat (yF lg k (g,x))=yF l k x:=by
 subst h
 induction lg with
 | nil=>rfl
 | cons p l ih=>
  unfold dat at ih ⊢
  rw[List.map_cons]
  unfold yF
  by_cases hk:k=p.1
  ·simp[hk]
  ·simp only[hk,if_false,List.map_cons,ih]
theorem mget_dat{lg:List (κ×((Nat×β)×α))}(k:κ)(d:α)(g:Nat×β):yf (dat lg) k d=(yf lg k (g,d)).2:=by
 induction lg with
 | nil=>rfl
 | cons p l ih=>unfold dat at ih ⊢;rw[List.map_cons];unfold yf;by_cases hk:k=p.1 <;> simp[hk,ih]
section hp
variable {F:List Nat} {w₀ w:World} {L R R':List Asrt} {els:Nat×β→α→List Asrt} {lg:List (κ×((Nat×β)×α))} {l:List (κ×α)}
theorem Hp.ye9(els:Nat×β→α→List Asrt)(h:Hp F w₀ w L):Hp F w₀ w (y2m (κ:=κ) els []::L):=Hp.y9j (M:=[]) h
theorem ycB{δ:Type}{f:δ→List Asrt}{a b:List δ}(h:a.Perm b):(a.flatMap f).Perm (b.flatMap f):=List.Perm.flatMap_right f h
theorem Hp.ycC{k:κ}{b:Nat}{g:β}{x:α}(hs:Sel L (els (b,g) x++[y2m els (y7T k lg)]) R)(h:Hp F w₀ w L):Hp F w₀ w (y2m els (yF lg k ((b,g),x))::R):=by
 have h1:=(h.selAll hs).open_
 have h2:Hp F w₀ w (y2m els (y7T k lg)::(els (b,g) x++R)):=h1.perm (by
  rw[List.append_assoc];exact List.perm_middle)
 have h3:=Hp.open_ h2
 refine Hp.y9j (h3.perm ?_)
 refine List.Perm.trans ?_ ((ycB (f:=fun p:κ×((Nat×β)×α)=>els p.2.1 p.2.2) (yfd k ((b,g),x) lg).symm).append_right R)
 rw[List.flatMap_cons,List.append_assoc]
 rw[← List.append_assoc,← List.append_assoc]
 exact List.perm_append_comm.append_right R
end hp
end y2m
theorem ycD{κ γ:Type}[DecidableEq κ]{k:κ}{v d:γ}:∀ {l:List (κ×γ)},y2V l k=true→yf l k d=v→yF l k v=l
 | [],h,_=>by simp[y2V] at h
 | p::l,h,hv=>by
  unfold y2V at h
  unfold yf at hv
  unfold yF
  by_cases hk:k=p.1
  ·subst hk;simp only[if_true] at hv ⊢;subst hv;rfl
  ·simp only[hk,if_false] at h hv ⊢;rw[ycD h hv]
theorem Hp.yfW{κ α:Type}{F:List Nat}{w₀ w:World}{L R:List Asrt}{b:Nat}{ek:κ→Value}{ev:α→Value}{l l':List (κ×α)}(hm:Pick L (ym b ek ev l) R)(he:l=l')(h:Hp F w₀ w L):Hp F w₀ w (ym b ek ev l'::R):=by
 subst he;exact h.front hm
section gh
variable [Rnd]
variable {P:Program} {n:Nat} {F:List Nat} {w₀:World} {env:List (Nat×Value)} {L R:List Asrt} {ops:Array Oper} {Q:Exit→Act→World→Prop} {l:List Oper} {G:Type} {φ:G→Prop} {L':G→List Asrt} {M:List Asrt}
theorem WL.gh(h:∀ w,Hp F w₀ w L→∃ g,φ g∧Hp F w₀ w (L' g))(k:∀ g,φ g→WL P n F w₀ ops Q l env (L' g)):WL P n F w₀ ops Q l env L:=fun a w hs=>by
 obtain⟨g,h1,h2⟩:=h w hs.hp;exact k g h1 a w (hs.world h2)
theorem WL.ghL(h:∀ w,Hp F w₀ w L→Hp F w₀ w M)(k:WL P n F w₀ ops Q l env M):WL P n F w₀ ops Q l env L:=fun a w hs=>k a w (hs.world (h w hs.hp))
theorem WC.ghL{c:Code}(h:∀ w,Hp F w₀ w L→Hp F w₀ w M)(k:WC P n F w₀ Q c env M):WC P n F w₀ Q c env L:=fun a w hs=>k a w (hs.world (h w hs.hp))
theorem WX.ghL{e:Exit}(h:∀ w,Hp F w₀ w L→Hp F w₀ w M)(k:WX n F w₀ Q e env M):WX n F w₀ Q e env L:=fun a w hs=>k a w (hs.world (h w hs.hp))
variable {tl:Nat→Bool} {Ls:List Asrt} {fuel:Nat} {listed:Array Bool} {QD:Act→World→Prop}
theorem WD.gh(h:∀ w,Hp F w₀ w L→∃ g,φ g∧Hp F w₀ w (L' g))(k:∀ g,φ g→WD P n F w₀ ops tl Ls QD fuel listed env (L' g)):WD P n F w₀ ops tl Ls QD fuel listed env L:=fun a w hs=>by
 obtain⟨g,h1,h2⟩:=h w hs.hp;exact k g h1 a w (hs.world h2)
theorem WD.ghL(h:∀ w,Hp F w₀ w L→Hp F w₀ w M)(k:WD P n F w₀ ops tl Ls QD fuel listed env M):WD P n F w₀ ops tl Ls QD fuel listed env L:=fun a w hs=>k a w (hs.world (h w hs.hp))
end gh
/-! ### interface values -/
section ifc
variable [Rnd]
variable {P:Program} {n:Nat} {F:List Nat} {w₀:World} {env:List (Nat×Value)} {L R:List Asrt} {d:Option Tmp} {ty:TypeId} {pos:String} {after:Array Edge} {g:Option (Nat×Bool)} {x y:Operand} {v:Value} {t e T:TypeId}
end ifc
end Sep
namespace Sep
open Go Go.RowKit
/-! ### 'm[k] op= v': the entry is made sure of, and stored to by its stamp -/
section ent
variable {κ α:Type} [DecidableEq κ]
def mapE(b:Nat)(ek:κ→Value)(ev:α→Value)(l:List (κ×α))(k:κ)(s:Nat):Asrt where
 fp:=[b]
 ok w:=∃ es clock i e,w.heap[b]?=some (.map es clock)∧es.toList.map (fun e=>(e.key,e.val))=l.map (fun p=>(ek p.1,ev p.2))∧y6s es clock∧
  ((l.map (·.1)).findIdx? fun k'=>decide (k=k'))=some i∧es[i]?=some e∧e.born=s
 loc w w' h hl hk:=by
  obtain⟨es,clock,i,e,h1,h2⟩:=hk
  exact⟨es,clock,i,e,by rw[h b (by simp) (hl b (by simp))];exact h1,h2⟩
variable [Rnd]
variable {P:Program} {n:Nat} {F:List Nat} {w₀:World} {env:List (Nat×Value)} {L R:List Asrt} {d:Option Tmp} {ty:TypeId} {pos:String} {after:Array Edge} {g:Option (Nat×Bool)} {x y z:Operand} {t kt e:TypeId}
 {ek:κ→Value} {ev:α→Value} {l:List (κ×α)} {b:Nat} {k:κ} {v dflt:α} {zv:Value}
theorem Hp.setMapG{w:World}{X Y:Asrt}{o:Obj}(h:Hp F w₀ w L)(hm:Pick L X R)(hX:X.fp=[b])(hY:Y.fp=[b])(hok:∀ w',w'.heap[b]?=some o→Y.ok w'):
  Hp F w₀ { w with heap:=w.heap.setIfInBounds b o } (Y::R):=by
 have hlt:b<w.heap.size:=(h.front hm).lt _ (List.mem_cons_self ..) b (by simp[hX])
 refine(h.front hm).upd (x:=X) (y:=Y) .here rfl ⟨rfl,Nat.le_refl _⟩ rfl (by simp) (fun k _ hk'=>?_) (hok _ (by simp[hlt])) ?_
 ·have:b≠k:=fun e=>hk' (by simp[hX,e])
  simp[Array.getElem?_setIfInBounds,this]
 ·intro b' hb'
  rw[hY] at hb'
  simp only[List.mem_singleton] at hb'
  subst hb'
  exact⟨by simpa using hlt,.inl (by simp[hX])⟩
theorem yfe{γ:Type}{k:κ}{u v:γ}:∀ {l:List (κ×γ)},yF (yF l k u) k v=yF l k v
 | []=>by simp[yF]
 | p::l=>by
  by_cases hk:k=p.1
  ·subst hk;simp[yF]
  ·simp only[yF,hk,if_false];rw[yfe]
theorem ydv{k:κ}:∀ {l:List κ},(l.findIdx? fun k'=>decide (k=k'))=none→((l++[k]).findIdx? fun k'=>decide (k=k'))=some l.length
 | [],_=>by simp
 | a::l,h=>by
  rw[List.findIdx?_cons] at h
  rw[List.cons_append,List.findIdx?_cons]
  by_cases hk:k=a
  ·subst hk;simp at h
  ·simp only[hk,decide_false,Bool.false_eq_true,if_false,Option.map_eq_none_iff] at h ⊢
   rw[ydv h];rfl
theorem yhM(K:KeyT P kt ek)(ht:P.underlying t=some (.map kt e))(hz:y2y P e zv)(hd:zv=ev dflt)(hx:eo env x=some (.map (some b)))(hy:eo env y=some (ek k))(hm:Pick L (ym b ek ev l) R):
  Ef P n F w₀ env L ⟨d,.mapEntry t x y,ty,pos,after,g⟩ (fun _:Nat=>True) (fun s => .tuple #[ev (yf l k dflt),.int .i64 ((s:Nat):Int)]) (fun s=>mapE b ek ev (yF l k (yf l k dflt)) k s::R):=by
 intro a w h
 obtain⟨es,clock,hb,he,hst⟩:=h.hp.ok _ hm.mem
 have h1:=K.find k es.toList (l.map (·.1)) w (yab he)
 have h2:=y9k (ek:=ek) (ev:=ev) (k:=k) (d:=dflt) l es.toList he
 have h3:=ycx (k:=k) l
 have hzw:=congrFun hz w
 cases hf:(l.map (·.1)).findIdx? (fun k'=>decide (k=k')) with
 | none=>
  rw[hf] at h1 h2 h3
  simp only[Option.map_none] at h1 h2
  refine⟨clock,{ w with heap:=w.heap.setIfInBounds b (.map (es.push { key:=ek k,val:=ev dflt,born:=clock }) (clock+1)) },?_,trivial,?_⟩
  ·simp[execOp,h.eval hx,h.eval hy,Instr.mapEntry,Sem.run_bind,run_underlying ht,Result.andThen,MapKept.run_getObj_map hb,K.chk,h1,hzw,hd,MapKept.run_setObj_map _ hb,goInt,← h2]
  ·refine h.hp.setMapG (X:=ym b ek ev l) hm rfl rfl (fun w' hw'=>⟨_,_,l.length,{ key:=ek k,val:=ev dflt,born:=clock },hw',?_,hst.push _ _,?_,?_,rfl⟩)
   ·rw[y9m l hf]
    have:ev (yf l k dflt)=ev dflt:=h2.symm
    simp[he,this]
   ·rw[y9m l hf,List.map_append]
    simpa using ydv hf
   ·have hl:es.size=l.length:=by have:=congrArg List.length he;simpa using this
    rw[← hl];simp
 | some i=>
  rw[hf] at h1 h2 h3
  obtain⟨i1,i2,i3⟩:=y9l (v:=yf l k dflt) l es.toList i he hf
  have i1':i<es.size:=by simpa using i1
  have e0:es[i]?=some es[i]:=Array.getElem?_eq_getElem i1'
  have hk0:es[i].key=ek k:=by
   rw[Array.getElem?_toList,e0] at i2;simpa using i2
  have hv0:es[i].val=ev (yf l k dflt):=by
   simp only[Option.map_some] at h2
   rw[Array.getElem?_toList,e0] at h2;simpa using h2
  refine⟨es[i].born,{ w with heap:=w.heap.setIfInBounds b (.map (es.modify i fun e=>{ e with key:=ek k }) clock) },?_,trivial,?_⟩
  ·simp[execOp,h.eval hx,h.eval hy,Instr.mapEntry,Sem.run_bind,run_underlying ht,Result.andThen,MapKept.run_getObj_map hb,K.chk,h1,e0,hk0,K.stays,MapKept.run_setObj_map _ hb,goInt,hv0]
  ·have hmod:(es.modify i fun e=>{ e with key:=ek k })=es:=by
    apply Array.ext_getElem?
    intro j
    rw[Array.getElem?_modify]
    by_cases hij:i=j
    ·subst hij;rw[e0];simp[← hk0]
    ·simp[hij]
   have hs:yF l k (yf l k dflt)=l:=ycD (d:=dflt) (by rw[← h3];rfl) rfl
   rw[hmod,hs]
   exact h.hp.setMapG (X:=ym b ek ev l) hm rfl rfl (fun w' hw'=>⟨es,clock,i,es[i],hw',he,hst,hf,e0,rfl⟩)
theorem yil{es:Array MapEntry}{i:Nat}{e0:MapEntry}(hn:(es.toList.map (·.born)).Nodup)(h:es[i]?=some e0):es.findIdx? (fun e=>((e.born:Nat):Int) == ((e0.born:Nat):Int))=some i:=by
 rw[Array.findIdx?_eq_some_iff_getElem]
 obtain⟨hi,h1⟩:=Array.getElem?_eq_some_iff.1 h
 refine⟨hi,by simp[h1],?_⟩
 intro j hj
 simp only[beq_iff_eq]
 intro hc
 have hji:j<es.size:=by omega
 have hc':es[j].born=e0.born:=Int.ofNat.inj hc
 have h2:=(List.pairwise_iff_getElem.1 hn) j i (by simpa using hji) (by simpa using hi) hj
 apply h2
 simp[hc',h1]
theorem yfX{vv:Value}{s:Nat}(hx:eo env x=some (.map (some b)))(hy:eo env y=some (.int .i64 ((s:Nat):Int)))(hv:eo env z=some vv)(hvv:vv=ev v)(hm:Pick L (mapE b ek ev l k s) R):
  Ef0 P n F w₀ env L ⟨none,.entryStore t x y z,ty,pos,after,g⟩ (ym b ek ev (yF l k v)::R):=by
 intro a w h
 subst hvv
 obtain⟨es,clock,i,e0,hb,he,hst,hf,hi,rfl⟩:=h.hp.ok _ hm.mem
 have hfi:=yil hst.2 hi
 obtain⟨i1,i2,i3⟩:=y9l (v:=v) l es.toList i he hf
 have hk0:e0.key=ek k:=by rw[Array.getElem?_toList,hi] at i2;simpa using i2
 refine⟨{ w with heap:=w.heap.setIfInBounds b (.map (es.modify i fun e=>{ e with val:=ev v }) clock) },.inl ?_,?_⟩
 ·simp[execOp,h.eval hx,h.eval hy,h.eval hv,Instr.entryStore,Sem.run_bind,Result.andThen,MapKept.run_getObj_map hb,asInt,asIntOf,hfi,MapKept.run_setObj_map _ hb]
 ·refine h.hp.setMapG (X:=mapE b ek ev l k e0.born) hm rfl rfl (fun w' hw'=>⟨_,_,hw',?_,hst.modify _ _ (fun _=>rfl)⟩)
  rw[← i3,Array.toList_modify]
  apply List.ext_getElem?
  intro j
  simp only[List.getElem?_map,List.getElem?_modify]
  by_cases hij:i=j
  ·subst hij
   rw[Array.getElem?_toList,hi]
   simp[hk0]
  ·simp[hij]
theorem yfD{vv:Value}{s:Nat}{u:α}(hx:eo env x=some (.map (some b)))(hy:eo env y=some (.int .i64 ((s:Nat):Int)))(hv:eo env z=some vv)(hvv:vv=ev v)(hm:Pick L (mapE b ek ev (yF l k u) k s) R):
  Ef0 P n F w₀ env L ⟨none,.entryStore t x y z,ty,pos,after,g⟩ (ym b ek ev (yF l k v)::R):=by
 have:=yfX (P:=P) (n:=n) (F:=F) (w₀:=w₀) (L:=L) (env:=env) (t:=t) (ty:=ty) (pos:=pos) (after:=after) (g:=g) (v:=v) hx hy hv hvv hm
 rwa [yfe] at this
def yea(b:Nat)(ek:κ→Value)(ev:α→Value)(k:κ)(d v:α):Asrt where
 fp:=[b]
 ok w:=∃ l,(ym b ek ev l).ok w∧yf l k d=v
 loc w w' h hl hk:=by
  obtain⟨l,h1,h2⟩:=hk
  exact⟨l,(ym b ek ev l).loc w w' h hl h1,h2⟩
theorem y7t{w:World}{d:α}(h:(ym b ek ev l).ok w):(yea b ek ev k d (yf l k d)).ok w:=⟨l,h,rfl⟩
theorem yff{γ:Type}{k:κ}{u d:γ}:∀ {l:List (κ×γ)},yf (yF l k u) k d=u
 | []=>by simp[yF,yf]
 | p::l=>by
  by_cases hk:k=p.1
  ·subst hk;simp[yF,yf]
  ·simp only[yF,hk,if_false,yf];exact yff
theorem yim{w:World}{d:α}{s:Nat}(h:(mapE b ek ev (yF l k (yf l k d)) k s).ok w):(yea b ek ev k d (yf l k d)).ok w:=by
 obtain⟨es,clock,i,e,h1,h2,h3,_⟩:=h
 exact⟨_,⟨es,clock,h1,h2,h3⟩,yff⟩
theorem yfg{u:α}(K:KeyT P kt ek)(ht:P.underlying t=some (.map kt e))(hz:y2y P e zv)(hd:zv=ev dflt)(hx:eo env x=some (.map (some b)))(hy:eo env y=some (ek k))(hm:Pick L (yea b ek ev k dflt u) R):
  Qt P n F w₀ env L ⟨d,.lookup t x y false,ty,pos,after,g⟩ (ev u):=by
 intro a w h
 obtain⟨l,h1,h2⟩:=h.hp.ok _ hm.mem
 have hp':=h.hp.front hm
 have h3:Hp F w₀ w (ym b ek ev l::R):=by
  refine⟨hp'.os,hp'.tape,hp'.output,hp'.size,hp'.block,fun y hy=>?_,fun y hy c hc=>?_,fun y hy c hc=>?_,List.pairwise_cons.2 (List.pairwise_cons.1 hp'.sep)⟩
  ·rcases List.mem_cons.1 hy with rfl | hy
   ·exact h1
   ·exact hp'.ok y (List.mem_cons_of_mem _ hy)
  ·rcases List.mem_cons.1 hy with rfl | hy
   ·exact hp'.lt _ (List.mem_cons_self ..) c hc
   ·exact hp'.lt y (List.mem_cons_of_mem _ hy) c hc
  ·rcases List.mem_cons.1 hy with rfl | hy
   ·exact hp'.ow _ (List.mem_cons_self ..) c hc
   ·exact hp'.ow y (List.mem_cons_of_mem _ hy) c hc
 subst h2
 exact y2C K ht hz hd hx hy .here a w (h.world h3)
end ent
theorem WD.oldQ[Rnd]{P:Program}{n dd:Nat}{F:List Nat}{w₀:World}{env:List (Nat×Value)}{L:List Asrt}{ops:Array Oper}{G:Type}{φ:G→Prop}{val:G→Value}{L':G→List Asrt}{o:Oper}{tl:Nat→Bool}{Ls:List Asrt}{fuel:Nat}{listed:Array Bool}{QD:Act→World→Prop}{i:Nat}(hi:ops[i]?=some o)(hr:Region.ready .any ops listed=[i])(hg:gd env ops o=some true)(hd:o.dst=some dd)(hdn:Nat.blt dd n=true)(ht:tl i=true)(hq:Ef P n F w₀ env L o φ val L')(hst:∀ g,Sin (L' g) Ls)(k:∀ g,φ g→WD P n F w₀ ops tl Ls QD fuel (listed.setIfInBounds i true) ((dd,val g)::env) (L' g)):WD P n F w₀ ops tl Ls QD (fuel+1) listed env L:=
 WD.old hi hr hg hd hdn ht hst hq k
section app
variable [Rnd] {F:List Nat} {w₀:World} {L:List Asrt} {Z:Zp}
theorem ZS.news{α:Type}{Pr:List Value→α→Prop}{sz:Nat}{ao:Option Addr}{cap:Nat}{l:List α}(h:ZS Z sz Pr ao cap l):
  ∃ cs,RR sz Pr cs l∧∀ L F w₀,PV F w₀ L Z→∀ w,Hp F w₀ w L→cs≠[]→∃ A,ao=some A∧∀ j u,cs[j]?=some u→w.cell? (A.add j)=some u:=by
 obtain⟨h1,h2,cs,h3,h4⟩:=h
 refine⟨cs,h3,fun L F w₀ pv w hw hne=>?_⟩
 obtain⟨A,hA,hc⟩:=h4 (by
  rintro rfl
  have:=h3.len
  simp only[List.length_nil,Nat.zero_mul] at this
  exact hne (List.eq_nil_of_length_eq_zero this))
 exact⟨A,hA,hc w (pv w hw)⟩
theorem RR.oc{α:Type}{Pr:List Value→α→Prop}{sz:Nat}{cs:List Value}{l:List α}(h:RR sz Pr cs l)(hP:∀ r x,Pr r x→∀ u∈r,u.oneCell'=true):∀ u∈cs,u.oneCell'=true:=by
 obtain⟨rows,h1,h2,h3,h4⟩:=h
 intro u hu
 rw[← h1] at hu
 obtain⟨r,hr,hur⟩:=List.mem_flatten.1 hu
 obtain⟨i,hi,rfl⟩:=List.getElem_of_mem hr
 exact hP _ _ (h4 i rows[i] (l[i]'(by omega)) (List.getElem?_eq_getElem hi) (List.getElem?_eq_getElem (by omega))) u hur
theorem RR.store{α:Type}[Inhabited α]{Pr:List Value→α→Prop}{sz:Nat}{cs r tl vs:List Value}{l:List α}{i:Int}{y:α}{k:Nat}(h:RR sz Pr cs l)(h0:0≤i)(h1:i<l.length)(hd:cs.drop (i.toNat*sz)=r++tl)(hr:r.length=sz)(hk:k+vs.length≤sz)(hP:Pr (y6q r k vs) y):RR sz Pr (y6q cs (i.toNat*sz+k) vs) (l.set i.toNat y)∧i.toNat*sz+k+vs.length≤cs.length:=by
 have hlen:=h.len
 have hi:i.toNat<l.length:=by omega
 have hle:(i.toNat+1)*sz≤l.length*sz:=Nat.mul_le_mul_right _ (by omega)
 rw[Nat.succ_mul] at hle
 obtain⟨rows,a1,a2,a3,a4⟩:=h
 have hfit:i.toNat*sz+k+vs.length≤cs.length:=by omega
 refine⟨⟨rows.set i.toNat (y6q r k vs),?_,?_,by simp[a3],?_⟩,hfit⟩
 ·have hir:i.toNat<rows.length:=by omega
  have e1:rows=rows.take i.toNat++rows[i.toNat]::rows.drop (i.toNat+1):=by
   rw[List.getElem_cons_drop,List.take_append_drop]
  have e2:(rows.take i.toNat).flatten.length=i.toNat*sz:=by
   have:∀(rs:List (List Value)),(∀ r∈rs,r.length=sz)→rs.flatten.length=rs.length*sz:=by
    intro rs
    induction rs with
    | nil=>simp
    | cons r rs ih=>intro hh;rw[List.flatten_cons,List.length_append,hh r (by simp),ih (fun r hr=>hh r (List.mem_cons_of_mem _ hr)),List.length_cons,Nat.succ_mul,Nat.add_comm]
   rw[this _ (fun r hr=>a2 r (List.mem_of_mem_take hr)),List.length_take,Nat.min_eq_left (by omega)]
  have e3:cs=(rows.take i.toNat).flatten++(rows[i.toNat]++(rows.drop (i.toNat+1)).flatten):=by
   rw[← a1]
   have:=congrArg List.flatten e1
   rw[List.flatten_append,List.flatten_cons] at this
   exact this
  have e4:cs.drop (i.toNat*sz)=rows[i.toNat]++(rows.drop (i.toNat+1)).flatten:=by
   rw[e3,← e2,List.drop_left]
  rw[e4] at hd
  have e5:rows[i.toNat]=r∧(rows.drop (i.toNat+1)).flatten=tl:=List.append_inj hd (by rw[a2 _ (List.getElem_mem hir),hr])
  rw[List.set_eq_take_append_cons_drop,if_pos hir,List.flatten_append,List.flatten_cons]
  rw[e3,e5.1]
  unfold y6q
  rw[← e2]
  generalize (rows.take i.toNat).flatten=A
  generalize (rows.drop (i.toNat+1)).flatten=B
  have t1:(A++(r++B)).take (A.length+k)=A++r.take k:=by
   rw[List.take_length_add_append,List.take_append_of_le_length (by omega)]
  have t2:(A++(r++B)).drop (A.length+k+vs.length)=r.drop (k+vs.length)++B:=by
   rw[Nat.add_assoc,List.drop_length_add_append,List.drop_append_of_le_length (by omega)]
  rw[t1,t2]
  simp only[List.append_assoc]
 ·intro r' hr'
  rcases List.mem_or_eq_of_mem_set hr' with h' | rfl
  ·exact a2 _ h'
  ·unfold y6q;simp;omega
 ·intro j r' x hr' hx
  rw[List.getElem?_set] at hr' hx
  by_cases hj:i.toNat=j
  ·subst hj
   rw[if_pos rfl] at hr' hx
   rw[if_pos (by omega)] at hr' hx
   simp at hr' hx
   subst hr' hx
   exact hP
  ·rw[if_neg hj] at hr' hx
   exact a4 _ _ _ hr' hx
end app
end Sep
namespace Sep
open Go Go.RowKit
set_option linter.unusedSectionVars false
/-! ### a range over a map -/
def y7u(es:List MapEntry)(seen:Array Nat):List MapEntry:=es.filter fun e => !seen.contains e.born
theorem ycd{α β:Type}(f:α→β)(l:List α)(i:Nat):(l.eraseIdx i).map f=(l.map f).eraseIdx i:=by
 simp only[List.eraseIdx_eq_take_drop_succ,List.map_append,List.map_take,List.map_drop]
theorem ygP{l:List MapEntry}{i:Nat}{e:MapEntry}(hn:(l.map (·.born)).Nodup)(h:l[i]?=some e):l.filter (fun q=>q.born != e.born)=l.eraseIdx i:=by
 induction l generalizing i with
 | nil=>simp at h
 | cons a t ih=>
  simp only[List.map_cons,List.nodup_cons,List.mem_map,not_exists,not_and] at hn
  cases i with
  | zero=>
   simp only[List.getElem?_cons_zero,Option.some.injEq] at h
   subst h
   rw[List.filter_cons_of_neg (by simp),List.eraseIdx_cons_zero]
   exact List.filter_eq_self.2 fun q hq=>bne_iff_ne.2 (hn.1 q hq)
  | succ i=>
   rw[List.getElem?_cons_succ] at h
   have hm:e∈t:=List.mem_of_getElem? h
   rw[List.filter_cons_of_pos (by simpa using fun hc=>hn.1 e hm hc.symm),ih hn.2 h,List.eraseIdx_cons_succ]
theorem ygQ{es:List MapEntry}{seen:Array Nat}{i:Nat}{e:MapEntry}(hn:(es.map (·.born)).Nodup)(h:(y7u es seen)[i]?=some e):y7u es (seen.push e.born)=(y7u es seen).eraseIdx i:=by
 rw[← ygP (l:=y7u es seen) (i:=i) (List.Sublist.nodup (List.Sublist.map _ List.filter_sublist) hn) h]
 unfold y7u
 rw[List.filter_filter]
 congr 1;funext q
 rw[Array.contains_push,Bool.not_or,Bool.and_comm]
 simp[bne,Bool.beq_comm,BEq.comm]
theorem yin{l:List MapEntry}{e:MapEntry}(hn:(l.map (·.born)).Nodup)(h:e∈l):l.find? (fun x=>x.born == e.born)=some e:=by
 induction l with
 | nil=>simp at h
 | cons a t ih=>
  simp only[List.map_cons,List.nodup_cons,List.mem_map,not_exists,not_and] at hn
  rcases List.mem_cons.1 h with rfl | h
  ·simp
  ·rw[List.find?_cons_of_neg (by simpa using fun hc=>hn.1 e h hc.symm)];exact ih hn.2 h
section
variable {κ α:Type}
def y6t(r b:Nat)(ek:κ→Value)(ev:α→Value)(l rem:List (κ×α))(cur:Option (κ×α)):Asrt where
 fp:=[r,b]
 ok w:=r≠b∧∃ es clock seen,w.heap[b]?=some (.map es clock)∧es.toList.map (fun e=>(e.key,e.val))=l.map (fun p=>(ek p.1,ev p.2))∧y6s es clock∧w.heap[r]?=some (.mapIter (some b) clock seen clock)∧
  (y7u es.toList seen).map (fun e=>(e.key,e.val))=rem.map (fun p=>(ek p.1,ev p.2))∧
  ∀ c,cur=some c→∃ s e,seen.back?=some s∧es.find? (fun x=>x.born == s)=some e∧e.key=ek c.1∧e.val=ev c.2
 loc w w' h hl hk:=by
  obtain⟨h0,es,clock,seen,h1,h2,h3,h4,h5⟩:=hk
  exact⟨h0,es,clock,seen,by rw[h b (by simp) (hl b (by simp))];exact h1,h2,h3,by rw[h r (by simp) (hl r (by simp))];exact h4,h5⟩
end
section
variable [Rnd]
variable {P:Program} {n:Nat} {F:List Nat} {w₀:World} {env:List (Nat×Value)} {L R:List Asrt} {d:Option Tmp} {ty:TypeId} {pos:String} {after:Array Edge} {g:Option (Nat×Bool)} {x y z:Operand} {t kt e:TypeId}
 {κ α:Type} {ek:κ→Value} {ev:α→Value} {l rem:List (κ×α)} {cur:Option (κ×α)} {r b:Nat}
theorem e_range(ht:P.underlying t=some (.map kt e))(hx:eo env x=some (.map (some b)))(hm:Pick L (ym b ek ev l) R):
  Ef P n F w₀ env L ⟨d,.range t x,ty,pos,after,g⟩ (fun _:Nat=>True) (fun r => .pointer (some ⟨r,0,none⟩)) (fun r=>y6t r b ek ev l l none::R):=by
 intro a w h
 obtain⟨es,clock,hb,he,hst⟩:=h.hp.ok _ hm.mem
 have hbl:b<w.heap.size:=(h.hp.front hm).lt _ (List.mem_cons_self ..) b (by simp[ym])
 refine⟨w.heap.size,w.alloc (.mapIter (some b) clock #[] clock),?_,trivial,?_⟩
 ·simp[execOp,h.eval hx,Instr.range,Sem.run_bind,run_underlying ht,Result.andThen,MapKept.run_getObj_map hb]
 ·have h1:=(h.hp.front hm).alloc (.mapIter (some b) clock #[] clock)
  have hA:=Ext.alloc w (.mapIter (some b) clock #[] clock)
  refine(h.hp.front hm).upd (x:=ym b ek ev l) (y:=y6t w.heap.size b ek ev l l none) .here hA.os hA.tape hA.output hA.size (fun k hk _=>hA.block k hk) ⟨by omega,es,clock,#[],?_,he,hst,?_,?_,by simp⟩ ?_
  ·rw[hA.block b hbl];exact hb
  ·exact heap_alloc_new w _
  ·unfold y7u;rw[List.filter_eq_self.2 (by simp)];exact he
  ·intro q hq
   simp only[y6t,List.mem_cons,List.not_mem_nil,or_false] at hq
   rcases hq with rfl | rfl
   ·exact⟨by simp,.inr (Nat.le_refl _)⟩
   ·exact⟨Nat.lt_of_lt_of_le hbl hA.size,.inl (by simp[ym])⟩
theorem yeb{w:World}{m:Nat}(hm:0<m):∃ i N,i<m∧w.drawn≤N∧(Go.choose (.mapNext m)).run P w = .ok i { w with drawn:=N }:=by
 by_cases h:m≤1
 ·exact⟨0,w.drawn,by omega,Nat.le_refl _,by simp[Go.choose,Sem.run,Question.forced,h]⟩
 ·exact⟨w.tape w.drawn (.mapNext m) % m,w.drawn+1,Nat.mod_lt _ hm,Nat.le_succ _,by simp[-run_choose_drew,Go.choose,Sem.run,Question.forced,h,Question.cut]⟩
theorem e_nextM(hx:eo env x=some (.pointer (some ⟨r,0,none⟩)))(hm:Pick L (y6t r b ek ev l rem cur) R):
  Ef P n F w₀ env L ⟨d,.next x false,ty,pos,after,g⟩ (fun o:Option (Nat×(κ×α))=>match o with | none=>rem=[] | some p=>rem[p.1]?=some p.2)
   (fun o=>match o with | none => .tuple #[.bool false] | some p => .tuple #[.bool true,ek p.2.1,ev p.2.2])
   (fun o=>match o with | none=>y6t r b ek ev l [] cur::R | some p=>y6t r b ek ev l (rem.eraseIdx p.1) (some p.2)::R):=by
 intro a w h
 obtain⟨hrb,es,clock,seen,hb,he,hst,hr,hl,hc⟩:=h.hp.ok _ hm.mem
 have hrl:r<w.heap.size:=(h.hp.front hm).lt _ (List.mem_cons_self ..) r (by simp[y6t])
 have hbl:b<w.heap.size:=(h.hp.front hm).lt _ (List.mem_cons_self ..) b (by simp[y6t])
 have hg1:(getObj r).run P w = .ok (.mapIter (some b) clock seen clock) w:=by simp[getObj,Sem.run,hr]
 have hg2:=MapKept.run_getObj_map (P:=P) hb
 have hu:(!seen.isEmpty && !es.isEmpty&&es.all (fun q=>decide (q.born≥clock)))=false:=by
  by_cases h0:es.isEmpty=true
  ·simp[h0]
  ·have:es.all (fun q=>decide (q.born≥clock))=false:=by
    rw[Bool.eq_false_iff]
    intro hc'
    rw[Array.all_eq_true_iff_forall_mem] at hc'
    have hs:0<es.size:=by
     rw[Array.isEmpty_iff_size_eq_zero] at h0;omega
    have h1:=of_decide_eq_true (hc' es[0] (Array.getElem_mem hs))
    have h2:=hst.1 es[0] (by simp)
    omega
   simp[this]
 have hL:(es.filter fun q => !seen.contains q.born).toList=y7u es.toList seen:=by unfold y7u;rw[Array.toList_filter]
 have hold:(es.filter fun q => !seen.contains q.born).filter (fun q=>decide (q.born<clock))=es.filter fun q => !seen.contains q.born:=by
  apply Array.ext'
  rw[Array.toList_filter,List.filter_eq_self]
  intro q hq
  rw[hL] at hq
  exact decide_eq_true (hst.1 q (List.mem_filter.1 hq).1)
 have hnew:(es.filter fun q => !seen.contains q.born).filter (fun q=>decide (q.born≥clock)) = #[]:=by
  apply Array.ext'
  rw[Array.toList_filter,Array.toList_empty,List.filter_eq_nil_iff]
  intro q hq
  rw[hL] at hq
  have:=hst.1 q (List.mem_filter.1 hq).1
  simp;omega
 have hlen:rem.length=(y7u es.toList seen).length:=by simpa using (congrArg List.length hl).symm
 have hg3:∀ o N,(setObj r o).run P { w with drawn:=N } = .ok () ({ w with drawn:=N }.putObj r o):=fun o N=>by
  simp[setObj,Sem.run,hr,World.putObj]
 generalize hLe:(es.filter fun q => !seen.contains q.born)=left at hL hold hnew
 have hrl':rem.length=left.size:=by rw[hlen,← hL];simp
 have hl':=hl
 rw[← hL] at hl
 by_cases h0:left.size=0
 ·have hl0:left = #[]:=Array.eq_empty_of_size_eq_zero h0
  obtain rfl:rem=[]:=List.eq_nil_of_length_eq_zero (by omega)
  obtain⟨i,N,hi,hN,hrun⟩:=yeb (P:=P) (w:=w) Nat.one_pos
  obtain rfl:i=0:=by omega
  refine⟨none,{ w with drawn:=N },?_,rfl,(h.hp.front hm).ext (Ext.ydF w N hN)⟩
  ·simp only[execOp,h.eval hx,Instr.next,Sem.run_bind,hg1,hg2,Result.andThen,hu,hLe,hl0,Bool.false_eq_true,if_false,Array.filter_empty,Array.isEmpty_empty,if_true,Array.append_empty,Array.map_empty]
   simp[-run_choose_drew,hrun,Sem.run_bind,Result.andThen,Sem.run,pure]
 ·obtain⟨i,N,hi,hN,hrun⟩:=yeb (P:=P) (w:=w) (m:=left.size) (by omega)
  have hir:i<rem.length:=by omega
  have hE:=h.hp.ext (Ext.ydF w N hN)
  have hli:=congrArg (fun z=>z[i]?) hl
  simp only[List.getElem?_map,Array.getElem?_toList,List.getElem?_eq_getElem hir,Array.getElem?_eq_getElem hi,Option.map_some,Option.some.injEq,Prod.mk.injEq] at hli
  have hold':(left.filter fun q=>decide (q.born<clock))=left:=hold
  have hne:left.isEmpty=false:=by rw[Bool.eq_false_iff];intro hc;exact h0 (Array.isEmpty_iff_size_eq_zero.1 hc)
  refine⟨some (i,rem[i]),{ w with drawn:=N }.putObj r (.mapIter (some b) clock (seen.push left[i].born) clock),?_,List.getElem?_eq_getElem hir,?_⟩
  ·simp only[execOp,h.eval hx,Instr.next,Sem.run_bind,hg1,hg2,Result.andThen,hu,hLe,hold',hnew]
   simp[-run_choose_drew,hrun,Sem.run_bind,Result.andThen,Sem.run,pure,hne,hg3,hi,hli.1,hli.2]
  ·have hm':(y7u es.toList seen)[i]?=some left[i]:=by rw[← hL,Array.getElem?_toList,Array.getElem?_eq_getElem hi]
   have hme:left[i]∈es.toList:=(List.mem_filter.1 (List.mem_of_getElem? hm')).1
   refine(hE.front hm).upd (x:=y6t r b ek ev l rem cur) (y:=y6t r b ek ev l (rem.eraseIdx i) (some rem[i])) (w':={ w with drawn:=N }.putObj r (.mapIter (some b) clock (seen.push left[i].born) clock)) .here rfl ⟨rfl,Nat.le_refl _⟩ rfl (by rw[World.putObj_size];exact Nat.le_refl _) (fun k _ hk=>World.putObj_heap_other fun hc=>hk (by simp[y6t,hc])) ⟨hrb,es,clock,seen.push left[i].born,?_,he,hst,World.putObj_heap_same hrl,?_,?_⟩ fun q hq=>⟨by rw[World.putObj_size];simp only[y6t,List.mem_cons,List.not_mem_nil,or_false] at hq;rcases hq with rfl | rfl <;> assumption,.inl hq⟩
   ·rw[World.putObj_heap_other (Ne.symm hrb)];exact hb
   ·rw[ygQ hst.2 hm',ycd,hl',ycd]
   ·rintro c hc'
    obtain rfl:rem[i]=c:=oJ hc'
    refine⟨left[i].born,left[i],by simp,?_,hli.1,hli.2⟩
    rw[← Array.find?_toList];exact yin hst.2 hme
theorem e_entry{c:κ×α}(hx:eo env x=some (.pointer (some ⟨r,0,none⟩)))(hm:Pick L (y6t r b ek ev l rem (some c)) R):
  Qt P n F w₀ env L ⟨d,.entry x,ty,pos,after,g⟩ (.tuple #[ek c.1,ev c.2]):=by
 intro a w h
 obtain⟨hrb,es,clock,seen,hb,he,hst,hr,hl,hc⟩:=h.hp.ok _ hm.mem
 have hg1:(getObj r).run P w = .ok (.mapIter (some b) clock seen clock) w:=by simp[getObj,Sem.run,hr]
 have hg2:=MapKept.run_getObj_map (P:=P) hb
 obtain⟨s,e,h1,h2,h3,h4⟩:=hc c rfl
 simp[execOp,h.eval hx,Instr.entry,Sem.run_bind,hg1,hg2,Result.andThen,h1,h2,h3,h4,Sem.run,pure]
theorem Hp.yio{w:World}(hm:Pick L (y6t r b ek ev l rem cur) R)(h:Hp F w₀ w L):Hp F w₀ w (ym b ek ev l::R):=by
 have h1:=h.front hm
 obtain⟨hrb,es,clock,seen,hb,he,hst,hr,hl,hc⟩:=h1.ok _ (List.mem_cons_self ..)
 refine h1.upd (x:=y6t r b ek ev l rem cur) (y:=ym b ek ev l) .here rfl (TD.refl _) rfl (Nat.le_refl _) (fun _ _ _=>rfl) ⟨es,clock,hb,he,hst⟩ fun q hq=>?_
 have hq':q=b:=by simpa [ym] using hq
 subst hq'
 exact⟨h1.lt _ (List.mem_cons_self ..) _ (by simp[y6t]),.inl (by simp[y6t])⟩
theorem WL.nextM{dd:Nat}{ops:Array Oper}{Q:Exit→Act→World→Prop}{rest:List Oper}{o:Oper}(ho:o=⟨some dd,.next x false,ty,pos,after,none⟩)(hdn:Nat.blt dd n=true)(hx:eo env x=some (.pointer (some ⟨r,0,none⟩)))(hm:Pick L (y6t r b ek ev l rem cur) R)(k0:rem=[]→WL P n F w₀ ops Q rest ((dd,.tuple #[.bool false])::env) (ym b ek ev l::R))(k1:∀(i:Nat) (y:κ×α) (m:List (κ×α)),rem[i]?=some y→m=rem.eraseIdx i→WL P n F w₀ ops Q rest ((dd,.tuple #[.bool true,ek y.1,ev y.2])::env) (y6t r b ek ev l m (some y)::R)):WL P n F w₀ ops Q (o::rest) env L:=by
 subst ho
 refine WL.eff rfl rfl hdn (e_nextM hx hm) fun g hg=>?_
 cases g with
 | none=>exact WL.ghL (fun _ h=>Hp.yio .here h) (k0 hg)
 | some p=>exact k1 p.1 p.2 _ hg rfl
end
end Sep
namespace Sep
open Go Go.RowKit
/-! ### a scope that no goto leaves; a label -/
section
variable {P:Program} {n:Nat} {F:Fence} {Q:Exit→Act→World→Prop} {a:Act} {w:World}
theorem y73{b:Frame}{k:List Item}{cs:List Frame}{c:Code}:step P (lone (b.atR a (.code (.scope c)::k)) cs w) = .next (lone (b.atR a (.code c :: .inScope c::k)) cs w):=
 step_lone_go (by simp[stepG,stepG.exec,Frame.atR])
theorem yfE{b:Frame}{k:List Item}{cs:List Frame}{c:Code}:step P (lone (b.atR a (.inScope c::k)) cs w) = .next (lone (b.atR a k) cs w):=
 step_lone_go (by simp[stepG,stepG.exec,Frame.atR])
theorem yhN{c:Code}(h:c.wpIn F n P (Exit.noGoto Q) a w):(Code.scope c).wpIn F n P Q a w:=by
 intro b k cs hro hb hr
 have h0:(lone (b.atR a (.code (.scope c)::k)) cs w).fenced P F:=fenced_calm hb hr rfl
 obtain⟨e,a₁,w₁,hq,harr⟩:=h b (.inScope c::k) cs hro hb hr
 cases e with
 | normal=>exact⟨.normal,a₁,w₁,hq,.head h0 y73 (StepsIn.trans harr (.one (fenced_calm hb hr rfl) yfE))⟩
 | exit id=>
  have hx:exitTo id (.inScope c::k)=exitTo id k:=by simp[exitTo]
  exact⟨.exit id,a₁,w₁,hq,fun k' hk => .head h0 y73 (harr.1 k' (by rw[hx];exact hk)),
   fun hr' hk=>let ⟨k₁,h1,h2⟩:=harr.2 hr' (by rw[hx];exact hk);⟨k₁,h1,.head h0 y73 h2⟩⟩
 | goto l=>exact hq.elim
 | ret=>exact⟨_,a₁,w₁,hq,.of_steps (.one h0 y73) harr⟩
 | panic ch=>exact⟨_,a₁,w₁,hq,.of_steps (.one h0 y73) harr⟩
 | outgrown=>exact⟨_,a₁,w₁,hq,.of_steps (.one h0 y73) harr⟩
end
section
variable [Rnd]
variable {P:Program} {n:Nat} {F:List Nat} {w₀:World} {Q:Exit→Act→World→Prop} {env:List (Nat×Value)} {L:List Asrt}
theorem WC.scope{c:Code}(k:WC P n F w₀ (Exit.noGoto Q) c env L):WC P n F w₀ Q (.scope c) env L:=fun a w h=>yhN (k a w h)
theorem WC.label{l:Nat}(k:WX n F w₀ Q .normal env L):WC P n F w₀ Q (.label l) env L:=fun a w h=>wpIn_label (k a w h)
theorem WX.ydw(k:WX n F w₀ Q .ret env L):WX n F w₀ (Exit.noGoto Q) .ret env L:=k
end
end Sep
namespace Sep
open Go Go.RowKit
/-! ### arrays at an index that is not known; tables of functions; strings -/
def sw{R:Type}:List (Int×Option R)→Int→Option R
 | [],_=>none
 | p::l,i=>if i=p.1 then p.2 else sw l i
structure arT (P:Program) (t e:TypeId) (len sz:Nat):Prop where
 un:P.underlying t=some (.array len e)
 sz:∀ w,(Go.sizeOf e).run P w = .ok sz w
section
variable [Rnd]
variable {P:Program} {n:Nat} {F:List Nat} {w₀:World} {env:List (Nat×Value)} {L R:List Asrt} {ops:Array Oper} {Q:Exit→Act→World→Prop} {rest:List Oper}
 {dd:Nat} {d:Option Tmp} {ty:TypeId} {pos:String} {after:Array Edge} {g:Option (Nat×Bool)} {x y c:Operand} {v u:Value} {t e T:TypeId} {sz len:Nat} {Z:Zp}
end
end Sep
namespace Sep
open Go Go.RowKit
/-! ### maps of slices that are appended to: each value owns its row -/
section
variable {κ α:Type} [DecidableEq κ]
def slv(p:(Option Addr×Nat)×List α):Value := .slice p.1.1 p.2.length p.1.2
def y2I(lg:List (κ×((Nat×(Option Addr×Nat))×List α))):List (κ×((Option Addr×Nat)×List α)):=lg.map fun p=>(p.1,(p.2.1.2,p.2.2))
def y2e(e:TypeId)(sz:Nat)(enc:α→List Value)(g:Nat×(Option Addr×Nat))(x:List α):List Asrt:=[row (.slice g.2.1 x.length g.2.2) e sz (x.flatMap enc)]
variable {lg:List (κ×((Nat×(Option Addr×Nat))×List α))} {l:List (κ×List α)}
theorem ycE(k:κ)(g:Nat×(Option Addr×Nat))(x:List α):∀ lg:List (κ×((Nat×(Option Addr×Nat))×List α)),y2I (yF lg k (g,x))=yF (y2I lg) k (g.2,x)
 | []=>rfl
 | p::lg=>by
  unfold yF y2I
  by_cases h:k=p.1
  ·simp[h]
  ·have:=ycE k g x lg
   unfold y2I at this
   simp[h,this]
theorem ycF(k:κ):∀ lg:List (κ×((Nat×(Option Addr×Nat))×List α)),yf (y2I lg) k ((none,0),[])=((yf lg k ((0,(none,0)),[])).1.2,(yf lg k ((0,(none,0)),[])).2)
 | []=>rfl
 | p::lg=>by
  have ih:=ycF k lg
  unfold y2I at ih ⊢
  rw[List.map_cons]
  unfold yf
  by_cases h:k=p.1
  ·simp[h]
  ·simp only[h,if_false];exact ih
theorem yeP{γ:Type}{k:κ}{d:γ}:∀ {lg:List (κ×γ)},y2V lg k=false→yf lg k d=d∧y7T k lg=lg
 | [],_=>⟨rfl,rfl⟩
 | p::lg,h=>by
  unfold y2V at h
  by_cases e:k=p.1
  ·simp[e] at h
  ·simp only[e,if_false] at h
   obtain⟨h1,h2⟩:=yeP (d:=d) h
   unfold yf y7T
   simp only[e,if_false]
   exact⟨h1,by rw[h2]⟩
variable {F:List Nat} {w₀ w:World} {L R R':List Asrt} {e:TypeId} {sz:Nat} {enc:α→List Value}
theorem Hp.yaP(k:κ)(hm:dat lg=l)(hp:Pick L (y2m (y2e e sz enc) lg) R)(h:Hp F w₀ w L):
  ∃ g:Option Addr×Nat,yf (y2I lg) k ((none,0),[])=(g,yf l k [])∧Hp F w₀ w (row (.slice g.1 (yf l k []).length g.2) e sz ((yf l k []).flatMap enc)::y2m (y2e e sz enc) (y7T k lg)::R):=by
 subst hm
 rw[ycF,mget_dat k [] (0,(none,0))]
 refine⟨(yf lg k ((0,(none,0)),[])).1.2,rfl,?_⟩
 by_cases hk:y2V lg k=true
 ·obtain⟨v,h1,h2⟩:=ycA k lg hk
  rw[h1]
  have h4:=h.pickAll hp
  have h5:=h4.perm ((ycB (f:=fun p:κ×((Nat×(Option Addr×Nat))×List α)=>y2e e sz enc p.2.1 p.2.2) h2).append_right R)
  rw[List.flatMap_cons,List.append_assoc] at h5
  have h6:Hp F w₀ w (((y7T k lg).flatMap fun p=>y2e e sz enc p.2.1 p.2.2)++(y2e e sz enc v.1 v.2++R)):=h5.perm (by
   rw[← List.append_assoc,← List.append_assoc];exact List.perm_append_comm.append_right R)
  have h7:=Hp.y9j h6
  exact h7.perm List.perm_middle.symm
 ·have hk':y2V lg k=false:=by simpa using hk
  obtain⟨h1,h2⟩:=yeP (d:=(((0,(none,0)),[]):(Nat×(Option Addr×Nat))×List α)) hk'
  rw[h1,h2]
  exact(h.nilRow e sz).perm (((hp.perm).cons _))
theorem Hp.yec{k:κ}{ao:Option Addr}{cap:Nat}{x:List α}(hs:Sel L [row (.slice ao x.length cap) e sz (x.flatMap enc),y2m (y2e e sz enc) (y7T k lg)] R)(h:Hp F w₀ w L):
  Hp F w₀ w (y2m (y2e e sz enc) (yF lg k ((0,(ao,cap)),x))::R):=
 Hp.ycC (els:=y2e e sz enc) (b:=0) (g:=(ao,cap)) hs h
theorem Sel.skip{β:Type}{y:β}:∀ {L L' M:List β},Sel L L' M→Sel (y::L) L' (y::M)
 | _,_,_,.nil => .nil
 | _,_,_,.cons h t => .cons (.there h) (Sel.skip t)
theorem Hp.yfh{k:κ}{g:Option Addr×Nat}(hm:dat lg=l)(hp:yf (y2I lg) k ((none,0),[])=(g,yf l k []))(hs:Sel L [row (.slice g.1 (yf l k []).length g.2) e sz ((yf l k []).flatMap enc),y2m (y2e e sz enc) (y7T k lg)] R)(h:Hp F w₀ w L):
  Hp F w₀ w (y2m (y2e e sz enc) lg::R):=by
 by_cases hk:y2V lg k=true
 ·obtain⟨v,h1,h2⟩:=ycA k lg hk
  rw[ycF,h1] at hp
  have e1:v.1.2=g:=congrArg Prod.fst hp
  have e2:v.2=yf l k []:=congrArg Prod.snd hp
  have h3:=Hp.ycC (lg:=lg) (k:=k) (els:=y2e e sz enc) (b:=v.1.1) (g:=g) (x:=yf l k []) hs h
  rwa [show yF lg k ((v.1.1,g),yf l k [])=lg from ycD (d:=v) hk (by rw[h1,← e1,← e2])] at h3
 ·have hk':y2V lg k=false:=by simpa using hk
  rw[(yeP (d:=(((0,(none,0)),[]):(Nat×(Option Addr×Nat))×List α)) hk').2] at hs
  have h1:=Hp.open_ (h.selAll hs)
  exact h1.sub (.cons (.there .here) (Sel.skip .all))
end
section
variable [Rnd] {P:Program} {n:Nat} {F:List Nat} {w₀:World} {ops:Array Oper} {tl:Nat→Bool} {Ls:List Asrt} {fuel:Nat} {listed:Array Bool} {Q:Act→World→Prop} {env:List (Nat×Value)} {L L':List Asrt} {o:Oper}
theorem WD.yhO{i:Nat}(hi:ops[i]?=some o)(hr:Region.ready .any ops listed=[i])(hg:gd env ops o=some true)(hd:o.dst=none)(ht:tl i=true)(hst:Sin L' Ls)(hq:Ef0 P n F w₀ env L o L')(k:WD P n F w₀ ops tl Ls Q fuel (listed.setIfInBounds i true) env L'):WD P n F w₀ ops tl Ls Q (fuel+1) listed env L:=WD.forced0 hi hr hg hd ht hst hq k
end
theorem ybJ{F:List Nat}{w₀:World}{L R:List Asrt}{b off:Nat}{T:TypeId}{ks:List (Nat×Value)}{u v:Value}(hm:Pick L (y7S b T ks) R)(hu:(off,u)∈ks)(hv:(off+1,v)∈ks):
  ∀ w,Hp F w₀ w L→∀ j x,[u,v][j]?=some x→w.cell? (Addr.add ⟨b,off,none⟩ j)=some x:=by
 intro w h j x hx
 match j,hx with
 | 0,hx=>
  have e:Addr.add ⟨b,off,none⟩ 0=⟨b,off,none⟩:=by simp[Addr.add]
  rw[e,y5Z hm hu w h];simpa using hx
 | 1,hx=>
  have e:Addr.add ⟨b,off,none⟩ 1=⟨b,off+1,none⟩:=by simp[Addr.add]
  rw[e,y5Z hm hv w h];simpa using hx
 | j+2,hx=>simp at hx
end Sep
namespace Sep
open Go Go.RowKit
section
variable [Rnd] {P:Program} {n:Nat} {F:List Nat} {w₀:World} {env:List (Nat×Value)} {L R:List Asrt} {d:Option Tmp} {ty:TypeId} {pos:String} {after:Array Edge} {g:Option (Nat×Bool)} {x y:Operand} {t e:TypeId} {sz by_:Nat}
theorem ygR{ao bo:Option Addr}{m cap k capk:Nat}{cs news:List Value}{dty:TypeId}{a:Act}{w:World}(h:SS n F w₀ env L a w)(ht:elT P t e sz by_)(hx:eo env x=some (.slice ao m cap))(hy:eo env y=some (.slice bo k capk))(hm:Pick L (row (.slice ao m cap) e sz cs) R)(hl:news.length=k*sz)(hnews:news≠[]→∃ A,bo=some A∧∀ j u,news[j]?=some u→w.cell? (A.add j)=some u)(h1:∀ u∈news,u.oneCell'=true)(h63:m+k≤maxLen)(hby:(m+k)*by_≤140737488355328):
  ∃(p:Option Addr×Nat) (w':World),(execOp a.eval ⟨d,.call ⟨.builtin .append,#[x,y],#[t,t]⟩,dty,pos,after,g⟩).run P w = .ok (.value (.slice p.1 (m+k) p.2)) w'∧True∧Hp F w₀ w' (row (.slice p.1 (m+k) p.2) e sz (cs++news)::R):=by
 obtain⟨inf,z,hi,hz,hsz,hb,hzs⟩:=ht.inf
 obtain⟨m',hown⟩:=h.hp.ok _ hm.mem
 have hmm:m'=m:=by
  have hs:=h.hp.rowShape hm
  have:=hown.1.symm.trans hs.1
  exact Nat.eq_of_mul_eq_mul_right ht.pos this
 subst hmm
 subst hsz
 subst hb
 have hshape:=h.hp.rowShape hm
 by_cases hk0:k=0
 ·subst hk0
  have hn:news=[]:=List.eq_nil_of_length_eq_zero (by simpa using hl)
  subst hn
  refine⟨(ao,cap),w,?_,trivial,?_⟩
  ·have hle:m'≤cap:=hshape.2.1
   cases bo <;> cases ao <;> simp[execOp,h.eval hx,h.eval hy,resolve,invoke,builtin,Builtin.append_,run_underlying ht.sl,Go.sizeOf,typeInfo,hi,Builtin.lenOf,Builtin.firstCells,hle,loadCells,loadCellsFrom,storeCells]
  ·simpa using h.hp.front hm
 ·have hne:news≠[]:=by
   intro e;subst e
   have:0=k*inf.size:=by simpa using hl
   have:=Nat.mul_pos (Nat.pos_of_ne_zero hk0) ht.pos
   omega
  obtain⟨A,rfl,hA⟩:=hnews hne
  have h63':((m'+k:Nat):Int)≤9223372036854775807:=by simp only[maxLen] at h63;omega
  obtain⟨v',w',hr,ho,hgb,_⟩:=run_append_own (P:=P) w 0 t dty e inf z inf.size inf.bytes ht.sl hi hz rfl rfl hzs ht.pos _ m' cs hown A k capk news hl hA h1 h63 hby (Nat.zero_le _)
  have hnew:∀ b,v'.ownBlock=some b→(Value.slice ao m' cap).ownBlock=some b∨w.heap.size≤b:=by
   rcases hown.2 with⟨hv,hn⟩ | ⟨b0,cap',cur,hv,_,hh,hc1,hc2,hc3,hc4⟩
   ·injection hv with e1 e2 e3
    subst e1 e3 hn
    have hq:=run_append_nil (P:=P) w t dty e inf z ht.sl hi hz A k capk news hl hA (by omega) (by omega) (by simp only[Nat.zero_add] at hby;omega)
    rw[hr] at hq
    injection hq with e1 _
    subst e1
    intro b hb;simp[Value.ownBlock] at hb;exact .inr (by omega)
   ·injection hv with e1 e2 e3
    subst e1 e3
    by_cases hroom:m'+k≤cap
    ·have hfit:m'*inf.size+news.length≤cur.size:=by rw[hl,hc3,← Nat.add_mul];exact Nat.mul_le_mul_right _ hroom
     have hq:=run_append_room (P:=P) w t dty e inf ht.sl hi b0 m' cap cur hh A k capk news hl hA h1 hroom hfit
     rw[hr] at hq
     injection hq with e1 _
     subst e1
     intro b hb;exact .inl hb
    ·have holds:∀ j u,cs[j]?=some u→w.cell? ((⟨b0,0,none⟩:Addr).add j)=some u:=hown.cells (g:=b0) rfl
     have hq:=run_append_grow (P:=P) w t dty e inf z ht.sl hi hz ⟨b0,0,none⟩ m' cap cs hown.1 holds A k capk news hl hA (by omega) (by omega) (growslice_fits (by omega) hby)
     rw[hr] at hq
     injection hq with e1 _
     subst e1
     intro b hb;simp[Value.ownBlock] at hb;exact .inr (by omega)
  have hdr:w.drawn≤w'.drawn:=by
   rcases hown.2 with⟨hv,hn⟩ | ⟨b0,cap',cur,hv,_,hh,hc1,hc2,hc3,hc4⟩
   ·injection hv with e1 e2 e3
    subst e1 e3 hn
    have hq:=run_append_nil (P:=P) w t dty e inf z ht.sl hi hz A k capk news hl hA (by omega) (by omega) (by simp only[Nat.zero_add] at hby;omega)
    rw[hr] at hq
    injection hq with _ e1
    rw[e1];first | exact Nat.le_refl _ | exact Nat.le_add_right _ _
   ·injection hv with e1 e2 e3
    subst e1 e3
    by_cases hroom:m'+k≤cap
    ·have hfit:m'*inf.size+news.length≤cur.size:=by rw[hl,hc3,← Nat.add_mul];exact Nat.mul_le_mul_right _ hroom
     have hq:=run_append_room (P:=P) w t dty e inf ht.sl hi b0 m' cap cur hh A k capk news hl hA h1 hroom hfit
     rw[hr] at hq
     injection hq with _ e1
     rw[e1];first | exact Nat.le_refl _ | exact Nat.le_add_right _ _
    ·have holds:∀ j u,cs[j]?=some u→w.cell? ((⟨b0,0,none⟩:Addr).add j)=some u:=hown.cells (g:=b0) rfl
     have hq:=run_append_grow (P:=P) w t dty e inf z ht.sl hi hz ⟨b0,0,none⟩ m' cap cs hown.1 holds A k capk news hl hA (by omega) (by omega) (growslice_fits (by omega) hby)
     rw[hr] at hq
     injection hq with _ e1
     rw[e1];first | exact Nat.le_refl _ | exact Nat.le_add_right _ _
  obtain⟨p,rfl⟩:∃ p:Option Addr×Nat,v' = .slice p.1 (m'+k) p.2:=by
   rcases ho.2 with⟨hv,hn⟩ | ⟨b,cap',cur,hv,_⟩
   ·exact⟨(none,0),by rw[hv,hn]⟩
   ·exact⟨(some ⟨b,0,none⟩,cap'),by rw[hv]⟩
  refine⟨p,w',?_,trivial,?_⟩
  ·simp[execOp,h.eval hx,h.eval hy,resolve,invoke,builtin,hr]
  ·refine(h.hp.front hm).upd (x:=row (.slice ao m' cap) e inf.size cs) (y:=row (.slice p.1 (m'+k) p.2) e inf.size (cs++news)) .here hgb.os ⟨hgb.tape,hdr⟩ hgb.output hgb.size ?_ ⟨_,ho⟩ ?_
   ·intro j hj hj'
    refine hgb.block j hj (fun hc=>hj' ?_)
    simp[row,← hc]
   ·intro b hb
    have hb':(Value.slice p.1 (m'+k) p.2).ownBlock=some b:=by simpa [row] using hb
    refine⟨(ho.lt b hb').2,?_⟩
    rcases hnew b hb' with h2 | h2
    ·exact .inl (by simp[row,h2])
    ·exact .inr h2
theorem Hp.rowShort{b m cap i:Nat}{cs:List Value}{w:World}(hm:Pick L (row (.slice (some ⟨b,0,none⟩) m cap) e sz cs) R)(hi:i≤m)(h:Hp F w₀ w L):Hp F w₀ w (row (.slice (some ⟨b,0,none⟩) i cap) e sz (cs.take (i*sz))::R):=by
 have hcl:=(h.rowShape hm).1
 refine(h.front hm).upd (x:=row (.slice (some ⟨b,0,none⟩) m cap) e sz cs) (y:=row (.slice (some ⟨b,0,none⟩) i cap) e sz (cs.take (i*sz))) .here rfl ⟨rfl,Nat.le_refl _⟩ rfl (Nat.le_refl _) (fun _ _ _=>rfl) ?_ ?_
 ·obtain⟨m',hown⟩:=h.ok _ hm.mem
  rcases hown.2 with⟨hv',_⟩ | ⟨b0,cap',cur,hv',hb0,hh',hc1,hc2,hc3,hc4⟩
  ·cases hv'
  injection hv' with e1 e2 e3
  injection e1 with e1
  injection e1 with e1
  subst e1 e2 e3
  have hmi:i*sz≤m*sz:=Nat.mul_le_mul_right _ hi
  refine⟨i,by simp;omega,.inr ⟨b,cap,cur,rfl,hb0,hh',by omega,hc2,hc3,?_⟩⟩
  rw[← hc4,List.take_take];congr 1;omega
 ·intro b' hb'
  simp[row,Value.ownBlock] at hb'
  subst hb'
  have:=h.lt _ hm.mem b' (by simp[row,Value.ownBlock])
  exact⟨this,.inl (by simp[row,Value.ownBlock])⟩
theorem yfY{b m cap i j capk:Nat}{bo:Option Addr}{cs:List Value}{dty:TypeId}(ht:elT P t e sz by_)(hx:eo env x=some (.slice (some ⟨b,0,none⟩) i cap))(hy:eo env y=some (.slice bo (m-j) capk))(hbo:m-j≠0→bo=some (Addr.add ⟨b,0,none⟩ (j*sz)))(hm:Pick L (row (.slice (some ⟨b,0,none⟩) m cap) e sz cs) R)(hij:i≤j)(hjm:j≤m)(h1:∀ u∈cs,u.oneCell'=true)(hby:m*by_≤140737488355328):
  Ef P n F w₀ env L ⟨d,.call ⟨.builtin .append,#[x,y],#[t,t]⟩,dty,pos,after,g⟩ (fun _:Option Addr×Nat=>True) (fun p => .slice p.1 (i+(m-j)) p.2) (fun p=>row (.slice p.1 (i+(m-j)) p.2) e sz (cs.take (i*sz)++cs.drop (j*sz))::R):=by
 intro a w h
 obtain⟨hcl,hmc,hcm,_⟩:=h.hp.rowShape hm
 have hs:=h.world (h.hp.rowShort hm (show i≤m by omega))
 have hlen:(cs.drop (j*sz)).length=(m-j)*sz:=by rw[List.length_drop,hcl,← Nat.sub_mul]
 refine ygR hs ht hx hy .here hlen (fun hne=>?_) (fun u hu=>h1 u (List.mem_of_mem_drop hu)) (by omega) (Nat.le_trans (Nat.mul_le_mul_right _ (by omega)) hby)
 have hk:m-j≠0:=by
  intro hz;rw[hz,Nat.zero_mul] at hlen;exact hne (List.eq_nil_of_length_eq_zero hlen)
 refine⟨_,hbo hk,fun q u hu=>?_⟩
 obtain⟨m',hown⟩:=h.hp.ok _ hm.mem
 rw[Addr.y7o]
 rw[List.getElem?_drop] at hu
 exact hown.cells (g:=b) rfl _ _ hu
theorem Hp.rowLong{b len m cap:Nat}{cs:List Value}{w:World}(h1:len≤m)(h2:m≤cap)(h:Hp F w₀ w (row (.slice (some ⟨b,0,none⟩) len cap) e sz cs::R)):
  ∃ tl:List Value,Hp F w₀ w (row (.slice (some ⟨b,0,none⟩) m cap) e sz (cs++tl)::R):=by
 have hm:Pick (row (.slice (some ⟨b,0,none⟩) len cap) e sz cs::R) (row (.slice (some ⟨b,0,none⟩) len cap) e sz cs) R := .here
 have hcl:=(h.rowShape hm).1
 obtain⟨m',hown⟩:=h.ok _ hm.mem
 rcases hown.2 with⟨hv',_⟩ | ⟨b0,cap',cur,hv',hb0,hh',hc1,hc2,hc3,hc4⟩
 ·cases hv'
 injection hv' with e1 e2 e3
 injection e1 with e1
 injection e1 with e1
 subst e1 e2 e3
 have h3:len*sz≤m*sz:=Nat.mul_le_mul_right _ h1
 have h4:m*sz≤cap*sz:=Nat.mul_le_mul_right _ h2
 have key:cs++(cur.toList.drop (len*sz)).take (m*sz-len*sz)=cur.toList.take (m*sz):=by
  rw[← hc4,← List.take_add];congr 1;omega
 refine⟨(cur.toList.drop (len*sz)).take (m*sz-len*sz),?_⟩
 refine(h.front hm).upd (x:=row (.slice (some ⟨b,0,none⟩) len cap) e sz cs) (y:=row (.slice (some ⟨b,0,none⟩) m cap) e sz _) .here rfl ⟨rfl,Nat.le_refl _⟩ rfl (Nat.le_refl _) (fun _ _ _=>rfl) ?_ ?_
 ·refine⟨m,?_,.inr ⟨b,cap,cur,rfl,hb0,hh',h2,hc2,hc3,key.symm⟩⟩
  rw[key,List.length_take,Array.length_toList,hc3];omega
 ·intro b' hb'
  simp[row,Value.ownBlock] at hb'
  subst hb'
  have:=h.lt _ hm.mem b' (by simp[row,Value.ownBlock])
  exact⟨this,.inl (by simp[row,Value.ownBlock])⟩
theorem yhP{b m cap i j capk:Nat}{bo:Option Addr}{cs:List Value}{dty:TypeId}(ht:elT P t e sz by_)(hx:eo env x=some (.slice (some ⟨b,0,none⟩) i cap))(hy:eo env y=some (.slice bo (m-j) capk))(hbo:m-j≠0→bo=some (Addr.add ⟨b,0,none⟩ (j*sz)))(hm:Pick L (row (.slice (some ⟨b,0,none⟩) m cap) e sz cs) R)(hij:i≤j)(hjm:j≤m)(h1:∀ u∈cs,u.oneCell'=true)(hby:m*by_≤140737488355328):
  Ef P n F w₀ env L ⟨d,.call ⟨.builtin .append,#[x,y],#[t,t]⟩,dty,pos,after,g⟩ (fun _:List Value=>True) (fun _ => .slice (some ⟨b,0,none⟩) (i+(m-j)) cap)
   (fun tl=>row (.slice (some ⟨b,0,none⟩) m cap) e sz (cs.take (i*sz)++cs.drop (j*sz)++tl)::R):=by
 intro a w h
 obtain⟨hcl,hmc,hcm,_⟩:=h.hp.rowShape hm
 obtain⟨p,w',hr,_,hp⟩:=yfY (d:=d) (dty:=dty) (pos:=pos) (after:=after) (g:=g) ht hx hy hbo hm hij hjm h1 hby a w h
 have hlen:(cs.drop (j*sz)).length=(m-j)*sz:=by rw[List.length_drop,hcl,← Nat.sub_mul]
 obtain⟨m',hown⟩:=h.hp.ok _ hm.mem
 have hcells:=hown.cells (g:=b) rfl
 obtain⟨inf,z,hi',hz,hsz,hb,hzs⟩:=ht.inf
 have hrun:∃ w'',(execOp a.eval ⟨d,.call ⟨.builtin .append,#[x,y],#[t,t]⟩,dty,pos,after,g⟩).run P w = .ok (.value (.slice (some ⟨b,0,none⟩) (i+(m-j)) cap)) w'':=by
  by_cases hk:m-j=0
  ·rw[hk] at hy ⊢
   have hle:i≤cap:=by omega
   refine⟨w,?_⟩
   cases bo <;> simp[execOp,h.eval hx,h.eval hy,resolve,invoke,builtin,Builtin.append_,run_underlying ht.sl,Go.sizeOf,typeInfo,hi',Builtin.lenOf,Builtin.firstCells,hle,loadCells,loadCellsFrom,storeCells]
  ·rcases hown.2 with⟨hv',_⟩ | ⟨b0,cap',cur,hv',hb0,hh',hc1,hc2,hc3,hc4⟩
   ·cases hv'
   injection hv' with e1 e2 e3
   injection e1 with e1
   injection e1 with e1
   subst e1 e2 e3
   have hbo':=hbo hk
   subst hbo'
   subst hsz
   have hfit:i*inf.size+(cs.drop (j*inf.size)).length≤cur.size:=by rw[hlen,hc3,← Nat.add_mul];exact Nat.mul_le_mul_right _ (by omega)
   have hq:=run_append_room (P:=P) w t dty e inf ht.sl hi' b i cap cur hh' (Addr.add ⟨b,0,none⟩ (j*inf.size)) (m-j) capk (cs.drop (j*inf.size)) hlen (fun q u hu=>by
    rw[Addr.y7o]
    rw[List.getElem?_drop] at hu
    exact hcells _ _ hu) (fun u hu=>h1 u (List.mem_of_mem_drop hu)) (by omega) hfit
   obtain⟨w2,hq2⟩:∃ w2,(Builtin.append_ #[t,t] dty #[.slice (some ⟨b,0,none⟩) i cap,.slice (some (Addr.add ⟨b,0,none⟩ (j*inf.size))) (m-j) capk]).run P w = .ok (.slice (some ⟨b,0,none⟩) (i+(m-j)) cap) w2:=⟨_,hq⟩
   exact⟨w2,by simp[execOp,h.eval hx,h.eval hy,resolve,invoke,builtin,hq2]⟩
 obtain⟨w'',hr2⟩:=hrun
 rw[hr] at hr2
 injection hr2 with e1 e2
 injection e1 with e1
 injection e1 with e3 _ e4
 dsimp only at hp hr
 rw[e3,e4] at hp hr
 obtain⟨tl,htl⟩:=hp.rowLong (m:=m) (by omega) hmc
 exact⟨tl,w',hr,trivial,htl⟩
theorem q_slice3{ao:Option Addr}{m cap:Nat}{k1 k2 k3:IntKind}{lo hi mx:Int}{lx hx' mx':Operand}(ht:elT P t e sz by_)(hx:eo env x=some (.slice ao m cap))(hl:eo env lx=some (.int k1 lo))(hh:eo env hx'=some (.int k2 hi))(hm:eo env mx'=some (.int k3 mx))(h0:0≤lo)(h1:lo≤hi)(h2:hi≤mx)(h3:mx≤(cap:Int)):
  Qt P n F w₀ env L ⟨d,.slice t x (some lx) (some hx') (some mx'),ty,pos,after,g⟩ (.slice (if mx.toNat=lo.toNat then ao else ao.map (·.add (lo.toNat*sz))) (hi.toNat-lo.toNat) (mx.toNat-lo.toNat)):=by
 intro a w h
 obtain⟨inf,z,hi',hz,hsz,hb,hzs⟩:=ht.inf
 have q1:hi≤((mx.toNat:Nat):Int):=by omega
 have q2:lo≤((hi.toNat:Nat):Int):=by omega
 have q3:0≤hi:=by omega
 have q4:0≤mx:=by omega
 simp[execOp,h.eval hx,h.eval hl,h.eval hh,h.eval hm,Instr.sliceAt,Instr.slice,Instr.sliceBounds,Instr.sliceBound,run_underlying ht.sl,Go.sizeOf,typeInfo,hi',hsz,asIntOf,h0,h3,q1,q2,q3,q4]
 rw[if_pos (by omega),if_pos (by omega)]
end
end Sep
namespace Sep
open Go Go.RowKit
set_option linter.unusedSectionVars false
section
variable [Rnd] {P:Program} {n:Nat} {F:List Nat} {w₀:World} {ops:Array Oper} {tl:Nat→Bool} {Ls:List Asrt} {fuel:Nat} {listed:Array Bool}
 {env:List (Nat×Value)} {L:List Asrt} {o:Oper} {QD:Act→World→Prop} {v:Value} {d i:Nat}
theorem WDo.quiet(hi:ops[i]?=some o)(hg:gd env ops o=some true)(hd:o.dst=some d)(hdn:Nat.blt d n=true)(hst:tl i=true→Sin L Ls)(hq:∀ a w,SS n F w₀ env L a w→(execOp a.eval o).run P w = .ok (.value v) w)(k:WD P n F w₀ ops tl Ls QD fuel (listed.setIfInBounds i true) ((d,v)::env) L):WDo P n F w₀ ops tl Ls QD fuel listed env L i:=
 WDo.forced (G:=Unit) (φ:=fun _=>True) (val:=fun _=>v) (L':=fun _=>L) hi hg hd hdn (fun a w h=>⟨(),w,hq a w h,trivial,h.hp,fun _=>Ext.refl w⟩) (fun ht _=>hst ht) (fun _ _=>k)
end
end Sep
namespace Sep
open Go Go.RowKit
/-! ### maps of slices whose elements are no flat data (each a cell): the cells, and what they stand for -/
def y4m(v:Value):List Value:=[v]
theorem yaQ:∀ l:List Value,l.flatMap y4m=l
 | []=>rfl
 | v::l=>by rw[List.flatMap_cons,yaQ l];rfl
section
variable {κ α:Type}
inductive RM (Pr:List Value→α→Prop):List (κ×List Value)→List (κ×List α)→Prop
 | nil:RM Pr [] []
 | cons {k:κ} {cs:List Value} {x:List α} {lc:List (κ×List Value)} {l:List (κ×List α)} (h:RR 1 Pr cs x) (t:RM Pr lc l):RM Pr ((k,cs)::lc) ((k,x)::l)
variable {Pr Pr':List Value→α→Prop} {lc:List (κ×List Value)} {l:List (κ×List α)}
theorem RM.weak(h:RM Pr lc l)(k:∀ r x,Pr r x→Pr' r x):RM Pr' lc l:=by
 induction h with
 | nil=>exact .nil
 | cons h _ ih=>exact .cons (h.weak k) ih
theorem RR.slv{ao:Option Addr}{cap:Nat}{cs:List Value}{x:List α}(h:RR 1 Pr cs x):slv ((ao,cap),cs) = .slice ao x.length cap:=by
 have:=h.len
 unfold Sep.slv
 simp only
 rw[this,Nat.mul_one]
variable [DecidableEq κ]
theorem RM.get(h:RM Pr lc l)(k:κ):RR 1 Pr (yf lc k []) (yf l k []):=by
 induction h with
 | nil=>exact RR.nil _ _
 | @cons k' cs x lc l h t ih=>
  unfold yf
  by_cases e:k=k'
  ·simp only[e,if_true];exact h
  ·simp only[e,if_false];exact ih
theorem RM.put(h:RM Pr lc l)(k:κ){cs:List Value}{x:List α}(hr:RR 1 Pr cs x):RM Pr (yF lc k cs) (yF l k x):=by
 induction h with
 | nil=>exact .cons hr .nil
 | @cons k' cs' x' lc l h t ih=>
  unfold yF
  by_cases e:k=k'
  ·simp only[e,if_true];exact .cons hr t
  ·simp only[e,if_false];exact .cons h ih
variable {lg:List (κ×((Nat×(Option Addr×Nat))×List Value))}
theorem RM.putD{g:Option Addr×Nat}(h:RM Pr (dat lg) l)(k:κ){cs:List Value}{x:List α}(hr:RR 1 Pr cs x):RM Pr (dat (yF lg k ((0,g),cs))) (yF l k x):=by
 rw[yfV rfl];exact h.put k hr
variable {F:List Nat} {w₀ w:World} {L R:List Asrt} {e:TypeId}
theorem Hp.yhQ(k:κ)(hm:RM Pr (dat lg) l)(hp:Pick L (y2m (y2e e 1 y4m) lg) R)(h:Hp F w₀ w L):
  ∃ g:(Option Addr×Nat)×List Value,(yf (y2I lg) k ((none,0),[])=g∧RR 1 Pr g.2 (yf l k []))∧Hp F w₀ w (row (.slice g.1.1 (yf l k []).length g.1.2) e 1 g.2::y2m (y2e e 1 y4m) (y7T k lg)::R):=by
 obtain⟨g,h1,h2⟩:=Hp.yaP k rfl hp h
 have h3:=hm.get k
 refine⟨(g,yf (dat lg) k []),⟨h1,h3⟩,?_⟩
 rw[yaQ] at h2
 have h4:=h3.len
 rw[Nat.mul_one] at h4
 rw[h4] at h2
 exact h2
theorem Hp.ygS{k:κ}{ao:Option Addr}{cap m:Nat}{cs:List Value}(hl:m=cs.length)(hs:Sel L [row (.slice ao m cap) e 1 cs,y2m (y2e e 1 y4m) (y7T k lg)] R)(h:Hp F w₀ w L):
  Hp F w₀ w (y2m (y2e e 1 y4m) (yF lg k ((0,(ao,cap)),cs))::R):=by
 subst hl
 refine Hp.yec (enc:=y4m) (x:=cs) ?_ h
 rw[yaQ];exact hs
theorem RR.yhc{cs:List Value}{x:List α}(h:RR 1 Pr cs x):x.length=cs.length:=by
 have:=h.len;omega
end
end Sep
namespace Sep
open Go Go.RowKit
/-! ### closures as_ data: slices whose order is not said, groups that join the pool, a map of the pool -/
section
variable {α:Type}
def ZSB(Z:Zp)(Pr:List Value→α→Prop)(ao:Option Addr)(cap:Nat)(l:List α):Prop:=∃ l':List α,l'.Perm l∧ZS Z 1 Pr ao cap l'
theorem ZSB.up{Z Z':Zp}{Pr Pr':List Value→α→Prop}{ao:Option Addr}{cap:Nat}{l:List α}(h:ZSB Z Pr ao cap l)(k:Zle Z Z')(hw:∀ r x,Pr r x→Pr' r x):ZSB Z' Pr' ao cap l:=
 let ⟨l',h1,h2⟩:=h;⟨l',h1,(h2.mono k).weak hw⟩
theorem ZSB.of{Z:Zp}{Pr:List Value→α→Prop}{ao:Option Addr}{cap:Nat}{l:List α}(h:ZS Z 1 Pr ao cap l):ZSB Z Pr ao cap l:=⟨l,.refl _,h⟩
inductive RG {κ:Type} (Z:Zp) (Pr:List Value→α→Prop):List (κ×((Option Addr×Nat)×List Value))→List (κ×List α)→Prop
 | nil:RG Z Pr [] []
 | cons {k:κ} {ao:Option Addr} {cap:Nat} {cs:List Value} {x:List α} {lg:List (κ×((Option Addr×Nat)×List Value))} {l:List (κ×List α)} (hl:x.length=cs.length) (h:ZS Z 1 Pr ao cap x) (t:RG Z Pr lg l):RG Z Pr ((k,((ao,cap),cs))::lg) ((k,x)::l)
variable {κ:Type} {Z Z':Zp} {Pr Pr':List Value→α→Prop} {lg:List (κ×((Option Addr×Nat)×List Value))} {l:List (κ×List α)}
theorem RG.up(h:RG Z Pr lg l)(k:Zle Z Z')(hw:∀ r x,Pr r x→Pr' r x):RG Z' Pr' lg l:=by
 induction h with
 | nil=>exact .nil
 | cons hl h _ ih=>exact .cons hl ((h.mono k).weak hw) ih
theorem RG.len(h:RG Z Pr lg l):l.length=lg.length:=by
 induction h with
 | nil=>rfl
 | cons _ _ _ ih=>simp[ih]
theorem RG.at(h:RG Z Pr lg l):∀ {i:Nat} {y:κ×((Option Addr×Nat)×List Value)},lg[i]?=some y→∃ x,l[i]?=some (y.1,x)∧x.length=y.2.2.length∧ZS Z 1 Pr y.2.1.1 y.2.1.2 x∧RG Z Pr (lg.eraseIdx i) (l.eraseIdx i):=by
 induction h with
 | nil=>intro i y h;simp at h
 | @cons k ao cap cs x lg l hl hz t ih=>
  intro i y h
  cases i with
  | zero=>
   simp only[List.getElem?_cons_zero,Option.some.injEq] at h
   subst h
   exact⟨x,by simp,hl,hz,by simpa using t⟩
  | succ i=>
   rw[List.getElem?_cons_succ] at h
   obtain⟨x',h1,h2,h3,h4⟩:=ih h
   exact⟨x',by simpa using h1,h2,h3,by simpa using RG.cons hl hz h4⟩
theorem yed{β:Type}:∀ {l:List β} {i:Nat} {x:β},l[i]?=some x→(x::l.eraseIdx i).Perm l
 | [],i,x,h=>by simp at h
 | a::l,0,x,h=>by
  simp only[List.getElem?_cons_zero,Option.some.injEq] at h
  subst h;simp
 | a::l,i+1,x,h=>by
  rw[List.getElem?_cons_succ] at h
  rw[List.eraseIdx_cons_succ]
  exact(List.Perm.swap _ _ _).trans ((yed h).cons a)
end
section
variable {κ α:Type} {F:List Nat} {w₀ w:World} {R:List Asrt} {e:TypeId} {Z:Zp} {Pr:Zp→List Value→α→Prop}
theorem Hp.yce(mono:∀ {Z Z':Zp},Zle Z Z'→∀ {r x},Pr Z r x→Pr Z' r x)(hp:PZ F w₀ Z):∀(lg:List (κ×((Nat×(Option Addr×Nat))×List Value))) (l:List (κ×List α)) (Zn:Zp),RM (Pr (Z++Zn)) (dat lg) l→Hp F w₀ w (y2m (y2e e 1 y4m) lg::fz Zn::R)→
  ∃ Zn',Zle (Z++Zn) (Z++Zn')∧RG (Z++Zn') (Pr (Z++Zn')) (y2I lg) l∧Hp F w₀ w (fz Zn'::R)
 | [],l,Zn,hm,h=>by
  cases hm
  refine⟨Zn,Zle.refl _,.nil,?_⟩
  have h1:=Hp.open_ h
  simpa using h1
 | (k,((n,(ao,cap)),cs))::lg,l,Zn,hm,h=>by
  cases hm with
  | @cons _ _ x _ l hr t=>
  have h1:=Hp.open_ h
  rw[List.flatMap_cons] at h1
  have hl:=RR.yhc hr
  have h2:Hp F w₀ w (row (.slice ao x.length cap) e 1 cs::fz Zn::((lg.flatMap fun p=>y2e e 1 y4m p.2.1 p.2.2)++R)):=by
   refine h1.perm ?_
   show([row (.slice ao cs.length cap) e 1 (cs.flatMap y4m)]++(lg.flatMap fun p=>y2e e 1 y4m p.2.1 p.2.2)++fz Zn::R).Perm _
   rw[yaQ,hl,List.append_assoc,List.singleton_append]
   exact(List.perm_middle).cons _
  obtain⟨Zn1,k1,k2,k3⟩:=Hp.freezeS (Z:=Z) .here .here hp hr h2
  have h3:Hp F w₀ w (y2m (y2e e 1 y4m) lg::fz Zn1::R):=Hp.y9j (k3.perm List.perm_middle.symm)
  obtain⟨Zn2,j1,j2,j3⟩:=Hp.yce mono hp lg l Zn1 (t.weak fun _ _ h=>mono k1 h) h3
  exact⟨Zn2,k1.trans j1,.cons hl ((k2.mono j1).weak fun _ _ h=>mono (k1.trans j1) h) j2,j3⟩
end
section
variable [Rnd]
variable {P:Program} {n:Nat} {F:List Nat} {w₀:World} {env:List (Nat×Value)} {L R:List Asrt} {d:Option Tmp} {ty:TypeId} {pos:String} {after:Array Edge} {g:Option (Nat×Bool)} {x y z:Operand} {t kt e:TypeId}
 {κ α:Type} [DecidableEq κ] {ek:κ→Value} {ev:α→Value} {l:List (κ×α)} {b:Nat} {k:κ} {dflt:α} {zv:Value} {Z:Zp}
theorem yhR{w:World}(K:KeyT P kt ek)(ht:P.underlying t=some (.map kt e))(hz:y2y P e zv)(hd:zv=ev dflt)(hk:(ym b ek ev l).ok w):
  (Instr.lookup t (.map (some b)) (ek k) false).run P w = .ok (ev (yf l k dflt)) w:=by
 obtain⟨es,clock,hb,he,hst⟩:=hk
 have h1:=K.find k es.toList (l.map (·.1)) w (yab he)
 have h2:=y9k (ek:=ek) (ev:=ev) (k:=k) (d:=dflt) l es.toList he
 have hzw:=congrFun hz w
 simp only[Instr.lookup,Sem.run_bind,run_underlying ht,Result.andThen,MapKept.run_getObj_map hb,K.chk]
 cases hf:(l.map (·.1)).findIdx? (fun k'=>decide (k=k')) with
 | none=>rw[hf] at h1 h2;simp only[Option.map_none] at h1 h2;simp[h1,hzw,hd,h2]
 | some i=>rw[hf] at h1 h2;simp only[Option.map_some,Array.getElem?_toList] at h1 h2;simp[h1,h2]
theorem yip(K:KeyT P kt ek)(ht:P.underlying t=some (.map kt e))(hz:y2y P e zv)(hd:zv=ev dflt)(hx:eo env x=some (.map (some b)))(hy:eo env y=some (ek k))(pv:PV F w₀ L Z)(hA:ZA Z (ym b ek ev l)):
  Qt P n F w₀ env L ⟨d,.lookup t x y false,ty,pos,after,g⟩ (ev (yf l k dflt)):=by
 intro a w h
 simp[execOp,h.eval hx,h.eval hy,yhR K ht hz hd (hA w (pv w h.hp))]
end
end Sep
