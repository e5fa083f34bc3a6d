/- A part of this claim's proof: models of functions, walks, plain laws. No conditions. -/
import Derived.Test.YtakfmdiiehcbdaaW03d
namespace Go.Proofs.Ytakfmdiiehcbdaa
open Go Go.RowKit Sep
set_option linter.all false
set_option maxRecDepth 30000
set_option maxHeartbeats 4000000
def y13 (z6P : List (List z1)) (z5Y : zSv) (z3B : z2) (z2C : List z2) (z99 : Int) : Option (Bool × (Nat × List z2 × Int)) :=
 (y2y (⟨z99⟩ : z2y) z3B z6P z5Y).bind fun z3J=>(if decide (((z2C.length : Nat) : Int) = 0) then some true else chk ((0 : Int) ≤ 0 ∧ 0 < ((z2C.length : Nat) : Int)) ((yO z3J.1 (⟨((nth z2C 0).fN),((nth z2C 0).fD)⟩ : z2)).bind fun zlY=>some (decide (zlY > 0)))).bind fun zlZ=>if zlZ then some (true,(0,([z3J.1] : List z2),z3J.2.fE)) else some (true,(0,z2C,z3J.2.fE))
def y2O (z1Q : List (List z1)) (zr : zSv) (z6P : List (List z1)) (z5Y : zSv) (z1R : List z2) : Option (z2 × Int) :=
 (y26 z1Q zr z6P z5Y z1R).bind fun zek=>if decide (zek ≠ 0) then some ((⟨0,0⟩ : z2),zek) else jp2 (fun (z9I : Int) (z6t : List z2)=>if decide (z9I ≠ 0) then some ((⟨0,0⟩ : z2),z9I) else chk ((0 : Int) ≤ 0 ∧ 0 < ((z6t.length : Nat) : Int)) (some ((⟨((nth z6t 0).fN),((nth z6t 0).fD)⟩ : z2),0))) fun zm0=>(y2r z1Q zr z6P z5Y z1R).bind fun z1t=>(y1P (Nat × List z2 × Int) (fun (x : z2) (s : Nat × List z2 × Int)=>chk (s.1 = 0) (y13 z6P z5Y x s.2.1 s.2.2)) (0,([] : List z2),0) z1Q (⟨(⟨z1t.1,z1t.2.1⟩ : z2),(⟨z1t.2.2.1,z1t.2.2.2⟩ : z2)⟩ : zSv) z6P z5Y z1R).bind fun z5Z=>zm0 z5Z.2.2 z5Z.2.1
set_option maxRecDepth 20000 in
theorem y6E (Z : Zp)  (z29 : Option Addr) (z2a : Nat) (z1Y : Addr) (zd0 : Option Addr) (zd1 : Nat) (z1Z : Addr) (z2b : Option Addr) (z2c : Nat) (z1Q : List (List z1)) (zr : zSv) (z6P : List (List z1)) (z5Y : zSv) (z1R : List z2) (r : z2 × Int) (w₀ : World) (hz : PZ [] w₀ Z)
  (zm1 : ZS Z 1 (p39 Z) z29 z2a z1Q)
  (zhO : ZS Z 1 (p39 Z) zd0 zd1 z6P)
  (zhP : ZC Z z1Y [(.slice zd0 z6P.length zd1)])
  (zhQ : ZC Z z1Z [(.int .i64 z5Y.fR.fN),(.int .i64 z5Y.fR.fD),(.int .i64 z5Y.fLatency.fN),(.int .i64 z5Y.fLatency.fD)])
  (zm2 : ZS Z 2 (fun r x=>r = e30 x) z2b z2c z1R)
  (h : y2O z1Q zr z6P z5Y z1R = some r) :
  Calls Try.prog 36 #[(.agg #[(.slice z29 z1Q.length z2a),(.int .i64 zr.fR.fN),(.int .i64 zr.fR.fD),(.int .i64 zr.fLatency.fN),(.int .i64 zr.fLatency.fD),(.func (.func 37) #[] #[(.pointer (some z1Y)),(.pointer (some z1Z))]),(.slice z2b z1R.length z2c)])] w₀ fun e w'=>∃ Zn : Zp,e = .returned (.tuple #[(.agg #[(.int .i64 r.1.fN),(.int .i64 r.1.fD)]),(.int .i64 r.2)]) ∧ True ∧ Hp [] w₀ w' [fz Zn]:=by
 unfold y2O at h
 refine Calls.y6C (vs:=[(.agg #[(.slice z29 z1Q.length z2a),(.int .i64 zr.fR.fN),(.int .i64 zr.fR.fD),(.int .i64 zr.fLatency.fN),(.int .i64 zr.fLatency.fD),(.func (.func 37) #[] #[(.pointer (some z1Y)),(.pointer (some z1Z))]),(.slice z2b z1R.length z2c)])]) (pre:=[]) (env:=[(0,(.agg #[(.slice z29 z1Q.length z2a),(.int .i64 zr.fR.fN),(.int .i64 zr.fR.fD),(.int .i64 zr.fLatency.fN),(.int .i64 zr.fLatency.fD),(.func (.func 37) #[] #[(.pointer (some z1Y)),(.pointer (some z1Z))]),(.slice z2b z1R.length z2c)]))]) Try.func36 rfl Try.ntmps36 rfl (Hp.nil w₀ _) rfl ?_
 refine WC.pool ?_
 refine WC.b ?_
 refine WC.a ?_
 refine WL.new (dd:=1) rfl rfl rfl (yK (cs:=[(.slice z29 z1Q.length z2a),(.int .i64 zr.fR.fN),(.int .i64 zr.fR.fD),(.int .i64 zr.fLatency.fN),(.int .i64 zr.fLatency.fD),(.func (.func 37) #[] #[(.pointer (some z1Y)),(.pointer (some z1Z))]),(.slice z2b z1R.length z2c)]) rfl rfl) ?_
 intro z3k _
 refine WL.new (dd:=2) rfl rfl rfl (yh (cs:=[(.int .i64 0),(.int .i64 0)]) yo rfl) ?_
 intro z3n _
 refine WL.a (d:=3) rfl rfl rfl (q_z rfl) ?_
 refine WL.nil ?_
 refine WX.a ?_
 refine WC.b ?_
 refine WC.b ?_
 obtain ⟨zek,zwR,h⟩:=zb h
 refine WC.a ?_
 refine WL.a (d:=9) rfl rfl rfl (y6 (cs:=[(.slice z29 z1Q.length z2a),(.int .i64 zr.fR.fN),(.int .i64 zr.fR.fD),(.int .i64 zr.fLatency.fN),(.int .i64 zr.fLatency.fD),(.func (.func 37) #[] #[(.pointer (some z1Y)),(.pointer (some z1Z))]),(.slice z2b z1R.length z2c)]) y5W rfl rfl (y7 .h1)) ?_
 refine WL.y2A (dd:=10) rfl rfl rfl (zl (l:=[.tmp 9]) Try.call52 (.cons rfl .nil)) (.nil : Sel [stb z3n 30 [(.int .i64 0),(.int .i64 0)],stb z3k 79 [(.slice z29 z1Q.length z2a),(.int .i64 zr.fR.fN),(.int .i64 zr.fR.fD),(.int .i64 zr.fLatency.fN),(.int .i64 zr.fLatency.fD),(.func (.func 37) #[] #[(.pointer (some z1Y)),(.pointer (some z1Z))]),(.slice z2b z1R.length z2c)],fz []] [] [stb z3n 30 [(.int .i64 0),(.int .i64 0)],stb z3k 79 [(.slice z29 z1Q.length z2a),(.int .i64 zr.fR.fN),(.int .i64 zr.fR.fD),(.int .i64 zr.fLatency.fN),(.int .i64 zr.fLatency.fD),(.func (.func 37) #[] #[(.pointer (some z1Y)),(.pointer (some z1Z))]),(.slice z2b z1R.length z2c)],fz []]) (fun w hw=>by have pz:=(hz.call2 hw (.nil : Sel [stb z3n 30 [(.int .i64 0),(.int .i64 0)],stb z3k 79 [(.slice z29 z1Q.length z2a),(.int .i64 zr.fR.fN),(.int .i64 zr.fR.fD),(.int .i64 zr.fLatency.fN),(.int .i64 zr.fLatency.fD),(.func (.func 37) #[] #[(.pointer (some z1Y)),(.pointer (some z1Z))]),(.slice z2b z1R.length z2c)],fz []] [] [stb z3n 30 [(.int .i64 0),(.int .i64 0)],stb z3k 79 [(.slice z29 z1Q.length z2a),(.int .i64 zr.fR.fN),(.int .i64 zr.fR.fD),(.int .i64 zr.fLatency.fN),(.int .i64 zr.fLatency.fD),(.func (.func 37) #[] #[(.pointer (some z1Y)),(.pointer (some z1Z))]),(.slice z2b z1R.length z2c)],fz []]) .h2); exact y6e (Z:=_) (z2M:=z29) (z2N:=z2a) (z2Y:=z1Y) (zlu:=zd0) (zlv:=zd1) (z2Z:=z1Z) (z30:=z2b) (z31:=z2c) (z28:=z1Q) (zo:=zr) (zfG:=z6P) (zcM:=z5Y) (z2L:=z1R) (r:=zek) w pz ((zm1.mono (Zle.left _ _)).weak (fun _ _ h=>yG (Zle.left _ _) h)) ((zhO.mono (Zle.left _ _)).weak (fun _ _ h=>yG (Zle.left _ _) h)) (zhP.mono (Zle.left _ _)) (zhQ.mono (Zle.left _ _)) (zm2.mono (Zle.left _ _)) zwR) ?_
 rintro z60 _
 refine WL.merge .here .h2 ?_
 refine WL.a (d:=4) rfl rfl rfl (q_z rfl) ?_
 refine WL.nil ?_
 refine WX.a ?_
 refine WC.b ?_
 refine WC.a ?_
 refine WL.a (d:=11) rfl rfl rfl (q_m rfl) ?_
 refine WL.a (d:=12) rfl rfl rfl (y2L rfl rfl) ?_
 refine WL.nil ?_
 refine WX.a ?_
 refine WC.cond rfl (fun zm3=>?_) (fun zm3=>?_)
 ·replace h:=yj h zm3
  refine WC.b ?_
  refine WC.a ?_
  refine WL.a (d:=13) rfl rfl rfl (y1j (v:=(.agg #[(.int .i64 0),(.int .i64 0)])) (Eos.parts (l:=[]) .nil []) (fun _=>by kernel_rfl)) ?_
  refine WL.a (d:=14) rfl rfl rfl (q_m rfl) ?_
  refine WL.yc rfl rfl (yd (vs:=[(.int .i64 0),(.int .i64 0)]) (ds:=[(.int .i64 0),(.int .i64 0)]) yl rfl rfl rfl rfl (y3 rfl (y3 rfl yf)) .h1 (Nat.le_of_ble_eq_true rfl) rfl) ?_
  refine WL.a (d:=3) rfl rfl rfl (q_z rfl) ?_
  refine WL.nil ?_
  refine WX.a ?_
  refine WC.ret ?_
  refine WX.y8 ?_
  obtain rfl:=Option.some.inj h
  refine WX.y7k Try.results36 (.agg rfl y5 rfl (y7 .here) (.tmp rfl .nil)) (fun w hw=>?_)
  exact ⟨([] ++ z60),y1I rfl rfl,trivial,hw.sub (.cons .h1 .nil)⟩
 ·replace h:=yk h zm3
  refine WC.skip ?_
  refine WX.a ?_
  refine WC.b ?_
  refine WC.a ?_
  refine WL.new (dd:=5) rfl rfl rfl (yh (cs:=[(.int .i64 0)]) y6Y rfl) ?_
  intro z3o _
  refine WL.nil ?_
  refine WX.a ?_
  refine WC.b ?_
  refine WC.a ?_
  refine WL.new (dd:=6) rfl rfl rfl (yh (cs:=[(.slice none 0 0)]) y7V rfl) ?_
  intro z3v _
  refine WL.nil ?_
  refine WX.a ?_
  obtain ⟨zm0,zwS,h⟩:=y3F h
  refine WC.y6D (fun (zfU : Nat) (z9I : Int) (z6t : List z2) (zd2 : Zp) (zfV : Option Addr) (zfW : Nat)=>(zm0 z9I z6t = some r) ∧ (Zle (Z ++ ([] ++ z60)) (Z ++ zd2))) (fun (zfU : Nat) (z9I : Int) (z6t : List z2) (zd2 : Zp) (zfV : Option Addr) (zfW : Nat)=>[(2,(.pointer (some ⟨z3n,0,none⟩))),(5,(.pointer (some ⟨z3o,0,none⟩))),(6,(.pointer (some ⟨z3v,0,none⟩)))]) (fun (zfU : Nat) (z9I : Int) (z6t : List z2) (zd2 : Zp) (zfV : Option Addr) (zfW : Nat)=>[fz zd2,stb z3n 30 [(.int .i64 0),(.int .i64 0)],stb z3o 98 [(.int .i64 z9I)],stb z3v 77 [(.slice zfV z6t.length zfW)],row (.slice zfV z6t.length zfW) 30 2 (z6t.flatMap e30),dfr zfU]) ?_ ?_
  ·skip
   refine WC.b ?_
   obtain ⟨z1t,zwT,h⟩:=zb h
   refine WC.a ?_
   refine WL.a (d:=15) rfl rfl rfl (y6 (cs:=[(.slice z29 z1Q.length z2a),(.int .i64 zr.fR.fN),(.int .i64 zr.fR.fD),(.int .i64 zr.fLatency.fN),(.int .i64 zr.fLatency.fD),(.func (.func 37) #[] #[(.pointer (some z1Y)),(.pointer (some z1Z))]),(.slice z2b z1R.length z2c)]) y5W rfl rfl (y7 .h4)) ?_
   refine WL.y2A (dd:=16) rfl rfl rfl (zl (l:=[.tmp 15]) Try.call53 (.cons rfl .nil)) (.nil : Sel [stb z3v 77 [(.slice none 0 0)],stb z3o 98 [(.int .i64 0)],fz ([] ++ z60),stb z3n 30 [(.int .i64 0),(.int .i64 0)],stb z3k 79 [(.slice z29 z1Q.length z2a),(.int .i64 zr.fR.fN),(.int .i64 zr.fR.fD),(.int .i64 zr.fLatency.fN),(.int .i64 zr.fLatency.fD),(.func (.func 37) #[] #[(.pointer (some z1Y)),(.pointer (some z1Z))]),(.slice z2b z1R.length z2c)]] [] [stb z3v 77 [(.slice none 0 0)],stb z3o 98 [(.int .i64 0)],fz ([] ++ z60),stb z3n 30 [(.int .i64 0),(.int .i64 0)],stb z3k 79 [(.slice z29 z1Q.length z2a),(.int .i64 zr.fR.fN),(.int .i64 zr.fR.fD),(.int .i64 zr.fLatency.fN),(.int .i64 zr.fLatency.fD),(.func (.func 37) #[] #[(.pointer (some z1Y)),(.pointer (some z1Z))]),(.slice z2b z1R.length z2c)]]) (fun w hw=>by have pz:=(hz.call2 hw (.nil : Sel [stb z3v 77 [(.slice none 0 0)],stb z3o 98 [(.int .i64 0)],fz ([] ++ z60),stb z3n 30 [(.int .i64 0),(.int .i64 0)],stb z3k 79 [(.slice z29 z1Q.length z2a),(.int .i64 zr.fR.fN),(.int .i64 zr.fR.fD),(.int .i64 zr.fLatency.fN),(.int .i64 zr.fLatency.fD),(.func (.func 37) #[] #[(.pointer (some z1Y)),(.pointer (some z1Z))]),(.slice z2b z1R.length z2c)]] [] [stb z3v 77 [(.slice none 0 0)],stb z3o 98 [(.int .i64 0)],fz ([] ++ z60),stb z3n 30 [(.int .i64 0),(.int .i64 0)],stb z3k 79 [(.slice z29 z1Q.length z2a),(.int .i64 zr.fR.fN),(.int .i64 zr.fR.fD),(.int .i64 zr.fLatency.fN),(.int .i64 zr.fLatency.fD),(.func (.func 37) #[] #[(.pointer (some z1Y)),(.pointer (some z1Z))]),(.slice z2b z1R.length z2c)]]) .h2); exact y5L (Z:=_) (zcO:=z29) (zcP:=z2a) (zcQ:=z1Y) (zlD:=zd0) (zlE:=zd1) (zcR:=z1Z) (zcS:=z2b) (zcT:=z2c) (zaD:=z1Q) (z57:=zr) (zfK:=z6P) (zcN:=z5Y) (zaE:=z1R) (r:=z1t) w pz ((zm1.mono ((Zle.left _ _).trans ((Zle.left _ _).trans (Zle.yi _ _ _)))).weak (fun _ _ h=>yG ((Zle.left _ _).trans ((Zle.left _ _).trans (Zle.yi _ _ _))) h)) ((zhO.mono ((Zle.left _ _).trans ((Zle.left _ _).trans (Zle.yi _ _ _)))).weak (fun _ _ h=>yG ((Zle.left _ _).trans ((Zle.left _ _).trans (Zle.yi _ _ _))) h)) (zhP.mono ((Zle.left _ _).trans ((Zle.left _ _).trans (Zle.yi _ _ _)))) (zhQ.mono ((Zle.left _ _).trans ((Zle.left _ _).trans (Zle.yi _ _ _)))) (zm2.mono ((Zle.left _ _).trans ((Zle.left _ _).trans (Zle.yi _ _ _)))) zwT) ?_
   rintro z6u _
   refine WL.nil ?_
   refine WX.a ?_
   refine WC.block ?_
   refine WC.pool ?_
   refine WC.drop (.cons .here (.cons .h1 (.cons .h1 (.cons .h2 (.cons .h2 (.cons .here (.cons .here .nil))))))) ?_
   refine WC.nilRow 30 2 ?_
   refine WC.rangeFunc (f:=69) (caps:=[(.pointer (some ⟨z6u,0,none⟩))]) rfl Try.call69 ?_
   intro zB7 zB8 z4k z7M z4F zhR zwU zwV w hw
   have hw1:=hw.selAll ((.cons .h3 (.cons .h3 (.cons .h2 (.cons .h2 (.cons .h2 (.cons .h2 (.cons .here .nil))))))) : Sel _ [fz [],stb z3v 77 [(.slice none (([] : List z2).length) 0)],row (.slice none (([] : List z2).length) 0) 30 2 (([] : List z2).flatMap e30),stb z3o 98 [(.int .i64 0)],stb z3n 30 [(.int .i64 0),(.int .i64 0)],stb z3k 79 [(.slice z29 z1Q.length z2a),(.int .i64 zr.fR.fN),(.int .i64 zr.fR.fD),(.int .i64 zr.fLatency.fN),(.int .i64 zr.fLatency.fD),(.func (.func 37) #[] #[(.pointer (some z1Y)),(.pointer (some z1Z))]),(.slice z2b z1R.length z2c)],blk z4k (z4F .ready none)] _)
   have pz:=(hz.call2 hw1 ((.cons .here .nil) : Sel [y1A [fz [],stb z3v 77 [(.slice none (([] : List z2).length) 0)],row (.slice none (([] : List z2).length) 0) 30 2 (([] : List z2).flatMap e30),stb z3o 98 [(.int .i64 0)],stb z3n 30 [(.int .i64 0),(.int .i64 0)],stb z3k 79 [(.slice z29 z1Q.length z2a),(.int .i64 zr.fR.fN),(.int .i64 zr.fR.fD),(.int .i64 zr.fLatency.fN),(.int .i64 zr.fLatency.fD),(.func (.func 37) #[] #[(.pointer (some z1Y)),(.pointer (some z1Z))]),(.slice z2b z1R.length z2c)],blk z4k (z4F .ready none)],dfr z7M,stb z6u 79 [(.slice z29 z1Q.length z2a),(.int .i64 z1t.1),(.int .i64 z1t.2.1),(.int .i64 z1t.2.2.1),(.int .i64 z1t.2.2.2),(.func (.func 37) #[] #[(.pointer (some z1Y)),(.pointer (some z1Z))]),(.slice z2b z1R.length z2c)],fz ([] ++ z60)] [y1A [fz [],stb z3v 77 [(.slice none (([] : List z2).length) 0)],row (.slice none (([] : List z2).length) 0) 30 2 (([] : List z2).flatMap e30),stb z3o 98 [(.int .i64 0)],stb z3n 30 [(.int .i64 0),(.int .i64 0)],stb z3k 79 [(.slice z29 z1Q.length z2a),(.int .i64 zr.fR.fN),(.int .i64 zr.fR.fD),(.int .i64 zr.fLatency.fN),(.int .i64 zr.fLatency.fD),(.func (.func 37) #[] #[(.pointer (some z1Y)),(.pointer (some z1Z))]),(.slice z2b z1R.length z2c)],blk z4k (z4F .ready none)]] [dfr z7M,stb z6u 79 [(.slice z29 z1Q.length z2a),(.int .i64 z1t.1),(.int .i64 z1t.2.1),(.int .i64 z1t.2.2.1),(.int .i64 z1t.2.2.2),(.func (.func 37) #[] #[(.pointer (some z1Y)),(.pointer (some z1Z))]),(.slice z2b z1R.length z2c)],fz ([] ++ z60)]) .h2).lend hw1 ((.cons .here .nil) : Sel [y1A [fz [],stb z3v 77 [(.slice none (([] : List z2).length) 0)],row (.slice none (([] : List z2).length) 0) 30 2 (([] : List z2).flatMap e30),stb z3o 98 [(.int .i64 0)],stb z3n 30 [(.int .i64 0),(.int .i64 0)],stb z3k 79 [(.slice z29 z1Q.length z2a),(.int .i64 zr.fR.fN),(.int .i64 zr.fR.fD),(.int .i64 zr.fLatency.fN),(.int .i64 zr.fLatency.fD),(.func (.func 37) #[] #[(.pointer (some z1Y)),(.pointer (some z1Z))]),(.slice z2b z1R.length z2c)],blk z4k (z4F .ready none)],dfr z7M,stb z6u 79 [(.slice z29 z1Q.length z2a),(.int .i64 z1t.1),(.int .i64 z1t.2.1),(.int .i64 z1t.2.2.1),(.int .i64 z1t.2.2.2),(.func (.func 37) #[] #[(.pointer (some z1Y)),(.pointer (some z1Z))]),(.slice z2b z1R.length z2c)],fz ([] ++ z60)] [y1A [fz [],stb z3v 77 [(.slice none (([] : List z2).length) 0)],row (.slice none (([] : List z2).length) 0) 30 2 (([] : List z2).flatMap e30),stb z3o 98 [(.int .i64 0)],stb z3n 30 [(.int .i64 0),(.int .i64 0)],stb z3k 79 [(.slice z29 z1Q.length z2a),(.int .i64 zr.fR.fN),(.int .i64 zr.fR.fD),(.int .i64 zr.fLatency.fN),(.int .i64 zr.fLatency.fD),(.func (.func 37) #[] #[(.pointer (some z1Y)),(.pointer (some z1Z))]),(.slice z2b z1R.length z2c)],blk z4k (z4F .ready none)]] [dfr z7M,stb z6u 79 [(.slice z29 z1Q.length z2a),(.int .i64 z1t.1),(.int .i64 z1t.2.1),(.int .i64 z1t.2.2.1),(.int .i64 z1t.2.2.2),(.func (.func 37) #[] #[(.pointer (some z1Y)),(.pointer (some z1Z))]),(.slice z2b z1R.length z2c)],fz ([] ++ z60)]) (B:=[stb z6u 79 [(.slice z29 z1Q.length z2a),(.int .i64 z1t.1),(.int .i64 z1t.2.1),(.int .i64 z1t.2.2.1),(.int .i64 z1t.2.2.2),(.func (.func 37) #[] #[(.pointer (some z1Y)),(.pointer (some z1Z))]),(.slice z2b z1R.length z2c)]]) (fun _ hx'=>((.cons .h1 .nil) : Sel _ [stb z6u 79 [(.slice z29 z1Q.length z2a),(.int .i64 z1t.1),(.int .i64 z1t.2.1),(.int .i64 z1t.2.2.1),(.int .i64 z1t.2.2.2),(.func (.func 37) #[] #[(.pointer (some z1Y)),(.pointer (some z1Z))]),(.slice z2b z1R.length z2c)]] _).mem hx')
   obtain ⟨z5Z,zwW,h⟩:=zb h
   refine Calls.mono (y5l (Z:=_) (z84:=z4k) (z2O:=(Option Addr × Nat)) (z1L:=(fun (g : Option Addr × Nat) (s : Nat × List z2 × Int)=>y1A ([fz [],stb z3v 77 [(.slice g.1 s.2.1.length g.2)],row (.slice g.1 s.2.1.length g.2) 30 2 (s.2.1.flatMap e30),stb z3o 98 [(.int .i64 s.2.2)],stb z3n 30 [(.int .i64 0),(.int .i64 0)],stb z3k 79 [(.slice z29 z1Q.length z2a),(.int .i64 zr.fR.fN),(.int .i64 zr.fR.fD),(.int .i64 zr.fLatency.fN),(.int .i64 zr.fLatency.fD),(.func (.func 37) #[] #[(.pointer (some z1Y)),(.pointer (some z1Z))]),(.slice z2b z1R.length z2c)]] ++ [blk z4k (z4F (rdy (pcs [] s.1)) (pcs [] s.1))]))) (z85:=(fun (g : Option Addr × Nat) (s : Nat × List z2 × Int)=>True)) (z7L:=(none,0)) (z98:=⟨z6u,0,none⟩) (zbA:=z29) (zbB:=z2a) (zlJ:=z1Y) (zlK:=zd0) (zlL:=zd1) (zlM:=z1Z) (zfO:=z2b) (zfP:=z2c) (zI:=(Nat × List z2 × Int)) (z4i:=(fun (x : z2) (s : Nat × List z2 × Int)=>chk (s.1 = 0) (y13 z6P z5Y x s.2.1 s.2.2))) (s0_30244:=(0,([] : List z2),0)) (z4D:=z1Q) (zcU:=(⟨(⟨z1t.1,z1t.2.1⟩ : z2),(⟨z1t.2.2.1,z1t.2.2.2⟩ : z2)⟩ : zSv)) (zfN:=z6P) (zcV:=z5Y) (z1z:=z1R) (r:=z5Z) w pz ?_ trivial ((((zm1.mono ((Zle.left _ _).trans ((Zle.left _ _).trans (Zle.yi _ _ _)))).weak (fun _ _ h=>yG ((Zle.left _ _).trans ((Zle.left _ _).trans (Zle.yi _ _ _))) h)).mono (Zle.left _ _)).weak (fun _ _ h=>yG (Zle.left _ _) h)) ((((zhO.mono ((Zle.left _ _).trans ((Zle.left _ _).trans (Zle.yi _ _ _)))).weak (fun _ _ h=>yG ((Zle.left _ _).trans ((Zle.left _ _).trans (Zle.yi _ _ _))) h)).mono (Zle.left _ _)).weak (fun _ _ h=>yG (Zle.left _ _) h)) ((zhP.mono ((Zle.left _ _).trans ((Zle.left _ _).trans (Zle.yi _ _ _)))).mono (Zle.left _ _)) ((zhQ.mono ((Zle.left _ _).trans ((Zle.left _ _).trans (Zle.yi _ _ _)))).mono (Zle.left _ _)) ((zm2.mono ((Zle.left _ _).trans ((Zle.left _ _).trans (Zle.yi _ _ _)))).mono (Zle.left _ _)) ((hw1.lent ((.cons .here .nil) : Sel [y1A [fz [],stb z3v 77 [(.slice none (([] : List z2).length) 0)],row (.slice none (([] : List z2).length) 0) 30 2 (([] : List z2).flatMap e30),stb z3o 98 [(.int .i64 0)],stb z3n 30 [(.int .i64 0),(.int .i64 0)],stb z3k 79 [(.slice z29 z1Q.length z2a),(.int .i64 zr.fR.fN),(.int .i64 zr.fR.fD),(.int .i64 zr.fLatency.fN),(.int .i64 zr.fLatency.fD),(.func (.func 37) #[] #[(.pointer (some z1Y)),(.pointer (some z1Z))]),(.slice z2b z1R.length z2c)],blk z4k (z4F .ready none)],dfr z7M,stb z6u 79 [(.slice z29 z1Q.length z2a),(.int .i64 z1t.1),(.int .i64 z1t.2.1),(.int .i64 z1t.2.2.1),(.int .i64 z1t.2.2.2),(.func (.func 37) #[] #[(.pointer (some z1Y)),(.pointer (some z1Z))]),(.slice z2b z1R.length z2c)],fz ([] ++ z60)] [y1A [fz [],stb z3v 77 [(.slice none (([] : List z2).length) 0)],row (.slice none (([] : List z2).length) 0) 30 2 (([] : List z2).flatMap e30),stb z3o 98 [(.int .i64 0)],stb z3n 30 [(.int .i64 0),(.int .i64 0)],stb z3k 79 [(.slice z29 z1Q.length z2a),(.int .i64 zr.fR.fN),(.int .i64 zr.fR.fD),(.int .i64 zr.fLatency.fN),(.int .i64 zr.fLatency.fD),(.func (.func 37) #[] #[(.pointer (some z1Y)),(.pointer (some z1Z))]),(.slice z2b z1R.length z2c)],blk z4k (z4F .ready none)]] [dfr z7M,stb z6u 79 [(.slice z29 z1Q.length z2a),(.int .i64 z1t.1),(.int .i64 z1t.2.1),(.int .i64 z1t.2.2.1),(.int .i64 z1t.2.2.2),(.func (.func 37) #[] #[(.pointer (some z1Y)),(.pointer (some z1Z))]),(.slice z2b z1R.length z2c)],fz ([] ++ z60)]) (B:=[stb z6u 79 [(.slice z29 z1Q.length z2a),(.int .i64 z1t.1),(.int .i64 z1t.2.1),(.int .i64 z1t.2.2.1),(.int .i64 z1t.2.2.2),(.func (.func 37) #[] #[(.pointer (some z1Y)),(.pointer (some z1Z))]),(.slice z2b z1R.length z2c)]]) (fun _ hx'=>((.cons .h1 .nil) : Sel _ [stb z6u 79 [(.slice z29 z1Q.length z2a),(.int .i64 z1t.1),(.int .i64 z1t.2.1),(.int .i64 z1t.2.2.1),(.int .i64 z1t.2.2.2),(.func (.func 37) #[] #[(.pointer (some z1Y)),(.pointer (some z1Z))]),(.slice z2b z1R.length z2c)]] _).mem hx') (.head _) _).stb) zwW (hw1.owns ((.cons .here .nil) : Sel [y1A [fz [],stb z3v 77 [(.slice none (([] : List z2).length) 0)],row (.slice none (([] : List z2).length) 0) 30 2 (([] : List z2).flatMap e30),stb z3o 98 [(.int .i64 0)],stb z3n 30 [(.int .i64 0),(.int .i64 0)],stb z3k 79 [(.slice z29 z1Q.length z2a),(.int .i64 zr.fR.fN),(.int .i64 zr.fR.fD),(.int .i64 zr.fLatency.fN),(.int .i64 zr.fLatency.fD),(.func (.func 37) #[] #[(.pointer (some z1Y)),(.pointer (some z1Z))]),(.slice z2b z1R.length z2c)],blk z4k (z4F .ready none)],dfr z7M,stb z6u 79 [(.slice z29 z1Q.length z2a),(.int .i64 z1t.1),(.int .i64 z1t.2.1),(.int .i64 z1t.2.2.1),(.int .i64 z1t.2.2.2),(.func (.func 37) #[] #[(.pointer (some z1Y)),(.pointer (some z1Z))]),(.slice z2b z1R.length z2c)],fz ([] ++ z60)] [y1A [fz [],stb z3v 77 [(.slice none (([] : List z2).length) 0)],row (.slice none (([] : List z2).length) 0) 30 2 (([] : List z2).flatMap e30),stb z3o 98 [(.int .i64 0)],stb z3n 30 [(.int .i64 0),(.int .i64 0)],stb z3k 79 [(.slice z29 z1Q.length z2a),(.int .i64 zr.fR.fN),(.int .i64 zr.fR.fD),(.int .i64 zr.fLatency.fN),(.int .i64 zr.fLatency.fD),(.func (.func 37) #[] #[(.pointer (some z1Y)),(.pointer (some z1Z))]),(.slice z2b z1R.length z2c)],blk z4k (z4F .ready none)]] [dfr z7M,stb z6u 79 [(.slice z29 z1Q.length z2a),(.int .i64 z1t.1),(.int .i64 z1t.2.1),(.int .i64 z1t.2.2.1),(.int .i64 z1t.2.2.2),(.func (.func 37) #[] #[(.pointer (some z1Y)),(.pointer (some z1Z))]),(.slice z2b z1R.length z2c)],fz ([] ++ z60)]))) ?_
   ·skip
    refine y7j (LI:=(fun (g : Option Addr × Nat) (s : Nat × List z2 × Int)=>[fz [],stb z3v 77 [(.slice g.1 s.2.1.length g.2)],row (.slice g.1 s.2.1.length g.2) 30 2 (s.2.1.flatMap e30),stb z3o 98 [(.int .i64 s.2.2)],stb z3n 30 [(.int .i64 0),(.int .i64 0)],stb z3k 79 [(.slice z29 z1Q.length z2a),(.int .i64 zr.fR.fN),(.int .i64 zr.fR.fD),(.int .i64 zr.fLatency.fN),(.int .i64 zr.fLatency.fD),(.func (.func 37) #[] #[(.pointer (some z1Y)),(.pointer (some z1Z))]),(.slice z2b z1R.length z2c)]])) (pc:=(fun (s : Nat × List z2 × Int)=>pcs [] s.1)) zhR zwU zwV (fun _ _=>rfl) (by decide) ?_
    rintro z3B _ ⟨z6v,z5o⟩ ⟨zwX,z2C,z99⟩ zwY zwZ Fb wb zq5 _ hz
    replace hz:=hz.left
    letI : Rnd:=inR z4k
    obtain ⟨hp0,z86⟩:=yp zq5
    replace hp0 : zwX = 0:=hp0; subst hp0; clear zq5
    replace z86 : y13 z6P z5Y z3B z2C z99 = some (zwY,zwZ):=z86
    unfold y13 at z86
    refine WC.restr (env':=[(1,(.pointer (some ⟨z3k,0,none⟩))),(12,(.bool (decide (zek ≠ 0)))),(5,(.pointer (some ⟨z3o,0,none⟩))),(6,(.pointer (some ⟨z3v,0,none⟩))),(17,(.agg #[(.int .i64 z3B.fN),(.int .i64 z3B.fD)]))]) (.cons rfl (.cons rfl (.cons rfl (.cons rfl (.cons rfl .nil))))) ?_
    refine WC.eqL (L':=[fz [],stb z3v 77 [(.slice z6v z2C.length z5o)],row (.slice z6v z2C.length z5o) 30 2 (z2C.flatMap e30),stb z3o 98 [(.int .i64 z99)],stb z3n 30 [(.int .i64 0),(.int .i64 0)],stb z3k 79 [(.slice z29 z1Q.length z2a),(.int .i64 zr.fR.fN),(.int .i64 zr.fR.fD),(.int .i64 zr.fLatency.fN),(.int .i64 zr.fLatency.fD),(.func (.func 37) #[] #[(.pointer (some z1Y)),(.pointer (some z1Z))]),(.slice z2b z1R.length z2c)],blk z4k (z4F .ready none)]) rfl ?_
    refine WC.a ?_
    refine WL.new (dd:=7) rfl rfl rfl (yh (cs:=[(.int .i64 0),(.int .i64 0)]) yo rfl) ?_
    intro zaL _
    refine WL.yc rfl rfl (yd (vs:=[(.int .i64 z3B.fN),(.int .i64 z3B.fD)]) (ds:=[(.int .i64 z3B.fN),(.int .i64 z3B.fD)]) yl rfl rfl rfl rfl (y3 rfl (y3 rfl yf)) .here (Nat.le_of_ble_eq_true rfl) rfl) ?_
    refine WL.nil ?_
    refine WX.y7R zhR .h7 ?_
    refine WC.block ?_
    refine WC.b ?_
    obtain ⟨z3J,zx0,z86⟩:=zb z86
    refine WC.a ?_
    refine WL.a (d:=18) rfl rfl rfl (y4 y7E rfl rfl) ?_
    refine WL.a (d:=19) rfl rfl rfl (ye y9E rfl (yu .h7 rfl)) ?_
    refine WL.a (d:=20) rfl rfl rfl (y6 (cs:=[(.int .i64 z3B.fN),(.int .i64 z3B.fD)]) y5 rfl rfl (y7 .h1)) ?_
    refine WL.b (dd:=21) rfl rfl rfl (y2f (l:=[.tmp 5,.tmp 20]) Try.call37 rfl (.cons rfl (.cons rfl .nil))) ((.cons .h5 .nil) : Sel [blk z4k (z4F .busy none),stb zaL 30 [(.int .i64 z3B.fN),(.int .i64 z3B.fD)],fz [],stb z3v 77 [(.slice z6v z2C.length z5o)],row (.slice z6v z2C.length z5o) 30 2 (z2C.flatMap e30),stb z3o 98 [(.int .i64 z99)],stb z3n 30 [(.int .i64 0),(.int .i64 0)],stb z3k 79 [(.slice z29 z1Q.length z2a),(.int .i64 zr.fR.fN),(.int .i64 zr.fR.fD),(.int .i64 zr.fLatency.fN),(.int .i64 zr.fLatency.fD),(.func (.func 37) #[] #[(.pointer (some z1Y)),(.pointer (some z1Z))]),(.slice z2b z1R.length z2c)]] [stb z3o 98 [(.int .i64 z99)]] [blk z4k (z4F .busy none),stb zaL 30 [(.int .i64 z3B.fN),(.int .i64 z3B.fD)],fz [],stb z3v 77 [(.slice z6v z2C.length z5o)],row (.slice z6v z2C.length z5o) 30 2 (z2C.flatMap e30),stb z3n 30 [(.int .i64 0),(.int .i64 0)],stb z3k 79 [(.slice z29 z1Q.length z2a),(.int .i64 zr.fR.fN),(.int .i64 zr.fR.fD),(.int .i64 zr.fLatency.fN),(.int .i64 zr.fLatency.fD),(.func (.func 37) #[] #[(.pointer (some z1Y)),(.pointer (some z1Z))]),(.slice z2b z1R.length z2c)]]) (fun w hw=>by have pz:=(hz.call2 hw ((.cons .h5 .nil) : Sel [blk z4k (z4F .busy none),stb zaL 30 [(.int .i64 z3B.fN),(.int .i64 z3B.fD)],fz [],stb z3v 77 [(.slice z6v z2C.length z5o)],row (.slice z6v z2C.length z5o) 30 2 (z2C.flatMap e30),stb z3o 98 [(.int .i64 z99)],stb z3n 30 [(.int .i64 0),(.int .i64 0)],stb z3k 79 [(.slice z29 z1Q.length z2a),(.int .i64 zr.fR.fN),(.int .i64 zr.fR.fD),(.int .i64 zr.fLatency.fN),(.int .i64 zr.fLatency.fD),(.func (.func 37) #[] #[(.pointer (some z1Y)),(.pointer (some z1Z))]),(.slice z2b z1R.length z2c)]] [stb z3o 98 [(.int .i64 z99)]] [blk z4k (z4F .busy none),stb zaL 30 [(.int .i64 z3B.fN),(.int .i64 z3B.fD)],fz [],stb z3v 77 [(.slice z6v z2C.length z5o)],row (.slice z6v z2C.length z5o) 30 2 (z2C.flatMap e30),stb z3n 30 [(.int .i64 0),(.int .i64 0)],stb z3k 79 [(.slice z29 z1Q.length z2a),(.int .i64 zr.fR.fN),(.int .i64 zr.fR.fD),(.int .i64 zr.fLatency.fN),(.int .i64 zr.fLatency.fD),(.func (.func 37) #[] #[(.pointer (some z1Y)),(.pointer (some z1Z))]),(.slice z2b z1R.length z2c)]]) .h2); exact y71 (Z:=_) (z2P:=z3o) (zfS:=z1Y) (zhM:=zd0) (zhN:=zd1) (zfT:=z1Z) (z7d:=(⟨z99⟩ : z2y)) (z1c:=z3B) (zcZ:=z6P) (z5X:=z5Y) (r:=z3J) w pz ((zhO.mono ((Zle.left _ _).trans ((Zle.left _ _).trans ((Zle.yi _ _ _).trans (Zle.left _ _))))).weak (fun _ _ h=>yG ((Zle.left _ _).trans ((Zle.left _ _).trans ((Zle.yi _ _ _).trans (Zle.left _ _)))) h)) (zhP.mono ((Zle.left _ _).trans ((Zle.left _ _).trans ((Zle.yi _ _ _).trans (Zle.left _ _))))) (zhQ.mono ((Zle.left _ _).trans ((Zle.left _ _).trans ((Zle.yi _ _ _).trans (Zle.left _ _))))) zx0 (hw.owns ((.cons .h5 .nil) : Sel [blk z4k (z4F .busy none),stb zaL 30 [(.int .i64 z3B.fN),(.int .i64 z3B.fD)],fz [],stb z3v 77 [(.slice z6v z2C.length z5o)],row (.slice z6v z2C.length z5o) 30 2 (z2C.flatMap e30),stb z3o 98 [(.int .i64 z99)],stb z3n 30 [(.int .i64 0),(.int .i64 0)],stb z3k 79 [(.slice z29 z1Q.length z2a),(.int .i64 zr.fR.fN),(.int .i64 zr.fR.fD),(.int .i64 zr.fLatency.fN),(.int .i64 zr.fLatency.fD),(.func (.func 37) #[] #[(.pointer (some z1Y)),(.pointer (some z1Z))]),(.slice z2b z1R.length z2c)]] [stb z3o 98 [(.int .i64 z99)]] [blk z4k (z4F .busy none),stb zaL 30 [(.int .i64 z3B.fN),(.int .i64 z3B.fD)],fz [],stb z3v 77 [(.slice z6v z2C.length z5o)],row (.slice z6v z2C.length z5o) 30 2 (z2C.flatMap e30),stb z3n 30 [(.int .i64 0),(.int .i64 0)],stb z3k 79 [(.slice z29 z1Q.length z2a),(.int .i64 zr.fR.fN),(.int .i64 zr.fR.fD),(.int .i64 zr.fLatency.fN),(.int .i64 zr.fLatency.fD),(.func (.func 37) #[] #[(.pointer (some z1Y)),(.pointer (some z1Z))]),(.slice z2b z1R.length z2c)]]))) ?_
    refine WL.new (dd:=8) rfl rfl rfl (yh (cs:=[(.int .i64 0),(.int .i64 0)]) yo rfl) ?_
    intro zm4 _
    refine WL.yc rfl rfl (yd (vs:=[(.int .i64 z3J.1.fN),(.int .i64 z3J.1.fD)]) (ds:=[(.int .i64 z3J.1.fN),(.int .i64 z3J.1.fD)]) yl rfl rfl rfl rfl (y3 rfl (y3 rfl yf)) .here (Nat.le_of_ble_eq_true rfl) rfl) ?_
    refine WL.nil ?_
    refine WX.a ?_
    refine WC.b ?_
    obtain ⟨zlZ,zq6,z86⟩:=zb z86
    refine WC.y1e (fun i=>[].contains i) [] rfl ?_
    refine WD.e (i:=0) (d:=22) (by kernel_rfl) rfl (z6 (by kernel_rfl)) (z7 (by kernel_rfl)) rfl rfl rfl (ye y3y rfl (yu .h5 rfl)) ?_
    refine WD.a (i:=1) (d:=23) (by kernel_rfl) rfl (z6 (by kernel_rfl)) (z7 (by kernel_rfl)) rfl rfl rfl (fun _=>y1k Try.underlying77 rfl) ?_
    refine WD.a (i:=2) (d:=24) (by kernel_rfl) rfl (z6 (by kernel_rfl)) (z7 (by kernel_rfl)) rfl rfl rfl (fun _=>y3g rfl rfl) ?_
    refine WD.a (i:=3) (d:=25) (by kernel_rfl) rfl (z6 (by kernel_rfl)) (z7 (by kernel_rfl)) rfl rfl rfl (fun _=>q_m rfl) ?_
    refine WD.mid (fuel':=0) [(1,(.pointer (some ⟨z3k,0,none⟩))),(12,(.bool (decide (zek ≠ 0)))),(5,(.pointer (some ⟨z3o,0,none⟩))),(6,(.pointer (some ⟨z3v,0,none⟩))),(17,(.agg #[(.int .i64 z3B.fN),(.int .i64 z3B.fD)])),(7,(.pointer (some ⟨zaL,0,none⟩))),(18,(.pointer (some ⟨z3k,5,none⟩))),(19,(.func (.func 37) #[] #[(.pointer (some z1Y)),(.pointer (some z1Z))])),(20,(.agg #[(.int .i64 z3B.fN),(.int .i64 z3B.fD)])),(21,(.agg #[(.int .i64 z3J.1.fN),(.int .i64 z3J.1.fD)])),(8,(.pointer (some ⟨zm4,0,none⟩))),(22,(.slice z6v z2C.length z5o)),(23,(.int .i64 ((z2C.length : Nat) : Int))),(24,(.bool (decide (((z2C.length : Nat) : Int) = 0)))),(25,(.bool (decide (((z2C.length : Nat) : Int) = 0)))),(32,(.bool zlZ))] (y1C 11 [10,9,8,7,6,5,4,3,2,1,0]) ?_ (fun zq7=>?_)
    rotate_left
    ·rcases Bool.eq_false_or_eq_true (decide (((z2C.length : Nat) : Int) = 0)) with hb' | hb'
     ·have zm5:=hb'; clear hb'
      have zm6:=yj zq6 zm5
      replace zm6:=Option.some.inj zm6
      refine WD.pin (i:=25) rfl zm5 ?_
      refine WD.b (i:=4) (d:=26) (by kernel_rfl) rfl (z6 (by kernel_rfl)) (z7 (by kernel_rfl)) rfl rfl rfl ?_
      refine WD.b (i:=5) (d:=27) (by kernel_rfl) rfl (z6 (by kernel_rfl)) (z7 (by kernel_rfl)) rfl rfl rfl ?_
      refine WD.b (i:=6) (d:=28) (by kernel_rfl) rfl (z6 (by kernel_rfl)) (z7 (by kernel_rfl)) rfl rfl rfl ?_
      refine WD.b (i:=7) (d:=29) (by kernel_rfl) rfl (z6 (by kernel_rfl)) (z7 (by kernel_rfl)) rfl rfl rfl ?_
      refine WD.b (i:=8) (d:=30) (by kernel_rfl) rfl (z6 (by kernel_rfl)) (z7 (by kernel_rfl)) rfl rfl rfl ?_
      refine WD.b (i:=9) (d:=31) (by kernel_rfl) rfl (z6 (by kernel_rfl)) (z7 (by kernel_rfl)) rfl rfl rfl ?_
      refine WD.a (i:=10) (d:=32) (by kernel_rfl) rfl (z6 (by kernel_rfl)) (z7 (by kernel_rfl)) rfl rfl rfl (fun _=>ys rfl rfl) ?_
      refine WD.yV (.cons .here (.cons .here (.cons .here (.cons .here (.cons .here (.cons .here (.cons .here (.cons .here (.cons .here .nil))))))))) ?_ zq7
      exact (.cons rfl (.cons rfl (.cons rfl (.cons rfl (.cons rfl (.cons rfl (.cons rfl (.cons rfl (.cons rfl (.cons rfl (.cons rfl (.cons rfl (.cons rfl (.cons rfl (.cons (zt (Eq.symm zm5)) (.cons (zt zm6) .nil))))))))))))))))
     ·have zm7:=hb'; clear hb'
      have zd3:=yk zq6 zm7
      obtain ⟨zfX,zd3⟩:=yp zd3
      obtain ⟨zlY,zx1,zd3⟩:=zb zd3
      replace zd3:=Option.some.inj zd3
      refine WD.pin (i:=25) rfl zm7 ?_
      refine WD.e (i:=4) (d:=26) (by kernel_rfl) rfl (z6 (by kernel_rfl)) (z7 (by kernel_rfl)) rfl rfl rfl (y6 (cs:=[(.int .i64 z3J.1.fN),(.int .i64 z3J.1.fD)]) y5 rfl rfl (y7 .here)) ?_
      refine WD.e (i:=5) (d:=27) (by kernel_rfl) rfl (z6 (by kernel_rfl)) (z7 (by kernel_rfl)) rfl rfl rfl (ye y3y rfl (yu .h5 rfl)) ?_
      refine WD.know (fun w hw=>Hp.y49 .h6 hw (by intro hz'; have:=zfX; rw [hz'] at this; omega)) ?_
      rintro ⟨zhS,rfl⟩
      refine WD.a (i:=6) (d:=28) (by kernel_rfl) rfl (z6 (by kernel_rfl)) (z7 (by kernel_rfl)) rfl rfl rfl (fun _=>y1y y1H rfl rfl zfX.1 zfX.2 y4v) ?_
      refine WD.e (i:=7) (d:=29) (by kernel_rfl) rfl (z6 (by kernel_rfl)) (z7 (by kernel_rfl)) rfl rfl rfl (y6 (cs:=(e30 (nth z2C 0))) y5 rfl rfl (y3v .h6 (y3w (enc:=e30) (l:=z2C) (i:=0) (sz:=2) (fun _=>rfl) zfX.1 zfX.2))) ?_
      refine WD.c (i:=8) (d:=30) (by kernel_rfl) rfl (z6 (by kernel_rfl)) (z7 (by kernel_rfl)) rfl rfl rfl (zl (l:=[.tmp 26,.tmp 29]) Try.call18 (.cons rfl (.cons rfl .nil))) (fun w hw=>by have pz:=(hz.call2 hw (.nil : Sel [stb zm4 30 [(.int .i64 z3J.1.fN),(.int .i64 z3J.1.fD)],stb z3o 98 [(.int .i64 z3J.2.fE)],blk z4k (z4F .busy none),stb zaL 30 [(.int .i64 z3B.fN),(.int .i64 z3B.fD)],fz [],stb z3v 77 [(.slice (some ⟨zhS,0,none⟩) z2C.length z5o)],row (.slice (some ⟨zhS,0,none⟩) z2C.length z5o) 30 2 (z2C.flatMap e30),stb z3n 30 [(.int .i64 0),(.int .i64 0)],stb z3k 79 [(.slice z29 z1Q.length z2a),(.int .i64 zr.fR.fN),(.int .i64 zr.fR.fD),(.int .i64 zr.fLatency.fN),(.int .i64 zr.fLatency.fD),(.func (.func 37) #[] #[(.pointer (some z1Y)),(.pointer (some z1Z))]),(.slice z2b z1R.length z2c)]] [] [stb zm4 30 [(.int .i64 z3J.1.fN),(.int .i64 z3J.1.fD)],stb z3o 98 [(.int .i64 z3J.2.fE)],blk z4k (z4F .busy none),stb zaL 30 [(.int .i64 z3B.fN),(.int .i64 z3B.fD)],fz [],stb z3v 77 [(.slice (some ⟨zhS,0,none⟩) z2C.length z5o)],row (.slice (some ⟨zhS,0,none⟩) z2C.length z5o) 30 2 (z2C.flatMap e30),stb z3n 30 [(.int .i64 0),(.int .i64 0)],stb z3k 79 [(.slice z29 z1Q.length z2a),(.int .i64 zr.fR.fN),(.int .i64 zr.fR.fD),(.int .i64 zr.fLatency.fN),(.int .i64 zr.fLatency.fD),(.func (.func 37) #[] #[(.pointer (some z1Y)),(.pointer (some z1Z))]),(.slice z2b z1R.length z2c)]]) .h4); exact y1Y (Z:=_)  (z2m:=z3J.1) (z2n:=(⟨((nth z2C 0).fN),((nth z2C 0).fD)⟩ : z2)) (r:=zlY) w pz  zx1) ?_
      refine WD.a (i:=9) (d:=31) (by kernel_rfl) rfl (z6 (by kernel_rfl)) (z7 (by kernel_rfl)) rfl rfl rfl (fun _=>y3f rfl rfl) ?_
      refine WD.a (i:=10) (d:=32) (by kernel_rfl) rfl (z6 (by kernel_rfl)) (z7 (by kernel_rfl)) rfl rfl rfl (fun _=>yr rfl rfl) ?_
      refine WD.yV (.cons .here (.cons .here (.cons .here (.cons .here (.cons .here (.cons .here (.cons .here (.cons .here (.cons .here .nil))))))))) ?_ zq7
      exact (.cons rfl (.cons rfl (.cons rfl (.cons rfl (.cons rfl (.cons rfl (.cons rfl (.cons rfl (.cons rfl (.cons rfl (.cons rfl (.cons rfl (.cons rfl (.cons rfl (.cons (zt (Eq.symm zm7)) (.cons (zt zd3) .nil))))))))))))))))
    refine WD.done (by kernel_rfl) ?_
    refine WX.a ?_
    refine WC.cond rfl (fun zm8=>?_) (fun zm8=>?_)
    ·replace z86:=yj z86 zm8
     refine WC.a ?_
     refine WL.a (d:=33) rfl rfl rfl (y6 (cs:=[(.int .i64 z3J.1.fN),(.int .i64 z3J.1.fD)]) y5 rfl rfl (y7 .here)) ?_
     refine WL.new (dd:=34) rfl rfl rfl (yU (cs:=([z3J.1] : List z2).flatMap e30) y1H (Eos.parts (l:=[.tmp 33]) (.cons rfl .nil) [0]) (fun _=>by kernel_rfl) rfl (by unfold maxLen; omega)) ?_
     intro zfY _
     refine WL.yc rfl rfl (yd (vs:=[(.slice (some ⟨zfY,0,none⟩) (([z3J.1] : List z2).length) 1)]) (ds:=[(.slice (some ⟨zfY,0,none⟩) (([z3J.1] : List z2).length) 1)]) y8p rfl rfl rfl rfl (y3 rfl yf) .h6 (Nat.le_of_ble_eq_true rfl) rfl) ?_
     refine WL.nil ?_
     refine WX.yn ?_
     obtain ⟨rfl,rfl⟩:=y6L z86
     exact WX.y4g zhR .h4 (fun w' hw'=>⟨((some ⟨zfY,0,none⟩),1),rfl,trivial,(hw'.selAll ((.cons .h6 (.cons .h1 (.cons .h1 (.cons .h2 (.cons .h4 (.cons .h4 (.cons .here .nil))))))) : Sel _ [fz [],stb z3v 77 [(.slice (some ⟨zfY,0,none⟩) (([z3J.1] : List z2).length) 1)],row (.slice (some ⟨zfY,0,none⟩) (([z3J.1] : List z2).length) 1) 30 2 (([z3J.1] : List z2).flatMap e30),stb z3o 98 [(.int .i64 z3J.2.fE)],stb z3n 30 [(.int .i64 0),(.int .i64 0)],stb z3k 79 [(.slice z29 z1Q.length z2a),(.int .i64 zr.fR.fN),(.int .i64 zr.fR.fD),(.int .i64 zr.fLatency.fN),(.int .i64 zr.fLatency.fD),(.func (.func 37) #[] #[(.pointer (some z1Y)),(.pointer (some z1Z))]),(.slice z2b z1R.length z2c)],blk z4k (z4F .ready none)] _)).sub (.cons .here .nil)⟩)
    ·replace z86:=yk z86 zm8
     refine WC.skip ?_
     refine WX.yn ?_
     obtain ⟨rfl,rfl⟩:=y6L z86
     exact WX.y4g zhR .h2 (fun w' hw'=>⟨(z6v,z5o),rfl,trivial,(hw'.selAll ((.cons .h4 (.cons .h4 (.cons .h4 (.cons .h2 (.cons .h3 (.cons .h3 (.cons .here .nil))))))) : Sel _ [fz [],stb z3v 77 [(.slice z6v z2C.length z5o)],row (.slice z6v z2C.length z5o) 30 2 (z2C.flatMap e30),stb z3o 98 [(.int .i64 z3J.2.fE)],stb z3n 30 [(.int .i64 0),(.int .i64 0)],stb z3k 79 [(.slice z29 z1Q.length z2a),(.int .i64 zr.fR.fN),(.int .i64 zr.fR.fD),(.int .i64 zr.fLatency.fN),(.int .i64 zr.fLatency.fD),(.func (.func 37) #[] #[(.pointer (some z1Y)),(.pointer (some z1Z))]),(.slice z2b z1R.length z2c)],blk z4k (z4F .ready none)] _)).sub (.cons .here .nil)⟩)
   ·skip
    rintro _ w' ⟨zx2,⟨zfZ,zg0⟩,rfl,_,hp⟩
    have hp1:=hw1.call ((.cons .here .nil) : Sel [y1A [fz [],stb z3v 77 [(.slice none (([] : List z2).length) 0)],row (.slice none (([] : List z2).length) 0) 30 2 (([] : List z2).flatMap e30),stb z3o 98 [(.int .i64 0)],stb z3n 30 [(.int .i64 0),(.int .i64 0)],stb z3k 79 [(.slice z29 z1Q.length z2a),(.int .i64 zr.fR.fN),(.int .i64 zr.fR.fD),(.int .i64 zr.fLatency.fN),(.int .i64 zr.fLatency.fD),(.func (.func 37) #[] #[(.pointer (some z1Y)),(.pointer (some z1Z))]),(.slice z2b z1R.length z2c)],blk z4k (z4F .ready none)],dfr z7M,stb z6u 79 [(.slice z29 z1Q.length z2a),(.int .i64 z1t.1),(.int .i64 z1t.2.1),(.int .i64 z1t.2.2.1),(.int .i64 z1t.2.2.2),(.func (.func 37) #[] #[(.pointer (some z1Y)),(.pointer (some z1Z))]),(.slice z2b z1R.length z2c)],fz ([] ++ z60)] [y1A [fz [],stb z3v 77 [(.slice none (([] : List z2).length) 0)],row (.slice none (([] : List z2).length) 0) 30 2 (([] : List z2).flatMap e30),stb z3o 98 [(.int .i64 0)],stb z3n 30 [(.int .i64 0),(.int .i64 0)],stb z3k 79 [(.slice z29 z1Q.length z2a),(.int .i64 zr.fR.fN),(.int .i64 zr.fR.fD),(.int .i64 zr.fLatency.fN),(.int .i64 zr.fLatency.fD),(.func (.func 37) #[] #[(.pointer (some z1Y)),(.pointer (some z1Z))]),(.slice z2b z1R.length z2c)],blk z4k (z4F .ready none)]] [dfr z7M,stb z6u 79 [(.slice z29 z1Q.length z2a),(.int .i64 z1t.1),(.int .i64 z1t.2.1),(.int .i64 z1t.2.2.1),(.int .i64 z1t.2.2.2),(.func (.func 37) #[] #[(.pointer (some z1Y)),(.pointer (some z1Z))]),(.slice z2b z1R.length z2c)],fz ([] ++ z60)]) hp
    have hp2 : Hp _ _ w' [fz [],stb z3v 77 [(.slice zfZ z5Z.2.1.length zg0)],row (.slice zfZ z5Z.2.1.length zg0) 30 2 (z5Z.2.1.flatMap e30),stb z3o 98 [(.int .i64 z5Z.2.2)],stb z3n 30 [(.int .i64 0),(.int .i64 0)],stb z3k 79 [(.slice z29 z1Q.length z2a),(.int .i64 zr.fR.fN),(.int .i64 zr.fR.fD),(.int .i64 zr.fLatency.fN),(.int .i64 zr.fLatency.fD),(.func (.func 37) #[] #[(.pointer (some z1Y)),(.pointer (some z1Z))]),(.slice z2b z1R.length z2c)],blk z4k (z4F (rdy (pcs [] z5Z.1)) (pcs [] z5Z.1)),fz zx2,dfr z7M,stb z6u 79 [(.slice z29 z1Q.length z2a),(.int .i64 z1t.1),(.int .i64 z1t.2.1),(.int .i64 z1t.2.2.1),(.int .i64 z1t.2.2.2),(.func (.func 37) #[] #[(.pointer (some z1Y)),(.pointer (some z1Z))]),(.slice z2b z1R.length z2c)],fz ([] ++ z60)]:=hp1.pickAll .h1
    refine ⟨_,pcs [] z5Z.1,_,rfl,(hp2.sub ((.cons .h6 (.cons .here (.cons .here (.cons .here (.cons .here (.cons .here (.cons .here (.cons .h1 (.cons .h1 (.cons .h1 .nil)))))))))) : Sel _ [blk z4k (z4F (rdy (pcs [] z5Z.1)) (pcs [] z5Z.1)),fz [],stb z3v 77 [(.slice zfZ z5Z.2.1.length zg0)],row (.slice zfZ z5Z.2.1.length zg0) 30 2 (z5Z.2.1.flatMap e30),stb z3o 98 [(.int .i64 z5Z.2.2)],stb z3n 30 [(.int .i64 0),(.int .i64 0)],stb z3k 79 [(.slice z29 z1Q.length z2a),(.int .i64 zr.fR.fN),(.int .i64 zr.fR.fD),(.int .i64 zr.fLatency.fN),(.int .i64 zr.fLatency.fD),(.func (.func 37) #[] #[(.pointer (some z1Y)),(.pointer (some z1Z))]),(.slice z2b z1R.length z2c)],dfr z7M,stb z6u 79 [(.slice z29 z1Q.length z2a),(.int .i64 z1t.1),(.int .i64 z1t.2.1),(.int .i64 z1t.2.2.1),(.int .i64 z1t.2.2.2),(.func (.func 37) #[] #[(.pointer (some z1Y)),(.pointer (some z1Z))]),(.slice z2b z1R.length z2c)],fz ([] ++ z60)] _)),?_⟩
    clear hp hp1 hp2 pz hw hw1
    refine wjN ?_
    letI : Rnd:=aft z7M
    refine WX.merge .here .h7 ?_
    refine WX.yn ?_
    exact WX.midR (D:=fun (g : Nat × Int × List z2 × Zp × Option Addr × Nat)=>g.1) (G:=Nat × Int × List z2 × Zp × Option Addr × Nat) ⟨z7M,z5Z.2.2,z5Z.2.1,(([] ++ z60) ++ []),zfZ,zg0⟩ ⟨h,((Zle.left _ _).trans (Zle.yi _ _ _))⟩ (.cons rfl (.cons rfl (.cons rfl .nil))) (.cons .here (.cons .h3 (.cons .h2 (.cons .here (.cons .here (.cons .h1 .nil))))))
  ·rintro zfU z9I z6t zd2 zfV zfW ⟨h,zB9⟩
   replace h:=(zwS z9I z6t).symm.trans h
   letI : Rnd:=aft zfU
   refine WC.b ?_
   refine WC.b ?_
   refine WC.a ?_
   refine WL.a (d:=35) rfl rfl rfl (y4 y3c rfl rfl) ?_
   refine WL.a (d:=36) rfl rfl rfl (ye y2H rfl (yu .h2 rfl)) ?_
   refine WL.a (d:=37) rfl rfl rfl (y2L rfl rfl) ?_
   refine WL.nil ?_
   refine WX.a ?_
   refine WC.cond rfl (fun zm9=>?_) (fun zm9=>?_)
   ·replace h:=yj h zm9
    refine WC.b ?_
    refine WC.y1e (fun i=>[3].contains i) [stbp z3o 98 [(0,(.int .i64 z9I))]] rfl ?_
    refine WD.a (i:=0) (d:=38) (by kernel_rfl) rfl (z6 (by kernel_rfl)) (z7 (by kernel_rfl)) rfl rfl rfl (fun _=>y1j (v:=(.agg #[(.int .i64 0),(.int .i64 0)])) (Eos.parts (l:=[]) .nil []) (fun _=>by kernel_rfl)) ?_
    refine WD.a (i:=1) (d:=39) (by kernel_rfl) rfl (z6 (by kernel_rfl)) (z7 (by kernel_rfl)) rfl rfl rfl (fun _=>y4 y3c rfl rfl) ?_
    refine WD.y2z (i:=2) (d:=40) (by kernel_rfl) rfl (z6 (by kernel_rfl)) (z7 (by kernel_rfl)) rfl rfl rfl (Sin.wk (.cons .h2 .nil) (.stb (.cons rfl .nil) .nil)) (ye y2H rfl (y7A .here (.head _))) ?_
    refine WD.forced0 (i:=3) rfl (by kernel_rfl) rfl rfl rfl (Sin.wk (.cons .h2 .nil) (.stb (.cons rfl .nil) .nil)) (yd (vs:=[(.int .i64 0),(.int .i64 0)]) (ds:=[(.int .i64 0),(.int .i64 0)]) yl rfl rfl rfl rfl (y3 rfl (y3 rfl yf)) .h1 (Nat.le_of_ble_eq_true rfl) rfl) ?_
    refine WD.a (i:=4) (d:=3) (by kernel_rfl) rfl (z6 (by kernel_rfl)) (z7 (by kernel_rfl)) rfl rfl rfl (fun _=>q_z rfl) ?_
    refine WD.done (by kernel_rfl) ?_
    refine WX.a ?_
    refine WC.ret ?_
    refine WX.y8 ?_
    obtain rfl:=Option.some.inj h
    refine WX.y4H .h5 Try.results36 (.agg rfl y5 rfl (y7 .h1) (.tmp rfl .nil)) (fun w hw=>?_)
    exact ⟨zd2,y1I rfl rfl,trivial,hw.sub (.cons .h2 .nil)⟩
   ·replace h:=yk h zm9
    refine WC.skip ?_
    refine WX.a ?_
    refine WC.b ?_
    obtain ⟨zg1,h⟩:=yp h
    refine WC.a ?_
    refine WL.a (d:=41) rfl rfl rfl (ye y3y rfl (yu .h3 rfl)) ?_
    refine WL.know (fun w hw=>Hp.y49 .h4 hw (by intro hz'; have:=zg1; rw [hz'] at this; omega)) ?_
    rintro ⟨zBa,rfl⟩
    refine WL.a (d:=42) rfl rfl rfl (y1y y1H rfl rfl zg1.1 zg1.2 y4v) ?_
    refine WL.a (d:=43) rfl rfl rfl (y6 (cs:=(e30 (nth z6t 0))) y5 rfl rfl (y3v .h4 (y3w (enc:=e30) (l:=z6t) (i:=0) (sz:=2) (fun _=>rfl) zg1.1 zg1.2))) ?_
    refine WL.yc rfl rfl (yd (vs:=[(.int .i64 ((nth z6t 0).fN)),(.int .i64 ((nth z6t 0).fD))]) (ds:=[(.int .i64 ((nth z6t 0).fN)),(.int .i64 ((nth z6t 0).fD))]) yl rfl rfl rfl rfl (y3 rfl (y3 rfl yf)) .h1 (Nat.le_of_ble_eq_true rfl) rfl) ?_
    refine WL.a (d:=3) rfl rfl rfl (q_z rfl) ?_
    refine WL.nil ?_
    refine WX.a ?_
    refine WC.ret ?_
    obtain rfl:=Option.some.inj h
    refine WX.y4H .h5 Try.results36 (.agg rfl y5 rfl (y7 .h1) (.tmp rfl .nil)) (fun w hw=>?_)
    exact ⟨zd2,y1I rfl rfl,trivial,hw.sub (.cons .h2 .nil)⟩
def y27 (z5p : List (List z1)) (z1d : zSv) : Option (z2 × Int) :=
 (y2O z5p z1d z5p z1d ([z1d.fLatency] : List z2)).bind fun zbD=>some (zbD.1,zbD.2)
set_option maxRecDepth 20000 in
theorem y5m (Z : Zp)  (z6w : Option Addr) (z6x : Nat) (z5p : List (List z1)) (z1d : zSv) (r : z2 × Int) (w₀ : World) (hz : PZ [] w₀ Z)
  (zq8 : ZS Z 1 (p39 Z) z6w z6x z5p)
  (h : y27 z5p z1d = some r) :
  Calls Try.prog 16 #[(.slice z6w z5p.length z6x),(.agg #[(.int .i64 z1d.fR.fN),(.int .i64 z1d.fR.fD),(.int .i64 z1d.fLatency.fN),(.int .i64 z1d.fLatency.fD)])] w₀ fun e w'=>∃ Zn : Zp,e = .returned (.tuple #[(.agg #[(.int .i64 r.1.fN),(.int .i64 r.1.fD)]),(.int .i64 r.2)]) ∧ True ∧ Hp [] w₀ w' [fz Zn]:=by
 unfold y27 at h
 refine Calls.yg (vs:=[(.slice z6w z5p.length z6x),(.agg #[(.int .i64 z1d.fR.fN),(.int .i64 z1d.fR.fD),(.int .i64 z1d.fLatency.fN),(.int .i64 z1d.fLatency.fD)])]) (pre:=[]) (env:=[(0,(.slice z6w z5p.length z6x)),(1,(.agg #[(.int .i64 z1d.fR.fN),(.int .i64 z1d.fR.fD),(.int .i64 z1d.fLatency.fN),(.int .i64 z1d.fLatency.fD)]))]) Try.func16 rfl Try.ntmps16 rfl (Hp.nil w₀ _) rfl ?_
 refine WC.pool ?_
 refine WC.b ?_
 refine WC.a ?_
 refine WL.new (dd:=2) rfl rfl rfl (yK (cs:=[(.slice z6w z5p.length z6x)]) rfl rfl) ?_
 intro zbE _
 refine WL.new (dd:=3) rfl rfl rfl (yK (cs:=[(.int .i64 z1d.fR.fN),(.int .i64 z1d.fR.fD),(.int .i64 z1d.fLatency.fN),(.int .i64 z1d.fLatency.fD)]) rfl rfl) ?_
 intro zbF _
 refine WL.new (dd:=4) rfl rfl rfl (yh (cs:=[(.int .i64 0),(.int .i64 0)]) yo rfl) ?_
 intro zhT _
 refine WL.a (d:=5) rfl rfl rfl (q_z rfl) ?_
 refine WL.nil ?_
 refine WX.a ?_
 refine WC.b ?_
 refine WC.a ?_
 refine WL.a (d:=7) rfl rfl rfl (ye y3a rfl (yu .h2 rfl)) ?_
 refine WL.a (d:=8) rfl rfl rfl (y6 (cs:=[(.int .i64 z1d.fR.fN),(.int .i64 z1d.fR.fD),(.int .i64 z1d.fLatency.fN),(.int .i64 z1d.fLatency.fD)]) y4h rfl rfl (y7 .h1)) ?_
 refine WL.a (d:=9) rfl rfl rfl (y4 y55 rfl rfl) ?_
 refine WL.a (d:=10) rfl rfl rfl (y6 (cs:=[(.int .i64 z1d.fLatency.fN),(.int .i64 z1d.fLatency.fD)]) y5 rfl rfl (y1T (s:=2) .h1 rfl)) ?_
 refine WL.new (dd:=11) rfl rfl rfl (yU (cs:=([z1d.fLatency] : List z2).flatMap e30) y1H (Eos.parts (l:=[.tmp 10]) (.cons rfl .nil) [0]) (fun _=>by kernel_rfl) rfl (by unfold maxLen; omega)) ?_
 intro z9J _
 refine WL.a (d:=12) rfl rfl rfl (y1j (v:=(.agg #[(.slice z6w z5p.length z6x),(.int .i64 z1d.fR.fN),(.int .i64 z1d.fR.fD),(.int .i64 z1d.fLatency.fN),(.int .i64 z1d.fLatency.fD),.nilFunc,(.slice (some ⟨z9J,0,none⟩) (([z1d.fLatency] : List z2).length) 1)])) (Eos.parts (l:=[.tmp 7,.tmp 8,.tmp 11]) (.cons rfl (.cons rfl (.cons rfl .nil))) [0,1,3]) (fun _=>by kernel_rfl)) ?_
 refine WL.new (dd:=6) rfl rfl rfl (yh (cs:=[(.slice none 0 0),(.int .i64 0),(.int .i64 0),(.int .i64 0),(.int .i64 0),.nilFunc,(.slice none 0 0)]) y92 rfl) ?_
 intro zhU _
 refine WL.yc rfl rfl (yd (vs:=[(.slice z6w z5p.length z6x),(.int .i64 z1d.fR.fN),(.int .i64 z1d.fR.fD),(.int .i64 z1d.fLatency.fN),(.int .i64 z1d.fLatency.fD),.nilFunc,(.slice (some ⟨z9J,0,none⟩) (([z1d.fLatency] : List z2).length) 1)]) (ds:=[(.slice z6w z5p.length z6x),(.int .i64 z1d.fR.fN),(.int .i64 z1d.fR.fD),(.int .i64 z1d.fLatency.fN),(.int .i64 z1d.fLatency.fD),.nilFunc,(.slice (some ⟨z9J,0,none⟩) (([z1d.fLatency] : List z2).length) 1)]) y9B rfl rfl rfl rfl (y3 rfl (y3 rfl (y3 rfl (y3 rfl (y3 rfl (y3 rfl (y3 rfl yf))))))) .here (Nat.le_of_ble_eq_true rfl) rfl) ?_
 refine WL.nil ?_
 refine WX.a ?_
 refine WC.b ?_
 refine WC.a ?_
 refine WL.a (d:=13) rfl rfl rfl (y18 (Eos.caps (l:=[.tmp 2,.tmp 3]) (.cons rfl (.cons rfl .nil)))) ?_
 refine WL.a (d:=14) rfl rfl rfl (y4 y7E rfl rfl) ?_
 refine WL.yc rfl rfl (yd (vs:=[(.func (.func 37) #[] #[(.pointer (some ⟨zbE,0,none⟩)),(.pointer (some ⟨zbF,0,none⟩))])]) (ds:=[(.slice z6w z5p.length z6x),(.int .i64 z1d.fR.fN),(.int .i64 z1d.fR.fD),(.int .i64 z1d.fLatency.fN),(.int .i64 z1d.fLatency.fD),(.func (.func 37) #[] #[(.pointer (some ⟨zbE,0,none⟩)),(.pointer (some ⟨zbF,0,none⟩))]),(.slice (some ⟨z9J,0,none⟩) (([z1d.fLatency] : List z2).length) 1)]) y9C rfl rfl rfl rfl (y3 rfl yf) .here (Nat.le_of_ble_eq_true rfl) rfl) ?_
 refine WL.nil ?_
 refine WX.a ?_
 refine WC.b ?_
 obtain ⟨zbD,zx3,h⟩:=zb h
 refine WC.a ?_
 refine WL.a (d:=15) rfl rfl rfl (y6 (cs:=[(.slice z6w z5p.length z6x),(.int .i64 z1d.fR.fN),(.int .i64 z1d.fR.fD),(.int .i64 z1d.fLatency.fN),(.int .i64 z1d.fLatency.fD),(.func (.func 37) #[] #[(.pointer (some ⟨zbE,0,none⟩)),(.pointer (some ⟨zbF,0,none⟩))]),(.slice (some ⟨z9J,0,none⟩) (([z1d.fLatency] : List z2).length) 1)]) y5W rfl rfl (y7 .here)) ?_
 refine WL.freezeC (Z:=Z) .h4 .h4 ?_
 intro zBb zhV zx4
 refine WL.freezeC (Z:=Z) .h4 .here ?_
 intro zBc zg2 zx5
 refine WL.freezeS (ls:=([z1d.fLatency] : List z2)) .h2 .here hz (RR.flat (enc:=e30) (fun _=>rfl) _) ?_
 intro zg3 zel zx6
 refine WL.y2A (dd:=16) rfl rfl rfl (zl (l:=[.tmp 15]) Try.call36 (.cons rfl .nil)) (.nil : Sel [fz zg3,stb zhU 79 [(.slice z6w z5p.length z6x),(.int .i64 z1d.fR.fN),(.int .i64 z1d.fR.fD),(.int .i64 z1d.fLatency.fN),(.int .i64 z1d.fLatency.fD),(.func (.func 37) #[] #[(.pointer (some ⟨zbE,0,none⟩)),(.pointer (some ⟨zbF,0,none⟩))]),(.slice (some ⟨z9J,0,none⟩) (([z1d.fLatency] : List z2).length) 1)],stb zhT 30 [(.int .i64 0),(.int .i64 0)]] [] [fz zg3,stb zhU 79 [(.slice z6w z5p.length z6x),(.int .i64 z1d.fR.fN),(.int .i64 z1d.fR.fD),(.int .i64 z1d.fLatency.fN),(.int .i64 z1d.fLatency.fD),(.func (.func 37) #[] #[(.pointer (some ⟨zbE,0,none⟩)),(.pointer (some ⟨zbF,0,none⟩))]),(.slice (some ⟨z9J,0,none⟩) (([z1d.fLatency] : List z2).length) 1)],stb zhT 30 [(.int .i64 0),(.int .i64 0)]]) (fun w hw=>by have pz:=(hz.call2 hw (.nil : Sel [fz zg3,stb zhU 79 [(.slice z6w z5p.length z6x),(.int .i64 z1d.fR.fN),(.int .i64 z1d.fR.fD),(.int .i64 z1d.fLatency.fN),(.int .i64 z1d.fLatency.fD),(.func (.func 37) #[] #[(.pointer (some ⟨zbE,0,none⟩)),(.pointer (some ⟨zbF,0,none⟩))]),(.slice (some ⟨z9J,0,none⟩) (([z1d.fLatency] : List z2).length) 1)],stb zhT 30 [(.int .i64 0),(.int .i64 0)]] [] [fz zg3,stb zhU 79 [(.slice z6w z5p.length z6x),(.int .i64 z1d.fR.fN),(.int .i64 z1d.fR.fD),(.int .i64 z1d.fLatency.fN),(.int .i64 z1d.fLatency.fD),(.func (.func 37) #[] #[(.pointer (some ⟨zbE,0,none⟩)),(.pointer (some ⟨zbF,0,none⟩))]),(.slice (some ⟨z9J,0,none⟩) (([z1d.fLatency] : List z2).length) 1)],stb zhT 30 [(.int .i64 0),(.int .i64 0)]]) .here); exact y6E (Z:=_) (z29:=z6w) (z2a:=z6x) (z1Y:=⟨zbE,0,none⟩) (zd0:=z6w) (zd1:=z6x) (z1Z:=⟨zbF,0,none⟩) (z2b:=(some ⟨z9J,0,none⟩)) (z2c:=1) (z1Q:=z5p) (zr:=z1d) (z6P:=z5p) (z5Y:=z1d) (z1R:=([z1d.fLatency] : List z2)) (r:=zbD) w pz ((zq8.mono ((Zle.left _ _).trans (zhV.trans (zg2.trans zel)))).weak (fun _ _ h=>yG ((Zle.left _ _).trans (zhV.trans (zg2.trans zel))) h)) ((zq8.mono ((Zle.left _ _).trans (zhV.trans (zg2.trans zel)))).weak (fun _ _ h=>yG ((Zle.left _ _).trans (zhV.trans (zg2.trans zel))) h)) (zx4.mono (zg2.trans zel)) (zx5.mono zel) zx6 zx3) ?_
 rintro zx7 _
 refine WL.merge .here .here ?_
 refine WL.a (d:=17) rfl rfl rfl (yb rfl rfl) ?_
 refine WL.a (d:=18) rfl rfl rfl (yb rfl rfl) ?_
 refine WL.yc rfl rfl (yd (vs:=[(.int .i64 zbD.1.fN),(.int .i64 zbD.1.fD)]) (ds:=[(.int .i64 zbD.1.fN),(.int .i64 zbD.1.fD)]) yl rfl rfl rfl rfl (y3 rfl (y3 rfl yf)) .h2 (Nat.le_of_ble_eq_true rfl) rfl) ?_
 refine WL.a (d:=5) rfl rfl rfl (q_z rfl) ?_
 refine WL.nil ?_
 refine WX.a ?_
 refine WC.ret ?_
 obtain rfl:=Option.some.inj h
 refine WX.y9 Try.results16 (.agg rfl y5 rfl (y7 .here) (.tmp rfl .nil)) (fun w hw=>?_)
 exact ⟨(zg3 ++ zx7),y1I rfl rfl,trivial,hw.sub (.cons .h1 .nil)⟩
def y2k (z13 : List zSt) (z1n : Int) (z3N : List z1) (zaM : Bool → Option (Bool × Int)) : Nat → Bool → Int → Int → Option (Bool × Int)
 | 0,_,_,_=>none
 | zma + 1,z7N,z7q,z2j=>if decide (z2j < (((z13.drop (z1n : Int).toNat).length : Nat) : Int)) then chk ((0 : Int) ≤ z2j ∧ z2j < (((z13.drop (z1n : Int).toNat).length : Nat) : Int)) (chk ((0 : Int) ≤ z1n ∧ z1n < ((z13.length : Nat) : Int)) ((y2N z3N (⟨i64 (((nth (z13.drop (z1n : Int).toNat) z2j).fTime) - ((nth z13 z1n).fTime)),1⟩ : z2)).bind fun z5q=>if decide (z5q.2 ≠ 0) then some (false,z5q.2) else (if z7N then (yO (⟨i64 (z7q + ((nth (z13.drop (z1n : Int).toNat) z2j).fSize)),1⟩ : z2) z5q.1).bind fun zmb=>some (decide (zmb ≤ 0)) else some false).bind fun zhW=>y2k z13 z1n z3N zaM zma zhW (i64 (z7q + ((nth (z13.drop (z1n : Int).toNat) z2j).fSize))) (i64 (z2j + 1)))) else zaM z7N
theorem y5n {n : Nat} {z13 : List zSt} {z1n : Int} {z3N : List z1} {zaM : Bool → Option (Bool × Int)} {z7N : Bool} {z7q : Int} {z2j : Int} {r : Bool × Int} (h : y2k z13 z1n z3N zaM n z7N z7q z2j = some r) : ∃ m,n = m + 1:=by
 cases n with
 | zero=>cases h
 | succ m=>exact ⟨m,rfl⟩
def y2l (z13 : List zSt) (z3N : List z1) (zaN : Bool → Option (Bool × Int)) : Nat → Bool → Int → Option (Bool × Int)
 | 0,_,_=>none
 | zmc + 1,z87,z1n=>if decide (z1n < ((z13.length : Nat) : Int)) then jp1 (fun (zaO : Bool)=>y2l z13 z3N zaN zmc zaO (i64 (z1n + 1))) fun zmd=>chk ((0 : Int) ≤ z1n ∧ (z1n : Int) ≤ (z13.length : Int) ∧ (z13.length : Int) ≤ ((z13.length : Nat) : Int)) (jp1 (fun (zaP : Bool)=>zmd zaP) fun zaM=>y2k z13 z1n z3N zaM yw z87 0 0) else zaN z87
theorem y5o {n : Nat} {z13 : List zSt} {z3N : List z1} {zaN : Bool → Option (Bool × Int)} {z87 : Bool} {z1n : Int} {r : Bool × Int} (h : y2l z13 z3N zaN n z87 z1n = some r) : ∃ m,n = m + 1:=by
 cases n with
 | zero=>cases h
 | succ m=>exact ⟨m,rfl⟩
def y37 (z3N : List z1) (z13 : List zSt) : Option (Bool × Int) :=
 (y2m z3N).bind fun zhX=>(if !zhX then some true else (y3t z13).bind fun zme=>some (!zme)).bind fun zmf=>if zmf then some (false,2) else jp1 (fun (zbG : Bool)=>some (zbG,0)) fun zaN=>y2l z13 z3N zaN yw true 0
set_option maxRecDepth 20000 in
theorem y4Z (Z : Zp)  (z7O : Option Addr) (z7P : Nat) (z88 : Option Addr) (z89 : Nat) (z3N : List z1) (z13 : List zSt) (r : Bool × Int) (w₀ : World) (hz : PZ [] w₀ Z)
  (zq9 : ZS Z 4 (fun r x=>r = e35 x) z7O z7P z3N)
  (zmg : ZS Z 3 (fun r x=>r = e51 x) z88 z89 z13)
  (h : y37 z3N z13 = some r) :
  Calls Try.prog 12 #[(.slice z7O z3N.length z7P),(.slice z88 z13.length z89)] w₀ fun e w'=>e = .returned (.tuple #[(.bool r.1),(.int .i64 r.2)]) ∧ Hp [] w₀ w' []:=by
 unfold y37 at h
 refine Calls.yg (vs:=[(.slice z7O z3N.length z7P),(.slice z88 z13.length z89)]) (pre:=[]) (env:=[(0,(.slice z7O z3N.length z7P)),(1,(.slice z88 z13.length z89))]) Try.func12 rfl Try.ntmps12 rfl (Hp.nil w₀ _) rfl ?_
 refine WC.b ?_
 refine WC.a ?_
 refine WL.a (d:=4) rfl rfl rfl (q_z rfl) ?_
 refine WL.a (d:=5) rfl rfl rfl (q_z rfl) ?_
 refine WL.nil ?_
 refine WX.a ?_
 refine WC.b ?_
 refine WC.b ?_
 obtain ⟨zhX,zx8,h⟩:=zb h
 obtain ⟨zmf,zqa,h⟩:=zb h
 refine WC.a ?_
 refine WL.a (d:=13) rfl rfl rfl (q_m rfl) ?_
 refine WL.b (dd:=14) rfl rfl rfl (zl (l:=[.tmp 13]) Try.call30 (.cons rfl .nil)) (.nil : Sel [] [] []) (fun w hw=>by have pz:=(hz.call hw (.nil : Sel [] [] [])); exact y3O (Z:=_) (z8L:=z7O) (z8M:=z7P) (z5t:=z3N) (r:=zhX) w pz zq9 zx8) ?_
 refine WL.a (d:=15) rfl rfl rfl (y1n rfl) ?_
 refine WL.a (d:=16) rfl rfl rfl (q_m rfl) ?_
 refine WL.yF True [(0,(.slice z7O z3N.length z7P)),(1,(.slice z88 z13.length z89)),(20,(.bool zmf))] [] 4 ?_ (fun _=>?_)
 ·rcases Bool.eq_false_or_eq_true (!zhX) with hb' | hb'
  ·have zqb:=hb'; clear hb'
   have zmh:=yj zqa zqb
   replace zmh:=Option.some.inj zmh
   refine WL.pin (i:=16) rfl zqb ?_
   refine WL.e rfl rfl rfl ?_
   refine WL.e rfl rfl rfl ?_
   refine WL.e rfl rfl rfl ?_
   refine WL.a (d:=20) rfl rfl rfl (ys rfl rfl) ?_
   exact WL.ya () trivial (.cons rfl (.cons rfl (.cons (zt zmh) .nil))) .nil
  ·have zqc:=hb'; clear hb'
   have zg4:=yk zqa zqc
   obtain ⟨zme,zx9,zg4⟩:=zb zg4
   replace zg4:=Option.some.inj zg4
   refine WL.pin (i:=16) rfl zqc ?_
   refine WL.a (d:=17) rfl rfl rfl (q_m rfl) ?_
   refine WL.b (dd:=18) rfl rfl rfl (zl (l:=[.tmp 17]) Try.call31 (.cons rfl .nil)) (.nil : Sel [] [] []) (fun w hw=>by have pz:=(hz.call hw (.nil : Sel [] [] [])); exact y5A (Z:=_) (z5I:=z88) (z5J:=z89) (zZ:=z13) (r:=zme) w pz zmg zx9) ?_
   refine WL.a (d:=19) rfl rfl rfl (y1n rfl) ?_
   refine WL.a (d:=20) rfl rfl rfl (yr rfl rfl) ?_
   exact WL.ya () trivial (.cons rfl (.cons rfl (.cons (zt zg4) .nil))) .nil
 ·skip
  refine WL.nil ?_
  refine WX.a ?_
  refine WC.cond rfl (fun zmi=>?_) (fun zmi=>?_)
  ·replace h:=yj h zmi
   refine WC.b ?_
   refine WC.a ?_
   refine WL.a (d:=4) rfl rfl rfl (q_z rfl) ?_
   refine WL.a (d:=5) rfl rfl rfl (q_z rfl) ?_
   refine WL.nil ?_
   refine WX.a ?_
   refine WC.ret ?_
   refine WX.y8 ?_
   obtain rfl:=Option.some.inj h
   refine WX.y9 Try.results12 (.tmp rfl (.tmp rfl .nil)) (fun w hw=>?_)
   exact ⟨y1I rfl rfl,hw.sub .nil⟩
  ·replace h:=yk h zmi
   refine WC.skip ?_
   refine WX.a ?_
   refine WC.b ?_
   refine WC.a ?_
   refine WL.a (d:=6) rfl rfl rfl (q_z rfl) ?_
   refine WL.nil ?_
   refine WX.a ?_
   obtain ⟨zaN,zxa,h⟩:=y1r h
   refine WC.y4f (fun (zbG : Bool)=>(zaN zbG = some r)) (fun (zbG : Bool)=>[(6,(.bool zbG))]) (fun (zbG : Bool)=>[]) ?_ ?_
   ·skip
    refine WC.b ?_
    refine WC.a ?_
    refine WL.a (d:=21) rfl rfl rfl (q_m rfl) ?_
    refine WL.a (d:=22) rfl rfl rfl (y1k Try.underlying24 rfl) ?_
    refine WL.a (d:=23) rfl rfl rfl (q_m rfl) ?_
    refine WL.nil ?_
    refine WX.a ?_
    refine WC.block ?_
    refine WC.y8R (fun (zem : Nat) (z87 : Bool) (z1n : Int)=>(y2l z13 z3N zaN zem z87 z1n = some r)) (fun (zem : Nat) (z87 : Bool) (z1n : Int)=>[(0,(.slice z7O z3N.length z7P)),(1,(.slice z88 z13.length z89)),(6,(.bool z87)),(22,(.int .i64 ((z13.length : Nat) : Int))),(23,(.int .i64 z1n))]) (fun (zem : Nat) (z87 : Bool) (z1n : Int)=>[]) (fun (zem : Nat) (z87 : Bool) (z1n : Int)=>zem) ⟨yw,true,0⟩ h (.cons rfl (.cons rfl (.cons rfl (.cons rfl (.cons rfl .nil))))) .nil ?_
    rintro zem z87 z1n h
    obtain ⟨zmc,rfl⟩:=y5o h
    rw [y2l] at h
    refine WC.b ?_
    refine WC.a ?_
    refine WL.a (d:=24) rfl rfl rfl (y1h rfl rfl) ?_
    refine WL.nil ?_
    refine WX.a ?_
    refine WC.b ?_
    refine WC.cond rfl (fun zmj=>?_) (fun zmj=>?_)
    ·replace h:=yj h zmj
     refine WC.skip ?_
     refine WX.a ?_
     obtain ⟨zmd,zxb,h⟩:=y1r h
     refine WC.y4f (fun (zaO : Bool)=>(zmd zaO = some r)) (fun (zaO : Bool)=>[(0,(.slice z7O z3N.length z7P)),(1,(.slice z88 z13.length z89)),(6,(.bool zaO)),(22,(.int .i64 ((z13.length : Nat) : Int))),(23,(.int .i64 z1n))]) (fun (zaO : Bool)=>[]) ?_ ?_
     ·skip
      refine WC.block ?_
      refine WC.b ?_
      refine WC.a ?_
      refine WL.a (d:=25) rfl rfl rfl (q_m rfl) ?_
      refine WL.a (d:=7) rfl rfl rfl (q_z rfl) ?_
      refine WL.nil ?_
      refine WX.a ?_
      refine WC.b ?_
      refine WC.a ?_
      refine WL.a (d:=8) rfl rfl rfl (q_z rfl) ?_
      refine WL.nil ?_
      refine WX.a ?_
      refine WC.b ?_
      obtain ⟨zxc,h⟩:=yp h
      refine WC.a ?_
      refine WL.a (d:=26) rfl rfl rfl (q_m rfl) ?_
      refine WL.a (d:=27) rfl rfl rfl (q_m rfl) ?_
      refine WL.zsub (dd:=28) rfl rfl (Z:=Z) (Pr:=(fun r x=>r = e51 x)) y67 rfl zmg (ixo rfl) ixn rfl rfl zxc (by rw [Int.toNat_natCast,List.take_length]) ?_
      rintro zqd zqe zxd
      refine WL.a (d:=29) rfl rfl rfl (y1k Try.underlying24 rfl) ?_
      refine WL.a (d:=30) rfl rfl rfl (q_m rfl) ?_
      refine WL.nil ?_
      refine WX.a ?_
      obtain ⟨zaM,zxe,h⟩:=y1r h
      refine WC.mid1 (fun (zaP : Bool)=>(zaM zaP = some r)) (fun (zaP : Bool)=>[(0,(.slice z7O z3N.length z7P)),(1,(.slice z88 z13.length z89)),(6,(.bool zaP)),(22,(.int .i64 ((z13.length : Nat) : Int))),(23,(.int .i64 z1n))]) (fun (zaP : Bool)=>[]) ?_ ?_
      ·skip
       refine WC.block ?_
       refine WC.y48 (fun (zen : Nat) (z7N : Bool) (z7q : Int) (z2j : Int)=>(y2k z13 z1n z3N zaM zen z7N z7q z2j = some r)) (fun (zen : Nat) (z7N : Bool) (z7q : Int) (z2j : Int)=>[(0,(.slice z7O z3N.length z7P)),(1,(.slice z88 z13.length z89)),(6,(.bool z7N)),(7,(.int .i64 z1n)),(8,(.int .i64 z7q)),(22,(.int .i64 ((z13.length : Nat) : Int))),(23,(.int .i64 z1n)),(28,(.slice zqd ((z13.drop (z1n : Int).toNat).length) zqe)),(29,(.int .i64 (((z13.drop (z1n : Int).toNat).length : Nat) : Int))),(30,(.int .i64 z2j))]) (fun (zen : Nat) (z7N : Bool) (z7q : Int) (z2j : Int)=>[]) (fun (zen : Nat) (z7N : Bool) (z7q : Int) (z2j : Int)=>zen) ⟨yw,z87,0,0⟩ h (.cons rfl (.cons rfl (.cons rfl (.cons rfl (.cons rfl (.cons rfl (.cons rfl (.cons rfl (.cons rfl (.cons rfl .nil)))))))))) .nil ?_
       rintro zen z7N z7q z2j h
       obtain ⟨zma,rfl⟩:=y5n h
       rw [y2k] at h
       refine WC.b ?_
       refine WC.a ?_
       refine WL.a (d:=31) rfl rfl rfl (y1h rfl rfl) ?_
       refine WL.nil ?_
       refine WX.a ?_
       refine WC.b ?_
       refine WC.cond rfl (fun zmk=>?_) (fun zmk=>?_)
       ·replace h:=yj h zmk
        refine WC.skip ?_
        refine WX.a ?_
        refine WC.b ?_
        refine WC.block ?_
        refine WC.b ?_
        obtain ⟨zxf,h⟩:=yp h
        refine WC.a ?_
        refine WL.znth (dd:=32) rfl rfl (Z:=Z) (Pr:=(fun r x=>r = e51 x)) y67 rfl rfl zxd zxf ?_
        rintro zBd zBe zxg zBf rfl
        refine WL.a (d:=33) rfl rfl rfl (y6 (cs:=[(.int .i64 ((nth (z13.drop (z1n : Int).toNat) z2j).fTime)),(.int .i64 ((nth (z13.drop (z1n : Int).toNat) z2j).fVL)),(.int .i64 ((nth (z13.drop (z1n : Int).toNat) z2j).fSize))]) y8m rfl rfl (y2T hz.pv zxg)) ?_
        refine WL.new (dd:=10) rfl rfl rfl (yh (cs:=[(.int .i64 0),(.int .i64 0),(.int .i64 0)]) y7U rfl) ?_
        intro zd4 _
        refine WL.yc rfl rfl (yd (vs:=[(.int .i64 ((nth (z13.drop (z1n : Int).toNat) z2j).fTime)),(.int .i64 ((nth (z13.drop (z1n : Int).toNat) z2j).fVL)),(.int .i64 ((nth (z13.drop (z1n : Int).toNat) z2j).fSize))]) (ds:=[(.int .i64 ((nth (z13.drop (z1n : Int).toNat) z2j).fTime)),(.int .i64 ((nth (z13.drop (z1n : Int).toNat) z2j).fVL)),(.int .i64 ((nth (z13.drop (z1n : Int).toNat) z2j).fSize))]) y8n rfl rfl rfl rfl (y3 rfl (y3 rfl (y3 rfl yf))) .here (Nat.le_of_ble_eq_true rfl) rfl) ?_
        refine WL.nil ?_
        refine WX.a ?_
        refine WC.b ?_
        refine WC.a ?_
        refine WL.a (d:=34) rfl rfl rfl (q_m rfl) ?_
        refine WL.a (d:=35) rfl rfl rfl (y4 y7D rfl rfl) ?_
        refine WL.a (d:=36) rfl rfl rfl (ye yx rfl (yu .here rfl)) ?_
        refine WL.a (d:=37) rfl rfl rfl (y1d rfl rfl rfl) ?_
        refine WL.a (d:=8) rfl rfl rfl (q_z rfl) ?_
        refine WL.nil ?_
        refine WX.a ?_
        refine WC.b ?_
        obtain ⟨zxh,h⟩:=yp h
        obtain ⟨z5q,zxi,h⟩:=zb h
        refine WC.y1e (fun i=>[15].contains i) [] rfl ?_
        refine WD.a (i:=0) (d:=39) (by kernel_rfl) rfl (z6 (by kernel_rfl)) (z7 (by kernel_rfl)) rfl rfl rfl (fun _=>q_m rfl) ?_
        refine WD.a (i:=1) (d:=40) (by kernel_rfl) rfl (z6 (by kernel_rfl)) (z7 (by kernel_rfl)) rfl rfl rfl (fun _=>y4 y54 rfl rfl) ?_
        refine WD.e (i:=2) (d:=41) (by kernel_rfl) rfl (z6 (by kernel_rfl)) (z7 (by kernel_rfl)) rfl rfl rfl (ye yx rfl (yu .here rfl)) ?_
        refine WD.a (i:=3) (d:=42) (by kernel_rfl) rfl (z6 (by kernel_rfl)) (z7 (by kernel_rfl)) rfl rfl rfl (fun _=>q_m rfl) ?_
        refine WD.a (i:=4) (d:=43) (by kernel_rfl) rfl (z6 (by kernel_rfl)) (z7 (by kernel_rfl)) rfl rfl rfl (fun _=>q_m rfl) ?_
        refine WD.znth (j:=5) (dd:=44) (by kernel_rfl) rfl (z6 (by kernel_rfl)) (z7 (by kernel_rfl)) rfl rfl (Z:=Z) (Pr:=(fun r x=>r = e51 x)) y67 rfl rfl zmg zxh ?_
        rintro zBg zBh zxj zBi rfl
        refine WD.a (i:=6) (d:=45) (by kernel_rfl) rfl (z6 (by kernel_rfl)) (z7 (by kernel_rfl)) rfl rfl rfl (fun _=>y4 y54 rfl rfl) ?_
        refine WD.e (i:=7) (d:=46) (by kernel_rfl) rfl (z6 (by kernel_rfl)) (z7 (by kernel_rfl)) rfl rfl rfl (ye yx rfl (y1O hz.pv zxj rfl)) ?_
        refine WD.a (i:=8) (d:=47) (by kernel_rfl) rfl (z6 (by kernel_rfl)) (z7 (by kernel_rfl)) rfl rfl rfl (fun _=>y7y rfl rfl rfl) ?_
        refine WD.a (i:=9) (d:=48) (by kernel_rfl) rfl (z6 (by kernel_rfl)) (z7 (by kernel_rfl)) rfl rfl rfl (fun _=>y1j (v:=(.agg #[(.int .i64 (i64 (((nth (z13.drop (z1n : Int).toNat) z2j).fTime) - ((nth z13 z1n).fTime)))),(.int .i64 1)])) (Eos.parts (l:=[.tmp 47,.const (.int .i64 1)]) (.cons rfl (.cons rfl .nil)) [0,1]) (fun _=>by kernel_rfl)) ?_
        refine WD.c (i:=10) (d:=49) (by kernel_rfl) rfl (z6 (by kernel_rfl)) (z7 (by kernel_rfl)) rfl rfl rfl (zl (l:=[.tmp 39,.tmp 48]) Try.call22 (.cons rfl (.cons rfl .nil))) (fun w hw=>by have pz:=(hz.call hw (.nil : Sel [stb zd4 51 [(.int .i64 ((nth (z13.drop (z1n : Int).toNat) z2j).fTime)),(.int .i64 ((nth (z13.drop (z1n : Int).toNat) z2j).fVL)),(.int .i64 ((nth (z13.drop (z1n : Int).toNat) z2j).fSize))]] [] [stb zd4 51 [(.int .i64 ((nth (z13.drop (z1n : Int).toNat) z2j).fTime)),(.int .i64 ((nth (z13.drop (z1n : Int).toNat) z2j).fVL)),(.int .i64 ((nth (z13.drop (z1n : Int).toNat) z2j).fSize))]])); exact y5K (Z:=_) (z93:=z7O) (z94:=z7P) (z1w:=z3N) (z2d:=(⟨i64 (((nth (z13.drop (z1n : Int).toNat) z2j).fTime) - ((nth z13 z1n).fTime)),1⟩ : z2)) (r:=z5q) w pz zq9 zxi) ?_
        refine WD.a (i:=11) (d:=38) (by kernel_rfl) rfl (z6 (by kernel_rfl)) (z7 (by kernel_rfl)) rfl rfl rfl (fun _=>q_m rfl) ?_
        refine WD.a (i:=12) (d:=50) (by kernel_rfl) rfl (z6 (by kernel_rfl)) (z7 (by kernel_rfl)) rfl rfl rfl (fun _=>yb rfl rfl) ?_
        refine WD.a (i:=13) (d:=51) (by kernel_rfl) rfl (z6 (by kernel_rfl)) (z7 (by kernel_rfl)) rfl rfl rfl (fun _=>yb rfl rfl) ?_
        refine WD.new (i:=14) (dd:=11) rfl (by kernel_rfl) rfl rfl rfl (yh (cs:=[(.int .i64 0),(.int .i64 0)]) yo rfl) (fun h'=>absurd h' (by decide)) ?_
        intro zg5 _
        refine WD.forced0 (i:=15) rfl (by kernel_rfl) rfl rfl rfl (Sin.of .nil) (yd (vs:=[(.int .i64 z5q.1.fN),(.int .i64 z5q.1.fD)]) (ds:=[(.int .i64 z5q.1.fN),(.int .i64 z5q.1.fD)]) yl rfl rfl rfl rfl (y3 rfl (y3 rfl yf)) .here (Nat.le_of_ble_eq_true rfl) rfl) ?_
        refine WD.a (i:=16) (d:=12) (by kernel_rfl) rfl (z6 (by kernel_rfl)) (z7 (by kernel_rfl)) rfl rfl rfl (fun _=>q_z rfl) ?_
        refine WD.done (by kernel_rfl) ?_
        refine WX.a ?_
        refine WC.b ?_
        refine WC.b ?_
        refine WC.a ?_
        refine WL.a (d:=52) rfl rfl rfl (q_m rfl) ?_
        refine WL.a (d:=53) rfl rfl rfl (y2L rfl rfl) ?_
        refine WL.nil ?_
        refine WX.a ?_
        refine WC.cond rfl (fun zml=>?_) (fun zml=>?_)
        ·replace h:=yj h zml
         refine WC.b ?_
         refine WC.a ?_
         refine WL.a (d:=54) rfl rfl rfl (q_m rfl) ?_
         refine WL.a (d:=4) rfl rfl rfl (q_z rfl) ?_
         refine WL.a (d:=5) rfl rfl rfl (q_z rfl) ?_
         refine WL.nil ?_
         refine WX.a ?_
         refine WC.ret ?_
         refine WX.y8 ?_
         refine WX.yt ?_
         refine WX.y8 ?_
         refine WX.y8 ?_
         refine WX.yt ?_
         refine WX.y8 ?_
         refine WX.yt ?_
         refine WX.y8 ?_
         refine WX.y8 ?_
         refine WX.yt ?_
         refine WX.y8 ?_
         obtain rfl:=Option.some.inj h
         refine WX.y9 Try.results12 (.tmp rfl (.tmp rfl .nil)) (fun w hw=>?_)
         exact ⟨y1I rfl rfl,hw.sub .nil⟩
        ·replace h:=yk h zml
         refine WC.skip ?_
         refine WX.a ?_
         obtain ⟨zhW,zqf,h⟩:=zb h
         refine WC.a ?_
         refine WL.a (d:=55) rfl rfl rfl (q_m rfl) ?_
         refine WL.a (d:=56) rfl rfl rfl (q_m rfl) ?_
         refine WL.yF True [(0,(.slice z7O z3N.length z7P)),(1,(.slice z88 z13.length z89)),(6,(.bool z7N)),(7,(.int .i64 z1n)),(8,(.int .i64 (i64 (z7q + ((nth (z13.drop (z1n : Int).toNat) z2j).fSize))))),(22,(.int .i64 ((z13.length : Nat) : Int))),(23,(.int .i64 z1n)),(28,(.slice zqd ((z13.drop (z1n : Int).toNat).length) zqe)),(29,(.int .i64 (((z13.drop (z1n : Int).toNat).length : Nat) : Int))),(30,(.int .i64 z2j)),(62,(.bool zhW))] [stb zg5 30 [(.int .i64 z5q.1.fN),(.int .i64 z5q.1.fD)],stb zd4 51 [(.int .i64 ((nth (z13.drop (z1n : Int).toNat) z2j).fTime)),(.int .i64 ((nth (z13.drop (z1n : Int).toNat) z2j).fVL)),(.int .i64 ((nth (z13.drop (z1n : Int).toNat) z2j).fSize))]] 6 ?_ (fun _=>?_)
         ·rcases Bool.eq_false_or_eq_true z7N with hb' | hb'
          ·have zqg:=hb'; clear hb'
           have zg6:=yj zqf zqg
           obtain ⟨zmb,zxk,zg6⟩:=zb zg6
           replace zg6:=Option.some.inj zg6
           refine WL.pin (i:=56) rfl zqg ?_
           refine WL.a (d:=57) rfl rfl rfl (q_m rfl) ?_
           refine WL.a (d:=58) rfl rfl rfl (y1j (v:=(.agg #[(.int .i64 (i64 (z7q + ((nth (z13.drop (z1n : Int).toNat) z2j).fSize)))),(.int .i64 1)])) (Eos.parts (l:=[.tmp 57,.const (.int .i64 1)]) (.cons rfl (.cons rfl .nil)) [0,1]) (fun _=>by kernel_rfl)) ?_
           refine WL.a (d:=59) rfl rfl rfl (y6 (cs:=[(.int .i64 z5q.1.fN),(.int .i64 z5q.1.fD)]) y5 rfl rfl (y7 .here)) ?_
           refine WL.b (dd:=60) rfl rfl rfl (zl (l:=[.tmp 58,.tmp 59]) Try.call18 (.cons rfl (.cons rfl .nil))) (.nil : Sel [stb zg5 30 [(.int .i64 z5q.1.fN),(.int .i64 z5q.1.fD)],stb zd4 51 [(.int .i64 ((nth (z13.drop (z1n : Int).toNat) z2j).fTime)),(.int .i64 ((nth (z13.drop (z1n : Int).toNat) z2j).fVL)),(.int .i64 ((nth (z13.drop (z1n : Int).toNat) z2j).fSize))]] [] [stb zg5 30 [(.int .i64 z5q.1.fN),(.int .i64 z5q.1.fD)],stb zd4 51 [(.int .i64 ((nth (z13.drop (z1n : Int).toNat) z2j).fTime)),(.int .i64 ((nth (z13.drop (z1n : Int).toNat) z2j).fVL)),(.int .i64 ((nth (z13.drop (z1n : Int).toNat) z2j).fSize))]]) (fun w hw=>by have pz:=(hz.call hw (.nil : Sel [stb zg5 30 [(.int .i64 z5q.1.fN),(.int .i64 z5q.1.fD)],stb zd4 51 [(.int .i64 ((nth (z13.drop (z1n : Int).toNat) z2j).fTime)),(.int .i64 ((nth (z13.drop (z1n : Int).toNat) z2j).fVL)),(.int .i64 ((nth (z13.drop (z1n : Int).toNat) z2j).fSize))]] [] [stb zg5 30 [(.int .i64 z5q.1.fN),(.int .i64 z5q.1.fD)],stb zd4 51 [(.int .i64 ((nth (z13.drop (z1n : Int).toNat) z2j).fTime)),(.int .i64 ((nth (z13.drop (z1n : Int).toNat) z2j).fVL)),(.int .i64 ((nth (z13.drop (z1n : Int).toNat) z2j).fSize))]])); exact y1Y (Z:=_)  (z2m:=(⟨i64 (z7q + ((nth (z13.drop (z1n : Int).toNat) z2j).fSize)),1⟩ : z2)) (z2n:=z5q.1) (r:=zmb) w pz  zxk) ?_
           refine WL.a (d:=61) rfl rfl rfl (y5a rfl rfl) ?_
           refine WL.a (d:=62) rfl rfl rfl (ys rfl rfl) ?_
           exact WL.ya () trivial (.cons rfl (.cons rfl (.cons rfl (.cons rfl (.cons rfl (.cons rfl (.cons rfl (.cons rfl (.cons rfl (.cons rfl (.cons (zt zg6) .nil))))))))))) (.cons .here (.cons .here .nil))
          ·have zqh:=hb'; clear hb'
           have zmm:=yk zqf zqh
           replace zmm:=Option.some.inj zmm
           refine WL.pin (i:=56) rfl zqh ?_
           refine WL.e rfl rfl rfl ?_
           refine WL.e rfl rfl rfl ?_
           refine WL.e rfl rfl rfl ?_
           refine WL.e rfl rfl rfl ?_
           refine WL.e rfl rfl rfl ?_
           refine WL.a (d:=62) rfl rfl rfl (yr rfl rfl) ?_
           exact WL.ya () trivial (.cons rfl (.cons rfl (.cons rfl (.cons rfl (.cons rfl (.cons rfl (.cons rfl (.cons rfl (.cons rfl (.cons rfl (.cons (zt zmm) .nil))))))))))) (.cons .here (.cons .here .nil))
         ·skip
          refine WL.a (d:=6) rfl rfl rfl (q_z rfl) ?_
          refine WL.nil ?_
          refine WX.yn ?_
          refine WX.a ?_
          refine WC.a ?_
          refine WL.a (d:=63) rfl rfl rfl (y1d rfl rfl rfl) ?_
          refine WL.a (d:=30) rfl rfl rfl (q_m rfl) ?_
          refine WL.nil ?_
          exact WX.round (G:=Nat × Bool × Int × Int) ⟨zma,zhW,(i64 (z7q + ((nth (z13.drop (z1n : Int).toNat) z2j).fSize))),(i64 (z2j + 1))⟩ h (Nat.lt_succ_self _) (.cons rfl (.cons rfl (.cons rfl (.cons rfl (.cons rfl (.cons rfl (.cons rfl (.cons rfl (.cons rfl (.cons rfl .nil)))))))))) .nil
       ·replace h:=yk h zmk
        refine WC.exit ?_
        refine WX.ym ?_
        refine WX.ym ?_
        refine WX.yH ?_
        exact WX.mid (G:=Bool) z7N h (.cons rfl (.cons rfl (.cons rfl (.cons rfl (.cons rfl .nil))))) .nil
      ·rintro zaP h
       replace h:=(zxe zaP).symm.trans h
       refine WX.yn ?_
       exact WX.mid (G:=Bool) zaP h (.cons rfl (.cons rfl (.cons rfl (.cons rfl (.cons rfl .nil))))) .nil
     ·rintro zaO h
      replace h:=(zxb zaO).symm.trans h
      refine WC.a ?_
      refine WL.a (d:=64) rfl rfl rfl (y1d rfl rfl rfl) ?_
      refine WL.a (d:=23) rfl rfl rfl (q_m rfl) ?_
      refine WL.nil ?_
      exact WX.round (G:=Nat × Bool × Int) ⟨zmc,zaO,(i64 (z1n + 1))⟩ h (Nat.lt_succ_self _) (.cons rfl (.cons rfl (.cons rfl (.cons rfl (.cons rfl .nil))))) .nil
    ·replace h:=yk h zmj
     refine WC.exit ?_
     refine WX.ym ?_
     refine WX.ym ?_
     refine WX.yH ?_
     exact WX.mid (G:=Bool) z87 h (.cons rfl .nil) .nil
   ·rintro zbG h
    replace h:=(zxa zbG).symm.trans h
    refine WC.b ?_
    refine WC.a ?_
    refine WL.a (d:=65) rfl rfl rfl (q_m rfl) ?_
    refine WL.a (d:=4) rfl rfl rfl (q_z rfl) ?_
    refine WL.a (d:=5) rfl rfl rfl (q_z rfl) ?_
    refine WL.nil ?_
    refine WX.a ?_
    refine WC.ret ?_
    obtain rfl:=Option.some.inj h
    refine WX.y9 Try.results12 (.tmp rfl (.tmp rfl .nil)) (fun w hw=>?_)
    exact ⟨y1I rfl rfl,hw.sub .nil⟩
def y3o (z61 : List Int) (z6Q : List Int) (zaQ : Option Bool) : Nat → Int → Option Bool
 | 0,_=>none
 | zmn + 1,z6y=>if decide (z6y < ((z61.length : Nat) : Int)) then chk ((0 : Int) ≤ z6y ∧ z6y < ((z61.length : Nat) : Int)) (chk ((0 : Int) ≤ z6y ∧ z6y < ((z6Q.length : Nat) : Int)) (if decide ((nth z61 z6y) ≠ (nth z6Q z6y)) then some false else y3o z61 z6Q zaQ zmn (i64 (z6y + 1)))) else zaQ
theorem y72 {n : Nat} {z61 : List Int} {z6Q : List Int} {zaQ : Option Bool} {z6y : Int} {r : Bool} (h : y3o z61 z6Q zaQ n z6y = some r) : ∃ m,n = m + 1:=by
 cases n with
 | zero=>cases h
 | succ m=>exact ⟨m,rfl⟩
def y6f (z61 : List Int) (z6Q : List Int) : Option Bool :=
 if decide (((z61.length : Nat) : Int) ≠ ((z6Q.length : Nat) : Int)) then some false else jp0 (some true) fun zaQ=>y3o z61 z6Q zaQ yw 0
set_option maxRecDepth 20000 in
theorem y95 (Z : Zp)  (zeo : Option Addr) (zep : Nat) (zeq : Option Addr) (zer : Nat) (z61 : List Int) (z6Q : List Int) (r : Bool) (w₀ : World) (hz : PZ [] w₀ Z)
  (zxl : ZS Z 1 (fun r x=>r = e3 x) zeo zep z61)
  (zxm : ZS Z 1 (fun r x=>r = e3 x) zeq zer z6Q)
  (h : y6f z61 z6Q = some r) :
  Calls Try.prog 38 #[(.slice zeo z61.length zep),(.slice zeq z6Q.length zer)] w₀ fun e w'=>e = .returned (.bool r) ∧ Hp [] w₀ w' []:=by
 unfold y6f at h
 refine Calls.yg (vs:=[(.slice zeo z61.length zep),(.slice zeq z6Q.length zer)]) (pre:=[]) (env:=[(0,(.slice zeo z61.length zep)),(1,(.slice zeq z6Q.length zer))]) Try.func38 rfl Try.ntmps38 rfl (Hp.nil w₀ _) rfl ?_
 refine WC.b ?_
 refine WC.a ?_
 refine WL.a (d:=4) rfl rfl rfl (q_z rfl) ?_
 refine WL.nil ?_
 refine WX.a ?_
 refine WC.b ?_
 refine WC.b ?_
 refine WC.a ?_
 refine WL.a (d:=6) rfl rfl rfl (q_m rfl) ?_
 refine WL.a (d:=7) rfl rfl rfl (y1k Try.underlying45 rfl) ?_
 refine WL.a (d:=8) rfl rfl rfl (q_m rfl) ?_
 refine WL.a (d:=9) rfl rfl rfl (y1k Try.underlying45 rfl) ?_
 refine WL.a (d:=10) rfl rfl rfl (y2L rfl rfl) ?_
 refine WL.nil ?_
 refine WX.a ?_
 refine WC.cond rfl (fun zmo=>?_) (fun zmo=>?_)
 ·replace h:=yj h zmo
  refine WC.b ?_
  refine WC.a ?_
  refine WL.a (d:=4) rfl rfl rfl (q_z rfl) ?_
  refine WL.nil ?_
  refine WX.a ?_
  refine WC.ret ?_
  refine WX.y8 ?_
  obtain rfl:=Option.some.inj h
  refine WX.y9 Try.results38 (.tmp rfl .nil) (fun w hw=>?_)
  exact ⟨yI rfl,hw.sub .nil⟩
 ·replace h:=yk h zmo
  refine WC.skip ?_
  refine WX.a ?_
  obtain ⟨zaQ,zxn,h⟩:=y4C h
  refine WC.y4S ((zaQ = some r)) ([]) ([]) ?_ ?_
  ·skip
   refine WC.b ?_
   refine WC.a ?_
   refine WL.a (d:=11) rfl rfl rfl (q_m rfl) ?_
   refine WL.a (d:=12) rfl rfl rfl (y1k Try.underlying45 rfl) ?_
   refine WL.a (d:=13) rfl rfl rfl (q_m rfl) ?_
   refine WL.nil ?_
   refine WX.a ?_
   refine WC.block ?_
   refine WC.y63 (fun (zes : Nat) (z6y : Int)=>(y3o z61 z6Q zaQ zes z6y = some r)) (fun (zes : Nat) (z6y : Int)=>[(0,(.slice zeo z61.length zep)),(1,(.slice zeq z6Q.length zer)),(12,(.int .i64 ((z61.length : Nat) : Int))),(13,(.int .i64 z6y))]) (fun (zes : Nat) (z6y : Int)=>[]) (fun (zes : Nat) (z6y : Int)=>zes) ⟨yw,0⟩ h (.cons rfl (.cons rfl (.cons rfl (.cons rfl .nil)))) .nil ?_
   rintro zes z6y h
   obtain ⟨zmn,rfl⟩:=y72 h
   rw [y3o] at h
   refine WC.b ?_
   refine WC.a ?_
   refine WL.a (d:=14) rfl rfl rfl (y1h rfl rfl) ?_
   refine WL.nil ?_
   refine WX.a ?_
   refine WC.b ?_
   refine WC.cond rfl (fun zmp=>?_) (fun zmp=>?_)
   ·replace h:=yj h zmp
    refine WC.skip ?_
    refine WX.a ?_
    refine WC.b ?_
    refine WC.block ?_
    refine WC.b ?_
    refine WC.a ?_
    refine WL.a (d:=15) rfl rfl rfl (q_m rfl) ?_
    refine WL.a (d:=5) rfl rfl rfl (q_z rfl) ?_
    refine WL.nil ?_
    refine WX.a ?_
    refine WC.b ?_
    obtain ⟨zxo,h⟩:=yp h
    obtain ⟨zxp,h⟩:=yp h
    refine WC.y1e (fun i=>[].contains i) [] rfl ?_
    refine WD.a (i:=0) (d:=16) (by kernel_rfl) rfl (z6 (by kernel_rfl)) (z7 (by kernel_rfl)) rfl rfl rfl (fun _=>q_m rfl) ?_
    refine WD.a (i:=1) (d:=17) (by kernel_rfl) rfl (z6 (by kernel_rfl)) (z7 (by kernel_rfl)) rfl rfl rfl (fun _=>q_m rfl) ?_
    refine WD.znth (j:=2) (dd:=18) (by kernel_rfl) rfl (z6 (by kernel_rfl)) (z7 (by kernel_rfl)) rfl rfl (Z:=Z) (Pr:=(fun r x=>r = e3 x)) y7m rfl rfl zxl zxo ?_
    rintro zBj zBk zxq zBl rfl
    refine WD.e (i:=3) (d:=19) (by kernel_rfl) rfl (z6 (by kernel_rfl)) (z7 (by kernel_rfl)) rfl rfl rfl (ye yx rfl (y3Z hz.pv zxq rfl)) ?_
    refine WD.a (i:=4) (d:=20) (by kernel_rfl) rfl (z6 (by kernel_rfl)) (z7 (by kernel_rfl)) rfl rfl rfl (fun _=>q_m rfl) ?_
    refine WD.a (i:=5) (d:=21) (by kernel_rfl) rfl (z6 (by kernel_rfl)) (z7 (by kernel_rfl)) rfl rfl rfl (fun _=>q_m rfl) ?_
    refine WD.znth (j:=6) (dd:=22) (by kernel_rfl) rfl (z6 (by kernel_rfl)) (z7 (by kernel_rfl)) rfl rfl (Z:=Z) (Pr:=(fun r x=>r = e3 x)) y7m rfl rfl zxm zxp ?_
    rintro zBm zBn zxr zBo rfl
    refine WD.e (i:=7) (d:=23) (by kernel_rfl) rfl (z6 (by kernel_rfl)) (z7 (by kernel_rfl)) rfl rfl rfl (ye yx rfl (y3Z hz.pv zxr rfl)) ?_
    refine WD.a (i:=8) (d:=24) (by kernel_rfl) rfl (z6 (by kernel_rfl)) (z7 (by kernel_rfl)) rfl rfl rfl (fun _=>y2L rfl rfl) ?_
    refine WD.done (by kernel_rfl) ?_
    refine WX.a ?_
    refine WC.cond rfl (fun zmq=>?_) (fun zmq=>?_)
    ·replace h:=yj h zmq
     refine WC.b ?_
     refine WC.a ?_
     refine WL.a (d:=4) rfl rfl rfl (q_z rfl) ?_
     refine WL.nil ?_
     refine WX.a ?_
     refine WC.ret ?_
     refine WX.yt ?_
     refine WX.y8 ?_
     refine WX.y8 ?_
     refine WX.yt ?_
     refine WX.y8 ?_
     obtain rfl:=Option.some.inj h
     refine WX.y9 Try.results38 (.tmp rfl .nil) (fun w hw=>?_)
     exact ⟨yI rfl,hw.sub .nil⟩
    ·replace h:=yk h zmq
     refine WC.skip ?_
     refine WX.yn ?_
     refine WX.a ?_
     refine WC.a ?_
     refine WL.a (d:=25) rfl rfl rfl (y1d rfl rfl rfl) ?_
     refine WL.a (d:=13) rfl rfl rfl (q_m rfl) ?_
     refine WL.nil ?_
     exact WX.round (G:=Nat × Int) ⟨zmn,(i64 (z6y + 1))⟩ h (Nat.lt_succ_self _) (.cons rfl (.cons rfl (.cons rfl (.cons rfl .nil)))) .nil
   ·replace h:=yk h zmp
    refine WC.exit ?_
    refine WX.ym ?_
    refine WX.ym ?_
    refine WX.yH ?_
    exact WX.mid (G:=Unit) () h .nil .nil
  ·rintro  h
   replace h:=zxn.symm.trans h
   refine WC.b ?_
   refine WC.a ?_
   refine WL.a (d:=4) rfl rfl rfl (q_z rfl) ?_
   refine WL.nil ?_
   refine WX.a ?_
   refine WC.ret ?_
   obtain rfl:=Option.some.inj h
   refine WX.y9 Try.results38 (.tmp rfl .nil) (fun w hw=>?_)
   exact ⟨yI rfl,hw.sub .nil⟩
end Go.Proofs.Ytakfmdiiehcbdaa
