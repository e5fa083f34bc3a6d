/- A part of this claim's proof: models of functions, walks, plain laws. No conditions. -/
import Derived.Test.YtakfmdiiehcbdaaW03d
namespace Go.Proofs.Ytakfmdiiehcbdaa
open Go Go.RowKit Sep
set_option linter.all false
set_option maxRecDepth 30000
set_option maxHeartbeats 4000000
def yF (z6X : List (List z6)) (z6a : zSv) (z3v : z7) (z2l : List z7) (z9g : Int) : Option (Bool × (Nat × List z7 × Int)) :=
 (y1T (⟨z9g⟩ : z2h) z3v z6X z6a).bind fun z3A=>(if decide (((z2l.length : Nat) : Int) = 0) then some true else chk ((0 : Int) ≤ 0 ∧ 0 < ((z2l.length : Nat) : Int)) ((yV z3A.1 (⟨((nth z2l 0).fN),((nth z2l 0).fD)⟩ : z7)).bind fun zmO=>some (decide (zmO > 0)))).bind fun zmP=>if zmP then some (true,(0,([z3A.1] : List z7),z3A.2.fE)) else some (true,(0,z2l,z3A.2.fE))
def y2S (z1C : List (List z6)) (zo : zSv) (z6X : List (List z6)) (z6a : zSv) (z1D : List z7) : Option (z7 × Int) :=
 (y29 z1C zo z6X z6a z1D).bind fun zeF=>if decide (zeF ≠ 0) then some ((⟨0,0⟩ : z7),zeF) else jp2 (fun (z9L : Int) (z6C : List z7)=>if decide (z9L ≠ 0) then some ((⟨0,0⟩ : z7),z9L) else chk ((0 : Int) ≤ 0 ∧ 0 < ((z6C.length : Nat) : Int)) (some ((⟨((nth z6C 0).fN),((nth z6C 0).fD)⟩ : z7),0))) fun zmQ=>(y2t z1C zo z6X z6a z1D).bind fun z1f=>(y1O (Nat × List z7 × Int) (fun (x : z7) (s : Nat × List z7 × Int)=>chk (s.1 = 0) (yF z6X z6a x s.2.1 s.2.2)) (0,([] : List z7),0) z1C (⟨(⟨z1f.1,z1f.2.1⟩ : z7),(⟨z1f.2.2.1,z1f.2.2.2⟩ : z7)⟩ : zSv) z6X z6a z1D).bind fun z6b=>zmQ z6b.2.2 z6b.2.1
set_option maxRecDepth 20000 in
theorem y6w (Z : Zp)  (z1W : Option Addr) (z1X : Nat) (z1L : Addr) (zdg : Option Addr) (zdh : Nat) (z1M : Addr) (z1Y : Option Addr) (z1Z : Nat) (z1C : List (List z6)) (zo : zSv) (z6X : List (List z6)) (z6a : zSv) (z1D : List z7) (r : z7 × Int) (w₀ : World) (hz : PZ [] w₀ Z)
  (zmR : ZS Z 1 (p39 Z) z1W z1X z1C)
  (ziv : ZS Z 1 (p39 Z) zdg zdh z6X)
  (ziw : ZC Z z1L [(.slice zdg z6X.length zdh)])
  (zix : ZC Z z1M [(.int .i64 z6a.fR.fN),(.int .i64 z6a.fR.fD),(.int .i64 z6a.fLatency.fN),(.int .i64 z6a.fLatency.fD)])
  (zmS : ZS Z 2 (fun r x=>r = e30 x) z1Y z1Z z1D)
  (h : y2S z1C zo z6X z6a z1D = some r) :
  Calls Try.prog 36 #[(.agg #[(.slice z1W z1C.length z1X),(.int .i64 zo.fR.fN),(.int .i64 zo.fR.fD),(.int .i64 zo.fLatency.fN),(.int .i64 zo.fLatency.fD),(.func (.func 37) #[] #[(.pointer (some z1L)),(.pointer (some z1M))]),(.slice z1Y z1D.length z1Z)])] w₀ fun e w'=>∃ Zn : Zp,e = .returned (.tuple #[(.agg #[(.int .i64 r.1.fN),(.int .i64 r.1.fD)]),(.int .i64 r.2)]) ∧ True ∧ Hp [] w₀ w' [fz Zn]:=by
 unfold y2S at h
 refine Calls.y6u (vs:=[(.agg #[(.slice z1W z1C.length z1X),(.int .i64 zo.fR.fN),(.int .i64 zo.fR.fD),(.int .i64 zo.fLatency.fN),(.int .i64 zo.fLatency.fD),(.func (.func 37) #[] #[(.pointer (some z1L)),(.pointer (some z1M))]),(.slice z1Y z1D.length z1Z)])]) (pre:=[]) (env:=[(0,(.agg #[(.slice z1W z1C.length z1X),(.int .i64 zo.fR.fN),(.int .i64 zo.fR.fD),(.int .i64 zo.fLatency.fN),(.int .i64 zo.fLatency.fD),(.func (.func 37) #[] #[(.pointer (some z1L)),(.pointer (some z1M))]),(.slice z1Y z1D.length z1Z)]))]) Try.func36 rfl Try.ntmps36 rfl (Hp.nil w₀ _) rfl ?_
 refine WC.pool ?_
 refine WC.b ?_
 refine WC.a ?_
 refine WL.new (dd:=1) rfl rfl rfl (yI (cs:=[(.slice z1W z1C.length z1X),(.int .i64 zo.fR.fN),(.int .i64 zo.fR.fD),(.int .i64 zo.fLatency.fN),(.int .i64 zo.fLatency.fD),(.func (.func 37) #[] #[(.pointer (some z1L)),(.pointer (some z1M))]),(.slice z1Y z1D.length z1Z)]) rfl rfl) ?_
 intro z35 _
 refine WL.new (dd:=2) rfl rfl rfl (ym (cs:=[(.int .i64 0),(.int .i64 0)]) yt rfl) ?_
 intro z3a _
 refine WL.a (d:=3) rfl rfl rfl (q_z rfl) ?_
 refine WL.nil ?_
 refine WX.a ?_
 refine WC.b ?_
 refine WC.b ?_
 obtain ⟨zeF,zxW,h⟩:=ze h
 refine WC.a ?_
 refine WL.a (d:=9) rfl rfl rfl (y4 (cs:=[(.slice z1W z1C.length z1X),(.int .i64 zo.fR.fN),(.int .i64 zo.fR.fD),(.int .i64 zo.fLatency.fN),(.int .i64 zo.fLatency.fD),(.func (.func 37) #[] #[(.pointer (some z1L)),(.pointer (some z1M))]),(.slice z1Y z1D.length z1Z)]) y5R rfl rfl (y8 .h1)) ?_
 refine WL.y2D (dd:=10) rfl rfl rfl (zj (l:=[.tmp 9]) Try.call52 (.cons rfl .nil)) (.nil : Sel [stb z3a 30 [(.int .i64 0),(.int .i64 0)],stb z35 79 [(.slice z1W z1C.length z1X),(.int .i64 zo.fR.fN),(.int .i64 zo.fR.fD),(.int .i64 zo.fLatency.fN),(.int .i64 zo.fLatency.fD),(.func (.func 37) #[] #[(.pointer (some z1L)),(.pointer (some z1M))]),(.slice z1Y z1D.length z1Z)],fz []] [] [stb z3a 30 [(.int .i64 0),(.int .i64 0)],stb z35 79 [(.slice z1W z1C.length z1X),(.int .i64 zo.fR.fN),(.int .i64 zo.fR.fD),(.int .i64 zo.fLatency.fN),(.int .i64 zo.fLatency.fD),(.func (.func 37) #[] #[(.pointer (some z1L)),(.pointer (some z1M))]),(.slice z1Y z1D.length z1Z)],fz []]) (fun w hw=>by have pz:=(hz.call2 hw (.nil : Sel [stb z3a 30 [(.int .i64 0),(.int .i64 0)],stb z35 79 [(.slice z1W z1C.length z1X),(.int .i64 zo.fR.fN),(.int .i64 zo.fR.fD),(.int .i64 zo.fLatency.fN),(.int .i64 zo.fLatency.fD),(.func (.func 37) #[] #[(.pointer (some z1L)),(.pointer (some z1M))]),(.slice z1Y z1D.length z1Z)],fz []] [] [stb z3a 30 [(.int .i64 0),(.int .i64 0)],stb z35 79 [(.slice z1W z1C.length z1X),(.int .i64 zo.fR.fN),(.int .i64 zo.fR.fD),(.int .i64 zo.fLatency.fN),(.int .i64 zo.fLatency.fD),(.func (.func 37) #[] #[(.pointer (some z1L)),(.pointer (some z1M))]),(.slice z1Y z1D.length z1Z)],fz []]) .h2); exact y6a (Z:=_) (z2w:=z1W) (z2x:=z1X) (z2I:=z1L) (zmk:=zdg) (zml:=zdh) (z2J:=z1M) (z2K:=z1Y) (z2L:=z1Z) (z1V:=z1C) (zm:=zo) (zgi:=z6X) (zd2:=z6a) (z2v:=z1D) (r:=zeF) w pz ((zmR.mono (Zle.left _ _)).weak (fun _ _ h=>yL (Zle.left _ _) h)) ((ziv.mono (Zle.left _ _)).weak (fun _ _ h=>yL (Zle.left _ _) h)) (ziw.mono (Zle.left _ _)) (zix.mono (Zle.left _ _)) (zmS.mono (Zle.left _ _)) zxW) ?_
 rintro z6c _
 refine WL.merge .here .h2 ?_
 refine WL.a (d:=4) rfl rfl rfl (q_z rfl) ?_
 refine WL.nil ?_
 refine WX.a ?_
 refine WC.b ?_
 refine WC.a ?_
 refine WL.a (d:=11) rfl rfl rfl (q_m rfl) ?_
 refine WL.a (d:=12) rfl rfl rfl (y2G rfl rfl) ?_
 refine WL.nil ?_
 refine WX.a ?_
 refine WC.cond rfl (fun zmT=>?_) (fun zmT=>?_)
 ·replace h:=yh h zmT
  refine WC.b ?_
  refine WC.a ?_
  refine WL.a (d:=13) rfl rfl rfl (y1g (v:=(.agg #[(.int .i64 0),(.int .i64 0)])) (Eos.parts (l:=[]) .nil []) (fun _=>by kernel_rfl)) ?_
  refine WL.a (d:=14) rfl rfl rfl (q_m rfl) ?_
  refine WL.yb rfl rfl (yc (vs:=[(.int .i64 0),(.int .i64 0)]) (ds:=[(.int .i64 0),(.int .i64 0)]) yo rfl rfl rfl rfl (y2 rfl (y2 rfl yk)) .h1 (Nat.le_of_ble_eq_true rfl) rfl) ?_
  refine WL.a (d:=3) rfl rfl rfl (q_z rfl) ?_
  refine WL.nil ?_
  refine WX.a ?_
  refine WC.ret ?_
  refine WX.y6 ?_
  obtain rfl:=Option.some.inj h
  refine WX.y7g Try.results36 (.agg rfl y5 rfl (y8 .here) (.tmp rfl .nil)) (fun w hw=>?_)
  exact ⟨([] ++ z6c),y1M rfl rfl,trivial,hw.sub (.cons .h1 .nil)⟩
 ·replace h:=yi h zmT
  refine WC.skip ?_
  refine WX.a ?_
  refine WC.b ?_
  refine WC.a ?_
  refine WL.new (dd:=5) rfl rfl rfl (ym (cs:=[(.int .i64 0)]) y6W rfl) ?_
  intro z3b _
  refine WL.nil ?_
  refine WX.a ?_
  refine WC.b ?_
  refine WC.a ?_
  refine WL.new (dd:=6) rfl rfl rfl (ym (cs:=[(.slice none 0 0)]) y7S rfl) ?_
  intro z3k _
  refine WL.nil ?_
  refine WX.a ?_
  obtain ⟨zmQ,zxX,h⟩:=y4b h
  refine WC.y6v (fun (zgw : Nat) (z9L : Int) (z6C : List z7) (zdi : Zp) (zgx : Option Addr) (zgy : Nat)=>(zmQ z9L z6C = some r) ∧ (Zle (Z ++ ([] ++ z6c)) (Z ++ zdi))) (fun (zgw : Nat) (z9L : Int) (z6C : List z7) (zdi : Zp) (zgx : Option Addr) (zgy : Nat)=>[(2,(.pointer (some ⟨z3a,0,none⟩))),(5,(.pointer (some ⟨z3b,0,none⟩))),(6,(.pointer (some ⟨z3k,0,none⟩)))]) (fun (zgw : Nat) (z9L : Int) (z6C : List z7) (zdi : Zp) (zgx : Option Addr) (zgy : Nat)=>[fz zdi,stb z3a 30 [(.int .i64 0),(.int .i64 0)],stb z3b 98 [(.int .i64 z9L)],stb z3k 77 [(.slice zgx z6C.length zgy)],row (.slice zgx z6C.length zgy) 30 2 (z6C.flatMap e30),dfr zgw]) ?_ ?_
  ·skip
   refine WC.b ?_
   obtain ⟨z1f,zxY,h⟩:=ze h
   refine WC.a ?_
   refine WL.a (d:=15) rfl rfl rfl (y4 (cs:=[(.slice z1W z1C.length z1X),(.int .i64 zo.fR.fN),(.int .i64 zo.fR.fD),(.int .i64 zo.fLatency.fN),(.int .i64 zo.fLatency.fD),(.func (.func 37) #[] #[(.pointer (some z1L)),(.pointer (some z1M))]),(.slice z1Y z1D.length z1Z)]) y5R rfl rfl (y8 .h4)) ?_
   refine WL.y2D (dd:=16) rfl rfl rfl (zj (l:=[.tmp 15]) Try.call53 (.cons rfl .nil)) (.nil : Sel [stb z3k 77 [(.slice none 0 0)],stb z3b 98 [(.int .i64 0)],fz ([] ++ z6c),stb z3a 30 [(.int .i64 0),(.int .i64 0)],stb z35 79 [(.slice z1W z1C.length z1X),(.int .i64 zo.fR.fN),(.int .i64 zo.fR.fD),(.int .i64 zo.fLatency.fN),(.int .i64 zo.fLatency.fD),(.func (.func 37) #[] #[(.pointer (some z1L)),(.pointer (some z1M))]),(.slice z1Y z1D.length z1Z)]] [] [stb z3k 77 [(.slice none 0 0)],stb z3b 98 [(.int .i64 0)],fz ([] ++ z6c),stb z3a 30 [(.int .i64 0),(.int .i64 0)],stb z35 79 [(.slice z1W z1C.length z1X),(.int .i64 zo.fR.fN),(.int .i64 zo.fR.fD),(.int .i64 zo.fLatency.fN),(.int .i64 zo.fLatency.fD),(.func (.func 37) #[] #[(.pointer (some z1L)),(.pointer (some z1M))]),(.slice z1Y z1D.length z1Z)]]) (fun w hw=>by have pz:=(hz.call2 hw (.nil : Sel [stb z3k 77 [(.slice none 0 0)],stb z3b 98 [(.int .i64 0)],fz ([] ++ z6c),stb z3a 30 [(.int .i64 0),(.int .i64 0)],stb z35 79 [(.slice z1W z1C.length z1X),(.int .i64 zo.fR.fN),(.int .i64 zo.fR.fD),(.int .i64 zo.fLatency.fN),(.int .i64 zo.fLatency.fD),(.func (.func 37) #[] #[(.pointer (some z1L)),(.pointer (some z1M))]),(.slice z1Y z1D.length z1Z)]] [] [stb z3k 77 [(.slice none 0 0)],stb z3b 98 [(.int .i64 0)],fz ([] ++ z6c),stb z3a 30 [(.int .i64 0),(.int .i64 0)],stb z35 79 [(.slice z1W z1C.length z1X),(.int .i64 zo.fR.fN),(.int .i64 zo.fR.fD),(.int .i64 zo.fLatency.fN),(.int .i64 zo.fLatency.fD),(.func (.func 37) #[] #[(.pointer (some z1L)),(.pointer (some z1M))]),(.slice z1Y z1D.length z1Z)]]) .h2); exact y5K (Z:=_) (zd4:=z1W) (zd5:=z1X) (zd6:=z1L) (zmt:=zdg) (zmu:=zdh) (zd7:=z1M) (zd8:=z1Y) (zd9:=z1Z) (zaN:=z1C) (z5c:=zo) (zgm:=z6X) (zd3:=z6a) (zaO:=z1D) (r:=z1f) w pz ((zmR.mono ((Zle.left _ _).trans ((Zle.left _ _).trans (Zle.yp _ _ _)))).weak (fun _ _ h=>yL ((Zle.left _ _).trans ((Zle.left _ _).trans (Zle.yp _ _ _))) h)) ((ziv.mono ((Zle.left _ _).trans ((Zle.left _ _).trans (Zle.yp _ _ _)))).weak (fun _ _ h=>yL ((Zle.left _ _).trans ((Zle.left _ _).trans (Zle.yp _ _ _))) h)) (ziw.mono ((Zle.left _ _).trans ((Zle.left _ _).trans (Zle.yp _ _ _)))) (zix.mono ((Zle.left _ _).trans ((Zle.left _ _).trans (Zle.yp _ _ _)))) (zmS.mono ((Zle.left _ _).trans ((Zle.left _ _).trans (Zle.yp _ _ _)))) zxY) ?_
   rintro z6D _
   refine WL.nil ?_
   refine WX.a ?_
   refine WC.block ?_
   refine WC.pool ?_
   refine WC.drop (.cons .here (.cons .h1 (.cons .h1 (.cons .h2 (.cons .h2 (.cons .here (.cons .here .nil))))))) ?_
   refine WC.nilRow 30 2 ?_
   refine WC.rangeFunc (f:=69) (caps:=[(.pointer (some ⟨z6D,0,none⟩))]) rfl Try.call69 ?_
   intro zCk zCl z4i z7T z4I ziy zxZ zy0 w hw
   have hw1:=hw.selAll ((.cons .h3 (.cons .h3 (.cons .h2 (.cons .h2 (.cons .h2 (.cons .h2 (.cons .here .nil))))))) : Sel _ [fz [],stb z3k 77 [(.slice none (([] : List z7).length) 0)],row (.slice none (([] : List z7).length) 0) 30 2 (([] : List z7).flatMap e30),stb z3b 98 [(.int .i64 0)],stb z3a 30 [(.int .i64 0),(.int .i64 0)],stb z35 79 [(.slice z1W z1C.length z1X),(.int .i64 zo.fR.fN),(.int .i64 zo.fR.fD),(.int .i64 zo.fLatency.fN),(.int .i64 zo.fLatency.fD),(.func (.func 37) #[] #[(.pointer (some z1L)),(.pointer (some z1M))]),(.slice z1Y z1D.length z1Z)],blk z4i (z4I .ready none)] _)
   have pz:=(hz.call2 hw1 ((.cons .here .nil) : Sel [y1A [fz [],stb z3k 77 [(.slice none (([] : List z7).length) 0)],row (.slice none (([] : List z7).length) 0) 30 2 (([] : List z7).flatMap e30),stb z3b 98 [(.int .i64 0)],stb z3a 30 [(.int .i64 0),(.int .i64 0)],stb z35 79 [(.slice z1W z1C.length z1X),(.int .i64 zo.fR.fN),(.int .i64 zo.fR.fD),(.int .i64 zo.fLatency.fN),(.int .i64 zo.fLatency.fD),(.func (.func 37) #[] #[(.pointer (some z1L)),(.pointer (some z1M))]),(.slice z1Y z1D.length z1Z)],blk z4i (z4I .ready none)],dfr z7T,stb z6D 79 [(.slice z1W z1C.length z1X),(.int .i64 z1f.1),(.int .i64 z1f.2.1),(.int .i64 z1f.2.2.1),(.int .i64 z1f.2.2.2),(.func (.func 37) #[] #[(.pointer (some z1L)),(.pointer (some z1M))]),(.slice z1Y z1D.length z1Z)],fz ([] ++ z6c)] [y1A [fz [],stb z3k 77 [(.slice none (([] : List z7).length) 0)],row (.slice none (([] : List z7).length) 0) 30 2 (([] : List z7).flatMap e30),stb z3b 98 [(.int .i64 0)],stb z3a 30 [(.int .i64 0),(.int .i64 0)],stb z35 79 [(.slice z1W z1C.length z1X),(.int .i64 zo.fR.fN),(.int .i64 zo.fR.fD),(.int .i64 zo.fLatency.fN),(.int .i64 zo.fLatency.fD),(.func (.func 37) #[] #[(.pointer (some z1L)),(.pointer (some z1M))]),(.slice z1Y z1D.length z1Z)],blk z4i (z4I .ready none)]] [dfr z7T,stb z6D 79 [(.slice z1W z1C.length z1X),(.int .i64 z1f.1),(.int .i64 z1f.2.1),(.int .i64 z1f.2.2.1),(.int .i64 z1f.2.2.2),(.func (.func 37) #[] #[(.pointer (some z1L)),(.pointer (some z1M))]),(.slice z1Y z1D.length z1Z)],fz ([] ++ z6c)]) .h2).lend hw1 ((.cons .here .nil) : Sel [y1A [fz [],stb z3k 77 [(.slice none (([] : List z7).length) 0)],row (.slice none (([] : List z7).length) 0) 30 2 (([] : List z7).flatMap e30),stb z3b 98 [(.int .i64 0)],stb z3a 30 [(.int .i64 0),(.int .i64 0)],stb z35 79 [(.slice z1W z1C.length z1X),(.int .i64 zo.fR.fN),(.int .i64 zo.fR.fD),(.int .i64 zo.fLatency.fN),(.int .i64 zo.fLatency.fD),(.func (.func 37) #[] #[(.pointer (some z1L)),(.pointer (some z1M))]),(.slice z1Y z1D.length z1Z)],blk z4i (z4I .ready none)],dfr z7T,stb z6D 79 [(.slice z1W z1C.length z1X),(.int .i64 z1f.1),(.int .i64 z1f.2.1),(.int .i64 z1f.2.2.1),(.int .i64 z1f.2.2.2),(.func (.func 37) #[] #[(.pointer (some z1L)),(.pointer (some z1M))]),(.slice z1Y z1D.length z1Z)],fz ([] ++ z6c)] [y1A [fz [],stb z3k 77 [(.slice none (([] : List z7).length) 0)],row (.slice none (([] : List z7).length) 0) 30 2 (([] : List z7).flatMap e30),stb z3b 98 [(.int .i64 0)],stb z3a 30 [(.int .i64 0),(.int .i64 0)],stb z35 79 [(.slice z1W z1C.length z1X),(.int .i64 zo.fR.fN),(.int .i64 zo.fR.fD),(.int .i64 zo.fLatency.fN),(.int .i64 zo.fLatency.fD),(.func (.func 37) #[] #[(.pointer (some z1L)),(.pointer (some z1M))]),(.slice z1Y z1D.length z1Z)],blk z4i (z4I .ready none)]] [dfr z7T,stb z6D 79 [(.slice z1W z1C.length z1X),(.int .i64 z1f.1),(.int .i64 z1f.2.1),(.int .i64 z1f.2.2.1),(.int .i64 z1f.2.2.2),(.func (.func 37) #[] #[(.pointer (some z1L)),(.pointer (some z1M))]),(.slice z1Y z1D.length z1Z)],fz ([] ++ z6c)]) (B:=[stb z6D 79 [(.slice z1W z1C.length z1X),(.int .i64 z1f.1),(.int .i64 z1f.2.1),(.int .i64 z1f.2.2.1),(.int .i64 z1f.2.2.2),(.func (.func 37) #[] #[(.pointer (some z1L)),(.pointer (some z1M))]),(.slice z1Y z1D.length z1Z)]]) (fun _ hx'=>((.cons .h1 .nil) : Sel _ [stb z6D 79 [(.slice z1W z1C.length z1X),(.int .i64 z1f.1),(.int .i64 z1f.2.1),(.int .i64 z1f.2.2.1),(.int .i64 z1f.2.2.2),(.func (.func 37) #[] #[(.pointer (some z1L)),(.pointer (some z1M))]),(.slice z1Y z1D.length z1Z)]] _).mem hx')
   obtain ⟨z6b,zy1,h⟩:=ze h
   refine Calls.mono (y5o (Z:=_) (z8c:=z4i) (z2y:=(Option Addr × Nat)) (z1x:=(fun (g : Option Addr × Nat) (s : Nat × List z7 × Int)=>y1A ([fz [],stb z3k 77 [(.slice g.1 s.2.1.length g.2)],row (.slice g.1 s.2.1.length g.2) 30 2 (s.2.1.flatMap e30),stb z3b 98 [(.int .i64 s.2.2)],stb z3a 30 [(.int .i64 0),(.int .i64 0)],stb z35 79 [(.slice z1W z1C.length z1X),(.int .i64 zo.fR.fN),(.int .i64 zo.fR.fD),(.int .i64 zo.fLatency.fN),(.int .i64 zo.fLatency.fD),(.func (.func 37) #[] #[(.pointer (some z1L)),(.pointer (some z1M))]),(.slice z1Y z1D.length z1Z)]] ++ [blk z4i (z4I (rdy (pcs [] s.1)) (pcs [] s.1))]))) (z8d:=(fun (g : Option Addr × Nat) (s : Nat × List z7 × Int)=>True)) (z7S:=(none,0)) (z9f:=⟨z6D,0,none⟩) (zbW:=z1W) (zbX:=z1X) (zmz:=z1L) (zmA:=zdg) (zmB:=zdh) (zmC:=z1M) (zgq:=z1Y) (zgr:=z1Z) (zy:=(Nat × List z7 × Int)) (z4g:=(fun (x : z7) (s : Nat × List z7 × Int)=>chk (s.1 = 0) (yF z6X z6a x s.2.1 s.2.2))) (s0_30244:=(0,([] : List z7),0)) (z4G:=z1C) (zda:=(⟨(⟨z1f.1,z1f.2.1⟩ : z7),(⟨z1f.2.2.1,z1f.2.2.2⟩ : z7)⟩ : zSv)) (zgp:=z6X) (zdb:=z6a) (z1m:=z1D) (r:=z6b) w pz ?_ trivial ((((zmR.mono ((Zle.left _ _).trans ((Zle.left _ _).trans (Zle.yp _ _ _)))).weak (fun _ _ h=>yL ((Zle.left _ _).trans ((Zle.left _ _).trans (Zle.yp _ _ _))) h)).mono (Zle.left _ _)).weak (fun _ _ h=>yL (Zle.left _ _) h)) ((((ziv.mono ((Zle.left _ _).trans ((Zle.left _ _).trans (Zle.yp _ _ _)))).weak (fun _ _ h=>yL ((Zle.left _ _).trans ((Zle.left _ _).trans (Zle.yp _ _ _))) h)).mono (Zle.left _ _)).weak (fun _ _ h=>yL (Zle.left _ _) h)) ((ziw.mono ((Zle.left _ _).trans ((Zle.left _ _).trans (Zle.yp _ _ _)))).mono (Zle.left _ _)) ((zix.mono ((Zle.left _ _).trans ((Zle.left _ _).trans (Zle.yp _ _ _)))).mono (Zle.left _ _)) ((zmS.mono ((Zle.left _ _).trans ((Zle.left _ _).trans (Zle.yp _ _ _)))).mono (Zle.left _ _)) ((hw1.lent ((.cons .here .nil) : Sel [y1A [fz [],stb z3k 77 [(.slice none (([] : List z7).length) 0)],row (.slice none (([] : List z7).length) 0) 30 2 (([] : List z7).flatMap e30),stb z3b 98 [(.int .i64 0)],stb z3a 30 [(.int .i64 0),(.int .i64 0)],stb z35 79 [(.slice z1W z1C.length z1X),(.int .i64 zo.fR.fN),(.int .i64 zo.fR.fD),(.int .i64 zo.fLatency.fN),(.int .i64 zo.fLatency.fD),(.func (.func 37) #[] #[(.pointer (some z1L)),(.pointer (some z1M))]),(.slice z1Y z1D.length z1Z)],blk z4i (z4I .ready none)],dfr z7T,stb z6D 79 [(.slice z1W z1C.length z1X),(.int .i64 z1f.1),(.int .i64 z1f.2.1),(.int .i64 z1f.2.2.1),(.int .i64 z1f.2.2.2),(.func (.func 37) #[] #[(.pointer (some z1L)),(.pointer (some z1M))]),(.slice z1Y z1D.length z1Z)],fz ([] ++ z6c)] [y1A [fz [],stb z3k 77 [(.slice none (([] : List z7).length) 0)],row (.slice none (([] : List z7).length) 0) 30 2 (([] : List z7).flatMap e30),stb z3b 98 [(.int .i64 0)],stb z3a 30 [(.int .i64 0),(.int .i64 0)],stb z35 79 [(.slice z1W z1C.length z1X),(.int .i64 zo.fR.fN),(.int .i64 zo.fR.fD),(.int .i64 zo.fLatency.fN),(.int .i64 zo.fLatency.fD),(.func (.func 37) #[] #[(.pointer (some z1L)),(.pointer (some z1M))]),(.slice z1Y z1D.length z1Z)],blk z4i (z4I .ready none)]] [dfr z7T,stb z6D 79 [(.slice z1W z1C.length z1X),(.int .i64 z1f.1),(.int .i64 z1f.2.1),(.int .i64 z1f.2.2.1),(.int .i64 z1f.2.2.2),(.func (.func 37) #[] #[(.pointer (some z1L)),(.pointer (some z1M))]),(.slice z1Y z1D.length z1Z)],fz ([] ++ z6c)]) (B:=[stb z6D 79 [(.slice z1W z1C.length z1X),(.int .i64 z1f.1),(.int .i64 z1f.2.1),(.int .i64 z1f.2.2.1),(.int .i64 z1f.2.2.2),(.func (.func 37) #[] #[(.pointer (some z1L)),(.pointer (some z1M))]),(.slice z1Y z1D.length z1Z)]]) (fun _ hx'=>((.cons .h1 .nil) : Sel _ [stb z6D 79 [(.slice z1W z1C.length z1X),(.int .i64 z1f.1),(.int .i64 z1f.2.1),(.int .i64 z1f.2.2.1),(.int .i64 z1f.2.2.2),(.func (.func 37) #[] #[(.pointer (some z1L)),(.pointer (some z1M))]),(.slice z1Y z1D.length z1Z)]] _).mem hx') (.head _) _).stb) zy1 (hw1.owns ((.cons .here .nil) : Sel [y1A [fz [],stb z3k 77 [(.slice none (([] : List z7).length) 0)],row (.slice none (([] : List z7).length) 0) 30 2 (([] : List z7).flatMap e30),stb z3b 98 [(.int .i64 0)],stb z3a 30 [(.int .i64 0),(.int .i64 0)],stb z35 79 [(.slice z1W z1C.length z1X),(.int .i64 zo.fR.fN),(.int .i64 zo.fR.fD),(.int .i64 zo.fLatency.fN),(.int .i64 zo.fLatency.fD),(.func (.func 37) #[] #[(.pointer (some z1L)),(.pointer (some z1M))]),(.slice z1Y z1D.length z1Z)],blk z4i (z4I .ready none)],dfr z7T,stb z6D 79 [(.slice z1W z1C.length z1X),(.int .i64 z1f.1),(.int .i64 z1f.2.1),(.int .i64 z1f.2.2.1),(.int .i64 z1f.2.2.2),(.func (.func 37) #[] #[(.pointer (some z1L)),(.pointer (some z1M))]),(.slice z1Y z1D.length z1Z)],fz ([] ++ z6c)] [y1A [fz [],stb z3k 77 [(.slice none (([] : List z7).length) 0)],row (.slice none (([] : List z7).length) 0) 30 2 (([] : List z7).flatMap e30),stb z3b 98 [(.int .i64 0)],stb z3a 30 [(.int .i64 0),(.int .i64 0)],stb z35 79 [(.slice z1W z1C.length z1X),(.int .i64 zo.fR.fN),(.int .i64 zo.fR.fD),(.int .i64 zo.fLatency.fN),(.int .i64 zo.fLatency.fD),(.func (.func 37) #[] #[(.pointer (some z1L)),(.pointer (some z1M))]),(.slice z1Y z1D.length z1Z)],blk z4i (z4I .ready none)]] [dfr z7T,stb z6D 79 [(.slice z1W z1C.length z1X),(.int .i64 z1f.1),(.int .i64 z1f.2.1),(.int .i64 z1f.2.2.1),(.int .i64 z1f.2.2.2),(.func (.func 37) #[] #[(.pointer (some z1L)),(.pointer (some z1M))]),(.slice z1Y z1D.length z1Z)],fz ([] ++ z6c)]))) ?_
   ·skip
    refine y7f (LI:=(fun (g : Option Addr × Nat) (s : Nat × List z7 × Int)=>[fz [],stb z3k 77 [(.slice g.1 s.2.1.length g.2)],row (.slice g.1 s.2.1.length g.2) 30 2 (s.2.1.flatMap e30),stb z3b 98 [(.int .i64 s.2.2)],stb z3a 30 [(.int .i64 0),(.int .i64 0)],stb z35 79 [(.slice z1W z1C.length z1X),(.int .i64 zo.fR.fN),(.int .i64 zo.fR.fD),(.int .i64 zo.fLatency.fN),(.int .i64 zo.fLatency.fD),(.func (.func 37) #[] #[(.pointer (some z1L)),(.pointer (some z1M))]),(.slice z1Y z1D.length z1Z)]])) (pc:=(fun (s : Nat × List z7 × Int)=>pcs [] s.1)) ziy zxZ zy0 (fun _ _=>rfl) (by decide) ?_
    rintro z3v _ ⟨z6E,z5t⟩ ⟨zy2,z2l,z9g⟩ zy3 zy4 Fb wb zr7 _ hz
    replace hz:=hz.left
    letI : Rnd:=inR z4i
    obtain ⟨hp0,z8e⟩:=yl zr7
    replace hp0 : zy2 = 0:=hp0; subst hp0; clear zr7
    replace z8e : yF z6X z6a z3v z2l z9g = some (zy3,zy4):=z8e
    unfold yF at z8e
    refine WC.restr (env':=[(1,(.pointer (some ⟨z35,0,none⟩))),(12,(.bool (decide (zeF ≠ 0)))),(5,(.pointer (some ⟨z3b,0,none⟩))),(6,(.pointer (some ⟨z3k,0,none⟩))),(17,(.agg #[(.int .i64 z3v.fN),(.int .i64 z3v.fD)]))]) (.cons rfl (.cons rfl (.cons rfl (.cons rfl (.cons rfl .nil))))) ?_
    refine WC.eqL (L':=[fz [],stb z3k 77 [(.slice z6E z2l.length z5t)],row (.slice z6E z2l.length z5t) 30 2 (z2l.flatMap e30),stb z3b 98 [(.int .i64 z9g)],stb z3a 30 [(.int .i64 0),(.int .i64 0)],stb z35 79 [(.slice z1W z1C.length z1X),(.int .i64 zo.fR.fN),(.int .i64 zo.fR.fD),(.int .i64 zo.fLatency.fN),(.int .i64 zo.fLatency.fD),(.func (.func 37) #[] #[(.pointer (some z1L)),(.pointer (some z1M))]),(.slice z1Y z1D.length z1Z)],blk z4i (z4I .ready none)]) rfl ?_
    refine WC.a ?_
    refine WL.new (dd:=7) rfl rfl rfl (ym (cs:=[(.int .i64 0),(.int .i64 0)]) yt rfl) ?_
    intro zaV _
    refine WL.yb rfl rfl (yc (vs:=[(.int .i64 z3v.fN),(.int .i64 z3v.fD)]) (ds:=[(.int .i64 z3v.fN),(.int .i64 z3v.fD)]) yo rfl rfl rfl rfl (y2 rfl (y2 rfl yk)) .here (Nat.le_of_ble_eq_true rfl) rfl) ?_
    refine WL.nil ?_
    refine WX.y7P ziy .h7 ?_
    refine WC.block ?_
    refine WC.b ?_
    obtain ⟨z3A,zy5,z8e⟩:=ze z8e
    refine WC.a ?_
    refine WL.a (d:=18) rfl rfl rfl (y3 y7A rfl rfl) ?_
    refine WL.a (d:=19) rfl rfl rfl (ya y9K rfl (yv .h7 rfl)) ?_
    refine WL.a (d:=20) rfl rfl rfl (y4 (cs:=[(.int .i64 z3v.fN),(.int .i64 z3v.fD)]) y5 rfl rfl (y8 .h1)) ?_
    refine WL.b (dd:=21) rfl rfl rfl (y2C (l:=[.tmp 5,.tmp 20]) Try.call37 rfl (.cons rfl (.cons rfl .nil))) ((.cons .h5 .nil) : Sel [blk z4i (z4I .busy none),stb zaV 30 [(.int .i64 z3v.fN),(.int .i64 z3v.fD)],fz [],stb z3k 77 [(.slice z6E z2l.length z5t)],row (.slice z6E z2l.length z5t) 30 2 (z2l.flatMap e30),stb z3b 98 [(.int .i64 z9g)],stb z3a 30 [(.int .i64 0),(.int .i64 0)],stb z35 79 [(.slice z1W z1C.length z1X),(.int .i64 zo.fR.fN),(.int .i64 zo.fR.fD),(.int .i64 zo.fLatency.fN),(.int .i64 zo.fLatency.fD),(.func (.func 37) #[] #[(.pointer (some z1L)),(.pointer (some z1M))]),(.slice z1Y z1D.length z1Z)]] [stb z3b 98 [(.int .i64 z9g)]] [blk z4i (z4I .busy none),stb zaV 30 [(.int .i64 z3v.fN),(.int .i64 z3v.fD)],fz [],stb z3k 77 [(.slice z6E z2l.length z5t)],row (.slice z6E z2l.length z5t) 30 2 (z2l.flatMap e30),stb z3a 30 [(.int .i64 0),(.int .i64 0)],stb z35 79 [(.slice z1W z1C.length z1X),(.int .i64 zo.fR.fN),(.int .i64 zo.fR.fD),(.int .i64 zo.fLatency.fN),(.int .i64 zo.fLatency.fD),(.func (.func 37) #[] #[(.pointer (some z1L)),(.pointer (some z1M))]),(.slice z1Y z1D.length z1Z)]]) (fun w hw=>by have pz:=(hz.call2 hw ((.cons .h5 .nil) : Sel [blk z4i (z4I .busy none),stb zaV 30 [(.int .i64 z3v.fN),(.int .i64 z3v.fD)],fz [],stb z3k 77 [(.slice z6E z2l.length z5t)],row (.slice z6E z2l.length z5t) 30 2 (z2l.flatMap e30),stb z3b 98 [(.int .i64 z9g)],stb z3a 30 [(.int .i64 0),(.int .i64 0)],stb z35 79 [(.slice z1W z1C.length z1X),(.int .i64 zo.fR.fN),(.int .i64 zo.fR.fD),(.int .i64 zo.fLatency.fN),(.int .i64 zo.fLatency.fD),(.func (.func 37) #[] #[(.pointer (some z1L)),(.pointer (some z1M))]),(.slice z1Y z1D.length z1Z)]] [stb z3b 98 [(.int .i64 z9g)]] [blk z4i (z4I .busy none),stb zaV 30 [(.int .i64 z3v.fN),(.int .i64 z3v.fD)],fz [],stb z3k 77 [(.slice z6E z2l.length z5t)],row (.slice z6E z2l.length z5t) 30 2 (z2l.flatMap e30),stb z3a 30 [(.int .i64 0),(.int .i64 0)],stb z35 79 [(.slice z1W z1C.length z1X),(.int .i64 zo.fR.fN),(.int .i64 zo.fR.fD),(.int .i64 zo.fLatency.fN),(.int .i64 zo.fLatency.fD),(.func (.func 37) #[] #[(.pointer (some z1L)),(.pointer (some z1M))]),(.slice z1Y z1D.length z1Z)]]) .h2); exact y70 (Z:=_) (z2A:=z3b) (zgu:=z1L) (zit:=zdg) (ziu:=zdh) (zgv:=z1M) (z7j:=(⟨z9g⟩ : z2h)) (zX:=z3v) (zdf:=z6X) (z69:=z6a) (r:=z3A) w pz ((ziv.mono ((Zle.left _ _).trans ((Zle.left _ _).trans ((Zle.yp _ _ _).trans (Zle.left _ _))))).weak (fun _ _ h=>yL ((Zle.left _ _).trans ((Zle.left _ _).trans ((Zle.yp _ _ _).trans (Zle.left _ _)))) h)) (ziw.mono ((Zle.left _ _).trans ((Zle.left _ _).trans ((Zle.yp _ _ _).trans (Zle.left _ _))))) (zix.mono ((Zle.left _ _).trans ((Zle.left _ _).trans ((Zle.yp _ _ _).trans (Zle.left _ _))))) zy5 (hw.owns ((.cons .h5 .nil) : Sel [blk z4i (z4I .busy none),stb zaV 30 [(.int .i64 z3v.fN),(.int .i64 z3v.fD)],fz [],stb z3k 77 [(.slice z6E z2l.length z5t)],row (.slice z6E z2l.length z5t) 30 2 (z2l.flatMap e30),stb z3b 98 [(.int .i64 z9g)],stb z3a 30 [(.int .i64 0),(.int .i64 0)],stb z35 79 [(.slice z1W z1C.length z1X),(.int .i64 zo.fR.fN),(.int .i64 zo.fR.fD),(.int .i64 zo.fLatency.fN),(.int .i64 zo.fLatency.fD),(.func (.func 37) #[] #[(.pointer (some z1L)),(.pointer (some z1M))]),(.slice z1Y z1D.length z1Z)]] [stb z3b 98 [(.int .i64 z9g)]] [blk z4i (z4I .busy none),stb zaV 30 [(.int .i64 z3v.fN),(.int .i64 z3v.fD)],fz [],stb z3k 77 [(.slice z6E z2l.length z5t)],row (.slice z6E z2l.length z5t) 30 2 (z2l.flatMap e30),stb z3a 30 [(.int .i64 0),(.int .i64 0)],stb z35 79 [(.slice z1W z1C.length z1X),(.int .i64 zo.fR.fN),(.int .i64 zo.fR.fD),(.int .i64 zo.fLatency.fN),(.int .i64 zo.fLatency.fD),(.func (.func 37) #[] #[(.pointer (some z1L)),(.pointer (some z1M))]),(.slice z1Y z1D.length z1Z)]]))) ?_
    refine WL.new (dd:=8) rfl rfl rfl (ym (cs:=[(.int .i64 0),(.int .i64 0)]) yt rfl) ?_
    intro zmU _
    refine WL.yb rfl rfl (yc (vs:=[(.int .i64 z3A.1.fN),(.int .i64 z3A.1.fD)]) (ds:=[(.int .i64 z3A.1.fN),(.int .i64 z3A.1.fD)]) yo rfl rfl rfl rfl (y2 rfl (y2 rfl yk)) .here (Nat.le_of_ble_eq_true rfl) rfl) ?_
    refine WL.nil ?_
    refine WX.a ?_
    refine WC.b ?_
    obtain ⟨zmP,zr8,z8e⟩:=ze z8e
    refine WC.yY (fun i=>[].contains i) [] rfl ?_
    refine WD.e (i:=0) (d:=22) (by kernel_rfl) rfl (z8 (by kernel_rfl)) (za (by kernel_rfl)) rfl rfl rfl (ya y3z rfl (yv .h5 rfl)) ?_
    refine WD.a (i:=1) (d:=23) (by kernel_rfl) rfl (z8 (by kernel_rfl)) (za (by kernel_rfl)) rfl rfl rfl (fun _=>y10 Try.underlying77 rfl) ?_
    refine WD.a (i:=2) (d:=24) (by kernel_rfl) rfl (z8 (by kernel_rfl)) (za (by kernel_rfl)) rfl rfl rfl (fun _=>y4C rfl rfl) ?_
    refine WD.a (i:=3) (d:=25) (by kernel_rfl) rfl (z8 (by kernel_rfl)) (za (by kernel_rfl)) rfl rfl rfl (fun _=>q_m rfl) ?_
    refine WD.mid (fuel':=0) [(1,(.pointer (some ⟨z35,0,none⟩))),(12,(.bool (decide (zeF ≠ 0)))),(5,(.pointer (some ⟨z3b,0,none⟩))),(6,(.pointer (some ⟨z3k,0,none⟩))),(17,(.agg #[(.int .i64 z3v.fN),(.int .i64 z3v.fD)])),(7,(.pointer (some ⟨zaV,0,none⟩))),(18,(.pointer (some ⟨z35,5,none⟩))),(19,(.func (.func 37) #[] #[(.pointer (some z1L)),(.pointer (some z1M))])),(20,(.agg #[(.int .i64 z3v.fN),(.int .i64 z3v.fD)])),(21,(.agg #[(.int .i64 z3A.1.fN),(.int .i64 z3A.1.fD)])),(8,(.pointer (some ⟨zmU,0,none⟩))),(22,(.slice z6E z2l.length z5t)),(23,(.int .i64 ((z2l.length : Nat) : Int))),(24,(.bool (decide (((z2l.length : Nat) : Int) = 0)))),(25,(.bool (decide (((z2l.length : Nat) : Int) = 0)))),(32,(.bool zmP))] (y1n 11 [10,9,8,7,6,5,4,3,2,1,0]) ?_ (fun zr9=>?_)
    rotate_left
    ·rcases Bool.eq_false_or_eq_true (decide (((z2l.length : Nat) : Int) = 0)) with hb' | hb'
     ·have zmV:=hb'; clear hb'
      have zmW:=yh zr8 zmV
      replace zmW:=Option.some.inj zmW
      refine WD.pin (i:=25) rfl zmV ?_
      refine WD.b (i:=4) (d:=26) (by kernel_rfl) rfl (z8 (by kernel_rfl)) (za (by kernel_rfl)) rfl rfl rfl ?_
      refine WD.b (i:=5) (d:=27) (by kernel_rfl) rfl (z8 (by kernel_rfl)) (za (by kernel_rfl)) rfl rfl rfl ?_
      refine WD.b (i:=6) (d:=28) (by kernel_rfl) rfl (z8 (by kernel_rfl)) (za (by kernel_rfl)) rfl rfl rfl ?_
      refine WD.b (i:=7) (d:=29) (by kernel_rfl) rfl (z8 (by kernel_rfl)) (za (by kernel_rfl)) rfl rfl rfl ?_
      refine WD.b (i:=8) (d:=30) (by kernel_rfl) rfl (z8 (by kernel_rfl)) (za (by kernel_rfl)) rfl rfl rfl ?_
      refine WD.b (i:=9) (d:=31) (by kernel_rfl) rfl (z8 (by kernel_rfl)) (za (by kernel_rfl)) rfl rfl rfl ?_
      refine WD.a (i:=10) (d:=32) (by kernel_rfl) rfl (z8 (by kernel_rfl)) (za (by kernel_rfl)) rfl rfl rfl (fun _=>ys rfl rfl) ?_
      refine WD.yC (.cons .here (.cons .here (.cons .here (.cons .here (.cons .here (.cons .here (.cons .here (.cons .here (.cons .here .nil))))))))) ?_ zr9
      exact (.cons rfl (.cons rfl (.cons rfl (.cons rfl (.cons rfl (.cons rfl (.cons rfl (.cons rfl (.cons rfl (.cons rfl (.cons rfl (.cons rfl (.cons rfl (.cons rfl (.cons (zr (Eq.symm zmV)) (.cons (zr zmW) .nil))))))))))))))))
     ·have zmX:=hb'; clear hb'
      have zdj:=yi zr8 zmX
      obtain ⟨zgz,zdj⟩:=yl zdj
      obtain ⟨zmO,zy6,zdj⟩:=ze zdj
      replace zdj:=Option.some.inj zdj
      refine WD.pin (i:=25) rfl zmX ?_
      refine WD.e (i:=4) (d:=26) (by kernel_rfl) rfl (z8 (by kernel_rfl)) (za (by kernel_rfl)) rfl rfl rfl (y4 (cs:=[(.int .i64 z3A.1.fN),(.int .i64 z3A.1.fD)]) y5 rfl rfl (y8 .here)) ?_
      refine WD.e (i:=5) (d:=27) (by kernel_rfl) rfl (z8 (by kernel_rfl)) (za (by kernel_rfl)) rfl rfl rfl (ya y3z rfl (yv .h5 rfl)) ?_
      refine WD.know (fun w hw=>Hp.y3j .h6 hw (by intro hz'; have:=zgz; rw [hz'] at this; omega)) ?_
      rintro ⟨ziz,rfl⟩
      refine WD.a (i:=6) (d:=28) (by kernel_rfl) rfl (z8 (by kernel_rfl)) (za (by kernel_rfl)) rfl rfl rfl (fun _=>y14 y1K rfl rfl zgz.1 zgz.2 y39) ?_
      refine WD.e (i:=7) (d:=29) (by kernel_rfl) rfl (z8 (by kernel_rfl)) (za (by kernel_rfl)) rfl rfl rfl (y4 (cs:=(e30 (nth z2l 0))) y5 rfl rfl (y36 .h6 (y2J (enc:=e30) (l:=z2l) (i:=0) (sz:=2) (fun _=>rfl) zgz.1 zgz.2))) ?_
      refine WD.c (i:=8) (d:=30) (by kernel_rfl) rfl (z8 (by kernel_rfl)) (za (by kernel_rfl)) rfl rfl rfl (zj (l:=[.tmp 26,.tmp 29]) Try.call18 (.cons rfl (.cons rfl .nil))) (fun w hw=>by have pz:=(hz.call2 hw (.nil : Sel [stb zmU 30 [(.int .i64 z3A.1.fN),(.int .i64 z3A.1.fD)],stb z3b 98 [(.int .i64 z3A.2.fE)],blk z4i (z4I .busy none),stb zaV 30 [(.int .i64 z3v.fN),(.int .i64 z3v.fD)],fz [],stb z3k 77 [(.slice (some ⟨ziz,0,none⟩) z2l.length z5t)],row (.slice (some ⟨ziz,0,none⟩) z2l.length z5t) 30 2 (z2l.flatMap e30),stb z3a 30 [(.int .i64 0),(.int .i64 0)],stb z35 79 [(.slice z1W z1C.length z1X),(.int .i64 zo.fR.fN),(.int .i64 zo.fR.fD),(.int .i64 zo.fLatency.fN),(.int .i64 zo.fLatency.fD),(.func (.func 37) #[] #[(.pointer (some z1L)),(.pointer (some z1M))]),(.slice z1Y z1D.length z1Z)]] [] [stb zmU 30 [(.int .i64 z3A.1.fN),(.int .i64 z3A.1.fD)],stb z3b 98 [(.int .i64 z3A.2.fE)],blk z4i (z4I .busy none),stb zaV 30 [(.int .i64 z3v.fN),(.int .i64 z3v.fD)],fz [],stb z3k 77 [(.slice (some ⟨ziz,0,none⟩) z2l.length z5t)],row (.slice (some ⟨ziz,0,none⟩) z2l.length z5t) 30 2 (z2l.flatMap e30),stb z3a 30 [(.int .i64 0),(.int .i64 0)],stb z35 79 [(.slice z1W z1C.length z1X),(.int .i64 zo.fR.fN),(.int .i64 zo.fR.fD),(.int .i64 zo.fLatency.fN),(.int .i64 zo.fLatency.fD),(.func (.func 37) #[] #[(.pointer (some z1L)),(.pointer (some z1M))]),(.slice z1Y z1D.length z1Z)]]) .h4); exact y26 (Z:=_)  (z29:=z3A.1) (z2a:=(⟨((nth z2l 0).fN),((nth z2l 0).fD)⟩ : z7)) (r:=zmO) w pz  zy6) ?_
      refine WD.a (i:=9) (d:=31) (by kernel_rfl) rfl (z8 (by kernel_rfl)) (za (by kernel_rfl)) rfl rfl rfl (fun _=>y2F rfl rfl) ?_
      refine WD.a (i:=10) (d:=32) (by kernel_rfl) rfl (z8 (by kernel_rfl)) (za (by kernel_rfl)) rfl rfl rfl (fun _=>yr rfl rfl) ?_
      refine WD.yC (.cons .here (.cons .here (.cons .here (.cons .here (.cons .here (.cons .here (.cons .here (.cons .here (.cons .here .nil))))))))) ?_ zr9
      exact (.cons rfl (.cons rfl (.cons rfl (.cons rfl (.cons rfl (.cons rfl (.cons rfl (.cons rfl (.cons rfl (.cons rfl (.cons rfl (.cons rfl (.cons rfl (.cons rfl (.cons (zr (Eq.symm zmX)) (.cons (zr zdj) .nil))))))))))))))))
    refine WD.done (by kernel_rfl) ?_
    refine WX.a ?_
    refine WC.cond rfl (fun zmY=>?_) (fun zmY=>?_)
    ·replace z8e:=yh z8e zmY
     refine WC.a ?_
     refine WL.a (d:=33) rfl rfl rfl (y4 (cs:=[(.int .i64 z3A.1.fN),(.int .i64 z3A.1.fD)]) y5 rfl rfl (y8 .here)) ?_
     refine WL.new (dd:=34) rfl rfl rfl (yB (cs:=([z3A.1] : List z7).flatMap e30) y1K (Eos.parts (l:=[.tmp 33]) (.cons rfl .nil) [0]) (fun _=>by kernel_rfl) rfl (by unfold maxLen; omega)) ?_
     intro zgA _
     refine WL.yb rfl rfl (yc (vs:=[(.slice (some ⟨zgA,0,none⟩) (([z3A.1] : List z7).length) 1)]) (ds:=[(.slice (some ⟨zgA,0,none⟩) (([z3A.1] : List z7).length) 1)]) y8h rfl rfl rfl rfl (y2 rfl yk) .h6 (Nat.le_of_ble_eq_true rfl) rfl) ?_
     refine WL.nil ?_
     refine WX.yg ?_
     obtain ⟨rfl,rfl⟩:=y6F z8e
     exact WX.y4j ziy .h4 (fun w' hw'=>⟨((some ⟨zgA,0,none⟩),1),rfl,trivial,(hw'.selAll ((.cons .h6 (.cons .h1 (.cons .h1 (.cons .h2 (.cons .h4 (.cons .h4 (.cons .here .nil))))))) : Sel _ [fz [],stb z3k 77 [(.slice (some ⟨zgA,0,none⟩) (([z3A.1] : List z7).length) 1)],row (.slice (some ⟨zgA,0,none⟩) (([z3A.1] : List z7).length) 1) 30 2 (([z3A.1] : List z7).flatMap e30),stb z3b 98 [(.int .i64 z3A.2.fE)],stb z3a 30 [(.int .i64 0),(.int .i64 0)],stb z35 79 [(.slice z1W z1C.length z1X),(.int .i64 zo.fR.fN),(.int .i64 zo.fR.fD),(.int .i64 zo.fLatency.fN),(.int .i64 zo.fLatency.fD),(.func (.func 37) #[] #[(.pointer (some z1L)),(.pointer (some z1M))]),(.slice z1Y z1D.length z1Z)],blk z4i (z4I .ready none)] _)).sub (.cons .here .nil)⟩)
    ·replace z8e:=yi z8e zmY
     refine WC.skip ?_
     refine WX.yg ?_
     obtain ⟨rfl,rfl⟩:=y6F z8e
     exact WX.y4j ziy .h2 (fun w' hw'=>⟨(z6E,z5t),rfl,trivial,(hw'.selAll ((.cons .h4 (.cons .h4 (.cons .h4 (.cons .h2 (.cons .h3 (.cons .h3 (.cons .here .nil))))))) : Sel _ [fz [],stb z3k 77 [(.slice z6E z2l.length z5t)],row (.slice z6E z2l.length z5t) 30 2 (z2l.flatMap e30),stb z3b 98 [(.int .i64 z3A.2.fE)],stb z3a 30 [(.int .i64 0),(.int .i64 0)],stb z35 79 [(.slice z1W z1C.length z1X),(.int .i64 zo.fR.fN),(.int .i64 zo.fR.fD),(.int .i64 zo.fLatency.fN),(.int .i64 zo.fLatency.fD),(.func (.func 37) #[] #[(.pointer (some z1L)),(.pointer (some z1M))]),(.slice z1Y z1D.length z1Z)],blk z4i (z4I .ready none)] _)).sub (.cons .here .nil)⟩)
   ·skip
    rintro _ w' ⟨zy7,⟨zgB,zgC⟩,rfl,_,hp⟩
    have hp1:=hw1.call ((.cons .here .nil) : Sel [y1A [fz [],stb z3k 77 [(.slice none (([] : List z7).length) 0)],row (.slice none (([] : List z7).length) 0) 30 2 (([] : List z7).flatMap e30),stb z3b 98 [(.int .i64 0)],stb z3a 30 [(.int .i64 0),(.int .i64 0)],stb z35 79 [(.slice z1W z1C.length z1X),(.int .i64 zo.fR.fN),(.int .i64 zo.fR.fD),(.int .i64 zo.fLatency.fN),(.int .i64 zo.fLatency.fD),(.func (.func 37) #[] #[(.pointer (some z1L)),(.pointer (some z1M))]),(.slice z1Y z1D.length z1Z)],blk z4i (z4I .ready none)],dfr z7T,stb z6D 79 [(.slice z1W z1C.length z1X),(.int .i64 z1f.1),(.int .i64 z1f.2.1),(.int .i64 z1f.2.2.1),(.int .i64 z1f.2.2.2),(.func (.func 37) #[] #[(.pointer (some z1L)),(.pointer (some z1M))]),(.slice z1Y z1D.length z1Z)],fz ([] ++ z6c)] [y1A [fz [],stb z3k 77 [(.slice none (([] : List z7).length) 0)],row (.slice none (([] : List z7).length) 0) 30 2 (([] : List z7).flatMap e30),stb z3b 98 [(.int .i64 0)],stb z3a 30 [(.int .i64 0),(.int .i64 0)],stb z35 79 [(.slice z1W z1C.length z1X),(.int .i64 zo.fR.fN),(.int .i64 zo.fR.fD),(.int .i64 zo.fLatency.fN),(.int .i64 zo.fLatency.fD),(.func (.func 37) #[] #[(.pointer (some z1L)),(.pointer (some z1M))]),(.slice z1Y z1D.length z1Z)],blk z4i (z4I .ready none)]] [dfr z7T,stb z6D 79 [(.slice z1W z1C.length z1X),(.int .i64 z1f.1),(.int .i64 z1f.2.1),(.int .i64 z1f.2.2.1),(.int .i64 z1f.2.2.2),(.func (.func 37) #[] #[(.pointer (some z1L)),(.pointer (some z1M))]),(.slice z1Y z1D.length z1Z)],fz ([] ++ z6c)]) hp
    have hp2 : Hp _ _ w' [fz [],stb z3k 77 [(.slice zgB z6b.2.1.length zgC)],row (.slice zgB z6b.2.1.length zgC) 30 2 (z6b.2.1.flatMap e30),stb z3b 98 [(.int .i64 z6b.2.2)],stb z3a 30 [(.int .i64 0),(.int .i64 0)],stb z35 79 [(.slice z1W z1C.length z1X),(.int .i64 zo.fR.fN),(.int .i64 zo.fR.fD),(.int .i64 zo.fLatency.fN),(.int .i64 zo.fLatency.fD),(.func (.func 37) #[] #[(.pointer (some z1L)),(.pointer (some z1M))]),(.slice z1Y z1D.length z1Z)],blk z4i (z4I (rdy (pcs [] z6b.1)) (pcs [] z6b.1)),fz zy7,dfr z7T,stb z6D 79 [(.slice z1W z1C.length z1X),(.int .i64 z1f.1),(.int .i64 z1f.2.1),(.int .i64 z1f.2.2.1),(.int .i64 z1f.2.2.2),(.func (.func 37) #[] #[(.pointer (some z1L)),(.pointer (some z1M))]),(.slice z1Y z1D.length z1Z)],fz ([] ++ z6c)]:=hp1.pickAll .h1
    refine ⟨_,pcs [] z6b.1,_,rfl,(hp2.sub ((.cons .h6 (.cons .here (.cons .here (.cons .here (.cons .here (.cons .here (.cons .here (.cons .h1 (.cons .h1 (.cons .h1 .nil)))))))))) : Sel _ [blk z4i (z4I (rdy (pcs [] z6b.1)) (pcs [] z6b.1)),fz [],stb z3k 77 [(.slice zgB z6b.2.1.length zgC)],row (.slice zgB z6b.2.1.length zgC) 30 2 (z6b.2.1.flatMap e30),stb z3b 98 [(.int .i64 z6b.2.2)],stb z3a 30 [(.int .i64 0),(.int .i64 0)],stb z35 79 [(.slice z1W z1C.length z1X),(.int .i64 zo.fR.fN),(.int .i64 zo.fR.fD),(.int .i64 zo.fLatency.fN),(.int .i64 zo.fLatency.fD),(.func (.func 37) #[] #[(.pointer (some z1L)),(.pointer (some z1M))]),(.slice z1Y z1D.length z1Z)],dfr z7T,stb z6D 79 [(.slice z1W z1C.length z1X),(.int .i64 z1f.1),(.int .i64 z1f.2.1),(.int .i64 z1f.2.2.1),(.int .i64 z1f.2.2.2),(.func (.func 37) #[] #[(.pointer (some z1L)),(.pointer (some z1M))]),(.slice z1Y z1D.length z1Z)],fz ([] ++ z6c)] _)),?_⟩
    clear hp hp1 hp2 pz hw hw1
    refine wjN ?_
    letI : Rnd:=aft z7T
    refine WX.merge .here .h7 ?_
    refine WX.yg ?_
    exact WX.midR (D:=fun (g : Nat × Int × List z7 × Zp × Option Addr × Nat)=>g.1) (G:=Nat × Int × List z7 × Zp × Option Addr × Nat) ⟨z7T,z6b.2.2,z6b.2.1,(([] ++ z6c) ++ []),zgB,zgC⟩ ⟨h,((Zle.left _ _).trans (Zle.yp _ _ _))⟩ (.cons rfl (.cons rfl (.cons rfl .nil))) (.cons .here (.cons .h3 (.cons .h2 (.cons .here (.cons .here (.cons .h1 .nil))))))
  ·rintro zgw z9L z6C zdi zgx zgy ⟨h,zCm⟩
   replace h:=(zxX z9L z6C).symm.trans h
   letI : Rnd:=aft zgw
   refine WC.b ?_
   refine WC.b ?_
   refine WC.a ?_
   refine WL.a (d:=35) rfl rfl rfl (y3 y3g rfl rfl) ?_
   refine WL.a (d:=36) rfl rfl rfl (ya y2K rfl (yv .h2 rfl)) ?_
   refine WL.a (d:=37) rfl rfl rfl (y2G rfl rfl) ?_
   refine WL.nil ?_
   refine WX.a ?_
   refine WC.cond rfl (fun zmZ=>?_) (fun zmZ=>?_)
   ·replace h:=yh h zmZ
    refine WC.b ?_
    refine WC.yY (fun i=>[3].contains i) [stbp z3b 98 [(0,(.int .i64 z9L))]] rfl ?_
    refine WD.a (i:=0) (d:=38) (by kernel_rfl) rfl (z8 (by kernel_rfl)) (za (by kernel_rfl)) rfl rfl rfl (fun _=>y1g (v:=(.agg #[(.int .i64 0),(.int .i64 0)])) (Eos.parts (l:=[]) .nil []) (fun _=>by kernel_rfl)) ?_
    refine WD.a (i:=1) (d:=39) (by kernel_rfl) rfl (z8 (by kernel_rfl)) (za (by kernel_rfl)) rfl rfl rfl (fun _=>y3 y3g rfl rfl) ?_
    refine WD.y2B (i:=2) (d:=40) (by kernel_rfl) rfl (z8 (by kernel_rfl)) (za (by kernel_rfl)) rfl rfl rfl (Sin.wk (.cons .h2 .nil) (.stb (.cons rfl .nil) .nil)) (ya y2K rfl (y7w .here (.head _))) ?_
    refine WD.forced0 (i:=3) rfl (by kernel_rfl) rfl rfl rfl (Sin.wk (.cons .h2 .nil) (.stb (.cons rfl .nil) .nil)) (yc (vs:=[(.int .i64 0),(.int .i64 0)]) (ds:=[(.int .i64 0),(.int .i64 0)]) yo rfl rfl rfl rfl (y2 rfl (y2 rfl yk)) .h1 (Nat.le_of_ble_eq_true rfl) rfl) ?_
    refine WD.a (i:=4) (d:=3) (by kernel_rfl) rfl (z8 (by kernel_rfl)) (za (by kernel_rfl)) rfl rfl rfl (fun _=>q_z rfl) ?_
    refine WD.done (by kernel_rfl) ?_
    refine WX.a ?_
    refine WC.ret ?_
    refine WX.y6 ?_
    obtain rfl:=Option.some.inj h
    refine WX.y4N .h5 Try.results36 (.agg rfl y5 rfl (y8 .h1) (.tmp rfl .nil)) (fun w hw=>?_)
    exact ⟨zdi,y1M rfl rfl,trivial,hw.sub (.cons .h2 .nil)⟩
   ·replace h:=yi h zmZ
    refine WC.skip ?_
    refine WX.a ?_
    refine WC.b ?_
    obtain ⟨zgD,h⟩:=yl h
    refine WC.a ?_
    refine WL.a (d:=41) rfl rfl rfl (ya y3z rfl (yv .h3 rfl)) ?_
    refine WL.know (fun w hw=>Hp.y3j .h4 hw (by intro hz'; have:=zgD; rw [hz'] at this; omega)) ?_
    rintro ⟨zCn,rfl⟩
    refine WL.a (d:=42) rfl rfl rfl (y14 y1K rfl rfl zgD.1 zgD.2 y39) ?_
    refine WL.a (d:=43) rfl rfl rfl (y4 (cs:=(e30 (nth z6C 0))) y5 rfl rfl (y36 .h4 (y2J (enc:=e30) (l:=z6C) (i:=0) (sz:=2) (fun _=>rfl) zgD.1 zgD.2))) ?_
    refine WL.yb rfl rfl (yc (vs:=[(.int .i64 ((nth z6C 0).fN)),(.int .i64 ((nth z6C 0).fD))]) (ds:=[(.int .i64 ((nth z6C 0).fN)),(.int .i64 ((nth z6C 0).fD))]) yo rfl rfl rfl rfl (y2 rfl (y2 rfl yk)) .h1 (Nat.le_of_ble_eq_true rfl) rfl) ?_
    refine WL.a (d:=3) rfl rfl rfl (q_z rfl) ?_
    refine WL.nil ?_
    refine WX.a ?_
    refine WC.ret ?_
    obtain rfl:=Option.some.inj h
    refine WX.y4N .h5 Try.results36 (.agg rfl y5 rfl (y8 .h1) (.tmp rfl .nil)) (fun w hw=>?_)
    exact ⟨zdi,y1M rfl rfl,trivial,hw.sub (.cons .h2 .nil)⟩
def y2s (z5u : List (List z6)) (zY : zSv) : Option (z7 × Int) :=
 (y2S z5u zY z5u zY ([zY.fLatency] : List z7)).bind fun zbZ=>some (zbZ.1,zbZ.2)
set_option maxRecDepth 20000 in
theorem y5p (Z : Zp)  (z6F : Option Addr) (z6G : Nat) (z5u : List (List z6)) (zY : zSv) (r : z7 × Int) (w₀ : World) (hz : PZ [] w₀ Z)
  (zra : ZS Z 1 (p39 Z) z6F z6G z5u)
  (h : y2s z5u zY = some r) :
  Calls Try.prog 16 #[(.slice z6F z5u.length z6G),(.agg #[(.int .i64 zY.fR.fN),(.int .i64 zY.fR.fD),(.int .i64 zY.fLatency.fN),(.int .i64 zY.fLatency.fD)])] w₀ fun e w'=>∃ Zn : Zp,e = .returned (.tuple #[(.agg #[(.int .i64 r.1.fN),(.int .i64 r.1.fD)]),(.int .i64 r.2)]) ∧ True ∧ Hp [] w₀ w' [fz Zn]:=by
 unfold y2s at h
 refine Calls.yd (vs:=[(.slice z6F z5u.length z6G),(.agg #[(.int .i64 zY.fR.fN),(.int .i64 zY.fR.fD),(.int .i64 zY.fLatency.fN),(.int .i64 zY.fLatency.fD)])]) (pre:=[]) (env:=[(0,(.slice z6F z5u.length z6G)),(1,(.agg #[(.int .i64 zY.fR.fN),(.int .i64 zY.fR.fD),(.int .i64 zY.fLatency.fN),(.int .i64 zY.fLatency.fD)]))]) Try.func16 rfl Try.ntmps16 rfl (Hp.nil w₀ _) rfl ?_
 refine WC.pool ?_
 refine WC.b ?_
 refine WC.a ?_
 refine WL.new (dd:=2) rfl rfl rfl (yI (cs:=[(.slice z6F z5u.length z6G)]) rfl rfl) ?_
 intro zc0 _
 refine WL.new (dd:=3) rfl rfl rfl (yI (cs:=[(.int .i64 zY.fR.fN),(.int .i64 zY.fR.fD),(.int .i64 zY.fLatency.fN),(.int .i64 zY.fLatency.fD)]) rfl rfl) ?_
 intro zc1 _
 refine WL.new (dd:=4) rfl rfl rfl (ym (cs:=[(.int .i64 0),(.int .i64 0)]) yt rfl) ?_
 intro ziA _
 refine WL.a (d:=5) rfl rfl rfl (q_z rfl) ?_
 refine WL.nil ?_
 refine WX.a ?_
 refine WC.b ?_
 refine WC.a ?_
 refine WL.a (d:=7) rfl rfl rfl (ya y3f rfl (yv .h2 rfl)) ?_
 refine WL.a (d:=8) rfl rfl rfl (y4 (cs:=[(.int .i64 zY.fR.fN),(.int .i64 zY.fR.fD),(.int .i64 zY.fLatency.fN),(.int .i64 zY.fLatency.fD)]) y4k rfl rfl (y8 .h1)) ?_
 refine WL.a (d:=9) rfl rfl rfl (y3 y5T rfl rfl) ?_
 refine WL.a (d:=10) rfl rfl rfl (y4 (cs:=[(.int .i64 zY.fLatency.fN),(.int .i64 zY.fLatency.fD)]) y5 rfl rfl (y1U (s:=2) .h1 rfl)) ?_
 refine WL.new (dd:=11) rfl rfl rfl (yB (cs:=([zY.fLatency] : List z7).flatMap e30) y1K (Eos.parts (l:=[.tmp 10]) (.cons rfl .nil) [0]) (fun _=>by kernel_rfl) rfl (by unfold maxLen; omega)) ?_
 intro z9M _
 refine WL.a (d:=12) rfl rfl rfl (y1g (v:=(.agg #[(.slice z6F z5u.length z6G),(.int .i64 zY.fR.fN),(.int .i64 zY.fR.fD),(.int .i64 zY.fLatency.fN),(.int .i64 zY.fLatency.fD),.nilFunc,(.slice (some ⟨z9M,0,none⟩) (([zY.fLatency] : List z7).length) 1)])) (Eos.parts (l:=[.tmp 7,.tmp 8,.tmp 11]) (.cons rfl (.cons rfl (.cons rfl .nil))) [0,1,3]) (fun _=>by kernel_rfl)) ?_
 refine WL.new (dd:=6) rfl rfl rfl (ym (cs:=[(.slice none 0 0),(.int .i64 0),(.int .i64 0),(.int .i64 0),(.int .i64 0),.nilFunc,(.slice none 0 0)]) y92 rfl) ?_
 intro ziB _
 refine WL.yb rfl rfl (yc (vs:=[(.slice z6F z5u.length z6G),(.int .i64 zY.fR.fN),(.int .i64 zY.fR.fD),(.int .i64 zY.fLatency.fN),(.int .i64 zY.fLatency.fD),.nilFunc,(.slice (some ⟨z9M,0,none⟩) (([zY.fLatency] : List z7).length) 1)]) (ds:=[(.slice z6F z5u.length z6G),(.int .i64 zY.fR.fN),(.int .i64 zY.fR.fD),(.int .i64 zY.fLatency.fN),(.int .i64 zY.fLatency.fD),.nilFunc,(.slice (some ⟨z9M,0,none⟩) (([zY.fLatency] : List z7).length) 1)]) y9H rfl rfl rfl rfl (y2 rfl (y2 rfl (y2 rfl (y2 rfl (y2 rfl (y2 rfl (y2 rfl yk))))))) .here (Nat.le_of_ble_eq_true rfl) rfl) ?_
 refine WL.nil ?_
 refine WX.a ?_
 refine WC.b ?_
 refine WC.a ?_
 refine WL.a (d:=13) rfl rfl rfl (y1d (Eos.caps (l:=[.tmp 2,.tmp 3]) (.cons rfl (.cons rfl .nil)))) ?_
 refine WL.a (d:=14) rfl rfl rfl (y3 y7A rfl rfl) ?_
 refine WL.yb rfl rfl (yc (vs:=[(.func (.func 37) #[] #[(.pointer (some ⟨zc0,0,none⟩)),(.pointer (some ⟨zc1,0,none⟩))])]) (ds:=[(.slice z6F z5u.length z6G),(.int .i64 zY.fR.fN),(.int .i64 zY.fR.fD),(.int .i64 zY.fLatency.fN),(.int .i64 zY.fLatency.fD),(.func (.func 37) #[] #[(.pointer (some ⟨zc0,0,none⟩)),(.pointer (some ⟨zc1,0,none⟩))]),(.slice (some ⟨z9M,0,none⟩) (([zY.fLatency] : List z7).length) 1)]) y9I rfl rfl rfl rfl (y2 rfl yk) .here (Nat.le_of_ble_eq_true rfl) rfl) ?_
 refine WL.nil ?_
 refine WX.a ?_
 refine WC.b ?_
 obtain ⟨zbZ,zy8,h⟩:=ze h
 refine WC.a ?_
 refine WL.a (d:=15) rfl rfl rfl (y4 (cs:=[(.slice z6F z5u.length z6G),(.int .i64 zY.fR.fN),(.int .i64 zY.fR.fD),(.int .i64 zY.fLatency.fN),(.int .i64 zY.fLatency.fD),(.func (.func 37) #[] #[(.pointer (some ⟨zc0,0,none⟩)),(.pointer (some ⟨zc1,0,none⟩))]),(.slice (some ⟨z9M,0,none⟩) (([zY.fLatency] : List z7).length) 1)]) y5R rfl rfl (y8 .here)) ?_
 refine WL.freezeC (Z:=Z) .h4 .h4 ?_
 intro zCo ziC zy9
 refine WL.freezeC (Z:=Z) .h4 .here ?_
 intro zCp zgE zya
 refine WL.freezeS (ls:=([zY.fLatency] : List z7)) .h2 .here hz (RR.flat (enc:=e30) (fun _=>rfl) _) ?_
 intro zgF zeG zyb
 refine WL.y2D (dd:=16) rfl rfl rfl (zj (l:=[.tmp 15]) Try.call36 (.cons rfl .nil)) (.nil : Sel [fz zgF,stb ziB 79 [(.slice z6F z5u.length z6G),(.int .i64 zY.fR.fN),(.int .i64 zY.fR.fD),(.int .i64 zY.fLatency.fN),(.int .i64 zY.fLatency.fD),(.func (.func 37) #[] #[(.pointer (some ⟨zc0,0,none⟩)),(.pointer (some ⟨zc1,0,none⟩))]),(.slice (some ⟨z9M,0,none⟩) (([zY.fLatency] : List z7).length) 1)],stb ziA 30 [(.int .i64 0),(.int .i64 0)]] [] [fz zgF,stb ziB 79 [(.slice z6F z5u.length z6G),(.int .i64 zY.fR.fN),(.int .i64 zY.fR.fD),(.int .i64 zY.fLatency.fN),(.int .i64 zY.fLatency.fD),(.func (.func 37) #[] #[(.pointer (some ⟨zc0,0,none⟩)),(.pointer (some ⟨zc1,0,none⟩))]),(.slice (some ⟨z9M,0,none⟩) (([zY.fLatency] : List z7).length) 1)],stb ziA 30 [(.int .i64 0),(.int .i64 0)]]) (fun w hw=>by have pz:=(hz.call2 hw (.nil : Sel [fz zgF,stb ziB 79 [(.slice z6F z5u.length z6G),(.int .i64 zY.fR.fN),(.int .i64 zY.fR.fD),(.int .i64 zY.fLatency.fN),(.int .i64 zY.fLatency.fD),(.func (.func 37) #[] #[(.pointer (some ⟨zc0,0,none⟩)),(.pointer (some ⟨zc1,0,none⟩))]),(.slice (some ⟨z9M,0,none⟩) (([zY.fLatency] : List z7).length) 1)],stb ziA 30 [(.int .i64 0),(.int .i64 0)]] [] [fz zgF,stb ziB 79 [(.slice z6F z5u.length z6G),(.int .i64 zY.fR.fN),(.int .i64 zY.fR.fD),(.int .i64 zY.fLatency.fN),(.int .i64 zY.fLatency.fD),(.func (.func 37) #[] #[(.pointer (some ⟨zc0,0,none⟩)),(.pointer (some ⟨zc1,0,none⟩))]),(.slice (some ⟨z9M,0,none⟩) (([zY.fLatency] : List z7).length) 1)],stb ziA 30 [(.int .i64 0),(.int .i64 0)]]) .here); exact y6w (Z:=_) (z1W:=z6F) (z1X:=z6G) (z1L:=⟨zc0,0,none⟩) (zdg:=z6F) (zdh:=z6G) (z1M:=⟨zc1,0,none⟩) (z1Y:=(some ⟨z9M,0,none⟩)) (z1Z:=1) (z1C:=z5u) (zo:=zY) (z6X:=z5u) (z6a:=zY) (z1D:=([zY.fLatency] : List z7)) (r:=zbZ) w pz ((zra.mono ((Zle.left _ _).trans (ziC.trans (zgE.trans zeG)))).weak (fun _ _ h=>yL ((Zle.left _ _).trans (ziC.trans (zgE.trans zeG))) h)) ((zra.mono ((Zle.left _ _).trans (ziC.trans (zgE.trans zeG)))).weak (fun _ _ h=>yL ((Zle.left _ _).trans (ziC.trans (zgE.trans zeG))) h)) (zy9.mono (zgE.trans zeG)) (zya.mono zeG) zyb zy8) ?_
 rintro zyc _
 refine WL.merge .here .here ?_
 refine WL.a (d:=17) rfl rfl rfl (yf rfl rfl) ?_
 refine WL.a (d:=18) rfl rfl rfl (yf rfl rfl) ?_
 refine WL.yb rfl rfl (yc (vs:=[(.int .i64 zbZ.1.fN),(.int .i64 zbZ.1.fD)]) (ds:=[(.int .i64 zbZ.1.fN),(.int .i64 zbZ.1.fD)]) yo rfl rfl rfl rfl (y2 rfl (y2 rfl yk)) .h2 (Nat.le_of_ble_eq_true rfl) rfl) ?_
 refine WL.a (d:=5) rfl rfl rfl (q_z rfl) ?_
 refine WL.nil ?_
 refine WX.a ?_
 refine WC.ret ?_
 obtain rfl:=Option.some.inj h
 refine WX.y7 Try.results16 (.agg rfl y5 rfl (y8 .here) (.tmp rfl .nil)) (fun w hw=>?_)
 exact ⟨(zgF ++ zyc),y1M rfl rfl,trivial,hw.sub (.cons .h1 .nil)⟩
def y1H (zO : List zSt) (z19 : Int) (z3B : List z6) (zaW : Bool → Option (Bool × Int)) : Nat → Bool → Int → Int → Option (Bool × Int)
 | 0,_,_,_=>none
 | zn0 + 1,z7U,z7w,z26=>if decide (z26 < (((zO.drop (z19 : Int).toNat).length : Nat) : Int)) then chk ((0 : Int) ≤ z26 ∧ z26 < (((zO.drop (z19 : Int).toNat).length : Nat) : Int)) (chk ((0 : Int) ≤ z19 ∧ z19 < ((zO.length : Nat) : Int)) ((y35 z3B (⟨i64 (((nth (zO.drop (z19 : Int).toNat) z26).fTime) - ((nth zO z19).fTime)),1⟩ : z7)).bind fun z5v=>if decide (z5v.2 ≠ 0) then some (false,z5v.2) else (if z7U then (yV (⟨i64 (z7w + ((nth (zO.drop (z19 : Int).toNat) z26).fSize)),1⟩ : z7) z5v.1).bind fun zgG=>some (decide (zgG ≤ 0)) else some false).bind fun ziD=>y1H zO z19 z3B zaW zn0 ziD (i64 (z7w + ((nth (zO.drop (z19 : Int).toNat) z26).fSize))) (i64 (z26 + 1)))) else zaW z7U
theorem y5q {n : Nat} {zO : List zSt} {z19 : Int} {z3B : List z6} {zaW : Bool → Option (Bool × Int)} {z7U : Bool} {z7w : Int} {z26 : Int} {r : Bool × Int} (h : y1H zO z19 z3B zaW n z7U z7w z26 = some r) : ∃ m,n = m + 1:=by
 cases n with
 | zero=>cases h
 | succ m=>exact ⟨m,rfl⟩
def y1I (zO : List zSt) (z3B : List z6) (zaX : Bool → Option (Bool × Int)) : Nat → Bool → Int → Option (Bool × Int)
 | 0,_,_=>none
 | zn1 + 1,z8f,z19=>if decide (z19 < ((zO.length : Nat) : Int)) then jp1 (fun (zaY : Bool)=>y1I zO z3B zaX zn1 zaY (i64 (z19 + 1))) fun zn2=>chk ((0 : Int) ≤ z19 ∧ (z19 : Int) ≤ (zO.length : Int) ∧ (zO.length : Int) ≤ ((zO.length : Nat) : Int)) (jp1 (fun (zaZ : Bool)=>zn2 zaZ) fun zaW=>y1H zO z19 z3B zaW yu z8f 0 0) else zaX z8f
theorem y5r {n : Nat} {zO : List zSt} {z3B : List z6} {zaX : Bool → Option (Bool × Int)} {z8f : Bool} {z19 : Int} {r : Bool × Int} (h : y1I zO z3B zaX n z8f z19 = some r) : ∃ m,n = m + 1:=by
 cases n with
 | zero=>cases h
 | succ m=>exact ⟨m,rfl⟩
def y13 (z3B : List z6) (zO : List zSt) : Option (Bool × Int) :=
 (y2n z3B).bind fun ziE=>(if !ziE then some true else (y2h zO).bind fun zn3=>some (!zn3)).bind fun zn4=>if zn4 then some (false,2) else jp1 (fun (zc2 : Bool)=>some (zc2,0)) fun zaX=>y1I zO z3B zaX yu true 0
set_option maxRecDepth 20000 in
theorem y43 (Z : Zp)  (z7x : Option Addr) (z7y : Nat) (z7V : Option Addr) (z7W : Nat) (z3B : List z6) (zO : List zSt) (r : Bool × Int) (w₀ : World) (hz : PZ [] w₀ Z)
  (zrb : ZS Z 4 (fun r x=>r = e35 x) z7x z7y z3B)
  (zn5 : ZS Z 3 (fun r x=>r = e51 x) z7V z7W zO)
  (h : y13 z3B zO = some r) :
  Calls Try.prog 12 #[(.slice z7x z3B.length z7y),(.slice z7V zO.length z7W)] w₀ fun e w'=>e = .returned (.tuple #[(.bool r.1),(.int .i64 r.2)]) ∧ Hp [] w₀ w' []:=by
 unfold y13 at h
 refine Calls.yd (vs:=[(.slice z7x z3B.length z7y),(.slice z7V zO.length z7W)]) (pre:=[]) (env:=[(0,(.slice z7x z3B.length z7y)),(1,(.slice z7V zO.length z7W))]) Try.func12 rfl Try.ntmps12 rfl (Hp.nil w₀ _) rfl ?_
 refine WC.b ?_
 refine WC.a ?_
 refine WL.a (d:=4) rfl rfl rfl (q_z rfl) ?_
 refine WL.a (d:=5) rfl rfl rfl (q_z rfl) ?_
 refine WL.nil ?_
 refine WX.a ?_
 refine WC.b ?_
 refine WC.b ?_
 obtain ⟨ziE,zyd,h⟩:=ze h
 obtain ⟨zn4,zrc,h⟩:=ze h
 refine WC.a ?_
 refine WL.a (d:=13) rfl rfl rfl (q_m rfl) ?_
 refine WL.b (dd:=14) rfl rfl rfl (zj (l:=[.tmp 13]) Try.call30 (.cons rfl .nil)) (.nil : Sel [] [] []) (fun w hw=>by have pz:=(hz.call hw (.nil : Sel [] [] [])); exact y3S (Z:=_) (z8U:=z7x) (z8V:=z7y) (z5B:=z3B) (r:=ziE) w pz zrb zyd) ?_
 refine WL.a (d:=15) rfl rfl rfl (y1m rfl) ?_
 refine WL.a (d:=16) rfl rfl rfl (q_m rfl) ?_
 refine WL.yN True [(0,(.slice z7x z3B.length z7y)),(1,(.slice z7V zO.length z7W)),(20,(.bool zn4))] [] 4 ?_ (fun _=>?_)
 ·rcases Bool.eq_false_or_eq_true (!ziE) with hb' | hb'
  ·have zrd:=hb'; clear hb'
   have zn6:=yh zrc zrd
   replace zn6:=Option.some.inj zn6
   refine WL.pin (i:=16) rfl zrd ?_
   refine WL.e rfl rfl rfl ?_
   refine WL.e rfl rfl rfl ?_
   refine WL.e rfl rfl rfl ?_
   refine WL.a (d:=20) rfl rfl rfl (ys rfl rfl) ?_
   exact WL.y9 () trivial (.cons rfl (.cons rfl (.cons (zr zn6) .nil))) .nil
  ·have zre:=hb'; clear hb'
   have zgH:=yi zrc zre
   obtain ⟨zn3,zye,zgH⟩:=ze zgH
   replace zgH:=Option.some.inj zgH
   refine WL.pin (i:=16) rfl zre ?_
   refine WL.a (d:=17) rfl rfl rfl (q_m rfl) ?_
   refine WL.b (dd:=18) rfl rfl rfl (zj (l:=[.tmp 17]) Try.call31 (.cons rfl .nil)) (.nil : Sel [] [] []) (fun w hw=>by have pz:=(hz.call hw (.nil : Sel [] [] [])); exact y5z (Z:=_) (z5T:=z7V) (z5U:=z7W) (zN:=zO) (r:=zn3) w pz zn5 zye) ?_
   refine WL.a (d:=19) rfl rfl rfl (y1m rfl) ?_
   refine WL.a (d:=20) rfl rfl rfl (yr rfl rfl) ?_
   exact WL.y9 () trivial (.cons rfl (.cons rfl (.cons (zr zgH) .nil))) .nil
 ·skip
  refine WL.nil ?_
  refine WX.a ?_
  refine WC.cond rfl (fun zn7=>?_) (fun zn7=>?_)
  ·replace h:=yh h zn7
   refine WC.b ?_
   refine WC.a ?_
   refine WL.a (d:=4) rfl rfl rfl (q_z rfl) ?_
   refine WL.a (d:=5) rfl rfl rfl (q_z rfl) ?_
   refine WL.nil ?_
   refine WX.a ?_
   refine WC.ret ?_
   refine WX.y6 ?_
   obtain rfl:=Option.some.inj h
   refine WX.y7 Try.results12 (.tmp rfl (.tmp rfl .nil)) (fun w hw=>?_)
   exact ⟨y1M rfl rfl,hw.sub .nil⟩
  ·replace h:=yi h zn7
   refine WC.skip ?_
   refine WX.a ?_
   refine WC.b ?_
   refine WC.a ?_
   refine WL.a (d:=6) rfl rfl rfl (q_z rfl) ?_
   refine WL.nil ?_
   refine WX.a ?_
   obtain ⟨zaX,zyf,h⟩:=y1h h
   refine WC.y34 (fun (zc2 : Bool)=>(zaX zc2 = some r)) (fun (zc2 : Bool)=>[(6,(.bool zc2))]) (fun (zc2 : Bool)=>[]) ?_ ?_
   ·skip
    refine WC.b ?_
    refine WC.a ?_
    refine WL.a (d:=21) rfl rfl rfl (q_m rfl) ?_
    refine WL.a (d:=22) rfl rfl rfl (y10 Try.underlying24 rfl) ?_
    refine WL.a (d:=23) rfl rfl rfl (q_m rfl) ?_
    refine WL.nil ?_
    refine WX.a ?_
    refine WC.block ?_
    refine WC.y7O (fun (zeH : Nat) (z8f : Bool) (z19 : Int)=>(y1I zO z3B zaX zeH z8f z19 = some r)) (fun (zeH : Nat) (z8f : Bool) (z19 : Int)=>[(0,(.slice z7x z3B.length z7y)),(1,(.slice z7V zO.length z7W)),(6,(.bool z8f)),(22,(.int .i64 ((zO.length : Nat) : Int))),(23,(.int .i64 z19))]) (fun (zeH : Nat) (z8f : Bool) (z19 : Int)=>[]) (fun (zeH : Nat) (z8f : Bool) (z19 : Int)=>zeH) ⟨yu,true,0⟩ h (.cons rfl (.cons rfl (.cons rfl (.cons rfl (.cons rfl .nil))))) .nil ?_
    rintro zeH z8f z19 h
    obtain ⟨zn1,rfl⟩:=y5r h
    rw [y1I] at h
    refine WC.b ?_
    refine WC.a ?_
    refine WL.a (d:=24) rfl rfl rfl (y1c rfl rfl) ?_
    refine WL.nil ?_
    refine WX.a ?_
    refine WC.b ?_
    refine WC.cond rfl (fun zn8=>?_) (fun zn8=>?_)
    ·replace h:=yh h zn8
     refine WC.skip ?_
     refine WX.a ?_
     obtain ⟨zn2,zyg,h⟩:=y1h h
     refine WC.y34 (fun (zaY : Bool)=>(zn2 zaY = some r)) (fun (zaY : Bool)=>[(0,(.slice z7x z3B.length z7y)),(1,(.slice z7V zO.length z7W)),(6,(.bool zaY)),(22,(.int .i64 ((zO.length : Nat) : Int))),(23,(.int .i64 z19))]) (fun (zaY : Bool)=>[]) ?_ ?_
     ·skip
      refine WC.block ?_
      refine WC.b ?_
      refine WC.a ?_
      refine WL.a (d:=25) rfl rfl rfl (q_m rfl) ?_
      refine WL.a (d:=7) rfl rfl rfl (q_z rfl) ?_
      refine WL.nil ?_
      refine WX.a ?_
      refine WC.b ?_
      refine WC.a ?_
      refine WL.a (d:=8) rfl rfl rfl (q_z rfl) ?_
      refine WL.nil ?_
      refine WX.a ?_
      refine WC.b ?_
      obtain ⟨zyh,h⟩:=yl h
      refine WC.a ?_
      refine WL.a (d:=26) rfl rfl rfl (q_m rfl) ?_
      refine WL.a (d:=27) rfl rfl rfl (q_m rfl) ?_
      refine WL.zsub (dd:=28) rfl rfl (Z:=Z) (Pr:=(fun r x=>r = e51 x)) y2l rfl zn5 (ixo rfl) ixn rfl rfl zyh (by rw [Int.toNat_natCast,List.take_length]) ?_
      rintro zrf zrg zyi
      refine WL.a (d:=29) rfl rfl rfl (y10 Try.underlying24 rfl) ?_
      refine WL.a (d:=30) rfl rfl rfl (q_m rfl) ?_
      refine WL.nil ?_
      refine WX.a ?_
      obtain ⟨zaW,zyj,h⟩:=y1h h
      refine WC.mid1 (fun (zaZ : Bool)=>(zaW zaZ = some r)) (fun (zaZ : Bool)=>[(0,(.slice z7x z3B.length z7y)),(1,(.slice z7V zO.length z7W)),(6,(.bool zaZ)),(22,(.int .i64 ((zO.length : Nat) : Int))),(23,(.int .i64 z19))]) (fun (zaZ : Bool)=>[]) ?_ ?_
      ·skip
       refine WC.block ?_
       refine WC.y49 (fun (zeI : Nat) (z7U : Bool) (z7w : Int) (z26 : Int)=>(y1H zO z19 z3B zaW zeI z7U z7w z26 = some r)) (fun (zeI : Nat) (z7U : Bool) (z7w : Int) (z26 : Int)=>[(0,(.slice z7x z3B.length z7y)),(1,(.slice z7V zO.length z7W)),(6,(.bool z7U)),(7,(.int .i64 z19)),(8,(.int .i64 z7w)),(22,(.int .i64 ((zO.length : Nat) : Int))),(23,(.int .i64 z19)),(28,(.slice zrf ((zO.drop (z19 : Int).toNat).length) zrg)),(29,(.int .i64 (((zO.drop (z19 : Int).toNat).length : Nat) : Int))),(30,(.int .i64 z26))]) (fun (zeI : Nat) (z7U : Bool) (z7w : Int) (z26 : Int)=>[]) (fun (zeI : Nat) (z7U : Bool) (z7w : Int) (z26 : Int)=>zeI) ⟨yu,z8f,0,0⟩ h (.cons rfl (.cons rfl (.cons rfl (.cons rfl (.cons rfl (.cons rfl (.cons rfl (.cons rfl (.cons rfl (.cons rfl .nil)))))))))) .nil ?_
       rintro zeI z7U z7w z26 h
       obtain ⟨zn0,rfl⟩:=y5q h
       rw [y1H] at h
       refine WC.b ?_
       refine WC.a ?_
       refine WL.a (d:=31) rfl rfl rfl (y1c rfl rfl) ?_
       refine WL.nil ?_
       refine WX.a ?_
       refine WC.b ?_
       refine WC.cond rfl (fun zn9=>?_) (fun zn9=>?_)
       ·replace h:=yh h zn9
        refine WC.skip ?_
        refine WX.a ?_
        refine WC.b ?_
        refine WC.block ?_
        refine WC.b ?_
        obtain ⟨zyk,h⟩:=yl h
        refine WC.a ?_
        refine WL.znth (dd:=32) rfl rfl (Z:=Z) (Pr:=(fun r x=>r = e51 x)) y2l rfl rfl zyi zyk ?_
        rintro zCq zCr zyl zCs rfl
        refine WL.a (d:=33) rfl rfl rfl (y4 (cs:=[(.int .i64 ((nth (zO.drop (z19 : Int).toNat) z26).fTime)),(.int .i64 ((nth (zO.drop (z19 : Int).toNat) z26).fVL)),(.int .i64 ((nth (zO.drop (z19 : Int).toNat) z26).fSize))]) y5Q rfl rfl (y2P hz.pv zyl)) ?_
        refine WL.new (dd:=10) rfl rfl rfl (ym (cs:=[(.int .i64 0),(.int .i64 0),(.int .i64 0)]) y6V rfl) ?_
        intro zdk _
        refine WL.yb rfl rfl (yc (vs:=[(.int .i64 ((nth (zO.drop (z19 : Int).toNat) z26).fTime)),(.int .i64 ((nth (zO.drop (z19 : Int).toNat) z26).fVL)),(.int .i64 ((nth (zO.drop (z19 : Int).toNat) z26).fSize))]) (ds:=[(.int .i64 ((nth (zO.drop (z19 : Int).toNat) z26).fTime)),(.int .i64 ((nth (zO.drop (z19 : Int).toNat) z26).fVL)),(.int .i64 ((nth (zO.drop (z19 : Int).toNat) z26).fSize))]) y7z rfl rfl rfl rfl (y2 rfl (y2 rfl (y2 rfl yk))) .here (Nat.le_of_ble_eq_true rfl) rfl) ?_
        refine WL.nil ?_
        refine WX.a ?_
        refine WC.b ?_
        refine WC.a ?_
        refine WL.a (d:=34) rfl rfl rfl (q_m rfl) ?_
        refine WL.a (d:=35) rfl rfl rfl (y3 y6G rfl rfl) ?_
        refine WL.a (d:=36) rfl rfl rfl (ya yw rfl (yv .here rfl)) ?_
        refine WL.a (d:=37) rfl rfl rfl (yW rfl rfl rfl) ?_
        refine WL.a (d:=8) rfl rfl rfl (q_z rfl) ?_
        refine WL.nil ?_
        refine WX.a ?_
        refine WC.b ?_
        obtain ⟨zym,h⟩:=yl h
        obtain ⟨z5v,zyn,h⟩:=ze h
        refine WC.yY (fun i=>[15].contains i) [] rfl ?_
        refine WD.a (i:=0) (d:=39) (by kernel_rfl) rfl (z8 (by kernel_rfl)) (za (by kernel_rfl)) rfl rfl rfl (fun _=>q_m rfl) ?_
        refine WD.a (i:=1) (d:=40) (by kernel_rfl) rfl (z8 (by kernel_rfl)) (za (by kernel_rfl)) rfl rfl rfl (fun _=>y3 y3y rfl rfl) ?_
        refine WD.e (i:=2) (d:=41) (by kernel_rfl) rfl (z8 (by kernel_rfl)) (za (by kernel_rfl)) rfl rfl rfl (ya yw rfl (yv .here rfl)) ?_
        refine WD.a (i:=3) (d:=42) (by kernel_rfl) rfl (z8 (by kernel_rfl)) (za (by kernel_rfl)) rfl rfl rfl (fun _=>q_m rfl) ?_
        refine WD.a (i:=4) (d:=43) (by kernel_rfl) rfl (z8 (by kernel_rfl)) (za (by kernel_rfl)) rfl rfl rfl (fun _=>q_m rfl) ?_
        refine WD.znth (j:=5) (dd:=44) (by kernel_rfl) rfl (z8 (by kernel_rfl)) (za (by kernel_rfl)) rfl rfl (Z:=Z) (Pr:=(fun r x=>r = e51 x)) y2l rfl rfl zn5 zym ?_
        rintro zCt zCu zyo zCv rfl
        refine WD.a (i:=6) (d:=45) (by kernel_rfl) rfl (z8 (by kernel_rfl)) (za (by kernel_rfl)) rfl rfl rfl (fun _=>y3 y3y rfl rfl) ?_
        refine WD.e (i:=7) (d:=46) (by kernel_rfl) rfl (z8 (by kernel_rfl)) (za (by kernel_rfl)) rfl rfl rfl (ya yw rfl (y1J hz.pv zyo rfl)) ?_
        refine WD.a (i:=8) (d:=47) (by kernel_rfl) rfl (z8 (by kernel_rfl)) (za (by kernel_rfl)) rfl rfl rfl (fun _=>y6Q rfl rfl rfl) ?_
        refine WD.a (i:=9) (d:=48) (by kernel_rfl) rfl (z8 (by kernel_rfl)) (za (by kernel_rfl)) rfl rfl rfl (fun _=>y1g (v:=(.agg #[(.int .i64 (i64 (((nth (zO.drop (z19 : Int).toNat) z26).fTime) - ((nth zO z19).fTime)))),(.int .i64 1)])) (Eos.parts (l:=[.tmp 47,.const (.int .i64 1)]) (.cons rfl (.cons rfl .nil)) [0,1]) (fun _=>by kernel_rfl)) ?_
        refine WD.c (i:=10) (d:=49) (by kernel_rfl) rfl (z8 (by kernel_rfl)) (za (by kernel_rfl)) rfl rfl rfl (zj (l:=[.tmp 39,.tmp 48]) Try.call22 (.cons rfl (.cons rfl .nil))) (fun w hw=>by have pz:=(hz.call hw (.nil : Sel [stb zdk 51 [(.int .i64 ((nth (zO.drop (z19 : Int).toNat) z26).fTime)),(.int .i64 ((nth (zO.drop (z19 : Int).toNat) z26).fVL)),(.int .i64 ((nth (zO.drop (z19 : Int).toNat) z26).fSize))]] [] [stb zdk 51 [(.int .i64 ((nth (zO.drop (z19 : Int).toNat) z26).fTime)),(.int .i64 ((nth (zO.drop (z19 : Int).toNat) z26).fVL)),(.int .i64 ((nth (zO.drop (z19 : Int).toNat) z26).fSize))]])); exact y85 (Z:=_) (zaI:=z7x) (zaJ:=z7y) (z1k:=z3B) (z20:=(⟨i64 (((nth (zO.drop (z19 : Int).toNat) z26).fTime) - ((nth zO z19).fTime)),1⟩ : z7)) (r:=z5v) w pz zrb zyn) ?_
        refine WD.a (i:=11) (d:=38) (by kernel_rfl) rfl (z8 (by kernel_rfl)) (za (by kernel_rfl)) rfl rfl rfl (fun _=>q_m rfl) ?_
        refine WD.a (i:=12) (d:=50) (by kernel_rfl) rfl (z8 (by kernel_rfl)) (za (by kernel_rfl)) rfl rfl rfl (fun _=>yf rfl rfl) ?_
        refine WD.a (i:=13) (d:=51) (by kernel_rfl) rfl (z8 (by kernel_rfl)) (za (by kernel_rfl)) rfl rfl rfl (fun _=>yf rfl rfl) ?_
        refine WD.new (i:=14) (dd:=11) rfl (by kernel_rfl) rfl rfl rfl (ym (cs:=[(.int .i64 0),(.int .i64 0)]) yt rfl) (fun h'=>absurd h' (by decide)) ?_
        intro zgI _
        refine WD.forced0 (i:=15) rfl (by kernel_rfl) rfl rfl rfl (Sin.of .nil) (yc (vs:=[(.int .i64 z5v.1.fN),(.int .i64 z5v.1.fD)]) (ds:=[(.int .i64 z5v.1.fN),(.int .i64 z5v.1.fD)]) yo rfl rfl rfl rfl (y2 rfl (y2 rfl yk)) .here (Nat.le_of_ble_eq_true rfl) rfl) ?_
        refine WD.a (i:=16) (d:=12) (by kernel_rfl) rfl (z8 (by kernel_rfl)) (za (by kernel_rfl)) rfl rfl rfl (fun _=>q_z rfl) ?_
        refine WD.done (by kernel_rfl) ?_
        refine WX.a ?_
        refine WC.b ?_
        refine WC.b ?_
        refine WC.a ?_
        refine WL.a (d:=52) rfl rfl rfl (q_m rfl) ?_
        refine WL.a (d:=53) rfl rfl rfl (y2G rfl rfl) ?_
        refine WL.nil ?_
        refine WX.a ?_
        refine WC.cond rfl (fun zna=>?_) (fun zna=>?_)
        ·replace h:=yh h zna
         refine WC.b ?_
         refine WC.a ?_
         refine WL.a (d:=54) rfl rfl rfl (q_m rfl) ?_
         refine WL.a (d:=4) rfl rfl rfl (q_z rfl) ?_
         refine WL.a (d:=5) rfl rfl rfl (q_z rfl) ?_
         refine WL.nil ?_
         refine WX.a ?_
         refine WC.ret ?_
         refine WX.y6 ?_
         refine WX.yq ?_
         refine WX.y6 ?_
         refine WX.y6 ?_
         refine WX.yq ?_
         refine WX.y6 ?_
         refine WX.yq ?_
         refine WX.y6 ?_
         refine WX.y6 ?_
         refine WX.yq ?_
         refine WX.y6 ?_
         obtain rfl:=Option.some.inj h
         refine WX.y7 Try.results12 (.tmp rfl (.tmp rfl .nil)) (fun w hw=>?_)
         exact ⟨y1M rfl rfl,hw.sub .nil⟩
        ·replace h:=yi h zna
         refine WC.skip ?_
         refine WX.a ?_
         obtain ⟨ziD,zrh,h⟩:=ze h
         refine WC.a ?_
         refine WL.a (d:=55) rfl rfl rfl (q_m rfl) ?_
         refine WL.a (d:=56) rfl rfl rfl (q_m rfl) ?_
         refine WL.yN True [(0,(.slice z7x z3B.length z7y)),(1,(.slice z7V zO.length z7W)),(6,(.bool z7U)),(7,(.int .i64 z19)),(8,(.int .i64 (i64 (z7w + ((nth (zO.drop (z19 : Int).toNat) z26).fSize))))),(22,(.int .i64 ((zO.length : Nat) : Int))),(23,(.int .i64 z19)),(28,(.slice zrf ((zO.drop (z19 : Int).toNat).length) zrg)),(29,(.int .i64 (((zO.drop (z19 : Int).toNat).length : Nat) : Int))),(30,(.int .i64 z26)),(62,(.bool ziD))] [stb zgI 30 [(.int .i64 z5v.1.fN),(.int .i64 z5v.1.fD)],stb zdk 51 [(.int .i64 ((nth (zO.drop (z19 : Int).toNat) z26).fTime)),(.int .i64 ((nth (zO.drop (z19 : Int).toNat) z26).fVL)),(.int .i64 ((nth (zO.drop (z19 : Int).toNat) z26).fSize))]] 6 ?_ (fun _=>?_)
         ·rcases Bool.eq_false_or_eq_true z7U with hb' | hb'
          ·have zri:=hb'; clear hb'
           have zgJ:=yh zrh zri
           obtain ⟨zgG,zyp,zgJ⟩:=ze zgJ
           replace zgJ:=Option.some.inj zgJ
           refine WL.pin (i:=56) rfl zri ?_
           refine WL.a (d:=57) rfl rfl rfl (q_m rfl) ?_
           refine WL.a (d:=58) rfl rfl rfl (y1g (v:=(.agg #[(.int .i64 (i64 (z7w + ((nth (zO.drop (z19 : Int).toNat) z26).fSize)))),(.int .i64 1)])) (Eos.parts (l:=[.tmp 57,.const (.int .i64 1)]) (.cons rfl (.cons rfl .nil)) [0,1]) (fun _=>by kernel_rfl)) ?_
           refine WL.a (d:=59) rfl rfl rfl (y4 (cs:=[(.int .i64 z5v.1.fN),(.int .i64 z5v.1.fD)]) y5 rfl rfl (y8 .here)) ?_
           refine WL.b (dd:=60) rfl rfl rfl (zj (l:=[.tmp 58,.tmp 59]) Try.call18 (.cons rfl (.cons rfl .nil))) (.nil : Sel [stb zgI 30 [(.int .i64 z5v.1.fN),(.int .i64 z5v.1.fD)],stb zdk 51 [(.int .i64 ((nth (zO.drop (z19 : Int).toNat) z26).fTime)),(.int .i64 ((nth (zO.drop (z19 : Int).toNat) z26).fVL)),(.int .i64 ((nth (zO.drop (z19 : Int).toNat) z26).fSize))]] [] [stb zgI 30 [(.int .i64 z5v.1.fN),(.int .i64 z5v.1.fD)],stb zdk 51 [(.int .i64 ((nth (zO.drop (z19 : Int).toNat) z26).fTime)),(.int .i64 ((nth (zO.drop (z19 : Int).toNat) z26).fVL)),(.int .i64 ((nth (zO.drop (z19 : Int).toNat) z26).fSize))]]) (fun w hw=>by have pz:=(hz.call hw (.nil : Sel [stb zgI 30 [(.int .i64 z5v.1.fN),(.int .i64 z5v.1.fD)],stb zdk 51 [(.int .i64 ((nth (zO.drop (z19 : Int).toNat) z26).fTime)),(.int .i64 ((nth (zO.drop (z19 : Int).toNat) z26).fVL)),(.int .i64 ((nth (zO.drop (z19 : Int).toNat) z26).fSize))]] [] [stb zgI 30 [(.int .i64 z5v.1.fN),(.int .i64 z5v.1.fD)],stb zdk 51 [(.int .i64 ((nth (zO.drop (z19 : Int).toNat) z26).fTime)),(.int .i64 ((nth (zO.drop (z19 : Int).toNat) z26).fVL)),(.int .i64 ((nth (zO.drop (z19 : Int).toNat) z26).fSize))]])); exact y26 (Z:=_)  (z29:=(⟨i64 (z7w + ((nth (zO.drop (z19 : Int).toNat) z26).fSize)),1⟩ : z7)) (z2a:=z5v.1) (r:=zgG) w pz  zyp) ?_
           refine WL.a (d:=61) rfl rfl rfl (y5A rfl rfl) ?_
           refine WL.a (d:=62) rfl rfl rfl (ys rfl rfl) ?_
           exact WL.y9 () trivial (.cons rfl (.cons rfl (.cons rfl (.cons rfl (.cons rfl (.cons rfl (.cons rfl (.cons rfl (.cons rfl (.cons rfl (.cons (zr zgJ) .nil))))))))))) (.cons .here (.cons .here .nil))
          ·have zrj:=hb'; clear hb'
           have znb:=yi zrh zrj
           replace znb:=Option.some.inj znb
           refine WL.pin (i:=56) rfl zrj ?_
           refine WL.e rfl rfl rfl ?_
           refine WL.e rfl rfl rfl ?_
           refine WL.e rfl rfl rfl ?_
           refine WL.e rfl rfl rfl ?_
           refine WL.e rfl rfl rfl ?_
           refine WL.a (d:=62) rfl rfl rfl (yr rfl rfl) ?_
           exact WL.y9 () trivial (.cons rfl (.cons rfl (.cons rfl (.cons rfl (.cons rfl (.cons rfl (.cons rfl (.cons rfl (.cons rfl (.cons rfl (.cons (zr znb) .nil))))))))))) (.cons .here (.cons .here .nil))
         ·skip
          refine WL.a (d:=6) rfl rfl rfl (q_z rfl) ?_
          refine WL.nil ?_
          refine WX.yg ?_
          refine WX.a ?_
          refine WC.a ?_
          refine WL.a (d:=63) rfl rfl rfl (yW rfl rfl rfl) ?_
          refine WL.a (d:=30) rfl rfl rfl (q_m rfl) ?_
          refine WL.nil ?_
          exact WX.round (G:=Nat × Bool × Int × Int) ⟨zn0,ziD,(i64 (z7w + ((nth (zO.drop (z19 : Int).toNat) z26).fSize))),(i64 (z26 + 1))⟩ h (Nat.lt_succ_self _) (.cons rfl (.cons rfl (.cons rfl (.cons rfl (.cons rfl (.cons rfl (.cons rfl (.cons rfl (.cons rfl (.cons rfl .nil)))))))))) .nil
       ·replace h:=yi h zn9
        refine WC.exit ?_
        refine WX.ye ?_
        refine WX.ye ?_
        refine WX.yx ?_
        exact WX.mid (G:=Bool) z7U h (.cons rfl (.cons rfl (.cons rfl (.cons rfl (.cons rfl .nil))))) .nil
      ·rintro zaZ h
       replace h:=(zyj zaZ).symm.trans h
       refine WX.yg ?_
       exact WX.mid (G:=Bool) zaZ h (.cons rfl (.cons rfl (.cons rfl (.cons rfl (.cons rfl .nil))))) .nil
     ·rintro zaY h
      replace h:=(zyg zaY).symm.trans h
      refine WC.a ?_
      refine WL.a (d:=64) rfl rfl rfl (yW rfl rfl rfl) ?_
      refine WL.a (d:=23) rfl rfl rfl (q_m rfl) ?_
      refine WL.nil ?_
      exact WX.round (G:=Nat × Bool × Int) ⟨zn1,zaY,(i64 (z19 + 1))⟩ h (Nat.lt_succ_self _) (.cons rfl (.cons rfl (.cons rfl (.cons rfl (.cons rfl .nil))))) .nil
    ·replace h:=yi h zn8
     refine WC.exit ?_
     refine WX.ye ?_
     refine WX.ye ?_
     refine WX.yx ?_
     exact WX.mid (G:=Bool) z8f h (.cons rfl .nil) .nil
   ·rintro zc2 h
    replace h:=(zyf zc2).symm.trans h
    refine WC.b ?_
    refine WC.a ?_
    refine WL.a (d:=65) rfl rfl rfl (q_m rfl) ?_
    refine WL.a (d:=4) rfl rfl rfl (q_z rfl) ?_
    refine WL.a (d:=5) rfl rfl rfl (q_z rfl) ?_
    refine WL.nil ?_
    refine WX.a ?_
    refine WC.ret ?_
    obtain rfl:=Option.some.inj h
    refine WX.y7 Try.results12 (.tmp rfl (.tmp rfl .nil)) (fun w hw=>?_)
    exact ⟨y1M rfl rfl,hw.sub .nil⟩
def y3o (z6d : List Int) (z6Y : List Int) (zb0 : Option Bool) : Nat → Int → Option Bool
 | 0,_=>none
 | znc + 1,z6H=>if decide (z6H < ((z6d.length : Nat) : Int)) then chk ((0 : Int) ≤ z6H ∧ z6H < ((z6d.length : Nat) : Int)) (chk ((0 : Int) ≤ z6H ∧ z6H < ((z6Y.length : Nat) : Int)) (if decide ((nth z6d z6H) ≠ (nth z6Y z6H)) then some false else y3o z6d z6Y zb0 znc (i64 (z6H + 1)))) else zb0
theorem y71 {n : Nat} {z6d : List Int} {z6Y : List Int} {zb0 : Option Bool} {z6H : Int} {r : Bool} (h : y3o z6d z6Y zb0 n z6H = some r) : ∃ m,n = m + 1:=by
 cases n with
 | zero=>cases h
 | succ m=>exact ⟨m,rfl⟩
def y6b (z6d : List Int) (z6Y : List Int) : Option Bool :=
 if decide (((z6d.length : Nat) : Int) ≠ ((z6Y.length : Nat) : Int)) then some false else jp0 (some true) fun zb0=>y3o z6d z6Y zb0 yu 0
set_option maxRecDepth 20000 in
theorem y95 (Z : Zp)  (zeJ : Option Addr) (zeK : Nat) (zeL : Option Addr) (zeM : Nat) (z6d : List Int) (z6Y : List Int) (r : Bool) (w₀ : World) (hz : PZ [] w₀ Z)
  (zyq : ZS Z 1 (fun r x=>r = e3 x) zeJ zeK z6d)
  (zyr : ZS Z 1 (fun r x=>r = e3 x) zeL zeM z6Y)
  (h : y6b z6d z6Y = some r) :
  Calls Try.prog 38 #[(.slice zeJ z6d.length zeK),(.slice zeL z6Y.length zeM)] w₀ fun e w'=>e = .returned (.bool r) ∧ Hp [] w₀ w' []:=by
 unfold y6b at h
 refine Calls.yd (vs:=[(.slice zeJ z6d.length zeK),(.slice zeL z6Y.length zeM)]) (pre:=[]) (env:=[(0,(.slice zeJ z6d.length zeK)),(1,(.slice zeL z6Y.length zeM))]) Try.func38 rfl Try.ntmps38 rfl (Hp.nil w₀ _) rfl ?_
 refine WC.b ?_
 refine WC.a ?_
 refine WL.a (d:=4) rfl rfl rfl (q_z rfl) ?_
 refine WL.nil ?_
 refine WX.a ?_
 refine WC.b ?_
 refine WC.b ?_
 refine WC.a ?_
 refine WL.a (d:=6) rfl rfl rfl (q_m rfl) ?_
 refine WL.a (d:=7) rfl rfl rfl (y10 Try.underlying45 rfl) ?_
 refine WL.a (d:=8) rfl rfl rfl (q_m rfl) ?_
 refine WL.a (d:=9) rfl rfl rfl (y10 Try.underlying45 rfl) ?_
 refine WL.a (d:=10) rfl rfl rfl (y2G rfl rfl) ?_
 refine WL.nil ?_
 refine WX.a ?_
 refine WC.cond rfl (fun znd=>?_) (fun znd=>?_)
 ·replace h:=yh h znd
  refine WC.b ?_
  refine WC.a ?_
  refine WL.a (d:=4) rfl rfl rfl (q_z rfl) ?_
  refine WL.nil ?_
  refine WX.a ?_
  refine WC.ret ?_
  refine WX.y6 ?_
  obtain rfl:=Option.some.inj h
  refine WX.y7 Try.results38 (.tmp rfl .nil) (fun w hw=>?_)
  exact ⟨yD rfl,hw.sub .nil⟩
 ·replace h:=yi h znd
  refine WC.skip ?_
  refine WX.a ?_
  obtain ⟨zb0,zys,h⟩:=y3I h
  refine WC.y4h ((zb0 = some r)) ([]) ([]) ?_ ?_
  ·skip
   refine WC.b ?_
   refine WC.a ?_
   refine WL.a (d:=11) rfl rfl rfl (q_m rfl) ?_
   refine WL.a (d:=12) rfl rfl rfl (y10 Try.underlying45 rfl) ?_
   refine WL.a (d:=13) rfl rfl rfl (q_m rfl) ?_
   refine WL.nil ?_
   refine WX.a ?_
   refine WC.block ?_
   refine WC.y60 (fun (zeN : Nat) (z6H : Int)=>(y3o z6d z6Y zb0 zeN z6H = some r)) (fun (zeN : Nat) (z6H : Int)=>[(0,(.slice zeJ z6d.length zeK)),(1,(.slice zeL z6Y.length zeM)),(12,(.int .i64 ((z6d.length : Nat) : Int))),(13,(.int .i64 z6H))]) (fun (zeN : Nat) (z6H : Int)=>[]) (fun (zeN : Nat) (z6H : Int)=>zeN) ⟨yu,0⟩ h (.cons rfl (.cons rfl (.cons rfl (.cons rfl .nil)))) .nil ?_
   rintro zeN z6H h
   obtain ⟨znc,rfl⟩:=y71 h
   rw [y3o] at h
   refine WC.b ?_
   refine WC.a ?_
   refine WL.a (d:=14) rfl rfl rfl (y1c rfl rfl) ?_
   refine WL.nil ?_
   refine WX.a ?_
   refine WC.b ?_
   refine WC.cond rfl (fun zne=>?_) (fun zne=>?_)
   ·replace h:=yh h zne
    refine WC.skip ?_
    refine WX.a ?_
    refine WC.b ?_
    refine WC.block ?_
    refine WC.b ?_
    refine WC.a ?_
    refine WL.a (d:=15) rfl rfl rfl (q_m rfl) ?_
    refine WL.a (d:=5) rfl rfl rfl (q_z rfl) ?_
    refine WL.nil ?_
    refine WX.a ?_
    refine WC.b ?_
    obtain ⟨zyt,h⟩:=yl h
    obtain ⟨zyu,h⟩:=yl h
    refine WC.yY (fun i=>[].contains i) [] rfl ?_
    refine WD.a (i:=0) (d:=16) (by kernel_rfl) rfl (z8 (by kernel_rfl)) (za (by kernel_rfl)) rfl rfl rfl (fun _=>q_m rfl) ?_
    refine WD.a (i:=1) (d:=17) (by kernel_rfl) rfl (z8 (by kernel_rfl)) (za (by kernel_rfl)) rfl rfl rfl (fun _=>q_m rfl) ?_
    refine WD.znth (j:=2) (dd:=18) (by kernel_rfl) rfl (z8 (by kernel_rfl)) (za (by kernel_rfl)) rfl rfl (Z:=Z) (Pr:=(fun r x=>r = e3 x)) y62 rfl rfl zyq zyt ?_
    rintro zCw zCx zyv zCy rfl
    refine WD.e (i:=3) (d:=19) (by kernel_rfl) rfl (z8 (by kernel_rfl)) (za (by kernel_rfl)) rfl rfl rfl (ya yw rfl (y4Z hz.pv zyv rfl)) ?_
    refine WD.a (i:=4) (d:=20) (by kernel_rfl) rfl (z8 (by kernel_rfl)) (za (by kernel_rfl)) rfl rfl rfl (fun _=>q_m rfl) ?_
    refine WD.a (i:=5) (d:=21) (by kernel_rfl) rfl (z8 (by kernel_rfl)) (za (by kernel_rfl)) rfl rfl rfl (fun _=>q_m rfl) ?_
    refine WD.znth (j:=6) (dd:=22) (by kernel_rfl) rfl (z8 (by kernel_rfl)) (za (by kernel_rfl)) rfl rfl (Z:=Z) (Pr:=(fun r x=>r = e3 x)) y62 rfl rfl zyr zyu ?_
    rintro zCz zCA zyw zCB rfl
    refine WD.e (i:=7) (d:=23) (by kernel_rfl) rfl (z8 (by kernel_rfl)) (za (by kernel_rfl)) rfl rfl rfl (ya yw rfl (y4Z hz.pv zyw rfl)) ?_
    refine WD.a (i:=8) (d:=24) (by kernel_rfl) rfl (z8 (by kernel_rfl)) (za (by kernel_rfl)) rfl rfl rfl (fun _=>y2G rfl rfl) ?_
    refine WD.done (by kernel_rfl) ?_
    refine WX.a ?_
    refine WC.cond rfl (fun znf=>?_) (fun znf=>?_)
    ·replace h:=yh h znf
     refine WC.b ?_
     refine WC.a ?_
     refine WL.a (d:=4) rfl rfl rfl (q_z rfl) ?_
     refine WL.nil ?_
     refine WX.a ?_
     refine WC.ret ?_
     refine WX.yq ?_
     refine WX.y6 ?_
     refine WX.y6 ?_
     refine WX.yq ?_
     refine WX.y6 ?_
     obtain rfl:=Option.some.inj h
     refine WX.y7 Try.results38 (.tmp rfl .nil) (fun w hw=>?_)
     exact ⟨yD rfl,hw.sub .nil⟩
    ·replace h:=yi h znf
     refine WC.skip ?_
     refine WX.yg ?_
     refine WX.a ?_
     refine WC.a ?_
     refine WL.a (d:=25) rfl rfl rfl (yW rfl rfl rfl) ?_
     refine WL.a (d:=13) rfl rfl rfl (q_m rfl) ?_
     refine WL.nil ?_
     exact WX.round (G:=Nat × Int) ⟨znc,(i64 (z6H + 1))⟩ h (Nat.lt_succ_self _) (.cons rfl (.cons rfl (.cons rfl (.cons rfl .nil)))) .nil
   ·replace h:=yi h zne
    refine WC.exit ?_
    refine WX.ye ?_
    refine WX.ye ?_
    refine WX.yx ?_
    exact WX.mid (G:=Unit) () h .nil .nil
  ·rintro  h
   replace h:=zys.symm.trans h
   refine WC.b ?_
   refine WC.a ?_
   refine WL.a (d:=4) rfl rfl rfl (q_z rfl) ?_
   refine WL.nil ?_
   refine WX.a ?_
   refine WC.ret ?_
   obtain rfl:=Option.some.inj h
   refine WX.y7 Try.results38 (.tmp rfl .nil) (fun w hw=>?_)
   exact ⟨yD rfl,hw.sub .nil⟩
end Go.Proofs.Ytakfmdiiehcbdaa
